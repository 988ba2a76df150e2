/- ExpandNames: in every world the function of the law answers true, by the walk of the parts before and the types of its row. -/
import Derived.Test.YtnjlkdhdinfejaaGreatZA7
import Derived.Test.YtnjlkdhdinfejaaGreatRows
import Derived.ProofKit
import Derived.OpenShut
import Derived.ShutString
import Derived.ChangeOld
import Derived.Below
import Derived.SizedLaws
import Derived.HandedShaped
set_option linter.unusedSimpArgs false
set_option linter.unusedVariables false
set_option maxHeartbeats 4000000
set_option maxRecDepth 100000
namespace Go.Proofs.YtnjlkdhdinfejaaGreat
open Go.GV Go.RowKit
theorem en_0:(outOk (Co 200 [⟨#[70,40,97,41,32,97,32,43,32,97]⟩,⟨#[79,32,70]⟩] ⟨#[70,40,49,41,32,79,32,40,50,41,32,70]⟩ 1000)&&comV (Co 200 [⟨#[70,40,97,41,32,97,32,43,32,97]⟩,⟨#[79,32,70]⟩] ⟨#[70,40,49,41,32,79,32,40,50,41,32,70]⟩ 1000) ⟨#[49,32,43,32,49,32,50,32,43,32,50,32,70]⟩)=true:=by kernel_rfl
theorem en_1:(outOk (Co 200 [⟨#[88,32,88,32,89]⟩,⟨#[89,32,88,32,49]⟩] ⟨#[88,32,89]⟩ 1000)&&comV (Co 200 [⟨#[88,32,88,32,89]⟩,⟨#[89,32,88,32,49]⟩] ⟨#[88,32,89]⟩ 1000) ⟨#[88,32,88,32,49,32,88,32,89,32,49]⟩)=true:=by kernel_rfl
theorem en_2:(outOk (Co 200 [⟨#[70,40,97,41,32,97,32,70]⟩] ⟨#[70,40,49,41,40,50,41,40,51,41]⟩ 1000)&&comV (Co 200 [⟨#[70,40,97,41,32,97,32,70]⟩] ⟨#[70,40,49,41,40,50,41,40,51,41]⟩ 1000) ⟨#[49,32,70,32,40,32,50,32,41,32,40,32,51,32,41]⟩)=true:=by kernel_rfl
theorem en_3:(outOk (Co 200 [⟨#[67,40,97,44,32,98,41,32,97,32,35,35,32,98]⟩] ⟨#[67,40,120,44,32,49,41,32,67,40,44,32,121,41,32,67,40,44,41,32,43]⟩ 1000)&&comV (Co 200 [⟨#[67,40,97,44,32,98,41,32,97,32,35,35,32,98]⟩] ⟨#[67,40,120,44,32,49,41,32,67,40,44,32,121,41,32,67,40,44,41,32,43]⟩ 1000) ⟨#[120,49,32,121,32,43]⟩)=true:=by kernel_rfl
theorem en_4:(outOk (Co 200 [⟨#[83,40,97,41,32,35,97]⟩] ⟨#[83,40,97,32,32,95,95,76,73,78,69,95,95,41]⟩ 1000)&&comV (Co 200 [⟨#[83,40,97,41,32,35,97]⟩] ⟨#[83,40,97,32,32,95,95,76,73,78,69,95,95,41]⟩ 1000) ⟨#[60,97,59,95,95,76,73,78,69,95,95,59,62]⟩)=true:=by kernel_rfl
theorem en_5:(outOk (Co 200 [⟨#[84,40,97,41,32,83,40,97,41]⟩,⟨#[83,40,97,41,32,35,97]⟩] ⟨#[84,40,95,95,76,73,78,69,95,95,41]⟩ 1000)&&failV (Co 200 [⟨#[84,40,97,41,32,83,40,97,41]⟩,⟨#[83,40,97,41,32,35,97]⟩] ⟨#[84,40,95,95,76,73,78,69,95,95,41]⟩ 1000) 62)=true:=by kernel_rfl
theorem en_6:(outOk (Co 200 [⟨#[80,40,97,41,32,97,32,35,35,32,49]⟩] ⟨#[80,40,43,41]⟩ 1000)&&failV (Co 200 [⟨#[80,40,97,41,32,97,32,35,35,32,49]⟩] ⟨#[80,40,43,41]⟩ 1000) 61)=true:=by kernel_rfl
theorem en_7:(outOk (Co 200 [⟨#[80,40,97,41,32,97,32,35,35,32,49]⟩] ⟨#[80,40,95,95,76,73,78,69,95,95,41]⟩ 1000)&&comV (Co 200 [⟨#[80,40,97,41,32,97,32,35,35,32,49]⟩] ⟨#[80,40,95,95,76,73,78,69,95,95,41]⟩ 1000) ⟨#[95,95,76,73,78,69,95,95,49]⟩)=true:=by kernel_rfl
theorem en_8:(outOk (Co 200 [⟨#[78,40,41,32,49]⟩,⟨#[86,40,97,44,32,46,46,46,41,32,95,95,86,65,95,65,82,71,83,95,95]⟩] ⟨#[78,40,41,32,86,40,49,44,32,50,44,32,51,41,32,86,40,49,44,41]⟩ 1000)&&comV (Co 200 [⟨#[78,40,41,32,49]⟩,⟨#[86,40,97,44,32,46,46,46,41,32,95,95,86,65,95,65,82,71,83,95,95]⟩] ⟨#[78,40,41,32,86,40,49,44,32,50,44,32,51,41,32,86,40,49,44,41]⟩ 1000) ⟨#[49,32,50,32,44,32,51]⟩)=true:=by kernel_rfl
theorem en_9:(outOk (Co 200 [⟨#[78,40,41,32,49]⟩] ⟨#[78,40,49,41]⟩ 1000)&&failV (Co 200 [⟨#[78,40,41,32,49]⟩] ⟨#[78,40,49,41]⟩ 1000) 60)=true:=by kernel_rfl
theorem en_10:(outOk (Co 200 [⟨#[86,40,97,44,32,46,46,46,41,32,97]⟩] ⟨#[86,40,49,41]⟩ 1000)&&failV (Co 200 [⟨#[86,40,97,44,32,46,46,46,41,32,97]⟩] ⟨#[86,40,49,41]⟩ 1000) 60)=true:=by kernel_rfl
theorem en_11:(outOk (Co 200 [⟨#[78,40,41,32,49]⟩] ⟨#[78,40]⟩ 1000)&&failV (Co 200 [⟨#[78,40,41,32,49]⟩] ⟨#[78,40]⟩ 1000) 60)=true:=by kernel_rfl
theorem en_12:(outOk (Co 200 [⟨#[78,40,41,32,49]⟩] ⟨#[78,32,95,95,76,73,78,69,95,95]⟩ 1000)&&comV (Co 200 [⟨#[78,40,41,32,49]⟩] ⟨#[78,32,95,95,76,73,78,69,95,95]⟩ 1000) ⟨#[78,32,95,95,76,73,78,69,95,95]⟩)=true:=by kernel_rfl
theorem en_13:(outOk (Co 200 [⟨#[81,40,97,44,98,41,32,97,32,35,35,32,98,32,35,35,32,99]⟩] ⟨#[81,40,44,41,32,81,40,120,44,41,32,81,40,120,32,121,44,122,32,119,41]⟩ 1000)&&comV (Co 200 [⟨#[81,40,97,44,98,41,32,97,32,35,35,32,98,32,35,35,32,99]⟩] ⟨#[81,40,44,41,32,81,40,120,44,41,32,81,40,120,32,121,44,122,32,119,41]⟩ 1000) ⟨#[99,32,120,99,32,120,32,121,122,32,119,99]⟩)=true:=by kernel_rfl
theorem en_14:(outOk (Co 200 [⟨#[102,40,97,41,32,97,42,103]⟩,⟨#[103,40,97,41,32,102,40,97,41]⟩] ⟨#[102,40,50,41,40,57,41]⟩ 1000)&&comV (Co 200 [⟨#[102,40,97,41,32,97,42,103]⟩,⟨#[103,40,97,41,32,102,40,97,41]⟩] ⟨#[102,40,50,41,40,57,41]⟩ 1000) ⟨#[50,32,42,32,57,32,42,32,103]⟩)=true:=by kernel_rfl
theorem en_15:(outOk (Co 200 [⟨#[67,40,97,44,32,98,41,32,97,32,35,35,32,98]⟩,⟨#[65,66,32,67,40,65,44]⟩] ⟨#[65,66,32,66,41,32,66,41]⟩ 1000)&&comV (Co 200 [⟨#[67,40,97,44,32,98,41,32,97,32,35,35,32,98]⟩,⟨#[65,66,32,67,40,65,44]⟩] ⟨#[65,66,32,66,41,32,66,41]⟩ 1000) ⟨#[67,32,40,32,65,32,44,32,66,32,41]⟩)=true:=by kernel_rfl
def expE:RX (List XT)→Option (Int×List Int×List Bool)
 |.stuck=>none
 |.err e=>some (e,[],[])
 |.ok _ _ out=>if cst out≤1000000 then some (0,(out.map (·.kind)).filter (fun k=>decide (10≤k)),out.map (·.space))else none
theorem en_e1:expE (Co 200 [⟨#[88,32,49,32,50]⟩] ⟨#[88]⟩ 2)=some (63,[],[]):=by kernel_rfl
theorem en_e2:expE (Co 200 [⟨#[88,32,49,32,50]⟩] ⟨#[88]⟩ 3)=some (0,[],[false,true]):=by kernel_rfl
theorem en_e3:chkX (defsL [⟨#[88,32,49]⟩,⟨#[88,32,50]⟩]) []=1:=by kernel_rfl
theorem en_e6:expE (Co 200 [] ⟨#[95,95,76,73,78,69,95,95]⟩ 0)=some (0,[10],[false]):=by kernel_rfl
theorem en_e7:expE (Co 200 [⟨#[70,40,97,41,32,120,32,97]⟩] ⟨#[70,40,49,41,32,70,40,32,50,32,51,41]⟩ 100)=some (0,[],[false,true,true,true,true]):=by kernel_rfl
theorem defsC_any (LS:List ByteArray) (w:World) (A0:Option Addr) (c0:Nat) (hL:Aw (im w) (.slice A0 LS.length c0) (Bh.d LS)) (hz:LS.length≤1000) (hs:(LS.all fun s=>decide (s.size≤1000000))=true) (hg:Glob (im w)) :
 Calls Tryz.prog 16 #[.slice A0 LS.length c0] w (Bc w fun v u=>∃A c D,v=.slice A (List.length D) c∧DefsAt u A c D LS):=by
 refine(defs_any LS w A0 c0 hL hz (fun s h=>of_decide_eq_true (List.all_eq_true.1 hs s h)) hg).mono fun e w' h=>?_
 obtain⟨v,h1,h2,A,c,D,h3,h4,h5,h6⟩:=h
 refine⟨v,h1,h2,A,c,D,h3,h3▸h4,h6,h5,?_⟩
 have:=congrArg List.length h5
 rw[List.length_map]at this
 have h7:(defsL LS).length≤LS.length:=List.length_filterMap_le _ _
 omega
theorem pvs_space {u:Im}:∀ {L:List PV} {X:List XT},PvsR u L X→L.map (·.space)=X.map (·.space)
 |[],[],_=>rfl
 |_::_,_::_,h=>by rw[List.map_cons,List.map_cons,pvs_space h.2,h.1.space]
 |[],_::_,h=>h.elim
 |_::_,[],h=>h.elim
theorem pvs_kind {u:Im}:∀ {L:List PV} {X:List XT},PvsR u L X→L.map (·.kind)=X.map (·.kind)
 |[],[],_=>rfl
 |_::_,_::_,h=>by rw[List.map_cons,List.map_cons,pvs_kind h.2,h.1.kind]
 |[],_::_,h=>h.elim
 |_::_,[],h=>h.elim
theorem expE_outOk {r:RX (List XT)} {x:Int×List Int×List Bool} (h:expE r=some x):outOk r=true:=by
 cases r with
 |stuck=>cases h
 |err e=>rfl
 |ok a b out=>
  have h:(if cst out≤1000000 then some ((0:Int),(out.map (·.kind)).filter (fun k=>decide (10≤k)),out.map (·.space))else none)=some x:=h
  split at h
  rename_i h1;exact decide_eq_true h1
  cases h
theorem end_err {r:RX (List XT)} {e:Int} {v:Value} {u:Im} (h:expE r=some (e,[],[])) (he:e≠0) (hv:EndX r v u):v=.tuple #[.slice none 0 0,.int .i64 e]:=by
 cases r with
 |stuck=>cases h
 |err e'=>
  simp only[expE,Option.some.injEq,Prod.mk.injEq,and_true]at h
  subst h
  exact hv.1
 |ok a b out=>
  have h:(if cst out≤1000000 then some ((0:Int),(out.map (·.kind)).filter (fun k=>decide (10≤k)),out.map (·.space))else none)=some (e,[],[]):=h
  split at h
  simp only[Option.some.injEq,Prod.mk.injEq]at h
  exact absurd h.1.symm he
  cases h
theorem end_ok {r:RX (List XT)} {ks:List Int} {sp:List Bool} {v:Value} {u:Im} (h:expE r=some (0,ks,sp)) (hv:EndX r v u) :
 ∃A c L,v=.tuple #[.slice A (List.length L) c,.int .i64 0]∧Aw u (.slice A (List.length L) c) (pvY.d L)∧L.map (·.space)=sp∧(L.map (·.kind)).filter (fun k=>decide (10≤k))=ks:=by
 cases r with
 |stuck=>cases h
 |err e'=>
  simp only[expE,Option.some.injEq,Prod.mk.injEq]at h
  exact absurd h.1 hv.2
 |ok a b out=>
  have h:(if cst out≤1000000 then some ((0:Int),(out.map (·.kind)).filter (fun k=>decide (10≤k)),out.map (·.space))else none)=some (0,ks,sp):=h
  split at h
  simp only[Option.some.injEq,Prod.mk.injEq]at h
  obtain⟨A,c,L,h1,h2,h3⟩:=hv
  exact⟨A,c,L,h1,h2,by rw[pvs_space h3];exact h.2.2,by rw[pvs_kind h3];exact h.2.1⟩
  cases h
theorem none_defs (u:Im):DefsAt u none 0 [] []:=⟨slAt_nil _ _ rfl,fun x hx=>(by cases hx),rfl,Nat.zero_le _⟩
theorem eo_0:outOk (Co 200 [⟨#[70,40,97,41,32,97,32,43,32,97]⟩,⟨#[79,32,70]⟩] ⟨#[70,40,49,41,32,79,32,40,50,41,32,70]⟩ 1000)=true:=(Bool.and_eq_true _ _▸en_0).1
theorem ev_0:comV (Co 200 [⟨#[70,40,97,41,32,97,32,43,32,97]⟩,⟨#[79,32,70]⟩] ⟨#[70,40,49,41,32,79,32,40,50,41,32,70]⟩ 1000) ⟨#[49,32,43,32,49,32,50,32,43,32,50,32,70]⟩=true:=(Bool.and_eq_true _ _▸en_0).2
theorem eo_1:outOk (Co 200 [⟨#[88,32,88,32,89]⟩,⟨#[89,32,88,32,49]⟩] ⟨#[88,32,89]⟩ 1000)=true:=(Bool.and_eq_true _ _▸en_1).1
theorem ev_1:comV (Co 200 [⟨#[88,32,88,32,89]⟩,⟨#[89,32,88,32,49]⟩] ⟨#[88,32,89]⟩ 1000) ⟨#[88,32,88,32,49,32,88,32,89,32,49]⟩=true:=(Bool.and_eq_true _ _▸en_1).2
theorem eo_2:outOk (Co 200 [⟨#[70,40,97,41,32,97,32,70]⟩] ⟨#[70,40,49,41,40,50,41,40,51,41]⟩ 1000)=true:=(Bool.and_eq_true _ _▸en_2).1
theorem ev_2:comV (Co 200 [⟨#[70,40,97,41,32,97,32,70]⟩] ⟨#[70,40,49,41,40,50,41,40,51,41]⟩ 1000) ⟨#[49,32,70,32,40,32,50,32,41,32,40,32,51,32,41]⟩=true:=(Bool.and_eq_true _ _▸en_2).2
theorem eo_3:outOk (Co 200 [⟨#[67,40,97,44,32,98,41,32,97,32,35,35,32,98]⟩] ⟨#[67,40,120,44,32,49,41,32,67,40,44,32,121,41,32,67,40,44,41,32,43]⟩ 1000)=true:=(Bool.and_eq_true _ _▸en_3).1
theorem ev_3:comV (Co 200 [⟨#[67,40,97,44,32,98,41,32,97,32,35,35,32,98]⟩] ⟨#[67,40,120,44,32,49,41,32,67,40,44,32,121,41,32,67,40,44,41,32,43]⟩ 1000) ⟨#[120,49,32,121,32,43]⟩=true:=(Bool.and_eq_true _ _▸en_3).2
theorem eo_4:outOk (Co 200 [⟨#[83,40,97,41,32,35,97]⟩] ⟨#[83,40,97,32,32,95,95,76,73,78,69,95,95,41]⟩ 1000)=true:=(Bool.and_eq_true _ _▸en_4).1
theorem ev_4:comV (Co 200 [⟨#[83,40,97,41,32,35,97]⟩] ⟨#[83,40,97,32,32,95,95,76,73,78,69,95,95,41]⟩ 1000) ⟨#[60,97,59,95,95,76,73,78,69,95,95,59,62]⟩=true:=(Bool.and_eq_true _ _▸en_4).2
theorem eo_5:outOk (Co 200 [⟨#[84,40,97,41,32,83,40,97,41]⟩,⟨#[83,40,97,41,32,35,97]⟩] ⟨#[84,40,95,95,76,73,78,69,95,95,41]⟩ 1000)=true:=(Bool.and_eq_true _ _▸en_5).1
theorem ev_5:failV (Co 200 [⟨#[84,40,97,41,32,83,40,97,41]⟩,⟨#[83,40,97,41,32,35,97]⟩] ⟨#[84,40,95,95,76,73,78,69,95,95,41]⟩ 1000) 62=true:=(Bool.and_eq_true _ _▸en_5).2
theorem eo_6:outOk (Co 200 [⟨#[80,40,97,41,32,97,32,35,35,32,49]⟩] ⟨#[80,40,43,41]⟩ 1000)=true:=(Bool.and_eq_true _ _▸en_6).1
theorem ev_6:failV (Co 200 [⟨#[80,40,97,41,32,97,32,35,35,32,49]⟩] ⟨#[80,40,43,41]⟩ 1000) 61=true:=(Bool.and_eq_true _ _▸en_6).2
theorem eo_7:outOk (Co 200 [⟨#[80,40,97,41,32,97,32,35,35,32,49]⟩] ⟨#[80,40,95,95,76,73,78,69,95,95,41]⟩ 1000)=true:=(Bool.and_eq_true _ _▸en_7).1
theorem ev_7:comV (Co 200 [⟨#[80,40,97,41,32,97,32,35,35,32,49]⟩] ⟨#[80,40,95,95,76,73,78,69,95,95,41]⟩ 1000) ⟨#[95,95,76,73,78,69,95,95,49]⟩=true:=(Bool.and_eq_true _ _▸en_7).2
theorem eo_8:outOk (Co 200 [⟨#[78,40,41,32,49]⟩,⟨#[86,40,97,44,32,46,46,46,41,32,95,95,86,65,95,65,82,71,83,95,95]⟩] ⟨#[78,40,41,32,86,40,49,44,32,50,44,32,51,41,32,86,40,49,44,41]⟩ 1000)=true:=(Bool.and_eq_true _ _▸en_8).1
theorem ev_8:comV (Co 200 [⟨#[78,40,41,32,49]⟩,⟨#[86,40,97,44,32,46,46,46,41,32,95,95,86,65,95,65,82,71,83,95,95]⟩] ⟨#[78,40,41,32,86,40,49,44,32,50,44,32,51,41,32,86,40,49,44,41]⟩ 1000) ⟨#[49,32,50,32,44,32,51]⟩=true:=(Bool.and_eq_true _ _▸en_8).2
theorem eo_9:outOk (Co 200 [⟨#[78,40,41,32,49]⟩] ⟨#[78,40,49,41]⟩ 1000)=true:=(Bool.and_eq_true _ _▸en_9).1
theorem ev_9:failV (Co 200 [⟨#[78,40,41,32,49]⟩] ⟨#[78,40,49,41]⟩ 1000) 60=true:=(Bool.and_eq_true _ _▸en_9).2
theorem eo_10:outOk (Co 200 [⟨#[86,40,97,44,32,46,46,46,41,32,97]⟩] ⟨#[86,40,49,41]⟩ 1000)=true:=(Bool.and_eq_true _ _▸en_10).1
theorem ev_10:failV (Co 200 [⟨#[86,40,97,44,32,46,46,46,41,32,97]⟩] ⟨#[86,40,49,41]⟩ 1000) 60=true:=(Bool.and_eq_true _ _▸en_10).2
theorem eo_11:outOk (Co 200 [⟨#[78,40,41,32,49]⟩] ⟨#[78,40]⟩ 1000)=true:=(Bool.and_eq_true _ _▸en_11).1
theorem ev_11:failV (Co 200 [⟨#[78,40,41,32,49]⟩] ⟨#[78,40]⟩ 1000) 60=true:=(Bool.and_eq_true _ _▸en_11).2
theorem eo_12:outOk (Co 200 [⟨#[78,40,41,32,49]⟩] ⟨#[78,32,95,95,76,73,78,69,95,95]⟩ 1000)=true:=(Bool.and_eq_true _ _▸en_12).1
theorem ev_12:comV (Co 200 [⟨#[78,40,41,32,49]⟩] ⟨#[78,32,95,95,76,73,78,69,95,95]⟩ 1000) ⟨#[78,32,95,95,76,73,78,69,95,95]⟩=true:=(Bool.and_eq_true _ _▸en_12).2
theorem eo_13:outOk (Co 200 [⟨#[81,40,97,44,98,41,32,97,32,35,35,32,98,32,35,35,32,99]⟩] ⟨#[81,40,44,41,32,81,40,120,44,41,32,81,40,120,32,121,44,122,32,119,41]⟩ 1000)=true:=(Bool.and_eq_true _ _▸en_13).1
theorem ev_13:comV (Co 200 [⟨#[81,40,97,44,98,41,32,97,32,35,35,32,98,32,35,35,32,99]⟩] ⟨#[81,40,44,41,32,81,40,120,44,41,32,81,40,120,32,121,44,122,32,119,41]⟩ 1000) ⟨#[99,32,120,99,32,120,32,121,122,32,119,99]⟩=true:=(Bool.and_eq_true _ _▸en_13).2
theorem eo_14:outOk (Co 200 [⟨#[102,40,97,41,32,97,42,103]⟩,⟨#[103,40,97,41,32,102,40,97,41]⟩] ⟨#[102,40,50,41,40,57,41]⟩ 1000)=true:=(Bool.and_eq_true _ _▸en_14).1
theorem ev_14:comV (Co 200 [⟨#[102,40,97,41,32,97,42,103]⟩,⟨#[103,40,97,41,32,102,40,97,41]⟩] ⟨#[102,40,50,41,40,57,41]⟩ 1000) ⟨#[50,32,42,32,57,32,42,32,103]⟩=true:=(Bool.and_eq_true _ _▸en_14).2
theorem eo_15:outOk (Co 200 [⟨#[67,40,97,44,32,98,41,32,97,32,35,35,32,98]⟩,⟨#[65,66,32,67,40,65,44]⟩] ⟨#[65,66,32,66,41,32,66,41]⟩ 1000)=true:=(Bool.and_eq_true _ _▸en_15).1
theorem ev_15:comV (Co 200 [⟨#[67,40,97,44,32,98,41,32,97,32,35,35,32,98]⟩,⟨#[65,66,32,67,40,65,44]⟩] ⟨#[65,66,32,66,41,32,66,41]⟩ 1000) ⟨#[67,32,40,32,65,32,44,32,66,32,41]⟩=true:=(Bool.and_eq_true _ _▸en_15).2
theorem alive6_any (w:World) (hg:Glob (im w)):Calls Tryz.prog 19 #[] w (Bc w fun v _=>v=.bool true):=by
 refine Bq Aa Tryz.func19 O O [] 0 [] O O O O (fun b hb=>by cases hb) ?_
 have hs0:(im w).sub (im w):=⟨fun _ _ h=>h⟩
 refine Ao Aa ?_
 refine As Aa Bh [⟨#[70,40,97,41,32,97,32,43,32,97]⟩,⟨#[79,32,70]⟩] [_,_] O O O O O O O O O O O O O O O ?_
 refine Ax 0 rfl (fun A0 c0 u0a hu0a hA0 _=>?_)
 have hs0a:(im w).sub u0a:=hs0.trans hu0a.sub
 refine Ar (fun v u=>∃A c D,v=.slice A (List.length D) c∧DefsAt u A c D [⟨#[70,40,97,41,32,97,32,43,32,97]⟩,⟨#[79,32,70]⟩]) O O O O fn16 O O (fun E w' F h=>defsC_any [⟨#[70,40,97,41,32,97,32,43,32,97]⟩,⟨#[79,32,70]⟩] w' A0 c0 (hA0.sub (Au h.imm)) (by decide) (by decide) (hg.sub (hs0a.trans (Au h.imm)))) (fun v0 x0 u0 hu0 hn0 hR0=>?_)
 obtain⟨B0,b0,D0,rfl,hD0⟩:=hR0
 have hs0:(im w).sub u0:=hs0a.trans hu0.sub
 have hE0:DefsAt u0 B0 b0 D0 [⟨#[70,40,97,41,32,97,32,43,32,97]⟩,⟨#[79,32,70]⟩]:=hD0.sub (hn0.trans (Bl _ _))
 refine Am (.bool true) O O O O fn15 O O (fun E w' F h=>by
  have:=comes_any (want:=⟨#[49,32,43,32,49,32,50,32,43,32,50,32,70]⟩) w' (hg.sub (hs0.trans (Au h.imm))) (hE0.sub (Au h.imm)) (by decide) eo_0
  rw[ev_0]at this
  exact this) ?_
 refine Ab Aa ?_
 exact Ay (fun _ _=>rfl)
theorem expandNames_any (w:World) (hg:Glob (im w)):Calls Tryz.prog 4 #[] w (Bc w fun v _=>v=.bool true):=by
 refine Bq Aa Tryz.func4 O O [] 0 [] O O O O (fun b hb=>by cases hb) ?_
 have hs0:(im w).sub (im w):=⟨fun _ _ h=>h⟩
 refine Ao Aa ?_
 refine As Aa Bh [⟨#[88,32,88,32,89]⟩,⟨#[89,32,88,32,49]⟩] [_,_] O O O O O O O O O O O O O O O ?_
 refine Ax 0 rfl (fun A0 c0 u0a hu0a hA0 _=>?_)
 have hs0a:(im w).sub u0a:=hs0.trans hu0a.sub
 refine Ar (fun v u=>∃A c D,v=.slice A (List.length D) c∧DefsAt u A c D [⟨#[88,32,88,32,89]⟩,⟨#[89,32,88,32,49]⟩]) O O O O fn16 O O (fun E w' F h=>defsC_any [⟨#[88,32,88,32,89]⟩,⟨#[89,32,88,32,49]⟩] w' A0 c0 (hA0.sub (Au h.imm)) (by decide) (by decide) (hg.sub (hs0a.trans (Au h.imm)))) (fun v0 x0 u0 hu0 hn0 hR0=>?_)
 obtain⟨B0,b0,D0,rfl,hD0⟩:=hR0
 have hs0:(im w).sub u0:=hs0a.trans hu0.sub
 have hE0:DefsAt u0 B0 b0 D0 [⟨#[88,32,88,32,89]⟩,⟨#[89,32,88,32,49]⟩]:=hD0.sub (hn0.trans (Bl _ _))
 refine Am (.bool true) O O O O fn15 O O (fun E w' F h=>by
  have:=comes_any (want:=⟨#[88,32,88,32,49,32,88,32,89,32,49]⟩) w' (hg.sub (hs0.trans (Au h.imm))) (hE0.sub (Au h.imm)) (by decide) eo_1
  rw[ev_1]at this
  exact this) ?_
 refine Ab Aa ?_
 refine Ci O O O O O ?_
 refine As Aa Bh [⟨#[70,40,97,41,32,97,32,70]⟩] [_] O O O O O O O O O O O O O O O ?_
 refine Ax 1 rfl (fun A1 c1 u1a hu1a hA1 _=>?_)
 have hs1a:(im w).sub u1a:=hs0.trans hu1a.sub
 refine Ci O O O O O ?_
 refine Ar (fun v u=>∃A c D,v=.slice A (List.length D) c∧DefsAt u A c D [⟨#[70,40,97,41,32,97,32,70]⟩]) O O O O fn16 O O (fun E w' F h=>defsC_any [⟨#[70,40,97,41,32,97,32,70]⟩] w' A1 c1 (hA1.sub (Au h.imm)) (by decide) (by decide) (hg.sub (hs1a.trans (Au h.imm)))) (fun v1 x1 u1 hu1 hn1 hR1=>?_)
 obtain⟨B1,b1,D1,rfl,hD1⟩:=hR1
 have hs1:(im w).sub u1:=hs1a.trans hu1.sub
 have hE1:DefsAt u1 B1 b1 D1 [⟨#[70,40,97,41,32,97,32,70]⟩]:=hD1.sub (hn1.trans (Bl _ _))
 refine Ci O O O O O ?_
 refine Am (.bool true) O O O O fn15 O O (fun E w' F h=>by
  have:=comes_any (want:=⟨#[49,32,70,32,40,32,50,32,41,32,40,32,51,32,41]⟩) w' (hg.sub (hs1.trans (Au h.imm))) (hE1.sub (Au h.imm)) (by decide) eo_2
  rw[ev_2]at this
  exact this) ?_
 refine Ab Aa ?_
 refine Ci O O O O O ?_
 refine As Aa Bh [⟨#[67,40,97,44,32,98,41,32,97,32,35,35,32,98]⟩] [_] O O O O O O O O O O O O O O O ?_
 refine Ax 2 rfl (fun A2 c2 u2a hu2a hA2 _=>?_)
 have hs2a:(im w).sub u2a:=hs1.trans hu2a.sub
 refine Ci O O O O O ?_
 refine Ar (fun v u=>∃A c D,v=.slice A (List.length D) c∧DefsAt u A c D [⟨#[67,40,97,44,32,98,41,32,97,32,35,35,32,98]⟩]) O O O O fn16 O O (fun E w' F h=>defsC_any [⟨#[67,40,97,44,32,98,41,32,97,32,35,35,32,98]⟩] w' A2 c2 (hA2.sub (Au h.imm)) (by decide) (by decide) (hg.sub (hs2a.trans (Au h.imm)))) (fun v2 x2 u2 hu2 hn2 hR2=>?_)
 obtain⟨B2,b2,D2,rfl,hD2⟩:=hR2
 have hs2:(im w).sub u2:=hs2a.trans hu2.sub
 have hE2:DefsAt u2 B2 b2 D2 [⟨#[67,40,97,44,32,98,41,32,97,32,35,35,32,98]⟩]:=hD2.sub (hn2.trans (Bl _ _))
 refine Ci O O O O O ?_
 refine Am (.bool true) O O O O fn15 O O (fun E w' F h=>by
  have:=comes_any (want:=⟨#[120,49,32,121,32,43]⟩) w' (hg.sub (hs2.trans (Au h.imm))) (hE2.sub (Au h.imm)) (by decide) eo_3
  rw[ev_3]at this
  exact this) ?_
 refine Ab Aa ?_
 refine Ci O O O O O ?_
 refine As Aa Bh [⟨#[83,40,97,41,32,35,97]⟩] [_] O O O O O O O O O O O O O O O ?_
 refine Ax 3 rfl (fun A3 c3 u3a hu3a hA3 _=>?_)
 have hs3a:(im w).sub u3a:=hs2.trans hu3a.sub
 refine Ci O O O O O ?_
 refine Ar (fun v u=>∃A c D,v=.slice A (List.length D) c∧DefsAt u A c D [⟨#[83,40,97,41,32,35,97]⟩]) O O O O fn16 O O (fun E w' F h=>defsC_any [⟨#[83,40,97,41,32,35,97]⟩] w' A3 c3 (hA3.sub (Au h.imm)) (by decide) (by decide) (hg.sub (hs3a.trans (Au h.imm)))) (fun v3 x3 u3 hu3 hn3 hR3=>?_)
 obtain⟨B3,b3,D3,rfl,hD3⟩:=hR3
 have hs3:(im w).sub u3:=hs3a.trans hu3.sub
 have hE3:DefsAt u3 B3 b3 D3 [⟨#[83,40,97,41,32,35,97]⟩]:=hD3.sub (hn3.trans (Bl _ _))
 refine Ci O O O O O ?_
 refine Am (.bool true) O O O O fn15 O O (fun E w' F h=>by
  have:=comes_any (want:=⟨#[60,97,59,95,95,76,73,78,69,95,95,59,62]⟩) w' (hg.sub (hs3.trans (Au h.imm))) (hE3.sub (Au h.imm)) (by decide) eo_4
  rw[ev_4]at this
  exact this) ?_
 refine Ab Aa ?_
 refine As Aa Bh [⟨#[84,40,97,41,32,83,40,97,41]⟩,⟨#[83,40,97,41,32,35,97]⟩] [_,_] O O O O O O O O O O O O O O O ?_
 refine Ax 4 rfl (fun A4 c4 u4a hu4a hA4 _=>?_)
 have hs4a:(im w).sub u4a:=hs3.trans hu4a.sub
 refine Ar (fun v u=>∃A c D,v=.slice A (List.length D) c∧DefsAt u A c D [⟨#[84,40,97,41,32,83,40,97,41]⟩,⟨#[83,40,97,41,32,35,97]⟩]) O O O O fn16 O O (fun E w' F h=>defsC_any [⟨#[84,40,97,41,32,83,40,97,41]⟩,⟨#[83,40,97,41,32,35,97]⟩] w' A4 c4 (hA4.sub (Au h.imm)) (by decide) (by decide) (hg.sub (hs4a.trans (Au h.imm)))) (fun v4 x4 u4 hu4 hn4 hR4=>?_)
 obtain⟨B4,b4,D4,rfl,hD4⟩:=hR4
 have hs4:(im w).sub u4:=hs4a.trans hu4.sub
 have hE4:DefsAt u4 B4 b4 D4 [⟨#[84,40,97,41,32,83,40,97,41]⟩,⟨#[83,40,97,41,32,35,97]⟩]:=hD4.sub (hn4.trans (Bl _ _))
 refine Am (.bool true) O O O O fn17 O O (fun E w' F h=>by
  have:=fails_any (want:=62) w' (hg.sub (hs4.trans (Au h.imm))) (hE4.sub (Au h.imm)) (by decide) eo_5
  rw[ev_5]at this
  exact this) ?_
 refine Ab Aa ?_
 refine Ci O O O O O ?_
 refine As Aa Bh [⟨#[80,40,97,41,32,97,32,35,35,32,49]⟩] [_] O O O O O O O O O O O O O O O ?_
 refine Ax 5 rfl (fun A5 c5 u5a hu5a hA5 _=>?_)
 have hs5a:(im w).sub u5a:=hs4.trans hu5a.sub
 refine Ci O O O O O ?_
 refine Ar (fun v u=>∃A c D,v=.slice A (List.length D) c∧DefsAt u A c D [⟨#[80,40,97,41,32,97,32,35,35,32,49]⟩]) O O O O fn16 O O (fun E w' F h=>defsC_any [⟨#[80,40,97,41,32,97,32,35,35,32,49]⟩] w' A5 c5 (hA5.sub (Au h.imm)) (by decide) (by decide) (hg.sub (hs5a.trans (Au h.imm)))) (fun v5 x5 u5 hu5 hn5 hR5=>?_)
 obtain⟨B5,b5,D5,rfl,hD5⟩:=hR5
 have hs5:(im w).sub u5:=hs5a.trans hu5.sub
 have hE5:DefsAt u5 B5 b5 D5 [⟨#[80,40,97,41,32,97,32,35,35,32,49]⟩]:=hD5.sub (hn5.trans (Bl _ _))
 refine Ci O O O O O ?_
 refine Am (.bool true) O O O O fn17 O O (fun E w' F h=>by
  have:=fails_any (want:=61) w' (hg.sub (hs5.trans (Au h.imm))) (hE5.sub (Au h.imm)) (by decide) eo_6
  rw[ev_6]at this
  exact this) ?_
 refine Ab Aa ?_
 refine Ci O O O O O ?_
 refine As Aa Bh [⟨#[80,40,97,41,32,97,32,35,35,32,49]⟩] [_] O O O O O O O O O O O O O O O ?_
 refine Ax 6 rfl (fun A6 c6 u6a hu6a hA6 _=>?_)
 have hs6a:(im w).sub u6a:=hs5.trans hu6a.sub
 refine Ci O O O O O ?_
 refine Ar (fun v u=>∃A c D,v=.slice A (List.length D) c∧DefsAt u A c D [⟨#[80,40,97,41,32,97,32,35,35,32,49]⟩]) O O O O fn16 O O (fun E w' F h=>defsC_any [⟨#[80,40,97,41,32,97,32,35,35,32,49]⟩] w' A6 c6 (hA6.sub (Au h.imm)) (by decide) (by decide) (hg.sub (hs6a.trans (Au h.imm)))) (fun v6 x6 u6 hu6 hn6 hR6=>?_)
 obtain⟨B6,b6,D6,rfl,hD6⟩:=hR6
 have hs6:(im w).sub u6:=hs6a.trans hu6.sub
 have hE6:DefsAt u6 B6 b6 D6 [⟨#[80,40,97,41,32,97,32,35,35,32,49]⟩]:=hD6.sub (hn6.trans (Bl _ _))
 refine Ci O O O O O ?_
 refine Am (.bool true) O O O O fn15 O O (fun E w' F h=>by
  have:=comes_any (want:=⟨#[95,95,76,73,78,69,95,95,49]⟩) w' (hg.sub (hs6.trans (Au h.imm))) (hE6.sub (Au h.imm)) (by decide) eo_7
  rw[ev_7]at this
  exact this) ?_
 refine Ab Aa ?_
 refine Ci O O O O O ?_
 refine As Aa Bh [⟨#[78,40,41,32,49]⟩,⟨#[86,40,97,44,32,46,46,46,41,32,95,95,86,65,95,65,82,71,83,95,95]⟩] [_,_] O O O O O O O O O O O O O O O ?_
 refine Ax 7 rfl (fun A7 c7 u7a hu7a hA7 _=>?_)
 have hs7a:(im w).sub u7a:=hs6.trans hu7a.sub
 refine Ci O O O O O ?_
 refine Ar (fun v u=>∃A c D,v=.slice A (List.length D) c∧DefsAt u A c D [⟨#[78,40,41,32,49]⟩,⟨#[86,40,97,44,32,46,46,46,41,32,95,95,86,65,95,65,82,71,83,95,95]⟩]) O O O O fn16 O O (fun E w' F h=>defsC_any [⟨#[78,40,41,32,49]⟩,⟨#[86,40,97,44,32,46,46,46,41,32,95,95,86,65,95,65,82,71,83,95,95]⟩] w' A7 c7 (hA7.sub (Au h.imm)) (by decide) (by decide) (hg.sub (hs7a.trans (Au h.imm)))) (fun v7 x7 u7 hu7 hn7 hR7=>?_)
 obtain⟨B7,b7,D7,rfl,hD7⟩:=hR7
 have hs7:(im w).sub u7:=hs7a.trans hu7.sub
 have hE7:DefsAt u7 B7 b7 D7 [⟨#[78,40,41,32,49]⟩,⟨#[86,40,97,44,32,46,46,46,41,32,95,95,86,65,95,65,82,71,83,95,95]⟩]:=hD7.sub (hn7.trans (Bl _ _))
 refine Ci O O O O O ?_
 refine Am (.bool true) O O O O fn15 O O (fun E w' F h=>by
  have:=comes_any (want:=⟨#[49,32,50,32,44,32,51]⟩) w' (hg.sub (hs7.trans (Au h.imm))) (hE7.sub (Au h.imm)) (by decide) eo_8
  rw[ev_8]at this
  exact this) ?_
 refine Ab Aa ?_
 refine As Aa Bh [⟨#[78,40,41,32,49]⟩] [_] O O O O O O O O O O O O O O O ?_
 refine Ax 8 rfl (fun A8 c8 u8a hu8a hA8 _=>?_)
 have hs8a:(im w).sub u8a:=hs7.trans hu8a.sub
 refine Ar (fun v u=>∃A c D,v=.slice A (List.length D) c∧DefsAt u A c D [⟨#[78,40,41,32,49]⟩]) O O O O fn16 O O (fun E w' F h=>defsC_any [⟨#[78,40,41,32,49]⟩] w' A8 c8 (hA8.sub (Au h.imm)) (by decide) (by decide) (hg.sub (hs8a.trans (Au h.imm)))) (fun v8 x8 u8 hu8 hn8 hR8=>?_)
 obtain⟨B8,b8,D8,rfl,hD8⟩:=hR8
 have hs8:(im w).sub u8:=hs8a.trans hu8.sub
 have hE8:DefsAt u8 B8 b8 D8 [⟨#[78,40,41,32,49]⟩]:=hD8.sub (hn8.trans (Bl _ _))
 refine Am (.bool true) O O O O fn17 O O (fun E w' F h=>by
  have:=fails_any (want:=60) w' (hg.sub (hs8.trans (Au h.imm))) (hE8.sub (Au h.imm)) (by decide) eo_9
  rw[ev_9]at this
  exact this) ?_
 refine Ab Aa ?_
 refine Ci O O O O O ?_
 refine As Aa Bh [⟨#[86,40,97,44,32,46,46,46,41,32,97]⟩] [_] O O O O O O O O O O O O O O O ?_
 refine Ax 9 rfl (fun A9 c9 u9a hu9a hA9 _=>?_)
 have hs9a:(im w).sub u9a:=hs8.trans hu9a.sub
 refine Ci O O O O O ?_
 refine Ar (fun v u=>∃A c D,v=.slice A (List.length D) c∧DefsAt u A c D [⟨#[86,40,97,44,32,46,46,46,41,32,97]⟩]) O O O O fn16 O O (fun E w' F h=>defsC_any [⟨#[86,40,97,44,32,46,46,46,41,32,97]⟩] w' A9 c9 (hA9.sub (Au h.imm)) (by decide) (by decide) (hg.sub (hs9a.trans (Au h.imm)))) (fun v9 x9 u9 hu9 hn9 hR9=>?_)
 obtain⟨B9,b9,D9,rfl,hD9⟩:=hR9
 have hs9:(im w).sub u9:=hs9a.trans hu9.sub
 have hE9:DefsAt u9 B9 b9 D9 [⟨#[86,40,97,44,32,46,46,46,41,32,97]⟩]:=hD9.sub (hn9.trans (Bl _ _))
 refine Ci O O O O O ?_
 refine Am (.bool true) O O O O fn17 O O (fun E w' F h=>by
  have:=fails_any (want:=60) w' (hg.sub (hs9.trans (Au h.imm))) (hE9.sub (Au h.imm)) (by decide) eo_10
  rw[ev_10]at this
  exact this) ?_
 refine Ab Aa ?_
 refine Ci O O O O O ?_
 refine As Aa Bh [⟨#[78,40,41,32,49]⟩] [_] O O O O O O O O O O O O O O O ?_
 refine Ax 10 rfl (fun A10 c10 u10a hu10a hA10 _=>?_)
 have hs10a:(im w).sub u10a:=hs9.trans hu10a.sub
 refine Ci O O O O O ?_
 refine Ar (fun v u=>∃A c D,v=.slice A (List.length D) c∧DefsAt u A c D [⟨#[78,40,41,32,49]⟩]) O O O O fn16 O O (fun E w' F h=>defsC_any [⟨#[78,40,41,32,49]⟩] w' A10 c10 (hA10.sub (Au h.imm)) (by decide) (by decide) (hg.sub (hs10a.trans (Au h.imm)))) (fun v10 x10 u10 hu10 hn10 hR10=>?_)
 obtain⟨B10,b10,D10,rfl,hD10⟩:=hR10
 have hs10:(im w).sub u10:=hs10a.trans hu10.sub
 have hE10:DefsAt u10 B10 b10 D10 [⟨#[78,40,41,32,49]⟩]:=hD10.sub (hn10.trans (Bl _ _))
 refine Ci O O O O O ?_
 refine Am (.bool true) O O O O fn17 O O (fun E w' F h=>by
  have:=fails_any (want:=60) w' (hg.sub (hs10.trans (Au h.imm))) (hE10.sub (Au h.imm)) (by decide) eo_11
  rw[ev_11]at this
  exact this) ?_
 refine Ab Aa ?_
 refine Ci O O O O O ?_
 refine As Aa Bh [⟨#[78,40,41,32,49]⟩] [_] O O O O O O O O O O O O O O O ?_
 refine Ax 11 rfl (fun A11 c11 u11a hu11a hA11 _=>?_)
 have hs11a:(im w).sub u11a:=hs10.trans hu11a.sub
 refine Ci O O O O O ?_
 refine Ar (fun v u=>∃A c D,v=.slice A (List.length D) c∧DefsAt u A c D [⟨#[78,40,41,32,49]⟩]) O O O O fn16 O O (fun E w' F h=>defsC_any [⟨#[78,40,41,32,49]⟩] w' A11 c11 (hA11.sub (Au h.imm)) (by decide) (by decide) (hg.sub (hs11a.trans (Au h.imm)))) (fun v11 x11 u11 hu11 hn11 hR11=>?_)
 obtain⟨B11,b11,D11,rfl,hD11⟩:=hR11
 have hs11:(im w).sub u11:=hs11a.trans hu11.sub
 have hE11:DefsAt u11 B11 b11 D11 [⟨#[78,40,41,32,49]⟩]:=hD11.sub (hn11.trans (Bl _ _))
 refine Ci O O O O O ?_
 refine Am (.bool true) O O O O fn15 O O (fun E w' F h=>by
  have:=comes_any (want:=⟨#[78,32,95,95,76,73,78,69,95,95]⟩) w' (hg.sub (hs11.trans (Au h.imm))) (hE11.sub (Au h.imm)) (by decide) eo_12
  rw[ev_12]at this
  exact this) ?_
 refine Ab Aa ?_
 refine Ci O O O O O ?_
 refine As Aa Bh [⟨#[81,40,97,44,98,41,32,97,32,35,35,32,98,32,35,35,32,99]⟩] [_] O O O O O O O O O O O O O O O ?_
 refine Ax 12 rfl (fun A12 c12 u12a hu12a hA12 _=>?_)
 have hs12a:(im w).sub u12a:=hs11.trans hu12a.sub
 refine Ci O O O O O ?_
 refine Ar (fun v u=>∃A c D,v=.slice A (List.length D) c∧DefsAt u A c D [⟨#[81,40,97,44,98,41,32,97,32,35,35,32,98,32,35,35,32,99]⟩]) O O O O fn16 O O (fun E w' F h=>defsC_any [⟨#[81,40,97,44,98,41,32,97,32,35,35,32,98,32,35,35,32,99]⟩] w' A12 c12 (hA12.sub (Au h.imm)) (by decide) (by decide) (hg.sub (hs12a.trans (Au h.imm)))) (fun v12 x12 u12 hu12 hn12 hR12=>?_)
 obtain⟨B12,b12,D12,rfl,hD12⟩:=hR12
 have hs12:(im w).sub u12:=hs12a.trans hu12.sub
 have hE12:DefsAt u12 B12 b12 D12 [⟨#[81,40,97,44,98,41,32,97,32,35,35,32,98,32,35,35,32,99]⟩]:=hD12.sub (hn12.trans (Bl _ _))
 refine Ci O O O O O ?_
 refine Am (.bool true) O O O O fn15 O O (fun E w' F h=>by
  have:=comes_any (want:=⟨#[99,32,120,99,32,120,32,121,122,32,119,99]⟩) w' (hg.sub (hs12.trans (Au h.imm))) (hE12.sub (Au h.imm)) (by decide) eo_13
  rw[ev_13]at this
  exact this) ?_
 refine Ab Aa ?_
 refine As Aa Bh [⟨#[88,32,49,32,50]⟩] [_] O O O O O O O O O O O O O O O ?_
 refine Ax 13 rfl (fun A13 c13 u13a hu13a hA13 _=>?_)
 have hs13a:(im w).sub u13a:=hs12.trans hu13a.sub
 refine Ar (fun v u=>∃A c D,v=.slice A (List.length D) c∧DefsAt u A c D [⟨#[88,32,49,32,50]⟩]) O O O O fn16 O O (fun E w' F h=>defsC_any [⟨#[88,32,49,32,50]⟩] w' A13 c13 (hA13.sub (Au h.imm)) (by decide) (by decide) (hg.sub (hs13a.trans (Au h.imm)))) (fun v13 x13 u13 hu13 hn13 hR13=>?_)
 obtain⟨B13,b13,D13,rfl,hD13⟩:=hR13
 have hs13:(im w).sub u13:=hs13a.trans hu13.sub
 have hE13:DefsAt u13 B13 b13 D13 [⟨#[88,32,49,32,50]⟩]:=hD13.sub (hn13.trans (Bl _ _))
 obtain⟨K0,hK0⟩:∃K,K=toksL ⟨#[88]⟩:=⟨_,rfl⟩
 refine xl_callO 37 (pvY.d K0) O O O O fn18 O O (fun E w' F h=>by rw[hK0];exact toks_any ⟨#[88]⟩ w' (by decide) (hg.sub (hs13.trans (Au h.imm)))) ?_
 refine Ax 14 rfl (fun T0 t0 y0 hy0 hT0 _=>?_)
 have hl0:(pvY.d K0).n=K0.length:=Lay.d_n _ _
 have hz0:(im w).sub y0:=hs13.trans hy0.sub
 obtain⟨R0,hR0⟩:∃R,R=Co 200 [⟨#[88,32,49,32,50]⟩] ⟨#[88]⟩ 2:=⟨_,rfl⟩
 have hf0:=en_e1
 rw[←hR0]at hf0
 refine Ar (EndX R0) O O O O fn11 O O (fun E w' F h=>by
  have:=expS_any (f:=200) (n:=2) w' (hg.sub (hz0.trans (Au h.imm))) (hE13.sub (hy0.sub.trans (Au h.imm))) (A1:=T0) (c1:=t0) (s:=⟨#[88]⟩) (by rw[←hK0,←hl0];exact hT0.sub (Au h.imm)) (by rw[←hR0];exact expE_outOk hf0)
  rw[←hR0,←hK0,←hl0]at this
  exact this) (fun v0r x0r u0r hu0r hn0r hR0r=>?_)
 have hq0:(im w).sub u0r:=hz0.trans hu0r.sub
 obtain rfl:=end_err hf0 (by decide) hR0r
 refine Ab Aa ?_
 refine As Aa Bh [⟨#[88,32,49,32,50]⟩] [_] O O O O O O O O O O O O O O O ?_
 refine Ax 15 rfl (fun A14 c14 u14a hu14a hA14 _=>?_)
 have hs14a:(im w).sub u14a:=hq0.trans hu14a.sub
 refine Ar (fun v u=>∃A c D,v=.slice A (List.length D) c∧DefsAt u A c D [⟨#[88,32,49,32,50]⟩]) O O O O fn16 O O (fun E w' F h=>defsC_any [⟨#[88,32,49,32,50]⟩] w' A14 c14 (hA14.sub (Au h.imm)) (by decide) (by decide) (hg.sub (hs14a.trans (Au h.imm)))) (fun v14 x14 u14 hu14 hn14 hR14=>?_)
 obtain⟨B14,b14,D14,rfl,hD14⟩:=hR14
 have hs14:(im w).sub u14:=hs14a.trans hu14.sub
 have hE14:DefsAt u14 B14 b14 D14 [⟨#[88,32,49,32,50]⟩]:=hD14.sub (hn14.trans (Bl _ _))
 obtain⟨K1,hK1⟩:∃K,K=toksL ⟨#[88]⟩:=⟨_,rfl⟩
 refine xl_callO 37 (pvY.d K1) O O O O fn18 O O (fun E w' F h=>by rw[hK1];exact toks_any ⟨#[88]⟩ w' (by decide) (hg.sub (hs14.trans (Au h.imm)))) ?_
 refine Ax 16 rfl (fun T1 t1 y1 hy1 hT1 _=>?_)
 have hl1:(pvY.d K1).n=K1.length:=Lay.d_n _ _
 have hz1:(im w).sub y1:=hs14.trans hy1.sub
 obtain⟨R1,hR1⟩:∃R,R=Co 200 [⟨#[88,32,49,32,50]⟩] ⟨#[88]⟩ 3:=⟨_,rfl⟩
 have hf1:=en_e2
 rw[←hR1]at hf1
 refine Ar (EndX R1) O O O O fn11 O O (fun E w' F h=>by
  have:=expS_any (f:=200) (n:=3) w' (hg.sub (hz1.trans (Au h.imm))) (hE14.sub (hy1.sub.trans (Au h.imm))) (A1:=T1) (c1:=t1) (s:=⟨#[88]⟩) (by rw[←hK1,←hl1];exact hT1.sub (Au h.imm)) (by rw[←hR1];exact expE_outOk hf1)
  rw[←hR1,←hK1,←hl1]at this
  exact this) (fun v1r x1r u1r hu1r hn1r hR1r=>?_)
 have hq1:(im w).sub u1r:=hz1.trans hu1r.sub
 obtain⟨P1,p1,L1,rfl,hP1,hsp1,hks1⟩:=end_ok hf1 hR1r
 have hP1:Aw u1r (.slice P1 (List.length L1) p1) (pvY.d L1):=hP1.sub (hn1r.trans (Bl _ _))
 refine Ab Aa ?_
 refine As Aa Bh [⟨#[88,32,49]⟩,⟨#[88,32,50]⟩] [_,_] O O O O O O O O O O O O O O O ?_
 refine Ax 17 rfl (fun A15 c15 u15a hu15a hA15 _=>?_)
 have hs15a:(im w).sub u15a:=hq1.trans hu15a.sub
 refine Ar (fun v u=>∃A c D,v=.slice A (List.length D) c∧DefsAt u A c D [⟨#[88,32,49]⟩,⟨#[88,32,50]⟩]) O O O O fn16 O O (fun E w' F h=>defsC_any [⟨#[88,32,49]⟩,⟨#[88,32,50]⟩] w' A15 c15 (hA15.sub (Au h.imm)) (by decide) (by decide) (hg.sub (hs15a.trans (Au h.imm)))) (fun v15 x15 u15 hu15 hn15 hR15=>?_)
 obtain⟨B15,b15,D15,rfl,hD15⟩:=hR15
 have hs15:(im w).sub u15:=hs15a.trans hu15.sub
 have hE15:DefsAt u15 B15 b15 D15 [⟨#[88,32,49]⟩,⟨#[88,32,50]⟩]:=hD15.sub (hn15.trans (Bl _ _))
 refine Ar (EndX (.err 2)) O O O O fn11 O O (fun E w' F h=>by
  have hx:expX 1 (D15.map (·.1)) [] 1=.err 2:=by
   rw[hE15.eq]
   unfold expX
   rw[if_neg (by decide),if_neg (by rw[en_e3];decide),if_pos en_e3]
  have:=expand_any (f:=1) (steps:=1) (L:=[]) (X:=[]) w' (hg.sub (hs15.trans (Au h.imm))) (hE15.row.sub (Au h.imm)) (fun x hx=>(hE15.mas x hx).sub (Au h.imm)) hE15.sm hE15.len (slAt_nil _ _ rfl:Aw _ (.slice none 0 0) (pvY.d [])) trivial (fun x hx=>by cases hx) (Nat.zero_le _) (by rw[hx];exact fun e=>by cases e)
  rw[hx]at this
  exact this) (fun v3r x3r u3r hu3r hn3r hR3r=>?_)
 obtain⟨rfl,-⟩:=hR3r
 have hq3:(im w).sub u3r:=hs15.trans hu3r.sub
 refine Ab Aa ?_
 refine Ar (EndX (.err 2)) O O O O fn11 O O (fun E w' F h=>by
  have hx:expX 1 (([]:List (MT×MA)).map (·.1)) [] (-1)=.err 2:=if_pos (by decide)
  have:=expand_any (f:=1) (steps:=-1) (D:=[]) (L:=[]) (X:=[]) w' (hg.sub (hq3.trans (Au h.imm))) (slAt_nil _ _ rfl:Aw _ (.slice none 0 0) (mcY.d [])) (fun x hx=>by cases hx) (fun x hx=>by cases hx) (Nat.zero_le _) (slAt_nil _ _ rfl:Aw _ (.slice none 0 0) (pvY.d [])) trivial (fun x hx=>by cases hx) (Nat.zero_le _) (by rw[hx];exact fun e=>by cases e)
  rw[hx]at this
  exact this) (fun v4r x4r u4r hu4r hn4r hR4r=>?_)
 obtain⟨rfl,-⟩:=hR4r
 have hq4:(im w).sub u4r:=hq3.trans hu4r.sub
 refine Ab Aa ?_
 refine Ar (EndX (.err 2)) O O O O fn11 O O (fun E w' F h=>by
  have hx:expX 1 (([]:List (MT×MA)).map (·.1)) [] (65537)=.err 2:=if_pos (by decide)
  have:=expand_any (f:=1) (steps:=65537) (D:=[]) (L:=[]) (X:=[]) w' (hg.sub (hq4.trans (Au h.imm))) (slAt_nil _ _ rfl:Aw _ (.slice none 0 0) (mcY.d [])) (fun x hx=>by cases hx) (fun x hx=>by cases hx) (Nat.zero_le _) (slAt_nil _ _ rfl:Aw _ (.slice none 0 0) (pvY.d [])) trivial (fun x hx=>by cases hx) (Nat.zero_le _) (by rw[hx];exact fun e=>by cases e)
  rw[hx]at this
  exact this) (fun v5r x5r u5r hu5r hn5r hR5r=>?_)
 obtain⟨rfl,-⟩:=hR5r
 have hq5:(im w).sub u5r:=hq4.trans hu5r.sub
 refine Ab Aa ?_
 obtain⟨K6,hK6⟩:∃K,K=toksL ⟨#[95,95,76,73,78,69,95,95]⟩:=⟨_,rfl⟩
 refine xl_callO 37 (pvY.d K6) O O O O fn18 O O (fun E w' F h=>by rw[hK6];exact toks_any ⟨#[95,95,76,73,78,69,95,95]⟩ w' (by decide) (hg.sub (hq5.trans (Au h.imm)))) ?_
 refine Ax 18 rfl (fun T6 t6 y6 hy6 hT6 _=>?_)
 have hl6:(pvY.d K6).n=K6.length:=Lay.d_n _ _
 have hz6:(im w).sub y6:=hq5.trans hy6.sub
 obtain⟨R6,hR6⟩:∃R,R=Co 200 [] ⟨#[95,95,76,73,78,69,95,95]⟩ 0:=⟨_,rfl⟩
 have hf6:=en_e6
 rw[←hR6]at hf6
 refine Ar (EndX R6) O O O O fn11 O O (fun E w' F h=>by
  have:=expS_any (f:=200) (n:=0) w' (hg.sub (hz6.trans (Au h.imm))) (none_defs _) (A1:=T6) (c1:=t6) (s:=⟨#[95,95,76,73,78,69,95,95]⟩) (by rw[←hK6,←hl6];exact hT6.sub (Au h.imm)) (by rw[←hR6];exact expE_outOk hf6)
  rw[←hR6,←hK6,←hl6]at this
  exact this) (fun v6r x6r u6r hu6r hn6r hR6r=>?_)
 have hq6:(im w).sub u6r:=hz6.trans hu6r.sub
 obtain⟨P6,p6,L6,rfl,hP6,hsp6,hks6⟩:=end_ok hf6 hR6r
 have hP6:Aw u6r (.slice P6 (List.length L6) p6) (pvY.d L6):=hP6.sub (hn6r.trans (Bl _ _))
 have hc6:L6.length=1:=by have:=congrArg List.length hsp6;rw[List.length_map]at this;exact this
 obtain⟨q6_0,rfl⟩:∃q6_0,L6=[q6_0]:=by
  match L6,hc6 with
  |[a0],_=>exact⟨a0,rfl⟩
 obtain⟨gk,gt,gs,ga,gn,gc⟩:=q6_0
 have hk6:gk=10:=by
  have h:=hks6
  simp only[List.map_cons,List.map_nil,List.filter_cons,List.filter_nil]at h
  split at h
  simpa using h
  cases h
 subst hk6
 refine Ab Aa ?_
 refine xl_slG 141 rfl hP6 ?_
 refine Ab Aa ?_
 refine And.intro (by first|decide|(intro _;decide)|(intro _;show((0:Nat):Int)<((1:Nat):Int);decide)|(show((0:Nat):Int)<((1:Nat):Int);decide)) ?_
 refine And.intro (by first|decide|(intro _;decide)|(intro _;show((0:Nat):Int)<((1:Nat):Int);decide)|(show((0:Nat):Int)<((1:Nat):Int);decide)) ?_
 refine As Aa Bh [⟨#[102,40,97,41,32,97,42,103]⟩,⟨#[103,40,97,41,32,102,40,97,41]⟩] [_,_] O O O O O O O O O O O O O O O ?_
 refine Ax 20 rfl (fun A16 c16 u16a hu16a hA16 _=>?_)
 have hs16a:(im w).sub u16a:=hq6.trans hu16a.sub
 refine Ar (fun v u=>∃A c D,v=.slice A (List.length D) c∧DefsAt u A c D [⟨#[102,40,97,41,32,97,42,103]⟩,⟨#[103,40,97,41,32,102,40,97,41]⟩]) O O O O fn16 O O (fun E w' F h=>defsC_any [⟨#[102,40,97,41,32,97,42,103]⟩,⟨#[103,40,97,41,32,102,40,97,41]⟩] w' A16 c16 (hA16.sub (Au h.imm)) (by decide) (by decide) (hg.sub (hs16a.trans (Au h.imm)))) (fun v16 x16 u16 hu16 hn16 hR16=>?_)
 obtain⟨B16,b16,D16,rfl,hD16⟩:=hR16
 have hs16:(im w).sub u16:=hs16a.trans hu16.sub
 have hE16:DefsAt u16 B16 b16 D16 [⟨#[102,40,97,41,32,97,42,103]⟩,⟨#[103,40,97,41,32,102,40,97,41]⟩]:=hD16.sub (hn16.trans (Bl _ _))
 refine Am (.bool true) O O O O fn15 O O (fun E w' F h=>by
  have:=comes_any (want:=⟨#[50,32,42,32,57,32,42,32,103]⟩) w' (hg.sub (hs16.trans (Au h.imm))) (hE16.sub (Au h.imm)) (by decide) eo_14
  rw[ev_14]at this
  exact this) ?_
 refine Ab Aa ?_
 refine Ci O O O O O ?_
 refine As Aa Bh [⟨#[67,40,97,44,32,98,41,32,97,32,35,35,32,98]⟩,⟨#[65,66,32,67,40,65,44]⟩] [_,_] O O O O O O O O O O O O O O O ?_
 refine Ax 21 rfl (fun A17 c17 u17a hu17a hA17 _=>?_)
 have hs17a:(im w).sub u17a:=hs16.trans hu17a.sub
 refine Ci O O O O O ?_
 refine Ar (fun v u=>∃A c D,v=.slice A (List.length D) c∧DefsAt u A c D [⟨#[67,40,97,44,32,98,41,32,97,32,35,35,32,98]⟩,⟨#[65,66,32,67,40,65,44]⟩]) O O O O fn16 O O (fun E w' F h=>defsC_any [⟨#[67,40,97,44,32,98,41,32,97,32,35,35,32,98]⟩,⟨#[65,66,32,67,40,65,44]⟩] w' A17 c17 (hA17.sub (Au h.imm)) (by decide) (by decide) (hg.sub (hs17a.trans (Au h.imm)))) (fun v17 x17 u17 hu17 hn17 hR17=>?_)
 obtain⟨B17,b17,D17,rfl,hD17⟩:=hR17
 have hs17:(im w).sub u17:=hs17a.trans hu17.sub
 have hE17:DefsAt u17 B17 b17 D17 [⟨#[67,40,97,44,32,98,41,32,97,32,35,35,32,98]⟩,⟨#[65,66,32,67,40,65,44]⟩]:=hD17.sub (hn17.trans (Bl _ _))
 refine Ci O O O O O ?_
 refine Am (.bool true) O O O O fn15 O O (fun E w' F h=>by
  have:=comes_any (want:=⟨#[67,32,40,32,65,32,44,32,66,32,41]⟩) w' (hg.sub (hs17.trans (Au h.imm))) (hE17.sub (Au h.imm)) (by decide) eo_15
  rw[ev_15]at this
  exact this) ?_
 refine Ab Aa ?_
 refine As Aa Bh [⟨#[70,40,97,41,32,120,32,97]⟩] [_] O O O O O O O O O O O O O O O ?_
 refine Ax 22 rfl (fun A18 c18 u18a hu18a hA18 _=>?_)
 have hs18a:(im w).sub u18a:=hs17.trans hu18a.sub
 refine Ar (fun v u=>∃A c D,v=.slice A (List.length D) c∧DefsAt u A c D [⟨#[70,40,97,41,32,120,32,97]⟩]) O O O O fn16 O O (fun E w' F h=>defsC_any [⟨#[70,40,97,41,32,120,32,97]⟩] w' A18 c18 (hA18.sub (Au h.imm)) (by decide) (by decide) (hg.sub (hs18a.trans (Au h.imm)))) (fun v18 x18 u18 hu18 hn18 hR18=>?_)
 obtain⟨B18,b18,D18,rfl,hD18⟩:=hR18
 have hs18:(im w).sub u18:=hs18a.trans hu18.sub
 have hE18:DefsAt u18 B18 b18 D18 [⟨#[70,40,97,41,32,120,32,97]⟩]:=hD18.sub (hn18.trans (Bl _ _))
 obtain⟨K7,hK7⟩:∃K,K=toksL ⟨#[70,40,49,41,32,70,40,32,50,32,51,41]⟩:=⟨_,rfl⟩
 refine xl_callO 37 (pvY.d K7) O O O O fn18 O O (fun E w' F h=>by rw[hK7];exact toks_any ⟨#[70,40,49,41,32,70,40,32,50,32,51,41]⟩ w' (by decide) (hg.sub (hs18.trans (Au h.imm)))) ?_
 refine Ax 23 rfl (fun T7 t7 y7 hy7 hT7 _=>?_)
 have hl7:(pvY.d K7).n=K7.length:=Lay.d_n _ _
 have hz7:(im w).sub y7:=hs18.trans hy7.sub
 obtain⟨R7,hR7⟩:∃R,R=Co 200 [⟨#[70,40,97,41,32,120,32,97]⟩] ⟨#[70,40,49,41,32,70,40,32,50,32,51,41]⟩ 100:=⟨_,rfl⟩
 have hf7:=en_e7
 rw[←hR7]at hf7
 refine Ar (EndX R7) O O O O fn11 O O (fun E w' F h=>by
  have:=expS_any (f:=200) (n:=100) w' (hg.sub (hz7.trans (Au h.imm))) (hE18.sub (hy7.sub.trans (Au h.imm))) (A1:=T7) (c1:=t7) (s:=⟨#[70,40,49,41,32,70,40,32,50,32,51,41]⟩) (by rw[←hK7,←hl7];exact hT7.sub (Au h.imm)) (by rw[←hR7];exact expE_outOk hf7)
  rw[←hR7,←hK7,←hl7]at this
  exact this) (fun v7r x7r u7r hu7r hn7r hR7r=>?_)
 have hq7:(im w).sub u7r:=hz7.trans hu7r.sub
 obtain⟨P7,p7,L7,rfl,hP7,hsp7,hks7⟩:=end_ok hf7 hR7r
 have hP7:Aw u7r (.slice P7 (List.length L7) p7) (pvY.d L7):=hP7.sub (hn7r.trans (Bl _ _))
 have hc7:L7.length=5:=by have:=congrArg List.length hsp7;rw[List.length_map]at this;exact this
 obtain⟨q7_0,q7_1,q7_2,q7_3,q7_4,rfl⟩:∃q7_0 q7_1 q7_2 q7_3 q7_4,L7=[q7_0,q7_1,q7_2,q7_3,q7_4]:=by
  match L7,hc7 with
  |[a0,a1,a2,a3,a4],_=>exact⟨a0,a1,a2,a3,a4,rfl⟩
 obtain⟨k0,x0',s0,a0,n0,d0⟩:=q7_0
 obtain⟨k1,x1',s1,a1,n1,d1⟩:=q7_1
 obtain⟨k2,x2',s2,a2,n2,d2⟩:=q7_2
 obtain⟨k3,x3',s3,a3,n3,d3⟩:=q7_3
 obtain⟨k4,x4',s4,a4,n4,d4⟩:=q7_4
 simp only[List.map_cons,List.map_nil,List.cons.injEq,and_true]at hsp7
 obtain⟨rfl,rfl,rfl,rfl,rfl⟩:=hsp7
 refine Ab Aa ?_
 refine xl_slG 170 rfl hP7 ?_
 refine Ab Aa ?_
 refine And.intro (by first|decide|(intro _;decide)|(intro _;show((0:Nat):Int)<((5:Nat):Int);decide)|(show((0:Nat):Int)<((5:Nat):Int);decide)) ?_
 refine And.intro (by first|decide|(intro _;decide)|(intro _;show((0:Nat):Int)<((5:Nat):Int);decide)|(show((0:Nat):Int)<((5:Nat):Int);decide)) ?_
 refine xl_slG 177 rfl hP7 ?_
 refine Ab Aa ?_
 refine And.intro (by first|decide|(intro _;decide)|(intro _;show((1:Nat):Int)<((5:Nat):Int);decide)|(show((1:Nat):Int)<((5:Nat):Int);decide)) ?_
 refine And.intro (by first|decide|(intro _;decide)|(intro _;show((1:Nat):Int)<((5:Nat):Int);decide)|(show((1:Nat):Int)<((5:Nat):Int);decide)) ?_
 refine xl_slG 183 rfl hP7 ?_
 refine Ab Aa ?_
 refine And.intro (by first|decide|(intro _;decide)|(intro _;show((2:Nat):Int)<((5:Nat):Int);decide)|(show((2:Nat):Int)<((5:Nat):Int);decide)) ?_
 refine And.intro (by first|decide|(intro _;decide)|(intro _;show((2:Nat):Int)<((5:Nat):Int);decide)|(show((2:Nat):Int)<((5:Nat):Int);decide)) ?_
 refine xl_slG 189 rfl hP7 ?_
 refine Ab Aa ?_
 refine And.intro (by first|decide|(intro _;decide)|(intro _;show((3:Nat):Int)<((5:Nat):Int);decide)|(show((3:Nat):Int)<((5:Nat):Int);decide)) ?_
 refine And.intro (by first|decide|(intro _;decide)|(intro _;show((3:Nat):Int)<((5:Nat):Int);decide)|(show((3:Nat):Int)<((5:Nat):Int);decide)) ?_
 refine xl_slG 195 rfl hP7 ?_
 refine Ab Aa ?_
 refine And.intro (by first|decide|(intro _;decide)|(intro _;show((4:Nat):Int)<((5:Nat):Int);decide)|(show((4:Nat):Int)<((5:Nat):Int);decide)) ?_
 refine And.intro (by first|decide|(intro _;decide)|(intro _;show((4:Nat):Int)<((5:Nat):Int);decide)|(show((4:Nat):Int)<((5:Nat):Int);decide)) ?_
 refine Ci O O O O O ?_
 refine Am (.bool true) O O O O fn19 O O (fun E w' F h=>alive6_any w' (hg.sub (hq7.trans (Au h.imm)))) ?_
 refine Ab Aa ?_
 exact Ay (fun _ _=>rfl)
open Go.ChangeShapes Go.WideShapes Go.ChangeAt
theorem own:ownKnob Tryz.prog.godebug=none:=by kernel_rfl
theorem laidOut:laidOutB Tryz.prog=true:=by kernel_rfl
theorem fMaps:mapsRowed Tryz.prog=true:=by kernel_rfl
theorem fHeard:Tryz.prog.stopsHeard=true:=by kernel_rfl
theorem fEnter:Tryz.prog.mayEnter=true:=by kernel_rfl
theorem fLifts:(Rows.expandNamesRow.lifted==Tryz.prog.liftsFinal)=true:=by kernel_rfl
theorem fMake:(Tryz.prog.make==some Rows.expandNamesRow.make)=true:=by kernel_rfl
theorem jmk {a0 a1 a2 a3 a4 a5 a6 a7 a8 a9 a10 a11 a12 a13 a14 a15 a16 a17 a18 a19 a20 a21 a22 a23 a24 a25 a26 a27 a28 a29 a30 a31:Bool} (h0:a0=true) (h1:a1=true) (h2:a2=true) (h3:a3=true) (h4:a4=true) (h5:a5=true) (h6:a6=true) (h7:a7=true) (h8:a8=true) (h9:a9=true) (h10:a10=true) (h11:a11=true) (h12:a12=true) (h13:a13=true) (h14:a14=true) (h15:a15=true) (h16:a16=true) (h17:a17=true) (h18:a18=true) (h19:a19=true) (h20:a20=true) (h21:a21=true) (h22:a22=true) (h23:a23=true) (h24:a24=true) (h25:a25=true) (h26:a26=true) (h27:a27=true) (h28:a28=true) (h29:a29=true) (h30:a30=true) (h31:a31=true) :
 (a0&&a1&&a2&&a3&&a4&&a5&&a6&&a7&&a8&&a9&&a10&&a11&&a12&&a13&&a14&&a15&&a16&&a17&&a18&&a19&&a20&&a21&&a22&&a23&&a24&&a25&&a26&&a27&&a28&&a29&&a30&&a31)=true:=by simp only[h0,h1,h2,h3,h4,h5,h6,h7,h8,h9,h10,h11,h12,h13,h14,h15,h16,h17,h18,h19,h20,h21,h22,h23,h24,h25,h26,h27,h28,h29,h30,h31,Bool.and_self]
theorem lifted (os:Os) (started:os.Started) (H:Type) (enc:TypeId×Value→H) :
 ReturnsInHanded {} Tryz.checked os 4 .any (Rows.expandNamesSpec.pre6 enc Tryz.prog Tryz.f4 Rows.expandNamesRow.domain false) (Rows.expandNamesSpec.post enc Tryz.prog Tryz.f4 false true false false):=by
 refine returnsInHanded_of_change_shaped (C:=Tryz.checked) own started (by kernel_rfl) Tryz.func4
  (ChangeSpec.witness6 (enc:=enc) (C:=Tryz.checked) false ⟨#[],#[],[]⟩ 8 (by kernel_rfl) (by kernel_rfl) (by kernel_rfl) (by kernel_rfl)) ?_
 intro W base args ds gs before hval0 hW hcnd hz hsh _
 have hval:∀(j:Nat) t v,Tryz.f4.params[j]?=some t→args[j]?=some v→Value.okWide Tryz.prog W .any base t v:=hval0
 have hW':=hW
 obtain⟨p,q,hA0,hV,rfl,hfz,hnd⟩:=hW
 have hA:DataW.TrodAll enc Tryz.prog W 0 (fun _=>true) true Tryz.f4.params.toList args.toList ds p:=hA0
 rw[Tryz.params4]at hA hval hz
 obtain⟨hargs,rfl,rfl⟩:=trodAll_nil hA
 obtain rfl:args=#[]:=by cases args;simp_all
 obtain⟨rfl,rfl⟩:=trodVars_none hV
 have hg:Glob (im W):=Tryz.laysM143.s1_3 W hsh
 clear hA0 hval0
 refine(expandNames_any W hg).mono fun e W' ⟨v,he,bel,hv⟩=>?_
 subst he hv
 exact⟨_,rfl,_,_,_,[],_,[],hW',trodAll_mk1 (shut_bool Tryz.underlying4 _),trodAll_mk0,rfl,bel.frame _,fun h=>by cases h⟩
theorem c9:(Rows.expandNamesRow.inPlace==Tryz.prog.inPlace 4)=true:=by kernel_rfl
theorem c10:(Rows.expandNamesRow.unfollowed==Tryz.prog.unfollowed 4)=true:=by kernel_rfl
theorem c11:(Rows.expandNamesRow.recurses==Tryz.prog.recurses 4)=true:=by kernel_rfl
theorem c12:(Rows.expandNamesRow.named==Tryz.prog.varsNamed 4)=true:=by kernel_rfl
theorem closed:joinedFacts Tryz.prog 4 Tryz.f4 Rows.expandNamesSpec Rows.expandNamesRow=true:=
 jmk (by kernel_rfl) laidOut fMaps (by kernel_rfl) (by kernel_rfl) (by kernel_rfl) (by kernel_rfl) (by kernel_rfl) (by kernel_rfl) c9 c10 c11 c12 (by kernel_rfl) (by kernel_rfl) (by kernel_rfl) (by kernel_rfl) (by kernel_rfl) (by kernel_rfl) (by kernel_rfl) (by kernel_rfl) (by kernel_rfl) (by kernel_rfl) (by kernel_rfl) fHeard fEnter fLifts fMake (by kernel_rfl) (by kernel_rfl) (by kernel_rfl) (by kernel_rfl)
theorem named:Tryz.prog.funcNamed Rows.expandNamesRow.func=some 4:=by kernel_rfl
theorem inst:Tryz.f4.isInstance Tryz.prog Rows.expandNamesRow.origin Rows.expandNamesRow.targs:=of_decide_eq_true (by kernel_rfl)
theorem wrap:Tryz.f4.isWrapper Tryz.prog Rows.expandNamesRow.wrapper Rows.expandNamesRow.mainSum:=by unfold Func.isWrapper;first|(rw[if_pos (by decide +kernel)];kernel_rfl)|(rw[if_neg (by decide +kernel)];exact⟨rfl,rfl⟩)
theorem over:Rows.expandNamesRow.holds Tryz.pinned (OpenSpec.ofChange Rows.expandNamesSpec):=
 OpenClaim.holds_of_wide 4 Tryz.f4 O O O O O O O ⟨rfl,rfl,rfl,rfl,rfl⟩ O O O O O named Tryz.func4 closed inst wrap
  (fun os started H enc _=>lifted os started H enc)
theorem expandNames_proved:Rows.ExpandNamesSaid:=over
#print axioms expandNames_proved
end Go.Proofs.YtnjlkdhdinfejaaGreat
