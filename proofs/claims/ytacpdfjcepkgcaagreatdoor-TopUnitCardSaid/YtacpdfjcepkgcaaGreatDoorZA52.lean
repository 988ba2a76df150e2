/- The statement of TopUnit, out of its walk: for any input the law answers true, and the input stays. -/
import Derived.Test.YtacpdfjcepkgcaaGreatDoorZA01
import Derived.Test.YtacpdfjcepkgcaaGreatDoorZA20
import Derived.Test.YtacpdfjcepkgcaaGreatDoorZA51
import Derived.Below
import Derived.Test.YtacpdfjcepkgcaaGreatDoorZA46
import Derived.Test.YtacpdfjcepkgcaaGreatDoorZA21
import Derived.Test.YtacpdfjcepkgcaaGreatDoorRows
import Derived.Test.YtacpdfjcepkgcaaGreatDoorCards
import Derived.Test.YtacpdfjcepkgcaaGreatDoorTie
import Derived.SevenTiedAt
import Derived.ProofKit
import Derived.OpenShut
import Derived.ShutString
import Derived.ChangeOld
import Derived.SizedLaws
import Derived.HandedShaped
set_option linter.unusedSimpArgs false
set_option linter.unusedVariables false
set_option linter.constructorNameAsVariable false
set_option linter.unusedSectionVars false
set_option linter.defProp false
set_option maxRecDepth 100000
set_option maxHeartbeats 40000000
namespace Go.Proofs.YtacpdfjcepkgcaaGreatDoor
open Go Go.CE Go.GV Go.RowKit
def isT (v:AV) (_:H) (_:Pos):Bool:=match v with
 |.b true=>true
 |_=>false
theorem glob0 {W:World} (h:W.ShapedOpen Tryz.prog):∃(cs:Array Value) (z:Int),W.heap[0]?=some (.cells cs 3)∧cs.size=1∧cs[0]?=some (.int .i64 z):=by
 have h0:((begin Tryz.prog (fun _ _=>0) default).world.heap[0]?).bind Obj.row?=some (#[.int .i64 0],3):=by kernel_rfl
 obtain⟨m,hm⟩:=Go.Proofs.cell_of_shapedOpen_int (zero:=#[.int .i64 0]) (t:=3) h (of_decide_eq_true (by kernel_rfl)) h0 rfl (by kernel_rfl) (by kernel_rfl) Tryz.underlying3
 obtain⟨cs,h2,h3,_⟩:=h.1 0 _ 3 (of_decide_eq_true (by kernel_rfl)) h0
 refine⟨cs,m,h2,h3,?_⟩
 unfold World.cell? at hm
 simp only[h2]at hm
 simpa using hm
noncomputable def Vm (z:Int):H:=hs .e (Ay 2) (R5 z)
theorem hg_e (q:Pos):hg .e q=.dead:=by cases q<;>rfl
theorem sat_st0 (z:Int):Go.CE.Sat (Vm z) (.i .h) [(Ay 2,.raw (R5 z))]:=by
 unfold Vm
 refine⟨fun e he=>?_,fun e he=>?_,by simp,fun q hq=>?_⟩
 · rw[Co.1 he]
   exact⟨by rw[E9,if_pos rfl],fun c=>by cases c⟩
 · rw[Co.1 he];show(Ay 2).toN<(Pos.i .h).toN;decide
 · rw[E9,if_neg (fun c=>by subst c;revert hq;decide)]
   exact hg_e q
theorem unit_run (W:World) {cs:Array Value} {z:Int} (hW:W.heap[0]?=some (.cells cs 3)) (hsz:cs.size=1) (hc:cs[0]?=some (.int .i64 z)) (s:ByteArray) {zz:Nat→Int} {bb:Nat→Bool} {x1:Value} (hx1:VR (fun _=>none) (.ag (Pn zz bb)) x1) :
 Calls Tryz.prog 3 #[.string s,x1] W fun e W'=>∃v,e=.returned v∧Below W.heap.size W W'∧v=.bool true:=by
 have hrun:Ai gg 30000000 (fun _ _=>false) (.fn 3 []) [.s (Ep s),.ag (Pn zz bb)] (Vm z) (.i .h) isT=true:=
  unit_ok (Aa rfl) (fun x hx=>by
   rw[Fp]at hx
   obtain⟨y,_,rfl⟩:=Dz.1 hx
   have:=y.toNat_lt
   omega) (Co.2 rfl) (sat_st0 z) fun _ _=>rfl
 let m:Mp:=fun j=>if j=Ay 2 then some ⟨0,0,1⟩else none
 have hm:m (Ay 2)=some ⟨0,0,1⟩:=by simp[m]
 have hmo:∀ {j l},m j=some l→j=Ay 2∧l=⟨0,0,1⟩:=fun {j l} h=>by
  by_cases hj:j=Ay 2
  · subst hj;rw[hm]at h;cases h;exact⟨rfl,rfl⟩
  · simp[m,hj]at h
 have hlt:0<W.heap.size:=(O5.1 hW).1
 have hro:N4 (hg (Vm z) (Ay 2)):=by unfold Vm;rw[E9,if_pos rfl];trivial
 have M:Mem m (Vm z) (.i .h) W:=by
  refine⟨fun id l h=>?_,fun i j k l hi hj _=>.inl ((hmo hi).1.trans (hmo hj).1.symm),fun id l h=>?_,fun id l h=>?_,fun id l h=>?_⟩
  · obtain⟨rfl,rfl⟩:=hmo h
    unfold Vm
    rw[E9,if_pos rfl]
    refine⟨cs,(0,0),hW,hsz,Nat.le_of_eq hsz.symm,fun i hi=>?_,fun c=>by cases c⟩
    obtain rfl:i=0:=by omega
    exact⟨_,hc,.i _ _⟩
  · obtain⟨rfl,rfl⟩:=hmo h;decide
  · obtain⟨rfl,rfl⟩:=hmo h;exact hlt
  · obtain⟨rfl,rfl⟩:=hmo h;rfl
 obtain⟨v,h',nx',hk,hS⟩:=(Ez.no (call_ok gok uok xokg 30000000 _)) _ _ _ _ _ hrun
 have hv:v=.b true:=by
  unfold isT at hk
  split at hk
  · rfl
  · cases hk
 subst hv
 have hx1':VR m (.ag (Pn zz bb)) x1:=hx1.mono fun _ _ h=>by cases h
 obtain⟨d,h1,h2,h3⟩:=hS m W (.func (.func 3) #[] #[]) [.string s,x1] 1 M hm (VR.fnL (.nil m)) (.cons (.s s) (.cons hx1' (.nil m)))
 cases h1
 obtain⟨args,h3⟩:=h3 3 [] rfl (by decide) (by decide)
 have h4:(invoke (.fn (.func 3) #[]) (#[]++#[.string s,x1])).run Tryz.prog W=.ok (.enter 3 #[.string s,x1]) W:=Dx (fn:=Tryz.f3) Tryz.func3 (by kernel_rfl) rfl _ _
 have h7:Vk Tryz.prog (Fin m (Vm z) (.i .h) W (.b true) h' nx') ((invoke (.fn (.func 3) #[]) (#[]++#[.string s,x1])).run Tryz.prog W):=h2
 rw[h4]at h7
 refine(CallsIn.calls (F:=FR none) (n:=0) (CallsIn.mono h7 fun e W' he=>?_) (fun _=>by simp[Fence.room]))
 cases e with
 |panicked _=>exact he.elim
 |outgrown=>exact he.elim
 |returned cv=>
  obtain⟨m',e1,e2,e3⟩:=he
  refine⟨cv,rfl,⟨e3.os,e3.tape,e3.output,e3.size,fun k hk=>e3.old k hk fun id l hl _=>?_⟩,e1.b_inv⟩
  obtain⟨rfl,rfl⟩:=hmo hl
  exact hro
theorem open_style {H:Type} {enc:TypeId×Value→H} {w:World} {cs:Array Value} (hs:cs.size=18) (h:TrZ enc Tryz.prog w 23 cs.toList):∃(zz:Nat→Int) (bb:Nat→Bool),VR (fun _=>none) (.ag (Pn zz bb)) (.agg cs):=by
 obtain⟨c0,c1,c2,c3,c4,c5,c6,c7,c8,c9,Hs,c11,Hr,c13,c14,c15,c16,c17,rfl⟩:∃c0 c1 c2 c3 c4 c5 c6 c7 c8 c9 Hs c11 Hr c13 c14 c15 c16 c17,cs=#[c0,c1,c2,c3,c4,c5,c6,c7,c8,c9,Hs,c11,Hr,c13,c14,c15,c16,c17]:=by
  obtain⟨l⟩:=cs
  match l,hs with
  |[c0,c1,c2,c3,c4,c5,c6,c7,c8,c9,Hs,c11,Hr,c13,c14,c15,c16,c17],_=>exact⟨c0,c1,c2,c3,c4,c5,c6,c7,c8,c9,Hs,c11,Hr,c13,c14,c15,c16,c17,rfl⟩
 obtain⟨_,hc⟩:=h.strct Tryz.underlying23 (by kernel_rfl)
 obtain⟨n0,e0,_⟩:=(hc 0 _ _ rfl rfl).tr.int Tryz.underlying3
 obtain⟨n1,e1,_⟩:=(hc 1 _ _ rfl rfl).tr.int Tryz.underlying3
 obtain⟨n2,e2,_⟩:=(hc 2 _ _ rfl rfl).tr.int Tryz.underlying3
 obtain⟨n3,e3,_⟩:=(hc 3 _ _ rfl rfl).tr.int Tryz.underlying3
 obtain⟨n4,e4⟩:=(hc 4 _ _ rfl rfl).tr.bool Tryz.underlying4
 obtain⟨n5,e5⟩:=(hc 5 _ _ rfl rfl).tr.bool Tryz.underlying4
 obtain⟨n6,e6⟩:=(hc 6 _ _ rfl rfl).tr.bool Tryz.underlying4
 obtain⟨n7,e7,_⟩:=(hc 7 _ _ rfl rfl).tr.int Tryz.underlying3
 obtain⟨n8,e8,_⟩:=(hc 8 _ _ rfl rfl).tr.int Tryz.underlying3
 obtain⟨n9,e9,_⟩:=(hc 9 _ _ rfl rfl).tr.int Tryz.underlying3
 obtain⟨n10,e10,_⟩:=(hc 10 _ _ rfl rfl).tr.int Tryz.underlying3
 obtain⟨n11,e11,_⟩:=(hc 11 _ _ rfl rfl).tr.int Tryz.underlying3
 obtain⟨n12,e12,_⟩:=(hc 12 _ _ rfl rfl).tr.int Tryz.underlying3
 obtain⟨n13,e13,_⟩:=(hc 13 _ _ rfl rfl).tr.int Tryz.underlying3
 obtain⟨n14,e14,_⟩:=(hc 14 _ _ rfl rfl).tr.int Tryz.underlying3
 obtain⟨n15,e15,_⟩:=(hc 15 _ _ rfl rfl).tr.int Tryz.underlying3
 obtain⟨n16,e16,_⟩:=(hc 16 _ _ rfl rfl).tr.int Tryz.underlying3
 obtain⟨n17,e17,_⟩:=(hc 17 _ _ rfl rfl).tr.int Tryz.underlying3
 simp only[List.cons.injEq,and_true]at e0 e1 e2 e3 e4 e5 e6 e7 e8 e9 e10 e11 e12 e13 e14 e15 e16 e17
 subst e0 e1 e2 e3 e4 e5 e6 e7 e8 e9 e10 e11 e12 e13 e14 e15 e16 e17
 refine⟨fun j=>match j with|0=>n0|1=>n1|2=>n2|3=>n3|7=>n7|8=>n8|9=>n9|10=>n10|11=>n11|12=>n12|13=>n13|14=>n14|15=>n15|16=>n16|17=>n17|_=>0,fun j=>match j with|4=>n4|5=>n5|6=>n6|_=>false,?_⟩
 refine VR.ag _ _ rfl fun i a v ha hv=>?_
 have hi:i<18:=by
  have:=(O5.1 hv).1
  simpa using this
 match i,hi with
 |0,_=>obtain rfl:=Ce ha;obtain rfl:=Ce hv;exact .i _ _
 |1,_=>obtain rfl:=Ce ha;obtain rfl:=Ce hv;exact .i _ _
 |2,_=>obtain rfl:=Ce ha;obtain rfl:=Ce hv;exact .i _ _
 |3,_=>obtain rfl:=Ce ha;obtain rfl:=Ce hv;exact .i _ _
 |4,_=>obtain rfl:=Ce ha;obtain rfl:=Ce hv;exact .b _
 |5,_=>obtain rfl:=Ce ha;obtain rfl:=Ce hv;exact .b _
 |6,_=>obtain rfl:=Ce ha;obtain rfl:=Ce hv;exact .b _
 |7,_=>obtain rfl:=Ce ha;obtain rfl:=Ce hv;exact .i _ _
 |8,_=>obtain rfl:=Ce ha;obtain rfl:=Ce hv;exact .i _ _
 |9,_=>obtain rfl:=Ce ha;obtain rfl:=Ce hv;exact .i _ _
 |10,_=>obtain rfl:=Ce ha;obtain rfl:=Ce hv;exact .i _ _
 |11,_=>obtain rfl:=Ce ha;obtain rfl:=Ce hv;exact .i _ _
 |12,_=>obtain rfl:=Ce ha;obtain rfl:=Ce hv;exact .i _ _
 |13,_=>obtain rfl:=Ce ha;obtain rfl:=Ce hv;exact .i _ _
 |14,_=>obtain rfl:=Ce ha;obtain rfl:=Ce hv;exact .i _ _
 |15,_=>obtain rfl:=Ce ha;obtain rfl:=Ce hv;exact .i _ _
 |16,_=>obtain rfl:=Ce ha;obtain rfl:=Ce hv;exact .i _ _
 |17,_=>obtain rfl:=Ce ha;obtain rfl:=Ce hv;exact .i _ _
open Go.ChangeShapes Go.WideShapes Go.ChangeAt Go.RowKit Go.GV
theorem We (os:Os) (started:os.Started) (H:Type) (enc:TypeId×Value→H) :
 ReturnsInHanded {} Tryz.checked os 3 .any (fun w args=>(Rows.topUnitSpec.pre enc Tryz.prog Tryz.f3 [] false w args∧laidMetH Tryz.prog lstR w)∧sizedMet enc Tryz.prog Tryz.f3 (OpenSpec.ofChange Rows.topUnitSpec) false w args)
  (Rows.topUnitSpec.post enc Tryz.prog Tryz.f3 false true false false):=by
 refine Jr (C:=Tryz.checked) (X:=fun w _=>laidMetH Tryz.prog lstR w) (fun _ _ _ hh h=>h.of_heap hh) own started (by kernel_rfl) Tryz.func3
  (ChangeSpec.witness_at (enc:=enc) (C:=Tryz.checked) (os:=os) (X:=fun w _=>laidMetH Tryz.prog lstR w) false (World.laidAll Tryz.prog os lstR) #[.string ⟨#[]⟩,.agg #[.int .i64 0,.int .i64 0,.int .i64 0,.int .i64 0,.bool false,.bool false,.bool false,.int .i64 0,.int .i64 0,.int .i64 0,.int .i64 0,.int .i64 0,.int .i64 0,.int .i64 0,.int .i64 0,.int .i64 0,.int .i64 0,.int .i64 0]] 8 (lstRB os) (by kernel_rfl) (by kernel_rfl) (by kernel_rfl) (by kernel_rfl) (by kernel_rfl) (metR os _)) ?_
 intro W base args ds gs before hval0 hW hcnd hz hL hsh _
 have hval:∀(j:Nat) t v,Tryz.f3.params[j]?=some t→args[j]?=some v→Value.okWide Tryz.prog W .any base t v:=hval0
 have hW':=hW
 obtain⟨p,q,hA0,hV,rfl,hfz,hnd⟩:=hW
 have hA:DataW.TrodAll enc Tryz.prog W 0 (fun _=>true) true Tryz.f3.params.toList args.toList ds p:=hA0
 rw[Tryz.params3]at hA hval hz
 obtain⟨v0,vs0,d0,ds0,p0,q0,hargs,rfl,rfl,h0,r0⟩:=trodAll_cons hA
 obtain⟨v1,vs1,d1,ds1,p1,q1,rfl,rfl,rfl,h1,r1⟩:=trodAll_cons r0
 obtain⟨rfl,rfl,rfl⟩:=trodAll_nil r1
 obtain rfl:args=#[v0,v1]:=by cases args;simp_all
 obtain⟨rfl,rfl⟩:=trodVars_none hV
 obtain⟨x0,rfl⟩:=okWide_string Tryz.underlying9 (hval 0 9 v0 rfl rfl)
 obtain⟨x1,rfl,hs1⟩:=okWide_struct Tryz.underlying23 (hval 1 23 v1 rfl rfl)
 have lt0:∀x∈p0,x.block<W.heap.size:=by obtain⟨m,hm⟩:=h0;exact DataW.trod_lt m _ _ _ hm
 have lt1:∀x∈p1,x.block<W.heap.size:=by obtain⟨m,hm⟩:=h1;exact DataW.trod_lt m _ _ _ hm
 have hc1:x1.size=18:=hs1.trans (by kernel_rfl)
 have hT1:TrZ enc Tryz.prog W 23 x1.toList:=TrZ.of (j:=1) hz rfl rfl h1
 obtain⟨zz,bb,hx⟩:=open_style hc1 hT1
 obtain⟨gs0,gz,g1,g2,g3⟩:=glob0 hsh
 clear hA0 hval0
 refine(unit_run W g1 g2 g3 x0 hx).mono fun e W' ⟨v,he,bel,hv⟩=>?_
 subst he hv
 exact⟨_,rfl,_,_,_,[],_,[],hW',trodAll_mk1 (shut_bool Tryz.underlying4 _),(trodAll_cons_mk (Below.trod Z0 (by kernel_rfl) (of_decide_eq_true (by kernel_rfl)) h0 bel lt0) (trodAll_cons_mk (Below.trod Z0 (by kernel_rfl) (of_decide_eq_true (by kernel_rfl)) h1 bel lt1) trodAll_mk0)),rfl,bel.frame _,fun h=>by cases h⟩
theorem c93:(Rows.topUnitRow.inPlace==Tryz.prog.inPlace 3)=true:=by kernel_rfl
theorem c103:(Rows.topUnitRow.unfollowed==Tryz.prog.unfollowed 3)=true:=by kernel_rfl
theorem c113:(Rows.topUnitRow.recurses==Tryz.prog.recurses 3)=true:=by kernel_rfl
theorem c123:(Rows.topUnitRow.named==Tryz.prog.varsNamed 3)=true:=by kernel_rfl
theorem closed3:joinedFacts Tryz.prog 3 Tryz.f3 Rows.topUnitSpec Rows.topUnitRow=true:=
 jmk (by kernel_rfl) Z0 fMaps (by kernel_rfl) (by kernel_rfl) (by kernel_rfl) (by kernel_rfl) (by kernel_rfl) (by kernel_rfl) c93 c103 c113 c123 (by kernel_rfl) (by kernel_rfl) (by kernel_rfl) (by kernel_rfl) (by kernel_rfl) (by kernel_rfl) (by kernel_rfl) (by kernel_rfl) (by kernel_rfl) (by kernel_rfl) (by kernel_rfl) fHeard fEnter fLifts fMake (by kernel_rfl) (by kernel_rfl) (by kernel_rfl) (by kernel_rfl)
theorem named3:Tryz.prog.funcNamed Rows.topUnitRow.func=some 3:=by kernel_rfl
theorem inst3:Tryz.f3.isInstance Tryz.prog Rows.topUnitRow.origin Rows.topUnitRow.targs:=of_decide_eq_true (by kernel_rfl)
theorem wrap3:Tryz.f3.isWrapper Tryz.prog Rows.topUnitRow.wrapper Rows.topUnitRow.mainSum:=by unfold Func.isWrapper;first|(rw[if_pos (by decide +kernel)];kernel_rfl)|(rw[if_neg (by decide +kernel)];exact⟨rfl,rfl⟩)
theorem over3:Rows.topUnitRow.holds Tryz.pinned (OpenSpec.ofChange Rows.topUnitSpec):=
 OpenClaim.holds_of_wide 3 Tryz.f3 rfl rfl rfl rfl rfl rfl rfl ⟨rfl,rfl,rfl,rfl,rfl⟩ rfl rfl rfl rfl rfl named3 Tryz.func3 closed3 inst3 wrap3
  (fun os started H enc _=>We os started H enc)
theorem topUnit_card:Rows.TopUnitCardSaid:=
 Claim7.holds_tied_plain_at .later [] [.data,.pinned] true (true, "ba8e0c912d6cb2e8b85c99cb0ea1598793af790adfd8ef59eafca5da2bcdaf47") true
  over3 (fun _ h=>by cases h) (by kernel_rfl) (fun _ h=>by cases h) topUnit_row_tie rfl ⟨rfl,rfl⟩ (by kernel_rfl) rfl
  (fun f fn hf hfn=>by
    obtain rfl:f=3:=Ce (named3.symm.trans hf) |>.symm
    obtain rfl:fn=Tryz.f3:=(Ce (Tryz.func3.symm.trans hfn)).symm
    exact⟨by kernel_rfl,fun j t ht=>by
     rw[Tryz.params3]at ht
     have hm:=Array.mem_of_getElem? ht
     simp at hm
     rcases hm with rfl|rfl
     · exact(show Tryz.prog.wantsStandIn 9=false by kernel_rfl)
     · exact(show Tryz.prog.wantsStandIn 23=false by kernel_rfl)⟩)
  (by kernel_rfl)
#print axioms topUnit_card
end Go.Proofs.YtacpdfjcepkgcaaGreatDoor
