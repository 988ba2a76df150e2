/- Part 27 of the lemmas behind the claim. -/
import Derived.Test.YtacpdfjcepkgcaaGreatDoorZA01
import Derived.Test.YtacpdfjcepkgcaaGreatDoorZA26
set_option linter.unusedSimpArgs false
set_option linter.unusedVariables false
set_option linter.constructorNameAsVariable false
set_option linter.unusedSectionVars false
set_option linter.defProp false
set_option maxRecDepth 100000
set_option maxHeartbeats 40000000
namespace Go.CE
open Go Go.Ps Go.Proofs.YtacpdfjcepkgcaaGreatDoor
attribute [local irreducible] loopK Ai K0 N2 Dg fits rd rd1 wr newC Kj Fk Fa Ve
variable {E : PEnv} {m : Nat}
theorem w_expr (AA:∀m',m'≤m→ALL E m'):C5 E (m+1) .expr 134 []:=by
 have A:=AA m (Ag _)
 intro n d hd hn kp h nx k s R Q Fl P hW hk hf
 refine Ab (d:=m+1+d) hn (by omega) fun mm hm=>?_
 have hW:W (Ah (run m) .expr E.l s) Q Fl False:=hW
 simp only[Ah]at hW
 (try simp only[Ak,ite_self]at hW)
 repeat' ((conv=>lhs;whnf);first
  |contradiction
  |(refine B4 (by omega) ‹_› (Ac.1 hW) (fun h' nx' hW P=>?_);(try simp only[Ak,ite_self]at hW))
  |refine Bl ‹_› rfl fun h1 P=>?_
  |refine B5 ‹_› 0 rfl (Aa rfl) (by first|rfl|exact Ba ‹_›) fun h1 P=>?_
  |refine An ‹_› 0 rfl (Aa rfl) ?_
  |refine An ‹_› 1 rfl (Aa rfl) ?_
  |refine An ‹_› 2 rfl (Aa rfl) ?_
  |refine Af ‹_› 0 rfl (Aa rfl) ?_
  |refine Af ‹_› 1 rfl (Aa rfl) ?_
  |refine Af ‹_› 2 rfl (Aa rfl) ?_
  |refine Bd ‹_› fun hat=>?_
  |refine Bv (by(try simp only[Aj]at *);omega) ?_
  |(refine Cy ‹_› (Ac.1 hW) rfl fun s' h' hW P=>?_;(try simp only[Ak,ite_self]at hW))
  |(refine Ca (b:=⟨_,_⟩) (by omega) ‹_› (by first|omega|exact(Aa rfl)) (Ac.1 hW) fun s' h' nx' hW P=>?_;(try simp only[Ak,ite_self]at hW))
  |(refine A.assign _ _ hd (by omega) _ _ _ _ _ _ _ _ ‹_› (Ac.1 hW) (fun v s' h' nx' hW P=>?_) (fun f h2 n2 s2 P2=>hf f _ _ _ (PI.sb P2));(try simp only[Ak,ite_self]at hW))
  |(refine A.assign _ _ hd (by omega) _ _ _ _ _ _ _ _ ‹_› hW (fun v s' h' nx' hW P=>?_) (fun f h2 n2 s2 P2=>hf f _ _ _ (PI.sb P2));(try simp only[Ak,ite_self]at hW))
  |exact hk _ _ _ _ hW (PI.sb ‹_›))
 conv=>lhs;whnf
 refine Br (L:=[0,2]) rfl (fun m' vs d' h' nx'=>∃(σ:PS) (bx:Pos) (st:Stt),d'=[]∧vs=[.p E.pp 0,.p bx 0]∧m'≤m∧W (run m' (.exprL st) E.l σ) Q Fl False∧PI E h' nx' σ ((bx,.row [iA st.f,iA st.b] 68)::R)) (m) (by omega) ⟨_,_,_,rfl,rfl,Ag _,hW,PI.sb ‹_›⟩ ?_
 rintro m' _ d' h' nx' ⟨σ,bx,st,rfl,rfl,hm',hW,P⟩ k' hn' hx
 cases m' with
 |zero=>exact hW.elim
 |succ m'=>
 have A2:=AA m' (by omega)
 have hW:W (Ah (run m') (.exprL st) E.l σ) Q Fl False:=hW
 simp only[Ah]at hW
 (try simp only[Ak,ite_self]at hW)
 repeat' ((conv=>lhs;whnf);first
  |contradiction
  |refine hx _ _ _ _ _ trivial ?_
  |(refine hn' _ _ _ _ m' (by omega) ⟨_,_,_,rfl,rfl,by omega,hW,PI.sb ‹_›⟩)
  |(refine A2.assign _ _ hd (by omega) _ _ _ _ _ _ _ _ ‹_› (Ac.1 hW) (fun v s' h' nx' hW P=>?_) (fun f h2 n2 s2 P2=>hf f _ _ _ (PI.sb P2));(try simp only[Ak,ite_self]at hW))
  |(refine A2.assign _ _ hd (by omega) _ _ _ _ _ _ _ _ ‹_› hW (fun v s' h' nx' hW P=>?_) (fun f h2 n2 s2 P2=>hf f _ _ _ (PI.sb P2));(try simp only[Ak,ite_self]at hW))
  |(refine B4 (by omega) ‹_› (Ac.1 hW) (fun h' nx' hW P=>?_);(try simp only[Ak,ite_self]at hW))
  |refine Bl ‹_› rfl fun h1 P=>?_
  |refine B5 ‹_› 0 rfl (Aa rfl) (by first|rfl|exact Ba ‹_›) fun h1 P=>?_
  |refine An ‹_› 0 rfl (Aa rfl) ?_
  |refine An ‹_› 1 rfl (Aa rfl) ?_
  |refine An ‹_› 2 rfl (Aa rfl) ?_
  |refine Af ‹_› 0 rfl (Aa rfl) ?_
  |refine Af ‹_› 1 rfl (Aa rfl) ?_
  |refine Af ‹_› 2 rfl (Aa rfl) ?_
  |refine Bd ‹_› fun hat=>?_
  |refine Bv (by(try simp only[Aj]at *);omega) ?_
  |(refine Cy ‹_› (Ac.1 hW) rfl fun s' h' hW P=>?_;(try simp only[Ak,ite_self]at hW))
  |(refine Ca (b:=⟨_,_⟩) (by omega) ‹_› (by first|omega|exact(Aa rfl)) (Ac.1 hW) fun s' h' nx' hW P=>?_;(try simp only[Ak,ite_self]at hW))
  |(refine Dl (by omega) ‹_› (Ac.1 hW) fun b s' h' nx' hW P=>?_;cases b<;>(try simp only[Ak,ite_self]at hW))
  |exact hk _ _ _ _ hW (PI.sb ‹_›))
theorem w_call (AA:∀m',m'≤m→ALL E m'):C5 E (m+1) .call 239 []:=by
 have A:=AA m (Ag _)
 intro n d hd hn kp h nx k s R Q Fl P hW hk hf
 refine Ab (d:=m+1+d) hn (by omega) fun mm hm=>?_
 have hW:W (Ah (run m) .call E.l s) Q Fl False:=hW
 simp only[Ah]at hW
 (try simp only[Ak,ite_self]at hW)
 repeat' ((conv=>lhs;whnf);first
  |contradiction
  |(refine Dd (by omega) ‹_› (Ac.1 hW) (fun s' h' nx' hW P=>?_) (fun f h2 n2 s2 P2=>hf f _ _ _ (PI.sb P2));(try simp only[Ak,ite_self]at hW))
  |(refine Dl (by omega) ‹_› (Ac.1 hW) fun b s' h' nx' hW P=>?_;cases b<;>(try simp only[Ak,ite_self]at hW))
  |(refine A.assign _ _ hd (by omega) _ _ _ _ _ _ _ _ ‹_› (Ac.1 hW) (fun v s' h' nx' hW P=>?_) (fun f h2 n2 s2 P2=>hf f _ _ _ (PI.sb P2));(try simp only[Ak,ite_self]at hW))
  |(refine A.assign _ _ hd (by omega) _ _ _ _ _ _ _ _ ‹_› hW (fun v s' h' nx' hW P=>?_) (fun f h2 n2 s2 P2=>hf f _ _ _ (PI.sb P2));(try simp only[Ak,ite_self]at hW))
  |exact hk _ _ _ _ hW (PI.sb ‹_›))
 conv=>lhs;whnf
 refine Br (L:=[0]) rfl (fun m' vs d' h' nx'=>∃(σ:PS),d'=[]∧vs=[.p E.pp 0]∧m'≤m∧W (run m' .callL E.l σ) Q Fl False∧PI E h' nx' σ R) (m) (by omega) ⟨_,rfl,rfl,Ag _,hW,PI.sb ‹_›⟩ ?_
 rintro m' _ d' h' nx' ⟨σ,rfl,rfl,hm',hW,P⟩ k' hn' hx
 cases m' with
 |zero=>exact hW.elim
 |succ m'=>
 have A2:=AA m' (by omega)
 have hW:W (Ah (run m') .callL E.l σ) Q Fl False:=hW
 simp only[Ah]at hW
 (try simp only[Ak,ite_self]at hW)
 repeat' ((conv=>lhs;whnf);first
  |contradiction
  |refine hx _ _ _ _ _ trivial ?_
  |(refine hn' _ _ _ _ m' (by omega) ⟨_,rfl,rfl,by omega,hW,PI.sb ‹_›⟩)
  |(refine A2.assign _ _ hd (by omega) _ _ _ _ _ _ _ _ ‹_› (Ac.1 hW) (fun v s' h' nx' hW P=>?_) (fun f h2 n2 s2 P2=>hf f _ _ _ (PI.sb P2));(try simp only[Ak,ite_self]at hW))
  |(refine A2.assign _ _ hd (by omega) _ _ _ _ _ _ _ _ ‹_› hW (fun v s' h' nx' hW P=>?_) (fun f h2 n2 s2 P2=>hf f _ _ _ (PI.sb P2));(try simp only[Ak,ite_self]at hW))
  |(refine Dl (by omega) ‹_› (Ac.1 hW) fun b s' h' nx' hW P=>?_;cases b<;>(try simp only[Ak,ite_self]at hW))
  |(refine Dd (by omega) ‹_› (Ac.1 hW) (fun s' h' nx' hW P=>?_) (fun f h2 n2 s2 P2=>hf f _ _ _ (PI.sb P2));(try simp only[Ak,ite_self]at hW))
  |exact hk _ _ _ _ hW (PI.sb ‹_›))
theorem w_strings (AA:∀m',m'≤m→ALL E m'):C5 E (m+1) .strings 80 []:=by
 have A:=AA m (Ag _)
 intro n d hd hn kp h nx k s R Q Fl P hW hk hf
 refine Ab (d:=m+1+d) hn (by omega) fun mm hm=>?_
 have hW:W (Ah (run m) .strings E.l s) Q Fl False:=hW
 simp only[Ah]at hW
 (try simp only[Ak,ite_self]at hW)
 repeat' ((conv=>lhs;whnf);first
  |contradiction
  |(refine H3 (by omega) ‹_› (Ac.1 hW) fun t h' nx' hW P=>?_;(try simp only[Ak,ite_self]at hW))
  |(refine new (fun hc hz=>?_) (fun hc hz=>?_)<;>(try rewrite [hc])<;>(first|simp only[if_pos hz]at hW|simp only[if_neg hz]at hW|rw[if_pos ‹_›]at hW|rw[if_neg ‹_›]at hW|rw[if_pos (by(try simp only[Aj]at *);omega)]at hW|rw[if_neg (by(try simp only[Aj]at *);omega)]at hW|skip)<;>(try simp only[Ak,ite_self]at hW))
  |(refine Cu (fun hc hz=>?_) (fun hc hz=>?_)<;>(try rewrite [hc])<;>(first|simp only[if_pos hz]at hW|simp only[if_neg hz]at hW|rw[if_pos ‹_›]at hW|rw[if_neg ‹_›]at hW|rw[if_pos (by(try simp only[Aj]at *);omega)]at hW|rw[if_neg (by(try simp only[Aj]at *);omega)]at hW|skip)<;>(try simp only[Ak,ite_self]at hW))
  |refine Iw ‹_› (by omega) (fun h2 n2 s2 P2=>hf hW h2 n2 s2 (PI.sb P2))
  |exact hk _ _ _ _ hW (PI.sb ‹_›))
 conv=>lhs;whnf
 refine Br (L:=[0]) rfl (fun m' vs d' h' nx'=>∃(σ:PS),d'=[]∧vs=[.p E.pp 0]∧m'≤m∧W (run m' .stringsL E.l σ) Q Fl False∧PI E h' nx' σ R) (m) (by omega) ⟨_,rfl,rfl,Ag _,hW,PI.sb ‹_›⟩ ?_
 rintro m' _ d' h' nx' ⟨σ,rfl,rfl,hm',hW,P⟩ k' hn' hx
 cases m' with
 |zero=>exact hW.elim
 |succ m'=>
 have A2:=AA m' (by omega)
 have hW:W (Ah (run m') .stringsL E.l σ) Q Fl False:=hW
 simp only[Ah]at hW
 (try simp only[Ak,ite_self]at hW)
 repeat' ((conv=>lhs;whnf);first
  |contradiction
  |refine hx _ _ _ _ _ trivial ?_
  |(refine hn' _ _ _ _ m' (by omega) ⟨_,rfl,rfl,by omega,hW,PI.sb ‹_›⟩)
  |(refine H3 (by omega) ‹_› (Ac.1 hW) fun t h' nx' hW P=>?_;(try simp only[Ak,ite_self]at hW))
  |(refine Cu (fun hc hz=>?_) (fun hc hz=>?_)<;>(try rewrite [hc])<;>(first|simp only[if_pos hz]at hW|simp only[if_neg hz]at hW|rw[if_pos ‹_›]at hW|rw[if_neg ‹_›]at hW|rw[if_pos (by(try simp only[Aj]at *);omega)]at hW|rw[if_neg (by(try simp only[Aj]at *);omega)]at hW|skip)<;>(try simp only[Ak,ite_self]at hW))
  |refine Bd ‹_› fun hat=>?_
  |refine Bv (by(try simp only[Aj]at *);omega) ?_
  |(refine Cy ‹_› (Ac.1 hW) rfl fun s' h' hW P=>?_;(try simp only[Ak,ite_self]at hW))
  |exact hk _ _ _ _ hW (PI.sb ‹_›))
theorem w_generic (AA:∀m',m'≤m→ALL E m'):C5 E (m+1) .generic 240 []:=by
 have A:=AA m (Ag _)
 intro n d hd hn kp h nx k s R Q Fl P hW hk hf
 refine Ab (d:=m+1+d) hn (by omega) fun mm hm=>?_
 have hW:W (Ah (run m) .generic E.l s) Q Fl False:=hW
 simp only[Ah]at hW
 (try simp only[Ak,ite_self]at hW)
 repeat' ((conv=>lhs;whnf);first
  |contradiction
  |(refine Dd (by omega) ‹_› (Ac.1 hW) (fun s' h' nx' hW P=>?_) (fun f h2 n2 s2 P2=>hf f _ _ _ (PI.sb P2));(try simp only[Ak,ite_self]at hW))
  |(refine A.assign _ _ hd (by omega) _ _ _ _ _ _ _ _ ‹_› (Ac.1 hW) (fun v s' h' nx' hW P=>?_) (fun f h2 n2 s2 P2=>hf f _ _ _ (PI.sb P2));(try simp only[Ak,ite_self]at hW))
  |(refine A.assign _ _ hd (by omega) _ _ _ _ _ _ _ _ ‹_› hW (fun v s' h' nx' hW P=>?_) (fun f h2 n2 s2 P2=>hf f _ _ _ (PI.sb P2));(try simp only[Ak,ite_self]at hW))
  |(refine A.assoc _ _ hd (by omega) _ _ _ _ _ _ _ _ ‹_› (Ac.1 hW) (fun v s' h' nx' hW P=>?_) (fun f h2 n2 s2 P2=>hf f _ _ _ (PI.sb P2));(try simp only[Ak,ite_self]at hW))
  |(refine A.assoc _ _ hd (by omega) _ _ _ _ _ _ _ _ ‹_› hW (fun v s' h' nx' hW P=>?_) (fun f h2 n2 s2 P2=>hf f _ _ _ (PI.sb P2));(try simp only[Ak,ite_self]at hW))
  |exact hk _ _ _ _ hW (PI.sb ‹_›))
 conv=>lhs;whnf
 refine Br (L:=[0]) rfl (fun m' vs d' h' nx'=>∃(σ:PS),d'=[]∧vs=[.p E.pp 0]∧m'≤m∧W (run m' .genericL E.l σ) Q Fl False∧PI E h' nx' σ R) (m) (by omega) ⟨_,rfl,rfl,Ag _,hW,PI.sb ‹_›⟩ ?_
 rintro m' _ d' h' nx' ⟨σ,rfl,rfl,hm',hW,P⟩ k' hn' hx
 cases m' with
 |zero=>exact hW.elim
 |succ m'=>
 have A2:=AA m' (by omega)
 have hW:W (Ah (run m') .genericL E.l σ) Q Fl False:=hW
 simp only[Ah]at hW
 (try simp only[Ak,ite_self]at hW)
 repeat' ((conv=>lhs;whnf);first
  |contradiction
  |refine hx _ _ _ _ _ trivial ?_
  |(refine hn' _ _ _ _ m' (by omega) ⟨_,rfl,rfl,by omega,hW,PI.sb ‹_›⟩)
  |(refine A2.assoc _ _ hd (by omega) _ _ _ _ _ _ _ _ ‹_› (Ac.1 hW) (fun v s' h' nx' hW P=>?_) (fun f h2 n2 s2 P2=>hf f _ _ _ (PI.sb P2));(try simp only[Ak,ite_self]at hW))
  |(refine A2.assoc _ _ hd (by omega) _ _ _ _ _ _ _ _ ‹_› hW (fun v s' h' nx' hW P=>?_) (fun f h2 n2 s2 P2=>hf f _ _ _ (PI.sb P2));(try simp only[Ak,ite_self]at hW))
  |(refine Dl (by omega) ‹_› (Ac.1 hW) fun b s' h' nx' hW P=>?_;cases b<;>(try simp only[Ak,ite_self]at hW))
  |(refine Dd (by omega) ‹_› (Ac.1 hW) (fun s' h' nx' hW P=>?_) (fun f h2 n2 s2 P2=>hf f _ _ _ (PI.sb P2));(try simp only[Ak,ite_self]at hW))
  |exact hk _ _ _ _ hW (PI.sb ‹_›))
theorem w_moreInits (AA:∀m',m'≤m→ALL E m') (td:Bool):C5 E (m+1) (.moreInits td) 44 [.b td]:=by
 have A:=AA m (Ag _)
 intro n d hd hn kp h nx k s R Q Fl P hW hk hf
 refine Ab (d:=m+1+d) hn (by omega) fun mm hm=>?_
 conv=>lhs;whnf
 refine Br (L:=[0,1]) rfl (fun m' vs d' h' nx'=>∃(σ:PS),d'=[]∧vs=[.p E.pp 0,.b td]∧m'≤m+1∧W (run m' (.moreInits td) E.l σ) Q Fl False∧PI E h' nx' σ R) (m+1) (by omega) ⟨_,rfl,rfl,Ag _,hW,PI.sb ‹_›⟩ ?_
 rintro m' _ d' h' nx' ⟨σ,rfl,rfl,hm',hW,P⟩ k' hn' hx
 cases m' with
 |zero=>exact hW.elim
 |succ m'=>
 have A2:=AA m' (by omega)
 have hW:W (Ah (run m') (.moreInits td) E.l σ) Q Fl False:=hW
 simp only[Ah]at hW
 (try simp only[Ak,ite_self]at hW)
 repeat' ((conv=>lhs;whnf);first
  |contradiction
  |refine hx _ _ _ _ _ trivial ?_
  |(refine hn' _ _ _ _ m' (by omega) ⟨_,rfl,rfl,by omega,hW,PI.sb ‹_›⟩)
  |(refine A2.init _ _ _ hd (by omega) _ _ _ _ _ _ _ _ ‹_› (Ac.1 hW) (fun v s' h' nx' hW P=>?_) (fun f h2 n2 s2 P2=>hf f _ _ _ (PI.sb P2));(try simp only[Ak,ite_self]at hW))
  |(refine A2.init _ _ _ hd (by omega) _ _ _ _ _ _ _ _ ‹_› hW (fun v s' h' nx' hW P=>?_) (fun f h2 n2 s2 P2=>hf f _ _ _ (PI.sb P2));(try simp only[Ak,ite_self]at hW))
  |(refine Dl (by omega) ‹_› (Ac.1 hW) fun b s' h' nx' hW P=>?_;cases b<;>(try simp only[Ak,ite_self]at hW))
  |exact hk _ _ _ _ hW (PI.sb ‹_›))
theorem w_braces (AA:∀m',m'≤m→ALL E m'):C5 E (m+1) .braces 148 []:=by
 have A:=AA m (Ag _)
 intro n d hd hn kp h nx k s R Q Fl P hW hk hf
 refine Ab (d:=m+1+d) hn (by omega) fun mm hm=>?_
 have hW:W (Ah (run m) .braces E.l s) Q Fl False:=hW
 simp only[Ah]at hW
 (try simp only[Ak,ite_self]at hW)
 repeat' ((conv=>lhs;whnf);first
  |contradiction
  |(refine B4 (by omega) ‹_› (Ac.1 hW) (fun h' nx' hW P=>?_);(try simp only[Ak,ite_self]at hW))
  |refine Bl ‹_› rfl fun h1 P=>?_
  |refine B5 ‹_› 0 rfl (Aa rfl) (by first|rfl|exact Ba ‹_›) fun h1 P=>?_
  |refine An ‹_› 0 rfl (Aa rfl) ?_
  |refine An ‹_› 1 rfl (Aa rfl) ?_
  |refine An ‹_› 2 rfl (Aa rfl) ?_
  |refine Af ‹_› 0 rfl (Aa rfl) ?_
  |refine Af ‹_› 1 rfl (Aa rfl) ?_
  |refine Af ‹_› 2 rfl (Aa rfl) ?_
  |refine Bd ‹_› fun hat=>?_
  |refine Bv (by(try simp only[Aj]at *);omega) ?_
  |(refine Cy ‹_› (Ac.1 hW) rfl fun s' h' hW P=>?_;(try simp only[Ak,ite_self]at hW))
  |(refine Ca (b:=⟨_,_⟩) (by omega) ‹_› (by first|omega|exact(Aa rfl)) (Ac.1 hW) fun s' h' nx' hW P=>?_;(try simp only[Ak,ite_self]at hW))
  |(refine Dd (by omega) ‹_› (Ac.1 hW) (fun s' h' nx' hW P=>?_) (fun f h2 n2 s2 P2=>hf f _ _ _ (PI.sb P2));(try simp only[Ak,ite_self]at hW))
  |(refine A.item _ _ hd (by omega) _ _ _ _ _ _ _ _ ‹_› (Ac.1 hW) (fun v s' h' nx' hW P=>?_) (fun f h2 n2 s2 P2=>hf f _ _ _ (PI.sb P2));(try simp only[Ak,ite_self]at hW))
  |(refine A.item _ _ hd (by omega) _ _ _ _ _ _ _ _ ‹_› hW (fun v s' h' nx' hW P=>?_) (fun f h2 n2 s2 P2=>hf f _ _ _ (PI.sb P2));(try simp only[Ak,ite_self]at hW))
  |exact hk _ _ _ _ hW (PI.sb ‹_›))
 conv=>lhs;whnf
 obtain⟨Q2,hW,hQ2⟩:=Fz hW
 refine Br (L:=[0,2]) rfl (fun m' vs d' h' nx'=>∃(σ:PS) (bx:Pos),d'=[]∧vs=[.p E.pp 0,.p bx 0]∧m'≤m∧W (run m' .bracesL E.l σ) Q2 Fl False∧PI E h' nx' σ ((bx,.row [iA s.at',iA s.done.length] 68)::R)) (m) (by omega) ⟨_,_,rfl,rfl,Ag _,hW,PI.sb ‹_›⟩ ?_
 rintro m' _ d' h' nx' ⟨σ,bx,rfl,rfl,hm',hW,P⟩ k' hn' hx
 cases m' with
 |zero=>exact hW.elim
 |succ m'=>
 have A2:=AA m' (by omega)
 have hW:W (Ah (run m') .bracesL E.l σ) Q2 Fl False:=hW
 simp only[Ah]at hW
 (try simp only[Ak,ite_self]at hW)
 repeat' ((conv=>lhs;whnf);first
  |contradiction
  |(refine hx _ _ _ _ _ trivial ?_;have hW:=hQ2 _ _ hW;(try simp only[Ak,ite_self]at hW))
  |(refine hn' _ _ _ _ m' (by omega) ⟨_,_,rfl,rfl,by omega,hW,PI.sb ‹_›⟩)
  |(refine A2.item _ _ hd (by omega) _ _ _ _ _ _ _ _ ‹_› (Ac.1 hW) (fun v s' h' nx' hW P=>?_) (fun f h2 n2 s2 P2=>hf f _ _ _ (PI.sb P2));(try simp only[Ak,ite_self]at hW))
  |(refine A2.item _ _ hd (by omega) _ _ _ _ _ _ _ _ ‹_› hW (fun v s' h' nx' hW P=>?_) (fun f h2 n2 s2 P2=>hf f _ _ _ (PI.sb P2));(try simp only[Ak,ite_self]at hW))
  |(refine B4 (by omega) ‹_› (Ac.1 hW) (fun h' nx' hW P=>?_);(try simp only[Ak,ite_self]at hW))
  |refine Bl ‹_› rfl fun h1 P=>?_
  |refine B5 ‹_› 0 rfl (Aa rfl) (by first|rfl|exact Ba ‹_›) fun h1 P=>?_
  |refine An ‹_› 0 rfl (Aa rfl) ?_
  |refine An ‹_› 1 rfl (Aa rfl) ?_
  |refine An ‹_› 2 rfl (Aa rfl) ?_
  |refine Af ‹_› 0 rfl (Aa rfl) ?_
  |refine Af ‹_› 1 rfl (Aa rfl) ?_
  |refine Af ‹_› 2 rfl (Aa rfl) ?_
  |refine Bd ‹_› fun hat=>?_
  |refine Bv (by(try simp only[Aj]at *);omega) ?_
  |(refine Cy ‹_› (Ac.1 hW) rfl fun s' h' hW P=>?_;(try simp only[Ak,ite_self]at hW))
  |(refine Ca (b:=⟨_,_⟩) (by omega) ‹_› (by first|omega|exact(Aa rfl)) (Ac.1 hW) fun s' h' nx' hW P=>?_;(try simp only[Ak,ite_self]at hW))
  |(refine Dl (by omega) ‹_› (Ac.1 hW) fun b s' h' nx' hW P=>?_;cases b<;>(try simp only[Ak,ite_self]at hW))
  |(refine Gb (by omega) ‹_› (Ac.1 hW) fun b h' nx' hW P=>?_;cases b<;>(try simp only[Ak,ite_self]at hW))
  |(refine Dd (by omega) ‹_› (Ac.1 hW) (fun s' h' nx' hW P=>?_) (fun f h2 n2 s2 P2=>hf f _ _ _ (PI.sb P2));(try simp only[Ak,ite_self]at hW))
  |exact hk _ _ _ _ hW (PI.sb ‹_›))
theorem w_item (AA:∀m',m'≤m→ALL E m'):C5 E (m+1) .item 189 []:=by
 have A:=AA m (Ag _)
 intro n d hd hn kp h nx k s R Q Fl P hW hk hf
 refine Ab (d:=m+1+d) hn (by omega) fun mm hm=>?_
 have hW:W (Ah (run m) .item E.l s) Q Fl False:=hW
 simp only[Ah]at hW
 (try simp only[Ak,ite_self]at hW)
 repeat' ((conv=>lhs;whnf);first
  |contradiction
  |(refine B4 (by omega) ‹_› (Ac.1 hW) (fun h' nx' hW P=>?_);(try simp only[Ak,ite_self]at hW))
  |refine Bl ‹_› rfl fun h1 P=>?_
  |refine B5 ‹_› 0 rfl (Aa rfl) (by first|rfl|exact Ba ‹_›) fun h1 P=>?_
  |refine An ‹_› 0 rfl (Aa rfl) ?_
  |refine An ‹_› 1 rfl (Aa rfl) ?_
  |refine An ‹_› 2 rfl (Aa rfl) ?_
  |refine Af ‹_› 0 rfl (Aa rfl) ?_
  |refine Af ‹_› 1 rfl (Aa rfl) ?_
  |refine Af ‹_› 2 rfl (Aa rfl) ?_
  |refine Bd ‹_› fun hat=>?_
  |refine Bv (by(try simp only[Aj]at *);omega) ?_
  |(refine Cy ‹_› (Ac.1 hW) rfl fun s' h' hW P=>?_;(try simp only[Ak,ite_self]at hW))
  |(refine Ca (b:=⟨_,_⟩) (by omega) ‹_› (by first|omega|exact(Aa rfl)) (Ac.1 hW) fun s' h' nx' hW P=>?_;(try simp only[Ak,ite_self]at hW))
  |(refine Dd (by omega) ‹_› (Ac.1 hW) (fun s' h' nx' hW P=>?_) (fun f h2 n2 s2 P2=>hf f _ _ _ (PI.sb P2));(try simp only[Ak,ite_self]at hW))
  |(refine A.desig _ _ hd (by omega) _ _ _ _ _ _ _ _ ‹_› (Ac.1 hW) (fun b v s' h' nx' hb hW P=>?_) (fun f h2 n2 s2 P2=>hf f _ _ _ (PI.sb P2));(try rw[hb]at hW);cases b<;>(try simp only[Ak,ite_self]at hW))
  |(refine A.desig _ _ hd (by omega) _ _ _ _ _ _ _ _ ‹_› hW (fun b v s' h' nx' hb hW P=>?_) (fun f h2 n2 s2 P2=>hf f _ _ _ (PI.sb P2));(try rw[hb]at hW);cases b<;>(try simp only[Ak,ite_self]at hW))
  |(refine A.initializer _ _ hd (by omega) _ _ _ _ _ _ _ _ ‹_› (Ac.1 hW) (fun v s' h' nx' hW P=>?_) (fun f h2 n2 s2 P2=>hf f _ _ _ (PI.sb P2));(try simp only[Ak,ite_self]at hW))
  |(refine A.initializer _ _ hd (by omega) _ _ _ _ _ _ _ _ ‹_› hW (fun v s' h' nx' hW P=>?_) (fun f h2 n2 s2 P2=>hf f _ _ _ (PI.sb P2));(try simp only[Ak,ite_self]at hW))
  |exact hk _ _ _ _ hW (PI.sb ‹_›))
 conv=>lhs;whnf
 obtain⟨Q2,hW,hQ2⟩:=Fz hW
 refine Br (L:=[0,2]) rfl (fun m' vs d' h' nx'=>∃(σ:PS) (bx:Pos),d'=[]∧vs=[.p E.pp 0,.p bx 0]∧m'≤m∧W (run m' .itemL E.l σ) Q2 Fl False∧PI E h' nx' σ ((bx,.row [iA s.at',iA s.done.length] 68)::R)) (m) (by omega) ⟨_,_,rfl,rfl,Ag _,hW,PI.sb ‹_›⟩ ?_
 rintro m' _ d' h' nx' ⟨σ,bx,rfl,rfl,hm',hW,P⟩ k' hn' hx
 cases m' with
 |zero=>exact hW.elim
 |succ m'=>
 have A2:=AA m' (by omega)
 have hW:W (Ah (run m') .itemL E.l σ) Q2 Fl False:=hW
 simp only[Ah]at hW
 (try simp only[Ak,ite_self]at hW)
 repeat' ((conv=>lhs;whnf);first
  |contradiction
  |(refine hx _ _ _ _ _ trivial ?_;have hW:=hQ2 _ _ hW;(try simp only[Ak,ite_self]at hW))
  |(refine hn' _ _ _ _ m' (by omega) ⟨_,_,rfl,rfl,by omega,hW,PI.sb ‹_›⟩)
  |(refine A2.desig _ _ hd (by omega) _ _ _ _ _ _ _ _ ‹_› (Ac.1 hW) (fun b v s' h' nx' hb hW P=>?_) (fun f h2 n2 s2 P2=>hf f _ _ _ (PI.sb P2));(try rw[hb]at hW);cases b<;>(try simp only[Ak,ite_self]at hW))
  |(refine A2.desig _ _ hd (by omega) _ _ _ _ _ _ _ _ ‹_› hW (fun b v s' h' nx' hb hW P=>?_) (fun f h2 n2 s2 P2=>hf f _ _ _ (PI.sb P2));(try rw[hb]at hW);cases b<;>(try simp only[Ak,ite_self]at hW))
  |(refine B4 (by omega) ‹_› (Ac.1 hW) (fun h' nx' hW P=>?_);(try simp only[Ak,ite_self]at hW))
  |refine Bl ‹_› rfl fun h1 P=>?_
  |refine B5 ‹_› 0 rfl (Aa rfl) (by first|rfl|exact Ba ‹_›) fun h1 P=>?_
  |refine An ‹_› 0 rfl (Aa rfl) ?_
  |refine An ‹_› 1 rfl (Aa rfl) ?_
  |refine An ‹_› 2 rfl (Aa rfl) ?_
  |refine Af ‹_› 0 rfl (Aa rfl) ?_
  |refine Af ‹_› 1 rfl (Aa rfl) ?_
  |refine Af ‹_› 2 rfl (Aa rfl) ?_
  |refine Bd ‹_› fun hat=>?_
  |refine Bv (by(try simp only[Aj]at *);omega) ?_
  |(refine Cy ‹_› (Ac.1 hW) rfl fun s' h' hW P=>?_;(try simp only[Ak,ite_self]at hW))
  |(refine Ca (b:=⟨_,_⟩) (by omega) ‹_› (by first|omega|exact(Aa rfl)) (Ac.1 hW) fun s' h' nx' hW P=>?_;(try simp only[Ak,ite_self]at hW))
  |(refine Dd (by omega) ‹_› (Ac.1 hW) (fun s' h' nx' hW P=>?_) (fun f h2 n2 s2 P2=>hf f _ _ _ (PI.sb P2));(try simp only[Ak,ite_self]at hW))
  |(refine A.initializer _ _ hd (by omega) _ _ _ _ _ _ _ _ ‹_› (Ac.1 hW) (fun v s' h' nx' hW P=>?_) (fun f h2 n2 s2 P2=>hf f _ _ _ (PI.sb P2));(try simp only[Ak,ite_self]at hW))
  |(refine A.initializer _ _ hd (by omega) _ _ _ _ _ _ _ _ ‹_› hW (fun v s' h' nx' hW P=>?_) (fun f h2 n2 s2 P2=>hf f _ _ _ (PI.sb P2));(try simp only[Ak,ite_self]at hW))
  |exact hk _ _ _ _ hW (PI.sb ‹_›))
theorem w_items (AA:∀m',m'≤m→ALL E m'):C5 E (m+1) .items 94 []:=by
 have A:=AA m (Ag _)
 intro n d hd hn kp h nx k s R Q Fl P hW hk hf
 refine Ab (d:=m+1+d) hn (by omega) fun mm hm=>?_
 have hW:W (Ah (run m) .items E.l s) Q Fl False:=hW
 simp only[Ah]at hW
 (try simp only[Ak,ite_self]at hW)
 repeat' ((conv=>lhs;whnf);first
  |contradiction
  |(refine B4 (by omega) ‹_› (Ac.1 hW) (fun h' nx' hW P=>?_);(try simp only[Ak,ite_self]at hW))
  |refine Bl ‹_› rfl fun h1 P=>?_
  |refine B5 ‹_› 0 rfl (Aa rfl) (by first|rfl|exact Ba ‹_›) fun h1 P=>?_
  |refine An ‹_› 0 rfl (Aa rfl) ?_
  |refine An ‹_› 1 rfl (Aa rfl) ?_
  |refine An ‹_› 2 rfl (Aa rfl) ?_
  |refine Af ‹_› 0 rfl (Aa rfl) ?_
  |refine Af ‹_› 1 rfl (Aa rfl) ?_
  |refine Af ‹_› 2 rfl (Aa rfl) ?_
  |refine Bd ‹_› fun hat=>?_
  |refine Bv (by(try simp only[Aj]at *);omega) ?_
  |(refine Cy ‹_› (Ac.1 hW) rfl fun s' h' hW P=>?_;(try simp only[Ak,ite_self]at hW))
  |(refine Ca (b:=⟨_,_⟩) (by omega) ‹_› (by first|omega|exact(Aa rfl)) (Ac.1 hW) fun s' h' nx' hW P=>?_;(try simp only[Ak,ite_self]at hW))
  |(refine Dd (by omega) ‹_› (Ac.1 hW) (fun s' h' nx' hW P=>?_) (fun f h2 n2 s2 P2=>hf f _ _ _ (PI.sb P2));(try simp only[Ak,ite_self]at hW))
  |exact hk _ _ _ _ hW (PI.sb ‹_›))
 conv=>lhs;whnf
 obtain⟨Q2,hW,hQ2⟩:=Fz hW
 refine Br (L:=[0,2]) rfl (fun m' vs d' h' nx'=>∃(σ:PS) (bx:Pos),d'=[]∧vs=[.p E.pp 0,.p bx 0]∧m'≤m∧W (run m' .itemsL E.l σ) Q2 Fl False∧PI E h' nx' σ ((bx,.row [iA s.at',iA s.done.length] 68)::R)) (m) (by omega) ⟨_,_,rfl,rfl,Ag _,hW,PI.sb ‹_›⟩ ?_
 rintro m' _ d' h' nx' ⟨σ,bx,rfl,rfl,hm',hW,P⟩ k' hn' hx
 cases m' with
 |zero=>exact hW.elim
 |succ m'=>
 have A2:=AA m' (by omega)
 have hW:W (Ah (run m') .itemsL E.l σ) Q2 Fl False:=hW
 simp only[Ah]at hW
 (try simp only[Ak,ite_self]at hW)
 repeat' ((conv=>lhs;whnf);first
  |contradiction
  |(refine hx _ _ _ _ _ trivial ?_;have hW:=hQ2 _ _ hW;(try simp only[Ak,ite_self]at hW))
  |(refine hn' _ _ _ _ m' (by omega) ⟨_,_,rfl,rfl,by omega,hW,PI.sb ‹_›⟩)
  |(refine A2.declaration _ _ hd (by omega) _ _ _ _ _ _ _ _ ‹_› (Ac.1 hW) (fun v s' h' nx' hW P=>?_) (fun f h2 n2 s2 P2=>hf f _ _ _ (PI.sb P2));(try simp only[Ak,ite_self]at hW))
  |(refine A2.declaration _ _ hd (by omega) _ _ _ _ _ _ _ _ ‹_› hW (fun v s' h' nx' hW P=>?_) (fun f h2 n2 s2 P2=>hf f _ _ _ (PI.sb P2));(try simp only[Ak,ite_self]at hW))
  |(refine A2.statement _ _ hd (by omega) _ _ _ _ _ _ _ _ ‹_› (Ac.1 hW) (fun v s' h' nx' hW P=>?_) (fun f h2 n2 s2 P2=>hf f _ _ _ (PI.sb P2));(try simp only[Ak,ite_self]at hW))
  |(refine A2.statement _ _ hd (by omega) _ _ _ _ _ _ _ _ ‹_› hW (fun v s' h' nx' hW P=>?_) (fun f h2 n2 s2 P2=>hf f _ _ _ (PI.sb P2));(try simp only[Ak,ite_self]at hW))
  |(refine B4 (by omega) ‹_› (Ac.1 hW) (fun h' nx' hW P=>?_);(try simp only[Ak,ite_self]at hW))
  |refine Bl ‹_› rfl fun h1 P=>?_
  |refine B5 ‹_› 0 rfl (Aa rfl) (by first|rfl|exact Ba ‹_›) fun h1 P=>?_
  |refine An ‹_› 0 rfl (Aa rfl) ?_
  |refine An ‹_› 1 rfl (Aa rfl) ?_
  |refine An ‹_› 2 rfl (Aa rfl) ?_
  |refine Af ‹_› 0 rfl (Aa rfl) ?_
  |refine Af ‹_› 1 rfl (Aa rfl) ?_
  |refine Af ‹_› 2 rfl (Aa rfl) ?_
  |refine Bd ‹_› fun hat=>?_
  |refine Bv (by(try simp only[Aj]at *);omega) ?_
  |(refine Cy ‹_› (Ac.1 hW) rfl fun s' h' hW P=>?_;(try simp only[Ak,ite_self]at hW))
  |(refine Ca (b:=⟨_,_⟩) (by omega) ‹_› (by first|omega|exact(Aa rfl)) (Ac.1 hW) fun s' h' nx' hW P=>?_;(try simp only[Ak,ite_self]at hW))
  |(refine Dl (by omega) ‹_› (Ac.1 hW) fun b s' h' nx' hW P=>?_;cases b<;>(try simp only[Ak,ite_self]at hW))
  |(refine Uj (by omega) ‹_› (Ac.1 hW) fun b h' nx' hW P=>?_;cases b<;>(try simp only[Ak,ite_self]at hW))
  |(refine U1 (by omega) ‹_› (Ac.1 hW) fun b h' nx' hW P=>?_;cases b<;>(try simp only[Ak,ite_self]at hW))
  |exact hk _ _ _ _ hW (PI.sb ‹_›))
theorem Yr (AA:∀m',m'≤m→ALL E m'):O8 E (m+1) .qualifiers 89 []:=by
 have A:=AA m (Ag _)
 intro n d hd hn kp h nx k s R Q Fl P hW hk hf
 refine Ab (d:=m+1+d) hn (by omega) fun mm hm=>?_
 have hW:W (Ah (run m) .qualifiers E.l s) Q Fl False:=hW
 simp only[Ah]at hW
 (try simp only[Ak,ite_self]at hW)
 repeat' ((conv=>lhs;whnf);first
  |contradiction
  |refine Bd ‹_› fun hat=>?_
  |(refine hk _ _ _ _ _ ?_ hW (PI.sb ‹_›);first|rfl|assumption|exact Sc))
 conv=>lhs;whnf
 obtain⟨Q2,hW,hQ2⟩:=Fz hW
 refine Br (L:=[0,3]) rfl (fun m' vs d' h' nx'=>∃(σ:PS),d'=[]∧vs=[.p E.pp 0,iA s.at']∧m'≤m∧W (run m' .qualL E.l σ) Q2 Fl False∧PI E h' nx' σ R) (m) (by omega) ⟨_,rfl,rfl,Ag _,hW,PI.sb ‹_›⟩ ?_
 rintro m' _ d' h' nx' ⟨σ,rfl,rfl,hm',hW,P⟩ k' hn' hx
 cases m' with
 |zero=>exact hW.elim
 |succ m'=>
 have A2:=AA m' (by omega)
 have hW:W (Ah (run m') .qualL E.l σ) Q2 Fl False:=hW
 simp only[Ah]at hW
 (try simp only[Ak,ite_self]at hW)
 repeat' ((conv=>lhs;whnf);first
  |contradiction
  |(refine hx _ _ _ _ _ trivial ?_;have hW:=hQ2 _ _ hW;(try simp only[Ak,ite_self]at hW))
  |(refine hn' _ _ _ _ m' (by omega) ⟨_,rfl,rfl,by omega,hW,PI.sb ‹_›⟩)
  |(refine H3 (by omega) ‹_› (Ac.1 hW) fun t h' nx' hW P=>?_;(try simp only[Ak,ite_self]at hW))
  |refine Bl ‹_› rfl fun h1 P=>?_
  |refine B5 ‹_› 0 rfl (Aa rfl) (by first|rfl|exact Ba ‹_›) fun h1 P=>?_
  |refine Af ‹_› 0 rfl (Aa rfl) ?_
  |refine An ‹_› 0 rfl (Aa rfl) ?_
  |refine Bd ‹_› fun hat=>?_
  |refine Bv (by(try simp only[Aj]at *);omega) ?_
  |(refine Cy ‹_› (Ac.1 hW) rfl fun s' h' hW P=>?_;(try simp only[Ak,ite_self]at hW))
  |(refine Po (by omega) (fun y hy=>?_);(try rw[←hy]at hW))
  |(refine Cu (fun hc hz=>?_) (fun hc hz=>?_)<;>(try rewrite [hc])<;>(first|simp only[if_pos hz]at hW|simp only[if_neg hz]at hW|rw[if_pos ‹_›]at hW|rw[if_neg ‹_›]at hW|rw[if_pos (by(try simp only[Aj]at *);omega)]at hW|rw[if_neg (by(try simp only[Aj]at *);omega)]at hW|skip)<;>(try simp only[Ak,ite_self]at hW))
  |(refine new (fun hc hz=>?_) (fun hc hz=>?_)<;>(try rewrite [hc])<;>(first|simp only[if_pos hz]at hW|simp only[if_neg hz]at hW|rw[if_pos ‹_›]at hW|rw[if_neg ‹_›]at hW|rw[if_pos (by(try simp only[Aj]at *);omega)]at hW|rw[if_neg (by(try simp only[Aj]at *);omega)]at hW|skip)<;>(try simp only[Ak,ite_self]at hW))
  |(refine Sm (by omega) ‹_› (Ac.1 hW) fun b h' nx' hW P=>?_;cases b<;>(try simp only[Ak,ite_self]at hW))
  |(refine bw (fun hc=>?_) (fun hc=>?_)<;>(try rewrite [hc])<;>(try rw[hc]at hW)<;>(try simp only[Ak,ite_self]at hW))
  |(refine hk _ _ _ _ _ ?_ hW (PI.sb ‹_›);first|rfl|assumption|exact Sc))
theorem w_binary (AA:∀m',m'≤m→ALL E m') (Gi:Nat) (hl:Gi≤46):O8 E (m+1) (.binary Gi) 133 [iA Gi]:=by
 have A:=AA m (Ag _)
 intro n d hd hn kp h nx k s R Q Fl P hW hk hf
 refine Ab (d:=m+1+d) hn (by omega) fun mm hm=>?_
 have hW:W (Ah (run m) (.binary Gi) E.l s) Q Fl False:=hW
 simp only[Ah]at hW
 (try simp only[Ak,ite_self]at hW)
 repeat' ((conv=>lhs;whnf);first
  |contradiction
  |(refine B4 (by omega) ‹_› (Ac.1 hW) (fun h' nx' hW P=>?_);(try simp only[Ak,ite_self]at hW))
  |refine Bl ‹_› rfl fun h1 P=>?_
  |refine B5 ‹_› 0 rfl (Aa rfl) (by first|rfl|exact Ba ‹_›) fun h1 P=>?_
  |refine An ‹_› 0 rfl (Aa rfl) ?_
  |refine An ‹_› 1 rfl (Aa rfl) ?_
  |refine An ‹_› 2 rfl (Aa rfl) ?_
  |refine Af ‹_› 0 rfl (Aa rfl) ?_
  |refine Af ‹_› 1 rfl (Aa rfl) ?_
  |refine Af ‹_› 2 rfl (Aa rfl) ?_
  |refine Bd ‹_› fun hat=>?_
  |refine Bv (by(try simp only[Aj]at *);omega) ?_
  |(refine Cy ‹_› (Ac.1 hW) rfl fun s' h' hW P=>?_;(try simp only[Ak,ite_self]at hW))
  |(refine Ca (b:=⟨_,_⟩) (by omega) ‹_› (by first|omega|exact(Aa rfl)) (Ac.1 hW) fun s' h' nx' hW P=>?_;(try simp only[Ak,ite_self]at hW))
  |(refine A.cast _ _ hd (by omega) _ _ _ _ _ _ _ _ ‹_› (Ac.1 hW) (fun b v s' h' nx' hb hW P=>?_) (fun f h2 n2 s2 P2=>hf f _ _ _ (PI.sb P2));(try rw[hb]at hW);cases b<;>(try simp only[Ak,ite_self]at hW))
  |(refine A.cast _ _ hd (by omega) _ _ _ _ _ _ _ _ ‹_› hW (fun b v s' h' nx' hb hW P=>?_) (fun f h2 n2 s2 P2=>hf f _ _ _ (PI.sb P2));(try rw[hb]at hW);cases b<;>(try simp only[Ak,ite_self]at hW))
  |(refine hk _ _ _ _ _ ?_ hW (PI.sb ‹_›);first|rfl|assumption|exact Sc))
 all_goals
  conv=>lhs;whnf
  refine Br (L:=[0,1,5,6]) rfl (fun m' vs d' h' nx'=>∃(σ:PS) (bx:Pos) (st:Stt) (u:Bool),d'=[]∧vs=[.p E.pp 0,iA Gi,.p bx 0,.b u]∧m'≤m∧W (run m' (.binaryL Gi st u) E.l σ) Q Fl False∧PI E h' nx' σ ((bx,.row [iA st.f,iA st.b] 68)::R)) (m) (by omega) ⟨_,_,_,_,rfl,rfl,Ag _,hW,PI.sb ‹_›⟩ ?_
  rintro m' _ d' h' nx' ⟨σ,bx,st,u,rfl,rfl,hm',hW,P⟩ k' hn' hx
  cases m' with
  |zero=>exact hW.elim
  |succ m'=>
  have A2:=AA m' (by omega)
  have hW:W (Ah (run m') (.binaryL Gi st u) E.l σ) Q Fl False:=hW
  simp only[Ah]at hW
  (try simp only[Ak,ite_self]at hW)
  repeat' ((conv=>lhs;whnf);first
   |contradiction
   |refine hx _ _ _ _ _ trivial ?_
   |(refine hn' _ _ _ _ m' (by omega) ⟨_,_,_,_,rfl,rfl,by omega,hW,PI.sb ‹_›⟩)
   |(refine B4 (by omega) ‹_› (Ac.1 hW) (fun h' nx' hW P=>?_);(try simp only[Ak,ite_self]at hW))
   |refine Bl ‹_› rfl fun h1 P=>?_
   |refine B5 ‹_› 0 rfl (Aa rfl) (by first|rfl|exact Ba ‹_›) fun h1 P=>?_
   |refine An ‹_› 0 rfl (Aa rfl) ?_
   |refine An ‹_› 1 rfl (Aa rfl) ?_
   |refine An ‹_› 2 rfl (Aa rfl) ?_
   |refine Af ‹_› 0 rfl (Aa rfl) ?_
   |refine Af ‹_› 1 rfl (Aa rfl) ?_
   |refine Af ‹_› 2 rfl (Aa rfl) ?_
   |refine Bd ‹_› fun hat=>?_
   |refine Bv (by(try simp only[Aj]at *);omega) ?_
   |(refine Cy ‹_› (Ac.1 hW) rfl fun s' h' hW P=>?_;(try simp only[Ak,ite_self]at hW))
   |(refine Ca (b:=⟨_,_⟩) (by omega) ‹_› (by first|omega|exact(Aa rfl)) (Ac.1 hW) fun s' h' nx' hW P=>?_;(try simp only[Ak,ite_self]at hW))
   |(refine level_w (by omega) ‹_› (Ac.1 hW) fun z h' nx' hz45 hW P=>?_;(try simp only[Ak,ite_self]at hW))
   |(refine C4 (fun hc hz=>?_) (fun hc hz=>?_)<;>(try rewrite [hc])<;>(first|rw[if_pos (by(try simp only[Aj]at *);omega)]at hW|rw[if_neg (by(try simp only[Aj]at *);omega)]at hW|skip)<;>(try simp only[Ak,ite_self]at hW))
   |(refine A2.binary (z+1) (by omega) _ _ hd (by omega) _ _ _ _ _ _ _ _ ‹_› (Ac.1 hW) (fun b v s' h' nx' hb hW P=>?_) (fun f h2 n2 s2 P2=>hf f _ _ _ (PI.sb P2));clear hb;(try simp only[Ak,ite_self]at hW))
   |(refine hk _ _ _ _ _ ?_ hW (PI.sb ‹_›);first|rfl|assumption|exact Sc))
theorem w_applied (AA:∀m',m'≤m→ALL E m') (st:Stt):C5 E (m+1) (.applied st) 232 [stA st]:=by
 have A:=AA m (Ag _)
 intro n d hd hn kp h nx k s R Q Fl P hW hk hf
 refine Ab (d:=m+1+d) hn (by omega) fun mm hm=>?_
 repeat' ((conv=>lhs;whnf);first
  |contradiction
  |refine Bl ‹_› rfl fun h1 P=>?_
  |exact hk _ _ _ _ hW (PI.sb ‹_›))
 conv=>lhs;whnf
 refine Br (L:=[0,3]) rfl (fun m' vs d' h' nx'=>∃(σ:PS) (bx:Pos),d'=[]∧vs=[.p E.pp 0,.p bx 0]∧m'≤m+1∧W (run m' (.applied st) E.l σ) Q Fl False∧PI E h' nx' σ ((bx,.row [iA st.f,iA st.b] 68)::R)) (m+1) (by omega) ⟨_,_,rfl,rfl,Ag _,hW,PI.sb ‹_›⟩ ?_
 rintro m' _ d' h' nx' ⟨σ,bx,rfl,rfl,hm',hW,P⟩ k' hn' hx
 cases m' with
 |zero=>exact hW.elim
 |succ m'=>
 have A2:=AA m' (by omega)
 have hW:W (Ah (run m') (.applied st) E.l σ) Q Fl False:=hW
 simp only[Ah]at hW
 (try simp only[Ak,ite_self]at hW)
 repeat' ((conv=>lhs;whnf);first
  |contradiction
  |refine hx _ _ _ _ _ trivial ?_
  |(refine hn' _ _ _ _ m' (by omega) ⟨_,_,rfl,rfl,by omega,hW,PI.sb ‹_›⟩)
  |(refine A2.expr _ _ hd (by omega) _ _ _ _ _ _ _ _ ‹_› (Ac.1 hW) (fun v s' h' nx' hW P=>?_) (fun f h2 n2 s2 P2=>hf f _ _ _ (PI.sb P2));(try simp only[Ak,ite_self]at hW))
  |(refine A2.expr _ _ hd (by omega) _ _ _ _ _ _ _ _ ‹_› hW (fun v s' h' nx' hW P=>?_) (fun f h2 n2 s2 P2=>hf f _ _ _ (PI.sb P2));(try simp only[Ak,ite_self]at hW))
  |(refine A2.call _ _ hd (by omega) _ _ _ _ _ _ _ _ ‹_› (Ac.1 hW) (fun v s' h' nx' hW P=>?_) (fun f h2 n2 s2 P2=>hf f _ _ _ (PI.sb P2));(try simp only[Ak,ite_self]at hW))
  |(refine A2.call _ _ hd (by omega) _ _ _ _ _ _ _ _ ‹_› hW (fun v s' h' nx' hW P=>?_) (fun f h2 n2 s2 P2=>hf f _ _ _ (PI.sb P2));(try simp only[Ak,ite_self]at hW))
  |(refine B4 (by omega) ‹_› (Ac.1 hW) (fun h' nx' hW P=>?_);(try simp only[Ak,ite_self]at hW))
  |refine Bl ‹_› rfl fun h1 P=>?_
  |refine B5 ‹_› 0 rfl (Aa rfl) (by first|rfl|exact Ba ‹_›) fun h1 P=>?_
  |refine An ‹_› 0 rfl (Aa rfl) ?_
  |refine An ‹_› 1 rfl (Aa rfl) ?_
  |refine An ‹_› 2 rfl (Aa rfl) ?_
  |refine Af ‹_› 0 rfl (Aa rfl) ?_
  |refine Af ‹_› 1 rfl (Aa rfl) ?_
  |refine Af ‹_› 2 rfl (Aa rfl) ?_
  |refine Bd ‹_› fun hat=>?_
  |refine Bv (by(try simp only[Aj]at *);omega) ?_
  |(refine Cy ‹_› (Ac.1 hW) rfl fun s' h' hW P=>?_;(try simp only[Ak,ite_self]at hW))
  |(refine Ca (b:=⟨_,_⟩) (by omega) ‹_› (by first|omega|exact(Aa rfl)) (Ac.1 hW) fun s' h' nx' hW P=>?_;(try simp only[Ak,ite_self]at hW))
  |(refine H3 (by omega) ‹_› (Ac.1 hW) fun t h' nx' hW P=>?_;(try simp only[Ak,ite_self]at hW))
  |(refine Cu (fun hc hz=>?_) (fun hc hz=>?_)<;>(try rewrite [hc])<;>(first|simp only[if_pos hz]at hW|simp only[if_neg hz]at hW|rw[if_pos ‹_›]at hW|rw[if_neg ‹_›]at hW|rw[if_pos (by(try simp only[Aj]at *);omega)]at hW|rw[if_neg (by(try simp only[Aj]at *);omega)]at hW|skip)<;>(try simp only[Ak,ite_self]at hW))
  |(refine new (fun hc hz=>?_) (fun hc hz=>?_)<;>(try rewrite [hc])<;>(first|simp only[if_pos hz]at hW|simp only[if_neg hz]at hW|rw[if_pos ‹_›]at hW|rw[if_neg ‹_›]at hW|rw[if_pos (by(try simp only[Aj]at *);omega)]at hW|rw[if_neg (by(try simp only[Aj]at *);omega)]at hW|skip)<;>(try simp only[Ak,ite_self]at hW))
  |(refine Gq (fun hc hz=>?_) (fun hc hz=>?_)<;>(try rewrite [hc])<;>(first|simp only[if_pos hz]at hW|simp only[if_neg hz]at hW|rw[if_pos ‹_›]at hW|rw[if_neg ‹_›]at hW|rw[if_pos (by(try simp only[Aj]at *);omega)]at hW|rw[if_neg (by(try simp only[Aj]at *);omega)]at hW|skip)<;>(try simp only[Ak,ite_self]at hW))
  |(refine Dd (by omega) ‹_› (Ac.1 hW) (fun s' h' nx' hW P=>?_) (fun f h2 n2 s2 P2=>hf f _ _ _ (PI.sb P2));(try simp only[Ak,ite_self]at hW))
  |(refine Ot (by omega) ‹_› (Ac.1 hW) (fun t s' h' nx' hW P=>?_) (fun f h2 n2 s2 P2=>hf f _ _ _ (PI.sb P2));(try simp only[Ak,ite_self]at hW))
  |exact hk _ _ _ _ hW (PI.sb ‹_›))
theorem w_record (AA:∀m',m'≤m→ALL E m'):C5 E (m+1) .record 85 []:=by
 have A:=AA m (Ag _)
 intro n d hd hn kp h nx k s R Q Fl P hW hk hf
 refine Ab (d:=m+1+d) hn (by omega) fun mm hm=>?_
 have hW:W (Ah (run m) .record E.l s) Q Fl False:=hW
 simp only[Ah]at hW
 (try simp only[Ak,ite_self]at hW)
 repeat' ((conv=>lhs;whnf);first
  |contradiction
  |(refine B4 (by omega) ‹_› (Ac.1 hW) (fun h' nx' hW P=>?_);(try simp only[Ak,ite_self]at hW))
  |refine Bl ‹_› rfl fun h1 P=>?_
  |refine B5 ‹_› 0 rfl (Aa rfl) (by first|rfl|exact Ba ‹_›) fun h1 P=>?_
  |refine An ‹_› 0 rfl (Aa rfl) ?_
  |refine An ‹_› 1 rfl (Aa rfl) ?_
  |refine An ‹_› 2 rfl (Aa rfl) ?_
  |refine Af ‹_› 0 rfl (Aa rfl) ?_
  |refine Af ‹_› 1 rfl (Aa rfl) ?_
  |refine Af ‹_› 2 rfl (Aa rfl) ?_
  |refine Bd ‹_› fun hat=>?_
  |refine Bv (by(try simp only[Aj]at *);omega) ?_
  |(refine Cy ‹_› (Ac.1 hW) rfl fun s' h' hW P=>?_;(try simp only[Ak,ite_self]at hW))
  |(refine Ca (b:=⟨_,_⟩) (by omega) ‹_› (by first|omega|exact(Aa rfl)) (Ac.1 hW) fun s' h' nx' hW P=>?_;(try simp only[Ak,ite_self]at hW))
  |(refine H3 (by omega) ‹_› (Ac.1 hW) fun t h' nx' hW P=>?_;(try simp only[Ak,ite_self]at hW))
  |(refine Cu (fun hc hz=>?_) (fun hc hz=>?_)<;>(try rewrite [hc])<;>(first|simp only[if_pos hz]at hW|simp only[if_neg hz]at hW|rw[if_pos ‹_›]at hW|rw[if_neg ‹_›]at hW|rw[if_pos (by(try simp only[Aj]at *);omega)]at hW|rw[if_neg (by(try simp only[Aj]at *);omega)]at hW|skip)<;>(try simp only[Ak,ite_self]at hW))
  |(refine Dl (by omega) ‹_› (Ac.1 hW) fun b s' h' nx' hW P=>?_;cases b<;>(try simp only[Ak,ite_self]at hW))
  |refine Iw ‹_› (by omega) (fun h2 n2 s2 P2=>hf hW h2 n2 s2 (PI.sb P2))
  |(refine A.member _ _ hd (by omega) _ _ _ _ _ _ _ _ ‹_› (Ac.1 hW) (fun v s' h' nx' hW P=>?_) (fun f h2 n2 s2 P2=>hf f _ _ _ (PI.sb P2));(try simp only[Ak,ite_self]at hW))
  |(refine A.member _ _ hd (by omega) _ _ _ _ _ _ _ _ ‹_› hW (fun v s' h' nx' hW P=>?_) (fun f h2 n2 s2 P2=>hf f _ _ _ (PI.sb P2));(try simp only[Ak,ite_self]at hW))
  |exact hk _ _ _ _ hW (PI.sb ‹_›))
 all_goals
  conv=>lhs;whnf
  obtain⟨Q2,hW,hQ2⟩:=Fz hW
  refine Br (L:=[0,2]) rfl (fun m' vs d' h' nx'=>∃(σ:PS) (bx:Pos),d'=[]∧vs=[.p E.pp 0,.p bx 0]∧m'≤m∧W (run m' .recordL E.l σ) Q2 Fl False∧PI E h' nx' σ ((bx,.row [iA s.at',iA s.done.length] 68)::R)) (m) (by omega) ⟨_,_,rfl,rfl,Ag _,hW,PI.sb ‹_›⟩ ?_
  rintro m' _ d' h' nx' ⟨σ,bx,rfl,rfl,hm',hW,P⟩ k' hn' hx
  cases m' with
  |zero=>exact hW.elim
  |succ m'=>
  have A2:=AA m' (by omega)
  have hW:W (Ah (run m') .recordL E.l σ) Q2 Fl False:=hW
  simp only[Ah]at hW
  (try simp only[Ak,ite_self]at hW)
  repeat' ((conv=>lhs;whnf);first
   |contradiction
   |(refine hx _ _ _ _ _ trivial ?_;have hW:=hQ2 _ _ hW;(try simp only[Ak,ite_self]at hW))
   |(refine hn' _ _ _ _ m' (by omega) ⟨_,_,rfl,rfl,by omega,hW,PI.sb ‹_›⟩)
   |(refine A2.member _ _ hd (by omega) _ _ _ _ _ _ _ _ ‹_› (Ac.1 hW) (fun v s' h' nx' hW P=>?_) (fun f h2 n2 s2 P2=>hf f _ _ _ (PI.sb P2));(try simp only[Ak,ite_self]at hW))
   |(refine A2.member _ _ hd (by omega) _ _ _ _ _ _ _ _ ‹_› hW (fun v s' h' nx' hW P=>?_) (fun f h2 n2 s2 P2=>hf f _ _ _ (PI.sb P2));(try simp only[Ak,ite_self]at hW))
   |(refine B4 (by omega) ‹_› (Ac.1 hW) (fun h' nx' hW P=>?_);(try simp only[Ak,ite_self]at hW))
   |refine Bl ‹_› rfl fun h1 P=>?_
   |refine B5 ‹_› 0 rfl (Aa rfl) (by first|rfl|exact Ba ‹_›) fun h1 P=>?_
   |refine An ‹_› 0 rfl (Aa rfl) ?_
   |refine An ‹_› 1 rfl (Aa rfl) ?_
   |refine An ‹_› 2 rfl (Aa rfl) ?_
   |refine Af ‹_› 0 rfl (Aa rfl) ?_
   |refine Af ‹_› 1 rfl (Aa rfl) ?_
   |refine Af ‹_› 2 rfl (Aa rfl) ?_
   |refine Bd ‹_› fun hat=>?_
   |refine Bv (by(try simp only[Aj]at *);omega) ?_
   |(refine Cy ‹_› (Ac.1 hW) rfl fun s' h' hW P=>?_;(try simp only[Ak,ite_self]at hW))
   |(refine Ca (b:=⟨_,_⟩) (by omega) ‹_› (by first|omega|exact(Aa rfl)) (Ac.1 hW) fun s' h' nx' hW P=>?_;(try simp only[Ak,ite_self]at hW))
   |(refine Dl (by omega) ‹_› (Ac.1 hW) fun b s' h' nx' hW P=>?_;cases b<;>(try simp only[Ak,ite_self]at hW))
   |exact hk _ _ _ _ hW (PI.sb ‹_›))
theorem w_member (AA:∀m',m'≤m→ALL E m'):C5 E (m+1) .member 139 []:=by
 have A:=AA m (Ag _)
 intro n d hd hn kp h nx k s R Q Fl P hW hk hf
 refine Ab (d:=m+1+d) hn (by omega) fun mm hm=>?_
 have hW:W (Ah (run m) .member E.l s) Q Fl False:=hW
 simp only[Ah]at hW
 (try simp only[Ak,ite_self]at hW)
 repeat' ((conv=>lhs;whnf);first
  |contradiction
  |(refine B4 (by omega) ‹_› (Ac.1 hW) (fun h' nx' hW P=>?_);(try simp only[Ak,ite_self]at hW))
  |refine Bl ‹_› rfl fun h1 P=>?_
  |refine B5 ‹_› 0 rfl (Aa rfl) (by first|rfl|exact Ba ‹_›) fun h1 P=>?_
  |refine An ‹_› 0 rfl (Aa rfl) ?_
  |refine An ‹_› 1 rfl (Aa rfl) ?_
  |refine An ‹_› 2 rfl (Aa rfl) ?_
  |refine Af ‹_› 0 rfl (Aa rfl) ?_
  |refine Af ‹_› 1 rfl (Aa rfl) ?_
  |refine Af ‹_› 2 rfl (Aa rfl) ?_
  |refine Bd ‹_› fun hat=>?_
  |refine Bv (by(try simp only[Aj]at *);omega) ?_
  |(refine Cy ‹_› (Ac.1 hW) rfl fun s' h' hW P=>?_;(try simp only[Ak,ite_self]at hW))
  |(refine Ca (b:=⟨_,_⟩) (by omega) ‹_› (by first|omega|exact(Aa rfl)) (Ac.1 hW) fun s' h' nx' hW P=>?_;(try simp only[Ak,ite_self]at hW))
  |(refine word_w (by omega) ‹_› (Ac.1 hW) fun b h' nx' hW P=>?_;cases b<;>(try simp only[Ak,ite_self]at hW))
  |(refine Gb (by omega) ‹_› (Ac.1 hW) fun b h' nx' hW P=>?_;cases b<;>(try simp only[Ak,ite_self]at hW))
  |(refine Dd (by omega) ‹_› (Ac.1 hW) (fun s' h' nx' hW P=>?_) (fun f h2 n2 s2 P2=>hf f _ _ _ (PI.sb P2));(try simp only[Ak,ite_self]at hW))
  |(refine A.assert _ _ hd (by omega) _ _ _ _ _ _ _ _ ‹_› (Ac.1 hW) (fun v s' h' nx' hW P=>?_) (fun f h2 n2 s2 P2=>hf f _ _ _ (PI.sb P2));(try simp only[Ak,ite_self]at hW))
  |(refine A.assert _ _ hd (by omega) _ _ _ _ _ _ _ _ ‹_› hW (fun v s' h' nx' hW P=>?_) (fun f h2 n2 s2 P2=>hf f _ _ _ (PI.sb P2));(try simp only[Ak,ite_self]at hW))
  |(refine A.specs _ _ _ hd (by omega) _ _ _ _ _ _ _ _ ‹_› (Ac.1 hW) (fun b v s' h' nx' hb hW P=>?_) (fun f h2 n2 s2 P2=>hf f _ _ _ (PI.sb P2));(try rw[hb]at hW);cases b<;>(try simp only[Ak,ite_self]at hW))
  |(refine A.specs _ _ _ hd (by omega) _ _ _ _ _ _ _ _ ‹_› hW (fun b v s' h' nx' hb hW P=>?_) (fun f h2 n2 s2 P2=>hf f _ _ _ (PI.sb P2));(try rw[hb]at hW);cases b<;>(try simp only[Ak,ite_self]at hW))
  |(refine A.field _ _ hd (by omega) _ _ _ _ _ _ _ _ ‹_› (Ac.1 hW) (fun v s' h' nx' hW P=>?_) (fun f h2 n2 s2 P2=>hf f _ _ _ (PI.sb P2));(try simp only[Ak,ite_self]at hW))
  |(refine A.field _ _ hd (by omega) _ _ _ _ _ _ _ _ ‹_› hW (fun v s' h' nx' hW P=>?_) (fun f h2 n2 s2 P2=>hf f _ _ _ (PI.sb P2));(try simp only[Ak,ite_self]at hW))
  |exact hk _ _ _ _ hW (PI.sb ‹_›))
 all_goals
  conv=>lhs;whnf
  obtain⟨Q2,hW,hQ2⟩:=Fz hW
  refine Br (L:=[0,2]) rfl (fun m' vs d' h' nx'=>∃(σ:PS) (bx:Pos),d'=[]∧vs=[.p E.pp 0,.p bx 0]∧m'≤m∧W (run m' .memberL E.l σ) Q2 Fl False∧PI E h' nx' σ ((bx,.row [iA s.at',iA s.done.length] 68)::R)) (m) (by omega) ⟨_,_,rfl,rfl,Ag _,hW,PI.sb ‹_›⟩ ?_
  rintro m' _ d' h' nx' ⟨σ,bx,rfl,rfl,hm',hW,P⟩ k' hn' hx
  cases m' with
  |zero=>exact hW.elim
  |succ m'=>
  have A2:=AA m' (by omega)
  have hW:W (Ah (run m') .memberL E.l σ) Q2 Fl False:=hW
  simp only[Ah]at hW
  (try simp only[Ak,ite_self]at hW)
  repeat' ((conv=>lhs;whnf);first
   |contradiction
   |(refine hx _ _ _ _ _ trivial ?_;have hW:=hQ2 _ _ hW;(try simp only[Ak,ite_self]at hW))
   |(refine hn' _ _ _ _ m' (by omega) ⟨_,_,rfl,rfl,by omega,hW,PI.sb ‹_›⟩)
   |(refine A2.field _ _ hd (by omega) _ _ _ _ _ _ _ _ ‹_› (Ac.1 hW) (fun v s' h' nx' hW P=>?_) (fun f h2 n2 s2 P2=>hf f _ _ _ (PI.sb P2));(try simp only[Ak,ite_self]at hW))
   |(refine A2.field _ _ hd (by omega) _ _ _ _ _ _ _ _ ‹_› hW (fun v s' h' nx' hW P=>?_) (fun f h2 n2 s2 P2=>hf f _ _ _ (PI.sb P2));(try simp only[Ak,ite_self]at hW))
   |(refine B4 (by omega) ‹_› (Ac.1 hW) (fun h' nx' hW P=>?_);(try simp only[Ak,ite_self]at hW))
   |refine Bl ‹_› rfl fun h1 P=>?_
   |refine B5 ‹_› 0 rfl (Aa rfl) (by first|rfl|exact Ba ‹_›) fun h1 P=>?_
   |refine An ‹_› 0 rfl (Aa rfl) ?_
   |refine An ‹_› 1 rfl (Aa rfl) ?_
   |refine An ‹_› 2 rfl (Aa rfl) ?_
   |refine Af ‹_› 0 rfl (Aa rfl) ?_
   |refine Af ‹_› 1 rfl (Aa rfl) ?_
   |refine Af ‹_› 2 rfl (Aa rfl) ?_
   |refine Bd ‹_› fun hat=>?_
   |refine Bv (by(try simp only[Aj]at *);omega) ?_
   |(refine Cy ‹_› (Ac.1 hW) rfl fun s' h' hW P=>?_;(try simp only[Ak,ite_self]at hW))
   |(refine Ca (b:=⟨_,_⟩) (by omega) ‹_› (by first|omega|exact(Aa rfl)) (Ac.1 hW) fun s' h' nx' hW P=>?_;(try simp only[Ak,ite_self]at hW))
   |(refine Dl (by omega) ‹_› (Ac.1 hW) fun b s' h' nx' hW P=>?_;cases b<;>(try simp only[Ak,ite_self]at hW))
   |(refine Dd (by omega) ‹_› (Ac.1 hW) (fun s' h' nx' hW P=>?_) (fun f h2 n2 s2 P2=>hf f _ _ _ (PI.sb P2));(try simp only[Ak,ite_self]at hW))
   |exact hk _ _ _ _ hW (PI.sb ‹_›))
theorem w_enum (AA:∀m',m'≤m→ALL E m'):C5 E (m+1) .enum 86 []:=by
 have A:=AA m (Ag _)
 intro n d hd hn kp h nx k s R Q Fl P hW hk hf
 refine Ab (d:=m+1+d) hn (by omega) fun mm hm=>?_
 have hW:W (Ah (run m) .enum E.l s) Q Fl False:=hW
 simp only[Ah]at hW
 (try simp only[Ak,ite_self]at hW)
 repeat' ((conv=>lhs;whnf);first
  |contradiction
  |(refine B4 (by omega) ‹_› (Ac.1 hW) (fun h' nx' hW P=>?_);(try simp only[Ak,ite_self]at hW))
  |refine Bl ‹_› rfl fun h1 P=>?_
  |refine B5 ‹_› 0 rfl (Aa rfl) (by first|rfl|exact Ba ‹_›) fun h1 P=>?_
  |refine An ‹_› 0 rfl (Aa rfl) ?_
  |refine An ‹_› 1 rfl (Aa rfl) ?_
  |refine An ‹_› 2 rfl (Aa rfl) ?_
  |refine Af ‹_› 0 rfl (Aa rfl) ?_
  |refine Af ‹_› 1 rfl (Aa rfl) ?_
  |refine Af ‹_› 2 rfl (Aa rfl) ?_
  |refine Bd ‹_› fun hat=>?_
  |refine Bv (by(try simp only[Aj]at *);omega) ?_
  |(refine Cy ‹_› (Ac.1 hW) rfl fun s' h' hW P=>?_;(try simp only[Ak,ite_self]at hW))
  |(refine Ca (b:=⟨_,_⟩) (by omega) ‹_› (by first|omega|exact(Aa rfl)) (Ac.1 hW) fun s' h' nx' hW P=>?_;(try simp only[Ak,ite_self]at hW))
  |(refine H3 (by omega) ‹_› (Ac.1 hW) fun t h' nx' hW P=>?_;(try simp only[Ak,ite_self]at hW))
  |(refine Cu (fun hc hz=>?_) (fun hc hz=>?_)<;>(try rewrite [hc])<;>(first|simp only[if_pos hz]at hW|simp only[if_neg hz]at hW|rw[if_pos ‹_›]at hW|rw[if_neg ‹_›]at hW|rw[if_pos (by(try simp only[Aj]at *);omega)]at hW|rw[if_neg (by(try simp only[Aj]at *);omega)]at hW|skip)<;>(try simp only[Ak,ite_self]at hW))
  |(refine Dl (by omega) ‹_› (Ac.1 hW) fun b s' h' nx' hW P=>?_;cases b<;>(try simp only[Ak,ite_self]at hW))
  |(refine Dd (by omega) ‹_› (Ac.1 hW) (fun s' h' nx' hW P=>?_) (fun f h2 n2 s2 P2=>hf f _ _ _ (PI.sb P2));(try simp only[Ak,ite_self]at hW))
  |refine Iw ‹_› (by omega) (fun h2 n2 s2 P2=>hf hW h2 n2 s2 (PI.sb P2))
  |(refine A.enumerator _ _ hd (by omega) _ _ _ _ _ _ _ _ ‹_› (Ac.1 hW) (fun v s' h' nx' hW P=>?_) (fun f h2 n2 s2 P2=>hf f _ _ _ (PI.sb P2));(try simp only[Ak,ite_self]at hW))
  |(refine A.enumerator _ _ hd (by omega) _ _ _ _ _ _ _ _ ‹_› hW (fun v s' h' nx' hW P=>?_) (fun f h2 n2 s2 P2=>hf f _ _ _ (PI.sb P2));(try simp only[Ak,ite_self]at hW))
  |exact hk _ _ _ _ hW (PI.sb ‹_›))
 all_goals
  conv=>lhs;whnf
  obtain⟨Q2,hW,hQ2⟩:=Fz hW
  refine Br (L:=[0,2]) rfl (fun m' vs d' h' nx'=>∃(σ:PS) (bx:Pos),d'=[]∧vs=[.p E.pp 0,.p bx 0]∧m'≤m∧W (run m' .enumL E.l σ) Q2 Fl False∧PI E h' nx' σ ((bx,.row [iA s.at',iA s.done.length] 68)::R)) (m) (by omega) ⟨_,_,rfl,rfl,Ag _,hW,PI.sb ‹_›⟩ ?_
  rintro m' _ d' h' nx' ⟨σ,bx,rfl,rfl,hm',hW,P⟩ k' hn' hx
  cases m' with
  |zero=>exact hW.elim
  |succ m'=>
  have A2:=AA m' (by omega)
  have hW:W (Ah (run m') .enumL E.l σ) Q2 Fl False:=hW
  simp only[Ah]at hW
  (try simp only[Ak,ite_self]at hW)
  repeat' ((conv=>lhs;whnf);first
   |contradiction
   |(refine hx _ _ _ _ _ trivial ?_;have hW:=hQ2 _ _ hW;(try simp only[Ak,ite_self]at hW))
   |(refine hn' _ _ _ _ m' (by omega) ⟨_,_,rfl,rfl,by omega,hW,PI.sb ‹_›⟩)
   |(refine A2.enumerator _ _ hd (by omega) _ _ _ _ _ _ _ _ ‹_› (Ac.1 hW) (fun v s' h' nx' hW P=>?_) (fun f h2 n2 s2 P2=>hf f _ _ _ (PI.sb P2));(try simp only[Ak,ite_self]at hW))
   |(refine A2.enumerator _ _ hd (by omega) _ _ _ _ _ _ _ _ ‹_› hW (fun v s' h' nx' hW P=>?_) (fun f h2 n2 s2 P2=>hf f _ _ _ (PI.sb P2));(try simp only[Ak,ite_self]at hW))
   |(refine B4 (by omega) ‹_› (Ac.1 hW) (fun h' nx' hW P=>?_);(try simp only[Ak,ite_self]at hW))
   |refine Bl ‹_› rfl fun h1 P=>?_
   |refine B5 ‹_› 0 rfl (Aa rfl) (by first|rfl|exact Ba ‹_›) fun h1 P=>?_
   |refine An ‹_› 0 rfl (Aa rfl) ?_
   |refine An ‹_› 1 rfl (Aa rfl) ?_
   |refine An ‹_› 2 rfl (Aa rfl) ?_
   |refine Af ‹_› 0 rfl (Aa rfl) ?_
   |refine Af ‹_› 1 rfl (Aa rfl) ?_
   |refine Af ‹_› 2 rfl (Aa rfl) ?_
   |refine Bd ‹_› fun hat=>?_
   |refine Bv (by(try simp only[Aj]at *);omega) ?_
   |(refine Cy ‹_› (Ac.1 hW) rfl fun s' h' hW P=>?_;(try simp only[Ak,ite_self]at hW))
   |(refine Ca (b:=⟨_,_⟩) (by omega) ‹_› (by first|omega|exact(Aa rfl)) (Ac.1 hW) fun s' h' nx' hW P=>?_;(try simp only[Ak,ite_self]at hW))
   |(refine Dl (by omega) ‹_› (Ac.1 hW) fun b s' h' nx' hW P=>?_;cases b<;>(try simp only[Ak,ite_self]at hW))
   |(refine Gb (by omega) ‹_› (Ac.1 hW) fun b h' nx' hW P=>?_;cases b<;>(try simp only[Ak,ite_self]at hW))
   |(refine Dd (by omega) ‹_› (Ac.1 hW) (fun s' h' nx' hW P=>?_) (fun f h2 n2 s2 P2=>hf f _ _ _ (PI.sb P2));(try simp only[Ak,ite_self]at hW))
   |exact hk _ _ _ _ hW (PI.sb ‹_›))
end Go.CE
