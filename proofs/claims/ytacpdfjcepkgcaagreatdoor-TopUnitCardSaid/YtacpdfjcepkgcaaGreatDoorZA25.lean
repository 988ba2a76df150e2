/- Part 25 of the lemmas behind the claim. -/
import Derived.Test.YtacpdfjcepkgcaaGreatDoorZA01
import Derived.Test.YtacpdfjcepkgcaaGreatDoorZA24
set_option linter.unusedSimpArgs false
set_option linter.unusedVariables false
set_option linter.constructorNameAsVariable false
set_option linter.unusedSectionVars false
set_option linter.defProp false
set_option maxRecDepth 100000
set_option maxHeartbeats 40000000
namespace Go.CE
open Go Go.Ps Go.Proofs.YtacpdfjcepkgcaaGreatDoor
attribute [local irreducible] loopK Ai K0 N2 Dg fits rd rd1 wr newC Kj Fk Fa Ve
variable {E : PEnv} {m : Nat}
def Ak:=And.intro @Bt (And.intro @Bs (And.intro @Ao (And.intro @A8 (And.intro @A9 (And.intro @spT_sp (And.intro @spW_sp (And.intro @spO_sp (And.intro @F8 @F4))))))))
theorem w_typeInBr (A:ALL E m):C5 E (m+1) .typeInBr 138 []:=by
 intro n d hd hn kp h nx k s R Q Fl P hW hk hf
 refine Ab (d:=m+1+d) hn (by omega) fun mm hm=>?_
 have hW:W (Ah (run m) .typeInBr E.l s) Q Fl False:=hW
 simp only[Ah]at hW
 (try simp only[Ak,ite_self]at hW)
 repeat' ((conv=>lhs;whnf);first
  |contradiction
  |(refine Dd (by omega) ‹_› (Ac.1 hW) (fun s' h' nx' hW P=>?_) (fun f h2 n2 s2 P2=>hf f _ _ _ (PI.sb P2));(try simp only[Ak,ite_self]at hW))
  |(refine A.typeName _ _ hd (by omega) _ _ _ _ _ _ _ _ ‹_› (Ac.1 hW) (fun v s' h' nx' hW P=>?_) (fun f h2 n2 s2 P2=>hf f _ _ _ (PI.sb P2));(try simp only[Ak,ite_self]at hW))
  |(refine A.typeName _ _ hd (by omega) _ _ _ _ _ _ _ _ ‹_› hW (fun v s' h' nx' hW P=>?_) (fun f h2 n2 s2 P2=>hf f _ _ _ (PI.sb P2));(try simp only[Ak,ite_self]at hW))
  |exact hk _ _ _ _ hW (PI.sb ‹_›))
theorem w_assign (A:ALL E m):C5 E (m+1) .assign 149 []:=by
 intro n d hd hn kp h nx k s R Q Fl P hW hk hf
 refine Ab (d:=m+1+d) hn (by omega) fun mm hm=>?_
 have hW:W (Ah (run m) .assign E.l s) Q Fl False:=hW
 simp only[Ah]at hW
 (try simp only[Ak,ite_self]at hW)
 repeat' ((conv=>lhs;whnf);first
  |contradiction
  |(refine B4 (by omega) ‹_› (Ac.1 hW) (fun h' nx' hW P=>?_);(try simp only[Ak,ite_self]at hW))
  |refine Bl ‹_› rfl fun h1 P=>?_
  |refine B5 ‹_› 0 rfl (Aa rfl) (by first|rfl|exact Ba ‹_›) fun h1 P=>?_
  |refine An ‹_› 0 rfl (Aa rfl) ?_
  |refine An ‹_› 1 rfl (Aa rfl) ?_
  |refine An ‹_› 2 rfl (Aa rfl) ?_
  |refine Af ‹_› 0 rfl (Aa rfl) ?_
  |refine Af ‹_› 1 rfl (Aa rfl) ?_
  |refine Af ‹_› 2 rfl (Aa rfl) ?_
  |refine Bd ‹_› fun hat=>?_
  |refine Bv (by(try simp only[Aj]at *);omega) ?_
  |(refine Cy ‹_› (Ac.1 hW) rfl fun s' h' hW P=>?_;(try simp only[Ak,ite_self]at hW))
  |(refine Ca (b:=⟨_,_⟩) (by omega) ‹_› (by first|omega|exact(Aa rfl)) (Ac.1 hW) fun s' h' nx' hW P=>?_;(try simp only[Ak,ite_self]at hW))
  |(refine assigns_w (by omega) ‹_› (Ac.1 hW) fun b h' nx' hW P=>?_;cases b<;>(try simp only[Ak,ite_self]at hW))
  |(refine A.choice _ _ hd (by omega) _ _ _ _ _ _ _ _ ‹_› (Ac.1 hW) (fun b v s' h' nx' hb hW P=>?_) (fun f h2 n2 s2 P2=>hf f _ _ _ (PI.sb P2));(try rw[hb]at hW);cases b<;>(try simp only[Ak,ite_self]at hW))
  |(refine A.choice _ _ hd (by omega) _ _ _ _ _ _ _ _ ‹_› hW (fun b v s' h' nx' hb hW P=>?_) (fun f h2 n2 s2 P2=>hf f _ _ _ (PI.sb P2));(try rw[hb]at hW);cases b<;>(try simp only[Ak,ite_self]at hW))
  |(refine A.assign _ _ hd (by omega) _ _ _ _ _ _ _ _ ‹_› (Ac.1 hW) (fun v s' h' nx' hW P=>?_) (fun f h2 n2 s2 P2=>hf f _ _ _ (PI.sb P2));(try simp only[Ak,ite_self]at hW))
  |(refine A.assign _ _ hd (by omega) _ _ _ _ _ _ _ _ ‹_› hW (fun v s' h' nx' hW P=>?_) (fun f h2 n2 s2 P2=>hf f _ _ _ (PI.sb P2));(try simp only[Ak,ite_self]at hW))
  |exact hk _ _ _ _ hW (PI.sb ‹_›))
theorem w_choice (A:ALL E m):O8 E (m+1) .choice 79 []:=by
 intro n d hd hn kp h nx k s R Q Fl P hW hk hf
 refine Ab (d:=m+1+d) hn (by omega) fun mm hm=>?_
 have hW:W (Ah (run m) .choice E.l s) Q Fl False:=hW
 simp only[Ah]at hW
 (try simp only[Ak,ite_self]at hW)
 repeat' ((conv=>lhs;whnf);first
  |contradiction
  |(refine B4 (by omega) ‹_› (Ac.1 hW) (fun h' nx' hW P=>?_);(try simp only[Ak,ite_self]at hW))
  |refine Bl ‹_› rfl fun h1 P=>?_
  |refine B5 ‹_› 0 rfl (Aa rfl) (by first|rfl|exact Ba ‹_›) fun h1 P=>?_
  |refine An ‹_› 0 rfl (Aa rfl) ?_
  |refine An ‹_› 1 rfl (Aa rfl) ?_
  |refine An ‹_› 2 rfl (Aa rfl) ?_
  |refine Af ‹_› 0 rfl (Aa rfl) ?_
  |refine Af ‹_› 1 rfl (Aa rfl) ?_
  |refine Af ‹_› 2 rfl (Aa rfl) ?_
  |refine Bd ‹_› fun hat=>?_
  |refine Bv (by(try simp only[Aj]at *);omega) ?_
  |(refine Cy ‹_› (Ac.1 hW) rfl fun s' h' hW P=>?_;(try simp only[Ak,ite_self]at hW))
  |(refine Ca (b:=⟨_,_⟩) (by omega) ‹_› (by first|omega|exact(Aa rfl)) (Ac.1 hW) fun s' h' nx' hW P=>?_;(try simp only[Ak,ite_self]at hW))
  |(refine Dl (by omega) ‹_› (Ac.1 hW) fun b s' h' nx' hW P=>?_;cases b<;>(try simp only[Ak,ite_self]at hW))
  |(refine Dd (by omega) ‹_› (Ac.1 hW) (fun s' h' nx' hW P=>?_) (fun f h2 n2 s2 P2=>hf f _ _ _ (PI.sb P2));(try simp only[Ak,ite_self]at hW))
  |(refine A.binary _ (by first|omega|exact(Aa rfl)) _ _ hd (by omega) _ _ _ _ _ _ _ _ ‹_› (Ac.1 hW) (fun b v s' h' nx' hb hW P=>?_) (fun f h2 n2 s2 P2=>hf f _ _ _ (PI.sb P2));(try rw[hb]at hW);cases b<;>(try simp only[Ak,ite_self]at hW))
  |(refine A.expr _ _ hd (by omega) _ _ _ _ _ _ _ _ ‹_› (Ac.1 hW) (fun v s' h' nx' hW P=>?_) (fun f h2 n2 s2 P2=>hf f _ _ _ (PI.sb P2));(try simp only[Ak,ite_self]at hW))
  |(refine A.expr _ _ hd (by omega) _ _ _ _ _ _ _ _ ‹_› hW (fun v s' h' nx' hW P=>?_) (fun f h2 n2 s2 P2=>hf f _ _ _ (PI.sb P2));(try simp only[Ak,ite_self]at hW))
  |(refine A.choice _ _ hd (by omega) _ _ _ _ _ _ _ _ ‹_› (Ac.1 hW) (fun b v s' h' nx' hb hW P=>?_) (fun f h2 n2 s2 P2=>hf f _ _ _ (PI.sb P2));(try rw[hb]at hW);cases b<;>(try simp only[Ak,ite_self]at hW))
  |(refine A.choice _ _ hd (by omega) _ _ _ _ _ _ _ _ ‹_› hW (fun b v s' h' nx' hb hW P=>?_) (fun f h2 n2 s2 P2=>hf f _ _ _ (PI.sb P2));(try rw[hb]at hW);cases b<;>(try simp only[Ak,ite_self]at hW))
  |(refine hk _ _ _ _ _ ?_ hW (PI.sb ‹_›);first|rfl|assumption|exact Sc))
theorem w_cast (A:ALL E m):O8 E (m+1) .cast 182 []:=by
 intro n d hd hn kp h nx k s R Q Fl P hW hk hf
 refine Ab (d:=m+1+d) hn (by omega) fun mm hm=>?_
 have hW:W (Ah (run m) .cast E.l s) Q Fl False:=hW
 simp only[Ah]at hW
 (try simp only[Ak,ite_self]at hW)
 repeat' ((conv=>lhs;whnf);first
  |contradiction
  |(refine B4 (by omega) ‹_› (Ac.1 hW) (fun h' nx' hW P=>?_);(try simp only[Ak,ite_self]at hW))
  |refine Bl ‹_› rfl fun h1 P=>?_
  |refine B5 ‹_› 0 rfl (Aa rfl) (by first|rfl|exact Ba ‹_›) fun h1 P=>?_
  |refine An ‹_› 0 rfl (Aa rfl) ?_
  |refine An ‹_› 1 rfl (Aa rfl) ?_
  |refine An ‹_› 2 rfl (Aa rfl) ?_
  |refine Af ‹_› 0 rfl (Aa rfl) ?_
  |refine Af ‹_› 1 rfl (Aa rfl) ?_
  |refine Af ‹_› 2 rfl (Aa rfl) ?_
  |refine Bd ‹_› fun hat=>?_
  |refine Bv (by(try simp only[Aj]at *);omega) ?_
  |(refine Cy ‹_› (Ac.1 hW) rfl fun s' h' hW P=>?_;(try simp only[Ak,ite_self]at hW))
  |(refine Ca (b:=⟨_,_⟩) (by omega) ‹_› (by first|omega|exact(Aa rfl)) (Ac.1 hW) fun s' h' nx' hW P=>?_;(try simp only[Ak,ite_self]at hW))
  |(refine Mc (by omega) ‹_› (Ac.1 hW) fun b h' nx' hW P=>?_;cases b<;>(try simp only[Ak,ite_self]at hW))
  |(refine Gb (by omega) ‹_› (Ac.1 hW) fun b h' nx' hW P=>?_;cases b<;>(try simp only[Ak,ite_self]at hW))
  |(refine A.unary _ _ hd (by omega) _ _ _ _ _ _ _ _ ‹_› (Ac.1 hW) (fun v s' h' nx' hW P=>?_) (fun f h2 n2 s2 P2=>hf f _ _ _ (PI.sb P2));(try simp only[Ak,ite_self]at hW))
  |(refine A.unary _ _ hd (by omega) _ _ _ _ _ _ _ _ ‹_› hW (fun v s' h' nx' hW P=>?_) (fun f h2 n2 s2 P2=>hf f _ _ _ (PI.sb P2));(try simp only[Ak,ite_self]at hW))
  |(refine A.typeInBr _ _ hd (by omega) _ _ _ _ _ _ _ _ ‹_› (Ac.1 hW) (fun v s' h' nx' hW P=>?_) (fun f h2 n2 s2 P2=>hf f _ _ _ (PI.sb P2));(try simp only[Ak,ite_self]at hW))
  |(refine A.typeInBr _ _ hd (by omega) _ _ _ _ _ _ _ _ ‹_› hW (fun v s' h' nx' hW P=>?_) (fun f h2 n2 s2 P2=>hf f _ _ _ (PI.sb P2));(try simp only[Ak,ite_self]at hW))
  |(refine A.literal _ _ _ hd (by omega) _ _ _ _ _ _ _ _ ‹_› (Ac.1 hW) (fun v s' h' nx' hW P=>?_) (fun f h2 n2 s2 P2=>hf f _ _ _ (PI.sb P2));(try simp only[Ak,ite_self]at hW))
  |(refine A.literal _ _ _ hd (by omega) _ _ _ _ _ _ _ _ ‹_› hW (fun v s' h' nx' hW P=>?_) (fun f h2 n2 s2 P2=>hf f _ _ _ (PI.sb P2));(try simp only[Ak,ite_self]at hW))
  |(refine A.cast _ _ hd (by omega) _ _ _ _ _ _ _ _ ‹_› (Ac.1 hW) (fun b v s' h' nx' hb hW P=>?_) (fun f h2 n2 s2 P2=>hf f _ _ _ (PI.sb P2));(try rw[hb]at hW);cases b<;>(try simp only[Ak,ite_self]at hW))
  |(refine A.cast _ _ hd (by omega) _ _ _ _ _ _ _ _ ‹_› hW (fun b v s' h' nx' hb hW P=>?_) (fun f h2 n2 s2 P2=>hf f _ _ _ (PI.sb P2));(try rw[hb]at hW);cases b<;>(try simp only[Ak,ite_self]at hW))
  |(refine hk _ _ _ _ _ ?_ hW (PI.sb ‹_›);first|rfl|assumption|exact Sc))
theorem w_literal (A:ALL E m) (st:Stt):C5 E (m+1) (.literal st) 217 [stA st]:=by
 intro n d hd hn kp h nx k s R Q Fl P hW hk hf
 refine Ab (d:=m+1+d) hn (by omega) fun mm hm=>?_
 have hW:W (Ah (run m) (.literal st) E.l s) Q Fl False:=hW
 simp only[Ah]at hW
 (try simp only[Ak,ite_self]at hW)
 repeat' ((conv=>lhs;whnf);first
  |contradiction
  |(refine B4 (by omega) ‹_› (Ac.1 hW) (fun h' nx' hW P=>?_);(try simp only[Ak,ite_self]at hW))
  |refine Bl ‹_› rfl fun h1 P=>?_
  |refine B5 ‹_› 0 rfl (Aa rfl) (by first|rfl|exact Ba ‹_›) fun h1 P=>?_
  |refine An ‹_› 0 rfl (Aa rfl) ?_
  |refine An ‹_› 1 rfl (Aa rfl) ?_
  |refine An ‹_› 2 rfl (Aa rfl) ?_
  |refine Af ‹_› 0 rfl (Aa rfl) ?_
  |refine Af ‹_› 1 rfl (Aa rfl) ?_
  |refine Af ‹_› 2 rfl (Aa rfl) ?_
  |refine Bd ‹_› fun hat=>?_
  |refine Bv (by(try simp only[Aj]at *);omega) ?_
  |(refine Cy ‹_› (Ac.1 hW) rfl fun s' h' hW P=>?_;(try simp only[Ak,ite_self]at hW))
  |(refine Ca (b:=⟨_,_⟩) (by omega) ‹_› (by first|omega|exact(Aa rfl)) (Ac.1 hW) fun s' h' nx' hW P=>?_;(try simp only[Ak,ite_self]at hW))
  |(refine A.braces _ _ hd (by omega) _ _ _ _ _ _ _ _ ‹_› (Ac.1 hW) (fun v s' h' nx' hW P=>?_) (fun f h2 n2 s2 P2=>hf f _ _ _ (PI.sb P2));(try simp only[Ak,ite_self]at hW))
  |(refine A.braces _ _ hd (by omega) _ _ _ _ _ _ _ _ ‹_› hW (fun v s' h' nx' hW P=>?_) (fun f h2 n2 s2 P2=>hf f _ _ _ (PI.sb P2));(try simp only[Ak,ite_self]at hW))
  |(refine A.applied _ _ _ hd (by omega) _ _ _ _ _ _ _ _ ‹_› (Ac.1 hW) (fun v s' h' nx' hW P=>?_) (fun f h2 n2 s2 P2=>hf f _ _ _ (PI.sb P2));(try simp only[Ak,ite_self]at hW))
  |(refine A.applied _ _ _ hd (by omega) _ _ _ _ _ _ _ _ ‹_› hW (fun v s' h' nx' hW P=>?_) (fun f h2 n2 s2 P2=>hf f _ _ _ (PI.sb P2));(try simp only[Ak,ite_self]at hW))
  |exact hk _ _ _ _ hW (PI.sb ‹_›))
theorem w_size (A:ALL E m) (v:Bool):C5 E (m+1) (.size v) 230 [.b v]:=by
 intro n d hd hn kp h nx k s R Q Fl P hW hk hf
 refine Ab (d:=m+1+d) hn (by omega) fun mm hm=>?_
 have hW:W (Ah (run m) (.size v) E.l s) Q Fl False:=hW
 simp only[Ah]at hW
 (try simp only[Ak,ite_self]at hW)
 cases v<;>(try simp only[Ak,ite_self]at hW)
 repeat' ((conv=>lhs;whnf);first
  |contradiction
  |(refine B4 (by omega) ‹_› (Ac.1 hW) (fun h' nx' hW P=>?_);(try simp only[Ak,ite_self]at hW))
  |refine Bl ‹_› rfl fun h1 P=>?_
  |refine B5 ‹_› 0 rfl (Aa rfl) (by first|rfl|exact Ba ‹_›) fun h1 P=>?_
  |refine An ‹_› 0 rfl (Aa rfl) ?_
  |refine An ‹_› 1 rfl (Aa rfl) ?_
  |refine An ‹_› 2 rfl (Aa rfl) ?_
  |refine Af ‹_› 0 rfl (Aa rfl) ?_
  |refine Af ‹_› 1 rfl (Aa rfl) ?_
  |refine Af ‹_› 2 rfl (Aa rfl) ?_
  |refine Bd ‹_› fun hat=>?_
  |refine Bv (by(try simp only[Aj]at *);omega) ?_
  |(refine Cy ‹_› (Ac.1 hW) rfl fun s' h' hW P=>?_;(try simp only[Ak,ite_self]at hW))
  |(refine Ca (b:=⟨_,_⟩) (by omega) ‹_› (by first|omega|exact(Aa rfl)) (Ac.1 hW) fun s' h' nx' hW P=>?_;(try simp only[Ak,ite_self]at hW))
  |(refine Mc (by omega) ‹_› (Ac.1 hW) fun b h' nx' hW P=>?_;cases b<;>(try simp only[Ak,ite_self]at hW))
  |(refine Gb (by omega) ‹_› (Ac.1 hW) fun b h' nx' hW P=>?_;cases b<;>(try simp only[Ak,ite_self]at hW))
  |refine Iw ‹_› (by omega) (fun h2 n2 s2 P2=>hf hW h2 n2 s2 (PI.sb P2))
  |(refine A.typeInBr _ _ hd (by omega) _ _ _ _ _ _ _ _ ‹_› (Ac.1 hW) (fun v s' h' nx' hW P=>?_) (fun f h2 n2 s2 P2=>hf f _ _ _ (PI.sb P2));(try simp only[Ak,ite_self]at hW))
  |(refine A.typeInBr _ _ hd (by omega) _ _ _ _ _ _ _ _ ‹_› hW (fun v s' h' nx' hW P=>?_) (fun f h2 n2 s2 P2=>hf f _ _ _ (PI.sb P2));(try simp only[Ak,ite_self]at hW))
  |(refine A.literal _ _ _ hd (by omega) _ _ _ _ _ _ _ _ ‹_› (Ac.1 hW) (fun v s' h' nx' hW P=>?_) (fun f h2 n2 s2 P2=>hf f _ _ _ (PI.sb P2));(try simp only[Ak,ite_self]at hW))
  |(refine A.literal _ _ _ hd (by omega) _ _ _ _ _ _ _ _ ‹_› hW (fun v s' h' nx' hW P=>?_) (fun f h2 n2 s2 P2=>hf f _ _ _ (PI.sb P2));(try simp only[Ak,ite_self]at hW))
  |(refine A.unary _ _ hd (by omega) _ _ _ _ _ _ _ _ ‹_› (Ac.1 hW) (fun v s' h' nx' hW P=>?_) (fun f h2 n2 s2 P2=>hf f _ _ _ (PI.sb P2));(try simp only[Ak,ite_self]at hW))
  |(refine A.unary _ _ hd (by omega) _ _ _ _ _ _ _ _ ‹_› hW (fun v s' h' nx' hW P=>?_) (fun f h2 n2 s2 P2=>hf f _ _ _ (PI.sb P2));(try simp only[Ak,ite_self]at hW))
  |exact hk _ _ _ _ hW (PI.sb ‹_›))
theorem w_postf (A:ALL E m):C5 E (m+1) .postf 231 []:=by
 intro n d hd hn kp h nx k s R Q Fl P hW hk hf
 refine Ab (d:=m+1+d) hn (by omega) fun mm hm=>?_
 have hW:W (Ah (run m) .postf E.l s) Q Fl False:=hW
 simp only[Ah]at hW
 (try simp only[Ak,ite_self]at hW)
 repeat' ((conv=>lhs;whnf);first
  |contradiction
  |(refine B4 (by omega) ‹_› (Ac.1 hW) (fun h' nx' hW P=>?_);(try simp only[Ak,ite_self]at hW))
  |refine Bl ‹_› rfl fun h1 P=>?_
  |refine B5 ‹_› 0 rfl (Aa rfl) (by first|rfl|exact Ba ‹_›) fun h1 P=>?_
  |refine An ‹_› 0 rfl (Aa rfl) ?_
  |refine An ‹_› 1 rfl (Aa rfl) ?_
  |refine An ‹_› 2 rfl (Aa rfl) ?_
  |refine Af ‹_› 0 rfl (Aa rfl) ?_
  |refine Af ‹_› 1 rfl (Aa rfl) ?_
  |refine Af ‹_› 2 rfl (Aa rfl) ?_
  |refine Bd ‹_› fun hat=>?_
  |refine Bv (by(try simp only[Aj]at *);omega) ?_
  |(refine Cy ‹_› (Ac.1 hW) rfl fun s' h' hW P=>?_;(try simp only[Ak,ite_self]at hW))
  |(refine Ca (b:=⟨_,_⟩) (by omega) ‹_› (by first|omega|exact(Aa rfl)) (Ac.1 hW) fun s' h' nx' hW P=>?_;(try simp only[Ak,ite_self]at hW))
  |(refine Mc (by omega) ‹_› (Ac.1 hW) fun b h' nx' hW P=>?_;cases b<;>(try simp only[Ak,ite_self]at hW))
  |(refine A.typeInBr _ _ hd (by omega) _ _ _ _ _ _ _ _ ‹_› (Ac.1 hW) (fun v s' h' nx' hW P=>?_) (fun f h2 n2 s2 P2=>hf f _ _ _ (PI.sb P2));(try simp only[Ak,ite_self]at hW))
  |(refine A.typeInBr _ _ hd (by omega) _ _ _ _ _ _ _ _ ‹_› hW (fun v s' h' nx' hW P=>?_) (fun f h2 n2 s2 P2=>hf f _ _ _ (PI.sb P2));(try simp only[Ak,ite_self]at hW))
  |(refine A.literal _ _ _ hd (by omega) _ _ _ _ _ _ _ _ ‹_› (Ac.1 hW) (fun v s' h' nx' hW P=>?_) (fun f h2 n2 s2 P2=>hf f _ _ _ (PI.sb P2));(try simp only[Ak,ite_self]at hW))
  |(refine A.literal _ _ _ hd (by omega) _ _ _ _ _ _ _ _ ‹_› hW (fun v s' h' nx' hW P=>?_) (fun f h2 n2 s2 P2=>hf f _ _ _ (PI.sb P2));(try simp only[Ak,ite_self]at hW))
  |(refine A.primary _ _ hd (by omega) _ _ _ _ _ _ _ _ ‹_› (Ac.1 hW) (fun v s' h' nx' hW P=>?_) (fun f h2 n2 s2 P2=>hf f _ _ _ (PI.sb P2));(try simp only[Ak,ite_self]at hW))
  |(refine A.primary _ _ hd (by omega) _ _ _ _ _ _ _ _ ‹_› hW (fun v s' h' nx' hW P=>?_) (fun f h2 n2 s2 P2=>hf f _ _ _ (PI.sb P2));(try simp only[Ak,ite_self]at hW))
  |(refine A.applied _ _ _ hd (by omega) _ _ _ _ _ _ _ _ ‹_› (Ac.1 hW) (fun v s' h' nx' hW P=>?_) (fun f h2 n2 s2 P2=>hf f _ _ _ (PI.sb P2));(try simp only[Ak,ite_self]at hW))
  |(refine A.applied _ _ _ hd (by omega) _ _ _ _ _ _ _ _ ‹_› hW (fun v s' h' nx' hW P=>?_) (fun f h2 n2 s2 P2=>hf f _ _ _ (PI.sb P2));(try simp only[Ak,ite_self]at hW))
  |exact hk _ _ _ _ hW (PI.sb ‹_›))
theorem w_primary (A:ALL E m):C5 E (m+1) .primary 238 []:=by
 intro n d hd hn kp h nx k s R Q Fl P hW hk hf
 refine Ab (d:=m+1+d) hn (by omega) fun mm hm=>?_
 have hW:W (Ah (run m) .primary E.l s) Q Fl False:=hW
 simp only[Ah]at hW
 (try simp only[Ak,ite_self]at hW)
 repeat' ((conv=>lhs;whnf);first
  |contradiction
  |(refine B4 (by omega) ‹_› (Ac.1 hW) (fun h' nx' hW P=>?_);(try simp only[Ak,ite_self]at hW))
  |refine Bl ‹_› rfl fun h1 P=>?_
  |refine B5 ‹_› 0 rfl (Aa rfl) (by first|rfl|exact Ba ‹_›) fun h1 P=>?_
  |refine An ‹_› 0 rfl (Aa rfl) ?_
  |refine An ‹_› 1 rfl (Aa rfl) ?_
  |refine An ‹_› 2 rfl (Aa rfl) ?_
  |refine Af ‹_› 0 rfl (Aa rfl) ?_
  |refine Af ‹_› 1 rfl (Aa rfl) ?_
  |refine Af ‹_› 2 rfl (Aa rfl) ?_
  |refine Bd ‹_› fun hat=>?_
  |refine Bv (by(try simp only[Aj]at *);omega) ?_
  |(refine Cy ‹_› (Ac.1 hW) rfl fun s' h' hW P=>?_;(try simp only[Ak,ite_self]at hW))
  |(refine Ca (b:=⟨_,_⟩) (by omega) ‹_› (by first|omega|exact(Aa rfl)) (Ac.1 hW) fun s' h' nx' hW P=>?_;(try simp only[Ak,ite_self]at hW))
  |(refine H3 (by omega) ‹_› (Ac.1 hW) fun t h' nx' hW P=>?_;(try simp only[Ak,ite_self]at hW))
  |(refine isTy_w (by omega) ‹_› (Ac.1 hW) fun b hW P=>?_;cases b<;>(try simp only[Ak,ite_self]at hW))
  |(refine Dl (by omega) ‹_› (Ac.1 hW) fun b s' h' nx' hW P=>?_;cases b<;>(try simp only[Ak,ite_self]at hW))
  |(refine Ph (by omega) ‹_› (Ac.1 hW) fun b s' h' nx' hW P=>?_;cases b<;>(try simp only[Ak,ite_self]at hW))
  |(refine Dd (by omega) ‹_› (Ac.1 hW) (fun s' h' nx' hW P=>?_) (fun f h2 n2 s2 P2=>hf f _ _ _ (PI.sb P2));(try simp only[Ak,ite_self]at hW))
  |refine Iw ‹_› (by omega) (fun h2 n2 s2 P2=>hf hW h2 n2 s2 (PI.sb P2))
  |(refine Cu (fun hc hz=>?_) (fun hc hz=>?_)<;>(try rewrite [hc])<;>(first|simp only[if_pos hz]at hW|simp only[if_neg hz]at hW|rw[if_pos ‹_›]at hW|rw[if_neg ‹_›]at hW|rw[if_pos (by(try simp only[Aj]at *);omega)]at hW|rw[if_neg (by(try simp only[Aj]at *);omega)]at hW|skip)<;>(try simp only[Ak,ite_self]at hW))
  |(refine new (fun hc hz=>?_) (fun hc hz=>?_)<;>(try rewrite [hc])<;>(first|simp only[if_pos hz]at hW|simp only[if_neg hz]at hW|rw[if_pos ‹_›]at hW|rw[if_neg ‹_›]at hW|rw[if_pos (by(try simp only[Aj]at *);omega)]at hW|rw[if_neg (by(try simp only[Aj]at *);omega)]at hW|skip)<;>(try simp only[Ak,ite_self]at hW))
  |(refine A.strings _ _ hd (by omega) _ _ _ _ _ _ _ _ ‹_› (Ac.1 hW) (fun v s' h' nx' hW P=>?_) (fun f h2 n2 s2 P2=>hf f _ _ _ (PI.sb P2));(try simp only[Ak,ite_self]at hW))
  |(refine A.strings _ _ hd (by omega) _ _ _ _ _ _ _ _ ‹_› hW (fun v s' h' nx' hW P=>?_) (fun f h2 n2 s2 P2=>hf f _ _ _ (PI.sb P2));(try simp only[Ak,ite_self]at hW))
  |(refine A.expr _ _ hd (by omega) _ _ _ _ _ _ _ _ ‹_› (Ac.1 hW) (fun v s' h' nx' hW P=>?_) (fun f h2 n2 s2 P2=>hf f _ _ _ (PI.sb P2));(try simp only[Ak,ite_self]at hW))
  |(refine A.expr _ _ hd (by omega) _ _ _ _ _ _ _ _ ‹_› hW (fun v s' h' nx' hW P=>?_) (fun f h2 n2 s2 P2=>hf f _ _ _ (PI.sb P2));(try simp only[Ak,ite_self]at hW))
  |(refine A.generic _ _ hd (by omega) _ _ _ _ _ _ _ _ ‹_› (Ac.1 hW) (fun v s' h' nx' hW P=>?_) (fun f h2 n2 s2 P2=>hf f _ _ _ (PI.sb P2));(try simp only[Ak,ite_self]at hW))
  |(refine A.generic _ _ hd (by omega) _ _ _ _ _ _ _ _ ‹_› hW (fun v s' h' nx' hW P=>?_) (fun f h2 n2 s2 P2=>hf f _ _ _ (PI.sb P2));(try simp only[Ak,ite_self]at hW))
  |exact hk _ _ _ _ hW (PI.sb ‹_›))
theorem Vq (A:ALL E m):C5 E (m+1) .initializer 96 []:=by
 intro n d hd hn kp h nx k s R Q Fl P hW hk hf
 refine Ab (d:=m+1+d) hn (by omega) fun mm hm=>?_
 have hW:W (Ah (run m) .initializer E.l s) Q Fl False:=hW
 simp only[Ah]at hW
 (try simp only[Ak,ite_self]at hW)
 repeat' ((conv=>lhs;whnf);first
  |contradiction
  |(refine Gb (by omega) ‹_› (Ac.1 hW) fun b h' nx' hW P=>?_;cases b<;>(try simp only[Ak,ite_self]at hW))
  |(refine A.braces _ _ hd (by omega) _ _ _ _ _ _ _ _ ‹_› (Ac.1 hW) (fun v s' h' nx' hW P=>?_) (fun f h2 n2 s2 P2=>hf f _ _ _ (PI.sb P2));(try simp only[Ak,ite_self]at hW))
  |(refine A.braces _ _ hd (by omega) _ _ _ _ _ _ _ _ ‹_› hW (fun v s' h' nx' hW P=>?_) (fun f h2 n2 s2 P2=>hf f _ _ _ (PI.sb P2));(try simp only[Ak,ite_self]at hW))
  |(refine A.assign _ _ hd (by omega) _ _ _ _ _ _ _ _ ‹_› (Ac.1 hW) (fun v s' h' nx' hW P=>?_) (fun f h2 n2 s2 P2=>hf f _ _ _ (PI.sb P2));(try simp only[Ak,ite_self]at hW))
  |(refine A.assign _ _ hd (by omega) _ _ _ _ _ _ _ _ ‹_› hW (fun v s' h' nx' hW P=>?_) (fun f h2 n2 s2 P2=>hf f _ _ _ (PI.sb P2));(try simp only[Ak,ite_self]at hW))
  |exact hk _ _ _ _ hW (PI.sb ‹_›))
theorem w_assoc (A:ALL E m):C5 E (m+1) .assoc 241 []:=by
 intro n d hd hn kp h nx k s R Q Fl P hW hk hf
 refine Ab (d:=m+1+d) hn (by omega) fun mm hm=>?_
 have hW:W (Ah (run m) .assoc E.l s) Q Fl False:=hW
 simp only[Ah]at hW
 (try simp only[Ak,ite_self]at hW)
 repeat' ((conv=>lhs;whnf);first
  |contradiction
  |(refine B4 (by omega) ‹_› (Ac.1 hW) (fun h' nx' hW P=>?_);(try simp only[Ak,ite_self]at hW))
  |refine Bl ‹_› rfl fun h1 P=>?_
  |refine B5 ‹_› 0 rfl (Aa rfl) (by first|rfl|exact Ba ‹_›) fun h1 P=>?_
  |refine An ‹_› 0 rfl (Aa rfl) ?_
  |refine An ‹_› 1 rfl (Aa rfl) ?_
  |refine An ‹_› 2 rfl (Aa rfl) ?_
  |refine Af ‹_› 0 rfl (Aa rfl) ?_
  |refine Af ‹_› 1 rfl (Aa rfl) ?_
  |refine Af ‹_› 2 rfl (Aa rfl) ?_
  |refine Bd ‹_› fun hat=>?_
  |refine Bv (by(try simp only[Aj]at *);omega) ?_
  |(refine Cy ‹_› (Ac.1 hW) rfl fun s' h' hW P=>?_;(try simp only[Ak,ite_self]at hW))
  |(refine Ca (b:=⟨_,_⟩) (by omega) ‹_› (by first|omega|exact(Aa rfl)) (Ac.1 hW) fun s' h' nx' hW P=>?_;(try simp only[Ak,ite_self]at hW))
  |(refine Ph (by omega) ‹_› (Ac.1 hW) fun b s' h' nx' hW P=>?_;cases b<;>(try simp only[Ak,ite_self]at hW))
  |(refine Dd (by omega) ‹_› (Ac.1 hW) (fun s' h' nx' hW P=>?_) (fun f h2 n2 s2 P2=>hf f _ _ _ (PI.sb P2));(try simp only[Ak,ite_self]at hW))
  |(refine A.typeName _ _ hd (by omega) _ _ _ _ _ _ _ _ ‹_› (Ac.1 hW) (fun v s' h' nx' hW P=>?_) (fun f h2 n2 s2 P2=>hf f _ _ _ (PI.sb P2));(try simp only[Ak,ite_self]at hW))
  |(refine A.typeName _ _ hd (by omega) _ _ _ _ _ _ _ _ ‹_› hW (fun v s' h' nx' hW P=>?_) (fun f h2 n2 s2 P2=>hf f _ _ _ (PI.sb P2));(try simp only[Ak,ite_self]at hW))
  |(refine A.assign _ _ hd (by omega) _ _ _ _ _ _ _ _ ‹_› (Ac.1 hW) (fun v s' h' nx' hW P=>?_) (fun f h2 n2 s2 P2=>hf f _ _ _ (PI.sb P2));(try simp only[Ak,ite_self]at hW))
  |(refine A.assign _ _ hd (by omega) _ _ _ _ _ _ _ _ ‹_› hW (fun v s' h' nx' hW P=>?_) (fun f h2 n2 s2 P2=>hf f _ _ _ (PI.sb P2));(try simp only[Ak,ite_self]at hW))
  |exact hk _ _ _ _ hW (PI.sb ‹_›))
theorem w_unary (A:ALL E m):C5 E (m+1) .unary 216 []:=by
 intro n d hd hn kp h nx k s R Q Fl P hW hk hf
 refine Ab (d:=m+1+d) hn (by omega) fun mm hm=>?_
 have hW:W (Ah (run m) .unary E.l s) Q Fl False:=hW
 simp only[Ah]at hW
 (try simp only[Ak,ite_self]at hW)
 repeat' ((conv=>lhs;whnf);first
  |contradiction
  |(refine B4 (by omega) ‹_› (Ac.1 hW) (fun h' nx' hW P=>?_);(try simp only[Ak,ite_self]at hW))
  |refine Bl ‹_› rfl fun h1 P=>?_
  |refine B5 ‹_› 0 rfl (Aa rfl) (by first|rfl|exact Ba ‹_›) fun h1 P=>?_
  |refine An ‹_› 0 rfl (Aa rfl) ?_
  |refine An ‹_› 1 rfl (Aa rfl) ?_
  |refine An ‹_› 2 rfl (Aa rfl) ?_
  |refine Af ‹_› 0 rfl (Aa rfl) ?_
  |refine Af ‹_› 1 rfl (Aa rfl) ?_
  |refine Af ‹_› 2 rfl (Aa rfl) ?_
  |refine Bd ‹_› fun hat=>?_
  |refine Bv (by(try simp only[Aj]at *);omega) ?_
  |(refine Cy ‹_› (Ac.1 hW) rfl fun s' h' hW P=>?_;(try simp only[Ak,ite_self]at hW))
  |(refine Ca (b:=⟨_,_⟩) (by omega) ‹_› (by first|omega|exact(Aa rfl)) (Ac.1 hW) fun s' h' nx' hW P=>?_;(try simp only[Ak,ite_self]at hW))
  |(refine H3 (by omega) ‹_› (Ac.1 hW) fun t h' nx' hW P=>?_;(try simp only[Ak,ite_self]at hW))
  |(refine Cu (fun hc hz=>?_) (fun hc hz=>?_)<;>(try rewrite [hc])<;>(first|simp only[if_pos hz]at hW|simp only[if_neg hz]at hW|rw[if_pos ‹_›]at hW|rw[if_neg ‹_›]at hW|rw[if_pos (by(try simp only[Aj]at *);omega)]at hW|rw[if_neg (by(try simp only[Aj]at *);omega)]at hW|skip)<;>(try simp only[Ak,ite_self]at hW))
  |(refine Gq (fun hc hz=>?_) (fun hc hz=>?_)<;>(try rewrite [hc])<;>(first|simp only[if_pos hz]at hW|simp only[if_neg hz]at hW|rw[if_pos ‹_›]at hW|rw[if_neg ‹_›]at hW|rw[if_pos (by(try simp only[Aj]at *);omega)]at hW|rw[if_neg (by(try simp only[Aj]at *);omega)]at hW|skip)<;>(try simp only[Ak,ite_self]at hW))
  |(refine A.unary _ _ hd (by omega) _ _ _ _ _ _ _ _ ‹_› (Ac.1 hW) (fun v s' h' nx' hW P=>?_) (fun f h2 n2 s2 P2=>hf f _ _ _ (PI.sb P2));(try simp only[Ak,ite_self]at hW))
  |(refine A.unary _ _ hd (by omega) _ _ _ _ _ _ _ _ ‹_› hW (fun v s' h' nx' hW P=>?_) (fun f h2 n2 s2 P2=>hf f _ _ _ (PI.sb P2));(try simp only[Ak,ite_self]at hW))
  |(refine A.cast _ _ hd (by omega) _ _ _ _ _ _ _ _ ‹_› (Ac.1 hW) (fun b v s' h' nx' hb hW P=>?_) (fun f h2 n2 s2 P2=>hf f _ _ _ (PI.sb P2));(try rw[hb]at hW);cases b<;>(try simp only[Ak,ite_self]at hW))
  |(refine A.cast _ _ hd (by omega) _ _ _ _ _ _ _ _ ‹_› hW (fun b v s' h' nx' hb hW P=>?_) (fun f h2 n2 s2 P2=>hf f _ _ _ (PI.sb P2));(try rw[hb]at hW);cases b<;>(try simp only[Ak,ite_self]at hW))
  |(refine A.size _ _ _ hd (by omega) _ _ _ _ _ _ _ _ ‹_› (Ac.1 hW) (fun v s' h' nx' hW P=>?_) (fun f h2 n2 s2 P2=>hf f _ _ _ (PI.sb P2));(try simp only[Ak,ite_self]at hW))
  |(refine A.size _ _ _ hd (by omega) _ _ _ _ _ _ _ _ ‹_› hW (fun v s' h' nx' hW P=>?_) (fun f h2 n2 s2 P2=>hf f _ _ _ (PI.sb P2));(try simp only[Ak,ite_self]at hW))
  |(refine A.postf' _ _ hd (by omega) _ _ _ _ _ _ _ _ ‹_› (Ac.1 hW) (fun v s' h' nx' hW P=>?_) (fun f h2 n2 s2 P2=>hf f _ _ _ (PI.sb P2));(try simp only[Ak,ite_self]at hW))
  |(refine A.postf' _ _ hd (by omega) _ _ _ _ _ _ _ _ ‹_› hW (fun v s' h' nx' hW P=>?_) (fun f h2 n2 s2 P2=>hf f _ _ _ (PI.sb P2));(try simp only[Ak,ite_self]at hW))
  |exact hk _ _ _ _ hW (PI.sb ‹_›))
theorem w_desig (A:ALL E m):O8 E (m+1) .desig 219 []:=by
 intro n d hd hn kp h nx k s R Q Fl P hW hk hf
 refine Ab (d:=m+1+d) hn (by omega) fun mm hm=>?_
 have hW:W (Ah (run m) .desig E.l s) Q Fl False:=hW
 simp only[Ah]at hW
 (try simp only[Ak,ite_self]at hW)
 repeat' ((conv=>lhs;whnf);first
  |contradiction
  |(refine B4 (by omega) ‹_› (Ac.1 hW) (fun h' nx' hW P=>?_);(try simp only[Ak,ite_self]at hW))
  |refine Bl ‹_› rfl fun h1 P=>?_
  |refine B5 ‹_› 0 rfl (Aa rfl) (by first|rfl|exact Ba ‹_›) fun h1 P=>?_
  |refine An ‹_› 0 rfl (Aa rfl) ?_
  |refine An ‹_› 1 rfl (Aa rfl) ?_
  |refine An ‹_› 2 rfl (Aa rfl) ?_
  |refine Af ‹_› 0 rfl (Aa rfl) ?_
  |refine Af ‹_› 1 rfl (Aa rfl) ?_
  |refine Af ‹_› 2 rfl (Aa rfl) ?_
  |refine Bd ‹_› fun hat=>?_
  |refine Bv (by(try simp only[Aj]at *);omega) ?_
  |(refine Cy ‹_› (Ac.1 hW) rfl fun s' h' hW P=>?_;(try simp only[Ak,ite_self]at hW))
  |(refine Ca (b:=⟨_,_⟩) (by omega) ‹_› (by first|omega|exact(Aa rfl)) (Ac.1 hW) fun s' h' nx' hW P=>?_;(try simp only[Ak,ite_self]at hW))
  |(refine Dl (by omega) ‹_› (Ac.1 hW) fun b s' h' nx' hW P=>?_;cases b<;>(try simp only[Ak,ite_self]at hW))
  |(refine Dd (by omega) ‹_› (Ac.1 hW) (fun s' h' nx' hW P=>?_) (fun f h2 n2 s2 P2=>hf f _ _ _ (PI.sb P2));(try simp only[Ak,ite_self]at hW))
  |(refine Ot (by omega) ‹_› (Ac.1 hW) (fun t s' h' nx' hW P=>?_) (fun f h2 n2 s2 P2=>hf f _ _ _ (PI.sb P2));(try simp only[Ak,ite_self]at hW))
  |(refine A.choice _ _ hd (by omega) _ _ _ _ _ _ _ _ ‹_› (Ac.1 hW) (fun b v s' h' nx' hb hW P=>?_) (fun f h2 n2 s2 P2=>hf f _ _ _ (PI.sb P2));(try rw[hb]at hW);cases b<;>(try simp only[Ak,ite_self]at hW))
  |(refine A.choice _ _ hd (by omega) _ _ _ _ _ _ _ _ ‹_› hW (fun b v s' h' nx' hb hW P=>?_) (fun f h2 n2 s2 P2=>hf f _ _ _ (PI.sb P2));(try rw[hb]at hW);cases b<;>(try simp only[Ak,ite_self]at hW))
  |(refine hk _ _ _ _ _ ?_ hW (PI.sb ‹_›);first|rfl|assumption|exact Sc))
end Go.CE
