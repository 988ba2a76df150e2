/- Part 26 of the lemmas behind the claim. -/
import Derived.Test.YtacpdfjcepkgcaaGreatDoorZA01
import Derived.Test.YtacpdfjcepkgcaaGreatDoorZA25
set_option linter.unusedSimpArgs false
set_option linter.unusedVariables false
set_option linter.constructorNameAsVariable false
set_option linter.unusedSectionVars false
set_option linter.defProp false
set_option maxRecDepth 100000
set_option maxHeartbeats 40000000
namespace Go.CE
open Go Go.Ps Go.Proofs.YtacpdfjcepkgcaaGreatDoor
attribute [local irreducible] loopK Ai K0 N2 Dg fits rd rd1 wr newC Kj Fk Fa Ve
variable {E : PEnv} {m : Nat}
theorem w_array (A:ALL E m):C5 E (m+1) .array 142 []:=by
 intro n d hd hn kp h nx k s R Q Fl P hW hk hf
 refine Ab (d:=m+1+d) hn (by omega) fun mm hm=>?_
 have hW:W (Ah (run m) .array E.l s) Q Fl False:=hW
 simp only[Ah]at hW
 (try simp only[Ak,ite_self]at hW)
 repeat' ((conv=>lhs;whnf);first
  |contradiction
  |(refine B4 (by omega) ‹_› (Ac.1 hW) (fun h' nx' hW P=>?_);(try simp only[Ak,ite_self]at hW))
  |refine Bl ‹_› rfl fun h1 P=>?_
  |refine B5 ‹_› 0 rfl (Aa rfl) (by first|rfl|exact Ba ‹_›) fun h1 P=>?_
  |refine An ‹_› 0 rfl (Aa rfl) ?_
  |refine An ‹_› 1 rfl (Aa rfl) ?_
  |refine An ‹_› 2 rfl (Aa rfl) ?_
  |refine Af ‹_› 0 rfl (Aa rfl) ?_
  |refine Af ‹_› 1 rfl (Aa rfl) ?_
  |refine Af ‹_› 2 rfl (Aa rfl) ?_
  |refine Bd ‹_› fun hat=>?_
  |refine Bv (by(try simp only[Aj]at *);omega) ?_
  |(refine Cy ‹_› (Ac.1 hW) rfl fun s' h' hW P=>?_;(try simp only[Ak,ite_self]at hW))
  |(refine Ca (b:=⟨_,_⟩) (by omega) ‹_› (by first|omega|exact(Aa rfl)) (Ac.1 hW) fun s' h' nx' hW P=>?_;(try simp only[Ak,ite_self]at hW))
  |(refine Dd (by omega) ‹_› (Ac.1 hW) (fun s' h' nx' hW P=>?_) (fun f h2 n2 s2 P2=>hf f _ _ _ (PI.sb P2));(try simp only[Ak,ite_self]at hW))
  |(refine Ph (by omega) ‹_› (Ac.1 hW) fun b s' h' nx' hW P=>?_;cases b<;>(try simp only[Ak,ite_self]at hW))
  |(refine Gb (by omega) ‹_› (Ac.1 hW) fun b h' nx' hW P=>?_;cases b<;>(try simp only[Ak,ite_self]at hW))
  |(refine Sm (by omega) ‹_› (Ac.1 hW) fun b h' nx' hW P=>?_;cases b<;>(try simp only[Ak,ite_self]at hW))
  |(refine A.qualifiers _ _ hd (by omega) _ _ _ _ _ _ _ _ ‹_› (Ac.1 hW) (fun b v s' h' nx' hb hW P=>?_) (fun f h2 n2 s2 P2=>hf f _ _ _ (PI.sb P2));(try rw[hb]at hW);cases b<;>(try simp only[Ak,ite_self]at hW))
  |(refine A.qualifiers _ _ hd (by omega) _ _ _ _ _ _ _ _ ‹_› hW (fun b v s' h' nx' hb hW P=>?_) (fun f h2 n2 s2 P2=>hf f _ _ _ (PI.sb P2));(try rw[hb]at hW);cases b<;>(try simp only[Ak,ite_self]at hW))
  |(refine A.assign _ _ hd (by omega) _ _ _ _ _ _ _ _ ‹_› (Ac.1 hW) (fun v s' h' nx' hW P=>?_) (fun f h2 n2 s2 P2=>hf f _ _ _ (PI.sb P2));(try simp only[Ak,ite_self]at hW))
  |(refine A.assign _ _ hd (by omega) _ _ _ _ _ _ _ _ ‹_› hW (fun v s' h' nx' hW P=>?_) (fun f h2 n2 s2 P2=>hf f _ _ _ (PI.sb P2));(try simp only[Ak,ite_self]at hW))
  |exact hk _ _ _ _ hW (PI.sb ‹_›))
theorem w_param (A:ALL E m):C5 E (m+1) .param 186 []:=by
 intro n d hd hn kp h nx k s R Q Fl P hW hk hf
 refine Ab (d:=m+1+d) hn (by omega) fun mm hm=>?_
 have hW:W (Ah (run m) .param E.l s) Q Fl False:=hW
 simp only[Ah]at hW
 (try simp only[Ak,ite_self]at hW)
 repeat' ((conv=>lhs;whnf);first
  |contradiction
  |(refine B4 (by omega) ‹_› (Ac.1 hW) (fun h' nx' hW P=>?_);(try simp only[Ak,ite_self]at hW))
  |refine Bl ‹_› rfl fun h1 P=>?_
  |refine B5 ‹_› 0 rfl (Aa rfl) (by first|rfl|exact Ba ‹_›) fun h1 P=>?_
  |refine An ‹_› 0 rfl (Aa rfl) ?_
  |refine An ‹_› 1 rfl (Aa rfl) ?_
  |refine An ‹_› 2 rfl (Aa rfl) ?_
  |refine Af ‹_› 0 rfl (Aa rfl) ?_
  |refine Af ‹_› 1 rfl (Aa rfl) ?_
  |refine Af ‹_› 2 rfl (Aa rfl) ?_
  |refine Bd ‹_› fun hat=>?_
  |refine Bv (by(try simp only[Aj]at *);omega) ?_
  |(refine Cy ‹_› (Ac.1 hW) rfl fun s' h' hW P=>?_;(try simp only[Ak,ite_self]at hW))
  |(refine Ca (b:=⟨_,_⟩) (by omega) ‹_› (by first|omega|exact(Aa rfl)) (Ac.1 hW) fun s' h' nx' hW P=>?_;(try simp only[Ak,ite_self]at hW))
  |(refine Gb (by omega) ‹_› (Ac.1 hW) fun b h' nx' hW P=>?_;cases b<;>(try simp only[Ak,ite_self]at hW))
  |(refine J0 (d:=⟨_,_⟩) (by omega) ‹_› (Ac.1 hW) fun s' h' nx' hW P=>?_;(try simp only[Ak,ite_self]at hW))
  |(refine bw (fun hc=>?_) (fun hc=>?_)<;>(try rewrite [hc])<;>(try rw[hc]at hW)<;>(try simp only[Ak,ite_self]at hW))
  |(refine A.specs _ _ _ hd (by omega) _ _ _ _ _ _ _ _ ‹_› (Ac.1 hW) (fun b v s' h' nx' hb hW P=>?_) (fun f h2 n2 s2 P2=>hf f _ _ _ (PI.sb P2));(try rw[hb]at hW);cases b<;>(try simp only[Ak,ite_self]at hW))
  |(refine A.specs _ _ _ hd (by omega) _ _ _ _ _ _ _ _ ‹_› hW (fun b v s' h' nx' hb hW P=>?_) (fun f h2 n2 s2 P2=>hf f _ _ _ (PI.sb P2));(try rw[hb]at hW);cases b<;>(try simp only[Ak,ite_self]at hW))
  |(refine A.declarator _ (by first|omega|exact(Aa rfl)) _ _ hd (by omega) _ _ _ _ _ _ _ _ ‹_› (Ac.1 hW) (fun v s' h' nx' pv X hX hpl hW P=>?_) (fun f h2 n2 s2 P2=>hf f _ _ _ (PI.sb P2));(try simp only[Ak,ite_self]at hW))
  |exact hk _ _ _ _ hW (PI.sb ‹_›))
theorem Vr (A:ALL E m):C5 E (m+1) .declaration 146 []:=by
 intro n d hd hn kp h nx k s R Q Fl P hW hk hf
 refine Ab (d:=m+1+d) hn (by omega) fun mm hm=>?_
 have hW:W (Ah (run m) .declaration E.l s) Q Fl False:=hW
 simp only[Ah]at hW
 (try simp only[Ak,ite_self]at hW)
 repeat' ((conv=>lhs;whnf);first
  |contradiction
  |(refine B4 (by omega) ‹_› (Ac.1 hW) (fun h' nx' hW P=>?_);(try simp only[Ak,ite_self]at hW))
  |refine Bl ‹_› rfl fun h1 P=>?_
  |refine B5 ‹_› 0 rfl (Aa rfl) (by first|rfl|exact Ba ‹_›) fun h1 P=>?_
  |refine An ‹_› 0 rfl (Aa rfl) ?_
  |refine An ‹_› 1 rfl (Aa rfl) ?_
  |refine An ‹_› 2 rfl (Aa rfl) ?_
  |refine Af ‹_› 0 rfl (Aa rfl) ?_
  |refine Af ‹_› 1 rfl (Aa rfl) ?_
  |refine Af ‹_› 2 rfl (Aa rfl) ?_
  |refine Bd ‹_› fun hat=>?_
  |refine Bv (by(try simp only[Aj]at *);omega) ?_
  |(refine Cy ‹_› (Ac.1 hW) rfl fun s' h' hW P=>?_;(try simp only[Ak,ite_self]at hW))
  |(refine Ca (b:=⟨_,_⟩) (by omega) ‹_› (by first|omega|exact(Aa rfl)) (Ac.1 hW) fun s' h' nx' hW P=>?_;(try simp only[Ak,ite_self]at hW))
  |(refine word_w (by omega) ‹_› (Ac.1 hW) fun b h' nx' hW P=>?_;cases b<;>(try simp only[Ak,ite_self]at hW))
  |(refine Gb (by omega) ‹_› (Ac.1 hW) fun b h' nx' hW P=>?_;cases b<;>(try simp only[Ak,ite_self]at hW))
  |(refine Dd (by omega) ‹_› (Ac.1 hW) (fun s' h' nx' hW P=>?_) (fun f h2 n2 s2 P2=>hf f _ _ _ (PI.sb P2));(try simp only[Ak,ite_self]at hW))
  |(refine A.assert _ _ hd (by omega) _ _ _ _ _ _ _ _ ‹_› (Ac.1 hW) (fun v s' h' nx' hW P=>?_) (fun f h2 n2 s2 P2=>hf f _ _ _ (PI.sb P2));(try simp only[Ak,ite_self]at hW))
  |(refine A.assert _ _ hd (by omega) _ _ _ _ _ _ _ _ ‹_› hW (fun v s' h' nx' hW P=>?_) (fun f h2 n2 s2 P2=>hf f _ _ _ (PI.sb P2));(try simp only[Ak,ite_self]at hW))
  |(refine A.specs _ _ _ hd (by omega) _ _ _ _ _ _ _ _ ‹_› (Ac.1 hW) (fun b v s' h' nx' hb hW P=>?_) (fun f h2 n2 s2 P2=>hf f _ _ _ (PI.sb P2));(try rw[hb]at hW);cases b<;>(try simp only[Ak,ite_self]at hW))
  |(refine A.specs _ _ _ hd (by omega) _ _ _ _ _ _ _ _ ‹_› hW (fun b v s' h' nx' hb hW P=>?_) (fun f h2 n2 s2 P2=>hf f _ _ _ (PI.sb P2));(try rw[hb]at hW);cases b<;>(try simp only[Ak,ite_self]at hW))
  |(refine A.init _ _ _ hd (by omega) _ _ _ _ _ _ _ _ ‹_› (Ac.1 hW) (fun v s' h' nx' hW P=>?_) (fun f h2 n2 s2 P2=>hf f _ _ _ (PI.sb P2));(try simp only[Ak,ite_self]at hW))
  |(refine A.init _ _ _ hd (by omega) _ _ _ _ _ _ _ _ ‹_› hW (fun v s' h' nx' hW P=>?_) (fun f h2 n2 s2 P2=>hf f _ _ _ (PI.sb P2));(try simp only[Ak,ite_self]at hW))
  |(refine A.moreInits _ _ _ hd (by omega) _ _ _ _ _ _ _ _ ‹_› (Ac.1 hW) (fun v s' h' nx' hW P=>?_) (fun f h2 n2 s2 P2=>hf f _ _ _ (PI.sb P2));(try simp only[Ak,ite_self]at hW))
  |(refine A.moreInits _ _ _ hd (by omega) _ _ _ _ _ _ _ _ ‹_› hW (fun v s' h' nx' hW P=>?_) (fun f h2 n2 s2 P2=>hf f _ _ _ (PI.sb P2));(try simp only[Ak,ite_self]at hW))
  |exact hk _ _ _ _ hW (PI.sb ‹_›))
theorem w_init (A:ALL E m) (td:Bool):C5 E (m+1) (.init td) 97 [.b td]:=by
 intro n d hd hn kp h nx k s R Q Fl P hW hk hf
 refine Ab (d:=m+1+d) hn (by omega) fun mm hm=>?_
 have hW:W (Ah (run m) (.init td) E.l s) Q Fl False:=hW
 simp only[Ah]at hW
 (try simp only[Ak,ite_self]at hW)
 repeat' ((conv=>lhs;whnf);first
  |contradiction
  |(refine B4 (by omega) ‹_› (Ac.1 hW) (fun h' nx' hW P=>?_);(try simp only[Ak,ite_self]at hW))
  |refine Bl ‹_› rfl fun h1 P=>?_
  |refine B5 ‹_› 0 rfl (Aa rfl) (by first|rfl|exact Ba ‹_›) fun h1 P=>?_
  |refine An ‹_› 0 rfl (Aa rfl) ?_
  |refine An ‹_› 1 rfl (Aa rfl) ?_
  |refine An ‹_› 2 rfl (Aa rfl) ?_
  |refine Af ‹_› 0 rfl (Aa rfl) ?_
  |refine Af ‹_› 1 rfl (Aa rfl) ?_
  |refine Af ‹_› 2 rfl (Aa rfl) ?_
  |refine Bd ‹_› fun hat=>?_
  |refine Bv (by(try simp only[Aj]at *);omega) ?_
  |(refine Cy ‹_› (Ac.1 hW) rfl fun s' h' hW P=>?_;(try simp only[Ak,ite_self]at hW))
  |(refine Ca (b:=⟨_,_⟩) (by omega) ‹_› (by first|omega|exact(Aa rfl)) (Ac.1 hW) fun s' h' nx' hW P=>?_;(try simp only[Ak,ite_self]at hW))
  |(refine J0 (d:=⟨_,_⟩) (by omega) ‹_› (Ac.1 hW) fun s' h' nx' hW P=>?_;(try simp only[Ak,ite_self]at hW))
  |(refine A.declarator _ (by first|omega|exact(Aa rfl)) _ _ hd (by omega) _ _ _ _ _ _ _ _ ‹_› (Ac.1 hW) (fun v s' h' nx' pv X hX hpl hW P=>?_) (fun f h2 n2 s2 P2=>hf f _ _ _ (PI.sb P2));(try simp only[Ak,ite_self]at hW))
  |(refine A.restOfInit _ _ _ hd (by omega) _ _ _ _ _ _ _ _ ‹_› (Ac.1 hW) (fun v s' h' nx' hW P=>?_) (fun f h2 n2 s2 P2=>hf f _ _ _ (PI.sb P2));(try simp only[Ak,ite_self]at hW))
  |(refine A.restOfInit _ _ _ hd (by omega) _ _ _ _ _ _ _ _ ‹_› hW (fun v s' h' nx' hW P=>?_) (fun f h2 n2 s2 P2=>hf f _ _ _ (PI.sb P2));(try simp only[Ak,ite_self]at hW))
  |exact hk _ _ _ _ hW (PI.sb ‹_›))
theorem Yq (A:ALL E m) (st:Stt):C5 E (m+1) (.restOfInit st) 43 [stA st]:=by
 intro n d hd hn kp h nx k s R Q Fl P hW hk hf
 refine Ab (d:=m+1+d) hn (by omega) fun mm hm=>?_
 have hW:W (Ah (run m) (.restOfInit st) E.l s) Q Fl False:=hW
 simp only[Ah]at hW
 (try simp only[Ak,ite_self]at hW)
 repeat' ((conv=>lhs;whnf);first
  |contradiction
  |(refine B4 (by omega) ‹_› (Ac.1 hW) (fun h' nx' hW P=>?_);(try simp only[Ak,ite_self]at hW))
  |refine Bl ‹_› rfl fun h1 P=>?_
  |refine B5 ‹_› 0 rfl (Aa rfl) (by first|rfl|exact Ba ‹_›) fun h1 P=>?_
  |refine An ‹_› 0 rfl (Aa rfl) ?_
  |refine An ‹_› 1 rfl (Aa rfl) ?_
  |refine An ‹_› 2 rfl (Aa rfl) ?_
  |refine Af ‹_› 0 rfl (Aa rfl) ?_
  |refine Af ‹_› 1 rfl (Aa rfl) ?_
  |refine Af ‹_› 2 rfl (Aa rfl) ?_
  |refine Bd ‹_› fun hat=>?_
  |refine Bv (by(try simp only[Aj]at *);omega) ?_
  |(refine Cy ‹_› (Ac.1 hW) rfl fun s' h' hW P=>?_;(try simp only[Ak,ite_self]at hW))
  |(refine Ca (b:=⟨_,_⟩) (by omega) ‹_› (by first|omega|exact(Aa rfl)) (Ac.1 hW) fun s' h' nx' hW P=>?_;(try simp only[Ak,ite_self]at hW))
  |(refine Dl (by omega) ‹_› (Ac.1 hW) fun b s' h' nx' hW P=>?_;cases b<;>(try simp only[Ak,ite_self]at hW))
  |(refine A.initializer _ _ hd (by omega) _ _ _ _ _ _ _ _ ‹_› (Ac.1 hW) (fun v s' h' nx' hW P=>?_) (fun f h2 n2 s2 P2=>hf f _ _ _ (PI.sb P2));(try simp only[Ak,ite_self]at hW))
  |(refine A.initializer _ _ hd (by omega) _ _ _ _ _ _ _ _ ‹_› hW (fun v s' h' nx' hW P=>?_) (fun f h2 n2 s2 P2=>hf f _ _ _ (PI.sb P2));(try simp only[Ak,ite_self]at hW))
  |exact hk _ _ _ _ hW (PI.sb ‹_›))
theorem w_assert (A:ALL E m):C5 E (m+1) .assert 37 []:=by
 intro n d hd hn kp h nx k s R Q Fl P hW hk hf
 refine Ab (d:=m+1+d) hn (by omega) fun mm hm=>?_
 have hW:W (Ah (run m) .assert E.l s) Q Fl False:=hW
 simp only[Ah]at hW
 (try simp only[Ak,ite_self]at hW)
 repeat' ((conv=>lhs;whnf);first
  |contradiction
  |(refine B4 (by omega) ‹_› (Ac.1 hW) (fun h' nx' hW P=>?_);(try simp only[Ak,ite_self]at hW))
  |refine Bl ‹_› rfl fun h1 P=>?_
  |refine B5 ‹_› 0 rfl (Aa rfl) (by first|rfl|exact Ba ‹_›) fun h1 P=>?_
  |refine An ‹_› 0 rfl (Aa rfl) ?_
  |refine An ‹_› 1 rfl (Aa rfl) ?_
  |refine An ‹_› 2 rfl (Aa rfl) ?_
  |refine Af ‹_› 0 rfl (Aa rfl) ?_
  |refine Af ‹_› 1 rfl (Aa rfl) ?_
  |refine Af ‹_› 2 rfl (Aa rfl) ?_
  |refine Bd ‹_› fun hat=>?_
  |refine Bv (by(try simp only[Aj]at *);omega) ?_
  |(refine Cy ‹_› (Ac.1 hW) rfl fun s' h' hW P=>?_;(try simp only[Ak,ite_self]at hW))
  |(refine Ca (b:=⟨_,_⟩) (by omega) ‹_› (by first|omega|exact(Aa rfl)) (Ac.1 hW) fun s' h' nx' hW P=>?_;(try simp only[Ak,ite_self]at hW))
  |(refine Dd (by omega) ‹_› (Ac.1 hW) (fun s' h' nx' hW P=>?_) (fun f h2 n2 s2 P2=>hf f _ _ _ (PI.sb P2));(try simp only[Ak,ite_self]at hW))
  |(refine A.choice _ _ hd (by omega) _ _ _ _ _ _ _ _ ‹_› (Ac.1 hW) (fun b v s' h' nx' hb hW P=>?_) (fun f h2 n2 s2 P2=>hf f _ _ _ (PI.sb P2));(try rw[hb]at hW);cases b<;>(try simp only[Ak,ite_self]at hW))
  |(refine A.choice _ _ hd (by omega) _ _ _ _ _ _ _ _ ‹_› hW (fun b v s' h' nx' hb hW P=>?_) (fun f h2 n2 s2 P2=>hf f _ _ _ (PI.sb P2));(try rw[hb]at hW);cases b<;>(try simp only[Ak,ite_self]at hW))
  |(refine A.strings _ _ hd (by omega) _ _ _ _ _ _ _ _ ‹_› (Ac.1 hW) (fun v s' h' nx' hW P=>?_) (fun f h2 n2 s2 P2=>hf f _ _ _ (PI.sb P2));(try simp only[Ak,ite_self]at hW))
  |(refine A.strings _ _ hd (by omega) _ _ _ _ _ _ _ _ ‹_› hW (fun v s' h' nx' hW P=>?_) (fun f h2 n2 s2 P2=>hf f _ _ _ (PI.sb P2));(try simp only[Ak,ite_self]at hW))
  |exact hk _ _ _ _ hW (PI.sb ‹_›))
theorem w_part (A:ALL E m):C5 E (m+1) .part 234 []:=by
 intro n d hd hn kp h nx k s R Q Fl P hW hk hf
 refine Ab (d:=m+1+d) hn (by omega) fun mm hm=>?_
 have hW:W (Ah (run m) .part E.l s) Q Fl False:=hW
 simp only[Ah]at hW
 (try simp only[Ak,ite_self]at hW)
 repeat' ((conv=>lhs;whnf);first
  |contradiction
  |(refine Ll (by omega) ‹_› (Ac.1 hW) fun s' h' nx' hW P=>?_;(try simp only[Ak,ite_self]at hW))
  |(refine Lv (by omega) ‹_› (Ac.1 hW) fun s' h' nx' hW P=>?_;(try simp only[Ak,ite_self]at hW))
  |(refine A.statement _ _ hd (by omega) _ _ _ _ _ _ _ _ ‹_› (Ac.1 hW) (fun v s' h' nx' hW P=>?_) (fun f h2 n2 s2 P2=>hf f _ _ _ (PI.sb P2));(try simp only[Ak,ite_self]at hW))
  |(refine A.statement _ _ hd (by omega) _ _ _ _ _ _ _ _ ‹_› hW (fun v s' h' nx' hW P=>?_) (fun f h2 n2 s2 P2=>hf f _ _ _ (PI.sb P2));(try simp only[Ak,ite_self]at hW))
  |exact hk _ _ _ _ hW (PI.sb ‹_›))
theorem w_condition (A:ALL E m):C5 E (m+1) .condition 233 []:=by
 intro n d hd hn kp h nx k s R Q Fl P hW hk hf
 refine Ab (d:=m+1+d) hn (by omega) fun mm hm=>?_
 have hW:W (Ah (run m) .condition E.l s) Q Fl False:=hW
 simp only[Ah]at hW
 (try simp only[Ak,ite_self]at hW)
 repeat' ((conv=>lhs;whnf);first
  |contradiction
  |(refine Dd (by omega) ‹_› (Ac.1 hW) (fun s' h' nx' hW P=>?_) (fun f h2 n2 s2 P2=>hf f _ _ _ (PI.sb P2));(try simp only[Ak,ite_self]at hW))
  |(refine A.expr _ _ hd (by omega) _ _ _ _ _ _ _ _ ‹_› (Ac.1 hW) (fun v s' h' nx' hW P=>?_) (fun f h2 n2 s2 P2=>hf f _ _ _ (PI.sb P2));(try simp only[Ak,ite_self]at hW))
  |(refine A.expr _ _ hd (by omega) _ _ _ _ _ _ _ _ ‹_› hW (fun v s' h' nx' hW P=>?_) (fun f h2 n2 s2 P2=>hf f _ _ _ (PI.sb P2));(try simp only[Ak,ite_self]at hW))
  |exact hk _ _ _ _ hW (PI.sb ‹_›))
theorem w_until (A:ALL E m) (x:List Nat):C5 E (m+1) (.until' x) 188 [.s x]:=by
 intro n d hd hn kp h nx k s R Q Fl P hW hk hf
 refine Ab (d:=m+1+d) hn (by omega) fun mm hm=>?_
 have hW:W (Ah (run m) (.until' x) E.l s) Q Fl False:=hW
 simp only[Ah]at hW
 (try simp only[Ak,ite_self]at hW)
 repeat' ((conv=>lhs;whnf);first
  |contradiction
  |(refine Gb (by omega) ‹_› (Ac.1 hW) fun b h' nx' hW P=>?_;cases b<;>(try simp only[Ak,ite_self]at hW))
  |(refine Dd (by omega) ‹_› (Ac.1 hW) (fun s' h' nx' hW P=>?_) (fun f h2 n2 s2 P2=>hf f _ _ _ (PI.sb P2));(try simp only[Ak,ite_self]at hW))
  |(refine A.expr _ _ hd (by omega) _ _ _ _ _ _ _ _ ‹_› (Ac.1 hW) (fun v s' h' nx' hW P=>?_) (fun f h2 n2 s2 P2=>hf f _ _ _ (PI.sb P2));(try simp only[Ak,ite_self]at hW))
  |(refine A.expr _ _ hd (by omega) _ _ _ _ _ _ _ _ ‹_› hW (fun v s' h' nx' hW P=>?_) (fun f h2 n2 s2 P2=>hf f _ _ _ (PI.sb P2));(try simp only[Ak,ite_self]at hW))
  |exact hk _ _ _ _ hW (PI.sb ‹_›))
theorem w_statement (A:ALL E m):C5 E (m+1) .statement 147 []:=by
 intro n d hd hn kp h nx k s R Q Fl P hW hk hf
 refine Ab (d:=m+1+d) hn (by omega) fun mm hm=>?_
 have hW:W (Ah (run m) .statement E.l s) Q Fl False:=hW
 simp only[Ah]at hW
 (try simp only[Ak,ite_self]at hW)
 repeat' ((conv=>lhs;whnf);first
  |contradiction
  |(refine B4 (by omega) ‹_› (Ac.1 hW) (fun h' nx' hW P=>?_);(try simp only[Ak,ite_self]at hW))
  |refine Bl ‹_› rfl fun h1 P=>?_
  |refine B5 ‹_› 0 rfl (Aa rfl) (by first|rfl|exact Ba ‹_›) fun h1 P=>?_
  |refine An ‹_› 0 rfl (Aa rfl) ?_
  |refine An ‹_› 1 rfl (Aa rfl) ?_
  |refine An ‹_› 2 rfl (Aa rfl) ?_
  |refine Af ‹_› 0 rfl (Aa rfl) ?_
  |refine Af ‹_› 1 rfl (Aa rfl) ?_
  |refine Af ‹_› 2 rfl (Aa rfl) ?_
  |refine Bd ‹_› fun hat=>?_
  |refine Bv (by(try simp only[Aj]at *);omega) ?_
  |(refine Cy ‹_› (Ac.1 hW) rfl fun s' h' hW P=>?_;(try simp only[Ak,ite_self]at hW))
  |(refine Ca (b:=⟨_,_⟩) (by omega) ‹_› (by first|omega|exact(Aa rfl)) (Ac.1 hW) fun s' h' nx' hW P=>?_;(try simp only[Ak,ite_self]at hW))
  |(refine H3 (by omega) ‹_› (Ac.1 hW) fun t h' nx' hW P=>?_;(try simp only[Ak,ite_self]at hW))
  |(refine Uj (by omega) ‹_› (Ac.1 hW) fun b h' nx' hW P=>?_;cases b<;>(try simp only[Ak,ite_self]at hW))
  |(refine Gb (by omega) ‹_› (Ac.1 hW) fun b h' nx' hW P=>?_;cases b<;>(try simp only[Ak,ite_self]at hW))
  |(refine Ll (by omega) ‹_› (Ac.1 hW) fun s' h' nx' hW P=>?_;(try simp only[Ak,ite_self]at hW))
  |(refine Lv (by omega) ‹_› (Ac.1 hW) fun s' h' nx' hW P=>?_;(try simp only[Ak,ite_self]at hW))
  |(refine Cu (fun hc hz=>?_) (fun hc hz=>?_)<;>(try rewrite [hc])<;>(first|simp only[if_pos hz]at hW|simp only[if_neg hz]at hW|rw[if_pos ‹_›]at hW|rw[if_neg ‹_›]at hW|rw[if_pos (by(try simp only[Aj]at *);omega)]at hW|rw[if_neg (by(try simp only[Aj]at *);omega)]at hW|skip)<;>(try simp only[Ak,ite_self]at hW))
  |(refine bw (fun hc=>?_) (fun hc=>?_)<;>(try rewrite [hc])<;>(try rw[hc]at hW)<;>(try simp only[Ak,ite_self]at hW))
  |(refine A.statement _ _ hd (by omega) _ _ _ _ _ _ _ _ ‹_› (Ac.1 hW) (fun v s' h' nx' hW P=>?_) (fun f h2 n2 s2 P2=>hf f _ _ _ (PI.sb P2));(try simp only[Ak,ite_self]at hW))
  |(refine A.statement _ _ hd (by omega) _ _ _ _ _ _ _ _ ‹_› hW (fun v s' h' nx' hW P=>?_) (fun f h2 n2 s2 P2=>hf f _ _ _ (PI.sb P2));(try simp only[Ak,ite_self]at hW))
  |(refine A.items _ _ hd (by omega) _ _ _ _ _ _ _ _ ‹_› (Ac.1 hW) (fun v s' h' nx' hW P=>?_) (fun f h2 n2 s2 P2=>hf f _ _ _ (PI.sb P2));(try simp only[Ak,ite_self]at hW))
  |(refine A.items _ _ hd (by omega) _ _ _ _ _ _ _ _ ‹_› hW (fun v s' h' nx' hW P=>?_) (fun f h2 n2 s2 P2=>hf f _ _ _ (PI.sb P2));(try simp only[Ak,ite_self]at hW))
  |(refine A.keyword _ _ _ _ hd (by omega) _ _ _ _ _ _ _ _ ‹_› (Ac.1 hW) (fun b v s' h' nx' hb hW P=>?_) (fun f h2 n2 s2 P2=>hf f _ _ _ (PI.sb P2));(try rw[hb]at hW);cases b<;>(try simp only[Ak,ite_self]at hW))
  |(refine A.keyword _ _ _ _ hd (by omega) _ _ _ _ _ _ _ _ ‹_› hW (fun b v s' h' nx' hb hW P=>?_) (fun f h2 n2 s2 P2=>hf f _ _ _ (PI.sb P2));(try rw[hb]at hW);cases b<;>(try simp only[Ak,ite_self]at hW))
  |(refine A.until' _ _ _ hd (by omega) _ _ _ _ _ _ _ _ ‹_› (Ac.1 hW) (fun v s' h' nx' hW P=>?_) (fun f h2 n2 s2 P2=>hf f _ _ _ (PI.sb P2));(try simp only[Ak,ite_self]at hW))
  |(refine A.until' _ _ _ hd (by omega) _ _ _ _ _ _ _ _ ‹_› hW (fun v s' h' nx' hW P=>?_) (fun f h2 n2 s2 P2=>hf f _ _ _ (PI.sb P2));(try simp only[Ak,ite_self]at hW))
  |exact hk _ _ _ _ hW (PI.sb ‹_›))
theorem w_align (A:ALL E m):C5 E (m+1) .align 83 []:=by
 intro n d hd hn kp h nx k s R Q Fl P hW hk hf
 refine Ab (d:=m+1+d) hn (by omega) fun mm hm=>?_
 have hW:W (Ah (run m) .align E.l s) Q Fl False:=hW
 simp only[Ah]at hW
 (try simp only[Ak,ite_self]at hW)
 repeat' ((conv=>lhs;whnf);first
  |contradiction
  |(refine B4 (by omega) ‹_› (Ac.1 hW) (fun h' nx' hW P=>?_);(try simp only[Ak,ite_self]at hW))
  |refine Bl ‹_› rfl fun h1 P=>?_
  |refine B5 ‹_› 0 rfl (Aa rfl) (by first|rfl|exact Ba ‹_›) fun h1 P=>?_
  |refine An ‹_› 0 rfl (Aa rfl) ?_
  |refine An ‹_› 1 rfl (Aa rfl) ?_
  |refine An ‹_› 2 rfl (Aa rfl) ?_
  |refine Af ‹_› 0 rfl (Aa rfl) ?_
  |refine Af ‹_› 1 rfl (Aa rfl) ?_
  |refine Af ‹_› 2 rfl (Aa rfl) ?_
  |refine Bd ‹_› fun hat=>?_
  |refine Bv (by(try simp only[Aj]at *);omega) ?_
  |(refine Cy ‹_› (Ac.1 hW) rfl fun s' h' hW P=>?_;(try simp only[Ak,ite_self]at hW))
  |(refine Ca (b:=⟨_,_⟩) (by omega) ‹_› (by first|omega|exact(Aa rfl)) (Ac.1 hW) fun s' h' nx' hW P=>?_;(try simp only[Ak,ite_self]at hW))
  |(refine Dd (by omega) ‹_› (Ac.1 hW) (fun s' h' nx' hW P=>?_) (fun f h2 n2 s2 P2=>hf f _ _ _ (PI.sb P2));(try simp only[Ak,ite_self]at hW))
  |(refine bls_w (by omega) ‹_› (Ac.1 hW) fun b h' nx' hW P=>?_;cases b<;>(try simp only[Ak,ite_self]at hW))
  |(refine A.typeName _ _ hd (by omega) _ _ _ _ _ _ _ _ ‹_› (Ac.1 hW) (fun v s' h' nx' hW P=>?_) (fun f h2 n2 s2 P2=>hf f _ _ _ (PI.sb P2));(try simp only[Ak,ite_self]at hW))
  |(refine A.typeName _ _ hd (by omega) _ _ _ _ _ _ _ _ ‹_› hW (fun v s' h' nx' hW P=>?_) (fun f h2 n2 s2 P2=>hf f _ _ _ (PI.sb P2));(try simp only[Ak,ite_self]at hW))
  |(refine A.choice _ _ hd (by omega) _ _ _ _ _ _ _ _ ‹_› (Ac.1 hW) (fun b v s' h' nx' hb hW P=>?_) (fun f h2 n2 s2 P2=>hf f _ _ _ (PI.sb P2));(try rw[hb]at hW);cases b<;>(try simp only[Ak,ite_self]at hW))
  |(refine A.choice _ _ hd (by omega) _ _ _ _ _ _ _ _ ‹_› hW (fun b v s' h' nx' hb hW P=>?_) (fun f h2 n2 s2 P2=>hf f _ _ _ (PI.sb P2));(try rw[hb]at hW);cases b<;>(try simp only[Ak,ite_self]at hW))
  |exact hk _ _ _ _ hW (PI.sb ‹_›))
theorem w_atomic (A:ALL E m):C5 E (m+1) .atomic 84 []:=by
 intro n d hd hn kp h nx k s R Q Fl P hW hk hf
 refine Ab (d:=m+1+d) hn (by omega) fun mm hm=>?_
 have hW:W (Ah (run m) .atomic E.l s) Q Fl False:=hW
 simp only[Ah]at hW
 (try simp only[Ak,ite_self]at hW)
 repeat' ((conv=>lhs;whnf);first
  |contradiction
  |(refine B4 (by omega) ‹_› (Ac.1 hW) (fun h' nx' hW P=>?_);(try simp only[Ak,ite_self]at hW))
  |refine Bl ‹_› rfl fun h1 P=>?_
  |refine B5 ‹_› 0 rfl (Aa rfl) (by first|rfl|exact Ba ‹_›) fun h1 P=>?_
  |refine An ‹_› 0 rfl (Aa rfl) ?_
  |refine An ‹_› 1 rfl (Aa rfl) ?_
  |refine An ‹_› 2 rfl (Aa rfl) ?_
  |refine Af ‹_› 0 rfl (Aa rfl) ?_
  |refine Af ‹_› 1 rfl (Aa rfl) ?_
  |refine Af ‹_› 2 rfl (Aa rfl) ?_
  |refine Bd ‹_› fun hat=>?_
  |refine Bv (by(try simp only[Aj]at *);omega) ?_
  |(refine Cy ‹_› (Ac.1 hW) rfl fun s' h' hW P=>?_;(try simp only[Ak,ite_self]at hW))
  |(refine Ca (b:=⟨_,_⟩) (by omega) ‹_› (by first|omega|exact(Aa rfl)) (Ac.1 hW) fun s' h' nx' hW P=>?_;(try simp only[Ak,ite_self]at hW))
  |(refine A.typeInBr _ _ hd (by omega) _ _ _ _ _ _ _ _ ‹_› (Ac.1 hW) (fun v s' h' nx' hW P=>?_) (fun f h2 n2 s2 P2=>hf f _ _ _ (PI.sb P2));(try simp only[Ak,ite_self]at hW))
  |(refine A.typeInBr _ _ hd (by omega) _ _ _ _ _ _ _ _ ‹_› hW (fun v s' h' nx' hW P=>?_) (fun f h2 n2 s2 P2=>hf f _ _ _ (PI.sb P2));(try simp only[Ak,ite_self]at hW))
  |exact hk _ _ _ _ hW (PI.sb ‹_›))
theorem w_field (A:ALL E m):C5 E (m+1) .field 184 []:=by
 intro n d hd hn kp h nx k s R Q Fl P hW hk hf
 refine Ab (d:=m+1+d) hn (by omega) fun mm hm=>?_
 have hW:W (Ah (run m) .field E.l s) Q Fl False:=hW
 simp only[Ah]at hW
 (try simp only[Ak,ite_self]at hW)
 repeat' ((conv=>lhs;whnf);first
  |contradiction
  |(refine B4 (by omega) ‹_› (Ac.1 hW) (fun h' nx' hW P=>?_);(try simp only[Ak,ite_self]at hW))
  |refine Bl ‹_› rfl fun h1 P=>?_
  |refine B5 ‹_› 0 rfl (Aa rfl) (by first|rfl|exact Ba ‹_›) fun h1 P=>?_
  |refine An ‹_› 0 rfl (Aa rfl) ?_
  |refine An ‹_› 1 rfl (Aa rfl) ?_
  |refine An ‹_› 2 rfl (Aa rfl) ?_
  |refine Af ‹_› 0 rfl (Aa rfl) ?_
  |refine Af ‹_› 1 rfl (Aa rfl) ?_
  |refine Af ‹_› 2 rfl (Aa rfl) ?_
  |refine Bd ‹_› fun hat=>?_
  |refine Bv (by(try simp only[Aj]at *);omega) ?_
  |(refine Cy ‹_› (Ac.1 hW) rfl fun s' h' hW P=>?_;(try simp only[Ak,ite_self]at hW))
  |(refine Ca (b:=⟨_,_⟩) (by omega) ‹_› (by first|omega|exact(Aa rfl)) (Ac.1 hW) fun s' h' nx' hW P=>?_;(try simp only[Ak,ite_self]at hW))
  |(refine Gb (by omega) ‹_› (Ac.1 hW) fun b h' nx' hW P=>?_;cases b<;>(try simp only[Ak,ite_self]at hW))
  |(refine Dl (by omega) ‹_› (Ac.1 hW) fun b s' h' nx' hW P=>?_;cases b<;>(try simp only[Ak,ite_self]at hW))
  |(refine A.declarator _ (by first|omega|exact(Aa rfl)) _ _ hd (by omega) _ _ _ _ _ _ _ _ ‹_› (Ac.1 hW) (fun v s' h' nx' pv X hX hpl hW P=>?_) (fun f h2 n2 s2 P2=>hf f _ _ _ (PI.sb P2));(try simp only[Ak,ite_self]at hW))
  |(refine A.choice _ _ hd (by omega) _ _ _ _ _ _ _ _ ‹_› (Ac.1 hW) (fun b v s' h' nx' hb hW P=>?_) (fun f h2 n2 s2 P2=>hf f _ _ _ (PI.sb P2));(try rw[hb]at hW);cases b<;>(try simp only[Ak,ite_self]at hW))
  |(refine A.choice _ _ hd (by omega) _ _ _ _ _ _ _ _ ‹_› hW (fun b v s' h' nx' hb hW P=>?_) (fun f h2 n2 s2 P2=>hf f _ _ _ (PI.sb P2));(try rw[hb]at hW);cases b<;>(try simp only[Ak,ite_self]at hW))
  |exact hk _ _ _ _ hW (PI.sb ‹_›))
theorem Ys (A:ALL E m):C5 E (m+1) .enumerator 140 []:=by
 intro n d hd hn kp h nx k s R Q Fl P hW hk hf
 refine Ab (d:=m+1+d) hn (by omega) fun mm hm=>?_
 have hW:W (Ah (run m) .enumerator E.l s) Q Fl False:=hW
 simp only[Ah]at hW
 (try simp only[Ak,ite_self]at hW)
 repeat' ((conv=>lhs;whnf);first
  |contradiction
  |(refine B4 (by omega) ‹_› (Ac.1 hW) (fun h' nx' hW P=>?_);(try simp only[Ak,ite_self]at hW))
  |refine Bl ‹_› rfl fun h1 P=>?_
  |refine B5 ‹_› 0 rfl (Aa rfl) (by first|rfl|exact Ba ‹_›) fun h1 P=>?_
  |refine An ‹_› 0 rfl (Aa rfl) ?_
  |refine An ‹_› 1 rfl (Aa rfl) ?_
  |refine An ‹_› 2 rfl (Aa rfl) ?_
  |refine Af ‹_› 0 rfl (Aa rfl) ?_
  |refine Af ‹_› 1 rfl (Aa rfl) ?_
  |refine Af ‹_› 2 rfl (Aa rfl) ?_
  |refine Bd ‹_› fun hat=>?_
  |refine Bv (by(try simp only[Aj]at *);omega) ?_
  |(refine Cy ‹_› (Ac.1 hW) rfl fun s' h' hW P=>?_;(try simp only[Ak,ite_self]at hW))
  |(refine Ca (b:=⟨_,_⟩) (by omega) ‹_› (by first|omega|exact(Aa rfl)) (Ac.1 hW) fun s' h' nx' hW P=>?_;(try simp only[Ak,ite_self]at hW))
  |(refine Ot (by omega) ‹_› (Ac.1 hW) (fun t s' h' nx' hW P=>?_) (fun f h2 n2 s2 P2=>hf f _ _ _ (PI.sb P2));(try simp only[Ak,ite_self]at hW))
  |(refine Dl (by omega) ‹_› (Ac.1 hW) fun b s' h' nx' hW P=>?_;cases b<;>(try simp only[Ak,ite_self]at hW))
  |(refine J0 (d:=⟨_,_⟩) (by omega) ‹_› (Ac.1 hW) fun s' h' nx' hW P=>?_;(try simp only[Ak,ite_self]at hW))
  |(refine A.choice _ _ hd (by omega) _ _ _ _ _ _ _ _ ‹_› (Ac.1 hW) (fun b v s' h' nx' hb hW P=>?_) (fun f h2 n2 s2 P2=>hf f _ _ _ (PI.sb P2));(try rw[hb]at hW);cases b<;>(try simp only[Ak,ite_self]at hW))
  |(refine A.choice _ _ hd (by omega) _ _ _ _ _ _ _ _ ‹_› hW (fun b v s' h' nx' hb hW P=>?_) (fun f h2 n2 s2 P2=>hf f _ _ _ (PI.sb P2));(try rw[hb]at hW);cases b<;>(try simp only[Ak,ite_self]at hW))
  |exact hk _ _ _ _ hW (PI.sb ‹_›))
theorem w_typeName (A:ALL E m):C5 E (m+1) .typeName 137 []:=by
 intro n d hd hn kp h nx k s R Q Fl P hW hk hf
 refine Ab (d:=m+1+d) hn (by omega) fun mm hm=>?_
 have hW:W (Ah (run m) .typeName E.l s) Q Fl False:=hW
 simp only[Ah]at hW
 (try simp only[Ak,ite_self]at hW)
 repeat' ((conv=>lhs;whnf);first
  |contradiction
  |(refine B4 (by omega) ‹_› (Ac.1 hW) (fun h' nx' hW P=>?_);(try simp only[Ak,ite_self]at hW))
  |refine Bl ‹_› rfl fun h1 P=>?_
  |refine B5 ‹_› 0 rfl (Aa rfl) (by first|rfl|exact Ba ‹_›) fun h1 P=>?_
  |refine An ‹_› 0 rfl (Aa rfl) ?_
  |refine An ‹_› 1 rfl (Aa rfl) ?_
  |refine An ‹_› 2 rfl (Aa rfl) ?_
  |refine Af ‹_› 0 rfl (Aa rfl) ?_
  |refine Af ‹_› 1 rfl (Aa rfl) ?_
  |refine Af ‹_› 2 rfl (Aa rfl) ?_
  |refine Bd ‹_› fun hat=>?_
  |refine Bv (by(try simp only[Aj]at *);omega) ?_
  |(refine Cy ‹_› (Ac.1 hW) rfl fun s' h' hW P=>?_;(try simp only[Ak,ite_self]at hW))
  |(refine Ca (b:=⟨_,_⟩) (by omega) ‹_› (by first|omega|exact(Aa rfl)) (Ac.1 hW) fun s' h' nx' hW P=>?_;(try simp only[Ak,ite_self]at hW))
  |(refine Gb (by omega) ‹_› (Ac.1 hW) fun b h' nx' hW P=>?_;cases b<;>(try simp only[Ak,ite_self]at hW))
  |(refine A.specs _ _ _ hd (by omega) _ _ _ _ _ _ _ _ ‹_› (Ac.1 hW) (fun b v s' h' nx' hb hW P=>?_) (fun f h2 n2 s2 P2=>hf f _ _ _ (PI.sb P2));(try rw[hb]at hW);cases b<;>(try simp only[Ak,ite_self]at hW))
  |(refine A.specs _ _ _ hd (by omega) _ _ _ _ _ _ _ _ ‹_› hW (fun b v s' h' nx' hb hW P=>?_) (fun f h2 n2 s2 P2=>hf f _ _ _ (PI.sb P2));(try rw[hb]at hW);cases b<;>(try simp only[Ak,ite_self]at hW))
  |(refine A.declarator _ (by first|omega|exact(Aa rfl)) _ _ hd (by omega) _ _ _ _ _ _ _ _ ‹_› (Ac.1 hW) (fun v s' h' nx' pv X hX hpl hW P=>?_) (fun f h2 n2 s2 P2=>hf f _ _ _ (PI.sb P2));(try simp only[Ak,ite_self]at hW))
  |exact hk _ _ _ _ hW (PI.sb ‹_›))
end Go.CE
