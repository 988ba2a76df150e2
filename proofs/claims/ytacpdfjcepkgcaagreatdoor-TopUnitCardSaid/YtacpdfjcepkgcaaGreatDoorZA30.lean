/- Part 30 of the lemmas behind the claim. -/
import Derived.Test.YtacpdfjcepkgcaaGreatDoorZA01
import Derived.Test.YtacpdfjcepkgcaaGreatDoorZA29
set_option linter.unusedSimpArgs false
set_option linter.unusedVariables false
set_option linter.constructorNameAsVariable false
set_option linter.unusedSectionVars false
set_option linter.defProp false
set_option maxRecDepth 100000
set_option maxHeartbeats 40000000
namespace Go.CE
open Go Go.Ps Go.Proofs.YtacpdfjcepkgcaaGreatDoor
attribute [local irreducible] loopK Ai K0 N2 Dg fits rd rd1 wr newC Kj Fk Fa Ve
variable {E : PEnv} {m : Nat}
theorem Cc (x:Bool):Jt (Val.b x)=x:=rfl
theorem Ip:((0:Nat)=0)=True:=eq_self 0
theorem Hs:((1:Nat)=0)=False:=eq_false (by decide)
theorem Il:((2:Nat)=0)=False:=eq_false (by decide)
theorem Io:((0:Nat)=2)=False:=eq_false (by decide)
theorem Hr:((1:Nat)=2)=False:=eq_false (by decide)
theorem Ik:((2:Nat)=2)=True:=eq_self 2
theorem w_decl0 (AA:∀m',m'≤m→ALL E m'):∀n d:Nat,20000100≤d→m+1+d≤n→∀(kp:KP) (h:H) (nx:Pos) (k:K) (s:PS) (R:List Av) (Q:Val→PS→Prop) (Fl:Prop),PI E h nx s R→W (run (m+1) (.declarator 0) E.l s) Q Fl False →
 (∀v s' h' nx' pv X,SlA 2 126 pv ((Lx v).ps.flatMap Jf) X→(Lx v).ps.length≤Ps.big→Q v s'→PI E h' nx' s' (R++X)→k (.ag (fC (Lx v) pv)) h' nx'=true)→(Fl→∀h' nx' s',PI E h' nx' s' R→kp h' nx'=true)→Ai gg n kp (.fn 40 []) [.p E.pp 0,iA 0] h nx k=true:=by
 have A:=AA m (Ag _)
 intro n d hd hn kp h nx k s R Q Fl P hW hk hf
 refine Ab (d:=m+1+d) hn (by omega) fun mm hm=>?_
 have hW:W (Ah (run m) (.declarator 0) E.l s) Q Fl False:=hW
 simp only[Ah]at hW
 (try simp only[Bt,Bs,Ao,A8,A9,ite_self,Cc,Ip,Hs,Il,Io,Hr,Ik,if_true,if_false,F8,F4,B0,Bw,Bz,Bx]at hW)
 repeat' ((conv=>lhs;whnf);first
  |(refine B4 (by omega) ‹_› (Ac.1 hW) (fun h' nx' hW P=>?_);(try simp only[Bt,Bs,Ao,A8,A9,ite_self,Cc,Ip,Hs,Il,Io,Hr,Ik,if_true,if_false,F8,F4,B0,Bw,Bz,Bx]at hW))
  |refine Bl ‹_› rfl fun h1 P=>?_
  |refine B5 ‹_› 0 rfl (Aa rfl) (by first|rfl|exact Ba ‹_›|exact ones_sl ‹_›) fun h1 P=>?_)
 conv=>lhs;whnf
 obtain⟨Q2,hW,hQ2⟩:=Fz hW
 refine Br (L:=[0,1,4,5,6,7]) rfl (fun m' vs d' h' nx'=>∃(σ:PS) (r4 b5 b6:Pos) (st:Bool),d'=[]∧vs=[.p E.pp 0,iA 0,.p r4 0,.p b5 0,.p b6 0,.b st]∧m'≤m∧W (run m' (.starsL st) E.l σ) Q2 Fl False∧PI E h' nx' σ ((b6,.row (fC f0 .sl0) 122)::((b5,.row [iA s.at',iA s.done.length] 68)::(r4,.row (fC f0 .sl0) 122)::R))) m (by omega) ⟨_,_,_,_,_,rfl,rfl,Ag _,hW,P⟩ ?_
 clear hW P
 rintro m' _ d' h' nx' ⟨σ,r4,b5,b6,st,rfl,rfl,hm',hW,P⟩ k' hn' hx
 cases m' with
 |zero=>exact hW.elim
 |succ m'=>
 have A2:=AA m' (by omega)
 have hW:W (Ah (run m') (.starsL st) E.l σ) Q2 Fl False:=hW
 simp only[Ah]at hW
 cases st
 all_goals
 repeat' ((conv=>lhs;whnf);first
  |contradiction
  |(refine hx _ _ _ _ _ trivial ?_;have hW:=hQ2 _ _ hW;(try simp only[Bt,Bs,Ao,A8,A9,ite_self,Cc,Ip,Hs,Il,Io,Hr,Ik,if_true,if_false,F8,F4,B0,Bw,Bz,Bx]at hW))
  |(refine hn' _ _ _ _ m' (by omega) ⟨_,_,_,_,_,rfl,rfl,by omega,hW,P⟩)
  |(refine A2.qualifiers _ _ hd (by omega) _ _ _ _ _ _ _ _ ‹_› (Ac.1 hW) (fun b v s' h' nx' hb hW P=>?_) (fun f h2 n2 s2 P2=>hf f _ _ _ (PI.sub P2 (by repeat(first|exact .refl _|exact Al _ _|exact(Al _ _).trans (Al _ _)|refine .cons _ ?_))));(try rw[hb]at hW);cases b<;>(try simp only[Bt,Bs,Ao,A8,A9,ite_self,Cc,Ip,Hs,Il,Io,Hr,Ik,if_true,if_false,F8,F4,B0,Bw,Bz,Bx]at hW))
  |(refine A.declarator _ (by first|omega|exact(Aa rfl)) _ _ hd (by omega) _ _ _ _ _ _ _ _ ‹_› (Ac.1 hW) (fun v s' h' nx' pv X hX hpl hW P=>?_) (fun f h2 n2 s2 P2=>hf f _ _ _ (PI.sub P2 (by repeat(first|exact .refl _|exact Al _ _|exact(Al _ _).trans (Al _ _)|refine .cons _ ?_))));(try simp only[Bt,Bs,Ao,A8,A9,ite_self,Cc,Ip,Hs,Il,Io,Hr,Ik,if_true,if_false,F8,F4,B0,Bw,Bz,Bx]at hW))
  |(refine A.suffixes ⟨true,t,0,[]⟩ .sl0 [] b6 .nil (B9 _) _ _ hd (by omega) _ _ _ _ _ ((b5,.row [iA s.at',iA s.done.length] 68)::(r4,.row (fC f0 .sl0) 122)::R) _ _ (by rw[Bp];exact P) (Ac.1 hW) (fun b v s' h' nx' pv X hX hpl hb hW P=>?_) (fun f h2 n2 s2 P2=>hf f _ _ _ (PI.sub P2 (by repeat(first|exact .refl _|exact Al _ _|exact(Al _ _).trans (Al _ _)|refine .cons _ ?_))));(try rw[hb]at hW);cases b<;>(try simp only[Bt,Bs,Ao,A8,A9,ite_self,Cc,Ip,Hs,Il,Io,Hr,Ik,if_true,if_false,F8,F4,B0,Bw,Bz,Bx]at hW))
  |(refine A.suffixes (Lx v) pv X b6 hX hpl _ _ hd (by omega) _ _ _ _ _ ((b5,.row [iA s.at',iA s.done.length] 68)::(r4,.row (fC f0 .sl0) 122)::R) _ _ P (Ac.1 hW) (fun b v s' h' nx' pv X hX hpl hb hW P=>?_) (fun f h2 n2 s2 P2=>hf f _ _ _ (PI.sub P2 (by repeat(first|exact .refl _|exact Al _ _|exact(Al _ _).trans (Al _ _)|refine .cons _ ?_))));(try rw[hb]at hW);cases b<;>(try simp only[Bt,Bs,Ao,A8,A9,ite_self,Cc,Ip,Hs,Il,Io,Hr,Ik,if_true,if_false,F8,F4,B0,Bw,Bz,Bx]at hW))
  |(refine A.suffixes f0 .sl0 [] b6 .nil (B9 _) _ _ hd (by omega) _ _ _ _ _ ((b5,.row [iA s.at',iA s.done.length] 68)::(r4,.row (fC f0 .sl0) 122)::R) _ _ (by rw[Bp];exact P) (Ac.1 hW) (fun b v s' h' nx' pv X hX hpl hb hW P=>?_) (fun f h2 n2 s2 P2=>hf f _ _ _ (PI.sub P2 (by repeat(first|exact .refl _|exact Al _ _|exact(Al _ _).trans (Al _ _)|refine .cons _ ?_))));(try rw[hb]at hW);cases b<;>(try simp only[Bt,Bs,Ao,A8,A9,ite_self,Cc,Ip,Hs,Il,Io,Hr,Ik,if_true,if_false,F8,F4,B0,Bw,Bz,Bx]at hW))
  |(refine Dl (by omega) ‹_› (Ac.1 hW) fun b s' h' nx' hW P=>?_;cases b<;>(try simp only[Bt,Bs,Ao,A8,A9,ite_self,Cc,Ip,Hs,Il,Io,Hr,Ik,if_true,if_false,F8,F4,B0,Bw,Bz,Bx]at hW))
  |(refine H3 (by omega) ‹_› (Ac.1 hW) fun t h' nx' hW P=>?_;(try simp only[Bt,Bs,Ao,A8,A9,ite_self,Cc,Ip,Hs,Il,Io,Hr,Ik,if_true,if_false,F8,F4,B0,Bw,Bz,Bx]at hW))
  |(refine Cu (fun hc hz=>?_) (fun hc hz=>?_)<;>first|(exfalso;(try simp only[Aj]at *);omega)|((try rewrite [hc])<;>(first|simp only[if_pos hz]at hW|simp only[if_neg hz]at hW|rw[if_pos ‹_›]at hW|rw[if_neg ‹_›]at hW|rw[if_pos (by(try simp only[Aj]at *);omega)]at hW|rw[if_neg (by(try simp only[Aj]at *);omega)]at hW|skip)<;>(try simp only[Bt,Bs,Ao,A8,A9,ite_self,Cc,Ip,Hs,Il,Io,Hr,Ik,if_true,if_false,F8,F4,B0,Bw,Bz,Bx]at hW)))
  |(refine new (fun hc hz=>?_) (fun hc hz=>?_)<;>first|(exfalso;(try simp only[Aj]at *);omega)|((try rewrite [hc])<;>(first|simp only[if_pos hz]at hW|simp only[if_neg hz]at hW|rw[if_pos ‹_›]at hW|rw[if_neg ‹_›]at hW|rw[if_pos (by(try simp only[Aj]at *);omega)]at hW|rw[if_neg (by(try simp only[Aj]at *);omega)]at hW|skip)<;>(try simp only[Bt,Bs,Ao,A8,A9,ite_self,Cc,Ip,Hs,Il,Io,Hr,Ik,if_true,if_false,F8,F4,B0,Bw,Bz,Bx]at hW)))
  |(refine Ot (by omega) ‹_› (Ac.1 hW) (fun t s' h' nx' hW P=>?_) (fun f h2 n2 s2 P2=>hf f _ _ _ (PI.sub P2 (by repeat(first|exact .refl _|exact Al _ _|exact(Al _ _).trans (Al _ _)|refine .cons _ ?_))));(try simp only[Bt,Bs,Ao,A8,A9,ite_self,Cc,Ip,Hs,Il,Io,Hr,Ik,if_true,if_false,F8,F4,B0,Bw,Bz,Bx]at hW))
  |(refine Gb (by omega) ‹_› (Ac.1 hW) fun b h' nx' hW P=>?_;cases b<;>(try simp only[Bt,Bs,Ao,A8,A9,ite_self,Cc,Ip,Hs,Il,Io,Hr,Ik,if_true,if_false,F8,F4,B0,Bw,Bz,Bx]at hW))
  |(refine Kv (by omega) ‹_› (Ac.1 hW) fun b h' nx' hW P=>?_;cases b<;>(try simp only[Bt,Bs,Ao,A8,A9,ite_self,Cc,Ip,Hs,Il,Io,Hr,Ik,if_true,if_false,F8,F4,B0,Bw,Bz,Bx]at hW))
  |(refine Dd (by omega) ‹_› (Ac.1 hW) (fun s' h' nx' hW P=>?_) (fun f h2 n2 s2 P2=>hf f _ _ _ (PI.sub P2 (by repeat(first|exact .refl _|exact Al _ _|exact(Al _ _).trans (Al _ _)|refine .cons _ ?_))));(try simp only[Bt,Bs,Ao,A8,A9,ite_self,Cc,Ip,Hs,Il,Io,Hr,Ik,if_true,if_false,F8,F4,B0,Bw,Bz,Bx]at hW))
  |refine Iw ‹_› (by omega) (fun h2 n2 s2 P2=>hf hW h2 n2 s2 (PI.sub P2 (by repeat(first|exact .refl _|exact Al _ _|exact(Al _ _).trans (Al _ _)|refine .cons _ ?_))))
  |(refine B4 (by omega) ‹_› (Ac.1 hW) (fun h' nx' hW P=>?_);(try simp only[Bt,Bs,Ao,A8,A9,ite_self,Cc,Ip,Hs,Il,Io,Hr,Ik,if_true,if_false,F8,F4,B0,Bw,Bz,Bx]at hW))
  |refine Bl ‹_› rfl fun h1 P=>?_
  |refine B5 ‹_› 0 rfl (Aa rfl) (by first|rfl|exact Ba ‹_›|exact ones_sl ‹_›) fun h1 P=>?_
  |refine B5 ‹_› 2 rfl (Aa rfl) (by first|rfl|exact Ba ‹_›|exact ones_sl ‹_›) fun h1 P=>?_
  |refine An ‹_› 0 rfl (Aa rfl) ?_
  |refine An ‹_› 1 rfl (Aa rfl) ?_
  |refine An ‹_› 2 rfl (Aa rfl) ?_
  |refine Af ‹_› 0 rfl (Aa rfl) ?_
  |refine Af ‹_› 1 rfl (Aa rfl) ?_
  |refine Af ‹_› 2 rfl (Aa rfl) ?_
  |refine Bd ‹_› fun hat=>?_
  |refine Bv (by(try simp only[Aj]at *);omega) ?_
  |(refine Cy ‹_› (Ac.1 hW) rfl fun s' h' hW P=>?_;(try simp only[Bt,Bs,Ao,A8,A9,ite_self,Cc,Ip,Hs,Il,Io,Hr,Ik,if_true,if_false,F8,F4,B0,Bw,Bz,Bx]at hW))
  |(refine Ca (b:=⟨_,_⟩) (by omega) ‹_› (by first|omega|exact(Aa rfl)) (Ac.1 hW) fun s' h' nx' hW P=>?_;(try simp only[Bt,Bs,Ao,A8,A9,ite_self,Cc,Ip,Hs,Il,Io,Hr,Ik,if_true,if_false,F8,F4,B0,Bw,Bz,Bx]at hW))
  |exact hk (.f {Lx v with near:=1}) _ _ _ _ _ hX hpl hW (PI.sub P (by repeat(first|exact .refl _|exact Al _ _|exact(Al _ _).trans (Al _ _)|refine .cons _ ?_)))
  |exact hk (.f (Lx v)) _ _ _ _ _ hX hpl hW (PI.sub P (by repeat(first|exact .refl _|exact Al _ _|exact(Al _ _).trans (Al _ _)|refine .cons _ ?_))))
theorem w_decl1 (AA:∀m',m'≤m→ALL E m'):∀n d:Nat,20000100≤d→m+1+d≤n→∀(kp:KP) (h:H) (nx:Pos) (k:K) (s:PS) (R:List Av) (Q:Val→PS→Prop) (Fl:Prop),PI E h nx s R→W (run (m+1) (.declarator 1) E.l s) Q Fl False →
 (∀v s' h' nx' pv X,SlA 2 126 pv ((Lx v).ps.flatMap Jf) X→(Lx v).ps.length≤Ps.big→Q v s'→PI E h' nx' s' (R++X)→k (.ag (fC (Lx v) pv)) h' nx'=true)→(Fl→∀h' nx' s',PI E h' nx' s' R→kp h' nx'=true)→Ai gg n kp (.fn 40 []) [.p E.pp 0,iA 1] h nx k=true:=by
 have A:=AA m (Ag _)
 intro n d hd hn kp h nx k s R Q Fl P hW hk hf
 refine Ab (d:=m+1+d) hn (by omega) fun mm hm=>?_
 have hW:W (Ah (run m) (.declarator 1) E.l s) Q Fl False:=hW
 simp only[Ah]at hW
 (try simp only[Bt,Bs,Ao,A8,A9,ite_self,Cc,Ip,Hs,Il,Io,Hr,Ik,if_true,if_false,F8,F4,B0,Bw,Bz,Bx]at hW)
 repeat' ((conv=>lhs;whnf);first
  |(refine B4 (by omega) ‹_› (Ac.1 hW) (fun h' nx' hW P=>?_);(try simp only[Bt,Bs,Ao,A8,A9,ite_self,Cc,Ip,Hs,Il,Io,Hr,Ik,if_true,if_false,F8,F4,B0,Bw,Bz,Bx]at hW))
  |refine Bl ‹_› rfl fun h1 P=>?_
  |refine B5 ‹_› 0 rfl (Aa rfl) (by first|rfl|exact Ba ‹_›|exact ones_sl ‹_›) fun h1 P=>?_)
 conv=>lhs;whnf
 obtain⟨Q2,hW,hQ2⟩:=Fz hW
 refine Br (L:=[0,1,4,5,6,7]) rfl (fun m' vs d' h' nx'=>∃(σ:PS) (r4 b5 b6:Pos) (st:Bool),d'=[]∧vs=[.p E.pp 0,iA 1,.p r4 0,.p b5 0,.p b6 0,.b st]∧m'≤m∧W (run m' (.starsL st) E.l σ) Q2 Fl False∧PI E h' nx' σ ((b6,.row (fC f0 .sl0) 122)::((b5,.row [iA s.at',iA s.done.length] 68)::(r4,.row (fC f0 .sl0) 122)::R))) m (by omega) ⟨_,_,_,_,_,rfl,rfl,Ag _,hW,P⟩ ?_
 clear hW P
 rintro m' _ d' h' nx' ⟨σ,r4,b5,b6,st,rfl,rfl,hm',hW,P⟩ k' hn' hx
 cases m' with
 |zero=>exact hW.elim
 |succ m'=>
 have A2:=AA m' (by omega)
 have hW:W (Ah (run m') (.starsL st) E.l σ) Q2 Fl False:=hW
 simp only[Ah]at hW
 cases st
 all_goals
 repeat' ((conv=>lhs;whnf);first
  |contradiction
  |(refine hx _ _ _ _ _ trivial ?_;have hW:=hQ2 _ _ hW;(try simp only[Bt,Bs,Ao,A8,A9,ite_self,Cc,Ip,Hs,Il,Io,Hr,Ik,if_true,if_false,F8,F4,B0,Bw,Bz,Bx]at hW))
  |(refine hn' _ _ _ _ m' (by omega) ⟨_,_,_,_,_,rfl,rfl,by omega,hW,P⟩)
  |(refine A2.qualifiers _ _ hd (by omega) _ _ _ _ _ _ _ _ ‹_› (Ac.1 hW) (fun b v s' h' nx' hb hW P=>?_) (fun f h2 n2 s2 P2=>hf f _ _ _ (PI.sub P2 (by repeat(first|exact .refl _|exact Al _ _|exact(Al _ _).trans (Al _ _)|refine .cons _ ?_))));(try rw[hb]at hW);cases b<;>(try simp only[Bt,Bs,Ao,A8,A9,ite_self,Cc,Ip,Hs,Il,Io,Hr,Ik,if_true,if_false,F8,F4,B0,Bw,Bz,Bx]at hW))
  |(refine A.declarator _ (by first|omega|exact(Aa rfl)) _ _ hd (by omega) _ _ _ _ _ _ _ _ ‹_› (Ac.1 hW) (fun v s' h' nx' pv X hX hpl hW P=>?_) (fun f h2 n2 s2 P2=>hf f _ _ _ (PI.sub P2 (by repeat(first|exact .refl _|exact Al _ _|exact(Al _ _).trans (Al _ _)|refine .cons _ ?_))));(try simp only[Bt,Bs,Ao,A8,A9,ite_self,Cc,Ip,Hs,Il,Io,Hr,Ik,if_true,if_false,F8,F4,B0,Bw,Bz,Bx]at hW))
  |(refine A.suffixes ⟨true,t,0,[]⟩ .sl0 [] b6 .nil (B9 _) _ _ hd (by omega) _ _ _ _ _ ((b5,.row [iA s.at',iA s.done.length] 68)::(r4,.row (fC f0 .sl0) 122)::R) _ _ (by rw[Bp];exact P) (Ac.1 hW) (fun b v s' h' nx' pv X hX hpl hb hW P=>?_) (fun f h2 n2 s2 P2=>hf f _ _ _ (PI.sub P2 (by repeat(first|exact .refl _|exact Al _ _|exact(Al _ _).trans (Al _ _)|refine .cons _ ?_))));(try rw[hb]at hW);cases b<;>(try simp only[Bt,Bs,Ao,A8,A9,ite_self,Cc,Ip,Hs,Il,Io,Hr,Ik,if_true,if_false,F8,F4,B0,Bw,Bz,Bx]at hW))
  |(refine A.suffixes (Lx v) pv X b6 hX hpl _ _ hd (by omega) _ _ _ _ _ ((b5,.row [iA s.at',iA s.done.length] 68)::(r4,.row (fC f0 .sl0) 122)::R) _ _ P (Ac.1 hW) (fun b v s' h' nx' pv X hX hpl hb hW P=>?_) (fun f h2 n2 s2 P2=>hf f _ _ _ (PI.sub P2 (by repeat(first|exact .refl _|exact Al _ _|exact(Al _ _).trans (Al _ _)|refine .cons _ ?_))));(try rw[hb]at hW);cases b<;>(try simp only[Bt,Bs,Ao,A8,A9,ite_self,Cc,Ip,Hs,Il,Io,Hr,Ik,if_true,if_false,F8,F4,B0,Bw,Bz,Bx]at hW))
  |(refine A.suffixes f0 .sl0 [] b6 .nil (B9 _) _ _ hd (by omega) _ _ _ _ _ ((b5,.row [iA s.at',iA s.done.length] 68)::(r4,.row (fC f0 .sl0) 122)::R) _ _ (by rw[Bp];exact P) (Ac.1 hW) (fun b v s' h' nx' pv X hX hpl hb hW P=>?_) (fun f h2 n2 s2 P2=>hf f _ _ _ (PI.sub P2 (by repeat(first|exact .refl _|exact Al _ _|exact(Al _ _).trans (Al _ _)|refine .cons _ ?_))));(try rw[hb]at hW);cases b<;>(try simp only[Bt,Bs,Ao,A8,A9,ite_self,Cc,Ip,Hs,Il,Io,Hr,Ik,if_true,if_false,F8,F4,B0,Bw,Bz,Bx]at hW))
  |(refine Dl (by omega) ‹_› (Ac.1 hW) fun b s' h' nx' hW P=>?_;cases b<;>(try simp only[Bt,Bs,Ao,A8,A9,ite_self,Cc,Ip,Hs,Il,Io,Hr,Ik,if_true,if_false,F8,F4,B0,Bw,Bz,Bx]at hW))
  |(refine H3 (by omega) ‹_› (Ac.1 hW) fun t h' nx' hW P=>?_;(try simp only[Bt,Bs,Ao,A8,A9,ite_self,Cc,Ip,Hs,Il,Io,Hr,Ik,if_true,if_false,F8,F4,B0,Bw,Bz,Bx]at hW))
  |(refine Cu (fun hc hz=>?_) (fun hc hz=>?_)<;>first|(exfalso;(try simp only[Aj]at *);omega)|((try rewrite [hc])<;>(first|simp only[if_pos hz]at hW|simp only[if_neg hz]at hW|rw[if_pos ‹_›]at hW|rw[if_neg ‹_›]at hW|rw[if_pos (by(try simp only[Aj]at *);omega)]at hW|rw[if_neg (by(try simp only[Aj]at *);omega)]at hW|skip)<;>(try simp only[Bt,Bs,Ao,A8,A9,ite_self,Cc,Ip,Hs,Il,Io,Hr,Ik,if_true,if_false,F8,F4,B0,Bw,Bz,Bx]at hW)))
  |(refine new (fun hc hz=>?_) (fun hc hz=>?_)<;>first|(exfalso;(try simp only[Aj]at *);omega)|((try rewrite [hc])<;>(first|simp only[if_pos hz]at hW|simp only[if_neg hz]at hW|rw[if_pos ‹_›]at hW|rw[if_neg ‹_›]at hW|rw[if_pos (by(try simp only[Aj]at *);omega)]at hW|rw[if_neg (by(try simp only[Aj]at *);omega)]at hW|skip)<;>(try simp only[Bt,Bs,Ao,A8,A9,ite_self,Cc,Ip,Hs,Il,Io,Hr,Ik,if_true,if_false,F8,F4,B0,Bw,Bz,Bx]at hW)))
  |(refine Ot (by omega) ‹_› (Ac.1 hW) (fun t s' h' nx' hW P=>?_) (fun f h2 n2 s2 P2=>hf f _ _ _ (PI.sub P2 (by repeat(first|exact .refl _|exact Al _ _|exact(Al _ _).trans (Al _ _)|refine .cons _ ?_))));(try simp only[Bt,Bs,Ao,A8,A9,ite_self,Cc,Ip,Hs,Il,Io,Hr,Ik,if_true,if_false,F8,F4,B0,Bw,Bz,Bx]at hW))
  |(refine Gb (by omega) ‹_› (Ac.1 hW) fun b h' nx' hW P=>?_;cases b<;>(try simp only[Bt,Bs,Ao,A8,A9,ite_self,Cc,Ip,Hs,Il,Io,Hr,Ik,if_true,if_false,F8,F4,B0,Bw,Bz,Bx]at hW))
  |(refine Kv (by omega) ‹_› (Ac.1 hW) fun b h' nx' hW P=>?_;cases b<;>(try simp only[Bt,Bs,Ao,A8,A9,ite_self,Cc,Ip,Hs,Il,Io,Hr,Ik,if_true,if_false,F8,F4,B0,Bw,Bz,Bx]at hW))
  |(refine Dd (by omega) ‹_› (Ac.1 hW) (fun s' h' nx' hW P=>?_) (fun f h2 n2 s2 P2=>hf f _ _ _ (PI.sub P2 (by repeat(first|exact .refl _|exact Al _ _|exact(Al _ _).trans (Al _ _)|refine .cons _ ?_))));(try simp only[Bt,Bs,Ao,A8,A9,ite_self,Cc,Ip,Hs,Il,Io,Hr,Ik,if_true,if_false,F8,F4,B0,Bw,Bz,Bx]at hW))
  |refine Iw ‹_› (by omega) (fun h2 n2 s2 P2=>hf hW h2 n2 s2 (PI.sub P2 (by repeat(first|exact .refl _|exact Al _ _|exact(Al _ _).trans (Al _ _)|refine .cons _ ?_))))
  |(refine B4 (by omega) ‹_› (Ac.1 hW) (fun h' nx' hW P=>?_);(try simp only[Bt,Bs,Ao,A8,A9,ite_self,Cc,Ip,Hs,Il,Io,Hr,Ik,if_true,if_false,F8,F4,B0,Bw,Bz,Bx]at hW))
  |refine Bl ‹_› rfl fun h1 P=>?_
  |refine B5 ‹_› 0 rfl (Aa rfl) (by first|rfl|exact Ba ‹_›|exact ones_sl ‹_›) fun h1 P=>?_
  |refine B5 ‹_› 2 rfl (Aa rfl) (by first|rfl|exact Ba ‹_›|exact ones_sl ‹_›) fun h1 P=>?_
  |refine An ‹_› 0 rfl (Aa rfl) ?_
  |refine An ‹_› 1 rfl (Aa rfl) ?_
  |refine An ‹_› 2 rfl (Aa rfl) ?_
  |refine Af ‹_› 0 rfl (Aa rfl) ?_
  |refine Af ‹_› 1 rfl (Aa rfl) ?_
  |refine Af ‹_› 2 rfl (Aa rfl) ?_
  |refine Bd ‹_› fun hat=>?_
  |refine Bv (by(try simp only[Aj]at *);omega) ?_
  |(refine Cy ‹_› (Ac.1 hW) rfl fun s' h' hW P=>?_;(try simp only[Bt,Bs,Ao,A8,A9,ite_self,Cc,Ip,Hs,Il,Io,Hr,Ik,if_true,if_false,F8,F4,B0,Bw,Bz,Bx]at hW))
  |(refine Ca (b:=⟨_,_⟩) (by omega) ‹_› (by first|omega|exact(Aa rfl)) (Ac.1 hW) fun s' h' nx' hW P=>?_;(try simp only[Bt,Bs,Ao,A8,A9,ite_self,Cc,Ip,Hs,Il,Io,Hr,Ik,if_true,if_false,F8,F4,B0,Bw,Bz,Bx]at hW))
  |exact hk (.f {Lx v with near:=1}) _ _ _ _ _ hX hpl hW (PI.sub P (by repeat(first|exact .refl _|exact Al _ _|exact(Al _ _).trans (Al _ _)|refine .cons _ ?_)))
  |exact hk (.f (Lx v)) _ _ _ _ _ hX hpl hW (PI.sub P (by repeat(first|exact .refl _|exact Al _ _|exact(Al _ _).trans (Al _ _)|refine .cons _ ?_))))
theorem w_decl2 (AA:∀m',m'≤m→ALL E m'):∀n d:Nat,20000100≤d→m+1+d≤n→∀(kp:KP) (h:H) (nx:Pos) (k:K) (s:PS) (R:List Av) (Q:Val→PS→Prop) (Fl:Prop),PI E h nx s R→W (run (m+1) (.declarator 2) E.l s) Q Fl False →
 (∀v s' h' nx' pv X,SlA 2 126 pv ((Lx v).ps.flatMap Jf) X→(Lx v).ps.length≤Ps.big→Q v s'→PI E h' nx' s' (R++X)→k (.ag (fC (Lx v) pv)) h' nx'=true)→(Fl→∀h' nx' s',PI E h' nx' s' R→kp h' nx'=true)→Ai gg n kp (.fn 40 []) [.p E.pp 0,iA 2] h nx k=true:=by
 have A:=AA m (Ag _)
 intro n d hd hn kp h nx k s R Q Fl P hW hk hf
 refine Ab (d:=m+1+d) hn (by omega) fun mm hm=>?_
 have hW:W (Ah (run m) (.declarator 2) E.l s) Q Fl False:=hW
 simp only[Ah]at hW
 (try simp only[Bt,Bs,Ao,A8,A9,ite_self,Cc,Ip,Hs,Il,Io,Hr,Ik,if_true,if_false,F8,F4,B0,Bw,Bz,Bx]at hW)
 repeat' ((conv=>lhs;whnf);first
  |(refine B4 (by omega) ‹_› (Ac.1 hW) (fun h' nx' hW P=>?_);(try simp only[Bt,Bs,Ao,A8,A9,ite_self,Cc,Ip,Hs,Il,Io,Hr,Ik,if_true,if_false,F8,F4,B0,Bw,Bz,Bx]at hW))
  |refine Bl ‹_› rfl fun h1 P=>?_
  |refine B5 ‹_› 0 rfl (Aa rfl) (by first|rfl|exact Ba ‹_›|exact ones_sl ‹_›) fun h1 P=>?_)
 conv=>lhs;whnf
 obtain⟨Q2,hW,hQ2⟩:=Fz hW
 refine Br (L:=[0,1,4,5,6,7]) rfl (fun m' vs d' h' nx'=>∃(σ:PS) (r4 b5 b6:Pos) (st:Bool),d'=[]∧vs=[.p E.pp 0,iA 2,.p r4 0,.p b5 0,.p b6 0,.b st]∧m'≤m∧W (run m' (.starsL st) E.l σ) Q2 Fl False∧PI E h' nx' σ ((b6,.row (fC f0 .sl0) 122)::((b5,.row [iA s.at',iA s.done.length] 68)::(r4,.row (fC f0 .sl0) 122)::R))) m (by omega) ⟨_,_,_,_,_,rfl,rfl,Ag _,hW,P⟩ ?_
 clear hW P
 rintro m' _ d' h' nx' ⟨σ,r4,b5,b6,st,rfl,rfl,hm',hW,P⟩ k' hn' hx
 cases m' with
 |zero=>exact hW.elim
 |succ m'=>
 have A2:=AA m' (by omega)
 have hW:W (Ah (run m') (.starsL st) E.l σ) Q2 Fl False:=hW
 simp only[Ah]at hW
 cases st
 all_goals
 repeat' ((conv=>lhs;whnf);first
  |contradiction
  |(refine hx _ _ _ _ _ trivial ?_;have hW:=hQ2 _ _ hW;(try simp only[Bt,Bs,Ao,A8,A9,ite_self,Cc,Ip,Hs,Il,Io,Hr,Ik,if_true,if_false,F8,F4,B0,Bw,Bz,Bx]at hW))
  |(refine hn' _ _ _ _ m' (by omega) ⟨_,_,_,_,_,rfl,rfl,by omega,hW,P⟩)
  |(refine A2.qualifiers _ _ hd (by omega) _ _ _ _ _ _ _ _ ‹_› (Ac.1 hW) (fun b v s' h' nx' hb hW P=>?_) (fun f h2 n2 s2 P2=>hf f _ _ _ (PI.sub P2 (by repeat(first|exact .refl _|exact Al _ _|exact(Al _ _).trans (Al _ _)|refine .cons _ ?_))));(try rw[hb]at hW);cases b<;>(try simp only[Bt,Bs,Ao,A8,A9,ite_self,Cc,Ip,Hs,Il,Io,Hr,Ik,if_true,if_false,F8,F4,B0,Bw,Bz,Bx]at hW))
  |(refine A.declarator _ (by first|omega|exact(Aa rfl)) _ _ hd (by omega) _ _ _ _ _ _ _ _ ‹_› (Ac.1 hW) (fun v s' h' nx' pv X hX hpl hW P=>?_) (fun f h2 n2 s2 P2=>hf f _ _ _ (PI.sub P2 (by repeat(first|exact .refl _|exact Al _ _|exact(Al _ _).trans (Al _ _)|refine .cons _ ?_))));(try simp only[Bt,Bs,Ao,A8,A9,ite_self,Cc,Ip,Hs,Il,Io,Hr,Ik,if_true,if_false,F8,F4,B0,Bw,Bz,Bx]at hW))
  |(refine A.suffixes ⟨true,t,0,[]⟩ .sl0 [] b6 .nil (B9 _) _ _ hd (by omega) _ _ _ _ _ ((b5,.row [iA s.at',iA s.done.length] 68)::(r4,.row (fC f0 .sl0) 122)::R) _ _ (by rw[Bp];exact P) (Ac.1 hW) (fun b v s' h' nx' pv X hX hpl hb hW P=>?_) (fun f h2 n2 s2 P2=>hf f _ _ _ (PI.sub P2 (by repeat(first|exact .refl _|exact Al _ _|exact(Al _ _).trans (Al _ _)|refine .cons _ ?_))));(try rw[hb]at hW);cases b<;>(try simp only[Bt,Bs,Ao,A8,A9,ite_self,Cc,Ip,Hs,Il,Io,Hr,Ik,if_true,if_false,F8,F4,B0,Bw,Bz,Bx]at hW))
  |(refine A.suffixes (Lx v) pv X b6 hX hpl _ _ hd (by omega) _ _ _ _ _ ((b5,.row [iA s.at',iA s.done.length] 68)::(r4,.row (fC f0 .sl0) 122)::R) _ _ P (Ac.1 hW) (fun b v s' h' nx' pv X hX hpl hb hW P=>?_) (fun f h2 n2 s2 P2=>hf f _ _ _ (PI.sub P2 (by repeat(first|exact .refl _|exact Al _ _|exact(Al _ _).trans (Al _ _)|refine .cons _ ?_))));(try rw[hb]at hW);cases b<;>(try simp only[Bt,Bs,Ao,A8,A9,ite_self,Cc,Ip,Hs,Il,Io,Hr,Ik,if_true,if_false,F8,F4,B0,Bw,Bz,Bx]at hW))
  |(refine A.suffixes f0 .sl0 [] b6 .nil (B9 _) _ _ hd (by omega) _ _ _ _ _ ((b5,.row [iA s.at',iA s.done.length] 68)::(r4,.row (fC f0 .sl0) 122)::R) _ _ (by rw[Bp];exact P) (Ac.1 hW) (fun b v s' h' nx' pv X hX hpl hb hW P=>?_) (fun f h2 n2 s2 P2=>hf f _ _ _ (PI.sub P2 (by repeat(first|exact .refl _|exact Al _ _|exact(Al _ _).trans (Al _ _)|refine .cons _ ?_))));(try rw[hb]at hW);cases b<;>(try simp only[Bt,Bs,Ao,A8,A9,ite_self,Cc,Ip,Hs,Il,Io,Hr,Ik,if_true,if_false,F8,F4,B0,Bw,Bz,Bx]at hW))
  |(refine Dl (by omega) ‹_› (Ac.1 hW) fun b s' h' nx' hW P=>?_;cases b<;>(try simp only[Bt,Bs,Ao,A8,A9,ite_self,Cc,Ip,Hs,Il,Io,Hr,Ik,if_true,if_false,F8,F4,B0,Bw,Bz,Bx]at hW))
  |(refine H3 (by omega) ‹_› (Ac.1 hW) fun t h' nx' hW P=>?_;(try simp only[Bt,Bs,Ao,A8,A9,ite_self,Cc,Ip,Hs,Il,Io,Hr,Ik,if_true,if_false,F8,F4,B0,Bw,Bz,Bx]at hW))
  |(refine Cu (fun hc hz=>?_) (fun hc hz=>?_)<;>first|(exfalso;(try simp only[Aj]at *);omega)|((try rewrite [hc])<;>(first|simp only[if_pos hz]at hW|simp only[if_neg hz]at hW|rw[if_pos ‹_›]at hW|rw[if_neg ‹_›]at hW|rw[if_pos (by(try simp only[Aj]at *);omega)]at hW|rw[if_neg (by(try simp only[Aj]at *);omega)]at hW|skip)<;>(try simp only[Bt,Bs,Ao,A8,A9,ite_self,Cc,Ip,Hs,Il,Io,Hr,Ik,if_true,if_false,F8,F4,B0,Bw,Bz,Bx]at hW)))
  |(refine new (fun hc hz=>?_) (fun hc hz=>?_)<;>first|(exfalso;(try simp only[Aj]at *);omega)|((try rewrite [hc])<;>(first|simp only[if_pos hz]at hW|simp only[if_neg hz]at hW|rw[if_pos ‹_›]at hW|rw[if_neg ‹_›]at hW|rw[if_pos (by(try simp only[Aj]at *);omega)]at hW|rw[if_neg (by(try simp only[Aj]at *);omega)]at hW|skip)<;>(try simp only[Bt,Bs,Ao,A8,A9,ite_self,Cc,Ip,Hs,Il,Io,Hr,Ik,if_true,if_false,F8,F4,B0,Bw,Bz,Bx]at hW)))
  |(refine Ot (by omega) ‹_› (Ac.1 hW) (fun t s' h' nx' hW P=>?_) (fun f h2 n2 s2 P2=>hf f _ _ _ (PI.sub P2 (by repeat(first|exact .refl _|exact Al _ _|exact(Al _ _).trans (Al _ _)|refine .cons _ ?_))));(try simp only[Bt,Bs,Ao,A8,A9,ite_self,Cc,Ip,Hs,Il,Io,Hr,Ik,if_true,if_false,F8,F4,B0,Bw,Bz,Bx]at hW))
  |(refine Gb (by omega) ‹_› (Ac.1 hW) fun b h' nx' hW P=>?_;cases b<;>(try simp only[Bt,Bs,Ao,A8,A9,ite_self,Cc,Ip,Hs,Il,Io,Hr,Ik,if_true,if_false,F8,F4,B0,Bw,Bz,Bx]at hW))
  |(refine Kv (by omega) ‹_› (Ac.1 hW) fun b h' nx' hW P=>?_;cases b<;>(try simp only[Bt,Bs,Ao,A8,A9,ite_self,Cc,Ip,Hs,Il,Io,Hr,Ik,if_true,if_false,F8,F4,B0,Bw,Bz,Bx]at hW))
  |(refine Dd (by omega) ‹_› (Ac.1 hW) (fun s' h' nx' hW P=>?_) (fun f h2 n2 s2 P2=>hf f _ _ _ (PI.sub P2 (by repeat(first|exact .refl _|exact Al _ _|exact(Al _ _).trans (Al _ _)|refine .cons _ ?_))));(try simp only[Bt,Bs,Ao,A8,A9,ite_self,Cc,Ip,Hs,Il,Io,Hr,Ik,if_true,if_false,F8,F4,B0,Bw,Bz,Bx]at hW))
  |refine Iw ‹_› (by omega) (fun h2 n2 s2 P2=>hf hW h2 n2 s2 (PI.sub P2 (by repeat(first|exact .refl _|exact Al _ _|exact(Al _ _).trans (Al _ _)|refine .cons _ ?_))))
  |(refine B4 (by omega) ‹_› (Ac.1 hW) (fun h' nx' hW P=>?_);(try simp only[Bt,Bs,Ao,A8,A9,ite_self,Cc,Ip,Hs,Il,Io,Hr,Ik,if_true,if_false,F8,F4,B0,Bw,Bz,Bx]at hW))
  |refine Bl ‹_› rfl fun h1 P=>?_
  |refine B5 ‹_› 0 rfl (Aa rfl) (by first|rfl|exact Ba ‹_›|exact ones_sl ‹_›) fun h1 P=>?_
  |refine B5 ‹_› 2 rfl (Aa rfl) (by first|rfl|exact Ba ‹_›|exact ones_sl ‹_›) fun h1 P=>?_
  |refine An ‹_› 0 rfl (Aa rfl) ?_
  |refine An ‹_› 1 rfl (Aa rfl) ?_
  |refine An ‹_› 2 rfl (Aa rfl) ?_
  |refine Af ‹_› 0 rfl (Aa rfl) ?_
  |refine Af ‹_› 1 rfl (Aa rfl) ?_
  |refine Af ‹_› 2 rfl (Aa rfl) ?_
  |refine Bd ‹_› fun hat=>?_
  |refine Bv (by(try simp only[Aj]at *);omega) ?_
  |(refine Cy ‹_› (Ac.1 hW) rfl fun s' h' hW P=>?_;(try simp only[Bt,Bs,Ao,A8,A9,ite_self,Cc,Ip,Hs,Il,Io,Hr,Ik,if_true,if_false,F8,F4,B0,Bw,Bz,Bx]at hW))
  |(refine Ca (b:=⟨_,_⟩) (by omega) ‹_› (by first|omega|exact(Aa rfl)) (Ac.1 hW) fun s' h' nx' hW P=>?_;(try simp only[Bt,Bs,Ao,A8,A9,ite_self,Cc,Ip,Hs,Il,Io,Hr,Ik,if_true,if_false,F8,F4,B0,Bw,Bz,Bx]at hW))
  |exact hk (.f {Lx v with near:=1}) _ _ _ _ _ hX hpl hW (PI.sub P (by repeat(first|exact .refl _|exact Al _ _|exact(Al _ _).trans (Al _ _)|refine .cons _ ?_)))
  |exact hk (.f (Lx v)) _ _ _ _ _ hX hpl hW (PI.sub P (by repeat(first|exact .refl _|exact Al _ _|exact(Al _ _).trans (Al _ _)|refine .cons _ ?_))))
end Go.CE
