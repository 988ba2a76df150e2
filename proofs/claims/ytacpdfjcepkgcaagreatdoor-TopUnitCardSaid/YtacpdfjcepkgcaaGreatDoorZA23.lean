/- Part 23 of the lemmas behind the claim. -/
import Derived.Test.YtacpdfjcepkgcaaGreatDoorZA01
import Derived.Test.YtacpdfjcepkgcaaGreatDoorZA22
set_option linter.unusedSimpArgs false
set_option linter.unusedVariables false
set_option linter.constructorNameAsVariable false
set_option linter.unusedSectionVars false
set_option linter.defProp false
set_option maxRecDepth 100000
set_option maxHeartbeats 40000000
namespace Go.CE
open Go Go.Ps Go.Proofs.YtacpdfjcepkgcaaGreatDoor
attribute [local irreducible] loopK Ai K0 N2 Dg fits rd rd1 wr newC Kj Fk Fa Ve
theorem sgn_t {t:Tk} {x:List Nat} (h1:t.c=7) (h2:t.t=x):Gg t x=true:=by simp[Gg,h1,h2]
theorem sgn_f1 {t:Tk} {x:List Nat} (h1:t.c≠7):Gg t x=false:=by simp[Gg,h1]
theorem sgn_f2 {t:Tk} {x:List Nat} (h1:t.t≠x):Gg t x=false:=by simp[Gg,h1]
theorem wrd_t {t:Tk} {x:List Nat} (h1:t.c=1) (h2:t.t=x):Of t x=true:=by simp[Of,h1,h2]
theorem wrd_f1 {t:Tk} {x:List Nat} (h1:t.c≠1):Of t x=false:=by simp[Of,h1]
theorem wrd_f2 {t:Tk} {x:List Nat} (h1:t.t≠x):Of t x=false:=by simp[Of,h1]
theorem getD_big {l:List Tk} {i:Nat} (h:l.length≤i):l.getD i z0=z0:=by
 rw[A0,Jl h];rfl
theorem Zs {l:List Tk} {i:Nat} (h:(l.getD i z0).c≠0):i<l.length:=by
 apply Nat.lt_of_not_le
 intro h'
 rw[getD_big h']at h
 exact h rfl
theorem lt_of_sgn {l:List Tk} {i:Nat} {x:List Nat} (h:Gg (l.getD i z0) x=true):i<l.length:=Zs (by intro c;simp[Gg]at h c;omega)
theorem lt_of_wrd {l:List Tk} {i:Nat} {x:List Nat} (h:Of (l.getD i z0) x=true):i<l.length:=Zs (by intro c;simp[Of]at h c;omega)
variable {E : PEnv} {h : H} {nx : Pos} {s : PS} {R : List Av} {n : Nat} {kp : KP} {k : K}
theorem I6 (hn:2≤n) (P:PI E h nx s R) (j:Nat) (hj:j≤1) {z:Int} (hz:z=Int.ofNat j) (hk:∀h' nx',PI E h' nx' s R→k (.ag (Du (E.l.getD (s.at'+j) z0))) h' nx'=true):Ai gg n kp (.fn 78 []) [.p E.pp 0,.i .i64 z] h nx k=true:=by
 refine Ab hn (by omega) fun m hm=>?_
 have hat:=P.at
 subst hz
 rcases P.tok with⟨hl,h0⟩|⟨p,off,cap,hl⟩
 all_goals
 repeat' ((conv=>lhs;whnf);first
  |contradiction
  |refine Bl ‹_› rfl fun h1 P1=>?_
  |refine Bd ‹_› fun hat'=>?_
  |(refine pi_rdL ‹_› ?_;rewrite [hl])
  |refine Bv (by(try simp only[Aj]at *);omega) ?_
  |refine pi_tok ‹_› hl (by(try simp only[Aj]at *);omega) rfl ?_
  |refine Cb (y:=false) (by(try simp only[Aj]at *);omega) ?_
  |refine Dt (fun hc hz=>?_) (fun hc hz=>?_)<;>try rewrite [hc]
  |refine B5 ‹_› 0 rfl (Aa rfl) rfl fun h1 P1=>?_
  |refine An ‹_› 0 rfl (Aa rfl) ?_
  |(rewrite [getD_big (i:=s.at'+j) (l:=E.l) (by(try simp only[Aj]at *);omega)]at hk;exact hk _ _ (PI.drop ‹_› 1))
  |exact hk _ _ (PI.drop ‹_› 1)
  |refine Cw (x:=false) (by(try simp only[Aj]at *);omega) ?_)
theorem Ng (hn:3≤n) (P:PI E h nx s R) (j:Nat) (hj:j≤1) {z:Int} (hz:z=Int.ofNat j) {x:List Nat} (hk:∀h' nx',PI E h' nx' s R→k (.b (Gg (E.l.getD (s.at'+j) z0) x)) h' nx'=true):Ai gg n kp (.fn 39 []) [.p E.pp 0,.i .i64 z,.s x] h nx k=true:=by
 refine Ab hn (by omega) fun m hm=>?_
 repeat' ((conv=>lhs;whnf);first
  |contradiction
  |refine I6 (by omega) ‹_› j hj hz fun h1 n1 P1=>?_
  |refine Bl ‹_› rfl fun h1 P1=>?_
  |refine B5 ‹_› 0 rfl (Aa rfl) rfl fun h1 P1=>?_
  |refine Af ‹_› 0 rfl (Aa rfl) ?_
  |refine Cu (fun hc hz=>?_) (fun hc hz=>?_)<;>try rewrite [hc]
  |refine Gq (fun hc hz=>?_) (fun hc hz=>?_)<;>try rewrite [hc]
  |(rewrite [sgn_t ‹_› ‹_›]at hk;exact hk _ _ (PI.drop ‹_› 1))
  |(rewrite [sgn_f1 ‹_›]at hk;exact hk _ _ (PI.drop ‹_› 1))
  |(rewrite [sgn_f2 ‹_›]at hk;exact hk _ _ (PI.drop ‹_› 1)))
theorem Yp (hn:3≤n) (P:PI E h nx s R) {x:List Nat} (hk:∀h' nx',PI E h' nx' s R→k (.b (Of (E.l.getD s.at' z0) x)) h' nx'=true):Ai gg n kp (.fn 36 []) [.p E.pp 0,.s x] h nx k=true:=by
 refine Ab hn (by omega) fun m hm=>?_
 repeat' ((conv=>lhs;whnf);first
  |contradiction
  |refine I6 (by omega) ‹_› 0 (by omega) rfl fun h1 n1 P1=>?_
  |refine Bl ‹_› rfl fun h1 P1=>?_
  |refine B5 ‹_› 0 rfl (Aa rfl) rfl fun h1 P1=>?_
  |refine Af ‹_› 0 rfl (Aa rfl) ?_
  |refine Cu (fun hc hz=>?_) (fun hc hz=>?_)<;>try rewrite [hc]
  |refine Gq (fun hc hz=>?_) (fun hc hz=>?_)<;>try rewrite [hc]
  |(rewrite [wrd_t ‹_› ‹_›]at hk;exact hk _ _ (PI.drop ‹_› 1))
  |(rewrite [wrd_f1 ‹_›]at hk;exact hk _ _ (PI.drop ‹_› 1))
  |(rewrite [wrd_f2 ‹_›]at hk;exact hk _ _ (PI.drop ‹_› 1)))
theorem Dl (hn:4≤n) (P:PI E h nx s R) {x:List Nat} {Q:Bool→PS→Prop} {F:Prop} (hW:W (E6 x E.l s) Q F False) (hk:∀b s' h' nx',Q b s'→PI E h' nx' s' R→k (.b b) h' nx'=true):Ai gg n kp (.fn 88 []) [.p E.pp 0,.s x] h nx k=true:=by
 refine Ab hn (by omega) fun m hm=>?_
 have hat:=P.at
 unfold E6 at hW
 cases hs:Gg (E.l.getD s.at' z0) x<;>rw[hs]at hW
 all_goals
 repeat' ((conv=>lhs;whnf);first
  |contradiction
  |(refine Ng (by omega) ‹_› 0 (by omega) rfl fun h1 n1 P1=>?_;rewrite [show s.at'+0=s.at' from rfl,hs])
  |refine Bd ‹_› fun hat'=>?_
  |refine Bv (by(try simp only[Aj]at *);omega) ?_
  |(refine Ss (n:=s.at'+1) ‹_› rfl (lt_of_sgn hs) fun h1 P1=>?_)
  |exact hk _ _ _ _ hW ‹_›)
theorem Ph (hn:4≤n) (P:PI E h nx s R) {x:List Nat} {Q:Bool→PS→Prop} {F:Prop} (hW:W (Km x E.l s) Q F False) (hk:∀b s' h' nx',Q b s'→PI E h' nx' s' R→k (.b b) h' nx'=true):Ai gg n kp (.fn 185 []) [.p E.pp 0,.s x] h nx k=true:=by
 refine Ab hn (by omega) fun m hm=>?_
 have hat:=P.at
 unfold Km at hW
 cases hs:Of (E.l.getD s.at' z0) x<;>rw[hs]at hW
 all_goals
 repeat' ((conv=>lhs;whnf);first
  |contradiction
  |(refine Yp (by omega) ‹_› fun h1 n1 P1=>?_;rewrite [hs])
  |refine Bd ‹_› fun hat'=>?_
  |refine Bv (by(try simp only[Aj]at *);omega) ?_
  |(refine Ss (n:=s.at'+1) ‹_› rfl (lt_of_wrd hs) fun h1 P1=>?_)
  |exact hk _ _ _ _ hW ‹_›)
theorem pm1 {a b e:Av} {R X Y:List Av}:(a::b::(R++(X++([e]++Y)))).Perm (e::a::b::(R++(X++Y))):=by
 have:(a::b::(R++(X++([e]++Y))))=((a::b::(R++X))++e::Y):=by simp
 rw[this]
 refine List.perm_middle.trans ?_
 simp
def stA (t:Stt):AV:=.ag [iA t.f,iA t.b]
theorem pi_rdDn (P:PI E h nx s R) {k:AV→Bool} (hk:∀dn,(dn=.sl0∧s.done.length=0∨∃p,dn=.sl p 0 s.done.length (.u 4))→k dn=true):rd1 h E.pp 2 k=true:=by
 obtain⟨C,hR,S⟩:=P
 refine Ae S 0 rfl (by simp) (hk _ ?_)
 rcases hR.dn.inv with⟨h1,h2,h3⟩|⟨p,n,LL,h1,h2,h3,h4⟩
 · exact .inl ⟨h1,by rw[Dh Ed (by omega) h2];rfl⟩
 · exact .inr ⟨p,by show C.dn=_;rw[h1,El (off:=0) Ed (by omega) (by simpa using h2) (by omega)]⟩
theorem B4 (hn:2≤n) (P:PI E h nx s R) {Q:Stt→PS→Prop} {F:Prop} (hW:W (Fm E.l s) Q F False) (hk:∀h' nx',Q ⟨s.at',s.done.length⟩ s→PI E h' nx' s R→k (stA ⟨s.at',s.done.length⟩) h' nx'=true):Ai gg n kp (.fn 15 []) [.p E.pp 0] h nx k=true:=by
 refine Ab hn (by omega) fun m hm=>?_
 have hk2:=fun h' nx'=>hk h' nx' hW
 repeat' ((conv=>lhs;whnf);first
  |contradiction
  |refine Bl ‹_› rfl fun h1 P1=>?_
  |refine Bd ‹_› fun hat'=>?_
  |(refine pi_rdDn ‹_› (fun dn hd=>?_);rcases hd with⟨rfl,h0⟩|⟨p,rfl⟩)
  |refine B5 ‹_› 0 rfl (Aa rfl) rfl fun h1 P1=>?_
  |refine An ‹_› 0 rfl (Aa rfl) ?_
  |(rewrite [h0]at hk2;exact hk2 _ _ (PI.drop ‹_› 1))
  |exact hk2 _ _ (PI.drop ‹_› 1))
theorem Iw (P:PI E h nx s R) (hn:1≤n) (hk:∀h' nx' s',PI E h' nx' s' R→kp h' nx'=true):Ai gg n kp (.fn 87 []) [.p E.pp 0] h nx k=true:=by
 refine Ab hn (by omega) fun m hm=>?_
 conv=>lhs;whnf
 refine Bd P fun _=>?_
 exact hk _ _ _ P
theorem Dd (hn:6≤n) (P:PI E h nx s R) {x:List Nat} {Q:Unit→PS→Prop} {F:Prop} (hW:W (De x E.l s) Q F False) (hk:∀s' h' nx',Q () s'→PI E h' nx' s' R→k (.tu []) h' nx'=true)
 (hf:F→∀h' nx' s',PI E h' nx' s' R→kp h' nx'=true):Ai gg n kp (.fn 45 []) [.p E.pp 0,.s x] h nx k=true:=by
 refine Ab hn (by omega) fun m hm=>?_
 have hT:W (E6 x E.l s) (fun b s'=>match b with|true=>Q () s'|false=>F∧s'=s) F False:=by
  unfold E6;unfold De at hW
  cases hs:Gg (E.l.getD s.at' z0) x<;>rw[hs]at hW
  · exact⟨hW,rfl⟩
  · exact hW
 repeat' ((conv=>lhs;whnf);first
  |contradiction
  |(refine Dl (by omega) ‹_› hT fun b s' h' nx' hW P=>?_;cases b)
  |exact hk _ _ _ hW ‹_›
  |refine Iw ‹_› (by omega) (hf hW.1))
theorem Ot (hn:4≤n) (P:PI E h nx s R) {Q:List Nat→PS→Prop} {F:Prop} (hW:W (name E.l s) Q F False) (hk:∀t s' h' nx',Q t s'→PI E h' nx' s' R→k (.s t) h' nx'=true)
 (hf:F→∀h' nx' s',PI E h' nx' s' R→kp h' nx'=true):Ai gg n kp (.fn 90 []) [.p E.pp 0] h nx k=true:=by
 refine Ab hn (by omega) fun m hm=>?_
 have hat:=P.at
 unfold name at hW
 have hs:(E.l.getD s.at' z0).c=2∨(E.l.getD s.at' z0).c≠2:=by omega
 rcases hs with hs|hs
 · rw[if_pos hs]at hW
   repeat' ((conv=>lhs;whnf);first
    |contradiction
    |refine I6 (by omega) ‹_› 0 (by omega) rfl fun h1 n1 P1=>?_
    |refine Bl ‹_› rfl fun h1 P1=>?_
    |refine B5 ‹_› 0 rfl (Aa rfl) rfl fun h1 P1=>?_
    |refine Bd ‹_› fun hat'=>?_
    |refine Af ‹_› 0 rfl (Aa rfl) ?_
    |refine Bv (by(try simp only[Aj]at *);omega) ?_
    |(refine Ss (n:=s.at'+1) ‹_› rfl (Zs (by omega)) fun h1 P1=>?_)
    |(refine new (fun hc hz=>?_) (fun hc hz=>?_)<;>first|exact absurd hs hz|skip)
    |exact hk _ _ _ _ hW (PI.drop ‹_› 1))
 · rw[if_neg hs]at hW
   repeat' ((conv=>lhs;whnf);first
    |contradiction
    |refine I6 (by omega) ‹_› 0 (by omega) rfl fun h1 n1 P1=>?_
    |refine Bl ‹_› rfl fun h1 P1=>?_
    |refine B5 ‹_› 0 rfl (Aa rfl) rfl fun h1 P1=>?_
    |refine Af ‹_› 0 rfl (Aa rfl) ?_
    |(refine new (fun hc hz=>?_) (fun hc hz=>?_)<;>first|exact absurd hz hs|skip)
    |refine Iw ‹_› (by omega) (fun h' nx' s' P=>hf hW _ _ _ (PI.drop P 1)))
end Go.CE
namespace Go.CE
open Go Go.Ps Go.Proofs.YtacpdfjcepkgcaaGreatDoor
attribute [local irreducible] loopK Ai K0 N2 Dg fits rd rd1 wr newC Kj Fk Fa Ve
theorem Yv (a:Array UInt8):Ep ⟨a⟩=a.toList.map UInt8.toNat:=by
 show List.rec (motive:=fun _=>List Nat) [] (fun x _ r=>x.toNat::r) a.toList=_
 induction a.toList with
 |nil=>rfl
 |cons x r ih=>simpa using ih
variable {E : PEnv} {h : H} {nx : Pos} {s : PS} {R : List Av} {n : Nat} {kp : KP} {k : K}
theorem Po (hn:2≤n) {x:List Nat} (hk:∀z:Nat,z=Hy x→k (iA z) h nx=true):Ai gg n kp (.fn 82 []) [.s x] h nx k=true:=by
 refine Ab hn (by omega) fun m hm=>?_
 repeat' ((conv=>lhs;whnf);first
  |contradiction
  |(refine Gq (fun hc hz=>?_) (fun hc hz=>?_)<;>try rewrite [hc])
  |(refine hk _ ?_;first|(subst hz;decide)|(simp only[Yv]at *;simp[Hy]at *;simp[*])))
theorem level_w (hn:3≤n) (P:PI E h nx s R) {Q:Nat→PS→Prop} {F:Prop} (hW:W (Xr E.l s) Q F False) (hk:∀z h' nx',z≤45→Q z s→PI E h' nx' s R→k (iA z) h' nx'=true):Ai gg n kp (.fn 183 []) [.p E.pp 0] h nx k=true:=by
 refine Ab hn (by omega) fun m hm=>?_
 have hQ:∀z,z=Gz (E.l.getD s.at' z0)→Q z s:=fun z e=>by rw[e];exact hW
 repeat' ((conv=>lhs;whnf);first
  |contradiction
  |refine I6 (by omega) ‹_› 0 (by omega) rfl fun h1 n1 P1=>?_
  |refine Bl ‹_› rfl fun h1 P1=>?_
  |refine B5 ‹_› 0 rfl (Aa rfl) rfl fun h1 P1=>?_
  |refine Af ‹_› 0 rfl (Aa rfl) ?_
  |(refine new (fun hc hz=>?_) (fun hc hz=>?_)<;>try rewrite [hc])
  |(refine Gq (fun hc hz=>?_) (fun hc hz=>?_)<;>try rewrite [hc])
  |(refine hk _ _ _ (Aa rfl) (hQ _ ?_) (PI.drop ‹_› 1);simp only[Yv,Nat.add_zero]at *;simp at *;simp[Gz, *]))
theorem assigns_w (hn:3≤n) (P:PI E h nx s R) {Q:Bool→PS→Prop} {F:Prop} (hW:W (Ny E.l s) Q F False) (hk:∀z h' nx',Q z s→PI E h' nx' s R→k (.b z) h' nx'=true):Ai gg n kp (.fn 190 []) [.p E.pp 0] h nx k=true:=by
 refine Ab hn (by omega) fun m hm=>?_
 have hQ:∀z,z=Hb (E.l.getD s.at' z0)→Q z s:=fun z e=>by rw[e];exact hW
 repeat' ((conv=>lhs;whnf);first
  |contradiction
  |refine I6 (by omega) ‹_› 0 (by omega) rfl fun h1 n1 P1=>?_
  |refine Bl ‹_› rfl fun h1 P1=>?_
  |refine B5 ‹_› 0 rfl (Aa rfl) rfl fun h1 P1=>?_
  |refine Af ‹_› 0 rfl (Aa rfl) ?_
  |(refine new (fun hc hz=>?_) (fun hc hz=>?_)<;>try rewrite [hc])
  |(refine Gq (fun hc hz=>?_) (fun hc hz=>?_)<;>try rewrite [hc])
  |(refine hk _ _ _ (hQ _ ?_) (PI.drop ‹_› 1);simp only[Yv,Nat.add_zero]at *;simp at *;simp[Hb, *]))
theorem Xw (hn:40≤n) (P:PI E h nx s R) {x:List Nat} (hk:PI E h nx s R→k (.b (s.ty x)) h nx=true):Ai gg n kp (.fn 81 []) [.p E.pp 3,.s x] h nx k=true:=by
 refine Ab hn (by omega) fun m hm=>?_
 have hk:=hk P
 obtain⟨C,hR,S⟩:=P
 have hty:s.ty x=R6 E C.now x:=by
  have:=hR.nr
  cases hst:s.st with
  |nil=>rw[hst]at this;exact(this.2.2 x).symm
  |cons a r=>rw[hst]at this;obtain⟨b,k,_,_,_,h4,_⟩:=this;exact(h4 x).symm
 rw[hty]at hk
 repeat' ((conv=>lhs;whnf);first
  |contradiction
  |refine Ae S 0 rfl (Aa rfl) ?_
  |refine Mg S 1 rfl (fun v j hv=>?_) (fun hv=>?_)
  |(have e0:C.now x=0:=(by unfold Eb at hv;split at hv<;>first|assumption|cases hv)
    clear hv
    refine Cu (fun hc hz=>?_) (fun hc hz=>?_)<;>first|omega|try rewrite [hc])
  |(obtain rfl:AV.i .i64 (C.now x)=v:=(by unfold Eb at hv;split at hv<;>first|cases hv;rfl|cases hv)
    clear hv
    refine Cu (fun hc hz=>?_) (fun hc hz=>?_)<;>try rewrite [hc])
  |(refine Cu (fun hc hz=>?_) (fun hc hz=>?_)<;>first|omega|try rewrite [hc])
  |(rewrite [show R6 E C.now x=true by unfold R6;rw[if_pos (by omega)]]at hk;exact hk)
  |(rewrite [show R6 E C.now x=false by unfold R6;rw[if_neg (by omega),if_pos (by omega)]]at hk;exact hk)
  |(rewrite [show R6 E C.now x=E.tau x by unfold R6;rw[if_neg (by omega),if_neg (by omega)]]at hk;exact hk)
  |refine hR.sc _ _ _ _ _ _ _ (by omega) S (fun e he=>by unfold PA;simp[he]) ?_)
end Go.CE
namespace Go.CE
open Go Go.Ps Go.Proofs.YtacpdfjcepkgcaaGreatDoor
attribute [local irreducible] loopK Ai K0 N2 Dg fits rd rd1 wr newC Kj Fk Fa Ve
theorem fBd {y:Nat}:fB (N2 (Int.ofNat y) 0) false true=decide (y≠0):=by
 rw[I4]
 by_cases h:y=0
 · subst h;rfl
 · have:decide (Int.ofNat y=0)=false:=by simp;exact h
   rw[this];simp[fB,h]
theorem Aay {x:List Nat} {l:List Tk} {s:PS} {Q:Bool→PS→Prop} {F:Prop} (h:W (Jo x l s) Q F False):Q (Gg (l.getD (s.at'+1) z0) x) s:=by
 unfold Jo at h
 cases hc:clo (l.getD s.at' z0)<;>rw[hc]at h
 · exact h
 · exact h.elim
theorem W_bs1 {l:List Tk} {s:PS} {Q:Bool→PS→Prop} {F:Prop} (h:W (Ew l s) Q F False):Q (Wm (l.getD (s.at'+1) z0) s.ty) s:=by
 unfold Ew at h
 cases hc:clo (l.getD s.at' z0)<;>rw[hc]at h
 · exact h
 · exact h.elim
theorem W_bl1 {l:List Tk} {s:PS} {Q:Bool→PS→Prop} {F:Prop} (h:W (Ej l s) Q F False):Q (Aav (l.getD (s.at'+1) z0) s.ty) s:=by
 unfold Ej at h
 cases hc:clo (l.getD s.at' z0)<;>rw[hc]at h
 · exact h
 · exact h.elim
variable {E : PEnv} {h : H} {nx : Pos} {s : PS} {R : List Av} {n : Nat} {kp : KP} {k : K}
theorem Aau (hn:45≤n) (P:PI E h nx s R) (j:Nat) (hj:j≤1) {z:Int} (hzj:z=Int.ofNat j) (hk:∀b h' nx',b=Wm (E.l.getD (s.at'+j) z0) s.ty→PI E h' nx' s R→k (.b b) h' nx'=true):Ai gg n kp (.fn 141 []) [.p E.pp 0,.i .i64 z] h nx k=true:=by
 refine Ab hn (by omega) fun m hm=>?_
 repeat' ((conv=>lhs;whnf);first
  |contradiction
  |refine I6 (by omega) ‹_› j hj hzj fun h1 n1 P1=>?_
  |refine Bl ‹_› rfl fun h1 P1=>?_
  |refine B5 ‹_› 0 rfl (Aa rfl) rfl fun h1 P1=>?_
  |refine Af ‹_› 0 rfl (Aa rfl) ?_
  |refine Po (by omega) (fun y hy=>?_)
  |refine Xw (by omega) ‹_› (fun P=>?_)
  |(refine new (fun hc hz=>?_) (fun hc hz=>?_)<;>try rewrite [hc])
  |(refine Cu (fun hc hz=>?_) (fun hc hz=>?_)<;>try rewrite [hc])
  |(refine hk _ _ _ ?_ (PI.drop ‹_› 1);first|(simp only[Wm];rw[if_neg ‹_›,if_pos ‹_›])|(simp only[Wm];rw[if_neg ‹_›,if_neg ‹_›])|(simp only[Wm];rw[if_pos ‹_›,fBd,hy])))
theorem begL_ok (hn:46≤n) (P:PI E h nx s R) (j:Nat) (hj:j≤1) {z:Int} (hzj:z=Int.ofNat j) (hk:∀b h' nx',b=Aav (E.l.getD (s.at'+j) z0) s.ty→PI E h' nx' s R→k (.b b) h' nx'=true):Ai gg n kp (.fn 136 []) [.p E.pp 0,.i .i64 z] h nx k=true:=by
 refine Ab hn (by omega) fun m hm=>?_
 repeat' ((conv=>lhs;whnf);first
  |contradiction
  |refine I6 (by omega) ‹_› j hj hzj fun h1 n1 P1=>?_
  |refine Bl ‹_› rfl fun h1 P1=>?_
  |refine B5 ‹_› 0 rfl (Aa rfl) rfl fun h1 P1=>?_
  |refine Af ‹_› 0 rfl (Aa rfl) ?_
  |refine Po (by omega) (fun y hy=>?_)
  |refine Aau (by omega) ‹_› j hj hzj fun b h1 n1 hb P1=>?_
  |(refine new (fun hc hz=>?_) (fun hc hz=>?_)<;>try rewrite [hc])
  |(refine Cu (fun hc hz=>?_) (fun hc hz=>?_)<;>try rewrite [hc])
  |(refine hk _ _ _ ?_ (PI.drop ‹_› 1);simp only[Aav,←hy];rw[if_pos ⟨by assumption,by simp only[Aj]at *;omega⟩])
  |(refine hk _ _ _ ?_ (PI.drop ‹_› 1);simp only[Aav,←hy];rw[if_neg (fun c=>by have:=c.2;simp only[Aj]at *;omega)];exact hb)
  |(refine hk _ _ _ ?_ (PI.drop ‹_› 1);simp only[Aav];rw[if_neg (fun c=>absurd c.1 ‹_›)];exact hb))
theorem Mc (hn:47≤n) (P:PI E h nx s R) {Q:Bool→PS→Prop} {F:Prop} (hW:W (Eu E.l s) Q F False) (hk:∀b h' nx',Q b s→PI E h' nx' s R→k (.b b) h' nx'=true):Ai gg n kp (.fn 215 []) [.p E.pp 0] h nx k=true:=by
 refine Ab hn (by omega) fun m hm=>?_
 have hW:W (D6 (Gg (E.l.getD s.at' z0) [40]) Ej (ret false) E.l s) Q F False:=hW
 cases hs:Gg (E.l.getD s.at' z0) [40]<;>rw[hs]at hW
 all_goals
 repeat' ((conv=>lhs;whnf);first
  |contradiction
  |(refine Ng (by omega) ‹_› 0 (by omega) rfl (x:=[40]) fun h1 n1 P1=>?_;rewrite [show s.at'+0=s.at' from rfl,hs])
  |refine begL_ok (by omega) ‹_› 1 (by omega) rfl fun b h1 n1 hb P1=>?_
  |(refine hk _ _ _ ?_ ‹_›;rw[hb];exact W_bl1 hW)
  |exact hk _ _ _ hW ‹_›)
theorem Kv (hn:47≤n) (P:PI E h nx s R) {Q:Bool→PS→Prop} {F:Prop} (hW:W (Eh E.l s) Q F False) (hk:∀b h' nx',Q b s→PI E h' nx' s R→k (.b b) h' nx'=true):Ai gg n kp (.fn 91 []) [.p E.pp 0] h nx k=true:=by
 refine Ab hn (by omega) fun m hm=>?_
 have hW:=Aay (Ac.1 hW)
 cases hs:Gg (E.l.getD (s.at'+1) z0) [41]<;>rw[hs]at hW
 all_goals
 repeat' ((conv=>lhs;whnf);first
  |contradiction
  |(refine Ng (by omega) ‹_› 1 (by omega) rfl (x:=[41]) fun h1 n1 P1=>?_;rewrite [hs])
  |refine Aau (by omega) ‹_› 1 (by omega) rfl fun b h1 n1 hb P1=>?_
  |(refine hk _ _ _ ?_ ‹_›;rw[hb];exact W_bs1 hW)
  |exact hk _ _ _ hW ‹_›)
theorem Uj (hn:47≤n) (P:PI E h nx s R) {Q:Bool→PS→Prop} {F:Prop} (hW:W (Fg E.l s) Q F False) (hk:∀b h' nx',Q b s→PI E h' nx' s R→k (.b b) h' nx'=true):Ai gg n kp (.fn 144 []) [.p E.pp 0] h nx k=true:=by
 refine Ab hn (by omega) fun m hm=>?_
 have hW:W ((if(E.l.getD s.at' z0).c=2 then Jo [58]else ret false) E.l s) Q F False:=hW
 repeat' ((conv=>lhs;whnf);first
  |contradiction
  |refine I6 (by omega) ‹_› 0 (by omega) rfl fun h1 n1 P1=>?_
  |(refine Ng (by omega) ‹_› 1 (by omega) rfl (x:=[58]) fun h1 n1 P1=>?_)
  |(refine Cu (fun hc hz=>?_) (fun hc hz=>?_)<;>try rewrite [hc])
  |(rw[if_pos ‹_›]at hW;exact hk _ _ _ (Aay hW) ‹_›)
  |(rw[if_neg ‹_›]at hW;exact hk _ _ _ hW ‹_›))
theorem U1 (hn:47≤n) (P:PI E h nx s R) {Q:Bool→PS→Prop} {F:Prop} (hW:W (F7 E.l s) Q F False) (hk:∀b h' nx',Q b s→PI E h' nx' s R→k (.b b) h' nx'=true):Ai gg n kp (.fn 145 []) [.p E.pp 0] h nx k=true:=by
 refine Ab hn (by omega) fun m hm=>?_
 have hW:W (D6 (Of (E.l.getD s.at' z0) [95,83,116,97,116,105,99,95,97,115,115,101,114,116]) (ret true) Iy E.l s) Q F False:=hW
 cases hs:Of (E.l.getD s.at' z0) [95,83,116,97,116,105,99,95,97,115,115,101,114,116]<;>rw[hs]at hW
 all_goals
 repeat' ((conv=>lhs;whnf);first
  |contradiction
  |(refine Yp (by omega) ‹_› (x:=[95,83,116,97,116,105,99,95,97,115,115,101,114,116]) fun h1 n1 P1=>?_;rewrite [hs])
  |refine Aau (by omega) ‹_› 0 (by omega) rfl fun b h1 n1 hb P1=>?_
  |(refine hk _ _ _ ?_ ‹_›;rw[hb];exact hW)
  |exact hk _ _ _ hW ‹_›)
end Go.CE
namespace Go.CE
open Go Go.Ps Go.Proofs.YtacpdfjcepkgcaaGreatDoor
attribute [local irreducible] loopK Ai K0 N2 Dg fits rd rd1 wr newC Kj Fk Fa Ve
theorem hold_4 (a b c d:AV) (ty:Nat):Nb (.cells 4 (wl [a,b,c,d] .e 0) 0 false ty) (.row [a,b,c,d] ty):=Dq [a,b,c,d] ty
variable {E : PEnv} {h : H} {nx : Pos} {s : PS} {R : List Av} {n : Nat} {kp : KP} {k : K}
theorem PI.putDn {C:PC} (hR:PR E C s) {p:Pos} {nd:Nd} {LL:List AV} (hLL:LL=s.done.flatMap Dy++Dy nd)
 (S:Sat h nx ((p,.row LL 132)::(E.pp,.row [E.lsl,iA s.at',.sl p 0 (s.done.length+1) (.u 4),.p E.sc 0,.m C.mp,C.cg,C.bk] 66)::(C.mp,.map (Eb C.now))::(R++(E.EL++(C.EC++(C.EB++E.SE)))))) :
 PI E h nx {s with done:=s.done++[nd]} R:=by
 subst hLL
 refine⟨{C with dn:=.sl p 0 (s.done.length+1) (.u 4),ED:=[(p,.row (s.done.flatMap Dy++Dy nd) 132)]},⟨hR.sc,hR.at',hR.len,hR.tok,?_,hR.cg,hR.bk,hR.nr,hR.sb,hR.ok,hR.nw⟩,?_⟩
 · have hl:(s.done.flatMap Dy++Dy nd).length=(s.done.length+1) * 4:=by rw[Bb,Az Ed,Ed];omega
   have:(s.done++[nd]).flatMap Dy=s.done.flatMap Dy++Dy nd:=by simp
   rw[this]
   exact .row _ _ _ _ (by rw[←hl,List.take_length]) (by omega)
 · exact S.perm pm1.symm
theorem Ca (hn:2≤n) (P:PI E h nx s R) {kd:Nat} {b:Stt} (hkd:kd≤100) {Q:Unit→PS→Prop} {F:Prop} (hW:W (Cl kd b E.l s) Q F False) (hk:∀s' h' nx',Q () s'→PI E h' nx' s' R→k (.tu []) h' nx'=true):Ai gg n kp (.fn 17 []) [.p E.pp 0,iA kd,stA b] h nx k=true:=by
 refine Ab hn (by omega) fun m hm=>?_
 unfold Cl at hW
 have hc:s.done.length<Ps.big∧b.b≤s.done.length:=by
  apply Classical.byContradiction
  intro c
  rw[if_neg c]at hW
  exact hW
 rw[if_pos hc]at hW
 obtain⟨hb1,hb2⟩:=hc
 unfold Ps.big at hb1
 have hat:=P.at
 obtain⟨C,hR,S⟩:=P
 have hat:=hR.at'
 rcases hR.dn.inv with⟨h1,h2,h3⟩|⟨p,n',LL,h1,h2,h3,h4⟩
 · have h0:=Dh Ed (by omega) h2
   have hl:s.done.length=0:=by rw[h0];rfl
   have hb0:b.b=0:=by omega
   have S:Sat h nx ((E.pp,.row [E.lsl,iA s.at',.sl0,.p E.sc 0,.m C.mp,C.cg,C.bk] 66)::(C.mp,.map (Eb C.now))::(R++(E.EL++(C.EC++(C.EB++E.SE))))):=by
    unfold PA at S;rw[h1,h3]at S;exact S
   repeat' ((conv=>lhs;whnf);first
    |contradiction
    |refine Cp ‹_› rfl fun h1 S=>?_
    |refine Ae ‹_› 0 rfl (Aa rfl) ?_
    |refine Ae ‹_› 1 rfl (Aa rfl) ?_
    |refine Ae ‹_› 2 rfl (Aa rfl) ?_
    |refine Bv (by(try simp only[Aj]at *);omega) ?_
    |refine A6 ‹_› (.row _ 132) (hold_4 _ _ _ _ 132) fun h1 S=>?_
    |refine Da ‹_› 0 rfl (Aa rfl) ?_
    |refine G7 ‹_› (Aa rfl) rfl fun h1 S=>?_
    |refine Au ‹_› 3 rfl (Aa rfl) rfl fun h1 S=>?_)
   refine hk _ _ _ hW (PI.putDn (p:=Ad (Ad nx)) hR (LL:=[iA kd,iA b.f,iA s.at',iA (s.done.length-b.b+1)]) (by rw[h0];rfl) ?_)
   have S2:=S.sub (.cons_cons _ (.cons _ (.cons _ (.cons_cons _ (.refl _)))))
   rw[hb0]at S2
   rw[hb0,hl]
   exact S2
 · have hl:s.done.length=n':=El (off:=0) Ed (by omega) (by simpa using h2) (by omega)
   subst hl
   have S:Sat h nx ((p,.row LL 132)::(E.pp,.row [E.lsl,iA s.at',.sl p 0 s.done.length (.u 4),.p E.sc 0,.m C.mp,C.cg,C.bk] 66)::(C.mp,.map (Eb C.now))::(R++(E.EL++(C.EC++(C.EB++E.SE))))):=by
    unfold PA at S;rw[h1,h4]at S;exact S.perm pm1
   repeat' ((conv=>lhs;whnf);first
    |contradiction
    |refine Cp ‹_› rfl fun h1 S=>?_
    |refine Ae ‹_› 0 rfl (Aa rfl) ?_
    |refine Ae ‹_› 1 rfl (Aa rfl) ?_
    |refine Ae ‹_› 2 rfl (Aa rfl) ?_
    |refine Bv (by(try simp only[Aj]at *);omega) ?_
    |refine A6 ‹_› (.row _ 132) (hold_4 _ _ _ _ 132) fun h1 S=>?_
    |refine Da ‹_› 0 rfl (Aa rfl) ?_
    |refine G6 ‹_› 2 rfl h3 rfl (by(try simp only[Aj]at *);omega) rfl fun h1 S=>?_
    |refine Au ‹_› 3 rfl (Aa rfl) rfl fun h1 S=>?_)
   refine hk _ _ _ hW (PI.putDn (p:=Ad (Ad nx)) hR (LL:=LL.take (s.done.length*4)++[iA kd,iA b.f,iA s.at',iA (s.done.length-b.b+1)]) (by rw[h2];rfl) ?_)
   have S2:=S.sub (.cons_cons _ (.cons _ (.cons _ (.cons_cons _ (.refl _)))))
   have e1:iA (s.done.length-b.b+1)=.i .i64 (Int.ofNat s.done.length-Int.ofNat b.b+1):=by
    show AV.i _ _=_
    congr 1
    simp only[Aj];omega
   rw[e1]
   exact S2
end Go.CE
namespace Go.CE
open Go Go.Ps Go.Proofs.YtacpdfjcepkgcaaGreatDoor
attribute [local irreducible] loopK Ai K0 N2 Dg fits rd rd1 wr newC Kj Fk Fa Ve
theorem pm2 {a b e:Av} {R X Y Z:List Av}:(a::b::(R++(X++(Y++([e]++Z))))).Perm (e::a::b::(R++(X++(Y++Z)))):=by
 have:(a::b::(R++(X++(Y++([e]++Z)))))=((a::b::(R++(X++Y)))++e::Z):=by simp
 rw[this]
 refine List.perm_middle.trans ?_
 simp
theorem pm3 {a b e:Av} {R X Y Z U:List Av}:(a::b::(R++(X++(Y++(Z++([e]++U)))))).Perm (e::a::b::(R++(X++(Y++(Z++U))))):=by
 have:(a::b::(R++(X++(Y++(Z++([e]++U))))))=((a::b::(R++(X++(Y++Z))))++e::U):=by simp
 rw[this]
 refine List.perm_middle.trans ?_
 simp
theorem Wu (now:List Nat→Int) (c:Ch):∀cs:List Ch,Lf now (cs++[c])=Lf (I9 now c.n c.was) cs
 |[]=>rfl
 |x::r=>by show I9 (Lf now (r++[c])) x.n x.was=I9 (Lf (I9 now c.n c.was) r) x.n x.was;rw[Wu now c r]
theorem updN_back (now:List Nat→Int) (n:List Nat) (v:Int):I9 (I9 now n v) n (now n)=now:=by
 funext x
 unfold I9
 by_cases h:x=n
 · subst h;simp
 · simp[h]
theorem hold_3 (a b c:AV) (ty:Nat):Nb (.cells 3 (wl [a,b,c] .e 0) 0 false ty) (.row [a,b,c] ty):=Dq [a,b,c] ty
theorem Aab (a:AV) (ty:Nat):Nb (.cells 1 (wl [a] .e 0) 0 false ty) (.row [a] ty):=Dq [a] ty
def kN (b:Bool):Int:=match b with
 |true=>1
 |false=>2
theorem NR_declare {E:PEnv} {now:List Nat→Int} {cg:List Ch} {bk:List Nat} {ty:List Nat→Bool} {dl:List Dc} {st:List ((List Nat→Bool)×List Dc)} (h:NR E now cg bk ty dl st) (d:Dc) :
 NR E (I9 now d.n (kN d.ty)) (cg++[⟨d.n,now d.n,kN d.ty⟩]) bk (fun x=>if x=d.n then d.ty else ty x) (dl++[d]) st:=by
 have hd:Oy ⟨d.n,now d.n,kN d.ty⟩=d:=by obtain⟨n,t⟩:=d;cases t<;>rfl
 have ht:(∀x,R6 E now x=ty x)→∀x,R6 E (I9 now d.n (kN d.ty)) x=if x=d.n then d.ty else ty x:=fun H x=>by
  unfold R6 I9
  by_cases hx:x=d.n
  · rw[if_pos hx,if_pos hx]
    cases d.ty<;>rfl
  · rw[if_neg hx,if_neg hx]
    exact H x
 cases st with
 |nil=>
  obtain⟨h1,h2,h3⟩:=h
  refine⟨h1,?_,ht h3⟩
  rw[h2,Eo,D5,hd];simp
 |cons a r=>
  obtain⟨ty',dl'⟩:=a
  obtain⟨b,k,h1,h2,h3,h4,h5⟩:=h
  refine⟨b,k,h1,by rw[Bb];omega,?_,ht h4,?_⟩
  · rw[List.drop_append_of_le_length h2,Eo,h3,D5,hd];rfl
  · rw[List.drop_append_of_le_length h2,List.take_append_of_le_length h2,Wu,updN_back]
    exact h5
theorem Aa1 {E:PEnv}:∀ {st:List ((List Nat→Bool)×List Dc)} {now:List Nat→Int} {cg:List Ch} {bk:List Nat} {ty:List Nat→Bool} {dl:List Dc},NR E now cg bk ty dl st→cg.length≤dl.length+(st.map (·.2.length)).sum
 |[],now,cg,bk,ty,dl,h=>by
  obtain⟨h1,h2,h3⟩:=h
  rw[h2];simp
 |(ty',dl')::r,now,cg,bk,ty,dl,h=>by
  obtain⟨b,k,h1,h2,h3,h4,h5⟩:=h
  have:=Aa1 h5
  have e:=congrArg List.length h3
  simp only[Ct,Ax,Ci,D5,List.sum_cons]at *
  omega
theorem K5 (now:List Nat→Int) (n:List Nat) (v:Int) (hv:v≠0):(fun x=>if x=n then some (AV.i .i64 v)else Eb now x)=Eb (I9 now n v):=by
 funext x
 unfold Eb I9
 by_cases h:x=n
 · rw[if_pos h,if_pos h,if_neg hv]
 · rw[if_neg h,if_neg h]
theorem mapOf_del (now:List Nat→Int) (n:List Nat):(fun x=>if x=n then none else Eb now x)=Eb (I9 now n 0):=by
 funext x
 unfold Eb I9
 by_cases h:x=n
 · rw[if_pos h,if_pos h,if_pos rfl]
 · rw[if_neg h,if_neg h]
theorem Nj {h:H} {nx:Pos} {A:List Av} (S:Sat h nx A) (i:Nat) {p:Pos} {now:List Nat→Int} {kl:List Nat} {kk:AV→Bool} {z:AV} (hi:A[i]?=some (p,.map (Eb now))) (hz:z=.i .i64 0) (hk:kk (.i .i64 (now kl))=true) :
 Fk h p (fun o=>match o with
  |.map es _=>Gx kl es 0 (fun _ v=>Lq false kk v true) (Lq false kk z false)
  |_=>false)=true:=by
 refine Mg S i hi (fun v j hv=>?_) (fun hv=>?_)
 · unfold Eb at hv
   split at hv
   · cases hv
   · cases hv;exact hk
 · unfold Eb at hv
   split at hv
   · rename_i h0;subst hz;rw[h0]at hk;exact hk
   · cases hv
variable {E : PEnv} {h : H} {nx : Pos} {s : PS} {R : List Av} {n : Nat} {kp : KP} {k : K}
theorem PI.putCg {C:PC} (hR:PR E C s) (hto:tot s<Ps.big) {p:Pos} {d:Dc} {LL:List AV} (hLL:LL=C.CL.flatMap Ji++Ji ⟨d.n,C.now d.n,kN d.ty⟩)
 (S:Sat h nx ((p,.row LL 202)::(E.pp,.row [E.lsl,iA s.at',C.dn,.p E.sc 0,.m C.mp,.sl p 0 (C.CL.length+1) (.u 3),C.bk] 66)::(C.mp,.map (Eb (I9 C.now d.n (kN d.ty))))::(R++(E.EL++(C.ED++(C.EB++E.SE)))))) :
 PI E h nx {s with ty:=fun x=>if x=d.n then d.ty else s.ty x,dl:=s.dl++[d]} R:=by
 subst hLL
 have hk:kN d.ty=1∨kN d.ty=2:=by cases d.ty<;>simp[kN]
 refine⟨{C with cg:=.sl p 0 (C.CL.length+1) (.u 3),now:=I9 C.now d.n (kN d.ty),CL:=C.CL++[⟨d.n,C.now d.n,kN d.ty⟩],EC:=[(p,.row (C.CL.flatMap Ji++Ji ⟨d.n,C.now d.n,kN d.ty⟩) 202)]},
  ⟨hR.sc,hR.at',hR.len,hR.tok,hR.dn,?_,hR.bk,NR_declare hR.nr d,⟨hR.sb.1,by unfold tot at hto ⊢;simp only[Bb,Cq,Dv];omega⟩,fun c hc=>?_,fun x=>?_⟩,?_⟩
 · have hl:(C.CL.flatMap Ji++Ji ⟨d.n,C.now d.n,kN d.ty⟩).length=(C.CL.length+1) * 3:=by rw[Bb,Az Dk,Dk];omega
   have:(C.CL++[(⟨d.n,C.now d.n,kN d.ty⟩:Ch)]).flatMap Ji=C.CL.flatMap Ji++Ji ⟨d.n,C.now d.n,kN d.ty⟩:=by simp
   show GrA 3 202 _ ((C.CL++[(⟨d.n,C.now d.n,kN d.ty⟩:Ch)]).flatMap Ji) _
   rw[this]
   exact .row _ _ _ _ (by rw[←hl,List.take_length]) (by omega)
 · rcases D9.1 hc with hc|hc
   · exact hR.ok c hc
   · rw[Co.1 hc];exact⟨hR.nw d.n,hk⟩
 · show I9 C.now d.n (kN d.ty) x=0∨I9 C.now d.n (kN d.ty) x=1∨I9 C.now d.n (kN d.ty) x=2
   unfold I9
   split
   · omega
   · exact hR.nw x
 · exact S.perm pm2.symm
theorem J0 (hn:2≤n) (P:PI E h nx s R) {d:Dc} {Q:Unit→PS→Prop} {F:Prop} (hW:W (Fu d E.l s) Q F False) (hk:∀s' h' nx',Q () s'→PI E h' nx' s' R→k (.tu []) h' nx'=true):Ai gg n kp (.fn 41 []) [.p E.pp 3,.ag [.s d.n,.b d.ty]] h nx k=true:=by
 refine Ab hn (by omega) fun m hm=>?_
 unfold Fu at hW
 by_cases hd:d.n=[]
 · rw[if_pos hd]at hW
   repeat' ((conv=>lhs;whnf);first
    |contradiction
    |refine Bl ‹_› rfl fun h1 P1=>?_
    |refine Af ‹_› 0 rfl (Aa rfl) ?_
    |(refine Gq (fun hc hz=>?_) (fun hc hz=>?_)<;>first|exact absurd hd hz|try rewrite [hc])
    |exact hk _ _ _ hW (PI.drop ‹_› 1))
 · rw[if_neg hd]at hW
   have hc:tot s<Ps.big:=by
    apply Classical.byContradiction
    intro c
    rw[if_neg c]at hW
    exact hW
   rw[if_pos hc]at hW
   have hto:=hc
   obtain⟨C,hR,S⟩:=P
   have hb:C.CL.length<10000000:=Nat.lt_of_le_of_lt (Aa1 hR.nr) hc
   have hnw:=hR.nw d.n
   have hlen:=Az Dk C.CL
   rcases hR.cg.inv with⟨h1,h2,h3⟩|⟨p,n',LL,h1,h2,h3,h4⟩
   · have h0:=Dh Dk (by omega) h2
     have S:Sat h nx ((E.pp,.row [E.lsl,iA s.at',C.dn,.p E.sc 0,.m C.mp,.sl0,C.bk] 66)::(C.mp,.map (Eb C.now))::(R++(E.EL++(C.ED++(C.EB++E.SE))))):=by
      unfold PA at S;rw[h1,h3]at S;exact S
     obtain⟨dn,dt⟩:=d
     cases dt
     repeat' ((conv=>lhs;whnf);first
      |contradiction
      |refine Cp ‹_› rfl fun h1 S=>?_
      |refine Ae ‹_› 0 rfl (Aa rfl) ?_
      |refine Ae ‹_› 1 rfl (Aa rfl) ?_
      |refine Ae ‹_› 2 rfl (Aa rfl) ?_
      |refine Ae ‹_› 3 rfl (Aa rfl) ?_
      |refine Nj ‹_› 2 rfl rfl ?_
      |refine Nj ‹_› 3 rfl rfl ?_
      |refine A6 ‹_› (.row _ 202) (hold_3 _ _ _ 202) fun h1 S=>?_
      |refine Da ‹_› 0 rfl (Aa rfl) ?_
      |refine G7 ‹_› (Aa rfl) rfl fun h1 S=>?_
      |refine Au ‹_› 3 rfl (Aa rfl) rfl fun h1 S=>?_
      |refine Pr ‹_› 4 rfl fun h1 S=>?_
      |(refine Gq (fun hc hz=>?_) (fun hc hz=>?_)<;>first|exact absurd hz hd|try rewrite [hc]))
     · have S2:Sat h1 _ (_::_::(C.mp,.map fun x=>if x=dn then some (.i .i64 2)else Eb C.now x)::(R++(E.EL++(C.ED++(C.EB++E.SE))))):=S.sub (.cons_cons _ (.cons _ (.cons _ (.cons_cons _ (.cons_cons _ (.refl _))))))
       rw[K5 C.now dn 2 (by decide)]at S2
       refine hk _ _ _ hW (PI.putCg hR hto (p:=Ad (Ad nx)) (d:=⟨dn,false⟩) (LL:=[.s dn,.i .i64 (C.now dn),.i .i64 2]) (by rw[h0];rfl) ?_)
       rw[h0]
       exact S2
     · have S2:Sat h1 _ (_::_::(C.mp,.map fun x=>if x=dn then some (.i .i64 1)else Eb C.now x)::(R++(E.EL++(C.ED++(C.EB++E.SE))))):=S.sub (.cons_cons _ (.cons _ (.cons _ (.cons_cons _ (.cons_cons _ (.refl _))))))
       rw[K5 C.now dn 1 (by decide)]at S2
       refine hk _ _ _ hW (PI.putCg hR hto (p:=Ad (Ad nx)) (d:=⟨dn,true⟩) (LL:=[.s dn,.i .i64 (C.now dn),.i .i64 1]) (by rw[h0];rfl) ?_)
       rw[h0]
       exact S2
   · have hl:C.CL.length=n':=El (off:=0) Dk (by omega) (by simpa using h2) (by omega)
     subst hl
     have S:Sat h nx ((p,.row LL 202)::(E.pp,.row [E.lsl,iA s.at',C.dn,.p E.sc 0,.m C.mp,.sl p 0 C.CL.length (.u 3),C.bk] 66)::(C.mp,.map (Eb C.now))::(R++(E.EL++(C.ED++(C.EB++E.SE))))):=by
      unfold PA at S;rw[h1,h4]at S;exact S.perm pm2
     obtain⟨dn,dt⟩:=d
     cases dt
     repeat' ((conv=>lhs;whnf);first
      |contradiction
      |refine Cp ‹_› rfl fun h1 S=>?_
      |refine Ae ‹_› 0 rfl (Aa rfl) ?_
      |refine Ae ‹_› 1 rfl (Aa rfl) ?_
      |refine Ae ‹_› 2 rfl (Aa rfl) ?_
      |refine Ae ‹_› 3 rfl (Aa rfl) ?_
      |refine Nj ‹_› 2 rfl rfl ?_
      |refine Nj ‹_› 3 rfl rfl ?_
      |refine A6 ‹_› (.row _ 202) (hold_3 _ _ _ 202) fun h1 S=>?_
      |refine Da ‹_› 0 rfl (Aa rfl) ?_
      |refine G6 ‹_› 2 rfl h3 rfl (by(try simp only[Aj]at *);omega) rfl fun h1 S=>?_
      |refine Au ‹_› 3 rfl (Aa rfl) rfl fun h1 S=>?_
      |refine Pr ‹_› 4 rfl fun h1 S=>?_
      |(refine Gq (fun hc hz=>?_) (fun hc hz=>?_)<;>first|exact absurd hz hd|try rewrite [hc]))
     · have S2:Sat h1 _ (_::_::(C.mp,.map fun x=>if x=dn then some (.i .i64 2)else Eb C.now x)::(R++(E.EL++(C.ED++(C.EB++E.SE))))):=S.sub (.cons_cons _ (.cons _ (.cons _ (.cons_cons _ (.cons_cons _ (.refl _))))))
       rw[K5 C.now dn 2 (by decide)]at S2
       refine hk _ _ _ hW (PI.putCg hR hto (p:=Ad (Ad nx)) (d:=⟨dn,false⟩) (LL:=LL.take (C.CL.length*3)++[.s dn,.i .i64 (C.now dn),.i .i64 2]) (by rw[h2];rfl) ?_)
       exact S2
     · have S2:Sat h1 _ (_::_::(C.mp,.map fun x=>if x=dn then some (.i .i64 1)else Eb C.now x)::(R++(E.EL++(C.ED++(C.EB++E.SE))))):=S.sub (.cons_cons _ (.cons _ (.cons _ (.cons_cons _ (.cons_cons _ (.refl _))))))
       rw[K5 C.now dn 1 (by decide)]at S2
       refine hk _ _ _ hW (PI.putCg hR hto (p:=Ad (Ad nx)) (d:=⟨dn,true⟩) (LL:=LL.take (C.CL.length*3)++[.s dn,.i .i64 (C.now dn),.i .i64 1]) (by rw[h2];rfl) ?_)
       exact S2
end Go.CE
