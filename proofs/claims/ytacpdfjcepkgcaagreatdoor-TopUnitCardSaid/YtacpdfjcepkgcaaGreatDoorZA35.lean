/- Part 35 of the lemmas behind the claim. -/
import Derived.Test.YtacpdfjcepkgcaaGreatDoorZA01
import Derived.Test.YtacpdfjcepkgcaaGreatDoorZA34
set_option linter.unusedSimpArgs false
set_option linter.unusedVariables false
set_option linter.constructorNameAsVariable false
set_option linter.unusedSectionVars false
set_option linter.defProp false
set_option maxRecDepth 100000
set_option maxHeartbeats 40000000
namespace Go.CE
open Go Go.Proofs.YtacpdfjcepkgcaaGreatDoor
attribute [local irreducible] loopK Ai K0 N2 Dg fits rd rd1 wr newC Kj Fk Fa Ve
def Mx (s:List Nat):Bool:=decide (s=[]∨s=[108]∨s=[108,108]∨s=[76]∨s=[76,76])
def sfxE (s:List Nat):Bool×Bool:=
 if(0:Int)<s.length∧(((s.getD ((0:Int)).toNat 0:Nat):Int)=117∨((s.getD ((0:Int)).toNat 0:Nat):Int)=85)then(Mx (s.drop 1),Mx (s.drop 1))
 else if(0:Int)<s.length∧(((s.getD (s.length-(1:Int)).toNat 0:Nat):Int)=117∨((s.getD (s.length-(1:Int)).toNat 0:Nat):Int)=85)then(Mx (s.take (s.length-1)),Mx (s.take (s.length-1)))
 else(false,Mx s)
theorem Dm {s:List Nat} (h:s=[]∨s=[108]∨s=[108,108]∨s=[76]∨s=[76,76]):Mx s=true:=decide_eq_true h
theorem Rc {s:List Nat} (h1:s≠[]) (h2:s≠[108]) (h3:s≠[108,108]) (h4:s≠[76]) (h5:s≠[76,76]):Mx s=false:=decide_eq_false (by simp[h1,h2,h3,h4,h5])
theorem ptS {s:List Nat} (h:Mx s=true):(true,true)=(Mx s,Mx s):=by rw[h]
theorem pfS {s:List Nat} (h:Mx s=false):(false,false)=(Mx s,Mx s):=by rw[h]
theorem Om {s:List Nat} (h:Mx s=true):(false,true)=(false,Mx s):=by rw[h]
theorem pfS3 {s:List Nat} (h:Mx s=false):(false,false)=(false,Mx s):=by rw[h]
theorem Uq {l:List Nat}:List.take ((Int.ofNat l.length-1).toNat.sub 0) (l.drop 0)=l.take (l.length-1):=by
 rw[List.drop_zero];congr 1;show(Int.ofNat l.length-1).toNat-0=_;simp only[Aj];omega
theorem Qn {n:Nat} (hn:2≤n) {l:List Nat} (hs:l.length≤100000) {kp:KP} {h:H} {nx:Pos} {k:K} (hk:∀u b,(u,b)=sfxE l→k (.tu [.b u,.b b]) h nx=true):Ai gg n kp (.fn 72 []) [.s l] h nx k=true:=by
 refine Ab hn (by omega) fun m hm=>?_
 generalize hR:sfxE l=R at hk
 unfold sfxE at hR
 by_cases h1:(0:Int)<l.length∧(((l.getD ((0:Int)).toNat 0:Nat):Int)=117∨((l.getD ((0:Int)).toNat 0:Nat):Int)=85)
 · rw[if_pos h1]at hR
   subst hR
   repeat' ((conv=>lhs;whnf);first
    |omega
    |refine Cb (y:=false) (by(try simp only[Aj]at *);omega) ?_
    |refine Cw (x:=false) (by(try simp only[Aj]at *);omega) ?_
    |refine Bq (y:=false) (by(try simp only[Aj]at *);omega) ?_
    |refine Bv (by(try simp only[Aj]at *);omega) ?_
    |(refine hk _ _ ?_;first|exact ptS (Dm (.inl hz))|exact ptS (Dm (.inr (.inl hz)))|exact ptS (Dm (.inr (.inr (.inl hz))))|exact ptS (Dm (.inr (.inr (.inr (.inl hz)))))|exact ptS (Dm (.inr (.inr (.inr (.inr hz)))))|exact pfS (Rc ‹_› ‹_› ‹_› ‹_› ‹_›)|exact Om (Dm (.inl hz))|exact Om (Dm (.inr (.inl hz)))|exact Om (Dm (.inr (.inr (.inl hz))))|exact Om (Dm (.inr (.inr (.inr (.inl hz)))))|exact Om (Dm (.inr (.inr (.inr (.inr hz)))))|exact pfS3 (Rc ‹_› ‹_› ‹_› ‹_› ‹_›))
    |(refine C4 (fun hc hz=>?_) (fun hc hz=>?_)<;>(try simp only[Aj]at hz)<;>try rewrite [hc])
    |(refine Cu (fun hc hz=>?_) (fun hc hz=>?_)<;>(try simp only[Aj]at hz)<;>try rewrite [hc])
    |(refine Gq (fun hc hz=>?_) (fun hc hz=>?_)<;>(try rw[Df]at hz)<;>(try rw[Uq]at hz)<;>try rewrite [hc]))
 · rw[if_neg h1]at hR
   by_cases h2:(0:Int)<l.length∧(((l.getD (l.length-(1:Int)).toNat 0:Nat):Int)=117∨((l.getD (l.length-(1:Int)).toNat 0:Nat):Int)=85)
   · rw[if_pos h2]at hR
     subst hR
     repeat' ((conv=>lhs;whnf);first
      |omega
      |refine Cb (y:=false) (by(try simp only[Aj]at *);omega) ?_
      |refine Cw (x:=false) (by(try simp only[Aj]at *);omega) ?_
      |refine Bq (y:=false) (by(try simp only[Aj]at *);omega) ?_
      |refine Bv (by(try simp only[Aj]at *);omega) ?_
      |(refine hk _ _ ?_;first|exact ptS (Dm (.inl hz))|exact ptS (Dm (.inr (.inl hz)))|exact ptS (Dm (.inr (.inr (.inl hz))))|exact ptS (Dm (.inr (.inr (.inr (.inl hz)))))|exact ptS (Dm (.inr (.inr (.inr (.inr hz)))))|exact pfS (Rc ‹_› ‹_› ‹_› ‹_› ‹_›)|exact Om (Dm (.inl hz))|exact Om (Dm (.inr (.inl hz)))|exact Om (Dm (.inr (.inr (.inl hz))))|exact Om (Dm (.inr (.inr (.inr (.inl hz)))))|exact Om (Dm (.inr (.inr (.inr (.inr hz)))))|exact pfS3 (Rc ‹_› ‹_› ‹_› ‹_› ‹_›))
      |(refine C4 (fun hc hz=>?_) (fun hc hz=>?_)<;>(try simp only[Aj]at hz)<;>try rewrite [hc])
      |(refine Cu (fun hc hz=>?_) (fun hc hz=>?_)<;>(try simp only[Aj]at hz)<;>try rewrite [hc])
      |(refine Gq (fun hc hz=>?_) (fun hc hz=>?_)<;>(try rw[Df]at hz)<;>(try rw[Uq]at hz)<;>try rewrite [hc]))
   · rw[if_neg h2]at hR
     subst hR
     repeat' ((conv=>lhs;whnf);first
      |omega
      |refine Cb (y:=false) (by(try simp only[Aj]at *);omega) ?_
      |refine Cw (x:=false) (by(try simp only[Aj]at *);omega) ?_
      |refine Bq (y:=false) (by(try simp only[Aj]at *);omega) ?_
      |refine Bv (by(try simp only[Aj]at *);omega) ?_
      |(refine hk _ _ ?_;first|exact ptS (Dm (.inl hz))|exact ptS (Dm (.inr (.inl hz)))|exact ptS (Dm (.inr (.inr (.inl hz))))|exact ptS (Dm (.inr (.inr (.inr (.inl hz)))))|exact ptS (Dm (.inr (.inr (.inr (.inr hz)))))|exact pfS (Rc ‹_› ‹_› ‹_› ‹_› ‹_›)|exact Om (Dm (.inl hz))|exact Om (Dm (.inr (.inl hz)))|exact Om (Dm (.inr (.inr (.inl hz))))|exact Om (Dm (.inr (.inr (.inr (.inl hz)))))|exact Om (Dm (.inr (.inr (.inr (.inr hz)))))|exact pfS3 (Rc ‹_› ‹_› ‹_› ‹_› ‹_›))
      |(refine C4 (fun hc hz=>?_) (fun hc hz=>?_)<;>(try simp only[Aj]at hz)<;>try rewrite [hc])
      |(refine Cu (fun hc hz=>?_) (fun hc hz=>?_)<;>(try simp only[Aj]at hz)<;>try rewrite [hc])
      |(refine Gq (fun hc hz=>?_) (fun hc hz=>?_)<;>(try rw[Df]at hz)<;>(try rw[Uq]at hz)<;>try rewrite [hc]))
theorem Ef {l:List Nat} (h:∀x∈l,x≤255) (n:Nat):∀x∈l.drop n,x≤255:=fun x hx=>h x (List.mem_of_mem_drop hx)
theorem Lg {l:List Nat} (h:∀x∈l,x≤255) (n:Nat):∀x∈l.take n,x≤255:=fun x hx=>h x (List.mem_of_mem_take hx)
def expS (s:List Nat):Int:=if(1:Int)<s.length∧(((s.getD ((1:Int)).toNat 0:Nat):Int)=43∨((s.getD ((1:Int)).toNat 0:Nat):Int)=45)then 2 else 1
def expE (s:List Nat) (mark:Int):Int×Bool:=if s=[]then(0,true)else if Int.ofNat (Nat.lor (s.getD (Int.toNat 0) 0) 32)≠mark then(0,true)else(expS s+Dr (s.drop (expS s).toNat) 10,decide (0<Dr (s.drop (expS s).toNat) 10))
theorem exp_fin {a b r:Int} (h:a=b):(a+r,fB (K0 r 0) false true)=(b+r,decide (0<r)):=by
 subst h
 congr 1
 rw[Pb]
 by_cases h:r≤0
 · rw[decide_eq_true h,decide_eq_false (by omega)];rfl
 · rw[decide_eq_false h,decide_eq_true (by omega)];rfl
theorem exponent_eq {n:Nat} (hn:2000040≤n) {l:List Nat} (hs:l.length≤100000) (hl:∀x∈l,x≤255) {mark:Int} {A:List Av} {kp:KP} {h:H} {nx:Pos} (S:Sat h nx A) {k:K}
 (hk:∀(r:Int) b h' nx',Sat h' nx' A→(r,b)=expE l mark→0≤r∧r≤l.length→k (.tu [.i .i64 r,.b b]) h' nx'=true):Ai gg n kp (.fn 73 []) [.s l,.i .u8 mark] h nx k=true:=by
 refine Ab hn (by omega) fun m hm=>?_
 generalize hR:expE l mark=R at hk
 unfold expE at hR
 have hby:=Va hl 0
 have hnn:l≠[]→(1:Int)≤l.length:=fun h=>by
  have:l.length≠0:=fun e=>h (O4 e)
  omega
 have hE1:(1:Int)<l.length∧(((l.getD ((1:Int)).toNat 0:Nat):Int)=43∨((l.getD ((1:Int)).toNat 0:Nat):Int)=45)→expS l=2:=fun h=>if_pos h
 have hE2:¬((1:Int)<l.length∧(((l.getD ((1:Int)).toNat 0:Nat):Int)=43∨((l.getD ((1:Int)).toNat 0:Nat):Int)=45))→expS l=1:=fun h=>if_neg h
 repeat' ((conv=>lhs;whnf);first
  |exact hk _ _ _ _ ‹_› ((if_pos ‹_›).symm.trans hR) (by omega)
  |exact hk _ _ _ _ ‹_› (((if_neg ‹_›).trans (if_pos ‹_›)).symm.trans hR) (by omega)
  |(refine Gq (fun hc hz=>?_) (fun hc hz=>?_)<;>(try have hln:=hnn hz)<;>try rewrite [hc])
  |refine Cb (y:=false) (by(try simp only[Aj]at *);omega) ?_
  |refine Cw (x:=false) (by(try simp only[Aj]at *);omega) ?_
  |refine Bq (y:=false) (by(try simp only[Aj]at *);omega) ?_
  |refine Bq (y:=false) (show _≤255 by omega) ?_
  |refine Bv (by(try simp only[Aj]at *);omega) ?_
  |(refine new (fun hc hz=>?_) (fun hc hz=>?_)<;>(try have hor:=hz)<;>try rewrite [hc])
  |(refine C4 (fun hc hz=>?_) (fun hc hz=>?_)<;>(try simp only[Aj]at hz)<;>try rewrite [hc])
  |(refine Cu (fun hc hz=>?_) (fun hc hz=>?_)<;>(try simp only[Aj]at hz)<;>try rewrite [hc])
  |(refine Za (by omega) (by simp;omega) (Lg (Ef hl _) _) ‹_› (fun r h' nx' S hr hrb=>?_);rw[Df]at hr hrb;rw[Ax]at hrb)
  |(have hS:=hE1 (by omega);rw[hS]at hR;subst hr;exact hk _ _ _ _ ‹_› (Eq.trans (exp_fin rfl) (((if_neg ‹_›).trans (if_neg (fun hh=>hh ‹_›))).symm.trans hR)) (by omega))
  |(have hS:=hE2 (by omega);rw[hS]at hR;subst hr;exact hk _ _ _ _ ‹_› (Eq.trans (exp_fin rfl) (((if_neg ‹_›).trans (if_neg (fun hh=>hh ‹_›))).symm.trans hR)) (by omega)))
def endF (s:List Nat):Bool:=decide (s=[]∨s=[102]∨s=[70]∨s=[108]∨s=[76])
theorem Uw {s:List Nat} (h:s=[]∨s=[102]∨s=[70]∨s=[108]∨s=[76]):true=endF s:=(decide_eq_true h).symm
theorem endF_f {s:List Nat} (h1:s≠[]) (h2:s≠[102]) (h3:s≠[70]) (h4:s≠[108]) (h5:s≠[76]):false=endF s:=(decide_eq_false (by simp[h1,h2,h3,h4,h5])).symm
def Aae (base:Int) (pt:Bool) (c:Int) (r2:List Nat) (mark:Int):Bool:=if c=0 then false else if(expE r2 mark).2=false∨(expE r2 mark).1=0∧(base=16∨pt=false)then false else endF (r2.drop (expE r2 mark).1.toNat)
def floR (base mark:Int) (r0:List Nat):Bool:=
 if r0.drop (Dr r0 base).toNat≠[]∧(((r0.drop (Dr r0 base).toNat).getD ((0:Int)).toNat 0:Nat):Int)=46 then
  Aae base true (Dr r0 base+Dr ((r0.drop (Dr r0 base).toNat).drop 1) base) ((r0.drop (Dr r0 base).toNat).drop (1+Dr ((r0.drop (Dr r0 base).toNat).drop 1) base).toNat) mark
 else Aae base false (Dr r0 base) (r0.drop (Dr r0 base).toNat) mark
def floB (t:List Nat):Bool:=if hexB t=true then floR 16 112 (t.drop 2)else floR 10 101 t
theorem floR_p {base mark:Int} {r0:List Nat} {R:Bool} (h:floR base mark r0=R) (h1:r0.drop (Dr r0 base).toNat≠[]) (h2:(((r0.drop (Dr r0 base).toNat).getD ((0:Int)).toNat 0:Nat):Int)=46):Aae base true (Dr r0 base+Dr ((r0.drop (Dr r0 base).toNat).drop 1) base) ((r0.drop (Dr r0 base).toNat).drop (1+Dr ((r0.drop (Dr r0 base).toNat).drop 1) base).toNat) mark=R:=(if_pos ⟨h1,h2⟩).symm.trans h
theorem floR_n {base mark:Int} {r0:List Nat} {R:Bool} (h:floR base mark r0=R) (h1:r0.drop (Dr r0 base).toNat=[]∨(((r0.drop (Dr r0 base).toNat).getD ((0:Int)).toNat 0:Nat):Int)≠46):Aae base false (Dr r0 base) (r0.drop (Dr r0 base).toNat) mark=R:=(if_neg (fun c=>h1.elim c.1 fun h=>h c.2)).symm.trans h
theorem hexB_len {t:List Nat} (h:hexB t=true):(2:Int)≤t.length:=(of_decide_eq_true h).1
theorem floC_0 {base c mark:Int} {pt R:Bool} {r2:List Nat} (h:Aae base pt c r2 mark=R) (hc:c=0):false=R:=(if_pos hc).symm.trans h
theorem floC_x {base c mark sz:Int} {pt R ok:Bool} {r2:List Nat} (h:Aae base pt c r2 mark=R) (hc:c≠0) (he:(sz,ok)=expE r2 mark) (hx:ok=false∨sz=0∧(base=16∨pt=false)):false=R:=by
 unfold Aae at h;rw[if_neg hc,←he,if_pos hx]at h;exact h
theorem floC_e {base c mark sz:Int} {pt R ok:Bool} {r2:List Nat} (h:Aae base pt c r2 mark=R) (hc:c≠0) (he:(sz,ok)=expE r2 mark) (h1:ok=true) (hx:sz=0→¬base=16∧pt=true):endF (r2.drop sz.toNat)=R:=by
 unfold Aae at h;rw[if_neg hc,←he,if_neg (fun c=>by
  rcases c with c|⟨c1,c2⟩
  · have c:ok=false:=c
    rw[h1]at c;cases c
  · obtain⟨d1,d2⟩:=hx c1
    rcases c2 with c2|c2
    · exact d1 c2
    · rw[d2]at c2;cases c2)]at h;exact h
theorem flo_split {b R:Bool} {l:List Nat} (hb:b=hexB l) (hR:floB l=R):b=false∧floR 10 101 l=R∨b=true∧floR 16 112 (l.drop (Int.toNat 2))=R∧(2:Int)≤l.length:=by
 cases b
 · exact .inl ⟨rfl,(if_neg (bf hb)).symm.trans hR⟩
 · exact .inr ⟨rfl,(if_pos hb.symm).symm.trans hR,hexB_len hb.symm⟩
theorem Qy {l:List Nat} (h:l≠[]):(1:Int)≤l.length:=by
 have:l.length≠0:=fun e=>h (O4 e)
 omega
theorem float_eq {n:Nat} (hn:2000050≤n) {l:List Nat} (hs:l.length≤100000) (hl:∀x∈l,x≤255) {A:List Av} {kp:KP} {h:H} {nx:Pos} (S:Sat h nx A) {k:K}
 (hk:∀b h' nx',Sat h' nx' A→b=floB l→k (.b b) h' nx'=true):Ai gg n kp (.fn 32 []) [.s l] h nx k=true:=by
 refine Ab hn (by omega) fun m hm=>?_
 generalize hR:floB l=R at hk
 repeat' ((conv=>lhs;whnf);first
  |rw[Df]
  |exact absurd hz (by decide)
  |(refine hexed_eq (by omega) (fun b hb=>?_);rcases flo_split hb hR with⟨rfl,hR1⟩|⟨rfl,hR1,hx2⟩)
  |exact hk _ _ _ ‹_› (floC_0 hR2 ‹_›)
  |exact hk _ _ _ ‹_› (floC_x hR2 ‹_› he (.inl rfl))
  |exact hk _ _ _ ‹_› (floC_x hR2 ‹_› he (.inr ⟨by assumption,.inl rfl⟩))
  |exact hk _ _ _ ‹_› (floC_x hR2 ‹_› he (.inr ⟨by assumption,.inr rfl⟩))
  |(refine hk _ _ _ ‹_› (Eq.trans ?_ (floC_e hR2 ‹_› he rfl ?_))
    · first|exact Uw (.inl ‹_›)|exact Uw (.inr (.inl hz))|exact Uw (.inr (.inr (.inl hz)))|exact Uw (.inr (.inr (.inr (.inl hz))))|exact Uw (.inr (.inr (.inr (.inr hz))))|exact endF_f ‹_› ‹_› ‹_› ‹_› ‹_›
    · first|exact fun hh=>absurd hh ‹_›|exact fun _=>⟨by decide,rfl⟩)
  |refine Cb (y:=false) (by(try simp only[Aj,Ax]at *);omega) ?_
  |refine Cw (x:=false) (by(try simp only[Aj,Ax]at *);omega) ?_
  |refine Bq (y:=false) (by(try simp only[Aj,Ax]at *);omega) ?_
  |refine Bv (by(try simp only[Aj,Ax]at *);omega) ?_
  |(refine Za (by omega) (by(try simp only[Aj,Ax]at *);omega) (by first|assumption|exact Ef hl _|exact Ef (Ef hl _) _|exact Ef (Ef (Ef hl _) _) _) ‹_› (fun r h' nx' S hr hrb=>?_);(try simp only[Ax]at hrb);subst hr)
  |(refine exponent_eq (by omega) (by(try simp only[Aj,Ax]at *);omega) (by first|exact Ef hl _|exact Ef (Ef hl _) _|exact Ef (Ef (Ef hl _) _) _) ‹_› (fun sz ok h' nx' S he heb=>?_);(try simp only[Ax]at heb);cases ok)
  |(refine Gq (fun hc hz=>?_) (fun hc hz=>?_)<;>(try (have hln:=Qy hz;simp only[Ax]at hln))<;>(try (have hR2:=floR_n hR1 (.inl hz)))<;>try rewrite [hc])
  |(refine Cu (fun hc hz=>?_) (fun hc hz=>?_)<;>(try simp only[Aj]at hz)<;>(first|have hR2:=floR_n hR1 (.inr hz)|have hR2:=floR_p hR1 ‹_› hz|skip)<;>try rewrite [hc]))
 all_goals skip
attribute [local irreducible] P9 R1
theorem fitU64 {z:Int} (h:0≤z∧z≤18446744073709551615):fits .u64 z=true:=by
 rw[Nu]
 cases z with
 |ofNat n=>exact Kc (by show n≤18446744073709551615;have:=h.2;simp at this;omega)
 |negSucc n=>omega
theorem Ya {z:Int} {x y:Bool} (h:0≤z∧z≤18446744073709551615) (hx:x=true):fB (fits .u64 z) x y=true:=by rw[fitU64 h];exact hx
theorem mul_eq {n:Nat} (hn:2≤n) {a b:Nat} (ha:a≤18446744073709551615) (hb:b≤18446744073709551615) {kp:KP} {h:H} {nx:Pos} {k:K} (hk:k (.tu [.i .u64 (.ofNat (P9 a b)),.i .u64 (.ofNat (R1 a b))]) h nx=true):Ai gg n kp (.fn 70 []) [.i .u64 (.ofNat a),.i .u64 (.ofNat b)] h nx k=true:=by
 refine Ab hn (by omega) fun m hm=>?_
 conv=>lhs;whnf
 exact Bq ha (Bq hb hk)
theorem add_eq {n:Nat} (hn:2≤n) {a b:Nat} {kp:KP} {h:H} {nx:Pos} {k:K} (hk:k (.tu [.i .u64 (.ofNat ((a+b+0)%18446744073709551616)),.i .u64 (.ofNat ((a+b+0) / 18446744073709551616))]) h nx=true):Ai gg n kp (.fn 71 []) [.i .u64 (.ofNat a),.i .u64 (.ofNat b),.i .u64 (.ofNat 0)] h nx k=true:=by
 refine Ab hn (by omega) fun m hm=>?_
 conv=>lhs;whnf
 exact hk
def vaF (l:List Nat) (base:Nat) (s:Int×Nat):(Int×Nat) ⊕ Option Nat:=if s.1<l.length then(if 18446744073709551616≤s.2*base+(Lb ((l.getD (s.1).toNat 0:Nat):Int)).toNat then .inr none else .inl (s.1+1,s.2*base+(Lb ((l.getD (s.1).toNat 0:Nat):Int)).toNat))else .inr (some s.2)
def vaE (l:List Nat) (base:Nat):Option Nat:=K7 (vaF l base) none (l.length+1) (0,0)
theorem Wt {l:List Nat} {base v dn:Nat} {p:Int} (hd:Lb ((l.getD p.toNat 0:Nat):Int)=dn) (h1:p<l.length) (h2:18446744073709551616≤v*base+dn):vaF l base (p,v)=.inr none:=by
 have:(Lb ((l.getD p.toNat 0:Nat):Int)).toNat=dn:=by rw[hd];rfl
 exact(if_pos h1).trans (if_pos (by show _≤v*base+(Lb ((l.getD p.toNat 0:Nat):Int)).toNat;rw[this];exact h2))
theorem vaF_b {l:List Nat} {base v dn:Nat} {p:Int} (hd:Lb ((l.getD p.toNat 0:Nat):Int)=dn) (h1:p<l.length) (h2:v*base+dn<18446744073709551616):vaF l base (p,v)=.inl (p+1,v*base+dn):=by
 have:(Lb ((l.getD p.toNat 0:Nat):Int)).toNat=dn:=by rw[hd];rfl
 refine(if_pos h1).trans ((if_neg (by show ¬_≤v*base+(Lb ((l.getD p.toNat 0:Nat):Int)).toNat;rw[this];omega)).trans ?_)
 show Sum.inl (p+1,v*base+(Lb ((l.getD p.toNat 0:Nat):Int)).toNat)=_
 rw[this]
theorem vaF_c {l:List Nat} {base v:Nat} {p:Int} (h1:l.length≤p):vaF l base (p,v)=.inr (some v):=if_neg (Int.not_lt.2 h1)
def intF (base:Nat) (v:Nat) (s:Bool×Bool):Bool:=!(!s.2||(decide (base=10)&&decide ((9223372036854775807:Int)<v)&&!s.1))
def Up (base:Nat) (r:List Nat):Bool:=if Dr r base=0 then false else match vaE (r.take (Dr r base).toNat) base with
 |none=>false
 |some v=>intF base v (sfxE (r.drop (Dr r base).toNat))
def intB (l:List Nat):Bool:=if hexB l=true then Up 16 (l.drop (Int.toNat 2))else if l≠[]∧((l.getD ((0:Int)).toNat 0:Nat):Int)=48 then Up 8 l else Up 10 l
theorem intR_0 {base:Nat} {r:List Nat} {R:Bool} (h:Up base r=R) (h0:Dr r base=0):R=false:=h.symm.trans (if_pos h0)
theorem intR_n {base:Nat} {r:List Nat} {R:Bool} (h:Up base r=R) (h0:Dr r base≠0) (h1:vaE (r.take (Dr r base).toNat) base=none):R=false:=by
 unfold Up at h;rw[if_neg h0,h1]at h;exact h.symm
theorem intR_v {base v:Nat} {r:List Nat} {R:Bool} {s:Bool×Bool} (h:Up base r=R) (h0:Dr r base≠0) (h1:vaE (r.take (Dr r base).toNat) base=some v) (hs:s=sfxE (r.drop (Dr r base).toNat)):intF base v s=R:=by
 unfold Up at h;rw[if_neg h0,h1,←hs]at h;exact h
theorem Z7 {b v:Nat} {u:Bool}:intF b v (u,false)=false:=rfl
theorem Z6 {v:Nat} (h:(9223372036854775807:Int)<Int.ofNat v):intF 10 v (false,true)=false:=by
 unfold intF;rw[decide_eq_true (show(9223372036854775807:Int)<v from h)];rfl
theorem Lr {b v:Nat} {u:Bool} (h:b≠10∨Int.ofNat v≤9223372036854775807∨u=true):intF b v (u,true)=true:=by
 unfold intF
 rcases h with h|h|h
 · rw[decide_eq_false h];rfl
 · rw[decide_eq_false (show ¬(9223372036854775807:Int)<v from Int.not_lt.2 h)];simp
 · subst h;simp
theorem mul_0 {v b dn:Nat} (h1:Int.ofNat (P9 v b)=0) (h2:Int.ofNat ((R1 v b+dn+0) / 18446744073709551616)=0):v*b+dn<18446744073709551616∧(R1 v b+dn+0)%18446744073709551616=v*b+dn:=by
 unfold P9 R1 at *
 simp only[Aj]at h1 h2
 omega
theorem mul_1 {v b dn:Nat} (h1:Int.ofNat (P9 v b)≠0):18446744073709551616≤v*b+dn:=by
 unfold P9 at *
 simp only[Aj]at h1
 omega
theorem mul_2 {v b dn:Nat} (h1:Int.ofNat (P9 v b)=0) (h2:Int.ofNat ((R1 v b+dn+0) / 18446744073709551616)≠0):18446744073709551616≤v*b+dn:=by
 unfold P9 R1 at *
 simp only[Aj]at h1 h2
 omega
theorem eq_len {l:List Nat} (h:l=[]):(l.length:Int)≤0:=by rw[h];decide
theorem take_z {l:List Nat} {n:Nat}:List.take (n.sub 0) (List.drop 0 l)=List.take n l:=rfl
theorem int_split {b R:Bool} {l:List Nat} (hb:b=hexB l) (hR:intB l=R):b=false∧((l≠[]∧((l.getD ((0:Int)).toNat 0:Nat):Int)=48→Up 8 l=R)∧(l=[]∨((l.getD ((0:Int)).toNat 0:Nat):Int)≠48→Up 10 l=R))∨b=true∧Up 16 (l.drop (Int.toNat 2))=R∧(2:Int)≤l.length:=by
 cases b
 · refine .inl ⟨rfl,fun h=>?_,fun h=>?_⟩
   · exact((if_neg (bf hb)).trans (if_pos h)).symm.trans hR
   · exact((if_neg (bf hb)).trans (if_neg fun c=>h.elim c.1 fun h=>h c.2)).symm.trans hR
 · exact .inr ⟨rfl,(if_pos hb.symm).symm.trans hR,hexB_len hb.symm⟩
theorem int_eq {n:Nat} (hn:2000050≤n) {l:List Nat} (hs:l.length≤100000) (hl:∀x∈l,x≤255) {A:List Av} {kp:KP} {h:H} {nx:Pos} (S:Sat h nx A) {k:K}
 (hk:∀v u (e:Int) h' nx',Sat h' nx' A→(e=0∧intB l=true∨e=40∧intB l=false)→k (.tu [v,u,.i .i64 e]) h' nx'=true):Ai gg n kp (.fn 31 []) [.s l] h nx k=true:=by
 refine Ab hn (by omega) fun m hm=>?_
 generalize hR:intB l=R at hk
 repeat' ((conv=>lhs;whnf);first
  |rw[Df]
  |exact absurd hz (by decide)
  |(refine hexed_eq (by omega) (fun b hb=>?_);rcases int_split hb hR with⟨rfl,hR8,hR10⟩|⟨rfl,hR1,hx2⟩)
  |refine Cp ‹_› rfl (fun h' S=>?_)
  |refine Au ‹_› 0 rfl (Aa rfl) rfl (fun h' S=>?_)
  |refine Ae ‹_› 0 rfl (Aa rfl) ?_
  |refine Cb (y:=false) (by(try simp only[Aj,Ax]at *);omega) ?_
  |refine Cw (x:=false) (by(try simp only[Aj,Ax]at *);omega) ?_
  |refine Bq (y:=false) (by(try simp only[Aj,Ax]at *);omega) ?_
  |refine Bv (by(try simp only[Aj,Ax]at *);omega) ?_
  |(refine Za (by omega) (by(try simp only[Aj,Ax]at *);omega) (by first|assumption|exact Ef hl _) ‹_› (fun r h' nx' S hr hrb=>?_);(try simp only[Ax]at hrb);subst hr)
  |(refine Gq (fun hc hz=>?_) (fun hc hz=>?_)<;>(try have hln:=Qy hz)<;>(try have hl0:=eq_len hz)<;>(try have hR1:=hR10 (.inl hz))<;>try rewrite [hc])
  |(refine new (fun hc hz=>?_) (fun hc hz=>?_)<;>(try simp only[Aj]at hz)<;>try rewrite [hc])
  |(refine Cu (fun hc hz=>?_) (fun hc hz=>?_)<;>(try simp only[Aj]at hz)<;>(first|have hR1:=hR8 ⟨by assumption,hz⟩|have hR1:=hR10 (.inr hz)|skip)<;>try rewrite [hc])
  |omega
  |refine Au ‹_› 1 rfl (Aa rfl) rfl (fun h' S=>?_)
  |refine Au ‹_› 2 rfl (Aa rfl) rfl (fun h' S=>?_)
  |refine Au ‹_› 3 rfl (Aa rfl) rfl (fun h' S=>?_)
  |refine Ae ‹_› 1 rfl (Aa rfl) ?_
  |refine Ae ‹_› 2 rfl (Aa rfl) ?_
  |refine Ae ‹_› 3 rfl (Aa rfl) ?_
  |exact hk _ _ _ _ _ (Sat.right (C:=[_,_,_,_]) ‹_›) (.inr ⟨rfl,intR_0 hR1 ‹_›⟩)
  |rw[take_z]
  |refine Rj (by omega) ‹_› (fun h' S=>?_)
  |refine J3 ‹_› (fun M hM h' S=>?_)
  |refine A6 ‹_› (.raw _) ⟨rfl,by simp⟩ (fun h' S=>?_))
 all_goals conv=>lhs;whnf
 all_goals skip
 · have hlt:∀x∈List.take (Dr l 8).toNat l,x≤255:=Lg (by first|exact hl|exact Ef hl _) _
   have hrb0:(List.take (Dr l 8).toNat l).length≤100000:=by rw[Ci];(try rw[Ax]);omega
   generalize hV:vaE (List.take (Dr l 8).toNat l) 8=V
   generalize hr:List.take (Dr l 8).toNat l=r at *
   have hV2:=hV
   unfold vaE at hV2
   refine La (by omega) hrb0 hlt
    (fun p A'=>∃v:Nat,A'=(Ad (Ad nx'),.raw (.loop M))::(Ad nx',.raw .marks)::(nx',.row [.s r] 9)::(Ad (Ad (Ad nx)),.row [.i .i64 8] 3)::(Ad (Ad nx),.row [.i .i64 0] 25)::(Ad nx,.row [.b false] 4)::(nx,.row [.i .u64 (.ofNat v)] 109)::A ∧
      v<18446744073709551616∧0≤p∧p≤r.length∧∃u:Nat,r.length-p+1≤u∧K7 (vaF r 8) none u (p,v)=V)
    (fun A'=>A'=(Ad (Ad nx'),.raw (.loop (M.dn .ret)))::(Ad nx',.raw .marks)::(nx',.row [.s r] 9)::(Ad (Ad (Ad nx)),.row [.i .i64 8] 3)::(Ad (Ad nx),.row [.i .i64 40] 25)::(Ad nx,.row [.b false] 4)::(nx,.row [.i .u64 0] 109)::A∧V=none)
    ?_ S ⟨0,rfl,by omega,by omega,by omega,_,by omega,hV2⟩ ?_ ?_
   · rintro p A' ⟨v,rfl,_⟩;simp
   · rintro p A' F h nx'' n k hn2 q1 q2 ⟨v,rfl,q3,q5,q6,u,q7,q8⟩ S hk1 hk2
     have hd:=Tb ((r.getD p.toNat 0:Nat):Int)
     obtain⟨dn,hdn⟩:=Int.eq_ofNat_of_zero_le hd.1
     rw[hdn]
     refine Ab hn2 (by omega) fun m' hm'=>?_
     subst hM
     repeat' ((conv=>lhs;whnf);first
      |refine A1 ‹_› 0 rfl ?_
      |refine D0 ‹_› 0 (.raw _) rfl ⟨rfl,by simp⟩ (fun h' S=>?_)
      |refine Au ‹_› 4 rfl (Aa rfl) rfl (fun h' S=>?_)
      |refine Au ‹_› 5 rfl (Aa rfl) rfl (fun h' S=>?_)
      |refine Au ‹_› 6 rfl (Aa rfl) rfl (fun h' S=>?_)
      |refine Ae ‹_› 3 rfl (Aa rfl) ?_
      |refine Ae ‹_› 6 rfl (Aa rfl) ?_
      |refine Ya (by decide) ?_
      |refine Ya (by omega) ?_
      |refine mul_eq (b:=8) (by omega) (by omega) (by decide) ?_
      |refine add_eq (by omega) ?_
      |(refine new (fun hc hz=>?_) (fun hc hz=>?_)<;>try rewrite [hc])
      |exact hk2 _ _ _ ⟨rfl,(Dp (Wt hdn q2 (mul_1 ‹_›)) (by omega) q8).symm⟩ ‹_›
      |exact hk2 _ _ _ ⟨rfl,(Dp (Wt hdn q2 (mul_2 ‹_› ‹_›)) (by omega) q8).symm⟩ ‹_›
      |(obtain⟨w1,w2⟩:=mul_0 (v:=v) (b:=8) (dn:=dn) ‹_› ‹_›
        rw[w2]at S
        exact hk1 _ _ _ ⟨v*8+dn,rfl,w1,by omega,by omega,u-1,by omega,Kt (vaF_b hdn q2 w1) (by omega) q8⟩ ‹_›))
   · rintro A' h nx'' hJ S
     subst hM
     rcases hJ with⟨p,hp,v,rfl,q3,q5,q6,u,q7,q8⟩|⟨rfl,q3⟩
     · have hR2:=Dp (vaF_c hp) (by omega) q8
       subst hr
       have hR3:=fun s hs=>intR_v (s:=s) hR1 hz (hV.trans hR2.symm) hs
       repeat' ((conv=>lhs;whnf);first
        |rw[Df]
        |exact absurd hz (by decide)
        |refine A1 ‹_› 0 rfl ?_
        |refine Bm ‹_› 0 rfl (fun h' S=>?_)
        |refine Ae ‹_› 2 rfl (Aa rfl) ?_
        |refine Ae ‹_› 3 rfl (Aa rfl) ?_
        |refine Ae ‹_› 4 rfl (Aa rfl) ?_
        |refine Ae ‹_› 5 rfl (Aa rfl) ?_
        |refine Au ‹_› 3 rfl (Aa rfl) rfl (fun h' S=>?_)
        |refine Au ‹_› 4 rfl (Aa rfl) rfl (fun h' S=>?_)
        |refine Au ‹_› 5 rfl (Aa rfl) rfl (fun h' S=>?_)
        |exact hk _ _ _ _ _ (Sat.right (C:=[_,_,_,_,_]) ‹_›) (.inr ⟨rfl,hR4.symm.trans Z7⟩)
        |exact hk _ _ _ _ _ (Sat.right (C:=[_,_,_,_,_]) ‹_›) (.inr ⟨rfl,hR4.symm.trans (Z6 ‹_›)⟩)
        |exact hk _ _ _ _ _ (Sat.right (C:=[_,_,_,_,_]) ‹_›) (.inl ⟨rfl,hR4.symm.trans (Lr (.inl (by decide)))⟩)
        |exact hk _ _ _ _ _ (Sat.right (C:=[_,_,_,_,_]) ‹_›) (.inl ⟨rfl,hR4.symm.trans (Lr (.inr (.inr rfl)))⟩)
        |exact hk _ _ _ _ _ (Sat.right (C:=[_,_,_,_,_]) ‹_›) (.inl ⟨rfl,hR4.symm.trans (Lr (.inr (.inl ‹_›)))⟩)
        |refine Cb (y:=false) (by(try simp only[Aj,Ax]at *);omega) ?_
        |refine Cw (x:=false) (by(try simp only[Aj,Ax]at *);omega) ?_
        |refine Bq (y:=false) (by(try simp only[Aj,Ax]at *);omega) ?_
        |(refine Qn (by omega) (by(try simp only[Aj,Ax]at *);omega) (fun su sb hs=>?_);have hR4:=hR3 _ hs;cases su<;>cases sb)
        |(refine C4 (fun hc hz=>?_) (fun hc hz=>?_)<;>try rewrite [hc])
        |(refine Cu (fun hc hz=>?_) (fun hc hz=>?_)<;>try rewrite [hc]))
     · subst hr
       have hR5:=intR_n hR1 ‹_› (hV.trans q3)
       repeat' ((conv=>lhs;whnf);first
        |refine A1 ‹_› 0 rfl ?_
        |refine Bm ‹_› 0 rfl (fun h' S=>?_)
        |refine Ae ‹_› 2 rfl (Aa rfl) ?_
        |refine Ae ‹_› 3 rfl (Aa rfl) ?_
        |refine Ae ‹_› 4 rfl (Aa rfl) ?_
        |refine Ae ‹_› 5 rfl (Aa rfl) ?_
        |refine Au ‹_› 3 rfl (Aa rfl) rfl (fun h' S=>?_)
        |refine Au ‹_› 4 rfl (Aa rfl) rfl (fun h' S=>?_)
        |refine Au ‹_› 5 rfl (Aa rfl) rfl (fun h' S=>?_)
        |exact hk _ _ _ _ _ (Sat.right (C:=[_,_,_,_,_]) ‹_›) (.inr ⟨rfl,hR5⟩))
 · have hlt:∀x∈List.take (Dr l 10).toNat l,x≤255:=Lg (by first|exact hl|exact Ef hl _) _
   have hrb0:(List.take (Dr l 10).toNat l).length≤100000:=by rw[Ci];(try rw[Ax]);omega
   generalize hV:vaE (List.take (Dr l 10).toNat l) 10=V
   generalize hr:List.take (Dr l 10).toNat l=r at *
   have hV2:=hV
   unfold vaE at hV2
   refine La (by omega) hrb0 hlt
    (fun p A'=>∃v:Nat,A'=(Ad (Ad nx'),.raw (.loop M))::(Ad nx',.raw .marks)::(nx',.row [.s r] 9)::(Ad (Ad (Ad nx)),.row [.i .i64 10] 3)::(Ad (Ad nx),.row [.i .i64 0] 25)::(Ad nx,.row [.b false] 4)::(nx,.row [.i .u64 (.ofNat v)] 109)::A ∧
      v<18446744073709551616∧0≤p∧p≤r.length∧∃u:Nat,r.length-p+1≤u∧K7 (vaF r 10) none u (p,v)=V)
    (fun A'=>A'=(Ad (Ad nx'),.raw (.loop (M.dn .ret)))::(Ad nx',.raw .marks)::(nx',.row [.s r] 9)::(Ad (Ad (Ad nx)),.row [.i .i64 10] 3)::(Ad (Ad nx),.row [.i .i64 40] 25)::(Ad nx,.row [.b false] 4)::(nx,.row [.i .u64 0] 109)::A∧V=none)
    ?_ S ⟨0,rfl,by omega,by omega,by omega,_,by omega,hV2⟩ ?_ ?_
   · rintro p A' ⟨v,rfl,_⟩;simp
   · rintro p A' F h nx'' n k hn2 q1 q2 ⟨v,rfl,q3,q5,q6,u,q7,q8⟩ S hk1 hk2
     have hd:=Tb ((r.getD p.toNat 0:Nat):Int)
     obtain⟨dn,hdn⟩:=Int.eq_ofNat_of_zero_le hd.1
     rw[hdn]
     refine Ab hn2 (by omega) fun m' hm'=>?_
     subst hM
     repeat' ((conv=>lhs;whnf);first
      |refine A1 ‹_› 0 rfl ?_
      |refine D0 ‹_› 0 (.raw _) rfl ⟨rfl,by simp⟩ (fun h' S=>?_)
      |refine Au ‹_› 4 rfl (Aa rfl) rfl (fun h' S=>?_)
      |refine Au ‹_› 5 rfl (Aa rfl) rfl (fun h' S=>?_)
      |refine Au ‹_› 6 rfl (Aa rfl) rfl (fun h' S=>?_)
      |refine Ae ‹_› 3 rfl (Aa rfl) ?_
      |refine Ae ‹_› 6 rfl (Aa rfl) ?_
      |refine Ya (by decide) ?_
      |refine Ya (by omega) ?_
      |refine mul_eq (b:=10) (by omega) (by omega) (by decide) ?_
      |refine add_eq (by omega) ?_
      |(refine new (fun hc hz=>?_) (fun hc hz=>?_)<;>try rewrite [hc])
      |exact hk2 _ _ _ ⟨rfl,(Dp (Wt hdn q2 (mul_1 ‹_›)) (by omega) q8).symm⟩ ‹_›
      |exact hk2 _ _ _ ⟨rfl,(Dp (Wt hdn q2 (mul_2 ‹_› ‹_›)) (by omega) q8).symm⟩ ‹_›
      |(obtain⟨w1,w2⟩:=mul_0 (v:=v) (b:=10) (dn:=dn) ‹_› ‹_›
        rw[w2]at S
        exact hk1 _ _ _ ⟨v*10+dn,rfl,w1,by omega,by omega,u-1,by omega,Kt (vaF_b hdn q2 w1) (by omega) q8⟩ ‹_›))
   · rintro A' h nx'' hJ S
     subst hM
     rcases hJ with⟨p,hp,v,rfl,q3,q5,q6,u,q7,q8⟩|⟨rfl,q3⟩
     · have hR2:=Dp (vaF_c hp) (by omega) q8
       subst hr
       have hR3:=fun s hs=>intR_v (s:=s) hR1 hz (hV.trans hR2.symm) hs
       repeat' ((conv=>lhs;whnf);first
        |rw[Df]
        |exact absurd hz (by decide)
        |refine A1 ‹_› 0 rfl ?_
        |refine Bm ‹_› 0 rfl (fun h' S=>?_)
        |refine Ae ‹_› 2 rfl (Aa rfl) ?_
        |refine Ae ‹_› 3 rfl (Aa rfl) ?_
        |refine Ae ‹_› 4 rfl (Aa rfl) ?_
        |refine Ae ‹_› 5 rfl (Aa rfl) ?_
        |refine Au ‹_› 3 rfl (Aa rfl) rfl (fun h' S=>?_)
        |refine Au ‹_› 4 rfl (Aa rfl) rfl (fun h' S=>?_)
        |refine Au ‹_› 5 rfl (Aa rfl) rfl (fun h' S=>?_)
        |exact hk _ _ _ _ _ (Sat.right (C:=[_,_,_,_,_]) ‹_›) (.inr ⟨rfl,hR4.symm.trans Z7⟩)
        |exact hk _ _ _ _ _ (Sat.right (C:=[_,_,_,_,_]) ‹_›) (.inr ⟨rfl,hR4.symm.trans (Z6 ‹_›)⟩)
        |exact hk _ _ _ _ _ (Sat.right (C:=[_,_,_,_,_]) ‹_›) (.inl ⟨rfl,hR4.symm.trans (Lr (.inl (by decide)))⟩)
        |exact hk _ _ _ _ _ (Sat.right (C:=[_,_,_,_,_]) ‹_›) (.inl ⟨rfl,hR4.symm.trans (Lr (.inr (.inr rfl)))⟩)
        |exact hk _ _ _ _ _ (Sat.right (C:=[_,_,_,_,_]) ‹_›) (.inl ⟨rfl,hR4.symm.trans (Lr (.inr (.inl ‹_›)))⟩)
        |refine Cb (y:=false) (by(try simp only[Aj,Ax]at *);omega) ?_
        |refine Cw (x:=false) (by(try simp only[Aj,Ax]at *);omega) ?_
        |refine Bq (y:=false) (by(try simp only[Aj,Ax]at *);omega) ?_
        |(refine Qn (by omega) (by(try simp only[Aj,Ax]at *);omega) (fun su sb hs=>?_);have hR4:=hR3 _ hs;cases su<;>cases sb)
        |(refine C4 (fun hc hz=>?_) (fun hc hz=>?_)<;>try rewrite [hc])
        |(refine Cu (fun hc hz=>?_) (fun hc hz=>?_)<;>try rewrite [hc]))
     · subst hr
       have hR5:=intR_n hR1 ‹_› (hV.trans q3)
       repeat' ((conv=>lhs;whnf);first
        |refine A1 ‹_› 0 rfl ?_
        |refine Bm ‹_› 0 rfl (fun h' S=>?_)
        |refine Ae ‹_› 2 rfl (Aa rfl) ?_
        |refine Ae ‹_› 3 rfl (Aa rfl) ?_
        |refine Ae ‹_› 4 rfl (Aa rfl) ?_
        |refine Ae ‹_› 5 rfl (Aa rfl) ?_
        |refine Au ‹_› 3 rfl (Aa rfl) rfl (fun h' S=>?_)
        |refine Au ‹_› 4 rfl (Aa rfl) rfl (fun h' S=>?_)
        |refine Au ‹_› 5 rfl (Aa rfl) rfl (fun h' S=>?_)
        |exact hk _ _ _ _ _ (Sat.right (C:=[_,_,_,_,_]) ‹_›) (.inr ⟨rfl,hR5⟩))
 · have hlt:∀x∈List.take (Dr (List.drop (Int.toNat 2) l) 16).toNat (List.drop (Int.toNat 2) l),x≤255:=Lg (by first|exact hl|exact Ef hl _) _
   have hrb0:(List.take (Dr (List.drop (Int.toNat 2) l) 16).toNat (List.drop (Int.toNat 2) l)).length≤100000:=by rw[Ci];(try rw[Ax]);omega
   generalize hV:vaE (List.take (Dr (List.drop (Int.toNat 2) l) 16).toNat (List.drop (Int.toNat 2) l)) 16=V
   generalize hr:List.take (Dr (List.drop (Int.toNat 2) l) 16).toNat (List.drop (Int.toNat 2) l)=r at *
   have hV2:=hV
   unfold vaE at hV2
   refine La (by omega) hrb0 hlt
    (fun p A'=>∃v:Nat,A'=(Ad (Ad nx'),.raw (.loop M))::(Ad nx',.raw .marks)::(nx',.row [.s r] 9)::(Ad (Ad (Ad nx)),.row [.i .i64 16] 3)::(Ad (Ad nx),.row [.i .i64 0] 25)::(Ad nx,.row [.b false] 4)::(nx,.row [.i .u64 (.ofNat v)] 109)::A ∧
      v<18446744073709551616∧0≤p∧p≤r.length∧∃u:Nat,r.length-p+1≤u∧K7 (vaF r 16) none u (p,v)=V)
    (fun A'=>A'=(Ad (Ad nx'),.raw (.loop (M.dn .ret)))::(Ad nx',.raw .marks)::(nx',.row [.s r] 9)::(Ad (Ad (Ad nx)),.row [.i .i64 16] 3)::(Ad (Ad nx),.row [.i .i64 40] 25)::(Ad nx,.row [.b false] 4)::(nx,.row [.i .u64 0] 109)::A∧V=none)
    ?_ S ⟨0,rfl,by omega,by omega,by omega,_,by omega,hV2⟩ ?_ ?_
   · rintro p A' ⟨v,rfl,_⟩;simp
   · rintro p A' F h nx'' n k hn2 q1 q2 ⟨v,rfl,q3,q5,q6,u,q7,q8⟩ S hk1 hk2
     have hd:=Tb ((r.getD p.toNat 0:Nat):Int)
     obtain⟨dn,hdn⟩:=Int.eq_ofNat_of_zero_le hd.1
     rw[hdn]
     refine Ab hn2 (by omega) fun m' hm'=>?_
     subst hM
     repeat' ((conv=>lhs;whnf);first
      |refine A1 ‹_› 0 rfl ?_
      |refine D0 ‹_› 0 (.raw _) rfl ⟨rfl,by simp⟩ (fun h' S=>?_)
      |refine Au ‹_› 4 rfl (Aa rfl) rfl (fun h' S=>?_)
      |refine Au ‹_› 5 rfl (Aa rfl) rfl (fun h' S=>?_)
      |refine Au ‹_› 6 rfl (Aa rfl) rfl (fun h' S=>?_)
      |refine Ae ‹_› 3 rfl (Aa rfl) ?_
      |refine Ae ‹_› 6 rfl (Aa rfl) ?_
      |refine Ya (by decide) ?_
      |refine Ya (by omega) ?_
      |refine mul_eq (b:=16) (by omega) (by omega) (by decide) ?_
      |refine add_eq (by omega) ?_
      |(refine new (fun hc hz=>?_) (fun hc hz=>?_)<;>try rewrite [hc])
      |exact hk2 _ _ _ ⟨rfl,(Dp (Wt hdn q2 (mul_1 ‹_›)) (by omega) q8).symm⟩ ‹_›
      |exact hk2 _ _ _ ⟨rfl,(Dp (Wt hdn q2 (mul_2 ‹_› ‹_›)) (by omega) q8).symm⟩ ‹_›
      |(obtain⟨w1,w2⟩:=mul_0 (v:=v) (b:=16) (dn:=dn) ‹_› ‹_›
        rw[w2]at S
        exact hk1 _ _ _ ⟨v*16+dn,rfl,w1,by omega,by omega,u-1,by omega,Kt (vaF_b hdn q2 w1) (by omega) q8⟩ ‹_›))
   · rintro A' h nx'' hJ S
     subst hM
     rcases hJ with⟨p,hp,v,rfl,q3,q5,q6,u,q7,q8⟩|⟨rfl,q3⟩
     · have hR2:=Dp (vaF_c hp) (by omega) q8
       subst hr
       have hR3:=fun s hs=>intR_v (s:=s) hR1 hz (hV.trans hR2.symm) hs
       repeat' ((conv=>lhs;whnf);first
        |rw[Df]
        |exact absurd hz (by decide)
        |refine A1 ‹_› 0 rfl ?_
        |refine Bm ‹_› 0 rfl (fun h' S=>?_)
        |refine Ae ‹_› 2 rfl (Aa rfl) ?_
        |refine Ae ‹_› 3 rfl (Aa rfl) ?_
        |refine Ae ‹_› 4 rfl (Aa rfl) ?_
        |refine Ae ‹_› 5 rfl (Aa rfl) ?_
        |refine Au ‹_› 3 rfl (Aa rfl) rfl (fun h' S=>?_)
        |refine Au ‹_› 4 rfl (Aa rfl) rfl (fun h' S=>?_)
        |refine Au ‹_› 5 rfl (Aa rfl) rfl (fun h' S=>?_)
        |exact hk _ _ _ _ _ (Sat.right (C:=[_,_,_,_,_]) ‹_›) (.inr ⟨rfl,hR4.symm.trans Z7⟩)
        |exact hk _ _ _ _ _ (Sat.right (C:=[_,_,_,_,_]) ‹_›) (.inr ⟨rfl,hR4.symm.trans (Z6 ‹_›)⟩)
        |exact hk _ _ _ _ _ (Sat.right (C:=[_,_,_,_,_]) ‹_›) (.inl ⟨rfl,hR4.symm.trans (Lr (.inl (by decide)))⟩)
        |exact hk _ _ _ _ _ (Sat.right (C:=[_,_,_,_,_]) ‹_›) (.inl ⟨rfl,hR4.symm.trans (Lr (.inr (.inr rfl)))⟩)
        |exact hk _ _ _ _ _ (Sat.right (C:=[_,_,_,_,_]) ‹_›) (.inl ⟨rfl,hR4.symm.trans (Lr (.inr (.inl ‹_›)))⟩)
        |refine Cb (y:=false) (by(try simp only[Aj,Ax]at *);omega) ?_
        |refine Cw (x:=false) (by(try simp only[Aj,Ax]at *);omega) ?_
        |refine Bq (y:=false) (by(try simp only[Aj,Ax]at *);omega) ?_
        |(refine Qn (by omega) (by(try simp only[Aj,Ax]at *);omega) (fun su sb hs=>?_);have hR4:=hR3 _ hs;cases su<;>cases sb)
        |(refine C4 (fun hc hz=>?_) (fun hc hz=>?_)<;>try rewrite [hc])
        |(refine Cu (fun hc hz=>?_) (fun hc hz=>?_)<;>try rewrite [hc]))
     · subst hr
       have hR5:=intR_n hR1 ‹_› (hV.trans q3)
       repeat' ((conv=>lhs;whnf);first
        |refine A1 ‹_› 0 rfl ?_
        |refine Bm ‹_› 0 rfl (fun h' S=>?_)
        |refine Ae ‹_› 2 rfl (Aa rfl) ?_
        |refine Ae ‹_› 3 rfl (Aa rfl) ?_
        |refine Ae ‹_› 4 rfl (Aa rfl) ?_
        |refine Ae ‹_› 5 rfl (Aa rfl) ?_
        |refine Au ‹_› 3 rfl (Aa rfl) rfl (fun h' S=>?_)
        |refine Au ‹_› 4 rfl (Aa rfl) rfl (fun h' S=>?_)
        |refine Au ‹_› 5 rfl (Aa rfl) rfl (fun h' S=>?_)
        |exact hk _ _ _ _ _ (Sat.right (C:=[_,_,_,_,_]) ‹_›) (.inr ⟨rfl,hR5⟩))
end Go.CE
