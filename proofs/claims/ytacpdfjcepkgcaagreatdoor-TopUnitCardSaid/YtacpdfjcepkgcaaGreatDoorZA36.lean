/- Part 36 of the lemmas behind the claim. -/
import Derived.Test.YtacpdfjcepkgcaaGreatDoorZA01
import Derived.Test.YtacpdfjcepkgcaaGreatDoorZA35
set_option linter.unusedSimpArgs false
set_option linter.unusedVariables false
set_option linter.constructorNameAsVariable false
set_option linter.unusedSectionVars false
set_option linter.defProp false
set_option maxRecDepth 100000
set_option maxHeartbeats 40000000
namespace Go.CE
open Go Go.Proofs.YtacpdfjcepkgcaaGreatDoor
attribute [local irreducible] loopK Ai K0 N2 Dg fits rd rd1 wr newC Kj Fk Fa Ve
def Aan (s:List Nat):List Nat:=(s.drop 1).take ((if(s.length:Int)<4 then(s.length:Int)else 4).toNat-1)
def elmX (s:List Nat) (most:Int):Int×Int:=if Dr (s.drop 2) 16=0 then(-1,1)else(nuE ((s.drop 2).take (Dr (s.drop 2) 16).toNat) 16 most,2+Dr (s.drop 2) 16)
def elmO (s:List Nat) (most:Int):Int×Int:=if Dr (Aan s) 8=0 then(-1,1)else(nuE ((s.drop 1).take (Dr (Aan s) 8).toNat) 8 most,1+Dr (Aan s) 8)
def Sb (s:List Nat) (most:Int):Int×Int:=
 if((s.getD ((0:Int)).toNat 0:Nat):Int)≠92 then(((s.getD ((0:Int)).toNat 0:Nat):Int),1)
 else if(s.length:Int)=1 then(-1,1)
 else if 0≤simE ((s.getD ((1:Int)).toNat 0:Nat):Int)then(simE ((s.getD ((1:Int)).toNat 0:Nat):Int),2)
 else if((s.getD ((1:Int)).toNat 0:Nat):Int)=120 then elmX s most else elmO s most
theorem elmX_0 {s:List Nat} {most r:Int} (hr:r=Dr (s.drop (Int.toNat 2)) 16) (h:r=0):elmX s most=(-1,1):=if_pos (hr.symm.trans h)
theorem elmX_1 {s:List Nat} {most r v:Int} (hr:r=Dr (s.drop (Int.toNat 2)) 16) (h:r≠0) (hv:v=nuE (List.take r.toNat (s.drop (Int.toNat 2))) 16 most):elmX s most=(v,2+r):=by
 subst hr;exact(if_neg h).trans (by rw[hv];rfl)
theorem elmO_0 {s:List Nat} {most r:Int} (hr:r=Dr (Aan s) 8) (h:r=0):elmO s most=(-1,1):=if_pos (hr.symm.trans h)
theorem elmO_1 {s:List Nat} {most r v:Int} (hr:r=Dr (Aan s) 8) (h:r≠0) (hv:v=nuE (List.take r.toNat (s.drop (Int.toNat 1))) 8 most):elmO s most=(v,1+r):=by
 subst hr;exact(if_neg h).trans (by rw[hv];rfl)
theorem elm4_a {l:List Nat} (h:(4:Int)≤l.length):List.take ((Int.toNat 4).sub (Int.toNat 1)) (List.drop (Int.toNat 1) l)=Aan l:=by
 unfold Aan;rw[if_neg (by omega)];rfl
theorem elm4_b {l:List Nat} (h:(l.length:Int)<4):List.take ((Int.ofNat l.length).toNat.sub (Int.toNat 1)) (List.drop (Int.toNat 1) l)=Aan l:=by
 unfold Aan;rw[if_pos h];rfl
theorem sl_a {r:Int} {X:List Nat} (h:0≤r):List.take ((2+r).toNat.sub (Int.toNat 2)) X=List.take r.toNat X:=by
 congr 1;show(2+r).toNat-(Int.toNat 2)=r.toNat;omega
theorem sl_b {r:Int} {X:List Nat} (h:0≤r):List.take ((1+r).toNat.sub (Int.toNat 1)) X=List.take r.toNat X:=by
 congr 1;show(1+r).toNat-(Int.toNat 1)=r.toNat;omega
theorem element_eq {n:Nat} (hn:2000060≤n) {l:List Nat} (hs:l.length≤100000) (hln:(1:Int)≤l.length) (hl:∀x∈l,x≤255) {most:Int} (hm0:255≤most∧most≤4294967295) {A:List Av} {kp:KP} {h:H} {nx:Pos} (S:Sat h nx A) {k:K}
 (hk:∀(v r:Int) h' nx',Sat h' nx' A→(v,r)=Sb l most → -1≤v∧v≤most∧1≤r∧r≤l.length→k (.tu [.i .i64 v,.i .i64 r]) h' nx'=true):Ai gg n kp (.fn 132 []) [.s l,.i .i64 most] h nx k=true:=by
 refine Ab hn (by omega) fun m hm=>?_
 generalize hR:Sb l most=R at hk
 unfold Sb at hR
 have hb0:=Va hl 0
 have hb1:=Va hl 1
 have hs1:=simE_le hb1
 repeat' ((conv=>lhs;whnf);first
  |rw[Df]
  |rw[sl_a (r:=r) (by omega)]
  |rw[sl_b (r:=r) (by omega)]
  |refine Cb (y:=false) (by omega) ?_
  |refine Cw (x:=false) (by omega) ?_
  |refine Bq (y:=false) (by omega) ?_
  |refine Bv (by omega) ?_
  |refine Bv (show -9223372036854775808≤((l.getD ((0:Int)).toNat 0:Nat):Int)∧((l.getD ((0:Int)).toNat 0:Nat):Int)≤9223372036854775807 by omega) ?_
  |refine Cb (y:=false) (by(try simp only[Aj,Ax]at *);omega) ?_
  |refine Cw (x:=false) (by(try simp only[Aj,Ax]at *);omega) ?_
  |refine Bq (y:=false) (by(try simp only[Aj,Ax,Ci]at *);omega) ?_
  |(refine number_eq (by omega) (by(try simp only[Aj,Ax,Ci]at *);omega) (Lg (Ef hl _) _) (by decide) (by omega) ‹_› (fun v h' nx' S hv hvb=>?_))
  |(refine simple_eq (by omega) hb1 (fun r hsi=>?_);subst hsi)
  |(refine Za (by omega) (by(try simp only[Aj,Ax,Ci]at *);omega) (by first|exact Ef hl _|exact Lg (Ef hl _) _) ‹_› (fun r h' nx' S hr hrb=>?_);(try simp only[Ax,Ci]at hrb);(first|rw[elm4_a hz]at hr|rw[elm4_b hz]at hr|skip))
  |(refine Dt (fun hc hz=>?_) (fun hc hz=>?_)<;>(try simp only[Aj]at hz)<;>try rewrite [hc])
  |(refine new (fun hc hz=>?_) (fun hc hz=>?_)<;>(try simp only[Aj]at hz)<;>try rewrite [hc])
  |(refine Cu (fun hc hz=>?_) (fun hc hz=>?_)<;>(try simp only[Aj]at hz)<;>try rewrite [hc])
  |exact hk ((l.getD ((0:Int)).toNat 0:Nat):Int) 1 _ _ ‹_› ((if_pos (by omega)).symm.trans hR) (by omega)
  |exact hk _ _ _ _ ‹_› (((if_neg (by omega)).trans (if_pos (by omega))).symm.trans hR) (by omega)
  |exact hk _ _ _ _ ‹_› (((if_neg (by omega)).trans ((if_neg (by omega)).trans (if_pos (by omega)))).symm.trans hR) (by omega)
  |exact hk _ _ _ _ ‹_› ((elmX_0 hr ‹_›).symm.trans (((if_neg (by omega)).trans ((if_neg (by omega)).trans ((if_neg (by omega)).trans (if_pos (by omega))))).symm.trans hR)) (by omega)
  |exact hk _ _ _ _ ‹_› ((elmO_0 hr ‹_›).symm.trans (((if_neg (by omega)).trans ((if_neg (by omega)).trans ((if_neg (by omega)).trans (if_neg (by omega))))).symm.trans hR)) (by omega)
  |exact hk _ _ _ _ ‹_› ((elmX_1 hr ‹_› hv).symm.trans (((if_neg (by omega)).trans ((if_neg (by omega)).trans ((if_neg (by omega)).trans (if_pos (by omega))))).symm.trans hR)) (by omega)
  |exact hk _ _ _ _ ‹_› ((elmO_1 hr ‹_› hv).symm.trans (((if_neg (by omega)).trans ((if_neg (by omega)).trans ((if_neg (by omega)).trans (if_neg (by omega))))).symm.trans hR)) (by omega))
 all_goals skip
end Go.CE
namespace Go.CE
open Go Go.Proofs.YtacpdfjcepkgcaaGreatDoor
theorem idxB_at {a:List Nat} {i:Nat} {c:Nat} (hi:i<a.length) (h:a.getD i 0=c):0≤Ft a c∧Ft a c≤i:=by
 unfold Ft
 induction a generalizing i with
 |nil=>cases hi
 |cons x r ih=>
  rw[D5]
  unfold Lib.indexByte
  split
  · exact⟨Int.le_refl _,Fw _⟩
  · rename_i hh
    cases i with
    |zero=>
     exfalso;apply hh
     have:x=c:=h
     subst this;exact beq_self_eq_true _
    |succ j=>
     have h2:r.getD j 0=c:=h
     obtain⟨h3,h4⟩:=ih (i:=j) (by simpa using hi) h2
     split
     · rename_i h5
       have:Lib.indexByte (List.map UInt8.ofNat r) c.toUInt8=-1:=by simpa using h5
       omega
     · omega
theorem quo_itr {l:List Nat} {b c:Int}:∀ {u:Nat} {i K r:Int},Vn (quoF l b c) (0,0) u i=(K,r)→b≤i→(K=3→c≠34∧b+2≤r)∧(K=4→c=34∧b+1≤r):=by
 intro u
 induction u with
 |zero=>intro i K r h _;cases h;exact⟨fun h=>absurd h (by decide),fun h=>absurd h (by decide)⟩
 |succ u ih=>
  intro i K r h hb
  unfold Vn at h
  unfold quoF at h
  by_cases h1:i<l.length∧((l.getD i.toNat 0:Nat):Int)≠10
  · rw[if_pos h1]at h
    by_cases h2:((l.getD i.toNat 0:Nat):Int)=c∧c=34
    · rw[if_pos h2]at h
      cases h
      exact⟨fun h=>absurd h (by decide),fun _=>⟨h2.2,by omega⟩⟩
    · rw[if_neg h2]at h
      by_cases h3:((l.getD i.toNat 0:Nat):Int)=c∧b<i
      · rw[if_pos h3]at h
        cases h
        exact⟨fun _=>⟨fun h=>h2 ⟨h3.1,h⟩,by omega⟩,fun h=>absurd h (by decide)⟩
      · rw[if_neg h3]at h
        by_cases h4:((l.getD i.toNat 0:Nat):Int)=c
        · rw[if_pos h4]at h;cases h;exact⟨fun h=>absurd h (by decide),fun h=>absurd h (by decide)⟩
        · rw[if_neg h4]at h
          by_cases h5:((l.getD i.toNat 0:Nat):Int)=92∧i+1<l.length∧((l.getD (i+1).toNat 0:Nat):Int)≠10
          · rw[if_pos h5]at h;exact ih h (by omega)
          · rw[if_neg h5]at h
            by_cases h6:((l.getD i.toNat 0:Nat):Int)=92
            · rw[if_pos h6]at h;cases h;exact⟨fun h=>absurd h (by decide),fun h=>absurd h (by decide)⟩
            · rw[if_neg h6]at h;exact ih h (by omega)
  · rw[if_neg h1]at h;cases h;exact⟨fun h=>absurd h (by decide),fun h=>absurd h (by decide)⟩
theorem quoS_le {l:List Nat}:0≤Kw l 0∧Kw l 0≤2:=by unfold Kw;split;omega;split<;>omega
theorem quo_facts {l:List Nat} {r:Int} (hl:0<l.length) (hr:r≤l.length):((3:Int),r)=Tx l 0→0≤Ft l 39∧Ft l 39+3≤r:=fun h=>by
 have hS:=quoS_le (l:=l)
 unfold Tx at h
 by_cases h1:Kw l 0=l.length
 · rw[if_pos h1]at h;cases h
 · rw[if_neg h1]at h
   by_cases h2:((l.getD (Kw l 0).toNat 0:Nat):Int)≠39∧((l.getD (Kw l 0).toNat 0:Nat):Int)≠34
   · rw[if_pos h2]at h;cases h
   · rw[if_neg h2]at h
     obtain⟨h3,h4⟩:=(quo_itr h.symm (Int.le_refl _)).1 rfl
     have h5:((l.getD (Kw l 0).toNat 0:Nat):Int)=39:=by omega
     have:=idxB_at (a:=l) (i:=(Kw l 0).toNat) (c:=39) (by omega) (by exact_mod_cast h5)
     omega
theorem quo_facts4 {l:List Nat} {r:Int} (hl:0<l.length) (hr:r≤l.length):((4:Int),r)=Tx l 0→0≤Ft l 34∧Ft l 34+2≤r:=fun h=>by
 have hS:=quoS_le (l:=l)
 unfold Tx at h
 by_cases h1:Kw l 0=l.length
 · rw[if_pos h1]at h;cases h
 · rw[if_neg h1]at h
   by_cases h2:((l.getD (Kw l 0).toNat 0:Nat):Int)≠39∧((l.getD (Kw l 0).toNat 0:Nat):Int)≠34
   · rw[if_pos h2]at h;cases h
   · rw[if_neg h2]at h
     obtain⟨h3,h4⟩:=(quo_itr h.symm (Int.le_refl _)).2 rfl
     have:=idxB_at (a:=l) (i:=(Kw l 0).toNat) (c:=34) (by omega) (by exact_mod_cast h3)
     omega
theorem stp_k {p q:Int×Int} {K:Int} (h:(stp p q).1=K) (hq:q.1≠K):stp p q=p:=by
 unfold stp at h ⊢
 split
 · rename_i hc;rw[if_pos hc]at h;exact absurd h hq
 · rfl
theorem stp_c (p q:Int×Int):stp p q=p∨stp p q=q:=by unfold stp;split<;>simp
theorem lon_quo {l:List Nat} {a K t e:Int} (h:(K,t,e)=lonE l a) (hK:K=3∨K=4):(K,t)=Tx l a:=by
 unfold lonE lonP at h
 split at h
 · cases h;omega
 split at h
 · simp only[Prod.mk.injEq]at h
   obtain⟨h1,h2,_⟩:=h
   have e4:=stp_k h1.symm (by show(5:Int)≠K;omega)
   rw[e4]at h1 h2
   have e3:=stp_k h1.symm (by show(2:Int)≠K;omega)
   rw[e3]at h1 h2
   have e2:=stp_k h1.symm (by show(1:Int)≠K;omega)
   rw[e2]at h1 h2
   rcases stp_c (0,a) (Tx l a)with c|c
   · rw[c]at h1;have:K=0:=h1;omega
   · rw[c]at h1 h2
     exact Prod.ext h1 h2
 split at h
 · cases h;omega
 · cases h;omega
theorem itm_lon {l:List Nat} {a K t e:Int} (h:(K,t,e)=Z5 l a) (hK:K=3∨K=4):(K,t,e)=lonE l a:=by
 unfold Z5 at h
 split at h
 · split at h<;>(cases h;omega)
 split at h
 · split at h<;>(cases h;omega)
 · exact h
theorem one_K {l:List Nat} {K:Int} {b:Bool} (h:(K,b)=N3 l) (hK:K=3∨K=4):0<l.length∧(K,(l.length:Int))=Tx l 0:=by
 unfold N3 at h
 split at h
 · rename_i hc
   cases h
   refine⟨hc.1,?_⟩
   have h2:((Z5 l 0).1,(l.length:Int),(0:Int))=Z5 l 0:=Prod.ext rfl hc.2.2.symm
   exact lon_quo (itm_lon h2 hK) hK
 · cases h;omega
theorem one3 {l:List Nat} {b:Bool} (h:((3:Int),b)=N3 l):0≤Ft l 39∧Ft l 39+3≤l.length:=by
 obtain⟨h1,h2⟩:=one_K h (.inl rfl)
 exact quo_facts h1 (Int.le_refl _) h2
theorem one4 {l:List Nat} {b:Bool} (h:((4:Int),b)=N3 l):0≤Ft l 34∧Ft l 34+2≤l.length:=by
 obtain⟨h1,h2⟩:=one_K h (.inr rfl)
 exact quo_facts4 h1 (Int.le_refl _) h2
attribute [local irreducible] loopK Ai K0 N2 Dg fits rd rd1 wr newC Kj Fk Fa Ve P9 R1
theorem Mz {n:Nat} (hn:3000020≤n) {most:Int} (hm0:255≤most∧most≤4294967295) {s:List Nat} (hs:s.length≤100000) (hl:∀x∈s,x≤255) {bs bm lp:Pos} {ib:Nat} {A:List Av} {h:H} {nx:Pos} {kp:KP} {k:K} (J:List Nat→List Av→Prop) (Jn:List Nat→Int→Int→List Av→Prop) (X:List Av→Prop)
 (hJ:∀r A,J r A→A[ib]?=some (bs,.row [.s r] 9)∧(bm,.row [.i .i64 most] 2)∈A)
 (hN:∀r v d A,Jn r v d A→A[ib]?=some (bs,.row [.s r] 9)∧J (r.drop d.toNat) (A.set ib (bs,.row [.s (r.drop d.toNat)] 9)))
 (S:Sat h nx A) (h0:J s A)
 (hy:∀(r:List Nat) (A F:List Av) (h:H) (nx:Pos) (n:Nat) (k:K) (v d:Int),1000000≤n→r≠[]→J r A→Sat h nx (A++F)→(v,d)=Sb r most → -1≤v∧v≤most∧1≤d∧d≤r.length →
   (∀A' h' nx',(0≤v→Jn r v d A')→(v<0→X A')→Sat h' nx' (A'++F)→k (.b true) h' nx'=true)→(∀A' h' nx',X A'→Sat h' nx' (A'++F)→k (.b false) h' nx'=true) →
   Ai gg n kp (.yl lp) [.i .i64 v] h nx k=true)
 (hk:∀A h nx,J [] A∨X A→Sat h nx A→k (.tu []) h nx=true):Ai gg n kp (.fn 131 [.p bs 0,.p bm 0]) [.yl lp] h nx k=true:=by
 refine Ab hn (by omega) fun m hm=>?_
 conv=>lhs;whnf
 refine Br (L:=[0,1,2]) rfl (fun m vs d' h' nx'=>∃(r:List Nat) (A:List Av),r.length=m∧r.length≤100000∧(∀x∈r,x≤255)∧J r A∧Sat h' nx' A∧d'=[]∧vs=[.yl lp,.p bs 0,.p bm 0]) s.length (by omega) ⟨s,A,rfl,hs,hl,h0,S,rfl,rfl⟩ ?_
 rintro m _ d' h' nx' ⟨r,A,hr1,hr2,hr3,hJA,S,rfl,rfl⟩ k' hn' hx
 obtain⟨hb,hbm⟩:=hJ r A hJA
 repeat' ((conv=>lhs;whnf);first
  |contradiction
  |rw[Df]
  |refine Ae ‹_› ib hb (Aa rfl) ?_
  |refine A5 ‹_› hbm (Aa rfl) ?_
  |refine Ae ‹_› ib hb2 (Aa rfl) ?_
  |refine Au ‹_› ib hb2 (Aa rfl) rfl (fun h' S=>?_)
  |(refine element_eq (by omega) hr2 hln hr3 hm0 ‹_› (fun v d h1 nx1 S1 he heb=>?_))
  |(refine hy r A [] _ _ _ _ v d (by omega) ‹_› hJA (by rw[Bp];assumption) he (by omega) (fun A' h2 nx2 q1 q2 S2=>?_) (fun A' h2 nx2 q2 S2=>?_)<;>rw[Bp]at S2)
  |(refine Gq (fun hc hz=>?_) (fun hc hz=>?_)<;>(try have hln:=Qy hz)<;>try rewrite [hc])
  |(refine C4 (fun hc hz=>?_) (fun hc hz=>?_)<;>(try have hb2:=(hN _ _ _ _ (q1 hz)).1)<;>(try have hJ2:=(hN _ _ _ _ (q1 hz)).2)<;>try rewrite [hc])
  |refine Cb (y:=false) (by(try simp only[Aj,Ax,Ci]at *);omega) ?_
  |refine Cw (x:=false) (by(try simp only[Aj,Ax,Ci]at *);omega) ?_
  |refine Bq (y:=false) (by(try simp only[Aj,Ax,Ci]at *);omega) ?_
  |(refine hn' _ _ _ _ (r.drop d.toNat).length (by rw[Ax];omega) ?_;exact⟨r.drop d.toNat,_,rfl,by rw[Ax];omega,Ef hr3 _,hJ2,by assumption,rfl,rfl⟩)
  |(refine hx _ _ _ _ _ trivial ?_;conv=>lhs;whnf
    subst hz;exact hk A _ _ (Or.inl hJA) ‹_›)
  |(refine hx _ _ _ _ _ trivial ?_;conv=>lhs;whnf
    exact hk A' _ _ (Or.inr ‹_›) ‹_›)
  |(refine hx _ _ _ _ _ trivial ?_;conv=>lhs;whnf
    exact hk A' _ _ (Or.inr (q2 ‹_›)) ‹_›))
 all_goals skip
theorem eqr {a:Int} {x y:Bool} (h:x=true):fB (N2 a a) x y=true:=by rw[(Fb a a).2 rfl];exact h
theorem R3 {n:Nat} (hn:2≤n) {l:List Nat} {most:Int} {kp:KP} {h:H} {nx:Pos} {A:List Av} (S:Sat h nx A) {k:K} (hk:∀h',Sat h' (Ad (Ad nx)) ((Ad nx,.row [.i .i64 most] 2)::(nx,.row [.s l] 9)::A)→k (.fn 131 [.p nx 0,.p (Ad nx) 0]) h' (Ad (Ad nx))=true):Ai gg n kp (.fn 76 []) [.s l,.i .i64 most] h nx k=true:=by
 refine Ab hn (by omega) fun m hm=>?_
 repeat' ((conv=>lhs;whnf);first
  |refine Cp ‹_› rfl (fun h' S=>?_)
  |exact hk _ ‹_›)
def chF (mx lim:Int) (s:List Nat×Int):(List Nat×Int) ⊕ Bool:=if s.1=[]then .inr true else if(Sb s.1 lim).1<0∨mx<s.2+1 then .inr false else .inl (s.1.drop (Sb s.1 lim).2.toNat,s.2+1)
theorem chF_0 {mx lim c:Int}:chF mx lim ([],c)=.inr true:=rfl
theorem chF_x {mx lim c v d:Int} {r:List Nat} (h:r≠[]) (he:(v,d)=Sb r lim) (h2:v<0∨mx<c+1):chF mx lim (r,c)=.inr false:=by
 unfold chF;dsimp only;rw[if_neg h,←he,if_pos h2]
theorem chF_n {mx lim c v d:Int} {r:List Nat} (h:r≠[]) (he:(v,d)=Sb r lim) (h1:0≤v) (h2:c+1≤mx):chF mx lim (r,c)=.inl (r.drop d.toNat,c+1):=by
 unfold chF;dsimp only;rw[if_neg h,←he,if_neg (by show ¬(v<0∨mx<c+1);omega)]
def Qa (t:List Nat) (a:Int):List Nat:=List.take ((Int.ofNat t.length-1).toNat.sub (a+1).toNat) (t.drop (a+1).toNat)
noncomputable def chrB (t:List Nat):Bool:=if(N3 t).1≠3 then false else K7 (chF (if 0<Ft t 39 then 1 else 4) (limE (t.take (Ft t 39).toNat))) false ((Qa t (Ft t 39)).length+2) (Qa t (Ft t 39),0)
theorem Zq {t:List Nat} {a:Int} (h0:0≤a) (h:a+2≤t.length):(Qa t a).length=t.length-1-(a+1).toNat:=by
 unfold Qa
 rw[Ci,Ax,show(Int.ofNat t.length-1).toNat.sub (a+1).toNat=t.length-1-(a+1).toNat from by show(Int.ofNat t.length-1).toNat-(a+1).toNat=_;simp only[Aj];omega]
 omega
theorem char_eq {n:Nat} (hn:3000030≤n) {l:List Nat} (hs:l.length≤100000) (hl:∀x∈l,x≤255) {z:Int} {A:List Av} (hG:(Ay 2,OB.raw (R5 z))∈A) {kp:KP} {h:H} {nx:Pos} (S:Sat h nx A) {k:K}
 (hk:∀v (e:Int) h' nx',Sat h' nx' A→(e=0∧chrB l=true∨e=40∧chrB l=false)→k (.tu [v,.i .i64 e]) h' nx'=true):Ai gg n kp (.fn 33 []) [.s l] h nx k=true:=by
 refine Ab hn (by omega) fun m hm=>?_
 generalize hR:chrB l=R at hk
 unfold chrB at hR
 repeat' ((conv=>lhs;whnf);first
  |rw[take_z]
  |refine Cp ‹_› rfl (fun h' S=>?_)
  |(refine one_eq (by omega) hs (Am _ (Am _ hG)) ‹_› (fun rk rb h' nx' S hq=>?_);rw[←hq]at hR)
  |refine Au ‹_› 0 rfl (Aa rfl) rfl (fun h' S=>?_)
  |refine Au ‹_› 1 rfl (Aa rfl) rfl (fun h' S=>?_)
  |refine Au ‹_› 2 rfl (Aa rfl) rfl (fun h' S=>?_)
  |refine Ae ‹_› 0 rfl (Aa rfl) ?_
  |refine Ae ‹_› 1 rfl (Aa rfl) ?_
  |exact hk _ _ _ _ (Sat.right (C:=[_,_]) ‹_›) (.inr ⟨rfl,hR.symm.trans (if_pos ‹_›)⟩)
  |(refine new (fun hc hz=>?_) (fun hc hz=>?_)<;>(try subst hz)<;>(try have hb3:=one3 hq)<;>try rewrite [hc])
  |refine Mu (c:=39) (by omega) (fun r hr=>?_)
  |refine Cb (y:=false) (by(try simp only[Aj]at *);omega) ?_
  |refine Cw (x:=false) (by(try simp only[Aj]at *);omega) ?_
  |refine Bq (y:=false) (by(try simp only[Aj]at *);omega) ?_
  |refine Bv (by(try simp only[Aj]at *);omega) ?_
  |refine eqr ?_
  |refine limit_eq (by omega) (fun lim hlim=>?_)
  |(refine C4 (fun hc hz=>?_) (fun hc hz=>?_)<;>try rewrite [hc])
  |refine R3 (by omega) ‹_› (fun h' S=>?_)
  |refine J3 ‹_› (fun M hM h' S=>?_)
  |refine A6 ‹_› (.raw _) ⟨rfl,by simp⟩ (fun h' S=>?_))
 · have hlle:=S4 (List.take r.toNat l)
   rw[←hlim]at hlle
   replace hR:=(if_neg (show ¬((3,rb):Int×Bool).1≠3 from fun c=>c rfl)).symm.trans hR
   subst hr
   rw[if_pos hz]at hR
   rw[←hlim]at hR
   have hml:=Zq (t:=l) hb3.1 (by omega)
   have hmb:∀x∈Qa l (Ft l 39),x≤255:=Lg (Ef hl _) _
   conv=>lhs;whnf
   refine Mz (s:=Qa l (Ft l 39)) (ib:=3) (by omega) (most:=lim) (by rw[hlim];exact S4 _) (by omega) hmb
    (fun r A'=>∃c val:Int,A'=(Ad (Ad (Ad (Ad (Ad (Ad nx'))))),.raw (.loop M))::(Ad (Ad (Ad (Ad (Ad nx')))),.raw .marks)::(Ad (Ad (Ad (Ad nx'))),.row [.i .i64 lim] 2)::(Ad (Ad (Ad nx')),.row [.s r] 9)::(Ad (Ad nx'),.row [.i .i64 1] 3)::(Ad nx',.row [.i .i64 c] 3)::(nx',.row [.i .i64 val] 2)::(Ad nx,.row [.i .i64 0] 25)::(nx,.row [.i .i64 0] 2)::A ∧
      0≤c∧(c≤1∧0≤val∧val≤4294967295∧(c=0→val=0))∧(c=0→r=Qa l (Ft l 39))∧∃u:Nat,r.length+1≤u∧K7 (chF 1 lim) false u (r,c)=R)
    (fun r v d A'=>∃c val:Int,A'=(Ad (Ad (Ad (Ad (Ad (Ad nx'))))),.raw (.loop M))::(Ad (Ad (Ad (Ad (Ad nx')))),.raw .marks)::(Ad (Ad (Ad (Ad nx'))),.row [.i .i64 lim] 2)::(Ad (Ad (Ad nx')),.row [.s r] 9)::(Ad (Ad nx'),.row [.i .i64 1] 3)::(Ad nx',.row [.i .i64 c] 3)::(nx',.row [.i .i64 val] 2)::(Ad nx,.row [.i .i64 0] 25)::(nx,.row [.i .i64 0] 2)::A ∧
      1≤c∧(c≤1∧0≤val∧val≤4294967295∧(c=0→val=0))∧∃u:Nat,(r.drop d.toNat).length+1≤u∧K7 (chF 1 lim) false u (r.drop d.toNat,c)=R)
    (fun A'=>∃(r:List Nat) (c val:Int),A'=(Ad (Ad (Ad (Ad (Ad (Ad nx'))))),.raw (.loop (M.dn .ret)))::(Ad (Ad (Ad (Ad (Ad nx')))),.raw .marks)::(Ad (Ad (Ad (Ad nx'))),.row [.i .i64 lim] 2)::(Ad (Ad (Ad nx')),.row [.s r] 9)::(Ad (Ad nx'),.row [.i .i64 1] 3)::(Ad nx',.row [.i .i64 c] 3)::(nx',.row [.i .i64 val] 2)::(Ad nx,.row [.i .i64 40] 25)::(nx,.row [.i .i64 0] 2)::A∧R=false)
    ?_ ?_ S ⟨0,0,rfl,by omega,by omega,fun _=>rfl,_,by omega,hR⟩ ?_ ?_
   · rintro r A' ⟨c,val,rfl,_⟩;exact⟨rfl,by simp⟩
   · rintro r v d A' ⟨c,val,rfl,q1,q2,q3⟩
     exact⟨rfl,c,val,rfl,by omega,q2,fun h=>by omega,q3⟩
   · rintro r A' F h nx'' n k v d hn2 hr0 ⟨c,val,rfl,q1,q2,q3,u,q4,q5⟩ S he hvb hk1 hk2
     refine Ab hn2 (by omega) fun m' hm'=>?_
     subst hM
     repeat' ((conv=>lhs;whnf);first
      |refine A1 ‹_› 0 rfl ?_
      |refine D0 ‹_› 0 (.raw _) rfl ⟨rfl,by simp⟩ (fun h' S=>?_)
      |refine Au ‹_› 5 rfl (Aa rfl) rfl (fun h' S=>?_)
      |refine Au ‹_› 6 rfl (Aa rfl) rfl (fun h' S=>?_)
      |refine Au ‹_› 7 rfl (Aa rfl) rfl (fun h' S=>?_)
      |refine Au ‹_› 8 rfl (Aa rfl) rfl (fun h' S=>?_)
      |refine Ae ‹_› 4 rfl (Aa rfl) ?_
      |refine Ae ‹_› 5 rfl (Aa rfl) ?_
      |refine Ae ‹_› 6 rfl (Aa rfl) ?_
      |refine Bv (by omega) ?_
      |refine Bv (show -9223372036854775808≤val*256∧val*256≤9223372036854775807 by omega) ?_
      |refine Bv (show -9223372036854775808≤val*256+v∧val*256+v≤9223372036854775807 by omega) ?_
      |(refine C4 (fun hc hz=>?_) (fun hc hz=>?_)<;>try rewrite [hc])
      |exact hk2 _ _ _ ⟨r,_,_,rfl,(Dp (chF_x hr0 he (.inl ‹_›)) (by omega) q5).symm⟩ ‹_›
      |exact hk2 _ _ _ ⟨r,_,_,rfl,(Dp (chF_x hr0 he (.inr ‹_›)) (by omega) q5).symm⟩ ‹_›
      |(have hlr:=Qy hr0
        exact hk1 _ _ _ (fun _=>⟨c+1,val*256+v,rfl,by omega,by omega,u-1,by rw[Ax];omega,Kt (chF_n hr0 he ‹_› ‹_›) (by omega) q5⟩) (fun hh=>absurd hh (by omega)) ‹_›))
   · rintro A' h nx'' hJ S
     subst hM
     rcases hJ with⟨c,val,rfl,q1,q2,q3,u,q4,q5⟩|⟨r,c,val,rfl,q3⟩
     · have hR2:=Dp chF_0 (by omega) q5
       have hc1:c≠0:=fun h=>by have:=congrArg List.length (q3 h);simp only[Dv]at this;rw[hml]at this;omega
       have hc2:c=1∨c=2∨c=3∨c=4:=by omega
       rcases hc2 with rfl|rfl|rfl|rfl
       all_goals
        repeat' ((conv=>lhs;whnf);first
         |refine A1 ‹_› 0 rfl ?_
         |refine Bm ‹_› 0 rfl (fun h' S=>?_)
         |exact absurd hz (by omega)
         |refine Ae ‹_› 4 rfl (Aa rfl) ?_
         |refine Ae ‹_› 5 rfl (Aa rfl) ?_
         |refine Ae ‹_› 6 rfl (Aa rfl) ?_
         |refine Ae ‹_› 7 rfl (Aa rfl) ?_
         |refine Au ‹_› 6 rfl (Aa rfl) rfl (fun h' S=>?_)
         |refine Au ‹_› 7 rfl (Aa rfl) rfl (fun h' S=>?_)
         |refine Bv (by decide) ?_
         |exact hk _ _ _ _ (Sat.right (C:=[_,_,_,_,_,_,_]) ‹_›) (.inl ⟨rfl,hR2.symm⟩)
         |(refine C4 (fun hc hz=>?_) (fun hc hz=>?_)<;>try rewrite [hc])
         |(refine bw (fun hc=>?_) (fun hc=>?_)))
     · repeat' ((conv=>lhs;whnf);first
        |refine A1 ‹_› 0 rfl ?_
        |refine Bm ‹_› 0 rfl (fun h' S=>?_)
        |refine Ae ‹_› 5 rfl (Aa rfl) ?_
        |refine Ae ‹_› 6 rfl (Aa rfl) ?_
        |exact hk _ _ _ _ (Sat.right (C:=[_,_,_,_,_,_,_]) ‹_›) (.inr ⟨rfl,q3⟩))
 · have hr0:r=0:=by omega
   have hlle:lim=255:=by rw[hlim,hr0];rfl
   replace hR:=(if_neg (show ¬((3,rb):Int×Bool).1≠3 from fun c=>c rfl)).symm.trans hR
   subst hr
   rw[if_neg (by omega)]at hR
   rw[←hlim]at hR
   have hml:=Zq (t:=l) hb3.1 (by omega)
   have hmb:∀x∈Qa l (Ft l 39),x≤255:=Lg (Ef hl _) _
   conv=>lhs;whnf
   refine Mz (s:=Qa l (Ft l 39)) (ib:=3) (by omega) (most:=lim) (by rw[hlim];exact S4 _) (by omega) hmb
    (fun r A'=>∃c val:Int,A'=(Ad (Ad (Ad (Ad (Ad (Ad nx'))))),.raw (.loop M))::(Ad (Ad (Ad (Ad (Ad nx')))),.raw .marks)::(Ad (Ad (Ad (Ad nx'))),.row [.i .i64 lim] 2)::(Ad (Ad (Ad nx')),.row [.s r] 9)::(Ad (Ad nx'),.row [.i .i64 4] 3)::(Ad nx',.row [.i .i64 c] 3)::(nx',.row [.i .i64 val] 2)::(Ad nx,.row [.i .i64 0] 25)::(nx,.row [.i .i64 0] 2)::A ∧
      0≤c∧(c≤4∧0≤val∧(c=0→val=0)∧(c≤1→val≤255)∧(c≤2→val≤65535)∧(c≤3→val≤16777215)∧val≤4294967295)∧(c=0→r=Qa l (Ft l 39))∧∃u:Nat,r.length+1≤u∧K7 (chF 4 lim) false u (r,c)=R)
    (fun r v d A'=>∃c val:Int,A'=(Ad (Ad (Ad (Ad (Ad (Ad nx'))))),.raw (.loop M))::(Ad (Ad (Ad (Ad (Ad nx')))),.raw .marks)::(Ad (Ad (Ad (Ad nx'))),.row [.i .i64 lim] 2)::(Ad (Ad (Ad nx')),.row [.s r] 9)::(Ad (Ad nx'),.row [.i .i64 4] 3)::(Ad nx',.row [.i .i64 c] 3)::(nx',.row [.i .i64 val] 2)::(Ad nx,.row [.i .i64 0] 25)::(nx,.row [.i .i64 0] 2)::A ∧
      1≤c∧(c≤4∧0≤val∧(c=0→val=0)∧(c≤1→val≤255)∧(c≤2→val≤65535)∧(c≤3→val≤16777215)∧val≤4294967295)∧∃u:Nat,(r.drop d.toNat).length+1≤u∧K7 (chF 4 lim) false u (r.drop d.toNat,c)=R)
    (fun A'=>∃(r:List Nat) (c val:Int),A'=(Ad (Ad (Ad (Ad (Ad (Ad nx'))))),.raw (.loop (M.dn .ret)))::(Ad (Ad (Ad (Ad (Ad nx')))),.raw .marks)::(Ad (Ad (Ad (Ad nx'))),.row [.i .i64 lim] 2)::(Ad (Ad (Ad nx')),.row [.s r] 9)::(Ad (Ad nx'),.row [.i .i64 4] 3)::(Ad nx',.row [.i .i64 c] 3)::(nx',.row [.i .i64 val] 2)::(Ad nx,.row [.i .i64 40] 25)::(nx,.row [.i .i64 0] 2)::A∧R=false)
    ?_ ?_ S ⟨0,0,rfl,by omega,by omega,fun _=>rfl,_,by omega,hR⟩ ?_ ?_
   · rintro r A' ⟨c,val,rfl,_⟩;exact⟨rfl,by simp⟩
   · rintro r v d A' ⟨c,val,rfl,q1,q2,q3⟩
     exact⟨rfl,c,val,rfl,by omega,q2,fun h=>by omega,q3⟩
   · rintro r A' F h nx'' n k v d hn2 hr0 ⟨c,val,rfl,q1,q2,q3,u,q4,q5⟩ S he hvb hk1 hk2
     refine Ab hn2 (by omega) fun m' hm'=>?_
     subst hM
     repeat' ((conv=>lhs;whnf);first
      |refine A1 ‹_› 0 rfl ?_
      |refine D0 ‹_› 0 (.raw _) rfl ⟨rfl,by simp⟩ (fun h' S=>?_)
      |refine Au ‹_› 5 rfl (Aa rfl) rfl (fun h' S=>?_)
      |refine Au ‹_› 6 rfl (Aa rfl) rfl (fun h' S=>?_)
      |refine Au ‹_› 7 rfl (Aa rfl) rfl (fun h' S=>?_)
      |refine Au ‹_› 8 rfl (Aa rfl) rfl (fun h' S=>?_)
      |refine Ae ‹_› 4 rfl (Aa rfl) ?_
      |refine Ae ‹_› 5 rfl (Aa rfl) ?_
      |refine Ae ‹_› 6 rfl (Aa rfl) ?_
      |refine Bv (by omega) ?_
      |refine Bv (show -9223372036854775808≤val*256∧val*256≤9223372036854775807 by omega) ?_
      |refine Bv (show -9223372036854775808≤val*256+v∧val*256+v≤9223372036854775807 by omega) ?_
      |(refine C4 (fun hc hz=>?_) (fun hc hz=>?_)<;>try rewrite [hc])
      |exact hk2 _ _ _ ⟨r,_,_,rfl,(Dp (chF_x hr0 he (.inl ‹_›)) (by omega) q5).symm⟩ ‹_›
      |exact hk2 _ _ _ ⟨r,_,_,rfl,(Dp (chF_x hr0 he (.inr ‹_›)) (by omega) q5).symm⟩ ‹_›
      |(have hlr:=Qy hr0
        exact hk1 _ _ _ (fun _=>⟨c+1,val*256+v,rfl,by omega,by omega,u-1,by rw[Ax];omega,Kt (chF_n hr0 he ‹_› ‹_›) (by omega) q5⟩) (fun hh=>absurd hh (by omega)) ‹_›))
   · rintro A' h nx'' hJ S
     subst hM
     rcases hJ with⟨c,val,rfl,q1,q2,q3,u,q4,q5⟩|⟨r,c,val,rfl,q3⟩
     · have hR2:=Dp chF_0 (by omega) q5
       have hc1:c≠0:=fun h=>by have:=congrArg List.length (q3 h);simp only[Dv]at this;rw[hml]at this;omega
       have hc2:c=1∨c=2∨c=3∨c=4:=by omega
       rcases hc2 with rfl|rfl|rfl|rfl
       all_goals
        repeat' ((conv=>lhs;whnf);first
         |refine A1 ‹_› 0 rfl ?_
         |refine Bm ‹_› 0 rfl (fun h' S=>?_)
         |exact absurd hz (by omega)
         |refine Ae ‹_› 4 rfl (Aa rfl) ?_
         |refine Ae ‹_› 5 rfl (Aa rfl) ?_
         |refine Ae ‹_› 6 rfl (Aa rfl) ?_
         |refine Ae ‹_› 7 rfl (Aa rfl) ?_
         |refine Au ‹_› 6 rfl (Aa rfl) rfl (fun h' S=>?_)
         |refine Au ‹_› 7 rfl (Aa rfl) rfl (fun h' S=>?_)
         |refine Bv (by decide) ?_
         |exact hk _ _ _ _ (Sat.right (C:=[_,_,_,_,_,_,_]) ‹_›) (.inl ⟨rfl,hR2.symm⟩)
         |(refine C4 (fun hc hz=>?_) (fun hc hz=>?_)<;>try rewrite [hc])
         |(refine bw (fun hc=>?_) (fun hc=>?_)))
     · repeat' ((conv=>lhs;whnf);first
        |refine A1 ‹_› 0 rfl ?_
        |refine Bm ‹_› 0 rfl (fun h' S=>?_)
        |refine Ae ‹_› 5 rfl (Aa rfl) ?_
        |refine Ae ‹_› 6 rfl (Aa rfl) ?_
        |exact hk _ _ _ _ (Sat.right (C:=[_,_,_,_,_,_,_]) ‹_›) (.inr ⟨rfl,q3⟩))
theorem sat_new1 {h:H} {nx:Pos} {A:List Av} (S:Sat h nx A) {ty:Nat} {v:AV} {cs:T AV} (hv:T.get .x cs .h=v) {k:Pos→H→Pos→Bool} (hk:∀h',Sat h' (Ad nx) ((nx,.row [v] ty)::A)→k nx h' (Ad nx)=true):Kj h nx (.cells 1 cs 0 false ty) k=true:=
 A6 S (.row [v] ty) ⟨cs,rfl,fun i hi=>by
  have:i=0:=by simp at hi;omega
  subst this;exact hv⟩ hk
theorem Sat.mid {h:H} {nx:Pos} {x b:Av} {L R:List Av} (S:Sat h nx (x::b::(L++R))):Sat h nx (L++x::R):=
 (S.sub (List.Sublist.cons_cons x (List.sublist_cons_self b _))).perm List.perm_middle.symm
def stF (lim:Int) (s:List Nat):List Nat ⊕ Bool:=if s=[]then .inr true else if(Sb s lim).1<0 then .inr false else .inl (s.drop (Sb s lim).2.toNat)
theorem stF_0 {lim:Int}:stF lim []=.inr true:=rfl
theorem stF_x {lim v d:Int} {r:List Nat} (h:r≠[]) (he:(v,d)=Sb r lim) (h2:v<0):stF lim r=.inr false:=by
 unfold stF;rw[if_neg h,←he,if_pos h2]
theorem stF_n {lim v d:Int} {r:List Nat} (h:r≠[]) (he:(v,d)=Sb r lim) (h1:0≤v):stF lim r=.inl (r.drop d.toNat):=by
 unfold stF;rw[if_neg h,←he,if_neg (by show ¬v<0;omega)]
noncomputable def strB (t:List Nat):Bool:=if(N3 t).1≠4 then false else K7 (stF (limE (t.take (Ft t 34).toNat))) false ((Qa t (Ft t 34)).length+2) (Qa t (Ft t 34))
def Gr1 (lv:AV) (X:List Av) (n:Nat):Prop:=lv=.sl0∧X=[]∨∃q m LL,lv=.sl q 0 m (.u 1)∧X=[(q,.row LL 2)]∧m≤LL.length∧m≤n
theorem str_eq {n:Nat} (hn:3000030≤n) {l:List Nat} (hs:l.length≤100000) (hl:∀x∈l,x≤255) {z:Int} {A:List Av} (hG:(Ay 2,OB.raw (R5 z))∈A) {kp:KP} {h:H} {nx:Pos} (S:Sat h nx A) {k:K}
 (hk:∀v (e:Int) h' nx',Sat h' nx' A→(e=0∧strB l=true∨e=40∧strB l=false)→k (.tu [v,.i .i64 e]) h' nx'=true):Ai gg n kp (.fn 34 []) [.s l] h nx k=true:=by
 refine Ab hn (by omega) fun m hm=>?_
 generalize hR:strB l=R at hk
 unfold strB at hR
 repeat' ((conv=>lhs;whnf);first
  |rw[take_z]
  |refine Cp ‹_› rfl (fun h' S=>?_)
  |(refine one_eq (by omega) hs (Am _ (Am _ hG)) ‹_› (fun rk rb h' nx' S hq=>?_);rw[←hq]at hR)
  |refine Au ‹_› 0 rfl (Aa rfl) rfl (fun h' S=>?_)
  |refine Au ‹_› 1 rfl (Aa rfl) rfl (fun h' S=>?_)
  |refine Ae ‹_› 0 rfl (Aa rfl) ?_
  |refine Ae ‹_› 1 rfl (Aa rfl) ?_
  |exact hk _ _ _ _ (Sat.right (C:=[_,_]) ‹_›) (.inr ⟨rfl,hR.symm.trans (if_pos ‹_›)⟩)
  |(refine new (fun hc hz=>?_) (fun hc hz=>?_)<;>(try subst hz)<;>(try have hb3:=one4 hq)<;>try rewrite [hc])
  |refine Mu (c:=34) (by omega) (fun r hr=>?_)
  |refine Cb (y:=false) (by(try simp only[Aj]at *);omega) ?_
  |refine Cw (x:=false) (by(try simp only[Aj]at *);omega) ?_
  |refine Bq (y:=false) (by(try simp only[Aj]at *);omega) ?_
  |refine Bv (by(try simp only[Aj]at *);omega) ?_
  |refine eqr ?_
  |refine limit_eq (by omega) (fun lim hlim=>?_)
  |(refine C4 (fun hc hz=>?_) (fun hc hz=>?_)<;>try rewrite [hc])
  |refine R3 (by omega) ‹_› (fun h' S=>?_)
  |refine J3 ‹_› (fun M hM h' S=>?_)
  |refine A6 ‹_› (.raw _) ⟨rfl,by simp⟩ (fun h' S=>?_))
 replace hR:=(if_neg (show ¬((4,rb):Int×Bool).1≠4 from fun c=>c rfl)).symm.trans hR
 subst hr
 rw[←hlim]at hR
 have hlle:=S4 (List.take (Ft l 34).toNat l)
 rw[←hlim]at hlle
 have hml:=Zq (t:=l) hb3.1 (by omega)
 have hmb:∀x∈Qa l (Ft l 34),x≤255:=Lg (Ef hl _) _
 conv=>lhs;whnf
 refine Mz (s:=Qa l (Ft l 34)) (ib:=3) (by omega) (most:=lim) hlle (by omega) hmb
  (fun r A'=>∃lv X,A'=(Ad (Ad (Ad (Ad nx'))),.raw (.loop M))::(Ad (Ad (Ad nx')),.raw .marks)::(Ad (Ad nx'),.row [.i .i64 lim] 2)::(Ad nx',.row [.s r] 9)::(nx',.row [lv] 114)::(Ad nx,.row [.i .i64 0] 25)::(nx,.row [.sl0] 114)::(X++A) ∧
    (∃c,Gr1 lv X c∧c+r.length≤100000)∧∃u:Nat,r.length+1≤u∧K7 (stF lim) false u r=R)
  (fun r v d A'=>∃lv X,A'=(Ad (Ad (Ad (Ad nx'))),.raw (.loop M))::(Ad (Ad (Ad nx')),.raw .marks)::(Ad (Ad nx'),.row [.i .i64 lim] 2)::(Ad nx',.row [.s r] 9)::(nx',.row [lv] 114)::(Ad nx,.row [.i .i64 0] 25)::(nx,.row [.sl0] 114)::(X++A) ∧
    (∃c,Gr1 lv X c∧c+(r.drop d.toNat).length≤100000)∧∃u:Nat,(r.drop d.toNat).length+1≤u∧K7 (stF lim) false u (r.drop d.toNat)=R)
  (fun A'=>∃(r:List Nat) (lv w:AV) (X:List Av),A'=(Ad (Ad (Ad (Ad nx'))),.raw (.loop (M.dn .ret)))::(Ad (Ad (Ad nx')),.raw .marks)::(Ad (Ad nx'),.row [.i .i64 lim] 2)::(Ad nx',.row [.s r] 9)::(nx',.row [lv] 114)::(Ad nx,.row [.i .i64 40] 25)::(nx,.row [w] 114)::(X++A)∧R=false)
  ?_ ?_ S ⟨.sl0,[],rfl,⟨0,.inl ⟨rfl,rfl⟩,by omega⟩,_,by omega,hR⟩ ?_ ?_
 · rintro r A' ⟨lv,X,rfl,_⟩;exact⟨rfl,by simp⟩
 · rintro r v d A' ⟨lv,X,rfl,q1,q3⟩
   exact⟨rfl,lv,X,rfl,q1,q3⟩
 · rintro r A' F h nx'' n k v d hn2 hr0 ⟨lv,X,rfl,⟨c,q1,q2⟩,u,q4,q5⟩ S he hvb hk1 hk2
   have hlr:=Qy hr0
   have hld:(r.drop d.toNat).length+1≤r.length:=by rw[Ax];omega
   refine Ab hn2 (by omega) fun m' hm'=>?_
   subst hM
   rcases q1 with⟨rfl,rfl⟩|⟨q,mm,LL,rfl,rfl,q6,q7⟩
   all_goals
    repeat' ((conv=>lhs;whnf);first
     |refine A1 ‹_› 0 rfl ?_
     |refine D0 ‹_› 0 (.raw _) rfl ⟨rfl,by simp⟩ (fun h' S=>?_)
     |refine Au ‹_› 5 rfl (Aa rfl) rfl (fun h' S=>?_)
     |refine Au ‹_› 6 rfl (Aa rfl) rfl (fun h' S=>?_)
     |refine Ae ‹_› 4 rfl (Aa rfl) ?_
     |refine sat_new1 ‹_› rfl (fun h' S=>?_)
     |refine Da ‹_› 0 rfl (Aa rfl) ?_
     |refine G7 ‹_› (Aa rfl) rfl (fun h' S=>?_)
     |(refine G6 ‹_› 8 rfl (show mm*1≤LL.length by omega) rfl (show(mm+1) * 9≤1000000000 by omega) rfl (fun h' S=>?_))
     |refine A1 ‹_› 2 rfl ?_
     |refine D0 ‹_› 2 (.raw _) rfl ⟨rfl,by simp⟩ (fun h' S=>?_)
     |(refine C4 (fun hc hz=>?_) (fun hc hz=>?_)<;>try rewrite [hc])
     |exact hk2 _ _ _ ⟨r,_,_,_,rfl,(Dp (stF_x hr0 he ‹_›) (by omega) q5).symm⟩ ‹_›)
   · have S2:=Sat.mid (L:=[_,_,_,_,_,_,_]) (R:=A++F) S
     exact hk1 (_::_::_::_::_::_::_::(_::A)) _ _ (fun _=>⟨_,[_],rfl,⟨c+1,.inr ⟨_,1,_,rfl,rfl,Ag _,by omega⟩,by omega⟩,u-1,by omega,Kt (stF_n hr0 he ‹_›) (by omega) q5⟩) (fun hh=>absurd hh (by omega)) S2
   · have S2:=Sat.mid (L:=[_,_,_,_,_,_,_]) (R:=A++F) S
     exact hk1 (_::_::_::_::_::_::_::(_::A)) _ _ (fun _=>⟨_,[_],rfl,⟨c+1,.inr ⟨_,mm+1,_,rfl,rfl,by rw[Bb,Ci];show mm+1≤min (mm*1) LL.length+1;omega,by omega⟩,by omega⟩,u-1,by omega,Kt (stF_n hr0 he ‹_›) (by omega) q5⟩) (fun hh=>absurd hh (by omega)) S2
 · rintro A' h nx'' hJ S
   subst hM
   rcases hJ with⟨lv,X,rfl,q1,u,q4,q5⟩|⟨r,lv,w,X,rfl,q3⟩
   · have hR2:=Dp stF_0 (by omega) q5
     obtain⟨c,q1,q2⟩:=q1
     rcases q1 with⟨rfl,rfl⟩|⟨q,mm,LL,rfl,rfl,q6,q7⟩
     all_goals
      repeat' ((conv=>lhs;whnf);first
       |refine A1 ‹_› 0 rfl ?_
       |refine Bm ‹_› 0 rfl (fun h' S=>?_)
       |refine Ae ‹_› 2 rfl (Aa rfl) ?_
       |refine Ae ‹_› 3 rfl (Aa rfl) ?_
       |refine Ae ‹_› 4 rfl (Aa rfl) ?_
       |refine Au ‹_› 4 rfl (Aa rfl) rfl (fun h' S=>?_)
       |refine Au ‹_› 5 rfl (Aa rfl) rfl (fun h' S=>?_)
       |exact hk _ _ _ _ (Sat.right (C:=[_,_,_,_,_]) ‹_›) (.inl ⟨rfl,hR2.symm⟩)
       |exact hk _ _ _ _ (Sat.right (C:=[_,_,_,_,_,_]) ‹_›) (.inl ⟨rfl,hR2.symm⟩))
   · repeat' ((conv=>lhs;whnf);first
      |refine A1 ‹_› 0 rfl ?_
      |refine Bm ‹_› 0 rfl (fun h' S=>?_)
      |refine Ae ‹_› 3 rfl (Aa rfl) ?_
      |refine Ae ‹_› 4 rfl (Aa rfl) ?_
      |exact hk _ _ _ _ (Sat.right (C:=X) (Sat.right (C:=[_,_,_,_,_]) ‹_›)) (.inr ⟨rfl,q3⟩))
noncomputable def Ka (kd:Int) (t:List Nat):Option (Int×List Nat):=
 if kd=1 then some (if kwB t=true then 1 else 2,t)
 else if kd=2 then(if intB t=true then some (3,t)else if floB t=true then some (4,t)else none)
 else if kd=3 then(if chrB t=true then some (5,t)else none)
 else if kd=4 then(if strB t=true then some (6,t)else none)
 else if kd=5 then some (7,canE t)else none
def clsV:Option (Int×List Nat)→AV
 |some (c,t)=>.ag [.i .i64 c,.s t]
 |none=>.ag [.i .i64 0,.s []]
def clsN:Option (Int×List Nat)→Int
 |some _=>0
 |none=>40
theorem U5 {n:Nat} (hn:3000050≤n) {kd:Int} {l:List Nat} (hs:l.length≤100000) (hl:∀x∈l,x≤255) {z:Int} {A:List Av} (hG:(Ay 2,OB.raw (R5 z))∈A) {kp:KP} {h:H} {nx:Pos} (S:Sat h nx A) {k:K}
 (hk:∀h' nx',Sat h' nx' A→k (.tu [clsV (Ka kd l),.i .i64 (clsN (Ka kd l))]) h' nx'=true):Ai gg n kp (.fn 11 []) [.i .i64 kd,.s l] h nx k=true:=by
 refine Ab hn (by omega) fun m hm=>?_
 generalize hR:Ka kd l=R at hk
 unfold Ka at hR
 repeat' ((conv=>lhs;whnf);first
  |contradiction
  |exact absurd hz (by decide)
  |refine Cp ‹_› rfl (fun h' S=>?_)
  |refine Au ‹_› 0 rfl (Aa rfl) rfl (fun h' S=>?_)
  |refine Da ‹_› 0 rfl (Aa rfl) ?_
  |(refine keyword_eq (by omega) (fun b hb=>?_);rw[←hb]at hR;cases b)
  |(refine int_eq (by omega) hs hl ‹_› (fun v u e h' nx' S he=>?_);rcases he with⟨rfl,hb⟩|⟨rfl,hb⟩<;>rw[hb]at hR)
  |(refine float_eq (by omega) hs hl ‹_› (fun b h' nx' S hb=>?_);rw[←hb]at hR;cases b)
  |(refine char_eq (by omega) hs hl (Am _ hG) ‹_› (fun v e h' nx' S he=>?_);rcases he with⟨rfl,hb⟩|⟨rfl,hb⟩<;>rw[hb]at hR)
  |(refine str_eq (by omega) hs hl (Am _ hG) ‹_› (fun v e h' nx' S he=>?_);rcases he with⟨rfl,hb⟩|⟨rfl,hb⟩<;>rw[hb]at hR)
  |(refine canon_eq (by omega) (fun r hr=>?_);rw[←hr]at hR)
  |(refine Cu (fun hc hz=>?_) (fun hc hz=>?_)<;>(first|rw[if_pos hz]at hR|rw[if_neg hz]at hR|skip)<;>try rewrite [hc])
  |(subst hR;exact hk _ _ (Sat.right (C:=[_]) ‹_›)))
 all_goals skip
end Go.CE
