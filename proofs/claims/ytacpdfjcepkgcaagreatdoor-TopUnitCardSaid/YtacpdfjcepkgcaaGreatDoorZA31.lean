/- Part 31 of the lemmas behind the claim. -/
import Derived.Test.YtacpdfjcepkgcaaGreatDoorZA01
import Derived.Test.YtacpdfjcepkgcaaGreatDoorZA30
set_option linter.unusedSimpArgs false
set_option linter.unusedVariables false
set_option linter.constructorNameAsVariable false
set_option linter.unusedSectionVars false
set_option linter.defProp false
set_option maxRecDepth 100000
set_option maxHeartbeats 40000000
namespace Go.CE
open Go Go.Ps Go.Proofs.YtacpdfjcepkgcaaGreatDoor
attribute [local irreducible] loopK Ai K0 N2 Dg fits rd rd1 wr newC Kj Fk Fa Ve
variable {h : H} {nx : Pos} {n : Nat} {kp : KP} {k : K}
def Mv (BL:List Nat):Nat:=BL.getLast?.getD 0
theorem Ev {A:List Av} (S:Sat h nx A) {p:Pos} {L:List AV} {ty off:Nat} {v:AV} {k:AV→Bool} (hm:(p,.row L ty)∈A) (ho:off<L.length) (hv:L.getD off .x=v) (hk:k v=true):rd1 h p off k=true:=by
 obtain⟨j,hj⟩:=Ih.1 hm
 refine Ae S j hj ho ?_
 rw[hv];exact hk
theorem Aam (c:Ch):Jf (Oy c)=[.s c.n,.b (decide (c.now=1))]:=rfl
theorem decl_iter {J:Nat→List Av→Prop} {yv:AV} {b pp:Pos} {c0 c1 c2 c3 cg bk:AV} {mp:AV} {CL:List Ch} {BL:List Nat} {EC EB:List Av} (hn:20000100≤n)
 (hcg:GrA 3 202 cg (CL.flatMap Ji) EC) (hbk:GrA 1 3 bk (BL.map iA) EB) (hf:Mv BL≤CL.length) (hl:CL.length≤10000000) (hbl:BL.length≤10000000)
 (hJ:∀i A,J i A→(b,.row [.p pp 3] 200)∈A∧(pp,.row [c0,c1,c2,c3,mp,cg,bk] 66)∈A∧(∀e∈EC,e∈A)∧(∀e∈EB,e∈A))
 (hy:∀i (hi:i<(CL.drop (Mv BL)).length) (n:Nat) A G h nx k,20000000≤n→J i A→Sat h nx (A++G)→(∀A' G' h' nx',J (i+1) A'→Sat h' nx' (A'++G')→k (.b true) h' nx'=true)→Ai gg n kp yv [.ag (Jf (Oy (CL.drop (Mv BL))[i]))] h nx k=true)
 {A G:List Av} (h0:J 0 A) (S:Sat h nx (A++G)) (hk:∀A' G' h' nx',J (CL.drop (Mv BL)).length A'→Sat h' nx' (A'++G')→k (.tu []) h' nx'=true) :
 Ai gg n kp (.fn 197 [.p b 0]) [yv] h nx k=true:=by
 refine Ab hn (by omega) fun mm hm=>?_
 obtain⟨j1,j2,j3,j4⟩:=hJ _ _ h0
 have j1:=B7 G j1
 have j2:=B7 G j2
 have j3:=fun e he=>B7 G (j3 e he)
 have j4:=fun e he=>B7 G (j4 e he)
 have hcg':cg=.sl0∧CL=[]∨∃q LL,cg=.sl q 0 CL.length (.u 3)∧LL.take (CL.length*3)=CL.flatMap Ji∧CL.length*3≤LL.length∧EC=[(q,.row LL 202)]:=by
  rcases hcg.inv with⟨h1,h2,h3⟩|⟨q,n',LL,h1,h2,h3,h4⟩
  · exact .inl ⟨h1,Dh Dk (by omega) h2⟩
  · have hl:CL.length=n':=El (off:=0) Dk (by omega) (by simpa using h2) (by omega)
    subst hl
    exact .inr ⟨q,LL,h1,h2,h3,h4⟩
 rcases hbk.inv with⟨rfl,h2,h3⟩|⟨p,n',LL,rfl,h2,h3,h4⟩
 · have hB:BL=[]:=List.map_eq_nil_iff.1 h2
   subst hB
   have hfr:Mv ([]:List Nat)=0:=rfl
   simp only[hfr]at hf hy hk
   rcases hcg' with⟨rfl,rfl⟩|⟨q,CLL,rfl,g2,g3,g4⟩
   · skip
     repeat' ((conv=>lhs;whnf);first
      |refine Ev S j1 (Aa rfl) rfl ?_
      |refine Ev S j2 (Aa rfl) rfl ?_
      |refine L7 rfl ?_
      |refine Bq (Ag _) ?_
      |refine Bq hf ?_
      |refine Cb (Int.le_refl _) ?_
      |refine Cb (Fw _) ?_
      |(refine C4 (fun hc hz=>?_) (fun hc hz=>?_)<;>first|(exfalso;(try simp only[Aj,Nat.sub_eq,Nat.sub_zero,Ax,Dv,Hi]at hz);omega)|rewrite [hc]))
     conv=>lhs;whnf
     refine Br (L:=[0,29,30,31]) rfl (fun m' vs d' h' nx'=>∃(i:Nat) (A G:List Av),d'=[]∧vs=[yv,.sl0,iA 0,iA i]∧i+m'=(([]:List Ch).drop 0).length∧J i A∧Sat h' nx' (A++G)) (([]:List Ch).drop 0).length (by rw[Ax];omega) ⟨0,_,_,rfl,rfl,by omega,h0,S⟩ ?_
     rintro m' _ d' h' nx' ⟨i,A',G',rfl,rfl,him,hJi,S⟩ k' hn' hx
     have hlen:=Ax (i:=0) (l:=([]:List Ch))
     cases m' with
     |zero=>
      have hi0:i=(([]:List Ch).drop 0).length:=by omega
      subst hi0
      repeat' ((conv=>lhs;whnf);first
       |(refine C4 (fun hc hz=>?_) (fun hc hz=>?_)<;>first|(exfalso;(try simp only[Aj,Nat.sub_eq,Nat.sub_zero,Ax,Dv,Hi]at hz);omega)|rewrite [hc])
       |refine hx _ _ _ _ _ trivial ?_
       |exact hk _ _ _ _ hJi S)
     |succ m'=>exfalso;simp at him
   · skip
     repeat' ((conv=>lhs;whnf);first
      |refine Ev S j1 (Aa rfl) rfl ?_
      |refine Ev S j2 (Aa rfl) rfl ?_
      |refine L7 rfl ?_
      |refine Bq (Ag _) ?_
      |refine Bq hf ?_
      |refine Cb (Int.le_refl _) ?_
      |refine Cb (Fw _) ?_
      |(refine C4 (fun hc hz=>?_) (fun hc hz=>?_)<;>first|(exfalso;(try simp only[Aj,Nat.sub_eq,Nat.sub_zero,Ax,Dv,Hi]at hz);omega)|rewrite [hc]))
     conv=>lhs;whnf
     refine Br (L:=[0,29,30,31]) rfl (fun m' vs d' h' nx'=>∃(i:Nat) (A G:List Av),d'=[]∧vs=[yv,.sl q (Nat.add 0 (Nat.mul 0 3)) (Nat.sub CL.length 0) (.u 3),iA (Nat.sub CL.length 0),iA i]∧i+m'=(CL.drop 0).length∧J i A∧Sat h' nx' (A++G)) (CL.drop 0).length (by rw[Ax];omega) ⟨0,_,_,rfl,rfl,by omega,h0,S⟩ ?_
     rintro m' _ d' h' nx' ⟨i,A',G',rfl,rfl,him,hJi,S⟩ k' hn' hx
     have hlen:=Ax (i:=0) (l:=CL)
     cases m' with
     |zero=>
      have hi0:i=(CL.drop 0).length:=by omega
      subst hi0
      repeat' ((conv=>lhs;whnf);first
       |(refine C4 (fun hc hz=>?_) (fun hc hz=>?_)<;>first|(exfalso;(try simp only[Aj,Nat.sub_eq,Nat.sub_zero,Ax,Dv,Hi]at hz);omega)|rewrite [hc])
       |refine hx _ _ _ _ _ trivial ?_
       |exact hk _ _ _ _ hJi S)
     |succ m'=>
      have hil:i<(CL.drop 0).length:=by omega
      have hil2:0+i<CL.length:=by omega
      obtain⟨e0,e1⟩:=J2 (off:=0) Dk (by simpa using g2) (by omega) (by omega) hil2
      obtain⟨j1,j2,j3,j4⟩:=hJ _ _ hJi
      have hq:=B7 G' (j3 _ (by rw[g4];exact Aw ..))
      repeat' ((conv=>lhs;whnf);first
       |(refine C4 (fun hc hz=>?_) (fun hc hz=>?_)<;>first|(exfalso;(try simp only[Aj,Nat.sub_eq,Nat.sub_zero,Ax,Dv,Hi]at hz);omega)|rewrite [hc])
       |refine Cb (Fw _) ?_
       |refine Cw (show i<_ by show i<_-_;omega) ?_
       |refine Lh S (v:=Ji CL[0+i]) hq (by show 0+0*3+i*3+3≤_;omega) (by rw[←e1];congr 2;show 0+0*3+i*3=_;omega) ?_
       |refine Cp ‹_› rfl fun h1 S=>?_
       |refine Au ‹_› 0 rfl (Aa rfl) rfl fun h1 S=>?_
       |refine Ae ‹_› 0 rfl (Aa rfl) ?_)
      conv=>lhs;whnf
      have hge:(CL.drop 0)[i]=CL[0+i]:=by simp
      have hyi:=hy i hil mm A' ((nx',.row (D7 (Vo Pi.zero) 0 (Ji CL[0+i])) 202)::G') h1 (Ad nx')
      rw[Aam,hge,←I4]at hyi
      refine hyi _ (by omega) hJi (S.perm List.perm_middle.symm) fun A2 G2 h2 nx2 hJ2 S2=>?_
      repeat' ((conv=>lhs;whnf);first
       |refine Bv (by(try simp only[Aj]at *);omega) ?_
       |(refine hn' _ _ _ _ m' (by omega) ⟨i+1,A2,G2,rfl,rfl,by omega,hJ2,S2⟩))
 · have hl2:BL.length=n':=El (off:=0) iA_len (by omega) (by rw[map_iA]at h2;simpa using h2) (by omega)
   subst hl2
   rcases List.eq_nil_or_concat BL with hB|⟨b',fr,hB⟩
   · subst hB
     have hfr:Mv ([]:List Nat)=0:=rfl
     try simp only[hfr]at hf hy hk
     rcases hcg' with⟨rfl,rfl⟩|⟨q,CLL,rfl,g2,g3,g4⟩
     · skip
       repeat' ((conv=>lhs;whnf);first
        |refine Ev S j1 (Aa rfl) rfl ?_
        |refine Ev S j2 (Aa rfl) rfl ?_
        |refine L7 rfl ?_
        |refine Bq (Ag _) ?_
        |refine Bq hf ?_
        |refine Cb (Int.le_refl _) ?_
        |refine Cb (Fw _) ?_
        |(refine C4 (fun hc hz=>?_) (fun hc hz=>?_)<;>first|(exfalso;(try simp only[Aj,Nat.sub_eq,Nat.sub_zero,Ax,Dv,Hi]at hz);omega)|rewrite [hc]))
       conv=>lhs;whnf
       refine Br (L:=[0,29,30,31]) rfl (fun m' vs d' h' nx'=>∃(i:Nat) (A G:List Av),d'=[]∧vs=[yv,.sl0,iA 0,iA i]∧i+m'=(([]:List Ch).drop 0).length∧J i A∧Sat h' nx' (A++G)) (([]:List Ch).drop 0).length (by rw[Ax];omega) ⟨0,_,_,rfl,rfl,by omega,h0,S⟩ ?_
       rintro m' _ d' h' nx' ⟨i,A',G',rfl,rfl,him,hJi,S⟩ k' hn' hx
       have hlen:=Ax (i:=0) (l:=([]:List Ch))
       cases m' with
       |zero=>
        have hi0:i=(([]:List Ch).drop 0).length:=by omega
        subst hi0
        repeat' ((conv=>lhs;whnf);first
         |(refine C4 (fun hc hz=>?_) (fun hc hz=>?_)<;>first|(exfalso;(try simp only[Aj,Nat.sub_eq,Nat.sub_zero,Ax,Dv,Hi]at hz);omega)|rewrite [hc])
         |refine hx _ _ _ _ _ trivial ?_
         |exact hk _ _ _ _ hJi S)
       |succ m'=>exfalso;simp at him
     · skip
       repeat' ((conv=>lhs;whnf);first
        |refine Ev S j1 (Aa rfl) rfl ?_
        |refine Ev S j2 (Aa rfl) rfl ?_
        |refine L7 rfl ?_
        |refine Bq (Ag _) ?_
        |refine Bq hf ?_
        |refine Cb (Int.le_refl _) ?_
        |refine Cb (Fw _) ?_
        |(refine C4 (fun hc hz=>?_) (fun hc hz=>?_)<;>first|(exfalso;(try simp only[Aj,Nat.sub_eq,Nat.sub_zero,Ax,Dv,Hi]at hz);omega)|rewrite [hc]))
       conv=>lhs;whnf
       refine Br (L:=[0,29,30,31]) rfl (fun m' vs d' h' nx'=>∃(i:Nat) (A G:List Av),d'=[]∧vs=[yv,.sl q (Nat.add 0 (Nat.mul 0 3)) (Nat.sub CL.length 0) (.u 3),iA (Nat.sub CL.length 0),iA i]∧i+m'=(CL.drop 0).length∧J i A∧Sat h' nx' (A++G)) (CL.drop 0).length (by rw[Ax];omega) ⟨0,_,_,rfl,rfl,by omega,h0,S⟩ ?_
       rintro m' _ d' h' nx' ⟨i,A',G',rfl,rfl,him,hJi,S⟩ k' hn' hx
       have hlen:=Ax (i:=0) (l:=CL)
       cases m' with
       |zero=>
        have hi0:i=(CL.drop 0).length:=by omega
        subst hi0
        repeat' ((conv=>lhs;whnf);first
         |(refine C4 (fun hc hz=>?_) (fun hc hz=>?_)<;>first|(exfalso;(try simp only[Aj,Nat.sub_eq,Nat.sub_zero,Ax,Dv,Hi]at hz);omega)|rewrite [hc])
         |refine hx _ _ _ _ _ trivial ?_
         |exact hk _ _ _ _ hJi S)
       |succ m'=>
        have hil:i<(CL.drop 0).length:=by omega
        have hil2:0+i<CL.length:=by omega
        obtain⟨e0,e1⟩:=J2 (off:=0) Dk (by simpa using g2) (by omega) (by omega) hil2
        obtain⟨j1,j2,j3,j4⟩:=hJ _ _ hJi
        have hq:=B7 G' (j3 _ (by rw[g4];exact Aw ..))
        repeat' ((conv=>lhs;whnf);first
         |(refine C4 (fun hc hz=>?_) (fun hc hz=>?_)<;>first|(exfalso;(try simp only[Aj,Nat.sub_eq,Nat.sub_zero,Ax,Dv,Hi]at hz);omega)|rewrite [hc])
         |refine Cb (Fw _) ?_
         |refine Cw (show i<_ by show i<_-_;omega) ?_
         |refine Lh S (v:=Ji CL[0+i]) hq (by show 0+0*3+i*3+3≤_;omega) (by rw[←e1];congr 2;show 0+0*3+i*3=_;omega) ?_
         |refine Cp ‹_› rfl fun h1 S=>?_
         |refine Au ‹_› 0 rfl (Aa rfl) rfl fun h1 S=>?_
         |refine Ae ‹_› 0 rfl (Aa rfl) ?_)
        conv=>lhs;whnf
        have hge:(CL.drop 0)[i]=CL[0+i]:=by simp
        have hyi:=hy i hil mm A' ((nx',.row (D7 (Vo Pi.zero) 0 (Ji CL[0+i])) 202)::G') h1 (Ad nx')
        rw[Aam,hge,←I4]at hyi
        refine hyi _ (by omega) hJi (S.perm List.perm_middle.symm) fun A2 G2 h2 nx2 hJ2 S2=>?_
        repeat' ((conv=>lhs;whnf);first
         |refine Bv (by(try simp only[Aj]at *);omega) ?_
         |(refine hn' _ _ _ _ m' (by omega) ⟨i+1,A2,G2,rfl,rfl,by omega,hJ2,S2⟩))
   have hfr:Mv BL=fr:=by rw[hB];simp[Mv]
   rw[hfr]at hf hk
   simp only[hfr]at hy
   obtain⟨b0,hb0⟩:∃b0,b0=b'.length:=⟨_,rfl⟩
   have hbl0:BL.length=b0+1:=by rw[hB,hb0];simp
   have hlast:LL[b0]?=some (iA fr):=by
    have:=congrArg (fun x=>x[b0]?) h2
    try simp only at this
    rw[Jk,if_pos (by omega)]at this
    rw[this,hB,hb0];simp
   have hbm:(p,OB.row LL 3)∈A++G:=j4 _ (by rw[h4];exact Aw ..)
   have hblx:b0+1≤LL.length:=by omega
   rw[hbl0]at j2 hbl
   have et:(Int.ofNat (b0+1)-1).toNat=b0:=by simp only[Aj];omega
   clear h2 h3 hbl0
   rcases hcg' with⟨rfl,rfl⟩|⟨q,CLL,rfl,g2,g3,g4⟩
   · have hfr0:fr=0:=by simpa using hf
     subst hfr0
     repeat' ((conv=>lhs;whnf);first
      |refine Ev S j1 (Aa rfl) rfl ?_
      |refine Ev S j2 (Aa rfl) rfl ?_
      |refine L7 rfl ?_
      |refine Bq (Ag _) ?_
      |refine Bq hf ?_
      |refine Cb (Int.le_refl _) ?_
      |refine Cb (Fw _) ?_
      |refine Ev S (v:=iA 0) hbm (by rw[et];show 0+b0*1<_;omega) (by rw[et];show LL.getD (0+b0*1) .x=_;rw[show 0+b0*1=b0 by omega,A0,hlast];rfl) ?_
      |refine Cw (by rw[et];omega) ?_
      |refine Cb (by simp only[Aj];omega) ?_
      |refine Bv (by simp only[Aj];omega) ?_
      |(refine C4 (fun hc hz=>?_) (fun hc hz=>?_)<;>first|(exfalso;(try simp only[Aj,Nat.sub_eq,Nat.sub_zero,Ax,Dv,Hi]at hz);omega)|rewrite [hc]))
     conv=>lhs;whnf
     refine Br (L:=[0,29,30,31]) rfl (fun m' vs d' h' nx'=>∃(i:Nat) (A G:List Av),d'=[]∧vs=[yv,.sl0,iA 0,iA i]∧i+m'=(([]:List Ch).drop 0).length∧J i A∧Sat h' nx' (A++G)) (([]:List Ch).drop 0).length (by rw[Ax];omega) ⟨0,_,_,rfl,rfl,by omega,h0,S⟩ ?_
     rintro m' _ d' h' nx' ⟨i,A',G',rfl,rfl,him,hJi,S⟩ k' hn' hx
     have hlen:=Ax (i:=0) (l:=([]:List Ch))
     cases m' with
     |zero=>
      have hi0:i=(([]:List Ch).drop 0).length:=by omega
      subst hi0
      repeat' ((conv=>lhs;whnf);first
       |(refine C4 (fun hc hz=>?_) (fun hc hz=>?_)<;>first|(exfalso;(try simp only[Aj,Nat.sub_eq,Nat.sub_zero,Ax,Dv,Hi]at hz);omega)|rewrite [hc])
       |refine hx _ _ _ _ _ trivial ?_
       |exact hk _ _ _ _ hJi S)
     |succ m'=>exfalso;simp at him
   · skip
     repeat' ((conv=>lhs;whnf);first
      |refine Ev S j1 (Aa rfl) rfl ?_
      |refine Ev S j2 (Aa rfl) rfl ?_
      |refine L7 rfl ?_
      |refine Bq (Ag _) ?_
      |refine Bq hf ?_
      |refine Cb (Int.le_refl _) ?_
      |refine Cb (Fw _) ?_
      |refine Ev S (v:=iA fr) hbm (by rw[et];show 0+b0*1<_;omega) (by rw[et];show LL.getD (0+b0*1) .x=_;rw[show 0+b0*1=b0 by omega,A0,hlast];rfl) ?_
      |refine Cw (by rw[et];omega) ?_
      |refine Cb (by simp only[Aj];omega) ?_
      |refine Bv (by simp only[Aj];omega) ?_
      |(refine C4 (fun hc hz=>?_) (fun hc hz=>?_)<;>first|(exfalso;(try simp only[Aj,Nat.sub_eq,Nat.sub_zero,Ax,Dv,Hi]at hz);omega)|rewrite [hc]))
     conv=>lhs;whnf
     refine Br (L:=[0,29,30,31]) rfl (fun m' vs d' h' nx'=>∃(i:Nat) (A G:List Av),d'=[]∧vs=[yv,.sl q (Nat.add 0 (Nat.mul fr 3)) (Nat.sub CL.length fr) (.u 3),iA (Nat.sub CL.length fr),iA i]∧i+m'=(CL.drop fr).length∧J i A∧Sat h' nx' (A++G)) (CL.drop fr).length (by rw[Ax];omega) ⟨0,_,_,rfl,rfl,by omega,h0,S⟩ ?_
     rintro m' _ d' h' nx' ⟨i,A',G',rfl,rfl,him,hJi,S⟩ k' hn' hx
     have hlen:=Ax (i:=fr) (l:=CL)
     cases m' with
     |zero=>
      have hi0:i=(CL.drop fr).length:=by omega
      subst hi0
      repeat' ((conv=>lhs;whnf);first
       |(refine C4 (fun hc hz=>?_) (fun hc hz=>?_)<;>first|(exfalso;(try simp only[Aj,Nat.sub_eq,Nat.sub_zero,Ax,Dv,Hi]at hz);omega)|rewrite [hc])
       |refine hx _ _ _ _ _ trivial ?_
       |exact hk _ _ _ _ hJi S)
     |succ m'=>
      have hil:i<(CL.drop fr).length:=by omega
      have hil2:fr+i<CL.length:=by omega
      obtain⟨e0,e1⟩:=J2 (off:=0) Dk (by simpa using g2) (by omega) (by omega) hil2
      obtain⟨j1,j2,j3,j4⟩:=hJ _ _ hJi
      have hq:=B7 G' (j3 _ (by rw[g4];exact Aw ..))
      repeat' ((conv=>lhs;whnf);first
       |(refine C4 (fun hc hz=>?_) (fun hc hz=>?_)<;>first|(exfalso;(try simp only[Aj,Nat.sub_eq,Nat.sub_zero,Ax,Dv,Hi]at hz);omega)|rewrite [hc])
       |refine Cb (Fw _) ?_
       |refine Cw (show i<_ by show i<_-_;omega) ?_
       |refine Lh S (v:=Ji CL[fr+i]) hq (by show 0+fr*3+i*3+3≤_;omega) (by rw[←e1];congr 2;show 0+fr*3+i*3=_;omega) ?_
       |refine Cp ‹_› rfl fun h1 S=>?_
       |refine Au ‹_› 0 rfl (Aa rfl) rfl fun h1 S=>?_
       |refine Ae ‹_› 0 rfl (Aa rfl) ?_)
      conv=>lhs;whnf
      have hge:(CL.drop fr)[i]=CL[fr+i]:=by simp
      have hyi:=hy i hil mm A' ((nx',.row (D7 (Vo Pi.zero) 0 (Ji CL[fr+i])) 202)::G') h1 (Ad nx')
      rw[Aam,hge,←I4]at hyi
      refine hyi _ (by omega) hJi (S.perm List.perm_middle.symm) fun A2 G2 h2 nx2 hJ2 S2=>?_
      repeat' ((conv=>lhs;whnf);first
       |refine Bv (by(try simp only[Aj]at *);omega) ?_
       |(refine hn' _ _ _ _ m' (by omega) ⟨i+1,A2,G2,rfl,rfl,by omega,hJ2,S2⟩))
end Go.CE
namespace Go.CE
open Go Go.Ps Go.Proofs.YtacpdfjcepkgcaaGreatDoor
attribute [local irreducible] loopK Ai K0 N2 Dg fits rd rd1 wr newC Kj Fk Fa Ve
variable {E : PEnv} {h : H} {nx : Pos} {s : PS} {R : List Av} {n : Nat} {kp : KP} {k : K}
theorem Su (P:PI E h nx s R) {o:AO} (b:OB) {k:Pos→H→Pos→Bool} (ho:Nb o b) (hk:∀h',PI E h' (Ad nx) s ((nx,b)::R)→k nx h' (Ad nx)=true):Kj h nx o k=true:=by
 obtain⟨C,hR,S⟩:=P
 refine A6 S b ho fun h' S'=>hk h' ⟨C,hR,S'.perm ?_⟩
 exact(List.Perm.swap ..).trans (.cons _ (List.Perm.swap ..))
theorem pi_get (P:PI E h nx s R) (i:Nat) {p:Pos} {o:AO} {k:AO→Bool} (hi:R[i]?=some (p,.raw o)) (hk:k o=true):Fk h p k=true:=by
 obtain⟨C,hR,S⟩:=P
 refine A1 S (i+2) (p:=p) (o:=o) ?_ hk
 show(R++_)[i]?=_
 rw[Ii (Gn.1 hi).1];exact hi
theorem pi_kill (P:PI E h nx s R) (i:Nat) {p:Pos} {b:OB} {k:H→Bool} (hi:R[i]?=some (p,b)) (hk:∀h',PI E h' nx s (R.eraseIdx i)→k h'=true):Fa h p .dead k=true:=by
 obtain⟨C,hR,S⟩:=P
 have hl:=(Gn.1 hi).1
 refine Bm S (i+2) (p:=p) (b:=b) ?_ fun h' S'=>hk h' ⟨C,hR,?_⟩
 · show(R++_)[i]?=_
   rw[Ii hl];exact hi
 · unfold PA
   have:(R.eraseIdx i++(E.EL++(C.ED++(C.EC++(C.EB++E.SE)))))=(R++(E.EL++(C.ED++(C.EC++(C.EB++E.SE))))).eraseIdx i:=by
    rw[List.eraseIdx_append_of_lt_length hl]
   rw[this]
   exact S'
theorem GrA.sl {es ty:Nat} {av:AV} {fl:List AV} {X:List Av} (h:GrA es ty av fl X):SlA es ty av fl X:=by
 rcases h.inv with⟨rfl,rfl,rfl⟩|⟨p,n,LL,rfl,h2,h3,rfl⟩
 · exact .nil
 · exact .row p 0 n _ LL fl (by simpa using h2) (by omega)
theorem pmY {e r x t l:Av} {B G:List Av}:(e::r::x::t::l::(B++G)).Perm ((t::l::([e]++B))++(r::x::G)):=by
 have h1:(e::r::x::t::l::(B++G)).Perm (t::l::e::r::x::(B++G)):=
  (Jm (l₁:=[e,r,x]) (l₂:=[t,l])).append_right (B++G)
 refine h1.trans ?_
 show List.Perm _ (t::l::e::(B++(r::x::G)))
 refine .cons _ (.cons _ (.cons _ ?_))
 refine List.Perm.symm ?_
 refine List.perm_middle.trans (.cons _ ?_)
 exact Fh
theorem pmZ {x l d b a c:Av} {X R T:List Av}:(x::l::(X++(a::c::((d::b::R)++T)))).Perm (a::c::((l::d::b::x::(R++X))++T)):=by
 have h1:(X++(a::c::((d::b::R)++T))).Perm (a::c::d::b::(R++X++T)):=by
  refine List.perm_append_comm.trans ?_
  show(a::c::d::b::((R++T)++X)).Perm _
  refine .cons _ (.cons _ (.cons _ (.cons _ ?_)))
  rw[A4,A4]
  exact(Jm).append_left R
 refine(h1.cons l).cons x |>.trans ?_
 show(x::l::a::c::d::b::(R++X++T)).Perm (a::c::l::d::b::x::((R++X)++T))
 have h2:[x,l,a,c,d,b].Perm [a,c,l,d,b,x]:=by
  refine(Jm (l₁:=[x]) (l₂:=[l,a,c,d,b])).trans ?_
  show[l,a,c,d,b,x].Perm [a,c,l,d,b,x]
  exact(Jm (l₁:=[l]) (l₂:=[a,c])).append_right [d,b,x]
 exact h2.append_right (R++X++T)
theorem pi_iter (hn:20000100≤n) {l dm b t4:Pos} {L0:AL} (P:PI E h nx s ((l,.raw (.loop L0))::(dm,.raw .marks)::(b,.row [.p E.pp 3] 200)::(t4,.row [.sl0] 120)::R)) (hst:s.st≠[])
 (hy:∀(d:Dc) (ds:List Dc) (lv:AV) (X B G:List Av) (n:Nat) (h:H) (nx:Pos) (k:K),20000000≤n→ds.length<10000000→GrA 2 126 lv (ds.flatMap Jf) X→Sat h nx (((t4,.row [lv] 120)::(l,.raw (.loop L0))::(X++B))++G) →
   (∀lv' X' G' h' nx',GrA 2 126 lv' ((ds++[d]).flatMap Jf) X'→Sat h' nx' (((t4,.row [lv'] 120)::(l,.raw (.loop L0))::(X'++B))++G')→k (.b true) h' nx'=true)→Ai gg n kp (.yl l) [.ag (Jf d)] h nx k=true)
 (hk:∀lv X h' nx',GrA 2 126 lv (s.dl.flatMap Jf) X→PI E h' nx' s ((l,.raw (.loop L0))::(dm,.raw .marks)::(b,.row [.p E.pp 3] 200)::(t4,.row [lv] 120)::(R++X))→k (.tu []) h' nx'=true) :
 Ai gg n kp (.fn 197 [.p b 0]) [.yl l] h nx k=true:=by
 obtain⟨C,hR,S⟩:=P
 cases hs:s.st with
 |nil=>exact absurd hs hst
 |cons a r=>
  obtain⟨ty',dl'⟩:=a
  have hnr:=hR.nr
  rw[hs]at hnr
  obtain⟨b',kk,e1,e2,e3,e4,e5⟩:=hnr
  have hfr:Mv C.BL=kk:=by rw[e1];simp[Mv]
  have hct:C.CL.length≤10000000:=Cr (Aa1 hR.nr) hR.sb.2
  have hbt:C.BL.length≤10000000:=by rw[Aa2 hR.nr];exact hR.sb.1
  have hdl:∀i,((C.CL.drop kk).take i).map Oy=s.dl.take i:=fun i=>by rw[e3,List.map_take]
  have hdlen:s.dl.length=(C.CL.drop kk).length:=by rw[e3,Ct]
  refine decl_iter (J:=fun i A=>∃lv X,GrA 2 126 lv ((s.dl.take i).flatMap Jf) X∧A=(t4,.row [lv] 120)::(l,.raw (.loop L0))::(X++PA E C s ((dm,.raw .marks)::(b,.row [.p E.pp 3] 200)::R)))
   (pp:=E.pp) (c0:=E.lsl) (c1:=iA s.at') (c2:=C.dn) (c3:=.p E.sc 0) (mp:=.m C.mp) (G:=[]) hn hR.cg hR.bk (by rw[hfr];exact e2) hct hbt ?_ ?_ ⟨.sl0,[],by simpa using GrA.nil,rfl⟩ (S.perm ?_) ?_
  · rintro i A ⟨lv,X,hlv,rfl⟩
    refine⟨?_,?_,fun e he=>?_,fun e he=>?_⟩
    · unfold PA;simp
    · unfold PA;simp
    · unfold PA;simp[he]
    · unfold PA;simp[he]
  · rintro i hi n A G h nx k hn ⟨lv,X,hlv,rfl⟩ S hk2
    rw[hfr]at hi
    refine hy _ _ lv X _ G n h nx k hn ?_ hlv S fun lv' X' G' h' nx' hlv' S'=>hk2 _ G' h' nx' ⟨lv',X',?_,rfl⟩ S'
    · rw[Ci];rw[Ax]at hi;omega
    · have Fk:(C.CL.drop (Mv C.BL))[i]'(by rw[hfr];exact hi)=(C.CL.drop kk)[i]:=by simp only[hfr]
      rw[Fk]at hlv'
      have:Oy (C.CL.drop kk)[i]=s.dl[i]'(by omega):=by simp only[e3,List.getElem_map]
      rw[this,←Lz]at hlv'
      exact hlv'
  · rw[Bp]
    have e:=(pmZ (x:=(t4,OB.row [.sl0] 120)) (l:=(l,.raw (.loop L0))) (d:=(dm,.raw .marks)) (b:=(b,.row [.p E.pp 3] 200)) (X:=[]) (R:=R)
     (a:=(E.pp,.row [E.lsl,iA s.at',C.dn,.p E.sc 0,.m C.mp,C.cg,C.bk] 66)) (c:=(C.mp,.map (Eb C.now))) (T:=E.EL++(C.ED++(C.EC++(C.EB++E.SE))))).symm
    rw[Bp]at e
    exact e
  · rintro A G h' nx' ⟨lv,X,hlv,rfl⟩ S'
    rw[hfr,←hdlen,List.take_length]at hlv
    refine hk lv X h' nx' hlv ⟨C,hR,(S'.sub (Al _ _)).perm ?_⟩
    exact pmZ
end Go.CE
namespace Go.CE
open Go Go.Ps Go.Proofs.YtacpdfjcepkgcaaGreatDoor
attribute [local irreducible] loopK Ai K0 N2 Dg fits rd rd1 wr newC Kj Fk Fa Ve
variable {E : PEnv} {m : Nat}
theorem Eg {β:Type} {f:List Dc→M β} {l:List Tk} {s:PS} {Q:β→PS→Prop} {F O:Prop}:W (bd X5 f l s) Q F O↔W (f s.dl l s) Q F O:=Iff.rfl
theorem Aaa (a b:AV) (ty:Nat):Nb (.cells 2 (wl [a,b] .e 0) 0 false ty) (.row [a,b] ty):=Dq [a,b] ty
theorem Vj {β:Type} {f:Unit→M β} {l:List Tk} {s:PS} {Q:β→PS→Prop} {F:Prop} (hW:W (bd Em f l s) Q F False):s.st≠[]:=by
 intro hc
 have:=Ac.1 hW
 unfold Em at this
 rw[hc]at this
 exact this
theorem PI.sbig {E:PEnv} {h:H} {nx:Pos} {s:PS} {R:List Av} (P:PI E h nx s R):s.dl.length≤Ps.big:=by
 obtain⟨C,hR,S⟩:=P
 have:=hR.sb.2
 unfold tot at this
 omega
theorem U2 {E:PEnv} {h:H} {nx:Pos} {s:PS} {R:List Av} {n:Nat} {kp:KP} {k:K} (hn:2≤n) (P:PI E h nx s R) (hk:∀b h' nx',PI E h' nx' s ((b,.row [.p E.pp 3] 200)::R)→k (.fn 197 [.p b 0]) h' nx'=true):Ai gg n kp (.fn 158 []) [.p E.pp 3] h nx k=true:=by
 refine Ab hn (by omega) fun m hm=>?_
 repeat' ((conv=>lhs;whnf);first
  |refine Bl P rfl fun h1 P=>?_
  |exact hk _ _ _ P)
theorem w_params (AA:∀m',m'≤m→ALL E m'):CtrP E (m+1):=by
 have A:=AA m (Ag _)
 intro n d hd hn kp h nx k s R Q Fl P hW hk hf
 refine Ab (d:=m+1+d) hn (by omega) fun mm hm=>?_
 have hW:W (Ah (run m) .params E.l s) Q Fl False:=hW
 simp only[Ah]at hW
 (try simp only[Bt,Bs,Ao,A8,A9,Eg,ite_self,F8,F4]at hW)
 repeat' ((conv=>lhs;whnf);first
  |(refine B4 (by omega) ‹_› (Ac.1 hW) (fun h' nx' hW P=>?_);(try simp only[Bt,Bs,Ao,A8,A9,Eg,ite_self,F8,F4]at hW))
  |refine Bl ‹_› rfl fun h1 P=>?_
  |refine B5 ‹_› 0 rfl (Aa rfl) (by first|rfl|exact Ba ‹_›) fun h1 P=>?_
  |(refine Dd (by omega) ‹_› (Ac.1 hW) (fun s' h' nx' hW P=>?_) (fun f h2 n2 s2 P2=>hf f _ _ _ (PI.sub P2 (by repeat(first|exact .refl _|exact Al _ _|exact(Al _ _).trans (Al _ _)|refine .cons _ ?_))));(try simp only[Bt,Bs,Ao,A8,A9,Eg,ite_self,F8,F4]at hW))
  |(refine Ll (by omega) ‹_› (Ac.1 hW) fun s' h' nx' hW P=>?_;(try simp only[Bt,Bs,Ao,A8,A9,Eg,ite_self,F8,F4]at hW))
  |(refine Dl (by omega) ‹_› (Ac.1 hW) fun b s' h' nx' hW P=>?_;cases b<;>(try simp only[Bt,Bs,Ao,A8,A9,Eg,ite_self,F8,F4]at hW))
  |refine Af ‹_› 0 rfl (Aa rfl) ?_
  |refine An ‹_› 0 rfl (Aa rfl) ?_
  |refine An ‹_› 1 rfl (Aa rfl) ?_
  |(refine A.param _ _ hd (by omega) _ _ _ _ _ _ _ _ ‹_› (Ac.1 hW) (fun v s' h' nx' hW P=>?_) (fun f h2 n2 s2 P2=>hf f _ _ _ (PI.sub P2 (by repeat(first|exact .refl _|exact Al _ _|exact(Al _ _).trans (Al _ _)|refine .cons _ ?_))));(try simp only[Bt,Bs,Ao,A8,A9,Eg,ite_self,F8,F4]at hW))
  |(refine A.param _ _ hd (by omega) _ _ _ _ _ _ _ _ ‹_› hW (fun v s' h' nx' hW P=>?_) (fun f h2 n2 s2 P2=>hf f _ _ _ (PI.sub P2 (by repeat(first|exact .refl _|exact Al _ _|exact(Al _ _).trans (Al _ _)|refine .cons _ ?_))));(try simp only[Bt,Bs,Ao,A8,A9,Eg,ite_self,F8,F4]at hW))
  |(refine U2 (by omega) ‹_› fun b h' nx' P=>?_))
 · conv=>lhs;whnf
   obtain⟨Q2,hW,hQ2⟩:=Fz hW
   refine Br (L:=[0,3]) rfl (fun m' vs d' h' nx'=>∃(σ:PS) (bx:Pos),d'=[]∧vs=[.p E.pp 0,.p bx 0]∧m'≤m∧W (run m' .paramsL E.l σ) Q2 Fl False∧PI E h' nx' σ ((bx,.row [iA s.at',iA s.done.length] 68)::R)) (m) (by omega) ⟨_,_,rfl,rfl,Ag _,hW,PI.sub ‹_› (by repeat(first|exact .refl _|exact Al _ _|exact(Al _ _).trans (Al _ _)|refine .cons _ ?_))⟩ ?_
   rintro m' _ d' h' nx' ⟨σ,bx,rfl,rfl,hm',hW,P⟩ k' hn' hx
   cases m' with
   |zero=>exact hW.elim
   |succ m'=>
   have A2:=AA m' (by omega)
   have hW:W (Ah (run m') .paramsL E.l σ) Q2 Fl False:=hW
   simp only[Ah]at hW
   (try simp only[Bt,Bs,Ao,A8,A9,Eg,ite_self,F8,F4]at hW)
   repeat' ((conv=>lhs;whnf);first
    |contradiction
    |(refine hx _ _ _ _ _ trivial ?_;have hW:=hQ2 _ _ hW;(try simp only[Bt,Bs,Ao,A8,A9,Eg,ite_self,F8,F4]at hW))
    |(refine hn' _ _ _ _ m' (by omega) ⟨_,_,rfl,rfl,by omega,hW,PI.sub ‹_› (by repeat(first|exact .refl _|exact Al _ _|exact(Al _ _).trans (Al _ _)|refine .cons _ ?_))⟩)
    |(refine A2.param _ _ hd (by omega) _ _ _ _ _ _ _ _ ‹_› (Ac.1 hW) (fun v s' h' nx' hW P=>?_) (fun f h2 n2 s2 P2=>hf f _ _ _ (PI.sub P2 (by repeat(first|exact .refl _|exact Al _ _|exact(Al _ _).trans (Al _ _)|refine .cons _ ?_))));(try simp only[Bt,Bs,Ao,A8,A9,Eg,ite_self,F8,F4]at hW))
    |(refine A2.param _ _ hd (by omega) _ _ _ _ _ _ _ _ ‹_› hW (fun v s' h' nx' hW P=>?_) (fun f h2 n2 s2 P2=>hf f _ _ _ (PI.sub P2 (by repeat(first|exact .refl _|exact Al _ _|exact(Al _ _).trans (Al _ _)|refine .cons _ ?_))));(try simp only[Bt,Bs,Ao,A8,A9,Eg,ite_self,F8,F4]at hW))
    |(refine B4 (by omega) ‹_› (Ac.1 hW) (fun h' nx' hW P=>?_);(try simp only[Bt,Bs,Ao,A8,A9,Eg,ite_self,F8,F4]at hW))
    |refine Bl ‹_› rfl fun h1 P=>?_
    |refine B5 ‹_› 0 rfl (Aa rfl) (by first|rfl|exact Ba ‹_›) fun h1 P=>?_
    |(refine Dd (by omega) ‹_› (Ac.1 hW) (fun s' h' nx' hW P=>?_) (fun f h2 n2 s2 P2=>hf f _ _ _ (PI.sub P2 (by repeat(first|exact .refl _|exact Al _ _|exact(Al _ _).trans (Al _ _)|refine .cons _ ?_))));(try simp only[Bt,Bs,Ao,A8,A9,Eg,ite_self,F8,F4]at hW))
    |(refine Ll (by omega) ‹_› (Ac.1 hW) fun s' h' nx' hW P=>?_;(try simp only[Bt,Bs,Ao,A8,A9,Eg,ite_self,F8,F4]at hW))
    |(refine Dl (by omega) ‹_› (Ac.1 hW) fun b s' h' nx' hW P=>?_;cases b<;>(try simp only[Bt,Bs,Ao,A8,A9,Eg,ite_self,F8,F4]at hW))
    |refine Af ‹_› 0 rfl (Aa rfl) ?_
    |refine An ‹_› 0 rfl (Aa rfl) ?_
    |refine An ‹_› 1 rfl (Aa rfl) ?_
    |(refine U2 (by omega) ‹_› fun b h' nx' P=>?_))
   all_goals
    conv=>lhs;whnf
    refine Su P (.raw .marks) ⟨rfl,by simp⟩ fun h1 P=>?_
    conv=>lhs;whnf
    refine Su P (.raw (.loop _)) ⟨rfl,by simp⟩ fun h1 P=>?_
    conv=>lhs;whnf
    refine pi_iter (by omega) P (Vj hW) ?_ ?_
    · intro dd ds lv X B G n2 h2 nx2 k2 hn2 hds hlv S hk2
      refine Ab (d:=20000000) hn2 (by omega) fun nn hnn=>?_
      rcases hlv.inv with⟨rfl,g2,rfl⟩|⟨p,n',LL,rfl,g2,g3,rfl⟩
      · have g0:=Dh H8 (by omega) g2
        repeat' ((conv=>lhs;whnf);first
         |refine A1 S 1 rfl ?_
         |refine A1 S 2 rfl ?_
         |refine Cp S rfl fun h1 S=>?_
         |refine Au S 0 rfl (Aa rfl) rfl fun h1 S=>?_
         |refine D0 S 2 (.raw (.loop _)) rfl ⟨rfl,by simp⟩ fun h1 S=>?_
         |refine Ae S 1 rfl (Aa rfl) ?_
         |refine Da S 0 rfl (Aa rfl) ?_
         |refine A6 S (.row _ 126) (Aaa _ _ 126) fun h1 S=>?_
         |refine G7 S (Aa rfl) rfl fun h1 S=>?_
         |refine Au S 3 rfl (Aa rfl) rfl fun h1 S=>?_
         |refine A1 S 4 rfl ?_
         |refine D0 S 4 (.raw (.loop _)) rfl ⟨rfl,by simp⟩ fun h1 S=>?_)
        refine hk2 _ _ _ _ _ ?_ (S.perm pmY)
        rw[g0]
        exact .row _ 1 [.s dd.n,.b dd.ty] _ rfl (Aa rfl)
      · have hl:ds.length=n':=El (off:=0) H8 (by omega) (by simpa using g2) (by omega)
        subst hl
        repeat' ((conv=>lhs;whnf);first
         |refine A1 S 1 rfl ?_
         |refine A1 S 2 rfl ?_
         |refine Cp S rfl fun h1 S=>?_
         |refine Au S 0 rfl (Aa rfl) rfl fun h1 S=>?_
         |refine D0 S 2 (.raw (.loop _)) rfl ⟨rfl,by simp⟩ fun h1 S=>?_
         |refine Ae S 1 rfl (Aa rfl) ?_
         |refine Da S 0 rfl (Aa rfl) ?_
         |refine A6 S (.row _ 126) (Aaa _ _ 126) fun h1 S=>?_
         |refine G6 S 4 rfl g3 rfl (by(try simp only[Aj]at *);omega) rfl fun h1 S=>?_
         |refine Au S 3 rfl (Aa rfl) rfl fun h1 S=>?_
         |refine A1 S 4 rfl ?_
         |refine D0 S 4 (.raw (.loop _)) rfl ⟨rfl,by simp⟩ fun h1 S=>?_)
        refine hk2 _ _ _ _ _ ?_ (S.perm pmY)
        have e:(ds++[dd]).flatMap Jf=LL.take (ds.length*2)++Jf dd:=by rw[Fx,←g2];simp
        have e2:(LL.take (ds.length*2)++Jf dd).length=(ds.length+1) * 2:=by rw[Bb,Ci,H8];omega
        rw[e]
        exact .row _ (ds.length+1) (LL.take (ds.length*2)++Jf dd) _ (Et (by omega)) (by omega)
    · intro lv X h2 nx2 hlv P
      have hsb:=P.sbig
      rcases hlv.inv with⟨rfl,_,_⟩|⟨_,_,_,rfl,_,_,_⟩
      all_goals
      repeat' ((conv=>lhs;whnf);first
       |refine pi_get P 0 rfl ?_
       |refine pi_kill P 0 rfl fun h1 P=>?_
       |(refine Lv (by omega) P (Ac.1 hW) fun s' h' nx' hW P=>?_;(try simp only[Bt,Bs,Ao,A8,A9,Eg,ite_self,F8,F4]at hW))
       |refine An P 3 rfl (Aa rfl) ?_
       |(refine Ca (b:=⟨_,_⟩) (by omega) P (by first|omega|exact(Aa rfl)) (Ac.1 hW) fun s' h' nx' hW P=>?_;(try simp only[Bt,Bs,Ao,A8,A9,Eg,ite_self,F8,F4]at hW))
       |refine Af P 2 rfl (Aa rfl) ?_
       |exact hk (.ds _) _ _ _ _ _ hlv.sl hsb hW (PI.sub P (by repeat(first|exact .refl _|exact Al _ _|exact(Al _ _).trans (Al _ _)|refine .cons _ ?_))))
 · conv=>lhs;whnf
   refine Su P (.raw .marks) ⟨rfl,by simp⟩ fun h1 P=>?_
   conv=>lhs;whnf
   refine Su P (.raw (.loop _)) ⟨rfl,by simp⟩ fun h1 P=>?_
   conv=>lhs;whnf
   refine pi_iter (by omega) P (Vj hW) ?_ ?_
   · intro dd ds lv X B G n2 h2 nx2 k2 hn2 hds hlv S hk2
     refine Ab (d:=20000000) hn2 (by omega) fun nn hnn=>?_
     rcases hlv.inv with⟨rfl,g2,rfl⟩|⟨p,n',LL,rfl,g2,g3,rfl⟩
     · have g0:=Dh H8 (by omega) g2
       repeat' ((conv=>lhs;whnf);first
        |refine A1 S 1 rfl ?_
        |refine A1 S 2 rfl ?_
        |refine Cp S rfl fun h1 S=>?_
        |refine Au S 0 rfl (Aa rfl) rfl fun h1 S=>?_
        |refine D0 S 2 (.raw (.loop _)) rfl ⟨rfl,by simp⟩ fun h1 S=>?_
        |refine Ae S 1 rfl (Aa rfl) ?_
        |refine Da S 0 rfl (Aa rfl) ?_
        |refine A6 S (.row _ 126) (Aaa _ _ 126) fun h1 S=>?_
        |refine G7 S (Aa rfl) rfl fun h1 S=>?_
        |refine Au S 3 rfl (Aa rfl) rfl fun h1 S=>?_
        |refine A1 S 4 rfl ?_
        |refine D0 S 4 (.raw (.loop _)) rfl ⟨rfl,by simp⟩ fun h1 S=>?_)
       refine hk2 _ _ _ _ _ ?_ (S.perm pmY)
       rw[g0]
       exact .row _ 1 [.s dd.n,.b dd.ty] _ rfl (Aa rfl)
     · have hl:ds.length=n':=El (off:=0) H8 (by omega) (by simpa using g2) (by omega)
       subst hl
       repeat' ((conv=>lhs;whnf);first
        |refine A1 S 1 rfl ?_
        |refine A1 S 2 rfl ?_
        |refine Cp S rfl fun h1 S=>?_
        |refine Au S 0 rfl (Aa rfl) rfl fun h1 S=>?_
        |refine D0 S 2 (.raw (.loop _)) rfl ⟨rfl,by simp⟩ fun h1 S=>?_
        |refine Ae S 1 rfl (Aa rfl) ?_
        |refine Da S 0 rfl (Aa rfl) ?_
        |refine A6 S (.row _ 126) (Aaa _ _ 126) fun h1 S=>?_
        |refine G6 S 4 rfl g3 rfl (by(try simp only[Aj]at *);omega) rfl fun h1 S=>?_
        |refine Au S 3 rfl (Aa rfl) rfl fun h1 S=>?_
        |refine A1 S 4 rfl ?_
        |refine D0 S 4 (.raw (.loop _)) rfl ⟨rfl,by simp⟩ fun h1 S=>?_)
       refine hk2 _ _ _ _ _ ?_ (S.perm pmY)
       have e:(ds++[dd]).flatMap Jf=LL.take (ds.length*2)++Jf dd:=by rw[Fx,←g2];simp
       have e2:(LL.take (ds.length*2)++Jf dd).length=(ds.length+1) * 2:=by rw[Bb,Ci,H8];omega
       rw[e]
       exact .row _ (ds.length+1) (LL.take (ds.length*2)++Jf dd) _ (Et (by omega)) (by omega)
   · intro lv X h2 nx2 hlv P
     have hsb:=P.sbig
     rcases hlv.inv with⟨rfl,_,_⟩|⟨_,_,_,rfl,_,_,_⟩
     all_goals
     repeat' ((conv=>lhs;whnf);first
      |refine pi_get P 0 rfl ?_
      |refine pi_kill P 0 rfl fun h1 P=>?_
      |(refine Lv (by omega) P (Ac.1 hW) fun s' h' nx' hW P=>?_;(try simp only[Bt,Bs,Ao,A8,A9,Eg,ite_self,F8,F4]at hW))
      |refine An P 3 rfl (Aa rfl) ?_
      |(refine Ca (b:=⟨_,_⟩) (by omega) P (by first|omega|exact(Aa rfl)) (Ac.1 hW) fun s' h' nx' hW P=>?_;(try simp only[Bt,Bs,Ao,A8,A9,Eg,ite_self,F8,F4]at hW))
      |refine Af P 2 rfl (Aa rfl) ?_
      |exact hk (.ds _) _ _ _ _ _ hlv.sl hsb hW (PI.sub P (by repeat(first|exact .refl _|exact Al _ _|exact(Al _ _).trans (Al _ _)|refine .cons _ ?_))))
end Go.CE
