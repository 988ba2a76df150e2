/- Part 42 of the lemmas behind the claim. -/
import Derived.Test.YtacpdfjcepkgcaaGreatDoorZA01
import Derived.Test.YtacpdfjcepkgcaaGreatDoorZA41
set_option linter.unusedSimpArgs false
set_option linter.unusedVariables false
set_option linter.constructorNameAsVariable false
set_option linter.unusedSectionVars false
set_option linter.defProp false
set_option maxRecDepth 100000
set_option maxHeartbeats 40000000
namespace Go.CE
open Go Go.Ps Go.Proofs.YtacpdfjcepkgcaaGreatDoor
attribute [local irreducible] loopK Tt Ai K0 N2 Dg fits rd rd1 wr newC Kj Fk Fa Ve Oe Kq eqA
def Se (E:TEnv) (s:S3) (A B:List Av):Prop:=s.kn.length=E.N.length∧s.lv.length=E.N.length∧(∀x∈s.lv,x≤500000)∧∃lnv XL,ExA 2 225 Js lnv s.ls XL∧B=E.row lnv::(E.pv,.row (s.lv.flatMap Rf) 3)::(E.pk,.row (s.kn.flatMap Wi) 4)::(XL++A)
theorem perm_T {a b c:Av} {L X A F:List Av}:(L++(a::b::c::(X++A))++F).Perm (a::b::c::(X++(L++(A++F)))):=by
 classical exact Ie.2 fun e=>by simp only[List.count_append,List.count_cons];omega
theorem Se.ti {E:TEnv} {s:S3} {A B F:List Av} (L:List Av) {h:H} {nx:Pos} (hB:Se E s A B) (S:Sat h nx (L++B++F)):TI E h nx s (L++(A++F)):=by
 obtain⟨t1,t2,t3,lnv,XL,G,rfl⟩:=hB
 exact⟨t1,t2,t3,lnv,XL,G,S.perm perm_T⟩
theorem TI.ex {E:TEnv} {s:S3} {A F:List Av} (L:List Av) {h:H} {nx:Pos} (T:TI E h nx s (L++(A++F))):∃B,Se E s A B∧Sat h nx (L++B++F):=by
 obtain⟨t1,t2,t3,lnv,XL,G,S⟩:=T
 exact⟨_,⟨t1,t2,t3,lnv,XL,G,rfl⟩,S.perm perm_T.symm⟩
theorem Se.ti0 {E:TEnv} {s:S3} {A B:List Av} (L:List Av) {h:H} {nx:Pos} (hB:Se E s A B) (S:Sat h nx (L++B)):TI E h nx s (L++A):=by
 have:=Se.ti (F:=[]) L hB (by rw[Bp];exact S)
 rwa [Bp]at this
theorem TI.ex0 {E:TEnv} {s:S3} {A:List Av} (L:List Av) {h:H} {nx:Pos} (T:TI E h nx s (L++A)):∃B,Se E s A B∧Sat h nx (L++B):=by
 obtain⟨B,h1,h2⟩:=TI.ex (A:=A) (F:=[]) L (by rw[Bp];exact T)
 exact⟨B,h1,by rwa [Bp]at h2⟩
theorem O6.app {E:TEnv} {A F:List Av} (h:O6 E A) (L:List Av):O6 E (L++(A++F)):=⟨A3 _ (B7 _ h.1),A3 _ (B7 _ h.2)⟩
theorem Se.nd {E:TEnv} {s:S3} {A B:List Av} (hB:Se E s A B) (hF:O6 E A):(E.r,OB.row (E.N.flatMap Dy) 132)∈B∧(E.p,OB.row E.LL 54)∈B∧∃lnv,E.row lnv∈B:=by
 obtain⟨_,_,_,lnv,XL,_,rfl⟩:=hB
 refine⟨hF.m2,?_,lnv,Aw ..⟩
 exact Am _ (Am _ (Am _ (A3 _ hF.1)))
theorem own_k {E:TEnv} {b3 b2:Pos} {i:Nat} {s:S3} {A B:List Av} (hB:Se E s A B) (hF:O6 E A) (L:List Av) (h1:(b3,OB.row [.i .i64 (Int.ofNat i)] 3)∈L) (h2:(b2,OB.row [.p E.tp 0] 215)∈L):OwnK E b3 b2 i (L++B):=by
 obtain⟨g1,g2,lnv,g3⟩:=hB.nd hF
 refine⟨lnv,A3 _ g3,fun e he=>?_⟩
 rcases Bo.1 he with rfl|he
 · exact B7 _ h1
 rcases Bo.1 he with rfl|he
 · exact B7 _ h2
 · rw[Co.1 he];exact A3 _ g1
theorem Zz {E:TEnv} (hE:TOK E) {n:Nat} (hn:1000060≤n) {s:S3} {iz:Int} {i:Nat} (hiz:iz=Int.ofNat i) (hi:i<E.N.length) {A:List Av} (hF:O6 E A) {kp:KP} {h:H} {nx:Pos} (T:TI E h nx s A) {k:K}
 (hk:∀h' nx',TI E h' nx' s A→k (iA (G9 E.N i)) h' nx'=true):Ai gg n kp (.fn 114 []) [.p E.tp 0,.i .i64 iz] h nx k=true:=by
 subst hiz
 obtain⟨B,hB,S⟩:=TI.ex0 [] T
 replace S:Sat h nx B:=S
 refine Ab hn (by omega) fun m hm=>?_
 repeat' ((conv=>lhs;whnf);first
  |refine S5 (by omega) ‹_› (fun h' S=>?_)
  |contradiction
  |refine Be fun h' S=>?_
  |refine C8 fun h' S=>?_
  |refine Bj ?_
  |refine C9 ?_
  |refine Bi ?_
  |refine seqt ?_
  |refine Bg ?_
  |refine Bc ?_
  |refine Aq ?_
  |refine Ar ?_
  |refine Bh ?_)
 conv=>lhs;whnf
 refine Ea 1000 (S6 hE hi (Ad (Ad nx)) (Ad nx)) (fun _=>rfl) (fun _=>rfl) ‹_› (by omega) (by omega)
  (fun C A'=>∃C0,kids E.N i=C0++C∧A'=(Ad (Ad nx),.row [.i .i64 (Int.ofNat i)] 3)::(Ad nx,.row [.p E.tp 0] 215)::(nx,.row [iA (C0.getLastD i)] 3)::B)
  (fun e A'=>False) (fun A'=>⟨fun c=>c,fun _ c=>c⟩) (by rintro C A' ⟨C0,_,rfl⟩;exact own_k hB hF [_,_,_] (by simp) (by simp)) ⟨[],rfl,rfl⟩ ?_ ?_ (fun e A' h nx' c=>c.elim)
 · rintro C _ C2 A' F1 F2 m2 lp mid K2 h nx2 ⟨c,rfl,rfl⟩ hm2 ⟨C0,hC,rfl⟩ S hmid hn1 hx1
   repeat' ((conv=>lhs;whnf);first
    |refine hmid (_::_::_::B) _ _ _ ‹_› (fun h' S=>?_)
    |exact hn1 _ _ _ ⟨C0++[c],by rw[hC,A4];rfl,by rw[List.getLastD_concat]⟩ ‹_›
    |contradiction
    |refine Be fun h' S=>?_
    |refine C8 fun h' S=>?_
    |refine Bj ?_
    |refine C9 ?_
    |refine Bi ?_
    |refine seqt ?_
    |refine Bg ?_
    |refine Bc ?_
    |refine Aq ?_
    |refine Ar ?_
    |refine Bh ?_)
 · rintro _ A' h nx2 rfl ⟨C0,hC,rfl⟩ S
   rw[Bp]at hC
   have hL:G9 E.N i=C0.getLastD i:=by unfold G9;rw[hC]
   rw[←hL]at S
   repeat' ((conv=>lhs;whnf);first
    |refine A1 ‹_› 0 rfl ?_
    |refine Bm ‹_› 0 rfl (fun h' S=>?_)
    |contradiction
    |refine Be fun h' S=>?_
    |refine C8 fun h' S=>?_
    |refine Bj ?_
    |refine C9 ?_
    |refine Bi ?_
    |refine seqt ?_
    |refine Bg ?_
    |refine Bc ?_
    |refine Aq ?_
    |refine Ar ?_
    |refine Bh ?_)
   conv=>lhs;whnf
   refine hk _ _ ?_
   exact hB.ti0 [] (Sat.right (C:=[_,_,_]) ‹_›)
theorem Qt {E:TEnv} (hE:TOK E) {n:Nat} (hn:1000100≤n) {s:S3} {iz vz:Int} {i v:Nat} (hiz:iz=Int.ofNat i) (hvz:vz=Int.ofNat v) (hi:i<E.N.length) (hv:v≤300000) {A:List Av} (hF:O6 E A) {kp:KP} {h:H} {nx:Pos} (T:TI E h nx s A) (hb:(ap s (G8 E.N i v)).ls.length≤1000000) {k:K}
 (hk:∀h' nx',TI E h' nx' (ap s (G8 E.N i v)) A→k (.tu []) h' nx'=true):Ai gg n kp (.fn 113 []) [.p E.tp 0,.i .i64 iz,.i .i64 vz] h nx k=true:=by
 subst hiz;subst hvz
 obtain⟨B,hB,S⟩:=TI.ex0 [] T
 replace S:Sat h nx B:=S
 have M:=Kr E.N E.r
 have hmi:=(hE.ok i hi).1
 have hti:=(hE.ok i hi).2
 have hwi:=hmi.w
 have hll:=hE.ll
 refine Ab hn (by omega) fun m hm=>?_
 repeat' ((conv=>lhs;whnf);first
  |refine S5 (by omega) ‹_› (fun h' S=>?_)
  |contradiction
  |refine Be fun h' S=>?_
  |refine C8 fun h' S=>?_
  |refine Bj ?_
  |refine C9 ?_
  |refine Bi ?_
  |refine seqt ?_
  |refine Bg ?_
  |refine Bc ?_
  |refine Aq ?_
  |refine Ar ?_
  |refine Bh ?_)
 conv=>lhs;whnf
 refine Ea 1000 (S6 hE hi (Ad (Ad (Ad nx))) (Ad (Ad nx))) (fun _=>rfl) (fun _=>rfl) ‹_› (by omega) (by omega)
  (fun C A'=>∃C0 B,kids E.N i=C0++C∧Se E (ap s (C0.flatMap fun k=>K3 E.N k (v+1))) A B∧A'=(Ad (Ad (Ad nx)),.row [.i .i64 (Int.ofNat i)] 3)::(Ad (Ad nx),.row [.p E.tp 0] 215)::(Ad nx,.row [.i .i64 (Int.ofNat v)] 3)::(nx,.row [.p E.tp 0] 215)::B)
  (fun e A'=>False) (fun A'=>⟨fun c=>c,fun _ c=>c⟩) (by rintro C A' ⟨C0,B,_,hB,rfl⟩;exact own_k hB hF [_,_,_,_] (by simp) (by simp)) ⟨[],B,rfl,hB,rfl⟩ ?_ ?_ (fun e A' h nx' c=>c.elim)
 · rintro C _ C2 A' F1 F2 m2 lp mid K2 h nx2 ⟨c,rfl,rfl⟩ hm2 ⟨C0,B,hC,hB,rfl⟩ S hmid hn1 hx1
   have hck:=hmi.kd c (by rw[hC];simp)
   have hb2:(ap (ap s (C0.flatMap fun k=>K3 E.N k (v+1))) (K3 E.N c (v+1))).ls.length≤1000000:=by
    rw[←Jj]
    refine Cr ?_ hb
    unfold G8
    rw[hC,Fx,Fi,A4,A4,←A4]
    exact Td _ _ _
   repeat' ((conv=>lhs;whnf);first
    |refine hmid (_::_::_::_::B) _ _ _ ‹_› (fun h' S=>?_)
    |refine Yx hE (by omega) rfl rfl hck.2.1 (by omega) (hF.app (F:=F2) [_,_,_,_]) (Se.ti [_,_,_,_] hB ‹_›) hb2 (fun h' nx' T=>?_)
    |contradiction
    |refine Be fun h' S=>?_
    |refine C8 fun h' S=>?_
    |refine Bj ?_
    |refine C9 ?_
    |refine Bi ?_
    |refine seqt ?_
    |refine Bg ?_
    |refine Bc ?_
    |refine Aq ?_
    |refine Ar ?_
    |refine Bh ?_
    |(first|refine C4 ?_ ?_|refine Dt ?_ ?_|refine Cu ?_ ?_|refine new ?_ ?_)<;>intro hc hz<;>(try simp only[Aj]at hz)<;>try rewrite [hc])
   conv=>lhs;whnf
   obtain⟨B2,hB2,S2⟩:=TI.ex (A:=A) (F:=F2) [_,_,_,_] T
   refine hn1 _ _ _ ⟨C0++[c],B2,by rw[hC,A4];rfl,?_,rfl⟩ S2
   rw[Fx,Jj]
   simpa using hB2
 · rintro _ A' h nx2 rfl ⟨C0,B,hC,hB,rfl⟩ S
   rw[Bp]at hC
   obtain⟨g1,g2,lnv,g3⟩:=hB.nd hF
   unfold TEnv.row at g3
   have e:ap s (G8 E.N i v)=ap1 (ap s (C0.flatMap fun k=>K3 E.N k (v+1))) (.ln ((nN E.N i).t-1) v):=by
    unfold G8;rw[Jj,hC];rfl
   rw[e]at hk hb
   repeat' ((conv=>lhs;whnf);first
    |refine A5 ‹_› (A3 [_,_,_,_,_] g3) (Aa rfl) ?_
    |refine M.rd1 (i:=i) (j:=2) ‹_› (A3 [_,_,_,_,_] g1) hi (by decide) rfl rfl ?_
    |(refine No (by omega) (by(try simp only[Aj]at *);omega) rfl (Se.ti0 [_,_,_,_,_] hB ‹_›) hb (fun h' nx' T=>?_)
      obtain⟨B2,hB2,S2⟩:=TI.ex0 (A:=A) [_,_,_,_,_] T)
    |refine A1 ‹_› 0 rfl ?_
    |refine Bm ‹_› 0 rfl (fun h' S=>?_)
    |exact hk _ _ (Se.ti0 [] hB2 (Sat.right (C:=[_,_,_,_]) ‹_›))
    |contradiction
    |refine Be fun h' S=>?_
    |refine C8 fun h' S=>?_
    |refine Bj ?_
    |refine C9 ?_
    |refine Bi ?_
    |refine seqt ?_
    |refine Bg ?_
    |refine Bc ?_
    |refine Aq ?_
    |refine Ar ?_
    |refine Bh ?_
    |(first|refine C4 ?_ ?_|refine Dt ?_ ?_|refine Cu ?_ ?_|refine new ?_ ?_)<;>intro hc hz<;>(try simp only[Aj]at hz)<;>try rewrite [hc])
   skip
def Lm (l:List Tk) (p:Nat):Bool:=decide ((l.getD p z0).c=7)
theorem tosub {o t f:Nat} (h:f<t) {sz:Nat}:o+(Int.ofNat t-1).toNat*sz+0=o+(t-1) * sz+0:=by rw[show(Int.ofNat t-1).toNat=t-1 by simp only[Aj];omega]
theorem Tq {E:TEnv} (hE:TOK E) {n:Nat} (hn:1000200≤n) {s:S3} {iz vz:Int} {i v:Nat} (hiz:iz=Int.ofNat i) (hvz:vz=Int.ofNat v) (hi:i<E.N.length) (hv:v≤300000) {A:List Av} (hF:O6 E A) {kp:KP} {h:H} {nx0:Pos} (T:TI E h nx0 s A) (hb:(ap s (Pu E.N (Lm E.l) i v)).ls.length≤1000000) {k:K}
 (hk:∀h' nx',TI E h' nx' (ap s (Pu E.N (Lm E.l) i v)) A→k (.tu []) h' nx'=true):Ai gg n kp (.fn 112 []) [.p E.tp 0,.i .i64 iz,.i .i64 vz] h nx0 k=true:=by
 subst hiz;subst hvz
 obtain⟨B,hB,S⟩:=TI.ex0 [] T
 replace S:Sat h nx0 B:=S
 have M:=Kr E.N E.r
 have hmi:=(hE.ok i hi).1
 have hll:=hE.ll
 refine Ab hn (by omega) fun m hm=>?_
 repeat' ((conv=>lhs;whnf);first
  |refine S5 (by omega) ‹_› (fun h' S=>?_)
  |contradiction
  |refine Be fun h' S=>?_
  |refine C8 fun h' S=>?_
  |refine Bj ?_
  |refine C9 ?_
  |refine Bi ?_
  |refine seqt ?_
  |refine Bg ?_
  |refine Bc ?_
  |refine Aq ?_
  |refine Ar ?_
  |refine Bh ?_)
 conv=>lhs;whnf
 refine Ea 1000150 (S6 hE hi (Ad (Ad (Ad nx0))) (Ad (Ad nx0))) (fun _=>rfl) (fun _=>rfl) ‹_› (by omega) (by omega)
  (fun C A'=>∃C0 B,kids E.N i=C0++C∧Se E (ap s (C0.flatMap fun k=>if((nN E.N k).k=6∨(nN E.N k).k=9)∧Lm E.l ((nN E.N k).t-1)=true then G8 E.N k v else[])) A B∧A'=(Ad (Ad (Ad nx0)),.row [.i .i64 (Int.ofNat i)] 3)::(Ad (Ad nx0),.row [.p E.tp 0] 215)::(Ad nx0,.row [.i .i64 (Int.ofNat v)] 3)::(nx0,.row [.p E.tp 0] 215)::B)
  (fun e A'=>False) (fun A'=>⟨fun c=>c,fun _ c=>c⟩) (by rintro C A' ⟨C0,B,_,hB,rfl⟩;exact own_k hB hF [_,_,_,_] (by simp) (by simp)) ⟨[],B,rfl,hB,rfl⟩ ?_ ?_ (fun e A' h nx' c=>c.elim)
 · rintro C _ C2 A' F1 F2 m2 lp mid K2 h nx2 ⟨c,rfl,rfl⟩ hm2 ⟨C0,B,hC,hB,rfl⟩ S hmid hn1 hx1
   have hck:=hmi.kd c (by rw[hC];simp)
   have htc:=(hE.ok c hck.2.1).2
   have hb2:(ap (ap s (C0.flatMap fun k=>if((nN E.N k).k=6∨(nN E.N k).k=9)∧Lm E.l ((nN E.N k).t-1)=true then G8 E.N k v else[])) (if((nN E.N c).k=6∨(nN E.N c).k=9)∧Lm E.l ((nN E.N c).t-1)=true then G8 E.N c v else[])).ls.length≤1000000:=by
    rw[←Jj]
    refine Cr ?_ hb
    unfold Pu
    rw[hC,Fx,Fi,←A4]
    exact Td _ _ _
   have hnext:∀ {B2:List Av},Se E (ap (ap s (C0.flatMap fun k=>if((nN E.N k).k=6∨(nN E.N k).k=9)∧Lm E.l ((nN E.N k).t-1)=true then G8 E.N k v else[])) (if((nN E.N c).k=6∨(nN E.N c).k=9)∧Lm E.l ((nN E.N c).t-1)=true then G8 E.N c v else[])) A B2→∀ {h nx},Sat h nx (((Ad (Ad (Ad nx0)),OB.row [.i .i64 (Int.ofNat i)] 3)::(Ad (Ad nx0),.row [.p E.tp 0] 215)::(Ad nx0,.row [.i .i64 (Int.ofNat v)] 3)::(nx0,.row [.p E.tp 0] 215)::B2)++F2)→K2 .nm h nx=true:=by
    intro B2 hB2 h nx S2
    refine hn1 _ _ _ ⟨C0++[c],_,by rw[hC,A4];rfl,?_,rfl⟩ S2
    rw[Fx,Jj]
    simpa using hB2
   obtain⟨g1,g2,lnv,g3⟩:=hB.nd hF
   unfold TEnv.row at g3
   have hlt:(nN E.N c).t-1<E.l.length:=by omega
   have hop:Lm E.l ((nN E.N c).t-1)=decide ((E.l[(nN E.N c).t-1]'hlt).c=7):=by
    unfold Lm;rw[A0,B8 hlt];rfl
   rw[hop]at hb2 hnext
   by_cases hcond:((nN E.N c).k=6∨(nN E.N c).k=9)∧(E.l[(nN E.N c).t-1]'hlt).c=7
   · rw[if_pos ⟨hcond.1,decide_eq_true hcond.2⟩]at hb2
     have hnext2:=fun {B2}=>@hnext B2
     rw[if_pos ⟨hcond.1,decide_eq_true hcond.2⟩]at hnext2
     repeat' ((conv=>lhs;whnf);first
      |exact absurd hcond (by first|exact fun c=>absurd c.1 (by(try simp only[Aj]at *);omega)|exact fun c=>absurd c.2 ‹_›)
      |exact absurd ⟨by first|exact .inl (by omega)|exact .inr (by omega),by assumption⟩ hcond
      |refine hmid (_::_::_::_::B) _ _ _ ‹_› (fun h' S=>?_)
      |refine hmid (_::_::_::_::_::B) _ _ _ ‹_› (fun h' S=>?_)
      |refine A5 ‹_› (B7 _ (A3 [_,_,_,_] g3)) (Aa rfl) ?_
      |refine A5 ‹_› (B7 _ (A3 [_,_,_,_,_] g3)) (Aa rfl) ?_
      |refine M.rd4 (i:=c) ‹_› (B7 _ (A3 [_,_,_,_] g1)) hck.2.1 rfl ?_
      |refine M.rd4 (i:=c) ‹_› (B7 _ (A3 [_,_,_,_,_] g1)) hck.2.1 rfl ?_
      |refine Fe B6 ‹_› (B7 _ (A3 [_,_,_,_,_] g2)) hE.h1 hE.h2 ((nN E.N c).t-1) 0 hlt (by omega) (tosub hck.2.2.2.1) ?_
      |(refine Qt hE (by omega) rfl rfl hck.2.1 hv (hF.app (F:=F2) [_,_,_,_,_]) (Se.ti [_,_,_,_,_] hB ‹_›) hb2 (fun h' nx' T=>?_)
        obtain⟨B2,hB2,S2⟩:=TI.ex (A:=A) (F:=F2) [_,_,_,_,_] T)
      |exact hnext2 hB2 (Sat.right (C:=[_]) ‹_›)
      |contradiction
      |refine Be fun h' S=>?_
      |refine C8 fun h' S=>?_
      |refine Bj ?_
      |refine C9 ?_
      |refine Bi ?_
      |refine seqt ?_
      |refine Bg ?_
      |refine Bc ?_
      |refine Aq ?_
      |refine Ar ?_
      |refine Bh ?_
      |(first|refine C4 ?_ ?_|refine Dt ?_ ?_|refine Cu ?_ ?_|refine new ?_ ?_)<;>intro hc hz<;>(try simp only[Aj]at hz)<;>try rewrite [hc])
     skip
   · have hno:¬(((nN E.N c).k=6∨(nN E.N c).k=9)∧decide ((E.l[(nN E.N c).t-1]'hlt).c=7)=true):=fun q=>hcond ⟨q.1,of_decide_eq_true q.2⟩
     have hnext2:=fun {B2}=>@hnext B2
     rw[if_neg hno]at hnext2
     repeat' ((conv=>lhs;whnf);first
      |exact absurd hcond (by first|exact fun c=>absurd c.1 (by(try simp only[Aj]at *);omega)|exact fun c=>absurd c.2 ‹_›)
      |exact absurd ⟨by first|exact .inl (by omega)|exact .inr (by omega),by assumption⟩ hcond
      |refine hmid (_::_::_::_::B) _ _ _ ‹_› (fun h' S=>?_)
      |refine hmid (_::_::_::_::_::B) _ _ _ ‹_› (fun h' S=>?_)
      |refine A5 ‹_› (B7 _ (A3 [_,_,_,_] g3)) (Aa rfl) ?_
      |refine A5 ‹_› (B7 _ (A3 [_,_,_,_,_] g3)) (Aa rfl) ?_
      |refine M.rd4 (i:=c) ‹_› (B7 _ (A3 [_,_,_,_] g1)) hck.2.1 rfl ?_
      |refine M.rd4 (i:=c) ‹_› (B7 _ (A3 [_,_,_,_,_] g1)) hck.2.1 rfl ?_
      |refine Fe B6 ‹_› (B7 _ (A3 [_,_,_,_,_] g2)) hE.h1 hE.h2 ((nN E.N c).t-1) 0 hlt (by omega) (tosub hck.2.2.2.1) ?_
      |exact hnext2 hB (Sat.right (C:=[_]) ‹_›)
      |contradiction
      |refine Be fun h' S=>?_
      |refine C8 fun h' S=>?_
      |refine Bj ?_
      |refine C9 ?_
      |refine Bi ?_
      |refine seqt ?_
      |refine Bg ?_
      |refine Bc ?_
      |refine Aq ?_
      |refine Ar ?_
      |refine Bh ?_
      |(first|refine C4 ?_ ?_|refine Dt ?_ ?_|refine Cu ?_ ?_|refine new ?_ ?_)<;>intro hc hz<;>(try simp only[Aj]at hz)<;>try rewrite [hc])
     skip
 · rintro _ A' h nx2 rfl ⟨C0,B,hC,hB,rfl⟩ S
   rw[Bp]at hC
   have e:Pu E.N (Lm E.l) i v=C0.flatMap fun k=>if((nN E.N k).k=6∨(nN E.N k).k=9)∧Lm E.l ((nN E.N k).t-1)=true then G8 E.N k v else[]:=by unfold Pu;rw[hC]
   rw[e]at hk
   repeat' ((conv=>lhs;whnf);first
    |refine A1 ‹_› 0 rfl ?_
    |refine Bm ‹_› 0 rfl (fun h' S=>?_)
    |exact hk _ _ (Se.ti0 [] hB (Sat.right (C:=[_,_,_,_]) ‹_›))
    |contradiction
    |refine Be fun h' S=>?_
    |refine C8 fun h' S=>?_
    |refine Bj ?_
    |refine C9 ?_
    |refine Bi ?_
    |refine seqt ?_
    |refine Bg ?_
    |refine Bc ?_
    |refine Aq ?_
    |refine Ar ?_
    |refine Bh ?_)
theorem P6 {E:TEnv} (hE:TOK E) {n:Nat} (hn:10≤n) {s:S3} {jz vz:Int} {j v:Nat} {b:Bool} (hjz:jz=Int.ofNat j) (hvz:vz=Int.ofNat v) (hj:j<E.N.length) (hv:v≤300000) {A:List Av} (hF:O6 E A) {kp:KP} {h:H} {nx:Pos} (T:TI E h nx s A) (hb:(ap s (Jb E.N j v b)).ls.length≤1000000) {k:K}
 (hk:∀h' nx',TI E h' nx' (ap s (Jb E.N j v b)) A→k (.b (decide ((nN E.N j).k=22))) h' nx'=true):Ai gg n kp (.fn 163 []) [.p E.tp 0,.i .i64 jz,.i .i64 vz,.b b] h nx k=true:=by
 subst hjz;subst hvz
 have T0:=T
 obtain⟨t1,t2,t3,lnv,XL,G,S⟩:=T
 have M:=Kr E.N E.r
 have hz22:∀x,x=N2 (Int.ofNat (nN E.N j).k) 22→x=decide ((nN E.N j).k=22):=fun x hx=>by
  rw[hx,I4]
  exact decide_eq_decide.2 (by simp only[Aj];omega)
 have hz22:=hz22 _ rfl
 refine Ab hn (by omega) fun m hm=>?_
 have hk3:∀B,B=(if(nN E.N j).k=22∨b=true∧(nN E.N j).k=27 then[Ps.Act.kn j v]else K3 E.N j (v+1))→(∀h' nx',TI E h' nx' (ap s B) A→k (.b (N2 (Int.ofNat (nN E.N j).k) 22)) h' nx'=true)∧(ap s B).ls.length≤1000000:=fun B hB=>by
  subst hB;rw[hz22];exact⟨hk,hb⟩
 by_cases hc:(nN E.N j).k=22∨b=true∧(nN E.N j).k=27
 · obtain⟨hk4,hb4⟩:=hk3 _ (if_pos hc).symm
   cases b
   all_goals
    simp only[Bool.false_eq_true,false_and,or_false,true_and]at hc
    repeat' ((conv=>lhs;whnf);first
     |refine Ic Je ‹_› 2 rfl j (by omega) true (Bf _) rfl rfl (fun h' S=>?_)
     |refine Ic H7 ‹_› 1 rfl j (by omega) v (Bf _) rfl rfl (fun h' S=>?_)
     |exact hk4 _ _ (TI.kn (by omega) t1 t2 t3 G ‹_›)
     |refine M.rd1 (i:=j) (j:=0) ‹_› hF.m2 hj (by decide) rfl rfl ?_
     |exact(by omega:False).elim
     |contradiction
     |refine Be fun h' S=>?_
     |refine C8 fun h' S=>?_
     |refine Bj ?_
     |refine C9 ?_
     |refine Bi ?_
     |refine seqt ?_
     |refine Bg ?_
     |refine Bc ?_
     |refine Aq ?_
     |refine Ar ?_
     |refine Bh ?_
     |(first|refine C4 ?_ ?_|refine Dt ?_ ?_|refine Cu ?_ ?_|refine new ?_ ?_)<;>intro hc hz<;>(try simp only[Aj]at hz)<;>try rewrite [hc])
 · obtain⟨hk4,hb4⟩:=hk3 _ (if_neg hc).symm
   cases b
   all_goals
    simp only[Bool.false_eq_true,false_and,or_false,true_and]at hc
    repeat' ((conv=>lhs;whnf);first
     |refine Yx hE (by omega) rfl rfl hj (by omega) hF T0 hb4 (fun h' nx' T=>?_)
     |exact hk4 _ _ ‹_›
     |refine M.rd1 (i:=j) (j:=0) ‹_› hF.m2 hj (by decide) rfl rfl ?_
     |exact(by omega:False).elim
     |contradiction
     |refine Be fun h' S=>?_
     |refine C8 fun h' S=>?_
     |refine Bj ?_
     |refine C9 ?_
     |refine Bi ?_
     |refine seqt ?_
     |refine Bg ?_
     |refine Bc ?_
     |refine Aq ?_
     |refine Ar ?_
     |refine Bh ?_
     |(first|refine C4 ?_ ?_|refine Dt ?_ ?_|refine Cu ?_ ?_|refine new ?_ ?_)<;>intro hc hz<;>(try simp only[Aj]at hz)<;>try rewrite [hc])
theorem branches_eq {E:TEnv} (hE:TOK E) {n:Nat} (hn:1000200≤n) {s:S3} {iz vz:Int} {i v:Nat} (hiz:iz=Int.ofNat i) (hvz:vz=Int.ofNat v) (hi:i<E.N.length) (hv:v≤300000) {A:List Av} (hF:O6 E A) {kp:KP} {h:H} {nx0:Pos} (T:TI E h nx0 s A) (hb:(ap s (Sd E.N v 0 false (kids E.N i))).ls.length≤1000000) {k:K}
 (hk:∀h' nx',TI E h' nx' (ap s (Sd E.N v 0 false (kids E.N i))) A→k (.tu []) h' nx'=true):Ai gg n kp (.fn 162 []) [.p E.tp 0,.i .i64 iz,.i .i64 vz] h nx0 k=true:=by
 subst hiz;subst hvz
 generalize hfin:ap s (Sd E.N v 0 false (kids E.N i))=fin at hb hk
 obtain⟨B,hB,S⟩:=TI.ex0 [] T
 replace S:Sat h nx0 B:=S
 have M:=Kr E.N E.r
 have hmi:=(hE.ok i hi).1
 have hll:=hE.ll
 have hnl:=hE.nl
 refine Ab hn (by omega) fun m hm=>?_
 repeat' ((conv=>lhs;whnf);first
  |refine S5 (by omega) ‹_› (fun h' S=>?_)
  |contradiction
  |refine Be fun h' S=>?_
  |refine C8 fun h' S=>?_
  |refine Bj ?_
  |refine C9 ?_
  |refine Bi ?_
  |refine seqt ?_
  |refine Bg ?_
  |refine Bc ?_
  |refine Aq ?_
  |refine Ar ?_
  |refine Bh ?_)
 conv=>lhs;whnf
 refine Ea 1000150 (S6 hE hi (Ad (Ad (Ad (Ad (Ad nx0))))) (Ad (Ad (Ad (Ad nx0))))) (fun _=>rfl) (fun _=>rfl) ‹_› (by omega) (by omega)
  (fun C A'=>∃(num:Nat) (br:Bool) (sI:S3) (B:List Av) (C0:List Nat),kids E.N i=C0++C∧C0.length=num∧ap sI (Sd E.N v num br C)=fin∧Se E sI A B∧A'=(Ad (Ad (Ad (Ad (Ad nx0)))),.row [.i .i64 (Int.ofNat i)] 3)::(Ad (Ad (Ad (Ad nx0))),.row [.p E.tp 0] 215)::(Ad (Ad (Ad nx0)),.row [.b br] 4)::(Ad (Ad nx0),.row [.i .i64 (Int.ofNat num)] 3)::(Ad nx0,.row [.i .i64 (Int.ofNat v)] 3)::(nx0,.row [.p E.tp 0] 215)::B)
  (fun e A'=>False) (fun A'=>⟨fun c=>c,fun _ c=>c⟩) (by rintro C A' ⟨num,br,sI,B,C0,_,_,_,hB,rfl⟩;exact own_k hB hF [_,_,_,_,_,_] (by simp) (by simp)) ⟨0,false,s,B,[],rfl,rfl,hfin,hB,rfl⟩ ?_ ?_ (fun e A' h nx' c=>c.elim)
 · rintro C _ C2 A' F1 F2 m2 lp mid K2 h nx2 ⟨c,rfl,rfl⟩ hm2 ⟨num,br,sI,B,C0,hC,hnum,hsI,hB,rfl⟩ S hmid hn1 hx1
   have hck:=hmi.kd c (by rw[hC];simp)
   have hnb:num≤1000000:=by
    have h1:(kids E.N i).length≤E.N.length:=by
     unfold kids
     have:∀u e k,(H5 E.N u e k).length≤u:=by
      intro u
      induction u with
      |zero=>intro e k;exact Ag _
      |succ u ih=>
       intro e k
       unfold H5
       split
       · rw[Cq];have:=ih e (k+(nN E.N k).s);omega
       · exact B9 _
     exact this _ _ _
    have h2:=congrArg List.length hC
    rw[Bb]at h2
    omega
   obtain⟨g1,g2,lnv,g3⟩:=hB.nd hF
   unfold TEnv.row at g3
   have hnext:∀ {B2:List Av} {br':Bool} {sJ:S3},ap sJ (Sd E.N v (num+1) br' C2)=fin→Se E sJ A B2→∀ {h nx},Sat h nx (((Ad (Ad (Ad (Ad (Ad nx0)))),OB.row [.i .i64 (Int.ofNat i)] 3)::(Ad (Ad (Ad (Ad nx0))),.row [.p E.tp 0] 215)::(Ad (Ad (Ad nx0)),.row [.b br'] 4)::(Ad (Ad nx0),.row [.i .i64 (Int.ofNat num+1)] 3)::(Ad nx0,.row [.i .i64 (Int.ofNat v)] 3)::(nx0,.row [.p E.tp 0] 215)::B2)++F2)→K2 .nm h nx=true:=by
    intro B2 br' sJ hfJ hB2 h nx S2
    exact hn1 _ _ _ ⟨num+1,br',sJ,B2,C0++[c],by rw[hC,A4];rfl,by rw[Bb,hnum];rfl,hfJ,hB2,rfl⟩ S2
   rcases(by omega:num=1∨num=2∨(num≠1∧num≠2))with h1|h1|h1
   · subst h1
     have e:Sd E.N v 1 br (c::C2)=Jb E.N c v false++Sd E.N v 2 (decide ((nN E.N c).k=22)) C2:=rfl
     rw[e,Jj]at hsI
     have hb2:(ap sI (Jb E.N c v false)).ls.length≤1000000:=by
      refine Cr ?_ (hsI▸hb)
      rw[Oc (Sd _ _ _ _ _),Bb];omega
     repeat' ((conv=>lhs;whnf);first
      |exact absurd hz (by decide)
      |refine hmid (_::_::_::_::_::_::B) _ _ _ ‹_› (fun h' S=>?_)
      |(refine P6 hE (by omega) rfl rfl hck.2.1 hv (hF.app (F:=F2) [_,_,_,_,_,_]) (Se.ti [_,_,_,_,_,_] hB ‹_›) hb2 (fun h' nx' T=>?_)
        obtain⟨B2,hB2,S2⟩:=TI.ex (A:=A) (F:=F2) [_,_,_,_,_,_] T)
      |exact hnext hsI hB2 ‹_›
      |contradiction
      |refine Be fun h' S=>?_
      |refine C8 fun h' S=>?_
      |refine Bj ?_
      |refine C9 ?_
      |refine Bi ?_
      |refine seqt ?_
      |refine Bg ?_
      |refine Bc ?_
      |refine Aq ?_
      |refine Ar ?_
      |refine Bh ?_
      |(first|refine C4 ?_ ?_|refine Dt ?_ ?_|refine Cu ?_ ?_|refine new ?_ ?_)<;>intro hc hz<;>(try simp only[Aj]at hz)<;>try rewrite [hc])
   · subst h1
     have hf1:(nN E.N i).f+1≤(nN E.N c).f:=hmi.k2 1 c (by rw[hC,Fy (by omega),hnum];rfl)
     have htc:=(hE.ok c hck.2.1).2
     cases br
     · have e:Sd E.N v 2 false (c::C2)=[.ln ((nN E.N c).f-1) v]++Jb E.N c v true++Sd E.N v 3 false C2:=rfl
       rw[e,Jj,Jj]at hsI
       have hb2:(ap (ap1 sI (.ln ((nN E.N c).f-1) v)) (Jb E.N c v true)).ls.length≤1000000:=by
        refine Cr ?_ (hsI▸hb)
        rw[Oc (Sd _ _ _ _ _),Bb];exact Nat.le_add_right _ _
       have hb3:(ap1 sI (.ln ((nN E.N c).f-1) v)).ls.length≤1000000:=by
        refine Cr ?_ hb2
        rw[Oc (Jb _ _ _ _),Bb];exact Nat.le_add_right _ _
       repeat' ((conv=>lhs;whnf);first
        |exact absurd hz (by decide)
        |refine hmid (_::_::_::_::_::_::B) _ _ _ ‹_› (fun h' S=>?_)
        |refine A5 ‹_› (B7 _ (A3 [_,_,_,_,_,_] g3)) (Aa rfl) ?_
        |refine M.rd1 (i:=c) (j:=1) ‹_› (B7 _ (A3 [_,_,_,_,_,_] g1)) hck.2.1 (by decide) rfl rfl ?_
        |(refine No (by omega) (by(try simp only[Aj]at *);omega) rfl (Se.ti [_,_,_,_,_,_] hB ‹_›) hb3 (fun h' nx' T=>?_)
          obtain⟨B2,hB2,S2⟩:=TI.ex (A:=A) (F:=F2) [_,_,_,_,_,_] T)
        |(refine P6 hE (by omega) rfl rfl hck.2.1 hv (hF.app (F:=F2) [_,_,_,_,_,_]) (Se.ti [_,_,_,_,_,_] hB2 ‹_›) hb2 (fun h' nx' T=>?_)
          obtain⟨B3,hB3,S3⟩:=TI.ex (A:=A) (F:=F2) [_,_,_,_,_,_] T)
        |exact hnext hsI hB3 ‹_›
        |contradiction
        |refine Be fun h' S=>?_
        |refine C8 fun h' S=>?_
        |refine Bj ?_
        |refine C9 ?_
        |refine Bi ?_
        |refine seqt ?_
        |refine Bg ?_
        |refine Bc ?_
        |refine Aq ?_
        |refine Ar ?_
        |refine Bh ?_
        |(first|refine C4 ?_ ?_|refine Dt ?_ ?_|refine Cu ?_ ?_|refine new ?_ ?_)<;>intro hc hz<;>(try simp only[Aj]at hz)<;>try rewrite [hc])
       all_goals skip
     · have e:Sd E.N v 2 true (c::C2)=Jb E.N c v true++Sd E.N v 3 true C2:=rfl
       rw[e,Jj]at hsI
       have hb2:(ap sI (Jb E.N c v true)).ls.length≤1000000:=by
        refine Cr ?_ (hsI▸hb)
        rw[Oc (Sd _ _ _ _ _),Bb];exact Nat.le_add_right _ _
       repeat' ((conv=>lhs;whnf);first
        |exact absurd hz (by decide)
        |refine hmid (_::_::_::_::_::_::B) _ _ _ ‹_› (fun h' S=>?_)
        |(refine P6 hE (by omega) rfl rfl hck.2.1 hv (hF.app (F:=F2) [_,_,_,_,_,_]) (Se.ti [_,_,_,_,_,_] hB ‹_›) hb2 (fun h' nx' T=>?_)
          obtain⟨B2,hB2,S2⟩:=TI.ex (A:=A) (F:=F2) [_,_,_,_,_,_] T)
        |exact hnext hsI hB2 ‹_›
        |contradiction
        |refine Be fun h' S=>?_
        |refine C8 fun h' S=>?_
        |refine Bj ?_
        |refine C9 ?_
        |refine Bi ?_
        |refine seqt ?_
        |refine Bg ?_
        |refine Bc ?_
        |refine Aq ?_
        |refine Ar ?_
        |refine Bh ?_
        |(first|refine C4 ?_ ?_|refine Dt ?_ ?_|refine Cu ?_ ?_|refine new ?_ ?_)<;>intro hc hz<;>(try simp only[Aj]at hz)<;>try rewrite [hc])
       all_goals skip
   · have e:Sd E.N v num br (c::C2)=Sd E.N v (num+1) br C2:=(if_neg h1.1).trans (if_neg h1.2)
     rw[e]at hsI
     repeat' ((conv=>lhs;whnf);first
      |exact absurd hz (by(try simp only[Aj]at *);omega)
      |refine hmid (_::_::_::_::_::_::B) _ _ _ ‹_› (fun h' S=>?_)
      |exact hnext hsI hB ‹_›
      |contradiction
      |refine Be fun h' S=>?_
      |refine C8 fun h' S=>?_
      |refine Bj ?_
      |refine C9 ?_
      |refine Bi ?_
      |refine seqt ?_
      |refine Bg ?_
      |refine Bc ?_
      |refine Aq ?_
      |refine Ar ?_
      |refine Bh ?_
      |(first|refine C4 ?_ ?_|refine Dt ?_ ?_|refine Cu ?_ ?_|refine new ?_ ?_)<;>intro hc hz<;>(try simp only[Aj]at hz)<;>try rewrite [hc])
     all_goals skip
 · rintro _ A' h nx2 rfl ⟨num,br,sI,B,C0,hC,hnum,hsI,hB,rfl⟩ S
   have hsI:sI=fin:=hsI
   subst hsI
   repeat' ((conv=>lhs;whnf);first
    |refine A1 ‹_› 0 rfl ?_
    |refine Bm ‹_› 0 rfl (fun h' S=>?_)
    |exact hk _ _ (Se.ti0 [] hB (Sat.right (C:=[_,_,_,_,_,_]) ‹_›))
    |contradiction
    |refine Be fun h' S=>?_
    |refine C8 fun h' S=>?_
    |refine Bj ?_
    |refine C9 ?_
    |refine Bi ?_
    |refine seqt ?_
    |refine Bg ?_
    |refine Bc ?_
    |refine Aq ?_
    |refine Ar ?_
    |refine Bh ?_)
end Go.CE
