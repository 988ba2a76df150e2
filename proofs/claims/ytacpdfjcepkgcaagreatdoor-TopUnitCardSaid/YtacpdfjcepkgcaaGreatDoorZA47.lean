/- Part 47 of the lemmas behind the claim. -/
import Derived.Test.YtacpdfjcepkgcaaGreatDoorZA01
import Derived.Test.YtacpdfjcepkgcaaGreatDoorZA46
set_option linter.unusedSimpArgs false
set_option linter.unusedVariables false
set_option linter.constructorNameAsVariable false
set_option linter.unusedSectionVars false
set_option linter.defProp false
set_option maxRecDepth 100000
set_option maxHeartbeats 40000000
namespace Go.CE
open Go Go.Ps Go.Proofs.YtacpdfjcepkgcaaGreatDoor
attribute [local irreducible] loopK Tt Ai K0 N2 Dg fits rd rd1 wr newC Kj Fk Fa Ve Oe Kq eqA
theorem OwnG.hm {E:GEnv} {b3 b2:Pos} {i:Nat} {A:List Av} {a b:Av} (h:OwnG E b3 b2 i A):OwnG E b3 b2 i (a::b::A):=
 ⟨Am _ (Am _ h.1),fun e he=>Am _ (Am _ (h.2 e he))⟩
theorem colon_ok {E:GEnv} (hE:GEok E) {n:Nat} (hn:1000060≤n) {iz:Int} {i:Nat} (hiz:iz=Int.ofNat i) (hi:i<E.N.length) (hk23:(nN E.N i).k∈[23,24,25,55,28,29,31,2]) {kp:KP} {h:H} {nx:Pos} {A:List Av} (G:GI E h nx A) {k:K} (hk:∀h' nx',GI E h' nx' A→k (.tu []) h' nx'=true):Ai gg n kp (.fn 167 []) [.p E.mp 0,.i .i64 iz] h nx k=true:=by
 subst hiz
 have hll:=hE.ll
 have hnl:=hE.nl
 have hmi:=(hE.ok i hi).1
 obtain⟨hlk,hlf⟩:=hmi.k23 hk23
 have hkl:=hmi.kd _ hlk
 have htl:=(hE.ok _ hkl.2.1).2
 have M:=Kr E.N E.r
 obtain⟨ML,hM,S⟩:=G
 refine Ab hn (by omega) fun m hm=>?_
 repeat' ((conv=>lhs;whnf);first
  |refine gk_ok (by omega) ‹_› (fun h' S=>?_)
  |contradiction
  |refine Be fun h' S=>?_
  |refine C8 fun h' S=>?_
  |refine Bj ?_
  |refine C9 ?_
  |refine Bi ?_
  |refine seqt ?_
  |refine Bg ?_
  |refine Bc ?_
  |refine Aq ?_
  |refine Ar ?_
  |refine Bh ?_)
 conv=>lhs;whnf
 refine Ea 1000 (gk_it hE hi (Ad (Ad nx)) (Ad nx)) (fun _=>rfl) (fun _=>rfl) ‹_› (by omega) (by omega)
  (fun s A'=>∃C0,kids E.N i=C0++s.2∧A'=(Ad (Ad nx),.row [.i .i64 (Int.ofNat i)] 3)::(Ad nx,.row [.p E.mp 0] 229)::(nx,.row [iA (C0.getLastD i)] 3)::E.row::(E.q,.row (ML.flatMap Aak) 169)::(E.tp,.row (E.l.flatMap Du) 54)::(E.r,.row (E.N.flatMap Dy) 132)::A)
  (fun e A'=>False) (fun A'=>⟨fun c=>c,fun _ c=>c⟩) (by rintro s A' ⟨C0,_,rfl⟩;exact⟨by simp,by simp⟩) ⟨[],rfl,rfl⟩ ?_ ?_ (fun e A' h nx' c=>c.elim) (hm:=OwnG.hm)
 · rintro⟨c0,C⟩ _ ⟨c2,C2⟩ A' F1 F2 m2 lp mid K2 h nx2 ⟨c,e1,e2,rfl⟩ hm2 ⟨C0,hC,rfl⟩ S hmid hn1 hx1
   replace e1:C=c::C2:=e1
   subst e1
   replace hC:kids E.N i=C0++c::C2:=hC
   repeat' ((conv=>lhs;whnf);first
    |refine hmid (_::_::_::_::_::_::_::A) _ _ _ ‹_› (fun h' S=>?_)
    |exact hn1 _ _ _ ⟨C0++[c],by rw[hC,A4];rfl,by rw[List.getLastD_concat]⟩ ‹_›
    |contradiction
    |refine Be fun h' S=>?_
    |refine C8 fun h' S=>?_
    |refine Bj ?_
    |refine C9 ?_
    |refine Bi ?_
    |refine seqt ?_
    |refine Bg ?_
    |refine Bc ?_
    |refine Aq ?_
    |refine Ar ?_
    |refine Bh ?_)
 · rintro⟨c0,C⟩ A' h nx2 hC2 ⟨C0,hC,rfl⟩ S
   replace hC2:C=[]:=hC2
   subst hC2
   rw[show((c0,([]:List Nat)).2)=[]from rfl,Bp]at hC
   have hL:G9 E.N i=C0.getLastD i:=by unfold G9;rw[hC]
   rw[←hL]at S
   unfold GEnv.row at S
   repeat' ((conv=>lhs;whnf);first
    |refine A1 ‹_› 0 rfl ?_
    |refine Bm ‹_› 0 rfl (fun h' S=>?_)
    |refine M.rd1 (i:=G9 E.N i) (j:=1) ‹_› (by simp) hkl.2.1 (by decide) rfl rfl ?_
    |(refine Kx (E:=E) (p:=(nN E.N (G9 E.N i)).f-1) (by omega) (by(try simp only[Aj]at *);omega) (by omega) (GI.swap hM (S.sub (.cons_cons _ (Gf [_,_,_] _)))) (fun h' nx' G=>?_)
      obtain⟨M2,hM2,S⟩:=G
      unfold GEnv.row at S)
    |refine A1 ‹_› 4 rfl ?_
    |refine Bm ‹_› 4 rfl (fun h' S=>?_)
    |exact hk _ _ ⟨M2,hM2,by unfold GEnv.row;assumption⟩
    |contradiction
    |refine Be fun h' S=>?_
    |refine C8 fun h' S=>?_
    |refine Bj ?_
    |refine C9 ?_
    |refine Bi ?_
    |refine seqt ?_
    |refine Bg ?_
    |refine Bc ?_
    |refine Aq ?_
    |refine Ar ?_
    |refine Bh ?_
    |(first|refine C4 ?_ ?_|refine Dt ?_ ?_|refine Cu ?_ ?_|refine new ?_ ?_)<;>intro hc hz<;>(try simp only[Aj]at hz)<;>try rewrite [hc])
theorem equals_ok {E:GEnv} (hE:GEok E) {n:Nat} (hn:10≤n) {iz:Int} {i:Nat} (hiz:iz=Int.ofNat i) (hi:i<E.N.length) (hk0:(nN E.N i).k=34∨(nN E.N i).k=13∨(nN E.N i).k=10) {kp:KP} {h:H} {nx:Pos} {A:List Av} (G:GI E h nx A) {k:K} (hk:∀h' nx',GI E h' nx' A→k (.tu []) h' nx'=true):Ai gg n kp (.fn 169 []) [.p E.mp 0,.i .i64 iz] h nx k=true:=by
 subst hiz
 have hll:=hE.ll
 have hnl:=hE.nl
 obtain⟨hmi,hti⟩:=hE.ok i hi
 have hw:=hmi.w
 have h10:=hmi.k10
 have h48:(nN E.N i).k=13→i+1<E.N.length:=fun e=>hmi.k48 (by rw[e];simp)
 have h1:(nN E.N i).k=34→i+1<E.N.length∧(nN E.N (i+1)).t<(nN E.N i).t:=fun e=>hmi.k1 (by rw[e];simp)
 have h1a:=fun e=>(h1 e).1
 have h1b:=fun e=>(h1 e).2
 have M:=Kr E.N E.r
 obtain⟨ML,hM,S⟩:=G
 unfold GEnv.row at S
 refine Ab hn (by omega) fun m hm=>?_
 repeat' ((conv=>lhs;whnf);first
  |exact(by omega:False).elim
  |refine M.rd4 (i:=i) ‹_› (by simp) hi rfl ?_
  |refine M.rd1 (i:=i+1) (j:=2) ‹_› (by simp) (by omega) (by decide) rfl rfl ?_
  |(refine Kx (E:=E) (p:=(nN E.N i).f+1) (by omega) rfl (by omega) (GI.swap hM (by unfold GEnv.row;assumption)) (fun h' nx' G=>?_))
  |(refine Kx (E:=E) (p:=(nN E.N (i+1)).t) (by omega) rfl (by omega) (GI.swap hM (by unfold GEnv.row;assumption)) (fun h' nx' G=>?_))
  |exact hk _ _ (GI.drop ‹_›)
  |exact hk _ _ (GI.drop (GI.swap hM (by unfold GEnv.row;assumption)))
  |contradiction
  |refine Be fun h' S=>?_
  |refine C8 fun h' S=>?_
  |refine Bj ?_
  |refine C9 ?_
  |refine Bi ?_
  |refine seqt ?_
  |refine Bg ?_
  |refine Bc ?_
  |refine Aq ?_
  |refine Ar ?_
  |refine Bh ?_
  |(first|refine C4 ?_ ?_|refine Dt ?_ ?_|refine Cu ?_ ?_|refine new ?_ ?_)<;>intro hc hz<;>(try simp only[Aj]at hz)<;>try rewrite [hc])
theorem cost_ok {E:GEnv} {n:Nat} (hn:3≤n) {kd:Nat} {kp:KP} {h:H} {nx:Pos} {A:List Av} (S:Sat h nx A) (hr:E.row∈A) {k:K} (hk1:36≤kd→kd≤45→∀z:Int,k (.tu [.i .i64 z,.b true]) h nx=true) (hk2:∀z:Int,k (.tu [.i .i64 z,.b false]) h nx=true):Ai gg n kp (.fn 172 []) [.p E.mp 0,iA kd] h nx k=true:=by
 unfold GEnv.row at hr
 refine Ab hn (by omega) fun m hm=>?_
 repeat' ((conv=>lhs;whnf);first
  |exact hk1 (by omega) (by omega) _
  |exact hk2 _
  |refine A5 ‹_› hr (Aa rfl) ?_
  |contradiction
  |refine Be fun h' S=>?_
  |refine C8 fun h' S=>?_
  |refine Bj ?_
  |refine C9 ?_
  |refine Bi ?_
  |refine seqt ?_
  |refine Bg ?_
  |refine Bc ?_
  |refine Aq ?_
  |refine Ar ?_
  |refine Bh ?_
  |(first|refine C4 ?_ ?_|refine Dt ?_ ?_|refine Cu ?_ ?_|refine new ?_ ?_)<;>intro hc hz<;>(try simp only[Aj]at hz)<;>try rewrite [hc])
def Ov (E:GEnv) (M:List (Int×Int)) (A:List Av):List Av:=E.row::(E.q,.row (M.flatMap Aak) 169)::(E.tp,.row (E.l.flatMap Du) 54)::(E.r,.row (E.N.flatMap Dy) 132)::A
theorem perm_X4 {a b c d:Av} {L A F:List Av}:(L++(a::b::c::d::A)++F).Perm (a::b::c::d::(L++(A++F))):=by
 classical exact Ie.2 fun e=>by simp only[List.count_append,List.count_cons];omega
theorem Ov.gi {E:GEnv} {M:List (Int×Int)} (hM:M.length=E.l.length) {A F:List Av} (L:List Av) {h:H} {nx:Pos} (S:Sat h nx (L++Ov E M A++F)):GI E h nx (L++(A++F)):=⟨M,hM,S.perm perm_X4⟩
theorem GI.ex {E:GEnv} {A F:List Av} (L:List Av) {h:H} {nx:Pos} (G:GI E h nx (L++(A++F))):∃M:List (Int×Int),M.length=E.l.length∧Sat h nx (L++Ov E M A++F):=by
 obtain⟨M,hM,S⟩:=G
 exact⟨M,hM,S.perm perm_X4.symm⟩
theorem own_g {E:GEnv} {b3 b2:Pos} {i:Nat} {M:List (Int×Int)} {A:List Av} (L:List Av) (h1:(b3,OB.row [.i .i64 (Int.ofNat i)] 3)∈L) (h2:(b2,OB.row [.p E.mp 0] 229)∈L):OwnG E b3 b2 i (L++Ov E M A):=by
 refine⟨A3 _ (Aw ..),fun e he=>?_⟩
 rcases Bo.1 he with rfl|he
 · exact B7 _ h1
 rcases Bo.1 he with rfl|he
 · exact B7 _ h2
 · rw[Co.1 he];exact A3 _ (by unfold Ov;simp)
theorem item_ok {E:GEnv} (hE:GEok E) {n:Nat} (hn:1000160≤n) {iz:Int} {i:Nat} (hiz:iz=Int.ofNat i) (hi:i<E.N.length) {kp:KP} {h:H} {nx:Pos} {A:List Av} (G:GI E h nx A) {k:K} (hk:∀h' nx',GI E h' nx' A→k (.tu []) h' nx'=true):Ai gg n kp (.fn 170 []) [.p E.mp 0,.i .i64 iz] h nx k=true:=by
 subst hiz
 have hll:=hE.ll
 have hnl:=hE.nl
 have hmi:=(hE.ok i hi).1
 have MN:=Kr E.N E.r
 obtain⟨M0,hM0,S⟩:=G
 replace S:Sat h nx (Ov E M0 A):=S
 refine Ab hn (by omega) fun m hm=>?_
 repeat' ((conv=>lhs;whnf);first
  |refine gk_ok (by omega) ‹_› (fun h' S=>?_)
  |contradiction
  |refine Be fun h' S=>?_
  |refine C8 fun h' S=>?_
  |refine Bj ?_
  |refine C9 ?_
  |refine Bi ?_
  |refine seqt ?_
  |refine Bg ?_
  |refine Bc ?_
  |refine Aq ?_
  |refine Ar ?_
  |refine Bh ?_)
 conv=>lhs;whnf
 refine Ea 100 (gk_it hE hi (Ad (Ad nx)) (Ad nx)) (fun _=>rfl) (fun _=>rfl) ‹_› (by omega) (by omega)
  (fun s A'=>∃C0 M,kids E.N i=C0++s.2∧s.1=C0.length∧M.length=E.l.length∧A'=[(Ad (Ad nx),OB.row [.i .i64 (Int.ofNat i)] 3),(Ad nx,.row [.p E.mp 0] 229),(nx,.row [.p E.mp 0] 229)]++Ov E M A)
  (fun e A'=>e=.rt∧∃M,M.length=E.l.length∧A'=[(Ad (Ad nx),OB.row [.i .i64 (Int.ofNat i)] 3),(Ad nx,.row [.p E.mp 0] 229),(nx,.row [.p E.mp 0] 229)]++Ov E M A) (fun A'=>⟨fun c=>(by cases c.1),fun _ c=>(by cases c.1)⟩) (by rintro s A' ⟨C0,M,_,_,_,rfl⟩;exact own_g _ (by simp) (by simp)) ⟨[],M0,rfl,rfl,hM0,rfl⟩ ?_ ?_ ?_ (hm:=OwnG.hm)
 · rintro⟨c0,C⟩ a ⟨c2,C2⟩ A' F1 F2 m2 lp mid K2 h nx2 ⟨c,e1,e2,e3⟩ hm2 ⟨C0,M,hC,hC0,hM,rfl⟩ S hmid hn1 hx1
   replace e1:C=c::C2:=e1
   subst e1
   replace hC:kids E.N i=C0++c::C2:=hC
   replace hC0:c0=C0.length:=hC0
   replace e2:c2=c0+1:=e2
   subst e2
   replace e3:a=[.i .i64 (Int.ofNat c0),.i .i64 (Int.ofNat c)]:=e3
   subst e3;subst hC0
   have hck:=hmi.kd c (by rw[hC];simp)
   have htc:=(hE.ok c hck.2.1).2
   have hf1:0<C0.length→(nN E.N i).f+1≤(nN E.N c).f:=fun h0=>hmi.k2 (C0.length-1) c (by rw[hC,show C0.length-1+1=C0.length by omega];simp)
   have hdone:∀ {h nxa M2},M2.length=E.l.length→Sat h nxa (([(Ad (Ad nx),OB.row [.i .i64 (Int.ofNat i)] 3),(Ad nx,.row [.p E.mp 0] 229),(nx,.row [.p E.mp 0] 229)]++Ov E M2 A)++F2)→K2 .nm h nxa=true:=fun {h nxa M2} h1 S=>hn1 _ _ _ ⟨C0++[c],M2,by rw[hC,A4];rfl,by rw[Bb];rfl,h1,rfl⟩ S
   repeat' ((conv=>lhs;whnf);first
    |exact(by omega:False).elim
    |refine hmid (_::_::_::Ov E M A) _ _ _ ‹_› (fun h' S=>?_)
    |refine A5 ‹_› (by simp[Ov,GEnv.row];rfl) (Aa rfl) ?_
    |refine MN.rd4 (i:=c) ‹_› (by simp[Ov]) hck.2.1 rfl ?_
    |refine gis_ok hE (p:=(nN E.N c).f) (by omega) rfl (by omega) ‹_› (by simp[Ov]) (by simp[Ov]) (fun b=>?_)
    |(refine Kx (E:=E) (p:=(nN E.N c).f-1) (by omega) (by(try simp only[Aj]at *);omega) (by omega) (Ov.gi hM [_,_,_,_] ‹_›) (fun h' nx' G=>?_)
      obtain⟨M2,hM2,S⟩:=GI.ex (A:=A) (F:=F2) [_,_,_,_] G)
    |(refine Kx (E:=E) (p:=(nN E.N c).f) (by omega) rfl (by omega) (Ov.gi hM [_,_,_,_] ‹_›) (fun h' nx' G=>?_)
      obtain⟨M2,hM2,S⟩:=GI.ex (A:=A) (F:=F2) [_,_,_,_] G)
    |exact hdone hM2 (S.tail)
    |exact hdone hM (Sat.tail ‹_›)
    |exact hx1 .rt _ _ _ ⟨rfl,M2,hM2,rfl⟩ (S.tail)
    |exact hx1 .rt _ _ _ ⟨rfl,M,hM,rfl⟩ (Sat.tail ‹_›)
    |cases b
    |contradiction
    |refine Be fun h' S=>?_
    |refine C8 fun h' S=>?_
    |refine Bj ?_
    |refine C9 ?_
    |refine Bi ?_
    |refine seqt ?_
    |refine Bg ?_
    |refine Bc ?_
    |refine Aq ?_
    |refine Ar ?_
    |refine Bh ?_
    |(first|refine C4 ?_ ?_|refine Dt ?_ ?_|refine Cu ?_ ?_|refine new ?_ ?_)<;>intro hc hz<;>(try simp only[Aj]at hz)<;>try rewrite [hc])
 · rintro⟨c0,C⟩ A' h nx2 _ ⟨C0,M,_,_,hM,rfl⟩ S
   repeat' ((conv=>lhs;whnf);first
    |refine A1 ‹_› 0 rfl ?_
    |refine Bm ‹_› 0 rfl (fun h' S=>?_)
    |exact hk _ _ ⟨M,hM,Sat.right (C:=[_,_,_]) ‹_›⟩
    |contradiction
    |refine Be fun h' S=>?_
    |refine C8 fun h' S=>?_
    |refine Bj ?_
    |refine C9 ?_
    |refine Bi ?_
    |refine seqt ?_
    |refine Bg ?_
    |refine Bc ?_
    |refine Aq ?_
    |refine Ar ?_
    |refine Bh ?_)
 · rintro e A' h nx2 ⟨rfl,M,hM,rfl⟩ S
   repeat' ((conv=>lhs;whnf);first
    |refine A1 ‹_› 0 rfl ?_
    |refine Bm ‹_› 0 rfl (fun h' S=>?_)
    |exact hk _ _ ⟨M,hM,Sat.right (C:=[_,_,_]) ‹_›⟩
    |contradiction
    |refine Be fun h' S=>?_
    |refine C8 fun h' S=>?_
    |refine Bj ?_
    |refine C9 ?_
    |refine Bi ?_
    |refine seqt ?_
    |refine Bg ?_
    |refine Bc ?_
    |refine Aq ?_
    |refine Ar ?_
    |refine Bh ?_)
theorem choice_ok {E:GEnv} (hE:GEok E) {n:Nat} (hn:1000160≤n) {iz:Int} {i:Nat} (hiz:iz=Int.ofNat i) (hi:i<E.N.length) (hk1:(nN E.N (i+1)).t<(nN E.N i).t) {kp:KP} {h:H} {nx:Pos} {A:List Av} (G:GI E h nx A) {k:K} (hk:∀h' nx',GI E h' nx' A→k (.tu []) h' nx'=true):Ai gg n kp (.fn 171 []) [.p E.mp 0,.i .i64 iz] h nx k=true:=by
 subst hiz
 have hll:=hE.ll
 have hnl:=hE.nl
 have hmi:=(hE.ok i hi).1
 have hti:=(hE.ok i hi).2
 have MN:=Kr E.N E.r
 obtain⟨M0,hM0,S⟩:=G
 replace S:Sat h nx (Ov E M0 A):=S
 refine Ab hn (by omega) fun m hm=>?_
 repeat' ((conv=>lhs;whnf);first
  |refine gk_ok (by omega) ‹_› (fun h' S=>?_)
  |contradiction
  |refine Be fun h' S=>?_
  |refine C8 fun h' S=>?_
  |refine Bj ?_
  |refine C9 ?_
  |refine Bi ?_
  |refine seqt ?_
  |refine Bg ?_
  |refine Bc ?_
  |refine Aq ?_
  |refine Ar ?_
  |refine Bh ?_)
 conv=>lhs;whnf
 refine Ea 100 (gk_it hE hi (Ad (Ad nx)) (Ad nx)) (fun _=>rfl) (fun _=>rfl) ‹_› (by omega) (by omega)
  (fun s A'=>∃C0 M,kids E.N i=C0++s.2∧s.1=C0.length∧M.length=E.l.length∧A'=[(Ad (Ad nx),OB.row [.i .i64 (Int.ofNat i)] 3),(Ad nx,.row [.p E.mp 0] 229),(nx,.row [.p E.mp 0] 229)]++Ov E M A)
  (fun e A'=>False) (fun A'=>⟨fun c=>c.elim,fun _ c=>c.elim⟩) (by rintro s A' ⟨C0,M,_,_,_,rfl⟩;exact own_g _ (by simp) (by simp)) ⟨[],M0,rfl,rfl,hM0,rfl⟩ ?_ ?_ ?_ (hm:=OwnG.hm)
 · rintro⟨c0,C⟩ a ⟨c2,C2⟩ A' F1 F2 m2 lp mid K2 h nx2 ⟨c,e1,e2,e3⟩ hm2 ⟨C0,M,hC,hC0,hM,rfl⟩ S hmid hn1 hx1
   replace e1:C=c::C2:=e1
   subst e1
   replace hC:kids E.N i=C0++c::C2:=hC
   replace hC0:c0=C0.length:=hC0
   replace e2:c2=c0+1:=e2
   subst e2
   replace e3:a=[.i .i64 (Int.ofNat c0),.i .i64 (Int.ofNat c)]:=e3
   subst e3;subst hC0
   have hck:=hmi.kd c (by rw[hC];simp)
   have htc:=(hE.ok c hck.2.1).2
   have hf1:0<C0.length→(nN E.N i).f+1≤(nN E.N c).f:=fun h0=>hmi.k2 (C0.length-1) c (by rw[hC,show C0.length-1+1=C0.length by omega];simp)
   have hc1:C0.length=0→(nN E.N c).t<(nN E.N i).t:=fun h0=>by
    have e:C0=[]:=O4 h0
    have:=hmi.kh c (by rw[hC,e];rfl)
    rw[this];exact hk1
   have hdone:∀ {h nxa M2},M2.length=E.l.length→Sat h nxa (([(Ad (Ad nx),OB.row [.i .i64 (Int.ofNat i)] 3),(Ad nx,.row [.p E.mp 0] 229),(nx,.row [.p E.mp 0] 229)]++Ov E M2 A)++F2)→K2 .nm h nxa=true:=fun {h nxa M2} h1 S=>hn1 _ _ _ ⟨C0++[c],M2,by rw[hC,A4];rfl,by rw[Bb];rfl,h1,rfl⟩ S
   repeat' ((conv=>lhs;whnf);first
    |exact(by omega:False).elim
    |refine hmid (_::_::_::Ov E M A) _ _ _ ‹_› (fun h' S=>?_)
    |refine A5 ‹_› (by simp[Ov,GEnv.row];rfl) (Aa rfl) ?_
    |refine MN.rd1 ‹_› (by simp[Ov]) (i:=c) (j:=2) hck.2.1 (by decide) rfl rfl ?_
    |refine MN.rd1 ‹_› (by simp[Ov]) (i:=c) (j:=1) hck.2.1 (by decide) rfl rfl ?_
    |(refine O3 (E:=E) (p:=(nN E.N c).f-1) (by omega) (by(try simp only[Aj]at *);omega) (by omega) (Ov.gi hM [_,_,_] ‹_›) (fun h' nx' G=>?_)
      obtain⟨M2,hM2,S⟩:=GI.ex (A:=A) (F:=F2) [_,_,_] G)
    |(refine O3 (E:=E) (p:=(nN E.N c).t) (by omega) rfl (by omega) (Ov.gi hM [_,_,_] ‹_›) (fun h' nx' G=>?_)
      obtain⟨M2,hM2,S⟩:=GI.ex (A:=A) (F:=F2) [_,_,_] G)
    |exact hdone hM2 S
    |exact hdone hM ‹_›
    |contradiction
    |refine Be fun h' S=>?_
    |refine C8 fun h' S=>?_
    |refine Bj ?_
    |refine C9 ?_
    |refine Bi ?_
    |refine seqt ?_
    |refine Bg ?_
    |refine Bc ?_
    |refine Aq ?_
    |refine Ar ?_
    |refine Bh ?_
    |(first|refine C4 ?_ ?_|refine Dt ?_ ?_|refine Cu ?_ ?_|refine new ?_ ?_)<;>intro hc hz<;>(try simp only[Aj]at hz)<;>try rewrite [hc])
 · rintro⟨c0,C⟩ A' h nx2 _ ⟨C0,M,_,_,hM,rfl⟩ S
   repeat' ((conv=>lhs;whnf);first
    |refine A1 ‹_› 0 rfl ?_
    |refine Bm ‹_› 0 rfl (fun h' S=>?_)
    |exact hk _ _ ⟨M,hM,Sat.right (C:=[_,_,_]) ‹_›⟩
    |contradiction
    |refine Be fun h' S=>?_
    |refine C8 fun h' S=>?_
    |refine Bj ?_
    |refine C9 ?_
    |refine Bi ?_
    |refine seqt ?_
    |refine Bg ?_
    |refine Bc ?_
    |refine Aq ?_
    |refine Ar ?_
    |refine Bh ?_)
 · rintro e A' h nx2 c S
   exact c.elim
theorem gvisit_ok {E:GEnv} (hE:GEok E) {n:Nat} (hn:1000200≤n) {iz:Int} {i:Nat} (hiz:iz=Int.ofNat i) (hi:i<E.N.length) {kp:KP} {h:H} {nx:Pos} {A:List Av} (G:GI E h nx A) {k:K} (hk:∀h' nx',GI E h' nx' A→k (.tu []) h' nx'=true):Ai gg n kp (.fn 120 []) [.p E.mp 0,.i .i64 iz] h nx k=true:=by
 subst hiz
 have hll:=hE.ll
 have hnl:=hE.nl
 have hmi:=(hE.ok i hi).1
 have hti:=(hE.ok i hi).2
 have hw:=hmi.w
 have k4:(nN E.N i).k=4∨(nN E.N i).k=11∨(nN E.N i).k=12∨(nN E.N i).k=54∨(nN E.N i).k=48→(nN E.N i).f+1<(nN E.N i).t:=fun c=>hmi.k4 (by simp only[Bo,Ge,or_false];exact c)
 have k48:(nN E.N i).k=48→i+1<E.N.length:=fun c=>hmi.k48 (by rw[c];simp)
 have k1:(nN E.N i).k=49∨(nN E.N i).k=50∨(nN E.N i).k=51∨(nN E.N i).k=46∨(nN E.N i).k=53∨(nN E.N i).k=35→i+1<E.N.length∧(nN E.N (i+1)).t<(nN E.N i).t:=fun c=>hmi.k1 (by rcases c with c|c|c|c|c|c<;>rw[c]<;>simp)
 have k2:36≤(nN E.N i).k→(nN E.N i).k≤45→i+1<E.N.length∧(nN E.N (i+1)).t<(nN E.N i).t:=fun c d=>hmi.k1 (by simp only[Bo,Ge,or_false];omega)
 have k23:(nN E.N i).k=23∨(nN E.N i).k=24∨(nN E.N i).k=25∨(nN E.N i).k=55→(nN E.N i).k∈[23,24,25,55,28,29,31,2]:=fun c=>by rcases c with c|c|c|c<;>rw[c]<;>simp
 have MN:=Kr E.N E.r
 obtain⟨M,hM,S⟩:=G
 replace S:Sat h nx (Ov E M A):=S
 refine Ab hn (by omega) fun m hm=>?_
 repeat' ((conv=>lhs;whnf);first
  |exact(by omega:False).elim
  |exact hk _ _ (GI.drop ‹_›)
  |exact hk _ _ (GI.drop (GI.swap hM ‹_›))
  |refine A5 ‹_› (by simp[Ov,GEnv.row];rfl) (Aa rfl) ?_
  |refine MN.rd4 (i:=i) ‹_› (by simp[Ov]) hi rfl ?_
  |refine MN.rd1 ‹_› (by simp[Ov]) (i:=i+1) (j:=0) (by omega) (by decide) rfl rfl ?_
  |refine MN.rd1 ‹_› (by simp[Ov]) (i:=i+1) (j:=2) (by omega) (by decide) rfl rfl ?_
  |refine Kx (E:=E) (p:=(nN E.N i).f) (by omega) rfl (by omega) (GI.swap hM ‹_›) (fun h' nx' G=>?_)
  |refine Kx (E:=E) (p:=(nN E.N (i+1)).t) (by omega) rfl (by omega) (GI.swap hM ‹_›) (fun h' nx' G=>?_)
  |refine Kx (E:=E) (p:=(nN E.N i).f+1) (by omega) (by(try simp only[Aj]at *);omega) (by omega) (GI.swap hM ‹_›) (fun h' nx' G=>?_)
  |refine Kx (E:=E) (p:=(nN E.N i).t-1) (by omega) (by(try simp only[Aj]at *);omega) (by omega) (GI.swap hM ‹_›) (fun h' nx' G=>?_)
  |refine colon_ok hE (by omega) rfl hi (k23 (by omega)) (GI.swap hM ‹_›) (fun h' nx' G=>?_)
  |refine stars_ok hE (by omega) (nd:=nN E.N i) (by omega) (by omega) (GI.swap hM ‹_›) (fun h' nx' G=>?_)
  |refine equals_ok hE (by omega) rfl hi (by omega) (GI.swap hM ‹_›) (fun h' nx' G=>?_)
  |refine item_ok hE (by omega) rfl hi (GI.swap hM ‹_›) (fun h' nx' G=>?_)
  |refine choice_ok hE (by omega) rfl hi (by omega) (GI.swap hM ‹_›) (fun h' nx' G=>?_)
  |refine cost_ok (E:=E) (by omega) ‹_› (by simp[Ov]) (fun c1 c2 z=>?_) (fun z=>?_)
  |refine O3 (E:=E) (p:=(nN E.N (i+1)).t) (by omega) rfl (by have:=k2 c1 c2;omega) (GI.swap hM ‹_›) (fun h' nx' G=>?_)
  |contradiction
  |refine Be fun h' S=>?_
  |refine C8 fun h' S=>?_
  |refine Bj ?_
  |refine C9 ?_
  |refine Bi ?_
  |refine seqt ?_
  |refine Bg ?_
  |refine Bc ?_
  |refine Aq ?_
  |refine Ar ?_
  |refine Bh ?_
  |(first|refine C4 ?_ ?_|refine Dt ?_ ?_|refine Cu ?_ ?_|refine new ?_ ?_)<;>intro hc hz<;>(try simp only[Aj]at hz)<;>try rewrite [hc])
theorem perm_X5 {a b x c d:Av} {A:List Av}:(a::b::x::c::d::A).Perm (a::b::c::d::x::A):=by
 classical exact Ie.2 fun e=>by simp only[List.count_cons];omega
theorem marksOf_ok {n:Nat} (hn:1000300≤n) {l:List Tk} {N:List Nd} {tp r:Pos} {ct cr:Cap} {z:Nat→Int} {b:Nat→Bool} (hl:l.length≤20000) (hN:N.length≤200000) (hok:∀i,i<N.length→MkOK N i∧(nN N i).t≤l.length) {kp:KP} {h:H} {nx:Pos} {A:List Av} (S:Sat h nx ((tp,.row (l.flatMap Du) 54)::(r,.row (N.flatMap Dy) 132)::A)) {k:K}
 (hk:∀(M:List (Int×Int)) q h' nx',M.length=l.length→Sat h' nx' ((q,.row (M.flatMap Aak) 169)::(tp,.row (l.flatMap Du) 54)::(r,.row (N.flatMap Dy) 132)::A)→k (.sl q 0 l.length (.k l.length)) h' nx'=true):Ai gg n kp (.fn 62 []) [.sl tp 0 l.length ct,.sl r 0 N.length cr,.ag (Pn z b)] h nx k=true:=by
 have hE:∀q mp,GEok ⟨l,N,tp,r,q,mp,ct,cr,z,b⟩:=fun q mp=>⟨hN,hl,hok⟩
 refine Ab hn (by omega) fun m hm=>?_
 repeat' ((conv=>lhs;whnf);first
  |refine Bq (y:=false) (show l.length*16≤1000000000 by omega) ?_
  |refine Bq (y:=false) (show l.length≤1000000000 by omega) ?_
  |refine Ek Aak Qg (by decide) (0,0) ‹_› rfl rfl (fun h' S=>?_)
  |(refine Br (L:=[7,18,19]) rfl (fun m vs d' h' nx'=>∃i:Nat,i≤N.length∧N.length-i=m∧GI ⟨l,N,tp,r,Ad nx,Ad (Ad nx),ct,cr,z,b⟩ h' nx' ((nx,.row (Pn z b) 23)::A)∧d'=[]∧vs=[.p (Ad (Ad nx)) 0,.i .i64 (Int.ofNat N.length),.i .i64 (.ofNat i)]) N.length (by omega) ⟨0,by omega,rfl,⟨List.replicate l.length (0,0),Fj,Sat.perm ‹_› perm_X5⟩,rfl,rfl⟩ ?_
    rintro m _ d' h' nx' ⟨i,hi,rfl,G,rfl,rfl⟩ k' hn' hx)
  |refine gvisit_ok (hE _ _) (i:=i) (by omega) rfl (show i<N.length by omega) G (fun h' nx' G=>?_)
  |exact hn' _ _ _ _ _ (by omega) ⟨i+1,by omega,rfl,G,rfl,rfl⟩
  |(refine hx _ _ _ _ _ trivial ?_
    obtain⟨M,hM,S⟩:=G)
  |refine A5 S (Aw ..) (Aa rfl) ?_
  |exact hk M (Ad nx) _ _ hM (S.sub (.cons _ (.cons_cons _ (.cons_cons _ (.cons_cons _ (.cons _ (.refl _)))))))
  |contradiction
  |refine Be fun h' S=>?_
  |refine C8 fun h' S=>?_
  |refine Bj ?_
  |refine C9 ?_
  |refine Bi ?_
  |refine seqt ?_
  |refine Bg ?_
  |refine Bc ?_
  |refine Aq ?_
  |refine Ar ?_
  |refine Bh ?_
  |(first|refine C4 ?_ ?_|refine Dt ?_ ?_|refine Cu ?_ ?_|refine new ?_ ?_)<;>intro hc hz<;>(try simp only[Aj]at hz)<;>try rewrite [hc])
end Go.CE
namespace Go.CE
open Go Go.Ps Go.Ps.Fr Go.Proofs.YtacpdfjcepkgcaaGreatDoor
theorem canE_len (t:List Nat):(canE t).length≤t.length+4:=by
 unfold canE
 repeat' split
 all_goals first|(simp;done)|omega|(simp;omega)
theorem clsE_len {kd:Int} {t x:List Nat} {c:Int} (h:Ka kd t=some (c,x)):x.length≤t.length+4:=by
 unfold Ka at h
 repeat' split at h
 all_goals first
  |(cases h;done)
  |(simp only[Option.some.injEq,Prod.mk.injEq]at h;rw[←h.2];first|exact canE_len _|omega)
theorem clsT_len (t:T5):(Ia t).t.length≤t.x.length+4:=by
 unfold Ia
 cases h:Ka t.k t.x with
 |none=>exact B9 _
 |some p=>obtain⟨c,x⟩:=p;exact clsE_len h
theorem Sat.front {h:H} {nx:Pos} {e:Av} {A:List Av} (he:e∈A):∃B,A.Perm (e::B):=by
 obtain⟨s,t,rfl⟩:=List.append_of_mem he
 exact⟨s++t,Fh⟩
attribute [local irreducible] loopK Tt Ai K0 N2 Dg fits rd rd1 wr newC Kj Fk Fa Ve Oe Kq eqA
theorem Rr {α:Type} {f:α→List AV} {es:Nat} (hf:∀a,(f a).length=es) {l:List α} {h:H} {nx:Pos} {A:List Av} (S:Sat h nx A) {p:Pos} {ty:Nat} (hp:(p,OB.row (l.flatMap f) ty)∈A) (hes:0<es) (i:Nat) {x:α} (hx:l[i]?=some x) {o:Nat} (ho:o=i*es) {k:List AV→Bool} (hk:k (f x)=true):rd h p o es k=true:=by
 obtain⟨hi,e⟩:=Gn.1 hx
 refine Gl hf S hp (off:=0) (by rw[List.drop_zero];exact Et (by rw[Az hf];exact Ag _)) (by rw[Az hf];omega) hes i hi (by omega) ?_
 rw[e];exact hk
theorem perm_X7 {s t x r:Av} {A A2:List Av} (h:A.Perm (r::A2)):(s::t::x::A).Perm (t::r::s::x::A2):=
 (((h.cons x).cons t).cons s).trans (by classical exact Ie.2 fun e=>by simp only[List.count_cons];omega)
theorem marksOf_n {n:Nat} (hn:1000300≤n) {l:List Tk} {N:List Nd} {tp r:Pos} {ct cr:Cap} {z:Nat→Int} {b:Nat→Bool} {w:Nat} (hw:l.length=w) (hl:w≤20000) (hN:N.length≤200000) (hok:∀i,i<N.length→MkOK N i∧(nN N i).t≤w) {kp:KP} {h:H} {nx:Pos} {s x:Av} {A:List Av} (hr:(r,OB.row (N.flatMap Dy) 132)∈A) (S:Sat h nx (s::(tp,.row (l.flatMap Du) 54)::x::A)) {k:K}
 (hk:∀(M:List (Int×Int)) q h' nx',M.length=w→Sat h' nx' ((q,.row (M.flatMap Aak) 169)::s::(tp,.row (l.flatMap Du) 54)::x::A)→k (.sl q 0 w (.k w)) h' nx'=true):Ai gg n kp (.fn 62 []) [.sl tp 0 w ct,.sl r 0 N.length cr,.ag (Pn z b)] h nx k=true:=by
 subst hw
 obtain⟨A2,hA2⟩:∃B,A.Perm ((r,OB.row (N.flatMap Dy) 132)::B):=Sat.front (h:=h) (nx:=nx) hr
 refine marksOf_ok hn hl hN hok (S.perm (perm_X7 hA2)) fun M q h' nx' hM S=>hk M q h' nx' hM (S.perm (List.Perm.cons _ (perm_X7 hA2).symm))
def zTk:Tk:=⟨0,[]⟩
theorem sidesOf_ok {R:REnv} {A:List Av} (hR:ROK R A) {d:PcD} (hd:PcOK d) (hN:(d.r,.row (d.N.flatMap Dy) 132)∈A) (hdt:d.t≤R.B.length) {n:Nat} (hn:4000300≤n) {z:Int} (hG:(Ay 2,OB.raw (R5 z))∈A) {kp:KP} {h:H} {nx:Pos} (S:Sat h nx A) {k:K}
 (hk:∀(D:List (Tk×Int×Int)) sp h' nx',D.length=d.t-d.f→(∀x∈D,x.1.t.length≤20004)→Sat h' nx' ((sp,.row (D.flatMap My) 171)::A)→k (.sl sp 0 (d.t-d.f) (.k (d.t-d.f))) h' nx'=true):Ai gg n kp (.fn 28 []) [.p R.rp 0,.ag (Re d)] h nx k=true:=by
 have hr:=hR.r
 have hbl:=hR.bl
 have hbt:=hR.bt
 have hbn:=hR.bn
 have hlt:=hd.lt
 obtain⟨rp,bl,B,cp,C,zz,bb⟩:=R
 dsimp only at hr hbl hbt hbn hdt ⊢
 obtain⟨w,hw⟩:∃w,w=d.t-d.f:=⟨_,rfl⟩
 have hsub:(Int.ofNat d.t-Int.ofNat d.f:Int)=Int.ofNat w:=by simp only[Aj];omega
 rw[←hw]at hk
 rcases hbl with⟨e,_⟩|⟨p,off,cap,LL,rfl,hp,h1,h2⟩
 · subst e;exact absurd hdt (by show ¬d.t≤0;omega)
 have hno:∀i,i<d.N.length→MkOK d.N i∧(nN d.N i).t≤w:=fun i hi=>by
  obtain⟨a1,a2⟩:=mk_all hd.o i (by have:d.N.length=sz d.q+1:=(I5 _ _).trans rfl;omega)
  exact⟨a1,by rw[hw,←hd.w];exact a2⟩
 have hnl:d.N.length≤200000:=by
  have:d.N.length=sz d.q+1:=(I5 _ _).trans rfl
  have:=hd.s
  omega
 clear hR
 refine Ab hn (by omega) fun m hm=>?_
 repeat' ((conv=>lhs;whnf);first
  |exact(by omega:False).elim
  |refine Bq (y:=false) (show w*24≤1000000000 by omega) ?_
  |refine Bq (y:=false) (show w*40≤1000000000 by omega) ?_
  |refine Bq (y:=false) (show w≤1000000000 by omega) ?_
  |refine Ek Du B6 (by decide) zTk ‹_› rfl rfl (fun h' S=>?_)
  |(refine Bv (by(try simp only[Aj]at *);omega) ?_
    rw[hsub])
  |(refine Br (L:=[0,3,5,18,19]) rfl (fun m vs d' h' nx'=>∃(i:Nat) (L:List Tk),i≤w∧w-i=m∧L.length=w∧(∀t∈L,t.t.length≤20004)∧Sat h' nx' ((Ad nx,.row (L.flatMap Du) 54)::(nx,.row (Re d) 98)::A)∧d'=[]∧vs=[.p rp 0,.p nx 0,.sl (Ad nx) 0 w (.k w),.i .i64 (Int.ofNat w),.i .i64 (.ofNat i)]) w (by omega) ⟨0,List.replicate w zTk,by omega,rfl,Fj,fun t ht=>by rw[(List.mem_replicate.1 ht).2];exact B9 _,by assumption,rfl,rfl⟩ ?_
    rintro m _ d' h' sp ⟨i,L,hi,rfl,hL,hLt,S,rfl,rfl⟩ k' hn' hx)
  |refine A5 ‹_› (.tail _ (.tail _ hr)) (Aa rfl) ?_
  |(refine Gl C7 ‹_› (.tail _ (.tail _ hp)) h1 h2 (by decide) (d.f+i) (by omega) rfl ?_
    have hil:d.f+i<B.length:=by omega
    obtain⟨t,ht⟩:∃t,B[d.f+i]=t:=⟨_,rfl⟩
    have htx:=hbt t (ht▸D8 hil)
    have htx1:=htx.1
    rw[ht])
  |(refine U5 (z:=z) (kd:=t.k) (l:=t.x) (by omega) (by omega) htx.2 (.tail _ (.tail _ (.tail _ hG))) ‹_› (fun h' nx' S=>?_)
    rw[clsV_eq])
  |refine Ic B6 ‹_› 1 rfl i (by omega) (Ia t) (Bf _) rfl rfl (fun h' S=>?_)
  |exact hn' _ _ _ _ _ (by omega) ⟨i+1,L.set i (Ia t),by omega,rfl,by rw[E8];exact hL,fun x hx=>(List.mem_or_eq_of_mem_set hx).elim (hLt x) (fun e=>by rw[e];have:=clsT_len t;omega),Sat.tail ‹_›,rfl,rfl⟩
  |refine hx _ _ _ _ _ trivial ?_
  |refine Ek My Nw (by decide) (zTk,0,0) ‹_› rfl rfl (fun h' S=>?_)
  |refine Lh ‹_› (.tail _ (.tail _ (.tail _ hr))) (Aa rfl) rfl ?_
  |refine marksOf_n (b:=bb) (z:=zz) (by omega) hL (by omega) hnl hno hN ‹_› (fun M q h' nx' hM S=>?_)
  |(refine Br (L:=[5,8,54,55,56]) rfl (fun m vs d' h' nx'=>∃(j:Nat) (D:List (Tk×Int×Int)),j≤w∧w-j=m∧D.length=w∧(∀x∈D,x.1.t.length≤20004)∧Sat h' nx' ((q,.row (M.flatMap Aak) 169)::(sp,.row (D.flatMap My) 171)::(Ad nx,.row (L.flatMap Du) 54)::(nx,.row (Re d) 98)::A)∧d'=[]∧vs=[.sl (Ad nx) 0 w (.k w),.sl sp 0 w (.k w),.sl q 0 w (.k w),.i .i64 (Int.ofNat w),.i .i64 (.ofNat j)]) w (by omega) ⟨0,List.replicate w (zTk,0,0),by omega,rfl,Fj,fun t ht=>by rw[(List.mem_replicate.1 ht).2];exact B9 _,by assumption,rfl,rfl⟩ ?_
    rintro m _ d' h' nx' ⟨j,D,hj,rfl,hD,hDt,S,rfl,rfl⟩ k2' hn2' hx2)
  |(refine Rr Qg ‹_› (Aw ..) (by decide) j (B8 (show j<M.length by omega)) (Bf _) ?_
    have hjl:j<L.length:=by omega
    obtain⟨tk,htk⟩:∃t,L[j]=t:=⟨_,rfl⟩
    have htl:=hLt tk (htk▸D8 hjl)
    have hjo:L[j]?=some tk:=by rw[B8 hjl,htk]
    obtain⟨mk,hmk⟩:∃t,M[j]=t:=⟨_,rfl⟩
    rw[hmk])
  |refine Rr B6 ‹_› (.tail _ (.tail _ (.tail _ (Aw ..)))) (by decide) j hjo (Bf _) ?_
  |refine Ic Nw ‹_› 2 rfl j (by omega) (tk,mk) (Bf _) rfl rfl (fun h' S=>?_)
  |exact hn2' _ _ _ _ _ (by omega) ⟨j+1,D.set j (tk,mk),by omega,rfl,by rw[E8];exact hD,fun x hx=>(List.mem_or_eq_of_mem_set hx).elim (hDt x) (fun e=>by rw[e];exact htl),Sat.tail ‹_›,rfl,rfl⟩
  |refine hx2 _ _ _ _ _ trivial ?_
  |exact hk D sp _ _ hD hDt (Sat.sub ‹_› (.cons _ (.cons_cons _ (.cons _ (.cons _ (.refl _))))))
  |contradiction
  |refine Be fun h' S=>?_
  |refine C8 fun h' S=>?_
  |refine Bj ?_
  |refine C9 ?_
  |refine Bi ?_
  |refine seqt ?_
  |refine Bg ?_
  |refine Bc ?_
  |refine Aq ?_
  |refine Ar ?_
  |refine Bh ?_
  |(first|refine C4 ?_ ?_|refine Dt ?_ ?_|refine Cu ?_ ?_|refine new ?_ ?_)<;>intro hc hz<;>(try simp only[Aj]at hz)<;>try rewrite [hc])
end Go.CE
