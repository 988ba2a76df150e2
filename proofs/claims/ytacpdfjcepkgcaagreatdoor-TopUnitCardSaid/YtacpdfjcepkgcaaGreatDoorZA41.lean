/- Part 41 of the lemmas behind the claim. -/
import Derived.Test.YtacpdfjcepkgcaaGreatDoorZA01
import Derived.Test.YtacpdfjcepkgcaaGreatDoorZA40
import Derived.Test.YtacpdfjcepkgcaaGreatDoorZA06
set_option linter.unusedSimpArgs false
set_option linter.unusedVariables false
set_option linter.constructorNameAsVariable false
set_option linter.unusedSectionVars false
set_option linter.defProp false
set_option maxRecDepth 100000
set_option maxHeartbeats 40000000
namespace Go.CE
open Go Go.Ps Go.Proofs.YtacpdfjcepkgcaaGreatDoor
attribute [local irreducible] loopK Tt Ai K0 N2 Dg fits rd rd1 wr newC Kj Fk Fa Ve Oe Kq eqA
theorem Uf {N:List Nd} {i:Nat} (h:i<N.length):N[i]=nN N i:=by
 unfold nN;rw[A0,B8 h];rfl
structure NdM (N:List Nd) (p:Pos) (off:Nat) (LL:List AV):Prop where
 h1:(LL.drop off).take (N.length*4)=N.flatMap Dy
 h2:off+N.length*4≤LL.length
theorem NdM.rd1 {N:List Nd} {p:Pos} {off:Nat} {LL:List AV} (M:NdM N p off LL) {h:H} {nx:Pos} {A:List Av} (S:Sat h nx A) (hp:(p,OB.row LL 132)∈A) {i j o:Nat} {v:AV} {k:AV→Bool} (hi:i<N.length) (hj:j<4) (ho:o=off+i*4+j) (hv:(Dy (nN N i)).getD j .x=v) (hk:k v=true):Go.CE.rd1 h p o k=true:=by
 refine Fe Ed S hp M.h1 M.h2 i j hi hj ho ?_
 rw[Uf hi,hv];exact hk
def stepCh (C:List Nat) (a:List AV) (C':List Nat):Prop:=∃c,C=c::C'∧a=[.i .i64 (Int.ofNat c)]
theorem children_it {N:List Nd} {p:Pos} {off:Nat} {LL:List AV} {cap:Cap} (M:NdM N p off LL) (hN:N.length≤400000) {P:List Nat} {i:Nat} {C0:List Nat} (hi:i<N.length) (hC:ChOK N P i C0) (hs:(nN N i).s≤1000000) (b1 b2:Pos):ItG 1000010 (.fn 98 [.p b1 0,.p b2 0]) stepCh (fun C:List Nat=>C=[]) C0 [(b1,.row [.sl p off N.length cap] 31),(b2,.row [.i .i64 (Int.ofNat i)] 3),(p,.row LL 132)]:=by
 intro dd0 n hn hdd lp kp h nx k A J X hO S h0 hy hk
 refine Ab (d:=max 1000010 (dd0+1)) (by omega) (by omega) fun m hm=>?_
 have hb1:=hO _ A h0 _ (Aw ..)
 have hb2:=hO _ A h0 _ (Am _ (Aw ..))
 have hb3:=hO _ A h0 _ (Am _ (Am _ (Aw ..)))
 repeat' ((conv=>lhs;whnf);first
  |refine A5 ‹_› hb1 (Aa rfl) ?_
  |refine A5 ‹_› hb2 (Aa rfl) ?_
  |refine M.rd1 ‹_› hb3 (i:=i) (j:=3) hi (by decide) rfl rfl ?_
  |contradiction
  |refine Be fun h' S=>?_
  |refine C8 fun h' S=>?_
  |refine Bj ?_
  |refine C9 ?_
  |refine Bi ?_
  |refine seqt ?_
  |refine Bg ?_
  |refine Bc ?_
  |refine Aq ?_
  |refine Ar ?_
  |refine Bh ?_)
 conv=>lhs;whnf
 refine Br (L:=[0,1,4,5]) rfl (fun m vs d' h' nx'=>∃(C:List Nat) (k1 left e:Nat) (z4 z5:Int) (A:List Av),z4=left∧z5+1=k1∧left≤1000000∧k1≤400000∧left=m∧CH N P k1 left e C∧J C A∧Sat h' nx' A∧d'=[]∧vs=[.yl lp,.p b1 0,.i .i64 z4,.i .i64 z5]) ((nN N i).s-1) (by have:=hC.1;omega) ⟨C0,i,(nN N i).s-1,_,_,_,A,?_,?_,by omega,by omega,rfl,hC.2,h0,S,rfl,rfl⟩ ?_
 · have:=hC.1;simp only[Aj];omega
 · simp only[Aj];omega
 rintro m _ d' h' nx' ⟨C,k1,left,e,z4,z5,A,hz4,hz5,hl1,hl2,rfl,hCH,hJ,S,rfl,rfl⟩ k' hn' hx
 have hb1:=hO _ A hJ _ (Aw ..)
 have hb3:=hO _ A hJ _ (Am _ (Am _ (Aw ..)))
 cases C with
 |nil=>
  have hl0:left=0:=hCH
  subst hl0
  repeat' ((conv=>lhs;whnf);first
   |exact absurd hz (by omega)
   |(refine hx _ _ _ _ _ trivial ?_;conv=>lhs;whnf
     exact hk A _ _ (.inl ⟨[],rfl,hJ⟩) ‹_›)
   |(first|refine C4 ?_ ?_|refine Dt ?_ ?_|refine Cu ?_ ?_|refine new ?_ ?_)<;>intro hc hz<;>(try simp only[Aj]at hz)<;>try rewrite [hc])
 |cons c C=>
  obtain⟨g1,g2,g3,g4,g5,g6,g7,g8⟩:=hCH
  subst g1
  obtain rfl:z5=Int.ofNat c:=by simp only[Aj];omega
  obtain rfl:z4=Int.ofNat left:=hz4
  repeat' ((conv=>lhs;whnf);first
   |exact absurd hz (by(try simp only[Aj]at *);omega)
   |refine A5 ‹_› hb1 (Aa rfl) ?_
   |refine M.rd1 ‹_› hb3 (i:=c) (j:=3) g2 (by decide) rfl rfl ?_
   |(refine hy _ _ C A [] _ _ _ _ ⟨c,rfl,rfl⟩ (by omega) hJ (by rw[Bp];assumption) (fun A' h2 nx2 q1 S2=>?_) (fun A' h2 nx2 q2 S2=>?_)<;>rw[Bp]at S2)
   |(refine hn' _ _ _ _ (left-(nN N c).s) (by omega) ⟨C,_,_,_,_,_,A',?_,?_,?_,?_,rfl,g8,q1,by assumption,rfl,rfl⟩<;>(try simp only[Aj])<;>omega)
   |(refine hx _ _ _ _ _ trivial ?_;conv=>lhs;whnf
     exact hk A' _ _ (.inr q2) ‹_›)
   |contradiction
   |refine Be fun h' S=>?_
   |refine C8 fun h' S=>?_
   |refine Bj ?_
   |refine C9 ?_
   |refine Bi ?_
   |refine seqt ?_
   |refine Bg ?_
   |refine Bc ?_
   |refine Aq ?_
   |refine Ar ?_
   |refine Bh ?_
   |(first|refine C4 ?_ ?_|refine Dt ?_ ?_|refine Cu ?_ ?_|refine new ?_ ?_)<;>intro hc hz<;>(try simp only[Aj]at hz)<;>try rewrite [hc])
theorem children_ok {n:Nat} (hn:2≤n) {p:Pos} {o l:Nat} {c:Cap} {i:Int} {kp:KP} {h:H} {nx:Pos} {A:List Av} (S:Sat h nx A) {k:K} (hk:∀h',Sat h' (Ad (Ad nx)) ((Ad nx,.row [.i .i64 i] 3)::(nx,.row [.sl p o l c] 31)::A)→k (.fn 98 [.p nx 0,.p (Ad nx) 0]) h' (Ad (Ad nx))=true):Ai gg n kp (.fn 47 []) [.sl p o l c,.i .i64 i] h nx k=true:=by
 refine Ab hn (by omega) fun m hm=>?_
 repeat' ((conv=>lhs;whnf);first
  |exact hk _ ‹_›
  |contradiction
  |refine Be fun h' S=>?_
  |refine C8 fun h' S=>?_
  |refine Bj ?_
  |refine C9 ?_
  |refine Bi ?_
  |refine seqt ?_
  |refine Bg ?_
  |refine Bc ?_
  |refine Aq ?_
  |refine Ar ?_
  |refine Bh ?_)
theorem NdM.rd4 {N:List Nd} {p:Pos} {off:Nat} {LL:List AV} (M:NdM N p off LL) {h:H} {nx:Pos} {A:List Av} (S:Sat h nx A) (hp:(p,OB.row LL 132)∈A) {i o:Nat} {k:List AV→Bool} (hi:i<N.length) (ho:o=off+i*4) (hk:k (Dy (nN N i))=true):rd h p o 4 k=true:=by
 refine Gl Ed S hp M.h1 M.h2 (by decide) i hi ho ?_
 rw[Uf hi];exact hk
def Rf (x:Nat):List AV:=[iA x]
theorem H7 (x:Nat):(Rf x).length=1:=rfl
theorem Ln {PL:List Nat} {h:H} {nx:Pos} {A:List Av} (S:Sat h nx A) {q:Pos} {ty:Nat} (hq:(q,OB.row (PL.flatMap Rf) ty)∈A) {i o v:Nat} {k:AV→Bool} (hi:i<PL.length) (ho:o=i) (hv:PL.getD i 0=v) (hk:k (iA v)=true):rd1 h q o k=true:=by
 refine Fe H7 S hq (off:=0) (by rw[List.drop_zero];exact Et (by rw[Az H7];exact Ag _)) (by rw[Az H7];omega) i 0 hi (by decide) (by omega) ?_
 rw[A0,B8 hi]at hv
 have hv:PL[i]=v:=hv
 rw[hv];exact hk
def PlI (N:List Nd) (P:List Nat) (i1:Nat) (Cd:List Nat) (PL:List Nat):Prop:=PL.length=N.length∧∀j,j<N.length→(j+1=N.length∨(∃i' C,i1≤i'∧i'<N.length∧ChOK N P i' C∧j∈C)∨j∈Cd)→PL.getD j 0=P.getD j 0
theorem getD_setN {l:List Nat} {i j x:Nat}:(l.set i x).getD j 0=if i=j∧i<l.length then x else l.getD j 0:=by
 rw[A0,List.getElem?_set]
 by_cases h:i=j
 · subst h
   by_cases h2:i<l.length
   · rw[if_pos rfl,if_pos h2,if_pos ⟨rfl,h2⟩];rfl
   · rw[if_pos rfl,if_neg h2,if_neg (fun c=>h2 c.2),A0,Jl (by omega)]
 · rw[if_neg h,if_neg (fun c=>h c.1),A0]
theorem nN_set {R:List Nd} {i j:Nat} {x:Nd}:nN (R.set i x) j=if i=j∧i<R.length then x else nN R j:=by
 unfold nN
 rw[A0,List.getElem?_set]
 by_cases h:i=j
 · subst h
   by_cases h2:i<R.length
   · rw[if_pos rfl,if_pos h2,if_pos ⟨rfl,h2⟩];rfl
   · rw[if_pos rfl,if_neg h2,if_neg (fun c=>h2 c.2),A0,Jl (by omega)]
 · rw[if_neg h,if_neg (fun c=>h c.1),A0]
theorem PlI.set {N:List Nd} {P:List Nat} {i1 c x:Nat} {Cd PL:List Nat} (h:PlI N P i1 Cd PL) (hx:P.getD c 0=x):PlI N P i1 (Cd++[c]) (PL.set c x):=by
 refine⟨by rw[E8];exact h.1,fun j hj hc=>?_⟩
 rw[getD_setN]
 split
 · rename_i e;rw[←e.1,hx]
 · rename_i e
   refine h.2 j hj ?_
   rcases hc with hc|hc|hc
   · exact .inl hc
   · exact .inr (.inl hc)
   · rcases D9.1 hc with hc|hc
     · exact .inr (.inr hc)
     · exact absurd ⟨(Co.1 hc).symm,by rw[h.1,←Co.1 hc];exact hj⟩ e
theorem PlI.next {N:List Nd} {P:List Nat} {i:Nat} {C PL:List Nat} (h:PlI N P (i+1) C PL) (hC:ChOK N P i C):PlI N P i [] PL:=by
 refine⟨h.1,fun j hj hc=>h.2 j hj ?_⟩
 rcases hc with hc|⟨i',C',h1,h2,h3,h4⟩|hc
 · exact .inl hc
 · rcases Nat.lt_or_ge i i' with q|q
   · exact .inr (.inl ⟨i',C',q,h2,h3,h4⟩)
   · obtain rfl:i=i':=by omega
     exact .inr (.inr (by rw[ch_uniq _ _ _ _ _ hC.2 h3.2];exact h4))
 · cases hc
theorem closeM_w {nx:Pos} {A:List Av} {k:H→Bool}:∀ {ms:List Pos} {h:H},Sat h nx (ms.map (fun q=>(q,OB.raw .marks))++A)→(∀h',Sat h' nx A→k h'=true)→R4 ms h k=true
 |[],h,S,hk=>hk h S
 |q::ms,h,S,hk=>by
  show(Fk h q fun o=>match o with
   |.marks=>Fa h q .dead fun h=>R4 ms h k
   |_=>false)=true
  refine A1 S 0 rfl ?_
  exact Bm S 0 rfl fun h' S=>closeM_w S hk
theorem pick_w {m:Nat} {kp:KP} {d:List Pos} {fv:AV} {l:List AV} {h:H} {nx:Pos} {k:K} (H:∀kp':KP,Ai gg m kp' fv l h nx k=true):pickK (Ai gg m kp) (Ai gg m fun _ _=>false) d fv l h nx k=true:=by
 cases d with
 |nil=>exact H kp
 |cons x r=>exact H _
attribute [local irreducible] R4 pickK
theorem ahead_eq {n:Nat} (hn:1000040≤n) {N T:List Nd} {P:List Nat} {p:Pos} {off:Nat} {cap:Cap} {LL:List AV} (M:NdM N p off LL) (hO:AhOK N T P) (hN:N.length≤400000) (hpos:0<N.length) (hs:∀i,i<N.length→(nN N i).s≤1000000) {kp:KP} {h:H} {nx:Pos} {A:List Av} (hp:(p,OB.row LL 132)∈A) (S:Sat h nx A) {k:K}
 (hk:∀r h' nx',Sat h' nx' ((r,.row (T.flatMap Dy) 132)::A)→k (.sl r 0 N.length (.k N.length)) h' nx'=true):Ai gg n kp (.fn 19 []) [.sl p off N.length cap] h nx k=true:=by
 refine Ab hn (by omega) fun m hm=>?_
 repeat' ((conv=>lhs;whnf);first
  |refine Ek Dy Ed (by omega) ⟨0,0,0,0⟩ ‹_› rfl rfl (fun h' S=>?_)
  |refine Ek Rf H7 (by omega) 0 ‹_› rfl rfl (fun h' S=>?_)
  |refine Bq (y:=false) (show N.length*32≤1000000000 by omega) ?_
  |refine Bq (y:=false) (show N.length*8≤1000000000 by omega) ?_
  |contradiction
  |refine Be fun h' S=>?_
  |refine C8 fun h' S=>?_
  |refine Bj ?_
  |refine C9 ?_
  |refine Bi ?_
  |refine seqt ?_
  |refine Bg ?_
  |refine Bc ?_
  |refine Aq ?_
  |refine Ar ?_
  |refine Bh ?_)
 conv=>lhs;whnf
 refine Br (L:=[1,3,4,5]) rfl (fun m vs d' h' nx'=>∃(i1:Nat) (z:Int) (R:List Nd) (PL:List Nat),z+1=i1∧i1=m∧i1≤N.length∧R.length=N.length∧(∀j,i1≤j→j<N.length→nN R (P.getD j 0)=nN N j)∧PlI N P i1 [] PL ∧
  (∃ms,d'=ms∧Sat h' nx' ((Ad (Ad (Ad nx)),.row [.sl (Ad (Ad nx)) 0 N.length (.k N.length)] 61)::(Ad (Ad nx),.row (PL.flatMap Rf) 3)::(Ad nx,.row (R.flatMap Dy) 132)::(nx,.row [.sl p off N.length cap] 31)::(ms.map (fun q=>(q,OB.raw .marks))++A))) ∧
  vs=[.p nx 0,.sl (Ad nx) 0 N.length (.k N.length),.p (Ad (Ad (Ad nx))) 0,.i .i64 z]) N.length (by omega) ⟨N.length,(N.length:Int)-1,List.replicate N.length ⟨0,0,0,0⟩,List.replicate N.length 0,by omega,rfl,Ag _,Fj,(fun j h1 h2=>by omega),?_,⟨[],rfl,by assumption⟩,rfl⟩ ?_
 · refine⟨Fj,fun j hj hc=>?_⟩
   rw[rep_0]
   rcases hc with hc|⟨i',C,h1,h2,_⟩|hc
   · rw[hO.r j hc]
   · omega
   · cases hc
 rintro m _ d' h' nx' ⟨i1,z,R,PL,hz1,rfl,hi1,hR1,hR2,hPL,⟨ms,rfl,S⟩,rfl⟩ k' hn' hx
 cases i1 with
 |zero=>
  have hRT:R=T:=by
   have hl:R.length=T.length:=by rw[hR1,hO.n]
   refine List.ext_getElem hl fun y h1 h2=>?_
   obtain⟨i,q1,q2⟩:=hO.s y (by omega)
   rw[Uf h1,Uf h2,←q2,hR2 i (B9 _) q1,(hO.t i q1).2]
  subst hRT
  repeat' ((conv=>lhs;whnf);first
   |exact absurd hz (by omega)
   |(refine hx _ _ _ _ _ trivial ?_)
   |(first|refine C4 ?_ ?_|refine Dt ?_ ?_|refine Cu ?_ ?_|refine new ?_ ?_)<;>intro hc hz<;>(try simp only[Aj]at hz)<;>try rewrite [hc])
  conv=>lhs;whnf
  have S9:Sat _ _ (_::_::_::_::(_++A)):=‹_›
  have S9:=(S9.sub (.cons _ (.cons _ (.cons_cons _ (.cons _ (E7 _)))))).perm (Fh (l₂:=A)).symm
  refine closeM_w S9 (fun h' S=>?_)
  conv=>lhs;whnf
  exact hk _ _ _ ‹_›
 |succ i=>
  obtain rfl:z=Int.ofNat i:=by simp only[Aj];omega
  obtain⟨C,hC⟩:=hO.c i (by omega)
  have hPi:PL.getD i 0=P.getD i 0:=by
   refine hPL.2 i (by omega) ?_
   rcases hO.b i (by omega)with h|⟨i',C',h1,h2,h3,h4⟩
   · exact .inl h
   · exact .inr (.inl ⟨i',C',h1,h2,h3,h4⟩)
  obtain⟨hPl,hPt⟩:=hO.t i (by omega)
  have hsi:=hs i (by omega)
  repeat' ((conv=>lhs;whnf);first
   |exact absurd hz (by(try simp only[Aj]at *);omega)
   |refine Ln (PL:=PL) (i:=i) ‹_› (ty:=3) (Gm (i:=1) rfl) (by have:=hPL.1;omega) ((Bf _).trans (Nat.mul_one _)) hPi ?_
   |refine Ln (PL:=PL) (i:=i) ‹_› (ty:=3) (Gm (i:=2) rfl) (by have:=hPL.1;omega) ((Bf _).trans (Nat.mul_one _)) hPi ?_
   |refine M.rd4 (i:=i) ‹_› (by simp[hp]) (by omega) rfl ?_
   |refine M.rd1 (i:=i) (j:=3) ‹_› (by simp[hp]) (by omega) (by decide) rfl rfl ?_
   |refine Ic Ed ‹_› 2 rfl (P.getD i 0) (by omega) (nN N i) (Bf _) rfl rfl (fun h' S=>?_)
   |refine pick_w (fun kp'=>?_)
   |refine children_ok (by omega) ‹_› (fun h' S=>?_)
   |contradiction
   |refine Be fun h' S=>?_
   |refine C8 fun h' S=>?_
   |refine Bj ?_
   |refine C9 ?_
   |refine Bi ?_
   |refine seqt ?_
   |refine Bg ?_
   |refine Bc ?_
   |refine Aq ?_
   |refine Ar ?_
   |refine Bh ?_
   |(first|refine C4 ?_ ?_|refine Dt ?_ ?_|refine Cu ?_ ?_|refine new ?_ ?_)<;>intro hc hz<;>(try simp only[Aj]at hz)<;>try rewrite [hc])
  conv=>lhs;whnf
  have hR':∀j,i≤j→j<N.length→nN (R.set (P.getD i 0) (nN N i)) (P.getD j 0)=nN N j:=fun j h1 h2=>by
   rw[nN_set]
   split
   · rename_i e
     rw[←hPt,e.1,(hO.t j h2).2]
   · rename_i e
     refine hR2 j ?_ h2
     rcases Nat.lt_or_ge i j with q|q
     · exact q
     · obtain rfl:i=j:=by omega
       exact absurd ⟨rfl,by omega⟩ e
  refine Ea 1000 (children_it (cap:=cap) M hN (by omega) hC hsi _ _) (fun _=>rfl) (fun _=>rfl) ‹_› (by omega) (by omega)
   (fun C' A'=>∃(Cd PL':List Nat) (k1 left e:Nat),C=Cd++C'∧CH N P k1 left e C'∧e≤2000000∧PlI N P (i+1) Cd PL' ∧
     A'=(Ad (Ad nx'),.row [.i .i64 (Int.ofNat i)] 3)::(Ad nx',.row [.sl p off N.length cap] 31)::(nx',.row [.i .i64 (Int.ofNat e)] 3)::(Ad (Ad (Ad nx)),.row [.sl (Ad (Ad nx)) 0 N.length (.k N.length)] 61)::(Ad (Ad nx),.row (PL'.flatMap Rf) 3)::(Ad nx,.row ((R.set (P.getD i 0) (nN N i)).flatMap Dy) 132)::(nx,.row [.sl p off N.length cap] 31)::(d'.map (fun q=>(q,OB.raw .marks))++A))
   (fun e A'=>False) (fun A'=>⟨fun c=>c,fun _ c=>c⟩) (by rintro C' A' ⟨Cd,PL',k1,left,e,_,_,_,_,rfl⟩;simp[hp]) ⟨[],PL,_,_,P.getD i 0+(nN N i).s,rfl,hC.2,by omega,hPL,rfl⟩ ?_ ?_ (fun e A' h nx' c=>c.elim)
  · rintro C1 _ C2 A' F1 F2 m2 lp mid K2 h nx2 ⟨c,rfl,rfl⟩ hm2 ⟨Cd,PL',k1,left,e,hCd,hCH,he,hPL',rfl⟩ S hmid hn1 hx1
    obtain⟨g1,g2,g3,g4,g5,g6,g7,g8⟩:=hCH
    repeat' ((conv=>lhs;whnf);first
     |refine hmid (_::_::_::_::_::_::_::(d'.map (fun q=>(q,OB.raw .marks))++A)) _ _ _ ‹_› (fun h' S=>?_)
     |refine M.rd1 (i:=c) (j:=3) ‹_› (by simp[hp]) g2 (by decide) rfl rfl ?_
     |refine Ic H7 ‹_› 4 rfl c (by have:=hPL'.1;omega) (P.getD c 0) (Bf _) (by show[AV.i .i64 _]=[AV.i .i64 _];rw[show(Int.ofNat e-Int.ofNat (nN N c).s)=Int.ofNat (P.getD c 0)from(by(try simp only[Aj]at *);omega)]) rfl (fun h' S=>?_)
     |contradiction
     |refine Be fun h' S=>?_
     |refine C8 fun h' S=>?_
     |refine Bj ?_
     |refine C9 ?_
     |refine Bi ?_
     |refine seqt ?_
     |refine Bg ?_
     |refine Bc ?_
     |refine Aq ?_
     |refine Ar ?_
     |refine Bh ?_
     |(first|refine C4 ?_ ?_|refine Dt ?_ ?_|refine Cu ?_ ?_|refine new ?_ ?_)<;>intro hc hz<;>(try simp only[Aj]at hz)<;>try rewrite [hc])
    conv=>lhs;whnf
    have S9:Sat _ _ _:=‹_›
    rw[show Int.ofNat e-Int.ofNat (nN N c).s=Int.ofNat (e-(nN N c).s)from(by(try simp only[Aj]at *);omega)]at S9
    exact hn1 _ _ _ ⟨Cd++[c],PL'.set c (P.getD c 0),_,_,e-(nN N c).s,by rw[hCd,A4];rfl,g8,by omega,hPL'.set rfl,rfl⟩ S9
  · rintro _ A' h nx2 rfl ⟨Cd,PL',k1,left,e,hCd,hCH,he,hPL',rfl⟩ S
    rw[Bp]at hCd
    subst hCd
    repeat' ((conv=>lhs;whnf);first
     |contradiction
     |refine Be fun h' S=>?_
     |refine C8 fun h' S=>?_
     |refine Bj ?_
     |refine C9 ?_
     |refine Bi ?_
     |refine seqt ?_
     |refine Bg ?_
     |refine Bc ?_
     |refine Aq ?_
     |refine Ar ?_
     |refine Bh ?_)
    conv=>lhs;whnf
    have S9:=(S.sub (.cons_cons _ (.cons _ (.cons _ (.cons _ (E7 _)))))).perm (Fh (l₁:=[_,_,_,_])).symm
    refine hn' _ _ _ _ i (by omega) ⟨i,(i:Int)-1,_,PL',by omega,rfl,by omega,by rw[E8];exact hR1,hR',hPL'.next hC,⟨_::d',rfl,S9⟩,rfl⟩
end Go.CE
namespace Go.CE
open Go Go.Ps Go.Proofs.YtacpdfjcepkgcaaGreatDoor
attribute [local irreducible] loopK Tt Ai K0 N2 Dg fits rd rd1 wr newC Kj Fk Fa Ve Oe Kq eqA
def Wi (b:Bool):List AV:=[.b b]
theorem Je (b:Bool):(Wi b).length=1:=rfl
def Js (x:Nat×Nat):List AV:=[iA x.1,iA x.2]
theorem Ha (x:Nat×Nat):(Js x).length=2:=rfl
structure TEnv where
 l:List Tk
 N:List Nd
 tp:Pos
 pv:Pos
 pk:Pos
 p:Pos
 off:Nat
 cap:Cap
 LL:List AV
 r:Pos
 cr:Cap
def TEnv.tok (E:TEnv):AV:=.sl E.p E.off E.l.length E.cap
def TEnv.nds (E:TEnv):AV:=.sl E.r 0 E.N.length E.cr
def TEnv.row (E:TEnv) (lnv:AV):Av:=(E.tp,.row [E.tok,E.nds,.sl E.pv 0 E.N.length (.k E.N.length),.sl E.pk 0 E.N.length (.k E.N.length),lnv] 219)
def O6 (E:TEnv) (A:List Av):Prop:=(E.p,.row E.LL 54)∈A∧(E.r,.row (E.N.flatMap Dy) 132)∈A
structure TOK (E:TEnv):Prop where
 h1:(E.LL.drop E.off).take (E.l.length*2)=E.l.flatMap Du
 h2:E.off+E.l.length*2≤E.LL.length
 nl:E.N.length≤400000
 ll:E.l.length≤20000
 ok:∀i,i<E.N.length→MkOK E.N i∧(nN E.N i).t≤E.l.length
def TI (E:TEnv) (h:H) (nx:Pos) (s:S3) (A:List Av):Prop:=s.kn.length=E.N.length∧s.lv.length=E.N.length∧(∀x∈s.lv,x≤500000)∧∃lnv XL,ExA 2 225 Js lnv s.ls XL ∧
 Sat h nx (E.row lnv::(E.pv,.row (s.lv.flatMap Rf) 3)::(E.pk,.row (s.kn.flatMap Wi) 4)::(XL++A))
theorem Td (s:S3) (A B:List Ps.Act):(ap s A).ls.length≤(ap s (A++B)).ls.length:=by
 rw[Oc,Oc,List.filterMap_append,Bb,Bb,Bb];omega
theorem No {E:TEnv} {n:Nat} (hn:2≤n) {s:S3} {pz vz:Int} {p v:Nat} (hpz:pz=Int.ofNat p) (hvz:vz=Int.ofNat v) {A:List Av} {kp:KP} {h:H} {nx:Pos} (T:TI E h nx s A) (hb:(ap1 s (.ln p v)).ls.length≤1000000) {k:K}
 (hk:∀h' nx',TI E h' nx' (ap1 s (.ln p v)) A→k (.tu []) h' nx'=true):Ai gg n kp (.fn 111 []) [.p E.tp 0,.i .i64 pz,.i .i64 vz] h nx k=true:=by
 subst hpz;subst hvz
 obtain⟨t1,t2,t3,lnv,XL,G,S⟩:=T
 have hsim:=G.sim
 have hl:s.ls.length+1≤1000000:=by have:(s.ls++[(p,v)]).length≤1000000:=hb;rw[Bb]at this;exact this
 unfold TEnv.row at S
 refine Ab hn (by omega) fun m hm=>?_
 repeat' ((conv=>lhs;whnf);first
  |refine zk1 ?_
  |refine A6 ‹_› (.row _ 225) (hol_2 _ _ 225) (fun h' S=>?_)
  |refine Jd (te:=Qm) Ha [_,_,_,_] (p,v) ‹_› G rfl rfl (by omega) (fun h' q S=>?_)
  |contradiction
  |refine Be fun h' S=>?_
  |refine C8 fun h' S=>?_
  |refine Bj ?_
  |refine C9 ?_
  |refine Bi ?_
  |refine seqt ?_
  |refine Bg ?_
  |refine Bc ?_
  |refine Aq ?_
  |refine Ar ?_
  |refine Bh ?_
  |(first|refine C4 ?_ ?_|refine Dt ?_ ?_|refine Cu ?_ ?_|refine new ?_ ?_)<;>intro hc hz<;>(try simp only[Aj]at hz)<;>try rewrite [hc])
 conv=>lhs;whnf
 have G2:=ExA.row (es:=2) (ty:=225) (f:=Js) q (s.ls++[(p,v)])
 rw[Bb]at G2
 exact hk _ _ ⟨t1,t2,t3,_,[_],G2,Sat.right (C:=[_]) ‹_›⟩
def stepK (C:List Nat) (a:List AV) (C':List Nat):Prop:=∃c,C=c::C'∧a=[.i .i64 (Int.ofNat c)]
def OwnK (E:TEnv) (b3 b2:Pos) (i:Nat) (A:List Av):Prop:=∃lnv,E.row lnv∈A∧∀e∈[(b3,OB.row [.i .i64 (Int.ofNat i)] 3),(b2,.row [.p E.tp 0] 215),(E.r,.row (E.N.flatMap Dy) 132)],e∈A
theorem Kr (N:List Nd) (r:Pos):NdM N r 0 (N.flatMap Dy):=⟨by rw[List.drop_zero];exact Et (by rw[Az Ed];exact Ag _),by rw[Az Ed];omega⟩
theorem S6 {E:TEnv} (hE:TOK E) {i:Nat} (hi:i<E.N.length) (b3 b2:Pos):ItP 1000010 (.fn 198 [.p b3 0,.p b2 0]) stepK (fun C:List Nat=>C=[]) (kids E.N i) (OwnK E b3 b2 i):=by
 intro dd0 n hn hdd lp kp h nx k A J X hO S h0 hy hk
 refine Ab (d:=max 1000010 (dd0+1)) (by omega) (by omega) fun m hm=>?_
 have hnl:=hE.nl
 have hmi:=(hE.ok i hi).1
 have M:=Kr E.N E.r
 obtain⟨lnv,hrow,hm3⟩:=hO _ A h0
 have hb1:=hm3 _ (Aw ..)
 have hb2:=hm3 _ (Am _ (Aw ..))
 have hb3:=hm3 _ (Am _ (Am _ (Aw ..)))
 unfold TEnv.row at hrow
 have hsi:=hmi.s
 repeat' ((conv=>lhs;whnf);first
  |refine A5 ‹_› hb1 (Aa rfl) ?_
  |refine A5 ‹_› hb2 (Aa rfl) ?_
  |refine A5 ‹_› hrow (Aa rfl) ?_
  |refine M.rd1 ‹_› hb3 (i:=i) (j:=3) hi (by decide) rfl rfl ?_
  |contradiction
  |refine Be fun h' S=>?_
  |refine C8 fun h' S=>?_
  |refine Bj ?_
  |refine C9 ?_
  |refine Bi ?_
  |refine seqt ?_
  |refine Bg ?_
  |refine Bc ?_
  |refine Aq ?_
  |refine Ar ?_
  |refine Bh ?_)
 conv=>lhs;whnf
 refine Br (L:=[0,2,4,5]) rfl (fun m vs d' h' nx'=>∃(k u:Nat) (A:List Av),k≤E.N.length∧(i+(nN E.N i).s)-k=m∧(i+(nN E.N i).s)-k≤u∧J (H5 E.N u (i+(nN E.N i).s) k) A∧Sat h' nx' A∧d'=[]∧vs=[.yl lp,.p b2 0,.i .i64 (Int.ofNat i+Int.ofNat (nN E.N i).s),.i .i64 (.ofNat k)]) ((i+(nN E.N i).s)-(i+1)) (by omega) ⟨i+1,E.N.length,A,by omega,rfl,by omega,h0,S,rfl,rfl⟩ ?_
 rintro m _ d' h' nx' ⟨k1,u,A,hk1,rfl,hu,hJ,S,rfl,rfl⟩ k' hn' hx
 have hkk:k1<i+(nN E.N i).s→k1<E.N.length:=fun c=>by omega
 by_cases hlt:k1<i+(nN E.N i).s
 · have hmk:=(hE.ok k1 (hkk hlt)).1.s
   obtain⟨u,rfl⟩:∃v,u=v+1:=⟨u-1,by omega⟩
   have hJ2:H5 E.N (u+1) (i+(nN E.N i).s) k1=k1::H5 E.N u (i+(nN E.N i).s) (k1+(nN E.N k1).s):=if_pos hlt
   rw[hJ2]at hJ
   repeat' ((conv=>lhs;whnf);first
    |exact absurd hz (by(try simp only[Aj]at *);omega)
    |(refine hy _ _ (H5 E.N u (i+(nN E.N i).s) (k1+(nN E.N k1).s)) A [] _ _ _ _ ⟨k1,rfl,rfl⟩ (by omega) hJ (by rw[Bp];assumption) (fun A' h2 nx2 q1 S2=>?_) (fun A' h2 nx2 q2 S2=>?_)<;>rw[Bp]at S2
      try obtain⟨lnv2,hrow2,hm4⟩:=hO _ A' q1
      try unfold TEnv.row at hrow2)
    |(refine hx _ _ _ _ _ trivial ?_;conv=>lhs;whnf
      exact hk A' _ _ (.inr q2) ‹_›)
    |refine A5 ‹_› (hm4 _ (Am _ (Aw ..))) (Aa rfl) ?_
    |refine A5 ‹_› hrow2 (Aa rfl) ?_
    |refine M.rd1 ‹_› (hm4 _ (Am _ (Am _ (Aw ..)))) (i:=k1) (j:=3) (hkk hlt) (by decide) rfl rfl ?_
    |exact hn' _ _ _ _ _ (by omega) ⟨k1+(nN E.N k1).s,u,A',by omega,rfl,by omega,q1,by assumption,rfl,rfl⟩
    |contradiction
    |refine Be fun h' S=>?_
    |refine C8 fun h' S=>?_
    |refine Bj ?_
    |refine C9 ?_
    |refine Bi ?_
    |refine seqt ?_
    |refine Bg ?_
    |refine Bc ?_
    |refine Aq ?_
    |refine Ar ?_
    |refine Bh ?_
    |(first|refine C4 ?_ ?_|refine Dt ?_ ?_|refine Cu ?_ ?_|refine new ?_ ?_)<;>intro hc hz<;>(try simp only[Aj]at hz)<;>try rewrite [hc])
   skip
 · have hJ2:H5 E.N u (i+(nN E.N i).s) k1=[]:=by
    cases u with
    |zero=>rfl
    |succ u=>exact if_neg hlt
   rw[hJ2]at hJ
   repeat' ((conv=>lhs;whnf);first
    |exact absurd hz (by(try simp only[Aj]at *);omega)
    |(refine hx _ _ _ _ _ trivial ?_;conv=>lhs;whnf
      exact hk A _ _ (.inl ⟨[],rfl,hJ⟩) ‹_›)
    |(first|refine C4 ?_ ?_|refine Dt ?_ ?_|refine Cu ?_ ?_|refine new ?_ ?_)<;>intro hc hz<;>(try simp only[Aj]at hz)<;>try rewrite [hc])
theorem S5 {n:Nat} (hn:2≤n) {tp:Pos} {i:Int} {kp:KP} {h:H} {nx:Pos} {A:List Av} (S:Sat h nx A) {k:K} (hk:∀h',Sat h' (Ad (Ad nx)) ((Ad nx,.row [.i .i64 i] 3)::(nx,.row [.p tp 0] 215)::A)→k (.fn 198 [.p (Ad nx) 0,.p nx 0]) h' (Ad (Ad nx))=true):Ai gg n kp (.fn 160 []) [.p tp 0,.i .i64 i] h nx k=true:=by
 refine Ab hn (by omega) fun m hm=>?_
 repeat' ((conv=>lhs;whnf);first
  |exact hk _ ‹_›
  |contradiction
  |refine Be fun h' S=>?_
  |refine C8 fun h' S=>?_
  |refine Bj ?_
  |refine C9 ?_
  |refine Bi ?_
  |refine seqt ?_
  |refine Bg ?_
  |refine Bc ?_
  |refine Aq ?_
  |refine Ar ?_
  |refine Bh ?_)
theorem set_le {l:List Nat} {j v b:Nat} (h:∀x∈l,x≤b) (hv:v≤b):∀x∈l.set j v,x≤b:=fun x hx=>by
 rcases List.mem_or_eq_of_mem_set hx with hx|rfl
 · exact h x hx
 · exact hv
theorem O6.m2 {E:TEnv} {A:List Av} (h:O6 E A) {a b c:Av} {XL:List Av}:(E.r,OB.row (E.N.flatMap Dy) 132)∈a::b::c::(XL++A):=Am _ (Am _ (Am _ (A3 _ h.2)))
theorem TI.kn {E:TEnv} {s:S3} {j v:Nat} (hv:v≤400000) {A:List Av} {lnv:AV} {XL:List Av} (t1:s.kn.length=E.N.length) (t2:s.lv.length=E.N.length) (t3:∀x∈s.lv,x≤500000) (G:ExA 2 225 Js lnv s.ls XL) {h:H} {nx:Pos}
 (S:Sat h nx (E.row lnv::(E.pv,.row ((s.lv.set j v).flatMap Rf) 3)::(E.pk,.row ((s.kn.set j true).flatMap Wi) 4)::(XL++A))):TI E h nx (ap1 s (.kn j v)) A:=
 ⟨by show(s.kn.set j true).length=_;rw[E8,t1],by show(s.lv.set j v).length=_;rw[E8,t2],set_le t3 (by omega),lnv,XL,G,S⟩
theorem Yx {E:TEnv} (hE:TOK E) {n:Nat} (hn:4≤n) {s:S3} {jz vz:Int} {j v:Nat} (hjz:jz=Int.ofNat j) (hvz:vz=Int.ofNat v) (hj:j<E.N.length) (hv:v≤400000) {A:List Av} (hF:O6 E A) {kp:KP} {h:H} {nx:Pos} (T:TI E h nx s A) (hb:(ap s (K3 E.N j v)).ls.length≤1000000) {k:K}
 (hk:∀h' nx',TI E h' nx' (ap s (K3 E.N j v)) A→k (.tu []) h' nx'=true):Ai gg n kp (.fn 161 []) [.p E.tp 0,.i .i64 jz,.i .i64 vz] h nx k=true:=by
 subst hjz;subst hvz
 have hk2:∀L,L=(if(nN E.N j).k=23∨(nN E.N j).k=24∨(nN E.N j).k=25 then v-1 else v)→(∀h' nx',TI E h' nx' (ap1 (ap1 s (.kn j v)) (.ln (nN E.N j).f L)) A→k (.tu []) h' nx'=true)∧(ap1 (ap1 s (.kn j v)) (.ln (nN E.N j).f L)).ls.length≤1000000:=fun L hL=>by subst hL;exact⟨hk,hb⟩
 obtain⟨t1,t2,t3,lnv,XL,G,S⟩:=T
 have hsim:=G.sim
 have M:=Kr E.N E.r
 refine Ab hn (by omega) fun m hm=>?_
 by_cases hc:(nN E.N j).k=23∨(nN E.N j).k=24∨(nN E.N j).k=25
 · obtain⟨hk3,hb3⟩:=hk2 (v-1) (if_pos hc).symm
   repeat' ((conv=>lhs;whnf);first
    |exact absurd hc (by omega)
    |refine Ic Je ‹_› 2 rfl j (by omega) true (Bf _) rfl rfl (fun h' S=>?_)
    |refine Ic H7 ‹_› 1 rfl j (by omega) v (Bf _) rfl rfl (fun h' S=>?_)
    |refine No (by omega) rfl (by(try simp only[Aj]at *);omega) (TI.kn hv t1 t2 t3 G ‹_›) hb3 (fun h' nx' T=>?_)
    |exact hk3 _ _ ‹_›
    |refine M.rd1 (i:=j) (j:=0) ‹_› hF.m2 hj (by decide) rfl rfl ?_
    |refine M.rd1 (i:=j) (j:=1) ‹_› hF.m2 hj (by decide) rfl rfl ?_
    |contradiction
    |refine Be fun h' S=>?_
    |refine C8 fun h' S=>?_
    |refine Bj ?_
    |refine C9 ?_
    |refine Bi ?_
    |refine seqt ?_
    |refine Bg ?_
    |refine Bc ?_
    |refine Aq ?_
    |refine Ar ?_
    |refine Bh ?_
    |(first|refine C4 ?_ ?_|refine Dt ?_ ?_|refine Cu ?_ ?_|refine new ?_ ?_)<;>intro hc hz<;>(try simp only[Aj]at hz)<;>try rewrite [hc])
   skip
 · obtain⟨hk3,hb3⟩:=hk2 v (if_neg hc).symm
   repeat' ((conv=>lhs;whnf);first
    |exact absurd hc (by omega)
    |refine Ic Je ‹_› 2 rfl j (by omega) true (Bf _) rfl rfl (fun h' S=>?_)
    |refine Ic H7 ‹_› 1 rfl j (by omega) v (Bf _) rfl rfl (fun h' S=>?_)
    |refine No (by omega) rfl rfl (TI.kn hv t1 t2 t3 G ‹_›) hb3 (fun h' nx' T=>?_)
    |exact hk3 _ _ ‹_›
    |refine M.rd1 (i:=j) (j:=0) ‹_› hF.m2 hj (by decide) rfl rfl ?_
    |refine M.rd1 (i:=j) (j:=1) ‹_› hF.m2 hj (by decide) rfl rfl ?_
    |contradiction
    |refine Be fun h' S=>?_
    |refine C8 fun h' S=>?_
    |refine Bj ?_
    |refine C9 ?_
    |refine Bi ?_
    |refine seqt ?_
    |refine Bg ?_
    |refine Bc ?_
    |refine Aq ?_
    |refine Ar ?_
    |refine Bh ?_
    |(first|refine C4 ?_ ?_|refine Dt ?_ ?_|refine Cu ?_ ?_|refine new ?_ ?_)<;>intro hc hz<;>(try simp only[Aj]at hz)<;>try rewrite [hc])
   skip
end Go.CE
