/- Part 46 of the lemmas behind the claim. -/
import Derived.Test.YtacpdfjcepkgcaaGreatDoorZA01
import Derived.Test.YtacpdfjcepkgcaaGreatDoorZA40
import Derived.Test.YtacpdfjcepkgcaaGreatDoorZA45
set_option linter.unusedSimpArgs false
set_option linter.unusedVariables false
set_option linter.constructorNameAsVariable false
set_option linter.unusedSectionVars false
set_option linter.defProp false
set_option maxRecDepth 100000
set_option maxHeartbeats 40000000
namespace Go.CE
open Go Go.Ps Go.Proofs.YtacpdfjcepkgcaaGreatDoor
attribute [local irreducible] loopK Tt Ai K0 N2 Dg fits rd rd1 wr newC Kj Fk Fa Ve Oe Kq eqA
theorem hgeta {p:Pos} {L:List AV} {ty:Nat} {h:H} {nx:Pos} {A:List Av} {k:AO→Bool} (hk:∀cs,k (.cells L.length cs 0 false ty)=true) (S:Sat h nx A:=by assumption) (hi:∃i:Nat,A[i]?=some (p,OB.row L ty):=by first|exact⟨0,rfl⟩|exact⟨1,rfl⟩|exact⟨2,rfl⟩|exact⟨3,rfl⟩):Fk h p k=true:=by
 obtain⟨i,hi⟩:=hi
 obtain⟨cs,hc,hg⟩:=S.at hi
 simp only at hc
 rw[Cz,hc]
 exact hk cs
def BI (h:H) (nx:Pos) (bp:Pos) (bs:List Nat) (A:List Av):Prop:=∃a lv X,(a=.p0∨a=.p bp 0)∧GrA 1 5 lv (bs.flatMap Ox) X∧(∀x∈bs,x≤255)∧Sat h nx ((bp,.row [a,lv] 234)::(X++A))
theorem u8L_fl (k:List AV→Bool):∀(l:List Nat),u8L l k=k (l.flatMap Ox):=by
 intro l
 induction l generalizing k with
 |nil=>rfl
 |cons x r ih=>exact ih _
theorem noesc {n:Nat} (hn:2≤n) {v:AV} {kp:KP} {h:H} {nx:Pos} {k:K} (hk:k v h nx=true):Ai gg n kp (.fn 211 []) [v] h nx k=true:=by
 refine Ab hn (by omega) fun m hm=>?_
 conv=>lhs;whnf
 exact hk
theorem Rn {n:Nat} (hn:6≤n) {bp:Pos} {a lv:AV} (ha:a=.p0∨a=.p bp 0) {A:List Av} {kp:KP} {h:H} {nx:Pos} (S:Sat h nx ((bp,.row [a,lv] 234)::A)) {k:K} (hk:∀h',Sat h' nx ((bp,.row [.p bp 0,lv] 234)::A)→k (.tu []) h' nx=true):Ai gg n kp (.fn 174 []) [.p bp 0] h nx k=true:=by
 refine Ab hn (by omega) fun m hm=>?_
 rcases ha with rfl|rfl
 all_goals
  repeat' ((conv=>lhs;whnf);first
   |exact hk _ ‹_›
   |refine noesc (by omega) ?_
   |contradiction
   |refine Be fun h' S=>?_
   |refine C8 fun h' S=>?_
   |refine Bj ?_
   |refine C9 ?_
   |refine Bi ?_
   |refine seqt ?_
   |refine Bg ?_
   |refine Bc ?_
   |refine Aq ?_
   |refine Ar ?_
   |refine Bh ?_
   |refine hgeta fun cs=>?_
   |refine peqt ?_)
theorem encB_ones (l:List Nat):Gt (l.flatMap Ox)=true:=Xp (fun _=>rfl) l
theorem Yo {n:Nat} (hn:10≤n) {bp:Pos} {bs s:List Nat} (hs:∀x∈s,x≤255) (hl:bs.length+s.length≤1000000) {A:List Av} {kp:KP} {h:H} {nx:Pos} (B:BI h nx bp bs A) {k:K} (hk:∀v h' nx',BI h' nx' bp (bs++s) A→k v h' nx'=true):Ai gg n kp (.fn 122 []) [.p bp 0,.s s] h nx k=true:=by
 obtain⟨a,lv,X,ha,G,hb,S⟩:=B
 have hb2:∀x∈bs++s,x≤255:=fun x hx=>(D9.1 hx).elim (hb x) (hs x)
 have hfin:∀ {v h' nx' lv' X'},GrA 1 5 lv' ((bs++s).flatMap Ox) X'→Sat h' nx' ((bp,.row [.p bp 0,lv'] 234)::(X'++A))→k v h' nx'=true:=fun G' S=>hk _ _ _ ⟨_,_,_,.inr rfl,G',hb2,S⟩
 refine Ab hn (by omega) fun m hm=>?_
 by_cases h0:s=[]
 · subst h0
   rw[Bp]at hfin
   have G0:=G
   rcases G.inv with⟨rfl,_⟩|⟨p,n,LL,rfl,_⟩
   all_goals
    repeat' ((conv=>lhs;whnf);first
     |refine Rn (by omega) ha S (fun h' S=>?_)
     |exact hfin G0 ‹_›
     |contradiction
     |refine Be fun h' S=>?_
     |refine C8 fun h' S=>?_
     |refine Bj ?_
     |refine C9 ?_
     |refine Bi ?_
     |refine seqt ?_
     |refine Bg ?_
     |refine Bc ?_
     |refine Aq ?_
     |refine Ar ?_
     |refine Bh ?_)
 · have hp:0<s.length:=List.length_pos_iff.2 h0
   repeat' ((conv=>lhs;whnf);first
    |refine Rn (by omega) ha S (fun h' S=>?_)
    |refine(u8L_fl _ s).trans ?_
    |refine beq_f (by omega) ?_
    |(refine S7 (te:=ti5) (n:=s.length) [_] ‹_› G (by decide) (encB_ones _) (by rw[Az H9];rfl) bs.length (by rw[Az H9];exact Ag _) (Cr (Nat.mul_le_mul hl (show _+1≤101 from(Aa rfl))) (by decide)) (fun h' X' lv' G' S=>?_)
      rw[←Fx]at G'
      have G2:=G'
      rcases G'.inv with⟨rfl,_⟩|⟨p,n,LL,rfl,_⟩)
    |exact hfin G2 ‹_›
    |contradiction
    |refine Be fun h' S=>?_
    |refine C8 fun h' S=>?_
    |refine Bj ?_
    |refine C9 ?_
    |refine Bi ?_
    |refine seqt ?_
    |refine Bg ?_
    |refine Bc ?_
    |refine Aq ?_
    |refine Ar ?_
    |refine Bh ?_)
theorem wbyte_ok {n:Nat} (hn:10≤n) {bp:Pos} {bs:List Nat} {c:Nat} (hc:c≤255) (hl:bs.length+1≤1000000) {A:List Av} {kp:KP} {h:H} {nx:Pos} (B:BI h nx bp bs A) {k:K} (hk:∀v h' nx',BI h' nx' bp (bs++[c]) A→k v h' nx'=true):Ai gg n kp (.fn 123 []) [.p bp 0,.i .u8 (Int.ofNat c)] h nx k=true:=by
 obtain⟨a,lv,X,ha,G,hb,S⟩:=B
 have hb2:∀x∈bs++[c],x≤255:=fun x hx=>(D9.1 hx).elim (hb x) (fun hx=>by rw[Co.1 hx];exact hc)
 refine Ab hn (by omega) fun m hm=>?_
 repeat' ((conv=>lhs;whnf);first
  |refine Rn (by omega) ha S (fun h' S=>?_)
  |refine zk1 ?_
  |refine A6 ‹_› (.row [.i .u8 (Int.ofNat c)] 5) (Xy _ 5) (fun h' S=>?_)
  |(refine S7 (te:=ti5) [_,_] ‹_› G (by decide) rfl rfl bs.length (by rw[Az H9];exact Ag _) (Cr (Nat.mul_le_mul hl (show _+1≤101 from(Aa rfl))) (by decide)) (fun h' X' lv' G' S=>?_)
    replace G':GrA 1 5 lv' ((bs++[c]).flatMap Ox) X':=by rw[Fx];exact G'
    have G2:=G'
    rcases G'.inv with⟨rfl,_⟩|⟨p,n,LL,rfl,_⟩)
  |exact hk _ _ _ ⟨_,_,_,.inr rfl,G2,hb2,Sat.tail ‹_›⟩
  |contradiction
  |refine Be fun h' S=>?_
  |refine C8 fun h' S=>?_
  |refine Bj ?_
  |refine C9 ?_
  |refine Bi ?_
  |refine seqt ?_
  |refine Bg ?_
  |refine Bc ?_
  |refine Aq ?_
  |refine Ar ?_
  |refine Bh ?_)
theorem bstr_ok {n:Nat} (hn:10≤n) {bp:Pos} {bs:List Nat} (h0:bs≠[]) (hl:bs.length≤1000000) {A:List Av} {kp:KP} {h:H} {nx:Pos} (B:BI h nx bp bs A) {k:K} (hk:∀h',Sat h' nx A→k (.s bs) h' nx=true):Ai gg n kp (.fn 125 []) [.p bp 0] h nx k=true:=by
 obtain⟨a,lv,X,ha,G,hb,S⟩:=B
 rcases G.inv with⟨rfl,h2,rfl⟩|⟨p,z,LL,rfl,h2,h3,rfl⟩
 · exact absurd (Dh H9 (by decide) h2) h0
 have hz:z=bs.length:=(El (off:=0) H9 (by decide) h2 (by omega)).symm
 subst hz
 have hp:0<bs.length:=List.length_pos_iff.2 h0
 refine Ab hn (by omega) fun m hm=>?_
 repeat' ((conv=>lhs;whnf);first
  |refine beq_f (by omega) ?_
  |refine Bq (y:=false) hl ?_
  |contradiction
  |refine Be fun h' S=>?_
  |refine C8 fun h' S=>?_
  |refine Bj ?_
  |refine C9 ?_
  |refine Bi ?_
  |refine seqt ?_
  |refine Bg ?_
  |refine Bc ?_
  |refine Aq ?_
  |refine Ar ?_
  |refine Bh ?_)
 obtain⟨cs,hc,hg⟩:=S.at (i:=1) rfl
 simp only at hc
 conv=>lhs;whnf
 rw[Cz,hc]
 conv=>lhs;whnf
 refine Bq (by omega) ?_
 conv=>lhs;whnf
 refine(Ol cs bs.length 0 _).trans ?_
 have e:Zd cs bs.length 0=bs.flatMap Ox:=by
  rw[←h2,Nat.mul_one]
  refine List.ext_getElem? fun j=>?_
  by_cases hj:j<bs.length
  · have:=hg j (by omega)
    rw[Pv cs bs.length 0 j hj,Bf,this,Jk,if_pos hj,A0,B8 (by omega)]
    rfl
  · rw[Jl (by rw[Dj];omega),Jl (by simp;omega)]
 rw[e]
 show M6 (bs.flatMap Ox) _=true
 rw[U9 _ _ hb]
 refine D0 S 1 (.raw (AO.cells LL.length cs (fB (Nat.ble 0 bs.length) bs.length 0) false 5)) rfl ⟨rfl,fun c=>by cases c⟩ (fun h' S=>?_)
 conv=>lhs;whnf
 exact hk _ (Sat.right (C:=[_,_]) S)
theorem first_eq {n:Nat} (hn:4≤n) {a:List Nat} (hl:a.length≤100000000) {kp:KP} {h:H} {nx:Pos} {A:List Av} (S:Sat h nx A) {k:K} (hk:∀z:Int,k (.i .i64 z) h nx=true):Ai gg n kp (.fn 121 []) [.s a] h nx k=true:=by
 refine Ab hn (by omega) fun m hm=>?_
 repeat' ((conv=>lhs;whnf);first
  |exact hk _
  |refine Mu (by omega) (fun r hr=>?_)
  |contradiction
  |refine Be fun h' S=>?_
  |refine C8 fun h' S=>?_
  |refine Bj ?_
  |refine C9 ?_
  |refine Bi ?_
  |refine seqt ?_
  |refine Bg ?_
  |refine Bc ?_
  |refine Aq ?_
  |refine Ar ?_
  |refine Bh ?_
  |(first|refine C4 ?_ ?_|refine Dt ?_ ?_|refine Cu ?_ ?_|refine new ?_ ?_)<;>intro hc hz<;>(try simp only[Aj]at hz)<;>try rewrite [hc])
def My (x:Tk×Int×Int):List AV:=[.i .i64 x.1.c,.s x.1.t,.i .i64 x.2.1,.i .i64 x.2.2]
theorem Nw (x:Tk×Int×Int):(My x).length=4:=rfl
theorem contains_ok {n:Nat} (hn:4≤n) {a b:List Nat} (ha:a.length≤100000) {z:Int} {kp:KP} {h:H} {nx:Pos} {A:List Av} (S:Sat h nx A) (hG:(Ay 2,OB.raw (R5 z))∈A) {k:K} (hk:∀c,k (.b c) h nx=true):Ai gg n kp (.fn 126 []) [.s a,.s b] h nx k=true:=by
 refine Ab hn (by omega) fun m hm=>?_
 repeat' ((conv=>lhs;whnf);first
  |refine index_eq (by omega) (by omega) S hG (fun r hr=>?_)
  |exact hk _
  |contradiction
  |refine Be fun h' S=>?_
  |refine C8 fun h' S=>?_
  |refine Bj ?_
  |refine C9 ?_
  |refine Bi ?_
  |refine seqt ?_
  |refine Bg ?_
  |refine Bc ?_
  |refine Aq ?_
  |refine Ar ?_
  |refine Bh ?_
  |(first|refine C4 ?_ ?_|refine Dt ?_ ?_|refine Cu ?_ ?_|refine new ?_ ?_)<;>intro hc hz<;>(try simp only[Aj]at hz)<;>try rewrite [hc])
theorem Mt {n:Nat} (hn:6≤n) {x:Tk×Int×Int} {y:List Nat} (hy:y.length≤100) (hx:x.1.t.length≤1000000) {z:Int} {kp:KP} {h:H} {nx:Pos} {A:List Av} (S:Sat h nx A) (hG:(Ay 2,OB.raw (R5 z))∈A) {k:K} (hk:∀c h' nx',Sat h' nx' A→k (.b c) h' nx'=true):Ai gg n kp (.fn 64 []) [.ag (My x),.s y] h nx k=true:=by
 refine Ab hn (by omega) fun m hm=>?_
 repeat' ((conv=>lhs;whnf);first
  |exact hk _ _ _ (Sat.tail ‹_›)
  |refine contains_ok (by omega) (by omega) ‹_› (Am _ hG) (fun c=>?_)
  |contradiction
  |refine Be fun h' S=>?_
  |refine C8 fun h' S=>?_
  |refine Bj ?_
  |refine C9 ?_
  |refine Bi ?_
  |refine seqt ?_
  |refine Bg ?_
  |refine Bc ?_
  |refine Aq ?_
  |refine Ar ?_
  |refine Bh ?_
  |(first|refine C4 ?_ ?_|refine Dt ?_ ?_|refine Cu ?_ ?_|refine new ?_ ?_)<;>intro hc hz<;>(try simp only[Aj]at hz)<;>try rewrite [hc])
def Pn (z:Nat→Int) (b:Nat→Bool):List AV:=[.i .i64 (z 0),.i .i64 (z 1),.i .i64 (z 2),.i .i64 (z 3),.b (b 4),.b (b 5),.b (b 6),.i .i64 (z 7),.i .i64 (z 8),.i .i64 (z 9),.i .i64 (z 10),.i .i64 (z 11),.i .i64 (z 12),.i .i64 (z 13),.i .i64 (z 14),.i .i64 (z 15),.i .i64 (z 16),.i .i64 (z 17)]
def Aak (x:Int×Int):List AV:=[.i .i64 x.1,.i .i64 x.2]
theorem Qg (x:Int×Int):(Aak x).length=2:=rfl
structure GEnv where
 l:List Tk
 N:List Nd
 tp:Pos
 r:Pos
 q:Pos
 mp:Pos
 ct:Cap
 cr:Cap
 z:Nat→Int
 b:Nat→Bool
def GEnv.row (E:GEnv):Av:=(E.mp,.row (.sl E.tp 0 E.l.length E.ct::.sl E.r 0 E.N.length E.cr::(Pn E.z E.b++[.sl E.q 0 E.l.length (.k E.l.length)])) 231)
structure GEok (E:GEnv):Prop where
 nl:E.N.length≤200000
 ll:E.l.length≤20000
 ok:∀i,i<E.N.length→MkOK E.N i∧(nN E.N i).t≤E.l.length
def GI (E:GEnv) (h:H) (nx:Pos) (A:List Av):Prop:=∃M:List (Int×Int),M.length=E.l.length∧Sat h nx (E.row::(E.q,.row (M.flatMap Aak) 169)::(E.tp,.row (E.l.flatMap Du) 54)::(E.r,.row (E.N.flatMap Dy) 132)::A)
theorem Kx {E:GEnv} {n:Nat} (hn:3≤n) {pz kz:Int} {p:Nat} (hpz:pz=Int.ofNat p) (hp:p<E.l.length) {A:List Av} {kp:KP} {h:H} {nx:Pos} (G:GI E h nx A) {k:K} (hk:∀h' nx',GI E h' nx' A→k (.tu []) h' nx'=true):Ai gg n kp (.fn 166 []) [.p E.mp 0,.i .i64 pz,.i .i64 kz] h nx k=true:=by
 subst hpz
 obtain⟨M,hM,S⟩:=G
 unfold GEnv.row at S
 refine Ab hn (by omega) fun m hm=>?_
 repeat' ((conv=>lhs;whnf);first
  |refine Ic Qg ‹_› 1 rfl p (by omega) (kz,0) (Bf _) rfl rfl (fun h' S=>?_)
  |exact hk _ _ ⟨M.set p (kz,0),by rw[E8];exact hM,by assumption⟩
  |contradiction
  |refine Be fun h' S=>?_
  |refine C8 fun h' S=>?_
  |refine Bj ?_
  |refine C9 ?_
  |refine Bi ?_
  |refine seqt ?_
  |refine Bg ?_
  |refine Bc ?_
  |refine Aq ?_
  |refine Ar ?_
  |refine Bh ?_
  |(first|refine C4 ?_ ?_|refine Dt ?_ ?_|refine Cu ?_ ?_|refine new ?_ ?_)<;>intro hc hz<;>(try simp only[Aj]at hz)<;>try rewrite [hc])
theorem O3 {E:GEnv} {n:Nat} (hn:3≤n) {pz kz:Int} {p:Nat} (hpz:pz=Int.ofNat p) (hp:p<E.l.length) {A:List Av} {kp:KP} {h:H} {nx:Pos} (G:GI E h nx A) {k:K} (hk:∀h' nx',GI E h' nx' A→k (.tu []) h' nx'=true):Ai gg n kp (.fn 173 []) [.p E.mp 0,.i .i64 pz,.i .i64 kz] h nx k=true:=by
 subst hpz
 obtain⟨M,hM,S⟩:=G
 unfold GEnv.row at S
 refine Ab hn (by omega) fun m hm=>?_
 repeat' ((conv=>lhs;whnf);first
  |refine Ic Qg ‹_› 1 rfl p (by omega) (8,kz) (Bf _) rfl rfl (fun h' S=>?_)
  |exact hk _ _ ⟨M.set p (8,kz),by rw[E8];exact hM,by assumption⟩
  |contradiction
  |refine Be fun h' S=>?_
  |refine C8 fun h' S=>?_
  |refine Bj ?_
  |refine C9 ?_
  |refine Bi ?_
  |refine seqt ?_
  |refine Bg ?_
  |refine Bc ?_
  |refine Aq ?_
  |refine Ar ?_
  |refine Bh ?_
  |(first|refine C4 ?_ ?_|refine Dt ?_ ?_|refine Cu ?_ ?_|refine new ?_ ?_)<;>intro hc hz<;>(try simp only[Aj]at hz)<;>try rewrite [hc])
structure REnv where
 rp:Pos
 bl:AV
 B:List T5
 cp:Pos
 C:List (AV×List (List Nat))
 z:Nat→Int
 b:Nat→Bool
def encCm (c:AV×List (List Nat)):List AV:=[c.1]
theorem Rg (c:AV×List (List Nat)):(encCm c).length=1:=rfl
structure ROK (R:REnv) (A:List Av):Prop where
 r:(R.rp,.row (R.bl::.sl R.cp 0 R.C.length (.k R.C.length)::Pn R.z R.b) 164)∈A
 c:(R.cp,.row (R.C.flatMap encCm) 45)∈A
 bl:Kz 5 29 Jh R.B R.bl A
 n:R.C.length=R.B.length
 l:∀(i:Nat) (c:AV×List (List Nat)),R.C[i]?=some c→Kz 1 9 R9 c.2 c.1 A
 sz:∀c∈R.C,(c.2.map (·.length+1)).sum≤40000
 bs:∀c∈R.C,∀x∈c.2,∀y∈x,y≤255
 bn:R.B.length≤20000
 bt:∀t∈R.B,t.x.length≤20000∧∀y∈t.x,y≤255
 s1:0≤R.z 1∧R.z 1≤16
 s2:0≤R.z 2∧R.z 2≤16
theorem ROK.mono {R:REnv} {A B:List Av} (h:ROK R A) (hs:∀e∈A,e∈B):ROK R B:=
 ⟨hs _ h.r,hs _ h.c,h.bl.mono hs,h.n,fun i c e=>(h.l i c e).mono hs,h.sz,h.bs,h.bn,h.bt,h.s1,h.s2⟩
theorem BI.sat {h:H} {nx bp:Pos} {bs:List Nat} {A:List Av} (B:BI h nx bp bs A):∃C,Sat h nx (C++A):=by
 obtain⟨a,lv,X,_,_,_,S⟩:=B
 exact⟨(bp,.row [a,lv] 234)::X,S⟩
theorem bi_wr {h:H} {nx bp q:Pos} {bs:List Nat} {A:List Av} {L:List AV} {ty off:Nat} {vs:List AV} {k:H→Bool} (hk:∀h',BI h' nx bp bs ((q,.row (D7 L off vs) ty)::A)→k h'=true) (B:BI h nx bp bs ((q,.row L ty)::A):=by assumption) (ho:off+vs.length≤L.length:=by exact(Aa rfl)) (h1:Gt vs=true:=by exact rfl):wr h q off vs k=true:=by
 obtain⟨a,lv,X,h2,h3,h4,S⟩:=B
 have S:=S.perm (Fh (a:=(q,OB.row L ty)) (l₁:=_::X) (l₂:=A))
 exact Au S 0 rfl ho h1 fun h' S=>hk h' ⟨a,lv,X,h2,h3,h4,S.perm (Fh (a:=(q,OB.row (D7 L off vs) ty)) (l₁:=_::X) (l₂:=A)).symm⟩
theorem trim_eq {n:Nat} (hn:2≤n) {a b:List Nat} (ha:a.length≤4294967280) (hb:b.length≤1000) (hb2:(b.all fun x=>Nat.ble x 127)=true) {kp:KP} {h:H} {nx:Pos} {k:K} (hk:∀r:List Nat,r.length≤a.length→(∀x∈r,x≤255)→k (.s r) h nx=true):Ai gg n kp (.fn 124 []) [.s a,.s b] h nx k=true:=by
 refine Ab hn (by omega) fun m hm=>?_
 conv=>lhs;whnf
 refine Bq ha ?_
 conv=>lhs;whnf
 refine Bq (by omega) ?_
 rw[hb2]
 refine hk _ ?_ fun x hx=>?_
 · unfold trimR
   rw[Ct]
   unfold Lib.trimRightS
   rw[List.length_reverse]
   refine Cr (List.dropWhile_sublist _).length_le ?_
   rw[List.length_reverse,Ct]
   exact Ag _
 · obtain⟨y,_,rfl⟩:=Dz.1 hx
   have:=y.toNat_lt
   omega
theorem sumw_take {l:List (List Nat)} {j:Nat} (hj:j<l.length):((l.take j).map (·.length+1)).sum+(l[j].length+1)≤(l.map (·.length+1)).sum:=by
 have:=congrArg (fun l:List (List Nat)=>(l.map (·.length+1)).sum) (List.take_append_drop j l)
 simp only[Eo,List.sum_append]at this
 rw[Ly hj,D5,List.sum_cons]at this
 omega
theorem sumw_succ {l:List (List Nat)} {j:Nat} (hj:j<l.length):((l.take (j+1)).map (·.length+1)).sum=((l.take j).map (·.length+1)).sum+(l[j].length+1):=by
 rw[Lz hj,Eo,List.sum_append];rfl
theorem bi_new {h:H} {nx bp:Pos} {bs:List Nat} {A:List Av} {L:List AV} {ty n:Nat} {k:Pos→H→Pos→Bool} (hk:∀h',BI h' (Ad nx) bp bs ((nx,.row L ty)::A)→k nx h' (Ad nx)=true) (B:BI h nx bp bs A:=by assumption) (hn:L.length=n:=by exact rfl):newC h nx ty n L k=true:=by
 obtain⟨a,lv,X,h2,h3,h4,S⟩:=B
 exact Cp S hn fun h' S=>hk h' ⟨a,lv,X,h2,h3,h4,S.perm (Fh (a:=(nx,OB.row L ty)) (l₁:=_::X) (l₂:=A)).symm⟩
theorem atom_ok {R:REnv} {A:List Av} (hR:ROK R A) {n:Nat} (hn:1000100≤n) {iz:Int} {i:Nat} (hiz:iz=Int.ofNat i) (hi:i<R.B.length) {last:Bool} {kp:KP} {h:H} {nx:Pos} (S:Sat h nx A) {k:K} (hk:∀x w c e h' nx',Sat h' nx' A→k (.ag [.s x,.i .i64 w,.b c,.b e]) h' nx'=true):Ai gg n kp (.fn 63 []) [.p R.rp 0,.i .i64 iz,.b last] h nx k=true:=by
 subst hiz
 obtain⟨rp,bl,B,cp,C,z,b⟩:=R
 have hr:=hR.r
 have hcm:=hR.c
 have hcl:i<C.length:=by have:=hR.n;have hi:i<B.length:=hi;have this:C.length=B.length:=this;omega
 obtain⟨⟨cv,cs⟩,hci⟩:∃c,C[i]?=some c:=⟨_,B8 hcl⟩
 have hl:=hR.l i _ hci
 have hmem:=Gm hci
 have hsz:(cs.map (·.length+1)).sum≤40000:=hR.sz _ hmem
 have hbs:∀x∈cs,∀y∈x,y≤255:=hR.bs _ hmem
 have hbt:=hR.bt
 have hbl:=hR.bl
 have hbn:=hR.bn
 clear hR
 dsimp only at hr hcm hl hbt hi hbl hbn
 rcases hbl with⟨e,_⟩|⟨p,off,cap,LL,rfl,hp,h1,h2⟩
 · subst e;exact absurd hi (Nat.not_lt_zero _)
 obtain⟨t,ht⟩:∃t,B[i]=t:=⟨_,rfl⟩
 have htx:=hbt t (ht▸D8 hi)
 have htx1:=htx.1
 rcases hl with⟨rfl,rfl⟩|⟨q,qo,qc,QL,rfl,hq,hq1,hq2⟩
 · refine Ab hn (by omega) fun m hm=>?_
   cases last
   all_goals
    repeat' ((conv=>lhs;whnf);first
     |exact hk _ _ _ _ _ _ (Sat.tail ‹_›)
     |refine A5 ‹_› (Am _ hr) (Aa rfl) ?_
     |(refine Fe C7 ‹_› (Am _ hp) h1 h2 i 1 hi (by decide) rfl ?_
       rw[ht])
     |refine Id Rg ‹_› (Am _ hcm) i 0 hci (by decide) (Bf _) ?_
     |refine first_eq (by omega) (by omega) ‹_› (fun w=>?_)
     |contradiction
     |refine Be fun h' S=>?_
     |refine C8 fun h' S=>?_
     |refine Bj ?_
     |refine C9 ?_
     |refine Bi ?_
     |refine seqt ?_
     |refine Bg ?_
     |refine Bc ?_
     |refine Aq ?_
     |refine Ar ?_
     |refine Bh ?_)
 · have hdr:(cs.map (·.length+1)).sum=(cs.map (·.length+1)).sum:=rfl
   have hle:cs.length≤40000:=by
    have:∀l:List (List Nat),l.length≤(l.map (·.length+1)).sum:=fun l=>by
     induction l with
     |nil=>exact Ag _
     |cons a r ih=>rw[D5,List.sum_cons,Cq];omega
    have:=this cs
    omega
   refine Ab hn (by omega) fun m hm=>?_
   cases last
   all_goals
    repeat' ((conv=>lhs;whnf);first
     |exact hk _ _ _ _ _ _ (Sat.tail ‹_›)
     |exact(by omega:False).elim
     |refine A5 ‹_› (Am _ hr) (Aa rfl) ?_
     |(refine Fe C7 ‹_› (Am _ hp) h1 h2 i 1 hi (by decide) rfl ?_
       rw[ht])
     |refine Id Rg ‹_› (Am _ hcm) i 0 hci (by decide) (Bf _) ?_
     |refine first_eq (by omega) (by omega) ‹_› (fun w=>?_)
     |refine A5 ‹_› (A3 _ (.tail _ (.tail _ hr))) (Aa rfl) ?_
     |refine Id Rg ‹_› (A3 _ (.tail _ (.tail _ hcm))) i 0 hci (by decide) (Bf _) ?_
     |(refine Yo (bs:=[]) (s:=t.x) (A:=(nx,OB.row (Vo Rt.zero) 173)::A) (by omega) htx.2 (by simp;omega) ⟨_,_,[],.inl rfl,.nil,by simp,by assumption⟩ (fun v h' p9 B=>?_)
       have hb1:([]++t.x).length≤t.x.length:=Ag _
       generalize []++t.x=bs1 at B hb1)
     |(refine bi_new (fun h' B=>?_)
       obtain⟨C0,S⟩:=BI.sat B)
     |(refine bi_wr (fun h' B=>?_)
       obtain⟨C0,S⟩:=BI.sat B)
     |(refine Br (L:=[6,8,9,10,46,47,48]) rfl (fun m vs d' h' nx'=>∃(j:Nat) (bs:List Nat) (sp:Nat) (e:Bool),j≤cs.length∧cs.length-j=m∧sp≤255∧bs.length≤t.x.length+((cs.take j).map (·.length+1)).sum∧(bs≠[]∨j=0)∧BI h' nx' (Ad nx) bs ((p9,OB.row [.s [],.i .i64 0,.b true,.b e] 173)::(nx,OB.row (Vo Rt.zero) 173)::A)∧d'=[]∧vs=[.p nx 0,.p (Ad nx) 0,.p p9 0,.i .u8 (Int.ofNat sp),.sl q qo cs.length qc,.i .i64 (.ofNat cs.length),.i .i64 (.ofNat j)]) cs.length (by omega) ⟨0,bs1,32,false,by omega,rfl,by omega,by simpa using hb1,.inr rfl,B,rfl,rfl⟩ ?_
       rintro m _ d' h' nx' ⟨j,bs,sp,e,hj,rfl,hsp,hbl,hb0,B,rfl,rfl⟩ k' hn' hx
       obtain⟨C0,S⟩:=BI.sat B)
     |(refine Fe K9 ‹_› (A3 _ (.tail _ (.tail _ hq))) hq1 hq2 j 0 (by omega) (by decide) rfl ?_
       have hjl:j<cs.length:=by omega
       have hss:=sumw_succ hjl
       have hsw:=sumw_take hjl
       obtain⟨cj,hcj⟩:∃c,cs[j]=c:=⟨_,rfl⟩
       rw[hcj]at hss hsw ⊢
       have hby:=hbs cj (hcj▸D8 hjl))
     |(refine wbyte_ok (bs:=bs) (by omega) hsp (by omega) ‹_› (fun v h' nx' B=>?_)
       obtain⟨C0,S⟩:=BI.sat B)
     |(refine Jx (by omega) (by omega) (Aa rfl) (fun pb hpb=>?_)
       cases pb)
     |refine trim_eq (by omega) (by omega) (Aa rfl) rfl (fun tr htr1 htr2=>?_)
     |refine Mu (by omega) (fun r hr=>?_)
     |(refine Yo (bs:=bs++[sp]) (s:=cj) (by omega) hby (by rw[Bb,List.length_singleton];omega) ‹_› (fun v h' nx' B=>?_)
       obtain⟨C0,S⟩:=BI.sat B
       have hls:(bs++[sp]++cj).length≤t.x.length+((cs.take (j+1)).map (·.length+1)).sum:=by rw[hss,Bb,Bb,List.length_singleton];omega)
     |(refine Yo (bs:=bs++[sp]) (s:=tr) (by omega) htr2 (by rw[Bb,List.length_singleton];omega) ‹_› (fun v h' nx' B=>?_)
       obtain⟨C0,S⟩:=BI.sat B
       have hls:(bs++[sp]++tr).length≤t.x.length+((cs.take (j+1)).map (·.length+1)).sum:=by rw[hss,Bb,Bb,List.length_singleton];omega)
     |exact hn' _ _ _ _ _ (by omega) ⟨j+1,_,32,_,by omega,rfl,by decide,hls,.inl (by simp),B,rfl,rfl⟩
     |exact hn' _ _ _ _ _ (by omega) ⟨j+1,_,10,_,by omega,rfl,by decide,hls,.inl (by simp),B,rfl,rfl⟩
     |(refine hx _ _ _ _ _ trivial ?_
       obtain rfl:j=cs.length:=by omega
       have hlen:bs.length≤70000:=by rw[List.take_length]at hbl;omega)
     |refine bstr_ok (by omega) (hb0.resolve_right (by omega)) (by omega) B (fun h' S=>?_)
     |exact hk _ _ _ _ _ _ (Sat.right (C:=[_,_]) ‹_›)
     |contradiction
     |refine Be fun h' S=>?_
     |refine C8 fun h' S=>?_
     |refine Bj ?_
     |refine C9 ?_
     |refine Bi ?_
     |refine seqt ?_
     |refine Bg ?_
     |refine Bc ?_
     |refine Aq ?_
     |refine Ar ?_
     |refine Bh ?_
     |(first|refine C4 ?_ ?_|refine Dt ?_ ?_|refine Cu ?_ ?_|refine new ?_ ?_)<;>intro hc hz<;>(try simp only[Aj]at hz)<;>try rewrite [hc])
def stepG (s:Nat×List Nat) (a:List AV) (s':Nat×List Nat):Prop:=∃c,s.2=c::s'.2∧s'.1=s.1+1∧a=[.i .i64 (Int.ofNat s.1),.i .i64 (Int.ofNat c)]
def OwnG (E:GEnv) (b3 b2:Pos) (i:Nat) (A:List Av):Prop:=E.row∈A∧∀e∈[(b3,OB.row [.i .i64 (Int.ofNat i)] 3),(b2,.row [.p E.mp 0] 229),(E.r,.row (E.N.flatMap Dy) 132)],e∈A
theorem gk_it {E:GEnv} (hE:GEok E) {i:Nat} (hi:i<E.N.length) (b3 b2:Pos):ItP 1000010 (.fn 226 [.p b3 0,.p b2 0]) stepG (fun s:Nat×List Nat=>s.2=[]) (0,kids E.N i) (OwnG E b3 b2 i):=by
 intro dd0 n hn hdd lp kp h nx k A J X hO S h0 hy hk
 refine Ab (d:=max 1000010 (dd0+1)) (by omega) (by omega) fun m hm=>?_
 have hnl:=hE.nl
 have hmi:=(hE.ok i hi).1
 have M:=Kr E.N E.r
 obtain⟨hrow,hm3⟩:=hO _ A h0
 have hb1:=hm3 _ (Aw ..)
 have hb2:=hm3 _ (Am _ (Aw ..))
 have hb3:=hm3 _ (Am _ (Am _ (Aw ..)))
 unfold GEnv.row at hrow
 have hsi:=hmi.s
 repeat' ((conv=>lhs;whnf);first
  |refine A5 ‹_› hb1 (Aa rfl) ?_
  |refine A5 ‹_› hb2 (Aa rfl) ?_
  |refine A5 ‹_› hrow (Aa rfl) ?_
  |refine M.rd1 ‹_› hb3 (i:=i) (j:=3) hi (by decide) rfl rfl ?_
  |contradiction
  |refine Be fun h' S=>?_
  |refine C8 fun h' S=>?_
  |refine Bj ?_
  |refine C9 ?_
  |refine Bi ?_
  |refine seqt ?_
  |refine Bg ?_
  |refine Bc ?_
  |refine Aq ?_
  |refine Ar ?_
  |refine Bh ?_)
 conv=>lhs;whnf
 refine Br (L:=[0,2,4,5,6]) rfl (fun m vs d' h' nx'=>∃(k u c:Nat) (A:List Av),k≤E.N.length∧c≤k∧(i+(nN E.N i).s)-k=m∧(i+(nN E.N i).s)-k≤u∧J (c,H5 E.N u (i+(nN E.N i).s) k) A∧Sat h' nx' A∧d'=[]∧vs=[.yl lp,.p b2 0,.i .i64 (Int.ofNat i+Int.ofNat (nN E.N i).s),.i .i64 (.ofNat c),.i .i64 (.ofNat k)]) ((i+(nN E.N i).s)-(i+1)) (by omega) ⟨i+1,E.N.length,0,A,by omega,by omega,rfl,by omega,h0,S,rfl,rfl⟩ ?_
 rintro m _ d' h' nx' ⟨k1,u,c1,A,hk1,hc1,rfl,hu,hJ,S,rfl,rfl⟩ k' hn' hx
 have hkk:k1<i+(nN E.N i).s→k1<E.N.length:=fun c=>by omega
 by_cases hlt:k1<i+(nN E.N i).s
 · have hmk:=(hE.ok k1 (hkk hlt)).1.s
   obtain⟨u,rfl⟩:∃v,u=v+1:=⟨u-1,by omega⟩
   have hJ2:H5 E.N (u+1) (i+(nN E.N i).s) k1=k1::H5 E.N u (i+(nN E.N i).s) (k1+(nN E.N k1).s):=if_pos hlt
   rw[hJ2]at hJ
   repeat' ((conv=>lhs;whnf);first
    |exact absurd hz (by(try simp only[Aj]at *);omega)
    |(refine hy _ [.i .i64 (Int.ofNat c1),.i .i64 (Int.ofNat k1)] (c1+1,H5 E.N u (i+(nN E.N i).s) (k1+(nN E.N k1).s)) A [] _ _ _ _ ⟨k1,rfl,rfl,rfl⟩ (by omega) hJ (by rw[Bp];assumption) (fun A' h2 nx2 q1 S2=>?_) (fun A' h2 nx2 q2 S2=>?_)<;>rw[Bp]at S2
      try obtain⟨hrow2,hm4⟩:=hO _ A' q1
      try unfold GEnv.row at hrow2)
    |(refine hx _ _ _ _ _ trivial ?_;conv=>lhs;whnf
      exact hk A' _ _ (.inr q2) ‹_›)
    |refine A5 ‹_› (hm4 _ (Am _ (Aw ..))) (Aa rfl) ?_
    |refine A5 ‹_› hrow2 (Aa rfl) ?_
    |refine M.rd1 ‹_› (hm4 _ (Am _ (Am _ (Aw ..)))) (i:=k1) (j:=3) (hkk hlt) (by decide) rfl rfl ?_
    |exact hn' _ _ _ _ _ (by omega) ⟨k1+(nN E.N k1).s,u,c1+1,A',by omega,by omega,rfl,by omega,q1,by assumption,rfl,rfl⟩
    |contradiction
    |refine Be fun h' S=>?_
    |refine C8 fun h' S=>?_
    |refine Bj ?_
    |refine C9 ?_
    |refine Bi ?_
    |refine seqt ?_
    |refine Bg ?_
    |refine Bc ?_
    |refine Aq ?_
    |refine Ar ?_
    |refine Bh ?_
    |(first|refine C4 ?_ ?_|refine Dt ?_ ?_|refine Cu ?_ ?_|refine new ?_ ?_)<;>intro hc hz<;>(try simp only[Aj]at hz)<;>try rewrite [hc])
   skip
 · have hJ2:H5 E.N u (i+(nN E.N i).s) k1=[]:=by
    cases u with
    |zero=>rfl
    |succ u=>exact if_neg hlt
   rw[hJ2]at hJ
   repeat' ((conv=>lhs;whnf);first
    |exact absurd hz (by(try simp only[Aj]at *);omega)
    |(refine hx _ _ _ _ _ trivial ?_;conv=>lhs;whnf
      exact hk A _ _ (.inl ⟨_,rfl,hJ⟩) ‹_›)
    |(first|refine C4 ?_ ?_|refine Dt ?_ ?_|refine Cu ?_ ?_|refine new ?_ ?_)<;>intro hc hz<;>(try simp only[Aj]at hz)<;>try rewrite [hc])
theorem gk_ok {n:Nat} (hn:2≤n) {tp:Pos} {i:Int} {kp:KP} {h:H} {nx:Pos} {A:List Av} (S:Sat h nx A) {k:K} (hk:∀h',Sat h' (Ad (Ad nx)) ((Ad nx,.row [.i .i64 i] 3)::(nx,.row [.p tp 0] 229)::A)→k (.fn 226 [.p (Ad nx) 0,.p nx 0]) h' (Ad (Ad nx))=true):Ai gg n kp (.fn 209 []) [.p tp 0,.i .i64 i] h nx k=true:=by
 refine Ab hn (by omega) fun m hm=>?_
 repeat' ((conv=>lhs;whnf);first
  |exact hk _ ‹_›
  |contradiction
  |refine Be fun h' S=>?_
  |refine C8 fun h' S=>?_
  |refine Bj ?_
  |refine C9 ?_
  |refine Bi ?_
  |refine seqt ?_
  |refine Bg ?_
  |refine Bc ?_
  |refine Aq ?_
  |refine Ar ?_
  |refine Bh ?_)
theorem gis_ok {E:GEnv} (hE:GEok E) {n:Nat} (hn:3≤n) {pz:Int} {x:List Nat} {p:Nat} (hpz:pz=Int.ofNat p) (hp:p<E.l.length) {kp:KP} {h:H} {nx:Pos} {A:List Av} (S:Sat h nx A) (hr:E.row∈A) (ht:(E.tp,OB.row (E.l.flatMap Du) 54)∈A) {k:K} (hk:∀c,k (.b c) h nx=true):Ai gg n kp (.fn 210 []) [.p E.mp 0,.i .i64 pz,.s x] h nx k=true:=by
 subst hpz
 have hll:=hE.ll
 unfold GEnv.row at hr
 have ht1:((E.l.flatMap Du).drop 0).take (E.l.length*2)=E.l.flatMap Du:=by rw[List.drop_zero];exact Et (by rw[Az B6];exact Ag _)
 have ht2:0+E.l.length*2≤(E.l.flatMap Du).length:=by rw[Az B6];omega
 refine Ab hn (by omega) fun m hm=>?_
 repeat' ((conv=>lhs;whnf);first
  |exact hk _
  |refine A5 ‹_› hr (Aa rfl) ?_
  |refine Fe B6 ‹_› ht ht1 ht2 p 0 hp (by decide) rfl ?_
  |refine Fe B6 ‹_› ht ht1 ht2 p 1 hp (by decide) rfl ?_
  |(refine Gq (fun hc hz=>?_) (fun hc hz=>?_)<;>try rewrite [hc])
  |contradiction
  |refine Be fun h' S=>?_
  |refine C8 fun h' S=>?_
  |refine Bj ?_
  |refine C9 ?_
  |refine Bi ?_
  |refine seqt ?_
  |refine Bg ?_
  |refine Bc ?_
  |refine Aq ?_
  |refine Ar ?_
  |refine Bh ?_
  |(first|refine C4 ?_ ?_|refine Dt ?_ ?_|refine Cu ?_ ?_|refine new ?_ ?_)<;>intro hc hz<;>(try simp only[Aj]at hz)<;>try rewrite [hc])
theorem GI.swap {E:GEnv} {h:H} {nx:Pos} {e:Av} {A:List Av} {M:List (Int×Int)} (hM:M.length=E.l.length) (S:Sat h nx (e::E.row::(E.q,.row (M.flatMap Aak) 169)::(E.tp,.row (E.l.flatMap Du) 54)::(E.r,.row (E.N.flatMap Dy) 132)::A)):GI E h nx (e::A):=
 ⟨M,hM,S.perm (Fh (l₁:=[_,_,_,_])).symm⟩
theorem GI.drop {E:GEnv} {h:H} {nx:Pos} {e:Av} {A:List Av} (G:GI E h nx (e::A)):GI E h nx A:=by
 obtain⟨M,hM,S⟩:=G
 exact⟨M,hM,S.sub (.cons_cons _ (.cons_cons _ (.cons_cons _ (.cons_cons _ (List.sublist_cons_self _ _)))))⟩
theorem stars_ok {E:GEnv} (hE:GEok E) {n:Nat} (hn:40000≤n) {nd:Nd} (hf:nd.f<nd.t) (ht:nd.t≤E.l.length) {kp:KP} {h:H} {nx:Pos} {A:List Av} (G:GI E h nx A) {k:K} (hk:∀h' nx',GI E h' nx' A→k (.tu []) h' nx'=true):Ai gg n kp (.fn 168 []) [.p E.mp 0,.ag (Dy nd)] h nx k=true:=by
 have hll:=hE.ll
 obtain⟨M,hM,S⟩:=G
 refine Ab hn (by omega) fun m hm=>?_
 repeat' ((conv=>lhs;whnf);first
  |(refine Br (L:=[0,3,4]) rfl (fun m vs d' h2 nx2=>∃i:Nat,i≤nd.t∧nd.t-i=m∧GI E h2 nx2 ((nx,.row (Dy nd) 132)::A)∧d'=[]∧vs=[.p E.mp 0,.p nx 0,.i .i64 (.ofNat i)]) (nd.t-nd.f) (by omega) ⟨nd.f,by omega,rfl,GI.swap hM ‹_›,rfl,rfl⟩ ?_
    rintro m _ d' h' nx' ⟨i,hi,rfl,G,rfl,rfl⟩ k' hn' hx
    obtain⟨M,hM,S⟩:=id G
    have ht1:((E.l.flatMap Du).drop 0).take (E.l.length*2)=E.l.flatMap Du:=by rw[List.drop_zero];exact Et (by rw[Az B6];exact Ag _)
    have ht2:0+E.l.length*2≤(E.l.flatMap Du).length:=by rw[Az B6];omega
    unfold GEnv.row at S)
  |refine gis_ok hE (by omega) rfl (p:=i) (by omega) ‹_› (by unfold GEnv.row;simp) (by simp) (fun c=>?_)
  |refine Kx (by omega) rfl (p:=i) (by omega) G (fun h' nx' G=>?_)
  |refine Fe B6 ‹_› (p:=E.tp) (LL:=E.l.flatMap Du) (ty:=54) (by simp) ht1 ht2 i 0 (by omega) (by decide) rfl ?_
  |exact hn' _ _ _ _ _ (by omega) ⟨i+1,by omega,rfl,G,rfl,rfl⟩
  |(refine hx _ _ _ _ _ trivial ?_;conv=>lhs;whnf
    exact hk _ _ (GI.drop G))
  |cases c
  |contradiction
  |refine Be fun h' S=>?_
  |refine C8 fun h' S=>?_
  |refine Bj ?_
  |refine C9 ?_
  |refine Bi ?_
  |refine seqt ?_
  |refine Bg ?_
  |refine Bc ?_
  |refine Aq ?_
  |refine Ar ?_
  |refine Bh ?_
  |(first|refine C4 ?_ ?_|refine Dt ?_ ?_|refine Cu ?_ ?_|refine new ?_ ?_)<;>intro hc hz<;>(try simp only[Aj]at hz)<;>try rewrite [hc])
end Go.CE
