/- Part 48 of the lemmas behind the claim. -/
import Derived.Test.YtacpdfjcepkgcaaGreatDoorZA01
import Derived.Test.YtacpdfjcepkgcaaGreatDoorZA46
import Derived.Test.YtacpdfjcepkgcaaGreatDoorZA47
set_option linter.unusedSimpArgs false
set_option linter.unusedVariables false
set_option linter.constructorNameAsVariable false
set_option linter.unusedSectionVars false
set_option linter.defProp false
set_option maxRecDepth 100000
set_option maxHeartbeats 40000000
namespace Go.CE
open Go Go.Ps Go.Proofs.YtacpdfjcepkgcaaGreatDoor
attribute [local irreducible] loopK Tt Ai K0 N2 Dg fits rd rd1 wr newC Kj Fk Fa Ve Oe Kq eqA
theorem bway {b x y:Bool} (h1:b=true→x=true) (h2:b=false→y=true):fB b x y=true:=by
 cases b
 · exact h2 rfl
 · exact h1 rfl
theorem blanks_ok {R:REnv} {A:List Av} (hR:ROK R A) {n:Nat} (hn:2000100≤n) {iz:Int} {i:Nat} (hiz:iz=Int.ofNat i) (hi:i+1<R.B.length) {x:List Nat} {w:Int} {c e:Bool} {a b:Tk×Int×Int} (ha:a.1.t.length≤20004) (hb:b.1.t.length≤20004) {z:Int} (hG:(Ay 2,OB.raw (R5 z))∈A) {kp:KP} {h:H} {nx:Pos} (S:Sat h nx A) {k:K} (hk:∀(v:Int) h' nx',Sat h' nx' A→k (.i .i64 v) h' nx'=true):Ai gg n kp (.fn 65 []) [.p R.rp 0,.i .i64 iz,.ag [.s x,.i .i64 w,.b c,.b e],.ag (My a),.ag (My b)] h nx k=true:=by
 subst hiz
 have hr:=hR.r
 have hbl:=hR.bl
 have hbt:=hR.bt
 have hbn:=hR.bn
 obtain⟨rp,bl,B,cp,C,zz,bb⟩:=R
 dsimp only at hr hbl hbt hbn hi ⊢
 rcases hbl with⟨e,_⟩|⟨p,off,cap,LL,rfl,hp,h1,h2⟩
 · subst e;exact absurd hi (Nat.not_lt_zero _)
 obtain⟨t,ht⟩:∃t,B[i]=t:=⟨_,rfl⟩
 obtain⟨u,hu⟩:∃t,B[i+1]=t:=⟨_,rfl⟩
 have htx:=(hbt t (ht▸D8 (by omega))).1
 have hux:=(hbt u (hu▸D8 hi)).1
 clear hR
 have hr3:∀ {e1 e2 e3:Av},(rp,OB.row (.sl p off B.length cap::.sl cp 0 C.length (.k C.length)::Pn zz bb) 164)∈e1::e2::e3::A:=.tail _ (.tail _ (.tail _ hr))
 refine Ab hn (by omega) fun m hm=>?_
 cases c
 all_goals
  repeat' ((conv=>lhs;whnf);first
   |exact hk _ _ _ (Sat.right (C:=[_,_,_]) ‹_›)
   |refine A5 ‹_› hr3 (Aa rfl) ?_
   |refine Ae ‹_› 0 rfl (Aa rfl) ?_
   |refine Ae ‹_› 1 rfl (Aa rfl) ?_
   |refine Ae ‹_› 2 rfl (Aa rfl) ?_
   |refine Da ‹_› 0 rfl (Aa rfl) ?_
   |refine Da ‹_› 1 rfl (Aa rfl) ?_
   |(refine Fe C7 ‹_› (.tail _ (.tail _ (.tail _ hp))) h1 h2 i 1 (by omega) (by decide) rfl ?_
     rw[ht])
   |(refine Fe C7 ‹_› (.tail _ (.tail _ (.tail _ hp))) h1 h2 (i+1) 1 hi (by decide) rfl ?_
     rw[hu])
   |(refine Fe C7 ‹_› (.tail _ (.tail _ (.tail _ hp))) h1 h2 (i+1) 4 hi (by decide) rfl ?_
     rw[hu])
   |refine fuses_eq (by omega) (by omega) (by omega) (.tail _ (.tail _ (.tail _ hG))) ‹_› (fun fu fe h' nx' S=>?_)<;>cases fu
   |refine Mt (x:=a) (z:=z) (by omega) (Aa rfl) (by omega) ‹_› (.tail _ (.tail _ (.tail _ hG))) (fun q h' nx' S=>?_)<;>cases q
   |refine Mt (x:=b) (z:=z) (by omega) (Aa rfl) (by omega) ‹_› (.tail _ (.tail _ (.tail _ hG))) (fun q h' nx' S=>?_)<;>cases q
   |refine bway (b:=bb 4) (fun hc=>?_) (fun hc=>?_)
   |refine bway (b:=u.s) (fun hc=>?_) (fun hc=>?_)
   |contradiction
   |refine Be fun h' S=>?_
   |refine C8 fun h' S=>?_
   |refine Bj ?_
   |refine C9 ?_
   |refine Bi ?_
   |refine seqt ?_
   |refine Bg ?_
   |refine Bc ?_
   |refine Aq ?_
   |refine Ar ?_
   |refine Bh ?_
   |(first|refine C4 ?_ ?_|refine Dt ?_ ?_|refine Cu ?_ ?_|refine new ?_ ?_)<;>intro hc hz<;>(try simp only[Aj]at hz)<;>try rewrite [hc])
theorem price_ok {R:REnv} {A:List Av} (hR:ROK R A) {n:Nat} (hn:2000100≤n) {v:Int} {a b:Tk×Int×Int} (ha:a.1.t.length≤20004) (hb:b.1.t.length≤20004) {z:Int} (hG:(Ay 2,OB.raw (R5 z))∈A) {kp:KP} {h:H} {nx:Pos} (S:Sat h nx A) {k:K} (hk:∀(v:Int) (c:Bool) h' nx',Sat h' nx' A→k (.tu [.i .i64 v,.b c]) h' nx'=true):Ai gg n kp (.fn 66 []) [.p R.rp 0,.i .i64 v,.ag (My a),.ag (My b)] h nx k=true:=by
 have hr:=hR.r
 obtain⟨rp,bl,B,cp,C,zz,bb⟩:=R
 dsimp only at hr ⊢
 clear hR
 have hr2:∀ {e1 e2:Av},(rp,OB.row (bl::.sl cp 0 C.length (.k C.length)::Pn zz bb) 164)∈e1::e2::A:=.tail _ (.tail _ hr)
 refine Ab hn (by omega) fun m hm=>?_
 repeat' ((conv=>lhs;whnf);first
  |exact absurd (‹bb 4=true›.symm.trans ‹bb 4=false›) (by decide)
  |exact hk _ _ _ _ (Sat.right (C:=[_,_]) ‹_›)
  |refine A5 ‹_› hr2 (Aa rfl) ?_
  |refine Ae ‹_› 0 rfl (Aa rfl) ?_
  |refine Ae ‹_› 1 rfl (Aa rfl) ?_
  |refine Da ‹_› 0 rfl (Aa rfl) ?_
  |refine Da ‹_› 1 rfl (Aa rfl) ?_
  |refine Mt (x:=a) (z:=z) (by omega) (Aa rfl) (by omega) ‹_› (.tail _ (.tail _ hG)) (fun q h' nx' S=>?_)<;>cases q
  |refine Mt (x:=b) (z:=z) (by omega) (Aa rfl) (by omega) ‹_› (.tail _ (.tail _ hG)) (fun q h' nx' S=>?_)<;>cases q
  |refine bway (b:=bb 4) (fun hc=>?_) (fun hc=>?_)
  |contradiction
  |refine Be fun h' S=>?_
  |refine C8 fun h' S=>?_
  |refine Bj ?_
  |refine C9 ?_
  |refine Bi ?_
  |refine seqt ?_
  |refine Bg ?_
  |refine Bc ?_
  |refine Aq ?_
  |refine Ar ?_
  |refine Bh ?_
  |(first|refine C4 ?_ ?_|refine Dt ?_ ?_|refine Cu ?_ ?_|refine new ?_ ?_)<;>intro hc hz<;>(try simp only[Aj]at hz)<;>try rewrite [hc])
end Go.CE
namespace Go.CE
open Go Go.Ps Go.Proofs.YtacpdfjcepkgcaaGreatDoor
theorem Yc:∀ {l:List AV},l.all Yz=true→eqAL l l=true
 |[],_=>rfl
 |a::r,h=>by
  rw[List.all_cons,I2]at h
  show fB (eqA0 a a) (eqAL r r) false=true
  rw[Yd h.1];exact Yc h.2
theorem eqag {l:List AV} {x y:Bool} (hx:x=true) (h:l.all Yz=true:=by exact rfl):fB (eqA (.ag l) (.ag l)) x y=true:=by
 have e:eqA (.ag l) (.ag l)=true:=Yc h
 rw[e];exact hx
attribute [local irreducible] loopK Tt Ai K0 N2 Dg fits rd rd1 wr newC Kj Fk Fa Ve Oe Kq eqA
structure CC where
 v:AV
 s:List (List Nat)
 X:List Av
def Ye (c:CC):List AV:=[c.v]
theorem Rh (c:CC):(Ye c).length=1:=rfl
def CC.ok (c:CC):Prop:=ExA 1 9 R9 c.v c.s c.X∧(∀x∈c.s,∀y∈x,y≤255)
def CC.w (c:CC):Nat:=(c.s.map (·.length+1)).sum
def Wj (t:T5):Nat:=if t.k=8∨t.k=9 then 0 else 1
theorem Vb:∀(d:Bool) (l:List T5),(Fv d l).length=(l.map Wj).sum
 |_,[]=>rfl
 |d,t::r=>by
  rw[D5,List.sum_cons]
  unfold Fv
  by_cases h:t.k=8∨t.k=9
  · rw[if_pos h,show Wj t=0 from if_pos h,Vb true r,Bf]
  · rw[if_neg h,show Wj t=1 from if_neg h,Cq,Vb false r,Nat.add_comm]
theorem N6 {α:Type} {f:α→Nat} {l:List α} {i:Nat} (h:i<l.length):((l.take (i+1)).map f).sum=((l.take i).map f).sum+f l[i]:=by
 rw[Lz h,Eo,List.sum_append];simp
theorem Ru {α:Type} {f:α→Nat} (l:List α) (i:Nat):((l.take i).map f).sum≤(l.map f).sum:=by
 have:=congrArg (fun l:List α=>(l.map f).sum) (List.take_append_drop i l)
 simp only[Eo,List.sum_append]at this
 omega
theorem set_sum {C:List CC} {a:Nat} {c:CC} (h:a<C.length):((C.set a c).map CC.w).sum+C[a].w=(C.map CC.w).sum+c.w:=by
 induction C generalizing a with
 |nil=>simp at h
 |cons x r ih=>
  cases a with
  |zero=>simp only[List.set_cons_zero,D5,List.sum_cons,List.getElem_cons_zero];omega
  |succ a=>
   have:=ih (a:=a) (by simpa using h)
   simp only[List.set_cons_succ,D5,List.sum_cons,List.getElem_cons_succ];omega
theorem w_le {C:List CC} {c:CC}:c∈C→c.w≤(C.map CC.w).sum:=by
 induction C with
 |nil=>intro h;cases h
 |cons x r ih=>
  intro h
  rw[D5,List.sum_cons]
  rcases Bo.1 h with rfl|h
  · omega
  · have:=ih h;omega
theorem fm_split {C:List CC} {a:Nat} (h:a<C.length):(C.flatMap CC.X).Perm (C[a].X++((C.take a).flatMap CC.X++(C.drop (a+1)).flatMap CC.X)):=by
 have e:C=C.take a++C[a]::C.drop (a+1):=by rw[←Ly h,List.take_append_drop]
 have e2:C.flatMap CC.X=(C.take a).flatMap CC.X++(C[a].X++(C.drop (a+1)).flatMap CC.X):=(congrArg (List.flatMap CC.X) e).trans (by rw[Fx,Fi])
 rw[e2]
 exact List.perm_append_comm_assoc _ _ _
theorem fm_set {C:List CC} {a:Nat} {c:CC} (h:a<C.length):((C.set a c).flatMap CC.X).Perm (c.X++((C.take a).flatMap CC.X++(C.drop (a+1)).flatMap CC.X)):=by
 have:=fm_split (C:=C.set a c) (a:=a) (by rw[E8];exact h)
 rw[List.getElem_set_self,List.take_set_of_le (Ag _),List.drop_set_of_lt (Nat.lt_succ_self _)]at this
 exact this
def nrE (rp cp:Pos) (bl:AV) (z:Nat→Int) (b:Nat→Bool) (C:List CC):List Av:=[(rp,.row (bl::.sl cp 0 C.length (.k C.length)::Pn z b) 164),(cp,.row (C.flatMap Ye) 45)]
def nrL (q1 q2:Pos) (t:T5) (L:List Av):List Av:=(q1,.row [.s t.x] 9)::(q2,.row (Jh t) 29)::L
theorem cc_perm {C:List CC} {a:Nat} {c:CC} {ha:a<C.length} (hc:C[a]=c) {A:List Av}:(C.flatMap CC.X++A).Perm (c.X++((C.take a).flatMap CC.X++(C.drop (a+1)).flatMap CC.X++A)):=by
 subst hc
 rw[←A4]
 exact(fm_split ha).append_right A
theorem perm_X6 {C:List CC} {a:Nat} {c:CC} {ha:a<C.length} (hc:C[a]=c) {L A:List Av}:(L++(C.flatMap CC.X++A)).Perm (L++(c.X++((C.take a).flatMap CC.X++(C.drop (a+1)).flatMap CC.X++A))):=(cc_perm hc).append_left L
theorem nr_fin {C:List CC} {a:Nat} {c':CC} (ha:a<C.length) {rp cp:Pos} {lv:AV} {z:Nat→Int} {b:Nat→Bool} {R:List Av} {h:H} {nx:Pos} {e1 e2:Av} (S:Sat h nx (e1::e2::(rp,.row (lv::.sl cp 0 C.length (.k C.length)::Pn z b) 164)::(cp,.row ((C.set a c').flatMap Ye) 45)::(c'.X++((C.take a).flatMap CC.X++(C.drop (a+1)).flatMap CC.X++R)))):Sat h nx (nrE rp cp lv z b (C.set a c')++((C.set a c').flatMap CC.X++R)):=by
 have S:=S.tail.tail
 unfold nrE
 rw[E8]
 refine S.perm (.cons _ (.cons _ ?_))
 have:=(fm_set (c:=c') ha).symm.append_right R
 rw[A4]at this
 exact this
def ccN (c:CC) (p:Pos) (x:List Nat):CC:=⟨.sl p 0 (c.s.length+1) (.u 1),c.s++[x],[(p,.row ((c.s++[x]).flatMap R9) 9)]⟩
theorem ccN_ok {c:CC} {p:Pos} {x:List Nat} (h:c.ok) (hx:∀y∈x,y≤255):(ccN c p x).ok:=by
 refine⟨?_,fun w hw=>?_⟩
 · have:=ExA.row (es:=1) (ty:=9) (f:=R9) p (c.s++[x])
   rw[Bb]at this
   exact this
 · rcases D9.1 hw with hw|hw
   · exact h.2 w hw
   · rw[Co.1 hw];exact hx
theorem ccN_w (c:CC) (p:Pos) (x:List Nat):(ccN c p x).w=c.w+(x.length+1):=by
 unfold ccN CC.w
 rw[Eo,List.sum_append];rfl
def c0:CC:=⟨.sl0,[],[]⟩
theorem rep_w:∀n,((List.replicate n c0).map CC.w).sum=0
 |0=>rfl
 |n+1=>by rw[List.replicate_succ,D5,List.sum_cons,rep_w n];rfl
theorem rep_X:∀n,(List.replicate n c0).flatMap CC.X=[]
 |0=>rfl
 |n+1=>by rw[List.replicate_succ,Fi,rep_X n];rfl
theorem rep_ok (n:Nat):∀c∈List.replicate n c0,c.ok:=fun c hc=>by
 rw[(List.mem_replicate.1 hc).2]
 exact⟨.nil,fun x hx=>by cases hx⟩
theorem nr_ini {n:Nat} {rp cp:Pos} {lv:AV} {z:Nat→Int} {b:Nat→Bool} {R:List Av} {h:H} {nx:Pos} {x:Av} (S:Sat h nx ((cp,.row ((List.replicate n c0).flatMap Ye) 45)::(rp,.row (lv::.sl cp 0 n (.k n)::Pn z b) 164)::x::R)):Sat h nx (nrE rp cp lv z b (List.replicate n c0)++((List.replicate n c0).flatMap CC.X++R)):=by
 rw[rep_X]
 unfold nrE
 rw[Fj]
 exact(S.perm (.swap ..)).sub (.cons_cons _ (.cons_cons _ (.cons _ (.refl _))))
theorem ExA.lst {α:Type} {es ty:Nat} {f:α→List AV} (hf:∀a,(f a).length=es) {lv:AV} {l:List α} {X A:List Av} (h:ExA es ty f lv l X) (hs:∀e∈X,e∈A):Kz es ty f l lv A:=by
 rcases h.inv with⟨rfl,rfl,rfl⟩|⟨p,rfl,rfl⟩
 · exact .inl ⟨rfl,rfl⟩
 · exact .inr ⟨p,0,_,l.flatMap f,rfl,hs _ (Aw ..),by rw[List.drop_zero];exact Et (by rw[Az hf];exact Ag _),by rw[Az hf];omega⟩
theorem gr_cases {α:Type} {f:α→List AV} {es ty:Nat} (hf:∀a,(f a).length=es) (hes:0<es) {l:List α} {lv:AV} {X:List Av} (G:GrA es ty lv (l.flatMap f) X):(∃p LL,lv=.sl p 0 l.length (.u es)∧X=[(p,OB.row LL ty)]∧LL.take (l.length*es)=l.flatMap f∧l.length*es≤LL.length)∨lv=.sl0∧l=[]∧X=[]:=by
 rcases G.inv with⟨h1,h2,h3⟩|⟨p,n,LL,h1,h2,h3,h4⟩
 · exact .inr ⟨h1,Dh hf hes h2,h3⟩
 · have e:=El (off:=0) hf hes h2 (by omega)
   subst e
   exact .inl ⟨p,LL,h1,h4,h2,h3⟩
theorem sum_mem {l:List T5} {t:T5}:t∈l→t.x.length≤(l.map (·.x.length)).sum:=by
 induction l with
 |nil=>intro h;cases h
 |cons a r ih=>
  intro h
  rw[D5,List.sum_cons]
  rcases Bo.1 h with rfl|h
  · omega
  · have:=ih h;omega
theorem newRun_ok {n:Nat} (hn:1000100≤n) {av:AV} {T:List T5} {A:List Av} (hl:Kz 5 29 Jh T av A) (hle:T.length≤20000) (hs:(T.map (·.x.length)).sum≤20000) (hb:∀t∈T,∀x∈t.x,x≤255) {z:Nat→Int} {b:Nat→Bool} (hz1:0≤z 1∧z 1≤16) (hz2:0≤z 2∧z 2≤16) {kp:KP} {h:H} {nx:Pos} (S:Sat h nx A) {k:K}
 (hk:∀(R:REnv) X h' nx',R.B=Fv false T→ROK R (X++A)→Sat h' nx' (X++A)→k (.p R.rp 0) h' nx'=true):Ai gg n kp (.fn 27 []) [av,.ag (Pn z b)] h nx k=true:=by
 have hbl:=Ib T false
 have hcb:=Vb false T
 have hl0:=hl
 have hcc:∀ {C:List CC} {rp cp lv X1 h' nx'},C.length=(Fv false T).length→(∀c∈C,c.ok)→(C.map CC.w).sum≤40000→Kz 5 29 Jh (Fv false T) lv X1→Sat h' nx' (nrE rp cp lv z b C++(C.flatMap CC.X++(X1++A)))→k (.p rp 0) h' nx'=true:=by
  intro C rp cp lv X1 h' nx' hC hco hCw hL S
  have hbt:∀t∈Fv false T,t.x.length≤20000∧∀y∈t.x,y≤255:=fun t ht=>by
   obtain⟨u,h1,h2,h3⟩:=M8 T false t ht
   rw[h3]
   exact⟨Cr (sum_mem h1) hs,hb u h1⟩
  have hS:nrE rp cp lv z b C++(C.flatMap CC.X++(X1++A))=(nrE rp cp lv z b C++(C.flatMap CC.X++X1))++A:=by simp only[A4]
  rw[hS]at S
  refine hk ⟨rp,lv,Fv false T,cp,C.map fun c=>(c.v,c.s),z,b⟩ _ _ _ rfl ⟨?_,?_,?_,?_,?_,?_,?_,by show(Fv false T).length≤_;omega,hbt,hz1,hz2⟩ S
  · show(rp,OB.row (lv::.sl cp 0 (C.map fun c=>(c.v,c.s)).length (.k (C.map fun c=>(c.v,c.s)).length)::Pn z b) 164)∈_
    rw[Ct];unfold nrE;simp
  · have e:(C.map fun c=>(c.v,c.s)).flatMap encCm=C.flatMap Ye:=by rw[List.flatMap_map];rfl
    show(cp,OB.row ((C.map fun c=>(c.v,c.s)).flatMap encCm) 45)∈_
    rw[e];unfold nrE;simp
  · exact hL.mono fun e he=>B7 _ (A3 _ (A3 _ he))
  · exact(Ct ..).trans hC
  · intro i c hi
    have hi:(C.map fun c=>(c.v,c.s))[i]?=some c:=hi
    rw[G5]at hi
    obtain⟨d,hd,rfl⟩:=Option.map_eq_some_iff.1 hi
    have hm:=Gm hd
    exact(hco d hm).1.lst K9 fun e he=>B7 _ (A3 _ (B7 _ (List.mem_flatMap.2 ⟨d,hm,he⟩)))
  · intro c hc
    obtain⟨d,hd,rfl⟩:=Dz.1 hc
    exact Cr (w_le hd) hCw
  · intro c hc
    obtain⟨d,hd,rfl⟩:=Dz.1 hc
    exact(hco d hd).2
 have hwc:∀(C:List CC) (c:CC),c∈C→c.s.length≤(C.map CC.w).sum:=fun C c hc=>by
  refine Cr ?_ (w_le hc)
  unfold CC.w
  generalize c.s=l
  induction l with
  |nil=>exact Ag _
  |cons a r ih=>rw[D5,List.sum_cons,Cq];omega
 have hws:∀i,((T.take i).map fun t=>t.x.length+1).sum≤40000:=fun i=>by
  refine Cr (Ru T i) ?_
  have:∀l:List T5,(l.map fun t=>t.x.length+1).sum=(l.map (·.x.length)).sum+l.length:=fun l=>by
   induction l with
   |nil=>rfl
   |cons a r ih=>rw[D5,List.sum_cons,ih,D5,List.sum_cons,Cq];omega
  rw[this];omega
 refine Ab hn (by omega) fun m hm=>?_
 rcases hl with⟨rfl,rfl⟩|⟨p,off,cap,LL,rfl,hp,h1,h2⟩
 all_goals
  repeat' ((conv=>lhs;whnf);first
   |exact(by omega:False).elim
   |(refine Aaw (by omega) (hl0.mono fun e he=>Am _ he) (by omega) ‹_› (fun lv X1 h' rp G S=>?_)
     have hL1:=G.lst C7 (by omega) (A:=X1) (fun e he=>he)
     replace S:=S.perm Fh
     obtain⟨lv0,hlv0⟩:∃l,l=lv:=⟨_,rfl⟩
     obtain⟨X0,hX0⟩:∃l,l=X1:=⟨_,rfl⟩
     rw[←hlv0,←hX0]at hL1
     rcases gr_cases C7 (by decide) G with⟨p1,L1,rfl,rfl,e1,e2⟩|⟨rfl,e3,rfl⟩)
   |refine eqag ?_
   |refine Bq (y:=false) (show(Fv false T).length*24≤1000000000 by omega) ?_
   |refine Bq (y:=false) (show(Fv false T).length≤1000000000 by omega) ?_
   |refine Ek Ye Rh (by decide) c0 ‹_› rfl rfl (fun h' S=>?_)
   |(refine Br (L:=[5,6,23,24,25]) rfl (fun m vs d' h' nx2=>Sat h' nx2 (nrE rp (Ad rp) lv0 z b (List.replicate 0 c0)++((List.replicate 0 c0).flatMap CC.X++(X0++A)))∧d'=[]∧vs=[.p rp 0,.i .i64 (-1),.sl0,.i .i64 0,.i .i64 0]) 0 (by omega) ⟨by rw[hlv0,hX0];exact nr_ini ‹_›,rfl,rfl⟩ ?_
     rintro m _ d' h' nx2 ⟨S,rfl,rfl⟩ k' hn' hx)
   |exact hcc (C:=[]) rfl (fun c hc=>by cases hc) (B9 _) hL1 S
   |(refine Br (L:=[5,6,23,24,25]) rfl (fun m vs d' h' nx2=>∃(i:Nat) (C:List CC) (za:Int),i≤T.length∧T.length-i=m∧C.length=(Fv false T).length∧za+1=Int.ofNat ((T.take i).map Wj).sum∧(∀c∈C,c.ok)∧(C.map CC.w).sum≤((T.take i).map fun t=>t.x.length+1).sum∧Sat h' nx2 (nrE rp (Ad rp) lv0 z b C++(C.flatMap CC.X++(X0++A)))∧d'=[]∧vs=[.p rp 0,.i .i64 za,.sl p off T.length cap,.i .i64 (Int.ofNat T.length),.i .i64 (.ofNat i)]) T.length (by omega) ⟨0,List.replicate (Fv false T).length c0,-1,by omega,rfl,Fj,rfl,rep_ok _,by rw[rep_w];exact B9 _,by first|(rw[hlv0,hX0];exact nr_ini ‹_›)|(rw[hlv0,hX0,e3];exact nr_ini ‹_›),rfl,rfl⟩ ?_
     rintro m _ d' h' nx2 ⟨i,C,za,hi,rfl,hC,hza,hco,hw,S,rfl,rfl⟩ k' hn' hx)
   |(refine Gl C7 ‹_› (A3 _ (A3 _ (A3 _ hp))) h1 h2 (by decide) i (by omega) rfl ?_
     have hil:i<T.length:=by omega
     obtain⟨t,ht⟩:∃t,T[i]=t:=⟨_,rfl⟩
     have hwt:=N6 (f:=fun t:T5=>t.x.length+1) hil
     have hct:=N6 (f:=Wj) hil
     have hcl:=Ru (f:=Wj) T (i+1)
     have hbt:=hb t (ht▸D8 hil)
     rw[ht]at hwt hct ⊢)
   |refine Be fun h' S=>?_
   |refine Au ‹_› 0 rfl (Aa rfl) rfl (fun h' S=>?_)
   |refine Ae ‹_› 0 rfl (Aa rfl) ?_
   |refine A5 ‹_› (.tail _ (Aw ..)) (Aa rfl) ?_
   |refine Bc ?_
   |refine Aq ?_ hca
   |(have hca:za.toNat<C.length:=by simp only[Aj]at *;omega
     obtain⟨c,hce⟩:∃c,C[za.toNat]=c:=⟨_,rfl⟩
     have hci:C[za.toNat]?=some c:=by rw[B8 hca,hce]
     have hcm:=hco c (hce▸D8 hca)
     refine Aq ?_ hca)
   |refine Id Rh ‹_› (.tail _ (.tail _ (Aw ..))) za.toNat 0 hci (by decide) (Bf _) ?_
   |refine zk1 ?_
   |refine A6 ‹_› (.row [.s t.x] 9) (Xy _ 9) (fun h' S=>?_)
   |refine Bv (by(try simp only[Aj]at *);omega) ?_
   |refine Ic Rh ‹_› 3 rfl za.toNat hca (ccN c pn t.x) (Bf _) rfl rfl (fun h' S=>?_)
   |exact hn' _ _ _ _ _ (by omega) ⟨i+1,C.set za.toNat (ccN c pn t.x),za,by omega,rfl,by rw[E8];exact hC,by rw[hct,show Wj t=0 from if_pos (.inl ‹_›)];exact hza,fun d hd=>(List.mem_or_eq_of_mem_set hd).elim (hco d) (fun e=>e▸ccN_ok hcm hbt),by have:=set_sum (c:=ccN c pn t.x) hca;rw[hce,ccN_w]at this;omega,nr_fin hca ‹_›,rfl,rfl⟩
   |exact hn' _ _ _ _ _ (by omega) ⟨i+1,C,za,by omega,rfl,hC,by rw[hct,show Wj t=0 from if_pos (.inl ‹_›)];exact hza,hco,by omega,Sat.tail ‹_›,rfl,rfl⟩
   |exact hn' _ _ _ _ _ (by omega) ⟨i+1,C,za,by omega,rfl,hC,by rw[hct,show Wj t=0 from if_pos (.inr ‹_›)];exact hza,hco,by omega,Sat.tail ‹_›,rfl,rfl⟩
   |exact hn' _ _ _ _ _ (by omega) ⟨i+1,C,za+1,by omega,rfl,hC,by rw[hct,show Wj t=1 from if_neg (fun h=>h.elim ‹_› ‹_›)];simp only[Aj]at *;omega,hco,by omega,Sat.tail ‹_›,rfl,rfl⟩
   |(refine hx _ _ _ _ _ trivial ?_)
   |exact hcc hC hco (Cr hw (hws _)) hL1 S
   |(refine Jd (te:=ti9) K9 (nrL (Ad nx2) nx2 t (nrE rp (Ad rp) lv0 z b C)) t.x (A:=(C.take za.toNat).flatMap CC.X++(C.drop (za.toNat+1)).flatMap CC.X++(X0++A)) (Sat.perm ‹_› (perm_X6 hce)) hcm.1 rfl rfl (by have:=hwc C c (hce▸D8 hca);have:=hws i;omega) (fun h' pn S=>?_))
   |(refine Cu (fun hc hz=>?_) (fun hc hz=>?_)<;>try rewrite [hc])
   |(refine Dt (fun hc hz=>?_) (fun hc hz=>?_)<;>(try simp only[Aj]at hz)<;>try rewrite [hc])
   |(refine C4 (fun hc hz=>?_) (fun hc hz=>?_)<;>(try simp only[Aj]at hz)<;>try rewrite [hc])
   |contradiction
   |refine Be fun h' S=>?_
   |refine C8 fun h' S=>?_
   |refine Bj ?_
   |refine C9 ?_
   |refine Bi ?_
   |refine seqt ?_
   |refine Bg ?_
   |refine Bc ?_
   |refine Aq ?_
   |refine Ar ?_
   |refine Bh ?_
   |(first|refine C4 ?_ ?_|refine Dt ?_ ?_|refine Cu ?_ ?_|refine new ?_ ?_)<;>intro hc hz<;>(try simp only[Aj]at hz)<;>try rewrite [hc])
end Go.CE
