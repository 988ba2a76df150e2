/- Part 39 of the lemmas behind the claim. -/
import Derived.Test.YtacpdfjcepkgcaaGreatDoorZA01
import Derived.Test.YtacpdfjcepkgcaaGreatDoorZA38
import Derived.Test.YtacpdfjcepkgcaaGreatDoorZA37
set_option linter.unusedSimpArgs false
set_option linter.unusedVariables false
set_option linter.constructorNameAsVariable false
set_option linter.unusedSectionVars false
set_option linter.defProp false
set_option maxRecDepth 100000
set_option maxHeartbeats 40000000
namespace Go.CE
open Go Go.Ps Go.Proofs.YtacpdfjcepkgcaaGreatDoor
attribute [local irreducible] loopK Tt Ai K0 N2 Dg fits rd rd1 wr newC Kj Fk Fa Ve Oe
def Ox (b:Nat):List AV:=[.i .u8 (Int.ofNat b)]
theorem H9 (b:Nat):(Ox b).length=1:=rfl
theorem U9 (k:List Nat→Bool):∀(l:List Nat),(∀x∈l,x≤255)→M6 (l.flatMap Ox) k=k l:=by
 intro l
 induction l generalizing k with
 |nil=>intro _;rfl
 |cons x r ih=>
  intro h
  show fB (Nat.ble x 255) (M6 (r.flatMap Ox) fun r=>k (x::r)) false=_
  rw[ih _ fun y hy=>h y (Am _ hy),Kc (h x (Aw ..))]
  rfl
theorem conv_w {bs:List Nat} {h:H} {nx:Pos} {A:List Av} {p:Pos} {n ty:Nat} {x:Bool} {k:List Nat→Bool} (S:Sat h nx A) (hi:(p,OB.row (bs.flatMap Ox) ty)∈A) (hb:∀x∈bs,x≤255) (hn:n=bs.length) (hx:x=k []) (hk:k bs=true):fB (Nat.beq n 0) x (rd h p 0 n fun l=>M6 l k)=true:=by
 subst hn
 refine neqw (fun hc hz=>?_) (fun hc hz=>?_)
 · have:=O4 hz
   subst this
   rw[hx];exact hk
 · obtain⟨i,hi⟩:=Ih.1 hi
   refine Da S i hi (by rw[Az H9];omega) ?_
   rw[List.drop_zero,Et (by rw[Az H9];omega),U9 k bs hb]
   exact hk
theorem sla_lst {α:Type} {es ty:Nat} {f:α→List AV} (hf:∀a,(f a).length=es) (hes:0<es) {l:List α} {av:AV} {X A:List Av} (h:SlA es ty av (l.flatMap f) X) (hs:∀e∈X,e∈A):Kz es ty f l av A:=by
 rcases h.inv with⟨rfl,h2,rfl⟩|⟨p,off,n,cap,LL,rfl,h2,h3,rfl⟩
 · exact .inl ⟨Dh hf hes h2,rfl⟩
 · have:=El hf hes h2 h3
   subst this
   exact .inr ⟨p,off,cap,LL,rfl,hs _ (by simp),h2,h3⟩
def stepI (l:List Nat) (p:Int) (a:List AV) (p':Int):Prop:=∃kd f t e:Int,a=[.ag [.i .i64 kd,.i .i64 f,.i .i64 t],.i .i64 e]∧(e=0∧0≤p∧p≤f∧f<t∧t≤l.length∧p'=t∨e≠0∧p'=p)
theorem items_g {l:List Nat} (hs:l.length≤100000) (b:Pos) {z:Int}:ItG 2000020 (.fn 50 [.p b 0]) (stepI l) (fun _:Int=>True) 0 [(b,.row [.s l] 9),(Ay 2,.raw (R5 z))]:=by
 intro dd0 n hn hdd lp kp h nx k A J X hO S h0 hy hk
 refine Xv (z:=z) (d:=dd0) hn hdd hs (fun p st A=>0≤p∧∃q,0≤q∧q≤p∧J q A) (fun A=>(∃q,J q A)∨X A) (fun p st A ⟨_,q,_,_,hJ⟩=>⟨hO _ _ hJ _ (by simp),hO _ _ hJ _ (by simp)⟩) (fun _ _=>trivial) S ⟨by omega,0,by omega,by omega,h0⟩ (fun p st A h1 h2 ⟨h3,q,h4,h5,hJ⟩ _=>⟨by omega,q,h4,by omega,hJ⟩) ?_ ?_
 · rintro p st A F h nx' n k kd f t e hn2 hp1 hp2 ⟨_,q,h4,h5,hJ⟩ S hw hb he hk1 hk2
   refine hy q _ (if e=0 then t else q) A F h nx' n k ⟨kd,f,t,e,rfl,?_⟩ hn2 hJ S (fun A' h' nx' hJ S=>hk1 A' h' nx' (fun h0 st'=>?_) (fun h0=>.inl ⟨_,hJ⟩) S) (fun A' h' nx' hX S=>hk2 A' h' nx' (.inr hX) S)
   · rcases hb with⟨rfl,hb1,hb2,hb3⟩|⟨hb1,hb2⟩
     · exact .inl ⟨rfl,by omega,by omega,by omega,hb3,if_pos rfl⟩
     · exact .inr ⟨hb1,if_neg hb1⟩
   · rw[if_pos h0]at hJ
     have:0≤t:=by omega
     exact⟨this,t,this,Int.le_refl _,hJ⟩
 · rintro A h nx' (⟨p,st,_,_,q,_,_,hJ⟩|⟨q,hJ⟩|hX) S
   · exact hk A h nx' (.inl ⟨q,trivial,hJ⟩) S
   · exact hk A h nx' (.inl ⟨q,trivial,hJ⟩) S
   · exact hk A h nx' (.inr hX) S
theorem gr_pushF {lv:AV} {fl:List AV} {X A F:List Av} (L:List Av) {h:H} {nx:Pos} {e n b:Nat} {te:GV.TI} {vs:List AV} {k:K} (S:Sat h nx ((L++(X++A))++F)) (G:GrA te.sz e lv fl X) (hz:0<te.sz) (ho:Gt vs=true) (hv:vs.length=n*te.sz) (hn1:0<n) (c:Nat) (hc:fl.length≤c*te.sz)
 (hn:(c+n) * (b+1)≤1000000000) (hk:∀h' p m LL,GrA te.sz e (.sl p 0 m (.u te.sz)) (fl++vs) [(p,.row LL e)]→Sat h' (Ad nx) ((L++((p,.row LL e)::A))++F)→k (.sl p 0 m (.u te.sz)) h' (Ad nx)=true):Ve e te b n vs lv h nx k=true:=by
 rw[A4,A4]at S
 refine S7 L S G hz ho hv c hc hn fun h' X' lv' G' S'=>?_
 rcases G'.inv with⟨rfl,h2,rfl⟩|⟨p,m,LL,rfl,h2,h3,rfl⟩
 · have:=congrArg List.length h2
   rw[Bb,hv]at this
   have:0<n*te.sz:=Nat.mul_pos hn1 hz
   have:([]:List AV).length=0:=rfl
   omega
 · exact hk h' p m LL G' (by rw[A4];exact S')
theorem Fe {α:Type} {es ty:Nat} {f:α→List AV} (hf:∀a,(f a).length=es) {l:List α} {h:H} {nx:Pos} {A:List Av} (S:Sat h nx A) {p:Pos} {off:Nat} {LL:List AV} (hp:(p,OB.row LL ty)∈A)
 (h1:(LL.drop off).take (l.length*es)=l.flatMap f) (h2:off+l.length*es≤LL.length) (i j:Nat) (hi:i<l.length) (hj:j<es) {o:Nat} (ho:o=off+i*es+j) {k:AV→Bool} (hk:k ((f l[i]).getD j .x)=true):rd1 h p o k=true:=by
 subst ho
 have:i*es+es≤l.length*es:=by rw[←Nat.succ_mul];exact Kb _ hi
 refine A5 S hp (by omega) ?_
 have e:=congrArg (fun L:List AV=>L.getD (i*es+j) .x) h1
 rw[J6 hf l i j hi hj,A0,Jk,if_pos (by omega),List.getElem?_drop,←A0,←Er]at e
 rw[e];exact hk
theorem sla_ones {es ty:Nat} {lv:AV} {fl:List AV} {X:List Av} (G:GrA es ty lv fl X):lv=.sl0∨∃p o n c,lv=.sl p o n c:=by
 rcases G.inv with⟨rfl,_⟩|⟨p,n,LL,rfl,_⟩
 · exact .inl rfl
 · exact .inr ⟨_,_,_,_,rfl⟩
structure TokL (l:List Nat) (L:List T5):Prop where
 n:L.length≤l.length
 s:(L.map (·.x.length)).sum≤l.length
 b:∀t∈L,∀x∈t.x,x≤255
theorem scan_eq {n:Nat} (hn:2000060≤n) {l:List Nat} (hx:∀x∈l,x≤255) {z:Int} {A:List Av} (hG:(Ay 2,OB.raw (R5 z))∈A) {kp:KP} {h:H} {nx:Pos} (S:Sat h nx A) {k:K}
 (hk1:∀e h' nx',e≠0→Sat h' nx' A→k (.tu [.sl0,.i .i64 e]) h' nx'=true)
 (hk2:∀L lv X h' nx',l.length≤65536→TokL l L→GrA 5 29 lv (L.flatMap Jh) X→Sat h' nx' (X++A)→k (.tu [lv,.i .i64 0]) h' nx'=true):Ai gg n kp (.fn 6 []) [.s l] h nx k=true:=by
 refine Ab hn (by omega) fun m hm=>?_
 repeat' ((conv=>lhs;whnf);first
  |exact hk1 _ _ _ ‹_› (Sat.right (C:=[_,_,_]) ‹_›)
  |exact absurd rfl ‹_›
  |(refine chars_eq (by omega) hx ‹_› (fun e h' nx' he S=>?_) (fun L q c LL h' nx' hL1 hL2 hL3 hL4 hL5 S=>?_))
  |refine Ek Ox H9 (by omega) 0 ‹_› rfl rfl (fun h' S=>?_)
  |refine Bq (y:=false) (show L.length*1≤1000000000 by omega) ?_
  |contradiction
  |refine Be fun h' S=>?_
  |refine C8 fun h' S=>?_
  |refine Bj ?_
  |refine C9 ?_
  |refine Bi ?_
  |refine seqt ?_
  |refine Bg ?_
  |refine Bc ?_
  |refine Aq ?_
  |refine Ar ?_
  |refine Bh ?_
  |(first|refine C4 ?_ ?_|refine Dt ?_ ?_|refine Cu ?_ ?_|refine new ?_ ?_)<;>intro hc hz<;>(try simp only[Aj]at hz)<;>try rewrite [hc])
 conv=>lhs;whnf
 refine Br (L:=[2,3,4,6,26,27,28]) rfl (fun m vs d' h'' nx''=>∃(i:Nat),i+m=L.length∧Sat h'' nx'' ((Ad nx',.row (((L.take i).map C3.b++List.replicate (L.length-i) 0).flatMap Ox) 5)::(nx',.row [.sl q 0 L.length (.k c)] 73)::(q,.row LL 78)::(Ad nx,.row [.i .i64 0] 25)::(nx,.row [.sl0] 30)::A)∧d'=[]∧vs=[.p nx 0,.p (Ad nx) 0,.p nx' 0,.sl (Ad nx') 0 L.length (.k L.length),.sl q 0 L.length (.k c),.i .i64 (.ofNat L.length),.i .i64 (.ofNat i)]) L.length (by omega) ⟨0,by omega,by assumption,rfl,rfl⟩ ?_
 rintro m _ d' h'' nx'' ⟨i,hi,S0,rfl,rfl⟩ k' hn' hx'
 repeat' ((conv=>lhs;whnf);first
  |(refine hn' _ _ _ _ (m-1) (by(try simp only[Aj]at *);omega) ⟨i+1,(by(try simp only[Aj]at *);omega),?_,rfl,rfl⟩
    have S9:=Sat.right (C:=[_]) ‹_›
    rw[←hic,map_step (f:=C3.b) hil]at S9
    exact S9)
  |(refine Gl Ix ‹_› (ty:=78) (LL:=LL) (by simp) hL4 hL5 (by omega) i (Int.ofNat_lt.1 hz) rfl ?_
    have hil:=Int.ofNat_lt.1 hz
    obtain⟨c,hic⟩:∃c,L[i]'hil=c:=⟨_,rfl⟩
    rw[hic])
  |refine Ic H9 ‹_› 1 rfl i (by rw[Bb,Ct,Ci,Fj];omega) c.b (Bf _) rfl rfl (fun h' S=>?_)
  |refine A6 ‹_› (.row _ 78) (hol_3 _ _ _ 78) (fun h' S=>?_)
  |contradiction
  |refine Be fun h' S=>?_
  |refine C8 fun h' S=>?_
  |refine Bj ?_
  |refine C9 ?_
  |refine Bi ?_
  |refine seqt ?_
  |refine Bg ?_
  |refine Bc ?_
  |refine Aq ?_
  |refine Ar ?_
  |refine Bh ?_
  |(first|refine C4 ?_ ?_|refine Dt ?_ ?_|refine Cu ?_ ?_|refine new ?_ ?_)<;>intro hc hz<;>(try simp only[Aj]at hz)<;>try rewrite [hc])
 conv=>lhs;whnf
 refine hx' _ _ _ _ _ trivial ?_
 have hLi:L.length≤i:=(by(try simp only[Aj]at *);omega)
 rw[Et hLi,Nat.sub_eq_zero_of_le hLi,List.replicate_zero,Bp]at S0
 clear hn' hx'
 obtain⟨bs,hbs⟩:∃bs,L.map C3.b=bs:=⟨_,rfl⟩
 have hbl:bs.length=L.length:=by rw[←hbs,Ct]
 have hb255:∀x∈bs,x≤255:=fun x hxx=>by
  rw[←hbs]at hxx
  obtain⟨c,hc,rfl⟩:=Dz.1 hxx
  exact(hL3 c hc).1
 rw[hbs]at S0
 repeat' ((conv=>lhs;whnf);first
  |refine Uo (by omega) ‹_› (fun h' S=>?_)
  |refine conv_w ‹_› (Aw ..) hb255 hbl.symm rfl ?_
  |contradiction
  |refine Be fun h' S=>?_
  |refine C8 fun h' S=>?_
  |refine Bj ?_
  |refine C9 ?_
  |refine Bi ?_
  |refine seqt ?_
  |refine Bg ?_
  |refine Bc ?_
  |refine Aq ?_
  |refine Ar ?_
  |refine Bh ?_
  |(first|refine C4 ?_ ?_|refine Dt ?_ ?_|refine Cu ?_ ?_|refine new ?_ ?_)<;>intro hc hz<;>(try simp only[Aj]at hz)<;>try rewrite [hc])
 refine Ea 1000000 (items_g (l:=bs) (z:=z) (by omega) _) (fun _=>rfl) (fun _=>rfl) ‹_› (by omega) (by omega)
  (fun p A'=>∃(acc:List T5) (lv:AV) (X:List Av),0≤p∧p≤bs.length∧acc.length≤p∧((acc.map (·.x.length)).sum:Nat)≤p∧(∀t∈acc,∀x∈t.x,x≤255)∧GrA 5 29 lv (acc.flatMap Jh) X ∧
    A'=(Ad (Ad (Ad nx'')),.row [.s bs] 9)::(Ad (Ad nx''),.row [.i .i64 p] 3)::(Ad nx'',.row [lv] 30)::(nx'',.row [.s bs] 9)::(Ad nx',.row (bs.flatMap Ox) 5)::(nx',.row [.sl q 0 L.length (.k c)] 73)::(q,.row LL 78)::(Ad nx,.row [.i .i64 0] 25)::(nx,.row [.sl0] 30)::(X++A))
  (fun e A'=>e=.rt∧∃(z:Int) (lv:AV) (p:Int) (X:List Av),z≠0 ∧
    A'=(Ad (Ad (Ad nx'')),.row [.s bs] 9)::(Ad (Ad nx''),.row [.i .i64 p] 3)::(Ad nx'',.row [lv] 30)::(nx'',.row [.s bs] 9)::(Ad nx',.row (bs.flatMap Ox) 5)::(nx',.row [.sl q 0 L.length (.k c)] 73)::(q,.row LL 78)::(Ad nx,.row [.i .i64 z] 25)::(nx,.row [.sl0] 30)::(X++A))
  (fun A'=>⟨fun c=>Ex.noConfusion c.1,fun _ c=>Ex.noConfusion c.1⟩) (by rintro p A' ⟨acc,lv,X,_,_,_,_,_,_,rfl⟩;simp[hG]) ⟨[],.sl0,[],by omega,by omega,by simp,by simp,(fun t ht=>nomatch ht),.nil,rfl⟩ ?_ ?_ ?_
 · rintro p _ p' _ F1 F2 m lp mid K2 h nx2 ⟨kd,f,t,e,rfl,hst⟩ hm2 ⟨acc,lv,X,hp0,hp1,hp2,hp3,hp4,G,rfl⟩ S hmid hn1 hx1
   repeat' ((conv=>lhs;whnf);first
    |refine hmid (_::_::_::_::_::_::_::_::_::_::(X++A)) _ _ _ ‹_› (fun h' S=>?_)
    |exact hx1 _ _ _ _ ⟨rfl,e,lv,p,X,by assumption,rfl⟩ (Sat.right (C:=[_]) ‹_›)
    |(refine Gl Ix ‹_› (ty:=78) (LL:=LL) (by simp) hL4 hL5 (by omega) (t-1).toNat (by omega) rfl ?_
      obtain⟨c1,hc1⟩:∃c1,L[(t-1).toNat]'(by omega)=c1:=⟨_,rfl⟩
      have hcb:=hL3 c1 (hc1▸D8 _)
      rw[hc1])
    |refine Fe Ix ‹_› (ty:=78) (LL:=LL) (by simp) hL4 hL5 f.toNat 1 (by omega) (by omega) rfl ?_
    |refine zk1 ?_
    |refine A6 ‹_› (.row _ 29) (hold_5 _ _ _ _ _ 29) (fun h' S=>?_)
    |(refine gr_pushF [_,_,_,_,_,_,_,_,_,_,_,_] ‹_› G (by decide) rfl rfl (by omega) acc.length (by rw[Az C7];exact Ag _) (by omega) (fun h' p2 m2 LL2 G2 S=>?_))
    |contradiction
    |refine Be fun h' S=>?_
    |refine C8 fun h' S=>?_
    |refine Bj ?_
    |refine C9 ?_
    |refine Bi ?_
    |refine seqt ?_
    |refine Bg ?_
    |refine Bc ?_
    |refine Aq ?_
    |refine Ar ?_
    |refine Bh ?_
    |(first|refine C4 ?_ ?_|refine Dt ?_ ?_|refine Cu ?_ ?_|refine new ?_ ?_)<;>intro hc hz<;>(try simp only[Aj]at hz)<;>try rewrite [hc])
   conv=>lhs;whnf
   have hst2:0≤p∧p≤f∧f<t∧t≤bs.length∧p'=t:=by omega
   obtain⟨q1,q2,q3,q4,rfl⟩:=hst2
   have hfl:f.toNat<L.length:=by omega
   refine hn1 _ _ _ ⟨acc++[⟨kd,List.take (p'.toNat.sub f.toNat) (List.drop f.toNat bs),(L[f.toNat]'hfl).a,c1.a+c1.n,fB (K0 f p) false true⟩],_,_,by omega,q4,by rw[Bb];show((acc.length+1:Nat):Int)≤_;omega,?_,?_,by rw[Fx];exact G2,rfl⟩ (Sat.right (C:=[_,_,_]) ‹_›)
   · rw[Eo,List.sum_append]
     have:(List.take (p'.toNat.sub f.toNat) (List.drop f.toNat bs)).length≤p'.toNat-f.toNat:=List.length_take_le ..
     show(((acc.map (·.x.length)).sum+((List.take (p'.toNat.sub f.toNat) (List.drop f.toNat bs)).length+0):Nat):Int)≤p'
     omega
   · intro t2 ht2
     rcases D9.1 ht2 with ht2|ht2
     · exact hp4 t2 ht2
     · rw[Co.1 ht2]
       exact fun x hx=>hb255 x (List.mem_of_mem_drop (List.mem_of_mem_take hx))
 · rintro p A' h nx2 - ⟨acc,lv,X,hp0,hp1,hp2,hp3,hp4,G,rfl⟩ S
   have hS:=sla_ones G
   rcases hS with rfl|⟨p2,o2,n2,c2,rfl⟩
   all_goals
    repeat' ((conv=>lhs;whnf);first
     |refine A1 ‹_› 0 rfl ?_
     |refine Bm ‹_› 0 rfl (fun h' S=>?_)
     |refine hk2 acc _ X _ _ (by omega) ⟨by omega,by omega,hp4⟩ G (Sat.right (C:=[_,_,_,_,_,_,_,_,_]) ‹_›)
     |contradiction
     |refine Be fun h' S=>?_
     |refine C8 fun h' S=>?_
     |refine Bj ?_
     |refine C9 ?_
     |refine Bi ?_
     |refine seqt ?_
     |refine Bg ?_
     |refine Bc ?_
     |refine Aq ?_
     |refine Ar ?_
     |refine Bh ?_)
   all_goals skip
 · rintro e A' h nx2 ⟨rfl,z2,lv,p,X,hz2,rfl⟩ S
   repeat' ((conv=>lhs;whnf);first
    |refine A1 ‹_› 0 rfl ?_
    |refine Bm ‹_› 0 rfl (fun h' S=>?_)
    |exact hk1 _ _ _ hz2 (Sat.right (C:=X) (Sat.right (C:=[_,_,_,_,_,_,_,_,_]) ‹_›))
    |contradiction
    |refine Be fun h' S=>?_
    |refine C8 fun h' S=>?_
    |refine Bj ?_
    |refine C9 ?_
    |refine Bi ?_
    |refine seqt ?_
    |refine Bg ?_
    |refine Bc ?_
    |refine Aq ?_
    |refine Ar ?_
    |refine Bh ?_)
   all_goals skip
theorem mem_g {e:Av} {A:List Av} (h:e∈A):e∈A:=h
theorem one_a {n:Nat} (hn:2000030≤n) {l:List Nat} (hs:l.length≤100000) {z:Int} {A:List Av} {kp:KP} {h:H} {nx:Pos} {k:K} (S:Sat h nx A) (hk:∀(r:Int) (b:Bool) h' nx',Sat h' nx' A→(r,b)=N3 l→k (.tu [.i .i64 r,.b b]) h' nx'=true)
 (hG:(Ay 2,OB.raw (R5 z))∈A:=by simp only[List.set_cons_zero,List.set_cons_succ,Hj,Bo,D9,hG,or_true,true_or]):Ai gg n kp (.fn 74 []) [.s l] h nx k=true:=one_eq hn hs hG S hk
theorem fuses_eq {n:Nat} (hn:2000060≤n) {a b:List Nat} (ha:a.length≤32000) (hb:b.length≤32000) {z:Int} {A:List Av} (hG:(Ay 2,OB.raw (R5 z))∈A) {kp:KP} {h:H} {nx:Pos} (S:Sat h nx A) {k:K}
 (hk:∀(x:Bool) (e:Int) h' nx',Sat h' nx' A→k (.tu [.b x,.i .i64 e]) h' nx'=true):Ai gg n kp (.fn 127 []) [.s a,.s b] h nx k=true:=by
 refine Ab hn (by omega) fun m hm=>?_
 have hab:(a++b).length≤64000:=by rw[Bb];omega
 repeat' ((conv=>lhs;whnf);first
  |refine Uo (by omega) ‹_› (fun h' S=>?_)
  |(refine one_a (l:=a) (z:=z) (by omega) (by omega) ‹_› (fun r1 x1 h' nx1 S _=>?_);cases x1)
  |(refine one_a (l:=b) (z:=z) (by omega) (by omega) ‹_› (fun r2 x2 h' nx2 S _=>?_);cases x2)
  |refine Bq (y:=false) (show a.length+b.length≤1000000 by omega) ?_
  |exact hk _ _ _ _ (Sat.right (C:=[_,_,_,_,_]) ‹_›)
  |exact hk _ _ _ _ (Sat.right (C:=[_,_,_,_,_,_]) ‹_›)
  |contradiction
  |refine Be fun h' S=>?_
  |refine C8 fun h' S=>?_
  |refine Bj ?_
  |refine C9 ?_
  |refine Bi ?_
  |refine seqt ?_
  |refine Bg ?_
  |refine Bc ?_
  |refine Aq ?_
  |refine Ar ?_
  |refine Bh ?_
  |(first|refine C4 ?_ ?_|refine Dt ?_ ?_|refine Cu ?_ ?_|refine new ?_ ?_)<;>intro hc hz<;>(try simp only[Aj]at hz)<;>try rewrite [hc])
 conv=>lhs;whnf
 refine Ea 1000000 (items_g (l:=a++b) (z:=z) (by omega) _) (fun _=>rfl) (fun _=>rfl) ‹_› (by omega) (by omega)
  (fun p A'=>∃cnt:Int,0≤cnt∧cnt≤p∧p≤(a++b).length∧A'=(Ad (Ad nx2),OB.row [.s (a++b)] 9)::(Ad nx2,.row [.i .i64 cnt] 3)::(nx2,.row [.i .i64 r2] 3)::(nx1,.row [.i .i64 r1] 3)::(Ad (Ad (Ad nx)),.row [.i .i64 0] 25)::(Ad (Ad nx),.row [.b false] 4)::(Ad nx,.row [.s b] 9)::(nx,.row [.s a] 9)::A)
  (fun e A'=>e=.rt∧∃(cnt x:Int) (y:Bool),A'=(Ad (Ad nx2),OB.row [.s (a++b)] 9)::(Ad nx2,.row [.i .i64 cnt] 3)::(nx2,.row [.i .i64 r2] 3)::(nx1,.row [.i .i64 r1] 3)::(Ad (Ad (Ad nx)),.row [.i .i64 x] 25)::(Ad (Ad nx),.row [.b y] 4)::(Ad nx,.row [.s b] 9)::(nx,.row [.s a] 9)::A)
  (fun A'=>⟨fun c=>Ex.noConfusion c.1,fun _ c=>Ex.noConfusion c.1⟩) (by rintro p A' ⟨cnt,_,_,_,rfl⟩;simp[hG]) ⟨0,by omega,by omega,by omega,rfl⟩ ?_ ?_ ?_
 · rintro p _ p' _ F1 F2 m lp mid K2 h nx3 ⟨kd,f,t,e,rfl,hst⟩ hm2 ⟨cnt,hp0,hp1,hp2,rfl⟩ S hmid hn1 hx1
   repeat' ((conv=>lhs;whnf);first
    |refine hmid (_::_::_::_::_::_::_::_::_::A) _ _ _ ‹_› (fun h' S=>?_)
    |exact hx1 _ _ _ _ ⟨rfl,_,_,_,rfl⟩ (Sat.right (C:=[_]) ‹_›)
    |exact hn1 _ _ _ ⟨cnt+1,by omega,by omega,by omega,rfl⟩ (Sat.right (C:=[_]) ‹_›)
    |contradiction
    |refine Be fun h' S=>?_
    |refine C8 fun h' S=>?_
    |refine Bj ?_
    |refine C9 ?_
    |refine Bi ?_
    |refine seqt ?_
    |refine Bg ?_
    |refine Bc ?_
    |refine Aq ?_
    |refine Ar ?_
    |refine Bh ?_
    |(first|refine C4 ?_ ?_|refine Dt ?_ ?_|refine Cu ?_ ?_|refine new ?_ ?_)<;>intro hc hz<;>(try simp only[Aj]at hz)<;>try rewrite [hc])
   all_goals skip
 · rintro p A' h nx3 - ⟨cnt,hp0,hp1,hp2,rfl⟩ S
   repeat' ((conv=>lhs;whnf);first
    |refine A1 ‹_› 0 rfl ?_
    |refine Bm ‹_› 0 rfl (fun h' S=>?_)
    |exact hk _ _ _ _ (Sat.right (C:=[_,_,_,_,_,_,_,_]) ‹_›)
    |contradiction
    |refine Be fun h' S=>?_
    |refine C8 fun h' S=>?_
    |refine Bj ?_
    |refine C9 ?_
    |refine Bi ?_
    |refine seqt ?_
    |refine Bg ?_
    |refine Bc ?_
    |refine Aq ?_
    |refine Ar ?_
    |refine Bh ?_)
 · rintro e A' h nx3 ⟨rfl,cnt,x,y,rfl⟩ S
   repeat' ((conv=>lhs;whnf);first
    |refine A1 ‹_› 0 rfl ?_
    |refine Bm ‹_› 0 rfl (fun h' S=>?_)
    |exact hk _ _ _ _ (Sat.right (C:=[_,_,_,_,_,_,_,_]) ‹_›)
    |contradiction
    |refine Be fun h' S=>?_
    |refine C8 fun h' S=>?_
    |refine Bj ?_
    |refine C9 ?_
    |refine Bi ?_
    |refine seqt ?_
    |refine Bg ?_
    |refine Bc ?_
    |refine Aq ?_
    |refine Ar ?_
    |refine Bh ?_)
theorem lst_sub {α:Type} {f:α→List AV} {es:Nat} (hf:∀a,(f a).length=es):∀(l:List α) (LL:List AV) (off:Nat),(LL.drop off).take (l.length*es)=l.flatMap f→∀a n,a+n≤l.length→(LL.drop (off+a*es)).take (n*es)=((l.drop a).take n).flatMap f:=by
 intro l LL off h a n hn
 have e1:∀(l:List α) (a:Nat),(l.flatMap f).drop (a*es)=(l.drop a).flatMap f:=by
  intro l a
  induction l generalizing a with
  |nil=>simp
  |cons x r ih=>
   cases a with
   |zero=>simp
   |succ a=>rw[Fi,List.drop_succ_cons,←ih,Nat.succ_mul,Nat.add_comm,←hf x,List.drop_length_add_append,hf]
 have e2:∀(l:List α) (n:Nat),(l.flatMap f).take (n*es)=(l.take n).flatMap f:=by
  intro l n
  induction l generalizing n with
  |nil=>simp
  |cons x r ih=>
   cases n with
   |zero=>simp
   |succ n=>rw[Fi,List.take_succ_cons,Fi,←ih,Nat.succ_mul,Nat.add_comm,←hf x,List.take_length_add_append,hf]
 rw[←e2,←e1,←h,List.drop_take,List.take_take,List.drop_drop,Nat.min_eq_left]
 rw[←Nat.sub_mul]
 exact Kb _ (by omega)
theorem Aap {n:Nat} (hn:1000020≤n) {av:AV} {l:List T5} {A:List Av} (hl:Kz 5 29 Jh l av A) (hle:l.length≤100000) {kp:KP} {h:H} {nx:Pos} (S:Sat h nx A) {k:K}
 (hk:∀(x:List Nat) (b:Bool) h' nx',Sat h' nx' A→k (.tu [.s x,.b b]) h' nx'=true):Ai gg n kp (.fn 23 []) [av] h nx k=true:=by
 refine Ab hn (by omega) fun m hm=>?_
 rcases hl with⟨rfl,rfl⟩|⟨p,off,cap,LL,rfl,hp,h1,h2⟩
 · conv=>lhs;whnf
   refine Br (L:=[4,7,8,9]) rfl (fun m vs d' h' nx'=>Sat h' nx' A∧d'=[]∧vs=[.b false,.sl0,.i .i64 0,.i .i64 0]) 0 (by omega) ⟨S,rfl,rfl⟩ ?_
   rintro m _ d' h' nx' ⟨S,rfl,rfl⟩ k' hn' hx
   repeat' ((conv=>lhs;whnf);first
    |exact absurd hz (by decide)
    |(refine hx _ _ _ _ _ trivial ?_;conv=>lhs;whnf
      exact hk _ _ _ _ ‹_›)
    |(first|refine C4 ?_ ?_|refine Dt ?_ ?_|refine Cu ?_ ?_|refine new ?_ ?_)<;>intro hc hz<;>(try simp only[Aj]at hz)<;>try rewrite [hc])
 · conv=>lhs;whnf
   refine Br (L:=[4,7,8,9]) rfl (fun m vs d' h' nx'=>∃(i:Nat) (d:Bool),i+m=l.length∧Sat h' nx' A∧d'=[]∧vs=[.b d,.sl p off l.length cap,.i .i64 (.ofNat l.length),.i .i64 (.ofNat i)]) l.length (by omega) ⟨0,false,by omega,S,rfl,rfl⟩ ?_
   rintro m _ d' h' nx' ⟨i,d,hi,S,rfl,rfl⟩ k' hn' hx
   repeat' ((conv=>lhs;whnf);first
    |contradiction
    |(refine hx _ _ _ _ _ trivial ?_;conv=>lhs;whnf
      first
       |exact hk _ _ _ _ ‹_›
       |exact hk _ _ _ _ (Sat.right (C:=[_]) ‹_›))
    |(refine Gl C7 ‹_› hp h1 h2 (by omega) i (Int.ofNat_lt.1 hz) rfl ?_
      have hil:=Int.ofNat_lt.1 hz
      obtain⟨t,ht⟩:∃t,l[i]'hil=t:=⟨_,rfl⟩
      rw[ht]
      cases d)
    |exact hn' _ _ _ _ (m-1) (by(try simp only[Aj]at *);omega) ⟨i+1,_,(by(try simp only[Aj]at *);omega),Sat.right (C:=[_]) ‹_›,rfl,rfl⟩
    |contradiction
    |refine Be fun h' S=>?_
    |refine C8 fun h' S=>?_
    |refine Bj ?_
    |refine C9 ?_
    |refine Bi ?_
    |refine seqt ?_
    |refine Bg ?_
    |refine Bc ?_
    |refine Aq ?_
    |refine Ar ?_
    |refine Bh ?_
    |(first|refine C4 ?_ ?_|refine Dt ?_ ?_|refine Cu ?_ ?_|refine new ?_ ?_)<;>intro hc hz<;>(try simp only[Aj]at hz)<;>try rewrite [hc]
    |(refine Gq (fun hc hz=>?_) (fun hc hz=>?_)<;>try rewrite [hc]))
theorem sat_rdl {h:H} {nx:Pos} {A:List Av} (S:Sat h nx A) {p:Pos} {L:List AV} {ty off n:Nat} {k:List AV→Bool} (hi:(p,OB.row L ty)∈A) (ho:off+n≤L.length) (hk:k ((L.drop off).take n)=true):rd h p off n k=true:=by
 obtain⟨i,hi⟩:=Ih.1 hi
 exact Da S i hi ho hk
theorem zk0 {z:List AV} {sz:Nat} {k:T AV→Bool} (h:k .e=true):Oe z 0 0 sz .e k=true:=by rw[Ju];exact h
theorem beq_f0 {n:Nat} {x y:Bool} (h:0<n) (hy:y=true):fB (Nat.beq n 0) x y=true:=beq_f (by omega) hy
theorem sat_appk0 {h:H} {nx:Pos} {A:List Av} (S:Sat h nx A) (i:Nat) {p:Pos} {e ty n b:Nat} {te:GV.TI} {vs:List AV} {k:K} (hi:A[i]?=some (p,.row [] ty)) (h0:0<n) (hn:n * (b+1)≤1000000000)
 (hv:vs.length=n*te.sz) (hk:∀h',Sat h' (Ad nx) ((nx,.row vs e)::A)→k (.sl nx 0 n (.u te.sz)) h' (Ad nx)=true):Ve e te b n vs (.sl p 0 0 (.k 0)) h nx k=true:=by
 rw[Qj]
 show fB (Nat.ble ((0+n) * (b+1)) 1000000000) (fB (Nat.ble (0+n) 0) _ (rd h p 0 (0*te.sz) fun old=>Vl old .e 0 fun cs=>Vl vs cs (0*te.sz) fun cs=>Kj h nx (.cells ((0+n) * te.sz) cs 0 false e) fun id h nx=>k (.sl id 0 (0+n) (.u te.sz)) h nx)) false=true
 rw[Bf,Nat.zero_mul]
 refine Bq hn (Cw h0 ?_)
 refine Da S i hi (by omega) ?_
 show Vl [] .e 0 _=true
 rw[Gy,Gy,←hv]
 exact A6 S (.row vs e) (Dq vs e) hk
theorem clone_eq {n:Nat} (hn:3≤n) {p:Pos} {off c es:Nat} {LL:List AV} {A:List Av} (hp:(p,OB.row LL 29)∈A) (hc:0<c∧c≤100000) (h2:off+c*5≤LL.length) {kp:KP} {h:H} {nx:Pos} (S:Sat h nx A) {k:K}
 (hk:∀q LL' h' nx',LL'.length=c*5→Sat h' nx' ((q,.row LL' 29)::A)→k (.sl q 0 c (.u 5)) h' nx'=true):Ai gg n kp (.fn 24 []) [.sl p off c (.u es)] h nx k=true:=by
 refine Ab hn (by omega) fun m hm=>?_
 repeat' ((conv=>lhs;whnf);first
  |refine zk0 ?_
  |refine beq_f0 hc.1 ?_
  |refine A6 ‹_› (.row [] 29) (Dq [] 29) (fun h' S=>?_)
  |refine A5 ‹_› (Am _ hp) (by omega) ?_
  |refine sat_rdl ‹_› (Am _ hp) h2 ?_
  |refine sat_appk0 ‹_› 0 rfl hc.1 (show c*49≤1000000000 by omega) (by rw[Ci,Ax];show min (c*5) _=c*5;omega) (fun h' S=>?_)
  |refine hk _ _ _ _ ?_ (Sat.skip (X:=[_]) ‹_›)
  |contradiction
  |refine Be fun h' S=>?_
  |refine C8 fun h' S=>?_
  |refine Bj ?_
  |refine C9 ?_
  |refine Bi ?_
  |refine seqt ?_
  |refine Bg ?_
  |refine Bc ?_
  |refine Aq ?_
  |refine Ar ?_
  |refine Bh ?_
  |(first|refine C4 ?_ ?_|refine Dt ?_ ?_|refine Cu ?_ ?_|refine new ?_ ?_)<;>intro hc hz<;>(try simp only[Aj]at hz)<;>try rewrite [hc])
 rw[Ci,Ax];show min (c*5) _=c*5;omega
def stepC (p:Pos) (n:Nat) (a:Nat) (x:List AV) (b:Nat):Prop:=a<b∧b≤n∧x=[.sl p (0+a*5) (b-a) (.u 5)]
theorem pieces_it {l:List T5} {av:AV} {X:List Av} (G:GrA 5 29 av (l.flatMap Jh) X) (hle:l.length≤100000) (b:Pos):∃p,(l=[]∨∃LL,X=[(p,.row LL 29)]∧(LL.drop 0).take (l.length*5)=l.flatMap Jh∧0+l.length*5≤LL.length)∧ItG 1000020 (.fn 54 [.p b 0]) (stepC p l.length) (fun _:Nat=>True) 0 ((b,.row [av] 30)::X):=by
 rcases G.inv with⟨rfl,h2,rfl⟩|⟨p,n0,LL,rfl,h2,h3,rfl⟩
 · refine⟨.h,.inl (Dh C7 (by omega) h2),?_⟩
   intro dd0 n hn hdd lp kp h nx k A J X hO S h0 hy hk
   have hl:=Dh C7 (by omega) h2
   subst hl
   have hb:=hO 0 A h0 _ (Co.2 rfl)
   refine Ab (d:=max 1000020 (dd0+1)) (by omega) (by omega) fun m hm=>?_
   repeat' ((conv=>lhs;whnf);first
    |refine A5 ‹_› hb (Aa rfl) ?_
    |(refine Br (L:=[0,1,3,6,7,8]) rfl (fun m vs d' h' nx'=>Sat h' nx' A∧d'=[]∧vs=[.yl lp,.p b 0,.i .i64 0,.sl0,.i .i64 0,.i .i64 0]) 0 (by omega) ⟨S,rfl,rfl⟩ ?_
      rintro m _ d' h' nx' ⟨S,rfl,rfl⟩ k' hn' hx)
    |exact absurd hz (by decide)
    |(refine hx _ _ _ _ _ trivial ?_)
    |exact hk A _ _ (.inl ⟨0,trivial,h0⟩) ‹_›
    |(first|refine C4 ?_ ?_|refine Dt ?_ ?_|refine Cu ?_ ?_|refine new ?_ ?_)<;>intro hc hz<;>(try simp only[Aj]at hz)<;>try rewrite [hc])
 · have hn0:=El (off:=0) C7 (by omega) h2 (by omega)
   subst hn0
   have h2':(LL.drop 0).take (l.length*5)=l.flatMap Jh:=h2
   have h3':0+l.length*5≤LL.length:=by omega
   refine⟨p,.inr ⟨LL,rfl,h2',h3'⟩,?_⟩
   intro dd0 n hn hdd lp kp h nx k A J X hO S h0 hy hk
   have hb0:=hO 0 A h0 _ (Aw ..)
   refine Ab (d:=max 1000020 (dd0+1)) (by omega) (by omega) fun m hm=>?_
   conv=>lhs;whnf
   refine A5 ‹_› hb0 (Aa rfl) ?_
   conv=>lhs;whnf
   refine Br (L:=[0,1,3,6,7,8]) rfl (fun m vs d' h' nx'=>∃(a i:Nat) (A:List Av),a≤i∧i+m=l.length∧J a A∧Sat h' nx' A∧d'=[]∧vs=[.yl lp,.p b 0,.i .i64 (.ofNat a),.sl p 0 l.length (.u 5),.i .i64 (.ofNat l.length),.i .i64 (.ofNat i)]) l.length (by omega) ⟨0,0,A,by omega,by omega,h0,S,rfl,rfl⟩ ?_
   rintro m _ d' h' nx' ⟨a,i,A,ha,hi,hJ,S,rfl,rfl⟩ k' hn' hx
   have hb:=hO a A hJ _ (Aw ..)
   have hp:=hO a A hJ _ (Am _ (Co.2 rfl))
   repeat' ((conv=>lhs;whnf);first
    |contradiction
    |(refine Gl C7 ‹_› hp h2' h3' (by omega) i (Int.ofNat_lt.1 hz) rfl ?_
      have hil:=Int.ofNat_lt.1 hz
      obtain⟨t,ht⟩:∃t,l[i]'hil=t:=⟨_,rfl⟩
      rw[ht])
    |exact hn' _ _ _ _ (m-1) (by(try simp only[Aj]at *);omega) ⟨a,i+1,A,by omega,(by(try simp only[Aj]at *);omega),hJ,Sat.right (C:=[_]) ‹_›,rfl,rfl⟩
    |(refine hn' _ _ _ _ (m-1) (by(try simp only[Aj]at *);omega) ⟨i+1,i+1,A',by omega,(by(try simp only[Aj]at *);omega),q1,?_,rfl,rfl⟩;exact Sat.right (C:=[_]) (Sat.tor ‹_›))
    |(refine hy a _ (i+1) A [_] _ _ _ _ ⟨by omega,(by(try simp only[Aj]at *);omega),rfl⟩ (by omega) hJ (Sat.rot ‹_›) (fun A' h2 nx2 q1 S2=>?_) (fun A' h2 nx2 q2 S2=>?_))
    |(refine hx _ _ _ _ _ trivial ?_;conv=>lhs;whnf
      exact hk A' _ _ (.inr ‹_›) (Sat.right (C:=[_]) (Sat.tor ‹_›)))
    |(refine hx _ _ _ _ _ trivial ?_;clear hn' hx)
    |exact hk A _ _ (.inl ⟨a,trivial,hJ⟩) ‹_›
    |(refine hy a _ l.length A [] _ _ _ _ ⟨(by(try simp only[Aj]at *);omega),Ag _,rfl⟩ (by omega) hJ (by rw[Bp];assumption) (fun A' h2 nx2 q1 S2=>?_) (fun A' h2 nx2 q2 S2=>?_)<;>rw[Bp]at S2)
    |exact hk A' _ _ (.inl ⟨_,trivial,q1⟩) ‹_›
    |exact hk A' _ _ (.inr q2) ‹_›
    |refine L7 (x:=_) (y:=false) rfl ?_
    |refine A5 ‹_› (Am _ hb) (Aa rfl) ?_
    |refine A5 ‹_› hb (Aa rfl) ?_
    |contradiction
    |refine Be fun h' S=>?_
    |refine C8 fun h' S=>?_
    |refine Bj ?_
    |refine C9 ?_
    |refine Bi ?_
    |refine seqt ?_
    |refine Bg ?_
    |refine Bc ?_
    |refine Aq ?_
    |refine Ar ?_
    |refine Bh ?_
    |(first|refine C4 ?_ ?_|refine Dt ?_ ?_|refine Cu ?_ ?_|refine new ?_ ?_)<;>intro hc hz<;>(try simp only[Aj]at hz)<;>try rewrite [hc])
   skip
end Go.CE
