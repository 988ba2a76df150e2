/- Part 6 of the lemmas behind the claim. -/
import Derived.Test.YtacpdfjcepkgcaaGreatDoorZA01
import Derived.Test.YtacpdfjcepkgcaaGreatDoorZA05
set_option linter.unusedSimpArgs false
set_option linter.unusedVariables false
set_option linter.constructorNameAsVariable false
set_option linter.unusedSectionVars false
set_option linter.defProp false
set_option maxRecDepth 100000
set_option maxHeartbeats 40000000
namespace Go.Ps
open Fr
structure S3 where
 kn:List Bool
 lv:List Nat
 ls:List (Nat×Nat)
def ap1 (s:S3):Act→S3
 |.ln p v=>{s with ls:=s.ls++[(p,v)]}
 |.kn j v=>{s with kn:=s.kn.set j true,lv:=s.lv.set j v}
def ap (s:S3) (A:List Act):S3:=A.foldl ap1 s
theorem Jj (s:S3) (A B:List Act):ap s (A++B)=ap (ap s A) B:=List.foldl_append
theorem ap_len (A:List Act) (s:S3):(ap s A).kn.length=s.kn.length∧(ap s A).lv.length=s.lv.length:=by
 induction A generalizing s with
 |nil=>exact⟨rfl,rfl⟩
 |cons x r ih=>
  have:=ih (ap1 s x)
  cases x with
  |ln p v=>exact this
  |kn j v=>
   have e1:(ap1 s (.kn j v)).kn.length=s.kn.length:=E8
   have e2:(ap1 s (.kn j v)).lv.length=s.lv.length:=E8
   rw[e1,e2]at this;exact this
def lnOf:Act→Option (Nat×Nat)
 |.ln p v=>some (p,v)
 |.kn _ _=>none
theorem Oc (A:List Act) (s:S3):(ap s A).ls=s.ls++A.filterMap lnOf:=by
 induction A generalizing s with
 |nil=>exact(Bp _).symm
 |cons x r ih=>
  show(ap (ap1 s x) r).ls=_
  rw[ih]
  cases x with
  |ln p v=>show(s.ls++[(p,v)])++_=s.ls++((p,v)::_);rw[A4];rfl
  |kn j v=>rfl
theorem Qd {α:Type} {l:List α} {j i:Nat} {x d y:α} (h:(l.set j x).getD i d=y):l.getD i d=y∨(i=j∧x=y):=by
 rw[A0,List.getElem?_set]at h
 by_cases c:j=i
 · rw[if_pos c]at h
   split at h
   · exact .inr ⟨c.symm,h⟩
   · rename_i hl
     left
     rw[A0,Jl (by omega)];exact h
 · rw[if_neg c]at h
   left;rw[A0];exact h
theorem ap_kn (A:List Act) (s:S3) (i:Nat) (h:(ap s A).kn.getD i false=true):s.kn.getD i false=true∨∃v,Act.kn i v∈A:=by
 induction A generalizing s with
 |nil=>exact .inl h
 |cons x r ih=>
  rcases ih (ap1 s x) h with h|⟨v,h⟩
  · cases x with
    |ln p v=>exact .inl h
    |kn j v=>
     rcases Qd h with h|⟨h,_⟩
     · exact .inl h
     · exact .inr ⟨v,by rw[h];exact Aw ..⟩
  · exact .inr ⟨v,Am _ h⟩
theorem ap_lv (A:List Act) (s:S3) (i:Nat):(ap s A).lv.getD i 0=s.lv.getD i 0∨∃v,Act.kn i v∈A∧(ap s A).lv.getD i 0=v:=by
 induction A generalizing s with
 |nil=>exact .inl rfl
 |cons x r ih=>
  rcases ih (ap1 s x)with h|⟨v,h,e⟩
  · cases x with
    |ln p v=>exact .inl h
    |kn j v=>
     rcases Qd (h.symm:(s.lv.set j v).getD i 0=_)with h1|⟨h1,h2⟩
     · exact .inl h1.symm
     · exact .inr ⟨v,by rw[h1];exact Aw ..,h2.symm⟩
  · exact .inr ⟨v,Am _ h,e⟩
structure Inv (N:List Nd) (n i:Nat) (s:S3):Prop where
 l1:s.kn.length=N.length
 l2:s.lv.length=N.length
 nd:(s.ls.map (·.1)).Nodup
 lt:∀p∈s.ls,p.1<n∧p.2≤N.length
 z:0∈s.ls.map (·.1)
 sep:∀p∈s.ls,∀j,i≤j→s.kn.getD j false=true→¬((nN N j).f<p.1∧p.1<(nN N j).t)
 dj:∀j j',i≤j→i≤j'→j≠j'→s.kn.getD j false=true→s.kn.getD j' false=true→(nN N j).t≤(nN N j').f∨(nN N j').t≤(nN N j).f
 lv:∀j,s.lv.getD j 0≤j
theorem pw_mem {α:Type} {R:α→α→Prop} (hs:∀a b,R a b→R b a):∀ {l:List α},l.Pairwise R→∀a∈l,∀b∈l,a≠b→R a b
 |x::l,h,a,ha,b,hb,hab=>by
  rw[List.pairwise_cons]at h
  rcases Bo.1 ha with e1|ha
  · rcases Bo.1 hb with e2|hb
    · exact absurd (e1.trans e2.symm) hab
    · rw[e1];exact h.1 b hb
  · rcases Bo.1 hb with e2|hb
    · rw[e2];exact hs _ _ (h.1 a ha)
    · exact pw_mem hs h.2 a ha b hb hab
theorem Rl.sym {N:List Nd} (a b:Act) (h:Rl N a b):Rl N b a:=by
 cases a<;>cases b
 · exact fun c=>h c.symm
 · exact h
 · exact h
 · exact h.symm
theorem Qb {A:List Act} {p:Nat×Nat} (h:p∈A.filterMap lnOf):Act.ln p.1 p.2∈A:=by
 obtain⟨x,hx,e⟩:=List.mem_filterMap.1 h
 cases x with
 |ln a b=>cases e;exact hx
 |kn a b=>cases e
theorem lns_nd {N:List Nd} {A:List Act} (h:A.Pairwise (Rl N)):((A.filterMap lnOf).map (·.1)).Nodup:=by
 induction A with
 |nil=>exact List.nodup_nil
 |cons x r ih=>
  rw[List.pairwise_cons]at h
  cases x with
  |kn j v=>exact ih h.2
  |ln p v=>
   show(p::(r.filterMap lnOf).map (·.1)).Nodup
   refine List.nodup_cons.2 ⟨fun hm=>?_,ih h.2⟩
   obtain⟨y,hy,e⟩:=Dz.1 hm
   exact h.1 _ (Qb hy) e.symm
theorem inv_step {N:List Nd} {n i i' I E M lo hi:Nat} {s:S3} {A:List Act} (H:Inv N n i s) (hZ:Z N I E M lo hi A) (hi':i≤i') (f1:∀p∈s.ls,¬(lo≤p.1∧p.1<hi)) (f2:∀j,i'≤j→s.kn.getD j false=true→hi≤(nN N j).f∨(nN N j).t≤lo) (hM:M≤I) (hN:M≤N.length) (hn:hi≤n):Inv N n i' (ap s A):=by
 obtain⟨q1,q2⟩:=ap_len A s
 refine⟨by rw[q1,H.l1],by rw[q2,H.l2],?_,?_,?_,?_,?_,?_⟩
 · rw[Oc,Eo]
   refine List.nodup_append.2 ⟨H.nd,lns_nd hZ.p,fun a ha b hb e=>?_⟩
   obtain⟨p,hp,rfl⟩:=Dz.1 ha
   obtain⟨p',hp',rfl⟩:=Dz.1 hb
   have:=hZ.w _ (Qb hp')
   exact f1 p hp ⟨by rw[e];exact this.1,by rw[e];exact this.2.1⟩
 · rw[Oc]
   intro p hp
   rcases D9.1 hp with hp|hp
   · exact H.lt p hp
   · have:=hZ.w _ (Qb hp)
     exact⟨by have:=this.2.1;omega,by have:=this.2.2;omega⟩
 · rw[Oc,Eo]
   exact B7 _ H.z
 · rw[Oc]
   intro p hp j hj hk
   rcases D9.1 hp with hp|hp
   · rcases ap_kn A s j hk with hk|⟨v,hk⟩
     · exact H.sep p hp j (by omega) hk
     · have:=(hZ.w _ hk).1
       have:=f1 p hp
       omega
   · have h1:=hZ.w _ (Qb hp)
     rcases ap_kn A s j hk with hk|⟨v,hk⟩
     · have:=f2 j hj hk
       have:=h1.1;have:=h1.2.1
       omega
     · exact pw_mem Rl.sym hZ.p _ (Qb hp) _ hk (by intro c;cases c)
 · intro j j' hj hj' hne hk hk'
   rcases ap_kn A s j hk with hk|⟨v,hk⟩
   · rcases ap_kn A s j' hk' with hk'|⟨v',hk'⟩
     · exact H.dj j j' (by omega) (by omega) hne hk hk'
     · have:=(hZ.w _ hk').1
       have:=f2 j hj hk
       omega
   · rcases ap_kn A s j' hk' with hk'|⟨v',hk'⟩
     · have:=(hZ.w _ hk).1
       have:=f2 j' hj' hk'
       omega
     · exact pw_mem Rl.sym hZ.p _ hk _ hk' (by intro c;cases c;exact hne rfl)
 · intro j
   rcases ap_lv A s j with h|⟨v,h,e⟩
   · rw[h];exact H.lv j
   · rw[e]
     have:=hZ.w _ h
     have:=this.2.1;have h3:=(hZ.w _ h).2.2.2
     omega
def Yg (N:List Nd) (c:Nat→Bool) (s:S3) (i:Nat):S3:=match s.kn.getD i false with
 |true=>ap s (visA N c i (s.lv.getD i 0))
 |false=>s
theorem inv_cstep {N:List Nd} {n i a k:Nat} {q:Fr} {c:Nat→Bool} {s:S3} (H:Inv N n i s) (h:Nod N i a k q) (hn:a+wid q≤n):Inv N n (i+1) (Yg N c s i):=by
 unfold Yg
 cases hk:s.kn.getD i false with
 |false=>
  exact⟨H.l1,H.l2,H.nd,H.lt,H.z,fun p hp j hj=>H.sep p hp j (by omega),fun j j' hj hj'=>H.dj j j' (by omega) (by omega),H.lv⟩
 |true=>
  have:=H.lv i
  have:=h.le
  refine inv_step H (vis_z h) (Nat.le_succ _) (fun p hp=>?_) (fun j hj hkj=>?_) (by omega) (by omega) hn
  · have:=H.sep p hp i (Ag _) hk
    rw[h.nn]at this
    have:¬(a<p.1∧p.1<a+wid q):=this
    omega
  · have:=H.dj i j (Ag _) (by omega) (by omega) hk hkj
    rw[h.nn]at this
    have:a+wid q≤_∨_≤a:=this
    omega
def Vm (m:Nat):S3:=⟨List.replicate m false,List.replicate m 0,[(0,0)]⟩
def cut0 (N:List Nd) (c:Nat→Bool):S3:=if(nN N 0).k=2 then ap (Vm N.length) (Pu N c 1 0++G8 N (G9 N 0) 0)else {Vm N.length with kn:=(List.replicate N.length false).set 0 true}
def Lc (N:List Nd) (c:Nat→Bool) (m:Nat):S3:=(List.range m).foldl (Yg N c) (cut0 N c)
theorem Rk (N:List Nd) (c:Nat→Bool) (m:Nat):Lc N c (m+1)=Yg N c (Lc N c m) m:=by
 unfold Lc;rw[List.range_succ,List.foldl_append];rfl
theorem rep_f (m j:Nat):(List.replicate m false).getD j false=false:=by
 rw[A0,List.getElem?_replicate];split<;>rfl
theorem rep_0 (m j:Nat):(List.replicate m 0).getD j 0=0:=by
 rw[A0,List.getElem?_replicate];split<;>rfl
theorem inv_cut0 {N:List Nd} {k:Nat} {q:Fr} {c:Nat→Bool} (h:Nod N 0 0 k q):Inv N (wid q) 0 (cut0 N c):=by
 have hw:=h.w
 have hl:=h.le
 have h0:Inv N (wid q) 0 (Vm N.length):=⟨Fj,Fj,by simp[Vm],fun p hp=>by rw[Co.1 hp];exact⟨hw,B9 _⟩,by simp[Vm],
  fun p hp j hj hk=>absurd hk (by rw[show(Vm N.length).kn.getD j false=false from rep_f _ _];decide),fun j j' hj hj' hne hk=>absurd hk (by rw[show(Vm N.length).kn.getD j false=false from rep_f _ _];decide),fun j=>by rw[show(Vm N.length).lv.getD j 0=0 from rep_0 _ _];exact B9 _⟩
 unfold cut0
 rw[h.nn]
 show Inv N _ 0 (if k=2 then _ else _)
 split
 · rename_i hk
   subst hk
   obtain⟨k1,q1,r,q2,rfl⟩:p8 q:=h.v
   have h1:=h.s.nod
   have hr:=h.s.rest
   have e1:app (Fr.nd k1 q1 r) (.nd 22 q2 .nil)=.nd k1 q1 (app r (.nd 22 q2 .nil)):=rfl
   have w1:=h1.w
   have hL:G9 N 0=0+1+sz (Fr.nd k1 q1 r)∧Nod N (0+1+sz (Fr.nd k1 q1 r)) (0+wid (Fr.nd k1 q1 r)) 22 q2:=Nod.last (r:=.nd k1 q1 r) (by rw[e1];exact h)
   obtain⟨t,rr,t2,rfl⟩:p0 q2:=hL.2.v
   have e2:wid (Fr.nd k1 q1 r)=wid q1+wid r:=rfl
   have e3:sz (Fr.nd k1 q1 r)=sz q1+1+sz r:=rfl
   have e4:wid (Fr.nd k1 q1 (app r (.nd 22 (.tk t (app rr (.tk t2 .nil))) .nil)))=wid q1+(wid r+(wid (.tk t (app rr (.tk t2 .nil)))+0)):=by show wid q1+wid (app r _)=_;rw[Kl];rfl
   have hZ:Z N 1 N.length 1 1 (wid (Fr.nd k1 q1 (app r (.nd 22 (.tk t (app rr (.tk t2 .nil))) .nil)))) (Pu N c 1 0++G8 N (G9 N 0) 0):=by
    rw[e4]
    have hl2:=hL.2.le
    refine Z.app (mid:=wid q1+wid r+1) ?_ ?_ (by omega) (by have:=hL.2.w;omega)
    · unfold Pu
      rw[h1.kids]
      refine(Sj q1 _ _ h1.s fun j b kk qq h2 h3 h4=>?_).mono (Ag _) (by omega)
      rw[h2.nn]
      show Z N _ _ _ _ _ (if(kk=6∨kk=9)∧_ then _ else _)
      split
      · rename_i hc
        obtain⟨t,rr,rfl,hr⟩:p6 qq:=by
         have:=h2.v
         rcases hc.1 with rfl|rfl<;>exact this
        exact Sk h2 hr ⟨by omega,by have:=h2.le;exact this⟩ (Ag _)
      · exact Z.nil
    · rw[hL.1]
      refine(Sk hL.2 ⟨I0 (.inr (by intro e;cases e)),.inr ⟨_,_,rfl⟩⟩ ⟨by omega,hl2⟩ (Ag _)).mono ?_ ?_
      · rw[e2];omega
      · rw[e2];omega
   refine inv_step h0 hZ (Ag _) (fun p hp=>?_) (fun j hj hk=>?_) (Ag _) (by omega) (Ag _)
   · rw[Co.1 hp];exact fun c=>absurd c.1 (by decide)
   · exact absurd hk (by rw[show(Vm N.length).kn.getD j false=false from rep_f _ _];decide)
 · refine⟨by show(List.set _ _ _).length=_;rw[E8,Fj],h0.l2,h0.nd,h0.lt,h0.z,?_,?_,h0.lv⟩
   · intro p hp j hj hk
     rw[Co.1 hp];omega
   · intro j j' hj hj' hne hk hk'
     rcases Qd hk with c|⟨c,_⟩
     · rw[rep_f]at c;cases c
     · rcases Qd hk' with c'|⟨c',_⟩
       · rw[rep_f]at c';cases c'
       · omega
theorem inv_cutS {k:Nat} {q:Fr} {c:Nat→Bool} (ho:ok (.nd k q .nil)):∀m,m≤sz q+1→Inv (pre 0 (.nd k q .nil)) (wid q) m (Lc (pre 0 (.nd k q .nil)) c m):=by
 have hS:Qk (pre 0 (.nd k q .nil)) 0 0 (.nd k q .nil):=⟨⟨[],[],by simp,rfl⟩,ho⟩
 intro m
 induction m with
 |zero=>intro _;exact inv_cut0 hS.nod
 |succ m ih=>
  intro hm
  rw[Rk]
  obtain⟨b,k',q',h1,h2,h3⟩:=Pp _ _ _ hS m (B9 _) (by show m<0+(sz q+1+0);omega)
  exact inv_cstep (ih (by omega)) h1 (by have:wid (.nd k q .nil)=wid q+0:=rfl;omega)
theorem tops_snd:∀(F:Fr) (i a:Nat),ok F→∀m x,(Hw i a F)[m+1]?=some x→a+1≤x.2.1
 |.nil,i,a,h,m,x,hx=>by cases hx
 |.tk t r,i,a,h,m,x,hx=>by have:=tops_snd r i (a+1) h m x hx;omega
 |.nd k q r,i,a,h,m,x,hx=>by
  have hw:=Jp h.2.2.1 h.2.1
  have hx':(Hw (i+sz q+1) (a+wid q) r)[m]?=some x:=hx
  have:∀(F:Fr) (i a:Nat),∀x∈Hw i a F,a≤x.2.1:=by
   intro F
   induction F with
   |nil=>intro i a x hx;cases hx
   |tk t r ih=>intro i a x hx;have:=ih i (a+1) x hx;omega
   |nd k q r _ ih=>
    intro i a x hx
    rcases Bo.1 hx with rfl|hx
    · exact Ag _
    · have:=ih _ _ x hx;omega
  have:=this r _ _ x (Gm hx')
  omega
structure MkOK (N:List Nd) (i:Nat):Prop where
 l:i<N.length
 s:1≤(nN N i).s∧i+(nN N i).s≤N.length
 w:(nN N i).f<(nN N i).t
 k4:(nN N i).k∈[4,11,12,54,48]→(nN N i).f+1<(nN N i).t
 k48:(nN N i).k∈[48,13]→i+1<N.length
 k1:(nN N i).k∈[34,35,36,37,38,39,40,41,42,43,44,45,46,49,50,51,53]→i+1<N.length∧(nN N (i+1)).t<(nN N i).t
 k10:(nN N i).k=10→1<(nN N i).s→(nN N i).f+1<(nN N i).t
 k3:(nN N i).k∈[2,3,7,30]→i+1<N.length
 k23:(nN N i).k∈[23,24,25,55,28,29,31,2]→G9 N i∈kids N i∧(nN N i).f+1≤(nN N (G9 N i)).f
 kd:∀j∈kids N i,i<j∧j<N.length∧(nN N i).f≤(nN N j).f∧(nN N j).f<(nN N j).t∧(nN N j).t≤(nN N i).t
 kh:∀j,(kids N i).head?=some j→j=i+1
 k2:∀m j,(kids N i)[m+1]?=some j→(nN N i).f+1≤(nN N j).f
theorem nod_mk {N:List Nd} {i a k:Nat} {q:Fr} (h:Nod N i a k q):MkOK N i:=by
 have hl:=h.le
 have hw:=h.w
 have hv:=h.v
 have hkd:∀j∈kids N i,∃b k' q',Nod N j b k' q'∧i<j∧a≤b∧b+wid q'≤a+wid q:=by
  intro j hj
  rw[h.kids]at hj
  obtain⟨x,hx,rfl⟩:=Dz.1 hj
  obtain⟨h1,h2,h3,h4,h5⟩:=Pg q _ _ h.s x hx
  exact⟨_,_,_,h1,by omega,h4,h5⟩
 have hn:=h.nn
 refine⟨by omega,?_,?_,?_,?_,?_,?_,?_,?_,?_,?_,?_⟩<;>try rw[hn]
 · exact⟨by show 1≤sz q+1;omega,by show i+(sz q+1)≤_;omega⟩
 · show a<a+wid q;omega
 · intro hk
   show a+1<a+wid q
   have hp:p5 q∨p9 q:=by
    simp only[Bo,Ge,or_false]at hk
    rcases hk with rfl|rfl|rfl|rfl|rfl
    · exact .inl hv
    · exact .inl hv
    · exact .inl hv
    · exact .inl hv
    · exact .inr hv
   rcases hp with⟨t,r,rfl,hr⟩|⟨t,r,rfl,hr⟩
   · have:=Jp (q:=r) h.s.2 hr
     show a+1<a+(wid r+1);omega
   · have:r≠.nil:=by rintro rfl;exact absurd hr (by decide)
     have:=Jp (q:=r) h.s.2 this
     show a+1<a+(wid r+1);omega
 · intro hk
   simp only[Bo,Ge,or_false]at hk
   rcases hk with rfl|rfl
   · obtain⟨t,r,rfl,hr⟩:p9 q:=hv
     have:sz (.tk t r)=sz r:=rfl
     omega
   · obtain⟨k',q',r,rfl⟩:p3 q:=hv
     have:sz (.nd k' q' r)=sz q'+1+sz r:=rfl
     omega
 · intro hk
   show _∧_<a+wid q
   have hp:p1 q∨p2 q:=by
    simp only[Bo,Ge,or_false]at hk
    rcases hk with rfl|rfl|rfl|rfl|rfl|rfl|rfl|rfl|rfl|rfl|rfl|rfl|rfl|rfl|rfl|rfl|rfl
    all_goals first|exact .inl hv|exact .inr hv
   rcases hp with⟨k',q',r,rfl,hr⟩|⟨t,k',q',t2,r,rfl⟩
   · have h1:=h.s.nod
     have:=Jp h.s.rest.2 hr
     rw[h1.nn]
     have e:sz (.nd k' q' r)=sz q'+1+sz r:=rfl
     exact⟨by omega,by show a+wid q'<a+(wid q'+wid r);omega⟩
   · have h1:=h.s.tk.nod
     rw[h1.nn]
     have e:sz (.tk t (.nd k' q' (.tk t2 r)))=sz q'+1+sz r:=rfl
     exact⟨by omega,by show a+1+wid q'<a+(wid q'+(wid r+1)+1);omega⟩
 · intro hk hs
   have hs:1<sz q+1:=hs
   show a+1<a+wid q
   have hk:k=10:=hk
   subst hk
   obtain⟨t,r,rfl⟩:pA q:=hv
   have:r≠.nil:=by rintro rfl;exact absurd (show 1<0+1 from hs) (by decide)
   have:=Jp (q:=r) h.s.2 this
   show a+1<a+(wid r+1);omega
 · intro hk
   simp only[Bo,Ge,or_false]at hk
   rcases hk with rfl|rfl|rfl|rfl
   · obtain⟨k',q',r,q2,rfl⟩:p8 q:=hv
     have:sz (.nd k' q' (app r (.nd 22 q2 .nil)))=sz q'+1+sz (app r (.nd 22 q2 .nil)):=rfl
     omega
   · obtain⟨k',q',r,rfl⟩:p3 q:=hv
     have:sz (.nd k' q' r)=sz q'+1+sz r:=rfl
     omega
   · obtain⟨k',q',r,rfl⟩:p3 q:=hv
     have:sz (.nd k' q' r)=sz q'+1+sz r:=rfl
     omega
   · obtain⟨t,k',q',t2,r,rfl⟩:p2 q:=hv
     have:sz (.tk t (.nd k' q' (.tk t2 r)))=sz q'+1+sz r:=rfl
     omega
 · intro hk
   have hp:p4 q:=by
    simp only[Bo,Ge,or_false]at hk
    rcases hk with rfl|rfl|rfl|rfl|rfl|rfl|rfl|rfl
    all_goals first
     |exact hv
     |(obtain⟨k',q',r,q2,rfl⟩:p8 q:=hv
       exact⟨.nd k' q' r,22,q2,rfl,by intro c;cases c⟩)
   obtain⟨r,k',q',rfl,hr⟩:=hp
   have:=Jp (ok_l h.s.2) hr
   rw[h.last.1,h.last.2.nn]
   refine⟨?_,by show a+1≤a+wid r;omega⟩
   rw[h.kids,Ti,Eo]
   exact A3 _ (Aw ..)
 · intro j hj
   obtain⟨b,k',q',h1,h2,h3,h4⟩:=hkd j hj
   have:=h1.w
   have:=h1.le
   rw[h1.nn]
   exact⟨h2,by omega,h3,by show b<b+wid q';omega,h4⟩
 · intro j hj
   rw[h.kids]at hj
   have:∀(F:Fr) (i a:Nat),((Hw i a F).map (·.1)).head?=some j→j=i:=by
    intro F
    induction F with
    |nil=>intro i a e;cases e
    |tk t r ih=>intro i a e;exact ih i (a+1) e
    |nd k q r _ _=>intro i a e;cases e;rfl
   exact this q _ _ hj
 · intro m j hj
   rw[h.kids,G5]at hj
   cases e:(Hw (i+1) a q)[m+1]? with
   |none=>rw[e]at hj;cases hj
   |some x=>
    rw[e]at hj
    cases hj
    have hx:=tops_snd q _ _ h.s.2 m x e
    obtain⟨h1,_⟩:=Pg q _ _ h.s x (Gm e)
    rw[h1.nn];exact hx
theorem mk_all {k:Nat} {q:Fr} (ho:ok (.nd k q .nil)) (i:Nat) (hi:i<sz q+1):MkOK (pre 0 (.nd k q .nil)) i∧(nN (pre 0 (.nd k q .nil)) i).t≤wid q:=by
 have hS:Qk (pre 0 (.nd k q .nil)) 0 0 (.nd k q .nil):=⟨⟨[],[],by simp,rfl⟩,ho⟩
 obtain⟨b,k',q',h1,h2,h3⟩:=Pp _ _ _ hS i (B9 _) (by show i<0+(sz q+1+0);omega)
 refine⟨nod_mk h1,?_⟩
 rw[h1.nn]
 have:wid (.nd k q .nil)=wid q+0:=rfl
 show b+wid q'≤_
 omega
def P3:Nat→Fr→List Nat
 |_,.nil=>[]
 |p,.tk _ r=>P3 p r
 |p,.nd _ q r=>P3 (p+1) q++p::P3 (p+sz q+1) r
theorem Gh (x:Fr) (p:Nat):(P3 p x).length=sz x:=by
 induction x generalizing p with
 |nil=>rfl
 |tk t r ih=>exact ih _
 |nd k q r h1 h2=>
  show(P3 (p+1) q++p::P3 (p+sz q+1) r).length=sz q+1+sz r
  rw[Bb,Cq,h1,h2];omega
def tls:Nat→Fr→List Nat
 |_,.nil=>[]
 |j,.tk _ r=>tls j r
 |j,.nd _ q r=>tls (j+sz q+1) r++[j+sz q]
def CH (N:List Nd) (P:List Nat):Nat→Nat→Nat→List Nat→Prop
 |_,left,_,[]=>left=0
 |k1,left,e,c::C=>k1=c+1∧c<N.length∧1≤(nN N c).s∧(nN N c).s≤left∧(nN N c).s≤k1∧(nN N c).s≤e∧P.getD c 0+(nN N c).s=e∧CH N P (k1-(nN N c).s) (left-(nN N c).s) (e-(nN N c).s) C
structure Sg (N:List Nd) (P:List Nat) (j a p:Nat) (F:Fr):Prop where
 n:∃u v,N=u++post a F++v∧u.length=j
 p:∃u v,P=u++P3 p F++v∧u.length=j
theorem Sg.le {N:List Nd} {P:List Nat} {j a p:Nat} {F:Fr} (h:Sg N P j a p F):j+sz F≤N.length:=by
 obtain⟨u,v,rfl,rfl⟩:=h.n
 rw[Bb,Bb,post_len];omega
theorem Sg.tk {N:List Nd} {P:List Nat} {j a p:Nat} {t:Tk} {r:Fr} (h:Sg N P j a p (.tk t r)):Sg N P j (a+1) p r:=⟨h.n,h.p⟩
theorem Sg.nd {N:List Nd} {P:List Nat} {j a p k:Nat} {q r:Fr} (h:Sg N P j a p (.nd k q r)):Sg N P j a (p+1) q∧Sg N P (j+sz q+1) (a+wid q) (p+sz q+1) r∧nN N (j+sz q)=⟨k,a,a+wid q,sz q+1⟩∧P.getD (j+sz q) 0=p:=by
 obtain⟨u,v,rfl,rfl⟩:=h.n
 obtain⟨u2,v2,rfl,e2⟩:=h.p
 have e1:post a (.nd k q r)=post a q++⟨k,a,a+wid q,sz q+1⟩::post (a+wid q) r:=rfl
 have e3:P3 p (.nd k q r)=P3 (p+1) q++p::P3 (p+sz q+1) r:=rfl
 rw[e1,e3]
 refine⟨⟨⟨u,(⟨k,a,a+wid q,sz q+1⟩:Nd)::post (a+wid q) r++v,by simp[A4],rfl⟩,⟨u2,p::P3 (p+sz q+1) r++v2,by simp[A4],e2⟩⟩,
  ⟨⟨u++post a q++[⟨k,a,a+wid q,sz q+1⟩],v,by simp[A4],by simp[post_len];omega⟩,⟨u2++P3 (p+1) q++[p],v2,by simp[A4],by simp[Gh];omega⟩⟩,?_,?_⟩
 · unfold nN
   rw[A0,A4,Fy (by omega),A4,Fy (by rw[post_len];omega),show u.length+sz q-u.length-(post a q).length=0 by rw[post_len];omega]
   rfl
 · rw[A0,A4,Fy (by omega),A4,Fy (by rw[Gh];omega),show u.length+sz q-u2.length-(P3 (p+1) q).length=0 by rw[Gh];omega]
   rfl
theorem ch_tls {N:List Nd} {P:List Nat}:∀(F:Fr) (j a p left:Nat) (C:List Nat),Sg N P j a p F→CH N P j left p C→CH N P (j+sz F) (left+sz F) (p+sz F) (tls j F++C)
 |.nil,j,a,p,left,C,h,hc=>hc
 |.tk t r,j,a,p,left,C,h,hc=>ch_tls r j (a+1) p left C h.tk hc
 |.nd k q r,j,a,p,left,C,h,hc=>by
  obtain⟨h1,h2,h3,h4⟩:=h.nd
  have hl:=h.le
  have e1:sz (.nd k q r)=sz q+1+sz r:=rfl
  have:=ch_tls r (j+sz q+1) (a+wid q) (p+sz q+1) (left+(sz q+1)) ((j+sz q)::C) h2 (by
   refine⟨rfl,by omega,?_,?_,?_,?_,?_,?_⟩<;>rw[h3]
   · show 1≤sz q+1;omega
   · show sz q+1≤_;omega
   · show sz q+1≤_;omega
   · show sz q+1≤_;omega
   · rw[h4];show p+(sz q+1)=_;omega
   · show CH N P (j+sz q+1-(sz q+1)) (left+(sz q+1)-(sz q+1)) (p+sz q+1-(sz q+1)) C
     rw[show j+sz q+1-(sz q+1)=j by omega,show left+(sz q+1)-(sz q+1)=left by omega,show p+sz q+1-(sz q+1)=p by omega]
     exact hc)
  show CH N P (j+(sz q+1+sz r)) (left+(sz q+1+sz r)) (p+(sz q+1+sz r)) (tls (j+sz q+1) r++[j+sz q]++C)
  rw[A4,show j+(sz q+1+sz r)=j+sz q+1+sz r by omega,show left+(sz q+1+sz r)=left+(sz q+1)+sz r by omega,show p+(sz q+1+sz r)=p+sz q+1+sz r by omega]
  exact this
def ChOK (N:List Nd) (P:List Nat) (i:Nat) (C:List Nat):Prop:=1≤(nN N i).s∧CH N P i ((nN N i).s-1) (P.getD i 0+(nN N i).s) C
theorem U7 {N:List Nd} {P:List Nat}:∀(F:Fr) (j a p:Nat),Sg N P j a p F→∀i,j≤i→i<j+sz F→(∃C,ChOK N P i C)∧(i∈tls j F∨∃i' C,i<i'∧i'<j+sz F∧ChOK N P i' C∧i∈C)
 |.nil,j,a,p,h,i,h1,h2=>by have:i<j:=h2;omega
 |.tk t r,j,a,p,h,i,h1,h2=>U7 r j (a+1) p h.tk i h1 h2
 |.nd k q r,j,a,p,h,i,h1,h2=>by
  obtain⟨g1,g2,g3,g4⟩:=h.nd
  have e1:sz (.nd k q r)=sz q+1+sz r:=rfl
  rw[e1]at h2 ⊢
  have e2:tls j (.nd k q r)=tls (j+sz q+1) r++[j+sz q]:=rfl
  have hroot:ChOK N P (j+sz q) (tls j q):=by
   have:=ch_tls q j a (p+1) 0 [] g1 rfl
   rw[Bp,Bf]at this
   refine⟨by rw[g3];show 1≤sz q+1;omega,?_⟩
   rw[g3,g4]
   show CH N P (j+sz q) (sz q+1-1) (p+(sz q+1)) (tls j q)
   rw[show p+(sz q+1)=p+1+sz q by omega,Nat.add_sub_cancel]
   exact this
  rcases Nat.lt_trichotomy i (j+sz q)with c|c|c
  · obtain⟨q1,q2⟩:=U7 q j a (p+1) g1 i h1 c
    refine⟨q1,.inr ?_⟩
    rcases q2 with q2|⟨i',C,q3,q4,q5⟩
    · exact⟨j+sz q,_,c,by omega,hroot,q2⟩
    · exact⟨i',C,q3,by omega,q5⟩
  · subst c
    exact⟨⟨_,hroot⟩,.inl (by rw[e2];simp)⟩
  · obtain⟨q1,q2⟩:=U7 r (j+sz q+1) (a+wid q) (p+sz q+1) g2 i (by omega) (by omega)
    refine⟨q1,?_⟩
    rcases q2 with q2|⟨i',C,q3,q4,q5⟩
    · exact .inl (by rw[e2];exact B7 _ q2)
    · exact .inr ⟨i',C,q3,by omega,q5⟩
theorem ch_uniq {N:List Nd} {P:List Nat}:∀(C C':List Nat) (k1 left e:Nat),CH N P k1 left e C→CH N P k1 left e C'→C=C'
 |[],[],_,_,_,_,_=>rfl
 |[],c::C',_,left,_,h,h'=>by have h:left=0:=h;have:=h'.2.2.1;have:=h'.2.2.2.1;omega
 |c::C,[],_,left,_,h,h'=>by have h':left=0:=h';have:=h.2.2.1;have:=h.2.2.2.1;omega
 |c::C,c'::C',k1,left,e,h,h'=>by
  have:c=c':=by have:=h.1;have:=h'.1;omega
  subst this
  rw[ch_uniq C C' _ _ _ h.2.2.2.2.2.2.2 h'.2.2.2.2.2.2.2]
theorem Sr:∀(F:Fr) (a p:Nat) (i:Nat),i<sz F→p≤(P3 p F).getD i 0∧(P3 p F).getD i 0<p+sz F∧(pre a F).getD ((P3 p F).getD i 0-p) ⟨0,0,0,0⟩=(post a F).getD i ⟨0,0,0,0⟩
 |.nil,a,p,i,h=>by have:i<0:=h;omega
 |.tk t r,a,p,i,h=>Sr r (a+1) p i h
 |.nd k q r,a,p,i,h=>by
  have e0:sz (.nd k q r)=sz q+1+sz r:=rfl
  have e1:post a (.nd k q r)=post a q++⟨k,a,a+wid q,sz q+1⟩::post (a+wid q) r:=rfl
  have e2:P3 p (.nd k q r)=P3 (p+1) q++p::P3 (p+sz q+1) r:=rfl
  have e3:pre a (.nd k q r)=⟨k,a,a+wid q,sz q+1⟩::(pre a q++pre (a+wid q) r):=rfl
  rw[e0]at h ⊢
  rw[e1,e2,e3]
  simp only[A0]
  rcases Nat.lt_trichotomy i (sz q)with c|c|c
  · obtain⟨h1,h2,h3⟩:=Sr q a (p+1) i c
    simp only[A0]at h1 h2 h3
    rw[Ii (by rw[Gh];exact c),Ii (by rw[post_len];exact c)]
    refine⟨by omega,by omega,?_⟩
    rw[←h3,show(P3 (p+1) q)[i]?.getD 0-p=((P3 (p+1) q)[i]?.getD 0-(p+1))+1 by omega,Ke,Ii (by rw[I5];omega)]
  · subst c
    rw[Fy (by rw[Gh];exact Ag _),Fy (by rw[post_len];exact Ag _),Gh,post_len,Nat.sub_self]
    refine⟨Ag _,by show p<_;omega,?_⟩
    show(_::_)[p-p]?.getD _=_
    rw[Nat.sub_self];rfl
  · obtain⟨h1,h2,h3⟩:=Sr r (a+wid q) (p+sz q+1) (i-(sz q+1)) (by omega)
    simp only[A0]at h1 h2 h3
    rw[Fy (by rw[Gh];omega),Fy (by rw[post_len];omega),Gh,post_len,show i-sz q=i-(sz q+1)+1 by omega,Ke,Ke]
    refine⟨by omega,by omega,?_⟩
    rw[←h3,show(P3 (p+sz q+1) r)[i-(sz q+1)]?.getD 0-p=((P3 (p+sz q+1) r)[i-(sz q+1)]?.getD 0-(p+sz q+1)+sz q)+1 by omega,Ke,Fy (by rw[I5];omega),I5,Nat.add_sub_cancel]
theorem Sq:∀(F:Fr) (p y:Nat),p≤y→y<p+sz F→∃i,i<sz F∧(P3 p F).getD i 0=y
 |.nil,p,y,h1,h2=>by have:y<p:=h2;omega
 |.tk t r,p,y,h1,h2=>Sq r p y h1 h2
 |.nd k q r,p,y,h1,h2=>by
  have e0:sz (.nd k q r)=sz q+1+sz r:=rfl
  have e2:P3 p (.nd k q r)=P3 (p+1) q++p::P3 (p+sz q+1) r:=rfl
  rw[e0]at h2 ⊢
  rw[e2]
  simp only[A0]
  by_cases c:y=p
  · subst c
    refine⟨sz q,by omega,?_⟩
    rw[Fy (by rw[Gh];exact Ag _),Gh,Nat.sub_self];rfl
  · by_cases d:y<p+1+sz q
    · obtain⟨i,g1,g2⟩:=Sq q (p+1) y (by omega) d
      refine⟨i,by omega,?_⟩
      rw[Ii (by rw[Gh];exact g1),←A0];exact g2
    · obtain⟨i,g1,g2⟩:=Sq r (p+sz q+1) y (by omega) (by omega)
      refine⟨i+(sz q+1),by omega,?_⟩
      rw[Fy (by rw[Gh];omega),Gh,show i+(sz q+1)-sz q=i+1 by omega,Ke,←A0];exact g2
structure AhOK (N T:List Nd) (P:List Nat):Prop where
 n:N.length=T.length
 l:P.length=N.length
 c:∀i,i<N.length→∃C,ChOK N P i C
 b:∀i,i<N.length→i+1=N.length∨∃i' C,i<i'∧i'<N.length∧ChOK N P i' C∧i∈C
 r:∀i,i+1=N.length→P.getD i 0=0
 t:∀i,i<N.length→P.getD i 0<N.length∧nN T (P.getD i 0)=nN N i
 s:∀y,y<N.length→∃i,i<N.length∧P.getD i 0=y
theorem ahOK (k:Nat) (q:Fr):AhOK (post 0 (.nd k q .nil)) (pre 0 (.nd k q .nil)) (P3 0 (.nd k q .nil)):=by
 have hS:Sg (post 0 (.nd k q .nil)) (P3 0 (.nd k q .nil)) 0 0 0 (.nd k q .nil):=⟨⟨[],[],by simp,rfl⟩,⟨[],[],by simp,rfl⟩⟩
 have hl:=post_len (.nd k q .nil) 0
 have e0:sz (.nd k q .nil)=sz q+1:=rfl
 refine⟨by rw[post_len,I5],by rw[Gh,post_len],fun i hi=>?_,fun i hi=>?_,fun i hi=>?_,fun i hi=>?_,fun y hy=>?_⟩
 · exact(U7 _ 0 0 0 hS i (B9 _) (by omega)).1
 · rcases(U7 _ 0 0 0 hS i (B9 _) (by omega)).2 with h|⟨i',C,h1,h2,h3⟩
   · left
     have:i=0+sz q:=Co.1 h
     omega
   · exact .inr ⟨i',C,h1,by omega,h3⟩
 · have:=hS.nd.2.2.2
   rw[show i=0+sz q by omega];exact this
 · obtain⟨h1,h2,h3⟩:=Sr (.nd k q .nil) 0 0 i (by omega)
   exact⟨by omega,h3⟩
 · obtain⟨i,h1,h2⟩:=Sq (.nd k q .nil) 0 y (B9 _) (by omega)
   exact⟨i,by omega,h2⟩
abbrev Pc:=Nat×Nat×Nat
def pcG (L:List (Nat×Nat)) (n i j:Nat):Pc:=if j<i then((L.getD j (0,0)).1,(if j+1<i then(L.getD (j+1) (0,0)).1 else n),(L.getD j (0,0)).2)else(0,0,0)
def pcs (L:List (Nat×Nat)) (n i:Nat):List Pc:=(List.range L.length).map (pcG L n i)
theorem Fq (L:List (Nat×Nat)) (n i:Nat):(pcs L n i).length=L.length:=by unfold pcs;rw[Ct,List.length_range]
theorem Lk (L:List (Nat×Nat)) (n i:Nat) {j:Nat} (h:j<(pcs L n i).length):(pcs L n i)[j]=pcG L n i j:=by
 have h':j<((List.range L.length).map (pcG L n i)).length:=h
 have:((List.range L.length).map (pcG L n i))[j]'(h')=pcG L n i j:=by rw[List.getElem_map,List.getElem_range]
 exact this
theorem pcs_0 (L:List (Nat×Nat)) (n:Nat):pcs L n 0=List.replicate L.length (0,0,0):=by
 refine List.ext_getElem (by rw[Fq,Fj]) fun j h1 h2=>?_
 rw[Lk,List.getElem_replicate];rfl
theorem pcs_1 {L:List (Nat×Nat)} {n i:Nat} (hi:i<L.length):(pcs L n 0).set 0 (L[0].1,n,L[0].2)=pcs L n 1:=by
 refine List.ext_getElem (by rw[E8,Fq,Fq]) fun j h1 h2=>?_
 rw[List.getElem_set,Lk,Lk]
 unfold pcG
 split
 · rename_i e
   subst e
   rw[if_pos (by decide),if_neg (by decide),A0,B8 (by omega)];rfl
 · rw[if_neg (by omega),if_neg (by omega)]
theorem pcs_s {L:List (Nat×Nat)} {n i:Nat} (hi:i+1<L.length):((pcs L n (i+1)).set (i+1) (L[i+1].1,n,L[i+1].2)).set i (L[i].1,L[i+1].1,L[i].2)=pcs L n (i+2):=by
 have e1:L.getD i (0,0)=L[i]:=by rw[A0,B8 (by omega)];rfl
 have e2:L.getD (i+1) (0,0)=L[i+1]:=by rw[A0,B8 hi];rfl
 refine List.ext_getElem (by rw[E8,E8,Fq,Fq]) fun j h1 h2=>?_
 rw[List.getElem_set,List.getElem_set,Lk,Lk]
 unfold pcG
 by_cases c1:i=j
 · subst c1
   rw[if_pos rfl,if_pos (by omega),if_pos (by omega),e1,e2]
 rw[if_neg c1]
 by_cases c2:i+1=j
 · subst c2
   rw[if_pos rfl,if_pos (by omega),if_neg (by omega),e2]
 rw[if_neg c2]
 by_cases c3:j<i
 · rw[if_pos (by omega),if_pos (by omega),if_pos (by omega),if_pos (by omega)]
 · rw[if_neg (by omega),if_neg (by omega)]
structure Chn (a b:Nat) (P:List Pc):Prop where
 ne:0<P.length
 f:(P.getD 0 (0,0,0)).1=a
 w:∀i,i<P.length→(P.getD i (0,0,0)).1<(P.getD i (0,0,0)).2.1∧(P.getD i (0,0,0)).2.1≤b∧a≤(P.getD i (0,0,0)).1∧(P.getD i (0,0,0)).2.2≤500000
 c:∀i,i+1<P.length→(P.getD i (0,0,0)).2.1=(P.getD (i+1) (0,0,0)).1
 l:(P.getD (P.length-1) (0,0,0)).2.1=b
theorem Zg {L:List (Nat×Nat)} (h:L.Pairwise fun a b=>a.1<b.1) {i j:Nat} (hij:i<j) (hj:j<L.length):(L.getD i (0,0)).1<(L.getD j (0,0)).1:=by
 rw[A0,A0,B8 (by omega),B8 hj]
 exact List.pairwise_iff_getElem.1 h i j (by omega) hj hij
theorem chn_pcs {L:List (Nat×Nat)} {n:Nat} (h:L.Pairwise fun a b=>a.1<b.1) (h0:0∈L.map (·.1)) (hl:∀p∈L,p.1<n∧p.2≤500000):Chn 0 n (pcs L n L.length):=by
 have hg:∀i,i<L.length→(pcs L n L.length).getD i (0,0,0)=((L.getD i (0,0)).1,(if i+1<L.length then(L.getD (i+1) (0,0)).1 else n),(L.getD i (0,0)).2):=by
  intro i hi
  rw[A0,B8 (by rw[Fq];exact hi)]
  exact(Lk L n L.length (by rw[Fq];exact hi)).trans (if_pos hi)
 have hm:∀i,i<L.length→L.getD i (0,0)∈L:=by
  intro i hi
  rw[A0,B8 hi]
  exact D8 _
 obtain⟨p,hp,hp0⟩:=Dz.1 h0
 obtain⟨i0,hi0,rfl⟩:=List.getElem_of_mem hp
 have hne:0<L.length:=by omega
 refine⟨by rw[Fq];exact hne,?_,?_,?_,?_⟩
 · rw[hg 0 hne]
   show(L.getD 0 (0,0)).1=0
   cases i0 with
   |zero=>rw[A0,B8 hne];exact hp0
   |succ i0=>
    have:=Zg h (Nat.succ_pos i0) hi0
    have e:L.getD (i0+1) (0,0)=L[i0+1]:=by rw[A0,B8 hi0];rfl
    rw[e]at this
    have hp0:L[i0+1].1=0:=hp0
    omega
 · intro i hi
   rw[Fq]at hi
   rw[hg i hi]
   have h1:=hl _ (hm i hi)
   refine⟨?_,?_,B9 _,h1.2⟩
   · show _<if i+1<L.length then(L.getD (i+1) (0,0)).1 else n
     split
     · rename_i h2;exact Zg h (Nat.lt_succ_self i) h2
     · exact h1.1
   · show(if i+1<L.length then(L.getD (i+1) (0,0)).1 else n)≤n
     split
     · rename_i h2;exact Nat.le_of_lt (hl _ (hm _ h2)).1
     · exact Ag _
 · intro i hi
   rw[Fq]at hi
   rw[hg i (by omega),hg (i+1) hi]
   exact if_pos hi
 · rw[Fq,hg _ (by omega)]
   exact if_neg (by omega)
def shP (d:Nat) (x:Pc):Pc:=(x.1+d,x.2.1+d,x.2.2)
theorem chn_sh {a b d:Nat} {P:List Pc} (h:Chn a b P):Chn (a+d) (b+d) (P.map (shP d)):=by
 have hg:∀i,i<P.length→(P.map (shP d)).getD i (0,0,0)=shP d (P.getD i (0,0,0)):=by
  intro i hi
  rw[A0,A0,G5,B8 hi];rfl
 have hn:=h.ne
 refine⟨by rw[Ct];exact h.ne,?_,?_,?_,?_⟩
 · rw[hg 0 hn];show _+d=_;rw[h.f]
 · intro i hi
   rw[Ct]at hi
   rw[hg i hi]
   obtain⟨h1,h2,h3,h4⟩:=h.w i hi
   exact⟨Nat.add_lt_add_right h1 d,Nat.add_le_add_right h2 d,Nat.add_le_add_right h3 d,h4⟩
 · intro i hi
   rw[Ct]at hi
   rw[hg i (by omega),hg (i+1) hi]
   show _+d=_+d
   rw[h.c i hi]
 · rw[Ct,hg _ (by omega)]
   show _+d=_
   rw[h.l]
end Go.Ps
