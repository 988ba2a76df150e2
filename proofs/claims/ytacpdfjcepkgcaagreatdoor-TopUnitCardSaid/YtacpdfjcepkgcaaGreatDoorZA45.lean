/- Part 45 of the lemmas behind the claim. -/
import Derived.Test.YtacpdfjcepkgcaaGreatDoorZA01
import Derived.Test.YtacpdfjcepkgcaaGreatDoorZA44
set_option linter.unusedSimpArgs false
set_option linter.unusedVariables false
set_option linter.constructorNameAsVariable false
set_option linter.unusedSectionVars false
set_option linter.defProp false
set_option maxRecDepth 100000
set_option maxHeartbeats 40000000
namespace Go.CE
open Go Go.Ps Go.Proofs.YtacpdfjcepkgcaaGreatDoor
attribute [local irreducible] loopK Tt Ai K0 N2 Dg fits rd rd1 wr newC Kj Fk Fa Ve Oe Kq eqA
noncomputable def P7 (l:List Tk):Nat→PS→Option PS
 |0,_=>none
 |u+1,s=>if s.at'<l.length then(match run M0 .external l s with
  |.ok _ s'=>P7 l u s'
  |_=>none)else some s
theorem T7 {l:List Tk}:∀(u:Nat) (s s':PS),P7 l u s=some s'→Btw l s→Units l s.ty s.at'
 |0,s,s',h,hb=>by cases h
 |u+1,s,s',h,hb=>by
  unfold P7 at h
  split at h
  · have hno:=Ky hb
    cases e:run M0 .external l s with
    |ok v s1=>
     rw[e]at h hno
     exact .ext hb e (T7 u s1 s' h hno.2.1)
    |fail=>rw[e]at h;cases h
    |out=>rw[e]at h;cases h
  · have:=hb.a
    rw[show s.at'=l.length by omega];exact .fin
theorem unit_eq {E:PEnv} {n:Nat} (hn:22200100≤n) {c4:Pos} {ty:List Nat→Bool} {kp:KP} {h:H} {nx:Pos} {R:List Av} {k:K} (hl:E.l.length≤20000) (P:PI E h nx (s0 ty) ((c4,.row [.p E.pp 0] 58)::R))
 (hfail:P7 E.l (E.l.length+1) (s0 ty)=none→∀h' nx' s',PI E h' nx' s' ((c4,.row [.p E.pp 0] 58)::R)→kp h' nx'=true)
 (hok:∀s F,P7 E.l (E.l.length+1) (s0 ty)=some s→Btw E.l s→At E.l (s0 ty) F s→∀h' nx',PI E h' nx' {s with done:=s.done++[(⟨1,0,s.at',s.done.length+1⟩:Nd)]} ((c4,.row [.p E.pp 0] 58)::R)→k (.tu []) h' nx'=true):Ai gg n kp (.fn 14 [.p c4 0]) [] h nx k=true:=by
 refine Ab hn (by omega) fun m hm=>?_
 have hlsl:E.lsl=.sl0∧E.l.length=0∨∃p o c,E.lsl=.sl p o E.l.length c:=by
  obtain⟨C,hR,S⟩:=P
  rcases hR.tok.inv with⟨h1,h2,_⟩|⟨p,off,n,cap,LL,h1,h2,h3,_⟩
  · exact .inl ⟨h1,by rw[Dh B6 (by omega) h2];rfl⟩
  · exact .inr ⟨p,off,cap,by rw[h1,El B6 (by omega) h2 h3]⟩
 generalize hR0:P7 E.l (E.l.length+1) (s0 ty)=R0 at hfail hok
 repeat' ((conv=>lhs;whnf);first
  |refine Af ‹_› 0 rfl (Aa rfl) ?_
  |refine B4 (F:=True) (s:=s0 ty) (by omega) ‹_› (Q:=fun v s'=>v=⟨0,0⟩) (show(⟨0,0⟩:Stt)=⟨0,0⟩from rfl) (fun h' nx2 hq P=>?_)
  |refine Bl ‹_› rfl (fun h' P=>?_)
  |refine B5 ‹_› 0 rfl (Aa rfl) rfl (fun h' P=>?_))
 conv=>lhs;whnf
 refine Br (L:=[0,1]) rfl (fun m vs d' h' nx'=>∃(s:PS) (F:Fr) (u:Nat),P7 E.l u s=R0∧E.l.length+1≤u+s.at'∧E.l.length-s.at'=m∧Btw E.l s∧At E.l (s0 ty) F s∧PI E h' nx' s ((nx2,.row [iA 0,iA 0] 68)::(c4,.row [.p E.pp 0] 58)::R)∧d'=[]∧vs=[.p c4 0,.p nx2 0]) E.l.length (by omega) ⟨s0 ty,.nil,_,hR0,by omega,rfl,btw0 hl ty,At.nil,by assumption,rfl,rfl⟩ ?_
 rintro m3 _ d' h' nx' ⟨s,F,u,hu1,hu2,rfl,hb,hA,P,rfl,rfl⟩ k' hn' hx
 have hba:=hb.a
 have hno:=Ky hb
 have hexit:E.l.length≤s.at'→R0=some s:=fun hge=>by
  obtain⟨u,rfl⟩:∃v,u=v+1:=⟨u-1,by omega⟩
  unfold P7 at hu1
  rw[if_neg (by omega)]at hu1
  exact hu1.symm
 have hext:s.at'<E.l.length→∀ {n:Nat} {h:H} {nx:Pos} {k:K} {R:List Av},22200000≤n→PI E h nx s R→(R0=none→∀h' nx' s',PI E h' nx' s' R→kp h' nx'=true)→(∀v s' h' nx',run M0 .external E.l s=.ok v s'→PI E h' nx' s' R→k (.tu []) h' nx'=true)→Ai gg n kp (.fn 16 []) [.p E.pp 0] h nx k=true:=fun hlt {n h nx k R} hn P hf hk=>by
  refine(all_ok (E:=E) M0 (by decide)).external n 20000100 (Ag _) (by show 2100000+20000100≤n;omega) _ _ _ _ _ _ (fun v s'=>run M0 .external E.l s=.ok v s') (R0=none) P ?_ (fun v s' h' nx' hq P=>hk v s' h' nx' hq P) hf
  obtain⟨u,rfl⟩:∃v,u=v+1:=⟨u-1,by omega⟩
  unfold P7 at hu1
  rw[if_pos hlt]at hu1
  show W (run M0 .external E.l s) _ _ False
  cases e:run M0 .external E.l s with
  |ok v s'=>exact rfl
  |fail=>rw[e]at hu1;exact hu1.symm
  |out=>rw[e]at hno;exact hno
 have hnode:∀ {n:Nat} {h:H} {nx:Pos} {k:K} {R:List Av},2≤n→PI E h nx s R→(∀h' nx',PI E h' nx' {s with done:=s.done++[(⟨1,0,s.at',s.done.length+1⟩:Nd)]} R→k (.tu []) h' nx'=true)→Ai gg n kp (.fn 17 []) [.p E.pp 0,iA 1,stA ⟨0,0⟩] h nx k=true:=fun {n h nx k R} hn P hk=>by
  refine Ca (F:=True) hn P (by decide) (Q:=fun _ s'=>s'={s with done:=s.done++[(⟨1,0,s.at',s.done.length+1⟩:Nd)]}) ?_ (fun s' h' nx' hq P=>by rw[hq]at P;exact hk h' nx' P)
  unfold Cl
  rw[if_pos ⟨by have:=hb.d;have:=hb.l;show _<10000000;omega,B9 _⟩]
  exact rfl
 rcases hlsl with⟨hlsl,hl0⟩|⟨p,o,c,hlsl⟩
 all_goals
  repeat' ((conv=>lhs;whnf);first
   |exact absurd hz (by(try simp only[Aj]at *);omega)
   |refine Af ‹_› 0 rfl (Aa rfl) ?_
   |refine Af ‹_› 1 rfl (Aa rfl) ?_
   |refine An ‹_› 0 rfl (Aa rfl) ?_
   |refine Bd ‹_› fun hat'=>?_
   |(refine pi_rdL ‹_› ?_;rw[hlsl])
   |(refine hext (by omega) (by omega) ‹_› (fun hr h' nx' s' P=>hfail hr h' nx' s' P.tail) (fun v s' h' nx' hrun P=>?_))
   |refine hnode (by omega) ‹_› (fun h' nx' P=>?_)
   |(refine hx _ _ _ _ _ trivial ?_)
   |exact hok s F (hexit (by(try simp only[Aj]at *);omega)) hb hA _ _ (PI.tail ‹_›)
   |contradiction
   |refine Be fun h' S=>?_
   |refine C8 fun h' S=>?_
   |refine Bj ?_
   |refine C9 ?_
   |refine Bi ?_
   |refine seqt ?_
   |refine Bg ?_
   |refine Bc ?_
   |refine Aq ?_
   |refine Ar ?_
   |refine Bh ?_
   |(first|refine C4 ?_ ?_|refine Dt ?_ ?_|refine Cu ?_ ?_|refine new ?_ ?_)<;>intro hc hz<;>(try simp only[Aj]at hz)<;>try rewrite [hc])
 conv=>lhs;whnf
 have hlt:s.at'<E.l.length:=(by(try simp only[Aj]at *);omega)
 obtain⟨u,rfl⟩:∃v,u=v+1:=⟨u-1,by omega⟩
 unfold P7 at hu1
 rw[if_pos hlt,hrun]at hu1
 rw[hrun]at hno
 obtain⟨h1,h2,h3⟩:=hno
 obtain⟨G,hG,_,_⟩:=Rb hrun
 exact hn' _ _ _ _ (E.l.length-s'.at') (by omega) ⟨s',Fr.app F G,u,hu1,by omega,rfl,h2,hA.comp hG,P,rfl,rfl⟩
theorem perm_P {a b c:Av} {X L R:List Av}:(a::b::c::(X++(L++R))).Perm (b::c::((a::R)++(L++X))):=by
 classical exact Ie.2 fun e=>by simp only[List.count_append,List.count_cons];omega
theorem perm_Q {a b c:Av} {X L R D C B:List Av}:(a::b::((c::R)++(L++(D++(C++(B++X)))))).Perm (a::c::(D++(b::(C++(B++X))++(L++R)))):=by
 classical exact Ie.2 fun e=>by simp only[List.count_append,List.count_cons];omega
theorem T6 {n:Nat} (hn:22200200≤n) {l:List Tk} {lsl:AV} {EL:List Av} (htok:SlA 2 54 lsl (l.flatMap Du) EL) (hl:l.length≤20000) {kp:KP} {h:H} {nx:Pos} {R:List Av} (S:Sat h nx (EL++R)) {k:K}
 (hk1:∀e h' nx',e≠0→Le 0 l=true∨P7 l (l.length+1) (s0 fun _=>false)=none→Sat h' nx' (EL++R)→k (.tu [.sl0,.i .i64 e]) h' nx'=true)
 (hk2:∀s r h' nx',Le 0 l=false→P7 l (l.length+1) (s0 fun _=>false)=some s→Sat h' nx' (EL++R)→k (.tu [.sl r 0 (s.done.length+1) (.k (s.done.length+1)),.i .i64 0]) h' nx'=true):Ai gg n kp (.fn 5 []) [lsl] h nx k=true:=by
 have hlst:∀ {A:List Av},(∀e∈EL,e∈A)→Kz 2 54 Du l lsl A:=fun hA=>sla_lst B6 (by decide) htok hA
 refine Ab hn (by omega) fun m hm=>?_
 cases htd:Le 0 l with
 |true=>
  repeat' ((conv=>lhs;whnf);first
   |(refine Og (l:=l) (by omega) (hlst fun e he=>B7 R he) (by omega) ‹_› (fun h' nx' S=>?_);rw[htd])
   |exact hk1 _ _ _ (by decide) (.inl htd) ‹_›
   |contradiction
   |refine Be fun h' S=>?_
   |refine C8 fun h' S=>?_
   |refine Bj ?_
   |refine C9 ?_
   |refine Bi ?_
   |refine seqt ?_
   |refine Bg ?_
   |refine Bc ?_
   |refine Aq ?_
   |refine Ar ?_
   |refine Bh ?_)
 |false=>
  have hsim:lsl=.sl0∨∃p o n c,lsl=.sl p o n c:=by
   rcases htok.inv with⟨h1,_⟩|⟨p,off,n,cap,LL,h1,_⟩
   · exact .inl h1
   · exact .inr ⟨_,_,_,_,h1⟩
  rcases hsim with rfl|⟨p,o,n,c,rfl⟩
  all_goals
   repeat' ((conv=>lhs;whnf);first
    |(refine Og (l:=l) (by omega) (hlst fun e he=>B7 R he) (by omega) ‹_› (fun h' nx' S=>?_);rw[htd])
    |refine new_eq (by omega) ‹_› (fun sc X h' nx' hX S=>?_)
    |refine Ry (by omega) ‹_› (fun mp h' nx' S=>?_)
    |refine A6 ‹_› (.row _ 66) (Dq _ 66) (fun h' S=>?_)
    |refine fits_w (by omega) (fun m2 hm2=>?_)
    |contradiction
    |refine Be fun h' S=>?_
    |refine C8 fun h' S=>?_
    |refine Bj ?_
    |refine C9 ?_
    |refine Bi ?_
    |refine seqt ?_
    |refine Bg ?_
    |refine Bc ?_
    |refine Aq ?_
    |refine Ar ?_
    |refine Bh ?_
    |(first|refine C4 ?_ ?_|refine Dt ?_ ?_|refine Cu ?_ ?_|refine new ?_ ?_)<;>intro hc hz<;>(try simp only[Aj]at hz)<;>try rewrite [hc])
  all_goals
   conv=>lhs;whnf
   have hb0:=btw0 hl (fun _=>false)
   have S9:Sat _ _ _:=(by assumption:Sat _ _ (((Ad nx',OB.row [.p nx' 0] 58)::(nx',.row [_,.i .i64 0,.sl0,.p sc 0,.m mp,.sl0,.sl0] 66)::(mp,.map fun _=>none)::(X++(EL++R)))))
   have P:=pi_start (R:=(Ad nx',.row [.p nx' 0] 58)::R) hX htok hl (S9.perm perm_P)
   clear S9
   refine unit_eq (E:=⟨l,nx',sc,fun _=>false,X,[],_,EL⟩) (by omega) hl P ?_ ?_
   · intro hnone h2 nx2 s' P2
     have S9:=P2.sat
     have S9:Sat h2 nx2 (_::(R++(EL++X))):=S9
     have S9:=(S9.sub (.cons _ (.append (E7 R) (Al EL X)))).perm Jm
     repeat' ((conv=>lhs;whnf);first
      |exact hk1 _ _ _ (by decide) (.inr hnone) ‹_›
      |contradiction
      |refine Be fun h' S=>?_
      |refine C8 fun h' S=>?_
      |refine Bj ?_
      |refine C9 ?_
      |refine Bi ?_
      |refine seqt ?_
      |refine Bg ?_
      |refine Bc ?_
      |refine Aq ?_
      |refine Ar ?_
      |refine Bh ?_)
   · intro s F hsome hb hA h2 nx2 P2
     obtain⟨C,hR,S⟩:=P2
     have hdone:s.done=Fr.post 0 F:=hA.d
     have hat:s.at'=0+Fr.wid F:=hA.a
     have hdone2:s.done++[(⟨1,0,s.at',s.done.length+1⟩:Nd)]=Fr.post 0 (.nd 1 F .nil):=by
      rw[hdone,hat,Nk];rfl
     have hb5:=hb.d
     have hb6:s.at'≤l.length:=hb.a
     have hlen:(Fr.post 0 (.nd 1 F .nil)).length=s.done.length+1:=by rw[←hdone2,Bb];rfl
     have hszF:Fr.sz (.nd 1 F .nil)=s.done.length+1:=by rw[←hlen,Nk]
     obtain⟨pd,LLd,hdnv,hED,hM⟩:∃pd LLd,C.dn=.sl pd 0 (Fr.post 0 (.nd 1 F .nil)).length (.u 4)∧C.ED=[(pd,.row LLd 132)]∧NdM (Fr.post 0 (.nd 1 F .nil)) pd 0 LLd:=by
      have hdn:GrA 4 132 C.dn ((s.done++[(⟨1,0,s.at',s.done.length+1⟩:Nd)]).flatMap Dy) C.ED:=hR.dn
      rw[hdone2]at hdn
      rcases hdn.inv with⟨_,h2,_⟩|⟨p,n,LL,h1,h2,h3,h4⟩
      · have:=Dh Ed (by omega) h2
        rw[this]at hlen
        simp at hlen
      · have:=El (off:=0) Ed (by omega) h2 (by omega)
        subst this
        exact⟨p,LL,h1,h4,h2,by omega⟩
     have S9:=S
     unfold PA at S9
     dsimp only at S9
     rw[hdnv]at S9
     rw[hED]at S9
     have S9:=S9.perm perm_Q
     clear S
     have hO:=ahOK 1 F
     have hpre:(pre 0 (.nd 1 F .nil)).length=s.done.length+1:=by rw[←hO.n];exact hlen
     repeat' ((conv=>lhs;whnf);first
      |refine ahead_eq (cap:=.u 4) (by omega) hM hO (by omega) (by omega) (fun i hi=>by have:=Ty _ 0 _ (nN_mem hi);omega) (by exact Gm (i:=2) rfl) S9 (fun r h' nx' S=>?_)
      |contradiction
      |refine Be fun h' S=>?_
      |refine C8 fun h' S=>?_
      |refine Bj ?_
      |refine C9 ?_
      |refine Bi ?_
      |refine seqt ?_
      |refine Bg ?_
      |refine Bc ?_
      |refine Aq ?_
      |refine Ar ?_
      |refine Bh ?_
      |(first|refine C4 ?_ ?_|refine Dt ?_ ?_|refine Cu ?_ ?_|refine new ?_ ?_)<;>intro hc hz<;>(try simp only[Aj]at hz)<;>try rewrite [hc])
     conv=>lhs;whnf
     rw[hlen]
     exact hk2 s r _ _ htd hsome (Sat.right (C:=C.EC++(C.EB++X)) (Sat.right (C:=[_,_,_,_,_]) ‹_›))
open Go Go.Ps Go.Ps.Fr Go.Proofs.YtacpdfjcepkgcaaGreatDoor
theorem reaches_ok {n:Nat} (hn:2≤n) {p:Pos} {off len:Nat} {cap:Cap} {kp:KP} {h:H} {nx:Pos} {A:List Av} (S:Sat h nx A) {k:K} (hk:∀h',Sat h' (Ad nx) ((nx,.row [.sl p off len cap] 24)::A)→k (.fn 157 [.p nx 0]) h' (Ad nx)=true):Ai gg n kp (.fn 109 []) [.sl p off len cap] h nx k=true:=by
 refine Ab hn (by omega) fun m hm=>?_
 repeat' ((conv=>lhs;whnf);first
  |exact hk _ ‹_›
  |contradiction
  |refine Be fun h' S=>?_
  |refine C8 fun h' S=>?_
  |refine Bj ?_
  |refine C9 ?_
  |refine Bi ?_
  |refine seqt ?_
  |refine Bg ?_
  |refine Bc ?_
  |refine Aq ?_
  |refine Ar ?_
  |refine Bh ?_)
theorem X8 {α:Type} {f:α→List AV} {es:Nat} (hf:∀a,(f a).length=es):∀(l:List α) (c:Nat),(l.take c).flatMap f=(l.flatMap f).take (c*es)
 |[],c=>by rw[List.take_nil];exact(List.take_nil).symm
 |a::l,0=>by rw[List.take_zero,Nat.zero_mul,List.take_zero];rfl
 |a::l,c+1=>by
  rw[List.take_succ_cons,Fi,Fi,X8 hf l c,show(c+1) * es=(f a).length+c*es by rw[hf,Nat.add_mul];omega,List.take_length_add_append]
theorem flat_pre {α:Type} {f:α→List AV} {es:Nat} (hf:∀a,(f a).length=es) {l:List α} {LL:List AV} {off c:Nat} (h1:(LL.drop off).take (l.length*es)=l.flatMap f) (hc:(l.take c).length=c) (hcl:c≤l.length):(LL.drop off).take ((l.take c).length*es)=(l.take c).flatMap f:=by
 rw[hc,X8 hf,←h1,List.take_take,Nat.min_eq_left (Kb _ hcl)]
theorem perm_X1 {a b c d e f p:Av} {X R F:List Av}:((a::b::c::d::e::f::p::(X++R))++F).Perm (p::(X++(a::b::c::d::e::f::(R++F)))):=by
 classical exact Ie.2 fun e=>by simp only[List.count_append,List.count_cons];omega
theorem perm_X2 {r a b c d e f p:Av} {X R F:List Av}:(r::p::(X++(a::b::c::d::e::f::(R++F)))).Perm ((r::a::b::c::d::e::f::p::(X++R))++F):=by
 classical exact Ie.2 fun e=>by simp only[List.count_append,List.count_cons];omega
theorem external_n {n:Nat} (hn:22200000≤n) {l:List Tk} {z:Nat} (hz:z=l.length) {p:Pos} {off:Nat} {cap:Cap} {LL:List AV} (h1:(LL.drop off).take (l.length*2)=l.flatMap Du) (h2:off+l.length*2≤LL.length) (hl:l.length≤20000) (htd:Le 0 l=false) {sc:Pos} {tau:List Nat→Bool} {c:Nat} {X:List Av} (hX:Tf sc tau c X) (hc:c≤900000)
 {kp:KP} {h:H} {nx:Pos} {R:List Av} (S:Sat h nx ((p,.row LL 54)::(X++R))) {k:K}
 (hk1:run M0 .external l (s0 tau)=.fail→∀h' nx',Sat h' nx' ((p,.row LL 54)::(X++R))→k (.tu [.sl0,.i .i64 0,.i .i64 110]) h' nx'=true)
 (hk2:∀v s' kk q,run M0 .external l (s0 tau)=.ok v s'→At l (s0 tau) (.nd kk q .nil) s'→∀r X' h' nx',Tf sc s'.ty (c+s'.dl.length) X'→Sat h' nx' ((r,.row ((pre 0 (.nd kk q .nil)).flatMap Dy) 132)::(p,.row LL 54)::(X'++R)) →
   k (.tu [.sl r 0 (pre 0 (.nd kk q .nil)).length (.k (pre 0 (.nd kk q .nil)).length),iA s'.at',.i .i64 0]) h' nx'=true):Ai gg n kp (.fn 110 []) [.sl p off z cap,.p sc 0] h nx k=true:=by
 subst hz
 exact external_eq hn h1 h2 hl htd hX hc S hk1 fun v s' G hr hA hG r X' h' nx' hX' S'=>by
  obtain⟨kk,q,rfl⟩:=hG
  exact hk2 v s' kk q hr hA r X' h' nx' hX' S'
theorem Tf.mono {sc:Pos} {tau:List Nat→Bool} {c c':Nat} {X:List Av} (h:Tf sc tau c X) (hc:c≤c'):Tf sc tau c' X:=by
 obtain⟨mp,bq,D,blv,BL,XB,h1,h2,h3,h4,h5⟩:=h
 exact⟨mp,bq,D,blv,BL,XB,h1,h2,h3,h4,by omega⟩
theorem ext59_eq {n:Nat} (hn:22300000≤n) {L:List Tk} {s s':PS} {v:Val} (hb:Btw L s) (hr:run M0 .external L s=.ok v s') (hc0:∀t∈L,t.c≠0) (htd:Le 0 L=false) {p:Pos} {off cc:Nat} (hcc:(L.drop s.at').length≤cc+1) {LL:List AV} (h1:(LL.drop off).take ((L.drop s.at').length*2)=(L.drop s.at').flatMap Du) (h2:off+(L.drop s.at').length*2≤LL.length) {sc:Pos} {c:Nat} {X:List Av} (hX:Tf sc s.ty c X) (hc:c≤800000) {kp:KP} {h:H} {nx:Pos} {R:List Av} (S:Sat h nx ((p,.row LL 54)::(X++R))) {k:K}
 (hk:∀kk q X' r h' nx',ok (.nd kk q .nil)→wid q=s'.at'-s.at'→sz q+1≤200000→Tf sc s'.ty (c+(s'.at'-s.at')) X'→Sat h' nx' ((r,.row ((pre 0 (.nd kk q .nil)).flatMap Dy) 132)::(p,.row LL 54)::(X'++R)) →
   k (.tu [.sl r 0 (pre 0 (.nd kk q .nil)).length (.k (pre 0 (.nd kk q .nil)).length),iA (s'.at'-s.at'),.b true]) h' nx'=true):Ai gg n kp (.fn 59 []) [.sl p off (L.drop s.at').length (.k (cc+1)),.p sc 0] h nx k=true:=by
 have hno:=Ky hb
 rw[hr]at hno
 obtain⟨hat,hb2,hdn⟩:=hno
 have ha2:=hb2.a
 have hll:=hb.l
 obtain⟨l,hl⟩:∃l,L.drop s.at'=l:=⟨_,rfl⟩
 have hlen:l.length=L.length-s.at':=by rw[←hl,Ax]
 have hne:0<l.length:=by omega
 have hbeg:begB l[0] s.ty:=by
  have:=ext_beg hr
  have e:L.getD s.at' z0=l[0]:=by
   rw[A0,B8 (by omega)]
   show L[s.at']=_
   simp[←hl]
  rwa [e]at this
 have htl:∀n,Le 0 (l.take n)=false:=fun n=>Pj _ _ _ (by rw[←hl];exact Md _ _ _ htd)
 have hrch:=ext_rch hr hc0 htd
 have htk:=ext_take hb hr
 rw[hl]at hrch h1 h2 htk hcc ⊢
 refine Ab hn (by omega) fun m hm=>?_
 repeat' ((conv=>lhs;whnf);first
  |contradiction
  |exact(by omega:False).elim
  |(refine Gl B6 ‹_› (p:=p) (LL:=LL) (ty:=54) (by simp) h1 h2 (by omega) 0 hne rfl ?_
    skip)
  |refine begins_eq (t:=l[0]) (by omega) hX ‹_› (fun e he=>by simp[he]) (fun _ h' nx' S=>?_) (fun q=>absurd hbeg q)
  |refine reaches_ok (by omega) ‹_› (fun h' S=>?_)
  |contradiction
  |refine Be fun h' S=>?_
  |refine C8 fun h' S=>?_
  |refine Bj ?_
  |refine C9 ?_
  |refine Bi ?_
  |refine seqt ?_
  |refine Bg ?_
  |refine Bc ?_
  |refine Aq ?_
  |refine Ar ?_
  |refine Bh ?_
  |(first|refine C4 ?_ ?_|refine Dt ?_ ?_|refine Cu ?_ ?_|refine new ?_ ?_)<;>intro hc hz<;>(try simp only[Aj]at hz)<;>try rewrite [hc])
 conv=>lhs;whnf
 refine Ea 22200100 (reach_it h1 h2 (by omega) nx') (fun _=>rfl) (fun _=>rfl) ‹_› (by omega) (by omega)
  (fun C A'=>∃C0,Px l 0 0 0=C0++C∧(∀c∈C0,c<s'.at'-s.at')∧A'=(nx',.row [.sl p off l.length (.k (cc+1))] 24)::(Ad (Ad (Ad (Ad nx))),.row [.b false] 4)::(Ad (Ad (Ad nx)),.row [.i .i64 0] 3)::(Ad (Ad nx),.row [.sl0] 31)::(Ad nx,.row [.p sc 0] 43)::(nx,.row [.sl p off l.length (.k (cc+1))] 24)::(p,.row LL 54)::(X++R))
  (fun e A'=>e=.rt∧∃kk q X' r x24,ok (.nd kk q .nil)∧wid q=s'.at'-s.at'∧sz q+1≤200000∧Tf sc s'.ty (c+(s'.at'-s.at')) X'∧A'=(r,.row ((pre 0 (.nd kk q .nil)).flatMap Dy) 132)::(nx',.row [.sl p off l.length (.k (cc+1))] 24)::(Ad (Ad (Ad (Ad nx))),.row [.b true] 4)::(Ad (Ad (Ad nx)),.row [iA (s'.at'-s.at')] 3)::(Ad (Ad nx),.row [.sl r 0 (pre 0 (.nd kk q .nil)).length (.k (pre 0 (.nd kk q .nil)).length)] 31)::(Ad nx,.row [.p sc 0] 43)::(nx,.row [x24] 24)::(p,.row LL 54)::(X'++R))
  (fun A'=>⟨fun c=>(by cases c.1),fun _ c=>(by cases c.1)⟩) (by rintro C A' ⟨C0,_,_,rfl⟩;exact⟨Aw ..,by simp⟩) ⟨[],rfl,fun _ h=>absurd h (by simp),rfl⟩ ?_ ?_ ?_ (hm:=fun h=>⟨Am _ (Am _ h.1),Am _ (Am _ h.2)⟩)
 · rintro C _ C2 A' F1 F2 m2 lp mid K2 h nx2 ⟨c1,rfl,rfl⟩ hm2 ⟨C0,hC,hC0,rfl⟩ S hmid hn1 hx1
   have hcl:c1≤l.length:=by have:=rch_le l 0 0 0 c1 (by rw[hC];simp);omega
   have hlc:(l.take c1).length=c1:=by rw[Ci];omega
   have hcl2:c1≤L.length-s.at':=by omega
   have hF:∀u:Unit,run M0 .external (l.take c1) (s0 s.ty)=.fail→c1<s'.at'-s.at':=fun _ hf=>by
    by_cases hw:s'.at'-s.at'≤c1
    · obtain⟨s3,e1,_⟩:=(htk c1 hcl2).1 hw
      rw[hf]at e1;cases e1
    · omega
   have hO:∀v2 s2 kk q,run M0 .external (l.take c1) (s0 s.ty)=.ok v2 s2→At (l.take c1) (s0 s.ty) (.nd kk q .nil) s2→s2.at'=s'.at'-s.at'∧s2.ty=s'.ty∧s2.dl.length≤s'.at'-s.at'∧ok (.nd kk q .nil)∧wid q=s'.at'-s.at'∧sz q+1≤200000:=by
    intro v2 s2 kk q hr2 hA
    have hst:s2.at'=s'.at'-s.at'∧s2.ty=s'.ty:=by
     by_cases hw:s'.at'-s.at'≤c1
     · obtain⟨s3,e1,e2,e3⟩:=(htk c1 hcl2).1 hw
       rw[hr2]at e1;cases e1;exact⟨e2,e3⟩
     · have:=(htk c1 hcl2).2 (by omega)
       rw[hr2]at this;cases this
    have hno:=Ky (btw0 (l:=l.take c1) (by omega) s.ty)
    rw[hr2]at hno
    have hd1:=hno.2.1.dl
    have hd2:=hno.2.1.d
    have hpl:=Nk (.nd kk q .nil)
    have e1:s2.done=post 0 (.nd kk q .nil):=hA.d
    have e2:s2.at'=0+(wid q+0):=hA.a
    have e3:sz (.nd kk q .nil)=sz q+1+0:=rfl
    rw[e1,hpl,e3]at hd2
    exact⟨hst.1,hst.2,by omega,hA.o,by omega,by omega⟩
   repeat' ((conv=>lhs;whnf);first
    |exact(by omega:False).elim
    |refine hmid (_::_::_::_::_::_::_::(X++R)) _ _ _ ‹_› (fun h' S=>?_)
    |(refine external_n (l:=l.take c1) (by omega) hlc.symm (flat_pre B6 h1 hlc hcl) (by omega) (by omega) (htl c1) hX (by omega) (S.perm perm_X1) (fun hf h' nx3 S=>?_) (fun v2 s2 kk q hr2 hA r X' h' nx3 hX' S=>?_)
      all_goals first
       |(have hlt:=hF () hf
         replace S:=S.perm perm_X1.symm)
       |(obtain⟨g1,g2,g3,g4,g5,g6⟩:=hO v2 s2 kk q hr2 hA
         replace S:=S.perm perm_X2))
    |exact hn1 _ _ _ ⟨C0++[c1],by rw[hC,A4];rfl,fun x hx=>by
      rcases D9.1 hx with hx|hx
      · exact hC0 x hx
      · rw[Co.1 hx];exact hlt,rfl⟩ S
    |exact hx1 .rt _ _ _ ⟨rfl,kk,q,X',r,_,g4,g5,g6,by rw[←g2];exact hX'.mono (by omega),rfl⟩ (by rw[←g1];assumption)
    |contradiction
    |refine Be fun h' S=>?_
    |refine C8 fun h' S=>?_
    |refine Bj ?_
    |refine C9 ?_
    |refine Bi ?_
    |refine seqt ?_
    |refine Bg ?_
    |refine Bc ?_
    |refine Aq ?_
    |refine Ar ?_
    |refine Bh ?_
    |(first|refine C4 ?_ ?_|refine Dt ?_ ?_|refine Cu ?_ ?_|refine new ?_ ?_)<;>intro hc hz<;>(try simp only[Aj]at hz)<;>try rewrite [hc])
   skip
 · rintro C A' h3 nx3 rfl ⟨C0,hC,hC0,rfl⟩ S
   obtain⟨n1,q1,q2⟩:=hrch
   rw[hC,Bp]at q1
   exact absurd (hC0 _ q1) (by omega)
 · rintro e A' h3 nx3 ⟨rfl,kk,q,X',r,x24,g1,g2,g3,g4,rfl⟩ S
   repeat' ((conv=>lhs;whnf);first
    |refine A1 ‹_› 0 rfl ?_
    |refine Bm ‹_› 0 rfl (fun h' S=>?_)
    |exact hk kk q X' r _ _ g1 g2 g3 g4 (S.sub (.cons_cons _ (Gf [_,_,_,_,_,_] _)))
    |contradiction
    |refine Be fun h' S=>?_
    |refine C8 fun h' S=>?_
    |refine Bj ?_
    |refine C9 ?_
    |refine Bi ?_
    |refine seqt ?_
    |refine Bg ?_
    |refine Bc ?_
    |refine Aq ?_
    |refine Ar ?_
    |refine Bh ?_
    |(first|refine C4 ?_ ?_|refine Dt ?_ ?_|refine Cu ?_ ?_|refine new ?_ ?_)<;>intro hc hz<;>(try simp only[Aj]at hz)<;>try rewrite [hc])
   skip
structure PcD where
 f:Nat
 t:Nat
 b:Pos
 r:Pos
 P:List Pc
 kk:Nat
 q:Fr
def PcD.N (d:PcD):List Nd:=pre 0 (.nd d.kk d.q .nil)
def Re (d:PcD):List AV:=[iA d.f,iA d.t,.b true,.sl d.b 0 d.P.length (.k d.P.length),.sl d.r 0 d.N.length (.k d.N.length)]
theorem encQ_len (d:PcD):(Re d).length=5:=rfl
def Wh (d:PcD):List Av:=[(d.b,.row (d.P.flatMap Uy) 102),(d.r,.row (d.N.flatMap Dy) 132)]
structure PcOK (d:PcD):Prop where
 ch:Chn d.f d.t d.P
 o:ok (.nd d.kk d.q .nil)
 w:wid d.q=d.t-d.f
 s:sz d.q+1≤200000
 lt:d.f<d.t
def PcL:Nat→List PcD→Nat→Prop
 |a,[],b=>a=b
 |a,d::r,b=>d.f=a∧PcOK d∧PcL d.t r b
theorem PcL.snoc:∀ {Q:List PcD} {a b:Nat} {d:PcD},PcL a Q b→PcOK d→d.f=b→PcL a (Q++[d]) d.t
 |[],a,b,d,h,hd,hf=>⟨hf.trans (show b=a from Eq.symm h),hd,rfl⟩
 |e::r,a,b,d,h,hd,hf=>⟨h.1,h.2.1,PcL.snoc h.2.2 hd hf⟩
theorem PcL.le:∀ {Q:List PcD} {a b:Nat},PcL a Q b→a+Q.length≤b
 |[],a,b,h=>by have h:a=b:=h;show a+0≤b;omega
 |e::r,a,b,h=>by
  have h1:=h.2.1.lt
  have h2:=PcL.le h.2.2
  have h3:=h.1
  show a+(r.length+1)≤b
  omega
theorem ext59_n {n:Nat} (hn:22300000≤n) {L:List Tk} {s s':PS} {v:Val} (hb:Btw L s) (hr:run M0 .external L s=.ok v s') (hc0:∀t∈L,t.c≠0) (htd:Le 0 L=false) {p:Pos} {off z cz:Nat} (hz:z=(L.drop s.at').length) (hz0:0<z) (hcz:z≤cz) {o:Nat} (ho:o=off) {LL:List AV} (h1:(LL.drop off).take ((L.drop s.at').length*2)=(L.drop s.at').flatMap Du) (h2:off+(L.drop s.at').length*2≤LL.length) {sc:Pos} {c:Nat} {X:List Av} (hX:Tf sc s.ty c X) (hc:c≤800000) {kp:KP} {h:H} {nx:Pos} {R:List Av} (S:Sat h nx ((p,.row LL 54)::(X++R))) {k:K}
 (hk:∀kk q X' r h' nx',ok (.nd kk q .nil)→wid q=s'.at'-s.at'→sz q+1≤200000→Tf sc s'.ty (c+(s'.at'-s.at')) X'→Sat h' nx' ((r,.row ((pre 0 (.nd kk q .nil)).flatMap Dy) 132)::(p,.row LL 54)::(X'++R)) →
   k (.tu [.sl r 0 (pre 0 (.nd kk q .nil)).length (.k (pre 0 (.nd kk q .nil)).length),iA (s'.at'-s.at'),.b true]) h' nx'=true):Ai gg n kp (.fn 59 []) [.sl p o z (.k cz),.p sc 0] h nx k=true:=by
 subst hz;subst ho
 obtain⟨cc,rfl⟩:∃cc,cz=cc+1:=⟨cz-1,by omega⟩
 exact ext59_eq hn hb hr hc0 htd hcz h1 h2 hX hc S hk
theorem cuts_n {n:Nat} (hn:1200000≤n) {l:List Tk} {z o:Nat} (hz:z=l.length) {p:Pos} {off:Nat} (hoo:o=off) {cap:Cap} {LL:List AV} (h1:(LL.drop off).take (l.length*2)=l.flatMap Du) (h2:off+l.length*2≤LL.length) (hl:l.length≤20000) {kk:Nat} {q:Fr} (ho:ok (.nd kk q .nil)) (hw:wid q≤l.length) (hs:sz q+1≤200000) {w:Nat} (hw2:w=wid q) {r:Pos} {cr:Cap} {kp:KP} {h:H} {nx:Pos} {R:List Av} (S:Sat h nx ((r,.row ((pre 0 (.nd kk q .nil)).flatMap Dy) 132)::(p,.row LL 54)::R)) {k:K}
 (hk:∀P b h' nx',Chn 0 w P→Sat h' nx' ((b,.row (P.flatMap Uy) 102)::(r,.row ((pre 0 (.nd kk q .nil)).flatMap Dy) 132)::(p,.row LL 54)::R)→k (.sl b 0 P.length (.k P.length)) h' nx'=true):Ai gg n kp (.fn 60 []) [.sl p o z cap,.sl r 0 (pre 0 (.nd kk q .nil)).length cr,iA w] h nx k=true:=by
 subst hz;subst hw2;subst hoo
 exact cuts_eq hn h1 h2 hl ho hw hs rfl S hk
def shL (d:Nat) (P:List Pc) (i:Nat):List Pc:=(P.take i).map (shP d)++P.drop i
theorem Sn (d:Nat) (P:List Pc) (i:Nat):(shL d P i).length=P.length:=by
 unfold shL;rw[Bb,Ct,Ci,Ax];omega
theorem shL_all (d:Nat) (P:List Pc):shL d P P.length=P.map (shP d):=by
 unfold shL;rw[List.take_length,List.drop_length,Bp]
theorem shL_s {d:Nat} {P:List Pc} {i:Nat} (hi:i<P.length):(shL d P i).set i (shP d P[i])=shL d P (i+1):=by
 unfold shL
 have h2:((P.take i).map (shP d)).length=i:=by rw[Ct,Ci];omega
 rw[Ly hi]
 have:=Y4 ((P.take i).map (shP d)) P[i] (shP d P[i]) (P.drop (i+1))
 rw[h2]at this
 rw[this,Lz hi,Eo];rfl
theorem shL_g {d:Nat} {P:List Pc} {i:Nat} (hi:i<P.length) (h:i<(shL d P i).length):(shL d P i)[i]=P[i]:=by
 have h2:((P.take i).map (shP d)).length=i:=by rw[Ct,Ci];omega
 have:((P.take i).map (shP d)++P.drop i)[i]?=some P[i]:=by
  rw[Fy (by omega),h2,Nat.sub_self,List.getElem?_drop,Nat.add_zero,B8 hi]
 exact Ce ((B8 h).symm.trans this)
theorem X9 {α:Type} {f:α→List AV} {es:Nat} (hf:∀a,(f a).length=es):∀(l:List α) (c:Nat),(l.drop c).flatMap f=(l.flatMap f).drop (c*es)
 |[],c=>by rw[List.drop_nil];exact(List.drop_nil).symm
 |a::l,0=>by rw[List.drop_zero,Nat.zero_mul,List.drop_zero]
 |a::l,c+1=>by
  rw[List.drop_succ_cons,Fi,X9 hf l c,show(c+1) * es=(f a).length+c*es by rw[hf,Nat.add_mul];omega,List.drop_length_add_append]
theorem slo {a n:Nat} (h:a<n):fB (Nat.beq a n) 0 (Nat.add 0 (Nat.mul a 2))=a*2:=by
 have:Nat.beq a n=false:=by
  cases e:Nat.beq a n with
  |false=>rfl
  |true=>have:=Ck e;omega
 rw[this];exact Bf _
theorem dr1 (l:List Tk) (a:Nat):((l.flatMap Du).drop (a*2)).take ((l.drop a).length*2)=(l.drop a).flatMap Du:=by
 rw[←X9 B6]
 exact Et (by rw[Az B6];exact Ag _)
theorem dr2 {l:List Tk} {a:Nat} (h:a<l.length):a*2+(l.drop a).length*2≤(l.flatMap Du).length:=by
 rw[Az B6,Ax];omega
theorem Aas {a b:Nat} {P:List Pc} (h:Chn a b P):a+P.length≤b:=by
 have hg:∀i,i<P.length→a+i≤(P.getD i (0,0,0)).1:=by
  intro i
  induction i with
  |zero=>intro _;rw[h.f];exact Ag _
  |succ i ih=>
   intro hi
   have h1:=ih (by omega)
   have h2:=(h.w i (by omega)).1
   rw[←h.c i hi];omega
 have h0:=h.ne
 have h1:=hg (P.length-1) (by omega)
 have h2:=h.w (P.length-1) (by omega)
 omega
theorem chn_el {a b:Nat} {P:List Pc} (h:Chn a b P) {i:Nat} (hi:i<P.length):P[i].1<P[i].2.1∧P[i].2.1≤b:=by
 have:=h.w i hi
 have e:P.getD i (0,0,0)=P[i]:=by rw[A0,B8 hi];rfl
 rw[e]at this
 exact⟨this.1,this.2.1⟩
theorem pcok {s s' w:Nat} {b r:Pos} {P:List Pc} {kk:Nat} {q:Fr} (h1:Chn 0 w P) (h2:ok (.nd kk q .nil)) (h3:wid q=w) (h4:sz q+1≤200000) (h5:s+w=s') (h6:0<w):PcOK ⟨s,s',b,r,P.map (shP s),kk,q⟩:=by
 subst h5
 refine⟨?_,h2,by show wid q=s+w-s;omega,h4,by show s<s+w;omega⟩
 have:=chn_sh (d:=s) h1
 rw[Bf,Nat.add_comm]at this
 exact this
theorem perm_X3 {t b r p x:Av} {X Q A:List Av}:((t::b::r::p::X)++(x::(Q++A))).Perm (t::(p::(X++([x]++((Q++[b,r])++A))))):=by
 classical exact Ie.2 fun e=>by simp only[List.count_append,List.count_cons,List.count_nil];omega
theorem Id {α:Type} {f:α→List AV} {es:Nat} (hf:∀a,(f a).length=es) {l:List α} {h:H} {nx:Pos} {A:List Av} (S:Sat h nx A) {p:Pos} {ty:Nat} (hp:(p,OB.row (l.flatMap f) ty)∈A) (i j:Nat) {x:α} (hx:l[i]?=some x) (hj:j<es) {o:Nat} (ho:o=i*es+j) {k:AV→Bool} (hk:k ((f x).getD j .x)=true):rd1 h p o k=true:=by
 obtain⟨hi,e⟩:=Gn.1 hx
 refine Fe hf S hp (off:=0) (by rw[List.drop_zero];exact Et (by rw[Az hf];exact Ag _)) (by rw[Az hf];omega) i j hi hj (by omega) ?_
 rw[e];exact hk
theorem shL_o {d:Nat} {P:List Pc} {i:Nat} (hi:i<P.length):(shL d P i)[i]?=some P[i]:=by
 rw[B8 (by rw[Sn];exact hi),shL_g hi]
theorem set_o {α:Type} {l:List α} {i:Nat} (hi:i<l.length) (x:α):(l.set i x)[i]?=some x:=by
 rw[B8 (by rw[E8];exact hi),List.getElem_set_self]
theorem piece_eq {n:Nat} (hn:22400000≤n) {av:AV} {T:List T5} {z:Int} {A:List Av} (hl:Kz 5 29 Jh T av A) (hle:T.length≤20000) (hok:∀t∈T,Od t) (hG:(Ay 2,OB.raw (R5 z))∈A) {l:List Tk} (hL:l=(Fv false T).map Ia) (hc0:∀t∈l,t.c≠0) (htd:Le 0 l=false) (hU:Units l (fun _=>false) 0) {sc:Pos} {X:List Av} (hX:Tf sc (fun _=>false) 0 X)
 {kp:KP} {h:H} {nx:Pos} (S:Sat h nx (X++A)) {k:K}
 (hk:∀Q qlv XQ h' nx',PcL 0 Q l.length→ExA 5 98 Re qlv Q XQ→Sat h' nx' (XQ++(Q.flatMap Wh++A))→k (.tu [qlv,.i .i64 0]) h' nx'=true):Ai gg n kp (.fn 26 []) [av,.p sc 0] h nx k=true:=by
 have hX0:=hX
 obtain⟨mq,bq,D,blv,BL,XB,hXe,_⟩:=hX0
 have hscm:(sc,OB.row [.p sc 0,.m mq,.sl bq 0 1 (.k 1)] 107)∈X++A:=by rw[hXe];simp
 have hbl:=Ib T false
 have hll:l.length≤20000:=by rw[hL,Ct];omega
 have hok':∀t∈Fv false T,Od t:=fun t ht=>by
  obtain⟨u,h1,h2,h3⟩:=M8 T false t ht
  unfold Od;rw[h3];exact hok u h1
 refine Ab hn (by omega) fun m hm=>?_
 repeat' ((conv=>lhs;whnf);first
  |exact(by omega:False).elim
  |refine Yj (v:=.m mq) (bq:=bq) (c:=.k 1) (by omega) ‹_› hscm ?_
  |(refine Aaw (by omega) (hl.mono fun e he=>A3 _ he) (by omega) ‹_› (fun lv X1 h' nx' G S=>?_)
    have hL1:=G.lst C7 (by omega) (A:=X1++(X++A)) (fun e he=>B7 _ he))
  |(refine classes_k (z:=z) (by omega) hL1 (by omega) hok' (A3 _ (A3 _ hG)) ‹_› (fun p h' nx' S=>?_)
    rw[←hL]at S
    rw[show(Fv false T).length=l.length from by rw[hL,Ct]]
    replace S:=S.sub (.cons_cons _ (Gf _ _)))
  |(refine Br (L:=[1,6,7,8]) rfl (fun m vs d' h' nx'=>∃(tau:List Nat→Bool) (at':Nat) (Q:List PcD) (X:List Av) (qlv:AV) (XQ:List Av),Units l tau at'∧Tf sc tau at' X∧PcL 0 Q at'∧at'≤l.length∧l.length-at'=m∧ExA 5 98 Re qlv Q XQ∧Sat h' nx' ((p,.row (l.flatMap Du) 54)::(X++(XQ++(Q.flatMap Wh++A))))∧d'=[]∧vs=[.p sc 0,qlv,.sl p 0 l.length (.k l.length),.i .i64 (.ofNat at')]) l.length (by omega) ⟨_,0,[],X,_,[],hU,hX,rfl,by omega,by omega,.nil,by assumption,rfl,rfl⟩ ?_
    rintro m _ d' h' nx' ⟨tau,at',Q,X,qlv,XQ,hU,hX,hQ,hat,rfl,hG2,S,rfl,rfl⟩ k' hn' hx
    have hsim:=hG2.sim)
  |(rcases units_cases hU with e|⟨s,s',v,rfl,rfl,hb,hr,hU2⟩
    · exact(by omega:False).elim
    have hno:=Ky hb
    rw[hr]at hno
    obtain⟨hn1,hn2,-⟩:=hno
    have hn3:=hn2.a
    have e7:s.at'+(s'.at'-s.at')=s'.at':=by omega
    have e8:Int.ofNat s.at'+Int.ofNat (s'.at'-s.at')=Int.ofNat s'.at':=congrArg Int.ofNat e7
    have hdl:(l.drop s.at').length=l.length-s.at':=Ax
    refine ext59_n (by omega) hb hr hc0 htd (z:=l.length-s.at') hdl.symm (by omega) (Ag _) (slo (by omega)) (dr1 l s.at') (dr2 (by omega)) hX (by omega) ‹_› (fun kk q X' r h' nx' ho hw hs hX' S=>?_))
  |(refine cuts_n (by omega) (l:=l.drop s.at') (z:=l.length-s.at') hdl.symm (slo (by omega)) (dr1 l s.at') (dr2 (by omega)) (by omega) ho (by omega) hs hw.symm ‹_› (fun P b h' nx' hch S=>?_)
    have hpl:=Aas hch)
  |(refine Br (L:=[1,6,7,8,10,11,13,42,43]) rfl (fun m vs d' h2 nx2=>∃i:Nat,i≤P.length∧P.length-i=m∧Sat h2 nx2 ((b,.row ((shL s.at' P i).flatMap Uy) 102)::(r,.row ((pre 0 (.nd kk q .nil)).flatMap Dy) 132)::(p,.row (l.flatMap Du) 54)::(X'++(XQ++(Q.flatMap Wh++A))))∧d'=[]∧vs=[.p sc 0,qlv,.sl p 0 l.length (.k l.length),.i .i64 (.ofNat s.at'),.sl r 0 (pre 0 (.nd kk q .nil)).length (.k (pre 0 (.nd kk q .nil)).length),iA (s'.at'-s.at'),.sl b 0 P.length (.k P.length),.i .i64 (.ofNat P.length),.i .i64 (.ofNat i)]) P.length (by omega) ⟨0,by omega,by omega,S,rfl,rfl⟩ ?_
    rintro m _ d' h' nx' ⟨i,hi,rfl,S,rfl,rfl⟩ k2' hn2' hx2)
  |(refine Id H6 ‹_› (Aw ..) i 0 (shL_o (by omega)) (by decide) (Bf _) ?_
    have hil:i<P.length:=by omega
    have hpw:P[i].1<P[i].2.1∧P[i].2.1≤s'.at'-s.at':=chn_el hch hil)
  |refine Id H6 ‹_› (Aw ..) i 1 (set_o (by rw[Sn];omega) _) (by decide) (by show 0+(Int.ofNat i).toNat*3+1=i*3+1;rw[Aj,Int.toNat_natCast];omega) ?_
  |refine ar_wr1 H6 ‹_› 0 rfl i (by rw[Sn];omega) (P[i].1+s.at',P[i].2.1,P[i].2.2) 0 (by show 0+(Int.ofNat i).toNat*3+0=i*3+0;rw[Aj,Int.toNat_natCast];omega) (Aa rfl) (by rw[shL_g];rfl) rfl (fun h' S=>?_)
  |refine ar_wr1 H6 ‹_› 0 rfl i (by rw[E8,Sn];omega) (shP s.at' P[i]) 1 (by show 0+(Int.ofNat i).toNat*3+1=i*3+1;rw[Aj,Int.toNat_natCast];omega) (Aa rfl) (by rw[List.getElem_set_self];rfl) rfl (fun h' S=>?_)
  |exact hn2' _ _ _ _ _ (by omega) ⟨i+1,by omega,rfl,by rw[←shL_s hil,←List.set_set (a:=(P[i].1+s.at',P[i].2.1,P[i].2.2))];assumption,rfl,rfl⟩
  |(refine hx2 _ _ _ _ _ trivial ?_
    obtain rfl:i=P.length:=by omega
    rw[shL_all]at S)
  |refine zk1 ?_
  |refine A6 ‹_› (.row _ 98) (Dq [.i .i64 (Int.ofNat s.at'),.i .i64 (Int.ofNat s.at'+Int.ofNat (s'.at'-s.at')),.b true,.sl b 0 P.length (.k P.length),.sl r 0 (pre 0 (.nd kk q .nil)).length (.k (pre 0 (.nd kk q .nil)).length)] 98) (fun h' S=>?_)
  |(refine Jd (te:=ti97) encQ_len (_::_::_::_::X') ⟨s.at',s'.at',b,r,P.map (shP s.at'),kk,q⟩ ‹_› hG2 (by
     show[iA s.at',.i .i64 (Int.ofNat s.at'+Int.ofNat (s'.at'-s.at')),.b true,.sl b 0 P.length (.k P.length),_]=Re _
     have e2:Int.ofNat s.at'+Int.ofNat (s'.at'-s.at')=Int.ofNat s'.at':=by simp only[Aj];omega
     unfold Re
     rw[e2,Ct];rfl) rfl (by have:=hQ.le;omega) (fun h' qp S=>?_)
    replace S:=(S.perm perm_X3).tail)
  |exact hn' _ _ _ _ _ (by omega) ⟨s'.ty,s'.at',Q++[⟨s.at',s'.at',b,r,P.map (shP s.at'),kk,q⟩],X',.sl qp 0 (Q.length+1) (.u 5),[(qp,.row ((Q++[(⟨s.at',s'.at',b,r,P.map (shP s.at'),kk,q⟩:PcD)]).flatMap Re) 98)],hU2,by rw[e7]at hX';exact hX',hQ.snoc (pcok hch ho hw hs (by omega) (by omega)) rfl,hn3,rfl,by rw[show Q.length+1=(Q++[(⟨s.at',s'.at',b,r,P.map (shP s.at'),kk,q⟩:PcD)]).length by rw[Bb];rfl];exact .row _ _,by rw[Fx (f:=Wh)];exact S,rfl,by rw[←e8];rfl⟩
  |(refine hx _ _ _ _ _ trivial ?_
    obtain rfl:at'=l.length:=by omega)
  |exact hk Q qlv XQ _ _ hQ hG2 (Sat.right (C:=X) (S.tail))
  |contradiction
  |refine Be fun h' S=>?_
  |refine C8 fun h' S=>?_
  |refine Bj ?_
  |refine C9 ?_
  |refine Bi ?_
  |refine seqt ?_
  |refine Bg ?_
  |refine Bc ?_
  |refine Aq ?_
  |refine Ar ?_
  |refine Bh ?_
  |(first|refine C4 ?_ ?_|refine Dt ?_ ?_|refine Cu ?_ ?_|refine new ?_ ?_)<;>intro hc hz<;>(try simp only[Aj]at hz)<;>try rewrite [hc])
end Go.CE
