/- Part 51 of the lemmas behind the claim. -/
import Derived.Test.YtacpdfjcepkgcaaGreatDoorZA01
import Derived.Test.YtacpdfjcepkgcaaGreatDoorZA50
import Derived.KernelRfl
set_option linter.unusedSimpArgs false
set_option linter.unusedVariables false
set_option linter.constructorNameAsVariable false
set_option linter.unusedSectionVars false
set_option linter.defProp false
set_option maxRecDepth 100000
set_option maxHeartbeats 40000000
namespace Go.CE
open Go Go.Ps Go.Proofs.YtacpdfjcepkgcaaGreatDoor
def T0:List T5:=[⟨1,[105,110,116],0,0,false⟩,⟨1,[120],0,0,false⟩,⟨5,[59],0,0,false⟩]
def l0:List Tk:=[⟨1,[105,110,116]⟩,⟨2,[120]⟩,⟨7,[59]⟩]
theorem l0_eq:(Fv false T0).map Ia=l0:=by kernel_rfl
theorem l0_p:((P7 l0 (l0.length+1) (s0 fun _=>false)).map fun s=>s.done.length)=some 4:=by kernel_rfl
theorem T0_cls:∀t∈Fv false T0,Ka t.k t.x≠none:=by
 intro t ht
 have:t∈T0:=by
  have e:Fv false T0=T0:=by kernel_rfl
  rwa [e]at ht
 simp only[T0,Bo,Ge,or_false]at this
 rcases this with rfl|rfl|rfl<;>(intro c;revert c;unfold Ka;simp)
theorem T0_ok:∀t∈T0,Od t:=by
 intro t ht
 simp only[T0,Bo,Ge,or_false]at ht
 rcases ht with rfl|rfl|rfl<;>exact⟨by decide,by decide⟩
theorem l0_len {s:PS} (h:P7 l0 (l0.length+1) (s0 fun _=>false)=some s):s.done.length=4:=by
 have:=l0_p
 rw[h]at this
 exact Ce this
theorem tok_ok {l:List Nat} {L:List T5} (h:TokL l L) (hl:l.length≤20000):∀t∈L,Od t:=fun t ht=>
 ⟨by have:=sum_mem ht;have:=h.s;omega,h.b t ht⟩
theorem cls_ne {kd:Int} {t x:List Nat} {c:Int} (h:Ka kd t=some (c,x)):c≠0:=by
 unfold Ka at h
 repeat' split at h
 all_goals first
  |(cases h;done)
  |(simp only[Option.some.injEq,Prod.mk.injEq]at h;obtain⟨h,-⟩:=h;first|(rw[←h];decide)|(rw[←h];split<;>decide))
theorem cls_c0 {B:List T5} (h:∀t∈B,Ka t.k t.x≠none):∀t∈B.map Ia,t.c≠0:=by
 intro t ht
 obtain⟨u,hu,rfl⟩:=Dz.1 ht
 have:=h u hu
 unfold Ia
 cases e:Ka u.k u.x with
 |none=>exact absurd e this
 |some p=>
  obtain⟨c,x⟩:=p
  exact cls_ne e
theorem LdL.get:∀ {Q:List Ld} {a b:Nat} {i:Nat} {d:Ld},LdL a Q b→Q[i]?=some d→LdOK d∧d.t≤b∧(i=0→d.f=a)∧(∀e,Q[i+1]?=some e→e.f=d.t)∧(i+1=Q.length→d.t=b)
 |[],a,b,i,d,h,hi=>by cases hi
 |q::r,a,b,0,d,h,hi=>by
  obtain rfl:q=d:=Ce hi
  obtain⟨h1,h2,h3⟩:=h
  refine⟨h2,by have:=h3.le;omega,fun _=>h1,fun e he=>?_,fun hl=>?_⟩
  · cases r with
    |nil=>cases he
    |cons x r=>
     obtain rfl:x=e:=Ce he
     exact h3.1
  · cases r with
    |nil=>exact h3
    |cons x r=>simp at hl
 |q::r,a,b,i+1,d,h,hi=>by
  obtain⟨h1,h2,h3⟩:=h
  obtain⟨a1,a2,a3,a4,a5⟩:=LdL.get h3 (i:=i) (d:=d) hi
  exact⟨a1,a2,fun c=>by omega,a4,fun hl=>a5 (by simpa using hl)⟩
theorem LdL.first:∀ {Q:List Ld} {a b:Nat},LdL a Q b→(∀e,Q[0]?=some e→e.f=a)∧(0=Q.length→a=b)
 |[],a,b,h=>⟨fun e he=>(nomatch he),fun _=>h⟩
 |q::r,a,b,h=>⟨fun e he=>by obtain rfl:q=e:=Ce he;exact h.1,fun c=>by simp at c⟩
theorem SlA.sim {es ty:Nat} {lv:AV} {fl:List AV} {X:List Av} (h:SlA es ty lv fl X):Yz lv=true:=by
 rcases h.inv with⟨rfl,_⟩|⟨_,_,_,_,_,rfl,_⟩<;>rfl
theorem sla_cases {l:List Tk} {lv:AV} {X:List Av} (h:SlA 2 54 lv (l.flatMap Du) X):(lv=.sl0∧l.length=0)∨∃p off c,lv=.sl p off l.length c:=by
 rcases h.inv with⟨h1,h2,_⟩|⟨p,off,n,cap,LL,h1,h2,h3,_⟩
 · exact .inl ⟨h1,by rw[Dh B6 (by decide) h2];rfl⟩
 · have e:=El B6 (by decide) h2 h3
   subst e
   exact .inr ⟨p,off,cap,h1⟩
theorem zle_pos (n:Nat):K0 (Int.ofNat (n+1)) 0=false:=by
 cases h:K0 (Int.ofNat (n+1)) 0 with
 |false=>rfl
 |true=>have:=(I3 _ _).1 h;simp only[Aj]at this;omega
theorem Sat.gen {h:H} {nx:Pos} {X F R:List Av} (S:Sat h nx (X++(F++R))):∃W,(∀e∈X,e∈W)∧(∀e∈F,e∈W)∧Sat h nx W:=
 ⟨_,fun _ he=>B7 _ he,fun _ he=>A3 _ (B7 _ he),S⟩
theorem ld_at {Q:List Ld} {b:Nat} (h:LdL 0 Q b) (i:Nat):(∃f t l pa T gv G X,i<Q.length∧Q[i]?=some (⟨f,t,l,pa,T,gv,G,X⟩:Ld)∧LdOK ⟨f,t,l,pa,T,gv,G,X⟩∧(gv=.sl0∧G=[]∨∃pg,gv=.sl pg 0 G.length (.u 6)∧(pg,OB.row (G.flatMap Aal) 50)∈Q.flatMap Uu)∧t≤b∧(∀e,Q[i+1]?=some e→e.f=t)∧(i+1=Q.length→t=b))∨Q.length≤i:=by
 by_cases hi:i<Q.length
 · refine .inl ?_
   obtain⟨d,hd⟩:∃d,Q[i]?=some d:=⟨_,B8 hi⟩
   obtain⟨a1,a2,a3,a4,a5⟩:=h.get hd
   obtain⟨f,t,l,pa,T,gv,G,X⟩:=d
   refine⟨f,t,l,pa,T,gv,G,X,hi,hd,a1,?_,a2,a4,a5⟩
   have hx:ExA 6 50 Aal gv G X:=a1.x
   have hm:=Gm hd
   rcases hx.inv with⟨e1,e2,e3⟩|⟨pg,e1,e2⟩
   · exact .inl ⟨e1,e2⟩
   · exact .inr ⟨pg,e1,List.mem_flatMap.2 ⟨_,hm,.tail _ (by show _∈X;rw[e2];exact Aw ..)⟩⟩
 · exact .inr (by omega)
attribute [local irreducible] loopK Tt Ai K0 N2 Dg fits rd rd1 wr newC Kj Fk Fa Ve Kq eqA
theorem unit_ok {n:Nat} (hn:22500000≤n) {s:List Nat} (hs:∀x∈s,x≤255) {z:Nat→Int} {b:Nat→Bool} {zg:Int} {A:List Av} (hG:(Ay 2,OB.raw (R5 zg))∈A) {kp:KP} {h:H} {nx:Pos} (S:Sat h nx A) {k:K} (hk:∀h' nx',k (.b true) h' nx'=true):Ai gg n kp (.fn 3 []) [.s s,.ag (Pn z b)] h nx k=true:=by
 refine Ab hn (by omega) fun m hm=>?_
 repeat' ((conv=>lhs;whnf);first
  |contradiction
  |exact(by omega:False).elim
  |exact hk _ _
  |(rw[(Fb 90 90).2 rfl];exact hk _ _)
  |(rw[zle_pos s2.done.length];exact hk _ _)
  |refine Be fun h' S=>?_
  |refine A6 ‹_› (.row (T0.flatMap Jh) 29) (Dq (T0.flatMap Jh) 29) (fun h' S=>?_)
  |refine Wv (l:=T0) (z:=zg) (by omega) (.inr ⟨_,0,_,T0.flatMap Jh,rfl,Aw ..,rfl,Ag _⟩) (Aa rfl) T0_ok (.tail _ (.tail _ hG)) S (fun hc1 lv X0 h' nx' hG0 S=>?_) (fun hc i h' nx' S=>?_)
  |(obtain⟨t,ht,e⟩:=hc;exact absurd e (T0_cls t ht))
  |(refine T6 (l:=l0) (by omega) (by rw[←l0_eq];exact hG0) (by decide) S (fun e h' nx' he hb S=>?_) (fun s1 r h' nx' _ hp1 S=>?_))
  |exact absurd hb l0_no
  |(have e5:s1.done.length=4:=l0_len hp1
    rw[e5];clear hp1)
  |refine scan_eq (l:=s) (by omega) hs (by repeat(first|exact hG|exact B7 _ hG|refine .tail _ ?_|refine A3 _ ?_)) S (fun e h' nx' he S=>?_) (fun L lv1 X1 h' nx' hl65 hT hG1 S=>?_)
  |(refine rows_eq (by omega) hG1 (fun e he=>B7 _ he) (by have:=hT.n;omega) S (fun rws rv XR h' nx' hr S=>?_)
    rcases hr.inv with⟨rfl,rfl,rfl⟩|⟨pr,rfl,rfl⟩)
  |(refine Id J8 S (by repeat(first|exact Aw ..|refine .tail _ ?_|refine A3 _ ?_)) 0 0 (B8 (show 0<rws.length by omega)) (by decide) rfl ?_
    obtain⟨r0,hr0⟩:∃r,rws[0]'(by omega)=r:=⟨_,rfl⟩
    rw[hr0]
    (cases hcd:r0.d)<;>rw[show(Sa r0).getD 0 .x=.b _ from congrArg AV.b hcd])
  |refine Wv (l:=L) (z:=zg) (by omega) (hG1.lst C7 (by omega) (fun e he=>(by repeat(first|exact he|exact B7 _ he|refine .tail _ ?_|refine A3 _ ?_)))) (by have:=hT.n;omega) (tok_ok hT (by omega)) (by repeat(first|exact hG|exact B7 _ hG|refine .tail _ ?_|refine A3 _ ?_)) S (fun hcl lv2 X2 h' nx' hG2 S=>?_) (fun hcn i h' nx' S=>?_)
  |refine T6 (l:=(Fv false L).map Ia) (by omega) hG2 (by have:=hT.n;have:=Ib L false;rw[Ct];omega) S (fun e h' nx' he hb S=>?_) (fun s2 r2 h' nx' htd hp2 S=>?_)
  |refine T6 (l:=[]) (lsl:=.sl0) (EL:=[]) (by omega) .nil (B9 _) S (fun e h' nx' he hb S=>?_) (fun s3 r3 h' nx' _ _ S=>?_)
  |refine new_eq (by omega) S (fun sc XS h' nx' hXS S=>?_)
  |refine Lh S (by repeat(first|exact Aw ..|refine .tail _ ?_|refine A3 _ ?_)) (Aa rfl) rfl ?_
  |refine eqag ?_
  |(refine run_ok (T:=L) (zg:=zg) (l:=(Fv false L).map Ia) (X:=XS) (z:=z) (b:=b) (by omega) (hG1.lst C7 (by omega) (fun e he=>(by repeat(first|exact he|exact B7 _ he|refine .tail _ ?_|refine A3 _ ?_)))) (by have:=hT.n;omega) (Cr hT.s (by omega)) hT.b (tok_ok hT (by omega)) (by repeat(first|exact hG|exact B7 _ hG|refine .tail _ ?_|refine A3 _ ?_)) rfl (cls_c0 hcl) htd (T7 _ _ _ hp2 (btw0 (by have:=hT.n;have:=Ib L false;rw[Ct];omega) _)) hXS S (fun h' nx' S=>?_) (fun Q rv2 XR2 h' nx' hQ hr2 S=>?_))
  |(have hr3:=hr2
    clear hr2
    obtain⟨W,hw1,hw2,SW⟩:=Sat.gen S
    clear S
    have S:=SW
    clear SW
    have hQl:=hQ.le
    have hQ0:=hQ.first
    have hll:((Fv false L).map Ia).length≤20000:=by have:=hT.n;have:=Ib L false;rw[Ct];omega
    obtain⟨l,hlE⟩:∃l,l=(Fv false L).map Ia:=⟨_,rfl⟩
    rw[←hlE]at hQ hQl hQ0 hll hG2
    have hlv2:=hG2.sim
    rcases hr3.inv with⟨rfl,rfl,rfl⟩|⟨q2,rfl,rfl⟩)
  |(refine Br (L:=[5,10,13,14,16,17]) rfl (fun m vs d' h' nx2=>∃(i at':Nat),i≤Q.length∧Q.length-i=m∧at'≤l.length∧(∀e,Q[i]?=some e→e.f=at')∧(i=Q.length→at'=l.length)∧Sat h' nx2 W∧d'=[]∧vs=[lv2,.b true,.sl r2 0 (s2.done.length+1) (.k (s2.done.length+1)),.sl q2 0 Q.length (.u 6),iA at',iA i]) Q.length (by omega) ⟨0,0,by omega,rfl,by omega,hQ0.1,hQ0.2,S,rfl,rfl⟩ ?_
    rintro m _ d' h' nx3 ⟨i,at',hi,rfl,hat,hf1,hf2,S,rfl,rfl⟩ k' hn' hx
    rcases ld_at hQ i with⟨f,t,lev,pa,TT,gv,GG,XX,hil,hio,hdo,hgv,hnt,hne,hnl⟩|hge
    have hd1:TT.length=t-f:=hdo.n
    have hd2:f<t:=hdo.lt
    have hd3:f=at':=hf1 _ hio
    have hd4:GG.length≤20000:=hdo.gn
    rcases hgv with⟨rfl,rfl⟩|⟨pg,rfl,hpg⟩)
  |(refine Br (L:=[5,10,13,14,16,17]) rfl (fun m vs d' h' nx2=>d'=[]∧vs=[lv2,.b true,.sl r2 0 (s2.done.length+1) (.k (s2.done.length+1)),.sl0,iA 0,iA 0]) 0 (by omega) ⟨rfl,rfl⟩ ?_
    have hl00:0=l.length:=hQ
    rintro m _ d' h' nx3 ⟨rfl,rfl⟩ k' hn' hx)
  |refine Id Jz S (hw1 _ (Aw ..)) i 2 hio (by decide) (congrArg (·+2) (Bf _)) ?_
  |refine Id Jz S (hw1 _ (Aw ..)) i 0 hio (by decide) (Bf _) ?_
  |refine Id Jz S (hw1 _ (Aw ..)) i 1 hio (by decide) (congrArg (·+1) (Bf _)) ?_
  |refine Id Jz S (hw1 _ (Aw ..)) i 4 hio (by decide) (congrArg (·+4) (Bf _)) ?_
  |refine Id Jz S (hw1 _ (Aw ..)) i 5 hio (by decide) (congrArg (·+5) (Bf _)) ?_
  |(refine Br (L:=[5,10,13,14,17,18]) rfl (fun m vs d' h' nx2=>∃j:Nat,j≤GG.length∧GG.length-j=m∧Sat h' nx2 W∧d'=[]∧vs=[lv2,.b true,.sl r2 0 (s2.done.length+1) (.k (s2.done.length+1)),.sl q2 0 Q.length (.u 6),iA i,iA j]) GG.length (by omega) ⟨0,by omega,rfl,S,rfl,rfl⟩ ?_
    rintro m _ d' h' nx4 ⟨j,hj,rfl,S,rfl,rfl⟩ k2' hn2' hx2)
  |(refine Br (L:=[5,10,13,14,17,18]) rfl (fun m vs d' h' nx2=>Sat h' nx2 W∧d'=[]∧vs=[lv2,.b true,.sl r2 0 (s2.done.length+1) (.k (s2.done.length+1)),.sl q2 0 Q.length (.u 6),iA i,iA 0]) 0 (by omega) ⟨S,rfl,rfl⟩ ?_
    rintro m _ d' h' nx4 ⟨S,rfl,rfl⟩ k2' hn2' hx2)
  |(refine Id U0 S (hw2 _ hpg) j 2 (B8 (show j<GG.length by omega)) (by decide) (congrArg (·+2) (Bf _)) ?_
    have hjl:j<GG.length:=by omega
    obtain⟨g,hgj⟩:∃g,GG[j]=g:=⟨_,rfl⟩
    have hgo:=hdo.g g (hgj▸D8 hjl)
    rw[hgj]
    (cases hcm:g.mu)<;>rw[show(Aal g).getD 2 .x=.b _ from congrArg AV.b hcm])
  |(refine Id U0 S (hw2 _ hpg) j 3 (x:=g) (by rw[B8 hjl,hgj]) (by decide) (congrArg (·+3) (Bf _)) ?_
    rw[show(Aal g).getD 3 .x=.b true from congrArg AV.b (hgo hcm)])
  |exact hn2' _ _ _ _ _ (by omega) ⟨j+1,by omega,rfl,S,rfl,rfl⟩
  |refine hx2 _ _ _ _ _ trivial ?_
  |exact hn' _ _ _ _ (Q.length-(i+1)) (by omega) ⟨i+1,t,by omega,rfl,hnt,hne,hnl,S,rfl,rfl⟩
  |refine hx _ _ _ _ _ trivial ?_
  |refine Bi ?_
  |refine Bg ?_
  |refine Bc ?_
  |(first|refine C4 ?_ ?_|refine Dt ?_ ?_|refine Cu ?_ ?_|refine new ?_ ?_)<;>intro hc hz<;>(try simp only[Aj]at hz)<;>try rewrite [hc]
  |refine Aq ?_
  |refine Bh ?_
  |(rcases sla_cases hG2 with⟨rfl,hl0⟩|⟨p2,off2,cap2,rfl⟩)<;>clear hG2)
end Go.CE
