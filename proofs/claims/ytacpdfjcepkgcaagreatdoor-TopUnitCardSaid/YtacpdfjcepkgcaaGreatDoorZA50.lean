/- Part 50 of the lemmas behind the claim. -/
import Derived.Test.YtacpdfjcepkgcaaGreatDoorZA01
import Derived.Test.YtacpdfjcepkgcaaGreatDoorZA46
import Derived.Test.YtacpdfjcepkgcaaGreatDoorZA49
set_option linter.unusedSimpArgs false
set_option linter.unusedVariables false
set_option linter.constructorNameAsVariable false
set_option linter.unusedSectionVars false
set_option linter.defProp false
set_option maxRecDepth 100000
set_option maxHeartbeats 40000000
namespace Go.CE
open Go Go.Ps Go.Proofs.YtacpdfjcepkgcaaGreatDoor
attribute [local irreducible] loopK Tt Ai K0 N2 Dg fits rd rd1 wr newC Kj Fk Fa Ve Kq eqA
structure SE where
 n:List Nat
 lo:Int
 hi:Int
 fi:Int
 f:Bool
 o:Nat
def R2 (b:Pos) (e:SE):List AV:=[.s e.n,.i .i64 e.lo,.i .i64 e.hi,.i .i64 e.fi,(match e.f with|true=>.p0|false=>.p b e.o),(match e.f with|true=>.p b e.o|false=>.p0)]
theorem Rd (b:Pos) (e:SE):(R2 b e).length=6:=rfl
theorem Ux (b:Pos) (e:SE):Gt (R2 b e)=true:=by
 unfold R2;cases e.f<;>rfl
def Jq:List SE:=[⟨[99,111,108,117,109,110,115],1,4096,80,false,0⟩,⟨[105,110,100,101,110,116],0,16,4,false,1⟩,⟨[104,97,110,103],0,16,8,false,2⟩,⟨[98,108,97,110,107,115],0,8,1,false,3⟩,
 ⟨[107,101,101,112],0,1,0,true,4⟩,⟨[97,108,105,103,110],0,1,1,true,5⟩,⟨[114,101,102,108,111,119],0,1,1,true,6⟩,⟨[101,120,99,101,115,115],0,1000000,1000,false,7⟩,⟨[111,112,101,110],0,1000000,10,false,8⟩,
 ⟨[99,111,109,109,97],0,1000000,1,false,9⟩,⟨[97,115,115,105,103,110],0,1000000,5,false,10⟩,⟨[99,104,111,105,99,101],0,1000000,3,false,11⟩,⟨[108,111,103,105,99],0,1000000,4,false,12⟩,⟨[99,111,109,112,97,114,101],0,1000000,6,false,13⟩,
 ⟨[115,117,109],0,1000000,7,false,14⟩,⟨[112,114,111,100,117,99,116],0,1000000,8,false,15⟩,⟨[109,101,109,98,101,114],0,1000000,9,false,16⟩,⟨[101,108,115,101],0,1000000,20,false,17⟩]
def stepE (sb:Pos) (s:Nat) (a:List AV) (s':Nat):Prop:=∃h:s<Jq.length,a=[.ag (R2 sb Jq[s])]∧s'=s+1
theorem entries_it (bb sb:Pos):ItP 100 (.fn 106 [.p bb 0]) (stepE sb) (fun s:Nat=>s=18) 0 (fun A=>(bb,OB.row [.p sb 0] 152)∈A):=by
 intro dd0 n hn hdd lp kp h nx k A J X hO S h0 hy hk
 refine Ab (d:=max 100 (dd0+1)) (by omega) (by omega) fun m hm=>?_
 have hb:=hO _ A h0
 iterate 18
  conv=>lhs;whnf
  refine A5 ‹_› hb (Aa rfl) ?_
 conv=>lhs;whnf
 refine A6 ‹_› (.row (Jq.flatMap (R2 sb)) 156) (Dq (Jq.flatMap (R2 sb)) 156) (fun h' S=>?_)
 have hls:Jq.length=18:=rfl
 repeat' ((conv=>lhs;whnf);first
  |exact absurd hz (by(try simp only[Aj]at *);omega)
  |(refine Br (L:=[0,79,80,81]) rfl (fun m vs d' h' nx'=>∃(i:Nat) (A:List Av),i≤18∧18-i=m∧J i A∧Sat h' nx' (A++[(nx,OB.row (Jq.flatMap (R2 sb)) 156)])∧d'=[]∧vs=[.yl lp,.sl nx 0 18 (.k 18),.i .i64 (Int.ofNat 18),.i .i64 (.ofNat i)]) 18 (by omega) ⟨0,A,by omega,rfl,h0,Sat.perm ‹_› (Jm (l₁:=[_]) (l₂:=A)),rfl,rfl⟩ ?_
    rintro m _ d' h' nx' ⟨i,A,hi,rfl,hJ,S,rfl,rfl⟩ k' hn' hx)
  |refine Gl (Rd sb) ‹_› (A3 _ (Aw ..)) (off:=0) (by rw[List.drop_zero];exact Et (by rw[Az (Rd sb)];exact Ag _)) (by rw[Az (Rd sb)];omega) (by decide) i (by omega) rfl ?_
  |refine Au ‹_› 0 rfl (Aa rfl) (Ux sb _) (fun h' S=>?_)
  |(refine hy i _ (i+1) A [_,_] _ _ _ _ ⟨show i<Jq.length by omega,rfl,rfl⟩ (by omega) hJ (Sat.perm ‹_› List.perm_middle.symm) (fun A' h2 nx2 q1 S2=>?_) (fun A' h2 nx2 q2 S2=>?_))
  |exact hn' _ _ _ _ _ (by omega) ⟨i+1,A',by omega,rfl,q1,S2.sub ((E7 A').append (.cons _ (.refl _))),rfl,rfl⟩
  |(refine hx _ _ _ _ _ trivial ?_;conv=>lhs;whnf
    exact hk A' _ _ (.inr q2) (S2.sub (Al _ _)))
  |(refine hx _ _ _ _ _ trivial ?_;conv=>lhs;whnf
    obtain rfl:i=18:=by omega
    exact hk A _ _ (.inl ⟨_,rfl,hJ⟩) (S.sub (Al _ _)))
  |contradiction
  |refine Be fun h' S=>?_
  |refine C8 fun h' S=>?_
  |refine Bj ?_
  |refine C9 ?_
  |refine Bi ?_
  |refine seqt ?_
  |refine Bg ?_
  |refine Bc ?_
  |refine Aq ?_
  |refine Ar ?_
  |refine Bh ?_
  |(first|refine C4 ?_ ?_|refine Dt ?_ ?_|refine Cu ?_ ?_|refine new ?_ ?_)<;>intro hc hz<;>(try simp only[Aj]at hz)<;>try rewrite [hc])
theorem value_ok {n:Nat} (hn:4≤n) {z:Nat→Int} {b:Nat→Bool} {sb:Pos} {x:SE} (hx:x∈Jq) {A:List Av} {kp:KP} {h:H} {nx:Pos} (S:Sat h nx A) (hs:(sb,.row (Pn z b) 23)∈A) {k:K} (hk:∀v h' nx',(x.f=false→v=z x.o)→Sat h' nx' A→k (.i .i64 v) h' nx'=true):Ai gg n kp (.fn 56 []) [.ag (R2 sb x)] h nx k=true:=by
 have hz:x.o<(Pn z b).length∧(Pn z b).getD x.o .x=if x.f then .b (b x.o)else .i .i64 (z x.o):=by
  unfold Jq at hx
  simp only[Bo,Ge,or_false]at hx
  rcases hx with rfl|rfl|rfl|rfl|rfl|rfl|rfl|rfl|rfl|rfl|rfl|rfl|rfl|rfl|rfl|rfl|rfl|rfl<;>exact⟨(Aa rfl),rfl⟩
 obtain⟨xn,xl,xh,xi,xf,xo⟩:=x
 obtain⟨hz1,hz2⟩:=hz
 refine Ab hn (by omega) fun m hm=>?_
 cases xf
 · repeat' ((conv=>lhs;whnf);first
    |exact hk (z xo) _ _ (fun _=>rfl) (Sat.tail ‹_›)
    |(refine A5 ‹_› (Am _ hs) hz1 ?_
      rw[hz2])
    |contradiction
    |refine Be fun h' S=>?_
    |refine C8 fun h' S=>?_
    |refine Bj ?_
    |refine C9 ?_
    |refine Bi ?_
    |refine seqt ?_
    |refine Bg ?_
    |refine Bc ?_
    |refine Aq ?_
    |refine Ar ?_
    |refine Bh ?_)
 · repeat' ((conv=>lhs;whnf);first
    |exact hk _ _ _ (fun c=>Bool.noConfusion c) (Sat.tail ‹_›)
    |(refine A5 ‹_› (Am _ hs) hz1 ?_
      rw[hz2]
      show _=true
      cases b xo)
    |contradiction
    |refine Be fun h' S=>?_
    |refine C8 fun h' S=>?_
    |refine Bj ?_
    |refine C9 ?_
    |refine Bi ?_
    |refine seqt ?_
    |refine Bg ?_
    |refine Bc ?_
    |refine Aq ?_
    |refine Ar ?_
    |refine Bh ?_)
theorem entries0_ok {n:Nat} (hn:2≤n) {v:AV} {kp:KP} {h:H} {nx:Pos} {A:List Av} (S:Sat h nx A) (hv:Yz v=true) {k:K} (hk:∀h',Sat h' (Ad nx) ((nx,.row [v] 152)::A)→k (.fn 106 [.p nx 0]) h' (Ad nx)=true):Ai gg n kp (.fn 55 []) [v] h nx k=true:=by
 refine Ab hn (by omega) fun m hm=>?_
 cases v
 all_goals
  repeat' ((conv=>lhs;whnf);first
   |exact hk _ ‹_›
   |exact absurd hv (by decide)
   |contradiction
   |refine Be fun h' S=>?_
   |refine C8 fun h' S=>?_
   |refine Bj ?_
   |refine C9 ?_
   |refine Bi ?_
   |refine seqt ?_
   |refine Bg ?_
   |refine Bc ?_
   |refine Aq ?_
   |refine Ar ?_
   |refine Bh ?_)
theorem check_ok {n:Nat} (hn:200≤n) {z:Nat→Int} {b:Nat→Bool} {kp:KP} {h:H} {nx:Pos} {A:List Av} (S:Sat h nx A) {k:K} (hk1:(0≤z 1∧z 1≤16)→(0≤z 2∧z 2≤16)→∀h' nx',Sat h' nx' A→k (.i .i64 0) h' nx'=true) (hk2:∀h' nx',Sat h' nx' A→k (.i .i64 90) h' nx'=true):Ai gg n kp (.fn 25 []) [.ag (Pn z b)] h nx k=true:=by
 refine Ab hn (by omega) fun m hm=>?_
 repeat' ((conv=>lhs;whnf);first
  |refine entries0_ok (by omega) ‹_› rfl (fun h' S=>?_)
  |contradiction
  |refine Be fun h' S=>?_
  |refine C8 fun h' S=>?_
  |refine Bj ?_
  |refine C9 ?_
  |refine Bi ?_
  |refine seqt ?_
  |refine Bg ?_
  |refine Bc ?_
  |refine Aq ?_
  |refine Ar ?_
  |refine Bh ?_)
 conv=>lhs;whnf
 refine Ea 40 (entries_it (Ad (Ad nx)) nx) (fun _=>rfl) (fun _=>rfl) ‹_› (by omega) (by omega)
  (fun s A'=>s≤18∧(∀j (h:j<Jq.length),j<s→Jq[j].f=false→Jq[j].lo≤z Jq[j].o∧z Jq[j].o≤Jq[j].hi)∧A'=[(Ad (Ad nx),OB.row [.p nx 0] 152),(Ad nx,.row [.i .i64 0] 25),(nx,.row (Pn z b) 23)]++A)
  (fun e A'=>e=.rt∧A'=[(Ad (Ad nx),OB.row [.p nx 0] 152),(Ad nx,.row [.i .i64 90] 25),(nx,.row (Pn z b) 23)]++A) (fun A'=>⟨fun c=>(by cases c.1),fun _ c=>(by cases c.1)⟩) (by rintro s A' ⟨_,_,rfl⟩;simp) ⟨by omega,fun j h c=>by omega,rfl⟩ ?_ ?_ ?_ (hm:=fun h=>Am _ (Am _ h))
 · rintro s a s' A' F1 F2 m2 lp mid K2 h nx2 ⟨hs,rfl,rfl⟩ hm2 ⟨h18,hin,rfl⟩ S hmid hn1 hx1
   obtain⟨x,hx⟩:∃x,Jq[s]=x:=⟨_,rfl⟩
   have hxm:x∈Jq:=hx▸D8 hs
   rw[hx]
   have hls:Jq.length=18:=rfl
   have hin2:(x.f=false→x.lo≤z x.o∧z x.o≤x.hi)→∀j (h:j<Jq.length),j<s+1→Jq[j].f=false→Jq[j].lo≤z Jq[j].o∧z Jq[j].o≤Jq[j].hi:=fun hq j hj hj2 hf=>by
    rcases Nat.lt_or_ge j s with c|c
    · exact hin j hj c hf
    · obtain rfl:j=s:=by omega
      rw[hx]at hf ⊢;exact hq hf
   repeat' ((conv=>lhs;whnf);first
    |exact(by omega:False).elim
    |refine Au ‹_› 0 rfl (Aa rfl) (Ux nx _) (fun h' S=>?_)
    |refine hmid (_::_::_::_::A) _ _ _ ‹_› (fun h' S=>?_)
    |refine value_ok (sb:=nx) (z:=z) (b:=b) (by omega) hxm ‹_› (by simp) (fun v h' nx' hv S=>?_)
    |exact hx1 .rt _ _ _ ⟨rfl,rfl⟩ (Sat.tail ‹_›)
    |exact hn1 _ _ _ ⟨by omega,hin2 (fun hf=>by rw[←hv hf];omega),rfl⟩ (Sat.tail ‹_›)
    |contradiction
    |refine Be fun h' S=>?_
    |refine C8 fun h' S=>?_
    |refine Bj ?_
    |refine C9 ?_
    |refine Bi ?_
    |refine seqt ?_
    |refine Bg ?_
    |refine Bc ?_
    |refine Aq ?_
    |refine Ar ?_
    |refine Bh ?_
    |(first|refine C4 ?_ ?_|refine Dt ?_ ?_|refine Cu ?_ ?_|refine new ?_ ?_)<;>intro hc hz<;>(try simp only[Aj]at hz)<;>try rewrite [hc])
 · rintro s A' h nx2 rfl ⟨_,hin,rfl⟩ S
   have g1:=hin 1 (by decide) (by decide) rfl
   have g2:=hin 2 (by decide) (by decide) rfl
   repeat' ((conv=>lhs;whnf);first
    |refine A1 ‹_› 0 rfl ?_
    |refine Bm ‹_› 0 rfl (fun h' S=>?_)
    |exact hk1 g1 g2 _ _ (Sat.right (C:=[_,_,_]) ‹_›)
    |contradiction
    |refine Be fun h' S=>?_
    |refine C8 fun h' S=>?_
    |refine Bj ?_
    |refine C9 ?_
    |refine Bi ?_
    |refine seqt ?_
    |refine Bg ?_
    |refine Bc ?_
    |refine Aq ?_
    |refine Ar ?_
    |refine Bh ?_)
 · rintro e A' h nx2 ⟨rfl,rfl⟩ S
   repeat' ((conv=>lhs;whnf);first
    |refine A1 ‹_› 0 rfl ?_
    |refine Bm ‹_› 0 rfl (fun h' S=>?_)
    |exact hk2 _ _ (Sat.right (C:=[_,_,_]) ‹_›)
    |contradiction
    |refine Be fun h' S=>?_
    |refine C8 fun h' S=>?_
    |refine Bj ?_
    |refine C9 ?_
    |refine Bi ?_
    |refine seqt ?_
    |refine Bg ?_
    |refine Bc ?_
    |refine Aq ?_
    |refine Ar ?_
    |refine Bh ?_)
end Go.CE
namespace Go.CE
open Go Go.Ps Go.Proofs.YtacpdfjcepkgcaaGreatDoor
attribute [local irreducible] loopK Tt Ai K0 N2 Dg fits rd rd1 wr newC Kj Fk Fa Ve Oe Kq eqA
structure Ld where
 f:Nat
 t:Nat
 l:Nat
 pa:Pos
 T:List (List Nat)
 gv:AV
 G:List Gp
 X:List Av
def Uz (d:Ld):List AV:=[iA d.f,iA d.t,.b true,iA d.l,.sl d.pa 0 d.T.length (.u 1),d.gv]
theorem Jz (d:Ld):(Uz d).length=6:=rfl
def Uu (d:Ld):List Av:=(d.pa,.row (d.T.flatMap R9) 9)::d.X
structure LdOK (d:Ld):Prop where
 lt:d.f<d.t
 n:d.T.length=d.t-d.f
 g:∀g∈d.G,g.ok
 gn:d.G.length≤20000
 x:ExA 6 50 Aal d.gv d.G d.X
def LdL:Nat→List Ld→Nat→Prop
 |a,[],b=>a=b
 |a,d::r,b=>d.f=a∧LdOK d∧LdL d.t r b
theorem LdL.snoc:∀ {Q:List Ld} {a b:Nat} {d:Ld},LdL a Q b→LdOK d→d.f=b→LdL a (Q++[d]) d.t
 |[],a,b,d,h,hd,hf=>⟨hf.trans (show b=a from Eq.symm h),hd,rfl⟩
 |e::r,a,b,d,h,hd,hf=>⟨h.1,h.2.1,LdL.snoc h.2.2 hd hf⟩
theorem LdL.le:∀ {Q:List Ld} {a b:Nat},LdL a Q b→a+Q.length≤b
 |[],a,b,h=>by have h:a=b:=h;show a+0≤b;omega
 |e::r,a,b,h=>by
  have h1:=h.2.1.lt
  have h2:=LdL.le h.2.2
  have h3:=h.1
  show a+(r.length+1)≤b
  omega
theorem encLd_ones (d:Ld) (h:Yz d.gv=true):Gt (Uz d)=true:=by
 obtain⟨f,t,l,pa,T,gv,G,X⟩:=d
 cases gv<;>first|rfl|exact Bool.noConfusion h
theorem PcL.get:∀ {Q:List PcD} {a b:Nat} {i:Nat} {d:PcD},PcL a Q b→Q[i]?=some d→PcOK d∧d.t≤b∧(i=0→d.f=a)∧(∀e,Q[i+1]?=some e→e.f=d.t)∧(i+1=Q.length→d.t=b)
 |[],a,b,i,d,h,hi=>by cases hi
 |q::r,a,b,0,d,h,hi=>by
  obtain rfl:q=d:=Ce hi
  obtain⟨h1,h2,h3⟩:=h
  refine⟨h2,by have:=h3.le;omega,fun _=>h1,fun e he=>?_,fun hl=>?_⟩
  · cases r with
    |nil=>cases he
    |cons x r=>
     obtain rfl:x=e:=Ce he
     exact h3.1
  · cases r with
    |nil=>exact h3
    |cons x r=>simp at hl
 |q::r,a,b,i+1,d,h,hi=>by
  obtain⟨h1,h2,h3⟩:=h
  obtain⟨a1,a2,a3,a4,a5⟩:=PcL.get h3 (i:=i) (d:=d) hi
  exact⟨a1,a2,fun c=>by omega,a4,fun hl=>a5 (by simpa using hl)⟩
theorem PcL.first:∀ {Q:List PcD} {a b:Nat},PcL a Q b→(∀e,Q[0]?=some e→e.f=a)∧(0=Q.length→a=b)
 |[],a,b,h=>⟨fun e he=>(nomatch he),fun _=>h⟩
 |q::r,a,b,h=>⟨fun e he=>by obtain rfl:q=e:=Ce he;exact h.1,fun c=>by simp at c⟩
theorem perm_X9 {s x:Av} {Y F V:List Av}:(s::x::(Y++(F++V))).Perm (Y++(F++(s::x::V))):=by
 classical exact Ie.2 fun e=>by simp only[List.count_append,List.count_cons];omega
theorem perm_X8 {a p x:Av} {X Y F V:List Av}:(a::p::(X++(x::(Y++(F++V))))).Perm ([a,x]++(Y++((F++(p::X))++V))):=by
 classical exact Ie.2 fun e=>by simp only[List.count_append,List.count_cons,List.count_nil];omega
theorem entLd_snoc (P:List Ld) (d:Ld):(P++[d]).flatMap Uu=P.flatMap Uu++Uu d:=by rw[Fx,List.flatMap_singleton]
theorem run_ok {n:Nat} (hn:22400100≤n) {av:AV} {T:List T5} {zg:Int} {A:List Av} (hl:Kz 5 29 Jh T av A) (hle:T.length≤20000) (hs:(T.map (·.x.length)).sum≤20000) (hb:∀t∈T,∀x∈t.x,x≤255) (hok:∀t∈T,Od t) (hG:(Ay 2,OB.raw (R5 zg))∈A) {l:List Tk} (hL:l=(Fv false T).map Ia) (hc0:∀t∈l,t.c≠0) (htd:Le 0 l=false) (hU:Units l (fun _=>false) 0) {sc:Pos} {X:List Av} (hX:Tf sc (fun _=>false) 0 X)
 {z:Nat→Int} {b:Nat→Bool} {kp:KP} {h:H} {nx:Pos} (S:Sat h nx (X++A)) {k:K}
 (hk1:∀h' nx',Sat h' nx' A→k (.tu [.sl0,.i .i64 90]) h' nx'=true)
 (hk2:∀(Q:List Ld) rv XR h' nx',LdL 0 Q l.length→ExA 6 48 Uz rv Q XR→Sat h' nx' (XR++(Q.flatMap Uu++A))→k (.tu [rv,.i .i64 0]) h' nx'=true):Ai gg n kp (.fn 8 []) [av,.p sc 0,.ag (Pn z b)] h nx k=true:=by
 have hlb:l.length=(Fv false T).length:=by rw[hL,Ct]
 have hll:l.length≤20000:=by have:=Ib T false;omega
 refine Ab hn (by omega) fun m hm=>?_
 repeat' ((conv=>lhs;whnf);first
  |refine check_ok (z:=z) (b:=b) (by omega) ‹_› (fun g1 g2 h' nx' S=>?_) (fun h' nx' S=>?_)
  |exact hk1 _ _ (Sat.right (C:=_::X) ‹_›)
  |refine piece_eq (A:=(nx,.row (Pn z b) 23)::A) (X:=X) (by omega) (hl.mono fun e he=>.tail _ he) hle hok (.tail _ hG) hL hc0 htd hU hX (S.perm List.perm_middle.symm) (fun Q qlv XQ h' nx' hQ hq S=>?_)
  |refine Lh ‹_› (A3 _ (A3 _ (Aw ..))) (Aa rfl) rfl ?_
  |(refine newRun_ok (z:=z) (b:=b) (A:=XQ++(Q.flatMap Wh++((nx,.row (Pn z b) 23)::A))) (by omega) (hl.mono fun e he=>by simp[he]) hle hs hb g1 g2 S (fun R XN h' nx' hRB hR S=>?_)
    have hQ0:=hQ.first.1
    have hQ1:=hQ.first.2
    have hQl:=hQ.le
    have hRl:R.B.length=l.length:=by rw[hRB,hlb]
    rcases hq.inv.symm with⟨qp,rfl,rfl⟩|⟨rfl,rfl,rfl⟩)
  |(refine Br (L:=[11,12,35,36,37]) rfl (fun m vs d' h' nx2=>Sat h' nx2 (XN++([]++(List.flatMap Wh []++(nx,.row (Pn z b) 23)::A)))∧d'=[]∧vs=[.p R.rp 0,.sl0,.sl0,.i .i64 0,.i .i64 0]) 0 (by omega) ⟨S,rfl,rfl⟩ ?_
    rintro m _ d' h' nx2 ⟨S,rfl,rfl⟩ k' hn' hx)
  |refine hx _ _ _ _ _ trivial ?_
  |exact hk2 [] .sl0 [] _ _ hQ .nil (S.sub ((List.Sublist.cons _ (.refl _)).trans (Gf _ _)))
  |(refine Br (L:=[11,12,35,36,37]) rfl (fun m vs d' h' nx2=>∃(i:Nat) (P:List Ld) (rv:AV) (XR:List Av) (at':Nat),i≤Q.length∧Q.length-i=m∧LdL 0 P at'∧at'≤l.length∧(∀e,Q[i]?=some e→e.f=at')∧(i=Q.length→at'=l.length)∧ExA 6 48 Uz rv P XR∧Sat h' nx2 (XR++(P.flatMap Uu++(XN++([(qp,OB.row (Q.flatMap Re) 98)]++(Q.flatMap Wh++(nx,.row (Pn z b) 23)::A)))))∧d'=[]∧vs=[.p R.rp 0,rv,.sl qp 0 Q.length (.u 5),.i .i64 (Int.ofNat Q.length),.i .i64 (.ofNat i)]) Q.length (by omega) ⟨0,[],.sl0,[],0,by omega,rfl,rfl,by omega,fun e he=>hQ0 e he,fun hl=>hQ1 hl,.nil,S,rfl,rfl⟩ ?_
    rintro m _ d' h' bx ⟨i,P,rv,XR,at',hi,rfl,hP,hat,hf1,hf2,hr,S,rfl,rfl⟩ k' hn' hx
    have hrs:=hr.sim)
  |(refine Rr encQ_len S (by repeat(first|exact A3 _ (Aw ..)|refine A3 _ ?_)) (by decide) i (B8 (show i<Q.length by omega)) (Bf _) ?_
    have hil:i<Q.length:=by omega
    obtain⟨d,hd⟩:∃d,Q[i]=d:=⟨_,rfl⟩
    have hdo:Q[i]?=some d:=by rw[B8 hil,hd]
    obtain⟨q1,q2,q3,q4,q5⟩:=hQ.get hdo
    have q6:=hf1 d hdo
    have q7:=q1.lt
    have hmr:(d.r,OB.row (d.N.flatMap Dy) 132)∈Q.flatMap Wh:=List.mem_flatMap.2 ⟨d,hd▸D8 hil,.tail _ (Aw ..)⟩
    have hmb:(d.b,OB.row (d.P.flatMap Uy) 102)∈Q.flatMap Wh:=List.mem_flatMap.2 ⟨d,hd▸D8 hil,Aw ..⟩
    have hch:=q1.ch
    have hchl:=Aas hch
    rw[hd])
  |refine sidesOf_ok (d:=d) (z:=zg) (hR.mono (fun e he=>by repeat(first|exact he|refine .tail _ ?_|refine A3 _ ?_))) q1 (by repeat(first|exact hmr|exact B7 _ hmr|refine .tail _ ?_|refine A3 _ ?_)) (by omega) (by omega) (by repeat(first|exact hG|exact B7 _ hG|refine .tail _ ?_|refine A3 _ ?_)) S (fun D sp h' nx' hD hDt S=>?_)
  |(refine Br (L:=[11,12,14,15,35,36,37,56,57,58]) rfl (fun m vs d' h' nx2=>∃(j:Nat) (P':List Ld) (rv':AV) (XR':List Av) (a2:Nat),j≤d.P.length∧d.P.length-j=m∧LdL 0 P' a2∧a2≤d.t∧(j<d.P.length→a2=(d.P.getD j (0,0,0)).1)∧(j=d.P.length→a2=d.t)∧ExA 6 48 Uz rv' P' XR'∧Sat h' nx2 (XR'++(P'.flatMap Uu++((sp,OB.row (D.flatMap My) 171)::(bx,.row (Re d) 98)::(XN++([(qp,OB.row (Q.flatMap Re) 98)]++(Q.flatMap Wh++(nx,.row (Pn z b) 23)::A))))))∧d'=[]∧vs=[.p R.rp 0,rv',.p bx 0,.sl sp 0 (d.t-d.f) (.k (d.t-d.f)),.sl qp 0 Q.length (.u 5),.i .i64 (Int.ofNat Q.length),.i .i64 (.ofNat i),.sl d.b 0 d.P.length (.k d.P.length),.i .i64 (Int.ofNat d.P.length),.i .i64 (.ofNat j)]) d.P.length (by have:=Aas hch;omega) ⟨0,P,rv,XR,at',by omega,rfl,hP,by omega,fun _=>by rw[hch.f];exact q6.symm,fun c=>absurd hch.ne (by omega),hr,S.perm perm_X9,rfl,rfl⟩ ?_
    rintro m _ d' h' nx3 ⟨j,P',rv',XR',a2,hj,rfl,hP',ha2,hf3,hf4,hr',S,rfl,rfl⟩ k2' hn2' hx2
    have hrs':=hr'.sim)
  |refine hx _ _ _ _ _ trivial ?_
  |(refine Rr H6 S (by repeat(first|exact hmb|exact B7 _ hmb|refine .tail _ ?_|refine A3 _ ?_)) (by decide) j (B8 (show j<d.P.length by omega)) (Bf _) ?_
    have hjl:j<d.P.length:=by omega
    obtain⟨c,hc⟩:∃c,d.P[j]=c:=⟨_,rfl⟩
    have hcw:=hch.w j hjl
    have hce:d.P.getD j (0,0,0)=c:=by rw[A0,B8 hjl,hc];rfl
    have hcn:j+1<d.P.length→c.2.1=(d.P.getD (j+1) (0,0,0)).1:=fun h=>by rw[←hce];exact hch.c j h
    have hcl:j+1=d.P.length→c.2.1=d.t:=fun h=>by rw[←hce,←hch.l,←h,Nat.add_sub_cancel]
    have hcf:=hf3 hjl
    rw[hce]at hcw hcf
    rw[hc])
  |refine A5 (L:=Re d) (ty:=98) S (by repeat(first|exact Aw ..|refine .tail _ ?_|refine A3 _ ?_)) (Aa rfl) ?_
  |(refine line_ok (c:=c) (z:=zg) (D:=D) (hR.mono (fun e he=>by repeat(first|exact he|refine .tail _ ?_|refine A3 _ ?_))) hD hDt (by repeat(first|exact Aw ..|refine .tail _ ?_|refine A3 _ ?_)) hcw.2.2.1 hcw.1 (by omega) (by omega) hcw.2.2.2 (by omega) (by repeat(first|exact hG|exact B7 _ hG|refine .tail _ ?_|refine A3 _ ?_)) S (fun TT LL2 pa gv X2 h' nx' hTT hLL hLn hgx S=>?_)
    have hgv:=hgx.sim
    have hdl:LdOK ⟨c.1,c.2.1,c.2.2,pa,TT,gv,LL2,X2⟩:=⟨hcw.1,hTT,hLL,hLn,hgx⟩
    have hPl:=hP'.le)
  |refine zk1 ?_
  |refine A6 S (.row (Uz ⟨c.1,c.2.1,c.2.2,pa,TT,gv,LL2,X2⟩) 48) (Dq (Uz ⟨c.1,c.2.1,c.2.2,pa,TT,gv,LL2,X2⟩) 48) (fun h' S=>?_)
  |refine Jd (te:=ti47) Jz [_,_] ⟨c.1,c.2.1,c.2.2,pa,TT,gv,LL2,X2⟩ (S.perm perm_X8) hr' rfl (encLd_ones _ hgv) (by omega) (fun h' pr S=>?_)
  |exact hn2' _ _ _ _ (d.P.length-(j+1)) (by omega) ⟨j+1,P'++[⟨c.1,c.2.1,c.2.2,pa,TT,gv,LL2,X2⟩],_,[(pr,_)],c.2.1,by omega,rfl,hP'.snoc hdl hcf.symm,hcw.2.1,hcn,hcl,ex_snoc pr P' _,by rw[entLd_snoc];exact Sat.right (C:=[_,_]) S,rfl,rfl⟩
  |refine hx2 _ _ _ _ _ trivial ?_
  |exact hn' _ _ _ _ (Q.length-(i+1)) (by omega) ⟨i+1,P',rv',XR',a2,by omega,rfl,hP',by omega,fun e he=>by rw[hf4 (by omega)];exact q4 e he,fun hl=>by rw[hf4 (by omega)];exact q5 hl,hr',S.sub ((E7 XR').append ((E7 _).append (.cons _ (.cons _ (.refl _))))),rfl,rfl⟩
  |exact hk2 P rv XR _ _ (hf2 (by omega)▸hP) hr (S.sub ((E7 XR).append ((E7 _).append ((((E7 A).cons _).trans (Gf _ _)).trans ((Gf _ _).trans (Gf _ _))))))
  |contradiction
  |refine Be fun h' S=>?_
  |refine Au S 0 rfl (Aa rfl) rfl (fun h' S=>?_)
  |refine Ae S 0 rfl (Aa rfl) ?_
  |refine Ae S 1 rfl (Aa rfl) ?_
  |refine Da S 0 rfl (Aa rfl) ?_
  |refine Bi ?_
  |refine Bg ?_
  |refine Bc ?_
  |refine Aq ?_
  |refine Bh ?_
  |(first|refine C4 ?_ ?_|refine Dt ?_ ?_|refine Cu ?_ ?_|refine new ?_ ?_)<;>intro hc hz<;>(try simp only[Aj]at hz)<;>try rewrite [hc])
end Go.CE
