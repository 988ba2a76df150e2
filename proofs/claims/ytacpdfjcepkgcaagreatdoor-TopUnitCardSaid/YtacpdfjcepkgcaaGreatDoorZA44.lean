/- Part 44 of the lemmas behind the claim. -/
import Derived.Test.YtacpdfjcepkgcaaGreatDoorZA01
import Derived.Test.YtacpdfjcepkgcaaGreatDoorZA43
import Derived.Test.YtacpdfjcepkgcaaGreatDoorZA41
import Derived.Test.YtacpdfjcepkgcaaGreatDoorZA32
set_option linter.unusedSimpArgs false
set_option linter.unusedVariables false
set_option linter.constructorNameAsVariable false
set_option linter.unusedSectionVars false
set_option linter.defProp false
set_option maxRecDepth 100000
set_option maxHeartbeats 40000000
namespace Go.CE
open Go Go.Ps Go.Proofs.YtacpdfjcepkgcaaGreatDoor
attribute [local irreducible] loopK Tt Ai K0 N2 Dg fits rd rd1 wr newC Kj Fk Fa Ve Oe Kq eqA
theorem rch_n (t:Tk) (r:List Tk) (i:Nat) (d:Int) (b:Nat):Px (t::r) i d b=if t.c=0∨d+dst t<0∨d+dst t > 256 then[i]else if d+dst t=0∧Gg t [59]=true then[i+1]else if d+dst t=0∧Gg t [125]=true∧b<2 then(i+1)::Px r (i+1) (d+dst t) (b+1)else Px r (i+1) (d+dst t) b:=by
 rw[Pw]
 have e:(if kd t=1 then d+1 else if kd t=2 then d-1 else d)=d+dst t:=by
  unfold dst
  by_cases h1:kd t=1
  · rw[if_pos h1,if_pos h1]
  · rw[if_neg h1,if_neg h1]
    by_cases h2:kd t=2
    · rw[if_pos h2,if_pos h2];rfl
    · rw[if_neg h2,if_neg h2];omega
 rw[e]
theorem dst_b (t:Tk):-1≤dst t∧dst t≤1:=by
 unfold dst;split
 · decide
 split<;>decide
def OwnR (b p:Pos) (lsl:AV) (LL:List AV) (A:List Av):Prop:=(b,OB.row [lsl] 24)∈A∧(p,.row LL 54)∈A
theorem reach_it {l:List Tk} {p:Pos} {off:Nat} {cap:Cap} {LL:List AV} (h1:(LL.drop off).take (l.length*2)=l.flatMap Du) (h2:off+l.length*2≤LL.length) (hl:l.length≤20000) (b:Pos):ItP 1000010 (.fn 157 [.p b 0]) stepK (fun C:List Nat=>C=[]) (Px l 0 0 0) (OwnR b p (.sl p off l.length cap) LL):=by
 intro dd0 n hn hdd lp kp h nx k A J X hO S h0 hy hk
 refine Ab (d:=max 1000010 (dd0+1)) (by omega) (by omega) fun m hm=>?_
 obtain⟨hb1,hb2⟩:=hO _ A h0
 repeat' ((conv=>lhs;whnf);first
  |refine A5 ‹_› hb1 (Aa rfl) ?_
  |contradiction
  |refine Be fun h' S=>?_
  |refine C8 fun h' S=>?_
  |refine Bj ?_
  |refine C9 ?_
  |refine Bi ?_
  |refine seqt ?_
  |refine Bg ?_
  |refine Bc ?_
  |refine Aq ?_
  |refine Ar ?_
  |refine Bh ?_)
 conv=>lhs;whnf
 refine Br (L:=[0,3,4,5,10,11,12]) rfl (fun m vs d' h' nx'=>∃(i c:Nat) (d:Int) (A:List Av),i≤l.length∧l.length-i=m∧0≤d∧d≤256∧c≤2∧J (Px (l.drop i) i d c) A∧Sat h' nx' A∧d'=[]∧vs=[.yl lp,.i .i64 d,.i .i64 (.ofNat c),.i .i64 (.ofNat l.length),.sl p off l.length cap,.i .i64 (.ofNat l.length),.i .i64 (.ofNat i)]) l.length (by omega) ⟨0,0,0,A,by omega,rfl,by omega,by omega,by omega,h0,S,rfl,rfl⟩ ?_
 rintro m _ d' h' nx' ⟨i,c,d,A,hi,rfl,hd1,hd2,hcc,hJ,S,rfl,rfl⟩ k' hn' hx
 by_cases hlt:i<l.length
 · obtain⟨hb1,hb2⟩:=hO _ A hJ
   rw[Ri hlt]at hJ
   obtain⟨t,ht⟩:∃t,l[i]'hlt=t:=⟨_,rfl⟩
   rw[ht,rch_n]at hJ
   have hdb:=dst_b t
   have j1:t.c=0∨d+dst t<0∨d+dst t > 256→J [i] A:=fun q=>by rwa [if_pos q]at hJ
   have j2:¬(t.c=0∨d+dst t<0∨d+dst t > 256)→d+dst t=0→Gg t [59]=true→J [i+1] A:=fun q q2 q3=>by rwa [if_neg q,if_pos ⟨q2,q3⟩]at hJ
   have j3:¬(t.c=0∨d+dst t<0∨d+dst t > 256)→¬(d+dst t=0∧Gg t [59]=true)→d+dst t=0→Gg t [125]=true→c<2→J ((i+1)::Px (l.drop (i+1)) (i+1) (d+dst t) (c+1)) A:=fun q q2 q3 q4 q5=>by rwa [if_neg q,if_neg q2,if_pos ⟨q3,q4,q5⟩]at hJ
   have j4:¬(t.c=0∨d+dst t<0∨d+dst t > 256)→¬(d+dst t=0∧Gg t [59]=true)→¬(d+dst t=0∧Gg t [125]=true∧c<2)→J (Px (l.drop (i+1)) (i+1) (d+dst t) c) A:=fun q q2 q3=>by rwa [if_neg q,if_neg q2,if_neg q3]at hJ
   clear hJ
   repeat' ((conv=>lhs;whnf);first
    |exact(by omega:False).elim
    |(refine Gl B6 ‹_› hb2 h1 h2 (by omega) i hlt rfl ?_
      rw[ht])
    |refine step_eq (t:=t) (by omega) ‹_› (fun h' nx' S=>?_)
    |(refine is_eq (t:=t) (x:=[59]) (by omega) ‹_› (fun h' nx' S=>?_)
      cases hs1:Gg t [59])
    |(refine is_eq (t:=t) (x:=[125]) (by omega) ‹_› (fun h' nx' S=>?_)
      cases hs2:Gg t [125])
    |(refine hx _ _ _ _ _ trivial ?_;conv=>lhs;whnf
      refine hy [i] [.i .i64 (Int.ofNat i)] [] A [] _ _ _ _ ⟨i,rfl,rfl⟩ (by omega) (j1 (by omega)) (by rw[Bp];exact Sat.tail ‹_›) (fun A' h2 nx2 q1 S2=>?_) (fun A' h2 nx2 q2 S2=>?_)<;>rw[Bp]at S2)
    |(refine hx _ _ _ _ _ trivial ?_;conv=>lhs;whnf
      refine hy [i+1] [.i .i64 (Int.ofNat i+1)] [] A [] _ _ _ _ ⟨i+1,rfl,rfl⟩ (by omega) (j2 (by omega) (by omega) hs1) (by rw[Bp];exact Sat.tail ‹_›) (fun A' h2 nx2 q1 S2=>?_) (fun A' h2 nx2 q2 S2=>?_)<;>rw[Bp]at S2)
    |refine hy ((i+1)::Px (l.drop (i+1)) (i+1) (d+dst t) (c+1)) [.i .i64 (Int.ofNat i+1)] _ A [] _ _ _ _ ⟨i+1,rfl,rfl⟩ (by omega) (j3 (by omega) (fun q=>by rw[hs1]at q;exact absurd q.2 (by decide)) (by omega) hs2 (by omega)) (by rw[Bp];exact Sat.tail ‹_›) (fun A' h2 nx2 q1 S2=>?_) (fun A' h2 nx2 q2 S2=>?_)<;>rw[Bp]at S2
    |exact hn' _ _ _ _ _ (by omega) ⟨i+1,c+1,d+dst t,_,by omega,rfl,by omega,by omega,by omega,q1,S2,rfl,rfl⟩
    |exact hn' _ _ _ _ _ (by omega) ⟨i+1,c,d+dst t,A,by omega,rfl,by omega,by omega,by omega,j4 (by omega) (fun q=>by first|exact absurd q.1 (by omega)|(rw[hs1]at q;exact absurd q.2 (by decide))) (fun q=>by first|exact absurd q.1 (by omega)|exact absurd q.2.2 (by omega)|(rw[hs2]at q;exact absurd q.2.1 (by decide))),Sat.tail ‹_›,rfl,rfl⟩
    |exact hk _ _ _ (.inl ⟨[],rfl,q1⟩) S2
    |exact hk _ _ _ (.inr q2) S2
    |(refine hx _ _ _ _ _ trivial ?_;conv=>lhs;whnf
      exact hk _ _ _ (.inr q2) S2)
    |contradiction
    |refine Be fun h' S=>?_
    |refine C8 fun h' S=>?_
    |refine Bj ?_
    |refine C9 ?_
    |refine Bi ?_
    |refine seqt ?_
    |refine Bg ?_
    |refine Bc ?_
    |refine Aq ?_
    |refine Ar ?_
    |refine Bh ?_
    |(first|refine C4 ?_ ?_|refine Dt ?_ ?_|refine Cu ?_ ?_|refine new ?_ ?_)<;>intro hc hz<;>(try simp only[Aj]at hz)<;>try rewrite [hc])
 · obtain rfl:i=l.length:=by omega
   have hJ1:J [l.length] A:=by rw[List.drop_length]at hJ;exact hJ
   repeat' ((conv=>lhs;whnf);first
    |exact(by omega:False).elim
    |(refine hx _ _ _ _ _ trivial ?_;conv=>lhs;whnf
      refine hy [l.length] [.i .i64 (Int.ofNat l.length)] [] A [] _ _ _ _ ⟨l.length,rfl,rfl⟩ (by omega) hJ1 (by rw[Bp];assumption) (fun A' h2 nx2 q1 S2=>?_) (fun A' h2 nx2 q2 S2=>?_)<;>rw[Bp]at S2)
    |exact hk _ _ _ (.inl ⟨[],rfl,q1⟩) S2
    |exact hk _ _ _ (.inr q2) S2
    |contradiction
    |refine Be fun h' S=>?_
    |refine C8 fun h' S=>?_
    |refine Bj ?_
    |refine C9 ?_
    |refine Bi ?_
    |refine seqt ?_
    |refine Bg ?_
    |refine Bc ?_
    |refine Aq ?_
    |refine Ar ?_
    |refine Bh ?_
    |(first|refine C4 ?_ ?_|refine Dt ?_ ?_|refine Cu ?_ ?_|refine new ?_ ?_)<;>intro hc hz<;>(try simp only[Aj]at hz)<;>try rewrite [hc])
end Go.CE
namespace Go.CE
open Go Go.Ps Go.Proofs.YtacpdfjcepkgcaaGreatDoor
theorem fits_w {n:Nat} (hn:1≤n) {fv:AV} {kp:KP} {h:H} {nx:Pos} {k:K} (H:∀m,n≤m+1→Ai gg m (fun h nx=>k (.b false) h nx) fv [] h nx (fun _ h nx=>k (.b true) h nx)=true):Ai gg n kp (.fn 18 []) [fv] h nx k=true:=by
 obtain⟨m,rfl⟩:∃m,n=m+1:=⟨n-1,by omega⟩
 exact H m (Ag _)
theorem fb_w {n f:Nat} {c:List AV} {kp:KP} {h:H} {nx:Pos} {k:K} (H:Ai gg n kp (.fn f []) c h nx k=true):Ai gg n kp (.fb f c) [] h nx k=true:=by
 cases n with
 |zero=>cases H
 |succ m=>exact H
attribute [local irreducible] loopK Tt Ai K0 N2 Dg fits rd rd1 wr newC Kj Fk Fa Ve Oe Kq eqA
noncomputable def decA (c:Ch):List AV:=[.ag [.s c.n,.b (N2 c.now 1)]]
def stepD (CL:List Ch) (i:Nat) (a:List AV) (j:Nat):Prop:=j=i+1∧∃h:i<CL.length,a=decA CL[i]
theorem declared_it {CL:List Ch} (hle:CL.length≤100000) {cg:AV} {EC:List Av} (G:GrA 3 202 cg (CL.flatMap Ji) EC) {bk:AV} (hbk:bk=.sl0∨∃q o c,bk=.sl q o 0 c) {pp b:Pos} {a0 a1 a2 a3 a4:AV}:ItG 1000010 (.fn 197 [.p b 0]) (stepD CL) (fun i:Nat=>i=CL.length) 0 ((b,.row [.p pp 3] 200)::(pp,.row [a0,a1,a2,a3,a4,cg,bk] 66)::EC):=by
 intro dd0 n hn hdd lp kp h nx k A J X hO S h0 hy hk
 have hb:=hO _ A h0 _ (Aw ..)
 have hpp:=hO _ A h0 _ (Am _ (Aw ..))
 rcases G.inv with⟨rfl,h2,rfl⟩|⟨p,n0,LL,rfl,h2,h3,rfl⟩
 · have hl:=Dh Dk (by omega) h2
   subst hl
   refine Ab (d:=max 1000010 (dd0+1)) (by omega) (by omega) fun m hm=>?_
   rcases hbk with rfl|⟨q,o,c,rfl⟩
   all_goals
    repeat' ((conv=>lhs;whnf);first
     |exact absurd hz (by decide)
     |refine A5 ‹_› hb (Aa rfl) ?_
     |refine A5 ‹_› hpp (Aa rfl) ?_
     |(refine Br (L:=[0,29,30,31]) rfl (fun m vs d' h' nx'=>Sat h' nx' A∧d'=[]∧vs=[.yl lp,.sl0,.i .i64 0,.i .i64 0]) 0 (by omega) ⟨S,rfl,rfl⟩ ?_
       rintro m _ d' h' nx' ⟨S,rfl,rfl⟩ k' hn' hx)
     |(refine hx _ _ _ _ _ trivial ?_;conv=>lhs;whnf
       exact hk A _ _ (.inl ⟨0,rfl,h0⟩) ‹_›)
     |contradiction
     |refine Be fun h' S=>?_
     |refine C8 fun h' S=>?_
     |refine Bj ?_
     |refine C9 ?_
     |refine Bi ?_
     |refine seqt ?_
     |refine Bg ?_
     |refine Bc ?_
     |refine Aq ?_
     |refine Ar ?_
     |refine Bh ?_
     |(first|refine C4 ?_ ?_|refine Dt ?_ ?_|refine Cu ?_ ?_|refine new ?_ ?_)<;>intro hc hz<;>(try simp only[Aj]at hz)<;>try rewrite [hc])
 · have hn0:=El (off:=0) Dk (by omega) h2 (by omega)
   subst hn0
   have h2':(LL.drop 0).take (CL.length*3)=CL.flatMap Ji:=h2
   have h3':0+CL.length*3≤LL.length:=by omega
   have hp0:=hO _ A h0 _ (Am _ (Am _ (Co.2 rfl)))
   refine Ab (d:=max 1000010 (dd0+1)) (by omega) (by omega) fun m hm=>?_
   rcases hbk with rfl|⟨q,o,c,rfl⟩
   all_goals
    repeat' ((conv=>lhs;whnf);first
     |exact absurd hz (by decide)
     |refine A5 ‹_› hb (Aa rfl) ?_
     |refine A5 ‹_› hpp (Aa rfl) ?_
     |refine L7 (x:=_) (y:=false) rfl ?_
     |contradiction
     |refine Be fun h' S=>?_
     |refine C8 fun h' S=>?_
     |refine Bj ?_
     |refine C9 ?_
     |refine Bi ?_
     |refine seqt ?_
     |refine Bg ?_
     |refine Bc ?_
     |refine Aq ?_
     |refine Ar ?_
     |refine Bh ?_
     |(first|refine C4 ?_ ?_|refine Dt ?_ ?_|refine Cu ?_ ?_|refine new ?_ ?_)<;>intro hc hz<;>(try simp only[Aj]at hz)<;>try rewrite [hc])
    conv=>lhs;whnf
    refine Br (L:=[0,29,30,31]) rfl (fun m vs d' h' nx'=>∃(i:Nat) (A:List Av),i+m=CL.length∧J i A∧Sat h' nx' A∧d'=[]∧vs=[.yl lp,.sl p 0 CL.length (.u 3),.i .i64 (.ofNat CL.length),.i .i64 (.ofNat i)]) CL.length (by omega) ⟨0,A,by omega,h0,S,rfl,rfl⟩ ?_
    rintro m _ d' h' nx' ⟨i,A,hi,hJ,S,rfl,rfl⟩ k' hn' hx
    have hp:=hO _ A hJ _ (Am _ (Am _ (Co.2 rfl)))
    repeat' ((conv=>lhs;whnf);first
     |(refine Gl Dk ‹_› hp h2' h3' (by omega) i (Int.ofNat_lt.1 hz) rfl ?_
       have hil:=Int.ofNat_lt.1 hz)
     |(refine hy i _ (i+1) A [_] _ _ _ _ ⟨rfl,hil,rfl⟩ (by omega) hJ (Sat.rot ‹_›) (fun A' h2 nx2 q1 S2=>?_) (fun A' h2 nx2 q2 S2=>?_))
     |exact hn' _ _ _ _ (m-1) (by(try simp only[Aj]at *);omega) ⟨i+1,A',(by(try simp only[Aj]at *);omega),q1,Sat.right (C:=[_]) (Sat.tor ‹_›),rfl,rfl⟩
     |(refine hx _ _ _ _ _ trivial ?_;conv=>lhs;whnf
       exact hk A' _ _ (.inr q2) (Sat.right (C:=[_]) (Sat.tor ‹_›)))
     |(refine hx _ _ _ _ _ trivial ?_;conv=>lhs;whnf
       exact hk A _ _ (.inl ⟨i,(by(try simp only[Aj]at *);omega),hJ⟩) ‹_›)
     |contradiction
     |refine Be fun h' S=>?_
     |refine C8 fun h' S=>?_
     |refine Bj ?_
     |refine C9 ?_
     |refine Bi ?_
     |refine seqt ?_
     |refine Bg ?_
     |refine Bc ?_
     |refine Aq ?_
     |refine Ar ?_
     |refine Bh ?_
     |(first|refine C4 ?_ ?_|refine Dt ?_ ?_|refine Cu ?_ ?_|refine new ?_ ?_)<;>intro hc hz<;>(try simp only[Aj]at hz)<;>try rewrite [hc])
theorem declared_ok {n:Nat} (hn:2≤n) {pp:Pos} {kp:KP} {h:H} {nx:Pos} {A:List Av} (S:Sat h nx A) {k:K} (hk:∀h',Sat h' (Ad nx) ((nx,.row [.p pp 3] 200)::A)→k (.fn 197 [.p nx 0]) h' (Ad nx)=true):Ai gg n kp (.fn 158 []) [.p pp 3] h nx k=true:=by
 refine Ab hn (by omega) fun m hm=>?_
 repeat' ((conv=>lhs;whnf);first
  |exact hk _ ‹_›
  |contradiction
  |refine Be fun h' S=>?_
  |refine C8 fun h' S=>?_
  |refine Bj ?_
  |refine C9 ?_
  |refine Bi ?_
  |refine seqt ?_
  |refine Bg ?_
  |refine Bc ?_
  |refine Aq ?_
  |refine Ar ?_
  |refine Bh ?_)
theorem Ty:∀(F:Fr) (a:Nat),∀x∈Fr.post a F,x.s≤Fr.sz F
 |.nil,a,x,hx=>by cases hx
 |.tk t r,a,x,hx=>Ty r (a+1) x hx
 |.nd k q r,a,x,hx=>by
  show x.s≤Fr.sz q+1+Fr.sz r
  rcases D9.1 (hx:x∈Fr.post a q++_::Fr.post (a+Fr.wid q) r)with hx|hx
  · have:=Ty q a x hx;omega
  · rcases Bo.1 hx with rfl|hx
    · show Fr.sz q+1≤_;omega
    · have:=Ty r _ x hx;omega
theorem nN_mem {N:List Nd} {i:Nat} (h:i<N.length):nN N i∈N:=by rw[←Uf h];exact D8 _
theorem Nk (F:Fr):(Fr.post 0 F).length=Fr.sz F:=Fr.post_len F 0
theorem ov_snoc (b:List Nat→Bool) (L:List Dc) (d:Dc):ov b (L++[d])=fun x=>if x=d.n then d.ty else ov b L x:=by
 unfold ov;rw[List.foldl_append];rfl
theorem ext_ti {l:List Tk} {s s':PS} {v:Val} {b:List Nat→Bool} (h:run M0 .external l s=.ok v s') (ht:ti b s):ti b s':=
 (((loc_ok (p:=⟨l,l,0,0,0,[],[],fun i j _ hi=>by omega,fun i hi=>by omega⟩) M0).2 .external rfl).mo b l s v s' h).2 ht
theorem pi_start {l:List Tk} {lsl:AV} {EL:List Av} {sc:Pos} {tau:List Nat→Bool} {c:Nat} {X:List Av} (hX:Tf sc tau c X) (htok:SlA 2 54 lsl (l.flatMap Du) EL) (hl:l.length≤20000) {pp mp:Pos} {R:List Av} {h:H} {nx:Pos}
 (S:Sat h nx ((pp,.row [lsl,.i .i64 0,.sl0,.p sc 0,.m mp,.sl0,.sl0] 66)::(mp,.map fun _=>none)::(R++(EL++X)))) :
 PI ⟨l,pp,sc,tau,X,[],lsl,EL⟩ h nx (s0 tau) R:=by
 refine⟨⟨.sl0,.sl0,.sl0,mp,fun _=>0,[],[],[],[],[]⟩,⟨?_,B9 _,?_,htok,.nil,.nil,.nil,⟨rfl,rfl,fun x=>rfl⟩,⟨B9 _,B9 _⟩,(fun c hc=>nomatch hc),fun x=>.inl rfl⟩,?_⟩
 · intro n h nx B x kp k hn S hB hk
   exact Xx (by omega) hX S hB hk
 · show l.length≤1000000;omega
 · exact S
theorem tooDeep_f {n:Nat} (hn:1000020≤n) {av:AV} {l:List Tk} {A:List Av} (hl:Kz 2 54 Du l av A) (hle:l.length≤100000) (ht:Le 0 l=false) {kp:KP} {h:H} {nx:Pos} (S:Sat h nx A) {k:K}
 (hk:∀h' nx',Sat h' nx' A→k (.b false) h' nx'=true):Ai gg n kp (.fn 12 []) [av] h nx k=true:=Og hn hl hle S fun h' nx' S=>by rw[ht];exact hk h' nx' S
theorem perm_E {a b c:Av} {R X D C:List Av}:(a::b::(R++(c::(D++(C++X))))).Perm (X++(a::b::c::(D++(C++R)))):=by
 classical exact Ie.2 fun e=>by simp only[List.count_append,List.count_cons];omega
theorem perm_D {a b:Av} {X R F:List Av}:(a::b::((X++R)++F)).Perm (X++(a::b::(R++F))):=by
 classical exact Ie.2 fun e=>by simp only[List.count_append,List.count_cons];omega
theorem perm_F {b:Av} {X R F:List Av}:(X++(b::(R++F))).Perm (b::(X++R)++F):=by
 classical exact Ie.2 fun e=>by simp only[List.count_append,List.count_cons];omega
theorem external_eq {n:Nat} (hn:22200000≤n) {l:List Tk} {p:Pos} {off:Nat} {cap:Cap} {LL:List AV} (h1:(LL.drop off).take (l.length*2)=l.flatMap Du) (h2:off+l.length*2≤LL.length) (hl:l.length≤20000) (htd:Le 0 l=false) {sc:Pos} {tau:List Nat→Bool} {c:Nat} {X:List Av} (hX:Tf sc tau c X) (hc:c≤900000)
 {kp:KP} {h:H} {nx:Pos} {R:List Av} (S:Sat h nx ((p,.row LL 54)::(X++R))) {k:K}
 (hk1:run M0 .external l (s0 tau)=.fail→∀h' nx',Sat h' nx' ((p,.row LL 54)::(X++R))→k (.tu [.sl0,.i .i64 0,.i .i64 110]) h' nx'=true)
 (hk2:∀v s' G,run M0 .external l (s0 tau)=.ok v s'→At l (s0 tau) G s'→one G→∀r X' h' nx',Tf sc s'.ty (c+s'.dl.length) X'→Sat h' nx' ((r,.row ((pre 0 G).flatMap Dy) 132)::(p,.row LL 54)::(X'++R)) →
   k (.tu [.sl r 0 (pre 0 G).length (.k (pre 0 G).length),iA s'.at',.i .i64 0]) h' nx'=true):Ai gg n kp (.fn 110 []) [.sl p off l.length cap,.p sc 0] h nx k=true:=by
 have hX0:=hX
 obtain⟨mq,bq,D,blv,BL,XB,hXe,hB,hD,htau,hcc⟩:=hX0
 have hscm:(sc,OB.row [.p sc 0,.m mq,.sl bq 0 1 (.k 1)] 107)∈X:=by rw[hXe];simp
 refine Ab hn (by omega) fun m hm=>?_
 have hlst:∀ {A:List Av},(p,OB.row LL 54)∈A→Kz 2 54 Du l (.sl p off l.length cap) A:=fun hA=>.inr ⟨p,off,cap,LL,rfl,hA,h1,h2⟩
 have htk:SlA 2 54 (.sl p off l.length cap) (l.flatMap Du) [(p,.row LL 54)]:=.row p off _ _ _ _ h1 h2
 repeat' ((conv=>lhs;whnf);first
  |exact absurd hz (by decide)
  |(refine Yj (v:=.m mq) (bq:=bq) (c:=.k 1) (by omega) ‹_› ?_ ?_;simp[hscm])
  |refine tooDeep_f (by omega) (hlst (Gm (i:=1) rfl)) (by omega) htd ‹_› (fun h' nx' S=>?_)
  |refine Ry (by omega) ‹_› (fun mp h' nx' S=>?_)
  |refine A6 ‹_› (.row _ 66) (Dq _ 66) (fun h' S=>?_)
  |refine fits_w (by omega) (fun m2 hm2=>?_)
  |contradiction
  |refine Be fun h' S=>?_
  |refine C8 fun h' S=>?_
  |refine Bj ?_
  |refine C9 ?_
  |refine Bi ?_
  |refine seqt ?_
  |refine Bg ?_
  |refine Bc ?_
  |refine Aq ?_
  |refine Ar ?_
  |refine Bh ?_
  |(first|refine C4 ?_ ?_|refine Dt ?_ ?_|refine Cu ?_ ?_|refine new ?_ ?_)<;>intro hc hz<;>(try simp only[Aj]at hz)<;>try rewrite [hc])
 conv=>lhs;whnf
 have hb0:Btw l (s0 tau):=btw0 hl tau
 have hno:=Ky hb0
 have S9:Sat _ _ ((nx',OB.row [.sl p off l.length cap,.i .i64 0,.sl0,.p sc 0,.m mp,.sl0,.sl0] 66)::(mp,.map fun _=>none)::(nx,.row [.p sc 0] 43)::(p,.row LL 54)::(X++R)):=‹_›
 have P:=pi_start (R:=(nx,.row [.p sc 0] 43)::R) hX htk hl (S9.perm (.cons _ (.cons _ (.cons _ (by
  show((p,OB.row LL 54)::(X++R)).Perm (R++((p,OB.row LL 54)::X))
  exact(List.Perm.cons _ Jm).trans (List.perm_middle.symm))))))
 clear S9
 refine fb_w ((all_ok (E:=⟨l,nx',sc,tau,X,[],.sl p off l.length cap,[(p,.row LL 54)]⟩) M0 (by decide)).external m2 20000100 (Ag _) (by show 2100000+20000100≤m2;omega) _ _ _ _ _ _ (fun v s'=>run M0 .external l (s0 tau)=.ok v s') (run M0 .external l (s0 tau)=.fail) P ?_ ?_ ?_)
 · show W (run M0 .external l (s0 tau)) _ _ False
   cases e:run M0 .external l (s0 tau)with
   |ok v s'=>exact rfl
   |fail=>exact rfl
   |out=>rw[e]at hno;exact hno
 · intro v s' h' nx2 hrun P2
   rw[hrun]at hno
   obtain⟨hat,hb2,hdn⟩:=hno
   obtain⟨G,hA,hone,hsb⟩:=Rb hrun
   have hti:s'.ty=ov tau s'.dl∧∀d∈s'.dl,d.n≠[]:=by
    have:=ext_ti (b:=tau) hrun ⟨rfl,fun d hd=>nomatch hd⟩
    unfold ti at this
    rw[hb2.st]at this
    exact this
   obtain⟨C,hR,S⟩:=P2
   have hnr:=hR.nr
   rw[hb2.st]at hnr
   obtain⟨hBL,hdl,-⟩:=hnr
   have hdl:s'.dl=C.CL.map Oy:=hdl
   have hCLl:C.CL.length=s'.dl.length:=by rw[hdl,Ct]
   have hat2:=hb2.a
   have hdl2:=hb2.dl
   have hbk:C.bk=.sl0∨∃q o c,C.bk=.sl q o 0 c:=by
    have hbk:=hR.bk
    rw[hBL]at hbk
    rcases hbk.inv with⟨h1,_⟩|⟨q,n,LL,h1,h2,h3,_⟩
    · exact .inl h1
    · right
      have:=congrArg List.length h2
      rw[Ci]at this
      have h0:(List.map iA ([]:List Nat)).length=0:=rfl
      have:n=0:=by omega
      subst this
      exact⟨q,0,_,h1⟩
   obtain⟨kk,q,rfl⟩:=hone
   have hdone:s'.done=Fr.post 0 (.nd kk q .nil):=hA.d
   have hpl:=Nk (.nd kk q .nil)
   have hszq:Fr.sz (.nd kk q .nil)=Fr.sz q+1:=rfl
   have hdn2:=hb2.d
   rw[hdone,hpl]at hdn2
   obtain⟨pd,LLd,hdnv,hED,hM⟩:∃pd LLd,C.dn=.sl pd 0 (Fr.post 0 (.nd kk q .nil)).length (.u 4)∧C.ED=[(pd,.row LLd 132)]∧NdM (Fr.post 0 (.nd kk q .nil)) pd 0 LLd:=by
    have hdn:=hR.dn
    rw[hdone]at hdn
    rcases hdn.inv with⟨_,h2,_⟩|⟨p,n,LL,h1,h2,h3,h4⟩
    · have:=Dh Ed (by omega) h2
      rw[this]at hpl
      simp at hpl;omega
    · have:=El (off:=0) Ed (by omega) h2 (by omega)
      subst this
      exact⟨p,LL,h1,h4,h2,by omega⟩
   have S9:Sat h' nx2 ((nx',.row [.sl p off l.length cap,iA s'.at',.sl pd 0 (Fr.post 0 (.nd kk q .nil)).length (.u 4),.p sc 0,.m C.mp,C.cg,C.bk] 66)::(C.mp,.map (Eb C.now))::((nx,.row [.p sc 0] 43)::(R++((p,.row LL 54)::(C.ED++(C.EC++(C.EB++X))))))):=by rw[←hdnv];exact S
   rw[hED]at S9
   have S9:=(S9.sub (.cons_cons _ (.cons _ (.cons_cons _ (.append (E7 R) (.cons_cons _ (.append (E7 _) (.append (E7 C.EC) (Gf _ X))))))))).perm perm_E
   clear S
   have hG:=hR.cg
   obtain⟨Rst,hRst⟩:∃Rst,Rst=(nx',OB.row [.sl p off l.length cap,iA s'.at',.sl pd 0 (Fr.post 0 (.nd kk q .nil)).length (.u 4),.p sc 0,.m C.mp,C.cg,C.bk] 66)::(nx,.row [.p sc 0] 43)::(p,.row LL 54)::([(pd,.row LLd 132)]++(C.EC++R)):=⟨_,rfl⟩
   rw[←hRst]at S9
   have hm1:(nx',OB.row [.sl p off l.length cap,iA s'.at',.sl pd 0 (Fr.post 0 (.nd kk q .nil)).length (.u 4),.p sc 0,.m C.mp,C.cg,C.bk] 66)∈Rst:=by rw[hRst];simp
   have hm2:(nx,OB.row [.p sc 0] 43)∈Rst:=by rw[hRst];simp
   have hm3:(pd,OB.row LLd 132)∈Rst:=by rw[hRst];simp
   have hm4:∀e∈C.EC,e∈Rst:=fun e he=>by rw[hRst];simp[he]
   repeat' ((conv=>lhs;whnf);first
    |refine declared_ok (by omega) ‹_› (fun h' S=>?_)
    |refine A5 ‹_› (A3 _ hm1) (Aa rfl) ?_
    |contradiction
    |refine Be fun h' S=>?_
    |refine C8 fun h' S=>?_
    |refine Bj ?_
    |refine C9 ?_
    |refine Bi ?_
    |refine seqt ?_
    |refine Bg ?_
    |refine Bc ?_
    |refine Aq ?_
    |refine Ar ?_
    |refine Bh ?_)
   conv=>lhs;whnf
   refine Ea 1000 (declared_it (by omega) hG hbk (pp:=nx') (b:=nx2) (a0:=.sl p off l.length cap) (a1:=iA s'.at') (a2:=.sl pd 0 (Fr.post 0 (.nd kk q .nil)).length (.u 4)) (a3:=.p sc 0) (a4:=.m C.mp)) (fun _=>rfl) (fun _=>rfl) ‹_› (by omega) (by omega)
    (fun i A'=>∃Xi,i≤C.CL.length∧Tf sc (ov tau ((C.CL.take i).map Oy)) (c+i) Xi∧A'=(nx2,.row [.p nx' 3] 200)::(Xi++Rst))
    (fun e A'=>False) (fun A'=>⟨fun c=>c,fun _ c=>c⟩) ?_ ⟨X,B9 _,hX,rfl⟩ ?_ ?_ (fun e A' h nx' c=>c.elim)
   · rintro i A' ⟨Xi,_,_,rfl⟩ e he
     rcases Bo.1 he with rfl|he
     · exact Aw ..
     rcases Bo.1 he with rfl|he
     · exact Am _ (A3 _ hm1)
     · exact Am _ (A3 _ (hm4 e he))
   · rintro i _ _ A' F1 F2 m3 lp mid K2 h nx3 ⟨rfl,hi,rfl⟩ hm5 ⟨Xi,hi2,hXi,rfl⟩ S hmid hn1 hx1
     have hne:C.CL[i].n≠[]:=by
      have:=hti.2
      refine this (Oy C.CL[i]) ?_
      rw[hdl];exact List.mem_map_of_mem (D8 _)
     repeat' ((conv=>lhs;whnf);first
      |refine hmid (_::_::(Xi++Rst)) _ _ _ ‹_› (fun h' S=>?_)
      |refine A5 ‹_› (Am _ (Am _ (B7 _ (A3 _ hm2)))) (Aa rfl) ?_
      |refine declare_eq (by omega) hXi (by omega) hne (Sat.perm ‹_› perm_D) (fun X' h' nx' hX' S=>?_)
      |contradiction
      |refine Be fun h' S=>?_
      |refine C8 fun h' S=>?_
      |refine Bj ?_
      |refine C9 ?_
      |refine Bi ?_
      |refine seqt ?_
      |refine Bg ?_
      |refine Bc ?_
      |refine Aq ?_
      |refine Ar ?_
      |refine Bh ?_
      |(first|refine C4 ?_ ?_|refine Dt ?_ ?_|refine Cu ?_ ?_|refine new ?_ ?_)<;>intro hc hz<;>(try simp only[Aj]at hz)<;>try rewrite [hc])
     conv=>lhs;whnf
     refine hn1 _ _ _ ⟨X',hi,?_,rfl⟩ (Sat.perm (Sat.sub ‹_› (.append (E7 X') (.cons _ (E7 _)))) perm_F)
     rw[Lz hi,Eo]
     show Tf sc (ov tau (_++[Oy C.CL[i]])) _ X'
     rw[ov_snoc]
     have e:(fun x=>if x=(Oy C.CL[i]).n then(Oy C.CL[i]).ty else ov tau ((C.CL.take i).map Oy) x)=fun y=>if y=C.CL[i].n then N2 C.CL[i].now 1 else ov tau ((C.CL.take i).map Oy) y:=by
      funext y
      show(if y=C.CL[i].n then decide (C.CL[i].now=1)else _)=_
      rw[I4]
     rw[e]
     exact hX'
   · rintro _ A' h nx3 rfl ⟨Xi,_,hXi,rfl⟩ S
     rw[List.take_length,←hdl,←hti.1]at hXi
     have hO:=ahOK kk q
     have hpre:(pre 0 (.nd kk q .nil)).length=(Fr.post 0 (.nd kk q .nil)).length:=hO.n.symm
     repeat' ((conv=>lhs;whnf);first
      |refine A5 ‹_› (Am _ (Am _ (A3 _ hm1))) (Aa rfl) ?_
      |refine A5 ‹_› (Am _ (Am _ (Am _ (A3 _ hm1)))) (Aa rfl) ?_
      |refine A1 ‹_› 1 rfl ?_
      |refine Bm ‹_› 1 rfl (fun h' S=>?_)
      |refine ahead_eq (cap:=.u 4) (by omega) hM hO (by omega) (by omega) (fun i hi=>by have:=Ty _ 0 _ (nN_mem hi);omega) (Am _ (Am _ (A3 _ hm3))) ‹_› (fun r h' nx' S=>?_)
      |contradiction
      |refine Be fun h' S=>?_
      |refine C8 fun h' S=>?_
      |refine Bj ?_
      |refine C9 ?_
      |refine Bi ?_
      |refine seqt ?_
      |refine Bg ?_
      |refine Bc ?_
      |refine Aq ?_
      |refine Ar ?_
      |refine Bh ?_
      |(first|refine C4 ?_ ?_|refine Dt ?_ ?_|refine Cu ?_ ?_|refine new ?_ ?_)<;>intro hc hz<;>(try simp only[Aj]at hz)<;>try rewrite [hc])
     conv=>lhs;whnf
     rw[hRst]at S
     have S9:Sat _ _ ((r,OB.row ((pre 0 (.nd kk q .nil)).flatMap Dy) 132)::_::(Xi++(_::_::(p,.row LL 54)::([_]++(C.EC++R))))):=‹_›
     have S9:=(S9.sub (.cons_cons _ (.cons _ (.append (E7 Xi) (.cons _ (.cons _ (.cons_cons _ (.cons _ (Gf C.EC R))))))))).perm (.cons _ Fh)
     rw[←hpre]
     exact hk2 v s' _ hrun hA ⟨_,_,rfl⟩ r Xi _ _ (by rw[←hCLl];exact hXi) S9
 · intro hf h' nx2 s' P2
   obtain⟨C,hR,S⟩:=P2
   have S9:Sat h' nx2 (_::_::(_::(R++((p,.row LL 54)::(C.ED++(C.EC++(C.EB++X))))))):=S
   have S9:=S9.sub (.cons _ (.cons _ (.cons _ (.append (E7 _) (.cons_cons _ ((Gf _ _).trans ((Gf _ _).trans (Gf _ _))))))))
   have S9:=S9.perm (List.perm_middle.trans (.cons _ Jm))
   repeat' ((conv=>lhs;whnf);first
    |exact hk1 hf _ _ ‹_›
    |contradiction
    |refine Be fun h' S=>?_
    |refine C8 fun h' S=>?_
    |refine Bj ?_
    |refine C9 ?_
    |refine Bi ?_
    |refine seqt ?_
    |refine Bg ?_
    |refine Bc ?_
    |refine Aq ?_
    |refine Ar ?_
    |refine Bh ?_)
end Go.CE
