/- Part 38 of the lemmas behind the claim. -/
import Derived.Test.YtacpdfjcepkgcaaGreatDoorZA01
import Derived.Test.YtacpdfjcepkgcaaGreatDoorZA34
import Derived.Test.YtacpdfjcepkgcaaGreatDoorZA22
import Derived.Test.YtacpdfjcepkgcaaGreatDoorZA37
set_option linter.unusedSimpArgs false
set_option linter.unusedVariables false
set_option linter.constructorNameAsVariable false
set_option linter.unusedSectionVars false
set_option linter.defProp false
set_option maxRecDepth 100000
set_option maxHeartbeats 40000000
namespace Go.CE
open Go Go.Ps Go.Proofs.YtacpdfjcepkgcaaGreatDoor
theorem at0 {a:Av} {A:List Av}:(a::A)[0]?=some a:=rfl
theorem at1 {a b:Av} {A:List Av}:(a::b::A)[1]?=some b:=rfl
theorem at2 {a b c:Av} {A:List Av}:(a::b::c::A)[2]?=some c:=rfl
theorem at3 {a b c d:Av} {A:List Av}:(a::b::c::d::A)[3]?=some d:=rfl
theorem at4 {a b c d e:Av} {A:List Av}:(a::b::c::d::e::A)[4]?=some e:=rfl
theorem at5 {a b c d e f:Av} {A:List Av}:(a::b::c::d::e::f::A)[5]?=some f:=rfl
theorem at6 {a b c d e f g:Av} {A:List Av}:(a::b::c::d::e::f::g::A)[6]?=some g:=rfl
theorem at7 {a b c d e f g h:Av} {A:List Av}:(a::b::c::d::e::f::g::h::A)[7]?=some h:=rfl
theorem at8 {a b c d e f g h i:Av} {A:List Av}:(a::b::c::d::e::f::g::h::i::A)[8]?=some i:=rfl
theorem at9 {a b c d e f g h i j:Av} {A:List Av}:(a::b::c::d::e::f::g::h::i::j::A)[9]?=some j:=rfl
variable {h : H} {nx : Pos} {A : List Av}
theorem Bj {p:Pos} {L:List AV} {ty off:Nat} {k:AV→Bool} (hk:k (L.getD off .x)=true) (S:Sat h nx A:=by assumption) (hi:∃i:Nat,A[i]?=some (p,OB.row L ty):=by first|exact⟨0,rfl⟩|exact⟨1,rfl⟩|exact⟨2,rfl⟩|exact⟨3,rfl⟩|exact⟨4,rfl⟩|exact⟨5,rfl⟩|exact⟨6,rfl⟩|exact⟨7,rfl⟩|exact⟨8,rfl⟩|exact⟨9,rfl⟩) (ho:off<L.length:=by exact(Aa rfl)):rd1 h p off k=true:=by
 obtain⟨i,hi⟩:=hi
 exact Ae S i hi ho hk
theorem C9 {p:Pos} {L:List AV} {ty off n:Nat} {k:List AV→Bool} (hk:k ((L.drop off).take n)=true) (S:Sat h nx A:=by assumption) (hi:∃i:Nat,A[i]?=some (p,OB.row L ty):=by first|exact⟨0,rfl⟩|exact⟨1,rfl⟩|exact⟨2,rfl⟩|exact⟨3,rfl⟩|exact⟨4,rfl⟩|exact⟨5,rfl⟩|exact⟨6,rfl⟩|exact⟨7,rfl⟩|exact⟨8,rfl⟩|exact⟨9,rfl⟩) (ho:off+n≤L.length:=by exact(Aa rfl)):rd h p off n k=true:=by
 obtain⟨i,hi⟩:=hi
 exact Da S i hi ho hk
theorem C8 {p:Pos} {L:List AV} {ty off i:Nat} {vs:List AV} {k:H→Bool} (hk:∀h',Sat h' nx (A.set i (p,.row (D7 L off vs) ty))→k h'=true) (S:Sat h nx A:=by assumption) (hi:A[i]?=some (p,.row L ty):=by first|exact at0|exact at1|exact at2|exact at3|exact at4|exact at5|exact at6|exact at7|exact at8|exact at9) (ho:off+vs.length≤L.length:=by exact(Aa rfl)) (h1:Gt vs=true:=by exact rfl):wr h p off vs k=true:=Au S i hi ho h1 hk
theorem Be {L:List AV} {ty n:Nat} {k:Pos→H→Pos→Bool} (hk:∀h',Sat h' (Ad nx) ((nx,.row L ty)::A)→k nx h' (Ad nx)=true) (S:Sat h nx A:=by assumption) (hn:L.length=n:=by exact rfl):newC h nx ty n L k=true:=Cp S hn hk
end Go.CE
namespace Go.CE
open Go Go.Ps Go.Proofs.YtacpdfjcepkgcaaGreatDoor
def Yz:AV→Bool
 |.b _ | .i _ _ | .s _ | .p0 | .p _ _ | .sl0 | .sl _ _ _ _ | .m0 | .m _ | .nf=>true
 |_=>false
theorem Yd {a:AV} (h:Yz a=true):eqA0 a a=true:=by
 cases a<;>first|rfl|cases h|skip
 · rename_i b;cases b<;>rfl
 · rename_i k n
   show fB (kEq k k) (N2 n n) false=true
   have:kEq k k=true:=by cases k<;>rfl
   rw[this,(Fb n n).2 rfl];rfl
 · rename_i l;exact(Dn l l).2 rfl
 · rename_i p n
   show fB (Kq p p) (Nat.beq n n) false=true
   rw[(Jv p p).2 rfl];exact Nat.beq_refl n
 · rename_i p o n c
   cases c with
   |k c=>show fB (Kq p p) (fB (Nat.beq o o) (fB (Nat.beq n n) (Nat.beq c c) false) false) false=true;rw[(Jv p p).2 rfl,Nat.beq_refl,Nat.beq_refl,Nat.beq_refl];rfl
   |u c=>show fB (Kq p p) (fB (Nat.beq o o) (fB (Nat.beq n n) (Nat.beq c c) false) false) false=true;rw[(Jv p p).2 rfl,Nat.beq_refl,Nat.beq_refl,Nat.beq_refl];rfl
 · rename_i p;exact(Jv p p).2 rfl
theorem Bi {a:AV} {x y:Bool} (hx:x=true) (h:Yz a=true:=by first|exact rfl|assumption):fB (eqA a a) x y=true:=by
 have:eqA a a=true:=by
  cases a<;>first|exact Yd h|cases h
 rw[this];exact hx
theorem Bg {a:Int} {x y:Bool} (hx:x=true):fB (N2 a a) x y=true:=by rw[(Fb a a).2 rfl];exact hx
theorem Bc {a b:Int} {x:Bool} (hx:x=true) (h:a≤b:=by(try simp only[Aj]at *);omega):fB (K0 a b) x false=true:=Cb h hx
theorem Aq {a b:Nat} {y:Bool} (hy:y=true) (h:b<a:=by(try simp only[Aj]at *);omega):fB (Nat.ble a b) false y=true:=Cw h hy
theorem Ar {a b:Nat} {x:Bool} (hx:x=true) (h:a≤b:=by(try simp only[Aj]at *);omega):fB (Nat.ble a b) x false=true:=Bq h hx
theorem Bh {z:Int} {x y:Bool} (hx:x=true) (h:-9223372036854775808≤z∧z≤9223372036854775807:=by(try simp only[Aj]at *);omega):fB (fits .i64 z) x y=true:=Bv h hx
noncomputable def bodyK (m:Nat) (lv:LV) (ih:Hc) (N:Nat) (lp:Pos) (ps:List Nat) (asg body:Code) (tm:T AV) (a:List AV) (h:H) (nx:Pos) (mid:H→(H→Bool)→Bool) (K2:Ex→H→Pos→Bool):Bool:=
 layP N ps a tm fun t=>evC gg m lv ih ih N (some lp) asg t [] h nx fun e t d h nx=>match e with
  |.nm=>mid h fun h=>evC gg m lv ih ih N (some lp) body t d h nx fun e _ _ h nx=>K2 e h nx
  |_=>false
def AL.busy (M:AL):AL:=⟨M.lv,.busy,M.pend,M.tm,M.N,M.ps,M.asg,M.body,M.df⟩
def AL.rdy (M:AL):AL:=⟨M.lv,.ready,none,M.tm,M.N,M.ps,M.asg,M.body,M.df⟩
def AL.aft (M:AL):Ex→AL
 |.nm=>M.rdy
 |.rt=>M.dn .ret
 |.ex id=>M.dn (.exit id)
 |.gt _=>M.busy
def goes:Ex→Bool
 |.nm=>true
 |_=>false
def MidOK (F1 F2:List Av) (mid:H→(H→Bool)→Bool):Prop:=∀(A:List Av) (h:H) (nx:Pos) (k:H→Bool),Sat h nx (A++F1)→(∀h',Sat h' nx (A++F2)→k h'=true)→mid h k=true
theorem Tn {h:H} {nx:Pos} {A:List Av} (S:Sat h nx A) {p:Pos} {o:AO} {k:AO→Bool} (hi:(p,OB.raw o)∈A) (hk:k o=true):Fk h p k=true:=by
 obtain⟨i,hi⟩:=Ih.1 hi
 exact A1 S i hi hk
theorem Pq {h:H} {nx:Pos} {A F:List Av} {p:Pos} {o o':AO} (S:Sat h nx (A++(p,OB.raw o)::F)) (ho:o'≠.dead) {k:H→Bool} (hk:∀h',Sat h' nx (A++(p,OB.raw o')::F)→k h'=true):Fa h p o' k=true:=by
 refine D0 (b:=.raw o) S A.length (.raw o') (by simp) ⟨rfl,ho⟩ fun h' S=>hk h' ?_
 have:(A++(p,OB.raw o)::F).set A.length (p,OB.raw o')=A++(p,OB.raw o')::F:=by
  rw[List.set_append_right _ _ (Ag _),Nat.sub_self,List.set_cons_zero]
 rwa [this]at S
theorem yield_w {n:Nat} {lp:Pos} {M:AL} {kp:KP} {a:List AV} {h:H} {nx:Pos} {A F:List Av} {k:K} (hn:1≤n) (S:Sat h nx (A++(lp,.raw (.loop M))::F)) (hM:M.st=.ready)
 (hb:∀m mid K2,n≤m+1→MidOK ((lp,.raw (.loop M))::F) ((lp,.raw (.loop M.busy))::F) mid →
   (∀e,(∀A h nx,Sat h nx (A++(lp,.raw (.loop M.busy))::F)→(∀h',Sat h' nx (A++(lp,.raw (.loop (M.aft e)))::F)→(match e with | .gt _=>False|_=>k (.b (goes e)) h' nx=true))→K2 e h nx=true)) →
   bodyK m M.lv (Ai gg m fun _ _=>false) M.N lp M.ps M.asg M.body M.tm a h nx mid K2=true):Ai gg n kp (.yl lp) a h nx k=true:=by
 obtain⟨m,rfl⟩:∃m,n=m+1:=⟨n-1,by omega⟩
 show yld gg m (Ai gg m fun _ _=>false) lp a h nx k=true
 unfold yld
 refine Tn S (A3 _ (Aw ..)) ?_
 refine hb m (fun h kk=>Fk h lp fun o=>match o with
  |.loop M=>(match M.st with
   |.ready=>Fa h lp (.loop ⟨M.lv,.busy,M.pend,M.tm,M.N,M.ps,M.asg,M.body,M.df⟩) kk
   |_=>false)
  |_=>false) (fun e h nx=>Fk h lp fun o=>match o with
    |.loop M=>(match e with
     |.nm=>Fa h lp (.loop ⟨M.lv,.ready,none,M.tm,M.N,M.ps,M.asg,M.body,M.df⟩) fun h=>k (.b true) h nx
     |.rt=>Fa h lp (.loop ⟨M.lv,.done,some .ret,M.tm,M.N,M.ps,M.asg,M.body,M.df⟩) fun h=>k (.b false) h nx
     |.ex id=>Fa h lp (.loop ⟨M.lv,.done,some (.exit id),M.tm,M.N,M.ps,M.asg,M.body,M.df⟩) fun h=>k (.b false) h nx
     |.gt _=>false)
    |_=>false) (Ag _) ?_ ?_
 · intro A h nx kk S hk
   refine Tn S (A3 _ (Aw ..)) ?_
   show(match M.st with
    |.ready=>Fa h lp (.loop M.busy) kk
    |_=>false)=true
   rw[hM]
   exact Pq S (by simp) hk
 · intro e A h nx S hk
   refine Tn S (A3 _ (Aw ..)) ?_
   cases e with
   |nm=>exact Pq S (by simp) hk
   |rt=>exact Pq S (by simp) hk
   |ex id=>exact Pq S (by simp) hk
   |gt l=>exact(hk h S).elim
def ItP {σ:Type} (D:Nat) (fv:AV) (step:σ→List AV→σ→Prop) (fin:σ→Prop) (s0:σ) (Own:List Av→Prop):Prop:=∀(d n:Nat),D≤n→d+1≤n→∀(lp:Pos) (kp:KP) (h:H) (nx:Pos) (k:K) (A:List Av) (J:σ→List Av→Prop) (X:List Av→Prop),
 (∀s A,J s A→Own A)→Sat h nx A→J s0 A →
 (∀(s:σ) (a:List AV) (s':σ) (A F:List Av) (h:H) (nx:Pos) (n:Nat) (k:K),step s a s'→d≤n→J s A→Sat h nx (A++F) →
   (∀A' h' nx',J s' A'→Sat h' nx' (A'++F)→k (.b true) h' nx'=true)→(∀A' h' nx',X A'→Sat h' nx' (A'++F)→k (.b false) h' nx'=true)→Ai gg n kp (.yl lp) a h nx k=true) →
 (∀A h nx,(∃s,fin s∧J s A)∨X A→Sat h nx A→k (.tu []) h nx=true)→Ai gg n kp fv [.yl lp] h nx k=true
def ItG {σ:Type} (D:Nat) (fv:AV) (step:σ→List AV→σ→Prop) (fin:σ→Prop) (s0:σ) (Own:List Av):Prop:=ItP D fv step fin s0 fun A=>∀e∈Own,e∈A
theorem app_two {A F:List Av} {a b:Av}:A++a::b::F=A++[a,b]++F:=by simp
theorem range_w {lv:LV} {n N:Nat} {kp:KP} {f:Operand} {ps:List Nat} {asg body:Code} {t:T AV} {d:List Pos} {h:H} {nx:Pos} {k:KC} {fv:AV} {A:List Av} (hf:∀k,I7 t f k=k fv) (hr:∀x,rfK fv x=x) (S:Sat h nx A)
 (hc:∀(L:AL) (h:H),L=⟨lv,.ready,none,t,N,ps,asg,body,nx⟩→Sat h (Ad (Ad nx)) ((Ad nx,.raw (.loop L))::(nx,.raw .marks)::A)→∀kk:K,
   (∀e A h nx',Sat h nx' ((Ad nx,.raw (.loop (L.aft e)))::(nx,.raw .marks)::A)→(∀h',Sat h' nx' ((nx,.raw .marks)::A)→(match e with | .gt _=>False|_=>k e t (nx::d) h' nx'=true))→kk (.tu []) h nx'=true) →
   Ai gg n kp fv [.yl (Ad nx)] h (Ad (Ad nx)) kk=true):Tt lv (Ai gg n kp) N none f ps asg body t d h nx k=true:=by
 show I7 t f _=true
 rw[hf,hr]
 refine A6 S (.raw .marks) ⟨rfl,by simp⟩ fun h' S=>?_
 refine J3 S fun M hM h' S=>?_
 refine hc M h' hM S _ fun e A h nx' S hk=>?_
 subst hM
 refine A1 S 0 rfl ?_
 cases e with
 |nm=>exact Bm S 0 rfl hk
 |rt=>exact Bm S 0 rfl hk
 |ex id=>exact Bm S 0 rfl hk
 |gt l=>
  exfalso
  refine hk (hs h (Ad nx) .dead) ?_
  exact(S.kill (i:=0) (e:=(Ad nx,_)) rfl)
theorem Ea {σ:Type} {D:Nat} (d0:Nat) {step:σ→List AV→σ→Prop} {fin:σ→Prop} {s0:σ} {Own:List Av→Prop} {lv:LV} {n N:Nat} {kp:KP} {f:Operand} {ps:List Nat} {asg body:Code} {t:T AV} {d:List Pos} {h:H} {nx:Pos} {k:KC} {fv:AV} {A:List Av}
 (hit:ItP D fv step fin s0 Own) (hf:∀k,I7 t f k=k fv) (hr:∀x,rfK fv x=x) (S:Sat h nx A) (hn:D≤n) (hd0:1≤d0∧d0+1≤n) (J:σ→List Av→Prop) (X:Ex→List Av→Prop) (hX:∀A,¬X .nm A∧∀l,¬X (.gt l) A) (hO:∀s A,J s A→Own A) (h0:J s0 A)
 (hb:∀(s:σ) (a:List AV) (s':σ) (A F1 F2:List Av) (m:Nat) (lp:Pos) (mid:H→(H→Bool)→Bool) (K2:Ex→H→Pos→Bool) (h:H) (nx:Pos),step s a s'→d0≤m+1→J s A→Sat h nx (A++F1)→MidOK F1 F2 mid →
   (∀A h nx,J s' A→Sat h nx (A++F2)→K2 .nm h nx=true)→(∀e A h nx,X e A→Sat h nx (A++F2)→K2 e h nx=true)→bodyK m lv (Ai gg m fun _ _=>false) N lp ps asg body t a h nx mid K2=true)
 (hk1:∀s A h nx',fin s→J s A→Sat h nx' ((nx,.raw .marks)::A)→k .nm t (nx::d) h nx'=true) (hk2:∀e A h nx',X e A→Sat h nx' ((nx,.raw .marks)::A)→k e t (nx::d) h nx'=true)
 (hm:∀ {A:List Av} {a b:Av},Own A→Own (a::b::A):=by first|exact fun h e he=>Am _ (Am _ (h e he))|exact fun⟨x,h1,h2⟩=>⟨x,Am _ (Am _ h1),fun e he=>Am _ (Am _ (h2 e he))⟩):Tt lv (Ai gg n kp) N none f ps asg body t d h nx k=true:=by
 refine range_w hf hr S fun L h1 hL S kk hkk=>?_
 refine hit d0 n hn hd0.2 (Ad nx) kp h1 _ kk _ (fun i B=>∃A,B=(Ad nx,.raw (.loop L))::(nx,.raw .marks)::A∧J i A) (fun B=>∃e A,B=(Ad nx,.raw (.loop (L.aft e)))::(nx,.raw .marks)::A∧X e A) ?_ S ⟨A,rfl,h0⟩ ?_ ?_
 · rintro i B ⟨A,rfl,hJ⟩
   exact hm (hO i A hJ)
 · rintro s a s' B F h nx' n' k' hs hn' ⟨A,rfl,hJ⟩ S hk1 hk2
   have S':Sat h nx' (A++(Ad nx,.raw (.loop L))::(nx,.raw .marks)::F):=S.perm (by
    rw[app_two]
    exact(Jm (l₁:=[_,_]) (l₂:=A)).append_right F)
   have back:∀ {x:OB} {A:List Av} {h:H} {nx':Pos},Sat h nx' (A++(Ad nx,x)::(nx,.raw .marks)::F)→Sat h nx' ((Ad nx,x)::(nx,.raw .marks)::A++F):=fun S=>S.perm (by
    rw[app_two]
    exact(Jm (l₂:=[_,_]) (l₁:=_)).append_right F)
   refine yield_w (by omega) S' (by rw[hL]) fun m mid K2 hm hmid hK=>?_
   have:=hb s a s' A _ _ m (Ad nx) mid K2 h nx' hs (by omega) hJ S' hmid
    (fun A h nx' hJ S=>hK .nm A h nx' S fun h' S=>hk1 _ _ _ ⟨A,by rw[hL],hJ⟩ (by rw[hL]at S;exact back S))
    (fun e A h nx' hx S=>hK e A h nx' S fun h' S=>by
      cases e with
      |nm=>exact absurd hx (hX A).1
      |gt l=>exact absurd hx ((hX A).2 l)
      |rt=>exact hk2 _ _ _ ⟨.rt,A,rfl,hx⟩ (back S)
      |ex id=>exact hk2 _ _ _ ⟨.ex id,A,rfl,hx⟩ (back S))
   rw[hL]
   exact this
 · rintro B h nx' (⟨s,hf,A,rfl,hJ⟩|⟨e,A,rfl,hx⟩) S
   · exact hkk .nm A h nx' (by rw[hL]at S ⊢;exact S) fun h' S=>hk1 s A h' nx' hf hJ S
   · refine hkk e A h nx' S fun h' S=>?_
     cases e with
     |nm=>exact absurd hx (hX A).1
     |gt l=>exact absurd hx ((hX A).2 l)
     |rt=>exact hk2 _ A _ nx' hx ‹_›
     |ex id=>exact hk2 _ A _ nx' hx ‹_›
attribute [local irreducible] loopK Tt Ai K0 N2 Dg fits rd rd1 wr newC Kj Fk Fa Ve Oe
def pE (b a n:Int) (s:Bool):AV:=.ag [.i .u8 b,.i .i64 a,.i .i64 n,.b s]
theorem pend_eq {n:Nat} (hn:2≤n) {b a m:Int} {s:Bool} (hb:0≤a∧a≤100000∧0≤m∧m≤100000) {A:List Av} {kp:KP} {h:H} {nx:Pos} (S:Sat h nx A) {k:K} (hk:∀h' nx',Sat h' nx' A→k (.i .i64 (a+m)) h' nx'=true):Ai gg n kp (.fn 99 []) [pE b a m s] h nx k=true:=by
 refine Ab hn (by omega) fun m hm=>?_
 repeat' ((conv=>lhs;whnf);first
  |exact hk _ _ (Sat.right (C:=[_]) ‹_›)
  |contradiction
  |refine Be fun h' S=>?_
  |refine C8 fun h' S=>?_
  |refine Bj ?_
  |refine C9 ?_
  |refine Bi ?_
  |refine seqt ?_
  |refine Bg ?_
  |refine Bc ?_
  |refine Aq ?_
  |refine Ar ?_
  |refine Bh ?_)
theorem partAt_eq {n:Nat} (hn:4≤n) {l:List Nat} (hl:l.length≤70000) (hx:∀x∈l,x≤255) {p:Int} (hp:0≤p∧p<l.length) {A:List Av} {kp:KP} {h:H} {nx:Pos} (S:Sat h nx A) {k:K}
 (hk:∀b m s h' nx',0≤b∧b≤255→1≤m∧p+m≤l.length→Sat h' nx' A→k (pE b p m s) h' nx'=true):Ai gg n kp (.fn 101 []) [.s l,.i .i64 p] h nx k=true:=by
 refine Ab hn (by omega) fun m hm=>?_
 have hb0:=Va hx p
 repeat' ((conv=>lhs;whnf);first
  |exact hk _ _ _ _ _ (by omega) (by(try simp only[Aj]at *);omega) (Sat.right (C:=[_]) ‹_›)
  |(refine third_ok (by omega) (fun z b hz=>?_);cases b)
  |contradiction
  |refine Be fun h' S=>?_
  |refine C8 fun h' S=>?_
  |refine Bj ?_
  |refine C9 ?_
  |refine Bi ?_
  |refine seqt ?_
  |refine Bg ?_
  |refine Bc ?_
  |refine Aq ?_
  |refine Ar ?_
  |refine Bh ?_
  |(first|refine C4 ?_ ?_|refine Dt ?_ ?_|refine Cu ?_ ?_|refine new ?_ ?_)<;>intro hc hz<;>(try simp only[Aj]at hz)<;>try rewrite [hc])
def Ah (l:List Nat) (p:Int) (a:List AV) (p':Int):Prop:=0≤p∧p<l.length∧∃b m s,a=[pE b p m s]∧(0≤b∧b≤255)∧1≤m∧p+m≤l.length∧p'=p+m
theorem parts_it {l:List Nat} (hl:l.length≤70000) (hx:∀x∈l,x≤255) (b:Pos):ItG 1000010 (.fn 100 [.p b 0]) (Ah l) (fun p:Int=>l.length≤p) 0 [(b,.row [.s l] 9)]:=by
 intro dd0 n hn hdd lp kp h nx k A J X hO S h0 hy hk
 refine Ab (d:=max 1000010 (dd0+1)) (by omega) (by omega) fun m hm=>?_
 conv=>lhs;whnf
 refine Br (L:=[0,1,3]) rfl (fun m vs d' h' nx'=>∃(p:Int) (A:List Av),0≤p∧p≤l.length∧l.length-p=m∧J p A∧Sat h' nx' A∧d'=[]∧vs=[.yl lp,.p b 0,.i .i64 p]) l.length (by omega) ⟨0,A,by omega,by omega,by omega,h0,S,rfl,rfl⟩ ?_
 rintro m _ d' h' nx' ⟨p,A,hp1,hp2,hp3,hJA,S,rfl,rfl⟩ k' hn' hx'
 have hb:=hO p A hJA _ (Co.2 rfl)
 repeat' ((conv=>lhs;whnf);first
  |refine A5 ‹_› hb (Aa rfl) ?_
  |(refine hx' _ _ _ _ _ trivial ?_;conv=>lhs;whnf
    exact hk A _ _ (Or.inl ⟨p,by omega,hJA⟩) ‹_›)
  |(refine hx' _ _ _ _ _ trivial ?_;conv=>lhs;whnf
    exact hk A' _ _ (Or.inr ‹_›) (Sat.right (C:=[_]) (Sat.tor ‹_›)))
  |(refine hn' _ _ _ _ (l.length-(p+mm)).toNat (by omega) ?_;exact⟨p+mm,A',by omega,by omega,by omega,by assumption,by assumption,rfl,rfl⟩)
  |(refine partAt_eq (by omega) hl hx ⟨hp1,by assumption⟩ ‹_› (fun bb mm ss h' nx' hb1 hb2 S=>?_))
  |(refine pend_eq (by omega) (by omega) (Sat.right (C:=[_]) (Sat.tor ‹_›)) (fun h' nx' S=>?_))
  |(refine hy p _ (p+mm) A [_] _ _ _ _ ⟨hp1,by assumption,bb,mm,ss,rfl,hb1,hb2.1,hb2.2,rfl⟩ (by omega) hJA (Sat.rot ‹_›) (fun A' h2 nx2 q1 S2=>?_) (fun A' h2 nx2 q2 S2=>?_)<;>have S3:=S2.tor)
  |contradiction
  |refine Be fun h' S=>?_
  |refine C8 fun h' S=>?_
  |refine Bj ?_
  |refine C9 ?_
  |refine Bi ?_
  |refine seqt ?_
  |refine Bg ?_
  |refine Bc ?_
  |refine Aq ?_
  |refine Ar ?_
  |refine Bh ?_
  |(first|refine C4 ?_ ?_|refine Dt ?_ ?_|refine Cu ?_ ?_|refine new ?_ ?_)<;>intro hc hz<;>(try simp only[Aj]at hz)<;>try rewrite [hc])
theorem Xm {n:Nat} (hn:2≤n) {l:List Nat} {kp:KP} {h:H} {nx:Pos} {A:List Av} (S:Sat h nx A) {k:K} (hk:∀h',Sat h' (Ad nx) ((nx,.row [.s l] 9)::A)→k (.fn 100 [.p nx 0]) h' (Ad nx)=true):Ai gg n kp (.fn 49 []) [.s l] h nx k=true:=by
 refine Ab hn (by omega) fun m hm=>?_
 repeat' ((conv=>lhs;whnf);first
  |exact hk _ ‹_›
  |contradiction
  |refine Be fun h' S=>?_
  |refine C8 fun h' S=>?_
  |refine Bj ?_
  |refine C9 ?_
  |refine Bi ?_
  |refine seqt ?_
  |refine Bg ?_
  |refine Bc ?_
  |refine Aq ?_
  |refine Ar ?_
  |refine Bh ?_)
theorem check_eq {n:Nat} (hn:1000020≤n) {l:List Nat} (hx:∀x∈l,x≤255) {A:List Av} {kp:KP} {h:H} {nx:Pos} (S:Sat h nx A) {k:K}
 (hk:∀e h' nx',Sat h' nx' A→(e=0→l.length≤65536)→k (.i .i64 e) h' nx'=true):Ai gg n kp (.fn 48 []) [.s l] h nx k=true:=by
 refine Ab hn (by omega) fun m hm=>?_
 repeat' ((conv=>lhs;whnf);first
  |exact hk _ _ _ (Sat.right (C:=[_]) ‹_›) (fun c=>absurd c (by decide))
  |refine Xm (by omega) ‹_› (fun h' S=>?_)
  |(refine Ea 1000000 (parts_it (by omega) hx (Ad (Ad nx))) (fun _=>rfl) (fun _=>rfl) ‹_› (by omega) (by omega)
     (fun p A'=>A'=(Ad (Ad nx),.row [.s l] 9)::(Ad nx,.row [.i .i64 0] 25)::(nx,.row [.s l] 9)::A)
     (fun e A'=>e=.ex 0∧∃z:Int,A'=(Ad (Ad nx),.row [.s l] 9)::(Ad nx,.row [.i .i64 z] 25)::(nx,.row [.s l] 9)::A)
     (fun A'=>⟨fun c=>Ex.noConfusion c.1,fun _ c=>Ex.noConfusion c.1⟩) (by rintro p A' rfl;simp) rfl ?_ ?_ ?_)
  |contradiction
  |refine Be fun h' S=>?_
  |refine C8 fun h' S=>?_
  |refine Bj ?_
  |refine C9 ?_
  |refine Bi ?_
  |refine seqt ?_
  |refine Bg ?_
  |refine Bc ?_
  |refine Aq ?_
  |refine Ar ?_
  |refine Bh ?_
  |(first|refine C4 ?_ ?_|refine Dt ?_ ?_|refine Cu ?_ ?_|refine new ?_ ?_)<;>intro hc hz<;>(try simp only[Aj]at hz)<;>try rewrite [hc])
 · rintro p _ p' _ F1 F2 m lp mid K2 h nx' ⟨hp0,hp1,b,q,s,rfl,hb1,hb2,hb3,rfl⟩ hm2 rfl S hmid hn1 hx1
   repeat' ((conv=>lhs;whnf);first
    |refine hmid (_::_::_::_::A) _ _ _ ‹_› (fun h' S=>?_)
    |(refine pend_eq (by omega) (by omega) ‹_› (fun h' nx' S=>?_))
    |exact hn1 _ _ _ rfl (Sat.right (C:=[_]) ‹_›)
    |exact hx1 _ _ _ _ ⟨rfl,_,rfl⟩ (Sat.right (C:=[_]) ‹_›)
    |cases s
    |contradiction
    |refine Be fun h' S=>?_
    |refine C8 fun h' S=>?_
    |refine Bj ?_
    |refine C9 ?_
    |refine Bi ?_
    |refine seqt ?_
    |refine Bg ?_
    |refine Bc ?_
    |refine Aq ?_
    |refine Ar ?_
    |refine Bh ?_
    |(first|refine C4 ?_ ?_|refine Dt ?_ ?_|refine Cu ?_ ?_|refine new ?_ ?_)<;>intro hc hz<;>(try simp only[Aj]at hz)<;>try rewrite [hc])
 · rintro p A' h nx' hf rfl S
   repeat' ((conv=>lhs;whnf);first
    |exact hk _ _ _ (Sat.right (C:=[_,_,_]) ‹_›) (fun _=>by omega)
    |refine A1 ‹_› 0 rfl ?_
    |refine Bm ‹_› 0 rfl (fun h' S=>?_)
    |contradiction
    |refine Be fun h' S=>?_
    |refine C8 fun h' S=>?_
    |refine Bj ?_
    |refine C9 ?_
    |refine Bi ?_
    |refine seqt ?_
    |refine Bg ?_
    |refine Bc ?_
    |refine Aq ?_
    |refine Ar ?_
    |refine Bh ?_)
 · rintro e A' h nx' ⟨rfl,z,rfl⟩ S
   repeat' ((conv=>lhs;whnf);first
    |exact hk _ _ _ (Sat.right (C:=[_,_,_]) ‹_›) (fun _=>by omega)
    |refine A1 ‹_› 0 rfl ?_
    |refine Bm ‹_› 0 rfl (fun h' S=>?_)
    |contradiction
    |refine Be fun h' S=>?_
    |refine C8 fun h' S=>?_
    |refine Bj ?_
    |refine C9 ?_
    |refine Bi ?_
    |refine seqt ?_
    |refine Bg ?_
    |refine Bc ?_
    |refine Aq ?_
    |refine Ar ?_
    |refine Bh ?_)
structure C3 where
 b:Nat
 a:Int
 n:Int
def encC3 (c:C3):List AV:=[.i .u8 (Int.ofNat c.b),.i .i64 c.a,.i .i64 c.n]
theorem Ix (c:C3):(encC3 c).length=3:=rfl
def CharL (L:List C3):Prop:=∀c∈L,c.b≤255∧(0≤c.a∧c.a≤65536)∧0≤c.n∧c.n≤65536
theorem chars_eq {n:Nat} (hn:1000040≤n) {l:List Nat} (hx:∀x∈l,x≤255) {A:List Av} {kp:KP} {h:H} {nx:Pos} (S:Sat h nx A) {k:K}
 (hk1:∀e h' nx',e≠0→Sat h' nx' A→k (.tu [.sl0,.i .i64 e]) h' nx'=true)
 (hk2:∀L p c LL h' nx',l.length≤65536→L.length≤l.length→CharL L→(LL.drop 0).take (L.length*3)=L.flatMap encC3→0+L.length*3≤LL.length→Sat h' nx' ((p,.row LL 78)::A)→k (.tu [.sl p 0 L.length (.k c),.i .i64 0]) h' nx'=true):Ai gg n kp (.fn 20 []) [.s l] h nx k=true:=by
 refine Ab hn (by omega) fun m hm=>?_
 repeat' ((conv=>lhs;whnf);first
  |exact hk1 _ _ _ ‹_› ‹_›
  |(refine check_eq (by omega) hx ‹_› (fun e h' nx' S hl=>?_))
  |refine Xm (by omega) ‹_› (fun h' S=>?_)
  |refine Ek encC3 Ix (by omega) ⟨0,0,0⟩ ‹_› rfl rfl (fun h' S=>?_)
  |refine Bq (y:=false) (show l.length*24≤1000000000 by have:=hl ‹_›;omega) ?_
  |refine Bq (y:=false) (show l.length≤1000000000 by have:=hl ‹_›;omega) ?_
  |contradiction
  |refine Be fun h' S=>?_
  |refine C8 fun h' S=>?_
  |refine Bj ?_
  |refine C9 ?_
  |refine Bi ?_
  |refine seqt ?_
  |refine Bg ?_
  |refine Bc ?_
  |refine Aq ?_
  |refine Ar ?_
  |refine Bh ?_
  |(first|refine C4 ?_ ?_|refine Dt ?_ ?_|refine Cu ?_ ?_|refine new ?_ ?_)<;>intro hc hz<;>(try simp only[Aj]at hz)<;>try rewrite [hc])
 conv=>lhs;whnf
 have hll:=hl ‹_›
 refine Ea 1000000 (parts_it (by omega) hx _) (fun _=>rfl) (fun _=>rfl) ‹_› (by omega) (by omega)
  (fun p A'=>∃acc:List C3,acc.length≤p∧p≤l.length∧CharL acc∧A'=(Ad (Ad nx'),.row [.s l] 9)::(Ad nx',.row [.sl nx' 0 acc.length (.k l.length)] 73)::(nx',.row ((acc++List.replicate (l.length-acc.length) (⟨0,0,0⟩:C3)).flatMap encC3) 78)::A)
  (fun e A'=>False) (fun A'=>⟨fun c=>c,fun _ c=>c⟩) (by rintro p A' ⟨acc,_,_,_,rfl⟩;simp) ⟨[],by simp,by omega,(fun c hc=>nomatch hc),rfl⟩ ?_ ?_ (fun e A' h nx' c=>c.elim)
 · rintro p _ p' _ F1 F2 m lp mid K2 h nx2 ⟨hp0,hp1,b,q,s,rfl,hb1,hb2,hb3,rfl⟩ hm2 ⟨acc,ha1,ha2,ha3,rfl⟩ S hmid hn1 hx1
   obtain⟨b,rfl⟩:=Int.eq_ofNat_of_zero_le hb1.1
   repeat' ((conv=>lhs;whnf);first
    |refine hmid (_::_::_::_::A) _ _ _ ‹_› (fun h' S=>?_)
    |exact hn1 _ _ _ ⟨acc,by omega,by omega,ha3,rfl⟩ (Sat.right (C:=[_]) ‹_›)
    |(refine hn1 _ _ _ ⟨acc++[⟨b,p,q⟩],by rw[Bb];show((acc.length+1:Nat):Int)≤_;omega,by omega,fun c hc=>(D9.1 hc).elim (ha3 c) (fun hc=>by rw[Co.1 hc];exact⟨by have:=hb1.2;show b≤255;omega,by show(0≤p∧p≤65536)∧0≤q∧q≤65536;omega⟩),rfl⟩ ?_
      have S9:=Sat.right (C:=[_,_]) ‹_›
      rw[Bb]
      exact S9)
    |cases s
    |refine cp_push (te:=ti77) (ty:=78) (ll:=acc.length) (c:=l.length) (bb:=24) Ix (acc:=acc) (r:=l.length-(acc.length+1)) (a:=⟨0,0,0⟩) (b:=⟨b,p,q⟩) ‹_› 4 (by rw[show l.length-(acc.length+1)+1=l.length-acc.length from(by(try simp only[Aj]at *);omega)];exact rfl) rfl (by omega) rfl rfl (by omega) (fun h' S=>?_)
    |refine zk1 ?_
    |refine A6 ‹_› (.row _ 78) (hol_3 _ _ _ 78) (fun h' S=>?_)
    |contradiction
    |refine Be fun h' S=>?_
    |refine C8 fun h' S=>?_
    |refine Bj ?_
    |refine C9 ?_
    |refine Bi ?_
    |refine seqt ?_
    |refine Bg ?_
    |refine Bc ?_
    |refine Aq ?_
    |refine Ar ?_
    |refine Bh ?_
    |(first|refine C4 ?_ ?_|refine Dt ?_ ?_|refine Cu ?_ ?_|refine new ?_ ?_)<;>intro hc hz<;>(try simp only[Aj]at hz)<;>try rewrite [hc])
 · rintro p A' h nx2 hf ⟨acc,ha1,ha2,ha3,rfl⟩ S
   repeat' ((conv=>lhs;whnf);first
    |refine A1 ‹_› 0 rfl ?_
    |refine Bm ‹_› 0 rfl (fun h' S=>?_)
    |refine hk2 acc _ _ _ _ _ (by omega) (by omega) ha3 ?_ ?_ (Sat.right (C:=[_,_]) ‹_›)
    |contradiction
    |refine Be fun h' S=>?_
    |refine C8 fun h' S=>?_
    |refine Bj ?_
    |refine C9 ?_
    |refine Bi ?_
    |refine seqt ?_
    |refine Bg ?_
    |refine Bc ?_
    |refine Aq ?_
    |refine Ar ?_
    |refine Bh ?_)
   · rw[List.drop_zero,Fx,List.take_left' (Az Ix acc)]
   · rw[Fx,Bb,Az Ix];omega
end Go.CE
