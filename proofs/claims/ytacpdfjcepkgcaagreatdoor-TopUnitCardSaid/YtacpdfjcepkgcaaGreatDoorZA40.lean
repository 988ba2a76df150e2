/- Part 40 of the lemmas behind the claim. -/
import Derived.Test.YtacpdfjcepkgcaaGreatDoorZA01
import Derived.Test.YtacpdfjcepkgcaaGreatDoorZA39
import Derived.Test.YtacpdfjcepkgcaaGreatDoorZA05
set_option linter.unusedSimpArgs false
set_option linter.unusedVariables false
set_option linter.constructorNameAsVariable false
set_option linter.unusedSectionVars false
set_option linter.defProp false
set_option maxRecDepth 100000
set_option maxHeartbeats 40000000
namespace Go.CE
open Go Go.Ps Go.Proofs.YtacpdfjcepkgcaaGreatDoor
attribute [local irreducible] loopK Tt Ai K0 N2 Dg fits rd rd1 wr newC Kj Fk Fa Ve Oe eqA
inductive ExA {α:Type} (es ty:Nat) (f:α→List AV):AV→List α→List Av→Prop
 |nil:ExA es ty f .sl0 [] []
 |row (p:Pos) (l:List α):ExA es ty f (.sl p 0 l.length (.u es)) l [(p,.row (l.flatMap f) ty)]
theorem ExA.inv {α:Type} {es ty:Nat} {f:α→List AV} {lv:AV} {l:List α} {X:List Av} (h:ExA es ty f lv l X):lv=.sl0∧l=[]∧X=[]∨∃p,lv=.sl p 0 l.length (.u es)∧X=[(p,.row (l.flatMap f) ty)]:=by
 cases h with
 |nil=>exact .inl ⟨rfl,rfl,rfl⟩
 |row p=>exact .inr ⟨p,rfl,rfl⟩
theorem Aag {α:Type} {ty b:Nat} {f:α→List AV} {te:GV.TI} (hf:∀a,(f a).length=te.sz) {lv:AV} {l:List α} {X A F:List Av} (L:List Av) {h:H} {nx:Pos} {vs:List AV} {k:K} (a:α) (S:Sat h nx ((L++(X++A))++F)) (G:ExA te.sz ty f lv l X) (hv:vs=f a) (ho:Gt vs=true)
 (hn:(l.length+1) * (b+1)≤1000000000) (hk:∀h' p,Sat h' (Ad nx) ((L++((p,.row ((l++[a]).flatMap f) ty)::A))++F)→k (.sl p 0 (l.length+1) (.u te.sz)) h' (Ad nx)=true):Ve ty te b 1 vs lv h nx k=true:=by
 subst hv
 have e1:(l++[a]).flatMap f=l.flatMap f++f a:=by rw[Fx];simp
 rw[e1]at hk
 rw[A4,A4]at S
 rcases G.inv with⟨rfl,rfl,rfl⟩|⟨p,rfl,rfl⟩
 · refine G7 S (by omega) (by rw[hf];omega) fun h' S=>hk h' nx ?_
   rw[A4]
   exact S.perm (Fh (l₁:=L) (l₂:=A++F)).symm
 · have S:=S.perm (Fh (a:=(p,OB.row (l.flatMap f) ty)) (l₁:=L) (l₂:=A++F))
   refine G6 S 0 rfl (by rw[Az hf];exact Ag _) ho hn (by rw[hf];omega) fun h' S=>hk h' nx ?_
   rw[Et (by rw[Az hf];exact Ag _)]at S
   rw[A4]
   exact S.perm (Fh (l₁:=L) (l₂:=A++F)).symm
theorem ExA.sim {α:Type} {es ty:Nat} {f:α→List AV} {lv:AV} {l:List α} {X:List Av} (h:ExA es ty f lv l X):Yz lv=true:=by cases h<;>rfl
structure RW where
 d:Bool
 n:List Nat
 t:AV
def Sa (r:RW):List AV:=[.b r.d,.s r.n,r.t]
theorem J8 (r:RW):(Sa r).length=3:=rfl
theorem last_get {α:Type} {f:α→List AV} {es:Nat} (hf:∀a,(f a).length=es) (l:List α) (r:α) (j:Nat) (hj:j<es):((l++[r]).flatMap f).getD (l.length*es+j) .x=(f r).getD j .x:=by
 have:=J6 hf (l++[r]) l.length j (by simp) hj
 rw[this,List.getElem_append_right (Ag _)]
 simp
theorem last_set {α:Type} {f:α→List AV} {es:Nat} (hf:∀a,(f a).length=es) (l:List α) (r r':α) (j:Nat) (v:AV) (hj:D7 (f r) j [v]=f r') (hj2:j<es):D7 ((l++[r]).flatMap f) (l.length*es+j) [v]=(l++[r']).flatMap f:=by
 have e:∀x:α,(l++[x]).flatMap f=l.flatMap f++f x:=fun x=>by rw[Fx];simp
 rw[e,e,←hj]
 have hl:=Az hf l
 unfold D7
 rw[←hl,List.take_length_add_append,Er,List.drop_length_add_append,A4,A4,A4]
theorem pieces0_ok {n:Nat} (hn:2≤n) {av:AV} {kp:KP} {h:H} {nx:Pos} {A:List Av} (S:Sat h nx A) {k:K} (hk:∀h',Sat h' (Ad nx) ((nx,.row [av] 30)::A)→k (.fn 54 [.p nx 0]) h' (Ad nx)=true) (ha:av=.sl0∨∃p o n c,av=.sl p o n c):Ai gg n kp (.fn 22 []) [av] h nx k=true:=by
 refine Ab hn (by omega) fun m hm=>?_
 rcases ha with rfl|⟨p,o,n,c,rfl⟩
 all_goals
  repeat' ((conv=>lhs;whnf);first
   |exact hk _ ‹_›
   |contradiction
   |refine Be fun h' S=>?_
   |refine C8 fun h' S=>?_
   |refine Bj ?_
   |refine C9 ?_
   |refine Bi ?_
   |refine seqt ?_
   |refine Bg ?_
   |refine Bc ?_
   |refine Aq ?_
   |refine Ar ?_
   |refine Bh ?_)
theorem Xp {α:Type} {f:α→List AV} (hf:∀a,Gt (f a)=true):∀l:List α,Gt (l.flatMap f)=true:=by
 have happ:∀a b:List AV,Gt a=true→Gt b=true→Gt (a++b)=true:=by
  intro a b ha hb
  induction a with
  |nil=>exact hb
  |cons x r ih=>
   have ha:fB (oneA x) (Gt r) false=true:=ha
   show fB (oneA x) (Gt (r++b)) false=true
   cases hx:oneA x with
   |true=>rw[hx]at ha;exact ih ha
   |false=>rw[hx]at ha;cases ha
 intro l
 induction l with
 |nil=>rfl
 |cons a r ih=>exact happ _ _ (hf a) ih
theorem Sat.mv3 {h:H} {nx:Pos} {x a b c:Av} {r:List Av} (S:Sat h nx (x::a::b::c::r)):Sat h nx (a::b::c::x::r):=S.perm (Fh (l₁:=[a,b,c])).symm
theorem rows_eq {n:Nat} (hn:1000060≤n) {av:AV} {l:List T5} {X A:List Av} (G:GrA 5 29 av (l.flatMap Jh) X) (hX:∀e∈X,e∈A) (hle:l.length≤100000) {kp:KP} {h:H} {nx:Pos} (S:Sat h nx A) {k:K}
 (hk:∀(rws:List RW) rv XR h' nx',ExA 3 39 Sa rv rws XR→Sat h' nx' (XR++A)→k rv h' nx'=true):Ai gg n kp (.fn 7 []) [av] h nx k=true:=by
 refine Ab hn (by omega) fun m hm=>?_
 obtain⟨pq,hpq,hit⟩:=pieces_it G hle (Ad (Ad nx))
 repeat' ((conv=>lhs;whnf);first
  |refine pieces0_ok (by omega) ‹_› (fun h' S=>?_) (sla_ones G)
  |contradiction
  |refine Be fun h' S=>?_
  |refine C8 fun h' S=>?_
  |refine Bj ?_
  |refine C9 ?_
  |refine Bi ?_
  |refine seqt ?_
  |refine Bg ?_
  |refine Bc ?_
  |refine Aq ?_
  |refine Ar ?_
  |refine Bh ?_)
 conv=>lhs;whnf
 refine Ea 1000040 hit (fun _=>rfl) (fun _=>rfl) ‹_› (by omega) (by omega)
  (fun a A'=>(∃(rws:List RW) (rv:AV) (XR:List Av),ExA 3 39 Sa rv rws XR∧rws.length≤a∧a≤l.length∧A'=(Ad (Ad nx),.row [av] 30)::(Ad nx,.row [.b false] 4)::(nx,.row [rv] 36)::(XR++A)) ∨
    (∃(ini:List RW) (d:Bool) (x:List Nat) (p2:Pos) (n2:Nat) (LL2:List AV) (pr:Pos),ini.length+1≤a∧n2≤a∧a≤l.length∧n2*5≤LL2.length ∧
      A'=(Ad (Ad nx),.row [av] 30)::(Ad nx,.row [.b true] 4)::(nx,.row [.sl pr 0 (ini.length+1) (.u 3)] 36)::(p2,.row LL2 29)::(pr,.row ((ini++[(⟨d,x,.sl p2 0 n2 (.u 5)⟩:RW)]).flatMap Sa) 39)::A))
  (fun e A'=>False) (fun A'=>⟨fun c=>c,fun _ c=>c⟩) ?_ (.inl ⟨[],.sl0,[],.nil,Ag _,B9 _,rfl⟩) ?_ ?_ (fun e A' h nx' c=>c.elim)
 · rintro a A' (⟨rws,rv,XR,_,_,_,rfl⟩|⟨ini,d,x,p2,n2,LL2,pr,_,_,_,_,rfl⟩) e he
   all_goals
    rcases Bo.1 he with rfl|he
    · simp
    · have:=hX e he;simp[this]
 · rintro a _ b A' F1 F2 m lp mid K2 h nx' ⟨hab,hb,rfl⟩ hm2 hJ S hmid hn1 hx1
   obtain⟨LL,rfl,g1,g2⟩:∃LL,X=[(pq,.row LL 29)]∧(LL.drop 0).take (l.length*5)=l.flatMap Jh∧0+l.length*5≤LL.length:=hpq.resolve_left (by rintro rfl;exact absurd hb (by show ¬b≤0;omega))
   have hpA:(pq,OB.row LL 29)∈A:=hX _ (Co.2 rfl)
   have hsl:(LL.drop (0+a*5)).take (((l.drop a).take (b-a)).length*5)=((l.drop a).take (b-a)).flatMap Jh:=by
    rw[Ci,Ax,Nat.min_eq_left (by omega)]
    exact lst_sub C7 l LL 0 g1 a (b-a) (by omega)
   have hll:((l.drop a).take (b-a)).length=b-a:=by rw[Ci,Ax];omega
   have hlast:∀ {B:List Av},(pq,OB.row LL 29)∈B→Kz 5 29 Jh ((l.drop a).take (b-a)) (.sl pq (0+a*5) (b-a) (.u 5)) B:=fun hB=>.inr ⟨pq,0+a*5,.u 5,LL,by rw[hll],hB,hsl,by rw[hll];omega⟩
   have hcl:0+a*5+(b-a) * 5≤LL.length:=by omega
   have hdir:∀ {n:Nat} {B:List Av} {kp:KP} {h:H} {nx:Pos} {k:K},Sat h nx B→(pq,OB.row LL 29)∈B→1000020≤n→(∀(x:List Nat) (b:Bool) h' nx',Sat h' nx' B→k (.tu [.s x,.b b]) h' nx'=true)→Ai gg n kp (.fn 23 []) [.sl pq (0+a*5) (b-a) (.u 5)] h nx k=true:=fun S hB hn hk=>Aap hn (hlast hB) (by rw[hll];omega) S hk
   have hclo:∀ {n:Nat} {B:List Av} {kp:KP} {h:H} {nx:Pos} {k:K},Sat h nx B→(pq,OB.row LL 29)∈B→3≤n→(∀q LL' h' nx',LL'.length=(b-a) * 5→Sat h' nx' ((q,.row LL' 29)::B)→k (.sl q 0 (b-a) (.u 5)) h' nx'=true)→Ai gg n kp (.fn 24 []) [.sl pq (0+a*5) (b-a) (.u 5)] h nx k=true:=fun S hB hn hk=>clone_eq hn hB ⟨by omega,by omega⟩ hcl S hk
   rcases hJ with⟨rws,rv,XR,GR,hr1,hr2,rfl⟩|⟨ini,d,x,p2,n2,LL2,pr,hr1,hr2,hr3,hr4,rfl⟩
   · have hsim:=GR.sim
     repeat' ((conv=>lhs;whnf);first
      |refine hmid (_::_::_::(XR++A)) _ _ _ ‹_› (fun h' S=>?_)
      |(refine hdir ‹_› (by simp[hpA]) (by omega) (fun dn dd h' nx' S=>?_);cases dd)
      |refine hclo ‹_› (by simp[hpA]) (by omega) (fun q LQ h' nx' hq S=>?_)
      |refine zk1 ?_
      |refine A6 ‹_› (.row _ 39) (hol_3 _ _ _ 39) (fun h' S=>?_)
      |refine Aag (te:=ti38) J8 [_,_,_,_,_] ⟨_,_,_⟩ ‹_› GR rfl rfl (by omega) (fun h' pr S=>?_)
      |contradiction
      |refine Be fun h' S=>?_
      |refine C8 fun h' S=>?_
      |refine Bj ?_
      |refine C9 ?_
      |refine Bi ?_
      |refine seqt ?_
      |refine Bg ?_
      |refine Bc ?_
      |refine Aq ?_
      |refine Ar ?_
      |refine Bh ?_
      |(first|refine C4 ?_ ?_|refine Dt ?_ ?_|refine Cu ?_ ?_|refine new ?_ ?_)<;>intro hc hz<;>(try simp only[Aj]at hz)<;>try rewrite [hc])
     · conv=>lhs;whnf
       refine hn1 _ _ _ (.inr ⟨rws,false,dn,q,b-a,LQ,pr,by omega,by omega,hb,by omega,rfl⟩) ?_
       exact(Sat.right (C:=[_]) ‹_›).mv3
     · conv=>lhs;whnf
       have e:rws.length+1=(rws++[(⟨true,dn,.sl q 0 (b-a) (.u 5)⟩:RW)]).length:=by rw[Bb];rfl
       refine hn1 _ _ _ (.inl ⟨rws++[(⟨true,dn,.sl q 0 (b-a) (.u 5)⟩:RW)],_,_,.row pr _,by rw[←e];omega,hb,rfl⟩) ?_
       rw[←e]
       exact Sat.right (C:=[_,_]) ‹_›
   · have hgl:∀ {B:List Av} {h:H} {nx:Pos} {k:AV→Bool},Sat h nx B→(pr,OB.row ((ini++[(⟨d,x,.sl p2 0 n2 (.u 5)⟩:RW)]).flatMap Sa) 39)∈B→k (.sl p2 0 n2 (.u 5))=true→rd1 h pr (0+(Int.ofNat (ini.length+1)-1).toNat*3+2) k=true:=fun {B h nx k} S hB hk=>by
      have e:0+(Int.ofNat (ini.length+1)-1).toNat*3+2=ini.length*3+2:=by simp only[Aj];omega
      rw[e]
      refine A5 S hB (by rw[Az J8,Bb];show _<(ini.length+1) * 3;omega) ?_
      rw[last_get J8 _ _ _ (by decide)];exact hk
     have hone:Gt (List.take ((b-a) * 5) (List.drop (0+a*5) LL))=true:=by
      rw[hll]at hsl
      rw[hsl];exact Xp (fun _=>rfl) _
     have hst:∀ {B:List Av} {h:H} {nx:Pos} {v:AV} {k:H→Bool},Sat h nx B→oneA v=true→B[4]?=some (pr,OB.row ((ini++[(⟨d,x,.sl p2 0 n2 (.u 5)⟩:RW)]).flatMap Sa) 39)→(∀h',Sat h' nx (B.set 4 (pr,.row ((ini++[(⟨d,x,v⟩:RW)]).flatMap Sa) 39))→k h'=true)→wr h pr (0+(Int.ofNat (ini.length+1)-1).toNat*3+2) [v] k=true:=fun {B h nx v k} S hv hB hk=>by
      have e:0+(Int.ofNat (ini.length+1)-1).toNat*3+2=ini.length*3+2:=by simp only[Aj];omega
      rw[e]
      refine Au S 4 hB (by rw[Az J8,Bb];show _+1≤(ini.length+1) * 3;omega) (by show fB (oneA v) true false=true;rw[hv];rfl) fun h' S=>hk h' ?_
      rw[last_set J8 ini (⟨d,x,.sl p2 0 n2 (.u 5)⟩:RW) (⟨d,x,v⟩:RW) 2 v rfl (by decide)]at S
      exact S
     have hG2:ExA 3 39 Sa (.sl pr 0 (ini.length+1) (.u 3)) (ini++[(⟨d,x,.sl p2 0 n2 (.u 5)⟩:RW)]) [(pr,.row ((ini++[(⟨d,x,.sl p2 0 n2 (.u 5)⟩:RW)]).flatMap Sa) 39)]:=by
      have:=ExA.row (es:=3) (ty:=39) (f:=Sa) pr (ini++[(⟨d,x,.sl p2 0 n2 (.u 5)⟩:RW)])
      rw[Bb]at this
      exact this
     repeat' ((conv=>lhs;whnf);first
      |refine hmid (_::_::_::_::_::A) _ _ _ ‹_› (fun h' S=>?_)
      |(refine hdir ‹_› (by simp[hpA]) (by omega) (fun dn dd h' nx' S=>?_);cases dd)
      |refine hclo ‹_› (by simp[hpA]) (by omega) (fun q LQ h' nx' hq S=>?_)
      |refine hgl ‹_› (by simp) ?_
      |refine beq_f0 (show 0<b-a by omega) ?_
      |refine zk1 ?_
      |refine A6 ‹_› (.row _ 39) (hol_3 _ _ _ 39) (fun h' S=>?_)
      |refine sat_rdl (L:=LL) (ty:=29) ‹_› (mem_g (by simp[hpA])) hcl ?_
      |refine Aag (te:=ti38) J8 [_,_,_,_,_,_] ⟨_,_,_⟩ ‹_› hG2 rfl rfl (by rw[Bb];show(ini.length+1+1) * _≤_;omega) (fun h' pr S=>?_)
      |refine hst ‹_› rfl rfl (fun h' S=>?_)
      |refine G6 ‹_› 3 rfl hr4 hone (show(n2+(b-a)) * 49≤1000000000 by omega) (by rw[Ci,Ax];show min ((b-a) * 5) _=(b-a) * 5;omega) (fun h' S=>?_)
      |contradiction
      |refine Be fun h' S=>?_
      |refine C8 fun h' S=>?_
      |refine Bj ?_
      |refine C9 ?_
      |refine Bi ?_
      |refine seqt ?_
      |refine Bg ?_
      |refine Bc ?_
      |refine Aq ?_
      |refine Ar ?_
      |refine Bh ?_
      |(first|refine C4 ?_ ?_|refine Dt ?_ ?_|refine Cu ?_ ?_|refine new ?_ ?_)<;>intro hc hz<;>(try simp only[Aj]at hz)<;>try rewrite [hc])
     · conv=>lhs;whnf
       refine hn1 _ _ _ (.inr ⟨ini,d,x,_,n2+(b-a),_,pr,by omega,by omega,hb,?_,rfl⟩) (Sat.mv3 ‹_›)
       rw[Bb,Ci,Ci,Ax];show _≤min (n2*5) _+min ((b-a) * 5) _;omega
     · conv=>lhs;whnf
       have e:(ini++[(⟨d,x,.sl p2 0 n2 (.u 5)⟩:RW)]).length+1=(ini++[(⟨d,x,.sl p2 0 n2 (.u 5)⟩:RW)]++[(⟨true,dn,.sl q 0 (b-a) (.u 5)⟩:RW)]).length:=by simp
       refine hn1 _ _ _ (.inl ⟨ini++[(⟨d,x,.sl p2 0 n2 (.u 5)⟩:RW)]++[(⟨true,dn,.sl q 0 (b-a) (.u 5)⟩:RW)],_,_,.row pr _,by rw[←e,Bb];show ini.length+1+1≤_;omega,hb,rfl⟩) ?_
       rw[←e]
       have S9:=Sat.right (C:=[_,_]) ‹_›
       exact S9.sub (.cons_cons _ (.cons_cons _ (.cons_cons _ (.cons _ (E7 _)))))
 · rintro a A' h nx'-hJ S
   rcases hJ with⟨rws,rv,XR,GR,hr1,hr2,rfl⟩|⟨ini,d,x,p2,n2,LL2,pr,hr1,hr2,hr3,hr4,rfl⟩
   · repeat' ((conv=>lhs;whnf);first
      |refine A1 ‹_› 0 rfl ?_
      |refine Bm ‹_› 0 rfl (fun h' S=>?_)
      |exact hk rws rv XR _ _ GR (Sat.right (C:=[_,_,_]) ‹_›)
      |contradiction
      |refine Be fun h' S=>?_
      |refine C8 fun h' S=>?_
      |refine Bj ?_
      |refine C9 ?_
      |refine Bi ?_
      |refine seqt ?_
      |refine Bg ?_
      |refine Bc ?_
      |refine Aq ?_
      |refine Ar ?_
      |refine Bh ?_)
   · repeat' ((conv=>lhs;whnf);first
      |refine A1 ‹_› 0 rfl ?_
      |refine Bm ‹_› 0 rfl (fun h' S=>?_)
      |contradiction
      |refine Be fun h' S=>?_
      |refine C8 fun h' S=>?_
      |refine Bj ?_
      |refine C9 ?_
      |refine Bi ?_
      |refine seqt ?_
      |refine Bg ?_
      |refine Bc ?_
      |refine Aq ?_
      |refine Ar ?_
      |refine Bh ?_)
     conv=>lhs;whnf
     have hG2:=ExA.row (es:=3) (ty:=39) (f:=Sa) pr (ini++[(⟨d,x,.sl p2 0 n2 (.u 5)⟩:RW)])
     refine hk _ _ [_] _ _ (by rw[Bb]at hG2;exact hG2) (Sat.right (C:=[_,_,_,_]) ‹_›)
end Go.CE
namespace Go.CE
open Go Go.Ps Go.Proofs.YtacpdfjcepkgcaaGreatDoor
attribute [local irreducible] loopK Tt Ai K0 N2 Dg fits rd rd1 wr newC Kj Fk Fa Ve Oe Kq
structure SD where
 n:List Nat
 p:Pos
 t:Bool
def fdS (D:List SD) (x:List Nat):Option SD:=D.find? fun d=>decide (d.n=x)
def V9 (D:List SD) (x:List Nat):Option AV:=(fdS D x).map fun d=>.sl d.p 0 1 (.u 2)
def tauS (D:List SD) (x:List Nat):Bool:=match fdS D x with
 |some d=>d.t
 |none=>false
def Lj (d:SD):Av:=(d.p,.row [.i .i64 1,.b d.t] 275)
def R9 (x:List Nat):List AV:=[.s x]
theorem K9 (x:List Nat):(R9 x).length=1:=rfl
def Tf (sc:Pos) (tau:List Nat→Bool) (c:Nat) (X:List Av):Prop:=∃mp bq D blv BL XB,X=(sc,.row [.p sc 0,.m mp,.sl bq 0 1 (.k 1)] 107)::(mp,.map (V9 D))::(bq,.row [blv] 45)::(XB++D.map Lj) ∧
 ExA 1 9 R9 blv BL XB∧(D.map (·.n)).Nodup∧tau=tauS D∧BL.length≤c
theorem peqt {a:Pos} {x y:Bool} (hx:x=true):fB (Kq a a) x y=true:=by rw[(Jv a a).2 rfl];exact hx
theorem Sy {n:Nat} (hn:2≤n) {sc:Pos} {v w:AV} {kp:KP} {h:H} {nx:Pos} {A:List Av} (S:Sat h nx A) (hs:(sc,OB.row [.p sc 0,v,w] 107)∈A) {k:K} (hk:k (.b true) h nx=true):Ai gg n kp (.fn 107 []) [.p sc 0] h nx k=true:=by
 refine Ab hn (by omega) fun m hm=>?_
 repeat' ((conv=>lhs;whnf);first
  |exact hk
  |refine A5 ‹_› hs (Aa rfl) ?_
  |refine peqt ?_
  |contradiction
  |refine Be fun h' S=>?_
  |refine C8 fun h' S=>?_
  |refine Bj ?_
  |refine C9 ?_
  |refine Bi ?_
  |refine seqt ?_
  |refine Bg ?_
  |refine Bc ?_
  |refine Aq ?_
  |refine Ar ?_
  |refine Bh ?_)
theorem Yj {n:Nat} (hn:3≤n) {sc:Pos} {v:AV} {bq:Pos} {c:Cap} {kp:KP} {h:H} {nx:Pos} {A:List Av} (S:Sat h nx A) (hs:(sc,OB.row [.p sc 0,v,.sl bq 0 1 c] 107)∈A) {k:K} (hk:k (.i .i64 1) h nx=true):Ai gg n kp (.fn 57 []) [.p sc 0] h nx k=true:=by
 refine Ab hn (by omega) fun m hm=>?_
 repeat' ((conv=>lhs;whnf);first
  |exact hk
  |refine A5 ‹_› hs (Aa rfl) ?_
  |refine Sy (by omega) ‹_› hs ?_
  |contradiction
  |refine Be fun h' S=>?_
  |refine C8 fun h' S=>?_
  |refine Bj ?_
  |refine C9 ?_
  |refine Bi ?_
  |refine seqt ?_
  |refine Bg ?_
  |refine Bc ?_
  |refine Aq ?_
  |refine Ar ?_
  |refine Bh ?_)
theorem sat_lookm {h:H} {nx:Pos} {A:List Av} (S:Sat h nx A) {p:Pos} {f:List Nat→Option AV} {kl:List Nat} {hit:Nat→AV→Bool} {miss:Bool} (hi:(p,OB.map f)∈A) (h1:∀v j,f kl=some v→hit j v=true) (h2:f kl=none→miss=true) :
 Fk h p (fun o=>match o with
  |.map es _=>Gx kl es 0 hit miss
  |_=>false)=true:=by
 obtain⟨i,hi⟩:=Ih.1 hi
 exact Mg S i hi h1 h2
theorem mpS_some {D:List SD} {x:List Nat} {v:AV} (h:V9 D x=some v):∃d,fdS D x=some d∧v=.sl d.p 0 1 (.u 2):=by
 unfold V9 at h
 cases e:fdS D x with
 |none=>rw[e]at h;cases h
 |some d=>rw[e]at h;cases h;exact⟨d,rfl,rfl⟩
theorem mpS_none {D:List SD} {x:List Nat} (h:V9 D x=none):fdS D x=none:=by
 unfold V9 at h
 cases e:fdS D x with
 |none=>rfl
 |some d=>rw[e]at h;cases h
theorem Xx {n:Nat} (hn:4≤n) {sc:Pos} {tau:List Nat→Bool} {c:Nat} {X:List Av} (hX:Tf sc tau c X) {x:List Nat} {kp:KP} {h:H} {nx:Pos} {A:List Av} (S:Sat h nx A) (hA:∀e∈X,e∈A) {k:K} (hk:k (.b (tau x)) h nx=true):Ai gg n kp (.fn 135 []) [.p sc 0,.s x] h nx k=true:=by
 obtain⟨mp,bq,D,blv,BL,XB,rfl,hB,hD,rfl,hc⟩:=hX
 have hs:=hA _ (Aw ..)
 have hmp:=hA _ (Am _ (Aw ..))
 have hd:∀d,fdS D x=some d→(d.p,OB.row [.i .i64 1,.b d.t] 275)∈A:=fun d hd=>hA _ (by
  simp only[Bo,D9,Dz]
  exact .inr (.inr (.inr (.inr ⟨d,List.mem_of_find?_eq_some hd,rfl⟩))))
 have hk1:∀d,fdS D x=some d→k (.b d.t) h nx=true:=fun d hd=>by unfold tauS at hk;rw[hd]at hk;exact hk
 have hk2:fdS D x=none→k (.b false) h nx=true:=fun hd=>by unfold tauS at hk;rw[hd]at hk;exact hk
 refine Ab hn (by omega) fun m hm=>?_
 repeat' ((conv=>lhs;whnf);first
  |exact absurd hz (by decide)
  |exact hk2 (mpS_none ‹_›)
  |exact hk1 _ ‹_›
  |refine A5 ‹_› hs (Aa rfl) ?_
  |refine A5 ‹_› (hd _ ‹_›) (Aa rfl) ?_
  |refine Sy (by omega) ‹_› hs ?_
  |(refine sat_lookm ‹_› hmp (fun v j hv=>?_) (fun hv=>?_)<;>try obtain⟨d,hd1,rfl⟩:=mpS_some hv)
  |contradiction
  |refine Be fun h' S=>?_
  |refine C8 fun h' S=>?_
  |refine Bj ?_
  |refine C9 ?_
  |refine Bi ?_
  |refine seqt ?_
  |refine Bg ?_
  |refine Bc ?_
  |refine Aq ?_
  |refine Ar ?_
  |refine Bh ?_
  |(first|refine C4 ?_ ?_|refine Dt ?_ ?_|refine Cu ?_ ?_|refine new ?_ ?_)<;>intro hc hz<;>(try simp only[Aj]at hz)<;>try rewrite [hc])
theorem some_no {f:Option AV} {v:AV} {p:Prop} (h1:f=some v) (h2:f=none):p:=by rw[h1]at h2;cases h2
theorem fdS_app (D:List SD) (e:SD) (x:List Nat):fdS (D++[e]) x=match fdS D x with
 |some d=>some d
 |none=>if e.n=x then some e else none:=by
 unfold fdS
 rw[List.find?_append]
 cases List.find? (fun d=>decide (d.n=x)) D with
 |some d=>rfl
 |none=>
  rw[Option.none_or,List.find?_cons]
  by_cases h:e.n=x
  · rw[if_pos h];simp[h]
  · rw[if_neg h];simp[h]
theorem fdS_mid (D1 D2:List SD) (d:SD) (t:Bool) (hn:((D1++d::D2).map (·.n)).Nodup) (x:List Nat):fdS (D1++⟨d.n,d.p,t⟩::D2) x=if x=d.n then some ⟨d.n,d.p,t⟩else fdS (D1++d::D2) x:=by
 unfold fdS
 rw[List.find?_append,List.find?_append,List.find?_cons,List.find?_cons]
 rw[Eo,List.nodup_append]at hn
 by_cases h:x=d.n
 · rw[if_pos h]
   have:List.find? (fun e=>decide (e.n=x)) D1=none:=by
    rw[List.find?_eq_none]
    intro e he
    have:=hn.2.2 e.n (List.mem_map_of_mem he) d.n (Aw ..)
    simp only[decide_eq_true_eq]
    rw[h];exact this
   rw[this]
   simp[h]
 · rw[if_neg h]
   have:decide (d.n=x)=false:=decide_eq_false fun c=>h c.symm
   simp only[this]
theorem Jd {α:Type} {ty b:Nat} {f:α→List AV} {te:GV.TI} (hf:∀a,(f a).length=te.sz) {lv:AV} {l:List α} {X A:List Av} (L:List Av) {h:H} {nx:Pos} {vs:List AV} {k:K} (a:α) (S:Sat h nx (L++(X++A))) (G:ExA te.sz ty f lv l X) (hv:vs=f a) (ho:Gt vs=true)
 (hn:(l.length+1) * (b+1)≤1000000000) (hk:∀h' p,Sat h' (Ad nx) (L++((p,.row ((l++[a]).flatMap f) ty)::A))→k (.sl p 0 (l.length+1) (.u te.sz)) h' (Ad nx)=true):Ve ty te b 1 vs lv h nx k=true:=
 Aag (F:=[]) hf L a (by rw[Bp];exact S) G hv ho hn fun h' p S=>hk h' p (by rw[Bp]at S;exact S)
theorem declare_eq {n:Nat} (hn:4≤n) {sc:Pos} {tau:List Nat→Bool} {c:Nat} {X:List Av} (hX:Tf sc tau c X) (hc:c≤1000000) {x:List Nat} (hx:x≠[]) {ty:Bool} {kp:KP} {h:H} {nx:Pos} {A:List Av} (S:Sat h nx (X++A)) {k:K}
 (hk:∀X' h' nx',Tf sc (fun y=>if y=x then ty else tau y) (c+1) X'→Sat h' nx' (X'++A)→k (.i .i64 0) h' nx'=true):Ai gg n kp (.fn 159 []) [.p sc 0,.s x,.b ty] h nx k=true:=by
 obtain⟨mp,bq,D,blv,BL,XB,rfl,hB,hD,rfl,hcc⟩:=hX
 have hBs:=hB.sim
 have hS:(sc,OB.row [.p sc 0,.m mp,.sl bq 0 1 (.k 1)] 107)::(mp,.map (V9 D))::(bq,.row [blv] 45)::(XB++D.map Lj)++A=(sc,OB.row [.p sc 0,.m mp,.sl bq 0 1 (.k 1)] 107)::(mp,.map (V9 D))::(bq,.row [blv] 45)::(XB++(D.map Lj++A)):=by
  rw[Hj,Hj,Hj,A4]
 rw[hS]at S
 refine Ab hn (by omega) fun m hm=>?_
 cases hfd:fdS D x with
 |some d=>
  have hv:V9 D x=some (.sl d.p 0 1 (.u 2)):=by unfold V9;rw[hfd];rfl
  have hdx:d.n=x:=by simpa using List.find?_some hfd
  obtain⟨D1,D2,rfl⟩:=List.append_of_mem (List.mem_of_find?_eq_some hfd)
  have hdm:(d.p,OB.row [.i .i64 1,.b d.t] 275)∈(D1++d::D2).map Lj:=Dz.2 ⟨d,by simp,rfl⟩
  have hwr:∀ {h:H} {nx:Pos} {k:H→Bool},Sat h nx ((sc,OB.row [.p sc 0,.m mp,.sl bq 0 1 (.k 1)] 107)::(mp,.map (V9 (D1++d::D2)))::(bq,.row [blv] 45)::(XB++((D1++d::D2).map Lj++A)))→(∀X' h',Tf sc (fun y=>if y=x then ty else tauS (D1++d::D2) y) (c+1) X'→Sat h' nx (X'++A)→k h'=true)→wr h d.p 1 [.b ty] k=true:=fun {h nx k} S hk=>by
   have e1:∀(d':SD) (r:List Av),XB++((D1++d'::D2).map Lj++A)=(XB++D1.map Lj)++Lj d'::(D2.map Lj++A):=fun d' r=>by simp[A4]
   rw[e1 d []]at S
   have S:=S.perm (Fh (l₁:=_::_::_::(XB++D1.map Lj)))
   refine Au S 0 rfl (Aa rfl) rfl fun h' S=>?_
   have S:=S.perm (Fh (l₁:=_::_::_::(XB++D1.map Lj)) (a:=Lj ⟨d.n,d.p,ty⟩)).symm
   refine hk ((sc,OB.row [.p sc 0,.m mp,.sl bq 0 1 (.k 1)] 107)::(mp,.map (V9 (D1++d::D2)))::(bq,.row [blv] 45)::(XB++(D1++⟨d.n,d.p,ty⟩::D2).map Lj)) h' ⟨mp,bq,D1++⟨d.n,d.p,ty⟩::D2,blv,BL,XB,?_,hB,by simpa using hD,?_,by omega⟩ ?_
   · have:V9 (D1++⟨d.n,d.p,ty⟩::D2)=V9 (D1++d::D2):=by
      funext y
      unfold V9
      rw[fdS_mid D1 D2 d ty hD y]
      split
      · rename_i hy;rw[hy,hdx,hfd];rfl
      · rfl
     rw[this]
   · funext y
     unfold tauS
     rw[fdS_mid D1 D2 d ty hD y,hdx]
     split
     · rfl
     · rfl
   · rw[Hj,Hj,Hj,A4,e1 _ []]
     exact S
  repeat' ((conv=>lhs;whnf);first
   |exact absurd hz (by decide)
   |exact absurd hz hx
   |exact some_no hv hvv
   |refine hwr ‹_› (fun X' h' hX' S=>?_)
   |exact hk _ _ _ ‹_› ‹_›
   |refine Sy (by omega) ‹_› (Aw ..) ?_
   |(refine Mg ‹_› 1 rfl (fun v j hvv=>?_) (fun hvv=>?_)<;>first|(obtain rfl:=Ce (hv.symm.trans hvv))|skip)
   |(refine Gq (fun hc hz=>?_) (fun hc hz=>?_)<;>try rewrite [hc])
   |contradiction
   |refine Be fun h' S=>?_
   |refine C8 fun h' S=>?_
   |refine Bj ?_
   |refine C9 ?_
   |refine Bi ?_
   |refine seqt ?_
   |refine Bg ?_
   |refine Bc ?_
   |refine Aq ?_
   |refine Ar ?_
   |refine Bh ?_
   |(refine A5 (L:=[.i .i64 1,.b d.t]) (ty:=275) ‹_› (by simp only[Bo,D9,hdm,or_true,true_or]) (Aa rfl) ?_)
   |(first|refine C4 ?_ ?_|refine Dt ?_ ?_|refine Cu ?_ ?_|refine new ?_ ?_)<;>intro hc hz<;>(try simp only[Aj]at hz)<;>try rewrite [hc])
 |none=>
  have hv:V9 D x=none:=by unfold V9;rw[hfd];rfl
  have hfin:∀ {p q:Pos} {h:H} {nx:Pos},Sat h nx ((p,OB.row [.i .i64 1,.b ty] 275)::(sc,OB.row [.p sc 0,.m mp,.sl bq 0 1 (.k 1)] 107)::(mp,.map fun y=>if y=x then some (.sl p 0 1 (.u 2))else V9 D y)::(bq,.row [.sl q 0 (BL.length+1) (.u 1)] 45)::(q,.row ((BL++[x]).flatMap R9) 9)::(D.map Lj++A))→k (.i .i64 0) h nx=true:=fun {p q h nx} S=>by
   have S:=S.perm (Fh (l₁:=_::_::_::_::D.map Lj) (l₂:=A)).symm
   have e2:V9 (D++[(⟨x,p,ty⟩:SD)])=fun y=>if y=x then some (.sl p 0 1 (.u 2))else V9 D y:=by
    funext y
    unfold V9
    rw[fdS_app]
    by_cases hy:y=x
    · rw[if_pos hy,hy,hfd];simp
    · rw[if_neg hy]
      cases fdS D y with
      |some d=>rfl
      |none=>simp only[if_neg (Ne.symm hy)]
   rw[←e2]at S
   refine hk ((sc,OB.row [.p sc 0,.m mp,.sl bq 0 1 (.k 1)] 107)::(mp,.map (V9 (D++[(⟨x,p,ty⟩:SD)])))::(bq,.row [.sl q 0 (BL.length+1) (.u 1)] 45)::([(q,.row ((BL++[x]).flatMap R9) 9)]++(D++[(⟨x,p,ty⟩:SD)]).map Lj)) _ _ ⟨mp,bq,D++[(⟨x,p,ty⟩:SD)],.sl q 0 (BL.length+1) (.u 1),BL++[x],_,rfl,?_,?_,?_,by rw[Bb];show BL.length+1≤_;omega⟩ ?_
   · have:=ExA.row (es:=1) (ty:=9) (f:=R9) q (BL++[x])
     rw[Bb]at this
     exact this
   · rw[Eo,List.nodup_append]
     refine⟨hD,by simp,fun a ha b hb=>?_⟩
     obtain⟨d,hd,rfl⟩:=Dz.1 ha
     rw[Co.1 hb]
     intro c
     have:=List.find?_eq_none.1 hfd d hd
     exact this (decide_eq_true c)
   · funext y
     unfold tauS
     rw[fdS_app]
     by_cases hy:y=x
     · rw[if_pos hy,hy,hfd];simp
     · rw[if_neg hy]
       cases fdS D y with
       |some d=>rfl
       |none=>simp only[if_neg (Ne.symm hy)]
   · have e3:∀(a b c d:Av),a::b::c::([d]++(D++[(⟨x,p,ty⟩:SD)]).map Lj)++A=a::b::c::d::(D.map Lj++Lj ⟨x,p,ty⟩::A):=fun a b c d=>by simp
     rw[e3]
     exact S
  repeat' ((conv=>lhs;whnf);first
   |exact absurd hz (by decide)
   |exact absurd hz hx
   |exact some_no hvv hv
   |refine Sy (by omega) ‹_› (Aw ..) ?_
   |refine Mg ‹_› 1 rfl (fun v j hvv=>?_) (fun hvv=>?_)
   |(refine Gq (fun hc hz=>?_) (fun hc hz=>?_)<;>try rewrite [hc])
   |refine zk1 ?_
   |refine A6 ‹_› (.row _ 275) (hol_2 _ _ 275) (fun h' S=>?_)
   |refine A6 ‹_› (.row _ 9) (Xy _ 9) (fun h' S=>?_)
   |refine G7 ‹_› (by omega) rfl (fun h' S=>?_)
   |refine Pr ‹_› 3 rfl (fun h' S=>?_)
   |refine Jd (te:=ti9) K9 [_,_,_,_,_,_] x ‹_› hB rfl rfl (by omega) (fun h' q S=>?_)
   |contradiction
   |refine Be fun h' S=>?_
   |refine C8 fun h' S=>?_
   |refine Bj ?_
   |refine C9 ?_
   |refine Bi ?_
   |refine seqt ?_
   |refine Bg ?_
   |refine Bc ?_
   |refine Aq ?_
   |refine Ar ?_
   |refine Bh ?_
   |(first|refine C4 ?_ ?_|refine Dt ?_ ?_|refine Cu ?_ ?_|refine new ?_ ?_)<;>intro hc hz<;>(try simp only[Aj]at hz)<;>try rewrite [hc])
  conv=>lhs;whnf
  have S9:=Sat.right (C:=[_]) ‹_›
  exact hfin (p:=Ad nx) (q:=q) (S9.sub (.cons_cons _ (.cons _ (E7 _))))
theorem new_eq {n:Nat} (hn:2≤n) {kp:KP} {h:H} {nx:Pos} {A:List Av} (S:Sat h nx A) {k:K} (hk:∀sc X h' nx',Tf sc (fun _=>false) 0 X→Sat h' nx' (X++A)→k (.p sc 0) h' nx'=true):Ai gg n kp (.fn 9 []) [] h nx k=true:=by
 refine Ab hn (by omega) fun m hm=>?_
 repeat' ((conv=>lhs;whnf);first
  |refine A6 ‹_› (.map fun _=>none) ⟨[],0,rfl,List.nodup_nil,fun _=>rfl⟩ (fun h' S=>?_)
  |refine zk1 ?_
  |refine A6 ‹_› (.row _ 45) (Xy _ 45) (fun h' S=>?_)
  |contradiction
  |refine Be fun h' S=>?_
  |refine C8 fun h' S=>?_
  |refine Bj ?_
  |refine C9 ?_
  |refine Bi ?_
  |refine seqt ?_
  |refine Bg ?_
  |refine Bc ?_
  |refine Aq ?_
  |refine Ar ?_
  |refine Bh ?_)
 conv=>lhs;whnf
 refine hk _ [_,_,_] _ _ ⟨nx,Ad nx,[],.sl0,[],[],rfl,.nil,List.nodup_nil,rfl,Ag _⟩ ?_
 have S9:Sat _ _ (_::_::_::A):=‹_›
 exact S9.perm (.cons _ (List.Perm.swap ..))
theorem Ry {n:Nat} (hn:2≤n) {sc:Pos} {kp:KP} {h:H} {nx:Pos} {A:List Av} (S:Sat h nx A) {k:K} (hk:∀mp h' nx',Sat h' nx' ((mp,.map fun _=>none)::A)→k (.ag [.p sc 0,.m mp,.sl0,.sl0]) h' nx'=true):Ai gg n kp (.fn 13 []) [.p sc 0] h nx k=true:=by
 refine Ab hn (by omega) fun m hm=>?_
 repeat' ((conv=>lhs;whnf);first
  |refine A6 ‹_› (.map fun _=>none) ⟨[],0,rfl,List.nodup_nil,fun _=>rfl⟩ (fun h' S=>?_)
  |exact hk _ _ _ (Sat.skip (X:=[_]) ‹_›)
  |contradiction
  |refine Be fun h' S=>?_
  |refine C8 fun h' S=>?_
  |refine Bj ?_
  |refine C9 ?_
  |refine Bi ?_
  |refine seqt ?_
  |refine Bg ?_
  |refine Bc ?_
  |refine Aq ?_
  |refine Ar ?_
  |refine Bh ?_)
attribute [local irreducible] eqA
theorem Z3 {t:Tk} (hc:t.c=7) (h:t.t=[40]∨t.t=[91]∨t.t=[123]):kd t=1:=by
 unfold kd;rw[if_pos hc];rcases h with h|h|h<;>rw[h]<;>rfl
theorem Ul {t:Tk} (hc:t.c=7) (h:t.t=[41]∨t.t=[93]∨t.t=[125]):kd t=2:=by
 unfold kd;rw[if_pos hc];rcases h with h|h|h<;>rw[h]<;>rfl
theorem kd_oth {t:Tk} (h:t.c≠7∨(t.t≠[40]∧t.t≠[91]∧t.t≠[123])∧t.t≠[41]∧t.t≠[93]∧t.t≠[125]):kd t≠1∧kd t≠2:=by
 unfold kd kdx
 rcases h with h|⟨⟨h1,h2,h3⟩,h4,h5,h6⟩
 · rw[if_neg h];decide
 · by_cases hc:t.c=7
   · rw[if_pos hc,if_neg (by rintro(h|h|h)<;>contradiction),if_neg (by rintro(h|h|h)<;>contradiction)]
     split<;>decide
   · rw[if_neg hc];decide
theorem tdB_open {t:Tk} {r:List Tk} {o:Nat} (h:kd t=1):Le o (t::r)=if o+1 > 256 then true else Le (o+1) r:=by
 show(if kd t=1 then _ else _)=_
 rw[if_pos h]
theorem Xf {t:Tk} {r:List Tk} {o:Nat} (h:kd t=2):Le o (t::r)=Le (o-1) r:=by
 show(if kd t=1 then _ else _)=_
 rw[h];rfl
theorem tdB_oth {t:Tk} {r:List Tk} {o:Nat} (h:kd t≠1∧kd t≠2):Le o (t::r)=Le o r:=by
 show(if kd t=1 then _ else _)=_
 rw[if_neg h.1,if_neg h.2]
theorem Og {n:Nat} (hn:1000020≤n) {av:AV} {l:List Tk} {A:List Av} (hl:Kz 2 54 Du l av A) (hle:l.length≤100000) {kp:KP} {h:H} {nx:Pos} (S:Sat h nx A) {k:K}
 (hk:∀h' nx',Sat h' nx' A→k (.b (Le 0 l)) h' nx'=true):Ai gg n kp (.fn 12 []) [av] h nx k=true:=by
 refine Ab hn (by omega) fun m hm=>?_
 rcases hl with⟨rfl,rfl⟩|⟨p,off,cap,LL,rfl,hp,h1,h2⟩
 · conv=>lhs;whnf
   refine Br (L:=[3,6,7,8]) rfl (fun m vs d' h' nx'=>Sat h' nx' A∧d'=[]∧vs=[.i .i64 0,.sl0,.i .i64 0,.i .i64 0]) 0 (by omega) ⟨S,rfl,rfl⟩ ?_
   rintro m _ d' h' nx' ⟨S,rfl,rfl⟩ k' hn' hx
   repeat' ((conv=>lhs;whnf);first
    |exact absurd hz (by decide)
    |(refine hx _ _ _ _ _ trivial ?_;conv=>lhs;whnf
      exact hk _ _ ‹_›)
    |(first|refine C4 ?_ ?_|refine Dt ?_ ?_|refine Cu ?_ ?_|refine new ?_ ?_)<;>intro hc hz<;>(try simp only[Aj]at hz)<;>try rewrite [hc])
 · generalize hR:Le 0 l=R at hk
   conv=>lhs;whnf
   refine Br (L:=[3,6,7,8]) rfl (fun m vs d' h' nx'=>∃(i:Nat) (o:Int),i+m=l.length∧0≤o∧o≤256∧Le o.toNat (l.drop i)=R∧Sat h' nx' A∧d'=[]∧vs=[.i .i64 o,.sl p off l.length cap,.i .i64 (.ofNat l.length),.i .i64 (.ofNat i)]) l.length (by omega) ⟨0,0,by omega,by omega,by omega,hR,S,rfl,rfl⟩ ?_
   rintro m _ d' h' nx' ⟨i,o,hi,ho1,ho2,hd,S,rfl,rfl⟩ k' hn' hx
   repeat' ((conv=>lhs;whnf);first
    |(refine Gl B6 ‹_› hp h1 h2 (by omega) i (Int.ofNat_lt.1 hz) rfl ?_
      have hil:=Int.ofNat_lt.1 hz
      rw[Ri hil]at hd
      obtain⟨t,ht⟩:∃t,l[i]'hil=t:=⟨_,rfl⟩
      rw[ht]at hd ⊢)
    |(refine hx _ _ _ _ _ trivial ?_;conv=>lhs;whnf
      have e:R=false:=by rw[List.drop_eq_nil_of_le (by(try simp only[Aj]at *);omega)]at hd;exact hd.symm
      subst e
      exact hk _ _ ‹_›)
    |(refine Gq (fun hc hz=>?_) (fun hc hz=>?_)<;>try rewrite [hc])
    |contradiction
    |refine Be fun h' S=>?_
    |refine C8 fun h' S=>?_
    |refine Bj ?_
    |refine C9 ?_
    |refine Bi ?_
    |refine seqt ?_
    |refine Bg ?_
    |refine Bc ?_
    |refine Aq ?_
    |refine Ar ?_
    |refine Bh ?_
    |(first|refine C4 ?_ ?_|refine Dt ?_ ?_|refine Cu ?_ ?_|refine new ?_ ?_)<;>intro hc hz<;>(try simp only[Aj]at hz)<;>try rewrite [hc]
    |(have e:=tdB_open (Z3 ‹_› (by first|exact .inl ‹_›|exact .inr (.inl ‹_›)|exact .inr (.inr ‹_›))) (r:=l.drop (i+1)) (o:=o.toNat)
      refine hx _ _ _ _ _ trivial ?_;conv=>lhs;whnf
      rw[e,if_pos (by(try simp only[Aj]at *);omega)]at hd
      subst hd
      exact hk _ _ (Sat.right (C:=[_]) ‹_›))
    |exact hn' _ _ _ _ (m-1) (by(try simp only[Aj]at *);omega) ⟨i+1,o+1,(by(try simp only[Aj]at *);omega),by omega,by omega,by rw[show(o+1).toNat=o.toNat+1 by omega];exact((tdB_open (Z3 ‹_› (by first|exact .inl ‹_›|exact .inr (.inl ‹_›)|exact .inr (.inr ‹_›)))).trans (if_neg (by(try simp only[Aj]at *);omega))).symm.trans hd,Sat.right (C:=[_]) ‹_›,rfl,rfl⟩
    |exact hn' _ _ _ _ (m-1) (by(try simp only[Aj]at *);omega) ⟨i+1,o-1,(by(try simp only[Aj]at *);omega),by omega,by omega,by rw[show(o-1).toNat=o.toNat-1 by omega];exact(Xf (Ul ‹_› (by first|exact .inl ‹_›|exact .inr (.inl ‹_›)|exact .inr (.inr ‹_›)))).symm.trans hd,Sat.right (C:=[_]) ‹_›,rfl,rfl⟩
    |exact hn' _ _ _ _ (m-1) (by(try simp only[Aj]at *);omega) ⟨i+1,o,(by(try simp only[Aj]at *);omega),by omega,by omega,(tdB_oth (kd_oth (by first|exact .inl ‹_›|exact .inr ⟨⟨by assumption,by assumption,by assumption⟩,by assumption,by assumption,by assumption⟩))).symm.trans hd,Sat.right (C:=[_]) ‹_›,rfl,rfl⟩
    |exact hn' _ _ _ _ (m-1) (by(try simp only[Aj]at *);omega) ⟨i+1,o,(by(try simp only[Aj]at *);omega),by omega,by omega,by rw[show o.toNat=o.toNat-1 by omega];exact(Xf (Ul ‹_› (by first|exact .inl ‹_›|exact .inr (.inl ‹_›)|exact .inr (.inr ‹_›)))).symm.trans hd,Sat.right (C:=[_]) ‹_›,rfl,rfl⟩)
end Go.CE
