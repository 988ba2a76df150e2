/- Part 5 of the lemmas behind the claim. -/
import Derived.Test.YtacpdfjcepkgcaaGreatDoorZA01
import Derived.Test.YtacpdfjcepkgcaaGreatDoorZA03
import Derived.Test.YtacpdfjcepkgcaaGreatDoorZA04
set_option linter.unusedSimpArgs false
set_option linter.unusedVariables false
set_option linter.constructorNameAsVariable false
set_option linter.unusedSectionVars false
set_option linter.defProp false
set_option maxRecDepth 100000
set_option maxHeartbeats 40000000
namespace Go.Ps
open Fr
def EC (l:List Tk) (s:PS):Prop:=1≤s.at'∧clo (l.getD (s.at'-1) z0)=true
def N1 {α:Type} (m:M α):Prop:=∀l s v s',m l s=.ok v s'→EC l s'
def stay {α:Type} (m:M α):Prop:=∀l s v s',m l s=.ok v s'→s'.at'=s.at'
variable {α β : Type}
theorem Yy {a:α}:stay (ret a):=fun l s v s' e=>by cases e;rfl
theorem Sl {k:Nat} {b:Stt}:stay (Cl k b):=fun l s v s' e=>by
 unfold Cl at e;split at e
 · cases e;rfl
 · cases e
theorem Pm:stay Em:=fun l s v s' e=>by
 unfold Em at e;split at e
 · cases e
 · cases e;rfl
theorem st_bd {m:M α} {f:α→M β} (hm:stay m) (hf:∀a,stay (f a)):stay (bd m f):=fun l s v s' e=>by
 obtain⟨a,t,e1,e2⟩:=Ee e
 rw[hf a _ _ _ _ e2,hm _ _ _ _ e1]
theorem Ug {m:M α} {f:α→M β} (hf:∀a,N1 (f a)):N1 (bd m f):=fun l s v s' e=>by
 obtain⟨a,t,e1,e2⟩:=Ee e
 exact hf a _ _ _ _ e2
theorem Mm {m:M α} {f:α→M β} (hm:N1 m) (hf:∀a,stay (f a)):N1 (bd m f):=fun l s v s' e=>by
 obtain⟨a,t,e1,e2⟩:=Ee e
 have:=hm _ _ _ _ e1
 unfold EC at this ⊢
 rw[hf a _ _ _ _ e2];exact this
theorem Zv {b:Bool} {x y:M α} (hx:N1 x) (hy:N1 y):N1 (D6 b x y):=by cases b;exact hy;exact hx
theorem Zu {c:Prop} [Decidable c] {x y:M α} (hx:N1 x) (hy:N1 y):N1 (if c then x else y):=by split;exact hx;exact hy
theorem clo_s {t:Tk} {x:List Nat} (hx:x=[59]∨x=[125]) (h:Gg t x=true):clo t=true:=by
 unfold clo
 rcases hx with rfl|rfl<;>rw[h]
 · rfl
 · exact Bool.or_true _
theorem Sz {x:List Nat} (hx:x=[59]∨x=[125]):N1 (De x):=fun l s v s' e=>by
 unfold De at e
 split at e
 · rename_i h
   cases e
   exact⟨Nat.succ_pos _,by show clo (l.getD (s.at'+1-1) z0)=true;rw[Nat.add_sub_cancel];exact clo_s hx h⟩
 · cases e
end Go.Ps
namespace Go.Ps
open Fr
theorem ls_itemsL:∀m,N1 (run m .itemsL):=by
 intro m
 induction m with
 |zero=>intro l s v s' e;cases e
 |succ m ih=>
  intro l s v s' e
  obtain⟨b,t,e1,e2⟩:=Ee (e:bd (E6 [125]) _ l s=_)
  cases b with
  |true=>
   cases e2
   unfold E6 at e1
   split at e1
   · rename_i h
     cases e1
     exact⟨Nat.succ_pos _,by show clo (l.getD (s.at'+1-1) z0)=true;rw[Nat.add_sub_cancel];exact clo_s (.inr rfl) h⟩
   · cases e1
  |false=>exact Ug (f:=fun a=>bd (D6 a (ret false) F7) fun c=>bd (D6 c (run m .declaration) (run m .statement)) fun _=>run m .itemsL) (fun a=>Ug fun c=>Ug fun _=>ih) _ _ _ _ e2
theorem ls_items (m:Nat):N1 (run m .items):=by
 cases m with
 |zero=>intro l s v s' e;cases e
 |succ m=>
  show N1 (Ah (run m) .items)
  dsimp only[Ah]
  repeat' first
   |exact Yy
   |exact Sl
   |exact Pm
   |exact ls_fail
   |refine Zv ?_ ?_
   |refine Zu ?_ ?_
   |refine Mm (Sz (.inl rfl)) fun _=>?_
   |refine Mm (ls_itemsL m) fun _=>?_
   |refine st_bd ?_ fun _=>?_
   |refine Ug fun _=>?_
theorem ls_body (m:Nat) (ds:List Dc):N1 (run m (.body ds)):=by
 cases m with
 |zero=>intro l s v s' e;cases e
 |succ m=>
  show N1 (Ah (run m) (.body ds))
  dsimp only[Ah]
  repeat' first
   |exact Yy
   |exact Sl
   |exact Pm
   |exact ls_fail
   |refine Zv ?_ ?_
   |refine Zu ?_ ?_
   |refine Mm (Sz (.inl rfl)) fun _=>?_
   |refine Mm (ls_items m) fun _=>?_
   |refine st_bd ?_ fun _=>?_
   |refine Ug fun _=>?_
theorem ls_assert (m:Nat):N1 (run m .assert):=by
 cases m with
 |zero=>intro l s v s' e;cases e
 |succ m=>
  show N1 (Ah (run m) .assert)
  dsimp only[Ah]
  repeat' first
   |exact Yy
   |exact Sl
   |exact Pm
   |exact ls_fail
   |refine Zv ?_ ?_
   |refine Zu ?_ ?_
   |refine Mm (Sz (.inl rfl)) fun _=>?_
   |refine st_bd ?_ fun _=>?_
   |refine Ug fun _=>?_
theorem ls_external (m:Nat):N1 (run m .external):=by
 cases m with
 |zero=>intro l s v s' e;cases e
 |succ m=>
  show N1 (Ah (run m) .external)
  dsimp only[Ah]
  repeat' first
   |exact ls_assert m
   |exact ls_body m _
   |exact Yy
   |exact Sl
   |exact Pm
   |exact ls_fail
   |refine Zv ?_ ?_
   |refine Zu ?_ ?_
   |refine Mm (Sz (.inl rfl)) fun _=>?_
   |refine Mm (ls_body m _) fun _=>?_
   |refine Mm (ls_items m) fun _=>?_
   |refine st_bd ?_ fun _=>?_
   |refine Ug fun _=>?_
def begB (t:Tk) (ty:List Nat→Bool):Prop:=t.c=1∨t.c=2∧ty t.t=true
theorem specsL_beg {m:Nat} {l:List Tk} {s s':PS} {v:Val} {all:Bool} (h:run m (.specsL all false 0 0) l s=.ok v s'):begB (l.getD s.at' z0) s.ty∨spW v=0∧spO v=0:=by
 cases m with
 |zero=>cases h
 |succ m=>
  replace h:Ah (run m) (.specsL all false 0 0) l s=.ok v s':=h
  dsimp only[Ah]at h
  obtain⟨t,s1,e1,h⟩:=Ee h
  cases e1
  by_cases h2:(l.getD s.at' z0).c=2
  · rw[if_pos h2]at h
    cases ht:s.ty (l.getD s.at' z0).t with
    |true=>exact .inl (.inr ⟨h2,ht⟩)
    |false=>
     replace h:D6 (s.ty (l.getD s.at' z0).t) _ _ l s=.ok v s':=h
     rw[ht]at h
     cases h;exact .inr ⟨rfl,rfl⟩
  · rw[if_neg h2]at h
    by_cases h1:(l.getD s.at' z0).c=1
    · exact .inl (.inl h1)
    · rw[if_neg h1]at h
      cases h;exact .inr ⟨rfl,rfl⟩
theorem ext_beg {m:Nat} {l:List Tk} {s s':PS} {v:Val} (h:run m .external l s=.ok v s'):begB (l.getD s.at' z0) s.ty:=by
 cases m with
 |zero=>cases h
 |succ m=>
  replace h:Ah (run m) .external l s=.ok v s':=h
  dsimp only[Ah]at h
  obtain⟨a,t,e1,e2⟩:=Ee h
  cases a with
  |true=>
   left
   have:Of (l.getD s.at' z0) [95,83,116,97,116,105,99,95,97,115,115,101,114,116]=true:=by injection e1
   unfold Of at this
   simp only[I2,decide_eq_true_eq]at this
   exact this.1
  |false=>
   obtain rfl:s=t:=by injection e1
   rw[Bs]at e2
   obtain⟨b,t,e1,e2⟩:=Ee e2
   cases e1
   obtain⟨c,t,e1,e3⟩:=Ee e2
   cases m with
   |zero=>cases e1
   |succ m=>
    replace e1:Ah (run m) (.specs true) l _=_:=e1
    dsimp only[Ah]at e1
    obtain⟨d,t1,e4,e5⟩:=Ee e1
    cases e4
    obtain⟨w,t1,e4,e6⟩:=Ee e5
    rcases specsL_beg e4 with h|⟨h1,h2⟩
    · exact h
    · rw[h1,h2]at e6
      cases e6
def M0:Nat:=2100000
def s0 (ty:List Nat→Bool):PS:=⟨0,[],ty,[],[]⟩
structure Btw (l:List Tk) (s:PS):Prop where
 a:s.at'≤l.length
 l:l.length≤20000
 st:s.st=[]
 dl:s.dl.length≤s.at'
 d:s.done.length≤8*s.at'+8
theorem btw0 {l:List Tk} (h:l.length≤20000) (ty:List Nat→Bool):Btw l (s0 ty):=⟨B9 _,h,rfl,Ag _,B9 _⟩
theorem Ky {l:List Tk} {s:PS} (h:Btw l s):NO (run M0 .external l s) (fun v s'=>s.at'+1≤s'.at'∧Btw l s'∧s'.done.length+8*s.at'≤s.done.length+8*s'.at'):=by
 have hp:Pre l M0 0 .external s:=⟨h.a,h.l,by decide,fun _=>by have:=h.dl;rw[h.st];exact this,h.d,by rw[h.st];exact B9 _,fun _=>by have:=h.l;show 100*l.length+4+21000≤2100000+100*s.at';omega,by decide,rfl⟩
 refine W.mono (no_out M0 0 .external s hp) (fun v s' hq=>?_) id id
 obtain⟨q1,q2,q3,q4,q5,q6,_⟩:=hq
 have q1:s.at'+1≤s'.at':=q1
 have q4:s'.dl.length+s.at'+0≤s.dl.length+s'.at'+0:=q4
 have q6:s'.done.length+8*s.at'+3≤s.done.length+8*s'.at'+0:=q6
 have:=h.dl;have:=h.d
 exact⟨q1,⟨q2,h.l,by rw[q3,h.st],by omega,by omega⟩,by omega⟩
theorem Rb {m:Nat} {l:List Tk} {s s':PS} {v:Val} (h:run m .external l s=.ok v s'):∃G,At l s G s'∧one G∧(Xg G∨M7 G):=by
 obtain⟨F',h1,h2⟩:=shape_ok m l s _ .nil .external (fun b hb=>by cases hb) rfl trivial s At.nil rfl v s' h
 exact⟨F',h1,h2⟩
theorem ext_move {l1 l2:List Tk} {s1 s2 s':PS} {v:Val} {k1 k2:Nat} (h:run M0 .external l1 s1=.ok v s') (b1:Btw l1 s1) (b2:Btw l2 s2) (ht:s1.ty=s2.ty) (hk:s1.at'+k2=s2.at'+k1) (hg:∀i j,i+k2=j+k1→i<s'.at'→l1.getD i z0=l2.getD j z0) :
 ∃s2',run M0 .external l2 s2=.ok v s2'∧s'.at'+k2=s2'.at'+k1∧s'.ty=s2'.ty∧Btw l2 s2':=by
 have hc:=(ls_external M0) _ _ _ _ h
 have:=((loc_ok (p:=⟨l1,l2,k1,k2,s'.at',s1.dl,s2.dl,hg,fun i hi=>by rw[show i=s'.at'-1 by omega];exact hc.2⟩) M0).2 .external rfl).fw s1 s2 ⟨hk,ht,by rw[b1.st];exact⟨b2.st,[],by rw[Bp],by rw[Bp]⟩⟩ v s' h (Ag _)
 rcases this with ho|⟨a2,s2',ho,hv,hs⟩
 · have:=Ky b2
   rw[ho]at this
   exact this.elim
 · subst hv
   have:=Ky b2
   rw[ho]at this
   exact⟨s2',ho,hs.1,hs.2.1,this.2.1⟩
inductive Units (l:List Tk):(List Nat→Bool)→Nat→Prop
 |fin {ty:List Nat→Bool}:Units l ty l.length
 |ext {s s':PS} {v:Val}:Btw l s→run M0 .external l s=.ok v s'→Units l s'.ty s'.at'→Units l s.ty s.at'
theorem units_cases {l:List Tk} {ty:List Nat→Bool} {a:Nat} (h:Units l ty a):a=l.length∨∃s s' v,s.ty=ty∧s.at'=a∧Btw l s∧run M0 .external l s=.ok v s'∧Units l s'.ty s'.at':=by
 cases h with
 |fin=>exact .inl rfl
 |ext hb hr hu=>exact .inr ⟨_,_,_,rfl,rfl,hb,hr,hu⟩
theorem X7 {l:List Tk} {a i:Nat}:(l.drop a).getD i z0=l.getD (a+i) z0:=by
 rw[A0,List.getElem?_drop,A0]
theorem X6 {l:List Tk} {n i:Nat} (h:i<n):(l.take n).getD i z0=l.getD i z0:=by
 rw[A0,Jk,if_pos h,A0]
theorem ext_take {l:List Tk} {s s':PS} {v:Val} (hb:Btw l s) (hr:run M0 .external l s=.ok v s') (n:Nat) (hn:n≤l.length-s.at') :
 (s'.at'-s.at'≤n→∃s2,run M0 .external ((l.drop s.at').take n) (s0 s.ty)=.ok v s2∧s2.at'=s'.at'-s.at'∧s2.ty=s'.ty)∧(n<s'.at'-s.at'→run M0 .external ((l.drop s.at').take n) (s0 s.ty)=.fail):=by
 have hl:((l.drop s.at').take n).length=n:=by rw[Ci,Ax];omega
 have hb2:Btw ((l.drop s.at').take n) (s0 s.ty):=btw0 (by rw[hl];have:=hb.l;omega) _
 have hno:=Ky hb
 rw[hr]at hno
 have h1:s.at'+1≤s'.at':=hno.1
 refine⟨fun h=>?_,fun h=>?_⟩
 · obtain⟨s2,e1,e2,e3,_⟩:=ext_move (k1:=s.at') (k2:=0) hr hb hb2 rfl (by show s.at'+0=0+s.at';omega) (fun i j hij hi=>by rw[X6 (by omega),X7,show i=s.at'+j by omega])
   exact⟨s2,e1,by omega,e3.symm⟩
 · have hno2:=Ky hb2
   cases e:run M0 .external ((l.drop s.at').take n) (s0 s.ty)with
   |fail=>rfl
   |out=>rw[e]at hno2;exact hno2.elim
   |ok v2 s2=>
    exfalso
    rw[e]at hno2
    have h2:s2.at'≤n:=by have:=hno2.2.1.a;rwa [hl]at this
    obtain⟨s3,e1,e2,e3,_⟩:=ext_move (k1:=0) (k2:=s.at') e hb2 hb rfl (by show 0+s.at'=s.at'+0;omega) (fun i j hij hi=>by rw[X6 (by omega),X7,show j=s.at'+i by omega])
    rw[hr]at e1
    cases e1
    omega
def Px:List Tk→Nat→Int→Nat→List Nat
 |[],i,_,_=>[i]
 |t::r,i,d,b=>
  let e:=if kd t=1 then d+1 else if kd t=2 then d-1 else d
  if t.c=0∨e<0∨e > 256 then[i]
  else if e=0∧Gg t [59]=true then[i+1]
  else if e=0∧Gg t [125]=true∧b<2 then(i+1)::Px r (i+1) e (b+1)
  else Px r (i+1) e b
theorem rch_ge:∀(l:List Tk) (i:Nat) (d:Int) (b:Nat),∃n∈Px l i d b,i≤n
 |[],i,d,b=>⟨i,Co.2 rfl,Ag _⟩
 |t::r,i,d,b=>by
  unfold Px
  dsimp only
  generalize (if kd t=1 then d+1 else if kd t=2 then d-1 else d)=e
  split
  · exact⟨i,Co.2 rfl,Ag _⟩
  split
  · exact⟨i+1,Co.2 rfl,Nat.le_succ _⟩
  split
  · exact⟨i+1,Aw ..,Nat.le_succ _⟩
  · obtain⟨n,h1,h2⟩:=rch_ge r (i+1) e b
    exact⟨n,h1,by omega⟩
theorem rch_le:∀(l:List Tk) (i:Nat) (d:Int) (b:Nat),∀n∈Px l i d b,n≤i+l.length
 |[],i,d,b,n,h=>by rw[Co.1 h];exact Ag _
 |t::r,i,d,b,n,h=>by
  unfold Px at h
  dsimp only at h
  generalize (if kd t=1 then d+1 else if kd t=2 then d-1 else d)=e at h
  rw[Cq]
  split at h
  · rw[Co.1 h];omega
  split at h
  · rw[Co.1 h];omega
  split at h
  · rcases Bo.1 h with rfl|h
    · omega
    · have:=rch_le r _ _ _ n h;omega
  · have:=rch_le r _ _ _ n h;omega
def Le:Nat→List Tk→Bool
 |_,[]=>false
 |o,t::r=>if kd t=1 then(if o+1 > 256 then true else Le (o+1) r)else if kd t=2 then Le (o-1) r else Le o r
theorem Pk:∀(l:List Tk) (o o':Nat),o≤o'→Le o' l=false→Le o l=false
 |[],o,o',h,h2=>rfl
 |t::r,o,o',h,h2=>by
  unfold Le at h2 ⊢
  split at h2
  · rename_i hk
    rw[if_pos hk]
    split at h2
    · cases h2
    · rw[if_neg (by omega)];exact Pk r _ _ (by omega) h2
  · rename_i hk
    rw[if_neg hk]
    split at h2
    · rename_i hk2
      rw[if_pos hk2];exact Pk r _ _ (by omega) h2
    · rename_i hk2
      rw[if_neg hk2];exact Pk r _ _ h h2
theorem Md:∀(l:List Tk) (o n:Nat),Le o l=false→Le 0 (l.drop n)=false
 |l,o,0,h=>Pk l 0 o (B9 _) h
 |[],o,n+1,h=>rfl
 |t::r,o,n+1,h=>by
  unfold Le at h
  split at h
  · split at h
    · cases h
    · exact Md r _ n h
  · split at h
    · exact Md r _ n h
    · exact Md r _ n h
theorem Pj:∀(l:List Tk) (o n:Nat),Le o l=false→Le o (l.take n)=false
 |l,o,0,h=>by rw[List.take_zero];rfl
 |[],o,n+1,h=>rfl
 |t::r,o,n+1,h=>by
  rw[List.take_succ_cons]
  unfold Le at h ⊢
  split at h
  · rename_i hk
    rw[if_pos hk]
    split at h
    · cases h
    · rename_i ho
      rw[if_neg ho];exact Pj r _ n h
  · rename_i hk
    rw[if_neg hk]
    split at h
    · rename_i hk2
      rw[if_pos hk2];exact Pj r _ n h
    · rename_i hk2
      rw[if_neg hk2];exact Pj r _ n h
theorem Z2 {t:Tk}:kd t=3↔Gg t [59]=true:=by
 refine⟨fun h=>?_,fun h=>by rw[Uk h];rfl⟩
 unfold kd at h
 split at h
 · rename_i hc
   unfold kdx at h
   unfold Gg
   split at h
   · cases h
   split at h
   · cases h
   split at h
   · rename_i h3;rw[hc,h3];rfl
   · cases h
 · cases h
theorem kd_le (t:Tk):kd t≤3:=by
 unfold kd kdx
 split
 · split
   · decide
   split
   · decide
   split
   · decide
   · decide
 · decide
theorem Pw (t:Tk) (r:List Tk) (i:Nat) (d:Int) (b:Nat):Px (t::r) i d b=let e:=if kd t=1 then d+1 else if kd t=2 then d-1 else d
 if t.c=0∨e<0∨e > 256 then[i]
 else if e=0∧Gg t [59]=true then[i+1]
 else if e=0∧Gg t [125]=true∧b<2 then(i+1)::Px r (i+1) e (b+1)
 else Px r (i+1) e b:=rfl
theorem So:∀(x r:List Tk) (i d e b:Nat),d≤256→(∀t∈x,t.c≠0)→Le d (x++r)=false→Pa d x=some e→∃ys b',Px (x++r) i d b=ys++Px r (i+x.length) e b'∧Le e r=false
 |[],r,i,d,e,b,hd,hc,ht,hb=>by cases hb;exact⟨[],b,rfl,ht⟩
 |t::x,r,i,d,e,b,hd,hc,ht,hb=>by
  have hc1:=hc t (Aw ..)
  have hc2:∀t∈x,t.c≠0:=fun u hu=>hc u (Am _ hu)
  have hk:=kd_le t
  have go:∀d':Nat,(if kd t=1 then(d:Int)+1 else if kd t=2 then(d:Int)-1 else d)=d'→d'≤256→¬(d'=0∧kd t=3)→Le d' (x++r)=false→Pa d' x=some e→∃ys b',Px (t::(x++r)) i d b=ys++Px r (i+(t::x).length) e b'∧Le e r=false:=by
   intro d' he hd hs ht' hb'
   rw[Pw]
   dsimp only
   rw[he,if_neg (by intro c;rcases c with c|c|c;exact hc1 c;omega;omega),if_neg (by rw[←Z2];intro c;exact hs ⟨by omega,c.2⟩),Cq,show i+(x.length+1)=i+1+x.length by omega]
   split
   · obtain⟨ys,b',h1,h2⟩:=So x r (i+1) d' e (b+1) hd hc2 ht' hb'
     exact⟨(i+1)::ys,b',by rw[h1];rfl,h2⟩
   · exact So x r (i+1) d' e b hd hc2 ht' hb'
  show ∃ys b',Px (t::(x++r)) i d b=_∧_
  replace ht:Le d (t::(x++r))=false:=ht
  unfold Le at ht
  have h4:kd t=0∨kd t=1∨kd t=2∨kd t=3:=by omega
  rcases h4 with h|h|h|h
  · rw[blf0 h]at hb
    rw[h,if_neg (by decide),if_neg (by decide)]at ht
    exact go d (by rw[h,if_neg (by decide),if_neg (by decide)]) hd (by omega) ht hb
  · rw[blf1 h]at hb
    rw[h,if_pos rfl]at ht
    split at ht
    · cases ht
    · exact go (d+1) (by rw[h,if_pos rfl];rfl) (by omega) (by omega) ht hb
  · rw[h,if_neg (by decide),if_pos rfl]at ht
    cases d with
    |zero=>unfold Pa at hb;rw[h]at hb;cases hb
    |succ d=>
     rw[blf2 h]at hb
     exact go d (by rw[h,if_neg (by decide),if_pos rfl];omega) (by omega) (by omega) ht hb
  · rw[h,if_neg (by decide),if_neg (by decide)]at ht
    cases d with
    |zero=>unfold Pa at hb;rw[h]at hb;cases hb
    |succ d=>
     rw[blf3 h]at hb
     exact go (d+1) (by rw[h,if_neg (by decide),if_neg (by decide)]) (by omega) (by omega) ht hb
theorem rch_ok {l:List Tk} {G:Fr} {w:List Tk} (hl:l=Gw G++w) (hc:∀t∈l,t.c≠0) (ht:Le 0 l=false) (hG:Xg G∨M7 G):∃n∈Px l 0 0 0,wid G≤n:=by
 rcases hG with⟨x,t,h1,h2,h3⟩|⟨x,t,h1,h2,h3⟩
 · rw[h1,A4]at hl
   subst hl
   obtain⟨ys,b',e1,e2⟩:=So x ([t]++w) 0 0 0 0 (by decide) (fun u hu=>hc u (B7 _ hu)) ht (by have:=h3 0 [];rw[Bp]at this;rw[this];rfl)
   refine⟨0+x.length+1,?_,by rw[←Az,h1,Bb];show x.length+1≤_;omega⟩
   show _∈Px _ 0 ((0:Nat):Int) 0
   rw[e1]
   refine A3 _ ?_
   show _∈Px (t::w) _ _ _
   rw[Pw]
   dsimp only
   rw[show(if kd t=1 then((0:Nat):Int)+1 else if kd t=2 then((0:Nat):Int)-1 else((0:Nat):Int))=0 by rw[h2];rfl,if_neg (by intro c;rcases c with c|c|c;exact hc t (by simp) c;omega;omega),if_pos ⟨rfl,Z2.1 h2⟩]
   exact Co.2 rfl
 · rw[h1,A4]at hl
   subst hl
   obtain⟨ys,b',e1,e2⟩:=So x ([t]++w) 0 0 1 0 (by decide) (fun u hu=>hc u (B7 _ hu)) ht (by have:=h3 0 [];rw[Bp]at this;rw[this];rfl)
   show ∃n∈Px _ 0 ((0:Nat):Int) 0,_
   rw[e1]
   have hw:wid G=x.length+1:=by rw[←Az,h1,Bb];rfl
   have:∃n∈Px (t::w) (0+x.length) (1:Nat) b',wid G≤n:=by
    rw[Pw]
    dsimp only
    rw[show(if kd t=1 then((1:Nat):Int)+1 else if kd t=2 then((1:Nat):Int)-1 else((1:Nat):Int))=0 by rw[h2];rfl,if_neg (by intro c;rcases c with c|c|c;exact hc t (by simp) c;omega;omega),if_neg (by rw[←Z2,h2];intro c;exact absurd c.2 (by decide))]
    split
    · exact⟨_,Aw ..,by omega⟩
    · obtain⟨n,q1,q2⟩:=rch_ge w (0+x.length+1) 0 b'
      exact⟨n,q1,by omega⟩
   obtain⟨n,q1,q2⟩:=this
   exact⟨n,A3 _ q1,q2⟩
theorem ext_rch {l:List Tk} {s s':PS} {v:Val} (hr:run M0 .external l s=.ok v s') (hc:∀t∈l,t.c≠0) (ht:Le 0 l=false):∃n∈Px (l.drop s.at') 0 0 0,s'.at'-s.at'≤n:=by
 obtain⟨G,hA,_,hG⟩:=Rb hr
 obtain⟨w,hw⟩:=hA.f
 obtain⟨n,h1,h2⟩:=rch_ok hw (fun t h=>hc t (List.mem_of_mem_drop h)) (Md _ _ _ ht) hG
 exact⟨n,h1,by have:=hA.a;omega⟩
def pre:Nat→Fr→List Nd
 |_,.nil=>[]
 |a,.tk _ r=>pre (a+1) r
 |a,.nd k q r=>⟨k,a,a+wid q,sz q+1⟩::(pre a q++pre (a+wid q) r)
theorem I5 (x:Fr) (a:Nat):(pre a x).length=sz x:=by
 induction x generalizing a with
 |nil=>rfl
 |tk t r ih=>exact ih _
 |nd k q r h1 h2=>
  show(_::(pre a q++pre (a+wid q) r)).length=sz q+1+sz r
  rw[Cq,Bb,h1,h2];omega
theorem pre_app (x y:Fr) (a:Nat):pre a (app x y)=pre a x++pre (a+wid x) y:=by
 induction x generalizing a with
 |nil=>rfl
 |tk t r ih=>show pre (a+1) (app r y)=pre (a+1) r++pre (a+(wid r+1)) y;rw[ih,show a+1+wid r=a+(wid r+1) by omega]
 |nd k q r _ ih=>
  show _::(pre a q++pre (a+wid q) (app r y))=(_::(pre a q++pre (a+wid q) r))++pre (a+(wid q+wid r)) y
  rw[ih,Hj,A4,Er]
def Qk (N:List Nd) (i a:Nat) (F:Fr):Prop:=(∃u v,N=u++pre a F++v∧u.length=i)∧ok F
theorem Qk.le {N:List Nd} {i a:Nat} {F:Fr} (h:Qk N i a F):i+sz F≤N.length:=by
 obtain⟨⟨u,v,rfl,rfl⟩,_⟩:=h
 rw[Bb,Bb,I5];omega
theorem Qk.tk {N:List Nd} {i a:Nat} {t:Tk} {r:Fr} (h:Qk N i a (.tk t r)):Qk N i (a+1) r:=h
theorem Qk.nd {N:List Nd} {i a k:Nat} {q r:Fr} (h:Qk N i a (.nd k q r)):N[i]?=some ⟨k,a,a+wid q,sz q+1⟩∧Qk N (i+1) a q∧Qk N (i+1+sz q) (a+wid q) r∧V k q∧q≠.nil:=by
 obtain⟨⟨u,v,rfl,rfl⟩,ho⟩:=h
 refine⟨?_,⟨⟨u++[⟨k,a,a+wid q,sz q+1⟩],pre (a+wid q) r++v,?_,by simp⟩,ho.2.2.1⟩,⟨⟨u++[⟨k,a,a+wid q,sz q+1⟩]++pre a q,v,?_,by simp[I5];omega⟩,ho.2.2.2⟩,ho.1,ho.2.1⟩
 · show(u++(_::_)++v)[u.length]?=_
   rw[A4,Fy (Ag _),Nat.sub_self];rfl
 · show u++(_::(pre a q++pre (a+wid q) r))++v=_
   simp[A4]
 · show u++(_::(pre a q++pre (a+wid q) r))++v=_
   simp[A4]
theorem Qk.app {N:List Nd} {i a:Nat} {x y:Fr} (h:Qk N i a (app x y)) (hx:ok x):Qk N i a x∧Qk N (i+sz x) (a+wid x) y:=by
 obtain⟨⟨u,v,rfl,rfl⟩,ho⟩:=h
 rw[pre_app]
 exact⟨⟨⟨u,pre (a+wid x) y++v,by simp[A4],rfl⟩,hx⟩,⟨⟨u++pre a x,v,by simp[A4],by simp[I5]⟩,ok_r ho⟩⟩
theorem ok_l {x y:Fr} (h:ok (app x y)):ok x:=by
 induction x with
 |nil=>trivial
 |tk t r ih=>exact ih h
 |nd k q r _ ih=>exact⟨h.1,h.2.1,h.2.2.1,ih h.2.2.2⟩
theorem Jp {q:Fr} (h:ok q) (hn:q≠.nil):0<wid q:=by
 induction q with
 |nil=>exact absurd rfl hn
 |tk t r _=>exact Nat.succ_pos _
 |nd k q r h1 h2=>have:=h1 h.2.2.1 h.2.1;show 0<wid q+wid r;omega
structure Nod (N:List Nd) (i a k:Nat) (q:Fr):Prop where
 g:N[i]?=some ⟨k,a,a+wid q,sz q+1⟩
 s:Qk N (i+1) a q
 v:V k q
 n:q≠.nil
theorem Nod.w {N:List Nd} {i a k:Nat} {q:Fr} (h:Nod N i a k q):0<wid q:=Jp h.s.2 h.n
theorem Nod.le {N:List Nd} {i a k:Nat} {q:Fr} (h:Nod N i a k q):i+1+sz q≤N.length:=h.s.le
theorem Qk.nod {N:List Nd} {i a k:Nat} {q r:Fr} (h:Qk N i a (.nd k q r)):Nod N i a k q:=⟨h.nd.1,h.nd.2.1,h.nd.2.2.2.1,h.nd.2.2.2.2⟩
theorem Qk.rest {N:List Nd} {i a k:Nat} {q r:Fr} (h:Qk N i a (.nd k q r)):Qk N (i+sz q+1) (a+wid q) r:=by have:=h.nd.2.2.1;rwa [Nat.add_right_comm]at this
theorem Pp {N:List Nd}:∀(F:Fr) (i a:Nat),Qk N i a F→∀j,i≤j→j<i+sz F→∃b k q,Nod N j b k q∧a≤b∧b+wid q≤a+wid F
 |.nil,i,a,h,j,h1,h2=>by have:j<i:=h2;omega
 |.tk t r,i,a,h,j,h1,h2=>by
  obtain⟨b,k,q,h3,h4,h5⟩:=Pp r i (a+1) h.tk j h1 h2
  exact⟨b,k,q,h3,by omega,by show _≤a+(wid r+1);omega⟩
 |.nd k q r,i,a,h,j,h1,h2=>by
  have h2':j<i+(sz q+1+sz r):=h2
  have hw:wid (.nd k q r)=wid q+wid r:=rfl
  rcases Nat.lt_or_ge j (i+1)with c|c
  · have:j=i:=by omega
    subst this
    exact⟨a,k,q,h.nod,Ag _,by omega⟩
  · rcases Nat.lt_or_ge j (i+1+sz q)with d|d
    · obtain⟨b,k',q',h3,h4,h5⟩:=Pp q (i+1) a h.nod.s j c d
      exact⟨b,k',q',h3,h4,by omega⟩
    · obtain⟨b,k',q',h3,h4,h5⟩:=Pp r (i+sz q+1) (a+wid q) h.rest j (by omega) (by omega)
      exact⟨b,k',q',h3,by omega,by omega⟩
def nN (N:List Nd) (i:Nat):Nd:=N.getD i ⟨0,0,0,0⟩
theorem Nod.nn {N:List Nd} {i a k:Nat} {q:Fr} (h:Nod N i a k q):nN N i=⟨k,a,a+wid q,sz q+1⟩:=by
 unfold nN;rw[A0,h.g];rfl
def H5 (N:List Nd):Nat→Nat→Nat→List Nat
 |0,_,_=>[]
 |u+1,e,k=>if k<e then k::H5 N u e (k+(nN N k).s)else[]
def kids (N:List Nd) (i:Nat):List Nat:=H5 N N.length (i+(nN N i).s) (i+1)
def Hw:Nat→Nat→Fr→List (Nat×Nat×Nat×Fr)
 |_,_,.nil=>[]
 |i,a,.tk _ r=>Hw i (a+1) r
 |i,a,.nd k q r=>(i,a,k,q)::Hw (i+sz q+1) (a+wid q) r
theorem Ou {N:List Nd}:∀(F:Fr) (i a u:Nat),Qk N i a F→sz F≤u→H5 N u (i+sz F) i=(Hw i a F).map (·.1)
 |.nil,i,a,u,h,hu=>by
  show H5 N u (i+0) i=[]
  cases u with
  |zero=>rfl
  |succ u=>unfold H5;rw[if_neg (by omega)]
 |.tk t r,i,a,u,h,hu=>Ou r i (a+1) u h.tk hu
 |.nd k q r,i,a,u,h,hu=>by
  have hs:sz (.nd k q r)=sz q+1+sz r:=rfl
  rw[hs]at hu ⊢
  obtain⟨u,rfl⟩:∃v,u=v+1:=⟨u-1,by omega⟩
  unfold H5
  rw[if_pos (by omega),h.nod.nn]
  have:=Ou r (i+sz q+1) (a+wid q) u h.rest (by omega)
  show i::H5 N u (i+(sz q+1+sz r)) (i+(sz q+1))=i::_
  rw[←this]
  congr 2<;>omega
theorem Nod.kids {N:List Nd} {i a k:Nat} {q:Fr} (h:Nod N i a k q):kids N i=(Hw (i+1) a q).map (·.1):=by
 unfold Ps.kids
 rw[h.nn]
 have:=Ou q (i+1) a N.length h.s (by have:=h.s.le;omega)
 rw[←this]
 congr 1
 show i+(sz q+1)=i+1+sz q
 omega
theorem Ti (x y:Fr) (i a:Nat):Hw i a (app x y)=Hw i a x++Hw (i+sz x) (a+wid x) y:=by
 induction x generalizing i a with
 |nil=>rfl
 |tk t r ih=>show Hw i (a+1) (app r y)=Hw i (a+1) r++Hw (i+sz r) (a+(wid r+1)) y;rw[ih,show a+1+wid r=a+(wid r+1) by omega]
 |nd k q r _ ih=>
  show _::Hw (i+sz q+1) (a+wid q) (app r y)=(_::Hw (i+sz q+1) (a+wid q) r)++Hw (i+(sz q+1+sz r)) (a+(wid q+wid r)) y
  rw[ih,Hj,show i+sz q+1+sz r=i+(sz q+1+sz r) by omega,show a+wid q+wid r=a+(wid q+wid r) by omega]
theorem Pg {N:List Nd}:∀(F:Fr) (i a:Nat),Qk N i a F→∀x∈Hw i a F,Nod N x.1 x.2.1 x.2.2.1 x.2.2.2∧i≤x.1∧x.1+1+sz x.2.2.2≤i+sz F∧a≤x.2.1∧x.2.1+wid x.2.2.2≤a+wid F
 |.nil,i,a,h,x,hx=>by cases hx
 |.tk t r,i,a,h,x,hx=>by
  obtain⟨h1,h2,h3,h4,h5⟩:=Pg r i (a+1) h.tk x hx
  exact⟨h1,h2,h3,by omega,by show _≤a+(wid r+1);omega⟩
 |.nd k q r,i,a,h,x,hx=>by
  have e1:sz (.nd k q r)=sz q+1+sz r:=rfl
  have e2:wid (.nd k q r)=wid q+wid r:=rfl
  rw[e1,e2]
  rcases Bo.1 hx with rfl|hx
  · exact⟨h.nod,Ag _,by show i+1+sz q≤_;omega,Ag _,by show a+wid q≤_;omega⟩
  · obtain⟨h1,h2,h3,h4,h5⟩:=Pg r _ _ h.rest x hx
    exact⟨h1,by omega,by omega,by omega,by omega⟩
theorem tops_none {F:Fr} (h:sz F=0) (i a:Nat):Hw i a F=[]:=by
 induction F generalizing i a with
 |nil=>rfl
 |tk t r ih=>exact ih h _ _
 |nd k q r _ _=>have:sz q+1+sz r=0:=h;omega
inductive Act where
 |ln (p v:Nat)
 |kn (j v:Nat)
def K3 (N:List Nd) (j v:Nat):List Act:=[.kn j v,.ln (nN N j).f (if(nN N j).k=23∨(nN N j).k=24∨(nN N j).k=25 then v-1 else v)]
def G8 (N:List Nd) (i v:Nat):List Act:=(kids N i).flatMap (fun k=>K3 N k (v+1))++[.ln ((nN N i).t-1) v]
def Pu (N:List Nd) (c:Nat→Bool) (i v:Nat):List Act:=(kids N i).flatMap fun k=>if((nN N k).k=6∨(nN N k).k=9)∧c ((nN N k).t-1)=true then G8 N k v else[]
def Jb (N:List Nd) (j v:Nat) (b:Bool):List Act:=if(nN N j).k=22∨b=true∧(nN N j).k=27 then[.kn j v]else K3 N j (v+1)
def Sd (N:List Nd) (v:Nat):Nat→Bool→List Nat→List Act
 |_,_,[]=>[]
 |n,b,k::r=>if n=1 then Jb N k v false++Sd N v (n+1) (decide ((nN N k).k=22)) r
  else if n=2 then(if b=true then[]else[.ln ((nN N k).f-1) v])++Jb N k v true++Sd N v (n+1) b r
  else Sd N v (n+1) b r
def G9 (N:List Nd) (i:Nat):Nat:=(kids N i).getLastD i
def visA (N:List Nd) (c:Nat→Bool) (i v:Nat):List Act:=
 if(nN N i).k=3∨(nN N i).k=7 then Pu N c (i+1) v
 else if(nN N i).k=22 then G8 N i v
 else if(nN N i).k=23∨(nN N i).k=24∨(nN N i).k=25 then K3 N (G9 N i) v
 else if(nN N i).k=27 then Sd N v 0 false (kids N i)
 else if(nN N i).k=28∨(nN N i).k=29∨(nN N i).k=31 then Jb N (G9 N i) v false
 else if(nN N i).k=30 then Jb N (i+1) v false++(if(nN N (i+1)).k=22 then[]else[.ln (nN N (i+1)).t v])
 else[]
def Wn (N:List Nd) (I E M lo hi:Nat):Act→Prop
 |.ln p v=>lo≤p∧p<hi∧v≤M
 |.kn j v=>(lo≤(nN N j).f∧(nN N j).f<(nN N j).t∧(nN N j).t≤hi)∧I≤j∧j<E∧v≤M
def Rl (N:List Nd):Act→Act→Prop
 |.ln p _,.ln q _=>p≠q
 |.ln p _,.kn j _=>¬((nN N j).f<p∧p<(nN N j).t)
 |.kn j _,.ln p _=>¬((nN N j).f<p∧p<(nN N j).t)
 |.kn i _,.kn j _=>(nN N i).t≤(nN N j).f∨(nN N j).t≤(nN N i).f
structure Z (N:List Nd) (I E M lo hi:Nat) (A:List Act):Prop where
 w:∀x∈A,Wn N I E M lo hi x
 p:A.Pairwise (Rl N)
variable {N : List Nd} {I E M : Nat}
theorem Wn.mono {lo hi lo' hi':Nat} {x:Act} (h:Wn N I E M lo hi x) (h1:lo'≤lo) (h2:hi≤hi'):Wn N I E M lo' hi' x:=by
 cases x with
 |ln p v=>exact⟨Cr h1 h.1,Na h.2.1 h2,h.2.2⟩
 |kn j v=>exact⟨⟨Cr h1 h.1.1,h.1.2.1,Cr h.1.2.2 h2⟩,h.2⟩
theorem Z.mono {lo hi lo' hi':Nat} {A:List Act} (h:Z N I E M lo hi A) (h1:lo'≤lo) (h2:hi≤hi'):Z N I E M lo' hi' A:=⟨fun x hx=>(h.w x hx).mono h1 h2,h.p⟩
theorem Z.nil {lo hi:Nat}:Z N I E M lo hi []:=⟨fun x hx=>(by cases hx),.nil⟩
theorem Z.app {lo mid hi:Nat} {A B:List Act} (hA:Z N I E M lo mid A) (hB:Z N I E M mid hi B) (h1:lo≤mid) (h2:mid≤hi):Z N I E M lo hi (A++B):=by
 refine⟨fun x hx=>?_,List.pairwise_append.2 ⟨hA.p,hB.p,fun x hx y hy=>?_⟩⟩
 · rcases D9.1 hx with hx|hx
   · exact(hA.w x hx).mono (Ag _) h2
   · exact(hB.w x hx).mono h1 (Ag _)
 · have a:=hA.w x hx
   have b:=hB.w y hy
   cases x<;>cases y
   · exact Nat.ne_of_lt (Na a.2.1 b.1)
   · exact fun c=>by have:=a.2.1;have:=b.1.1;omega
   · exact fun c=>by have:=a.1.2.2;have:=b.1;omega
   · exact .inl (Cr a.1.2.2 b.1.1)
theorem z_ln {p v:Nat} (hv:v≤M):Z N I E M p (p+1) [.ln p v]:=⟨fun x hx=>by rw[Co.1 hx];exact⟨Ag _,Nat.lt_succ_self _,hv⟩,List.pairwise_singleton ..⟩
theorem z_kn {i a k v:Nat} {q:Fr} (h:Nod N i a k q) (hi:I≤i∧i<E) (hv:v≤M):Z N I E M a (a+wid q) [.kn i v]:=by
 have:=h.w
 exact⟨fun x hx=>by rw[Co.1 hx];show(_∧_∧_)∧_;rw[h.nn];exact⟨⟨Ag _,by show a<a+wid q;omega,Ag _⟩,hi.1,hi.2,hv⟩,List.pairwise_singleton ..⟩
theorem z_stmt {i a k v:Nat} {q:Fr} (h:Nod N i a k q) (hi:I≤i∧i<E) (hv:v≤M):Z N I E M a (a+wid q) (K3 N i v):=by
 have hw:=h.w
 unfold K3
 rw[h.nn]
 refine⟨fun x hx=>?_,List.pairwise_cons.2 ⟨fun y hy=>?_,List.pairwise_singleton ..⟩⟩
 · rcases Bo.1 hx with rfl|hx
   · exact(z_kn (v:=v) h hi hv).w _ (Co.2 rfl)
   · rw[Co.1 hx]
     refine⟨Ag _,by show a<a+wid q;omega,?_⟩
     split
     · omega
     · exact hv
 · rw[Co.1 hy]
   show ¬(_∧_)
   rw[h.nn];show ¬(a<a∧_);omega
theorem z_tops {g:Nat→List Act}:∀(F:Fr) (i a:Nat),Qk N i a F→(∀j b k q,Nod N j b k q→i≤j→j+1+sz q≤i+sz F→Z N I E M b (b+wid q) (g j))→Z N I E M a (a+wid F) (((Hw i a F).map (·.1)).flatMap g)
 |.nil,i,a,h,hg=>Z.nil
 |.tk t r,i,a,h,hg=>(z_tops r i (a+1) h.tk fun j b k q=>hg j b k q).mono (Nat.le_succ _) (by show _≤a+(wid r+1);omega)
 |.nd k q r,i,a,h,hg=>by
  have e1:sz (.nd k q r)=sz q+1+sz r:=rfl
  have e2:wid (.nd k q r)=wid q+wid r:=rfl
  rw[e2,←Er]
  show Z N I E M a _ (g i++(((Hw (i+sz q+1) (a+wid q) r).map (·.1)).flatMap g))
  exact(hg i a k q h.nod (Ag _) (by omega)).app (z_tops r _ _ h.rest fun j b k q h1 h2 h3=>hg j b k q h1 (by omega) (by omega)) (by omega) (by omega)
theorem Sj {g:Nat→List Act}:∀(F:Fr) (i a:Nat),Qk N i a F→(∀j b k q,Nod N j b k q→i≤j→j+1+sz q≤i+sz F→Z N I E M (b+1) (b+wid q) (g j))→Z N I E M (a+1) (a+wid F) (((Hw i a F).map (·.1)).flatMap g)
 |.nil,i,a,h,hg=>Z.nil
 |.tk t r,i,a,h,hg=>(Sj r i (a+1) h.tk fun j b k q=>hg j b k q).mono (Nat.le_succ _) (by show _≤a+(wid r+1);omega)
 |.nd k q r,i,a,h,hg=>by
  have e1:sz (.nd k q r)=sz q+1+sz r:=rfl
  have e2:wid (.nd k q r)=wid q+wid r:=rfl
  have:=h.nod.w
  rw[e2,←Er]
  show Z N I E M (a+1) _ (g i++(((Hw (i+sz q+1) (a+wid q) r).map (·.1)).flatMap g))
  exact(hg i a k q h.nod (Ag _) (by omega)).app ((Sj r _ _ h.rest fun j b k q h1 h2 h3=>hg j b k q h1 (by omega) (by omega)).mono (Nat.le_succ _) (Ag _)) (by omega) (by omega)
theorem z_open {i a k v:Nat} {q:Fr} (h:Nod N i a k q) {r:Fr} {lo:Nat} (hq:(Hw (i+1) a q).map (·.1)=(Hw (i+1) lo r).map (·.1)) (hr:Qk N (i+1) lo r) (hb:lo+wid r+1≤a+wid q) (hs:sz r≤sz q) (hi:I≤i+1∧i+1+sz q≤E) (hv:v+1≤M):Z N I E M lo (a+wid q) (G8 N i v):=by
 unfold G8
 rw[h.kids,h.nn,hq]
 refine((z_tops r (i+1) lo hr fun j b k q h1 _ _=>z_stmt h1 ⟨by omega,by omega⟩ hv).mono (Ag _) (by show _≤a+wid q-1;omega)).app ((z_ln (by omega)).mono (Ag _) ?_) (by show _≤a+wid q-1;omega) (by show a+wid q-1≤_;omega)
 show a+wid q-1+1≤a+wid q
 omega
theorem Sk {i a k v:Nat} {t:Tk} {r:Fr} (h:Nod N i a k (.tk t r)) (hr:r≠.nil∧(sz r=0∨∃r' t2,r=app r' (.tk t2 .nil))) (hi:I≤i+1∧i+1+sz r≤E) (hv:v+1≤M):Z N I E M (a+1) (a+wid (.tk t r)) (G8 N i v):=by
 have hw:wid (.tk t r)=wid r+1:=rfl
 have ho:ok r:=h.s.2
 have hp:=Jp ho hr.1
 rcases hr.2 with h0|⟨r',t2,rfl⟩
 · refine z_open h (r:=.nil) ?_ ?_ (by rw[hw];show a+1+0+1≤_;omega) (B9 _) hi hv
   · show(Hw (i+1) (a+1) r).map (·.1)=[]
     rw[tops_none h0];rfl
   · obtain⟨u,v,e1,e2⟩:=h.s.1
     exact⟨⟨u,pre a (.tk t r)++v,by rw[e1,A4];show _=u++[]++_;rw[Bp],e2⟩,trivial⟩
 · refine z_open h (r:=r') ?_ (Qk.app (h.s.tk) (ok_l ho)).1 (by rw[hw,Kl];show _≤a+(wid r'+1+1);omega) (by show sz r'≤sz (app r' _);rw[sz_app];omega) hi hv
   show(Hw (i+1) (a+1) (app r' _)).map (·.1)=_
   rw[Ti]
   show(_++[]).map _=_
   rw[Bp]
theorem Tg {i a k v:Nat} {b:Bool} {q:Fr} (h:Nod N i a k q) (hi:I≤i∧i<E) (hv:v+1≤M):Z N I E M a (a+wid q) (Jb N i v b):=by
 unfold Jb
 split
 · exact z_kn h hi (by omega)
 · exact z_stmt h hi hv
theorem Nod.last {i a k k':Nat} {q' r:Fr} (h:Nod N i a k (app r (.nd k' q' .nil))):G9 N i=i+1+sz r∧Nod N (i+1+sz r) (a+wid r) k' q':=by
 have:=(Qk.app h.s (ok_l h.s.2)).2
 refine⟨?_,this.nod⟩
 unfold G9
 rw[h.kids,Ti,Eo]
 show(_++[i+1+sz r]).getLastD i=_
 rw[List.getLastD_concat]
theorem z_last {i a k k' v:Nat} {q' r:Fr} (h:Nod N i a k (app r (.nd k' q' .nil))) (hr:r≠.nil) {g:Nat→List Act} (hg:∀j b,Nod N j b k' q'→i<j→j+1+sz q'≤i+1+sz (app r (.nd k' q' .nil))→Z N I E M b (b+wid q') (g j)):Z N I E M (a+1) (a+wid (app r (.nd k' q' .nil))) (g (G9 N i)):=by
 have hp:=Jp (ok_l h.s.2) hr
 rw[h.last.1,Kl]
 refine(hg _ _ h.last.2 (by omega) (by rw[sz_app];show _≤i+1+(sz r+(sz q'+1+0));omega)).mono (by omega) (by show _≤a+(wid r+(wid q'+0));omega)
end Go.Ps
namespace Go.Ps
open Fr
theorem vis_z {N:List Nd} {c:Nat→Bool} {i a k v:Nat} {q:Fr} (h:Nod N i a k q):Z N (i+1) (i+1+sz q) (v+1) (a+1) (a+wid q) (visA N c i v):=by
 have hV:=h.v
 have hw:=h.w
 unfold visA
 rw[h.nn]
 show Z N _ _ _ _ _ (if k=3∨k=7 then _ else _)
 split
 · rename_i hk
   obtain⟨k',q',r,rfl⟩:p3 q:=by rcases hk with rfl|rfl<;>exact hV
   have e2:wid (.nd k' q' r)=wid q'+wid r:=rfl
   have e1:sz (.nd k' q' r)=sz q'+1+sz r:=rfl
   have h1:=h.s.nod
   rw[e2]
   unfold Pu
   rw[h1.kids]
   refine(Sj q' _ _ h1.s fun j b kk qq h2 h3 h4=>?_).mono (Ag _) (by omega)
   rw[h2.nn]
   show Z N _ _ _ _ _ (if(kk=6∨kk=9)∧_ then _ else _)
   split
   · rename_i hc
     obtain⟨t,rr,rfl,hr⟩:p6 qq:=by
      have:=h2.v
      rcases hc.1 with rfl|rfl<;>exact this
     exact Sk h2 hr ⟨by omega,by show _+sz rr≤_;have e3:sz (.tk t rr)=sz rr:=rfl;omega⟩ (Ag _)
   · exact Z.nil
 split
 · rename_i hk
   subst hk
   obtain⟨t,r,t2,rfl⟩:p0 q:=hV
   exact Sk h ⟨I0 (.inr (by intro e;cases e)),.inr ⟨_,_,rfl⟩⟩ ⟨Ag _,Ag _⟩ (Ag _)
 split
 · rename_i hk
   obtain⟨r,k',q',rfl,hr⟩:p4 q:=by rcases hk with rfl|rfl|rfl<;>exact hV
   exact z_last (v:=v) h hr (g:=fun j=>K3 N j v) fun j b h1 h2 h3=>z_stmt h1 ⟨by omega,by omega⟩ (Nat.le_succ _)
 split
 · rename_i hk
   subst hk
   obtain⟨t1,t2,k1,q1,t3,k2,q2,r,rfl,hr⟩:p7 q:=hV
   have h1:=h.s.tk.tk.nod
   have h2:=h.s.tk.tk.rest.tk.nod
   have h3:=h.s.tk.tk.rest.tk.rest
   have w1:=h1.w
   have w2:=h2.w
   have e2:wid (.tk t1 (.tk t2 (.nd k1 q1 (.tk t3 (.nd k2 q2 r)))))=wid q1+(wid q2+wid r+1)+1+1:=rfl
   have e1:sz (.tk t1 (.tk t2 (.nd k1 q1 (.tk t3 (.nd k2 q2 r)))))=sz q1+1+(sz q2+1+sz r):=rfl
   rw[h.kids]
   show Z N _ _ _ _ _ (Sd N v 0 false ((i+1)::(i+1+sz q1+1)::(Hw _ _ r).map _))
   unfold Sd
   rw[if_neg (by decide),if_neg (by decide)]
   unfold Sd
   rw[if_pos rfl,e2,e1]
   rcases hr with rfl|⟨t4,k3,q3,rfl⟩
   · show Z N _ _ _ _ _ (_++[])
     rw[Bp]
     refine(Tg h2 ⟨by omega,by omega⟩ (Ag _)).mono (by omega) (by show _≤a+(_+(_+0+1)+1+1);omega)
   · have h4:=h3.tk.nod
     have w4:=h4.w
     have e3:wid (.tk t4 (.nd k3 q3 .nil))=wid q3+0+1:=rfl
     have e4:sz (.tk t4 (.nd k3 q3 .nil))=sz q3+1+0:=rfl
     show Z N _ _ _ _ _ (_++Sd N v (1+1) _ [_])
     unfold Sd
     rw[if_neg (by decide),if_pos rfl,e3,e4]
     show Z N _ _ _ _ _ (_++(_++_++[]))
     rw[Bp,h4.nn]
     refine Z.app (Tg h2 ⟨by omega,by omega⟩ (Ag _)) (Z.app (mid:=a+1+1+wid q1+1+wid q2+1) ?_ ((Tg h4 ⟨by omega,by omega⟩ (Ag _)).mono (Ag _) ?_) (by omega) ?_) (by omega) ?_ |>.mono (by omega) (Ag _)
     · split
       · exact Z.nil
       · exact(z_ln (by omega)).mono (by show _≤a+1+1+wid q1+1+wid q2+1-1;omega) (by show a+1+1+wid q1+1+wid q2+1-1+1≤_;omega)
     all_goals omega
 split
 · rename_i hk
   obtain⟨r,k',q',rfl,hr⟩:p4 q:=by rcases hk with rfl|rfl|rfl<;>exact hV
   exact z_last (v:=v) h hr (g:=fun j=>Jb N j v false) fun j b h1 h2 h3=>Tg h1 ⟨by omega,by omega⟩ (Ag _)
 split
 · rename_i hk
   subst hk
   obtain⟨t,k',q',t2,r,rfl⟩:p2 q:=hV
   have h1:=h.s.tk.nod
   have w1:=h1.w
   have e2:wid (.tk t (.nd k' q' (.tk t2 r)))=wid q'+(wid r+1)+1:=rfl
   have e1:sz (.tk t (.nd k' q' (.tk t2 r)))=sz q'+1+sz r:=rfl
   rw[h1.nn,e2,e1]
   refine(Z.app (Tg h1 ⟨by omega,by omega⟩ (Ag _)) (hi:=a+(wid q'+(wid r+1)+1)) ?_ (by omega) (by omega)).mono (Ag _) (by omega)
   split
   · exact Z.nil
   · exact(z_ln (by omega)).mono (Ag _) (by show a+1+wid q'+1≤_;omega)
 · exact Z.nil
end Go.Ps
