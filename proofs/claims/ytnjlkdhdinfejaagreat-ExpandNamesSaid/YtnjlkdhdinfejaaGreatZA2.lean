/- Part 2 of the lemmas behind the claim: GW, GX, XA, GL, XB, GY, GZ, GB, GC. -/
import Derived.Test.YtnjlkdhdinfejaaGreatZA1
import Derived.SizedLaws
import Derived.Lib.Builder
import Derived.Lib.AppendStr
import Derived.Lib.UnsafeStr
import Derived.Laws.Pointers
import Derived.Laws.IdiomStrings
import Derived.Laws.BytesArg
import Derived.Laws.MakeOwn
import Derived.Laws.OwnMore
import Derived.Maps.OwnSet
import Derived.Carry
set_option linter.unusedSimpArgs false
set_option linter.unusedVariables false
set_option maxHeartbeats 4000000
set_option maxRecDepth 100000
namespace Go.GV
open Go.RowKit
def pureOp:Op→Bool
 |.move _=>true
 |.assign _=>true
 |.binOp _ _ _ _ _=>true
 |.unOp _ _ _=>true
 |.extract _ _=>true
 |.field _ _ _=>true
 |.fieldAddr _ _ _=>true
 |_=>false
theorem eff_pure {C:Cx} {T:TT} {E:Env} {st:St} {a:Act} {g:Gd} (hT:TOk C.P T) {o:Oper} {s:SV} {side:List Prop}
 (hx:∀(x:Operand) z,opd st g x=some z→a.eval x=z.den E∧z.lt E st.nx) (hp:pureOp o.op=true)
 (he:eff T st g o.op=.val s side) (hs:allP side) (w:World):(execOp a.eval o).run C.P w=.ok (.value (s.den E)) w∧s.lt E st.nx:=by
 have hx1:∀(x:Operand) z,opd st g x=some z→a.eval x=z.den E:=fun x z h=>(hx x z h).1
 obtain⟨dst,op,ty,pos,after,guard⟩:=o
 simp only at he hp
 cases op<;>simp only[pureOp]at hp<;>try (cases hp;done)
 case move x=>
  simp only[eff]at he
  split at he
  rename_i s' hx'
  cases he
  obtain⟨h1,h2⟩:=hx _ _ hx'
  exact⟨by simp[execOp,h1],h2⟩
  cases he
 case assign x=>
  simp only[eff]at he
  split at he
  rename_i s' hx'
  cases he
  obtain⟨h1,h2⟩:=hx _ _ hx'
  exact⟨by simp[execOp,h1],h2⟩
  cases he
 case binOp op t x y t'=>
  simp only[eff]at he
  obtain⟨h1,h2⟩:=bin_sound (w:=w) hT (hx1 _) (hx1 _) he hs
  refine⟨?_,h2 _⟩
  simp only[execOp]
  rw[Sem.run_bind,h1];rfl
 case unOp op t x=>
  simp only[eff]at he
  obtain⟨h1,h2⟩:=un_sound (C:=C) (w:=w) (hx1 _) he hs
  refine⟨?_,h2 _⟩
  simp only[execOp]
  rw[Sem.run_bind,h1];rfl
 case extract x i=>
  simp only[eff]at he
  obtain⟨h1,h2⟩:=extract_sound (C:=C) (st:=st) (w:=w) (hx _) he
  refine⟨?_,h2⟩
  simp only[execOp]
  rw[Sem.run_bind,h1];rfl
 case field t x f=>
  simp only[eff]at he
  obtain⟨h1,h2⟩:=field_sound (w:=w) hT (hx1 _) he
  refine⟨?_,h2 _⟩
  simp only[execOp]
  rw[Sem.run_bind,h1];rfl
 case fieldAddr t x f=>
  simp only[eff]at he
  obtain⟨h1,h2⟩:=fieldAddr_sound (w:=w) hT (hx _) he
  refine⟨?_,h2⟩
  simp only[execOp]
  rw[Sem.run_bind,h1];rfl
def marks (listed:Array Bool):List Nat→Array Bool
 |[]=>listed
 |i::r=>marks (listed.setIfInBounds i true) r
def lexL (md:Region.Mode) (ops:Array Oper):List Nat→Array Bool→Bool
 |[],_=>true
 |i::r,listed=>(Region.ready md ops listed).contains i&&Region.free md ops listed i&&lexL md ops r (listed.setIfInBounds i true)
def opsAt (ops:List Oper):List Nat→List Oper
 |[]=>[]
 |i::r=>match ops[i]? with
  |some o=>o::opsAt ops r
  |none=>[]
def noDefer (ops:Array Oper):Bool:=ops.all fun o=>match o.op with | .defer _=>false|_=>true
theorem noDefer_spec {ops:Array Oper} (h:noDefer ops=true) (j:Nat) (o:Oper) (ho:ops[j]?=some o) (c:Call):o.op≠.defer c:=by
 intro heq
 have:=Array.all_eq_true_iff_forall_mem.1 h o (Array.mem_of_getElem? ho)
 simp[heq]at this
theorem op_put' {ro:Option Nat} {P:Program} {ops:Array Oper} {Q:Exit→Act→World→Prop} {j:Nat} {oi oj:Oper} {v:Value} (hj:ops[j]?=some oj) (hap:oi.apart ops oj=true)
 (hsi:∀cs b,oi.op≠.select cs b) (hsj:∀cs b,oj.op≠.select cs b) (hdj:∀c,oj.op≠.defer c)
 (hQ:∀c a w,Q (.panic c) (a.put oi.dst v) w→Q (.panic c) a w) {K:Act→World→Prop} {a:Act} {w:World}
 (hy:YW P ops oi v a) (h:wpOpIn (FR ro) 0 P ops Q j K (a.put oi.dst v) w) :
 wpOpIn (FR ro) 0 P ops Q j (fun a' w'=>YW P ops oi v a'∧K (a'.put oi.dst v) w') a w:=by
 obtain⟨h1,h2,h3⟩:=Oper.apart_spec hap
 have keep:∀(a:Act),YW P ops oi v a→∀u,YW P ops oi v (a.put oj.dst u):=fun a hy u=>
  hy.of_same (execOp_put oi hsi a oj.dst u h3) (wanted_put oi a oj.dst u h3)
 unfold wpOpIn at *
 simp only[hj]at *
 rw[wanted_put oj a oi.dst v h1]at h
 split
 ·rename_i hw
  rw[if_pos hw]at h
  refine⟨fun _ _=>trivial,?_⟩
  have h:=h.2
  rw[semAt_eq _ _ _ hdj,execOp_put oj hsj a oi.dst v h1]at h
  rw[semAt_eq _ _ _ hdj]
  generalize (execOp a.eval oj).run P w=r at *
  cases r with
  |ok x w'=>
   cases x<;>simp only[Oper.uponIn]at h ⊢
   case value u=>exact⟨keep a hy u,by rw[←Act.put_comm a v u h2];exact h⟩
   case skip=>exact⟨keep a hy _,by rw[←Act.put_comm a v undef h2];exact h⟩
   case defer d=>
    refine⟨keep {a with defers:=d::a.defers} (hy.of_same O O) _,?_⟩
    rw[←Act.put_comm _ v undef h2,←Act.put_defers]
    exact h
   case enter f args=>
    refine⟨h.1,CallsIn.mono h.2 fun e w'' he=>?_⟩
    cases e with
    |returned u=>exact⟨keep a hy u,by rw[←Act.put_comm a v u h2];exact he⟩
    |panicked c=>exact hQ _ _ _ he
    |outgrown=>exact he
   case row row args=>exact⟨h.1,RowsIn.mono h.2 fun u w'' he=>⟨keep a hy u,by rw[←Act.put_comm a v u h2];exact he⟩⟩
   case round l f tmps assign body=>
    refine⟨h.1,RoundIn.mono h.2 fun e w'' he=>?_⟩
    cases e with
    |returned u=>exact⟨keep a hy u,by rw[←Act.put_comm a v u h2];exact he⟩
    |panicked c=>exact hQ _ _ _ he
    |outgrown=>exact he
  |halt x w'=>
   cases x<;>simp only[Oper.uponIn]at h ⊢
   case panic u=>exact hQ _ _ _ h
 rename_i hw
 rw[if_neg hw]at h
 exact⟨fun _ _=>trivial,keep a hy _,by rw[←Act.put_comm a v undef h2];exact h.2⟩
theorem wpOpIn_post {ro:Option Nat} {P:Program} {ops:Array Oper} {Q Q':Exit→Act→World→Prop} {K K':Act→World→Prop} (h:∀e a w,e≠.normal→Q e a w→Q' e a w) (hK:∀a w,K a w→K' a w)
 {i:Nat} {a:Act} {w:World} (hh:wpOpIn (FR ro) 0 P ops Q i K a w):wpOpIn (FR ro) 0 P ops Q' i K' a w:=by
 unfold wpOpIn at hh ⊢
 split
 rename_i ho;simp only[ho]at hh;exact hK _ _ hh
 rename_i o ho
 simp only[ho]at hh
 split
 rename_i hw
 rw[if_pos hw]at hh
 obtain⟨h1,h2⟩:=hh
 refine⟨h1,?_⟩
 generalize (o.semAt (FR ro).round a.eval).run P w=res at h2 ⊢
 have hlet:LetsOut Q→LetsOut Q':=fun⟨a,w,hq⟩=>⟨a,w,h _ _ _ (by simp) hq⟩
 cases res with
 |ok nx w'=>
  cases nx<;>simp only[Oper.uponIn]at h2 ⊢<;>first
   |exact hK _ _ h2
   |exact⟨h2.1,CallsIn.mono h2.2 (fun e w'' he=>by cases e<;>first|exact hK _ _ he|exact h _ _ _ (by simp) he|exact hlet he)⟩
   |exact⟨h2.1,RowsIn.mono h2.2 (fun _ _ he=>hK _ _ he)⟩
   |exact⟨h2.1,RoundIn.mono h2.2 (fun e w'' he=>by cases e<;>first|exact hK _ _ he|exact h _ _ _ (by simp) he|exact hlet he)⟩
   |exact h2
 |halt x w'=>cases x<;>simp only[Oper.uponIn]at h2 ⊢<;>first|exact h _ _ _ (by simp) h2|exact h2
 rename_i hw
 rw[if_neg hw]at hh
 exact⟨hh.1,hK _ _ hh.2⟩
theorem wpAnyIn_post {ro:Option Nat} {P:Program} {md:Region.Mode} {ops:Array Oper} {Q Q':Exit→Act→World→Prop} (h:∀e a w,Q e a w→Q' e a w) :
 ∀ {fuel:Nat} {listed:Array Bool} {a:Act} {w:World},wpAnyIn (FR ro) 0 P md ops Q fuel listed a w→wpAnyIn (FR ro) 0 P md ops Q' fuel listed a w
 |0,_,_,_,hh=>⟨hh.1,h _ _ _ hh.2⟩
 |_+1,_,_,_,hh=>⟨fun h0=>h _ _ _ (hh.1 h0),fun i hi=>wpOpIn_post (fun e a w _=>h e a w) (fun _ _ hk=>wpAnyIn_post h hk) (hh.2 i hi)⟩
theorem wpAny_ahead {ro:Option Nat} {P:Program} {md:Region.Mode} {ops:Array Oper} {Q:Exit→Act→World→Prop} {i:Nat} {oi:Oper} {v:Value} (hi:ops[i]?=some oi)
 (hsel:∀(j:Nat) (o:Oper) cs b,ops[j]?=some o→o.op≠.select cs b) (hdef:∀(j:Nat) (o:Oper),ops[j]?=some o→∀c,o.op≠.defer c)
 (hQ:∀c a w,Q (.panic c) (a.put oi.dst v) w→Q (.panic c) a w) :
 ∀(fuel:Nat) (listed:Array Bool) (a:Act) (w:World),
  (∀j oj,ops[j]?=some oj→j≠i→listed.getD j true=false→(∀e∈oj.after,Region.binds md e=true→e.on≠i)→oi.apart ops oj=true) →
  i∈Region.ready md ops listed→YW P ops oi v a →
  wpAnyIn (FR ro) 0 P md ops Q fuel (listed.setIfInBounds i true) (a.put oi.dst v) w→wpAnyIn (FR ro) 0 P md ops Q (fuel+1) listed a w:=by
 intro fuel
 induction fuel with
 |zero=>
  intro listed a w _ hr hy H
  refine⟨fun h=>(by rw[h]at hr;cases hr),fun j hj=>?_⟩
  by_cases hji:j=i
  subst hji;exact hy.op hi H
  have:=ready_mono hj hji
  rw[H.1]at this
  cases this
 |succ fuel ih=>
  intro listed a w hfree hr hy H
  refine⟨fun h=>(by rw[h]at hr;cases hr),fun j hj=>?_⟩
  by_cases hji:j=i
  subst hji;exact hy.op hi H
  have h1:=H.2 j (ready_mono hj hji)
  obtain⟨hjun,oj,hoj,hall⟩:=mem_ready.1 hj
  have hnot:∀e∈oj.after,Region.binds md e=true→e.on≠i:=fun e he hb heq=>by
   have h1:=hall e he hb
   have h0:=(mem_ready.1 hr).1
   rw[heq]at h1
   rcases Nat.lt_or_ge i listed.size with h'|h'
   simp[h']at h0 h1;rw[h0]at h1;cases h1
   simp[Array.getElem?_eq_none h']at h1
  have h2:=op_put' hoj (hfree j oj hoj hji hjun hnot) (fun cs b=>hsel i oi cs b hi) (fun cs b=>hsel j oj cs b hoj) (hdef j oj hoj) hQ hy h1
  have hfree':∀k ok,ops[k]?=some ok→k≠i→(listed.setIfInBounds j true).getD k true=false →
   (∀e∈ok.after,Region.binds md e=true→e.on≠i)→oi.apart ops ok=true:=fun k ok hk hki hun hno=>by
   refine hfree k ok hk hki ?_ hno
   by_cases hjk:j=k
   subst hjk;exact hjun
   rw[getD_set_ne true hjk]at hun;exact hun
  refine wpOpIn_mono (fun a' w' h3=>ih (listed.setIfInBounds j true) a' w' hfree' (ready_mono hr (Ne.symm hji)) h3.1 ?_) h2
  rw[Array.setIfInBounds_comm _ _ hji]
  exact h3.2
def XA (C:Cx) (ops:Array Oper) (fuel:Nat) (listed:Array Bool) (Q:Bb) (st:St) (u:Im):Prop:=
 ∀E a w,Ok C E st u a w→wpAnyIn (FR C.ro) 0 C.P .any ops (Cd C E st.nx u Q) fuel listed a w
theorem Bw {C:Cx} {id:Nat} {ops:Array Oper} {Q:Bb} {st:St} {u:Im} (hm:C.P.follows .mixedOrders=true)
 (h:XA C ops ops.size (Array.replicate ops.size false) Q st u):X C (.region id ops true) Q st u:=by
 unfold X
 intro E a w hok
 obtain⟨f,hsat⟩:=hok.sat
 exact wpIn_region_any hm (h E a _ ⟨hok.agr,f,hsat.drawn⟩)
theorem Aj {C:Cx} {ops:Array Oper} {fuel:Nat} {listed:Array Bool} {Q:Bb} {st:St} {u:Im} (hr:Region.ready .any ops listed=[])
 (hg:gkOk st.kn st.gk=true) (h:Q .normal st.shut u):XA C ops fuel listed Q st u:=by
 intro E a w hok
 exact wpAnyIn_done hr ⟨E,st.shut,u,fun _ _=>rfl,Nat.le_refl _,Im.le.refl u,⟨hok.agr.shut hg,hok.sat⟩,h⟩ fuel
theorem Ad {C:Cx} {all:List Oper} {Q:Bb} {st:St} {u:Im} (h:Q .normal st u):XL C all [] Q st u:=by
 unfold XL
 intro E a w hok
 exact⟨E,st,u,fun _ _=>rfl,Nat.le_refl _,Im.le.refl u,hok,h⟩
theorem Ag {C:Cx} {ops:Array Oper} {fuel:Nat} {listed:Array Bool} {Q:Bb} {st:St} {u:Im} (i:Nat) {o:Oper} (hr:Region.ready .any ops listed=[i])
 (ho:ops.toList[i]?=some o) (h:XL C ops.toList [o] (thn (XA C ops fuel (listed.setIfInBounds i true) Q) Q) st u):XA C ops (fuel+1) listed Q st u:=by
 intro E a w hok
 refine wpAnyIn_all hr (by simp) fun j hj=>?_
 have:j=i:=by simpa using hj
 subst this
 unfold XL at h
 have h1:=h E a w hok
 have ho':ops[j]?=some o:=by simpa using ho
 have key:wpOpIn (FR C.ro) 0 C.P ops (Cd C E st.nx u (thn (XA C ops fuel (listed.setIfInBounds j true) Q) Q)) j
  (fun a' w'=>Cd C E st.nx u (thn (XA C ops fuel (listed.setIfInBounds j true) Q) Q) .normal a' w') a w:=by
  unfold wpOpIn
  simp only[ho']
  unfold wpListIn at h1
  simp only[wpListIn]at h1
  exact h1
 refine wpOpIn_post ?_ ?_ key
 rintro e a' w' hne ⟨E',st',u',h2,h3,h4,h5,h6⟩
 cases e with
 |normal=>exact absurd rfl hne
 |exit id=>exact⟨E',st',u',h2,h3,h4,h5,h6⟩
 |goto l=>exact⟨E',st',u',h2,h3,h4,h5,h6⟩
 |ret=>exact⟨E',st',u',h2,h3,h4,h5,h6⟩
 |panic c=>exact⟨E',st',u',h2,h3,h4,h5,h6⟩
 |outgrown=>exact⟨E',st',u',h2,h3,h4,h5,h6⟩
 rintro a' w' ⟨E',st',u',h2,h3,h4,h5,h6⟩
 exact wpAnyIn_post (fun e a w=>Cd.mono h2 h3 h4) (h6 E' a' w' h5)
theorem xa_pure {C:Cx} {T:TT} (hT:TOk C.P T) {ops:Array Oper} {fuel:Nat} {listed:Array Bool} {Q:Bb} {st:St} {u:Im} {i d:Nat} {o:Oper} {g:Gd} {s:SV} {side:List Prop}
 (hsel:Region.noSelect ops=true) (hdf:noDefer ops=true) (hQ:∀c st u,Q (.panic c) st u→False) (ho:ops.toList[i]?=some o)
 (hr:(Region.ready .any ops listed).contains i=true) (hf:Region.free .any ops listed i=true) (hp:pureOp o.op=true)
 (hg:Bp ops.toList st o=some g) (he:eff T st g o.op=.val s side) (hd:o.dst=some d) (hfr:Bg C.N st d g=true)
 (hside:(∀p∈gprops st g,p)→allP side)
 (K:XA C ops fuel (listed.setIfInBounds i true) Q (st.put d g s) u):XA C ops (fuel+1) listed Q st u:=by
 intro E a w hok
 have ho':ops[i]?=some o:=by simpa using ho
 have how:(st.put d g s).ow=st.ow:=by cases g<;>rfl
 have hnx:(st.put d g s).nx=st.nx:=by cases g<;>rfl
 have hgd:=guard_sound (all:=ops) hok.agr hg
 have hrun:gs a.tmps g→∀w,(execOp a.eval o).run C.P w=.ok (.value (s.den E)) w∧s.lt E st.nx:=fun hgs w=>
  eff_pure (C:=C) hT (fun x z h=>Al hok.agr hgs h) hp he (hside (gprops_sound hok.agr hgs (fun _ _ _=>trivial))) w
 have hpan:∀x c a w,Cd C E st.nx u Q (.panic c) (Act.put a o.dst x) w→Cd C E st.nx u Q (.panic c) a w:=fun x c a w ⟨_,st',u',_,_,_,_,h5⟩=>(hQ _ _ _ h5).elim
 have go:∀x,(gs a.tmps g→x=s.den E)→(¬gs a.tmps g→x=undef)→YW C.P ops o x a→wpAnyIn (FR C.ro) 0 C.P .any ops (Cd C E st.nx u Q) (fuel+1) listed a w:=by
  intro x hx hnx' hy
  have hput:Agr C.N E (st.put d g s) (a.tmps.setIfInBounds d x):=
   hok.agr.put hfr (fun hgs=>(hrun hgs w).2) hx hnx' (fun hn=>by subst hn;exact hx (fun y hy=>by cases hy))
  refine wpAny_ahead ho' (Region.noSelect_spec hsel) (noDefer_spec hdf) (hpan x) fuel listed a w (Region.free_spec ho' hf) (by simpa using hr) hy ?_
  have:=K E (a.put o.dst x) w ⟨by rw[hd];exact hput,by rw[how,hnx,hd];exact hok.sat⟩
  rwa [hnx]at this
 by_cases hw:Region.wanted o (yielded ops a.tmps)=true
 have hgs:=hgd.1 hw
 exact go _ (fun _=>rfl) (fun hn=>absurd hgs hn) (.inl ⟨hw,notDefer_of_val he,fun w=>(hrun hgs w).1⟩)
 have hgs:=hgd.2 (by simpa using hw)
 exact go undef (fun hy=>absurd hy hgs) (fun _=>rfl) (.inr ⟨by simpa using hw,rfl⟩)
def xap (T:TT) (N:Nat) (all:List Oper) (K:St→Prop):List Oper→St→Prop
 |[],st=>K st
 |o::r,st=>match pureOp o.op with
  |false=>False
  |true=>match Bp all st o with
   |none=>False
   |some g=>match eff T st g o.op with
    |.val s side=>match o.dst with
     |some d=>match Bg N st d g with
      |true=>sides (gprops st g) side (st.putK d g s (xap T N all K r))
      |false=>False
     |none=>False
    |.stuck=>False
def hasAll (ops:List Oper):List Nat→Bool
 |[]=>true
 |i::r=>ops[i]?.isSome&&hasAll ops r
theorem xa_pures0 {T:TT} {C:Cx} (hT:TOk C.P T) {ops:Array Oper} {Q:Bb} {u:Im} (hsel:Region.noSelect ops=true) (hdf:noDefer ops=true)
 (hQ:∀c st u,Q (.panic c) st u→False) {fuel:Nat}:∀(l:List Nat) (listed:Array Bool) (st:St),hasAll ops.toList l=true→lexL .any ops l listed=true →
  xap T C.N ops.toList (fun st=>XA C ops fuel (marks listed l) Q st u) (opsAt ops.toList l) st→XA C ops (fuel+l.length) listed Q st u
 |[],_,_,_,_,h=>h
 |i::l,listed,st,ha,hl,h=>by
  simp only[hasAll,Bool.and_eq_true]at ha
  simp only[lexL,Bool.and_eq_true]at hl
  obtain⟨o,ho⟩:=Option.isSome_iff_exists.1 ha.1
  simp only[opsAt,ho]at h
  unfold xap at h
  split at h
  exact h.elim
  rename_i hp
  split at h
  exact h.elim
  rename_i g hg
  split at h
  rename_i s side he
  split at h
  rename_i d hd
  split at h
  rename_i hf
  rw[St.putK_eq]at h
  have h1:=sides_split h
  exact xa_pure hT hsel hdf hQ ho hl.1.1 hl.1.2 hp hg he hd hf h1.2 (xa_pures0 hT hsel hdf hQ l _ _ ha.2 hl.2 h1.1)
  exact h.elim
  exact h.elim
  exact h.elim
theorem xa_pures {T:TT} {C:Cx} (hT:TOk C.P T) {ops:Array Oper} {Q:Bb} {st:St} {u:Im} {fuel n:Nat} {listed:Array Bool} (l:List Nat) (hn:n=fuel+l.length)
 (hsel:Region.noSelect ops=true) (hdf:noDefer ops=true) (hQ:∀c st u,Q (.panic c) st u→False) (ha:hasAll ops.toList l=true) (hl:lexL .any ops l listed=true)
 (h:st.force fun st=>xap T C.N ops.toList (fun st=>XA C ops fuel (marks listed l) Q st u) (opsAt ops.toList l) st):XA C ops n listed Q st u:=by
 subst hn
 rw[St.force_eq]at h
 exact xa_pures0 hT hsel hdf hQ l listed st ha hl h
theorem anyP_lex {ro:Option Nat} {P:Program} {ops:Array Oper} {Inv:World→Prop} {md:Region.Mode} {Q:Act→Prop} {target:Array Bool} (hs:Region.noSelect ops=true) :
 ∀(l:List Nat) (listed:Array Bool) (a:Act),hasAll ops.toList l=true→lexL md ops l listed=true→phaseB md ops target l.length listed=true →
  stillI ro P ops Inv Q (opsAt ops.toList l) a→anyP ro P md ops Inv Q l.length listed a
 |[],_,_,_,_,_,h=>h
 |i::l,listed,a,ha,hl,hb,h=>by
  simp only[hasAll,Bool.and_eq_true]at ha
  simp only[lexL,Bool.and_eq_true]at hl
  obtain⟨o,ho⟩:=Option.isSome_iff_exists.1 ha.1
  simp only[opsAt,ho]at h
  obtain⟨v,hy,hK⟩:=h
  have ho':ops[i]?=some o:=by simpa using ho
  have hr:i∈Region.ready md ops listed:=by simpa using hl.1.1
  have hb2:phaseB md ops target l.length (listed.setIfInBounds i true)=true:=by
   have hb1:=hb
   simp only[List.length_cons,phaseB,Bool.and_eq_true,List.all_eq_true]at hb1
   exact hb1.2 i hr
  exact anyP_first ho' (Region.noSelect_spec hs) l.length listed a (Region.free_spec ho' hl.1.2) hr hb hy
   (anyP_lex hs l _ _ ha.2 hl.2 hb2 hK)
theorem xa_phase {T:TT} {C:Cx} (hT:TOk C.P T) {ops:Array Oper} {Q:Bb} {st:St} {u:Im} {fuel n:Nat} {listed:Array Bool} (l:List Nat) (hn:n=l.length+fuel)
 (hsel:Region.noSelect ops=true) (ha:hasAll ops.toList l=true) (hl:lexL .any ops l listed=true) (hb:phaseB .any ops (marks listed l) l.length listed=true)
 (h:XD C ops.toList (opsAt ops.toList l) (fun st=>XA C ops fuel (marks listed l) Q st u) st u):XA C ops n listed Q st u:=by
 subst hn
 intro E a w hok
 obtain⟨f,hsat⟩:=hok.sat
 unfold XD at h
 have h1:=h E a w hok
 simp only[Array.toArray_toList]at h1
 refine wpAny_of_anyP (Inv:=fun w=>∃f,Sat E st.ow st.nx u a.defers w f) (target:=marks listed l) ?_ l.length listed a w ⟨f,hsat⟩ hb (anyP_lex hsel l listed a ha hl hb h1)
 rintro a' w' ⟨h2,st',h3,h4,h5,h6⟩ hi
 have:=h6 E a' w' ⟨h5,by rw[h3,h4,h2];exact hi⟩
 rwa [h4]at this
theorem xl_freezeN {C:Cx} {all l:List Oper} {Q:Bb} {kn:Kn} {gk:List (Nat×(Gd×SV))} {ow:Own} {nx:Nat} {u:Im} (k:Nat) {e:TypeId} {D:Data} (hk:look ow k=some (.row e D))
 (K:∀A c u',u.le u'→Aw u' (.slice A D.n c) D→(∀ad,A=some ad→u.h ad.block=none)→XL C all l Q ⟨frz k (.slice A D.n c) kn,gk,(k,.emp)::ow,nx⟩ u'):XL C all l Q ⟨kn,gk,ow,nx⟩ u:=by
 unfold XL at K ⊢
 intro E a w hok
 obtain⟨f,hsat⟩:=hok.sat
 obtain⟨u',hu,hsl,hsat'⟩:=hsat.freeze hk
 obtain⟨A,c,hv⟩:=hsl.form
 have hoff:∀ad,A=some ad→u.h ad.block=none:=fun ad had=>
  hsat.off k _ (((hsat.holds k _ hk).2 _).2 (by rw[hv,had];rfl))
 have:=K A c u' hu (hv▸hsl) hoff E a w ⟨hok.agr.frz hv,_,hsat'⟩
 exact Av (fun e a w=>Cd.mono (fun _ _=>rfl) (Nat.le_refl _) hu) _ _ _ this
theorem add_block (a:Addr) (n:Nat):(a.add n).block=a.block:=by
 unfold Addr.add;split<;>rfl
theorem Aw.cutOf {u:Im} {A:Option Addr} {n c lo:Nat} {D:Data} (h:Aw u (.slice A n c) D) (hA:∀ad,A=some ad→lo≤ad.block):Aw (cut lo u) (.slice A n c) D:=by
 obtain⟨A',c',h1,h2,h3,h4⟩:=h
 cases h1
 refine⟨A,c,rfl,h2,h3,fun hn=>?_⟩
 obtain⟨ad,h5,h6⟩:=h4 hn
 refine⟨ad,h5,fun i hi j f hf=>?_⟩
 have:=h6 i hi j f hf
 unfold Im.cell? at this ⊢
 have hb:=add_block ad (i*D.cs.length+j)
 simp only[cut]
 rw[if_neg (by rw[hb];have:=hA ad h5;omega)]
 exact this
theorem Aw.newer {u u':Im} {w0:World} {A:Option Addr} {n c:Nat} {D:Data} (h:Aw u' (.slice A n c) D) (hA:∀ad,A=some ad→u.h ad.block=none) (hu:(im w0).le u) :
 Aw (cut w0.heap.size u') (.slice A n c) D:=h.cutOf fun ad had=>by
 rcases Nat.lt_or_ge ad.block w0.heap.size with hlt|hge
 have h1:=hu.h ad.block _ (Array.getElem?_eq_getElem hlt)
 rw[hA ad had]at h1;cases h1
 exact hge
theorem Aw.keep {u u':Im} {lo:Nat} {v:Value} {D:Data} (h:Aw (cut lo u) v D) (hu:u.le u'):Aw (cut lo u') v D:=h.sub (hu.cut lo)
theorem Aw.le {u u':Im} {v:Value} {D:Data} (h:Aw u v D) (hu:u.le u'):Aw u' v D:=h.sub hu.sub
theorem Imm.cutLe {u:Im} {w:World} (h:Imm u w) (lo:Nat):(cut lo u).sub (cut lo (im w)):=⟨fun b o hb=>by
 simp only[cut]at hb ⊢
 split at hb
 cases hb
 rename_i hn;rw[if_neg hn];exact h.h b o hb⟩
theorem Be {b:Bool} {p q:Prop} (h:b=true) (hp:p):Ways b p q:=Ap (fun _=>hp) (fun h'=>by rw[h]at h';cases h')
theorem x_iff {b:Bool} {p q:Prop} (h:b=false) (hq:q):Ways b p q:=Ap (fun h'=>by rw[h]at h';cases h') (fun _=>hq)
section openingZ
variable {H:Type} {enc:TypeId×Value→H} {P:Program} {w:World}
end openingZ
theorem xl_valE {C:Cx} {all:List Oper} {o:Oper} {r:List Oper} {Q:Bb} {kn:Kn} {gk:List (Nat×(Gd×SV))} {ow:Own} {nx:Nat} {u:Im} (R:Value→Prop) {d:Nat}
 (hgd:o.guard=none) (hd:o.dst=some d) (hnd:∀c,o.op≠.defer c) (hfr:Bg C.N ⟨kn,gk,ow,nx⟩ d []=true)
 (H:∀E a w,Ok C E ⟨kn,gk,ow,nx⟩ u a w→∃v,(execOp a.eval o).run C.P w=.ok (.value v) w∧R v)
 (K:∀v,R v→XL C all r Q ⟨(d,.v v)::kn,gk,ow,nx⟩ u):XL C all (o::r) Q ⟨kn,gk,ow,nx⟩ u:=by
 unfold XL at K ⊢
 intro E a w hok
 obtain⟨v,hrun,hR⟩:=H E a w hok
 refine xl_wp hgd hnd hrun ?_
 rw[hd]
 have hput:Agr C.N E (St.put ⟨kn,gk,ow,nx⟩ d [] (.v v)) (a.tmps.setIfInBounds d v):=
  hok.agr.put (g:=[]) hfr (fun _=>trivial) (fun _=>rfl) (fun hn=>absurd (fun x hx=>(by cases hx)) hn) (fun _=>rfl)
 exact K v hR E (a.put (some d) v) w ⟨⟨hput.size,hput.kn,hput.gk,hput.klt,hput.glt⟩,hok.sat⟩
theorem xl_val {C:Cx} {all:List Oper} {o:Oper} {r:List Oper} {Q:Bb} {kn:Kn} {gk:List (Nat×(Gd×SV))} {ow:Own} {nx:Nat} {u:Im} (v:Value) {d:Nat}
 (hgd:o.guard=none) (hd:o.dst=some d) (hnd:∀c,o.op≠.defer c) (hfr:Bg C.N ⟨kn,gk,ow,nx⟩ d []=true)
 (H:∀E a w,Ok C E ⟨kn,gk,ow,nx⟩ u a w→(execOp a.eval o).run C.P w=.ok (.value v) w)
 (K:XL C all r Q ⟨(d,.v v)::kn,gk,ow,nx⟩ u):XL C all (o::r) Q ⟨kn,gk,ow,nx⟩ u:=
 xl_valE (fun x=>x=v) hgd hd hnd hfr (fun E a w hok=>⟨v,H E a w hok,rfl⟩) (fun x hx=>by subst hx;exact K)
theorem xl_min {C:Cx} {all:List Oper} {o:Oper} {r:List Oper} {Q:Bb} {kn:Kn} {gk:List (Nat×(Gd×SV))} {ow:Own} {nx:Nat} {u:Im} {d:Nat} {x y:Operand} {ts:Array TypeId} {k k':IntKind} {m n:Int}
 (ho:o.op=.call {callee:=.builtin .min,args:=#[x,y],argTypes:=ts}) (hgd:o.guard=none) (hd:o.dst=some d) (hfr:Bg C.N ⟨kn,gk,ow,nx⟩ d []=true)
 (hx:opd ⟨kn,gk,ow,nx⟩ [] x=some (.v (.int k m))) (hy:opd ⟨kn,gk,ow,nx⟩ [] y=some (.v (.int k' n)))
 (K:XL C all r Q ⟨(d,.v (.int k (if n<m then n else m)))::kn,gk,ow,nx⟩ u):XL C all (o::r) Q ⟨kn,gk,ow,nx⟩ u:=by
 refine xl_val _ hgd hd (fun c hc=>by rw[ho]at hc;cases hc) hfr (fun E a w hok=>?_) K
 have hgs:gs a.tmps []:=fun x hx=>by cases hx
 obtain⟨e1,_⟩:=Al hok.agr hgs hx
 obtain⟨e2,_⟩:=Al hok.agr hgs hy
 simp only[SV.den]at e1 e2
 have hm:=run_min_int2 (P:=C.P) (w:=w) ts o.type k k' m n
 simp only[execOp,ho,resolve]
 simp[invoke,builtin,e1,e2,hm]
theorem xl_eqnil {T:TT} {C:Cx} (hT:TOk C.P T) {all:List Oper} {o:Oper} {r:List Oper} {Q:Bb} {kn:Kn} {gk:List (Nat×(Gd×SV))} {ow:Own} {nx:Nat} {u:Im} {d t t' e:Nat} {x:Operand} {ti:TI} {z:SV} {D:Data}
 (ho:o.op=.binOp .eql t x (.const (.slice none 0 0)) t') (hgd:o.guard=none) (hd:o.dst=some d) (hfr:Bg C.N ⟨kn,gk,ow,nx⟩ d []=true)
 (hti:look T t=some ti) (hsh:ti.shp=.slice e) (hx:opd ⟨kn,gk,ow,nx⟩ [] x=some z) (hz:∀E w F,Sat E ow nx u [] w F→Aw (im w) (z.den E) D)
 (K:∀b,(b=true→D.n=0)→XL C all r Q ⟨(d,.v (.bool b))::kn,gk,ow,nx⟩ u):XL C all (o::r) Q ⟨kn,gk,ow,nx⟩ u:=by
 refine xl_valE (fun v=>∃b:Bool,v=.bool b∧(b=true→D.n=0)) hgd hd (fun c hc=>by rw[ho]at hc;cases hc) hfr (fun E a w hok=>?_) (fun v hv=>by
  obtain⟨b,rfl,hb⟩:=hv
  exact K b hb)
 have hgs:gs a.tmps []:=fun x hx=>by cases hx
 obtain⟨f,hsat⟩:=hok.sat
 obtain⟨e1,_⟩:=Al hok.agr hgs hx
 obtain⟨A,c,h1,h2,h3,h4⟩:=hz E w f hsat.unmarked
 have hu:=(hT _ _ hti).isSlice hsh
 refine⟨.bool A.isNone,?_,_,rfl,fun hb=>?_⟩
 have hm:=Lib.run_eql_slice_nil (P:=C.P) w t e A D.n c 0 0 hu
 simp only[execOp,ho]
 rw[e1,h1]
 have e2:a.eval (.const (.slice none 0 0))=.slice none 0 0:=rfl
 rw[e2]
 simp[eqGuard,hm]
 cases A with
 |none=>
  rcases Nat.eq_zero_or_pos D.n with h0|h0
  exact h0
  obtain⟨ad,h5,_⟩:=h4 h0
  cases h5
 |some ad=>cases hb
theorem Aw.drop {α:Type} {Y:Lay α} {L:List α} {v0:Im} {A:Option Addr} {n c l:Nat} (h:Aw v0 (.slice A n c) (Y.d L)) (hl:l≤L.length) :
 Aw v0 (sliced A l n c Y.fs.length) (Y.d (L.drop l)):=by
 obtain⟨A',c',h1,h2,h3,h4⟩:=h
 cases h1
 rw[Lay.d_n]at h2
 refine⟨if c=l then A else A.map (·.add (l*Y.fs.length)),c-l,by simp only[sliced,Lay.d_n,List.length_drop],by rw[Lay.d_n,List.length_drop];omega,by omega,fun hn=>?_⟩
 rw[Lay.d_n,List.length_drop]at hn
 obtain⟨ad,h5,h6⟩:=h4 (by rw[Lay.d_n];omega)
 subst h5
 rw[if_neg (by omega)]
 refine⟨ad.add (l*Y.fs.length),rfl,fun i hi j f hf=>?_⟩
 rw[Lay.d_n,List.length_drop]at hi
 simp only[Lay.d,List.getElem?_map]at hf
 cases hfj:Y.fs[j]? with
 |none=>rw[hfj]at hf;cases hf
 |some g=>
  rw[hfj]at hf
  simp only[Option.map_some,Option.some.injEq]at hf
  subst hf
  have:=h6 (l+i) (by rw[Lay.d_n];omega) j (fun i=>g (L.getD i.toNat Y.dft)) (by simp[Lay.d,hfj])
  rw[Lay.cs_length]at this
  rw[Lay.cs_length,Go.GV.add_add']
  have e:l*Y.fs.length+(i*Y.fs.length+j)=(l+i) * Y.fs.length+j:=by rw[Nat.add_mul];omega
  rw[e,this]
  simp only[Int.toNat_natCast,List.getD_eq_getElem?_getD,List.getElem?_drop]
theorem Aw.take {α:Type} {Y:Lay α} {L:List α} {v0:Im} {A:Option Addr} {n c h:Nat} (hs:Aw v0 (.slice A n c) (Y.d L)) (hh:h≤L.length):Aw v0 (.slice A h c) (Y.d (L.take h)):=by
 obtain⟨A',c',h1,h2,h3,h4⟩:=hs
 cases h1
 rw[Lay.d_n]at h2
 have hl:(L.take h).length=h:=by rw[List.length_take];omega
 refine⟨A,c,by rw[Lay.d_n,hl],by rw[Lay.d_n,hl];omega,h3,fun hn=>?_⟩
 rw[Lay.d_n,hl]at hn
 obtain⟨ad,h5,h6⟩:=h4 (by rw[Lay.d_n];omega)
 refine⟨ad,h5,fun i hi j f hf=>?_⟩
 rw[Lay.d_n,hl]at hi
 simp only[Lay.d,List.getElem?_map]at hf
 cases hfj:Y.fs[j]? with
 |none=>rw[hfj]at hf;cases hf
 |some g=>
  rw[hfj]at hf
  simp only[Option.map_some,Option.some.injEq]at hf
  subst hf
  have:=h6 i (by rw[Lay.d_n];omega) j (fun i=>g (L.getD i.toNat Y.dft)) (by simp[Lay.d,hfj])
  rw[Lay.cs_length]at this ⊢
  rw[this]
  simp[List.getD_eq_getElem?_getD,List.getElem?_take,hi]
theorem xl_from {α:Type} {T:TT} {C:Cx} (hT:TOk C.P T) {all:List Oper} {o:Oper} {r:List Oper} {Q:Bb} {kn:Kn} {gk:List (Nat×(Gd×SV))} {ow:Own} {nx:Nat} {u:Im}
 (Y:Lay α) (L:List α) {t e d:Nat} {sv lv:Operand} {ti te:TI} {kl:IntKind} {l:Int} {z:SV} {v0:Im} (ho:o.op=.slice t sv (some lv) none none) (hgd:o.guard=none) (hd:o.dst=some d)
 (hti:look T t=some ti) (hsh:ti.shp=.slice e) (hte:look T e=some te) (hsz:te.sz=Y.fs.length)
 (hs:opd ⟨kn,gk,ow,nx⟩ [] sv=some z) (hll:opd ⟨kn,gk,ow,nx⟩ [] lv=some (.v (.int kl l))) (hf:Bg C.N ⟨kn,gk,ow,nx⟩ d []=true)
 (hz:∀E w F,Sat E ow nx u [] w F→Aw v0 (z.den E) (Y.d L)) (h0:0≤l) (h1:l≤L.length)
 (K:∀A c,Aw v0 (.slice A (L.length-l.toNat) c) (Y.d (L.drop l.toNat))→XL C all r Q ⟨(d,.v (.slice A (L.length-l.toNat) c))::kn,gk,ow,nx⟩ u):XL C all (o::r) Q ⟨kn,gk,ow,nx⟩ u:=by
 refine xl_valE (fun v=>∃A c,v=.slice A (L.length-l.toNat) c∧Aw v0 (.slice A (L.length-l.toNat) c) (Y.d (L.drop l.toNat))) hgd hd (fun c hc=>by rw[ho]at hc;cases hc) hf (fun E a w hok=>?_) (fun v hv=>by
  obtain⟨A,c,rfl,hb⟩:=hv
  exact K A c hb)
 have hgs:gs a.tmps []:=fun x hx=>by cases hx
 obtain⟨f,hsat⟩:=hok.sat
 have hu:=(hT _ _ hti).isSlice hsh
 have hel:C.P.elem t=e:=by simp[Program.elem,hu]
 have htek:=hT _ _ hte
 obtain⟨es,_⟩:=Al hok.agr hgs hs
 obtain⟨el,_⟩:=Al hok.agr hgs hll
 simp only[SV.den]at el
 have hsl:=hz E w f hsat.unmarked
 obtain⟨A,c,hv⟩:=hsl.form
 rw[Lay.d_n]at hv
 rw[hv]at hsl
 have hdr:=hsl.drop (l:=l.toNat) (by omega)
 refine⟨_,?_,_,_,rfl,hdr⟩
 have:=run_slice_l (P:=C.P) w t A L.length c (by rw[hel];exact hu) kl l h0 h1
 simp only[execOp,ho,Option.map_none,Option.map_some,es,hv,el]
 rw[Sem.run_bind,run_sliceAt_slice w t _ _ _ _ (by rw[hel];exact hu),this,hel,Ca w htek,hsz]
 simp[Result.andThen,sliced]
theorem xl_sl {C:Cx} {all l:List Oper} {Q:Bb} {kn:Kn} {ow:Own} {nx:Nat} {u:Im} (d:Nat) {x:Value} {D:Data} (hd:look kn d=some (.v x)) (hx:Aw u x D)
 (h:XL C all l Q ⟨(d,.r nx)::kn,[],(nx,.sl D)::ow,nx+1⟩ u):XL C all l Q ⟨kn,[],ow,nx⟩ u:=by
 unfold XL at h ⊢
 intro E a w hok
 obtain⟨f,hsat⟩:=hok.sat
 have hE:∀k,k<nx→upd E nx x k=E k:=fun k hk=>An _ _ (by omega)
 have hg:=hok.agr.grow (E':=upd E nx x) (ow:=(nx,.sl D)::ow) (nx:=nx+1) hE (Nat.le_succ _)
 have hsat':Sat (upd E nx x) ((nx,.sl D)::ow) (nx+1) u a.defers w (upd f nx (fun _=>False)):=by
  refine hsat.step (fun k=>k=nx) hE (Nat.le_succ _) (Im.le.refl u) hsat.imm (Nat.le_refl _) (fun b _ _=>rfl) ?_ ?_ ?_ (fun b o ho=>.inl ho)
  intro k hk
  exact⟨by rw[Ac,if_neg (fun e=>hk e.symm)],fun b=>by rw[An _ _ hk]⟩
  rintro k rfl
  refine⟨fun r hr=>?_,fun hr=>?_,fun b hb=>?_⟩
  rw[Ac,if_pos rfl]at hr
  cases hr
  refine⟨⟨by rw[Ak];exact hx,fun y hy=>by rw[Ak]at hy;exact hy⟩,Nat.lt_succ_self _,trivial⟩
  rw[Ac,if_pos rfl]at hr;cases hr
  rw[Ak]at hb;exact hb.elim
  intro k k' b hk hk' hne;subst hk hk';exact absurd rfl hne
 obtain⟨A,c,hv⟩:=hx.form
 have:=h (upd E nx x) a w ⟨⟨hg.size,fun t s h1 h2=>?_,fun t g s h1=>(by cases h1),fun t s h2=>?_,fun t g s h1=>(by cases h1)⟩,_,hsat'⟩
 exact Av (fun e a w=>Cd.mono hE (Nat.le_succ _) (Im.le.refl u)) _ _ _ this
 rw[Ac]at h2
 split at h2
 rename_i e1;subst e1;cases h2
 rw[hok.agr.kn _ _ rfl hd]
 simp only[SV.den,Ak]
 exact hg.kn t s h1 h2
 rw[Ac]at h2
 split at h2
 cases h2;exact⟨Nat.lt_succ_self _,A,D.n,c,by rw[Ak];exact hv⟩
 exact hg.klt t s h2
theorem x_sl {C:Cx} {cc:Code} {Q:Bb} {kn:Kn} {ow:Own} {nx:Nat} {u:Im} (d:Nat) {x:Value} {D:Data} (hd:look kn d=some (.v x)) (hx:Aw u x D)
 (h:X C cc Q ⟨(d,.r nx)::kn,[],(nx,.sl D)::ow,nx+1⟩ u):X C cc Q ⟨kn,[],ow,nx⟩ u:=by
 unfold X at h ⊢
 intro E a w hok
 obtain⟨f,hsat⟩:=hok.sat
 have hE:∀k,k<nx→upd E nx x k=E k:=fun k hk=>An _ _ (by omega)
 have hg:=hok.agr.grow (E':=upd E nx x) (ow:=(nx,.sl D)::ow) (nx:=nx+1) hE (Nat.le_succ _)
 have hsat':Sat (upd E nx x) ((nx,.sl D)::ow) (nx+1) u a.defers w (upd f nx (fun _=>False)):=by
  refine hsat.step (fun k=>k=nx) hE (Nat.le_succ _) (Im.le.refl u) hsat.imm (Nat.le_refl _) (fun b _ _=>rfl) ?_ ?_ ?_ (fun b o ho=>.inl ho)
  intro k hk
  exact⟨by rw[Ac,if_neg (fun e=>hk e.symm)],fun b=>by rw[An _ _ hk]⟩
  rintro k rfl
  refine⟨fun r hr=>?_,fun hr=>?_,fun b hb=>?_⟩
  rw[Ac,if_pos rfl]at hr
  cases hr
  refine⟨⟨by rw[Ak];exact hx,fun y hy=>by rw[Ak]at hy;exact hy⟩,Nat.lt_succ_self _,trivial⟩
  rw[Ac,if_pos rfl]at hr;cases hr
  rw[Ak]at hb;exact hb.elim
  intro k k' b hk hk' hne;subst hk hk';exact absurd rfl hne
 obtain⟨A,c,hv⟩:=hx.form
 have:=h (upd E nx x) a w ⟨⟨hg.size,fun t s h1 h2=>?_,fun t g s h1=>(by cases h1),fun t s h2=>?_,fun t g s h1=>(by cases h1)⟩,_,hsat'⟩
 exact Go.wpIn_mono this (fun e a w=>Cd.mono hE (Nat.le_succ _) (Im.le.refl u))
 rw[Ac]at h2
 split at h2
 rename_i e1;subst e1;cases h2
 rw[hok.agr.kn _ _ rfl hd]
 simp only[SV.den,Ak]
 exact hg.kn t s h1 h2
 rw[Ac]at h2
 split at h2
 cases h2;exact⟨Nat.lt_succ_self _,A,D.n,c,by rw[Ak];exact hv⟩
 exact hg.klt t s h2
def SV.mapK (m:Nat→Nat):SV→SV
 |.v x=>.v x
 |.p k off=>.p (m k) off
 |.r k=>.r (m k)
 |.e k sz i off=>.e (m k) sz i off
 |.clo f ks=>.clo f (ks.map m)
 |.tup l=>.tup (l.map fun x=>match x with
  |.inl y=>.inl y
  |.inr k=>.inr (m k))
def SV.inN (n:Nat):SV→Bool
 |.v _=>true
 |.p k _=>Nat.blt k n
 |.r k=>Nat.blt k n
 |.e k _ _ _=>Nat.blt k n
 |.clo _ ks=>ks.all fun k=>Nat.blt k n
 |.tup l=>l.all fun x=>match x with
  |.inl _=>true
  |.inr k=>Nat.blt k n
theorem SV.mapK_den (m:Nat→Nat) (E:Env) (s:SV):(s.mapK m).den E=s.den (fun k=>E (m k)):=by
 cases s with
 |v x=>rfl
 |p k off=>rfl
 |r k=>rfl
 |e k sz i off=>rfl
 |clo f ks=>
  simp only[mapK,den,List.map_map]
  rfl
 |tup l=>
  simp only[mapK,den,List.map_map]
  congr 2
  refine List.map_congr_left fun x _=>?_
  cases x<;>rfl
theorem SV.mapK_lt {m:Nat→Nat} {E E':Env} {n n':Nat} (hE:∀k,k<n→E' (m k)=E k) (hm:∀k,k<n→m k<n') {s:SV} (h:s.lt E n):(s.mapK m).lt E' n':=by
 cases s with
 |v x=>trivial
 |p k off=>exact⟨hm k h.1,by obtain⟨a,ha⟩:=h.2;exact⟨a,by rw[hE k h.1];exact ha⟩⟩
 |r k=>exact⟨hm k h.1,by obtain⟨A,l,c,ha⟩:=h.2;exact⟨A,l,c,by rw[hE k h.1];exact ha⟩⟩
 |e k sz i off=>exact⟨hm k h.1,by obtain⟨A,l,c,ha,hb⟩:=h.2;exact⟨A,l,c,by rw[hE k h.1];exact ha,hb⟩⟩
 |clo f ks=>
  intro k hk
  obtain⟨j,hj,rfl⟩:=List.mem_map.1 hk
  obtain⟨h1,a,ha⟩:=h j hj
  exact⟨hm j h1,a,by rw[hE j h1];exact ha⟩
 |tup l=>
  intro k hk
  obtain⟨x,hx,e⟩:=List.mem_map.1 hk
  cases x with
  |inl v=>cases e
  |inr j=>
   cases e
   obtain⟨h1,A,l,c,ha⟩:=h j hx
   exact⟨hm j h1,A,l,c,by rw[hE j h1];exact ha⟩
theorem SV.lt_of_mapK {m:Nat→Nat} {E:Env} {n N:Nat} {s:SV} (hi:s.inN n=true) (h:(s.mapK m).lt E N):s.lt (fun k=>E (m k)) n:=by
 cases s with
 |v x=>trivial
 |p k off=>exact⟨Cp hi,h.2⟩
 |r k=>exact⟨Cp hi,h.2⟩
 |e k sz i off=>exact⟨Cp hi,h.2⟩
 |clo f ks=>
  intro k hk
  simp only[inN,List.all_eq_true]at hi
  exact⟨Cp (hi k hk),(h (m k) (List.mem_map_of_mem hk)).2⟩
 |tup l=>
  intro k hk
  simp only[inN,List.all_eq_true]at hi
  exact⟨Cp (hi _ hk),(h (m k) (List.mem_map.2 ⟨_,hk,rfl⟩)).2⟩
def Rs.mapK (m:Nat→Nat):Rs→Rs
 |.box t cs=>.box t (cs.map (SV.mapK m))
 |r=>r
def Rs.inN (n:Nat):Rs→Bool
 |.box _ cs=>cs.all (SV.inN n)
 |_=>true
def Rs.plain:Rs→Bool
 |.box _ _=>true
 |.row _ _=>true
 |.emp=>true
 |_=>false
def mpK (ρ:List Nat) (n nx j:Nat):Nat:=
 match Nat.blt j n with
 |true=>ρ.getD j 0
 |false=>nx+(j-n)
def mergeOw (ρ:List Nat) (n nx:Nat) (o' o:Own):Own:=
 o'.map (fun x=>(mpK ρ n nx x.1,x.2.mapK (mpK ρ n nx)))++(ρ.map (fun k=>(k,Rs.emp))++o)
def SC {σ:Type} (P:Program) (f:Nat) (H:Im→Prop) (n:Nat) (ow:Own) (args:List SV) (post:σ→Own×Nat×Value) (G:σ→Prop):Prop:=
 ∀E w F u,H u→Sat E ow n u [] w F→Calls P f (args.map (SV.den E)).toArray w fun e w'=>
  ∃s E' F' u',(∀k,k<n→E' k=E k)∧n≤(post s).2.1∧u.le u'∧e=.returned (post s).2.2∧Sat E' (post s).1 (post s).2.1 u' [] w' F'∧G s
theorem look_append {α:Type}:∀ {l r:List (Nat×α)} {k:Nat},look (l++r) k=match look l k with
  |some x=>some x
  |none=>look r k
 |[],r,k=>rfl
 |(d,x)::l,r,k=>by
  rw[List.cons_append,Ac,Ac]
  split
  rfl
  exact look_append
theorem look_map {α β:Type} {m:Nat→Nat} {g:α→β} {j:Nat}:∀ {l:List (Nat×α)},(∀x∈l,m x.1=m j→x.1=j)→look (l.map fun x=>(m x.1,g x.2)) (m j)=(look l j).map g
 |[],_=>rfl
 |(d,x)::l,h=>by
  rw[List.map_cons,Ac,Ac]
  by_cases e:d=j
  subst e;rw[if_pos rfl,if_pos rfl];rfl
  rw[if_neg e,if_neg (fun e'=>e (h (d,x) (List.mem_cons_self ..) e'))]
  exact look_map fun y hy=>h y (List.mem_cons_of_mem _ hy)
theorem look_map_none {α β:Type} {m:Nat→Nat} {g:α→β} {k:Nat}:∀ {l:List (Nat×α)},(∀x∈l,m x.1≠k)→look (l.map fun x=>(m x.1,g x.2)) k=none
 |[],_=>rfl
 |(d,x)::l,h=>by
  rw[List.map_cons,Ac,if_neg (h (d,x) (List.mem_cons_self ..))]
  exact look_map_none fun y hy=>h y (List.mem_cons_of_mem _ hy)
theorem look_emps:∀ {ρ:List Nat} {k:Nat},(k∈ρ→look (ρ.map fun k=>(k,Rs.emp)) k=some .emp)∧(k∉ρ→look (ρ.map fun k=>(k,Rs.emp)) k=none)
 |[],k=>⟨fun h=>(by cases h),fun _=>rfl⟩
 |d::ρ,k=>by
  rw[List.map_cons,Ac]
  obtain⟨h1,h2⟩:=look_emps (ρ:=ρ) (k:=k)
  by_cases e:d=k
  rw[if_pos e];exact⟨fun _=>rfl,fun h=>absurd (e▸List.mem_cons_self ..) h⟩
  rw[if_neg e]
  exact⟨fun h=>h1 ((List.mem_cons.1 h).resolve_left (fun e'=>e e'.symm)),fun h=>h2 (fun h'=>h (List.mem_cons_of_mem _ h'))⟩
theorem look_of_mem {α:Type}:∀ {l:List (Nat×α)} {x:Nat×α},x∈l→∃y,look l x.1=some y
 |(d,z)::l,x,h=>by
  rw[Ac]
  by_cases e:d=x.1
  exact⟨z,by rw[if_pos e]⟩
  rw[if_neg e]
  rcases List.mem_cons.1 h with rfl|h
  exact absurd rfl e
  exact look_of_mem h
theorem apartB_inj':∀ {ρ:List Nat},apartB ρ=true→∀i j,i<ρ.length→j<ρ.length→ρ.getD i 0=ρ.getD j 0→i=j
 |[],_,i,_,h,_,_=>by cases h
 |x::r,hh,i,j,hi,hj,e=>by
  unfold apartB at hh
  split at hh
  cases hh
  rename_i hx
  have hx':=elemB_mem hx
  cases i with
  |zero=>
   cases j with
   |zero=>rfl
   |succ j=>
    simp only[List.getD_cons_zero,List.getD_cons_succ]at e
    have hj':j<r.length:=by simpa using hj
    exact absurd (by rw[e,List.getD_eq_getElem?_getD,List.getElem?_eq_getElem hj'];exact List.getElem_mem hj') hx'
  |succ i=>
   have hi':i<r.length:=by simpa using hi
   cases j with
   |zero=>
    simp only[List.getD_cons_zero,List.getD_cons_succ]at e
    exact absurd (by rw[←e,List.getD_eq_getElem?_getD,List.getElem?_eq_getElem hi'];exact List.getElem_mem hi') hx'
   |succ j=>
    simp only[List.getD_cons_succ]at e
    rw[apartB_inj' hh i j hi' (by simpa using hj) e]
theorem Rs.mapK_holds {m:Nat→Nat} {E E':Env} {k n:Nat} {F F':Nat→Prop} {u u':Im} {w:World} {r:Rs} (hp:r.plain=true) (hE:∀j,j<n→E' (m j)=E j) (hk:k<n) (hF:∀b,F' b↔F b)
 (hl:r.lt E n) (h:r.holds E k F u w):(r.mapK m).holds E' (m k) F' u' w:=by
 cases r with
 |box t cs=>
  obtain⟨b,h1,h2,h3⟩:=h
  refine⟨b,by rw[hE k hk];exact h1,fun x=>(hF x).trans (h2 x),?_⟩
  rw[h3,List.map_map]
  congr 3
  refine List.map_congr_left fun s hs=>?_
  simp only[Function.comp]
  rw[SV.mapK_den]
  exact(SV.den_congr (fun j hj=>hE j hj) (hl s hs)).symm
 |row e D=>exact⟨by rw[hE k hk];exact h.1,fun x=>(hF x).trans (by rw[hE k hk];exact h.2 x)⟩
 |sl D=>cases hp
 |gen A=>cases hp
 |emp=>exact fun x hx=>h x ((hF x).1 hx)
theorem Rs.holds_mapK {m:Nat→Nat} {E:Env} {k n N:Nat} {F F':Nat→Prop} {u u':Im} {w:World} {r:Rs} (hp:r.plain=true) (hi:r.inN n=true) (hF:∀b,F' b↔F b) (hl:(r.mapK m).lt E N)
 (h:(r.mapK m).holds E (m k) F u w):r.holds (fun j=>E (m j)) k F' u' w∧r.lt (fun j=>E (m j)) n:=by
 cases r with
 |box t cs=>
  obtain⟨b,h1,h2,h3⟩:=h
  simp only[inN,List.all_eq_true]at hi
  refine⟨⟨b,h1,fun x=>(hF x).trans (h2 x),?_⟩,fun s hs=>SV.lt_of_mapK (hi s hs) (hl _ (List.mem_map_of_mem hs))⟩
  rw[h3,List.map_map]
  congr 3
  exact List.map_congr_left fun s _=>by simp only[Function.comp];rw[SV.mapK_den]
 |row e D=>exact⟨⟨h.1,fun x=>(hF x).trans (h.2 x)⟩,trivial⟩
 |sl D=>cases hp
 |gen A=>cases hp
 |emp=>exact⟨fun x hx=>h x ((hF x).1 hx),trivial⟩
theorem SC.use {σ:Type} {P:Program} {f:Nat} {H:Im→Prop} {n:Nat} {ow0:Own} {cargs:List SV} {post:σ→Own×Nat×Value} {G:σ→Prop} (hsc:SC P f H n ow0 cargs post G)
 (hmono:∀u u',Im.sub u u'→H u→H u') {ρ:List Nat} {E:Env} {ow:Own} {nx:Nat} {u:Im} {df:List Deferred} {w:World} {F:Nat→Nat→Prop} (hH:H u) (hs:Sat E ow nx u df w F)
 (hρ:ρ.length=n) (hρ1:ρ.all (fun k=>Nat.blt k nx)=true) (hρ2:apartB ρ=true)
 (hp1:ow0.all (fun x=>Nat.blt x.1 n&&(x.2.inN n&&x.2.plain))=true) (hp2:ow0.map (fun x=>look ow (mpK ρ n nx x.1))=ow0.map (fun x=>some (x.2.mapK (mpK ρ n nx))))
 (hpost:∀s,(post s).1.all (fun x=>x.2.plain)=true) :
 Calls P f ((cargs.map (SV.mapK (mpK ρ n nx))).map (SV.den E)).toArray w fun e w'=>
  ∃s E' F' u',(∀k,k<nx→E' k=E k)∧u.le u'∧e=.returned (post s).2.2∧G s∧Sat E' (mergeOw ρ n nx (post s).1 ow) (nx+((post s).2.1-n)) u' df w' F':=by
 classical
 subst hρ
 let m:=mpK ρ ρ.length nx
 have hmlt:∀j,j<ρ.length→m j=ρ.getD j 0∧m j<nx:=fun j hj=>by
  have e:m j=ρ.getD j 0:=by
   show mpK ρ ρ.length nx j=_
   unfold mpK
   have:Nat.blt j ρ.length=true:=Nat.ble_eq_true_of_le hj
   rw[this]
  refine⟨e,?_⟩
  rw[e,List.getD_eq_getElem?_getD,List.getElem?_eq_getElem hj]
  exact Cp (List.all_eq_true.1 hρ1 _ (List.getElem_mem hj))
 have hmge:∀j,ρ.length≤j→m j=nx+(j - ρ.length):=fun j hj=>by
  show mpK ρ ρ.length nx j=_
  unfold mpK
  cases hb:Nat.blt j ρ.length with
  |true=>have:=Cp hb;omega
  |false=>rfl
 have hinj:∀i j,m i=m j→i=j:=fun i j e=>by
  rcases Nat.lt_or_ge i ρ.length with hi|hi
  rcases Nat.lt_or_ge j ρ.length with hj|hj
  rw[(hmlt i hi).1,(hmlt j hj).1]at e
  exact apartB_inj' hρ2 i j hi hj e
  have:=(hmlt i hi).2;rw[e,hmge j hj]at this;omega
  rcases Nat.lt_or_ge j ρ.length with hj|hj
  have:=(hmlt j hj).2;rw[←e,hmge i hi]at this;omega
  rw[hmge i hi,hmge j hj]at e;omega
 have hmem:∀j,j<ρ.length→m j∈ρ:=fun j hj=>by
  rw[(hmlt j hj).1,List.getD_eq_getElem?_getD,List.getElem?_eq_getElem hj];exact List.getElem_mem hj
 have hρm:∀k,k∈ρ→∃j,j<ρ.length∧m j=k:=fun k hk=>by
  obtain⟨j,hj,e⟩:=List.mem_iff_getElem.1 hk
  exact⟨j,hj,by rw[(hmlt j hj).1,List.getD_eq_getElem?_getD,List.getElem?_eq_getElem hj];exact e⟩
 have hpre:∀j r,look ow0 j=some r→j<ρ.length∧r.inN ρ.length=true∧r.plain=true∧look ow (m j)=some (r.mapK m):=fun j r hl=>by
  have hm:=look_mem hl
  have h1:=List.all_eq_true.1 hp1 _ hm
  simp only[Bool.and_eq_true]at h1
  refine⟨Cp h1.1,h1.2.1,h1.2.2,?_⟩
  have:∀l:Own,l.map (fun x=>look ow (mpK ρ ρ.length nx x.1))=l.map (fun x=>some (x.2.mapK (mpK ρ ρ.length nx)))→∀x∈l,look ow (m x.1)=some (x.2.mapK m):=by
   intro l
   induction l with
   |nil=>intro _ x hx;cases hx
   |cons y l ih=>
    intro h x hx
    simp only[List.map_cons,List.cons.injEq]at h
    rcases List.mem_cons.1 hx with rfl|hx
    exact h.1
    exact ih h.2 x hx
  exact this _ hp2 _ hm
 let Ec:Env:=fun j=>E (m j)
 let Fc:Nat→Nat→Prop:=fun j b=>(∃r,look ow0 j=some r)∧F (m j) b
 let uc:Im:={h:=fun b=>if ∃j,Fc j b then none else w.heap[b]?,os:=w.os,tape:=w.tape,output:=w.output,lo:=w.heap.size}
 have hsub:u.sub uc:=⟨fun b o hb=>by
  show(if ∃j,Fc j b then none else w.heap[b]?)=some o
  rw[if_neg (fun⟨j,_,hj⟩=>by rw[hs.off _ b hj]at hb;cases hb)]
  exact hs.imm.h b o hb⟩
 have huc:∀b,(¬ ∃j,Fc j b)→uc.h b=w.heap[b]?:=fun b hb=>by
  show(if ∃j,Fc j b then none else w.heap[b]?)=_
  rw[if_neg hb]
 have hsat:Sat Ec ow0 ρ.length uc [] w Fc:=by
  refine⟨fun j r hl=>?_,fun j hl b hb=>?_,fun j j' b hne h1 h2=>hs.apart _ _ b (fun e=>hne (hinj _ _ e)) h1.2 h2.2,fun j b hb=>?_,fun j r hl=>?_,⟨fun b o hb=>?_,rfl,rfl,rfl,Nat.le_refl _⟩,[],rfl,List.nodup_nil,fun d hd=>by cases hd⟩
  obtain⟨h1,h2,h3,h4⟩:=hpre j r hl
  exact(Rs.holds_mapK h3 h2 (fun b=>⟨fun h=>h.2,fun h=>⟨⟨r,hl⟩,h⟩⟩) (hs.lt _ _ h4).2 (hs.holds _ _ h4)).1
  obtain⟨r,hr⟩:=hb.1;rw[hl]at hr;cases hr
  show(if ∃j,Fc j b then none else w.heap[b]?)=none
  rw[if_pos ⟨j,hb⟩]
  obtain⟨h1,h2,h3,h4⟩:=hpre j r hl
  exact⟨h1,(Rs.holds_mapK (u':=uc) (F':=F (m j)) h3 h2 (fun b=>Iff.rfl) (hs.lt _ _ h4).2 (hs.holds _ _ h4)).2⟩
  have:(if ∃j,Fc j b then none else w.heap[b]?)=some o:=hb
  split at this
  cases this
  exact this
 have hargs:(cargs.map (SV.mapK (mpK ρ ρ.length nx))).map (SV.den E)=cargs.map (SV.den Ec):=by
  rw[List.map_map]
  exact List.map_congr_left fun s _=>SV.mapK_den _ E s
 rw[hargs]
 refine(hsc Ec w Fc uc (hmono _ _ hsub hH) hsat).mono ?_
 rintro e w' ⟨s,E',F',uc',hE',hn,hu',he,hsat',hG⟩
 have hlt':∀x∈(post s).1,x.1<(post s).2.1:=fun x hx=>by
  obtain⟨y,hy⟩:=look_of_mem hx
  exact(hsat'.lt _ _ hy).1
 have hplain:∀j r,look (post s).1 j=some r→r.plain=true:=fun j r hl=>List.all_eq_true.1 (hpost s) _ (look_mem hl)
 let E'':Env:=fun k=>if k<nx then E k else E' (ρ.length+(k-nx))
 have hEm:∀j,j<(post s).2.1→E'' (m j)=E' j:=fun j _=>by
  rcases Nat.lt_or_ge j ρ.length with hj|hj
  show(if m j<nx then E (m j)else _)=_
  rw[if_pos (hmlt j hj).2,hE' j hj]
  show(if m j<nx then _ else E' (ρ.length+(m j-nx)))=_
  rw[hmge j hj,if_neg (by omega)]
  congr 1;omega
 have hsz:w.heap.size≤w'.heap.size:=by
  have h1:=hsat'.imm.lo
  rw[hu'.lo]at h1
  exact h1
 have hframe:∀b,b<w.heap.size→(¬ ∃j,Fc j b)→w'.heap[b]?=w.heap[b]?:=fun b hb hn=>by
  have h1:uc.h b=some (w.heap[b]'hb):=by rw[huc b hn];exact Array.getElem?_eq_getElem hb
  rw[hsat'.imm.h b _ (hu'.h b _ h1),Array.getElem?_eq_getElem hb]
 let F'':Nat→Nat→Prop:=fun k b=>(∃j,j<(post s).2.1∧m j=k∧F' j b)∨((∀j,j<(post s).2.1→m j≠k)∧F k b)
 have hF''m:∀j,j<(post s).2.1→∀b,F'' (m j) b↔F' j b:=fun j hj b=>by
  constructor
  rintro(⟨i,hi,e,h⟩|⟨h,_⟩)
  rw[←hinj _ _ e];exact h
  exact absurd rfl (h j hj)
  exact fun h=>.inl ⟨j,hj,rfl,h⟩
 let u'':Im:={h:=fun b=>if b<w.heap.size then u.h b else uc'.h b,os:=u.os,tape:=u.tape,output:=u.output,lo:=u.lo}
 have hult:∀b o,u.h b=some o→b<w.heap.size:=fun b o ho=>(Array.getElem?_eq_some_iff.1 (hs.imm.h b o ho)).1
 have hle'':u.le u'':=⟨fun b o ho=>by
  show(if b<w.heap.size then u.h b else uc'.h b)=some o
  rw[if_pos (hult b o ho)];exact ho,rfl,rfl,rfl,rfl⟩
 have himm'':Imm u'' w':=by
  refine⟨fun b o ho=>?_,?_,?_,?_,Nat.le_trans hs.imm.lo hsz⟩
  have ho':(if b<w.heap.size then u.h b else uc'.h b)=some o:=ho
  split at ho'
  rename_i hb
  rw[hframe b hb (fun⟨j,_,hj⟩=>by rw[hs.off _ b hj]at ho';cases ho')]
  exact hs.imm.h b o ho'
  exact hsat'.imm.h b o ho'
  exact(hsat'.imm.os.trans hu'.os).trans hs.imm.os
  exact(hsat'.imm.tape.trans hu'.tape).trans hs.imm.tape
  exact(hsat'.imm.output.trans hu'.output).trans hs.imm.output
 have hnewk:∀k,nx≤k→look ow k=none:=fun k hk=>by
  cases hl:look ow k with
  |none=>rfl
  |some r=>have:=(hs.lt k r hl).1;omega
 have hlookm:∀j,look (mergeOw ρ ρ.length nx (post s).1 ow) (m j)=match look (post s).1 j with
   |some r=>some (r.mapK m)
   |none=>look (ρ.map (fun k=>(k,Rs.emp))++ow) (m j):=fun j=>by
  unfold mergeOw
  rw[look_append]
  have:=look_map (m:=m) (g:=Rs.mapK m) (j:=j) (l:=(post s).1) (fun x _ e=>hinj _ _ e)
  rw[show look ((post s).1.map fun x=>(mpK ρ ρ.length nx x.1,x.2.mapK (mpK ρ ρ.length nx))) (m j)=_ from this]
  cases look (post s).1 j<;>rfl
 refine⟨s,E'',F'',u'',fun k hk=>if_pos hk,hle'',he,hG,?_⟩
 refine hs.step (fun k=>∃j,j<(post s).2.1∧m j=k) (fun k hk=>if_pos hk) (Nat.le_add_right _ _) hle'' himm'' hsz ?_ ?_ ?_ ?_ ?_
 intro b hb hno
 refine hframe b hb ?_
 rintro⟨j,⟨r,hr⟩,hj⟩
 exact hno (m j) ⟨j,by have:=(hpre j r hr).1;omega,rfl⟩ hj
 intro k hk
 have hk':∀j,j<(post s).2.1→m j≠k:=fun j hj e=>hk ⟨j,hj,e⟩
 refine⟨?_,fun b=>⟨?_,fun h=>.inr ⟨hk',h⟩⟩⟩
 unfold mergeOw
 rw[look_append,look_append]
 have h1:look ((post s).1.map fun x=>(mpK ρ ρ.length nx x.1,x.2.mapK (mpK ρ ρ.length nx))) k=none:=look_map_none (m:=m) (fun x hx=>hk' x.1 (hlt' x hx))
 rw[h1]
 simp only
 rw[look_emps.2 (fun hm=>by obtain⟨j,hj,e⟩:=hρm k hm;exact hk' j (by omega) e)]
 rintro(⟨j,hj,e,_⟩|⟨_,h⟩)
 exact absurd e (hk' j hj)
 exact h
 rintro k ⟨j,hj,rfl⟩
 refine⟨fun r hl=>?_,fun hl b hb=>?_,fun b hb=>?_⟩
 rw[hlookm j]at hl
 have hmj:m j<nx+((post s).2.1 - ρ.length):=by
  rcases Nat.lt_or_ge j ρ.length with h1|h1
  have:=(hmlt j h1).2;omega
  rw[hmge j h1];omega
 cases hl0:look (post s).1 j with
 |some r0=>
  rw[hl0]at hl
  simp only[Option.some.injEq]at hl
  subst hl
  have hlr:=(hsat'.lt _ _ hl0).2
  refine⟨Rs.mapK_holds (hplain _ _ hl0) hEm hj (hF''m j hj) hlr (hsat'.holds _ _ hl0),hmj,?_⟩
  cases r0 with
  |box t cs=>
   intro x hx
   obtain⟨y,hy,rfl⟩:=List.mem_map.1 hx
   refine SV.mapK_lt hEm (fun i hi=>?_) (hlr y hy)
   rcases Nat.lt_or_ge i ρ.length with h1|h1
   have:=(hmlt i h1).2;show m i<_;omega
   show m i<_;rw[hmge i h1];omega
  |row e D=>trivial
  |sl D=>trivial
  |gen A=>trivial
  |emp=>trivial
 |none=>
  rw[hl0]at hl
  simp only at hl
  rw[look_append]at hl
  rcases Nat.lt_or_ge j ρ.length with h1|h1
  rw[look_emps.1 (hmem j h1)]at hl
  simp only[Option.some.injEq]at hl
  subst hl
  exact⟨fun x hx=>hsat'.non j hl0 x ((hF''m j hj x).1 hx),hmj,trivial⟩
  rw[look_emps.2 (fun hm=>by have:=Cp (List.all_eq_true.1 hρ1 _ hm);rw[hmge j h1]at this;omega)]at hl
  simp only at hl
  rw[hnewk _ (by rw[hmge j h1];omega)]at hl
  cases hl
 have hb':=(hF''m j hj b).1 hb
 rw[hlookm j]at hl
 cases hl0:look (post s).1 j with
 |some r0=>rw[hl0]at hl;cases hl
 |none=>exact hsat'.non j hl0 b hb'
 have hb':=(hF''m j hj b).1 hb
 have hoff:=hsat'.off j b hb'
 rcases Nat.lt_or_ge b w.heap.size with hlt|hge
 have hex:∃j,Fc j b:=by
  refine Classical.byContradiction fun hno=>?_
  have h1:uc.h b=some (w.heap[b]'hlt):=by rw[huc b hno];exact Array.getElem?_eq_getElem hlt
  rw[hu'.h b _ h1]at hoff;cases hoff
 obtain⟨i,⟨r,hr⟩,hi⟩:=hex
 refine⟨.inl ⟨m i,⟨i,by have:=(hpre i r hr).1;omega,rfl⟩,hi⟩,?_⟩
 show(if b<w.heap.size then u.h b else uc'.h b)=none
 rw[if_pos hlt];exact hs.off _ b hi
 refine⟨.inr hge,?_⟩
 show(if b<w.heap.size then u.h b else uc'.h b)=none
 rw[if_neg (by omega)];exact hoff
 rintro k k' b ⟨j,hj,rfl⟩ ⟨j',hj',rfl⟩ hne h1 h2
 exact hsat'.apart j j' b (fun e=>hne (by rw[e])) ((hF''m j hj b).1 h1) ((hF''m j' hj' b).1 h2)
 intro b o ho
 have ho':(if b<w.heap.size then u.h b else uc'.h b)=some o:=ho
 split at ho'
 exact .inl ho'
 exact .inr (by omega)
theorem Bd {σ:Type} {C:Cx} {all:List Oper} {o:Oper} {r:List Oper} {Q:Bb} {kn:Kn} {gk:List (Nat×(Gd×SV))} {ow:Own} {nx:Nat} {u:Im} {c:Call}
 {f n:Nat} {H:Im→Prop} {ow0:Own} {cargs:List SV} {post:σ→Own×Nat×Value} {G:σ→Prop} (hsc:SC C.P f H n ow0 cargs post G) (hmono:∀u u',Im.sub u u'→H u→H u') (hH:H u) (ρ:List Nat)
 {d:Nat} (ho:o.op=.call c) (hgd:o.guard=none) (hd:o.dst=some d) (hc:callee ⟨kn,gk,ow,nx⟩ c=some f) (hfn:Fn1 C.P f)
 (hargs:argsOf ⟨kn,gk,ow,nx⟩ [] c.args.toList=some (cargs.map (SV.mapK (mpK ρ n nx)))) (hfr:Bg C.N ⟨kn,gk,ow,nx⟩ d []=true)
 (hρ:ρ.length=n) (hρ1:ρ.all (fun k=>Nat.blt k nx)=true) (hρ2:apartB ρ=true)
 (hp1:ow0.all (fun x=>Nat.blt x.1 n&&(x.2.inN n&&x.2.plain))=true) (hp2:ow0.map (fun x=>look ow (mpK ρ n nx x.1))=ow0.map (fun x=>some (x.2.mapK (mpK ρ n nx))))
 (hpost:∀s,(post s).1.all (fun x=>x.2.plain)=true)
 (K:∀s u',u.le u'→G s→XL C all r Q ⟨(d,.v (post s).2.2)::kn,gk,mergeOw ρ n nx (post s).1 ow,nx+((post s).2.1-n)⟩ u') :
 XL C all (o::r) Q ⟨kn,gk,ow,nx⟩ u:=by
 unfold XL at K ⊢
 intro E a w hok
 obtain⟨fF,hsat⟩:=hok.sat
 have hgs:gs a.tmps []:=fun x hx=>by cases hx
 have hg:Bp all ⟨kn,gk,ow,nx⟩ o=some []:=by unfold Bp;rw[hgd]
 have hgd':=guard_sound (all:=all.toArray) hok.agr (by simpa using hg)
 have hw:Region.wanted o (yielded all.toArray a.tmps)=true:=by
  cases hb:Region.wanted o (yielded all.toArray a.tmps)with
  |true=>rfl
  |false=>exact absurd hgs (hgd'.2 hb)
 unfold wpListIn
 rw[if_pos hw]
 refine⟨fun _ _=>trivial,?_⟩
 rw[semAt_eq _ _ _ (fun c' hc'=>by rw[ho]at hc';cases hc'),call_runG ho hc hfn hargs hok hgs,Oper.uponIn_enter]
 refine⟨fun h=>(by cases h),(calls_in (hsc.use hmono hH hsat hρ hρ1 hρ2 hp1 hp2 hpost)).mono ?_⟩
 rintro e w' ⟨s,E',F',u',hE',hu,rfl,hG,hs'⟩
 have hnx:nx≤nx+((post s).2.1-n):=Nat.le_add_right _ _
 have hgr:=hok.agr.grow (E':=E') (ow:=mergeOw ρ n nx (post s).1 ow) (nx:=nx+((post s).2.1-n)) hE' hnx
 have hput:Agr C.N E' (St.put ⟨kn,gk,mergeOw ρ n nx (post s).1 ow,nx+((post s).2.1-n)⟩ d [] (.v (post s).2.2)) (a.tmps.setIfInBounds d (post s).2.2):=
  hgr.put (g:=[]) hfr (fun _=>trivial) (fun _=>rfl) (fun hn=>absurd (fun x hx=>(by cases hx)) hn) (fun _=>rfl)
 have:=K s u' hu hG E' (a.put (some d) (post s).2.2) w' ⟨⟨hput.size,hput.kn,hput.gk,hput.klt,hput.glt⟩,F',hs'⟩
 rw[hd]
 exact Av (fun e a w=>Cd.mono hE' hnx hu) _ _ _ this
def argLt (ow:Own) (n:Nat):SV→Bool
 |.v _=>true
 |.p k _=>match Nat.blt k n,look ow k with
  |true,some (.box _ _)=>true
  |_,_=>false
 |.r k=>match Nat.blt k n,look ow k with
  |true,some (.row _ _)=>true
  |_,_=>false
 |_=>false
def SCend {σ:Type} (n:Nat) (post:σ→Own×Nat×Value) (G:σ→Prop) (l:List SV) (st:St):Prop:=
 ∃s ρ vs,l=vs.map SV.v∧tupV vs=(post s).2.2∧Sub n ρ ⟨[],[],st.ow,st.nx⟩ ⟨[],[],(post s).1,(post s).2.1⟩∧n≤(post s).2.1∧G s
theorem x_sc {σ:Type} {T:TT} {P:Program} (hT:TOk P T) {f N:Nat} {fn:Func} {c:Code} (hf:P.funcs[f]?=some fn) (hb:fn.body=some c) (hN:fn.ntmps=N)
 {H:Im→Prop} {n:Nat} {ow:Own} {args:List SV} {post:σ→Own×Nat×Value} {G:σ→Prop} (hle:Nat.ble args.length N=true) (hargs:args.all (argLt ow n)=true)
 (h:∀u,H u→X ⟨P,none,N⟩ c (FinQ T fn.results.toList fun l st _=>SCend n post G l st) ⟨knOf 0 args,[],ow,n⟩ u):SC P f H n ow args post G:=by
 intro E w F u hH hsat
 refine(callsIn_wide (n:=0)).1 (callsIn_of_wp_marks hf hb trivial ?_ rfl)
 have hle':args.length≤N:=Nat.le_of_ble_eq_true hle
 have hlt:∀s∈args,s.lt E n:=fun s hs=>by
  have h1:=List.all_eq_true.1 hargs s hs
  cases s with
  |v x=>trivial
  |p k off=>
   simp only[argLt]at h1
   split at h1
   rename_i t cs hk hl
   obtain⟨b,hb,_⟩:=hsat.holds k _ hl
   exact⟨Cp hk,_,hb⟩
   cases h1
  |r k=>
   simp only[argLt]at h1
   split at h1
   rename_i e D hk hl
   obtain⟨A,c,hv⟩:=ownsRow_sl (hsat.holds k _ hl).1
   exact⟨Cp hk,A,_,c,hv⟩
   cases h1
  |e k sz i off=>cases h1
  |clo f ks=>cases h1
  |tup l=>cases h1
 have hagr:Agr N E ⟨knOf 0 args,[],ow,n⟩ ((args.map (SV.den E)).toArray++Array.replicate (fn.ntmps-((args.map (SV.den E)).toArray).size) undef):=by
  refine⟨?_,?_,fun d g s h=>(by cases h),?_,fun d g s h=>(by cases h)⟩
  rw[hN];simp;omega
  intro d s _ h2
  have h3:=(knOf_look h2).2
  rw[Nat.sub_zero]at h3
  have hd:d<args.length:=(List.getElem?_eq_some_iff.1 h3).1
  rw[Array.getElem?_append_left (by simpa using hd)]
  simp[h3]
  intro d s h2
  have h3:=(knOf_look h2).2
  exact hlt s (List.mem_of_getElem? h3)
 have hX:=h u hH
 unfold X at hX
 refine Go.wpIn_mono (hX E {tmps:=(args.map (SV.den E)).toArray++Array.replicate (fn.ntmps-((args.map (SV.den E)).toArray).size) undef,defers:=[]} w ⟨hagr,_,hsat⟩) ?_
 rintro e a' w' ⟨E',st',u',h1,h2,h3,hok',h5⟩
 obtain⟨F',hs⟩:=hok'.sat
 have fin:∀l,resV T st' fn.results.toList=some l→SCend n post G l st' →
  LeavesInM (FR none) 0 P fn a'.tmps (fun e w'=>∃s E' F' u',(∀k,k<n→E' k=E k)∧n≤(post s).2.1∧u.le u'∧e=.returned (post s).2.2∧Sat E' (post s).1 (post s).2.1 u' [] w' F'∧G s) a'.defers .returning w':=by
  rintro l hl ⟨s,ρ,vs,rfl,hv,hsub,hn,hG⟩
  obtain⟨ds,hds,_⟩:=hs.marks
  rw[hds]at hs ⊢
  refine leaves (C:=⟨P,none,N⟩) hT hok'.agr hl (fun w'' hw=>?_) ds w' hs
  have hok0:Ok ⟨P,none,0⟩ E' ⟨[],[],st'.ow,st'.nx⟩ u' {tmps:=#[],defers:=[]} w'':=
   ⟨⟨rfl,fun d s _ h=>(by cases h),fun d g s h=>(by cases h),fun d s h=>(by cases h),fun d g s h=>(by cases h)⟩,F',hw⟩
  obtain⟨E3,hE3,hok3⟩:=hsub.ok hok0
  obtain⟨F3,hs3⟩:=hok3.sat
  refine⟨s,E3,F3,u',fun k hk=>(hE3 k hk).trans (h1 k hk),hn,h3,?_,hs3,hG⟩
  rw[←hv,List.map_map]
  congr 2
  exact(List.map_congr_left fun x _=>rfl).trans (List.map_id _)
 cases e with
 |normal=>
  simp only[FinQ]at h5
  split at h5
  rename_i l hl;exact fin l hl h5
  exact h5.elim
 |ret=>
  simp only[FinQ]at h5
  split at h5
  rename_i l hl;exact fin l hl h5
  exact h5.elim
 |exit id=>exact h5.elim
 |goto l=>exact h5.elim
 |panic c=>exact h5.elim
 |outgrown=>exact h5.elim
theorem x_nilCell {α:Type} {C:Cx} {cc:Code} {Q:Bb} {kn:Kn} {gk:List (Nat×(Gd×SV))} {ow:Own} {nx:Nat} {u:Im} (k e:Nat) (Y:Lay α) {t:Nat} (cs ds:List SV) (hk:look ow k=some (.box t (cs++.v (.slice none 0 0)::ds)))
 (h:X C cc Q ⟨kn,gk,(nx,.row e (Y.d []))::(k,.box t (cs++.r nx::ds))::ow,nx+1⟩ u):X C cc Q ⟨kn,gk,ow,nx⟩ u:=by
 unfold X at h ⊢
 intro E a w hok
 obtain⟨f,hsat⟩:=hok.sat
 have hE:∀k,k<nx→upd E nx (.slice none 0 0) k=E k:=fun k hk=>An _ _ (by omega)
 have hs1:=hsat.nil e Y
 have hkl:k<nx:=(hsat.lt k _ hk).1
 have hkn:k≠nx:=by omega
 have hold:=hs1.holds k (.box t (cs++.v (.slice none 0 0)::ds)) (by rw[Ac,if_neg (fun e1=>hkn e1.symm)];exact hk)
 have hltold:=(hsat.lt k _ hk).2
 have hs2:Sat (upd E nx (.slice none 0 0)) ((nx,.row e (Y.d []))::(k,.box t (cs++.r nx::ds))::ow) (nx+1) u a.defers w (upd f nx (fun _=>False)):=by
  refine⟨fun j r hl=>?_,fun j hl b hb=>?_,hs1.apart,hs1.off,fun j r hl=>?_,hs1.imm,hs1.marks⟩
  rw[Ac]at hl
  split at hl
  rename_i e1;exact hs1.holds j r (by rw[Ac,if_pos e1];exact hl)
  rename_i e1
  rw[Ac]at hl
  split at hl
  rename_i e2
  subst e2
  cases hl
  obtain⟨b,q1,q2,q3⟩:=hold
  refine⟨b,q1,q2,?_⟩
  rw[q3]
  simp[SV.den,Ak]
  exact hs1.holds j r (by rw[Ac,if_neg e1];exact hl)
  refine hs1.non j ?_ b hb
  rw[Ac]at hl ⊢
  split at hl
  cases hl
  rename_i e1
  rw[if_neg e1]
  rw[Ac]at hl
  split at hl
  cases hl
  exact hl
  rw[Ac]at hl
  split at hl
  rename_i e1;exact hs1.lt j r (by rw[Ac,if_pos e1];exact hl)
  rename_i e1
  rw[Ac]at hl
  split at hl
  rename_i e2
  subst e2
  cases hl
  refine⟨by omega,fun x hx=>?_⟩
  have hx':=List.mem_append.1 hx
  rcases hx' with hx'|hx'
  exact SV.lt_mono hE (Nat.le_succ _) (hltold x (List.mem_append_left _ hx'))
  rcases List.mem_cons.1 hx' with rfl|hx'
  exact⟨Nat.lt_succ_self _,none,0,0,Ak _ _ _⟩
  exact SV.lt_mono hE (Nat.le_succ _) (hltold x (List.mem_append_right _ (List.mem_cons_of_mem _ hx')))
  exact hs1.lt j r (by rw[Ac,if_neg e1];exact hl)
 have hg:=hok.agr.grow (E':=upd E nx (.slice none 0 0)) (ow:=(nx,.row e (Y.d []))::(k,.box t (cs++.r nx::ds))::ow) (nx:=nx+1) hE (Nat.le_succ _)
 have:=h (upd E nx (.slice none 0 0)) a w ⟨hg,_,hs2⟩
 exact Go.wpIn_mono this fun e a w=>Cd.mono hE (Nat.le_succ _) (Im.le.refl u)
abbrev byteY:Lay UInt8:=⟨[fun b=>.int .u8 b.toNat],0⟩
theorem byteY_flat (L:List UInt8):(byteY.d L).flat=Lib.byteCells L:=by
 rw[Lay.flat]
 induction L with
 |nil=>rfl
 |cons x r ih=>
  rw[List.flatMap_cons,ih]
  rfl
theorem xl_sv {C:Cx} {all:List Oper} {o:Oper} {r:List Oper} {Q:Bb} {kn:Kn} {gk:List (Nat×(Gd×SV))} {ow:Own} {nx:Nat} {u:Im} (s:SV) {d:Nat}
 (hgd:o.guard=none) (hd:o.dst=some d) (hnd:∀c,o.op≠.defer c) (hfr:Bg C.N ⟨kn,gk,ow,nx⟩ d []=true)
 (H:∀E a w,Ok C E ⟨kn,gk,ow,nx⟩ u a w→(execOp a.eval o).run C.P w=.ok (.value (s.den E)) w∧s.lt E nx)
 (K:XL C all r Q ⟨(d,s)::kn,gk,ow,nx⟩ u):XL C all (o::r) Q ⟨kn,gk,ow,nx⟩ u:=by
 unfold XL at K ⊢
 intro E a w hok
 obtain⟨hrun,hlt⟩:=H E a w hok
 refine xl_wp hgd hnd hrun ?_
 rw[hd]
 have hput:Agr C.N E (St.put ⟨kn,gk,ow,nx⟩ d [] s) (a.tmps.setIfInBounds d (s.den E)):=
  hok.agr.put (g:=[]) hfr (fun _=>hlt) (fun _=>rfl) (fun hn=>absurd (fun x hx=>(by cases hx)) hn) (fun _=>rfl)
 exact K E (a.put (some d) (s.den E)) w ⟨⟨hput.size,hput.kn,hput.gk,hput.klt,hput.glt⟩,hok.sat⟩
theorem xl_eqpNil {C:Cx} {all:List Oper} {o:Oper} {r:List Oper} {Q:Bb} {kn:Kn} {gk:List (Nat×(Gd×SV))} {ow:Own} {nx:Nat} {u:Im} {d t t':Nat} {x:Operand}
 (ho:o.op=.binOp .eql t x (.const (.pointer none)) t') (hgd:o.guard=none) (hd:o.dst=some d) (hfr:Bg C.N ⟨kn,gk,ow,nx⟩ d []=true)
 (ht:C.P.underlying t=some (.pointer (C.P.pointee t))) (hx:opd ⟨kn,gk,ow,nx⟩ [] x=some (.v (.pointer none)))
 (K:XL C all r Q ⟨(d,.v (.bool true))::kn,gk,ow,nx⟩ u):XL C all (o::r) Q ⟨kn,gk,ow,nx⟩ u:=by
 refine xl_val (.bool true) hgd hd (fun c hc=>by rw[ho]at hc;cases hc) hfr (fun E a w hok=>?_) K
 have hgs:gs a.tmps []:=fun x hx=>by cases hx
 obtain⟨e1,_⟩:=Al hok.agr hgs hx
 simp only[SV.den]at e1
 have e2:a.eval (.const (.pointer none))=.pointer none:=rfl
 simp only[execOp,ho]
 rw[e1,e2]
 have:=run_eql_pointer_nil (P:=C.P) (w:=w) t none ht
 simp[eqGuard,this]
theorem xl_eqpSome {C:Cx} {all:List Oper} {o:Oper} {r:List Oper} {Q:Bb} {kn:Kn} {gk:List (Nat×(Gd×SV))} {ow:Own} {nx:Nat} {u:Im} {d t t' k off:Nat} {x:Operand}
 (ho:o.op=.binOp .eql t x (.const (.pointer none)) t') (hgd:o.guard=none) (hd:o.dst=some d) (hfr:Bg C.N ⟨kn,gk,ow,nx⟩ d []=true)
 (ht:C.P.underlying t=some (.pointer (C.P.pointee t))) (hx:opd ⟨kn,gk,ow,nx⟩ [] x=some (.p k off))
 (K:XL C all r Q ⟨(d,.v (.bool false))::kn,gk,ow,nx⟩ u):XL C all (o::r) Q ⟨kn,gk,ow,nx⟩ u:=by
 refine xl_val (.bool false) hgd hd (fun c hc=>by rw[ho]at hc;cases hc) hfr (fun E a w hok=>?_) K
 have hgs:gs a.tmps []:=fun x hx=>by cases hx
 obtain⟨e1,_,ad,h2⟩:=Al hok.agr hgs hx
 simp only[SV.den,ptrOf,h2]at e1
 have e2:a.eval (.const (.pointer none))=.pointer none:=rfl
 simp only[execOp,ho]
 rw[e1,e2]
 have:=run_eql_pointer_nil (P:=C.P) (w:=w) t (some ⟨ad.block,off,none⟩) ht
 simp[eqGuard,this]
theorem xl_neqSelf {C:Cx} {all:List Oper} {o:Oper} {r:List Oper} {Q:Bb} {kn:Kn} {gk:List (Nat×(Gd×SV))} {ow:Own} {nx:Nat} {u:Im} {d t t' te k off:Nat} {x y:Operand}
 (ho:o.op=.binOp .neq t x y t') (hgd:o.guard=none) (hd:o.dst=some d) (hfr:Bg C.N ⟨kn,gk,ow,nx⟩ d []=true)
 (ht:C.P.underlying t=some (.pointer te)) (hi:(C.P.info? te).isSome=true) (hx:opd ⟨kn,gk,ow,nx⟩ [] x=some (.p k off)) (hy:opd ⟨kn,gk,ow,nx⟩ [] y=some (.p k off))
 (K:XL C all r Q ⟨(d,.v (.bool false))::kn,gk,ow,nx⟩ u):XL C all (o::r) Q ⟨kn,gk,ow,nx⟩ u:=by
 refine xl_val (.bool false) hgd hd (fun c hc=>by rw[ho]at hc;cases hc) hfr (fun E a w hok=>?_) K
 have hgs:gs a.tmps []:=fun x hx=>by cases hx
 obtain⟨e1,_,ad,h2⟩:=Al hok.agr hgs hx
 obtain⟨e3,_⟩:=Al hok.agr hgs hy
 simp only[SV.den,ptrOf,h2]at e1 e3
 obtain⟨j,hj⟩:=Option.isSome_iff_exists.1 hi
 simp only[execOp,ho]
 rw[e1,e3]
 have:=Lib.run_neq_ptr_same (P:=C.P) w ⟨ad.block,off,none⟩ ht hj
 simp[eqGuard,this]
theorem xl_toUnsafe {C:Cx} {all:List Oper} {o:Oper} {r:List Oper} {Q:Bb} {kn:Kn} {gk:List (Nat×(Gd×SV))} {ow:Own} {nx:Nat} {u:Im} {d src dst t k:Nat} {x:Operand} {cs:List SV}
 (ho:o.op=.convert src dst x) (hgd:o.guard=none) (hd:o.dst=some d) (hfr:Bg C.N ⟨kn,gk,ow,nx⟩ d []=true)
 (hs:C.P.underlying src=some (.pointer t)) (hds:C.P.underlying dst=some .unsafePointer) (hi:((C.P.info? t).map fun j=>decide (j.size=0))=some false)
 (hx:opd ⟨kn,gk,ow,nx⟩ [] x=some (.p k 0)) (hk:look ow k=some (.box t cs)) (hl:Nat.blt 0 cs.length=true)
 (K:XL C all r Q ⟨(d,.p k 0)::kn,gk,ow,nx⟩ u):XL C all (o::r) Q ⟨kn,gk,ow,nx⟩ u:=by
 refine xl_sv (.p k 0) hgd hd (fun c hc=>by rw[ho]at hc;cases hc) hfr (fun E a w hok=>?_) K
 have hgs:gs a.tmps []:=fun x hx=>by cases hx
 obtain⟨e1,hlt⟩:=Al hok.agr hgs hx
 obtain⟨f,hsat⟩:=hok.sat
 obtain⟨b,h1,_,h3⟩:=hsat.holds k _ hk
 refine⟨?_,hlt⟩
 have hden:(SV.p k 0).den E=.pointer (some ⟨b,0,none⟩):=by simp only[SV.den,ptrOf,h1]
 rw[hden]at e1 ⊢
 cases hj:C.P.info? t with
 |none=>rw[hj]at hi;cases hi
 |some j=>
  rw[hj]at hi
  have hj0:j.size≠0:=by simpa using hi
  have:=Lib.run_to_unsafe (P:=C.P) w ⟨b,0,none⟩ hs hds hj hj0 (cells:=cs.length) (e:=t) (by simp[World.shape?,h3]) (Cp hl)
  simp only[execOp,ho]
  rw[e1,Sem.run_bind,this];rfl
theorem xl_fromUnsafe {C:Cx} {all:List Oper} {o:Oper} {r:List Oper} {Q:Bb} {kn:Kn} {gk:List (Nat×(Gd×SV))} {ow:Own} {nx:Nat} {u:Im} {d src dst t k n:Nat} {x:Operand} {cs:List SV}
 (ho:o.op=.convert src dst x) (hgd:o.guard=none) (hd:o.dst=some d) (hfr:Bg C.N ⟨kn,gk,ow,nx⟩ d []=true)
 (hs:C.P.underlying src=some .unsafePointer) (hds:C.P.underlying dst=some (.pointer t)) (hi:(C.P.info? t).isSome=true)
 (hx:opd ⟨kn,gk,ow,nx⟩ [] x=some (.p k 0)) (hk:look ow k=some (.box t cs)) (hn:cs.length=n) (hl:liesAt C.P C.P.depth t (n / C.P.cellsOf t) 0 t 1=true)
 (K:XL C all r Q ⟨(d,.p k 0)::kn,gk,ow,nx⟩ u):XL C all (o::r) Q ⟨kn,gk,ow,nx⟩ u:=by
 refine xl_sv (.p k 0) hgd hd (fun c hc=>by rw[ho]at hc;cases hc) hfr (fun E a w hok=>?_) K
 have hgs:gs a.tmps []:=fun x hx=>by cases hx
 obtain⟨e1,hlt⟩:=Al hok.agr hgs hx
 obtain⟨f,hsat⟩:=hok.sat
 obtain⟨b,h1,_,h3⟩:=hsat.holds k _ hk
 refine⟨?_,hlt⟩
 have hden:(SV.p k 0).den E=.pointer (some ⟨b,0,none⟩):=by simp only[SV.den,ptrOf,h1]
 rw[hden]at e1 ⊢
 obtain⟨j,hj⟩:=Option.isSome_iff_exists.1 hi
 have:=Lib.run_from_unsafe (P:=C.P) w ⟨b,0,none⟩ hs hds hj (cells:=n) (e:=t) (by simp[World.shape?,h3,hn]) hl
 simp only[execOp,ho]
 rw[e1,Sem.run_bind,this];rfl
theorem xl_extern1 {C:Cx} {all:List Oper} {o:Oper} {r:List Oper} {Q:Bb} {kn:Kn} {gk:List (Nat×(Gd×SV))} {ow:Own} {nx:Nat} {u:Im} {c:Call} {f d:Nat} {s:SV}
 (ho:o.op=.call c) (hgd:o.guard=none) (hd:o.dst=some d) (hfr:Bg C.N ⟨kn,gk,ow,nx⟩ d []=true) (hc:c.callee=.value (.func f))
 (hrun:∀x w,(callFunc f #[x]).run C.P w=.ok (.value x) w) (hargs:argsOf ⟨kn,gk,ow,nx⟩ [] c.args.toList=some [s])
 (K:XL C all r Q ⟨(d,s)::kn,gk,ow,nx⟩ u):XL C all (o::r) Q ⟨kn,gk,ow,nx⟩ u:=by
 refine xl_sv s hgd hd (fun c' hc'=>by rw[ho]at hc';cases hc') hfr (fun E a w hok=>?_) K
 have hgs:gs a.tmps []:=fun x hx=>by cases hx
 obtain⟨e1,e2⟩:=argsOf_sound hok.agr hgs hargs
 refine⟨?_,e2 s (List.mem_cons_self ..)⟩
 have e3:c.args.map a.eval=#[s.den E]:=by
  apply Array.ext'
  simpa using e1
 have e4:a.eval (.func f)=.func (.func f) #[] #[]:=rfl
 simp[execOp,ho,resolve,hc,e4,Deferred.ofValue,invoke,e3,hrun]
theorem xl_appStr {T:TT} {C:Cx} (hT:TOk C.P T) {all:List Oper} {o:Oper} {r:List Oper} {Q:Bb} {kn:Kn} {gk:List (Nat×(Gd×SV))} {ow:Own} {nx:Nat} {u:Im}
 (L:List UInt8) {t ut e d k:Nat} {sv xv:Operand} {ti tu:TI} {s:ByteArray} (ho:o.op=.call {callee:=.builtin .append,args:=#[sv,xv],argTypes:=#[t,ut]}) (hgd:o.guard=none) (hd:o.dst=some d)
 (hti:look T t=some ti) (hsh:ti.shp=.slice e) (htu:look T ut=some tu) (hshu:tu.shp=.str) (hi:(C.P.info? e).map (fun i=>(i.zero,i.size,i.bytes))=some (some (.int .u8 0),1,1))
 (hs:opd ⟨kn,gk,ow,nx⟩ [] sv=some (.r k)) (hk:look ow k=some (.row e (byteY.d L))) (hz:opd ⟨kn,gk,ow,nx⟩ [] xv=some (.v (.string s))) (hf:Bg C.N ⟨kn,gk,ow,nx⟩ d []=true)
 (hb:L.length+s.size≤140737488355328)
 (K:XL C all r Q ⟨(d,.r nx)::kn,gk,(nx,.row e (byteY.d (L++s.data.toList)))::(k,.emp)::ow,nx+1⟩ u):XL C all (o::r) Q ⟨kn,gk,ow,nx⟩ u:=by
 unfold XL at K ⊢
 intro E a w hok
 obtain⟨f,hsat⟩:=hok.sat
 have hgs:gs a.tmps []:=fun x hx=>by cases hx
 obtain⟨es,_⟩:=Al hok.agr hgs hs
 obtain⟨ez,_⟩:=Al hok.agr hgs hz
 have es':a.eval sv=E k:=es
 simp only[SV.den]at ez
 have hut:=(hT _ _ hti).isSlice hsh
 have huu:=(hT _ _ htu).isStr hshu
 obtain⟨i,hi1,hi2,hi3,hi4⟩:=info_parts hi
 have hrow:=(hsat.holds k _ hk).1
 rw[Lay.cs_length,Lay.d_n,byteY_flat]at hrow
 have hrow':w.ownsRow 0 e 1 (E k) L.length (Lib.byteCells L):=hrow
 have hmax:maxLen=9223372036854775807:=by decide
 obtain⟨v',w',hrun,hown,hgr,hnil⟩:=Lib.run_append_own_string (P:=C.P) w 0 t ut o.type e i hut huu hi1 hi2 hi3 hi4 (E k) L.length _ hrow' s (by rw[hmax];omega) hb (Nat.zero_le _)
 have hat:v'.ownBlock=(E k).ownBlock∨∃b,v'.ownBlock=some b∧w.heap.size≤b:=by
  rcases hrow'.2 with⟨hv,hn⟩|⟨g,cap,cur,hv,_,hg,hnc,hcm,hcs,htake⟩
  by_cases hm:s.size=0
  rw[(hnil.2 ⟨hv,hm⟩),hv];exact .inl rfl
  have hr:=run_append_nil_string (P:=C.P) w t ut o.type e i (.int .u8 0) hut huu hi1 hi2 s (by omega) (by omega) (by rw[hi4];omega)
  rw[hv,hr]at hrun
  cases hrun
  exact .inr ⟨_,rfl,Nat.le_refl _⟩
  by_cases hroom:L.length+s.size≤cap
  have hr:=Lib.run_append_room_string (P:=C.P) w t ut o.type e i hut huu hi1 hi3 g L.length cap cur hg s hroom (by rw[Nat.mul_one]at hcs;omega)
  rw[hv,hr]at hrun
  cases hrun
  rw[hv];exact .inl rfl
  have hr:=Lib.run_append_grow_string (P:=C.P) w t ut o.type e i (.int .u8 0) hut huu hi1 hi2 ⟨g,0,none⟩ L.length cap (Lib.byteCells L) (by rw[hi3];simpa using hrow'.1) (hrow'.cells (g:=g) (by rw[hv];rfl)) s (by omega) (by omega)
   (by rw[hi4];exact growslice_fits (by omega) (by omega))
  rw[hv,hr]at hrun
  cases hrun
  exact .inr ⟨_,rfl,Nat.le_refl _⟩
 have hrun2':(execOp a.eval o).run C.P w=.ok (.value v') w':=by
  simp only[execOp,ho,resolve,invoke,builtin,List.map_toArray,List.map_cons,List.map_nil,es',ez]
  simp[hrun,Result.andThen]
 refine xl_wp hgd (fun c hc=>by rw[ho]at hc;cases hc) hrun2' ?_
 rw[hd]
 have hflat:(byteY.d (L++s.data.toList)).flat=Lib.byteCells L++Lib.strCells s:=by rw[byteY_flat,Lib.byteCells_append,Lib.strCells_eq]
 have hD:(byteY.d (L++s.data.toList)).n=L.length+s.size:=by rw[Lay.d_n,List.length_append];rfl
 have hown':w'.ownsRow 0 e (byteY.d (L++s.data.toList)).cs.length v' (byteY.d (L++s.data.toList)).n (byteY.d (L++s.data.toList)).flat:=by
  rw[Lay.cs_length,hD,hflat];exact hown
 have hsat2:=hsat.app (D':=byteY.d (L++s.data.toList)) hk hown' hgr hat
 have hE:∀j,j<nx→upd E nx v' j=E j:=fun j hj=>An _ _ (by omega)
 have hg:=hok.agr.grow (E':=upd E nx v') (ow:=(nx,.row e (byteY.d (L++s.data.toList)))::(k,.emp)::ow) (nx:=nx+1) hE (Nat.le_succ _)
 have hput2:Agr C.N (upd E nx v') (St.put ⟨kn,gk,(nx,.row e (byteY.d (L++s.data.toList)))::(k,.emp)::ow,nx+1⟩ d [] (.r nx)) (a.tmps.setIfInBounds d v'):=by
  refine hg.put (g:=[]) hf (fun _=>⟨Nat.lt_succ_self _,?_⟩) (fun _=>?_) (fun hn=>absurd (fun x hx=>(by cases hx)) hn) (fun _=>?_)
  obtain⟨A,c,hv⟩:=ownsRow_sl hown
  exact⟨A,_,c,by rw[Ak];exact hv⟩
  simp only[SV.den,Ak]
  simp only[SV.den,Ak]
 have:=K (upd E nx v') (a.put (some d) v') w' ⟨⟨hput2.size,hput2.kn,hput2.gk,hput2.klt,hput2.glt⟩,_,hsat2⟩
 exact Av (fun e a w=>Cd.mono hE (Nat.le_succ _) (Im.le.refl u)) _ _ _ this
theorem xd_sv {C:Cx} {all:List Oper} {o:Oper} {r:List Oper} {Q:St→Prop} {st:St} {u:Im} (s:SV) {d:Nat}
 (hgd:o.guard=none) (hd:o.dst=some d) (hnd:∀c,o.op≠.defer c) (hfr:Bg C.N st d []=true)
 (H:∀E a w,Ok C E st u a w→(execOp a.eval o).run C.P w=.ok (.value (s.den E)) w∧s.lt E st.nx)
 (K:XD C all r Q (st.put d [] s) u):XD C all (o::r) Q st u:=by
 refine xd_step (g:=[]) (s:=s) (by unfold Bp;rw[hgd]) hd hfr hnd (fun E a w hok _=>?_) K
 obtain⟨h1,h2⟩:=H E a w hok
 refine⟨h2,?_⟩
 rw[h1]
 exact⟨rfl,hok.sat⟩
theorem xd_sdNil {C:Cx} {all:List Oper} {o:Oper} {r:List Oper} {Q:St→Prop} {st:St} {u:Im} {d:Nat} {x:Operand} {ts:Array TypeId} {n c:Nat}
 (ho:o.op=.call {callee:=.builtin .unsafeSliceData,args:=#[x],argTypes:=ts}) (hgd:o.guard=none) (hd:o.dst=some d) (hfr:Bg C.N st d []=true)
 (hx:opd st [] x=some (.v (.slice none n c)))
 (K:XD C all r Q (st.put d [] (.v (.pointer none))) u):XD C all (o::r) Q st u:=by
 refine xd_sv (.v (.pointer none)) hgd hd (fun c' hc'=>by rw[ho]at hc';cases hc') hfr (fun E a w hok=>?_) K
 have hgs:gs a.tmps []:=fun x hx=>by cases hx
 obtain⟨e1,_⟩:=Al hok.agr hgs hx
 simp only[SV.den]at e1
 have hm:=Lib.run_unsafeSliceData_nil (P:=C.P) w ts o.type n c
 refine⟨?_,trivial⟩
 simp only[execOp,ho,resolve]
 simp[invoke,builtin,e1,hm,SV.den]
theorem xd_sdRow {α:Type} {C:Cx} {all:List Oper} {o:Oper} {r:List Oper} {Q:St→Prop} {st:St} {u:Im} (Y:Lay α) (L:List α) {d k e:Nat} {x:Operand} {ts:Array TypeId}
 (ho:o.op=.call {callee:=.builtin .unsafeSliceData,args:=#[x],argTypes:=ts}) (hgd:o.guard=none) (hd:o.dst=some d) (hfr:Bg C.N st d []=true)
 (hx:opd st [] x=some (.r k)) (hk:look st.ow k=some (.row e (Y.d L))) (hL:L≠[])
 (K:XD C all r Q (st.put d [] (.e k 1 0 0)) u):XD C all (o::r) Q st u:=by
 refine xd_sv (.e k 1 0 0) hgd hd (fun c' hc'=>by rw[ho]at hc';cases hc') hfr (fun E a w hok=>?_) K
 have hgs:gs a.tmps []:=fun x hx=>by cases hx
 obtain⟨e1,hlt,_⟩:=Al hok.agr hgs hx
 obtain⟨f,hsat⟩:=hok.sat
 have hrow:=(hsat.holds k _ hk).1
 rw[Lay.d_n]at hrow
 have h0:L.length≠0:=fun h=>hL (List.eq_nil_of_length_eq_zero h)
 rcases hrow.2 with⟨_,hn⟩|⟨g,cap,cur,hv,_,hg,hnc,hcm,hcs,htake⟩
 exact absurd hn h0
 have e1':a.eval x=E k:=e1
 rw[hv]at e1'
 have hden:(SV.e k 1 0 0).den E=.pointer (some ⟨g,0,none⟩):=by
  simp only[SV.den,elOf,hv]
  rfl
 have hm:=Lib.run_unsafeSliceData_row (P:=C.P) w ts o.type ⟨g,0,none⟩ L.length cap (by omega)
 refine⟨?_,hlt,_,_,_,hv,Int.le_refl _,by omega⟩
 rw[hden]
 simp only[execOp,ho,resolve]
 simp[invoke,builtin,e1',hm]
theorem xl_usNone {C:Cx} {all:List Oper} {o:Oper} {r:List Oper} {Q:Bb} {kn:Kn} {gk:List (Nat×(Gd×SV))} {ow:Own} {nx:Nat} {u:Im} {d pt it:Nat} {x y:Operand} {q:Option Addr}
 (ho:o.op=.call {callee:=.builtin .unsafeString,args:=#[x,y],argTypes:=#[pt,it]}) (hgd:o.guard=none) (hd:o.dst=some d) (hfr:Bg C.N ⟨kn,gk,ow,nx⟩ d []=true)
 (hx:opd ⟨kn,gk,ow,nx⟩ [] x=some (.v (.pointer q))) (hy:opd ⟨kn,gk,ow,nx⟩ [] y=some (.v (.int .i64 0)))
 (K:XL C all r Q ⟨(d,.v (.string ⟨#[]⟩))::kn,gk,ow,nx⟩ u):XL C all (o::r) Q ⟨kn,gk,ow,nx⟩ u:=by
 refine xl_val _ hgd hd (fun c hc=>by rw[ho]at hc;cases hc) hfr (fun E a w hok=>?_) K
 have hgs:gs a.tmps []:=fun x hx=>by cases hx
 obtain⟨e1,_⟩:=Al hok.agr hgs hx
 obtain⟨e2,_⟩:=Al hok.agr hgs hy
 simp only[SV.den]at e1 e2
 have hm:=Lib.run_unsafeString_none (P:=C.P) w pt it o.type q
 simp only[execOp,ho,resolve]
 simp[invoke,builtin,e1,e2,hm]
 rfl
theorem xl_usRow {C:Cx} {all:List Oper} {o:Oper} {r:List Oper} {Q:Bb} {kn:Kn} {gk:List (Nat×(Gd×SV))} {ow:Own} {nx:Nat} {u:Im} (L:List UInt8) {d pt it e k:Nat} {x y:Operand}
 (ho:o.op=.call {callee:=.builtin .unsafeString,args:=#[x,y],argTypes:=#[pt,it]}) (hgd:o.guard=none) (hd:o.dst=some d) (hfr:Bg C.N ⟨kn,gk,ow,nx⟩ d []=true)
 (hx:opd ⟨kn,gk,ow,nx⟩ [] x=some (.e k 1 0 0)) (hy:opd ⟨kn,gk,ow,nx⟩ [] y=some (.v (.int .i64 (L.length:Int)))) (hk:look ow k=some (.row e (byteY.d L))) (hL:L≠[])
 (hp:C.P.underlying pt=some (.pointer e)) (hc:C.P.cellsOf e=1)
 (K:XL C all r Q ⟨(d,.v (.string ⟨L.toArray⟩))::kn,gk,(k,.emp)::ow,nx⟩ u):XL C all (o::r) Q ⟨kn,gk,ow,nx⟩ u:=by
 unfold XL at K ⊢
 intro E a w hok
 have hgs:gs a.tmps []:=fun x hx=>by cases hx
 obtain⟨e1,_⟩:=Al hok.agr hgs hx
 obtain⟨e2,_⟩:=Al hok.agr hgs hy
 obtain⟨f,hsat⟩:=hok.sat
 obtain⟨hrow,hF⟩:=hsat.holds k _ hk
 rw[Lay.cs_length,Lay.d_n,byteY_flat]at hrow
 have hrow':w.ownsRow 0 e 1 (E k) L.length (Lib.byteCells L):=hrow
 have h0:L.length≠0:=fun h=>hL (List.eq_nil_of_length_eq_zero h)
 rcases hrow'.2 with⟨_,hn⟩|⟨g,cap,cur,hv,_,hg,hnc,hcm,hcs,htake⟩
 exact absurd hn h0
 have hden:(SV.e k 1 0 0).den E=.pointer (some ⟨g,0,none⟩):=by
  simp only[SV.den,elOf,hv]
  rfl
 rw[hden]at e1
 simp only[SV.den]at e2
 have hmax:maxLen=9223372036854775807:=by decide
 have hrun:=Lib.run_unsafeString_row (P:=C.P) w pt it o.type e hp hc g cur.size (by simp[World.shape?,hg]) L hL (by omega) (by omega) (fun j x hx=>by
  exact hrow'.cells (g:=g) (by rw[hv];rfl) j (.int .u8 x.toNat) (by simp[Lib.byteCells,hx]))
 have hrun2:(execOp a.eval o).run C.P w=.ok (.value (.string ⟨L.toArray⟩)) (w.freeze ⟨g,0,none⟩ L.length):=by
  simp only[execOp,ho,resolve]
  simp[invoke,builtin,e1,e2,hrun]
 refine xl_wp hgd (fun c hc=>by rw[ho]at hc;cases hc) hrun2 ?_
 rw[hd]
 obtain⟨F,hfz⟩:∃F:Obj→Obj,w.freeze ⟨g,0,none⟩ L.length={w with heap:=w.heap.modify g F}:=by
  unfold World.freeze
  rw[if_neg h0]
  exact⟨_,rfl⟩
 have hother:∀b,b≠g→(w.freeze ⟨g,0,none⟩ L.length).heap[b]?=w.heap[b]?:=fun b hb=>by
  rw[hfz]
  simp[Array.getElem?_modify,Ne.symm hb]
 have hsz:(w.freeze ⟨g,0,none⟩ L.length).heap.size=w.heap.size:=by rw[hfz];simp
 have hgF:f k g:=(hF g).2 (by rw[hv];rfl)
 have himm:Imm u (w.freeze ⟨g,0,none⟩ L.length):=
  ⟨fun b x hb=>by rw[hother b (fun e=>by subst e;rw[hsat.off k b hgF]at hb;cases hb)];exact hsat.imm.h b x hb,by rw[hfz];exact hsat.imm.os,by rw[hfz];exact hsat.imm.tape,by rw[hfz];exact hsat.imm.output,by rw[hsz];exact hsat.imm.lo⟩
 have hsat2:Sat E ((k,.emp)::ow) nx u a.defers (w.freeze ⟨g,0,none⟩ L.length) (upd f k (fun _=>False)):=by
  refine hsat.step (fun j=>j=k) (fun _ _=>rfl) (Nat.le_refl _) (Im.le.refl u) himm (Nat.le_of_eq hsz.symm) (fun b _ hno=>hother b (fun e=>hno k rfl (e▸hgF))) ?_ ?_ ?_ (fun b o ho=>.inl ho)
  intro j hj
  exact⟨by rw[Ac,if_neg (Ne.symm hj)],fun b=>by rw[An _ _ hj]⟩
  rintro j rfl
  refine⟨fun r hr=>?_,fun hr=>?_,fun b hb=>?_⟩
  rw[Ac,if_pos rfl]at hr
  cases hr
  exact⟨fun x hx=>by rw[Ak]at hx;exact hx,(hsat.lt _ _ hk).1,trivial⟩
  rw[Ac,if_pos rfl]at hr;cases hr
  rw[Ak]at hb;exact hb.elim
  intro j j' b hj hj' hne;subst hj hj';exact absurd rfl hne
 have hput:Agr C.N E (St.put ⟨kn,gk,(k,.emp)::ow,nx⟩ d [] (.v (.string ⟨L.toArray⟩))) (a.tmps.setIfInBounds d (.string ⟨L.toArray⟩)):=by
  have h1:Agr C.N E ⟨kn,gk,(k,.emp)::ow,nx⟩ a.tmps:=⟨hok.agr.size,hok.agr.kn,hok.agr.gk,hok.agr.klt,hok.agr.glt⟩
  exact h1.put (g:=[]) hfr (fun _=>trivial) (fun _=>rfl) (fun hn=>absurd (fun x hx=>(by cases hx)) hn) (fun _=>rfl)
 exact K E (a.put (some d) _) _ ⟨⟨hput.size,hput.kn,hput.gk,hput.klt,hput.glt⟩,_,hsat2⟩
theorem As {α:Type} {T:TT} {C:Cx} (hT:TOk C.P T) {all:List Oper} {o:Oper} {r:List Oper} {Q:Bb} {kn:Kn} {gk:List (Nat×(Gd×SV))} {ow:Own} {nx:Nat} {u:Im}
 (Y:Lay α) (L:List α) (xs:List Operand) {t e d n:Nat} {parts:Array (Nat×Operand)} {zs:List SV} {ti te:TI} (ho:o.op=.buildSlice t n parts) (hgd:o.guard=none) (hd:o.dst=some d)
 (hti:look T t=some ti) (hsh:ti.shp=.slice e) (hte:look T e=some te) (hsz:te.sz=Y.fs.length) (hpos:Nat.blt 0 te.sz=true) (hn:n=L.length) (hL:Nat.blt 0 n=true) (hsm:Nat.ble (n*te.sz) 1000000=true)
 (hparts:parts.toList=(xs.zipIdx 0).map fun x=>(x.2,x.1)) (hzs:argsOf ⟨kn,gk,ow,nx⟩ [] xs=some zs) (hcs:zs.map (cellsOf te)=L.map (fun x=>some ((Y.el x).map .v)))
 (hf:Bg C.N ⟨kn,gk,ow,nx⟩ d []=true)
 (K:XL C all r Q ⟨(d,.r nx)::kn,gk,(nx,.row e (Y.d L))::ow,nx+1⟩ u):XL C all (o::r) Q ⟨kn,gk,ow,nx⟩ u:=by
 unfold XL at K ⊢
 intro E a w hok
 obtain⟨f,hsat⟩:=hok.sat
 have hgs:gs a.tmps []:=fun x hx=>by cases hx
 have htik:=hT _ _ hti
 have htek:=hT _ _ hte
 obtain⟨i,i1,i2,i3⟩:=htek.get
 have hpos':=Cp hpos
 obtain⟨e1,e2⟩:=argsOf_sound hok.agr hgs hzs
 have hcells:∀(zs:List SV) (L:List α),zs.map (cellsOf te)=L.map (fun x=>some ((Y.el x).map .v))→(∀s∈zs,s.lt E nx) →
  (∀v∈zs.map (SV.den E),v.cells.size=te.sz)∧(zs.map (SV.den E)).flatMap (fun v=>v.cells.toList)=L.flatMap Y.el∧zs.length=L.length:=by
  intro zs
  induction zs with
  |nil=>
   intro L h _
   cases L with
   |nil=>exact⟨fun v hv=>absurd hv (by simp),rfl,rfl⟩
   |cons x L=>simp at h
  |cons s zs ih=>
   intro L h hl
   cases L with
   |nil=>simp at h
   |cons x L=>
    simp only[List.map_cons,List.cons.injEq]at h
    obtain⟨c1,_,c3,_⟩:=cellsOf_spec htek h.1 (hl s (List.mem_cons_self ..))
    obtain⟨h1,h2,h3⟩:=ih L h.2 (fun s hs=>hl s (List.mem_cons_of_mem _ hs))
    have c3':(s.den E).cells=(Y.el x).toArray:=by rw[c3,List.map_map];simp[Function.comp_def,SV.den]
    refine⟨fun v hv=>?_,?_,by simp[h3]⟩
    rw[List.map_cons]at hv
    rcases List.mem_cons.1 hv with rfl|hv
    rw[c3'];simp only[List.size_toArray];rw[Lay.el_length,hsz]
    exact h1 v hv
    simp only[List.map_cons,List.flatMap_cons,h2,c3']
 obtain⟨hc1,hc2,hc3⟩:=hcells zs L hcs e2
 have hparts':(parts.map fun x=>(x.1,a.eval x.2)).toList=((zs.map (SV.den E)).zipIdx 0).map fun x=>(x.2,x.1):=by
  rw[Array.toList_map,hparts,←e1,List.zipIdx_map]
  simp[Function.comp_def]
 have hn0:0<n:=Cp hL
 have hnsz:n*te.sz≤1000000:=Nat.le_of_ble_eq_true hsm
 have hnp:0<n*te.sz:=Nat.mul_pos hn0 hpos'
 have hflat:(Y.d L).flat=(zs.map (SV.den E)).flatMap fun v=>v.cells.toList:=by rw[Lay.flat,hc2]
 have hrun0:=run_buildSlice (P:=C.P) w t e n (parts.map fun x=>(x.1,a.eval x.2)) ((zs.map (SV.den E)).flatMap fun v=>v.cells.toList).toArray i te.zv (htik.isSlice hsh) i1 i3 (by rw[i2];omega) (by rw[i2];omega) (by
  rw[hparts',i2]
  exact Great.fill_whole hpos' _ _ hc1 (by simp[hc3,hn]))
 have hrun:(execOp a.eval o).run C.P w=.ok (.value (.slice (some ⟨w.heap.size,0,none⟩) n n)) (w.alloc (.cells (Y.d L).flat.toArray e)):=by
  rw[hflat]
  simp only[execOp,ho]
  rw[Sem.run_bind,hrun0];rfl
 refine xl_wp hgd (fun c hc=>by rw[ho]at hc;cases hc) hrun ?_
 rw[hd]
 have hbel:Below w.heap.size w (w.alloc (.cells (Y.d L).flat.toArray e)):=⟨rfl,rfl,rfl,by rw[World.size_alloc];omega,fun b hb=>Below.heap_alloc _ _ _ hb⟩
 have hfl:(Y.d L).flat.length=n * (Y.d L).cs.length:=by rw[Lay.flat_length,Lay.cs_length,hn]
 have hmax:n≤maxLen:=by
  have:n*1≤n*te.sz:=Nat.mul_le_mul_left _ hpos'
  have:maxLen=9223372036854775807:=by decide
  omega
 have hown:(w.alloc (.cells (Y.d L).flat.toArray e)).ownsRow 0 e (Y.d L).cs.length (.slice (some ⟨w.heap.size,0,none⟩) n n) (Y.d L).n (Y.d L).flat:=
  ⟨GV.flat_length _,.inr ⟨w.heap.size,n,(Y.d L).flat.toArray,by rw[Lay.d_n,hn],Nat.zero_le _,heap_alloc_new w _,by rw[Lay.d_n];omega,hmax,by simpa using hfl,by
   rw[Lay.d_n,←hn]
   simp only[←hfl]
   exact List.take_length ..⟩⟩
 have hv:=ownAt_of (lo:=w.heap.size) hown (fun b hb=>by cases hb;exact Nat.le_refl _)
 have hE:∀j,j<nx→upd E nx (.slice (some ⟨w.heap.size,0,none⟩) n n) j=E j:=fun j hj=>An _ _ (by omega)
 have hg:=hok.agr.grow (E':=upd E nx (.slice (some ⟨w.heap.size,0,none⟩) n n)) (ow:=(nx,.row e (Y.d L))::ow) (nx:=nx+1) hE (Nat.le_succ _)
 have hput:=hg.put (g:=[]) (d:=d) (s:=.r nx) (x:=.slice (some ⟨w.heap.size,0,none⟩) n n) hf (fun _=>⟨Nat.lt_succ_self _,_,_,_,Ak _ _ _⟩) (fun _=>(by simp only[SV.den,Ak])) (fun hn=>absurd (fun x hx=>(by cases hx)) hn) (fun _=>(by simp only[SV.den,Ak]))
 have:=K _ (a.put (some d) (.slice (some ⟨w.heap.size,0,none⟩) n n)) _ ⟨⟨hput.size,hput.kn,hput.gk,hput.klt,hput.glt⟩,_,hsat.take hbel hv⟩
 exact Av (fun e a w=>Cd.mono hE (Nat.le_succ _) (Im.le.refl u)) _ _ _ this
theorem xl_bytesStr {C:Cx} {all:List Oper} {o:Oper} {r:List Oper} {Q:Bb} {kn:Kn} {gk:List (Nat×(Gd×SV))} {ow:Own} {nx:Nat} {u:Im} (L:List UInt8) {src dst e d:Nat} {x:Operand} {z:SV}
 (ho:o.op=.convert src dst x) (hgd:o.guard=none) (hd:o.dst=some d) (hfr:Bg C.N ⟨kn,gk,ow,nx⟩ d []=true)
 (hs:C.P.underlying src=some (.slice e)) (he:C.P.underlying e=some (.int .u8)) (hds:C.P.underlying dst=some .string)
 (hx:opd ⟨kn,gk,ow,nx⟩ [] x=some z) (hz:∀E w F,Sat E ow nx u [] w F→Aw (im w) (z.den E) (byteY.d L))
 (K:XL C all r Q ⟨(d,.v (.string ⟨L.toArray⟩))::kn,gk,ow,nx⟩ u):XL C all (o::r) Q ⟨kn,gk,ow,nx⟩ u:=by
 refine xl_val _ hgd hd (fun c hc=>by rw[ho]at hc;cases hc) hfr (fun E a w hok=>?_) K
 have hgs:gs a.tmps []:=fun x hx=>by cases hx
 obtain⟨e1,_⟩:=Al hok.agr hgs hx
 obtain⟨f,hsat⟩:=hok.sat
 obtain⟨A,c,h1,h2,h3,h4⟩:=hz E w f hsat.unmarked
 rw[h1,Lay.d_n]at e1
 have hrun:(convert src dst (.slice A L.length c)).run C.P w=.ok (.string ⟨L.toArray⟩) w:=by
  rcases Nat.eq_zero_or_pos L.length with h0|h0
  have hL:L=[]:=List.eq_nil_of_length_eq_zero h0
  subst hL
  cases A with
  |none=>exact run_convert_bytes_nil w src e hs he _ _ dst hds
  |some ad=>exact run_convert_bytes_back w src dst e ad c [] hs he hds (fun j hj=>absurd hj (Nat.not_lt_zero _))
  obtain⟨ad,rfl,h6⟩:=h4 h0
  refine run_convert_bytes_back w src dst e ad c L hs he hds (fun j hj=>?_)
  have:=h6 j hj 0 (fun i=>.int .u8 ((L.getD i.toNat 0).toNat:Int)) rfl
  rw[Lay.cs_length]at this
  have e0:j*byteY.fs.length+0=j:=by show j*1+0=j;omega
  rw[e0]at this
  have h7:w.cell? (ad.add j)=(im w).cell? (ad.add j):=rfl
  rw[h7,this]
  simp only[Int.toNat_natCast,List.getD_eq_getElem?_getD,List.getElem?_eq_getElem hj,Option.getD_some]
 simp only[execOp,ho]
 rw[e1,Sem.run_bind,hrun];rfl
structure Step (w:World) (F:Nat→Prop) (w':World) (F':Nat→Prop):Prop where
 os:w'.os=w.os
 tape:w'.tape=w.tape
 output:w'.output=w.output
 size:w.heap.size≤w'.heap.size
 same:∀b,b<w.heap.size→¬F b→w'.heap[b]?=w.heap[b]?
 foot:∀b,F' b→F b∨w.heap.size≤b
def YieldTo (P:Program) (l:Nat) (x:Value) (w:World) (R:Ending→World→Prop):Prop:=
 ∃f tmps assign body,(Instr.yield l #[x]).run P w=.ok (.round l f tmps assign body) w∧RoundIn (FR none) 0 P l f tmps assign body w R
structure Im.ext (u u':Im):Prop where
 h:∀b o,u.h b=some o→u'.h b=some o
 os:u'.os=u.os
 tape:u'.tape=u.tape
 output:u'.output=u.output
 lo:u.lo≤u'.lo
theorem Im.le.ext {u u':Im} (h:u.le u'):u.ext u':=⟨h.h,h.os,h.tape,h.output,Nat.le_of_eq h.lo.symm⟩
theorem Im.ext.trans {a b c:Im} (h:a.ext b) (k:b.ext c):a.ext c:=
 ⟨fun x o hx=>k.h x o (h.h x o hx),k.os.trans h.os,k.tape.trans h.tape,k.output.trans h.output,Nat.le_trans h.lo k.lo⟩
theorem Im.ext.sub {u u':Im} (h:u.ext u'):u.sub u':=⟨h.h⟩
theorem Imm.of_ext {u u':Im} {w:World} (h:Imm u' w) (hu:u.ext u'):Imm u w:=
 ⟨fun b o hb=>h.h b o (hu.h b o hb),h.os.trans hu.os,h.tape.trans hu.tape,h.output.trans hu.output,Nat.le_trans hu.lo h.lo⟩
structure Wp (u0:Im) where
 h:(Nat→Prop)→World→Prop
 loc:∀F w w',h F w→(∀b,F b→w'.heap[b]?=w.heap[b]?)→Imm u0 w'→w.heap.size≤w'.heap.size→h F w'
 fin:∀F w,h F w→∀b,F b→b<w.heap.size
def Wp.hp {u0:Im} (Y:Wp u0):Hp where
 h:=fun u F w=>Y.h F w∧u0.ext u
 loc:=fun _ F w w' hY hF hi hz=>⟨Y.loc F w w' hY.1 hF (hi.of_ext hY.2) hz,hY.2⟩
 mono:=fun _ _ _ _ hY hu _=>⟨hY.1,hY.2.trans hu.ext⟩
 fin:=fun _ F w hY b hb=>Y.fin F w hY.1 b hb
def Rounds (P:Program) (l:Nat) {u0:Im} (Y:Nat→Wp u0) (Z:Wp u0) (xs:List Value):Prop:=
 ∀k x w F,xs[k]?=some x→Imm u0 w→(Y k).h F w→(∀b,F b→u0.h b=none) →
  YieldTo P l x w fun e w'=>∃F',Step w F w' F'∧((e=.returned (.bool true)∧(Y (k+1)).h F' w')∨(e=.returned (.bool false)∧Z.h F' w'))
def Iter (P:Program) (gf:Nat) (caps:Array Value) (xs:List Value) (u0:Im):Prop:=
 ∀l (Y:Nat→Wp u0) (Z:Wp u0) w F,Rounds P l Y Z xs→Imm u0 w→(Y 0).h F w→(∀b,F b→u0.h b=none) →
  Calls P gf (#[.func (.yield l) #[] #[]]++caps) w fun e w'=>∃v F',e=.returned v∧Step w F w' F'∧((Y xs.length).h F' w'∨Z.h F' w')
theorem Imm.of_step {u:Im} {w w':World} {F F':Nat→Prop} (h:Imm u w) (hs:Step w F w' F') (hoff:∀b,F b→u.h b=none):Imm u w':=by
 refine⟨fun b o hb=>?_,hs.os.trans h.os,hs.tape.trans h.tape,hs.output.trans h.output,Nat.le_trans h.lo hs.size⟩
 have hlt:b<w.heap.size:=(Array.getElem?_eq_some_iff.1 (h.h b o hb)).1
 rw[hs.same b hlt (fun hF=>by rw[hoff b hF]at hb;cases hb)]
 exact h.h b o hb
theorem xl_yield {C:Cx} (hro:C.ro=none) {all:List Oper} {o:Oper} {r:List Oper} {Q:Bb} {kn:Kn} {gk:List (Nat×(Gd×SV))} {ow:Own} {nx:Nat} {u u0:Im} {c:Call} {l kY k d:Nat} {Y:Nat→Wp u0} {Z:Wp u0} {xs:List Value} {x:Value} {fo:Operand}
 (hR:Rounds C.P l Y Z xs) (ho:o.op=.call c) (hgd:o.guard=none) (hd:o.dst=some d) (hc:c.callee=.value fo) (hfo:opd ⟨kn,gk,ow,nx⟩ [] fo=some (.v (.func (.yield l) #[] #[])))
 (hargs:argsOf ⟨kn,gk,ow,nx⟩ [] c.args.toList=some [.v x]) (hfr:Bg C.N ⟨kn,gk,ow,nx⟩ d []=true) (hY:look ow kY=some (.gen (Y k).hp)) (hx:xs[k]?=some x)
 (K1:XL C all r Q ⟨(d,.v (.bool true))::kn,gk,(kY,.gen (Y (k+1)).hp)::ow,nx⟩ u)
 (K2:XL C all r Q ⟨(d,.v (.bool false))::kn,gk,(kY,.gen Z.hp)::ow,nx⟩ u):XL C all (o::r) Q ⟨kn,gk,ow,nx⟩ u:=by
 obtain⟨P,ro,N⟩:=C
 simp only at hro
 subst hro
 unfold XL
 intro E a w hok
 obtain⟨f,hsat⟩:=hok.sat
 have hgs:gs a.tmps []:=fun x hx=>by cases hx
 obtain⟨ef,_⟩:=Al hok.agr hgs hfo
 obtain⟨ea,_⟩:=argsOf_sound hok.agr hgs hargs
 simp only[SV.den]at ef
 obtain⟨hYw,hext⟩:(Y k).hp.h u (f kY) w:=hsat.holds kY _ hY
 have hoff0:∀b,f kY b→u0.h b=none:=fun b hb=>by
  cases h0:u0.h b with
  |none=>rfl
  |some o=>have h1:=hext.h b o h0;rw[hsat.off kY b hb]at h1;cases h1
 obtain⟨fn,tmps,asg,body,hrun,hround⟩:=hR k x w (f kY) hx (hsat.imm.of_ext hext) hYw hoff0
 have ea':c.args.map a.eval=#[x]:=by
  apply Array.ext'
  simpa[SV.den]using ea
 have hrun2:(execOp a.eval o).run P w=.ok (.round l fn tmps asg body) w:=by
  simp only[execOp,ho]
  simp[resolve,hc,ef,Deferred.ofValue,invoke,ea',hrun]
 unfold wpListIn
 rw[if_pos (by simp[Region.wanted,hgd])]
 refine⟨fun _ _=>trivial,?_⟩
 rw[semAt_eq _ _ _ (fun c' hc'=>by rw[ho]at hc';cases hc'),hrun2,Oper.uponIn_round]
 refine⟨fun h=>(by cases h),RoundIn.mono hround ?_⟩
 rintro e w' ⟨F',hst,hh⟩
 have himm:Imm u w':=hsat.imm.of_step hst (fun b hb=>hsat.off kY b hb)
 have main:∀(b:Bool) (A:Hp),A.h u F' w'→(XL ⟨P,none,N⟩ all r Q ⟨(d,.v (.bool b))::kn,gk,(kY,.gen A)::ow,nx⟩ u) →
  wpListIn (FR none) 0 P all.toArray (Cd ⟨P,none,N⟩ E nx u Q) r (a.put o.dst (.bool b)) w':=by
  intro b A hA K
  unfold XL at K
  have hs2:Sat E ((kY,.gen A)::ow) nx u a.defers w' (upd f kY F'):=by
   refine hsat.step (fun j=>j=kY) (fun _ _=>rfl) (Nat.le_refl _) (Im.le.refl u) himm hst.size (fun b hb hno=>hst.same b hb (hno kY rfl)) ?_ ?_ ?_ (fun b o ho=>.inl ho)
   intro j hj
   exact⟨by rw[Ac,if_neg (Ne.symm hj)],fun b=>by rw[An _ _ hj]⟩
   rintro j rfl
   refine⟨fun r hr=>?_,fun hr=>?_,fun b hb=>?_⟩
   rw[Ac,if_pos rfl]at hr
   cases hr
   refine⟨?_,(hsat.lt _ _ hY).1,trivial⟩
   simp only[Rs.holds,Ak];exact hA
   rw[Ac,if_pos rfl]at hr;cases hr
   rw[Ak]at hb
   refine⟨(hst.foot b hb).imp (fun h=>⟨j,rfl,h⟩) id,?_⟩
   rcases hst.foot b hb with h|h
   exact hsat.off j b h
   cases hub:u.h b with
   |none=>rfl
   |some o=>have:=(Array.getElem?_eq_some_iff.1 (hsat.imm.h b o hub)).1;omega
   intro j j' b hj hj' hne;subst hj hj';exact absurd rfl hne
  have hag:Agr N E ⟨kn,gk,(kY,.gen A)::ow,nx⟩ a.tmps:=⟨hok.agr.size,hok.agr.kn,hok.agr.gk,hok.agr.klt,hok.agr.glt⟩
  have hput:=hag.put (g:=[]) (d:=d) (s:=.v (.bool b)) (x:=.bool b) hfr (fun _=>trivial) (fun _=>rfl) (fun hn=>absurd (fun x hx=>(by cases hx)) hn) (fun _=>rfl)
  rw[hd]
  exact K E (a.put (some d) (.bool b)) w' ⟨⟨hput.size,hput.kn,hput.gk,hput.klt,hput.glt⟩,_,hs2⟩
 rcases hh with⟨rfl,hA⟩|⟨rfl,hA⟩
 exact main true (Y (k+1)).hp ⟨hA,hext⟩ K1
 exact main false Z.hp ⟨hA,hext⟩ K2
theorem x_iter {T:TT} {P:Program} (hT:TOk P T) {gf N:Nat} {fn:Func} {c:Code} (hf:P.funcs[gf]?=some fn) (hb:fn.body=some c) (hN:fn.ntmps=N)
 {caps:Array Value} {xs:List Value} {u0:Im} (bs:List (Value×Data)) (ss:List SV) (E:Env) (hE:∀j (b:Value×Data),bs[j]?=some b→E (j+1)=b.1)
 (hcaps:caps=(ss.map (SV.den E)).toArray) (hle:Nat.ble (ss.length+1) N=true) (hss:∀s∈ss,s.lt E (bs.length+1)) (hbs:∀b∈bs,Aw u0 b.1 b.2)
 (h:∀l (Y:Nat→Wp u0) (Z:Wp u0) u,u0.ext u→Rounds P l Y Z xs→X ⟨P,none,N⟩ c (FinQ T fn.results.toList fun _ st _=>look st.ow 0=some (.gen (Y xs.length).hp)∨look st.ow 0=some (.gen Z.hp))
  ⟨knOf 0 (.v (.func (.yield l) #[] #[])::ss),[],(0,.gen (Y 0).hp)::ownOf 1 bs,bs.length+1⟩ u):Iter P gf caps xs u0:=by
 classical
 intro l Y Z w F hR himm hY0 hoff
 let v:Im:={h:=fun b=>if F b then none else w.heap[b]?,os:=w.os,tape:=w.tape,output:=w.output,lo:=w.heap.size}
 have hv:∀b,¬F b→v.h b=w.heap[b]?:=fun b hb=>by show(if F b then none else w.heap[b]?)=_;rw[if_neg hb]
 have hvF:∀b,F b→v.h b=none:=fun b hb=>by show(if F b then none else w.heap[b]?)=_;rw[if_pos hb]
 have huv:u0.ext v:=⟨fun b o ho=>by rw[hv b (fun hF=>by rw[hoff b hF]at ho;cases ho)];exact himm.h b o ho,himm.os,himm.tape,himm.output,himm.lo⟩
 have himmv:Imm v w:=⟨fun b o ho=>by
  by_cases hb:F b
  rw[hvF b hb]at ho;cases ho
  rw[hv b hb]at ho;exact ho,rfl,rfl,rfl,Nat.le_refl _⟩
 have hsat:Sat E ((0,.gen (Y 0).hp)::ownOf 1 bs) (bs.length+1) v [] w (fun k b=>k=0∧F b):=by
  have hol:∀k r,look (ownOf 1 bs) k=some r→∃j b,k=j+1∧bs[j]?=some b∧r=.sl b.2:=fun k r hl=>by
   obtain⟨h1,b,h2,h3⟩:=ownOf_look hl
   exact⟨k-1,b,by omega,h2,h3⟩
  refine⟨fun k r hl=>?_,fun k hl b hb=>?_,fun k k' b hne h1 h2=>hne (h1.1.trans h2.1.symm),fun k b hb=>hvF b hb.2,fun k r hl=>?_,himmv,[],rfl,List.nodup_nil,fun d hd=>by cases hd⟩
  rw[Ac]at hl
  split at hl
  rename_i e;subst e;cases hl
  have:(fun b=>(0:Nat)=0∧F b)=F:=funext fun b=>propext ⟨fun h=>h.2,fun h=>⟨rfl,h⟩⟩
  show(Y 0).hp.h v (fun b=>(0:Nat)=0∧F b) w
  rw[this]
  exact⟨hY0,huv⟩
  rename_i e
  obtain⟨j,b,rfl,hj,rfl⟩:=hol k r hl
  refine⟨?_,fun x hx=>e hx.1.symm⟩
  rw[hE j b hj]
  exact(hbs b (List.mem_of_getElem? hj)).sub huv.sub
  obtain⟨rfl,_⟩:=hb
  rw[Ac,if_pos rfl]at hl;cases hl
  rw[Ac]at hl
  split at hl
  rename_i e;subst e;cases hl;exact⟨Nat.succ_pos _,trivial⟩
  obtain⟨j,b,rfl,hj,rfl⟩:=hol k r hl
  exact⟨Nat.succ_lt_succ (List.getElem?_eq_some_iff.1 hj).1,trivial⟩
 refine(callsIn_wide (n:=0)).1 (callsIn_of_wp_marks hf hb trivial ?_ rfl)
 have hle':ss.length+1≤N:=Nat.le_of_ble_eq_true hle
 have hargs:(#[.func (.yield l) #[] #[]]++caps:Array Value)=((SV.v (.func (.yield l) #[] #[])::ss).map (SV.den E)).toArray:=by
  rw[hcaps]
  apply Array.ext'
  simp[SV.den]
 rw[hargs]
 have hlt:∀s∈(SV.v (.func (.yield l) #[] #[])::ss),s.lt E (bs.length+1):=fun s hs=>by
  rcases List.mem_cons.1 hs with rfl|hs
  trivial
  exact hss s hs
 have hagr:Agr N E ⟨knOf 0 (SV.v (.func (.yield l) #[] #[])::ss),[],(0,.gen (Y 0).hp)::ownOf 1 bs,bs.length+1⟩ (((SV.v (.func (.yield l) #[] #[])::ss).map (SV.den E)).toArray++Array.replicate (fn.ntmps-(((SV.v (.func (.yield l) #[] #[])::ss).map (SV.den E)).toArray).size) undef):=by
  refine⟨?_,?_,fun d g s h=>(by cases h),?_,fun d g s h=>(by cases h)⟩
  rw[hN];simp;omega
  intro d s _ h2
  have h3:=(knOf_look h2).2
  rw[Nat.sub_zero]at h3
  have hd:d<(SV.v (.func (.yield l) #[] #[])::ss).length:=(List.getElem?_eq_some_iff.1 h3).1
  rw[Array.getElem?_append_left (by simpa using hd)]
  simp only[List.getElem?_toArray,List.getElem?_map,h3,Option.map_some]
  intro d s h2
  exact hlt s (List.mem_of_getElem? (knOf_look h2).2)
 have hX:=h l Y Z v huv hR
 unfold X at hX
 refine Go.wpIn_mono (hX E {tmps:=((SV.v (.func (.yield l) #[] #[])::ss).map (SV.den E)).toArray++Array.replicate (fn.ntmps-(((SV.v (.func (.yield l) #[] #[])::ss).map (SV.den E)).toArray).size) undef,defers:=[]} w ⟨hagr,_,hsat⟩) ?_
 rintro e a' w' ⟨E',st',u',h1,h2,h3,hok',h5⟩
 obtain⟨f',hs⟩:=hok'.sat
 have fin:∀lr,resV T st' fn.results.toList=some lr→(look st'.ow 0=some (.gen (Y xs.length).hp)∨look st'.ow 0=some (.gen Z.hp)) →
  LeavesInM (FR none) 0 P fn a'.tmps (fun e w'=>∃v F',e=.returned v∧Step w F w' F'∧((Y xs.length).h F' w'∨Z.h F' w')) a'.defers .returning w':=by
  intro lr hl hA
  obtain⟨ds,hds,_⟩:=hs.marks
  rw[hds]at hs ⊢
  refine leaves (C:=⟨P,none,N⟩) hT hok'.agr hl (fun w'' hw=>?_) ds w' hs
  refine⟨_,f' 0,rfl,⟨hw.imm.os.trans h3.os,hw.imm.tape.trans h3.tape,hw.imm.output.trans h3.output,by have:=hw.imm.lo;rw[h3.lo]at this;exact this,fun b hb hF=>?_,fun b hb=>?_⟩,?_⟩
  have h1:v.h b=some (w.heap[b]'hb):=by rw[hv b hF];exact Array.getElem?_eq_getElem hb
  rw[hw.imm.h b _ (h3.h b _ h1),Array.getElem?_eq_getElem hb]
  by_cases hF:F b
  exact .inl hF
  rcases Nat.lt_or_ge b w.heap.size with hlt|hge
  have h1:v.h b=some (w.heap[b]'hlt):=by rw[hv b hF];exact Array.getElem?_eq_getElem hlt
  have h2:=h3.h b _ h1
  rw[hw.off 0 b hb]at h2;cases h2
  exact .inr hge
  rcases hA with hA|hA
  exact .inl (hw.holds 0 _ hA).1
  exact .inr (hw.holds 0 _ hA).1
 cases e with
 |normal=>
  simp only[FinQ]at h5
  split at h5
  rename_i l hl;exact fin l hl h5
  exact h5.elim
 |ret=>
  simp only[FinQ]at h5
  split at h5
  rename_i l hl;exact fin l hl h5
  exact h5.elim
 |exit id=>exact h5.elim
 |goto l=>exact h5.elim
 |panic c=>exact h5.elim
 |outgrown=>exact h5.elim
theorem Sat.local {E:Env} {o:Own} {nx:Nat} {u:Im} {df:List Deferred} {w w':World} {f:Nat→Nat→Prop} (h:Sat E o nx u df w f) (hw:∀k b,f k b→w'.heap[b]?=w.heap[b]?) (hi:Imm u w') (hz:w.heap.size≤w'.heap.size):Sat E o nx u [] w' f:=
 ⟨fun k r hl=>Rs.holds_local (hw k) hi hz (h.holds k r hl),h.non,h.apart,h.off,h.lt,hi,[],rfl,List.nodup_nil,fun d hd=>by cases hd⟩
theorem Sat.dropK {E:Env} {o:Own} {nx kf:Nat} {r0:Rs} {u:Im} {df:List Deferred} {w:World} {f:Nat→Nat→Prop} (h:Sat E ((kf,r0)::o) nx u df w f) (hfree:look o kf=none):Sat E o nx u df w (fun k b=>k≠kf∧f k b):=by
 have hl':∀k,k≠kf→look ((kf,r0)::o) k=look o k:=fun k hk=>by rw[Ac,if_neg (Ne.symm hk)]
 have hne:∀k r,look o k=some r→k≠kf:=fun k r hl e=>by subst e;rw[hfree]at hl;cases hl
 refine⟨fun k r hl=>?_,fun k hl b hb=>h.non k (by rw[hl' k hb.1];exact hl) b hb.2,fun k k' b hne h1 h2=>h.apart k k' b hne h1.2 h2.2,fun k b hb=>h.off k b hb.2,fun k r hl=>h.lt k r (by rw[hl' k (hne k r hl)];exact hl),h.imm,?_⟩
 have hk:=hne k r hl
 have:(fun b=>k≠kf∧f k b)=f k:=funext fun b=>propext ⟨fun h=>h.2,fun h=>⟨hk,h⟩⟩
 rw[this]
 exact h.holds k r (by rw[hl' k hk];exact hl)
 obtain⟨ds,h1,h2,h3⟩:=h.marks
 exact⟨ds,h1,h2,fun d hd=>⟨(h3 d hd).1,(h3 d hd).2.1,fun k hk=>(h3 d hd).2.2 k hk.2⟩⟩
def frameHp (S:Nat→Prop) (o:Nat→Option Obj) (n:Nat):Hp where
 h:=fun _ F w=>(∀b,F b↔S b)∧n≤w.heap.size∧∀b,S b→w.heap[b]?=o b∧b<w.heap.size
 loc:=fun _ F w w' ⟨h1,h0,h2⟩ hF _ hz=>⟨h1,Nat.le_trans h0 hz,fun b hb=>⟨(hF b ((h1 b).2 hb)).trans (h2 b hb).1,Nat.lt_of_lt_of_le (h2 b hb).2 hz⟩⟩
 mono:=fun _ _ _ _ h _ _=>h
 fin:=fun _ F w ⟨h1,_,h2⟩ b hb=>(h2 b ((h1 b).1 hb)).2
structure InL (keep:Nat) (E0:Env) (ue:Im) (l:Nat) (rec:Loop) (ms:List Nat) (ow:Own) (nx:Nat) (G:Im→Prop) (F:Nat→Prop) (w:World) (E:Env) (f:Nat→Nat→Prop) (uc:Im):Prop where
 g:G uc
 le:ue.le uc
 env:∀j,j<keep→E j=E0 j
 sat:Sat E ow nx uc [] w f
 loop:w.heap[l]?=some (.loop rec)
 ml:∀d∈ms,w.heap[d]?=some (.deferred (some []))∧uc.h d=none∧(∀k,¬f k d)∧F d
 lu:uc.h l=none
 lf:∀k,¬f k l
 lF:F l
 cov:∀b o,uc.h b=some o→ue.h b=some o∨F b
 fF:∀k b,f k b→F b
 fin:∀b,F b→b<w.heap.size
theorem InL.loc {keep:Nat} {E0:Env} {ue:Im} {l:Nat} {rec:Loop} {ms:List Nat} {ow:Own} {nx:Nat} {G:Im→Prop} {F:Nat→Prop} {w w':World} {E:Env} {f:Nat→Nat→Prop} {uc:Im} (h:InL keep E0 ue l rec ms ow nx G F w E f uc)
 (hF:∀b,F b→w'.heap[b]?=w.heap[b]?) (hi:Imm ue w') (hz:w.heap.size≤w'.heap.size):InL keep E0 ue l rec ms ow nx G F w' E f uc:=by
 have hi':Imm uc w':=⟨fun b o ho=>by
  rcases h.cov b o ho with h1|h1
  exact hi.h b o h1
  rw[hF b h1];exact h.sat.imm.h b o ho,hi.os.trans h.le.os.symm,hi.tape.trans h.le.tape.symm,hi.output.trans h.le.output.symm,by rw[h.le.lo];exact hi.lo⟩
 exact⟨h.g,h.le,h.env,h.sat.local (fun k b hb=>hF b (h.fF k b hb)) hi' hz,(hF l h.lF).trans h.loop,fun d hd=>⟨(hF d (h.ml d hd).2.2.2).trans (h.ml d hd).1,(h.ml d hd).2⟩,h.lu,h.lf,h.lF,h.cov,h.fF,
  fun b hb=>Nat.lt_of_lt_of_le (h.fin b hb) hz⟩
def inW (keep:Nat) (E0:Env) (ue:Im) (l:Nat) (ms:List Nat) {σ:Type} (rec:σ→Loop) (ow:σ→Own) (nx:σ→Nat) (G:σ→Im→Prop):Wp ue where
 h:=fun F w=>∃s E f uc,InL keep E0 ue l (rec s) ms (ow s) (nx s) (G s) F w E f uc
 loc:=fun _ _ _ ⟨s,E,f,uc,h⟩ hF hi hz=>⟨s,E,f,uc,h.loc hF hi hz⟩
 fin:=fun _ _ ⟨_,_,_,_,h⟩=>h.fin
theorem round_end {keep:Nat} {E0 E:Env} {ue uc u3:Im} {l:Nat} {rec rec':Loop} {ms:List Nat} {ow ow3:Own} {nx nx3:Nat} {G G3:Im→Prop} {F:Nat→Prop} {w w3:World} {f f4:Nat→Nat→Prop} {E4:Env}
 (hin:InL keep E0 ue l rec ms ow nx G F w E f uc) (himm:Imm ue w) (hu:uc.le u3) (hE:∀j,j<keep→E4 j=E0 j) {o2:Nat→Option Obj}
 (ho2:∀b,b≠l→(b<w.heap.size∧(∀k,¬f k b)∧uc.h b=none)→o2 b=w.heap[b]?)
 (hs:Sat E4 ((keep,.gen (frameHp (fun b=>b<w.heap.size∧(∀k,¬f k b)∧uc.h b=none) o2 w.heap.size))::ow3) nx3 u3 [] w3 f4) (hfree:look ow3 keep=none) (hg:G3 u3) :
 ∃F',Step w F (w3.putObj l (.loop rec')) F'∧∃f5,InL keep E0 ue l rec' ms ow3 nx3 G3 F' (w3.putObj l (.loop rec')) E4 f5 u3:=by
 obtain⟨hS,hn,hfr⟩:=hs.holds keep _ (by rw[Ac,if_pos rfl])
 have hlS:l<w.heap.size∧(∀k,¬f k l)∧uc.h l=none:=⟨(Array.getElem?_eq_some_iff.1 hin.loop).1,hin.lf,hin.lu⟩
 have hl3:l<w3.heap.size:=(hfr l hlS).2
 have hoffS:∀b,(b<w.heap.size∧(∀k,¬f k b)∧uc.h b=none)→u3.h b=none:=fun b hb=>hs.off keep b ((hS b).2 hb)
 have hapS:∀j b,j≠keep→f4 j b→¬(b<w.heap.size∧(∀k,¬f k b)∧uc.h b=none):=fun j b hj h1 h2=>hs.apart j keep b hj h1 ((hS b).2 h2)
 have hsz:(w3.putObj l (.loop rec')).heap.size=w3.heap.size:=by simp[World.putObj]
 have hoth:∀b,b≠l→(w3.putObj l (.loop rec')).heap[b]?=w3.heap[b]?:=fun b hb=>World.putObj_heap_other hb
 have hu3l:u3.h l=none:=hoffS l hlS
 have himm4:Imm u3 (w3.putObj l (.loop rec')):=⟨fun b o hb=>by rw[hoth b (fun e=>by subst e;rw[hu3l]at hb;cases hb)];exact hs.imm.h b o hb,hs.imm.os,hs.imm.tape,hs.imm.output,by rw[hsz];exact hs.imm.lo⟩
 have hsd:=hs.dropK hfree
 have hs4:=hsd.local (w':=w3.putObj l (.loop rec')) (fun k b hb=>hoth b (fun e=>by subst e;exact hapS k b hb.1 hb.2 hlS)) himm4 (Nat.le_of_eq hsz.symm)
 have hdl:∀d∈ms,d≠l:=fun d hd e=>by
  have h1:=(hin.ml d hd).1
  rw[e,hin.loop]at h1;cases h1
 have hdS:∀d∈ms,d<w.heap.size∧(∀k,¬f k d)∧uc.h d=none:=fun d hd=>by
  obtain⟨h1,h2,h3,_⟩:=hin.ml d hd
  exact⟨(Array.getElem?_eq_some_iff.1 h1).1,h3,h2⟩
 refine⟨fun b=>(∃j,j≠keep∧f4 j b)∨b=l∨b∈ms∨((∃o,u3.h b=some o)∧ue.h b=none),⟨?_,?_,?_,?_,?_,?_⟩,fun k b=>k≠keep∧f4 k b,⟨hg,hin.le.trans hu,hE,hs4,World.putObj_heap_same hl3,?_,hu3l,?_,.inr (.inl rfl),?_,fun k b hb=>.inl ⟨k,hb⟩,?_⟩⟩
 exact(hs.imm.os.trans (hu.os.trans hin.le.os)).trans himm.os.symm
 exact(hs.imm.tape.trans (hu.tape.trans hin.le.tape)).trans himm.tape.symm
 exact(hs.imm.output.trans (hu.output.trans hin.le.output)).trans himm.output.symm
 rw[hsz];exact hn
 intro b hb hF
 have hbl:b≠l:=fun e=>hF (e▸hin.lF)
 rw[hoth b hbl]
 cases hub:uc.h b with
 |some o=>rw[hs.imm.h b o (hu.h b o hub),hin.sat.imm.h b o hub]
 |none=>
  have hSb:b<w.heap.size∧(∀k,¬f k b)∧uc.h b=none:=⟨hb,fun k hk=>hF (hin.fF k b hk),hub⟩
  rw[(hfr b hSb).1,ho2 b hbl hSb]
 rintro b (⟨j,hj,hb⟩|rfl|hb|⟨⟨o,ho⟩,hb⟩)
 rcases Nat.lt_or_ge b w.heap.size with hlt|hge
 refine .inl (Classical.byContradiction fun hF=>hapS j b hj hb ⟨hlt,fun k hk=>hF (hin.fF k b hk),?_⟩)
 cases hub:uc.h b with
 |none=>rfl
 |some o=>have h1:=hu.h b o hub;rw[hs.off j b hb]at h1;cases h1
 exact .inr hge
 exact .inl hin.lF
 exact .inl (hin.ml b hb).2.2.2
 rcases Nat.lt_or_ge b w.heap.size with hlt|hge
 refine .inl (Classical.byContradiction fun hF=>?_)
 have hnS:¬(b<w.heap.size∧(∀k,¬f k b)∧uc.h b=none):=fun hSb=>by rw[hoffS b hSb]at ho;cases ho
 refine hnS ⟨hlt,fun k hk=>hF (hin.fF k b hk),?_⟩
 cases hub:uc.h b with
 |none=>rfl
 |some o'=>
  rcases hin.cov b o' hub with h1|h1
  rw[hb]at h1;cases h1
  exact absurd h1 hF
 exact .inr hge
 intro d hd
 have h1:=hdS d hd
 refine⟨?_,hoffS d h1,fun k hk=>hapS k d hk.1 hk.2 h1,.inr (.inr (.inl hd))⟩
 rw[hoth d (hdl d hd),(hfr d h1).1,ho2 d (hdl d hd) h1]
 exact(hin.ml d hd).1
 exact fun k hk=>hapS k l hk.1 hk.2 hlS
 intro b o ho
 cases hb:ue.h b with
 |none=>exact .inr (.inr (.inr (.inr ⟨⟨o,ho⟩,rfl⟩)))
 |some o'=>
  have:=(hin.le.trans hu).h b o' hb
  rw[ho]at this
  exact .inl this.symm
 rintro b (⟨j,hj,hb⟩|rfl|hb|⟨⟨o,ho⟩,hb⟩)
 rw[hsz];exact hs.fin hb
 rw[hsz];exact hl3
 rw[hsz];exact(hfr b (hdS b hb)).2
 rw[hsz];exact(Array.getElem?_eq_some_iff.1 (hs.imm.h b o ho)).1
theorem SV.lt_in {E:Env} {n n':Nat} {s:SV} (hi:s.inN n'=true) (h:s.lt E n):s.lt E n':=by
 cases s with
 |v x=>trivial
 |p k off=>exact⟨Cp hi,h.2⟩
 |r k=>exact⟨Cp hi,h.2⟩
 |e k sz i off=>exact⟨Cp hi,h.2⟩
 |clo f ks=>
  simp only[inN,List.all_eq_true]at hi
  exact fun k hk=>⟨Cp (hi k hk),(h k hk).2⟩
 |tup l=>
  simp only[inN,List.all_eq_true]at hi
  exact fun k hk=>⟨Cp (hi _ hk),(h k hk).2⟩
theorem Agr.keepE {N:Nat} {E E0:Env} {kn:Kn} {ow ow':Own} {n n' keep:Nat} {tm:Array Value} (h:Agr N E0 ⟨kn,[],ow,n⟩ tm) (hk:kn.all (fun x=>x.2.inN keep)=true) (hE:∀j,j<keep→E j=E0 j) (hn:keep≤n') :
 Agr N E ⟨kn,[],ow',n'⟩ tm:=by
 have hlt:∀d s,look kn d=some s→s.lt E0 keep:=fun d s hl=>SV.lt_in (List.all_eq_true.1 hk _ (look_mem hl)) (h.klt d s hl)
 refine⟨h.size,fun d s _ hl=>?_,fun d g s hl=>(by cases hl),fun d s hl=>SV.lt_mono hE hn (hlt d s hl),fun d g s hl=>(by cases hl)⟩
 rw[h.kn d s rfl hl,SV.den_congr hE (hlt d s hl)]
def jmp:Exit→Option Code
 |.ret=>some .ret
 |.exit id=>some (.exit id)
 |.goto t=>some (.goto t)
 |_=>none
def onlyN (K:St→Im→Prop):Bb:=fun e st u=>
 match e with
 |.normal=>K st u
 |_=>False
def RQ {σ τ:Type} (keep:Nat) (hdo:σ→Own) (hdn:σ→Nat) (G:σ→Im→Prop) (hxo:τ→Own) (hxn:τ→Nat) (GX:τ→Exit→Im→Prop) (Fr:Hp):Bb:=fun e st u=>
 match e with
 |.normal=>∃s ρ,Sub (keep+1) ρ ⟨[],[],st.ow,st.nx⟩ ⟨[],[],(keep,.gen Fr)::hdo s,hdn s⟩∧G s u
 |.panic _=>False
 |.outgrown=>False
 |e=>∃t ρ,Sub (keep+1) ρ ⟨[],[],st.ow,st.nx⟩ ⟨[],[],(keep,.gen Fr)::hxo t,hxn t⟩∧GX t e u
def recL (fn:Nat) (tm:Array Value) (p:Nat) (asg body:Code) (D:Nat) (st:LoopState) (pe:Option Code):Loop:=
 {state:=st,pending:=pe,fn,tmps:=tm,params:=#[p],assign:=asg,body,defers:=D}
theorem Sub.sat {keep:Nat} {ρ:Ren} {ow ow':Own} {nx nx':Nat} (h:Sub keep ρ ⟨[],[],ow,nx⟩ ⟨[],[],ow',nx'⟩) {E:Env} {u:Im} {df:List Deferred} {w:World} {f:Nat→Nat→Prop} (hs:Sat E ow nx u df w f) :
 ∃E' f',(∀k,k<keep→E' k=E k)∧Sat E' ow' nx' u df w f':=by
 have hok0:Ok ⟨default,none,0⟩ E ⟨[],[],ow,nx⟩ u {tmps:=#[],defers:=df} w:=
  ⟨⟨rfl,fun d s _ h=>(by cases h),fun d g s h=>(by cases h),fun d s h=>(by cases h),fun d g s h=>(by cases h)⟩,f,hs⟩
 obtain⟨E3,hE3,hok3⟩:=h.ok hok0
 obtain⟨F3,hs3⟩:=hok3.sat
 exact⟨E3,F3,hE3,hs3⟩
theorem X.run {C:Cx} {c:Code} {Q:Bb} {st:St} {u:Im} (h:X C c Q st u) {E:Env} {a:Act} {w:World} (hok:Ok C E st u a w):c.wpIn (FR C.ro) 0 C.P (Cd C E st.nx u Q) a w:=by
 unfold X at h
 exact h E a w hok
theorem rounds_of {σ τ:Type} {P:Program} {N l keep:Nat} {ue:Im} {E0:Env} {tm:Array Value} {kn:Kn} {ow0:Own} {n0:Nat} (hagr:Agr N E0 ⟨kn,[],ow0,n0⟩ tm) (hkn:kn.all (fun x=>x.2.inN keep)=true)
 (ms:List Nat) (fn p:Nat) (asg body:Code) (D:Nat) (hdo:σ→Own) (hdn:σ→Nat) (G:Nat→σ→Im→Prop) (hxo:τ→Own) (hxn:τ→Nat) (GX:τ→Exit→Im→Prop)
 (hfree:∀s,look (hdo s) keep=none) (hfreex:∀t,look (hxo t) keep=none) (hnx:∀s,keep<hdn s) (hp:p<N) {xs:List Value}
 (hround:∀k x s u' (Fr Fr':Hp),xs[k]?=some x→ue.le u'→G k s u' →
  X ⟨P,some l,N⟩ asg (onlyN fun st1 u1=>st1.gk=[]∧look st1.ow keep=some (.gen Fr)∧X ⟨P,some l,N⟩ body (RQ keep hdo hdn (G (k+1)) hxo hxn GX Fr') ⟨st1.kn,[],(keep,.gen Fr')::st1.ow,st1.nx⟩ u1)
   ⟨(p,.v x)::kn,[],(keep,.gen Fr)::hdo s,hdn s⟩ u') :
 Rounds P l (fun k=>inW keep E0 ue l ms (fun _:σ=>recL fn tm p asg body D .ready none) hdo hdn (G k))
  (inW keep E0 ue l ms (fun t:τ×Code=>recL fn tm p asg body D .done (some t.2)) (fun t=>hxo t.1) (fun t=>hxn t.1) (fun t u=>∃e,jmp e=some t.2∧GX t.1 e u)) xs:=by
 rintro k x w F hx himm ⟨s,E,f,uc,hin⟩ hoff
 refine⟨fn,tm.setIfInBounds p x,asg,body,?_,roundIn_of_wpIn trivial ?_⟩
 have:=run_yield (P:=P) (args:=#[x]) hin.loop rfl
 rw[this]
 simp[recL]
 let S:Nat→Prop:=fun b=>b<w.heap.size∧(∀k,¬f k b)∧uc.h b=none
 have hlS:S l:=⟨(Array.getElem?_eq_some_iff.1 hin.loop).1,hin.lf,hin.lu⟩
 let Fr:Hp:=frameHp S (fun b=>w.heap[b]?) w.heap.size
 have hfk:∀b,¬f keep b:=hin.sat.non keep (hfree s)
 have hsat:Sat E ((keep,.gen Fr)::hdo s) (hdn s) uc [] w (upd f keep S):=by
  refine⟨fun j r hl=>?_,fun j hl b hb=>?_,fun j j' b hne h1 h2=>?_,fun j b hb=>?_,fun j r hl=>?_,hin.sat.imm,[],rfl,List.nodup_nil,fun d hd=>by cases hd⟩
  rw[Ac]at hl
  split at hl
  rename_i e;subst e;cases hl
  simp only[Rs.holds,Ak]
  exact⟨fun b=>Iff.rfl,Nat.le_refl _,fun b hb=>⟨rfl,hb.1⟩⟩
  rename_i e
  rw[An _ _ (Ne.symm e)]
  exact hin.sat.holds j r hl
  rw[Ac]at hl
  split at hl
  cases hl
  rename_i e
  rw[An _ _ (Ne.symm e)]at hb
  exact hin.sat.non j hl b hb
  by_cases e:j=keep
  subst e
  rw[Ak]at h1
  rw[An _ _ (Ne.symm hne)]at h2
  exact h1.2.1 j' h2
  rw[An _ _ e]at h1
  by_cases e':j'=keep
  subst e'
  rw[Ak]at h2
  exact h2.2.1 j h1
  rw[An _ _ e']at h2
  exact hin.sat.apart j j' b hne h1 h2
  by_cases e:j=keep
  subst e;rw[Ak]at hb;exact hb.2.2
  rw[An _ _ e]at hb;exact hin.sat.off j b hb
  rw[Ac]at hl
  split at hl
  rename_i e;subst e;cases hl;exact⟨hnx s,trivial⟩
  exact hin.sat.lt j r hl
 have hA0:Agr N E ⟨kn,[],(keep,.gen Fr)::hdo s,hdn s⟩ tm:=hagr.keepE hkn hin.env (Nat.le_of_lt (hnx s))
 have hA:Agr N E ⟨(p,.v x)::kn,[],(keep,.gen Fr)::hdo s,hdn s⟩ (tm.setIfInBounds p x):=by
  have hsz:=hA0.size
  refine⟨by simpa using hsz,fun d sv _ hl=>?_,fun d g s h=>(by cases h),fun d sv hl=>?_,fun d g s h=>(by cases h)⟩
  rw[Ac]at hl
  split at hl
  rename_i e;subst e;cases hl
  simp only[SV.den]
  rw[Array.getElem?_setIfInBounds,if_pos rfl,if_pos (by omega)]
  rename_i e
  rw[Array.getElem?_setIfInBounds_ne e]
  exact hA0.kn d sv rfl hl
  rw[Ac]at hl
  split at hl
  cases hl;trivial
  exact hA0.klt d sv hl
 let ldone:Loop:=recL fn tm p asg body D .busy none
 have hX1:∀Fr':Hp,(asg.wpIn (FR (some l)) 0 P (Cd ⟨P,some l,N⟩ E (hdn s) uc (onlyN fun st1 u1=>st1.gk=[]∧look st1.ow keep=some (.gen Fr)∧X ⟨P,some l,N⟩ body (RQ keep hdo hdn (G (k+1)) hxo hxn GX Fr') ⟨st1.kn,[],(keep,.gen Fr')::st1.ow,st1.nx⟩ u1))
  {tmps:=tm.setIfInBounds p x,defers:=[]} w):=fun Fr'=>by
  exact(hround k x s uc Fr Fr' hx hin.le hin.g).run (C:=⟨P,some l,N⟩) (a:={tmps:=tm.setIfInBounds p x,defers:=[]}) ⟨hA,_,hsat⟩
 let o2:Nat→Option Obj:=fun b=>if b=l then some (.loop ldone)else w.heap[b]?
 let Fr2:Hp:=frameHp S o2 w.heap.size
 refine Go.wpIn_mono (hX1 Fr2) ?_
 rintro e a1 w1 ⟨E1,st1,u1,hE1,hn1,hu1,hok1,h5⟩
 cases e with
 |exit id=>exact h5.elim
 |goto t=>exact h5.elim
 |ret=>exact h5.elim
 |panic c=>exact h5.elim
 |outgrown=>exact h5.elim
 |normal=>
  obtain⟨hgk,hlk,hX2⟩:=h5
  obtain⟨f1,hs1⟩:=hok1.sat
  obtain⟨hS1,hsz1,hfr1⟩:=hs1.holds keep _ hlk
  have hl1:w1.heap[l]?=some (.loop (recL fn tm p asg body D .ready none)):=(hfr1 l hlS).1.trans hin.loop
  have hl1lt:=(hfr1 l hlS).2
  refine⟨w1.putObj l (.loop ldone),?_,?_⟩
  have:=run_beginRound (P:=P) hl1 rfl
  rw[this];rfl
  have hoth:∀b,b≠l→(w1.putObj l (.loop ldone)).heap[b]?=w1.heap[b]?:=fun b hb=>World.putObj_heap_other hb
  have hsz2:(w1.putObj l (.loop ldone)).heap.size=w1.heap.size:=by simp[World.putObj]
  have hu1l:u1.h l=none:=hs1.off keep l ((hS1 l).2 hlS)
  have himm2:Imm u1 (w1.putObj l (.loop ldone)):=⟨fun b o hb=>by rw[hoth b (fun e=>by subst e;rw[hu1l]at hb;cases hb)];exact hs1.imm.h b o hb,hs1.imm.os,hs1.imm.tape,hs1.imm.output,by rw[hsz2];exact hs1.imm.lo⟩
  have hs2:Sat E1 ((keep,.gen Fr2)::st1.ow) st1.nx u1 a1.defers (w1.putObj l (.loop ldone)) f1:=by
   refine hs1.step (fun j=>j=keep) (fun _ _=>rfl) (Nat.le_refl _) (Im.le.refl u1) himm2 (Nat.le_of_eq hsz2.symm) (fun b _ hno=>hoth b (fun e=>hno keep rfl ((hS1 b).2 (e▸hlS)))) ?_ ?_ ?_ (fun b o ho=>.inl ho)
   intro j hj
   exact⟨by rw[Ac,if_neg (Ne.symm hj)],fun b=>Iff.rfl⟩
   rintro j rfl
   refine⟨fun r hr=>?_,fun hr=>?_,fun b hb=>⟨.inl ⟨j,rfl,hb⟩,hs1.off j b hb⟩⟩
   rw[Ac,if_pos rfl]at hr
   cases hr
   refine⟨⟨hS1,by rw[hsz2];exact hsz1,fun b hb=>?_⟩,(hs1.lt _ _ hlk).1,trivial⟩
   by_cases e:b=l
   subst e
   refine⟨?_,by rw[hsz2];exact hl1lt⟩
   show _=(if b=b then _ else _)
   rw[if_pos rfl];exact World.putObj_heap_same hl1lt
   refine⟨?_,by rw[hsz2];exact(hfr1 b hb).2⟩
   show _=(if b=l then _ else _)
   rw[if_neg e,hoth b e];exact(hfr1 b hb).1
   rw[Ac,if_pos rfl]at hr;cases hr
   intro j j' b hj hj' hne;subst hj hj';exact absurd rfl hne
  have hag2:Agr N E1 ⟨st1.kn,[],(keep,.gen Fr2)::st1.ow,st1.nx⟩ a1.tmps:=
   ⟨hok1.agr.size,fun d s _ hl=>hok1.agr.kn d s (by rw[hgk];rfl) hl,fun d g s h=>(by cases h),hok1.agr.klt,fun d g s h=>(by cases h)⟩
  refine Go.wpIn_mono (hX2.run (C:=⟨P,some l,N⟩) ⟨hag2,_,hs2⟩) ?_
  rintro e a3 w3 ⟨E3,st3,u3,hE3,hn3,hu3,hok3,h6⟩
  obtain⟨f3,hs3⟩:=hok3.sat
  have hs3':Sat E3 st3.ow st3.nx u3 [] w3 f3:=⟨hs3.holds,hs3.non,hs3.apart,hs3.off,hs3.lt,hs3.imm,[],rfl,List.nodup_nil,fun d hd=>by cases hd⟩
  have hko:keep<hdn s:=hnx s
  have hn1':hdn s≤st1.nx:=hn1
  have ho2:∀b,b≠l→S b→o2 b=w.heap[b]?:=fun b hb _=>by
   show(if b=l then _ else _)=_
   rw[if_neg hb]
  have fin:∀(ow3:Own) (nx3:Nat) (G3:Im→Prop) (ρ:Ren) (rec':Loop),Sub (keep+1) ρ ⟨[],[],st3.ow,st3.nx⟩ ⟨[],[],(keep,.gen Fr2)::ow3,nx3⟩→look ow3 keep=none→G3 u3 →
   w3.heap[l]?=some (.loop ldone)∧∃F',Step w F (w3.putObj l (.loop rec')) F'∧∃E4 f5,InL keep E0 ue l rec' ms ow3 nx3 G3 F' (w3.putObj l (.loop rec')) E4 f5 u3:=by
   intro ow3 nx3 G3 ρ rec' hsub hfr hg
   obtain⟨E4,f4,hE4,hs4⟩:=hsub.sat hs3'
   obtain⟨_,_,hfr4⟩:=hs4.holds keep _ (by rw[Ac,if_pos rfl])
   have hl3:w3.heap[l]?=some (.loop ldone):=by
    rw[(hfr4 l hlS).1]
    show(if l=l then _ else _)=_
    rw[if_pos rfl]
   obtain⟨F',hst,f5,hI⟩:=round_end (rec':=rec') hin himm (hu1.trans hu3) (fun j hj=>by
    rw[hE4 j (by omega),hE3 j (by show j<st1.nx;omega),hE1 j (by omega),hin.env j hj]) ho2 hs4 hfr hg
   exact⟨hl3,F',hst,E4,f5,hI⟩
  have stop:∀(e:Exit) (cj:Code),jmp e=some cj→(∃t ρ,Sub (keep+1) ρ ⟨[],[],st3.ow,st3.nx⟩ ⟨[],[],(keep,.gen Fr2)::hxo t,hxn t⟩∧GX t e u3) →
   ∃v w',(Instr.endRound l (some cj)).run P w3=.ok v w'∧∃F',Step w F w' F'∧((Ending.returned v=.returned (.bool true) ∧
    (inW keep E0 ue l ms (fun _:σ=>recL fn tm p asg body D .ready none) hdo hdn (G (k+1))).h F' w')∨(Ending.returned v=.returned (.bool false) ∧
    (inW keep E0 ue l ms (fun t:τ×Code=>recL fn tm p asg body D .done (some t.2)) (fun t=>hxo t.1) (fun t=>hxn t.1) (fun t u=>∃e,jmp e=some t.2∧GX t.1 e u)).h F' w')):=by
   rintro e cj hj ⟨t,ρ,hsub,hg⟩
   obtain⟨hl3,F',hst,E4,f5,hI⟩:=fin (hxo t) (hxn t) (fun u=>∃e,jmp e=some cj∧GX t e u) ρ (recL fn tm p asg body D .done (some cj)) hsub (hfreex t) ⟨e,hj,hg⟩
   exact⟨_,_,run_endRound (P:=P) (some cj) hl3,F',hst,.inr ⟨rfl,(t,cj),E4,f5,u3,hI⟩⟩
  cases e with
  |normal=>
   obtain⟨s',ρ,hsub,hg⟩:=h6
   obtain⟨hl3,F',hst,E4,f5,hI⟩:=fin (hdo s') (hdn s') (G (k+1) s') ρ (recL fn tm p asg body D .ready none) hsub (hfree s') hg
   exact⟨_,_,run_endRound (P:=P) none hl3,F',hst,.inl ⟨rfl,s',E4,f5,u3,hI⟩⟩
  |ret=>exact stop .ret _ rfl h6
  |exit id=>exact stop (.exit id) _ rfl h6
  |goto t=>exact stop (.goto t) _ rfl h6
  |panic c=>exact h6.elim
  |outgrown=>exact h6.elim
theorem x_range {σ τ:Type} {P:Program} {N:Nat} {g:Operand} {p:Nat} {asg body:Code} {Q:Bb} {kn:Kn} {ow:Own} {nx:Nat} {u:Im} {gf:Nat} {caps:Array Value} {xs:List Value}
 (hg:opd ⟨kn,[],ow,nx⟩ [] g=some (.v (.func (.func gf) #[] caps))) (hfn:Fn1 P gf) (hit:Iter P gf caps xs u)
 (kn':Kn) (hdo:σ→Own) (hdn:σ→Nat) (G:Nat→σ→Im→Prop) (hxo:τ→Own) (hxn:τ→Nat) (GX:τ→Exit→Im→Prop) (s0:σ) (ρ0:Ren)
 (h0:Sub nx ρ0 ⟨kn,[],ow,nx⟩ ⟨kn',[],hdo s0,hdn s0⟩) (g0:G 0 s0 u) (hkn:kn'.all (fun x=>x.2.inN nx)=true)
 (hfree:∀s,look (hdo s) nx=none) (hfreex:∀t,look (hxo t) nx=none) (hnx:∀s,nx<hdn s) (hnxx:∀t,nx≤hxn t) (hp:Nat.blt p N=true)
 (hround:∀l k x s u' (Fr Fr':Hp),xs[k]?=some x→u.le u'→G k s u' →
  X ⟨P,some l,N⟩ asg (onlyN fun st1 u1=>st1.gk=[]∧look st1.ow nx=some (.gen Fr)∧X ⟨P,some l,N⟩ body (RQ nx hdo hdn (G (k+1)) hxo hxn GX Fr') ⟨st1.kn,[],(nx,.gen Fr')::st1.ow,st1.nx⟩ u1)
   ⟨(p,.v x)::kn',[],(nx,.gen Fr)::hdo s,hdn s⟩ u')
 (hdone:∀s u',u.le u'→G xs.length s u'→Q .normal ⟨kn',[],hdo s,hdn s⟩ u')
 (hstop:∀t e u',u.le u'→GX t e u'→Q e ⟨kn',[],hxo t,hxn t⟩ u'):X ⟨P,none,N⟩ (.rangeFunc g #[p] asg body) Q ⟨kn,[],ow,nx⟩ u:=by
 unfold X
 intro E a w hok
 obtain⟨E1,hE1,hok1⟩:=h0.ok hok
 obtain⟨f0,hs0⟩:=hok1.sat
 have hagr:=hok1.agr
 have hgs:gs a.tmps []:=fun x hx=>by cases hx
 obtain⟨eg,_⟩:=Al hok.agr hgs hg
 simp only[SV.den]at eg
 obtain⟨ds,hds,hnd,hm⟩:=hs0.marks
 refine wpIn_rangeFunc ?_
 intro fn _
 obtain⟨D,hD⟩:∃D,D=w.heap.size:=⟨_,rfl⟩
 obtain⟨l,hl⟩:∃l,l=w.heap.size+1:=⟨_,rfl⟩
 obtain⟨W1,hW1⟩:∃W1,W1=(w.alloc (.deferred (some []))).alloc (.loop (recL fn a.tmps p asg body D .ready none)):=⟨_,rfl⟩
 have hsz:W1.heap.size=w.heap.size+2:=by rw[hW1,World.size_alloc,World.size_alloc]
 have hold:∀b,b<w.heap.size→W1.heap[b]?=w.heap[b]?:=fun b hb=>by
  rw[hW1,Below.heap_alloc _ _ _ (by rw[World.size_alloc];omega),Below.heap_alloc _ _ _ hb]
 have hl1:W1.heap[l]?=some (.loop (recL fn a.tmps p asg body D .ready none)):=by
  have:=heap_alloc_new (w.alloc (.deferred (some []))) (.loop (recL fn a.tmps p asg body D .ready none))
  rw[World.size_alloc]at this
  rw[hW1,hl];exact this
 have hD1:W1.heap[D]?=some (.deferred (some [])):=by
  rw[hW1,hD,Below.heap_alloc _ _ _ (by rw[World.size_alloc];omega)]
  exact heap_alloc_new w _
 have hult:∀b o,u.h b=some o→b<w.heap.size:=fun b o ho=>(Array.getElem?_eq_some_iff.1 (hs0.imm.h b o ho)).1
 have hflt:∀k b,f0 k b→b<w.heap.size:=fun k b hb=>hs0.fin hb
 have himm1:Imm u W1:=⟨fun b o ho=>(hold b (hult b o ho)).trans (hs0.imm.h b o ho),by rw[hW1];exact hs0.imm.os,by rw[hW1];exact hs0.imm.tape,by rw[hW1];exact hs0.imm.output,by rw[hsz];exact Nat.le_trans hs0.imm.lo (by omega)⟩
 have hdlt:∀d∈ds,d<w.heap.size:=fun d hd=>(Array.getElem?_eq_some_iff.1 (hm d hd).1).1
 have hnone:∀b,w.heap.size≤b→u.h b=none:=fun b hb=>by
  cases ho:u.h b with
  |none=>rfl
  |some o=>have:=hult b o ho;omega
 let F0:Nat→Prop:=fun b=>(∃j,f0 j b)∨b=l∨b∈D::ds
 have hin0:InL nx E1 u l (recL fn a.tmps p asg body D .ready none) (D::ds) (hdo s0) (hdn s0) (G 0 s0) F0 W1 E1 f0 u:=by
  refine⟨g0,Im.le.refl u,fun _ _=>rfl,hs0.local (fun k b hb=>hold b (hflt k b hb)) himm1 (by omega),hl1,fun d hd=>?_,hnone l (by omega),fun k hk=>by have:=hflt k l hk;omega,.inr (.inl rfl),fun b o ho=>.inl ho,fun k b hb=>.inl ⟨k,hb⟩,?_⟩
  rcases List.mem_cons.1 hd with rfl|hd'
  exact⟨hD1,hnone _ (by omega),fun k hk=>by have:=hflt k _ hk;omega,.inr (.inr hd)⟩
  obtain⟨h1,h2,h3⟩:=hm d hd'
  exact⟨(hold d (hdlt d hd')).trans h1,h2,h3,.inr (.inr hd)⟩
  rintro b (⟨j,hb⟩|rfl|hb)
  have:=hflt j b hb;omega
  omega
  rcases List.mem_cons.1 hb with rfl|hb
  omega
  have:=hdlt b hb;omega
 have hoff0:∀b,F0 b→u.h b=none:=by
  rintro b (⟨j,hb⟩|rfl|hb)
  exact hs0.off j b hb
  exact hnone _ (by omega)
  rcases List.mem_cons.1 hb with rfl|hb
  exact hnone _ (by omega)
  exact(hm b hb).2.1
 have hR:=rounds_of (P:=P) (N:=N) (l:=l) (keep:=nx) (ue:=u) (E0:=E1) (tm:=a.tmps) (kn:=kn') hagr hkn (D::ds) fn p asg body D hdo hdn G hxo hxn GX hfree hfreex hnx (Cp hp) (xs:=xs) (fun k x s u' Fr Fr'=>hround l k x s u' Fr Fr')
 have hnd':(D::ds).Nodup:=List.nodup_cons.2 ⟨fun h=>by have:=hdlt D h;omega,hnd⟩
 refine⟨l,[{target:=.collected D,args:=#[]}],W1,{target:=.fn (.func gf) caps,args:=#[.func (.yield l) #[] #[]]},W1,gf,#[.func (.yield l) #[] #[]]++caps,W1,?_,?_,fun _ _=>trivial,?_,fun h=>(by cases h),?_⟩
 have:=run_enterLoop_outer (P:=P) (w:=w) fn a.tmps #[p] asg body
 rw[hW1,hl,hD];exact this
 simp only[resolve,eg]
 simp[go_sem]
 simp[invoke,go_sem,hfn.run]
 refine(calls_in (hit l _ _ W1 F0 hR himm1 ⟨s0,E1,f0,u,hin0⟩ hoff0)).mono ?_
 have fin:∀ {rec:Loop} {ow':Own} {nx':Nat} {G':Im→Prop} {F':Nat→Prop} {w3:World} {E':Env} {f':Nat→Nat→Prop} {uc:Im} (o:Obj),InL nx E1 u l rec (D::ds) ow' nx' G' F' w3 E' f' uc→nx≤nx' →
  Ok ⟨P,none,N⟩ E' ⟨kn',[],ow',nx'⟩ uc {a with defers:=[{target:=.collected D,args:=#[]}]++a.defers} (w3.putObj l o):=by
  intro rec ow' nx' G' F' w3 E' f' uc o hI hn
  have hoth:∀b,b≠l→(w3.putObj l o).heap[b]?=w3.heap[b]?:=fun b hb=>World.putObj_heap_other hb
  have hsz3:(w3.putObj l o).heap.size=w3.heap.size:=by simp[World.putObj]
  have himm:Imm uc (w3.putObj l o):=⟨fun b x hb=>by rw[hoth b (fun e=>by subst e;rw[hI.lu]at hb;cases hb)];exact hI.sat.imm.h b x hb,hI.sat.imm.os,hI.sat.imm.tape,hI.sat.imm.output,by rw[hsz3];exact hI.sat.imm.lo⟩
  have hs4:=hI.sat.local (w':=w3.putObj l o) (fun k b hb=>hoth b (fun e=>by subst e;exact hI.lf k hb)) himm (Nat.le_of_eq hsz3.symm)
  refine⟨hagr.keepE hkn hI.env hn,f',hs4.holds,hs4.non,hs4.apart,hs4.off,hs4.lt,hs4.imm,D::ds,?_,hnd',fun d hd=>?_⟩
  rw[hds];rfl
  obtain⟨h1,h2,h3,_⟩:=hI.ml d hd
  refine⟨?_,h2,h3⟩
  rw[hoth d (fun e=>by rw[e,hI.loop]at h1;cases h1)]
  exact h1
 rintro e w3 ⟨v,F',rfl,hst,hY|hZ⟩
 obtain⟨s,E',f',uc,hI⟩:=hY
 refine⟨none,_,run_endLoop (P:=P) hI.loop (by simp[recL]),?_⟩
 exact⟨E',_,uc,fun k hk=>(hI.env k hk).trans (hE1 k hk),Nat.le_of_lt (hnx s),hI.le,fin _ hI (Nat.le_of_lt (hnx s)),hdone s uc hI.le hI.g⟩
 ·obtain⟨⟨t,cj⟩,E',f',uc,hI⟩:=hZ
  refine⟨some cj,_,run_endLoop (P:=P) hI.loop (by simp[recL]),?_⟩
  obtain⟨e,hj,hgx⟩:=hI.g
  have hq:Cd ⟨P,none,N⟩ E nx u Q e {a with defers:=[{target:=.collected D,args:=#[]}]++a.defers} (w3.putObj l (.loop {recL fn a.tmps p asg body D .done (some cj)with state:=.exhausted})):=
   ⟨E',_,uc,fun k hk=>(hI.env k hk).trans (hE1 k hk),hnxx t,hI.le,fin _ hI (hnxx t),hstop t e uc hI.le hgx⟩
  show cj.wpIn (FR none) 0 P (Cd ⟨P,none,N⟩ E nx u Q) _ _
  cases e with
  |ret=>cases hj;exact wpIn_ret hq
  |exit id=>cases hj;exact wpIn_exit hq
  |goto t=>cases hj;exact wpIn_goto hq
  |normal=>cases hj
  |panic c=>cases hj
  |outgrown=>cases hj
theorem Sat.boxNew {E:Env} {o:Own} {nx:Nat} {u:Im} {df:List Deferred} {w w0:World} {f:Nat→Nat→Prop} (h:Sat E o nx u df w f) {k:Nat} {t:TypeId} {cs:List SV} (hk:look o k=some (.box t cs)) (hu:(im w0).le u) :
 ∃b,E k=.pointer (some ⟨b,0,none⟩)∧(cut w0.heap.size (im w)).h b=some (.cells (cs.map (SV.den E)).toArray t (0,0)):=by
 obtain⟨b,h1,h2,h3⟩:=h.holds k _ hk
 refine⟨b,h1,?_⟩
 have h4:=h.off k b ((h2 b).2 rfl)
 simp only[cut,im]
 rcases Nat.lt_or_ge b w0.heap.size with hlt|hge
 have:(im w0).h b=some w0.heap[b]:=Array.getElem?_eq_getElem hlt
 rw[hu.h _ _ this]at h4;cases h4
 rw[if_neg (by omega)];exact h3
theorem Aw.box1 {u:Im} {b:Nat} {x:Value} {t:TypeId} {fr:Nat×Nat} (h:u.h b=some (.cells #[x] t fr)):Aw u (.slice (some ⟨b,0,none⟩) 1 1) ⟨1,[fun _=>x]⟩:=by
 refine⟨_,1,rfl,Nat.le_refl _,by decide,fun _=>⟨_,rfl,fun i hi j f hf=>?_⟩⟩
 have hi0:i=0:=by
  have:i<1:=hi
  omega
 subst hi0
 match j,hf with
 |0,hf=>
  cases hf
  show u.cell? ⟨b,0,none⟩=some x
  unfold Im.cell?
  rw[h]
  rfl
 |j+1,hf=>simp at hf
def boxEnv (b:Nat):Env:=fun k=>if k=1 then .slice (some ⟨b,0,none⟩) 1 1 else undef
def chainB (ops:Array Oper):List Nat→Array Bool→Bool
 |[],_=>true
 |i::r,listed=>decide (Region.ready .any ops listed=[i])&&chainB ops r (listed.setIfInBounds i true)
theorem wpAny_chain {ro:Option Nat} {P:Program} {ops:Array Oper} {Q Q':Exit→Act→World→Prop} (h:∀e a w,e≠.normal→Q' e a w→Q e a w) {fuel:Nat}:∀(l:List Nat) (listed:Array Bool),
 hasAll ops.toList l=true→chainB ops l listed=true→(∀a w,Q' .normal a w→wpAnyIn (FR ro) 0 P .any ops Q fuel (marks listed l) a w) →
 ∀a w,wpListIn (FR ro) 0 P ops Q' (opsAt ops.toList l) a w→wpAnyIn (FR ro) 0 P .any ops Q (fuel+l.length) listed a w
 |[],_,_,_,hk,a,w,hw=>hk a w (by simpa[opsAt,wpListIn]using hw)
 |i::r,listed,ha,hc,hk,a,w,hw=>by
  simp only[hasAll,Bool.and_eq_true]at ha
  simp only[chainB,Bool.and_eq_true,decide_eq_true_eq]at hc
  obtain⟨o,ho⟩:=Option.isSome_iff_exists.1 ha.1
  have ho':ops[i]?=some o:=by simpa using ho
  refine wpAnyIn_all hc.1 (by simp) fun j hj=>?_
  have:j=i:=by simpa using hj
  subst this
  have key:wpOpIn (FR ro) 0 P ops Q' j (wpListIn (FR ro) 0 P ops Q' (opsAt ops.toList r)) a w:=by
   unfold wpOpIn
   simp only[ho']
   simp only[opsAt,ho]at hw
   unfold wpListIn at hw
   exact hw
  exact wpOpIn_post h (fun a' w' hw'=>wpAny_chain h r _ ha.2 hc.2 hk a' w' hw') key
theorem Ae {C:Cx} {ops:Array Oper} {fuel n:Nat} {listed:Array Bool} {Q:Bb} {st:St} {u:Im} (l:List Nat) (hn:n=l.length+fuel) (ha:hasAll ops.toList l=true) (hl:chainB ops l listed=true)
 (h:XL C ops.toList (opsAt ops.toList l) (thn (XA C ops fuel (marks listed l) Q) Q) st u):XA C ops n listed Q st u:=by
 subst hn
 intro E a w hok
 unfold XL at h
 rw[Nat.add_comm]
 have h1:=h E a w hok
 refine wpAny_chain (Q':=Cd C E st.nx u (thn (XA C ops fuel (marks listed l) Q) Q)) ?_ l listed ha hl ?_ a w h1
 rintro e a' w' hne ⟨E',st',u',h2,h3,h4,h5,h6⟩
 cases e with
 |normal=>exact absurd rfl hne
 |exit id=>exact⟨E',st',u',h2,h3,h4,h5,h6⟩
 |goto l=>exact⟨E',st',u',h2,h3,h4,h5,h6⟩
 |ret=>exact⟨E',st',u',h2,h3,h4,h5,h6⟩
 |panic c=>exact⟨E',st',u',h2,h3,h4,h5,h6⟩
 |outgrown=>exact⟨E',st',u',h2,h3,h4,h5,h6⟩
 rintro a' w' ⟨E',st',u',h2,h3,h4,h5,h6⟩
 exact wpAnyIn_post (fun e a w=>Cd.mono h2 h3 h4) (h6 E' a' w' h5)
def phaseX (md:Region.Mode) (ops:Array Oper) (i0:Nat) (target:Array Bool):Nat→Array Bool→Bool
 |0,listed=>decide (listed=target)
 |k+1,listed=>(Region.ready md ops listed).all fun i=>Nat.beq i i0||phaseX md ops i0 target k (listed.setIfInBounds i true)
theorem wpAny_late {ro:Option Nat} {P:Program} {ops:Array Oper} {Inv:World→Prop} {md:Region.Mode} {t1 t2:Array Bool} {fuel:Nat} {Q:Act→Prop} {Q':Exit→Act→World→Prop} {i0:Nat} {o0:Oper} {v:Value}
 (hi:ops[i0]?=some o0) (hsel:∀(j:Nat) (o:Oper) cs b,ops[j]?=some o→o.op≠.select cs b)
 (hQ1:∀a w,Q a→Inv w→wpAnyIn (FR ro) 0 P md ops Q' fuel t1 a w) (hQ2:∀a w,Q (a.put o0.dst v)→Inv w→wpAnyIn (FR ro) 0 P md ops Q' (fuel+1) t2 a w) :
 ∀(k:Nat) (listed:Array Bool) (a:Act) (w:World),Inv w →
  (∀j oj,ops[j]?=some oj→j≠i0→listed.getD j true=false→(∀e∈oj.after,Region.binds md e=true→e.on≠i0)→o0.apart ops oj=true) →
  i0∈Region.ready md ops listed→phaseX md ops i0 t2 k listed=true→phaseB md ops t1 k (listed.setIfInBounds i0 true)=true→YI ro P ops Inv o0 v a →
  anyP ro P md ops Inv Q k (listed.setIfInBounds i0 true) (a.put o0.dst v)→wpAnyIn (FR ro) 0 P md ops Q' (k+(fuel+1)) listed a w:=by
 intro k
 induction k with
 |zero=>
  intro listed a w hw _ _ hx _ _ H
  have:listed=t2:=by simpa[phaseX]using hx
  subst this
  rw[Nat.zero_add]
  exact hQ2 a w H hw
 |succ k ih=>
  intro listed a w hw hfree hr hx hb hy H
  rw[show k+1+(fuel+1)=(k+(fuel+1))+1 by omega]
  refine⟨fun h=>(by rw[h]at hr;cases hr),fun j hj=>?_⟩
  by_cases hji:j=i0
  subst hji
  refine wpOpIn_of_opI (K:=fun a'=>anyP ro P md ops Inv Q (k+1) (listed.setIfInBounds j true) a') (fun a' w' hk hi'=>?_) hw (hy.opI hi H)
  have:=wpAny_of_anyP (fuel:=fuel) hQ1 (k+1) _ a' w' hi' hb hk
  rw[show k+(fuel+1)=k+1+fuel by omega]
  exact this
  have h1:=H j (ready_mono hj hji)
  obtain⟨hjun,oj,hoj,hall⟩:=mem_ready.1 hj
  have hnot:∀e∈oj.after,Region.binds md e=true→e.on≠i0:=fun e he hb heq=>by
   have h1:=hall e he hb
   have h0:=(mem_ready.1 hr).1
   rw[heq]at h1
   rcases Nat.lt_or_ge i0 listed.size with h'|h'
   simp[h']at h0 h1;rw[h0]at h1;cases h1
   simp[Array.getElem?_eq_none h']at h1
  have h2:=opI_put hoj (hfree j oj hoj hji hjun hnot) (fun cs b=>hsel i0 o0 cs b hi) (fun cs b=>hsel j oj cs b hoj) hy h1
  have hfree':∀k ok,ops[k]?=some ok→k≠i0→(listed.setIfInBounds j true).getD k true=false →
   (∀e∈ok.after,Region.binds md e=true→e.on≠i0)→o0.apart ops ok=true:=fun k ok hk hki hun hno=>by
   refine hfree k ok hk hki ?_ hno
   by_cases hjk:j=k
   subst hjk;exact hjun
   rw[getD_set_ne true hjk]at hun;exact hun
  have hx':phaseX md ops i0 t2 k (listed.setIfInBounds j true)=true:=by
   rw[phaseX,List.all_eq_true]at hx
   have:=hx j hj
   rw[Bool.or_eq_true]at this
   rcases this with h|h
   exact absurd (Nat.eq_of_beq_eq_true h) hji
   exact h
  have hb':phaseB md ops t1 k ((listed.setIfInBounds j true).setIfInBounds i0 true)=true:=by
   rw[phaseB,Bool.and_eq_true,List.all_eq_true]at hb
   have:=hb.2 j (ready_mono hj hji)
   rwa [Array.setIfInBounds_comm _ _ hji]
  refine wpOpIn_of_opI (fun a' w' hk hi'=>?_) hw h2
  refine ih (listed.setIfInBounds j true) a' w' hi' hfree' (ready_mono hr (Ne.symm hji)) hx' hb' hk.1 ?_
  rw[Array.setIfInBounds_comm _ _ hji]
  exact hk.2
def forget (d:Nat) (kn:Kn):Kn:=kn.filter fun x=>!(Nat.beq x.1 d)
theorem look_forget {d:Nat} {kn:Kn} {x:Nat} {s:SV} (h:look (forget d kn) x=some s):x≠d∧look kn x=some s:=by
 induction kn with
 |nil=>cases h
 |cons y kn ih=>
  obtain⟨k,t⟩:=y
  simp only[forget,List.filter_cons]at h
  by_cases hk:k=d
  subst hk
  rw[if_neg (by simp)]at h
  obtain⟨h1,h2⟩:=ih h
  exact⟨h1,by rw[Ac,if_neg (Ne.symm h1)];exact h2⟩
  rw[if_pos (by cases hb:Nat.beq k d with|false=>rfl|true=>exact absurd (Nat.eq_of_beq_eq_true hb) hk)]at h
  rw[Ac]at h ⊢
  split at h
  rename_i e;subst e;exact⟨hk,by rw[if_pos rfl];exact h⟩
  rename_i e
  obtain⟨h1,h2⟩:=ih h
  exact⟨h1,by rw[if_neg e];exact h2⟩
theorem xa_late {T:TT} {C:Cx} (hT:TOk C.P T) {ops:Array Oper} {Q:Bb} {st:St} {u:Im} {fuel n d0:Nat} {listed:Array Bool} {o0:Oper} (i0:Nat) (l:List Nat) (hn:n=l.length+(fuel+1))
 (ho:ops.toList[i0]?=some o0) (hd:o0.dst=some d0)
 (hsel:Region.noSelect ops=true) (ha:hasAll ops.toList (i0::l)=true) (hl:lexL .any ops (i0::l) listed=true) (hb:phaseB .any ops (marks listed (i0::l)) l.length (listed.setIfInBounds i0 true)=true)
 (hx:phaseX .any ops i0 (marks listed l) l.length listed=true)
 (h:XD C ops.toList (opsAt ops.toList (i0::l)) (fun st=>st.gk=[]∧XA C ops fuel (marks listed (i0::l)) Q st u∧XA C ops (fuel+1) (marks listed l) Q ⟨forget d0 st.kn,[],st.ow,st.nx⟩ u) st u):XA C ops n listed Q st u:=by
 subst hn
 intro E a w hok
 obtain⟨f,hsat⟩:=hok.sat
 unfold XD at h
 have h1:=h E a w hok
 simp only[Array.toArray_toList]at h1
 simp only[hasAll,Bool.and_eq_true]at ha
 simp only[lexL,Bool.and_eq_true]at hl
 simp only[opsAt,ho]at h1
 obtain⟨v,hy,hK⟩:=h1
 have ho':ops[i0]?=some o0:=by simpa using ho
 refine wpAny_late (Inv:=fun w=>∃f,Sat E st.ow st.nx u a.defers w f) (t1:=marks listed (i0::l)) (t2:=marks listed l) ho' (Region.noSelect_spec hsel) ?_ ?_ l.length listed a w ⟨f,hsat⟩
  (Region.free_spec ho' hl.1.2) (by simpa using hl.1.1) hx hb hy (anyP_lex hsel l _ _ ha.2 hl.2 hb hK)
 rintro a' w' ⟨h2,st',h3,h4,h5,_,h6,_⟩ hi
 have:=h6 E a' w' ⟨h5,by rw[h3,h4,h2];exact hi⟩
 rwa [h4]at this
 rintro a' w' ⟨h2,st',h3,h4,h5,hg,_,h6⟩ hi
 have hdef:a'.defers=a.defers:=by rw[←h2,hd];rfl
 have htm:∀d,d≠d0→(a'.put o0.dst v).tmps[d]?=a'.tmps[d]?:=fun d hne=>by
  rw[hd];simp only[Act.put];rw[Array.getElem?_setIfInBounds_ne (Ne.symm hne)]
 have hag:Agr C.N E ⟨forget d0 st'.kn,[],st'.ow,st'.nx⟩ a'.tmps:=by
  refine⟨?_,fun d s _ hs=>?_,fun d g s h=>(by cases h),fun d s hs=>?_,fun d g s h=>(by cases h)⟩
  have:=h5.size;rw[hd]at this;simpa[Act.put]using this
  obtain⟨k1,k2⟩:=look_forget hs
  rw[←htm d k1]
  exact h5.kn d s (by rw[hg];rfl) k2
  exact h5.klt d s (look_forget hs).2
 have:=h6 E a' w' ⟨hag,by rw[h3,h4,hdef];exact hi⟩
 rw[show(⟨forget d0 st'.kn,[],st'.ow,st'.nx⟩:St).nx=st.nx from h4]at this
 exact this
theorem Aq {C:Cx} {ops:Array Oper} {fuel:Nat} {listed:Array Bool} {Q:Bb} {st:St} {u:Im} (i j:Nat) {oi oj:Oper} (hr:Region.ready .any ops listed=[i,j])
 (hi:ops.toList[i]?=some oi) (hj:ops.toList[j]?=some oj) (h1:XL C ops.toList [oi] (thn (XA C ops fuel (listed.setIfInBounds i true) Q) Q) st u)
 (h2:XL C ops.toList [oj] (thn (XA C ops fuel (listed.setIfInBounds j true) Q) Q) st u):XA C ops (fuel+1) listed Q st u:=by
 have main:∀(k:Nat) (o:Oper),ops.toList[k]?=some o→XL C ops.toList [o] (thn (XA C ops fuel (listed.setIfInBounds k true) Q) Q) st u→∀E a w,Ok C E st u a w →
  wpOpIn (FR C.ro) 0 C.P ops (Cd C E st.nx u Q) k (wpAnyIn (FR C.ro) 0 C.P .any ops (Cd C E st.nx u Q) fuel (listed.setIfInBounds k true)) a w:=by
  intro k o ho h E a w hok
  unfold XL at h
  have h1:=h E a w hok
  have ho':ops[k]?=some o:=by simpa using ho
  have key:wpOpIn (FR C.ro) 0 C.P ops (Cd C E st.nx u (thn (XA C ops fuel (listed.setIfInBounds k true) Q) Q)) k
   (fun a' w'=>Cd C E st.nx u (thn (XA C ops fuel (listed.setIfInBounds k true) Q) Q) .normal a' w') a w:=by
   unfold wpOpIn
   simp only[ho']
   unfold wpListIn at h1
   simp only[wpListIn]at h1
   exact h1
  refine wpOpIn_post ?_ ?_ key
  rintro e a' w' hne ⟨E',st',u',h2,h3,h4,h5,h6⟩
  cases e with
  |normal=>exact absurd rfl hne
  |exit id=>exact⟨E',st',u',h2,h3,h4,h5,h6⟩
  |goto l=>exact⟨E',st',u',h2,h3,h4,h5,h6⟩
  |ret=>exact⟨E',st',u',h2,h3,h4,h5,h6⟩
  |panic c=>exact⟨E',st',u',h2,h3,h4,h5,h6⟩
  |outgrown=>exact⟨E',st',u',h2,h3,h4,h5,h6⟩
  rintro a' w' ⟨E',st',u',h2,h3,h4,h5,h6⟩
  exact wpAnyIn_post (fun e a w=>Cd.mono h2 h3 h4) (h6 E' a' w' h5)
 intro E a w hok
 refine wpAnyIn_all hr (by simp) fun k hk=>?_
 simp only[List.mem_cons,List.not_mem_nil,or_false]at hk
 rcases hk with rfl|rfl
 exact main k oi hi h1 E a w hok
 exact main k oj hj h2 E a w hok
open Go.RowKit
theorem madeCells_one (v:Value) (m:Nat):(madeCells #[v] m).toList=List.replicate m v:=by
 apply List.ext_getElem
 simp[madeCells]
 intro i h1 h2
 simp[madeCells,Nat.mod_one]
theorem flatMap_replicate {α:Type} {f:α→List Value} {z:α} {v:Value} (h:f z=[v]):∀m:Nat,(List.replicate m z).flatMap f=List.replicate m v
 |0=>rfl
 |m+1=>by rw[List.replicate_succ,List.flatMap_cons,h,flatMap_replicate h m,List.replicate_succ];rfl
theorem Bz {α:Type} {T:TT} {C:Cx} (hT:TOk C.P T) {all:List Oper} {o:Oper} {r:List Oper} {Q:Bb} {kn:Kn} {gk:List (Nat×(Gd×SV))} {ow:Own} {nx:Nat} {u:Im}
 (Y:Lay α) (z:α) (v:Value) (by' m:Nat) {t e d:Nat} {lv cv:Operand} {ti te:TI} {kl kc:IntKind} (ho:o.op=.makeSlice t lv cv) (hgd:o.guard=none) (hd:o.dst=some d)
 (hti:look T t=some ti) (hsh:ti.shp=.slice e) (hte:look T e=some te) (hsz:te.sz=Y.fs.length) (h1:te.sz=1) (hzv:te.zv.cells=#[v]) (hel:Y.el z=[v]) (hby:(C.P.info? e).map (fun i=>i.bytes)=some by')
 (hl:opd ⟨kn,gk,ow,nx⟩ [] lv=some (.v (.int kl (m:Int)))) (hc:opd ⟨kn,gk,ow,nx⟩ [] cv=some (.v (.int kc (m:Int)))) (hf:Bg C.N ⟨kn,gk,ow,nx⟩ d []=true)
 (hb:by' * m≤281474976710656) (hm:m≤9223372036854775807)
 (K:XL C all r Q ⟨(d,.r nx)::kn,gk,(nx,.row e (Y.d (List.replicate m z)))::ow,nx+1⟩ u):XL C all (o::r) Q ⟨kn,gk,ow,nx⟩ u:=by
 unfold XL at K ⊢
 intro E a w hok
 obtain⟨f,hsat⟩:=hok.sat
 have hgs:gs a.tmps []:=fun x hx=>by cases hx
 have htik:=hT _ _ hti
 have htek:=hT _ _ hte
 obtain⟨i,i1,i2,i3,i4⟩:=info_bytes htek hby
 obtain⟨el,_⟩:=Al hok.agr hgs hl
 obtain⟨ec,_⟩:=Al hok.agr hgs hc
 simp only[SV.den]at el ec
 have hb':(i.bytes:Int) * (m:Int)≤281474976710656:=by
  rw[i4]
  have h:((by' * m:Nat):Int)≤281474976710656:=by omega
  rwa [Int.natCast_mul]at h
 have hr:=run_make (P:=C.P) w t e i te.zv (htik.isSlice hsh) i1 i3 kl kc (m:Int) (m:Int) (by omega) (Int.le_refl _) hb' (by omega)
 simp only[Int.toNat_natCast]at hr
 have hrun:(execOp a.eval o).run C.P w=.ok (.value (.slice (some ⟨w.heap.size,0,none⟩) m m)) (w.alloc (.cells (madeCells te.zv.cells (m*i.size)) e)):=by
  simp only[execOp,ho,el,ec,Sem.run_bind,hr,Result.andThen_ok]
  rfl
 refine xl_wp hgd (fun c hc=>by rw[ho]at hc;cases hc) hrun ?_
 rw[hd]
 have hgr:=World.grownBy_alloc w (.cells (madeCells te.zv.cells (m*i.size)) e) none
 have hbel:Below w.heap.size w (w.alloc (.cells (madeCells te.zv.cells (m*i.size)) e)):=⟨hgr.os,hgr.tape,hgr.output,hgr.size,fun b hb=>hgr.block b hb (by simp)⟩
 have hi1:i.size=1:=i2.trans h1
 have hown:=World.ownsRow_lit (e:=e) (base:=0) (size:=1) w (madeCells te.zv.cells (m*i.size)) m (Nat.zero_le _) (by simpa[maxLen]using hm) (by rw[size_madeCells,hi1])
 have hown':(w.alloc (.cells (madeCells te.zv.cells (m*i.size)) e)).ownsRow 0 e (Y.d (List.replicate m z)).cs.length (.slice (some ⟨w.heap.size,0,none⟩) m m) (Y.d (List.replicate m z)).n (Y.d (List.replicate m z)).flat:=by
  have e1:(Y.d (List.replicate m z)).cs.length=1:=by rw[Lay.cs_length,←hsz,h1]
  have e2:(Y.d (List.replicate m z)).n=m:=by rw[Lay.d_n,List.length_replicate]
  have e3:(Y.d (List.replicate m z)).flat=(madeCells te.zv.cells (m*i.size)).toList:=by
   rw[Lay.flat,hzv,hi1,Nat.mul_one,madeCells_one]
   exact flatMap_replicate hel m
  rw[e1,e2,e3];exact hown
 have hv:=ownAt_of (lo:=w.heap.size) hown' (fun b hb=>by cases hb;exact Nat.le_refl _)
 have hE:∀j,j<nx→upd E nx (.slice (some ⟨w.heap.size,0,none⟩) m m) j=E j:=fun j hj=>An _ _ (by omega)
 have hg:=hok.agr.grow (E':=upd E nx (.slice (some ⟨w.heap.size,0,none⟩) m m)) (ow:=(nx,.row e (Y.d (List.replicate m z)))::ow) (nx:=nx+1) hE (Nat.le_succ _)
 have hput:=hg.put (g:=[]) (d:=d) (s:=.r nx) (x:=.slice (some ⟨w.heap.size,0,none⟩) m m) hf (fun _=>⟨Nat.lt_succ_self _,_,_,_,Ak _ _ _⟩) (fun _=>(by simp only[SV.den,Ak])) (fun hn=>absurd (fun x hx=>(by cases hx)) hn) (fun _=>(by simp only[SV.den,Ak]))
 have:=K _ (a.put (some d) (.slice (some ⟨w.heap.size,0,none⟩) m m)) _ ⟨⟨hput.size,hput.kn,hput.gk,hput.klt,hput.glt⟩,_,hsat.take hbel hv⟩
 exact Av (fun e a w=>Cd.mono hE (Nat.le_succ _) (Im.le.refl u)) _ _ _ this
theorem xl_sure {C:Cx} {all:List Oper} {o:Oper} {r:List Oper} {Q:Bb} {st:St} {u:Im} (t:Nat) {want b:Bool} (hg:Bp all st o=some [(t,want)]) (h2:look st.gk t=none) (h3:look st.kn t=some (.v (.bool b))) (hb:b=want)
 (K:XL C all ({o with guard:=none}::r) Q st u):XL C all (o::r) Q st u:=by
 unfold XL at K ⊢
 intro E a w hok
 have hgs:gs a.tmps [(t,want)]:=fun x hx=>by
  simp only[List.mem_singleton]at hx
  subst hx
  have:=hok.agr.kn t _ h2 h3
  simpa[SV.den,hb]using this
 have hs:=guard_sound (all:=all.toArray) hok.agr (by simpa using hg)
 have hw:Region.wanted o (yielded all.toArray a.tmps)=true:=by
  cases hw:Region.wanted o (yielded all.toArray a.tmps)
  exact absurd hgs (hs.2 hw)
  rfl
 have h1:=K E a w hok
 unfold wpListIn at h1 ⊢
 rw[if_pos hw]
 rw[if_pos (by simp[Region.wanted])]at h1
 exact h1
structure SI where
 x:Value
 e:TypeId
 D:Data
def SI.hole:SI:=⟨.slice none 0 0,0,⟨0,[]⟩⟩
def SI.own (w:World) (p:SI):Prop:=w.ownsRow 0 p.e p.D.cs.length p.x p.D.n p.D.flat
def SI.dis (p q:SI):Prop:=∀b,p.x.ownBlock=some b→¬q.x.ownBlock=some b
theorem SI.dis_symm {p q:SI} (h:p.dis q):q.dis p:=fun b h1 h2=>h b h2 h1
def starF (l:List SI) (b:Nat):Prop:=∃p∈l,p.x.ownBlock=some b
def starDis (l:List SI):Prop:=l.Pairwise SI.dis
theorem SI.hole_own (w:World):SI.hole.own w:=⟨rfl,.inl ⟨rfl,rfl⟩⟩
theorem hole_none:SI.hole.x.ownBlock=none:=rfl
def Bx (l:List SI):Hp where
 h:=fun _ F w=>(∀p∈l,p.own w)∧starDis l∧∀b,F b↔starF l b
 loc:=fun _ F w w' ⟨h1,h2,h3⟩ hF _ _=>⟨fun p hp=>ownsRow_local (h1 p hp) fun b hb=>hF b ((h3 b).2 ⟨p,hp,hb⟩),h2,h3⟩
 mono:=fun _ _ _ _ h _ _=>h
 fin:=fun _ F w ⟨h1,_,h3⟩ b hb=>by
  obtain⟨p,hp,hb'⟩:=(h3 b).1 hb
  exact((h1 p hp).lt b hb').2
theorem list_at {α:Type} {l:List α} {i:Nat} {p:α} (h:l[i]?=some p):∃l1 l2,l=l1++p::l2∧l1.length=i:=by
 obtain⟨hi,h2⟩:=List.getElem?_eq_some_iff.1 h
 refine⟨l.take i,l.drop (i+1),?_,by rw[List.length_take];omega⟩
 rw[←h2,List.getElem_cons_drop,List.take_append_drop]
theorem set_at {α:Type} {l1 l2:List α} {p q:α}:(l1++p::l2).set l1.length q=l1++q::l2:=by
 rw[List.set_append_right _ _ (Nat.le_refl _),Nat.sub_self];rfl
theorem starDis_at {l1 l2:List SI} {p:SI}:starDis (l1++p::l2)↔starDis (l1++l2)∧∀q∈l1++l2,p.dis q:=by
 unfold starDis
 simp only[List.pairwise_append,List.pairwise_cons,List.mem_cons,List.mem_append]
 constructor
 rintro⟨h1,⟨h2,h3⟩,h4⟩
 refine⟨⟨h1,h3,fun a ha b hb=>h4 a ha b (.inr hb)⟩,fun q hq=>?_⟩
 rcases hq with hq|hq
 exact SI.dis_symm (h4 q hq p (.inl rfl))
 exact h2 q hq
 rintro⟨⟨h1,h2,h3⟩,h4⟩
 refine⟨h1,⟨fun q hq=>h4 q (.inr hq),h2⟩,fun a ha b hb=>?_⟩
 rcases hb with rfl|hb
 exact SI.dis_symm (h4 a (.inl ha))
 exact h3 a ha b hb
theorem starF_at {l1 l2:List SI} {p:SI} {b:Nat}:starF (l1++p::l2) b↔p.x.ownBlock=some b∨starF (l1++l2) b:=by
 unfold starF
 simp only[List.mem_append,List.mem_cons]
 constructor
 rintro⟨q,h|rfl|h,hb⟩
 exact .inr ⟨q,.inl h,hb⟩
 exact .inl hb
 exact .inr ⟨q,.inr h,hb⟩
 rintro(h|⟨q,h|h,hb⟩)
 exact⟨p,.inr (.inl rfl),h⟩
 exact⟨q,.inl h,hb⟩
 exact⟨q,.inr (.inr h),hb⟩
theorem Sat.regroup {E E':Env} {o o':Own} {nx nx':Nat} {u:Im} {df:List Deferred} {w:World} {f f':Nat→Nat→Prop} (h:Sat E o nx u df w f)
 (ch:Nat→Prop) (hE:∀k,k<nx→E' k=E k) (hnx:nx≤nx')
 (hsame:∀k,¬ch k→(look o' k=look o k∧∀b,f' k b↔f k b))
 (hnew:∀k,ch k→(∀r,look o' k=some r→r.holds E' k (f' k) u w∧k<nx'∧r.lt E' nx')∧(look o' k=none→∀b,¬f' k b)∧(∀b,f' k b→∃k0,ch k0∧f k0 b))
 (hapart:∀k k' b,ch k→ch k'→k≠k'→f' k b→¬f' k' b):Sat E' o' nx' u df w f':=by
 refine h.step ch hE hnx (Im.le.refl u) h.imm (Nat.le_refl _) (fun b _ _=>rfl) hsame (fun k hk=>?_) hapart (fun b o ho=>.inl ho)
 obtain⟨h1,h2,h3⟩:=hnew k hk
 refine⟨h1,h2,fun b hb=>?_⟩
 obtain⟨k0,hk0,hf⟩:=h3 b hb
 exact⟨.inl ⟨k0,hk0,hf⟩,h.off k0 b hf⟩
theorem Sat.star0 {E:Env} {o:Own} {nx:Nat} {u:Im} {df:List Deferred} {w:World} {f:Nat→Nat→Prop} (h:Sat E o nx u df w f) (n:Nat) :
 Sat E ((nx,.gen (Bx (List.replicate n SI.hole)))::o) (nx+1) u df w (upd f nx (fun _=>False)):=by
 have hrep:∀p∈List.replicate n SI.hole,p=SI.hole:=fun p hp=>(List.mem_replicate.1 hp).2
 refine h.regroup (fun k=>k=nx) (fun _ _=>rfl) (Nat.le_succ _) ?_ ?_ ?_
 intro k hk
 exact⟨by rw[Ac,if_neg (fun e=>hk e.symm)],fun b=>by rw[An _ _ hk]⟩
 rintro k rfl
 refine⟨fun r hr=>?_,fun hr=>?_,fun b hb=>?_⟩
 rw[Ac,if_pos rfl]at hr
 cases hr
 refine⟨⟨fun p hp=>by rw[hrep p hp];exact SI.hole_own w,?_,fun b=>?_⟩,Nat.lt_succ_self _,trivial⟩
 exact List.pairwise_replicate.2 (.inr fun b hb=>by cases hb)
 rw[Ak]
 refine⟨fun hh=>hh.elim,fun⟨p,hp,hb⟩=>?_⟩
 rw[hrep p hp]at hb;cases hb
 rw[Ac,if_pos rfl]at hr;cases hr
 rw[Ak]at hb;exact hb.elim
 intro k k' b hk hk' hne;subst hk hk';exact absurd rfl hne
theorem Sat.park {E:Env} {o:Own} {nx:Nat} {u:Im} {df:List Deferred} {w:World} {f:Nat→Nat→Prop} (h:Sat E o nx u df w f) {k s i:Nat} {e:TypeId} {D:Data} {l:List SI} {q:SI}
 (hk:look o k=some (.row e D)) (hs:look o s=some (.gen (Bx l))) (hi:l[i]?=some q) (hq:q.x.ownBlock=none) :
 Sat E ((k,.emp)::(s,.gen (Bx (l.set i ⟨E k,e,D⟩)))::o) nx u df w (upd (upd f s (fun b=>f s b∨f k b)) k (fun _=>False)):=by
 have hne:k≠s:=fun hh=>by rw[hh,hs]at hk;cases hk
 obtain⟨hrow,hF⟩:=h.holds k _ hk
 obtain⟨h1,h2,h3⟩:=h.holds s _ hs
 obtain⟨l1,l2,rfl,hl⟩:=list_at hi
 subst hl
 rw[set_at]
 rw[starDis_at]at h2
 have hap:∀b,(E k).ownBlock=some b→¬starF (l1++l2) b:=fun b hb hst=>
  h.apart k s b hne ((hF b).2 hb) ((h3 b).2 (starF_at.2 (.inr hst)))
 refine h.regroup (fun j=>j=k∨j=s) (fun _ _=>rfl) (Nat.le_refl _) ?_ ?_ ?_
 intro j hj
 have e1:¬k=j:=fun hh=>hj (.inl hh.symm)
 have e2:¬s=j:=fun hh=>hj (.inr hh.symm)
 refine⟨by rw[Ac,if_neg e1,Ac,if_neg e2],fun b=>?_⟩
 rw[An _ _ (Ne.symm e1),An _ _ (Ne.symm e2)]
 rintro j (rfl|rfl)
 refine⟨fun r hr=>?_,fun hr=>?_,fun b hb=>?_⟩
 rw[Ac,if_pos rfl]at hr
 cases hr
 exact⟨fun b hb=>by rw[Ak]at hb;exact hb,(h.lt j _ hk).1,trivial⟩
 rw[Ac,if_pos rfl]at hr;cases hr
 rw[Ak]at hb;exact hb.elim
 refine⟨fun r hr=>?_,fun hr=>?_,fun b hb=>?_⟩
 rw[Ac,if_neg hne,Ac,if_pos rfl]at hr
 cases hr
 refine⟨⟨fun p hp=>?_,?_,fun b=>?_⟩,(h.lt j _ hs).1,trivial⟩
 rcases List.mem_append.1 hp with hp|hp
 exact h1 p (List.mem_append_left _ hp)
 rcases List.mem_cons.1 hp with rfl|hp
 exact hrow
 exact h1 p (List.mem_append_right _ (List.mem_cons_of_mem _ hp))
 rw[starDis_at]
 exact⟨h2.1,fun q' hq' b hb hb'=>hap b hb ⟨q',hq',hb'⟩⟩
 rw[An _ _ (Ne.symm hne),Ak,starF_at,h3,starF_at,hq]
 simp only[reduceCtorEq,false_or,hF]
 exact Or.comm
 rw[Ac,if_neg hne,Ac,if_pos rfl]at hr;cases hr
 rw[An _ _ (Ne.symm hne),Ak]at hb
 rcases hb with hb|hb
 exact⟨j,.inr rfl,hb⟩
 exact⟨k,.inl rfl,hb⟩
 intro j j' b hj hj' hjne hb hb'
 rcases hj with rfl|rfl
 rw[Ak]at hb;exact hb
 rcases hj' with rfl|rfl
 rw[Ak]at hb';exact hb'
 exact hjne rfl
theorem Sat.unpark {E:Env} {o:Own} {nx:Nat} {u:Im} {df:List Deferred} {w:World} {f:Nat→Nat→Prop} (h:Sat E o nx u df w f) {s i:Nat} {l:List SI} {p:SI}
 (hs:look o s=some (.gen (Bx l))) (hi:l[i]?=some p) :
 Sat (upd E nx p.x) ((nx,.row p.e p.D)::(s,.gen (Bx (l.set i SI.hole)))::o) (nx+1) u df w (upd (upd f s (fun b=>f s b∧¬p.x.ownBlock=some b)) nx (fun b=>p.x.ownBlock=some b)):=by
 have hsl:=(h.lt s _ hs).1
 have hne:nx≠s:=fun hh=>by omega
 obtain⟨h1,h2,h3⟩:=h.holds s _ hs
 obtain⟨l1,l2,rfl,hl⟩:=list_at hi
 subst hl
 rw[set_at]
 rw[starDis_at]at h2
 have hp:p∈l1++p::l2:=by simp
 have hE:∀j,j<nx→upd E nx p.x j=E j:=fun j hj=>An _ _ (by omega)
 refine h.regroup (fun j=>j=nx∨j=s) hE (Nat.le_succ _) ?_ ?_ ?_
 intro j hj
 have e1:¬nx=j:=fun hh=>hj (.inl hh.symm)
 have e2:¬s=j:=fun hh=>hj (.inr hh.symm)
 refine⟨by rw[Ac,if_neg e1,Ac,if_neg e2],fun b=>?_⟩
 rw[An _ _ (Ne.symm e1),An _ _ (Ne.symm e2)]
 rintro j (rfl|rfl)
 refine⟨fun r hr=>?_,fun hr=>?_,fun b hb=>?_⟩
 rw[Ac,if_pos rfl]at hr
 cases hr
 refine⟨⟨?_,fun b=>?_⟩,Nat.lt_succ_self _,trivial⟩
 rw[Ak];exact h1 p hp
 rw[Ak,Ak]
 rw[Ac,if_pos rfl]at hr;cases hr
 rw[Ak]at hb
 exact⟨s,.inr rfl,(h3 b).2 ⟨p,hp,hb⟩⟩
 refine⟨fun r hr=>?_,fun hr=>?_,fun b hb=>?_⟩
 rw[Ac,if_neg hne,Ac,if_pos rfl]at hr
 cases hr
 refine⟨⟨fun q hq=>?_,?_,fun b=>?_⟩,Nat.lt_succ_of_lt hsl,trivial⟩
 rcases List.mem_append.1 hq with hq|hq
 exact h1 q (List.mem_append_left _ hq)
 rcases List.mem_cons.1 hq with rfl|hq
 exact SI.hole_own w
 exact h1 q (List.mem_append_right _ (List.mem_cons_of_mem _ hq))
 rw[starDis_at]
 exact⟨h2.1,fun q' hq' b hb=>by cases hb⟩
 rw[An _ _ (Ne.symm hne),Ak,starF_at,h3,starF_at,hole_none]
 simp only[reduceCtorEq,false_or]
 constructor
 rintro⟨h4|h4,h5⟩
 exact absurd h4 h5
 exact h4
 rintro h4
 refine⟨.inr h4,fun h5=>?_⟩
 obtain⟨q,hq,hb⟩:=h4
 exact h2.2 q hq b h5 hb
 rw[Ac,if_neg hne,Ac,if_pos rfl]at hr;cases hr
 rw[An _ _ (Ne.symm hne),Ak]at hb
 exact⟨j,.inr rfl,hb.1⟩
 intro j j' b hj hj' hjne hb hb'
 rcases hj with rfl|rfl
 rcases hj' with rfl|rfl
 exact hjne rfl
 rw[Ak]at hb
 rw[An _ _ (Ne.symm hne),Ak]at hb'
 exact hb'.2 hb
 rcases hj' with rfl|rfl
 rw[Ak]at hb'
 rw[An _ _ (Ne.symm hne),Ak]at hb
 exact hb.2 hb'
 exact hjne rfl
theorem own_slAt {w:World} {p:SI} (h:p.own w):Aw (im w) p.x p.D:=
 (ownAt_of (lo:=0) h (fun _ _=>Nat.zero_le _)).slAt.sub (cut_sub 0 _)
theorem Sat.starAt {E:Env} {o:Own} {nx:Nat} {u:Im} {df:List Deferred} {w:World} {f:Nat→Nat→Prop} (h:Sat E o nx u df w f) {s i:Nat} {l:List SI} {p:SI}
 (hs:look o s=some (.gen (Bx l))) (hi:l[i]?=some p):Aw (im w) p.x p.D:=
 own_slAt ((h.holds s _ hs).1 p (List.mem_of_getElem? hi))
theorem Sat.freezeStar {E:Env} {o:Own} {nx:Nat} {u:Im} {df:List Deferred} {w:World} {f:Nat→Nat→Prop} (h:Sat E o nx u df w f) {k:Nat} {l:List SI} (hk:look o k=some (.gen (Bx l))) :
 ∃u',u.le u'∧(∀p∈l,Aw u' p.x p.D∧∀b,p.x.ownBlock=some b→u.h b=none)∧Sat E ((k,.emp)::o) nx u' df w (upd f k (fun _=>False)):=by
 classical
 obtain⟨hrow,hdis,hF⟩:=h.holds k _ hk
 have hle:u.le {u with h:=fun b=>if starF l b then w.heap[b]? else u.h b}:=by
  refine⟨fun b x hx=>?_,rfl,rfl,rfl,rfl⟩
  simp only
  split
  rename_i hb;rw[h.off k b ((hF b).2 hb)]at hx;cases hx
  exact hx
 have himm:Imm {u with h:=fun b=>if starF l b then w.heap[b]? else u.h b} w:=by
  refine⟨fun b x hx=>?_,h.imm.os,h.imm.tape,h.imm.output,h.imm.lo⟩
  simp only at hx
  split at hx
  exact hx
  exact h.imm.h b x hx
 refine⟨{u with h:=fun b=>if starF l b then w.heap[b]? else u.h b},hle,fun p hp=>⟨?_,fun b hb=>h.off k b ((hF b).2 ⟨p,hp,hb⟩)⟩,?_⟩
 have h1:=ownAt_of (lo:=0) (hrow p hp) (fun _ _=>Nat.zero_le _)
 have:OwnAt {u with h:=fun b=>if starF l b then w.heap[b]? else u.h b} p.x p.e p.D:=by
  rcases h1 with h1|⟨g,cap,cur,h1,h2,h3⟩
  exact .inl h1
  refine .inr ⟨g,cap,cur,h1,?_,h3⟩
  simp only[cut,im,Nat.not_lt_zero,if_false]at h2
  simp only
  rw[if_pos ⟨p,hp,by rw[h1];rfl⟩];exact h2
 exact this.slAt
 have hoth:∀j,j≠k→∀b,f j b→(if starF l b then w.heap[b]? else u.h b)=none:=fun j hj b hb=>by
  rw[if_neg (fun hh=>h.apart j k b hj hb ((hF b).2 hh))];exact h.off j b hb
 refine⟨fun j r hr=>?_,fun j hr b hb=>?_,fun j j' b hne h1=>?_,fun j b hb=>?_,fun j r hr=>?_,himm,?_⟩
 rw[Ac]at hr
 split at hr
 rename_i e1;subst e1;cases hr;exact fun x hx=>by rw[Ak]at hx;exact hx
 rename_i e1
 rw[An _ _ (Ne.symm e1)]
 exact Rs.holds_mono hle himm (h.holds j r hr)
 rw[Ac]at hr
 split at hr
 cases hr
 rename_i e1
 rw[An _ _ (Ne.symm e1)]at hb
 exact h.non j hr b hb
 by_cases hj:j=k
 subst hj;rw[Ak]at h1;exact h1.elim
 rw[An _ _ hj]at h1
 by_cases hj':j'=k
 subst hj';rw[Ak];exact id
 rw[An _ _ hj'];exact h.apart j j' b hne h1
 by_cases hj:j=k
 subst hj;rw[Ak]at hb;exact hb.elim
 rw[An _ _ hj]at hb;exact hoth j hj b hb
 rw[Ac]at hr
 split at hr
 rename_i e1;subst e1;cases hr;exact⟨(h.lt k _ hk).1,trivial⟩
 exact h.lt j r hr
 obtain⟨ds,h1,h2,h3⟩:=h.marks
 refine⟨ds,h1,h2,fun d hd=>?_⟩
 obtain⟨h4,h5,h6⟩:=h3 d hd
 refine⟨h4,?_,fun j hj=>?_⟩
 simp only
 rw[if_neg (fun hh=>h6 k ((hF d).2 hh))];exact h5
 by_cases hjk:j=k
 subst hjk;rw[Ak]at hj;exact hj
 rw[An _ _ hjk]at hj;exact h6 j hj
theorem Ce {C:Cx} {all l:List Oper} {Q:Bb} {kn:Kn} {gk:List (Nat×(Gd×SV))} {ow:Own} {nx:Nat} {u:Im} (n:Nat)
 (K:XL C all l Q ⟨kn,gk,(nx,.gen (Bx (List.replicate n SI.hole)))::ow,nx+1⟩ u):XL C all l Q ⟨kn,gk,ow,nx⟩ u:=by
 unfold XL at K ⊢
 intro E a w hok
 obtain⟨f,hsat⟩:=hok.sat
 have hg:=hok.agr.grow (E':=E) (ow:=(nx,.gen (Bx (List.replicate n SI.hole)))::ow) (nx:=nx+1) (fun _ _=>rfl) (Nat.le_succ _)
 have:=K E a w ⟨hg,_,hsat.star0 n⟩
 exact Av (fun e a w=>Cd.mono (fun _ _=>rfl) (Nat.le_succ _) (Im.le.refl u)) _ _ _ this
theorem x_star0 {C:Cx} {cc:Code} {Q:Bb} {kn:Kn} {gk:List (Nat×(Gd×SV))} {ow:Own} {nx:Nat} {u:Im} (n:Nat)
 (K:X C cc Q ⟨kn,gk,(nx,.gen (Bx (List.replicate n SI.hole)))::ow,nx+1⟩ u):X C cc Q ⟨kn,gk,ow,nx⟩ u:=by
 unfold X at K ⊢
 intro E a w hok
 obtain⟨f,hsat⟩:=hok.sat
 have hg:=hok.agr.grow (E':=E) (ow:=(nx,.gen (Bx (List.replicate n SI.hole)))::ow) (nx:=nx+1) (fun _ _=>rfl) (Nat.le_succ _)
 have:=K E a w ⟨hg,_,hsat.star0 n⟩
 exact Go.wpIn_mono this (fun e a w=>Cd.mono (fun _ _=>rfl) (Nat.le_succ _) (Im.le.refl u))
theorem xl_park {C:Cx} {all l:List Oper} {Q:Bb} {kn:Kn} {gk:List (Nat×(Gd×SV))} {ow:Own} {nx:Nat} {u:Im} (k s i:Nat) {e:TypeId} {D:Data} {sl:List SI} {q:SI}
 (hk:look ow k=some (.row e D)) (hs:look ow s=some (.gen (Bx sl))) (hi:sl[i]?=some q) (hq:q.x.ownBlock=none)
 (K:∀A c,XL C all l Q ⟨frz k (.slice A D.n c) kn,gk,(k,.emp)::(s,.gen (Bx (sl.set i ⟨.slice A D.n c,e,D⟩)))::ow,nx⟩ u):XL C all l Q ⟨kn,gk,ow,nx⟩ u:=by
 unfold XL at K ⊢
 intro E a w hok
 obtain⟨f,hsat⟩:=hok.sat
 obtain⟨A,c,hv⟩:=ownsRow_sl (hsat.holds k _ hk).1
 have h2:=hsat.park hk hs hi hq
 rw[hv]at h2
 exact K A c E a w ⟨hok.agr.frz hv,_,h2⟩
theorem Agr.unpark {N:Nat} {E:Env} {kn:Kn} {ow ow':Own} {nx d:Nat} {tm:Array Value} (h:Agr N E ⟨kn,[],ow,nx⟩ tm) {p:SI} {w:World} (hp:p.own w) (hd:look kn d=some (.v p.x)) :
 Agr N (upd E nx p.x) ⟨(d,.r nx)::kn,[],ow',nx+1⟩ tm:=by
 have hE:∀j,j<nx→upd E nx p.x j=E j:=fun j hj=>An _ _ (by omega)
 have hg:=h.grow (E':=upd E nx p.x) (ow:=ow') (nx:=nx+1) hE (Nat.le_succ _)
 refine⟨hg.size,fun t s h1 h2=>?_,fun t g s h1=>(by cases h1),fun t s h2=>?_,fun t g s h1=>(by cases h1)⟩
 rw[Ac]at h2
 split at h2
 rename_i e1;subst e1;cases h2
 rw[h.kn _ _ rfl hd]
 simp only[SV.den,Ak]
 exact hg.kn t s h1 h2
 rw[Ac]at h2
 split at h2
 cases h2
 obtain⟨A,c,hv⟩:=ownsRow_sl hp
 exact⟨Nat.lt_succ_self _,A,_,c,by rw[Ak];exact hv⟩
 exact hg.klt t s h2
theorem xl_unpark {C:Cx} {all l:List Oper} {Q:Bb} {kn:Kn} {ow:Own} {nx:Nat} {u:Im} (d s i:Nat) {sl:List SI} {p:SI}
 (hd:look kn d=some (.v p.x)) (hs:look ow s=some (.gen (Bx sl))) (hi:sl[i]?=some p)
 (K:XL C all l Q ⟨(d,.r nx)::kn,[],(nx,.row p.e p.D)::(s,.gen (Bx (sl.set i SI.hole)))::ow,nx+1⟩ u):XL C all l Q ⟨kn,[],ow,nx⟩ u:=by
 unfold XL at K ⊢
 intro E a w hok
 obtain⟨f,hsat⟩:=hok.sat
 have hp:=(hsat.holds s _ hs).1 p (List.mem_of_getElem? hi)
 have hE:∀j,j<nx→upd E nx p.x j=E j:=fun j hj=>An _ _ (by omega)
 have:=K (upd E nx p.x) a w ⟨hok.agr.unpark hp hd,_,hsat.unpark hs hi⟩
 exact Av (fun e a w=>Cd.mono hE (Nat.le_succ _) (Im.le.refl u)) _ _ _ this
theorem xl_freezeStar {C:Cx} {all l:List Oper} {Q:Bb} {kn:Kn} {gk:List (Nat×(Gd×SV))} {ow:Own} {nx:Nat} {u:Im} (s:Nat) {sl:List SI} (hs:look ow s=some (.gen (Bx sl)))
 (K:∀u',u.le u'→(∀p∈sl,Aw u' p.x p.D∧∀b,p.x.ownBlock=some b→u.h b=none)→XL C all l Q ⟨kn,gk,(s,.emp)::ow,nx⟩ u'):XL C all l Q ⟨kn,gk,ow,nx⟩ u:=by
 unfold XL at K ⊢
 intro E a w hok
 obtain⟨f,hsat⟩:=hok.sat
 obtain⟨u',hu,hsl,hsat'⟩:=hsat.freezeStar hs
 have:=K u' hu hsl E a w ⟨⟨hok.agr.size,hok.agr.kn,hok.agr.gk,hok.agr.klt,hok.agr.glt⟩,_,hsat'⟩
 exact Av (fun e a w=>Cd.mono (fun _ _=>rfl) (Nat.le_refl _) hu) _ _ _ this
theorem x_freezeStar {C:Cx} {cc:Code} {Q:Bb} {kn:Kn} {gk:List (Nat×(Gd×SV))} {ow:Own} {nx:Nat} {u:Im} (s:Nat) {sl:List SI} (hs:look ow s=some (.gen (Bx sl)))
 (K:∀u',u.le u'→(∀p∈sl,Aw u' p.x p.D∧∀b,p.x.ownBlock=some b→u.h b=none)→X C cc Q ⟨kn,gk,(s,.emp)::ow,nx⟩ u'):X C cc Q ⟨kn,gk,ow,nx⟩ u:=by
 unfold X at K ⊢
 intro E a w hok
 obtain⟨f,hsat⟩:=hok.sat
 obtain⟨u',hu,hsl,hsat'⟩:=hsat.freezeStar hs
 have:=K u' hu hsl E a w ⟨⟨hok.agr.size,hok.agr.kn,hok.agr.gk,hok.agr.klt,hok.agr.glt⟩,_,hsat'⟩
 exact Go.wpIn_mono this (fun e a w=>Cd.mono (fun _ _=>rfl) (Nat.le_refl _) hu)
def NestAt (u:Im) (l:List SI):Prop:=(∀p∈l,OwnAt u p.x p.e p.D)∧starDis l
def StarR {σ:Type} (val:σ→Value) (l:σ→List SI) (G:σ→Prop) (v:Value) (u:Im):Prop:=∃s,v=val s∧NestAt u (l s)∧G s
theorem finStar {σ:Type} {w0:World} {ow:Own} {nx:Nat} {u:Im} {k:Nat} {val:σ→Value} {l:σ→List SI} {G:σ→Prop} {vs:List SV} (s:σ) (hk:look ow k=some (.gen (Bx (l s))))
 (hv:∀E,tupV (vs.map (SV.den E))=val s) (hG:G s):Done w0 (StarR val l G) vs ow nx u:=
 finP fun E w' F hs hu=>by
  obtain⟨h1,h2,h3⟩:=hs.holds k _ hk
  refine⟨s,hv E,⟨fun p hp=>ownAt_of (h1 p hp) fun b hb=>?_,h2⟩,hG⟩
  have h4:=hs.off k b ((h3 b).2 ⟨p,hp,hb⟩)
  rcases Nat.lt_or_ge b w0.heap.size with hlt|hge
  have:(im w0).h b=some w0.heap[b]:=Array.getElem?_eq_getElem hlt
  rw[hu.h _ _ this]at h4;cases h4
  exact hge
theorem Sat.takeStar {E:Env} {o:Own} {nx:Nat} {u:Im} {df:List Deferred} {w w':World} {f:Nat→Nat→Prop} (h:Sat E o nx u df w f) (hb:Below w.heap.size w w') {l:List SI} (hv:NestAt (cut w.heap.size (im w')) l) :
 Sat E ((nx,.gen (Bx l))::o) (nx+1) u df w' (upd f nx (starF l)):=by
 have hlt:∀b x,u.h b=some x→b<w.heap.size:=fun b x hx=>(Array.getElem?_eq_some_iff.1 (h.imm.h b x hx)).1
 have hlo:∀b,starF l b→w.heap.size≤b:=fun b ⟨p,hp,hb⟩=>(hv.1 p hp).owns.2 b hb
 refine h.step (fun j=>j=nx) (fun _ _=>rfl) (Nat.le_succ _) (Im.le.refl u) ?_ hb.size (fun b hb' _=>hb.block b hb') ?_ ?_ ?_ (fun b o ho=>.inl ho)
 exact⟨fun b x hx=>by rw[hb.block b (hlt b x hx)];exact h.imm.h b x hx,hb.os.trans h.imm.os,hb.tape.trans h.imm.tape,hb.output.trans h.imm.output,Nat.le_trans h.imm.lo hb.size⟩
 intro k hk
 exact⟨by rw[Ac,if_neg (Ne.symm hk)],fun b=>by rw[An _ _ hk]⟩
 rintro k rfl
 refine⟨fun r hr=>?_,fun hr=>?_,fun b hb'=>?_⟩
 rw[Ac,if_pos rfl]at hr
 cases hr
 refine⟨⟨fun p hp=>(hv.1 p hp).owns.1,hv.2,fun b=>by rw[Ak]⟩,Nat.lt_succ_self _,trivial⟩
 rw[Ac,if_pos rfl]at hr;cases hr
 rw[Ak]at hb'
 refine⟨.inr (hlo b hb'),?_⟩
 cases ho:u.h b with
 |none=>rfl
 |some x=>have:=hlt b x ho;have:=hlo b hb';omega
 intro k k' b hk hk' hne;subst hk hk';exact absurd rfl hne
theorem xl_callStar {σ:Type} {C:Cx} {all:List Oper} {o:Oper} {r:List Oper} {Q:Bb} {kn:Kn} {gk:List (Nat×(Gd×SV))} {ow:Own} {nx:Nat} {u:Im} {c:Call} (val:σ→Value) (l:σ→List SI) (G:σ→Prop)
 (ho:o.op=.call c) (hgd:o.guard=none) {f d:Nat} (hd:o.dst=some d)
 (hc:callee ⟨kn,gk,ow,nx⟩ c=some f) (hfn:Fn1 C.P f) {ss:List SV} (hargs:argsOf ⟨kn,gk,ow,nx⟩ [] c.args.toList=some ss) (hfr:Bg C.N ⟨kn,gk,ow,nx⟩ d []=true)
 (H:∀E w F,Sat E ow nx u [] w F→Calls C.P f (ss.map (SV.den E)).toArray w (Bc w (StarR val l G)))
 (K:∀s,G s→XL C all r Q ⟨(d,.v (val s))::kn,gk,(nx,.gen (Bx (l s)))::ow,nx+1⟩ u) :
 XL C all (o::r) Q ⟨kn,gk,ow,nx⟩ u:=by
 unfold XL at K ⊢
 intro E a w hok
 obtain⟨fF,hsat⟩:=hok.sat
 refine call_core _ ho hgd hc hfn hargs H hok hsat fun v w' hbel hR=>?_
 obtain⟨s,rfl,hN,hG⟩:=hR
 have hg:=hok.agr.grow (E':=E) (ow:=(nx,.gen (Bx (l s)))::ow) (nx:=nx+1) (fun _ _=>rfl) (Nat.le_succ _)
 have hput:Agr C.N E (St.put ⟨kn,gk,(nx,.gen (Bx (l s)))::ow,nx+1⟩ d [] (.v (val s))) (a.tmps.setIfInBounds d (val s)):=
  hg.put (g:=[]) hfr (fun _=>trivial) (fun _=>rfl) (fun hn=>absurd (fun x hx=>(by cases hx)) hn) (fun _=>rfl)
 rw[hd]
 have:=K s hG E (a.put (some d) (val s)) w' ⟨⟨hput.size,hput.kn,hput.gk,hput.klt,hput.glt⟩,_,hsat.takeStar hbel hN⟩
 exact Av (fun e a w=>Cd.mono (fun _ _=>rfl) (Nat.le_succ _) (Im.le.refl u)) _ _ _ this
theorem Sat.starMore {E:Env} {o:Own} {nx:Nat} {u:Im} {df:List Deferred} {w:World} {f:Nat→Nat→Prop} (h:Sat E o nx u df w f) {s:Nat} {l:List SI} (hs:look o s=some (.gen (Bx l))) :
 Sat E ((s,.gen (Bx (l++[SI.hole])))::o) nx u df w f:=by
 obtain⟨h1,h2,h3⟩:=h.holds s _ hs
 refine h.regroup (fun j=>j=s) (fun _ _=>rfl) (Nat.le_refl _) ?_ ?_ ?_
 intro j hj
 exact⟨by rw[Ac,if_neg (fun e=>hj e.symm)],fun _=>Iff.rfl⟩
 rintro j rfl
 refine⟨fun r hr=>?_,fun hr=>?_,fun b hb=>⟨j,rfl,hb⟩⟩
 rw[Ac,if_pos rfl]at hr
 cases hr
 refine⟨⟨fun p hp=>?_,?_,fun b=>?_⟩,(h.lt j _ hs).1,trivial⟩
 rcases List.mem_append.1 hp with hp|hp
 exact h1 p hp
 rw[List.mem_singleton.1 hp];exact SI.hole_own w
 rw[starDis_at,List.append_nil]
 exact⟨h2,fun q _ b hb=>by cases hb⟩
 rw[starF_at,List.append_nil,h3,hole_none];simp
 rw[Ac,if_pos rfl]at hr;cases hr
 intro k k' b hk hk' hne;subst hk hk';exact absurd rfl hne
theorem By {C:Cx} {all l:List Oper} {Q:Bb} {kn:Kn} {gk:List (Nat×(Gd×SV))} {ow:Own} {nx:Nat} {u:Im} (k s:Nat) {e:TypeId} {D:Data} {sl:List SI}
 (hk:look ow k=some (.row e D)) (hs:look ow s=some (.gen (Bx sl)))
 (K:∀A c,XL C all l Q ⟨frz k (.slice A D.n c) kn,gk,(k,.emp)::(s,.gen (Bx (sl++[⟨.slice A D.n c,e,D⟩])))::ow,nx⟩ u):XL C all l Q ⟨kn,gk,ow,nx⟩ u:=by
 unfold XL at K ⊢
 intro E a w hok
 obtain⟨f,hsat⟩:=hok.sat
 obtain⟨A,c,hv⟩:=ownsRow_sl (hsat.holds k _ hk).1
 have hne:s≠k:=fun hh=>by rw[←hh,hs]at hk;cases hk
 have h2:=(hsat.starMore hs).park (k:=k) (s:=s) (i:=sl.length) (q:=SI.hole) (e:=e) (D:=D) (by rw[Ac,if_neg hne];exact hk) (by rw[Ac,if_pos rfl]) (by simp) rfl
 rw[hv,set_at]at h2
 have h3:Sat E ((k,.emp)::(s,.gen (Bx (sl++[⟨.slice A D.n c,e,D⟩])))::ow) nx u a.defers w (upd (upd f s (fun b=>f s b∨f k b)) k (fun _=>False)):=by
  refine h2.regroup (fun _=>False) (fun _ _=>rfl) (Nat.le_refl _) (fun j _=>⟨?_,fun _=>Iff.rfl⟩) (fun _ hh=>hh.elim) (fun _ _ _ hh=>hh.elim)
  simp only[Ac]
  by_cases a1:k=j
  rw[if_pos a1,if_pos a1]
  by_cases a2:s=j
  rw[if_neg a1,if_neg a1,if_pos a2,if_pos a2]
  rw[if_neg a1,if_neg a1,if_neg a2,if_neg a2,if_neg a2]
 exact K A c E a w ⟨hok.agr.frz hv,_,h3⟩
def YieldTo2 (P:Program) (l:Nat) (x y:Value) (w:World) (R:Ending→World→Prop):Prop:=
 ∃f tmps assign body,(Instr.yield l #[x,y]).run P w=.ok (.round l f tmps assign body) w∧RoundIn (FR none) 0 P l f tmps assign body w R
def Rounds2 (P:Program) (l:Nat) {u0:Im} (Y:Nat→Wp u0) (Z:Wp u0) (xs:List (Value×Value)):Prop:=
 ∀k x w F,xs[k]?=some x→Imm u0 w→(Y k).h F w→(∀b,F b→u0.h b=none) →
  YieldTo2 P l x.1 x.2 w fun e w'=>∃F',Step w F w' F'∧((e=.returned (.bool true)∧(Y (k+1)).h F' w')∨(e=.returned (.bool false)∧Z.h F' w'))
def Iter2 (P:Program) (gf:Nat) (caps:Array Value) (xs:List (Value×Value)) (u0:Im):Prop:=
 ∀l (Y:Nat→Wp u0) (Z:Wp u0) w F,Rounds2 P l Y Z xs→Imm u0 w→(Y 0).h F w→(∀b,F b→u0.h b=none) →
  Calls P gf (#[.func (.yield l) #[] #[]]++caps) w fun e w'=>∃v F',e=.returned v∧Step w F w' F'∧((Y xs.length).h F' w'∨Z.h F' w')
theorem xl_yield2 {C:Cx} (hro:C.ro=none) {all:List Oper} {o:Oper} {r:List Oper} {Q:Bb} {kn:Kn} {gk:List (Nat×(Gd×SV))} {ow:Own} {nx:Nat} {u u0:Im} {c:Call} {l kY k d:Nat} {Y:Nat→Wp u0} {Z:Wp u0} {xs:List (Value×Value)} {x y:Value} {fo:Operand}
 (hR:Rounds2 C.P l Y Z xs) (ho:o.op=.call c) (hgd:o.guard=none) (hd:o.dst=some d) (hc:c.callee=.value fo) (hfo:opd ⟨kn,gk,ow,nx⟩ [] fo=some (.v (.func (.yield l) #[] #[])))
 (hargs:argsOf ⟨kn,gk,ow,nx⟩ [] c.args.toList=some [.v x,.v y]) (hfr:Bg C.N ⟨kn,gk,ow,nx⟩ d []=true) (hY:look ow kY=some (.gen (Y k).hp)) (hx:xs[k]?=some (x,y))
 (K1:XL C all r Q ⟨(d,.v (.bool true))::kn,gk,(kY,.gen (Y (k+1)).hp)::ow,nx⟩ u)
 (K2:XL C all r Q ⟨(d,.v (.bool false))::kn,gk,(kY,.gen Z.hp)::ow,nx⟩ u):XL C all (o::r) Q ⟨kn,gk,ow,nx⟩ u:=by
 obtain⟨P,ro,N⟩:=C
 simp only at hro
 subst hro
 unfold XL
 intro E a w hok
 obtain⟨f,hsat⟩:=hok.sat
 have hgs:gs a.tmps []:=fun x hx=>by cases hx
 obtain⟨ef,_⟩:=Al hok.agr hgs hfo
 obtain⟨ea,_⟩:=argsOf_sound hok.agr hgs hargs
 simp only[SV.den]at ef
 obtain⟨hYw,hext⟩:(Y k).hp.h u (f kY) w:=hsat.holds kY _ hY
 have hoff0:∀b,f kY b→u0.h b=none:=fun b hb=>by
  cases h0:u0.h b with
  |none=>rfl
  |some o=>have h1:=hext.h b o h0;rw[hsat.off kY b hb]at h1;cases h1
 obtain⟨fn,tmps,asg,body,hrun,hround⟩:=hR k (x,y) w (f kY) hx (hsat.imm.of_ext hext) hYw hoff0
 have ea':c.args.map a.eval=#[x,y]:=by
  apply Array.ext'
  simpa[SV.den]using ea
 have hrun2:(execOp a.eval o).run P w=.ok (.round l fn tmps asg body) w:=by
  simp only[execOp,ho]
  simp[resolve,hc,ef,Deferred.ofValue,invoke,ea',hrun]
 unfold wpListIn
 rw[if_pos (by simp[Region.wanted,hgd])]
 refine⟨fun _ _=>trivial,?_⟩
 rw[semAt_eq _ _ _ (fun c' hc'=>by rw[ho]at hc';cases hc'),hrun2,Oper.uponIn_round]
 refine⟨fun h=>(by cases h),RoundIn.mono hround ?_⟩
 rintro e w' ⟨F',hst,hh⟩
 have himm:Imm u w':=hsat.imm.of_step hst (fun b hb=>hsat.off kY b hb)
 have main:∀(b:Bool) (A:Hp),A.h u F' w'→(XL ⟨P,none,N⟩ all r Q ⟨(d,.v (.bool b))::kn,gk,(kY,.gen A)::ow,nx⟩ u) →
  wpListIn (FR none) 0 P all.toArray (Cd ⟨P,none,N⟩ E nx u Q) r (a.put o.dst (.bool b)) w':=by
  intro b A hA K
  unfold XL at K
  have hs2:Sat E ((kY,.gen A)::ow) nx u a.defers w' (upd f kY F'):=by
   refine hsat.step (fun j=>j=kY) (fun _ _=>rfl) (Nat.le_refl _) (Im.le.refl u) himm hst.size (fun b hb hno=>hst.same b hb (hno kY rfl)) ?_ ?_ ?_ (fun b o ho=>.inl ho)
   intro j hj
   exact⟨by rw[Ac,if_neg (Ne.symm hj)],fun b=>by rw[An _ _ hj]⟩
   rintro j rfl
   refine⟨fun r hr=>?_,fun hr=>?_,fun b hb=>?_⟩
   rw[Ac,if_pos rfl]at hr
   cases hr
   refine⟨?_,(hsat.lt _ _ hY).1,trivial⟩
   simp only[Rs.holds,Ak];exact hA
   rw[Ac,if_pos rfl]at hr;cases hr
   rw[Ak]at hb
   refine⟨(hst.foot b hb).imp (fun h=>⟨j,rfl,h⟩) id,?_⟩
   rcases hst.foot b hb with h|h
   exact hsat.off j b h
   cases hub:u.h b with
   |none=>rfl
   |some o=>have:=(Array.getElem?_eq_some_iff.1 (hsat.imm.h b o hub)).1;omega
   intro j j' b hj hj' hne;subst hj hj';exact absurd rfl hne
  have hag:Agr N E ⟨kn,gk,(kY,.gen A)::ow,nx⟩ a.tmps:=⟨hok.agr.size,hok.agr.kn,hok.agr.gk,hok.agr.klt,hok.agr.glt⟩
  have hput:=hag.put (g:=[]) (d:=d) (s:=.v (.bool b)) (x:=.bool b) hfr (fun _=>trivial) (fun _=>rfl) (fun hn=>absurd (fun x hx=>(by cases hx)) hn) (fun _=>rfl)
  rw[hd]
  exact K E (a.put (some d) (.bool b)) w' ⟨⟨hput.size,hput.kn,hput.gk,hput.klt,hput.glt⟩,_,hs2⟩
 rcases hh with⟨rfl,hA⟩|⟨rfl,hA⟩
 exact main true (Y (k+1)).hp ⟨hA,hext⟩ K1
 exact main false Z.hp ⟨hA,hext⟩ K2
theorem x_iter2 {T:TT} {P:Program} (hT:TOk P T) {gf N:Nat} {fn:Func} {c:Code} (hf:P.funcs[gf]?=some fn) (hb:fn.body=some c) (hN:fn.ntmps=N)
 {caps:Array Value} {xs:List (Value×Value)} {u0:Im} (bs:List (Value×Data)) (ss:List SV) (E:Env) (hE:∀j (b:Value×Data),bs[j]?=some b→E (j+1)=b.1)
 (hcaps:caps=(ss.map (SV.den E)).toArray) (hle:Nat.ble (ss.length+1) N=true) (hss:∀s∈ss,s.lt E (bs.length+1)) (hbs:∀b∈bs,Aw u0 b.1 b.2)
 (h:∀l (Y:Nat→Wp u0) (Z:Wp u0) u,u0.ext u→Rounds2 P l Y Z xs→X ⟨P,none,N⟩ c (FinQ T fn.results.toList fun _ st _=>look st.ow 0=some (.gen (Y xs.length).hp)∨look st.ow 0=some (.gen Z.hp))
  ⟨knOf 0 (.v (.func (.yield l) #[] #[])::ss),[],(0,.gen (Y 0).hp)::ownOf 1 bs,bs.length+1⟩ u):Iter2 P gf caps xs u0:=by
 classical
 intro l Y Z w F hR himm hY0 hoff
 let v:Im:={h:=fun b=>if F b then none else w.heap[b]?,os:=w.os,tape:=w.tape,output:=w.output,lo:=w.heap.size}
 have hv:∀b,¬F b→v.h b=w.heap[b]?:=fun b hb=>by show(if F b then none else w.heap[b]?)=_;rw[if_neg hb]
 have hvF:∀b,F b→v.h b=none:=fun b hb=>by show(if F b then none else w.heap[b]?)=_;rw[if_pos hb]
 have huv:u0.ext v:=⟨fun b o ho=>by rw[hv b (fun hF=>by rw[hoff b hF]at ho;cases ho)];exact himm.h b o ho,himm.os,himm.tape,himm.output,himm.lo⟩
 have himmv:Imm v w:=⟨fun b o ho=>by
  by_cases hb:F b
  rw[hvF b hb]at ho;cases ho
  rw[hv b hb]at ho;exact ho,rfl,rfl,rfl,Nat.le_refl _⟩
 have hsat:Sat E ((0,.gen (Y 0).hp)::ownOf 1 bs) (bs.length+1) v [] w (fun k b=>k=0∧F b):=by
  have hol:∀k r,look (ownOf 1 bs) k=some r→∃j b,k=j+1∧bs[j]?=some b∧r=.sl b.2:=fun k r hl=>by
   obtain⟨h1,b,h2,h3⟩:=ownOf_look hl
   exact⟨k-1,b,by omega,h2,h3⟩
  refine⟨fun k r hl=>?_,fun k hl b hb=>?_,fun k k' b hne h1 h2=>hne (h1.1.trans h2.1.symm),fun k b hb=>hvF b hb.2,fun k r hl=>?_,himmv,[],rfl,List.nodup_nil,fun d hd=>by cases hd⟩
  rw[Ac]at hl
  split at hl
  rename_i e;subst e;cases hl
  have:(fun b=>(0:Nat)=0∧F b)=F:=funext fun b=>propext ⟨fun h=>h.2,fun h=>⟨rfl,h⟩⟩
  show(Y 0).hp.h v (fun b=>(0:Nat)=0∧F b) w
  rw[this]
  exact⟨hY0,huv⟩
  rename_i e
  obtain⟨j,b,rfl,hj,rfl⟩:=hol k r hl
  refine⟨?_,fun x hx=>e hx.1.symm⟩
  rw[hE j b hj]
  exact(hbs b (List.mem_of_getElem? hj)).sub huv.sub
  obtain⟨rfl,_⟩:=hb
  rw[Ac,if_pos rfl]at hl;cases hl
  rw[Ac]at hl
  split at hl
  rename_i e;subst e;cases hl;exact⟨Nat.succ_pos _,trivial⟩
  obtain⟨j,b,rfl,hj,rfl⟩:=hol k r hl
  exact⟨Nat.succ_lt_succ (List.getElem?_eq_some_iff.1 hj).1,trivial⟩
 refine(callsIn_wide (n:=0)).1 (callsIn_of_wp_marks hf hb trivial ?_ rfl)
 have hle':ss.length+1≤N:=Nat.le_of_ble_eq_true hle
 have hargs:(#[.func (.yield l) #[] #[]]++caps:Array Value)=((SV.v (.func (.yield l) #[] #[])::ss).map (SV.den E)).toArray:=by
  rw[hcaps]
  apply Array.ext'
  simp[SV.den]
 rw[hargs]
 have hlt:∀s∈(SV.v (.func (.yield l) #[] #[])::ss),s.lt E (bs.length+1):=fun s hs=>by
  rcases List.mem_cons.1 hs with rfl|hs
  trivial
  exact hss s hs
 have hagr:Agr N E ⟨knOf 0 (SV.v (.func (.yield l) #[] #[])::ss),[],(0,.gen (Y 0).hp)::ownOf 1 bs,bs.length+1⟩ (((SV.v (.func (.yield l) #[] #[])::ss).map (SV.den E)).toArray++Array.replicate (fn.ntmps-(((SV.v (.func (.yield l) #[] #[])::ss).map (SV.den E)).toArray).size) undef):=by
  refine⟨?_,?_,fun d g s h=>(by cases h),?_,fun d g s h=>(by cases h)⟩
  rw[hN];simp;omega
  intro d s _ h2
  have h3:=(knOf_look h2).2
  rw[Nat.sub_zero]at h3
  have hd:d<(SV.v (.func (.yield l) #[] #[])::ss).length:=(List.getElem?_eq_some_iff.1 h3).1
  rw[Array.getElem?_append_left (by simpa using hd)]
  simp only[List.getElem?_toArray,List.getElem?_map,h3,Option.map_some]
  intro d s h2
  exact hlt s (List.mem_of_getElem? (knOf_look h2).2)
 have hX:=h l Y Z v huv hR
 unfold X at hX
 refine Go.wpIn_mono (hX E {tmps:=((SV.v (.func (.yield l) #[] #[])::ss).map (SV.den E)).toArray++Array.replicate (fn.ntmps-(((SV.v (.func (.yield l) #[] #[])::ss).map (SV.den E)).toArray).size) undef,defers:=[]} w ⟨hagr,_,hsat⟩) ?_
 rintro e a' w' ⟨E',st',u',h1,h2,h3,hok',h5⟩
 obtain⟨f',hs⟩:=hok'.sat
 have fin:∀lr,resV T st' fn.results.toList=some lr→(look st'.ow 0=some (.gen (Y xs.length).hp)∨look st'.ow 0=some (.gen Z.hp)) →
  LeavesInM (FR none) 0 P fn a'.tmps (fun e w'=>∃v F',e=.returned v∧Step w F w' F'∧((Y xs.length).h F' w'∨Z.h F' w')) a'.defers .returning w':=by
  intro lr hl hA
  obtain⟨ds,hds,_⟩:=hs.marks
  rw[hds]at hs ⊢
  refine leaves (C:=⟨P,none,N⟩) hT hok'.agr hl (fun w'' hw=>?_) ds w' hs
  refine⟨_,f' 0,rfl,⟨hw.imm.os.trans h3.os,hw.imm.tape.trans h3.tape,hw.imm.output.trans h3.output,by have:=hw.imm.lo;rw[h3.lo]at this;exact this,fun b hb hF=>?_,fun b hb=>?_⟩,?_⟩
  have h1:v.h b=some (w.heap[b]'hb):=by rw[hv b hF];exact Array.getElem?_eq_getElem hb
  rw[hw.imm.h b _ (h3.h b _ h1),Array.getElem?_eq_getElem hb]
  by_cases hF:F b
  exact .inl hF
  rcases Nat.lt_or_ge b w.heap.size with hlt|hge
  have h1:v.h b=some (w.heap[b]'hlt):=by rw[hv b hF];exact Array.getElem?_eq_getElem hlt
  have h2:=h3.h b _ h1
  rw[hw.off 0 b hb]at h2;cases h2
  exact .inr hge
  rcases hA with hA|hA
  exact .inl (hw.holds 0 _ hA).1
  exact .inr (hw.holds 0 _ hA).1
 cases e with
 |normal=>
  simp only[FinQ]at h5
  split at h5
  rename_i l hl;exact fin l hl h5
  exact h5.elim
 |ret=>
  simp only[FinQ]at h5
  split at h5
  rename_i l hl;exact fin l hl h5
  exact h5.elim
 |exit id=>exact h5.elim
 |goto l=>exact h5.elim
 |panic c=>exact h5.elim
 |outgrown=>exact h5.elim
def recL2 (fn:Nat) (tm:Array Value) (p q:Nat) (asg body:Code) (D:Nat) (st:LoopState) (pe:Option Code):Loop:=
 {state:=st,pending:=pe,fn,tmps:=tm,params:=#[p,q],assign:=asg,body,defers:=D}
theorem rounds_of2 {σ τ:Type} {P:Program} {N l keep:Nat} {ue:Im} {E0:Env} {tm:Array Value} {kn:Kn} {ow0:Own} {n0:Nat} (hagr:Agr N E0 ⟨kn,[],ow0,n0⟩ tm) (hkn:kn.all (fun x=>x.2.inN keep)=true)
 (ms:List Nat) (fn p q:Nat) (asg body:Code) (D:Nat) (hdo:σ→Own) (hdn:σ→Nat) (G:Nat→σ→Im→Prop) (hxo:τ→Own) (hxn:τ→Nat) (GX:τ→Exit→Im→Prop)
 (hfree:∀s,look (hdo s) keep=none) (hfreex:∀t,look (hxo t) keep=none) (hnx:∀s,keep<hdn s) (hp:p<N) (hq:q<N) {xs:List (Value×Value)}
 (hround:∀k x s u' (Fr Fr':Hp),xs[k]?=some x→ue.le u'→G k s u' →
  X ⟨P,some l,N⟩ asg (onlyN fun st1 u1=>st1.gk=[]∧look st1.ow keep=some (.gen Fr)∧X ⟨P,some l,N⟩ body (RQ keep hdo hdn (G (k+1)) hxo hxn GX Fr') ⟨st1.kn,[],(keep,.gen Fr')::st1.ow,st1.nx⟩ u1)
   ⟨(q,.v x.2)::(p,.v x.1)::kn,[],(keep,.gen Fr)::hdo s,hdn s⟩ u') :
 Rounds2 P l (fun k=>inW keep E0 ue l ms (fun _:σ=>recL2 fn tm p q asg body D .ready none) hdo hdn (G k))
  (inW keep E0 ue l ms (fun t:τ×Code=>recL2 fn tm p q asg body D .done (some t.2)) (fun t=>hxo t.1) (fun t=>hxn t.1) (fun t u=>∃e,jmp e=some t.2∧GX t.1 e u)) xs:=by
 rintro k x w F hx himm ⟨s,E,f,uc,hin⟩ hoff
 refine⟨fn,(tm.setIfInBounds p x.1).setIfInBounds q x.2,asg,body,?_,roundIn_of_wpIn trivial ?_⟩
 have:=run_yield (P:=P) (args:=#[x.1,x.2]) hin.loop rfl
 rw[this]
 simp[recL2]
 let S:Nat→Prop:=fun b=>b<w.heap.size∧(∀k,¬f k b)∧uc.h b=none
 have hlS:S l:=⟨(Array.getElem?_eq_some_iff.1 hin.loop).1,hin.lf,hin.lu⟩
 let Fr:Hp:=frameHp S (fun b=>w.heap[b]?) w.heap.size
 have hfk:∀b,¬f keep b:=hin.sat.non keep (hfree s)
 have hsat:Sat E ((keep,.gen Fr)::hdo s) (hdn s) uc [] w (upd f keep S):=by
  refine⟨fun j r hl=>?_,fun j hl b hb=>?_,fun j j' b hne h1 h2=>?_,fun j b hb=>?_,fun j r hl=>?_,hin.sat.imm,[],rfl,List.nodup_nil,fun d hd=>by cases hd⟩
  rw[Ac]at hl
  split at hl
  rename_i e;subst e;cases hl
  simp only[Rs.holds,Ak]
  exact⟨fun b=>Iff.rfl,Nat.le_refl _,fun b hb=>⟨rfl,hb.1⟩⟩
  rename_i e
  rw[An _ _ (Ne.symm e)]
  exact hin.sat.holds j r hl
  rw[Ac]at hl
  split at hl
  cases hl
  rename_i e
  rw[An _ _ (Ne.symm e)]at hb
  exact hin.sat.non j hl b hb
  by_cases e:j=keep
  subst e
  rw[Ak]at h1
  rw[An _ _ (Ne.symm hne)]at h2
  exact h1.2.1 j' h2
  rw[An _ _ e]at h1
  by_cases e':j'=keep
  subst e'
  rw[Ak]at h2
  exact h2.2.1 j h1
  rw[An _ _ e']at h2
  exact hin.sat.apart j j' b hne h1 h2
  by_cases e:j=keep
  subst e;rw[Ak]at hb;exact hb.2.2
  rw[An _ _ e]at hb;exact hin.sat.off j b hb
  rw[Ac]at hl
  split at hl
  rename_i e;subst e;cases hl;exact⟨hnx s,trivial⟩
  exact hin.sat.lt j r hl
 have hA0:Agr N E ⟨kn,[],(keep,.gen Fr)::hdo s,hdn s⟩ tm:=hagr.keepE hkn hin.env (Nat.le_of_lt (hnx s))
 have hA:Agr N E ⟨(q,.v x.2)::(p,.v x.1)::kn,[],(keep,.gen Fr)::hdo s,hdn s⟩ ((tm.setIfInBounds p x.1).setIfInBounds q x.2):=by
  have hsz:=hA0.size
  refine⟨by simpa using hsz,fun d sv _ hl=>?_,fun d g s h=>(by cases h),fun d sv hl=>?_,fun d g s h=>(by cases h)⟩
  rw[Ac]at hl
  split at hl
  rename_i e;subst e;cases hl
  simp only[SV.den]
  rw[Array.getElem?_setIfInBounds,if_pos rfl,if_pos (by simp;omega)]
  rename_i e
  rw[Array.getElem?_setIfInBounds_ne e]
  rw[Ac]at hl
  split at hl
  rename_i e;subst e;cases hl
  simp only[SV.den]
  rw[Array.getElem?_setIfInBounds,if_pos rfl,if_pos (by omega)]
  rename_i e
  rw[Array.getElem?_setIfInBounds_ne e]
  exact hA0.kn d sv rfl hl
  rw[Ac]at hl
  split at hl
  cases hl;trivial
  rw[Ac]at hl
  split at hl
  cases hl;trivial
  exact hA0.klt d sv hl
 let ldone:Loop:=recL2 fn tm p q asg body D .busy none
 have hX1:∀Fr':Hp,(asg.wpIn (FR (some l)) 0 P (Cd ⟨P,some l,N⟩ E (hdn s) uc (onlyN fun st1 u1=>st1.gk=[]∧look st1.ow keep=some (.gen Fr)∧X ⟨P,some l,N⟩ body (RQ keep hdo hdn (G (k+1)) hxo hxn GX Fr') ⟨st1.kn,[],(keep,.gen Fr')::st1.ow,st1.nx⟩ u1))
  {tmps:=(tm.setIfInBounds p x.1).setIfInBounds q x.2,defers:=[]} w):=fun Fr'=>by
  exact(hround k x s uc Fr Fr' hx hin.le hin.g).run (C:=⟨P,some l,N⟩) (a:={tmps:=(tm.setIfInBounds p x.1).setIfInBounds q x.2,defers:=[]}) ⟨hA,_,hsat⟩
 let o2:Nat→Option Obj:=fun b=>if b=l then some (.loop ldone)else w.heap[b]?
 let Fr2:Hp:=frameHp S o2 w.heap.size
 refine Go.wpIn_mono (hX1 Fr2) ?_
 rintro e a1 w1 ⟨E1,st1,u1,hE1,hn1,hu1,hok1,h5⟩
 cases e with
 |exit id=>exact h5.elim
 |goto t=>exact h5.elim
 |ret=>exact h5.elim
 |panic c=>exact h5.elim
 |outgrown=>exact h5.elim
 |normal=>
  obtain⟨hgk,hlk,hX2⟩:=h5
  obtain⟨f1,hs1⟩:=hok1.sat
  obtain⟨hS1,hsz1,hfr1⟩:=hs1.holds keep _ hlk
  have hl1:w1.heap[l]?=some (.loop (recL2 fn tm p q asg body D .ready none)):=(hfr1 l hlS).1.trans hin.loop
  have hl1lt:=(hfr1 l hlS).2
  refine⟨w1.putObj l (.loop ldone),?_,?_⟩
  have:=run_beginRound (P:=P) hl1 rfl
  rw[this];rfl
  have hoth:∀b,b≠l→(w1.putObj l (.loop ldone)).heap[b]?=w1.heap[b]?:=fun b hb=>World.putObj_heap_other hb
  have hsz2:(w1.putObj l (.loop ldone)).heap.size=w1.heap.size:=by simp[World.putObj]
  have hu1l:u1.h l=none:=hs1.off keep l ((hS1 l).2 hlS)
  have himm2:Imm u1 (w1.putObj l (.loop ldone)):=⟨fun b o hb=>by rw[hoth b (fun e=>by subst e;rw[hu1l]at hb;cases hb)];exact hs1.imm.h b o hb,hs1.imm.os,hs1.imm.tape,hs1.imm.output,by rw[hsz2];exact hs1.imm.lo⟩
  have hs2:Sat E1 ((keep,.gen Fr2)::st1.ow) st1.nx u1 a1.defers (w1.putObj l (.loop ldone)) f1:=by
   refine hs1.step (fun j=>j=keep) (fun _ _=>rfl) (Nat.le_refl _) (Im.le.refl u1) himm2 (Nat.le_of_eq hsz2.symm) (fun b _ hno=>hoth b (fun e=>hno keep rfl ((hS1 b).2 (e▸hlS)))) ?_ ?_ ?_ (fun b o ho=>.inl ho)
   intro j hj
   exact⟨by rw[Ac,if_neg (Ne.symm hj)],fun b=>Iff.rfl⟩
   rintro j rfl
   refine⟨fun r hr=>?_,fun hr=>?_,fun b hb=>⟨.inl ⟨j,rfl,hb⟩,hs1.off j b hb⟩⟩
   rw[Ac,if_pos rfl]at hr
   cases hr
   refine⟨⟨hS1,by rw[hsz2];exact hsz1,fun b hb=>?_⟩,(hs1.lt _ _ hlk).1,trivial⟩
   by_cases e:b=l
   subst e
   refine⟨?_,by rw[hsz2];exact hl1lt⟩
   show _=(if b=b then _ else _)
   rw[if_pos rfl];exact World.putObj_heap_same hl1lt
   refine⟨?_,by rw[hsz2];exact(hfr1 b hb).2⟩
   show _=(if b=l then _ else _)
   rw[if_neg e,hoth b e];exact(hfr1 b hb).1
   rw[Ac,if_pos rfl]at hr;cases hr
   intro j j' b hj hj' hne;subst hj hj';exact absurd rfl hne
  have hag2:Agr N E1 ⟨st1.kn,[],(keep,.gen Fr2)::st1.ow,st1.nx⟩ a1.tmps:=
   ⟨hok1.agr.size,fun d s _ hl=>hok1.agr.kn d s (by rw[hgk];rfl) hl,fun d g s h=>(by cases h),hok1.agr.klt,fun d g s h=>(by cases h)⟩
  refine Go.wpIn_mono (hX2.run (C:=⟨P,some l,N⟩) ⟨hag2,_,hs2⟩) ?_
  rintro e a3 w3 ⟨E3,st3,u3,hE3,hn3,hu3,hok3,h6⟩
  obtain⟨f3,hs3⟩:=hok3.sat
  have hs3':Sat E3 st3.ow st3.nx u3 [] w3 f3:=⟨hs3.holds,hs3.non,hs3.apart,hs3.off,hs3.lt,hs3.imm,[],rfl,List.nodup_nil,fun d hd=>by cases hd⟩
  have hko:keep<hdn s:=hnx s
  have hn1':hdn s≤st1.nx:=hn1
  have ho2:∀b,b≠l→S b→o2 b=w.heap[b]?:=fun b hb _=>by
   show(if b=l then _ else _)=_
   rw[if_neg hb]
  have fin:∀(ow3:Own) (nx3:Nat) (G3:Im→Prop) (ρ:Ren) (rec':Loop),Sub (keep+1) ρ ⟨[],[],st3.ow,st3.nx⟩ ⟨[],[],(keep,.gen Fr2)::ow3,nx3⟩→look ow3 keep=none→G3 u3 →
   w3.heap[l]?=some (.loop ldone)∧∃F',Step w F (w3.putObj l (.loop rec')) F'∧∃E4 f5,InL keep E0 ue l rec' ms ow3 nx3 G3 F' (w3.putObj l (.loop rec')) E4 f5 u3:=by
   intro ow3 nx3 G3 ρ rec' hsub hfr hg
   obtain⟨E4,f4,hE4,hs4⟩:=hsub.sat hs3'
   obtain⟨_,_,hfr4⟩:=hs4.holds keep _ (by rw[Ac,if_pos rfl])
   have hl3:w3.heap[l]?=some (.loop ldone):=by
    rw[(hfr4 l hlS).1]
    show(if l=l then _ else _)=_
    rw[if_pos rfl]
   obtain⟨F',hst,f5,hI⟩:=round_end (rec':=rec') hin himm (hu1.trans hu3) (fun j hj=>by
    rw[hE4 j (by omega),hE3 j (by show j<st1.nx;omega),hE1 j (by omega),hin.env j hj]) ho2 hs4 hfr hg
   exact⟨hl3,F',hst,E4,f5,hI⟩
  have stop:∀(e:Exit) (cj:Code),jmp e=some cj→(∃t ρ,Sub (keep+1) ρ ⟨[],[],st3.ow,st3.nx⟩ ⟨[],[],(keep,.gen Fr2)::hxo t,hxn t⟩∧GX t e u3) →
   ∃v w',(Instr.endRound l (some cj)).run P w3=.ok v w'∧∃F',Step w F w' F'∧((Ending.returned v=.returned (.bool true) ∧
    (inW keep E0 ue l ms (fun _:σ=>recL2 fn tm p q asg body D .ready none) hdo hdn (G (k+1))).h F' w')∨(Ending.returned v=.returned (.bool false) ∧
    (inW keep E0 ue l ms (fun t:τ×Code=>recL2 fn tm p q asg body D .done (some t.2)) (fun t=>hxo t.1) (fun t=>hxn t.1) (fun t u=>∃e,jmp e=some t.2∧GX t.1 e u)).h F' w')):=by
   rintro e cj hj ⟨t,ρ,hsub,hg⟩
   obtain⟨hl3,F',hst,E4,f5,hI⟩:=fin (hxo t) (hxn t) (fun u=>∃e,jmp e=some cj∧GX t e u) ρ (recL2 fn tm p q asg body D .done (some cj)) hsub (hfreex t) ⟨e,hj,hg⟩
   exact⟨_,_,run_endRound (P:=P) (some cj) hl3,F',hst,.inr ⟨rfl,(t,cj),E4,f5,u3,hI⟩⟩
  cases e with
  |normal=>
   obtain⟨s',ρ,hsub,hg⟩:=h6
   obtain⟨hl3,F',hst,E4,f5,hI⟩:=fin (hdo s') (hdn s') (G (k+1) s') ρ (recL2 fn tm p q asg body D .ready none) hsub (hfree s') hg
   exact⟨_,_,run_endRound (P:=P) none hl3,F',hst,.inl ⟨rfl,s',E4,f5,u3,hI⟩⟩
  |ret=>exact stop .ret _ rfl h6
  |exit id=>exact stop (.exit id) _ rfl h6
  |goto t=>exact stop (.goto t) _ rfl h6
  |panic c=>exact h6.elim
  |outgrown=>exact h6.elim
theorem x_range2 {σ τ:Type} {P:Program} {N:Nat} {g:Operand} {p q:Nat} {asg body:Code} {Q:Bb} {kn:Kn} {ow:Own} {nx:Nat} {u:Im} {gf:Nat} {caps:Array Value} {xs:List (Value×Value)}
 (hg:opd ⟨kn,[],ow,nx⟩ [] g=some (.v (.func (.func gf) #[] caps))) (hfn:Fn1 P gf) (hit:Iter2 P gf caps xs u)
 (kn':Kn) (hdo:σ→Own) (hdn:σ→Nat) (G:Nat→σ→Im→Prop) (hxo:τ→Own) (hxn:τ→Nat) (GX:τ→Exit→Im→Prop) (s0:σ) (ρ0:Ren)
 (h0:Sub nx ρ0 ⟨kn,[],ow,nx⟩ ⟨kn',[],hdo s0,hdn s0⟩) (g0:G 0 s0 u) (hkn:kn'.all (fun x=>x.2.inN nx)=true)
 (hfree:∀s,look (hdo s) nx=none) (hfreex:∀t,look (hxo t) nx=none) (hnx:∀s,nx<hdn s) (hnxx:∀t,nx≤hxn t) (hp:Nat.blt p N=true) (hpq:Nat.blt q N=true)
 (hround:∀l k x s u' (Fr Fr':Hp),xs[k]?=some x→u.le u'→G k s u' →
  X ⟨P,some l,N⟩ asg (onlyN fun st1 u1=>st1.gk=[]∧look st1.ow nx=some (.gen Fr)∧X ⟨P,some l,N⟩ body (RQ nx hdo hdn (G (k+1)) hxo hxn GX Fr') ⟨st1.kn,[],(nx,.gen Fr')::st1.ow,st1.nx⟩ u1)
   ⟨(q,.v x.2)::(p,.v x.1)::kn',[],(nx,.gen Fr)::hdo s,hdn s⟩ u')
 (hdone:∀s u',u.le u'→G xs.length s u'→Q .normal ⟨kn',[],hdo s,hdn s⟩ u')
 (hstop:∀t e u',u.le u'→GX t e u'→Q e ⟨kn',[],hxo t,hxn t⟩ u'):X ⟨P,none,N⟩ (.rangeFunc g #[p,q] asg body) Q ⟨kn,[],ow,nx⟩ u:=by
 unfold X
 intro E a w hok
 obtain⟨E1,hE1,hok1⟩:=h0.ok hok
 obtain⟨f0,hs0⟩:=hok1.sat
 have hagr:=hok1.agr
 have hgs:gs a.tmps []:=fun x hx=>by cases hx
 obtain⟨eg,_⟩:=Al hok.agr hgs hg
 simp only[SV.den]at eg
 obtain⟨ds,hds,hnd,hm⟩:=hs0.marks
 refine wpIn_rangeFunc ?_
 intro fn _
 obtain⟨D,hD⟩:∃D,D=w.heap.size:=⟨_,rfl⟩
 obtain⟨l,hl⟩:∃l,l=w.heap.size+1:=⟨_,rfl⟩
 obtain⟨W1,hW1⟩:∃W1,W1=(w.alloc (.deferred (some []))).alloc (.loop (recL2 fn a.tmps p q asg body D .ready none)):=⟨_,rfl⟩
 have hsz:W1.heap.size=w.heap.size+2:=by rw[hW1,World.size_alloc,World.size_alloc]
 have hold:∀b,b<w.heap.size→W1.heap[b]?=w.heap[b]?:=fun b hb=>by
  rw[hW1,Below.heap_alloc _ _ _ (by rw[World.size_alloc];omega),Below.heap_alloc _ _ _ hb]
 have hl1:W1.heap[l]?=some (.loop (recL2 fn a.tmps p q asg body D .ready none)):=by
  have:=heap_alloc_new (w.alloc (.deferred (some []))) (.loop (recL2 fn a.tmps p q asg body D .ready none))
  rw[World.size_alloc]at this
  rw[hW1,hl];exact this
 have hD1:W1.heap[D]?=some (.deferred (some [])):=by
  rw[hW1,hD,Below.heap_alloc _ _ _ (by rw[World.size_alloc];omega)]
  exact heap_alloc_new w _
 have hult:∀b o,u.h b=some o→b<w.heap.size:=fun b o ho=>(Array.getElem?_eq_some_iff.1 (hs0.imm.h b o ho)).1
 have hflt:∀k b,f0 k b→b<w.heap.size:=fun k b hb=>hs0.fin hb
 have himm1:Imm u W1:=⟨fun b o ho=>(hold b (hult b o ho)).trans (hs0.imm.h b o ho),by rw[hW1];exact hs0.imm.os,by rw[hW1];exact hs0.imm.tape,by rw[hW1];exact hs0.imm.output,by rw[hsz];exact Nat.le_trans hs0.imm.lo (by omega)⟩
 have hdlt:∀d∈ds,d<w.heap.size:=fun d hd=>(Array.getElem?_eq_some_iff.1 (hm d hd).1).1
 have hnone:∀b,w.heap.size≤b→u.h b=none:=fun b hb=>by
  cases ho:u.h b with
  |none=>rfl
  |some o=>have:=hult b o ho;omega
 let F0:Nat→Prop:=fun b=>(∃j,f0 j b)∨b=l∨b∈D::ds
 have hin0:InL nx E1 u l (recL2 fn a.tmps p q asg body D .ready none) (D::ds) (hdo s0) (hdn s0) (G 0 s0) F0 W1 E1 f0 u:=by
  refine⟨g0,Im.le.refl u,fun _ _=>rfl,hs0.local (fun k b hb=>hold b (hflt k b hb)) himm1 (by omega),hl1,fun d hd=>?_,hnone l (by omega),fun k hk=>by have:=hflt k l hk;omega,.inr (.inl rfl),fun b o ho=>.inl ho,fun k b hb=>.inl ⟨k,hb⟩,?_⟩
  rcases List.mem_cons.1 hd with rfl|hd'
  exact⟨hD1,hnone _ (by omega),fun k hk=>by have:=hflt k _ hk;omega,.inr (.inr hd)⟩
  obtain⟨h1,h2,h3⟩:=hm d hd'
  exact⟨(hold d (hdlt d hd')).trans h1,h2,h3,.inr (.inr hd)⟩
  rintro b (⟨j,hb⟩|rfl|hb)
  have:=hflt j b hb;omega
  omega
  rcases List.mem_cons.1 hb with rfl|hb
  omega
  have:=hdlt b hb;omega
 have hoff0:∀b,F0 b→u.h b=none:=by
  rintro b (⟨j,hb⟩|rfl|hb)
  exact hs0.off j b hb
  exact hnone _ (by omega)
  rcases List.mem_cons.1 hb with rfl|hb
  exact hnone _ (by omega)
  exact(hm b hb).2.1
 have hR:=rounds_of2 (P:=P) (N:=N) (l:=l) (keep:=nx) (ue:=u) (E0:=E1) (tm:=a.tmps) (kn:=kn') hagr hkn (D::ds) fn p q asg body D hdo hdn G hxo hxn GX hfree hfreex hnx (Cp hp) (Cp hpq) (xs:=xs) (fun k x s u' Fr Fr'=>hround l k x s u' Fr Fr')
 have hnd':(D::ds).Nodup:=List.nodup_cons.2 ⟨fun h=>by have:=hdlt D h;omega,hnd⟩
 refine⟨l,[{target:=.collected D,args:=#[]}],W1,{target:=.fn (.func gf) caps,args:=#[.func (.yield l) #[] #[]]},W1,gf,#[.func (.yield l) #[] #[]]++caps,W1,?_,?_,fun _ _=>trivial,?_,fun h=>(by cases h),?_⟩
 have:=run_enterLoop_outer (P:=P) (w:=w) fn a.tmps #[p,q] asg body
 rw[hW1,hl,hD];exact this
 simp only[resolve,eg]
 simp[go_sem]
 simp[invoke,go_sem,hfn.run]
 refine(calls_in (hit l _ _ W1 F0 hR himm1 ⟨s0,E1,f0,u,hin0⟩ hoff0)).mono ?_
 have fin:∀ {rec:Loop} {ow':Own} {nx':Nat} {G':Im→Prop} {F':Nat→Prop} {w3:World} {E':Env} {f':Nat→Nat→Prop} {uc:Im} (o:Obj),InL nx E1 u l rec (D::ds) ow' nx' G' F' w3 E' f' uc→nx≤nx' →
  Ok ⟨P,none,N⟩ E' ⟨kn',[],ow',nx'⟩ uc {a with defers:=[{target:=.collected D,args:=#[]}]++a.defers} (w3.putObj l o):=by
  intro rec ow' nx' G' F' w3 E' f' uc o hI hn
  have hoth:∀b,b≠l→(w3.putObj l o).heap[b]?=w3.heap[b]?:=fun b hb=>World.putObj_heap_other hb
  have hsz3:(w3.putObj l o).heap.size=w3.heap.size:=by simp[World.putObj]
  have himm:Imm uc (w3.putObj l o):=⟨fun b x hb=>by rw[hoth b (fun e=>by subst e;rw[hI.lu]at hb;cases hb)];exact hI.sat.imm.h b x hb,hI.sat.imm.os,hI.sat.imm.tape,hI.sat.imm.output,by rw[hsz3];exact hI.sat.imm.lo⟩
  have hs4:=hI.sat.local (w':=w3.putObj l o) (fun k b hb=>hoth b (fun e=>by subst e;exact hI.lf k hb)) himm (Nat.le_of_eq hsz3.symm)
  refine⟨hagr.keepE hkn hI.env hn,f',hs4.holds,hs4.non,hs4.apart,hs4.off,hs4.lt,hs4.imm,D::ds,?_,hnd',fun d hd=>?_⟩
  rw[hds];rfl
  obtain⟨h1,h2,h3,_⟩:=hI.ml d hd
  refine⟨?_,h2,h3⟩
  rw[hoth d (fun e=>by rw[e,hI.loop]at h1;cases h1)]
  exact h1
 rintro e w3 ⟨v,F',rfl,hst,hY|hZ⟩
 obtain⟨s,E',f',uc,hI⟩:=hY
 refine⟨none,_,run_endLoop (P:=P) hI.loop (by simp[recL2]),?_⟩
 exact⟨E',_,uc,fun k hk=>(hI.env k hk).trans (hE1 k hk),Nat.le_of_lt (hnx s),hI.le,fin _ hI (Nat.le_of_lt (hnx s)),hdone s uc hI.le hI.g⟩
 ·obtain⟨⟨t,cj⟩,E',f',uc,hI⟩:=hZ
  refine⟨some cj,_,run_endLoop (P:=P) hI.loop (by simp[recL2]),?_⟩
  obtain⟨e,hj,hgx⟩:=hI.g
  have hq:Cd ⟨P,none,N⟩ E nx u Q e {a with defers:=[{target:=.collected D,args:=#[]}]++a.defers} (w3.putObj l (.loop {recL2 fn a.tmps p q asg body D .done (some cj)with state:=.exhausted})):=
   ⟨E',_,uc,fun k hk=>(hI.env k hk).trans (hE1 k hk),hnxx t,hI.le,fin _ hI (hnxx t),hstop t e uc hI.le hgx⟩
  show cj.wpIn (FR none) 0 P (Cd ⟨P,none,N⟩ E nx u Q) _ _
  cases e with
  |ret=>cases hj;exact wpIn_ret hq
  |exit id=>cases hj;exact wpIn_exit hq
  |goto t=>cases hj;exact wpIn_goto hq
  |normal=>cases hj
  |panic c=>cases hj
  |outgrown=>cases hj
def partV (sz:Nat) (A:Option Addr) (c l h:Nat):Value:=.slice (if c=l then A else A.map (·.add (l*sz))) (h-l) (c-l)
theorem partV_slAt {α:Type} {Y:Lay α} {L:List α} {u:Im} {A:Option Addr} {n c l h:Nat} (hs:Aw u (.slice A n c) (Y.d L)) (hl:l≤h) (hh:h≤L.length):Aw u (partV Y.fs.length A c l h) (Y.d ((L.take h).drop l)):=by
 have:=(hs.take hh).drop (l:=l) (by rw[List.length_take];omega)
 exact this
theorem xl_fromE {T:TT} {C:Cx} (hT:TOk C.P T) {all:List Oper} {o:Oper} {r:List Oper} {Q:Bb} {kn:Kn} {gk:List (Nat×(Gd×SV))} {ow:Own} {nx:Nat} {u:Im}
 {t e d n c:Nat} {A:Option Addr} {sv lv:Operand} {ti te:TI} {kl:IntKind} {l:Int} (ho:o.op=.slice t sv (some lv) none none) (hgd:o.guard=none) (hd:o.dst=some d)
 (hti:look T t=some ti) (hsh:ti.shp=.slice e) (hte:look T e=some te)
 (hs:opd ⟨kn,gk,ow,nx⟩ [] sv=some (.v (.slice A n c))) (hll:opd ⟨kn,gk,ow,nx⟩ [] lv=some (.v (.int kl l))) (hf:Bg C.N ⟨kn,gk,ow,nx⟩ d []=true)
 (h0:0≤l) (h1:l≤n) (K:XL C all r Q ⟨(d,.v (partV te.sz A c l.toNat n))::kn,gk,ow,nx⟩ u):XL C all (o::r) Q ⟨kn,gk,ow,nx⟩ u:=by
 refine xl_val _ hgd hd (fun c hc=>by rw[ho]at hc;cases hc) hf (fun E a w hok=>?_) K
 have hgs:gs a.tmps []:=fun x hx=>by cases hx
 have hu:=(hT _ _ hti).isSlice hsh
 have hel:C.P.elem t=e:=by simp[Program.elem,hu]
 have htek:=hT _ _ hte
 obtain⟨es,_⟩:=Al hok.agr hgs hs
 obtain⟨el,_⟩:=Al hok.agr hgs hll
 simp only[SV.den]at es el
 have:=run_slice_l (P:=C.P) w t A n c (by rw[hel];exact hu) kl l h0 h1
 simp only[execOp,ho,Option.map_none,Option.map_some,es,el]
 rw[Sem.run_bind,run_sliceAt_slice w t _ _ _ _ (by rw[hel];exact hu),this,hel,Ca w htek]
 simp[Result.andThen,sliced,partV]
theorem xl_subE {T:TT} {C:Cx} (hT:TOk C.P T) {all:List Oper} {o:Oper} {r:List Oper} {Q:Bb} {kn:Kn} {gk:List (Nat×(Gd×SV))} {ow:Own} {nx:Nat} {u:Im}
 {t e d n c:Nat} {A:Option Addr} {sv lv hv:Operand} {ti te:TI} {kl kh:IntKind} {l h:Int} (ho:o.op=.slice t sv (some lv) (some hv) none) (hgd:o.guard=none) (hd:o.dst=some d)
 (hti:look T t=some ti) (hsh:ti.shp=.slice e) (hte:look T e=some te)
 (hs:opd ⟨kn,gk,ow,nx⟩ [] sv=some (.v (.slice A n c))) (hll:opd ⟨kn,gk,ow,nx⟩ [] lv=some (.v (.int kl l))) (hhh:opd ⟨kn,gk,ow,nx⟩ [] hv=some (.v (.int kh h))) (hf:Bg C.N ⟨kn,gk,ow,nx⟩ d []=true)
 (h0:0≤l) (h1:l≤h) (h2:h≤c) (K:XL C all r Q ⟨(d,.v (partV te.sz A c l.toNat h.toNat))::kn,gk,ow,nx⟩ u):XL C all (o::r) Q ⟨kn,gk,ow,nx⟩ u:=by
 refine xl_val _ hgd hd (fun c hc=>by rw[ho]at hc;cases hc) hf (fun E a w hok=>?_) K
 have hgs:gs a.tmps []:=fun x hx=>by cases hx
 have hu:=(hT _ _ hti).isSlice hsh
 have hel:C.P.elem t=e:=by simp[Program.elem,hu]
 have htek:=hT _ _ hte
 obtain⟨es,_⟩:=Al hok.agr hgs hs
 obtain⟨el,_⟩:=Al hok.agr hgs hll
 obtain⟨eh,_⟩:=Al hok.agr hgs hhh
 simp only[SV.den]at es el eh
 have:=run_slice_lh (P:=C.P) w t A n c (by rw[hel];exact hu) kl kh l h h0 h1 h2
 simp only[execOp,ho,Option.map_none,Option.map_some,es,el,eh]
 rw[Sem.run_bind,run_sliceAt_slice w t _ _ _ _ (by rw[hel];exact hu),this,hel,Ca w htek]
 simp[Result.andThen,sliced,partV]
theorem x_via {C:Cx} {x:Code} {Q:Bb} {st:St} {u:Im} {σ:Type} (hd:σ→St) (G:σ→Im→Prop) (hnx:∀s,st.nx≤(hd s).nx)
 (hx:X C x (onlyN (Meet st.nx hd G)) st u) (hy:∀s u',u.le u'→G s u'→Q .normal (hd s) u'):X C x Q st u:=by
 unfold X at hx ⊢
 intro E a w hok
 refine Go.wpIn_mono (hx E a w hok) fun e a' w' hh=>?_
 obtain⟨E2,st2,u2,h1,h2,h3,h4,h5⟩:=hh
 cases e with
 |normal=>
  simp only[onlyN]at h5
  unfold Meet at h5
  obtain⟨s,ρ,h6,h7⟩:=h5
  obtain⟨E3,hE3,hok3⟩:=h6.ok h4
  exact⟨E3,hd s,u2,fun k hk=>(hE3 k hk).trans (h1 k hk),hnx s,h3,hok3,hy s u2 h3 h7⟩
 |exit id=>exact h5.elim
 |goto l=>exact h5.elim
 |ret=>exact h5.elim
 |panic ch=>exact h5.elim
 |outgrown=>exact h5.elim
theorem finStarO {σ:Type} {w0:World} {ow:Own} {nx:Nat} {u:Im} {k ks:Nat} {e:TypeId} {D:Data} {l0:List SI} {val:σ→Value} {l:σ→List SI} {G:σ→Prop} {vs:List SV} (hk:look ow k=some (.row e D)) (hks:look ow ks=some (.gen (Bx l0)))
 (H:∀A c,∃s,(∀E:Env,E k=.slice A D.n c→tupV (vs.map (SV.den E))=val s)∧l s=l0++[⟨.slice A D.n c,e,D⟩]∧G s):Done w0 (StarR val l G) vs ow nx u:=
 finP fun E w' F hs hu=>by
  obtain⟨h1,h2,h3⟩:=hs.holds ks _ hks
  obtain⟨r1,r2⟩:=hs.holds k _ hk
  obtain⟨A,c,hv⟩:=ownsRow_sl r1
  obtain⟨s,q1,q2,q3⟩:=H A c
  have hne:k≠ks:=fun hh=>by rw[hh,hks]at hk;cases hk
  have new:∀j b,F j b→w0.heap.size≤b:=fun j b hb=>by
   have h4:=hs.off j b hb
   rcases Nat.lt_or_ge b w0.heap.size with hlt|hge
   have:(im w0).h b=some w0.heap[b]:=Array.getElem?_eq_getElem hlt
   rw[hu.h _ _ this]at h4;cases h4
   exact hge
  refine⟨s,q1 E hv,?_,q3⟩
  rw[q2]
  refine⟨fun p hp=>?_,?_⟩
  rcases List.mem_append.1 hp with hp|hp
  exact ownAt_of (h1 p hp) fun b hb=>new ks b ((h3 b).2 ⟨p,hp,hb⟩)
  rw[List.mem_singleton.1 hp]
  exact ownAt_of (hv▸r1) fun b hb=>new k b ((r2 b).2 (by rw[hv];exact hb))
  rw[starDis_at,List.append_nil]
  exact⟨h2,fun q hq b hb hb'=>hs.apart k ks b hne ((r2 b).2 (by rw[hv];exact hb)) ((h3 b).2 ⟨q,hq,hb'⟩)⟩
section
variable {H:Type} {enc:TypeId×Value→H} {P:Program} {w:World}
end
def PtAt (u:Im) (ad:Addr) (cs:List Value):Prop:=∀j v,cs[j]?=some v→u.cell? (ad.add j)=some v
def oneD (cs:List Value):Data:=⟨1,cs.map fun v _=>v⟩
theorem PtAt.sub {u u':Im} {ad:Addr} {cs:List Value} (h:PtAt u ad cs) (hu:u.sub u'):PtAt u' ad cs:=fun j v hv=>hu.cell (h j v hv)
theorem PtAt.slAt {u:Im} {ad:Addr} {cs:List Value} (h:PtAt u ad cs):Aw u (.slice (some ad) 1 1) (oneD cs):=by
 refine⟨some ad,1,rfl,Nat.le_refl _,by decide,fun _=>⟨ad,rfl,fun i hi j f hf=>?_⟩⟩
 obtain rfl:i=0:=by have:i<1:=hi;omega
 simp only[oneD,List.getElem?_map,Option.map_eq_some_iff]at hf
 obtain⟨v,hv,rfl⟩:=hf
 rw[Nat.zero_mul,Nat.zero_add]
 exact h j v hv
theorem Aw.ptAt {u:Im} {ad:Addr} {n c:Nat} {D:Data} (h:Aw u (.slice (some ad) n c) D) {i:Nat} (hi:i<D.n) (hs:ad.spot=none):PtAt u (ad.add (i*D.cs.length)) (D.el (i:Int)):=by
 obtain⟨A',c',h1,h2,h3,h4⟩:=h
 cases h1
 obtain⟨ad',h5,h6⟩:=h4 (by omega)
 cases h5
 intro j v hv
 simp only[Data.el,List.getElem?_map,Option.map_eq_some_iff]at hv
 obtain⟨f,hf,rfl⟩:=hv
 have:=h6 i hi j f hf
 rw[show(ad.add (i*D.cs.length)).add j=ad.add (i*D.cs.length+j)from ?_]
 exact this
 obtain⟨b,off,sp⟩:=ad
 cases hs
 simp only[Addr.add]
 split<;>split<;>split<;>first|rfl|omega|(simp only[Addr.mk.injEq,and_true,true_and];omega)
theorem addr_same (ad:Addr):ad.add 0=ad:=by
 unfold Addr.add;split<;>simp_all
theorem Sat.sl_new {E:Env} {o:Own} {nx:Nat} {u:Im} {df:List Deferred} {w:World} {f:Nat→Nat→Prop} (h:Sat E o nx u df w f) {x:Value} {D:Data} (hx:Aw u x D) :
 Sat (upd E nx x) ((nx,.sl D)::o) (nx+1) u df w (upd f nx (fun _=>False)):=by
 have hE:∀k,k<nx→upd E nx x k=E k:=fun k hk=>An _ _ (by omega)
 refine h.step (fun k=>k=nx) hE (Nat.le_succ _) (Im.le.refl u) h.imm (Nat.le_refl _) (fun b _ _=>rfl) ?_ ?_ ?_ (fun b o ho=>.inl ho)
 intro k hk
 exact⟨by rw[Ac,if_neg (fun e=>hk e.symm)],fun b=>by rw[An _ _ hk]⟩
 rintro k rfl
 refine⟨fun r hr=>?_,fun hr=>?_,fun b hb=>?_⟩
 rw[Ac,if_pos rfl]at hr
 cases hr
 refine⟨⟨by rw[Ak];exact hx,fun y hy=>by rw[Ak]at hy;exact hy⟩,Nat.lt_succ_self _,trivial⟩
 rw[Ac,if_pos rfl]at hr;cases hr
 rw[Ak]at hb;exact hb.elim
 intro k k' b hk hk' hne;subst hk hk';exact absurd rfl hne
theorem el_one (E:Env) (nx:Nat) (ad:Addr) (sz:Nat):(SV.e nx sz 0 0).den (upd E nx (.slice (some ad) 1 1))=.pointer (some ad):=by
 simp only[SV.den,elOf,Ak]
 rw[show(0:Int).toNat*sz+0=0 by simp,addr_same]
theorem xl_ptr {C:Cx} {all l:List Oper} {Q:Bb} {kn:Kn} {gk:List (Nat×(Gd×SV))} {ow:Own} {nx:Nat} {u:Im} (d:Nat) {ad:Addr} (cs:List Value) (hd:look kn d=some (.v (.pointer (some ad)))) (hgd:look gk d=none) (hx:PtAt u ad cs)
 (h:XL C all l Q ⟨(d,.e nx cs.length 0 0)::kn,gk,(nx,.sl (oneD cs))::ow,nx+1⟩ u):XL C all l Q ⟨kn,gk,ow,nx⟩ u:=by
 unfold XL at h ⊢
 intro E a w hok
 obtain⟨f,hsat⟩:=hok.sat
 have hE:∀k,k<nx→upd E nx (.slice (some ad) 1 1) k=E k:=fun k hk=>An _ _ (by omega)
 have hg:=hok.agr.grow (E':=upd E nx (.slice (some ad) 1 1)) (ow:=(nx,.sl (oneD cs))::ow) (nx:=nx+1) hE (Nat.le_succ _)
 have hsat':=hsat.sl_new hx.slAt
 have:=h (upd E nx (.slice (some ad) 1 1)) a w ⟨⟨hg.size,fun t s h1 h2=>?_,fun t g s h1=>hg.gk t g s h1,fun t s h2=>?_,fun t g s h1=>hg.glt t g s h1⟩,_,hsat'⟩
 exact Av (fun e a w=>Cd.mono hE (Nat.le_succ _) (Im.le.refl u)) _ _ _ this
 rw[Ac]at h2
 split at h2
 rename_i e1;subst e1;cases h2
 rw[hok.agr.kn _ _ hgd hd,el_one]
 rfl
 exact hg.kn t s h1 h2
 rw[Ac]at h2
 split at h2
 cases h2;exact⟨Nat.lt_succ_self _,ad,1,1,Ak _ _ _,by decide,by decide⟩
 exact hg.klt t s h2
theorem xl_ptrG {C:Cx} {all l:List Oper} {Q:Bb} {kn:Kn} {gk:List (Nat×(Gd×SV))} {ow:Own} {nx:Nat} {u:Im} (d:Nat) {g:Gd} {ad:Addr} (cs:List Value) (hd:look gk d=some (g,.v (.pointer (some ad)))) (hx:PtAt u ad cs)
 (h:XL C all l Q ⟨kn,(d,(g,.e nx cs.length 0 0))::gk,(nx,.sl (oneD cs))::ow,nx+1⟩ u):XL C all l Q ⟨kn,gk,ow,nx⟩ u:=by
 unfold XL at h ⊢
 intro E a w hok
 obtain⟨f,hsat⟩:=hok.sat
 have hE:∀k,k<nx→upd E nx (.slice (some ad) 1 1) k=E k:=fun k hk=>An _ _ (by omega)
 have hg:=hok.agr.grow (E':=upd E nx (.slice (some ad) 1 1)) (ow:=(nx,.sl (oneD cs))::ow) (nx:=nx+1) hE (Nat.le_succ _)
 have hsat':=hsat.sl_new hx.slAt
 have hd':=hok.agr.gk d g _ hd
 have:=h (upd E nx (.slice (some ad) 1 1)) a w ⟨⟨hg.size,fun t s h1 h2=>?_,fun t g' s h1=>?_,fun t s h2=>hg.klt t s h2,fun t g' s h1 hgs=>?_⟩,_,hsat'⟩
 exact Av (fun e a w=>Cd.mono hE (Nat.le_succ _) (Im.le.refl u)) _ _ _ this
 rw[Ac]at h1
 split at h1
 cases h1
 exact hg.kn t s h1 h2
 rw[Ac]at h1
 split at h1
 rename_i e1;subst e1;cases h1
 refine⟨fun hgs=>?_,hd'.2⟩
 rw[hd'.1 hgs,el_one]
 rfl
 exact hg.gk t g' s h1
 rw[Ac]at h1
 split at h1
 cases h1;exact⟨Nat.lt_succ_self _,ad,1,1,Ak _ _ _,by decide,by decide⟩
 exact hg.glt t g' s h1 hgs
theorem x_ptr {C:Cx} {cc:Code} {Q:Bb} {kn:Kn} {ow:Own} {nx:Nat} {u:Im} (d:Nat) {ad:Addr} (cs:List Value) (hd:look kn d=some (.v (.pointer (some ad)))) (hx:PtAt u ad cs)
 (h:X C cc Q ⟨(d,.e nx cs.length 0 0)::kn,[],(nx,.sl (oneD cs))::ow,nx+1⟩ u):X C cc Q ⟨kn,[],ow,nx⟩ u:=by
 unfold X at h ⊢
 intro E a w hok
 obtain⟨f,hsat⟩:=hok.sat
 have hE:∀k,k<nx→upd E nx (.slice (some ad) 1 1) k=E k:=fun k hk=>An _ _ (by omega)
 have hg:=hok.agr.grow (E':=upd E nx (.slice (some ad) 1 1)) (ow:=(nx,.sl (oneD cs))::ow) (nx:=nx+1) hE (Nat.le_succ _)
 have hsat':=hsat.sl_new hx.slAt
 have:=h (upd E nx (.slice (some ad) 1 1)) a w ⟨⟨hg.size,fun t s h1 h2=>?_,fun t g s h1=>(by cases h1),fun t s h2=>?_,fun t g s h1=>(by cases h1)⟩,_,hsat'⟩
 exact Go.wpIn_mono this (fun e a w=>Cd.mono hE (Nat.le_succ _) (Im.le.refl u))
 rw[Ac]at h2
 split at h2
 rename_i e1;subst e1;cases h2
 rw[hok.agr.kn _ _ rfl hd,el_one]
 rfl
 exact hg.kn t s h1 h2
 rw[Ac]at h2
 split at h2
 cases h2;exact⟨Nat.lt_succ_self _,ad,1,1,Ak _ _ _,by decide,by decide⟩
 exact hg.klt t s h2
def frzS (k b:Nat):SV→SV
 |.p j off=>match Nat.beq j k with
  |true=>.v (.pointer (some ⟨b,off,none⟩))
  |false=>.p j off
 |s=>s
def frzP (k b:Nat) (kn:Kn):Kn:=kn.map fun x=>(x.1,frzS k b x.2)
def frzR (k b:Nat):Rs→Rs
 |.box t cs=>.box t (cs.map (frzS k b))
 |r=>r
def frzO (k b:Nat) (ow:Own):Own:=ow.map fun x=>(x.1,frzR k b x.2)
theorem frzS_den {E:Env} {k b:Nat} (h:E k=.pointer (some ⟨b,0,none⟩)) (s:SV):(frzS k b s).den E=s.den E:=by
 cases s with
 |p j off=>
  simp only[frzS]
  cases hb:Nat.beq j k with
  |true=>
   have:=Nat.eq_of_beq_eq_true hb
   subst this
   simp only[SV.den,ptrOf,h]
  |false=>rfl
 |_=>rfl
theorem frzS_lt {E:Env} {k b n:Nat} {s:SV} (h:s.lt E n):(frzS k b s).lt E n:=by
 cases s with
 |p j off=>
  simp only[frzS]
  cases hb:Nat.beq j k with
  |true=>trivial
  |false=>exact h
 |_=>exact h
theorem look_frzP {k b:Nat}:∀ {kn:Kn} {d:Nat},look (frzP k b kn) d=(look kn d).map (frzS k b)
 |[],d=>rfl
 |(d',s)::r,d=>by
  show look ((d',frzS k b s)::frzP k b r) d=_
  rw[Ac,Ac]
  split
  rfl
  exact look_frzP
theorem look_frzO {k b:Nat}:∀ {ow:Own} {d:Nat},look (frzO k b ow) d=(look ow d).map (frzR k b)
 |[],d=>rfl
 |(d',s)::r,d=>by
  show look ((d',frzR k b s)::frzO k b r) d=_
  rw[Ac,Ac]
  split
  rfl
  exact look_frzO
theorem frzR_holds {E:Env} {k b:Nat} (h:E k=.pointer (some ⟨b,0,none⟩)) {r:Rs} {j:Nat} {F:Nat→Prop} {u:Im} {w:World} (hr:r.holds E j F u w):(frzR k b r).holds E j F u w:=by
 cases r with
 |box t cs=>
  obtain⟨x,h1,h2,h3⟩:=hr
  refine⟨x,h1,h2,?_⟩
  rw[h3,List.map_map]
  congr 3
  exact List.map_congr_left fun s _=>(frzS_den h s).symm
 |_=>exact hr
theorem frzR_lt {E:Env} {k b n:Nat} {r:Rs} (h:r.lt E n):(frzR k b r).lt E n:=by
 cases r with
 |box t cs=>
  intro s hs
  rw[List.mem_map]at hs
  obtain⟨s',hs',rfl⟩:=hs
  exact frzS_lt (h s' hs')
 |_=>trivial
theorem Sat.freezeBox {E:Env} {o:Own} {nx:Nat} {u:Im} {df:List Deferred} {w:World} {f:Nat→Nat→Prop} (h:Sat E o nx u df w f) {k:Nat} {t:TypeId} {cs:List SV} (hk:look o k=some (.box t cs)) :
 ∃b u',E k=.pointer (some ⟨b,0,none⟩)∧u.h b=none∧u'.h b=some (.cells (cs.map (SV.den E)).toArray t (0,0))∧u.le u'∧Sat E ((k,.emp)::frzO k b o) nx u' df w (upd f k (fun _=>False)):=by
 obtain⟨b,h1,h2,h3⟩:=h.holds k _ hk
 have hb0:u.h b=none:=h.off k b ((h2 b).2 rfl)
 let u':Im:={u with h:=fun x=>if x=b then w.heap[x]? else u.h x}
 have hle:u.le u':=⟨fun x y hx=>by
  show(if x=b then w.heap[x]? else u.h x)=_
  rw[if_neg (fun e=>by rw[e,hb0]at hx;cases hx)];exact hx,rfl,rfl,rfl,rfl⟩
 have himm:Imm u' w:=⟨fun x y hx=>by
  have hx:(if x=b then w.heap[x]? else u.h x)=some y:=hx
  split at hx
  exact hx
  exact h.imm.h x y hx,h.imm.os,h.imm.tape,h.imm.output,h.imm.lo⟩
 have hoth:∀j,j≠k→∀x,f j x→u'.h x=none:=fun j hj x hx=>by
  show(if x=b then w.heap[x]? else u.h x)=none
  rw[if_neg (fun e=>h.apart j k x hj hx ((h2 x).2 e))];exact h.off j x hx
 refine⟨b,u',h1,hb0,by show(if b=b then w.heap[b]? else u.h b)=_;rw[if_pos rfl,h3],hle,?_⟩
 refine⟨fun j r hr=>?_,fun j hr x hx=>?_,fun j j' x hne hx=>?_,fun j x hx=>?_,fun j r hr=>?_,himm,?_⟩
 rw[Ac]at hr
 split at hr
 rename_i e1;subst e1;cases hr;exact fun x hx=>by rw[Ak]at hx;exact hx
 rename_i e1
 rw[An _ _ (Ne.symm e1)]
 rw[look_frzO]at hr
 obtain⟨r',hr',rfl⟩:=Option.map_eq_some_iff.1 hr
 exact Rs.holds_mono hle himm (frzR_holds h1 (h.holds j r' hr'))
 rw[Ac]at hr
 split at hr
 cases hr
 rename_i e1
 rw[An _ _ (Ne.symm e1)]at hx
 rw[look_frzO]at hr
 cases hl:look o j with
 |none=>exact h.non j hl x hx
 |some r=>rw[hl]at hr;cases hr
 by_cases hj:j=k
 subst hj;rw[Ak]at hx;exact hx.elim
 rw[An _ _ hj]at hx
 by_cases hj':j'=k
 subst hj';rw[Ak];exact id
 rw[An _ _ hj'];exact h.apart j j' x hne hx
 by_cases hj:j=k
 subst hj;rw[Ak]at hx;exact hx.elim
 rw[An _ _ hj]at hx;exact hoth j hj x hx
 rw[Ac]at hr
 split at hr
 rename_i e1;subst e1;cases hr;exact⟨(h.lt k _ hk).1,trivial⟩
 rw[look_frzO]at hr
 obtain⟨r',hr',rfl⟩:=Option.map_eq_some_iff.1 hr
 exact⟨(h.lt j r' hr').1,frzR_lt (h.lt j r' hr').2⟩
 obtain⟨ds,q1,q2,q3⟩:=h.marks
 refine⟨ds,q1,q2,fun d hd=>?_⟩
 obtain⟨q4,q5,q6⟩:=q3 d hd
 refine⟨q4,?_,fun j hj=>?_⟩
 show(if d=b then w.heap[d]? else u.h d)=none
 rw[if_neg (fun e=>q6 k ((h2 d).2 e))];exact q5
 by_cases hjk:j=k
 subst hjk;rw[Ak]at hj;exact hj
 rw[An _ _ hjk]at hj;exact q6 j hj
theorem Agr.frzP {N:Nat} {E:Env} {kn:Kn} {gk:List (Nat×(Gd×SV))} {ow ow':Own} {nx k b:Nat} {tm:Array Value} (h:Agr N E ⟨kn,gk,ow,nx⟩ tm) (hx:E k=.pointer (some ⟨b,0,none⟩)):Agr N E ⟨GV.frzP k b kn,gk,ow',nx⟩ tm:=by
 refine⟨h.size,fun d s a1 a2=>?_,h.gk,fun d s a2=>?_,h.glt⟩
 have a2:look (GV.frzP k b kn) d=some s:=a2
 rw[look_frzP]at a2
 obtain⟨s',h1,rfl⟩:=Option.map_eq_some_iff.1 a2
 rw[frzS_den hx];exact h.kn d s' a1 h1
 have a2:look (GV.frzP k b kn) d=some s:=a2
 rw[look_frzP]at a2
 obtain⟨s',h1,rfl⟩:=Option.map_eq_some_iff.1 a2
 exact frzS_lt (h.klt d s' h1)
theorem plain_denE {E:Env}:∀ {cs:List SV} {vs:List Value},plain cs=some vs→cs.map (SV.den E)=vs
 |[],vs,h=>by simp only[plain,Option.some.injEq]at h;rw[←h];rfl
 |.v x::r,vs,h=>by
  simp only[plain]at h
  cases hp:plain r with
  |none=>rw[hp]at h;cases h
  |some l=>
   rw[hp]at h
   cases h
   rw[List.map_cons,plain_denE hp];rfl
theorem ptAt_box {u:Im} {b t:Nat} {vs:List Value} (h:u.h b=some (.cells vs.toArray t (0,0))):PtAt u ⟨b,0,none⟩ vs:=fun j v hv=>by
 unfold Im.cell?
 rw[add_block,h]
 simp only[Addr.add]
 split<;>simp_all
theorem xl_freezeBox {C:Cx} {all l:List Oper} {Q:Bb} {kn:Kn} {gk:List (Nat×(Gd×SV))} {ow:Own} {nx:Nat} {u:Im} (k:Nat) {t:TypeId} {cs:List SV} {vs:List Value} (hk:look ow k=some (.box t cs)) (hp:plain cs=some vs)
 (K:∀b u',u.le u'→u.h b=none→u'.h b=some (.cells vs.toArray t (0,0))→XL C all l Q ⟨frzP k b kn,gk,(k,.emp)::frzO k b ow,nx⟩ u'):XL C all l Q ⟨kn,gk,ow,nx⟩ u:=by
 unfold XL at K ⊢
 intro E a w hok
 obtain⟨f,hsat⟩:=hok.sat
 obtain⟨b,u',h1,h2,h3,hu,hsat'⟩:=hsat.freezeBox hk
 rw[plain_denE hp]at h3
 have:=K b u' hu h2 h3 E a w ⟨hok.agr.frzP h1,_,hsat'⟩
 exact Av (fun e a w=>Cd.mono (fun _ _=>rfl) (Nat.le_refl _) hu) _ _ _ this
theorem x_freezeBox {C:Cx} {cc:Code} {Q:Bb} {kn:Kn} {gk:List (Nat×(Gd×SV))} {ow:Own} {nx:Nat} {u:Im} (k:Nat) {t:TypeId} {cs:List SV} {vs:List Value} (hk:look ow k=some (.box t cs)) (hp:plain cs=some vs)
 (K:∀b u',u.le u'→u.h b=none→u'.h b=some (.cells vs.toArray t (0,0))→X C cc Q ⟨frzP k b kn,gk,(k,.emp)::frzO k b ow,nx⟩ u'):X C cc Q ⟨kn,gk,ow,nx⟩ u:=by
 unfold X at K ⊢
 intro E a w hok
 obtain⟨f,hsat⟩:=hok.sat
 obtain⟨b,u',h1,h2,h3,hu,hsat'⟩:=hsat.freezeBox hk
 rw[plain_denE hp]at h3
 have:=K b u' hu h2 h3 E a w ⟨hok.agr.frzP h1,_,hsat'⟩
 exact Go.wpIn_mono this (fun e a w=>Cd.mono (fun _ _=>rfl) (Nat.le_refl _) hu)
theorem xl_gval {C:Cx} {all:List Oper} {o:Oper} {r:List Oper} {Q:Bb} {st:St} {u:Im} (v:Value) {g:Gd} {d:Nat}
 (hg:Bp all st o=some g) (hd:o.dst=some d) (hnd:∀c,o.op≠.defer c) (hfr:Bg C.N st d g=true)
 (H:allL (gprops st g)→∀E a w,Ok C E st u a w→gs a.tmps g→(execOp a.eval o).run C.P w=.ok (.value v) w)
 (K:XL C all r Q (st.put d g (.v v)) u):XL C all (o::r) Q st u:=by
 unfold XL at K ⊢
 intro E a w hok
 have how:(st.put d g (.v v)).ow=st.ow:=by cases g<;>rfl
 have hnx:(st.put d g (.v v)).nx=st.nx:=by cases g<;>rfl
 have hgd:=guard_sound (all:=all.toArray) hok.agr (by simpa using hg)
 obtain⟨fF,hsat⟩:=hok.sat
 have go:∀x w',(gs a.tmps g→x=v)→(¬gs a.tmps g→x=undef)→Below w.heap.size w w' →
  wpListIn (FR C.ro) 0 C.P all.toArray (Cd C E st.nx u Q) r (a.put o.dst x) w':=by
  intro x w' hx hnx' hbel
  have hput:Agr C.N E (st.put d g (.v v)) (a.tmps.setIfInBounds d x):=
   hok.agr.put hfr (fun _=>trivial) hx hnx' (fun hn=>by subst hn;exact hx (fun y hy=>by cases hy))
  have:=K E (a.put o.dst x) w' ⟨by rw[hd];exact hput,fF,by rw[how,hnx,hd];exact hsat.keep hbel⟩
  rwa [hnx]at this
 unfold wpListIn
 by_cases hw:Region.wanted o (yielded all.toArray a.tmps)=true
 have hgs:=hgd.1 hw
 rw[if_pos hw]
 refine⟨fun _ _=>trivial,?_⟩
 rw[semAt_eq _ _ _ hnd,H (allL_of (gprops_sound hok.agr hgs (fun _ _ _=>trivial))) E a w hok hgs,Oper.uponIn_value]
 exact go _ _ (fun _=>rfl) (fun hn=>absurd hgs hn) (Below.refl _ _)
 have hgs:=hgd.2 (by simpa using hw)
 rw[if_neg hw]
 exact⟨fun _ _=>trivial,go _ _ (fun hy=>absurd hy hgs) (fun _=>rfl) (Below.refl _ _)⟩
open Go.Maps Go.MapKept
structure MapOk (es:Array MapEntry) (n:Nat) (f:ByteArray→Option Value):Prop where
 keys:∀x∈es.toList,IsKey .string x.key
 size:es.size=n
 apart:es.toList.Pairwise (fun a b=>a.key≠b.key)
 val:∀s,∀e∈es.toList,e.key=.string s→f s=some e.val
 all:∀s v,f s=some v→∃e∈es.toList,e.key=.string s
def mapO (b n:Nat) (f:ByteArray→Option Value):Hp where
 h:=fun _ F w=>(∀x,F x↔x=b)∧∃es clock,w.heap[b]?=some (.map es clock)∧MapOk es n f
 loc:=fun _ F w w' ⟨h1,es,clock,h2,h3⟩ hF _ _=>⟨h1,es,clock,by rw[hF b ((h1 b).2 rfl)];exact h2,h3⟩
 mono:=fun _ _ _ _ h _ _=>h
 fin:=fun _ F w ⟨h1,es,clock,h2,_⟩ x hx=>by rw[(h1 x).1 hx];exact(Array.getElem?_eq_some_iff.1 h2).1
def MapAt (u:Im) (b n:Nat) (f:ByteArray→Option Value):Prop:=∃es clock,u.h b=some (.map es clock)∧MapOk es n f
theorem MapAt.sub {u u':Im} {b n:Nat} {f:ByteArray→Option Value} (h:MapAt u b n f) (hu:u.sub u'):MapAt u' b n f:=by
 obtain⟨es,clock,h1,h2⟩:=h
 exact⟨es,clock,hu.h _ _ h1,h2⟩
theorem mapOk_nil:MapOk #[] 0 (fun _=>none):=⟨by simp,rfl,by simp,by simp,fun s v h=>by cases h⟩
theorem MapOk.find {es:Array MapEntry} {n:Nat} {f:ByteArray→Option Value} (h:MapOk es n f) (s:ByteArray) :
 ∃r,Instr.findNow .string (.string s) es.toList 0=some r∧r.map (·.2)=f s∧∀j v,r=some (j,v)→∃e,es[j]?=some e∧e.key=.string s∧e.val=v:=by
 rcases findNow_spec (d:=.string) (k:=.string s) trivial es.toList 0 h.keys with⟨h1,h2⟩|⟨j,e,h1,h2,h3⟩
 refine⟨none,h1,?_,fun j v hr=>by cases hr⟩
 cases hf:f s with
 |none=>rfl
 |some v=>
  obtain⟨e,he,hk⟩:=h.all s v hf
  exact absurd hk (h2 e he)
 refine⟨some (0+j,e.val),h1,?_,fun j' v hr=>?_⟩
 rw[h.val s e (List.mem_of_getElem? h2) h3];rfl
 cases hr
 exact⟨e,by rw[Nat.zero_add];simpa using h2,h3,rfl⟩
theorem MapOk.look {P:Program} {es:Array MapEntry} {n:Nat} {f:ByteArray→Option Value} (h:MapOk es n f) {w:World} {b clock:Nat} (hb:w.heap[b]?=some (.map es clock)) {t kt et:TypeId}
 (ht:P.underlying t=some (.map kt et)) (hkt:P.underlying kt=some .string) {z:Value} (hz:(zeroValue et).run P w=.ok z w) (s:ByteArray) (ok:Bool) :
 (Instr.lookup t (.map (some b)) (.string s) ok).run P w=.ok (if ok then .tuple #[(f s).getD z,.bool (f s).isSome]else(f s).getD z) w:=by
 obtain⟨r,h1,h2,_⟩:=h.find s
 have hc:(Instr.checkKey es.isEmpty 10000 kt (.string s)).run P w=.ok () w:=Go.MapKept.run_checkKey (k:=.string s) hkt (by simp[IsKey]) es.isEmpty 9999
 rw[←h2]
 cases r with
 |none=>
  cases ok<;>simp[Instr.lookup,run_underlying ht,Go.MapKept.run_getObj_map hb,hc,Go.MapKept.run_findKey hkt h1,Result.andThen,hz]
 |some r=>
  obtain⟨j,v⟩:=r
  cases ok<;>simp[Instr.lookup,run_underlying ht,Go.MapKept.run_getObj_map hb,hc,Go.MapKept.run_findKey hkt h1,Result.andThen]
theorem MapOk.put {P:Program} {es:Array MapEntry} {n:Nat} {f:ByteArray→Option Value} (h:MapOk es n f) {w:World} {b clock:Nat} (hb:w.heap[b]?=some (.map es clock)) {t kt et:TypeId}
 (ht:P.underlying t=some (.map kt et)) (hkt:P.underlying kt=some .string) (s:ByteArray) (v:Value) :
 ∃es' clock',(Instr.mapUpdate t (.map (some b)) (.string s) v).run P w=.ok () {w with heap:=w.heap.setIfInBounds b (.map es' clock')}∧MapOk es' (if(f s).isSome then n else n+1) (fun s'=>if s'=s then some v else f s'):=by
 have hc:(Instr.checkKey false 10000 kt (.string s)).run P w=.ok () w:=Go.MapKept.run_checkKey (k:=.string s) hkt (by simp[IsKey]) false 9999
 have hks:=h.keys
 rcases findNow_spec (d:=.string) (k:=.string s) trivial es.toList 0 h.keys with⟨h1,h2⟩|⟨j,e,h1,h2,h3⟩
 have hfs:f s=none:=by
  cases hf:f s with
  |none=>rfl
  |some v=>
   obtain⟨e,he,hk⟩:=h.all s v hf
   exact absurd hk (h2 e he)
 refine⟨es.push ⟨.string s,v,clock⟩,clock+1,?_,?_⟩
 simp[Instr.mapUpdate,run_underlying ht,Go.MapKept.run_getObj_map hb,hc,Go.MapKept.run_findKey hkt h1,Go.MapKept.run_setObj_map _ hb,Result.andThen]
 rw[hfs]
 refine⟨fun x hx=>?_,by simp[h.size],?_,fun s' x hx hk=>?_,fun s' v' hv=>?_⟩
 simp only[Array.toList_push,List.mem_append,List.mem_singleton]at hx
 rcases hx with hx|rfl
 exact h.keys x hx
 trivial
 rw[Array.toList_push,List.pairwise_append]
 exact⟨h.apart,by simp,fun a ha b hb=>by rw[List.mem_singleton.1 hb];exact h2 a ha⟩
 simp only[Array.toList_push,List.mem_append,List.mem_singleton]at hx
 rcases hx with hx|rfl
 rw[if_neg (fun e=>h2 x hx (by rw[hk,e]))];exact h.val s' x hx hk
 cases hk;rw[if_pos rfl]
 simp only[Array.toList_push,List.mem_append,List.mem_singleton]
 split at hv
 rename_i e;subst e;exact⟨_,.inr rfl,rfl⟩
 obtain⟨x,hx,hk⟩:=h.all s' v' hv
 exact⟨x,.inl hx,hk⟩
 have hj:es[j]?=some e:=by simpa using h2
 have hfs:=h.val s e (List.mem_of_getElem? h2) h3
 refine⟨es.modify j (fun e'=>{e' with key:=.string s,val:=v}),clock,?_,?_⟩
 simp[Instr.mapUpdate,run_underlying ht,Go.MapKept.run_getObj_map hb,hc,Go.MapKept.run_findKey hkt h1,hj,h3,Go.MapKept.run_keyThatStays (k:=.string s) (d:=.string) trivial,Go.MapKept.run_setObj_map _ hb,Result.andThen]
 rw[hfs]
 have hkey:∀i:Nat,((es.modify j (fun e'=>{e' with key:=.string s,val:=v})).toList[i]?)=if j=i then(es.toList[i]?).map (fun e'=>{e' with key:=.string s,val:=v})else es.toList[i]?:=fun i=>by
  rw[Array.toList_modify,List.getElem?_modify]
  cases es.toList[i]?<;>by_cases e:j=i<;>simp[e]
 have hmem:∀x,x∈(es.modify j (fun e'=>{e' with key:=.string s,val:=v})).toList→(x.key=.string s∧x.val=v)∨(∃i,i≠j∧es.toList[i]?=some x):=fun x hx=>by
  obtain⟨i,hi⟩:=List.mem_iff_getElem?.1 hx
  rw[hkey i]at hi
  split at hi
  rename_i e1
  obtain⟨y,hy,rfl⟩:=Option.map_eq_some_iff.1 hi
  exact .inl ⟨rfl,rfl⟩
  rename_i e1;exact .inr ⟨i,fun e2=>e1 e2.symm,hi⟩
 have hap:∀i x,i≠j→es.toList[i]?=some x→x.key≠.string s:=fun i x hij hx hk=>by
  have hp:=List.pairwise_iff_getElem.1 h.apart
  obtain⟨hi,ex⟩:=List.getElem?_eq_some_iff.1 hx
  obtain⟨hjl,ee⟩:=List.getElem?_eq_some_iff.1 h2
  rcases Nat.lt_or_ge i j with hlt|hge
  exact hp i j hi hjl hlt (by rw[ex,ee,hk,h3])
  exact hp j i hjl hi (by omega) (by rw[ex,ee,hk,h3])
 refine⟨fun x hx=>?_,by simpa using h.size,?_,fun s' x hx hk=>?_,fun s' v' hv=>?_⟩
 rcases hmem x hx with⟨h4,_⟩|⟨i,_,hi⟩
 rw[h4];trivial
 exact h.keys x (List.mem_of_getElem? hi)
 have hkeys:(es.modify j (fun e'=>{e' with key:=.string s,val:=v})).toList.map (·.key)=es.toList.map (·.key):=by
  refine List.ext_getElem? (fun i=>?_)
  rw[List.getElem?_map,hkey i,List.getElem?_map]
  split
  rename_i e1
  subst e1
  rw[h2]
  simp[h3]
  rfl
 have:=h.apart
 rw[←List.pairwise_map (f:=fun e:MapEntry=>e.key) (R:=(·≠·))]at this ⊢
 rw[hkeys];exact this
 rcases hmem x hx with⟨h4,h5⟩|⟨i,hij,hi⟩
 rw[h4]at hk
 cases hk
 rw[if_pos rfl,h5]
 have h6:=hap i x hij hi
 rw[if_neg (fun e1=>h6 (by rw[hk,e1]))]
 exact h.val s' x (List.mem_of_getElem? hi) hk
 split at hv
 rename_i e1
 subst e1
 refine⟨{e with key:=.string s',val:=v},List.mem_iff_getElem?.2 ⟨j,?_⟩,rfl⟩
 rw[hkey j,if_pos rfl,h2];rfl
 rename_i e1
 obtain⟨x,hx,hk⟩:=h.all s' v' hv
 obtain⟨i,hi⟩:=List.mem_iff_getElem?.1 hx
 refine⟨x,List.mem_iff_getElem?.2 ⟨i,?_⟩,hk⟩
 rw[hkey i,if_neg (fun e2=>?_)]
 exact hi
 subst e2;rw[h2]at hi;cases hi
 rw[h3]at hk;cases hk;exact e1 rfl
def lookV (ok:Bool) (v:Option Value) (z:Value):Value:=if ok then .tuple #[v.getD z,.bool v.isSome]else v.getD z
theorem xl_lookO {C:Cx} {all:List Oper} {o:Oper} {r:List Oper} {Q:Bb} {st:St} {u:Im} {t d kt et k b n:Nat} {g:Gd} {f:ByteArray→Option Value} {m x:Operand} {s:ByteArray} {ok:Bool} (ho:o.op=.lookup t m x ok) (hg:Bp all st o=some g) (hd:o.dst=some d)
 (ht:C.P.underlying t=some (.map kt et)) (hkt:C.P.underlying kt=some .string) (hfr:Bg C.N st d g=true)
 (hm:opd st g m=some (.v (.map (some b)))) (hx:opd st g x=some (.v (.string s))) (hk:look st.ow k=some (.gen (mapO b n f)))
 (z:Value) (hz:∀w,(zeroValue et).run C.P w=.ok z w)
 (K:XL C all r Q (st.put d g (.v (lookV ok (f s) z))) u):XL C all (o::r) Q st u:=by
 refine xl_gval _ hg hd (fun c hc=>by rw[ho]at hc;cases hc) hfr (fun _ E a w hok hgs=>?_) K
 obtain⟨F,hsat⟩:=hok.sat
 obtain⟨_,es,clock,h1,h2⟩:=hsat.holds k _ hk
 have e1:=(Al hok.agr hgs hm).1
 have e2:=(Al hok.agr hgs hx).1
 have hrun:=h2.look h1 ht hkt (hz w) s ok
 obtain⟨dst,op,ty,pos,after,guard⟩:=o
 simp only at ho
 subst ho
 simp only[SV.den]at e1 e2
 simp[execOp,e1,e2,hrun,lookV]
theorem xl_lookM {C:Cx} {all:List Oper} {o:Oper} {r:List Oper} {Q:Bb} {st:St} {u:Im} {t d kt et b n:Nat} {g:Gd} {f:ByteArray→Option Value} {m x:Operand} {s:ByteArray} {ok:Bool} (ho:o.op=.lookup t m x ok) (hg:Bp all st o=some g) (hd:o.dst=some d)
 (ht:C.P.underlying t=some (.map kt et)) (hkt:C.P.underlying kt=some .string) (hfr:Bg C.N st d g=true)
 (hm:opd st g m=some (.v (.map (some b)))) (hx:opd st g x=some (.v (.string s))) (hk:MapAt u b n f)
 (z:Value) (hz:∀w,(zeroValue et).run C.P w=.ok z w)
 (K:XL C all r Q (st.put d g (.v (lookV ok (f s) z))) u):XL C all (o::r) Q st u:=by
 refine xl_gval _ hg hd (fun c hc=>by rw[ho]at hc;cases hc) hfr (fun _ E a w hok hgs=>?_) K
 obtain⟨F,hsat⟩:=hok.sat
 obtain⟨es,clock,h1,h2⟩:=hk
 have e1:=(Al hok.agr hgs hm).1
 have e2:=(Al hok.agr hgs hx).1
 have hrun:=h2.look (hsat.imm.h _ _ h1) ht hkt (hz w) s ok
 obtain⟨dst,op,ty,pos,after,guard⟩:=o
 simp only at ho
 subst ho
 simp only[SV.den]at e1 e2
 simp[execOp,e1,e2,hrun,lookV]
theorem xl_makeO {C:Cx} {all:List Oper} {o:Oper} {r:List Oper} {Q:Bb} {kn:Kn} {gk:List (Nat×(Gd×SV))} {ow:Own} {nx:Nat} {u:Im} {t d kt et:Nat} {hint:Option Operand} (ho:o.op=.makeMap t hint) (hgd:o.guard=none) (hd:o.dst=some d)
 (ht:C.P.underlying t=some (.map kt et)) (hh:∀x,hint=some x→∃q m,opd ⟨kn,gk,ow,nx⟩ [] x=some (.v (.int q m))) (hfr:Bg C.N ⟨kn,gk,ow,nx⟩ d []=true)
 (K:∀b,XL C all r Q ⟨(d,.v (.map (some b)))::kn,gk,(nx,.gen (mapO b 0 (fun _=>none)))::ow,nx+1⟩ u):XL C all (o::r) Q ⟨kn,gk,ow,nx⟩ u:=by
 unfold XL at K ⊢
 intro E a w hok
 obtain⟨f,hsat⟩:=hok.sat
 have hgs:gs a.tmps []:=fun x hx=>by cases hx
 have hrun:(execOp a.eval o).run C.P w=.ok (.value (.map (some w.heap.size))) (w.alloc (.map #[] 0)):=by
  obtain⟨dst,op,ty,pos,after,guard⟩:=o
  simp only at ho
  subst ho
  cases hint with
  |none=>simp[execOp,run_makeMap]
  |some x=>
   obtain⟨q,m,hx⟩:=hh x rfl
   have e1:=(Al hok.agr hgs hx).1
   simp only[SV.den]at e1
   simp[execOp,e1,Instr.makeMap,run_underlying ht,Result.andThen,asInt,asIntOf]
 refine xl_wp hgd (fun c hc=>by rw[ho]at hc;cases hc) hrun ?_
 rw[hd]
 have hz:(w.alloc (.map #[] 0)).heap.size=w.heap.size+1:=World.size_alloc _ _
 have hold:∀b,b<w.heap.size→(w.alloc (.map #[] 0)).heap[b]?=w.heap[b]?:=fun b hb=>Below.heap_alloc _ _ _ hb
 have hnone:u.h w.heap.size=none:=by
  cases ho:u.h w.heap.size with
  |none=>rfl
  |some x=>have:=(Array.getElem?_eq_some_iff.1 (hsat.imm.h _ x ho)).1;omega
 have hs:Sat E ((nx,.gen (mapO w.heap.size 0 (fun _=>none)))::ow) (nx+1) u a.defers (w.alloc (.map #[] 0)) (upd f nx (fun b=>b=w.heap.size)):=by
  refine hsat.step (fun k=>k=nx) (fun _ _=>rfl) (Nat.le_succ _) (Im.le.refl u) ?_ (by omega) (fun b hb _=>hold b hb) ?_ ?_ ?_ (fun b o ho=>.inl ho)
  exact⟨fun b o ho=>by rw[hold b (Array.getElem?_eq_some_iff.1 (hsat.imm.h b o ho)).1];exact hsat.imm.h b o ho,hsat.imm.os,hsat.imm.tape,hsat.imm.output,by have:=hsat.imm.lo;omega⟩
  intro k hk
  exact⟨by rw[Ac,if_neg (fun e=>hk e.symm)],fun b=>by rw[An _ _ hk]⟩
  rintro k rfl
  refine⟨fun r hr=>?_,fun hn=>?_,fun b hb=>?_⟩
  rw[Ac,if_pos rfl]at hr
  cases hr
  refine⟨⟨fun x=>by rw[Ak],#[],0,(MapKept.heap_alloc w _).1,mapOk_nil⟩,Nat.lt_succ_self _,trivial⟩
  rw[Ac,if_pos rfl]at hn;cases hn
  rw[Ak]at hb
  exact⟨.inr (by omega),by rw[hb];exact hnone⟩
  rintro k k' b rfl rfl hne
  exact absurd rfl hne
 have hg:=hok.agr.grow (E':=E) (ow:=(nx,.gen (mapO w.heap.size 0 (fun _=>none)))::ow) (nx:=nx+1) (fun _ _=>rfl) (Nat.le_succ _)
 have hput:=hg.put (d:=d) (g:=[]) (s:=.v (.map (some w.heap.size))) (x:=.map (some w.heap.size)) hfr (fun _=>trivial) (fun _=>rfl) (fun hn=>absurd (fun x hx=>(by cases hx)) hn) (fun _=>rfl)
 have:=K w.heap.size E (a.put (some d) (.map (some w.heap.size))) _ ⟨⟨hput.size,hput.kn,hput.gk,hput.klt,hput.glt⟩,_,hs⟩
 exact Av (fun e a w=>Cd.mono (fun _ _=>rfl) (Nat.le_succ _) (Im.le.refl u)) _ _ _ this
theorem xl_setO {C:Cx} {all:List Oper} {o:Oper} {r:List Oper} {Q:Bb} {kn:Kn} {gk:List (Nat×(Gd×SV))} {ow:Own} {nx:Nat} {u:Im} {t kt et k b n:Nat} {f:ByteArray→Option Value} {m x v:Operand} {s:ByteArray} {c:Value}
 (ho:o.op=.mapUpdate t m x v) (hgd:o.guard=none) (hd:o.dst=none)
 (ht:C.P.underlying t=some (.map kt et)) (hkt:C.P.underlying kt=some .string)
 (hm:opd ⟨kn,gk,ow,nx⟩ [] m=some (.v (.map (some b)))) (hx:opd ⟨kn,gk,ow,nx⟩ [] x=some (.v (.string s))) (hv:opd ⟨kn,gk,ow,nx⟩ [] v=some (.v c))
 (hk:look ow k=some (.gen (mapO b n f))) (n':Nat) (hn:n'=if(f s).isSome then n else n+1) (f':ByteArray→Option Value) (hf:(fun s'=>if s'=s then some c else f s')=f')
 (K:XL C all r Q ⟨kn,gk,(k,.gen (mapO b n' f'))::ow,nx⟩ u):XL C all (o::r) Q ⟨kn,gk,ow,nx⟩ u:=by
 subst hn hf
 unfold XL at K ⊢
 intro E a w hok
 obtain⟨F,hsat⟩:=hok.sat
 have hgs:gs a.tmps []:=fun x hx=>by cases hx
 obtain⟨hF,es,clock,h1,h2⟩:=hsat.holds k _ hk
 have e1:=(Al hok.agr hgs hm).1
 have e2:=(Al hok.agr hgs hx).1
 have e3:=(Al hok.agr hgs hv).1
 obtain⟨es',clock',hrun0,hown⟩:=h2.put h1 ht hkt s c
 have hlt:b<w.heap.size:=(Array.getElem?_eq_some_iff.1 h1).1
 obtain⟨w',hw'⟩:∃w':World,w'={w with heap:=w.heap.setIfInBounds b (.map es' clock')}:=⟨_,rfl⟩
 rw[←hw']at hrun0
 have hrun:(execOp a.eval o).run C.P w=.ok .skip w':=by
  obtain⟨dst,op,ty,pos,after,guard⟩:=o
  simp only at ho
  simp only[SV.den]at e1 e2 e3
  subst ho;simp[execOp,e1,e2,e3,hrun0]
 have hsz:w'.heap.size=w.heap.size:=by rw[hw'];simp
 have hoth:∀b',b'≠b→w'.heap[b']?=w.heap[b']?:=fun b' hb'=>by
  rw[hw'];simp only[Array.getElem?_setIfInBounds];rw[if_neg (fun e=>hb' e.symm)]
 have hsame:w'.heap[b]?=some (.map es' clock'):=by
  rw[hw'];simp[Array.getElem?_setIfInBounds,hlt]
 have hkl:=(hsat.lt k _ hk).1
 have hkb:F k b:=(hF b).2 rfl
 have hsat2:Sat E ((k,.gen (mapO b (if(f s).isSome then n else n+1) (fun s'=>if s'=s then some c else f s')))::ow) nx u a.defers w' F:=by
  refine hsat.step (fun j=>j=k) (fun _ _=>rfl) (Nat.le_refl _) (Im.le.refl u) ?_ (by omega) (fun b' hb' hne=>hoth b' (fun e=>hne k rfl (by rw[e];exact hkb))) ?_ ?_ ?_ (fun b o ho=>.inl ho)
  refine⟨fun b' y hy=>?_,by rw[hw'];exact hsat.imm.os,by rw[hw'];exact hsat.imm.tape,by rw[hw'];exact hsat.imm.output,by have:=hsat.imm.lo;omega⟩
  rw[hoth b' (fun e=>by rw[e,hsat.off k b hkb]at hy;cases hy)]
  exact hsat.imm.h b' y hy
  intro j hj
  exact⟨by rw[Ac,if_neg (Ne.symm hj)],fun b=>Iff.rfl⟩
  rintro j rfl
  refine⟨fun r hr=>?_,fun hr=>?_,fun b hb=>?_⟩
  rw[Ac,if_pos rfl]at hr
  cases hr
  exact⟨⟨hF,es',clock',hsame,hown⟩,hkl,trivial⟩
  rw[Ac,if_pos rfl]at hr;cases hr
  exact⟨.inl ⟨j,rfl,hb⟩,hsat.off j b hb⟩
  intro j j' b hj hj' hne;subst hj hj';exact absurd rfl hne
 unfold wpListIn
 rw[if_pos (by simp[Region.wanted,hgd])]
 refine⟨fun _ _=>trivial,?_⟩
 rw[semAt_eq _ _ _ (fun c hc=>by rw[ho]at hc;cases hc),hrun,Oper.uponIn_skip,hd]
 exact K E a w' ⟨⟨hok.agr.size,hok.agr.kn,hok.agr.gk,hok.agr.klt,hok.agr.glt⟩,F,hsat2⟩
theorem getD_set (L:Array Bool) (i j:Nat) (d:Bool):(L.setIfInBounds i true).getD j d=if i=j∧i<L.size then true else L.getD j d:=by
 simp only[Array.getD_eq_getD_getElem?,Array.getElem?_setIfInBounds]
 by_cases h:i=j
 subst h
 by_cases h2:i<L.size
 simp[h2]
 simp[h2]
 simp[h]
theorem getD_ne {L:Array Bool} {i j:Nat} {d:Bool} (h:¬i=j):(L.setIfInBounds i true).getD j d=L.getD j d:=by
 rw[getD_set];simp[h]
theorem getD_eq {L:Array Bool} {i:Nat} {d:Bool} (h:i<L.size):(L.setIfInBounds i true).getD i d=true:=by
 rw[getD_set];simp[h]
theorem marks_size:∀(l:List Nat) (L:Array Bool),(marks L l).size=L.size
 |[],_=>rfl
 |i::r,L=>by rw[marks,marks_size r];simp
theorem marks_getD:∀(l:List Nat) (L:Array Bool) (j:Nat) (d:Bool),(∀i∈l,i<L.size)→(marks L l).getD j d=if j∈l then true else L.getD j d
 |[],_,_,_,_=>by simp[marks]
 |i::r,L,j,d,h=>by
  rw[marks,marks_getD r _ j d (fun x hx=>by simpa using h x (List.mem_cons_of_mem _ hx)),getD_set]
  have hi:=h i (List.mem_cons_self ..)
  by_cases h1:j∈r
  simp[h1]
  by_cases h2:i=j
  subst h2;simp[h1,hi]
  have:¬j=i:=fun h=>h2 h.symm
  simp[h1,h2,this]
def lexO (md:Region.Mode) (ops:Array Oper):List Nat→Array Bool→Bool
 |[],_=>true
 |i::r,L=>(Region.ready md ops L).contains i&&lexO md ops r (L.setIfInBounds i true)
def sucL (md:Region.Mode) (ops:Array Oper) (z:Nat):List Nat→Bool
 |[]=>true
 |i::r=>(decide (i=z)||r.any fun j=>((ops[j]?).map (·.after.any fun e=>Region.binds md e&&decide (e.on=i))).getD false)&&sucL md ops z r
def outL (md:Region.Mode) (ops:Array Oper) (T:Array Bool) (z i0:Nat):Bool:=
 (List.range ops.size).all fun j=>T.getD j true||decide (j=i0)||((ops[j]?).map (·.after.any fun e=>Region.binds md e&&(decide (e.on=z)||!T.getD e.on false))).getD true
theorem lexO_split {md:Region.Mode} {ops:Array Oper}:∀(pre:List Nat) (i:Nat) (post:List Nat) (L:Array Bool),lexO md ops (pre++i::post) L=true→i∈Region.ready md ops (marks L pre)
 |[],i,post,L,h=>by
  simp only[List.nil_append,lexO,Bool.and_eq_true,List.contains_iff_mem]at h
  exact h.1
 |p::pre,i,post,L,h=>by
  simp only[List.cons_append,lexO,Bool.and_eq_true]at h
  exact lexO_split pre i post _ h.2
theorem sucL_all {md:Region.Mode} {ops:Array Oper} {z:Nat} {L:Array Bool} (hz:L.getD z false=true):∀(l:List Nat),sucL md ops z l=true →
 (∀j∈l,L.getD j false=true→∀o,ops[j]?=some o→∀e∈o.after,Region.binds md e=true→L.getD e.on false=true)→∀i∈l,L.getD i false=true
 |[],_,_,i,hi=>by cases hi
 |p::r,h,hD,i,hi=>by
  simp only[sucL,Bool.and_eq_true,Bool.or_eq_true,decide_eq_true_eq,List.any_eq_true]at h
  have ih:=sucL_all hz r h.2 (fun j hj=>hD j (List.mem_cons_of_mem _ hj))
  rcases List.mem_cons.1 hi with rfl|hi
  rcases h.1 with h1|⟨j,hj,h1⟩
  rw[h1];exact hz
  cases ho:ops[j]? with
  |none=>rw[ho]at h1;cases h1
  |some o=>
   rw[ho]at h1
   simp only[Option.map_some,Option.getD_some]at h1
   obtain⟨e,he,h2⟩:=Array.any_eq_true'.1 h1
   simp only[Bool.and_eq_true,decide_eq_true_eq]at h2
   have:=hD j (List.mem_cons_of_mem _ hj) (ih j hj) o ho e he h2.1
   rw[h2.2]at this;exact this
  exact ih i hi
structure Mid (md:Region.Mode) (ops:Array Oper) (L0:Array Bool) (l:List Nat) (L:Array Bool):Prop where
 sz:L.size=L0.size
 lo:∀i,i∉l→L.getD i false=L0.getD i false
 dn:∀j∈l,L.getD j false=true→∀o,ops[j]?=some o→∀e∈o.after,Region.binds md e=true→L.getD e.on false=true
def unl (L:Array Bool) (l:List Nat):Nat:=(l.filter fun i=>!L.getD i false).length
theorem unl_set {L:Array Bool} {i:Nat} (hi:i<L.size) (h:L.getD i false=false):∀(l:List Nat),l.Nodup→i∈l→unl (L.setIfInBounds i true) l+1=unl L l
 |[],_,hm=>by cases hm
 |p::r,hnd,hm=>by
  have hn:=List.nodup_cons.1 hnd
  by_cases hp:p=i
  subst hp
  have e:r.filter (fun j=>!(L.setIfInBounds p true).getD j false)=r.filter (fun j=>!L.getD j false):=by
   refine List.filter_congr fun j hj=>?_
   exact congrArg _ (getD_ne (fun h=>hn.1 (h▸hj)))
  unfold unl
  rw[List.filter_cons,List.filter_cons,e,getD_eq hi,h]
  simp
  have hm:i∈r:=by
   rcases List.mem_cons.1 hm with h|h
   exact absurd h.symm hp
   exact h
  have ih:=unl_set hi h r hn.2 hm
  unfold unl at ih ⊢
  rw[List.filter_cons,List.filter_cons,getD_ne (fun h=>hp h.symm)]
  split
  simp only[List.length_cons];omega
  exact ih
theorem unl_zero {L:Array Bool}:∀ {l:List Nat},unl L l=0↔∀i∈l,L.getD i false=true:=by
 intro l
 unfold unl
 rw[List.length_eq_zero_iff,List.filter_eq_nil_iff]
 simp
theorem Mid.set {md:Region.Mode} {ops:Array Oper} {L0 L:Array Bool} {l:List Nat} (h:Mid md ops L0 l L) {i:Nat} (hi:i∈l) (hr:i∈Region.ready md ops L) (hsz:i<L.size):Mid md ops L0 l (L.setIfInBounds i true):=by
 obtain⟨h1,o,ho,h2⟩:=Go.mem_ready.1 hr
 refine⟨by rw[Array.size_setIfInBounds];exact h.sz,fun j hj=>?_,fun j hj hl o' ho' e he hb=>?_⟩
 rw[getD_ne (fun hh:i=j=>hj (hh▸hi))];exact h.lo j hj
 rw[getD_set]
 split
 rfl
 by_cases hji:i=j
 subst hji
 rw[ho]at ho';cases ho'
 exact h2 e he hb
 rw[getD_ne hji]at hl
 exact h.dn j hj hl o' ho' e he hb
theorem Mid.last {md:Region.Mode} {ops:Array Oper} {L0 L:Array Bool} {l:List Nat} (h:Mid md ops L0 l L) (hl:∀i∈l,i<L0.size) (h0:unl L l=0):L=marks L0 l:=by
 have ha:=unl_zero.1 h0
 refine Array.ext (by rw[marks_size,h.sz]) fun i h1 h2=>?_
 have e1:L.getD i false=L[i]:=by simp[Array.getD,h1]
 have e2:(marks L0 l).getD i false=(marks L0 l)[i]:=by simp[Array.getD,h2]
 rw[←e1,←e2,marks_getD l L0 i false hl]
 by_cases hi:i∈l
 rw[if_pos hi];exact ha i hi
 rw[if_neg hi];exact h.lo i hi
theorem Mid.inside {md:Region.Mode} {ops:Array Oper} {L0 L:Array Bool} {l:List Nat} {z i0 k:Nat} (h:Mid md ops L0 l L) (hl:∀i∈l,i<L0.size) (hz:z∈l) (hs:sucL md ops z l=true)
 (ho:outL md ops (marks L0 l) z i0=true) (hk:unl L l=k+1) {i:Nat} (hi:i∈Region.ready md ops L):i=i0∨i∈l:=by
 obtain⟨h1,o,hoi,h2⟩:=Go.mem_ready.1 hi
 have hzL:L.getD z false=false:=by
  cases hzz:L.getD z false with
  |false=>rfl
  |true=>rw[unl_zero.2 (sucL_all hzz l hs h.dn)]at hk;omega
 have hout:=List.all_eq_true.1 ho i (List.mem_range.2 (Array.getElem?_eq_some_iff.1 hoi).1)
 simp only[Bool.or_eq_true,decide_eq_true_eq]at hout
 rcases hout with(hout|hout)|hout
 rw[marks_getD l L0 i true hl]at hout
 by_cases hil:i∈l
 exact .inr hil
 rw[if_neg hil]at hout
 exfalso
 have e:=h.lo i hil
 by_cases hsz:i<L0.size
 have e1:L0.getD i true=L0.getD i false:=by simp[Array.getD,hsz]
 have e2:L.getD i true=L.getD i false:=by
  have:i<L.size:=by rw[h.sz];exact hsz
  simp[Array.getD,this]
 rw[e1,←e,←e2,h1]at hout;cases hout
 have:¬i<L.size:=by rw[h.sz];exact hsz
 simp[Array.getD,this]at h1
 exact .inl hout
 rw[hoi]at hout
 simp only[Option.map_some,Option.getD_some]at hout
 obtain⟨e,he,h3⟩:=Array.any_eq_true'.1 hout
 simp only[Bool.and_eq_true,Bool.or_eq_true,decide_eq_true_eq,Bool.not_eq_true']at h3
 have h4:=h2 e he h3.1
 rcases h3.2 with h5|h5
 rw[h5,hzL]at h4;cases h4
 rw[marks_getD l L0 _ false hl]at h5
 split at h5
 cases h5
 rename_i hn;rw[h.lo _ hn,h5]at h4;cases h4
theorem ready_lt {md:Region.Mode} {ops:Array Oper} {L:Array Bool} {i:Nat} (h:i∈Region.ready md ops L):i<L.size:=by
 obtain⟨h1,_⟩:=Go.mem_ready.1 h
 rcases Nat.lt_or_ge i L.size with h2|h2
 exact h2
 have:¬i<L.size:=by omega
 simp[Array.getD,this]at h1
theorem ready_un {md:Region.Mode} {ops:Array Oper} {L:Array Bool} {i:Nat} (h:i∈Region.ready md ops L):L.getD i false=false:=by
 have hlt:=ready_lt h
 obtain⟨h1,_⟩:=Go.mem_ready.1 h
 simpa[Array.getD,hlt]using h1
theorem phaseX_mid {md:Region.Mode} {ops:Array Oper} {L0:Array Bool} {l:List Nat} {z i0:Nat} (hl:∀i∈l,i<L0.size) (hnd:l.Nodup) (hz:z∈l) (hs:sucL md ops z l=true)
 (ho:outL md ops (marks L0 l) z i0=true):∀(k:Nat) (L:Array Bool),Mid md ops L0 l L→unl L l=k→phaseX md ops i0 (marks L0 l) k L=true
 |0,L,h,hk=>by
  rw[phaseX];exact decide_eq_true (h.last hl hk)
 |k+1,L,h,hk=>by
  rw[phaseX,List.all_eq_true]
  intro i hi
  rcases h.inside hl hz hs ho hk hi with rfl|hil
  simp
  have:=unl_set (ready_lt hi) (ready_un hi) l hnd hil
  rw[phaseX_mid hl hnd hz hs ho k _ (h.set hil hi (ready_lt hi)) (by omega)];simp
theorem phaseB_mid {md:Region.Mode} {ops:Array Oper} {L0:Array Bool} {l:List Nat} {z:Nat} (hl:∀i∈l,i<L0.size) (hnd:l.Nodup) (hz:z∈l) (hs:sucL md ops z l=true)
 (ho:outL md ops (marks L0 l) z ops.size=true) (hx:lexO md ops l L0=true):∀(k:Nat) (L:Array Bool),Mid md ops L0 l L→unl L l=k→phaseB md ops (marks L0 l) k L=true
 |0,L,h,hk=>by
  rw[phaseB];exact decide_eq_true (h.last hl hk)
 |k+1,L,h,hk=>by
  rw[phaseB,Bool.and_eq_true,List.all_eq_true]
  constructor
  have hsp:∀(post pre:List Nat),l=pre++post→(∀i∈pre,L.getD i false=true)→unl L post≠0→∃i,i∈Region.ready md ops L:=by
   intro post
   induction post with
   |nil=>intro pre _ _ hne;exact absurd rfl hne
   |cons p post ih=>
    intro pre e hpre hne
    cases hp:L.getD p false with
    |true=>
     refine ih (pre++[p]) (by rw[e];simp) (fun i hi=>?_) ?_
     rcases List.mem_append.1 hi with hi|hi
     exact hpre i hi
     rw[List.mem_singleton.1 hi];exact hp
     intro h0
     apply hne
     rw[unl_zero]at h0 ⊢
     intro i hi
     rcases List.mem_cons.1 hi with rfl|hi
     exact hp
     exact h0 i hi
    |false=>
     have hr:=lexO_split pre p post L0 (e▸hx)
     obtain⟨h1,o,hop,h2⟩:=Go.mem_ready.1 hr
     have hps:p<L.size:=by rw[h.sz];exact hl p (by rw[e];simp)
     refine⟨p,Go.mem_ready.2 ⟨by simpa[Array.getD,hps]using hp,o,hop,fun e' he hb=>?_⟩⟩
     have h3:=h2 e' he hb
     rw[marks_getD pre L0 _ false (fun i hi=>hl i (by rw[e];simp[hi]))]at h3
     by_cases hm:e'.on∈pre
     exact hpre _ hm
     rw[if_neg hm]at h3
     by_cases hml:e'.on∈l
     exfalso
     have hr2:=List.append_of_mem hml
     obtain⟨a,c,ha⟩:=hr2
     have hra:=lexO_split a e'.on c L0 (ha▸hx)
     have:=ready_un hra
     rw[marks_getD a L0 _ false (fun i hi=>hl i (by rw[ha];simp[hi]))]at this
     split at this
     cases this
     rw[h3]at this;cases this
     rw[h.lo _ hml];exact h3
  obtain⟨i,hi⟩:=hsp l [] rfl (fun i hi=>by cases hi) (by rw[hk];omega)
  cases hrr:Region.ready md ops L with
  |nil=>rw[hrr]at hi;cases hi
  |cons a b=>rfl
  intro i hi
  rcases h.inside hl hz hs ho hk hi with rfl|hil
  have hlt:=(Array.getElem?_eq_some_iff.1 (Go.mem_ready.1 hi).2.choose_spec.1).1
  omega
  have:=unl_set (ready_lt hi) (ready_un hi) l hnd hil
  exact phaseB_mid hl hnd hz hs ho hx k _ (h.set hil hi (ready_lt hi)) (by omega)
def freshL (L0:Array Bool) (l:List Nat):Bool:=l.all fun i=>decide (i<L0.size)&&!L0.getD i false
theorem Mid.start {md:Region.Mode} {ops:Array Oper} {L0:Array Bool} {l:List Nat} (h:freshL L0 l=true):Mid md ops L0 l L0∧unl L0 l=l.length∧∀i∈l,i<L0.size:=by
 have h:=List.all_eq_true.1 h
 simp only[Bool.and_eq_true,decide_eq_true_eq,Bool.not_eq_true']at h
 refine⟨⟨rfl,fun _ _=>rfl,fun j hj hl=>by rw[(h j hj).2]at hl;cases hl⟩,?_,fun i hi=>(h i hi).1⟩
 unfold unl
 rw[List.filter_eq_self.2 (fun i hi=>by rw[(h i hi).2];rfl)]
theorem phaseX_of {md:Region.Mode} {ops:Array Oper} {L0:Array Bool} {l:List Nat} (z:Nat) {i0:Nat} (hc:(freshL L0 l&&decide l.Nodup&&l.contains z&&sucL md ops z l&&outL md ops (marks L0 l) z i0)=true) :
 phaseX md ops i0 (marks L0 l) l.length L0=true:=by
 simp only[Bool.and_eq_true,decide_eq_true_eq,List.contains_iff_mem]at hc
 obtain⟨⟨⟨⟨h1,h2⟩,h3⟩,h4⟩,h5⟩:=hc
 obtain⟨m1,m2,m3⟩:=Mid.start (md:=md) (ops:=ops) h1
 exact phaseX_mid m3 h2 h3 h4 h5 _ _ m1 m2
theorem phaseB_of {md:Region.Mode} {ops:Array Oper} {L0:Array Bool} {l:List Nat} (z:Nat) (hc:(freshL L0 l&&decide l.Nodup&&l.contains z&&sucL md ops z l&&outL md ops (marks L0 l) z ops.size&&lexO md ops l L0)=true) :
 phaseB md ops (marks L0 l) l.length L0=true:=by
 simp only[Bool.and_eq_true,decide_eq_true_eq,List.contains_iff_mem]at hc
 obtain⟨⟨⟨⟨⟨h1,h2⟩,h3⟩,h4⟩,h5⟩,h6⟩:=hc
 obtain⟨m1,m2,m3⟩:=Mid.start (md:=md) (ops:=ops) h1
 exact phaseB_mid m3 h2 h3 h4 h5 h6 _ _ m1 m2
theorem xa_late2 {T:TT} {C:Cx} (hT:TOk C.P T) {ops:Array Oper} {Q:Bb} {st:St} {u:Im} {fuel n d0:Nat} {listed:Array Bool} {o0:Oper} (i0 z:Nat) (l:List Nat) (hn:n=l.length+(fuel+1))
 (ho:ops.toList[i0]?=some o0) (hd:o0.dst=some d0)
 (hsel:Region.noSelect ops=true) (ha:hasAll ops.toList (i0::l)=true) (hl:lexL .any ops (i0::l) listed=true) (hb:(freshL (listed.setIfInBounds i0 true) l&&decide l.Nodup&&l.contains z&&sucL .any ops z l&&outL .any ops (marks (listed.setIfInBounds i0 true) l) z ops.size&&lexO .any ops l (listed.setIfInBounds i0 true))=true)
 (hx:(freshL listed l&&decide l.Nodup&&l.contains z&&sucL .any ops z l&&outL .any ops (marks listed l) z i0)=true)
 (h:XD C ops.toList (opsAt ops.toList (i0::l)) (fun st=>st.gk=[]∧XA C ops fuel (marks listed (i0::l)) Q st u∧XA C ops (fuel+1) (marks listed l) Q ⟨forget d0 st.kn,[],st.ow,st.nx⟩ u) st u):XA C ops n listed Q st u:=
 xa_late hT i0 l hn ho hd hsel ha hl (phaseB_of z hb) (phaseX_of z hx) h
theorem Ci {C:Cx} {all r:List Oper} {o oj:Oper} {Q:Bb} {st:St} {u:Im} {j t:Nat} {b:Bool} (hg:o.guard=some (j,b)) (hj:all[j]?=some oj) (hd:oj.dst=some t)
 (hk:look st.kn t=some (.v (.bool b))) (hn:look st.gk t=none) (h:XL C all ({o with guard:=none}::r) Q st u):XL C all (o::r) Q st u:=by
 unfold XL at h ⊢
 intro E a w hok
 have h1:=h E a w hok
 have hgo:Bp all st o=some [(t,b)]:=by
  unfold Bp
  rw[hg]
  simp only[hj,hd,hn,hk]
 have hgd:=guard_sound (all:=all.toArray) hok.agr (by simpa using hgo)
 have hw:Region.wanted o (yielded all.toArray a.tmps)=true:=by
  cases hw:Region.wanted o (yielded all.toArray a.tmps)with
  |true=>rfl
  |false=>
   refine absurd ?_ (hgd.2 hw)
   intro x hx
   rw[List.mem_singleton.1 hx]
   exact hok.agr.kn t _ hn hk
 unfold wpListIn at h1 ⊢
 rw[if_pos hw]
 rw[if_pos (by rfl)]at h1
 exact h1
theorem xl_slG {C:Cx} {all l:List Oper} {Q:Bb} {kn:Kn} {gk:List (Nat×(Gd×SV))} {ow:Own} {nx:Nat} {u:Im} (d:Nat) {g:Gd} {x:Value} {D:Data} (hd:look gk d=some (g,.v x)) (hx:Aw u x D)
 (h:XL C all l Q ⟨kn,(d,(g,.r nx))::gk,(nx,.sl D)::ow,nx+1⟩ u):XL C all l Q ⟨kn,gk,ow,nx⟩ u:=by
 unfold XL at h ⊢
 intro E a w hok
 obtain⟨f,hsat⟩:=hok.sat
 have hE:∀k,k<nx→upd E nx x k=E k:=fun k hk=>An _ _ (by omega)
 have hg:=hok.agr.grow (E':=upd E nx x) (ow:=(nx,.sl D)::ow) (nx:=nx+1) hE (Nat.le_succ _)
 have hsat':Sat (upd E nx x) ((nx,.sl D)::ow) (nx+1) u a.defers w (upd f nx (fun _=>False)):=by
  refine hsat.step (fun k=>k=nx) hE (Nat.le_succ _) (Im.le.refl u) hsat.imm (Nat.le_refl _) (fun b _ _=>rfl) ?_ ?_ ?_ (fun b o ho=>.inl ho)
  intro k hk
  exact⟨by rw[Ac,if_neg (fun e=>hk e.symm)],fun b=>by rw[An _ _ hk]⟩
  rintro k rfl
  refine⟨fun r hr=>?_,fun hr=>?_,fun b hb=>?_⟩
  rw[Ac,if_pos rfl]at hr
  cases hr
  refine⟨⟨by rw[Ak];exact hx,fun y hy=>by rw[Ak]at hy;exact hy⟩,Nat.lt_succ_self _,trivial⟩
  rw[Ac,if_pos rfl]at hr;cases hr
  rw[Ak]at hb;exact hb.elim
  intro k k' b hk hk' hne;subst hk hk';exact absurd rfl hne
 obtain⟨A,c,hv⟩:=hx.form
 have hd':=hok.agr.gk d g _ hd
 have:=h (upd E nx x) a w ⟨⟨hg.size,fun t s h1 h2=>?_,fun t g' s h1=>?_,fun t s h2=>hg.klt t s h2,fun t g' s h1 hgs=>?_⟩,_,hsat'⟩
 exact Av (fun e a w=>Cd.mono hE (Nat.le_succ _) (Im.le.refl u)) _ _ _ this
 rw[Ac]at h1
 split at h1
 cases h1
 exact hg.kn t s h1 h2
 rw[Ac]at h1
 split at h1
 rename_i e1;subst e1;cases h1
 refine⟨fun hgs=>?_,hd'.2⟩
 rw[hd'.1 hgs]
 simp only[SV.den,Ak]
 exact hg.gk t g' s h1
 rw[Ac]at h1
 split at h1
 cases h1;exact⟨Nat.lt_succ_self _,A,D.n,c,by rw[Ak];exact hv⟩
 exact hg.glt t g' s h1 hgs
theorem xl_eqv {C:Cx} {all l:List Oper} {Q:Bb} {kn:Kn} {gk:List (Nat×(Gd×SV))} {ow:Own} {nx:Nat} {u:Im} (t:Nat) {v:Value} (v':Value) (hk:look kn t=some (.v v)) (he:v=v')
 (h:XL C all l Q ⟨(t,.v v')::kn,gk,ow,nx⟩ u):XL C all l Q ⟨kn,gk,ow,nx⟩ u:=by
 subst he
 unfold XL at h ⊢
 intro E a w hok
 refine h E a w ⟨⟨hok.agr.size,fun d s h1 h2=>?_,hok.agr.gk,fun d s h2=>?_,hok.agr.glt⟩,hok.sat⟩
 rw[Ac]at h2
 split at h2
 rename_i e;subst e;cases h2;exact hok.agr.kn _ _ h1 hk
 exact hok.agr.kn _ _ h1 h2
 rw[Ac]at h2
 split at h2
 rename_i e;subst e;cases h2;exact hok.agr.klt _ _ hk
 exact hok.agr.klt _ _ h2
end Go.GV
