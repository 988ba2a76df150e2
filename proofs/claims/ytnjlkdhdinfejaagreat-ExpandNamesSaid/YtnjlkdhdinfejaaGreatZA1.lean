/- Part 1 of the lemmas behind the claim: GV. -/
import Derived.RangeFuncNested
import Derived.RangeFuncLeaves
import Derived.WalkKit
import Derived.WalkSpells
import Derived.WalkLawsBesides
import Derived.OwnWalkIn
import Derived.Maps.AppendAt
import Derived.Still
import Derived.OrdersIn
import Derived.Deep.Slices
import Derived.Great.BuildSlice
import Derived.Deep.Fields
set_option linter.unusedSimpArgs false
set_option linter.unusedVariables false
set_option maxHeartbeats 4000000
set_option maxRecDepth 100000
namespace Go.GV
theorem O {α:Sort _} {a:α}:a=a:=rfl
open Go.RowKit
abbrev FR (ro:Option Nat):Fence:={fn:=fun _=>True,depth:=none,alive:=false,round:=ro}
structure Im where
 h:Nat→Option Obj
 os:Os
 tape:Nat→Question→Nat
 output:Array (Nat×ByteArray)
 lo:Nat
structure Im.le (u u':Im):Prop where
 h:∀b o,u.h b=some o→u'.h b=some o
 os:u'.os=u.os
 tape:u'.tape=u.tape
 output:u'.output=u.output
 lo:u'.lo=u.lo
theorem Im.le.refl (u:Im):u.le u:=⟨fun _ _ h=>h,rfl,rfl,rfl,rfl⟩
theorem Im.le.trans {a b c:Im} (h:a.le b) (k:b.le c):a.le c:=
 ⟨fun x o hx=>k.h x o (h.h x o hx),k.os.trans h.os,k.tape.trans h.tape,k.output.trans h.output,k.lo.trans h.lo⟩
structure Imm (u:Im) (w:World):Prop where
 h:∀b o,u.h b=some o→w.heap[b]?=some o
 os:w.os=u.os
 tape:w.tape=u.tape
 output:w.output=u.output
 lo:u.lo≤w.heap.size
def im (w:World):Im:=⟨fun b=>w.heap[b]?,w.os,w.tape,w.output,w.heap.size⟩
theorem imm_im (w:World):Imm (im w) w:=⟨fun _ _ h=>h,rfl,rfl,rfl,Nat.le_refl _⟩
def Im.cell? (u:Im) (a:Addr):Option Value:=
 match u.h a.block with
 |some (.cells c _ _)=>if a.spot.isSome then none else c[a.off]?
 |_=>none
theorem Im.le.cell {u u':Im} (h:u.le u') {a:Addr} {x:Value} (hc:u.cell? a=some x):u'.cell? a=some x:=by
 unfold Im.cell? at hc ⊢
 split at hc
 rename_i c t f hb;rw[h.h _ _ hb];exact hc
 cases hc
theorem Imm.cell {u:Im} {w:World} (h:Imm u w) {a:Addr} {x:Value} (hc:u.cell? a=some x):w.cell? a=some x:=by
 unfold Im.cell? at hc
 unfold World.cell?
 split at hc
 rename_i c t f hb;rw[h.h _ _ hb];exact hc
 cases hc
structure Data where
 n:Nat
 cs:List (Int→Value)
def Data.el (D:Data) (i:Int):List Value:=D.cs.map (fun f=>f i)
def Data.flat (D:Data):List Value:=(List.range D.n).flatMap (fun i:Nat=>D.el (i:Int))
theorem Data.el_length (D:Data) (i:Int):(D.el i).length=D.cs.length:=by simp[Data.el]
theorem flatMap_get {α β:Type} {m:Nat} (F:α→List β) (hF:∀a,(F a).length=m):∀(l:List α) (i j:Nat) (x:α),l[i]?=some x→j<m→(l.flatMap F)[i*m+j]?=(F x)[j]?
 |[],i,j,x,h,_=>by simp at h
 |y::r,0,j,x,h,hj=>by
  simp only[List.getElem?_cons_zero,Option.some.injEq]at h
  subst h
  rw[List.flatMap_cons,Nat.zero_mul,Nat.zero_add,List.getElem?_append_left (by rw[hF];exact hj)]
 |y::r,i+1,j,x,h,hj=>by
  rw[List.flatMap_cons,List.getElem?_append_right (by rw[hF,Nat.add_mul];omega),hF]
  rw[show(i+1) * m+j-m=i*m+j by rw[Nat.add_mul];omega]
  exact flatMap_get F hF r i j x (by simpa using h) hj
theorem flat_get (D:Data) {i:Nat} (hi:i<D.n) {j:Nat} {f:Int→Value} (hf:D.cs[j]?=some f):D.flat[i*D.cs.length+j]?=some (f i):=by
 have hj:j<D.cs.length:=(List.getElem?_eq_some_iff.1 hf).1
 unfold Data.flat
 rw[flatMap_get _ (fun i:Nat=>D.el_length (i:Int)) _ i j i (by rw[List.getElem?_range hi]) hj]
 simp[Data.el,hf]
theorem flat_length (D:Data):D.flat.length=D.n*D.cs.length:=by
 unfold Data.flat
 rw[List.length_flatMap]
 simp only[Data.el_length]
 induction D.n with
 |zero=>simp
 |succ n ih=>rw[List.range_succ,List.map_append,List.sum_append,ih,Nat.add_mul];simp
def Aw (u:Im) (x:Value) (D:Data):Prop:=
 ∃A c,x=.slice A D.n c∧D.n≤c∧c≤maxLen ∧
  (0<D.n→∃ad:Addr,A=some ad∧∀i:Nat,i<D.n→∀j f,D.cs[j]?=some f→u.cell? (ad.add (i*D.cs.length+j))=some (f i))
theorem Aw.mono {u u':Im} {x:Value} {D:Data} (h:Aw u x D) (hu:u.le u'):Aw u' x D:=by
 obtain⟨A,c,h1,h2,h3,h4⟩:=h
 refine⟨A,c,h1,h2,h3,fun hn=>?_⟩
 obtain⟨ad,h5,h6⟩:=h4 hn
 exact⟨ad,h5,fun i hi j f hf=>hu.cell (h6 i hi j f hf)⟩
abbrev Env:=Nat→Value
inductive SV where
 |v (x:Value)
 |p (k off:Nat)
 |r (k:Nat)
 |e (k sz:Nat) (i:Int) (off:Nat)
 |clo (f:Nat) (ks:List Nat)
 |tup (l:List (Value ⊕ Nat))
 deriving Inhabited
def ptrOf (E:Env) (k off:Nat):Value:=
 match E k with
 |.pointer (some a)=>.pointer (some ⟨a.block,off,none⟩)
 |x=>x
def elOf (E:Env) (k n:Nat):Value:=
 match E k with
 |.slice (some a) _ _=>.pointer (some (a.add n))
 |x=>x
def eltOf (E:Env):Value ⊕ Nat→Value
 |.inl x=>x
 |.inr k=>E k
def SV.den (E:Env):SV→Value
 |.v x=>x
 |.p k off=>ptrOf E k off
 |.r k=>E k
 |.e k sz i off=>elOf E k (i.toNat*sz+off)
 |.clo f ks=>.func (.func f) #[] (ks.map fun k=>ptrOf E k 0).toArray
 |.tup l=>.tuple (l.map (eltOf E)).toArray
def isPtr (E:Env) (k:Nat):Prop:=∃a,E k=.pointer (some a)
def isSl (E:Env) (k:Nat):Prop:=∃A l c,E k=.slice A l c
def SV.lt (E:Env) (n:Nat):SV→Prop
 |.v _=>True
 |.p k _=>k<n∧isPtr E k
 |.r k=>k<n∧isSl E k
 |.e k _ i _=>k<n∧∃a l c,E k=.slice (some a) l c∧0≤i∧i<(l:Int)
 |.clo _ ks=>∀k∈ks,k<n∧isPtr E k
 |.tup l=>∀k,.inr k∈l→k<n∧isSl E k
theorem SV.den_congr {E E':Env} {n:Nat} (h:∀k,k<n→E' k=E k) {s:SV} (hs:s.lt E n):s.den E'=s.den E:=by
 cases s with
 |v x=>rfl
 |p k off=>simp only[den,ptrOf,h k hs.1]
 |r k=>simp only[den,h k hs.1]
 |e k sz i off=>simp only[den,elOf,h k hs.1]
 |clo f ks=>
  simp only[den]
  congr 2
  refine List.map_congr_left fun k hk=>?_
  simp only[ptrOf,h k (hs k hk).1]
 |tup l=>
  simp only[den]
  congr 2
  refine List.map_congr_left fun x hx=>?_
  cases x with
  |inl x=>rfl
  |inr k=>simp only[eltOf,h k (hs k hx).1]
theorem SV.lt_mono {E E':Env} {n m:Nat} (h:∀k,k<n→E' k=E k) (hnm:n≤m) {s:SV} (hs:s.lt E n):s.lt E' m:=by
 have hp:∀k,k<n→isPtr E k→isPtr E' k:=fun k hk ⟨a,ha⟩=>⟨a,by rw[h k hk];exact ha⟩
 cases s with
 |v x=>trivial
 |p k off=>exact⟨Nat.lt_of_lt_of_le hs.1 hnm,hp _ hs.1 hs.2⟩
 |r k=>
  obtain⟨h1,A,l,c,h2⟩:=hs
  exact⟨Nat.lt_of_lt_of_le h1 hnm,A,l,c,by rw[h k h1];exact h2⟩
 |e k sz i off=>
  obtain⟨h1,a,l,c,h2,h3⟩:=hs
  exact⟨Nat.lt_of_lt_of_le h1 hnm,a,l,c,by rw[h k h1];exact h2,h3⟩
 |clo f ks=>exact fun k hk=>⟨Nat.lt_of_lt_of_le (hs k hk).1 hnm,hp _ (hs k hk).1 (hs k hk).2⟩
 |tup l=>
  intro k hk
  obtain⟨h1,A,l',c,h2⟩:=hs k hk
  exact⟨Nat.lt_of_lt_of_le h1 hnm,A,l',c,by rw[h k h1];exact h2⟩
structure Hp where
 h:Im→(Nat→Prop)→World→Prop
 loc:∀u F w w',h u F w→(∀b,F b→w'.heap[b]?=w.heap[b]?)→Imm u w'→w.heap.size≤w'.heap.size→h u F w'
 mono:∀u u' F w,h u F w→u.le u'→Imm u' w→h u' F w
 fin:∀u F w,h u F w→∀b,F b→b<w.heap.size
inductive Rs where
 |box (t:TypeId) (cs:List SV)
 |row (e:TypeId) (D:Data)
 |sl (D:Data)
 |gen (A:Hp)
 |emp
def Rs.holds (E:Env) (k:Nat) (F:Nat→Prop) (u:Im) (w:World):Rs→Prop
 |.box t cs=>∃b,E k=.pointer (some ⟨b,0,none⟩)∧(∀x,F x↔x=b)∧w.heap[b]?=some (.cells (cs.map (SV.den E)).toArray t (0,0))
 |.row e D=>w.ownsRow 0 e D.cs.length (E k) D.n D.flat∧(∀x,F x↔(E k).ownBlock=some x)
 |.sl D=>Aw u (E k) D∧∀x,¬F x
 |.gen A=>A.h u F w
 |.emp=>∀x,¬F x
def Rs.lt (E:Env) (n:Nat):Rs→Prop
 |.box _ cs=>∀s∈cs,s.lt E n
 |_=>True
theorem Rs.lt_mono {E E':Env} {n m:Nat} (h:∀k,k<n→E' k=E k) (hnm:n≤m) {r:Rs} (hs:r.lt E n):r.lt E' m:=by
 cases r with
 |box t cs=>exact fun s hm=>SV.lt_mono h hnm (hs s hm)
 |_=>trivial
theorem Rs.holds_congr {E E':Env} {n k:Nat} (h:∀k,k<n→E' k=E k) (hk:k<n) {F:Nat→Prop} {u:Im} {w:World} {r:Rs} (hr:r.lt E n) :
 r.holds E k F u w→r.holds E' k F u w:=by
 cases r with
 |box t cs=>
  rintro⟨b,h1,h2,h3⟩
  refine⟨b,by rw[h k hk,h1],h2,?_⟩
  rw[h3]
  congr 3
  exact List.map_congr_left fun s hs=>(SV.den_congr h (hr s hs)).symm
 |row e D=>simp only[holds,h k hk];exact id
 |sl D=>simp only[holds,h k hk];exact id
 |gen A=>exact id
 |emp=>exact id
theorem ownsRow_local {w w':World} {e:TypeId} {size:Nat} {x:Value} {n:Nat} {xs:List Value} (h:w.ownsRow 0 e size x n xs)
 (hl:∀b,x.ownBlock=some b→w'.heap[b]?=w.heap[b]?):w'.ownsRow 0 e size x n xs:=by
 obtain⟨h1,h2⟩:=h
 refine⟨h1,?_⟩
 rcases h2 with h2|⟨g,cap,cur,hv,hg,hh,r⟩
 exact .inl h2
 exact .inr ⟨g,cap,cur,hv,hg,by rw[hl g (by rw[hv];rfl)];exact hh,r⟩
theorem Rs.holds_local {E:Env} {k:Nat} {F:Nat→Prop} {u:Im} {w w':World} {r:Rs} (hw:∀b,F b→w'.heap[b]?=w.heap[b]?) (hi:Imm u w') (hz:w.heap.size≤w'.heap.size) :
 r.holds E k F u w→r.holds E k F u w':=by
 cases r with
 |box t cs=>
  rintro⟨b,h1,h2,h3⟩
  exact⟨b,h1,h2,by rw[hw b ((h2 b).2 rfl)];exact h3⟩
 |row e D=>
  rintro⟨h1,h2⟩
  exact⟨ownsRow_local h1 fun b hb=>hw b ((h2 b).2 hb),h2⟩
 |sl D=>exact id
 |gen A=>exact fun h=>A.loc _ _ _ _ h hw hi hz
 |emp=>exact id
theorem Rs.holds_mono {E:Env} {k:Nat} {F:Nat→Prop} {u u':Im} {w:World} {r:Rs} (hu:u.le u') (hi:Imm u' w) :
 r.holds E k F u w→r.holds E k F u' w:=by
 cases r with
 |box t cs=>exact id
 |row e D=>exact id
 |sl D=>exact fun⟨h1,h2⟩=>⟨h1.mono hu,h2⟩
 |gen A=>exact fun h=>A.mono _ _ _ _ h hu hi
 |emp=>exact id
theorem Rs.holds_fin {E:Env} {k:Nat} {F:Nat→Prop} {u:Im} {w:World} {r:Rs} (h:r.holds E k F u w):∀b,F b→b<w.heap.size:=by
 intro b hb
 cases r with
 |box t cs=>
  obtain⟨c,h1,h2,h3⟩:=h
  rw[(h2 b).1 hb]
  exact(Array.getElem?_eq_some_iff.1 h3).1
 |row e D=>
  exact(h.1.lt b ((h.2 b).1 hb)).2
 |sl D=>exact absurd hb (h.2 b)
 |gen A=>exact A.fin _ _ _ h b hb
 |emp=>exact absurd hb (h b)
def look {α:Type}:List (Nat×α)→Nat→Option α
 |[],_=>none
 |(d,x)::r,n=>match Nat.beq d n with
  |true=>some x
  |false=>look r n
theorem Ac {α:Type} (d:Nat) (x:α) (r:List (Nat×α)) (n:Nat):look ((d,x)::r) n=if d=n then some x else look r n:=by
 simp only[look]
 by_cases h:d=n
 subst h;simp[Nat.beq_refl]
 have:Nat.beq d n=false:=by
  cases hb:Nat.beq d n with
  |false=>rfl
  |true=>exact absurd (Nat.eq_of_beq_eq_true hb) h
 rw[this,if_neg h]
abbrev Own:=List (Nat×Rs)
structure Sat (E:Env) (o:Own) (nx:Nat) (u:Im) (df:List Deferred) (w:World) (f:Nat→Nat→Prop):Prop where
 holds:∀k r,look o k=some r→r.holds E k (f k) u w
 non:∀k,look o k=none→∀b,¬f k b
 apart:∀k k' b,k≠k'→f k b→¬f k' b
 off:∀k b,f k b→u.h b=none
 lt:∀k r,look o k=some r→k<nx∧r.lt E nx
 imm:Imm u w
 marks:∃ds:List Nat,df=ds.map (fun d=>{target:=.collected d,args:=#[]})∧ds.Nodup∧∀d∈ds,w.heap[d]?=some (.deferred (some []))∧u.h d=none∧∀k,¬f k d
theorem Sat.fin {E:Env} {o:Own} {nx:Nat} {u:Im} {df:List Deferred} {w:World} {f:Nat→Nat→Prop} (h:Sat E o nx u df w f) {k b:Nat} (hb:f k b):b<w.heap.size:=by
 cases hl:look o k with
 |none=>exact absurd hb (h.non k hl b)
 |some r=>exact Rs.holds_fin (h.holds k r hl) b hb
theorem Sat.step {E E':Env} {o o':Own} {nx nx':Nat} {u u':Im} {df:List Deferred} {w w':World} {f f':Nat→Nat→Prop} (h:Sat E o nx u df w f)
 (ch:Nat→Prop) (hE:∀k,k<nx→E' k=E k) (hnx:nx≤nx') (hu:u.le u') (hi:Imm u' w') (hz:w.heap.size≤w'.heap.size)
 (hw:∀b,b<w.heap.size→(∀k,ch k→¬f k b)→w'.heap[b]?=w.heap[b]?)
 (hsame:∀k,¬ch k→(look o' k=look o k∧∀b,f' k b↔f k b))
 (hnew:∀k,ch k→(∀r,look o' k=some r→r.holds E' k (f' k) u' w'∧k<nx'∧r.lt E' nx')∧(look o' k=none→∀b,¬f' k b) ∧
  (∀b,f' k b→((∃k0,ch k0∧f k0 b)∨w.heap.size≤b)∧u'.h b=none))
 (hapart:∀k k' b,ch k→ch k'→k≠k'→f' k b→¬f' k' b)
 (huf:∀b o,u'.h b=some o→u.h b=some o∨w.heap.size≤b) :
 Sat E' o' nx' u' df w' f':=by
 have hother:∀k,¬ch k→∀b,f k b→w'.heap[b]?=w.heap[b]?:=fun k hk b hb=>
  hw b (h.fin hb) (fun k0 hc hf=>h.apart k0 k b (fun e=>hk (e▸hc)) hf hb)
 refine⟨?_,?_,?_,?_,?_,hi,?_⟩
 intro k r hl
 by_cases hc:ch k
 exact((hnew k hc).1 r hl).1
 obtain⟨h1,h2⟩:=hsame k hc
 rw[h1]at hl
 have hF:f' k=f k:=funext fun b=>propext (h2 b)
 rw[hF]
 obtain⟨hk,hr⟩:=h.lt k r hl
 have h3:=Rs.holds_congr hE hk hr (h.holds k r hl)
 have hiu:Imm u w':=⟨fun b o hb=>hi.h b o (hu.h b o hb),hi.os.trans hu.os,hi.tape.trans hu.tape,hi.output.trans hu.output,by have:=hi.lo;rw[hu.lo]at this;exact this⟩
 exact Rs.holds_mono hu hi (Rs.holds_local (hother k hc) hiu hz h3)
 intro k hl b hb
 by_cases hc:ch k
 exact(hnew k hc).2.1 hl b hb
 obtain⟨h1,h2⟩:=hsame k hc
 exact h.non k (h1▸hl) b ((h2 b).1 hb)
 intro k k' b hne h1 h2
 by_cases hc:ch k
 by_cases hc':ch k'
 exact hapart k k' b hc hc' hne h1 h2
 have h2':=((hsame k' hc').2 b).1 h2
 rcases((hnew k hc).2.2 b h1).1 with⟨k0,hk0,hf0⟩|hge
 exact h.apart k0 k' b (fun e=>hc' (e▸hk0)) hf0 h2'
 have:=h.fin h2';omega
 have h1':=((hsame k hc).2 b).1 h1
 by_cases hc':ch k'
 rcases((hnew k' hc').2.2 b h2).1 with⟨k0,hk0,hf0⟩|hge
 exact h.apart k0 k b (fun e=>hc (e▸hk0)) hf0 h1'
 have:=h.fin h1';omega
 exact h.apart k k' b hne h1' (((hsame k' hc').2 b).1 h2)
 intro k b hb
 by_cases hc:ch k
 exact((hnew k hc).2.2 b hb).2
 have hb':=((hsame k hc).2 b).1 hb
 cases ho:u'.h b with
 |none=>rfl
 |some x=>
  rcases huf b x ho with h1|h1
  rw[h.off k b hb']at h1;cases h1
  have:=h.fin hb';omega
 intro k r hl
 by_cases hc:ch k
 exact((hnew k hc).1 r hl).2
 rw[(hsame k hc).1]at hl
 exact⟨Nat.lt_of_lt_of_le (h.lt k r hl).1 hnx,Rs.lt_mono hE hnx (h.lt k r hl).2⟩
 obtain⟨ds,h1,h2,h3⟩:=h.marks
 refine⟨ds,h1,h2,fun d hd=>?_⟩
 obtain⟨h4,h5,h6⟩:=h3 d hd
 have hlt:d<w.heap.size:=(Array.getElem?_eq_some_iff.1 h4).1
 refine⟨(hw d hlt (fun k _=>h6 k)).trans h4,?_,fun k hk=>?_⟩
 cases ho:u'.h d with
 |none=>rfl
 |some x=>
  rcases huf d x ho with h7|h7
  rw[h5]at h7;cases h7
  omega
 by_cases hc:ch k
 rcases((hnew k hc).2.2 d hk).1 with⟨k0,_,hf0⟩|hge
 exact h6 k0 hf0
 omega
 exact h6 k (((hsame k hc).2 d).1 hk)
inductive Shp where
 |int (k:IntKind)
 |bool
 |str
 |strct (fs:List (Nat×Nat))
 |slice (e:Nat)
 |arr (n e:Nat)
 |other
def shpIs:TypeDesc→Shp→Prop
 |d,.int k=>d=.int k
 |d,.bool=>d=.bool
 |d,.str=>d=.string
 |d,.strct l=>∃fs,d=.struct fs∧fs.toList.map (fun f=>(f.offset,f.type))=l
 |d,.slice e=>d=.slice e
 |d,.arr n e=>d=.array n e
 |d,.other=>(∀fs,d≠.struct fs)∧∀n e,d≠.array n e
structure TI where
 sz:Nat
 zero:List Value
 shp:Shp
 cmp:Bool
def TI.agg (t:TI):Bool:=match t.shp with
 |.strct _=>true
 |.arr _ _=>true
 |_=>false
def TI.zv (t:TI):Value:=match t.agg with
 |true=>.agg t.zero.toArray
 |false=>t.zero.headD undef
structure TIok (P:Program) (t:Nat) (ti:TI):Prop where
 und:∃d,P.underlying t=some d∧shpIs d ti.shp
 info:(P.info? t).map (fun i=>(i.size,i.zero))=some (ti.sz,some ti.zv)
 len:ti.zero.length=ti.sz
 one:ti.agg=false→ti.sz=1∧ti.zv.cells=ti.zero.toArray
 cmp:ti.cmp=true→P.stoodInHeld t=false∧P.eqGuardType P.depth t=false∧(P.fieldsOf t).toList.all (fun f=>f.name != "_") = true
theorem TIok.isInt {P:Program} {t:Nat} {ti:TI} {k:IntKind} (h:TIok P t ti) (hs:ti.shp=.int k):P.underlying t=some (.int k):=by
 obtain⟨d,h1,h2⟩:=h.und;rw[hs]at h2;rw[h1,show d=_ from h2]
theorem TIok.isBool {P:Program} {t:Nat} {ti:TI} (h:TIok P t ti) (hs:ti.shp=.bool):P.underlying t=some .bool:=by
 obtain⟨d,h1,h2⟩:=h.und;rw[hs]at h2;rw[h1,show d=_ from h2]
theorem TIok.isStr {P:Program} {t:Nat} {ti:TI} (h:TIok P t ti) (hs:ti.shp=.str):P.underlying t=some .string:=by
 obtain⟨d,h1,h2⟩:=h.und;rw[hs]at h2;rw[h1,show d=_ from h2]
theorem TIok.isSlice {P:Program} {t:Nat} {ti:TI} {e:Nat} (h:TIok P t ti) (hs:ti.shp=.slice e):P.underlying t=some (.slice e):=by
 obtain⟨d,h1,h2⟩:=h.und;rw[hs]at h2;rw[h1,show d=_ from h2]
theorem TIok.isStrct {P:Program} {t:Nat} {ti:TI} {l:List (Nat×Nat)} (h:TIok P t ti) (hs:ti.shp=.strct l) :
 ∃fs,P.underlying t=some (.struct fs)∧fs.toList.map (fun f=>(f.offset,f.type))=l:=by
 obtain⟨d,h1,h2⟩:=h.und;rw[hs]at h2
 obtain⟨fs,h3,h4⟩:=h2
 exact⟨fs,by rw[h1,h3],h4⟩
abbrev TT:=List (Nat×TI)
def TOk (P:Program) (T:TT):Prop:=∀t ti,look T t=some ti→TIok P t ti
theorem TOk.nil (P:Program):TOk P []:=fun t ti h=>by cases h
theorem TOk.cons {P:Program} {T:TT} {t:Nat} {ti:TI} (h:TIok P t ti) (k:TOk P T):TOk P ((t,ti)::T):=fun t' ti' h'=>by
 rw[Ac]at h'
 split at h'
 rename_i e;subst e;cases h';exact h
 exact k t' ti' h'
theorem TI.zv_cells {P:Program} {t:Nat} {ti:TI} (h:TIok P t ti):ti.zv.cells=ti.zero.toArray:=by
 cases ha:ti.agg with
 |true=>simp[TI.zv,ha,Value.cells]
 |false=>exact(h.one ha).2
theorem TIok.get {P:Program} {t:Nat} {ti:TI} (h:TIok P t ti):∃i,P.info? t=some i∧i.size=ti.sz∧i.zero=some ti.zv:=by
 have:=h.info
 cases hi:P.info? t with
 |none=>rw[hi]at this;cases this
 |some i=>
  rw[hi]at this
  simp only[Option.map_some,Option.some.injEq,Prod.mk.injEq]at this
  exact⟨i,rfl,this.1,this.2⟩
section
variable {P:Program} {t:Nat} {ti:TI} (w:World)
theorem Ca (h:TIok P t ti):(sizeOf t).run P w=.ok ti.sz w:=by
 obtain⟨i,h1,h2,h3⟩:=h.get
 simp[sizeOf,typeInfo,h1,h2]
theorem run_zeroValue (h:TIok P t ti):(zeroValue t).run P w=.ok ti.zv w:=by
 obtain⟨i,h1,h2,h3⟩:=h.get
 simp[zeroValue,typeInfo,h1,h3]
theorem run_isAgg (h:TIok P t ti):(isAgg t).run P w=.ok ti.agg w:=by
 obtain⟨d,h1,h2⟩:=h.und
 simp only[isAgg,Sem.run_bind,run_underlying h1,Result.andThen_ok,TI.agg]
 cases hs:ti.shp<;>rw[hs]at h2<;>simp only[shpIs]at h2
 case strct l=>obtain⟨fs,rfl,_⟩:=h2;rfl
 case other=>
  cases d<;>first|rfl|exact absurd rfl (h2.1 _)|exact absurd rfl (h2.2 _ _)
 all_goals (subst h2;rfl)
end
abbrev Kn:=List (Nat×SV)
abbrev Gd:=List (Nat×Bool)
structure St where
 kn:Kn
 gk:List (Nat×(Gd×SV))
 ow:Own
 nx:Nat
def gs (tm:Array Value) (g:Gd):Prop:=∀x∈g,tm[x.1]?=some (.bool x.2)
structure Agr (N:Nat) (E:Env) (st:St) (tm:Array Value):Prop where
 size:tm.size=N
 kn:∀d s,look st.gk d=none→look st.kn d=some s→tm[d]?=some (s.den E)
 gk:∀d g s,look st.gk d=some (g,s)→(gs tm g→tm[d]?=some (s.den E))∧(¬gs tm g→tm[d]?=some undef)
 klt:∀d s,look st.kn d=some s→s.lt E st.nx
 glt:∀d g s,look st.gk d=some (g,s)→gs tm g→s.lt E st.nx
structure Cx where
 P:Program
 ro:Option Nat
 N:Nat
structure Ok (C:Cx) (E:Env) (st:St) (u:Im) (a:Act) (w:World):Prop where
 agr:Agr C.N E st a.tmps
 sat:∃f,Sat E st.ow st.nx u a.defers w f
def bEq:Bool→Bool→Bool
 |true,b=>b
 |false,true=>false
 |false,false=>true
theorem bEq_iff (a b:Bool):bEq a b=true↔a=b:=by cases a<;>cases b<;>simp[bEq]
def memG (x:Nat×Bool):Gd→Bool
 |[]=>false
 |y::r=>match Nat.beq x.1 y.1 with
  |true=>match bEq x.2 y.2 with
   |true=>true
   |false=>memG x r
  |false=>memG x r
theorem memG_mem {x:Nat×Bool}:∀ {g:Gd},memG x g=true→x∈g
 |[],h=>by simp[memG]at h
 |y::r,h=>by
  simp only[memG]at h
  split at h
  rename_i h1
  split at h
  rename_i h2
  have e1:=Nat.eq_of_beq_eq_true h1
  have e2:=(bEq_iff _ _).1 h2
  have:x=y:=Prod.ext e1 e2
  subst this
  exact List.mem_cons_self ..
  exact List.mem_cons_of_mem _ (memG_mem h)
  exact List.mem_cons_of_mem _ (memG_mem h)
def subG:Gd→Gd→Bool
 |[],_=>true
 |x::r,g=>match memG x g with
  |true=>subG r g
  |false=>false
theorem subG_gs {g:Gd} {tm:Array Value} (hg:gs tm g):∀ {gx:Gd},subG gx g=true→gs tm gx
 |[],_=>fun x hx=>by cases hx
 |x::r,h=>by
  simp only[subG]at h
  split at h
  rename_i h1
  intro y hy
  rcases List.mem_cons.1 hy with rfl|hy
  exact hg _ (memG_mem h1)
  exact subG_gs hg h y hy
  cases h
def opd (st:St) (g:Gd):Operand→Option SV
 |.tmp t=>match look st.gk t with
  |some (gx,s)=>match subG gx g with
   |true=>some s
   |false=>none
  |none=>look st.kn t
 |.const x=>some (.v x)
 |.global x=>some (.v (.pointer (some ⟨x,0,none⟩)))
 |.func f=>some (.v (.func (.func f) #[] #[]))
theorem Al {N:Nat} {E:Env} {st:St} {a:Act} {g:Gd} {x:Operand} {s:SV} (h:Agr N E st a.tmps) (hg:gs a.tmps g) (hx:opd st g x=some s) :
 a.eval x=s.den E∧s.lt E st.nx:=by
 cases x with
 |tmp t=>
  simp only[opd]at hx
  split at hx
  rename_i gx s' hl
  split at hx
  rename_i hs
  cases hx
  have:=(h.gk t gx s hl).1 (subG_gs hg hs)
  exact⟨by simp[Act.eval,this],h.glt t gx s hl (subG_gs hg hs)⟩
  cases hx
  rename_i hl
  have:=h.kn t s hl hx
  exact⟨by simp[Act.eval,this],h.klt t s hx⟩
 |const c=>cases hx;exact⟨rfl,trivial⟩
 |global c=>cases hx;exact⟨rfl,trivial⟩
 |func c=>cases hx;exact⟨rfl,trivial⟩
def bt (s:ByteArray) (i:Int):Int:=((s.data.toList.getD i.toNat 0).toNat:Int)
def sub (s:ByteArray) (a b:Int):ByteArray:=s.extract a.toNat b.toNat
theorem bt_range (s:ByteArray) (i:Int):0≤bt s i∧bt s i≤255:=by
 unfold bt;have:=(s.data.toList.getD i.toNat 0).toNat_lt;omega
theorem bt_eq {s:ByteArray} {i:Nat} (h:i<s.size):((s[i]).toNat:Int)=bt s i:=by
 unfold bt
 simp only[Int.toNat_natCast]
 rw[List.getD_eq_getElem?_getD,List.getElem?_eq_getElem (by simpa using h)]
 rfl
theorem bt_eq' {s:ByteArray} {i:Int} (h0:0≤i) (h:i<s.size):s[i.toNat]?=some (s[i.toNat]'(by omega))∧((s[i.toNat]'(by omega)).toNat:Int)=bt s i:=by
 refine⟨getElem?_pos s i.toNat (by show i.toNat<s.size;omega),?_⟩
 rw[bt_eq]
 congr 1
 omega
theorem sub_size {s:ByteArray} {a b:Int} (h0:0≤a) (h1:a≤b) (h2:b≤s.size):((sub s a b).size:Int)=b-a:=by
 unfold sub
 rw[ByteArray.size_extract]
 omega
def fitsL:IntKind→Int→List Prop
 |.i64,n=>[-9223372036854775808≤n,n≤9223372036854775807]
 |.u8,n=>[0≤n,n≤255]
 |.i32,n=>[-2147483648≤n,n≤2147483647]
 |.u32,n=>[0≤n,n≤4294967295]
 |.u64,n=>[0≤n,n≤18446744073709551615]
 |.i8,n=>[-128≤n,n≤127]
 |.i16,n=>[-32768≤n,n≤32767]
 |.u16,n=>[0≤n,n≤65535]
def allP:List Prop→Prop
 |[]=>True
 |p::r=>p∧allP r
theorem wrap_fits {k:IntKind} {n:Int} (h:allP (fitsL k n)):k.wrap n=n:=by
 cases k<;>simp only[fitsL,allP]at h<;>obtain⟨h1,h2,_⟩:=h<;>simp[IntKind.wrap,IntKind.bits,IntKind.signed]<;>omega
def forceL {α:Type} {β:Type}:List α→(List α→β)→β
 |[],k=>k []
 |x::r,k=>forceL r (fun r'=>k (x::r'))
theorem forceL_eq {α:Type} {β:Type}:∀(l:List α) (k:List α→β),forceL l k=k l
 |[],_=>rfl
 |x::r,k=>by simp only[forceL];rw[forceL_eq r]
inductive Eff where
 |val (s:SV) (side:List Prop)
 |stuck
def kEq:IntKind→IntKind→Bool
 |.i64,.i64=>true
 |.u8,.u8=>true
 |.i32,.i32=>true
 |.u32,.u32=>true
 |.u64,.u64=>true
 |.i8,.i8=>true
 |.i16,.i16=>true
 |.u16,.u16=>true
 |_,_=>false
theorem kEq_eq {a b:IntKind} (h:kEq a b=true):a=b:=by cases a<;>cases b<;>first|rfl|cases h
def eqL (T:TT):Nat→List (Nat×Nat)→List Value→List Value→Option Bool
 |0,_,_,_=>none
 |_+1,[],_,_=>some true
 |n+1,(off,ft)::r,xs,ys=>match look T ft,eqL T n r xs ys with
  |some ti,some rest=>match ti.shp with
   |.int _=>match xs[off]?,ys[off]? with
    |some (.int k a),some (.int k' b)=>match kEq k k' with
     |true=>some (decide (a=b)&&rest)
     |false=>none
    |_,_=>none
   |.bool=>match xs[off]?,ys[off]? with
    |some (.bool a),some (.bool b)=>some (decide (a=b)&&rest)
    |_,_=>none
   |.str=>match xs[off]?,ys[off]? with
    |some (.string a),some (.string b)=>some (decide (a=b)&&rest)
    |_,_=>none
   |.strct fs=>match ti.cmp with
    |true=>match eqL T n fs ((xs.drop off).take ti.sz) ((ys.drop off).take ti.sz)with
     |some b=>some (b&&rest)
     |none=>none
    |false=>none
   |_=>none
  |_,_=>none
def effBin (T:TT) (xt:Nat) (op:BinOp) (x y:Option SV):Eff:=
 match x,y with
 |some (.v (.int k a)),some (.v (.int k' b))=>
  match kEq k k' with
  |true=>match op with
   |.add=>.val (.v (.int k (a+b))) (fitsL k (a+b))
   |.sub=>.val (.v (.int k (a-b))) (fitsL k (a-b))
   |.mul=>.val (.v (.int k (a*b))) (fitsL k (a*b))
   |.quo=>.val (.v (.int k (a / b))) ((0≤a)::(0<b)::fitsL k (a / b))
   |.rem=>.val (.v (.int k (a%b))) [0≤a,0<b]
   |.lss=>.val (.v (.bool (decide (a<b)))) []
   |.leq=>.val (.v (.bool (decide (a≤b)))) []
   |.gtr=>.val (.v (.bool (decide (b<a)))) []
   |.geq=>.val (.v (.bool (decide (b≤a)))) []
   |.eql=>.val (.v (.bool (decide (a=b)))) []
   |.neq=>.val (.v (.bool (decide (a≠b)))) []
   |_=>.stuck
  |false=>.stuck
 |some (.v (.string a)),some (.v (.string b))=>
  match op with
  |.eql=>.val (.v (.bool (decide (a=b)))) []
  |.neq=>.val (.v (.bool (decide (a≠b)))) []
  |.add=>.val (.v (.string (a++b))) [a.size+b.size≤9223372036854775807]
  |_=>.stuck
 |some (.v (.bool a)),some (.v (.bool b))=>
  match look T xt with
  |some ti=>match ti.shp,op with
   |.bool,.eql=>.val (.v (.bool (decide (a=b)))) []
   |.bool,.neq=>.val (.v (.bool (decide (a≠b)))) []
   |_,_=>.stuck
  |none=>.stuck
 |some (.v (.agg xs)),some (.v (.agg ys))=>
  match look T xt with
  |some ti=>match ti.shp,ti.cmp with
   |.strct fs,true=>match eqL T 40 fs xs.toList ys.toList,op with
    |some b,.eql=>.val (.v (.bool b)) []
    |some b,.neq=>.val (.v (.bool (!b))) []
    |_,_=>.stuck
   |_,_=>.stuck
  |none=>.stuck
 |_,_=>.stuck
def effUn (op:UnOp) (x:Option SV):Eff:=
 match op,x with
 |.not,some (.v (.bool b))=>.val (.v (.bool (!b))) []
 |.neg,some (.v (.int k a))=>.val (.v (.int k (-a))) (fitsL k (-a))
 |_,_=>.stuck
def effIndex (T:TT) (t:Nat) (x i:Option SV):Eff:=
 match x,i,look T t with
 |some (.v (.string s)),some (.v (.int _ n)),some ti=>match ti.shp with
  |.str=>.val (.v (.int .u8 (bt s n))) [0≤n,n<s.size]
  |_=>.stuck
 |_,_,_=>.stuck
def Rs.data:Rs→Option Data
 |.row _ D=>some D
 |.sl D=>some D
 |_=>none
def effLen (T:TT) (st:St) (c:Array TypeId) (x:Option SV):Eff:=
 match c.toList with
 |[t]=>match look T t with
  |some ti=>match x,ti.shp with
   |some (.v (.string s)),.str=>.val (.v (.int .i64 s.size)) []
   |some (.v (.slice _ n _)),.slice _=>.val (.v (.int .i64 n)) []
   |some (.r k),.slice _=>match look st.ow k with
    |some (.row _ D)=>.val (.v (.int .i64 D.n)) []
    |some (.sl D)=>.val (.v (.int .i64 D.n)) []
    |_=>.stuck
   |_,_=>.stuck
  |none=>.stuck
 |_=>.stuck
def effExtract (x:Option SV) (i:Nat):Eff:=
 match x with
 |some (.v (.tuple vs))=>match vs.toList[i]? with
  |some y=>.val (.v y) []
  |none=>.stuck
 |some (.tup l)=>match l[i]? with
  |some (.inl y)=>.val (.v y) []
  |some (.inr k)=>.val (.r k) []
  |none=>.stuck
 |_=>.stuck
def fld (T:TT) (t f:Nat):Option (Nat×TI):=
 match look T t with
 |some ti=>match ti.shp with
  |.strct fs=>match fs[f]? with
   |some fd=>match look T fd.2 with
    |some tf=>some (fd.1,tf)
    |none=>none
   |none=>none
  |_=>none
 |none=>none
def effField (T:TT) (t:Nat) (x:Option SV) (f:Nat):Eff:=
 match x,fld T t f with
 |some (.v (.agg cs)),some (off,tf)=>match tf.agg with
  |true=>match Nat.ble (off+tf.sz) cs.size with
   |true=>forceL ((cs.toList.drop off).take tf.sz) (fun l=>.val (.v (.agg l.toArray)) [])
   |false=>.stuck
  |false=>match cs.toList[off]? with
   |some y=>.val (.v y) []
   |none=>.stuck
 |_,_=>.stuck
def effFieldAddr (T:TT) (t:Nat) (x:Option SV) (f:Nat):Eff:=
 match x,fld T t f with
 |some (.p k off),some (fo,tf)=>match Nat.beq tf.sz 0 with
  |true=>.stuck
  |false=>.val (.p k (off+fo)) []
 |some (.e k sz i off),some (fo,tf)=>match Nat.beq tf.sz 0 with
  |true=>.stuck
  |false=>.val (.e k sz i (off+fo)) []
 |_,_=>.stuck
def effNil (x:Option SV):Eff:=
 match x with
 |some (.p k off)=>.val (.p k off) []
 |some (.e k sz i off)=>.val (.e k sz i off) []
 |some (.clo f ks)=>.val (.clo f ks) []
 |some (.v (.pointer (some a)))=>.val (.v (.pointer (some a))) []
 |some (.v (.func (.func f) x y))=>.val (.v (.func (.func f) x y)) []
 |_=>.stuck
def effIndexAddr (T:TT) (st:St) (t:Nat) (x i:Option SV):Eff:=
 match x,i,look T t with
 |some (.r k),some (.v (.int _ n)),some ti=>match ti.shp with
  |.slice e=>match look T e,look st.ow k with
   |some te,some (.row _ D)=>.val (.e k te.sz n 0) [0≤n,n<D.n]
   |some te,some (.sl D)=>.val (.e k te.sz n 0) [0≤n,n<D.n]
   |_,_=>.stuck
  |_=>.stuck
 |_,_,_=>.stuck
def plain:List SV→Option (List Value)
 |[]=>some []
 |.v x::r=>match plain r with
  |some l=>some (x::l)
  |none=>none
 |_::_=>none
def effLoad (T:TT) (st:St) (t:Nat) (x:Option SV):Eff:=
 match x,look T t with
 |some (.p k off),some ti=>match look st.ow k with
  |some (.box _ cs)=>match ti.agg with
   |true=>match Nat.ble (off+ti.sz) cs.length with
    |true=>match plain ((cs.drop off).take ti.sz)with
     |some l=>.val (.v (.agg l.toArray)) []
     |none=>.stuck
    |false=>.stuck
   |false=>match cs[off]? with
    |some s=>.val s []
    |none=>.stuck
  |_=>.stuck
 |some (.e k sz i off),some ti=>match look st.ow k with
  |some r=>match r.data with
   |some D=>match Nat.beq sz D.cs.length with
    |true=>match ti.agg with
     |true=>match Nat.ble (off+ti.sz) D.cs.length with
      |true=>forceL (((D.cs.drop off).take ti.sz).map (fun f=>f i)) (fun l=>.val (.v (.agg l.toArray)) [])
      |false=>.stuck
     |false=>match D.cs[off]? with
      |some f=>.val (.v (f i)) []
      |none=>.stuck
    |false=>.stuck
   |none=>.stuck
  |none=>.stuck
 |_,_=>.stuck
def effSlice (T:TT) (t:Nat) (x lo hi:Option SV):Eff:=
 match x,lo,hi,look T t with
 |some (.v (.string s)),some (.v (.int _ a)),some (.v (.int _ b)),some ti=>match ti.shp with
  |.str=>.val (.v (.string (sub s a b))) [0≤a,a≤b,b≤s.size]
  |_=>.stuck
 |_,_,_,_=>.stuck
def effSliceTo (T:TT) (t:Nat) (x hi:Option SV):Eff:=
 match x,hi,look T t with
 |some (.v (.string s)),some (.v (.int _ b)),some ti=>match ti.shp with
  |.str=>.val (.v (.string (sub s 0 b))) [0≤b,b≤s.size]
  |_=>.stuck
 |_,_,_=>.stuck
def effSliceFrom (T:TT) (t:Nat) (x lo:Option SV):Eff:=
 match x,lo,look T t with
 |some (.v (.string s)),some (.v (.int _ a)),some ti=>match ti.shp with
  |.str=>.val (.v (.string (sub s a s.size))) [0≤a,a≤s.size]
  |_=>.stuck
 |_,_,_=>.stuck
def effConv (T:TT) (src dst:Nat) (x:Option SV):Eff:=
 match x,look T src,look T dst with
 |some (.v (.int _ n)),some _,some td=>match td.shp with
  |.int k'=>.val (.v (.int k' n)) (fitsL k' n)
  |_=>.stuck
 |some (.v (.string s)),some _,some td=>match td.shp with
  |.str=>.val (.v (.string s)) []
  |_=>.stuck
 |_,_,_=>.stuck
def ptrs0:List (Option SV)→Option (List Nat)
 |[]=>some []
 |some (.p k 0)::r=>match ptrs0 r with
  |some l=>some (k::l)
  |none=>none
 |_::_=>none
def effFunc (fn:Fn) (first captured:List (Option SV)):Eff:=
 match fn,first,ptrs0 captured with
 |.func f,[],some ks=>.val (.clo f ks) []
 |_,_,_=>.stuck
def effPick (st:St) (g:Gd) (c a b:Operand):Eff:=
 match c,opd st g c with
 |.tmp tc,some (.v (.bool x))=>
  match a,b with
  |.const (.bool true),b=>match opd st ((tc,false)::g) b with
   |some (.v (.bool y))=>.val (.v (.bool (x||y))) []
   |_=>.stuck
  |a,.const (.bool false)=>match opd st ((tc,true)::g) a with
   |some (.v (.bool y))=>.val (.v (.bool (x&&y))) []
   |_=>.stuck
  |a,b=>match opd st ((tc,true)::g) a,opd st ((tc,false)::g) b with
   |some (.v (.bool y)),some (.v (.bool z))=>.val (.v (.bool (if x then y else z))) []
   |_,_=>.stuck
 |_,_=>.stuck
def oneB:Value→Bool
 |.agg _=>false
 |.tuple _=>false
 |_=>true
def fillIn (T:TT) (t:Nat):List Value→List (Nat×Option SV)→Option (List Value)
 |cs,[]=>some cs
 |cs,(i,s)::r=>match s,fld T t i with
  |some (.v x),some (off,tf)=>match tf.agg with
   |true=>match x with
    |.agg ys=>match Nat.beq ys.toList.length tf.sz with
     |true=>match Nat.ble (off+ys.toList.length) cs.length with
      |true=>forceL (cs.take off++ys.toList++cs.drop (off+ys.toList.length)) (fun cs'=>fillIn T t cs' r)
      |false=>none
     |false=>none
    |_=>none
   |false=>match oneB x with
    |true=>match Nat.ble (off+1) cs.length with
     |true=>forceL (cs.take off++[x]++cs.drop (off+1)) (fun cs'=>fillIn T t cs' r)
     |false=>none
    |false=>none
  |_,_=>none
def allF (T:TT):List (Nat×Nat)→Bool
 |[]=>true
 |f::r=>match look T f.2 with
  |some _=>allF T r
  |none=>false
def effBuild (T:TT) (t:Nat) (ps:List (Nat×Option SV)):Eff:=
 match look T t with
 |some ti=>match ti.shp with
  |.strct fs=>match allF T fs with
   |true=>match fillIn T t ti.zero ps with
    |some l=>.val (.v (.agg l.toArray)) []
    |none=>.stuck
   |false=>.stuck
  |_=>.stuck
 |none=>.stuck
def eff (T:TT) (st:St) (g:Gd):Op→Eff
 |.move x=>match opd st g x with
  |some s=>.val s []
  |none=>.stuck
 |.assign x=>match opd st g x with
  |some s=>.val s []
  |none=>.stuck
 |.pick c a b=>effPick st g c a b
 |.binOp op t x y _=>effBin T t op (opd st g x) (opd st g y)
 |.unOp op _ x=>effUn op (opd st g x)
 |.index t x i=>effIndex T t (opd st g x) (opd st g i)
 |.extract t i=>effExtract (opd st g t) i
 |.field t x f=>effField T t (opd st g x) f
 |.fieldAddr t x f=>effFieldAddr T t (opd st g x) f
 |.indexAddr t x i=>effIndexAddr T st t (opd st g x) (opd st g i)
 |.load t x=>effLoad T st t (opd st g x)
 |.nilCheck x=>effNil (opd st g x)
 |.convert t d x=>effConv T t d (opd st g x)
 |.makeFunc fn first captured=>effFunc fn (first.toList.map (opd st g)) (captured.toList.map (opd st g))
 |.build t ps=>effBuild T t (ps.toList.map (fun x=>(x.1,opd st g x.2)))
 |.slice t x (some lo) (some hi) none=>effSlice T t (opd st g x) (opd st g lo) (opd st g hi)
 |.slice t x none (some hi) none=>effSliceTo T t (opd st g x) (opd st g hi)
 |.slice t x (some lo) none none=>effSliceFrom T t (opd st g x) (opd st g lo)
 |.call c=>match c.callee,c.args.toList with
  |.builtin .len,[x]=>effLen T st c.argTypes (opd st g x)
  |_,_=>.stuck
 |_=>.stuck
section sound
variable {C:Cx} {T:TT} {E:Env} {st:St} {u:Im} {a:Act} {w:World} {g:Gd}
theorem run_part' {t off:Nat} {ti:TI} (h:TIok C.P t ti) (cs:Array Value):(part t cs off).run C.P w =
 if ti.agg then .ok (.agg (cs.extract off (off+ti.sz))) w else match cs[off]? with
  |some v=>.ok v w
  | none=>.halt (.stuck "part: no such cell") w := by
 unfold part
 simp only[Sem.run_bind,run_isAgg w h,Result.andThen_ok]
 cases ti.agg
 simp only[Bool.false_eq_true,if_false]
 cases cs[off]?<;>simp[stuck]
 simp only[if_true,Sem.run_bind,Ca w h,Result.andThen_ok]
 rfl
theorem und_fieldsOf {P:Program} {t:Nat} {fs:Array Field} (h:P.underlying t=some (.struct fs)):P.underlying t=some (.struct (P.fieldsOf t))∧P.fieldsOf t=fs:=by
 have:P.fieldsOf t=fs:=by simp[Program.fieldsOf,h]
 exact⟨by rw[this];exact h,this⟩
theorem beqS (a b:ByteArray):(a.toList==b.toList)=decide (a=b):=by
 by_cases h:a=b
 subst h;simp
 have:a.toList≠b.toList:=fun e=>h (by
  have h1:a.data=b.data:=by simpa[ByteArray.toList_eq]using e
  exact ByteArray.ext h1)
 simp[h,this]
theorem eqL_sound (hT:TOk C.P T):∀(n d:Nat) (fs:List Field) (xs ys:Array Value) (b:Bool),n≤d→(∀f∈fs,f.name ≠ "_") →
 eqL T n (fs.map (fun f=>(f.offset,f.type))) xs.toList ys.toList=some b→(Op.eqFields d xs ys fs).run C.P w=.ok b w:=by
 intro n
 induction n with
 |zero=>intro d fs xs ys b _ _ h;simp[eqL]at h
 |succ n ih=>
  intro d fs xs ys b hd hname h
  cases fs with
  |nil=>simp only[List.map_nil,eqL]at h;cases h;simp[Op.eqFields]
  |cons f r=>
   obtain⟨d',rfl⟩:∃d',d=d'+1:=⟨d-1,by omega⟩
   simp only[List.map_cons,eqL]at h
   split at h
   rename_i ti rest hl hr
   have hti:=hT _ _ hl
   have ihr:=ih (d'+1) r xs ys rest (by omega) (fun f hf=>hname f (List.mem_cons_of_mem _ hf)) hr
   have hnm:=hname f (List.mem_cons_self ..)
   have step:∀(x y:Value) (q:Bool),(part f.type xs f.offset).run C.P w=.ok x w→(part f.type ys f.offset).run C.P w=.ok y w →
    (Op.equalIn (d'+1) f.type x y).run C.P w=.ok q w→(Op.eqFields (d'+1) xs ys (f::r)).run C.P w=.ok (q&&rest) w:=by
    intro x y q h1 h2 h3
    simp only[Op.eqFields]
    rw[if_pos hnm]
    simp only[Sem.run_bind,h1,Result.andThen_ok,h2,h3]
    cases q
    simp
    simpa using ihr
   split at h
   rename_i k hs
   have hag:ti.agg=false:=by simp[TI.agg,hs]
   split at h
   rename_i k1 p k2 q hx hy
   split at h
   rename_i hk
   obtain rfl:=kEq_eq hk
   cases h
   refine step (.int k1 p) (.int k1 q) _ ?_ ?_ ?_
   rw[run_part' hti,hag];simp at hx;simp[hx]
   rw[run_part' hti,hag];simp at hy;simp[hy]
   rw[run_equalIn_int w d' f.type k1 k p q (hti.isInt hs)];rfl
   cases h
   cases h
   rename_i hs
   have hag:ti.agg=false:=by simp[TI.agg,hs]
   split at h
   rename_i p q hx hy
   cases h
   refine step (.bool p) (.bool q) _ ?_ ?_ ?_
   rw[run_part' hti,hag];simp at hx;simp[hx]
   rw[run_part' hti,hag];simp at hy;simp[hy]
   rw[run_equalIn_bool w d' f.type p q (hti.isBool hs)];cases p<;>cases q<;>rfl
   cases h
   rename_i hs
   have hag:ti.agg=false:=by simp[TI.agg,hs]
   split at h
   rename_i p q hx hy
   cases h
   refine step (.string p) (.string q) _ ?_ ?_ ?_
   rw[run_part' hti,hag];simp at hx;simp[hx]
   rw[run_part' hti,hag];simp at hy;simp[hy]
   rw[run_equalIn_string w d' f.type p q (hti.isStr hs),beqS]
   cases h
   rename_i l hs
   have hag:ti.agg=true:=by simp[TI.agg,hs]
   split at h
   rename_i hc
   split at h
   rename_i q hq
   cases h
   obtain⟨fds,hu,hmap⟩:=hti.isStrct hs
   obtain⟨hu',hfd⟩:=und_fieldsOf hu
   obtain⟨c1,c2,c3⟩:=hti.cmp hc
   rw[hfd]at c3
   refine step _ _ _ (by rw[run_part' hti,if_pos hag]) (by rw[run_part' hti,if_pos hag]) ?_
   rw[run_equalIn_struct w d' f.type _ _ hu' c1,hfd]
   refine ih d' fds.toList _ _ q (by omega) (fun f hf=>by have:=List.all_eq_true.1 c3 f hf;simpa using this) ?_
   rw[hmap]
   simpa[List.take_drop]using hq
   cases h
   cases h
   cases h
   cases h
theorem bin_sound (hT:TOk C.P T) {op:BinOp} {xt:Nat} {x y:Operand} {s:SV} {side:List Prop} {sx sy:Option SV}
 (hx:∀z,sx=some z→a.eval x=z.den E) (hy:∀z,sy=some z→a.eval y=z.den E)
 (he:effBin T xt op sx sy=.val s side) (hs:allP side) :
 (do eqGuard op xt x y (a.eval x) (a.eval y);binOp op xt (a.eval x) (a.eval y):Sem Value).run C.P w=.ok (s.den E) w∧∀n,s.lt E n:=by
 unfold effBin at he
 split at he
 rename_i k p k' q
 split at he
 rename_i hk
 obtain rfl:=kEq_eq hk
 have e1:=hx _ rfl
 have e2:=hy _ rfl
 simp only[SV.den]at e1 e2
 rw[e1,e2]
 have eg:(eqGuard op xt x y (.int k p) (.int k q)).run C.P w=.ok () w:=by
  unfold eqGuard;cases op<;>simp
 simp only[Sem.run_bind,eg,Result.andThen_ok]
 split at he<;>(try cases he)<;>refine⟨?_,fun _=>trivial⟩
 simp[binOp,Op.intArith,wrap_fits hs,SV.den]
 simp[binOp,Op.intArith,wrap_fits hs,SV.den]
 simp[binOp,Op.intArith,wrap_fits hs,SV.den]
 obtain⟨h0,h1,h2⟩:=hs
 have hq:¬q=0:=by omega
 have:p.tdiv q=p / q:=Int.tdiv_eq_ediv_of_nonneg h0
 simp[binOp,Op.intDiv,hq,this,wrap_fits h2,SV.den]
 obtain⟨h0,h1,_⟩:=hs
 have hq:¬q=0:=by omega
 have:p.tmod q=p%q:=Int.tmod_eq_emod_of_nonneg h0
 simp[binOp,Op.intDiv,hq,this,SV.den]
 simp[binOp,Op.intCmp,SV.den]
 simp[binOp,Op.intCmp,SV.den]
 simp[binOp,Op.intCmp,SV.den]
 simp[binOp,Op.intCmp,SV.den]
 simp[binOp,Op.intCmp,SV.den];rfl
 simp[binOp,Op.intCmp,SV.den];by_cases h:p=q<;>simp[h]
 cases he
 rename_i p q
 have e1:=hx _ rfl
 have e2:=hy _ rfl
 simp only[SV.den]at e1 e2
 rw[e1,e2]
 have eg:(eqGuard op xt x y (.string p) (.string q)).run C.P w=.ok () w:=by
  unfold eqGuard;cases op<;>simp
 simp only[Sem.run_bind,eg,Result.andThen_ok]
 have hl:(p.toList==q.toList)=decide (p=q):=by
  by_cases h:p=q
  subst h;simp
  have:p.toList≠q.toList:=fun e=>h (by
   have h1:p.data=q.data:=by simpa[ByteArray.toList_eq]using e
   exact ByteArray.ext h1)
  simp[h,this]
 split at he<;>(try cases he)<;>refine⟨?_,fun _=>trivial⟩
 simp[binOp,Op.stringOp,hl,SV.den]
 simp[binOp,Op.stringOp,hl,SV.den]
 obtain⟨h0,_⟩:=hs
 have hm:IntKind.i64.max=9223372036854775807:=by decide
 have hn:¬((p.size+q.size:Nat):Int) > IntKind.i64.max:=by rw[hm];omega
 simp only[binOp,Op.stringOp,SV.den]
 rw[if_neg hn]
 rfl
 rename_i p q
 have e1:=hx _ rfl
 have e2:=hy _ rfl
 simp only[SV.den]at e1 e2
 rw[e1,e2]
 have eg:(eqGuard op xt x y (.bool p) (.bool q)).run C.P w=.ok () w:=by
  unfold eqGuard;cases op<;>simp
 simp only[Sem.run_bind,eg,Result.andThen_ok]
 split at he
 rename_i ti hl
 have hq:∀d:Nat,(Op.equalIn (d+1) xt (.bool p) (.bool q)).run C.P w=.ok (p==q) w:=fun d=>by
  split at he
  rename_i hd;simp[Op.equalIn,run_underlying ((hT _ _ hl).isBool hd)]
  rename_i hd;simp[Op.equalIn,run_underlying ((hT _ _ hl).isBool hd)]
  cases he
 have hq':(Op.equal xt (.bool p) (.bool q)).run C.P w=.ok (p==q) w:=hq 9999
 have hpq:(p==q)=decide (p=q):=by cases p<;>cases q<;>rfl
 split at he<;>(try cases he)<;>refine⟨?_,fun _=>trivial⟩
 simp[binOp,hq',SV.den,hpq]
 simp[binOp,hq',SV.den,hpq]
 cases he
 rename_i p q
 have e1:=hx _ rfl
 have e2:=hy _ rfl
 simp only[SV.den]at e1 e2
 rw[e1,e2]
 split at he
 rename_i ti hl
 have hti:=hT _ _ hl
 split at he
 rename_i l hs hc
 obtain⟨fds,hu,hmap⟩:=hti.isStrct hs
 obtain⟨hu',hfd⟩:=und_fieldsOf hu
 obtain⟨c1,c2,c3⟩:=hti.cmp hc
 rw[hfd]at c3
 have main:∀b,eqL T 40 l p.toList q.toList=some b→(Op.equalIn 10000 xt (.agg p) (.agg q)).run C.P w=.ok b w:=by
  intro b hb
  rw[run_equalIn_struct w 9999 xt _ _ hu' c1,hfd]
  refine eqL_sound hT 40 9999 fds.toList p q b (by omega) (fun f hf=>by have:=List.all_eq_true.1 c3 f hf;simpa using this) ?_
  rw[hmap];exact hb
 simp only[Sem.run_bind,run_eqGuard_agg w op xt x y p q c2,Result.andThen_ok]
 split at he
 rename_i b hb
 cases he
 refine⟨?_,fun _=>trivial⟩
 rw[run_eql_struct w xt p q,main b hb];rfl
 rename_i b hb
 cases he
 refine⟨?_,fun _=>trivial⟩
 simp only[binOp]
 have:=main b hb
 simp[Op.equal,Op.maxDepth,this,SV.den]
 cases he
 cases he
 cases he
 cases he
theorem un_sound {op:UnOp} {x:Operand} {s:SV} {side:List Prop} {sx:Option SV}
 (hx:∀z,sx=some z→a.eval x=z.den E) (he:effUn op sx=.val s side) (hs:allP side) :
 (Op.unary op (a.eval x)).run C.P w=.ok (s.den E) w∧∀n,s.lt E n:=by
 unfold effUn at he
 split at he
 have e1:=hx _ rfl
 cases he
 simp only[SV.den]at e1
 rw[e1]
 exact⟨by simp[Op.unary,SV.den],fun _=>trivial⟩
 have e1:=hx _ rfl
 cases he
 simp only[SV.den]at e1
 rw[e1]
 refine⟨?_,fun _=>trivial⟩
 have:=wrap_fits hs
 simp[Op.unary,Op.intArith,SV.den,this]
 cases he
theorem index_sound {t:Nat} {x i:Operand} {s:SV} {side:List Prop} {sx si:Option SV} (hT:TOk C.P T)
 (hx:∀z,sx=some z→a.eval x=z.den E) (hi:∀z,si=some z→a.eval i=z.den E) (he:effIndex T t sx si=.val s side) (hs:allP side) :
 (Instr.index t (a.eval x) (a.eval i)).run C.P w=.ok (s.den E) w∧∀n,s.lt E n:=by
 unfold effIndex at he
 split at he
 rename_i b k n ti hl
 split at he
 rename_i hd
 have e1:=hx _ rfl
 have e2:=hi _ rfl
 cases he
 simp only[SV.den]at e1 e2
 rw[e1,e2]
 obtain⟨h0,h1,_⟩:=hs
 have hu:=(hT _ _ hl).isStr hd
 obtain⟨b1,b2⟩:=bt_eq' h0 h1
 refine⟨?_,fun _=>trivial⟩
 simp[Instr.index,asIntOf,run_underlying hu,h0,b1,SV.den,b2]
 cases he
 cases he
theorem len_sound {c:Array TypeId} {x:Operand} {ty:Nat} {s:SV} {side:List Prop} {sx:Option SV} (hT:TOk C.P T) (hok:Ok C E st u a w)
 (hx:∀z,sx=some z→a.eval x=z.den E) (he:effLen T st c sx=.val s side) :
 (Builtin.len_ c ty #[a.eval x]).run C.P w=.ok (s.den E) w∧∀n,s.lt E n:=by
 unfold effLen at he
 split at he
 rename_i t hc
 split at he
 rename_i ti hl
 have hc0:c[0]?=some t:=by
  cases c with
  |mk l=>simp only[]at hc;subst hc;rfl
 split at he
 rename_i b hd
 have e1:=hx _ rfl
 cases he
 simp only[SV.den]at e1
 have hu:=(hT _ _ hl).isStr hd
 rw[e1]
 refine⟨?_,fun _=>trivial⟩
 simp[Builtin.len_,hc0,run_underlying hu,goInt,SV.den]
 rename_i A n m e hd
 have e1:=hx _ rfl
 cases he
 simp only[SV.den]at e1
 have hu:=(hT _ _ hl).isSlice hd
 rw[e1]
 refine⟨?_,fun _=>trivial⟩
 simp[Builtin.len_,hc0,run_underlying hu,goInt,SV.den]
 rename_i k e hd
 have e1:=hx _ rfl
 simp only[SV.den]at e1
 have hu:=(hT _ _ hl).isSlice hd
 obtain⟨f,hsat⟩:=hok.sat
 split at he
 rename_i D hlk
 cases he
 have hh:=(hsat.holds _ _ hlk).1
 refine⟨?_,fun _=>trivial⟩
 rcases hh.2 with⟨hv,hn⟩|⟨gg,cap,cur,hv,_⟩
 rw[e1,hv];simp[Builtin.len_,hc0,run_underlying hu,goInt,SV.den,hn]
 rw[e1,hv];simp[Builtin.len_,hc0,run_underlying hu,goInt,SV.den]
 rename_i D hlk
 cases he
 obtain⟨A,cap,hv,_⟩:=(hsat.holds _ _ hlk).1
 refine⟨?_,fun _=>trivial⟩
 rw[e1,hv];simp[Builtin.len_,hc0,run_underlying hu,goInt,SV.den]
 cases he
 cases he
 cases he
 cases he
theorem extract_sound {x:Operand} {i:Nat} {s:SV} {side:List Prop} {sx:Option SV}
 (hx:∀z,sx=some z→a.eval x=z.den E∧z.lt E st.nx) (he:effExtract sx i=.val s side) :
 (Instr.extract (a.eval x) i).run C.P w=.ok (s.den E) w∧s.lt E st.nx:=by
 unfold effExtract at he
 split at he
 rename_i vs
 split at he
 rename_i y hy
 have e1:=(hx _ rfl).1
 cases he
 simp only[SV.den]at e1
 rw[e1]
 refine⟨?_,trivial⟩
 have:vs[i]?=some y:=by simpa using hy
 simp[Instr.extract,this,SV.den]
 cases he
 rename_i l
 obtain⟨e1,e2⟩:=hx _ rfl
 simp only[SV.den]at e1
 split at he
 rename_i y hy
 cases he
 rw[e1]
 refine⟨?_,trivial⟩
 have:(l.map (eltOf E)).toArray[i]?=some y:=by simp[hy,eltOf]
 simp only[Instr.extract,this,SV.den]
 rfl
 rename_i k hy
 cases he
 rw[e1]
 refine⟨?_,e2 k (List.mem_of_getElem? hy)⟩
 have:(l.map (eltOf E)).toArray[i]?=some (E k):=by simp[hy,eltOf]
 simp only[Instr.extract,this,SV.den]
 rfl
 cases he
 cases he
theorem fld_spec {t f off:Nat} {tf:TI} (hT:TOk C.P T) (h:fld T t f=some (off,tf)) :
 ∃fs fd,C.P.underlying t=some (.struct fs)∧fs[f]?=some fd∧fd.offset=off∧TIok C.P fd.type tf:=by
 unfold fld at h
 split at h
 rename_i ti hl
 split at h
 rename_i l hd
 split at h
 rename_i x hf
 split at h
 rename_i tf' hl'
 cases h
 obtain⟨fs,h1,h2⟩:=(hT _ _ hl).isStrct hd
 rw[←h2,List.getElem?_map]at hf
 cases hfd:fs.toList[f]? with
 |none=>rw[hfd]at hf;cases hf
 |some fd=>
  rw[hfd]at hf
  simp only[Option.map_some,Option.some.injEq]at hf
  subst hf
  exact⟨fs,fd,h1,by simpa using hfd,rfl,hT _ _ hl'⟩
 cases h
 cases h
 cases h
 cases h
theorem run_part {t off:Nat} {ti:TI} (h:TIok C.P t ti) (cs:Array Value):(part t cs off).run C.P w =
 if ti.agg then .ok (.agg (cs.extract off (off+ti.sz))) w else match cs[off]? with
  |some v=>.ok v w
  | none=>.halt (.stuck "part: no such cell") w := by
 unfold part
 simp only[Sem.run_bind,run_isAgg w h,Result.andThen_ok]
 cases ti.agg
 simp only[Bool.false_eq_true,if_false]
 cases cs[off]?<;>simp[stuck]
 simp only[if_true,Sem.run_bind,Ca w h,Result.andThen_ok]
 rfl
theorem field_sound {t f:Nat} {x:Operand} {s:SV} {side:List Prop} {sx:Option SV} (hT:TOk C.P T)
 (hx:∀z,sx=some z→a.eval x=z.den E) (he:effField T t sx f=.val s side) :
 (Instr.field t (a.eval x) f).run C.P w=.ok (s.den E) w∧∀n,s.lt E n:=by
 unfold effField at he
 split at he
 rename_i cs off tf hf
 obtain⟨fs,fd,hu,hfd,rfl,hti⟩:=fld_spec hT hf
 have e1:=hx _ rfl
 simp only[SV.den]at e1
 rw[e1]
 split at he
 rename_i ha
 split at he
 rename_i hb
 rw[forceL_eq]at he
 cases he
 refine⟨?_,fun _=>trivial⟩
 have hble:=Nat.le_of_ble_eq_true hb
 simp only[Instr.field,Sem.run_bind,run_underlying hu,Result.andThen_ok,hfd,asAgg,Sem.run_pure,run_part hti,ha,if_true,SV.den]
 congr 2
 apply Array.ext'
 simp[List.take_drop]
 cases he
 rename_i ha
 split at he
 rename_i y hy
 cases he
 refine⟨?_,fun _=>trivial⟩
 have:cs[fd.offset]?=some y:=by simpa using hy
 simp only[Instr.field,Sem.run_bind,run_underlying hu,Result.andThen_ok,hfd,asAgg,Sem.run_pure,run_part hti,ha,if_false,SV.den,this,Bool.false_eq_true]
 cases he
 cases he
end sound
section sound
variable {C:Cx} {T:TT} {E:Env} {st:St} {u:Im} {a:Act} {w:World} {g:Gd}
theorem run_load1 (P:Program) {ad:Addr} {x:Value} (h:w.cell? ad=some x):(load ad).run P w=.ok x w:=by
 simp[load,Sem.run,h]
theorem run_loadCellsFrom (P:Program) (ad:Addr):∀(l:List Value) (i:Nat) (acc:Array Value),(∀j x,l[j]?=some x→w.cell? (ad.add (i+j))=some x) →
 (loadCellsFrom ad i l.length acc).run P w=.ok (acc++l.toArray) w:=by
 intro l
 induction l with
 |nil=>intro i acc _;simp[loadCellsFrom]
 |cons x r ih=>
  intro i acc h
  have h0:w.cell? (ad.add i)=some x:=by simpa using h 0 x rfl
  simp only[List.length_cons,loadCellsFrom,Sem.run_bind,run_load1 P h0,Result.andThen_ok]
  rw[ih (i+1) (acc.push x) (fun j y hj=>by have:=h (j+1) y (by simpa using hj);rwa [show i+(j+1)=i+1+j by omega]at this)]
  congr 1
  apply Array.ext'
  simp
theorem run_loadVar {t:Nat} {ti:TI} (hti:TIok C.P t ti) {ad:Addr} {l:List Value} (hl:l.length=ti.sz) (h:∀j x,l[j]?=some x→w.cell? (ad.add j)=some x) :
 (loadVar t ad).run C.P w=if ti.agg then .ok (.agg l.toArray) w else .ok (l.headD undef) w:=by
 unfold loadVar
 simp only[Sem.run_bind,run_isAgg w hti,Result.andThen_ok]
 cases ha:ti.agg
 have h1:=(hti.one ha).1
 match l,hl.trans h1 with
 |[x],_=>
  have h0:w.cell? ad=some x:=by simpa[Addr.add]using h 0 x rfl
  simp only[Bool.false_eq_true,if_false,run_load1 C.P h0]
  rfl
 simp only[if_true,Sem.run_bind,Ca w hti,Result.andThen_ok,loadCells,←hl]
 rw[run_loadCellsFrom C.P ad l 0 #[] (by simpa using h)]
 simp
theorem add_add' (a:Addr) (i j:Nat):(a.add i).add j=a.add (i+j):=by
 unfold Addr.add
 by_cases hi:i=0<;>by_cases hj:j=0<;>simp[hi,hj,Nat.add_assoc]
theorem fieldAddr_sound {t f:Nat} {x:Operand} {s:SV} {side:List Prop} {sx:Option SV} (hT:TOk C.P T)
 (hx:∀z,sx=some z→a.eval x=z.den E∧z.lt E st.nx) (he:effFieldAddr T t sx f=.val s side) :
 (Instr.fieldAt t (a.eval x) f).run C.P w=.ok (s.den E) w∧s.lt E st.nx:=by
 unfold effFieldAddr at he
 split at he
 rename_i k off fo tf hf
 split at he
 cases he
 rename_i hz
 cases he
 obtain⟨fs,fd,hu,hfd,rfl,hti⟩:=fld_spec hT hf
 obtain⟨e1,hk,ad,had⟩:=hx _ rfl
 have hz':¬tf.sz=0:=fun h=>by rw[h]at hz;cases hz
 refine⟨?_,hk,ad,had⟩
 rw[e1]
 simp only[SV.den,ptrOf,had]
 simp only[Instr.fieldAt,Sem.run_bind,run_underlying hu,Result.andThen_ok,hfd,Instr.sureAddr,Sem.run_pure,fieldPlace,Ca w hti,if_neg hz',Addr.add]
 split
 rename_i h0;simp[h0]
 rfl
 rename_i k sz i off fo tf hf
 split at he
 cases he
 rename_i hz
 cases he
 obtain⟨fs,fd,hu,hfd,rfl,hti⟩:=fld_spec hT hf
 obtain⟨e1,hk,ad,l,c,had,hi⟩:=hx _ rfl
 have hz':¬tf.sz=0:=fun h=>by rw[h]at hz;cases hz
 refine⟨?_,hk,ad,l,c,had,hi⟩
 rw[e1]
 simp only[SV.den,elOf,had]
 simp only[Instr.fieldAt,Sem.run_bind,run_underlying hu,Result.andThen_ok,hfd,Instr.sureAddr,Sem.run_pure,fieldPlace,Ca w hti,if_neg hz',add_add']
 rw[Nat.add_assoc]
 cases he
theorem nil_sound {x:Operand} {o:Oper} (ho:o.op=.nilCheck x) {s:SV} {side:List Prop} {sx:Option SV}
 (hx:∀z,sx=some z→a.eval x=z.den E∧z.lt E st.nx) (he:effNil sx=.val s side) :
 (execOp a.eval o).run C.P w=.ok (.value (s.den E)) w∧s.lt E st.nx:=by
 unfold effNil at he
 unfold execOp
 simp only[ho]
 split at he
 cases he
 obtain⟨e1,hk,ad,had⟩:=hx _ rfl
 refine⟨?_,hk,ad,had⟩
 rw[e1];simp[SV.den,ptrOf,had]
 cases he
 obtain⟨e1,hk,ad,l,c,had,hi⟩:=hx _ rfl
 refine⟨?_,hk,ad,l,c,had,hi⟩
 rw[e1];simp[SV.den,elOf,had]
 cases he
 obtain⟨e1,hk⟩:=hx _ rfl
 refine⟨?_,hk⟩
 rw[e1];simp[SV.den]
 cases he
 obtain⟨e1,_⟩:=hx _ rfl
 refine⟨?_,trivial⟩
 rw[e1];simp[SV.den]
 cases he
 obtain⟨e1,_⟩:=hx _ rfl
 refine⟨?_,trivial⟩
 rw[e1];simp[SV.den]
 cases he
theorem keyed {f:Nat→Nat→Prop} {df:List Deferred} (hsat:Sat E st.ow st.nx u df w f) {k:Nat} {r:Rs} {D:Data} (hl:look st.ow k=some r) (hd:r.data=some D) :
 ∃A c,E k=.slice A D.n c∧(0<D.n→∃ad:Addr,A=some ad∧∀i:Nat,i<D.n→∀j f,D.cs[j]?=some f→w.cell? (ad.add (i*D.cs.length+j))=some (f i)):=by
 cases r with
 |row e D'=>
  cases hd
  obtain⟨h1,h2⟩:=hsat.holds _ _ hl
  rcases h1.2 with⟨hv,hn⟩|⟨gg,cap,cur,hv,hg,hh,h3,h4,h5,h6⟩
  exact⟨none,0,by rw[hv,hn],fun h=>by omega⟩
  refine⟨_,cap,hv,fun _=>⟨_,rfl,fun i hi j f hf=>?_⟩⟩
  have hj:j<D.cs.length:=(List.getElem?_eq_some_iff.1 hf).1
  refine h1.cells (g:=gg) (by rw[hv];rfl) (i*D.cs.length+j) _ ?_
  exact flat_get D hi hf
 |sl D'=>
  cases hd
  obtain⟨⟨A,c,h1,h2,h3,h4⟩,_⟩:=hsat.holds _ _ hl
  refine⟨A,c,h1,fun hn=>?_⟩
  obtain⟨ad,h5,h6⟩:=h4 hn
  exact⟨ad,h5,fun i hi j f hf=>hsat.imm.cell (h6 i hi j f hf)⟩
 |_=>cases hd
theorem indexAddr_sound {t:Nat} {x i:Operand} {s:SV} {side:List Prop} {sx si:Option SV} (hT:TOk C.P T) (hok:Ok C E st u a w)
 (hx:∀z,sx=some z→a.eval x=z.den E∧z.lt E st.nx) (hi:∀z,si=some z→a.eval i=z.den E) (he:effIndexAddr T st t sx si=.val s side) (hs:allP side) :
 (Instr.indexAt t (a.eval x) (a.eval i)).run C.P w=.ok (s.den E) w∧s.lt E st.nx:=by
 unfold effIndexAddr at he
 split at he
 rename_i k kk n ti hl
 split at he
 rename_i e hd
 have main:∀te r D,look T e=some te→look st.ow k=some r→r.data=some D→0≤n→n<D.n →
  (Instr.indexAt t (a.eval x) (a.eval i)).run C.P w=.ok ((SV.e k te.sz n 0).den E) w∧(SV.e k te.sz n 0).lt E st.nx:=by
  intro te r D hte hr hdat h0 h1
  obtain⟨f,hsat⟩:=hok.sat
  obtain⟨A,c,hv,hcell⟩:=keyed hsat hr hdat
  obtain⟨ad,rfl,_⟩:=hcell (by omega)
  obtain⟨e1,hk,_⟩:=hx _ rfl
  have e2:=hi _ rfl
  simp only[SV.den]at e1 e2
  refine⟨?_,hk,ad,_,c,hv,h0,h1⟩
  have hu:=(hT _ _ hl).isSlice hd
  rw[e1,e2,hv]
  simp only[Instr.indexAt,asIntOf,Sem.run_bind,Sem.run_pure,Result.andThen_ok,run_underlying hu]
  simp[h0,h1,Ca w (hT _ _ hte),SV.den,elOf,hv]
 split at he
 rename_i te D' D hte hr
 cases he
 exact main te _ D hte hr rfl hs.1 hs.2.1
 rename_i te D hte hr
 cases he
 exact main te _ D hte hr rfl hs.1 hs.2.1
 cases he
 cases he
 cases he
end sound
section sound
variable {C:Cx} {T:TT} {E:Env} {st:St} {u:Im} {a:Act} {w:World} {g:Gd}
theorem plain_den {cs:List SV}:∀ {l:List Value},plain cs=some l→cs.map (SV.den E)=l:=by
 induction cs with
 |nil=>intro l h;cases h;rfl
 |cons s r ih=>
  intro l h
  cases s with
  |v x=>
   simp only[plain]at h
   split at h
   rename_i l' hl
   cases h
   simp[ih hl,SV.den]
   cases h
  |_=>simp[plain]at h
theorem load_sound {t:Nat} {x:Operand} {s:SV} {side:List Prop} {sx:Option SV} (hT:TOk C.P T) (hok:Ok C E st u a w)
 (hx:∀z,sx=some z→a.eval x=z.den E∧z.lt E st.nx) (he:effLoad T st t sx=.val s side) :
 (Instr.loadAt t (a.eval x)).run C.P w=.ok (s.den E) w∧s.lt E st.nx:=by
 obtain⟨f,hsat⟩:=hok.sat
 unfold effLoad at he
 split at he
 rename_i k off ti hl
 have hti:=hT _ _ hl
 obtain⟨e1,hk,_⟩:=hx _ rfl
 split at he
 rename_i bt cs hlk
 obtain⟨b,hb,_,hh⟩:=hsat.holds _ _ hlk
 have hlt:=(hsat.lt _ _ hlk).2
 have hden:(SV.p k off).den E=.pointer (some ⟨b,off,none⟩):=by simp[SV.den,ptrOf,hb]
 have hcell:∀j y,(cs.map (SV.den E))[off+j]?=some y→w.cell? ((⟨b,off,none⟩:Addr).add j)=some y:=by
  intro j y hy
  unfold Addr.add
  split
  rename_i h0;subst h0;simpa[World.cell?,hh]using hy
  simpa[World.cell?,hh]using hy
 rw[e1,hden]
 simp only[Instr.loadAt,Instr.sureAddr,Sem.run_bind,Sem.run_pure,Result.andThen_ok]
 split at he
 rename_i ha
 split at he
 rename_i hble
 have hble':=Nat.le_of_ble_eq_true hble
 split at he
 rename_i l hp
 cases he
 have hpd:=plain_den (E:=E) hp
 refine⟨?_,trivial⟩
 have hlen:l.length=ti.sz:=by
  rw[←hpd];simp;omega
 rw[run_loadVar hti (l:=l) hlen (fun j y hy=>hcell j y (by
  rw[←hpd]at hy
  have hj:j<ti.sz:=by
   have:=(List.getElem?_eq_some_iff.1 hy).1
   simp at this;omega
  simpa[List.getElem?_take,List.getElem?_drop,hj]using hy)),if_pos ha]
 rfl
 cases he
 cases he
 rename_i ha
 split at he
 rename_i s' hs'
 cases he
 have h1:=(hti.one ha).1
 refine⟨?_,hlt s (List.mem_of_getElem? hs')⟩
 rw[run_loadVar hti (l:=[s.den E]) (by simp[h1]) (fun j y hy=>hcell j y (by
  cases j with
  |zero=>simp at hy;subst hy;simp[hs']
  |succ j=>simp at hy)),if_neg (by simp[ha])]
 rfl
 cases he
 cases he
 rename_i k sz i off ti hl
 have hti:=hT _ _ hl
 obtain⟨e1,hk,ad,len,c,hE,hi0,hi1⟩:=hx _ rfl
 split at he
 rename_i r hr
 split at he
 rename_i D hD
 split at he
 rename_i hsz
 obtain rfl:=Nat.eq_of_beq_eq_true hsz
 obtain⟨A,c',hv,hcells⟩:=keyed hsat hr hD
 rw[hE]at hv
 injection hv with hA hn hc
 subst hA
 subst hn
 obtain⟨ad',hA',hcell⟩:=hcells (by omega)
 cases hA'
 have hcell':∀j fj,D.cs[off+j]?=some fj→w.cell? ((ad.add (i.toNat*D.cs.length+off)).add j)=some (fj i):=by
  intro j fj hj
  rw[add_add',Nat.add_assoc]
  have:=hcell i.toNat (by omega) (off+j) fj hj
  rwa [Int.toNat_of_nonneg hi0]at this
 rw[e1]
 simp only[SV.den,elOf,hE,Instr.loadAt,Instr.sureAddr,Sem.run_bind,Sem.run_pure,Result.andThen_ok]
 split at he
 rename_i ha
 split at he
 rename_i hble
 have hble':=Nat.le_of_ble_eq_true hble
 rw[forceL_eq]at he
 cases he
 refine⟨?_,trivial⟩
 rw[run_loadVar hti (l:=((D.cs.drop off).take ti.sz).map (fun f=>f i)) (by simp;omega) (fun j y hy=>by
  simp only[List.getElem?_map,Option.map_eq_some_iff]at hy
  obtain⟨fj,hj,rfl⟩:=hy
  have hjl:j<ti.sz:=by
   have:=(List.getElem?_eq_some_iff.1 hj).1
   simp at this;omega
  exact hcell' j fj (by simpa[List.getElem?_take,List.getElem?_drop,hjl]using hj)),if_pos ha]
 cases he
 rename_i ha
 split at he
 rename_i fo hfo
 cases he
 refine⟨?_,trivial⟩
 rw[run_loadVar hti (l:=[fo i]) (by simp[(hti.one ha).1]) (fun j y hy=>by
  cases j with
  |zero=>simp at hy;subst hy;exact hcell' 0 fo (by simpa using hfo)
  |succ j=>simp at hy),if_neg (by simp[ha])]
 rfl
 cases he
 cases he
 cases he
 cases he
 cases he
theorem slice_sound {t:Nat} {x lo hi:Operand} {s:SV} {side:List Prop} {sx sl sh:Option SV} (hT:TOk C.P T)
 (hx:∀z,sx=some z→a.eval x=z.den E) (h1:∀z,sl=some z→a.eval lo=z.den E) (h2:∀z,sh=some z→a.eval hi=z.den E)
 (he:effSlice T t sx sl sh=.val s side) (hs:allP side) :
 (Instr.sliceAt t (a.eval x) (some (a.eval lo)) (some (a.eval hi)) none).run C.P w=.ok (s.den E) w∧∀n,s.lt E n:=by
 unfold effSlice at he
 split at he
 rename_i b k m k' n ti hl
 split at he
 rename_i hd
 cases he
 obtain⟨h3,h4,h5,_⟩:=hs
 have hu:=(hT _ _ hl).isStr hd
 have e1:=hx _ rfl
 have e2:=h1 _ rfl
 have e3:=h2 _ rfl
 simp only[SV.den]at e1 e2 e3
 rw[e1,e2,e3]
 refine⟨?_,fun _=>trivial⟩
 simp[Instr.sliceAt,Instr.slice,Instr.sliceBounds,Instr.sliceBound,asIntOf,run_underlying hu,h3,SV.den,sub]
 rw[if_pos ⟨by omega,by omega⟩,if_pos (by omega)]
 cases he
 cases he
theorem sliceTo_sound {t:Nat} {x hi:Operand} {s:SV} {side:List Prop} {sx sh:Option SV} (hT:TOk C.P T)
 (hx:∀z,sx=some z→a.eval x=z.den E) (h2:∀z,sh=some z→a.eval hi=z.den E)
 (he:effSliceTo T t sx sh=.val s side) (hs:allP side) :
 (Instr.sliceAt t (a.eval x) none (some (a.eval hi)) none).run C.P w=.ok (s.den E) w∧∀n,s.lt E n:=by
 unfold effSliceTo at he
 split at he
 rename_i b k' n ti hl
 split at he
 rename_i hd
 cases he
 obtain⟨h4,h5,_⟩:=hs
 have hu:=(hT _ _ hl).isStr hd
 have e1:=hx _ rfl
 have e3:=h2 _ rfl
 simp only[SV.den]at e1 e3
 rw[e1,e3]
 refine⟨?_,fun _=>trivial⟩
 simp[Instr.sliceAt,Instr.slice,Instr.sliceBounds,Instr.sliceBound,asIntOf,run_underlying hu,SV.den,sub]
 omega
 cases he
 cases he
theorem sliceFrom_sound {t:Nat} {x lo:Operand} {s:SV} {side:List Prop} {sx sl:Option SV} (hT:TOk C.P T)
 (hx:∀z,sx=some z→a.eval x=z.den E) (h1:∀z,sl=some z→a.eval lo=z.den E)
 (he:effSliceFrom T t sx sl=.val s side) (hs:allP side) :
 (Instr.sliceAt t (a.eval x) (some (a.eval lo)) none none).run C.P w=.ok (s.den E) w∧∀n,s.lt E n:=by
 unfold effSliceFrom at he
 split at he
 rename_i b k' n ti hl
 split at he
 rename_i hd
 cases he
 obtain⟨h4,h5,_⟩:=hs
 have hu:=(hT _ _ hl).isStr hd
 have e1:=hx _ rfl
 have e3:=h1 _ rfl
 simp only[SV.den]at e1 e3
 rw[e1,e3]
 refine⟨?_,fun _=>trivial⟩
 simp[Instr.sliceAt,Instr.slice,Instr.sliceBounds,Instr.sliceBound,asIntOf,run_underlying hu,SV.den,sub]
 omega
 cases he
 cases he
theorem conv_sound {src dst:Nat} {x:Operand} {s:SV} {side:List Prop} {sx:Option SV} (hT:TOk C.P T)
 (hx:∀z,sx=some z→a.eval x=z.den E) (he:effConv T src dst sx=.val s side) (hs:allP side) :
 (convert src dst (a.eval x)).run C.P w=.ok (s.den E) w∧∀n,s.lt E n:=by
 unfold effConv at he
 split at he
 rename_i k n ts td hls hl
 obtain⟨ds,hus,_⟩:=(hT _ _ hls).und
 have e1:=hx _ rfl
 simp only[SV.den]at e1
 rw[e1]
 split at he
 rename_i k' hd
 cases he
 have hu:=(hT _ _ hl).isInt hd
 refine⟨?_,fun _=>trivial⟩
 have:=wrap_fits hs
 simp[convert,run_underlying hus,run_underlying hu,Conv.intToInt,SV.den,this]
 cases he
 rename_i b ts td hls hl
 obtain⟨ds,hus,_⟩:=(hT _ _ hls).und
 have e1:=hx _ rfl
 simp only[SV.den]at e1
 rw[e1]
 split at he
 rename_i hd
 cases he
 have hu:=(hT _ _ hl).isStr hd
 refine⟨?_,fun _=>trivial⟩
 simp[convert,run_underlying hus,run_underlying hu,SV.den]
 cases he
 cases he
theorem ptrs0_spec:∀ {l:List (Option SV)} {ks:List Nat},ptrs0 l=some ks→l=ks.map (fun k=>some (.p k 0))
 |[],ks,h=>by cases h;rfl
 |s::r,ks,h=>by
  unfold ptrs0 at h
  split at h
  cases h;simp_all
  rename_i k r' heq
  split at h
  rename_i l hl
  cases h
  injection heq with h1 h2
  subst h1 h2
  simp[ptrs0_spec hl]
  cases h
  cases h
theorem func_sound {fn:Fn} {first captured:Array Operand} {s:SV} {side:List Prop}
 (hx:∀x z,opd st g x=some z→a.eval x=z.den E∧z.lt E st.nx) (he:effFunc fn (first.toList.map (opd st g)) (captured.toList.map (opd st g))=.val s side) :
 (Instr.makeFunc fn (first.map a.eval) (captured.map a.eval)).run C.P w=.ok (s.den E) w∧s.lt E st.nx:=by
 unfold effFunc at he
 split at he
 rename_i f' fst cap ks hf hp
 cases he
 have hp':=ptrs0_spec hp
 have hfst:first=#[]:=by
  have:=congrArg List.length hf
  simp at this
  exact this
 subst hfst
 have key:∀(l:List Operand) (ks:List Nat),l.map (opd st g)=ks.map (fun k=>some (.p k 0))→l.map a.eval=ks.map (fun k=>ptrOf E k 0)∧∀k∈ks,k<st.nx∧isPtr E k:=by
  intro l
  induction l with
  |nil=>intro ks h;cases ks<;>simp_all
  |cons y r ih=>
   intro ks h
   cases ks with
   |nil=>simp at h
   |cons k ks=>
    simp only[List.map_cons,List.cons.injEq]at h
    obtain⟨i1,i2⟩:=ih ks h.2
    obtain⟨e1,e2⟩:=hx y _ h.1
    refine⟨by simp only[List.map_cons,i1,e1,SV.den],?_⟩
    intro k' hk'
    rcases List.mem_cons.1 hk' with rfl|hk'
    exact e2
    exact i2 k' hk'
 obtain⟨k1,k2⟩:=key captured.toList ks hp'
 refine⟨?_,k2⟩
 have:captured.map a.eval=(ks.map fun k=>ptrOf E k 0).toArray:=by
  apply Array.ext'
  simp[k1]
 simp[Instr.makeFunc,SV.den,this]
 cases he
end sound
section sound
variable {C:Cx} {T:TT} {E:Env} {st:St} {u:Im} {a:Act} {w:World} {g:Gd}
theorem pick_sound {c x y:Operand} {o:Oper} (ho:o.op=.pick c x y) {s:SV} {side:List Prop} (hok:Ok C E st u a w) (hg:gs a.tmps g)
 (he:effPick st g c x y=.val s side):(execOp a.eval o).run C.P w=.ok (.value (s.den E)) w∧∀n,s.lt E n:=by
 unfold effPick at he
 unfold execOp
 simp only[ho]
 split at he
 rename_i tc b hc
 have e1:=(Al hok.agr hg hc).1
 simp only[SV.den]at e1
 have htc:a.tmps[tc]?=some (.bool b):=by
  have h:=e1
  simp only[Act.eval,Array.getD_eq_getD_getElem?]at h
  cases hq:a.tmps[tc]? with
  |none=>rw[hq]at h;simp[undef]at h
  |some z=>rw[hq]at h;simp at h;rw[h]
 have gt:b=true→gs a.tmps ((tc,true)::g):=fun hb z hz=>by
  rcases List.mem_cons.1 hz with rfl|hz
  rw[htc,hb]
  exact hg z hz
 have gf:b=false→gs a.tmps ((tc,false)::g):=fun hb z hz=>by
  rcases List.mem_cons.1 hz with rfl|hz
  rw[htc,hb]
  exact hg z hz
 split at he
 split at he
 rename_i yb hy
 cases he
 refine⟨?_,fun _=>trivial⟩
 cases hb:b with
 |true=>subst hb;rw[e1];simp[asBool,Act.eval,SV.den]
 |false=>
  have e2:=(Al hok.agr (gf hb) hy).1
  subst hb
  rw[e1,e2];simp[asBool,SV.den]
 cases he
 split at he
 rename_i yb hy
 cases he
 refine⟨?_,fun _=>trivial⟩
 cases hb:b with
 |false=>subst hb;rw[e1];simp[asBool,Act.eval,SV.den]
 |true=>
  have e2:=(Al hok.agr (gt hb) hy).1
  subst hb
  rw[e1,e2];simp[asBool,SV.den]
 cases he
 split at he
 rename_i yb zb hy hz
 cases he
 refine⟨?_,fun _=>trivial⟩
 cases hb:b with
 |true=>
  have e2:=(Al hok.agr (gt hb) hy).1
  subst hb
  rw[e1,e2];simp[asBool,SV.den]
 |false=>
  have e2:=(Al hok.agr (gf hb) hz).1
  subst hb
  rw[e1,e2];simp[asBool,SV.den]
 cases he
 cases he
theorem fold_set (off:Nat):∀(ys:List Value) (k:Nat) (cs:Array Value),off+k+ys.length≤cs.size →
 ((ys.zipIdx k).foldl (fun cs (x:Value×Nat)=>cs.setIfInBounds (off+x.2) x.1) cs).toList=cs.toList.take (off+k)++ys++cs.toList.drop (off+k+ys.length):=by
 intro ys
 induction ys with
 |nil=>intro k cs h;simp
 |cons y r ih=>
  intro k cs h
  simp only[List.length_cons]at h
  rw[List.zipIdx_cons,List.foldl_cons,ih (k+1) _ (by simp;omega)]
  simp only[Array.toList_setIfInBounds,List.length_cons]
  have hlt:off+k<cs.toList.length:=by simp;omega
  rw[List.take_set,List.drop_set,if_pos (by omega)]
  rw[show off+(k+1)=off+k+1 by omega,List.take_succ_eq_append_getElem hlt,List.set_append_right _ _ (by simp;omega)]
  simp
  rw[Nat.min_eq_left (by omega),Nat.sub_self,show off+k+(r.length+1)=off+k+1+r.length by omega]
  simp
theorem fill_sound (hT:TOk C.P T) {t:Nat} {fs:Array Field} (hu:C.P.underlying t=some (.struct fs)) {places:Array (Nat×Nat)}
 (hpl:∀(i:Nat) (fd:Field) ti,fs[i]?=some fd→TIok C.P fd.type ti→places[i]?=some (fd.offset,ti.sz))
 (hok:Agr C.N E st a.tmps) (hg:gs a.tmps g) :
 ∀(ps:List (Nat×Operand)) (cs l:List Value),fillIn T t cs (ps.map (fun x=>(x.1,opd st g x.2)))=some l →
  Instr.fill (places[·]?) cs.toArray (ps.map (fun x=>(x.1,a.eval x.2)))=some l.toArray:=by
 intro ps
 induction ps with
 |nil=>intro cs l h;cases h;rfl
 |cons p r ih=>
  intro cs l h
  simp only[List.map_cons]at h ⊢
  unfold fillIn at h
  simp only[forceL_eq]at h
  unfold Instr.fill
  split at h
  rename_i x off tf hx hf
  have e1:=(Al hok hg hx).1
  simp only[SV.den]at e1
  obtain⟨fs',fd,hu',hfd,rfl,hti⟩:=fld_spec hT hf
  have:fs'=fs:=by
   rw[hu]at hu'
   simpa using hu'.symm
  subst this
  have hp:=hpl p.1 fd tf hfd hti
  simp only[hp]
  have step:∀(ys:List Value),x.cells.toList=ys→ys.length=tf.sz→fd.offset+ys.length≤cs.length →
   fillIn T t (cs.take fd.offset++ys++cs.drop (fd.offset+ys.length)) (r.map (fun x=>(x.1,opd st g x.2)))=some l →
   (if x.cells.size≠tf.sz||fd.offset+x.cells.size > cs.toArray.size then none
    else Instr.fill (places[·]?) (x.cells.zipIdx.foldl (fun cs (c,j)=>cs.setIfInBounds (fd.offset+j) c) cs.toArray) (r.map (fun x=>(x.1,a.eval x.2))))=some l.toArray:=by
   intro ys hys hlen hle hfill
   have hsz:x.cells.size=ys.length:=by rw[←hys];simp
   rw[if_neg (by simp[hsz,hlen];omega)]
   have:=ih _ _ hfill
   rw[←this]
   congr 1
   apply Array.ext'
   have h2:=fold_set fd.offset ys 0 cs.toArray (by simpa using hle)
   simp only[Nat.add_zero]at h2
   rw[←h2,←hys]
   rw[←Array.foldl_toList]
   simp
  rw[e1]
  split at h
  split at h
  rename_i ys
  split at h
  rename_i h1
  split at h
  rename_i h2
  exact step ys.toList rfl (Nat.eq_of_beq_eq_true h1) (Nat.le_of_ble_eq_true h2) h
  cases h
  cases h
  cases h
  rename_i ha
  split at h
  rename_i h1
  split at h
  rename_i h2
  have hc:x.cells=#[x]:=by cases x<;>first|rfl|cases h1
  exact step [x] (by rw[hc]) (by rw[(hti.one ha).1];rfl) (Nat.le_of_ble_eq_true h2) h
  cases h
  cases h
  cases h
theorem TIok.sz_unique {P:Program} {t:Nat} {ti ti':TI} (h:TIok P t ti) (h':TIok P t ti'):ti.sz=ti'.sz:=by
 have h1:=h.info
 rw[h'.info]at h1
 simp at h1
 exact h1.1.symm
theorem allF_spec:∀ {fs:List (Nat×Nat)},allF T fs=true→∀f∈fs,∃ti,look T f.2=some ti
 |[],_,f,hf=>by cases hf
 |x::r,h,f,hf=>by
  unfold allF at h
  split at h
  rename_i ti hl
  rcases List.mem_cons.1 hf with rfl|hf
  exact⟨ti,hl⟩
  exact allF_spec h f hf
  cases h
theorem run_places' (hT:TOk C.P T):∀(fs:List Field),(∀f∈fs,∃ti,look T f.type=some ti) →
 (fs.mapM fun f=>Prod.mk f.offset <$> sizeOf f.type).run C.P w=.ok (fs.map fun f=>(f.offset,((look T f.type).map (·.sz)).getD 0)) w
 |[],_=>by simp
 |f::r,h=>by
  obtain⟨ti,hti⟩:=h f (List.mem_cons_self ..)
  simp[List.mapM_cons,Ca w (hT _ _ hti),run_places' hT r (fun f hf=>h f (List.mem_cons_of_mem _ hf)),hti]
theorem build_sound {t:Nat} {ps:Array (Nat×Operand)} {s:SV} {side:List Prop} (hT:TOk C.P T) (hok:Ok C E st u a w) (hg:gs a.tmps g)
 (he:effBuild T t (ps.toList.map (fun x=>(x.1,opd st g x.2)))=.val s side) :
 (Instr.build t (ps.map fun(i,x)=>(i,a.eval x))).run C.P w=.ok (s.den E) w∧∀n,s.lt E n:=by
 unfold effBuild at he
 split at he
 rename_i ti hl
 split at he
 rename_i fs hd
 split at he
 rename_i hall
 split at he
 rename_i l hf
 cases he
 refine⟨?_,fun _=>trivial⟩
 have hti:=hT _ _ hl
 obtain⟨fds,hu,hmap⟩:=hti.isStrct hd
 have hall':∀f∈fds.toList,∃ti,look T f.type=some ti:=fun f hf=>
  allF_spec hall (f.offset,f.type) (by rw[←hmap];exact List.mem_map_of_mem hf)
 have hp:=run_places' (w:=w) hT fds.toList hall'
 have hfill:=fill_sound (places:=(fds.toList.map fun f=>(f.offset,((look T f.type).map (·.sz)).getD 0)).toArray) hT hu (by
  intro i fd ti' h1 h2
  obtain⟨ti2,h3⟩:=hall' fd (by simpa using Array.mem_of_getElem? h1)
  simp[h1,h3,TIok.sz_unique (hT _ _ h3) h2]) hok.agr hg ps.toList ti.zero l hf
 have hz:=TI.zv_cells hti
 have hps:(ps.map fun(x:Nat×Operand)=>(x.1,a.eval x.2)).toList=ps.toList.map (fun x=>(x.1,a.eval x.2)):=by simp
 simp only[Instr.build,Sem.run_bind,run_zeroValue w hti,Result.andThen_ok,run_underlying hu,hz,Array.mapM_eq_mapM_toList]
 simp at hfill
 simp[hp,hfill,SV.den]
 cases he
 cases he
 cases he
 cases he
end sound
section sound
variable {C:Cx} {T:TT} {E:Env} {st:St} {u:Im} {a:Act} {w:World} {g:Gd}
theorem eff_sound (hT:TOk C.P T) {o:Oper} {s:SV} {side:List Prop} (hok:Ok C E st u a w) (hg:gs a.tmps g)
 (he:eff T st g o.op=.val s side) (hs:allP side):(execOp a.eval o).run C.P w=.ok (.value (s.den E)) w∧s.lt E st.nx:=by
 have hx:∀(x:Operand) z,opd st g x=some z→a.eval x=z.den E∧z.lt E st.nx:=fun x z h=>Al hok.agr hg h
 have hx1:∀(x:Operand) z,opd st g x=some z→a.eval x=z.den E:=fun x z h=>(hx x z h).1
 obtain⟨dst,op,ty,pos,after,guard⟩:=o
 simp only at he
 unfold eff at he
 split at he
 split at he
 rename_i x _ s' hx'
 cases he
 obtain⟨h1,h2⟩:=hx _ _ hx'
 exact⟨by simp[execOp,h1],h2⟩
 cases he
 split at he
 rename_i x _ s' hx'
 cases he
 obtain⟨h1,h2⟩:=hx _ _ hx'
 exact⟨by simp[execOp,h1],h2⟩
 cases he
 obtain⟨h1,h2⟩:=pick_sound (o:=⟨dst,_,ty,pos,after,guard⟩) rfl hok hg he
 exact⟨h1,h2 _⟩
 obtain⟨h1,h2⟩:=bin_sound (w:=w) hT (hx1 _) (hx1 _) he hs
 refine⟨?_,h2 _⟩
 simp only[execOp]
 rw[Sem.run_bind,h1];rfl
 obtain⟨h1,h2⟩:=un_sound (C:=C) (w:=w) (hx1 _) he hs
 refine⟨?_,h2 _⟩
 simp only[execOp]
 rw[Sem.run_bind,h1];rfl
 obtain⟨h1,h2⟩:=index_sound (w:=w) hT (hx1 _) (hx1 _) he hs
 refine⟨?_,h2 _⟩
 simp only[execOp]
 rw[Sem.run_bind,h1];rfl
 obtain⟨h1,h2⟩:=extract_sound (C:=C) (st:=st) (w:=w) (hx _) he
 refine⟨?_,h2⟩
 simp only[execOp]
 rw[Sem.run_bind,h1];rfl
 obtain⟨h1,h2⟩:=field_sound (w:=w) hT (hx1 _) he
 refine⟨?_,h2 _⟩
 simp only[execOp]
 rw[Sem.run_bind,h1];rfl
 obtain⟨h1,h2⟩:=fieldAddr_sound (w:=w) hT (hx _) he
 refine⟨?_,h2⟩
 simp only[execOp]
 rw[Sem.run_bind,h1];rfl
 obtain⟨h1,h2⟩:=indexAddr_sound hT hok (hx _) (hx1 _) he hs
 refine⟨?_,h2⟩
 simp only[execOp]
 rw[Sem.run_bind,h1];rfl
 obtain⟨h1,h2⟩:=load_sound hT hok (hx _) he
 refine⟨?_,h2⟩
 simp only[execOp]
 rw[Sem.run_bind,h1];rfl
 exact nil_sound (o:=⟨dst,_,ty,pos,after,guard⟩) rfl (hx _) he
 obtain⟨h1,h2⟩:=conv_sound (w:=w) hT (hx1 _) he hs
 refine⟨?_,h2 _⟩
 simp only[execOp]
 rw[Sem.run_bind,h1];rfl
 obtain⟨h1,h2⟩:=func_sound (C:=C) (w:=w) hx he
 refine⟨?_,h2⟩
 simp only[execOp]
 rw[Sem.run_bind,h1];rfl
 obtain⟨h1,h2⟩:=build_sound hT hok hg he
 refine⟨?_,h2 _⟩
 simp only[execOp]
 rw[Sem.run_bind,h1];rfl
 obtain⟨h1,h2⟩:=slice_sound (w:=w) hT (hx1 _) (hx1 _) (hx1 _) he hs
 refine⟨?_,h2 _⟩
 simp only[execOp,Option.map]
 rw[Sem.run_bind,h1];rfl
 obtain⟨h1,h2⟩:=sliceTo_sound (w:=w) hT (hx1 _) (hx1 _) he hs
 refine⟨?_,h2 _⟩
 simp only[execOp,Option.map]
 rw[Sem.run_bind,h1];rfl
 obtain⟨h1,h2⟩:=sliceFrom_sound (w:=w) hT (hx1 _) (hx1 _) he hs
 refine⟨?_,h2 _⟩
 simp only[execOp,Option.map]
 rw[Sem.run_bind,h1];rfl
 rename_i c
 split at he
 rename_i x hc hargs
 have hargs':c.args=#[x]:=by cases hca:c.args with|mk l=>rw[hca]at hargs;simp at hargs;rw[hargs]
 obtain⟨h1,h2⟩:=len_sound (ty:=ty) hT hok (hx1 _) he
 refine⟨?_,h2 _⟩
 simp only[execOp,resolve,hc,hargs']
 simp[invoke,builtin,h1]
 cases he
 cases he
end sound
def Bp (all:List Oper) (st:St) (o:Oper):Option Gd:=
 match o.guard with
 |none=>some []
 |some (j,want)=>match all[j]? with
  |some oj=>match oj.dst with
   |some t=>match look st.gk t with
    |some (gx,_)=>some ((t,want)::gx)
    |none=>match look st.kn t with
     |some _=>some [(t,want)]
     |none=>none
   |none=>none
  |none=>none
def slotsIn (t:Nat):Gd→Bool
 |[]=>false
 |x::r=>match Nat.beq x.1 t with
  |true=>true
  |false=>slotsIn t r
def slotsInK (t:Nat):List (Nat×(Gd×SV))→Bool
 |[]=>false
 |x::r=>match slotsIn t x.2.1 with
  |true=>true
  |false=>slotsInK t r
def gprops (st:St):Gd→List Prop
 |[]=>[]
 |(t,b)::r=>match look st.gk t with
  |some (_,.v (.bool x))=>(x=b)::gprops st r
  |some _=>gprops st r
  |none=>match look st.kn t with
   |some (.v (.bool x))=>(x=b)::gprops st r
   |_=>gprops st r
def impK:List Prop→Prop→(Prop→Prop)→Prop
 |[],q,k=>k q
 |p::r,q,k=>impK r (p→q) k
def sides (gp:List Prop):List Prop→Prop→Prop
 |[],q=>q
 |p::r,q=>impK gp p (fun ip=>ip∧sides gp r q)
def St.put (st:St) (d:Nat) (g:Gd) (s:SV):St:=
 match g with
 |[]=>{st with kn:=(d,s)::st.kn}
 |_=>{st with gk:=(d,(g,s))::st.gk}
def St.putK (st:St) (d:Nat) (g:Gd) (s:SV) (k:St→Prop):Prop:=
 match st with
 |⟨kn,gk,ow,nx⟩=>match g with
  |[]=>k ⟨(d,s)::kn,gk,ow,nx⟩
  |x::r=>k ⟨kn,(d,(x::r,s))::gk,ow,nx⟩
theorem St.putK_eq (st:St) (d:Nat) (g:Gd) (s:SV) (k:St→Prop):st.putK d g s k=k (st.put d g s):=by
 cases st;cases g<;>rfl
def St.shutK (st:St) (k:St→Prop):Prop:=
 match st with
 |⟨kn,_,ow,nx⟩=>k ⟨kn,[],ow,nx⟩
def St.force (st:St) (k:St→Prop):Prop:=
 match st with
 |⟨kn,gk,ow,nx⟩=>forceL kn fun kn=>forceL gk fun gk=>forceL ow fun ow=>k ⟨kn,gk,ow,nx⟩
theorem St.force_eq (st:St) (k:St→Prop):st.force k=k st:=by
 cases st;simp only[St.force];rw[forceL_eq,forceL_eq,forceL_eq]
def Bg (N:Nat) (st:St) (d:Nat) (g:Gd):Bool:=
 match Nat.blt d N with
 |true=>match look st.gk d with
  |none=>match slotsInK d st.gk with
   |false=>match slotsIn d g with
    |false=>match g with
     |[]=>true
     |_::_=>match look st.kn d with
      |none=>true
      |some _=>false
    |true=>false
   |true=>false
  |some _=>false
 |false=>false
theorem gs_put {tm:Array Value} {d:Nat} {x:Value}:∀ {g:Gd},slotsIn d g=false→(gs (tm.setIfInBounds d x) g↔gs tm g)
 |[],_=>by simp[gs]
 |y::r,h=>by
  simp only[slotsIn]at h
  split at h
  cases h
  rename_i h1
  have hne:¬d=y.1:=fun e=>by rw[←e,Nat.beq_refl]at h1;cases h1
  have ih:=gs_put (tm:=tm) (x:=x) h
  simp only[gs,List.mem_cons,forall_eq_or_imp]at ih ⊢
  rw[ih]
  rw[Array.getElem?_setIfInBounds_ne hne]
theorem slotsInK_look {d:Nat}:∀ {l:List (Nat×(Gd×SV))},slotsInK d l=false→∀t g s,look l t=some (g,s)→slotsIn d g=false
 |[],_,t,g,s,h=>by cases h
 |x::r,hh,t,g,s,h=>by
  simp only[slotsInK]at hh
  split at hh
  cases hh
  rename_i h1
  rw[Ac]at h
  split at h
  injection h with h
  rw[h]at h1
  exact h1
  exact slotsInK_look hh t g s h
theorem Agr.put {N:Nat} {E:Env} {st:St} {tm:Array Value} {d:Nat} {g:Gd} {s:SV} (h:Agr N E st tm) (hf:Bg N st d g=true) {x:Value} (hs:gs tm g→s.lt E st.nx)
 (hx1:gs tm g→x=s.den E) (hx2:¬gs tm g→x=undef) (hg:g=[]→x=s.den E):Agr N E (st.put d g s) (tm.setIfInBounds d x):=by
 unfold Bg at hf
 split at hf
 rename_i hlt
 have hdN:d<N:=by have:=Nat.le_of_ble_eq_true hlt;omega
 split at hf
 rename_i hgk
 split at hf
 rename_i hK
 split at hf
 rename_i hG
 have hne:∀t,¬d=t→(tm.setIfInBounds d x)[t]?=tm[t]?:=fun t ht=>Array.getElem?_setIfInBounds_ne ht
 have heq:(tm.setIfInBounds d x)[d]?=some x:=by
  rw[Array.getElem?_setIfInBounds,if_pos rfl,if_pos (by rw[h.size];exact hdN)]
 have hothers:∀t g' s',look st.gk t=some (g',s')→gs (tm.setIfInBounds d x) g'→s'.lt E st.nx:=fun t g' s' h1 h2=>
  h.glt t g' s' h1 ((gs_put (slotsInK_look hK t g' s' h1)).1 h2)
 cases g with
 |nil=>
  refine⟨by simpa using h.size,?_,?_,?_,hothers⟩
  intro t s' h1 h2
  simp only[St.put]at h1 h2
  rw[Ac]at h2
  split at h2
  rename_i e;subst e;cases h2;rw[heq,hg rfl]
  rename_i e;rw[hne t e];exact h.kn t s' h1 h2
  intro t g' s' h1
  simp only[St.put]at h1
  have hsl:=slotsInK_look hK t g' s' h1
  have hdt:¬d=t:=fun e=>by subst e;rw[hgk]at h1;cases h1
  rw[hne t hdt,gs_put hsl]
  exact h.gk t g' s' h1
  intro t s' h2
  simp only[St.put]at h2 ⊢
  rw[Ac]at h2
  split at h2
  cases h2;exact hs (fun x hx=>by cases hx)
  exact h.klt t s' h2
 |cons y r=>
  refine⟨by simpa using h.size,?_,?_,h.klt,?_⟩
  intro t s' h1 h2
  simp only[St.put]at h1 h2
  rw[Ac]at h1
  split at h1
  cases h1
  rename_i e;rw[hne t e];exact h.kn t s' h1 h2
  intro t g' s' h1
  simp only[St.put]at h1
  rw[Ac]at h1
  split at h1
  rename_i e
  subst e
  injection h1 with h1
  injection h1 with h1 h1'
  subst h1 h1'
  rw[gs_put hG,heq]
  exact⟨fun h=>by rw[hx1 h],fun h=>by rw[hx2 h]⟩
  rename_i e
  rw[hne t e,gs_put (slotsInK_look hK t g' s' h1)]
  exact h.gk t g' s' h1
  intro t g' s' h1 h2
  simp only[St.put]at h1 ⊢
  rw[Ac]at h1
  split at h1
  injection h1 with h1
  injection h1 with h1 h1'
  subst h1 h1'
  exact hs ((gs_put hG).1 h2)
  exact hothers t g' s' h1 h2
 cases hf
 cases hf
 cases hf
 cases hf
theorem guard_sound {all:Array Oper} {N:Nat} {E:Env} {st:St} {tm:Array Value} {o:Oper} {g:Gd} (h:Agr N E st tm) (hg:Bp all.toList st o=some g) :
 (Region.wanted o (yielded all tm)=true→gs tm g)∧(Region.wanted o (yielded all tm)=false→¬gs tm g):=by
 unfold Bp at hg
 unfold Region.wanted
 split at hg
 rename_i hn
 cases hg
 rw[hn]
 exact⟨fun _ x hx=>(by cases hx),fun h=>(by cases h)⟩
 rename_i j want ho
 rw[ho]
 simp only
 split at hg
 rename_i oj hj
 split at hg
 rename_i t ht
 have hy:yielded all tm j=match tm[t]? with|some (.bool b)=>some b|_=>none:=by
  have hj':all[j]?=some oj:=by simpa using hj
  simp only[yielded,hj',Option.bind_some,ht]
  cases tm[t]? with
  |none=>rfl
  |some z=>cases z<;>rfl
 have key:(yielded all tm j==some want)=true↔tm[t]?=some (.bool want):=by
  rw[hy]
  split
  rename_i b hb;rw[hb];simp
  rename_i hb
  constructor
  intro h;simp at h
  intro h;exact absurd h (hb want)
 split at hg
 rename_i gx s hl
 cases hg
 constructor
 intro hw
 have h1:=key.1 hw
 intro x hx
 rcases List.mem_cons.1 hx with rfl|hx
 exact h1
 by_cases hgs:gs tm gx
 exact hgs x hx
 have:=(h.gk t gx s hl).2 hgs
 rw[h1]at this
 simp[undef]at this
 intro hw hgs
 have:=key.2 (hgs (t,want) (List.mem_cons_self ..))
 rw[this]at hw
 cases hw
 split at hg
 cases hg
 constructor
 intro hw x hx
 rcases List.mem_cons.1 hx with rfl|hx
 exact key.1 hw
 cases hx
 intro hw hgs
 have:=key.2 (hgs (t,want) (List.mem_cons_self ..))
 rw[this]at hw
 cases hw
 cases hg
 cases hg
 cases hg
theorem gprops_sound {N:Nat} {E:Env} {st:St} {tm:Array Value} (h:Agr N E st tm):∀ {g:Gd},gs tm g→(∀t b,(t,b)∈g→True)→∀p∈gprops st g,p
 |[],_,_,p,hp=>by cases hp
 |(t,b)::r,hg,hh,p,hp=>by
  have hr:gs tm r:=fun x hx=>hg x (List.mem_cons_of_mem _ hx)
  have ht:tm[t]?=some (.bool b):=hg (t,b) (List.mem_cons_self ..)
  have ih:=gprops_sound h hr (fun _ _ _=>trivial)
  unfold gprops at hp
  split at hp
  rename_i gx x hl
  rcases List.mem_cons.1 hp with rfl|hp
  by_cases hgs:gs tm gx
  have:=(h.gk t gx _ hl).1 hgs
  rw[ht]at this
  simp[SV.den]at this
  exact this.symm
  have:=(h.gk t gx _ hl).2 hgs
  rw[ht]at this
  simp[undef]at this
  exact ih p hp
  exact ih p hp
  rename_i hl
  split at hp
  rename_i x hk
  rcases List.mem_cons.1 hp with rfl|hp
  have:=h.kn t _ hl hk
  rw[ht]at this
  simp[SV.den]at this
  exact this.symm
  exact ih p hp
  exact ih p hp
theorem impK_elim:∀ {l:List Prop} {q:Prop} {k:Prop→Prop},impK l q k→∃q',k q'∧(q'→(∀p∈l,p)→q)
 |[],q,_,h=>⟨q,h,fun hq _=>hq⟩
 |p::r,q,k,h=>by
  obtain⟨q',h1,h2⟩:=impK_elim (l:=r) h
  exact⟨q',h1,fun hq hl=>h2 hq (fun x hx=>hl x (List.mem_cons_of_mem _ hx)) (hl p (List.mem_cons_self ..))⟩
theorem sides_split:∀ {gp side:List Prop} {q:Prop},sides gp side q→q∧((∀p∈gp,p)→allP side)
 |_,[],_,h=>⟨h,fun _=>trivial⟩
 |gp,p::r,q,h=>by
  obtain⟨q',⟨h1,h2⟩,h3⟩:=impK_elim h
  obtain⟨h4,h5⟩:=sides_split h2
  exact⟨h4,fun hg=>⟨h3 h1 hg,h5 hg⟩⟩
inductive Mem where
 |new (ow:Own) (s:SV)
 |upd (ow:Own)
 |no
def allOne:List Value→Bool
 |[]=>true
 |x::r=>match oneB x with
  |true=>allOne r
  |false=>false
theorem allOne_mem:∀ {l:List Value},allOne l=true→∀x∈l,oneB x=true
 |[],_,x,hx=>by cases hx
 |y::r,h,x,hx=>by
  unfold allOne at h
  split at h
  rename_i h1
  rcases List.mem_cons.1 hx with rfl|hx
  exact h1
  exact allOne_mem h x hx
  cases h
def cellsOf (ti:TI) (s:SV):Option (List SV):=
 match ti.agg with
 |true=>match s with
  |.v (.agg cs)=>match Nat.beq cs.toList.length ti.sz with
   |true=>match allOne cs.toList with
    |true=>some (cs.toList.map .v)
    |false=>none
   |false=>none
  |_=>none
 |false=>match s with
  |.v x=>match oneB x with
   |true=>some [.v x]
   |false=>none
  |.tup _=>none
  |s=>some [s]
def memBox (st:St) (t:Nat) (cs:List SV):Mem:=
 match st with
 |⟨_,_,ow,nx⟩=>forceL cs (fun cs=>.new ((nx,.box t cs)::ow) (.p nx 0))
def mem (T:TT) (st:St):Op→Mem
 |.alloc t=>match look T t with
  |some ti=>memBox st t (ti.zero.map .v)
  |none=>.no
 |.box t x=>match look T t,opd st [] x with
  |some ti,some s=>match cellsOf ti s with
   |some cs=>memBox st t cs
   |none=>.no
  |_,_=>.no
 |.store t a x=>match look T t,opd st [] a,opd st [] x with
  |some ti,some (.p k off),some s=>match look st.ow k,cellsOf ti s with
   |some (.box bt cs),some ys=>match Nat.ble (off+ys.length) cs.length with
    |true=>match st with
     |⟨_,_,ow,_⟩=>forceL (cs.take off++ys++cs.drop (off+ys.length)) (fun cs'=>.upd ((k,.box bt cs')::ow))
    |false=>.no
   |_,_=>.no
  |_,_,_=>.no
 |_=>.no
def upd {α:Type} (f:Nat→α) (k:Nat) (x:α):Nat→α:=fun j=>if j=k then x else f j
theorem Ak {α:Type} (f:Nat→α) (k:Nat) (x:α):upd f k x k=x:=by simp[upd]
theorem An {α:Type} (f:Nat→α) {k j:Nat} (x:α) (h:¬j=k):upd f k x j=f j:=by simp[upd,h]
section memory
variable {C:Cx} {T:TT} {E:Env} {st:St} {u:Im} {a:Act} {w:World}
theorem oneB_ptrOf {k off:Nat} (h:isPtr E k):oneB (ptrOf E k off)=true:=by
 obtain⟨a,ha⟩:=h
 simp[ptrOf,ha,oneB]
theorem oneB_cells {x:Value} (h:oneB x=true):x.cells=#[x]:=by cases x<;>first|rfl|cases h
theorem oneB_den {s:SV} {n:Nat} (hs:s.lt E n) (hv:∀x,s=.v x→oneB x=true) (ht:∀l,s≠.tup l):oneB (s.den E)=true:=by
 cases s with
 |v x=>exact hv x rfl
 |p k off=>exact oneB_ptrOf hs.2
 |r k=>obtain⟨_,A,l,c,hE⟩:=hs;simp[SV.den,hE,oneB]
 |e k sz i off=>obtain⟨_,ad,l,c,hE,_⟩:=hs;simp[SV.den,elOf,hE,oneB]
 |clo f ks=>simp[SV.den,oneB]
 |tup l=>exact absurd rfl (ht l)
theorem cellsOf_spec {t:Nat} {ti:TI} (hti:TIok C.P t ti) {s:SV} {cs:List SV} (h:cellsOf ti s=some cs) {n:Nat} (hs:s.lt E n) :
 cs.length=ti.sz∧(∀x∈cs,x.lt E n)∧(s.den E).cells=(cs.map (SV.den E)).toArray∧(∀x∈cs.map (SV.den E),oneB x=true):=by
 unfold cellsOf at h
 split at h
 split at h
 rename_i ys
 split at h
 rename_i hl
 split at h
 rename_i hone
 cases h
 refine⟨by simpa using Nat.eq_of_beq_eq_true hl,?_,?_,?_⟩
 intro x hx
 simp only[List.mem_map]at hx
 obtain⟨y,_,rfl⟩:=hx
 trivial
 simp[SV.den,Value.cells,Function.comp_def]
 intro x hx
 simp only[List.mem_map]at hx
 obtain⟨_,⟨y,hy,rfl⟩,rfl⟩:=hx
 exact allOne_mem hone y hy
 cases h
 cases h
 cases h
 rename_i ha
 have h1:=(hti.one ha).1
 have main:(∀x,s=.v x→oneB x=true)→(∀l,s≠.tup l)→[s].length=ti.sz∧(∀x∈[s],x.lt E n)∧(s.den E).cells=([s].map (SV.den E)).toArray∧(∀x∈[s].map (SV.den E),oneB x=true):=by
  intro hv ht
  have ho:=oneB_den hs hv ht
  refine⟨by rw[h1];rfl,fun y hy=>?_,by rw[oneB_cells ho];rfl,fun y hy=>?_⟩
  rw[List.mem_singleton]at hy;subst hy;exact hs
  simp at hy;subst hy;exact ho
 split at h
 split at h
 rename_i x hx
 cases h
 exact main (fun y hy=>by cases hy;exact hx) (fun l hl=>by cases hl)
 cases h
 cases h
 rename_i hv ht
 cases h
 exact main (fun y hy=>absurd hy (hv y)) (fun l hl=>absurd hl (ht l))
theorem Sat.newBox {o:Own} {nx:Nat} {df:List Deferred} {f:Nat→Nat→Prop} (h:Sat E o nx u df w f) (t:Nat) {cs:List SV} (hlt:∀x∈cs,x.lt E nx) :
 Sat (upd E nx (.pointer (some ⟨w.heap.size,0,none⟩))) ((nx,.box t cs)::o) (nx+1) u df (w.alloc (.cells (cs.map (SV.den E)).toArray t)) (upd f nx (fun b=>b=w.heap.size)):=by
 have hE:∀k,k<nx→upd E nx (.pointer (some ⟨w.heap.size,0,none⟩)) k=E k:=fun k hk=>An _ _ (by omega)
 have hz:(w.alloc (.cells (cs.map (SV.den E)).toArray t)).heap.size=w.heap.size+1:=World.size_alloc _ _
 have hold:∀b,b<w.heap.size→(w.alloc (.cells (cs.map (SV.den E)).toArray t)).heap[b]?=w.heap[b]?:=fun b hb=>Below.heap_alloc _ _ _ hb
 have hnone:∀b,b=w.heap.size→u.h b=none:=fun b hb=>by
  cases ho:u.h b with
  |none=>rfl
  |some x=>have:=(Array.getElem?_eq_some_iff.1 (h.imm.h b x ho)).1;omega
 refine h.step (fun k=>k=nx) hE (Nat.le_succ _) (Im.le.refl u) ?_ (by omega) (fun b hb _=>hold b hb) ?_ ?_ ?_ (fun b o ho=>.inl ho)
 exact⟨fun b o ho=>by rw[hold b (Array.getElem?_eq_some_iff.1 (h.imm.h b o ho)).1];exact h.imm.h b o ho,h.imm.os,h.imm.tape,h.imm.output,by have:=h.imm.lo;omega⟩
 intro k hk
 exact⟨by rw[Ac,if_neg (fun e=>hk e.symm)],fun b=>by rw[An _ _ hk]⟩
 rintro k rfl
 refine⟨?_,?_,?_⟩
 intro r hr
 rw[Ac,if_pos rfl]at hr
 cases hr
 refine⟨⟨w.heap.size,Ak _ _ _,fun x=>by rw[Ak],?_⟩,Nat.lt_succ_self _,fun s hs=>SV.lt_mono hE (Nat.le_succ _) (hlt s hs)⟩
 rw[heap_alloc_new]
 congr 3
 exact List.map_congr_left fun s hs=>(SV.den_congr hE (hlt s hs)).symm
 intro hn
 rw[Ac,if_pos rfl]at hn
 cases hn
 intro b hb
 rw[Ak]at hb
 exact⟨.inr (by omega),hnone b hb⟩
 rintro k k' b rfl rfl hne
 exact absurd rfl hne
theorem run_storeCells {P:Program} {b:Nat} {t:TypeId}:∀(ys:List Value) (i off:Nat) (w:World) (cs:Array Value),w.heap[b]?=some (.cells cs t (0,0)) →
 (∀y∈ys,oneB y=true)→off+i+ys.length≤cs.size →
 ∃w',(storeCells ⟨b,off,none⟩ ys i).run P w=.ok () w'∧w'.heap.size=w.heap.size∧w'.os=w.os∧w'.tape=w.tape∧w'.output=w.output ∧
  (∀k,k≠b→w'.heap[k]?=w.heap[k]?) ∧
  w'.heap[b]?=some (.cells (cs.toList.take (off+i)++ys++cs.toList.drop (off+i+ys.length)).toArray t (0,0))
 |[],i,off,w,cs,hb,_,_=>⟨w,by simp[storeCells],rfl,rfl,rfl,rfl,fun _ _=>rfl,by simp[hb]⟩
 |y::r,i,off,w,cs,hb,ho,hl=>by
  simp only[List.length_cons]at hl
  have hadd:(⟨b,off,none⟩:Addr).add i=⟨b,off+i,none⟩:=by
   unfold Addr.add
   split
   rename_i h0;subst h0;rfl
   rfl
  have hc:w.cell? ⟨b,off+i,none⟩=some (cs[off+i]'(by omega)):=by
   simp[World.cell?,hb,Array.getElem?_eq_getElem (show off+i<cs.size by omega)]
  have hfz:w.frozen? ⟨b,off+i,none⟩=false:=by simp[World.frozen?,hb]
  have hy:oneB y=true:=ho y (List.mem_cons_self ..)
  have hst:∀k:Sem Unit,(Sem.store .plain ⟨b,off+i,none⟩ y k).run P w=k.run P (w.setCell ⟨b,off+i,none⟩ y):=by
   intro k
   cases y<;>first|(simp[Sem.run,hc,hfz];done)|cases hy
  have hb':(w.setCell ⟨b,off+i,none⟩ y).heap[b]?=some (.cells (cs.setIfInBounds (off+i) y) t (0,0)):=by
   simp[World.setCell,Array.getElem?_modify,hb]
  obtain⟨w',h1,h2,h3,h4,h5,h6,h7⟩:=run_storeCells (P:=P) r (i+1) off (w.setCell ⟨b,off+i,none⟩ y) _ hb' (fun z hz=>ho z (List.mem_cons_of_mem _ hz)) (by simp;omega)
  refine⟨w',?_,by rw[h2];simp[World.setCell],h3,h4,h5,fun k hk=>(h6 k hk).trans (Below.heap_setCell _ _ _ _ hk),?_⟩
  simp only[storeCells,Sem.run_bind,store,hadd,hst]
  exact h1
  rw[h7]
  congr 3
  simp only[Array.toList_setIfInBounds,List.length_cons]
  have hlt:off+i<cs.toList.length:=by simp;omega
  rw[List.take_set,List.drop_set,if_pos (by omega)]
  rw[show off+(i+1)=off+i+1 by omega,List.take_succ_eq_append_getElem hlt,List.set_append_right _ _ (by simp;omega)]
  simp
  rw[Nat.min_eq_left (by omega),Nat.sub_self,show off+i+(r.length+1)=off+i+1+r.length by omega]
  simp
theorem Sat.setBox {o:Own} {nx:Nat} {df:List Deferred} {f:Nat→Nat→Prop} (h:Sat E o nx u df w f) {k b:Nat} {t:Nat} {cs cs':List SV} {w':World} (hk:look o k=some (.box t cs))
 (hE:E k=.pointer (some ⟨b,0,none⟩)) (hlt:∀x∈cs',x.lt E nx) (hz:w'.heap.size=w.heap.size) (hos:w'.os=w.os) (htp:w'.tape=w.tape) (hout:w'.output=w.output)
 (hother:∀j,j≠b→w'.heap[j]?=w.heap[j]?) (hb:w'.heap[b]?=some (.cells (cs'.map (SV.den E)).toArray t (0,0))) :
 Sat E ((k,.box t cs')::o) nx u df w' f:=by
 obtain⟨b',h1,h2,h3⟩:=h.holds _ _ hk
 have hbb:b'=b:=by rw[h1]at hE;injection hE with hE;injection hE with hE;injection hE
 subst hbb
 have hoff:u.h b'=none:=h.off k b' ((h2 b').2 rfl)
 refine h.step (fun j=>j=k) (fun _ _=>rfl) (Nat.le_refl _) (Im.le.refl u) ?_ (by omega) ?_ ?_ ?_ ?_ (fun b o ho=>.inl ho)
 refine⟨fun j x hj=>?_,hos.trans h.imm.os,htp.trans h.imm.tape,hout.trans h.imm.output,by have:=h.imm.lo;omega⟩
 rw[hother j (fun e=>by subst e;rw[hoff]at hj;cases hj)]
 exact h.imm.h j x hj
 intro j _ hj
 exact hother j (fun e=>hj k rfl ((h2 j).2 e))
 intro j hj
 exact⟨by rw[Ac,if_neg (fun e=>hj e.symm)],fun _=>Iff.rfl⟩
 rintro j rfl
 refine⟨?_,?_,?_⟩
 intro r hr
 rw[Ac,if_pos rfl]at hr
 cases hr
 exact⟨⟨b',h1,h2,hb⟩,(h.lt _ _ hk).1,hlt⟩
 intro hn
 rw[Ac,if_pos rfl]at hn
 cases hn
 intro j' hj'
 exact⟨.inl ⟨j,rfl,hj'⟩,h.off j j' hj'⟩
 rintro j j' b rfl rfl hne
 exact absurd rfl hne
end memory
section memory
variable {C:Cx} {T:TT} {E:Env} {st:St} {u:Im} {a:Act} {w:World}
theorem run_newVar (P:Program) (t:Nat) (x:Value):(newVar t x).run P w=.ok ⟨w.heap.size,0,none⟩ (w.alloc (.cells x.cells t)):=by
 rfl
theorem mem_new_sound (hT:TOk C.P T) {o:Oper} {ow:Own} {s:SV} (hok:Ok C E st u a w) (h:mem T st o.op=.new ow s) :
 ∃E' w',(∀k,k<st.nx→E' k=E k)∧(execOp a.eval o).run C.P w=.ok (.value (s.den E')) w'∧s.lt E' (st.nx+1)∧∃f,Sat E' ow (st.nx+1) u a.defers w' f:=by
 obtain⟨f,hsat⟩:=hok.sat
 obtain⟨dst,op,ty,pos,after,guard⟩:=o
 simp only at h
 have main:∀(t:Nat) (cs:List SV),(∀x∈cs,x.lt E st.nx)→∀x:Value,x.cells=(cs.map (SV.den E)).toArray →
  ∃E':Env,(∀k,k<st.nx→E' k=E k)∧(SV.p st.nx 0).den E'=.pointer (some ⟨w.heap.size,0,none⟩)∧(SV.p st.nx 0).lt E' (st.nx+1) ∧
   ∃f:Nat→Nat→Prop,Sat E' ((st.nx,.box t cs)::st.ow) (st.nx+1) u a.defers (w.alloc (.cells x.cells t)) f:=by
  intro t cs hlt x hx
  refine⟨upd E st.nx (.pointer (some ⟨w.heap.size,0,none⟩)),fun k hk=>An _ _ (by omega),?_,⟨Nat.lt_succ_self _,_,Ak _ _ _⟩,upd f st.nx (fun b=>b=w.heap.size),?_⟩
  simp[SV.den,ptrOf,Ak]
  rw[hx];exact hsat.newBox t hlt
 cases op<;>simp only[mem,memBox,forceL_eq]at h<;>try (cases h;done)
 case alloc t=>
  split at h
  rename_i ti hl
  cases h
  have hti:=hT _ _ hl
  obtain⟨E',h1,h2,h3,f',h4⟩:=main t (ti.zero.map .v) (fun x hx=>by simp only[List.mem_map]at hx;obtain⟨y,_,rfl⟩:=hx;trivial) ti.zv (by
   rw[TI.zv_cells hti];simp[Function.comp_def,SV.den])
  refine⟨E',_,h1,?_,h3,f',h4⟩
  rw[h2]
  simp[execOp,Instr.alloc,run_zeroValue w hti,run_newVar]
  cases h
 case box t x=>
  split at h
  rename_i ti s' hl hx
  split at h
  rename_i cs hcs
  cases h
  have hti:=hT _ _ hl
  obtain⟨e1,e2⟩:=Al hok.agr (fun y hy=>by cases hy) hx
  obtain⟨_,c2,c3,_⟩:=cellsOf_spec hti hcs e2
  obtain⟨E',h1,h2,h3,f',h4⟩:=main t cs c2 _ c3
  refine⟨E',_,h1,?_,h3,f',h4⟩
  rw[h2]
  simp[execOp,Instr.box,run_newVar,e1]
  cases h
  cases h
 case store t ad x=>
  split at h
  split at h
  split at h
  cases h
  cases h
  cases h
  cases h
theorem mem_upd_sound (hT:TOk C.P T) {o:Oper} {ow:Own} (hok:Ok C E st u a w) (h:mem T st o.op=.upd ow) :
 ∃w',(execOp a.eval o).run C.P w=.ok .skip w'∧∃f,Sat E ow st.nx u a.defers w' f:=by
 obtain⟨f,hsat⟩:=hok.sat
 obtain⟨dst,op,ty,pos,after,guard⟩:=o
 simp only at h
 cases op<;>simp only[mem,memBox,forceL_eq]at h<;>try (cases h;done)
 case alloc t=>split at h<;>cases h
 case box t x=>
  split at h
  split at h<;>cases h
  cases h
 case store t ad x=>
  split at h
  rename_i ti k off s hl ha hx
  split at h
  rename_i bt cs ys hlk hys
  split at h
  rename_i hble
  cases h
  have hti:=hT _ _ hl
  have hble':=Nat.le_of_ble_eq_true hble
  obtain⟨e1,_,_⟩:=Al hok.agr (fun y hy=>by cases hy) ha
  obtain⟨e2,e3⟩:=Al hok.agr (fun y hy=>by cases hy) hx
  obtain⟨c1,c2,c3,c4⟩:=cellsOf_spec hti hys e3
  obtain⟨b,hb,hF,hh⟩:=hsat.holds _ _ hlk
  have hden:(SV.p k off).den E=.pointer (some ⟨b,off,none⟩):=by simp[SV.den,ptrOf,hb]
  have hcs:=(hsat.lt _ _ hlk).2
  obtain⟨w',h1,h2,h3,h4,h5,h6,h7⟩:=run_storeCells (P:=C.P) (ys.map (SV.den E)) 0 off w _ hh c4 (by simp;omega)
  refine⟨w',?_,f,hsat.setBox (cs':=cs.take off++ys++cs.drop (off+ys.length)) hlk hb ?_ h2 h3 h4 h5 h6 ?_⟩
  have hsz:(s.den E).cells.size=ti.sz:=by rw[c3];simpa using c1
  simp only[execOp,Instr.storeAt,e1,hden,Instr.sureAddr,Sem.run_bind,Sem.run_pure,Result.andThen_ok,storeVar,Ca w hti,e2,hsz]
  rw[if_neg (by simp)]
  simp only[c3,h1,Result.andThen_ok]
  intro x hx
  simp only[List.mem_append]at hx
  rcases hx with(hx|hx)|hx
  exact hcs x (List.mem_of_mem_take hx)
  exact c2 x hx
  exact hcs x (List.mem_of_mem_drop hx)
  rw[h7]
  congr 3
  simp[List.map_take,List.map_drop]
  cases h
  cases h
  cases h
end memory
abbrev Bb:=Exit→St→Im→Prop
def Cd (C:Cx) (E:Env) (n:Nat) (u:Im) (Q:Bb):Exit→Act→World→Prop:=
 fun e a w=>∃E' st' u',(∀k,k<n→E' k=E k)∧n≤st'.nx∧u.le u'∧Ok C E' st' u' a w∧Q e st' u'
def X (C:Cx) (c:Code) (Q:Bb) (st:St) (u:Im):Prop:=
 ∀E a w,Ok C E st u a w→c.wpIn (FR C.ro) 0 C.P (Cd C E st.nx u Q) a w
def XL (C:Cx) (all:List Oper) (todo:List Oper) (Q:Bb) (st:St) (u:Im):Prop:=
 ∀E a w,Ok C E st u a w→wpListIn (FR C.ro) 0 C.P all.toArray (Cd C E st.nx u Q) todo a w
def St.shut (st:St):St:={st with gk:=[]}
inductive GkFree:St→Prop
 |mk (st:St) (h:∀d g s,look st.gk d=some (g,s)→look st.kn d=none):GkFree st
def gkOk (kn:Kn):List (Nat×(Gd×SV))→Bool
 |[]=>true
 |x::r=>match look kn x.1 with
  |none=>gkOk kn r
  |some _=>false
theorem gkOk_spec {kn:Kn}:∀ {l:List (Nat×(Gd×SV))},gkOk kn l=true→∀d x,look l d=some x→look kn d=none
 |[],_,d,x,h=>by cases h
 |y::r,hh,d,x,h=>by
  unfold gkOk at hh
  split at hh
  rename_i hn
  rw[Ac]at h
  split at h
  rename_i e;rw[←e];exact hn
  exact gkOk_spec hh d x h
  cases hh
theorem Agr.shut {N:Nat} {E:Env} {st:St} {tm:Array Value} (h:Agr N E st tm) (hg:gkOk st.kn st.gk=true):Agr N E st.shut tm:=by
 refine⟨h.size,?_,?_,h.klt,?_⟩
 intro d s _ h2
 simp only[St.shut]at h2
 cases hl:look st.gk d with
 |none=>exact h.kn d s hl h2
 |some x=>rw[gkOk_spec hg d x hl]at h2;cases h2
 intro d g s h1;cases h1
 intro d g s h1;cases h1
def xo (T:TT) (N:Nat) (all:List Oper) (K:St→Prop) (S:List Oper→St→Prop):List Oper→St→Prop
 |[],st=>match gkOk st.kn st.gk with
  |true=>st.shutK K
  |false=>S [] st
 |o::r,st=>match Bp all st o with
  |none=>S (o::r) st
  |some g=>match eff T st g o.op with
   |.val s side=>match o.dst with
    |some d=>match Bg N st d g with
     |true=>sides (gprops st g) side (st.putK d g s (xo T N all K S r))
     |false=>S (o::r) st
    |none=>sides (gprops st g) side (xo T N all K S r st)
   |.stuck=>match g with
    |[]=>match mem T st o.op with
     |.new ow s=>match o.dst with
      |some d=>match Bg N st d []with
       |true=>match st with
        |⟨kn,gk,_,nx⟩=>xo T N all K S r ⟨(d,s)::kn,gk,ow,nx+1⟩
       |false=>S (o::r) st
      |none=>S (o::r) st
     |.upd ow=>match o.dst with
      |none=>match st with
       |⟨kn,gk,_,nx⟩=>xo T N all K S r ⟨kn,gk,ow,nx⟩
      |some _=>S (o::r) st
     |.no=>S (o::r) st
    |_::_=>S (o::r) st
theorem notDefer_of_val {T:TT} {st:St} {g:Gd} {op:Op} {s:SV} {side:List Prop} (h:eff T st g op=.val s side):∀c,op≠.defer c:=by
 rintro c rfl
 simp[eff]at h
theorem semAt_eq (ro:Option Nat) (ρ:Operand→Value) (o:Oper) (h:∀c,o.op≠.defer c):o.semAt ro ρ=execOp ρ o:=by
 cases ro with
 |none=>rfl
 |some l=>exact Oper.semAt_some l ρ o h
theorem Cd.mono {C:Cx} {E E1:Env} {n n1:Nat} {u u1:Im} {Q:Bb} (hE:∀k,k<n→E1 k=E k) (hn:n≤n1) (hu:u.le u1) {e:Exit} {a:Act} {w:World}
 (h:Cd C E1 n1 u1 Q e a w):Cd C E n u Q e a w:=by
 obtain⟨E',st',u',h1,h2,h3,h4,h5⟩:=h
 exact⟨E',st',u',fun k hk=>(h1 k (by omega)).trans (hE k hk),by omega,hu.trans h3,h4,h5⟩
theorem Av {ro:Option Nat} {P:Program} {all:Array Oper} {Q Q':Exit→Act→World→Prop} (h:∀e a w,Q e a w→Q' e a w):∀(l:List Oper) (a:Act) (w:World),
 wpListIn (FR ro) 0 P all Q l a w→wpListIn (FR ro) 0 P all Q' l a w
 |[],a,w,hh=>h _ _ _ hh
 |o::r,a,w,hh=>by
  unfold wpListIn at hh ⊢
  have ih:=Av (ro:=ro) (P:=P) (all:=all) h r
  split
  rename_i hw
  rw[if_pos hw]at hh
  obtain⟨h1,h2⟩:=hh
  refine⟨h1,?_⟩
  generalize (o.semAt (FR ro).round a.eval).run P w=res at h2 ⊢
  have hlet:LetsOut Q→LetsOut Q':=fun⟨a,w,hq⟩=>⟨a,w,h _ _ _ hq⟩
  cases res with
  |ok nx w'=>
   cases nx<;>simp only[Oper.uponIn]at h2 ⊢<;>first
    |exact ih _ _ h2
    |exact⟨h2.1,CallsIn.mono h2.2 (fun e w'' he=>by cases e<;>first|exact ih _ _ he|exact h _ _ _ he|exact hlet he)⟩
    |exact⟨h2.1,RowsIn.mono h2.2 (fun _ _ he=>ih _ _ he)⟩
    |exact⟨h2.1,RoundIn.mono h2.2 (fun e w'' he=>by cases e<;>first|exact ih _ _ he|exact h _ _ _ he|exact hlet he)⟩
    |exact h2
  |halt x w'=>cases x<;>simp only[Oper.uponIn]at h2 ⊢<;>first|exact h _ _ _ h2|exact h2
  rename_i hw
  rw[if_neg hw]at hh
  exact⟨hh.1,ih _ _ hh.2⟩
theorem xo_sound {C:Cx} {T:TT} (hT:TOk C.P T) {all:List Oper} {Q:Bb} {u:Im} {K:St→Prop} {S:List Oper→St→Prop}
 (hK:∀st,K st→Q .normal st u) (hS:∀l st,S l st→XL C all l Q st u) :
 ∀(todo:List Oper) (st:St),xo T C.N all K S todo st→XL C all todo Q st u:=by
 intro todo
 induction todo with
 |nil=>
  intro st h
  unfold xo at h
  split at h
  rename_i hg
  intro E a w hok
  refine wpListIn_nil ⟨E,st.shut,u,fun _ _=>rfl,Nat.le_refl _,Im.le.refl u,⟨hok.agr.shut hg,hok.sat⟩,hK _ h⟩
  exact hS _ _ h
 |cons o r ih=>
  intro st h
  unfold xo at h
  split at h
  exact hS _ _ h
  rename_i g hg
  split at h
  rename_i s side he
  have hnd:=notDefer_of_val he
  have main:∀(st':St),(xo T C.N all K S r st')→sides (gprops st g) side (xo T C.N all K S r st') →
   (∀E a w,Ok C E st u a w→(gs a.tmps g→Ok C E st' u (a.put o.dst (s.den E)) w)∧(¬gs a.tmps g→Ok C E st' u (a.put o.dst undef) w))→st'.nx=st.nx→XL C all (o::r) Q st u:=by
   intro st' hr hsd hput hnx E a w hok
   obtain⟨p1,p2⟩:=hput E a w hok
   have hgd:=guard_sound (all:=all.toArray) hok.agr (by simpa using hg)
   have hlift:∀a':Act,Ok C E st' u a' w→wpListIn (FR C.ro) 0 C.P all.toArray (Cd C E st.nx u Q) r a' w:=fun a' hok'=>by
    have:=ih st' hr E a' w hok'
    rwa [hnx]at this
   unfold wpListIn
   by_cases hw:Region.wanted o (yielded all.toArray a.tmps)=true
   rw[if_pos hw]
   have hgs:=hgd.1 hw
   have hside:=(sides_split hsd).2 (gprops_sound hok.agr hgs (fun _ _ _=>trivial))
   obtain⟨hrun,hlt⟩:=eff_sound hT hok hgs he hside
   refine⟨fun _ _=>trivial,?_⟩
   rw[semAt_eq _ _ _ hnd,hrun,Oper.uponIn_value]
   exact hlift _ (p1 hgs)
   rw[if_neg hw]
   refine⟨fun _ _=>trivial,hlift _ (p2 (hgd.2 (by simpa using hw)))⟩
  split at h
  rename_i d hd
  split at h
  rename_i hf
  rw[St.putK_eq]at h
  have hr:=(sides_split h).1
  refine main _ hr h ?_ (by cases g<;>rfl)
  intro E a w hok
  have hlt:gs a.tmps g→s.lt E st.nx:=fun hgs=>
   (eff_sound hT hok hgs he ((sides_split h).2 (gprops_sound hok.agr hgs (fun _ _ _=>trivial)))).2
  have how:(st.put d g s).ow=st.ow:=by cases g<;>rfl
  have hnx:(st.put d g s).nx=st.nx:=by cases g<;>rfl
  rw[hd]
  refine⟨fun hgs=>⟨hok.agr.put hf hlt (fun _=>rfl) (fun hn=>absurd hgs hn) (fun _=>rfl),?_⟩,
   fun hgs=>⟨hok.agr.put hf hlt (fun hy=>absurd hy hgs) (fun _=>rfl) (fun e=>absurd (by subst e;intro x hx;cases hx) hgs),?_⟩⟩
  rw[how,hnx];exact hok.sat
  rw[how,hnx];exact hok.sat
  exact hS _ _ h
  rename_i hd
  refine main st (sides_split h).1 h ?_ rfl
  intro E a w hok
  rw[hd]
  exact⟨fun _=>hok,fun _=>hok⟩
  split at h
  have hplain:Region.wanted o (yielded all.toArray ([]:List Value).toArray)=true→True:=fun _=>trivial
  have hw:∀(E:Env) (a:Act) (w:World),Ok C E st u a w→Region.wanted o (yielded all.toArray a.tmps)=true:=fun E a w hok=>by
   have hgd:=guard_sound (all:=all.toArray) hok.agr (by simpa using hg)
   cases hh:Region.wanted o (yielded all.toArray a.tmps)with
   |true=>rfl
   |false=>exact absurd (fun x hx=>by cases hx) (hgd.2 hh)
  have hnd:(∃ow s,mem T st o.op=.new ow s)∨(∃ow,mem T st o.op=.upd ow)→∀c,o.op≠.defer c:=by
   rintro h c hc
   rw[hc]at h
   rcases h with⟨ow,s,h⟩|⟨ow,h⟩<;>cases h
  split at h
  rename_i ow s hm
  split at h
  rename_i d hd
  split at h
  rename_i hf
  intro E a w hok
  obtain⟨E',w',h1,h2,h3,f,h4⟩:=mem_new_sound hT hok hm
  unfold wpListIn
  rw[if_pos (hw E a w hok)]
  refine⟨fun _ _=>trivial,?_⟩
  rw[semAt_eq _ _ _ (hnd (.inl ⟨_,_,hm⟩)),h2,Oper.uponIn_value,hd]
  have hagr:Agr C.N E' ({st with nx:=st.nx+1}:St) a.tmps:=
   ⟨hok.agr.size,fun d s a1 a2=>by rw[hok.agr.kn d s a1 a2,SV.den_congr h1 (hok.agr.klt d s a2)],
    fun d g s a1=>⟨fun hgs=>by rw[(hok.agr.gk d g s a1).1 hgs,SV.den_congr h1 (hok.agr.glt d g s a1 hgs)],(hok.agr.gk d g s a1).2⟩,
    fun d s a1=>SV.lt_mono h1 (Nat.le_succ _) (hok.agr.klt d s a1),fun d g s a1 hgs=>SV.lt_mono h1 (Nat.le_succ _) (hok.agr.glt d g s a1 hgs)⟩
  have hput:Agr C.N E' (St.put ({st with nx:=st.nx+1}:St) d [] s) (a.tmps.setIfInBounds d (s.den E')):=
   hagr.put (g:=[]) hf (fun _=>h3) (fun _=>rfl) (fun hn=>absurd (fun x hx=>by cases hx) hn) (fun _=>rfl)
  have:=ih _ h E' (a.put (some d) (s.den E')) w' ⟨⟨hput.size,hput.kn,hput.gk,hput.klt,hput.glt⟩,f,h4⟩
  exact Av (fun e a w=>Cd.mono h1 (Nat.le_succ _) (Im.le.refl u)) _ _ _ this
  exact hS _ _ h
  exact hS _ _ h
  rename_i ow hm
  split at h
  rename_i hd
  intro E a w hok
  obtain⟨w',h2,f,h4⟩:=mem_upd_sound hT hok hm
  unfold wpListIn
  rw[if_pos (hw E a w hok)]
  refine⟨fun _ _=>trivial,?_⟩
  rw[semAt_eq _ _ _ (hnd (.inr ⟨_,hm⟩)),h2,Oper.uponIn_skip,hd]
  exact ih _ h E a w' ⟨⟨hok.agr.size,hok.agr.kn,hok.agr.gk,hok.agr.klt,hok.agr.glt⟩,f,h4⟩
  exact hS _ _ h
  exact hS _ _ h
  exact hS _ _ h
def thn (n:St→Im→Prop) (Q:Bb):Bb:=fun e st u=>
 match e with
 |.normal=>n st u
 |e=>Q e st u
def blk (id:Nat) (Q:Bb):Bb:=fun e st u=>
 match e with
 |.exit j=>match Nat.beq j id with
  |true=>Q .normal st u
  |false=>Q (.exit j) st u
 |e=>Q e st u
def Ways (b:Bool) (p q:Prop):Prop:=(b=true→p)∧(b=false→q)
theorem Ap {b:Bool} {p q:Prop} (h1:b=true→p) (h2:b=false→q):Ways b p q:=⟨h1,h2⟩
theorem stepR_scope {P:Program} {b:Frame} {a:Act} {k:List Item} {cs:List Frame} {w:World} {c:Code} :
 step P (lone (b.atR a (.code (.scope c)::k)) cs w)=.next (lone (b.atR a (.code c::.inScope c::k)) cs w):=
 step_lone_go (by simp[stepG,stepG.exec,Frame.atR])
theorem stepR_inScope {P:Program} {b:Frame} {a:Act} {k:List Item} {cs:List Frame} {w:World} {c:Code} :
 step P (lone (b.atR a (.inScope c::k)) cs w)=.next (lone (b.atR a k) cs w):=
 step_lone_go (by simp[stepG,stepG.exec,Frame.atR])
def noGo (Q:Exit→Act→World→Prop):Exit→Act→World→Prop
 |.goto _,_,_=>False
 |e,a,w=>Q e a w
theorem wpIn_scope {F:Fence} {n:Nat} {P:Program} {Q:Exit→Act→World→Prop} {a:Act} {w:World} {c:Code} (h:c.wpIn F n P (noGo Q) a w):(Code.scope c).wpIn F n P Q a w:=by
 intro b k cs hro hb hr
 have h0:(lone (b.atR a (.code (.scope c)::k)) cs w).fenced P F:=fenced_calm hb hr rfl
 obtain⟨e,a₁,w₁,hq,harr⟩:=h b (.inScope c::k) cs hro hb hr
 cases e with
 |normal=>exact⟨.normal,a₁,w₁,hq,.head h0 stepR_scope (StepsIn.trans harr (.one (fenced_calm hb hr rfl) stepR_inScope))⟩
 |exit id=>
  have hx:exitTo id (.inScope c::k)=exitTo id k:=by simp[exitTo]
  exact⟨.exit id,a₁,w₁,hq,fun k' hk=>.head h0 stepR_scope (harr.1 k' (by rw[hx];exact hk)),
   fun hr' hk=>let⟨k₁,h1,h2⟩:=harr.2 hr' (by rw[hx];exact hk);⟨k₁,h1,.head h0 stepR_scope h2⟩⟩
 |goto l=>exact hq.elim
 |ret=>exact⟨_,a₁,w₁,hq,.of_steps (.one h0 stepR_scope) harr⟩
 |panic ch=>exact⟨_,a₁,w₁,hq,.of_steps (.one h0 stepR_scope) harr⟩
 |outgrown=>exact⟨_,a₁,w₁,hq,.of_steps (.one h0 stepR_scope) harr⟩
def noG (Q:Bb):Bb:=fun e st u=>
 match e with
 |.goto _=>False
 |e=>Q e st u
theorem x_scope {C:Cx} {c:Code} {Q:Bb} {st:St} {u:Im} (h:X C c (noG Q) st u):X C (.scope c) Q st u:=by
 intro E a w hok
 refine wpIn_scope (Go.wpIn_mono (h E a w hok) fun e a' w' hh=>?_)
 obtain⟨E',st',u',h1,h2,h3,h4,h5⟩:=hh
 cases e with
 |goto l=>exact h5.elim
 |normal=>exact⟨E',st',u',h1,h2,h3,h4,h5⟩
 |exit id=>exact⟨E',st',u',h1,h2,h3,h4,h5⟩
 |ret=>exact⟨E',st',u',h1,h2,h3,h4,h5⟩
 |panic c=>exact⟨E',st',u',h1,h2,h3,h4,h5⟩
 |outgrown=>exact⟨E',st',u',h1,h2,h3,h4,h5⟩
def vc (T:TT) (C:Cx):Code→Bb→St→Im→Prop
 |.skip,Q,st,u=>Q .normal st u
 |.label _,Q,st,u=>Q .normal st u
 |.ret,Q,st,u=>Q .ret st u
 |.exit id,Q,st,u=>Q (.exit id) st u
 |.goto l,Q,st,u=>Q (.goto l) st u
 |.seq a b,Q,st,u=>vc T C a (thn (vc T C b Q) Q) st u
 |.cond c x y,Q,st,u=>match opd st [] c with
  |some (.v (.bool b))=>Ways b (vc T C x Q st u) (vc T C y Q st u)
  |_=>X C (.cond c x y) Q st u
 |.block id c,Q,st,u=>vc T C c (blk id Q) st u
 |.scope c,Q,st,u=>vc T C c (noG Q) st u
 |.region id ops draw,Q,st,u=>match draw with
  |false=>xo T C.N ops.toList (fun st=>Q .normal st u) (fun l st=>XL C ops.toList l Q st u) ops.toList st
  |true=>X C (.region id ops true) Q st u
 |c,Q,st,u=>X C c Q st u
theorem X.mono {C:Cx} {c:Code} {Q Q':Bb} {st:St} {u:Im} (h:X C c Q st u) (hq:∀e st' u',u.le u'→Q e st' u'→Q' e st' u'):X C c Q' st u:=fun E a w hok=>
 Go.wpIn_mono (h E a w hok) fun e a' w' hh=>by
  obtain⟨E',st',u',h1,h2,h3,h4,h5⟩:=hh
  exact⟨E',st',u',h1,h2,h3,h4,hq _ _ _ h3 h5⟩
theorem Az {C:Cx} {x y:Code} {Q:Bb} {st:St} {u:Im} (h:X C x (thn (X C y Q) Q) st u):X C (.seq x y) Q st u:=by
 intro E a w hok
 refine wpIn_seq (Go.wpIn_mono (h E a w hok) fun e a' w' hh=>?_)
 obtain⟨E',st',u',h1,h2,h3,h4,h5⟩:=hh
 cases e with
 |normal=>exact Go.wpIn_mono (h5 E' a' w' h4) fun e a w=>Cd.mono h1 h2 h3
 |exit id=>exact⟨E',st',u',h1,h2,h3,h4,h5⟩
 |goto l=>exact⟨E',st',u',h1,h2,h3,h4,h5⟩
 |ret=>exact⟨E',st',u',h1,h2,h3,h4,h5⟩
 |panic c=>exact⟨E',st',u',h1,h2,h3,h4,h5⟩
 |outgrown=>exact⟨E',st',u',h1,h2,h3,h4,h5⟩
theorem x_now {C:Cx} {c:Code} {Q:Bb} {st:St} {u:Im} {e:Exit} (h:Q e st u) (hc:∀(Qf:Exit→Act→World→Prop) a w,Qf e a w→c.wpIn (FR C.ro) 0 C.P Qf a w):X C c Q st u:=
 fun E a w hok=>hc _ a w ⟨E,st,u,fun _ _=>rfl,Nat.le_refl _,Im.le.refl u,hok,h⟩
theorem x_cond {C:Cx} {c:Operand} {x y:Code} {Q:Bb} {st:St} {u:Im} {b:Bool} (hc:opd st [] c=some (.v (.bool b))) (h1:b=true→X C x Q st u) (h2:b=false→X C y Q st u) :
 X C (.cond c x y) Q st u:=by
 intro E a w hok
 have:=(Al hok.agr (fun y hy=>by cases hy) hc).1
 simp only[SV.den]at this
 refine wpIn_cond this ?_
 cases b
 exact h2 rfl E a w hok
 exact h1 rfl E a w hok
theorem x_block {C:Cx} {id:Nat} {c:Code} {Q:Bb} {st:St} {u:Im} (h:X C c (blk id Q) st u):X C (.block id c) Q st u:=by
 intro E a w hok
 refine wpIn_block (Go.wpIn_mono (h E a w hok) fun e a' w' hh=>?_)
 obtain⟨E',st',u',h1,h2,h3,h4,h5⟩:=hh
 cases e with
 |exit j=>
  simp only[Exit.inBlock]
  simp only[blk]at h5
  split at h5
  rename_i hb
  rw[if_pos (Nat.eq_of_beq_eq_true hb)]
  exact⟨E',st',u',h1,h2,h3,h4,h5⟩
  rename_i hb
  rw[if_neg (fun e=>by rw[e,Nat.beq_refl]at hb;cases hb)]
  exact⟨E',st',u',h1,h2,h3,h4,h5⟩
 |normal=>exact⟨E',st',u',h1,h2,h3,h4,h5⟩
 |goto l=>exact⟨E',st',u',h1,h2,h3,h4,h5⟩
 |ret=>exact⟨E',st',u',h1,h2,h3,h4,h5⟩
 |panic c=>exact⟨E',st',u',h1,h2,h3,h4,h5⟩
 |outgrown=>exact⟨E',st',u',h1,h2,h3,h4,h5⟩
theorem x_region {C:Cx} {id:Nat} {ops:Array Oper} {Q:Bb} {st:St} {u:Im} (h:XL C ops.toList ops.toList Q st u):X C (.region id ops false) Q st u:=fun E a w hok=>
 wpIn_region_list (by have:=h E a w hok;simpa using this)
theorem x_vc0 {T:TT} {C:Cx} (hT:TOk C.P T):∀ {c:Code} {Q:Bb} {st:St} {u:Im},vc T C c Q st u→X C c Q st u
 |.skip,Q,st,u,h=>x_now h fun Qf a w=>wpIn_skip
 |.label _,Q,st,u,h=>x_now h fun Qf a w=>wpIn_label
 |.ret,Q,st,u,h=>x_now h fun Qf a w=>wpIn_ret
 |.exit id,Q,st,u,h=>x_now h fun Qf a w=>wpIn_exit
 |.goto l,Q,st,u,h=>x_now h fun Qf a w=>wpIn_goto
 |.seq a b,Q,st,u,h=>by
  refine Az ((x_vc0 hT (c:=a) h).mono fun e st' u' _ hq=>?_)
  cases e with
  |normal=>exact x_vc0 hT (c:=b) hq
  |exit id=>exact hq
  |goto l=>exact hq
  |ret=>exact hq
  |panic c=>exact hq
  |outgrown=>exact hq
 |.cond c x y,Q,st,u,h=>by
  unfold vc at h
  split at h
  rename_i b hb
  exact x_cond hb (fun e=>x_vc0 hT (h.1 e)) (fun e=>x_vc0 hT (h.2 e))
  exact h
 |.block id c,Q,st,u,h=>x_block (x_vc0 hT (c:=c) h)
 |.region id ops draw,Q,st,u,h=>by
  unfold vc at h
  split at h
  exact x_region (xo_sound hT (fun _ h=>h) (fun _ _ h=>h) _ _ h)
  exact h
 |.loop c,Q,st,u,h=>h
 |.rangeFunc g ps a c,Q,st,u,h=>h
 |.scope c,Q,st,u,h=>x_scope (x_vc0 hT (c:=c) h)
 |.refuse why,Q,st,u,h=>h
theorem Ao {T:TT} {C:Cx} (hT:TOk C.P T) {c:Code} {Q:Bb} {st:St} {u:Im} (h:st.force fun st=>vc T C c Q st u):X C c Q st u:=
 x_vc0 hT (by rw[St.force_eq]at h;exact h)
theorem Ab {T:TT} {C:Cx} (hT:TOk C.P T) {all l:List Oper} {Q:Bb} {st:St} {u:Im}
 (h:st.force fun st=>xo T C.N all (fun st=>Q .normal st u) (fun l st=>XL C all l Q st u) l st):XL C all l Q st u:=
 xo_sound hT (fun _ h=>h) (fun _ _ h=>h) _ _ (by rw[St.force_eq]at h;exact h)
def cut (lo:Nat) (u:Im):Im:={u with h:=fun b=>if b<lo then none else u.h b}
structure Im.sub (u u':Im):Prop where
 h:∀b o,u.h b=some o→u'.h b=some o
theorem Im.le.sub {u u':Im} (h:u.le u'):u.sub u':=⟨h.h⟩
theorem Im.sub.trans {a b c:Im} (h:a.sub b) (k:b.sub c):a.sub c:=⟨fun x o hx=>k.h x o (h.h x o hx)⟩
theorem cut_sub (lo:Nat) (u:Im):(cut lo u).sub u:=by
 refine⟨fun b o h=>?_⟩
 simp only[cut]at h
 split at h
 cases h
 exact h
theorem Im.le.cut {u u':Im} (h:u.le u') (lo:Nat):(cut lo u).sub (cut lo u'):=⟨fun b o hb=>by
 simp only[GV.cut]at hb ⊢
 split at hb
 cases hb
 rename_i hn;rw[if_neg hn];exact h.h b o hb⟩
theorem Im.sub.cell {u u':Im} (h:u.sub u') {a:Addr} {x:Value} (hc:u.cell? a=some x):u'.cell? a=some x:=by
 unfold Im.cell? at hc ⊢
 split at hc
 rename_i c t f hb;rw[h.h _ _ hb];exact hc
 cases hc
theorem Aw.sub {u u':Im} {x:Value} {D:Data} (h:Aw u x D) (hu:u.sub u'):Aw u' x D:=by
 obtain⟨A,c,h1,h2,h3,h4⟩:=h
 refine⟨A,c,h1,h2,h3,fun hn=>?_⟩
 obtain⟨ad,h5,h6⟩:=h4 hn
 exact⟨ad,h5,fun i hi j f hf=>hu.cell (h6 i hi j f hf)⟩
def Bc (w:World) (R:Value→Im→Prop):Ending→World→Prop:=fun e w'=>
 ∃v,e=.returned v∧Below w.heap.size w w'∧R v (cut w.heap.size (im w'))
theorem calls_in {ro:Option Nat} {P:Program} {f:FuncId} {args:Array Value} {w:World} {R:Ending→World→Prop} (h:Calls P f args w R):CallsIn (FR ro) 0 P f args w R:=
 (callsIn_wide (n:=0)).2 h
theorem Sat.grow {E:Env} {o:Own} {nx:Nat} {u:Im} {df:List Deferred} {w w':World} {f:Nat→Nat→Prop} (h:Sat E o nx u df w f) (hb:Below w.heap.size w w') :
 ∃u',u.le u'∧Sat E o nx u' df w' f∧(cut w.heap.size (im w')).sub (cut u.lo u'):=by
 have hlt:∀b x,u.h b=some x→b<w.heap.size:=fun b x hx=>(Array.getElem?_eq_some_iff.1 (h.imm.h b x hx)).1
 refine⟨{u with h:=fun b=>if b<w.heap.size then u.h b else w'.heap[b]?},?_,?_,?_⟩
 exact⟨fun b x hx=>by simp only;rw[if_pos (hlt b x hx)];exact hx,rfl,rfl,rfl,rfl⟩
 refine h.step (fun _=>False) (fun _ _=>rfl) (Nat.le_refl _) ⟨fun b x hx=>by simp only;rw[if_pos (hlt b x hx)];exact hx,rfl,rfl,rfl,rfl⟩ ?_ hb.size
  (fun b hb' _=>hb.block b hb') (fun k _=>⟨rfl,fun _=>Iff.rfl⟩) (fun k hk=>hk.elim) (fun k k' b hk=>hk.elim) ?_
 refine⟨fun b x hx=>?_,hb.os.trans h.imm.os,hb.tape.trans h.imm.tape,hb.output.trans h.imm.output,Nat.le_trans h.imm.lo hb.size⟩
 simp only at hx
 split at hx
 rename_i hh;rw[hb.block b hh];exact h.imm.h b x hx
 exact hx
 intro b x hx
 simp only at hx
 split at hx
 exact .inl hx
 exact .inr (by omega)
 refine⟨fun b x hx=>?_⟩
 simp only[cut,im]at hx ⊢
 split at hx
 cases hx
 rename_i hh
 rw[if_neg (by have:=h.imm.lo;omega),if_neg hh]
 exact hx
def callee (st:St) (c:Call):Option Nat:=
 match c.callee with
 |.value f=>match opd st [] f with
  |some (.v (.func (.func g) x y))=>match x.toList,y.toList with
   |[],[]=>some g
   |_,_=>none
  |_=>none
 |_=>none
def argsOf (st:St) (g:Gd):List Operand→Option (List SV)
 |[]=>some []
 |x::r=>match opd st g x with
  |some s=>match argsOf st g r with
   |some l=>some (s::l)
   |none=>none
  |none=>none
theorem argsOf_sound {N:Nat} {E:Env} {st:St} {a:Act} {g:Gd} (h:Agr N E st a.tmps) (hg:gs a.tmps g):∀ {l:List Operand} {ss:List SV},argsOf st g l=some ss →
 l.map a.eval=ss.map (SV.den E)∧∀s∈ss,s.lt E st.nx
 |[],ss,hh=>by cases hh;exact⟨rfl,fun s hs=>by cases hs⟩
 |x::r,ss,hh=>by
  unfold argsOf at hh
  split at hh
  rename_i s hs
  split at hh
  rename_i l hl
  cases hh
  obtain⟨h1,h2⟩:=Al h hg hs
  obtain⟨h3,h4⟩:=argsOf_sound h hg hl
  refine⟨by simp[h1,h3],fun y hy=>?_⟩
  rcases List.mem_cons.1 hy with rfl|hy
  exact h2
  exact h4 y hy
  cases hh
  cases hh
theorem Ah {P:Program} {f:Nat} {fn:Func} {c:Code} (hf:P.funcs[f]?=some fn) (hb:fn.body=some c) (hn:(fn.name == "runtime.NumGoroutine") = false) (args:Array Value) (w:World) :
 (callFunc f args).run P w=.ok (.enter f args) w:=by
 have hn':¬fn.name = "runtime.NumGoroutine" := by simpa using hn
 simp[callFunc,hf,hn',hb]
structure Fn1 (P:Program) (f:Nat):Prop where
 run:∀args w,(callFunc f args).run P w=.ok (.enter f args) w
theorem call_run {P:Program} {a:Act} {o:Oper} {c:Call} {f:Nat} {w:World} (ho:o.op=.call c) {fo:Operand} (hc:c.callee=.value fo) (hfo:a.eval fo=.func (.func f) #[] #[]) (hf:Fn1 P f) :
 (execOp a.eval o).run P w=.ok (.enter f (c.args.map a.eval)) w:=by
 simp[execOp,ho,resolve,hc,hfo,Deferred.ofValue,invoke,hf.run]
theorem call_core {C:Cx} {all:List Oper} {o:Oper} {r:List Oper} {st:St} {u:Im} {c:Call} (R:Value→Im→Prop) (ho:o.op=.call c) (hgd:o.guard=none) {f:Nat}
 (hc:callee st c=some f) (hfn:Fn1 C.P f) {ss:List SV} (hargs:argsOf st [] c.args.toList=some ss)
 (H:∀E w F,Sat E st.ow st.nx u [] w F→Calls C.P f (ss.map (SV.den E)).toArray w (Bc w R))
 {E:Env} {a:Act} {w:World} {Qf:Exit→Act→World→Prop} (hok:Ok C E st u a w) {fF:Nat→Nat→Prop} (hsat:Sat E st.ow st.nx u a.defers w fF)
 (K:∀v w',Below w.heap.size w w'→R v (cut w.heap.size (im w'))→wpListIn (FR C.ro) 0 C.P all.toArray Qf r (a.put o.dst v) w') :
 wpListIn (FR C.ro) 0 C.P all.toArray Qf (o::r) a w:=by
 have hgs:gs a.tmps []:=fun x hx=>by cases hx
 obtain⟨e1,_⟩:=argsOf_sound hok.agr hgs hargs
 have hsat0:Sat E st.ow st.nx u [] w fF:=⟨hsat.holds,hsat.non,hsat.apart,hsat.off,hsat.lt,hsat.imm,[],rfl,List.nodup_nil,fun d hd=>by cases hd⟩
 have hcall:=H E w fF hsat0
 have hrun:(execOp a.eval o).run C.P w=.ok (.enter f (ss.map (SV.den E)).toArray) w:=by
  unfold callee at hc
  split at hc
  rename_i fo hfo
  split at hc
  rename_i g x y hop
  split at hc
  rename_i hx hy
  cases hc
  have hx':x=#[]:=by cases x;simp_all
  have hy':y=#[]:=by cases y;simp_all
  subst hx' hy'
  have:=(Al hok.agr hgs hop).1
  rw[call_run ho hfo this hfn]
  congr 2
  apply Array.ext'
  simp[e1]
  cases hc
  cases hc
  cases hc
 unfold wpListIn
 rw[if_pos (by simp[Region.wanted,hgd])]
 refine⟨fun _ _=>trivial,?_⟩
 rw[semAt_eq _ _ _ (fun c' hc'=>by rw[ho]at hc';cases hc'),hrun,Oper.uponIn_enter]
 refine⟨fun h=>(by cases h),(calls_in hcall).mono ?_⟩
 rintro e w' ⟨v,rfl,hbel,hR⟩
 exact K v w' hbel hR
theorem xl_call {C:Cx} {all:List Oper} {o:Oper} {r:List Oper} {Q:Bb} {kn:Kn} {gk:List (Nat×(Gd×SV))} {ow:Own} {nx:Nat} {u:Im} {c:Call} (R:Value→Im→Prop) (ho:o.op=.call c) (hgd:o.guard=none) {f d:Nat} (hd:o.dst=some d)
 (hc:callee ⟨kn,gk,ow,nx⟩ c=some f) (hfn:Fn1 C.P f) {ss:List SV} (hargs:argsOf ⟨kn,gk,ow,nx⟩ [] c.args.toList=some ss) (hfr:Bg C.N ⟨kn,gk,ow,nx⟩ d []=true)
 (H:∀E w F,Sat E ow nx u [] w F→Calls C.P f (ss.map (SV.den E)).toArray w (Bc w R))
 (K:∀v u1 u',u.le u'→u1.sub (cut u.lo u')→R v u1→XL C all r Q ⟨(d,.v v)::kn,gk,ow,nx⟩ u') :
 XL C all (o::r) Q ⟨kn,gk,ow,nx⟩ u:=by
 intro E a w hok
 obtain⟨fF,hsat⟩:=hok.sat
 refine call_core R ho hgd hc hfn hargs H hok hsat fun v w' hbel hR=>?_
 obtain⟨u',hu,hsat',hsub⟩:=hsat.grow hbel
 have hk:=K v _ u' hu hsub hR
 have hput:Agr C.N E (St.put ⟨kn,gk,ow,nx⟩ d [] (.v v)) (a.tmps.setIfInBounds d v):=
  hok.agr.put (g:=[]) hfr (fun _=>trivial) (fun _=>rfl) (fun hn=>absurd (fun x hx=>(by cases hx)) hn) (fun _=>rfl)
 have:=hk E (a.put (some d) v) w' ⟨⟨hput.size,hput.kn,hput.gk,hput.klt,hput.glt⟩,fF,hsat'⟩
 rw[hd]
 exact Av (fun e a w=>Cd.mono (fun _ _=>rfl) (Nat.le_refl _) hu) _ _ _ this
theorem Sat.keep {E:Env} {o:Own} {nx:Nat} {u:Im} {df:List Deferred} {w w':World} {f:Nat→Nat→Prop} (h:Sat E o nx u df w f) (hb:Below w.heap.size w w'):Sat E o nx u df w' f:=
 h.step (fun _=>False) (fun _ _=>rfl) (Nat.le_refl _) (Im.le.refl u)
  ⟨fun b x hx=>(hb.block b (Array.getElem?_eq_some_iff.1 (h.imm.h b x hx)).1).trans (h.imm.h b x hx),hb.os.trans h.imm.os,hb.tape.trans h.imm.tape,hb.output.trans h.imm.output,Nat.le_trans h.imm.lo hb.size⟩ hb.size
  (fun b hb' _=>hb.block b hb') (fun _ _=>⟨rfl,fun _=>Iff.rfl⟩) (fun _ hk=>hk.elim) (fun _ _ _ hk=>hk.elim) (fun _ _ ho=>.inl ho)
theorem Am {C:Cx} {all:List Oper} {o:Oper} {r:List Oper} {Q:Bb} {kn:Kn} {gk:List (Nat×(Gd×SV))} {ow:Own} {nx:Nat} {u:Im} {c:Call} (v:Value) (ho:o.op=.call c) (hgd:o.guard=none) {f d:Nat} (hd:o.dst=some d)
 (hc:callee ⟨kn,gk,ow,nx⟩ c=some f) (hfn:Fn1 C.P f) {ss:List SV} (hargs:argsOf ⟨kn,gk,ow,nx⟩ [] c.args.toList=some ss) (hfr:Bg C.N ⟨kn,gk,ow,nx⟩ d []=true)
 (H:∀E w F,Sat E ow nx u [] w F→Calls C.P f (ss.map (SV.den E)).toArray w (Bc w fun x _=>x=v))
 (K:XL C all r Q ⟨(d,.v v)::kn,gk,ow,nx⟩ u) :
 XL C all (o::r) Q ⟨kn,gk,ow,nx⟩ u:=by
 intro E a w hok
 obtain⟨fF,hsat⟩:=hok.sat
 refine call_core _ ho hgd hc hfn hargs H hok hsat fun x w' hbel hR=>?_
 subst hR
 have hput:Agr C.N E (St.put ⟨kn,gk,ow,nx⟩ d [] (.v x)) (a.tmps.setIfInBounds d x):=
  hok.agr.put (g:=[]) hfr (fun _=>trivial) (fun _=>rfl) (fun hn=>absurd (fun x hx=>(by cases hx)) hn) (fun _=>rfl)
 rw[hd]
 exact K E (a.put (some d) x) w' ⟨⟨hput.size,hput.kn,hput.gk,hput.klt,hput.glt⟩,fF,hsat.keep hbel⟩
def resV (T:TT) (st:St):List ResultVar→Option (List SV)
 |[]=>some []
 |.tmp t::r=>match opd st [] (.tmp t),resV T st r with
  |some s,some l=>some (s::l)
  |_,_=>none
 |.cell a t::r=>match effLoad T st t (opd st [] (.tmp a)),resV T st r with
  |.val s [],some l=>some (s::l)
  |_,_=>none
def tupV:List Value→Value
 |[x]=>x
 |l=>.tuple l.toArray
def FinQ (T:TT) (rs:List ResultVar) (K:List SV→St→Im→Prop):Bb:=fun e st u=>
 match e with
 |.normal=>match resV T st rs with
  |some l=>K l st u
  |none=>False
 |.ret=>match resV T st rs with
  |some l=>K l st u
  |none=>False
 |_=>False
theorem run_asAddr_load {C:Cx} {T:TT} {E:Env} {st:St} {u:Im} {a:Act} {w:World} (hT:TOk C.P T) (hok:Ok C E st u a w) {ad t:Nat} {s:SV}
 (h:effLoad T st t (opd st [] (.tmp ad))=.val s []):(do loadVar t (←asAddr (a.tmps.getD ad undef)):Sem Value).run C.P w=.ok (s.den E) w:=by
 have hgs:gs a.tmps []:=fun x hx=>by cases hx
 have hx:∀z,opd st [] (.tmp ad)=some z→a.eval (.tmp ad)=z.den E∧z.lt E st.nx:=fun z hz=>Al hok.agr hgs hz
 have h1:=(load_sound (w:=w) (x:=.tmp ad) hT hok hx h).1
 have hev:a.eval (.tmp ad)=a.tmps.getD ad undef:=rfl
 rw[hev]at h1
 cases hv:a.tmps.getD ad undef with
 |pointer p=>
  rw[hv]at h1
  cases p with
  |none=>simp[Instr.loadAt,Instr.sureAddr,stuck,Sem.run]at h1
  |some q=>simpa[Instr.loadAt,Instr.sureAddr,asAddr]using h1
 |_=>rw[hv]at h1;simp[Instr.loadAt,Instr.sureAddr,stuck,Sem.run]at h1
def rdVar (tmps:Array Value):ResultVar→Sem Value
 |.tmp t=>pure (tmps.getD t undef)
 |.cell ad t=>do loadVar t (←asAddr (tmps.getD ad undef))
theorem results_eq (fn:Func) (tmps:Array Value):results fn tmps=(do
 let vs ←fn.results.mapM (rdVar tmps)
 pure (if h:vs.size=1 then vs[0]else .tuple vs)):=by
 unfold results
 congr 2
theorem resV_sound {C:Cx} {T:TT} {E:Env} {st:St} {u:Im} {a:Act} {w:World} (hT:TOk C.P T) (hok:Ok C E st u a w):∀ {rs:List ResultVar} {l:List SV},resV T st rs=some l →
 (rs.mapM (rdVar a.tmps)).run C.P w=.ok (l.map (SV.den E)) w
 |[],l,h=>by cases h;simp
 |.tmp t::r,l,h=>by
  unfold resV at h
  split at h
  rename_i s l' h1 h2
  cases h
  have hgs:gs a.tmps []:=fun x hx=>by cases hx
  have e1:a.tmps.getD t undef=s.den E:=(Al hok.agr hgs h1).1
  have ih:=resV_sound hT hok h2
  rw[List.mapM_cons]
  simp only[rdVar,Sem.run_bind,Sem.run_pure,Result.andThen_ok,e1,ih,List.map_cons]
  cases h
 |.cell ad t::r,l,h=>by
  unfold resV at h
  split at h
  rename_i s l' h1 h2
  cases h
  have e1:(rdVar a.tmps (.cell ad t)).run C.P w=.ok (s.den E) w:=run_asAddr_load hT hok h1
  have ih:=resV_sound hT hok h2
  rw[List.mapM_cons,Sem.run_bind,e1]
  simp only[Sem.run_bind,Sem.run_pure,Result.andThen_ok,ih,List.map_cons]
  cases h
theorem results_sound {C:Cx} {T:TT} {E:Env} {st:St} {u:Im} {a:Act} {w:World} (hT:TOk C.P T) (hok:Ok C E st u a w) {fn:Func} {l:List SV} (h:resV T st fn.results.toList=some l) :
 (results fn a.tmps).run C.P w=.ok (tupV (l.map (SV.den E))) w:=by
 have h1:=resV_sound hT hok h
 rw[results_eq,Array.mapM_eq_mapM_toList]
 simp[h1]
 match l with
 |[]=>rfl
 |[x]=>rfl
 |x::y::r=>simp[tupV]
theorem Sat.unmark {P:Program} {E:Env} {o:Own} {nx:Nat} {u:Im} {f:Nat→Nat→Prop} {d:Nat} {ds:List Nat} {w:World} (h:Sat E o nx u ((d::ds).map (fun d=>({target:=.collected d,args:=#[]}:Deferred))) w f) :
 ∃w',(Instr.takeDeferred d).run P w=.ok [] w'∧Sat E o nx u (ds.map (fun d=>({target:=.collected d,args:=#[]}:Deferred))) w' f:=by
 obtain⟨ds',h1,h2,h3⟩:=h.marks
 have hds:ds'=d::ds:=by
  have hinj:∀(l l':List Nat),l.map (fun d=>({target:=.collected d,args:=#[]}:Deferred))=l'.map (fun d=>({target:=.collected d,args:=#[]}:Deferred))→l=l':=by
   intro l
   induction l with
   |nil=>intro l' e;cases l'<;>simp_all
   |cons x r ih=>
    intro l' e
    cases l' with
    |nil=>simp at e
    |cons y r'=>
     simp only[List.map_cons,List.cons.injEq]at e
     have h1:x=y:=by have:=e.1;simpa using this
     rw[h1,ih r' e.2]
  exact(hinj _ _ h1).symm
 subst hds
 obtain⟨hd,hu,hf⟩:=h3 d (List.mem_cons_self ..)
 have hlt:d<w.heap.size:=(Array.getElem?_eq_some_iff.1 hd).1
 have hoth:∀b,b≠d→(w.putObj d (.deferred none)).heap[b]?=w.heap[b]?:=fun b hb=>World.putObj_heap_other hb
 refine⟨_,run_takeDeferred hd,?_⟩
 have hsz:(w.putObj d (.deferred none)).heap.size=w.heap.size:=by simp[World.putObj]
 have himm:Imm u (w.putObj d (.deferred none)):=⟨fun b x hx=>by
  rw[hoth b (fun e=>by subst e;rw[hu]at hx;cases hx)];exact h.imm.h b x hx,h.imm.os,h.imm.tape,h.imm.output,by have:=h.imm.lo;omega⟩
 refine⟨fun k r hl=>?_,h.non,h.apart,h.off,h.lt,himm,ds,rfl,(List.nodup_cons.1 h2).2,fun d' hd'=>?_⟩
 exact Rs.holds_local (fun b hb=>hoth b (fun e=>hf k (e▸hb))) himm (by omega) (h.holds k r hl)
 obtain⟨h4,h5,h6⟩:=h3 d' (List.mem_cons_of_mem _ hd')
 exact⟨(hoth d' (fun e=>(List.nodup_cons.1 h2).1 (e▸hd'))).trans h4,h5,h6⟩
theorem leaves {C:Cx} {T:TT} (hT:TOk C.P T) {fn:Func} {E:Env} {st:St} {u:Im} {tmps:Array Value} {R:Ending→World→Prop} {l:List SV} (hagr:Agr C.N E st tmps) (hres:resV T st fn.results.toList=some l)
 {f:Nat→Nat→Prop} (hR:∀w,Sat E st.ow st.nx u [] w f→R (.returned (tupV (l.map (SV.den E)))) w) :
 ∀(ds:List Nat) (w:World),Sat E st.ow st.nx u (ds.map (fun d=>({target:=.collected d,args:=#[]}:Deferred))) w f →
  LeavesInM (FR none) 0 C.P fn tmps R (ds.map (fun d=>({target:=.collected d,args:=#[]}:Deferred))) .returning w
 |[],w,h=>by
  have hok:Ok C E st u {tmps:=tmps,defers:=[]} w:=⟨hagr,f,h⟩
  exact⟨_,results_sound hT hok hres,hR w h⟩
 |d::ds,w,h=>by
  obtain⟨w',h1,h2⟩:=h.unmark (P:=C.P)
  exact⟨by simp,.inl ⟨d,w',rfl,h1,leaves hT hagr hres hR ds w' h2⟩⟩
def envOf (bs:List (Value×Data)):Env:=fun k=>((bs[k]?).map (·.1)).getD undef
def ownOf:Nat→List (Value×Data)→Own
 |_,[]=>[]
 |k,(_,D)::r=>(k,.sl D)::ownOf (k+1) r
def knOf:Nat→List SV→Kn
 |_,[]=>[]
 |k,s::r=>(k,s)::knOf (k+1) r
theorem ownOf_look:∀ {k:Nat} {bs:List (Value×Data)} {j:Nat} {r:Rs},look (ownOf k bs) j=some r→k≤j∧∃b,bs[j-k]?=some b∧r=.sl b.2
 |k,[],j,r,h=>by cases h
 |k,(v,D)::t,j,r,h=>by
  simp only[ownOf]at h
  rw[Ac]at h
  split at h
  rename_i e;subst e;cases h;exact⟨Nat.le_refl _,(v,D),by simp,rfl⟩
  rename_i e
  obtain⟨h1,b',h2,h3⟩:=ownOf_look h
  refine⟨by omega,b',?_,h3⟩
  rw[show j-k=(j-(k+1))+1 by omega]
  simpa using h2
theorem knOf_look:∀ {k:Nat} {ss:List SV} {j:Nat} {s:SV},look (knOf k ss) j=some s→k≤j∧ss[j-k]?=some s
 |k,[],j,s,h=>by cases h
 |k,b::t,j,s,h=>by
  simp only[knOf]at h
  rw[Ac]at h
  split at h
  rename_i e;subst e;cases h;exact⟨Nat.le_refl _,by simp⟩
  rename_i e
  obtain⟨h1,h2⟩:=knOf_look h
  refine⟨by omega,?_⟩
  rw[show j-k=(j-(k+1))+1 by omega]
  simpa using h2
def svOk (n:Nat):List SV→Bool
 |[]=>true
 |.v _::r=>svOk n r
 |.r k::r=>match Nat.blt k n with
  |true=>svOk n r
  |false=>false
 |_::_=>false
theorem svOk_spec {bs:List (Value×Data)} {u:Im} (hbs:∀b∈bs,Aw u b.1 b.2):∀ {ss:List SV},svOk bs.length ss=true→∀s∈ss,s.lt (envOf bs) bs.length
 |[],_,s,hs=>by cases hs
 |x::r,h,s,hs=>by
  unfold svOk at h
  split at h
  cases ‹_=[]›
  rename_i y t e
  cases e
  rcases List.mem_cons.1 hs with rfl|hs
  trivial
  exact svOk_spec hbs h s hs
  rename_i k t e
  cases e
  split at h
  rename_i hk
  rcases List.mem_cons.1 hs with rfl|hs
  have hk':k<bs.length:=Nat.le_of_ble_eq_true hk
  obtain⟨A,c,h1,_⟩:=hbs bs[k] (List.getElem_mem hk')
  exact⟨hk',A,bs[k].2.n,c,by simp only[envOf,List.getElem?_eq_getElem hk',Option.map_some,Option.getD_some];exact h1⟩
  exact svOk_spec hbs h s hs
  cases h
  cases h
theorem x_enter {T:TT} {P:Program} (hT:TOk P T) {f N:Nat} {fn:Func} {c:Code} (hf:P.funcs[f]?=some fn) (hb:fn.body=some c) (hN:fn.ntmps=N)
 {args:Array Value} {w:World} {R:Ending→World→Prop} (bs:List (Value×Data)) (nx:Nat) (ss:List SV) (hnx:bs.length=nx) (hargs:args=(ss.map (SV.den (envOf bs))).toArray) (hle:Nat.ble ss.length N=true) (hss:svOk bs.length ss=true)
 (hbs:∀b∈bs,Aw (im w) b.1 b.2)
 (h:X ⟨P,none,N⟩ c (FinQ T fn.results.toList fun l st u=>(im w).le u→∀E w' F,Sat E st.ow st.nx u [] w' F→R (.returned (tupV (l.map (SV.den E)))) w')
  ⟨knOf 0 ss,[],ownOf 0 bs,nx⟩ (im w)) :
 Calls P f args w R:=by
 subst hnx
 refine(callsIn_wide (n:=0)).1 (callsIn_of_wp_marks hf hb trivial ?_ rfl)
 have hle':ss.length≤N:=Nat.le_of_ble_eq_true hle
 have hagr:Agr N (envOf bs) ⟨knOf 0 ss,[],ownOf 0 bs,bs.length⟩ (args++Array.replicate (fn.ntmps-args.size) undef):=by
  refine⟨?_,?_,fun d g s h=>(by cases h),?_,fun d g s h=>(by cases h)⟩
  rw[hargs,hN];simp;omega
  intro d s _ h2
  have h3:=(knOf_look h2).2
  rw[Nat.sub_zero]at h3
  have hd:d<ss.length:=(List.getElem?_eq_some_iff.1 h3).1
  rw[hargs,Array.getElem?_append_left (by simpa using hd)]
  simp[h3]
  intro d s h2
  have h3:=(knOf_look h2).2
  exact svOk_spec hbs hss s (List.mem_of_getElem? h3)
 have hsat:Sat (envOf bs) (ownOf 0 bs) bs.length (im w) [] w (fun _ _=>False):=by
  refine⟨fun k r hl=>?_,fun _ _ _ h=>h,fun _ _ _ _ h=>h.elim,fun _ _ h=>h.elim,fun k r hl=>?_,imm_im w,[],rfl,List.nodup_nil,fun d hd=>(by cases hd)⟩
  obtain⟨_,b,h1,rfl⟩:=ownOf_look hl
  rw[Nat.sub_zero]at h1
  refine⟨?_,fun _ h=>h⟩
  have:=hbs b (List.mem_of_getElem? h1)
  simpa[envOf,h1]using this
  obtain⟨_,b,h1,rfl⟩:=ownOf_look hl
  rw[Nat.sub_zero]at h1
  exact⟨(List.getElem?_eq_some_iff.1 h1).1,trivial⟩
 refine Go.wpIn_mono (h _ {tmps:=args++Array.replicate (fn.ntmps-args.size) undef,defers:=[]} w ⟨hagr,_,hsat⟩) ?_
 rintro e a' w' ⟨E',st',u',h1,h2,h3,hok',h5⟩
 obtain⟨F,hs⟩:=hok'.sat
 have fin:∀l,resV T st' fn.results.toList=some l→((im w).le u'→∀E w' F,Sat E st'.ow st'.nx u' [] w' F→R (.returned (tupV (l.map (SV.den E)))) w') →
  LeavesInM (FR none) 0 P fn a'.tmps R a'.defers .returning w':=by
  intro l hl hK
  obtain⟨ds,hds,_⟩:=hs.marks
  rw[hds]at hs ⊢
  exact leaves (C:=⟨P,none,N⟩) hT hok'.agr hl (fun w'' hw=>hK h3 E' w'' F hw) ds w' hs
 cases e with
 |normal=>
  simp only[FinQ]at h5
  split at h5
  rename_i l hl;exact fin l hl h5
  exact h5.elim
 |ret=>
  simp only[FinQ]at h5
  split at h5
  rename_i l hl;exact fin l hl h5
  exact h5.elim
 |exit id=>exact h5.elim
 |goto l=>exact h5.elim
 |panic c=>exact h5.elim
 |outgrown=>exact h5.elim
theorem Sat.below {E:Env} {o:Own} {nx:Nat} {u:Im} {df:List Deferred} {w0 w:World} {f:Nat→Nat→Prop} (h:Sat E o nx u df w f) (hu:(im w0).le u):Below w0.heap.size w0 w:=by
 refine⟨h.imm.os.trans hu.os,h.imm.tape.trans hu.tape,h.imm.output.trans hu.output,?_,fun k hk=>?_⟩
 have:=h.imm.lo;rw[hu.lo]at this;exact this
 have h1:(im w0).h k=some (w0.heap[k]'hk):=Array.getElem?_eq_getElem hk
 rw[h.imm.h k _ (hu.h k _ h1),Array.getElem?_eq_getElem hk]
def Done (w0:World) (R:Value→Im→Prop) (l:List SV) (ow:Own) (nx:Nat) (u:Im):Prop:=
 (im w0).le u→∀E w' F,Sat E ow nx u [] w' F→Bc w0 R (.returned (tupV (l.map (SV.den E)))) w'
theorem Ay {w0:World} {R:Value→Im→Prop} {ow:Own} {nx:Nat} {u:Im} {l:List SV} (h:∀E u,R (tupV (l.map (SV.den E))) u):Done w0 R l ow nx u:=
 fun hu _ _ _ hs=>⟨_,rfl,hs.below hu,h _ _⟩
theorem finP {w0:World} {R:Value→Im→Prop} {ow:Own} {nx:Nat} {u:Im} {l:List SV}
 (h:∀E w' F,Sat E ow nx u [] w' F→(im w0).le u→R (tupV (l.map (SV.den E))) (cut w0.heap.size (im w'))):Done w0 R l ow nx u:=
 fun hu E w' F hs=>⟨_,rfl,hs.below hu,h E w' F hs hu⟩
def FinP (T:TT) (rs:List ResultVar) (w0:World) (R:Value→Im→Prop):Bb:=FinQ T rs fun l st u=>
 match st with
 |⟨_,_,ow,nx⟩=>Done w0 R l ow nx u
theorem Bq {T:TT} {P:Program} (hT:TOk P T) {f N:Nat} {fn:Func} {c:Code} (hf:P.funcs[f]?=some fn) (hb:fn.body=some c) (hN:fn.ntmps=N)
 {args:Array Value} {w:World} {R:Value→Im→Prop} (bs:List (Value×Data)) (nx:Nat) (ss:List SV) (hnx:bs.length=nx) (hargs:args=(ss.map (SV.den (envOf bs))).toArray) (hle:Nat.ble ss.length N=true) (hss:svOk bs.length ss=true)
 (hbs:∀b∈bs,Aw (im w) b.1 b.2)
 (h:X ⟨P,none,N⟩ c (FinP T fn.results.toList w R) ⟨knOf 0 ss,[],ownOf 0 bs,nx⟩ (im w)) :
 Calls P f args w (Bc w R):=
 x_enter hT hf hb hN bs nx ss hnx hargs hle hss hbs (h.mono fun e st u _ hq=>by
  cases e<;>simp only[FinP,FinQ,Done]at hq ⊢
  all_goals (split at hq<;>first|exact hq|exact hq.elim))
abbrev Ren:=List (Nat×Option Nat)
def renK (ρ:Ren) (k:Nat):Nat:=
 match look ρ k with
 |some (some j)=>j
 |_=>k
def nilK (ρ:Ren) (k:Nat):Bool:=
 match look ρ k with
 |some none=>true
 |_=>false
def renE (ρ:Ren) (E:Env):Env:=fun k=>
 match look ρ k with
 |some (some j)=>E j
 |some none=>.slice none 0 0
 |none=>E k
def SV.ren (ρ:Ren):SV→SV
 |.v x=>.v x
 |.p k off=>.p (renK ρ k) off
 |.r k=>match nilK ρ k with
  |true=>.v (.slice none 0 0)
  |false=>.r (renK ρ k)
 |.e k sz i off=>.e (renK ρ k) sz i off
 |.clo f ks=>.clo f (ks.map (renK ρ))
 |.tup l=>.tup l
def SV.inB (ρ:Ren) (n:Nat):SV→Bool
 |.v _=>true
 |.p k _=>match Nat.blt k n with
  |true=>!nilK ρ k
  |false=>false
 |.r k=>Nat.blt k n
 |.e k _ _ _=>match Nat.blt k n with
  |true=>!nilK ρ k
  |false=>false
 |.clo _ ks=>ks.all (fun k=>Nat.blt k n&&!nilK ρ k)
 |.tup _=>false
theorem renE_of {ρ:Ren} {E:Env} {k:Nat} (h:nilK ρ k=false):renE ρ E k=E (renK ρ k):=by
 unfold nilK at h
 unfold renE renK
 split at h
 cases h
 rename_i hh
 cases hl:look ρ k with
 |none=>rfl
 |some x=>
  cases x with
  |none=>exact absurd hl hh
  |some j=>rfl
theorem renE_nil {ρ:Ren} {E:Env} {k:Nat} (h:nilK ρ k=true):renE ρ E k=.slice none 0 0:=by
 unfold nilK at h
 unfold renE
 split at h
 rename_i hl;rw[hl]
 cases h
theorem Cp {a b:Nat} (h:Nat.blt a b=true):a<b:=Nat.le_of_ble_eq_true h
theorem SV.ren_den {ρ:Ren} {E:Env} {n m:Nat} {s:SV} (hb:s.inB ρ n=true) (hl:(s.ren ρ).lt E m):(s.ren ρ).den E=s.den (renE ρ E)∧s.lt (renE ρ E) n:=by
 cases s with
 |v x=>exact⟨rfl,trivial⟩
 |p k off=>
  simp only[inB]at hb
  split at hb
  rename_i hk
  have hn:nilK ρ k=false:=by simpa using hb
  simp only[ren,den,ptrOf,renE_of hn]
  exact⟨trivial,Cp hk,by obtain⟨a,ha⟩:=hl.2;exact⟨a,by rw[renE_of hn];exact ha⟩⟩
  cases hb
 |r k=>
  simp only[inB]at hb
  simp only[ren]at hl ⊢
  split
  rename_i hn
  simp only[den,renE_nil hn]
  exact⟨trivial,Cp hb,none,0,0,renE_nil hn⟩
  rename_i hn
  rw[hn]at hl
  simp only[den,renE_of hn]
  obtain⟨_,A,l,c,h⟩:=hl
  exact⟨trivial,Cp hb,A,l,c,by rw[renE_of hn];exact h⟩
 |e k sz i off=>
  simp only[inB]at hb
  split at hb
  rename_i hk
  have hn:nilK ρ k=false:=by simpa using hb
  simp only[ren,den,elOf,renE_of hn]
  obtain⟨_,a,l,c,h1,h2⟩:=hl
  exact⟨trivial,Cp hk,a,l,c,by rw[renE_of hn];exact h1,h2⟩
  cases hb
 |clo f ks=>
  simp only[inB,List.all_eq_true,Bool.and_eq_true,Bool.not_eq_true']at hb
  simp only[ren,den]
  constructor
  congr 2
  rw[List.map_map]
  refine List.map_congr_left fun k hk=>?_
  simp only[Function.comp,ptrOf,renE_of (hb k hk).2]
  intro k hk
  obtain⟨_,a,ha⟩:=hl (renK ρ k) (List.mem_map_of_mem hk)
  exact⟨Cp (hb k hk).1,a,by rw[renE_of (hb k hk).2];exact ha⟩
 |tup l=>cases hb
def Rs.ren (ρ:Ren):Rs→Rs
 |.box t cs=>.box t (cs.map (SV.ren ρ))
 |r=>r
def subKn (ρ:Ren) (n:Nat) (st:St):Kn→Prop
 |[]=>True
 |(d,s)::r=>(look st.kn d=some (s.ren ρ))∧(s.inB ρ n=true∧subKn ρ n st r)
def rsInB (ρ:Ren) (n:Nat):Rs→Bool
 |.box _ cs=>cs.all (SV.inB ρ n)
 |_=>true
def subOw (ρ:Ren) (n:Nat) (st:St):Own→Prop
 |[]=>True
 |(k,r)::t=>(match nilK ρ k with
  |true=>∃e D,r=.row e D∧D.n=0
  |false=>look st.ow (renK ρ k)=some (r.ren ρ))∧((Nat.blt k n=true∧rsInB ρ n r=true)∧subOw ρ n st t)
def elemB (x:Nat):List Nat→Bool
 |[]=>false
 |y::r=>match Nat.beq x y with
  |true=>true
  |false=>elemB x r
theorem elemB_mem {x:Nat}:∀ {l:List Nat},elemB x l=false→x∉l
 |[],_,h=>by cases h
 |y::r,h,hm=>by
  unfold elemB at h
  split at h
  cases h
  rename_i hb
  rcases List.mem_cons.1 hm with rfl|hm
  rw[Nat.beq_refl]at hb;cases hb
  exact elemB_mem h hm
def apartB:List Nat→Bool
 |[]=>true
 |x::r=>match elemB x r with
  |true=>false
  |false=>apartB r
def keepB (n:Nat):Ren→Bool
 |[]=>true
 |(k,_)::r=>match Nat.ble n k with
  |true=>keepB n r
  |false=>false
theorem keepB_look {n:Nat}:∀ {ρ:Ren},keepB n ρ=true→∀k,k<n→look ρ k=none
 |[],_,k,_=>rfl
 |(j,x)::r,h,k,hk=>by
  unfold keepB at h
  split at h
  rename_i hb
  have:=Nat.le_of_ble_eq_true hb
  rw[Ac,if_neg (by omega)]
  exact keepB_look h k hk
  cases h
structure Sub (keep:Nat) (ρ:Ren) (st hd:St):Prop where
 keep:keepB keep ρ=true
 kn:subKn ρ hd.nx st hd.kn
 ow:subOw ρ hd.nx st hd.ow
 apart:apartB ((hd.ow.filter (fun x=>!nilK ρ x.1)).map (fun x=>renK ρ x.1))=true
 gk:st.gk=[]
 gk':hd.gk=[]
theorem subKn_look {ρ:Ren} {n:Nat} {st:St}:∀ {l:Kn},subKn ρ n st l→∀d s,look l d=some s→look st.kn d=some (s.ren ρ)∧s.inB ρ n=true
 |[],_,d,s,h=>by cases h
 |(k,x)::r,hh,d,s,h=>by
  rw[Ac]at h
  split at h
  rename_i e;subst e;cases h;exact⟨hh.1,hh.2.1⟩
  exact subKn_look hh.2.2 d s h
theorem subOw_look {ρ:Ren} {n:Nat} {st:St}:∀ {l:Own},subOw ρ n st l→∀k r,look l k=some r →
 (nilK ρ k=true→∃e D,r=.row e D∧D.n=0)∧(nilK ρ k=false→look st.ow (renK ρ k)=some (r.ren ρ))∧k<n∧rsInB ρ n r=true
 |[],_,d,s,h=>by cases h
 |(k,x)::t,hh,d,s,h=>by
  rw[Ac]at h
  split at h
  rename_i e
  subst e;cases h
  obtain⟨h1,⟨h2,h3⟩,_⟩:=hh
  refine⟨fun hn=>?_,fun hn=>?_,Cp h2,h3⟩
  rw[hn]at h1;exact h1
  rw[hn]at h1;exact h1
  exact subOw_look hh.2.2 d s h
theorem look_mem {α:Type}:∀ {l:List (Nat×α)} {k:Nat} {x:α},look l k=some x→(k,x)∈l
 |[],_,_,h=>by cases h
 |(d,y)::r,k,x,h=>by
  rw[Ac]at h
  split at h
  rename_i e;subst e;cases h;exact List.mem_cons_self ..
  exact List.mem_cons_of_mem _ (look_mem h)
theorem apartB_inj {ρ:Ren}:∀ {l:Own},apartB ((l.filter (fun x=>!nilK ρ x.1)).map (fun x=>renK ρ x.1))=true→∀k k' r r',look l k=some r→look l k'=some r' →
 nilK ρ k=false→nilK ρ k'=false→k≠k'→renK ρ k≠renK ρ k'
 |[],_,k,k',r,r',h,_,_,_,_=>by cases h
 |(j,x)::t,hh,k,k',r,r',h,h',hn,hn',hne=>by
  have hmem:∀k r,look t k=some r→nilK ρ k=false→renK ρ k∈(t.filter (fun x=>!nilK ρ x.1)).map (fun x=>renK ρ x.1):=fun k r h hn=>
   List.mem_map.2 ⟨(k,r),List.mem_filter.2 ⟨look_mem h,by simp[hn]⟩,rfl⟩
  have tail:nilK ρ j=true∨nilK ρ j=false→apartB ((t.filter (fun x=>!nilK ρ x.1)).map (fun x=>renK ρ x.1))=true:=by
   rintro(hj|hj)
   simpa[List.filter_cons,hj]using hh
   simp only[List.filter_cons,hj,Bool.not_false,if_true,List.map_cons,apartB]at hh
   split at hh
   cases hh
   exact hh
  have ht:=tail (by cases nilK ρ j<;>simp)
  have head:nilK ρ j=false→∀k r,look t k=some r→nilK ρ k=false→renK ρ j≠renK ρ k:=by
   intro hj k r hk hn e
   simp only[List.filter_cons,hj,Bool.not_false,if_true,List.map_cons,apartB]at hh
   split at hh
   cases hh
   rename_i he
   exact elemB_mem he (e▸hmem k r hk hn)
  rw[Ac]at h h'
  split at h
  rename_i e
  split at h'
  rename_i e';exact absurd (e.symm.trans e') hne
  subst e;exact head hn k' r' h' hn'
  split at h'
  rename_i e';subst e';exact fun e=>head hn' k r h hn e.symm
  exact apartB_inj ht k k' r r' h h' hn hn' hne
theorem Rs.ren_holds {ρ:Ren} {E:Env} {k n m:Nat} {F:Nat→Prop} {u:Im} {w:World} {r:Rs} (hn:nilK ρ k=false) (hb:rsInB ρ n r=true) (hl:(r.ren ρ).lt E m)
 (h:(r.ren ρ).holds E (renK ρ k) F u w):r.holds (renE ρ E) k F u w∧r.lt (renE ρ E) n:=by
 cases r with
 |box t cs=>
  obtain⟨b,h1,h2,h3⟩:=h
  simp only[rsInB,List.all_eq_true]at hb
  simp only[ren,lt]at hl
  have key:∀s∈cs,(s.ren ρ).den E=s.den (renE ρ E)∧s.lt (renE ρ E) n:=fun s hs=>SV.ren_den (hb s hs) (hl _ (List.mem_map_of_mem hs))
  refine⟨⟨b,by rw[renE_of hn];exact h1,h2,?_⟩,fun s hs=>(key s hs).2⟩
  rw[h3,List.map_map]
  congr 3
  exact List.map_congr_left fun s hs=>(key s hs).1
 |row e D=>exact⟨by simp only[holds,renE_of hn];exact h,trivial⟩
 |sl D=>exact⟨by simp only[holds,renE_of hn];exact h,trivial⟩
 |gen A=>exact⟨h,trivial⟩
 |emp=>exact⟨h,trivial⟩
theorem flat_nil {D:Data} (h:D.n=0):D.flat=[]:=by simp[Data.flat,h]
theorem Sub.ok {C:Cx} {E:Env} {st hd:St} {u:Im} {a:Act} {w:World} {keep:Nat} {ρ:Ren} (h:Sub keep ρ st hd) (hok:Ok C E st u a w) :
 ∃E',(∀k,k<keep→E' k=E k)∧Ok C E' hd u a w:=by
 refine⟨renE ρ E,fun k hk=>?_,?_,?_⟩
 have:=keepB_look h.keep k hk
 unfold renE;rw[this]
 refine⟨hok.agr.size,?_,?_,?_,?_⟩
 intro d s _ h2
 obtain⟨h3,h4⟩:=subKn_look h.kn d s h2
 have h5:=hok.agr.kn d _ (by rw[h.gk];rfl) h3
 rw[h5,(SV.ren_den h4 (hok.agr.klt d _ h3)).1]
 intro d g s h1;rw[h.gk']at h1;cases h1
 intro d s h2
 obtain⟨h3,h4⟩:=subKn_look h.kn d s h2
 exact(SV.ren_den h4 (hok.agr.klt d _ h3)).2
 intro d g s h1;rw[h.gk']at h1;cases h1
 obtain⟨f,hs⟩:=hok.sat
 have hk:∀k r,look hd.ow k=some r→nilK ρ k=false→r.holds (renE ρ E) k (f (renK ρ k)) u w∧r.lt (renE ρ E) hd.nx:=by
  intro k r hl hn
  obtain⟨_,h2,_,h4⟩:=subOw_look h.ow k r hl
  have h5:=h2 hn
  exact Rs.ren_holds hn h4 (hs.lt _ _ h5).2 (hs.holds _ _ h5)
 refine⟨fun k b=>(∃r,look hd.ow k=some r)∧nilK ρ k=false∧f (renK ρ k) b,?_,?_,?_,?_,?_,hs.imm,?_⟩
 intro k r hl
 cases hn:nilK ρ k with
 |false=>
  have:=(hk k r hl hn).1
  have hF:(fun b=>(∃r,look hd.ow k=some r)∧false=false∧f (renK ρ k) b)=f (renK ρ k):=funext fun b=>propext ⟨fun h=>h.2.2,fun hh=>⟨⟨r,hl⟩,rfl,hh⟩⟩
  rw[hF];exact this
 |true=>
  obtain⟨e,D,rfl,hD⟩:=(subOw_look h.ow k r hl).1 hn
  refine⟨⟨by rw[flat_nil hD,hD];simp,.inl ⟨renE_nil hn,hD⟩⟩,fun x=>?_⟩
  rw[renE_nil hn]
  simp[Value.ownBlock]
 rintro k hl b ⟨⟨r,hr⟩,_⟩
 rw[hl]at hr;cases hr
 rintro k k' b hne ⟨⟨r,hr⟩,hn,h1⟩ ⟨⟨r',hr'⟩,hn',h2⟩
 exact hs.apart _ _ b (apartB_inj h.apart k k' r r' hr hr' hn hn' hne) h1 h2
 rintro k b ⟨_,_,h1⟩
 exact hs.off _ b h1
 intro k r hl
 refine⟨(subOw_look h.ow k r hl).2.2.1,?_⟩
 cases hn:nilK ρ k with
 |false=>exact(hk k r hl hn).2
 |true=>
  obtain⟨e,D,rfl,_⟩:=(subOw_look h.ow k r hl).1 hn
  trivial
 obtain⟨ds,h1,h2,h3⟩:=hs.marks
 exact⟨ds,h1,h2,fun d hd=>⟨(h3 d hd).1,(h3 d hd).2.1,fun k hk=>(h3 d hd).2.2 _ hk.2.2⟩⟩
theorem least (p:Nat→Prop) (h:∃n,p n):∃n,p n∧∀m,p m→n≤m:=by
 obtain⟨n,hn⟩:=h
 induction n using Nat.strongRecOn with
 |_ n ih=>
  by_cases hh:∃m,m<n∧p m
  obtain⟨m,h1,h2⟩:=hh
  exact ih m h1 h2
  exact⟨n,hn,fun m hm=>Nat.le_of_not_lt fun hlt=>hh ⟨m,hlt,hm⟩⟩
theorem wpIn_loop_ghost {ro:Option Nat} {P:Program} {c:Code} {Q:Exit→Act→World→Prop} {a:Act} {w:World} {σ:Type} (I:σ→Act→World→Prop) (μ:σ→Nat) (s0:σ) (h0:I s0 a w)
 (round:∀s a w,I s a w→c.wpIn (FR ro) 0 P (Exit.then (fun a' w'=>∃s',I s' a' w'∧μ s'<μ s) Q) a w):(Code.loop c).wpIn (FR ro) 0 P Q a w:=by
 classical
 let m:Act→World→Nat:=fun a w=>if h:∃n,∃s,I s a w∧μ s=n then Classical.choose (least _ h)else 0
 have hm:∀a w s,I s a w→∃s',I s' a w∧μ s'=m a w∧m a w≤μ s:=by
  intro a w s hs
  have h:∃n,∃s,I s a w∧μ s=n:=⟨_,s,hs,rfl⟩
  have hc:=Classical.choose_spec (least _ h)
  have:m a w=Classical.choose (least _ h):=dif_pos h
  obtain⟨⟨s',h1,h2⟩,h3⟩:=hc
  exact⟨s',h1,by rw[this];exact h2,by rw[this];exact h3 _ ⟨s,hs,rfl⟩⟩
 refine wpIn_loop (fun a w=>∃s,I s a w) m ⟨s0,h0⟩ ?_
 rintro a w ⟨s,hs⟩
 obtain⟨s',h1,h2,_⟩:=hm a w s hs
 refine Go.wpIn_mono (round s' a w h1) fun e a' w' hh=>?_
 cases e with
 |normal=>
  obtain⟨s2,h3,h4⟩:=hh
  obtain⟨_,_,_,h5⟩:=hm a' w' s2 h3
  exact⟨⟨s2,h3⟩,by omega⟩
 |_=>exact hh
def Again {σ:Type} (keep:Nat) (hd:σ→St) (G:σ→Im→Prop) (μ:σ→Nat) (s:σ) (st:St) (u:Im):Prop:=
 ∃s' ρ,Sub keep ρ st (hd s')∧G s' u∧μ s'<μ s
theorem Bj {σ:Type} {keep:Nat} {hd:σ→St} {G:σ→Im→Prop} {μ:σ→Nat} {s:σ} {st:St} {u:Im} (s':σ) (ρ:Ren) (h1:Sub keep ρ st (hd s')) (h2:G s' u) (h3:μ s'<μ s) :
 Again keep hd G μ s st u:=⟨s',ρ,h1,h2,h3⟩
theorem Br {C:Cx} {c:Code} {Q:Bb} {st:St} {u:Im} {σ:Type} (hd:σ→St) (G:σ→Im→Prop) (μ:σ→Nat) (hnx:∀s,st.nx≤(hd s).nx) (s0:σ) (ρ:Ren) (h0:Sub st.nx ρ st (hd s0)) (g0:G s0 u)
 (round:∀s u',u.le u'→G s u'→X C c (thn (Again st.nx hd G μ s) Q) (hd s) u'):X C (.loop c) Q st u:=by
 intro E a w hok
 obtain⟨E0,hE0,hok0⟩:=h0.ok hok
 refine wpIn_loop_ghost (σ:=σ) (fun s a w=>∃E' u',(∀k,k<st.nx→E' k=E k)∧u.le u'∧G s u'∧Ok C E' (hd s) u' a w) μ s0 ⟨E0,u,hE0,Im.le.refl u,g0,hok0⟩ ?_
 rintro s a w ⟨E',u',hE',hu,hg,hok'⟩
 refine Go.wpIn_mono (round s u' hu hg E' a w hok') fun e a' w' hh=>?_
 obtain⟨E2,st2,u2,h1,h2,h3,h4,h5⟩:=hh
 have hn:=hnx s
 cases e with
 |normal=>
  obtain⟨s',ρ',h6,h7,h8⟩:=h5
  obtain⟨E3,hE3,hok3⟩:=h6.ok h4
  exact⟨s',⟨E3,u2,fun k hk=>(hE3 k hk).trans ((h1 k (by omega)).trans (hE' k hk)),hu.trans h3,h7,hok3⟩,h8⟩
 |exit id=>exact⟨E2,st2,u2,fun k hk=>(h1 k (by omega)).trans (hE' k hk),by omega,hu.trans h3,h4,h5⟩
 |goto l=>exact⟨E2,st2,u2,fun k hk=>(h1 k (by omega)).trans (hE' k hk),by omega,hu.trans h3,h4,h5⟩
 |ret=>exact⟨E2,st2,u2,fun k hk=>(h1 k (by omega)).trans (hE' k hk),by omega,hu.trans h3,h4,h5⟩
 |panic ch=>exact⟨E2,st2,u2,fun k hk=>(h1 k (by omega)).trans (hE' k hk),by omega,hu.trans h3,h4,h5⟩
 |outgrown=>exact⟨E2,st2,u2,fun k hk=>(h1 k (by omega)).trans (hE' k hk),by omega,hu.trans h3,h4,h5⟩
def Meet {σ:Type} (keep:Nat) (hd:σ→St) (G:σ→Im→Prop) (st:St) (u:Im):Prop:=
 ∃s ρ,Sub keep ρ st (hd s)∧G s u
theorem Af {σ:Type} {keep:Nat} {hd:σ→St} {G:σ→Im→Prop} {st:St} {u:Im} (s:σ) (ρ:Ren) (h1:Sub keep ρ st (hd s)) (h2:G s u):Meet keep hd G st u:=⟨s,ρ,h1,h2⟩
theorem x_cut {C:Cx} {x y:Code} {Q:Bb} {st:St} {u:Im} {σ:Type} (hd:σ→St) (G:σ→Im→Prop) (hnx:∀s,st.nx≤(hd s).nx)
 (hx:X C x (thn (Meet st.nx hd G) Q) st u) (hy:∀s u',u.le u'→G s u'→X C y Q (hd s) u'):X C (.seq x y) Q st u:=by
 intro E a w hok
 refine wpIn_seq (Go.wpIn_mono (hx E a w hok) fun e a' w' hh=>?_)
 obtain⟨E2,st2,u2,h1,h2,h3,h4,h5⟩:=hh
 cases e with
 |normal=>
  obtain⟨s,ρ,h6,h7⟩:=h5
  obtain⟨E3,hE3,hok3⟩:=h6.ok h4
  exact Go.wpIn_mono (hy s u2 h3 h7 E3 a' w' hok3) fun e a w hq=>
   Cd.mono (n:=st.nx) (fun k hk=>(hE3 k hk).trans (h1 k hk)) (hnx s) h3 hq
 |exit id=>exact⟨E2,st2,u2,h1,h2,h3,h4,h5⟩
 |goto l=>exact⟨E2,st2,u2,h1,h2,h3,h4,h5⟩
 |ret=>exact⟨E2,st2,u2,h1,h2,h3,h4,h5⟩
 |panic ch=>exact⟨E2,st2,u2,h1,h2,h3,h4,h5⟩
 |outgrown=>exact⟨E2,st2,u2,h1,h2,h3,h4,h5⟩
section draw
variable {ro:Option Nat} {P:Program} {ops:Array Oper} {Inv:World→Prop} {md:Region.Mode}
def upI (ro:Option Nat) (P:Program) (Inv:World→Prop) (v:Value):Result Next→Prop
 |.ok (.value x) w'=>x=v∧Inv w'
 |.ok .skip w'=>v=undef∧Inv w'
 |.ok (.enter f args) w'=>CallsIn (FR ro) 0 P f args w' fun e w''=>e=.returned v∧Inv w''
 |_=>False
def YI (ro:Option Nat) (P:Program) (ops:Array Oper) (Inv:World→Prop) (o:Oper) (v:Value) (a:Act):Prop:=
 (Region.wanted o (yielded ops a.tmps)=true∧(∀c,o.op≠.defer c)∧∀w,Inv w→upI ro P Inv v ((execOp a.eval o).run P w)) ∨
 (Region.wanted o (yielded ops a.tmps)=false∧v=undef)
theorem YI.of_same {o:Oper} {v:Value} {a a':Act} (hy:YI ro P ops Inv o v a) (he:execOp a'.eval o=execOp a.eval o)
 (hw:Region.wanted o (yielded ops a'.tmps)=Region.wanted o (yielded ops a.tmps)):YI ro P ops Inv o v a':=by
 unfold YI at *
 rw[he,hw]
 exact hy
def opI (ro:Option Nat) (P:Program) (ops:Array Oper) (Inv:World→Prop) (i:Nat) (K:Act→Prop) (a:Act):Prop:=
 match ops[i]? with
 |none=>K a
 |some o=>∃v,YI ro P ops Inv o v a∧K (a.put o.dst v)
theorem opI_mono {i:Nat} {a:Act} {K K':Act→Prop} (h:∀a,K a→K' a) (hh:opI ro P ops Inv i K a):opI ro P ops Inv i K' a:=by
 unfold opI at *
 split
 exact h _ (by simpa[*]using hh)
 rename_i o ho
 simp only[ho]at hh
 obtain⟨v,h1,h2⟩:=hh
 exact⟨v,h1,h _ h2⟩
def anyI (ro:Option Nat) (P:Program) (md:Region.Mode) (ops:Array Oper) (Inv:World→Prop) (Q:Act→Prop):Nat→Array Bool→Act→Prop
 |0,listed,a=>Region.ready md ops listed=[]∧Q a
 |fuel+1,listed,a=>
  (Region.ready md ops listed=[]→Q a) ∧
  ∀i∈Region.ready md ops listed,opI ro P ops Inv i (anyI ro P md ops Inv Q fuel (listed.setIfInBounds i true)) a
theorem opI_put {j:Nat} {oi oj:Oper} {v:Value} (hj:ops[j]?=some oj) (hap:oi.apart ops oj=true)
 (hsi:∀cs b,oi.op≠.select cs b) (hsj:∀cs b,oj.op≠.select cs b) {K:Act→Prop} {a:Act}
 (hy:YI ro P ops Inv oi v a) (h:opI ro P ops Inv j K (a.put oi.dst v)) :
 opI ro P ops Inv j (fun a'=>YI ro P ops Inv oi v a'∧K (a'.put oi.dst v)) a:=by
 obtain⟨h1,h2,h3⟩:=Oper.apart_spec hap
 unfold opI at *
 simp only[hj]at *
 obtain⟨x,hx,hK⟩:=h
 refine⟨x,hx.of_same (execOp_put oj hsj a oi.dst v h1).symm (wanted_put oj a oi.dst v h1).symm,?_,?_⟩
 exact hy.of_same (execOp_put oi hsi a oj.dst x h3) (wanted_put oi a oj.dst x h3)
 rw[←Act.put_comm a v x h2];exact hK
theorem YI.opI {i:Nat} {o:Oper} {v:Value} {a:Act} (hi:ops[i]?=some o) (hy:YI ro P ops Inv o v a) {K:Act→Prop} (h:K (a.put o.dst v)):opI ro P ops Inv i K a:=by
 unfold Go.GV.opI
 simp only[hi]
 exact⟨v,hy,h⟩
theorem anyI_first {Q:Act→Prop} {i:Nat} {oi:Oper} {v:Value} (hi:ops[i]?=some oi) (hsel:∀(j:Nat) (o:Oper) cs b,ops[j]?=some o→o.op≠.select cs b) :
 ∀(fuel:Nat) (listed:Array Bool) (a:Act),
  (∀j oj,ops[j]?=some oj→j≠i→listed.getD j true=false→(∀e∈oj.after,Region.binds md e=true→e.on≠i)→oi.apart ops oj=true) →
  i∈Region.ready md ops listed→YI ro P ops Inv oi v a →
  anyI ro P md ops Inv Q fuel (listed.setIfInBounds i true) (a.put oi.dst v)→anyI ro P md ops Inv Q (fuel+1) listed a:=by
 intro fuel
 induction fuel with
 |zero=>
  intro listed a _ hr hy H
  refine⟨fun h=>(by rw[h]at hr;cases hr),fun j hj=>?_⟩
  by_cases hji:j=i
  subst hji;exact hy.opI hi H
  have:=ready_mono hj hji
  rw[H.1]at this
  cases this
 |succ fuel ih=>
  intro listed a hfree hr hy H
  refine⟨fun h=>(by rw[h]at hr;cases hr),fun j hj=>?_⟩
  by_cases hji:j=i
  subst hji;exact hy.opI hi H
  have h1:=H.2 j (ready_mono hj hji)
  obtain⟨hjun,oj,hoj,hall⟩:=mem_ready.1 hj
  have hnot:∀e∈oj.after,Region.binds md e=true→e.on≠i:=fun e he hb heq=>by
   have h1:=hall e he hb
   have h0:=(mem_ready.1 hr).1
   rw[heq]at h1
   rcases Nat.lt_or_ge i listed.size with h'|h'
   simp[h']at h0 h1;rw[h0]at h1;cases h1
   simp[Array.getElem?_eq_none h']at h1
  have h2:=opI_put hoj (hfree j oj hoj hji hjun hnot) (fun cs b=>hsel i oi cs b hi) (fun cs b=>hsel j oj cs b hoj) hy h1
  have hfree':∀k ok,ops[k]?=some ok→k≠i→(listed.setIfInBounds j true).getD k true=false →
   (∀e∈ok.after,Region.binds md e=true→e.on≠i)→oi.apart ops ok=true:=fun k ok hk hki hun hno=>by
   refine hfree k ok hk hki ?_ hno
   by_cases hjk:j=k
   subst hjk;exact hjun
   rw[getD_set_ne true hjk]at hun;exact hun
  refine opI_mono (fun a' h3=>ih (listed.setIfInBounds j true) a' hfree' (ready_mono hr (Ne.symm hji)) h3.1 ?_) h2
  rw[Array.setIfInBounds_comm _ _ hji]
  exact h3.2
def stillI (ro:Option Nat) (P:Program) (ops:Array Oper) (Inv:World→Prop) (Q:Act→Prop):List Oper→Act→Prop
 |[],a=>Q a
 |o::r,a=>∃v,YI ro P ops Inv o v a∧stillI ro P ops Inv Q r (a.put o.dst v)
theorem anyI_lex {Q:Act→Prop} (hs:Region.noSelect ops=true):∀(l:List Oper) (k:Nat) (listed:Array Bool) (a:Act),(∀j,l[j]?=ops[k+j]?) →
 Region.lexFrom md ops l.length k listed=true→stillI ro P ops Inv Q l a→anyI ro P md ops Inv Q l.length listed a
 |[],_,_,_,_,hB,h=>⟨by simpa[Region.lexFrom]using hB,h⟩
 |o::l,k,listed,a,hl,hB,h=>by
  have h0:ops[k]?=some o:=by simpa using(hl 0).symm
  simp only[List.length_cons,Region.lexFrom,Bool.and_eq_true]at hB
  obtain⟨⟨hr,hf⟩,hB'⟩:=hB
  obtain⟨v,hy,hK⟩:=h
  exact anyI_first h0 (Region.noSelect_spec hs) l.length listed a (Region.free_spec h0 hf) (by simpa using hr) hy
   (anyI_lex hs l (k+1) _ _ (fun j=>by have:=hl (j+1);simpa[Nat.add_assoc,Nat.add_comm 1 j]using this) hB' hK)
theorem wpOpIn_of_opI {i:Nat} {a:Act} {w:World} {K:Act→Prop} {K':Act→World→Prop} {Q':Exit→Act→World→Prop} (h:∀a w,K a→Inv w→K' a w)
 (hw:Inv w) (hh:opI ro P ops Inv i K a):wpOpIn (FR ro) 0 P ops Q' i K' a w:=by
 unfold opI at hh
 unfold wpOpIn
 split
 rename_i ho;simp only[ho]at hh;exact h _ _ hh hw
 rename_i o ho
 simp only[ho]at hh
 obtain⟨v,hy,hK⟩:=hh
 rcases hy with⟨h1,hd,h2⟩|⟨h1,rfl⟩
 ·rw[if_pos h1]
  refine⟨fun _ _=>trivial,?_⟩
  rw[semAt_eq _ _ _ hd]
  have h3:=h2 w hw
  generalize (execOp a.eval o).run P w=r at h3 ⊢
  cases r with
  |ok n w'=>
   cases n<;>simp only[upI]at h3<;>simp only[Oper.uponIn]
   case value u=>obtain⟨rfl,h4⟩:=h3;exact h _ _ hK h4
   case skip=>obtain⟨rfl,h4⟩:=h3;exact h _ _ hK h4
   case enter f args=>
    refine⟨fun h=>(by cases h),CallsIn.mono h3 fun e w'' he=>?_⟩
    obtain⟨rfl,h4⟩:=he
    exact h _ _ hK h4
  |halt x w'=>simp only[upI]at h3
 rw[if_neg (by rw[h1];simp)]
 exact⟨fun _ _=>trivial,h _ _ hK hw⟩
theorem anyIn_of_anyI {Q:Act→Prop} {Q':Exit→Act→World→Prop} (hQ:∀a w,Q a→Inv w→Q' .normal a w):∀(fuel:Nat) (listed:Array Bool) (a:Act) (w:World),Inv w →
 anyI ro P md ops Inv Q fuel listed a→wpAnyIn (FR ro) 0 P md ops Q' fuel listed a w
 |0,_,_,_,hw,h=>⟨h.1,hQ _ _ h.2 hw⟩
 |fuel+1,_,_,_,hw,h=>⟨fun h0=>hQ _ _ (h.1 h0) hw,fun i hi=>wpOpIn_of_opI (fun a' w' hk hi'=>anyIn_of_anyI hQ fuel _ a' w' hi' hk) hw (h.2 i hi)⟩
theorem region_still {id:Nat} {Q:Act→Prop} {Q':Exit→Act→World→Prop} {a:Act} {w:World} (hm:P.follows .mixedOrders=true) (hB:Region.lexB .any ops=true)
 (hw:Inv {w with drawn:=w.drawn+1}) (h:stillI ro P ops Inv Q ops.toList a) (hQ:∀a w,Q a→Inv w→Q' .normal a w):(Code.region id ops true).wpIn (FR ro) 0 P Q' a w:=by
 simp only[Region.lexB,Bool.and_eq_true]at hB
 refine wpIn_region_any hm (anyIn_of_anyI hQ _ _ _ _ hw ?_)
 have:=anyI_lex (md:=.any) hB.1 ops.toList 0 (Array.replicate ops.size false) a (by simp) (by simpa using hB.2) h
 simpa using this
end draw
def allL:List Prop→Prop
 |[]=>True
 |p::r=>p∧allL r
theorem allL_of:∀ {l:List Prop},(∀p∈l,p)→allL l
 |[],_=>trivial
 |p::_,h=>⟨h p (List.mem_cons_self ..),allL_of fun x hx=>h x (List.mem_cons_of_mem _ hx)⟩
def XD (C:Cx) (all:List Oper) (todo:List Oper) (Q:St→Prop) (st:St) (u:Im):Prop:=
 ∀E a w0,Ok C E st u a w0→stillI C.ro C.P all.toArray (fun w=>∃f,Sat E st.ow st.nx u a.defers w f)
  (fun a'=>a'.defers=a.defers∧∃st',st'.ow=st.ow∧st'.nx=st.nx∧Agr C.N E st' a'.tmps∧Q st') todo a
def xd (T:TT) (N:Nat) (all:List Oper) (K:St→Prop) (S:List Oper→St→Prop):List Oper→St→Prop
 |[],st=>match gkOk st.kn st.gk with
  |true=>st.shutK K
  |false=>S [] st
 |o::r,st=>match Bp all st o with
  |none=>S (o::r) st
  |some g=>match eff T st g o.op with
   |.val s side=>match o.dst with
    |some d=>match Bg N st d g with
     |true=>sides (gprops st g) side (st.putK d g s (xd T N all K S r))
     |false=>S (o::r) st
    |none=>S (o::r) st
   |.stuck=>S (o::r) st
theorem xd_step {C:Cx} {all:List Oper} {o:Oper} {r:List Oper} {Q:St→Prop} {st:St} {u:Im} {g:Gd} {d:Nat} {s:SV}
 (hg:Bp all st o=some g) (hd:o.dst=some d) (hf:Bg C.N st d g=true) (hnd:∀c,o.op≠.defer c)
 (hrun:∀E a w,Ok C E st u a w→gs a.tmps g→s.lt E st.nx∧upI C.ro C.P (fun w=>∃f,Sat E st.ow st.nx u a.defers w f) (s.den E) ((execOp a.eval o).run C.P w))
 (K:XD C all r Q (st.put d g s) u):XD C all (o::r) Q st u:=by
 intro E a w0 hok
 have how:(st.put d g s).ow=st.ow:=by cases g<;>rfl
 have hnx:(st.put d g s).nx=st.nx:=by cases g<;>rfl
 have hgd:=guard_sound (all:=all.toArray) hok.agr (by simpa using hg)
 have hlt:gs a.tmps g→s.lt E st.nx:=fun hgs=>(hrun E a w0 hok hgs).1
 have go:∀x,(gs a.tmps g→x=s.den E)→(¬gs a.tmps g→x=undef)→YI C.ro C.P all.toArray (fun w=>∃f,Sat E st.ow st.nx u a.defers w f) o x a →
  stillI C.ro C.P all.toArray (fun w=>∃f,Sat E st.ow st.nx u a.defers w f) (fun a'=>a'.defers=a.defers∧∃st',st'.ow=st.ow∧st'.nx=st.nx∧Agr C.N E st' a'.tmps∧Q st') (o::r) a:=by
  intro x hx hnx' hy
  refine⟨x,hy,?_⟩
  have hput:Agr C.N E (st.put d g s) (a.tmps.setIfInBounds d x):=
   hok.agr.put hf hlt hx hnx' (fun hn=>by subst hn;exact hx (fun y hy=>by cases hy))
  have:=K E (a.put o.dst x) w0 ⟨by rw[hd];exact hput,by rw[how,hnx,hd];exact hok.sat⟩
  rw[how,hnx,hd]at this
  rw[hd]
  exact this
 by_cases hw:Region.wanted o (yielded all.toArray a.tmps)=true
 have hgs:=hgd.1 hw
 exact go _ (fun _=>rfl) (fun hn=>absurd hgs hn) (.inl ⟨hw,hnd,fun w hi=>(hrun E a w ⟨hok.agr,hi⟩ hgs).2⟩)
 have hgs:=hgd.2 (by simpa using hw)
 exact go undef (fun hy=>absurd hy hgs) (fun _=>rfl) (.inr ⟨by simpa using hw,rfl⟩)
theorem xd_sound {C:Cx} {T:TT} (hT:TOk C.P T) {all:List Oper} {Q:St→Prop} {u:Im} {S:List Oper→St→Prop}
 (hS:∀l st,S l st→XD C all l Q st u) :
 ∀(todo:List Oper) (st:St),xd T C.N all Q S todo st→XD C all todo Q st u:=by
 intro todo
 induction todo with
 |nil=>
  intro st h
  unfold xd at h
  split at h
  rename_i hg
  intro E a w hok
  exact⟨rfl,st.shut,rfl,rfl,hok.agr.shut hg,h⟩
  exact hS _ _ h
 |cons o r ih=>
  intro st h
  unfold xd at h
  split at h
  exact hS _ _ h
  rename_i g hg
  split at h
  rename_i s side he
  split at h
  rename_i d hd
  split at h
  rename_i hf
  rw[St.putK_eq]at h
  refine xd_step hg hd hf (notDefer_of_val he) (fun E a w hok hgs=>?_) (ih _ (sides_split h).1)
  have hside:=(sides_split h).2 (gprops_sound hok.agr hgs (fun _ _ _=>trivial))
  obtain⟨hrun,hlt⟩:=eff_sound hT hok hgs he hside
  refine⟨hlt,?_⟩
  rw[hrun]
  exact⟨rfl,hok.sat⟩
  exact hS _ _ h
  exact hS _ _ h
  exact hS _ _ h
theorem Cq {T:TT} {C:Cx} (hT:TOk C.P T) {all l:List Oper} {Q:St→Prop} {st:St} {u:Im}
 (h:st.force fun st=>xd T C.N all Q (fun l st=>XD C all l Q st u) l st):XD C all l Q st u:=
 xd_sound hT (fun _ _ h=>h) _ _ (by rw[St.force_eq]at h;exact h)
theorem Sat.drawn {E:Env} {o:Own} {nx:Nat} {u:Im} {df:List Deferred} {w:World} {f:Nat→Nat→Prop} (h:Sat E o nx u df w f):Sat E o nx u df {w with drawn:=w.drawn+1} f:=
 h.step (fun _=>False) (fun _ _=>rfl) (Nat.le_refl _) (Im.le.refl u)
  ⟨fun b x hx=>h.imm.h b x hx,h.imm.os,h.imm.tape,h.imm.output,h.imm.lo⟩ (Nat.le_refl _)
  (fun _ _ _=>rfl) (fun _ _=>⟨rfl,fun _=>Iff.rfl⟩) (fun _ hk=>hk.elim) (fun _ _ _ hk=>hk.elim) (fun _ _ ho=>.inl ho)
theorem x_draw {C:Cx} {id:Nat} {ops:Array Oper} {Q:Bb} {st:St} {u:Im} (hm:C.P.follows .mixedOrders=true) (hB:Region.lexB .any ops=true)
 (h:XD C ops.toList ops.toList (fun st'=>Q .normal st' u) st u):X C (.region id ops true) Q st u:=by
 intro E a w hok
 obtain⟨f,hsat⟩:=hok.sat
 have h1:=h E a w hok
 refine region_still hm hB (Inv:=fun w=>∃f,Sat E st.ow st.nx u a.defers w f) ⟨f,hsat.drawn⟩ (by simpa using h1) ?_
 rintro a' w' ⟨h2,st',h3,h4,h5,h6⟩ hi
 refine⟨E,st',u,fun _ _=>rfl,Nat.le_of_eq h4.symm,Im.le.refl u,⟨h5,?_⟩,h6⟩
 rw[h3,h4,h2]
 exact hi
theorem call_runG {C:Cx} {o:Oper} {st:St} {u:Im} {c:Call} {g:Gd} (ho:o.op=.call c) {f:Nat}
 (hc:callee st c=some f) (hfn:Fn1 C.P f) {ss:List SV} (hargs:argsOf st g c.args.toList=some ss)
 {E:Env} {a:Act} {w:World} (hok:Ok C E st u a w) (hgs:gs a.tmps g) :
 (execOp a.eval o).run C.P w=.ok (.enter f (ss.map (SV.den E)).toArray) w:=by
 obtain⟨e1,_⟩:=argsOf_sound hok.agr hgs hargs
 unfold callee at hc
 split at hc
 rename_i fo hfo
 split at hc
 rename_i g' x y hop
 split at hc
 rename_i hx hy
 cases hc
 have hx':x=#[]:=by cases x;simp_all
 have hy':y=#[]:=by cases y;simp_all
 subst hx' hy'
 have:=(Al hok.agr (fun x hx=>by cases hx) hop).1
 rw[call_run ho hfo this hfn]
 congr 2
 apply Array.ext'
 simp[e1]
 cases hc
 cases hc
 cases hc
theorem Sat.unmarked {E:Env} {o:Own} {nx:Nat} {u:Im} {df:List Deferred} {w:World} {f:Nat→Nat→Prop} (hsat:Sat E o nx u df w f):Sat E o nx u [] w f:=
 ⟨hsat.holds,hsat.non,hsat.apart,hsat.off,hsat.lt,hsat.imm,[],rfl,List.nodup_nil,fun d hd=>by cases hd⟩
theorem xd_call0 {C:Cx} {all:List Oper} {o:Oper} {r:List Oper} {Q:St→Prop} {st:St} {u:Im} {c:Call} (v:Value) {g:Gd} {f d:Nat}
 (ho:o.op=.call c) (hg:Bp all st o=some g) (hd:o.dst=some d)
 (hc:callee st c=some f) (hfn:Fn1 C.P f) {ss:List SV} (hargs:argsOf st g c.args.toList=some ss) (hfr:Bg C.N st d g=true)
 (H:allL (gprops st g)→∀E w F,Sat E st.ow st.nx u [] w F→Calls C.P f (ss.map (SV.den E)).toArray w (Bc w fun x _=>x=v))
 (K:XD C all r Q (st.put d g (.v v)) u):XD C all (o::r) Q st u:=by
 refine xd_step (s:=.v v) hg hd hfr (fun c' hc'=>by rw[ho]at hc';cases hc') (fun E a w hok hgs=>⟨trivial,?_⟩) K
 rw[call_runG ho hc hfn hargs hok hgs]
 obtain⟨fF,hsat⟩:=hok.sat
 refine(calls_in (H (allL_of (gprops_sound hok.agr hgs (fun _ _ _=>trivial))) E w fF hsat.unmarked)).mono ?_
 rintro e w' ⟨x,rfl,hbel,rfl⟩
 exact⟨rfl,fF,hsat.keep hbel⟩
theorem Bt {C:Cx} {all:List Oper} {o:Oper} {r:List Oper} {Q:Bb} {st:St} {u:Im} {c:Call} (v:Value) {g:Gd} {f d:Nat}
 (ho:o.op=.call c) (hg:Bp all st o=some g) (hd:o.dst=some d)
 (hc:callee st c=some f) (hfn:Fn1 C.P f) {ss:List SV} (hargs:argsOf st g c.args.toList=some ss) (hfr:Bg C.N st d g=true)
 (H:allL (gprops st g)→∀E w F,Sat E st.ow st.nx u [] w F→Calls C.P f (ss.map (SV.den E)).toArray w (Bc w fun x _=>x=v))
 (K:XL C all r Q (st.put d g (.v v)) u):XL C all (o::r) Q st u:=by
 intro E a w hok
 have how:(st.put d g (.v v)).ow=st.ow:=by cases g<;>rfl
 have hnx:(st.put d g (.v v)).nx=st.nx:=by cases g<;>rfl
 have hgd:=guard_sound (all:=all.toArray) hok.agr (by simpa using hg)
 obtain⟨fF,hsat⟩:=hok.sat
 have go:∀x w',(gs a.tmps g→x=v)→(¬gs a.tmps g→x=undef)→Below w.heap.size w w' →
  wpListIn (FR C.ro) 0 C.P all.toArray (Cd C E st.nx u Q) r (a.put o.dst x) w':=by
  intro x w' hx hnx' hbel
  have hput:Agr C.N E (st.put d g (.v v)) (a.tmps.setIfInBounds d x):=
   hok.agr.put hfr (fun _=>trivial) hx hnx' (fun hn=>by subst hn;exact hx (fun y hy=>by cases hy))
  have:=K E (a.put o.dst x) w' ⟨by rw[hd];exact hput,fF,by rw[how,hnx,hd];exact hsat.keep hbel⟩
  rwa [hnx]at this
 unfold wpListIn
 by_cases hw:Region.wanted o (yielded all.toArray a.tmps)=true
 have hgs:=hgd.1 hw
 rw[if_pos hw]
 refine⟨fun _ _=>trivial,?_⟩
 rw[semAt_eq _ _ _ (fun c' hc'=>by rw[ho]at hc';cases hc'),call_runG ho hc hfn hargs hok hgs,Oper.uponIn_enter]
 refine⟨fun h=>(by cases h),(calls_in (H (allL_of (gprops_sound hok.agr hgs (fun _ _ _=>trivial))) E w fF hsat.unmarked)).mono ?_⟩
 rintro e w' ⟨x,rfl,hbel,rfl⟩
 exact go _ _ (fun _=>rfl) (fun hn=>absurd hgs hn) hbel
 have hgs:=hgd.2 (by simpa using hw)
 rw[if_neg hw]
 exact⟨fun _ _=>trivial,go _ _ (fun hy=>absurd hy hgs) (fun _=>rfl) (Below.refl _ _)⟩
def knL (ρ:Ren) (n:Nat) (st:St) (l:Kn):List (Option SV×Bool):=l.map fun x=>(look st.kn x.1,x.2.inB ρ n)
def knR (ρ:Ren) (l:Kn):List (Option SV×Bool):=l.map fun x=>(some (x.2.ren ρ),true)
theorem subKn_of {ρ:Ren} {n:Nat} {st:St}:∀ {l:Kn},knL ρ n st l=knR ρ l→subKn ρ n st l
 |[],_=>trivial
 |(d,s)::r,h=>by
  simp only[knL,knR,List.map_cons,List.cons.injEq,Prod.mk.injEq]at h
  exact⟨h.1.1,h.1.2,subKn_of h.2⟩
def ow1L (ρ:Ren) (n:Nat) (st:St) (k:Nat) (r:Rs):Option Rs×Nat×Bool×Bool:=
 match nilK ρ k with
 |true=>match r with
  |.row _ D=>(none,D.n,Nat.blt k n,rsInB ρ n r)
  |_=>(some .emp,1,false,false)
 |false=>(look st.ow (renK ρ k),0,Nat.blt k n,rsInB ρ n r)
def ow1R (ρ:Ren) (k:Nat) (r:Rs):Option Rs×Nat×Bool×Bool:=
 match nilK ρ k with
 |true=>(none,0,true,true)
 |false=>(some (r.ren ρ),0,true,true)
def owL (ρ:Ren) (n:Nat) (st:St) (l:Own):List (Option Rs×Nat×Bool×Bool):=l.map fun x=>ow1L ρ n st x.1 x.2
def owR (ρ:Ren) (l:Own):List (Option Rs×Nat×Bool×Bool):=l.map fun x=>ow1R ρ x.1 x.2
theorem subOw_of {ρ:Ren} {n:Nat} {st:St}:∀ {l:Own},owL ρ n st l=owR ρ l→subOw ρ n st l
 |[],_=>trivial
 |(k,r)::t,h=>by
  simp only[owL,owR,List.map_cons,List.cons.injEq]at h
  obtain⟨h1,h2⟩:=h
  unfold ow1L ow1R at h1
  unfold subOw
  cases hn:nilK ρ k with
  |true=>
   rw[hn]at h1
   cases r with
   |row e D=>
    simp only[Prod.mk.injEq]at h1
    exact⟨⟨e,D,rfl,h1.2.1⟩,h1.2.2,subOw_of h2⟩
   |box t cs=>simp at h1
   |sl D=>simp at h1
   |gen A=>simp at h1
   |emp=>simp at h1
  |false=>
   rw[hn]at h1
   simp only[Prod.mk.injEq]at h1
   exact⟨h1.1,h1.2.2,subOw_of h2⟩
theorem Aw.imm {u:Im} {x:Value} {D:Data} {w:World} (h:Aw u x D) (hi:Imm u w):Aw (im w) x D:=
 h.sub ⟨fun b o hb=>hi.h b o hb⟩
theorem Sat.slAt {E:Env} {o:Own} {nx:Nat} {u:Im} {df:List Deferred} {w:World} {f:Nat→Nat→Prop} (h:Sat E o nx u df w f) {k:Nat} {D:Data} (hl:look o k=some (.sl D)):Aw (im w) (E k) D:=
 (h.holds k _ hl).1.imm h.imm
theorem Sub.of {keep:Nat} {ρ:Ren} {st hd:St} (h1:keepB keep ρ=true) (h2:knL ρ hd.nx st hd.kn=knR ρ hd.kn) (h3:owL ρ hd.nx st hd.ow=owR ρ hd.ow)
 (h4:apartB ((hd.ow.filter (fun x=>!nilK ρ x.1)).map (fun x=>renK ρ x.1))=true) (h5:st.gk=[]) (h6:hd.gk=[]):Sub keep ρ st hd:=
 ⟨h1,subKn_of h2,subOw_of h3,h4,h5,h6⟩
theorem Sub.z {keep:Nat} {ρ:Ren} {st hd:St} (h1:keepB keep ρ=true:=by exact rfl) (h2:knL ρ hd.nx st hd.kn=knR ρ hd.kn:=by exact rfl) (h3:owL ρ hd.nx st hd.ow=owR ρ hd.ow:=by exact rfl)
 (h4:apartB ((hd.ow.filter (fun x=>!nilK ρ x.1)).map (fun x=>renK ρ x.1))=true:=by exact rfl) (h5:st.gk=[]:=by exact rfl) (h6:hd.gk=[]:=by exact rfl):Sub keep ρ st hd:=.of h1 h2 h3 h4 h5 h6
section opening
variable {H:Type} {enc:TypeId×Value→H} {P:Program} {w:World}
end opening
structure Lay (α:Type) where
 fs:List (α→Value)
 dft:α
def Lay.el {α:Type} (Y:Lay α) (x:α):List Value:=Y.fs.map fun f=>f x
def Lay.d {α:Type} (Y:Lay α) (L:List α):Data:=⟨L.length,Y.fs.map fun f i=>f (L.getD i.toNat Y.dft)⟩
theorem Lay.el_length {α:Type} (Y:Lay α) (x:α):(Y.el x).length=Y.fs.length:=by simp[Lay.el]
theorem Lay.cs_length {α:Type} (Y:Lay α) (L:List α):(Y.d L).cs.length=Y.fs.length:=by simp[Lay.d]
theorem Lay.flat {α:Type} (Y:Lay α) (L:List α):(Y.d L).flat=L.flatMap Y.el:=by
 have h:∀i:Nat,(Y.d L).el (i:Int)=Y.el (L.getD i Y.dft):=fun i=>by simp[Lay.d,Lay.el,Data.el]
 unfold Data.flat
 simp only[h]
 show(List.range L.length).flatMap (fun i=>Y.el (L.getD i Y.dft))=_
 have e:L=(List.range L.length).map (fun i=>L.getD i Y.dft):=by
  apply List.ext_getElem
  simp
  intro i h1 h2
  simp only[List.getElem_map,List.getElem_range]
  rw[List.getD_eq_getElem?_getD,List.getElem?_eq_getElem h1];rfl
 conv=>rhs;rw[e]
 rw[List.flatMap_map]
theorem Lay.flat_length {α:Type} (Y:Lay α) (L:List α):(Y.d L).flat.length=L.length*Y.fs.length:=by
 rw[GV.flat_length,Lay.cs_length];rfl
theorem oneB_cell' {x:Value} (h:oneB x=true):x.oneCell'=true:=by cases x<;>first|rfl|cases h
theorem xl_wp {C:Cx} {all:List Oper} {o:Oper} {r:List Oper} {Qf:Exit→Act→World→Prop} {a:Act} {w w':World} {v:Value} (hgd:o.guard=none) (hnd:∀c,o.op≠.defer c)
 (hrun:(execOp a.eval o).run C.P w=.ok (.value v) w') (h:wpListIn (FR C.ro) 0 C.P all.toArray Qf r (a.put o.dst v) w'):wpListIn (FR C.ro) 0 C.P all.toArray Qf (o::r) a w:=by
 unfold wpListIn
 rw[if_pos (by simp[Region.wanted,hgd])]
 refine⟨fun _ _=>trivial,?_⟩
 rw[semAt_eq _ _ _ hnd,hrun,Oper.uponIn_value]
 exact h
theorem Agr.grow {N:Nat} {E E':Env} {st:St} {tm:Array Value} (h:Agr N E st tm) (hE:∀k,k<st.nx→E' k=E k) {ow:Own} {nx:Nat} (hn:st.nx≤nx):Agr N E' ⟨st.kn,st.gk,ow,nx⟩ tm:=
 ⟨h.size,fun d s a1 a2=>by rw[h.kn d s a1 a2,SV.den_congr hE (h.klt d s a2)],
  fun d g s a1=>⟨fun hgs=>by rw[(h.gk d g s a1).1 hgs,SV.den_congr hE (h.glt d g s a1 hgs)],(h.gk d g s a1).2⟩,
  fun d s a1=>SV.lt_mono hE hn (h.klt d s a1),fun d g s a1 hgs=>SV.lt_mono hE hn (h.glt d g s a1 hgs)⟩
theorem ownsRow_sl {w:World} {e:TypeId} {size:Nat} {v:Value} {n:Nat} {xs:List Value} (h:w.ownsRow 0 e size v n xs):∃A c,v=.slice A n c:=by
 rcases h.2 with⟨h1,h2⟩|⟨g,cap,cur,h1,_⟩
 exact⟨none,0,by rw[h1,h2]⟩
 exact⟨_,cap,h1⟩
theorem Sat.nil {α:Type} {E:Env} {o:Own} {nx:Nat} {u:Im} {df:List Deferred} {w:World} {f:Nat→Nat→Prop} (h:Sat E o nx u df w f) (e:TypeId) (Y:Lay α) :
 Sat (upd E nx (.slice none 0 0)) ((nx,.row e (Y.d []))::o) (nx+1) u df w (upd f nx (fun _=>False)):=by
 have hE:∀k,k<nx→upd E nx (.slice none 0 0) k=E k:=fun k hk=>An _ _ (by omega)
 refine h.step (fun k=>k=nx) hE (Nat.le_succ _) (Im.le.refl u) h.imm (Nat.le_refl _) (fun b _ _=>rfl) ?_ ?_ ?_ (fun b o ho=>.inl ho)
 intro k hk
 exact⟨by rw[Ac,if_neg (fun e=>hk e.symm)],fun b=>by rw[An _ _ hk]⟩
 rintro k rfl
 refine⟨fun r hr=>?_,fun hr=>?_,fun b hb=>?_⟩
 rw[Ac,if_pos rfl]at hr
 cases hr
 refine⟨⟨?_,?_⟩,Nat.lt_succ_self _,trivial⟩
 rw[Ak];exact⟨by rw[Lay.flat_length,Lay.cs_length];rfl,.inl ⟨rfl,rfl⟩⟩
 intro x;rw[Ak,Ak];simp[Value.ownBlock]
 rw[Ac,if_pos rfl]at hr;cases hr
 rw[Ak]at hb;exact hb.elim
 intro k k' b hk hk' hne;subst hk hk';exact absurd rfl hne
theorem x_nil {α:Type} {C:Cx} {c:Code} {Q:Bb} {kn:Kn} {ow:Own} {nx:Nat} {u:Im} (d e:Nat) (Y:Lay α) (hd:look kn d=some (.v (.slice none 0 0)))
 (h:X C c Q ⟨(d,.r nx)::kn,[],(nx,.row e (Y.d []))::ow,nx+1⟩ u):X C c Q ⟨kn,[],ow,nx⟩ u:=by
 intro E a w hok
 obtain⟨f,hsat⟩:=hok.sat
 have hE:∀k,k<nx→upd E nx (.slice none 0 0) k=E k:=fun k hk=>An _ _ (by omega)
 have hg:=hok.agr.grow (E':=upd E nx (.slice none 0 0)) (ow:=(nx,.row e (Y.d []))::ow) (nx:=nx+1) hE (Nat.le_succ _)
 have:=h (upd E nx (.slice none 0 0)) a w ⟨⟨hg.size,fun t s h1 h2=>?_,fun t g s h1=>(by cases h1),fun t s h2=>?_,fun t g s h1=>(by cases h1)⟩,_,hsat.nil e Y⟩
 exact Go.wpIn_mono this fun e a w=>Cd.mono hE (Nat.le_succ _) (Im.le.refl u)
 rw[Ac]at h2
 split at h2
 rename_i e1;subst e1;cases h2
 rw[hok.agr.kn _ _ rfl hd]
 simp only[SV.den,Ak]
 exact hg.kn t s h1 h2
 rw[Ac]at h2
 split at h2
 cases h2;exact⟨Nat.lt_succ_self _,none,0,0,Ak _ _ _⟩
 exact hg.klt t s h2
theorem Sat.app {E:Env} {o:Own} {nx:Nat} {u:Im} {df:List Deferred} {w w':World} {f:Nat→Nat→Prop} (h:Sat E o nx u df w f) {k:Nat} {e:TypeId} {D D':Data} (hk:look o k=some (.row e D))
 {v':Value} (hown:w'.ownsRow 0 e D'.cs.length v' D'.n D'.flat) (hgr:w.grownBy w' (E k).ownBlock) (hat:v'.ownBlock=(E k).ownBlock∨∃b,v'.ownBlock=some b∧w.heap.size≤b) :
 Sat (upd E nx v') ((nx,.row e D')::(k,.emp)::o) (nx+1) u df w' (upd (upd f k (fun _=>False)) nx (fun b=>v'.ownBlock=some b)):=by
 have hkl:=(h.lt k _ hk).1
 have hE:∀j,j<nx→upd E nx v' j=E j:=fun j hj=>An _ _ (by omega)
 have hF:=(h.holds k _ hk).2
 have hb0:∀b,(E k).ownBlock=some b→u.h b=none:=fun b hb=>h.off k b ((hF b).2 hb)
 refine h.step (fun j=>j=nx∨j=k) hE (Nat.le_succ _) (Im.le.refl u) ?_ hgr.size ?_ ?_ ?_ ?_ (fun b o ho=>.inl ho)
 refine⟨fun b x hx=>?_,hgr.os.trans h.imm.os,hgr.tape.trans h.imm.tape,hgr.output.trans h.imm.output,Nat.le_trans h.imm.lo hgr.size⟩
 have hx':=h.imm.h b x hx
 rw[hgr.block b (Array.getElem?_eq_some_iff.1 hx').1 (fun hb=>by rw[hb0 b hb.symm]at hx;cases hx)]
 exact hx'
 intro b hb hno
 exact hgr.block b hb (fun hb'=>hno k (.inr rfl) ((hF b).2 hb'.symm))
 intro j hj
 have h1:j≠nx:=fun e=>hj (.inl e)
 have h2:j≠k:=fun e=>hj (.inr e)
 exact⟨by rw[Ac,if_neg (Ne.symm h1),Ac,if_neg (Ne.symm h2)],fun b=>by rw[An _ _ h1,An _ _ h2]⟩
 intro j hj
 by_cases hjn:j=nx
 subst hjn
 refine⟨fun r hr=>?_,fun hr=>?_,fun b hb=>?_⟩
 rw[Ac,if_pos rfl]at hr
 cases hr
 refine⟨⟨?_,?_⟩,Nat.lt_succ_self _,trivial⟩
 rw[Ak];exact hown
 intro x;rw[Ak,Ak]
 rw[Ac,if_pos rfl]at hr;cases hr
 rw[Ak]at hb
 rcases hat with hat|⟨b',hat,hge⟩
 rw[hat]at hb
 exact⟨.inl ⟨k,.inr rfl,(hF b).2 hb⟩,hb0 b hb⟩
 rw[hat]at hb
 cases hb
 refine⟨.inr hge,?_⟩
 cases ho:u.h b with
 |none=>rfl
 |some x=>have:=(Array.getElem?_eq_some_iff.1 (h.imm.h b x ho)).1;omega
 have hjk:j=k:=hj.resolve_left hjn
 subst hjk
 refine⟨fun r hr=>?_,fun hr=>?_,fun b hb=>?_⟩
 rw[Ac,if_neg (Ne.symm hjn),Ac,if_pos rfl]at hr
 cases hr
 refine⟨fun x hx=>?_,by omega,trivial⟩
 rw[An _ _ hjn,Ak]at hx;exact hx
 rw[Ac,if_neg (Ne.symm hjn),Ac,if_pos rfl]at hr;cases hr
 rw[An _ _ hjn,Ak]at hb;exact hb.elim
 intro j j' b hj hj' hne h1
 have hkn:k≠nx:=by omega
 rcases hj with rfl|rfl
 have:j'=k:=hj'.resolve_left (fun e=>hne e.symm)
 subst this
 rw[An _ _ hkn,Ak];exact id
 rw[An _ _ hkn,Ak]at h1;exact h1.elim
theorem Sat.sub {E:Env} {o:Own} {nx:Nat} {u:Im} {df:List Deferred} {w:World} {f:Nat→Nat→Prop} (h:Sat E o nx u df w f) (x:Obj):Sat E o nx u df (w.alloc x) f:=by
 have hold:∀b,b<w.heap.size→(w.alloc x).heap[b]?=w.heap[b]?:=fun b hb=>Below.heap_alloc _ _ _ hb
 have hz:(w.alloc x).heap.size=w.heap.size+1:=World.size_alloc _ _
 exact h.step (fun _=>False) (fun _ _=>rfl) (Nat.le_refl _) (Im.le.refl u)
  ⟨fun b y hx=>(hold b (Array.getElem?_eq_some_iff.1 (h.imm.h b y hx)).1).trans (h.imm.h b y hx),h.imm.os,h.imm.tape,h.imm.output,by have:=h.imm.lo;omega⟩ (by omega)
  (fun b hb' _=>hold b hb') (fun _ _=>⟨rfl,fun _=>Iff.rfl⟩) (fun _ hk=>hk.elim) (fun _ _ _ hk=>hk.elim) (fun _ _ ho=>.inl ho)
theorem run_build1 {P:Program} {t e:Nat} {te:TI} (w:World) (hu:P.underlying t=some (.slice e)) (hte:TIok P e te) (hpos:0<te.sz) (hsm:te.sz≤1000) {v:Value} (hv:v.cells.size=te.sz) :
 (Instr.buildSlice t 1 #[(0,v)]).run P w=.ok (.slice (some ⟨w.heap.size,0,none⟩) 1 1) (w.alloc (.cells v.cells e)):=by
 obtain⟨i,h1,h2,h3⟩:=hte.get
 refine run_buildSlice w t e 1 _ v.cells i te.zv hu h1 h3 (by rw[h2];omega) (by rw[h2];omega) ?_
 have hz:((Array.range (1*i.size)).map (te.zv.cells[·%te.zv.cells.size]!)).size=te.sz:=by simp[h2]
 generalize (Array.range (1*i.size)).map (te.zv.cells[·%te.zv.cells.size]!)=cs at hz
 simp only[Instr.fill,h2,hv,hz]
 rw[if_neg (by simp)]
 congr 1
 apply Array.ext'
 have:=fold_set 0 v.cells.toList 0 cs (by simp[hv,hz])
 simp only[Nat.zero_add,List.take_zero,List.nil_append]at this
 rw[←Array.foldl_toList,Array.toList_zipIdx]
 simp only[Nat.zero_mul]
 simp only[Nat.zero_add]
 rw[this]
 simp[hv,hz,List.drop_eq_nil_of_le]
theorem Lay.snoc {α:Type} (Y:Lay α) (L:List α) (x:α):(Y.d (L++[x])).flat=(Y.d L).flat++Y.el x:=by
 rw[Lay.flat,Lay.flat];simp
theorem info_bytes {P:Program} {e:Nat} {te:TI} {by':Nat} (h:TIok P e te) (hb:(P.info? e).map (fun i=>i.bytes)=some by'):∃i,P.info? e=some i∧i.size=te.sz∧i.zero=some te.zv∧i.bytes=by':=by
 obtain⟨i,h1,h2,h3⟩:=h.get
 rw[h1]at hb
 exact⟨i,h1,h2,h3,by simpa using hb⟩
theorem Agr.drop {N:Nat} {E:Env} {kn:Kn} {gk:List (Nat×(Gd×SV))} {ow:Own} {nx d:Nat} {s:SV} {tm:Array Value} (h:Agr N E ⟨(d,s)::kn,gk,ow,nx⟩ tm) (hd:look kn d=none):Agr N E ⟨kn,gk,ow,nx⟩ tm:=by
 have h0:∀t s',look kn t=some s'→look ((d,s)::kn) t=some s':=fun t s' h'=>by
  rw[Ac]
  split
  rename_i e;subst e;rw[hd]at h';cases h'
  exact h'
 exact⟨h.size,fun t s' a1 a2=>h.kn t s' a1 (h0 t s' a2),h.gk,fun t s' a2=>h.klt t s' (h0 t s' a2),h.glt⟩
theorem eval_put_ne {a:Act} {d:Nat} {v:Value} {x:Operand} (h:∀n,x=.tmp n→n≠d):(a.put (some d) v).eval x=a.eval x:=
 Act.eval_put fun d' hd hx=>by cases hd;exact h _ hx rfl
theorem eval_put_eq {a:Act} {d:Nat} {v:Value} (h:d<a.tmps.size):(a.put (some d) v).eval (.tmp d)=v:=by
 simp[Act.put,Act.eval,h]
theorem xl_push {α:Type} {T:TT} {C:Cx} (hT:TOk C.P T) {all:List Oper} {o1 o2:Oper} {r:List Oper} {Q:Bb} {kn:Kn} {gk:List (Nat×(Gd×SV))} {ow:Own} {nx:Nat} {u:Im}
 (Y:Lay α) (L:List α) (x:α) (by':Nat) {t e d1 d2 k:Nat} {tv sv:Operand} {ti te:TI} {z:SV} {cs:List Value}
 (h1:o1.op=.buildSlice t 1 #[(0,tv)]) (g1:o1.guard=none) (hd1:o1.dst=some d1)
 (h2:o2.op=.call {callee:=.builtin .append,args:=#[sv,.tmp d1],argTypes:=#[t,t]}) (g2:o2.guard=none) (hd2:o2.dst=some d2)
 (hti:look T t=some ti) (hsh:ti.shp=.slice e) (hte:look T e=some te) (hsz:te.sz=Y.fs.length) (hpos:Nat.blt 0 te.sz=true) (hsm:Nat.ble te.sz 1000=true)
 (hby:(C.P.info? e).map (fun i=>i.bytes)=some by')
 (hz:opd ⟨kn,gk,ow,nx⟩ [] tv=some z) (hcs:cellsOf te z=some (cs.map .v)) (hx:Y.el x=cs)
 (hf1:Bg C.N ⟨kn,gk,ow,nx⟩ d1 []=true) (hs:opd ⟨kn,gk,ow,nx⟩ [] sv=some (.r k)) (hsv:∀n,sv=.tmp n→n≠d1) (hk:look ow k=some (.row e (Y.d L)))
 (hf2:Bg C.N ⟨kn,gk,ow,nx⟩ d2 []=true) (hkn:look kn d1=none)
 (hb:(L.length+1) * by'≤140737488355328) (hn:L.length+1≤9223372036854775807)
 (K:XL C all r Q ⟨(d2,.r nx)::kn,gk,(nx,.row e (Y.d (L++[x])))::(k,.emp)::ow,nx+1⟩ u) :
 XL C all (o1::o2::r) Q ⟨kn,gk,ow,nx⟩ u:=by
 intro E a w hok
 obtain⟨f,hsat⟩:=hok.sat
 have hgs:gs a.tmps []:=fun x hx=>by cases hx
 have htik:=hT _ _ hti
 have htek:=hT _ _ hte
 obtain⟨ez,lz⟩:=Al hok.agr hgs hz
 obtain⟨c1,_,c3,c4⟩:=cellsOf_spec htek hcs lz
 have c3':(z.den E).cells=cs.toArray:=by rw[c3,List.map_map];simp[Function.comp_def,SV.den]
 have hlen:cs.length=te.sz:=by simpa using c1
 have c4':∀y∈cs,oneB y=true:=fun y hy=>c4 y (by rw[List.map_map];simpa[Function.comp_def,SV.den]using hy)
 have hpos':0<te.sz:=Cp hpos
 have hsm':te.sz≤1000:=Nat.le_of_ble_eq_true hsm
 have hcz:(z.den E).cells.size=te.sz:=by rw[c3'];simpa using hlen
 have hrun1:(execOp a.eval o1).run C.P w=.ok (.value (.slice (some ⟨w.heap.size,0,none⟩) 1 1)) (w.alloc (.cells (z.den E).cells e)):=by
  have:=run_build1 w (htik.isSlice hsh) htek hpos' hsm' hcz
  rw[←ez]at this
  simp only[execOp,h1]
  rw[Sem.run_bind]
  have e1:(#[(0,tv)].map fun(i,x)=>(i,a.eval x))=#[(0,a.eval tv)]:=by simp
  rw[e1,this,ez];rfl
 refine xl_wp g1 (fun c hc=>by rw[h1]at hc;cases hc) hrun1 ?_
 rw[hd1]
 have hsz1:d1<a.tmps.size:=by
  rw[hok.agr.size]
  unfold Bg at hf1
  split at hf1
  rename_i hh;exact Cp hh
  cases hf1
 have hsat1:=hsat.sub (.cells (z.den E).cells e)
 have hput1:Agr C.N E ⟨kn,gk,ow,nx⟩ (a.tmps.setIfInBounds d1 (.slice (some ⟨w.heap.size,0,none⟩) 1 1)):=by
  have:Agr C.N E (St.put ⟨kn,gk,ow,nx⟩ d1 [] (.v (.slice (some ⟨w.heap.size,0,none⟩) 1 1))) (a.tmps.setIfInBounds d1 (.slice (some ⟨w.heap.size,0,none⟩) 1 1)):=
   hok.agr.put (g:=[]) hf1 (fun _=>trivial) (fun _=>rfl) (fun hn=>absurd (fun x hx=>(by cases hx)) hn) (fun _=>rfl)
  exact Agr.drop this hkn
 obtain⟨es,ls⟩:=Al hok.agr hgs hs
 have es1:(a.put (some d1) (.slice (some ⟨w.heap.size,0,none⟩) 1 1)).eval sv=E k:=by rw[eval_put_ne hsv,es];rfl
 have ex1:=eval_put_eq (a:=a) (v:=.slice (some ⟨w.heap.size,0,none⟩) 1 1) hsz1
 obtain⟨i,i1,i2,i3,i4⟩:=info_bytes htek hby
 have hrow:=(hsat1.holds k _ hk).1
 rw[Lay.cs_length]at hrow
 have hnews:∀j y,cs[j]?=some y→(w.alloc (.cells (z.den E).cells e)).cell? ((⟨w.heap.size,0,none⟩:Addr).add j)=some y:=by
  intro j y hj
  have hb:(w.alloc (.cells (z.den E).cells e)).heap[w.heap.size]?=some (.cells (z.den E).cells e (0,0)):=heap_alloc_new w _
  have ea:(⟨w.heap.size,0,none⟩:Addr).add j=⟨w.heap.size,j,none⟩:=by
   unfold Addr.add
   by_cases hj0:j=0
   rw[if_pos hj0,hj0]
   rw[if_neg hj0,Nat.zero_add]
  rw[ea]
  unfold World.cell?
  rw[hb,c3']
  simpa using hj
 obtain⟨v',w',hrun2,hown,hgr,_,hat⟩:=run_append_own_at (P:=C.P) (w.alloc (.cells (z.den E).cells e)) 0 t o2.type e i te.zv te.sz by' (htik.isSlice hsh) i1 i3 i2 i4
  (by rw[TI.zv_cells htek];simpa using htek.len) hpos' (E k) L.length (Y.d L).flat (by rw[hsz];exact hrow) ⟨w.heap.size,0,none⟩ 1 1 cs (by omega) hnews (fun y hy=>oneB_cell' (c4' y hy))
  (by simpa[maxLen]using hn) hb (Nat.zero_le _)
 have hrun2':(execOp (a.put (some d1) (.slice (some ⟨w.heap.size,0,none⟩) 1 1)).eval o2).run C.P (w.alloc (.cells (z.den E).cells e))=.ok (.value v') w':=by
  simp only[execOp,h2,resolve,invoke,builtin,List.map_toArray,List.map_cons,List.map_nil,es1,ex1]
  simp[hrun2,Result.andThen]
 refine xl_wp g2 (fun c hc=>by rw[h2]at hc;cases hc) hrun2' ?_
 rw[hd2]
 rw[hsz,←hx,←Lay.snoc]at hown
 have hD:(Y.d (L++[x])).n=L.length+1:=by simp[Lay.d]
 have hsat2:=hsat1.app (D':=Y.d (L++[x])) hk (by rw[Lay.cs_length,hD];exact hown) hgr (hat.imp id fun hh=>⟨_,hh,Nat.le_refl _⟩)
 have hE:∀j,j<nx→upd E nx v' j=E j:=fun j hj=>An _ _ (by omega)
 have hg:=hput1.grow (E':=upd E nx v') (ow:=(nx,.row e (Y.d (L++[x])))::(k,.emp)::ow) (nx:=nx+1) hE (Nat.le_succ _)
 have hput2:Agr C.N (upd E nx v') (St.put ⟨kn,gk,(nx,.row e (Y.d (L++[x])))::(k,.emp)::ow,nx+1⟩ d2 [] (.r nx)) ((a.tmps.setIfInBounds d1 (.slice (some ⟨w.heap.size,0,none⟩) 1 1)).setIfInBounds d2 v'):=by
  refine hg.put (g:=[]) hf2 (fun _=>⟨Nat.lt_succ_self _,?_⟩) (fun _=>?_) (fun hn=>absurd (fun x hx=>(by cases hx)) hn) (fun _=>?_)
  obtain⟨A,c,hv⟩:=ownsRow_sl hown
  exact⟨A,_,c,by rw[Ak];exact hv⟩
  simp only[SV.den,Ak]
  simp only[SV.den,Ak]
 have:=K (upd E nx v') ((a.put (some d1) (.slice (some ⟨w.heap.size,0,none⟩) 1 1)).put (some d2) v') w' ⟨⟨hput2.size,hput2.kn,hput2.gk,hput2.klt,hput2.glt⟩,_,hsat2⟩
 exact Av (fun e a w=>Cd.mono hE (Nat.le_succ _) (Im.le.refl u)) _ _ _ this
def OwnAt (u:Im) (v:Value) (e:TypeId) (D:Data):Prop:=
 (v=.slice none 0 0∧D.n=0) ∨
  ∃g cap cur,v=.slice (some ⟨g,0,none⟩) D.n cap∧u.h g=some (.cells cur e (0,0))∧D.n≤cap∧cap≤maxLen∧cur.size=cap*D.cs.length∧cur.toList.take (D.n*D.cs.length)=D.flat
theorem OwnAt.slAt {u:Im} {v:Value} {e:TypeId} {D:Data} (h:OwnAt u v e D):Aw u v D:=by
 rcases h with⟨h1,h2⟩|⟨g,cap,cur,h1,h2,h3,h4,h5,h6⟩
 exact⟨none,0,by rw[h1,h2],by omega,by simp[maxLen],fun hn=>by omega⟩
 refine⟨_,cap,h1,h3,h4,fun hn=>⟨_,rfl,fun i hi j fn hf=>?_⟩⟩
 have hj:j<D.cs.length:=(List.getElem?_eq_some_iff.1 hf).1
 have hlt:i*D.cs.length+j<D.n*D.cs.length:=by
  have:(i+1) * D.cs.length≤D.n*D.cs.length:=Nat.mul_le_mul_right _ hi
  rw[Nat.add_mul]at this;omega
 have ea:∀n,(⟨g,0,none⟩:Addr).add n=⟨g,n,none⟩:=fun n=>by
  unfold Addr.add
  by_cases hj0:n=0
  rw[if_pos hj0,hj0]
  rw[if_neg hj0,Nat.zero_add]
 have hg:=flat_get D hi hf
 rw[←h6,List.getElem?_take,if_pos hlt]at hg
 rw[ea]
 unfold Im.cell?
 rw[h2]
 simpa using hg
theorem ownAt_of {w:World} {lo:Nat} {v:Value} {e:TypeId} {D:Data} (h:w.ownsRow 0 e D.cs.length v D.n D.flat) (hlo:∀b,v.ownBlock=some b→lo≤b):OwnAt (cut lo (im w)) v e D:=by
 rcases h.2 with h1|⟨g,cap,cur,h1,_,h2,h3⟩
 exact .inl h1
 refine .inr ⟨g,cap,cur,h1,?_,h3⟩
 have:=hlo g (by rw[h1];rfl)
 simp only[cut,im]
 rw[if_neg (by omega)];exact h2
theorem OwnAt.owns {w:World} {lo:Nat} {v:Value} {e:TypeId} {D:Data} (h:OwnAt (cut lo (im w)) v e D):w.ownsRow 0 e D.cs.length v D.n D.flat∧∀b,v.ownBlock=some b→lo≤b:=by
 rcases h with h1|⟨g,cap,cur,h1,h2,h3⟩
 exact⟨⟨GV.flat_length D,.inl h1⟩,fun b hb=>by rw[h1.1]at hb;cases hb⟩
 simp only[cut,im]at h2
 split at h2
 cases h2
 rename_i hh
 exact⟨⟨GV.flat_length D,.inr ⟨g,cap,cur,h1,Nat.zero_le _,h2,h3⟩⟩,fun b hb=>by rw[h1]at hb;cases hb;show lo≤g;omega⟩
theorem Sat.rowOwn {E:Env} {o:Own} {nx:Nat} {u:Im} {df:List Deferred} {w w0:World} {f:Nat→Nat→Prop} (h:Sat E o nx u df w f) {k:Nat} {e:TypeId} {D:Data} (hk:look o k=some (.row e D)) (hu:(im w0).le u) :
 OwnAt (cut w0.heap.size (im w)) (E k) e D:=by
 obtain⟨h1,h2⟩:=h.holds k _ hk
 refine ownAt_of h1 fun b hb=>?_
 have h3:=h.off k b ((h2 b).2 hb)
 rcases Nat.lt_or_ge b w0.heap.size with hlt|hge
 have:(im w0).h b=some w0.heap[b]:=Array.getElem?_eq_getElem hlt
 rw[hu.h _ _ this]at h3;cases h3
 exact hge
theorem Sat.rowAt {E:Env} {o:Own} {nx:Nat} {u:Im} {df:List Deferred} {w:World} {f:Nat→Nat→Prop} (h:Sat E o nx u df w f) {k:Nat} {e:TypeId} {D:Data} (hk:look o k=some (.row e D)):Aw (im w) (E k) D:=
 (ownAt_of (lo:=0) (h.holds k _ hk).1 (fun _ _=>Nat.zero_le _)).slAt.sub (cut_sub 0 _)
theorem finO {w0:World} {ow:Own} {nx:Nat} {u:Im} {k:Nat} {e:TypeId} {D:Data} (hk:look ow k=some (.row e D)):Done w0 (fun v u=>OwnAt u v e D) [.r k] ow nx u:=
 finP fun _ _ _ hs hu=>hs.rowOwn hk hu
theorem Sat.take {E:Env} {o:Own} {nx:Nat} {u:Im} {df:List Deferred} {w w':World} {f:Nat→Nat→Prop} (h:Sat E o nx u df w f) (hb:Below w.heap.size w w') {v:Value} {e:TypeId} {D:Data} (hv:OwnAt (cut w.heap.size (im w')) v e D) :
 Sat (upd E nx v) ((nx,.row e D)::o) (nx+1) u df w' (upd f nx (fun b=>v.ownBlock=some b)):=by
 obtain⟨hown,hlo⟩:=hv.owns
 have hE:∀j,j<nx→upd E nx v j=E j:=fun j hj=>An _ _ (by omega)
 have hlt:∀b x,u.h b=some x→b<w.heap.size:=fun b x hx=>(Array.getElem?_eq_some_iff.1 (h.imm.h b x hx)).1
 refine h.step (fun j=>j=nx) hE (Nat.le_succ _) (Im.le.refl u) ?_ hb.size (fun b hb' _=>hb.block b hb') ?_ ?_ ?_ (fun b o ho=>.inl ho)
 exact⟨fun b x hx=>by rw[hb.block b (hlt b x hx)];exact h.imm.h b x hx,hb.os.trans h.imm.os,hb.tape.trans h.imm.tape,hb.output.trans h.imm.output,Nat.le_trans h.imm.lo hb.size⟩
 intro k hk
 exact⟨by rw[Ac,if_neg (Ne.symm hk)],fun b=>by rw[An _ _ hk]⟩
 rintro k rfl
 refine⟨fun r hr=>?_,fun hr=>?_,fun b hb'=>?_⟩
 rw[Ac,if_pos rfl]at hr
 cases hr
 refine⟨⟨?_,?_⟩,Nat.lt_succ_self _,trivial⟩
 rw[Ak];exact hown
 intro x;rw[Ak,Ak]
 rw[Ac,if_pos rfl]at hr;cases hr
 rw[Ak]at hb'
 refine⟨.inr (hlo b hb'),?_⟩
 cases ho:u.h b with
 |none=>rfl
 |some x=>have:=hlt b x ho;have:=hlo b hb';omega
 intro k k' b hk hk' hne;subst hk hk';exact absurd rfl hne
theorem xl_callO {C:Cx} {all:List Oper} {o:Oper} {r:List Oper} {Q:Bb} {kn:Kn} {gk:List (Nat×(Gd×SV))} {ow:Own} {nx:Nat} {u:Im} {c:Call} (e:TypeId) (D:Data) (ho:o.op=.call c) (hgd:o.guard=none) {f d:Nat} (hd:o.dst=some d)
 (hc:callee ⟨kn,gk,ow,nx⟩ c=some f) (hfn:Fn1 C.P f) {ss:List SV} (hargs:argsOf ⟨kn,gk,ow,nx⟩ [] c.args.toList=some ss) (hfr:Bg C.N ⟨kn,gk,ow,nx⟩ d []=true)
 (H:∀E w F,Sat E ow nx u [] w F→Calls C.P f (ss.map (SV.den E)).toArray w (Bc w fun v u=>OwnAt u v e D))
 (K:XL C all r Q ⟨(d,.r nx)::kn,gk,(nx,.row e D)::ow,nx+1⟩ u) :
 XL C all (o::r) Q ⟨kn,gk,ow,nx⟩ u:=by
 intro E a w hok
 obtain⟨fF,hsat⟩:=hok.sat
 refine call_core _ ho hgd hc hfn hargs H hok hsat fun v w' hbel hR=>?_
 have hE:∀j,j<nx→upd E nx v j=E j:=fun j hj=>An _ _ (by omega)
 have hg:=hok.agr.grow (E':=upd E nx v) (ow:=(nx,.row e D)::ow) (nx:=nx+1) hE (Nat.le_succ _)
 have hput:Agr C.N (upd E nx v) (St.put ⟨kn,gk,(nx,.row e D)::ow,nx+1⟩ d [] (.r nx)) (a.tmps.setIfInBounds d v):=by
  refine hg.put (g:=[]) hfr (fun _=>⟨Nat.lt_succ_self _,?_⟩) (fun _=>?_) (fun hn=>absurd (fun x hx=>(by cases hx)) hn) (fun _=>?_)
  obtain⟨A,c,hv⟩:=ownsRow_sl hR.owns.1
  exact⟨A,_,c,by rw[Ak];exact hv⟩
  simp only[SV.den,Ak]
  simp only[SV.den,Ak]
 rw[hd]
 have:=K (upd E nx v) (a.put (some d) v) w' ⟨⟨hput.size,hput.kn,hput.gk,hput.klt,hput.glt⟩,_,hsat.take hbel hR⟩
 exact Av (fun e a w=>Cd.mono hE (Nat.le_succ _) (Im.le.refl u)) _ _ _ this
theorem Lay.d_n {α:Type} (Y:Lay α) (L:List α):(Y.d L).n=L.length:=rfl
theorem sdI {a b:Prop} (h:b) (ha:a:=by first|omega|(simp only[Lay.d_n];omega)|(simp only[decide_eq_true_eq,decide_eq_false_iff_not,Bool.or_eq_false_iff,Bool.and_eq_true,Bool.or_eq_true,Bool.and_eq_false_iff,Bool.not_eq_true',Bool.not_eq_false',Lay.d_n];omega)|(simp only[decide_eq_true_eq,decide_eq_false_iff_not,Bool.or_eq_false_iff,Bool.and_eq_true,Bool.or_eq_true,Bool.and_eq_false_iff,Bool.not_eq_true',Bool.not_eq_false'];omega)|(simp only[decide_eq_true_eq,decide_eq_false_iff_not,Bool.or_eq_false_iff];simp only[Lay.d_n];omega)):a∧b:=⟨ha,h⟩
theorem Lay.app {α:Type} (Y:Lay α) (L M:List α):(Y.d (L++M)).flat=(Y.d L).flat++(Y.d M).flat:=by
 rw[Lay.flat,Lay.flat,Lay.flat];simp
theorem addr_add0 (g n:Nat):(⟨g,0,none⟩:Addr).add n=⟨g,n,none⟩:=by
 unfold Addr.add
 by_cases hj0:n=0
 rw[if_pos hj0,hj0]
 rw[if_neg hj0,Nat.zero_add]
theorem Aw.flat {u:Im} {x:Value} {D:Data} (h:Aw u x D):∃A c,x=.slice A D.n c∧(A=none→D.n=0)∧∀ad,A=some ad→∀j y,D.flat[j]?=some y→u.cell? (ad.add j)=some y:=by
 obtain⟨A,c,h1,h2,h3,h4⟩:=h
 refine⟨A,c,h1,fun hA=>?_,fun ad hA j y hj=>?_⟩
 rcases Nat.eq_zero_or_pos D.n with h0|h0
 exact h0
 obtain⟨ad,h5,_⟩:=h4 h0;rw[h5]at hA;cases hA
 have hjl:j<D.flat.length:=(List.getElem?_eq_some_iff.1 hj).1
 rw[GV.flat_length]at hjl
 have hm:0<D.cs.length:=by
  rcases Nat.eq_zero_or_pos D.cs.length with h0|h0
  rw[h0]at hjl;omega
  exact h0
 have hn:0<D.n:=by
  rcases Nat.eq_zero_or_pos D.n with h0|h0
  rw[h0]at hjl;omega
  exact h0
 obtain⟨ad',h5,h6⟩:=h4 hn
 rw[hA]at h5;cases h5
 have hi:j / D.cs.length<D.n:=by rw[Nat.div_lt_iff_lt_mul hm];exact hjl
 have hr:j%D.cs.length<D.cs.length:=Nat.mod_lt _ hm
 have h7:=h6 (j / D.cs.length) hi (j%D.cs.length) _ (List.getElem?_eq_getElem hr)
 have h8:=flat_get D hi (List.getElem?_eq_getElem hr)
 have e:j / D.cs.length*D.cs.length+j%D.cs.length=j:=by rw[Nat.mul_comm];exact Nat.div_add_mod _ _
 rw[e]at h7 h8
 rw[hj]at h8;cases h8
 exact h7
theorem run_append_nil' {P:Program} (w:World) {t ty e:TypeId} {i:TypeInfo} {size:Nat} (ht:P.underlying t=some (.slice e)) (hi:P.info? e=some i)
 {v:Value} {n:Nat} {xs:List Value} (hown:w.ownsRow 0 e size v n xs) (c:Nat):(Builtin.append_ #[t,t] ty #[v,.slice none 0 c]).run P w=.ok v w:=by
 rcases hown.2 with⟨rfl,rfl⟩|⟨g,cap,cur,rfl,_,_,hnc,_⟩
 simp[Builtin.append_,run_underlying ht,sizeOf,typeInfo,hi,Builtin.lenOf,Builtin.firstCells]
 simp[Builtin.append_,run_underlying ht,sizeOf,typeInfo,hi,Builtin.lenOf,Builtin.firstCells,hnc,storeCells]
theorem Bm {α:Type} {T:TT} {C:Cx} (hT:TOk C.P T) {all:List Oper} {o2:Oper} {r:List Oper} {Q:Bb} {kn:Kn} {gk:List (Nat×(Gd×SV))} {ow:Own} {nx:Nat} {u:Im}
 (Y:Lay α) (L M:List α) (by':Nat) {t e d2 k:Nat} {sv xv:Operand} {ti te:TI} {z:SV}
 (h2:o2.op=.call {callee:=.builtin .append,args:=#[sv,xv],argTypes:=#[t,t]}) (g2:o2.guard=none) (hd2:o2.dst=some d2)
 (hti:look T t=some ti) (hsh:ti.shp=.slice e) (hte:look T e=some te) (hsz:te.sz=Y.fs.length) (hpos:Nat.blt 0 te.sz=true)
 (hby:(C.P.info? e).map (fun i=>i.bytes)=some by')
 (hs:opd ⟨kn,gk,ow,nx⟩ [] sv=some (.r k)) (hk:look ow k=some (.row e (Y.d L)))
 (hz:opd ⟨kn,gk,ow,nx⟩ [] xv=some z) (hx:∀E w F,Sat E ow nx u [] w F→Aw (im w) (z.den E) (Y.d M)) (hone:∀x,∀y∈Y.el x,oneB y=true)
 (hf2:Bg C.N ⟨kn,gk,ow,nx⟩ d2 []=true)
 (hb:(L.length+M.length) * by'≤140737488355328) (hn:L.length+M.length≤9223372036854775807)
 (K:XL C all r Q ⟨(d2,.r nx)::kn,gk,(nx,.row e (Y.d (L++M)))::(k,.emp)::ow,nx+1⟩ u) :
 XL C all (o2::r) Q ⟨kn,gk,ow,nx⟩ u:=by
 intro E a w hok
 obtain⟨f,hsat⟩:=hok.sat
 have hgs:gs a.tmps []:=fun x hx=>by cases hx
 have htik:=hT _ _ hti
 have htek:=hT _ _ hte
 have hpos':0<te.sz:=Cp hpos
 obtain⟨es,_⟩:=Al hok.agr hgs hs
 have es':a.eval sv=E k:=es
 obtain⟨ez,_⟩:=Al hok.agr hgs hz
 obtain⟨A,c,hzv,hA0,hAc⟩:=(hx E w f hsat.unmarked).flat
 rw[hzv]at ez
 obtain⟨i,i1,i2,i3,i4⟩:=info_bytes htek hby
 have hrow:=(hsat.holds k _ hk).1
 rw[Lay.cs_length,Lay.d_n,←hsz]at hrow
 have key:∃v' w',(Builtin.append_ #[t,t] o2.type #[E k,.slice A (Y.d M).n c]).run C.P w=.ok v' w'∧w'.ownsRow 0 e te.sz v' (L.length+M.length) (Y.d (L++M)).flat∧w.grownBy w' (E k).ownBlock ∧
  (v'.ownBlock=(E k).ownBlock∨v'.ownBlock=some w.heap.size):=by
  cases A with
  |none=>
   have h0:M=[]:=List.eq_nil_of_length_eq_zero (hA0 rfl)
   subst h0
   exact⟨E k,w,run_append_nil' w (htik.isSlice hsh) i1 hrow c,by simpa using hrow,⟨rfl,rfl,rfl,Nat.le_refl _,fun _ _ _=>rfl⟩,.inl rfl⟩
  |some ad=>
   obtain⟨v',w',hrun2,hown,hgr,_,hat⟩:=run_append_own_at (P:=C.P) w 0 t o2.type e i te.zv te.sz by' (htik.isSlice hsh) i1 i3 i2 i4
    (by rw[TI.zv_cells htek];simpa using htek.len) hpos' (E k) L.length (Y.d L).flat hrow ad M.length c (Y.d M).flat (by rw[Lay.flat_length,hsz]) (hAc ad rfl)
    (fun y hy=>by
     rw[Lay.flat,List.mem_flatMap]at hy
     obtain⟨x,_,hy⟩:=hy
     exact oneB_cell' (hone x y hy))
    (by simpa[maxLen]using hn) hb (Nat.zero_le _)
   rw[←Lay.app]at hown
   exact⟨v',w',hrun2,hown,hgr,hat⟩
 obtain⟨v',w',hrun2,hown,hgr,hat⟩:=key
 have hrun2':(execOp a.eval o2).run C.P w=.ok (.value v') w':=by
  simp only[execOp,h2,resolve,invoke,builtin,List.map_toArray,List.map_cons,List.map_nil,es',ez]
  simp[hrun2,Result.andThen]
 refine xl_wp g2 (fun c hc=>by rw[h2]at hc;cases hc) hrun2' ?_
 rw[hd2]
 have hD:(Y.d (L++M)).n=L.length+M.length:=by simp[Lay.d]
 have hsat2:=hsat.app (D':=Y.d (L++M)) hk (by rw[Lay.cs_length,hD,←hsz];exact hown) hgr (hat.imp id fun hh=>⟨_,hh,Nat.le_refl _⟩)
 have hE:∀j,j<nx→upd E nx v' j=E j:=fun j hj=>An _ _ (by omega)
 have hg:=hok.agr.grow (E':=upd E nx v') (ow:=(nx,.row e (Y.d (L++M)))::(k,.emp)::ow) (nx:=nx+1) hE (Nat.le_succ _)
 have hput2:Agr C.N (upd E nx v') (St.put ⟨kn,gk,(nx,.row e (Y.d (L++M)))::(k,.emp)::ow,nx+1⟩ d2 [] (.r nx)) (a.tmps.setIfInBounds d2 v'):=by
  refine hg.put (g:=[]) hf2 (fun _=>⟨Nat.lt_succ_self _,?_⟩) (fun _=>?_) (fun hn=>absurd (fun x hx=>(by cases hx)) hn) (fun _=>?_)
  obtain⟨A,c,hv⟩:=ownsRow_sl hown
  exact⟨A,_,c,by rw[Ak];exact hv⟩
  simp only[SV.den,Ak]
  simp only[SV.den,Ak]
 have:=K (upd E nx v') (a.put (some d2) v') w' ⟨⟨hput2.size,hput2.kn,hput2.gk,hput2.klt,hput2.glt⟩,_,hsat2⟩
 exact Av (fun e a w=>Cd.mono hE (Nat.le_succ _) (Im.le.refl u)) _ _ _ this
theorem xl_empty {α:Type} {T:TT} {C:Cx} (hT:TOk C.P T) {all:List Oper} {o:Oper} {r:List Oper} {Q:Bb} {kn:Kn} {gk:List (Nat×(Gd×SV))} {ow:Own} {nx:Nat} {u:Im}
 (Y:Lay α) {t e d:Nat} {ti te:TI} (ho:o.op=.buildSlice t 0 #[]) (hgd:o.guard=none) (hd:o.dst=some d)
 (hti:look T t=some ti) (hsh:ti.shp=.slice e) (hte:look T e=some te) (hf:Bg C.N ⟨kn,gk,ow,nx⟩ d []=true)
 (K:XL C all r Q ⟨(d,.r nx)::kn,gk,(nx,.row e (Y.d []))::ow,nx+1⟩ u):XL C all (o::r) Q ⟨kn,gk,ow,nx⟩ u:=by
 intro E a w hok
 obtain⟨f,hsat⟩:=hok.sat
 have htik:=hT _ _ hti
 have htek:=hT _ _ hte
 obtain⟨i,i1,i2,i3⟩:=htek.get
 have hrun:(execOp a.eval o).run C.P w=.ok (.value (.slice (some ⟨w.heap.size,0,none⟩) 0 0)) (w.alloc (.cells #[] e)):=by
  simp[execOp,ho,Instr.buildSlice,run_underlying (htik.isSlice hsh),sizeOf,typeInfo,i1,Instr.fill,newRow]
  have hr:Array.range 0=#[]:=Array.eq_empty_of_size_eq_zero (by simp)
  rw[hr];simp
 refine xl_wp hgd (fun c hc=>by rw[ho]at hc;cases hc) hrun ?_
 rw[hd]
 have hbel:Below w.heap.size w (w.alloc (.cells #[] e)):=⟨rfl,rfl,rfl,by rw[World.size_alloc];omega,fun b hb=>Below.heap_alloc _ _ _ hb⟩
 have hown:(w.alloc (.cells #[] e)).ownsRow 0 e (Y.d []).cs.length (.slice (some ⟨w.heap.size,0,none⟩) 0 0) (Y.d []).n (Y.d []).flat:=
  ⟨GV.flat_length _,.inr ⟨w.heap.size,0,#[],rfl,Nat.zero_le _,heap_alloc_new w _,Nat.le_refl _,by simp[maxLen],by simp,by rw[Lay.flat];simp⟩⟩
 have hv:=ownAt_of (lo:=w.heap.size) hown (fun b hb=>by cases hb;exact Nat.le_refl _)
 have hE:∀j,j<nx→upd E nx (.slice (some ⟨w.heap.size,0,none⟩) 0 0) j=E j:=fun j hj=>An _ _ (by omega)
 have hg:=hok.agr.grow (E':=upd E nx (.slice (some ⟨w.heap.size,0,none⟩) 0 0)) (ow:=(nx,.row e (Y.d []))::ow) (nx:=nx+1) hE (Nat.le_succ _)
 have hput:=hg.put (g:=[]) (d:=d) (s:=.r nx) (x:=.slice (some ⟨w.heap.size,0,none⟩) 0 0) hf (fun _=>⟨Nat.lt_succ_self _,_,_,_,Ak _ _ _⟩) (fun _=>(by simp only[SV.den,Ak])) (fun hn=>absurd (fun x hx=>(by cases hx)) hn) (fun _=>(by simp only[SV.den,Ak]))
 have:=K _ (a.put (some d) (.slice (some ⟨w.heap.size,0,none⟩) 0 0)) _ ⟨⟨hput.size,hput.kn,hput.gk,hput.klt,hput.glt⟩,_,hsat.take hbel hv⟩
 exact Av (fun e a w=>Cd.mono hE (Nat.le_succ _) (Im.le.refl u)) _ _ _ this
theorem Lay.set_flat {α:Type} (Y:Lay α) (L:List α) (i:Nat) (x:α) (hi:i<L.length) (off:Nat) (cs:List Value) (hl:off+cs.length≤Y.fs.length)
 (hx:Y.el x=(Y.el (L.getD i Y.dft)).take off++cs++(Y.el (L.getD i Y.dft)).drop (off+cs.length)) :
 (Y.d (L.set i x)).flat=(Y.d L).flat.take (i*Y.fs.length+off)++cs++(Y.d L).flat.drop (i*Y.fs.length+off+cs.length):=by
 rw[Lay.flat,Lay.flat]
 induction L generalizing i with
 |nil=>simp at hi
 |cons y r ih=>
  cases i with
  |zero=>
   simp only[List.getD_cons_zero]at hx
   simp only[List.set_cons_zero,List.flatMap_cons,Nat.zero_mul,Nat.zero_add]
   rw[hx,List.take_append_of_le_length (by rw[Lay.el_length];omega),List.drop_append_of_le_length (by rw[Lay.el_length];omega)]
   simp only[List.append_assoc]
  |succ i=>
   simp only[List.getD_cons_succ]at hx
   have:=ih i (by simpa using hi) hx
   simp only[List.set_cons_succ,List.flatMap_cons]
   rw[this]
   have e1:(i+1) * Y.fs.length+off=(Y.el y).length+(i*Y.fs.length+off):=by rw[Lay.el_length,Nat.add_mul];omega
   have e2:(i+1) * Y.fs.length+off+cs.length=(Y.el y).length+(i*Y.fs.length+off+cs.length):=by rw[Lay.el_length,Nat.add_mul];omega
   rw[e1,List.take_length_add_append]
   rw[show(Y.el y).length+(i*Y.fs.length+off)+cs.length=(Y.el y).length+(i*Y.fs.length+off+cs.length) by omega,List.drop_length_add_append]
   simp only[List.append_assoc]
theorem Bv {α:Type} {T:TT} {C:Cx} (hT:TOk C.P T) {all:List Oper} {o:Oper} {r:List Oper} {Q:Bb} {kn:Kn} {gk:List (Nat×(Gd×SV))} {ow:Own} {nx:Nat} {u:Im}
 (Y:Lay α) (L:List α) (x:α) {t e k sz off:Nat} {i:Int} {av sv:Operand} {ti:TI} {z:SV} {cs:List Value}
 (ho:o.op=.store t av sv) (hgd:o.guard=none) (hd:o.dst=none) (hti:look T t=some ti)
 (ha:opd ⟨kn,gk,ow,nx⟩ [] av=some (.e k sz i off)) (hk:look ow k=some (.row e (Y.d L))) (hsz:sz=Y.fs.length) (hi:0≤i) (hi2:i<L.length)
 (hz:opd ⟨kn,gk,ow,nx⟩ [] sv=some z) (hcs:cellsOf ti z=some (cs.map .v)) (hl:off+cs.length≤Y.fs.length)
 (hx:Y.el x=(Y.el (L.getD i.toNat Y.dft)).take off++cs++(Y.el (L.getD i.toNat Y.dft)).drop (off+cs.length))
 (K:XL C all r Q ⟨kn,gk,(k,.row e (Y.d (L.set i.toNat x)))::ow,nx⟩ u):XL C all (o::r) Q ⟨kn,gk,ow,nx⟩ u:=by
 intro E a w hok
 obtain⟨f,hsat⟩:=hok.sat
 have hgs:gs a.tmps []:=fun x hx=>by cases hx
 have hti':=hT _ _ hti
 obtain⟨e1,_⟩:=Al hok.agr hgs ha
 obtain⟨e2,e3⟩:=Al hok.agr hgs hz
 obtain⟨c1,_,c3,c4⟩:=cellsOf_spec hti' hcs e3
 have c3':(z.den E).cells=cs.toArray:=by rw[c3,List.map_map];simp[Function.comp_def,SV.den]
 have c4':∀y∈cs,oneB y=true:=fun y hy=>c4 y (by rw[List.map_map];simpa[Function.comp_def,SV.den]using hy)
 obtain⟨hrow,hF⟩:=hsat.holds k _ hk
 have hiL:i.toNat<L.length:=by omega
 rcases hrow.2 with⟨_,h0⟩|⟨g,cap,cur,hv,_,hg,hnc,hcm,hcs',htake⟩
 rw[Lay.d_n]at h0;omega
 rw[Lay.cs_length]at hcs' htake
 rw[Lay.d_n]at hnc htake hv
 have hmul:(i.toNat+1) * Y.fs.length≤L.length*Y.fs.length:=Nat.mul_le_mul_right _ hiL
 have hmul2:L.length*Y.fs.length≤cap*Y.fs.length:=Nat.mul_le_mul_right _ hnc
 rw[Nat.add_mul,Nat.one_mul]at hmul
 have hden:(SV.e k sz i off).den E=.pointer (some ⟨g,i.toNat*Y.fs.length+off,none⟩):=by
  simp only[SV.den,elOf,hv,hsz,addr_add0]
 obtain⟨w',h1,h2,h3,h4,h5,h6,h7⟩:=run_storeCells (P:=C.P) cs 0 (i.toNat*Y.fs.length+off) w _ hg c4' (by rw[hcs'];omega)
 simp only[Nat.add_zero]at h7
 have hrun:(execOp a.eval o).run C.P w=.ok .skip w':=by
  have hszz:(z.den E).cells.size=ti.sz:=by rw[c3'];simpa using c1
  simp only[execOp,ho,Instr.storeAt,e1,hden,Instr.sureAddr,Sem.run_bind,Sem.run_pure,Result.andThen_ok,storeVar,Ca w hti',e2,hszz]
  rw[if_neg (by simp)]
  simp only[c3',h1,Result.andThen_ok]
 have hfl:=Lay.set_flat Y L i.toNat x hiL off cs hl hx
 have hown:w'.ownsRow 0 e Y.fs.length (E k) (L.set i.toNat x).length (Y.d (L.set i.toNat x)).flat:=by
  refine⟨Lay.flat_length _ _,.inr ⟨g,cap,_,by rw[List.length_set];exact hv,Nat.zero_le _,h7,by rw[List.length_set];exact hnc,hcm,?_,?_⟩⟩
  simp only[List.size_toArray,List.length_append,List.length_take,List.length_drop,Array.length_toList]
  omega
  rw[List.length_set,hfl,←htake]
  simp only[List.append_assoc]
  rw[List.take_append,List.take_append,List.take_take,List.take_take]
  simp only[List.length_take,Array.length_toList,List.drop_take]
  rw[Nat.min_eq_left (show i.toNat*Y.fs.length+off≤cur.size by omega)]
  rw[show min (L.length*Y.fs.length) (i.toNat*Y.fs.length+off)=i.toNat*Y.fs.length+off by omega,show min (i.toNat*Y.fs.length+off) (L.length*Y.fs.length)=i.toNat*Y.fs.length+off by omega]
  rw[List.take_of_length_le (show cs.length≤L.length*Y.fs.length-(i.toNat*Y.fs.length+off) by omega)]
  rw[show L.length*Y.fs.length-(i.toNat*Y.fs.length+off)-cs.length=L.length*Y.fs.length-(i.toNat*Y.fs.length+off+cs.length) by omega]
 have hkl:=(hsat.lt k _ hk).1
 have hsat2:Sat E ((k,.row e (Y.d (L.set i.toNat x)))::ow) nx u a.defers w' f:=by
  have hgk:f k g:=(hF g).2 (by rw[hv];rfl)
  refine hsat.step (fun j=>j=k) (fun _ _=>rfl) (Nat.le_refl _) (Im.le.refl u) ?_ (Nat.le_of_eq h2.symm) (fun b _ hb=>h6 b (fun e=>hb k rfl (e▸hgk))) ?_ ?_ ?_ (fun b o ho=>.inl ho)
  refine⟨fun b y hy=>?_,h3.trans hsat.imm.os,h4.trans hsat.imm.tape,h5.trans hsat.imm.output,by rw[h2];exact hsat.imm.lo⟩
  rw[h6 b (fun e=>by rw[e,hsat.off k g hgk]at hy;cases hy)]
  exact hsat.imm.h b y hy
  intro j hj
  exact⟨by rw[Ac,if_neg (Ne.symm hj)],fun b=>Iff.rfl⟩
  rintro j rfl
  refine⟨fun r hr=>?_,fun hr=>?_,fun b hb=>?_⟩
  rw[Ac,if_pos rfl]at hr
  cases hr
  exact⟨⟨by rw[Lay.cs_length];exact hown,hF⟩,hkl,trivial⟩
  rw[Ac,if_pos rfl]at hr;cases hr
  exact⟨.inl ⟨j,rfl,hb⟩,hsat.off j b hb⟩
  intro j j' b hj hj' hne;subst hj hj';exact absurd rfl hne
 unfold wpListIn
 rw[if_pos (by simp[Region.wanted,hgd])]
 refine⟨fun _ _=>trivial,?_⟩
 rw[semAt_eq _ _ _ (fun c hc=>by rw[ho]at hc;cases hc),hrun,Oper.uponIn_skip,hd]
 exact K E a w' ⟨⟨hok.agr.size,hok.agr.kn,hok.agr.gk,hok.agr.klt,hok.agr.glt⟩,f,hsat2⟩
def OwnT (e:TypeId) (D:Data) (l:List Value) (v:Value) (u:Im):Prop:=∃x,v=.tuple (x::l).toArray∧OwnAt u x e D
theorem finO2 {w0:World} {ow:Own} {nx:Nat} {u:Im} {k:Nat} {e:TypeId} {D:Data} {y:Value} (hk:look ow k=some (.row e D)):Done w0 (OwnT e D [y]) [.r k,.v y] ow nx u:=
 finP fun _ _ _ hs hu=>⟨_,rfl,hs.rowOwn hk hu⟩
theorem finO2n {α:Type} {w0:World} {ow:Own} {nx:Nat} {u:Im} {e:TypeId} (Y:Lay α) {y:Value}:Done w0 (OwnT e (Y.d []) [y]) [.v (.slice none 0 0),.v y] ow nx u:=
 finP fun _ _ _ _ _=>⟨_,rfl,.inl ⟨rfl,rfl⟩⟩
theorem xl_callO2 {C:Cx} {all:List Oper} {o:Oper} {r:List Oper} {Q:Bb} {kn:Kn} {gk:List (Nat×(Gd×SV))} {ow:Own} {nx:Nat} {u:Im} {c:Call} (e:TypeId) (D:Data) (l:List Value) (ho:o.op=.call c) (hgd:o.guard=none) {f d:Nat} (hd:o.dst=some d)
 (hc:callee ⟨kn,gk,ow,nx⟩ c=some f) (hfn:Fn1 C.P f) {ss:List SV} (hargs:argsOf ⟨kn,gk,ow,nx⟩ [] c.args.toList=some ss) (hfr:Bg C.N ⟨kn,gk,ow,nx⟩ d []=true)
 (H:∀E w F,Sat E ow nx u [] w F→Calls C.P f (ss.map (SV.den E)).toArray w (Bc w (OwnT e D l)))
 (K:XL C all r Q ⟨(d,.tup (.inr nx::l.map .inl))::kn,gk,(nx,.row e D)::ow,nx+1⟩ u) :
 XL C all (o::r) Q ⟨kn,gk,ow,nx⟩ u:=by
 intro E a w hok
 obtain⟨fF,hsat⟩:=hok.sat
 refine call_core _ ho hgd hc hfn hargs H hok hsat fun v w' hbel hR=>?_
 obtain⟨x,rfl,hR⟩:=hR
 have hE:∀j,j<nx→upd E nx x j=E j:=fun j hj=>An _ _ (by omega)
 have hg:=hok.agr.grow (E':=upd E nx x) (ow:=(nx,.row e D)::ow) (nx:=nx+1) hE (Nat.le_succ _)
 have hden:(Value.tuple (x::l).toArray)=(SV.tup (.inr nx::l.map .inl)).den (upd E nx x):=by
  simp[SV.den,eltOf,Ak,Function.comp_def]
 have hput:Agr C.N (upd E nx x) (St.put ⟨kn,gk,(nx,.row e D)::ow,nx+1⟩ d [] (.tup (.inr nx::l.map .inl))) (a.tmps.setIfInBounds d (.tuple (x::l).toArray)):=by
  refine hg.put (g:=[]) hfr (fun _=>fun k hk=>?_) (fun _=>hden) (fun hn=>absurd (fun x hx=>(by cases hx)) hn) (fun _=>hden)
  have:k=nx:=by
   simp only[List.mem_cons,List.mem_map]at hk
   rcases hk with hk|⟨_,_,hk⟩
   cases hk;rfl
   cases hk
  subst this
  obtain⟨A,c,hv⟩:=ownsRow_sl hR.owns.1
  exact⟨Nat.lt_succ_self _,A,_,c,by rw[Ak];exact hv⟩
 rw[hd]
 have:=K (upd E nx x) (a.put (some d) _) w' ⟨⟨hput.size,hput.kn,hput.gk,hput.klt,hput.glt⟩,_,hsat.take hbel hR⟩
 exact Av (fun e a w=>Cd.mono hE (Nat.le_succ _) (Im.le.refl u)) _ _ _ this
theorem Sat.freeze {E:Env} {o:Own} {nx:Nat} {u:Im} {df:List Deferred} {w:World} {f:Nat→Nat→Prop} (h:Sat E o nx u df w f) {k:Nat} {e:TypeId} {D:Data} (hk:look o k=some (.row e D)) :
 ∃u',u.le u'∧Aw u' (E k) D∧Sat E ((k,.emp)::o) nx u' df w (upd f k (fun _=>False)):=by
 obtain⟨hrow,hF⟩:=h.holds k _ hk
 refine⟨{u with h:=fun b=>if(E k).ownBlock=some b then w.heap[b]? else u.h b},?_,?_,?_⟩
 refine⟨fun b x hx=>?_,rfl,rfl,rfl,rfl⟩
 simp only
 split
 rename_i hb;rw[h.off k b ((hF b).2 hb)]at hx;cases hx
 exact hx
 have h1:=ownAt_of (lo:=0) hrow (fun _ _=>Nat.zero_le _)
 have:OwnAt {u with h:=fun b=>if(E k).ownBlock=some b then w.heap[b]? else u.h b} (E k) e D:=by
  rcases h1 with h1|⟨g,cap,cur,h1,h2,h3⟩
  exact .inl h1
  refine .inr ⟨g,cap,cur,h1,?_,h3⟩
  simp only[cut,im,Nat.not_lt_zero,if_false]at h2
  simp only
  rw[if_pos (by rw[h1];rfl)];exact h2
 exact this.slAt
 have hle:u.le {u with h:=fun b=>if(E k).ownBlock=some b then w.heap[b]? else u.h b}:=by
  refine⟨fun b x hx=>?_,rfl,rfl,rfl,rfl⟩
  simp only
  split
  rename_i hb;rw[h.off k b ((hF b).2 hb)]at hx;cases hx
  exact hx
 have himm:Imm {u with h:=fun b=>if(E k).ownBlock=some b then w.heap[b]? else u.h b} w:=by
  refine⟨fun b x hx=>?_,h.imm.os,h.imm.tape,h.imm.output,h.imm.lo⟩
  simp only at hx
  split at hx
  exact hx
  exact h.imm.h b x hx
 have hoth:∀j,j≠k→∀b,f j b→(if(E k).ownBlock=some b then w.heap[b]? else u.h b)=none:=fun j hj b hb=>by
  rw[if_neg (fun hh=>h.apart j k b hj hb ((hF b).2 hh))];exact h.off j b hb
 refine⟨fun j r hr=>?_,fun j hr b hb=>?_,fun j j' b hne h1=>?_,fun j b hb=>?_,fun j r hr=>?_,himm,?_⟩
 rw[Ac]at hr
 split at hr
 rename_i e1;subst e1;cases hr;exact fun x hx=>by rw[Ak]at hx;exact hx
 rename_i e1
 rw[An _ _ (Ne.symm e1)]
 exact Rs.holds_mono hle himm (h.holds j r hr)
 rw[Ac]at hr
 split at hr
 cases hr
 rename_i e1
 rw[An _ _ (Ne.symm e1)]at hb
 exact h.non j hr b hb
 by_cases hj:j=k
 subst hj;rw[Ak]at h1;exact h1.elim
 rw[An _ _ hj]at h1
 by_cases hj':j'=k
 subst hj';rw[Ak];exact id
 rw[An _ _ hj'];exact h.apart j j' b hne h1
 by_cases hj:j=k
 subst hj;rw[Ak]at hb;exact hb.elim
 rw[An _ _ hj]at hb;exact hoth j hj b hb
 rw[Ac]at hr
 split at hr
 rename_i e1;subst e1;cases hr;exact⟨(h.lt k _ hk).1,trivial⟩
 exact h.lt j r hr
 obtain⟨ds,h1,h2,h3⟩:=h.marks
 refine⟨ds,h1,h2,fun d hd=>?_⟩
 obtain⟨h4,h5,h6⟩:=h3 d hd
 refine⟨h4,?_,fun j hj=>?_⟩
 simp only
 rw[if_neg (fun hh=>h6 k ((hF d).2 hh))];exact h5
 by_cases hjk:j=k
 subst hjk;rw[Ak]at hj;exact hj
 rw[An _ _ hjk]at hj;exact h6 j hj
def frz (k:Nat) (x:Value):Kn→Kn
 |[]=>[]
 |(d,s)::r=>(d,match s with
  |.r j=>match Nat.beq j k with
   |true=>.v x
   |false=>.r j
  |s=>s)::frz k x r
theorem frz_look {k:Nat} {x:Value}:∀ {kn:Kn} {d:Nat} {s:SV},look (frz k x kn) d=some s→look kn d=some s∨(look kn d=some (.r k)∧s=.v x)
 |[],d,s,h=>by cases h
 |(d',s')::r,d,s,h=>by
  simp only[frz]at h
  rw[Ac]at h ⊢
  split at h
  rename_i e
  rw[if_pos e]
  cases s' with
  |r j=>
   simp only at h
   split at h
   rename_i hb
   have:=Nat.eq_of_beq_eq_true hb
   subst this
   cases h;exact .inr ⟨rfl,rfl⟩
   exact .inl h
  |_=>exact .inl h
  rename_i e
  rw[if_neg e]
  exact frz_look h
theorem Agr.frz {N:Nat} {E:Env} {kn:Kn} {gk:List (Nat×(Gd×SV))} {ow ow':Own} {nx k:Nat} {tm:Array Value} (h:Agr N E ⟨kn,gk,ow,nx⟩ tm) {x:Value} (hx:E k=x):Agr N E ⟨GV.frz k x kn,gk,ow',nx⟩ tm:=by
 refine⟨h.size,fun d s a1 a2=>?_,h.gk,fun d s a2=>?_,h.glt⟩
 rcases frz_look a2 with h1|⟨h1,rfl⟩
 exact h.kn d s a1 h1
 rw[h.kn d _ a1 h1];simp only[SV.den,hx]
 rcases frz_look a2 with h1|⟨h1,rfl⟩
 exact h.klt d s h1
 trivial
theorem Aw.form {u:Im} {v:Value} {D:Data} (h:Aw u v D):∃A c,v=.slice A D.n c:=by
 obtain⟨A,c,h1,_⟩:=h
 exact⟨A,c,h1⟩
theorem xl_freeze {C:Cx} {all l:List Oper} {Q:Bb} {kn:Kn} {gk:List (Nat×(Gd×SV))} {ow:Own} {nx:Nat} {u:Im} (k:Nat) {e:TypeId} {D:Data} (hk:look ow k=some (.row e D))
 (K:∀A c u',u.le u'→Aw u' (.slice A D.n c) D→XL C all l Q ⟨frz k (.slice A D.n c) kn,gk,(k,.emp)::ow,nx⟩ u'):XL C all l Q ⟨kn,gk,ow,nx⟩ u:=by
 intro E a w hok
 obtain⟨f,hsat⟩:=hok.sat
 obtain⟨u',hu,hsl,hsat'⟩:=hsat.freeze hk
 obtain⟨A,c,hv⟩:=hsl.form
 have:=K A c u' hu (hv▸hsl) E a w ⟨hok.agr.frz hv,_,hsat'⟩
 exact Av (fun e a w=>Cd.mono (fun _ _=>rfl) (Nat.le_refl _) hu) _ _ _ this
theorem xl_make0 {α:Type} {T:TT} {C:Cx} (hT:TOk C.P T) {all:List Oper} {o:Oper} {r:List Oper} {Q:Bb} {kn:Kn} {gk:List (Nat×(Gd×SV))} {ow:Own} {nx:Nat} {u:Im}
 (Y:Lay α) (by' m:Nat) {t e d:Nat} {lv cv:Operand} {ti te:TI} {kl kc:IntKind} (ho:o.op=.makeSlice t lv cv) (hgd:o.guard=none) (hd:o.dst=some d)
 (hti:look T t=some ti) (hsh:ti.shp=.slice e) (hte:look T e=some te) (hsz:te.sz=Y.fs.length) (hby:(C.P.info? e).map (fun i=>i.bytes)=some by')
 (hl:opd ⟨kn,gk,ow,nx⟩ [] lv=some (.v (.int kl 0))) (hc:opd ⟨kn,gk,ow,nx⟩ [] cv=some (.v (.int kc (m:Int)))) (hf:Bg C.N ⟨kn,gk,ow,nx⟩ d []=true)
 (hb:by' * m≤281474976710656) (hm:m≤9223372036854775807)
 (K:XL C all r Q ⟨(d,.r nx)::kn,gk,(nx,.row e (Y.d []))::ow,nx+1⟩ u):XL C all (o::r) Q ⟨kn,gk,ow,nx⟩ u:=by
 intro E a w hok
 obtain⟨f,hsat⟩:=hok.sat
 have hgs:gs a.tmps []:=fun x hx=>by cases hx
 have htik:=hT _ _ hti
 have htek:=hT _ _ hte
 obtain⟨i,i1,i2,i3,i4⟩:=info_bytes htek hby
 obtain⟨el,_⟩:=Al hok.agr hgs hl
 obtain⟨ec,_⟩:=Al hok.agr hgs hc
 simp only[SV.den]at el ec
 obtain⟨w',hrun0,hown,hgr⟩:=run_make_own (P:=C.P) w 0 t e i te.zv te.sz (htik.isSlice hsh) i1 i3 i2 kl kc m (by rw[i4];exact hb) (by simpa[maxLen]using hm) (Nat.zero_le _)
 have hrun:(execOp a.eval o).run C.P w=.ok (.value (.slice (some ⟨w.heap.size,0,none⟩) 0 m)) w':=by
  simp only[execOp,ho,el,ec,Sem.run_bind,hrun0,Result.andThen_ok]
  rfl
 refine xl_wp hgd (fun c hc=>by rw[ho]at hc;cases hc) hrun ?_
 rw[hd]
 have hbel:Below w.heap.size w w':=⟨hgr.os,hgr.tape,hgr.output,hgr.size,fun b hb=>hgr.block b hb (by simp)⟩
 have hown':w'.ownsRow 0 e (Y.d []).cs.length (.slice (some ⟨w.heap.size,0,none⟩) 0 m) (Y.d []).n (Y.d []).flat:=by
  rw[Lay.cs_length,←hsz,Lay.flat];exact hown
 have hv:=ownAt_of (lo:=w.heap.size) hown' (fun b hb=>by cases hb;exact Nat.le_refl _)
 have hE:∀j,j<nx→upd E nx (.slice (some ⟨w.heap.size,0,none⟩) 0 m) j=E j:=fun j hj=>An _ _ (by omega)
 have hg:=hok.agr.grow (E':=upd E nx (.slice (some ⟨w.heap.size,0,none⟩) 0 m)) (ow:=(nx,.row e (Y.d []))::ow) (nx:=nx+1) hE (Nat.le_succ _)
 have hput:=hg.put (g:=[]) (d:=d) (s:=.r nx) (x:=.slice (some ⟨w.heap.size,0,none⟩) 0 m) hf (fun _=>⟨Nat.lt_succ_self _,_,_,_,Ak _ _ _⟩) (fun _=>(by simp only[SV.den,Ak])) (fun hn=>absurd (fun x hx=>(by cases hx)) hn) (fun _=>(by simp only[SV.den,Ak]))
 have:=K _ (a.put (some d) (.slice (some ⟨w.heap.size,0,none⟩) 0 m)) _ ⟨⟨hput.size,hput.kn,hput.gk,hput.klt,hput.glt⟩,_,hsat.take hbel hv⟩
 exact Av (fun e a w=>Cd.mono hE (Nat.le_succ _) (Im.le.refl u)) _ _ _ this
theorem xl_cutTo {α:Type} {T:TT} {C:Cx} (hT:TOk C.P T) {all:List Oper} {o:Oper} {r:List Oper} {Q:Bb} {kn:Kn} {gk:List (Nat×(Gd×SV))} {ow:Own} {nx:Nat} {u:Im}
 (Y:Lay α) (L:List α) {t e d k:Nat} {sv hv:Operand} {ti te:TI} {kh:IntKind} {h:Int} (ho:o.op=.slice t sv none (some hv) none) (hgd:o.guard=none) (hd:o.dst=some d)
 (hti:look T t=some ti) (hsh:ti.shp=.slice e) (hte:look T e=some te)
 (hs:opd ⟨kn,gk,ow,nx⟩ [] sv=some (.r k)) (hk:look ow k=some (.row e (Y.d L))) (hh:opd ⟨kn,gk,ow,nx⟩ [] hv=some (.v (.int kh h))) (hf:Bg C.N ⟨kn,gk,ow,nx⟩ d []=true)
 (h0:0≤h) (h1:h≤L.length)
 (K:XL C all r Q ⟨(d,.r nx)::kn,gk,(nx,.row e (Y.d (L.take h.toNat)))::(k,.emp)::ow,nx+1⟩ u):XL C all (o::r) Q ⟨kn,gk,ow,nx⟩ u:=by
 intro E a w hok
 obtain⟨f,hsat⟩:=hok.sat
 have hgs:gs a.tmps []:=fun x hx=>by cases hx
 have hu:=(hT _ _ hti).isSlice hsh
 have hel:C.P.elem t=e:=by simp[Program.elem,hu]
 have htek:=hT _ _ hte
 obtain⟨es,_⟩:=Al hok.agr hgs hs
 obtain⟨eh,_⟩:=Al hok.agr hgs hh
 have es':a.eval sv=E k:=es
 simp only[SV.den]at eh
 have hrow:=(hsat.holds k _ hk).1
 have hlen:(L.take h.toNat).length=h.toNat:=by rw[List.length_take];omega
 have hflat:(Y.d (L.take h.toNat)).flat=(Y.d L).flat.take (h.toNat*Y.fs.length):=by
  have e1:(Y.d L).flat=(Y.d (L.take h.toNat)).flat++(Y.d (L.drop h.toNat)).flat:=by rw[←Lay.app,List.take_append_drop]
  have hl:(Y.d (L.take h.toNat)).flat.length=h.toNat*Y.fs.length:=by rw[Lay.flat_length,hlen]
  rw[e1,←hl,List.take_left]
 have key:∃v',(execOp a.eval o).run C.P w=.ok (.value v') w∧w.ownsRow 0 e Y.fs.length v' h.toNat (Y.d (L.take h.toNat)).flat∧v'.ownBlock=(E k).ownBlock:=by
  rw[Lay.cs_length,Lay.d_n]at hrow
  rcases hrow.2 with⟨hv,hn⟩|⟨g,cap,cur,hv,hb,hg,hnc,hcm,hcs,htake⟩
  have hz:h.toNat=0:=by omega
  refine⟨.slice none 0 0,?_,⟨by rw[Lay.flat_length,hlen],.inl ⟨rfl,hz⟩⟩,by rw[hv]⟩
  have:=run_slice_h (P:=C.P) w t none 0 0 (by rw[hel];exact hu) kh h h0 (by omega)
  simp only[execOp,ho,Option.map_none,Option.map_some,es',hv,eh]
  rw[Sem.run_bind,run_sliceAt_slice w t _ _ _ _ (by rw[hel];exact hu),this,hel,Ca w htek]
  simp[Result.andThen,sliced,hz]
  refine⟨.slice (some ⟨g,0,none⟩) h.toNat cap,?_,⟨by rw[Lay.flat_length,hlen],.inr ⟨g,cap,cur,rfl,hb,hg,by omega,hcm,hcs,?_⟩⟩,by rw[hv];rfl⟩
  have:=run_slice_h (P:=C.P) w t (some ⟨g,0,none⟩) L.length cap (by rw[hel];exact hu) kh h h0 (by omega)
  simp only[execOp,ho,Option.map_none,Option.map_some,es',hv,eh]
  rw[Sem.run_bind,run_sliceAt_slice w t _ _ _ _ (by rw[hel];exact hu),this,hel,Ca w htek]
  simp[Result.andThen,sliced,Addr.add]
  rw[hflat,←htake,List.take_take,Nat.min_eq_left (Nat.mul_le_mul_right _ (by omega))]
 obtain⟨v',hrun,hown,hblk⟩:=key
 refine xl_wp hgd (fun c hc=>by rw[ho]at hc;cases hc) hrun ?_
 rw[hd]
 have hsat2:=hsat.app (w':=w) (D':=Y.d (L.take h.toNat)) hk (by rw[Lay.cs_length,Lay.d_n,hlen];exact hown) ⟨rfl,rfl,rfl,Nat.le_refl _,fun _ _ _=>rfl⟩ (.inl hblk)
 have hE:∀j,j<nx→upd E nx v' j=E j:=fun j hj=>An _ _ (by omega)
 have hg:=hok.agr.grow (E':=upd E nx v') (ow:=(nx,.row e (Y.d (L.take h.toNat)))::(k,.emp)::ow) (nx:=nx+1) hE (Nat.le_succ _)
 have hput:=hg.put (g:=[]) (d:=d) (s:=.r nx) (x:=v') hf (fun _=>⟨Nat.lt_succ_self _,(by obtain⟨A,c,hv⟩:=ownsRow_sl hown;exact⟨A,_,c,by rw[Ak];exact hv⟩)⟩) (fun _=>(by simp only[SV.den,Ak])) (fun hn=>absurd (fun x hx=>(by cases hx)) hn) (fun _=>(by simp only[SV.den,Ak]))
 have:=K _ (a.put (some d) v') _ ⟨⟨hput.size,hput.kn,hput.gk,hput.klt,hput.glt⟩,_,hsat2⟩
 exact Av (fun e a w=>Cd.mono hE (Nat.le_succ _) (Im.le.refl u)) _ _ _ this
section phase
variable {ro:Option Nat} {P:Program} {ops:Array Oper} {Inv:World→Prop} {md:Region.Mode}
def phaseB (md:Region.Mode) (ops:Array Oper) (target:Array Bool):Nat→Array Bool→Bool
 |0,listed=>decide (listed=target)
 |k+1,listed=>!(Region.ready md ops listed).isEmpty&&(Region.ready md ops listed).all fun i=>phaseB md ops target k (listed.setIfInBounds i true)
def anyP (ro:Option Nat) (P:Program) (md:Region.Mode) (ops:Array Oper) (Inv:World→Prop) (Q:Act→Prop):Nat→Array Bool→Act→Prop
 |0,_,a=>Q a
 |k+1,listed,a=>∀i∈Region.ready md ops listed,opI ro P ops Inv i (anyP ro P md ops Inv Q k (listed.setIfInBounds i true)) a
theorem wpAny_of_anyP {target:Array Bool} {fuel:Nat} {Q:Act→Prop} {Q':Exit→Act→World→Prop} (hQ:∀a w,Q a→Inv w→wpAnyIn (FR ro) 0 P md ops Q' fuel target a w) :
 ∀(k:Nat) (listed:Array Bool) (a:Act) (w:World),Inv w→phaseB md ops target k listed=true→anyP ro P md ops Inv Q k listed a→wpAnyIn (FR ro) 0 P md ops Q' (k+fuel) listed a w
 |0,listed,a,w,hw,hb,h=>by
  have:listed=target:=by simpa[phaseB]using hb
  subst this
  rw[Nat.zero_add]
  exact hQ _ _ h hw
 |k+1,listed,a,w,hw,hb,h=>by
  simp only[phaseB,Bool.and_eq_true,List.all_eq_true,Bool.not_eq_true',List.isEmpty_eq_false_iff]at hb
  rw[show k+1+fuel=(k+fuel)+1 by omega]
  refine⟨fun h0=>absurd h0 hb.1,fun i hi=>wpOpIn_of_opI (fun a' w' hk hi'=>?_) hw (h i hi)⟩
  exact wpAny_of_anyP hQ k _ a' w' hi' (hb.2 i hi) hk
theorem set_getD_self {listed:Array Bool} {j:Nat}:(listed.setIfInBounds j true).getD j true=true:=by
 rcases Nat.lt_or_ge j listed.size with h|h
 simp[h]
 simp
theorem anyP_first {target:Array Bool} {Q:Act→Prop} {i:Nat} {oi:Oper} {v:Value} (hi:ops[i]?=some oi) (hsel:∀(j:Nat) (o:Oper) cs b,ops[j]?=some o→o.op≠.select cs b) :
 ∀(k:Nat) (listed:Array Bool) (a:Act),
  (∀j oj,ops[j]?=some oj→j≠i→listed.getD j true=false→(∀e∈oj.after,Region.binds md e=true→e.on≠i)→oi.apart ops oj=true) →
  i∈Region.ready md ops listed→phaseB md ops target (k+1) listed=true→YI ro P ops Inv oi v a →
  anyP ro P md ops Inv Q k (listed.setIfInBounds i true) (a.put oi.dst v)→anyP ro P md ops Inv Q (k+1) listed a:=by
 intro k
 induction k with
 |zero=>
  intro listed a _ hr hb hy H j hj
  by_cases hji:j=i
  subst hji;exact hy.opI hi H
  simp only[phaseB,Bool.and_eq_true,List.all_eq_true,decide_eq_true_eq]at hb
  have e1:=hb.2 i hr
  have e2:=hb.2 j hj
  have h1:=(mem_ready.1 hj).1
  have h2:(listed.setIfInBounds i true).getD j true=false:=by rw[getD_set_ne true (Ne.symm hji)];exact h1
  rw[e1,←e2,set_getD_self]at h2
  cases h2
 |succ k ih=>
  intro listed a hfree hr hb hy H j hj
  by_cases hji:j=i
  subst hji;exact hy.opI hi H
  have h1:=H j (ready_mono hj hji)
  obtain⟨hjun,oj,hoj,hall⟩:=mem_ready.1 hj
  have hnot:∀e∈oj.after,Region.binds md e=true→e.on≠i:=fun e he hb heq=>by
   have h1:=hall e he hb
   have h0:=(mem_ready.1 hr).1
   rw[heq]at h1
   rcases Nat.lt_or_ge i listed.size with h'|h'
   simp[h']at h0 h1;rw[h0]at h1;cases h1
   simp[Array.getElem?_eq_none h']at h1
  have h2:=opI_put hoj (hfree j oj hoj hji hjun hnot) (fun cs b=>hsel i oi cs b hi) (fun cs b=>hsel j oj cs b hoj) hy h1
  have hfree':∀k ok,ops[k]?=some ok→k≠i→(listed.setIfInBounds j true).getD k true=false →
   (∀e∈ok.after,Region.binds md e=true→e.on≠i)→oi.apart ops ok=true:=fun k ok hk hki hun hno=>by
   refine hfree k ok hk hki ?_ hno
   by_cases hjk:j=k
   subst hjk;exact hjun
   rw[getD_set_ne true hjk]at hun;exact hun
  have hb':phaseB md ops target (k+1) (listed.setIfInBounds j true)=true:=by
   rw[phaseB,Bool.and_eq_true,List.all_eq_true]at hb
   exact hb.2 j hj
  refine opI_mono (fun a' h3=>ih (listed.setIfInBounds j true) a' hfree' (ready_mono hr (Ne.symm hji)) hb' h3.1 ?_) h2
  rw[Array.setIfInBounds_comm _ _ hji]
  exact h3.2
end phase
section ahead
variable {ro:Option Nat} {P:Program} {ops:Array Oper} {md:Region.Mode} {Q:Exit→Act→World→Prop}
def YW (P:Program) (ops:Array Oper) (o:Oper) (v:Value) (a:Act):Prop:=
 (Region.wanted o (yielded ops a.tmps)=true∧(∀c,o.op≠.defer c)∧∀w,(execOp a.eval o).run P w=.ok (.value v) w) ∨
 (Region.wanted o (yielded ops a.tmps)=false∧v=undef)
theorem YW.of_same {o:Oper} {v:Value} {a a':Act} (hy:YW P ops o v a) (he:execOp a'.eval o=execOp a.eval o)
 (hw:Region.wanted o (yielded ops a'.tmps)=Region.wanted o (yielded ops a.tmps)):YW P ops o v a':=by
 unfold YW at *
 rw[he,hw]
 exact hy
theorem YW.op {i:Nat} {o:Oper} {v:Value} {a:Act} (hi:ops[i]?=some o) (hy:YW P ops o v a) {K:Act→World→Prop} {w:World} (h:K (a.put o.dst v) w):wpOpIn (FR ro) 0 P ops Q i K a w:=by
 unfold wpOpIn
 simp only[hi]
 rcases hy with⟨hw,hd,hv⟩|⟨hw,rfl⟩
 rw[if_pos hw]
 refine⟨fun _ _=>trivial,?_⟩
 rw[semAt_eq _ _ _ hd,hv w,Oper.uponIn_value];exact h
 rw[if_neg (by rw[hw];simp)]
 exact⟨fun _ _=>trivial,h⟩
end ahead
attribute [irreducible] Ways X XL XD Done Again Meet
end Go.GV
