/- Part 1 of the lemmas behind the claim. -/
import Derived.RangeFuncNested
import Derived.RangeFuncLeaves
import Derived.WalkKit
import Derived.WalkSpells
import Derived.WalkLawsBesides
import Derived.OwnWalkIn
import Derived.Maps.AppendAt
import Derived.Still
import Derived.OrdersIn
import Derived.Deep.Slices
import Derived.Great.BuildSlice
import Derived.Deep.Fields
set_option linter.unusedSimpArgs false
set_option linter.unusedVariables false
set_option linter.constructorNameAsVariable false
set_option linter.unusedSectionVars false
set_option linter.defProp false
set_option maxRecDepth 100000
set_option maxHeartbeats 40000000
namespace Go
theorem Aa {a b:Nat} (h:Nat.ble a b=true):a≤b:=Nat.le_of_ble_eq_true h
theorem Aj (n:Nat):Int.ofNat n=(n:Int):=rfl
theorem F8:(!true)=false:=rfl
theorem F4:(!false)=true:=rfl
def Al:=@List.sublist_append_left
def Am:=@List.mem_cons_of_mem
def A0:=@List.getD_eq_getElem?_getD
def Ag:=@Nat.le_refl
def Ax:=@List.length_drop
def Aw:=@List.mem_cons_self
def A4:=@List.append_assoc
def Bb:=@List.length_append
def A3:=@List.mem_append_right
def Bn:=@Result.andThen_ok
def B8:=@List.getElem?_eq_getElem
def Ck:=@Nat.eq_of_beq_eq_true
def Bp:=@List.append_nil
def B7:=@List.mem_append_left
def Bx:=@Bool.false_and
def Bw:=@Bool.and_false
def Ci:=@List.length_take
def B0:=@Bool.and_true
def Bz:=@Bool.true_and
def Bf:=@Nat.zero_add
def Bo:=@List.mem_cons
def Cq:=@List.length_cons
def Ce:=@Option.some.inj
def Fy:=@List.getElem?_append_right
def Ct:=@List.length_map
def Co:=@List.mem_singleton
def Dv:=@List.length_nil
def B9:=@Nat.zero_le
def Et:=@List.take_of_length_le
def Cr:=@Nat.le_trans
def Gn:=@List.getElem?_eq_some_iff
def D5:=@List.map_cons
def Fj:=@List.length_replicate
def Gf:=@List.sublist_append_right
def Ii:=@List.getElem?_append_left
def D9:=@List.mem_append
def Eo:=@List.map_append
def Fx:=@List.flatMap_append
def Fi:=@List.flatMap_cons
def Ih:=@List.mem_iff_getElem?
def Gm:=@List.mem_of_getElem?
def Fw:=@Int.natCast_nonneg
def Kf:=@Array.getD_eq_getD_getElem?
def Lz:=@List.take_succ_eq_append_getElem
def Fh:=@List.perm_middle
def G5:=@List.getElem?_map
def Er:=@Nat.add_assoc
def E8:=@List.length_set
def E7:=@List.Sublist.refl
def D8:=@List.getElem_mem
def O5:=@Array.getElem?_eq_some_iff
def Ke:=@List.getElem?_cons_succ
def Jm:=@List.perm_append_comm
def Jl:=@List.getElem?_eq_none
def Na:=@Nat.lt_of_lt_of_le
def Dz:=@List.mem_map
def Hj:=@List.cons_append
def Hi:=@Int.natCast_zero
def Kc:=@Nat.ble_eq_true_of_le
def M9:=@Array.getElem?_setIfInBounds
def Ly:=@List.drop_eq_getElem_cons
def Kb:=@Nat.mul_le_mul_right
def I2:=@Bool.and_eq_true
def Ge:=@List.not_mem_nil
def Ig:=@Option.map_some
def Jk:=@List.getElem?_take
def Ie:=@List.perm_iff_count
def O4:=@List.eq_nil_of_length_eq_zero
end Go
namespace Go.GV
open Go.RowKit
abbrev FR (ro:Option Nat):Fence:={fn:=fun _=>True,depth:=none,alive:=false,round:=ro}
inductive Shp where
 |int (k:IntKind)
 |bool
 |str
 |strct (fs:List (Nat×Nat))
 |slice (e:Nat)
 |arr (n e:Nat)
 |other
def shpIs:TypeDesc→Shp→Prop
 |d,.int k=>d=.int k
 |d,.bool=>d=.bool
 |d,.str=>d=.string
 |d,.strct l=>∃fs,d=.struct fs∧fs.toList.map (fun f=>(f.offset,f.type))=l
 |d,.slice e=>d=.slice e
 |d,.arr n e=>d=.array n e
 |d,.other=>(∀fs,d≠.struct fs)∧∀n e,d≠.array n e
structure TI where
 sz:Nat
 zero:List Value
 shp:Shp
 cmp:Bool
def TI.agg (t:TI):Bool:=match t.shp with
 |.strct _=>true
 |.arr _ _=>true
 |_=>false
def TI.zv (t:TI):Value:=match t.agg with
 |true=>.agg t.zero.toArray
 |false=>t.zero.headD undef
structure TIok (P:Program) (t:Nat) (ti:TI):Prop where
 und:∃d,P.underlying t=some d∧shpIs d ti.shp
 info:(P.info? t).map (fun i=>(i.size,i.zero))=some (ti.sz,some ti.zv)
 len:ti.zero.length=ti.sz
 one:ti.agg=false→ti.sz=1∧ti.zv.cells=ti.zero.toArray
 cmp:ti.cmp=true→P.stoodInHeld t=false∧P.eqGuardType P.depth t=false∧(P.fieldsOf t).toList.all (fun f=>f.name != "_") = true
theorem TIok.isInt {P:Program} {t:Nat} {ti:TI} {k:IntKind} (h:TIok P t ti) (hs:ti.shp=.int k):P.underlying t=some (.int k):=by
 obtain⟨d,h1,h2⟩:=h.und;rw[hs]at h2;rw[h1,show d=_ from h2]
theorem TIok.isBool {P:Program} {t:Nat} {ti:TI} (h:TIok P t ti) (hs:ti.shp=.bool):P.underlying t=some .bool:=by
 obtain⟨d,h1,h2⟩:=h.und;rw[hs]at h2;rw[h1,show d=_ from h2]
theorem TIok.isStr {P:Program} {t:Nat} {ti:TI} (h:TIok P t ti) (hs:ti.shp=.str):P.underlying t=some .string:=by
 obtain⟨d,h1,h2⟩:=h.und;rw[hs]at h2;rw[h1,show d=_ from h2]
theorem TIok.isSlice {P:Program} {t:Nat} {ti:TI} {e:Nat} (h:TIok P t ti) (hs:ti.shp=.slice e):P.underlying t=some (.slice e):=by
 obtain⟨d,h1,h2⟩:=h.und;rw[hs]at h2;rw[h1,show d=_ from h2]
theorem TIok.isStrct {P:Program} {t:Nat} {ti:TI} {l:List (Nat×Nat)} (h:TIok P t ti) (hs:ti.shp=.strct l) :
 ∃fs,P.underlying t=some (.struct fs)∧fs.toList.map (fun f=>(f.offset,f.type))=l:=by
 obtain⟨d,h1,h2⟩:=h.und;rw[hs]at h2
 obtain⟨fs,h3,h4⟩:=h2
 exact⟨fs,by rw[h1,h3],h4⟩
theorem TI.zv_cells {P:Program} {t:Nat} {ti:TI} (h:TIok P t ti):ti.zv.cells=ti.zero.toArray:=by
 cases ha:ti.agg with
 |true=>simp[TI.zv,ha,Value.cells]
 |false=>exact(h.one ha).2
theorem TIok.get {P:Program} {t:Nat} {ti:TI} (h:TIok P t ti):∃i,P.info? t=some i∧i.size=ti.sz∧i.zero=some ti.zv:=by
 have:=h.info
 cases hi:P.info? t with
 |none=>rw[hi]at this;cases this
 |some i=>
  rw[hi]at this
  simp only[Ig,Option.some.injEq,Prod.mk.injEq]at this
  exact⟨i,rfl,this.1,this.2⟩
variable {P : Program} {t : Nat} {ti : TI} (w : World)
theorem run_sizeOf (h:TIok P t ti):(sizeOf t).run P w=.ok ti.sz w:=by
 obtain⟨i,h1,h2,h3⟩:=h.get
 simp[sizeOf,typeInfo,h1,h2]
theorem run_zeroValue (h:TIok P t ti):(zeroValue t).run P w=.ok ti.zv w:=by
 obtain⟨i,h1,h2,h3⟩:=h.get
 simp[zeroValue,typeInfo,h1,h3]
theorem Xj (h:TIok P t ti):(isAgg t).run P w=.ok ti.agg w:=by
 obtain⟨d,h1,h2⟩:=h.und
 simp only[isAgg,Sem.run_bind,run_underlying h1,Bn,TI.agg]
 cases hs:ti.shp<;>rw[hs]at h2<;>simp only[shpIs]at h2
 case strct l=>obtain⟨fs,rfl,_⟩:=h2;rfl
 case other=>
  cases d<;>first|rfl|exact absurd rfl (h2.1 _)|exact absurd rfl (h2.2 _ _)
 all_goals (subst h2;rfl)
end Go.GV
namespace Go.GV
open Go.RowKit
structure Cx where
 P:Program
 ro:Option Nat
 N:Nat
def oneB:Value→Bool
 |.agg _=>false
 |.tuple _=>false
 |_=>true
variable {C : Cx} {a : Act} {w : World}
theorem und_fieldsOf {P:Program} {t:Nat} {fs:Array Field} (h:P.underlying t=some (.struct fs)):P.underlying t=some (.struct (P.fieldsOf t))∧P.fieldsOf t=fs:=by
 have:P.fieldsOf t=fs:=by simp[Program.fieldsOf,h]
 exact⟨by rw[this];exact h,this⟩
theorem beqS (a b:ByteArray):(a.toList==b.toList)=decide (a=b):=by
 by_cases h:a=b
 · subst h;simp
 · have:a.toList≠b.toList:=fun e=>h (by
    have h1:a.data=b.data:=by simpa[ByteArray.toList_eq]using e
    exact ByteArray.ext h1)
   simp[h,this]
theorem run_part {t off:Nat} {ti:TI} (h:TIok C.P t ti) (cs:Array Value):(part t cs off).run C.P w =
 if ti.agg then .ok (.agg (cs.extract off (off+ti.sz))) w else match cs[off]? with
  |some v=>.ok v w
  | none=>.halt (.stuck "part: no such cell") w := by
 unfold part
 simp only[Sem.run_bind,Xj w h,Bn]
 cases ti.agg
 · simp only[Bool.false_eq_true,if_false]
   cases cs[off]?<;>simp[stuck]
 · simp only[if_true,Sem.run_bind,run_sizeOf w h,Bn]
   rfl
theorem Xh (P:Program) {ad:Addr} {x:Value} (h:w.cell? ad=some x):(load ad).run P w=.ok x w:=by
 simp[load,Sem.run,h]
theorem run_loadCellsFrom (P:Program) (ad:Addr):∀(l:List Value) (i:Nat) (acc:Array Value),(∀j x,l[j]?=some x→w.cell? (ad.add (i+j))=some x) →
 (loadCellsFrom ad i l.length acc).run P w=.ok (acc++l.toArray) w:=by
 intro l
 induction l with
 |nil=>intro i acc _;simp[loadCellsFrom]
 |cons x r ih=>
  intro i acc h
  have h0:w.cell? (ad.add i)=some x:=by simpa using h 0 x rfl
  simp only[Cq,loadCellsFrom,Sem.run_bind,Xh P h0,Bn]
  rw[ih (i+1) (acc.push x) (fun j y hj=>by have:=h (j+1) y (by simpa using hj);rwa [show i+(j+1)=i+1+j by omega]at this)]
  congr 1
  apply Array.ext'
  simp
theorem run_loadVar {t:Nat} {ti:TI} (hti:TIok C.P t ti) {ad:Addr} {l:List Value} (hl:l.length=ti.sz) (h:∀j x,l[j]?=some x→w.cell? (ad.add j)=some x) :
 (loadVar t ad).run C.P w=if ti.agg then .ok (.agg l.toArray) w else .ok (l.headD undef) w:=by
 unfold loadVar
 simp only[Sem.run_bind,Xj w hti,Bn]
 cases ha:ti.agg
 · have h1:=(hti.one ha).1
   match l,hl.trans h1 with
   |[x],_=>
    have h0:w.cell? ad=some x:=by simpa[Addr.add]using h 0 x rfl
    simp only[Bool.false_eq_true,if_false,Xh C.P h0]
    rfl
 · simp only[if_true,Sem.run_bind,run_sizeOf w hti,Bn,loadCells,←hl]
   rw[run_loadCellsFrom C.P ad l 0 #[] (by simpa using h)]
   simp
theorem run_newVar (P:Program) (t:Nat) (x:Value):(newVar t x).run P w=.ok ⟨w.heap.size,0,none⟩ (w.alloc (.cells x.cells t)):=by
 rfl
end Go.GV
namespace Go.GV
open Go.RowKit
theorem Hn {P:Program} {b:Frame} {a:Act} {k:List Item} {cs:List Frame} {w:World} {c:Code} :
 step P (lone (b.atR a (.code (.scope c)::k)) cs w)=.next (lone (b.atR a (.code c::.inScope c::k)) cs w):=
 step_lone_go (by simp[stepG,stepG.exec,Frame.atR])
theorem Vs {P:Program} {b:Frame} {a:Act} {k:List Item} {cs:List Frame} {w:World} {c:Code} :
 step P (lone (b.atR a (.inScope c::k)) cs w)=.next (lone (b.atR a k) cs w):=
 step_lone_go (by simp[stepG,stepG.exec,Frame.atR])
def noGo (Q:Exit→Act→World→Prop):Exit→Act→World→Prop
 |.goto _,_,_=>False
 |e,a,w=>Q e a w
theorem wpIn_scope {F:Fence} {n:Nat} {P:Program} {Q:Exit→Act→World→Prop} {a:Act} {w:World} {c:Code} (h:c.wpIn F n P (noGo Q) a w):(Code.scope c).wpIn F n P Q a w:=by
 intro b k cs hro hb hr
 have h0:(lone (b.atR a (.code (.scope c)::k)) cs w).fenced P F:=fenced_calm hb hr rfl
 obtain⟨e,a₁,w₁,hq,harr⟩:=h b (.inScope c::k) cs hro hb hr
 cases e with
 |normal=>exact⟨.normal,a₁,w₁,hq,.head h0 Hn (StepsIn.trans harr (.one (fenced_calm hb hr rfl) Vs))⟩
 |exit id=>
  have hx:exitTo id (.inScope c::k)=exitTo id k:=by simp[exitTo]
  exact⟨.exit id,a₁,w₁,hq,fun k' hk=>.head h0 Hn (harr.1 k' (by rw[hx];exact hk)),
   fun hr' hk=>let⟨k₁,h1,h2⟩:=harr.2 hr' (by rw[hx];exact hk);⟨k₁,h1,.head h0 Hn h2⟩⟩
 |goto l=>exact hq.elim
 |ret=>exact⟨_,a₁,w₁,hq,.of_steps (.one h0 Hn) harr⟩
 |panic ch=>exact⟨_,a₁,w₁,hq,.of_steps (.one h0 Hn) harr⟩
 |outgrown=>exact⟨_,a₁,w₁,hq,.of_steps (.one h0 Hn) harr⟩
def tupV:List Value→Value
 |[x]=>x
 |l=>.tuple l.toArray
def rdVar (tmps:Array Value):ResultVar→Sem Value
 |.tmp t=>pure (tmps.getD t undef)
 |.cell ad t=>do loadVar t (←asAddr (tmps.getD ad undef))
theorem results_eq (fn:Func) (tmps:Array Value):results fn tmps=(do
 let vs ←fn.results.mapM (rdVar tmps)
 pure (if h:vs.size=1 then vs[0]else .tuple vs)):=by
 unfold results
 congr 2
theorem Gi (p:Nat→Prop) (h:∃n,p n):∃n,p n∧∀m,p m→n≤m:=by
 obtain⟨n,hn⟩:=h
 induction n using Nat.strongRecOn with
 |_ n ih=>
  by_cases hh:∃m,m<n∧p m
  · obtain⟨m,h1,h2⟩:=hh
    exact ih m h1 h2
  · exact⟨n,hn,fun m hm=>Nat.le_of_not_lt fun hlt=>hh ⟨m,hlt,hm⟩⟩
theorem wpIn_loop_ghost {ro:Option Nat} {P:Program} {c:Code} {Q:Exit→Act→World→Prop} {a:Act} {w:World} {σ:Type} (I:σ→Act→World→Prop) (μ:σ→Nat) (s0:σ) (h0:I s0 a w)
 (round:∀s a w,I s a w→c.wpIn (FR ro) 0 P (Exit.then (fun a' w'=>∃s',I s' a' w'∧μ s'<μ s) Q) a w):(Code.loop c).wpIn (FR ro) 0 P Q a w:=by
 classical
 let m:Act→World→Nat:=fun a w=>if h:∃n,∃s,I s a w∧μ s=n then Classical.choose (Gi _ h)else 0
 have hm:∀a w s,I s a w→∃s',I s' a w∧μ s'=m a w∧m a w≤μ s:=by
  intro a w s hs
  have h:∃n,∃s,I s a w∧μ s=n:=⟨_,s,hs,rfl⟩
  have hc:=Classical.choose_spec (Gi _ h)
  have:m a w=Classical.choose (Gi _ h):=dif_pos h
  obtain⟨⟨s',h1,h2⟩,h3⟩:=hc
  exact⟨s',h1,by rw[this];exact h2,by rw[this];exact h3 _ ⟨s,hs,rfl⟩⟩
 refine wpIn_loop (fun a w=>∃s,I s a w) m ⟨s0,h0⟩ ?_
 rintro a w ⟨s,hs⟩
 obtain⟨s',h1,h2,_⟩:=hm a w s hs
 refine Go.wpIn_mono (round s' a w h1) fun e a' w' hh=>?_
 cases e with
 |normal=>
  obtain⟨s2,h3,h4⟩:=hh
  obtain⟨_,_,_,h5⟩:=hm a' w' s2 h3
  exact⟨⟨s2,h3⟩,by omega⟩
 |_=>exact hh
variable {H : Type} {enc : TypeId × Value → H} {P : Program} {w : World}
def Tr (enc:TypeId×Value→H) (P:Program) (w:World) (t:TypeId) (cs:List Value):Prop:=
 ∃fuel x,DataW.trod enc P w 0 (fun _=>true) true fuel t cs=some x
theorem Tr.int {t:TypeId} {cs:List Value} {k:IntKind} (ht:P.underlying t=some (.int k)) (h:Tr enc P w t cs):∃n,cs=[.int k n]∧(Lit.int k n).wf=true:=by
 obtain⟨f,x,h⟩:=h
 obtain⟨n,h1,_,h2⟩:=DataW.trod_int ht h
 exact⟨n,h1,h2⟩
theorem Tr.bool {t:TypeId} {cs:List Value} (ht:P.underlying t=some .bool) (h:Tr enc P w t cs):∃b,cs=[.bool b]:=by
 obtain⟨f,x,h⟩:=h
 obtain⟨b,h1,_⟩:=DataW.trod_bool ht h
 exact⟨b,h1⟩
end Go.GV
