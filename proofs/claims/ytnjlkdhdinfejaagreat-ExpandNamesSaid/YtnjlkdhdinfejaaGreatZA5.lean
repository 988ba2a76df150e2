/- Part 5 of the lemmas behind the claim: XV, XQ, XR, XT, XW, XX, GA, XY, XP, XU, XZ, YA, YG, YB, YC. -/
import Derived.Test.YtnjlkdhdinfejaaGreatZA4
set_option linter.unusedSimpArgs false
set_option linter.unusedVariables false
set_option maxHeartbeats 4000000
set_option maxRecDepth 100000
namespace Go.Proofs.YtnjlkdhdinfejaaGreat
open Go.GV Go.RowKit
def pvV (t:PV):Value:=.agg #[.int .i64 t.kind,.string t.text,.bool t.space,.slice t.pa t.pn t.pc]
def spltB (t:PV) (a b:ByteArray):Bool:=decide (t.kind=5)&&(decide (t.text=a)||decide (t.text=b))
def hhB:ByteArray:=⟨#[35,35]⟩
def dhB:ByteArray:=⟨#[37,58,37,58]⟩
def h1B:ByteArray:=⟨#[35]⟩
def d1B:ByteArray:=⟨#[37,58]⟩
def isHH (t:PV):Bool:=spltB t hhB dhB
def isH (t:PV):Bool:=spltB t h1B d1B
theorem spelt_any (t:PV) (a b:ByteArray) (w:World):Calls Tryz.prog 156 #[pvV t,.string a,.string b] w (Bc w fun v _=>v=.bool (spltB t a b)):=by
 refine Bq Aa Tryz.func156 O O [] 0 [.v (pvV t),.v (.string a),.v (.string b)] O O O O (fun b hb=>by cases hb) ?_
 refine Ao Aa ?_
 exact Ay (fun _ _=>rfl)
def layB (k:Int):Bool:=decide (k=10)||decide (k=11)
theorem layout_any (k:Int) (w:World):Calls Tryz.prog 136 #[.int .i64 k] w (Bc w fun v _=>v=.bool (layB k)):=by
 refine Bq Aa Tryz.func136 O O [] 0 [.v (.int .i64 k)] O O O O (fun b hb=>by cases hb) ?_
 refine Ao Aa ?_
 exact Ay (fun _ _=>rfl)
structure IV where
 pv:PV
 param:Int
 made:Bool
 pasted:Bool
 raw:Bool
def iv0:IV:=⟨pv0,0,false,false,false⟩
def itmY:Lay IV:=⟨[fun t=>.int .i64 t.pv.kind,fun t=>.string t.pv.text,fun t=>.bool t.pv.space,fun t=>.slice t.pv.pa t.pv.pn t.pv.pc,fun t=>.int .i64 t.param,fun t=>.bool t.made,fun t=>.bool t.pasted,fun t=>.bool t.raw],iv0⟩
def itC (t:IV):List Value:=[.int .i64 t.pv.kind,.string t.pv.text,.bool t.pv.space,.slice t.pv.pa t.pv.pn t.pv.pc,.int .i64 t.param,.bool t.made,.bool t.pasted,.bool t.raw]
def ivV (t:IV):Value:=.agg (itC t).toArray
def mkIt (num:ByteArray→Option Int) (B:List PV) (t t':PV) (made pasted:Bool) (i:Nat):IV:=
 ⟨t,if t'.kind=1 then(num t'.text).getD (-1)else -1,made,pasted,pasted||(decide (i+1<B.length)&&isHH (B.getD (i+1) pv0))⟩
def itF (fn:Bool) (num:ByteArray→Option Int) (B:List PV):Nat→Nat→Bool→List IV
 |0,_,_=>[]
 |n+1,i,pasted=>if i<B.length then
  (if isHH (B.getD i pv0)then itF fn num B n (i+1) true
   else if fn&&isH (B.getD i pv0)then mkIt num B (B.getD i pv0) (B.getD (i+1) pv0) true pasted (i+1)::itF fn num B n (i+2) false
   else mkIt num B (B.getD i pv0) (B.getD i pv0) false pasted i::itF fn num B n (i+1) false)
  else[]
def itemsL (fn:Bool) (num:ByteArray→Option Int) (B:List PV):List IV:=itF fn num B B.length 0 false
def bodyOk (fn:Bool) (B:List PV):Prop:=∀i,i<B.length→(fn&&isH (B.getD i pv0))=true→i+1<B.length
theorem xl_lookMv {C:Cx} {all:List Oper} {o:Oper} {r:List Oper} {Q:Bb} {st:St} {u:Im} {t d kt et b n:Nat} {g:Gd} {f:ByteArray→Option Value} {m x:Operand} {s:ByteArray} {ok:Bool} (ho:o.op=.lookup t m x ok) (hg:Bp all st o=some g) (hd:o.dst=some d)
 (ht:C.P.underlying t=some (.map kt et)) (hkt:C.P.underlying kt=some .string) (hfr:Bg C.N st d g=true)
 (hm:opd st g m=some (.v (.map (some b)))) (hx:opd st g x=some (.v (.string s))) (hk:MapAt u b n f)
 (z:Value) (hz:∀w,(zeroValue et).run C.P w=.ok z w) (v:Value) (hv:lookV ok (f s) z=v)
 (K:XL C all r Q (st.put d g (.v v)) u):XL C all (o::r) Q st u:=by
 subst hv
 exact xl_lookM ho hg hd ht hkt hfr hm hx hk z hz K
theorem drop_isX {α:Type} {L r:List α} {k:Nat} {x:α} (h:x::r=L.drop k):L[k]?=some x∧r=L.drop (k+1):=by
 refine⟨?_,?_⟩
 have:=congrArg (fun l=>l[0]?) h
 simp only[List.getElem?_cons_zero,List.getElem?_drop,Nat.add_zero]at this
 exact this.symm
 have:=congrArg List.tail h
 simp only[List.tail_cons,List.tail_drop]at this
 exact this
def env2 (b c:Nat):Env:=fun k=>if k=1 then .slice (some ⟨b,0,none⟩) 1 1 else if k=2 then .slice (some ⟨c,0,none⟩) 1 1 else undef
def mCells (m:MT) (s:MA):List Value:=[.string m.name,.bool m.fn,.slice s.1 m.ps.length s.2.1,.bool m.va,.slice s.2.2.1 m.body.length s.2.2.2]
theorem mitems_iter (m:MT) (s:MA) (num:ByteArray→Option Int) (b c bm n:Nat) (u0:Im) (hb:u0.h b=some (.cells (mCells m s).toArray 27 (0,0))) (hc:u0.h c=some (.cells #[.map (some bm)] 189 (0,0)))
 (hm:MapAt u0 bm n (fun x=>(num x).map (Value.int .i64))) (hB:Aw u0 (.slice s.2.2.1 m.body.length s.2.2.2) (pvY.d m.body)) (hok:bodyOk m.fn m.body) (hz:m.body.length≤1000000000) :
 Iter Tryz.prog 155 #[.pointer (some ⟨b,0,none⟩),.pointer (some ⟨c,0,none⟩)] ((itemsL m.fn num m.body).map ivV) u0:=by
 refine x_iter Aa Tryz.func155 O O [(.slice (some ⟨b,0,none⟩) 1 1,oneD (mCells m s)),(.slice (some ⟨c,0,none⟩) 1 1,oneD [.map (some bm)])] [.e 1 5 0 0,.e 2 1 0 0] (env2 b c) (fun j x hj=>?_) O O (fun x hx=>?_) (fun x hx=>?_) (fun l Y Z u hu hR=>?_)
 match j,hj with
 |0,hj=>cases hj;rfl
 |1,hj=>cases hj;rfl
 |j+2,hj=>simp at hj
 simp only[List.mem_cons,List.not_mem_nil,or_false]at hx
 rcases hx with rfl|rfl
 exact⟨by simp,_,1,1,rfl,Int.le_refl _,by omega⟩
 exact⟨by simp,_,1,1,rfl,Int.le_refl _,by omega⟩
 simp only[List.mem_cons,List.not_mem_nil,or_false]at hx
 rcases hx with rfl|rfl
 exact(ptAt_box hb).slAt
 exact(ptAt_box hc).slAt
 have hmu:MapAt u bm n (fun x=>(num x).map (Value.int .i64)):=hm.sub hu.sub
 have hBu:Aw u (.slice s.2.2.1 m.body.length s.2.2.2) (pvY.d m.body):=hB.sub hu.sub
 refine Ao Aa ?_
 refine Br (σ:=Nat×Bool×Nat×Nat) (fun⟨i,pst,k,_⟩=>⟨[(5,.v (.int .i64 (i:Int))),(4,.v (.bool pst)),(2,.e 2 1 0 0),(1,.e 1 5 0 0),(0,.v (.func (.yield l) #[] #[]))],[],[(0,.gen (Y k).hp),(1,.sl (oneD (mCells m s))),(2,.sl (oneD [.map (some bm)]))],3⟩)
  (fun⟨i,pst,k,q⟩ _=>i≤m.body.length∧m.body.length-i≤q∧itF m.fn num m.body q i pst=(itemsL m.fn num m.body).drop k∧k≤(itemsL m.fn num m.body).length) (fun⟨i,_,_,_⟩=>m.body.length-i) (fun _=>Nat.le_refl _) (0,false,0,m.body.length) [] .z ⟨Nat.zero_le _,Nat.le_refl _,rfl,Nat.zero_le _⟩ ?_
 rintro⟨i,pst,k,q⟩ u2 hu2 ⟨g1,g2,g3,g4⟩
 refine Ao Aa ?_
 refine Ap (fun h1=>?_) (fun h1=>?_)
 have h1:(i:Int)<((m.body.length:Nat):Int):=of_decide_eq_true h1
 obtain⟨q',rfl⟩:∃q',q=q'+1:=⟨q-1,by omega⟩
 have gF:itF m.fn num m.body (q'+1) i pst=if isHH (m.body.getD i pv0)then itF m.fn num m.body q' (i+1) true
  else if m.fn&&isH (m.body.getD i pv0)then mkIt num m.body (m.body.getD i pv0) (m.body.getD (i+1) pv0) true pst (i+1)::itF m.fn num m.body q' (i+2) false
  else mkIt num m.body (m.body.getD i pv0) (m.body.getD i pv0) false pst i::itF m.fn num m.body q' (i+1) false:=by
  rw[itF,if_pos (by omega)]
 rw[gF]at g3
 repeat refine sdI ?_
 refine xl_sl 18 rfl (hBu.mono hu2) ?_
 refine Ab Aa ?_
 repeat refine sdI ?_
 refine Am (.bool (isHH (m.body.getD ((i:Nat):Int).toNat pvY.dft))) O O O O fn156 O O (fun E w F _=>spelt_any (m.body.getD ((i:Nat):Int).toNat pvY.dft) hhB dhB w) ?_
 refine Ab Aa ?_
 refine Ap (fun h2=>?_) (fun h2=>?_)
 have h2:isHH (m.body.getD i pv0)=true:=h2
 rw[if_pos h2]at g3
 repeat refine sdI ?_
 exact Bj (i+1,true,k,q') [] .z ⟨by omega,by omega,g3,g4⟩ (by show m.body.length-(i+1)<m.body.length-i;omega)
 have h2:isHH (m.body.getD i pv0)=false:=h2
 rw[if_neg (by rw[h2];decide)]at g3
 refine Bt (.bool (isH (m.body.getD ((i:Nat):Int).toNat pvY.dft))) O O O O fn156 O O (fun _ E w F _=>spelt_any (m.body.getD ((i:Nat):Int).toNat pvY.dft) h1B d1B w) ?_
 refine Ab Aa ?_
 refine Ap (fun h3=>?_) (fun h3=>?_)
 have h3:(m.fn&&isH (m.body.getD i pv0))=true:=h3
 have hi1:=hok i (by omega) h3
 rw[if_pos h3]at g3
 repeat refine sdI ?_
 refine xl_sl 39 rfl (hBu.mono hu2) ?_
 refine Ab Aa ?_
 repeat refine sdI ?_
 cases hn:num (m.body.getD (((i:Nat):Int)+1).toNat pvY.dft).text with
 |none=>
  refine xl_lookMv O O O Tryz.underlying189 Tryz.underlying9 O O O (hmu.sub hu2.sub) (.int .i64 0) (fun w=>rfl) (.tuple #[.int .i64 0,.bool false]) (by rw[hn];rfl) ?_
  refine Ab Aa ?_
  refine x_iff rfl ?_
  repeat refine sdI ?_
  refine xl_slG 68 rfl (hBu.mono hu2) ?_
  refine Ab Aa ?_
  repeat refine sdI ?_
  refine Bt (.bool (isHH (m.body.getD ((((i:Nat):Int)+1)+1).toNat pvY.dft))) O O O O fn156 O O (fun _ E w F _=>spelt_any (m.body.getD ((((i:Nat):Int)+1)+1).toNat pvY.dft) hhB dhB w) ?_
  refine Ab Aa ?_
  have hIV:mkIt num m.body (m.body.getD i pv0) (m.body.getD (i+1) pv0) true pst (i+1)=⟨m.body.getD i pv0,(-1),(m.fn&&isH (m.body.getD ((i:Nat):Int).toNat pvY.dft)),pst,(pst||(decide ((((i:Nat):Int)+1)+1<((m.body.length:Nat):Int))&&isHH (m.body.getD ((((i:Nat):Int)+1)+1).toNat pvY.dft)))⟩:=by
   have e1:((((i:Nat):Int)+1)+1).toNat=i+1+1:=by omega
   have e2:decide ((((i:Nat):Int)+1)+1<((m.body.length:Nat):Int))=decide (i+1+1<m.body.length):=by rw[decide_eq_decide];omega
   have e3:(m.fn&&isH (m.body.getD ((i:Nat):Int).toNat pvY.dft))=true:=h3
   rw[e1,e2,e3]
   unfold mkIt
   rw[show num (m.body.getD (i+1) pv0).text=none from hn,Option.getD_none,ite_self];try rfl
  obtain⟨i1,i2⟩:=drop_isX g3
  have hx:((itemsL m.fn num m.body).map ivV)[k]?=some (ivV ⟨m.body.getD i pv0,(-1),(m.fn&&isH (m.body.getD ((i:Nat):Int).toNat pvY.dft)),pst,(pst||(decide ((((i:Nat):Int)+1)+1<((m.body.length:Nat):Int))&&isHH (m.body.getD ((((i:Nat):Int)+1)+1).toNat pvY.dft)))⟩):=by rw[List.getElem?_map,i1,hIV];rfl
  refine xl_yield (kY:=0) rfl hR O O O O O O O O hx ?_ ?_
  refine Ab Aa ?_
  refine x_iff rfl ?_
  repeat refine sdI ?_
  exact Bj (i+1+1,false,k+1,q') [] .z ⟨by omega,by omega,i2,(List.getElem?_eq_some_iff.1 i1).1⟩ (by show m.body.length-(i+1+1)<m.body.length-i;omega)
  refine Ab Aa ?_
  refine Be rfl ?_
  exact .inr rfl
 |some nv=>
  refine xl_lookMv O O O Tryz.underlying189 Tryz.underlying9 O O O (hmu.sub hu2.sub) (.int .i64 0) (fun w=>rfl) (.tuple #[.int .i64 nv,.bool true]) (by rw[hn];rfl) ?_
  refine Ab Aa ?_
  refine Ap (fun h5=>?_) (fun h5=>?_)
  have hk:(m.body.getD (i+1) pv0).kind=1:=of_decide_eq_true (by simpa using h5:decide ((m.body.getD (((i:Nat):Int)+1).toNat pvY.dft).kind=1)=true)
  repeat refine sdI ?_
  refine xl_slG 68 rfl (hBu.mono hu2) ?_
  refine Ab Aa ?_
  repeat refine sdI ?_
  refine Bt (.bool (isHH (m.body.getD ((((i:Nat):Int)+1)+1).toNat pvY.dft))) O O O O fn156 O O (fun _ E w F _=>spelt_any (m.body.getD ((((i:Nat):Int)+1)+1).toNat pvY.dft) hhB dhB w) ?_
  refine Ab Aa ?_
  have hIV:mkIt num m.body (m.body.getD i pv0) (m.body.getD (i+1) pv0) true pst (i+1)=⟨m.body.getD i pv0,nv,(m.fn&&isH (m.body.getD ((i:Nat):Int).toNat pvY.dft)),pst,(pst||(decide ((((i:Nat):Int)+1)+1<((m.body.length:Nat):Int))&&isHH (m.body.getD ((((i:Nat):Int)+1)+1).toNat pvY.dft)))⟩:=by
   have e1:((((i:Nat):Int)+1)+1).toNat=i+1+1:=by omega
   have e2:decide ((((i:Nat):Int)+1)+1<((m.body.length:Nat):Int))=decide (i+1+1<m.body.length):=by rw[decide_eq_decide];omega
   have e3:(m.fn&&isH (m.body.getD ((i:Nat):Int).toNat pvY.dft))=true:=h3
   rw[e1,e2,e3]
   unfold mkIt
   rw[show num (m.body.getD (i+1) pv0).text=some nv from hn,if_pos hk];try rfl
  obtain⟨i1,i2⟩:=drop_isX g3
  have hx:((itemsL m.fn num m.body).map ivV)[k]?=some (ivV ⟨m.body.getD i pv0,nv,(m.fn&&isH (m.body.getD ((i:Nat):Int).toNat pvY.dft)),pst,(pst||(decide ((((i:Nat):Int)+1)+1<((m.body.length:Nat):Int))&&isHH (m.body.getD ((((i:Nat):Int)+1)+1).toNat pvY.dft)))⟩):=by rw[List.getElem?_map,i1,hIV];rfl
  refine xl_yield (kY:=0) rfl hR O O O O O O O O hx ?_ ?_
  refine Ab Aa ?_
  refine x_iff rfl ?_
  repeat refine sdI ?_
  exact Bj (i+1+1,false,k+1,q') [] .z ⟨by omega,by omega,i2,(List.getElem?_eq_some_iff.1 i1).1⟩ (by show m.body.length-(i+1+1)<m.body.length-i;omega)
  refine Ab Aa ?_
  refine Be rfl ?_
  exact .inr rfl
  have hk:¬(m.body.getD (i+1) pv0).kind=1:=of_decide_eq_false (by simpa using h5:decide ((m.body.getD (((i:Nat):Int)+1).toNat pvY.dft).kind=1)=false)
  repeat refine sdI ?_
  refine xl_slG 68 rfl (hBu.mono hu2) ?_
  refine Ab Aa ?_
  repeat refine sdI ?_
  refine Bt (.bool (isHH (m.body.getD ((((i:Nat):Int)+1)+1).toNat pvY.dft))) O O O O fn156 O O (fun _ E w F _=>spelt_any (m.body.getD ((((i:Nat):Int)+1)+1).toNat pvY.dft) hhB dhB w) ?_
  refine Ab Aa ?_
  have hIV:mkIt num m.body (m.body.getD i pv0) (m.body.getD (i+1) pv0) true pst (i+1)=⟨m.body.getD i pv0,(-1),(m.fn&&isH (m.body.getD ((i:Nat):Int).toNat pvY.dft)),pst,(pst||(decide ((((i:Nat):Int)+1)+1<((m.body.length:Nat):Int))&&isHH (m.body.getD ((((i:Nat):Int)+1)+1).toNat pvY.dft)))⟩:=by
   have e1:((((i:Nat):Int)+1)+1).toNat=i+1+1:=by omega
   have e2:decide ((((i:Nat):Int)+1)+1<((m.body.length:Nat):Int))=decide (i+1+1<m.body.length):=by rw[decide_eq_decide];omega
   have e3:(m.fn&&isH (m.body.getD ((i:Nat):Int).toNat pvY.dft))=true:=h3
   rw[e1,e2,e3]
   unfold mkIt
   rw[if_neg hk];try rfl
  obtain⟨i1,i2⟩:=drop_isX g3
  have hx:((itemsL m.fn num m.body).map ivV)[k]?=some (ivV ⟨m.body.getD i pv0,(-1),(m.fn&&isH (m.body.getD ((i:Nat):Int).toNat pvY.dft)),pst,(pst||(decide ((((i:Nat):Int)+1)+1<((m.body.length:Nat):Int))&&isHH (m.body.getD ((((i:Nat):Int)+1)+1).toNat pvY.dft)))⟩):=by rw[List.getElem?_map,i1,hIV];rfl
  refine xl_yield (kY:=0) rfl hR O O O O O O O O hx ?_ ?_
  refine Ab Aa ?_
  refine x_iff rfl ?_
  repeat refine sdI ?_
  exact Bj (i+1+1,false,k+1,q') [] .z ⟨by omega,by omega,i2,(List.getElem?_eq_some_iff.1 i1).1⟩ (by show m.body.length-(i+1+1)<m.body.length-i;omega)
  refine Ab Aa ?_
  refine Be rfl ?_
  exact .inr rfl
 have h3:(m.fn&&isH (m.body.getD i pv0))=false:=h3
 rw[if_neg (by rw[h3];decide)]at g3
 cases hn:num (m.body.getD (((i:Nat):Int)).toNat pvY.dft).text with
 |none=>
  refine xl_lookMv O O O Tryz.underlying189 Tryz.underlying9 O O O (hmu.sub hu2.sub) (.int .i64 0) (fun w=>rfl) (.tuple #[.int .i64 0,.bool false]) (by rw[hn];rfl) ?_
  refine Ab Aa ?_
  refine x_iff rfl ?_
  repeat refine sdI ?_
  refine xl_slG 68 rfl (hBu.mono hu2) ?_
  refine Ab Aa ?_
  repeat refine sdI ?_
  refine Bt (.bool (isHH (m.body.getD ((((i:Nat):Int))+1).toNat pvY.dft))) O O O O fn156 O O (fun _ E w F _=>spelt_any (m.body.getD ((((i:Nat):Int))+1).toNat pvY.dft) hhB dhB w) ?_
  refine Ab Aa ?_
  have hIV:mkIt num m.body (m.body.getD i pv0) (m.body.getD (i) pv0) false pst (i)=⟨m.body.getD i pv0,(-1),(m.fn&&isH (m.body.getD ((i:Nat):Int).toNat pvY.dft)),pst,(pst||(decide ((((i:Nat):Int))+1<((m.body.length:Nat):Int))&&isHH (m.body.getD ((((i:Nat):Int))+1).toNat pvY.dft)))⟩:=by
   have e1:((((i:Nat):Int))+1).toNat=i+1:=by omega
   have e2:decide ((((i:Nat):Int))+1<((m.body.length:Nat):Int))=decide (i+1<m.body.length):=by rw[decide_eq_decide];omega
   have e3:(m.fn&&isH (m.body.getD ((i:Nat):Int).toNat pvY.dft))=false:=h3
   rw[e1,e2,e3]
   unfold mkIt
   rw[show num (m.body.getD (i) pv0).text=none from hn,Option.getD_none,ite_self];try rfl
  obtain⟨i1,i2⟩:=drop_isX g3
  have hx:((itemsL m.fn num m.body).map ivV)[k]?=some (ivV ⟨m.body.getD i pv0,(-1),(m.fn&&isH (m.body.getD ((i:Nat):Int).toNat pvY.dft)),pst,(pst||(decide ((((i:Nat):Int))+1<((m.body.length:Nat):Int))&&isHH (m.body.getD ((((i:Nat):Int))+1).toNat pvY.dft)))⟩):=by rw[List.getElem?_map,i1,hIV];rfl
  refine xl_yield (kY:=0) rfl hR O O O O O O O O hx ?_ ?_
  refine Ab Aa ?_
  refine x_iff rfl ?_
  repeat refine sdI ?_
  exact Bj (i+1,false,k+1,q') [] .z ⟨by omega,by omega,i2,(List.getElem?_eq_some_iff.1 i1).1⟩ (by show m.body.length-(i+1)<m.body.length-i;omega)
  refine Ab Aa ?_
  refine Be rfl ?_
  exact .inr rfl
 |some nv=>
  refine xl_lookMv O O O Tryz.underlying189 Tryz.underlying9 O O O (hmu.sub hu2.sub) (.int .i64 0) (fun w=>rfl) (.tuple #[.int .i64 nv,.bool true]) (by rw[hn];rfl) ?_
  refine Ab Aa ?_
  refine Ap (fun h5=>?_) (fun h5=>?_)
  have hk:(m.body.getD (i) pv0).kind=1:=of_decide_eq_true (by simpa using h5:decide ((m.body.getD (((i:Nat):Int)).toNat pvY.dft).kind=1)=true)
  repeat refine sdI ?_
  refine xl_slG 68 rfl (hBu.mono hu2) ?_
  refine Ab Aa ?_
  repeat refine sdI ?_
  refine Bt (.bool (isHH (m.body.getD ((((i:Nat):Int))+1).toNat pvY.dft))) O O O O fn156 O O (fun _ E w F _=>spelt_any (m.body.getD ((((i:Nat):Int))+1).toNat pvY.dft) hhB dhB w) ?_
  refine Ab Aa ?_
  have hIV:mkIt num m.body (m.body.getD i pv0) (m.body.getD (i) pv0) false pst (i)=⟨m.body.getD i pv0,nv,(m.fn&&isH (m.body.getD ((i:Nat):Int).toNat pvY.dft)),pst,(pst||(decide ((((i:Nat):Int))+1<((m.body.length:Nat):Int))&&isHH (m.body.getD ((((i:Nat):Int))+1).toNat pvY.dft)))⟩:=by
   have e1:((((i:Nat):Int))+1).toNat=i+1:=by omega
   have e2:decide ((((i:Nat):Int))+1<((m.body.length:Nat):Int))=decide (i+1<m.body.length):=by rw[decide_eq_decide];omega
   have e3:(m.fn&&isH (m.body.getD ((i:Nat):Int).toNat pvY.dft))=false:=h3
   rw[e1,e2,e3]
   unfold mkIt
   rw[show num (m.body.getD (i) pv0).text=some nv from hn,if_pos hk];try rfl
  obtain⟨i1,i2⟩:=drop_isX g3
  have hx:((itemsL m.fn num m.body).map ivV)[k]?=some (ivV ⟨m.body.getD i pv0,nv,(m.fn&&isH (m.body.getD ((i:Nat):Int).toNat pvY.dft)),pst,(pst||(decide ((((i:Nat):Int))+1<((m.body.length:Nat):Int))&&isHH (m.body.getD ((((i:Nat):Int))+1).toNat pvY.dft)))⟩):=by rw[List.getElem?_map,i1,hIV];rfl
  refine xl_yield (kY:=0) rfl hR O O O O O O O O hx ?_ ?_
  refine Ab Aa ?_
  refine x_iff rfl ?_
  repeat refine sdI ?_
  exact Bj (i+1,false,k+1,q') [] .z ⟨by omega,by omega,i2,(List.getElem?_eq_some_iff.1 i1).1⟩ (by show m.body.length-(i+1)<m.body.length-i;omega)
  refine Ab Aa ?_
  refine Be rfl ?_
  exact .inr rfl
  have hk:¬(m.body.getD (i) pv0).kind=1:=of_decide_eq_false (by simpa using h5:decide ((m.body.getD (((i:Nat):Int)).toNat pvY.dft).kind=1)=false)
  repeat refine sdI ?_
  refine xl_slG 68 rfl (hBu.mono hu2) ?_
  refine Ab Aa ?_
  repeat refine sdI ?_
  refine Bt (.bool (isHH (m.body.getD ((((i:Nat):Int))+1).toNat pvY.dft))) O O O O fn156 O O (fun _ E w F _=>spelt_any (m.body.getD ((((i:Nat):Int))+1).toNat pvY.dft) hhB dhB w) ?_
  refine Ab Aa ?_
  have hIV:mkIt num m.body (m.body.getD i pv0) (m.body.getD (i) pv0) false pst (i)=⟨m.body.getD i pv0,(-1),(m.fn&&isH (m.body.getD ((i:Nat):Int).toNat pvY.dft)),pst,(pst||(decide ((((i:Nat):Int))+1<((m.body.length:Nat):Int))&&isHH (m.body.getD ((((i:Nat):Int))+1).toNat pvY.dft)))⟩:=by
   have e1:((((i:Nat):Int))+1).toNat=i+1:=by omega
   have e2:decide ((((i:Nat):Int))+1<((m.body.length:Nat):Int))=decide (i+1<m.body.length):=by rw[decide_eq_decide];omega
   have e3:(m.fn&&isH (m.body.getD ((i:Nat):Int).toNat pvY.dft))=false:=h3
   rw[e1,e2,e3]
   unfold mkIt
   rw[if_neg hk];try rfl
  obtain⟨i1,i2⟩:=drop_isX g3
  have hx:((itemsL m.fn num m.body).map ivV)[k]?=some (ivV ⟨m.body.getD i pv0,(-1),(m.fn&&isH (m.body.getD ((i:Nat):Int).toNat pvY.dft)),pst,(pst||(decide ((((i:Nat):Int))+1<((m.body.length:Nat):Int))&&isHH (m.body.getD ((((i:Nat):Int))+1).toNat pvY.dft)))⟩):=by rw[List.getElem?_map,i1,hIV];rfl
  refine xl_yield (kY:=0) rfl hR O O O O O O O O hx ?_ ?_
  refine Ab Aa ?_
  refine x_iff rfl ?_
  repeat refine sdI ?_
  exact Bj (i+1,false,k+1,q') [] .z ⟨by omega,by omega,i2,(List.getElem?_eq_some_iff.1 i1).1⟩ (by show m.body.length-(i+1)<m.body.length-i;omega)
  refine Ab Aa ?_
  refine Be rfl ?_
  exact .inr rfl
 have h1:¬(i:Int)<((m.body.length:Nat):Int):=of_decide_eq_false h1
 have e:itF m.fn num m.body q i pst=[]:=by
  cases q with
  |zero=>rfl
  |succ q=>rw[itF,if_neg (by omega)]
 rw[e]at g3
 have hk:((itemsL m.fn num m.body).map ivV).length=k:=by
  rw[List.length_map]
  have:=congrArg List.length g3
  rw[List.length_nil,List.length_drop]at this
  omega
 exact .inl (by rw[hk];rfl)
end Go.Proofs.YtnjlkdhdinfejaaGreat
namespace Go.GV
open Go.RowKit
def Rs.pG:Rs→Prop
 |.sl _=>False
 |.gen A=>∀u u' F w,A.h u F w→A.h u' F w
 |_=>True
def pGL:Own→Prop
 |[]=>True
 |(_,r)::t=>r.pG∧pGL t
theorem pGL_look:∀ {ow:Own},pGL ow→∀k r,look ow k=some r→r.pG
 |[],_,k,r,h=>by cases h
 |(j,x)::t,h,k,r,hk=>by
  rw[Ac]at hk
  split at hk
  cases hk;exact h.1
  exact pGL_look h.2 k r hk
theorem Rs.holds_mapG {m:Nat→Nat} {E:Env} {k n N:Nat} {F F':Nat→Prop} {u u':Im} {w:World} {r:Rs} (hp:r.pG) (hi:r.inN n=true) (hF:∀b,F' b↔F b) (hl:(r.mapK m).lt E N)
 (h:(r.mapK m).holds E (m k) F u w):r.holds (fun j=>E (m j)) k F' u' w∧r.lt (fun j=>E (m j)) n:=by
 cases r with
 |sl D=>exact hp.elim
 |gen A=>
  obtain rfl:F'=F:=funext fun b=>propext (hF b)
  exact⟨hp _ _ _ _ h,trivial⟩
 |box t cs=>exact Rs.holds_mapK (r:=.box t cs) rfl hi hF hl h
 |row e D=>exact Rs.holds_mapK (r:=.row e D) rfl hi hF hl h
 |emp=>exact Rs.holds_mapK (r:=.emp) rfl hi hF hl h
theorem Rs.mapG_holds {m:Nat→Nat} {E E':Env} {k n:Nat} {F F':Nat→Prop} {u u':Im} {w:World} {r:Rs} (hp:r.pG) (hE:∀k,k<n→E' (m k)=E k) (hk:k<n) (hF:∀b,F' b↔F b) (hl:r.lt E n)
 (h:r.holds E k F u w):(r.mapK m).holds E' (m k) F' u' w:=by
 cases r with
 |sl D=>exact hp.elim
 |gen A=>
  obtain rfl:F'=F:=funext fun b=>propext (hF b)
  exact hp _ _ _ _ h
 |box t cs=>exact Rs.mapK_holds (r:=.box t cs) rfl hE hk hF hl h
 |row e D=>exact Rs.mapK_holds (r:=.row e D) rfl hE hk hF hl h
 |emp=>exact Rs.mapK_holds (r:=.emp) rfl hE hk hF hl h
theorem Sat.stepF {E E':Env} {o o':Own} {nx nx':Nat} {u u':Im} {df:List Deferred} {w w':World} {f f':Nat→Nat→Prop} (h:Sat E o nx u df w f)
 (ch:Nat→Prop) (hE:∀k,k<nx→E' k=E k) (hnx:nx≤nx') (hu:u.le u') (hi:Imm u' w') (hz:w.heap.size≤w'.heap.size)
 (hw:∀b,b<w.heap.size→(∀k,ch k→¬f k b)→w'.heap[b]?=w.heap[b]?)
 (hsame:∀k,¬ch k→(look o' k=look o k∧∀b,f' k b↔f k b))
 (hnew:∀k,ch k→(∀r,look o' k=some r→r.holds E' k (f' k) u' w'∧k<nx'∧r.lt E' nx')∧(look o' k=none→∀b,¬f' k b) ∧
  (∀b,f' k b→((∃k0,ch k0∧f k0 b)∨w.heap.size≤b)∧u'.h b=none))
 (hapart:∀k k' b,ch k→ch k'→k≠k'→f' k b→¬f' k' b)
 (huf:∀b o,u'.h b=some o→u.h b=some o∨w.heap.size≤b∨∃k,ch k∧f k b) :
 Sat E' o' nx' u' df w' f':=by
 have hother:∀k,¬ch k→∀b,f k b→w'.heap[b]?=w.heap[b]?:=fun k hk b hb=>
  hw b (h.fin hb) (fun k0 hc hf=>h.apart k0 k b (fun e=>hk (e▸hc)) hf hb)
 refine⟨?_,?_,?_,?_,?_,hi,?_⟩
 intro k r hl
 by_cases hc:ch k
 exact((hnew k hc).1 r hl).1
 obtain⟨h1,h2⟩:=hsame k hc
 rw[h1]at hl
 have hF:f' k=f k:=funext fun b=>propext (h2 b)
 rw[hF]
 obtain⟨hk,hr⟩:=h.lt k r hl
 have h3:=Rs.holds_congr hE hk hr (h.holds k r hl)
 have hiu:Imm u w':=⟨fun b o hb=>hi.h b o (hu.h b o hb),hi.os.trans hu.os,hi.tape.trans hu.tape,hi.output.trans hu.output,by have:=hi.lo;rw[hu.lo]at this;exact this⟩
 exact Rs.holds_mono hu hi (Rs.holds_local (hother k hc) hiu hz h3)
 intro k hl b hb
 by_cases hc:ch k
 exact(hnew k hc).2.1 hl b hb
 obtain⟨h1,h2⟩:=hsame k hc
 exact h.non k (h1▸hl) b ((h2 b).1 hb)
 intro k k' b hne h1 h2
 by_cases hc:ch k
 by_cases hc':ch k'
 exact hapart k k' b hc hc' hne h1 h2
 have h2':=((hsame k' hc').2 b).1 h2
 rcases((hnew k hc).2.2 b h1).1 with⟨k0,hk0,hf0⟩|hge
 exact h.apart k0 k' b (fun e=>hc' (e▸hk0)) hf0 h2'
 have:=h.fin h2';omega
 have h1':=((hsame k hc).2 b).1 h1
 by_cases hc':ch k'
 rcases((hnew k' hc').2.2 b h2).1 with⟨k0,hk0,hf0⟩|hge
 exact h.apart k0 k b (fun e=>hc (e▸hk0)) hf0 h1'
 have:=h.fin h1';omega
 exact h.apart k k' b hne h1' (((hsame k' hc').2 b).1 h2)
 intro k b hb
 by_cases hc:ch k
 exact((hnew k hc).2.2 b hb).2
 have hb':=((hsame k hc).2 b).1 hb
 cases ho:u'.h b with
 |none=>rfl
 |some x=>
  rcases huf b x ho with h1|h1|⟨k0,hk0,hf0⟩
  rw[h.off k b hb']at h1;cases h1
  have:=h.fin hb';omega
  exact absurd hb' (h.apart k0 k b (fun e=>hc (e▸hk0)) hf0)
 intro k r hl
 by_cases hc:ch k
 exact((hnew k hc).1 r hl).2
 rw[(hsame k hc).1]at hl
 exact⟨Nat.lt_of_lt_of_le (h.lt k r hl).1 hnx,Rs.lt_mono hE hnx (h.lt k r hl).2⟩
 obtain⟨ds,h1,h2,h3⟩:=h.marks
 refine⟨ds,h1,h2,fun d hd=>?_⟩
 obtain⟨h4,h5,h6⟩:=h3 d hd
 have hlt:d<w.heap.size:=(Array.getElem?_eq_some_iff.1 h4).1
 refine⟨(hw d hlt (fun k _=>h6 k)).trans h4,?_,fun k hk=>?_⟩
 cases ho:u'.h d with
 |none=>rfl
 |some x=>
  rcases huf d x ho with h7|h7|⟨k0,_,hf0⟩
  rw[h5]at h7;cases h7
  omega
  exact absurd hf0 (h6 k0)
 by_cases hc:ch k
 rcases((hnew k hc).2.2 d hk).1 with⟨k0,_,hf0⟩|hge
 exact h6 k0 hf0
 omega
 exact h6 k (((hsame k hc).2 d).1 hk)
def dif (u u':Im):Im:={u' with h:=fun b=>match u.h b with
 |some _=>none
 |none=>u'.h b}
theorem Bl (u u':Im):(dif u u').sub u':=⟨fun b o h=>by
 have h:(match u.h b with|some _=>none|none=>u'.h b)=some o:=h
 cases hb:u.h b with
 |some x=>rw[hb]at h;cases h
 |none=>rw[hb]at h;exact h⟩
theorem Ba {u v v':Im} (h:v.sub v'):(dif u v).sub (dif u v'):=⟨fun b o hb=>by
 have hb:(match u.h b with|some _=>none|none=>v.h b)=some o:=hb
 show(match u.h b with|some _=>none|none=>v'.h b)=some o
 cases hu:u.h b with
 |some x=>rw[hu]at hb;cases hb
 |none=>rw[hu]at hb;exact h.h b o hb⟩
theorem dif_new {u u':Im} {b:Nat} {o:Obj} (h:u.h b=none) (h':u'.h b=some o):(dif u u').h b=some o:=by
 show(match u.h b with|some _=>none|none=>u'.h b)=some o
 rw[h];exact h'
theorem Nw.sub {u0 u1 u2:Im} {Φ:Im→Prop} (h:Nw u0 u1 Φ) (hu:u1.sub u2):Nw u0 u2 Φ:=fun u' a b=>h u' a (hu.trans b)
theorem Nw.imp {u0 u1:Im} {Φ Ψ:Im→Prop} (h:Nw u0 u1 Φ) (hi:∀u,Φ u→Ψ u):Nw u0 u1 Ψ:=fun u' a b=>hi u' (h u' a b)
theorem Nw.at {u0 u1 u:Im} {Φ:Im→Prop} (h:Nw u0 u1 Φ) (h0:u0.sub u) (h1:u1.sub u):Φ u:=h u h0 h1
def Bf (u0 u1:Im):Im:={u0 with h:=fun b=>match u0.h b with
 |some o=>some o
 |none=>u1.h b}
theorem joinI_old (u0 u1:Im):u0.sub (Bf u0 u1):=⟨fun b o h=>by
 show(match u0.h b with|some o=>some o|none=>u1.h b)=some o
 rw[h]⟩
theorem joinI_new {u0 us u:Im} (h:u0.sub us):(dif us u).sub (Bf u0 (dif us u)):=⟨fun b o hb=>by
 show(match u0.h b with|some o=>some o|none=>(dif us u).h b)=some o
 cases h0:u0.h b with
 |none=>exact hb
 |some x=>
  have hb:(match us.h b with|some _=>none|none=>u.h b)=some o:=hb
  rw[h.h b x h0]at hb
  cases hb⟩
theorem Bn {u0 u1 u:Im} (h0:u0.sub u) (h1:u1.sub u):(Bf u0 u1).sub u:=⟨fun b o hb=>by
 have hb:(match u0.h b with|some o=>some o|none=>u1.h b)=some o:=hb
 cases h:u0.h b with
 |none=>rw[h]at hb;exact h1.h b o hb
 |some x=>rw[h]at hb;cases hb;exact h0.h b _ h⟩
theorem Nw.lift {u0 us u u':Im} {Φ:Im→Prop} (hu0:u0.sub us) (hu:us.sub u) (hu':u.sub u') (h:Nw (Bf u0 (dif us u)) (dif u u') Φ):Nw u0 (dif us u') Φ:=fun v a b=>by
 refine h v (Bn a ((Ba hu').trans b)) (⟨fun x o hx=>?_⟩)
 have hx:(match u.h x with|some _=>none|none=>u'.h x)=some o:=hx
 cases hux:u.h x with
 |some y=>rw[hux]at hx;cases hx
 |none=>
  rw[hux]at hx
  refine b.h x o (dif_new ?_ hx)
  cases hs:us.h x with
  |none=>rfl
  |some y=>rw[hu.h x y hs]at hux;cases hux
def SCX {σ:Type} (P:Program) (f:Nat) (u0:Im) (n:Nat) (ow:Own) (args:List SV) (post:σ→Own×Nat×List SV) (G:σ→Prop) (Φ:σ→Im→Prop):Prop:=
 ∀E w F u,u0.sub u→Sat E ow n u [] w F→Calls P f (args.map (SV.den E)).toArray w fun e w'=>
  ∃s E' F' u',(∀k,k<n→E' k=E k)∧n≤(post s).2.1∧u.le u'∧(e=.returned (tupV ((post s).2.2.map (SV.den E')))∧∀v∈(post s).2.2,v.lt E' (post s).2.1)∧Sat E' (post s).1 (post s).2.1 u' [] w' F'∧G s∧Nw u0 (dif u u') (Φ s)
theorem SCX.use {σ:Type} {P:Program} {f:Nat} {n:Nat} {ow0:Own} {cargs:List SV} {post:σ→Own×Nat×List SV} {G:σ→Prop} {Φ:σ→Im→Prop} {u0:Im} (hsc:SCX P f u0 n ow0 cargs post G Φ)
 {ρ:List Nat} {E:Env} {ow:Own} {nx:Nat} {u:Im} {df:List Deferred} {w:World} {F:Nat→Nat→Prop} (hH:u0.sub u) (hs:Sat E ow nx u df w F)
 (hρ:ρ.length=n) (hρ1:ρ.all (fun k=>Nat.blt k nx)=true) (hρ2:apartB ρ=true)
 (hp1:ow0.all (fun x=>Nat.blt x.1 n&&x.2.inN n)=true) (hpl:pGL ow0) (hp2:ow0.map (fun x=>look ow (mpK ρ n nx x.1))=ow0.map (fun x=>some (x.2.mapK (mpK ρ n nx))))
 (hpost:∀s,pGL (post s).1) :
 Calls P f ((cargs.map (SV.mapK (mpK ρ n nx))).map (SV.den E)).toArray w fun e w'=>
  ∃s E' F' u',(∀k,k<nx→E' k=E k)∧u.le u'∧(e=.returned (tupV (((post s).2.2.map (SV.mapK (mpK ρ n nx))).map (SV.den E')))∧∀v∈(post s).2.2,(v.mapK (mpK ρ n nx)).lt E' (nx+((post s).2.1-n)))∧G s∧Nw u0 (dif u u') (Φ s)∧Sat E' (mergeOw ρ n nx (post s).1 ow) (nx+((post s).2.1-n)) u' df w' F':=by
 classical
 subst hρ
 let m:=mpK ρ ρ.length nx
 have hmlt:∀j,j<ρ.length→m j=ρ.getD j 0∧m j<nx:=fun j hj=>by
  have e:m j=ρ.getD j 0:=by
   show mpK ρ ρ.length nx j=_
   unfold mpK
   have:Nat.blt j ρ.length=true:=Nat.ble_eq_true_of_le hj
   rw[this]
  refine⟨e,?_⟩
  rw[e,List.getD_eq_getElem?_getD,List.getElem?_eq_getElem hj]
  exact Cp (List.all_eq_true.1 hρ1 _ (List.getElem_mem hj))
 have hmge:∀j,ρ.length≤j→m j=nx+(j - ρ.length):=fun j hj=>by
  show mpK ρ ρ.length nx j=_
  unfold mpK
  cases hb:Nat.blt j ρ.length with
  |true=>have:=Cp hb;omega
  |false=>rfl
 have hinj:∀i j,m i=m j→i=j:=fun i j e=>by
  rcases Nat.lt_or_ge i ρ.length with hi|hi
  rcases Nat.lt_or_ge j ρ.length with hj|hj
  rw[(hmlt i hi).1,(hmlt j hj).1]at e
  exact apartB_inj' hρ2 i j hi hj e
  have:=(hmlt i hi).2;rw[e,hmge j hj]at this;omega
  rcases Nat.lt_or_ge j ρ.length with hj|hj
  have:=(hmlt j hj).2;rw[←e,hmge i hi]at this;omega
  rw[hmge i hi,hmge j hj]at e;omega
 have hmem:∀j,j<ρ.length→m j∈ρ:=fun j hj=>by
  rw[(hmlt j hj).1,List.getD_eq_getElem?_getD,List.getElem?_eq_getElem hj];exact List.getElem_mem hj
 have hρm:∀k,k∈ρ→∃j,j<ρ.length∧m j=k:=fun k hk=>by
  obtain⟨j,hj,e⟩:=List.mem_iff_getElem.1 hk
  exact⟨j,hj,by rw[(hmlt j hj).1,List.getD_eq_getElem?_getD,List.getElem?_eq_getElem hj];exact e⟩
 have hpre:∀j r,look ow0 j=some r→j<ρ.length∧r.inN ρ.length=true∧r.pG∧look ow (m j)=some (r.mapK m):=fun j r hl=>by
  have hm:=look_mem hl
  have h1:=List.all_eq_true.1 hp1 _ hm
  simp only[Bool.and_eq_true]at h1
  refine⟨Cp h1.1,h1.2,pGL_look hpl _ _ hl,?_⟩
  have:∀l:Own,l.map (fun x=>look ow (mpK ρ ρ.length nx x.1))=l.map (fun x=>some (x.2.mapK (mpK ρ ρ.length nx)))→∀x∈l,look ow (m x.1)=some (x.2.mapK m):=by
   intro l
   induction l with
   |nil=>intro _ x hx;cases hx
   |cons y l ih=>
    intro h x hx
    simp only[List.map_cons,List.cons.injEq]at h
    rcases List.mem_cons.1 hx with rfl|hx
    exact h.1
    exact ih h.2 x hx
  exact this _ hp2 _ hm
 let Ec:Env:=fun j=>E (m j)
 let Fc:Nat→Nat→Prop:=fun j b=>(∃r,look ow0 j=some r)∧F (m j) b
 let uc:Im:={h:=fun b=>if ∃j,Fc j b then none else w.heap[b]?,os:=w.os,tape:=w.tape,output:=w.output,lo:=w.heap.size}
 have hsub:u.sub uc:=⟨fun b o hb=>by
  show(if ∃j,Fc j b then none else w.heap[b]?)=some o
  rw[if_neg (fun⟨j,_,hj⟩=>by rw[hs.off _ b hj]at hb;cases hb)]
  exact hs.imm.h b o hb⟩
 have huc:∀b,(¬ ∃j,Fc j b)→uc.h b=w.heap[b]?:=fun b hb=>by
  show(if ∃j,Fc j b then none else w.heap[b]?)=_
  rw[if_neg hb]
 have hsat:Sat Ec ow0 ρ.length uc [] w Fc:=by
  refine⟨fun j r hl=>?_,fun j hl b hb=>?_,fun j j' b hne h1 h2=>hs.apart _ _ b (fun e=>hne (hinj _ _ e)) h1.2 h2.2,fun j b hb=>?_,fun j r hl=>?_,⟨fun b o hb=>?_,rfl,rfl,rfl,Nat.le_refl _⟩,[],rfl,List.nodup_nil,fun d hd=>by cases hd⟩
  obtain⟨h1,h2,h3,h4⟩:=hpre j r hl
  exact(Rs.holds_mapG h3 h2 (fun b=>⟨fun h=>h.2,fun h=>⟨⟨r,hl⟩,h⟩⟩) (hs.lt _ _ h4).2 (hs.holds _ _ h4)).1
  obtain⟨r,hr⟩:=hb.1;rw[hl]at hr;cases hr
  show(if ∃j,Fc j b then none else w.heap[b]?)=none
  rw[if_pos ⟨j,hb⟩]
  obtain⟨h1,h2,h3,h4⟩:=hpre j r hl
  exact⟨h1,(Rs.holds_mapG (u':=uc) (F':=F (m j)) h3 h2 (fun b=>Iff.rfl) (hs.lt _ _ h4).2 (hs.holds _ _ h4)).2⟩
  have:(if ∃j,Fc j b then none else w.heap[b]?)=some o:=hb
  split at this
  cases this
  exact this
 have hargs:(cargs.map (SV.mapK (mpK ρ ρ.length nx))).map (SV.den E)=cargs.map (SV.den Ec):=by
  rw[List.map_map]
  exact List.map_congr_left fun s _=>SV.mapK_den _ E s
 rw[hargs]
 refine(hsc Ec w Fc uc (hH.trans hsub) hsat).mono ?_
 rintro e w' ⟨s,E',F',uc',hE',hn,hu',he,hsat',hG,hΦ⟩
 have hlt':∀x∈(post s).1,x.1<(post s).2.1:=fun x hx=>by
  obtain⟨y,hy⟩:=look_of_mem hx
  exact(hsat'.lt _ _ hy).1
 have hplain:∀j r,look (post s).1 j=some r→r.pG:=fun j r hl=>pGL_look (hpost s) j r hl
 let E'':Env:=fun k=>if k<nx then E k else E' (ρ.length+(k-nx))
 have hEm:∀j,j<(post s).2.1→E'' (m j)=E' j:=fun j _=>by
  rcases Nat.lt_or_ge j ρ.length with hj|hj
  show(if m j<nx then E (m j)else _)=_
  rw[if_pos (hmlt j hj).2,hE' j hj]
  show(if m j<nx then _ else E' (ρ.length+(m j-nx)))=_
  rw[hmge j hj,if_neg (by omega)]
  congr 1;omega
 have hsz:w.heap.size≤w'.heap.size:=by
  have h1:=hsat'.imm.lo
  rw[hu'.lo]at h1
  exact h1
 have hframe:∀b,b<w.heap.size→(¬ ∃j,Fc j b)→w'.heap[b]?=w.heap[b]?:=fun b hb hn=>by
  have h1:uc.h b=some (w.heap[b]'hb):=by rw[huc b hn];exact Array.getElem?_eq_getElem hb
  rw[hsat'.imm.h b _ (hu'.h b _ h1),Array.getElem?_eq_getElem hb]
 let F'':Nat→Nat→Prop:=fun k b=>(∃j,j<(post s).2.1∧m j=k∧F' j b)∨((∀j,j<(post s).2.1→m j≠k)∧F k b)
 have hF''m:∀j,j<(post s).2.1→∀b,F'' (m j) b↔F' j b:=fun j hj b=>by
  constructor
  rintro(⟨i,hi,e,h⟩|⟨h,_⟩)
  rw[←hinj _ _ e];exact h
  exact absurd rfl (h j hj)
  exact fun h=>.inl ⟨j,hj,rfl,h⟩
 let u'':Im:={h:=fun b=>match u.h b with
   |some o=>some o
   |none=>(dif uc uc').h b,os:=u.os,tape:=u.tape,output:=u.output,lo:=u.lo}
 have hu''1:∀b o,u.h b=some o→u''.h b=some o:=fun b o ho=>by
  show(match u.h b with|some o=>some o|none=>(dif uc uc').h b)=some o
  rw[ho]
 have hu''2:∀b,u.h b=none→u''.h b=(dif uc uc').h b:=fun b ho=>by
  show(match u.h b with|some o=>some o|none=>(dif uc uc').h b)=_
  rw[ho]
 have hult:∀b o,u.h b=some o→b<w.heap.size:=fun b o ho=>(Array.getElem?_eq_some_iff.1 (hs.imm.h b o ho)).1
 have hle'':u.le u'':=⟨hu''1,rfl,rfl,rfl,rfl⟩
 have himm'':Imm u'' w':=by
  refine⟨fun b o ho=>?_,?_,?_,?_,Nat.le_trans hs.imm.lo hsz⟩
  cases hub:u.h b with
  |some o1=>
   rw[hu''1 b o1 hub]at ho
   cases ho
   rw[hframe b (hult b _ hub) (fun⟨j,_,hj⟩=>by rw[hs.off _ b hj]at hub;cases hub)]
   exact hs.imm.h b _ hub
  |none=>
   rw[hu''2 b hub]at ho
   exact hsat'.imm.h b o ((Bl uc uc').h b o ho)
  exact(hsat'.imm.os.trans hu'.os).trans hs.imm.os
  exact(hsat'.imm.tape.trans hu'.tape).trans hs.imm.tape
  exact(hsat'.imm.output.trans hu'.output).trans hs.imm.output
 have hnewk:∀k,nx≤k→look ow k=none:=fun k hk=>by
  cases hl:look ow k with
  |none=>rfl
  |some r=>have:=(hs.lt k r hl).1;omega
 have hlookm:∀j,look (mergeOw ρ ρ.length nx (post s).1 ow) (m j)=match look (post s).1 j with
   |some r=>some (r.mapK m)
   |none=>look (ρ.map (fun k=>(k,Rs.emp))++ow) (m j):=fun j=>by
  unfold mergeOw
  rw[look_append]
  have:=look_map (m:=m) (g:=Rs.mapK m) (j:=j) (l:=(post s).1) (fun x _ e=>hinj _ _ e)
  rw[show look ((post s).1.map fun x=>(mpK ρ ρ.length nx x.1,x.2.mapK (mpK ρ ρ.length nx))) (m j)=_ from this]
  cases look (post s).1 j<;>rfl
 obtain⟨he1,he2⟩:=he
 have hmn:∀j,j<(post s).2.1→m j<nx+((post s).2.1 - ρ.length):=fun j hj=>by
  rcases Nat.lt_or_ge j ρ.length with h1|h1
  have:=(hmlt _ h1).2;omega
  rw[hmge _ h1];omega
 have hvals:((post s).2.2.map (SV.mapK m)).map (SV.den E'')=(post s).2.2.map (SV.den E'):=by
  rw[List.map_map]
  refine List.map_congr_left fun v hv=>?_
  rw[Function.comp_apply,SV.mapK_den]
  exact SV.den_congr hEm (he2 v hv)
 have hΦ':Nw u0 (dif u u'') (Φ s):=hΦ.sub ⟨fun b o hb=>by
  have hb:(match uc.h b with|some _=>none|none=>uc'.h b)=some o:=hb
  cases hcb:uc.h b with
  |some y=>rw[hcb]at hb;cases hb
  |none=>
   rw[hcb]at hb
   have hub:u.h b=none:=by
    cases h:u.h b with
    |none=>rfl
    |some y=>rw[hsub.h b y h]at hcb;cases hcb
   exact dif_new hub (by rw[hu''2 b hub];exact dif_new hcb hb)⟩
 refine⟨s,E'',F'',u'',fun k hk=>if_pos hk,hle'',⟨by rw[he1];exact congrArg (fun l=>Ending.returned (tupV l)) hvals.symm,fun v hv=>SV.mapK_lt hEm hmn (he2 v hv)⟩,hG,hΦ',?_⟩
 refine hs.stepF (fun k=>∃j,j<(post s).2.1∧m j=k) (fun k hk=>if_pos hk) (Nat.le_add_right _ _) hle'' himm'' hsz ?_ ?_ ?_ ?_ ?_
 intro b hb hno
 refine hframe b hb ?_
 rintro⟨j,⟨r,hr⟩,hj⟩
 exact hno (m j) ⟨j,by have:=(hpre j r hr).1;omega,rfl⟩ hj
 intro k hk
 have hk':∀j,j<(post s).2.1→m j≠k:=fun j hj e=>hk ⟨j,hj,e⟩
 refine⟨?_,fun b=>⟨?_,fun h=>.inr ⟨hk',h⟩⟩⟩
 unfold mergeOw
 rw[look_append,look_append]
 have h1:look ((post s).1.map fun x=>(mpK ρ ρ.length nx x.1,x.2.mapK (mpK ρ ρ.length nx))) k=none:=look_map_none (m:=m) (fun x hx=>hk' x.1 (hlt' x hx))
 rw[h1]
 simp only
 rw[look_emps.2 (fun hm=>by obtain⟨j,hj,e⟩:=hρm k hm;exact hk' j (by omega) e)]
 rintro(⟨j,hj,e,_⟩|⟨_,h⟩)
 exact absurd e (hk' j hj)
 exact h
 rintro k ⟨j,hj,rfl⟩
 refine⟨fun r hl=>?_,fun hl b hb=>?_,fun b hb=>?_⟩
 rw[hlookm j]at hl
 have hmj:m j<nx+((post s).2.1 - ρ.length):=by
  rcases Nat.lt_or_ge j ρ.length with h1|h1
  have:=(hmlt j h1).2;omega
  rw[hmge j h1];omega
 cases hl0:look (post s).1 j with
 |some r0=>
  rw[hl0]at hl
  simp only[Option.some.injEq]at hl
  subst hl
  have hlr:=(hsat'.lt _ _ hl0).2
  refine⟨Rs.mapG_holds (hplain _ _ hl0) hEm hj (hF''m j hj) hlr (hsat'.holds _ _ hl0),hmj,?_⟩
  cases r0 with
  |box t cs=>
   intro x hx
   obtain⟨y,hy,rfl⟩:=List.mem_map.1 hx
   refine SV.mapK_lt hEm (fun i hi=>?_) (hlr y hy)
   rcases Nat.lt_or_ge i ρ.length with h1|h1
   have:=(hmlt i h1).2;show m i<_;omega
   show m i<_;rw[hmge i h1];omega
  |row e D=>trivial
  |sl D=>trivial
  |gen A=>trivial
  |emp=>trivial
 |none=>
  rw[hl0]at hl
  simp only at hl
  rw[look_append]at hl
  rcases Nat.lt_or_ge j ρ.length with h1|h1
  rw[look_emps.1 (hmem j h1)]at hl
  simp only[Option.some.injEq]at hl
  subst hl
  exact⟨fun x hx=>hsat'.non j hl0 x ((hF''m j hj x).1 hx),hmj,trivial⟩
  rw[look_emps.2 (fun hm=>by have:=Cp (List.all_eq_true.1 hρ1 _ hm);rw[hmge j h1]at this;omega)]at hl
  simp only at hl
  rw[hnewk _ (by rw[hmge j h1];omega)]at hl
  cases hl
 have hb':=(hF''m j hj b).1 hb
 rw[hlookm j]at hl
 cases hl0:look (post s).1 j with
 |some r0=>rw[hl0]at hl;cases hl
 |none=>exact hsat'.non j hl0 b hb'
 have hb':=(hF''m j hj b).1 hb
 have hoff:=hsat'.off j b hb'
 have hdn:(dif uc uc').h b=none:=by
  cases hd:(dif uc uc').h b with
  |none=>rfl
  |some y=>rw[(Bl uc uc').h b y hd]at hoff;cases hoff
 rcases Nat.lt_or_ge b w.heap.size with hlt|hge
 have hex:∃j,Fc j b:=by
  refine Classical.byContradiction fun hno=>?_
  have h1:uc.h b=some (w.heap[b]'hlt):=by rw[huc b hno];exact Array.getElem?_eq_getElem hlt
  rw[hu'.h b _ h1]at hoff;cases hoff
 obtain⟨i,⟨r,hr⟩,hi⟩:=hex
 refine⟨.inl ⟨m i,⟨i,by have:=(hpre i r hr).1;omega,rfl⟩,hi⟩,?_⟩
 rw[hu''2 b (hs.off _ b hi)];exact hdn
 refine⟨.inr hge,?_⟩
 have hub:u.h b=none:=by
  cases h:u.h b with
  |none=>rfl
  |some y=>have:=hult b y h;omega
 rw[hu''2 b hub];exact hdn
 rintro k k' b ⟨j,hj,rfl⟩ ⟨j',hj',rfl⟩ hne h1 h2
 exact hsat'.apart j j' b (fun e=>hne (by rw[e])) ((hF''m j hj b).1 h1) ((hF''m j' hj' b).1 h2)
 intro b o ho
 cases hub:u.h b with
 |some y=>rw[hu''1 b y hub]at ho;cases ho;exact .inl rfl
 |none=>
  rw[hu''2 b hub]at ho
  refine .inr ?_
  rcases Nat.lt_or_ge b w.heap.size with hlt|hge
  refine .inr ?_
  have hcb:uc.h b=none:=by
   have ho:(match uc.h b with|some _=>none|none=>uc'.h b)=some o:=ho
   cases h:uc.h b with
   |none=>rfl
   |some y=>rw[h]at ho;cases ho
  have hex:∃j,Fc j b:=by
   refine Classical.byContradiction fun hno=>?_
   have h1:uc.h b=some (w.heap[b]'hlt):=by rw[huc b hno];exact Array.getElem?_eq_getElem hlt
   rw[h1]at hcb;cases hcb
  obtain⟨i,⟨r,hr⟩,hi⟩:=hex
  exact⟨m i,⟨i,by have:=(hpre i r hr).1;omega,rfl⟩,hi⟩
  exact .inl hge
def resE (m:Nat→Nat):SV→Value ⊕ Nat
 |.v x=>.inl x
 |.r k=>.inr (m k)
 |_=>.inl undef
def resSV (m:Nat→Nat):List SV→SV
 |[s]=>s.mapK m
 |l=>.tup (l.map (resE m))
def okE:SV→Bool
 |.v _=>true
 |.r _=>true
 |_=>false
def okRes:List SV→Bool
 |[_]=>true
 |l=>l.all okE
theorem resE_den {m:Nat→Nat} {E:Env} {s:SV} (h:okE s=true):eltOf E (resE m s)=(s.mapK m).den E:=by
 cases s with
 |v x=>rfl
 |r k=>rfl
 |_=>cases h
theorem resSV_den {m:Nat→Nat} {E:Env} {l:List SV} (h:okRes l=true):(resSV m l).den E=tupV ((l.map (SV.mapK m)).map (SV.den E)):=by
 have key:∀l:List SV,l.all okE=true→(l.map (resE m)).map (eltOf E)=(l.map (SV.mapK m)).map (SV.den E):=fun l hl=>by
  rw[List.map_map,List.map_map]
  exact List.map_congr_left fun s hs=>resE_den (List.all_eq_true.1 hl s hs)
 match l,h with
 |[],_=>rfl
 |[s],_=>rfl
 |a::b::r,h=>
  have:=key (a::b::r) h
  show Value.tuple (((a::b::r).map (resE m)).map (eltOf E)).toArray=tupV (((a::b::r).map (SV.mapK m)).map (SV.den E))
  rw[this];rfl
theorem resSV_lt {m:Nat→Nat} {E:Env} {n:Nat} {l:List SV} (h:∀v∈l,(v.mapK m).lt E n):(resSV m l).lt E n:=by
 have key:∀l:List SV,(∀v∈l,(v.mapK m).lt E n)→(SV.tup (l.map (resE m))).lt E n:=fun l hl k hk=>by
  obtain⟨v,hv,e⟩:=List.mem_map.1 hk
  cases v with
  |r j=>cases e;exact hl _ hv
  |v x=>cases e
  |_=>cases e
 match l,h with
 |[],h=>exact key [] h
 |[s],h=>exact h s List.mem_cons_self
 |a::b::r,h=>exact key _ h
theorem xl_callSCX {σ:Type} {C:Cx} {all:List Oper} {o:Oper} {r:List Oper} {Q:Bb} {kn:Kn} {gk:List (Nat×(Gd×SV))} {ow:Own} {nx:Nat} {u:Im} {c:Call}
 {f n:Nat} {u0:Im} {ow0:Own} {cargs:List SV} {post:σ→Own×Nat×List SV} {G:σ→Prop} {Φ:σ→Im→Prop} (hsc:SCX C.P f u0 n ow0 cargs post G Φ) (hH:u0.sub u) (ρ:List Nat)
 {d:Nat} (ho:o.op=.call c) (hgd:o.guard=none) (hd:o.dst=some d) (hc:callee ⟨kn,gk,ow,nx⟩ c=some f) (hfn:Fn1 C.P f)
 (hargs:argsOf ⟨kn,gk,ow,nx⟩ [] c.args.toList=some (cargs.map (SV.mapK (mpK ρ n nx)))) (hfr:Bg C.N ⟨kn,gk,ow,nx⟩ d []=true)
 (hρ:ρ.length=n) (hρ1:ρ.all (fun k=>Nat.blt k nx)=true) (hρ2:apartB ρ=true)
 (hp1:ow0.all (fun x=>Nat.blt x.1 n&&x.2.inN n)=true) (hpl:pGL ow0) (hp2:ow0.map (fun x=>look ow (mpK ρ n nx x.1))=ow0.map (fun x=>some (x.2.mapK (mpK ρ n nx))))
 (hpost:∀s,pGL (post s).1) (hres:∀s,okRes (post s).2.2=true)
 (K:∀s u',u.le u'→G s→Nw u0 (dif u u') (Φ s)→XL C all r Q ⟨(d,resSV (mpK ρ n nx) (post s).2.2)::kn,gk,mergeOw ρ n nx (post s).1 ow,nx+((post s).2.1-n)⟩ u') :
 XL C all (o::r) Q ⟨kn,gk,ow,nx⟩ u:=by
 unfold XL at K ⊢
 intro E a w hok
 obtain⟨fF,hsat⟩:=hok.sat
 have hgs:gs a.tmps []:=fun x hx=>by cases hx
 have hg:Bp all ⟨kn,gk,ow,nx⟩ o=some []:=by unfold Bp;rw[hgd]
 have hgd':=guard_sound (all:=all.toArray) hok.agr (by simpa using hg)
 have hw:Region.wanted o (yielded all.toArray a.tmps)=true:=by
  cases hb:Region.wanted o (yielded all.toArray a.tmps)with
  |true=>rfl
  |false=>exact absurd hgs (hgd'.2 hb)
 unfold wpListIn
 rw[if_pos hw]
 refine⟨fun _ _=>trivial,?_⟩
 rw[semAt_eq _ _ _ (fun c' hc'=>by rw[ho]at hc';cases hc'),call_runG ho hc hfn hargs hok hgs,Oper.uponIn_enter]
 refine⟨fun h=>(by cases h),(calls_in (hsc.use hH hsat hρ hρ1 hρ2 hp1 hpl hp2 hpost)).mono ?_⟩
 rintro e w' ⟨s,E',F',u',hE',hu,⟨rfl,hk1⟩,hG,hΦ,hs'⟩
 have hnx:nx≤nx+((post s).2.1-n):=Nat.le_add_right _ _
 have hgr:=hok.agr.grow (E':=E') (ow:=mergeOw ρ n nx (post s).1 ow) (nx:=nx+((post s).2.1-n)) hE' hnx
 rw[←resSV_den (hres s)]
 have hput:Agr C.N E' (St.put ⟨kn,gk,mergeOw ρ n nx (post s).1 ow,nx+((post s).2.1-n)⟩ d [] (resSV (mpK ρ n nx) (post s).2.2)) (a.tmps.setIfInBounds d ((resSV (mpK ρ n nx) (post s).2.2).den E')):=
  hgr.put (g:=[]) hfr (fun _=>resSV_lt hk1) (fun _=>rfl) (fun hn=>absurd (fun x hx=>(by cases hx)) hn) (fun _=>rfl)
 have:=K s u' hu hG hΦ E' (a.put (some d) _) w' ⟨⟨hput.size,hput.kn,hput.gk,hput.klt,hput.glt⟩,F',hs'⟩
 rw[hd]
 exact Av (fun e a w=>Cd.mono hE' hnx hu) _ _ _ this
def argLtX (ow:Own) (n:Nat):SV→Bool
 |.e k _ i _=>match Nat.blt k n,look ow k with
  |true,some (.row _ D)=>decide (0≤i)&&decide (i<D.n)
  |_,_=>false
 |s=>argLt ow n s
theorem argLtX_lt {E:Env} {n:Nat} {u:Im} {df:List Deferred} {w:World} {F:Nat→Nat→Prop} {ow:Own} (hsat:Sat E ow n u df w F) {s:SV} (h1:argLtX ow n s=true):s.lt E n:=by
 cases s with
 |v x=>trivial
 |p k off=>
  simp only[argLtX,argLt]at h1
  split at h1
  rename_i t cs hk hl
  obtain⟨b,hb,_⟩:=hsat.holds k _ hl
  exact⟨Cp hk,_,hb⟩
  cases h1
 |r k=>
  simp only[argLtX,argLt]at h1
  split at h1
  rename_i e D hk hl
  obtain⟨A,c,hv⟩:=ownsRow_sl (hsat.holds k _ hl).1
  exact⟨Cp hk,A,_,c,hv⟩
  cases h1
 |e k sz i off=>
  simp only[argLtX]at h1
  split at h1
  rename_i e D hk hl
  simp only[Bool.and_eq_true,decide_eq_true_eq]at h1
  rcases(hsat.holds k _ hl).1.2 with⟨h2,h3⟩|⟨g,cap,cur,hv,_⟩
  have:D.n=0:=h3
  omega
  exact⟨Cp hk,_,_,_,hv,h1.1,h1.2⟩
  cases h1
 |clo f ks=>cases h1
 |tup l=>cases h1
def SCXend {σ:Type} (n:Nat) (u0 us:Im) (post:σ→Own×Nat×List SV) (G:σ→Prop) (Φ:σ→Im→Prop) (l:List SV) (st:St) (u:Im):Prop:=
 ∃s ρ,l.length=(post s).2.2.length∧Sub n ρ ⟨knOf 0 l,[],st.ow,st.nx⟩ ⟨knOf 0 (post s).2.2,[],(post s).1,(post s).2.1⟩∧l.all (argLtX st.ow st.nx)=true∧n≤(post s).2.1∧G s∧Nw u0 (dif us u) (Φ s)
theorem knOf_get:∀ {k:Nat} {ss:List SV} {j:Nat} {s:SV},ss[j]?=some s→look (knOf k ss) (k+j)=some s
 |k,[],j,s,h=>by cases h
 |k,b::t,0,s,h=>by
  simp only[List.getElem?_cons_zero,Option.some.injEq]at h
  simp only[knOf]
  rw[Ac,if_pos (Nat.add_zero k).symm,h]
 |k,b::t,j+1,s,h=>by
  simp only[knOf]
  rw[Ac,if_neg (by omega)]
  have:=knOf_get (k:=k+1) (ss:=t) (j:=j) (s:=s) (by simpa using h)
  rw[show k+1+j=k+(j+1) by omega]at this
  exact this
theorem x_scx {σ:Type} {T:TT} {P:Program} (hT:TOk P T) {f N:Nat} {fn:Func} {c:Code} (hf:P.funcs[f]?=some fn) (hb:fn.body=some c) (hN:fn.ntmps=N)
 {u0:Im} {n:Nat} {ow:Own} {args:List SV} {post:σ→Own×Nat×List SV} {G:σ→Prop} {Φ:σ→Im→Prop} (hle:Nat.ble args.length N=true) (hargs:args.all (argLtX ow n)=true)
 (h:∀u,u0.sub u→X ⟨P,none,N⟩ c (FinQ T fn.results.toList fun l st u'=>SCXend n u0 u post G Φ l st u') ⟨knOf 0 args,[],ow,n⟩ u):SCX P f u0 n ow args post G Φ:=by
 intro E w F u hH hsat
 refine(callsIn_wide (n:=0)).1 (callsIn_of_wp_marks hf hb trivial ?_ rfl)
 have hle':args.length≤N:=Nat.le_of_ble_eq_true hle
 have hlt:∀s∈args,s.lt E n:=fun s hs=>argLtX_lt hsat (List.all_eq_true.1 hargs s hs)
 have hagr:Agr N E ⟨knOf 0 args,[],ow,n⟩ ((args.map (SV.den E)).toArray++Array.replicate (fn.ntmps-((args.map (SV.den E)).toArray).size) undef):=by
  refine⟨?_,?_,fun d g s h=>(by cases h),?_,fun d g s h=>(by cases h)⟩
  rw[hN];simp;omega
  intro d s _ h2
  have h3:=(knOf_look h2).2
  rw[Nat.sub_zero]at h3
  have hd:d<args.length:=(List.getElem?_eq_some_iff.1 h3).1
  rw[Array.getElem?_append_left (by simpa using hd)]
  simp[h3]
  intro d s h2
  have h3:=(knOf_look h2).2
  exact hlt s (List.mem_of_getElem? h3)
 have hX:=h u hH
 unfold X at hX
 refine Go.wpIn_mono (hX E {tmps:=(args.map (SV.den E)).toArray++Array.replicate (fn.ntmps-((args.map (SV.den E)).toArray).size) undef,defers:=[]} w ⟨hagr,_,hsat⟩) ?_
 rintro e a' w' ⟨E',st',u',h1,h2,h3,hok',h5⟩
 obtain⟨F',hs⟩:=hok'.sat
 have fin:∀l,resV T st' fn.results.toList=some l→SCXend n u0 u post G Φ l st' u' →
  LeavesInM (FR none) 0 P fn a'.tmps (fun e w'=>∃s E' F' u',(∀k,k<n→E' k=E k)∧n≤(post s).2.1∧u.le u'∧(e=.returned (tupV ((post s).2.2.map (SV.den E')))∧∀v∈(post s).2.2,v.lt E' (post s).2.1)∧Sat E' (post s).1 (post s).2.1 u' [] w' F'∧G s∧Nw u0 (dif u u') (Φ s)) a'.defers .returning w':=by
  rintro l hl ⟨s,ρ,hll,hsub,hal,hn,hG,hΦ⟩
  obtain⟨ds,hds,_⟩:=hs.marks
  rw[hds]at hs ⊢
  refine leaves (C:=⟨P,none,N⟩) hT hok'.agr hl (fun w'' hw=>?_) ds w' hs
  have hok0:Ok ⟨P,none,l.length⟩ E' ⟨knOf 0 l,[],st'.ow,st'.nx⟩ u' {tmps:=(l.map (SV.den E')).toArray,defers:=[]} w'':=by
   refine⟨⟨by simp,fun d s _ h=>?_,fun d g s h=>(by cases h),fun d s h=>?_,fun d g s h=>(by cases h)⟩,F',hw⟩
   have h3:=(knOf_look h).2
   rw[Nat.sub_zero]at h3
   simp[h3]
   have h3:=(knOf_look h).2
   exact argLtX_lt hw (List.all_eq_true.1 hal s (List.mem_of_getElem? h3))
  obtain⟨E3,hE3,hok3⟩:=hsub.ok hok0
  obtain⟨F3,hs3⟩:=hok3.sat
  have hv:∀(j:Nat) (v:SV),(post s).2.2[j]?=some v→(l.map (SV.den E'))[j]?=some (v.den E3)∧v.lt E3 (post s).2.1:=fun j v hj=>by
   have hk:=knOf_get (k:=0) hj
   rw[Nat.zero_add]at hk
   have h7:=hok3.agr.kn j v rfl hk
   refine⟨?_,hok3.agr.klt j v hk⟩
   rw[List.getElem?_toArray]at h7
   exact h7
  have hvals:l.map (SV.den E')=(post s).2.2.map (SV.den E3):=by
   refine List.ext_getElem? (fun j=>?_)
   rcases Nat.lt_or_ge j (post s).2.2.length with hj|hj
   have hj':(post s).2.2[j]?=some (post s).2.2[j]:=List.getElem?_eq_getElem hj
   rw[(hv j _ hj').1,List.getElem?_map,hj'];rfl
   rw[List.getElem?_eq_none (by rw[List.length_map];omega),List.getElem?_eq_none (by rw[List.length_map];omega)]
  refine⟨s,E3,F3,u',fun k hk=>(hE3 k hk).trans (h1 k hk),hn,h3,⟨?_,fun v hvm=>?_⟩,hs3,hG,hΦ⟩
  rw[←hvals]
  obtain⟨j,hj⟩:=List.mem_iff_getElem?.1 hvm
  exact(hv j v hj).2
 cases e with
 |normal=>
  simp only[FinQ]at h5
  split at h5
  rename_i l hl;exact fin l hl h5
  exact h5.elim
 |ret=>
  simp only[FinQ]at h5
  split at h5
  rename_i l hl;exact fin l hl h5
  exact h5.elim
 |exit id=>exact h5.elim
 |goto l=>exact h5.elim
 |panic c=>exact h5.elim
 |outgrown=>exact h5.elim
theorem Ar {C:Cx} {all:List Oper} {o:Oper} {r:List Oper} {Q:Bb} {kn:Kn} {gk:List (Nat×(Gd×SV))} {ow:Own} {nx:Nat} {u:Im} {c:Call} (R:Value→Im→Prop) (ho:o.op=.call c) (hgd:o.guard=none) {f d:Nat} (hd:o.dst=some d)
 (hc:callee ⟨kn,gk,ow,nx⟩ c=some f) (hfn:Fn1 C.P f) {ss:List SV} (hargs:argsOf ⟨kn,gk,ow,nx⟩ [] c.args.toList=some ss) (hfr:Bg C.N ⟨kn,gk,ow,nx⟩ d []=true)
 (H:∀E w F,Sat E ow nx u [] w F→Calls C.P f (ss.map (SV.den E)).toArray w (Bc w R))
 (K:∀v u1 u',u.le u'→u1.sub (dif u u')→R v u1→XL C all r Q ⟨(d,.v v)::kn,gk,ow,nx⟩ u') :
 XL C all (o::r) Q ⟨kn,gk,ow,nx⟩ u:=by
 unfold XL at K ⊢
 intro E a w hok
 obtain⟨fF,hsat⟩:=hok.sat
 refine call_core R ho hgd hc hfn hargs H hok hsat fun v w' hbel hR=>?_
 obtain⟨u',hu,hsat',hsub⟩:=hsat.grow hbel
 have hn:(cut w.heap.size (im w')).sub (dif u u'):=⟨fun b o hb=>by
  have hb2:=(cut_sub _ _).h b o (hsub.h b o hb)
  refine dif_new ?_ hb2
  have hb:(if b<w.heap.size then none else(im w').h b)=some o:=hb
  split at hb
  cases hb
  rename_i hge
  cases hub:u.h b with
  |none=>rfl
  |some y=>exact absurd (Array.getElem?_eq_some_iff.1 (hsat.imm.h b y hub)).1 hge⟩
 have hk:=K v _ u' hu hn hR
 have hput:Agr C.N E (St.put ⟨kn,gk,ow,nx⟩ d [] (.v v)) (a.tmps.setIfInBounds d v):=
  hok.agr.put (g:=[]) hfr (fun _=>trivial) (fun _=>rfl) (fun hn=>absurd (fun x hx=>(by cases hx)) hn) (fun _=>rfl)
 have:=hk E (a.put (some d) v) w' ⟨⟨hput.size,hput.kn,hput.gk,hput.klt,hput.glt⟩,fF,hsat'⟩
 rw[hd]
 exact Av (fun e a w=>Cd.mono (fun _ _=>rfl) (Nat.le_refl _) hu) _ _ _ this
end Go.GV
namespace Go.Proofs.YtnjlkdhdinfejaaGreat
open Go.GV Go.RowKit
def vaB:ByteArray:=⟨#[95,95,86,65,95,65,82,71,83,95,95]⟩
def lastI:List ByteArray→Nat→ByteArray→Option Int→Option Int
 |[],_,_,r=>r
 |p::ps,i,x,r=>lastI ps (i+1) x (if x=p then some (i:Int)else r)
theorem lastI_snoc:∀(L:List ByteArray) (p:ByteArray) (i:Nat) (x:ByteArray) (r:Option Int),lastI (L++[p]) i x r=if x=p then some ((i+L.length:Nat):Int)else lastI L i x r
 |[],p,i,x,r=>rfl
 |q::L,p,i,x,r=>by
  rw[List.cons_append,lastI,lastI_snoc L p (i+1),lastI,List.length_cons,show i+1+L.length=i+(L.length+1) by omega]
def numP (m:MT) (x:ByteArray):Option Int:=if m.va=true∧x=vaB then some (m.ps.length:Int)else lastI m.ps 0 x none
def ItFn (m:MT) (s:MA) (v:Value) (u:Im):Prop:=∃b c bm n,v=.func (.func 155) #[] #[.pointer (some ⟨b,0,none⟩),.pointer (some ⟨c,0,none⟩)]∧u.h b=some (.cells (mCells m s).toArray 27 (0,0))∧u.h c=some (.cells #[.map (some bm)] 189 (0,0)) ∧
 MapAt u bm n (fun x=>(numP m x).map (Value.int .i64))
theorem mitemsFn_any (m:MT) (s:MA) (w:World) (hps:Aw (im w) (.slice s.1 m.ps.length s.2.1) (Bh.d m.ps)) (hz:m.ps.length≤1000000000):Calls Tryz.prog 134 #[mVal m s] w (Bc w (ItFn m s)):=by
 refine Bq Aa Tryz.func134 O O [] 0 [.v (mVal m s)] O O O O (fun b hb=>by cases hb) ?_
 refine Ao Aa ?_
 repeat refine sdI ?_
 refine xl_makeO O O O Tryz.underlying189 (fun x hx=>by cases hx;exact⟨_,_,rfl⟩) rfl (fun bm=>?_)
 refine Ab Aa ?_
 refine x_sl 12 rfl hps ?_
 refine Br (σ:=Nat×Nat) (fun(i,n)=>⟨[(14,.v (.int .i64 (i:Int))),(13,.v (.int .i64 ((m.ps.length:Nat):Int))),(12,.r 3),(3,.p 2 0),(1,.p 0 0)],[],[(0,.box 27 ((mCells m s).map .v)),(1,.gen (mapO bm n (fun x=>(lastI (m.ps.take i) 0 x none).map (Value.int .i64)))),(2,.box 189 [.v (.map (some bm))]),(3,.sl (Bh.d m.ps))],4⟩)
  (fun(i,_) _=>i≤m.ps.length) (fun(i,_)=>m.ps.length-i) (fun _=>Nat.le_refl _) (0,0) [] .z (Nat.zero_le _) ?_
 rintro⟨i,n⟩ u hu g1
 have g1:i≤m.ps.length:=g1
 refine Ao Aa ?_
 refine Ap (fun h1=>?_) (fun h1=>?_)
 have h1:(i:Int)<((m.ps.length:Nat):Int):=of_decide_eq_true h1
 obtain⟨p,hp⟩:∃p,m.ps[i]?=some p:=⟨_,List.getElem?_eq_getElem (by omega)⟩
 have hpd:m.ps.getD ((i:Nat):Int).toNat Bh.dft=p:=by rw[Int.toNat_natCast,List.getD_eq_getElem?_getD,hp];rfl
 repeat refine sdI ?_
 refine xl_setO (k:=1) O O O Tryz.underlying189 Tryz.underlying9 O O O O _ rfl (fun x=>(lastI (m.ps.take (i+1)) 0 x none).map (Value.int .i64)) (by
  funext x
  rw[hpd,Cj hp,lastI_snoc,List.length_take,Nat.zero_add,show min i m.ps.length=i by omega]
  split<;>rfl) ?_
 refine Ab Aa ?_
 repeat refine sdI ?_
 exact Bj (i+1,_) [] .z (by show i+1≤m.ps.length;omega) (by show m.ps.length-(i+1)<m.ps.length-i;omega)
 have h1:¬(i:Int)<((m.ps.length:Nat):Int):=of_decide_eq_false h1
 have hi:i=m.ps.length:=by omega
 subst hi
 have hfull:(fun x=>(lastI (m.ps.take m.ps.length) 0 x none).map (Value.int .i64))=fun x=>(lastI m.ps 0 x none).map (Value.int .i64):=by rw[List.take_length]
 have fin:∀ {E:Env} {w':World} {F:Nat→Nat→Prop} {nx:Nat} {ow:GV.Own} {u':Im} {n':Nat} {f:ByteArray→Option Value},Sat E ow nx u' [] w' F→(im w).le u'→GV.look ow 0=some (.box 27 ((mCells m s).map .v))→GV.look ow 2=some (.box 189 [.v (.map (some bm))])→GV.look ow 1=some (.gen (mapO bm n' f)) →
  f=(fun x=>(numP m x).map (Value.int .i64))→ItFn m s ((SV.clo 155 [0,2]).den E) (cut w.heap.size (im w')):=by
  intro E w' F nx ow u' n' f hs hle k0 k2 k1 hf
  obtain⟨b,b1,b2,b3⟩:=hs.holds 0 _ k0
  obtain⟨c,c1,c2,c3⟩:=hs.holds 2 _ k2
  obtain⟨d1,es,clock,d2,d3⟩:=hs.holds 1 _ k1
  have new:∀y k,F k y→w.heap.size≤y:=fun y k hy=>by
   rcases Nat.lt_or_ge y w.heap.size with hlt|hge
   have h9:=hle.h y _ (Array.getElem?_eq_getElem hlt)
   rw[hs.off k y hy]at h9;cases h9
   exact hge
  have cutE:∀y o k,F k y→w'.heap[y]?=some o→(cut w.heap.size (im w')).h y=some o:=fun y o k hy ho=>by
   show(if y<w.heap.size then none else w'.heap[y]?)=_
   rw[if_neg (by have:=new y k hy;omega),ho]
  refine⟨b,c,bm,n',?_,cutE b _ 0 ((b2 b).2 rfl) (by rw[b3];rfl),cutE c _ 2 ((c2 c).2 rfl) (by rw[c3];rfl),es,clock,cutE bm _ 1 ((d1 bm).2 rfl) d2,by rw[←hf];exact d3⟩
  simp[SV.den,ptrOf,b1,c1]
 refine Ap (fun h2=>?_) (fun h2=>?_)
 have h2:m.va=true:=h2
 refine xl_setO (k:=1) O O O Tryz.underlying189 Tryz.underlying9 O O O O _ rfl (fun x=>(numP m x).map (Value.int .i64)) (by
  funext x
  rw[List.take_length]
  unfold numP
  show(if x=vaB then some (Value.int .i64 (m.ps.length:Int))else _)=_
  by_cases e:x=vaB
  rw[if_pos e,if_pos ⟨h2,e⟩];rfl
  rw[if_neg e,if_neg (fun hh=>e hh.2)]) ?_
 refine Ab Aa ?_
 exact finP (fun E w' F hs hle=>fin hs hle O O O O)
 have h2:m.va=false:=h2
 exact finP (fun E w' F hs hle=>fin hs hle O O O (by
  rw[hfull]
  funext x
  unfold numP
  rw[if_neg (fun hh=>by rw[h2]at hh;exact absurd hh.1 (by decide))]))
end Go.Proofs.YtnjlkdhdinfejaaGreat
namespace Go.GV
open Go.RowKit
theorem Sat.boxEq {E:Env} {o:Own} {nx:Nat} {u:Im} {df:List Deferred} {w:World} {f:Nat→Nat→Prop} (h:Sat E o nx u df w f) {k t:Nat} {cs0 cs1:List SV} (hk:look o k=some (.box t cs0))
 (hd:cs1.map (SV.den E)=cs0.map (SV.den E)) (hl:∀s∈cs1,s.lt E nx):Sat E ((k,.box t cs1)::o) nx u df w f:=by
 refine h.step (fun j=>j=k) (fun _ _=>rfl) (Nat.le_refl _) (Im.le.refl u) h.imm (Nat.le_refl _) (fun _ _ _=>rfl) ?_ ?_ ?_ (fun b o ho=>.inl ho)
 intro j hj
 exact⟨by rw[Ac,if_neg (Ne.symm hj)],fun b=>Iff.rfl⟩
 rintro j rfl
 refine⟨fun r hr=>?_,fun hr=>?_,fun b hb=>?_⟩
 rw[Ac,if_pos rfl]at hr
 cases hr
 obtain⟨b,h1,h2,h3⟩:=h.holds j _ hk
 exact⟨⟨b,h1,h2,by rw[h3,hd]⟩,(h.lt j _ hk).1,hl⟩
 rw[Ac,if_pos rfl]at hr;cases hr
 exact⟨.inl ⟨j,rfl,hb⟩,h.off j b hb⟩
 intro j j' b hj hj' hne;subst hj hj';exact absurd rfl hne
theorem Sat.unparkB {E:Env} {ow:Own} {nx:Nat} {u:Im} {df:List Deferred} {w:World} {f:Nat→Nat→Prop} (h:Sat E ow nx u df w f) (k s i:Nat) {t:Nat} {cs ds:List SV} {sl:List SI} {p:SI}
 (hk:look ow k=some (.box t (cs++.v p.x::ds))) (hs:look ow s=some (.gen (Bx sl))) (hi:sl[i]?=some p) :
 ∃f',Sat (upd E nx p.x) ((k,.box t (cs++.r nx::ds))::(nx,.row p.e p.D)::(s,.gen (Bx (sl.set i SI.hole)))::ow) (nx+1) u df w f':=by
 have hp:=(h.holds s _ hs).1 p (List.mem_of_getElem? hi)
 have hks:k≠s:=fun e=>by rw[e,hs]at hk;cases hk
 have hkn:k≠nx:=fun e=>by have:=(h.lt k _ hk).1;omega
 have h1:=h.unpark hs hi
 refine⟨_,h1.boxEq (k:=k) (t:=t) (cs0:=cs++.v p.x::ds) (by rw[Ac,if_neg (Ne.symm hkn),Ac,if_neg (Ne.symm hks)];exact hk) ?_ ?_⟩
 simp only[List.map_append,List.map_cons]
 rw[show(SV.r nx).den (upd E nx p.x)=(SV.v p.x).den (upd E nx p.x)from by simp only[SV.den,Ak]]
 intro x hx
 have hlt:=(h1.lt k (.box t (cs++.v p.x::ds)) (by rw[Ac,if_neg (Ne.symm hkn),Ac,if_neg (Ne.symm hks)];exact hk)).2
 rcases List.mem_append.1 hx with hx|hx
 exact hlt x (List.mem_append_left _ hx)
 rcases List.mem_cons.1 hx with rfl|hx
 obtain⟨A,c,hv⟩:=ownsRow_sl hp
 exact⟨Nat.lt_succ_self _,A,_,c,by rw[Ak];exact hv⟩
 exact hlt x (List.mem_append_right _ (List.mem_cons_of_mem _ hx))
theorem x_unparkB {C:Cx} {cc:Code} {Q:Bb} {kn:Kn} {gk:List (Nat×(Gd×SV))} {ow:Own} {nx:Nat} {u:Im} (k s i:Nat) {t:Nat} (cs ds:List SV) {sl:List SI} {p:SI}
 (hk:look ow k=some (.box t (cs++.v p.x::ds))) (hs:look ow s=some (.gen (Bx sl))) (hi:sl[i]?=some p)
 (K:X C cc Q ⟨kn,gk,(k,.box t (cs++.r nx::ds))::(nx,.row p.e p.D)::(s,.gen (Bx (sl.set i SI.hole)))::ow,nx+1⟩ u):X C cc Q ⟨kn,gk,ow,nx⟩ u:=by
 unfold X at K ⊢
 intro E a w hok
 obtain⟨f,hsat⟩:=hok.sat
 obtain⟨f',h2⟩:=hsat.unparkB k s i hk hs hi
 have hE:∀j,j<nx→upd E nx p.x j=E j:=fun j hj=>An _ _ (by omega)
 have hg:=hok.agr.grow (E':=upd E nx p.x) (ow:=(k,.box t (cs++.r nx::ds))::(nx,.row p.e p.D)::(s,.gen (Bx (sl.set i SI.hole)))::ow) (nx:=nx+1) hE (Nat.le_succ _)
 have:=K (upd E nx p.x) a w ⟨⟨hg.size,hg.kn,hg.gk,hg.klt,hg.glt⟩,f',h2⟩
 exact Go.wpIn_mono this (fun e a w=>Cd.mono hE (Nat.le_succ _) (Im.le.refl u))
section any
variable {ro:Option Nat} {P:Program} {ops:Array Oper} {md:Region.Mode} {Y:Oper→Value→Act→Prop}
end any
end Go.GV
namespace Go.Proofs.YtnjlkdhdinfejaaGreat
open Go.GV Go.RowKit
abbrev bolY:Lay Bool:=⟨[fun b=>.bool b],false⟩
theorem itOne:∀x:IV,∀y∈itmY.el x,oneB y=true:=by
 intro t y hy
 rw[show itmY.el t=itC t from rfl]at hy
 simp only[itC,List.mem_cons,List.not_mem_nil,or_false]at hy
 rcases hy with rfl|rfl|rfl|rfl|rfl|rfl|rfl|rfl<;>rfl
def useIt (U:List Bool) (t:IV):List Bool:=if(decide (0≤t.param)&&!t.made)&&!t.raw then U.set t.param.toNat true else U
def usedL (n:Nat) (L:List IV):List Bool:=L.foldl useIt (List.replicate (n+1) false)
theorem useIt_len (U:List Bool) (t:IV):(useIt U t).length=U.length:=by
 unfold useIt;split<;>simp
theorem usedL_len (n:Nat) (L:List IV):(usedL n L).length=n+1:=by
 unfold usedL
 have:∀(L:List IV) (U:List Bool),(L.foldl useIt U).length=U.length:=by
  intro L
  induction L with
  |nil=>intro U;rfl
  |cons t L ih=>intro U;rw[List.foldl_cons,ih,useIt_len]
 rw[this,List.length_replicate]
theorem lastI_le:∀(L:List ByteArray) (i:Nat) (x:ByteArray) (r:Option Int) (v:Int),lastI L i x r=some v→r=some v∨((i:Int)≤v∧v<(i:Int)+(L.length:Int))
 |[],i,x,r,v,h=>.inl h
 |p::L,i,x,r,v,h=>by
  rw[lastI]at h
  rw[List.length_cons]
  rcases lastI_le L (i+1) x _ v h with h1|h1
  by_cases e:x=p
  rw[if_pos e]at h1
  have:(i:Int)=v:=Option.some.inj h1
  right;omega
  rw[if_neg e]at h1;exact .inl h1
  right;omega
theorem numP_le (m:MT) (x:ByteArray) (v:Int) (h:numP m x=some v):0≤v∧v≤(m.ps.length:Int):=by
 unfold numP at h
 split at h
 have:=Option.some.inj h;omega
 rcases lastI_le _ _ _ _ _ h with h1|h1
 cases h1
 omega
theorem itF_param (fn:Bool) (num:ByteArray→Option Int) (B:List PV):∀(n i:Nat) (p:Bool) (t:IV),t∈itF fn num B n i p→t.param=-1∨∃x,num x=some t.param
 |0,_,_,t,h=>by cases h
 |n+1,i,p,t,h=>by
  have one:∀(a b:PV) (c d:Bool) (j:Nat),t=mkIt num B a b c d j→t.param=-1∨∃x,num x=some t.param:=by
   rintro a b c d j rfl
   show(if b.kind=1 then(num b.text).getD (-1)else -1)=-1∨∃x,num x=some (if b.kind=1 then(num b.text).getD (-1)else -1)
   split
   cases e:num b.text with
   |none=>left;rfl
   |some v=>right;exact⟨b.text,e⟩
   left;rfl
  rw[itF]at h
  split at h
  split at h
  exact itF_param fn num B n _ _ t h
  split at h
  rcases List.mem_cons.1 h with h|h
  exact one _ _ _ _ _ h
  exact itF_param fn num B n _ _ t h
  rcases List.mem_cons.1 h with h|h
  exact one _ _ _ _ _ h
  exact itF_param fn num B n _ _ t h
  cases h
theorem itF_len (fn:Bool) (num:ByteArray→Option Int) (B:List PV):∀(n i:Nat) (p:Bool),(itF fn num B n i p).length≤n
 |0,_,_=>Nat.le_refl _
 |n+1,i,p=>by
  rw[itF]
  split
  split
  exact Nat.le_succ_of_le (itF_len fn num B n _ _)
  split
  exact Nat.succ_le_succ (itF_len fn num B n _ _)
  exact Nat.succ_le_succ (itF_len fn num B n _ _)
  exact Nat.zero_le _
theorem items_param (m:MT) {t:IV} (h:t∈itemsL m.fn (numP m) m.body):t.param≤(m.ps.length:Int):=by
 rcases itF_param _ _ _ _ _ _ _ h with e|⟨x,e⟩
 omega
 exact(numP_le m x _ e).2
theorem usedL_step (n:Nat) (L:List IV) {k:Nat} {t:IV} (h:L[k]?=some t):usedL n (L.take (k+1))=useIt (usedL n (L.take k)) t:=by
 unfold usedL
 rw[Cj h,List.foldl_append];rfl
def tblXY:Tbl:=[([],[0,1,5]),([0],[1,5]),([1],[0,2,5]),([5],[0,1,6]),([0,1],[2,5]),([0,5],[1,6]),([1,2],[0,3,5]),([1,5],[0,2,6]),([5,6],[0,1]),([0,1,2],[3,5]),([0,1,5],[2,6]),([0,5,6],[1]),([1,2,3],[0,4,5]),([1,2,5],[0,3,6]),([1,5,6],[0,2]),([0,1,2,3],[4,5]),([0,1,2,5],[3,6]),([0,1,5,6],[2]),([1,2,3,4],[0,5]),([1,2,3,5],[0,4,6]),([1,2,5,6],[0,3]),([0,1,2,3,4],[5]),([0,1,2,3,5],[4,6]),([0,1,2,5,6],[3]),([1,2,3,4,5],[0,6]),([1,2,3,5,6],[0,4]),([0,1,2,3,4,5],[6]),([0,1,2,3,5,6],[4]),([1,2,3,4,5,6],[0,7]),([0,1,2,3,4,5,6],[7]),([1,2,3,4,5,6,7],[0]),([0,1,2,3,4,5,6,7],[8])]
structure PlanAt (u:Im) (ad:Addr) (id:Nat) (m:MT) (s:MA) (I:List IV) (U:List Bool):Prop where
 it:∃b xi xu,ad=⟨b,0,none⟩∧u.h b=some (.cells (mCells m s++[.int .i64 (id:Int),xi,xu]).toArray 156 (0,0))∧Aw u xi (itmY.d I)∧Aw u xu (bolY.d U)
theorem PlanAt.sub {u u':Im} {ad:Addr} {id:Nat} {m:MT} {s:MA} {I:List IV} {U:List Bool} (h:PlanAt u ad id m s I U) (hu:u.sub u'):PlanAt u' ad id m s I U:=by
 obtain⟨b,xi,xu,h1,h2,h3,h4⟩:=h.it
 exact⟨b,xi,xu,h1,hu.h _ _ h2,h3.sub hu,h4.sub hu⟩
theorem planned_any (m:MT) (s:MA) (id:Nat) (w:World) (hps:Aw (im w) (.slice s.1 m.ps.length s.2.1) (Bh.d m.ps)) (hB:Aw (im w) (.slice s.2.2.1 m.body.length s.2.2.2) (pvY.d m.body)) (hok:bodyOk m.fn m.body)
 (hz:m.ps.length≤1000000000) (hz2:m.body.length≤1000000000) :
 Calls Tryz.prog 99 #[mVal m s,.int .i64 (id:Int)] w (Bc w fun v u1=>∃ad,v=.pointer (some ad)∧PlanAt u1 ad id m s (itemsL m.fn (numP m) m.body) (usedL m.ps.length (itemsL m.fn (numP m) m.body))):=by
 refine Bq Aa Tryz.func99 O O [] 0 [.v (mVal m s),.v (.int .i64 (id:Int))] O O O O (fun b hb=>by cases hb) ?_
 refine Az (Ao Aa ?_)
 refine Az ?_
 refine x_via (σ:=Option Addr×Nat) (fun(A,c)=>⟨[(5,.p 3 0),(2,.p 0 0)],[],[(0,.box 27 ((mCells m s).map .v)),(1,.gen (Bx [⟨.slice A (bolY.d (List.replicate (m.ps.length+1) false)).n c,4,bolY.d (List.replicate (m.ps.length+1) false)⟩])),(2,.box 156 ((mCells m s++[.int .i64 (id:Int),.slice none 0 0,.slice A (bolY.d (List.replicate (m.ps.length+1) false)).n c]:List Value).map .v)),(3,.box 151 [.p 2 0])],6⟩)
  (fun _ _=>True) (fun _=>by show 1≤6;omega) ?_ ?_
 refine Bw mix ?_
 refine xa_pures Aa (fuel:=9) [1,2] rfl (by kernel_rfl) (by kernel_rfl) (fun _ _ _ hh=>hh) (by kernel_rfl) (by kernel_rfl) ?_
 refine xa_three 0 3 9 (by kernel_rfl) O O O ?_ ?_ ?_
 refine Ab Aa ?_
 refine Aq 3 9 (by kernel_rfl) O O ?_ ?_
 refine Ab Aa ?_
 refine Aq 4 9 (by kernel_rfl) O O ?_ ?_
 refine Ab Aa ?_
 refine Aq 5 9 (by kernel_rfl) O O ?_ ?_
 refine Ab Aa ?_
 repeat refine sdI ?_
 refine Aq 6 9 (by kernel_rfl) O O ?_ ?_
 refine Bz Aa bolY false (.bool false) 1 (m.ps.length+1) O O O O O O O O O O (by kernel_rfl) O O O (by omega) (by omega) ?_
 refine Ce 0 ?_
 refine By 1 2 O O (fun A c=>?_)
 refine Ad ?_
 refine Aq 7 9 (by kernel_rfl) O O ?_ ?_
 refine Ab Aa ?_
 refine Aq 8 9 (by kernel_rfl) O O ?_ ?_
 refine Ab Aa ?_
 refine Ae (fuel:=0) [9,10] O O (by kernel_rfl) (Ab Aa ?_)
 refine Aj (by kernel_rfl) rfl ?_
 exact Af (A,c) [(1,some 2),(2,some 3),(3,some 4)] .z trivial
 refine Ab Aa ?_
 refine Ae (fuel:=0) [8,10] O O (by kernel_rfl) (Ab Aa ?_)
 refine Aj (by kernel_rfl) rfl ?_
 exact Af (A,c) [(1,some 2),(2,some 4)] .z trivial
 refine Ab Aa ?_
 refine Ae (fuel:=0) [7,8,10] O O (by kernel_rfl) (Ab Aa ?_)
 refine Aj (by kernel_rfl) rfl ?_
 exact Af (A,c) [(1,some 2),(2,some 4)] .z trivial
 refine Ab Aa ?_
 refine Ag 6 (by kernel_rfl) rfl ?_
 refine Bz Aa bolY false (.bool false) 1 (m.ps.length+1) O O O O O O O O O O (by kernel_rfl) O O O (by omega) (by omega) ?_
 refine Ce 0 ?_
 refine By 2 3 O O (fun A c=>?_)
 refine Ad ?_
 refine Ae (fuel:=0) [7,8,10] O O (by kernel_rfl) (Ab Aa ?_)
 refine Aj (by kernel_rfl) rfl ?_
 exact Af (A,c) [(1,some 3),(2,some 4),(3,some 1)] .z trivial
 refine Ab Aa ?_
 refine Ae (fuel:=4) [5] O O (by kernel_rfl) (Ab Aa ?_)
 repeat refine sdI ?_
 refine Ag 6 (by kernel_rfl) rfl ?_
 refine Bz Aa bolY false (.bool false) 1 (m.ps.length+1) O O O O O O O O O O (by kernel_rfl) O O O (by omega) (by omega) ?_
 refine Ce 0 ?_
 refine By 2 3 O O (fun A c=>?_)
 refine Ad ?_
 refine Ae (fuel:=0) [7,8,10] O O (by kernel_rfl) (Ab Aa ?_)
 refine Aj (by kernel_rfl) rfl ?_
 exact Af (A,c) [(1,some 3),(2,some 4),(3,some 1)] .z trivial
 refine Ab Aa ?_
 refine Ae (fuel:=4) [4,5] O O (by kernel_rfl) (Ab Aa ?_)
 repeat refine sdI ?_
 refine Ag 6 (by kernel_rfl) rfl ?_
 refine Bz Aa bolY false (.bool false) 1 (m.ps.length+1) O O O O O O O O O O (by kernel_rfl) O O O (by omega) (by omega) ?_
 refine Ce 0 ?_
 refine By 2 3 O O (fun A c=>?_)
 refine Ad ?_
 refine Ae (fuel:=0) [7,8,10] O O (by kernel_rfl) (Ab Aa ?_)
 refine Aj (by kernel_rfl) rfl ?_
 exact Af (A,c) [(1,some 3),(2,some 4),(3,some 1)] .z trivial
 refine Ab Aa ?_
 refine Ae (fuel:=4) [3,4,5] O O (by kernel_rfl) (Ab Aa ?_)
 repeat refine sdI ?_
 refine Ag 6 (by kernel_rfl) rfl ?_
 refine Bz Aa bolY false (.bool false) 1 (m.ps.length+1) O O O O O O O O O O (by kernel_rfl) O O O (by omega) (by omega) ?_
 refine Ce 0 ?_
 refine By 2 3 O O (fun A c=>?_)
 refine Ad ?_
 refine Ae (fuel:=0) [7,8,10] O O (by kernel_rfl) (Ab Aa ?_)
 refine Aj (by kernel_rfl) rfl ?_
 exact Af (A,c) [(1,some 3),(2,some 4),(3,some 1)] .z trivial
 refine Ab Aa ?_
 refine xa_three 0 4 9 (by kernel_rfl) O O O ?_ ?_ ?_
 refine Ab Aa ?_
 refine Aq 4 9 (by kernel_rfl) O O ?_ ?_
 refine Ab Aa ?_
 refine Aq 5 9 (by kernel_rfl) O O ?_ ?_
 refine Ab Aa ?_
 repeat refine sdI ?_
 refine Aq 6 9 (by kernel_rfl) O O ?_ ?_
 refine Bz Aa bolY false (.bool false) 1 (m.ps.length+1) O O O O O O O O O O (by kernel_rfl) O O O (by omega) (by omega) ?_
 refine Ce 0 ?_
 refine By 1 2 O O (fun A c=>?_)
 refine Ad ?_
 refine Aq 7 9 (by kernel_rfl) O O ?_ ?_
 refine Ab Aa ?_
 refine Aq 8 9 (by kernel_rfl) O O ?_ ?_
 refine Ab Aa ?_
 refine Ae (fuel:=0) [9,10] O O (by kernel_rfl) (Ab Aa ?_)
 refine Aj (by kernel_rfl) rfl ?_
 exact Af (A,c) [(1,some 2),(2,some 3),(3,some 4)] .z trivial
 refine Ab Aa ?_
 refine Ae (fuel:=0) [8,10] O O (by kernel_rfl) (Ab Aa ?_)
 refine Aj (by kernel_rfl) rfl ?_
 exact Af (A,c) [(1,some 2),(2,some 4)] .z trivial
 refine Ab Aa ?_
 refine Ae (fuel:=0) [7,8,10] O O (by kernel_rfl) (Ab Aa ?_)
 refine Aj (by kernel_rfl) rfl ?_
 exact Af (A,c) [(1,some 2),(2,some 4)] .z trivial
 refine Ab Aa ?_
 refine Ag 6 (by kernel_rfl) rfl ?_
 refine Bz Aa bolY false (.bool false) 1 (m.ps.length+1) O O O O O O O O O O (by kernel_rfl) O O O (by omega) (by omega) ?_
 refine Ce 0 ?_
 refine By 2 3 O O (fun A c=>?_)
 refine Ad ?_
 refine Ae (fuel:=0) [7,8,10] O O (by kernel_rfl) (Ab Aa ?_)
 refine Aj (by kernel_rfl) rfl ?_
 exact Af (A,c) [(1,some 3),(2,some 4),(3,some 1)] .z trivial
 refine Ab Aa ?_
 refine Ae (fuel:=4) [5] O O (by kernel_rfl) (Ab Aa ?_)
 repeat refine sdI ?_
 refine Ag 6 (by kernel_rfl) rfl ?_
 refine Bz Aa bolY false (.bool false) 1 (m.ps.length+1) O O O O O O O O O O (by kernel_rfl) O O O (by omega) (by omega) ?_
 refine Ce 0 ?_
 refine By 2 3 O O (fun A c=>?_)
 refine Ad ?_
 refine Ae (fuel:=0) [7,8,10] O O (by kernel_rfl) (Ab Aa ?_)
 refine Aj (by kernel_rfl) rfl ?_
 exact Af (A,c) [(1,some 3),(2,some 4),(3,some 1)] .z trivial
 refine Ab Aa ?_
 refine Ae (fuel:=4) [4,5] O O (by kernel_rfl) (Ab Aa ?_)
 repeat refine sdI ?_
 refine Ag 6 (by kernel_rfl) rfl ?_
 refine Bz Aa bolY false (.bool false) 1 (m.ps.length+1) O O O O O O O O O O (by kernel_rfl) O O O (by omega) (by omega) ?_
 refine Ce 0 ?_
 refine By 2 3 O O (fun A c=>?_)
 refine Ad ?_
 refine Ae (fuel:=0) [7,8,10] O O (by kernel_rfl) (Ab Aa ?_)
 refine Aj (by kernel_rfl) rfl ?_
 exact Af (A,c) [(1,some 3),(2,some 4),(3,some 1)] .z trivial
 refine Ab Aa ?_
 refine xa_three 0 5 9 (by kernel_rfl) O O O ?_ ?_ ?_
 refine Ab Aa ?_
 refine Aq 5 9 (by kernel_rfl) O O ?_ ?_
 refine Ab Aa ?_
 repeat refine sdI ?_
 refine Aq 6 9 (by kernel_rfl) O O ?_ ?_
 refine Bz Aa bolY false (.bool false) 1 (m.ps.length+1) O O O O O O O O O O (by kernel_rfl) O O O (by omega) (by omega) ?_
 refine Ce 0 ?_
 refine By 1 2 O O (fun A c=>?_)
 refine Ad ?_
 refine Aq 7 9 (by kernel_rfl) O O ?_ ?_
 refine Ab Aa ?_
 refine Aq 8 9 (by kernel_rfl) O O ?_ ?_
 refine Ab Aa ?_
 refine Ae (fuel:=0) [9,10] O O (by kernel_rfl) (Ab Aa ?_)
 refine Aj (by kernel_rfl) rfl ?_
 exact Af (A,c) [(1,some 2),(2,some 3),(3,some 4)] .z trivial
 refine Ab Aa ?_
 refine Ae (fuel:=0) [8,10] O O (by kernel_rfl) (Ab Aa ?_)
 refine Aj (by kernel_rfl) rfl ?_
 exact Af (A,c) [(1,some 2),(2,some 4)] .z trivial
 refine Ab Aa ?_
 refine Ae (fuel:=0) [7,8,10] O O (by kernel_rfl) (Ab Aa ?_)
 refine Aj (by kernel_rfl) rfl ?_
 exact Af (A,c) [(1,some 2),(2,some 4)] .z trivial
 refine Ab Aa ?_
 refine Ag 6 (by kernel_rfl) rfl ?_
 refine Bz Aa bolY false (.bool false) 1 (m.ps.length+1) O O O O O O O O O O (by kernel_rfl) O O O (by omega) (by omega) ?_
 refine Ce 0 ?_
 refine By 2 3 O O (fun A c=>?_)
 refine Ad ?_
 refine Ae (fuel:=0) [7,8,10] O O (by kernel_rfl) (Ab Aa ?_)
 refine Aj (by kernel_rfl) rfl ?_
 exact Af (A,c) [(1,some 3),(2,some 4),(3,some 1)] .z trivial
 refine Ab Aa ?_
 refine Ae (fuel:=4) [5] O O (by kernel_rfl) (Ab Aa ?_)
 repeat refine sdI ?_
 refine Ag 6 (by kernel_rfl) rfl ?_
 refine Bz Aa bolY false (.bool false) 1 (m.ps.length+1) O O O O O O O O O O (by kernel_rfl) O O O (by omega) (by omega) ?_
 refine Ce 0 ?_
 refine By 2 3 O O (fun A c=>?_)
 refine Ad ?_
 refine Ae (fuel:=0) [7,8,10] O O (by kernel_rfl) (Ab Aa ?_)
 refine Aj (by kernel_rfl) rfl ?_
 exact Af (A,c) [(1,some 3),(2,some 4),(3,some 1)] .z trivial
 refine Ab Aa ?_
 repeat refine sdI ?_
 refine xa_three 0 6 9 (by kernel_rfl) O O O ?_ ?_ ?_
 refine Ab Aa ?_
 refine Aq 6 9 (by kernel_rfl) O O ?_ ?_
 refine Bz Aa bolY false (.bool false) 1 (m.ps.length+1) O O O O O O O O O O (by kernel_rfl) O O O (by omega) (by omega) ?_
 refine Ce 0 ?_
 refine By 1 2 O O (fun A c=>?_)
 refine Ad ?_
 refine Aq 7 9 (by kernel_rfl) O O ?_ ?_
 refine Ab Aa ?_
 refine Aq 8 9 (by kernel_rfl) O O ?_ ?_
 refine Ab Aa ?_
 refine Ae (fuel:=0) [9,10] O O (by kernel_rfl) (Ab Aa ?_)
 refine Aj (by kernel_rfl) rfl ?_
 exact Af (A,c) [(1,some 2),(2,some 3),(3,some 4)] .z trivial
 refine Ab Aa ?_
 refine Ae (fuel:=0) [8,10] O O (by kernel_rfl) (Ab Aa ?_)
 refine Aj (by kernel_rfl) rfl ?_
 exact Af (A,c) [(1,some 2),(2,some 4)] .z trivial
 refine Ab Aa ?_
 refine Ae (fuel:=0) [7,8,10] O O (by kernel_rfl) (Ab Aa ?_)
 refine Aj (by kernel_rfl) rfl ?_
 exact Af (A,c) [(1,some 2),(2,some 4)] .z trivial
 refine Ab Aa ?_
 refine Ag 6 (by kernel_rfl) rfl ?_
 refine Bz Aa bolY false (.bool false) 1 (m.ps.length+1) O O O O O O O O O O (by kernel_rfl) O O O (by omega) (by omega) ?_
 refine Ce 0 ?_
 refine By 2 3 O O (fun A c=>?_)
 refine Ad ?_
 refine Ae (fuel:=0) [7,8,10] O O (by kernel_rfl) (Ab Aa ?_)
 refine Aj (by kernel_rfl) rfl ?_
 exact Af (A,c) [(1,some 3),(2,some 4),(3,some 1)] .z trivial
 refine Bz Aa bolY false (.bool false) 1 (m.ps.length+1) O O O O O O O O O O (by kernel_rfl) O O O (by omega) (by omega) ?_
 refine Ce 0 ?_
 refine By 1 2 O O (fun A c=>?_)
 refine Ad ?_
 refine Aq 0 9 (by kernel_rfl) O O ?_ ?_
 refine Ab Aa ?_
 refine Aq 7 9 (by kernel_rfl) O O ?_ ?_
 refine Ab Aa ?_
 refine Aq 8 9 (by kernel_rfl) O O ?_ ?_
 refine Ab Aa ?_
 refine Ae (fuel:=0) [9,10] O O (by kernel_rfl) (Ab Aa ?_)
 refine Aj (by kernel_rfl) rfl ?_
 exact Af (A,c) [(1,some 2),(2,some 3),(3,some 4)] .z trivial
 refine Ab Aa ?_
 refine Ae (fuel:=0) [8,10] O O (by kernel_rfl) (Ab Aa ?_)
 refine Aj (by kernel_rfl) rfl ?_
 exact Af (A,c) [(1,some 2),(2,some 4)] .z trivial
 refine Ab Aa ?_
 refine Ae (fuel:=0) [7,8,10] O O (by kernel_rfl) (Ab Aa ?_)
 refine Aj (by kernel_rfl) rfl ?_
 exact Af (A,c) [(1,some 2),(2,some 4)] .z trivial
 refine Ab Aa ?_
 refine Ae (fuel:=0) [0,7,8,10] O O (by kernel_rfl) (Ab Aa ?_)
 refine Aj (by kernel_rfl) rfl ?_
 exact Af (A,c) [(1,some 2),(2,some 4)] .z trivial
 refine Ab Aa ?_
 refine Aq 0 6 (by kernel_rfl) O O ?_ ?_
 refine Ab Aa ?_
 refine Ag 6 (by kernel_rfl) rfl ?_
 refine Bz Aa bolY false (.bool false) 1 (m.ps.length+1) O O O O O O O O O O (by kernel_rfl) O O O (by omega) (by omega) ?_
 refine Ce 0 ?_
 refine By 2 3 O O (fun A c=>?_)
 refine Ad ?_
 refine Ae (fuel:=0) [7,8,10] O O (by kernel_rfl) (Ab Aa ?_)
 refine Aj (by kernel_rfl) rfl ?_
 exact Af (A,c) [(1,some 3),(2,some 4),(3,some 1)] .z trivial
 refine Bz Aa bolY false (.bool false) 1 (m.ps.length+1) O O O O O O O O O O (by kernel_rfl) O O O (by omega) (by omega) ?_
 refine Ce 0 ?_
 refine By 2 3 O O (fun A c=>?_)
 refine Ad ?_
 refine Ae (fuel:=0) [0,7,8,10] O O (by kernel_rfl) (Ab Aa ?_)
 refine Aj (by kernel_rfl) rfl ?_
 exact Af (A,c) [(1,some 3),(2,some 4),(3,some 1)] .z trivial
 refine Ab Aa ?_
 refine Aq 0 5 (by kernel_rfl) O O ?_ ?_
 refine Ab Aa ?_
 refine Ae (fuel:=4) [5] O O (by kernel_rfl) (Ab Aa ?_)
 repeat refine sdI ?_
 refine Ag 6 (by kernel_rfl) rfl ?_
 refine Bz Aa bolY false (.bool false) 1 (m.ps.length+1) O O O O O O O O O O (by kernel_rfl) O O O (by omega) (by omega) ?_
 refine Ce 0 ?_
 refine By 2 3 O O (fun A c=>?_)
 refine Ad ?_
 refine Ae (fuel:=0) [7,8,10] O O (by kernel_rfl) (Ab Aa ?_)
 refine Aj (by kernel_rfl) rfl ?_
 exact Af (A,c) [(1,some 3),(2,some 4),(3,some 1)] .z trivial
 refine Ab Aa ?_
 repeat refine sdI ?_
 refine Aq 0 6 (by kernel_rfl) O O ?_ ?_
 refine Ab Aa ?_
 refine Ag 6 (by kernel_rfl) rfl ?_
 refine Bz Aa bolY false (.bool false) 1 (m.ps.length+1) O O O O O O O O O O (by kernel_rfl) O O O (by omega) (by omega) ?_
 refine Ce 0 ?_
 refine By 2 3 O O (fun A c=>?_)
 refine Ad ?_
 refine Ae (fuel:=0) [7,8,10] O O (by kernel_rfl) (Ab Aa ?_)
 refine Aj (by kernel_rfl) rfl ?_
 exact Af (A,c) [(1,some 3),(2,some 4),(3,some 1)] .z trivial
 refine Bz Aa bolY false (.bool false) 1 (m.ps.length+1) O O O O O O O O O O (by kernel_rfl) O O O (by omega) (by omega) ?_
 refine Ce 0 ?_
 refine By 2 3 O O (fun A c=>?_)
 refine Ad ?_
 refine Ae (fuel:=0) [0,7,8,10] O O (by kernel_rfl) (Ab Aa ?_)
 refine Aj (by kernel_rfl) rfl ?_
 exact Af (A,c) [(1,some 3),(2,some 4),(3,some 1)] .z trivial
 refine Ab Aa ?_
 refine Aq 0 4 (by kernel_rfl) O O ?_ ?_
 refine Ab Aa ?_
 refine Ae (fuel:=4) [4,5] O O (by kernel_rfl) (Ab Aa ?_)
 repeat refine sdI ?_
 refine Ag 6 (by kernel_rfl) rfl ?_
 refine Bz Aa bolY false (.bool false) 1 (m.ps.length+1) O O O O O O O O O O (by kernel_rfl) O O O (by omega) (by omega) ?_
 refine Ce 0 ?_
 refine By 2 3 O O (fun A c=>?_)
 refine Ad ?_
 refine Ae (fuel:=0) [7,8,10] O O (by kernel_rfl) (Ab Aa ?_)
 refine Aj (by kernel_rfl) rfl ?_
 exact Af (A,c) [(1,some 3),(2,some 4),(3,some 1)] .z trivial
 refine Ab Aa ?_
 refine Aq 0 5 (by kernel_rfl) O O ?_ ?_
 refine Ab Aa ?_
 refine Ae (fuel:=4) [5] O O (by kernel_rfl) (Ab Aa ?_)
 repeat refine sdI ?_
 refine Ag 6 (by kernel_rfl) rfl ?_
 refine Bz Aa bolY false (.bool false) 1 (m.ps.length+1) O O O O O O O O O O (by kernel_rfl) O O O (by omega) (by omega) ?_
 refine Ce 0 ?_
 refine By 2 3 O O (fun A c=>?_)
 refine Ad ?_
 refine Ae (fuel:=0) [7,8,10] O O (by kernel_rfl) (Ab Aa ?_)
 refine Aj (by kernel_rfl) rfl ?_
 exact Af (A,c) [(1,some 3),(2,some 4),(3,some 1)] .z trivial
 refine Ab Aa ?_
 repeat refine sdI ?_
 refine Aq 0 6 (by kernel_rfl) O O ?_ ?_
 refine Ab Aa ?_
 refine Ag 6 (by kernel_rfl) rfl ?_
 refine Bz Aa bolY false (.bool false) 1 (m.ps.length+1) O O O O O O O O O O (by kernel_rfl) O O O (by omega) (by omega) ?_
 refine Ce 0 ?_
 refine By 2 3 O O (fun A c=>?_)
 refine Ad ?_
 refine Ae (fuel:=0) [7,8,10] O O (by kernel_rfl) (Ab Aa ?_)
 refine Aj (by kernel_rfl) rfl ?_
 exact Af (A,c) [(1,some 3),(2,some 4),(3,some 1)] .z trivial
 refine Bz Aa bolY false (.bool false) 1 (m.ps.length+1) O O O O O O O O O O (by kernel_rfl) O O O (by omega) (by omega) ?_
 refine Ce 0 ?_
 refine By 2 3 O O (fun A c=>?_)
 refine Ad ?_
 refine Ae (fuel:=0) [0,7,8,10] O O (by kernel_rfl) (Ab Aa ?_)
 refine Aj (by kernel_rfl) rfl ?_
 exact Af (A,c) [(1,some 3),(2,some 4),(3,some 1)] .z trivial
 refine Ab Aa ?_
 refine Aq 0 3 (by kernel_rfl) O O ?_ ?_
 refine Ab Aa ?_
 refine Ae (fuel:=4) [3,4,5] O O (by kernel_rfl) (Ab Aa ?_)
 repeat refine sdI ?_
 refine Ag 6 (by kernel_rfl) rfl ?_
 refine Bz Aa bolY false (.bool false) 1 (m.ps.length+1) O O O O O O O O O O (by kernel_rfl) O O O (by omega) (by omega) ?_
 refine Ce 0 ?_
 refine By 2 3 O O (fun A c=>?_)
 refine Ad ?_
 refine Ae (fuel:=0) [7,8,10] O O (by kernel_rfl) (Ab Aa ?_)
 refine Aj (by kernel_rfl) rfl ?_
 exact Af (A,c) [(1,some 3),(2,some 4),(3,some 1)] .z trivial
 refine Ab Aa ?_
 refine Aq 0 4 (by kernel_rfl) O O ?_ ?_
 refine Ab Aa ?_
 refine Ae (fuel:=4) [4,5] O O (by kernel_rfl) (Ab Aa ?_)
 repeat refine sdI ?_
 refine Ag 6 (by kernel_rfl) rfl ?_
 refine Bz Aa bolY false (.bool false) 1 (m.ps.length+1) O O O O O O O O O O (by kernel_rfl) O O O (by omega) (by omega) ?_
 refine Ce 0 ?_
 refine By 2 3 O O (fun A c=>?_)
 refine Ad ?_
 refine Ae (fuel:=0) [7,8,10] O O (by kernel_rfl) (Ab Aa ?_)
 refine Aj (by kernel_rfl) rfl ?_
 exact Af (A,c) [(1,some 3),(2,some 4),(3,some 1)] .z trivial
 refine Ab Aa ?_
 refine Aq 0 5 (by kernel_rfl) O O ?_ ?_
 refine Ab Aa ?_
 refine Ae (fuel:=4) [5] O O (by kernel_rfl) (Ab Aa ?_)
 repeat refine sdI ?_
 refine Ag 6 (by kernel_rfl) rfl ?_
 refine Bz Aa bolY false (.bool false) 1 (m.ps.length+1) O O O O O O O O O O (by kernel_rfl) O O O (by omega) (by omega) ?_
 refine Ce 0 ?_
 refine By 2 3 O O (fun A c=>?_)
 refine Ad ?_
 refine Ae (fuel:=0) [7,8,10] O O (by kernel_rfl) (Ab Aa ?_)
 refine Aj (by kernel_rfl) rfl ?_
 exact Af (A,c) [(1,some 3),(2,some 4),(3,some 1)] .z trivial
 refine Ab Aa ?_
 repeat refine sdI ?_
 refine Aq 0 6 (by kernel_rfl) O O ?_ ?_
 refine Ab Aa ?_
 refine Ag 6 (by kernel_rfl) rfl ?_
 refine Bz Aa bolY false (.bool false) 1 (m.ps.length+1) O O O O O O O O O O (by kernel_rfl) O O O (by omega) (by omega) ?_
 refine Ce 0 ?_
 refine By 2 3 O O (fun A c=>?_)
 refine Ad ?_
 refine Ae (fuel:=0) [7,8,10] O O (by kernel_rfl) (Ab Aa ?_)
 refine Aj (by kernel_rfl) rfl ?_
 exact Af (A,c) [(1,some 3),(2,some 4),(3,some 1)] .z trivial
 refine Bz Aa bolY false (.bool false) 1 (m.ps.length+1) O O O O O O O O O O (by kernel_rfl) O O O (by omega) (by omega) ?_
 refine Ce 0 ?_
 refine By 2 3 O O (fun A c=>?_)
 refine Ad ?_
 refine Ae (fuel:=0) [0,7,8,10] O O (by kernel_rfl) (Ab Aa ?_)
 refine Aj (by kernel_rfl) rfl ?_
 exact Af (A,c) [(1,some 3),(2,some 4),(3,some 1)] .z trivial
 rintro⟨A,c⟩ u1 hu1 -
 show X _ _ _ _ _
 refine x_unparkB (sl:=[⟨.slice A (bolY.d (List.replicate (m.ps.length+1) false)).n c,4,bolY.d (List.replicate (m.ps.length+1) false)⟩]) 2 1 0 ((mCells m s++[.int .i64 (id:Int),.slice none 0 0]:List Value).map .v) [] (p:=⟨.slice A (bolY.d (List.replicate (m.ps.length+1) false)).n c,4,bolY.d (List.replicate (m.ps.length+1) false)⟩) O O O ?_
 refine x_nilCell 2 210 itmY ((mCells m s++[.int .i64 (id:Int)]:List Value).map .v) [.r 6] rfl ?_
 refine Ao Aa ?_
 refine xl_call _ O O O O fn134 O O (fun E w F hs=>mitemsFn_any m s w ((hps.le hu1).imm hs.imm) hz) (fun v u2 u3 hu3 hs3 hv=>?_)
 obtain⟨b,cb,bm,n,rfl,e1,e2,e3⟩:=hv
 have f1:=of_sub_cut hs3 e1
 have f2:=of_sub_cut hs3 e2
 have f3:MapAt u3 bm n (fun x=>(numP m x).map (Value.int .i64)):=by
  obtain⟨es,clock,q1,q2⟩:=e3
  exact⟨es,clock,of_sub_cut hs3 q1,q2⟩
 refine Ab Aa ?_
 obtain⟨I,hI⟩:∃I,I=itemsL m.fn (numP m) m.body:=⟨_,rfl⟩
 have hIl:I.length≤m.body.length:=by rw[hI];exact itF_len _ _ _ _ _ _
 have hIp:∀t∈I,t.param≤(m.ps.length:Int):=by rw[hI];exact fun t ht=>items_param m ht
 have hit:=mitems_iter m s (numP m) b cb bm n u3 f1 f2 f3 ((hB.le hu1).le hu3) hok hz2
 rw[←hI]at hit ⊢
 refine x_range (σ:=List IV×List Bool) (τ:=Empty) rfl fn155 hit [(5,.p 3 0)]
  (fun(L,U)=>[(0,.box 27 ((mCells m s).map .v)),(2,.box 156 ((mCells m s).map .v++[.v (.int .i64 (id:Int)),.r 9,.r 6])),(3,.box 151 [.p 2 0]),(6,.row 4 (bolY.d U)),(9,.row 210 (itmY.d L))]) (fun _=>10)
  (fun k (L,U) _=>L=I.take k∧U=usedL m.ps.length (I.take k))
  (fun _=>[]) (fun _=>10) (fun _ e _=>False) ([],List.replicate (m.ps.length+1) false) [(9,some 7)] .z ⟨rfl,rfl⟩ rfl
  (fun _=>rfl) (fun _=>rfl) (fun _=>by show 8<10;decide) (fun _=>by show 8≤10;decide) rfl (fun l k x st u4 Fr Fr' hx hu4 hg=>?_) (fun st u4 hu4 hg=>?_) (fun _ e u4 hu4 hg=>hg.elim)
 obtain⟨L,U⟩:=st
 obtain⟨rfl,hU0⟩:=hg
 rw[List.getElem?_map]at hx
 obtain⟨t,ht,rfl⟩:=Option.map_eq_some_iff.1 hx
 obtain⟨L,hL⟩:∃L,L=I.take k:=⟨_,rfl⟩
 rw[←hL]
 have hLl:L.length≤m.body.length:=by rw[hL,List.length_take];omega
 have hkl:k<I.length:=(List.getElem?_eq_some_iff.1 ht).1
 have hUl:U.length=m.ps.length+1:=by rw[hU0];exact usedL_len _ _
 have htp:=hIp t (List.mem_of_getElem? ht)
 refine Ao Aa ?_
 refine⟨rfl,rfl,?_⟩
 refine x_block (Az ?_)
 refine x_via (σ:=List Bool) (fun U'=>⟨[(5,.p 3 0),(6,.p 10 0)],[],[(8,.gen Fr'),(0,.box 27 ((mCells m s).map .v)),(2,.box 156 ((mCells m s).map .v++[.v (.int .i64 (id:Int)),.r 9,.r 6])),(3,.box 151 [.p 2 0]),(6,.row 4 (bolY.d U')),(9,.row 210 (itmY.d L)),(10,.box 210 ((itC t).map .v))],11⟩)
  (fun U' _=>U'=useIt U t) (fun _=>by show 11≤11;omega) ?_ ?_
 refine Ao Aa ?_
 refine Ap (fun h1=>?_) (fun h1=>?_)
 have h1:((decide (0≤t.param)&&!t.made)&&!t.raw)=true:=h1
 have h0:0≤t.param:=by
  rw[Bool.and_eq_true,Bool.and_eq_true]at h1
  exact of_decide_eq_true h1.1.1
 have hU:useIt U t=U.set t.param.toNat true:=by unfold useIt;rw[if_pos h1]
 refine Bw mix ?_
 refine xa_pures Aa (fuel:=7) [4] rfl (by kernel_rfl) (by kernel_rfl) (fun _ _ _ hh=>hh) (by kernel_rfl) (by kernel_rfl) ?_
 refine Aq 0 5 (by kernel_rfl) O O ?_ ?_
 refine Ab Aa ?_
 refine Aq 1 5 (by kernel_rfl) O O ?_ ?_
 refine Ab Aa ?_
 refine Aq 2 5 (by kernel_rfl) O O ?_ ?_
 refine Ab Aa ?_
 refine Aq 3 5 (by kernel_rfl) O O ?_ ?_
 refine Ab Aa ?_
 refine Ae (fuel:=1) [5,6] O O (by kernel_rfl) (Ab Aa ?_)
 repeat refine sdI ?_
 refine Ag 7 (by kernel_rfl) rfl ?_
 refine Bv Aa (cs:=[.bool true]) bolY U true O O O O O O O (by omega) (by omega) O O (Nat.le_refl 1) rfl ?_
 refine Ad ?_
 refine Aj (by kernel_rfl) rfl ?_
 exact Af (useIt U t) [] (by rw[hU];exact .of O O O O O O) rfl
 refine Ab Aa ?_
 refine Ae (fuel:=1) [3,6] O O (by kernel_rfl) (Ab Aa ?_)
 repeat refine sdI ?_
 refine Ag 7 (by kernel_rfl) rfl ?_
 refine Bv Aa (cs:=[.bool true]) bolY U true O O O O O O O (by omega) (by omega) O O (Nat.le_refl 1) rfl ?_
 refine Ad ?_
 refine Aj (by kernel_rfl) rfl ?_
 exact Af (useIt U t) [] (by rw[hU];exact .of O O O O O O) rfl
 refine Ab Aa ?_
 refine Ae (fuel:=1) [2,3,6] O O (by kernel_rfl) (Ab Aa ?_)
 repeat refine sdI ?_
 refine Ag 7 (by kernel_rfl) rfl ?_
 refine Bv Aa (cs:=[.bool true]) bolY U true O O O O O O O (by omega) (by omega) O O (Nat.le_refl 1) rfl ?_
 refine Ad ?_
 refine Aj (by kernel_rfl) rfl ?_
 exact Af (useIt U t) [] (by rw[hU];exact .of O O O O O O) rfl
 refine Ab Aa ?_
 refine Ae (fuel:=1) [1,2,3,6] O O (by kernel_rfl) (Ab Aa ?_)
 repeat refine sdI ?_
 refine Ag 7 (by kernel_rfl) rfl ?_
 refine Bv Aa (cs:=[.bool true]) bolY U true O O O O O O O (by omega) (by omega) O O (Nat.le_refl 1) rfl ?_
 refine Ad ?_
 refine Aj (by kernel_rfl) rfl ?_
 exact Af (useIt U t) [] (by rw[hU];exact .of O O O O O O) rfl
 refine Ab Aa ?_
 refine Ae (fuel:=1) [0,1,2,3,6] O O (by kernel_rfl) (Ab Aa ?_)
 repeat refine sdI ?_
 refine Ag 7 (by kernel_rfl) rfl ?_
 refine Bv Aa (cs:=[.bool true]) bolY U true O O O O O O O (by omega) (by omega) O O (Nat.le_refl 1) rfl ?_
 refine Ad ?_
 refine Aj (by kernel_rfl) rfl ?_
 exact Af (useIt U t) [] (by rw[hU];exact .of O O O O O O) rfl
 have h1:((decide (0≤t.param)&&!t.made)&&!t.raw)=false:=h1
 have hU:useIt U t=U:=by unfold useIt;rw[if_neg (by rw[h1];simp)]
 exact Af U [] .z hU.symm
 rintro U1 u5 hu5 hU1
 refine Bw mix ?_
 refine xa_fam (fuel:=3) (N:=8) tblXY (fun D=>⟨selD D [(0,(39,.p 2 0)),(1,(40,.p 2 0)),(2,(41,.p 2 0)),(3,(42,.p 2 6)),(4,(43,.r 9)),(5,(44,.v (ivV t))),(6,(45,.r 11)),(7,(46,.r 12))]++[(5,.p 3 0),(6,.p 10 0)],[],selO D [(9,[(7,.emp)]),(11,[(6,.row 210 (itmY.d [t]))]),(12,[(7,.row 210 (itmY.d (L++[t])))])]++[(8,.gen Fr'),(0,.box 27 ((mCells m s).map .v)),(2,.box 156 ((mCells m s).map .v++[.v (.int .i64 (id:Int)),.r 9,.r 6])),(3,.box 151 [.p 2 0]),(6,.row 4 (bolY.d U1)),(10,.box 210 ((itC t).map .v))]++selN D [(7,(9,.row 210 (itmY.d L)))],14⟩) (fun D i=>insD i D) rfl (by kernel_rfl) (by kernel_rfl) (by kernel_rfl) [] .z (fun _=>by show 11≤14;omega) ?_ [0,1,2,3,4,5,6,7] (by kernel_rfl) (fun u9 hu9=>?_)
 refine And.intro (And.intro ?_ (And.intro ?_ (And.intro ?_ (trivial)))) (And.intro (And.intro ?_ (And.intro ?_ (trivial))) (And.intro (And.intro ?_ (And.intro ?_ (And.intro ?_ (trivial)))) (And.intro (And.intro ?_ (And.intro ?_ (And.intro ?_ (trivial)))) (And.intro (And.intro ?_ (And.intro ?_ (trivial))) (And.intro (And.intro ?_ (And.intro ?_ (trivial))) (And.intro (And.intro ?_ (And.intro ?_ (And.intro ?_ (trivial)))) (And.intro (And.intro ?_ (And.intro ?_ (And.intro ?_ (trivial)))) (And.intro (And.intro ?_ (And.intro ?_ (trivial))) (And.intro (And.intro ?_ (And.intro ?_ (trivial))) (And.intro (And.intro ?_ (And.intro ?_ (trivial))) (And.intro (And.intro ?_ (trivial)) (And.intro (And.intro ?_ (And.intro ?_ (And.intro ?_ (trivial)))) (And.intro (And.intro ?_ (And.intro ?_ (And.intro ?_ (trivial)))) (And.intro (And.intro ?_ (And.intro ?_ (trivial))) (And.intro (And.intro ?_ (And.intro ?_ (trivial))) (And.intro (And.intro ?_ (And.intro ?_ (trivial))) (And.intro (And.intro ?_ (trivial)) (And.intro (And.intro ?_ (And.intro ?_ (trivial))) (And.intro (And.intro ?_ (And.intro ?_ (And.intro ?_ (trivial)))) (And.intro (And.intro ?_ (And.intro ?_ (trivial))) (And.intro (And.intro ?_ (trivial)) (And.intro (And.intro ?_ (And.intro ?_ (trivial))) (And.intro (And.intro ?_ (trivial)) (And.intro (And.intro ?_ (And.intro ?_ (trivial))) (And.intro (And.intro ?_ (And.intro ?_ (trivial))) (And.intro (And.intro ?_ (trivial)) (And.intro (And.intro ?_ (trivial)) (And.intro (And.intro ?_ (And.intro ?_ (trivial))) (And.intro (And.intro ?_ (trivial)) (And.intro (And.intro ?_ (trivial)) (And.intro trivial (trivial))))))))))))))))))))))))))))))))
 intro u9 hu9;refine Ab Aa ?_;exact Af () [] .z trivial
 intro u9 hu9;refine Ab Aa ?_;exact Af () [] .z trivial
 intro u9 hu9;refine Ab Aa ?_;exact Af () [] .z trivial
 intro u9 hu9;refine Ab Aa ?_;exact Af () [] .z trivial
 intro u9 hu9;refine Ab Aa ?_;exact Af () [] .z trivial
 intro u9 hu9;refine Ab Aa ?_;exact Af () [] .z trivial
 intro u9 hu9;refine Ab Aa ?_;exact Af () [] .z trivial
 intro u9 hu9;refine Ab Aa ?_;exact Af () [] .z trivial
 intro u9 hu9;refine Ab Aa ?_;exact Af () [] .z trivial
 intro u9 hu9;refine Ab Aa ?_;exact Af () [] .z trivial
 intro u9 hu9;refine As Aa itmY [t] [_] O O O O O O O O O O O O O O O ?_;refine Ad ?_;exact Af () [(11,some 14)] .z trivial
 intro u9 hu9;refine Ab Aa ?_;exact Af () [] .z trivial
 intro u9 hu9;refine Ab Aa ?_;exact Af () [] .z trivial
 intro u9 hu9;refine Ab Aa ?_;exact Af () [] .z trivial
 intro u9 hu9;refine As Aa itmY [t] [_] O O O O O O O O O O O O O O O ?_;refine Ad ?_;exact Af () [(11,some 14)] .z trivial
 intro u9 hu9;refine Ab Aa ?_;exact Af () [] .z trivial
 intro u9 hu9;refine Ab Aa ?_;exact Af () [] .z trivial
 intro u9 hu9;refine Ab Aa ?_;exact Af () [] .z trivial
 intro u9 hu9;refine Ab Aa ?_;exact Af () [] .z trivial
 intro u9 hu9;refine Ab Aa ?_;exact Af () [] .z trivial
 intro u9 hu9;refine As Aa itmY [t] [_] O O O O O O O O O O O O O O O ?_;refine Ad ?_;exact Af () [(11,some 14)] .z trivial
 intro u9 hu9;refine Ab Aa ?_;exact Af () [] .z trivial
 intro u9 hu9;refine Ab Aa ?_;exact Af () [] .z trivial
 intro u9 hu9;refine Ab Aa ?_;exact Af () [] .z trivial
 intro u9 hu9;refine Ab Aa ?_;exact Af () [] .z trivial
 intro u9 hu9;refine Ab Aa ?_;exact Af () [] .z trivial
 intro u9 hu9;refine As Aa itmY [t] [_] O O O O O O O O O O O O O O O ?_;refine Ad ?_;exact Af () [(11,some 14)] .z trivial
 intro u9 hu9;refine Ab Aa ?_;exact Af () [] .z trivial
 intro u9 hu9;refine Ab Aa ?_;exact Af () [] .z trivial
 intro u9 hu9;refine Ab Aa ?_;exact Af () [] .z trivial
 intro u9 hu9;refine Ab Aa ?_;exact Af () [] .z trivial
 intro u9 hu9;refine Ab Aa ?_;exact Af () [] .z trivial
 intro u9 hu9;refine Ab Aa ?_;exact Af () [] .z trivial
 intro u9 hu9;refine As Aa itmY [t] [_] O O O O O O O O O O O O O O O ?_;refine Ad ?_;exact Af () [(11,some 14)] .z trivial
 intro u9 hu9;refine Ab Aa ?_;exact Af () [] .z trivial
 intro u9 hu9;refine Ab Aa ?_;exact Af () [] .z trivial
 intro u9 hu9;refine Ab Aa ?_;exact Af () [] .z trivial
 intro u9 hu9;refine Ab Aa ?_;exact Af () [] .z trivial
 intro u9 hu9;refine Ab Aa ?_;exact Af () [] .z trivial
 intro u9 hu9;refine As Aa itmY [t] [_] O O O O O O O O O O O O O O O ?_;refine Ad ?_;exact Af () [(11,some 14)] .z trivial
 intro u9 hu9;refine Ab Aa ?_;exact Af () [] .z trivial
 intro u9 hu9;refine Ab Aa ?_;exact Af () [] .z trivial
 intro u9 hu9;refine Ab Aa ?_;exact Af () [] .z trivial
 intro u9 hu9;refine Ab Aa ?_;exact Af () [] .z trivial
 intro u9 hu9;refine Ab Aa ?_;exact Af () [] .z trivial
 intro u9 hu9;refine As Aa itmY [t] [_] O O O O O O O O O O O O O O O ?_;refine Ad ?_;exact Af () [(11,some 14)] .z trivial
 intro u9 hu9;refine Ab Aa ?_;exact Af () [] .z trivial
 intro u9 hu9;refine Ab Aa ?_;exact Af () [] .z trivial
 intro u9 hu9;refine Ab Aa ?_;exact Af () [] .z trivial
 intro u9 hu9;refine Ab Aa ?_;exact Af () [] .z trivial
 intro u9 hu9;refine As Aa itmY [t] [_] O O O O O O O O O O O O O O O ?_;refine Ad ?_;exact Af () [(11,some 14)] .z trivial
 intro u9 hu9;refine Ab Aa ?_;exact Af () [] .z trivial
 intro u9 hu9;refine Ab Aa ?_;exact Af () [] .z trivial
 intro u9 hu9;refine As Aa itmY [t] [_] O O O O O O O O O O O O O O O ?_;refine Ad ?_;exact Af () [(11,some 14)] .z trivial
 intro u9 hu9;refine Ab Aa ?_;exact Af () [] .z trivial
 intro u9 hu9;refine Ab Aa ?_;exact Af () [] .z trivial
 intro u9 hu9;refine As Aa itmY [t] [_] O O O O O O O O O O O O O O O ?_;refine Ad ?_;exact Af () [(11,some 14)] .z trivial
 intro u9 hu9;refine Ab Aa ?_;exact Af () [] .z trivial
 intro u9 hu9;refine Ab Aa ?_;exact Af () [] .z trivial
 intro u9 hu9;refine Bm Aa itmY L [t] 72 O O O O O O O O (by kernel_rfl) O O O (fun E w F hs=>hs.rowAt (k:=11) rfl) itOne rfl (by rw[List.length_singleton];omega) (by rw[List.length_singleton];omega) ?_;refine Ad ?_;exact Af () [(12,some 14)] .z trivial
 intro u9 hu9;refine Bm Aa itmY L [t] 72 O O O O O O O O (by kernel_rfl) O O O (fun E w F hs=>hs.rowAt (k:=11) rfl) itOne rfl (by rw[List.length_singleton];omega) (by rw[List.length_singleton];omega) ?_;refine Ad ?_;exact Af () [(12,some 14)] .z trivial
 intro u9 hu9;refine Ab Aa ?_;exact Af () [] .z trivial
 refine Ae (fuel:=0) [8,9,10] O O (by kernel_rfl) (Ab Aa ?_)
 refine Aj (by kernel_rfl) rfl ?_
 exact⟨(L++[t],U1),[(9,some 12)],.of O O O O O rfl,by rw[Cj ht,hL],by rw[hU1,hU0];exact(usedL_step _ _ ht).symm⟩
 obtain⟨L,U⟩:=st
 obtain⟨rfl,hU0⟩:=hg
 rw[List.length_map,List.take_length]at hU0
 rw[List.length_map,List.take_length]
 have hle0:(im w).le u4:=(hu1.trans hu3).trans hu4
 exact finP (fun E w' F hs hle=>by
  obtain⟨p,p1,p2,p3⟩:=hs.holds 2 _ rfl
  have r1:=(hs.rowOwn (k:=9) rfl hle).slAt
  have s1:=(hs.rowOwn (k:=6) rfl hle).slAt
  have hp:w.heap.size≤p:=by
   rcases Nat.lt_or_ge p w.heap.size with hlt|hge
   have h9:=hle.h p _ (Array.getElem?_eq_getElem hlt)
   rw[hs.off 2 p ((p2 p).2 rfl)]at h9;cases h9
   exact hge
  refine⟨⟨p,0,none⟩,by simp[SV.den,ptrOf,p1,tupV],p,E 9,E 6,rfl,?_,r1,hU0▸s1⟩
  show(if p<w.heap.size then none else w'.heap[p]?)=_
  rw[if_neg (by omega),p3]
  simp[mCells,SV.den])
def lpB:ByteArray:=⟨#[40]⟩
def rpB:ByteArray:=⟨#[41]⟩
def cmB:ByteArray:=⟨#[44]⟩
def pctB (t:TV):Bool:=decide (t.pv.kind=5)&&((decide (t.pv.text=lpB)||decide (t.pv.text=rpB))||decide (t.pv.text=cmB))
def fstP:List TV→Nat
 |[]=>0
 |t::r=>if pctB t then 0 else fstP r+1
theorem fstP_at:∀(V:List TV) (m:Nat),(∀x,x<m→pctB (V.getD x tv0)=false)→m<V.length→pctB (V.getD m tv0)=true→fstP V=m
 |t::r,0,_,_,h=>by
  have h:pctB t=true:=h
  rw[fstP,if_pos h]
 |t::r,m+1,hn,hl,h=>by
  have h0:pctB t=false:=hn 0 (by omega)
  rw[fstP,if_neg (by rw[h0];decide),fstP_at r m (fun x hx=>hn (x+1) (by omega)) (by simpa using hl) h]
theorem fstP_none:∀(V:List TV),(∀x,x<V.length→pctB (V.getD x tv0)=false)→fstP V=V.length
 |[],_=>rfl
 |t::r,hn=>by
  have h0:pctB t=false:=hn 0 (by simp)
  rw[fstP,if_neg (by rw[h0];decide),fstP_none r (fun x hx=>hn (x+1) (by simpa using hx))];rfl
theorem view_end {u:Im} {b:Nat} {T:List TV} {i:Nat} {R:Stk} {p q:Option Addr} {k j:Int} {d:Nat} (h:Ck u p k ((b,T,i)::R)) (hq:Ck u q j (Cc d ((b,T,i)::R))) :
 (q=p∧j=((i+d:Nat):Int)∧i+d<T.length)∨(q≠p∧T.length≤i+d):=by
 have hi:i<T.length:=h.2.2.1
 rcases Nat.lt_or_ge (i+d) T.length with hd|hd
 rw[adv_in d b T i R hd]at hq
 exact .inl ⟨hq.1.trans h.1.symm,hq.2.1,hd⟩
 refine .inr ⟨fun e=>?_,hd⟩
 have e1:Cc d ((b,T,i)::R)=Cc (d-(T.length-i)) R:=by
  have:=adv_out (T.length-i) b T i R (d-(T.length-i)) (by omega) (by omega)
  rw[show T.length-i+(d-(T.length-i))=d by omega]at this
  exact this
 rw[e1]at hq
 obtain⟨l1,l2⟩:=h.low
 have hlow:=low_sub (d-(T.length-i)) R
 rw[e,h.1]at hq
 cases hR:Cc (d-(T.length-i)) R with
 |nil=>rw[hR]at hq;have:=hq.1;cases this
 |cons y R'=>
  obtain⟨b',T',i'⟩:=y
  rw[hR]at hq hlow
  have h1:=hq.1
  simp only[Option.some.injEq,Addr.mk.injEq,and_true]at h1
  obtain⟨y,hy,hy2⟩:=hlow (b',T',i') List.mem_cons_self
  exact(List.pairwise_cons.1 l1).1 y hy (hy2.trans h1.symm)
theorem ppunct_any {u0:Im} {p q:Option Addr} {k j:Int} {P:Stk} {n:Nat} (hp:Ck u0 p k P) (hq:Ck u0 q j (Cc n P)) (hn:n≤(Bi P).length) :
 ∃p' k',Ck u0 p' k' (Cc (fstP ((Bi P).take n)) P)∧∀w,u0.sub (im w)→Calls Tryz.prog 101 #[plV p k,plV q j] w (Bc w fun v _=>v=plV p' k'):=by
 obtain⟨p',k',hpk⟩:=Ck.adv (fstP ((Bi P).take n)) hp
 refine⟨p',k',hpk,fun w hw=>?_⟩
 obtain⟨hl1,hl2⟩:=hp.low
 obtain⟨V,hV⟩:∃V,V=(Bi P).take n:=⟨_,rfl⟩
 have hVl:V.length=n:=by rw[hV,List.length_take];omega
 rw[←hV]at hpk
 have uniq:∀ {a:Option Addr} {c:Int} {m:Nat},Ck u0 a c (Cc m P)→fstP V=m→plV a c=plV p' k':=fun {a c m} h e=>by
  rw[e]at hpk
  have:=(h.same (n:=0) hpk (Nat.zero_le _)).2 rfl
  rw[this.1,this.2]
 refine Bq Aa Tryz.func101 O O [] 0 [.v (plV p k),.v (plV q j)] O O O O (fun b hb=>by cases hb) ?_
 refine Ao Aa ?_
 refine Br (σ:=Option Addr×Int×Nat) (fun(a,c,m)=>⟨[(2,.p 0 0),(3,.p 1 0),(4,.p 2 0)],[],[(0,.box 82 [.v (.pointer a),.v (.int .i64 c)]),(1,.box 82 [.v (.pointer q),.v (.int .i64 j)]),(2,.box 82 [.v (.pointer none),.v (.int .i64 0)])],3⟩)
  (fun(a,c,m) _=>m≤n∧Ck u0 a c (Cc m P)∧∀x,x<m→pctB (V.getD x tv0)=false) (fun(_,_,m)=>n-m) (fun _=>Nat.le_refl _) (p,k,0) [] .z ⟨Nat.zero_le _,hp,fun x hx=>by omega⟩ ?_
 rintro⟨a,c,m⟩ u hu ⟨g1,g2,g3⟩
 have hsub:u0.sub u:=hw.trans hu.sub
 have hwu:∀ {w':World},Imm u w'→u0.sub (im w'):=fun hs=>hsub.trans (Au hs)
 refine Ao Aa ?_
 refine xl_binV (.bool (!(decide (a=q)&&decide (c=j)))) O O O O O O (fun w=>eqGuardPl _ _ _ _ _ _ w) (fun _ w' hw'=>run_nePl hw' (g2.blk.sub hsub) (hq.blk.sub hsub) c j) ?_
 refine Ab Aa ?_
 have hq':Ck u0 q j (Cc (n-m) (Cc m P)):=by rw[adv_add,show m+(n-m)=n by omega];exact hq
 have hlen:(Bi (Cc m P)).length=(Bi P).length-m:=by rw[toks_adv m hl1 hl2,List.length_drop]
 have hsame:=g2.same hq' (by omega)
 refine Ap (fun h1=>?_) (fun h1=>?_)
 have h1:(!(decide (a=q)&&decide (c=j)))=true:=h1
 have hm:m<n:=by
  rcases Nat.lt_or_ge m n with h|h
  exact h
  have:=hsame.2 (by omega)
  rw[decide_eq_true this.1,decide_eq_true this.2]at h1
  exact absurd h1 (by decide)
 obtain⟨b,T,i,R,e⟩:=stk_pos (P:=Cc m P) (by omega)
 rw[e]at g2 hq'
 have hend:=view_end g2 hq'
 have htk:=toks_adv m hl1 hl2
 rw[e]at htk
 obtain⟨rfl,rfl,h3,h4,A,c',rp,rk,h5,h6,h7,h8⟩:=id g2
 have hbq:BlkAt u q:=(Ck.blk hq).sub hsub
 have hbp:BlkAt u (some ⟨b,0,none⟩):=(Ck.blk g2).sub hsub
 refine Cl Aa O O O O O O O ?_
 refine Cr Aa (.slice (some A) T.length c') O O O O O O O (fun _=>cell_of (hsub.h _ _ h5) (j:=0) rfl) ?_
 refine Ab Aa ?_
 refine xl_binV (.bool (decide (some ⟨b,0,none⟩=q))) O O O O O O (fun w=>eqGuardP _ _ _ _ _ _ w) (fun _ w' hw'=>run_eqP rfl (Aa 84 _ rfl) (by decide) hw' hbp hbq) ?_
 refine Ab Aa ?_
 rcases hend with⟨rfl,rfl,hd⟩|⟨hne,hd⟩
 refine Be (decide_eq_true rfl) ?_
 have hE:i+(n-m)≤T.length∧i<i+(n-m)∧i+(n-m)-i≤n-m:=by omega
 have hpre:PreAt u0 (some ⟨b,0,none⟩) ((i+(n-m):Nat):Int) (Cc (m+(i+(n-m)-i)) P):=by
  rw[show i+(n-m)-i=n-m by omega,←adv_add,e,adv_in (n-m) b T i R hd]
  exact .inl ⟨rfl,rfl,hd,h4,A,c',rp,rk,h5,h6,h7,h8⟩
 refine Br (σ:=Nat) (fun s=>⟨[(2,.p 0 0),(3,.p 1 0),(4,.p 2 0),(5,.v (.int .i64 (((i+(n-m)):Nat):Int)))],[],[(0,.box 82 [.v (.pointer (some ⟨b,0,none⟩)),.v (.int .i64 (s:Int))]),(1,.box 82 [.v (.pointer (some ⟨b,0,none⟩)),.v (.int .i64 ((i+(n-m):Nat):Int))]),(2,.box 82 [.v (.pointer none),.v (.int .i64 0)])],3⟩)
  (fun s _=>i≤s∧s≤(i+(n-m))∧∀x,x<m+(s-i)→pctB (V.getD x tv0)=false) (fun s=>(i+(n-m))-s) (fun _=>Nat.le_refl _) i [] .z ⟨Nat.le_refl _,by omega,fun x hx=>g3 x (by omega)⟩ ?_
 rintro s u6 hu6 ⟨k1,k2,k3⟩
 have hsub6:u0.sub u6:=hsub.trans hu6.sub
 refine Ao Aa ?_
 refine Ap (fun h9=>?_) (fun h9=>?_)
 have h9:((s:Nat):Int)<(((i+(n-m)):Nat):Int):=of_decide_eq_true h9
 have hsT:s<T.length:=by omega
 have hpt:PtAt u0 (A.add (s*5)) (tkC (T.getD s tv0)):=Aw.ptAt h7 (i:=s) (by rw[Lay.d_n];exact hsT) h6
 have hVs:V.getD (m+(s-i)) tv0=T.getD s tv0:=by
  have hg:((Bi P).drop m)[s-i]?=T[s]?:=by
   rw[←htk,Bi,List.getElem?_append_left (by rw[List.length_drop];omega),List.getElem?_drop,show i+(s-i)=s by omega]
  rw[List.getElem?_drop]at hg
  rw[List.getD_eq_getElem?_getD,List.getD_eq_getElem?_getD,hV,List.getElem?_take,if_pos (by omega),hg]
 have hTl:T.length≤9223372036854775807:=by
  obtain⟨_,_,e',q1,q2,_⟩:=h7
  cases e'
  exact Nat.le_trans q1 q2
 refine x_draw mix (by kernel_rfl) (Cq Aa ?_)
 refine xd_fieldV Aa O O O O O O O ?_
 refine xd_gloadV Aa (.slice (some A) T.length c') O O O O O O O (fun _=>cell_of (hsub6.h _ _ h5) (j:=0) rfl) ?_
 refine Cq Aa ?_
 refine xd_gidxV Aa O O O O O O O O O (fun _=>⟨by omega,by omega⟩) ?_
 refine Cq Aa ?_
 have ead:A.add ((((s:Nat):Int)).toNat*ti87.sz)=A.add (s*5):=by rw[Int.toNat_natCast];rfl
 rw[←ead]at hpt
 have hpt6:=hpt.sub hsub6
 refine xl_ptr 40 (tkC (T.getD s tv0)) O O hpt6 ?_
 refine Ab Aa ?_
 refine xl_ptrG 47 (tkC (T.getD s tv0)) rfl hpt6 ?_
 refine Ab Aa ?_
 refine xl_ptrG 54 (tkC (T.getD s tv0)) rfl hpt6 ?_
 refine Ab Aa ?_
 refine xl_ptrG 62 (tkC (T.getD s tv0)) rfl hpt6 ?_
 refine Ab Aa ?_
 refine Ap (fun h10=>?_) (fun h10=>?_)
 have h10:pctB (T.getD s tv0)=true:=h10
 refine Ay (fun _ _=>uniq (m:=m+(s-i)) ?_ (fstP_at V _ k3 (by omega) (by rw[hVs];exact h10)))
 rw[←adv_add,e,adv_in (s-i) b T i R (by omega),show i+(s-i)=s by omega]
 exact⟨rfl,rfl,hsT,h4,A,c',rp,rk,h5,h6,h7,h8⟩
 have h10:pctB (T.getD s tv0)=false:=h10
 repeat refine sdI ?_
 exact Bj (s+1) [] .z ⟨by omega,by omega,fun x hx=>by
  rcases Nat.lt_or_ge x (m+(s-i))with h11|h11
  exact k3 x h11
  rw[show x=m+(s-i) by omega,hVs];exact h10⟩ (by show(i+(n-m))-(s+1)<(i+(n-m))-s;omega)
 have h9:¬((s:Nat):Int)<(((i+(n-m)):Nat):Int):=of_decide_eq_false h9
 obtain rfl:s=(i+(n-m)):=by omega
 obtain⟨p2,k2',s1,s2⟩:=settled_any hpre
 refine Am (plV p2 k2') O O O O fn39 O O (fun E w' F hs=>s2 w' (hsub6.trans (Au hs.imm))) ?_
 refine Ab Aa ?_
 exact Bj (p2,k2',m+((i+(n-m))-i)) [] .z ⟨by omega,s1,k3⟩ (by show n-(m+((i+(n-m))-i))<n-m;omega)
 refine x_iff (decide_eq_false (fun e=>hne e.symm)) ?_
 have hE:T.length≤T.length∧i<T.length∧T.length-i≤n-m:=by omega
 have hpre:PreAt u0 (some ⟨b,0,none⟩) ((T.length:Nat):Int) (Cc (m+(T.length-i)) P):=by
  rw[←adv_add,e]
  have:=adv_out (T.length-i) b T i R 0 (by omega) (by omega)
  rw[Nat.add_zero]at this
  rw[this]
  exact .inr ⟨b,some A,T.length,c',rp,rk,rfl,rfl,h5,h8⟩
 refine Br (σ:=Nat) (fun s=>⟨[(2,.p 0 0),(3,.p 1 0),(4,.p 2 0),(5,.v (.int .i64 ((T.length:Nat):Int)))],[],[(0,.box 82 [.v (.pointer (some ⟨b,0,none⟩)),.v (.int .i64 (s:Int))]),(1,.box 82 [.v (.pointer q),.v (.int .i64 j)]),(2,.box 82 [.v (.pointer none),.v (.int .i64 0)])],3⟩)
  (fun s _=>i≤s∧s≤T.length∧∀x,x<m+(s-i)→pctB (V.getD x tv0)=false) (fun s=>T.length-s) (fun _=>Nat.le_refl _) i [] .z ⟨Nat.le_refl _,by omega,fun x hx=>g3 x (by omega)⟩ ?_
 rintro s u6 hu6 ⟨k1,k2,k3⟩
 have hsub6:u0.sub u6:=hsub.trans hu6.sub
 refine Ao Aa ?_
 refine Ap (fun h9=>?_) (fun h9=>?_)
 have h9:((s:Nat):Int)<((T.length:Nat):Int):=of_decide_eq_true h9
 have hsT:s<T.length:=by omega
 have hpt:PtAt u0 (A.add (s*5)) (tkC (T.getD s tv0)):=Aw.ptAt h7 (i:=s) (by rw[Lay.d_n];exact hsT) h6
 have hVs:V.getD (m+(s-i)) tv0=T.getD s tv0:=by
  have hg:((Bi P).drop m)[s-i]?=T[s]?:=by
   rw[←htk,Bi,List.getElem?_append_left (by rw[List.length_drop];omega),List.getElem?_drop,show i+(s-i)=s by omega]
  rw[List.getElem?_drop]at hg
  rw[List.getD_eq_getElem?_getD,List.getD_eq_getElem?_getD,hV,List.getElem?_take,if_pos (by omega),hg]
 have hTl:T.length≤9223372036854775807:=by
  obtain⟨_,_,e',q1,q2,_⟩:=h7
  cases e'
  exact Nat.le_trans q1 q2
 refine x_draw mix (by kernel_rfl) (Cq Aa ?_)
 refine xd_fieldV Aa O O O O O O O ?_
 refine xd_gloadV Aa (.slice (some A) T.length c') O O O O O O O (fun _=>cell_of (hsub6.h _ _ h5) (j:=0) rfl) ?_
 refine Cq Aa ?_
 refine xd_gidxV Aa O O O O O O O O O (fun _=>⟨by omega,by omega⟩) ?_
 refine Cq Aa ?_
 have ead:A.add ((((s:Nat):Int)).toNat*ti87.sz)=A.add (s*5):=by rw[Int.toNat_natCast];rfl
 rw[←ead]at hpt
 have hpt6:=hpt.sub hsub6
 refine xl_ptr 40 (tkC (T.getD s tv0)) O O hpt6 ?_
 refine Ab Aa ?_
 refine xl_ptrG 47 (tkC (T.getD s tv0)) rfl hpt6 ?_
 refine Ab Aa ?_
 refine xl_ptrG 54 (tkC (T.getD s tv0)) rfl hpt6 ?_
 refine Ab Aa ?_
 refine xl_ptrG 62 (tkC (T.getD s tv0)) rfl hpt6 ?_
 refine Ab Aa ?_
 refine Ap (fun h10=>?_) (fun h10=>?_)
 have h10:pctB (T.getD s tv0)=true:=h10
 refine Ay (fun _ _=>uniq (m:=m+(s-i)) ?_ (fstP_at V _ k3 (by omega) (by rw[hVs];exact h10)))
 rw[←adv_add,e,adv_in (s-i) b T i R (by omega),show i+(s-i)=s by omega]
 exact⟨rfl,rfl,hsT,h4,A,c',rp,rk,h5,h6,h7,h8⟩
 have h10:pctB (T.getD s tv0)=false:=h10
 repeat refine sdI ?_
 exact Bj (s+1) [] .z ⟨by omega,by omega,fun x hx=>by
  rcases Nat.lt_or_ge x (m+(s-i))with h11|h11
  exact k3 x h11
  rw[show x=m+(s-i) by omega,hVs];exact h10⟩ (by show T.length-(s+1)<T.length-s;omega)
 have h9:¬((s:Nat):Int)<((T.length:Nat):Int):=of_decide_eq_false h9
 obtain rfl:s=T.length:=by omega
 obtain⟨p2,k2',s1,s2⟩:=settled_any hpre
 refine Am (plV p2 k2') O O O O fn39 O O (fun E w' F hs=>s2 w' (hsub6.trans (Au hs.imm))) ?_
 refine Ab Aa ?_
 exact Bj (p2,k2',m+(T.length-i)) [] .z ⟨by omega,s1,k3⟩ (by show n-(m+(T.length-i))<n-m;omega)
 have h1:(!(decide (a=q)&&decide (c=j)))=false:=h1
 have hm:m=n:=by
  have:decide (a=q)&&decide (c=j):=by simpa using h1
  simp only[Bool.and_eq_true,decide_eq_true_eq]at this
  have:=hsame.1 this
  omega
 subst hm
 exact Ay (fun _ _=>uniq g2 (by rw[fstP_none V (fun x hx=>g3 x (by omega)),hVl]))
def hideX (m:Nat) (x:XT):XT:={x with hide:=x.hide ||| m}
theorem TksR.get {u:Im}:∀ {T:List TV} {X:List XT},TksR u T X→∀ {i:Nat} {t:TV},T[i]?=some t→∃x,X[i]?=some x∧TkR u t x
 |[],[],_,i,t,h=>by simp at h
 |t0::T,x0::X,h,0,t,ht=>by
  simp only[List.getElem?_cons_zero,Option.some.injEq]at ht
  subst ht
  exact⟨x0,rfl,h.1⟩
 |t0::T,x0::X,h,i+1,t,ht=>TksR.get h.2 (by simpa using ht)
 |[],_::_,h,_,_,_=>h.elim
 |_::_,[],h,_,_,_=>h.elim
theorem TksR.snoc {u:Im} {T:List TV} {X:List XT} {t:TV} {x:XT} (h:TksR u T X) (k:TkR u t x):TksR u (T++[t]) (X++[x]):=h.append ⟨k,trivial⟩
theorem hid_step {u0 us u u2:Im} {L:List TV} {X:List XT} {i m:Nat} {t:TV} {x:XT} {b:Option Addr} (g4:Nw u0 (dif us u) (fun v=>TksR v (L.take i) ((X.take i).map (hideX m)))) (hu2:u.sub u2)
 (hx:X[i]?=some x) (htx:TkR u0 t x) (hi:i<L.length) (hb:Nw u0 (dif us u2) (fun v=>Bk v b (x.hide ||| m))) :
 Nw u0 (dif us u2) (fun v=>TksR v ((L.set i ⟨t.pv,b⟩).take (i+1)) ((X.take (i+1)).map (hideX m))):=fun v h0 h1=>by
 rw[Cj (List.getElem?_set_self hi),List.take_set_of_le (Nat.le_refl _),Cj hx,List.map_append]
 exact(g4.sub (Ba hu2) v h0 h1).snoc ⟨htx.kind,htx.text,htx.space,htx.parts.sub h0,hb v h0 h1⟩
end Go.Proofs.YtnjlkdhdinfejaaGreat
namespace Go.GV
open Go.RowKit Go.Maps Go.MapKept
theorem xl_lenO {C:Cx} {all:List Oper} {o:Oper} {r:List Oper} {Q:Bb} {st:St} {u:Im} {t d kt et k b n:Nat} {g:Gd} {f:ByteArray→Option Value} {m:Operand} (ho:o.op=.call {callee:=.builtin .len,args:=#[m],argTypes:=#[t]}) (hg:Bp all st o=some g) (hd:o.dst=some d)
 (ht:C.P.underlying t=some (.map kt et)) (hfr:Bg C.N st d g=true)
 (hm:opd st g m=some (.v (.map (some b)))) (hk:look st.ow k=some (.gen (mapO b n f)))
 (K:XL C all r Q (st.put d g (.v (.int .i64 (n:Int)))) u):XL C all (o::r) Q st u:=by
 refine xl_gval _ hg hd (fun c hc=>by rw[ho]at hc;cases hc) hfr (fun _ E a w hok hgs=>?_) K
 obtain⟨F,hsat⟩:=hok.sat
 obtain⟨_,es,clock,h1,h2⟩:=hsat.holds k _ hk
 have e1:=(Al hok.agr hgs hm).1
 obtain⟨dst,op,ty,pos,after,guard⟩:=o
 simp only at ho
 subst ho
 simp only[SV.den]at e1
 have hn:=h2.size
 have:∀ty,(Builtin.len_ #[t] ty #[a.eval m]).run C.P w=.ok (.int .i64 (n:Int)) w:=by
  intro ty
  rw[e1,←hn]
  simp[Builtin.len_,run_underlying ht,Go.MapKept.run_getObj_map h1,goInt,Result.andThen]
 simp only[execOp,resolve]
 simp[invoke,builtin,this]
theorem xl_lookOv {C:Cx} {all:List Oper} {o:Oper} {r:List Oper} {Q:Bb} {st:St} {u:Im} {t d kt et k b n:Nat} {g:Gd} {f:ByteArray→Option Value} {m x:Operand} {s:ByteArray} {ok:Bool} (ho:o.op=.lookup t m x ok) (hg:Bp all st o=some g) (hd:o.dst=some d)
 (ht:C.P.underlying t=some (.map kt et)) (hkt:C.P.underlying kt=some .string) (hfr:Bg C.N st d g=true)
 (hm:opd st g m=some (.v (.map (some b)))) (hx:opd st g x=some (.v (.string s))) (hk:look st.ow k=some (.gen (mapO b n f)))
 (z:Value) (hz:∀w,(zeroValue et).run C.P w=.ok z w) (v:Value) (hv:lookV ok (f s) z=v)
 (K:XL C all r Q (st.put d g (.v v)) u):XL C all (o::r) Q st u:=by
 subst hv
 exact xl_lookO ho hg hd ht hkt hfr hm hx hk z hz K
end Go.GV
namespace Go.Proofs.YtnjlkdhdinfejaaGreat
open Go.GV Go.RowKit
abbrev Nms:=List (ByteArray×Addr)
def plI:Nms→ByteArray→Nat→Option (Nat×Addr)
 |[],_,_=>none
 |x::L,s,i=>if x.1=s then some (i,x.2)else plI L s (i+1)
def idI:List ByteArray→ByteArray→Nat→Option Nat
 |[],_,_=>none
 |x::L,s,i=>if x=s then some i else idI L s (i+1)
def plF (N:Nms) (s:ByteArray):Option Value:=(plI N s 0).map fun x=>.pointer (some x.2)
theorem plI_id:∀(N:Nms) (s:ByteArray) (i:Nat),(plI N s i).map (·.1)=idI (N.map (·.1)) s i
 |[],s,i=>rfl
 |x::N,s,i=>by
  rw[plI,List.map_cons,idI]
  split
  rfl
  exact plI_id N s (i+1)
theorem plI_get:∀(N:Nms) (s:ByteArray) (i j:Nat) (a:Addr),plI N s i=some (j,a)→i≤j∧N[j-i]?=some (s,a)
 |[],s,i,j,a,h=>by cases h
 |x::N,s,i,j,a,h=>by
  rw[plI]at h
  split at h
  rename_i e
  cases h
  exact⟨Nat.le_refl _,by rw[Nat.sub_self,List.getElem?_cons_zero,←e]⟩
  obtain⟨h1,h2⟩:=plI_get N s (i+1) j a h
  exact⟨by omega,by rw[show j-i=(j-(i+1))+1 by omega,List.getElem?_cons_succ];exact h2⟩
theorem plI_snoc:∀(N:Nms) (y:ByteArray×Addr) (s:ByteArray) (i:Nat),plI (N++[y]) s i=match plI N s i with
  |some r=>some r
  |none=>if y.1=s then some (i+N.length,y.2)else none
 |[],y,s,i=>rfl
 |x::N,y,s,i=>by
  rw[List.cons_append,plI,plI]
  by_cases e:x.1=s
  rw[if_pos e,if_pos e]
  rw[if_neg e,if_neg e,plI_snoc N y s (i+1),List.length_cons,show i+1+N.length=i+(N.length+1) by omega]
abbrev ME:=ByteArray→Option (MT×MA)
structure MsAt (u:Im) (bm n:Nat) (M:ME):Prop where
 map:MapAt u bm n (fun s=>(M s).map fun x=>mVal x.1 x.2)
 ok:∀s m sa,M s=some (m,sa)→Aw u (.slice sa.1 m.ps.length sa.2.1) (Bh.d m.ps)∧Aw u (.slice sa.2.2.1 m.body.length sa.2.2.2) (pvY.d m.body)∧bodyOk m.fn m.body∧m.ps.length≤1000000∧m.body.length≤1000000
theorem MsAt.sub {u u':Im} {bm n:Nat} {M:ME} (h:MsAt u bm n M) (hu:u.sub u'):MsAt u' bm n M:=⟨h.map.sub hu,fun s m sa hs=>by
 obtain⟨h1,h2,h3⟩:=h.ok s m sa hs
 exact⟨h1.sub hu,h2.sub hu,h3⟩⟩
def PSt (u:Im) (M:ME) (N:Nms):Prop:=∀j x,N[j]?=some x→∃m sa,M x.1=some (m,sa)∧PlanAt u x.2 j m sa (itemsL m.fn (numP m) m.body) (usedL m.ps.length (itemsL m.fn (numP m) m.body))
theorem PSt.sub {u u':Im} {M:ME} {N:Nms} (h:PSt u M N) (hu:u.sub u'):PSt u' M N:=fun j x hx=>by
 obtain⟨m,sa,h1,h2⟩:=h j x hx
 exact⟨m,sa,h1,h2.sub hu⟩
def calX (inM:ByteArray→Bool) (NS:List ByteArray) (kind:Int) (text:ByteArray) (hide:Nat):List ByteArray×Option Nat:=
 if kind=1 then
  match idI NS text 0 with
  |some i=>(NS,if hide.testBit i then none else some i)
  |none=>if inM text then(NS++[text],if hide.testBit NS.length then none else some NS.length)else(NS,none)
 else(NS,none)
theorem calX_hit {inM:ByteArray→Bool} {NS:List ByteArray} {kind:Int} {text:ByteArray} {hide j:Nat} (h1:kind=1) (h2:idI NS text 0=some j):calX inM NS kind text hide=(NS,if hide.testBit j then none else some j):=by
 unfold calX;rw[if_pos h1,h2]
theorem calX_no {inM:ByteArray→Bool} {NS:List ByteArray} {kind:Int} {text:ByteArray} {hide:Nat} (h1:kind=1) (h2:idI NS text 0=none) (h3:inM text=false):calX inM NS kind text hide=(NS,none):=by
 unfold calX;rw[if_pos h1,h2];show(if inM text=true then _ else _)=_;rw[if_neg (by rw[h3];simp)]
theorem calX_new {inM:ByteArray→Bool} {NS:List ByteArray} {kind:Int} {text:ByteArray} {hide:Nat} (h1:kind=1) (h2:idI NS text 0=none) (h3:inM text=true) :
 calX inM NS kind text hide=(NS++[text],if hide.testBit NS.length then none else some NS.length):=by
 unfold calX;rw[if_pos h1,h2];show(if inM text=true then _ else _)=_;rw[if_pos h3]
def adO (N:Nms):Option Nat→Option Addr
 |none=>none
 |some i=>(N[i]?).map (·.2)
abbrev xBox (bm bp:Nat) (left:Int):List SV:=[.v (.map (some bm)),.v (.map (some bp)),.v (.int .i64 left)]
abbrev xOw (bm bp:Nat) (left:Int) (N:Nms):GV.Own:=[(0,.box 90 (xBox bm bp left)),(1,.gen (mapO bp N.length (plF N)))]
theorem plan_cell {u:Im} {ad:Addr} {id:Nat} {m:MT} {s:MA} {I:List IV} {U:List Bool} (h:PlanAt u ad id m s I U):u.cell? (ad.add 5)=some (.int .i64 (id:Int)):=by
 obtain⟨b,xi,xu,rfl,h1,_⟩:=h.it
 exact cell_of h1 rfl
theorem plF_snoc {N:Nms} {s:ByteArray} (h:plI N s 0=none) (ad:Addr):(fun s'=>if s'=s then some (Value.pointer (some ad))else plF N s')=plF (N++[(s,ad)]):=by
 funext s'
 unfold plF
 rw[plI_snoc]
 by_cases e:s'=s
 subst e;rw[if_pos rfl,h];simp
 rw[if_neg e]
 cases plI N s' 0 with
 |none=>simp[Ne.symm e]
 |some r=>rfl
theorem Ch {us u v:Im} (h:us.sub u):(dif u v).sub (dif us v):=⟨fun b o hb=>by
 have hb:(match u.h b with|some _=>none|none=>v.h b)=some o:=hb
 cases hu:u.h b with
 |some y=>rw[hu]at hb;cases hb
 |none=>
  rw[hu]at hb
  refine dif_new ?_ hb
  cases hs:us.h b with
  |none=>rfl
  |some y=>rw[h.h b y hs]at hu;cases hu⟩
theorem called_scx {u0:Im} {M:ME} {N:Nms} {bm nm bp:Nat} {left:Int} {t:TV} {x:XT} (hM:MsAt u0 bm nm M) (hN:PSt u0 M N) (ht:TkR u0 t x) (hl:N.length≤1000000) :
 SCX Tryz.prog 70 u0 2 (xOw bm bp left N) [.p 0 0,.v (.agg (tkC t).toArray)] (fun(N',r)=>(xOw bm bp left N',2,[.v (.pointer r)]))
  (fun(N',r)=>N'.map (·.1)=(calX (fun s=>(M s).isSome) (N.map (·.1)) x.kind x.text x.hide).1∧r=adO N' (calX (fun s=>(M s).isSome) (N.map (·.1)) x.kind x.text x.hide).2) (fun(N',r) u=>PSt u M N'):=by
 refine x_scx Aa Tryz.func70 O O O O (fun us hus=>?_)
 have hk:=ht.kind
 have htx:=ht.text
 refine Ao Aa ?_
 refine Ap (fun h1=>?_) (fun h1=>?_)
 have h1:decide (t.pv.kind≠1)=true:=h1
 have h1:x.kind≠1:=by rw[←hk];simpa using h1
 refine⟨(N,none),[],rfl,.of O O O O O rfl,rfl,Nat.le_refl _,⟨by unfold calX;rw[if_neg h1],by unfold calX;rw[if_neg h1];rfl⟩,fun v a b=>hN.sub a⟩
 have h1:decide (t.pv.kind≠1)=false:=h1
 have h1:x.kind=1:=by rw[←hk];simpa using h1
 obtain⟨V,B,hlk,hVB⟩:∃V B,lookV true (plF N t.pv.text) (.pointer none)=.tuple #[.pointer V,.bool B]∧(match plI N x.text 0 with|some y=>V=some y.2∧B=true|none=>V=none∧B=false):=by
  rw[htx]
  unfold plF
  cases plI N x.text 0 with
  |none=>exact⟨none,false,rfl,rfl,rfl⟩
  |some y=>exact⟨some y.2,true,rfl,rfl,rfl⟩
 refine x_via (σ:=Unit) (fun _=>⟨[(5,.v (.pointer V)),(6,.v (.bool B)),(3,.p 2 0),(0,.p 0 0)],[],(2,.box 87 ((tkC t).map .v))::xOw bm bp left N,3⟩) (fun _ _=>True) (fun _=>by show 3≤3;omega) ?_ ?_
 refine Bw mix ?_
 refine At Aa (fuel:=8) [0,4,1,5,2] rfl (by kernel_rfl) (by kernel_rfl) (fun _ _ _ hh=>hh) (by kernel_rfl) (by kernel_rfl) ?_
 refine Aq 3 6 (by kernel_rfl) O O ?_ ?_
 refine Ab Aa ?_
 refine Ae (fuel:=6) [6] O O (by kernel_rfl) (Ab Aa ?_)
 refine Ag 7 (by kernel_rfl) rfl ?_
 refine xl_lookOv (k:=1) O O O Tryz.underlying88 Tryz.underlying9 O O O O (.pointer none) (fun w=>rfl) (.tuple #[.pointer V,.bool B]) hlk ?_
 refine Ad ?_
 refine At Aa (fuel:=0) [8,9,10,11,12] rfl (by kernel_rfl) (by kernel_rfl) (fun _ _ _ hh=>hh) (by kernel_rfl) (by kernel_rfl) ?_
 refine Aj (by kernel_rfl) rfl ?_
 exact Af () [] .z trivial
 refine Ab Aa ?_
 refine Ae (fuel:=6) [3] O O (by kernel_rfl) (Ab Aa ?_)
 refine Ag 7 (by kernel_rfl) rfl ?_
 refine xl_lookOv (k:=1) O O O Tryz.underlying88 Tryz.underlying9 O O O O (.pointer none) (fun w=>rfl) (.tuple #[.pointer V,.bool B]) hlk ?_
 refine Ad ?_
 refine At Aa (fuel:=0) [8,9,10,11,12] rfl (by kernel_rfl) (by kernel_rfl) (fun _ _ _ hh=>hh) (by kernel_rfl) (by kernel_rfl) ?_
 refine Aj (by kernel_rfl) rfl ?_
 exact Af () [] .z trivial
 rintro _ u1 hu1 -
 have hsub1:u0.sub u1:=hus.trans hu1.sub
 cases hpl:plI N x.text 0 with
 |some y=>
  obtain⟨j,ad⟩:=y
  rw[hpl]at hVB
  obtain⟨rfl,rfl⟩:=hVB
  refine x_iff rfl ?_
  obtain⟨-,hj⟩:=plI_get _ _ _ _ _ hpl
  rw[Nat.sub_zero]at hj
  have hjl:j<N.length:=(List.getElem?_eq_some_iff.1 hj).1
  obtain⟨m,sa,hm,hPl⟩:=hN j _ hj
  have hid:idI (N.map (·.1)) x.text 0=some j:=by rw[←plI_id,hpl];rfl
  have hcal:calX (fun s=>(M s).isSome) (N.map (·.1)) x.kind x.text x.hide=(N.map (·.1),if x.hide.testBit j then none else some j):=calX_hit h1 hid
  refine x_via (σ:=Unit) (fun _=>⟨[(5,.v (.pointer (some ad))),(60,.v (.bool (x.hide.testBit j)))],[],xOw bm bp left N,3⟩) (fun _ _=>True) (fun _=>by show 3≤3;omega) ?_ ?_
  have hsub3:=hsub1
  have hcell:=plan_cell (hPl.sub hsub3)
  refine Bw mix ?_
  refine At Aa (fuel:=4) [0,2,3] rfl (by kernel_rfl) (by kernel_rfl) (fun _ _ _ hh=>hh) (by kernel_rfl) (by kernel_rfl) ?_
  refine Aq 1 4 (by kernel_rfl) O O ?_ ?_
  refine Ab Aa ?_
  refine Ag 4 (by kernel_rfl) rfl ?_
  refine Cl Aa O O O O O O O ?_
  refine Ad ?_
  refine Ag 5 (by kernel_rfl) rfl ?_
  refine Cr Aa (.int .i64 (j:Int)) O O O O O O O (fun _=>hcell) ?_
  refine Ad ?_
  refine Ag 6 (by kernel_rfl) rfl ?_
  refine Am (.bool (x.hide.testBit j)) O O O O fn100 O O (fun E w F hs=>has_any t.hp x.hide j w ((ht.hide.sub hsub3).sub (Au hs.imm)) (by omega)) ?_
  refine Ad ?_
  refine Aj (by kernel_rfl) rfl ?_
  exact Af () [] .z trivial
  refine Cl Aa O O O O O O O ?_
  refine Ad ?_
  refine Aq 1 5 (by kernel_rfl) O O ?_ ?_
  refine Ab Aa ?_
  refine Ag 5 (by kernel_rfl) rfl ?_
  refine Cr Aa (.int .i64 (j:Int)) O O O O O O O (fun _=>hcell) ?_
  refine Ad ?_
  refine Ag 6 (by kernel_rfl) rfl ?_
  refine Am (.bool (x.hide.testBit j)) O O O O fn100 O O (fun E w F hs=>has_any t.hp x.hide j w ((ht.hide.sub hsub3).sub (Au hs.imm)) (by omega)) ?_
  refine Ad ?_
  refine Aj (by kernel_rfl) rfl ?_
  exact Af () [] .z trivial
  refine Cr Aa (.int .i64 (j:Int)) O O O O O O O (fun _=>hcell) ?_
  refine Ad ?_
  refine Ae (fuel:=1) [1] O O (by kernel_rfl) (Ab Aa ?_)
  refine Ag 6 (by kernel_rfl) rfl ?_
  refine Am (.bool (x.hide.testBit j)) O O O O fn100 O O (fun E w F hs=>has_any t.hp x.hide j w ((ht.hide.sub hsub3).sub (Au hs.imm)) (by omega)) ?_
  refine Ad ?_
  refine Aj (by kernel_rfl) rfl ?_
  exact Af () [] .z trivial
  rintro _ u3 hu3 -
  refine Ap (fun h2=>?_) (fun h2=>?_)
  have h2:x.hide.testBit j=true:=h2
  refine⟨(N,none),[],rfl,.of O O O O O rfl,rfl,Nat.le_refl 2,⟨by rw[hcal],by rw[hcal,if_pos h2];rfl⟩,fun v a b=>hN.sub a⟩
  have h2:x.hide.testBit j=false:=h2
  refine⟨(N,some ad),[],rfl,.of O O O O O rfl,rfl,Nat.le_refl 2,⟨by rw[hcal],by rw[hcal,if_neg (by rw[h2];simp)];show some ad=(N[j]?).map (·.2);rw[hj];rfl⟩,fun v a b=>hN.sub a⟩
 |none=>
  rw[hpl]at hVB
  obtain⟨rfl,rfl⟩:=hVB
  refine Be rfl ?_
  have hid:idI (N.map (·.1)) x.text 0=none:=by rw[←plI_id,hpl];rfl
  obtain⟨nn,ff,A1,l1,c1,vv,A2,l2,c2,B2,hlk2,hV2⟩:∃nn ff A1 l1 c1 vv A2 l2 c2 B2,lookV true ((M t.pv.text).map fun x=>mVal x.1 x.2) (.agg #[.string ⟨#[]⟩,.bool false,.slice none 0 0,.bool false,.slice none 0 0])=.tuple #[.agg #[.string nn,.bool ff,.slice A1 l1 c1,.bool vv,.slice A2 l2 c2],.bool B2] ∧
   (match M x.text with|some y=>nn=y.1.name∧ff=y.1.fn∧A1=y.2.1∧l1=y.1.ps.length∧c1=y.2.2.1∧vv=y.1.va∧A2=y.2.2.2.1∧l2=y.1.body.length∧c2=y.2.2.2.2∧B2=true|none=>B2=false):=by
   rw[htx]
   cases M x.text with
   |none=>exact⟨_,_,_,_,_,_,_,_,_,_,rfl,rfl⟩
   |some y=>exact⟨_,_,_,_,_,_,_,_,_,_,rfl,rfl,rfl,rfl,rfl,rfl,rfl,rfl,rfl,rfl,rfl⟩
  refine x_via (σ:=Unit) (fun _=>⟨[(0,.p 0 0),(3,.p 2 0),(7,.p 3 0),(8,.v (.bool B2))],[],(3,.box 27 [.v (.string nn),.v (.bool ff),.v (.slice A1 l1 c1),.v (.bool vv),.v (.slice A2 l2 c2)])::(2,.box 87 ((tkC t).map .v))::xOw bm bp left N,4⟩) (fun _ _=>True) (fun _=>by show 3≤4;omega) ?_ ?_
  refine Bw mix ?_
  refine At Aa (fuel:=9) [0,4,1,5,2] rfl (by kernel_rfl) (by kernel_rfl) (fun _ _ _ hh=>hh) (by kernel_rfl) (by kernel_rfl) ?_
  refine xa_three 3 6 11 (by kernel_rfl) O O O ?_ ?_ ?_
  refine Ab Aa ?_
  refine Aq 6 11 (by kernel_rfl) O O ?_ ?_
  refine Ab Aa ?_
  refine Aq 7 11 (by kernel_rfl) O O ?_ ?_
  refine xl_lookMv O O O Tryz.underlying50 Tryz.underlying9 O O O (hM.map.sub hsub1) (.agg #[.string ⟨#[]⟩,.bool false,.slice none 0 0,.bool false,.slice none 0 0]) (fun w=>rfl) (.tuple #[.agg #[.string nn,.bool ff,.slice A1 l1 c1,.bool vv,.slice A2 l2 c2],.bool B2]) hlk2 ?_
  refine Ad ?_
  refine At Aa (fuel:=3) [8,9,10] rfl (by kernel_rfl) (by kernel_rfl) (fun _ _ _ hh=>hh) (by kernel_rfl) (by kernel_rfl) ?_
  refine Ae (fuel:=0) [11,12,13] O O (by kernel_rfl) (Ab Aa ?_)
  refine Aj (by kernel_rfl) rfl ?_
  exact Af () [] .z trivial
  refine Ab Aa ?_
  refine Ag 7 (by kernel_rfl) rfl ?_
  refine xl_lookMv O O O Tryz.underlying50 Tryz.underlying9 O O O (hM.map.sub hsub1) (.agg #[.string ⟨#[]⟩,.bool false,.slice none 0 0,.bool false,.slice none 0 0]) (fun w=>rfl) (.tuple #[.agg #[.string nn,.bool ff,.slice A1 l1 c1,.bool vv,.slice A2 l2 c2],.bool B2]) hlk2 ?_
  refine Ad ?_
  refine Ae (fuel:=4) [8] O O (by kernel_rfl) (Ab Aa ?_)
  refine At Aa (fuel:=2) [9,10] rfl (by kernel_rfl) (by kernel_rfl) (fun _ _ _ hh=>hh) (by kernel_rfl) (by kernel_rfl) ?_
  refine Ae (fuel:=0) [12,13] O O (by kernel_rfl) (Ab Aa ?_)
  refine Aj (by kernel_rfl) rfl ?_
  exact Af () [] .z trivial
  refine Ab Aa ?_
  refine Ae (fuel:=6) [6] O O (by kernel_rfl) (Ab Aa ?_)
  refine Ag 7 (by kernel_rfl) rfl ?_
  refine xl_lookMv O O O Tryz.underlying50 Tryz.underlying9 O O O (hM.map.sub hsub1) (.agg #[.string ⟨#[]⟩,.bool false,.slice none 0 0,.bool false,.slice none 0 0]) (fun w=>rfl) (.tuple #[.agg #[.string nn,.bool ff,.slice A1 l1 c1,.bool vv,.slice A2 l2 c2],.bool B2]) hlk2 ?_
  refine Ad ?_
  refine Ae (fuel:=4) [8] O O (by kernel_rfl) (Ab Aa ?_)
  refine At Aa (fuel:=2) [9,10] rfl (by kernel_rfl) (by kernel_rfl) (fun _ _ _ hh=>hh) (by kernel_rfl) (by kernel_rfl) ?_
  refine Ae (fuel:=0) [12,13] O O (by kernel_rfl) (Ab Aa ?_)
  refine Aj (by kernel_rfl) rfl ?_
  exact Af () [] .z trivial
  refine Ab Aa ?_
  refine Aq 3 11 (by kernel_rfl) O O ?_ ?_
  refine Ab Aa ?_
  refine Aq 7 11 (by kernel_rfl) O O ?_ ?_
  refine xl_lookMv O O O Tryz.underlying50 Tryz.underlying9 O O O (hM.map.sub hsub1) (.agg #[.string ⟨#[]⟩,.bool false,.slice none 0 0,.bool false,.slice none 0 0]) (fun w=>rfl) (.tuple #[.agg #[.string nn,.bool ff,.slice A1 l1 c1,.bool vv,.slice A2 l2 c2],.bool B2]) hlk2 ?_
  refine Ad ?_
  refine At Aa (fuel:=3) [8,9,10] rfl (by kernel_rfl) (by kernel_rfl) (fun _ _ _ hh=>hh) (by kernel_rfl) (by kernel_rfl) ?_
  refine Ae (fuel:=0) [11,12,13] O O (by kernel_rfl) (Ab Aa ?_)
  refine Aj (by kernel_rfl) rfl ?_
  exact Af () [] .z trivial
  refine Ab Aa ?_
  refine Ag 7 (by kernel_rfl) rfl ?_
  refine xl_lookMv O O O Tryz.underlying50 Tryz.underlying9 O O O (hM.map.sub hsub1) (.agg #[.string ⟨#[]⟩,.bool false,.slice none 0 0,.bool false,.slice none 0 0]) (fun w=>rfl) (.tuple #[.agg #[.string nn,.bool ff,.slice A1 l1 c1,.bool vv,.slice A2 l2 c2],.bool B2]) hlk2 ?_
  refine Ad ?_
  refine Ae (fuel:=4) [8] O O (by kernel_rfl) (Ab Aa ?_)
  refine At Aa (fuel:=2) [9,10] rfl (by kernel_rfl) (by kernel_rfl) (fun _ _ _ hh=>hh) (by kernel_rfl) (by kernel_rfl) ?_
  refine Ae (fuel:=0) [12,13] O O (by kernel_rfl) (Ab Aa ?_)
  refine Aj (by kernel_rfl) rfl ?_
  exact Af () [] .z trivial
  refine Ab Aa ?_
  refine Ae (fuel:=6) [3] O O (by kernel_rfl) (Ab Aa ?_)
  refine Ag 7 (by kernel_rfl) rfl ?_
  refine xl_lookMv O O O Tryz.underlying50 Tryz.underlying9 O O O (hM.map.sub hsub1) (.agg #[.string ⟨#[]⟩,.bool false,.slice none 0 0,.bool false,.slice none 0 0]) (fun w=>rfl) (.tuple #[.agg #[.string nn,.bool ff,.slice A1 l1 c1,.bool vv,.slice A2 l2 c2],.bool B2]) hlk2 ?_
  refine Ad ?_
  refine Ae (fuel:=4) [8] O O (by kernel_rfl) (Ab Aa ?_)
  refine At Aa (fuel:=2) [9,10] rfl (by kernel_rfl) (by kernel_rfl) (fun _ _ _ hh=>hh) (by kernel_rfl) (by kernel_rfl) ?_
  refine Ae (fuel:=0) [12,13] O O (by kernel_rfl) (Ab Aa ?_)
  refine Aj (by kernel_rfl) rfl ?_
  exact Af () [] .z trivial
  refine Ab Aa ?_
  refine Aq 3 6 (by kernel_rfl) O O ?_ ?_
  refine Ab Aa ?_
  refine Ae (fuel:=6) [6] O O (by kernel_rfl) (Ab Aa ?_)
  refine Ag 7 (by kernel_rfl) rfl ?_
  refine xl_lookMv O O O Tryz.underlying50 Tryz.underlying9 O O O (hM.map.sub hsub1) (.agg #[.string ⟨#[]⟩,.bool false,.slice none 0 0,.bool false,.slice none 0 0]) (fun w=>rfl) (.tuple #[.agg #[.string nn,.bool ff,.slice A1 l1 c1,.bool vv,.slice A2 l2 c2],.bool B2]) hlk2 ?_
  refine Ad ?_
  refine Ae (fuel:=4) [8] O O (by kernel_rfl) (Ab Aa ?_)
  refine At Aa (fuel:=2) [9,10] rfl (by kernel_rfl) (by kernel_rfl) (fun _ _ _ hh=>hh) (by kernel_rfl) (by kernel_rfl) ?_
  refine Ae (fuel:=0) [12,13] O O (by kernel_rfl) (Ab Aa ?_)
  refine Aj (by kernel_rfl) rfl ?_
  exact Af () [] .z trivial
  refine Ab Aa ?_
  refine Ae (fuel:=6) [3] O O (by kernel_rfl) (Ab Aa ?_)
  refine Ag 7 (by kernel_rfl) rfl ?_
  refine xl_lookMv O O O Tryz.underlying50 Tryz.underlying9 O O O (hM.map.sub hsub1) (.agg #[.string ⟨#[]⟩,.bool false,.slice none 0 0,.bool false,.slice none 0 0]) (fun w=>rfl) (.tuple #[.agg #[.string nn,.bool ff,.slice A1 l1 c1,.bool vv,.slice A2 l2 c2],.bool B2]) hlk2 ?_
  refine Ad ?_
  refine Ae (fuel:=4) [8] O O (by kernel_rfl) (Ab Aa ?_)
  refine At Aa (fuel:=2) [9,10] rfl (by kernel_rfl) (by kernel_rfl) (fun _ _ _ hh=>hh) (by kernel_rfl) (by kernel_rfl) ?_
  refine Ae (fuel:=0) [12,13] O O (by kernel_rfl) (Ab Aa ?_)
  refine Aj (by kernel_rfl) rfl ?_
  exact Af () [] .z trivial
  rintro _ u2 hu2 -
  have hsub2:u0.sub u2:=hsub1.trans hu2.sub
  cases hm:M x.text with
  |none=>
   rw[hm]at hV2
   subst hV2
   refine Be rfl ?_
   have hcal:calX (fun s=>(M s).isSome) (N.map (·.1)) x.kind x.text x.hide=(N.map (·.1),none):=calX_no h1 hid (by rw[hm];rfl)
   refine⟨(N,none),[],rfl,.of O O O O O rfl,rfl,Nat.le_refl 2,⟨by rw[hcal],by rw[hcal];rfl⟩,fun v a b=>hN.sub a⟩
  |some y=>
   obtain⟨m,sa⟩:=y
   rw[hm]at hV2
   obtain⟨rfl,rfl,rfl,rfl,rfl,rfl,rfl,rfl,rfl,rfl⟩:=hV2
   obtain⟨q1,q2,q3,q4,q5⟩:=hM.ok _ _ _ hm
   refine x_iff rfl ?_
   refine x_via (σ:=Addr) (fun ad=>⟨[(0,.p 0 0),(3,.p 2 0),(5,.v (.pointer (some ad)))],[],(2,.box 87 ((tkC t).map .v))::xOw bm bp left N,4⟩) (fun ad u=>PlanAt (dif us u) ad N.length m sa (itemsL m.fn (numP m) m.body) (usedL m.ps.length (itemsL m.fn (numP m) m.body))) (fun _=>by show 4≤4;omega) ?_ ?_
   refine Bw mix ?_
   refine At Aa (fuel:=5) [1,2,3] rfl (by kernel_rfl) (by kernel_rfl) (fun _ _ _ hh=>hh) (by kernel_rfl) (by kernel_rfl) ?_
   refine Aq 0 4 (by kernel_rfl) O O ?_ ?_
   refine Ab Aa ?_
   refine Ae (fuel:=3) [4] O O (by kernel_rfl) (Ab Aa ?_)
   refine Ag 5 (by kernel_rfl) rfl ?_
   refine xl_lenO (k:=1) O O O Tryz.underlying88 O O O ?_
   refine Ad ?_
   refine Ag 6 (by kernel_rfl) rfl ?_
   refine Ar (fun v u=>∃ad,v=.pointer (some ad)∧PlanAt u ad N.length m sa (itemsL m.fn (numP m) m.body) (usedL m.ps.length (itemsL m.fn (numP m) m.body))) O O O O fn99 O O (fun E w F hs=>planned_any m sa N.length w ((q1.sub hsub2).imm hs.imm) ((q2.sub hsub2).imm hs.imm) q3 (by omega) (by omega)) (fun v ua ub hub hs9 hR=>?_)
   obtain⟨ad,rfl,hR⟩:=hR
   refine Ad ?_
   refine At Aa (fuel:=0) [7] rfl (by kernel_rfl) (by kernel_rfl) (fun _ _ _ hh=>hh) (by kernel_rfl) (by kernel_rfl) ?_
   refine Aj (by kernel_rfl) rfl ?_
   exact Af ad [] .z (hR.sub (hs9.trans (Ch (hu1.sub.trans hu2.sub))))
   refine Ab Aa ?_
   refine Aq 0 5 (by kernel_rfl) O O ?_ ?_
   refine Ab Aa ?_
   refine Ag 5 (by kernel_rfl) rfl ?_
   refine xl_lenO (k:=1) O O O Tryz.underlying88 O O O ?_
   refine Ad ?_
   refine Ag 6 (by kernel_rfl) rfl ?_
   refine Ar (fun v u=>∃ad,v=.pointer (some ad)∧PlanAt u ad N.length m sa (itemsL m.fn (numP m) m.body) (usedL m.ps.length (itemsL m.fn (numP m) m.body))) O O O O fn99 O O (fun E w F hs=>planned_any m sa N.length w ((q1.sub hsub2).imm hs.imm) ((q2.sub hsub2).imm hs.imm) q3 (by omega) (by omega)) (fun v ua ub hub hs9 hR=>?_)
   obtain⟨ad,rfl,hR⟩:=hR
   refine Ad ?_
   refine At Aa (fuel:=0) [7] rfl (by kernel_rfl) (by kernel_rfl) (fun _ _ _ hh=>hh) (by kernel_rfl) (by kernel_rfl) ?_
   refine Aj (by kernel_rfl) rfl ?_
   exact Af ad [] .z (hR.sub (hs9.trans (Ch (hu1.sub.trans hu2.sub))))
   refine xl_lenO (k:=1) O O O Tryz.underlying88 O O O ?_
   refine Ad ?_
   refine Ae (fuel:=2) [0] O O (by kernel_rfl) (Ab Aa ?_)
   refine Ag 6 (by kernel_rfl) rfl ?_
   refine Ar (fun v u=>∃ad,v=.pointer (some ad)∧PlanAt u ad N.length m sa (itemsL m.fn (numP m) m.body) (usedL m.ps.length (itemsL m.fn (numP m) m.body))) O O O O fn99 O O (fun E w F hs=>planned_any m sa N.length w ((q1.sub hsub2).imm hs.imm) ((q2.sub hsub2).imm hs.imm) q3 (by omega) (by omega)) (fun v ua ub hub hs9 hR=>?_)
   obtain⟨ad,rfl,hR⟩:=hR
   refine Ad ?_
   refine At Aa (fuel:=0) [7] rfl (by kernel_rfl) (by kernel_rfl) (fun _ _ _ hh=>hh) (by kernel_rfl) (by kernel_rfl) ?_
   refine Aj (by kernel_rfl) rfl ?_
   exact Af ad [] .z (hR.sub (hs9.trans (Ch (hu1.sub.trans hu2.sub))))
   rintro ad u3 hu3 hPl
   refine x_via (σ:=Unit) (fun _=>⟨[(0,.p 0 0),(3,.p 2 0),(5,.v (.pointer (some ad)))],[],(2,.box 87 ((tkC t).map .v))::xOw bm bp left (N++[(x.text,ad)]),4⟩) (fun _ _=>True) (fun _=>by show 4≤4;omega) ?_ ?_
   refine Bw mix ?_
   refine At Aa (fuel:=3) [0,4,7,1,5,2] rfl (by kernel_rfl) (by kernel_rfl) (fun _ _ _ hh=>hh) (by kernel_rfl) (by kernel_rfl) ?_
   refine Aq 3 6 (by kernel_rfl) O O ?_ ?_
   refine Ab Aa ?_
   refine Ae (fuel:=1) [6] O O (by kernel_rfl) (Ab Aa ?_)
   refine Ag 8 (by kernel_rfl) rfl ?_
   refine xl_setO (k:=1) O O O Tryz.underlying88 Tryz.underlying9 O O O O (N++[(x.text,ad)]).length (by rw[htx,show(plF N x.text).isSome=false from by unfold plF;rw[hpl];rfl];simp) (plF (N++[(x.text,ad)])) (by rw[htx];exact plF_snoc hpl ad) ?_
   refine Ad ?_
   refine Aj (by kernel_rfl) rfl ?_
   exact Af () [] .z trivial
   refine Ab Aa ?_
   refine Ae (fuel:=1) [3] O O (by kernel_rfl) (Ab Aa ?_)
   refine Ag 8 (by kernel_rfl) rfl ?_
   refine xl_setO (k:=1) O O O Tryz.underlying88 Tryz.underlying9 O O O O (N++[(x.text,ad)]).length (by rw[htx,show(plF N x.text).isSome=false from by unfold plF;rw[hpl];rfl];simp) (plF (N++[(x.text,ad)])) (by rw[htx];exact plF_snoc hpl ad) ?_
   refine Ad ?_
   refine Aj (by kernel_rfl) rfl ?_
   exact Af () [] .z trivial
   rintro _ u4 hu4 -
   obtain⟨j,hj⟩:∃j,j=N.length:=⟨_,rfl⟩
   rw[←hj]at hPl
   have hPl4:PlanAt (dif us u4) ad j m sa (itemsL m.fn (numP m) m.body) (usedL m.ps.length (itemsL m.fn (numP m) m.body)):=hPl.sub (Ba hu4.sub)
   have hcal:calX (fun s=>(M s).isSome) (N.map (·.1)) x.kind x.text x.hide=((N++[(x.text,ad)]).map (·.1),if x.hide.testBit j then none else some j):=by
    rw[calX_new h1 hid (by rw[hm];rfl),List.length_map,←hj];simp
   refine x_via (σ:=Unit) (fun _=>⟨[(5,.v (.pointer (some ad))),(60,.v (.bool (x.hide.testBit j)))],[],xOw bm bp left (N++[(x.text,ad)]),4⟩) (fun _ _=>True) (fun _=>by show 4≤4;omega) ?_ ?_
   have hsub3:u0.sub u4:=(hsub2.trans hu3.sub).trans hu4.sub
   have hcell:=plan_cell (hPl4.sub (Bl us u4))
   refine Bw mix ?_
   refine At Aa (fuel:=4) [0,2,3] rfl (by kernel_rfl) (by kernel_rfl) (fun _ _ _ hh=>hh) (by kernel_rfl) (by kernel_rfl) ?_
   refine Aq 1 4 (by kernel_rfl) O O ?_ ?_
   refine Ab Aa ?_
   refine Ag 4 (by kernel_rfl) rfl ?_
   refine Cl Aa O O O O O O O ?_
   refine Ad ?_
   refine Ag 5 (by kernel_rfl) rfl ?_
   refine Cr Aa (.int .i64 (j:Int)) O O O O O O O (fun _=>hcell) ?_
   refine Ad ?_
   refine Ag 6 (by kernel_rfl) rfl ?_
   refine Am (.bool (x.hide.testBit j)) O O O O fn100 O O (fun E w F hs=>has_any t.hp x.hide j w ((ht.hide.sub hsub3).sub (Au hs.imm)) (by omega)) ?_
   refine Ad ?_
   refine Aj (by kernel_rfl) rfl ?_
   exact Af () [] .z trivial
   refine Cl Aa O O O O O O O ?_
   refine Ad ?_
   refine Aq 1 5 (by kernel_rfl) O O ?_ ?_
   refine Ab Aa ?_
   refine Ag 5 (by kernel_rfl) rfl ?_
   refine Cr Aa (.int .i64 (j:Int)) O O O O O O O (fun _=>hcell) ?_
   refine Ad ?_
   refine Ag 6 (by kernel_rfl) rfl ?_
   refine Am (.bool (x.hide.testBit j)) O O O O fn100 O O (fun E w F hs=>has_any t.hp x.hide j w ((ht.hide.sub hsub3).sub (Au hs.imm)) (by omega)) ?_
   refine Ad ?_
   refine Aj (by kernel_rfl) rfl ?_
   exact Af () [] .z trivial
   refine Cr Aa (.int .i64 (j:Int)) O O O O O O O (fun _=>hcell) ?_
   refine Ad ?_
   refine Ae (fuel:=1) [1] O O (by kernel_rfl) (Ab Aa ?_)
   refine Ag 6 (by kernel_rfl) rfl ?_
   refine Am (.bool (x.hide.testBit j)) O O O O fn100 O O (fun E w F hs=>has_any t.hp x.hide j w ((ht.hide.sub hsub3).sub (Au hs.imm)) (by omega)) ?_
   refine Ad ?_
   refine Aj (by kernel_rfl) rfl ?_
   exact Af () [] .z trivial
   rintro _ u5 hu5 -
   have hlast:∀v,u0.sub v→(dif us u5).sub v→PSt v M (N++[(x.text,ad)]):=fun v a b i y hy=>by
    by_cases hi:i<N.length
    rw[List.getElem?_append_left hi]at hy
    obtain⟨m',sa',e1,e2⟩:=hN i y hy
    exact⟨m',sa',e1,e2.sub a⟩
    have hi2:i=N.length:=by
     have:=(List.getElem?_eq_some_iff.1 hy).1
     rw[List.length_append,List.length_singleton]at this
     omega
    subst hi2
    rw[List.getElem?_append_right (Nat.le_refl _),Nat.sub_self,List.getElem?_cons_zero]at hy
    cases hy
    exact⟨m,sa,hm,hj▸hPl4.sub ((Ba hu5.sub).trans b)⟩
   refine Ap (fun h2=>?_) (fun h2=>?_)
   have h2:x.hide.testBit j=true:=h2
   refine⟨(N++[(x.text,ad)],none),[],rfl,.of O O O O O rfl,rfl,Nat.le_refl 2,⟨by rw[hcal],by rw[hcal,if_pos h2];rfl⟩,hlast⟩
   have h2:x.hide.testBit j=false:=h2
   refine⟨(N++[(x.text,ad)],some ad),[],rfl,.of O O O O O rfl,rfl,Nat.le_refl 2,⟨by rw[hcal],by rw[hcal,if_neg (by rw[h2];simp)];show some ad=((N++[(x.text,ad)])[j]?).map (·.2);rw[hj];simp⟩,hlast⟩
end Go.Proofs.YtnjlkdhdinfejaaGreat
namespace Go.GV
open Go.RowKit
theorem ownsRow_spot {w:World} {e:TypeId} {size:Nat} {n c:Nat} {A:Option Addr} {xs:List Value} (h:w.ownsRow 0 e size (.slice A n c) n xs):∀ad,A=some ad→ad.spot=none:=by
 rcases h.2 with⟨h1,h2⟩|⟨g,cap,cur,h1,_⟩
 intro ad had
 simp only[Value.slice.injEq]at h1
 rw[had]at h1;cases h1.1
 intro ad had
 simp only[Value.slice.injEq]at h1
 rw[had]at h1
 have:=Option.some.inj h1.1
 rw[this]
theorem Ax {C:Cx} {all l:List Oper} {Q:Bb} {kn:Kn} {gk:List (Nat×(Gd×SV))} {ow:Own} {nx:Nat} {u:Im} (k:Nat) {e:TypeId} {D:Data} (hk:look ow k=some (.row e D))
 (K:∀A c u',u.le u'→Aw u' (.slice A D.n c) D→(∀ad,A=some ad→u.h ad.block=none∧ad.spot=none)→XL C all l Q ⟨frz k (.slice A D.n c) kn,gk,(k,.emp)::ow,nx⟩ u'):XL C all l Q ⟨kn,gk,ow,nx⟩ u:=by
 unfold XL at K ⊢
 intro E a w hok
 obtain⟨f,hsat⟩:=hok.sat
 obtain⟨u',hu,hsl,hsat'⟩:=hsat.freeze hk
 obtain⟨A,c,hv⟩:=hsl.form
 have hoff:∀ad,A=some ad→u.h ad.block=none∧ad.spot=none:=fun ad had=>
  ⟨hsat.off k _ (((hsat.holds k _ hk).2 _).2 (by rw[hv,had];rfl)),ownsRow_spot (hv▸(hsat.holds k _ hk).1) ad had⟩
 have:=K A c u' hu (hv▸hsl) hoff E a w ⟨hok.agr.frz hv,_,hsat'⟩
 exact Av (fun e a w=>Cd.mono (fun _ _=>rfl) (Nat.le_refl _) hu) _ _ _ this
theorem x_freezeS {C:Cx} {cc:Code} {Q:Bb} {kn:Kn} {gk:List (Nat×(Gd×SV))} {ow:Own} {nx:Nat} {u:Im} (k:Nat) {e:TypeId} {D:Data} (hk:look ow k=some (.row e D))
 (K:∀A c u',u.le u'→Aw u' (.slice A D.n c) D→(∀ad,A=some ad→u.h ad.block=none∧ad.spot=none)→X C cc Q ⟨frz k (.slice A D.n c) kn,gk,(k,.emp)::ow,nx⟩ u'):X C cc Q ⟨kn,gk,ow,nx⟩ u:=by
 unfold X at K ⊢
 intro E a w hok
 obtain⟨f,hsat⟩:=hok.sat
 obtain⟨u',hu,hsl,hsat'⟩:=hsat.freeze hk
 obtain⟨A,c,hv⟩:=hsl.form
 have hoff:∀ad,A=some ad→u.h ad.block=none∧ad.spot=none:=fun ad had=>
  ⟨hsat.off k _ (((hsat.holds k _ hk).2 _).2 (by rw[hv,had];rfl)),ownsRow_spot (hv▸(hsat.holds k _ hk).1) ad had⟩
 have:=K A c u' hu (hv▸hsl) hoff E a w ⟨hok.agr.frz hv,_,hsat'⟩
 exact Go.wpIn_mono this (fun e a w=>Cd.mono (fun _ _=>rfl) (Nat.le_refl _) hu)
theorem Aw.difOf {us u:Im} {A:Option Addr} {n c:Nat} {D:Data} (h:Aw u (.slice A n c) D) (hA:∀ad,A=some ad→us.h ad.block=none):Aw (dif us u) (.slice A n c) D:=by
 obtain⟨A',c',h1,h2,h3,h4⟩:=h
 cases h1
 refine⟨A,c,rfl,h2,h3,fun hn=>?_⟩
 obtain⟨ad,h5,h6⟩:=h4 hn
 refine⟨ad,h5,fun i hi j f hf=>?_⟩
 have:=h6 i hi j f hf
 unfold Im.cell? at this ⊢
 have hb:=add_block ad (i*D.cs.length+j)
 rw[show(dif us u).h (ad.add (i*D.cs.length+j)).block=u.h (ad.add (i*D.cs.length+j)).block from by
  rw[hb]
  show(match us.h ad.block with|some _=>none|none=>u.h ad.block)=_
  rw[hA ad h5]]
 exact this
theorem dif_none {us u:Im} {b:Nat} (hs:us.sub u) (h:u.h b=none):us.h b=none:=by
 cases hb:us.h b with
 |none=>rfl
 |some o=>rw[hs.h b o hb]at h;cases h
theorem dif_cut {w0:World} {u:Im} {w:World} (h:Imm u w):(dif (im w0) u).sub (cut w0.heap.size (im w)):=⟨fun b o hb=>by
 have hb:(match(im w0).h b with|some _=>none|none=>u.h b)=some o:=hb
 cases hw:(im w0).h b with
 |some y=>rw[hw]at hb;cases hb
 |none=>
  rw[hw]at hb
  have hge:¬b<w0.heap.size:=fun hlt=>by
   have:(im w0).h b=some _:=Array.getElem?_eq_getElem hlt
   rw[hw]at this;cases this
  show(if b<w0.heap.size then none else w.heap[b]?)=some o
  rw[if_neg hge]
  exact h.h b o hb⟩
end Go.GV
namespace Go.Proofs.YtnjlkdhdinfejaaGreat
open Go.GV Go.RowKit
structure Vw where
 p:Option Addr
 k:Int
 q:Option Addr
 j:Int
def vw0:Vw:=⟨none,0,none,0⟩
def Vw.val (v:Vw):Value:=vwV v.p v.k v.q v.j
def vwY:Lay Vw:=⟨[fun v=>.pointer v.p,fun v=>.int .i64 v.k,fun v=>.pointer v.q,fun v=>.int .i64 v.j],vw0⟩
def VwX (u:Im) (v:Vw) (X:List XT):Prop:=∃P n,Ck u v.p v.k P∧Ck u v.q v.j (Cc n P)∧n≤(Bi P).length∧TksR u ((Bi P).take n) X
theorem VwX.sub {u u':Im} {v:Vw} {X:List XT} (h:VwX u v X) (hu:u.sub u'):VwX u' v X:=by
 obtain⟨P,n,h1,h2,h3,h4⟩:=h
 exact⟨P,n,h1.sub hu,h2.sub hu,h3,h4.sub hu⟩
def VwsX (u:Im):List Vw→List (List XT)→Prop
 |[],[]=>True
 |v::L,X::XS=>VwX u v X∧VwsX u L XS
 |_,_=>False
theorem VwsX.sub {u u':Im} (hu:u.sub u'):∀ {L:List Vw} {XS:List (List XT)},VwsX u L XS→VwsX u' L XS
 |[],[],_=>trivial
 |v::L,X::XS,h=>⟨h.1.sub hu,VwsX.sub hu h.2⟩
 |[],_::_,h=>h.elim
 |_::_,[],h=>h.elim
theorem VwsX.len {u:Im}:∀ {L:List Vw} {XS:List (List XT)},VwsX u L XS→L.length=XS.length
 |[],[],_=>rfl
 |v::L,X::XS,h=>by rw[List.length_cons,List.length_cons,VwsX.len h.2]
 |[],_::_,h=>h.elim
 |_::_,[],h=>h.elim
theorem VwsX.get {u:Im}:∀ {L:List Vw} {XS:List (List XT)},VwsX u L XS→∀ {i:Nat} {v:Vw},L[i]?=some v→∃X,XS[i]?=some X∧VwX u v X
 |[],[],h,i,v,hv=>by simp at hv
 |v0::L,x0::XS,h,0,v,hv=>by
  simp only[List.getElem?_cons_zero,Option.some.injEq]at hv
  subst hv
  exact⟨x0,rfl,h.1⟩
 |v0::L,x0::XS,h,i+1,v,hv=>VwsX.get h.2 (by simpa using hv)
 |[],_::_,h,_,_,_=>h.elim
 |_::_,[],h,_,_,_=>h.elim
structure SlR where
 A:Option Addr
 n:Nat
 c:Nat
def slrY:Lay SlR:=⟨[fun s=>.slice s.A s.n s.c],⟨none,0,0⟩⟩
abbrev Runs:=List (SlR×List TV)
structure RunOk (u:Im) (r:SlR×List TV):Prop where
 it:∃A c,r.1=⟨some A,r.2.length,c⟩∧A.spot=none∧0<r.2.length∧Aw u (.slice (some A) r.2.length c) (tvY.d r.2)
def comX:XT:=⟨5,cmB,false,[],0⟩
def comT:TV:=⟨⟨5,cmB,false,none,0,0⟩,none⟩
def joinX:List (List XT)→List XT
 |[]=>[]
 |x::r=>match r with
  |[]=>x
  |_::_=>x++comX::joinX r
theorem slAt_nil (u:Im) (D:GV.Data) (h:D.n=0):Aw u (.slice none 0 0) D:=⟨none,0,by rw[h],by omega,by decide,fun hn=>by omega⟩
theorem slrOne:∀x:SlR,∀y∈slrY.el x,oneB y=true:=by
 intro t y hy
 rw[show slrY.el t=[.slice t.A t.n t.c]from rfl]at hy
 simp only[List.mem_cons,List.not_mem_nil,or_false]at hy
 subst hy;rfl
theorem TksR.take {u:Im}:∀ {T:List TV} {X:List XT},TksR u T X→∀n,TksR u (T.take n) (X.take n)
 |[],[],_,n=>by simp[TksR]
 |t::T,x::X,h,0=>trivial
 |t::T,x::X,h,n+1=>⟨h.1,TksR.take h.2 n⟩
 |[],_::_,h,_=>h.elim
 |_::_,[],h,_=>h.elim
theorem TksR.drop {u:Im}:∀ {T:List TV} {X:List XT},TksR u T X→∀n,TksR u (T.drop n) (X.drop n)
 |[],[],_,n=>by simp[TksR]
 |t::T,x::X,h,0=>h
 |t::T,x::X,h,n+1=>TksR.drop h.2 n
 |[],_::_,h,_=>h.elim
 |_::_,[],h,_=>h.elim
theorem joinX_snoc:∀(L:List (List XT)) (x:List XT),joinX (L++[x])=(if L.length=0 then[]else joinX L++[comX])++x
 |[],x=>rfl
 |[y],x=>by simp[joinX]
 |y::z::L,x=>by
  have:=joinX_snoc (z::L) x
  rw[List.cons_append]at this ⊢
  rw[List.cons_append,joinX]
  rw[this,if_neg (by simp),if_neg (by simp)]
  simp[joinX]
theorem Ck.known {u:Im}:∀ {P:Stk} {p:Option Addr} {k:Int},Ck u p k P→∀x∈P,u.h x.1≠none
 |[],_,_,_,x,hx=>by cases hx
 |(b,T,i)::R,p,k,h,x,hx=>by
  obtain⟨h1,h2,h3,h4,A,c,rp,rk,h5,h6,h7,h8⟩:=h
  rcases List.mem_cons.1 hx with rfl|hx
  rw[h5];exact fun e=>by cases e
  exact Ck.known h8 x hx
theorem drop_cons {α:Type} {l:List α} {s:Nat} {a:α} (h:l[s]?=some a):l.drop s=a::l.drop (s+1):=by
 obtain⟨h1,h2⟩:=List.getElem?_eq_some_iff.1 h
 rw[←h2];exact List.drop_eq_getElem_cons h1
theorem add_spot {a:Addr} (h:a.spot=none) (n:Nat):(a.add n).spot=none:=by
 unfold Addr.add;split
 exact h
 rfl
theorem comR (u:Im):TkR u comT comX:=⟨rfl,rfl,rfl,slAt_nil _ _ rfl,rfl⟩
theorem joined_any {u0:Im} {A:Option Addr} {c:Nat} {L:List Vw} {XS:List (List XT)} (hV:Aw u0 (.slice A L.length c) (vwY.d L)) (hX:VwsX u0 L XS) (h1:0<L.length) (hz:L.length≤1000000) (hz2:∀X∈XS,X.length≤1000000) (w:World) (hw:u0.sub (im w)) :
 Calls Tryz.prog 102 #[.slice A L.length c] w (Bc w fun v u1=>∃vw:Vw,v=vw.val∧Nw u0 u1 (fun v=>VwX v vw (joinX XS))):=by
 refine Bq Aa Tryz.func102 O O [] 0 [.v (.slice A L.length c)] O O O O (fun b hb=>by cases hb) ?_
 refine x_sl 0 rfl (hV.sub hw) ?_
 refine Ao Aa ?_
 repeat refine sdI ?_
 refine Ap (fun h1=>?_) (fun h1=>?_)
 have h1:decide ((L.length:Int)=1)=true:=h1
 have h1:L.length=1:=by have:=of_decide_eq_true h1;omega
 obtain⟨v,hv⟩:∃v,L[0]?=some v:=⟨_,List.getElem?_eq_getElem (by omega)⟩
 obtain⟨X,hX0,hvX⟩:=hX.get hv
 have hXS:XS=[X]:=by
  have hl:=hX.len
  cases XS with
  |nil=>simp at hX0
  |cons y r=>cases r with
   |nil=>simpa using hX0
   |cons z r=>simp at hl;omega
 have hg:L.getD (0:Int).toNat vwY.dft=v:=by rw[List.getD_eq_getElem?_getD];show(L[0]?).getD _=v;rw[hv];rfl
 repeat refine sdI ?_
 exact finP (fun E w' F hs hle=>⟨v,by
  show vwV (L.getD (0:Int).toNat vwY.dft).p (L.getD (0:Int).toNat vwY.dft).k (L.getD (0:Int).toNat vwY.dft).q (L.getD (0:Int).toNat vwY.dft).j=_
  rw[hg];rfl,fun u' a b=>by rw[hXS];exact hvX.sub a⟩)
 have h1:decide ((L.length:Int)=1)=false:=h1
 have h1:2≤L.length:=by have:=of_decide_eq_false h1;omega
 refine As Aa tvY [comT] [_] O O O O O O O O O O O O O O O ?_
 refine Ax 2 rfl (fun A1 c1 u1 hu1 hA1 hA1n=>?_)
 refine Ab Aa ?_
 refine x_nil 4 80 slrY rfl ?_
 refine Br (σ:=Nat×List SlR) (fun(i,V)=>⟨[(22,.v (.int .i64 (i:Int))),(21,.v (.int .i64 ((L.length:Nat):Int))),(20,.r 0),(4,.r 4),(3,.v (.slice A1 1 c1)),(2,.p 1 0)],[],[(0,.sl (vwY.d L)),(1,.box 95 [.v (.pointer none),.v (.int .i64 0),.v (.pointer none),.v (.int .i64 0)]),(4,.row 80 (slrY.d V))],5⟩)
  (fun(i,V) u=>i≤L.length∧∃rs:Runs,V=rs.map (·.1)∧rs.length≤2000000*i∧Nw u0 (dif (im w) u) (fun v=>(∀r∈rs,RunOk v r)∧TksR v (rs.flatMap (·.2)) (joinX (XS.take i)))) (fun(i,_)=>L.length-i) (fun _=>by show 4≤5;omega) (0,[]) [(4,some 3)] .z
  ⟨Nat.zero_le _,[],rfl,Nat.zero_le _,fun v _ _=>⟨fun r hr=>(by cases hr),trivial⟩⟩ ?_
 rintro⟨i,V⟩ u hu ⟨g1,rs,hrs,g2,g3⟩
 refine Az (Ao Aa ?_)
 refine Az (Ao Aa ?_)
 refine Ap (fun h2=>?_) (fun h2=>?_)
 have h2:(i:Int)<((L.length:Nat):Int):=of_decide_eq_true h2
 obtain⟨v,hv⟩:∃v,L[i]?=some v:=⟨_,List.getElem?_eq_getElem (by omega)⟩
 obtain⟨X,hXi,hvX⟩:=hX.get hv
 have hg:L.getD ((i:Nat):Int).toNat vwY.dft=v:=by rw[Int.toNat_natCast,List.getD_eq_getElem?_getD,hv];rfl
 refine Az (x_block ?_)
 refine Az (Ao Aa ?_)
 repeat refine sdI ?_
 refine Az ?_
 refine x_via (σ:=List SlR) (fun V'=>⟨[(22,.v (.int .i64 (i:Int))),(21,.v (.int .i64 ((L.length:Nat):Int))),(20,.r 0),(4,.r 6),(3,.v (.slice A1 1 c1)),(2,.p 1 0),(6,.p 5 0)],[],
  [(0,.sl (vwY.d L)),(1,.box 95 [.v (.pointer none),.v (.int .i64 0),.v (.pointer none),.v (.int .i64 0)]),(5,.box 95 [.v (.pointer (L.getD ((i:Nat):Int).toNat vwY.dft).p),.v (.int .i64 (L.getD ((i:Nat):Int).toNat vwY.dft).k),.v (.pointer (L.getD ((i:Nat):Int).toNat vwY.dft).q),.v (.int .i64 (L.getD ((i:Nat):Int).toNat vwY.dft).j)]),(6,.row 80 (slrY.d V'))],7⟩)
  (fun V' _=>V'=if i=0 then V else V++[⟨A1,1,c1⟩]) (fun _=>by show 6≤7;omega) ?_ ?_
 refine Ao Aa ?_
 refine Ap (fun h3=>?_) (fun h3=>?_)
 have h3:0<i:=by have h3:(0:Int)<(i:Int):=of_decide_eq_true h3;omega
 have hVl:V.length≤2000000*i:=by rw[hrs,List.length_map];exact g2
 refine xl_push Aa slrY V ⟨A1,1,c1⟩ 24 (cs:=[.slice A1 1 c1]) O O O O O O O O O O O O (by kernel_rfl) O O O O O (fun n hn=>by cases hn;decide) O O O (by omega) (by omega) ?_
 refine Ab Aa ?_
 exact Af (V++[⟨A1,1,c1⟩]) [] .z (by rw[if_neg (by omega)])
 have h3:i=0:=by have h3:¬(0:Int)<(i:Int):=of_decide_eq_false h3;omega
 exact Af V [(6,some 4)] .z (by rw[if_pos h3])
 rintro V' u2 hu2 hV'
 rw[hg]
 obtain⟨P,n,k1,k2,k3,k4⟩:=id hvX
 have hXl:X.length=n:=by rw[←k4.len,List.length_take];omega
 have hXz:X.length≤1000000:=hz2 X (List.mem_of_getElem? hXi)
 obtain⟨hl1,hl2⟩:=k1.low
 refine Az (Ao Aa ?_)
 obtain⟨XP,hXP⟩:∃XP,XP=if i=0 then[]else joinX (XS.take i)++[comX]:=⟨_,rfl⟩
 have hcomm:Nw u0 (dif (im w) u2) (fun v=>RunOk v (⟨A1,1,c1⟩,[comT])):=fun v a b=>by
  obtain⟨ad,had⟩:∃ad,A1=some ad:=by
   obtain⟨_,_,e1,_,_,e2⟩:=hA1
   cases e1
   obtain⟨ad,h5,_⟩:=e2 Nat.one_pos
   exact⟨ad,h5⟩
  have h9:=(hA1.difOf (us:=im w) (fun ad had=>dif_none (Im.le.refl _).sub (hA1n ad had).1)).sub ((Ba (hu.trans hu2).sub).trans b)
  subst had
  exact⟨ad,c1,rfl,(hA1n ad rfl).2,Nat.one_pos,h9⟩
 have hstart:∃rs2:Runs,V'=rs2.map (·.1)∧rs2.length≤2000000*i+1∧Nw u0 (dif (im w) u2) (fun v=>(∀r∈rs2,RunOk v r)∧TksR v (rs2.flatMap (·.2)) XP):=by
  by_cases h0:i=0
  rw[if_pos h0]at hV' hXP
  subst h0
  refine⟨rs,hV'.trans hrs,by omega,fun v a b=>?_⟩
  have:=g3 v a ((Ba hu2.sub).trans b)
  rw[hXP]
  exact this
  rw[if_neg h0]at hV' hXP
  refine⟨rs++[(⟨A1,1,c1⟩,[comT])],by rw[hV',hrs,List.map_append];rfl,by rw[List.length_append,List.length_singleton];omega,fun v a b=>?_⟩
  have:=g3 v a ((Ba hu2.sub).trans b)
  rw[hXP,List.flatMap_append]
  refine⟨fun r hr=>?_,this.2.append ⟨comR v,trivial⟩⟩
  rcases List.mem_append.1 hr with hr|hr
  exact this.1 r hr
  rw[List.mem_singleton]at hr
  subst hr
  exact hcomm v a b
 obtain⟨rs2,hrs2,hrl2,hst⟩:=hstart
 refine x_block ?_
 refine Br (σ:=Option Addr×Int×Nat×List SlR) (fun(a,c,m,V)=>⟨[(22,.v (.int .i64 (i:Int))),(21,.v (.int .i64 ((L.length:Nat):Int))),(20,.r 0),(4,.r 8),(3,.v (.slice A1 1 c1)),(2,.p 1 0),(6,.p 5 0),(7,.p 9 0)],[],
  [(0,.sl (vwY.d L)),(1,.box 95 [.v (.pointer none),.v (.int .i64 0),.v (.pointer none),.v (.int .i64 0)]),(5,.box 95 [.v (.pointer v.p),.v (.int .i64 v.k),.v (.pointer v.q),.v (.int .i64 v.j)]),(8,.row 80 (slrY.d V)),(9,.box 82 [.v (.pointer a),.v (.int .i64 c)])],10⟩)
  (fun(a,c,m,V) u=>m≤n∧Ck u0 a c (Cc m P)∧∃rs:Runs,V=rs.map (·.1)∧rs.length≤2000000*i+1+m∧Nw u0 (dif (im w) u) (fun v=>(∀r∈rs,RunOk v r)∧TksR v (rs.flatMap (·.2)) (XP++X.take m)))
  (fun(_,_,m,_)=>n-m) (fun _=>by show 8≤10;omega) (v.p,v.k,0,V') [(8,some 6),(9,some 7)] .z ⟨Nat.zero_le _,k1,rs2,hrs2,by omega,by rw[List.take_zero,List.append_nil];exact hst⟩ ?_
 rintro⟨a,cc,m,V⟩ u hu' ⟨j1,j2,rs3,hrs3,hrl3,j3⟩
 have hsub:u0.sub u:=hw.trans ((((hu1.trans hu).trans hu2).trans hu').sub)
 have hwu:∀ {w':World},Imm u w'→u0.sub (im w'):=fun hs=>hsub.trans (Au hs)
 have hVl:V.length≤2000000*i+1+m:=by rw[hrs3,List.length_map];exact hrl3
 have hq':Ck u0 v.q v.j (Cc (n-m) (Cc m P)):=by rw[adv_add,show m+(n-m)=n by omega];exact k2
 have hlen:(Bi (Cc m P)).length=(Bi P).length-m:=by rw[toks_adv m hl1 hl2,List.length_drop]
 have hsame:=j2.same hq' (by omega)
 refine Az (Az (Ao Aa ?_))
 refine xl_binV (.bool (!(decide (a=v.q)&&decide (cc=v.j)))) O O O O O O (fun w=>eqGuardPl _ _ _ _ _ _ w) (fun _ w' hw'=>run_nePl hw' (j2.blk.sub hsub) (k2.blk.sub hsub) cc v.j) ?_
 refine Ab Aa ?_
 refine Ao Aa ?_
 refine Ap (fun h3=>?_) (fun h3=>?_)
 have h3:(!(decide (a=v.q)&&decide (cc=v.j)))=true:=h3
 have hm:m<n:=by
  rcases Nat.lt_or_ge m n with h|h
  exact h
  have:=hsame.2 (by omega)
  rw[decide_eq_true this.1,decide_eq_true this.2]at h3
  exact absurd h3 (by decide)
 obtain⟨b,T,i0,R,e⟩:=stk_pos (P:=Cc m P) (by omega)
 rw[e]at j2 hq'
 have hend:=view_end j2 hq'
 have htk:=toks_adv m hl1 hl2
 rw[e]at htk
 obtain⟨rfl,rfl,h4,h5',A2,c2,rp,rk,h5,h6,h7,h8⟩:=id j2
 have hc2:T.length≤c2:=by
  obtain⟨_,_,e1,e2,_⟩:=h7
  cases e1;exact e2
 have hbq:BlkAt u v.q:=k2.blk.sub hsub
 have hbp:BlkAt u (some ⟨b,0,none⟩):=j2.blk.sub hsub
 obtain⟨e',hce,hE1,hE2,hE3,hpre⟩:∃e':Nat,((v.q=some ⟨b,0,none⟩∧v.j=(e':Int))∨(v.q≠some ⟨b,0,none⟩∧e'=T.length))∧i0<e'∧e'≤T.length∧e'-i0≤n-m∧PreAt u0 (some ⟨b,0,none⟩) ((e':Nat):Int) (Cc (m+(e'-i0)) P):=by
  rcases hend with⟨e1,e2,hd⟩|⟨hne,hd⟩
  refine⟨i0+(n-m),.inl ⟨e1,e2⟩,by omega,by omega,by omega,?_⟩
  rw[show i0+(n-m)-i0=n-m by omega,←adv_add,e,adv_in (n-m) b T i0 R hd]
  exact .inl ⟨rfl,rfl,hd,h5',A2,c2,rp,rk,h5,h6,h7,h8⟩
  refine⟨T.length,.inr ⟨hne,rfl⟩,h4,Nat.le_refl _,by omega,?_⟩
  rw[←adv_add,e]
  have:=adv_out (T.length-i0) b T i0 R 0 (by omega) (by omega)
  rw[Nat.add_zero]at this
  rw[this]
  exact .inr ⟨b,some A2,T.length,c2,rp,rk,rfl,rfl,h5,h8⟩
 refine Az (x_block ?_)
 refine Az (Ao Aa ?_)
 refine Cl Aa O O O O O O O ?_
 refine Cr Aa (.slice (some A2) T.length c2) O O O O O O O (fun _=>cell_of (hsub.h _ _ h5) (j:=0) rfl) ?_
 refine Ab Aa ?_
 refine Az ?_
 refine x_via (σ:=Unit) (fun _=>⟨[(22,.v (.int .i64 (i:Int))),(21,.v (.int .i64 ((L.length:Nat):Int))),(20,.r 0),(4,.r 8),(3,.v (.slice A1 1 c1)),(2,.p 1 0),(6,.p 5 0),(7,.p 9 0),(8,.v (.int .i64 (e':Int)))],[],
  [(0,.sl (vwY.d L)),(1,.box 95 [.v (.pointer none),.v (.int .i64 0),.v (.pointer none),.v (.int .i64 0)]),(5,.box 95 [.v (.pointer v.p),.v (.int .i64 v.k),.v (.pointer v.q),.v (.int .i64 v.j)]),(8,.row 80 (slrY.d V)),(9,.box 82 [.v (.pointer (some ⟨b,0,none⟩)),.v (.int .i64 (i0:Int))])],10⟩)
  (fun _ _=>True) (fun _=>Nat.le_refl _) ?_ ?_
 refine Ao Aa ?_
 refine xl_binV (.bool (decide (some ⟨b,0,none⟩=v.q))) O O O O O O (fun w=>eqGuardP _ _ _ _ _ _ w) (fun _ w' hw'=>run_eqP rfl (Aa 84 _ rfl) (by decide) hw' hbp hbq) ?_
 refine Ab Aa ?_
 rcases hce with⟨e1,e2⟩|⟨e1,e2⟩
 refine Be (decide_eq_true e1.symm) ?_
 rw[←e2]
 exact Af () [] .z trivial
 refine x_iff (decide_eq_false (fun h=>e1 h.symm)) ?_
 rw[e2]
 exact Af () [] .z trivial
 rintro _ u3 hu3 -
 obtain⟨A3,c3,ePart,hsp,hA3⟩:∃A3 c3,partV ti87.sz (some A2) c2 ((i0:Nat):Int).toNat ((e':Nat):Int).toNat=.slice (some A3) (e'-i0) c3∧A3.spot=none∧Aw u0 (.slice (some A3) (e'-i0) c3) (tvY.d ((T.take e').drop i0)):=by
  have hp:=partV_slAt (Y:=tvY) h7 (l:=i0) (h:=e') (by omega) hE2
  have hne:¬c2=i0:=by omega
  unfold partV at hp
  rw[if_neg hne]at hp
  refine⟨A2.add (i0*5),c2-i0,?_,add_spot h6 _,hp⟩
  rw[Int.toNat_natCast,Int.toNat_natCast]
  unfold partV
  rw[if_neg hne];rfl
 refine Az ?_
 refine x_via (σ:=Unit) (fun _=>⟨[(22,.v (.int .i64 (i:Int))),(21,.v (.int .i64 ((L.length:Nat):Int))),(20,.r 0),(4,.r 10),(3,.v (.slice A1 1 c1)),(2,.p 1 0),(6,.p 5 0),(7,.p 9 0),(8,.v (.int .i64 (e':Int)))],[],
  [(0,.sl (vwY.d L)),(1,.box 95 [.v (.pointer none),.v (.int .i64 0),.v (.pointer none),.v (.int .i64 0)]),(5,.box 95 [.v (.pointer v.p),.v (.int .i64 v.k),.v (.pointer v.q),.v (.int .i64 v.j)]),(10,.row 80 (slrY.d (V++[⟨some A3,e'-i0,c3⟩]))),(9,.box 82 [.v (.pointer (some ⟨b,0,none⟩)),.v (.int .i64 (i0:Int))])],12⟩)
  (fun _ _=>True) (fun _=>by show 10≤12;omega) ?_ ?_
 have hsub:=hsub.trans hu3.sub
 refine Bw mix ?_
 refine At Aa (fuel:=9) [0,1,6,8] rfl (by kernel_rfl) (by kernel_rfl) (fun _ _ _ hh=>hh) (by kernel_rfl) (by kernel_rfl) ?_
 refine Aq 2 7 (by kernel_rfl) O O ?_ ?_
 refine Ab Aa ?_
 refine At Aa (fuel:=7) [3] rfl (by kernel_rfl) (by kernel_rfl) (fun _ _ _ hh=>hh) (by kernel_rfl) (by kernel_rfl) ?_
 refine Aq 4 7 (by kernel_rfl) O O ?_ ?_
 refine Cl Aa O O O O O O O ?_
 refine Ad ?_
 refine Aq 5 7 (by kernel_rfl) O O ?_ ?_
 refine Cr Aa (.slice (some A2) T.length c2) O O O O O O O (fun _=>cell_of (hsub.h _ _ h5) (j:=0) rfl) ?_
 refine Ad ?_
 refine Ae (fuel:=4) [7] O O (by kernel_rfl) (Ab Aa ?_)
 refine Ag 9 (by kernel_rfl) rfl ?_
 refine xl_subE Aa O O O O O O O O O O (by omega) (by omega) (by omega) ?_
 rw[ePart]
 refine Ad ?_
 refine Ag 10 (by kernel_rfl) rfl ?_
 refine As Aa slrY [⟨some A3,e'-i0,c3⟩] [_] O O O O O O O O O O O O O O O ?_
 refine Ad ?_
 refine Ag 11 (by kernel_rfl) rfl ?_
 refine Bm Aa slrY V [⟨some A3,e'-i0,c3⟩] 24 O O O O O O O O (by kernel_rfl) O O O (fun E w F hs=>hs.rowAt (k:=10) rfl) slrOne rfl (by rw[List.length_singleton];omega) (by rw[List.length_singleton];omega) ?_
 refine Ad ?_
 refine At Aa (fuel:=0) [12] rfl (by kernel_rfl) (by kernel_rfl) (fun _ _ _ hh=>hh) (by kernel_rfl) (by kernel_rfl) ?_
 refine Aj (by kernel_rfl) rfl ?_
 exact Af () [(10,some 11)] .z trivial
 refine Ab Aa ?_
 refine Ag 5 (by kernel_rfl) rfl ?_
 refine Cr Aa (.slice (some A2) T.length c2) O O O O O O O (fun _=>cell_of (hsub.h _ _ h5) (j:=0) rfl) ?_
 refine Ad ?_
 refine Ag 9 (by kernel_rfl) rfl ?_
 refine xl_subE Aa O O O O O O O O O O (by omega) (by omega) (by omega) ?_
 rw[ePart]
 refine Ad ?_
 refine Ag 10 (by kernel_rfl) rfl ?_
 refine As Aa slrY [⟨some A3,e'-i0,c3⟩] [_] O O O O O O O O O O O O O O O ?_
 refine Ad ?_
 refine Ag 11 (by kernel_rfl) rfl ?_
 refine Bm Aa slrY V [⟨some A3,e'-i0,c3⟩] 24 O O O O O O O O (by kernel_rfl) O O O (fun E w F hs=>hs.rowAt (k:=10) rfl) slrOne rfl (by rw[List.length_singleton];omega) (by rw[List.length_singleton];omega) ?_
 refine Ad ?_
 refine At Aa (fuel:=0) [12] rfl (by kernel_rfl) (by kernel_rfl) (fun _ _ _ hh=>hh) (by kernel_rfl) (by kernel_rfl) ?_
 refine Aj (by kernel_rfl) rfl ?_
 exact Af () [(10,some 11)] .z trivial
 refine Ab Aa ?_
 refine Ag 4 (by kernel_rfl) rfl ?_
 refine Cl Aa O O O O O O O ?_
 refine Ad ?_
 refine Ag 5 (by kernel_rfl) rfl ?_
 refine Cr Aa (.slice (some A2) T.length c2) O O O O O O O (fun _=>cell_of (hsub.h _ _ h5) (j:=0) rfl) ?_
 refine Ad ?_
 refine Ag 9 (by kernel_rfl) rfl ?_
 refine xl_subE Aa O O O O O O O O O O (by omega) (by omega) (by omega) ?_
 rw[ePart]
 refine Ad ?_
 refine Ag 10 (by kernel_rfl) rfl ?_
 refine As Aa slrY [⟨some A3,e'-i0,c3⟩] [_] O O O O O O O O O O O O O O O ?_
 refine Ad ?_
 refine Ag 11 (by kernel_rfl) rfl ?_
 refine Bm Aa slrY V [⟨some A3,e'-i0,c3⟩] 24 O O O O O O O O (by kernel_rfl) O O O (fun E w F hs=>hs.rowAt (k:=10) rfl) slrOne rfl (by rw[List.length_singleton];omega) (by rw[List.length_singleton];omega) ?_
 refine Ad ?_
 refine At Aa (fuel:=0) [12] rfl (by kernel_rfl) (by kernel_rfl) (fun _ _ _ hh=>hh) (by kernel_rfl) (by kernel_rfl) ?_
 refine Aj (by kernel_rfl) rfl ?_
 exact Af () [(10,some 11)] .z trivial
 refine Ab Aa ?_
 refine Ae (fuel:=6) [2,3] O O (by kernel_rfl) (Ab Aa ?_)
 refine Ag 4 (by kernel_rfl) rfl ?_
 refine Cl Aa O O O O O O O ?_
 refine Ad ?_
 refine Ag 5 (by kernel_rfl) rfl ?_
 refine Cr Aa (.slice (some A2) T.length c2) O O O O O O O (fun _=>cell_of (hsub.h _ _ h5) (j:=0) rfl) ?_
 refine Ad ?_
 refine Ag 9 (by kernel_rfl) rfl ?_
 refine xl_subE Aa O O O O O O O O O O (by omega) (by omega) (by omega) ?_
 rw[ePart]
 refine Ad ?_
 refine Ag 10 (by kernel_rfl) rfl ?_
 refine As Aa slrY [⟨some A3,e'-i0,c3⟩] [_] O O O O O O O O O O O O O O O ?_
 refine Ad ?_
 refine Ag 11 (by kernel_rfl) rfl ?_
 refine Bm Aa slrY V [⟨some A3,e'-i0,c3⟩] 24 O O O O O O O O (by kernel_rfl) O O O (fun E w F hs=>hs.rowAt (k:=10) rfl) slrOne rfl (by rw[List.length_singleton];omega) (by rw[List.length_singleton];omega) ?_
 refine Ad ?_
 refine At Aa (fuel:=0) [12] rfl (by kernel_rfl) (by kernel_rfl) (fun _ _ _ hh=>hh) (by kernel_rfl) (by kernel_rfl) ?_
 refine Aj (by kernel_rfl) rfl ?_
 exact Af () [(10,some 11)] .z trivial
 rintro _ u4 hu4 -
 refine Ao Aa ?_
 obtain⟨p2,k2',s1,s2⟩:=settled_any hpre
 refine Am (plV p2 k2') O O O O fn39 O O (fun E w' F hs=>s2 w' (hsub.trans ((hu3.trans hu4).sub.trans (Au hs.imm)))) ?_
 refine Ab Aa ?_
 refine Ao Aa ?_
 have hrun:(T.take e').drop i0=(((Bi P).take n).drop m).take (e'-i0):=by
  rw[List.drop_take,List.drop_take,←htk,List.take_take,Nat.min_eq_left hE3]
  simp only[Bi]
  rw[List.take_append_of_le_length (by rw[List.length_drop];omega)]
 have hrl:((T.take e').drop i0).length=e'-i0:=by rw[List.length_drop,List.length_take];omega
 exact Bj (p2,k2',m+(e'-i0),V++[⟨some A3,e'-i0,c3⟩]) [(8,some 10),(9,some 12)] .z
  ⟨by omega,s1,rs3++[(⟨some A3,e'-i0,c3⟩,(T.take e').drop i0)],by rw[hrs3,List.map_append];rfl,by rw[List.length_append,List.length_singleton];omega,fun v a b=>by
   have hj:=j3 v a ((Ba (hu3.trans hu4).sub).trans b)
   refine⟨fun r hr=>?_,?_⟩
   rcases List.mem_append.1 hr with hr|hr
   exact hj.1 r hr
   rw[List.mem_singleton]at hr
   subst hr
   exact⟨A3,c3,by rw[hrl],hsp,by rw[hrl];omega,by rw[hrl];exact hA3.sub a⟩
   rw[List.flatMap_append,show X.take (m+(e'-i0))=X.take m++(X.drop m).take (e'-i0)from List.take_add,←List.append_assoc]
   refine hj.2.append ?_
   have:=((k4.drop m).take (e'-i0)).sub a
   rw[←hrun]at this
   simpa using this⟩ (by show n-(m+(e'-i0))<n-m;omega)
 have h3:(!(decide (a=v.q)&&decide (cc=v.j)))=false:=h3
 have hm:m=n:=by
  have:decide (a=v.q)&&decide (cc=v.j):=by simpa using h3
  simp only[Bool.and_eq_true,decide_eq_true_eq]at this
  have:=hsame.1 this
  omega
 subst hm
 refine Ao Aa ?_
 repeat refine sdI ?_
 refine Bj (i+1,V) [(4,some 8)] .z ⟨by omega,rs3,hrs3,by omega,fun v a b=>?_⟩ (by show L.length-(i+1)<L.length-i;omega)
 have hj:=j3 v a b
 rw[List.take_of_length_le (by omega),hXP]at hj
 rw[Cj hXi,joinX_snoc,List.length_take,show min i XS.length=i by have:=hX.len;omega]
 exact hj
 have h2:¬(i:Int)<((L.length:Nat):Int):=of_decide_eq_false h2
 obtain rfl:i=L.length:=by omega
 rw[show XS.take L.length=XS from List.take_of_length_le (by rw[←hX.len];exact Nat.le_refl _)]at g3
 have hVl:V.length=rs.length:=by rw[hrs,List.length_map]
 repeat refine sdI ?_
 refine Br (σ:=Nat×Option Addr) (fun(s,p)=>⟨[(10,.v (.int .i64 ((s:Int)-1))),(9,.p 5 0),(4,.r 4),(2,.p 1 0)],[],
  [(1,.box 95 [.v (.pointer none),.v (.int .i64 0),.v (.pointer none),.v (.int .i64 0)]),(4,.row 80 (slrY.d V)),(5,.box 82 [.v (.pointer p),.v (.int .i64 0)])],6⟩)
  (fun(s,p) u=>s≤V.length∧∃P',Nw u0 (dif (im w) u) (fun v=>Ck v p 0 P')∧Bi P'=(rs.drop s).flatMap (·.2)) (fun(s,_)=>s) (fun _=>Nat.le_refl _) (V.length,none) [] .z
  ⟨Nat.le_refl _,[],fun v _ _=>⟨rfl,rfl⟩,by rw[hVl,List.drop_length];rfl⟩ ?_
 rintro⟨s,p⟩ u3 hu3 ⟨g4,P',g5,g6⟩
 have hus:(im w).sub u3:=((hu1.trans hu).trans hu3).sub
 have hsub:u0.sub u3:=hw.trans hus
 refine Ao Aa ?_
 refine Ap (fun h3=>?_) (fun h3=>?_)
 have h3:(0:Int)≤(s:Int)-1:=of_decide_eq_true h3
 obtain⟨r,hr⟩:∃r,rs[s-1]?=some r:=⟨_,List.getElem?_eq_getElem (by omega)⟩
 have hVr:V.getD ((s:Int)-1).toNat slrY.dft=r.1:=by
  rw[show((s:Int)-1).toNat=s-1 by omega,hrs,List.getD_eq_getElem?_getD,List.getElem?_map,hr];rfl
 refine x_via (σ:=Nat) (fun b=>⟨[(10,.v (.int .i64 ((s:Int)-1))),(9,.p 5 0),(4,.r 4),(2,.p 1 0)],[],
  [(1,.box 95 [.v (.pointer none),.v (.int .i64 0),.v (.pointer none),.v (.int .i64 0)]),(4,.row 80 (slrY.d V)),(5,.box 82 [.v (.pointer (some ⟨b,0,none⟩)),.v (.int .i64 0)])],6⟩)
  (fun b u=>(dif (im w) u).h b=some (.cells #[.slice (V.getD ((s:Int)-1).toNat slrY.dft).A (V.getD ((s:Int)-1).toNat slrY.dft).n (V.getD ((s:Int)-1).toNat slrY.dft).c,.pointer p,.int .i64 0] 84 (0,0))∧u3.h b=none) (fun _=>Nat.le_refl _) ?_ ?_
 refine Bw mix ?_
 refine At Aa (fuel:=7) [0,1] rfl (by kernel_rfl) (by kernel_rfl) (fun _ _ _ hh=>hh) (by kernel_rfl) (by kernel_rfl) ?_
 refine Aq 2 4 (by kernel_rfl) O O ?_ ?_
 refine Ab Aa ?_
 repeat refine sdI ?_
 refine Aq 3 4 (by kernel_rfl) O O ?_ ?_
 refine Ab Aa ?_
 refine Ae (fuel:=2) [4,5,6] O O (by kernel_rfl) (Ab Aa ?_)
 refine Ag 7 (by kernel_rfl) rfl ?_
 refine xl_freezeBox 6 O O (fun b u7 hu7 hb1 hb2=>?_)
 refine Ab Aa ?_
 refine Ae (fuel:=0) [8] O O (by kernel_rfl) (Ab Aa ?_)
 refine Aj (by kernel_rfl) rfl ?_
 exact Af b [] .z ⟨dif_new (dif_none hus hb1) hb2,hb1⟩
 refine Ab Aa ?_
 refine Ae (fuel:=2) [3,5,6] O O (by kernel_rfl) (Ab Aa ?_)
 refine Ag 7 (by kernel_rfl) rfl ?_
 refine xl_freezeBox 6 O O (fun b u7 hu7 hb1 hb2=>?_)
 refine Ab Aa ?_
 refine Ae (fuel:=0) [8] O O (by kernel_rfl) (Ab Aa ?_)
 refine Aj (by kernel_rfl) rfl ?_
 exact Af b [] .z ⟨dif_new (dif_none hus hb1) hb2,hb1⟩
 refine Ab Aa ?_
 refine Ae (fuel:=2) [2,3,5,6] O O (by kernel_rfl) (Ab Aa ?_)
 repeat refine sdI ?_
 refine Ag 7 (by kernel_rfl) rfl ?_
 refine xl_freezeBox 6 O O (fun b u7 hu7 hb1 hb2=>?_)
 refine Ab Aa ?_
 refine Ae (fuel:=0) [8] O O (by kernel_rfl) (Ab Aa ?_)
 refine Aj (by kernel_rfl) rfl ?_
 exact Af b [] .z ⟨dif_new (dif_none hus hb1) hb2,hb1⟩
 rintro b u4 hu4 ⟨hb,hbn⟩
 rw[hVr]at hb
 repeat refine sdI ?_
 have e:(s:Int)-1-1=((s-1:Nat):Int)-1:=by omega
 rw[e]
 refine Bj (s-1,some ⟨b,0,none⟩) [] .z ⟨by omega,(b,r.2,0)::P',fun v h1 h2=>?_,?_⟩ (by show s-1<s;omega)
 have hp:=g5 v h1 ((Ba hu4.sub).trans h2)
 obtain⟨A4,c4,e1,e2,e3,e4⟩:=((g3 v h1 ((Ba (hu3.trans hu4).sub).trans h2)).1 r (List.mem_of_getElem? hr)).it
 rw[e1]at hb
 refine⟨rfl,rfl,e3,fun x hx e=>?_,A4,c4,p,0,h2.h _ _ hb,e2,e4,hp⟩
 have:=(g5 u3 hsub (Bl _ _)).known x hx
 rw[e]at this
 exact this hbn
 rw[drop_cons hr,show s-1+1=s by omega,List.flatMap_cons,←g6];rfl
 have h3:¬(0:Int)≤(s:Int)-1:=of_decide_eq_false h3
 obtain rfl:s=0:=by omega
 rw[List.drop_zero]at g6
 exact finP (fun E w' F hs hle=>⟨⟨p,0,none,0⟩,rfl,fun v h1 h2=>by
  have hd:(dif (im w) u3).sub v:=(dif_cut hs.imm).trans h2
  have ha:=(g3 v h1 ((Ba hu3.sub).trans hd)).2
  rw[←g6]at ha
  have hp:=g5 v h1 hd
  obtain⟨l1,l2⟩:=hp.low
  refine⟨P',(Bi P').length,hp,?_,Nat.le_refl _,by rw[List.take_length];exact ha⟩
  have:=toks_adv (Bi P').length l1 l2
  rw[List.drop_length]at this
  cases hR:Cc (Bi P').length P' with
  |nil=>exact⟨rfl,rfl⟩
  |cons y R=>
   obtain⟨b,T,i⟩:=y
   rw[hR,Bi]at this
   have h9:=(low_adv (Bi P').length l1 l2).2 (b,T,i) (by rw[hR];exact List.mem_cons_self)
   have h10:=congrArg List.length this
   rw[List.length_append,List.length_drop]at h10
   simp only[List.length_nil]at h10 h9
   omega⟩)
def spT (sp:Bool):List TV→List TV
 |[]=>[]
 |t::r=>⟨{t.pv with space:=sp},t.hp⟩::r
def spX (sp:Bool):List XT→List XT
 |[]=>[]
 |x::r=>{x with space:=sp}::r
theorem TksR.sp {u:Im} (sp:Bool):∀ {T:List TV} {X:List XT},TksR u T X→TksR u (spT sp T) (spX sp X)
 |[],[],h=>h
 |t::T,x::X,h=>⟨⟨h.1.kind,h.1.text,rfl,h.1.parts,h.1.hide⟩,h.2⟩
 |[],_::_,h=>h.elim
 |_::_,[],h=>h.elim
theorem spT_set (sp:Bool) (T:List TV) {S:List TV} {t:TV} (h:S[0]?=some t):(T++S).set T.length ⟨{t.pv with space:=sp},t.hp⟩=T++spT sp S:=by
 cases S with
 |nil=>simp at h
 |cons y r=>
  simp only[List.getElem?_cons_zero,Option.some.injEq]at h
  subst h
  rw[List.set_append_right _ _ (Nat.le_refl _),Nat.sub_self]
  rfl
abbrev fBox (k:Nat) (count most:Nat) (op:Bool):List SV:=[.r k,.v (.int .i64 (count:Int)),.v (.int .i64 (most:Int)),.v (.bool op)]
abbrev fOw' (T:List TV) (count most:Nat) (op:Bool):GV.Own:=[(0,.box 208 (fBox 2 count most op)),(2,.row 87 (tvY.d T))]
abbrev fOw (T:List TV) (count most:Nat) (op:Bool):GV.Own:=[(0,.box 208 (fBox 1 count most op)),(1,.row 87 (tvY.d T))]
theorem add_scx {u0:Im} {T S:List TV} {A:Option Addr} {c count most:Nat} {op sp:Bool} (hS:Aw u0 (.slice A S.length c) (tvY.d S)) (hz:count+S.length≤most) (hm:most≤1000000000) (hT:T.length≤1000000000) :
 SCX Tryz.prog 105 u0 2 (fOw T count most op) [.p 0 0,.v (.slice A S.length c),.v (.bool sp)] (fun _:Unit=>(fOw' (T++spT sp S) (count+S.length) most (if S.length=0 then op else true),3,[])) (fun _=>True) (fun _ _=>True):=by
 refine x_scx Aa Tryz.func105 O O O O (fun us hus=>?_)
 refine Ao Aa ?_
 refine Ap (fun h1=>?_) (fun h1=>?_)
 have h1:decide ((S.length:Int)=0)=true:=h1
 have h1:S.length=0:=by have:=of_decide_eq_true h1;omega
 obtain rfl:=List.eq_nil_of_length_eq_zero h1
 refine⟨(),[(2,some 1)],rfl,?_,rfl,by show 2≤3;omega,trivial,fun _ _ _=>trivial⟩
 show Sub 2 _ _ ⟨_,[],fOw' (T++[]) (count+0) most op,3⟩
 rw[List.append_nil]
 exact .of O O O O O O
 have h1:decide ((S.length:Int)=0)=false:=h1
 have h1:0<S.length:=by have:=of_decide_eq_false h1;omega
 obtain⟨t,ht⟩:∃t,S[0]?=some t:=⟨_,List.getElem?_eq_getElem h1⟩
 repeat refine sdI ?_
 refine x_draw mix (by kernel_rfl) (Cq Aa ?_)
 refine Ap (fun h2=>?_) (fun h2=>?_)
 have h2:(most:Int)<(count:Int)+(S.length:Int):=of_decide_eq_true h2
 omega
 have hSl:S.length≤1000000000:=by omega
 refine Bm Aa tvY T S 64 O O O O O O O O (by kernel_rfl) O O O (fun E w F hs=>(hS.sub hus).sub (Au hs.imm)) tkOne rfl (by omega) (by omega) ?_
 refine Ab Aa ?_
 have hLn:(T++S).length=T.length+S.length:=List.length_append
 have hDn:(tvY.d (T++S)).n=T.length+S.length:=by rw[Lay.d_n,hLn]
 have hN:(((tvY.d (T++S)).n:Int)-(S.length:Int)).toNat=T.length:=by omega
 have hidx:(T++S).getD (((tvY.d (T++S)).n:Int)-(S.length:Int)).toNat tvY.dft=t:=by
  rw[hN,List.getD_eq_getElem?_getD,List.getElem?_append_right (Nat.le_refl _),Nat.sub_self,ht];rfl
 have hset:(T++S).set (((tvY.d (T++S)).n:Int)-(S.length:Int)).toNat ⟨{t.pv with space:=sp},t.hp⟩=T++spT sp S:=by rw[hN];exact spT_set sp T ht
 refine x_via (σ:=Unit) (fun _=>⟨[],[],[(0,.box 208 (fBox 2 (count+S.length) most true)),(2,.row 87 (tvY.d (T++spT sp S)))],3⟩) (fun _ _=>True) (fun _=>Nat.le_refl _) ?_ ?_
 refine Bw mix ?_
 refine At Aa (fuel:=8) [0,4,9,11,1,5,2,6] rfl (by kernel_rfl) (by kernel_rfl) (fun _ _ _ hh=>hh) (by kernel_rfl) (by kernel_rfl) ?_
 refine Aq 3 7 (by kernel_rfl) O O ?_ ?_
 refine Ab Aa ?_
 refine Ae (fuel:=1) [7,8,10,12,13,14] O O (by kernel_rfl) (Ab Aa ?_)
 repeat refine sdI ?_
 refine Ag 15 (by kernel_rfl) rfl ?_
 refine Bv Aa tvY (T++S) ⟨{t.pv with space:=sp},t.hp⟩ (cs:=[.bool sp]) O O O O O O O (by omega) (by omega) O O (by show 3≤5;omega) (by rw[hidx];rfl) ?_
 rw[hset]
 refine Ad ?_
 refine Aj (by kernel_rfl) rfl ?_
 exact Af () [] .z trivial
 refine Ab Aa ?_
 refine Aq 3 8 (by kernel_rfl) O O ?_ ?_
 refine Ab Aa ?_
 refine Ae (fuel:=1) [8,10,12,13,14] O O (by kernel_rfl) (Ab Aa ?_)
 repeat refine sdI ?_
 refine Ag 15 (by kernel_rfl) rfl ?_
 refine Bv Aa tvY (T++S) ⟨{t.pv with space:=sp},t.hp⟩ (cs:=[.bool sp]) O O O O O O O (by omega) (by omega) O O (by show 3≤5;omega) (by rw[hidx];rfl) ?_
 rw[hset]
 refine Ad ?_
 refine Aj (by kernel_rfl) rfl ?_
 exact Af () [] .z trivial
 refine Ab Aa ?_
 refine Aq 3 10 (by kernel_rfl) O O ?_ ?_
 refine Ab Aa ?_
 refine Ae (fuel:=1) [10,12,13,14] O O (by kernel_rfl) (Ab Aa ?_)
 repeat refine sdI ?_
 refine Ag 15 (by kernel_rfl) rfl ?_
 refine Bv Aa tvY (T++S) ⟨{t.pv with space:=sp},t.hp⟩ (cs:=[.bool sp]) O O O O O O O (by omega) (by omega) O O (by show 3≤5;omega) (by rw[hidx];rfl) ?_
 rw[hset]
 refine Ad ?_
 refine Aj (by kernel_rfl) rfl ?_
 exact Af () [] .z trivial
 refine Ab Aa ?_
 repeat refine sdI ?_
 refine Ae (fuel:=1) [3,12,13,14] O O (by kernel_rfl) (Ab Aa ?_)
 repeat refine sdI ?_
 refine Ag 15 (by kernel_rfl) rfl ?_
 refine Bv Aa tvY (T++S) ⟨{t.pv with space:=sp},t.hp⟩ (cs:=[.bool sp]) O O O O O O O (by omega) (by omega) O O (by show 3≤5;omega) (by rw[hidx];rfl) ?_
 rw[hset]
 refine Ad ?_
 refine Aj (by kernel_rfl) rfl ?_
 exact Af () [] .z trivial
 rintro _ u2 hu2 -
 rw[if_neg (by omega)]
 exact⟨(),[],rfl,.of O O O O O rfl,rfl,by show 2≤3;omega,trivial,fun _ _ _=>trivial⟩
end Go.Proofs.YtnjlkdhdinfejaaGreat
