/- Part 14 of the lemmas behind the claim. -/
import Derived.Test.YtacpdfjcepkgcaaGreatDoorZA01
import Derived.Test.YtacpdfjcepkgcaaGreatDoorZA13
import Derived.Laws.RangeString
set_option linter.unusedSimpArgs false
set_option linter.unusedVariables false
set_option linter.constructorNameAsVariable false
set_option linter.unusedSectionVars false
set_option linter.defProp false
set_option maxRecDepth 100000
set_option maxHeartbeats 40000000
namespace Go.CE
open Go.GV (TI Shp TIok FR oneB)
open Go.RowKit
variable {P : Program} {g : G} {o : Oper} {t : T AV} {h0 : H} {nx : Pos} {k : K}
theorem Zi {m:Mp}:∀ {vs:List AV} {ws:List Value},Gt vs=true→VL m vs ws→∀y∈ws,oneB y=true
 |[],ws,_,h,y,hy=>by rw[h.nil_inv]at hy;cases hy
 |v::r,ws,h1,h,y,hy=>by
  obtain⟨h2,h3⟩:=Cm (x:=Gt r) h1
  obtain⟨w,s,rfl,hv,hr⟩:=h.inv
  rcases Bo.1 hy with rfl|hy
  · cases hv<;>first|rfl|cases h2
  · exact Zi h3 hr y hy
theorem Oi {P:Program} {b:Nat} {ty:TypeId} {fr:Nat×Nat}:∀(ys:List Value) (i off:Nat) (w:World) (cs:Array Value),w.heap[b]?=some (.cells cs ty fr) →
 (∀y∈ys,oneB y=true)→off+i+ys.length≤cs.size→(∀x,off+i≤x→¬(fr.1≤x∧x<fr.2)) →
 ∃w',(storeCells ⟨b,off,none⟩ ys i).run P w=.ok () w'∧w'.heap.size=w.heap.size∧w'.os=w.os∧w'.tape=w.tape∧w'.output=w.output ∧
  (∀k,k≠b→w'.heap[k]?=w.heap[k]?)∧w'.heap[b]?=some (.cells (L3 ys (off+i) cs) ty fr)
 |[],i,off,w,cs,hb,_,_,_=>⟨w,by simp[storeCells],rfl,rfl,rfl,rfl,fun _ _=>rfl,by simp[hb,L3]⟩
 |y::r,i,off,w,cs,hb,ho,hl,hf=>by
  simp only[Cq]at hl
  have hadd:=Ey b off i
  have hc:w.cell? ⟨b,off+i,none⟩=some (cs[off+i]'(by omega)):=by
   simp[World.cell?,hb,Array.getElem?_eq_getElem (show off+i<cs.size by omega)]
  have hfz:w.frozen? ⟨b,off+i,none⟩=false:=by
   obtain⟨lo,hi⟩:=fr
   have:=hf (off+i) (Ag _)
   simp only[World.frozen?,hb]
   simp only[Bool.and_eq_false_iff,decide_eq_false_iff_not]
   simp only at this
   omega
  have hy:oneB y=true:=ho y (Aw ..)
  have hst:∀k:Sem Unit,(Sem.store .plain ⟨b,off+i,none⟩ y k).run P w=k.run P (w.setCell ⟨b,off+i,none⟩ y):=by
   intro k
   cases y<;>first|(simp[Sem.run,hc,hfz];done)|cases hy
  have hb':(w.setCell ⟨b,off+i,none⟩ y).heap[b]?=some (.cells (cs.setIfInBounds (off+i) y) ty fr):=by
   simp[World.setCell,Array.getElem?_modify,hb]
  obtain⟨w',h1,h2,h3,h4,h5,h6,h7⟩:=Oi (P:=P) r (i+1) off (w.setCell ⟨b,off+i,none⟩ y) _ hb' (fun z hz=>ho z (Am _ hz)) (by simp;omega) (fun x hx=>hf x (by omega))
  refine⟨w',?_,by rw[h2];simp[World.setCell],h3,h4,h5,fun k hk=>(h6 k hk).trans (Below.heap_setCell _ _ _ _ hk),?_⟩
  · simp only[storeCells,Sem.run_bind,store,hadd,hst]
    exact h1
  · rw[h7];rfl
theorem Mem.write {m:Mp} {h:H} {nx:Pos} {w:World} (M:Mem m h nx w) {id:Pos} {l:Loc} (hl:m id=some l) {c:Nat} {cs:T AV} {fz ty:Nat} (hh:hg h id=.cells c cs fz false ty)
 {off:Nat} {vs:List AV} {ws:List Value} (hf:fz≤off) (hle:off+vs.length≤c) (h1:Gt vs=true) (hv:VL m vs ws) (P:Program) :
 ∃w',(storeCells ⟨l.blk,l.base+off,none⟩ ws).run P w=.ok () w'∧Mem m (hs h id (.cells c (wl vs cs off) fz false ty)) nx w'∧Ext m h nx w m (hs h id (.cells c (wl vs cs off) fz false ty)) nx w':=by
 have ob:=M.ob id l hl
 rw[hh]at ob
 obtain⟨arr,fr,a1,a2,a3,a4,a5⟩:=ob
 have hbs:=M.bs _ _ hl
 have hlen:=hv.1
 obtain⟨w',b1,b2,b3,b4,b5,b6,b7⟩:=Oi (P:=P) ws 0 (l.base+off) w arr a1 (Zi h1 hv) (by omega) (fun x hx=>fun c=>by
  have:=c.2
  have:=a5 rfl
  omega)
 have ta:TA m c cs (arr.extract 0 c):=⟨by simp;omega,fun i hi=>by
  obtain⟨v,c1,c2⟩:=a4 i hi
  rw[hbs]at c1
  refine⟨v,?_,c2⟩
  rw[Array.getElem?_extract]
  simp only[Bf]at c1 ⊢
  simp[c1];omega⟩
 obtain⟨M',E'⟩:=M.turn (w':=w') hl (o:=.cells c (wl vs cs off) fz false ty) (by rw[hh];intro c;cases c) (by rw[hh];exact fun x=>x) (fun x=>x) b6 b2 b3 b4 b5
  ⟨_,fr,b7,by rw[Ir];exact a2,by rw[Ir];exact a3,fun i hi=>by
    have a4':=a4
    rw[hbs]at a4' ⊢
    rw[show(0:Nat)+off+0=off by omega,Bf,Nh ws off arr i (by omega),Hv]
    by_cases hc:off≤i∧i<off+vs.length
    · rw[if_pos hc,if_pos (by omega)]
      have hlt:i-off<vs.length:=by omega
      obtain⟨v,d1,d2⟩:=hv.get (i:=i-off) (a:=vs[i-off]) (by simp[hlt])
      refine⟨v,d1,?_⟩
      rw[A0,B8 hlt];exact d2
    · rw[if_neg hc,if_neg (by omega)]
      obtain⟨v,c1,c2⟩:=a4' i hi
      rw[Bf]at c1
      exact⟨v,c1,c2⟩,a5⟩
 exact⟨w',b1,M',E'⟩
theorem store_ok (hG:GOK P g) {ty:Nat} {x y:Operand} (ho:o.op=.store ty x y) (h:oStore g ty x y t h0 nx k=true):∃v h' nx',k v h' nx'=true∧XSem P o t h0 nx v h' nx':=by
 unfold oStore at h
 rw[Cg]at h
 obtain⟨id,off,hx,h⟩:=Qi h
 rw[Cg]at h
 obtain⟨ti,hti,h⟩:=B1 h
 obtain⟨vs,h,hvs⟩:=O0 h
 rw[H4]at h
 obtain⟨hn,h⟩:=Cm h
 obtain⟨c,cs,fz,ct,hh,hfz,hle,h1,h⟩:=wr_inv h
 have hlen:=Ck hn
 refine⟨_,_,_,h,fun m N a w M T=>?_⟩
 obtain⟨l,hl,e⟩:=(hx▸A7 T x:VR m (.p id off) _).p_inv
 have hv:=hvs m _ (A7 T y)
 obtain⟨w',b1,M',E'⟩:=M.write hl hh hfz hle h1 hv P
 refine⟨undef,m,w',VR.tuL (.nil m),.inr ⟨rfl,?_⟩,M',E'⟩
 have hsz:(a.eval y).cells.size=ti.sz:=by
  have:=hv.1
  rw[←hlen,this];simp
 simp only[execOp,ho,Instr.storeAt,Instr.sureAddr,e,Sem.run_bind,Sem.run_pure,Bn,storeVar,GV.run_sizeOf w (hG.ty _ _ hti)]
 rw[if_neg (by simp[hsz])]
 simp[b1]
theorem setE_eq (key v:AV):∀(es:List (AV×AV×Nat)) (i:Nat) (k:List (AV×AV×Nat)→Bool),Y5 es i key v k=k (es.modify i fun e=>(key,v,e.2.2))
 |[],i,k=>by cases i<;>rfl
 |e::r,0,k=>rfl
 |e::r,i+1,k=>by
  show Y5 r i key v (fun r=>k (e::r))=_
  rw[setE_eq key v r i];rfl
theorem delE_eq:∀(es:List (AV×AV×Nat)) (i:Nat) (k:List (AV×AV×Nat)→Bool),Aaq es i k=k (es.eraseIdx i)
 |[],i,k=>by cases i<;>rfl
 |e::r,0,k=>rfl
 |e::r,i+1,k=>by
  show Aaq r i (fun r=>k (e::r))=_
  rw[delE_eq r i];rfl
theorem snocE_eq (x:AV×AV×Nat):∀(es:List (AV×AV×Nat)) (k:List (AV×AV×Nat)→Bool),snocE es x k=k (es++[x])
 |[],k=>rfl
 |e::r,k=>snocE_eq x r fun r=>k (e::r)
theorem ES.modify {m:Mp} {key v:AV} {ck cv:Value} (h1:VR m key ck) (h2:VR m v cv):∀ {es:List (AV×AV×Nat)} {ces:List MapEntry} (i:Nat),ES m es ces →
 ES m (es.modify i fun e=>(key,v,e.2.2)) (ces.modify i fun e=>{e with key:=ck,val:=cv})
 |[],[],i,_=>by cases i<;>exact trivial
 |a::r,e::q,0,⟨a1,a2,a3,a4⟩=>⟨h1,h2,a3,a4⟩
 |a::r,e::q,i+1,⟨a1,a2,a3,a4⟩=>⟨a1,a2,a3,ES.modify h1 h2 i a4⟩
theorem ES.erase {m:Mp}:∀ {es:List (AV×AV×Nat)} {ces:List MapEntry} (i:Nat),ES m es ces→ES m (es.eraseIdx i) (ces.eraseIdx i)
 |[],[],i,_=>by cases i<;>exact trivial
 |a::r,e::q,0,⟨a1,a2,a3,a4⟩=>a4
 |a::r,e::q,i+1,⟨a1,a2,a3,a4⟩=>⟨a1,a2,a3,ES.erase i a4⟩
theorem ES.snoc {m:Mp} {key v:AV} {ck cv:Value} {c:Nat} (h1:VR m key ck) (h2:VR m v cv):∀ {es:List (AV×AV×Nat)} {ces:List MapEntry},ES m es ces→ES m (es++[(key,v,c)]) (ces++[{key:=ck,val:=cv,born:=c}])
 |[],[],_=>⟨h1,h2,rfl,trivial⟩
 |a::r,e::q,⟨a1,a2,a3,a4⟩=>⟨a1,a2,a3,ES.snoc h1 h2 a4⟩
theorem Mem.setMap {m:Mp} {h:H} {nx:Pos} {w:World} (M:Mem m h nx w) {id:Pos} {l:Loc} (hl:m id=some l) {es:List (AV×AV×Nat)} {clk:Nat} (hh:hg h id=.map es clk) {es':List (AV×AV×Nat)} {clk':Nat}
 {ces':Array MapEntry} (hE:ES m es' ces'.toList) (P:Program) :
 (setObj l.blk (.map ces' clk')).run P w=.ok () {w with heap:=w.heap.setIfInBounds l.blk (.map ces' clk')} ∧
 Mem m (hs h id (.map es' clk')) nx {w with heap:=w.heap.setIfInBounds l.blk (.map ces' clk')}∧Ext m h nx w m (hs h id (.map es' clk')) nx {w with heap:=w.heap.setIfInBounds l.blk (.map ces' clk')}:=by
 have ob:=M.ob id l hl
 rw[hh]at ob
 obtain⟨ces,a1,a2⟩:=ob
 have hlt:=M.bl _ _ hl
 refine⟨by simp[setObj,Sem.run,a1],?_⟩
 exact M.turn (o:=.map es' clk') hl (by rw[hh];intro c;cases c) (by rw[hh];exact fun x=>x) (fun x=>x) (fun b hb=>by simp[M9,Ne.symm hb]) (by simp) rfl rfl rfl
  ⟨ces',by simp[M9,hlt],hE⟩
theorem keyStays (s:ByteArray) (w:World):(Instr.keyThatStays (.string s) (.string s)).run P w=.ok (.string s) w:=by
 have:Instr.sameBits 10000 (.string s) (.string s)=true:=by
  show(s==s)=true
  rw[beqB];simp
 simp[Instr.keyThatStays,this]
theorem Xq (hG:GOK P g) {ty:Nat} {x key y:Operand} (ho:o.op=.mapUpdate ty x key y∨o.op=.insert ty x key y) (h:Sv g ty x key y t h0 nx k=true):∃v h' nx',k v h' nx'=true∧XSem P o t h0 nx v h' nx':=by
 unfold Sv at h
 rw[Db]at h
 split at h
 · rename_i ke hm
   obtain⟨kt,et⟩:=ke
   rw[Cg]at h
   simp only[Cg]at h
   obtain⟨kl,hk,h⟩:=Tc h
   obtain⟨hu,huk⟩:=hG.mp _ _ _ hm
   split at h
   · rename_i id hv
     rw[Cz]at h
     split at h
     · rename_i es clk hh
       have setup:∀m N (a:Act) w,Mem m h0 nx w→TR m N t a.tmps→∃(l:Loc) (ces:Array MapEntry) (s:ByteArray),Ep s=kl∧m id=some l∧w.heap[l.blk]?=some (.map ces clk)∧ES m es ces.toList∧a.eval x=.map (some l.blk)∧a.eval key=.string s:=fun m N a w M T=>by
        obtain⟨s',hks,hsl⟩:=(hk▸A7 T key:VR m (.s kl) _).s_inv
        obtain⟨l,hl,e1⟩:=(hv▸A7 T x:VR m (.m id) _).m_inv
        have:=M.ob id l hl
        rw[hh]at this
        obtain⟨ces,b1,b2⟩:=this
        exact⟨l,ces,s',hsl,hl,b1,b2,e1,hks⟩
       have exec:∀(a:Act),execOp a.eval o=(do Instr.mapUpdate ty (a.eval x) (a.eval key) (a.eval y);pure .skip:Sem Next):=fun a=>by
        rcases ho with ho|ho<;>simp[execOp,ho]
       rcases Nv 0 h with⟨j,v,h1,h2⟩|⟨h1,h2⟩
       · rw[setE_eq,Di]at h2
         refine⟨_,_,_,h2,fun m N a w M T=>?_⟩
         obtain⟨l,ces,s,hs,hl,b1,b2,e1,hks⟩:=setup m N a w M T
         obtain⟨cv,e',c1,c2,c3,c4,c5⟩:=(J7 hs 0 b2).1 j v h1
         have hE:=ES.modify (VR.s (m:=m) s) (A7 T y) j b2
         rw[hs]at hE
         obtain⟨r1,M',E'⟩:=M.setMap hl hh (es':=es.modify j fun e=>(.s kl,Xo t y,e.2.2)) (clk':=clk) (ces':=ces.modify j fun e=>{e with key:=.string s,val:=a.eval y}) (by simpa using hE) P
         refine⟨undef,m,_,VR.tuL (.nil m),.inr ⟨rfl,?_⟩,M',E'⟩
         have hgo:(getObj l.blk).run P w=.ok (.map ces clk) w:=by simp[getObj,Sem.run,b1]
         have hj:ces[j]?=some e':=by simpa using c4
         rw[exec]
         simp only[e1,hks,Instr.mapUpdate,Sem.run_bind,run_underlying hu,Bn,hgo,Gr huk,Ho huk c1,hj,Ig,Option.getD_some,c5,keyStays,r1]
         rfl
       · rw[snocE_eq,F6,Di]at h2
         refine⟨_,_,_,h2,fun m N a w M T=>?_⟩
         obtain⟨l,ces,s,hs,hl,b1,b2,e1,hks⟩:=setup m N a w M T
         have c1:=(J7 hs 0 b2).2 h1
         have hE:=ES.snoc (c:=clk) (VR.s (m:=m) s) (A7 T y) b2
         rw[hs]at hE
         obtain⟨r1,M',E'⟩:=M.setMap hl hh (es':=es++[(.s kl,Xo t y,clk)]) (clk':=clk+1) (ces':=ces.push {key:=.string s,val:=a.eval y,born:=clk}) (by simpa using hE) P
         refine⟨undef,m,_,VR.tuL (.nil m),.inr ⟨rfl,?_⟩,M',E'⟩
         have hgo:(getObj l.blk).run P w=.ok (.map ces clk) w:=by simp[getObj,Sem.run,b1]
         rw[exec]
         simp only[e1,hks,Instr.mapUpdate,Sem.run_bind,run_underlying hu,Bn,hgo,Gr huk,Ho huk c1,r1]
         rfl
     · cases h
   · cases h
 · cases h
theorem decode_asc {s:ByteArray} {i n:Nat} (h:(Ep s)[i]?=some n) (hn:n≤127):Utf8.decode s i=(n,1):=by
 obtain⟨b,h1,h2⟩:=str_get h
 have hi:i<s.size:=by
  rcases Nat.lt_or_ge i s.size with h|h
  · exact h
  · rw[getElem?_neg s i (by omega)]at h1;cases h1
 rw[getElem?_pos s i hi]at h1
 simp only[Option.some.injEq]at h1
 rw[decode_ascii s i hi (by rw[h1];omega),h1,h2]
theorem next_ok {x:Operand} (ho:o.op=.next x true) (h:oNext x t h0 nx k=true):∃v h' nx',k v h' nx'=true∧XSem P o t h0 nx v h' nx':=by
 unfold oNext at h
 rw[Cg]at h
 obtain⟨id,off,hx,h⟩:=Qi h
 obtain⟨h0',h⟩:=Cm h
 have hoff:=Ck h0'
 rw[Cz]at h
 split at h
 · rename_i s pos hh
   rw[H4]at h
   have setup:∀m N (a:Act) w,Mem m h0 nx w→TR m N t a.tmps→∃(l:Loc) (b:ByteArray),m id=some l∧w.heap[l.blk]?=some (.stringIter b pos)∧Ep b=s∧a.eval x=.pointer (some ⟨l.blk,0,none⟩):=fun m N a w M T=>by
    obtain⟨l,hl,e⟩:=(hx▸A7 T x:VR m (.p id off) _).p_inv
    have:=M.ob id l hl
    rw[hh]at this
    obtain⟨b,a1,a2,a3⟩:=this
    rw[hoff,a3]at e
    exact⟨l,b,hl,a1,a2,e⟩
   rcases C6 h with⟨h1,h2⟩|⟨h1,h2⟩
   · refine⟨_,_,_,h2,fun m N a w M T=>?_⟩
     obtain⟨l,b,hl,a1,a2,e⟩:=setup m N a w M T
     have hge:¬pos<b.size:=by
      have:=Aa h1
      rw[←a2,Ei]at this
      omega
     refine⟨_,m,w,VR.tuL (.cons (.b false) (.nil m)),.inl ?_,M,.refl m h0 nx w⟩
     have hgo:(getObj l.blk).run P w=.ok (.stringIter b pos) w:=by simp[getObj,Sem.run,a1]
     simp[execOp,ho,Instr.next,e,hgo,hge]
   · obtain⟨c,h3,h4⟩:=nth_inv h2
     obtain⟨h5,h6⟩:=Cm h4
     rw[F6,Di]at h6
     have hc:=Aa h5
     refine⟨_,_,_,h6,fun m N a w M T=>?_⟩
     obtain⟨l,b,hl,a1,a2,e⟩:=setup m N a w M T
     have hlt:pos<b.size:=by
      have:=J5 h1
      rw[←a2,Ei]at this
      exact this
     have hd:Utf8.decode b pos=(c,1):=decode_asc (by rw[a2];exact h3) hc
     have hblk:=M.bl _ _ hl
     obtain⟨M',E'⟩:=M.turn (w':={w with heap:=w.heap.setIfInBounds l.blk (.stringIter b (pos+1))}) (o:=.iter s (pos+1)) hl (by rw[hh];intro c;cases c) (by rw[hh];exact fun x=>x) (fun x=>x)
      (fun b' hb=>by simp[M9,Ne.symm hb]) (by simp) rfl rfl rfl ⟨b,by simp[M9,hblk],a2,M.bs _ _ hl⟩
     refine⟨_,m,_,VR.tuL (.cons (.b true) (.cons (.i _ _) (.cons (.i _ _) (.nil m)))),.inl ?_,M',E'⟩
     have hgo:(getObj l.blk).run P w=.ok (.stringIter b pos) w:=by simp[getObj,Sem.run,a1]
     have hso:(setObj l.blk (.stringIter b (pos+1))).run P w=.ok () {w with heap:=w.heap.setIfInBounds l.blk (.stringIter b (pos+1))}:=by simp[setObj,Sem.run,a1]
     simp[execOp,ho,Instr.next,e,hgo,hlt,hd,hso,goInt]
 · cases h
theorem run_blt {c:Call} {b:Builtin} (ho:o.op=.call c) (hc:c.callee=.builtin b) (a:Act) (w:World) :
 (execOp a.eval o).run P w=(builtin b c.argTypes o.type (c.args.map fun | .const _=>true|_=>false) (c.args.map a.eval)).run P w:=by
 simp[execOp,ho,resolve,hc,invoke]
 rfl
theorem u8L_eq:∀(l:List Nat) (k:List AV→Bool),u8L l k=k (l.map fun n=>.i .u8 (Int.ofNat n))
 |[],k=>rfl
 |n::r,k=>u8L_eq r fun s=>k (.i .u8 (Int.ofNat n)::s)
theorem appd_ok {sz:Nat} {x:AV} {k:Nat→List AV→Bool} (h:appd sz x h0 k=true):∃n vs,k n vs=true∧vs.length=n*sz ∧
 ∀m w,Mem m h0 nx w→∀cx,VR m x cx→∃ws:List Value,VL m vs ws∧(Builtin.lenOf cx).run P w=.ok n w∧(Builtin.firstCells sz n cx).run P w=.ok ws.toArray w:=by
 unfold appd at h
 split at h
 · refine⟨0,[],h,by simp,fun m w M cx hx=>⟨[],.nil m,?_,?_⟩⟩
   · rw[hx.sl0_inv];simp[Builtin.lenOf]
   · rw[hx.sl0_inv];simp[Builtin.firstCells]
 · rename_i id off n cap
   rcases C6 h with⟨h1,h2⟩|⟨h1,h2⟩
   · have hn:=Ck h1
     refine⟨0,[],h2,by simp,fun m w M cx hx=>⟨[],.nil m,?_,?_⟩⟩
     · obtain⟨l,c,ad,_,rfl,_⟩:=hx.sl_any
       rw[hn];simp[Builtin.lenOf]
     · obtain⟨l,c,ad,_,rfl,_⟩:=hx.sl_any
       simp[Builtin.firstCells,loadCells,loadCellsFrom]
   · have hn:n≠0:=fun c=>by rw[c]at h1;cases h1
     obtain⟨c,cs,fz,ro,ct,hh,hle,hk⟩:=Ze h2
     refine⟨n,_,hk,by rw[Dj];rfl,fun m w M cx hx=>?_⟩
     obtain⟨l,cc,ad,hl,rfl,hpos⟩:=hx.sl_any
     have had:=hpos (by omega)
     obtain⟨ws,h3,h4⟩:=Li M hl hh _ off hle
     refine⟨ws,h3,by simp[Builtin.lenOf],?_⟩
     have hlen:ws.length=n*sz:=by rw[←h3.1,Dj];rfl
     rw[had]
     simp only[Builtin.firstCells,loadCells]
     have:=GV.run_loadCellsFrom P (Addr.mk l.blk (l.base+off) none) ws 0 #[] (by simpa using h4)
     rw[hlen]at this
     rw[this];simp
 · rename_i l
   obtain⟨hsz1,h⟩:=Cm h
   have hsz1:=Ck hsz1
   rw[H4,u8L_eq]at h
   refine⟨_,_,h,by rw[hsz1];simp,fun m w M cx hx=>?_⟩
   obtain⟨b,rfl,hb⟩:=hx.s_inv
   refine⟨l.map fun n=>.int .u8 (Int.ofNat n),?_,?_,?_⟩
   · refine⟨by simp,fun i a v ha hv=>?_⟩
     rw[G5]at ha hv
     cases hl:l[i]? with
     |none=>rw[hl]at ha;cases ha
     |some n=>rw[hl]at ha hv;cases ha;cases hv;exact .i _ _
   · have:l.length=b.size:=by rw[←hb,Ei]
     simp[Builtin.lenOf,this]
   · have hlen:l.length=b.size:=by rw[←hb,Ei]
     simp only[Builtin.firstCells]
     have:(b.extract 0 l.length)=b:=by rw[hlen];exact ByteArray.extract_zero_size
     rw[this]
     have e:(b.data.map fun(x:UInt8)=>Value.int .u8 (x.toNat:Int))=(l.map fun n=>Value.int .u8 (Int.ofNat n)).toArray:=by
      apply Array.ext'
      rw[←hb,Fp]
      simp
     simp[e]
 · cases h
theorem X3 (De:Nat):∀(r c:Nat),c≤2*De+192→Builtin.growBy De r c≤2*De+192
 |0,c,h=>h
 |r+1,c,h=>by
  unfold Builtin.growBy
  split
  · exact h
  · exact X3 De r _ (by omega)
theorem nextcap_le {De c:Nat} (h:c<De):Builtin.nextslicecap De c≤2*De+192:=by
 unfold Builtin.nextslicecap
 split
 · omega
 · split
   · omega
   · exact X3 De 4 c (by omega)
variable {w : World} {ty tx e : Nat} {ts : Array TypeId} {ti tix te : TI} {i : TypeInfo} {b n sl sc : Nat} {base : Option Addr} {cx : Value} {ws : List Value} {rt : TypeId}
theorem notInt_d (hG:GOK P g) (htx:T.get none g.ty (Ay (tx+1))=some tix) (hni:Qx tix.shp=true):∃d,P.underlying tx=some d∧(d=.string∨∃e',d=.slice e'):=by
 obtain⟨d,hd,hs⟩:=(hG.ty _ _ htx).und
 refine⟨d,hd,?_⟩
 cases hsh:tix.shp<;>rw[hsh]at hs hni<;>simp only[Qx]at hni<;>try cases hni
 · exact .inl hs
 · exact .inr ⟨_,hs⟩
theorem Vc (hG:GOK P g) (hti:T.get none g.ty (Ay (ty+1))=some ti) (hs:ti.shp=.slice e) (hte:T.get none g.ty (Ay (e+1))=some te) (h0':ts[0]?=some ty) (h1:ts[1]?=some tx)
 (htx:T.get none g.ty (Ay (tx+1))=some tix) (hni:Qx tix.shp=true) (hlen:(Builtin.lenOf cx).run P w=.ok n w) (hcs:(Builtin.firstCells te.sz n cx).run P w=.ok ws.toArray w) (hle:sl+n≤sc)
 {w':World} (hst:∀a,base=some a→(storeCells (a.add (sl*te.sz)) ws).run P w=.ok () w') (hno:base=none→w'=w) :
 (Builtin.append_ ts rt #[.slice base sl sc,cx]).run P w=.ok (.slice base (sl+n) sc) w':=by
 have hu:=(hG.ty _ _ hti).isSlice hs
 obtain⟨d,hd,hdd⟩:=notInt_d hG htx hni
 unfold Builtin.append_
 simp only[h0',h1,List.getElem?_toArray,List.getElem?_cons_zero,Ke,Sem.run_bind,run_underlying hu,Bn,GV.run_sizeOf w (hG.ty _ _ hte),run_underlying hd,Sem.run_pure]
 rcases hdd with rfl|⟨e',rfl⟩ <;>
  (simp only[Bool.false_eq_true,if_false,hlen,Sem.run_bind,Bn,if_pos hle,F4,if_true,hcs]
   cases base with
   |none=>have:=hno rfl;subst this;simp
   |some a=>simp[hst a rfl])
def Kk (w:World):World:={w with drawn:=w.drawn+1}
theorem Vd (hG:GOK P g) (hti:T.get none g.ty (Ay (ty+1))=some ti) (hs:ti.shp=.slice e) (hte:T.get none g.ty (Ay (e+1))=some te) (h0':ts[0]?=some ty) (h1:ts[1]?=some tx)
 (htx:T.get none g.ty (Ay (tx+1))=some tix) (hni:Qx tix.shp=true) (hlen:(Builtin.lenOf cx).run P w=.ok n w) (hcs:(Builtin.firstCells te.sz n cx).run P (Kk w)=.ok ws.toArray (Kk w))
 (hi:P.info? e=some i) (hb:i.bytes=b) (hgt:sc<sl+n) (hsm:(sl+n) * (b+1)≤1000000000) (hn:0<n)
 {old:List Value} (hold:(Builtin.firstCells te.sz sl (.slice base sl sc)).run P (Kk w)=.ok old.toArray (Kk w)) :
 ∃cap,sl+n≤cap∧(Builtin.append_ ts rt #[.slice base sl sc,cx]).run P w=.ok (.slice (some ⟨w.heap.size,0,none⟩) (sl+n) cap)
  ((Kk w).alloc (.cells (old.toArray++ws.toArray++Builtin.zeroCells te.zv.cells (cap-(sl+n))) e)):=by
 have hu:=(hG.ty _ _ hti).isSlice hs
 obtain⟨d,hd,hdd⟩:=notInt_d hG htx hni
 have hti':∀w,(typeInfo e).run P w=.ok i w:=fun w=>by simp[typeInfo,hi]
 have hle:¬sl+n≤sc:=by omega
 have hm1:sl+n≤1000000000:=Cr (Nat.le_mul_of_pos_right _ (by omega)) hsm
 have hm2:b+1≤1000000000:=Cr (Nat.le_mul_of_pos_left _ (by omega)) hsm
 have hm3:(sl+n) * b≤1000000000:=Cr (Nat.mul_le_mul_left _ (Nat.le_succ b)) hsm
 have hmx:¬((sl+n:Nat):Int) > IntKind.i64.max:=by
  have hm:IntKind.i64.max=9223372036854775807:=by decide
  rw[hm];omega
 have hnc:¬Builtin.nextslicecap (sl+n) sc*i.bytes > 2^48:=by
  rw[hb]
  have h2:=nextcap_le hgt
  have h3:Builtin.nextslicecap (sl+n) sc*b≤(2 * (sl+n)+192) * b:=Kb _ h2
  have h4:(2 * (sl+n)+192) * b=2 * ((sl+n) * b)+192*b:=by rw[Nat.add_mul,Nat.mul_assoc]
  omega
 obtain⟨cap,hcap,hch⟩:∃cap,sl+n≤cap∧(choose (.appendCap (sl+n) sc e)).run P w=.ok cap (Kk w):=
  ⟨Question.cut (.appendCap (sl+n) sc e) (w.tape w.drawn (.appendCap (sl+n) sc e)),by simp[Question.cut],by simp[choose,Sem.run,Question.forced,Kk]⟩
 have hroom:∀b w,(askRoom b).run P w=.ok () w:=fun b w=>by unfold askRoom;split<;>simp[mark,Sem.run]
 refine⟨cap,hcap,?_⟩
 unfold Builtin.append_
 simp only[h0',h1,List.getElem?_toArray,List.getElem?_cons_zero,Ke,Sem.run_bind,run_underlying hu,Bn,GV.run_sizeOf w (hG.ty _ _ hte),run_underlying hd,Sem.run_pure]
 rcases hdd with rfl|⟨e',rfl⟩ <;>
  (simp only[Bool.false_eq_true,if_false,hlen,Sem.run_bind,Bn,if_neg hle,hti',hmx,false_and,if_neg hnc,hch,hroom,F4,if_true,hold,hcs,GV.run_zeroValue (Kk w) (hG.ty _ _ hte),newRow,run_newObj_alloc,Sem.run_pure]
   rfl)
end Go.CE
namespace Go.CE
open Go.GV (TI Shp TIok FR oneB)
open Go.RowKit
variable {P : Program} {g : G} {o : Oper} {t : T AV} {h0 : H} {nx : Pos} {k : K}
theorem Mem.dr {m:Mp} {h:H} {nx:Pos} {w:World} (M:Mem m h nx w):Mem m h nx (Kk w):=
 ⟨fun id l e=>(M.ob id l e).mono (.refl m) rfl,M.ij,M.lt,M.bl,M.bs⟩
theorem Ext.dr {m:Mp} {h:H} {nx:Pos} {w:World} {m':Mp} {h':H} {nx':Pos} {w':World} (E:Ext m h nx (Kk w) m' h' nx' w'):Ext m h nx w m' h' nx' w':=
 ⟨E.le,E.nle,E.virt,E.old,E.size,E.fresh,E.ros,E.nro,E.os,E.tape,E.output⟩
def AppSem (P:Program) (ts:Array TypeId) (rt:TypeId) (s x:AV) (h:H) (nx:Pos) (v:AV) (h':H) (nx':Pos):Prop:=
 ∀m w cs cx,Mem m h nx w→VR m s cs→VR m x cx→∃cv m' w',VR m' v cv∧(Builtin.append_ ts rt #[cs,cx]).run P w=.ok cv w'∧Mem m' h' nx' w'∧Ext m h nx w m' h' nx' w'
theorem Ma (z:Array Value) (n:Nat):(Builtin.zeroCells z n).size=n*z.size:=by simp[Builtin.zeroCells]
theorem grown {m:Mp} {w:World} {e:Nat} {te:TI} (hT:TIok P e te) {l n cap:Nat} {oldA vs:List AV} {old ws:List Value} (h1:VL m oldA old) (h2:VL m vs ws) (hl1:oldA.length=l*te.sz) (hl2:vs.length=n*te.sz)
 (hcap:l+n≤cap) {cs:T AV} (hcs:∀i,i<(l+n) * te.sz→T.get .x cs (Ay (i+1))=(oldA++vs).getD i .x) (fz:Nat) {lo:Loc} (hlo:lo=⟨w.heap.size,0,cap*te.sz⟩) {nx:Pos} (hn:m nx=none) :
 OR (Pf m nx lo) (.cells ((l+n) * te.sz) cs fz false e) lo ((Kk w).alloc (.cells (old.toArray++ws.toArray++Builtin.zeroCells te.zv.cells (cap-(l+n))) e)) ∧
 VR (Pf m nx lo) (.sl nx 0 (l+n) (.u te.sz)) (.slice (some ⟨w.heap.size,0,none⟩) (l+n) cap):=by
 have hz:te.zv.cells.size=te.sz:=by rw[TI.zv_cells hT];simp[hT.len]
 have hsum:(l+n) * te.sz=l*te.sz+n*te.sz:=Nat.add_mul ..
 have hcs':cap*te.sz=(l+n) * te.sz+(cap-(l+n)) * te.sz:=by rw[←Nat.add_mul];congr 1;omega
 have hle:=Mr (l:=lo) hn
 have happ:=(h1.append h2).mono hle
 have holen:old.length=l*te.sz:=by rw[←h1.1,hl1]
 have hwlen:ws.length=n*te.sz:=by rw[←h2.1,hl2]
 subst hlo
 refine⟨⟨_,(0,0),I1 (Kk w) _,?_,?_,?_,fun _=>B9 _⟩,.slu 0 _ cap te.sz (Cv _ _ _) hcap (by simp)⟩
 · simp[Ma,hz,holen,hwlen];omega
 · simp[Ma,hz,holen,hwlen];omega
 · intro i hi
   have hil:i<(oldA++vs).length:=by simp[hl1,hl2];omega
   obtain⟨v,a1,a2⟩:=happ.get (i:=i) (a:=(oldA++vs)[i]) (by simp[hil])
   refine⟨v,?_,?_⟩
   · rw[Bf]
     have:(old.toArray++ws.toArray)[i]?=some v:=by simpa using a1
     rw[Array.getElem?_append_left (by simp[holen,hwlen];omega)]
     exact this
   · rw[hcs i hi,A0,B8 hil];exact a2
theorem wl_app (oldA vs:List AV) (i:Nat) (h:i<oldA.length+vs.length):T.get .x (wl vs (wl oldA .e 0) oldA.length) (Ay (i+1))=(oldA++vs).getD i .x:=by
 rw[Hv]
 by_cases hc:oldA.length≤i∧i<oldA.length+vs.length
 · rw[if_pos hc,A0,A0,Fy hc.1]
 · rw[if_neg hc,Hv,if_pos ⟨B9 _,by omega⟩,A0,A0,Ii (by omega)];rfl
theorem appN_ok (hG:GOK P g) {ty tx e:Nat} {ts:Array TypeId} {rt:TypeId} {ti tix te:TI} {b n:Nat} {s x:AV} {vs:List AV} (hti:T.get none g.ty (Ay (ty+1))=some ti) (hsh:ti.shp=.slice e)
 (hte:T.get none g.ty (Ay (e+1))=some te) (h0':ts[0]?=some ty) (h1:ts[1]?=some tx) (htx:T.get none g.ty (Ay (tx+1))=some tix) (hni:Qx tix.shp=true) (hb:T.get none g.bt (Ay (e+1))=some b)
 (hvl:vs.length=n*te.sz) (happ:∀m w,Mem m h0 nx w→∀cx,VR m x cx→∃ws:List Value,VL m vs ws∧(Builtin.lenOf cx).run P w=.ok n w∧(Builtin.firstCells te.sz n cx).run P w=.ok ws.toArray w)
 (hn:0<n) (h:Ve e te b n vs s h0 nx k=true):∃v h' nx',k v h' nx'=true∧AppSem P ts rt s x h0 nx v h' nx':=by
 obtain⟨i,hi,hib⟩:=hG.bt _ _ hb
 have hT:=hG.ty _ _ hte
 rw[Qj]at h;unfold appNC at h
 split at h
 · obtain⟨h2,h⟩:=Cm h
   rw[Gy,F6]at h
   obtain⟨hd,h⟩:=Gk h
   have hsm:=Aa h2
   refine⟨_,_,_,h,fun m w cs cx M hs' hx=>?_⟩
   obtain⟨ws,a1,a2,a3⟩:=happ m w M cx hx
   obtain⟨ws',b1,b2,b3⟩:=happ m (Kk w) M.dr cx hx
   rw[hs'.sl0_inv]
   obtain⟨cap,c1,c2⟩:=Vd (rt:=rt) (base:=none) (sl:=0) (sc:=0) (old:=[]) hG hti hsh hte h0' h1 htx hni a2 b3 hi hib (by omega) (by simpa using hsm) hn (by simp[Builtin.firstCells])
   obtain⟨o1,o2⟩:=grown (w:=w) (fz:=0) (l:=0) hT (VL.nil m) b1 (by simp) hvl (by simpa using c1) (cs:=wl vs .e 0) (fun i hi=>by
    have:=wl_app [] vs i (by simpa[hvl]using hi)
    simpa[wl]using this) (lo:=⟨w.heap.size,0,cap*te.sz⟩) rfl M.ids
   obtain⟨M',E'⟩:=M.dr.new (l:=⟨w.heap.size,0,cap*te.sz⟩) rfl rfl (by intro x;exact x) o1
   simp only[Bf]at o2 c2 M' E'
   exact⟨_,_,_,o2,c2,M',E'.dr⟩
 · rename_i id off l c
   rw[F6]at h
   obtain⟨h2,h⟩:=Cm h
   have hsm:=Aa h2
   rcases C6 h with⟨h3,h⟩|⟨h3,h⟩
   · rw[F6]at h
     obtain⟨cc,cs,fz,ct,hh,hfz,hle,hon,h⟩:=wr_inv h
     have hroom:=Aa h3
     refine⟨_,_,_,h,fun m w cv cx M hs' hx=>?_⟩
     obtain⟨ws,a1,a2,a3⟩:=happ m w M cx hx
     obtain⟨lo,hl,rfl⟩:=hs'.slk_inv
     obtain⟨w',b1,M',E'⟩:=M.write hl hh hfz hle hon a1 P
     refine⟨_,m,w',.slk off (l+n) c hl,Vc (rt:=rt) hG hti hsh hte h0' h1 htx hni a2 a3 hroom (fun a ha=>?_) (fun c=>by cases c),M',E'⟩
     cases ha
     rw[Ey,Er]
     exact b1
   · obtain⟨cc,cs,fz,ro,ct,hh,hle,h⟩:=Ze h
     rw[Gy,Gy,F6]at h
     obtain⟨hd,h⟩:=Gk h
     have hgt:=J5 h3
     refine⟨_,_,_,h,fun m w cv cx M hs' hx=>?_⟩
     obtain⟨ws,a1,a2,a3⟩:=happ m w M cx hx
     obtain⟨ws',b1,b2,b3⟩:=happ m (Kk w) M.dr cx hx
     obtain⟨lo,hl,rfl⟩:=hs'.slk_inv
     obtain⟨old,r1,r2⟩:=Li M.dr hl hh _ off hle
     have hlen:old.length=l*te.sz:=by rw[←r1.1,Dj];rfl
     have hld:=GV.run_loadCellsFrom (w:=Kk w) P (Addr.mk lo.blk (lo.base+off) none) old 0 #[] (by simpa using r2)
     rw[hlen]at hld
     obtain⟨cap,c1,c2⟩:=Vd (rt:=rt) (base:=some ⟨lo.blk,lo.base+off,none⟩) (sl:=l) (sc:=c) (old:=old) hG hti hsh hte h0' h1 htx hni a2 b3 hi hib hgt hsm hn (by
      simp only[Builtin.firstCells,loadCells];rw[hld];simp)
     have hrl:(Zd cs (l*te.sz) off).length=l*te.sz:=Dj _ _ _
     obtain⟨o1,o2⟩:=grown (w:=w) (fz:=0) hT r1 b1 hrl hvl c1 (cs:=wl vs (wl (Zd cs (l*te.sz) off) .e 0) (l*te.sz)) (fun i hi=>by
      have:=wl_app (Zd cs (l*te.sz) off) vs i (by rw[hrl,hvl,←Nat.add_mul];exact hi)
      rw[hrl]at this;exact this) (lo:=⟨w.heap.size,0,cap*te.sz⟩) rfl M.ids
     obtain⟨M',E'⟩:=M.dr.new (l:=⟨w.heap.size,0,cap*te.sz⟩) rfl rfl (by intro x;exact x) o1
     exact⟨_,_,_,o2,c2,M',E'.dr⟩
 · rename_i id off l es
   rw[F6]at h
   obtain⟨h2,h⟩:=Cm h
   obtain⟨h3,h⟩:=Cm h
   obtain⟨hon,h⟩:=Cm h
   rw[Cz]at h
   split at h
   · rename_i cn cs fz ro ct hh
     obtain⟨h4,h⟩:=Jg h
     obtain⟨h5,h⟩:=Cm h
     rw[F6]at h
     obtain⟨h6,h⟩:=Cm h
     obtain⟨h7,h⟩:=Cm h
     obtain⟨h8,h⟩:=Cm h
     rw[Gy,F6,Di]at h
     obtain⟨hd,hk⟩:=Gk h
     have hsm:=Aa h2
     have hes:=Ck h3
     have hct:=Ck h5
     have hcn':l*te.sz≤cn:=Aa h6
     have hof:=Ck h7
     have hfz:fz≤l*te.sz:=Aa h8
     rw[h4,hct]at hh
     have hnd:hg h0 id≠.dead:=by rw[hh];intro c;cases c
     have hnro:¬N4 (hg h0 id):=by rw[hh];exact fun x=>x
     have hsum:(l+n) * te.sz=l*te.sz+n*te.sz:=Nat.add_mul ..
     have hcsg:∀i,i<(l+n) * te.sz→T.get .x (wl vs cs (l*te.sz)) (Ay (i+1))=(Zd cs (l*te.sz) 0++vs).getD i .x:=fun i hi=>by
      have hrl:(Zd cs (l*te.sz) 0).length=l*te.sz:=Dj _ _ _
      rw[Hv]
      by_cases hc:l*te.sz≤i∧i<l*te.sz+vs.length
      · rw[if_pos hc,A0,A0,Fy (by rw[hrl];omega),hrl]
      · rw[if_neg hc,A0,Ii (by rw[hrl];omega),Pv cs _ _ _ (by omega),Bf];rfl
     refine⟨_,_,_,hk,fun m w cv cx M hs' hx=>?_⟩
     obtain⟨ws,a1,a2,a3⟩:=happ m w M cx hx
     obtain⟨ws',b1,b2,b3⟩:=happ m (Kk w) M.dr cx hx
     obtain⟨lo,hl,hcase⟩:=hs'.slu_inv
     have hbs:=M.bs _ _ hl
     have grow:∀(ad:Addr) (c:Nat) (old:List Value),cv=.slice (some ad) l c→c<l+n→VL m (Zd cs (l*te.sz) 0) old→(Builtin.firstCells te.sz l cv).run P (Kk w)=.ok old.toArray (Kk w) →
      ∃cv' m' w',VR m' (.sl nx 0 (l+n) (.u te.sz)) cv'∧(Builtin.append_ ts rt #[cv,cx]).run P w=.ok cv' w'∧Mem m' (hs (hs h0 id .dead) nx (.cells ((l+n) * te.sz) (wl vs cs (l*te.sz)) fz false e)) (Ad nx) w' ∧
       Ext m h0 nx w m' (hs (hs h0 id .dead) nx (.cells ((l+n) * te.sz) (wl vs cs (l*te.sz)) fz false e)) (Ad nx) w':=fun ad c old he hgt hold hfc=>by
      subst he
      obtain⟨cap,c1,c2⟩:=Vd (rt:=rt) hG hti hsh hte h0' h1 htx hni a2 b3 hi hib hgt hsm hn hfc
      have hrl:(Zd cs (l*te.sz) 0).length=l*te.sz:=Dj _ _ _
      obtain⟨o1,o2⟩:=grown (w:=w) (fz:=fz) hT hold b1 hrl hvl c1 hcsg (lo:=⟨w.heap.size,0,cap*te.sz⟩) rfl M.ids
      obtain⟨M',E'⟩:=M.dr.swap (l':=⟨w.heap.size,0,cap*te.sz⟩) hl hnd hnro (by intro x;exact x) (.inr rfl) rfl (fun b hb _=>Ht (Kk w) _ hb) (by rw[Hh];omega) (by rw[Hh];exact Nat.lt_succ_self _) rfl rfl rfl o1
      exact⟨_,_,_,o2,c2,M',E'.dr⟩
     rcases hcase with⟨c,he,hlc,hsz⟩|⟨hl0,ad,he⟩
     · by_cases hroom:l+n≤c
       · -- in place
         subst he
         have ob:=M.ob id lo hl
         rw[hh]at ob
         obtain⟨arr,fr,d1,d2,d3,d4,d5⟩:=ob
         have hwl:=a1.1
         have hle:(l+n) * te.sz≤c*te.sz:=Kb _ hroom
         rw[hes]at hsz
         have hbase:lo.base+off=0:=by omega
         obtain⟨w',e1,e2,e3,e4,e5,e6,e7⟩:=Oi (P:=P) ws 0 (l*te.sz) w arr d1 (Zi hon a1) (by omega) (fun x hx=>fun cc=>by
          have:=cc.2
          have:=d5 rfl
          omega)
         have hrun:=Vc (rt:=rt) (base:=some ⟨lo.blk,lo.base+off,none⟩) hG hti hsh hte h0' h1 htx hni a2 a3 hroom (w':=w') (fun a ha=>by
          cases ha
          rw[Ey,hbase,Bf];exact e1) (fun c=>by cases c)
         have hle':=Mr (l:=⟨lo.blk,lo.base,lo.sz⟩) M.ids
         obtain⟨M',E'⟩:=M.swap (w':=w') (l':=⟨lo.blk,lo.base,lo.sz⟩) (o:=.cells ((l+n) * te.sz) (wl vs cs (l*te.sz)) fz false e) hl hnd hnro (by intro x;exact x) (.inl rfl) hbs (fun b _ hb=>e6 b hb) (Nat.le_of_eq e2.symm)
          (by rw[e2];exact M.bl _ _ hl) e3 e4 e5 ⟨_,fr,e7,by rw[Ir];exact d2,by rw[Ir];simp only[];omega,fun i hi=>by
           simp only[hbs,Bf,Nat.add_zero]
           rw[Nh ws (l*te.sz) arr i (by omega),Hv]
           by_cases hc:l*te.sz≤i∧i<l*te.sz+vs.length
           · rw[if_pos hc,if_pos (by omega)]
             have hlt:i-l*te.sz<vs.length:=by omega
             obtain⟨v,f1,f2⟩:=(a1.mono hle').get (i:=i-l*te.sz) (a:=vs[i-l*te.sz]) (by simp[hlt])
             refine⟨v,f1,?_⟩
             rw[A0,B8 hlt];rw[hbs]at f2;exact f2
           · rw[if_neg hc,if_neg (by omega)]
             obtain⟨v,f1,f2⟩:=d4 i (by omega)
             rw[hbs,Bf]at f1
             exact⟨v,f1,by have:=f2.mono hle';rw[hbs]at this;exact this⟩,d5⟩
         refine⟨_,_,w',?_,hrun,M',E'⟩
         have:=VR.slu (m:=Pf m nx ⟨lo.blk,lo.base,lo.sz⟩) 0 (l+n) c te.sz (Cv _ _ _) hroom (by simp only[];omega)
         rw[hof]
         exact this
       · refine grow _ c _ he (by omega) (Li M.dr hl hh (l*te.sz) 0 (by omega)).choose_spec.1 ?_
         obtain⟨r1,r2⟩:=(Li M.dr hl hh (l*te.sz) 0 (by omega)).choose_spec
         have hlen:(Li M.dr hl hh (l*te.sz) 0 (by omega)).choose.length=l*te.sz:=by rw[←r1.1,Dj]
         have hld:=GV.run_loadCellsFrom (w:=Kk w) P (Addr.mk lo.blk (lo.base+0) none) _ 0 #[] (by simpa using r2)
         rw[hlen]at hld
         rw[he,hof]
         simp only[Builtin.firstCells,loadCells];rw[hld];simp
     · subst hl0
       have hold:VL m (Zd cs (0*te.sz) 0) []:=by rw[Nat.zero_mul];exact .nil m
       refine grow ad 0 [] he (by omega) hold ?_
       rw[he];simp[Builtin.firstCells,loadCells,loadCellsFrom]
   · cases h
 · cases h
end Go.CE
