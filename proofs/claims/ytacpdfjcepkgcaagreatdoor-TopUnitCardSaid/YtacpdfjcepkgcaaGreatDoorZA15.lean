/- Part 15 of the lemmas behind the claim. -/
import Derived.Test.YtacpdfjcepkgcaaGreatDoorZA01
import Derived.Test.YtacpdfjcepkgcaaGreatDoorZA14
set_option linter.unusedSimpArgs false
set_option linter.unusedVariables false
set_option linter.constructorNameAsVariable false
set_option linter.unusedSectionVars false
set_option linter.defProp false
set_option maxRecDepth 100000
set_option maxHeartbeats 40000000
namespace Go.CE
open Go.GV (TI Shp TIok FR oneB)
open Go.RowKit
variable {P : Program} {g : G} {o : Oper} {t : T AV} {h0 : H} {nx : Pos} {k : K}
theorem ts1 {ts:Array TypeId} {a:Nat} {r:List Nat} (h:ts.toList=a::r):ts[0]?=some a:=by
 rw[←Array.getElem?_toList,h];rfl
theorem ts2 {ts:Array TypeId} {a b:Nat} (h:ts.toList=[a,b]):ts[0]?=some a∧ts[1]?=some b:=by
 constructor
 · rw[←Array.getElem?_toList,h];rfl
 · rw[←Array.getElem?_toList,h];rfl
theorem append_ok (hG:GOK P g) {ts:Array TypeId} {rt:TypeId} {s x:AV} (h:Zl g ts.toList s x h0 nx k=true):∃v h' nx',k v h' nx'=true∧AppSem P ts rt s x h0 nx v h' nx':=by
 unfold Zl at h
 split at h
 · rename_i ty tx hts
   obtain⟨h0',h1⟩:=ts2 hts
   obtain⟨tix,htx,h⟩:=B1 h
   obtain⟨hni,h⟩:=Cm h
   obtain⟨ti,hti,h⟩:=B1 h
   split at h
   · rename_i e hsh
     obtain⟨te,hte,h⟩:=B1 h
     obtain⟨n,vs,h,hvl,happ⟩:=appd_ok (nx:=nx) h
     rw[Db]at h
     split at h
     · rename_i b hb
       rcases C6 h with⟨hn,h⟩|⟨hn,h⟩
       · have hn:=Ck hn
         subst hn
         have keep:k s h0 nx=true→(∀m cs,VR m s cs→∃base l c,cs=.slice base l c∧l≤c)→∃v h' nx',k v h' nx'=true∧AppSem P ts rt s x h0 nx v h' nx':=fun hk hsl=>by
          refine⟨s,h0,nx,hk,fun m w cs cx M hs' hx=>?_⟩
          obtain⟨ws,a1,a2,a3⟩:=happ m w M cx hx
          have hws:ws=[]:=List.length_eq_zero_iff.1 (by rw[←a1.1,hvl];simp)
          subst hws
          obtain⟨base,l,c,rfl,hlc⟩:=hsl m cs hs'
          refine⟨_,m,w,hs',?_,M,.refl m h0 nx w⟩
          have:=Vc (rt:=rt) (base:=base) (sl:=l) (sc:=c) hG hti hsh hte h0' h1 htx hni a2 a3 (by omega) (w':=w) (fun a ha=>by simp[storeCells]) (fun _=>rfl)
          simpa using this
         split at h
         · exact keep h fun m cs hs'=>⟨none,0,0,hs'.sl0_inv,Ag _⟩
         · refine keep h fun m cs hs'=>?_
           obtain⟨lo,hl,⟨c,he,hlc,_⟩|⟨hl0,ad,he⟩⟩:=hs'.slu_inv
           · exact⟨_,_,_,he,hlc⟩
           · exact⟨_,_,_,he,Ag _⟩
         · obtain⟨hlc,h⟩:=Cm h
           refine keep h fun m cs hs'=>?_
           obtain⟨lo,hl,he⟩:=hs'.slk_inv
           exact⟨_,_,_,he,Aa hlc⟩
         · cases h
       · exact appN_ok hG hti hsh hte h0' h1 htx hni hb hvl happ (by
          rcases Nat.eq_zero_or_pos n with rfl|h'
          · cases hn
          · exact h') h
     · cases h
   · cases h
 · cases h
def BSem (P:Program) (b:Builtin) (ts:Array TypeId) (rt:TypeId) (l:List AV) (h:H) (nx:Pos) (v:AV) (h':H) (nx':Pos):Prop:=
 ∀m w vs cn,Mem m h nx w→VL m l vs→∃cv m' w',VR m' v cv∧(builtin b ts rt cn vs.toArray).run P w=.ok (.value cv) w'∧Mem m' h' nx' w'∧Ext m h nx w m' h' nx' w'
theorem copy_ok (hG:GOK P g) {ts:Array TypeId} {rt:TypeId} {ty e:Nat} {r:List Nat} (hts:ts.toList=ty::r) {ti te:TI} (hti:T.get none g.ty (Ay (ty+1))=some ti) (hsh:ti.shp=.slice e) (hte:T.get none g.ty (Ay (e+1))=some te) {a c:AV}
 (h:oCopy a c h0 nx k=true):∃v h' nx',k v h' nx'=true∧BSem P .copy ts rt [a,c] h0 nx v h' nx':=by
 have h0':=ts1 hts
 have hu:=(hG.ty _ _ hti).isSlice hsh
 have main:∀(m:Mp) (w:World) (ad:Addr) (n cc:Nat) (src:Value),(∃base cap,src=.slice base 0 cap)→(Builtin.copy_ ts rt #[.slice (some ad) n cc,src]).run P w=.ok (.int .i64 0) w:=fun m w ad n cc src hsrc=>by
  obtain⟨base,cap,rfl⟩:=hsrc
  unfold Builtin.copy_
  have e1:(Builtin.lenOf (.slice base 0 cap)).run P w=.ok 0 w:=by simp[Builtin.lenOf]
  have e2:(Builtin.firstCells te.sz 0 (.slice base 0 cap)).run P w=.ok #[] w:=by
   cases base<;>simp[Builtin.firstCells,loadCells,loadCellsFrom]
  have e3:(sizeOf e).run P w=.ok te.sz w:=GV.run_sizeOf w (hG.ty _ _ hte)
  simp[h0',run_underlying hu,e1,e3,show Nat.min 0 n=0 from Nat.zero_min n,e2,storeCells,goInt]
 have fin:∀ {id off l cap},a=.sl id off l cap→k (.i .i64 0) h0 nx=true→(∀m v,VR m c v→∃base cap,v=.slice base 0 cap)→∃v h' nx',k v h' nx'=true∧BSem P .copy ts rt [a,c] h0 nx v h' nx':=@fun id off l cap ha hk hc=>by
  subst ha
  refine⟨_,_,_,hk,fun m w vs cn M hv=>?_⟩
  obtain⟨v1,r1,rfl,b1,b2⟩:=hv.inv
  obtain⟨v2,r2,rfl,b3,b4⟩:=b2.inv
  have:=b4.nil_inv;subst this
  obtain⟨lo,c',ad,hl,rfl,_⟩:=b1.sl_any
  have:=main m w ad l c' v2 (hc m v2 b3)
  exact⟨_,m,w,.i _ _,by simp[builtin,this],M,.refl m h0 nx w⟩
 unfold oCopy at h
 split at h
 · obtain⟨hn,h⟩:=Cm h
   have hn:=Ck hn
   refine fin rfl h fun m v hv=>?_
   obtain⟨lo,c',ad,hl,rfl,_⟩:=hv.sl_any
   rw[hn];exact⟨_,_,rfl⟩
 · exact fin rfl h fun m v hv=>⟨none,0,hv.sl0_inv⟩
 · cases h
theorem delete_ok (hG:GOK P g) {ts:Array TypeId} {rt:TypeId} {ty:Nat} {r:List Nat} (hts:ts.toList=ty::r) {a c:AV}
 (h:Zk g ty a c h0 nx k=true):∃v h' nx',k v h' nx'=true∧BSem P .delete ts rt [a,c] h0 nx v h' nx':=by
 have h0':=ts1 hts
 unfold Zk at h
 rw[Db]at h
 split at h
 · rename_i ke hm
   obtain⟨kt,et⟩:=ke
   obtain⟨hu,huk⟩:=hG.mp _ _ _ hm
   split at h
   · rename_i id
     obtain⟨kl,rfl,hq⟩:=Tc h
     rw[Cz]at hq
     replace h:=hq
     clear hq
     split at h
     · rename_i es clk hh
       have setup:∀m w vs,Mem m h0 nx w→VL m [.m id,.s kl] vs→∃(l:Loc) (ces:Array MapEntry) (s:ByteArray),Ep s=kl∧m id=some l∧w.heap[l.blk]?=some (.map ces clk)∧ES m es ces.toList∧vs=[.map (some l.blk),.string s]:=fun m w vs M hv=>by
        obtain⟨v1,r1,rfl,b1,b2⟩:=hv.inv
        obtain⟨v2,r2,rfl,b3,b4⟩:=b2.inv
        have:=b4.nil_inv;subst this
        obtain⟨l,hl,rfl⟩:=b1.m_inv
        obtain⟨s,rfl,hs⟩:=b3.s_inv
        have:=M.ob id l hl
        rw[hh]at this
        obtain⟨ces,c1,c2⟩:=this
        exact⟨l,ces,s,hs,hl,c1,c2,rfl⟩
       rcases Nv 0 h with⟨j,v,h1,h2⟩|⟨h1,h2⟩
       · rw[delE_eq,Di]at h2
         refine⟨_,_,_,h2,fun m w vs cn M hv=>?_⟩
         obtain⟨l,ces,s,hs,hl,b1,b2,rfl⟩:=setup m w vs M hv
         obtain⟨cv,e',c1,c2,c3,c4,c5⟩:=(J7 hs 0 b2).1 j v h1
         have hj:j<ces.size:=by
          have:=(Gn.1 c4).1
          simpa using this
         have hE:=ES.erase j b2
         obtain⟨r1,M',E'⟩:=M.setMap hl hh (es':=es.eraseIdx j) (clk':=clk) (ces':=ces.eraseIdxIfInBounds j) (by
          rw[Array.eraseIdxIfInBounds,dif_pos hj,Array.toList_eraseIdx];exact hE) P
         refine⟨.tuple #[],m,_,VR.tuL (.nil m),?_,M',E'⟩
         have hgo:(getObj l.blk).run P w=.ok (.map ces clk) w:=by simp[getObj,Sem.run,b1]
         simp only[builtin,Builtin.delete_,h0',List.getElem?_toArray,List.getElem?_cons_zero,Ke,Sem.run_bind,run_underlying hu,Bn,hgo,Gr huk,Ho huk c1,r1]
         rfl
       · rw[Di]at h2
         refine⟨_,_,_,h2,fun m w vs cn M hv=>?_⟩
         obtain⟨l,ces,s,hs,hl,b1,b2,rfl⟩:=setup m w vs M hv
         have c1:=(J7 hs 0 b2).2 h1
         obtain⟨r1,M',E'⟩:=M.setMap hl hh (es':=es) (clk':=clk) (ces':=ces) b2 P
         refine⟨.tuple #[],m,_,VR.tuL (.nil m),?_,M',E'⟩
         have hgo:(getObj l.blk).run P w=.ok (.map ces clk) w:=by simp[getObj,Sem.run,b1]
         simp only[builtin,Builtin.delete_,h0',List.getElem?_toArray,List.getElem?_cons_zero,Ke,Sem.run_bind,run_underlying hu,Bn,hgo,Gr huk,Ho huk c1,r1]
         rfl
     · cases h
   · cases h
 · cases h
theorem freeze_le {fr:Nat×Nat} {n fz:Nat} (h:fr.2≤fz):(if fr.1==fr.2 then(0,n)else(min fr.1 0,max fr.2 n):Nat×Nat).2≤max fz n:=by
 split
 · exact Nat.le_max_right ..
 · show max fr.2 n≤max fz n
   omega
theorem uStr_ok (hG:GOK P g) {ts:Array TypeId} {rt:TypeId} {ty it:Nat} (hts:ts.toList=[ty,it]) {a c:AV}
 (h:oUStr g ty a c h0 nx k=true):∃v h' nx',k v h' nx'=true∧BSem P .unsafeString ts rt [a,c] h0 nx v h' nx':=by
 have hts':ts=#[ty,it]:=by rw[←Array.toArray_toList (xs:=ts),hts]
 subst hts'
 unfold oUStr at h
 split at h
 · rename_i n
   obtain⟨hn0,g1⟩:=Jg h
   obtain⟨hnm,g2⟩:=Cm g1
   obtain⟨id,off,hpa,g3⟩:=Qi g2
   obtain⟨hof,g4⟩:=Cm g3
   have hof':=Ck hof
   rw[Cz]at g4
   clear h g1 g2 g3
   subst hof' hpa
   have h:=g4
   clear g4
   split at h
   · rename_i cnn cs fz ro e hh
     obtain⟨hro,h⟩:=Jg h
     subst hro
     obtain⟨hle,h⟩:=Cm h
     rw[Db]at h
     split at h
     · rename_i u hu
       obtain⟨hue,h⟩:=Cm h
       have hue:=Ck hue
       subst hue
       obtain⟨te,hte,h⟩:=B1 h
       obtain⟨hsz,h⟩:=Cm h
       have hsz:=Ck hsz
       have hn:n≠0:=fun c=>by rw[c]at hn0;cases hn0
       have hnm:=Aa hnm
       have hle:=Aa hle
       rw[Ol]at h
       obtain⟨ns,h1,h2,h3⟩:=Ro h
       rw[F6,Di]at h1
       refine⟨_,_,_,h1,fun m w vs cn M hv=>?_⟩
       obtain⟨v1,r1,rfl,b1,b2⟩:=hv.inv
       obtain⟨v2,r2,rfl,b3,b4⟩:=b2.inv
       have:=b4.nil_inv;subst this
       have:=b3.i_inv;subst this
       obtain⟨l,hl,rfl⟩:=b1.p_inv
       have hbs:=M.bs _ _ hl
       have ob:=M.ob id l hl
       rw[hh]at ob
       obtain⟨arr,fr,d1,d2,d3,d4,d5⟩:=ob
       replace d5:=d5 rfl
       obtain⟨hp,i,hi,hz⟩:=hG.pt _ _ hu
       obtain⟨i',hi',hs',_⟩:=(hG.ty _ _ hte).get
       rw[hi]at hi';cases hi'
       have hcell:P.cellsOf u=1:=by simp[Program.cellsOf,hi,hs',hsz]
       obtain⟨vs',g1,g2⟩:=Li M hl hh n 0 (by omega)
       rw[h2]at g1
       have hvs:=g1.bytes
       have hlen:ns.length=n:=by have:=congrArg List.length h2;rw[Dj,Ct]at this;exact this.symm
       have hL:(ns.map UInt8.ofNat).length=n:=by simp[hlen]
       have hrun:=Lib.run_unsafeString_row (P:=P) (w:=w) ty it rt u hp hcell l.blk arr.size (by simp[World.shape?,d1]) (ns.map UInt8.ofNat) (fun c=>hn (by rw[←hL,c];rfl)) (by rw[hL];omega) (by rw[hL];omega) (fun j x hx=>by
        rw[G5]at hx
        cases hj:ns[j]? with
        |none=>rw[hj]at hx;cases hx
        |some y=>
         rw[hj]at hx;cases hx
         have hy:=h3 y (Gm hj)
         have:=g2 j (.int .u8 (Int.ofNat y)) (by rw[hvs,G5,hj];rfl)
         rw[hbs]at this
         rw[this]
         simp;omega)
       rw[hL]at hrun
       obtain⟨F,hfz,hF⟩:∃F:Obj→Obj,w.freeze ⟨l.blk,0,none⟩ n={w with heap:=w.heap.modify l.blk F}∧F (.cells arr u fr)=.cells arr u (if fr.1==fr.2 then(0,n)else(min fr.1 0,max fr.2 n)):=by
        unfold World.freeze
        rw[if_neg hn]
        refine⟨_,rfl,?_⟩
        obtain⟨lo,hi⟩:=fr
        simp
       have hlt:=M.bl _ _ hl
       obtain⟨M',E'⟩:=M.turn (w':=w.freeze ⟨l.blk,0,none⟩ n) (o:=.cells cnn cs (fB (Nat.ble fz n) n fz) false u) hl (by rw[hh];intro c;cases c) (by rw[hh];exact fun x=>x) (fun x=>x)
        (fun b' hb=>by rw[hfz];simp[Array.getElem?_modify,Ne.symm hb]) (by rw[hfz];simp) (by rw[hfz]) (by rw[hfz]) (by rw[hfz])
        ⟨arr,(if fr.1==fr.2 then(0,n)else(min fr.1 0,max fr.2 n)),by rw[hfz];simp only[Array.getElem?_modify,d1,if_true,Ig,hF],d2,d3,d4,fun _=>by
          rw[hbs]at d5 ⊢
          rw[Bf]at d5 ⊢
          have h5:=freeze_le (n:=n) d5
          refine Cr h5 ?_
          cases hb:Nat.ble fz n with
          |true=>
           have:=Aa hb
           simp only[fB]
           omega
          |false=>
           have:=J5 hb
           simp only[fB]
           omega⟩
       have hstr:VR m (.s ns) (.string (Ko ns)):=by have:=VR.s (m:=m) (Ko ns);rwa [Tj h3]at this
       refine⟨_,m,_,hstr,?_,M',E'⟩
       simp only[builtin,Sem.run_bind,hbs,Nat.add_zero]
       rw[show(Value.int .i64 (Int.ofNat n))=Value.int .i64 (n:Int)from rfl,hrun]
       rfl
     · cases h
   · cases h
 · cases h
theorem bltX_ok (hG:GOK P g) {b:Builtin} {ts:Array TypeId} {rt:TypeId} {l:List AV} (h:bltX g b ts.toList l h0 nx k=true):∃v h' nx',k v h' nx'=true∧BSem P b ts rt l h0 nx v h' nx':=by
 unfold bltX at h
 split at h
 · rename_i a c
   split at h
   · obtain⟨v,h',nx',h1,h2⟩:=append_ok (rt:=rt) hG h
     refine⟨v,h',nx',h1,fun m w vs cn M hv=>?_⟩
     obtain⟨v1,r1,rfl,b1,b2⟩:=hv.inv
     obtain⟨v2,r2,rfl,b3,b4⟩:=b2.inv
     have:=b4.nil_inv;subst this
     obtain⟨cv,m',w',c1,c2,c3,c4⟩:=h2 m w v1 v2 M b1 b3
     exact⟨cv,m',w',c1,by simp[builtin,c2],c3,c4⟩
   · split at h
     · rename_i ty r hts
       obtain⟨ti,hti,h⟩:=B1 h
       split at h
       · rename_i e hsh
         obtain⟨te,hte,h⟩:=B1 h
         exact copy_ok hG hts hti hsh hte h
       · cases h
     · cases h
   · split at h
     · rename_i ty r hts
       exact delete_ok hG hts h
     · cases h
   · split at h
     · rename_i ty it hts
       exact uStr_ok hG hts h
     · cases h
   · cases h
 · cases h
end Go.CE
namespace Go.CE
open Go.GV (TI Shp TIok FR oneB)
open Go.RowKit
def Vk (P:Program) (S:Value→World→Prop):Result Next→Prop
 |.ok (.value v) w=>S v w
 |.ok (.enter f args) w=>CallsIn (FR none) 0 P f args w fun
  |.returned v,w'=>S v w'
  |_,_=>False
 |.ok (.round l f tmps assign body) w=>RoundIn (FR none) 0 P l f tmps assign body w fun
  |.returned v,w'=>S v w'
  |_,_=>False
 |_=>False
def Fin (m:Mp) (h:H) (nx:Pos) (w:World) (v:AV) (h':H) (nx':Pos) (cv:Value) (w':World):Prop:=∃m',VR m' v cv∧Mem m' h' nx' w'∧Ext m h nx w m' h' nx' w'
def CSem (P:Program) (fv:AV) (l:List AV) (h:H) (nx:Pos) (v:AV) (h':H) (nx':Pos):Prop:=
 ∀m w cv vs s,Mem m h nx w→m (Ay 2)=some ⟨0,0,s⟩→VR m fv cv→VL m l vs→∃d,(Deferred.ofValue cv vs.toArray).run P w=.ok d w ∧
  Vk P (Fin m h nx w v h' nx') ((invoke d.target d.args).run P w) ∧
  (∀f c,fv=.fn f c→f≠211→f≠71→∃args,(invoke d.target d.args).run P w=.ok (.enter f args) w)
def Kh (P:Program) (ih:Hc):Prop:=∀fv l h nx k,ih fv l h nx k=true→∃v h' nx',k v h' nx'=true∧CSem P fv l h nx v h' nx'
variable {P : Program} {g : G} {o : Oper} {t : T AV} {h0 : H} {nx : Pos} {k : K} {ih : Hc}
theorem mapA {α β:Type} (xs:Array α) (f:α→β):(xs.toList.map f).toArray=xs.map f:=by rw[←Array.toList_map,Array.toArray_toList]
theorem Pt {c:Call} {f:Operand} (ho:o.op=.call c) (hc:c.callee=.value f) (a:Act) (w:World) :
 (execOp a.eval o).run P w=((Deferred.ofValue (a.eval f) (c.args.map a.eval)).run P w).andThen fun d w'=>(invoke d.target d.args).run P w':=by
 simp[execOp,ho,resolve,hc,Sem.run_bind]
theorem Yi {c:Call} {f:Operand} (r:Option Pos) (ho:o.op=.call c) (hc:c.callee=.value f) {v:AV} {h':H} {nx':Pos} (h:CSem P (Xo t f) (c.args.toList.map (Xo t)) h0 nx v h' nx') :
 Aa0 P r o t h0 nx v h' nx':=fun m N a w ro next Q M T R hn=>by
 obtain⟨s,hs⟩:=T.glob
 obtain⟨d,h1,h2,_⟩:=h m w _ _ s M hs (A7 T f) (Nl T c.args.toList)
 refine⟨fun _ _=>trivial,?_⟩
 show o.uponIn (FR ro) 0 P a next Q ((o.semAt ro a.eval).run P w)
 rw[Ja ro _ (fun c hc=>by rw[ho]at hc;cases hc),Pt ho hc]
 rw[mapA]at h1
 rw[h1]
 simp only[Bn]
 generalize (invoke d.target d.args).run P w=res at h2 ⊢
 have go:∀cv w',Fin m h0 nx w v h' nx' cv w'→next (a.put o.dst cv) w':=fun cv w' ⟨m',e1,e2,e3⟩=>hn cv m' w' e1 e2 e3
 cases res with
 |ok x w'=>
  cases x with
  |value cv=>exact go cv w' h2
  |enter f' args=>
   refine⟨fun c=>(by cases c),?_⟩
   have h3:CallsIn (FR none) 0 P f' args w' _:=h2
   show CallsIn (FR none) 0 P f' args w' _
   refine CallsIn.mono h3 fun e w'' he=>?_
   cases e with
   |returned cv=>exact go cv w'' he
   |panicked _=>exact he.elim
   |outgrown=>exact he.elim
  |round l f' tmps asg body=>
   refine⟨fun c=>(by cases c),?_⟩
   have h3:RoundIn (FR none) 0 P l f' tmps asg body w' _:=h2
   show RoundIn (FR none) 0 P l f' tmps asg body w' _
   refine RoundIn.mono h3 fun e w'' he=>?_
   cases e with
   |returned cv=>exact go cv w'' he
   |panicked _=>exact he.elim
   |outgrown=>exact he.elim
  |_=>exact h2.elim
 |halt x w'=>exact h2.elim
theorem evX_ok (hG:GOK P g) (r:Option Pos) (hih:Kh P ih) (h:evX g ih o.op t h0 nx k=true):∃v h' nx',k v h' nx'=true∧Aa0 P r o t h0 nx v h' nx':=by
 have no:∀ {b:Bool},b=true→b=false→∃v h' nx',k v h' nx'=true∧Aa0 P r o t h0 nx v h' nx':=fun h h'=>by rw[h]at h';cases h'
 have up:(∃v h' nx',k v h' nx'=true∧XSem P o t h0 nx v h' nx')→(∀c,o.op≠.defer c)→∃v h' nx',k v h' nx'=true∧Aa0 P r o t h0 nx v h' nx':=fun⟨v,h',nx',h1,h2⟩ hd=>⟨v,h',nx',h1,h2.toO r hd⟩
 generalize hop:o.op=op at h
 cases op
 case store ty x y=>exact up (store_ok hG hop h) (fun c hc=>by rw[hop]at hc;cases hc)
 case mapUpdate ty m key x=>exact up (Xq hG (.inl hop) h) (fun c hc=>by rw[hop]at hc;cases hc)
 case insert ty m key x=>exact up (Xq hG (.inr hop) h) (fun c hc=>by rw[hop]at hc;cases hc)
 case next x b=>
  cases b with
  |true=>exact up (next_ok hop h) (fun c hc=>by rw[hop]at hc;cases hc)
  |false=>exact no h rfl
 case call c=>
  cases hc:c.callee with
  |value f=>
   simp only[evX,hc]at h
   rw[Cg,Nm]at h
   obtain⟨v,h',nx',h1,h2⟩:=hih _ _ _ _ _ h
   exact⟨v,h',nx',h1,Yi r hop hc h2⟩
  |builtin b=>
   simp only[evX,hc]at h
   rw[Nm]at h
   obtain⟨v,h',nx',h1,h2⟩:=bltX_ok (rt:=o.type) hG h
   refine up ⟨v,h',nx',h1,fun m N a w M T=>?_⟩ (fun c hc=>by rw[hop]at hc;cases hc)
   obtain⟨cv,m',w',e1,e2,e3,e4⟩:=h2 m w _ (c.args.map fun | .const _=>true|_=>false) M (Nl T c.args.toList)
   refine⟨cv,m',w',e1,.inl ?_,e3,e4⟩
   rw[run_blt hop hc]
   rw[mapA]at e2
   exact e2
  |invoke _ _=>simp only[evX,hc]at h;cases h
 all_goals exact no h rfl
def PanCh (ch:List PanicEntry):Prop:=∃k z,ch=[{v:=.iface 134 (.agg #[.int k z]),recovered:=false}]
def FinP (m:Mp) (h:H) (nx:Pos) (w:World) (h':H) (nx':Pos) (w':World):Prop:=∃m',Mem m' h' nx' w'∧Ext m h nx w m' h' nx' w'
def UponP (P:Program) (S:World→Prop):Result Next→Prop
 |.ok (.enter f args) w=>CallsIn (FR none) 0 P f args w fun
  |.panicked ch,w'=>PanCh ch∧S w'
  |_,_=>False
 |_=>False
def CPan (P:Program) (fv:AV) (l:List AV) (h:H) (nx:Pos) (h':H) (nx':Pos):Prop:=
 ∀m w cv vs s,Mem m h nx w→m (Ay 2)=some ⟨0,0,s⟩→VR m fv cv→VL m l vs→∃d,(Deferred.ofValue cv vs.toArray).run P w=.ok d w ∧
  UponP P (FinP m h nx w h' nx') ((invoke d.target d.args).run P w)
def Ez (P:Program) (kp:KP) (ih:Hc):Prop:=∀fv l h nx k,ih fv l h nx k=true →
 (∃v h' nx',k v h' nx'=true∧CSem P fv l h nx v h' nx')∨(∃h' nx',kp h' nx'=true∧CPan P fv l h nx h' nx')
theorem Kh.pan {P:Program} {kp:KP} {ih:Hc} (h:Kh P ih):Ez P kp ih:=fun fv l h0 nx k e=>.inl (h fv l h0 nx k e)
theorem Ez.no {P:Program} {ih:Hc} (h:Ez P (fun _ _=>false) ih):Kh P ih:=fun fv l h0 nx k e=>(h fv l h0 nx k e).resolve_right fun⟨_,_,c,_⟩=>by cases c
def OPan (P:Program) (r:Option Pos) (o:Oper) (t:T AV) (h:H) (nx:Pos) (h':H) (nx':Pos):Prop:=
 ∀m N (a:Act) w ro (next:Act→World→Prop) (Q:Exit→Act→World→Prop),Mem m h nx w→TR m N t a.tmps→RR m r ro →
  (∀ch m' w',PanCh ch→Mem m' h' nx' w'→Ext m h nx w m' h' nx' w'→Q (.panic ch) a w')→o.wpIn (FR ro) 0 P a w next Q
theorem callPan_ok {c:Call} {f:Operand} (r:Option Pos) (ho:o.op=.call c) (hc:c.callee=.value f) {h':H} {nx':Pos} (h:CPan P (Xo t f) (c.args.toList.map (Xo t)) h0 nx h' nx') :
 OPan P r o t h0 nx h' nx':=fun m N a w ro next Q M T R hn=>by
 obtain⟨s,hs⟩:=T.glob
 obtain⟨d,h1,h2⟩:=h m w _ _ s M hs (A7 T f) (Nl T c.args.toList)
 refine⟨fun _ _=>trivial,?_⟩
 show o.uponIn (FR ro) 0 P a next Q ((o.semAt ro a.eval).run P w)
 rw[Ja ro _ (fun c hc=>by rw[ho]at hc;cases hc),Pt ho hc]
 rw[mapA]at h1
 rw[h1]
 simp only[Bn]
 generalize (invoke d.target d.args).run P w=res at h2 ⊢
 cases res with
 |ok x w'=>
  cases x with
  |enter f' args=>
   refine⟨fun c=>(by cases c),?_⟩
   have h3:CallsIn (FR none) 0 P f' args w' _:=h2
   show CallsIn (FR none) 0 P f' args w' _
   refine CallsIn.mono h3 fun e w'' he=>?_
   cases e with
   |returned cv=>exact he.elim
   |panicked ch=>exact hn ch _ w'' he.1 he.2.choose_spec.1 he.2.choose_spec.2
   |outgrown=>exact he.elim
  |_=>exact h2.elim
 |halt x w'=>exact h2.elim
theorem evX_ih {i1 i2:Hc} {op:Op} (hv:∀c f,op=.call c→c.callee≠.value f):evX g i1 op=evX g i2 op:=by
 cases op
 case call c=>
  cases hc:c.callee with
  |value f=>exact absurd hc (hv c f rfl)
  |builtin b=>simp only[evX,hc]
  |invoke _ _=>simp only[evX,hc]
 all_goals rfl
theorem evXP_ok {kp:KP} (hG:GOK P g) (r:Option Pos) (hih:Ez P kp ih) (h:evX g ih o.op t h0 nx k=true) :
 (∃v h' nx',k v h' nx'=true∧Aa0 P r o t h0 nx v h' nx')∨(∃h' nx',kp h' nx'=true∧OPan P r o t h0 nx h' nx'):=by
 by_cases hv:∃c f,o.op=.call c∧c.callee=.value f
 · obtain⟨c,f,hop,hc⟩:=hv
   rw[hop]at h
   simp only[evX,hc]at h
   rw[Cg,Nm]at h
   rcases hih _ _ _ _ _ h with⟨v,h',nx',h1,h2⟩|⟨h',nx',h1,h2⟩
   · exact .inl ⟨v,h',nx',h1,Yi r hop hc h2⟩
   · exact .inr ⟨h',nx',h1,callPan_ok r hop hc h2⟩
 · rw[evX_ih (i2:=fun _ _ _ _ _=>false) fun c f e1 e2=>hv ⟨c,f,e1,e2⟩]at h
   exact .inl (evX_ok hG r (fun _ _ _ _ _ h=>by cases h) h)
end Go.CE
namespace Go.CE
open Go.GV (TI Shp TIok FR oneB)
open Go.RowKit
noncomputable def pt (d:Option Nat) (v:AV) (t:T AV):T AV:=match d with
 |none=>t
 |some d=>T.set und v t (Ay (d+1))
theorem Kp {N:Nat} {d:Option Nat} {v:AV} {t:T AV} {k:T AV→Bool} (h:put N d v t k=true):(∀x,d=some x→x<N)∧k (pt d v t)=true:=by
 unfold put at h
 split at h
 · exact⟨fun x hx=>(by cases hx),h⟩
 · obtain⟨h1,h⟩:=Jg h
   rw[Ni]at h
   exact⟨fun x hx=>by cases hx;exact J5 h1,h⟩
theorem pt_get (d:Option Nat) (v:AV) (t:T AV) (i:Nat):T.get und (pt d v t) (Ay (i+1))=if d=some i then v else T.get und t (Ay (i+1)):=by
 cases d with
 |none=>simp[pt]
 |some x=>
  simp only[pt]
  rw[Lu]
  by_cases hx:x=i
  · subst hx;simp
  · rw[if_neg (fun e=>hx (by have:=Mi e;omega)),if_neg (by simpa using hx)]
theorem TR.put {m:Mp} {N:Nat} {t:T AV} {a:Act} (T0:TR m N t a.tmps) {d:Option Nat} (hd:∀x,d=some x→x<N) {v:AV} {cv:Value} (hv:VR m v cv):TR m N (pt d v t) (a.put d cv).tmps:=by
 cases d with
 |none=>exact T0
 |some x=>
  have hx:=hd x rfl
  refine⟨by simp[Act.put,T0.size],T0.glob,fun i=>?_⟩
  rw[pt_get]
  simp only[Act.put]
  by_cases hi:x=i
  · subst hi
    rw[if_pos rfl]
    have:x<a.tmps.size:=by rw[T0.size];exact hx
    simpa[Kf,M9,this]using hv
  · rw[if_neg (by simpa using hi)]
    have:=T0.get i
    simpa[Kf,M9,hi]using this
theorem Hf (a:Act) (d:Option Nat) (v:Value):(a.put d v).defers=a.defers:=by cases d<;>rfl
theorem Mb (m:Mp):VR m und undef:=VR.tuL (.nil m)
theorem TR.bool {m:Mp} {N:Nat} {t:T AV} {tm:Array Value} (T0:TR m N t tm) {i:Nat} {x:Bool} (h:T.get und t (Ay (i+1))=.b x):tm[i]?=some (.bool x):=by
 have:=(h▸T0.get i:VR m (.b x) _).b_inv
 rw[Kf]at this
 cases hi:tm[i]? with
 |none=>rw[hi]at this;cases this
 |some v=>rw[hi]at this;rw[←this];rfl
theorem TR.noBool {m:Mp} {N:Nat} {t:T AV} {tm:Array Value} (T0:TR m N t tm) {i:Nat} (h1:T.get und t (Ay (i+1))≠.x) (h2:∀x,T.get und t (Ay (i+1))≠.b x):∀x,tm[i]?≠some (.bool x):=fun x hx=>by
 have:=T0.get i
 rw[Kf,hx]at this
 generalize T.get und t (Ay (i+1))=v at *
 simp only[Option.getD_some]at this
 cases this
 · exact h2 _ rfl
 · exact h1 rfl
noncomputable def wt (ops:List Oper) (gd:Option (Nat×Bool)) (t:T AV):Option Bool:=match gd with
 |none=>some true
 |some (j,want)=>(match ops[j]? with
  |some o=>(match o.dst with
   |some d=>(match T.get und t (Ay (d+1))with
    |.b x=>some (x==want)
    |.x=>none
    |_=>some false)
   |none=>some false)
  |none=>some false)
theorem Wr {ops:List Oper} {gd:Option (Nat×Bool)} {t:T AV} {y n:Bool} (h:Ws ops gd t y n=true):(wt ops gd t=some true∧y=true)∨(wt ops gd t=some false∧n=true):=by
 unfold Ws at h
 unfold wt
 split at h
 · exact .inl ⟨rfl,h⟩
 · rename_i j want
   split at h
   · rename_i o ho
     simp only[ho]
     split at h
     · rename_i d hd
       simp only[hd]
       rw[Db]at h
       generalize hv:T.get und t (Ay (d+1))=v at h
       cases v with
       |b x=>cases want<;>cases x<;>first|exact .inl ⟨rfl,h⟩|exact .inr ⟨rfl,h⟩
       |x=>cases h
       |_=>exact .inr ⟨rfl,h⟩
     · rename_i hd
       simp only[hd]
       exact .inr ⟨trivial,h⟩
   · rename_i ho
     simp only[ho]
     exact .inr ⟨trivial,h⟩
theorem Th {ops:Array Oper} {o:Oper} {t:T AV} {b:Bool} (h:wt ops.toList o.guard t=some b) {m:Mp} {N:Nat} {tm:Array Value} (T0:TR m N t tm):Region.wanted o (yielded ops tm)=b:=by
 unfold wt at h
 unfold Region.wanted
 cases hg:o.guard with
 |none=>rw[hg]at h;cases h;rfl
 |some p=>
  obtain⟨j,want⟩:=p
  rw[hg]at h
  simp only at h ⊢
  simp only[Array.getElem?_toList]at h
  unfold yielded
  cases ho:ops[j]? with
  |none=>simp only[ho]at h ⊢;cases h;rfl
  |some p=>
   simp only[ho]at h ⊢
   cases hd:p.dst with
   |none=>simp only[hd]at h;cases h;simp[hd]
   |some d=>
    simp only[hd]at h
    simp only[Option.bind_some,hd]
    generalize hv:T.get und t (Ay (d+1))=v at h
    cases v with
    |b x=>
     cases h
     rw[T0.bool hv]
     cases x<;>cases want<;>rfl
    |x=>cases h
    |_=>
     cases h
     have:=T0.noBool (i:=d) (by rw[hv];intro c;cases c) (by rw[hv];intro x c;cases c)
     split
     · rename_i b hb;exact absurd hb (this b)
     · rfl
variable {P : Program} {g : G} {o : Oper} {t : T AV} {h0 : H} {nx : Pos} {k : K} {ih : Hc}
def UOK (P:Program) (g:G):Prop:=∀t b,T.get none g.us (Ay (t+1))=some b→P.underlying t=some .unsafePointer
theorem Aah (hG:GOK P g) (hU:UOK P g) (r:Option Pos) (hih:Kh P ih) (h:Aai g ih o.op t h0 nx k=true):∃v h' nx',k v h' nx'=true∧Aa0 P r o t h0 nx v h' nx':=by
 unfold Aai at h
 split at h
 · have hd:∀c,o.op≠.defer c:=fun c hc=>by rw[hc]at h;cases h
   obtain⟨v,h1,h2⟩:=evP_ok hG h
   exact⟨v,h0,nx,h1,((h2.r h0).x).toO r hd⟩
 · have hd:∀c,o.op≠.defer c:=fun c hc=>by rw[hc]at h;cases h
   obtain⟨v,h1,h2⟩:=evR_ok hG hU h
   exact⟨v,h0,nx,h1,(h2.x).toO r hd⟩
 · have hd:∀c,o.op≠.defer c:=fun c hc=>by rw[hc]at h;cases h
   obtain⟨ob,v,h1,h2,h3⟩:=evA_ok hG h
   exact⟨v,_,_,h2,(h3.x h1).toO r hd⟩
 · exact evX_ok hG r hih h
def Nxt (P:Program) (N:Nat) (r:Option Pos) (t:T AV) (h:H) (nx:Pos) (t':T AV) (h':H) (nx':Pos) (W:Option Nat→(Exit→Act→World→Prop)→Act→World→Prop):Prop:=
 ∀m (a:Act) w ro (Q:Exit→Act→World→Prop),Mem m h nx w→TR m N t a.tmps→RR m r ro →
  (∀m' a' w',Mem m' h' nx' w'→TR m' N t' a'.tmps→a'.defers=a.defers→Ext m h nx w m' h' nx' w'→Q .normal a' w')→W ro Q a w
theorem evOpP_ok {kp:KP} (hG:GOK P g) (hU:UOK P g) (r:Option Pos) (hih:Ez P kp ih) (h:Aai g ih o.op t h0 nx k=true) :
 (∃v h' nx',k v h' nx'=true∧Aa0 P r o t h0 nx v h' nx')∨(∃h' nx',kp h' nx'=true∧OPan P r o t h0 nx h' nx'):=by
 have h0':=h
 unfold Aai at h
 split at h
 · rename_i e
   exact .inl (Aah (ih:=fun _ _ _ _ _=>false) hG hU r (fun _ _ _ _ _ h=>by cases h) (by unfold Aai;rw[e];exact h))
 · rename_i e
   exact .inl (Aah (ih:=fun _ _ _ _ _=>false) hG hU r (fun _ _ _ _ _ h=>by cases h) (by unfold Aai;rw[e];exact h))
 · rename_i e
   exact .inl (Aah (ih:=fun _ _ _ _ _=>false) hG hU r (fun _ _ _ _ _ h=>by cases h) (by unfold Aai;rw[e];exact h))
 · exact evXP_ok hG r hih h
def NxtP (P:Program) (N:Nat) (r:Option Pos) (t:T AV) (h:H) (nx:Pos) (h':H) (nx':Pos) (W:Option Nat→(Exit→Act→World→Prop)→Act→World→Prop):Prop:=
 ∀m (a:Act) w ro (Q:Exit→Act→World→Prop),Mem m h nx w→TR m N t a.tmps→RR m r ro →
  (∀ch m' a' w',PanCh ch→Mem m' h' nx' w'→a'.defers=a.defers→Ext m h nx w m' h' nx' w'→Q (.panic ch) a' w')→W ro Q a w
theorem Mw {kp:KP} (hG:GOK P g) (hU:UOK P g) (r:Option Pos) (hih:Ez P kp ih) {N:Nat} {ops:Array Oper} {k:T AV→H→Pos→Bool}:∀(l:List Oper) (i:Nat) (t:T AV) (h:H) (nx:Pos),(∀j,j<l.length→l[j]?=ops[i+j]?) →
 S8 g ih N ops.toList l t h nx k=true→(∃t' h' nx',k t' h' nx'=true∧Nxt P N r t h nx t' h' nx' fun ro Q a w=>wpOpsIn (FR ro) 0 P ops Q (List.range' i l.length) a w) ∨
  (∃h' nx',kp h' nx'=true∧NxtP P N r t h nx h' nx' fun ro Q a w=>wpOpsIn (FR ro) 0 P ops Q (List.range' i l.length) a w)
 |[],i,t,h,nx,hl,he=>.inl ⟨t,h,nx,he,fun m a w ro Q M T0 R K=>K m a w M T0 rfl (.refl m h nx w)⟩
 |o::l,i,t,h,nx,hl,he=>by
  have ho:ops[i]?=some o:=by have:=hl 0 (by simp);simpa using this.symm
  have hl':∀j,j<l.length→l[j]?=ops[i+1+j]?:=fun j hj=>by
   have:=hl (j+1) (by simpa using hj)
   rw[show i+1+j=i+(j+1) by omega,←this];rfl
  have he':Ws ops.toList o.guard t (Aai g ih o.op t h nx fun v h nx=>put N o.dst v t fun t=>S8 g ih N ops.toList l t h nx k) (put N o.dst und t fun t=>S8 g ih N ops.toList l t h nx k)=true:=he
  rcases Wr he' with⟨hw,he⟩|⟨hw,he⟩
  · rcases evOpP_ok (o:=o) hG hU r hih he with⟨v,h1,nx1,he,hO⟩|⟨h1,nx1,he,hO⟩
    · obtain⟨hd,he⟩:=Kp he
      rcases Mw hG hU r hih l (i+1) _ h1 nx1 hl' he with⟨t',h',nx',hk,hN⟩|⟨h',nx',hk,hN⟩
      · refine .inl ⟨t',h',nx',hk,fun m a w ro Q M T0 R K=>?_⟩
        simp only[Cq,List.range'_succ,wpOpsIn,ho]
        rw[if_pos (Th hw T0)]
        refine hO m N a w ro _ Q M T0 R fun cv m1 w1 hv M1 E1=>?_
        exact hN m1 _ w1 ro Q M1 ((T0.mono E1.le).put hd hv) (R.mono E1.le) fun m2 a2 w2 M2 T2 hdf E2=>K m2 a2 w2 M2 T2 (hdf.trans (Hf _ _ _)) (E1.trans E2)
      · refine .inr ⟨h',nx',hk,fun m a w ro Q M T0 R K=>?_⟩
        simp only[Cq,List.range'_succ,wpOpsIn,ho]
        rw[if_pos (Th hw T0)]
        refine hO m N a w ro _ Q M T0 R fun cv m1 w1 hv M1 E1=>?_
        exact hN m1 _ w1 ro Q M1 ((T0.mono E1.le).put hd hv) (R.mono E1.le) fun ch m2 a2 w2 hp M2 hdf E2=>K ch m2 a2 w2 hp M2 (hdf.trans (Hf _ _ _)) (E1.trans E2)
    · refine .inr ⟨h1,nx1,he,fun m a w ro Q M T0 R K=>?_⟩
      simp only[Cq,List.range'_succ,wpOpsIn,ho]
      rw[if_pos (Th hw T0)]
      exact hO m N a w ro _ Q M T0 R fun ch m1 w1 hp M1 E1=>K ch m1 a w1 hp M1 rfl E1
  · obtain⟨hd,he⟩:=Kp he
    rcases Mw hG hU r hih l (i+1) _ h nx hl' he with⟨t',h',nx',hk,hN⟩|⟨h',nx',hk,hN⟩
    · refine .inl ⟨t',h',nx',hk,fun m a w ro Q M T0 R K=>?_⟩
      simp only[Cq,List.range'_succ,wpOpsIn,ho]
      rw[if_neg (by rw[Th hw T0];simp)]
      refine⟨fun _ _=>trivial,?_⟩
      exact hN m _ w ro Q M (T0.put hd (Mb m)) R fun m2 a2 w2 M2 T2 hdf E2=>K m2 a2 w2 M2 T2 (hdf.trans (Hf _ _ _)) E2
    · refine .inr ⟨h',nx',hk,fun m a w ro Q M T0 R K=>?_⟩
      simp only[Cq,List.range'_succ,wpOpsIn,ho]
      rw[if_neg (by rw[Th hw T0];simp)]
      refine⟨fun _ _=>trivial,?_⟩
      exact hN m _ w ro Q M (T0.put hd (Mb m)) R fun ch m2 a2 w2 hp M2 hdf E2=>K ch m2 a2 w2 hp M2 (hdf.trans (Hf _ _ _)) E2
end Go.CE
