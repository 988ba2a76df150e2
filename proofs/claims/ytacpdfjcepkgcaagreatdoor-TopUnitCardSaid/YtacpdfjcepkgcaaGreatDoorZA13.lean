/- Part 13 of the lemmas behind the claim. -/
import Derived.Test.YtacpdfjcepkgcaaGreatDoorZA01
import Derived.Test.YtacpdfjcepkgcaaGreatDoorZA12
set_option linter.unusedSimpArgs false
set_option linter.unusedVariables false
set_option linter.constructorNameAsVariable false
set_option linter.unusedSectionVars false
set_option linter.defProp false
set_option maxRecDepth 100000
set_option maxHeartbeats 40000000
namespace Go.CE
open Go.GV (TI Shp TIok)
def N5 (P:Program) (o:Oper) (t:T AV) (h:H) (v:AV):Prop:=
 ∀m N (a:Act) nx w,Mem m h nx w→TR m N t a.tmps→∃cv,VR m v cv∧(execOp a.eval o).run P w=.ok (.value cv) w
theorem Kg.r {P:Program} {o:Oper} {t:T AV} {v:AV} (h:Kg P o t v) (H0:H):N5 P o t H0 v:=fun m N a nx w _ T=>by
 obtain⟨cv,h1,h2⟩:=h m N a T;exact⟨cv,h1,h2 w⟩
variable {P : Program} {g : G} {o : Oper} {t : T AV} {h0 : H} {k : AV → Bool}
theorem cell_of {m:Mp} {h:H} {nx:Pos} {w:World} (M:Mem m h nx w) {id:Pos} {l:Loc} (hl:m id=some l) {c:Nat} {cs:T AV} {fz:Nat} {ro:Bool} {ty:Nat} (hh:hg h id=.cells c cs fz ro ty) {i:Nat} (hi:i<c) :
 ∃v,VR m (T.get .x cs (Ay (i+1))) v∧w.cell? ⟨l.blk,l.base+i,none⟩=some v:=by
 have:=M.ob id l hl
 rw[hh]at this
 obtain⟨arr,fr,h1,h2,h3,h4,h5⟩:=this
 obtain⟨v,h6,h7⟩:=h4 i hi
 exact⟨v,h7,by simp[World.cell?,h1,h6]⟩
theorem Li {m:Mp} {h:H} {nx:Pos} {w:World} (M:Mem m h nx w) {id:Pos} {l:Loc} (hl:m id=some l) {c:Nat} {cs:T AV} {fz:Nat} {ro:Bool} {ty:Nat} (hh:hg h id=.cells c cs fz ro ty) :
 ∀(n off:Nat),off+n≤c→∃vs:List Value,VL m (Zd cs n off) vs∧∀j x,vs[j]?=some x→w.cell? ((Addr.mk l.blk (l.base+off) none).add j)=some x
 |0,off,_=>⟨[],.nil m,fun j x h=>by simp at h⟩
 |n+1,off,hle=>by
  obtain⟨v,h1,h2⟩:=cell_of M hl hh (i:=off) (by omega)
  obtain⟨vs,h3,h4⟩:=Li M hl hh n (off+1) (by omega)
  refine⟨v::vs,.cons h1 h3,fun j x hx=>?_⟩
  rw[Ey]
  cases j with
  |zero=>simp only[List.getElem?_cons_zero,Option.some.injEq]at hx;subst hx;exact h2
  |succ j=>
   have:=h4 j x (by simpa using hx)
   rw[Ey]at this
   rw[show l.base+off+(j+1)=l.base+(off+1)+j by omega]
   exact this
theorem load_ok (hG:GOK P g) {ty:Nat} {x:Operand} (ho:o.op=.load ty x) (h:oLoad g ty x t h0 k=true):∃v,k v=true∧N5 P o t h0 v:=by
 unfold oLoad at h
 rw[Cg]at h
 obtain⟨id,off,hv,h⟩:=Qi h
 obtain⟨ti,hti,h⟩:=B1 h
 have hT:=hG.ty _ _ hti
 split at h
 · rename_i ha
   obtain⟨c,cs,fz,ro,ct,hh,hle,hk⟩:=Ze h
   refine⟨_,hk,fun m N a nx w M T=>?_⟩
   obtain⟨l,hl,e⟩:=(hv▸A7 T x:VR m (.p id off) _).p_inv
   obtain⟨vs,h1,h2⟩:=Li M hl hh ti.sz off hle
   refine⟨.agg vs.toArray,VR.agL h1,?_⟩
   have hlen:vs.length=ti.sz:=by rw[←h1.1,Dj]
   have:=GV.run_loadVar (C:=⟨P,none,0⟩) hT hlen h2
   simp only[execOp,ho,e,Instr.loadAt,Instr.sureAddr,Sem.run_bind,Sem.run_pure,Bn]
   rw[this,ha];rfl
 · rename_i ha
   obtain⟨c,cs,fz,ro,ct,hh,hlt,hk⟩:=rd1_inv h
   refine⟨_,hk,fun m N a nx w M T=>?_⟩
   obtain⟨l,hl,e⟩:=(hv▸A7 T x:VR m (.p id off) _).p_inv
   obtain⟨v,h1,h2⟩:=cell_of M hl hh hlt
   refine⟨v,h1,?_⟩
   have:=GV.run_loadVar (C:=⟨P,none,0⟩) (w:=w) (ad:=⟨l.blk,l.base+off,none⟩) hT (l:=[v]) (by rw[(hT.one ha).1];rfl) (fun j x hx=>by
    cases j with
    |zero=>simp only[List.getElem?_cons_zero,Option.some.injEq]at hx;subst hx;rw[Ey];exact h2
    |succ j=>simp at hx)
   simp only[execOp,ho,e,Instr.loadAt,Instr.sureAddr,Sem.run_bind,Sem.run_pure,Bn]
   rw[this,ha];rfl
theorem asU8_inv {v:AV} {k:Nat→Bool} (h:asU8 v k=true):∃n,v=.i .u8 (.ofNat n)∧k n=true:=by
 unfold asU8 at h;split at h
 · exact⟨_,rfl,h⟩
 · cases h
theorem Ro:∀ {l:List AV} {k:List Nat→Bool},M6 l k=true→∃ns,k ns=true∧l=ns.map (fun n=>.i .u8 (Int.ofNat n))∧∀n∈ns,n<256
 |[],k,h=>⟨[],h,rfl,fun n hn=>by cases hn⟩
 |v::r,k,h=>by
  obtain⟨n,rfl,h1⟩:=asU8_inv (k:=fun n=>fB (Nat.ble n 255) (M6 r fun s=>k (n::s)) false) h
  obtain⟨h0,h1⟩:=Cm h1
  obtain⟨ns,h2,h3,h4⟩:=Ro h1
  have:=Aa h0
  exact⟨n::ns,h2,by rw[h3];rfl,fun x hx=>by
   rcases Bo.1 hx with rfl|hx
   · omega
   · exact h4 x hx⟩
def Ko (ns:List Nat):ByteArray:=⟨(ns.map UInt8.ofNat).toArray⟩
theorem Tj {ns:List Nat} (h:∀n∈ns,n<256):Ep (Ko ns)=ns:=by
 rw[Fp]
 simp only[Ko,List.map_map]
 conv=>rhs;rw[←List.map_id ns]
 refine List.map_congr_left fun n hn=>?_
 have:=h n hn
 simp;omega
theorem VL.bytes {m:Mp}:∀ {ns:List Nat} {vs:List Value},VL m (ns.map (fun n=>.i .u8 (Int.ofNat n))) vs→vs=ns.map (fun n=>.int .u8 (Int.ofNat n))
 |[],vs,h=>h.nil_inv
 |n::r,vs,h=>by
  obtain⟨v,s,rfl,h1,h2⟩:=h.inv
  rw[h1.i_inv,VL.bytes h2];rfl
theorem N8 (P:Program) (w:World) (f:Value→ByteArray→Sem (ForInStep ByteArray)) (hf:∀n s,(f (.int .u8 n) s).run P w=.ok (.yield (s.push (UInt8.ofNat n.toNat))) w) :
 ∀(ns:List Nat) (s:ByteArray),(∀n∈ns,n<256)→(forIn (ns.map (fun n=>Value.int .u8 (Int.ofNat n))) s f).run P w=.ok (s++Ko ns) w
 |[],s,_=>by
  simp[Ko]
  apply ByteArray.ext;simp
 |n::r,s,h=>by
  simp only[D5,List.forIn_cons,Sem.run_bind,hf,Bn]
  rw[N8 P w f hf r _ (fun x hx=>h x (Am _ hx))]
  congr 1
  apply ByteArray.ext
  simp[Ko]
theorem Tc {v:AV} {k:List Nat→Bool} (h:asS v k=true):∃l,v=.s l∧k l=true:=by
 unfold asS at h;split at h
 · exact⟨_,rfl,h⟩
 · cases h
theorem Oj (r:Nat) (w:World):(shape r).run P w=.ok (w.shape? r) w:=rfl
theorem run_viewAt' {r:Nat} {w:World} {x:TypeId×Nat} (h:w.shape? r=some x):(viewAt r).run P w=.ok none w:=by
 unfold viewAt
 rw[Sem.run_bind,Oj,h];rfl
theorem Rv {a:Addr} {w:World} {x:TypeId×Nat} (h:w.shape? a.block=some x):(Conv.seenAt a).run P w=.ok a w:=by
 unfold Conv.seenAt
 rw[Sem.run_bind,run_viewAt' h];rfl
theorem Zb {r:Nat} {w:World} {x:TypeId×Nat} (h:w.shape? r=some x):(cellsIn r).run P w=.ok (some x.2) w:=by
 unfold cellsIn
 rw[Sem.run_bind,Oj,h];rfl
theorem Qr {a:Addr} {u n:Nat} {w:World} {x:TypeId×Nat} (h:w.shape? a.block=some x):(variablesAt a u n).run P w=.ok (liesAt P P.depth x.1 (x.2 / P.cellsOf x.1) a.off u n) w:=by
 unfold variablesAt
 simp only[Sem.run_bind,run_program,Bn,Oj,h]
 rfl
theorem conv_ok (hG:GOK P g) (hU:∀t b,T.get none g.us (Ay (t+1))=some b→P.underlying t=some .unsafePointer) {src dst:Nat} {x:Operand} (ho:o.op=.convert src dst x) (h:oConv g src dst x t h0 k=true) :
 ∃v,k v=true∧N5 P o t h0 v:=by
 unfold oConv at h
 rw[Cg]at h
 split at h
 · rename_i id off hv
   unfold convP at h
   rw[Db]at h
   split at h
   · rename_i u hu
     obtain⟨h,e,he⟩:=Pz h
     rw[Cz]at h
     split at h
     · rename_i n cs fz ro ct hh
       obtain⟨hlt,h⟩:=Jg h
       have hlt:=J5 hlt
       obtain⟨hp,i,hi,hz⟩:=hG.pt _ _ he
       have hd:=hU _ _ hu
       refine⟨_,h,fun m N a nx w M T=>?_⟩
       obtain⟨l,hl,ee⟩:=(hv▸A7 T x:VR m (.p id off) _).p_inv
       refine⟨_,.p (l:=l) off hl,?_⟩
       have:=M.ob id l hl
       rw[hh]at this
       obtain⟨arr,fr,h1,h2,h3,h4,h5⟩:=this
       have hsh:w.shape? l.blk=some (ct,arr.size):=by simp[World.shape?,h1]
       have hsz:(sizeOf e).run P w=.ok i.size w:=by simp[sizeOf,typeInfo,hi]
       have hge:¬(l.base+off≥arr.size):=by omega
       simp only[execOp,ho,ee,convert,Sem.run_bind,run_underlying hp,run_underlying hd,Bn,Conv.unsafePointer,Rv (a:=⟨l.blk,l.base+off,none⟩) hsh,Zb hsh,hsz]
       simp[hz,hge]
     · cases h
   · rw[Db]at h
     split at h
     · rename_i u hu
       rw[Db]at h
       split at h
       · rename_i e he
         obtain⟨tu,htu,h⟩:=B1 h
         rw[Cz]at h
         split at h
         · rename_i n cs fz ro ct hh
           obtain⟨hc1,h⟩:=Cm h
           obtain⟨hc2,h⟩:=Cm h
           obtain⟨hc3,h⟩:=Cm h
           have hct:=Ck hc1
           have hof:=Ck hc2
           have hn:=Aa hc3
           obtain⟨hp,i,hi,hz⟩:=hG.pt _ _ he
           have hd:=hU _ _ hu
           refine⟨_,h,fun m N a nx w M T=>?_⟩
           obtain⟨l,hl,ee⟩:=(hv▸A7 T x:VR m (.p id off) _).p_inv
           refine⟨_,.p (l:=l) off hl,?_⟩
           have:=M.ob id l hl
           rw[hh]at this
           obtain⟨arr,fr,h1,h2,h3,h4,h5⟩:=this
           have hbs:=M.bs _ _ hl
           have hsh:w.shape? l.blk=some (ct,arr.size):=by simp[World.shape?,h1]
           have hsz:(sizeOf e).run P w=.ok i.size w:=by simp[sizeOf,typeInfo,hi]
           have hcell:P.cellsOf e=i.size:=by simp[Program.cellsOf,hi]
           obtain⟨i',hi',hs',_⟩:=(hG.ty _ _ htu).get
           rw[hi]at hi';cases hi'
           have hlies:liesAt P P.depth ct (arr.size / P.cellsOf ct) (l.base+off) e 1=true:=by
            rw[hct,hbs,hof]
            have hdep:P.depth=(P.depth-1)+1:=by simp[Program.depth]
            have hcnt:0+1≤arr.size / P.cellsOf e:=by
             rw[hcell]
             have:i.size≤arr.size:=by omega
             exact Nat.div_pos this (by omega)
            rw[hdep]
            unfold liesAt
            have:rowAt P (sameLayout P P.depth · e) P.depth e (arr.size / P.cellsOf e) (0+0) 1=true:=by
             rw[hdep]
             unfold rowAt
             have hz':¬P.cellsOf e=0:=by rw[hcell];exact hz
             simp only[hz',if_false,Bf,Nat.zero_div,Nat.zero_mod]
             have hsl:sameLayout P (P.depth-1+1) e e=true:=by unfold sameLayout;simp
             simp[hsl]
             left;omega
            simp[this]
           have hva:=Qr (P:=P) (a:=⟨l.blk,l.base+off,none⟩) (u:=e) (n:=1) hsh
           simp only[hlies]at hva
           simp only[execOp,ho,ee,convert,Sem.run_bind,run_underlying hp,run_underlying hd,Bn,Conv.unsafePointer,Rv (a:=⟨l.blk,l.base+off,none⟩) hsh,hva,hsz]
           simp[hz]
         · cases h
       · cases h
     · cases h
 · rename_i kd n hv
   obtain⟨ti,hti,h⟩:=B1 h
   obtain⟨tj,htj,h⟩:=B1 h
   split at h
   · rename_i kd' hs
     rw[J1]at h
     refine⟨_,h,fun m N a nx w M T=>⟨_,.i _ _,?_⟩⟩
     have e:=(hv▸A7 T x:VR m (.i kd n) _).i_inv
     obtain⟨d,hd,_⟩:=(hG.ty _ _ htj).und
     have hu:=(hG.ty _ _ hti).isInt hs
     simp only[execOp,ho,e,convert,Sem.run_bind,run_underlying hd,run_underlying hu,Bn,Conv.intToInt]
     rfl
   · cases h
 · rename_i id off n cap hv
   obtain⟨ti,hti,h⟩:=B1 h
   obtain⟨tj,htj,h⟩:=B1 h
   split at h
   · rename_i e hs hsj
     obtain⟨te,hte,h⟩:=B1 h
     split at h
     · rename_i hse
       have hus:=(hG.ty _ _ htj).isSlice hsj
       have hud:=(hG.ty _ _ hti).isStr hs
       have hue:=(hG.ty _ _ hte).isInt hse
       have main:∀(a:Act) (w:World) (ad:Addr) (c:Nat) (ns:List Nat),a.eval x=.slice (some ad) n c→(∀y∈ns,y<256)→ns.length=n →
        (∀j y,(ns.map (fun n=>Value.int .u8 (Int.ofNat n)))[j]?=some y→w.cell? (ad.add j)=some y)→(execOp a.eval o).run P w=.ok (.value (.string (Ko ns))) w:=fun a w ad c ns e hlt hlen hc=>by
        have hlc:=GV.run_loadCellsFrom P ad (ns.map (fun n=>Value.int .u8 (Int.ofNat n))) 0 #[] (by simpa using hc)
        have hlc':(loadCells ad n).run P w=.ok (ns.map (fun n=>Value.int .u8 (Int.ofNat n))).toArray w:=by
         unfold loadCells
         rw[Ct,hlen]at hlc
         rw[hlc];simp
        simp only[execOp,ho,e,convert,Sem.run_bind,run_underlying hus,run_underlying hud,run_underlying hue,Bn,Conv.bytesToString,hlc',←Array.forIn_toList]
        rw[N8 P w _ (fun n s=>rfl) ns ByteArray.empty hlt]
        have e0:(ByteArray.empty++Ko ns)=Ko ns:=by apply ByteArray.ext;simp
        simp[e0]
       rcases C6 h with⟨h0,h⟩|⟨h0,h⟩
       · have hn:=Ck h0
         refine⟨_,h,fun m N a nx w M T=>?_⟩
         obtain⟨l,c,ad,hl,ee,_⟩:=(hv▸A7 T x:VR m (.sl id off n cap) _).sl_any
         refine⟨.string (Ko []),(by have:=VR.s (m:=m) (Ko []);rwa [Tj (fun y hy=>by cases hy)]at this),main a w ad c [] ee (fun y hy=>by cases hy) hn.symm (fun j y hy=>by simp at hy)⟩
       · have hn:n≠0:=fun c=>by rw[c]at h0;cases h0
         obtain⟨c,cs,fz,ro,ct,hh,hle,hk⟩:=Ze h
         obtain⟨ns,h1,h2,h3⟩:=Ro hk
         refine⟨_,h1,fun m N a nx w M T=>?_⟩
         obtain⟨l,cc,ad,hl,ee,hpos⟩:=(hv▸A7 T x:VR m (.sl id off n cap) _).sl_any
         have had:=hpos (by omega)
         obtain⟨vs,h4,h5⟩:=Li M hl hh n off hle
         rw[h2]at h4
         have hvs:=h4.bytes
         have hlen:ns.length=n:=by have:=congrArg List.length h2;rw[Dj,Ct]at this;exact this.symm
         have hs':VR m (.s ns) (.string (Ko ns)):=by have:=VR.s (m:=m) (Ko ns);rwa [Tj h3]at this
         refine⟨_,hs',main a w ad cc ns ee h3 hlen (fun j y hy=>?_)⟩
         rw[had]
         exact h5 j y (by rw[hvs];exact hy)
     · cases h
   · cases h
 · cases h
theorem beqB:∀a b:ByteArray,(a==b)=decide (a=b)
 |⟨a⟩,⟨b⟩=>by
  show(a==b)=_
  by_cases h:a=b
  · subst h;simp
  · have:¬({data:=a}:ByteArray)={data:=b}:=fun e=>h (by cases e;rfl)
    simp[h,this]
theorem sameStr (l:List Nat) (s p:ByteArray) (hs:Ep s=l):Instr.sameNow .string (.string s) (.string p)=some (Dg l (Ep p)):=by
 subst hs
 simp only[Instr.sameNow,beqB]
 congr 1
 cases h:Dg (Ep s) (Ep p)with
 |true=>have:=Mf ((Dn _ _).1 h);simp[this]
 |false=>have:¬s=p:=fun e=>by rw[(Dn _ _).2 (congrArg Ep e)]at h;cases h
         simp[this]
noncomputable def Ob (kl:List Nat):List (AV×AV×Nat)→Nat→Option (Option (Nat×AV))
 |[],_=>some none
 |e::r,i=>match e.1 with
  |.s l=>if Dg kl l=true then some (some (i,e.2.1))else Ob kl r (i+1)
  |_=>none
theorem Nv {kl:List Nat} {hit:Nat→AV→Bool} {miss:Bool}:∀ {es:List (AV×AV×Nat)} (i:Nat),Gx kl es i hit miss=true →
 (∃j v,Ob kl es i=some (some (j,v))∧hit j v=true)∨(Ob kl es i=some none∧miss=true)
 |[],i,h=>.inr ⟨rfl,h⟩
 |a::r,i,h=>by
  obtain⟨l,hl,h5⟩:=Tc (k:=fun l=>fB (Dg kl l) (hit i a.2.1) (Gx kl r (i+1) hit miss)) h
  simp only[Ob,hl]
  rcases C6 h5 with⟨h6,h7⟩|⟨h6,h7⟩
  · rw[if_pos h6];exact .inl ⟨i,a.2.1,rfl,h7⟩
  · rw[if_neg (by rw[h6];simp)]
    exact Nv (i+1) h7
theorem J7 {m:Mp} {kl:List Nat} {s:ByteArray} (hs:Ep s=kl) :
 ∀ {es:List (AV×AV×Nat)} {ces:List MapEntry} (i:Nat),ES m es ces →
 (∀j v,Ob kl es i=some (some (j,v))→∃cv e,Instr.findNow .string (.string s) ces i=some (some (j,cv))∧VR m v cv∧i≤j∧ces[j-i]?=some e∧e.key=.string s) ∧
 (Ob kl es i=some none→Instr.findNow .string (.string s) ces i=some none)
 |[],[],i,_=>⟨fun j v h=>by simp[Ob]at h,fun _=>rfl⟩
 |a::r,e::q,i,hE=>by
  obtain⟨h1,h2,h3,h4⟩:=hE
  cases ha:a.1 with
  |s l=>
   rw[ha]at h1
   obtain⟨p,hp,hpl⟩:=h1.s_inv
   have hsn:=sameStr kl s p hs
   rw[hpl]at hsn
   obtain⟨ih1,ih2⟩:=J7 hs (i+1) h4
   simp only[Ob,ha,Instr.findNow,hp,hsn]
   cases hn:Dg kl l with
   |true=>
    have hps:p=s:=Mf (by rw[hpl,hs];exact((Dn _ _).1 hn).symm)
    refine⟨fun j v h=>?_,fun h=>by simp at h⟩
    simp only[if_true,Option.some.injEq,Prod.mk.injEq]at h
    obtain⟨rfl,rfl⟩:=h
    exact⟨_,e,rfl,h2,Ag _,by simp,by rw[hp,hps]⟩
   |false=>
    simp only[Bool.false_eq_true,if_false]
    refine⟨fun j v h=>?_,ih2⟩
    obtain⟨cv,e',a1,a2,a3,a4,a5⟩:=ih1 j v h
    refine⟨cv,e',a1,a2,by omega,?_,a5⟩
    rw[show j-i=(j-(i+1))+1 by omega]
    simpa using a4
  |_=>exact⟨fun j v h=>by simp[Ob,ha]at h,fun h=>by simp[Ob,ha]at h⟩
 |[],_::_,i,h=>h.elim
 |_::_,[],i,h=>h.elim
theorem V1 {kt:Nat} (hk:P.underlying kt=some .string) (e:Bool) (s:ByteArray) (w:World) (n:Nat):(Instr.checkKey e (n+1) kt (.string s)).run P w=.ok () w:=by
 unfold Instr.checkKey
 simp only[Sem.run_bind,run_underlying hk,Bn]
 rfl
theorem Gr {kt:Nat} (hk:P.underlying kt=some .string) (e:Bool) (s:ByteArray) (w:World):(Instr.checkKey e 10000 kt (.string s)).run P w=.ok () w:=V1 hk e s w 9999
theorem Ho {kt:Nat} (hk:P.underlying kt=some .string) {s:ByteArray} {ces:List MapEntry} {r:Option (Nat×Value)} (h:Instr.findNow .string (.string s) ces 0=some r) (w:World) :
 (Instr.findKey kt (.string s) ces).run P w=.ok r w:=by
 simp[Instr.findKey,run_underlying hk,h]
theorem zeroA_ok {e:Nat} {te:TI} (hT:TIok P e te) (m:Mp):VR m (zeroA te) te.zv:=by
 unfold zeroA
 cases ha:te.agg with
 |true=>
  have:=VR.agL (Oz m te.zero)
  simpa[TI.zv,ha]using this
 |false=>exact cv_ok m _
theorem Mn {ok:Bool} {v:AV} {b:Bool} (h:Lq ok k v b=true):∃r,k r=true∧∀m cv,VR m v cv→VR m r (if ok=true then .tuple #[cv,.bool b]else cv):=by
 unfold Lq at h
 cases ok with
 |true=>exact⟨_,h,fun m cv hv=>by have:=VR.tuL (VL.cons hv (VL.cons (VR.b b) (VL.nil m)));simpa using this⟩
 |false=>exact⟨_,h,fun m cv hv=>by simpa using hv⟩
theorem lookup_ok (hG:GOK P g) {ty:Nat} {x key:Operand} {ok:Bool} (ho:o.op=.lookup ty x key ok) (h:Zj g ty x key ok t h0 k=true):∃v,k v=true∧N5 P o t h0 v:=by
 unfold Zj at h
 rw[Db]at h
 split at h
 · rename_i kt e hm
   obtain⟨te,hte,h⟩:=B1 h
   rw[Cg]at h
   obtain⟨kl,hk,h⟩:=Tc h
   rw[Cg]at h
   obtain⟨hu,huk⟩:=hG.mp _ _ _ hm
   have hT:=hG.ty _ _ hte
   split at h
   · rename_i hv
     obtain⟨r,h1,h2⟩:=Mn h
     refine⟨r,h1,fun m N a nx w M T=>?_⟩
     obtain⟨s,hks,hsl⟩:=(hk▸A7 T key:VR m (.s kl) _).s_inv
     have e1:=(hv▸A7 T x:VR m .m0 _).m0_inv
     refine⟨_,h2 m _ (zeroA_ok hT m),?_⟩
     simp only[execOp,ho,e1,hks,Instr.lookup,Sem.run_bind,run_underlying hu,Bn,Sem.run_pure,Gr huk]
     have:=Ho huk (s:=s) (ces:=[]) (r:=none) rfl w
     simp[this,GV.run_zeroValue w hT]
   · rename_i id hv
     rw[Cz]at h
     split at h
     · rename_i es clk hh
       have setup:∀m N (a:Act) nx w,Mem m h0 nx w→TR m N t a.tmps→∃(l:Loc) (ces:Array MapEntry) (s:ByteArray),Ep s=kl∧w.heap[l.blk]?=some (.map ces clk)∧ES m es ces.toList∧a.eval x=.map (some l.blk)∧a.eval key=.string s:=fun m N a nx w M T=>by
        obtain⟨s',hks,hsl⟩:=(hk▸A7 T key:VR m (.s kl) _).s_inv
        obtain⟨l,hl,e1⟩:=(hv▸A7 T x:VR m (.m id) _).m_inv
        have:=M.ob id l hl
        rw[hh]at this
        obtain⟨ces,b1,b2⟩:=this
        exact⟨l,ces,s',hsl,b1,b2,e1,hks⟩
       have run:∀(a:Act) (w:World) (l:Nat) (ces:Array MapEntry) (s:ByteArray) (r:Option (Nat×Value)),w.heap[l]?=some (.map ces clk)→a.eval x=.map (some l)→a.eval key=.string s→Instr.findNow .string (.string s) ces.toList 0=some r →
        (execOp a.eval o).run P w=.ok (.value (if ok=true then .tuple #[(match r with|some p=>p.2|none=>te.zv),.bool r.isSome]else(match r with|some p=>p.2|none=>te.zv))) w:=fun a w l ces s r b1 e1 hks hf=>by
        have hgo:(getObj l).run P w=.ok (.map ces clk) w:=by simp[getObj,Sem.run,b1]
        simp only[execOp,ho,e1,hks,Instr.lookup,Sem.run_bind,run_underlying hu,Bn,hgo,Sem.run_pure,Gr huk,Ho huk hf]
        cases r with
        |none=>simp[GV.run_zeroValue w hT]
        |some p=>simp
       rcases Nv 0 h with⟨j,v,h1,h2⟩|⟨h1,h2⟩
       · obtain⟨r,h3,h4⟩:=Mn h2
         refine⟨r,h3,fun m N a nx w M T=>?_⟩
         obtain⟨l,ces,s,hs,b1,b2,e1,hks⟩:=setup m N a nx w M T
         obtain⟨cv,e',c1,c2,_⟩:=(J7 hs 0 b2).1 j v h1
         exact⟨_,h4 m cv c2,run a w _ ces s _ b1 e1 hks c1⟩
       · obtain⟨r,h3,h4⟩:=Mn h2
         refine⟨r,h3,fun m N a nx w M T=>?_⟩
         obtain⟨l,ces,s,hs,b1,b2,e1,hks⟩:=setup m N a nx w M T
         exact⟨_,h4 m _ (zeroA_ok hT m),run a w _ ces s _ b1 e1 hks ((J7 hs 0 b2).2 h1)⟩
     · cases h
   · cases h
 · cases h
theorem ES.length {m:Mp}:∀ {es:List (AV×AV×Nat)} {ces:List MapEntry},ES m es ces→es.length=ces.length
 |[],[],_=>rfl
 |_::_,_::_,h=>by simp only[Cq];rw[ES.length h.2.2.2]
 |[],_::_,h=>h.elim
 |_::_,[],h=>h.elim
theorem len_ok (hG:GOK P g) {cl:Call} {x:Operand} (ho:o.op=.call cl) (hc:cl.callee=.builtin .len) (hx:cl.args.toList=[x]) (h:lenK g cl.argTypes.toList x t h0 k=true):∃v,k v=true∧N5 P o t h0 v:=by
 have hargs:cl.args=#[x]:=by cases hca:cl.args with|mk l=>rw[hca]at hx;simp at hx;rw[hx]
 unfold lenK at h
 split at h
 · rename_i ty r hty
   have hat:cl.argTypes[0]?=some ty:=by cases hca:cl.argTypes with|mk l=>rw[hca]at hty;simp at hty;simp[hty]
   rw[Cg]at h
   split at h
   · rename_i l hv
     obtain⟨ti,hti,h⟩:=B1 h
     split at h
     · rename_i hs
       rw[H4]at h
       refine⟨_,h,fun m N a nx w M T=>⟨_,.i _ _,?_⟩⟩
       obtain⟨s,e,hsl⟩:=(hv▸A7 T x:VR m (.s l) _).s_inv
       have hu:=(hG.ty _ _ hti).isStr hs
       have:l.length=s.size:=by rw[←hsl,Ei]
       simp[execOp,ho,resolve,hc,hargs,invoke,builtin,Builtin.len_,hat,run_underlying hu,e,goInt,this]
     · cases h
   · rename_i hv
     obtain⟨ti,hti,h⟩:=B1 h
     split at h
     · rename_i e hs
       refine⟨_,h,fun m N a nx w M T=>⟨_,.i _ _,?_⟩⟩
       have e:=(hv▸A7 T x:VR m .sl0 _).sl0_inv
       have hu:=(hG.ty _ _ hti).isSlice hs
       simp[execOp,ho,resolve,hc,hargs,invoke,builtin,Builtin.len_,hat,run_underlying hu,e,goInt]
     · cases h
   · rename_i id off n cap hv
     obtain⟨ti,hti,h⟩:=B1 h
     split at h
     · rename_i e hs
       refine⟨_,h,fun m N a nx w M T=>⟨_,.i _ _,?_⟩⟩
       obtain⟨l,c,ad,_,e,_⟩:=(hv▸A7 T x:VR m (.sl id off n cap) _).sl_any
       have hu:=(hG.ty _ _ hti).isSlice hs
       simp[execOp,ho,resolve,hc,hargs,invoke,builtin,Builtin.len_,hat,run_underlying hu,e,goInt]
     · cases h
   · rename_i id hv
     rw[Db]at h
     split at h
     · rename_i kt e hm
       rw[Cz]at h
       split at h
       · rename_i es clk hh
         rw[H4]at h
         refine⟨_,h,fun m N a nx w M T=>⟨_,.i _ _,?_⟩⟩
         obtain⟨l,hl,e1⟩:=(hv▸A7 T x:VR m (.m id) _).m_inv
         have:=M.ob id l hl
         rw[hh]at this
         obtain⟨ces,b1,b2⟩:=this
         have hu:=(hG.mp _ _ _ hm).1
         have hgo:(getObj l.blk).run P w=.ok (.map ces clk) w:=by simp[getObj,Sem.run,b1]
         have hlen:es.length=ces.size:=by rw[ES.length b2];simp
         simp only[execOp,ho,resolve,hc,hargs,Sem.run_bind,Sem.run_pure,Bn,invoke,builtin,Builtin.len_,hat]
         simp[run_underlying hu,e1,hgo,goInt,hlen]
       · cases h
     · cases h
   · cases h
 · cases h
theorem evR_ok (hG:GOK P g) (hU:∀t b,T.get none g.us (Ay (t+1))=some b→P.underlying t=some .unsafePointer) (h:evR g o.op t h0 k=true):∃v,k v=true∧N5 P o t h0 v:=by
 have no:∀ {b:Bool},b=true→b=false→∃v,k v=true∧N5 P o t h0 v:=fun h h'=>by rw[h]at h';cases h'
 generalize hop:o.op=op at h
 cases op
 case load=>exact load_ok hG hop h
 case lookup=>exact lookup_ok hG hop h
 case convert=>exact conv_ok hG hU hop h
 case call c=>
  cases hc:c.callee with
  |builtin b=>
   cases hl:c.args.toList with
   |nil=>exact no h (by simp only[evR,hc,hl])
   |cons x r=>
    cases r with
    |cons y s=>exact no h (by simp only[evR,hc,hl])
    |nil=>
     cases b
     case len=>
      have:evR g (.call c) t h0 k=lenK g c.argTypes.toList x t h0 k:=by simp only[evR,hc,hl]
      rw[this]at h
      exact len_ok hG hop hc hl h
     all_goals exact no h (by simp only[evR,hc,hl])
  |value f=>exact no h (by simp only[evR,hc])
  |invoke f n=>exact no h (by simp only[evR,hc])
 all_goals exact no h rfl
end Go.CE
namespace Go.CE
open Go.GV (TI Shp TIok FR)
def RR (m:Mp):Option Pos→Option Nat→Prop
 |none,none=>True
 |some p,some b=>∃l,m p=some l∧l.blk=b
 |_,_=>False
theorem RR.mono {m m':Mp} (h:m.le m'):∀ {r:Option Pos} {ro:Option Nat},RR m r ro→RR m' r ro
 |none,none,_=>trivial
 |some p,some b,⟨l,h1,h2⟩=>⟨l,h _ _ h1,h2⟩
def Aa0 (P:Program) (r:Option Pos) (o:Oper) (t:T AV) (h:H) (nx:Pos) (v:AV) (h':H) (nx':Pos):Prop:=
 ∀m N (a:Act) w ro (next:Act→World→Prop) (Q:Exit→Act→World→Prop),Mem m h nx w→TR m N t a.tmps→RR m r ro →
  (∀cv m' w',VR m' v cv→Mem m' h' nx' w'→Ext m h nx w m' h' nx' w'→next (a.put o.dst cv) w')→o.wpIn (FR ro) 0 P a w next Q
def XSem (P:Program) (o:Oper) (t:T AV) (h:H) (nx:Pos) (v:AV) (h':H) (nx':Pos):Prop:=
 ∀m N (a:Act) w,Mem m h nx w→TR m N t a.tmps →
  ∃cv m' w',VR m' v cv∧((execOp a.eval o).run P w=.ok (.value cv) w'∨(cv=undef∧(execOp a.eval o).run P w=.ok .skip w'))∧Mem m' h' nx' w'∧Ext m h nx w m' h' nx' w'
def Si (P:Program) (o:Oper) (t:T AV) (id:Pos) (ob:AO) (v:AV):Prop:=
 ¬N4 ob∧∀m N (a:Act) (w:World),TR m N t a.tmps→m id=none →
  ∃cv obj l,l.blk=w.heap.size∧l.base=0∧(execOp a.eval o).run P w=.ok (.value cv) (w.alloc obj)∧VR (Pf m id l) v cv∧OR (Pf m id l) ob l (w.alloc obj)
variable {P : Program} {g : G} {o : Oper} {t : T AV} {h0 : H} {nx : Pos} {k : K}
theorem Si.x {ob:AO} {v:AV} (hd:hg h0 nx=.dead) (h:Si P o t nx ob v):XSem P o t h0 nx v (hs h0 nx ob) (Ad nx):=fun m N a w M T=>by
 obtain⟨cv,obj,l,h1,h2,h3,h4,h5⟩:=h.2 m N a w T M.ids
 obtain⟨M',E'⟩:=M.new h1 h2 h.1 h5
 exact⟨cv,_,_,h4,.inl h3,M',E'⟩
theorem Ja (ro:Option Nat) (ρ:Operand→Value) (hd:∀c,o.op≠.defer c):o.semAt ro ρ=execOp ρ o:=by
 unfold Oper.semAt
 cases ro with
 |none=>rfl
 |some l=>cases ho:o.op<;>first|rfl|exact absurd ho (hd _)
theorem XSem.toO {v:AV} {h':H} {nx':Pos} (r:Option Pos) (hd:∀c,o.op≠.defer c) (h:XSem P o t h0 nx v h' nx'):Aa0 P r o t h0 nx v h' nx':=fun m N a w ro next Q M T R hn=>by
 obtain⟨cv,m',w',h1,h2,M',E'⟩:=h m N a w M T
 refine⟨fun _ _=>trivial,?_⟩
 show o.uponIn (FR ro) 0 P a next Q ((o.semAt ro a.eval).run P w)
 rw[Ja ro _ hd]
 rcases h2 with h2|⟨hu,h2⟩
 · rw[h2];exact hn cv m' w' h1 M' E'
 · rw[h2];subst hu;exact hn _ m' w' h1 M' E'
theorem N5.x {v:AV} (h:N5 P o t h0 v):XSem P o t h0 nx v h0 nx:=fun m N a w M T=>by
 obtain⟨cv,h1,h2⟩:=h m N a nx w M T
 exact⟨cv,m,w,h1,.inl h2,M,.refl m h0 nx w⟩
theorem Mr {m:Mp} {id:Pos} {l:Loc} (h:m id=none):m.le (Pf m id l):=fun j k e=>by
 rw[D4 (fun c=>by subst c;rw[h]at e;cases e)];exact e
theorem TA.mono {m m':Mp} (hm:m.le m') {n:Nat} {cs:T AV} {arr:Array Value} (h:TA m n cs arr):TA m' n cs arr:=
 ⟨h.1,fun i hi=>by obtain⟨v,a,b⟩:=h.2 i hi;exact⟨v,a,b.mono hm⟩⟩
theorem OR.cells {m:Mp} {n:Nat} {cs:T AV} {arr:Array Value} (h:TA m n cs arr) (w:World) (ty:Nat) :
 OR m (.cells n cs 0 false ty) ⟨w.heap.size,0,arr.size⟩ (w.alloc (.cells arr ty)):=
 ⟨arr,(0,0),I1 w _,rfl,by simp[h.1],h.2,fun _=>B9 _⟩
theorem alloc_ok (hG:GOK P g) {e:Nat} (ho:o.op=.alloc e) (h:oAlloc g e h0 nx k=true):∃ob v,hg h0 nx=.dead∧k v (hs h0 nx ob) (Ad nx)=true∧Si P o t nx ob v:=by
 unfold oAlloc at h
 obtain⟨ti,hti,h⟩:=B1 h
 obtain⟨hd,h⟩:=newC_inv h
 have hT:=hG.ty _ _ hti
 refine⟨_,_,hd,h,fun x=>x,fun m N a w T hn=>?_⟩
 have hlen:(Vo ti.zero).length=ti.sz:=by rw[Aar];simp[hT.len]
 have z:=TA.zero (Oz (Pf m nx ⟨w.heap.size,0,ti.zero.toArray.size⟩) ti.zero)
 rw[hlen]at z
 refine⟨_,.cells ti.zero.toArray e,⟨w.heap.size,0,ti.zero.toArray.size⟩,rfl,rfl,?_,.p 0 (Cv _ _ _),OR.cells z w e⟩
 simp only[execOp,ho,Instr.alloc,Sem.run_bind,GV.run_zeroValue w hT,Bn,GV.run_newVar,TI.zv_cells hT]
 rfl
theorem box_ok {e:Nat} {x:Operand} (ho:o.op=.box e x) (h:oBox g e x t h0 nx k=true):∃ob v,hg h0 nx=.dead∧k v (hs h0 nx ob) (Ad nx)=true∧Si P o t nx ob v:=by
 unfold oBox at h
 rw[Cg]at h
 obtain⟨vs,h,hv⟩:=O0 h
 rw[H4]at h
 obtain⟨hd,h⟩:=newC_inv h
 refine⟨_,_,hd,h,fun x=>x,fun m N a w T hn=>?_⟩
 have hl:=hv m _ (A7 T x)
 have z:=(TA.zero hl).mono (Mr (l:=⟨w.heap.size,0,(a.eval x).cells.size⟩) hn)
 rw[Array.toArray_toList]at z
 refine⟨_,.cells (a.eval x).cells e,⟨w.heap.size,0,(a.eval x).cells.size⟩,rfl,rfl,?_,.p 0 (Cv _ _ _),OR.cells z w e⟩
 simp only[execOp,ho,Instr.box,Sem.run_bind,GV.run_newVar,Bn]
 rfl
noncomputable def zl (z:List AV) (sz:Nat):Nat→Nat→T AV→T AV
 |0,_,cs=>cs
 |n+1,off,cs=>zl z sz n (off+sz) (wl z cs off)
theorem Ju (z:List AV) (sz:Nat):∀(n off:Nat) (cs:T AV) (k:T AV→Bool),Oe z n off sz cs k=k (zl z sz n off cs)
 |0,_,_,_=>rfl
 |n+1,off,cs,k=>by
  show Vl z cs off (fun cs=>fN (Nat.add off sz) fun off=>Oe z n off sz cs k)=_
  rw[Gy,F6,Ju z sz n];rfl
theorem zl_get {z:List AV} {sz:Nat} (hz:z.length=sz):∀(n off:Nat) (cs:T AV) (i:Nat),T.get .x (zl z sz n off cs) (Ay (i+1))=if off≤i∧i<off+n*sz then z.getD ((i-off)%sz) .x else T.get .x cs (Ay (i+1))
 |0,off,cs,i=>by simp only[zl];rw[if_neg (by simp)]
 |n+1,off,cs,i=>by
  simp only[zl]
  rw[zl_get hz n (off+sz) _ i,Hv,hz]
  rw[show(n+1) * sz=n*sz+sz by rw[Nat.add_mul,Nat.one_mul]]
  by_cases h1:off+sz≤i∧i<off+sz+n*sz
  · rw[if_pos h1,if_pos (by omega)]
    congr 1
    rw[show i-off=(i-(off+sz))+sz by omega,Nat.add_mod_right]
  · rw[if_neg h1]
    by_cases h2:off≤i∧i<off+sz
    · rw[if_pos h2,if_pos (by omega)]
      congr 1
      rw[Nat.mod_eq_of_lt (by omega)]
    · rw[if_neg h2,if_neg (by omega)]
theorem TA.zeros {m:Mp} {e:Nat} {te:TI} (hT:TIok P e te) (n:Nat):TA m (n*te.sz) (zl (Vo te.zero) te.sz n 0 .e) ((Array.range (n*te.sz)).map (te.zv.cells[·%te.zv.cells.size]!)):=by
 have hz:=TI.zv_cells hT
 have hlen:(Vo te.zero).length=te.sz:=by rw[Aar];simp[hT.len]
 refine⟨by simp,fun i hi=>?_⟩
 rw[zl_get hlen,if_pos ⟨B9 _,by omega⟩,Nat.sub_zero,Bf]
 have hpos:0<te.sz:=by
  rcases Nat.eq_zero_or_pos te.sz with h0|h0
  · rw[h0]at hi;simp at hi
  · exact h0
 have hlt:i%te.sz<te.zero.length:=by rw[hT.len];exact Nat.mod_lt _ hpos
 refine⟨te.zero[i%te.sz],?_,?_⟩
 · simp only[Array.getElem?_map,hz]
   simp[Array.getElem?_range,hi,hT.len,hlt]
   rw[B8 hlt];rfl
 · have:=(Oz m te.zero).2 (i%te.sz) ((Vo te.zero)[i%te.sz]'(by rw[hlen];exact Nat.mod_lt _ hpos)) te.zero[i%te.sz] (by simp) (by simp[hlt])
   rw[A0,B8 (by rw[hlen];exact Nat.mod_lt _ hpos)]
   exact this
theorem Wl (hG:GOK P g) {s n:Nat} {ps:Array (Nat×Operand)} (ho:o.op=.buildSlice s n ps) (h:Mj g s n ps.toList t h0 nx k=true):∃ob v,hg h0 nx=.dead∧k v (hs h0 nx ob) (Ad nx)=true∧Si P o t nx ob v:=by
 unfold Mj at h
 obtain⟨ti,hti,h⟩:=B1 h
 split at h
 · rename_i e hs
   obtain⟨te,hte,h⟩:=B1 h
   obtain⟨h1,h⟩:=Cm h
   obtain⟨h2,h⟩:=Cm h
   rw[Ju]at h
   have hn:=Aa h1
   have hsz:=Aa h2
   have hp:Aaz P (Xl n te.sz) (fun i=>some (i*te.sz,te.sz)):=fun i k hk=>by
    unfold Xl at hk
    exact⟨_,_,rfl,(Jg hk).2⟩
   obtain⟨cs',h3,h4⟩:=P5 hp _ _ _ h
   rw[F6]at h3
   obtain⟨hd,h3⟩:=Gk h3
   have hT:=hG.ty _ _ hte
   have hu:=(hG.ty _ _ hti).isSlice hs
   have hsmall:¬n*te.sz > 2^24:=by
    have:n*te.sz≤1000*1000:=Nat.mul_le_mul hn hsz
    omega
   refine⟨_,_,hd,h3,fun x=>x,fun m N a w T hnx=>?_⟩
   by_cases hz:n*te.sz=0
   · have z:TA m (n*te.sz) (zl (Vo te.zero) te.sz n 0 .e) #[]:=⟨by simp[hz],fun i hi=>by omega⟩
     obtain⟨arr,h5,h6⟩:=h4 m N a _ T z
     refine⟨_,.cells arr e,⟨w.heap.size,0,arr.size⟩,rfl,rfl,?_,.slk 0 n n (Cv _ _ _),OR.cells (h6.mono (Mr hnx)) w e⟩
     simp only[execOp,ho,Instr.buildSlice,Sem.run_bind,run_underlying hu,Bn,GV.run_sizeOf w hT]
     rw[if_neg hsmall]
     simp[hz,h5,newRow,Array.range_zero']
   · have z:=TA.zeros (m:=m) hT n
     obtain⟨arr,h5,h6⟩:=h4 m N a _ T z
     refine⟨_,.cells arr e,⟨w.heap.size,0,arr.size⟩,rfl,rfl,?_,.slk 0 n n (Cv _ _ _),OR.cells (h6.mono (Mr hnx)) w e⟩
     simp only[execOp,ho,Instr.buildSlice,Sem.run_bind,run_underlying hu,Bn,GV.run_sizeOf w hT]
     rw[if_neg hsmall]
     have hps:((ps.map fun(x:Nat×Operand)=>(x.1,a.eval x.2)).toList)=ps.toList.map (fun p=>(p.1,a.eval p.2)):=by simp
     simp only[if_neg hz,Sem.run_bind,GV.run_zeroValue w hT,Bn,Sem.run_pure,hps,h5,newRow,run_newObj_alloc]
 · cases h
theorem Zr (hG:GOK P g) {s:Nat} {l c:Operand} (ho:o.op=.makeSlice s l c) (h:On g s l c t h0 nx k=true):∃ob v,hg h0 nx=.dead∧k v (hs h0 nx ob) (Ad nx)=true∧Si P o t nx ob v:=by
 unfold On at h
 obtain⟨ti,hti,h⟩:=B1 h
 split at h
 · rename_i e hs
   obtain⟨te,hte,h⟩:=B1 h
   rw[Cg]at h
   simp only[Cg]at h
   obtain⟨k1,nl,hl,h⟩:=Lw h
   obtain⟨k2,nc,hc,h⟩:=Lw h
   rw[Db]at h
   split at h
   · rename_i b hb
     obtain⟨h1,h⟩:=Cm h
     obtain⟨h2,h⟩:=Cm h
     obtain⟨h3,h⟩:=Cm h
     rw[Ju,F6]at h
     obtain⟨hd,h⟩:=Gk h
     have hlc:=Aa h1
     have hbc:=Aa h2
     have hcc:=Aa h3
     have hT:=hG.ty _ _ hte
     have hu:=(hG.ty _ _ hti).isSlice hs
     obtain⟨i,hi,hib⟩:=hG.bt _ _ hb
     refine⟨_,_,hd,h,fun x=>x,fun m N a w T hnx=>?_⟩
     have el:=(hl▸A7 T l:VR m (.i k1 (.ofNat nl)) _).i_inv
     have ec:=(hc▸A7 T c:VR m (.i k2 (.ofNat nc)) _).i_inv
     have hbc':(i.bytes:Int) * (nc:Int)≤281474976710656:=by
      rw[hib]
      have:((b*nc:Nat):Int)≤1000000000:=by rw[Nat.mul_comm];exact Int.ofNat_le.2 hbc
      rw[Int.natCast_mul]at this
      omega
     obtain⟨i',hi',hsz,hzero⟩:=hT.get
     rw[hi]at hi';cases hi'
     have hm:=run_make (P:=P) w s e i te.zv hu hi hzero k1 k2 (nl:Int) (nc:Int) (by omega) (by exact_mod_cast hlc) hbc' (by omega)
     have z:=TA.zeros (m:=Pf m nx ⟨w.heap.size,0,nc*te.sz⟩) hT nc
     refine⟨_,.cells (madeCells te.zv.cells (nc*te.sz)) e,⟨w.heap.size,0,nc*te.sz⟩,rfl,rfl,?_,.slk 0 nl nc (Cv _ _ _),?_⟩
     · simp only[Int.toNat_natCast,hsz]at hm
       have el':a.eval l=.int k1 (nl:Int):=el
       have ec':a.eval c=.int k2 (nc:Int):=ec
       simp only[execOp,ho,el',ec',Sem.run_bind,hm,Bn]
       rfl
     · have:=OR.cells z w e
       simpa[madeCells]using this
   · cases h
 · cases h
theorem makeMap_ok (hG:GOK P g) {ty:Nat} {r:Option Operand} (ho:o.op=.makeMap ty r) (h:Ua g ty r t h0 nx k=true):∃ob v,hg h0 nx=.dead∧k v (hs h0 nx ob) (Ad nx)=true∧Si P o t nx ob v:=by
 unfold Ua at h
 have fin:∀m (w:World),OR (Pf m nx ⟨w.heap.size,0,0⟩) (.map [] 0) ⟨w.heap.size,0,0⟩ (w.alloc (.map #[] 0)):=fun m w=>⟨#[],I1 w _,trivial⟩
 split at h
 · obtain⟨hd,h⟩:=Gk h
   refine⟨_,_,hd,h,fun x=>x,fun m N a w T hnx=>⟨_,.map #[] 0,⟨w.heap.size,0,0⟩,rfl,rfl,?_,.m (Cv _ _ _),fin m w⟩⟩
   simp[execOp,ho,Instr.makeMap]
 · rename_i x
   rw[Db]at h
   split at h
   · rename_i ke hm
     rw[Cg]at h
     obtain⟨kd,n,hv,h⟩:=Nz h
     obtain⟨hd,h⟩:=Gk h
     obtain⟨kt,et⟩:=ke
     obtain⟨hu,_⟩:=hG.mp _ _ _ hm
     refine⟨_,_,hd,h,fun x=>x,fun m N a w T hnx=>⟨_,.map #[] 0,⟨w.heap.size,0,0⟩,rfl,rfl,?_,.m (Cv _ _ _),fin m w⟩⟩
     have e:=(hv▸A7 T x:VR m (.i kd n) _).i_inv
     simp[execOp,ho,Instr.makeMap,run_underlying hu,e,asInt,asIntOf]
   · cases h
theorem range_ok (hG:GOK P g) {ty:Nat} {x:Operand} (ho:o.op=.range ty x) (h:oRange g ty x t h0 nx k=true):∃ob v,hg h0 nx=.dead∧k v (hs h0 nx ob) (Ad nx)=true∧Si P o t nx ob v:=by
 unfold oRange at h
 obtain⟨ti,hti,h⟩:=B1 h
 rw[Cg]at h
 split at h
 · rename_i l hs hv
   obtain⟨hd,h⟩:=Gk h
   have hu:=(hG.ty _ _ hti).isStr hs
   refine⟨_,_,hd,h,fun x=>x,fun m N a w T hnx=>?_⟩
   obtain⟨s,e,hsl⟩:=(hv▸A7 T x:VR m (.s l) _).s_inv
   refine⟨_,.stringIter s 0,⟨w.heap.size,0,0⟩,rfl,rfl,?_,.p 0 (Cv _ _ _),⟨s,I1 w _,hsl,rfl⟩⟩
   simp[execOp,ho,Instr.range,run_underlying hu,e]
 · cases h
theorem evA_ok (hG:GOK P g) (h:evA g o.op t h0 nx k=true):∃ob v,hg h0 nx=.dead∧k v (hs h0 nx ob) (Ad nx)=true∧Si P o t nx ob v:=by
 have no:∀ {b:Bool},b=true→b=false→∃ob v,hg h0 nx=.dead∧k v (hs h0 nx ob) (Ad nx)=true∧Si P o t nx ob v:=fun h h'=>by rw[h]at h';cases h'
 generalize hop:o.op=op at h
 cases op
 case alloc=>exact alloc_ok hG hop h
 case box=>exact box_ok (g:=g) hop h
 case buildSlice=>exact Wl hG hop h
 case makeSlice=>exact Zr hG hop h
 case makeMap=>exact makeMap_ok hG hop h
 case range=>exact range_ok hG hop h
 all_goals exact no h rfl
end Go.CE
