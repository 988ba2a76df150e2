/- Part 12 of the lemmas behind the claim. -/
import Derived.Test.YtacpdfjcepkgcaaGreatDoorZA01
import Derived.Test.YtacpdfjcepkgcaaGreatDoorZA11
set_option linter.unusedSimpArgs false
set_option linter.unusedVariables false
set_option linter.constructorNameAsVariable false
set_option linter.unusedSectionVars false
set_option linter.defProp false
set_option maxRecDepth 100000
set_option maxHeartbeats 40000000
namespace Go.CE
open Go.GV (TI Shp TIok)
variable {P : Program} {g : G} {o : Oper} {t : T AV} {k : AV → Bool}
theorem shift_ok {op:BinOp} {kd:IntKind} {a b:Int} (hop:op=.shl∨op=.shr) (h:Y0 op kd a b k=true):∃v,k v=true∧∃cv,(∀m,VR m v cv)∧∀ty kb w,(binOp op ty (.int kd a) (.int kb b)).run P w=.ok cv w:=by
 unfold Y0 at h
 split at h
 · rename_i a n
   obtain⟨h0,h⟩:=Cm h
   have hn:=Aa h0
   have hneg:¬(Int.ofNat n<0):=by simp
   have hmin:min (Int.ofNat n).toNat IntKind.u64.bits=n:=by simp only[IntKind.bits,Aj,Int.toNat_natCast];omega
   split at h
   · rw[J1]at h
     refine⟨_,h,_,fun m=>.i _ _,fun ty kb w=>?_⟩
     simp only[binOp,Op.shift,hneg,if_false,hmin]
     simp
   · rw[F6]at h
     refine⟨_,h,_,fun m=>.i _ _,fun ty kb w=>?_⟩
     simp only[binOp,Op.shift,hneg,if_false,hmin]
     have:(Int.ofNat a).fdiv (2^n)=Int.ofNat (a / 2^n):=by
      rw[Int.fdiv_eq_ediv_of_nonneg _ (by exact_mod_cast B9 _)]
      simp
     rw[this];rfl
   · cases h
 · rename_i a n
   obtain⟨h0,h⟩:=Cm h
   have hn:=Aa h0
   have hneg:¬(Int.ofNat n<0):=by simp
   have hmin:min (Int.ofNat n).toNat IntKind.i64.bits=n:=by simp only[IntKind.bits,Aj,Int.toNat_natCast];omega
   split at h
   · rw[J1]at h
     refine⟨_,h,_,fun m=>.i _ _,fun ty kb w=>?_⟩
     simp only[binOp,Op.shift,hneg,if_false,hmin]
     simp
   · refine⟨_,h,_,fun m=>.i _ _,fun ty kb w=>?_⟩
     simp only[binOp,Op.shift,hneg,if_false,hmin]
     simp
   · cases h
 · cases h
theorem Pz {ty:Nat} {x:Bool} (h:ptK g ty x=true):x=true∧∃e,T.get none g.pt (Ay (ty+1))=some e:=by
 unfold ptK at h
 rw[Db]at h
 split at h
 · rename_i e he;exact⟨h,e,he⟩
 · cases h
theorem eq2_ok {ty:Nat} {ti:TI} (T:TIok P ty ti) {s:Shp} (hs:ti.shp=s) {x y:AV} {k:Bool→Bool} (h:eq2 s x y k=true) :
 ∃r,k r=true∧∀m cx cy,VR m x cx→VR m y cy→∀d w,(Op.equalIn (d+1) ty cx cy).run P w=.ok r w:=by
 unfold eq2 at h
 split at h
 · rename_i a b
   have key:∀m cx cy,VR m (.b a) cx→VR m (.b b) cy→∀d w,(Op.equalIn (d+1) ty cx cy).run P w=.ok (a==b) w:=fun m cx cy hx hy d w=>by
    rw[hx.b_inv,hy.b_inv];simp[Op.equalIn,run_underlying (T.isBool hs)]
   cases a<;>cases b<;>exact⟨_,h,key⟩
 · rename_i a m b n
   obtain⟨h1,h2⟩:=Cm h
   obtain rfl:=Z4 h1
   have key:∀M cx cy,VR M (.i a m) cx→VR M (.i a n) cy→∀d w,(Op.equalIn (d+1) ty cx cy).run P w=.ok (N2 m n) w:=fun M cx cy hx hy d w=>by
    rw[hx.i_inv,hy.i_inv,←dec_z];simp[Op.equalIn,run_underlying (T.isInt hs)]<;>rfl
   cases hz:N2 m n<;>rw[hz]at key h2<;>exact⟨_,h2,key⟩
 · rename_i a b
   have key:∀m cx cy,VR m (.s a) cx→VR m (.s b) cy→∀d w,(Op.equalIn (d+1) ty cx cy).run P w=.ok (Dg a b) w:=fun m cx cy hx hy d w=>by
    obtain⟨p,rfl,rfl⟩:=hx.s_inv
    obtain⟨q,rfl,rfl⟩:=hy.s_inv
    rw[←strEq,GV.beqS]
    have:=run_equalIn_string w d ty p q (T.isStr hs)
    rw[GV.beqS]at this
    exact this
   cases hz:Dg a b<;>rw[hz]at key h<;>exact⟨_,h,key⟩
 · exact⟨_,h,fun m cx cy hx hy d w=>by rw[hx.sl0_inv,hy.sl0_inv];simp[Op.equalIn,run_underlying (T.isSlice hs)]⟩
 · exact⟨_,h,fun m cx cy hx hy d w=>by
    obtain⟨l,c,a,_,rfl,_⟩:=hy.sl_any
    rw[hx.sl0_inv];simp[Op.equalIn,run_underlying (T.isSlice hs)]⟩
 · exact⟨_,h,fun m cx cy hx hy d w=>by
    obtain⟨l,c,a,_,rfl,_⟩:=hx.sl_any
    rw[hy.sl0_inv];simp[Op.equalIn,run_underlying (T.isSlice hs)]⟩
 · cases h
theorem eqPt {ty e:Nat} (hG:GOK P g) (he:T.get none g.pt (Ay (ty+1))=some e) {m:Mp} {a:Pos} {p q:Nat} {cx cy:Value} (hx:VR m (.p a p) cx) (hy:VR m (.p a q) cy) (d:Nat) (w:World) :
 (Op.equalIn (d+1) ty cx cy).run P w=.ok (decide (p=q)) w:=by
 obtain⟨hu,i,hi,hz⟩:=hG.pt _ _ he
 obtain⟨l,hl,rfl⟩:=hx.p_inv
 obtain⟨l',hl',rfl⟩:=hy.p_inv
 rw[hl]at hl';cases hl'
 have hsz:(sizeOf e).run P w=.ok i.size w:=by simp[sizeOf,typeInfo,hi]
 simp only[Op.equalIn,Sem.run_bind,run_underlying hu,Bn,hsz,if_pos hz,sameAddr,beq_self_eq_true,if_true,Sem.run_pure]
 have:(({block:=l.blk,off:=l.base+p,spot:=none}:Addr)=={block:=l.blk,off:=l.base+q,spot:=none})=decide (p=q):=by
  by_cases hpq:p=q
  · subst hpq;simp
  · have:¬l.base+p=l.base+q:=by omega
    simp[hpq]
 simp[this]
theorem eq1_ok (hG:GOK P g) {ty:Nat} {x y:AV} {k:Bool→Bool} (h:eq1 g ty x y k=true) :
 ∃r,k r=true∧∀m cx cy,VR m x cx→VR m y cy→∀d w,(Op.equalIn (d+1) ty cx cy).run P w=.ok r w:=by
 unfold eq1 at h
 split at h
 · obtain⟨h,e,he⟩:=Pz h
   refine⟨_,h,fun m cx cy hx hy d w=>?_⟩
   rw[hx.p0_inv,hy.p0_inv]
   simp[Op.equalIn,run_underlying (hG.pt _ _ he).1]
 · obtain⟨h,e,he⟩:=Pz h
   refine⟨_,h,fun m cx cy hx hy d w=>?_⟩
   obtain⟨l,_,rfl⟩:=hy.p_inv
   rw[hx.p0_inv]
   simp[Op.equalIn,run_underlying (hG.pt _ _ he).1]
 · obtain⟨h,e,he⟩:=Pz h
   refine⟨_,h,fun m cx cy hx hy d w=>?_⟩
   obtain⟨l,_,rfl⟩:=hx.p_inv
   rw[hy.p0_inv]
   simp[Op.equalIn,run_underlying (hG.pt _ _ he).1]
 · rename_i a p b q
   obtain⟨h1,e,he⟩:=Pz h
   obtain⟨h2,h3⟩:=Cm h1
   have hab:=(Jv a b).1 h2
   subst hab
   cases hb:Nat.beq p q with
   |true=>
    rw[hb]at h3
    have hpq:=Ck hb
    exact⟨_,h3,fun m cx cy hx hy d w=>by rw[eqPt hG he hx hy d w];simp[hpq]⟩
   |false=>
    rw[hb]at h3
    have hne:¬p=q:=fun c=>by subst c;rw[Nat.beq_refl]at hb;cases hb
    exact⟨_,h3,fun m cx cy hx hy d w=>by rw[eqPt hG he hx hy d w];simp[hne]⟩
 · obtain⟨ti,hti,h⟩:=B1 h
   exact eq2_ok (hG.ty _ _ hti) rfl h
theorem eqFs_ok (hG:GOK P g) {xs ys:List AV}:∀ {fs:List Field} {k:Bool→Bool},(∀f∈fs,f.name ≠ "_") →
 eqFs g (fs.map fun f=>(f.offset,f.type)) xs ys k=true →
 ∃r,k r=true∧∀m (cx cy:Array Value),VL m xs cx.toList→VL m ys cy.toList→∀d w,(Op.eqFields (d+1) cx cy fs).run P w=.ok r w
 |[],k,_,h=>⟨true,h,fun m cx cy _ _ d w=>by simp[Op.eqFields]⟩
 |f::r,k,hn,h=>by
  obtain⟨ti,hti',h0⟩:=B1 (k:=fun tf=>fB tf.agg false (match xs[f.offset]?,ys[f.offset]? with
   |some x,some y=>eq1 g f.type x y fun b=>fB b (eqFs g (r.map fun f=>(f.offset,f.type)) xs ys k) (k false)
   |_,_=>false)) h
  have hti:=hG.ty _ _ hti'
  obtain⟨hag,h'⟩:=Jg h0
  split at h'
  · rename_i x y hx hy
    obtain⟨b,h1,h2⟩:=eq1_ok hG h'
    have part_run:∀(l:List AV) (c:Array Value) (m:Mp) (a:AV),VL m l c.toList→l[f.offset]?=some a→∃v,VR m a v∧∀w,(part f.type c f.offset).run P w=.ok v w:=fun l c m a hl ha=>by
     obtain⟨v,hv1,hv2⟩:=hl.get ha
     refine⟨v,hv2,fun w=>?_⟩
     have:c[f.offset]?=some v:=by simpa using hv1
     rw[GV.run_part (C:=⟨P,none,0⟩) hti,hag,this];rfl
    have hnm:=hn f (Aw ..)
    cases b with
    |false=>
     refine⟨false,h1,fun m cx cy hX hY d w=>?_⟩
     obtain⟨vx,a1,a2⟩:=part_run xs cx m x hX hx
     obtain⟨vy,b1,b2⟩:=part_run ys cy m y hY hy
     simp only[Op.eqFields]
     rw[if_pos hnm]
     simp only[Sem.run_bind,a2,Bn,b2,h2 m vx vy a1 b1 d w]
     simp
    |true=>
     obtain⟨b',h3,h4⟩:=eqFs_ok hG (fs:=r) (fun f hf=>hn f (Am _ hf)) h1
     refine⟨b',h3,fun m cx cy hX hY d w=>?_⟩
     obtain⟨vx,a1,a2⟩:=part_run xs cx m x hX hx
     obtain⟨vy,b1,b2⟩:=part_run ys cy m y hY hy
     simp only[Op.eqFields]
     rw[if_pos hnm]
     simp only[Sem.run_bind,a2,Bn,b2,h2 m vx vy a1 b1 d w]
     simpa using h4 m cx cy hX hY d w
  · cases h'
theorem ngK_inv {ng r:Bool} {k:AV→Bool} (h:ngK ng r k=true):k (.b (ng ^^ r))=true:=by cases ng<;>cases r<;>exact h
def Wg (ng:Bool):BinOp:=match ng with
 |true=>.neq
 |false=>.eql
def isPl (v:Value):Prop:=(∃b,v=.bool b)∨(∃a,v=.pointer a)∨∃a n c,v=.slice a n c
theorem isPl_of {m:Mp} {a:AV} {v:Value} (h:plA a=true) (hv:VR m a v):isPl v:=by
 cases hv<;>first|exact .inl ⟨_,rfl⟩|exact .inr (.inl ⟨_,rfl⟩)|exact .inr (.inr ⟨_,_,_,rfl⟩)|cases h
theorem oEq_ok (hG:GOK P g) {ng:Bool} {ty:Nat} {a b:AV} (h:oEq g ng ty a b k=true) :
 ∃v,k v=true∧∀m cx cy,VR m a cx→VR m b cy→∃cv,VR m v cv∧∀x y w,(do eqGuard (Wg ng) ty x y cx cy;binOp (Wg ng) ty cx cy:Sem Value).run P w=.ok cv w:=by
 unfold oEq at h
 split at h
 · rename_i xs ys
   rw[Db]at h
   split at h
   · rename_i u hu
     obtain⟨ti,hti,h⟩:=B1 h
     split at h
     · rename_i fs hs
       obtain⟨fds,h1,h2⟩:=(hG.ty _ _ hti).isStrct hs
       obtain⟨c1,c2,c3⟩:=hG.cm _ _ hu
       obtain⟨hu',hfd⟩:=GV.und_fieldsOf h1
       rw[hfd]at c3
       rw[←h2]at h
       obtain⟨r,h3,h4⟩:=eqFs_ok hG (fun f hf=>by have:=List.all_eq_true.1 c3 f hf;simpa using this) h
       refine⟨_,ngK_inv h3,fun m cx cy hx hy=>?_⟩
       obtain⟨vx,rfl,lx⟩:=hx.ag_inv
       obtain⟨vy,rfl,ly⟩:=hy.ag_inv
       refine⟨_,.b _,fun x y w=>?_⟩
       have main:(Op.equalIn 10000 ty (.agg vx) (.agg vy)).run P w=.ok r w:=by
        rw[run_equalIn_struct w 9999 ty _ _ hu' c1,hfd]
        exact h4 m vx vy lx ly 9998 w
       simp only[Sem.run_bind,run_eqGuard_agg w (Wg ng) ty x y vx vy c2,Bn]
       cases ng
       · simp only[Wg];rw[run_eql_struct w ty vx vy,main];simp
       · simp only[Wg,binOp];simp[Op.equal,Op.maxDepth,main]
     · cases h
   · cases h
 · obtain⟨p1,h1⟩:=Cm h
   obtain⟨p2,h2⟩:=Cm h1
   obtain⟨r,h3,h4⟩:=eq1_ok hG h2
   refine⟨_,ngK_inv h3,fun m cx cy hx hy=>⟨_,.b _,fun x y w=>?_⟩⟩
   have main:(Op.equal ty cx cy).run P w=.ok r w:=h4 m cx cy hx hy 9999 w
   have q1:=isPl_of p1 hx
   have q2:=isPl_of p2 hy
   have e1:(eqGuard (Wg ng) ty x y cx cy).run P w=.ok () w:=by
    rcases q1 with⟨_,rfl⟩|⟨_,rfl⟩|⟨_,_,_,rfl⟩<;>rcases q2 with⟨_,rfl⟩|⟨_,rfl⟩|⟨_,_,_,rfl⟩<;>(unfold eqGuard;cases ng<;>simp[Wg])
   have e2:(binOp (Wg ng) ty cx cy).run P w=.ok (.bool (ng ^^ r)) w:=by
    rcases q1 with⟨_,rfl⟩|⟨_,rfl⟩|⟨_,_,_,rfl⟩<;>rcases q2 with⟨_,rfl⟩|⟨_,rfl⟩|⟨_,_,_,rfl⟩<;>cases ng<;>simp[Wg,binOp,main]
   simp only[Sem.run_bind,e1,Bn,e2]
theorem ex_of {op:BinOp} {p q:List Nat} (h:Qp op p q k=true):∃v,k v=true:=by
 cases op<;>simp only[Qp,H4,appK_eq,fBK]at h
 case add=>exact⟨_,(Cm h).2⟩
 case eql=>rcases C6 h with⟨_,h⟩|⟨_,h⟩<;>exact⟨_,h⟩
 case neq=>rcases C6 h with⟨_,h⟩|⟨_,h⟩<;>exact⟨_,h⟩
 all_goals cases h
theorem bin_ok (hG:GOK P g) {op:BinOp} {ty yt:Nat} {x y:Operand} (ho:o.op=.binOp op ty x y yt) (h:oBin g op ty x y t k=true):∃v,k v=true∧Kg P o t v:=by
 unfold oBin at h
 rw[Cg]at h
 simp only[Cg]at h
 have shift:∀op,(op=.shl∨op=.shr)→o.op=.binOp op ty x y yt→asI (Xo t x) (fun kd m=>asI (Xo t y) fun _ n=>Y0 op kd m n k)=true→∃v,k v=true∧Kg P o t v:=fun op hop ho h=>by
  obtain⟨kd,p,h1,h⟩:=Nz h
  obtain⟨kb,q,h2,h⟩:=Nz h
  obtain⟨v,h3,cv,h5,h6⟩:=shift_ok (P:=P) hop h
  refine⟨v,h3,fun m N a T=>?_⟩
  have e1:=(h1▸A7 T x:VR m (.i kd p) _).i_inv
  have e2:=(h2▸A7 T y:VR m (.i kb q) _).i_inv
  refine⟨cv,h5 m,fun w=>?_⟩
  simp only[execOp,ho,e1,e2,Sem.run_bind,Xz,Bn,h6]
  simp
 have rest:∀op,o.op=.binOp op ty x y yt→(match Xo t x,Xo t y with
  |.i c m,.i d n=>fB (kEq c d) (Z8 op c m n k) false
  |.s m,.s n=>Qp op m n k
  |a,b=>(match op with
   |.eql=>oEq g false ty a b k
   |.neq=>oEq g true ty a b k
   |_=>false))=true→∃v,k v=true∧Kg P o t v:=fun op ho h=>by
  split at h
  · rename_i c p d q h1 h2
    obtain⟨hk,hq⟩:=Cm h
    have hcd:=Z4 hk
    subst hcd
    obtain⟨v,h3,cv,h5,h6⟩:=intBin_ok (P:=P) hq
    refine⟨v,h3,fun m N a T=>?_⟩
    have e1:=(h1▸A7 T x:VR m (.i c p) _).i_inv
    have e2:=(h2▸A7 T y:VR m (.i c q) _).i_inv
    refine⟨cv,h5 m,fun w=>?_⟩
    simp only[execOp,ho,e1,e2,Sem.run_bind,Xz,Bn,h6]
    simp
  · rename_i p q h1 h2
    by_cases hex:∃b c,Ep b=p∧Ep c=q
    · obtain⟨b,c,rfl,rfl⟩:=hex
      obtain⟨v,h3,cv,h5,h6⟩:=strBin_ok (P:=P) h
      refine⟨v,h3,fun m N a T=>?_⟩
      obtain⟨b',e1,f1⟩:=(h1▸A7 T x:VR m (.s (Ep b)) _).s_inv
      obtain⟨c',e2,f2⟩:=(h2▸A7 T y:VR m (.s (Ep c)) _).s_inv
      rw[Mf f1]at e1
      rw[Mf f2]at e2
      refine⟨cv,h5 m,fun w=>?_⟩
      simp only[execOp,ho,e1,e2,Sem.run_bind,guard_str,Bn,h6]
      simp
    · obtain⟨v,hv⟩:=ex_of h
      refine⟨v,hv,fun m N a T=>?_⟩
      obtain⟨b',e1,f1⟩:=(h1▸A7 T x:VR m (.s p) _).s_inv
      obtain⟨c',e2,f2⟩:=(h2▸A7 T y:VR m (.s q) _).s_inv
      exact absurd ⟨b',c',f1,f2⟩ hex
  · rename_i hx hy
    have go:∀ng,oEq g ng ty (Xo t x) (Xo t y) k=true→op=Wg ng→∃v,k v=true∧Kg P o t v:=fun ng h e=>by
     obtain⟨v,h3,h4⟩:=oEq_ok hG h
     refine⟨v,h3,fun m N a T=>?_⟩
     obtain⟨cv,h5,h6⟩:=h4 m _ _ (A7 T x) (A7 T y)
     refine⟨cv,h5,fun w=>?_⟩
     have:=h6 x y w
     subst e
     simp only[execOp,ho,Sem.run_bind]at this ⊢
     rw[this]
     simp
    split at h
    · exact go false h rfl
    · exact go true h rfl
    · cases h
 cases op
 case shl=>exact shift .shl (.inl rfl) ho h
 case shr=>exact shift .shr (.inr rfl) ho h
 all_goals exact rest _ ho h
def Bnd (t:T AV) (o:Option Operand) (d n:Nat):Prop:=(o=none∧n=d)∨∃x kd,o=some x∧Xo t x=.i kd (.ofNat n)
theorem I8 {o:Option Operand} {d:Nat} {k:Nat→Bool} (h:bnd t o d k=true):∃n,Bnd t o d n∧k n=true:=by
 unfold bnd at h
 split at h
 · exact⟨d,.inl ⟨rfl,rfl⟩,h⟩
 · rename_i x
   rw[Cg]at h
   obtain⟨kd,n,h1,h2⟩:=Lw h
   exact⟨n,.inr ⟨x,kd,rfl,h1⟩,h2⟩
theorem Gs {m:Mp} {N:Nat} {a:Act} (T:TR m N t a.tmps) {x:Operand} {kd:IntKind} {n y:Nat} (h:Xo t x=.i kd (.ofNat n)) (hy:n≤y) (code:BoundsCode) (w:World) :
 (Instr.sliceBound (a.eval x) y code).run P w=.ok n w:=by
 have e:=(h▸A7 T x:VR m (.i kd (.ofNat n)) _).i_inv
 have h1:(0:Int)≤Int.ofNat n∧Int.ofNat n≤(y:Int):=⟨Fw n,by exact Int.ofNat_le.2 hy⟩
 simp only[Instr.sliceBound,e,asIntOf,Sem.run_bind,Sem.run_pure,Bn,if_pos h1]
 rfl
theorem It {m:Mp} {N:Nat} {a:Act} (T:TR m N t a.tmps) {lo hi:Option Operand} {l h n c:Nat} (f:Bool) (h1:Bnd t lo 0 l) (h2:Bnd t hi n h) (hlh:l≤h) (hc:h≤c) (w:World) :
 (Instr.sliceBounds f n c (lo.map a.eval) (hi.map a.eval) none).run P w=.ok (l,h,c) w:=by
 unfold Instr.sliceBounds
 rcases h1 with⟨rfl,rfl⟩|⟨x,kd,rfl,e1⟩<;>rcases h2 with⟨rfl,rfl⟩|⟨y,kd',rfl,e2⟩
 · simp
 · simp[Gs T e2 hc]
 · simp[Gs T e1 hlh]
 · simp[Gs T e2 hc,Gs T e1 hlh]
theorem Rw {m:Mp} {N:Nat} {a:Act} (T:TR m N t a.tmps) {lo hi:Option Operand} {l h n c:Nat} {mx:Operand} {q:Nat} {kd:IntKind} (hm:Xo t mx=.i kd (.ofNat q)) (hq:q≤c) (hhi:hi.isSome=true)
 (h1:Bnd t lo 0 l) (h2:Bnd t hi n h) (hlh:l≤h) (hc:h≤q) (w:World) :
 (Instr.sliceBounds true n c (lo.map a.eval) (hi.map a.eval) (some (a.eval mx))).run P w=.ok (l,h,q) w:=by
 unfold Instr.sliceBounds
 rcases h2 with⟨rfl,rfl⟩|⟨y,kd',rfl,e2⟩
 · cases hhi
 rcases h1 with⟨rfl,rfl⟩|⟨x,kd,rfl,e1⟩
 · simp[Gs T hm hq,Gs T e2 hc]
 · simp[Gs T hm hq,Gs T e2 hc,Gs T e1 hlh]
theorem Yw (s:ByteArray) (a b:Nat):Ep (s.extract a b)=((Ep s).drop a).take (b-a):=by
 rw[Fp,Fp]
 have:(s.extract a b).data=s.data.extract a b:=by simp
 rw[this]
 simp[List.map_take,List.map_drop]
theorem slice_ok (hG:GOK P g) {s:Nat} {x:Operand} {lo hi mx:Option Operand} (ho:o.op=.slice s x lo hi mx) (hmx:mx.isSome=true→hi.isSome=true) (h:oSlice g s x lo hi mx t k=true):∃v,k v=true∧Kg P o t v:=by
 unfold oSlice at h
 obtain⟨ti,hti,h⟩:=B1 h
 rw[Cg]at h
 have TI:=hG.ty _ _ hti
 split at h
 · rename_i l hs hv
   split at h
   · obtain⟨a,ha,h⟩:=I8 h
     rw[H4]at h
     obtain⟨b,hb,h⟩:=I8 h
     obtain⟨h1,h⟩:=Cm h
     obtain⟨h2,h⟩:=Cm h
     rw[dropK_eq,takeK_eq]at h
     have hab:=Aa h1
     have hbn:=Aa h2
     refine⟨_,h,fun m N A T=>?_⟩
     obtain⟨bs,he,hbs⟩:=(hv▸A7 T x:VR m (.s l) _).s_inv
     subst hbs
     rw[Ei]at hb hbn
     have hu:=TI.isStr hs
     refine⟨.string (bs.extract a b),?_,fun w=>?_⟩
     · show VR m (.s (List.take (b-a) (List.drop a (Ep bs)))) _
       rw[←Yw];exact .s _
     · simp only[execOp,ho,he,Instr.sliceAt,Sem.run_bind,run_underlying hu,Bn,Option.map_none,Instr.slice]
       simp[It (P:=P) T false ha hb hab hbn]
   · cases h
 · rename_i e hs hv
   obtain⟨te,hte,h⟩:=B1 h
   obtain⟨a,ha,h⟩:=I8 h
   obtain⟨b,hb,h⟩:=I8 h
   split at h
   · obtain⟨h1,h⟩:=Cm h
     obtain⟨h2,h⟩:=Cm h
     have ea:=Ck h1
     have eb:=Ck h2
     refine⟨_,h,fun m N A T=>⟨_,.sl0,fun w=>?_⟩⟩
     have he:=(hv▸A7 T x:VR m .sl0 _).sl0_inv
     have hu:=TI.isSlice hs
     rw[ea]at ha
     rw[eb]at hb
     simp only[execOp,ho,he,Instr.sliceAt,Sem.run_bind,run_underlying hu,Bn,Option.map_none,Instr.slice]
     simp[It (P:=P) T true ha hb (Ag 0) (Ag 0),GV.run_sizeOf w (hG.ty _ _ hte)]
   · cases h
 · rename_i e id off n es hs hv
   obtain⟨te,hte,h⟩:=B1 h
   obtain⟨a,ha,h⟩:=I8 h
   obtain⟨b,hb,h⟩:=I8 h
   obtain⟨h1,h⟩:=Cm h
   have hab:=Aa h1
   have hu:=TI.isSlice hs
   split at h
   · unfold slU at h
     obtain⟨h2,h⟩:=Cm h
     obtain⟨h3,h⟩:=Cm h
     simp only[F6]at h
     have hbn:=Aa h2
     have hes:=Ck h3
     refine⟨_,h,fun m N A T=>?_⟩
     obtain⟨lc,hl,hc⟩:=(hv▸A7 T x:VR m (.sl id off n (.u es)) _).slu_inv
     rcases hc with⟨c,he,hnc,hsz⟩|⟨hn0,ad,he⟩
     · have run:∀w,(execOp A.eval o).run P w=.ok (.value (.slice (if c=a then some ⟨lc.blk,lc.base+off,none⟩else(some (Addr.mk lc.blk (lc.base+off) none)).map (·.add (a*te.sz))) (b-a) (c-a))) w:=fun w=>by
        simp only[execOp,ho,he,Instr.sliceAt,Sem.run_bind,run_underlying hu,Bn,Option.map_none,Instr.slice]
        simp[It (P:=P) T true ha hb hab (Cr hbn hnc),GV.run_sizeOf w (hG.ty _ _ hte)]
       refine⟨_,?_,run⟩
       show VR m (.sl id (off+a*te.sz) (b-a) (.u es)) _
       by_cases hca:c=a
       · rw[if_pos hca]
         have e1:b-a=0:=by omega
         have e2:c-a=0:=by omega
         rw[e1,e2];exact .slz _ _ _ hl
       · rw[if_neg hca]
         simp only[Ig,Ey]
         rw[Er]
         refine .slu _ _ _ _ hl (by omega) ?_
         have hac:a≤c:=by omega
         have:a*te.sz+(c-a) * es=c*es:=by rw[←hes,←Nat.add_mul];congr 1;omega
         omega
     · subst hn0
       have hb0:b=0:=by omega
       have ha0:a=0:=by omega
       refine⟨.slice (some ad) 0 0,?_,fun w=>?_⟩
       · show VR m (.sl id (off+a*te.sz) (b-a) (.u es)) _
         have e1:b-a=0:=by omega
         rw[e1];exact .slz _ _ _ hl
       · rw[ha0]at ha
         rw[hb0]at hb
         simp only[execOp,ho,he,Instr.sliceAt,Sem.run_bind,run_underlying hu,Bn,Option.map_none,Instr.slice]
         simp[It (P:=P) T true ha hb (Ag 0) (Ag 0),GV.run_sizeOf w (hG.ty _ _ hte)]
   · rename_i mo
     rw[Cg]at h
     obtain⟨kd,q,hq,h⟩:=Lw h
     obtain⟨h2,h⟩:=Cm h
     obtain⟨h3,h⟩:=Jg h
     unfold slK at h
     obtain⟨h4,h⟩:=Cm h
     simp only[F6]at h
     have hqn:=Aa h2
     have hbq:=Aa h4
     have hn0:n≠0:=fun c=>by rw[c]at h3;cases h3
     refine⟨_,h,fun m N A T=>?_⟩
     obtain⟨lc,hl,hc⟩:=(hv▸A7 T x:VR m (.sl id off n (.u es)) _).slu_inv
     rcases hc with⟨c,he,hnc,hsz⟩|⟨hn0',_⟩
     · have run:∀w,(execOp A.eval o).run P w=.ok (.value (.slice (if q=a then some ⟨lc.blk,lc.base+off,none⟩else(some (Addr.mk lc.blk (lc.base+off) none)).map (·.add (a*te.sz))) (b-a) (q-a))) w:=fun w=>by
        simp only[execOp,ho,he,Instr.sliceAt,Sem.run_bind,run_underlying hu,Bn,Ig,Instr.slice]
        simp[Rw (P:=P) T hq (Cr hqn hnc) (hmx rfl) ha hb hab hbq,GV.run_sizeOf w (hG.ty _ _ hte)]
       refine⟨_,?_,run⟩
       show VR m (.sl id (fB (Nat.beq a q) off (off+a*te.sz)) (b-a) (.k (q-a))) _
       by_cases hca:q=a
       · rw[if_pos hca,hca,Nat.beq_refl];exact .slk _ _ _ hl
       · rw[if_neg hca]
         have:Nat.beq a q=false:=by cases hb':Nat.beq a q with
          |false=>rfl
          |true=>exact absurd (Ck hb').symm hca
         rw[this]
         simp only[Ig,Ey]
         rw[Er];exact .slk _ _ _ hl
     · exact absurd hn0' hn0
 · rename_i e id off n c hs hv
   obtain⟨te,hte,h⟩:=B1 h
   obtain⟨a,ha,h⟩:=I8 h
   obtain⟨b,hb,h⟩:=I8 h
   obtain⟨h1,h⟩:=Cm h
   have hab:=Aa h1
   have hu:=TI.isSlice hs
   split at h
   · unfold slK at h
     obtain⟨h4,h⟩:=Cm h
     simp only[F6]at h
     have hbq:=Aa h4
     refine⟨_,h,fun m N A T=>?_⟩
     obtain⟨lc,hl,he⟩:=(hv▸A7 T x:VR m (.sl id off n (.k c)) _).slk_inv
     have run:∀w,(execOp A.eval o).run P w=.ok (.value (.slice (if c=a then some ⟨lc.blk,lc.base+off,none⟩else(some (Addr.mk lc.blk (lc.base+off) none)).map (·.add (a*te.sz))) (b-a) (c-a))) w:=fun w=>by
      simp only[execOp,ho,he,Instr.sliceAt,Sem.run_bind,run_underlying hu,Bn,Option.map_none,Instr.slice]
      simp[It (P:=P) T true ha hb hab hbq,GV.run_sizeOf w (hG.ty _ _ hte)]
     refine⟨_,?_,run⟩
     show VR m (.sl id (fB (Nat.beq a c) off (off+a*te.sz)) (b-a) (.k (c-a))) _
     by_cases hca:c=a
     · rw[if_pos hca,hca,Nat.beq_refl];exact .slk _ _ _ hl
     · rw[if_neg hca]
       have:Nat.beq a c=false:=by cases hb':Nat.beq a c with
        |false=>rfl
        |true=>exact absurd (Ck hb').symm hca
       rw[this]
       simp only[Ig,Ey]
       rw[Er];exact .slk _ _ _ hl
   · rename_i mo
     rw[Cg]at h
     obtain⟨kd,q,hq,h⟩:=Lw h
     obtain⟨h2,h⟩:=Cm h
     unfold slK at h
     obtain⟨h4,h⟩:=Cm h
     simp only[F6]at h
     have hqn:=Aa h2
     have hbq:=Aa h4
     refine⟨_,h,fun m N A T=>?_⟩
     obtain⟨lc,hl,he⟩:=(hv▸A7 T x:VR m (.sl id off n (.k c)) _).slk_inv
     have run:∀w,(execOp A.eval o).run P w=.ok (.value (.slice (if q=a then some ⟨lc.blk,lc.base+off,none⟩else(some (Addr.mk lc.blk (lc.base+off) none)).map (·.add (a*te.sz))) (b-a) (q-a))) w:=fun w=>by
      simp only[execOp,ho,he,Instr.sliceAt,Sem.run_bind,run_underlying hu,Bn,Ig,Instr.slice]
      simp[Rw (P:=P) T hq hqn (hmx rfl) ha hb hab hbq,GV.run_sizeOf w (hG.ty _ _ hte)]
     refine⟨_,?_,run⟩
     show VR m (.sl id (fB (Nat.beq a q) off (off+a*te.sz)) (b-a) (.k (q-a))) _
     by_cases hca:q=a
     · rw[if_pos hca,hca,Nat.beq_refl];exact .slk _ _ _ hl
     · rw[if_neg hca]
       have:Nat.beq a q=false:=by cases hb':Nat.beq a q with
        |false=>rfl
        |true=>exact absurd (Ck hb').symm hca
       rw[this]
       simp only[Ig,Ey]
       rw[Er];exact .slk _ _ _ hl
 · rename_i n e id off hs hv
   obtain⟨te,hte,h⟩:=B1 h
   split at h
   · obtain⟨a,ha,h⟩:=I8 h
     obtain⟨b,hb,h⟩:=I8 h
     obtain⟨h1,h⟩:=Cm h
     have hab:=Aa h1
     unfold slK at h
     obtain⟨h4,h⟩:=Cm h
     simp only[F6]at h
     have hbq:=Aa h4
     obtain⟨d,hd1,hd2⟩:=TI.und
     rw[hs]at hd2
     obtain rfl:d=.array n e:=hd2
     refine⟨_,h,fun m N A T=>?_⟩
     obtain⟨lc,hl,he⟩:=(hv▸A7 T x:VR m (.p id off) _).p_inv
     have run:∀w,(execOp A.eval o).run P w=.ok (.value (.slice (some (if n=a then⟨lc.blk,lc.base+off,none⟩else(Addr.mk lc.blk (lc.base+off) none).add (a*te.sz))) (b-a) (n-a))) w:=fun w=>by
      simp only[execOp,ho,he,Instr.sliceAt,Sem.run_bind,run_underlying hd1,Bn,Option.map_none,Instr.sureAddr,Sem.run_pure]
      simp[It (P:=P) T false ha hb hab hbq,GV.run_sizeOf w (hG.ty _ _ hte)]
     refine⟨_,?_,run⟩
     show VR m (.sl id (fB (Nat.beq a n) off (off+a*te.sz)) (b-a) (.k (n-a))) _
     by_cases hca:n=a
     · rw[if_pos hca,hca,Nat.beq_refl];exact .slk _ _ _ hl
     · rw[if_neg hca]
       have:Nat.beq a n=false:=by cases hb':Nat.beq a n with
        |false=>rfl
        |true=>exact absurd (Ck hb').symm hca
       rw[this]
       simp only[Ey]
       rw[Er];exact .slk _ _ _ hl
   · cases h
 · cases h
theorem O0 {v:AV} {k:List AV→Bool} (h:Rm v k=true):∃vs,k vs=true∧∀m cv,VR m v cv→VL m vs cv.cells.toList:=by
 unfold Rm at h
 split at h
 · rename_i l
   refine⟨l,h,fun m cv hv=>?_⟩
   obtain⟨cs,rfl,hl⟩:=hv.ag_inv
   exact hl
 · cases h
 · cases h
 · rename_i h1 h2 h3
   refine⟨[v],h,fun m cv hv=>?_⟩
   have:cv.cells=#[cv]:=by
    cases hv<;>first|rfl|exact absurd rfl (h1 _)|exact absurd rfl h3
   rw[this]
   exact .cons hv (.nil m)
def TA (m:Mp) (n:Nat) (cs:T AV) (arr:Array Value):Prop:=arr.size=n∧Cs m n cs 0 arr
def L3:List Value→Nat→Array Value→Array Value
 |[],_,a=>a
 |w::r,off,a=>L3 r (off+1) (a.setIfInBounds off w)
theorem Ir:∀(ws:List Value) (off:Nat) (a:Array Value),(L3 ws off a).size=a.size
 |[],_,_=>rfl
 |w::r,off,a=>by simp only[L3];rw[Ir r];simp
theorem Nh:∀(ws:List Value) (off:Nat) (a:Array Value) (i:Nat),off+ws.length≤a.size→(L3 ws off a)[i]?=if off≤i∧i<off+ws.length then ws[i-off]? else a[i]?
 |[],off,a,i,_=>by simp only[L3,Dv];rw[if_neg (by omega)]
 |w::r,off,a,i,h=>by
  simp only[Cq]at h
  simp only[L3]
  rw[Nh r (off+1) _ i (by simp;omega)]
  by_cases h1:off+1≤i∧i<off+1+r.length
  · rw[if_pos h1,if_pos (by simp only[Cq];omega)]
    rw[show i-off=(i-(off+1))+1 by omega]
    simp
  · rw[if_neg h1]
    by_cases h2:i=off
    · subst h2
      rw[if_pos (by simp only[Cq];omega),M9,if_pos rfl,if_pos (by omega)]
      simp
    · rw[if_neg (by simp only[Cq];omega)]
      rw[Array.getElem?_setIfInBounds_ne (by omega)]
theorem fold_set:∀(ws:List Value) (off j:Nat) (a:Array Value),(ws.zipIdx j).foldl (fun cs (x:Value×Nat)=>cs.setIfInBounds (off+x.2) x.1) a=L3 ws (off+j) a
 |[],_,_,_=>rfl
 |w::r,off,j,a=>by
  rw[List.zipIdx_cons]
  simp only[List.foldl_cons,L3]
  rw[fold_set r off (j+1),Er]
theorem TA.write {m:Mp} {n:Nat} {cs:T AV} {arr:Array Value} (h:TA m n cs arr) {vs:List AV} {ws:List Value} (hl:VL m vs ws) {off:Nat} (ho:off+vs.length≤n):TA m n (wl vs cs off) (L3 ws off arr):=by
 have hsz:=hl.1
 refine⟨by rw[Ir];exact h.1,fun i hi=>?_⟩
 rw[Bf,Nh ws off arr i (by rw[h.1];omega),Hv]
 by_cases hc:off≤i∧i<off+vs.length
 · rw[if_pos hc,if_pos (by omega)]
   have hlt:i-off<vs.length:=by omega
   obtain⟨v,h1,h2⟩:=hl.get (i:=i-off) (a:=vs[i-off]) (by simp[hlt])
   refine⟨v,h1,?_⟩
   rw[A0,B8 hlt];exact h2
 · rw[if_neg hc,if_neg (by omega)]
   have:=h.2 i hi
   rw[Bf]at this
   exact this
theorem TA.zero {m:Mp} {l:List AV} {vs:List Value} (h:VL m l vs):TA m l.length (wl l .e 0) vs.toArray:=by
 refine⟨by simp[h.1],fun i hi=>?_⟩
 obtain⟨v,h1,h2⟩:=h.get (i:=i) (a:=l[i]) (by simp[hi])
 refine⟨v,by simpa using h1,?_⟩
 rw[Hv,if_pos ⟨B9 _,by omega⟩]
 simp[A0,hi];exact h2
theorem TA.list {m:Mp} {n:Nat} {cs:T AV} {arr:Array Value} (h:TA m n cs arr):VL m (Zd cs n 0) arr.toList:=by
 refine⟨by rw[Dj];simp[h.1],fun i a v ha hv=>?_⟩
 have hi:i<n:=by have:=(Gn.1 ha).1;rwa [Dj]at this
 rw[Pv cs n 0 i hi]at ha
 obtain⟨w,h1,h2⟩:=h.2 i hi
 rw[Bf]at h1
 have:arr[i]?=some v:=by simpa using hv
 rw[h1]at this
 cases this;cases ha
 rw[Bf];exact h2
def Aaz (P:Program) (place:Nat→(Nat→Nat→Bool)→Bool) (pl:Nat→Option (Nat×Nat)):Prop:=
 ∀i k,place i k=true→∃off sz,pl i=some (off,sz)∧k off sz=true
theorem P5 {tot:Nat} {place:Nat→(Nat→Nat→Bool)→Bool} {pl:Nat→Option (Nat×Nat)} (hp:Aaz P place pl) :
 ∀(l:List (Nat×Operand)) (cs:T AV) (k:T AV→Bool),parts tot place l t cs k=true →
 ∃cs',k cs'=true∧∀m N (a:Act) arr,TR m N t a.tmps→TA m tot cs arr→∃arr',Instr.fill pl arr (l.map fun p=>(p.1,a.eval p.2))=some arr'∧TA m tot cs' arr'
 |[],cs,k,h=>⟨cs,h,fun m N a arr _ hA=>⟨arr,rfl,hA⟩⟩
 |p::r,cs,k,h=>by
  have h':place p.1 (fun off sz=>I7 t p.2 fun v=>Rm v fun vs=>len vs fun n=>fB (Nat.beq n sz) (fB (Nat.ble (Nat.add off n) tot) (Vl vs cs off fun cs=>parts tot place r t cs k) false) false)=true:=h
  obtain⟨off,sz,h1,h2⟩:=hp _ _ h'
  rw[Cg]at h2
  obtain⟨vs,h3,h4⟩:=O0 h2
  rw[H4]at h3
  obtain⟨h5,h6⟩:=Cm h3
  obtain⟨h7,h8⟩:=Cm h6
  rw[Gy]at h8
  have hsz:=Ck h5
  have htot:=Aa h7
  obtain⟨cs',h9,h10⟩:=P5 hp r _ k h8
  refine⟨cs',h9,fun m N a arr hT hA=>?_⟩
  have hl:=h4 m _ (A7 hT p.2)
  obtain⟨arr',h11,h12⟩:=h10 m N a _ hT (hA.write hl htot)
  refine⟨arr',?_,h12⟩
  have hcs:(a.eval p.2).cells.size=sz:=by rw[←hsz,hl.1];simp
  have hge:¬((a.eval p.2).cells.size≠sz||off+(a.eval p.2).cells.size > arr.size)=true:=by
   rw[hcs,hA.1]
   have:off+sz≤tot:=by rw[←hsz];exact htot
   simp;omega
  simp only[D5,Instr.fill,h1]
  rw[if_neg hge]
  have e:(a.eval p.2).cells.zipIdx.foldl (fun cs (x:Value×Nat)=>cs.setIfInBounds (off+x.2) x.1) arr=L3 (a.eval p.2).cells.toList off arr:=by
   rw[←Array.foldl_toList,Array.toList_zipIdx,fold_set];rfl
  rw[e]
  exact h11
noncomputable def szOf (g:G) (t:Nat):Nat:=((T.get none g.ty (Ay (t+1))).map (·.sz)).getD 0
theorem Yn:∀ {l:List (Nat×Nat)},allK g l=true→∀p∈l,∃ti,T.get none g.ty (Ay (p.2+1))=some ti
 |[],_,p,hp=>by cases hp
 |x::r,h,p,hp=>by
  have h':T.getK none g.ty (Ay (x.2+1)) (fun o=>match o with
   |some _=>allK g r
   |none=>false)=true:=h
  rw[Db]at h'
  split at h'
  · rename_i ti hti
    rcases Bo.1 hp with rfl|hp
    · exact⟨ti,hti⟩
    · exact Yn h' p hp
  · cases h'
theorem Tp (hG:GOK P g) (w:World):∀(fs:List Field),(∀f∈fs,∃ti,T.get none g.ty (Ay (f.type+1))=some ti) →
 (fs.mapM fun f=>Prod.mk f.offset <$> sizeOf f.type).run P w=.ok (fs.map fun f=>(f.offset,szOf g f.type)) w
 |[],_=>by simp
 |f::r,h=>by
  obtain⟨ti,hti⟩:=h f (Aw ..)
  simp[List.mapM_cons,GV.run_sizeOf w (hG.ty _ _ hti),Tp hG w r (fun f hf=>h f (Am _ hf)),hti,szOf]
theorem build_ok (hG:GOK P g) {s:Nat} {ps:Array (Nat×Operand)} (ho:o.op=.build s ps) (h:oBuild g s ps.toList t k=true):∃v,k v=true∧Kg P o t v:=by
 unfold oBuild at h
 obtain⟨ti,hti,h⟩:=B1 h
 rw[Gy]at h
 have hT:=hG.ty _ _ hti
 have hz:=TI.zv_cells hT
 have hlen:(Vo ti.zero).length=ti.sz:=by rw[Aar];simp[hT.len]
 split at h
 · rename_i l hs
   obtain⟨hall,h⟩:=Cm h
   obtain⟨fds,hu,hmap⟩:=hT.isStrct hs
   have hall':∀f∈fds.toList,∃ti,T.get none g.ty (Ay (f.type+1))=some ti:=fun f hf=>
    Yn hall (f.offset,f.type) (by rw[←hmap];exact List.mem_map_of_mem hf)
   have hp:Aaz P (Zh g l) (fun i=>((fds.toList.map fun f=>(f.offset,szOf g f.type)).toArray)[i]?):=fun i k hk=>by
    unfold Zh at hk
    split at hk
    · rename_i off ft hf
      obtain⟨tf,htf,hk⟩:=B1 hk
      obtain⟨fs,fd,h1,h2,h3,h4⟩:=Qo hG hti hs hf
      rw[hu]at h1
      obtain rfl:fds=fs:=by simpa using h1
      refine⟨off,tf.sz,?_,hk⟩
      have h2':fds.toList[i]?=some fd:=by simpa using h2
      simp only[List.getElem?_toArray,G5,h2',Ig,h3,h4,szOf,htf]
      rfl
    · cases hk
   obtain⟨cs',h1,h2⟩:=P5 hp _ _ _ h
   rw[Ol]at h1
   refine⟨_,h1,fun m N a T=>?_⟩
   have z:=TA.zero (Oz m ti.zero)
   rw[hlen]at z
   obtain⟨arr,h3,h4⟩:=h2 m N a _ T z
   refine⟨.agg arr,?_,fun w=>?_⟩
   · have:=VR.agL h4.list;rw[Array.toArray_toList]at this;exact this
   · have hps:(ps.map fun(x:Nat×Operand)=>(x.1,a.eval x.2)).toList=ps.toList.map (fun x=>(x.1,a.eval x.2)):=by simp
     have hrp:=Tp hG w fds.toList hall'
     simp only[execOp,ho,Instr.build,Sem.run_bind,GV.run_zeroValue w hT,Bn,run_underlying hu,hz,Array.mapM_eq_mapM_toList]
     simp at h3
     simp[hrp,h3]
 · rename_i n e hs
   obtain⟨te,hte,h⟩:=B1 h
   have hp:Aaz P (Xl n te.sz) (fun i=>some (i*te.sz,te.sz)):=fun i k hk=>by
    unfold Xl at hk
    exact⟨_,_,rfl,(Jg hk).2⟩
   obtain⟨cs',h1,h2⟩:=P5 hp _ _ _ h
   rw[Ol]at h1
   obtain⟨d,hd1,hd2⟩:=hT.und
   rw[hs]at hd2
   obtain rfl:d=.array n e:=hd2
   refine⟨_,h1,fun m N a T=>?_⟩
   have z:=TA.zero (Oz m ti.zero)
   rw[hlen]at z
   obtain⟨arr,h3,h4⟩:=h2 m N a _ T z
   refine⟨.agg arr,?_,fun w=>?_⟩
   · have:=VR.agL h4.list;rw[Array.toArray_toList]at this;exact this
   · simp only[execOp,ho,Instr.build,Sem.run_bind,GV.run_zeroValue w hT,Bn,run_underlying hd1,hz,GV.run_sizeOf w (hG.ty _ _ hte)]
     simp[h3]
 · cases h
theorem minmax {m:Mp} {a b:AV} {f:Int→Int→Bool} (h:(asI a fun c p=>asI b fun d q=>fB (kEq c d) (fB (f p q) (k (.i c p)) (k (.i c q))) false)=true) :
 ∃c p q,a=.i c p∧b=.i c q∧k (.i c (if f p q=true then p else q))=true:=by
 obtain⟨c,p,h1,h⟩:=Nz h
 obtain⟨d,q,h2,h⟩:=Nz h
 obtain⟨h3,hq⟩:=Cm h
 have hcd:=Z4 h3
 subst hcd
 refine⟨c,p,q,h1,h2,?_⟩
 rw[fB_eq]at hq
 split at hq
 · rename_i e;rw[if_pos e];exact hq
 · rename_i e;rw[if_neg e];exact hq
theorem V0 (A:Array TypeId) (ty:TypeId) (a:Addr) (n c:Nat) (hc:c≠0) (w:World):(Builtin.unsafeSliceData_ A ty #[.slice (some a) n c]).run P w=.ok (.pointer (some a)) w:=by
 show Sem.run P (if c≠0 then _ else _) w=_
 rw[if_pos hc];rfl
theorem blt_ok (hG:GOK P g) {c:Call} {b:Builtin} (ho:o.op=.call c) (hc:c.callee=.builtin b) (h:blt g b c.argTypes.toList c.args.toList t k=true):∃v,k v=true∧Kg P o t v:=by
 unfold blt at h
 split at h
 · rename_i x hx
   have hargs:c.args=#[x]:=by cases hca:c.args with|mk l=>rw[hca]at hx;simp at hx;rw[hx]
   split at h
   · split at h
     · rename_i ty r hty
       have hat:c.argTypes[0]?=some ty:=by cases hca:c.argTypes with|mk l=>rw[hca]at hty;simp at hty;simp[hty]
       obtain⟨ti,hti,h⟩:=B1 h
       rw[Cg]at h
       split at h
       · rename_i e hs
         have hu:=(hG.ty _ _ hti).isSlice hs
         unfold oCap at h
         split at h
         · rename_i hv
           refine⟨_,h,fun m N a T=>⟨_,.i _ _,fun w=>?_⟩⟩
           have e:=(hv▸A7 T x:VR m .sl0 _).sl0_inv
           simp[execOp,ho,resolve,hc,hargs,invoke,builtin,Builtin.cap_,hat,run_underlying hu,e,goInt]
         · rename_i id off n cp hv
           refine⟨_,h,fun m N a T=>⟨_,.i _ _,fun w=>?_⟩⟩
           obtain⟨l,hl,e⟩:=(hv▸A7 T x:VR m (.sl id off n (.k cp)) _).slk_inv
           simp[execOp,ho,resolve,hc,hargs,invoke,builtin,Builtin.cap_,hat,run_underlying hu,e,goInt]
         · cases h
       · cases h
     · cases h
   · rw[Cg]at h
     split at h
     · rename_i id off n es hv
       obtain⟨h0,h⟩:=Jg h
       refine⟨_,h,fun m N a T=>?_⟩
       obtain⟨l,hl,hcase⟩:=(hv▸A7 T x:VR m (.sl id off n (.u es)) _).slu_inv
       have hn0:n≠0:=fun c=>by rw[c]at h0;cases h0
       rcases hcase with⟨cc,e,hnc,_⟩|⟨c0,_⟩
       · have:cc≠0:=by omega
         exact⟨_,.p (l:=l) off hl,fun w=>by simp[execOp,ho,resolve,hc,hargs,invoke,builtin,e,V0,this]⟩
       · exact absurd c0 hn0
     · cases h
   · cases h
 · rename_i x y hx
   have hargs:c.args=#[x,y]:=by cases hca:c.args with|mk l=>rw[hca]at hx;simp at hx;rw[hx]
   split at h
   · rw[Cg,Cg]at h
     obtain⟨c',p,q,h1,h2,h3⟩:=minmax (m:=fun _=>none) (f:=K0) h
     refine⟨_,h3,fun m N a T=>⟨_,.i _ _,fun w=>?_⟩⟩
     have e1:=(h1▸A7 T x:VR m (.i c' p) _).i_inv
     have e2:=(h2▸A7 T y:VR m (.i c' q) _).i_inv
     have:(if q<p then q else p)=if K0 p q=true then p else q:=by
      cases hz:K0 p q with
      |true=>have:=(I3 p q).1 hz;rw[if_neg (by omega)];rfl
      |false=>have:=(Nf p q).1 hz;rw[if_pos this];rfl
     simp[execOp,ho,resolve,hc,hargs,invoke,builtin,Builtin.min_,Builtin.min2,e1,e2,this]
   · rw[Cg,Cg]at h
     obtain⟨c',p,q,h1,h2,h3⟩:=minmax (m:=fun _=>none) (f:=fun p q=>K0 q p) h
     refine⟨_,h3,fun m N a T=>⟨_,.i _ _,fun w=>?_⟩⟩
     have e1:=(h1▸A7 T x:VR m (.i c' p) _).i_inv
     have e2:=(h2▸A7 T y:VR m (.i c' q) _).i_inv
     have:(if q > p then q else p)=if K0 q p=true then p else q:=by
      cases hz:K0 q p with
      |true=>have:=(I3 q p).1 hz;rw[if_neg (by omega)];rfl
      |false=>have:=(Nf q p).1 hz;rw[if_pos this];rfl
     simp[execOp,ho,resolve,hc,hargs,invoke,builtin,Builtin.max_,Builtin.max2,e1,e2,this]
   · cases h
 · cases h
theorem evP_ok (hG:GOK P g) (h:evP g o.op t k=true):∃v,k v=true∧Kg P o t v:=by
 have no:∀ {b:Bool},b=true→b=false→∃v,k v=true∧Kg P o t v:=fun h h'=>by rw[h]at h';cases h'
 generalize hop:o.op=op at h
 cases op
 case move x=>exact move_ok (.inl hop) h
 case assign x=>exact move_ok (.inr hop) h
 case pick c a b=>exact pick_ok hop h
 case unOp=>exact un_ok hop h
 case binOp=>exact bin_ok hG hop h
 case fieldAddr=>exact Aaf hG hop h
 case field=>exact field_ok hG hop h
 case indexAddr=>exact Z9 hG hop h
 case index=>exact index_ok hG hop h
 case extract=>exact extract_ok hop h
 case nilCheck=>exact nil_ok hop h
 case makeFunc=>exact makeFunc_ok hop h
 case slice s x lo hi mx=>
  cases mx with
  |none=>exact slice_ok hG hop (fun hm=>by cases hm) h
  |some q=>cases hi with
   |some _=>exact slice_ok hG hop (fun _=>rfl) h
   |none=>exact no h rfl
 case build=>exact build_ok hG hop h
 case call c=>
  cases hc:c.callee with
  |builtin b=>
   have:evP g (.call c) t k=blt g b c.argTypes.toList c.args.toList t k:=by simp only[evP,hc]
   rw[this]at h
   exact blt_ok hG hop hc h
  |value f=>
   have:evP g (.call c) t k=false:=by simp only[evP,hc]
   exact no h this
  |invoke f n=>
   have:evP g (.call c) t k=false:=by simp only[evP,hc]
   exact no h this
 all_goals exact no h rfl
end Go.CE
