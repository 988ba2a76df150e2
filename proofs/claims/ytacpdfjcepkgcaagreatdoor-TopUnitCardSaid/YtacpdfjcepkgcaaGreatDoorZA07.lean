/- Part 7 of the lemmas behind the claim. -/
import Derived.Test.YtacpdfjcepkgcaaGreatDoorZA01
set_option linter.unusedSimpArgs false
set_option linter.unusedVariables false
set_option linter.constructorNameAsVariable false
set_option linter.unusedSectionVars false
set_option linter.defProp false
set_option maxRecDepth 100000
set_option maxHeartbeats 40000000
namespace Go.CE
noncomputable section
open Go.GV (TI Shp)
noncomputable def Ql {α:Type} (a:α):α:=Classical.choose (⟨a,rfl⟩:∃b,b=a)
theorem Hd {α:Type} (a:α):Ql a=a:=Classical.choose_spec (⟨a,rfl⟩:∃b,b=a)
def fN {β:Type} (n:Nat) (k:Nat→β):β:=k n
def fZ {β:Type} (z:Int) (k:Int→β):β:=k z
def fB {β:Type} (b:Bool) (x y:β):β:=Bool.rec (motive:=fun _=>β) y x b
inductive Pos where
 |h
 |o (p:Pos)
 |i (p:Pos)
 deriving DecidableEq
def Ay (n:Nat):Pos:=
 Nat.rec (motive:=fun _=>Nat→Pos) (fun _=>.h)
  (fun _ ih n=>fB (Nat.ble n 1) .h (fB (Nat.beq (Nat.mod n 2) 0) (.o (ih (Nat.div n 2))) (.i (ih (Nat.div n 2))))) n n
def sucK {β:Type} (p:Pos) (k:Pos→β):β:=
 Pos.rec (motive:=fun _=>(Pos→β)→β) (fun k=>k (.o .h)) (fun p _ k=>k (.i p)) (fun _ ih k=>ih fun s=>k (.o s)) p k
def Kq (p q:Pos):Bool:=
 Pos.rec (motive:=fun _=>Pos→Bool)
  (fun q=>Pos.rec (motive:=fun _=>Bool) true (fun _ _=>false) (fun _ _=>false) q)
  (fun _ ih q=>Pos.rec (motive:=fun _=>Bool) false (fun r _=>ih r) (fun _ _=>false) q)
  (fun _ ih q=>Pos.rec (motive:=fun _=>Bool) false (fun _ _=>false) (fun r _=>ih r) q) p q
inductive T (α:Type) where
 |e
 |n (l:T α) (v:α) (r:T α)
def T.getK {α β:Type} (d:α) (t:T α) (p:Pos) (k:α→β):β:=
 T.rec (motive:=fun _=>Pos→(α→β)→β) (fun _ k=>k d)
   (fun _ v _ gl gr p k=>Pos.rec (motive:=fun _=>β) (k v) (fun q _=>gl q k) (fun q _=>gr q k) p) t p k
def T.setK {α β:Type} (d x:α) (t:T α) (p:Pos) (k:T α→β):β:=
 Pos.rec (motive:=fun _=>T α→(T α→β)→β)
  (fun t k=>T.rec (motive:=fun _=>β) (k (.n .e x .e)) (fun l _ r _ _=>k (.n l x r)) t)
  (fun _ ih t k=>T.rec (motive:=fun _=>β) (ih .e fun l=>k (.n l d .e)) (fun l v r _ _=>ih l fun l=>k (.n l v r)) t)
  (fun _ ih t k=>T.rec (motive:=fun _=>β) (ih .e fun r=>k (.n .e d r)) (fun l v r _ _=>ih r fun r=>k (.n l v r)) t) p t k
def T.get {α:Type} (d:α):T α→Pos→α
 |.e,_=>d
 |.n _ v _,.h=>v
 |.n l _ _,.o p=>l.get d p
 |.n _ _ r,.i p=>r.get d p
def T.set {α:Type} (d x:α):T α→Pos→T α
 |.e,.h=>.n .e x .e
 |.n l _ r,.h=>.n l x r
 |.e,.o p=>.n (T.e.set d x p) d .e
 |.n l v r,.o p=>.n (l.set d x p) v r
 |.e,.i p=>.n .e d (T.e.set d x p)
 |.n l v r,.i p=>.n l v (r.set d x p)
inductive Cap where
 |k (n:Nat)
 |u (es:Nat)
inductive AV where
 |b (x:Bool)
 |i (k:IntKind) (n:Int)
 |s (l:List Nat)
 |p0
 |p (id:Pos) (off:Nat)
 |sl0
 |sl (id:Pos) (off len:Nat) (cap:Cap)
 |m0
 |m (id:Pos)
 |fn (f:Nat) (c:List AV)
 |fb (f:Nat) (c:List AV)
 |yl (id:Pos)
 |nf
 |ni
 |ag (l:List AV)
 |tu (l:List AV)
 |x
abbrev LV:=T (Option (List Nat))
structure AL where
 lv:LV
 st:LoopState
 pend:Option Code
 tm:T AV
 N:Nat
 ps:List Nat
 asg:Code
 body:Code
 df:Pos
inductive AO where
 |dead
 |cells (n:Nat) (cs:T AV) (fz:Nat) (ro:Bool) (ty:Nat)
 |map (es:List (AV×AV×Nat)) (clk:Nat)
 |iter (s:List Nat) (pos:Nat)
 |loop (L:AL)
 |marks
abbrev H:=T AO
abbrev K:=AV→H→Pos→Bool
abbrev Hc:=AV→List AV→H→Pos→K→Bool
abbrev KP:=H→Pos→Bool
abbrev L8:=KP→Hc
def und:AV:=.tu []
def Ep (s:ByteArray):List Nat:=List.rec (motive:=fun _=>List Nat) [] (fun x _ r=>x.toNat::r) s.data.toList
def cv0 (v:Value):AV:=match v with
 |.bool b=>.b b
 |.int k n=>.i k n
 |.string s=>.s (Ep s)
 |.pointer none=>.p0
 |.slice none 0 0=>.sl0
 |.map none=>.m0
 |.nilFunc=>.nf
 |.nilIface=>.ni
 |_=>.x
def Vo (l:List Value):List AV:=List.rec (motive:=fun _=>List AV) [] (fun v _ r=>cv0 v::r) l
def cv (v:Value):AV:=match v with
 |.agg cs=>.ag (Vo cs.toList)
 |.tuple vs=>.tu (Vo vs.toList)
 |v=>cv0 v
structure G where
 ty:T (Option TI)
 mp:T (Option (Nat×Nat))
 pt:T (Option Nat)
 bt:T (Option Nat)
 cm:T (Option Nat)
 us:T (Option Nat)
 fn:T (Option Func)
 lv:T (Option LV)
 pf:Nat
 ft:Nat
def Ki (g:G) (t:Nat) (k:TI→Bool):Bool:=T.getK none g.ty (Ay (Nat.succ t)) fun o=>match o with
 |some ti=>k ti
 |none=>false
def ptK (g:G) (t:Nat) (x:Bool):Bool:=T.getK none g.pt (Ay (Nat.succ t)) fun o=>match o with
 |some _=>x
 |none=>false
def I7 (t:T AV) (x:Operand) (k:AV→Bool):Bool:=match x with
 |.tmp n=>T.getK und t (Ay (Nat.succ n)) k
 |.const v=>k (cv v)
 |.global g=>fB (Nat.beq g 0) (k (.p (Ay 2) 0)) (k .x)
 |.func f=>k (.fn f [])
def opdL (t:T AV) (l:List Operand) (k:List AV→Bool):Bool:=
 List.rec (motive:=fun _=>(List AV→Bool)→Bool) (fun k=>k []) (fun x _ ih k=>I7 t x fun v=>ih fun r=>k (v::r)) l k
def hg (h:H) (id:Pos):AO:=T.get .dead h id
def hs (h:H) (id:Pos) (o:AO):H:=T.set .dead o h id
def hgetC (h:H) (id:Pos) (k:AO→Bool):Bool:=k (hg h id)
noncomputable def Fk:=Ql @hgetC
theorem Aac:@Fk=@hgetC:=Hd _
def hsetC (h:H) (id:Pos) (o:AO) (k:H→Bool):Bool:=k (hs h id o)
noncomputable def Fa:=Ql @hsetC
theorem hset_un:@Fa=@hsetC:=Hd _
def rdL (cs:T AV) (cnt off:Nat) (k:List AV→Bool):Bool:=
 Nat.rec (motive:=fun _=>Nat→(List AV→Bool)→Bool) (fun _ k=>k [])
  (fun _ ih off k=>T.getK .x cs (Ay (Nat.succ off)) fun v=>ih (Nat.succ off) fun r=>k (v::r)) cnt off k
def rdC (h:H) (id:Pos) (off cnt:Nat) (k:List AV→Bool):Bool:=Fk h id fun o=>match o with
 |.cells n cs _ _ _=>fB (Nat.ble (Nat.add off cnt) n) (rdL cs cnt off k) false
 |_=>false
noncomputable def rd:=Ql @rdC
theorem rd_un:@rd=@rdC:=Hd _
def rd1C (h:H) (id:Pos) (off:Nat) (k:AV→Bool):Bool:=Fk h id fun o=>match o with
 |.cells n cs _ _ _=>fB (Nat.ble n off) false (T.getK .x cs (Ay (Nat.succ off)) k)
 |_=>false
noncomputable def rd1:=Ql @rd1C
theorem rd1_un:@rd1=@rd1C:=Hd _
def Vl (vs:List AV) (cs:T AV) (off:Nat) (k:T AV→Bool):Bool:=
 List.rec (motive:=fun _=>T AV→Nat→(T AV→Bool)→Bool) (fun cs _ k=>k cs)
  (fun v _ ih cs off k=>T.setK .x v cs (Ay (Nat.succ off)) fun cs=>ih cs (Nat.succ off) k) vs cs off k
def oneA (v:AV):Bool:=match v with
 |.ag _ | .tu _ | .x=>false
 |_=>true
def Gt (l:List AV):Bool:=List.rec (motive:=fun _=>Bool) true (fun v _ ih=>fB (oneA v) ih false) l
def wrC (h:H) (id:Pos) (off:Nat) (vs:List AV) (k:H→Bool):Bool:=Fk h id fun o=>match o with
 |.cells n cs fz ro ty=>fB ro false (fB (Nat.ble fz off) (fB (Nat.ble (Nat.add off vs.length) n) (fB (Gt vs) (Vl vs cs off fun cs=>Fa h id (.cells n cs fz ro ty) k) false) false) false)
 |_=>false
noncomputable def wr:=Ql @wrC
theorem wr_un:@wr=@wrC:=Hd _
def newOC (h:H) (nx:Pos) (o:AO) (k:Pos→H→Pos→Bool):Bool:=Fk h nx fun d=>match d with
 |.dead=>Fa h nx o fun h=>sucK nx fun n=>k nx h n
 |_=>false
noncomputable def Kj:=Ql @newOC
theorem newO_un:@Kj=@newOC:=Hd _
def newCC (h:H) (nx:Pos) (ty n:Nat) (l:List AV) (k:Pos→H→Pos→Bool):Bool:=
 Vl l .e 0 fun cs=>Kj h nx (.cells n cs 0 false ty) k
noncomputable def newC:=Ql @newCC
theorem newC_un:@newC=@newCC:=Hd _
def zEqC (a b:Int):Bool:=Int.rec (motive:=fun _=>Bool) (fun m=>Int.rec (motive:=fun _=>Bool) (fun n=>Nat.beq m n) (fun _=>false) b)
 (fun m=>Int.rec (motive:=fun _=>Bool) (fun _=>false) (fun n=>Nat.beq m n) b) a
noncomputable def N2:=Ql @zEqC
theorem zEq_un:@N2=@zEqC:=Hd _
def zLeC (a b:Int):Bool:=Int.rec (motive:=fun _=>Bool) (fun m=>Int.rec (motive:=fun _=>Bool) (fun n=>Nat.ble m n) (fun _=>false) b)
 (fun m=>Int.rec (motive:=fun _=>Bool) (fun _=>true) (fun n=>Nat.ble n m) b) a
noncomputable def K0:=Ql @zLeC
theorem zLe_un:@K0=@zLeC:=Hd _
def asI (v:AV) (k:IntKind→Int→Bool):Bool:=match v with
 |.i kd n=>k kd n
 |_=>false
def asN (v:AV) (k:Nat→Bool):Bool:=match v with
 |.i _ n=>fB (K0 0 n) (k n.toNat) false
 |_=>false
def asP (v:AV) (k:Pos→Nat→Bool):Bool:=match v with
 |.p id off=>k id off
 |_=>false
def Rm (v:AV) (k:List AV→Bool):Bool:=match v with
 |.ag l=>k l
 |.tu _=>false
 |.x=>false
 |v=>k [v]
def Lo (a b:List Nat):Bool:=
 List.rec (motive:=fun _=>List Nat→Bool) (fun b=>List.rec (motive:=fun _=>Bool) true (fun _ _ _=>false) b)
  (fun x _ ih b=>List.rec (motive:=fun _=>Bool) false (fun y r _=>fB (Nat.beq x y) (ih r) false) b) a b
noncomputable def Dg:=Ql @Lo
theorem natsEq_un:@Dg=@Lo:=Hd _
def appK (a b:List Nat) (k:List Nat→Bool):Bool:=k (a++b)
def nth (l:List Nat) (i:Nat) (k:Nat→Bool):Bool:=fB (Nat.ble l.length i) false (k (l.getD i 0))
def takeK (n:Nat) (l:List Nat) (k:List Nat→Bool):Bool:=k (l.take n)
def dropK (n:Nat) (l:List Nat) (k:List Nat→Bool):Bool:=k (l.drop n)
def len {α:Type} (l:List α) (k:Nat→Bool):Bool:=k l.length
def big (k:IntKind):Nat:=match k with
 |.i8=>127 | .i16=>32767 | .i32=>2147483647 | .i64=>9223372036854775807
 |.u8=>255 | .u16=>65535 | .u32=>4294967295 | .u64=>18446744073709551615
def fitsC (k:IntKind) (z:Int):Bool:=match z with
 |.ofNat n=>Nat.ble n (big k)
 |.negSucc n=>match k with
  |.i64 | .i32=>Nat.ble n (big k)
  |_=>false
noncomputable def fits:=Ql @fitsC
theorem Nu:@fits=@fitsC:=Hd _
def Pe (kd:IntKind) (z:Int) (k:AV→Bool):Bool:=fZ z fun z=>fB (fits kd z) (k (.i kd z)) (fZ (kd.wrap z) fun z=>k (.i kd z))
def Z8 (op:BinOp) (kd:IntKind) (a b:Int) (k:AV→Bool):Bool:=match op with
 |.add=>Pe kd (a+b) k
 |.sub=>Pe kd (a-b) k
 |.mul=>Pe kd (a*b) k
 |.quo=>fB (N2 b 0) false (Pe kd (Int.tdiv a b) k)
 |.rem=>fB (N2 b 0) false (fZ (Int.tmod a b) fun z=>k (.i kd z))
 |.and=>(match a,b with
  |.ofNat a,.ofNat b=>fB (Nat.ble a (big kd)) (fB (Nat.ble b (big kd)) (fN (Nat.land a b) fun n=>k (.i kd (Int.ofNat n))) false) false
  |_,_=>false)
 |.or=>(match a,b with
  |.ofNat a,.ofNat b=>fB (Nat.ble a (big kd)) (fB (Nat.ble b (big kd)) (fN (Nat.lor a b) fun n=>k (.i kd (Int.ofNat n))) false) false
  |_,_=>false)
 |.eql=>k (.b (N2 a b))
 |.neq=>k (.b (fB (N2 a b) false true))
 |.lss=>k (.b (fB (K0 b a) false true))
 |.leq=>k (.b (K0 a b))
 |.gtr=>k (.b (fB (K0 a b) false true))
 |.geq=>k (.b (K0 b a))
 |_=>false
def kEq (a b:IntKind):Bool:=match a,b with
 |.i8,.i8 | .i16,.i16 | .i32,.i32 | .i64,.i64 | .u8,.u8 | .u16,.u16 | .u32,.u32 | .u64,.u64=>true
 |_,_=>false
def fBK (b:Bool) (k:AV→Bool):Bool:=fB b (k (.b true)) (k (.b false))
def Qp (op:BinOp) (a b:List Nat) (k:AV→Bool):Bool:=match op with
 |.add=>len a fun m=>len b fun n=>fB (Nat.ble (Nat.add m n) 1000000) (appK a b fun l=>k (.s l)) false
 |.eql=>fBK (Dg a b) k
 |.neq=>fB (Dg a b) (k (.b false)) (k (.b true))
 |_=>false
def Y0 (op:BinOp) (kd:IntKind) (x y:Int) (k:AV→Bool):Bool:=match kd,x,y with
 |.u64,.ofNat a,.ofNat n=>fB (Nat.ble n 63) (match op with
  |.shl=>Pe .u64 (Int.ofNat (Nat.mul a (Nat.pow 2 n))) k
  |.shr=>fN (Nat.div a (Nat.pow 2 n)) fun c=>k (.i .u64 (Int.ofNat c))
  |_=>false) false
 |.i64,x,.ofNat n=>fB (Nat.ble n 63) (match op with
  |.shl=>Pe .i64 (x*Int.ofNat (Nat.pow 2 n)) k
  |.shr=>k (.i .i64 (Int.fdiv x (Int.ofNat (Nat.pow 2 n))))
  |_=>false) false
 |_,_,_=>false
def oPick (c a b:Operand) (t:T AV) (k:AV→Bool):Bool:=I7 t c fun v=>match v with
 |.b x=>fB x (I7 t a k) (I7 t b k)
 |_=>false
def eq2 (s:Shp) (x y:AV) (k:Bool→Bool):Bool:=match s,x,y with
 |.bool,.b a,.b b=>fB a (fB b (k true) (k false)) (fB b (k false) (k true))
 |.int _,.i a m,.i b n=>fB (kEq a b) (fB (N2 m n) (k true) (k false)) false
 |.str,.s a,.s b=>fB (Dg a b) (k true) (k false)
 |.slice _,.sl0,.sl0=>k true
 |.slice _,.sl0,.sl _ _ _ _=>k false
 |.slice _,.sl _ _ _ _,.sl0=>k false
 |_,_,_=>false
def eq1 (g:G) (ty:Nat) (x y:AV) (k:Bool→Bool):Bool:=match x,y with
 |.p0,.p0=>ptK g ty (k true)
 |.p0,.p _ _=>ptK g ty (k false)
 |.p _ _,.p0=>ptK g ty (k false)
 |.p a m,.p b n=>ptK g ty (fB (Kq a b) (fB (Nat.beq m n) (k true) (k false)) false)
 |x,y=>Ki g ty fun ti=>eq2 ti.shp x y k
def eqFs (g:G) (fs:List (Nat×Nat)) (xs ys:List AV) (k:Bool→Bool):Bool:=
 List.rec (motive:=fun _=>Bool) (k true)
  (fun f _ ih=>Ki g f.2 fun tf=>fB tf.agg false (match xs[f.1]?,ys[f.1]? with
    |some x,some y=>eq1 g f.2 x y fun b=>fB b ih (k false)
    |_,_=>false)) fs
def plA (a:AV):Bool:=match a with
 |.b _ | .p0 | .p _ _ | .sl0 | .sl _ _ _ _=>true
 |_=>false
def ngK (ng r:Bool) (k:AV→Bool):Bool:=fB ng (fB r (k (.b false)) (k (.b true))) (fB r (k (.b true)) (k (.b false)))
def oEq (g:G) (ng:Bool) (ty:Nat) (a b:AV) (k:AV→Bool):Bool:=match a,b with
 |.ag xs,.ag ys=>T.getK none g.cm (Ay (Nat.succ ty)) fun o=>(match o with
  |some _=>Ki g ty fun ti=>(match ti.shp with
   |.strct fs=>eqFs g fs xs ys fun r=>ngK ng r k
   |_=>false)
  |none=>false)
 |a,b=>fB (plA a) (fB (plA b) (eq1 g ty a b fun r=>ngK ng r k) false) false
def oBin (g:G) (op:BinOp) (ty:Nat) (x y:Operand) (t:T AV) (k:AV→Bool):Bool:=I7 t x fun a=>I7 t y fun b=>match op with
 |.shl | .shr=>asI a fun kd m=>asI b fun _ n=>Y0 op kd m n k
 |_=>match a,b with
  |.i c m,.i d n=>fB (kEq c d) (Z8 op c m n k) false
  |.s m,.s n=>Qp op m n k
  |a,b=>(match op with
   |.eql=>oEq g false ty a b k
   |.neq=>oEq g true ty a b k
   |_=>false)
def oUn (op:UnOp) (x:Operand) (t:T AV) (k:AV→Bool):Bool:=I7 t x fun v=>match op,v with
 |.not,.b a=>k (.b (fB a false true))
 |_,_=>false
def Oq (g:G) (s:Nat) (x:Operand) (f:Nat) (t:T AV) (k:AV→Bool):Bool:=Ki g s fun ti=>match ti.shp with
 |.strct l=>(match l[f]? with
  |some (off,ft)=>Ki g ft fun tf=>fB (Nat.beq tf.sz 0) false (I7 t x fun v=>asP v fun id o=>k (.p id (o+off)))
  |none=>false)
 |_=>false
def sub0 (l:List AV) (off n:Nat) (k:List AV→Bool):Bool:=k ((l.drop off).take n)
def oField (g:G) (s:Nat) (x:Operand) (f:Nat) (t:T AV) (k:AV→Bool):Bool:=Ki g s fun ti=>match ti.shp with
 |.strct l=>(match l[f]? with
  |some (off,ft)=>Ki g ft fun tf=>I7 t x fun v=>match v with
   |.ag cs=>(match tf.agg with
    |true=>sub0 cs off tf.sz fun r=>k (.ag r)
    |false=>(match cs[off]? with
     |some v=>k v
     |none=>false))
   |_=>false
  |none=>false)
 |_=>false
def Oo (g:G) (s:Nat) (x i:Operand) (t:T AV) (k:AV→Bool):Bool:=Ki g s fun ti=>I7 t i fun iv=>asN iv fun i=>I7 t x fun v=>match ti.shp with
 |.slice e=>Ki g e fun te=>(match v with
  |.sl id off len _=>fB (Nat.ble len i) false (k (.p id (off+i*te.sz)))
  |_=>false)
 |.arr n e=>Ki g e fun te=>(match v with
  |.p id off=>fB (Nat.ble n i) false (k (.p id (off+i*te.sz)))
  |_=>false)
 |_=>false
def oIndex (g:G) (s:Nat) (x i:Operand) (t:T AV) (k:AV→Bool):Bool:=Ki g s fun ti=>I7 t i fun iv=>asN iv fun i=>I7 t x fun v=>match ti.shp,v with
 |.str,.s l=>nth l i fun n=>k (.i .u8 (Int.ofNat n))
 |_,_=>false
def Ub (x:Operand) (n:Nat) (t:T AV) (k:AV→Bool):Bool:=I7 t x fun v=>match v with
 |.tu l=>(match l[n]? with
  |some v=>k v
  |none=>false)
 |_=>false
def oNil (x:Operand) (t:T AV) (k:AV→Bool):Bool:=I7 t x fun v=>match v with
 |.p id o=>k (.p id o)
 |_=>false
def Qu (fn:Fn) (first cap:List Operand) (t:T AV) (k:AV→Bool):Bool:=match fn,first with
 |.func f,[]=>opdL t cap fun l=>k (.fn f l)
 |.func f,first=>(match cap with
  |[]=>opdL t first fun l=>k (.fb f l)
  |_=>false)
 |_,_=>false
def bnd (t:T AV) (o:Option Operand) (d:Nat) (k:Nat→Bool):Bool:=match o with
 |none=>k d
 |some x=>I7 t x fun v=>asN v k
def slU (te:TI) (id:Pos) (off n es a b:Nat) (k:AV→Bool):Bool:=
 fB (Nat.ble b n) (fB (Nat.beq es te.sz) (fN (Nat.add off (Nat.mul a te.sz)) fun o=>fN (Nat.sub b a) fun l=>k (.sl id o l (.u es))) false) false
def slK (te:TI) (id:Pos) (off c a b:Nat) (k:AV→Bool):Bool:=
 fB (Nat.ble b c) (fN (fB (Nat.beq a c) off (Nat.add off (Nat.mul a te.sz))) fun o=>fN (Nat.sub b a) fun l=>fN (Nat.sub c a) fun c=>k (.sl id o l (.k c))) false
def oSlice (g:G) (s:Nat) (x:Operand) (lo hi mx:Option Operand) (t:T AV) (k:AV→Bool):Bool:=Ki g s fun ti=>I7 t x fun v=>match ti.shp,v with
 |.str,.s l=>(match mx with
  |none=>bnd t lo 0 fun a=>len l fun n=>bnd t hi n fun b=>fB (Nat.ble a b) (fB (Nat.ble b n) (dropK a l fun r=>takeK (Nat.sub b a) r fun r=>k (.s r)) false) false
  |some _=>false)
 |.slice e,.sl0=>Ki g e fun te=>bnd t lo 0 fun a=>bnd t hi 0 fun b=>(match mx with
  |none=>fB (Nat.beq a 0) (fB (Nat.beq b 0) (k .sl0) false) false
  |some _=>false)
 |.slice e,.sl id off n (.u es)=>Ki g e fun te=>bnd t lo 0 fun a=>bnd t hi n fun b=>fB (Nat.ble a b) (match mx with
  |none=>slU te id off n es a b k
  |some m=>I7 t m fun v=>asN v fun m=>fB (Nat.ble m n) (fB (Nat.beq n 0) false (slK te id off m a b k)) false) false
 |.slice e,.sl id off n (.k c)=>Ki g e fun te=>bnd t lo 0 fun a=>bnd t hi n fun b=>fB (Nat.ble a b) (match mx with
  |none=>slK te id off c a b k
  |some m=>I7 t m fun v=>asN v fun m=>fB (Nat.ble m c) (slK te id off m a b k) false) false
 |.arr n e,.p id off=>Ki g e fun te=>(match mx with
  |none=>bnd t lo 0 fun a=>bnd t hi n fun b=>fB (Nat.ble a b) (slK te id off n a b k) false
  |some _=>false)
 |_,_=>false
def parts (tot:Nat) (place:Nat→(Nat→Nat→Bool)→Bool) (l:List (Nat×Operand)) (t:T AV) (cs:T AV) (k:T AV→Bool):Bool:=
 List.rec (motive:=fun _=>T AV→Bool) (fun cs=>k cs)
  (fun p _ ih cs=>place p.1 fun off sz=>I7 t p.2 fun v=>Rm v fun vs=>len vs fun n=>fB (Nat.beq n sz) (fB (Nat.ble (Nat.add off n) tot) (Vl vs cs off ih) false) false) l cs
def Zh (g:G) (l:List (Nat×Nat)) (i:Nat) (k:Nat→Nat→Bool):Bool:=match l[i]? with
 |some (off,ft)=>Ki g ft fun tf=>k off tf.sz
 |none=>false
def Xl (n sz i:Nat) (k:Nat→Nat→Bool):Bool:=fB (Nat.ble n i) false (k (Nat.mul i sz) sz)
def allK (g:G) (l:List (Nat×Nat)):Bool:=List.rec (motive:=fun _=>Bool) true (fun p _ ih=>T.getK none g.ty (Ay (Nat.succ p.2)) fun o=>match o with
 |some _=>ih
 |none=>false) l
def oBuild (g:G) (s:Nat) (ps:List (Nat×Operand)) (t:T AV) (k:AV→Bool):Bool:=Ki g s fun ti=>Vl (Vo ti.zero) .e 0 fun cs=>match ti.shp with
 |.strct l=>fB (allK g l) (parts ti.sz (Zh g l) ps t cs fun cs=>rdL cs ti.sz 0 fun l=>k (.ag l)) false
 |.arr n e=>Ki g e fun te=>parts ti.sz (Xl n te.sz) ps t cs fun cs=>rdL cs ti.sz 0 fun l=>k (.ag l)
 |_=>false
def iMin (a b:AV) (k:AV→Bool):Bool:=asI a fun c m=>asI b fun d n=>fB (kEq c d) (fB (K0 m n) (k (.i c m)) (k (.i c n))) false
def iMax (a b:AV) (k:AV→Bool):Bool:=asI a fun c m=>asI b fun d n=>fB (kEq c d) (fB (K0 n m) (k (.i c m)) (k (.i c n))) false
def oLoad (g:G) (ty:Nat) (a:Operand) (t:T AV) (h:H) (k:AV→Bool):Bool:=I7 t a fun v=>asP v fun id off=>Ki g ty fun ti=>match ti.agg with
 |true=>rd h id off ti.sz fun l=>k (.ag l)
 |false=>rd1 h id off k
def asU8 (v:AV) (k:Nat→Bool):Bool:=match v with
 |.i .u8 (.ofNat n)=>k n
 |_=>false
def M6 (l:List AV) (k:List Nat→Bool):Bool:=
 List.rec (motive:=fun _=>(List Nat→Bool)→Bool) (fun k=>k []) (fun v _ ih k=>asU8 v fun n=>fB (Nat.ble n 255) (ih fun r=>k (n::r)) false) l k
def convP (g:G) (src dst:Nat) (id:Pos) (off:Nat) (h:H) (k:AV→Bool):Bool:=T.getK none g.us (Ay (Nat.succ dst)) fun o=>match o with
 |some _=>ptK g src (Fk h id fun o=>match o with
  |.cells n _ _ _ _=>fB (Nat.ble n off) false (k (.p id off))
  |_=>false)
 |none=>T.getK none g.us (Ay (Nat.succ src)) fun o=>match o with
  |some _=>T.getK none g.pt (Ay (Nat.succ dst)) fun o=>(match o with
   |some u=>Ki g u fun tu=>Fk h id fun o=>(match o with
    |.cells n _ _ _ ty=>fB (Nat.beq ty u) (fB (Nat.beq off 0) (fB (Nat.ble tu.sz n) (k (.p id off)) false) false) false
    |_=>false)
   |none=>false)
  |none=>false
def oConv (g:G) (src dst:Nat) (x:Operand) (t:T AV) (h:H) (k:AV→Bool):Bool:=I7 t x fun v=>match v with
 |.p id o=>convP g src dst id o h k
 |.i _ n=>Ki g dst fun ti=>Ki g src fun _=>(match ti.shp with
  |.int kd=>Pe kd n k
  |_=>false)
 |.sl id off n _=>Ki g dst fun ti=>Ki g src fun tj=>(match ti.shp,tj.shp with
  |.str,.slice e=>Ki g e fun te=>(match te.shp with
   |.int .u8=>fB (Nat.beq n 0) (k (.s [])) (rd h id off n fun l=>M6 l fun b=>k (.s b))
   |_=>false)
  |_,_=>false)
 |_=>false
def asS (v:AV) (k:List Nat→Bool):Bool:=match v with
 |.s l=>k l
 |_=>false
def Gx (key:List Nat) (es:List (AV×AV×Nat)) (i:Nat) (hit:Nat→AV→Bool) (miss:Bool):Bool:=
 List.rec (motive:=fun _=>Nat→Bool) (fun _=>miss) (fun e _ ih i=>asS e.1 fun l=>fB (Dg key l) (hit i e.2.1) (ih (Nat.succ i))) es i
def Lq (ok:Bool) (k:AV→Bool) (v:AV) (b:Bool):Bool:=match ok with
 |true=>k (.tu [v,.b b])
 |false=>k v
def zeroA (te:TI):AV:=match te.agg with
 |true=>.ag (Vo te.zero)
 |false=>cv te.zv
def Zj (g:G) (ty:Nat) (m key:Operand) (ok:Bool) (t:T AV) (h:H) (k:AV→Bool):Bool:=
 T.getK none g.mp (Ay (Nat.succ ty)) fun o=>match o with
 |some (_,e)=>Ki g e fun te=>I7 t key fun kv=>asS kv fun kl=>I7 t m fun mv=>(match mv with
  |.m0=>Lq ok k (zeroA te) false
  |.m id=>Fk h id fun o=>(match o with
   |.map es _=>Gx kl es 0 (fun _ v=>Lq ok k v true) (Lq ok k (zeroA te) false)
   |_=>false)
  |_=>false)
 |none=>false
def oAlloc (g:G) (e:Nat) (h:H) (nx:Pos) (k:K):Bool:=Ki g e fun ti=>newC h nx e ti.sz (Vo ti.zero) fun id h nx=>k (.p id 0) h nx
def oBox (g:G) (e:Nat) (x:Operand) (t:T AV) (h:H) (nx:Pos) (k:K):Bool:=I7 t x fun v=>Rm v fun vs=>len vs fun n=>newC h nx e n vs fun id h nx=>k (.p id 0) h nx
def Oe (z:List AV) (n off:Nat) (sz:Nat) (cs:T AV) (k:T AV→Bool):Bool:=
 Nat.rec (motive:=fun _=>Nat→T AV→Bool) (fun _ cs=>k cs) (fun _ ih off cs=>Vl z cs off fun cs=>fN (Nat.add off sz) fun off=>ih off cs) n off cs
def Mj (g:G) (s n:Nat) (ps:List (Nat×Operand)) (t:T AV) (h:H) (nx:Pos) (k:K):Bool:=Ki g s fun ti=>match ti.shp with
 |.slice e=>Ki g e fun te=>fB (Nat.ble n 1000) (fB (Nat.ble te.sz 1000) (Oe (Vo te.zero) n 0 te.sz .e fun cs=>parts (Nat.mul n te.sz) (Xl n te.sz) ps t cs fun cs=>
  fN (Nat.mul n te.sz) fun m=>Kj h nx (.cells m cs 0 false e) fun id h nx=>k (.sl id 0 n (.k n)) h nx) false) false
 |_=>false
def On (g:G) (s:Nat) (l c:Operand) (t:T AV) (h:H) (nx:Pos) (k:K):Bool:=Ki g s fun ti=>match ti.shp with
 |.slice e=>Ki g e fun te=>I7 t l fun lv=>I7 t c fun cv=>asN lv fun l=>asN cv fun c=>T.getK none g.bt (Ay (Nat.succ e)) fun b=>match b with
  |some b=>fB (Nat.ble l c) (fB (Nat.ble (Nat.mul c b) 1000000000) (fB (Nat.ble c 1000000000) (Oe (Vo te.zero) c 0 te.sz .e fun cs=>
   fN (Nat.mul c te.sz) fun m=>Kj h nx (.cells m cs 0 false e) fun id h nx=>k (.sl id 0 l (.k c)) h nx) false) false) false
  |none=>false
 |_=>false
def Ua (g:G) (ty:Nat) (r:Option Operand) (t:T AV) (h:H) (nx:Pos) (k:K):Bool:=match r with
 |none=>Kj h nx (.map [] 0) fun id h nx=>k (.m id) h nx
 |some x=>T.getK none g.mp (Ay (Nat.succ ty)) fun o=>match o with
  |some _=>I7 t x fun v=>asI v fun _ _=>Kj h nx (.map [] 0) fun id h nx=>k (.m id) h nx
  |none=>false
def oRange (g:G) (ty:Nat) (x:Operand) (t:T AV) (h:H) (nx:Pos) (k:K):Bool:=Ki g ty fun ti=>I7 t x fun v=>match ti.shp,v with
 |.str,.s l=>Kj h nx (.iter l 0) fun id h nx=>k (.p id 0) h nx
 |_,_=>false
def oNext (x:Operand) (t:T AV) (h:H) (nx:Pos) (k:K):Bool:=I7 t x fun v=>asP v fun id off=>fB (Nat.beq off 0) (Fk h id fun o=>match o with
 |.iter s pos=>len s fun n=>fB (Nat.ble n pos) (k (.tu [.b false]) h nx) (nth s pos fun c=>fB (Nat.ble c 127) (fN (Nat.succ pos) fun p=>
  Fa h id (.iter s p) fun h=>k (.tu [.b true,.i .i64 (Int.ofNat pos),.i .i32 (Int.ofNat c)]) h nx) false)
 |_=>false) false
def oStore (g:G) (ty:Nat) (a x:Operand) (t:T AV) (h:H) (nx:Pos) (k:K):Bool:=I7 t a fun av=>asP av fun id off=>I7 t x fun v=>Ki g ty fun ti=>Rm v fun vs=>len vs fun n=>
 fB (Nat.beq n ti.sz) (wr h id off vs fun h=>k und h nx) false
def Y5 (es:List (AV×AV×Nat)) (i:Nat) (key v:AV) (k:List (AV×AV×Nat)→Bool):Bool:=
 List.rec (motive:=fun _=>Nat→(List (AV×AV×Nat)→Bool)→Bool) (fun _ k=>k [])
  (fun e r ih i k=>Nat.rec (motive:=fun _=>Bool) (k ((key,v,e.2.2)::r)) (fun j _=>ih j fun r=>k (e::r)) i) es i k
def Aaq (es:List (AV×AV×Nat)) (i:Nat) (k:List (AV×AV×Nat)→Bool):Bool:=
 List.rec (motive:=fun _=>Nat→(List (AV×AV×Nat)→Bool)→Bool) (fun _ k=>k [])
  (fun e r ih i k=>Nat.rec (motive:=fun _=>Bool) (k r) (fun j _=>ih j fun r=>k (e::r)) i) es i k
def snocE (es:List (AV×AV×Nat)) (e:AV×AV×Nat) (k:List (AV×AV×Nat)→Bool):Bool:=
 List.rec (motive:=fun _=>(List (AV×AV×Nat)→Bool)→Bool) (fun k=>k [e]) (fun e _ ih k=>ih fun r=>k (e::r)) es k
def Sv (g:G) (ty:Nat) (m key x:Operand) (t:T AV) (h:H) (nx:Pos) (k:K):Bool:=T.getK none g.mp (Ay (Nat.succ ty)) fun o=>match o with
 |some _=>I7 t m fun mv=>I7 t key fun kv=>asS kv fun kl=>I7 t x fun v=>(match mv with
  |.m id=>Fk h id fun o=>(match o with
   |.map es c=>Gx kl es 0 (fun i _=>Y5 es i (.s kl) v fun es=>Fa h id (.map es c) fun h=>k und h nx)
     (snocE es (.s kl,v,c) fun es=>fN (Nat.succ c) fun d=>Fa h id (.map es d) fun h=>k und h nx)
   |_=>false)
  |_=>false)
 |none=>false
def Zk (g:G) (ty:Nat) (m key:AV) (h:H) (nx:Pos) (k:K):Bool:=T.getK none g.mp (Ay (Nat.succ ty)) fun o=>match o with
 |some _=>(match m with
  |.m id=>asS key fun kl=>Fk h id fun o=>(match o with
   |.map es c=>Gx kl es 0 (fun i _=>Aaq es i fun es=>Fa h id (.map es c) fun h=>k und h nx) (Fa h id (.map es c) fun h=>k und h nx)
   |_=>false)
  |_=>false)
 |none=>false
def u8L (l:List Nat) (k:List AV→Bool):Bool:=
 List.rec (motive:=fun _=>(List AV→Bool)→Bool) (fun k=>k []) (fun n _ ih k=>ih fun r=>k (.i .u8 (Int.ofNat n)::r)) l k
def appd (sz:Nat) (x:AV) (h:H) (k:Nat→List AV→Bool):Bool:=match x with
 |.sl0=>k 0 []
 |.sl id off n _=>fB (Nat.beq n 0) (k 0 []) (rd h id off (Nat.mul n sz) fun l=>k n l)
 |.s l=>fB (Nat.beq sz 1) (len l fun n=>u8L l fun r=>k n r) false
 |_=>false
def Qx (s:Shp):Bool:=match s with
 |.slice _ | .str=>true
 |_=>false
def appNC (e:Nat) (te:TI) (b n:Nat) (vs:List AV) (s:AV) (h:H) (nx:Pos) (k:K):Bool:=match s with
 |.sl0=>fB (Nat.ble (Nat.mul n (Nat.succ b)) 1000000000) (Vl vs .e 0 fun cs=>fN (Nat.mul n te.sz) fun m=>Kj h nx (.cells m cs 0 false e) fun id h nx=>k (.sl id 0 n (.u te.sz)) h nx) false
 |.sl id off l (.k c)=>fN (Nat.add l n) fun ln=>fB (Nat.ble (Nat.mul ln (Nat.succ b)) 1000000000) (fB (Nat.ble ln c) (fN (Nat.add off (Nat.mul l te.sz)) fun o=>wr h id o vs fun h=>k (.sl id off ln (.k c)) h nx)
   (rd h id off (Nat.mul l te.sz) fun old=>Vl old .e 0 fun cs=>Vl vs cs (Nat.mul l te.sz) fun cs=>fN (Nat.mul ln te.sz) fun m=>Kj h nx (.cells m cs 0 false e) fun id h nx=>k (.sl id 0 ln (.u te.sz)) h nx)) false
 |.sl id off l (.u es)=>fN (Nat.add l n) fun ln=>fB (Nat.ble (Nat.mul ln (Nat.succ b)) 1000000000) (fB (Nat.beq es te.sz) (fB (Gt vs) (Fk h id fun o=>match o with
   |.cells cn cs fz ro ty=>fB ro false (fB (Nat.beq ty e) (fN (Nat.mul l te.sz) fun lb=>fB (Nat.ble lb cn) (fB (Nat.beq off 0) (fB (Nat.ble fz lb)
     (Vl vs cs lb fun cs=>fN (Nat.mul ln te.sz) fun m=>Fa h id .dead fun h=>Kj h nx (.cells m cs fz false e) fun id h nx=>k (.sl id 0 ln (.u te.sz)) h nx) false) false) false) false)
   |_=>false) false) false) false
 |_=>false
noncomputable def Ve:=Ql @appNC
theorem Qj:@Ve=@appNC:=Hd _
def Zl (g:G) (ts:List Nat) (s x:AV) (h:H) (nx:Pos) (k:K):Bool:=match ts with
 |[ty,tx]=>Ki g tx fun tix=>fB (Qx tix.shp) (Ki g ty fun ti=>match ti.shp with
  |.slice e=>Ki g e fun te=>appd te.sz x h fun n vs=>T.getK none g.bt (Ay (Nat.succ e)) fun b=>match b with
   |some b=>fB (Nat.beq n 0) (match s with
    |.sl0=>k s h nx
    |.sl _ _ _ (.u _)=>k s h nx
    |.sl _ _ l (.k c)=>fB (Nat.ble l c) (k s h nx) false
    |_=>false) (Ve e te b n vs s h nx k)
   |none=>false
  |_=>false) false
 |_=>false
def oCopy (d s:AV) (h:H) (nx:Pos) (k:K):Bool:=match d,s with
 |.sl _ _ _ _,.sl _ _ n _=>fB (Nat.beq n 0) (k (.i .i64 0) h nx) false
 |.sl _ _ _ _,.sl0=>k (.i .i64 0) h nx
 |_,_=>false
def oUStr (g:G) (ty:Nat) (p n:AV) (h:H) (nx:Pos) (k:K):Bool:=match n with
 |.i .i64 (.ofNat n)=>fB (Nat.beq n 0) false (fB (Nat.ble n 1000000) (asP p fun id off=>fB (Nat.beq off 0) (Fk h id fun o=>match o with
  |.cells cn cs fz ro e=>fB ro false (fB (Nat.ble n cn) (T.getK none g.pt (Ay (Nat.succ ty)) fun o=>(match o with
   |some u=>fB (Nat.beq u e) (Ki g e fun te=>fB (Nat.beq te.sz 1) (rdL cs n 0 fun l=>M6 l fun b=>fN (fB (Nat.ble fz n) n fz) fun z=>Fa h id (.cells cn cs z false e) fun h=>k (.s b) h nx) false) false
   |none=>false)) false)
  |_=>false) false) false)
 |_=>false
def lenK (g:G) (ts:List Nat) (x:Operand) (t:T AV) (h:H) (k:AV→Bool):Bool:=match ts with
 |ty::_=>I7 t x fun v=>(match v with
  |.s l=>Ki g ty fun ti=>(match ti.shp with
   |.str=>len l fun n=>k (.i .i64 (Int.ofNat n))
   |_=>false)
  |.sl0=>Ki g ty fun ti=>(match ti.shp with
   |.slice _=>k (.i .i64 0)
   |_=>false)
  |.sl _ _ n _=>Ki g ty fun ti=>(match ti.shp with
   |.slice _=>k (.i .i64 (Int.ofNat n))
   |_=>false)
  |.m id=>T.getK none g.mp (Ay (Nat.succ ty)) fun o=>(match o with
   |some (_,_)=>Fk h id fun o=>(match o with
    |.map es _=>len es fun n=>k (.i .i64 (Int.ofNat n))
    |_=>false)
   |none=>false)
  |_=>false)
 |_=>false
def oCap (v:AV) (k:AV→Bool):Bool:=match v with
 |.sl0=>k (.i .i64 0)
 |.sl _ _ _ (.k n)=>k (.i .i64 (Int.ofNat n))
 |_=>false
end
end Go.CE
