/- Part 8 of the lemmas behind the claim. -/
import Derived.Test.YtacpdfjcepkgcaaGreatDoorZA07
import Derived.Shelf.Strings.SlTrimAscii
import Derived.Shelf.Strings.Search3
import Derived.Shelf.Small.Strs
import Derived.Test.YtacpdfjcepkgcaaGreatDoorZA01
import Derived.SizedLaws
import Derived.Lib.Builder
import Derived.Lib.AppendStr
import Derived.Lib.UnsafeStr
import Derived.Laws.Pointers
import Derived.Laws.IdiomStrings
import Derived.Laws.BytesArg
import Derived.Laws.MakeOwn
import Derived.Laws.OwnMore
set_option linter.unusedSimpArgs false
set_option linter.unusedVariables false
set_option linter.constructorNameAsVariable false
set_option linter.unusedSectionVars false
set_option linter.defProp false
set_option maxRecDepth 100000
set_option maxHeartbeats 40000000
namespace Go.CE
open Go in
noncomputable def Wf (a b:List Nat):Int:=Lib.index (a.map UInt8.ofNat) (b.map UInt8.ofNat)
noncomputable def P9 (a b:Nat):Nat:=a*b / 18446744073709551616
noncomputable def R1 (a b:Nat):Nat:=a*b%18446744073709551616
open Go in
noncomputable def Ft (a:List Nat) (c:Nat):Int:=Lib.indexByte (a.map UInt8.ofNat) c.toUInt8
open Go in
noncomputable def trimR (a b:List Nat):List Nat:=(Lib.trimRightS (a.map UInt8.ofNat) (b.map UInt8.ofNat)).map UInt8.toNat
end Go.CE
namespace Go.CE
noncomputable section
open Go.GV (TI Shp)
def cls (g:G) (o:Op):Nat:=match o with
 |.move _ | .assign _ | .pick .. | .unOp .. | .binOp .. | .fieldAddr .. | .field .. | .indexAddr .. | .index .. | .extract .. | .nilCheck _ | .makeFunc .. | .slice .. | .build ..=>0
 |.load .. | .lookup .. | .convert ..=>1
 |.call {callee:=.builtin b,..}=>(match b with
  |.len=>1
  |.cap | .min | .max | .unsafeSliceData=>0
  |_=>3)
 |.alloc _ | .box .. | .buildSlice .. | .makeSlice .. | .makeMap .. | .range ..=>2
 |_=>3
def blt (g:G) (b:Builtin) (ts:List Nat) (l:List Operand) (t:T AV) (k:AV→Bool):Bool:=match l with
 |[x]=>(match b with
  |.cap=>(match ts with
   |ty::_=>Ki g ty fun ti=>I7 t x fun v=>(match ti.shp with
    |.slice _=>oCap v k
    |_=>false)
   |_=>false)
  |.unsafeSliceData=>I7 t x fun v=>(match v with
   |.sl id off n (.u _)=>fB (Nat.beq n 0) false (k (.p id off))
   |_=>false)
  |_=>false)
 |[x,y]=>(match b with
  |.min=>I7 t x fun a=>I7 t y fun b=>iMin a b k
  |.max=>I7 t x fun a=>I7 t y fun b=>iMax a b k
  |_=>false)
 |_=>false
def evP (g:G) (o:Op):T AV→(AV→Bool)→Bool:=match o with
 |.move x=>fun t k=>I7 t x k
 |.assign x=>fun t k=>I7 t x k
 |.pick c a b=>oPick c a b
 |.unOp op _ x=>oUn op x
 |.binOp op ty x y _=>oBin g op ty x y
 |.fieldAddr s x f=>Oq g s x f
 |.field s x f=>oField g s x f
 |.indexAddr s x i=>Oo g s x i
 |.index s x i=>oIndex g s x i
 |.extract x n=>Ub x n
 |.nilCheck x=>oNil x
 |.makeFunc f a c=>Qu f a.toList c.toList
 |.slice s x lo hi mx=>(match mx,hi with
  |some _,none=>fun _ _=>false
  |_,_=>oSlice g s x lo hi mx)
 |.build s ps=>oBuild g s ps.toList
 |.call c=>(match c.callee with
  |.builtin b=>blt g b c.argTypes.toList c.args.toList
  |_=>fun _ _=>false)
 |_=>fun _ _=>false
def evR (g:G) (o:Op):T AV→H→(AV→Bool)→Bool:=match o with
 |.load ty a=>oLoad g ty a
 |.lookup ty m key ok=>Zj g ty m key ok
 |.convert src dst x=>oConv g src dst x
 |.call c=>(match c.callee,c.args.toList with
  |.builtin .len,[x]=>fun t h k=>lenK g c.argTypes.toList x t h k
  |_,_=>fun _ _ _=>false)
 |_=>fun _ _ _=>false
def evA (g:G) (o:Op):T AV→H→Pos→K→Bool:=match o with
 |.alloc e=>fun _ h nx k=>oAlloc g e h nx k
 |.box e x=>oBox g e x
 |.buildSlice s n ps=>Mj g s n ps.toList
 |.makeSlice s l c=>On g s l c
 |.makeMap ty r=>Ua g ty r
 |.range ty x=>oRange g ty x
 |_=>fun _ _ _ _=>false
def bltX (g:G) (b:Builtin) (ts:List Nat) (l:List AV) (h:H) (nx:Pos) (k:K):Bool:=match l with
 |[a,c]=>(match b with
  |.append=>Zl g ts a c h nx k
  |.copy=>(match ts with
   |ty::_=>Ki g ty fun ti=>(match ti.shp with
    |.slice e=>Ki g e fun _=>oCopy a c h nx k
    |_=>false)
   |_=>false)
  |.delete=>(match ts with
   |ty::_=>Zk g ty a c h nx k
   |_=>false)
  |.unsafeString=>(match ts with
   |[ty,_]=>oUStr g ty a c h nx k
   |_=>false)
  |_=>false)
 |_=>false
def evX (g:G) (ih:Hc) (o:Op):T AV→H→Pos→K→Bool:=match o with
 |.store ty a x=>oStore g ty a x
 |.mapUpdate ty m key x=>Sv g ty m key x
 |.insert ty m key x=>Sv g ty m key x
 |.next x b=>(match b with
  |true=>oNext x
  |false=>fun _ _ _ _=>false)
 |.call c=>(match c.callee with
  |.value f=>fun t h nx k=>I7 t f fun fv=>opdL t c.args.toList fun l=>ih fv l h nx k
  |.builtin b=>fun t h nx k=>opdL t c.args.toList fun l=>bltX g b c.argTypes.toList l h nx k
  |_=>fun _ _ _ _=>false)
 |_=>fun _ _ _ _=>false
def Aai (g:G) (ih:Hc) (o:Op) (t:T AV) (h:H) (nx:Pos) (k:K):Bool:=match cls g o with
 |0=>evP g o t fun v=>k v h nx
 |1=>evR g o t h fun v=>k v h nx
 |2=>evA g o t h nx k
 |_=>evX g ih o t h nx k
def put (N:Nat) (d:Option Nat) (v:AV) (t:T AV) (k:T AV→Bool):Bool:=match d with
 |none=>k t
 |some d=>fB (Nat.ble N d) false (T.setK und v t (Ay (Nat.succ d)) k)
def Ws (ops:List Oper) (gd:Option (Nat×Bool)) (t:T AV) (y n:Bool):Bool:=match gd with
 |none=>y
 |some (j,want)=>(match ops[j]? with
  |some o=>(match o.dst with
   |some d=>T.getK und t (Ay (Nat.succ d)) fun v=>(match v with
    |.b x=>fB want (fB x y n) (fB x n y)
    |.x=>false
    |_=>n)
   |none=>n)
  |none=>n)
def S8 (g:G) (ih:Hc) (N:Nat) (ops l:List Oper) (t:T AV) (h:H) (nx:Pos) (k:T AV→H→Pos→Bool):Bool:=
 List.rec (motive:=fun _=>T AV→H→Pos→Bool) (fun t h nx=>k t h nx)
  (fun o _ next t h nx=>Ws ops o.guard t (Aai g ih o.op t h nx fun v h nx=>put N o.dst v t fun t=>next t h nx) (put N o.dst und t fun t=>next t h nx)) l t h nx
def O2 (e:Edge):Bool:=match e.ground with
 |.textOnly _=>false
 |.gcOnly _=>false
 |_=>true
def L6 (m i:Nat):Bool:=Nat.beq (Nat.mod (Nat.shiftRight m i) 2) 1
structure En where
 o:Oper
 i:Nat
 m:Nat
 x:Bool
 q:Nat
 ts:List Nat
def rdsK (l:List Operand) (r:List Nat) (k:List Nat→Bool):Bool:=
 List.rec (motive:=fun _=>List Nat→Bool) (fun r=>k r) (fun x _ ih r=>match x with
  |.tmp n=>ih (n::r)
  |_=>ih r) l r
def gtK (ops:List Oper) (gd:Option (Nat×Bool)) (k:List Nat→Bool):Bool:=match gd with
 |none=>k []
 |some (j,_)=>(match ops[j]? with
  |some p=>(match p.dst with
   |some d=>k [d]
   |none=>k [])
  |none=>k [])
def edK (l:List Edge) (acc:T Nat) (s:Nat) (k:Nat→Bool):Bool:=
 List.rec (motive:=fun _=>Nat→Bool) (fun s=>k s) (fun e _ ih s=>match O2 e with
  |true=>T.getK 0 acc (Ay (Nat.succ e.on)) fun m=>fN (Nat.lor (Nat.lor s (Nat.shiftLeft 1 e.on)) m) fun s=>ih s
  |false=>ih s) l s
def cntK (xs:List Nat) (m:Nat) (k:Nat→Bool):Bool:=
 List.rec (motive:=fun _=>(Nat→Bool)→Bool) (fun k=>k 0) (fun x _ ih k=>fB (L6 m x) (ih fun n=>k (Nat.succ n)) (ih k)) xs k
def entK (g:G) (ops l:List Oper) (acc:T Nat) (xs:List Nat) (i:Nat) (k:List En→Bool):Bool:=
 List.rec (motive:=fun _=>T Nat→List Nat→Nat→(List En→Bool)→Bool) (fun _ _ _ k=>k [])
  (fun o _ ih acc xs i k=>edK o.after.toList acc 0 fun m=>gtK ops o.guard fun r=>rdsK o.op.operands.toList r fun ts=>cntK xs m fun q=>T.setK 0 m acc (Ay (Nat.succ i)) fun acc=>
    fB (Nat.beq (cls g o.op) 3) (ih acc (i::xs) (Nat.succ i) fun es=>k (⟨o,i,m,true,q,ts⟩::es)) (ih acc xs (Nat.succ i) fun es=>k (⟨o,i,m,false,q,ts⟩::es))) l acc xs i k
def phK (q:Nat) (l:List En) (r:List En) (k:List En→Bool):Bool:=
 List.rec (motive:=fun _=>(List En→Bool)→Bool) (fun k=>k r) (fun e _ ih k=>fB e.x (ih k) (fB (Nat.beq e.q q) (ih fun r=>k (e::r)) (ih k))) l k
def phsK (all l:List En) (q:Nat) (k:List En→Bool):Bool:=
 List.rec (motive:=fun _=>Nat→(List En→Bool)→Bool) (fun q k=>phK q all [] k)
  (fun e _ ih q k=>fB e.x (ih (Nat.succ q) fun r=>phK q all (e::r) k) (ih q k)) l q k
def memN (x:Nat) (l:List Nat):Bool:=List.rec (motive:=fun _=>Bool) false (fun y _ ih=>fB (Nat.beq x y) true ih) l
def Qh (a b:En):Bool:=match a.o.dst,b.o.dst with
 |some d,some e=>fB (Nat.beq d e) true (fB (memN d b.ts) true (memN e a.ts))
 |some d,none=>memN d b.ts
 |none,some e=>memN e a.ts
 |none,none=>false
def chk1 (e:En) (l:List En):Bool:=
 List.rec (motive:=fun _=>Bool) true (fun f _ ih=>fB (Nat.beq e.i f.i) false (fB (L6 e.m f.i) false (fB (L6 f.m e.i) ih (fB e.x false (fB (Qh e f) false ih))))) l
def chkL (n:Nat) (l:List En):Bool:=List.rec (motive:=fun _=>Bool) true (fun e r ih=>fB (Nat.beq (Nat.shiftRight e.m n) 0) (fB (L6 e.m e.i) false (fB (chk1 e r) ih false)) false) l
def planK (g:G) (ops:List Oper) (k:List En→Bool):Bool:=entK g ops ops .e [] 0 fun es=>phsK es es 0 fun l=>len ops fun n=>len l fun m=>fB (Nat.beq m n) (fB (chkL n l) (k l) false) false
def eqA0 (x y:AV):Bool:=match x,y with
 |.b a,.b b=>fB a b (fB b false true)
 |.i a m,.i b n=>fB (kEq a b) (N2 m n) false
 |.s a,.s b=>Dg a b
 |.p0,.p0=>true
 |.p a m,.p b n=>fB (Kq a b) (Nat.beq m n) false
 |.sl0,.sl0=>true
 |.sl a m n (.k c),.sl b p q (.k d)=>fB (Kq a b) (fB (Nat.beq m p) (fB (Nat.beq n q) (Nat.beq c d) false) false) false
 |.sl a m n (.u c),.sl b p q (.u d)=>fB (Kq a b) (fB (Nat.beq m p) (fB (Nat.beq n q) (Nat.beq c d) false) false) false
 |.m0,.m0=>true
 |.m a,.m b=>Kq a b
 |.nf,.nf=>true
 |_,_=>false
def eqAL (a b:List AV):Bool:=
 List.rec (motive:=fun _=>List AV→Bool) (fun b=>List.rec (motive:=fun _=>Bool) true (fun _ _ _=>false) b)
  (fun x _ ih b=>List.rec (motive:=fun _=>Bool) false (fun y r _=>fB (eqA0 x y) (ih r) false) b) a b
def eqA (x y:AV):Bool:=match x,y with
 |.fn f a,.fn g b=>fB (Nat.beq f g) (eqAL a b) false
 |.ag a,.ag b=>eqAL a b
 |.tu a,.tu b=>eqAL a b
 |x,y=>eqA0 x y
structure Pd where
 o:Oper
 t:T AV
 v:AV
 i:Nat
def Vg (g:G) (m:Nat) (h:H) (ps:List Pd) (k:List Pd→Bool):Bool:=
 List.rec (motive:=fun _=>(List Pd→Bool)→Bool) (fun k=>k [])
  (fun p _ ih k=>match p with|⟨o,t,w,i⟩=>fB (L6 m i) (ih k) (evR g o.op t h fun v=>fB (eqA v w) (ih fun ps=>k (⟨o,t,w,i⟩::ps)) false)) ps k
def Us (n:Nat) (k:T AV→Bool):Bool:=Nat.rec (motive:=fun _=>(T AV→Bool)→Bool) (fun k=>k .e) (fun _ ih k=>ih fun s=>k (.n s .x s)) n k
def mskK (l:List Nat) (f t:T AV) (k:T AV→Bool):Bool:=
 List.rec (motive:=fun _=>T AV→Bool) (fun f=>k f) (fun n _ ih f=>T.getK und t (Ay (Nat.succ n)) fun v=>T.setK und v f (Ay (Nat.succ n)) fun f=>ih f) l f
def stN (g:G) (N:Nat) (e:En) (tm:T AV) (ps:List Pd) (t:T AV) (h:H) (nx:Pos) (k:List Pd→T AV→H→Pos→Bool):Bool:=match cls g e.o.op with
 |0=>evP g e.o.op tm fun v=>put N e.o.dst v t fun t=>k ps t h nx
 |1=>evR g e.o.op tm h fun v=>put N e.o.dst v t fun t=>k (⟨e.o,tm,v,e.i⟩::ps) t h nx
 |2=>evA g e.o.op tm h nx fun v h nx=>put N e.o.dst v t fun t=>k ps t h nx
 |_=>false
def stX (g:G) (ih:Hc) (N:Nat) (e:En) (tm:T AV) (ps:List Pd) (t:T AV) (h:H) (nx:Pos) (k:List Pd→T AV→H→Pos→Bool):Bool:=
 evX g ih e.o.op tm h nx fun v h nx=>Vg g e.m h ps fun ps=>put N e.o.dst v t fun t=>k ps t h nx
def Aaj (g:G) (ih:Hc) (N:Nat) (ops:List Oper) (f:T AV) (l:List En) (ps:List Pd) (t:T AV) (h:H) (nx:Pos) (k:T AV→H→Pos→Bool):Bool:=
 List.rec (motive:=fun _=>List Pd→T AV→H→Pos→Bool) (fun _ t h nx=>k t h nx)
  (fun e _ next ps t h nx=>Ws ops e.o.guard t (mskK e.ts f t fun tm=>fB e.x (stX g ih N e tm ps t h nx next) (stN g N e tm ps t h nx next)) (put N e.o.dst und t fun t=>next ps t h nx)) l ps t h nx
def Ut (g:G) (ih:Hc) (N:Nat) (ops:List Oper) (draw:Bool) (t:T AV) (h:H) (nx:Pos) (k:T AV→H→Pos→Bool):Bool:=
 fB draw (fB (Nat.ble N 1000) (Us (Nat.succ (Nat.log2 N)) fun f=>planK g ops fun l=>Aaj g ih N ops f l [] t h nx k) false) (S8 g ih N ops ops t h nx k)
inductive Ex where
 |nm
 |ex (id:Nat)
 |gt (l:Nat)
 |rt
abbrev KC:=Ex→T AV→List Pos→H→Pos→Bool
def loopK (b:T AV→List Pos→H→Pos→KC→Bool) (n:Nat) (t:T AV) (d:List Pos) (h:H) (nx:Pos) (k:KC):Bool:=
 Nat.rec (motive:=fun _=>T AV→List Pos→H→Pos→KC→Bool) (fun _ _ _ _ _=>false)
  (fun _ ih t d h nx k=>b t d h nx fun e t d h nx=>match e with
    |.nm=>ih t d h nx k
    |e=>k e t d h nx) n t d h nx k
def seqK (b:T AV→List Pos→H→Pos→KC→Bool) (k:KC):KC:=fun e t d h nx=>match e with
 |.nm=>b t d h nx k
 |e=>k e t d h nx
def blkK (id:Nat) (k:KC):KC:=fun e t d h nx=>match e with
 |.ex j=>fB (Nat.beq j id) (k .nm t d h nx) (k (.ex j) t d h nx)
 |e=>k e t d h nx
def condK (c:Operand) (a b:T AV→List Pos→H→Pos→KC→Bool) (t:T AV) (d:List Pos) (h:H) (nx:Pos) (k:KC):Bool:=I7 t c fun v=>match v with
 |.b x=>fB x (a t d h nx k) (b t d h nx k)
 |_=>false
def noGoK (k:KC):KC:=fun e t d h nx=>match e with
 |.gt _=>false
 |e=>k e t d h nx
def rfK (fv:AV) (x:Bool):Bool:=match fv with
 |.fn f _=>fB (Nat.beq f 211) false (fB (Nat.beq f 71) false x)
 |_=>false
def rid (c:Code):Nat:=Code.rec (motive:=fun _=>Nat) 0 (fun i _ _=>i) (fun _ _ a _=>a) (fun _ _ _ a _=>a) (fun _ _ b=>b) (fun _ b=>b) (fun _ _ _ _ _ b=>b) (fun _=>0) (fun _ b=>b) (fun _=>0) (fun _=>0) 0 (fun _=>0) c
def Ur (N:Nat) (lv:LV) (r:Nat) (b:T AV→List Pos→H→Pos→KC→Bool) (t:T AV) (d:List Pos) (h:H) (nx:Pos) (k:KC):Bool:=
 T.getK none lv (Ay (Nat.succ r)) fun o=>match o with
 |some L=>Us (Nat.succ (Nat.log2 N)) fun f=>mskK L f t fun t=>b t d h nx k
 |none=>false
def Tt (lv:LV) (ih:Hc) (N:Nat) (r:Option Pos) (f:Operand) (ps:List Nat) (asg body:Code) (t:T AV) (d:List Pos) (h:H) (nx:Pos) (k:KC):Bool:=match r with
 |some _=>false
 |none=>I7 t f fun fv=>rfK fv (Kj h nx .marks fun dm h nx=>Kj h nx (.loop ⟨lv,.ready,none,t,N,ps,asg,body,dm⟩) fun l h nx=>ih fv [.yl l] h nx fun _ h nx=>Fk h l fun o=>match o with
  |.loop L=>(match L.st with
   |.busy=>false
   |_=>Fa h l .dead fun h=>(match L.pend with
    |none=>k .nm t (dm::d) h nx
    |some c=>(match c with
     |.ret=>k .rt t (dm::d) h nx
     |.exit id=>k (.ex id) t (dm::d) h nx
     |_=>false)))
  |_=>false)
def pickK (ih i0:Hc) (d:List Pos):Hc:=List.rec (motive:=fun _=>Hc) ih (fun _ _ _=>i0) d
def evC (g:G) (B:Nat) (lv:LV) (ih i0:Hc) (N:Nat) (r:Option Pos) (c:Code):T AV→List Pos→H→Pos→KC→Bool:=
 Code.rec (motive:=fun _=>T AV→List Pos→H→Pos→KC→Bool)
  (fun t d h nx k=>k .nm t d h nx)
  (fun _ ops draw t d h nx k=>Ut g (fB draw i0 (pickK ih i0 d)) N ops.toList draw t h nx fun t h nx=>k .nm t d h nx)
  (fun _ _ a b t d h nx k=>a t d h nx (seqK b k))
  (fun c _ _ a b=>condK c a b)
  (fun id _ b t d h nx k=>b t d h nx (blkK id k))
  (fun c b=>loopK (Ur N lv (rid c) b) B)
  (fun f ps asg body _ _=>Tt lv i0 N r f ps.toList asg body)
  (fun id t d h nx k=>k (.ex id) t d h nx)
  (fun _ b t d h nx k=>b t d h nx (noGoK k))
  (fun _ t d h nx k=>k .nm t d h nx)
  (fun l t d h nx k=>k (.gt l) t d h nx)
  (fun t d h nx k=>k .rt t d h nx)
  (fun _ _ _ _ _ _=>false) c
def layT (l:List AV) (t:T AV) (i:Nat) (k:T AV→Bool):Bool:=
 List.rec (motive:=fun _=>T AV→Nat→Bool) (fun t _=>k t) (fun v _ ih t i=>T.setK und v t (Ay (Nat.succ i)) fun t=>ih t (Nat.succ i)) l t i
def layP (N:Nat) (ps:List Nat) (l:List AV) (t:T AV) (k:T AV→Bool):Bool:=
 List.rec (motive:=fun _=>List AV→T AV→Bool) (fun l t=>List.rec (motive:=fun _=>Bool) (k t) (fun _ _ _=>false) l)
  (fun p _ ih l t=>List.rec (motive:=fun _=>Bool) false (fun v r _=>put N (some p) v t fun t=>ih r t) l) ps l t
def appA (a b:List AV) (k:List AV→Bool):Bool:=
 List.rec (motive:=fun _=>(List AV→Bool)→Bool) (fun k=>k b) (fun x _ ih k=>ih fun r=>k (x::r)) a k
def R4 (d:List Pos) (h:H) (k:H→Bool):Bool:=
 List.rec (motive:=fun _=>H→Bool) (fun h=>k h) (fun p _ ih h=>Fk h p fun o=>match o with
  |.marks=>Fa h p .dead ih
  |_=>false) d h
def resK (g:G) (rs:List ResultVar) (t:T AV) (h:H) (k:List AV→Bool):Bool:=
 List.rec (motive:=fun _=>(List AV→Bool)→Bool) (fun k=>k [])
  (fun r _ ih k=>match r with
    |.tmp n=>T.getK und t (Ay (Nat.succ n)) fun v=>ih fun l=>k (v::l)
    |.cell a ty=>oLoad g ty (.tmp a) t h fun v=>ih fun l=>k (v::l)) rs k
def retK (l:List AV) (h:H) (nx:Pos) (k:K):Bool:=match l with
 |[v]=>k v h nx
 |l=>k (.tu l) h nx
def ext (f:Nat) (l:List AV) (h:H) (nx:Pos) (k:K):Bool:=match f,l with
 |211,[x]=>k x h nx
 |71,[.i .u64 (.ofNat a),.i .u64 (.ofNat b),.i .u64 (.ofNat c)]=>fB (Nat.ble c 1) (fN (Nat.mod (Nat.add (Nat.add a b) c) 18446744073709551616) fun m=>fN (Nat.div (Nat.add (Nat.add a b) c) 18446744073709551616) fun n=>
  k (.tu [.i .u64 (Int.ofNat m),.i .u64 (Int.ofNat n)]) h nx) false
 |_,_=>false
def N0 (cs:T AV) (L:List (Int×Int)):Prop:=∀i p,L[i]?=some p→T.get .x cs (Ay (2*i+1))=.i .i64 p.1∧T.get .x cs (Ay (2*i+2))=.i .i64 p.2
def Srt (cs:T AV) (n:Nat) (cs':T AV):Prop:=∃L L':List (Int×Int),L.length=n∧N0 cs L∧L'.Perm L∧L'.Pairwise (fun a b=>a.1<b.1)∧(∀p∈L,0≤p.1∧p.1<4294967296)∧N0 cs' L'∧∀i,2*n≤i→T.get .x cs' (Ay (i+1))=T.get .x cs (Ay (i+1))
def srtK (cs:T AV) (n:Nat) (k:T AV→Bool):Bool:=match Classical.propDecidable (∃cs',Srt cs n cs')with
 |.isTrue h=>k h.choose
 |.isFalse _=>false
def orcK (f:Nat) (l:List AV) (h:H) (nx:Pos) (k:K):Bool:=match f,l with
 |104,[.s a,.s b]=>fB (Nat.ble a.length 4294967280) (Fk h (Ay 2) fun o=>match o with
  |.cells 1 (.n _ (.i .i64 _) _) _ _ _=>k (.i .i64 (Wf a b)) h nx
  |_=>false) false
 |70,[.i .u64 (.ofNat a),.i .u64 (.ofNat b)]=>fB (Nat.ble a 18446744073709551615) (fB (Nat.ble b 18446744073709551615) (k (.tu [.i .u64 (.ofNat (P9 a b)),.i .u64 (.ofNat (R1 a b))]) h nx) false) false
 |75,[.s a,.i .u8 (.ofNat c)]=>k (.i .i64 (Ft a c)) h nx
 |124,[.s a,.s b]=>fB (Nat.ble a.length 4294967280) (fB (Nat.ble b.length 4294967280) (fB (b.all fun x=>Nat.ble x 127) (k (.s (trimR a b)) h nx) false) false) false
 |116,[.sl id 0 n _,.fn 117 []]=>fB (Nat.ble 1 n) (fB (Nat.ble n 4294967280) (Fk h id fun o=>match o with
  |.cells N cs 0 false ty=>fB (Nat.ble (2*n) N) (srtK cs n fun cs'=>Fa h id (.cells N cs' 0 false ty) fun h=>k (.tu []) h nx) false
  |_=>false) false) false
 |_,_=>false
def isOrc (f:Nat):Bool:=match f with
 |104=>true
 |75=>true
 |124=>true
 |116=>true
 |70=>true
 |_=>false
def enter (g:G) (B:Nat) (ih:L8) (kp:KP) (f:Nat) (l:List AV) (h:H) (nx:Pos) (k:K):Bool:=T.getK none g.fn (Ay (Nat.succ f)) fun o=>match o with
 |some fn=>(match fn.body with
  |none=>ext f l h nx k
  |some c=>len l fun n=>fB (Nat.ble n fn.ntmps) (layT l .e 0 fun t=>T.getK none g.lv (Ay (Nat.succ f)) fun o=>match o with
   |some lv=>evC g B lv (ih kp) (ih fun _ _=>false) fn.ntmps none c t [] h nx fun e t d h nx=>(match e with
    |.nm=>R4 d h fun h=>resK g fn.results.toList t h fun l=>retK l h nx k
    |.rt=>R4 d h fun h=>resK g fn.results.toList t h fun l=>retK l h nx k
    |_=>false)
   |none=>false) false)
 |none=>false
def failK (kp:KP) (l:List AV) (h:H) (nx:Pos):Bool:=match l with
 |[.p id off]=>rd1 h id (Nat.succ off) fun v=>asI v fun _ _=>kp h nx
 |_=>false
def fitsK (ih:L8) (l:List AV) (h:H) (nx:Pos) (k:K):Bool:=match l with
 |[fv]=>ih (fun h nx=>k (.b false) h nx) fv [] h nx fun _ h nx=>k (.b true) h nx
 |_=>false
def fnK (g:G) (B:Nat) (ih:L8) (kp:KP) (f:Nat) (l:List AV) (h:H) (nx:Pos) (k:K):Bool:=
 fB (Nat.beq f g.pf) (failK kp l h nx) (fB (Nat.beq f g.ft) (fitsK ih l h nx k) (fB (isOrc f) (orcK f l h nx k) (enter g B ih kp f l h nx k)))
def yld (g:G) (B:Nat) (ih:Hc) (l:Pos) (a:List AV) (h:H) (nx:Pos) (k:K):Bool:=Fk h l fun o=>match o with
 |.loop L=>layP L.N L.ps a L.tm fun t=>evC g B L.lv ih ih L.N (some l) L.asg t [] h nx fun e t d h nx=>(match e with
  |.nm=>Fk h l fun o=>(match o with
   |.loop M=>(match M.st with
    |.ready=>Fa h l (.loop ⟨M.lv,.busy,M.pend,M.tm,M.N,M.ps,M.asg,M.body,M.df⟩) fun h=>evC g B L.lv ih ih L.N (some l) L.body t d h nx fun e _ _ h nx=>Fk h l fun o=>(match o with
     |.loop M=>(match e with
      |.nm=>Fa h l (.loop ⟨M.lv,.ready,none,M.tm,M.N,M.ps,M.asg,M.body,M.df⟩) fun h=>k (.b true) h nx
      |.rt=>Fa h l (.loop ⟨M.lv,.done,some .ret,M.tm,M.N,M.ps,M.asg,M.body,M.df⟩) fun h=>k (.b false) h nx
      |.ex id=>Fa h l (.loop ⟨M.lv,.done,some (.exit id),M.tm,M.N,M.ps,M.asg,M.body,M.df⟩) fun h=>k (.b false) h nx
      |.gt _=>false)
     |_=>false)
    |_=>false)
   |_=>false)
  |_=>false)
 |_=>false
def callS (g:G) (B:Nat) (ih:L8):L8:=fun kp fv l h nx k=>match fv with
 |.fn f c=>appA l c fun l=>fnK g B ih kp f l h nx k
 |.fb f c=>appA c l fun l=>fnK g B ih kp f l h nx k
 |.yl p=>yld g B (ih fun _ _=>false) p l h nx k
 |_=>false
def Ai (g:G) (n:Nat):L8:=Nat.rec (motive:=fun _=>L8) (fun _ _ _ _ _ _=>false) (fun B ih=>callS g B ih) n
end
end Go.CE
namespace Go.GV
open Go.RowKit
variable {H : Type} {enc : TypeId × Value → H} {P : Program} {w : World}
def TrZ (enc:TypeId×Value→H) (P:Program) (w:World) (t:TypeId) (cs:List Value):Prop:=
 ∃fuel x,DataW.trod enc P w 0 (fun _=>true) true fuel t cs=some x∧∀k∈x.1.weights P t,k≤reachBytes
theorem TrZ.tr {t:TypeId} {cs:List Value} (h:TrZ enc P w t cs):Tr enc P w t cs:=by
 obtain⟨f,x,h1,_⟩:=h
 exact⟨f,x,h1⟩
theorem TrZ.strct {t:TypeId} {cs:List Value} {fs:Array Field} (ht:P.underlying t=some (.struct fs)) (h1:Go.Deep.oneCellFields P fs=true) (h:TrZ enc P w t cs) :
 cs.length=P.cellsOf t∧∀(j:Nat) (f:Field) (x:Value),fs[j]?=some f→cs[j]?=some x→TrZ enc P w f.type [x]:=by
 obtain⟨fu,y,h,hz⟩:=h
 obtain⟨xs,n,_,hy,hl,hxl,hf⟩:=DataW.trod_struct ht h
 refine⟨hl,fun j f x hj hx=>?_⟩
 obtain⟨ho,hk⟩:=Go.Deep.hone_of h1 j f hj
 have h2:=hf j f hj
 have hjl:j<fs.size:=(O5.1 hj).1
 have hxs:xs[j]?=some (xs[j]'(by omega)):=B8 (by omega)
 rw[ho,hk,hxs]at h2
 have e:(cs.drop j).take 1=[x]:=by
  obtain⟨hjc,hxe⟩:=Gn.1 hx
  rw[Ly hjc,hxe];rfl
 rw[e]at h2
 refine⟨n,_,h2,fun k hk2=>hz k ?_⟩
 rw[hy]
 simp only[DataW.weights,ht]
 exact DataW.weights_mem_each (j:=j) (by rw[G5,Array.getElem?_toList,hj];rfl) (by rw[G5,hxs];rfl) k hk2
theorem TrZ.of {ts:List TypeId} {ds:List (DataW H)} (hz:(DataW.weightsEach P ts ds).all (·≤reachBytes)=true) {j:Nat} {t:TypeId} {v:Value} {d:DataW H} {p:List MemPlace}
 (ht:ts[j]?=some t) (hd:ds[j]?=some d) (h:DataW.Trod enc P w 0 (fun _=>true) true t v d p):TrZ enc P w t v.cells.toList:=by
 obtain⟨fuel,hf⟩:=h
 refine⟨fuel,_,hf,fun k hk=>?_⟩
 have:=List.all_eq_true.1 hz k (DataW.weights_mem_each ht hd k hk)
 simpa using this
end Go.GV
