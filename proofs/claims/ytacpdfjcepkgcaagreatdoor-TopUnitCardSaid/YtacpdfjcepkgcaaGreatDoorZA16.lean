/- Part 16 of the lemmas behind the claim. -/
import Derived.Test.YtacpdfjcepkgcaaGreatDoorZA01
import Derived.Test.YtacpdfjcepkgcaaGreatDoorZA15
import Derived.RangeFuncRecord
set_option linter.unusedSimpArgs false
set_option linter.unusedVariables false
set_option linter.constructorNameAsVariable false
set_option linter.unusedSectionVars false
set_option linter.defProp false
set_option maxRecDepth 100000
set_option maxHeartbeats 40000000
namespace Go.CE
open Go.GV (TI Shp TIok FR oneB noGo)
open Go.RowKit
noncomputable def Oa:Nat→T AV
 |0=>.e
 |n+1=>.n (Oa n) .x (Oa n)
theorem Qe:∀(n:Nat) (k:T AV→Bool),Us n k=k (Oa n)
 |0,_=>rfl
 |n+1,k=>by
  show Us n (fun s=>k (.n s .x s))=_
  rw[Qe n];rfl
theorem Nt:∀(n:Nat) (p:Pos),T.get und (Oa n) p=.x∨(T.get und (Oa n) p=und∧2^n≤p.toN)
 |0,p=>.inr ⟨X4 _ _,by have:=Pos.pos p;simpa using this⟩
 |n+1,.h=>.inl rfl
 |n+1,.o p=>by
  rcases Nt n p with h|⟨h1,h2⟩
  · exact .inl h
  · exact .inr ⟨h1,by simp only[Pos.toN,Nat.pow_succ];omega⟩
 |n+1,.i p=>by
  rcases Nt n p with h|⟨h1,h2⟩
  · exact .inl h
  · exact .inr ⟨h1,by simp only[Pos.toN,Nat.pow_succ];omega⟩
noncomputable def msk (t:T AV):List Nat→T AV→T AV
 |[],f=>f
 |n::r,f=>msk t r (T.set und (T.get und t (Ay (n+1))) f (Ay (n+1)))
theorem Sx (t:T AV):∀(l:List Nat) (f:T AV) (k:T AV→Bool),mskK l f t k=k (msk t l f)
 |[],_,_=>rfl
 |n::r,f,k=>by
  show T.getK und t (Ay (Nat.succ n)) (fun v=>T.setK und v f (Ay (Nat.succ n)) fun f=>mskK r f t k)=_
  rw[Db,Ni,Sx t r];rfl
theorem Sw (t:T AV) (i:Nat):∀(l:List Nat) (f:T AV),T.get und (msk t l f) (Ay (i+1))=if i∈l then T.get und t (Ay (i+1))else T.get und f (Ay (i+1))
 |[],f=>by simp[msk]
 |n::r,f=>by
  simp only[msk]
  rw[Sw t i r,Lu]
  by_cases h1:i∈r
  · simp[h1]
  · by_cases h2:i=n
    · subst h2;simp
    · rw[if_neg h1,if_neg (fun e=>h2 (by have:=Mi e;omega)),if_neg (by simp[h1,h2])]
theorem TR.mskL {m:Mp} {N:Nat} {t:T AV} {tm:Array Value} (T0:TR m N t tm) (L:List Nat):TR m N (msk t L (Oa (Nat.log2 N+1))) tm:=by
 refine⟨T0.size,T0.glob,fun i=>?_⟩
 rw[Sw]
 by_cases hi:i∈L
 · rw[if_pos hi];exact T0.get i
 · rw[if_neg hi]
   rcases Nt (Nat.log2 N+1) (Ay (i+1))with h1|⟨h1,h2⟩
   · rw[h1];exact .x _
   · rw[h1]
     rw[Mh (by omega)]at h2
     have hN:N<2^(Nat.log2 N+1):=Nat.lt_log2_self
     have:tm.getD i undef=undef:=by
      rw[Kf,Array.getElem?_eq_none (by rw[T0.size];omega)];rfl
     rw[this];exact Mb m
def exC:Ex→Exit
 |.nm=>.normal
 |.ex id=>.exit id
 |.gt l=>.goto l
 |.rt=>.ret
def DR (m:Mp):List Pos→List Deferred→Prop
 |[],[]=>True
 |p::r,x::s=>(∃l,m p=some l∧x.target=.collected l.blk)∧DR m r s
 |_,_=>False
theorem DR.mono {m m':Mp} (hm:m.le m'):∀ {d:List Pos} {s:List Deferred},DR m d s→DR m' d s
 |[],[],_=>trivial
 |_::_,_::_,⟨⟨l,h1,h2⟩,h3⟩=>⟨⟨l,hm _ _ h1,h2⟩,DR.mono hm h3⟩
def Wq (N:Nat) (r:Option Pos) (W:Option Nat→(Exit→Act→World→Prop)→Act→World→Prop) (t:T AV) (d:List Pos) (h:H) (nx:Pos) (e:Ex) (t':T AV) (d':List Pos) (h':H) (nx':Pos):Prop:=
 ∀m (a:Act) w ro (Q:Exit→Act→World→Prop),Mem m h nx w→TR m N t a.tmps→RR m r ro→DR m d a.defers →
  (∀m' a' w',Mem m' h' nx' w'→TR m' N t' a'.tmps→DR m' d' a'.defers→Ext m h nx w m' h' nx' w'→Q (exC e) a' w')→W ro Q a w
def Sh (N:Nat) (r:Option Pos) (W:Option Nat→(Exit→Act→World→Prop)→Act→World→Prop) (t:T AV) (d:List Pos) (h:H) (nx:Pos) (h':H) (nx':Pos):Prop:=
 ∀m (a:Act) w ro (Q:Exit→Act→World→Prop),Mem m h nx w→TR m N t a.tmps→RR m r ro→DR m d a.defers →
  (∀ch m' a' w',PanCh ch→Mem m' h' nx' w'→a'.defers=[]→Ext m h nx w m' h' nx' w'→Q (.panic ch) a' w')→W ro Q a w
def KRes (N:Nat) (r:Option Pos) (W:Option Nat→(Exit→Act→World→Prop)→Act→World→Prop) (t:T AV) (d:List Pos) (h:H) (nx:Pos) (k:KC) (kp:KP):Prop:=
 (∃e t' d' h' nx',k e t' d' h' nx'=true∧Wq N r W t d h nx e t' d' h' nx')∨(∃h' nx',kp h' nx'=true∧Sh N r W t d h nx h' nx')
def O7 (P:Program) (g:G) (ih:Hc):Prop:=∀(r:Option Pos) (N id:Nat) (ops:Array Oper) (t:T AV) (h:H) (nx:Pos) (k:T AV→H→Pos→Bool),Ut g ih N ops.toList true t h nx k=true →
 ∃t' h' nx',k t' h' nx'=true∧Nxt P N r t h nx t' h' nx' fun ro Q a w=>(Code.region id ops true).wpIn (FR ro) 0 P Q a w
variable {P : Program} {g : G} {ih : Hc} {N : Nat} {r : Option Pos}
theorem Wq.seq {W1 W2 W:Option Nat→(Exit→Act→World→Prop)→Act→World→Prop} {t t1 t':T AV} {d d1 d':List Pos} {h h1 h':H} {nx nx1 nx':Pos} {e:Ex}
 (hW:∀ro Q a w,W1 ro (Exit.then (W2 ro Q) Q) a w→W ro Q a w) (a1:Wq N r W1 t d h nx .nm t1 d1 h1 nx1) (a2:Wq N r W2 t1 d1 h1 nx1 e t' d' h' nx'):Wq N r W t d h nx e t' d' h' nx':=fun m a w ro Q M T0 R D K=>
 hW ro Q a w (a1 m a w ro _ M T0 R D fun m1 b w1 M1 T1 D1 E1=>a2 m1 b w1 ro Q M1 T1 (R.mono E1.le) D1 fun m2 b2 w2 M2 T2 D2 E2=>K m2 b2 w2 M2 T2 D2 (E1.trans E2))
theorem Sh.seq {W1 W2 W:Option Nat→(Exit→Act→World→Prop)→Act→World→Prop} {t t1:T AV} {d d1:List Pos} {h h1 h':H} {nx nx1 nx':Pos}
 (hW:∀ro Q a w,W1 ro (Exit.then (W2 ro Q) Q) a w→W ro Q a w) (a1:Wq N r W1 t d h nx .nm t1 d1 h1 nx1) (a2:Sh N r W2 t1 d1 h1 nx1 h' nx'):Sh N r W t d h nx h' nx':=fun m a w ro Q M T0 R D K=>
 hW ro Q a w (a1 m a w ro _ M T0 R D fun m1 b w1 M1 T1 D1 E1=>a2 m1 b w1 ro Q M1 T1 (R.mono E1.le) D1 fun ch m2 b2 w2 hp M2 D2 E2=>K ch m2 b2 w2 hp M2 D2 (E1.trans E2))
theorem Sh.post {W1 W:Option Nat→(Exit→Act→World→Prop)→Act→World→Prop} {t:T AV} {d:List Pos} {h h':H} {nx nx':Pos} (f:Option Nat→(Exit→Act→World→Prop)→Exit→Act→World→Prop)
 (hW:∀ro Q a w,W1 ro (f ro Q) a w→W ro Q a w) (hf:∀ro Q ch a w,Q (.panic ch) a w→f ro Q (.panic ch) a w) (a1:Sh N r W1 t d h nx h' nx'):Sh N r W t d h nx h' nx':=fun m a w ro Q M T0 R D K=>
 hW ro Q a w (a1 m a w ro _ M T0 R D fun ch m1 b w1 hp M1 D1 E1=>hf ro Q ch b w1 (K ch m1 b w1 hp M1 D1 E1))
def rnds (P:Program) (c:Code) (ro:Option Nat) (Q:Exit→Act→World→Prop):Nat→Act→World→Prop
 |0,_,_=>False
 |n+1,a,w=>c.wpIn (FR ro) 0 P (Exit.then (rnds P c ro Q n) Q) a w
theorem loop_of {c:Code} {ro:Option Nat} {Q:Exit→Act→World→Prop} {n:Nat} {a:Act} {w:World} (h:rnds P c ro Q n a w):(Code.loop c).wpIn (FR ro) 0 P Q a w:=by
 refine GV.wpIn_loop_ghost (fun(s:Nat) a w=>rnds P c ro Q s a w) (fun s=>s) n h fun s a w hs=>?_
 cases s with
 |zero=>exact hs.elim
 |succ s=>
  have hs':c.wpIn (FR ro) 0 P (Exit.then (rnds P c ro Q s) Q) a w:=hs
  refine Code.wpIn_mono (fun e b w' hq=>?_) hs'
  cases e with
  |normal=>exact⟨s,hq,Nat.lt_succ_self s⟩
  |_=>exact hq
theorem loopK_ok {c:Code} {kp:KP} {b:T AV→List Pos→H→Pos→KC→Bool}
 (hb:∀t d h nx k,b t d h nx k=true→KRes N r (fun ro Q a w=>c.wpIn (FR ro) 0 P Q a w) t d h nx k kp) :
 ∀n t d h nx k,loopK b n t d h nx k=true→KRes N r (fun ro Q a w=>rnds P c ro Q n a w) t d h nx k kp
 |0,_,_,_,_,_,h=>by cases h
 |n+1,t,d,h,nx,k,he=>by
  rcases hb _ _ _ _ _ he with⟨e,t1,d1,h1,nx1,hk,hS⟩|⟨h1,nx1,hk,hS⟩
  · cases e with
    |nm=>
     rcases loopK_ok hb n t1 d1 h1 nx1 k hk with⟨e',t',d',h',nx',hk',hS'⟩|⟨h',nx',hk',hS'⟩
     · exact .inl ⟨e',t',d',h',nx',hk',Wq.seq (W1:=fun ro Q a w=>c.wpIn (FR ro) 0 P Q a w) (W2:=fun ro Q a w=>rnds P c ro Q n a w) (fun ro Q a w hx=>hx) hS hS'⟩
     · exact .inr ⟨h',nx',hk',Sh.seq (W1:=fun ro Q a w=>c.wpIn (FR ro) 0 P Q a w) (W2:=fun ro Q a w=>rnds P c ro Q n a w) (fun ro Q a w hx=>hx) hS hS'⟩
    |ex id=>exact .inl ⟨_,_,_,_,_,hk,fun m a w ro Q M T0 R D K=>hS m a w ro _ M T0 R D fun m1 b w1 M1 T1 D1 E1=>K m1 b w1 M1 T1 D1 E1⟩
    |gt l=>exact .inl ⟨_,_,_,_,_,hk,fun m a w ro Q M T0 R D K=>hS m a w ro _ M T0 R D fun m1 b w1 M1 T1 D1 E1=>K m1 b w1 M1 T1 D1 E1⟩
    |rt=>exact .inl ⟨_,_,_,_,_,hk,fun m a w ro Q M T0 R D K=>hS m a w ro _ M T0 R D fun m1 b w1 M1 T1 D1 E1=>K m1 b w1 M1 T1 D1 E1⟩
  · exact .inr ⟨h1,nx1,hk,Sh.post (W1:=fun ro Q a w=>c.wpIn (FR ro) 0 P Q a w) (fun ro Q=>Exit.then (rnds P c ro Q n) Q) (fun ro Q a w hx=>hx) (fun ro Q ch a w hq=>hq) hS⟩
theorem headK_ok {c:Code} {kp:KP} {lv:LV} {i:Nat} {b:T AV→List Pos→H→Pos→KC→Bool} (hb:∀t d h nx k,b t d h nx k=true→KRes N r (fun ro Q a w=>c.wpIn (FR ro) 0 P Q a w) t d h nx k kp)
 (t d h nx k) (he:Ur N lv i b t d h nx k=true):KRes N r (fun ro Q a w=>c.wpIn (FR ro) 0 P Q a w) t d h nx k kp:=by
 unfold Ur at he
 rw[Db]at he
 split at he
 · rename_i L _
   rw[Qe,Sx]at he
   rcases hb _ _ _ _ _ he with⟨e,t1,d1,h1,nx1,hk,hS⟩|⟨h1,nx1,hk,hS⟩
   · exact .inl ⟨e,t1,d1,h1,nx1,hk,fun m a w ro Q M T0 R D K=>hS m a w ro Q M (T0.mskL L) R D K⟩
   · exact .inr ⟨h1,nx1,hk,fun m a w ro Q M T0 R D K=>hS m a w ro Q M (T0.mskL L) R D K⟩
 · cases he
theorem rfK_inv {fv:AV} {x:Bool} (h:rfK fv x=true):(∃f c,fv=.fn f c∧f≠211∧f≠71)∧x=true:=by
 unfold rfK at h
 split at h
 · rename_i f c
   obtain⟨h1,h⟩:=Jg h
   obtain⟨h2,h⟩:=Jg h
   exact⟨⟨f,c,rfl,fun e=>(by subst e;cases h1),fun e=>(by subst e;cases h2)⟩,h⟩
 · cases h
theorem rangeK_ok (hih:Kh P ih) {f:Operand} {ps:Array Tmp} {asg body:Code} {t:T AV} {d:List Pos} {h:H} {nx:Pos} {k:KC} {lv:LV} (he:Tt lv ih N r f ps.toList asg body t d h nx k=true) :
 ∃e t' d' h' nx',k e t' d' h' nx'=true∧Wq N r (fun ro Q a w=>(Code.rangeFunc f ps asg body).wpIn (FR ro) 0 P Q a w) t d h nx e t' d' h' nx':=by
 unfold Tt at he
 split at he
 · cases he
 · rw[Cg]at he
   obtain⟨⟨f0,c0,hfv,h79,h147⟩,he⟩:=rfK_inv he
   obtain⟨hd1,he⟩:=Gk he
   obtain⟨hd2,he⟩:=Gk he
   obtain⟨v,h3,nx3,he,hC⟩:=hih _ _ _ _ _ he
   rw[Cz]at he
   have common:∀m (a:Act) w,Mem m h nx w→TR m N t a.tmps→DR m d a.defers→∀fn (Q:Exit→Act→World→Prop) (L:AL),hg h3 (Ad nx)=.loop L→L.st≠.busy →
    (∀m' (a':Act) w',a'.tmps=a.tmps→Mem m' (hs h3 (Ad nx) .dead) nx3 w'→TR m' N t a'.tmps→DR m' (nx::d) a'.defers→Ext m h nx w m' (hs h3 (Ad nx) .dead) nx3 w' →
      (match L.pend with
       |none=>Q .normal a' w'
       |some c=>c.wpIn (FR none) 0 P Q a' w')) →
    ∃(l:Nat) (mark:List Deferred) (w₁:World) (d:Deferred) (w₁':World) (f':FuncId) (args:Array Value) (w₂:World),
     (Instr.enterLoop fn a.tmps ps asg body none).run P w=.ok (l,mark) w₁ ∧
     (resolve a.eval (rangeCall f l) 0).run P w₁=.ok d w₁' ∧
     (∀f',Target.leads P w₁' d.target d.args=some f'→(FR none).fn f') ∧
     (invoke d.target d.args).run P w₁'=.ok (.enter f' args) w₂ ∧
     ((FR none).depth.isSome=true→1≤0) ∧
     CallsIn (FR none) (0-1) P f' args w₂ (rangePost (FR none) 0 P l Q {a with defers:=mark++a.defers}):=fun m a w M T0 D fn Q L hL hst K=>by
    have hen:=run_enterLoop_outer (P:=P) (w:=w) fn a.tmps ps asg body
    obtain⟨M1,E1⟩:=M.new (l:=⟨w.heap.size,0,0⟩) (o:=.marks) (ob:=.deferred (some [])) rfl rfl (fun x=>x) (I1 w _)
    have T1:=T0.mono E1.le
    have hle2:=Mr (l:=⟨w.heap.size+1,0,0⟩) M1.ids
    have hbl:(w.alloc (.deferred (some []))).heap.size=w.heap.size+1:=Hh w _
    obtain⟨M2,E2⟩:=M1.new (l:=⟨w.heap.size+1,0,0⟩) (o:=.loop ⟨lv,.ready,none,t,N,ps.toList,asg,body,nx⟩)
     (ob:=.loop {state:=.ready,pending:=none,fn,tmps:=a.tmps,params:=ps,assign:=asg,body,defers:=w.heap.size}) hbl.symm rfl (fun x=>x)
     ⟨_,by rw[←hbl];exact I1 _ _,⟨rfl,rfl,T1.mono hle2,rfl,rfl,rfl⟩⟩
    have T2:=T1.mono E2.le
    have hl2:Pf (Pf m nx ⟨w.heap.size,0,0⟩) (Ad nx) ⟨w.heap.size+1,0,0⟩ (Ad nx)=some ⟨w.heap.size+1,0,0⟩:=Cv _ _ _
    obtain⟨s,hs2⟩:=T2.glob
    obtain⟨dd,c1,c2,c3⟩:=hC _ _ (a.eval f) [.func (.yield (w.heap.size+1)) #[] #[]] s M2 hs2 (A7 T2 f) (.cons (.yl hl2) (.nil _))
    obtain⟨args,c3⟩:=c3 f0 c0 hfv h79 h147
    rw[c3]at c2
    refine⟨_,_,_,dd,_,f0,args,_,hen,?_,fun _ _=>trivial,c3,fun x=>(by cases x),?_⟩
    · simp only[resolve,rangeCall]
      rw[show Array.map a.eval #[Operand.const (Value.func (Fn.yield (w.heap.size+1)) #[] #[])]=#[Value.func (Fn.yield (w.heap.size+1)) #[] #[]] by simp[Act.eval]]
      exact c1
    · refine CallsIn.mono c2 fun e w3 hR=>?_
      cases e with
      |panicked _=>exact hR.elim
      |outgrown=>exact hR.elim
      |returned cv=>
       obtain⟨m3,b1,M3,E3⟩:=hR
       have hl3:=E3.le _ _ hl2
       have ob:=M3.ob _ _ hl3
       rw[hL]at ob
       obtain⟨cl,o1,o2⟩:=ob
       have hend:=run_endLoop (P:=P) o1 (by rw[o2.st];exact hst)
       have hlt:=M3.bl _ _ hl3
       obtain⟨M4,E4⟩:=M3.drop (w':=w3.putObj (w.heap.size+1) (.loop {cl with state:=.exhausted})) hl3 (by rw[hL];intro c;cases c) (by rw[hL];exact fun x=>x)
        (fun b hb=>World.putObj_heap_other hb) (by simp) rfl rfl rfl
       have EE:=((E1.trans E2).trans E3).trans E4
       refine⟨_,_,hend,?_⟩
       have fin:=K m3 {a with defers:=[{target:=.collected w.heap.size,args:=#[]}]++a.defers} _ rfl M4 (T0.mono EE.le) ⟨⟨⟨w.heap.size,0,0⟩,E3.le _ _ (E2.le _ _ (Cv _ _ _)),rfl⟩,D.mono EE.le⟩ EE
       rw[←o2.pend]at fin
       exact fin
   split at he
   · rename_i L hL
     have fin:∀ {e:Ex},L.st≠.busy→k e t (nx::d) (hs h3 (Ad nx) .dead) nx3=true→(∀(Q:Exit→Act→World→Prop) a' w',Q (exC e) a' w'→(match L.pend with
          |none=>Q .normal a' w'
          |some c=>c.wpIn (FR none) 0 P Q a' w'))→∃e t' d' h' nx',k e t' d' h' nx'=true∧Wq N none (fun ro Q a w=>(Code.rangeFunc f ps asg body).wpIn (FR ro) 0 P Q a w) t d h nx e t' d' h' nx':=@fun e hst hk hx=>by
      refine⟨_,_,_,_,_,hk,fun m a w ro Q M T0 R D K=>?_⟩
      cases ro with
      |some _=>exact R.elim
      |none=>exact wpIn_rangeFunc fun fn _=>common m a w M T0 D fn Q L hL hst fun m' a' w' ha M' T' D' E'=>hx Q a' w' (K m' a' w' M' T' D' E')
     split at he
     · cases he
     · rename_i hnb
       rw[Di]at he
       have hst:L.st≠.busy:=fun c=>hnb c
       split at he
       · rename_i hp
         exact fin hst he fun Q a' w' hq=>by rw[hp];exact hq
       · rename_i c hp
         split at he
         · exact fin hst he fun Q a' w' hq=>by rw[hp];exact wpIn_ret hq
         · exact fin hst he fun Q a' w' hq=>by rw[hp];exact wpIn_exit hq
         · cases he
   · cases he
theorem evC_ok {i0:Hc} {kp:KP} {B:Nat} {lv:LV} (hG:GOK P g) (hU:UOK P g) (hih:Ez P kp ih) (h0:Kh P i0) (hD:O7 P g i0) (c:Code):∀t d h nx (k:KC),evC g B lv ih i0 N r c t d h nx k=true →
 KRes N r (fun ro Q a w=>c.wpIn (FR ro) 0 P Q a w) t d h nx k kp:=by
 induction c with
 |skip=>exact fun t d h nx k he=>.inl ⟨_,_,_,_,_,he,fun m a w ro Q M T0 R D K=>wpIn_skip (K m a w M T0 D (.refl m h nx w))⟩
 |region id ops draw=>
  intro t d h nx k he
  have he':Ut g (fB draw i0 (pickK ih i0 d)) N ops.toList draw t h nx (fun t h nx=>k .nm t d h nx)=true:=he
  have fin:(∃t' h' nx',k .nm t' d h' nx'=true∧Nxt P N r t h nx t' h' nx' fun ro Q a w=>(Code.region id ops draw).wpIn (FR ro) 0 P Q a w)→_:=fun⟨t',h',nx',hk,hN⟩=>
   (.inl ⟨.nm,t',d,h',nx',hk,fun m a w ro Q M T0 R D K=>hN m a w ro Q M T0 R fun m' a' w' M' T' hdf E'=>K m' a' w' M' T' (hdf▸D.mono E'.le) E'⟩ :
     KRes N r (fun ro Q a w=>(Code.region id ops draw).wpIn (FR ro) 0 P Q a w) t d h nx k kp)
  cases draw with
  |true=>exact fin (hD r N id ops t h nx _ he')
  |false=>
   have hp:Ez P (fun h nx=>match d with|[]=>kp h nx|_=>false) (pickK ih i0 d):=by
    cases d with
    |nil=>exact hih
    |cons _ _=>exact h0.pan
   rcases Mw hG hU r hp (ops:=ops) (N:=N) (k:=fun t h nx=>k .nm t d h nx) ops.toList 0 t h nx (fun j _=>by simp) he' with⟨t',h',nx',hk,hN⟩|⟨h',nx',hk,hN⟩
   · refine fin ⟨t',h',nx',hk,fun m a w ro Q M T0 R K=>wpIn_region ?_⟩
     have:=hN m a w ro Q M T0 R K
     rw[List.range_eq_range']
     simpa using this
   · cases d with
     |cons _ _=>cases hk
     |nil=>
      refine .inr ⟨h',nx',hk,fun m a w ro Q M T0 R D K=>wpIn_region ?_⟩
      have hd:a.defers=[]:=by
       cases hdf:a.defers with
       |nil=>rfl
       |cons x y=>rw[hdf]at D;exact D.elim
      have:=hN m a w ro Q M T0 R fun ch m' a' w' hp' M' hdf E'=>K ch m' a' w' hp' M' (hdf.trans hd) E'
      rw[List.range_eq_range']
      simpa using this
 |seq x y ihx ihy=>
  intro t d h nx k he
  rcases ihx t d h nx (seqK (evC g B lv ih i0 N r y) k) he with⟨e,t1,d1,h1,nx1,hk,hS⟩|⟨h1,nx1,hk,hS⟩
  · cases e with
    |nm=>
     rcases ihy t1 d1 h1 nx1 k hk with⟨e',t',d',h',nx',hk',hS'⟩|⟨h',nx',hk',hS'⟩
     · exact .inl ⟨e',t',d',h',nx',hk',Wq.seq (fun ro Q a w hx=>wpIn_seq hx) hS hS'⟩
     · exact .inr ⟨h',nx',hk',Sh.seq (fun ro Q a w hx=>wpIn_seq hx) hS hS'⟩
    |ex id=>exact .inl ⟨_,_,_,_,_,hk,fun m a w ro Q M T0 R D K=>wpIn_seq (hS m a w ro _ M T0 R D fun m1 b w1 M1 T1 D1 E1=>K m1 b w1 M1 T1 D1 E1)⟩
    |gt l=>exact .inl ⟨_,_,_,_,_,hk,fun m a w ro Q M T0 R D K=>wpIn_seq (hS m a w ro _ M T0 R D fun m1 b w1 M1 T1 D1 E1=>K m1 b w1 M1 T1 D1 E1)⟩
    |rt=>exact .inl ⟨_,_,_,_,_,hk,fun m a w ro Q M T0 R D K=>wpIn_seq (hS m a w ro _ M T0 R D fun m1 b w1 M1 T1 D1 E1=>K m1 b w1 M1 T1 D1 E1)⟩
  · exact .inr ⟨h1,nx1,hk,Sh.post (fun ro Q=>Exit.then (y.wpIn (FR ro) 0 P Q) Q) (fun ro Q a w hx=>wpIn_seq hx) (fun ro Q ch a w hq=>hq) hS⟩
 |cond c x y ihx ihy=>
  intro t d h nx k he
  have he':condK c (evC g B lv ih i0 N r x) (evC g B lv ih i0 N r y) t d h nx k=true:=he
  unfold condK at he'
  rw[Cg]at he'
  split at he'
  · rename_i b hv
    cases b with
    |true=>
     rcases ihx t d h nx k he' with⟨e,t1,d1,h1,nx1,hk,hS⟩|⟨h1,nx1,hk,hS⟩
     · exact .inl ⟨e,t1,d1,h1,nx1,hk,fun m a w ro Q M T0 R D K=>wpIn_cond_true ((hv▸A7 T0 c:VR m (.b true) _).b_inv) (hS m a w ro Q M T0 R D K)⟩
     · exact .inr ⟨h1,nx1,hk,fun m a w ro Q M T0 R D K=>wpIn_cond_true ((hv▸A7 T0 c:VR m (.b true) _).b_inv) (hS m a w ro Q M T0 R D K)⟩
    |false=>
     rcases ihy t d h nx k he' with⟨e,t1,d1,h1,nx1,hk,hS⟩|⟨h1,nx1,hk,hS⟩
     · exact .inl ⟨e,t1,d1,h1,nx1,hk,fun m a w ro Q M T0 R D K=>wpIn_cond_false ((hv▸A7 T0 c:VR m (.b false) _).b_inv) (hS m a w ro Q M T0 R D K)⟩
     · exact .inr ⟨h1,nx1,hk,fun m a w ro Q M T0 R D K=>wpIn_cond_false ((hv▸A7 T0 c:VR m (.b false) _).b_inv) (hS m a w ro Q M T0 R D K)⟩
  · cases he'
 |block id b ihb=>
  intro t d h nx k he
  rcases ihb t d h nx (blkK id k) he with⟨e,t1,d1,h1,nx1,hk,hS⟩|⟨h1,nx1,hk,hS⟩
  · cases e with
    |nm=>exact .inl ⟨_,_,_,_,_,hk,fun m a w ro Q M T0 R D K=>wpIn_block (hS m a w ro _ M T0 R D fun m1 b w1 M1 T1 D1 E1=>K m1 b w1 M1 T1 D1 E1)⟩
    |ex j=>
     rcases C6 hk with⟨h2,hk2⟩|⟨h2,hk2⟩
     · have:=Ck h2
       subst this
       exact .inl ⟨.nm,_,_,_,_,hk2,fun m a w ro Q M T0 R D K=>wpIn_block (hS m a w ro _ M T0 R D fun m1 b w1 M1 T1 D1 E1=>by
        show Exit.inBlock j Q (.exit j) b w1
        simp only[Exit.inBlock,if_true]
        exact K m1 b w1 M1 T1 D1 E1)⟩
     · have hne:j≠id:=fun c=>by subst c;simp at h2
       exact .inl ⟨.ex j,_,_,_,_,hk2,fun m a w ro Q M T0 R D K=>wpIn_block (hS m a w ro _ M T0 R D fun m1 b w1 M1 T1 D1 E1=>by
        show Exit.inBlock id Q (.exit j) b w1
        simp only[Exit.inBlock,if_neg hne]
        exact K m1 b w1 M1 T1 D1 E1)⟩
    |gt l=>exact .inl ⟨_,_,_,_,_,hk,fun m a w ro Q M T0 R D K=>wpIn_block (hS m a w ro _ M T0 R D fun m1 b w1 M1 T1 D1 E1=>K m1 b w1 M1 T1 D1 E1)⟩
    |rt=>exact .inl ⟨_,_,_,_,_,hk,fun m a w ro Q M T0 R D K=>wpIn_block (hS m a w ro _ M T0 R D fun m1 b w1 M1 T1 D1 E1=>K m1 b w1 M1 T1 D1 E1)⟩
  · exact .inr ⟨h1,nx1,hk,Sh.post (fun _ Q=>Exit.inBlock id Q) (fun ro Q a w hx=>wpIn_block hx) (fun ro Q ch a w hq=>hq) hS⟩
 |loop b ihb=>
  intro t d h nx k he
  rcases loopK_ok (headK_ok ihb) B t d h nx k he with⟨e,t1,d1,h1,nx1,hk,hS⟩|⟨h1,nx1,hk,hS⟩
  · exact .inl ⟨e,t1,d1,h1,nx1,hk,fun m a w ro Q M T0 R D K=>loop_of (hS m a w ro Q M T0 R D K)⟩
  · exact .inr ⟨h1,nx1,hk,fun m a w ro Q M T0 R D K=>loop_of (hS m a w ro Q M T0 R D K)⟩
 |rangeFunc f ps asg body _ _=>exact fun t d h nx k he=>.inl (rangeK_ok h0 he)
 |exit id=>exact fun t d h nx k he=>.inl ⟨_,_,_,_,_,he,fun m a w ro Q M T0 R D K=>wpIn_exit (K m a w M T0 D (.refl m h nx w))⟩
 |scope b ihb=>
  intro t d h nx k he
  rcases ihb t d h nx (noGoK k) he with⟨e,t1,d1,h1,nx1,hk,hS⟩|⟨h1,nx1,hk,hS⟩
  · cases e with
    |gt l=>cases hk
    |nm=>exact .inl ⟨_,_,_,_,_,hk,fun m a w ro Q M T0 R D K=>GV.wpIn_scope (hS m a w ro _ M T0 R D fun m1 b w1 M1 T1 D1 E1=>K m1 b w1 M1 T1 D1 E1)⟩
    |ex j=>exact .inl ⟨_,_,_,_,_,hk,fun m a w ro Q M T0 R D K=>GV.wpIn_scope (hS m a w ro _ M T0 R D fun m1 b w1 M1 T1 D1 E1=>K m1 b w1 M1 T1 D1 E1)⟩
    |rt=>exact .inl ⟨_,_,_,_,_,hk,fun m a w ro Q M T0 R D K=>GV.wpIn_scope (hS m a w ro _ M T0 R D fun m1 b w1 M1 T1 D1 E1=>K m1 b w1 M1 T1 D1 E1)⟩
  · exact .inr ⟨h1,nx1,hk,fun m a w ro Q M T0 R D K=>GV.wpIn_scope (hS m a w ro _ M T0 R D fun ch m1 b w1 hp M1 D1 E1=>K ch m1 b w1 hp M1 D1 E1)⟩
 |label l=>exact fun t d h nx k he=>.inl ⟨_,_,_,_,_,he,fun m a w ro Q M T0 R D K=>wpIn_label (K m a w M T0 D (.refl m h nx w))⟩
 |goto l=>exact fun t d h nx k he=>.inl ⟨_,_,_,_,_,he,fun m a w ro Q M T0 R D K=>wpIn_goto (K m a w M T0 D (.refl m h nx w))⟩
 |ret=>exact fun t d h nx k he=>.inl ⟨_,_,_,_,_,he,fun m a w ro Q M T0 R D K=>wpIn_ret (K m a w M T0 D (.refl m h nx w))⟩
 |refuse s=>intro t d h nx k he;cases he
end Go.CE
namespace Go.CE
open Go.GV (TI Shp TIok FR oneB noGo)
open Go.RowKit
noncomputable def lay:List AV→T AV→Nat→T AV
 |[],t,_=>t
 |v::r,t,i=>lay r (T.set und v t (Ay (i+1))) (i+1)
theorem layT_eq:∀(l:List AV) (t:T AV) (i:Nat) (k:T AV→Bool),layT l t i k=k (lay l t i)
 |[],_,_,_=>rfl
 |v::r,t,i,k=>by
  show T.setK und v t (Ay (Nat.succ i)) (fun t=>layT r t (Nat.succ i) k)=_
  rw[Ni,layT_eq r];rfl
theorem lay_get:∀(l:List AV) (t:T AV) (i j:Nat),T.get und (lay l t i) (Ay (j+1))=if i≤j∧j<i+l.length then l.getD (j-i) und else T.get und t (Ay (j+1))
 |[],t,i,j=>by rw[if_neg (by simp)];rfl
 |v::r,t,i,j=>by
  simp only[lay]
  rw[lay_get r]
  by_cases h1:i+1≤j∧j<i+1+r.length
  · rw[if_pos h1,if_pos (by simp only[Cq];omega)]
    obtain⟨q,rfl⟩:∃q,j=i+1+q:=⟨j-(i+1),by omega⟩
    rw[show i+1+q-(i+1)=q by omega,show i+1+q-i=q+1 by omega]
    simp
  · rw[if_neg h1,Lu]
    by_cases h2:j=i
    · subst h2
      rw[if_pos rfl,if_pos (by simp)]
      simp
    · rw[if_neg (fun e=>h2 (by have:=Mi e;omega)),if_neg (by simp only[Cq];omega)]
theorem TR.lay {m:Mp} {l:List AV} {vs:List Value} (h:VL m l vs) {s:Nat} (hs:m (Ay 2)=some ⟨0,0,s⟩) {N:Nat} (hle:l.length≤N):TR m N (lay l .e 0) (vs.toArray++Array.replicate (N-vs.toArray.size) undef):=by
 have hlen:=h.1
 refine⟨by simp;omega,⟨s,hs⟩,fun i=>?_⟩
 rw[lay_get,X4]
 by_cases hi:i<l.length
 · rw[if_pos ⟨B9 _,by omega⟩,Nat.sub_zero]
   obtain⟨v,h1,h2⟩:=h.get (i:=i) (a:=l[i]) (by simp[hi])
   rw[A0,B8 hi,Kf,Array.getElem?_append_left (by simp;omega)]
   have:vs.toArray[i]?=some v:=by simpa using h1
   rw[this];exact h2
 · rw[if_neg (by omega),Kf,Array.getElem?_append_right (by simp;omega)]
   simp only[Array.getElem?_replicate]
   split
   · exact Mb m
   · exact Mb m
theorem layP_inv {N:Nat}:∀ {ps:List Nat} {l:List AV} {t:T AV} {k:T AV→Bool},layP N ps l t k=true→ps.length=l.length∧∃t',k t'=true ∧
 ∀m tm vs,TR m N t tm→VL m l vs→TR m N t' ((ps.zip vs).foldl (fun tmps x=>tmps.setIfInBounds x.1 x.2) tm)
 |[],[],t,k,h=>⟨rfl,t,h,fun m tm vs T0 _=>T0⟩
 |[],_::_,t,k,h=>by cases h
 |_::_,[],t,k,h=>by cases h
 |p::ps,v::l,t,k,h=>by
  have h':put N (some p) v t (fun t=>layP N ps l t k)=true:=h
  obtain⟨hd,h'⟩:=Kp h'
  obtain⟨h1,t',h2,h3⟩:=layP_inv h'
  refine⟨by simp[h1],t',h2,fun m tm vs T0 hv=>?_⟩
  obtain⟨cv,r,rfl,b1,b2⟩:=hv.inv
  exact h3 m _ r (TR.put (a:={tmps:=tm,defers:=[]}) T0 hd b1) b2
theorem Aax:∀(a b:List AV) (k:List AV→Bool),appA a b k=k (a++b)
 |[],b,k=>rfl
 |x::r,b,k=>Aax r b fun r=>k (x::r)
variable {P : Program} {g : G} {ih : Hc}
theorem close_ok:∀ {d:List Pos} {h:H} {k:H→Bool},R4 d h k=true→∃h',k h'=true∧∀(F:Fence) (n:Nat) (fn:Func) (tmps:Array Value) (R:Ending→World→Prop) m nx w ds,Mem m h nx w→DR m d ds →
 (∀w',Mem m h' nx w'→Ext m h nx w m h' nx w'→LeavesInM F n P fn tmps R [] .returning w')→LeavesInM F n P fn tmps R ds .returning w
 |[],h,k,he=>⟨h,he,fun F n fn tmps R m nx w ds M D K=>by
  cases ds with
  |nil=>exact K w M (.refl m h nx w)
  |cons _ _=>exact D.elim⟩
 |p::d,h,k,he=>by
  have he':Fk h p (fun o=>match o with
   |.marks=>Fa h p .dead fun h=>R4 d h k
   |_=>false)=true:=he
  rw[Cz]at he'
  split at he'
  · rename_i hm
    rw[Di]at he'
    obtain⟨h',hk,hL⟩:=close_ok he'
    refine⟨h',hk,fun F n fn tmps R m nx w ds M D K=>?_⟩
    cases ds with
    |nil=>exact D.elim
    |cons x ds=>
     obtain⟨⟨l,hl,hx⟩,D⟩:=D
     have ob:=M.ob p l hl
     rw[hm]at ob
     obtain⟨M',E'⟩:=M.drop (w':=w.putObj l.blk (.deferred none)) hl (by rw[hm];intro c;cases c) (by rw[hm];exact fun x=>x) (fun b hb=>World.putObj_heap_other hb) (by simp) rfl rfl rfl
     exact⟨fun c=>(by cases c),.inl ⟨l.blk,_,hx,run_takeDeferred ob,hL F n fn tmps R m nx _ ds M' D fun w' M2 E2=>K w' M2 (E'.trans E2)⟩⟩
  · cases he'
theorem cell_ok (hG:GOK P g) {ty a:Nat} {t:T AV} {h:H} {k:AV→Bool} (he:oLoad g ty (.tmp a) t h k=true):∃v,k v=true∧∀m nx w N tm,Mem m h nx w→TR m N t tm →
 ∃cv,VR m v cv∧(GV.rdVar tm (.cell a ty)).run P w=.ok cv w:=by
 obtain⟨v,h1,h2⟩:=load_ok (o:={(default:Oper)with op:=.load ty (.tmp a)}) hG rfl he
 refine⟨v,h1,fun m nx w N tm M T0=>?_⟩
 obtain⟨cv,h3,h4⟩:=h2 m N {tmps:=tm,defers:=[]} nx w M T0
 refine⟨cv,h3,?_⟩
 have hev:Act.eval {tmps:=tm,defers:=[]} (.tmp a)=tm.getD a undef:=rfl
 simp only[execOp,hev]at h4
 simp only[GV.rdVar]
 cases hv:tm.getD a undef with
 |pointer p=>
  rw[hv]at h4
  cases p with
  |none=>simp[Instr.loadAt,Instr.sureAddr,stuck,Sem.run]at h4
  |some q=>
   simp only[Instr.loadAt,Instr.sureAddr,Sem.run_bind,Sem.run_pure,Bn,asAddr]at h4 ⊢
   cases hr:(loadVar ty q).run P w with
   |ok x w'=>rw[hr]at h4;simp only[Bn,Sem.run_pure,Result.ok.injEq,Next.value.injEq]at h4;rw[h4.1,h4.2]
   |halt x w'=>rw[hr]at h4;cases h4
 |_=>rw[hv]at h4;simp[Instr.loadAt,Instr.sureAddr,stuck,Sem.run]at h4
theorem Zc (hG:GOK P g) {t:T AV} {h:H}:∀ {rs:List ResultVar} {k:List AV→Bool},resK g rs t h k=true→∃l,k l=true∧∀m nx w N tm,Mem m h nx w→TR m N t tm →
 ∃vs,VL m l vs∧(rs.mapM (GV.rdVar tm)).run P w=.ok vs w
 |[],k,he=>⟨[],he,fun m nx w N tm M T0=>⟨[],.nil m,by simp⟩⟩
 |.tmp n::rs,k,he=>by
  have he':T.getK und t (Ay (n+1)) (fun v=>resK g rs t h fun l=>k (v::l))=true:=he
  rw[Db]at he'
  obtain⟨l,h1,h2⟩:=Zc hG he'
  refine⟨_,h1,fun m nx w N tm M T0=>?_⟩
  obtain⟨vs,h3,h4⟩:=h2 m nx w N tm M T0
  refine⟨_,.cons (T0.get n) h3,?_⟩
  rw[List.mapM_cons]
  simp only[GV.rdVar,Sem.run_bind,Sem.run_pure,Bn,h4]
 |.cell a ty::rs,k,he=>by
  obtain⟨v,he',hc⟩:=cell_ok hG (k:=fun v=>resK g rs t h fun l=>k (v::l)) he
  obtain⟨l,h1,h2⟩:=Zc hG he'
  refine⟨_,h1,fun m nx w N tm M T0=>?_⟩
  obtain⟨vs,h3,h4⟩:=h2 m nx w N tm M T0
  obtain⟨cv,h5,h6⟩:=hc m nx w N tm M T0
  refine⟨_,.cons h5 h3,?_⟩
  rw[List.mapM_cons,Sem.run_bind,h6]
  simp only[Sem.run_bind,Sem.run_pure,Bn,h4]
theorem leave_ok (hG:GOK P g) {rs:List ResultVar} {t:T AV} {d:List Pos} {h:H} {nx:Pos} {k:K} (he:R4 d h (fun h=>resK g rs t h fun l=>retK l h nx k)=true) :
 ∃v h',k v h' nx=true∧∀(fn:Func) m w N tm ds (S:Value→World→Prop),fn.results.toList=rs→Mem m h nx w→TR m N t tm→DR m d ds→(∀cv w',VR m v cv→Mem m h' nx w'→Ext m h nx w m h' nx w'→S cv w') →
  LeavesInM (FR none) 0 P fn tm (fun | .returned v,w'=>S v w'|_,_=>False) ds .returning w:=by
 obtain⟨h',he,hcl⟩:=close_ok (P:=P) he
 obtain⟨l,he,hres⟩:=Zc hG he
 have fin:∀v,k v h' nx=true→(∀m vs,VL m l vs→VR m v (GV.tupV vs))→∃v h',k v h' nx=true∧∀(fn:Func) m w N tm ds (S:Value→World→Prop),fn.results.toList=rs→Mem m h nx w→TR m N t tm→DR m d ds→(∀cv w',VR m v cv→Mem m h' nx w'→Ext m h nx w m h' nx w'→S cv w') →
  LeavesInM (FR none) 0 P fn tm (fun | .returned v,w'=>S v w'|_,_=>False) ds .returning w:=fun v hk hv=>by
  refine⟨v,h',hk,fun fn m w N tm ds S hrs M T0 D K=>hcl _ _ _ _ _ m nx w ds M D fun w' M' E'=>?_⟩
  obtain⟨vs,h1,h2⟩:=hres m nx w' N tm M' T0
  refine⟨GV.tupV vs,?_,K _ w' (hv m vs h1) M' E'⟩
  rw[GV.results_eq,Array.mapM_eq_mapM_toList,hrs]
  simp[h2]
  match vs with
  |[]=>rfl
  |[x]=>rfl
  |x::y::r=>simp[GV.tupV]
 unfold retK at he
 split at he
 · rename_i v
   exact fin v he fun m vs hv=>by
    obtain⟨x,r,rfl,b1,b2⟩:=hv.inv
    rw[b2.nil_inv];exact b1
 · rename_i hne
   exact fin _ he fun m vs hv=>by
    have:GV.tupV vs=.tuple vs.toArray:=by
     match vs,hv with
     |[],_=>rfl
     |[x],hv=>
      have:=hv.1
      match l,this with
      |[a],_=>exact absurd rfl (hne a)
     |x::y::r,_=>rfl
    rw[this];exact VR.tuL hv
structure XOK (P:Program) (g:G):Prop where
 x79:∀x w,(callFunc 211 #[x]).run P w=.ok (.value x) w
 x147:∀(a b c:Nat) w,c≤1→(callFunc 71 #[.int .u64 (Int.ofNat a),.int .u64 (Int.ofNat b),.int .u64 (Int.ofNat c)]).run P w =
  .ok (.value (.tuple #[.int .u64 (Int.ofNat ((a+b+c)%18446744073709551616)),.int .u64 (Int.ofNat ((a+b+c) / 18446744073709551616))])) w
 fail:∀ {kp:KP} {l:List AV} {h:H} {nx:Pos},failK kp l h nx=true→kp h nx=true∧∀m w vs,Mem m h nx w→VL m l vs→UponP P (FinP m h nx w h nx) ((callFunc g.pf vs.toArray).run P w)
 fits:∀ {ih:L8},(∀kp,Ez P kp (ih kp))→∀ {l:List AV} {h:H} {nx:Pos} {k:K},fitsK ih l h nx k=true→∃v h' nx',k v h' nx'=true∧∀m w vs s,Mem m h nx w→m (Ay 2)=some ⟨0,0,s⟩→VL m l vs →
  Vk P (Fin m h nx w v h' nx') ((callFunc g.ft vs.toArray).run P w)∧(callFunc g.ft vs.toArray).run P w=.ok (.enter g.ft vs.toArray) w
 orc:∀ {f:Nat} {l:List AV} {h:H} {nx:Pos} {k:K},isOrc f=true→orcK f l h nx k=true→∃v h' nx',k v h' nx'=true∧∀m w vs s,Mem m h nx w→m (Ay 2)=some ⟨0,0,s⟩→VL m l vs →
  Vk P (Fin m h nx w v h' nx') ((callFunc f vs.toArray).run P w)∧(callFunc f vs.toArray).run P w=.ok (.enter f vs.toArray) w
theorem Dx {f:Nat} {fn:Func} {c:Code} (hf:P.funcs[f]?=some fn) (hn:(fn.name == "runtime.NumGoroutine") = false) (hb:fn.body=some c) (args:Array Value) (w:World) :
 (callFunc f args).run P w=.ok (.enter f args) w:=by
 have h1:fn.name ≠ "runtime.NumGoroutine" := by simpa using hn
 simp[callFunc,hf,h1,hb]
def ERes (P:Program) (f:Nat) (l:List AV) (h:H) (nx:Pos) (k:K) (kp:KP):Prop:=
 (∃v h' nx',k v h' nx'=true∧∀m w vs s,Mem m h nx w→m (Ay 2)=some ⟨0,0,s⟩→VL m l vs→Vk P (Fin m h nx w v h' nx') ((callFunc f vs.toArray).run P w) ∧
   (f≠211→f≠71→(callFunc f vs.toArray).run P w=.ok (.enter f vs.toArray) w)) ∨
 (∃h' nx',kp h' nx'=true∧∀m w vs s,Mem m h nx w→m (Ay 2)=some ⟨0,0,s⟩→VL m l vs→UponP P (FinP m h nx w h' nx') ((callFunc f vs.toArray).run P w))
theorem enter_ok {ihp:L8} {kp:KP} {B:Nat} (hG:GOK P g) (hU:UOK P g) (hX:XOK P g) (hih:∀kp,Ez P kp (ihp kp)) (hD:O7 P g (ihp fun _ _=>false)) {f:Nat} {l:List AV} {h:H} {nx:Pos} {k:K} (he:enter g B ihp kp f l h nx k=true) :
 ERes P f l h nx k kp:=by
 unfold enter at he
 rw[Db]at he
 split at he
 · rename_i fn hfn
   obtain⟨hf,hn⟩:=hG.fn _ _ hfn
   split at he
   · -- externs
     unfold ext at he
     split at he
     · rename_i x
       refine .inl ⟨x,h,nx,he,fun m w vs s M hs hv=>⟨?_,fun c=>absurd rfl c⟩⟩
       obtain⟨v1,r1,rfl,b1,b2⟩:=hv.inv
       rw[b2.nil_inv,hX.x79]
       exact⟨m,b1,M,.refl m h nx w⟩
     · rename_i a b c
       obtain⟨hc,he⟩:=Cm he
       rw[F6,F6]at he
       refine .inl ⟨_,h,nx,he,fun m w vs s M hs hv=>⟨?_,fun _ c=>absurd rfl c⟩⟩
       obtain⟨v1,r1,rfl,b1,b2⟩:=hv.inv
       obtain⟨v2,r2,rfl,b3,b4⟩:=b2.inv
       obtain⟨v3,r3,rfl,b5,b6⟩:=b4.inv
       rw[b6.nil_inv,b1.i_inv,b3.i_inv,b5.i_inv,hX.x147 a b c w (Aa hc)]
       exact⟨m,VR.tuL (.cons (.i _ _) (.cons (.i _ _) (.nil m))),M,.refl m h nx w⟩
     · cases he
   · rename_i c hc
     rw[H4]at he
     obtain⟨hle,he⟩:=Cm he
     rw[layT_eq,Db]at he
     split at he
     · rename_i lv _
       rcases evC_ok (N:=fn.ntmps) (r:=none) hG hU (hih kp) (hih _).no hD c _ _ _ _ _ he with⟨e,t',d',h1,nx1,he,hS⟩|⟨h1,nx1,hk,hS⟩
       · have fin:(exC e=.normal∨exC e=.ret)→R4 d' h1 (fun h=>resK g fn.results.toList t' h fun l=>retK l h nx1 k)=true→ERes P f l h nx k kp:=fun hx he=>by
          obtain⟨v,h',hk,hL⟩:=leave_ok hG he
          refine .inl ⟨v,h',nx1,hk,fun m w vs s M hs hv=>?_⟩
          have hrun:=Dx hf hn hc vs.toArray w
          refine⟨?_,fun _ _=>hrun⟩
          rw[hrun]
          refine callsIn_of_wp_marks hf hc trivial ?_
          refine hS m _ w none _ M (TR.lay hv hs (Aa hle)) trivial trivial fun m' a' w' M' T' D' E'=>?_
          have:=hL fn m' w' _ a'.tmps a'.defers (Fin m h nx w v h' nx1) rfl M' T' D' fun cv w2 hv2 M2 E2=>⟨m',hv2,M2,E'.trans E2⟩
          rcases hx with hx|hx
          · rw[hx];exact this
          · rw[hx];exact this
         dsimp only at he
         split at he
         · exact fin (.inl rfl) he
         · exact fin (.inr rfl) he
         · cases he
       · refine .inr ⟨h1,nx1,hk,fun m w vs s M hs hv=>?_⟩
         rw[Dx hf hn hc vs.toArray w]
         refine callsIn_of_wp_marks hf hc trivial ?_
         refine hS m _ w none _ M (TR.lay hv hs (Aa hle)) trivial trivial fun ch m' a' w' hp M' D' E'=>?_
         show LeavesInM (FR none) 0 P fn a'.tmps _ a'.defers (.panicking ch) w'
         rw[D']
         exact⟨hp,m',M',E'⟩
     · cases he
 · cases he
theorem yld_ok {B:Nat} (hG:GOK P g) (hU:UOK P g) (hih:Kh P ih) (hD:O7 P g ih) {p:Pos} {l:List AV} {h:H} {nx:Pos} {k:K} (he:yld g B ih p l h nx k=true) :
 ∃v h' nx',k v h' nx'=true∧∀m w vs lo,Mem m h nx w→m p=some lo→VL m l vs→Vk P (Fin m h nx w v h' nx') ((Instr.yield lo.blk vs.toArray).run P w):=by
 unfold yld at he
 rw[Cz]at he
 split at he
 · rename_i L hL
   obtain⟨hlen,t1,he,hT⟩:=layP_inv he
   obtain⟨e,t2,d2,h2,nx2,he,hS⟩:=(evC_ok (N:=L.N) (r:=some p) (kp:=fun _ _=>false) hG hU hih.pan hih hD L.asg _ _ _ _ _ he).resolve_right (fun⟨_,_,c,_⟩=>by cases c)
   dsimp only at he
   split at he
   · rw[Cz]at he
     split at he
     · rename_i M0 hM0
       split at he
       · rename_i hrdy
         rw[Di]at he
         obtain⟨e3,t3,d3,h3,nx3,he,hS3⟩:=(evC_ok (N:=L.N) (r:=some p) (kp:=fun _ _=>false) hG hU hih.pan hih hD L.body _ _ _ _ _ he).resolve_right (fun⟨_,_,c,_⟩=>by cases c)
         dsimp only at he
         rw[Cz]at he
         split at he
         · rename_i M3 hM3
           have fin:∀ {st:LoopState} {jump:Option Code} {b:Bool},k (.b b) (hs h3 p (.loop ⟨M3.lv,st,jump,M3.tm,M3.N,M3.ps,M3.asg,M3.body,M3.df⟩)) nx3=true→b=jump.isNone→st=(if jump.isNone then .ready else .done) →
            (∀lb R a w,(∃v w',(Instr.endRound lb jump).run P w=.ok v w'∧R (.returned v) w')→roundPost P lb R (exC e3) a w) →
            ∃v h' nx',k v h' nx'=true∧∀m w vs lo,Mem m h nx w→m p=some lo→VL m l vs→Vk P (Fin m h nx w v h' nx') ((Instr.yield lo.blk vs.toArray).run P w):=@fun st jump b hk hb hst hpost=>by
            refine⟨_,_,_,hk,fun m w vs lo M hp hv=>?_⟩
            have ob:=M.ob p lo hp
            rw[hL]at ob
            obtain⟨c,o1,o2⟩:=ob
            have hsz:vs.toArray.size=c.params.size:=by
             have h1:=hv.1
             have h2:=o2.ps
             rw[List.size_toArray,←h1,←hlen,←h2];simp
            rw[run_yield o1 hsz]
            have hfold:(c.params.zip vs.toArray).foldl (fun tmps (t,a)=>tmps.setIfInBounds t a) c.tmps=(L.ps.zip vs).foldl (fun tmps x=>tmps.setIfInBounds x.1 x.2) c.tmps:=by
             rw[←Array.foldl_toList,Array.toList_zip,o2.ps]
            rw[hfold]
            refine roundIn_of_wpIn (F:=FR none) trivial ?_
            have TT:=hT m c.tmps vs o2.tm hv
            rw[o2.asg]
            refine hS m {tmps:=_,defers:=[]} w (some lo.blk) _ M TT ⟨lo,hp,rfl⟩ trivial fun m2 a2 w2 M2 T2 D2 E2=>?_
            have hp2:=E2.le _ _ hp
            have ob2:=M2.ob p lo hp2
            rw[hM0]at ob2
            obtain⟨c2,q1,q2⟩:=ob2
            have hb0:=run_beginRound (P:=P) q1 (by rw[q2.st];exact hrdy)
            have hlt:=M2.bl _ _ hp2
            obtain⟨M2',E2'⟩:=M2.turn (w':=w2.putObj lo.blk (.loop {c2 with state:=.busy})) (o:=.loop ⟨M0.lv,.busy,M0.pend,M0.tm,M0.N,M0.ps,M0.asg,M0.body,M0.df⟩) hp2 (by rw[hM0];intro c;cases c) (by rw[hM0];exact fun x=>x) (fun x=>x)
             (fun b hb=>World.putObj_heap_other hb) (by simp) rfl rfl rfl ⟨_,World.putObj_heap_same hlt,⟨rfl,q2.pend,q2.tm,q2.ps,q2.asg,q2.body⟩⟩
            refine⟨_,hb0,?_⟩
            rw[o2.body]
            refine hS3 m2 a2 _ (some lo.blk) _ M2' T2 ⟨lo,hp2,rfl⟩ D2 fun m3 a3 w3 M3' T3 D3 E3=>hpost _ _ _ _ ?_
            have hp3:=E3.le _ _ hp2
            have ob3:=M3'.ob p lo hp3
            rw[hM3]at ob3
            obtain⟨c3,r1,r2⟩:=ob3
            have hlt3:=M3'.bl _ _ hp3
            obtain⟨M4,E4⟩:=M3'.turn (w':=w3.putObj lo.blk (.loop {c3 with state:=if jump.isNone then .ready else .done,pending:=jump})) (o:=.loop ⟨M3.lv,st,jump,M3.tm,M3.N,M3.ps,M3.asg,M3.body,M3.df⟩) hp3 (by rw[hM3];intro c;cases c) (by rw[hM3];exact fun x=>x) (fun x=>x)
             (fun b hb=>World.putObj_heap_other hb) (by simp) rfl rfl rfl ⟨_,World.putObj_heap_same hlt3,⟨hst.symm,rfl,r2.tm,r2.ps,r2.asg,r2.body⟩⟩
            exact⟨_,_,run_endRound jump r1,m3,hb▸.b b,M4,((E2.trans E2').trans E3).trans E4⟩
           cases e3 with
           |nm=>dsimp only at he;rw[Di]at he;exact fin (jump:=none) he rfl rfl (fun _ _ _ _ hx=>hx)
           |rt=>dsimp only at he;rw[Di]at he;exact fin (jump:=some .ret) he rfl rfl (fun _ _ _ _ hx=>hx)
           |ex id=>dsimp only at he;rw[Di]at he;exact fin (jump:=some (.exit id)) he rfl rfl (fun _ _ _ _ hx=>hx)
           |gt l=>cases he
         · cases he
       · cases he
     · cases he
   · cases he
 · cases he
theorem fnK_ok {ihp:L8} {kp:KP} {B:Nat} (hG:GOK P g) (hU:UOK P g) (hX:XOK P g) (hih:∀kp,Ez P kp (ihp kp)) (hD:O7 P g (ihp fun _ _=>false)) {f:Nat} {l:List AV} {h:H} {nx:Pos} {k:K} (he:fnK g B ihp kp f l h nx k=true) :
 ERes P f l h nx k kp:=by
 unfold fnK at he
 rcases C6 he with⟨h1,he2⟩|⟨_,he⟩
 · have:=Ck h1
   subst this
   obtain⟨a,b⟩:=hX.fail he2
   exact .inr ⟨h,nx,a,fun m w vs s M _ hv=>b m w vs M hv⟩
 · rcases C6 he with⟨h1,he2⟩|⟨_,he⟩
   · have:=Ck h1
     subst this
     obtain⟨v,h',nx',hk,hE⟩:=hX.fits hih he2
     exact .inl ⟨v,h',nx',hk,fun m w vs s M hs hv=>⟨(hE m w vs s M hs hv).1,fun _ _=>(hE m w vs s M hs hv).2⟩⟩
   · rcases C6 he with⟨h1,he2⟩|⟨_,he⟩
     · obtain⟨v,h',nx',hk,hE⟩:=hX.orc h1 he2
       exact .inl ⟨v,h',nx',hk,fun m w vs s M hs hv=>⟨(hE m w vs s M hs hv).1,fun _ _=>(hE m w vs s M hs hv).2⟩⟩
     · exact enter_ok hG hU hX hih hD he
theorem callS_ok {ihp:L8} {kp:KP} {B:Nat} (hG:GOK P g) (hU:UOK P g) (hX:XOK P g) (hih:∀kp,Ez P kp (ihp kp)) (hD:O7 P g (ihp fun _ _=>false)):Ez P kp (callS g B ihp kp):=fun fv l h nx k he=>by
 unfold callS at he
 split at he
 · rename_i f c
   rw[Aax]at he
   have key:∀m cv vs,VR m (.fn f c) cv→VL m l vs→∃ws:List Value,VL m (l++c) ws∧∀w,∃d,(Deferred.ofValue cv vs.toArray).run P w=.ok d w∧(invoke d.target d.args).run P w=(callFunc f ws.toArray).run P w:=fun m cv vs hf hv=>by
    obtain⟨cs,rfl,hc⟩:=hf.fn_inv
    refine⟨vs++cs.toList,hv.append hc,fun w=>⟨{target:=.fn (.func f) cs,args:=#[]++vs.toArray},rfl,?_⟩⟩
    have ha:(vs++cs.toList).toArray=vs.toArray++cs:=by apply Array.ext';simp
    rw[ha];simp[invoke]
   rcases fnK_ok hG hU hX hih hD he with⟨v,h',nx',hk,hE⟩|⟨h',nx',hk,hE⟩
   · refine .inl ⟨v,h',nx',hk,fun m w cv vs s M hs hf hv=>?_⟩
     obtain⟨ws,hw,hd⟩:=key m cv vs hf hv
     obtain⟨d,e1,e2⟩:=hd w
     obtain⟨h1,h2⟩:=hE m w ws s M hs hw
     refine⟨d,e1,e2▸h1,fun f' c' e h79 h147=>by cases e;exact⟨_,e2.trans (h2 h79 h147)⟩⟩
   · refine .inr ⟨h',nx',hk,fun m w cv vs s M hs hf hv=>?_⟩
     obtain⟨ws,hw,hd⟩:=key m cv vs hf hv
     obtain⟨d,e1,e2⟩:=hd w
     exact⟨d,e1,e2▸hE m w ws s M hs hw⟩
 · rename_i f c
   rw[Aax]at he
   have key:∀m cv vs,VR m (.fb f c) cv→VL m l vs→∃ws:List Value,VL m (c++l) ws∧∀w,∃d,(Deferred.ofValue cv vs.toArray).run P w=.ok d w∧(invoke d.target d.args).run P w=(callFunc f ws.toArray).run P w:=fun m cv vs hf hv=>by
    obtain⟨cs,rfl,hc⟩:=hf.fb_inv
    refine⟨cs.toList++vs,hc.append hv,fun w=>⟨{target:=.fn (.func f) #[],args:=cs++vs.toArray},rfl,?_⟩⟩
    have ha:(cs.toList++vs).toArray=cs++vs.toArray:=by apply Array.ext';simp
    rw[ha];simp[invoke]
   rcases fnK_ok hG hU hX hih hD he with⟨v,h',nx',hk,hE⟩|⟨h',nx',hk,hE⟩
   · refine .inl ⟨v,h',nx',hk,fun m w cv vs s M hs hf hv=>?_⟩
     obtain⟨ws,hw,hd⟩:=key m cv vs hf hv
     obtain⟨d,e1,e2⟩:=hd w
     obtain⟨h1,h2⟩:=hE m w ws s M hs hw
     refine⟨d,e1,e2▸h1,fun f' c' e h79 h147=>by cases e⟩
   · refine .inr ⟨h',nx',hk,fun m w cv vs s M hs hf hv=>?_⟩
     obtain⟨ws,hw,hd⟩:=key m cv vs hf hv
     obtain⟨d,e1,e2⟩:=hd w
     exact⟨d,e1,e2▸hE m w ws s M hs hw⟩
 · rename_i p
   obtain⟨v,h',nx',hk,hE⟩:=yld_ok hG hU (hih _).no hD he
   refine .inl ⟨v,h',nx',hk,fun m w cv vs s M hs hf hv=>?_⟩
   obtain⟨lo,hp,rfl⟩:=hf.yl_inv
   refine⟨{target:=.fn (.yield lo.blk) #[],args:=#[]++vs.toArray},rfl,?_⟩
   have hi:(invoke (.fn (.yield lo.blk) #[]) (#[]++vs.toArray)).run P w=(Instr.yield lo.blk vs.toArray).run P w:=by
    simp[invoke]
   simp only[hi]
   exact⟨hE m w vs lo M hp hv,fun f' c' e=>by cases e⟩
 · cases he
theorem U8 (hG:GOK P g) (hU:UOK P g) (hX:XOK P g) (hD:∀ih,Kh P ih→O7 P g ih):∀n kp,Ez P kp (Ai g n kp)
 |0,_=>fun fv l h nx k he=>by cases he
 |n+1,_=>callS_ok hG hU hX (U8 hG hU hX hD n) (hD _ (U8 hG hU hX hD n _).no)
end Go.CE
