/- Part 17 of the lemmas behind the claim. -/
import Derived.Test.YtacpdfjcepkgcaaGreatDoorZA01
import Derived.Test.YtacpdfjcepkgcaaGreatDoorZA16
import Derived.OrdersIn
set_option linter.unusedSimpArgs false
set_option linter.unusedVariables false
set_option linter.constructorNameAsVariable false
set_option linter.unusedSectionVars false
set_option linter.defProp false
set_option maxRecDepth 100000
set_option maxHeartbeats 40000000
namespace Go.CE
open Go.GV (TI Shp TIok FR oneB noGo)
open Go.RowKit
theorem O1 (m i:Nat):L6 m i=m.testBit i:=by
 unfold L6
 rw[Nat.testBit_eq_decide_div_mod_eq]
 show Nat.beq ((m >>> i)%2) 1=_
 rw[Nat.shiftRight_eq_div_pow]
 cases h:Nat.beq (m / 2^i%2) 1 with
 |true=>have:=Ck h;simp[this]
 |false=>have:¬m / 2^i%2=1:=fun e=>by rw[e]at h;cases h
         simp[this]
theorem Rp (e:Edge):O2 e=Region.binds .any e:=by
 unfold O2 Region.binds
 cases e.ground<;>rfl
def O9 (ops:Array Oper) (S:Nat→Prop):Prop:=∀i o,S i→ops[i]?=some o→∀ed∈o.after.toList,O2 ed=true→S ed.on
structure EntOK (ops:Array Oper) (e:En):Prop where
 get:ops[e.i]?=some e.o
 rd:∀n,Operand.tmp n∈e.o.op.operands→n∈e.ts
 gd:∀j w p d,e.o.guard=some (j,w)→ops[j]?=some p→p.dst=some d→d∈e.ts
 mask:∀S,O9 ops S→S e.i→∀j,L6 e.m j=true→S j
 edge:∀ed∈e.o.after.toList,O2 ed=true→L6 e.m ed.on=true
def Rel (e f:En):Prop:=e.i≠f.i∧L6 e.m f.i=false∧(L6 f.m e.i=true∨(e.x=false∧Qh e f=false))
structure PlanOK (ops:Array Oper) (L:List En):Prop where
 ent:∀e∈L,EntOK ops e
 pw:L.Pairwise Rel
 dn:∀e∈L,∀j,L6 e.m j=true→j<ops.size∧j≠e.i
 cov:∀i,i<ops.size→∃e∈L,e.i=i
variable {ops : Array Oper}
theorem Ts:∀ {l:List Operand} {r:List Nat} {k:List Nat→Bool},rdsK l r k=true→∃ts,k ts=true∧(∀n,Operand.tmp n∈l→n∈ts)∧∀n∈r,n∈ts
 |[],r,k,h=>⟨r,h,fun n hn=>(by cases hn),fun n hn=>hn⟩
 |x::l,r,k,h=>by
  cases x with
  |tmp n=>
   obtain⟨ts,h1,h2,h3⟩:=Ts (l:=l) (r:=n::r) (k:=k) h
   refine⟨ts,h1,fun n' hn=>?_,fun n' hn=>h3 n' (Am _ hn)⟩
   rcases Bo.1 hn with e|hn
   · cases e;exact h3 n (Aw ..)
   · exact h2 n' hn
  |_=>
   obtain⟨ts,h1,h2,h3⟩:=Ts (l:=l) (r:=r) (k:=k) h
   refine⟨ts,h1,fun n' hn=>?_,h3⟩
   rcases Bo.1 hn with e|hn
   · cases e
   · exact h2 n' hn
theorem gtK_inv {gd:Option (Nat×Bool)} {k:List Nat→Bool} (h:gtK ops.toList gd k=true):∃r,k r=true∧∀j w p d,gd=some (j,w)→ops[j]?=some p→p.dst=some d→d∈r:=by
 unfold gtK at h
 split at h
 · exact⟨[],h,fun j w p d e=>by cases e⟩
 · rename_i j w
   rw[Array.getElem?_toList]at h
   split at h
   · rename_i p hp
     split at h
     · rename_i d hd
       refine⟨[d],h,fun j' w' p' d' e hp' hd'=>?_⟩
       cases e
       rw[hp]at hp';cases hp'
       rw[hd]at hd';cases hd'
       exact Aw ..
     · rename_i hd
       refine⟨[],h,fun j' w' p' d' e hp' hd'=>?_⟩
       cases e
       rw[hp]at hp';cases hp'
       rw[hd]at hd';cases hd'
   · rename_i hp
     refine⟨[],h,fun j' w' p' d' e hp' hd'=>?_⟩
     cases e
     rw[hp]at hp';cases hp'
def AccOK (ops:Array Oper) (acc:T Nat):Prop:=∀j S,O9 ops S→S j→∀b,L6 (T.get 0 acc (Ay (j+1))) b=true→S b
theorem Nx (a b i:Nat):L6 (Nat.lor a b) i=(L6 a i||L6 b i):=by
 rw[O1,O1,O1];exact Nat.testBit_or a b i
theorem bit_one (n i:Nat) (h:L6 (Nat.shiftLeft 1 n) i=true):i=n:=by
 rw[O1]at h
 have:Nat.shiftLeft 1 n=2^n:=Nat.one_shiftLeft n
 rw[this,Nat.testBit_two_pow]at h
 simpa using(of_decide_eq_true h).symm
theorem bit_self (n:Nat):L6 (Nat.shiftLeft 1 n) n=true:=by
 rw[O1]
 have:Nat.shiftLeft 1 n=2^n:=Nat.one_shiftLeft n
 rw[this,Nat.testBit_two_pow];simp
theorem bit_zero (i:Nat):L6 0 i=false:=by rw[O1];exact Nat.zero_testBit i
theorem Aao {acc:T Nat} (hA:AccOK ops acc) {i:Nat} {o:Oper} (ho:ops[i]?=some o):∀ {l:List Edge} {s:Nat} {k:Nat→Bool},(∀e∈l,e∈o.after.toList)→(∀S,O9 ops S→S i→∀b,L6 s b=true→S b) →
 edK l acc s k=true→∃m,k m=true∧(∀S,O9 ops S→S i→∀b,L6 m b=true→S b)∧(∀b,L6 s b=true→L6 m b=true)∧∀ed∈l,O2 ed=true→L6 m ed.on=true
 |[],s,k,_,hs,h=>⟨s,h,hs,fun b hb=>hb,fun ed he=>by cases he⟩
 |e::l,s,k,hl,hs,h=>by
  have h':(match O2 e with
   |true=>T.getK 0 acc (Ay (Nat.succ e.on)) fun m=>fN (Nat.lor (Nat.lor s (Nat.shiftLeft 1 e.on)) m) fun s=>edK l acc s k
   |false=>edK l acc s k)=true:=h
  have hl':∀e∈l,e∈o.after.toList:=fun e he=>hl e (Am _ he)
  split at h'
  · rename_i hb
    rw[Db,F6]at h'
    have key:∀S,O9 ops S→S i→∀b,L6 (Nat.lor (Nat.lor s (Nat.shiftLeft 1 e.on)) (T.get 0 acc (Ay (Nat.succ e.on)))) b=true→S b:=fun S hS hi b hbit=>by
     have hon:=hS i o hi ho e (hl e (Aw ..)) hb
     rw[Nx,Nx]at hbit
     simp only[Bool.or_eq_true]at hbit
     rcases hbit with(h1|h1)|h1
     · exact hs S hS hi b h1
     · rw[bit_one _ _ h1];exact hon
     · exact hA e.on S hS hon b h1
    obtain⟨m,h1,h2,h3,h4⟩:=Aao hA ho hl' key h'
    refine⟨m,h1,h2,fun b hb2=>h3 b (by rw[Nx,Nx,hb2];rfl),fun ed hed hbd=>?_⟩
    rcases Bo.1 hed with rfl|hed
    · exact h3 _ (by rw[Nx,Nx,bit_self];simp)
    · exact h4 ed hed hbd
  · rename_i hb
    obtain⟨m,h1,h2,h3,h4⟩:=Aao hA ho hl' hs h'
    refine⟨m,h1,h2,h3,fun ed hed hbd=>?_⟩
    rcases Bo.1 hed with rfl|hed
    · rw[hb]at hbd;cases hbd
    · exact h4 ed hed hbd
theorem U4 {m:Nat}:∀ {xs:List Nat} {k:Nat→Bool},cntK xs m k=true→∃n,k n=true
 |[],k,h=>⟨0,h⟩
 |x::xs,k,h=>by
  have h':fB (L6 m x) (cntK xs m fun n=>k (Nat.succ n)) (cntK xs m k)=true:=h
  rcases C6 h' with⟨_,h1⟩|⟨_,h1⟩
  · obtain⟨n,hn⟩:=U4 h1;exact⟨_,hn⟩
  · exact U4 h1
theorem Uv {g:G}:∀ {l:List Oper} {acc:T Nat} {xs:List Nat} {i:Nat} {k:List En→Bool},(∀j,j<l.length→l[j]?=ops[i+j]?)→AccOK ops acc→entK g ops.toList l acc xs i k=true→∃es,k es=true∧(∀e∈es,EntOK ops e)
 |[],acc,xs,i,k,_,_,h=>⟨[],h,fun e he=>by cases he⟩
 |o::l,acc,xs,i,k,hl,hA,h=>by
  have ho:ops[i]?=some o:=by have:=hl 0 (by simp);simpa using this.symm
  have hl':∀j,j<l.length→l[j]?=ops[i+1+j]?:=fun j hj=>by
   have:=hl (j+1) (by simpa using hj)
   rw[show i+1+j=i+(j+1) by omega,←this];rfl
  have h1:edK o.after.toList acc 0 (fun m=>gtK ops.toList o.guard fun r=>rdsK o.op.operands.toList r fun ts=>cntK xs m fun q=>T.setK 0 m acc (Ay (Nat.succ i)) fun acc=>
   fB (Nat.beq (cls g o.op) 3) (entK g ops.toList l acc (i::xs) (Nat.succ i) fun es=>k (⟨o,i,m,true,q,ts⟩::es)) (entK g ops.toList l acc xs (Nat.succ i) fun es=>k (⟨o,i,m,false,q,ts⟩::es)))=true:=h
  obtain⟨m,h2,hm,_,hed⟩:=Aao hA ho (fun e he=>he) (fun S _ _ b hb=>by rw[bit_zero]at hb;cases hb) h1
  obtain⟨r,h3,hr⟩:=gtK_inv h2
  obtain⟨ts,h4,ht1,ht2⟩:=Ts h3
  obtain⟨q,h5⟩:=U4 h4
  rw[Ni]at h5
  have hA':AccOK ops (T.set 0 m acc (Ay (i+1))):=fun j S hS hj b hb=>by
   rw[Lu]at hb
   by_cases hji:j=i
   · subst hji
     rw[if_pos rfl]at hb
     exact hm S hS hj b hb
   · rw[if_neg (fun e=>hji (by have:=Mi e;omega))]at hb
     exact hA j S hS hj b hb
  have mk:∀x,EntOK ops ⟨o,i,m,x,q,ts⟩:=fun x=>⟨ho,fun n hn=>ht1 n (by simpa using hn),fun j w p d e1 e2 e3=>ht2 d (hr j w p d e1 e2 e3),hm,hed⟩
  rcases C6 h5 with⟨_,h6⟩|⟨_,h6⟩
  · obtain⟨es,h7,h8⟩:=Uv hl' hA' h6
    exact⟨_,h7,fun e he=>by
     rcases Bo.1 he with rfl|he
     · exact mk true
     · exact h8 e he⟩
  · obtain⟨es,h7,h8⟩:=Uv hl' hA' h6
    exact⟨_,h7,fun e he=>by
     rcases Bo.1 he with rfl|he
     · exact mk false
     · exact h8 e he⟩
theorem P4 {q:Nat} {r:List En} {p:En→Prop} (hr:∀e∈r,p e):∀ {l:List En} {k:List En→Bool},(∀e∈l,p e)→phK q l r k=true→∃s,k s=true∧∀e∈s,p e
 |[],k,_,h=>⟨r,h,hr⟩
 |e::l,k,hl,h=>by
  have h':fB e.x (phK q l r k) (fB (Nat.beq e.q q) (phK q l r fun r=>k (e::r)) (phK q l r k))=true:=h
  have hl':∀e∈l,p e:=fun e he=>hl e (Am _ he)
  rcases C6 h' with⟨_,h1⟩|⟨_,h1⟩
  · exact P4 hr hl' h1
  · rcases C6 h1 with⟨_,h2⟩|⟨_,h2⟩
    · obtain⟨s,h3,h4⟩:=P4 hr hl' h2
      exact⟨_,h3,fun f hf=>by
       rcases Bo.1 hf with rfl|hf
       · exact hl f (Aw ..)
       · exact h4 f hf⟩
    · exact P4 hr hl' h2
theorem T4 {all:List En} {p:En→Prop} (ha:∀e∈all,p e):∀ {l:List En} {q:Nat} {k:List En→Bool},(∀e∈l,p e)→phsK all l q k=true→∃s,k s=true∧∀e∈s,p e
 |[],q,k,_,h=>P4 (fun e he=>by cases he) ha h
 |e::l,q,k,hl,h=>by
  have h':fB e.x (phsK all l (Nat.succ q) fun r=>phK q all (e::r) k) (phsK all l q k)=true:=h
  have hl':∀e∈l,p e:=fun e he=>hl e (Am _ he)
  rcases C6 h' with⟨_,h1⟩|⟨_,h1⟩
  · obtain⟨r,h2,h3⟩:=T4 ha hl' h1
    exact P4 (fun f hf=>by
     rcases Bo.1 hf with rfl|hf
     · exact hl f (Aw ..)
     · exact h3 f hf) ha h2
  · exact T4 ha hl' h1
theorem U6 {e:En}:∀ {l:List En},chk1 e l=true→∀f∈l,Rel e f
 |[],h,f,hf=>by cases hf
 |a::l,h,f,hf=>by
  have h':fB (Nat.beq e.i a.i) false (fB (L6 e.m a.i) false (fB (L6 a.m e.i) (chk1 e l) (fB e.x false (fB (Qh e a) false (chk1 e l)))))=true:=h
  obtain⟨h1,h0⟩:=Jg h'
  obtain⟨h0',h2⟩:=Jg h0
  have hne:e.i≠a.i:=fun c=>by rw[c]at h1;simp at h1
  rcases C6 h2 with⟨h3,h4⟩|⟨h3,h4⟩
  · rcases Bo.1 hf with rfl|hf
    · exact⟨hne,h0',.inl h3⟩
    · exact U6 h4 f hf
  · obtain⟨h5,h6⟩:=Jg h4
    obtain⟨h7,h8⟩:=Jg h6
    rcases Bo.1 hf with rfl|hf
    · exact⟨hne,h0',.inr ⟨h5,h7⟩⟩
    · exact U6 h8 f hf
theorem chkL_inv {n:Nat}:∀ {l:List En},chkL n l=true→l.Pairwise Rel∧∀e∈l,∀j,L6 e.m j=true→j<n∧j≠e.i
 |[],_=>⟨.nil,fun e he=>by cases he⟩
 |e::l,h=>by
  have h':fB (Nat.beq (Nat.shiftRight e.m n) 0) (fB (L6 e.m e.i) false (fB (chk1 e l) (chkL n l) false)) false=true:=h
  obtain⟨h1,h2⟩:=Cm h'
  obtain⟨h3,h4⟩:=Jg h2
  obtain⟨h5,h6⟩:=Cm h4
  obtain⟨h7,h8⟩:=chkL_inv h6
  refine⟨.cons (U6 h5) h7,fun f hf=>?_⟩
  rcases Bo.1 hf with rfl|hf
  · intro j hj
    have hz:f.m >>> n=0:=Ck h1
    refine⟨?_,fun c=>by subst c;rw[h3]at hj;cases hj⟩
    rcases Nat.lt_or_ge j n with hlt|hge
    · exact hlt
    · rw[O1]at hj
      have:(f.m >>> n).testBit (j-n)=true:=by rw[Nat.testBit_shiftRight,show n+(j-n)=j by omega];exact hj
      rw[hz,Nat.zero_testBit]at this;cases this
  · exact h8 f hf
theorem Uc:∀(n:Nat) (l:List Nat),l.Nodup→(∀x∈l,x<n)→l.length≤n
 |0,l,_,h=>by
  cases l with
  |nil=>simp
  |cons x r=>exact absurd (h x (Aw ..)) (by omega)
 |n+1,l,hd,h=>by
  have h1:=Uc n (l.erase n) (hd.erase n) (fun x hx=>by
   have h2:=h x (List.mem_of_mem_erase hx)
   have h3:x≠n:=((hd.mem_erase_iff).1 hx).1
   omega)
  have:=List.length_erase (a:=n) (l:=l)
  split at this<;>omega
theorem all_of {n:Nat} {l:List Nat} (hd:l.Nodup) (h:∀x∈l,x<n) (hl:l.length=n) (i:Nat) (hi:i<n):i∈l:=by
 by_cases hm:i∈l
 · exact hm
 · have:=Uc n (i::l) (List.nodup_cons.2 ⟨hm,hd⟩) (fun x hx=>by
    rcases Bo.1 hx with rfl|hx
    · exact hi
    · exact h x hx)
   simp only[Cq]at this
   omega
theorem planK_inv {g:G} {k:List En→Bool} (h:planK g ops.toList k=true):∃L,k L=true∧PlanOK ops L:=by
 unfold planK at h
 obtain⟨es,h1,h2⟩:=Uv (ops:=ops) (fun j _=>by simp) (fun j S _ _ b hb=>by
  have:T.get 0 (.e:T Nat) (Ay (j+1))=0:=by cases Ay (j+1)<;>rfl
  rw[this,bit_zero]at hb;cases hb) h
 obtain⟨L,h3,h4⟩:=T4 h2 h2 h1
 rw[H4,H4]at h3
 obtain⟨h5,h6⟩:=Cm h3
 obtain⟨h7,h8⟩:=Cm h6
 have hlen:=Ck h5
 obtain⟨hpw,hdn⟩:=chkL_inv h7
 refine⟨L,h8,h4,hpw,fun e he j hj=>by have:=hdn e he j hj;simpa using this,fun i hi=>?_⟩
 have hm:i∈L.map (·.i):=all_of (n:=ops.size) (by
  unfold List.Nodup
  rw[List.pairwise_map]
  exact hpw.imp fun h=>h.1) (fun x hx=>by
  obtain⟨e,he,rfl⟩:=Dz.1 hx
  exact(O5.1 (h4 e he).get).1) (by simpa using hlen) i hi
 obtain⟨e,he,rfl⟩:=Dz.1 hm
 exact⟨e,he,rfl⟩
end Go.CE
namespace Go.CE
open Go.GV (TI Shp TIok FR oneB noGo)
open Go.RowKit
noncomputable def mkd (N:Nat) (t:T AV) (e:En):T AV:=msk t e.ts (Oa (Nat.succ (Nat.log2 N)))
theorem TR.msk {m:Mp} {N:Nat} {ta t:T AV} {tm:Array Value} (T0:TR m N ta tm) (hN:N≤1000) {e:En} (h:∀d∈e.ts,T.get und t (Ay (d+1))=T.get und ta (Ay (d+1))):TR m N (mkd N t e) tm:=by
 refine⟨T0.size,T0.glob,fun i=>?_⟩
 unfold mkd
 rw[Sw]
 by_cases hi:i∈e.ts
 · rw[if_pos hi,h i hi];exact T0.get i
 · rw[if_neg hi]
   rcases Nt (Nat.log2 N+1) (Ay (i+1))with h1|⟨h1,h2⟩
   · rw[h1];exact .x _
   · rw[h1]
     rw[Mh (by omega)]at h2
     have hN2:N<2^(Nat.log2 N+1):=Nat.lt_log2_self
     have:tm.getD i undef=undef:=by
      rw[Kf,Array.getElem?_eq_none (by rw[T0.size];omega)];rfl
     rw[this];exact Mb m
theorem K4:∀ {p q:Pos},Kq p q=true→p=q
 |.h,.h,_=>rfl
 |.h,.o _,h=>by cases h
 |.h,.i _,h=>by cases h
 |.o p,.h,h=>by cases h
 |.o p,.o q,h=>by rw[K4 (p:=p) (q:=q) h]
 |.o p,.i q,h=>by cases h
 |.i p,.h,h=>by cases h
 |.i p,.o q,h=>by cases h
 |.i p,.i q,h=>by rw[K4 (p:=p) (q:=q) h]
theorem eqA0_eq {x y:AV} (h:eqA0 x y=true):x=y:=by
 unfold eqA0 at h
 split at h
 · rename_i a b
   cases a<;>cases b<;>first|rfl|cases h
 · rename_i a m b n
   obtain⟨h1,h2⟩:=Cm h
   rw[Z4 h1,(Fb _ _).1 h2]
 · rename_i a b;rw[(Dn _ _).1 h]
 · rfl
 · rename_i a m b n
   obtain⟨h1,h2⟩:=Cm h
   rw[K4 h1,Ck h2]
 · rfl
 · rename_i a m n c b p q d
   obtain⟨h1,h2⟩:=Cm h
   obtain⟨h3,h4⟩:=Cm h2
   obtain⟨h5,h6⟩:=Cm h4
   rw[K4 h1,Ck h3,Ck h5,Ck h6]
 · rename_i a m n c b p q d
   obtain⟨h1,h2⟩:=Cm h
   obtain⟨h3,h4⟩:=Cm h2
   obtain⟨h5,h6⟩:=Cm h4
   rw[K4 h1,Ck h3,Ck h5,Ck h6]
 · rfl
 · rw[K4 h]
 · rfl
 · cases h
theorem Ta:∀ {a b:List AV},eqAL a b=true→a=b
 |[],[],_=>rfl
 |[],_::_,h=>by cases h
 |_::_,[],h=>by cases h
 |x::a,y::b,h=>by
  have h':fB (eqA0 x y) (eqAL a b) false=true:=h
  obtain⟨h1,h2⟩:=Cm h'
  rw[eqA0_eq h1,Ta h2]
theorem eqA_eq {x y:AV} (h:eqA x y=true):x=y:=by
 unfold eqA at h
 split at h
 · obtain⟨h1,h2⟩:=Cm h
   rw[Ck h1,Ta h2]
 · rw[Ta h]
 · rw[Ta h]
 · exact eqA0_eq h
variable {P : Program} {g : G} {ih : Hc}
theorem Vf (hG:GOK P g) (hU:UOK P g) {m:Nat} {h:H}:∀ {ps:List Pd} {k:List Pd→Bool},Vg g m h ps k=true→∃ps',k ps'=true∧∀p∈ps,L6 m p.i=true∨(p∈ps'∧N5 P p.o p.t h p.v)
 |[],k,he=>⟨[],he,fun p hp=>by cases hp⟩
 |p::ps,k,he=>by
  have he':fB (L6 m p.i) (Vg g m h ps k) (evR g p.o.op p.t h fun v=>fB (eqA v p.v) (Vg g m h ps fun ps=>k (p::ps)) false)=true:=he
  rcases C6 he' with⟨h1,h2⟩|⟨h1,h2⟩
  · obtain⟨ps',h3,h4⟩:=Vf hG hU h2
    refine⟨ps',h3,fun q hq=>?_⟩
    rcases Bo.1 hq with rfl|hq
    · exact .inl h1
    · exact h4 q hq
  · obtain⟨v,h3,h5⟩:=evR_ok hG hU h2
    obtain⟨h6,h7⟩:=Cm h3
    have hv:=eqA_eq h6
    subst hv
    obtain⟨ps',h8,h9⟩:=Vf hG hU h7
    refine⟨_,h8,fun q hq=>?_⟩
    rcases Bo.1 hq with rfl|hq
    · exact .inr ⟨Aw ..,h5⟩
    · rcases h9 q hq with h10|⟨h10,h11⟩
      · exact .inl h10
      · exact .inr ⟨Am _ h10,h11⟩
inductive Tr (P:Program) (r:Option Pos) (N:Nat) (ops:List Oper):List En→List Pd→T AV→H→Pos→T AV→H→Pos→Prop where
 |nil (ps:List Pd) (t:T AV) (h:H) (nx:Pos):Tr P r N ops [] ps t h nx t h nx
 |no {e:En} {l:List En} {ps:List Pd} {t:T AV} {h:H} {nx:Pos} {t':T AV} {h':H} {nx':Pos} (hw:wt ops e.o.guard t=some false) (hd:∀x,e.o.dst=some x→x<N)
   (next:Tr P r N ops l ps (pt e.o.dst und t) h nx t' h' nx'):Tr P r N ops (e::l) ps t h nx t' h' nx'
 |p {e:En} {l:List En} {ps:List Pd} {t:T AV} {h:H} {nx:Pos} {t':T AV} {h':H} {nx':Pos} (v:AV) (hx:e.x=false) (hw:wt ops e.o.guard t=some true) (hd:∀x,e.o.dst=some x→x<N) (hdf:∀c,e.o.op≠.defer c)
    (hS:Kg P e.o (mkd N t e) v) (next:Tr P r N ops l ps (pt e.o.dst v t) h nx t' h' nx'):Tr P r N ops (e::l) ps t h nx t' h' nx'
 |r {e:En} {l:List En} {ps:List Pd} {t:T AV} {h:H} {nx:Pos} {t':T AV} {h':H} {nx':Pos} (v:AV) (hx:e.x=false) (hw:wt ops e.o.guard t=some true) (hd:∀x,e.o.dst=some x→x<N) (hdf:∀c,e.o.op≠.defer c)
    (hS:N5 P e.o (mkd N t e) h v) (next:Tr P r N ops l (⟨e.o,mkd N t e,v,e.i⟩::ps) (pt e.o.dst v t) h nx t' h' nx'):Tr P r N ops (e::l) ps t h nx t' h' nx'
 |a {e:En} {l:List En} {ps:List Pd} {t:T AV} {h:H} {nx:Pos} {t':T AV} {h':H} {nx':Pos} (v:AV) (ob:AO) (hx:e.x=false) (hw:wt ops e.o.guard t=some true) (hd:∀x,e.o.dst=some x→x<N) (hdf:∀c,e.o.op≠.defer c)
    (hdead:hg h nx=.dead) (hS:Si P e.o (mkd N t e) nx ob v) (next:Tr P r N ops l ps (pt e.o.dst v t) (hs h nx ob) (Ad nx) t' h' nx'):Tr P r N ops (e::l) ps t h nx t' h' nx'
 |x {e:En} {l:List En} {ps ps':List Pd} {t:T AV} {h:H} {nx:Pos} {t':T AV} {h':H} {nx':Pos} (v:AV) {h1:H} {nx1:Pos} (hx:e.x=true) (hw:wt ops e.o.guard t=some true) (hd:∀x,e.o.dst=some x→x<N)
    (hS:Aa0 P r e.o (mkd N t e) h nx v h1 nx1) (hps:∀p∈ps,L6 e.m p.i=true∨(p∈ps'∧N5 P p.o p.t h1 p.v)) (next:Tr P r N ops l ps' (pt e.o.dst v t) h1 nx1 t' h' nx'):Tr P r N ops (e::l) ps t h nx t' h' nx'
theorem Jy (hG:GOK P g) (hU:UOK P g) (r:Option Pos) (hih:Kh P ih) {N:Nat} {ops:List Oper}:∀ {l:List En} {ps:List Pd} {t:T AV} {h:H} {nx:Pos} {k:T AV→H→Pos→Bool},Aaj g ih N ops (Oa (Nat.succ (Nat.log2 N))) l ps t h nx k=true →
 ∃t' h' nx',k t' h' nx'=true∧Tr P r N ops l ps t h nx t' h' nx'
 |[],ps,t,h,nx,k,he=>⟨t,h,nx,he,.nil ps t h nx⟩
 |e::l,ps,t,h,nx,k,he=>by
  let next:List Pd→T AV→H→Pos→Bool:=fun ps t h nx=>Aaj g ih N ops (Oa (Nat.succ (Nat.log2 N))) l ps t h nx k
  have he':Ws ops e.o.guard t (mskK e.ts (Oa (Nat.succ (Nat.log2 N))) t fun tm=>fB e.x (stX g ih N e tm ps t h nx next) (stN g N e tm ps t h nx next)) (put N e.o.dst und t fun t=>next ps t h nx)=true:=he
  rcases Wr he' with⟨hw,he⟩|⟨hw,he⟩
  · rw[Sx]at he
    rcases C6 he with⟨hx,he⟩|⟨hx,he⟩
    · unfold stX at he
      obtain⟨v,h1,nx1,he,hS⟩:=evX_ok (o:=e.o) hG r hih he
      obtain⟨ps',he,hps⟩:=Vf hG hU he
      obtain⟨hd,he⟩:=Kp he
      obtain⟨t',h',nx',hk,hT⟩:=Jy hG hU r hih he
      exact⟨t',h',nx',hk,.x v hx hw hd hS hps hT⟩
    · unfold stN at he
      split at he
      · have hdf:∀c,e.o.op≠.defer c:=fun c hc=>by rw[hc]at he;cases he
        obtain⟨v,he,hS⟩:=evP_ok (o:=e.o) hG he
        obtain⟨hd,he⟩:=Kp he
        obtain⟨t',h',nx',hk,hT⟩:=Jy hG hU r hih he
        exact⟨t',h',nx',hk,.p v hx hw hd hdf hS hT⟩
      · have hdf:∀c,e.o.op≠.defer c:=fun c hc=>by rw[hc]at he;cases he
        obtain⟨v,he,hS⟩:=evR_ok (o:=e.o) hG hU he
        obtain⟨hd,he⟩:=Kp he
        obtain⟨t',h',nx',hk,hT⟩:=Jy hG hU r hih he
        exact⟨t',h',nx',hk,.r v hx hw hd hdf hS hT⟩
      · have hdf:∀c,e.o.op≠.defer c:=fun c hc=>by rw[hc]at he;cases he
        obtain⟨ob,v,hdead,he,hS⟩:=evA_ok (o:=e.o) hG he
        obtain⟨hd,he⟩:=Kp he
        obtain⟨t',h',nx',hk,hT⟩:=Jy hG hU r hih he
        exact⟨t',h',nx',hk,.a v ob hx hw hd hdf hdead hS hT⟩
      · cases he
  · obtain⟨hd,he⟩:=Kp he
    obtain⟨t',h',nx',hk,hT⟩:=Jy hG hU r hih he
    exact⟨t',h',nx',hk,.no hw hd hT⟩
end Go.CE
namespace Go.CE
open Go.GV (TI Shp TIok FR oneB noGo)
open Go.RowKit
inductive Kd where
 |no
 |p
 |r
 |a (id:Pos) (ob:AO)
structure Lt where
 e:En
 tt:T AV
 v:AV
 kd:Kd
def Lt.id? (l:Lt):Option Pos:=match l.kd with
 |.a id _=>some id
 |_=>none
def LtOK (P:Program) (N:Nat) (ops:List Oper) (nx0:Pos) (ps:List Pd) (h:H) (nx:Pos) (m:Mp) (l:Lt):Prop:=
 (∀x,l.e.o.dst=some x→x<N)∧match l.kd with
 |.no=>wt ops l.e.o.guard l.tt=some false∧l.v=und
 |.p=>wt ops l.e.o.guard l.tt=some true∧(∀c,l.e.o.op≠.defer c)∧Kg P l.e.o (mkd N l.tt l.e) l.v
 |.r=>wt ops l.e.o.guard l.tt=some true∧(∀c,l.e.o.op≠.defer c)∧N5 P l.e.o (mkd N l.tt l.e) h l.v∧(⟨l.e.o,mkd N l.tt l.e,l.v,l.e.i⟩:Pd)∈ps
 |.a id ob=>wt ops l.e.o.guard l.tt=some true∧(∀c,l.e.o.op≠.defer c)∧Si P l.e.o (mkd N l.tt l.e) id ob l.v∧m id=none∧hg h id=ob∧id.toN<nx.toN∧nx0.toN≤id.toN
def LOK:(Nat→AV)→List Lt→T AV→Prop
 | φ,[],t=>∀d,T.get und t (Ay (d+1))=φ d
 | φ,l::r,t=>(∀d∈l.e.ts,T.get und l.tt (Ay (d+1))=φ d)∧LOK (fun d=>if l.e.o.dst=some d then l.v else φ d) r t
theorem LOK.snoc {t:T AV} {e:En} {v:AV} {kd:Kd}:∀ {late:List Lt} {φ:Nat→AV},LOK φ late t→LOK φ (late++[⟨e,t,v,kd⟩]) (pt e.o.dst v t)
 |[],φ,h=>⟨fun d _=>h d,fun d=>by rw[pt_get,h d]⟩
 |l::r,φ,h=>⟨h.1,LOK.snoc h.2⟩
theorem memN_iff {x:Nat}:∀ {l:List Nat},memN x l=true↔x∈l
 |[]=>⟨fun h=>(by cases h),fun h=>(by cases h)⟩
 |y::l=>by
  show fB (Nat.beq x y) true (memN x l)=true↔_
  cases h:Nat.beq x y with
  |true=>have:=Ck h;simp[fB,this]
  |false=>
   have:x≠y:=fun e=>by rw[e]at h;simp at h
   simp only[fB,Bo,this,false_or]
   exact memN_iff
theorem clash_no {a b:En} (h:Qh a b=false):(∀d,a.o.dst=some d→b.o.dst≠some d∧d∉b.ts)∧(∀d,b.o.dst=some d→d∉a.ts):=by
 unfold Qh at h
 have nm:∀ {x l},memN x l=false→x∉l:=fun h hm=>by rw[memN_iff.2 hm]at h;cases h
 split at h
 · rename_i d e hd he
   cases h1:Nat.beq d e with
   |true=>rw[h1]at h;cases h
   |false=>
    rw[h1]at h
    have hne:d≠e:=fun c=>by rw[c]at h1;simp at h1
    cases h2:memN d b.ts with
    |true=>rw[h2]at h;cases h
    |false=>
     rw[h2]at h
     exact⟨fun x hx=>(by rw[hd]at hx;cases hx;exact⟨by rw[he];intro c;cases c;exact hne rfl,nm h2⟩),fun x hx=>by rw[he]at hx;cases hx;exact nm h⟩
 · rename_i d hd he
   exact⟨fun x hx=>(by rw[hd]at hx;cases hx;exact⟨by rw[he];simp,nm h⟩),fun x hx=>by rw[he]at hx;cases hx⟩
 · rename_i e hd he
   exact⟨fun x hx=>(by rw[hd]at hx;cases hx),fun x hx=>by rw[he]at hx;cases hx;exact nm h⟩
 · rename_i hd he
   exact⟨fun x hx=>(by rw[hd]at hx;cases hx),fun x hx=>by rw[he]at hx;cases hx⟩
theorem LOK.take {l:Lt} {post:List Lt} {t:T AV}:∀ {pre:List Lt} {φ:Nat→AV},LOK φ (pre++l::post) t→(∀l'∈pre,Qh l'.e l.e=false) →
 (∀d∈l.e.ts,T.get und l.tt (Ay (d+1))=φ d)∧LOK (fun d=>if l.e.o.dst=some d then l.v else φ d) (pre++post) t
 |[],φ,h,_=>h
 |l'::pre,φ,h,hc=>by
  obtain⟨h1,h2⟩:=h
  obtain⟨c1,c2⟩:=clash_no (hc l' (Aw ..))
  obtain⟨h3,h4⟩:=LOK.take h2 (fun x hx=>hc x (Am _ hx))
  refine⟨fun d hd=>?_,fun d hd=>?_,?_⟩
  · rw[h3 d hd]
    by_cases he:l'.e.o.dst=some d
    · exact absurd hd (c1 d he).2
    · rw[if_neg he]
  · rw[h1 d hd]
    by_cases he:l.e.o.dst=some d
    · exact absurd hd (c2 d he)
    · exact(if_neg he).symm
  · have e:(fun d=>if l.e.o.dst=some d then l.v else if l'.e.o.dst=some d then l'.v else φ d)=(fun d=>if l'.e.o.dst=some d then l'.v else if l.e.o.dst=some d then l.v else φ d):=by
     funext d
     by_cases he:l'.e.o.dst=some d
     · have:=(c1 d he).1
       rw[if_neg this,if_pos he,if_pos he]
     · rw[if_neg he,if_neg he]
    rw[e]at h4
    exact h4
theorem Ext.base {m:Mp} {h:H} {nx b:Pos} {w:World} {m':Mp} {h':H} {nx':Pos} {w':World} (E:Ext m h nx w m' h' nx' w') (hb:b.toN≤nx.toN):Ext m h b w m' h' b w':=
 ⟨E.le,Ag _,fun id hi hn=>E.virt id (Na hi hb) hn,E.old,E.size,E.fresh,E.ros,E.nro,E.os,E.tape,E.output⟩
theorem Ext.top {m:Mp} {h:H} {nx nx':Pos} {w:World} {m':Mp} {h':H} {w':World} (E:Ext m h nx w m' h' nx w') (hb:nx.toN≤nx'.toN):Ext m h nx w m' h' nx' w':=
 ⟨E.le,hb,E.virt,E.old,E.size,E.fresh,E.ros,E.nro,E.os,E.tape,E.output⟩
theorem Jc {h:H} {id j:Pos} {o:AO} (hn:j≠id):hg (hs h id o) j=hg h j:=by rw[E9,if_neg hn]
theorem Mem.virt {m:Mp} {h:H} {nx b:Pos} {w:World} (M:Mem m h nx w) (hb:b.toN≤nx.toN) (ob:AO):Mem m (hs h nx ob) (Ad nx) w∧Ext m h b w m (hs h nx ob) b w:=by
 have hne:∀ {id l},m id=some l→id≠nx:=fun he c=>by subst c;rw[M.ids]at he;cases he
 refine⟨⟨fun id l he=>by rw[Jc (hne he)];exact M.ob id l he,fun i j k l hi hj hk=>by rw[Jc (hne hi),Jc (hne hj)];exact M.ij i j k l hi hj hk,
  fun id l he=>by rw[Hx];have:=M.lt id l he;omega,M.bl,M.bs⟩,.refl m,Ag _,fun id hi hn=>⟨hn,Jc (fun c=>by subst c;omega)⟩,fun _ _ _=>rfl,Ag _,
  fun _ _ h k=>(by rw[k]at h;cases h),fun id l he=>?_,fun _ _ h k=>(by rw[k]at h;cases h),rfl,rfl,rfl⟩
 rw[Jc (hne he)]
 exact⟨fun _=>rfl,fun x=>x⟩
theorem Mem.real {m:Mp} {h:H} {nx b id:Pos} {w:World} (M:Mem m h nx w) (hn:m id=none) (hlt:id.toN<nx.toN) (hb:b.toN≤id.toN) {ob:AO} (hob:hg h id=ob) (hro:¬N4 ob) {l:Loc} {obj:Obj}
 (h1:l.blk=w.heap.size) (h2:l.base=0) (ho:OR (Pf m id l) ob l (w.alloc obj)):Mem (Pf m id l) h nx (w.alloc obj)∧Ext m h b w (Pf m id l) h b (w.alloc obj):=by
 have hle:=Mr (l:=l) hn
 have cs:∀ {j k},Pf m id l j=some k→(j=id∧k=l)∨(j≠id∧m j=some k):=fun {j k} he=>by
  by_cases c:j=id
  · subst c;rw[Cv]at he;cases he;exact .inl ⟨rfl,rfl⟩
  · rw[D4 c]at he;exact .inr ⟨c,he⟩
 refine⟨⟨fun j k he=>?_,fun i j k l' hi hj hk=>?_,fun j k he=>?_,fun j k he=>?_,fun j k he=>?_⟩,hle,Ag _,fun j hj hm=>⟨?_,rfl⟩,fun b' hb' _=>Ht w _ hb',by rw[Hh];omega,fun j k he hm=>?_,
  fun j k he=>⟨fun _=>rfl,fun x=>x⟩,fun j k he hm=>?_,rfl,rfl,rfl⟩
 · rcases cs he with⟨rfl,rfl⟩|⟨hne,he⟩
   · rw[hob];exact ho
   · exact(M.ob j k he).mono hle (Ht w _ (M.bl _ _ he))
 · rcases cs hi with⟨ei,ek⟩|⟨hne,hi'⟩
   · rcases cs hj with⟨ej,ek'⟩|⟨hne',hj'⟩
     · exact .inl (ei.trans ej.symm)
     · have:=M.bl _ _ hj';rw[ek]at hk;omega
   · rcases cs hj with⟨ej,ek'⟩|⟨hne',hj'⟩
     · have:=M.bl _ _ hi';rw[ek']at hk;omega
     · exact M.ij i j k l' hi' hj' hk
 · rcases cs he with⟨rfl,rfl⟩|⟨hne,he⟩
   · exact hlt
   · exact M.lt j k he
 · rw[Hh]
   rcases cs he with⟨rfl,rfl⟩|⟨hne,he⟩
   · omega
   · have:=M.bl j k he;omega
 · rcases cs he with⟨rfl,rfl⟩|⟨hne,he⟩
   · exact h2
   · exact M.bs j k he
 · rw[D4 (fun c=>by subst c;omega)];exact hm
 · rcases cs he with⟨rfl,rfl⟩|⟨hne,he⟩
   · exact .inl (Nat.le_of_eq h1.symm)
   · rw[hm]at he;cases he
 · rcases cs he with⟨rfl,rfl⟩|⟨hne,he⟩
   · rw[hob];exact hro
   · rw[hm]at he;cases he
theorem N5.virt {P:Program} {o:Oper} {t:T AV} {h:H} {v:AV} (hR:N5 P o t h v) {nx:Pos} (hd:hg h nx=.dead) (ob:AO):N5 P o t (hs h nx ob) v:=fun m N a nx' w M T0=>by
 refine hR m N a nx' w ⟨fun id l he=>?_,fun i j k l hi hj hk=>?_,M.lt,M.bl,M.bs⟩ T0
 · by_cases c:id=nx
   · subst c;rw[hd];trivial
   · have:=M.ob id l he;rw[Jc c]at this;exact this
 · have key:∀ {j},hg (hs h nx ob) j=.dead→hg h j=.dead:=fun {j} hj=>by
    by_cases c:j=nx
    · subst c;exact hd
    · rw[Jc c]at hj;exact hj
   rcases M.ij i j k l hi hj hk with h1|h1|h1
   · exact .inl h1
   · exact .inr (.inl (key h1))
   · exact .inr (.inr (key h1))
theorem wt_mkd {N:Nat} {ops:Array Oper} {e:En} (he:EntOK ops e) (t:T AV):wt ops.toList e.o.guard (mkd N t e)=wt ops.toList e.o.guard t:=by
 unfold wt
 cases hg:e.o.guard with
 |none=>rfl
 |some p=>
  obtain⟨j,want⟩:=p
  simp only[Array.getElem?_toList]
  cases ho:ops[j]? with
  |none=>rfl
  |some p=>
   simp only
   cases hd:p.dst with
   |none=>rfl
   |some d=>
    simp only
    have:=he.gd j want p d hg ho hd
    unfold mkd
    rw[Sw,if_pos this]
end Go.CE
