/- Part 22 of the lemmas behind the claim. -/
import Derived.Test.YtacpdfjcepkgcaaGreatDoorZA01
import Derived.Test.YtacpdfjcepkgcaaGreatDoorZA16
import Derived.Test.YtacpdfjcepkgcaaGreatDoorZA10
import Derived.Test.YtacpdfjcepkgcaaGreatDoorZA02
set_option linter.unusedSimpArgs false
set_option linter.unusedVariables false
set_option linter.constructorNameAsVariable false
set_option linter.unusedSectionVars false
set_option linter.defProp false
set_option maxRecDepth 100000
set_option maxHeartbeats 40000000
namespace Go.CE
open Go
theorem fit64 {z:Int} (h:-9223372036854775808≤z∧z≤9223372036854775807):fits .i64 z=true:=by
 rw[Nu]
 cases z with
 |ofNat n=>exact Kc (by show n≤9223372036854775807;have:=h.2;simp at this;omega)
 |negSucc n=>exact Kc (by show n≤9223372036854775807;omega)
theorem fitU8 {z:Int} (h:0≤z∧z≤255):fits .u8 z=true:=by
 rw[Nu]
 cases z with
 |ofNat n=>exact Kc (by show n≤255;have:=h.2;simp at this;omega)
 |negSucc n=>omega
theorem Bv {z:Int} {x y:Bool} (h:-9223372036854775808≤z∧z≤9223372036854775807) (hx:x=true):fB (fits .i64 z) x y=true:=by rw[fit64 h];exact hx
theorem zle_t {a b:Int} (h:K0 a b=true):a≤b:=(I3 a b).1 h
theorem zle_f {a b:Int} (h:K0 a b=false):b<a:=by have:=mt (I3 a b).2 (by rw[h];simp);omega
theorem Dt {a b:Int} {x y:Bool} (h1:K0 a b=true→a≤b→x=true) (h2:K0 a b=false→b<a→y=true):fB (K0 a b) x y=true:=by
 cases e:K0 a b with
 |true=>exact h1 e (zle_t e)
 |false=>exact h2 e (zle_f e)
theorem C4 {a b:Int} {x y:Bool} (h1:K0 b a=false→a<b→x=true) (h2:K0 b a=true→b≤a→y=true):fB (fB (K0 b a) false true) x y=true:=by
 cases e:K0 b a with
 |true=>exact h2 e (zle_t e)
 |false=>exact h1 e (zle_f e)
theorem Cu {a b:Int} {x y:Bool} (h1:N2 a b=true→a=b→x=true) (h2:N2 a b=false→a≠b→y=true):fB (N2 a b) x y=true:=by
 cases e:N2 a b with
 |true=>exact h1 e ((Fb a b).1 e)
 |false=>exact h2 e (mt (Fb a b).2 (by rw[e];simp))
theorem new {a b:Int} {x y:Bool} (h1:N2 a b=false→a≠b→x=true) (h2:N2 a b=true→a=b→y=true):fB (fB (N2 a b) false true) x y=true:=by
 cases e:N2 a b with
 |true=>exact h2 e ((Fb a b).1 e)
 |false=>exact h1 e (mt (Fb a b).2 (by rw[e];simp))
theorem neqw {a b:Nat} {x y:Bool} (h1:Nat.beq a b=true→a=b→x=true) (h2:Nat.beq a b=false→a≠b→y=true):fB (Nat.beq a b) x y=true:=by
 cases e:Nat.beq a b with
 |true=>exact h1 e (Ck e)
 |false=>refine h2 e ?_;intro c;subst c;simp at e
theorem Gq {a b:List Nat} {x y:Bool} (h1:Dg a b=true→a=b→x=true) (h2:Dg a b=false→a≠b→y=true):fB (Dg a b) x y=true:=by
 cases e:Dg a b with
 |true=>exact h1 e ((Dn a b).1 e)
 |false=>exact h2 e (mt (Dn a b).2 (by rw[e];simp))
theorem bw {c:Bool} {x y:Bool} (h1:c=true→x=true) (h2:c=false→y=true):fB c x y=true:=by
 cases c with
 |true=>exact h1 rfl
 |false=>exact h2 rfl
theorem Pb (a b:Int):K0 a b=decide (a≤b):=by
 cases e:K0 a b with
 |true=>simp[zle_t e]
 |false=>have:=zle_f e;simp;omega
theorem I4 (a b:Int):N2 a b=decide (a=b):=by
 cases e:N2 a b with
 |true=>simp[(Fb a b).1 e]
 |false=>simp[mt (Fb a b).2 (by rw[e];simp)]
theorem Bq {a b:Nat} {x y:Bool} (h:a≤b) (hx:x=true):fB (Nat.ble a b) x y=true:=by rw[Kc h];exact hx
theorem Cw {a b:Nat} {x y:Bool} (h:b<a) (hy:y=true):fB (Nat.ble a b) x y=true:=by
 cases e:Nat.ble a b with
 |true=>have:=Aa e;omega
 |false=>exact hy
theorem L7 {a b:Nat} {x y:Bool} (h:a=b) (hx:x=true):fB (Nat.beq a b) x y=true:=by subst h;rw[Nat.beq_refl];exact hx
theorem beq_f {a b:Nat} {x y:Bool} (h:a≠b) (hy:y=true):fB (Nat.beq a b) x y=true:=by
 cases e:Nat.beq a b with
 |true=>exact absurd (Ck e) h
 |false=>exact hy
theorem Cb {a b:Int} {x y:Bool} (h:a≤b) (hx:x=true):fB (K0 a b) x y=true:=by rw[(I3 a b).2 h];exact hx
theorem Ab {g:G} {n d:Nat} (hd:d≤n) (hd1:1≤d) {kp:KP} {fv:AV} {l:List AV} {h:H} {nx:Pos} {k:K} (X:∀m,d≤m+1→callS g m (Ai g m) kp fv l h nx k=true):Ai g n kp fv l h nx k=true:=by
 obtain⟨m,rfl⟩:∃m,n=m+1:=⟨n-1,by omega⟩
 exact X m hd
noncomputable def lvs (L:List Nat) (t:T AV):List AV:=L.map fun n=>T.get und t (Ay (Nat.succ n))
noncomputable def setsK (l:List Nat) (vs:List AV) (t:T AV) (k:T AV→Bool):Bool:=
 List.rec (motive:=fun _=>List AV→T AV→Bool) (fun _ t=>k t) (fun n _ ih vs t=>List.rec (motive:=fun _=>Bool) false (fun v r _=>T.setK und v t (Ay (Nat.succ n)) fun t=>ih r t) vs) l vs t
theorem msk_sets (t:T AV):∀(L:List Nat) (f:T AV) (k:T AV→Bool),setsK L (lvs L t) f k=k (msk t L f)
 |[],_,_=>rfl
 |n::r,f,k=>by
  show T.setK und (T.get und t (Ay (Nat.succ n))) f (Ay (Nat.succ n)) (fun t'=>setsK r (lvs r t) t' k)=_
  rw[Ni,msk_sets t r];rfl
theorem Br {N B i:Nat} {lv:LV} {b:T AV→List Pos→H→Pos→KC→Bool} {t:T AV} {d:List Pos} {h:H} {nx:Pos} {k:KC} {L:List Nat} (hL:T.get none lv (Ay (Nat.succ i))=some L)
 (I:Nat→List AV→List Pos→H→Pos→Prop) (m:Nat) (hm:m<B) (h0:I m (lvs L t) d h nx)
 (step:∀m vs d h nx,I m vs d h nx→∀k':KC,(∀t d h nx m',m'<m→I m' (lvs L t) d h nx→k' .nm t d h nx=true)→(∀e t d h nx,(match e with | .nm=>False|_=>True)→k e t d h nx=true→k' e t d h nx=true) →
   (Us (Nat.succ (Nat.log2 N)) fun f=>setsK L vs f fun t=>b t d h nx k')=true) :
 loopK (Ur N lv i b) B t d h nx k=true:=by
 revert m t d h nx
 induction B with
 |zero=>intro t d h nx m hm;omega
 |succ n ih=>
  intro t d h nx m hm hI
  show Ur N lv i b t d h nx _=true
  unfold Ur
  rw[Db,hL]
  show(Us (Nat.succ (Nat.log2 N)) fun f=>mskK L f t fun t=>b t d h nx _)=true
  have:=step m _ d h nx hI (fun e t d h nx=>match e with
   |.nm=>loopK (Ur N lv i b) n t d h nx k
   |e=>k e t d h nx) (fun t d h nx m' hm' hI'=>ih m' (by omega) hI') (fun e t d h nx he hk=>by cases e<;>first|exact hk|exact he.elim)
  rw[Qe]at this ⊢
  rw[msk_sets]at this
  rw[Sx]
  exact this
open Go Go.Proofs.YtacpdfjcepkgcaaGreatDoor
attribute [local irreducible] loopK Ai K0 N2 Dg fits
theorem third_ok {n:Nat} (hn:2≤n) {c:Int} {kp:KP} {h:H} {nx:Pos} {k:K} (hk:∀(z:Int) b,0≤z∧z≤255→k (.tu [.i .u8 z,.b b]) h nx=true):Ai gg n kp (.fn 150 []) [.i .u8 c] h nx k=true:=by
 refine Ab hn (by omega) fun m hm=>?_
 repeat' ((conv=>lhs;whnf);first
  |(refine hk _ _ ?_;omega)
  |refine Dt (fun hc hz=>?_) (fun hc hz=>?_)<;>try rewrite [hc]
  |refine Cu (fun hc hz=>?_) (fun hc hz=>?_)<;>try rewrite [hc])
theorem Aad {n:Nat} (hn:1000002≤n) {l:List Nat} {at':Int} (h0:0≤at'∧at'<l.length) (hs:l.length≤100000) {kp:KP} {h:H} {nx:Pos} {k:K} (hk:∀r:Int,r=0∨at'<r∧r≤l.length→k (.i .i64 r) h nx=true):Ai gg n kp (.fn 102 []) [.s l,.i .i64 at'] h nx k=true:=by
 refine Ab hn (by omega) fun m hm=>?_
 repeat' ((conv=>lhs;whnf);first
  |exact hk _ (Or.inl rfl)
  |refine Cb (y:=false) (by omega) ?_
  |refine Cw (x:=false) (by omega) ?_
  |refine Bv (by omega) ?_
  |refine Cu (fun hc hz=>?_) (fun hc hz=>?_)<;>try rewrite [hc])
 all_goals
  conv=>lhs;whnf
  refine Br (L:=[0,5,6]) rfl (fun m vs d' h' nx'=>∃(i c:Int),at'<i∧i≤l.length∧l.length-i=m∧h'=h∧nx'=nx∧d'=[]∧vs=[.s l,.i .u8 c,.i .i64 i]) (l.length-(at'+1)).toNat (by omega) ⟨at'+1,_,by omega,by omega,by omega,rfl,rfl,rfl,rfl⟩ ?_
  rintro m _ d' h' nx' ⟨i,c,hi1,hi2,hi3,rfl,rfl,rfl,rfl⟩ k' hn' hx
  repeat' ((conv=>lhs;whnf);first
   |refine Cb (y:=false) (by omega) ?_
   |refine Cw (x:=false) (by omega) ?_
   |refine Bv (by omega) ?_
   |(refine C4 (fun hc hz=>?_) (fun hc hz=>?_)<;>simp only[Aj]at hz<;>try rewrite [hc])
   |(refine new (fun hc hz=>?_) (fun hc hz=>?_)<;>try rewrite [hc])
   |(refine Cu (fun hc hz=>?_) (fun hc hz=>?_)<;>try rewrite [hc])
   |(refine hn' _ _ _ _ (l.length-(i+1)).toNat (by omega) ?_;exact⟨i+1,c,by omega,by omega,by omega,rfl,rfl,rfl,rfl⟩)
   |refine hx _ _ _ _ _ trivial ?_
   |(refine hk _ ?_;omega))
end Go.CE
namespace Go.CE
open Go
inductive OB where
 |row (L:List AV) (ty:Nat)
 |map (f:List Nat→Option AV)
 |raw (o:AO)
abbrev Av:=Pos×OB
abbrev KE:=List Nat×AV×Nat
def Ij (e:KE):AV×AV×Nat:=(.s e.1,e.2.1,e.2.2)
def Ks (l:List KE) (key:List Nat):Option AV:=(l.find? fun e=>decide (e.1=key)).map fun e=>e.2.1
def Nb (o:AO):OB→Prop
 |.row L ty=>∃cs,o=.cells L.length cs 0 false ty∧∀i,i<L.length→T.get .x cs (Ay (i+1))=L.getD i .x
 |.map f=>∃(l:List KE) (clk:Nat),o=.map (l.map Ij) clk∧(l.map (·.1)).Nodup∧∀key,Ks l key=f key
 |.raw o'=>o=o'∧o'≠.dead
structure Sat (h:H) (nx:Pos) (A:List Av):Prop where
 hold:∀e∈A,Nb (hg h e.1) e.2
 lt:∀e∈A,e.1.toN<nx.toN
 nd:(A.map (·.1)).Nodup
 fr:∀q:Pos,nx.toN≤q.toN→hg h q=.dead
variable {h : H} {nx : Pos} {A B : List Av}
theorem Sat.perm (S:Sat h nx A) (hp:A.Perm B):Sat h nx B:=
 ⟨fun e he=>S.hold e (hp.mem_iff.2 he),fun e he=>S.lt e (hp.mem_iff.2 he),((hp.map _).nodup_iff).1 S.nd,S.fr⟩
theorem Sat.sub (S:Sat h nx A) (hp:B.Sublist A):Sat h nx B:=
 ⟨fun e he=>S.hold e (hp.subset he),fun e he=>S.lt e (hp.subset he),(hp.map _).nodup S.nd,S.fr⟩
theorem Sat.tail {e:Av} (S:Sat h nx (e::A)):Sat h nx A:=S.sub (List.sublist_cons_self _ _)
theorem Sat.right {C:List Av} (S:Sat h nx (C++A)):Sat h nx A:=S.sub (Gf _ _)
theorem Sat.at {i:Nat} {e:Av} (S:Sat h nx A) (hi:A[i]?=some e):Nb (hg h e.1) e.2:=S.hold e (Gm hi)
theorem Sat.ne {i j:Nat} {e f:Av} (S:Sat h nx A) (hi:A[i]?=some e) (hj:A[j]?=some f) (hij:i≠j):e.1≠f.1:=by
 intro c
 have:=S.nd
 have a:(A.map (·.1))[i]?=some e.1:=by rw[G5,hi];rfl
 have b:(A.map (·.1))[j]?=some e.1:=by rw[G5,hj,c];rfl
 obtain⟨h1,a'⟩:=Gn.1 a
 obtain⟨h2,b'⟩:=Gn.1 b
 exact hij ((List.getElem_inj this).1 (a'.trans b'.symm))
theorem Sat.put {i:Nat} {e:Av} (S:Sat h nx A) (hi:A[i]?=some e) {o:AO} {b:OB} (ho:Nb o b):Sat (hs h e.1 o) nx (A.set i (e.1,b)):=by
 have hil:i<A.length:=(Gn.1 hi).1
 refine⟨fun f hf=>?_,fun f hf=>?_,?_,fun q hq=>?_⟩
 · obtain⟨j,hj⟩:=Ih.1 hf
   rw[List.getElem?_set]at hj
   rw[E9]
   split at hj
   · (try rw[if_pos hil]at hj)
     cases hj
     simp only[if_pos]
     exact ho
   · rename_i hne
     rw[if_neg (S.ne hj hi (Ne.symm hne))]
     exact S.at hj
 · obtain⟨j,hj⟩:=Ih.1 hf
   rw[List.getElem?_set]at hj
   split at hj
   · (try rw[if_pos hil]at hj)
     cases hj
     exact S.lt e (Gm hi)
   · exact S.lt f (Gm hj)
 · have:(A.set i (e.1,b)).map (·.1)=A.map (·.1):=by
    rw[List.map_set]
    refine List.ext_getElem? fun j=>?_
    rw[List.getElem?_set]
    split
    · subst_vars
      rw[Ct,if_pos hil,G5,hi];rfl
    · rfl
   rw[this];exact S.nd
 · rw[E9,if_neg]
   · exact S.fr q hq
   · intro c;subst c
     have:=S.lt e (Gm hi)
     omega
theorem Sat.kill {i:Nat} {e:Av} (S:Sat h nx A) (hi:A[i]?=some e):Sat (hs h e.1 .dead) nx (A.eraseIdx i):=by
 have hsub:(A.eraseIdx i).Sublist A:=List.eraseIdx_sublist A i
 have S':=S.sub hsub
 refine⟨fun f hf=>?_,S'.lt,S'.nd,fun q hq=>?_⟩
 · rw[E9,if_neg]
   · exact S'.hold f hf
   · obtain⟨j,hj⟩:=Ih.1 hf
     rw[List.getElem?_eraseIdx]at hj
     split at hj
     · exact S.ne hj hi (by omega)
     · exact S.ne hj hi (by omega)
 · rw[E9]
   split
   · rfl
   · exact S.fr q hq
theorem Sat.new (S:Sat h nx A) {o:AO} {b:OB} (ho:Nb o b):Sat (hs h nx o) (Ad nx) ((nx,b)::A):=by
 refine⟨fun f hf=>?_,fun f hf=>?_,?_,fun q hq=>?_⟩
 · rw[E9]
   rcases Bo.1 hf with rfl|hf
   · simp only[if_pos];exact ho
   · have:=S.lt f hf
     rw[if_neg (fun c=>by rw[c]at this;omega)]
     exact S.hold f hf
 · rw[Hx]
   rcases Bo.1 hf with rfl|hf
   · exact Nat.lt_succ_self _
   · have:=S.lt f hf;omega
 · rw[D5,List.nodup_cons]
   refine⟨fun hm=>?_,S.nd⟩
   obtain⟨f,hf,he⟩:=Dz.1 hm
   have:=S.lt f hf
   simp only at he
   rw[he]at this;omega
 · rw[Hx]at hq
   rw[E9,if_neg (fun c=>by subst c;omega)]
   exact S.fr q (by omega)
theorem Ae (S:Sat h nx A) (i:Nat) {p:Pos} {L:List AV} {ty off:Nat} {k:AV→Bool} (hi:A[i]?=some (p,.row L ty)) (ho:off<L.length) (hk:k (L.getD off .x)=true):rd1 h p off k=true:=by
 obtain⟨cs,hc,hg⟩:=S.at hi
 simp only at hc
 rw[rd1_un];unfold rd1C;rw[Cz,hc]
 show fB (Nat.ble L.length off) false (T.getK .x cs (Ay (Nat.succ off)) k)=true
 refine Cw ho ?_
 rw[Db,hg off ho]
 exact hk
theorem Da (S:Sat h nx A) (i:Nat) {p:Pos} {L:List AV} {ty off n:Nat} {k:List AV→Bool} (hi:A[i]?=some (p,.row L ty)) (ho:off+n≤L.length) (hk:k ((L.drop off).take n)=true):rd h p off n k=true:=by
 obtain⟨cs,hc,hg⟩:=S.at hi
 simp only at hc
 rw[rd_un];unfold rdC;rw[Cz,hc]
 show fB (Nat.ble (off+n) L.length) (rdL cs n off k) false=true
 refine Bq ho ?_
 rw[Ol]
 have:Zd cs n off=(L.drop off).take n:=by
  refine List.ext_getElem? fun j=>?_
  by_cases hj:j<n
  · rw[Pv cs n off j hj,hg (off+j) (by omega),Jk,if_pos hj,List.getElem?_drop,A0]
    rw[B8 (by omega)]
    rfl
  · rw[Jl (by rw[Dj];omega),Jl (by simp;omega)]
 rw[this]
 exact hk
def D7 (L:List AV) (off:Nat) (vs:List AV):List AV:=L.take off++vs++L.drop (off+vs.length)
theorem N7 {L:List AV} {off:Nat} {vs:List AV} (h:off+vs.length≤L.length):(D7 L off vs).length=L.length:=by
 unfold D7;simp;omega
theorem splice_get {L:List AV} {off:Nat} {vs:List AV} (h:off+vs.length≤L.length) (i:Nat):(D7 L off vs).getD i .x=if off≤i∧i<off+vs.length then vs.getD (i-off) .x else L.getD i .x:=by
 unfold D7
 rw[A0,List.getElem?_append,List.getElem?_append]
 simp only[Bb,Ci]
 have hm:min off L.length=off:=by omega
 rw[hm]
 by_cases h1:i<off+vs.length
 · rw[if_pos h1]
   by_cases h2:i<off
   · rw[if_pos h2,if_neg (by omega),Jk,if_pos h2];rw[A0]
   · rw[if_neg h2,if_pos (by omega),A0]
 · rw[if_neg h1,if_neg (by omega),List.getElem?_drop,A0]
   congr 2;omega
theorem hold_wl {L:List AV} {off:Nat} {vs:List AV} {cs:T AV} {ty:Nat} (h:off+vs.length≤L.length) (hg:∀i,i<L.length→T.get .x cs (Ay (i+1))=L.getD i .x):Nb (.cells L.length (wl vs cs off) 0 false ty) (.row (D7 L off vs) ty):=
 ⟨wl vs cs off,by rw[N7 h],fun i hi=>by rw[N7 h]at hi;rw[Hv,splice_get h,hg i hi]⟩
theorem Au (S:Sat h nx A) (i:Nat) {p:Pos} {L:List AV} {ty off:Nat} {vs:List AV} {k:H→Bool} (hi:A[i]?=some (p,.row L ty)) (ho:off+vs.length≤L.length) (h1:Gt vs=true)
 (hk:∀h',Sat h' nx (A.set i (p,.row (D7 L off vs) ty))→k h'=true):wr h p off vs k=true:=by
 obtain⟨cs,hc,hg⟩:=S.at hi
 simp only at hc
 rw[wr_un];unfold wrC;rw[Cz,hc]
 show fB false false (fB (Nat.ble 0 off) (fB (Nat.ble (off+vs.length) L.length) (fB (Gt vs) (Vl vs cs off fun cs=>Fa h p (.cells L.length cs 0 false ty) k) false) false) false)=true
 show fB (Nat.ble 0 off) (fB (Nat.ble (off+vs.length) L.length) (fB (Gt vs) (Vl vs cs off fun cs=>Fa h p (.cells L.length cs 0 false ty) k) false) false) false=true
 refine Bq (B9 _) (Bq ho ?_)
 rw[h1]
 show Vl vs cs off _=true
 rw[Gy,Di]
 exact hk _ (S.put (e:=(p,.row L ty)) hi (hold_wl ho hg))
theorem Dq (L:List AV) (ty:Nat):Nb (.cells L.length (wl L .e 0) 0 false ty) (.row L ty):=
 ⟨_,rfl,fun i hi=>by rw[Hv,if_pos (by omega)];rfl⟩
theorem A6 (S:Sat h nx A) {o:AO} (b:OB) {k:Pos→H→Pos→Bool} (ho:Nb o b) (hk:∀h',Sat h' (Ad nx) ((nx,b)::A)→k nx h' (Ad nx)=true):Kj h nx o k=true:=by
 rw[newO_un];unfold newOC;rw[Cz,S.fr nx (Ag _)]
 show Fa h nx o (fun h=>sucK nx fun n=>k nx h n)=true
 rw[Di]
 show(sucK nx fun n=>k nx (hs h nx o) n)=true
 rw[sucK_eq]
 exact hk _ (S.new ho)
theorem Cp (S:Sat h nx A) {L:List AV} {ty n:Nat} {k:Pos→H→Pos→Bool} (hn:L.length=n) (hk:∀h',Sat h' (Ad nx) ((nx,.row L ty)::A)→k nx h' (Ad nx)=true):newC h nx ty n L k=true:=by
 subst hn
 rw[newC_un];unfold newCC
 rw[Gy]
 exact A6 S (.row L ty) (Dq L ty) hk
theorem A1 (S:Sat h nx A) (i:Nat) {p:Pos} {o:AO} {k:AO→Bool} (hi:A[i]?=some (p,.raw o)) (hk:k o=true):Fk h p k=true:=by
 obtain⟨hc,_⟩:=S.at hi
 simp only at hc
 rw[Cz,hc];exact hk
theorem D0 (S:Sat h nx A) (i:Nat) {p:Pos} {b:OB} {o:AO} (b':OB) {k:H→Bool} (hi:A[i]?=some (p,b)) (ho:Nb o b') (hk:∀h',Sat h' nx (A.set i (p,b'))→k h'=true):Fa h p o k=true:=
 by rw[Di];exact hk _ (S.put (e:=(p,b)) hi ho)
theorem Bm (S:Sat h nx A) (i:Nat) {p:Pos} {b:OB} {k:H→Bool} (hi:A[i]?=some (p,b)) (hk:∀h',Sat h' nx (A.eraseIdx i)→k h'=true):Fa h p .dead k=true:=
 by rw[Di];exact hk _ (S.kill (e:=(p,b)) hi)
theorem G7 (S:Sat h nx A) {e n b:Nat} {te:GV.TI} {vs:List AV} {k:K} (hn:n * (b+1)≤1000000000) (hv:vs.length=n*te.sz)
 (hk:∀h',Sat h' (Ad nx) ((nx,.row vs e)::A)→k (.sl nx 0 n (.u te.sz)) h' (Ad nx)=true):Ve e te b n vs .sl0 h nx k=true:=by
 rw[Qj]
 show fB (Nat.ble (n * (b+1)) 1000000000) (Vl vs .e 0 fun cs=>Kj h nx (.cells (n*te.sz) cs 0 false e) fun id h nx=>k (.sl id 0 n (.u te.sz)) h nx) false=true
 refine Bq hn ?_
 rw[Gy,←hv]
 exact A6 S (.row vs e) (Dq vs e) hk
theorem G6 (S:Sat h nx A) (i:Nat) {p:Pos} {LL:List AV} {e l n b:Nat} {te:GV.TI} {vs:List AV} {k:K} (hi:A[i]?=some (p,.row LL e)) (hl:l*te.sz≤LL.length) (ho:Gt vs=true) (hn:(l+n) * (b+1)≤1000000000)
 (hv:vs.length=n*te.sz) (hk:∀h',Sat h' (Ad nx) ((nx,.row (LL.take (l*te.sz)++vs) e)::A.eraseIdx i)→k (.sl nx 0 (l+n) (.u te.sz)) h' (Ad nx)=true):Ve e te b n vs (.sl p 0 l (.u te.sz)) h nx k=true:=by
 obtain⟨cs,hc,hg⟩:=S.at hi
 simp only at hc
 rw[Qj]
 show fB (Nat.ble ((l+n) * (b+1)) 1000000000) (fB (Nat.beq te.sz te.sz) (fB (Gt vs) (Fk h p fun o=>match o with
  |.cells cn cs fz ro ty=>fB ro false (fB (Nat.beq ty e) (fB (Nat.ble (l*te.sz) cn) (fB (Nat.beq 0 0) (fB (Nat.ble fz (l*te.sz))
    (Vl vs cs (l*te.sz) fun cs=>Fa h p .dead fun h=>Kj h nx (.cells ((l+n) * te.sz) cs fz false e) fun id h nx=>k (.sl id 0 (l+n) (.u te.sz)) h nx) false) false) false) false)
  |_=>false) false) false) false=true
 refine Bq hn (L7 rfl ?_)
 rw[ho]
 show Fk h p _=true
 rw[Cz,hc]
 show fB (Nat.beq e e) (fB (Nat.ble (l*te.sz) LL.length) (fB (Nat.ble 0 (l*te.sz))
         (Vl vs cs (l*te.sz) fun cs=>Fa h p .dead fun h=>Kj h nx (.cells ((l+n) * te.sz) cs 0 false e) fun id h nx=>k (.sl id 0 (l+n) (.u te.sz)) h nx) false) false) false=true
 refine L7 rfl (Bq hl (Bq (B9 _) ?_))
 rw[Gy,Di]
 have hlen:(LL.take (l*te.sz)++vs).length=(l+n) * te.sz:=by
  rw[Bb,Ci,hv,Nat.add_mul];omega
 rw[←hlen]
 refine A6 (S.kill (e:=(p,.row LL e)) hi) (.row (LL.take (l*te.sz)++vs) e) ⟨_,rfl,fun j hj=>?_⟩ hk
 have e1:(LL.take (l*te.sz)++vs).getD j .x=if j<l*te.sz then LL.getD j .x else vs.getD (j-l*te.sz) .x:=by
  rw[A0,List.getElem?_append,Ci,show min (l*te.sz) LL.length=l*te.sz by omega]
  by_cases h1:j<l*te.sz
  · rw[if_pos h1,if_pos h1,Jk,if_pos h1,A0]
  · rw[if_neg h1,if_neg h1,A0]
 rw[e1,Hv]
 rw[Bb,Ci]at hj
 by_cases h1:j<l*te.sz
 · rw[if_neg (by omega),if_pos h1,hg j (by omega)]
 · rw[if_pos (by omega),if_neg h1]
theorem Yb {kl:List Nat} {hit:Nat→AV→Bool} {miss:Bool}:∀(es:List KE) (i:Nat),(∀v j,Ks es kl=some v→hit j v=true)→(Ks es kl=none→miss=true)→Gx kl (es.map Ij) i hit miss=true
 |[],i,_,h2=>h2 rfl
 |e::r,i,h1,h2=>by
  show fB (Dg kl e.1) (hit i e.2.1) (Gx kl (r.map Ij) (Nat.succ i) hit miss)=true
  have hl:Ks (e::r) kl=if e.1=kl then some e.2.1 else Ks r kl:=by
   unfold Ks
   rw[List.find?_cons]
   by_cases hk:e.1=kl<;>simp[hk]
  by_cases hk:e.1=kl
  · rw[(Dn kl e.1).2 hk.symm]
    exact h1 _ _ (by rw[hl,if_pos hk])
  · rw[if_neg hk]at hl
    have hf:Dg kl e.1=false:=by
     cases hb:Dg kl e.1 with
     |false=>rfl
     |true=>exact absurd ((Dn kl e.1).1 hb).symm hk
    rw[hf]
    exact Yb r _ (fun v j h=>h1 v j (by rw[hl];exact h)) (fun h=>h2 (by rw[hl];exact h))
theorem Mg (S:Sat h nx A) (i:Nat) {p:Pos} {f:List Nat→Option AV} {kl:List Nat} {hit:Nat→AV→Bool} {miss:Bool} (hi:A[i]?=some (p,.map f)) (h1:∀v j,f kl=some v→hit j v=true) (h2:f kl=none→miss=true) :
 Fk h p (fun o=>match o with
  |.map es _=>Gx kl es 0 hit miss
  |_=>false)=true:=by
 obtain⟨l,c,hc,hn,hf⟩:=S.at hi
 simp only at hc
 rw[Cz,hc]
 exact Yb l 0 (fun v j h=>h1 v j (by rw[←hf];exact h)) (fun h=>h2 (by rw[←hf];exact h))
theorem splitE (kl:List Nat):∀es:List KE,(∃a e r,es=a++e::r∧e.1=kl∧∀x∈a,x.1≠kl)∨∀x∈es,x.1≠kl
 |[]=>.inr fun x hx=>by cases hx
 |e::r=>by
  by_cases h:e.1=kl
  · exact .inl ⟨[],e,r,rfl,h,fun x hx=>by cases hx⟩
  · rcases splitE kl r with⟨a,f,q,h1,h2,h3⟩|h1
    · refine .inl ⟨e::a,f,q,by rw[h1];rfl,h2,fun x hx=>?_⟩
      rcases Bo.1 hx with rfl|hx
      · exact h
      · exact h3 x hx
    · refine .inr fun x hx=>?_
      rcases Bo.1 hx with rfl|hx
      · exact h
      · exact h1 x hx
theorem Hg (e:KE) (r:List KE) (kl:List Nat):Ks (e::r) kl=if e.1=kl then some e.2.1 else Ks r kl:=by
 unfold Ks
 rw[List.find?_cons]
 by_cases hk:e.1=kl<;>simp[hk]
theorem K6 (a r:List KE) (key:List Nat):Ks (a++r) key=match Ks a key with|some v=>some v|none=>Ks r key:=by
 induction a with
 |nil=>rfl
 |cons e a ih=>
  rw[Hj,Hg,Hg]
  by_cases h:e.1=key
  · rw[if_pos h,if_pos h]
  · rw[if_neg h,if_neg h,ih]
theorem Mq {a:List KE} {key:List Nat} (h:∀x∈a,x.1≠key):Ks a key=none:=by
 induction a with
 |nil=>rfl
 |cons e a ih=>rw[Hg,if_neg (h e (Aw ..)),ih fun x hx=>h x (Am _ hx)]
theorem Ra {kl:List Nat} {hit:Nat→AV→Bool} {miss:Bool}:∀(a:List KE) (e:KE) (r:List KE) (i:Nat),e.1=kl→(∀x∈a,x.1≠kl)→Gx kl ((a++e::r).map Ij) i hit miss=hit (i+a.length) e.2.1
 |[],e,r,i,he,_=>by
  show fB (Dg kl e.1) (hit i e.2.1) (Gx kl (r.map Ij) (Nat.succ i) hit miss)=_
  rw[(Dn kl e.1).2 he.symm];rfl
 |x::a,e,r,i,he,ha=>by
  show fB (Dg kl x.1) (hit i x.2.1) (Gx kl ((a++e::r).map Ij) (Nat.succ i) hit miss)=_
  have hf:Dg kl x.1=false:=by
   cases hb:Dg kl x.1 with
   |false=>rfl
   |true=>exact absurd ((Dn kl x.1).1 hb).symm (ha x (Aw ..))
  rw[hf]
  show Gx kl ((a++e::r).map Ij) (Nat.succ i) hit miss=_
  rw[Ra a e r _ he fun y hy=>ha y (Am _ hy)]
  congr 1;simp only[Cq];omega
theorem Ow {kl:List Nat} {hit:Nat→AV→Bool} {miss:Bool}:∀(a:List KE) (i:Nat),(∀x∈a,x.1≠kl)→Gx kl (a.map Ij) i hit miss=miss
 |[],_,_=>rfl
 |x::a,i,ha=>by
  show fB (Dg kl x.1) (hit i x.2.1) (Gx kl (a.map Ij) (Nat.succ i) hit miss)=_
  have hf:Dg kl x.1=false:=by
   cases hb:Dg kl x.1 with
   |false=>rfl
   |true=>exact absurd ((Dn kl x.1).1 hb).symm (ha x (Aw ..))
  rw[hf]
  exact Ow a _ fun y hy=>ha y (Am _ hy)
theorem setE_at {key v:AV}:∀(a:List (AV×AV×Nat)) (e:AV×AV×Nat) (r:List (AV×AV×Nat)) (k:List (AV×AV×Nat)→Bool),Y5 (a++e::r) a.length key v k=k (a++(key,v,e.2.2)::r)
 |[],_,_,_=>rfl
 |x::a,e,r,k=>by
  show Y5 (a++e::r) a.length key v (fun r=>k (x::r))=_
  rw[setE_at a e r];rfl
theorem delE_at:∀(a:List (AV×AV×Nat)) (e:AV×AV×Nat) (r:List (AV×AV×Nat)) (k:List (AV×AV×Nat)→Bool),Aaq (a++e::r) a.length k=k (a++r)
 |[],_,_,_=>rfl
 |x::a,e,r,k=>by
  show Aaq (a++e::r) a.length (fun r=>k (x::r))=_
  rw[delE_at a e r];rfl
theorem snocE_at (e:AV×AV×Nat):∀(a:List (AV×AV×Nat)) (k:List (AV×AV×Nat)→Bool),snocE a e k=k (a++[e])
 |[],_=>rfl
 |x::a,k=>by
  show snocE a e (fun r=>k (x::r))=_
  rw[snocE_at e a];rfl
theorem Pr (S:Sat h nx A) (i:Nat) {p:Pos} {f:List Nat→Option AV} {kl:List Nat} {v:AV} {k:H→Bool} (hi:A[i]?=some (p,.map f))
 (hk:∀h',Sat h' nx (A.set i (p,.map fun x=>if x=kl then some v else f x))→k h'=true) :
 Fk h p (fun o=>match o with
  |.map es c=>Gx kl es 0 (fun i _=>Y5 es i (.s kl) v fun es=>Fa h p (.map es c) k)
    (snocE es (.s kl,v,c) fun es=>fN (Nat.succ c) fun d=>Fa h p (.map es d) k)
  |_=>false)=true:=by
 obtain⟨l,c,hc,hn,hf⟩:=S.at hi
 simp only at hc
 rw[Cz,hc]
 rcases splitE kl l with⟨a,e,r,rfl,he,ha⟩|hno
 · show Gx kl ((a++e::r).map Ij) 0 _ _=true
   rw[Ra a e r 0 he ha]
   show Y5 ((a++e::r).map Ij) (0+a.length) (.s kl) v _=true
   have:Y5 ((a++e::r).map Ij) (0+a.length) (.s kl) v=Y5 (a.map Ij++Ij e::r.map Ij) (a.map Ij).length (.s kl) v:=by simp
   rw[this,setE_at,Di]
   refine hk _ (S.put (e:=(p,.map f)) hi ⟨a++(kl,v,e.2.2)::r,c,by simp[Ij],?_,fun key=>?_⟩)
   · simpa[he]using hn
   · show _=if key=kl then some v else f key
     rw[←hf,K6,K6,Hg,Hg]
     by_cases hkey:key=kl
     · subst hkey;rw[Mq ha];simp
     · rw[if_neg hkey]
       rw[if_neg (fun x=>hkey x.symm),if_neg (fun x=>hkey (x.symm.trans he))]
 · show Gx kl (l.map Ij) 0 _ _=true
   rw[Ow l 0 hno,snocE_at]
   show Fa h p _ _=true
   rw[Di]
   refine hk _ (S.put (e:=(p,.map f)) hi ⟨l++[(kl,v,c)],Nat.succ c,by simp[Ij],?_,fun key=>?_⟩)
   · rw[Eo,List.nodup_append]
     refine⟨hn,by simp,fun x hx y hy=>?_⟩
     obtain⟨z,hz,rfl⟩:=Dz.1 hx
     simp at hy;subst hy
     exact hno z hz
   · show _=if key=kl then some v else f key
     rw[←hf,K6,Hg]
     by_cases hkey:key=kl
     · subst hkey;rw[Mq hno];simp
     · rw[if_neg hkey,if_neg (fun x=>hkey x.symm)]
       cases Ks l key<;>rfl
theorem sat_mdel (S:Sat h nx A) (i:Nat) {p:Pos} {f:List Nat→Option AV} {kl:List Nat} {k:H→Bool} (hi:A[i]?=some (p,.map f))
 (hk:∀h',Sat h' nx (A.set i (p,.map fun x=>if x=kl then none else f x))→k h'=true) :
 Fk h p (fun o=>match o with
  |.map es c=>Gx kl es 0 (fun i _=>Aaq es i fun es=>Fa h p (.map es c) k) (Fa h p (.map es c) k)
  |_=>false)=true:=by
 obtain⟨l,c,hc,hn,hf⟩:=S.at hi
 simp only at hc
 rw[Cz,hc]
 rcases splitE kl l with⟨a,e,r,rfl,he,ha⟩|hno
 · show Gx kl ((a++e::r).map Ij) 0 _ _=true
   rw[Ra a e r 0 he ha]
   show Aaq ((a++e::r).map Ij) (0+a.length) _=true
   have:Aaq ((a++e::r).map Ij) (0+a.length)=Aaq (a.map Ij++Ij e::r.map Ij) (a.map Ij).length:=by simp
   rw[this,delE_at,Di]
   have hn':=hn
   rw[Eo,List.nodup_append,D5,List.nodup_cons]at hn
   obtain⟨n1,⟨n2,n3⟩,n4⟩:=hn
   refine hk _ (S.put (e:=(p,.map f)) hi ⟨a++r,c,by simp[Ij],?_,fun key=>?_⟩)
   · rw[Eo,List.nodup_append]
     exact⟨n1,n3,fun x hx y hy=>n4 x hx y (Am _ hy)⟩
   · show _=if key=kl then none else f key
     rw[←hf,K6,K6,Hg]
     by_cases hkey:key=kl
     · subst hkey
       rw[Mq ha,if_pos rfl]
       exact Mq fun x hx c=>n2 (by rw[he,←c];exact List.mem_map_of_mem hx)
     · rw[if_neg hkey,if_neg (fun x=>hkey (x.symm.trans he))]
 · show Gx kl (l.map Ij) 0 _ _=true
   rw[Ow l 0 hno,Di]
   refine hk _ (S.put (e:=(p,.map f)) hi ⟨l,c,rfl,hn,fun key=>?_⟩)
   show _=if key=kl then none else f key
   by_cases hkey:key=kl
   · subst hkey;rw[if_pos rfl];exact Mq hno
   · rw[if_neg hkey];exact hf key
end Go.CE
namespace Go.CE
open Go Go.Ps Go.Proofs.YtacpdfjcepkgcaaGreatDoor
inductive SlA (es ty:Nat):AV→List AV→List Av→Prop
 |nil:SlA es ty .sl0 [] []
 |row (p:Pos) (off n:Nat) (cap:Cap) (LL fl:List AV) (h1:(LL.drop off).take (n*es)=fl) (h2:off+n*es≤LL.length):SlA es ty (.sl p off n cap) fl [(p,.row LL ty)]
inductive GrA (es ty:Nat):AV→List AV→List Av→Prop
 |nil:GrA es ty .sl0 [] []
 |row (p:Pos) (n:Nat) (LL fl:List AV) (h1:LL.take (n*es)=fl) (h2:n*es≤LL.length):GrA es ty (.sl p 0 n (.u es)) fl [(p,.row LL ty)]
def iA (n:Nat):AV:=.i .i64 (Int.ofNat n)
def Du (t:Tk):List AV:=[.i .i64 t.c,.s t.t]
def Dy (n:Nd):List AV:=[iA n.k,iA n.f,iA n.t,iA n.s]
structure Ch where
 n:List Nat
 was:Int
 now:Int
def Ji (c:Ch):List AV:=[.s c.n,.i .i64 c.was,.i .i64 c.now]
def Oy (c:Ch):Dc:=⟨c.n,decide (c.now=1)⟩
def I9 (now:List Nat→Int) (n:List Nat) (v:Int):List Nat→Int:=fun x=>if x=n then v else now x
def Lf (now:List Nat→Int):List Ch→List Nat→Int
 |[]=>now
 |c::r=>I9 (Lf now r) c.n c.was
structure PEnv where
 l:List Tk
 pp:Pos
 sc:Pos
 tau:List Nat→Bool
 SE:List Av
 gh:List Dc
 lsl:AV
 EL:List Av
def R6 (E:PEnv) (now:List Nat→Int) (x:List Nat):Bool:=if now x=1 then true else if now x=2 then false else E.tau x
def NR (E:PEnv):(List Nat→Int)→List Ch→List Nat→(List Nat→Bool)→List Dc→List ((List Nat→Bool)×List Dc)→Prop
 |now,cg,bk,ty,dl,[]=>bk=[]∧dl=E.gh++cg.map Oy∧(∀x,R6 E now x=ty x)
 |now,cg,bk,ty,dl,(ty',dl')::r=>∃b k,bk=b++[k]∧k≤cg.length∧dl=(cg.drop k).map Oy∧(∀x,R6 E now x=ty x)∧NR E (Lf now (cg.drop k)) (cg.take k) b ty' dl' r
def Eb (now:List Nat→Int) (x:List Nat):Option AV:=if now x=0 then none else some (.i .i64 (now x))
structure PC where
 dn:AV
 cg:AV
 bk:AV
 mp:Pos
 now:List Nat→Int
 CL:List Ch
 BL:List Nat
 ED:List Av
 EC:List Av
 EB:List Av
def ScOK (E:PEnv):Prop:=∀(n:Nat) (h:H) (nx:Pos) (B:List Av) (x:List Nat) (kp:KP) (k:K),30≤n→Sat h nx B→(∀e∈E.SE,e∈B)→k (.b (E.tau x)) h nx=true→Ai gg n kp (.fn 135 []) [.p E.sc 0,.s x] h nx k=true
structure PR (E:PEnv) (C:PC) (s:PS):Prop where
 sc:ScOK E
 at':s.at'≤E.l.length
 len:E.l.length≤1000000
 tok:SlA 2 54 E.lsl (E.l.flatMap Du) E.EL
 dn:GrA 4 132 C.dn (s.done.flatMap Dy) C.ED
 cg:GrA 3 202 C.cg (C.CL.flatMap Ji) C.EC
 bk:GrA 1 3 C.bk (C.BL.map iA) C.EB
 nr:NR E C.now C.CL C.BL s.ty s.dl s.st
 sb:s.st.length≤Ps.big∧tot s≤Ps.big
 ok:∀c∈C.CL,(c.was=0∨c.was=1∨c.was=2)∧(c.now=1∨c.now=2)
 nw:∀x,C.now x=0∨C.now x=1∨C.now x=2
def PA (E:PEnv) (C:PC) (s:PS) (R:List Av):List Av:=
 (E.pp,.row [E.lsl,iA s.at',C.dn,.p E.sc 0,.m C.mp,C.cg,C.bk] 66)::(C.mp,.map (Eb C.now))::(R++(E.EL++(C.ED++(C.EC++(C.EB++E.SE)))))
def PI (E:PEnv) (h:H) (nx:Pos) (s:PS) (R:List Av):Prop:=∃C,PR E C s∧Sat h nx (PA E C s R)
variable {E : PEnv} {h : H} {nx : Pos} {s : PS} {R : List Av}
theorem Af (P:PI E h nx s R) (i:Nat) {p:Pos} {L:List AV} {ty off:Nat} {k:AV→Bool} (hi:R[i]?=some (p,.row L ty)) (ho:off<L.length) (hk:k (L.getD off .x)=true):rd1 h p off k=true:=by
 obtain⟨C,hR,S⟩:=P
 refine Ae S (i+2) (p:=p) (L:=L) (ty:=ty) ?_ ho hk
 show(R++_)[i]?=_
 rw[Ii (Gn.1 hi).1];exact hi
theorem An (P:PI E h nx s R) (i:Nat) {p:Pos} {L:List AV} {ty off n:Nat} {k:List AV→Bool} (hi:R[i]?=some (p,.row L ty)) (ho:off+n≤L.length) (hk:k ((L.drop off).take n)=true):rd h p off n k=true:=by
 obtain⟨C,hR,S⟩:=P
 refine Da S (i+2) (p:=p) (L:=L) (ty:=ty) ?_ ho hk
 show(R++_)[i]?=_
 rw[Ii (Gn.1 hi).1];exact hi
theorem B5 (P:PI E h nx s R) (i:Nat) {p:Pos} {L:List AV} {ty off:Nat} {vs:List AV} {k:H→Bool} (hi:R[i]?=some (p,.row L ty)) (ho:off+vs.length≤L.length) (h1:Gt vs=true)
 (hk:∀h',PI E h' nx s (R.set i (p,.row (D7 L off vs) ty))→k h'=true):wr h p off vs k=true:=by
 obtain⟨C,hR,S⟩:=P
 have hl:=(Gn.1 hi).1
 refine Au S (i+2) (p:=p) (L:=L) (ty:=ty) ?_ ho h1 fun h' S'=>hk h' ⟨C,hR,?_⟩
 · show(R++_)[i]?=_
   rw[Ii hl];exact hi
 · unfold PA
   rw[←List.set_append_left _ _ hl]
   exact S'
theorem Bl (P:PI E h nx s R) {L:List AV} {ty n:Nat} {k:Pos→H→Pos→Bool} (hn:L.length=n) (hk:∀h',PI E h' (Ad nx) s ((nx,.row L ty)::R)→k nx h' (Ad nx)=true):newC h nx ty n L k=true:=by
 obtain⟨C,hR,S⟩:=P
 refine Cp S hn fun h' S'=>hk h' ⟨C,hR,S'.perm ?_⟩
 unfold PA
 refine(List.Perm.swap ..).trans (.cons _ (List.Perm.swap ..))
theorem PI.tail {e:Av} (P:PI E h nx s (e::R)):PI E h nx s R:=by
 obtain⟨C,hR,S⟩:=P
 exact⟨C,hR,S.sub (.cons_cons _ (.cons_cons _ (.cons _ (E7 _))))⟩
theorem PI.drop (P:PI E h nx s R) (n:Nat):PI E h nx s (R.drop n):=by
 obtain⟨C,hR,S⟩:=P
 exact⟨C,hR,S.sub (.cons_cons _ (.cons_cons _ (.append (List.drop_sublist n R) (E7 _))))⟩
theorem PI.sub {R':List Av} (P:PI E h nx s R) (hs:R'.Sublist R):PI E h nx s R':=by
 obtain⟨C,hR,S⟩:=P
 exact⟨C,hR,S.sub (.cons_cons _ (.cons_cons _ (.append hs (E7 _))))⟩
theorem PI.sb {E:PEnv} {h:H} {nx:Pos} {s:PS} {R R':List Av} (P:PI E h nx s R) (hs:R'.Sublist R:=by repeat(first|exact .refl _|exact List.sublist_append_left _ _|refine .cons _ ?_)):PI E h nx s R':=P.sub hs
theorem Bd (P:PI E h nx s R) {k:AV→Bool} (hk:s.at'≤1000000→k (iA s.at')=true):rd1 h E.pp 1 k=true:=by
 obtain⟨C,hR,S⟩:=P
 exact Ae S 0 rfl (by simp) (hk (Cr hR.at' hR.len))
theorem Ss (P:PI E h nx s R) {z:Int} {n:Nat} {k:H→Bool} (hz:z=Int.ofNat n) (hn:n≤E.l.length)
 (hk:∀h',PI E h' nx {s with at':=n} R→k h'=true):wr h E.pp 1 [.i .i64 z] k=true:=by
 obtain⟨C,hR,S⟩:=P
 subst hz
 exact Au S 0 rfl (by simp) rfl fun h' S'=>hk h' ⟨C,⟨hR.sc,hn,hR.len,hR.tok,hR.dn,hR.cg,hR.bk,hR.nr,hR.sb,hR.ok,hR.nw⟩,S'⟩
theorem PI.at (P:PI E h nx s R):s.at'≤E.l.length∧E.l.length≤1000000:=by
 obtain⟨C,hR,S⟩:=P
 exact⟨hR.at',hR.len⟩
theorem PI.sat (P:PI E h nx s R):Sat h nx (R++(E.EL++E.SE)):=by
 obtain⟨C,hR,S⟩:=P
 refine S.sub (.cons _ (.cons _ (.append (.refl _) (.append (.refl _) ?_))))
 exact(Gf _ _).trans ((Gf _ _).trans (Gf _ _))
end Go.CE
namespace Go.CE
open Go Go.Ps Go.Proofs.YtacpdfjcepkgcaaGreatDoor
theorem J6 {α:Type} {f:α→List AV} {n:Nat} (hf:∀a,(f a).length=n):∀(l:List α) (i j:Nat) (hi:i<l.length),j<n→(l.flatMap f).getD (i*n+j) .x=(f (l[i]'hi)).getD j .x
 |a::r,0,j,hi,hj=>by
  simp only[Fi,Nat.zero_mul,Bf,List.getElem_cons_zero]
  rw[A0,Ii (by rw[hf];exact hj),A0]
 |a::r,i+1,j,hi,hj=>by
  have:=J6 hf r i j (by simpa using hi) hj
  simp only[Fi,List.getElem_cons_succ]
  rw[←this,A0,Fy (by rw[hf,Nat.add_mul];omega),A0,hf]
  congr 2
  rw[Nat.add_mul];omega
theorem Az {α:Type} {f:α→List AV} {n:Nat} (hf:∀a,(f a).length=n):∀(l:List α),(l.flatMap f).length=l.length*n
 |[]=>by simp
 |a::r=>by simp[Az hf r,hf,Nat.add_mul];omega
theorem J2 {es:Nat} {α:Type} {f:α→List AV} (hf:∀a,(f a).length=es) {l:List α} {off n:Nat} {LL:List AV} (h1:(LL.drop off).take (n*es)=l.flatMap f) (h2:off+n*es≤LL.length) (hes:0<es)
 {i:Nat} (hi:i<l.length):l.length=n∧(LL.drop (off+i*es)).take es=f l[i]:=by
 have hlen:=congrArg List.length h1
 rw[Az hf]at hlen
 simp only[Ci,Ax]at hlen
 have hn:l.length=n:=by
  have:l.length*es=n*es:=by omega
  exact Nat.eq_of_mul_eq_mul_right hes this
 refine⟨hn,?_⟩
 have hb:i*es+es≤n*es:=by rw[←hn,←Nat.succ_mul];exact Kb _ hi
 refine List.ext_getElem? fun j=>?_
 by_cases hj:j<es
 · have hg:=J6 hf l i j hi hj
   rw[←h1]at hg
   rw[A0,Jk,if_pos (by omega),List.getElem?_drop]at hg
   rw[Jk,if_pos hj,List.getElem?_drop,←Er]at *
   rw[A0]at hg
   have a1:off+i*es+j<LL.length:=by omega
   have a2:j<(f l[i]).length:=by rw[hf];exact hj
   rw[B8 a1,B8 a2]at *
   simpa using hg
 · rw[Jl (by simp;omega),Jl (by rw[hf];omega)]
theorem SlA.inv {es ty:Nat} {av:AV} {fl:List AV} {Es:List Av} (h:SlA es ty av fl Es):av=.sl0∧fl=[]∧Es=[]∨∃p off n cap LL,av=.sl p off n cap∧(LL.drop off).take (n*es)=fl∧off+n*es≤LL.length∧Es=[(p,.row LL ty)]:=by
 cases h with
 |nil=>exact .inl ⟨rfl,rfl,rfl⟩
 |row p off n cap LL fl h1 h2=>exact .inr ⟨p,off,n,cap,LL,rfl,h1,h2,rfl⟩
theorem GrA.inv {es ty:Nat} {av:AV} {fl:List AV} {Es:List Av} (h:GrA es ty av fl Es):av=.sl0∧fl=[]∧Es=[]∨∃p n LL,av=.sl p 0 n (.u es)∧LL.take (n*es)=fl∧n*es≤LL.length∧Es=[(p,.row LL ty)]:=by
 cases h with
 |nil=>exact .inl ⟨rfl,rfl,rfl⟩
 |row p n LL fl h1 h2=>exact .inr ⟨p,n,LL,rfl,h1,h2,rfl⟩
theorem B6 (t:Tk):(Du t).length=2:=rfl
theorem Ed (t:Nd):(Dy t).length=4:=rfl
theorem Dk (t:Ch):(Ji t).length=3:=rfl
theorem Dh {α:Type} {f:α→List AV} {es:Nat} (hf:∀a,(f a).length=es) (hes:0<es) {l:List α} (h:l.flatMap f=[]):l=[]:=by
 have:=congrArg List.length h
 rw[Az hf]at this
 simp only[Dv]at this
 cases l with
 |nil=>rfl
 |cons a r=>
  simp only[Cq,Nat.add_mul,Nat.one_mul]at this
  omega
theorem El {α:Type} {f:α→List AV} {es:Nat} (hf:∀a,(f a).length=es) (hes:0<es) {l:List α} {off n:Nat} {LL:List AV} (h1:(LL.drop off).take (n*es)=l.flatMap f) (h2:off+n*es≤LL.length):l.length=n:=by
 have hlen:=congrArg List.length h1
 rw[Az hf]at hlen
 simp only[Ci,Ax]at hlen
 have:l.length*es=n*es:=by omega
 exact Nat.eq_of_mul_eq_mul_right hes this
variable {E : PEnv} {h : H} {nx : Pos} {s : PS} {R : List Av}
theorem PI.tok (P:PI E h nx s R):E.lsl=.sl0∧E.l.length=0∨∃p off cap,E.lsl=.sl p off E.l.length cap:=by
 obtain⟨C,hR,S⟩:=P
 rcases hR.tok.inv with⟨h1,h2,h3⟩|⟨p,off,n,cap,LL,h1,h2,h3,h4⟩
 · exact .inl ⟨h1,by rw[Dh B6 (by omega) h2];rfl⟩
 · exact .inr ⟨p,off,cap,by rw[h1,El B6 (by omega) h2 h3]⟩
theorem pi_rdL (P:PI E h nx s R) {k:AV→Bool} (hk:k E.lsl=true):rd1 h E.pp 0 k=true:=by
 obtain⟨C,hR,S⟩:=P
 exact Ae S 0 rfl (by simp) hk
theorem pi_tok (P:PI E h nx s R) {p:Pos} {off n i o:Nat} {cap:Cap} (hl:E.lsl=.sl p off n cap) (hi:i<E.l.length) (ho:o=off+i*2) {k:List AV→Bool} (hk:k (Du (E.l.getD i z0))=true):rd h p o 2 k=true:=by
 obtain⟨C,hR,S⟩:=P
 rcases hR.tok.inv with⟨h1,h2,h3⟩|⟨p',off',n',cap',LL,h1,h2,h3,h4⟩
 · rw[h1]at hl;cases hl
 · rw[h1]at hl;cases hl
   subst ho
   have hj:∃j:Nat,(PA E C s R)[j]?=some (p,.row LL 54):=by
    refine Ih.1 ?_
    unfold PA
    rw[h4];simp
   obtain⟨j,hj⟩:=hj
   obtain⟨e1,e2⟩:=J2 B6 h2 h3 (by omega) hi
   have:i*2+2≤n*2:=by omega
   refine Da S j hj (by omega) ?_
   rw[e2]
   rw[A0,B8 hi]at hk
   exact hk
end Go.CE
