/- Part 37 of the lemmas behind the claim. -/
import Derived.Test.YtacpdfjcepkgcaaGreatDoorZA01
import Derived.Test.YtacpdfjcepkgcaaGreatDoorZA36
import Derived.Test.YtacpdfjcepkgcaaGreatDoorZA22
set_option linter.unusedSimpArgs false
set_option linter.unusedVariables false
set_option linter.constructorNameAsVariable false
set_option linter.unusedSectionVars false
set_option linter.defProp false
set_option maxRecDepth 100000
set_option maxHeartbeats 40000000
namespace Go.CE
open Go Go.Ps Go.Proofs.YtacpdfjcepkgcaaGreatDoor
attribute [local irreducible] loopK Ai K0 N2 Dg fits rd rd1 wr newC Kj Fk Fa Ve
def Kz {α:Type} (es ty:Nat) (f:α→List AV) (l:List α) (av:AV) (A:List Av):Prop:=
 l=[]∧av=.sl0∨∃p off cap LL,av=.sl p off l.length cap∧(p,OB.row LL ty)∈A∧(LL.drop off).take (l.length*es)=l.flatMap f∧off+l.length*es≤LL.length
theorem Kz.mono {α:Type} {es ty:Nat} {f:α→List AV} {l:List α} {av:AV} {A B:List Av} (h:Kz es ty f l av A) (hs:∀e∈A,e∈B):Kz es ty f l av B:=by
 rcases h with h|⟨p,off,cap,LL,h1,h2,h3⟩
 · exact .inl h
 · exact .inr ⟨p,off,cap,LL,h1,hs _ h2,h3⟩
theorem GrA.lst {α:Type} {es ty:Nat} {f:α→List AV} (hf:∀a,(f a).length=es) (hes:0<es) {l:List α} {av:AV} {X A:List Av} (h:GrA es ty av (l.flatMap f) X) (hs:∀e∈X,e∈A):Kz es ty f l av A:=by
 rcases h.inv with⟨rfl,h2,rfl⟩|⟨p,n,LL,rfl,h2,h3,rfl⟩
 · exact .inl ⟨Dh hf hes h2,rfl⟩
 · have:=El (off:=0) hf hes h2 (by omega)
   subst this
   exact .inr ⟨p,0,_,LL,rfl,hs _ (by simp),h2,by omega⟩
theorem Gl {α:Type} {es ty:Nat} {f:α→List AV} (hf:∀a,(f a).length=es) {l:List α} {h:H} {nx:Pos} {A:List Av} (S:Sat h nx A) {p:Pos} {off:Nat} {LL:List AV} (hp:(p,OB.row LL ty)∈A)
 (h1:(LL.drop off).take (l.length*es)=l.flatMap f) (h2:off+l.length*es≤LL.length) (hes:0<es) (i:Nat) (hi:i<l.length) {o:Nat} (ho:o=off+i*es) {k:List AV→Bool} (hk:k (f l[i])=true):rd h p o es k=true:=by
 obtain⟨j,hj⟩:=Ih.1 hp
 obtain⟨e1,e2⟩:=J2 hf h1 h2 hes hi
 subst ho
 have:i*es+es≤l.length*es:=by rw[←Nat.succ_mul];exact Kb _ hi
 refine Da S j hj (by omega) ?_
 rw[e2];exact hk
theorem S7 {lv:AV} {fl:List AV} {X A:List Av} (L:List Av) {h:H} {nx:Pos} {e n b:Nat} {te:GV.TI} {vs:List AV} {k:K} (S:Sat h nx (L++(X++A))) (G:GrA te.sz e lv fl X) (hz:0<te.sz) (ho:Gt vs=true) (hv:vs.length=n*te.sz) (c:Nat) (hc:fl.length≤c*te.sz)
 (hn:(c+n) * (b+1)≤1000000000) (hk:∀h' X' lv',GrA te.sz e lv' (fl++vs) X'→Sat h' (Ad nx) (L++(X'++A))→k lv' h' (Ad nx)=true):Ve e te b n vs lv h nx k=true:=by
 rcases G.inv with⟨rfl,rfl,rfl⟩|⟨p,m,LL,rfl,h2,h3,rfl⟩
 · refine G7 S (Cr (Kb _ (by omega)) hn) hv fun h' S=>?_
   refine hk h' [(nx,.row vs e)] _ (.row nx n vs vs (by rw[←hv,List.take_length]) (by omega)) (S.perm ?_)
   exact(Fh (a:=(nx,OB.row vs e)) (l₁:=L) (l₂:=A)).symm
 · have hm:m≤c:=by
    have:fl.length=m*te.sz:=by rw[←h2,Ci];omega
    rw[this]at hc
    exact Nat.le_of_mul_le_mul_right hc hz
   have S:=S.perm (Fh (a:=(p,OB.row LL e)) (l₁:=L) (l₂:=A))
   refine G6 S 0 rfl h3 ho (Cr (Kb _ (by omega)) hn) hv fun h' S=>?_
   refine hk h' [(nx,.row (LL.take (m*te.sz)++vs) e)] _ (.row nx (m+n) _ _ ?_ ?_) (S.perm (Fh (a:=(nx,OB.row (LL.take (m*te.sz)++vs) e)) (l₁:=L) (l₂:=A)).symm)
   · have:(m+n) * te.sz=(LL.take (m*te.sz)++vs).length:=by rw[Bb,Ci,hv,Nat.add_mul];omega
     rw[this,List.take_length,h2]
   · rw[Bb,Ci,hv,Nat.add_mul];omega
theorem hold_5 (a b c d e:AV) (ty:Nat):Nb (.cells 5 (wl [a,b,c,d,e] .e 0) 0 false ty) (.row [a,b,c,d,e] ty):=Dq [a,b,c,d,e] ty
theorem hol_3 (a b c:AV) (ty:Nat):Nb (.cells 3 (wl [a,b,c] .e 0) 0 false ty) (.row [a,b,c] ty):=Dq [a,b,c] ty
theorem hol_2 (a b:AV) (ty:Nat):Nb (.cells 2 (wl [a,b] .e 0) 0 false ty) (.row [a,b] ty):=Dq [a,b] ty
theorem Xy (a:AV) (ty:Nat):Nb (.cells 1 (wl [a] .e 0) 0 false ty) (.row [a] ty):=Dq [a] ty
structure T5 where
 k:Int
 x:List Nat
 a:Int
 e:Int
 s:Bool
def Jh (t:T5):List AV:=[.i .i64 t.k,.s t.x,.i .i64 t.a,.i .i64 t.e,.b t.s]
theorem C7 (t:T5):(Jh t).length=5:=rfl
def Fv:Bool→List T5→List T5
 |_,[]=>[]
 |d,t::r=>if t.k=8∨t.k=9 then Fv true r else⟨t.k,t.x,t.a,t.e,t.s||d⟩::Fv false r
theorem Ri {α:Type} {l:List α} {i:Nat} (h:i<l.length):l.drop i=l[i]::l.drop (i+1):=Ly h
theorem Aaw {n:Nat} (hn:1000020≤n) {av:AV} {l:List T5} {A:List Av} (hl:Kz 5 29 Jh l av A) (hle:l.length≤100000) {kp:KP} {h:H} {nx:Pos} (S:Sat h nx A) {k:K}
 (hk:∀lv X h' nx',GrA 5 29 lv ((Fv false l).flatMap Jh) X→Sat h' nx' (X++A)→k lv h' nx'=true):Ai gg n kp (.fn 10 []) [av] h nx k=true:=by
 refine Ab hn (by omega) fun m hm=>?_
 rcases hl with⟨rfl,rfl⟩|⟨p,off,cap,LL,rfl,hp,h1,h2⟩
 · conv=>lhs;whnf
   refine Br (L:=[3,4,7,8,9]) rfl (fun m vs d' h' nx'=>Sat h' nx' A∧d'=[]∧vs=[.sl0,.b false,.sl0,.i .i64 0,.i .i64 0]) 0 (by omega) ⟨S,rfl,rfl⟩ ?_
   rintro m _ d' h' nx' ⟨S,rfl,rfl⟩ k' hn' hx
   repeat' ((conv=>lhs;whnf);first
    |exact absurd hz (by decide)
    |(refine C4 (fun hc hz=>?_) (fun hc hz=>?_)<;>try rewrite [hc])
    |(refine hx _ _ _ _ _ trivial ?_;conv=>lhs;whnf
      exact hk _ [] _ _ .nil ‹_›))
 · conv=>lhs;whnf
   refine Br (L:=[3,4,7,8,9]) rfl (fun m vs d' h' nx'=>∃(i:Nat) (d:Bool) (acc:List T5) (lv:AV) (X:List Av),i+m=l.length∧acc++Fv d (l.drop i)=Fv false l∧acc.length≤i∧GrA 5 29 lv (acc.flatMap Jh) X∧Sat h' nx' (X++A)∧d'=[]∧vs=[lv,.b d,.sl p off l.length cap,.i .i64 (.ofNat l.length),.i .i64 (.ofNat i)]) l.length (by omega) ⟨0,false,[],_,[],by omega,rfl,by simp,.nil,S,rfl,rfl⟩ ?_
   rintro m _ d' h' nx' ⟨i,d,acc,lv,X,hi,hac,hai,G,S,rfl,rfl⟩ k' hn' hx
   repeat' ((conv=>lhs;whnf);first
    |(refine C4 (fun hc hz=>?_) (fun hc hz=>?_)<;>try rewrite [hc])
    |(refine hx _ _ _ _ _ trivial ?_;conv=>lhs;whnf
      rw[List.drop_eq_nil_of_le (by(try simp only[Aj]at *);omega)]at hac
      exact hk _ _ _ _ (by rw[←hac];simpa[Fv]using G) ‹_›)
    |refine Cb (y:=false) (by(try simp only[Aj]at *);omega) ?_
    |refine Cw (x:=false) (by(try simp only[Aj]at *);omega) ?_
    |refine Bq (y:=false) (by(try simp only[Aj]at *);omega) ?_
    |refine Bv (by(try simp only[Aj]at *);omega) ?_
    |(refine Gl C7 ‹_› (A3 _ hp) h1 h2 (by omega) i (Int.ofNat_lt.1 hz) rfl ?_
      have hil:=Int.ofNat_lt.1 hz
      rw[Ri hil]at hac
      obtain⟨⟨tk,tx,ta,te,ts⟩,ht⟩:∃t,l[i]'hil=t:=⟨_,rfl⟩
      rw[ht]at hac ⊢
      cases ts<;>cases d)
    |refine Cp ‹_› rfl (fun h' S=>?_)
    |refine Au ‹_› 0 rfl (Aa rfl) rfl (fun h' S=>?_)
    |refine Ae ‹_› 0 rfl (Aa rfl) ?_
    |refine Da ‹_› 0 rfl (Aa rfl) ?_
    |(refine Cu (fun hc hz=>?_) (fun hc hz=>?_)<;>try rewrite [hc])
    |refine A6 ‹_› (.row _ 29) (hold_5 _ _ _ _ _ 29) (fun h' S=>?_)
    |(refine S7 [_,_] ‹_› G (by decide) rfl rfl i (by rw[Az C7];show _≤i*5;omega) (by(try simp only[Aj]at *);omega) (fun h' X' lv' G S=>?_))
    |(refine hn' _ _ _ _ (m-1) (by(try simp only[Aj]at *);omega) ⟨i+1,true,acc,lv,X,(by(try simp only[Aj]at *);omega),(congrArg (acc++·) (if_pos (by first|exact .inl ‹_›|exact .inr ‹_›)).symm).trans hac,(by(try simp only[Aj]at *);omega),G,Sat.right (C:=[_]) ‹_›,rfl,rfl⟩)
    |(refine hn' _ _ _ _ (m-1) (by(try simp only[Aj]at *);omega) ⟨i+1,false,acc++[⟨tk,tx,ta,te,true⟩],lv',X',(by(try simp only[Aj]at *);omega),?_,by rw[Bb];show _+1≤_;omega,by rw[Fx];exact G,Sat.right (C:=[_,_]) ‹_›,rfl,rfl⟩
      rw[A4]
      exact(congrArg (acc++·) (if_neg (show ¬(tk=8∨tk=9)from fun hh=>hh.elim ‹_› ‹_›)).symm).trans hac)
    |(refine hn' _ _ _ _ (m-1) (by(try simp only[Aj]at *);omega) ⟨i+1,false,acc++[⟨tk,tx,ta,te,false⟩],lv',X',(by(try simp only[Aj]at *);omega),?_,by rw[Bb];show _+1≤_;omega,by rw[Fx];exact G,Sat.right (C:=[_,_]) ‹_›,rfl,rfl⟩
      rw[A4]
      exact(congrArg (acc++·) (if_neg (show ¬(tk=8∨tk=9)from fun hh=>hh.elim ‹_› ‹_›)).symm).trans hac))
attribute [local irreducible] Oe
theorem flat_rep {α:Type} {f:α→List AV} {es:Nat} (hf:∀a,(f a).length=es) (hes:0<es) (a:α) (n:Nat) (i:Nat) (hi:i<n*es):((List.replicate n a).flatMap f).getD i .x=(f a).getD (i%es) .x:=by
 have h1:i / es<(List.replicate n a).length:=by rw[Fj];exact(Nat.div_lt_iff_lt_mul hes).2 hi
 have:=J6 hf (List.replicate n a) (i / es) (i%es) h1 (Nat.mod_lt _ hes)
 rw[Nat.mul_comm,Nat.div_add_mod,List.getElem_replicate]at this
 exact this
theorem Ek {α:Type} (f:α→List AV) {es:Nat} (hf:∀a,(f a).length=es) (hes:0<es) (a:α) {h:H} {nx:Pos} {A:List Av} (S:Sat h nx A) {z:List AV} {n m ty:Nat} (hz:z=f a) (hm:m=n*es) {k:Pos→H→Pos→Bool}
 (hk:∀h',Sat h' (Ad nx) ((nx,.row ((List.replicate n a).flatMap f) ty)::A)→k nx h' (Ad nx)=true):Oe z n 0 es .e (fun cs=>fN m fun m=>Kj h nx (.cells m cs 0 false ty) k)=true:=by
 subst hz;subst hm
 rw[Ju,F6]
 have hl:((List.replicate n a).flatMap f).length=n*es:=by rw[Az hf,Fj]
 refine A6 S (.row _ ty) ?_ hk
 rw[←hl]
 refine⟨_,rfl,fun i hi=>?_⟩
 rw[hl]at hi
 rw[zl_get (hf a),if_pos ⟨B9 _,by omega⟩,flat_rep hf hes a n i hi];rfl
theorem zk1 {z:List AV} {sz:Nat} {k:T AV→Bool} (h:k (wl z .e 0)=true):Oe z 1 0 sz .e k=true:=by rw[Ju];exact h
theorem flat_set {α:Type} {f:α→List AV} {es:Nat} (hf:∀a,(f a).length=es) {l:List α} {i:Nat} (hi:i<l.length) (b:α):D7 (l.flatMap f) (i*es) (f b)=(l.set i b).flatMap f:=by
 induction l generalizing i with
 |nil=>simp at hi
 |cons a l ih=>
  cases i with
  |zero=>
   unfold D7
   rw[List.set_cons_zero,Fi,Fi,Nat.zero_mul,Bf,hf b,←hf a,List.drop_left,List.take_zero,List.nil_append]
  |succ i=>
   have:=ih (by simpa using hi)
   rw[List.set_cons_succ,Fi,Fi,←this]
   unfold D7
   have e:(i+1) * es=(f a).length+i*es:=by rw[hf,Nat.add_mul];omega
   rw[e,List.take_length_add_append,Er,List.drop_length_add_append,A4,A4,A4]
theorem Ic {α:Type} {f:α→List AV} {es:Nat} (hf:∀a,(f a).length=es) {l:List α} {h:H} {nx:Pos} {A:List Av} (S:Sat h nx A) (j:Nat) {p:Pos} {ty:Nat} (hj:A[j]?=some (p,OB.row (l.flatMap f) ty)) (i:Nat) (hi:i<l.length) (b:α) {o:Nat} (ho:o=i*es) {vs:List AV} (hv:vs=f b) (h1:Gt vs=true) {k:H→Bool}
 (hk:∀h',Sat h' nx (A.set j (p,.row ((l.set i b).flatMap f) ty))→k h'=true):wr h p o vs k=true:=by
 subst ho;subst hv
 have:i*es+es≤l.length*es:=by rw[←Nat.succ_mul];exact Kb _ hi
 refine Au S j hj (by rw[hf,Az hf];exact this) h1 fun h' S=>hk h' ?_
 rw[flat_set hf hi]at S
 exact S
theorem Y4 {α:Type} (a:List α) (x b:α) (r:List α):(a++x::r).set a.length b=a++[b]++r:=by
 rw[List.set_append_right _ _ (Ag _),Nat.sub_self,List.set_cons_zero,A4];rfl
theorem cp_push {α:Type} {f:α→List AV} {te:GV.TI} (hf:∀a,(f a).length=te.sz) {acc:List α} {r:Nat} {a b:α} {h:H} {nx:Pos} {A:List Av} (S:Sat h nx A) (j:Nat) {p:Pos} {e ty c bb ll:Nat} (hj:A[j]?=some (p,OB.row ((acc++List.replicate (r+1) a).flatMap f) ty)) (hl:ll=acc.length) (hc:acc.length+1≤c) {vs:List AV} (hv:vs=f b) (h1:Gt vs=true) (hn:(acc.length+1) * (bb+1)≤1000000000) {k:K}
 (hk:∀h',Sat h' nx (A.set j (p,.row ((acc++[b]++List.replicate r a).flatMap f) ty))→k (.sl p 0 (ll+1) (.k c)) h' nx=true):Ve e te bb 1 vs (.sl p 0 ll (.k c)) h nx k=true:=by
 subst hl
 rw[Qj]
 show fB (Nat.ble ((acc.length+1) * (bb+1)) 1000000000) (fB (Nat.ble (acc.length+1) c) (wr h p (0+acc.length*te.sz) vs fun h=>k (.sl p 0 (acc.length+1) (.k c)) h nx) _) false=true
 refine Bq hn (Bq hc ?_)
 refine Ic hf S j hj acc.length (by rw[Bb];simp) b (by omega) hv h1 fun h' S=>hk h' ?_
 rw[List.replicate_succ,Y4]at S
 exact S
noncomputable def Ia (t:T5):Tk:=match Ka t.k t.x with|some (c,t)=>⟨c,t⟩|none=>⟨0,[]⟩
theorem clsV_eq (t:T5):clsV (Ka t.k t.x)=.ag (Du (Ia t)):=by
 unfold Ia;cases Ka t.k t.x<;>rfl
theorem clsT_none {t:T5} (h:Ka t.k t.x=none):Ia t=⟨0,[]⟩:=by unfold Ia;rw[h]
theorem Yh {t:T5} {c:Int} {x:List Nat} (h:Ka t.k t.x=some (c,x)):Ia t=⟨c,x⟩:=by unfold Ia;rw[h]
def Od (t:T5):Prop:=t.x.length≤100000∧∀b∈t.x,b≤255
theorem map_step {α β:Type} {f:α→β} {l:List α} {z:β} {i:Nat} (hi:i<l.length):((l.take i).map f++List.replicate (l.length-i) z).set i (f l[i])=(l.take (i+1)).map f++List.replicate (l.length-(i+1)) z:=by
 have h1:l.length-i=(l.length-(i+1))+1:=by omega
 rw[h1,List.replicate_succ]
 have h2:((l.take i).map f).length=i:=by rw[Ct,Ci];omega
 have:=Y4 ((l.take i).map f) z (f l[i]) (List.replicate (l.length-(i+1)) z)
 rw[h2]at this
 rw[this,Lz hi,Eo];rfl
theorem map_keep {α β:Type} {f:α→β} {l:List α} {z:β} {i:Nat} (hi:i<l.length) (hz:f l[i]=z):(l.take i).map f++List.replicate (l.length-i) z=(l.take (i+1)).map f++List.replicate (l.length-(i+1)) z:=by
 rw[show l.length-i=(l.length-(i+1))+1 by omega,List.replicate_succ,Lz hi,Eo,List.map_singleton,hz,A4];rfl
theorem classes_k {n:Nat} (hn:4000060≤n) {av:AV} {l:List T5} {z:Int} {A:List Av} (hl:Kz 5 29 Jh l av A) (hle:l.length≤100000) (hok:∀t∈l,Od t) (hG:(Ay 2,OB.raw (R5 z))∈A) {kp:KP} {h:H} {nx:Pos} (S:Sat h nx A) {k:K}
 (hk:∀p h' nx',Sat h' nx' ((p,.row ((l.map Ia).flatMap Du) 54)::A)→k (.sl p 0 l.length (.k l.length)) h' nx'=true):Ai gg n kp (.fn 58 []) [av] h nx k=true:=by
 refine Ab hn (by omega) fun m hm=>?_
 rcases hl with⟨rfl,rfl⟩|⟨p,off,cap,LL,rfl,hp,h1,h2⟩
 · repeat' ((conv=>lhs;whnf);first
    |(refine Br (L:=[3,11,12,13]) rfl (fun m vs d' h' nx'=>Sat h' nx' ((nx,.row [] 54)::A)∧d'=[]∧vs=[.sl nx 0 0 (.k 0),.sl0,.i .i64 0,.i .i64 0]) 0 (by omega) ⟨by assumption,rfl,rfl⟩ ?_
      rintro m _ d' h' nx' ⟨S,rfl,rfl⟩ k' hn' hx)
    |(refine C4 (fun hc hz=>?_) (fun hc hz=>?_)<;>try rewrite [hc])
    |exact absurd hz (by decide)
    |(refine hx _ _ _ _ _ trivial ?_;conv=>lhs;whnf
      exact hk _ _ _ ‹_›)
    |refine Ek Du B6 (by omega) ⟨0,[]⟩ ‹_› rfl rfl (fun h' S=>?_)
    |refine Cb (y:=false) (by(try simp only[Aj]at *);omega) ?_
    |refine Bq (y:=false) (by(try simp only[Aj]at *);omega) ?_)
 · repeat' ((conv=>lhs;whnf);first
    |contradiction
    |exact absurd hz (by decide)
    |(refine Br (L:=[3,11,12,13]) rfl (fun m vs d' h' nx'=>∃i:Nat,i+m=l.length∧Sat h' nx' ((nx,.row (((l.take i).map Ia++List.replicate (l.length-i) (⟨0,[]⟩:Tk)).flatMap Du) 54)::A)∧d'=[]∧vs=[.sl nx 0 l.length (.k l.length),.sl p off l.length cap,.i .i64 (.ofNat l.length),.i .i64 (.ofNat i)]) l.length (by omega) ⟨0,by omega,by assumption,rfl,rfl⟩ ?_
      rintro m _ d' h' nx' ⟨i,hi,S0,rfl,rfl⟩ k' hn' hx)
    |(refine C4 (fun hc hz=>?_) (fun hc hz=>?_)<;>try rewrite [hc])
    |(refine U5 (z:=z) (by omega) (hok t (ht▸D8 _)).1 (hok t (ht▸D8 _)).2 (Am _ (Am _ hG)) ‹_› (fun h' nx' S=>?_)
      rcases hce:Ka t.k t.x with _|⟨c,tx⟩)
    |(refine hn' _ _ _ _ (m-1) (by(try simp only[Aj]at *);omega) ⟨i+1,(by(try simp only[Aj]at *);omega),?_,rfl,rfl⟩
      have S:=Sat.right (C:=[_,_]) ‹_›
      first
       |(rw[map_keep hil (show Ia _=_ by rw[ht];exact clsT_none hce)]at S;exact S)
       |(rw[←show Ia _=_ from(by rw[ht];exact Yh hce:Ia (l[i]'hil)=⟨c,tx⟩),map_step hil]at S;exact S))
    |refine Ic B6 ‹_› 2 rfl i (by rw[Bb,Ct,Ci,Fj];omega) ⟨c,tx⟩ (Bf _) rfl rfl (fun h' S=>?_)
    |refine Ek Du B6 (by omega) ⟨0,[]⟩ ‹_› rfl rfl (fun h' S=>?_)
    |refine Cb (y:=false) (by(try simp only[Aj]at *);omega) ?_
    |refine Bq (y:=false) (show l.length*24≤1000000000 by omega) ?_
    |refine Bq (y:=false) (by(try simp only[Aj]at *);omega) ?_
    |refine Cw (x:=false) (by(try simp only[Aj]at *);omega) ?_
    |refine Bv (by(try simp only[Aj]at *);omega) ?_
    |(refine Gl C7 ‹_› (Am _ hp) h1 h2 (by omega) i (Int.ofNat_lt.1 hz) rfl ?_
      have hil:=Int.ofNat_lt.1 hz
      obtain⟨t,ht⟩:∃t,l[i]'hil=t:=⟨_,rfl⟩
      rw[ht])
    |refine Cp ‹_› rfl (fun h' S=>?_)
    |refine Au ‹_› 0 rfl (Aa rfl) rfl (fun h' S=>?_)
    |refine Ae ‹_› 0 rfl (Aa rfl) ?_
    |refine Da ‹_› 0 rfl (Aa rfl) ?_
    |(refine Cu (fun hc hz=>?_) (fun hc hz=>?_)<;>try rewrite [hc]))
   conv=>lhs;whnf
   refine hx _ _ _ _ _ trivial ?_;conv=>lhs;whnf
   have hS:=S0
   rw[Et (show l.length≤i from(by(try simp only[Aj]at *);omega)),show l.length-i=0 from(by(try simp only[Aj]at *);omega),List.replicate_zero,Bp]at hS
   exact hk _ _ _ hS
theorem M8:∀(l:List T5) (d:Bool) (t:T5),t∈Fv d l→∃u∈l,t.k=u.k∧t.x=u.x
 |u::r,d,t,h=>by
  unfold Fv at h
  split at h
  · obtain⟨v,h1,h2⟩:=M8 r true t h
    exact⟨v,Am _ h1,h2⟩
  · rcases Bo.1 h with rfl|h
    · exact⟨u,Aw ..,rfl,rfl⟩
    · obtain⟨v,h1,h2⟩:=M8 r false t h
      exact⟨v,Am _ h1,h2⟩
theorem Ib:∀(l:List T5) (d:Bool),(Fv d l).length≤l.length
 |[],_=>Ag _
 |u::r,d=>by
  unfold Fv
  split
  · have:=Ib r true;simp;omega
  · have:=Ib r false;simp;omega
theorem Sat.skip {h:H} {nx:Pos} {e:Av} {X A:List Av} (S:Sat h nx (e::(X++A))):Sat h nx (e::A):=S.sub (.cons_cons _ (Gf _ _))
theorem map_one {α β:Type} {f:α→β} {l:List α} {i:Nat} (hi:i<l.length):(l.take (i+1)).map f=(l.take i).map f++[f l[i]]:=by
 rw[Lz hi,Eo];rfl
theorem Wv {n:Nat} (hn:4000060≤n) {av:AV} {l:List T5} {z:Int} {A:List Av} (hl:Kz 5 29 Jh l av A) (hle:l.length≤100000) (hok:∀t∈l,Od t) (hG:(Ay 2,OB.raw (R5 z))∈A) {kp:KP} {h:H} {nx:Pos} (S:Sat h nx A) {k:K}
 (hk1:(∀t∈Fv false l,Ka t.k t.x≠none)→∀lv X h' nx',SlA 2 54 lv (((Fv false l).map Ia).flatMap Du) X→Sat h' nx' (X++A)→k (.tu [lv,.i .i64 0,.i .i64 0]) h' nx'=true)
 (hk2:(∃t∈Fv false l,Ka t.k t.x=none)→∀i h' nx',Sat h' nx' A→k (.tu [.sl0,.i .i64 i,.i .i64 40]) h' nx'=true):Ai gg n kp (.fn 4 []) [av] h nx k=true:=by
 have hok':∀t∈Fv false l,Od t:=fun t ht=>by
  obtain⟨u,h1,h2,h3⟩:=M8 l false t ht
  unfold Od;rw[h3];exact hok u h1
 have hle':=Cr (Ib l false) hle
 refine Ab hn (by omega) fun m hm=>?_
 conv=>lhs;whnf
 refine Aaw (by omega) hl hle S fun lv X h' nx G S=>?_
 generalize Fv false l=bs at *
 have hL:=G.lst C7 (by omega) (A:=X++A) (fun e he=>B7 _ he)
 have hG':(Ay 2,OB.raw (R5 z))∈X++A:=A3 _ hG
 clear G hl hok hle
 rcases hL with⟨rfl,rfl⟩|⟨p,off,cap,LL,rfl,hp,h1,h2⟩
 · repeat' ((conv=>lhs;whnf);first
    |(refine Br (L:=[6,16,17,18]) rfl (fun m vs d' h' nx'=>Sat h' nx' ((nx,.row [] 54)::(X++A))∧d'=[]∧vs=[.sl nx 0 0 (.k 0),.sl0,.i .i64 0,.i .i64 0]) 0 (by omega) ⟨by assumption,rfl,rfl⟩ ?_
      rintro m _ d' h' nx' ⟨S,rfl,rfl⟩ k' hn' hx)
    |(refine C4 (fun hc hz=>?_) (fun hc hz=>?_)<;>try rewrite [hc])
    |exact absurd hz (by decide)
    |(refine hx _ _ _ _ _ trivial ?_;conv=>lhs;whnf
      exact hk1 (fun t ht=>by cases ht) _ [_] _ _ (.row _ 0 0 _ [] _ rfl (Ag _)) (Sat.skip ‹_›))
    |refine Ek Du B6 (by omega) ⟨0,[]⟩ ‹_› rfl rfl (fun h' S=>?_)
    |refine Cb (y:=false) (by(try simp only[Aj]at *);omega) ?_
    |refine Bq (y:=false) (by(try simp only[Aj]at *);omega) ?_)
 · repeat' ((conv=>lhs;whnf);first
    |contradiction
    |exact absurd hz (by decide)
    |(refine Br (L:=[6,16,17,18]) rfl (fun m vs d' h' nx'=>∃i:Nat,i+m=bs.length∧(∀t∈bs.take i,Ka t.k t.x≠none)∧Sat h' nx' ((nx,.row (((bs.take i).map Ia++List.replicate (bs.length-i) (⟨0,[]⟩:Tk)).flatMap Du) 54)::(X++A))∧d'=[]∧vs=[.sl nx 0 i (.k bs.length),.sl p off bs.length cap,.i .i64 (.ofNat bs.length),.i .i64 (.ofNat i)]) bs.length (by omega) ⟨0,by omega,fun t ht=>absurd ht (by rw[List.take_zero];exact Ge),by assumption,rfl,rfl⟩ ?_
      rintro m _ d' h' nx' ⟨i,hi,hall,S0,rfl,rfl⟩ k' hn' hx)
    |(refine C4 (fun hc hz=>?_) (fun hc hz=>?_)<;>try rewrite [hc])
    |(refine U5 (z:=z) (by omega) (hok' t (ht▸D8 _)).1 (hok' t (ht▸D8 _)).2 (Am _ (Am _ hG')) ‹_› (fun h' nx' S=>?_)
      rcases hce:Ka t.k t.x with _|⟨c,tx⟩)
    |(refine hx _ _ _ _ _ trivial ?_;conv=>lhs;whnf
      exact hk2 ⟨t,ht▸D8 _,hce⟩ _ _ _ (Sat.right (C:=X) (Sat.right (C:=[_,_,_]) ‹_›)))
    |(refine hn' _ _ _ _ (m-1) (by(try simp only[Aj]at *);omega) ⟨i+1,(by(try simp only[Aj]at *);omega),?_,?_,rfl,rfl⟩
      rotate_left
      have S:=Sat.right (C:=[_,_,_]) ‹_›
      rw[←show Ia _=_ from(by rw[ht];exact Yh hce:Ia (bs[i]'hil)=⟨c,tx⟩),←map_one hil]at S
      exact S
      rw[Lz hil]
      intro u hu
      rcases D9.1 hu with hu|hu
      exact hall u hu
      rw[Co.1 hu,ht,hce]
      exact fun c=>by cases c)
    |refine cp_push (te:=ti53) (ty:=54) (ll:=i) (c:=bs.length) (bb:=24) B6 (acc:=(bs.take i).map Ia) (r:=bs.length-(i+1)) (a:=⟨0,[]⟩) (b:=⟨c,tx⟩) ‹_› 3 (by rw[show bs.length-(i+1)+1=bs.length-i from(by(try simp only[Aj]at *);omega)];exact rfl) (by rw[Ct,Ci];omega) (by rw[Ct,Ci];omega) rfl rfl (by rw[Ct,Ci];omega) (fun h' S=>?_)
    |refine zk1 ?_
    |refine Ek Du B6 (by omega) ⟨0,[]⟩ ‹_› rfl rfl (fun h' S=>?_)
    |refine Cb (y:=false) (by(try simp only[Aj]at *);omega) ?_
    |refine Bq (y:=false) (show bs.length*24≤1000000000 by omega) ?_
    |refine Bq (y:=false) (by(try simp only[Aj]at *);omega) ?_
    |refine Cw (x:=false) (by(try simp only[Aj]at *);omega) ?_
    |refine Bv (by(try simp only[Aj]at *);omega) ?_
    |(refine Gl C7 ‹_› (Am _ hp) h1 h2 (by omega) i (Int.ofNat_lt.1 hz) rfl ?_
      have hil:=Int.ofNat_lt.1 hz
      obtain⟨t,ht⟩:∃t,bs[i]'hil=t:=⟨_,rfl⟩
      rw[ht])
    |refine A6 ‹_› (.row _ 54) (hol_2 _ _ 54) (fun h' S=>?_)
    |refine Cp ‹_› rfl (fun h' S=>?_)
    |refine Au ‹_› 0 rfl (Aa rfl) rfl (fun h' S=>?_)
    |refine Ae ‹_› 0 rfl (Aa rfl) ?_
    |refine Da ‹_› 0 rfl (Aa rfl) ?_
    |(refine Cu (fun hc hz=>?_) (fun hc hz=>?_)<;>try rewrite [hc])
    |(refine new (fun hc hz=>?_) (fun hc hz=>?_)<;>try rewrite [hc]))
   conv=>lhs;whnf
   refine hx _ _ _ _ _ trivial ?_;conv=>lhs;whnf
   have hbi:bs.length≤i:=(by(try simp only[Aj]at *);omega)
   have hS:=S0
   rw[Et (hbi)]at hS hall
   rw[Nat.sub_eq_zero_of_le hbi,List.replicate_zero,Bp]at hS
   refine hk1 hall _ [_] _ _ (.row _ 0 _ _ _ _ ?_ ?_) hS.skip
   · exact Et (by rw[List.drop_zero,Az B6,Ct];show _≤i*2;omega)
   · rw[Az B6,Ct];show 0+i*2≤_;omega
end Go.CE
