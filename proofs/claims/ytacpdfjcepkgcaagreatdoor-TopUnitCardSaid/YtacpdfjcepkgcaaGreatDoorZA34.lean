/- Part 34 of the lemmas behind the claim. -/
import Derived.Test.YtacpdfjcepkgcaaGreatDoorZA01
import Derived.Test.YtacpdfjcepkgcaaGreatDoorZA33
set_option linter.unusedSimpArgs false
set_option linter.unusedVariables false
set_option linter.constructorNameAsVariable false
set_option linter.unusedSectionVars false
set_option linter.defProp false
set_option maxRecDepth 100000
set_option maxHeartbeats 40000000
namespace Go.CE
open Go Go.Proofs.YtacpdfjcepkgcaaGreatDoor
attribute [local irreducible] loopK Ai K0 N2 Dg fits rd rd1 wr newC Kj Fk Fa Ve
def R5 (z:Int):AO:=.cells 1 (.n .e (.i .i64 z) .e) 0 true 3
theorem idxB_le (a:List Nat) (c:Nat):Ft a c<a.length:=by
 unfold Ft
 induction a with
 |nil=>show(-1:Int)<((0:Nat):Int);decide
 |cons x r ih=>
  rw[D5]
  unfold Lib.indexByte
  simp only[Cq]
  split
  · omega
  · split<;>omega
theorem idxB_ge (a:List Nat) (c:Nat):-1≤Ft a c:=Lib.indexByte_ge _ _
theorem idxB_pos {a:List Nat} {c:Nat} (h:∀x r,a=x::r→UInt8.ofNat x≠c.toUInt8):Ft a c≠0:=by
 unfold Ft
 cases a with
 |nil=>show(-1:Int)≠0;decide
 |cons x r=>
  rw[D5]
  unfold Lib.indexByte
  have h2:=h x r rfl
  split
  · rename_i hh;exact absurd (by simpa using hh) h2
  · have:=Lib.indexByte_ge (List.map UInt8.ofNat r) c.toUInt8
    split
    · decide
    · rename_i hh
      have:¬Lib.indexByte (List.map UInt8.ofNat r) c.toUInt8=-1:=by simpa using hh
      omega
theorem idxS_le (a b:List Nat):Wf a b=-1∨0≤Wf a b∧Wf a b+b.length≤a.length:=by
 unfold Wf
 induction a with
 |nil=>
  rw[List.map_nil]
  unfold Lib.index
  split
  · rename_i hh
    right
    have:b=[]:=by simpa using hh
    subst this;decide
  · left;rfl
 |cons x r ih=>
  rw[D5]
  unfold Lib.index
  simp only[Cq]
  split
  · rename_i hh
    right
    have:=(List.isPrefixOf_iff_prefix.1 hh).length_le
    simp at this
    omega
  · split
    · left;rfl
    · rename_i hh
      have:¬Lib.index (List.map UInt8.ofNat r) (List.map UInt8.ofNat b)=-1:=by simpa using hh
      right;omega
theorem index_eq {n:Nat} (hn:2≤n) {a b:List Nat} (ha:a.length≤4294967280) {kp:KP} {h:H} {nx:Pos} {A:List Av} (S:Sat h nx A) {z:Int} (hG:(Ay 2,OB.raw (R5 z))∈A) {k:K} (hk:∀r:Int,r=Wf a b→k (.i .i64 r) h nx=true):Ai gg n kp (.fn 104 []) [.s a,.s b] h nx k=true:=by
 refine Ab hn (by omega) fun m hm=>?_
 obtain⟨i,hi⟩:=Ih.1 hG
 conv=>lhs;whnf
 refine Bq ha ?_
 refine A1 S i hi ?_
 exact hk _ rfl
theorem Mu {n:Nat} (hn:2≤n) {a:List Nat} {c:Nat} {kp:KP} {h:H} {nx:Pos} {k:K} (hk:∀r:Int,r=Ft a c→k (.i .i64 r) h nx=true):Ai gg n kp (.fn 75 []) [.s a,.i .u8 (.ofNat c)] h nx k=true:=by
 refine Ab hn (by omega) fun m hm=>?_
 conv=>lhs;whnf
 exact hk _ rfl
theorem iff_b {b:Bool} {p:Prop} (h:b=true↔p):b=true∧p∨b=false∧¬p:=by
 cases b
 · exact .inr ⟨rfl,fun c=>by cases h.2 c⟩
 · exact .inl ⟨rfl,h.1 rfl⟩
theorem iff_l {b:Bool} {l:List Nat} {a:Int} {x y:Nat} (ha:0≤a) (h:b=true↔List.take [x,y].length (l.drop a.toNat)=[x,y]):b=true∧List.take [x,y].length (l.drop a.toNat)=[x,y]∧a+2≤l.length∨b=false∧¬List.take [x,y].length (l.drop a.toNat)=[x,y]:=by
 rcases iff_b h with⟨h1,h2⟩|h
 · refine .inl ⟨h1,h2,?_⟩
   have:=congrArg List.length h2
   simp at this;omega
 · exact .inr h
theorem pos_sl {a:List Nat} (h:List.take 2 a=[47,47]):Ft a 10≠0:=idxB_pos fun x r e=>by
 subst e
 have:x=47:=by simpa using congrArg (fun y=>y.getD 0 0) h
 subst this;decide
noncomputable def Z5 (l:List Nat) (a:Int):Int×Int×Int:=
 if(l.drop a.toNat).take 2=[47,42]then(if Wf (l.drop (a+2).toNat) [42,47]<0 then(0,0,20)else(8,a+2+Wf (l.drop (a+2).toNat) [42,47]+2,0))
 else if(l.drop a.toNat).take 2=[47,47]then(if Ft (l.drop a.toNat) 10<0 then(8,a+(l.length-a),0)else(8,a+Ft (l.drop a.toNat) 10,0))
 else lonE l a
theorem itemAt_eq {n:Nat} (hn:1000009≤n) {l:List Nat} {at':Int} (h0:0≤at'∧at'<l.length) (hs:l.length≤100000) {hd:Bool} {kp:KP} {h:H} {nx:Pos} {A:List Av} (S:Sat h nx A) {z:Int} (hG:(Ay 2,OB.raw (R5 z))∈A) {k:K}
 (hk:∀(K f t e:Int) h' nx',Sat h' nx' A→(hd=false→(K,t,e)=Z5 l at')→(e=0∧f=at'∧at'<t∧t≤l.length∨e≠0∧f=0)→k (.tu [.ag [.i .i64 K,.i .i64 f,.i .i64 t],.i .i64 e]) h' nx'=true):Ai gg n kp (.fn 52 []) [.s l,.i .i64 at',.b hd] h nx k=true:=by
 refine Ab hn (by omega) fun m hm=>?_
 repeat' ((conv=>lhs;whnf);first
  |refine Cb (y:=false) (by(try simp only[Aj]at *);omega) ?_
  |refine Cw (x:=false) (by(try simp only[Aj]at *);omega) ?_
  |refine Bq (y:=false) (by(try simp only[Aj]at *);omega) ?_
  |refine Bv (by(try simp only[Aj]at *);omega) ?_
  |refine Cp ‹_› rfl (fun h' S=>?_)
  |refine Au ‹_› 0 rfl (Aa rfl) rfl (fun h' S=>?_)
  |refine Ae ‹_› 0 rfl (Aa rfl) ?_
  |refine Da ‹_› 0 rfl (Aa rfl) ?_
  |(cases hd)
  |refine Aad (by omega) h0 hs (fun r hr=>?_)
  |(refine Jx (p:=[47,42]) (by omega) (by simp;omega) (by simp) (fun b hb=>?_);rw[Df]at hb
    rcases iff_l h0.1 hb with⟨rfl,hp1,hl2⟩|⟨rfl,hp1⟩)
  |(refine Jx (p:=[47,47]) (by omega) (by simp;omega) (by simp) (fun b hb=>?_);rw[Df]at hb
    rcases iff_l h0.1 hb with⟨rfl,hp2,hl2⟩|⟨rfl,hp2⟩)
  |(refine index_eq (b:=[42,47]) (by omega) (by simp;omega) ‹_› (Am _ hG) (fun r hr=>?_);rw[Df]at hr;have hrb:=idxS_le (l.drop (at'+2).toNat) [42,47];rw[←hr,Ax]at hrb;simp only[Cq,Dv]at hrb)
  |(refine Mu (c:=10) (by omega) (fun r hr=>?_);rw[Df]at hr;have hrb:=idxB_le (l.drop at'.toNat) 10;rw[←hr,Ax]at hrb;have hrp:=pos_sl hp2;rw[←hr]at hrp;have hrg:=idxB_ge (l.drop at'.toNat) 10;rw[←hr]at hrg)
  |refine longest_eq (by omega) h0 hs ‹_› (fun K f t e h' nx' S he hb=>?_)
  |(refine C4 (fun hc hz=>?_) (fun hc hz=>?_)<;>(try simp only[Aj]at hz)<;>try rewrite [hc])
  |(refine Dt (fun hc hz=>?_) (fun hc hz=>?_)<;>(try simp only[Aj]at hz)<;>try rewrite [hc])
  |(refine hk _ _ _ _ _ _ (Sat.right (C:=[_]) ‹_›) ?_ ?_))
 all_goals try omega
 all_goals try (simp only[Aj];omega)
 all_goals try (refine Or.inl ⟨rfl,rfl,?_,?_⟩<;>(show _ ;simp only[Aj];omega))
 all_goals try exact fun h=>Bool.noConfusion h
 all_goals try exact fun _=>he.trans ((if_neg hp1).trans (if_neg hp2)).symm
 all_goals intro _
 all_goals subst hr
 all_goals try exact((if_pos hp1).trans (if_pos hz)).symm
 all_goals try exact((if_pos hp1).trans (if_neg (by omega))).symm
 all_goals try exact((if_neg hp1).trans ((if_pos hp2).trans (if_pos hz))).symm
 all_goals try exact((if_neg hp1).trans ((if_pos hp2).trans (if_neg (by omega)))).symm
theorem after_ok {n:Nat} (hn:2≤n) {st kd:Int} {t:List Nat} {kp:KP} {h:H} {nx:Pos} {k:K} (hk:∀r:Int,k (.i .i64 r) h nx=true):Ai gg n kp (.fn 53 []) [.i .i64 st,.i .i64 kd,.s t] h nx k=true:=by
 refine Ab hn (by omega) fun m hm=>?_
 repeat' ((conv=>lhs;whnf);first
  |exact hk _
  |refine Dt (fun hc hz=>?_) (fun hc hz=>?_)<;>try rewrite [hc]
  |refine Cu (fun hc hz=>?_) (fun hc hz=>?_)<;>try rewrite [hc]
  |refine Gq (fun hc hz=>?_) (fun hc hz=>?_)<;>try rewrite [hc])
theorem zEq_no {a b:Int} (h:a≠b):N2 a b=false:=by
 cases e:N2 a b with
 |true=>exact absurd ((Fb a b).1 e) h
 |false=>rfl
theorem Sat.rot {h:H} {nx:Pos} {e:Av} {A:List Av} (S:Sat h nx (e::A)):Sat h nx (A++[e]):=S.perm (Jm (l₁:=[e]))
theorem Sat.tor {h:H} {nx:Pos} {e:Av} {A:List Av} (S:Sat h nx (A++[e])):Sat h nx (e::A):=S.perm (Jm (l₁:=A))
theorem A5 {h:H} {nx:Pos} {A:List Av} (S:Sat h nx A) {p:Pos} {L:List AV} {ty off:Nat} {k:AV→Bool} (hi:(p,OB.row L ty)∈A) (ho:off<L.length) (hk:k (L.getD off .x)=true):rd1 h p off k=true:=by
 obtain⟨i,hi⟩:=Ih.1 hi
 exact Ae S i hi ho hk
theorem Xv {n d:Nat} (hn:2000020≤n) (hd:d+1≤n) {l:List Nat} (hs:l.length≤100000) {b lp:Pos} {z:Int} {A:List Av} {h:H} {nx:Pos} {kp:KP} {k:K} (J:Int→Int→List Av→Prop) (X:List Av→Prop)
 (hJ:∀(p st:Int) A,J p st A→(b,.row [.s l] 9)∈A∧(Ay 2,OB.raw (R5 z))∈A) (hX:∀A,X A→True) (S:Sat h nx A) (h0:J 0 0 A)
 (hw:∀(p st:Int) A,0≤p→p<l.length→J p st A→whiB ((l.getD p.toNat 0:Nat):Int)=true→J (p+1) st A)
 (hy:∀(p st:Int) (A F:List Av) (h:H) (nx:Pos) (n:Nat) (k:K) (kd f t e:Int),d≤n→0≤p→p<l.length→J p st A→Sat h nx (A++F)→whiB ((l.getD p.toNat 0:Nat):Int)=false→(e=0∧f=p∧p<t∧t≤l.length∨e≠0∧f=0)→(st≠2→(kd,t,e)=Z5 l p) →
   (∀A' h' nx',(e=0→∀st',J t st' A')→(e≠0→X A')→Sat h' nx' (A'++F)→k (.b true) h' nx'=true)→(∀A' h' nx',X A'→Sat h' nx' (A'++F)→k (.b false) h' nx'=true) →
   Ai gg n kp (.yl lp) [.ag [.i .i64 kd,.i .i64 f,.i .i64 t],.i .i64 e] h nx k=true)
 (hk:∀A h nx,(∃p st:Int,l.length≤p∧J p st A)∨X A→Sat h nx A→k (.tu []) h nx=true):Ai gg n kp (.fn 50 [.p b 0]) [.yl lp] h nx k=true:=by
 refine Ab (d:=max 2000020 (d+1)) (by omega) (by omega) fun m hm=>?_
 conv=>lhs;whnf
 refine Br (L:=[0,1,3,4]) rfl (fun m vs d' h' nx'=>∃(p st:Int) (A:List Av),0≤p∧p≤l.length∧l.length-p=m∧J p st A∧Sat h' nx' A∧d'=[]∧vs=[.yl lp,.p b 0,.i .i64 st,.i .i64 p]) l.length (by omega) ⟨0,0,A,by omega,by omega,by omega,h0,S,rfl,rfl⟩ ?_
 rintro m _ d' h' nx' ⟨p,st,A,hp1,hp2,hp3,hJA,S,rfl,rfl⟩ k' hn' hx
 obtain⟨hb,hG⟩:=hJ p st A hJA
 repeat' ((conv=>lhs;whnf);first
  |(refine white_eq (by omega) (fun bw hbw=>?_);cases bw)
  |(refine hn' _ _ _ _ (l.length-(p+1)).toNat (by omega) ?_;exact⟨p+1,st,A,by omega,by omega,by omega,hw p st A hp1 ‹_› hJA hbw.symm,by assumption,rfl,rfl⟩)
  |(refine hx _ _ _ _ _ trivial ?_;conv=>lhs;whnf
    exact hk A _ _ (Or.inl ⟨p,st,by omega,hJA⟩) ‹_›)
  |(refine hx _ _ _ _ _ trivial ?_;conv=>lhs;whnf
    exact hk A' _ _ (Or.inr ‹_›) (Sat.right (C:=[_]) ‹_›))
  |(refine hx _ _ _ _ _ trivial ?_;conv=>lhs;whnf
    exact hk A' _ _ (Or.inr (q2 ‹_›)) (Sat.right (C:=[_]) ‹_›))
  |refine A5 ‹_› (Am _ (hJ _ _ _ (q1 ‹_› 0)).1) (Aa rfl) ?_
  |(refine after_ok (by omega) (fun st'=>?_))
  |(refine hn' _ _ _ _ (l.length-t).toNat (by omega) ?_;exact⟨t,st',A',by omega,by omega,by omega,q1 ‹_› st',Sat.right (C:=[_]) ‹_›,rfl,rfl⟩)
  |(refine itemAt_eq (by omega) ⟨hp1,by assumption⟩ hs ‹_› hG (fun kd f t e h1 nx1 S1 he hb2=>?_))
  |(refine hy p st A [_] _ _ _ _ kd f t e (by omega) hp1 ‹_› hJA (Sat.rot ‹_›) hbw.symm hb2 (fun h2=>he (zEq_no h2)) (fun A' h2 nx2 q1 q2 S2=>?_) (fun A' h2 nx2 q2 S2=>?_)<;>replace S2:=S2.tor)
  |contradiction
  |refine A5 ‹_› hb (Aa rfl) ?_
  |refine A5 ‹_› (Am _ hb) (Aa rfl) ?_
  |refine Ae ‹_› 0 rfl (Aa rfl) ?_
  |refine Da ‹_› 0 rfl (Aa rfl) ?_
  |refine Cp ‹_› rfl (fun h' S=>?_)
  |refine Au ‹_› 0 rfl (Aa rfl) rfl (fun h' S=>?_)
  |refine Cb (y:=false) (by(try simp only[Aj]at *);omega) ?_
  |refine Cw (x:=false) (by(try simp only[Aj]at *);omega) ?_
  |refine Bq (y:=false) (by(try simp only[Aj]at *);omega) ?_
  |refine Bv (by(try simp only[Aj]at *);omega) ?_
  |(refine C4 (fun hc hz=>?_) (fun hc hz=>?_)<;>(try simp only[Aj]at hz)<;>try rewrite [hc])
  |(refine new (fun hc hz=>?_) (fun hc hz=>?_)<;>(try simp only[Aj]at hz)<;>try rewrite [hc])
  |(refine Cu (fun hc hz=>?_) (fun hc hz=>?_)<;>(try simp only[Aj]at hz)<;>try rewrite [hc])
  )
theorem items_it {n:Nat} (hn:2000020≤n) {l:List Nat} (hs:l.length≤100000) {b lp:Pos} {z:Int} {A:List Av} {h:H} {nx:Pos} {kp:KP} {k:K} (J:Int→Int→List Av→Prop) (X:List Av→Prop)
 (hJ:∀(p st:Int) A,J p st A→(b,.row [.s l] 9)∈A∧(Ay 2,OB.raw (R5 z))∈A) (hX:∀A,X A→True) (S:Sat h nx A) (h0:J 0 0 A)
 (hw:∀(p st:Int) A,0≤p→p<l.length→J p st A→whiB ((l.getD p.toNat 0:Nat):Int)=true→J (p+1) st A)
 (hy:∀(p st:Int) (A F:List Av) (h:H) (nx:Pos) (n:Nat) (k:K) (kd f t e:Int),1000000≤n→0≤p→p<l.length→J p st A→Sat h nx (A++F)→whiB ((l.getD p.toNat 0:Nat):Int)=false→(e=0∧f=p∧p<t∧t≤l.length∨e≠0∧f=0)→(st≠2→(kd,t,e)=Z5 l p) →
   (∀A' h' nx',(e=0→∀st',J t st' A')→(e≠0→X A')→Sat h' nx' (A'++F)→k (.b true) h' nx'=true)→(∀A' h' nx',X A'→Sat h' nx' (A'++F)→k (.b false) h' nx'=true) →
   Ai gg n kp (.yl lp) [.ag [.i .i64 kd,.i .i64 f,.i .i64 t],.i .i64 e] h nx k=true)
 (hk:∀A h nx,(∃p st:Int,l.length≤p∧J p st A)∨X A→Sat h nx A→k (.tu []) h nx=true):Ai gg n kp (.fn 50 [.p b 0]) [.yl lp] h nx k=true:=Xv hn (show 1000000+1≤n by omega) hs J X hJ hX S h0 hw hy hk
theorem Uo {n:Nat} (hn:2≤n) {l:List Nat} {kp:KP} {h:H} {nx:Pos} {A:List Av} (S:Sat h nx A) {k:K} (hk:∀h',Sat h' (Ad nx) ((nx,.row [.s l] 9)::A)→k (.fn 50 [.p nx 0]) h' (Ad nx)=true):Ai gg n kp (.fn 21 []) [.s l] h nx k=true:=by
 refine Ab hn (by omega) fun m hm=>?_
 repeat' ((conv=>lhs;whnf);first
  |refine Cp ‹_› rfl (fun h' S=>?_)
  |exact hk _ ‹_›)
theorem J3 {h:H} {nx:Pos} {A:List Av} (S:Sat h nx A) {L:AL} {k:Pos→H→Pos→Bool} (hk:∀M,M=L→∀h',Sat h' (Ad nx) ((nx,.raw (.loop M))::A)→k nx h' (Ad nx)=true):Kj h nx (.loop L) k=true:=
 A6 S (.raw (.loop L)) ⟨rfl,by simp⟩ (hk L rfl)
def AL.dn (M:AL) (c:Code):AL:=⟨M.lv,.done,some c,M.tm,M.N,M.ps,M.asg,M.body,M.df⟩
noncomputable def N3 (l:List Nat):Int×Bool:=if 0<l.length∧whiB ((l.getD (((0:Int))).toNat 0:Nat):Int)=false∧(Z5 l 0).2=((l.length:Int),0)then((Z5 l 0).1,true)else(0,false)
theorem one_eq {n:Nat} (hn:2000030≤n) {l:List Nat} (hs:l.length≤100000) {z:Int} {A:List Av} (hG:(Ay 2,OB.raw (R5 z))∈A) {kp:KP} {h:H} {nx:Pos} (S:Sat h nx A) {k:K}
 (hk:∀(r:Int) (b:Bool) h' nx',Sat h' nx' A→(r,b)=N3 l→k (.tu [.i .i64 r,.b b]) h' nx'=true):Ai gg n kp (.fn 74 []) [.s l] h nx k=true:=by
 refine Ab hn (by omega) fun m hm=>?_
 repeat' ((conv=>lhs;whnf);first
  |refine Cp ‹_› rfl (fun h' S=>?_)
  |refine Au ‹_› 0 rfl (Aa rfl) rfl (fun h' S=>?_)
  |refine Au ‹_› 1 rfl (Aa rfl) rfl (fun h' S=>?_)
  |refine Ae ‹_› 2 rfl (Aa rfl) ?_
  |refine Uo (by omega) ‹_› (fun h' S=>?_)
  |refine J3 ‹_› (fun M hM h' S=>?_)
  |refine A6 ‹_› (.raw _) ⟨rfl,by simp⟩ (fun h' S=>?_))
 conv=>lhs;whnf
 refine items_it (z:=z) (by omega) hs
  (fun p st A'=>∃cnt kd:Int,A'=(Ad (Ad (Ad (Ad (Ad nx)))),.raw (.loop M))::(Ad (Ad (Ad (Ad nx))),.raw .marks)::(Ad (Ad (Ad nx)),.row [.s l] 9)::(Ad (Ad nx),.row [.i .i64 cnt] 3)::(Ad nx,.row [.i .i64 kd] 3)::(nx,.row [.s l] 9)::A ∧
    (cnt=0∧0≤p∧(p=0∧st=0∨0<p∧N3 l=(0,false))∨cnt=1∧l.length≤p∧N3 l=(kd,true)))
  (fun A'=>∃kd:Int,A'=(Ad (Ad (Ad (Ad (Ad nx)))),.raw (.loop (M.dn (.exit 0))))::(Ad (Ad (Ad (Ad nx))),.raw .marks)::(Ad (Ad (Ad nx)),.row [.s l] 9)::(Ad (Ad nx),.row [.i .i64 0] 3)::(Ad nx,.row [.i .i64 kd] 3)::(nx,.row [.s l] 9)::A∧N3 l=(0,false))
  ?_ (fun _ _=>trivial) S ⟨0,0,rfl,.inl ⟨rfl,by omega,.inl ⟨rfl,rfl⟩⟩⟩ ?_ ?_ ?_
 · rintro p st A' ⟨cnt,kd,rfl,_⟩
   exact⟨by simp,by simp[hG]⟩
 · rintro p st A' q1 q2 ⟨cnt,kd,rfl,hq⟩ hw
   refine⟨cnt,kd,rfl,?_⟩
   rcases hq with⟨h1,h2,h3⟩|⟨h1,h2,h3⟩
   · refine .inl ⟨h1,by omega,.inr ⟨by omega,?_⟩⟩
     rcases h3 with⟨rfl,h4⟩|⟨h4,h5⟩
     · exact if_neg fun c=>by rw[c.2.1]at hw;cases hw
     · exact h5
   · omega
 · rintro p st A' F h nx' n k kd f t e hn2 q1 q2 ⟨cnt,kd0,rfl,hq⟩ S hw hb he hk1 hk2
   have hc:cnt=0∧(p=0∧st=0∨0<p∧N3 l=(0,false)):=by
    rcases hq with⟨h1,h2,h3⟩|⟨h1,h2,h3⟩
    · exact⟨h1,h3⟩
    · omega
   obtain⟨rfl,hc⟩:=hc
   have hno:e≠0∨t-f≠l.length→N3 l=(0,false):=fun hh=>by
    rcases hc with⟨rfl,rfl⟩|⟨_,h5⟩
    · have:=he (by omega)
      refine if_neg fun c=>?_
      rw[←this]at c
      have c2:=c.2.2
      simp only[Prod.mk.injEq]at c2
      omega
    · exact h5
   have hyes:e=0→t-f=l.length→l.length≤t∧N3 l=(kd,true):=fun h1 h2=>by
    have hp:p=0:=by omega
    subst hp
    have hs0:st=0:=by omega
    subst hs0
    have:=he (by omega)
    refine⟨by omega,?_⟩
    refine(if_pos ⟨by omega,hw,?_⟩).trans ?_
    · rw[←this]
    · rw[←this];show((t:Int),e)=(↑l.length,0);rw[h1,show t=(l.length:Int) by omega]
   refine Ab hn2 (by omega) fun m' hm'=>?_
   subst hM
   repeat' ((conv=>lhs;whnf);first
    |contradiction
    |refine A1 ‹_› 0 rfl ?_
    |refine A1 ‹_› 1 rfl ?_
    |refine D0 ‹_› 0 (.raw _) rfl ⟨rfl,by simp⟩ (fun h' S=>?_)
    |refine D0 ‹_› 1 (.raw _) rfl ⟨rfl,by simp⟩ (fun h' S=>?_)
    |refine Cp ‹_› rfl (fun h' S=>?_)
    |refine Au ‹_› 0 rfl (Aa rfl) rfl (fun h' S=>?_)
    |refine Au ‹_› 4 rfl (Aa rfl) rfl (fun h' S=>?_)
    |refine Au ‹_› 5 rfl (Aa rfl) rfl (fun h' S=>?_)
    |refine Ae ‹_› 0 rfl (Aa rfl) ?_
    |refine Ae ‹_› 4 rfl (Aa rfl) ?_
    |refine Ae ‹_› 6 rfl (Aa rfl) ?_
    |refine Bv (by(try simp only[Aj]at *);omega) ?_
    |(refine Cu (fun hc hz=>?_) (fun hc hz=>?_)<;>(try simp only[Aj]at hz)<;>try rewrite [hc])
    |(refine new (fun hc hz=>?_) (fun hc hz=>?_)<;>(try simp only[Aj]at hz)<;>try rewrite [hc]))
   all_goals first
    |exact hk2 _ _ _ ⟨kd0,rfl,hno (.inl ‹_›)⟩ (Sat.right (C:=[_]) ‹_›)
    |exact hk2 _ _ _ ⟨kd0,rfl,hno (.inr ‹_›)⟩ (Sat.right (C:=[_]) ‹_›)
    |exact hk1 _ _ _ (fun _ st'=>⟨1,kd,rfl,.inr ⟨rfl,hyes ‹_› ‹_›⟩⟩) (fun hh=>absurd ‹_› hh) (Sat.right (C:=[_]) ‹_›)
 · rintro A' h nx' hJ S
   subst hM
   rcases hJ with⟨p,st,hp,cnt,kd,rfl,hq⟩|⟨kd,rfl,ho⟩
   · have hq2:cnt=0∧N3 l=(0,false)∨cnt=1∧N3 l=(kd,true):=by
      rcases hq with⟨h1,h2,h3⟩|⟨h1,h2,h3⟩
      · refine .inl ⟨h1,?_⟩
        rcases h3 with⟨h4,_⟩|⟨_,h5⟩
        · exact if_neg fun c=>by have:=c.1;omega
        · exact h5
      · exact .inr ⟨h1,h3⟩
     clear hq
     rcases hq2 with⟨rfl,ho⟩|⟨rfl,ho⟩
     all_goals
      repeat' ((conv=>lhs;whnf);first
       |refine A1 ‹_› 0 rfl ?_
       |refine Bm ‹_› 0 rfl (fun h' S=>?_)
       |refine Ae ‹_› 2 rfl (Aa rfl) ?_
       |refine Ae ‹_› 3 rfl (Aa rfl) ?_
       |exact absurd hz (by decide)
       |(refine new (fun hc hz=>?_) (fun hc hz=>?_)<;>try rewrite [hc])
       |exact hk _ _ _ _ (Sat.right (C:=[_,_,_,_]) ‹_›) ho.symm)
   · repeat' ((conv=>lhs;whnf);first
      |refine A1 ‹_› 0 rfl ?_
      |refine Bm ‹_› 0 rfl (fun h' S=>?_)
      |refine Ae ‹_› 2 rfl (Aa rfl) ?_
      |refine Ae ‹_› 3 rfl (Aa rfl) ?_
      |exact absurd hz (by decide)
      |(refine new (fun hc hz=>?_) (fun hc hz=>?_)<;>try rewrite [hc])
      |exact hk _ _ _ _ (Sat.right (C:=[_,_,_,_]) ‹_›) ho.symm)
def kws:List (List Nat):=[[97,117,116,111],[98,114,101,97,107],[99,97,115,101],[99,104,97,114],[99,111,110,115,116],[99,111,110,116,105,110,117,101],[100,101,102,97,117,108,116],[100,111],[100,111,117,98,108,101],[101,108,115,101],[101,110,117,109],[101,120,116,101,114,110],[102,108,111,97,116],[102,111,114],[103,111,116,111],[105,102],[105,110,108,105,110,101],[105,110,116],[108,111,110,103],[114,101,103,105,115,116,101,114],[114,101,115,116,114,105,99,116],[114,101,116,117,114,110],[115,104,111,114,116],[115,105,103,110,101,100],[115,105,122,101,111,102],[115,116,97,116,105,99],[115,116,114,117,99,116],[115,119,105,116,99,104],[116,121,112,101,100,101,102],[117,110,105,111,110],[117,110,115,105,103,110,101,100],[118,111,105,100],[118,111,108,97,116,105,108,101],[119,104,105,108,101],[95,65,108,105,103,110,97,115],[95,65,108,105,103,110,111,102],[95,65,116,111,109,105,99],[95,66,111,111,108],[95,67,111,109,112,108,101,120],[95,71,101,110,101,114,105,99],[95,73,109,97,103,105,110,97,114,121],[95,78,111,114,101,116,117,114,110],[95,83,116,97,116,105,99,95,97,115,115,101,114,116],[95,84,104,114,101,97,100,95,108,111,99,97,108]]
def kwB (t:List Nat):Bool:=decide (t∈kws)
theorem keyword_eq {n:Nat} (hn:2≤n) {l:List Nat} {kp:KP} {h:H} {nx:Pos} {k:K} (hk:∀b,b=kwB l→k (.b b) h nx=true):Ai gg n kp (.fn 30 []) [.s l] h nx k=true:=by
 refine Ab hn (by omega) fun m hm=>?_
 repeat' ((conv=>lhs;whnf);first
  |(refine hk _ ?_;first|(rw[hz];rfl)|exact Yf (fun hh=>by
     unfold kws at hh
     repeat(rcases Bo.1 hh with hh|hh;· exact absurd hh ‹_›)
     cases hh))
  |refine Gq (fun hc hz=>?_) (fun hc hz=>?_)<;>try rewrite [hc])
def canE (t:List Nat):List Nat:=if t=[60,58]then[91]else if t=[58,62]then[93]else if t=[60,37]then[123]else if t=[37,62]then[125]else if t=[37,58]then[35]else if t=[37,58,37,58]then[35,35]else t
theorem canon_eq {n:Nat} (hn:2≤n) {l:List Nat} {kp:KP} {h:H} {nx:Pos} {k:K} (hk:∀r,r=canE l→k (.s r) h nx=true):Ai gg n kp (.fn 35 []) [.s l] h nx k=true:=by
 refine Ab hn (by omega) fun m hm=>?_
 repeat' ((conv=>lhs;whnf);first
  |(refine hk _ ?_;first|(rw[hz];rfl)|exact((if_neg ‹_›).trans ((if_neg ‹_›).trans ((if_neg ‹_›).trans ((if_neg ‹_›).trans ((if_neg ‹_›).trans (if_neg ‹_›)))))).symm)
  |refine Gq (fun hc hz=>?_) (fun hc hz=>?_)<;>try rewrite [hc])
def Lb (c:Int):Int:=if 48≤c∧c≤57 then c-48 else if 97≤c∧c≤102 then c-97+10 else if 65≤c∧c≤70 then c-65+10 else 16
theorem Tb (c:Int):0≤Lb c∧Lb c≤16:=by unfold Lb;split;omega;split;omega;split<;>omega
theorem digit16_eq {n:Nat} (hn:2≤n) {c:Int} (h0:0≤c∧c≤255) {kp:KP} {h:H} {nx:Pos} {k:K} (hk:∀r,r=Lb c→k (.i .i64 r) h nx=true):Ai gg n kp (.fn 129 []) [.i .u8 c] h nx k=true:=by
 refine Ab hn (by omega) fun m hm=>?_
 repeat' ((conv=>lhs;whnf);first
  |(refine hk _ ?_;first|exact(if_pos (by omega)).symm|exact((if_neg (by omega)).trans (if_pos (by omega))).symm|exact((if_neg (by omega)).trans ((if_neg (by omega)).trans (if_pos (by omega)))).symm|exact((if_neg (by omega)).trans ((if_neg (by omega)).trans (if_neg (by omega)))).symm)
  |refine Dt (fun hc hz=>?_) (fun hc hz=>?_)<;>try rewrite [hc]
  |refine Bv (by(try simp only[Aj]at *);omega) ?_
  |(rw[fitU8 (by omega)];skip)
  |(rw[fit64 (by omega)];skip))
def hexB (t:List Nat):Bool:=decide ((2:Int)≤t.length∧((t.getD ((0:Int)).toNat 0:Nat):Int)=48∧(((t.getD ((1:Int)).toNat 0:Nat):Int)=120∨((t.getD ((1:Int)).toNat 0:Nat):Int)=88))
theorem hexed_eq {n:Nat} (hn:2≤n) {l:List Nat} {kp:KP} {h:H} {nx:Pos} {k:K} (hk:∀b,b=hexB l→k (.b b) h nx=true):Ai gg n kp (.fn 67 []) [.s l] h nx k=true:=by
 refine Ab hn (by omega) fun m hm=>?_
 repeat' ((conv=>lhs;whnf);first
  |(refine hk _ ?_;first|exact dec_t (by(try simp only[Aj]at *);omega)|exact Yf (by(try simp only[Aj]at *);omega)|(rw[I4];exact decide_eq_decide.2 (by(try simp only[Aj]at *);omega)))
  |refine Cb (y:=false) (by(try simp only[Aj]at *);omega) ?_
  |refine Cw (x:=false) (by(try simp only[Aj]at *);omega) ?_
  |(refine Dt (fun hc hz=>?_) (fun hc hz=>?_)<;>(try simp only[Aj]at hz)<;>try rewrite [hc])
  |(refine Cu (fun hc hz=>?_) (fun hc hz=>?_)<;>(try simp only[Aj]at hz)<;>try rewrite [hc]))
def limE (p:List Nat):Int:=if p=[117]then 65535 else if p=[85]∨p=[76]then 4294967295 else 255
theorem S4 (p:List Nat):255≤limE p∧limE p≤4294967295:=by unfold limE;split;omega;split<;>omega
theorem limit_eq {n:Nat} (hn:2≤n) {l:List Nat} {kp:KP} {h:H} {nx:Pos} {k:K} (hk:∀r,r=limE l→k (.i .i64 r) h nx=true):Ai gg n kp (.fn 77 []) [.s l] h nx k=true:=by
 refine Ab hn (by omega) fun m hm=>?_
 repeat' ((conv=>lhs;whnf);first
  |(refine hk _ ?_;first|exact(if_pos ‹_›).symm|exact((if_neg ‹_›).trans (if_pos (Or.inl ‹_›))).symm|exact((if_neg ‹_›).trans (if_pos (Or.inr ‹_›))).symm|exact((if_neg ‹_›).trans (if_neg (fun hh=>Or.elim hh ‹_› ‹_›))).symm)
  |refine Gq (fun hc hz=>?_) (fun hc hz=>?_)<;>try rewrite [hc])
def simE (c:Int):Int:=if c=39∨c=34∨c=63∨c=92 then c else if c=97 then 7 else if c=98 then 8 else if c=102 then 12 else if c=110 then 10 else if c=114 then 13 else if c=116 then 9 else if c=118 then 11 else -1
theorem simE_le {c:Int} (h0:0≤c∧c≤255):-1≤simE c∧simE c≤255:=by
 unfold simE;repeat' split
 all_goals omega
theorem simple_eq {n:Nat} (hn:2≤n) {c:Int} (h0:0≤c∧c≤255) {kp:KP} {h:H} {nx:Pos} {k:K} (hk:∀r,r=simE c→k (.i .i64 r) h nx=true):Ai gg n kp (.fn 180 []) [.i .u8 c] h nx k=true:=by
 refine Ab hn (by omega) fun m hm=>?_
 repeat' ((conv=>lhs;whnf);first
  |(refine hk _ ?_;unfold simE;(repeat' split)<;>omega)
  |refine Bv (by(try simp only[Aj]at *);omega) ?_
  |refine Cu (fun hc hz=>?_) (fun hc hz=>?_)<;>try rewrite [hc])
theorem Va {l:List Nat} (hl:∀x∈l,x≤255) (i:Int):0≤((l.getD i.toNat 0:Nat):Int)∧((l.getD i.toNat 0:Nat):Int)≤255:=by
 refine⟨Fw _,?_⟩
 rw[A0]
 cases h:l[i.toNat]? with
 |none=>decide
 |some x=>have:=hl x (Gm h);show(x:Int)≤255;omega
theorem La {n:Nat} (hn:2000020≤n) {l:List Nat} (hs:l.length≤100000) (hl:∀x∈l,x≤255) {b lp:Pos} {A:List Av} {h:H} {nx:Pos} {kp:KP} {k:K} (J:Int→List Av→Prop) (X:List Av→Prop)
 (hJ:∀(p:Int) A,J p A→(b,.row [.s l] 9)∈A) (S:Sat h nx A) (h0:J 0 A)
 (hy:∀(p:Int) (A F:List Av) (h:H) (nx:Pos) (n:Nat) (k:K),1000000≤n→0≤p→p<l.length→J p A→Sat h nx (A++F) →
   (∀A' h' nx',J (p+1) A'→Sat h' nx' (A'++F)→k (.b true) h' nx'=true)→(∀A' h' nx',X A'→Sat h' nx' (A'++F)→k (.b false) h' nx'=true) →
   Ai gg n kp (.yl lp) [.i .i64 (Lb ((l.getD p.toNat 0:Nat):Int))] h nx k=true)
 (hk:∀A h nx,(∃p:Int,l.length≤p∧J p A)∨X A→Sat h nx A→k (.tu []) h nx=true):Ai gg n kp (.fn 128 [.p b 0]) [.yl lp] h nx k=true:=by
 refine Ab hn (by omega) fun m hm=>?_
 have hb0:=hJ 0 A h0
 repeat' ((conv=>lhs;whnf);first
  |refine A5 ‹_› hb0 (Aa rfl) ?_
  |refine Br (L:=[0,1,5,6]) rfl (fun m vs d' h' nx'=>∃(p:Int) (A:List Av),0≤p∧p≤l.length∧l.length-p=m∧J p A∧Sat h' nx' A∧d'=[]∧vs=[.yl lp,.p b 0,.i .i64 (.ofNat l.length),.i .i64 p]) l.length (by omega) ⟨0,A,by omega,by omega,by omega,h0,S,rfl,rfl⟩ ?_)
 rintro m _ d' h' nx' ⟨p,A,hp1,hp2,hp3,hJA,S,rfl,rfl⟩ k' hn' hx
 have hb:=hJ p A hJA
 repeat' ((conv=>lhs;whnf);first
  |contradiction
  |refine A5 ‹_› hb (Aa rfl) ?_
  |refine Cb (y:=false) (by(try simp only[Aj]at *);omega) ?_
  |refine Cw (x:=false) (by(try simp only[Aj]at *);omega) ?_
  |refine Bq (y:=false) (by(try simp only[Aj]at *);omega) ?_
  |refine Bv (by(try simp only[Aj]at *);omega) ?_
  |(refine C4 (fun hc hz=>?_) (fun hc hz=>?_)<;>(try simp only[Aj]at hz)<;>try rewrite [hc])
  |(refine digit16_eq (by omega) (Va hl p) (fun r hr=>?_);subst hr)
  |(refine hy p A [] _ _ _ _ (by omega) hp1 ‹_› hJA (by rw[Bp];assumption) (fun A' h2 nx2 q2 S2=>?_) (fun A' h2 nx2 q2 S2=>?_)<;>rw[Bp]at S2)
  |(refine hn' _ _ _ _ (l.length-(p+1)).toNat (by omega) ?_;exact⟨p+1,A',by omega,by omega,by omega,by assumption,by assumption,rfl,rfl⟩)
  |(refine hx _ _ _ _ _ trivial ?_;conv=>lhs;whnf
    exact hk A _ _ (Or.inl ⟨p,by omega,hJA⟩) ‹_›)
  |(refine hx _ _ _ _ _ trivial ?_;conv=>lhs;whnf
    exact hk A' _ _ (Or.inr ‹_›) ‹_›))
theorem Rj {n:Nat} (hn:2≤n) {l:List Nat} {kp:KP} {h:H} {nx:Pos} {A:List Av} (S:Sat h nx A) {k:K} (hk:∀h',Sat h' (Ad nx) ((nx,.row [.s l] 9)::A)→k (.fn 128 [.p nx 0]) h' (Ad nx)=true):Ai gg n kp (.fn 69 []) [.s l] h nx k=true:=by
 refine Ab hn (by omega) fun m hm=>?_
 repeat' ((conv=>lhs;whnf);first
  |refine Cp ‹_› rfl (fun h' S=>?_)
  |exact hk _ ‹_›)
def runF (l:List Nat) (base:Int) (i:Int):Int ⊕ Int:=if i<l.length∧Lb ((l.getD i.toNat 0:Nat):Int)<base then .inl (i+1)else .inr i
def Dr (l:List Nat) (base:Int):Int:=Vn (runF l base) 0 (l.length+1) 0
theorem Za {n:Nat} (hn:2000030≤n) {l:List Nat} (hs:l.length≤100000) (hl:∀x∈l,x≤255) {base:Int} {A:List Av} {kp:KP} {h:H} {nx:Pos} (S:Sat h nx A) {k:K}
 (hk:∀(r:Int) h' nx',Sat h' nx' A→r=Dr l base→0≤r∧r≤l.length→k (.i .i64 r) h' nx'=true):Ai gg n kp (.fn 68 []) [.s l,.i .i64 base] h nx k=true:=by
 refine Ab hn (by omega) fun m hm=>?_
 generalize hR:Dr l base=R at hk
 unfold Dr at hR
 repeat' ((conv=>lhs;whnf);first
  |refine Cp ‹_› rfl (fun h' S=>?_)
  |refine Au ‹_› 0 rfl (Aa rfl) rfl (fun h' S=>?_)
  |refine Rj (by omega) ‹_› (fun h' S=>?_)
  |refine J3 ‹_› (fun M hM h' S=>?_)
  |refine A6 ‹_› (.raw _) ⟨rfl,by simp⟩ (fun h' S=>?_))
 conv=>lhs;whnf
 refine La (by omega) hs hl
  (fun p A'=>A'=(Ad (Ad (Ad (Ad nx))),.raw (.loop M))::(Ad (Ad (Ad nx)),.raw .marks)::(Ad (Ad nx),.row [.s l] 9)::(Ad nx,.row [.i .i64 p] 3)::(nx,.row [.i .i64 base] 3)::A ∧
    0≤p∧p≤l.length∧∃u:Nat,l.length-p+1≤u∧Vn (runF l base) 0 u p=R)
  (fun A'=>A'=(Ad (Ad (Ad (Ad nx))),.raw (.loop (M.dn (.exit 0))))::(Ad (Ad (Ad nx)),.raw .marks)::(Ad (Ad nx),.row [.s l] 9)::(Ad nx,.row [.i .i64 R] 3)::(nx,.row [.i .i64 base] 3)::A∧0≤R∧R≤l.length)
  ?_ S ⟨rfl,by omega,by omega,_,by omega,hR⟩ ?_ ?_
 · rintro p A' ⟨rfl,_⟩;simp
 · rintro p A' F h nx' n k hn2 q1 q2 ⟨rfl,q3,q4,u,q5,q6⟩ S hk1 hk2
   refine Ab hn2 (by omega) fun m' hm'=>?_
   subst hM
   repeat' ((conv=>lhs;whnf);first
    |refine A1 ‹_› 0 rfl ?_
    |refine D0 ‹_› 0 (.raw _) rfl ⟨rfl,by simp⟩ (fun h' S=>?_)
    |refine Au ‹_› 3 rfl (Aa rfl) rfl (fun h' S=>?_)
    |refine Ae ‹_› 3 rfl (Aa rfl) ?_
    |refine Ae ‹_› 4 rfl (Aa rfl) ?_
    |refine Bv (by(try simp only[Aj]at *);omega) ?_
    |(refine Dt (fun hc hz=>?_) (fun hc hz=>?_)<;>try rewrite [hc])
    |(exact hk1 _ _ _ ⟨rfl,by omega,by omega,u-1,by omega,Iv (if_pos ⟨by omega,by assumption⟩) (by omega) q6⟩ ‹_›)
    |(have hR2:=Fs (if_neg (fun c=>by have:=c.2;omega)) (by omega) q6;subst hR2;exact hk2 _ _ _ ⟨rfl,by omega,by omega⟩ ‹_›))
 · rintro A' h nx' hJ S
   subst hM
   rcases hJ with⟨p,hp,rfl,q3,q4,u,q5,q6⟩|⟨rfl,q3,q4⟩
   · have hR2:=Fs (if_neg (fun c=>by have:=c.1;omega)) (by omega) q6
     subst hR2
     repeat' ((conv=>lhs;whnf);first
      |refine A1 ‹_› 0 rfl ?_
      |refine Bm ‹_› 0 rfl (fun h' S=>?_)
      |refine Ae ‹_› 2 rfl (Aa rfl) ?_
      |exact hk _ _ _ (Sat.right (C:=[_,_,_]) ‹_›) rfl (by omega))
   · repeat' ((conv=>lhs;whnf);first
      |refine A1 ‹_› 0 rfl ?_
      |refine Bm ‹_› 0 rfl (fun h' S=>?_)
      |refine Ae ‹_› 2 rfl (Aa rfl) ?_
      |exact hk _ _ _ (Sat.right (C:=[_,_,_]) ‹_›) rfl (by omega))
def K7 {σ α:Type} (f:σ→σ ⊕ α) (d:α):Nat→σ→α
 |0,_=>d
 |n+1,i=>match f i with
  |.inl j=>K7 f d n j
  |.inr r=>r
theorem Kt {σ α:Type} {f:σ→σ ⊕ α} {d R:α} {u:Nat} {i j:σ} (hf:f i=.inl j) (hu:1≤u) (h:K7 f d u i=R):K7 f d (u-1) j=R:=by
 obtain⟨v,rfl⟩:∃v,u=v+1:=⟨u-1,by omega⟩
 unfold K7 at h
 rw[hf]at h;exact h
theorem Dp {σ α:Type} {f:σ→σ ⊕ α} {d R r:α} {u:Nat} {i:σ} (hf:f i=.inr r) (hu:1≤u) (h:K7 f d u i=R):r=R:=by
 obtain⟨v,rfl⟩:∃v,u=v+1:=⟨u-1,by omega⟩
 unfold K7 at h
 rw[hf]at h;exact h
def nuF (l:List Nat) (base most:Int) (s:Int×Int):(Int×Int) ⊕ Int:=if s.1<l.length then(if most<s.2*base+Lb ((l.getD (s.1).toNat 0:Nat):Int)then .inr (-1)else .inl (s.1+1,s.2*base+Lb ((l.getD (s.1).toNat 0:Nat):Int)))else .inr s.2
def nuE (l:List Nat) (base most:Int):Int:=K7 (nuF l base most) 0 (l.length+1) (0,0)
theorem nuF_a {l:List Nat} {base most p v dv:Int} (hdv:Lb ((l.getD p.toNat 0:Nat):Int)=dv) (h1:p<l.length) (h2:most<v*base+dv):nuF l base most (p,v)=.inr (-1):=by
 subst hdv;exact(if_pos h1).trans (if_pos h2)
theorem nuF_b {l:List Nat} {base most p v dv:Int} (hdv:Lb ((l.getD p.toNat 0:Nat):Int)=dv) (h1:p<l.length) (h2:v*base+dv≤most):nuF l base most (p,v)=.inl (p+1,v*base+dv):=by
 subst hdv;exact(if_pos h1).trans (if_neg (Int.not_lt.2 h2))
theorem nuF_c {l:List Nat} {base most p v:Int} (h1:l.length≤p):nuF l base most (p,v)=.inr v:=if_neg (Int.not_lt.2 h1)
theorem number_eq {n:Nat} (hn:2000030≤n) {l:List Nat} (hs:l.length≤100000) (hl:∀x∈l,x≤255) {base most:Int} (hb:base=16∨base=8) (hm0:0≤most∧most≤4294967295) {A:List Av} {kp:KP} {h:H} {nx:Pos} (S:Sat h nx A) {k:K}
 (hk:∀(r:Int) h' nx',Sat h' nx' A→r=nuE l base most → -1≤r∧r≤most→k (.i .i64 r) h' nx'=true):Ai gg n kp (.fn 181 []) [.s l,.i .i64 base,.i .i64 most] h nx k=true:=by
 refine Ab hn (by omega) fun m hm=>?_
 generalize hR:nuE l base most=R at hk
 unfold nuE at hR
 repeat' ((conv=>lhs;whnf);first
  |refine Cp ‹_› rfl (fun h' S=>?_)
  |refine Au ‹_› 0 rfl (Aa rfl) rfl (fun h' S=>?_)
  |refine Rj (by omega) ‹_› (fun h' S=>?_)
  |refine J3 ‹_› (fun M hM h' S=>?_)
  |refine A6 ‹_› (.raw _) ⟨rfl,by simp⟩ (fun h' S=>?_))
 conv=>lhs;whnf
 refine La (by omega) hs hl
  (fun p A'=>∃v z:Int,A'=(Ad (Ad (Ad (Ad (Ad (Ad nx))))),.raw (.loop M))::(Ad (Ad (Ad (Ad (Ad nx)))),.raw .marks)::(Ad (Ad (Ad (Ad nx))),.row [.s l] 9)::(Ad (Ad (Ad nx)),.row [.i .i64 v] 2)::(Ad (Ad nx),.row [.i .i64 z] 2)::(Ad nx,.row [.i .i64 most] 2)::(nx,.row [.i .i64 base] 2)::A ∧
    0≤v∧v≤most∧0≤p∧p≤l.length∧∃u:Nat,l.length-p+1≤u∧K7 (nuF l base most) 0 u (p,v)=R)
  (fun A'=>∃v:Int,A'=(Ad (Ad (Ad (Ad (Ad (Ad nx))))),.raw (.loop (M.dn .ret)))::(Ad (Ad (Ad (Ad (Ad nx)))),.raw .marks)::(Ad (Ad (Ad (Ad nx))),.row [.s l] 9)::(Ad (Ad (Ad nx)),.row [.i .i64 v] 2)::(Ad (Ad nx),.row [.i .i64 (-1)] 2)::(Ad nx,.row [.i .i64 most] 2)::(nx,.row [.i .i64 base] 2)::A∧R=-1)
  ?_ S ⟨0,0,rfl,by omega,by omega,by omega,by omega,_,by omega,hR⟩ ?_ ?_
 · rintro p A' ⟨v,z,rfl,_⟩;simp
 · rintro p A' F h nx' n k hn2 q1 q2 ⟨v,z,rfl,q3,q4,q5,q6,u,q7,q8⟩ S hk1 hk2
   have hd:=Tb ((l.getD p.toNat 0:Nat):Int)
   generalize hdv:Lb ((l.getD p.toNat 0:Nat):Int)=dv at hd
   have hvb:0≤v*base∧v*base≤68719476720:=by rcases hb with rfl|rfl<;>omega
   refine Ab hn2 (by omega) fun m' hm'=>?_
   subst hM
   repeat' ((conv=>lhs;whnf);first
    |refine A1 ‹_› 0 rfl ?_
    |refine D0 ‹_› 0 (.raw _) rfl ⟨rfl,by simp⟩ (fun h' S=>?_)
    |refine Au ‹_› 3 rfl (Aa rfl) rfl (fun h' S=>?_)
    |refine Au ‹_› 4 rfl (Aa rfl) rfl (fun h' S=>?_)
    |refine Ae ‹_› 3 rfl (Aa rfl) ?_
    |refine Ae ‹_› 5 rfl (Aa rfl) ?_
    |refine Ae ‹_› 6 rfl (Aa rfl) ?_
    |refine Bv (show -9223372036854775808≤v*base∧v*base≤9223372036854775807 by omega) ?_
    |refine Bv (show -9223372036854775808≤v*base+dv∧v*base+dv≤9223372036854775807 by omega) ?_
    |(refine C4 (fun hc hz=>?_) (fun hc hz=>?_)<;>try rewrite [hc])
    |(have hz':most<v*base+dv:=hz;exact hk2 _ _ _ ⟨_,rfl,(Dp (nuF_a hdv q2 hz') (by omega) q8).symm⟩ ‹_›)
    |(have hz':v*base+dv≤most:=hz;exact hk1 _ _ _ ⟨v*base+dv,z,rfl,by omega,by omega,by omega,by omega,u-1,by omega,Kt (nuF_b hdv q2 hz') (by omega) q8⟩ ‹_›))
 · rintro A' h nx' hJ S
   subst hM
   rcases hJ with⟨p,hp,v,z,rfl,q3,q4,q5,q6,u,q7,q8⟩|⟨v,rfl,q3⟩
   · have hR2:=Dp (nuF_c hp) (by omega) q8
     have hR3:v=R:=hR2
     subst hR3
     repeat' ((conv=>lhs;whnf);first
      |refine A1 ‹_› 0 rfl ?_
      |refine Bm ‹_› 0 rfl (fun h' S=>?_)
      |refine Ae ‹_› 1 rfl (Aa rfl) ?_
      |refine Ae ‹_› 2 rfl (Aa rfl) ?_
      |refine Au ‹_› 3 rfl (Aa rfl) rfl (fun h' S=>?_)
      |exact hk _ _ _ (Sat.right (C:=[_,_,_,_,_]) ‹_›) rfl (by omega))
   · repeat' ((conv=>lhs;whnf);first
      |refine A1 ‹_› 0 rfl ?_
      |refine Bm ‹_› 0 rfl (fun h' S=>?_)
      |refine Ae ‹_› 2 rfl (Aa rfl) ?_
      |exact hk _ _ _ (Sat.right (C:=[_,_,_,_,_]) ‹_›) q3.symm (by omega))
end Go.CE
