/- Part 33 of the lemmas behind the claim. -/
import Derived.Test.YtacpdfjcepkgcaaGreatDoorZA01
import Derived.Test.YtacpdfjcepkgcaaGreatDoorZA22
set_option linter.unusedSimpArgs false
set_option linter.unusedVariables false
set_option linter.constructorNameAsVariable false
set_option linter.unusedSectionVars false
set_option linter.defProp false
set_option maxRecDepth 100000
set_option maxHeartbeats 40000000
namespace Go.CE
open Go Go.Proofs.YtacpdfjcepkgcaaGreatDoor
attribute [local irreducible] loopK Ai K0 N2 Dg fits
def Vn {α:Type} (f:Int→Int ⊕ α) (d:α):Nat→Int→α
 |0,_=>d
 |n+1,i=>match f i with
  |.inl j=>Vn f d n j
  |.inr r=>r
theorem Iv {α:Type} {f:Int→Int ⊕ α} {d R:α} {u:Nat} {i j:Int} (hf:f i=.inl j) (hu:1≤u) (h:Vn f d u i=R):Vn f d (u-1) j=R:=by
 obtain⟨v,rfl⟩:∃v,u=v+1:=⟨u-1,by omega⟩
 unfold Vn at h
 rw[hf]at h;exact h
theorem Fs {α:Type} {f:Int→Int ⊕ α} {d R r:α} {u:Nat} {i:Int} (hf:f i=.inr r) (hu:1≤u) (h:Vn f d u i=R):r=R:=by
 obtain⟨v,rfl⟩:∃v,u=v+1:=⟨u-1,by omega⟩
 unfold Vn at h
 rw[hf]at h;exact h
def letB (c:Int):Bool:=decide (97≤c∧c≤122∨65≤c∧c≤90∨c=95)
def digB (c:Int):Bool:=decide (48≤c∧c≤57)
def whiB (c:Int):Bool:=decide (c=32∨c=9∨c=11∨c=12)
theorem dec_t {p:Prop} [Decidable p] (h:p):true=decide p:=(decide_eq_true h).symm
theorem Yf {p:Prop} [Decidable p] (h:¬p):false=decide p:=(decide_eq_false h).symm
theorem bf {b:Bool} (h:false=b):¬b=true:=by subst h;decide
theorem Np {n:Nat} (hn:2≤n) {c:Int} {kp:KP} {h:H} {nx:Pos} {k:K} (hk:∀b,b=letB c→k (.b b) h nx=true):Ai gg n kp (.fn 194 []) [.i .u8 c] h nx k=true:=by
 refine Ab hn (by omega) fun m hm=>?_
 repeat' ((conv=>lhs;whnf);first
  |(refine hk _ ?_;first|exact dec_t (by omega)|exact Yf (by omega)|(rw[I4];exact decide_eq_decide.2 (by omega))|(rw[Pb];exact decide_eq_decide.2 (by omega)))
  |refine Dt (fun hc hz=>?_) (fun hc hz=>?_)<;>try rewrite [hc]
  |refine Cu (fun hc hz=>?_) (fun hc hz=>?_)<;>try rewrite [hc])
theorem M5 {n:Nat} (hn:2≤n) {c:Int} {kp:KP} {h:H} {nx:Pos} {k:K} (hk:∀b,b=digB c→k (.b b) h nx=true):Ai gg n kp (.fn 195 []) [.i .u8 c] h nx k=true:=by
 refine Ab hn (by omega) fun m hm=>?_
 repeat' ((conv=>lhs;whnf);first
  |(refine hk _ ?_;first|exact dec_t (by omega)|exact Yf (by omega)|(rw[I4];exact decide_eq_decide.2 (by omega))|(rw[Pb];exact decide_eq_decide.2 (by omega)))
  |refine Dt (fun hc hz=>?_) (fun hc hz=>?_)<;>try rewrite [hc])
theorem white_eq {n:Nat} (hn:2≤n) {c:Int} {kp:KP} {h:H} {nx:Pos} {k:K} (hk:∀b,b=whiB c→k (.b b) h nx=true):Ai gg n kp (.fn 51 []) [.i .u8 c] h nx k=true:=by
 refine Ab hn (by omega) fun m hm=>?_
 repeat' ((conv=>lhs;whnf);first
  |(refine hk _ ?_;first|exact dec_t (by omega)|exact Yf (by omega)|(rw[I4];exact decide_eq_decide.2 (by omega))|(rw[Pb];exact decide_eq_decide.2 (by omega)))
  |refine Dt (fun hc hz=>?_) (fun hc hz=>?_)<;>try rewrite [hc]
  |refine Cu (fun hc hz=>?_) (fun hc hz=>?_)<;>try rewrite [hc])
def wordF (l:List Nat) (i:Int):Int ⊕ Int:=if i<l.length then(if letB (((l.getD i.toNat 0:Nat):Int))=true then .inl (i+1)else if digB (((l.getD i.toNat 0:Nat):Int))=true then .inl (i+1)else .inr i)else .inr i
def wordE (l:List Nat) (a:Int):Int:=if letB (((l.getD a.toNat 0:Nat):Int))=true then Vn (wordF l) 0 (l.length+1) (a+1)else 0
theorem wordEnd_eq {n:Nat} (hn:1000004≤n) {l:List Nat} {at':Int} (h0:0≤at'∧at'<l.length) (hs:l.length≤100000) {kp:KP} {h:H} {nx:Pos} {k:K} (hk:∀r:Int,r=wordE l at'→r=0∨at'<r∧r≤l.length→k (.i .i64 r) h nx=true):Ai gg n kp (.fn 154 []) [.s l,.i .i64 at'] h nx k=true:=by
 refine Ab hn (by omega) fun m hm=>?_
 generalize hR:wordE l at'=R at hk
 unfold wordE at hR
 repeat' ((conv=>lhs;whnf);first
  |exact hk _ ((if_neg (bf hb)).symm.trans hR) (Or.inl rfl)
  |refine Cb (y:=false) (by omega) ?_
  |refine Cw (x:=false) (by omega) ?_
  |(refine Np (by omega) (fun b hb=>?_);cases b)
  |refine Bv (by omega) ?_)
 rw[if_pos (show letB (((l.getD at'.toNat 0:Nat):Int))=true from hb.symm)]at hR
 conv=>lhs;whnf
 refine Br (L:=[0,5]) rfl (fun m vs d' h' nx'=>∃(i:Int) (u:Nat),at'<i∧i≤l.length∧l.length-i=m∧m+1≤u∧Vn (wordF l) 0 u i=R∧h'=h∧nx'=nx∧d'=[]∧vs=[.s l,.i .i64 i]) (l.length-(at'+1)).toNat (by omega) ⟨at'+1,_,by omega,by omega,by omega,by omega,hR,rfl,rfl,rfl,rfl⟩ ?_
 rintro m _ d' h' nx' ⟨i,u,hi1,hi2,hi3,hi4,hi5,rfl,rfl,rfl,rfl⟩ k' hn' hx
 repeat' ((conv=>lhs;whnf);first
  |refine Cb (y:=false) (by omega) ?_
  |refine Cw (x:=false) (by omega) ?_
  |(refine Np (by omega) (fun b hb1=>?_);cases b)
  |(refine M5 (by omega) (fun b hb2=>?_);cases b)
  |refine Bv (by omega) ?_
  |(refine C4 (fun hc hz=>?_) (fun hc hz=>?_)<;>simp only[Aj]at hz<;>try rewrite [hc])
  |(refine Dt (fun hc hz=>?_) (fun hc hz=>?_)<;>try rewrite [hc])
  |(refine hn' _ _ _ _ (l.length-(i+1)).toNat (by omega) ?_
    refine⟨i+1,u-1,by omega,by omega,by omega,by omega,Iv ?_ (by omega) hi5,rfl,rfl,rfl,rfl⟩
    first
     |exact(if_pos hz).trans (if_pos hb1.symm)
     |exact(if_pos hz).trans ((if_neg (bf hb1)).trans (if_pos hb2.symm)))
  |refine hx _ _ _ _ _ trivial ?_
  |(refine hk _ ?_ (by right;omega)
    refine Fs ?_ (by omega) hi5
    first
     |exact if_neg (by omega)
     |exact(if_pos hz).trans ((if_neg (bf hb1)).trans (if_neg (bf hb2)))))
def numF (l:List Nat) (i:Int):Int ⊕ Int:=
 if i<l.length then
  (if(((l.getD i.toNat 0:Nat):Int)=101∨((l.getD i.toNat 0:Nat):Int)=69∨((l.getD i.toNat 0:Nat):Int)=112∨((l.getD i.toNat 0:Nat):Int)=80)∧i+1<l.length∧(((l.getD (i+1).toNat 0:Nat):Int)=43∨((l.getD (i+1).toNat 0:Nat):Int)=45)then .inl (i+2)
   else if digB (((l.getD i.toNat 0:Nat):Int))=true∨letB (((l.getD i.toNat 0:Nat):Int))=true∨((l.getD i.toNat 0:Nat):Int)=46 then .inl (i+1)else .inr i)else .inr i
def numS (l:List Nat) (a:Int):Int:=if((l.getD a.toNat 0:Nat):Int)=46 then a+1 else a
def numE (l:List Nat) (a:Int):Int:=if numS l a=l.length then 0 else if digB (((l.getD (numS l a).toNat 0:Nat):Int))=true then Vn (numF l) 0 (l.length+1) (numS l a+1)else 0
theorem Qv {l:List Nat} {i:Int} (h0:i<l.length) (h:(((l.getD i.toNat 0:Nat):Int)=101∨((l.getD i.toNat 0:Nat):Int)=69∨((l.getD i.toNat 0:Nat):Int)=112∨((l.getD i.toNat 0:Nat):Int)=80)∧i+1<l.length∧(((l.getD (i+1).toNat 0:Nat):Int)=43∨((l.getD (i+1).toNat 0:Nat):Int)=45)):numF l i=.inl (i+2):=(if_pos h0).trans (if_pos h)
theorem Gc {l:List Nat} {i:Int} (h0:i<l.length) (h:¬((((l.getD i.toNat 0:Nat):Int)=101∨((l.getD i.toNat 0:Nat):Int)=69∨((l.getD i.toNat 0:Nat):Int)=112∨((l.getD i.toNat 0:Nat):Int)=80)∧i+1<l.length∧(((l.getD (i+1).toNat 0:Nat):Int)=43∨((l.getD (i+1).toNat 0:Nat):Int)=45))) (h2:digB ((l.getD i.toNat 0:Nat):Int)=true∨letB ((l.getD i.toNat 0:Nat):Int)=true∨((l.getD i.toNat 0:Nat):Int)=46):numF l i=.inl (i+1):=(if_pos h0).trans ((if_neg h).trans (if_pos h2))
theorem Qw {l:List Nat} {i:Int} (h0:i<l.length) (h:¬((((l.getD i.toNat 0:Nat):Int)=101∨((l.getD i.toNat 0:Nat):Int)=69∨((l.getD i.toNat 0:Nat):Int)=112∨((l.getD i.toNat 0:Nat):Int)=80)∧i+1<l.length∧(((l.getD (i+1).toNat 0:Nat):Int)=43∨((l.getD (i+1).toNat 0:Nat):Int)=45))) (h2:false=digB ((l.getD i.toNat 0:Nat):Int)) (h3:false=letB ((l.getD i.toNat 0:Nat):Int)) (h4:¬((l.getD i.toNat 0:Nat):Int)=46):numF l i=.inr i:=(if_pos h0).trans ((if_neg h).trans (if_neg fun h=>by
 rcases h with h|h|h
 · exact bf h2 h
 · exact bf h3 h
 · exact h4 h))
theorem Zm {n:Nat} (hn:1000004≤n) {l:List Nat} {at':Int} (h0:0≤at'∧at'<l.length) (hs:l.length≤100000) {kp:KP} {h:H} {nx:Pos} {k:K} (hk:∀r:Int,r=numE l at'→r=0∨at'<r∧r≤l.length→k (.i .i64 r) h nx=true):Ai gg n kp (.fn 155 []) [.s l,.i .i64 at'] h nx k=true:=by
 refine Ab hn (by omega) fun m hm=>?_
 generalize hR:numE l at'=R at hk
 unfold numE numS at hR
 by_cases h46:((l.getD at'.toNat 0:Nat):Int)=46
 · simp only[if_pos h46]at hR
   repeat' ((conv=>lhs;whnf);first
    |exact absurd h46 hz
    |exact absurd hz h46
    |exact hk _ ((if_pos (by omega)).symm.trans hR) (Or.inl rfl)
    |exact hk _ (((if_neg (by omega)).trans (if_neg (bf hb))).symm.trans hR) (Or.inl rfl)
    |refine Cb (y:=false) (by omega) ?_
    |refine Cw (x:=false) (by omega) ?_
    |refine Bv (by omega) ?_
    |(refine M5 (by omega) (fun b hb=>?_);cases b)
    |(refine Cu (fun hc hz=>?_) (fun hc hz=>?_)<;>(have hz':=hz;try simp only[Aj]at hz')<;>try rewrite [hc])
    |(refine Br (L:=[0,5]) rfl (fun m vs d' h' nx'=>∃(i:Int) (u:Nat),at'<i∧i≤l.length∧l.length-i=m∧m+1≤u∧Vn (numF l) 0 u i=R∧h'=h∧nx'=nx∧d'=[]∧vs=[.s l,.i .i64 i]) (l.length-(at'+1+1)).toNat (by omega)
       ⟨at'+1+1,_,by omega,by omega,by omega,by omega,((if_neg (by omega)).trans (if_pos hb.symm)).symm.trans hR,rfl,rfl,rfl,rfl⟩ ?_))
   rintro m _ d' h' nx' ⟨i,u,hi1,hi2,hi3,hi4,hi5,rfl,rfl,rfl,rfl⟩ k' hn' hx
   repeat' ((conv=>lhs;whnf);first
    |refine Cb (y:=false) (by omega) ?_
    |refine Cw (x:=false) (by omega) ?_
    |refine Bv (by omega) ?_
    |(refine M5 (by omega) (fun b hb1=>?_);cases b)
    |(refine Np (by omega) (fun b hb2=>?_);cases b)
    |(refine C4 (fun hc hz=>?_) (fun hc hz=>?_)<;>(have hz':=hz;try simp only[Aj]at hz')<;>try rewrite [hc])
    |(refine new (fun hc hz=>?_) (fun hc hz=>?_)<;>(have hz':=hz;try simp only[Aj]at hz')<;>try rewrite [hc])
    |(refine Cu (fun hc hz=>?_) (fun hc hz=>?_)<;>(have hz':=hz;try simp only[Aj]at hz')<;>try rewrite [hc])
    |(refine hn' _ _ _ _ (l.length-(i+1)).toNat (by omega) ?_
      refine⟨i+1,u-1,by omega,by omega,by omega,by omega,Iv ?_ (by omega) hi5,rfl,rfl,rfl,rfl⟩;(first|exact if_neg (by omega)|exact Qv (by omega) (by omega)|exact Gc (by omega) (by omega) (.inl hb1.symm)|exact Gc (by omega) (by omega) (.inr (.inl hb2.symm))|exact Gc (by omega) (by omega) (.inr (.inr (by omega)))|exact Qw (by omega) (by omega) hb1 hb2 (by omega)))
    |(refine hn' _ _ _ _ (l.length-(i+2)).toNat (by omega) ?_
      refine⟨i+2,u-1,by omega,by omega,by omega,by omega,Iv ?_ (by omega) hi5,rfl,rfl,rfl,rfl⟩;(first|exact if_neg (by omega)|exact Qv (by omega) (by omega)|exact Gc (by omega) (by omega) (.inl hb1.symm)|exact Gc (by omega) (by omega) (.inr (.inl hb2.symm))|exact Gc (by omega) (by omega) (.inr (.inr (by omega)))|exact Qw (by omega) (by omega) hb1 hb2 (by omega)))
    |refine hx _ _ _ _ _ trivial ?_
    |(refine hk _ ?_ (by right;omega)
      refine Fs ?_ (by omega) hi5;(first|exact if_neg (by omega)|exact Qv (by omega) (by omega)|exact Gc (by omega) (by omega) (.inl hb1.symm)|exact Gc (by omega) (by omega) (.inr (.inl hb2.symm))|exact Gc (by omega) (by omega) (.inr (.inr (by omega)))|exact Qw (by omega) (by omega) hb1 hb2 (by omega))))
 · simp only[if_neg h46]at hR
   repeat' ((conv=>lhs;whnf);first
    |exact absurd h46 hz
    |exact absurd hz h46
    |exact hk _ ((if_pos (by omega)).symm.trans hR) (Or.inl rfl)
    |exact hk _ (((if_neg (by omega)).trans (if_neg (bf hb))).symm.trans hR) (Or.inl rfl)
    |refine Cb (y:=false) (by omega) ?_
    |refine Cw (x:=false) (by omega) ?_
    |refine Bv (by omega) ?_
    |(refine M5 (by omega) (fun b hb=>?_);cases b)
    |(refine Cu (fun hc hz=>?_) (fun hc hz=>?_)<;>(have hz':=hz;try simp only[Aj]at hz')<;>try rewrite [hc])
    |(refine Br (L:=[0,5]) rfl (fun m vs d' h' nx'=>∃(i:Int) (u:Nat),at'<i∧i≤l.length∧l.length-i=m∧m+1≤u∧Vn (numF l) 0 u i=R∧h'=h∧nx'=nx∧d'=[]∧vs=[.s l,.i .i64 i]) (l.length-(at'+1)).toNat (by omega)
       ⟨at'+1,_,by omega,by omega,by omega,by omega,((if_neg (by omega)).trans (if_pos hb.symm)).symm.trans hR,rfl,rfl,rfl,rfl⟩ ?_))
   rintro m _ d' h' nx' ⟨i,u,hi1,hi2,hi3,hi4,hi5,rfl,rfl,rfl,rfl⟩ k' hn' hx
   repeat' ((conv=>lhs;whnf);first
    |refine Cb (y:=false) (by omega) ?_
    |refine Cw (x:=false) (by omega) ?_
    |refine Bv (by omega) ?_
    |(refine M5 (by omega) (fun b hb1=>?_);cases b)
    |(refine Np (by omega) (fun b hb2=>?_);cases b)
    |(refine C4 (fun hc hz=>?_) (fun hc hz=>?_)<;>(have hz':=hz;try simp only[Aj]at hz')<;>try rewrite [hc])
    |(refine new (fun hc hz=>?_) (fun hc hz=>?_)<;>(have hz':=hz;try simp only[Aj]at hz')<;>try rewrite [hc])
    |(refine Cu (fun hc hz=>?_) (fun hc hz=>?_)<;>(have hz':=hz;try simp only[Aj]at hz')<;>try rewrite [hc])
    |(refine hn' _ _ _ _ (l.length-(i+1)).toNat (by omega) ?_
      refine⟨i+1,u-1,by omega,by omega,by omega,by omega,Iv ?_ (by omega) hi5,rfl,rfl,rfl,rfl⟩;(first|exact if_neg (by omega)|exact Qv (by omega) (by omega)|exact Gc (by omega) (by omega) (.inl hb1.symm)|exact Gc (by omega) (by omega) (.inr (.inl hb2.symm))|exact Gc (by omega) (by omega) (.inr (.inr (by omega)))|exact Qw (by omega) (by omega) hb1 hb2 (by omega)))
    |(refine hn' _ _ _ _ (l.length-(i+2)).toNat (by omega) ?_
      refine⟨i+2,u-1,by omega,by omega,by omega,by omega,Iv ?_ (by omega) hi5,rfl,rfl,rfl,rfl⟩;(first|exact if_neg (by omega)|exact Qv (by omega) (by omega)|exact Gc (by omega) (by omega) (.inl hb1.symm)|exact Gc (by omega) (by omega) (.inr (.inl hb2.symm))|exact Gc (by omega) (by omega) (.inr (.inr (by omega)))|exact Qw (by omega) (by omega) hb1 hb2 (by omega)))
    |refine hx _ _ _ _ _ trivial ?_
    |(refine hk _ ?_ (by right;omega)
      refine Fs ?_ (by omega) hi5;(first|exact if_neg (by omega)|exact Qv (by omega) (by omega)|exact Gc (by omega) (by omega) (.inl hb1.symm)|exact Gc (by omega) (by omega) (.inr (.inl hb2.symm))|exact Gc (by omega) (by omega) (.inr (.inr (by omega)))|exact Qw (by omega) (by omega) hb1 hb2 (by omega))))
theorem hasPre1_ok {n:Nat} (hn:2≤n) {s p:List Nat} (hs:s.length≤1000000) (hp:p.length≤1000000) {kp:KP} {h:H} {nx:Pos} {k:K} (hk:∀b,(b=true↔s.take p.length=p)→k (.b b) h nx=true):Ai gg n kp (.fn 151 []) [.s s,.s p] h nx k=true:=by
 refine Ab hn (by omega) fun m hm=>?_
 repeat' ((conv=>lhs;whnf);first
  |refine Cb (y:=false) (by(try simp only[Aj,Bool.toNat_true,Bool.toNat_false]at *);omega) ?_
  |refine Bq (y:=false) (by(try simp only[Aj,Bool.toNat_true,Bool.toNat_false]at *);omega) ?_
  |(refine Dt (fun hc hz=>?_) (fun hc hz=>?_)<;>simp only[Aj]at hz<;>try rewrite [hc])
  |(refine Gq (fun hc hz=>?_) (fun hc hz=>?_)<;>try rewrite [hc])
  |(refine hk _ ?_;simp at hz ⊢;exact hz)
  |(refine hk _ ?_;refine⟨fun c=>(by cases c),fun c=>?_⟩;have:=congrArg List.length c;simp at this;omega))
theorem Jx {n:Nat} (hn:3≤n) {s p:List Nat} (hs:s.length≤1000000) (hp:p.length≤1000000) {kp:KP} {h:H} {nx:Pos} {k:K} (hk:∀b,(b=true↔s.take p.length=p)→k (.b b) h nx=true):Ai gg n kp (.fn 103 []) [.s s,.s p] h nx k=true:=by
 refine Ab hn (by omega) fun m hm=>?_
 repeat' ((conv=>lhs;whnf);first
  |exact hk _ ‹_›
  |refine hasPre1_ok (by omega) hs hp (fun b hb=>?_))
def puns:List (List Nat):=[[91],[93],[40],[41],[123],[125],[46],[45,62],[43,43],[45,45],[38],[42],[43],[45],[126],[33],[47],[37],[60,60],[62,62],[60],[62],[60,61],[62,61],[61,61],[33,61],[94],[124],[38,38],[124,124],[63],[58],[59],[46,46,46],[61],[42,61],[47,61],[37,61],[43,61],[45,61],[60,60,61],[62,62,61],[38,61],[94,61],[124,61],[44],[35],[35,35],[60,58],[58,62],[60,37],[37,62],[37,58],[37,58,37,58]]
def punB (t:List Nat):Bool:=decide (t∈puns)
theorem punct_eq {n:Nat} (hn:2≤n) {l:List Nat} {kp:KP} {h:H} {nx:Pos} {k:K} (hk:∀b,b=punB l→k (.b b) h nx=true):Ai gg n kp (.fn 196 []) [.s l] h nx k=true:=by
 refine Ab hn (by omega) fun m hm=>?_
 repeat' ((conv=>lhs;whnf);first
  |(refine hk _ ?_;first|(rw[hz];rfl)|exact Yf (fun hh=>by
     unfold puns at hh
     repeat(rcases Bo.1 hh with hh|hh;· exact absurd hh ‹_›)
     cases hh))
  |refine Gq (fun hc hz=>?_) (fun hc hz=>?_)<;>try rewrite [hc])
def punF (l:List Nat) (a i:Int):Int ⊕ Int:=if 0<i then(if punB ((l.drop a.toNat).take i.toNat)=true then .inr (a+i)else .inl (i-1))else .inr 0
def punE (l:List Nat) (a:Int):Int:=Vn (punF l a) 0 5 (if l.length-a<4 then l.length-a else 4)
theorem punctEnd_eq {n:Nat} (hn:1000004≤n) {l:List Nat} {at':Int} (h0:0≤at'∧at'<l.length) (hs:l.length≤100000) {kp:KP} {h:H} {nx:Pos} {k:K} (hk:∀r:Int,r=punE l at'→r=0∨at'<r∧r≤l.length→k (.i .i64 r) h nx=true):Ai gg n kp (.fn 156 []) [.s l,.i .i64 at'] h nx k=true:=by
 refine Ab hn (by omega) fun m hm=>?_
 generalize hR:punE l at'=R at hk
 unfold punE at hR
 repeat' ((conv=>lhs;whnf);first
  |refine Bv (by simp only[Aj];omega) ?_
  |(refine Dt (fun hc hz=>?_) (fun hc hz=>?_)<;>simp only[Aj]at hz<;>try rewrite [hc])
  |(refine Br (L:=[0,1,5]) rfl (fun m vs d' h' nx'=>∃(i:Int) (u:Nat),0≤i∧i≤4∧at'+i≤l.length∧i=m∧m+1≤u∧Vn (punF l at') 0 u i=R∧h'=h∧nx'=nx∧d'=[]∧vs=[.s l,.i .i64 at',.i .i64 i]) 4 (by omega) ⟨4,5,by omega,by omega,by omega,rfl,by omega,by rw[if_neg (by omega)]at hR;exact hR,rfl,rfl,rfl,rfl⟩ ?_)
  |(refine Br (L:=[0,1,5]) rfl (fun m vs d' h' nx'=>∃(i:Int) (u:Nat),0≤i∧i≤4∧at'+i≤l.length∧i=m∧m+1≤u∧Vn (punF l at') 0 u i=R∧h'=h∧nx'=nx∧d'=[]∧vs=[.s l,.i .i64 at',.i .i64 i]) (l.length-at').toNat (by omega) ⟨l.length-at',5,by omega,by omega,by omega,by omega,by omega,by rw[if_pos (by omega)]at hR;exact hR,rfl,rfl,rfl,rfl⟩ ?_))
 all_goals
  rintro m _ d' h' nx' ⟨i,u,hi1,hi2,hi3,hi4,hi5,hi6,rfl,rfl,rfl,rfl⟩ k' hn' hx
  repeat' ((conv=>lhs;whnf);first
   |refine Cb (y:=false) (by omega) ?_
   |refine Cw (x:=false) (by omega) ?_
   |refine Bq (y:=false) (by omega) ?_
   |refine Bv (by omega) ?_
   |(refine punct_eq (by omega) (fun b hb=>?_);rw[show(at'+i).toNat.sub at'.toNat=i.toNat from(by show(at'+i).toNat-at'.toNat=i.toNat;omega)]at hb;cases b)
   |(refine C4 (fun hc hz=>?_) (fun hc hz=>?_)<;>try rewrite [hc])
   |(refine hn' _ _ _ _ (m-1) (by omega) ?_;exact⟨i-1,u-1,by omega,by omega,by omega,by omega,by omega,Iv ((if_pos hz).trans (if_neg (bf hb))) (by omega) hi6,rfl,rfl,rfl,rfl⟩)
   |refine hx _ _ _ _ _ trivial ?_
   |(refine hk _ ?_ (by omega)
     refine Fs ?_ (by omega) hi6
     first|exact(if_pos hz).trans (if_pos hb.symm)|exact if_neg (by omega)))
def Kw (l:List Nat) (a:Int):Int:=if(l.drop a.toNat).take 3=[117,56,34]then a+2 else if((l.getD a.toNat 0:Nat):Int)=117∨((l.getD a.toNat 0:Nat):Int)=85∨((l.getD a.toNat 0:Nat):Int)=76 then a+1 else a
def quoF (l:List Nat) (b c i:Int):Int ⊕ (Int×Int):=
 if i<l.length∧((l.getD i.toNat 0:Nat):Int)≠10 then
  (if((l.getD i.toNat 0:Nat):Int)=c∧c=34 then .inr (4,i+1)
   else if((l.getD i.toNat 0:Nat):Int)=c∧b<i then .inr (3,i+1)
   else if((l.getD i.toNat 0:Nat):Int)=c then .inr (0,0)
   else if((l.getD i.toNat 0:Nat):Int)=92∧i+1<l.length∧((l.getD (i+1).toNat 0:Nat):Int)≠10 then .inl (i+2)
   else if((l.getD i.toNat 0:Nat):Int)=92 then .inr (0,0)
   else .inl (i+1))
 else .inr (0,0)
def Tx (l:List Nat) (a:Int):Int×Int:=if Kw l a=l.length then(0,0)else if((l.getD (Kw l a).toNat 0:Nat):Int)≠39∧((l.getD (Kw l a).toNat 0:Nat):Int)≠34 then(0,0)else Vn (quoF l (Kw l a+1) ((l.getD (Kw l a).toNat 0:Nat):Int)) (0,0) (l.length+1) (Kw l a+1)
theorem pre3 {l:List Nat} {a:Int} (ha:0≤a) (h:(l.drop a.toNat).take 3=[117,56,34]):a+3≤l.length∧((l.getD (a+2).toNat 0:Nat):Int)=34:=by
 have h1:=congrArg List.length h
 simp at h1
 have h2:=congrArg (fun x=>x.getD 2 0) h
 simp[A0,Jk,List.getElem?_drop]at h2
 refine⟨by omega,?_⟩
 rw[show(a+2).toNat=a.toNat+2 by omega,A0,h2];rfl
theorem Df {l:List Nat} {a:Nat}:List.take (l.length.sub a) (l.drop a)=l.drop a:=Et (by rw[Ax];exact Ag _)
theorem quoted_eq {n:Nat} (hn:1000005≤n) {l:List Nat} {at':Int} (h0:0≤at'∧at'<l.length) (hs:l.length≤100000) {kp:KP} {h:H} {nx:Pos} {k:K} (hk:∀K r:Int,(K,r)=Tx l at'→K=0∧r=0∨(K=3∨K=4)∧at'<r∧r≤l.length→k (.tu [.i .i64 K,.i .i64 r]) h nx=true):Ai gg n kp (.fn 153 []) [.s l,.i .i64 at'] h nx k=true:=by
 refine Ab hn (by omega) fun m hm=>?_
 generalize hR:Tx l at'=R at hk
 unfold Tx at hR
 by_cases hA:(l.drop at'.toNat).take 3=[117,56,34]
 · obtain⟨hA1,hA2⟩:=pre3 h0.1 hA
   have hB:True:=trivial
   have hS:Kw l at'=at'+2:=if_pos hA
   rw[hS]at hR
   repeat' ((conv=>lhs;whnf);first
    |exact hk _ _ ((if_pos (by omega)).symm.trans hR) (Or.inl ⟨rfl,rfl⟩)
    |exact hk _ _ (((if_neg (by omega)).trans (if_pos (by omega))).symm.trans hR) (Or.inl ⟨rfl,rfl⟩)
    |refine Cb (y:=false) (by(try simp only[Aj]at *);omega) ?_
    |refine Cw (x:=false) (by(try simp only[Aj]at *);omega) ?_
    |refine Bq (y:=false) (by(try simp only[Aj]at *);omega) ?_
    |refine Bv (by(try simp only[Aj]at *);omega) ?_
    |(refine Jx (p:=[117,56,34]) (by omega) (by simp;omega) (by simp) (fun b hb=>?_);rw[Df]at hb;have hbt:b=true:=hb.2 hA;subst hbt)
    |(refine new (fun hc hz=>?_) (fun hc hz=>?_)<;>(try simp only[Aj]at hz)<;>try rewrite [hc])
    |(refine Cu (fun hc hz=>?_) (fun hc hz=>?_)<;>(try simp only[Aj]at hz)<;>try rewrite [hc])
    |(refine Br (L:=[0,6,7,8]) rfl (fun m vs d' h' nx'=>∃(i:Int) (u:Nat),at'+2+1≤i∧i≤l.length+1∧l.length+1-i=m∧m+1≤u∧Vn (quoF l (at'+2+1) ((l.getD (at'+2).toNat 0:Nat):Int)) (0,0) u i=R∧h'=h∧nx'=nx∧d'=[]∧vs=[.s l,.i .i64 i,.i .i64 (at'+2+1),.i .u8 ((l.getD (at'+2).toNat 0:Nat):Int)]) (l.length-(at'+2)).toNat (by omega)
       ⟨at'+2+1,l.length+1,by omega,by omega,by omega,by omega,((if_neg (by omega)).trans (if_neg (by omega))).symm.trans hR,rfl,rfl,rfl,rfl⟩ ?_))
   all_goals
    rintro m _ d' h' nx' ⟨i,u,hi1,hi2,hi3,hi4,hi5,rfl,rfl,rfl,rfl⟩ k' hn' hx
    repeat' ((conv=>lhs;whnf);first
     |contradiction
     |refine Cb (y:=false) (by omega) ?_
     |refine Cw (x:=false) (by omega) ?_
     |refine Bv (by omega) ?_
     |(refine C4 (fun hc hz=>?_) (fun hc hz=>?_)<;>(try simp only[Aj]at hz)<;>try rewrite [hc])
     |(refine new (fun hc hz=>?_) (fun hc hz=>?_)<;>(try simp only[Aj]at hz)<;>try rewrite [hc])
     |(refine Cu (fun hc hz=>?_) (fun hc hz=>?_)<;>(try simp only[Aj]at hz)<;>try rewrite [hc])
     |(refine hn' _ _ _ _ (l.length+1-(i+1)).toNat (by omega) ?_
       refine⟨i+1,u-1,by omega,by omega,by omega,by omega,Iv ?_ (by omega) hi5,rfl,rfl,rfl,rfl⟩
       exact(if_pos (by omega)).trans ((if_neg (by omega)).trans ((if_neg (by omega)).trans ((if_neg (by omega)).trans ((if_neg (by omega)).trans (if_neg (by omega)))))))
     |(refine hn' _ _ _ _ (l.length+1-(i+1+1)).toNat (by omega) ?_
       refine⟨i+1+1,u-1,by omega,by omega,by omega,by omega,Iv ?_ (by omega) hi5,rfl,rfl,rfl,rfl⟩
       rw[show i+1+1=i+2 by omega]
       exact(if_pos (by omega)).trans ((if_neg (by omega)).trans ((if_neg (by omega)).trans ((if_neg (by omega)).trans (if_pos (by omega))))))
     |refine hx _ _ _ _ _ trivial ?_
     |(refine hk 4 _ (Fs ?_ (by omega) hi5) (by omega)
       exact(if_pos (by omega)).trans (if_pos (by omega)))
     |(refine hk 3 _ (Fs ?_ (by omega) hi5) (by omega)
       exact(if_pos (by omega)).trans ((if_neg (by omega)).trans (if_pos (by omega))))
     |(refine hk 0 0 (Fs ?_ (by omega) hi5) (Or.inl ⟨rfl,rfl⟩)
       first
        |exact if_neg (by omega)
        |exact(if_pos (by omega)).trans ((if_neg (by omega)).trans ((if_neg (by omega)).trans (if_pos (by omega))))
        |exact(if_pos (by omega)).trans ((if_neg (by omega)).trans ((if_neg (by omega)).trans ((if_neg (by omega)).trans ((if_neg (by omega)).trans (if_pos (by omega))))))))
 by_cases hB:((l.getD at'.toNat 0:Nat):Int)=117∨((l.getD at'.toNat 0:Nat):Int)=85∨((l.getD at'.toNat 0:Nat):Int)=76
 · have hS:Kw l at'=at'+1:=(if_neg hA).trans (if_pos hB)
   rw[hS]at hR
   repeat' ((conv=>lhs;whnf);first
    |exact absurd hB (by omega)
    |exact hk _ _ ((if_pos (by omega)).symm.trans hR) (Or.inl ⟨rfl,rfl⟩)
    |exact hk _ _ (((if_neg (by omega)).trans (if_pos (by omega))).symm.trans hR) (Or.inl ⟨rfl,rfl⟩)
    |refine Cb (y:=false) (by(try simp only[Aj]at *);omega) ?_
    |refine Cw (x:=false) (by(try simp only[Aj]at *);omega) ?_
    |refine Bq (y:=false) (by(try simp only[Aj]at *);omega) ?_
    |refine Bv (by(try simp only[Aj]at *);omega) ?_
    |(refine Jx (p:=[117,56,34]) (by omega) (by simp;omega) (by simp) (fun b hb=>?_);rw[Df]at hb;have hbt:b=false:=(by cases b;rfl;exact absurd (hb.1 rfl) hA);subst hbt)
    |(refine new (fun hc hz=>?_) (fun hc hz=>?_)<;>(try simp only[Aj]at hz)<;>try rewrite [hc])
    |(refine Cu (fun hc hz=>?_) (fun hc hz=>?_)<;>(try simp only[Aj]at hz)<;>try rewrite [hc])
    |(refine Br (L:=[0,6,7,8]) rfl (fun m vs d' h' nx'=>∃(i:Int) (u:Nat),at'+1+1≤i∧i≤l.length+1∧l.length+1-i=m∧m+1≤u∧Vn (quoF l (at'+1+1) ((l.getD (at'+1).toNat 0:Nat):Int)) (0,0) u i=R∧h'=h∧nx'=nx∧d'=[]∧vs=[.s l,.i .i64 i,.i .i64 (at'+1+1),.i .u8 ((l.getD (at'+1).toNat 0:Nat):Int)]) (l.length-(at'+1)).toNat (by omega)
       ⟨at'+1+1,l.length+1,by omega,by omega,by omega,by omega,((if_neg (by omega)).trans (if_neg (by omega))).symm.trans hR,rfl,rfl,rfl,rfl⟩ ?_))
   all_goals
    rintro m _ d' h' nx' ⟨i,u,hi1,hi2,hi3,hi4,hi5,rfl,rfl,rfl,rfl⟩ k' hn' hx
    repeat' ((conv=>lhs;whnf);first
     |contradiction
     |refine Cb (y:=false) (by omega) ?_
     |refine Cw (x:=false) (by omega) ?_
     |refine Bv (by omega) ?_
     |(refine C4 (fun hc hz=>?_) (fun hc hz=>?_)<;>(try simp only[Aj]at hz)<;>try rewrite [hc])
     |(refine new (fun hc hz=>?_) (fun hc hz=>?_)<;>(try simp only[Aj]at hz)<;>try rewrite [hc])
     |(refine Cu (fun hc hz=>?_) (fun hc hz=>?_)<;>(try simp only[Aj]at hz)<;>try rewrite [hc])
     |(refine hn' _ _ _ _ (l.length+1-(i+1)).toNat (by omega) ?_
       refine⟨i+1,u-1,by omega,by omega,by omega,by omega,Iv ?_ (by omega) hi5,rfl,rfl,rfl,rfl⟩
       exact(if_pos (by omega)).trans ((if_neg (by omega)).trans ((if_neg (by omega)).trans ((if_neg (by omega)).trans ((if_neg (by omega)).trans (if_neg (by omega)))))))
     |(refine hn' _ _ _ _ (l.length+1-(i+1+1)).toNat (by omega) ?_
       refine⟨i+1+1,u-1,by omega,by omega,by omega,by omega,Iv ?_ (by omega) hi5,rfl,rfl,rfl,rfl⟩
       rw[show i+1+1=i+2 by omega]
       exact(if_pos (by omega)).trans ((if_neg (by omega)).trans ((if_neg (by omega)).trans ((if_neg (by omega)).trans (if_pos (by omega))))))
     |refine hx _ _ _ _ _ trivial ?_
     |(refine hk 4 _ (Fs ?_ (by omega) hi5) (by omega)
       exact(if_pos (by omega)).trans (if_pos (by omega)))
     |(refine hk 3 _ (Fs ?_ (by omega) hi5) (by omega)
       exact(if_pos (by omega)).trans ((if_neg (by omega)).trans (if_pos (by omega))))
     |(refine hk 0 0 (Fs ?_ (by omega) hi5) (Or.inl ⟨rfl,rfl⟩)
       first
        |exact if_neg (by omega)
        |exact(if_pos (by omega)).trans ((if_neg (by omega)).trans ((if_neg (by omega)).trans (if_pos (by omega))))
        |exact(if_pos (by omega)).trans ((if_neg (by omega)).trans ((if_neg (by omega)).trans ((if_neg (by omega)).trans ((if_neg (by omega)).trans (if_pos (by omega))))))))
 · have hS:Kw l at'=at':=(if_neg hA).trans (if_neg hB)
   rw[hS]at hR
   repeat' ((conv=>lhs;whnf);first
    |exact absurd (show((l.getD at'.toNat 0:Nat):Int)=117∨((l.getD at'.toNat 0:Nat):Int)=85∨((l.getD at'.toNat 0:Nat):Int)=76 by omega) hB
    |exact hk _ _ ((if_pos (by omega)).symm.trans hR) (Or.inl ⟨rfl,rfl⟩)
    |exact hk _ _ (((if_neg (by omega)).trans (if_pos (by omega))).symm.trans hR) (Or.inl ⟨rfl,rfl⟩)
    |refine Cb (y:=false) (by(try simp only[Aj]at *);omega) ?_
    |refine Cw (x:=false) (by(try simp only[Aj]at *);omega) ?_
    |refine Bq (y:=false) (by(try simp only[Aj]at *);omega) ?_
    |refine Bv (by(try simp only[Aj]at *);omega) ?_
    |(refine Jx (p:=[117,56,34]) (by omega) (by simp;omega) (by simp) (fun b hb=>?_);rw[Df]at hb;have hbt:b=false:=(by cases b;rfl;exact absurd (hb.1 rfl) hA);subst hbt)
    |(refine new (fun hc hz=>?_) (fun hc hz=>?_)<;>(try simp only[Aj]at hz)<;>try rewrite [hc])
    |(refine Cu (fun hc hz=>?_) (fun hc hz=>?_)<;>(try simp only[Aj]at hz)<;>try rewrite [hc])
    |(refine Br (L:=[0,6,7,8]) rfl (fun m vs d' h' nx'=>∃(i:Int) (u:Nat),at'+1≤i∧i≤l.length+1∧l.length+1-i=m∧m+1≤u∧Vn (quoF l (at'+1) ((l.getD at'.toNat 0:Nat):Int)) (0,0) u i=R∧h'=h∧nx'=nx∧d'=[]∧vs=[.s l,.i .i64 i,.i .i64 (at'+1),.i .u8 ((l.getD at'.toNat 0:Nat):Int)]) (l.length-(at')).toNat (by omega)
       ⟨at'+1,l.length+1,by omega,by omega,by omega,by omega,((if_neg (by omega)).trans (if_neg (by omega))).symm.trans hR,rfl,rfl,rfl,rfl⟩ ?_))
   all_goals
    rintro m _ d' h' nx' ⟨i,u,hi1,hi2,hi3,hi4,hi5,rfl,rfl,rfl,rfl⟩ k' hn' hx
    repeat' ((conv=>lhs;whnf);first
     |contradiction
     |refine Cb (y:=false) (by omega) ?_
     |refine Cw (x:=false) (by omega) ?_
     |refine Bv (by omega) ?_
     |(refine C4 (fun hc hz=>?_) (fun hc hz=>?_)<;>(try simp only[Aj]at hz)<;>try rewrite [hc])
     |(refine new (fun hc hz=>?_) (fun hc hz=>?_)<;>(try simp only[Aj]at hz)<;>try rewrite [hc])
     |(refine Cu (fun hc hz=>?_) (fun hc hz=>?_)<;>(try simp only[Aj]at hz)<;>try rewrite [hc])
     |(refine hn' _ _ _ _ (l.length+1-(i+1)).toNat (by omega) ?_
       refine⟨i+1,u-1,by omega,by omega,by omega,by omega,Iv ?_ (by omega) hi5,rfl,rfl,rfl,rfl⟩
       exact(if_pos (by omega)).trans ((if_neg (by omega)).trans ((if_neg (by omega)).trans ((if_neg (by omega)).trans ((if_neg (by omega)).trans (if_neg (by omega)))))))
     |(refine hn' _ _ _ _ (l.length+1-(i+1+1)).toNat (by omega) ?_
       refine⟨i+1+1,u-1,by omega,by omega,by omega,by omega,Iv ?_ (by omega) hi5,rfl,rfl,rfl,rfl⟩
       rw[show i+1+1=i+2 by omega]
       exact(if_pos (by omega)).trans ((if_neg (by omega)).trans ((if_neg (by omega)).trans ((if_neg (by omega)).trans (if_pos (by omega))))))
     |refine hx _ _ _ _ _ trivial ?_
     |(refine hk 4 _ (Fs ?_ (by omega) hi5) (by omega)
       exact(if_pos (by omega)).trans (if_pos (by omega)))
     |(refine hk 3 _ (Fs ?_ (by omega) hi5) (by omega)
       exact(if_pos (by omega)).trans ((if_neg (by omega)).trans (if_pos (by omega))))
     |(refine hk 0 0 (Fs ?_ (by omega) hi5) (Or.inl ⟨rfl,rfl⟩)
       first
        |exact if_neg (by omega)
        |exact(if_pos (by omega)).trans ((if_neg (by omega)).trans ((if_neg (by omega)).trans (if_pos (by omega))))
        |exact(if_pos (by omega)).trans ((if_neg (by omega)).trans ((if_neg (by omega)).trans ((if_neg (by omega)).trans ((if_neg (by omega)).trans (if_pos (by omega))))))))
attribute [local irreducible] rd rd1 wr newC Kj Fk Fa Ve
def stp (p q:Int×Int):Int×Int:=if p.2<q.2 then q else p
theorem stp_t {k t k' t':Int} (h:t<t'):stp (k,t) (k',t')=(k',t'):=if_pos h
theorem stp_f {k t k' t':Int} (h:t'≤t):stp (k,t) (k',t')=(k,t):=if_neg (by show ¬t<t';omega)
def lonP (c a:Int) (p:Int×Int):Int×Int×Int:=if c=10 then(9,a+1,0)else if p.1≠0 then(p.1,p.2,0)else if c=39∨c=34 then(0,0,21)else(6,a+1,0)
def lonE (l:List Nat) (a:Int):Int×Int×Int:=lonP ((l.getD a.toNat 0:Nat):Int) a (stp (stp (stp (stp (0,a) (Tx l a)) (1,wordE l a)) (2,numE l a)) (5,punE l a))
theorem longest_eq {n:Nat} (hn:1000007≤n) {l:List Nat} {at':Int} (h0:0≤at'∧at'<l.length) (hs:l.length≤100000) {kp:KP} {h:H} {nx:Pos} {A:List Av} (S:Sat h nx A) {k:K}
 (hk:∀(K f t e:Int) h' nx',Sat h' nx' A→(K,t,e)=lonE l at'→(e=0∧f=at'∧at'<t∧t≤l.length∨e=21∧f=0)→k (.tu [.ag [.i .i64 K,.i .i64 f,.i .i64 t],.i .i64 e]) h' nx'=true):Ai gg n kp (.fn 105 []) [.s l,.i .i64 at'] h nx k=true:=by
 refine Ab hn (by omega) fun m hm=>?_
 generalize hR:lonE l at'=R at hk
 unfold lonE at hR
 repeat' ((conv=>lhs;whnf);first
  |refine Cb (y:=false) (by(try simp only[Aj]at *);omega) ?_
  |refine Cw (x:=false) (by(try simp only[Aj]at *);omega) ?_
  |refine Bq (y:=false) (by(try simp only[Aj]at *);omega) ?_
  |refine Bv (by(try simp only[Aj]at *);omega) ?_
  |refine Cp ‹_› rfl (fun h' S=>?_)
  |refine Au ‹_› 0 rfl (Aa rfl) rfl (fun h' S=>?_)
  |refine Au ‹_› 1 rfl (Aa rfl) rfl (fun h' S=>?_)
  |refine Ae ‹_› 0 rfl (Aa rfl) ?_
  |refine Ae ‹_› 1 rfl (Aa rfl) ?_
  |refine Da ‹_› 0 rfl (Aa rfl) ?_
  |refine Da ‹_› 1 rfl (Aa rfl) ?_
  |(refine quoted_eq (by omega) h0 hs (fun qk qr hq1 hq2=>?_);rw[←hq1]at hR)
  |(refine wordEnd_eq (by omega) h0 hs (fun wr hw1 hw2=>?_);rw[←hw1]at hR)
  |(refine Zm (by omega) h0 hs (fun nr hn1 hn2=>?_);rw[←hn1]at hR)
  |(refine punctEnd_eq (by omega) h0 hs (fun pr hp1 hp2=>?_);rw[←hp1]at hR)
  |(refine Dt (fun hc hz=>?_) (fun hc hz=>?_)<;>(try simp only[Aj]at hz)<;>try rewrite [hc])
  |(refine C4 (fun hc hz=>?_) (fun hc hz=>?_)<;>(try simp only[Aj]at hz)<;>(first|rw[stp_t hz]at hR|rw[stp_f hz]at hR|skip)<;>try rewrite [hc])
  |(refine new (fun hc hz=>?_) (fun hc hz=>?_)<;>(try simp only[Aj]at hz)<;>try rewrite [hc])
  |(refine Cu (fun hc hz=>?_) (fun hc hz=>?_)<;>(try simp only[Aj]at hz)<;>try rewrite [hc])
  |(refine hk _ _ _ _ _ _ (Sat.right (C:=[_]) ‹_›) (Eq.trans (Eq.symm ?_) hR) (by omega)
    first|exact if_pos ‹_›|exact(if_neg (by omega)).trans (if_pos (show _≠(0:Int) by omega))|exact(if_neg (by omega)).trans ((if_neg (show ¬_≠(0:Int) by omega)).trans (if_pos (by omega)))|exact(if_neg (by omega)).trans ((if_neg (show ¬_≠(0:Int) by omega)).trans (if_neg (by omega))))
  |(refine hk _ _ _ _ _ _ (Sat.right (C:=[_,_]) ‹_›) (Eq.trans (Eq.symm ?_) hR) (by omega)
    first|exact if_pos ‹_›|exact(if_neg (by omega)).trans (if_pos (show _≠(0:Int) by omega))|exact(if_neg (by omega)).trans ((if_neg (show ¬_≠(0:Int) by omega)).trans (if_pos (by omega)))|exact(if_neg (by omega)).trans ((if_neg (show ¬_≠(0:Int) by omega)).trans (if_neg (by omega)))))
end Go.CE
