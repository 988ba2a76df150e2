/- Part 43 of the lemmas behind the claim. -/
import Derived.Test.YtacpdfjcepkgcaaGreatDoorZA01
import Derived.Test.YtacpdfjcepkgcaaGreatDoorZA42
import Derived.Test.YtacpdfjcepkgcaaGreatDoorZA06
set_option linter.unusedSimpArgs false
set_option linter.unusedVariables false
set_option linter.constructorNameAsVariable false
set_option linter.unusedSectionVars false
set_option linter.defProp false
set_option maxRecDepth 100000
set_option maxHeartbeats 40000000
namespace Go.CE
open Go Go.Ps Go.Proofs.YtacpdfjcepkgcaaGreatDoor
attribute [local irreducible] loopK Tt Ai K0 N2 Dg fits rd rd1 wr newC Kj Fk Fa Ve Oe Kq eqA
theorem visit_eq {E:TEnv} (hE:TOK E) {n:Nat} (hn:1000400≤n) {s:S3} {iz:Int} {i v:Nat} (hiz:iz=Int.ofNat i) (hv0:s.lv.getD i 0=v) (hi:i<E.N.length) (hv:v≤250000) {A:List Av} (hF:O6 E A) {kp:KP} {h:H} {nx:Pos} (T:TI E h nx s A) (hb:(ap s (visA E.N (Lm E.l) i v)).ls.length≤1000000) {k:K}
 (hk:∀h' nx',TI E h' nx' (ap s (visA E.N (Lm E.l) i v)) A→k (.tu []) h' nx'=true):Ai gg n kp (.fn 115 []) [.p E.tp 0,.i .i64 iz] h nx k=true:=by
 subst hiz
 have T0:=T
 obtain⟨t1,t2,t3,lnv,XL,G,S⟩:=T
 have M:=Kr E.N E.r
 have hmi:=(hE.ok i hi).1
 have hnl:=hE.nl
 have h3:=hmi.k3
 have h23:=hmi.k23
 have hX:∀X,X=visA E.N (Lm E.l) i v→(ap s X).ls.length≤1000000∧(∀h' nx',TI E h' nx' (ap s X) A→k (.tu []) h' nx'=true):=fun X e=>by subst e;exact⟨hb,hk⟩
 unfold visA at hX
 refine Ab hn (by omega) fun m hm=>?_
 by_cases c1:(nN E.N i).k=3∨(nN E.N i).k=7
 · obtain⟨hb2,hk2⟩:=hX _ (if_pos c1).symm
   have hi1:i+1<E.N.length:=h3 (by rcases c1 with c|c<;>rw[c]<;>simp)
   repeat' ((conv=>lhs;whnf);first
    |exact(by omega:False).elim
    |refine Ln (i:=i) ‹_› (Am _ (Aw ..)) (by omega) ((Bf _).trans (Nat.mul_one _)) hv0 ?_
    |refine M.rd1 (i:=i) (j:=0) ‹_› hF.m2 hi (by decide) rfl rfl ?_
    |refine Tq hE (by omega) (by(try simp only[Aj]at *);omega) rfl hi1 (by omega) hF T0 hb2 (fun h' nx' T=>?_)
    |exact hk2 _ _ ‹_›
    |contradiction
    |refine Be fun h' S=>?_
    |refine C8 fun h' S=>?_
    |refine Bj ?_
    |refine C9 ?_
    |refine Bi ?_
    |refine seqt ?_
    |refine Bg ?_
    |refine Bc ?_
    |refine Aq ?_
    |refine Ar ?_
    |refine Bh ?_
    |(first|refine C4 ?_ ?_|refine Dt ?_ ?_|refine Cu ?_ ?_|refine new ?_ ?_)<;>intro hc hz<;>(try simp only[Aj]at hz)<;>try rewrite [hc])
   all_goals skip
 replace hX:∀X,X=_→_:=fun X e=>hX X (e.trans (if_neg c1).symm)
 by_cases c2:(nN E.N i).k=22
 · obtain⟨hb2,hk2⟩:=hX _ (if_pos c2).symm
   repeat' ((conv=>lhs;whnf);first
    |exact(by omega:False).elim
    |refine Ln (i:=i) ‹_› (Am _ (Aw ..)) (by omega) ((Bf _).trans (Nat.mul_one _)) hv0 ?_
    |refine M.rd1 (i:=i) (j:=0) ‹_› hF.m2 hi (by decide) rfl rfl ?_
    |refine Qt hE (by omega) rfl rfl hi (by omega) hF T0 hb2 (fun h' nx' T=>?_)
    |exact hk2 _ _ ‹_›
    |contradiction
    |refine Be fun h' S=>?_
    |refine C8 fun h' S=>?_
    |refine Bj ?_
    |refine C9 ?_
    |refine Bi ?_
    |refine seqt ?_
    |refine Bg ?_
    |refine Bc ?_
    |refine Aq ?_
    |refine Ar ?_
    |refine Bh ?_
    |(first|refine C4 ?_ ?_|refine Dt ?_ ?_|refine Cu ?_ ?_|refine new ?_ ?_)<;>intro hc hz<;>(try simp only[Aj]at hz)<;>try rewrite [hc])
   all_goals skip
 replace hX:∀X,X=_→_:=fun X e=>hX X (e.trans (if_neg c2).symm)
 by_cases c3:(nN E.N i).k=23∨(nN E.N i).k=24∨(nN E.N i).k=25
 · obtain⟨hb2,hk2⟩:=hX _ (if_pos c3).symm
   have hlk:=hmi.kd _ (h23 (by rcases c3 with c|c|c<;>rw[c]<;>simp)).1
   repeat' ((conv=>lhs;whnf);first
    |exact(by omega:False).elim
    |refine Ln (i:=i) ‹_› (Am _ (Aw ..)) (by omega) ((Bf _).trans (Nat.mul_one _)) hv0 ?_
    |refine M.rd1 (i:=i) (j:=0) ‹_› hF.m2 hi (by decide) rfl rfl ?_
    |refine Zz hE (by omega) rfl hi hF T0 (fun h' nx' T1=>?_)
    |refine Yx hE (by omega) rfl rfl hlk.2.1 (by omega) hF T1 hb2 (fun h' nx' T=>?_)
    |exact hk2 _ _ ‹_›
    |contradiction
    |refine Be fun h' S=>?_
    |refine C8 fun h' S=>?_
    |refine Bj ?_
    |refine C9 ?_
    |refine Bi ?_
    |refine seqt ?_
    |refine Bg ?_
    |refine Bc ?_
    |refine Aq ?_
    |refine Ar ?_
    |refine Bh ?_
    |(first|refine C4 ?_ ?_|refine Dt ?_ ?_|refine Cu ?_ ?_|refine new ?_ ?_)<;>intro hc hz<;>(try simp only[Aj]at hz)<;>try rewrite [hc])
   all_goals skip
 replace hX:∀X,X=_→_:=fun X e=>hX X (e.trans (if_neg c3).symm)
 by_cases c4:(nN E.N i).k=27
 · obtain⟨hb2,hk2⟩:=hX _ (if_pos c4).symm
   repeat' ((conv=>lhs;whnf);first
    |exact(by omega:False).elim
    |refine Ln (i:=i) ‹_› (Am _ (Aw ..)) (by omega) ((Bf _).trans (Nat.mul_one _)) hv0 ?_
    |refine M.rd1 (i:=i) (j:=0) ‹_› hF.m2 hi (by decide) rfl rfl ?_
    |refine branches_eq hE (by omega) rfl rfl hi (by omega) hF T0 hb2 (fun h' nx' T=>?_)
    |exact hk2 _ _ ‹_›
    |contradiction
    |refine Be fun h' S=>?_
    |refine C8 fun h' S=>?_
    |refine Bj ?_
    |refine C9 ?_
    |refine Bi ?_
    |refine seqt ?_
    |refine Bg ?_
    |refine Bc ?_
    |refine Aq ?_
    |refine Ar ?_
    |refine Bh ?_
    |(first|refine C4 ?_ ?_|refine Dt ?_ ?_|refine Cu ?_ ?_|refine new ?_ ?_)<;>intro hc hz<;>(try simp only[Aj]at hz)<;>try rewrite [hc])
   all_goals skip
 replace hX:∀X,X=_→_:=fun X e=>hX X (e.trans (if_neg c4).symm)
 by_cases c5:(nN E.N i).k=28∨(nN E.N i).k=29∨(nN E.N i).k=31
 · obtain⟨hb2,hk2⟩:=hX _ (if_pos c5).symm
   have hlk:=hmi.kd _ (h23 (by rcases c5 with c|c|c<;>rw[c]<;>simp)).1
   repeat' ((conv=>lhs;whnf);first
    |exact(by omega:False).elim
    |refine Ln (i:=i) ‹_› (Am _ (Aw ..)) (by omega) ((Bf _).trans (Nat.mul_one _)) hv0 ?_
    |refine M.rd1 (i:=i) (j:=0) ‹_› hF.m2 hi (by decide) rfl rfl ?_
    |refine Zz hE (by omega) rfl hi hF T0 (fun h' nx' T1=>?_)
    |refine P6 hE (by omega) rfl rfl hlk.2.1 (by omega) hF T1 hb2 (fun h' nx' T=>?_)
    |exact hk2 _ _ ‹_›
    |contradiction
    |refine Be fun h' S=>?_
    |refine C8 fun h' S=>?_
    |refine Bj ?_
    |refine C9 ?_
    |refine Bi ?_
    |refine seqt ?_
    |refine Bg ?_
    |refine Bc ?_
    |refine Aq ?_
    |refine Ar ?_
    |refine Bh ?_
    |(first|refine C4 ?_ ?_|refine Dt ?_ ?_|refine Cu ?_ ?_|refine new ?_ ?_)<;>intro hc hz<;>(try simp only[Aj]at hz)<;>try rewrite [hc])
   all_goals skip
 replace hX:∀X,X=_→_:=fun X e=>hX X (e.trans (if_neg c5).symm)
 by_cases c6:(nN E.N i).k=30
 · obtain⟨hb2,hk2⟩:=hX _ (if_pos c6).symm
   have hi1:i+1<E.N.length:=h3 (by rw[c6];simp)
   have hb3:(ap s (Jb E.N (i+1) v false)).ls.length≤1000000:=Cr (Td _ _ _) hb2
   rw[Jj]at hb2 hk2
   have hte:=(hE.ok (i+1) hi1).2
   have hll:=hE.ll
   by_cases c7:(nN E.N (i+1)).k=22
   all_goals
    first
     |rw[if_pos c7]at hb2 hk2
     |rw[if_neg c7]at hb2 hk2
    repeat' ((conv=>lhs;whnf);first
     |exact(by omega:False).elim
     |refine Ln (i:=i) ‹_› (Am _ (Aw ..)) (by omega) ((Bf _).trans (Nat.mul_one _)) hv0 ?_
     |refine M.rd1 (i:=i) (j:=0) ‹_› hF.m2 hi (by decide) rfl rfl ?_
     |(refine P6 hE (by omega) (by(try simp only[Aj]at *);omega) rfl hi1 (by omega) hF T0 hb3 (fun h' nx' T1=>?_)
       have T2:=T1
       obtain⟨u1,u2,u3,lnv2,XL2,G2,S2⟩:=T2
       first
        |rw[decide_eq_true c7]
        |rw[decide_eq_false c7])
     |refine M.rd1 (i:=i+1) (j:=2) ‹_› hF.m2 hi1 (by decide) (by first|rfl|exact tosub2) rfl ?_
     |refine No (by omega) rfl rfl T1 hb2 (fun h' nx' T=>?_)
     |exact hk2 _ _ ‹_›
     |contradiction
     |refine Be fun h' S=>?_
     |refine C8 fun h' S=>?_
     |refine Bj ?_
     |refine C9 ?_
     |refine Bi ?_
     |refine seqt ?_
     |refine Bg ?_
     |refine Bc ?_
     |refine Aq ?_
     |refine Ar ?_
     |refine Bh ?_
     |(first|refine C4 ?_ ?_|refine Dt ?_ ?_|refine Cu ?_ ?_|refine new ?_ ?_)<;>intro hc hz<;>(try simp only[Aj]at hz)<;>try rewrite [hc])
   all_goals skip
 obtain⟨hb2,hk2⟩:=hX _ (if_neg c6).symm
 repeat' ((conv=>lhs;whnf);first
  |exact(by omega:False).elim
  |refine Ln (i:=i) ‹_› (Am _ (Aw ..)) (by omega) ((Bf _).trans (Nat.mul_one _)) hv0 ?_
  |refine M.rd1 (i:=i) (j:=0) ‹_› hF.m2 hi (by decide) rfl rfl ?_
  |exact hk2 _ _ T0
  |contradiction
  |refine Be fun h' S=>?_
  |refine C8 fun h' S=>?_
  |refine Bj ?_
  |refine C9 ?_
  |refine Bi ?_
  |refine seqt ?_
  |refine Bg ?_
  |refine Bc ?_
  |refine Aq ?_
  |refine Ar ?_
  |refine Bh ?_
  |(first|refine C4 ?_ ?_|refine Dt ?_ ?_|refine Cu ?_ ?_|refine new ?_ ?_)<;>intro hc hz<;>(try simp only[Aj]at hz)<;>try rewrite [hc])
 all_goals skip
end Go.CE
namespace Go.CE
open Go Go.Ps Go.Proofs.YtacpdfjcepkgcaaGreatDoor
def ip (p:Nat×Nat):Int×Int:=(Int.ofNat p.1,Int.ofNat p.2)
theorem encL_get (L:List (Nat×Nat)) (i:Nat) (h:i<L.length):(L.flatMap Js).getD (2*i) .x=iA L[i].1∧(L.flatMap Js).getD (2*i+1) .x=iA L[i].2:=by
 have h0:=J6 Ha L i 0 h (by decide)
 have h1:=J6 Ha L i 1 h (by decide)
 rw[Nat.mul_comm]at h0 h1
 exact⟨h0,h1⟩
theorem T8 {cs:T AV} {L:List (Nat×Nat)} (hg:∀i,i<(L.flatMap Js).length→T.get .x cs (Ay (i+1))=(L.flatMap Js).getD i .x):N0 cs (L.map ip):=by
 intro i p hp
 rw[G5]at hp
 obtain⟨hi,hp⟩:∃h:i<L.length,ip L[i]=p:=by
  cases e:L[i]? with
  |none=>rw[e]at hp;cases hp
  |some x=>
   rw[e]at hp
   obtain⟨h1,h2⟩:=Gn.1 e
   exact⟨h1,by rw[h2];exact Ce hp⟩
 subst hp
 have hl:=Az Ha L
 obtain⟨g1,g2⟩:=encL_get L i hi
 rw[hg (2*i) (by omega),hg (2*i+1) (by omega),g1,g2]
 exact⟨rfl,rfl⟩
theorem sort_has (L:List (Nat×Nat)) (hnd:(L.map (·.1)).Nodup):∃L':List (Nat×Nat),L'.Perm L∧L'.Pairwise (fun a b=>a.1<b.1):=by
 refine⟨L.mergeSort fun a b=>decide (a.1≤b.1),List.mergeSort_perm _ _,?_⟩
 have h1:=List.pairwise_mergeSort (le:=fun(a b:Nat×Nat)=>decide (a.1≤b.1)) (fun a b c h1 h2=>by simp only[decide_eq_true_eq]at *;omega) (fun a b=>by simp only[Bool.or_eq_true,decide_eq_true_eq];omega) L
 have h2:((L.mergeSort fun a b=>decide (a.1≤b.1)).map (·.1)).Nodup:=((List.mergeSort_perm L _).map _).nodup_iff.2 hnd
 have h3:(L.mergeSort fun a b=>decide (a.1≤b.1)).Pairwise (fun a b=>a.1≠b.1):=List.pairwise_map.1 h2
 refine(h1.and h3).imp fun {a b} h=>?_
 have:=of_decide_eq_true h.1
 have:=h.2
 omega
theorem pairs_uniq {cs:T AV}:∀ {L M:List (Int×Int)},L.length=M.length→N0 cs L→N0 cs M→L=M:=fun {L M} hl h1 h2=>by
 refine List.ext_getElem hl fun i q1 q2=>?_
 obtain⟨a1,a2⟩:=h1 i L[i] (B8 q1)
 obtain⟨b1,b2⟩:=h2 i M[i] (B8 q2)
 rw[a1]at b1;rw[a2]at b2
 injection b1 with _ b1
 injection b2 with _ b2
 exact Prod.ext b1 b2
theorem sort_w {h:H} {nx:Pos} {A:List Av} (S:Sat h nx A) (i:Nat) {p:Pos} {L:List (Nat×Nat)} {ty n:Nat} {k:H→Bool} (hi:A[i]?=some (p,.row (L.flatMap Js) ty)) (hn:n=L.length) (hnd:(L.map (·.1)).Nodup) (hb:∀x∈L,x.1<4294967296) (hl:L.length≤1000000)
 (hk:∀L':List (Nat×Nat),L'.Perm L→L'.Pairwise (fun a b=>a.1<b.1)→∀h',Sat h' nx (A.set i (p,.row (L'.flatMap Js) ty))→k h'=true) :
 Fk h p (fun o=>match o with
  |.cells N cs 0 false ty=>fB (Nat.ble (2*n) N) (srtK cs n fun cs'=>Fa h p (.cells N cs' 0 false ty) k) false
  |_=>false)=true:=by
 subst hn
 obtain⟨cs,hc,hg⟩:=S.at hi
 simp only at hc
 have hlen:=Az Ha L
 rw[Cz,hc]
 show fB (Nat.ble (2*L.length) (L.flatMap Js).length) (srtK cs L.length fun cs'=>Fa h p (.cells (L.flatMap Js).length cs' 0 false ty) k) false=true
 refine Bq (by omega) ?_
 obtain⟨L1,hp1,hs1⟩:=sort_has L hnd
 have hl1:L1.length=L.length:=hp1.length_eq
 have hlen1:=Az Ha L1
 have hex:∃cs',Srt cs L.length cs':=by
  refine⟨wl (L1.flatMap Js) cs 0,L.map ip,L1.map ip,by rw[Ct],T8 hg,hp1.map _,?_,?_,?_,?_⟩
  · rw[List.pairwise_map]
    exact hs1.imp fun {a b} h=>by show Int.ofNat a.1<Int.ofNat b.1;simp only[Aj];omega
  · intro x hx
    obtain⟨y,hy,rfl⟩:=Dz.1 hx
    have:=hb y hy
    show 0≤Int.ofNat y.1∧Int.ofNat y.1<4294967296
    simp only[Aj];omega
  · refine T8 fun j hj=>?_
    rw[Hv,if_pos ⟨B9 _,by omega⟩];rfl
  · intro j hj
    rw[Hv,if_neg (by omega)]
 unfold srtK
 cases Classical.propDecidable (∃cs',Srt cs L.length cs')with
 |isFalse hf=>exact absurd hex hf
 |isTrue ht=>
  show Fa h p (.cells (L.flatMap Js).length ht.choose 0 false ty) k=true
  obtain⟨M,M',hM1,hM2,hM3,hM4,hM5,hM6,hM7⟩:=ht.choose_spec
  have hML:M=L.map ip:=pairs_uniq (by rw[hM1,Ct]) hM2 (T8 hg)
  subst hML
  have hM'l:M'.length=L.length:=by rw[hM3.length_eq,Ct]
  obtain⟨L2,rfl⟩:∃L2:List (Nat×Nat),M'=L2.map ip:=by
   refine⟨M'.map fun x=>(x.1.toNat,x.2.toNat),?_⟩
   rw[List.map_map]
   have:∀x∈M',(ip ∘ fun x:Int×Int=>(x.1.toNat,x.2.toNat)) x=x:=by
    intro x hx
    obtain⟨y,hy,rfl⟩:=Dz.1 (hM3.mem_iff.1 hx)
    rfl
   rw[List.map_congr_left this,List.map_id']
  have hperm:L2.Perm L:=by
   have:=hM3.map fun x:Int×Int=>(x.1.toNat,x.2.toNat)
   rw[List.map_map,List.map_map]at this
   have e:((fun x:Int×Int=>(x.1.toNat,x.2.toNat)) ∘ ip)=id:=rfl
   rw[e,List.map_id,List.map_id]at this
   exact this
  have hlen2:=Az Ha L2
  have hl2:L2.length=L.length:=hperm.length_eq
  rw[Di]
  refine hk L2 hperm ?_ _ (S.put (e:=(p,.row (L.flatMap Js) ty)) hi ⟨ht.choose,by rw[show(L.flatMap Js).length=(L2.flatMap Js).length by omega],fun j hj=>?_⟩)
  · rw[List.pairwise_map]at hM4
    exact hM4.imp fun {a b} h=>by have h:Int.ofNat a.1<Int.ofNat b.1:=h;simp only[Aj]at h;omega
  · have hj2:j / 2<L2.length:=by omega
    obtain⟨g1,g2⟩:=encL_get L2 (j / 2) hj2
    obtain⟨a1,a2⟩:=hM6 (j / 2) (ip L2[j / 2]) (by rw[G5,B8 hj2];rfl)
    rcases Nat.mod_two_eq_zero_or_one j with c|c
    · rw[show j=2 * (j / 2) by omega,g1];exact a1
    · rw[show j=2 * (j / 2)+1 by omega,g2];exact a2
open Go Go.Ps Go.Ps.Fr Go.Proofs.YtacpdfjcepkgcaaGreatDoor
attribute [local irreducible] loopK Tt Ai K0 N2 Dg fits rd rd1 wr newC Kj Fk Fa Ve Oe Kq eqA
def Uy (x:Pc):List AV:=[iA x.1,iA x.2.1,iA x.2.2]
theorem H6 (x:Pc):(Uy x).length=3:=rfl
theorem pw_ge {L:List (Nat×Nat)} (h:L.Pairwise fun a b=>a.1<b.1):∀i,i<L.length→i≤(L.getD i (0,0)).1:=by
 intro i
 induction i with
 |zero=>intro _;exact B9 _
 |succ i ih=>
  intro hi
  have h1:=ih (by omega)
  have:=Zg h (Nat.lt_add_one i) hi
  omega
theorem nd_len {L:List (Nat×Nat)} {n:Nat} (h:(L.map (·.1)).Nodup) (hl:∀p∈L,p.1<n):L.length≤n:=by
 obtain⟨L',h1,h2⟩:=sort_has L h
 rw[←h1.length_eq]
 by_cases h0:L'.length=0
 · omega
 have:=pw_ge h2 (L'.length-1) (by omega)
 have hm:L'.getD (L'.length-1) (0,0)∈L':=by
  rw[A0,B8 (by omega)]
  exact D8 _
 have:=hl _ (h1.mem_iff.1 hm)
 omega
theorem flat_sub {α:Type} {f:α→List AV} {es:Nat} (hf:∀a,(f a).length=es) {l:List α} {i j:Nat} (hi:i<l.length) {vs:List AV} (hj:j+vs.length≤es) (b:α) (hb:f b=D7 (f l[i]) j vs):D7 (l.flatMap f) (i*es+j) vs=(l.set i b).flatMap f:=by
 induction l generalizing i with
 |nil=>simp at hi
 |cons a l ih=>
  cases i with
  |zero=>
   have hb:f b=D7 (f a) j vs:=hb
   have ha:=hf a
   rw[List.set_cons_zero,Fi,Fi,Nat.zero_mul,Bf,hb]
   unfold D7
   rw[List.take_append_of_le_length (by omega),List.drop_append_of_le_length (by omega),A4,A4,A4]
  |succ i=>
   have:=ih (i:=i) (by simpa using hi) hb
   rw[List.set_cons_succ,Fi,Fi,←this]
   unfold D7
   have e:(i+1) * es+j=(f a).length+(i*es+j):=by rw[hf,Nat.add_mul];omega
   rw[e,List.take_length_add_append,Er (f a).length,List.drop_length_add_append,A4,A4,A4]
theorem ar_wr1 {α:Type} {f:α→List AV} {es:Nat} (hf:∀a,(f a).length=es) {l:List α} {h:H} {nx:Pos} {A:List Av} (S:Sat h nx A) (j:Nat) {p:Pos} {ty:Nat} (hj:A[j]?=some (p,OB.row (l.flatMap f) ty)) (i:Nat) (hi:i<l.length) (b:α) {o:Nat} (u:Nat) (ho:o=i*es+u) {vs:List AV} (hu:u+vs.length≤es) (hv:f b=D7 (f l[i]) u vs) (h1:Gt vs=true) {k:H→Bool}
 (hk:∀h',Sat h' nx (A.set j (p,.row ((l.set i b).flatMap f) ty))→k h'=true):wr h p o vs k=true:=by
 subst ho
 have:i*es+es≤l.length*es:=by rw[←Nat.succ_mul];exact Kb _ hi
 refine Au S j hj (by rw[Az hf];omega) h1 fun h' S=>hk h' ?_
 rw[flat_sub hf hi hu b hv]at S
 exact S
theorem TI.st {E:TEnv} {h:H} {nx:Pos} {A:List Av} (S:Sat h nx (E.row .sl0::(E.pv,.row ((List.replicate E.N.length 0).flatMap Rf) 3)::(E.pk,.row ((List.replicate E.N.length false).flatMap Wi) 4)::A)):TI E h nx ⟨List.replicate E.N.length false,List.replicate E.N.length 0,[]⟩ A:=
 ⟨Fj,Fj,fun x hx=>by rw[(List.mem_replicate.1 hx).2];exact B9 _,.sl0,[],.nil,S⟩
theorem TI.st2 {E:TEnv} {h:H} {nx:Pos} {A:List Av} (S:Sat h nx (E.row .sl0::(E.pk,.row ((List.replicate E.N.length false).flatMap Wi) 4)::(E.pv,.row ((List.replicate E.N.length 0).flatMap Rf) 3)::A)):TI E h nx ⟨List.replicate E.N.length false,List.replicate E.N.length 0,[]⟩ A:=TI.st (S.perm ((List.Perm.swap _ _ _).cons _))
theorem kn_rd {l:List Bool} {h:H} {nx:Pos} {A:List Av} (S:Sat h nx A) {q:Pos} {ty:Nat} (hq:(q,OB.row (l.flatMap Wi) ty)∈A) {i o:Nat} {v:Bool} {k:AV→Bool} (hi:i<l.length) (ho:o=i) (hv:l.getD i false=v) (hk:k (.b v)=true):rd1 h q o k=true:=by
 refine Fe Je S hq (off:=0) (by rw[List.drop_zero];exact Et (by rw[Az Je];exact Ag _)) (by rw[Az Je];omega) i 0 hi (by decide) (by omega) ?_
 rw[A0,B8 hi]at hv
 have hv:l[i]=v:=hv
 rw[hv];exact hk
theorem pcs_el {L:List (Nat×Nat)} {n j:Nat} {x:Pc} (h:j<((pcs L n (j+1)).set (j+1) x).length) (hj:j<L.length:=by omega):((pcs L n (j+1)).set (j+1) x)[j]=(L[j].1,n,L[j].2):=by
 rw[List.getElem_set,if_neg (by omega),Lk]
 unfold pcG
 rw[if_pos (by omega),if_neg (by omega),A0,B8 hj];rfl
theorem sort_eq {h:H} {nx:Pos} {A:List Av} (S:Sat h nx A) (i:Nat) {p:Pos} {L:List (Nat×Nat)} {ty n N:Nat} {c:Cap} {kp:KP} {k:K} (hN:2≤N) (hi:A[i]?=some (p,.row (L.flatMap Js) ty)) (hn:n=L.length) (h1:1≤n) (hnd:(L.map (·.1)).Nodup) (hb:∀x∈L,x.1<4294967296) (hl:L.length≤1000000)
 (hk:∀L':List (Nat×Nat),L'.Perm L→L'.Pairwise (fun a b=>a.1<b.1)→∀h',Sat h' nx (A.set i (p,.row (L'.flatMap Js) ty))→k (.tu []) h' nx=true):Ai gg N kp (.fn 116 []) [.sl p 0 n c,.fn 117 []] h nx k=true:=by
 refine Ab hN (by omega) fun m hm=>?_
 conv=>lhs;whnf
 refine Bq h1 ?_
 conv=>lhs;whnf
 refine Bq (by omega) ?_
 exact sort_w S i hi hn hnd hb hl hk
theorem cuts_eq {n:Nat} (hn:1200000≤n) {l:List Tk} {p:Pos} {off:Nat} {cap:Cap} {LL:List AV} (h1:(LL.drop off).take (l.length*2)=l.flatMap Du) (h2:off+l.length*2≤LL.length) (hl:l.length≤20000) {kk:Nat} {q:Fr} (ho:ok (.nd kk q .nil)) (hw:wid q≤l.length) (hs:sz q+1≤200000) {zz:Int} (hz:zz=Int.ofNat (wid q)) {r:Pos} {cr:Cap} {kp:KP} {h:H} {nx:Pos} {R:List Av} (S:Sat h nx ((r,.row ((pre 0 (.nd kk q .nil)).flatMap Dy) 132)::(p,.row LL 54)::R)) {k:K}
 (hk:∀P b h' nx',Chn 0 (wid q) P→Sat h' nx' ((b,.row (P.flatMap Uy) 102)::(r,.row ((pre 0 (.nd kk q .nil)).flatMap Dy) 132)::(p,.row LL 54)::R)→k (.sl b 0 P.length (.k P.length)) h' nx'=true):Ai gg n kp (.fn 60 []) [.sl p off l.length cap,.sl r 0 (pre 0 (.nd kk q .nil)).length cr,.i .i64 zz] h nx k=true:=by
 subst hz
 have hN:(pre 0 (.nd kk q .nil)).length=sz q+1:=by rw[I5];rfl
 have hinv:=fun m hm=>inv_cutS (c:=Lm l) ho m hm
 have hmk:=mk_all ho
 generalize hNN:pre 0 (.nd kk q .nil)=N at S hk hN hinv hmk ⊢
 have hE:TOK ⟨l,N,Ad (Ad nx),nx,Ad nx,p,off,cap,LL,r,cr⟩:=by
  refine⟨h1,h2,by show N.length≤_;omega,hl,fun i hi=>?_⟩
  obtain⟨a1,a2⟩:=hmk i (by have hi:i<N.length:=hi;omega)
  exact⟨a1,Cr a2 hw⟩
 have hF:O6 ⟨l,N,Ad (Ad nx),nx,Ad nx,p,off,cap,LL,r,cr⟩ ((r,.row (N.flatMap Dy) 132)::(p,.row LL 54)::R):=⟨by simp,by simp⟩
 have M:=Kr N r
 have hm0:=(hmk 0 (by omega)).1
 have hlen:∀m,m≤sz q+1→(Lc N (Lm l) m).ls.length≤1000000:=fun m hm=>by
  have:=hinv m hm
  have:=nd_len this.nd fun p hp=>(this.lt p hp).1
  omega
 have hc0:Lc N (Lm l) 0=cut0 N (Lm l):=rfl
 refine Ab hn (by omega) fun m hm=>?_
 have hi1:(nN N 0).k=2→1<N.length:=fun ck=>hm0.k3 (by rw[ck];simp)
 have hlk:(nN N 0).k=2→G9 N 0<N.length:=fun ck=>(hm0.kd _ (hm0.k23 (by rw[ck];simp)).1).2.1
 have e0:(nN N 0).k=2→cut0 N (Lm l)=ap (ap (Vm N.length) (Pu N (Lm l) 1 0)) (G8 N (G9 N 0) 0):=fun ck=>by rw[←Jj];exact if_pos ck
 have hb2:(nN N 0).k=2→(ap (ap (Vm N.length) (Pu N (Lm l) 1 0)) (G8 N (G9 N 0) 0)).ls.length≤1000000:=fun ck=>by rw[←e0 ck];exact hlen 0 (by omega)
 have hb1:(nN N 0).k=2→(ap (Vm N.length) (Pu N (Lm l) 1 0)).ls.length≤1000000:=fun ck=>Cr (Td _ _ _) (by rw[Jj];exact hb2 ck)
 have hT1:∀ {h nx1 A},(nN N 0).k=2→TI ⟨l,N,Ad (Ad nx),nx,Ad nx,p,off,cap,LL,r,cr⟩ h nx1 (ap (ap (Vm N.length) (Pu N (Lm l) 1 0)) (G8 N (G9 N 0) 0)) A→TI ⟨l,N,Ad (Ad nx),nx,Ad nx,p,off,cap,LL,r,cr⟩ h nx1 (Lc N (Lm l) 0) A:=fun ck T=>by rw[hc0,e0 ck];exact T
 have hT2:∀ {h nx1 A lnv XL},¬(nN N 0).k=2→ExA 2 225 Js lnv [(0,0)] XL→Sat h nx1 (TEnv.row ⟨l,N,Ad (Ad nx),nx,Ad nx,p,off,cap,LL,r,cr⟩ lnv::(nx,.row ((List.replicate N.length 0).flatMap Rf) 3)::(Ad nx,.row (((List.replicate N.length false).set 0 true).flatMap Wi) 4)::(XL++A))→TI ⟨l,N,Ad (Ad nx),nx,Ad nx,p,off,cap,LL,r,cr⟩ h nx1 (Lc N (Lm l) 0) A:=fun {h nx1 A lnv XL} ck G S=>by
  rw[hc0,show cut0 N (Lm l)=_ from if_neg ck]
  exact⟨by show(List.set _ _ _).length=_;rw[E8,Fj],Fj,fun x hx=>by rw[(List.mem_replicate.1 hx).2];exact B9 _,lnv,XL,G,S⟩
 have hst:∀i,i<N.length→(Lc N (Lm l) i).kn.getD i false=true→Lc N (Lm l) (i+1)=ap (Lc N (Lm l) i) (visA N (Lm l) i ((Lc N (Lm l) i).lv.getD i 0)):=fun i hi e=>by rw[Rk];unfold Yg;rw[e]
 have hsf:∀i,i<N.length→(Lc N (Lm l) i).kn.getD i false=false→Lc N (Lm l) (i+1)=Lc N (Lm l) i:=fun i hi e=>by rw[Rk];unfold Yg;rw[e]
 have hI:=hinv N.length (by omega)
 have hI1:=hI.nd
 have hI2:=hI.lt
 have hI3:=hlen N.length (by omega)
 generalize hLs:(Lc N (Lm l) N.length).ls=Ls at hI1 hI2 hI3
 have hkP:∀(L':List (Nat×Nat)) b h' nx',L'.length=Ls.length→Chn 0 (wid q) (pcs L' (wid q) L'.length)→Sat h' nx' ((b,.row ((pcs L' (wid q) L'.length).flatMap Uy) 102)::(r,.row (N.flatMap Dy) 132)::(p,.row LL 54)::R)→k (.sl b 0 Ls.length (.k Ls.length)) h' nx'=true:=fun L' b h' nx' hll hch S=>by
  have hh:=hk _ b h' nx' hch S
  rw[Fq,hll]at hh
  exact hh
 have hLs1:1≤Ls.length:=by
  have:=hI.z
  rw[hLs]at this
  cases Ls with
  |nil=>exact absurd this (by simp)
  |cons=>exact Nat.succ_pos _
 repeat' ((conv=>lhs;whnf);first
  |contradiction
  |exact(by omega:False).elim
  |refine Bq (y:=false) (show N.length*8≤1000000000 by omega) ?_
  |refine Bq (y:=false) (show N.length*1≤1000000000 by omega) ?_
  |refine Bq (y:=false) (show N.length≤1000000000 by omega) ?_
  |refine Ek Rf H7 (by decide) 0 ‹_› rfl rfl (fun h' S=>?_)
  |refine Ek Wi Je (by decide) false ‹_› rfl rfl (fun h' S=>?_)
  |refine zk1 ?_
  |(refine No (E:=⟨l,N,Ad (Ad nx),nx,Ad nx,p,off,cap,LL,r,cr⟩) (p:=0) (v:=0) (by omega) rfl rfl (TI.st2 ‹_›) (show 1≤1000000 by decide) (fun h' nx' T=>?_)
    obtain⟨_,_,_,lnv,XL,G,S⟩:=id T)
  |refine Tq hE (v:=0) (i:=1) (by omega) rfl rfl (hi1 (by omega)) (by omega) hF ‹_› (hb1 (by omega)) (fun h' nx' T=>?_)
  |refine Zz hE (i:=0) (by omega) rfl hm0.l hF ‹_› (fun h' nx' T=>?_)
  |refine Qt hE (v:=0) (by omega) rfl rfl (hlk (by omega)) (by omega) hF ‹_› (hb2 (by omega)) (fun h' nx' T=>?_)
  |refine M.rd1 (i:=0) (j:=0) ‹_› hF.m2 hm0.l (by decide) rfl rfl ?_
  |refine Ic Je (l:=List.replicate N.length false) ‹_› 2 rfl 0 (by rw[Fj];omega) true rfl rfl rfl (fun h' S=>?_)
  |(refine Br (L:=[2,7,41,42]) rfl (fun m vs d' h' nx'=>∃i:Nat,i≤N.length∧N.length-i=m∧TI ⟨l,N,Ad (Ad nx),nx,Ad nx,p,off,cap,LL,r,cr⟩ h' nx' (Lc N (Lm l) i) ((r,.row (N.flatMap Dy) 132)::(p,.row LL 54)::R)∧d'=[]∧vs=[.i .i64 (Int.ofNat (wid q)),.p (Ad (Ad nx)) 0,.i .i64 (Int.ofNat N.length),.i .i64 (.ofNat i)]) N.length (by omega) ⟨0,by omega,by omega,by first|exact hT1 (by omega) ‹_›|exact hT2 (by omega) ‹_› ‹_›,rfl,rfl⟩ ?_
    rintro m _ d' h' nx' ⟨i,hi,rfl,T,rfl,rfl⟩ k' hn' hx
    obtain⟨q1,q2,_,lnv2,XL2,G2,S⟩:=id T)
  |(refine kn_rd ‹_› (Am _ (Am _ (Aw ..))) (i:=i) (by rw[q1];show i<N.length;omega) ((Bf _).trans (Nat.mul_one _)) rfl ?_
    cases hkn:(Lc N (Lm l) i).kn.getD i false)
  |refine visit_eq hE (by omega) rfl rfl (show i<N.length by omega) (by have:=(hinv i (by omega)).lv i;omega) hF T (by rw[←hst i (by omega) hkn];exact hlen _ (by omega)) (fun h' nx' T=>?_)
  |exact hn' _ _ _ _ _ (by omega) ⟨i+1,by omega,rfl,by first|(rw[hst i (by omega) hkn];assumption)|(rw[hsf i (by omega) hkn];exact T),rfl,rfl⟩
  |(refine hx _ _ _ _ _ trivial ?_
    obtain rfl:i=N.length:=by omega
    rw[hLs]at G2
    rcases G2.inv with⟨_,e1,_⟩|⟨pp,rfl,rfl⟩
    · have:=hI.z;rw[hLs,e1]at this;exact absurd this (by simp)
    replace S:Sat h' nx' ((Ad (Ad nx),.row [.sl p off l.length cap,.sl r 0 N.length cr,.sl nx 0 N.length (.k N.length),.sl (Ad nx) 0 N.length (.k N.length),.sl pp 0 Ls.length (.u 2)] 219)::(nx,.row ((Lc N (Lm l) N.length).lv.flatMap Rf) 3)::(Ad nx,.row ((Lc N (Lm l) N.length).kn.flatMap Wi) 4)::(pp,.row (Ls.flatMap Js) 225)::(r,.row (N.flatMap Dy) 132)::(p,.row LL 54)::R):=S
    have hz0:=hI.z
    rw[hLs]at hz0
    clear hT1 hT2 hb1 hb2 e0 hi1 hlk hst hsf hlen hn' hx T q1 q2 hm0 hE hF M hI hc0 hinv hmk)
  |(refine sort_eq ‹_› 3 (by omega) rfl rfl hLs1 hI1 (fun x hx=>by have:=(hI2 x hx).1;omega) (by omega) (fun L' hp hs h' S=>?_)
    obtain⟨e2,e3,S⟩:∃e2 e3,Sat h' nx' ((Ad (Ad nx),.row [.sl p off l.length cap,.sl r 0 N.length cr,.sl nx 0 N.length (.k N.length),.sl (Ad nx) 0 N.length (.k N.length),.sl pp 0 Ls.length (.u 2)] 219)::e2::e3::(pp,.row (L'.flatMap Js) 225)::(r,.row (N.flatMap Dy) 132)::(p,.row LL 54)::R):=⟨_,_,S⟩
    have hll:L'.length=Ls.length:=hp.length_eq
    have hch:Chn 0 (wid q) (pcs L' (wid q) L'.length):=chn_pcs hs ((hp.map (·.1)).mem_iff.2 hz0) (fun x hx=>⟨(hI2 x (hp.mem_iff.1 hx)).1,by have:=(hI2 x (hp.mem_iff.1 hx)).2;omega⟩))
  |refine Bq (y:=false) (show Ls.length*24≤1000000000 by omega) ?_
  |refine Bq (y:=false) (show Ls.length≤1000000000 by omega) ?_
  |refine Ek Uy H6 (by decide) (0,0,0) ‹_› rfl rfl (fun h' S=>?_)
  |(refine Br (L:=[2,9,70,71,72]) rfl (fun m vs d' h2 nx2=>∃i:Nat,i≤L'.length∧L'.length-i=m∧Sat h2 nx2 ((nx',.row ((pcs L' (wid q) i).flatMap Uy) 102)::(Ad (Ad nx),.row [.sl p off l.length cap,.sl r 0 N.length cr,.sl nx 0 N.length (.k N.length),.sl (Ad nx) 0 N.length (.k N.length),.sl pp 0 Ls.length (.u 2)] 219)::e2::e3::(pp,.row (L'.flatMap Js) 225)::(r,.row (N.flatMap Dy) 132)::(p,.row LL 54)::R)∧d'=[]∧vs=[.i .i64 (Int.ofNat (wid q)),.sl nx' 0 Ls.length (.k Ls.length),.sl pp 0 Ls.length (.u 2),.i .i64 (Int.ofNat Ls.length),.i .i64 (.ofNat i)]) L'.length (by omega) ⟨0,by omega,by omega,by rw[pcs_0,hll];assumption,rfl,rfl⟩ ?_
    rintro m _ d' h' nx2 ⟨i,hi,rfl,S,rfl,rfl⟩ k' hn' hx)
  |(refine Gl Ha ‹_› (Am _ (Am _ (Am _ (Am _ (Aw ..))))) (off:=0) (by rw[List.drop_zero];exact Et (by rw[Az Ha];exact Ag _)) (by rw[Az Ha];omega) (by decide) i (by omega) rfl ?_
    have hil:i<L'.length:=by omega
    rcases(show i=0∨∃j,i=j+1 from by cases i with|zero=>exact .inl rfl|succ j=>exact .inr ⟨j,rfl⟩)with hi0|⟨j,rfl⟩)
  |refine Ic H6 ‹_› 1 rfl (j+1) (by rw[Fq];omega) (L'[j+1].1,wid q,L'[j+1].2) (Bf _) rfl rfl (fun h' S=>?_)
  |refine Ic H6 ‹_› 1 rfl i (by rw[Fq];omega) (L'[i].1,wid q,L'[i].2) (Bf _) rfl rfl (fun h' S=>?_)
  |refine ar_wr1 H6 ‹_› 1 rfl j (by rw[E8,Fq];omega) (L'[j].1,L'[j+1].1,L'[j].2) 1 (by show 0+(Int.ofNat (j+1)-1).toNat*3+1=j*3+1;rw[show(Int.ofNat (j+1)-1).toNat=j by simp only[Aj];omega];omega) (Aa rfl) (by rw[pcs_el];rfl) rfl (fun h' S=>?_)
  |exact hn' _ _ _ _ _ (by omega) ⟨i+1,by omega,rfl,(by subst hi0;rw[←pcs_1 hil];exact S.tail),rfl,rfl⟩
  |exact hn' _ _ _ _ _ (by omega) ⟨j+2,by omega,rfl,(by rw[←pcs_s hil];exact S.tail),rfl,rfl⟩
  |(refine hx _ _ _ _ _ trivial ?_
    obtain rfl:i=L'.length:=by omega)
  |exact hkP L' _ _ _ hll hch (S.sub (.cons_cons _ (Gf [_,_,_,_] _)))
  |contradiction
  |refine Be fun h' S=>?_
  |refine C8 fun h' S=>?_
  |refine Bj ?_
  |refine C9 ?_
  |refine Bi ?_
  |refine seqt ?_
  |refine Bg ?_
  |refine Bc ?_
  |refine Aq ?_
  |refine Ar ?_
  |refine Bh ?_
  |(first|refine C4 ?_ ?_|refine Dt ?_ ?_|refine Cu ?_ ?_|refine new ?_ ?_)<;>intro hc hz<;>(try simp only[Aj]at hz)<;>try rewrite [hc])
def dst (t:Tk):Int:=if kd t=1 then 1 else if kd t=2 then -1 else 0
theorem step_eq {n:Nat} (hn:3≤n) {t:Tk} {kp:KP} {h:H} {nx:Pos} {A:List Av} (S:Sat h nx A) {k:K} (hk:∀h' nx',Sat h' nx' A→k (.i .i64 (dst t)) h' nx'=true):Ai gg n kp (.fn 118 []) [.ag (Du t)] h nx k=true:=by
 have hk1:kd t=1→∀h' nx',Sat h' nx' A→k (.i .i64 1) h' nx'=true:=fun e h' nx' S=>by have:=hk h' nx' S;unfold dst at this;rwa [if_pos e]at this
 have hk2:kd t=2→∀h' nx',Sat h' nx' A→k (.i .i64 (-1)) h' nx'=true:=fun e h' nx' S=>by have:=hk h' nx' S;unfold dst at this;rwa [e,if_neg (by decide),if_pos rfl]at this
 have hk0:kd t≠1∧kd t≠2→∀h' nx',Sat h' nx' A→k (.i .i64 0) h' nx'=true:=fun e h' nx' S=>by have:=hk h' nx' S;unfold dst at this;rwa [if_neg e.1,if_neg e.2]at this
 refine Ab hn (by omega) fun m hm=>?_
 repeat' ((conv=>lhs;whnf);first
  |exact hk1 (Z3 ‹_› (by first|exact .inl ‹_›|exact .inr (.inl ‹_›)|exact .inr (.inr ‹_›))) _ _ (Sat.tail ‹_›)
  |exact hk2 (Ul ‹_› (by first|exact .inl ‹_›|exact .inr (.inl ‹_›)|exact .inr (.inr ‹_›))) _ _ (Sat.tail ‹_›)
  |exact hk0 (kd_oth (by first|exact .inl ‹_›|exact .inr ⟨⟨by assumption,by assumption,by assumption⟩,by assumption,by assumption,by assumption⟩)) _ _ (Sat.tail ‹_›)
  |(refine Gq (fun hc hz=>?_) (fun hc hz=>?_)<;>try rewrite [hc])
  |contradiction
  |refine Be fun h' S=>?_
  |refine C8 fun h' S=>?_
  |refine Bj ?_
  |refine C9 ?_
  |refine Bi ?_
  |refine seqt ?_
  |refine Bg ?_
  |refine Bc ?_
  |refine Aq ?_
  |refine Ar ?_
  |refine Bh ?_
  |(first|refine C4 ?_ ?_|refine Dt ?_ ?_|refine Cu ?_ ?_|refine new ?_ ?_)<;>intro hc hz<;>(try simp only[Aj]at hz)<;>try rewrite [hc])
theorem is_eq {n:Nat} (hn:3≤n) {t:Tk} {x:List Nat} {kp:KP} {h:H} {nx:Pos} {A:List Av} (S:Sat h nx A) {k:K} (hk:∀h' nx',Sat h' nx' A→k (.b (Gg t x)) h' nx'=true):Ai gg n kp (.fn 119 []) [.ag (Du t),.s x] h nx k=true:=by
 have hk1:t.c=7→t.t=x→∀h' nx',Sat h' nx' A→k (.b true) h' nx'=true:=fun e1 e2 h' nx' S=>by have:=hk h' nx' S;unfold Gg at this;rwa [decide_eq_true e1,decide_eq_true e2]at this
 have hk2:(t.c≠7∨t.t≠x)→∀h' nx',Sat h' nx' A→k (.b false) h' nx'=true:=fun e h' nx' S=>by
  have:=hk h' nx' S;unfold Gg at this
  rcases e with e|e
  · rwa [decide_eq_false e,Bx]at this
  · rwa [decide_eq_false e,Bw]at this
 refine Ab hn (by omega) fun m hm=>?_
 repeat' ((conv=>lhs;whnf);first
  |exact hk1 ‹_› ‹_› _ _ (Sat.tail ‹_›)
  |exact hk2 (by first|exact .inl ‹_›|exact .inr ‹_›) _ _ (Sat.tail ‹_›)
  |(refine Gq (fun hc hz=>?_) (fun hc hz=>?_)<;>try rewrite [hc])
  |contradiction
  |refine Be fun h' S=>?_
  |refine C8 fun h' S=>?_
  |refine Bj ?_
  |refine C9 ?_
  |refine Bi ?_
  |refine seqt ?_
  |refine Bg ?_
  |refine Bc ?_
  |refine Aq ?_
  |refine Ar ?_
  |refine Bh ?_
  |(first|refine C4 ?_ ?_|refine Dt ?_ ?_|refine Cu ?_ ?_|refine new ?_ ?_)<;>intro hc hz<;>(try simp only[Aj]at hz)<;>try rewrite [hc])
theorem begins_eq {n:Nat} (hn:8≤n) {t:Tk} {sc:Pos} {tau:List Nat→Bool} {c:Nat} {X:List Av} (hX:Tf sc tau c X) {kp:KP} {h:H} {nx:Pos} {A:List Av} (S:Sat h nx A) (hA:∀e∈X,e∈A) {k:K}
 (hk1:begB t tau→∀h' nx',Sat h' nx' A→k (.b true) h' nx'=true) (hk2:¬begB t tau→∀h' nx',Sat h' nx' A→k (.b false) h' nx'=true):Ai gg n kp (.fn 108 []) [.ag (Du t),.p sc 0] h nx k=true:=by
 refine Ab hn (by omega) fun m hm=>?_
 repeat' ((conv=>lhs;whnf);first
  |exact hk1 (.inl ‹_›) _ _ (Sat.tail ‹_›)
  |exact hk1 (.inr ⟨by assumption,by assumption⟩) _ _ (Sat.tail ‹_›)
  |exact hk2 (fun c=>by rcases c with c|c;exact absurd c ‹_›;exact absurd c.1 ‹_›) _ _ (Sat.tail ‹_›)
  |exact hk2 (fun c=>by rcases c with c|c;exact absurd c ‹_›;exact absurd c.2 (by rw[ht];decide)) _ _ (Sat.tail ‹_›)
  |(refine Xx (by omega) hX ‹_› (fun e he=>Am _ (hA e he)) ?_
    cases ht:tau t.t)
  |contradiction
  |refine Be fun h' S=>?_
  |refine C8 fun h' S=>?_
  |refine Bj ?_
  |refine C9 ?_
  |refine Bi ?_
  |refine seqt ?_
  |refine Bg ?_
  |refine Bc ?_
  |refine Aq ?_
  |refine Ar ?_
  |refine Bh ?_
  |(first|refine C4 ?_ ?_|refine Dt ?_ ?_|refine Cu ?_ ?_|refine new ?_ ?_)<;>intro hc hz<;>(try simp only[Aj]at hz)<;>try rewrite [hc])
end Go.CE
