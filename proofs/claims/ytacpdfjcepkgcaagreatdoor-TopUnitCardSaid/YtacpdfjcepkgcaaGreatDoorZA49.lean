/- Part 49 of the lemmas behind the claim. -/
import Derived.Test.YtacpdfjcepkgcaaGreatDoorZA01
import Derived.Test.YtacpdfjcepkgcaaGreatDoorZA47
import Derived.Test.YtacpdfjcepkgcaaGreatDoorZA48
set_option linter.unusedSimpArgs false
set_option linter.unusedVariables false
set_option linter.constructorNameAsVariable false
set_option linter.unusedSectionVars false
set_option linter.defProp false
set_option maxRecDepth 100000
set_option maxHeartbeats 40000000
namespace Go.CE
open Go Go.Ps Go.Proofs.YtacpdfjcepkgcaaGreatDoor
attribute [local irreducible] loopK Tt Ai K0 N2 Dg fits rd rd1 wr newC Kj Fk Fa Ve Oe Kq eqA
theorem ROK.m3 {R:REnv} {A:List Av} (h:ROK R A) {e1 e2 e3:Av}:ROK R (e1::e2::e3::A):=h.mono fun e he=>.tail _ (.tail _ (.tail _ he))
structure Gp where
 w:Int
 b:Int
 mu:Bool
 ma:Bool
 c:Int
 i:Int
def Aal (g:Gp):List AV:=[.i .i64 g.w,.i .i64 g.b,.b g.mu,.b g.ma,.i .i64 g.c,.i .i64 g.i]
theorem U0 (g:Gp):(Aal g).length=6:=rfl
def Gp.ok (g:Gp):Prop:=g.mu=true→g.ma=true
theorem side_at {D:List (Tk×Int×Int)} (hD:∀x∈D,x.1.t.length≤20004) (i:Nat):∃x:Tk×Int×Int,(i<D.length→D[i]?=some x)∧x.1.t.length≤20004:=by
 by_cases h:i<D.length
 · exact⟨D[i],fun _=>B8 h,hD _ (D8 h)⟩
 · exact⟨(⟨0,[]⟩,0,0),fun c=>absurd c h,B9 _⟩
theorem ex_snoc {α:Type} {es ty:Nat} {f:α→List AV} (p:Pos) (l:List α) (a:α):ExA es ty f (.sl p 0 (l.length+1) (.u es)) (l++[a]) [(p,.row ((l++[a]).flatMap f) ty)]:=by
 have:=ExA.row (es:=es) (ty:=ty) (f:=f) p (l++[a])
 rw[Bb]at this
 exact this
theorem ones_g {a b c:Nat} {pa:Pos} {n:Nat} {gv:AV} (h:Yz gv=true):Gt [iA a,iA b,.b true,iA c,.sl pa 0 n (.u 1),gv]=true:=by
 cases gv<;>first|rfl|exact Bool.noConfusion h
theorem min_w {a b:Int} {k:AV→Bool} (h:∀z:Int,k (.i .i64 z)=true):iMin (.i .i64 a) (.i .i64 b) k=true:=by
 show fB (K0 a b) (k (.i .i64 a)) (k (.i .i64 b))=true
 cases K0 a b
 · exact h b
 · exact h a
attribute [local irreducible] iMin
theorem line_ok {R:REnv} {A:List Av} (hR:ROK R A) {pf w:Nat} {D:List (Tk×Int×Int)} (hD:D.length=w) (hDt:∀x∈D,x.1.t.length≤20004) {sp:Pos} (hsp:(sp,.row (D.flatMap My) 171)∈A) {c:Pc} (h1:pf≤c.1) (h2:c.1<c.2.1) (h3:c.2.1≤pf+w) (h4:pf+w≤R.B.length) (h5:c.2.2≤500000) {n:Nat} (hn:2000300≤n) {z:Int} (hG:(Ay 2,OB.raw (R5 z))∈A) {kp:KP} {h:H} {nx:Pos} (S:Sat h nx A) {k:K}
 (hk:∀(T:List (List Nat)) (L:List Gp) pa gv X h' nx',T.length=c.2.1-c.1→(∀g∈L,g.ok)→L.length≤20000→ExA 6 50 Aal gv L X→Sat h' nx' ((pa,.row (T.flatMap R9) 9)::(X++A))→k (.ag [iA c.1,iA c.2.1,.b true,iA c.2.2,.sl pa 0 T.length (.u 1),gv]) h' nx'=true):Ai gg n kp (.fn 29 []) [.p R.rp 0,.ag (Uy c),iA pf,.sl sp 0 w (.k w)] h nx k=true:=by
 have hbn:=hR.bn
 have hr:=hR.r
 obtain⟨cf,ct,cl⟩:=c
 dsimp only at h1 h2 h3 h4 h5 hk
 have hz1:=hR.s1
 have hz2:=hR.s2
 have hm1:0≤Int.ofNat cl*R.z 1∧Int.ofNat cl*R.z 1≤8000000:=by
  have a1:(0:Int)≤Int.ofNat cl:=Fw _
  have a2:Int.ofNat cl≤500000:=by simp only[Aj];omega
  refine⟨Int.mul_nonneg a1 hz1.1,Int.le_trans (Int.mul_le_mul a2 hz1.2 hz1.1 (by decide)) (by decide)⟩
 have hm2:∀o:Int,0≤o→o≤20000→0≤(o+1) * R.z 2∧(o+1) * R.z 2≤320016:=fun o o1 o2=>
  ⟨Int.mul_nonneg (by omega) hz2.1,Int.le_trans (Int.mul_le_mul (show o+1≤20001 by omega) hz2.2 hz2.1 (by decide)) (by decide)⟩
 refine Ab hn (by omega) fun m hm=>?_
 repeat' ((conv=>lhs;whnf);first
  |exact(by omega:False).elim
  |(refine atom_ok hR.m3 (i:=cf) (by omega) rfl (by omega) ‹_› (fun ox ow oc oe h' p10 S=>?_))
  |refine zk1 ?_
  |refine A6 ‹_› (.row [.s ox] 9) (Xy _ 9) (fun h' S=>?_)
  |refine A6 ‹_› (.row [.s tx] 9) (Xy _ 9) (fun h' S=>?_)
  |refine A6 ‹_› (.row _ 50) (Dq (Aal ⟨_,_,_,_,_,_⟩) 50) (fun h' S=>?_)
  |refine Jd (te:=ti49) U0 (A:=A) [_,_,_,_,_,_,_,_,_,_] ⟨_,_,_,_,_,_⟩ S hg rfl rfl (by omega) (fun h' pg S=>?_)
  |refine Jd (te:=ti9) (l:=T) (A:=(pg,_)::A) K9 [_,_,_,_,_,_,_,_,_,_] tx S (ExA.row pa T) rfl rfl (by omega) (fun h' pa2 S=>?_)
  |(refine hn' _ _ _ _ (ct-1-(at'+1)) (by omega) ⟨at'+1,T++[tx],L++[_],pa2,.sl pg 0 (L.length+1) (.u 6),[(pg,_)],_,tx,tw,tc,te,by omega,by omega,rfl,by rw[Bb,hT];show _+1=_;omega,by rw[Bb,hL];show _+1=_;omega,?_,ex_snoc pg L _,?_,?_,?_,by rw[Bb];exact Sat.right (C:=[_,_,_,_,_,_]) S,rfl,rfl⟩
    · exact fun g hg=>(D9.1 hg).elim (hLo g) (fun h=>by rw[Co.1 h];first|exact fun _=>rfl|exact fun h=>h)
    all_goals (have ho4:=ho3;simp only[Aj]at ho4 ⊢;omega))
  |refine hx _ _ _ _ _ trivial ?_
  |refine Au S 2 rfl (Aa rfl) hon (fun h' S=>?_)
  |exact hk T L pa gv X _ _ (by omega) hLo (by omega) hg (Sat.right (C:=[_,_,_,_]) S)
  |refine Jd (te:=ti9) (l:=[]) (X:=[]) (A:=A) K9 [_,_,_,_,_] ox ‹_› .nil rfl rfl (Aa rfl) (fun h' pa S=>?_)
  |(refine Br (L:=[0,2,3,5,8,9,10,11,12]) rfl (fun m vs d' h' nx'=>∃(at':Nat) (T:List (List Nat)) (L:List Gp) (pa:Pos) (gv:AV) (X:List Av) (op:Int) (ox:List Nat) (ow:Int) (oc oe:Bool),cf≤at'∧at'+1≤ct∧ct-1-at'=m∧T.length=at'+1-cf∧L.length=at'-cf∧(∀g∈L,g.ok)∧ExA 6 50 Aal gv L X∧0≤op∧op≤20000∧op≤Int.ofNat at'-Int.ofNat cf∧Sat h' nx' ((p10,.row [.s ox,.i .i64 ow,.b oc,.b oe] 173)::(Ad (Ad nx),.row [iA cf,iA ct,.b true,iA cl,.sl pa 0 T.length (.u 1),gv] 48)::(Ad nx,.row (Vo ti47.zero) 48)::(nx,.row (Uy (cf,ct,cl)) 102)::(pa,.row (T.flatMap R9) 9)::(X++A))∧d'=[]∧vs=[.p R.rp 0,iA pf,.sl sp 0 w (.k w),.p nx 0,.p (Ad nx) 0,.p (Ad (Ad nx)) 0,.p p10 0,.i .i64 op,iA at']) (ct-1-cf) (by omega) ⟨cf,[ox],[],pa,.sl0,[],0,ox,ow,oc,oe,by omega,by omega,rfl,by show 1=cf+1-cf;omega,by show 0=cf-cf;omega,fun g hg=>(nomatch hg),.nil,by decide,by decide,by omega,Sat.tail ‹_›,rfl,rfl⟩ ?_
    rintro m _ d' h' nx' ⟨at',T,L,pa,gv,X,op,ox,ow,oc,oe,ha1,ha2,rfl,hT,hL,hLo,hg,ho1,ho2,ho3,S,rfl,rfl⟩ k' hn' hx
    have hs1:(Int.ofNat at'-Int.ofNat pf:Int)=Int.ofNat (at'-pf):=by simp only[Aj];omega
    have hs2:(Int.ofNat at'+1-Int.ofNat pf:Int)=Int.ofNat (at'+1-pf):=by simp only[Aj];omega
    have hgs:=hg.sim
    have hon:=ones_g (a:=cf) (b:=ct) (c:=cl) (pa:=pa) (n:=T.length) hgs
    obtain⟨sa,hsa,hsa1⟩:=side_at hDt (at'-pf)
    obtain⟨sb,hsb,hsb1⟩:=side_at hDt (at'+1-pf)
    have hq0:=hm2 op ho1 ho2
    have hq1:=hm2 (op+1) (by omega) (by simp only[Aj]at *;omega)
    have hq2:0<op→0≤(op-1+1) * R.z 2∧(op-1+1) * R.z 2≤320016:=fun h=>hm2 (op-1) (by omega) (by omega))
  |(refine Bv (by(try simp only[Aj]at *);omega) ?_
    first|rw[hs1]|rw[hs2])
  |refine Rr Nw ‹_› (by repeat(first|exact hsp|exact A3 _ hsp|refine .tail _ ?_)) (by decide) (at'-pf) (hsa (by omega)) (Bf _) ?_
  |refine Rr Nw ‹_› (by repeat(first|exact hsp|exact A3 _ hsp|refine .tail _ ?_)) (by decide) (at'+1-pf) (hsb (by omega)) (Bf _) ?_
  |refine eqag ?_
  |refine min_w (fun iz=>?_)
  |refine Mt (x:=sa) (z:=z) (by omega) (Aa rfl) (by omega) S (by repeat(first|exact hG|exact A3 _ hG|refine .tail _ ?_)) (fun q h' nx' S=>?_)<;>cases q
  |(refine atom_ok (hR.mono (fun e he=>by repeat(first|exact he|exact A3 _ he|refine .tail _ ?_))) (i:=at'+1) (by omega) rfl (by omega) S (fun tx tw tc te h' p15 S=>?_))
  |(refine blanks_ok (hR.mono (fun e he=>by repeat(first|exact he|exact A3 _ he|refine .tail _ ?_))) (i:=at') (a:=sa) (b:=sb) (z:=z) (by omega) rfl (by omega) (by omega) (by omega) (by repeat(first|exact hG|exact A3 _ hG|refine .tail _ ?_)) S (fun bv h' nx' S=>?_))
  |(refine price_ok (hR.mono (fun e he=>by repeat(first|exact he|exact A3 _ he|refine .tail _ ?_))) (a:=sa) (b:=sb) (z:=z) (by omega) (by omega) (by omega) (by repeat(first|exact hG|exact A3 _ hG|refine .tail _ ?_)) S (fun pv pc h' nx' S=>?_))<;>cases pc
  |refine A5 ‹_› (by repeat(first|exact hr|exact A3 _ hr|refine .tail _ ?_)) (Aa rfl) ?_
  |contradiction
  |(refine Be fun h' S'=>?_;(try clear S);revert S';intro S)
  |(refine C8 fun h' S'=>?_;(try clear S);revert S';intro S)
  |refine Bj ?_
  |refine C9 ?_
  |refine Bi ?_
  |refine seqt ?_
  |refine Bg ?_
  |refine Bc ?_
  |refine Aq ?_
  |refine Ar ?_
  |refine Bh ?_
  |(first|refine C4 ?_ ?_|refine Dt ?_ ?_|refine Cu ?_ ?_|refine new ?_ ?_)<;>intro hc hz<;>(try simp only[Aj]at hz)<;>try rewrite [hc])
end Go.CE
