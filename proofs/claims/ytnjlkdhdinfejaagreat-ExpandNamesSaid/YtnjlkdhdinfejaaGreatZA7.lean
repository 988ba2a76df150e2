/- Part 7 of the lemmas behind the claim: YO, YP, L2, L3, L4, L5, A1, A2, C1, C2, C3, D1, T1, T2, T3, T4, J1, J2, U14, H2, GJ, U13, UB, S3, U15, U16, U17, YQ, YR, YS, YT. -/
import Derived.Test.YtnjlkdhdinfejaaGreatZA6
import Derived.Shelf.Strings.OnBuilder
import Derived.Test.YtnjlkdhdinfejaaGreatProg
set_option linter.unusedSimpArgs false
set_option linter.unusedVariables false
set_option maxHeartbeats 4000000
set_option maxRecDepth 100000
namespace Go.Proofs.YtnjlkdhdinfejaaGreat
open Go.GV Go.RowKit
def tblYO:Tbl:=[([],[0,4,6,7]),([0],[1,4,6,7]),([4],[0,6,7]),([6],[0,4,7]),([7],[0,4,6]),([0,1],[2,4,6,7]),([0,4],[1,6,7]),([0,6],[1,4,7]),([0,7],[1,4,6]),([4,6],[0,7]),([4,7],[0,6]),([6,7],[0,4]),([0,1,2],[3,4,6,7]),([0,1,4],[2,5,6,7]),([0,1,6],[2,4,7]),([0,1,7],[2,4,6]),([0,4,6],[1,7]),([0,4,7],[1,6]),([0,6,7],[1,4]),([4,6,7],[0]),([0,1,2,3],[4,6,7]),([0,1,2,4],[3,5,6,7]),([0,1,2,6],[3,4,7]),([0,1,2,7],[3,4,6]),([0,1,4,5],[2,6,7]),([0,1,4,6],[2,5,7]),([0,1,4,7],[2,5,6]),([0,1,6,7],[2,4]),([0,4,6,7],[1]),([0,1,2,3,4],[5,6,7]),([0,1,2,3,6],[4,7]),([0,1,2,3,7],[4,6]),([0,1,2,4,5],[3,6,7]),([0,1,2,4,6],[3,5,7]),([0,1,2,4,7],[3,5,6]),([0,1,2,6,7],[3,4]),([0,1,4,5,6],[2,7]),([0,1,4,5,7],[2,6]),([0,1,4,6,7],[2,5]),([0,1,2,3,4,5],[6,7]),([0,1,2,3,4,6],[5,7]),([0,1,2,3,4,7],[5,6]),([0,1,2,3,6,7],[4]),([0,1,2,4,5,6],[3,7]),([0,1,2,4,5,7],[3,6]),([0,1,2,4,6,7],[3,5]),([0,1,4,5,6,7],[2]),([0,1,2,3,4,5,6],[7]),([0,1,2,3,4,5,7],[6]),([0,1,2,3,4,6,7],[5]),([0,1,2,4,5,6,7],[3]),([0,1,2,3,4,5,6,7],[8])]
abbrev lOw (bm bp:Nat) (l:Int) (N:Nms) (vw:Vw) (p:Option Addr) (k:Int) (T:List TV):GV.Own:=
 (6,.row 87 (tvY.d T))::(5,.box 82 [.v (.pointer p),.v (.int .i64 k)])::(2,.box 95 [.v (.pointer vw.p),.v (.int .i64 vw.k),.v (.pointer vw.q),.v (.int .i64 vw.j)])::xOw bm bp l N
theorem VwX.len {u:Im} {v:Vw} {X:List XT} (h:VwX u v X):(v.p=v.q∧v.k=v.j)↔X.length=0:=by
 obtain⟨P,n,h1,h2,h3,h4⟩:=h
 have:=h1.same h2 h3
 rw[this,←h4.len,List.length_take]
 omega
theorem idI_lt:∀(L:List ByteArray) (s:ByteArray) (i j:Nat),idI L s i=some j→j<i+L.length
 |[],_,_,_,h=>by cases h
 |x::L,s,i,j,h=>by
  rw[idI]at h
  split at h
  cases h;rw[List.length_cons];omega
  have:=idI_lt L s (i+1) j h
  rw[List.length_cons];omega
theorem calX_lt {inM:ByteArray→Bool} {NS NS2:List ByteArray} {kind:Int} {text:ByteArray} {hide i:Nat} (h:calX inM NS kind text hide=(NS2,some i)):i<NS2.length:=by
 unfold calX at h
 split at h
 cases hid:idI NS text 0 with
 |some j=>
  rw[hid]at h
  simp only[Prod.mk.injEq]at h
  obtain⟨rfl,h⟩:=h
  split at h
  cases h
  cases h
  have:=idI_lt _ _ _ _ hid
  omega
 |none=>
  rw[hid]at h
  simp only at h
  split at h
  simp only[Prod.mk.injEq]at h
  obtain⟨rfl,h⟩:=h
  split at h
  cases h
  cases h
  rw[List.length_append,List.length_singleton];omega
  cases h
 cases h
theorem calX_len {inM:ByteArray→Bool} {NS NS2:List ByteArray} {kind:Int} {text:ByteArray} {hide:Nat} {oi:Option Nat} (h:calX inM NS kind text hide=(NS2,oi)):NS2.length≤NS.length+1:=by
 unfold calX at h
 split at h
 cases hid:idI NS text 0 with
 |some j=>
  rw[hid]at h
  simp only[Prod.mk.injEq]at h
  rw[←h.1];omega
 |none=>
  rw[hid]at h
  simp only at h
  split at h
  simp only[Prod.mk.injEq]at h
  rw[←h.1,List.length_append,List.length_singleton];omega
  simp only[Prod.mk.injEq]at h
  rw[←h.1];omega
 simp only[Prod.mk.injEq]at h
 rw[←h.1];omega
theorem vwX_push {K v:Im} {b:Nat} {A:Addr} {c:Nat} {rp q:Option Addr} {rk j:Int} {T:List TV} {X Y:List XT} (h:VwX K ⟨rp,rk,q,j⟩ Y) (hK:K.sub v) (hb:K.h b=none) (hc:v.h b=some (.cells #[.slice (some A) T.length c,.pointer rp,.int .i64 rk] 84 (0,0)))
 (hA:A.spot=none) (hT:Aw v (.slice (some A) T.length c) (tvY.d T)) (h0:0<T.length) (hX:TksR v T X):VwX v ⟨some ⟨b,0,none⟩,0,q,j⟩ (X++Y):=by
 obtain⟨P,n,h1,h2,h3,h4⟩:=h
 have h1:Ck K rp rk P:=h1
 have h2:Ck K q j (Cc n P):=h2
 have e:Cc (T.length+n) ((b,T,0)::P)=Cc n P:=adv_out T.length b T 0 P n (by omega) h0
 refine⟨(b,T,0)::P,T.length+n,⟨rfl,rfl,h0,fun x hx e=>?_,A,c,rp,rk,hc,hA,hT,h1.sub hK⟩,?_,?_,?_⟩
 have:=h1.known x hx
 rw[e,hb]at this
 exact this rfl
 show Ck v q j _
 rw[e];exact h2.sub hK
 rw[Bi,List.drop_zero,List.length_append];omega
 rw[Bi,List.drop_zero,List.take_append,List.take_of_length_le (by omega),show T.length+n-T.length=n by omega]
 exact hX.append (h4.sub hK)
theorem call_none {u0:Im} {p q:Option Addr} {k j:Int} {P:Stk} {n:Nat} {X:List XT} {ad:Addr} {id:Nat} {m:MT} {sa:MA} {I:List IV} {U:List Bool} (hcx:callX m.ps.length m.va X=none) (xv:Value) (hpl:PlanAt u0 ad id m sa I U) (hp:Ck u0 p k P) (hq:Ck u0 q j (Cc n P)) (hn:n≤(Bi P).length)
 (hX:TksR u0 ((Bi P).take n) X) (hn0:0<n) (hz:n≤1000000) (hps:m.ps.length≤1000000) (w:World) (hw:u0.sub (im w)) :
 Calls Tryz.prog 72 #[xv,.pointer (some ad),vwV p k q j] w (Bc w fun v _=>v=.tuple #[.agg #[.slice none 0 0,.pointer none,.pointer none,.int .i64 0],.int .i64 60]):=by
 have:=call_any xv hpl hp hq hn hX hn0 hz hps w hw
 rw[hcx]at this
 exact this
theorem call_some {u0:Im} {p q:Option Addr} {k j:Int} {P:Stk} {n:Nat} {X:List XT} {ad:Addr} {id:Nat} {m:MT} {sa:MA} {I:List IV} {U:List Bool} {c:CallX} (hcx:callX m.ps.length m.va X=some c) (xv:Value) (hpl:PlanAt u0 ad id m sa I U) (hp:Ck u0 p k P) (hq:Ck u0 q j (Cc n P)) (hn:n≤(Bi P).length)
 (hX:TksR u0 ((Bi P).take n) X) (hn0:0<n) (hz:n≤1000000) (hps:m.ps.length≤1000000) (w:World) (hw:u0.sub (im w)) :
 Calls Tryz.prog 72 #[xv,.pointer (some ad),vwV p k q j] w (Bc w fun v u1=>∃A L cc hp ap ak,v=.tuple #[.agg #[.slice A (List.length L) cc,.pointer hp,.pointer ap,.int .i64 ak],.int .i64 0]∧Nw u0 u1 (fun u=>Aw u (.slice A (List.length L) cc) (vwY.d L)∧VwsX u L c.args∧Bk u hp c.close.hide∧VwX u ⟨ap,ak,q,j⟩ c.rest)):=by
 have:=call_any xv hpl hp hq hn hX hn0 hz hps w hw
 rw[hcx]at this
 exact this
theorem list_step {M:ME} {bm nm f:Nat} (hC:∀g,g<f→ListC M bm nm g):ListC M bm nm f:=by
 intro u0 bp N left vw X0 hG hM hN hV hns
 refine x_scx Aa Tryz.func38 O O O O (fun us hus=>?_)
 obtain⟨RL,hRL⟩:∃RL,RL=listX (msOf M) f (N.map (·.1)) left X0 []:=⟨_,rfl⟩
 rw[←hRL]at hns ⊢
 refine Az (Ao Aa ?_)
 refine Az (Ao Aa ?_)
 refine x_nil 6 87 tvY rfl ?_
 refine Az (Ao Aa ?_)
 refine Br (σ:=Nat×Nms×Nat×Option Addr×Int×List TV) (fun(g,N1,l1,p,k,T)=>⟨[(7,.p 5 0),(6,.r 6),(3,.p 2 0),(0,.p 0 0)],[],lOw bm bp l1 N1 vw p k T,7⟩)
  (fun(g,N1,l1,p,k,T) u=>g≤f∧∃Xr Xo,Nw u0 (dif us u) (fun v=>PSt v M N1∧VwX v ⟨p,k,vw.q,vw.j⟩ Xr∧TksR v T Xo)∧listX (msOf M) g (N1.map (·.1)) l1 Xr Xo=RL)
  (fun(g,_,_,_,_,_)=>g) (fun _=>by show 5≤7;omega) (f,N,left,vw.p,vw.k,[]) [(5,some 4),(6,some 3)] .z
  ⟨Nat.le_refl _,X0,[],fun v a _=>⟨hN.sub a,hV.sub a,trivial⟩,hRL.symm⟩ ?_
 rintro⟨g,N1,l1,p,k,T⟩ u hu ⟨hgf,Xr,Xo,g3,g4⟩
 have hsub:u0.sub u:=hus.trans hu.sub
 have hj0:=joinI_old u0 (dif us u)
 have hj1:(dif us u).sub (Bf u0 (dif us u)):=joinI_new hus
 have hj2:(Bf u0 (dif us u)).sub u:=Bn hsub (Bl us u)
 obtain⟨p1,p2,p3⟩:=g3 _ hj0 hj1
 obtain⟨g,rfl⟩:∃g',g=g'+1:=by
  cases g with
  |zero=>exact absurd g4.symm hns
  |succ g'=>exact⟨g',rfl⟩
 have hszs:Xr.length≤100000∧Xo.length≤100000∧(N1.map (·.1)).length≤100000∧l1≤100000:=by
  by_cases h:Xr.length≤100000∧Xo.length≤100000∧(N1.map (·.1)).length≤100000∧l1≤100000
  exact h
  rw[listX,stepX,if_neg h]at g4
  exact absurd g4.symm hns
 obtain⟨z1,z2,z3,z4⟩:=hszs
 rw[List.length_map]at z3
 rw[listX,stepX,if_pos ⟨z1,z2,by rw[List.length_map];exact z3,z4⟩]at g4
 have hTl:=p3.len
 have hsame:=p2.len
 have hblk:BlkAt u p∧BlkAt u vw.q:=by
  obtain⟨P,n,h1,h2,_⟩:=p2
  exact⟨h1.blk.sub hj2,h2.blk.sub hj2⟩
 refine Az (Az (Ao Aa ?_))
 refine xl_binV (.bool (!(decide (p=vw.q)&&decide (k=vw.j)))) O O O O O O (fun w=>eqGuardPl _ _ _ _ _ _ w) (fun _ w' hw'=>run_nePl hw' hblk.1 hblk.2 k vw.j) ?_
 refine Ab Aa ?_
 refine Ao Aa ?_
 refine Ap (fun h1=>?_) (fun h1=>?_)
 have h1:(!(decide (p=vw.q)&&decide (k=vw.j)))=true:=h1
 obtain⟨x,Xr,rfl⟩:∃x R,Xr=x::R:=by
  cases Xr with
  |cons a b=>exact⟨a,b,rfl⟩
  |nil=>
   have:=hsame.2 rfl
   rw[decide_eq_true this.1,decide_eq_true this.2]at h1
   cases h1
 obtain⟨P,n,q1,q2,q3,q4⟩:=p2
 have hn0:0<n:=by
  cases n with
  |zero=>rw[List.take_zero]at q4;exact q4.elim
  |succ n=>omega
 obtain⟨n,rfl⟩:∃n',n=n'+1:=⟨n-1,by omega⟩
 obtain⟨pb,PT,pi,PR,rfl⟩:=stk_pos (P:=P) (by omega)
 have hpi:pi<PT.length:=q1.2.2.1
 obtain⟨tad,ht1,ht2⟩:=token_any q1
 obtain⟨p',k',hn1,hn2⟩:=next_any q1 (by simp)
 obtain⟨t,ht⟩:∃t,t=PT.getD pi tv0:=⟨_,rfl⟩
 rw[←ht]at ht1
 have hPT:PT[pi]?=some t:=by rw[ht,List.getD_eq_getElem?_getD,List.getElem?_eq_getElem hpi];rfl
 have htk:Bi ((pb,PT,pi)::PR)=t::(PT.drop (pi+1)++Bi PR):=by
  rw[Bi,drop_cons hPT];rfl
 obtain⟨hlo1,hlo2⟩:=q1.low
 have hnx:Bi (nxtP ((pb,PT,pi)::PR))=PT.drop (pi+1)++Bi PR:=by rw[toksP_nxt hlo2,htk];rfl
 have q4':=q4
 rw[htk,List.take_succ_cons]at q4'
 obtain⟨htx,q5⟩:=q4'
 have hVr:VwX (Bf u0 (dif us u)) ⟨p',k',vw.q,vw.j⟩ Xr:=⟨nxtP ((pb,PT,pi)::PR),n,hn1,q2,by
  rw[hnx]
  rw[htk,List.length_cons]at q3
  omega,by rw[hnx];exact q5⟩
 refine x_cut (σ:=Nat×Nms×Nat×Option Addr×Int×List TV) (fun(_,N1,l1,p,k,T)=>⟨[(7,.p 5 0),(6,.r 9),(3,.p 2 0),(0,.p 0 0)],[],(9,.row 87 (tvY.d T))::(5,.box 82 [.v (.pointer p),.v (.int .i64 k)])::(2,.box 95 [.v (.pointer vw.p),.v (.int .i64 vw.k),.v (.pointer vw.q),.v (.int .i64 vw.j)])::xOw bm bp l1 N1,10⟩)
  (fun(g1,N1,l1,p,k,T) u=>g1<g+1∧∃Xr Xo,Nw u0 (dif us u) (fun v=>PSt v M N1∧VwX v ⟨p,k,vw.q,vw.j⟩ Xr∧TksR v T Xo)∧listX (msOf M) g1 (N1.map (·.1)) l1 Xr Xo=RL) (fun _=>by show 7≤10;omega) ?_ ?_
 refine x_block ?_
 refine Az ?_
 refine x_via (σ:=Unit) (fun _=>⟨[(8,.p 7 0),(9,.p 8 0),(7,.p 5 0),(6,.r 6),(3,.p 2 0),(0,.p 0 0)],[],(7,.box 87 ((tkC t).map .v))::(8,.box 82 [.v (.pointer p'),.v (.int .i64 k')])::lOw bm bp l1 N1 vw p k T,9⟩) (fun _ _=>True) (fun _=>by show 7≤9;omega) ?_ ?_
 refine Bw mix ?_
 refine xa_fam (fuel:=2) (N:=8) tblYO (fun D=>⟨selD D [(0,(23,.v (plV p k))),(1,(24,.v (.pointer (some tad)))),(2,(25,.v (.pointer (some tad)))),(3,(26,.v (.agg (tkC t).toArray))),(4,(27,.v (plV p k))),(5,(28,.v (plV p' k'))),(6,(8,.p 7 0)),(7,(9,.p 8 0))]++[(7,.p 5 0),(6,.r 6),(3,.p 2 0),(0,.p 0 0)],[],selO D [(7,[(6,.box 87 [.v (.int .i64 0),.v (.string ⟨#[]⟩),.v (.bool false),.v (.slice none 0 0),.v (.pointer none)])]),(8,[(7,.box 82 [.v (.pointer none),.v (.int .i64 0)])])]++lOw bm bp l1 N1 vw p k T++selN D [],9⟩) (fun D i=>insD i D) rfl (by kernel_rfl) (by kernel_rfl) (by kernel_rfl) [] .z (fun _=>by show 7≤9;omega) ?_ [0,1,2,3,4,5,6,7] (by kernel_rfl) (fun u9 hu9=>?_)
 refine And.intro (And.intro ?_ (And.intro ?_ (And.intro ?_ (And.intro ?_ (trivial))))) (And.intro (And.intro ?_ (And.intro ?_ (And.intro ?_ (And.intro ?_ (trivial))))) (And.intro (And.intro ?_ (And.intro ?_ (And.intro ?_ (trivial)))) (And.intro (And.intro ?_ (And.intro ?_ (And.intro ?_ (trivial)))) (And.intro (And.intro ?_ (And.intro ?_ (And.intro ?_ (trivial)))) (And.intro (And.intro ?_ (And.intro ?_ (And.intro ?_ (And.intro ?_ (trivial))))) (And.intro (And.intro ?_ (And.intro ?_ (And.intro ?_ (trivial)))) (And.intro (And.intro ?_ (And.intro ?_ (And.intro ?_ (trivial)))) (And.intro (And.intro ?_ (And.intro ?_ (And.intro ?_ (trivial)))) (And.intro (And.intro ?_ (And.intro ?_ (trivial))) (And.intro (And.intro ?_ (And.intro ?_ (trivial))) (And.intro (And.intro ?_ (And.intro ?_ (trivial))) (And.intro (And.intro ?_ (And.intro ?_ (And.intro ?_ (And.intro ?_ (trivial))))) (And.intro (And.intro ?_ (And.intro ?_ (And.intro ?_ (And.intro ?_ (trivial))))) (And.intro (And.intro ?_ (And.intro ?_ (And.intro ?_ (trivial)))) (And.intro (And.intro ?_ (And.intro ?_ (And.intro ?_ (trivial)))) (And.intro (And.intro ?_ (And.intro ?_ (trivial))) (And.intro (And.intro ?_ (And.intro ?_ (trivial))) (And.intro (And.intro ?_ (And.intro ?_ (trivial))) (And.intro (And.intro ?_ (trivial)) (And.intro (And.intro ?_ (And.intro ?_ (And.intro ?_ (trivial)))) (And.intro (And.intro ?_ (And.intro ?_ (And.intro ?_ (And.intro ?_ (trivial))))) (And.intro (And.intro ?_ (And.intro ?_ (And.intro ?_ (trivial)))) (And.intro (And.intro ?_ (And.intro ?_ (And.intro ?_ (trivial)))) (And.intro (And.intro ?_ (And.intro ?_ (And.intro ?_ (trivial)))) (And.intro (And.intro ?_ (And.intro ?_ (And.intro ?_ (trivial)))) (And.intro (And.intro ?_ (And.intro ?_ (And.intro ?_ (trivial)))) (And.intro (And.intro ?_ (And.intro ?_ (trivial))) (And.intro (And.intro ?_ (trivial)) (And.intro (And.intro ?_ (And.intro ?_ (And.intro ?_ (trivial)))) (And.intro (And.intro ?_ (And.intro ?_ (trivial))) (And.intro (And.intro ?_ (And.intro ?_ (trivial))) (And.intro (And.intro ?_ (And.intro ?_ (And.intro ?_ (trivial)))) (And.intro (And.intro ?_ (And.intro ?_ (And.intro ?_ (trivial)))) (And.intro (And.intro ?_ (And.intro ?_ (And.intro ?_ (trivial)))) (And.intro (And.intro ?_ (And.intro ?_ (trivial))) (And.intro (And.intro ?_ (And.intro ?_ (trivial))) (And.intro (And.intro ?_ (And.intro ?_ (trivial))) (And.intro (And.intro ?_ (And.intro ?_ (trivial))) (And.intro (And.intro ?_ (And.intro ?_ (trivial))) (And.intro (And.intro ?_ (And.intro ?_ (trivial))) (And.intro (And.intro ?_ (And.intro ?_ (trivial))) (And.intro (And.intro ?_ (trivial)) (And.intro (And.intro ?_ (And.intro ?_ (trivial))) (And.intro (And.intro ?_ (And.intro ?_ (trivial))) (And.intro (And.intro ?_ (And.intro ?_ (trivial))) (And.intro (And.intro ?_ (trivial)) (And.intro (And.intro ?_ (trivial)) (And.intro (And.intro ?_ (trivial)) (And.intro (And.intro ?_ (trivial)) (And.intro (And.intro ?_ (trivial)) (And.intro trivial (trivial))))))))))))))))))))))))))))))))))))))))))))))))))))
 intro u9 hu9;refine Ab Aa ?_;exact Af () [] .z trivial
 intro u9 hu9;refine Ab Aa ?_;exact Af () [] .z trivial
 intro u9 hu9;refine Ab Aa ?_;exact Af () [(7,some 9)] .z trivial
 intro u9 hu9;refine Ab Aa ?_;exact Af () [(8,some 9)] .z trivial
 intro u9 hu9;refine Am (.pointer (some tad)) O O O O fn68 O O (fun E w' F hs=>ht2 w' (hj2.trans (hu9.sub.trans (Au hs.imm)))) ?_;refine Ad ?_;exact Af () [] .z trivial
 intro u9 hu9;refine Ab Aa ?_;exact Af () [] .z trivial
 intro u9 hu9;refine Ab Aa ?_;exact Af () [(7,some 9)] .z trivial
 intro u9 hu9;refine Ab Aa ?_;exact Af () [(8,some 9)] .z trivial
 intro u9 hu9;refine Ab Aa ?_;exact Af () [] .z trivial
 intro u9 hu9;refine Ab Aa ?_;exact Af () [(7,some 9)] .z trivial
 intro u9 hu9;refine Ab Aa ?_;exact Af () [(8,some 9)] .z trivial
 intro u9 hu9;refine Ab Aa ?_;exact Af () [] .z trivial
 intro u9 hu9;refine Ab Aa ?_;exact Af () [] .z trivial
 intro u9 hu9;refine Ab Aa ?_;exact Af () [(8,some 9)] .z trivial
 intro u9 hu9;refine Ab Aa ?_;exact Af () [] .z trivial
 intro u9 hu9;refine Ab Aa ?_;exact Af () [] .z trivial
 intro u9 hu9;refine Ab Aa ?_;exact Af () [(7,some 9)] .z trivial
 intro u9 hu9;refine Ab Aa ?_;exact Af () [] .z trivial
 intro u9 hu9;refine Ab Aa ?_;exact Af () [] .z trivial
 intro u9 hu9;refine Ab Aa ?_;exact Af () [(7,some 9)] .z trivial
 intro u9 hu9;refine Ab Aa ?_;exact Af () [(8,some 9)] .z trivial
 intro u9 hu9;refine Am (.pointer (some tad)) O O O O fn68 O O (fun E w' F hs=>ht2 w' (hj2.trans (hu9.sub.trans (Au hs.imm)))) ?_;refine Ad ?_;exact Af () [] .z trivial
 intro u9 hu9;refine Ab Aa ?_;exact Af () [(7,some 9)] .z trivial
 intro u9 hu9;refine Ab Aa ?_;exact Af () [(8,some 9)] .z trivial
 intro u9 hu9;refine Am (.pointer (some tad)) O O O O fn68 O O (fun E w' F hs=>ht2 w' (hj2.trans (hu9.sub.trans (Au hs.imm)))) ?_;refine Ad ?_;exact Af () [] .z trivial
 intro u9 hu9;refine Ab Aa ?_;exact Af () [] .z trivial
 intro u9 hu9;refine Ab Aa ?_;exact Af () [(8,some 9)] .z trivial
 intro u9 hu9;refine Am (.pointer (some tad)) O O O O fn68 O O (fun E w' F hs=>ht2 w' (hj2.trans (hu9.sub.trans (Au hs.imm)))) ?_;refine Ad ?_;exact Af () [] .z trivial
 intro u9 hu9;refine Ab Aa ?_;exact Af () [] .z trivial
 intro u9 hu9;refine Ab Aa ?_;exact Af () [(7,some 9)] .z trivial
 intro u9 hu9;refine Ab Aa ?_;exact Af () [] .z trivial
 intro u9 hu9;refine Ab Aa ?_;exact Af () [(8,some 9)] .z trivial
 intro u9 hu9;refine Ab Aa ?_;exact Af () [] .z trivial
 intro u9 hu9;refine Ab Aa ?_;exact Af () [(7,some 9)] .z trivial
 intro u9 hu9;refine Ab Aa ?_;exact Af () [] .z trivial
 intro u9 hu9;refine Ab Aa ?_;exact Af () [] .z trivial
 intro u9 hu9;refine xl_loadA Aa (tkC t) O O O O O O O O (fun _=>ht1.sub (hj2.trans hu9.sub)) ?_;refine Ad ?_;exact Af () [] .z trivial
 intro u9 hu9;refine Ab Aa ?_;exact Af () [] .z trivial
 intro u9 hu9;refine Ab Aa ?_;exact Af () [(7,some 9)] .z trivial
 intro u9 hu9;refine Ab Aa ?_;exact Af () [(8,some 9)] .z trivial
 intro u9 hu9;refine Ab Aa ?_;exact Af () [] .z trivial
 intro u9 hu9;refine Am (plV p' k') O O O O fn69 O O (fun E w' F hs=>hn2 w' (hj2.trans (hu9.sub.trans (Au hs.imm)))) ?_;refine Ad ?_;exact Af () [] .z trivial
 intro u9 hu9;refine Ab Aa ?_;exact Af () [(7,some 9)] .z trivial
 intro u9 hu9;refine Ab Aa ?_;exact Af () [(8,some 9)] .z trivial
 intro u9 hu9;refine Ab Aa ?_;exact Af () [] .z trivial
 intro u9 hu9;refine Ab Aa ?_;exact Af () [] .z trivial
 intro u9 hu9;refine Ab Aa ?_;exact Af () [(8,some 9)] .z trivial
 intro u9 hu9;refine Ab Aa ?_;exact Af () [] .z trivial
 intro u9 hu9;refine Ab Aa ?_;exact Af () [] .z trivial
 intro u9 hu9;refine Ab Aa ?_;exact Af () [(7,some 9)] .z trivial
 intro u9 hu9;refine Am (.pointer (some tad)) O O O O fn68 O O (fun E w' F hs=>ht2 w' (hj2.trans (hu9.sub.trans (Au hs.imm)))) ?_;refine Ad ?_;exact Af () [] .z trivial
 intro u9 hu9;refine Ab Aa ?_;exact Af () [(8,some 9)] .z trivial
 intro u9 hu9;refine Am (.pointer (some tad)) O O O O fn68 O O (fun E w' F hs=>ht2 w' (hj2.trans (hu9.sub.trans (Au hs.imm)))) ?_;refine Ad ?_;exact Af () [] .z trivial
 intro u9 hu9;refine Ab Aa ?_;exact Af () [(7,some 9)] .z trivial
 intro u9 hu9;refine Am (.pointer (some tad)) O O O O fn68 O O (fun E w' F hs=>ht2 w' (hj2.trans (hu9.sub.trans (Au hs.imm)))) ?_;refine Ad ?_;exact Af () [] .z trivial
 intro u9 hu9;refine Ab Aa ?_;exact Af () [] .z trivial
 intro u9 hu9;refine Ab Aa ?_;exact Af () [] .z trivial
 intro u9 hu9;refine Ab Aa ?_;exact Af () [] .z trivial
 intro u9 hu9;refine Ab Aa ?_;exact Af () [(7,some 9)] .z trivial
 intro u9 hu9;refine Ab Aa ?_;exact Af () [(8,some 9)] .z trivial
 intro u9 hu9;refine xl_loadA Aa (tkC t) O O O O O O O O (fun _=>ht1.sub (hj2.trans hu9.sub)) ?_;refine Ad ?_;exact Af () [] .z trivial
 intro u9 hu9;refine Am (plV p' k') O O O O fn69 O O (fun E w' F hs=>hn2 w' (hj2.trans (hu9.sub.trans (Au hs.imm)))) ?_;refine Ad ?_;exact Af () [] .z trivial
 intro u9 hu9;refine Ab Aa ?_;exact Af () [(7,some 9)] .z trivial
 intro u9 hu9;refine Ab Aa ?_;exact Af () [(8,some 9)] .z trivial
 intro u9 hu9;refine xl_loadA Aa (tkC t) O O O O O O O O (fun _=>ht1.sub (hj2.trans hu9.sub)) ?_;refine Ad ?_;exact Af () [] .z trivial
 intro u9 hu9;refine Ab Aa ?_;exact Af () [] .z trivial
 intro u9 hu9;refine Ab Aa ?_;exact Af () [(8,some 9)] .z trivial
 intro u9 hu9;refine xl_loadA Aa (tkC t) O O O O O O O O (fun _=>ht1.sub (hj2.trans hu9.sub)) ?_;refine Ad ?_;exact Af () [] .z trivial
 intro u9 hu9;refine Ab Aa ?_;exact Af () [] .z trivial
 intro u9 hu9;refine Ab Aa ?_;exact Af () [(7,some 9)] .z trivial
 intro u9 hu9;refine Ab Aa ?_;exact Af () [] .z trivial
 intro u9 hu9;refine Ab Aa ?_;exact Af () [(7,some 9)] .z trivial
 intro u9 hu9;refine Ab Aa ?_;exact Af () [(8,some 9)] .z trivial
 intro u9 hu9;refine Ab Aa ?_;exact Af () [] .z trivial
 intro u9 hu9;refine Am (plV p' k') O O O O fn69 O O (fun E w' F hs=>hn2 w' (hj2.trans (hu9.sub.trans (Au hs.imm)))) ?_;refine Ad ?_;exact Af () [] .z trivial
 intro u9 hu9;refine Ab Aa ?_;exact Af () [(8,some 9)] .z trivial
 intro u9 hu9;refine Ab Aa ?_;exact Af () [] .z trivial
 intro u9 hu9;refine Am (plV p' k') O O O O fn69 O O (fun E w' F hs=>hn2 w' (hj2.trans (hu9.sub.trans (Au hs.imm)))) ?_;refine Ad ?_;exact Af () [] .z trivial
 intro u9 hu9;refine Ab Aa ?_;exact Af () [(7,some 9)] .z trivial
 intro u9 hu9;refine Ab Aa ?_;exact Af () [] .z trivial
 intro u9 hu9;refine Ab Aa ?_;exact Af () [] .z trivial
 intro u9 hu9;refine Am (.pointer (some tad)) O O O O fn68 O O (fun E w' F hs=>ht2 w' (hj2.trans (hu9.sub.trans (Au hs.imm)))) ?_;refine Ad ?_;exact Af () [] .z trivial
 intro u9 hu9;refine Am (plV p' k') O O O O fn69 O O (fun E w' F hs=>hn2 w' (hj2.trans (hu9.sub.trans (Au hs.imm)))) ?_;refine Ad ?_;exact Af () [] .z trivial
 intro u9 hu9;refine Ab Aa ?_;exact Af () [(7,some 9)] .z trivial
 intro u9 hu9;refine Ab Aa ?_;exact Af () [(8,some 9)] .z trivial
 intro u9 hu9;refine Ab Aa ?_;exact Af () [] .z trivial
 intro u9 hu9;refine Ab Aa ?_;exact Af () [(8,some 9)] .z trivial
 intro u9 hu9;refine Ab Aa ?_;exact Af () [] .z trivial
 intro u9 hu9;refine Ab Aa ?_;exact Af () [(7,some 9)] .z trivial
 intro u9 hu9;refine xl_loadA Aa (tkC t) O O O O O O O O (fun _=>ht1.sub (hj2.trans hu9.sub)) ?_;refine Ad ?_;exact Af () [] .z trivial
 intro u9 hu9;refine Ab Aa ?_;exact Af () [(7,some 9)] .z trivial
 intro u9 hu9;refine Ab Aa ?_;exact Af () [(8,some 9)] .z trivial
 intro u9 hu9;refine xl_loadA Aa (tkC t) O O O O O O O O (fun _=>ht1.sub (hj2.trans hu9.sub)) ?_;refine Ad ?_;exact Af () [] .z trivial
 intro u9 hu9;refine Am (plV p' k') O O O O fn69 O O (fun E w' F hs=>hn2 w' (hj2.trans (hu9.sub.trans (Au hs.imm)))) ?_;refine Ad ?_;exact Af () [] .z trivial
 intro u9 hu9;refine Ab Aa ?_;exact Af () [(8,some 9)] .z trivial
 intro u9 hu9;refine xl_loadA Aa (tkC t) O O O O O O O O (fun _=>ht1.sub (hj2.trans hu9.sub)) ?_;refine Ad ?_;exact Af () [] .z trivial
 intro u9 hu9;refine Am (plV p' k') O O O O fn69 O O (fun E w' F hs=>hn2 w' (hj2.trans (hu9.sub.trans (Au hs.imm)))) ?_;refine Ad ?_;exact Af () [] .z trivial
 intro u9 hu9;refine Ab Aa ?_;exact Af () [(7,some 9)] .z trivial
 intro u9 hu9;refine xl_loadA Aa (tkC t) O O O O O O O O (fun _=>ht1.sub (hj2.trans hu9.sub)) ?_;refine Ad ?_;exact Af () [] .z trivial
 intro u9 hu9;refine Ab Aa ?_;exact Af () [] .z trivial
 intro u9 hu9;refine Ab Aa ?_;exact Af () [] .z trivial
 intro u9 hu9;refine Ab Aa ?_;exact Af () [(8,some 9)] .z trivial
 intro u9 hu9;refine Ab Aa ?_;exact Af () [] .z trivial
 intro u9 hu9;refine Ab Aa ?_;exact Af () [(7,some 9)] .z trivial
 intro u9 hu9;refine Ab Aa ?_;exact Af () [] .z trivial
 intro u9 hu9;refine Am (plV p' k') O O O O fn69 O O (fun E w' F hs=>hn2 w' (hj2.trans (hu9.sub.trans (Au hs.imm)))) ?_;refine Ad ?_;exact Af () [] .z trivial
 intro u9 hu9;refine Ab Aa ?_;exact Af () [(7,some 9)] .z trivial
 intro u9 hu9;refine Ab Aa ?_;exact Af () [(8,some 9)] .z trivial
 intro u9 hu9;refine Am (plV p' k') O O O O fn69 O O (fun E w' F hs=>hn2 w' (hj2.trans (hu9.sub.trans (Au hs.imm)))) ?_;refine Ad ?_;exact Af () [] .z trivial
 intro u9 hu9;refine Ab Aa ?_;exact Af () [(8,some 9)] .z trivial
 intro u9 hu9;refine Am (plV p' k') O O O O fn69 O O (fun E w' F hs=>hn2 w' (hj2.trans (hu9.sub.trans (Au hs.imm)))) ?_;refine Ad ?_;exact Af () [] .z trivial
 intro u9 hu9;refine Ab Aa ?_;exact Af () [(7,some 9)] .z trivial
 intro u9 hu9;refine Ab Aa ?_;exact Af () [] .z trivial
 intro u9 hu9;refine xl_loadA Aa (tkC t) O O O O O O O O (fun _=>ht1.sub (hj2.trans hu9.sub)) ?_;refine Ad ?_;exact Af () [] .z trivial
 intro u9 hu9;refine Ab Aa ?_;exact Af () [(8,some 9)] .z trivial
 intro u9 hu9;refine xl_loadA Aa (tkC t) O O O O O O O O (fun _=>ht1.sub (hj2.trans hu9.sub)) ?_;refine Ad ?_;exact Af () [] .z trivial
 intro u9 hu9;refine Ab Aa ?_;exact Af () [(7,some 9)] .z trivial
 intro u9 hu9;refine xl_loadA Aa (tkC t) O O O O O O O O (fun _=>ht1.sub (hj2.trans hu9.sub)) ?_;refine Ad ?_;exact Af () [] .z trivial
 intro u9 hu9;refine Am (plV p' k') O O O O fn69 O O (fun E w' F hs=>hn2 w' (hj2.trans (hu9.sub.trans (Au hs.imm)))) ?_;refine Ad ?_;exact Af () [] .z trivial
 intro u9 hu9;refine Ab Aa ?_;exact Af () [] .z trivial
 intro u9 hu9;refine Ab Aa ?_;exact Af () [(8,some 9)] .z trivial
 intro u9 hu9;refine Ab Aa ?_;exact Af () [(7,some 9)] .z trivial
 intro u9 hu9;refine Am (plV p' k') O O O O fn69 O O (fun E w' F hs=>hn2 w' (hj2.trans (hu9.sub.trans (Au hs.imm)))) ?_;refine Ad ?_;exact Af () [] .z trivial
 intro u9 hu9;refine xl_loadA Aa (tkC t) O O O O O O O O (fun _=>ht1.sub (hj2.trans hu9.sub)) ?_;refine Ad ?_;exact Af () [] .z trivial
 refine Ae (fuel:=0) [8,9] O O (by kernel_rfl) (Ab Aa ?_)
 refine Aj (by kernel_rfl) rfl ?_
 exact Af () [] .z trivial
 rintro _ u2 hu2 -
 have hsub2:u0.sub u2:=hsub.trans hu2.sub
 have hus2:us.sub u2:=hu.sub.trans hu2.sub
 have hju:(Bf u0 (dif us u)).sub u2:=hj2.trans hu2.sub
 have hkd:=htx.kind
 have htt:=htx.text
 have hout:∀(N2:Nms) (l2:Nat) (y:TV) (z:XT) (u5:Im),u.le u5→TkR (Bf u0 (dif us u)) y z→Nw u0 (dif us u5) (fun v=>PSt v M N2)→listX (msOf M) g (N2.map (·.1)) l2 Xr (Xo++[z])=RL →
  g<g+1∧∃Xr Xo,Nw u0 (dif us u5) (fun v=>PSt v M N2∧VwX v ⟨p',k',vw.q,vw.j⟩ Xr∧TksR v (T++[y]) Xo)∧listX (msOf M) g (N2.map (·.1)) l2 Xr Xo=RL:=fun N2 l2 y z u5 hu5 hyz hp5 hl5=>
  ⟨Nat.lt_succ_self _,Xr,Xo++[z],fun v a b=>by
   have hjv:(Bf u0 (dif us u)).sub v:=Bn a ((Ba hu5.sub).trans b)
   exact⟨hp5 v a b,hVr.sub hjv,(p3.sub hjv).snoc (hyz.sub hjv)⟩,hl5⟩
 refine Az (Az (Ao Aa ?_))
 refine Ao Aa ?_
 refine Ap (fun h2=>?_) (fun h2=>?_)
 have h2:(decide (t.pv.kind=1)&&decide (t.pv.text=lnB))=true:=h2
 rw[Bool.and_eq_true,decide_eq_true_eq,decide_eq_true_eq,hkd,htt]at h2
 rw[stepB,if_pos h2]at g4
 refine x_via (σ:=Unit) (fun _=>⟨[(6,.r 9),(7,.p 5 0),(3,.p 2 0),(0,.p 0 0)],[],(9,.row 87 (tvY.d (T++[⟨⟨10,t.pv.text,t.pv.space,t.pv.pa,t.pv.pn,t.pv.pc⟩,t.hp⟩])))::(5,.box 82 [.v (.pointer p'),.v (.int .i64 k')])::(2,.box 95 [.v (.pointer vw.p),.v (.int .i64 vw.k),.v (.pointer vw.q),.v (.int .i64 vw.j)])::xOw bm bp l1 N1,11⟩) (fun _ _=>True) (fun _=>by show 9≤11;omega) ?_ ?_
 refine Bw mix ?_
 refine At Aa (fuel:=6) [0] rfl (by kernel_rfl) (by kernel_rfl) (fun _ _ _ hh=>hh) (by kernel_rfl) (by kernel_rfl) ?_
 refine Aq 1 4 (by kernel_rfl) O O ?_ ?_
 refine Ab Aa ?_
 refine Aq 2 4 (by kernel_rfl) O O ?_ ?_
 refine As Aa tvY [⟨⟨10,t.pv.text,t.pv.space,t.pv.pa,t.pv.pn,t.pv.pc⟩,t.hp⟩] [_] O O O O O O O O O O O O O O O ?_
 refine Ad ?_
 refine Aq 3 4 (by kernel_rfl) O O ?_ ?_
 refine Bm Aa tvY T [⟨⟨10,t.pv.text,t.pv.space,t.pv.pa,t.pv.pn,t.pv.pc⟩,t.hp⟩] 64 O O O O O O O O (by kernel_rfl) O O O (fun E w F hs=>hs.rowAt (k:=9) rfl) tkOne rfl (by rw[List.length_singleton];omega) (by rw[List.length_singleton];omega) ?_
 refine Ad ?_
 refine At Aa (fuel:=2) [5] rfl (by kernel_rfl) (by kernel_rfl) (fun _ _ _ hh=>hh) (by kernel_rfl) (by kernel_rfl) ?_
 refine Ae (fuel:=0) [4,6] O O (by kernel_rfl) (Ab Aa ?_)
 refine Aj (by kernel_rfl) rfl ?_
 exact Af () [(9,some 10)] .z trivial
 refine Ab Aa ?_
 refine Ag 3 (by kernel_rfl) rfl ?_
 refine Bm Aa tvY T [⟨⟨10,t.pv.text,t.pv.space,t.pv.pa,t.pv.pn,t.pv.pc⟩,t.hp⟩] 64 O O O O O O O O (by kernel_rfl) O O O (fun E w F hs=>hs.rowAt (k:=9) rfl) tkOne rfl (by rw[List.length_singleton];omega) (by rw[List.length_singleton];omega) ?_
 refine Ad ?_
 refine Ae (fuel:=0) [5,6] O O (by kernel_rfl) (Ab Aa ?_)
 refine Aj (by kernel_rfl) rfl ?_
 exact Af () [(9,some 10)] .z trivial
 refine Ab Aa ?_
 refine Ag 2 (by kernel_rfl) rfl ?_
 refine As Aa tvY [⟨⟨10,t.pv.text,t.pv.space,t.pv.pa,t.pv.pn,t.pv.pc⟩,t.hp⟩] [_] O O O O O O O O O O O O O O O ?_
 refine Ad ?_
 refine Ag 3 (by kernel_rfl) rfl ?_
 refine Bm Aa tvY T [⟨⟨10,t.pv.text,t.pv.space,t.pv.pa,t.pv.pn,t.pv.pc⟩,t.hp⟩] 64 O O O O O O O O (by kernel_rfl) O O O (fun E w F hs=>hs.rowAt (k:=9) rfl) tkOne rfl (by rw[List.length_singleton];omega) (by rw[List.length_singleton];omega) ?_
 refine Ad ?_
 refine Ae (fuel:=0) [5,6] O O (by kernel_rfl) (Ab Aa ?_)
 refine Aj (by kernel_rfl) rfl ?_
 exact Af () [(9,some 10)] .z trivial
 refine Ab Aa ?_
 refine Ae (fuel:=4) [1] O O (by kernel_rfl) (Ab Aa ?_)
 refine Ag 2 (by kernel_rfl) rfl ?_
 refine As Aa tvY [⟨⟨10,t.pv.text,t.pv.space,t.pv.pa,t.pv.pn,t.pv.pc⟩,t.hp⟩] [_] O O O O O O O O O O O O O O O ?_
 refine Ad ?_
 refine Ag 3 (by kernel_rfl) rfl ?_
 refine Bm Aa tvY T [⟨⟨10,t.pv.text,t.pv.space,t.pv.pa,t.pv.pn,t.pv.pc⟩,t.hp⟩] 64 O O O O O O O O (by kernel_rfl) O O O (fun E w F hs=>hs.rowAt (k:=9) rfl) tkOne rfl (by rw[List.length_singleton];omega) (by rw[List.length_singleton];omega) ?_
 refine Ad ?_
 refine Ae (fuel:=0) [5,6] O O (by kernel_rfl) (Ab Aa ?_)
 refine Aj (by kernel_rfl) rfl ?_
 exact Af () [(9,some 10)] .z trivial
 rintro _ u5 hu5 -
 exact Af (g,N1,l1,p',k',T++[⟨⟨10,t.pv.text,t.pv.space,t.pv.pa,t.pv.pn,t.pv.pc⟩,t.hp⟩]) [] .z (hout N1 l1 _ {x with kind:=10} u5 (hu2.trans hu5) ⟨rfl,htt,htx.space,htx.parts,htx.hide⟩ (fun v a b=>(g3 v a ((Ba (hu2.trans hu5).sub).trans b)).1) g4)
 have h2:(decide (t.pv.kind=1)&&decide (t.pv.text=lnB))=false:=h2
 rw[hkd,htt]at h2
 rw[stepB,if_neg (by
  rintro⟨e1,e2⟩
  rw[decide_eq_true e1,decide_eq_true e2]at h2
  cases h2)]at g4
 refine Az (Ao Aa ?_)
 refine xl_callSCX (called_scx (bp:=bp) (left:=(l1:Int)) (hM.sub hj0) p1 htx (by omega)) hju [0,1] O O O O fn70 O O O O O O ⟨trivial,fun _ _ _ _ h=>h,trivial⟩ rfl (fun _=>⟨trivial,fun _ _ _ _ h=>h,trivial⟩) (fun _=>rfl) (fun q u5 hu5 hFt hNw=>?_)
 obtain⟨N2,r⟩:=q
 obtain⟨NS2,oi,hcal⟩:∃NS2 oi,calX (fun s=>(M s).isSome) (N1.map (·.1)) x.kind x.text x.hide=(NS2,oi):=⟨_,_,rfl⟩
 have hms:(fun s=>(msOf M s).isSome)=(fun s=>(M s).isSome):=funext fun s=>by unfold msOf;rw[Option.isSome_map]
 rw[hms,hcal]at g4
 rw[hcal]at hFt
 obtain⟨f1,f2⟩:N2.map (·.1)=NS2∧r=adO N2 oi:=hFt
 subst f2
 have hNw:Nw (Bf u0 (dif us u)) (dif u2 u5) (fun v=>PSt v M N2):=hNw
 have hsub5:u0.sub u5:=hsub2.trans hu5.sub
 have hus5:us.sub u5:=hus2.trans hu5.sub
 have hN2:Nw u0 (dif us u5) (fun v=>PSt v M N2):=fun v a b=>hNw v (Bn a ((Ba (hu2.trans hu5).sub).trans b)) ((Ch hus2).trans b)
 cases oi with
 |none=>
  refine Ab Aa ?_
  refine Az (Az (Ao Aa ?_))
  refine xl_binV (.bool true) O O O O O O (fun w=>eqGuardP _ _ _ _ _ _ w) (fun _ w hw'=>run_eqP rfl (Aa 156 _ rfl) (by decide) hw' (blk_none u5) (blk_none _)) ?_
  refine Ab Aa ?_
  iterate 9 (refine xl_gval (.pointer none) O O (fun c hc=>by cases hc) rfl (fun hp=>absurd hp.1 (by decide)) ?_;refine Ab Aa ?_)
  refine xl_gval (.bool false) O O (fun c hc=>by cases hc) rfl (fun hp=>absurd hp.1 (by decide)) ?_
  refine Ab Aa ?_
  refine Ao Aa ?_
  refine Be rfl ?_
  have g4:listX (msOf M) g NS2 l1 Xr (Xo++[x])=RL:=g4
  rw[←f1]at g4
  refine x_via (σ:=Unit) (fun _=>⟨[(6,.r 9),(7,.p 5 0),(3,.p 2 0),(0,.p 0 0)],[],(9,.row 87 (tvY.d (T++[t])))::(5,.box 82 [.v (.pointer p'),.v (.int .i64 k')])::(2,.box 95 [.v (.pointer vw.p),.v (.int .i64 vw.k),.v (.pointer vw.q),.v (.int .i64 vw.j)])::xOw bm bp l1 N2,11⟩) (fun _ _=>True) (fun _=>by show 9≤11;omega) ?_ ?_
  refine Bw mix ?_
  refine At Aa (fuel:=6) [0] rfl (by kernel_rfl) (by kernel_rfl) (fun _ _ _ hh=>hh) (by kernel_rfl) (by kernel_rfl) ?_
  refine Aq 1 4 (by kernel_rfl) O O ?_ ?_
  refine Ab Aa ?_
  refine Aq 2 4 (by kernel_rfl) O O ?_ ?_
  refine As Aa tvY [t] [_] O O O O O O O O O O O O O O O ?_
  refine Ad ?_
  refine Aq 3 4 (by kernel_rfl) O O ?_ ?_
  refine Bm Aa tvY T [t] 64 O O O O O O O O (by kernel_rfl) O O O (fun E w F hs=>hs.rowAt (k:=9) rfl) tkOne rfl (by rw[List.length_singleton];omega) (by rw[List.length_singleton];omega) ?_
  refine Ad ?_
  refine At Aa (fuel:=2) [5] rfl (by kernel_rfl) (by kernel_rfl) (fun _ _ _ hh=>hh) (by kernel_rfl) (by kernel_rfl) ?_
  refine Ae (fuel:=0) [4,6] O O (by kernel_rfl) (Ab Aa ?_)
  refine Aj (by kernel_rfl) rfl ?_
  exact Af () [(9,some 10)] .z trivial
  refine Ab Aa ?_
  refine Ag 3 (by kernel_rfl) rfl ?_
  refine Bm Aa tvY T [t] 64 O O O O O O O O (by kernel_rfl) O O O (fun E w F hs=>hs.rowAt (k:=9) rfl) tkOne rfl (by rw[List.length_singleton];omega) (by rw[List.length_singleton];omega) ?_
  refine Ad ?_
  refine Ae (fuel:=0) [5,6] O O (by kernel_rfl) (Ab Aa ?_)
  refine Aj (by kernel_rfl) rfl ?_
  exact Af () [(9,some 10)] .z trivial
  refine Ab Aa ?_
  refine Ag 2 (by kernel_rfl) rfl ?_
  refine As Aa tvY [t] [_] O O O O O O O O O O O O O O O ?_
  refine Ad ?_
  refine Ag 3 (by kernel_rfl) rfl ?_
  refine Bm Aa tvY T [t] 64 O O O O O O O O (by kernel_rfl) O O O (fun E w F hs=>hs.rowAt (k:=9) rfl) tkOne rfl (by rw[List.length_singleton];omega) (by rw[List.length_singleton];omega) ?_
  refine Ad ?_
  refine Ae (fuel:=0) [5,6] O O (by kernel_rfl) (Ab Aa ?_)
  refine Aj (by kernel_rfl) rfl ?_
  exact Af () [(9,some 10)] .z trivial
  refine Ab Aa ?_
  refine Ae (fuel:=4) [1] O O (by kernel_rfl) (Ab Aa ?_)
  refine Ag 2 (by kernel_rfl) rfl ?_
  refine As Aa tvY [t] [_] O O O O O O O O O O O O O O O ?_
  refine Ad ?_
  refine Ag 3 (by kernel_rfl) rfl ?_
  refine Bm Aa tvY T [t] 64 O O O O O O O O (by kernel_rfl) O O O (fun E w F hs=>hs.rowAt (k:=9) rfl) tkOne rfl (by rw[List.length_singleton];omega) (by rw[List.length_singleton];omega) ?_
  refine Ad ?_
  refine Ae (fuel:=0) [5,6] O O (by kernel_rfl) (Ab Aa ?_)
  refine Aj (by kernel_rfl) rfl ?_
  exact Af () [(9,some 10)] .z trivial
  rintro _ u6 hu6 -
  exact Af (g,N2,l1,p',k',T++[t]) [] .z (hout N2 l1 t x u6 ((hu2.trans hu5).trans hu6) htx (hN2.sub (Ba hu6.sub)) g4)
 |some i=>
  have hNl:N2.length=NS2.length:=by rw[←f1,List.length_map]
  have hi:=calX_lt hcal
  obtain⟨⟨nm,ad⟩,hn⟩:∃y,N2[i]?=some y:=⟨_,List.getElem?_eq_getElem (by omega)⟩
  have hr:adO N2 (some i)=some ad:=by show(N2[i]?).map (·.2)=_;rw[hn];rfl
  have hnm:NS2.getD i ⟨#[]⟩=nm:=by rw[←f1,List.getD_eq_getElem?_getD,List.getElem?_map,hn];rfl
  have hk0:=joinI_old u0 (dif us u5)
  have hk1:(dif us u5).sub (Bf u0 (dif us u5)):=joinI_new hus
  have hk2:(Bf u0 (dif us u5)).sub u5:=Bn hsub5 (Bl us u5)
  have hjk:(Bf u0 (dif us u)).sub (Bf u0 (dif us u5)):=Bn hk0 ((Ba (hu2.trans hu5).sub).trans hk1)
  obtain⟨m,sa,hm,hPl⟩:=hN2 _ hk0 hk1 i _ hn
  have hm:M nm=some (m,sa):=hm
  have hPl:PlanAt (Bf u0 (dif us u5)) ad i m sa (itemsL m.fn (numP m) m.body) (usedL m.ps.length (itemsL m.fn (numP m) m.body)):=hPl
  have g4:(if m.fn&&headNo Xr then listX (msOf M) g NS2 l1 Xr (Xo++[x])else gotX (listX (msOf M) g) NS2 l1 x i m Xo (if m.fn then callX m.ps.length m.va Xr else some ⟨[],x,Xr⟩))=RL:=by
   rw[←g4,macX,hnm]
   unfold msOf
   rw[hm];rfl
  rw[←f1]at g4
  obtain⟨mb,xi,xu,rfl,hmb,hmi,hmu⟩:=hPl.it
  have hmb5:=hk2.h _ _ hmb
  obtain⟨ta,tb,hnext⟩:∃(ta:Value) (tb:Bool),Xr≠[]→(∀w,(Bf u0 (dif us u)).sub (im w)→Calls Tryz.prog 68 #[plV p' k'] w (Bc w fun v _=>v=ta))∧(∀w,(Bf u0 (dif us u)).sub (im w)→Calls Tryz.prog 71 #[ta,.string lpB] w (Bc w fun v _=>v=.bool tb))∧headNo Xr=!tb:=by
   cases hXr:Xr with
   |nil=>exact⟨.pointer none,false,fun h=>absurd rfl h⟩
   |cons y R=>
    have hVr':=hVr
    rw[hXr]at hVr'
    obtain⟨P2,n2,s1,s2,s3,s4⟩:=hVr'
    obtain⟨n2,rfl⟩:∃n',n2=n'+1:=by
     cases n2 with
     |zero=>rw[List.take_zero]at s4;exact s4.elim
     |succ n2=>exact⟨n2,rfl⟩
    obtain⟨b2,T2,i2,R2,rfl⟩:=stk_pos (P:=P2) (by omega)
    have hi2:i2<T2.length:=s1.2.2.1
    obtain⟨tad2,e1,e2⟩:=token_any s1
    have hT2:T2[i2]?=some (T2.getD i2 tv0):=by rw[List.getD_eq_getElem?_getD,List.getElem?_eq_getElem hi2];rfl
    have htk2:Bi ((b2,T2,i2)::R2)=T2.getD i2 tv0::(T2.drop (i2+1)++Bi R2):=by
     rw[Bi,drop_cons hT2];rfl
    rw[htk2,List.take_succ_cons]at s4
    refine⟨.pointer (some tad2),isF (T2.getD i2 tv0) lpB,fun _=>⟨e2,fun w hw=>tis_any lpB w (e1.sub hw),?_⟩⟩
    show(!isX y lpB)=!(isF (T2.getD i2 tv0) lpB)
    unfold isX isF
    rw[s4.1.kind,s4.1.text]
  have hlenr:=hVr.len
  have hbk2:BlkAt u5 p'∧BlkAt u5 vw.q:=by
   obtain⟨P2,n2,s1,s2,_⟩:=hVr
   exact⟨s1.blk.sub (hju.trans hu5.sub),s2.blk.sub (hju.trans hu5.sub)⟩
  have hju5:(Bf u0 (dif us u)).sub u5:=hju.trans hu5.sub
  have hxr:(decide (p'=vw.q)&&decide (k'=vw.j))=false→Xr≠[]:=fun h e=>by
   have:=hlenr.2 (by rw[e];rfl)
   rw[decide_eq_true this.1,decide_eq_true this.2]at h
   cases h
  rw[hr]
  refine Ab Aa ?_
  refine Az (Az ?_)
  refine x_via (σ:=Unit) (fun _=>⟨[(69,.v (.bool (false||(m.fn&&((decide (p'=vw.q)&&decide (k'=vw.j))||!tb))))),(10,.v (.pointer (some ⟨mb,0,none⟩))),(8,.p 7 0),(9,.p 8 0),(7,.p 5 0),(6,.r 6),(3,.p 2 0),(0,.p 0 0)],[],(7,.box 87 ((tkC t).map .v))::(8,.box 82 [.v (.pointer p'),.v (.int .i64 k')])::lOw bm bp l1 N2 vw p k T,9⟩) (fun _ _=>True) (fun _=>by show 9≤9;omega) ?_ ?_
  refine Ao Aa ?_
  refine xl_binV (.bool false) O O O O O O (fun w=>eqGuardP _ _ _ _ _ _ w) (fun _ w hw'=>run_eqP rfl (Aa 156 _ rfl) (by decide) hw' (fun x hx=>by cases hx;exact⟨_,_,hmb5⟩) (blk_none u5)) ?_
  refine Ab Aa ?_
  refine xl_ptrG 53 (mCells m sa++[.int .i64 (i:Int),xi,xu]) rfl (ptAt_box hmb5) ?_
  refine Ab Aa ?_
  refine xl_binV (.bool (decide (p'=vw.q)&&decide (k'=vw.j))) O O O O O O (fun w=>eqGuardPl2 _ _ _ _ _ _ w) (fun _ w' hw'=>run_eqPl hw' hbk2.1 hbk2.2 k' vw.j) ?_
  refine Ab Aa ?_
  refine Bt ta O O O O fn68 O O (fun hp E w F hs=>(hnext (hxr hp.1)).1 w (hju5.trans (Au hs.imm))) ?_
  refine Ab Aa ?_
  refine Bt (.bool tb) O O O O fn71 O O (fun hp E w F hs=>(hnext (hxr hp.1)).2.1 w (hju5.trans (Au hs.imm))) ?_
  refine Ab Aa ?_
  exact Af () [] .z trivial
  rintro _ u6 hu6 -
  have hhead:(false||(m.fn&&((decide (p'=vw.q)&&decide (k'=vw.j))||!tb)))=(m.fn&&headNo Xr):=by
   rw[Bool.false_or]
   congr 1
   by_cases hXr:Xr=[]
   have:=hlenr.2 (by rw[hXr];rfl)
   rw[decide_eq_true this.1,decide_eq_true this.2,hXr];rfl
   rw[(hnext hXr).2.2]
   have:(decide (p'=vw.q)&&decide (k'=vw.j))=false:=by
    cases h:(decide (p'=vw.q)&&decide (k'=vw.j))with
    |false=>rfl
    |true=>
     rw[Bool.and_eq_true]at h
     exact absurd (List.eq_nil_of_length_eq_zero (hlenr.1 ⟨of_decide_eq_true h.1,of_decide_eq_true h.2⟩)) hXr
   rw[this,Bool.false_or]
  refine Ao Aa ?_
  refine Ap (fun h6=>?_) (fun h6=>?_)
  have h6:(false||(m.fn&&((decide (p'=vw.q)&&decide (k'=vw.j))||!tb)))=true:=h6
  rw[hhead]at h6
  rw[if_pos h6]at g4
  refine x_via (σ:=Unit) (fun _=>⟨[(6,.r 9),(7,.p 5 0),(3,.p 2 0),(0,.p 0 0)],[],(9,.row 87 (tvY.d (T++[t])))::(5,.box 82 [.v (.pointer p'),.v (.int .i64 k')])::(2,.box 95 [.v (.pointer vw.p),.v (.int .i64 vw.k),.v (.pointer vw.q),.v (.int .i64 vw.j)])::xOw bm bp l1 N2,11⟩) (fun _ _=>True) (fun _=>by show 9≤11;omega) ?_ ?_
  refine Bw mix ?_
  refine At Aa (fuel:=6) [0] rfl (by kernel_rfl) (by kernel_rfl) (fun _ _ _ hh=>hh) (by kernel_rfl) (by kernel_rfl) ?_
  refine Aq 1 4 (by kernel_rfl) O O ?_ ?_
  refine Ab Aa ?_
  refine Aq 2 4 (by kernel_rfl) O O ?_ ?_
  refine As Aa tvY [t] [_] O O O O O O O O O O O O O O O ?_
  refine Ad ?_
  refine Aq 3 4 (by kernel_rfl) O O ?_ ?_
  refine Bm Aa tvY T [t] 64 O O O O O O O O (by kernel_rfl) O O O (fun E w F hs=>hs.rowAt (k:=9) rfl) tkOne rfl (by rw[List.length_singleton];omega) (by rw[List.length_singleton];omega) ?_
  refine Ad ?_
  refine At Aa (fuel:=2) [5] rfl (by kernel_rfl) (by kernel_rfl) (fun _ _ _ hh=>hh) (by kernel_rfl) (by kernel_rfl) ?_
  refine Ae (fuel:=0) [4,6] O O (by kernel_rfl) (Ab Aa ?_)
  refine Aj (by kernel_rfl) rfl ?_
  exact Af () [(9,some 10)] .z trivial
  refine Ab Aa ?_
  refine Ag 3 (by kernel_rfl) rfl ?_
  refine Bm Aa tvY T [t] 64 O O O O O O O O (by kernel_rfl) O O O (fun E w F hs=>hs.rowAt (k:=9) rfl) tkOne rfl (by rw[List.length_singleton];omega) (by rw[List.length_singleton];omega) ?_
  refine Ad ?_
  refine Ae (fuel:=0) [5,6] O O (by kernel_rfl) (Ab Aa ?_)
  refine Aj (by kernel_rfl) rfl ?_
  exact Af () [(9,some 10)] .z trivial
  refine Ab Aa ?_
  refine Ag 2 (by kernel_rfl) rfl ?_
  refine As Aa tvY [t] [_] O O O O O O O O O O O O O O O ?_
  refine Ad ?_
  refine Ag 3 (by kernel_rfl) rfl ?_
  refine Bm Aa tvY T [t] 64 O O O O O O O O (by kernel_rfl) O O O (fun E w F hs=>hs.rowAt (k:=9) rfl) tkOne rfl (by rw[List.length_singleton];omega) (by rw[List.length_singleton];omega) ?_
  refine Ad ?_
  refine Ae (fuel:=0) [5,6] O O (by kernel_rfl) (Ab Aa ?_)
  refine Aj (by kernel_rfl) rfl ?_
  exact Af () [(9,some 10)] .z trivial
  refine Ab Aa ?_
  refine Ae (fuel:=4) [1] O O (by kernel_rfl) (Ab Aa ?_)
  refine Ag 2 (by kernel_rfl) rfl ?_
  refine As Aa tvY [t] [_] O O O O O O O O O O O O O O O ?_
  refine Ad ?_
  refine Ag 3 (by kernel_rfl) rfl ?_
  refine Bm Aa tvY T [t] 64 O O O O O O O O (by kernel_rfl) O O O (fun E w F hs=>hs.rowAt (k:=9) rfl) tkOne rfl (by rw[List.length_singleton];omega) (by rw[List.length_singleton];omega) ?_
  refine Ad ?_
  refine Ae (fuel:=0) [5,6] O O (by kernel_rfl) (Ab Aa ?_)
  refine Aj (by kernel_rfl) rfl ?_
  exact Af () [(9,some 10)] .z trivial
  rintro _ u7 hu7 -
  exact Af (g,N2,l1,p',k',T++[t]) [] .z (hout N2 l1 t x u7 (((hu2.trans hu5).trans hu6).trans hu7) htx (hN2.sub (Ba (hu6.trans hu7).sub)) g4)
  have h6:(false||(m.fn&&((decide (p'=vw.q)&&decide (k'=vw.j))||!tb)))=false:=h6
  rw[hhead]at h6
  rw[if_neg (by rw[h6];simp)]at g4
  obtain⟨-,-,-,hz1,hz2⟩:=hM.ok _ _ _ hm
  have hus6:us.sub u6:=hus5.trans hu6.sub
  have hsub6:u0.sub u6:=hsub5.trans hu6.sub
  have hm06:=hu6.sub.h _ _ hmb5
  have hk26:(Bf u0 (dif us u5)).sub u6:=hk2.trans hu6.sub
  have hVk:VwX (Bf u0 (dif us u5)) ⟨p',k',vw.q,vw.j⟩ Xr:=hVr.sub hjk
  refine Az (Ao Aa ?_)
  refine Az (Ao Aa ?_)
  refine x_cut (σ:=(Option Addr×Nat×Nat)×Option Addr×Option Addr×Int) (fun((A,nn,cc),hp,p3,k3)=>⟨[(12,.v (.slice A nn cc)),(11,.v (.pointer hp)),(10,.v (.pointer (some ⟨mb,0,none⟩))),(8,.p 7 0),(9,.p 8 0),(7,.p 5 0),(6,.r 6),(3,.p 2 0),(0,.p 0 0)],[],(7,.box 87 ((tkC t).map .v))::(8,.box 82 [.v (.pointer p3),.v (.int .i64 k3)])::lOw bm bp l1 N2 vw p k T,12⟩)
   (fun((A,nn,cc),hp,p3,k3) u=>∃c:CallX,(if m.fn then callX m.ps.length m.va Xr else some ⟨[],x,Xr⟩)=some c∧Nw u0 (dif us u) (fun v=>(∃L,nn=L.length∧Aw v (.slice A L.length cc) (vwY.d L)∧VwsX v L c.args)∧Bk v hp (if m.fn then x.hide &&& c.close.hide else x.hide)∧VwX v ⟨p3,k3,vw.q,vw.j⟩ c.rest)) (fun _=>by show 9≤12;omega) ?_ ?_
  refine Az (Ao Aa ?_)
  refine xl_ptr 78 (mCells m sa++[.int .i64 (i:Int),xi,xu]) O O (ptAt_box hm06) ?_
  refine Ab Aa ?_
  refine Ao Aa ?_
  refine Ap (fun h7=>?_) (fun h7=>?_)
  have h7:m.fn=true:=h7
  have hXr:Xr≠[]:=fun e=>by
   rw[h7,e]at h6;cases h6
  obtain⟨P2,n2,s1,s2,s3,s4⟩:=hVk
  have hn20:0<n2:=by
   cases n2 with
   |zero=>
    rw[List.take_zero]at s4
    cases hx:Xr with
    |nil=>exact absurd hx hXr
    |cons a b=>rw[hx]at s4;exact s4.elim
   |succ n2=>omega
  have hn2l:n2≤1000000:=by
   have:=s4.len
   rw[List.length_take,Nat.min_eq_left s3]at this
   rw[List.length_cons]at z1
   omega
  cases hcx:callX m.ps.length m.va Xr with
  |none=>
   rw[h7,hcx]at g4
   have g4:RX.err 60=RL:=g4
   refine Ar (fun v _=>v=.tuple #[.agg #[.slice none 0 0,.pointer none,.pointer none,.int .i64 0],.int .i64 60]) O O O O fn72 O O (fun E w' F hs=>call_none hcx _ hPl s1 s2 s3 s4 hn20 hn2l hz1 w' (hk26.trans (Au hs.imm))) (fun v u1 u8 hu8 hn8 hR=>?_)
   subst hR
   refine Ab Aa ?_
   refine Be rfl ?_
   refine⟨(N2,(l1:Int),slr0,60),[],rfl,.of O O O O O rfl,rfl,Nat.le_refl _,by rw[←g4];exact⟨rfl,by decide⟩,fun v a b h=>by cases h⟩
  |some c=>
   refine Ar (fun v u1=>∃A L cc hp ap ak,v=.tuple #[.agg #[.slice A (List.length L) cc,.pointer hp,.pointer ap,.int .i64 ak],.int .i64 0]∧Nw (Bf u0 (dif us u5)) u1 (fun u=>Aw u (.slice A (List.length L) cc) (vwY.d L)∧VwsX u L c.args∧Bk u hp c.close.hide∧VwX u ⟨ap,ak,vw.q,vw.j⟩ c.rest)) O O O O fn72 O O (fun E w' F hs=>call_some hcx _ hPl s1 s2 s3 s4 hn20 hn2l hz1 w' (hk26.trans (Au hs.imm))) (fun v u1 u8 hu8 hn8 hR=>?_)
   obtain⟨A,L,cc,hp,ap,ak,rfl,hNc⟩:=hR
   have hus8:us.sub u8:=hus6.trans hu8.sub
   have hsub8:u0.sub u8:=hsub6.trans hu8.sub
   have hk80:=joinI_old u0 (dif us u8)
   have hk81:(dif us u8).sub (Bf u0 (dif us u8)):=joinI_new hus
   have hk8s:(Bf u0 (dif us u8)).sub u8:=Bn hsub8 (Bl us u8)
   have hk58:∀v,u0.sub v→(dif us u8).sub v→(Bf u0 (dif us u5)).sub v:=fun v a b=>Bn a ((Ba (hu6.trans hu8).sub).trans b)
   have hNc':Nw u0 (dif us u8) (fun u=>Aw u (.slice A (List.length L) cc) (vwY.d L)∧VwsX u L c.args∧Bk u hp c.close.hide∧VwX u ⟨ap,ak,vw.q,vw.j⟩ c.rest):=fun v a b=>hNc v (hk58 v a b) (hn8.trans ((Ch hus6).trans b))
   obtain⟨-,-,hS2,-⟩:=hNc' _ hk80 hk81
   have hS1:Bk (Bf u0 (dif us u8)) t.hp x.hide:=htx.hide.sub (hjk.trans (hk58 _ hk80 hk81))
   have hfin:∀(q:Option Addr) (u9 u10:Im),u8.le u10→u9.sub (dif u8 u10)→Nw (Bf u0 (dif us u8)) u9 (fun u'=>Bk u' q (x.hide &&& c.close.hide)) →
    ∃c':CallX,(if m.fn then some c else some ⟨[],x,Xr⟩)=some c'∧Nw u0 (dif us u10) (fun v=>(∃L',L.length=L'.length∧Aw v (.slice A L'.length cc) (vwY.d L')∧VwsX v L' c'.args)∧Bk v q (if m.fn then x.hide &&& c'.close.hide else x.hide)∧VwX v ⟨ap,ak,vw.q,vw.j⟩ c'.rest):=fun q u9 u10 hu10 hn10 hq=>
    ⟨c,by rw[h7];rfl,fun v a b=>by
     obtain⟨y1,y2,y3,y4⟩:=hNc' v a ((Ba hu10.sub).trans b)
     refine⟨⟨L,rfl,y1,y2⟩,?_,y4⟩
     rw[h7]
     exact hq v (Bn a ((Ba hu10.sub).trans b)) (hn10.trans ((Ch hus8).trans b))⟩
   refine Ab Aa ?_
   refine x_iff rfl ?_
   show X _ _ _ _ _
   refine Bw mix ?_
   refine At Aa (fuel:=7) [0,1,4,6] rfl (by kernel_rfl) (by kernel_rfl) (fun _ _ _ hh=>hh) (by kernel_rfl) (by kernel_rfl) ?_
   refine xa_three 2 5 7 (by kernel_rfl) O O O ?_ ?_ ?_
   refine Ab Aa ?_
   refine xa_three 3 5 7 (by kernel_rfl) O O O ?_ ?_ ?_
   refine Ar (fun v u1=>∃q,v=.pointer q∧Nw (Bf u0 (dif us u8)) u1 (fun u'=>Bk u' q (x.hide &&& c.close.hide))) O O O O fn73 O O (fun E w' F hs=>Cb t.hp hp x.hide c.close.hide (Bf u0 (dif us u8)) w' (hk8s.trans (Au hs.imm)) hS1 hS2) (fun v u9 u10 hu10 hn10 hR=>?_)
   obtain⟨q,rfl,hq⟩:=hR
   refine Ad ?_
   refine At Aa (fuel:=4) [8] rfl (by kernel_rfl) (by kernel_rfl) (fun _ _ _ hh=>hh) (by kernel_rfl) (by kernel_rfl) ?_
   refine Aq 5 7 (by kernel_rfl) O O ?_ ?_
   refine Ab Aa ?_
   refine At Aa (fuel:=2) [9] rfl (by kernel_rfl) (by kernel_rfl) (fun _ _ _ hh=>hh) (by kernel_rfl) (by kernel_rfl) ?_
   refine Ae (fuel:=0) [7,10] O O (by kernel_rfl) (Ab Aa ?_)
   refine Aj (by kernel_rfl) rfl ?_
   exact Af ((A,L.length,cc),q,ap,ak) [] .z (hfin q u9 u10 hu10 hn10 hq)
   refine Ab Aa ?_
   refine Ae (fuel:=0) [5,9,10] O O (by kernel_rfl) (Ab Aa ?_)
   refine Aj (by kernel_rfl) rfl ?_
   exact Af ((A,L.length,cc),q,ap,ak) [] .z (hfin q u9 u10 hu10 hn10 hq)
   refine Ab Aa ?_
   refine Aq 3 7 (by kernel_rfl) O O ?_ ?_
   refine Ar (fun v u1=>∃q,v=.pointer q∧Nw (Bf u0 (dif us u8)) u1 (fun u'=>Bk u' q (x.hide &&& c.close.hide))) O O O O fn73 O O (fun E w' F hs=>Cb t.hp hp x.hide c.close.hide (Bf u0 (dif us u8)) w' (hk8s.trans (Au hs.imm)) hS1 hS2) (fun v u9 u10 hu10 hn10 hR=>?_)
   obtain⟨q,rfl,hq⟩:=hR
   refine Ad ?_
   refine At Aa (fuel:=2) [8,9] rfl (by kernel_rfl) (by kernel_rfl) (fun _ _ _ hh=>hh) (by kernel_rfl) (by kernel_rfl) ?_
   refine Ae (fuel:=0) [7,10] O O (by kernel_rfl) (Ab Aa ?_)
   refine Aj (by kernel_rfl) rfl ?_
   exact Af ((A,L.length,cc),q,ap,ak) [] .z (hfin q u9 u10 hu10 hn10 hq)
   refine Ab Aa ?_
   refine Ag 3 (by kernel_rfl) rfl ?_
   refine Ar (fun v u1=>∃q,v=.pointer q∧Nw (Bf u0 (dif us u8)) u1 (fun u'=>Bk u' q (x.hide &&& c.close.hide))) O O O O fn73 O O (fun E w' F hs=>Cb t.hp hp x.hide c.close.hide (Bf u0 (dif us u8)) w' (hk8s.trans (Au hs.imm)) hS1 hS2) (fun v u9 u10 hu10 hn10 hR=>?_)
   obtain⟨q,rfl,hq⟩:=hR
   refine Ad ?_
   refine Ae (fuel:=0) [8,9,10] O O (by kernel_rfl) (Ab Aa ?_)
   refine Aj (by kernel_rfl) rfl ?_
   exact Af ((A,L.length,cc),q,ap,ak) [] .z (hfin q u9 u10 hu10 hn10 hq)
   refine Ab Aa ?_
   refine Aq 3 5 (by kernel_rfl) O O ?_ ?_
   refine Ar (fun v u1=>∃q,v=.pointer q∧Nw (Bf u0 (dif us u8)) u1 (fun u'=>Bk u' q (x.hide &&& c.close.hide))) O O O O fn73 O O (fun E w' F hs=>Cb t.hp hp x.hide c.close.hide (Bf u0 (dif us u8)) w' (hk8s.trans (Au hs.imm)) hS1 hS2) (fun v u9 u10 hu10 hn10 hR=>?_)
   obtain⟨q,rfl,hq⟩:=hR
   refine Ad ?_
   refine At Aa (fuel:=3) [8] rfl (by kernel_rfl) (by kernel_rfl) (fun _ _ _ hh=>hh) (by kernel_rfl) (by kernel_rfl) ?_
   refine Ae (fuel:=0) [5,9,10] O O (by kernel_rfl) (Ab Aa ?_)
   refine Aj (by kernel_rfl) rfl ?_
   exact Af ((A,L.length,cc),q,ap,ak) [] .z (hfin q u9 u10 hu10 hn10 hq)
   refine Ab Aa ?_
   refine Ag 3 (by kernel_rfl) rfl ?_
   refine Ar (fun v u1=>∃q,v=.pointer q∧Nw (Bf u0 (dif us u8)) u1 (fun u'=>Bk u' q (x.hide &&& c.close.hide))) O O O O fn73 O O (fun E w' F hs=>Cb t.hp hp x.hide c.close.hide (Bf u0 (dif us u8)) w' (hk8s.trans (Au hs.imm)) hS1 hS2) (fun v u9 u10 hu10 hn10 hR=>?_)
   obtain⟨q,rfl,hq⟩:=hR
   refine Ad ?_
   refine Ae (fuel:=0) [8,9,10] O O (by kernel_rfl) (Ab Aa ?_)
   refine Aj (by kernel_rfl) rfl ?_
   exact Af ((A,L.length,cc),q,ap,ak) [] .z (hfin q u9 u10 hu10 hn10 hq)
   refine Ab Aa ?_
   refine Aq 2 7 (by kernel_rfl) O O ?_ ?_
   refine Ab Aa ?_
   refine Aq 3 7 (by kernel_rfl) O O ?_ ?_
   refine Ar (fun v u1=>∃q,v=.pointer q∧Nw (Bf u0 (dif us u8)) u1 (fun u'=>Bk u' q (x.hide &&& c.close.hide))) O O O O fn73 O O (fun E w' F hs=>Cb t.hp hp x.hide c.close.hide (Bf u0 (dif us u8)) w' (hk8s.trans (Au hs.imm)) hS1 hS2) (fun v u9 u10 hu10 hn10 hR=>?_)
   obtain⟨q,rfl,hq⟩:=hR
   refine Ad ?_
   refine At Aa (fuel:=2) [8,9] rfl (by kernel_rfl) (by kernel_rfl) (fun _ _ _ hh=>hh) (by kernel_rfl) (by kernel_rfl) ?_
   refine Ae (fuel:=0) [7,10] O O (by kernel_rfl) (Ab Aa ?_)
   refine Aj (by kernel_rfl) rfl ?_
   exact Af ((A,L.length,cc),q,ap,ak) [] .z (hfin q u9 u10 hu10 hn10 hq)
   refine Ab Aa ?_
   refine Ag 3 (by kernel_rfl) rfl ?_
   refine Ar (fun v u1=>∃q,v=.pointer q∧Nw (Bf u0 (dif us u8)) u1 (fun u'=>Bk u' q (x.hide &&& c.close.hide))) O O O O fn73 O O (fun E w' F hs=>Cb t.hp hp x.hide c.close.hide (Bf u0 (dif us u8)) w' (hk8s.trans (Au hs.imm)) hS1 hS2) (fun v u9 u10 hu10 hn10 hR=>?_)
   obtain⟨q,rfl,hq⟩:=hR
   refine Ad ?_
   refine Ae (fuel:=0) [8,9,10] O O (by kernel_rfl) (Ab Aa ?_)
   refine Aj (by kernel_rfl) rfl ?_
   exact Af ((A,L.length,cc),q,ap,ak) [] .z (hfin q u9 u10 hu10 hn10 hq)
   refine Ab Aa ?_
   refine Ae (fuel:=4) [2] O O (by kernel_rfl) (Ab Aa ?_)
   refine Ag 3 (by kernel_rfl) rfl ?_
   refine Ar (fun v u1=>∃q,v=.pointer q∧Nw (Bf u0 (dif us u8)) u1 (fun u'=>Bk u' q (x.hide &&& c.close.hide))) O O O O fn73 O O (fun E w' F hs=>Cb t.hp hp x.hide c.close.hide (Bf u0 (dif us u8)) w' (hk8s.trans (Au hs.imm)) hS1 hS2) (fun v u9 u10 hu10 hn10 hR=>?_)
   obtain⟨q,rfl,hq⟩:=hR
   refine Ad ?_
   refine Ae (fuel:=0) [8,9,10] O O (by kernel_rfl) (Ab Aa ?_)
   refine Aj (by kernel_rfl) rfl ?_
   exact Af ((A,L.length,cc),q,ap,ak) [] .z (hfin q u9 u10 hu10 hn10 hq)
   refine Ab Aa ?_
   refine Aq 2 5 (by kernel_rfl) O O ?_ ?_
   refine Ab Aa ?_
   refine Aq 3 5 (by kernel_rfl) O O ?_ ?_
   refine Ar (fun v u1=>∃q,v=.pointer q∧Nw (Bf u0 (dif us u8)) u1 (fun u'=>Bk u' q (x.hide &&& c.close.hide))) O O O O fn73 O O (fun E w' F hs=>Cb t.hp hp x.hide c.close.hide (Bf u0 (dif us u8)) w' (hk8s.trans (Au hs.imm)) hS1 hS2) (fun v u9 u10 hu10 hn10 hR=>?_)
   obtain⟨q,rfl,hq⟩:=hR
   refine Ad ?_
   refine At Aa (fuel:=3) [8] rfl (by kernel_rfl) (by kernel_rfl) (fun _ _ _ hh=>hh) (by kernel_rfl) (by kernel_rfl) ?_
   refine Ae (fuel:=0) [5,9,10] O O (by kernel_rfl) (Ab Aa ?_)
   refine Aj (by kernel_rfl) rfl ?_
   exact Af ((A,L.length,cc),q,ap,ak) [] .z (hfin q u9 u10 hu10 hn10 hq)
   refine Ab Aa ?_
   refine Ag 3 (by kernel_rfl) rfl ?_
   refine Ar (fun v u1=>∃q,v=.pointer q∧Nw (Bf u0 (dif us u8)) u1 (fun u'=>Bk u' q (x.hide &&& c.close.hide))) O O O O fn73 O O (fun E w' F hs=>Cb t.hp hp x.hide c.close.hide (Bf u0 (dif us u8)) w' (hk8s.trans (Au hs.imm)) hS1 hS2) (fun v u9 u10 hu10 hn10 hR=>?_)
   obtain⟨q,rfl,hq⟩:=hR
   refine Ad ?_
   refine Ae (fuel:=0) [8,9,10] O O (by kernel_rfl) (Ab Aa ?_)
   refine Aj (by kernel_rfl) rfl ?_
   exact Af ((A,L.length,cc),q,ap,ak) [] .z (hfin q u9 u10 hu10 hn10 hq)
   refine Ab Aa ?_
   refine Ae (fuel:=4) [2] O O (by kernel_rfl) (Ab Aa ?_)
   refine Ag 3 (by kernel_rfl) rfl ?_
   refine Ar (fun v u1=>∃q,v=.pointer q∧Nw (Bf u0 (dif us u8)) u1 (fun u'=>Bk u' q (x.hide &&& c.close.hide))) O O O O fn73 O O (fun E w' F hs=>Cb t.hp hp x.hide c.close.hide (Bf u0 (dif us u8)) w' (hk8s.trans (Au hs.imm)) hS1 hS2) (fun v u9 u10 hu10 hn10 hR=>?_)
   obtain⟨q,rfl,hq⟩:=hR
   refine Ad ?_
   refine Ae (fuel:=0) [8,9,10] O O (by kernel_rfl) (Ab Aa ?_)
   refine Aj (by kernel_rfl) rfl ?_
   exact Af ((A,L.length,cc),q,ap,ak) [] .z (hfin q u9 u10 hu10 hn10 hq)
  have h7:m.fn=false:=h7
  refine Af ((none,0,0),t.hp,p',k') [] .z ⟨⟨[],x,Xr⟩,by rw[h7];rfl,fun v a b=>?_⟩
  have hkv:(Bf u0 (dif us u5)).sub v:=Bn a ((Ba hu6.sub).trans b)
  refine⟨⟨[],rfl,slAt_nil _ _ rfl,trivial⟩,?_,hVk.sub hkv⟩
  rw[h7]
  exact htx.hide.sub (hjk.trans hkv)
  rintro⟨⟨A,nn,cc⟩,hp,p3,k3⟩ u7 hu7 ⟨c,hc,c2⟩
  rw[hc]at g4
  have hus7:us.sub u7:=hus6.trans hu7.sub
  have hsub7:u0.sub u7:=hsub6.trans hu7.sub
  have hk70:=joinI_old u0 (dif us u7)
  have hk71:(dif us u7).sub (Bf u0 (dif us u7)):=joinI_new hus
  have hk7s:(Bf u0 (dif us u7)).sub u7:=Bn hsub7 (Bl us u7)
  have hk57:∀v,u0.sub v→(dif us u7).sub v→(Bf u0 (dif us u5)).sub v:=fun v a b=>Bn a ((Ba (hu6.trans hu7).sub).trans b)
  obtain⟨⟨L,hnn,y1,y2⟩,y3,y4⟩:=c2 _ hk70 hk71
  subst hnn
  have hgat:(decide (c.args.length≤100000)&&c.args.all (fun X=>decide (X.length≤100000)))=true:=by
   cases h:(decide (c.args.length≤100000)&&c.args.all (fun X=>decide (X.length≤100000)))with
   |true=>rfl
   |false=>
    have g4:(if(decide (c.args.length≤100000)&&c.args.all (fun X=>decide (X.length≤100000)))=true then putX (listX (msOf M) g) x i m Xo c (fillX (listX (msOf M) g) m (N2.map (·.1)) l1 c.args)else .stuck)=RL:=g4
    rw[if_neg (by rw[h];simp)]at g4
    exact absurd g4.symm hns
  have g4:putX (listX (msOf M) g) x i m Xo c (fillX (listX (msOf M) g) m (N2.map (·.1)) l1 c.args)=RL:=by
   rw[←g4]
   show _=if _ then _ else _
   rw[if_pos hgat]
  rw[Bool.and_eq_true,decide_eq_true_eq,List.all_eq_true]at hgat
  obtain⟨hga,hgb⟩:=hgat
  obtain⟨FX,hFX⟩:∃FX,FX=fillX (listX (msOf M) g) m (N2.map (·.1)) l1 c.args:=⟨_,rfl⟩
  have hfns:FX≠.stuck:=fun e=>by
   rw[←hFX,e]at g4
   exact absurd g4.symm hns
  obtain⟨hVS,HM⟩:∃h,h=(if m.fn then x.hide &&& c.close.hide else x.hide):=⟨_,rfl⟩
  have hfill:=fill_scx (hC g (by omega)) (bp:=bp) (hG.sub hk70) (hM.sub hk70) (hN2 _ hk70 ((Ba (hu6.trans hu7).sub).trans hk71)) (hPl.sub (hk57 _ hk70 hk71)) y1 y2 (by omega) (fun X hX=>by have:=of_decide_eq_true (hgb X hX);omega)
   (by
    have:=itF_len m.fn (numP m) m.body m.body.length 0 false
    have e:itemsL m.fn (numP m) m.body=itF m.fn (numP m) m.body m.body.length 0 false:=rfl
    rw[e];omega) (by rw[←hFX];exact hfns)
  rw[←hFX]at hfill g4
  refine Az (Ao Aa ?_)
  refine xl_callSCX hfill hk7s [0,1] O O O O fn74 O O O O O O ⟨trivial,fun _ _ _ _ h=>h,trivial⟩ rfl (fun q=>?_) (fun q=>?_) (fun q u8 hu8 hFt hNf=>?_)
  obtain⟨a1,a2,a3,a4,a5⟩:=q
  show pGL (filO bm bp a2 a1 a3 a4 a5).1
  unfold filO
  split
  exact⟨fun _ _ _ _ h=>h,trivial,fun _ _ _ _ h=>h,trivial⟩
  exact⟨trivial,fun _ _ _ _ h=>h,trivial⟩
  obtain⟨a1,a2,a3,a4,a5⟩:=q
  show okRes (filO bm bp a2 a1 a3 a4 a5).2.2=true
  unfold filO
  split<;>rfl
  obtain⟨N3,l3,A3,T3,e⟩:=q
  obtain⟨hFt,hA0,hA1⟩:FX.Fits e (N3.map (·.1)) l3∧(A3=none→T3.length=0)∧(∀ad,A3=some ad→ad=⟨ad.block,0,none⟩):=hFt
  have hNf:Nw (Bf u0 (dif us u7)) (dif u7 u8) (fun u=>e=0→PSt u M N3∧TksR u T3 (FX.val [])):=hNf
  by_cases he:e=0
  subst he
  obtain⟨NS3,lf3,FT,rfl⟩:∃a b d,FX=.ok a b d:=by
   cases FX with
   |stuck=>exact hFt.elim
   |ok a b d=>exact⟨a,b,d,rfl⟩
   |err e'=>exact absurd rfl hFt.2
  obtain⟨-,rfl,rfl⟩:=hFt
  have hfz:FT.length≤1000000:=by
   by_cases h:FT.length≤1000000
   exact h
   have g4:(if FT.length≤1000000 then listX (msOf M) g (N3.map (·.1)) lf3 (spX x.space (FT.map (hideX ((if m.fn then x.hide &&& c.close.hide else x.hide) ||| 1 <<< i)))++c.rest) Xo else .stuck)=RL:=g4
   rw[if_neg h]at g4
   exact absurd g4.symm hns
  have g4:listX (msOf M) g (N3.map (·.1)) lf3 (spX x.space (FT.map (hideX ((if m.fn then x.hide &&& c.close.hide else x.hide) ||| 1 <<< i)))++c.rest) Xo=RL:=by
   rw[←g4]
   show _=if _ then _ else _
   rw[if_pos hfz]
  rw[←HM]at g4 y3
  have hN3:Nw u0 (dif us u8) (fun v=>PSt v M N3∧TksR v T3 FT):=(Nw.lift hus hus7 hu8.sub hNf).imp fun _ h=>h rfl
  have hus8:us.sub u8:=hus7.trans hu8.sub
  have hsub8:u0.sub u8:=hsub7.trans hu8.sub
  have hk80:=joinI_old u0 (dif us u8)
  have hk81:(dif us u8).sub (Bf u0 (dif us u8)):=joinI_new hus
  have hk8s:(Bf u0 (dif us u8)).sub u8:=Bn hsub8 (Bl us u8)
  have hk78:(Bf u0 (dif us u7)).sub (Bf u0 (dif us u8)):=Bn hk80 ((Ba hu8.sub).trans hk81)
  have hm08:=(hu7.trans hu8).sub.h _ _ hm06
  have hT3l:T3.length=FT.length:=(hN3 _ hk80 hk81).2.len
  have hil:i≤60000000:=by
   have:=calX_len hcal
   rw[List.length_map]at this
   omega
  have hfil:filO bm bp lf3 N3 A3 T3 0=((2,.gen (clipR A3 87 (tvY.d T3)))::xOw bm bp lf3 N3,3,[.v (.slice A3 T3.length T3.length),.v (.int .i64 0)]):=if_pos rfl
  show XL _ _ _ _ ⟨(_,resSV _ (filO bm bp lf3 N3 A3 T3 0).2.2)::_,_,mergeOw [0,1] 2 12 (filO bm bp lf3 N3 A3 T3 0).1 _,12+((filO bm bp lf3 N3 A3 T3 0).2.1-2)⟩ _
  rw[hfil]
  refine Ab Aa ?_
  refine Az (Az (Ao Aa ?_))
  refine Ao Aa ?_
  refine x_iff rfl ?_
  refine Az (Ao Aa ?_)
  refine xl_ptr 116 (mCells m sa++[.int .i64 (i:Int),xi,xu]) O O (ptAt_box hm08) ?_
  refine Ab Aa ?_
  refine Ar (fun v u1=>∃q,v=.pointer q∧Nw (Bf u0 (dif us u8)) u1 (fun u'=>Bk u' q (hVS ||| 1 <<< i))) rfl rfl rfl rfl fn76 rfl rfl (fun E w' F hs=>with_any hp hVS i (Bf u0 (dif us u8)) w' (hk8s.trans (Au hs.imm)) (y3.sub hk78) hil) (fun v ux u9 hu9 hn9 hR=>?_)
  obtain⟨q,rfl,hq⟩:=hR
  refine Ab Aa ?_
  have hus9:us.sub u9:=hus8.trans hu9.sub
  have hsub9:u0.sub u9:=hsub8.trans hu9.sub
  have hk90:=joinI_old u0 (dif us u9)
  have hk91:(dif us u9).sub (Bf u0 (dif us u9)):=joinI_new hus
  have hk9s:(Bf u0 (dif us u9)).sub u9:=Bn hsub9 (Bl us u9)
  have hq9:Bk (Bf u0 (dif us u9)) q (hVS ||| 1 <<< i):=hq _ (Bn hk90 ((Ba hu9.sub).trans hk91)) (hn9.trans ((Ch hus8).trans hk91))
  have hT9:TksR (Bf u0 (dif us u9)) T3 FT:=(hN3 _ hk90 ((Ba hu9.sub).trans hk91)).2
  refine xl_callSCX (hideAllC_scx hA0 hA1 hT9 hq9 (by omega)) hk9s [12] O O O O fn75 O O O O O O ⟨fun _ _ _ _ h=>h,trivial⟩ rfl (fun _=>⟨fun _ _ _ _ h=>h,trivial⟩) (fun _=>rfl) (fun L4 u10 hu10 hL4 hNh=>?_)
  have hL4:L4.length=T3.length:=hL4
  have hus10:us.sub u10:=hus9.trans hu10.sub
  have hNh:Nw u0 (dif us u10) (fun v=>TksR v L4 (FT.map (hideX (hVS ||| 1 <<< i)))):=Nw.lift hus hus9 hu10.sub hNh
  refine Ab Aa ?_
  refine Az ?_
  refine x_via (σ:=Option Addr×Int) (fun(pz,kz)=>⟨[(9,.p 8 0),(7,.p 5 0),(6,.r 6),(3,.p 2 0),(0,.p 0 0)],[],(8,.box 82 [.v (.pointer pz),.v (.int .i64 kz)])::lOw bm bp lf3 N3 vw p k T,20⟩)
   (fun(pz,kz) u=>Nw u0 (dif us u) (fun v=>VwX v ⟨pz,kz,vw.q,vw.j⟩ (spX x.space (FT.map (hideX (hVS ||| 1 <<< i)))++c.rest))) (fun _=>by show 14≤20;omega) ?_ ?_
  refine Az (Ao Aa ?_)
  refine Ao Aa ?_
  refine Ap (fun h9=>?_) (fun h9=>?_)
  have h9:decide ((T3.length:Int) > 0)=true:=h9
  have h9:=of_decide_eq_true h9
  obtain⟨bb,rfl⟩:∃bb,A3=some ⟨bb,0,none⟩:=by
   cases A3 with
   |none=>have:=hA0 rfl;omega
   |some ad=>exact⟨ad.block,by rw[←hA1 ad rfl]⟩
  obtain⟨y,hy⟩:∃y,L4[0]?=some y:=⟨_,List.getElem?_eq_getElem (by omega)⟩
  have hLy:L4.getD 0 tvY.dft=y:=by rw[List.getD_eq_getElem?_getD,hy];rfl
  have hset:L4.set 0 ⟨{y.pv with space:=t.pv.space},y.hp⟩=spT t.pv.space L4:=by
   cases L4 with
   |nil=>simp at hy
   |cons a r=>
    simp only[List.getElem?_cons_zero,Option.some.injEq]at hy
    subst hy;rfl
  refine xl_idxV Aa O O O O O O O O O (fun _=>⟨by omega,by omega⟩) ?_
  refine Cl Aa O O O O O O O ?_
  refine Cl Aa O O O O O O O ?_
  refine xl_storeC (k:=12) Aa tvY L4 ⟨{y.pv with space:=t.pv.space},y.hp⟩ 0 2 (cs:=[.bool t.pv.space]) O O O O O O O ?_ (by omega) O O (by show 2+1≤5;omega) (by rw[hLy];rfl) ?_
  rfl
  rw[hset]
  refine Ab Aa ?_
  have hsT:(spT t.pv.space L4).length=L4.length:=by cases L4<;>rfl
  refine xl_freezeC 12 rfl (fun u11 hu11 hA11 hAn11=>?_)
  refine xl_freezeBox 14 O O (fun cb u12 hu12 hcb hcb2=>?_)
  refine Ab Aa ?_
  have hus11:us.sub u11:=hus10.trans hu11.sub
  have hb7:(Bf u0 (dif us u7)).h cb=none:=dif_none (hk7s.trans (((hu8.trans hu9).trans hu10).trans hu11).sub) hcb
  refine Af (some ⟨cb,0,none⟩,0) [] .z (fun v a b=>?_)
  have hkv:(Bf u0 (dif us u7)).sub v:=Bn a ((Ba ((((hu8.trans hu9).trans hu10).trans hu11).trans hu12).sub).trans b)
  have hcv:=b.h _ _ (dif_new (dif_none hus11 hcb) hcb2)
  rw[hsT,hL4]at hA11
  refine vwX_push (T:=spT t.pv.space L4) (c:=T3.length) (A:=⟨bb,0,none⟩) y4 hkv hb7 ?_ rfl ?_ (by omega) ?_
  rw[hsT,hL4];exact hcv
  rw[hsT,hL4]
  exact(hA11.difOf (us:=us) (fun ad had=>dif_none hus10 (hAn11 ad had).1)).sub ((Ba hu12.sub).trans b)
  rw[htx.space]
  exact(hNh v a ((Ba (hu11.trans hu12).sub).trans b)).sp _
  have h9:decide ((T3.length:Int) > 0)=false:=h9
  have h9:=of_decide_eq_false h9
  obtain rfl:FT=[]:=List.eq_nil_of_length_eq_zero (by omega)
  refine Af (p3,k3) [] .z (fun v a b=>?_)
  exact(c2 v a ((Ba (hu8.trans (hu9.trans hu10)).sub).trans b)).2.2
  rintro⟨pz,kz⟩ u11 hu11 hz11
  refine Ao Aa ?_
  refine Af (g,N3,lf3,pz,kz,T) [(9,some 6)] .z ⟨Nat.lt_succ_self _,_,Xo,fun v a b=>⟨(hN3 v a ((Ba (hu9.trans (hu10.trans hu11)).sub).trans b)).1,hz11 v a b,?_⟩,g4⟩
  exact(g3 v a ((Ba ((((((((hu2.trans hu5).trans hu6).trans hu7).trans hu8).trans hu9).trans hu10).trans hu11)).sub).trans b)).2.2
  have hfil:filO bm bp l3 N3 A3 T3 e=(xOw bm bp l3 N3,3,[.v (.slice none 0 0),.v (.int .i64 e)]):=by unfold filO;rw[if_neg he]
  show XL _ _ _ _ ⟨(_,resSV _ (filO bm bp l3 N3 A3 T3 e).2.2)::_,_,mergeOw [0,1] 2 12 (filO bm bp l3 N3 A3 T3 e).1 _,12+((filO bm bp l3 N3 A3 T3 e).2.1-2)⟩ _
  rw[hfil]
  refine Ab Aa ?_
  refine Az (Az (Ao Aa ?_))
  refine Ao Aa ?_
  refine Be (show decide (e≠0)=true from decide_eq_true he) ?_
  have hrl:RL=.err e:=by
   cases FX with
   |stuck=>exact hFt.elim
   |ok a b d=>exact absurd hFt.1 he
   |err e'=>
    obtain⟨rfl,_⟩:=hFt
    exact g4.symm
  exact⟨(N3,l3,slr0,e),[],rfl,.of O O O O O rfl,rfl,Nat.le_refl _,by rw[hrl];exact⟨rfl,he⟩,fun v a b h=>absurd h he⟩
 rintro⟨g1,N2,l2,p2,k2,T2⟩ u2 hu2 ⟨c1,Xr2,Xo2,c2,c3⟩
 refine Ao Aa ?_
 refine Bj (g1,N2,l2,p2,k2,T2) [(5,some 10),(6,some 9)] .z ⟨by omega,Xr2,Xo2,c2,c3⟩ (by show g1<g+1;omega)
 have h1:(!(decide (p=vw.q)&&decide (k=vw.j)))=false:=h1
 obtain rfl:Xr=[]:=by
  rw[Bool.not_eq_false',Bool.and_eq_true]at h1
  exact List.eq_nil_of_length_eq_zero (hsame.1 ⟨of_decide_eq_true h1.1,of_decide_eq_true h1.2⟩)
 have g4:RX.ok (N1.map (·.1)) l1 Xo=RL:=g4
 refine x_freezeS 6 rfl (fun A c u2 hu2 hA hAn=>?_)
 refine Ao Aa ?_
 have hTn:(tvY.d T).n=T.length:=Lay.d_n _ _
 refine⟨(N1,(l1:Int),⟨A,(tvY.d T).n,c⟩,0),[],rfl,.of O O O O O rfl,rfl,Nat.le_refl _,by rw[←g4];exact⟨rfl,rfl,rfl⟩,fun v a b _=>?_⟩
 obtain⟨d1,d2,d3⟩:=g3 v a ((Ba hu2.sub).trans b)
 refine⟨d1,?_⟩
 rw[←g4]
 refine⟨T,?_,hTn,d3⟩
 rw[hTn]at hA
 exact(hA.difOf (us:=us) (fun ad had=>dif_none hu.sub (hAn ad had).1)).sub b
theorem listC_all (M:ME) (bm nm f:Nat):ListC M bm nm f:=Nat.strongRecOn f fun _ ih=>list_step ih
end Go.Proofs.YtnjlkdhdinfejaaGreat
namespace Go.GV
open Go.RowKit
theorem x_freezeSB {C:Cx} {cc:Code} {Q:Bb} {kn:Kn} {gk:List (Nat×(Gd×SV))} {ow:Own} {nx:Nat} {u:Im} (k kb:Nat) {e:TypeId} {D:Data} {t:Nat} {cs:List SV} (hk:look ow k=some (.row e D)) (hb:look ow kb=some (.box t cs))
 (K:∀A c u',u.le u'→Aw u' (.slice A D.n c) D→(∀ad,A=some ad→u.h ad.block=none∧ad.spot=none)→X C cc Q ⟨frz k (.slice A D.n c) kn,gk,(k,.emp)::(kb,.box t (cs.map (SV.frz k (.slice A D.n c))))::ow,nx⟩ u'):X C cc Q ⟨kn,gk,ow,nx⟩ u:=by
 unfold X at K ⊢
 intro E a w hok
 obtain⟨f,hsat⟩:=hok.sat
 obtain⟨A,c,hv⟩:=ownsRow_sl (hsat.holds k _ hk).1
 have n1:kb≠k:=fun hh=>by rw[hh,hk]at hb;cases hb
 have hoff:∀ad,A=some ad→u.h ad.block=none∧ad.spot=none:=fun ad had=>
  ⟨hsat.off k _ (((hsat.holds k _ hk).2 _).2 (by rw[hv,had];rfl)),ownsRow_spot (hv▸(hsat.holds k _ hk).1) ad had⟩
 obtain⟨u',hu,hsl,hsat'⟩:=(hsat.boxFrz hv hb).freeze (k:=k) (e:=e) (D:=D) (by rw[Ac,if_neg n1];exact hk)
 have:=K A c u' hu (hv▸hsl) hoff E a w ⟨hok.agr.frz hv,_,hsat'⟩
 exact Go.wpIn_mono this (fun e a w=>Cd.mono (fun _ _=>rfl) (Nat.le_refl _) hu)
end Go.GV
namespace Go.Proofs.YtnjlkdhdinfejaaGreat
open Go.GV Go.RowKit
structure PvR (u:Im) (t:PV) (x:XT):Prop where
 kind:t.kind=x.kind
 text:t.text=x.text
 space:t.space=x.space
 parts:Aw u (.slice t.pa t.pn t.pc) (Bh.d x.parts)
theorem PvR.sub {u u':Im} {t:PV} {x:XT} (h:PvR u t x) (hu:u.sub u'):PvR u' t x:=⟨h.kind,h.text,h.space,h.parts.sub hu⟩
def PvsR (u:Im):List PV→List XT→Prop
 |[],[]=>True
 |t::T,x::X=>PvR u t x∧PvsR u T X
 |_,_=>False
theorem PvsR.sub {u u':Im} (hu:u.sub u'):∀ {T:List PV} {X:List XT},PvsR u T X→PvsR u' T X
 |[],[],_=>trivial
 |_::_,_::_,h=>⟨h.1.sub hu,PvsR.sub hu h.2⟩
 |[],_::_,h=>h.elim
 |_::_,[],h=>h.elim
theorem PvsR.len {u:Im}:∀ {T:List PV} {X:List XT},PvsR u T X→T.length=X.length
 |[],[],_=>rfl
 |_::_,_::_,h=>by rw[List.length_cons,List.length_cons,PvsR.len h.2]
 |[],_::_,h=>h.elim
 |_::_,[],h=>h.elim
theorem PvsR.snoc {u:Im}:∀ {T:List PV} {X:List XT} {t:PV} {x:XT},PvsR u T X→PvR u t x→PvsR u (T++[t]) (X++[x])
 |[],[],_,_,_,k=>⟨k,trivial⟩
 |_::_,_::_,_,_,h,k=>⟨h.1,PvsR.snoc h.2 k⟩
 |[],_::_,_,_,h,_=>h.elim
 |_::_,[],_,_,h,_=>h.elim
theorem PvsR.get {u:Im}:∀ {T:List PV} {X:List XT} {i:Nat} {t:PV},PvsR u T X→T[i]?=some t→∃x,X[i]?=some x∧PvR u t x
 |[],[],_,_,_,h=>by simp at h
 |y::_,x::_,0,t,h,ht=>by
  simp only[List.getElem?_cons_zero,Option.some.injEq]at ht
  subst ht
  exact⟨x,rfl,h.1⟩
 |_::T,_::X,i+1,t,h,ht=>by
  obtain⟨x,h1,h2⟩:=PvsR.get (i:=i) h.2 (by simpa using ht)
  exact⟨x,by simpa using h1,h2⟩
 |[],_::_,_,_,h,_=>h.elim
 |_::_,[],_,_,h,_=>h.elim
def pvT (t:PV):TV:=⟨t,none⟩
theorem PvsR.tks {u:Im}:∀ {T:List PV} {X:List XT},PvsR u T X→(∀x∈X,x.hide=0)→TksR u (T.map pvT) X
 |[],[],_,_=>trivial
 |t::T,x::X,h,k=>⟨⟨h.1.kind,h.1.text,h.1.space,h.1.parts,by rw[k x List.mem_cons_self];rfl⟩,PvsR.tks h.2 fun y hy=>k y (List.mem_cons_of_mem _ hy)⟩
 |[],_::_,h,_=>h.elim
 |_::_,[],h,_=>h.elim
def withX (ms:ByteArray→Option MT) (f left:Nat) (X:List XT):RX (List XT):=
 match listX ms f [] left X []with
 |.stuck=>.stuck
 |.err e=>.err e
 |.ok NS l out=>if(decide (out.length≤1000000)&&out.all (fun x=>decide (x.parts.length≤1000000)))=true then .ok NS l out else .stuck
theorem cloneS_own (L:List ByteArray) (x:Value) (w:World) (hx:Aw (im w) x (Bh.d L)) (hL:L.length≤1000000) :
 Calls Tryz.prog 40 #[x] w (Bc w fun v u=>∃A c,v=.slice A L.length c∧Aw u v (Bh.d L)):=by
 refine Bq Aa Tryz.func40 O O [(x,Bh.d L)] 1 [.r 0] O O O O (fun b hb=>by simp at hb;subst hb;exact hx) ?_
 refine Ao Aa ?_
 refine xl_eqnil Aa O O O O O O O (fun E w F hs=>hs.slAt (k:=0) rfl) (fun b hb=>?_)
 refine Ab Aa ?_
 refine Ap (fun h=>?_) (fun h=>?_)
 have h0:L=[]:=List.eq_nil_of_length_eq_zero (hb h)
 subst h0
 exact finP fun _ _ _ hs _=>⟨none,0,rfl,slAt_nil _ _ rfl⟩
 refine xl_empty Aa Bh O O O O O O O ?_
 refine Ab Aa ?_
 refine Bm Aa Bh [] L 16 O O O O O O O O (by kernel_rfl) O O O (fun E w F hs=>hs.slAt (k:=0) rfl) strOneE rfl (by simp;omega) (by simp;omega) ?_
 refine Ab Aa ?_
 exact finP fun E w' F hs hle=>by
  have h1:=(hs.rowOwn (k:=2) rfl hle).slAt
  obtain⟨A,c,e⟩:=h1.form
  have hd:(Bh.d ([]++L)).n=L.length:=Lay.d_n _ _
  rw[hd]at e
  exact⟨A,c,e,h1⟩
theorem with_walk {M:ME} {bm nm f left:Nat} {A:Option Addr} {c:Nat} {L:List PV} {X:List XT} (w:World) (hG:Glob (im w)) (hM:MsAt (im w) bm nm M) (hL:Aw (im w) (.slice A L.length c) (pvY.d L)) (hX:PvsR (im w) L X) (hh:∀x∈X,x.hide=0)
 (hz:L.length≤1000000) (hns:withX (msOf M) f left X≠.stuck) :
 Calls Tryz.prog 24 #[.map (some bm),.slice A L.length c,.int .i64 (left:Int)] w (Bc w fun v u1=>match withX (msOf M) f left X with
  |.stuck=>False
  |.err e=>v=.tuple #[.slice none 0 0,.int .i64 e]∧e≠0
  |.ok _ _ out=>∃A' c' L',v=.tuple #[.slice A' (List.length L') c',.int .i64 0]∧Aw u1 (.slice A' (List.length L') c') (pvY.d L')∧PvsR u1 L' out):=by
 refine Bq Aa Tryz.func24 O O [(.slice A L.length c,pvY.d L)] 1 [.v (.map (some bm)),.r 0,.v (.int .i64 (left:Int))] O O O O (fun b hb=>by simp at hb;subst hb;exact hL) ?_
 refine Az (Ao Aa ?_)
 refine Az (Ao Aa ?_)
 have hLn:(pvY.d L).n=L.length:=Lay.d_n _ _
 refine xl_makeG Aa tvY tv0 64 L.length O O O O O O O O O (by kernel_rfl) O O O (by omega) (by omega) ?_
 refine Ce 0 ?_
 refine By 1 2 O O (fun A1 c1=>?_)
 refine Ab Aa ?_
 refine x_unparkB (sl:=[⟨.slice A1 (tvY.d (List.replicate L.length tv0)).n c1,87,tvY.d (List.replicate L.length tv0)⟩]) 3 2 0 [] [.v (.pointer none),.v (.int .i64 0)] (p:=⟨.slice A1 (tvY.d (List.replicate L.length tv0)).n c1,87,tvY.d (List.replicate L.length tv0)⟩) O O O ?_
 refine Az (Ao Aa ?_)
 refine Br (σ:=Nat) (fun i=>⟨[(24,.v (.int .i64 (i:Int))),(23,.v (.int .i64 ((pvY.d L).n:Int))),(22,.r 0),(8,.p 3 0),(2,.v (.int .i64 (left:Int))),(0,.v (.map (some bm)))],[],
  [(3,.box 84 [.r 4,.v (.pointer none),.v (.int .i64 0)]),(4,.row 87 (tvY.d ((L.take i).map pvT++List.replicate (L.length-i) tv0))),(0,.sl (pvY.d L))],5⟩)
  (fun i _=>i≤L.length) (fun i=>L.length-i) (fun _=>by show 5≤5;omega) 0 [] .z (Nat.zero_le _) ?_
 rintro i u hu g1
 have g1:i≤L.length:=g1
 refine Az (Ao Aa ?_)
 refine Az (Ao Aa ?_)
 refine Ap (fun h1=>?_) (fun h1=>?_)
 have h1:(i:Int)<((pvY.d L).n:Int):=of_decide_eq_true h1
 obtain⟨t,ht⟩:∃t,L[i]?=some t:=⟨_,List.getElem?_eq_getElem (by omega)⟩
 have hgt:L.getD ((i:Nat):Int).toNat pvY.dft=t:=by rw[Int.toNat_natCast,List.getD_eq_getElem?_getD,ht];rfl
 have htl:((L.take i).map pvT).length=i:=by rw[List.length_map,List.length_take];omega
 have hrl:((L.take i).map pvT++List.replicate (L.length-i) tv0).length=L.length:=by rw[List.length_append,htl,List.length_replicate];omega
 have hrn:(tvY.d ((L.take i).map pvT++List.replicate (L.length-i) tv0)).n=L.length:=by rw[Lay.d_n,hrl]
 have hget1:((L.take i).map pvT++List.replicate (L.length-i) tv0).getD ((i:Nat):Int).toNat tvY.dft=tv0:=by
  rw[Int.toNat_natCast,List.getD_eq_getElem?_getD,List.getElem?_append_right (by omega),htl,Nat.sub_self,show L.length-i=(L.length-(i+1))+1 by omega];rfl
 have hset:((L.take i).map pvT++List.replicate (L.length-i) tv0).set ((i:Nat):Int).toNat (pvT (L.getD ((i:Nat):Int).toNat pvY.dft))=(L.take (i+1)).map pvT++List.replicate (L.length-(i+1)) tv0:=by
  rw[hgt,Int.toNat_natCast,List.set_append_right _ _ (by omega),htl,Nat.sub_self,show L.length-i=(L.length-(i+1))+1 by omega,Cj ht]
  simp[List.replicate_succ]
 refine Ao Aa ?_
 repeat refine sdI ?_
 refine x_via (σ:=Unit) (fun _=>⟨[(24,.v (.int .i64 (i:Int))),(23,.v (.int .i64 ((pvY.d L).n:Int))),(22,.r 0),(8,.p 3 0),(2,.v (.int .i64 (left:Int))),(0,.v (.map (some bm)))],[],
  [(3,.box 84 [.r 4,.v (.pointer none),.v (.int .i64 0)]),(4,.row 87 (tvY.d ((L.take (i+1)).map pvT++List.replicate (L.length-(i+1)) tv0))),(0,.sl (pvY.d L))],6⟩) (fun _ _=>True) (fun _=>by show 6≤6;omega) ?_ ?_
 refine Bw mix ?_
 refine At Aa (fuel:=5) [0,4,1,2] rfl (by kernel_rfl) (by kernel_rfl) (fun _ _ _ hh=>hh) (by kernel_rfl) (by kernel_rfl) ?_
 refine Aq 3 5 (by kernel_rfl) O O ?_ ?_
 refine Ab Aa ?_
 refine Ae (fuel:=1) [5,6,7] O O (by kernel_rfl) (Ab Aa ?_)
 repeat refine sdI ?_
 refine Ag 8 (by kernel_rfl) rfl ?_
 refine Bv Aa tvY ((L.take i).map pvT++List.replicate (L.length-i) tv0) (pvT (L.getD ((i:Nat):Int).toNat pvY.dft)) (cs:=[.int .i64 (L.getD ((i:Nat):Int).toNat pvY.dft).kind,.string (L.getD ((i:Nat):Int).toNat pvY.dft).text,.bool (L.getD ((i:Nat):Int).toNat pvY.dft).space,.slice (L.getD ((i:Nat):Int).toNat pvY.dft).pa (L.getD ((i:Nat):Int).toNat pvY.dft).pn (L.getD ((i:Nat):Int).toNat pvY.dft).pc]) O O O O O O O (by omega) (by omega) O O (by show 0+4≤5;omega) (by rw[hget1];rfl) ?_
 rw[hset]
 refine Ad ?_
 refine Aj (by kernel_rfl) rfl ?_
 exact Af () [] .z trivial
 refine Ab Aa ?_
 refine Ae (fuel:=1) [3,6,7] O O (by kernel_rfl) (Ab Aa ?_)
 repeat refine sdI ?_
 refine Ag 8 (by kernel_rfl) rfl ?_
 refine Bv Aa tvY ((L.take i).map pvT++List.replicate (L.length-i) tv0) (pvT (L.getD ((i:Nat):Int).toNat pvY.dft)) (cs:=[.int .i64 (L.getD ((i:Nat):Int).toNat pvY.dft).kind,.string (L.getD ((i:Nat):Int).toNat pvY.dft).text,.bool (L.getD ((i:Nat):Int).toNat pvY.dft).space,.slice (L.getD ((i:Nat):Int).toNat pvY.dft).pa (L.getD ((i:Nat):Int).toNat pvY.dft).pn (L.getD ((i:Nat):Int).toNat pvY.dft).pc]) O O O O O O O (by omega) (by omega) O O (by show 0+4≤5;omega) (by rw[hget1];rfl) ?_
 rw[hset]
 refine Ad ?_
 refine Aj (by kernel_rfl) rfl ?_
 exact Af () [] .z trivial
 rintro _ u2 hu2 -
 repeat refine sdI ?_
 exact Bj (i+1) [] .z (by show i+1≤L.length;omega) (by show L.length-(i+1)<L.length-i;omega)
 have h1:¬(i:Int)<((pvY.d L).n:Int):=of_decide_eq_false h1
 obtain rfl:i=L.length:=by omega
 rw[Nat.sub_self,List.take_length]
 have e0:L.map pvT++List.replicate 0 tv0=L.map pvT:=List.append_nil _
 rw[e0]
 refine Az (Ao Aa ?_)
 refine xl_makeO O O O Tryz.underlying88 (fun x hx=>by cases hx) rfl (fun bp=>?_)
 refine Ab Aa ?_
 refine x_freezeSB 4 3 O O (fun A2 c2 u2 hu2 hA2 hA2n=>?_)
 refine x_freezeBox 3 O O (fun cb u3 hu3 hcb hcb2=>?_)
 have hTl:(tvY.d (L.map pvT)).n=L.length:=by rw[Lay.d_n,List.length_map]
 have hml:(L.map pvT).length=L.length:=List.length_map _
 have hw3:(im w).sub u3:=((hu.trans hu2).trans hu3).sub
 have hTX:TksR u3 (L.map pvT) X:=(hX.tks hh).sub hw3
 obtain⟨P,hPre,hPq,hPt⟩:∃P,PreAt u3 (some ⟨cb,0,none⟩) 0 P∧Ck u3 none 0 (Cc L.length P)∧Bi P=L.map pvT:=by
  cases hLe:L with
  |nil=>
   rw[hLe]at hcb2
   exact⟨[],.inr ⟨cb,A2,0,c2,none,0,rfl,rfl,hcb2,rfl,rfl⟩,⟨rfl,rfl⟩,rfl⟩
  |cons a r=>
   rw[←hLe]
   have h0:0<L.length:=by rw[hLe];simp
   have hA2':=hA2
   rw[hTl]at hA2' hcb2
   obtain⟨A',c',k1,k2,k3,k4⟩:=hA2'
   simp only[Value.slice.injEq]at k1
   obtain⟨rfl,-,rfl⟩:=k1
   obtain⟨ad,rfl,_⟩:=k4 (by rw[hTl];exact h0)
   refine⟨[(cb,L.map pvT,0)],.inl ⟨rfl,rfl,by rw[hml];exact h0,fun x hx=>(by cases hx),ad,c2,none,0,by rw[hml];exact hcb2,(hA2n ad rfl).2,?_,rfl,rfl⟩,?_,?_⟩
   rw[hml]
   rw[hTl]at hA2
   exact hA2.sub hu3.sub
   have:=adv_out L.length cb (L.map pvT) 0 [] 0 (by rw[hml];omega) h0
   rw[Nat.add_zero]at this
   rw[this]
   exact⟨rfl,rfl⟩
   rw[Bi,List.drop_zero];exact List.append_nil _
 obtain⟨p',k',hp',hc'⟩:=settled_any hPre
 have hVw:VwX u3 ⟨p',k',none,0⟩ X:=⟨P,L.length,hp',hPq,by rw[hPt,hml];exact Nat.le_refl _,by rw[hPt,List.take_of_length_le (by omega)];exact hTX⟩
 obtain⟨RL,hRL⟩:∃RL,RL=listX (msOf M) f [] left X []:=⟨_,rfl⟩
 have hnl:RL≠.stuck:=fun e=>hns (by unfold withX;rw[←hRL,e])
 have hlist:=listC_all M bm nm f u3 bp [] left ⟨p',k',none,0⟩ X (hG.sub hw3) (hM.sub hw3) (fun j x hx=>by simp at hx) hVw (by rw[show([]:Nms).map (·.1)=[]from rfl,←hRL];exact hnl)
 rw[show([]:Nms).map (·.1)=[]from rfl,←hRL]at hlist
 refine Az (Ao Aa ?_)
 refine Am (plV p' k') O O O O fn39 O O (fun E w' F hs=>hc' w' (Au hs.imm)) ?_
 refine Ab Aa ?_
 refine xl_callSCX hlist ⟨fun _ _ h=>h⟩ [6,5] O O O O fn38 O O O O O O ⟨trivial,fun _ _ _ _ h=>h,trivial⟩ rfl (fun _=>⟨trivial,fun _ _ _ _ h=>h,trivial⟩) (fun _=>rfl) (fun q u4 hu4 hFt hNw=>?_)
 obtain⟨N4,l4,r,e⟩:=q
 have hFt:RL.Fits e (N4.map (·.1)) l4:=hFt
 have hNw:Nw u3 (dif u3 u4) (fun u=>e=0→PSt u M N4∧TksAt u r (RL.val [])):=hNw
 refine Ab Aa ?_
 refine Az (Az (Ao Aa ?_))
 refine Ao Aa ?_
 refine Ap (fun h3=>?_) (fun h3=>?_)
 have h3:decide (e≠0)=true:=h3
 have h3:e≠0:=of_decide_eq_true h3
 have hrl:withX (msOf M) f left X=.err e:=by
  unfold withX
  rw[←hRL]
  cases RL with
  |stuck=>exact hFt.elim
  |ok a b d=>exact absurd hFt.1 h3
  |err e'=>obtain⟨rfl,_⟩:=hFt;rfl
 rw[hrl]
 exact finP (fun E w' F hs hle=>⟨rfl,h3⟩)
 have h3:decide (e≠0)=false:=h3
 have h3:e=0:=by simpa using h3
 subst h3
 obtain⟨NS2,lf2,out,rfl⟩:∃a b d,RL=.ok a b d:=by
  cases RL with
  |stuck=>exact hFt.elim
  |ok a b d=>exact⟨a,b,d,rfl⟩
  |err e'=>exact absurd rfl hFt.2
 obtain⟨-,rfl,rfl⟩:=hFt
 have hgate:(decide (out.length≤1000000)&&out.all (fun x=>decide (x.parts.length≤1000000)))=true:=by
  cases h:(decide (out.length≤1000000)&&out.all (fun x=>decide (x.parts.length≤1000000)))with
  |true=>rfl
  |false=>exact absurd (by unfold withX;rw[←hRL];show(if _ then _ else _)=_;rw[if_neg (by rw[h];simp)]) hns
 have hrl:withX (msOf M) f left X=.ok (N4.map (·.1)) lf2 out:=by
  unfold withX
  rw[←hRL]
  show(if _ then _ else _)=_
  rw[if_pos hgate]
 rw[hrl]
 rw[Bool.and_eq_true,decide_eq_true_eq,List.all_eq_true]at hgate
 obtain⟨hgo,hgp⟩:=hgate
 obtain⟨-,T,hr1,hr2,hr3⟩:=hNw u4 hu4.sub (Bl _ _) rfl
 obtain⟨rA,rn,rc⟩:=r
 have hr2:rn=T.length:=hr2
 subst hr2
 have hr3:TksR u4 T out:=hr3
 have hTo:=hr3.len
 have hw4:(im w).sub u4:=hw3.trans hu4.sub
 have hTn:(tvY.d T).n=T.length:=Lay.d_n _ _
 refine Az (Ao Aa ?_)
 refine xl_makeG Aa pvY pv0 56 T.length O O O O O O O O O (by kernel_rfl) O O O (by omega) (by omega) ?_
 refine Ab Aa ?_
 refine Az (Az (Ao Aa ?_))
 refine x_sl 56 rfl hr1 ?_
 refine x_block ?_
 refine Br (σ:=Nat×List PV) (fun(i,L2)=>⟨[(58,.v (.int .i64 (i:Int))),(57,.v (.int .i64 ((T.length:Nat):Int))),(56,.r 8),(14,.r 7)],[],
  [(8,.sl (tvY.d T)),(7,.row 37 (pvY.d (L2++List.replicate (T.length-i) pv0)))],9⟩)
  (fun(i,L2) u=>i≤T.length∧L2.length=i∧PvsR (dif (im w) u) L2 (out.take i)) (fun(i,_)=>T.length-i) (fun _=>by show 9≤9;omega) (0,[]) [] .z ⟨Nat.zero_le _,rfl,trivial⟩ ?_
 rintro⟨i,L2⟩ u5 hu5 ⟨j1,j2,j3⟩
 have hw5:(im w).sub u5:=hw4.trans hu5.sub
 refine Az (Ao Aa ?_)
 refine Az (Ao Aa ?_)
 refine Ap (fun h4=>?_) (fun h4=>?_)
 have h4:(i:Int)<((T.length:Nat):Int):=of_decide_eq_true h4
 obtain⟨t,ht⟩:∃t,T[i]?=some t:=⟨_,List.getElem?_eq_getElem (by omega)⟩
 obtain⟨x,hx,htx⟩:=hr3.get ht
 have hgt:(T.getD ((i:Nat):Int).toNat tvY.dft)=t:=by rw[Int.toNat_natCast,List.getD_eq_getElem?_getD,ht];rfl
 have hxp:x.parts.length≤1000000:=of_decide_eq_true (hgp x (List.mem_of_getElem? hx))
 have hrl2:(L2++List.replicate (T.length-i) pv0).length=T.length:=by rw[List.length_append,List.length_replicate];omega
 have hrn2:(pvY.d (L2++List.replicate (T.length-i) pv0)).n=T.length:=by rw[Lay.d_n,hrl2]
 have hget2:(L2++List.replicate (T.length-i) pv0).getD ((i:Nat):Int).toNat pvY.dft=pv0:=by
  rw[Int.toNat_natCast,List.getD_eq_getElem?_getD,List.getElem?_append_right (by omega),show i-L2.length=0 by omega,show T.length-i=(T.length-(i+1))+1 by omega];rfl
 have hset2:∀y:PV,(L2++List.replicate (T.length-i) pv0).set ((i:Nat):Int).toNat y=(L2++[y])++List.replicate (T.length-(i+1)) pv0:=fun y=>by
  rw[Int.toNat_natCast,List.set_append_right _ _ (by omega),show i-L2.length=0 by omega,show T.length-i=(T.length-(i+1))+1 by omega]
  simp[List.replicate_succ]
 refine Ao Aa ?_
 repeat refine sdI ?_
 refine Ar (fun v u1=>∃A c,v=.slice A x.parts.length c∧Aw u1 v (Bh.d x.parts)) O O O O fn40 O O (fun E w' F hs=>cloneS_own x.parts _ w' (by
  show Aw (im w') (.slice (T.getD ((i:Nat):Int).toNat tvY.dft).pv.pa (T.getD ((i:Nat):Int).toNat tvY.dft).pv.pn (T.getD ((i:Nat):Int).toNat tvY.dft).pv.pc) _
  rw[hgt]
  exact(htx.parts.sub hu5.sub).sub (Au hs.imm)) hxp) (fun v u1 u6 hu6 hn6 hR=>?_)
 obtain⟨A6,c6,rfl,hA6⟩:=hR
 refine Ab Aa ?_
 repeat refine sdI ?_
 refine Bv Aa pvY (L2++List.replicate (T.length-i) pv0) ⟨(T.getD ((i:Nat):Int).toNat tvY.dft).pv.kind,(T.getD ((i:Nat):Int).toNat tvY.dft).pv.text,(T.getD ((i:Nat):Int).toNat tvY.dft).pv.space,A6,x.parts.length,c6⟩ (i:=((i:Nat):Int)) (cs:=[.int .i64 (T.getD ((i:Nat):Int).toNat tvY.dft).pv.kind,.string (T.getD ((i:Nat):Int).toNat tvY.dft).pv.text,.bool (T.getD ((i:Nat):Int).toNat tvY.dft).pv.space,.slice A6 x.parts.length c6]) O O O O O O O (by omega) (by omega) O O (by show 0+4≤4;omega) (by rw[hget2];rfl) ?_
 rw[hset2]
 refine Ab Aa ?_
 repeat refine sdI ?_
 refine Bj (i+1,L2++[⟨(T.getD ((i:Nat):Int).toNat tvY.dft).pv.kind,(T.getD ((i:Nat):Int).toNat tvY.dft).pv.text,(T.getD ((i:Nat):Int).toNat tvY.dft).pv.space,A6,x.parts.length,c6⟩]) [] .z ⟨by omega,by rw[List.length_append,List.length_singleton];omega,?_⟩ (by show T.length-(i+1)<T.length-i;omega)
 rw[Cj hx,hgt]
 exact(j3.sub (Ba hu6.sub)).snoc ⟨htx.kind,htx.text,htx.space,hA6.sub (hn6.trans (Ch hw5))⟩
 have h4:¬(i:Int)<((T.length:Nat):Int):=of_decide_eq_false h4
 obtain rfl:i=T.length:=by omega
 have e1:L2++List.replicate (T.length-T.length) pv0=L2:=by rw[Nat.sub_self];exact List.append_nil _
 rw[e1]
 rw[List.take_of_length_le (by omega)]at j3
 refine x_freezeS 7 rfl (fun A6 c6 u6 hu6 hA6 hA6n=>?_)
 refine Ao Aa ?_
 have hLn2:(pvY.d L2).n=L2.length:=Lay.d_n _ _
 exact finP (fun E w' F hs hle=>by
  refine⟨A6,c6,L2,?_,?_,j3.sub ((Ba hu6.sub).trans (dif_cut hs.imm))⟩
  show Value.tuple #[.slice A6 (pvY.d L2).n c6,_]=_
  rw[hLn2];rfl
  rw[hLn2]at hA6
  exact(hA6.difOf (us:=im w) (fun ad had=>dif_none hw5 (hA6n ad had).1)).sub (dif_cut hs.imm))
def saysV (r:RowV) (t:List Tok):List Tok:=
 if r.dir=true then(Bu false t).drop (if r.name=⟨#[]⟩then 1 else 2)else Bu false t
def noHash (t:Tok):Bool:=decide (t.kind≠5)||(decide (t.text≠⟨#[35]⟩)&&decide (t.text≠⟨#[37,58]⟩))
def dirF:Bool→List Tok→ByteArray×Bool
 |m,[]=>(⟨#[]⟩,m)
 |m,t::r=>if gone t then dirF m r else if !m&&noHash t then(⟨#[]⟩,false)else if !m then dirF true r
  else if t.kind=1 then(t.text,true)else(⟨#[]⟩,true)
theorem directive_any (L:List Tok) (x:Value) (w:World) (hx:Aw (im w) x (Cf.d L)) (hL:L.length≤9223372036854775807) :
 Calls Tryz.prog 53 #[x] w (Bc w fun v _=>v=.tuple #[.string (dirF false L).1,.bool (dirF false L).2]):=by
 refine Bq Aa Tryz.func53 O O [(x,Cf.d L)] 1 [.r 0] O O O O (fun b hb=>by simp at hb;subst hb;exact hx) ?_
 refine Ao Aa ?_
 refine Br (σ:=Int×Bool) (fun(i,m)=>⟨[(9,.v (.int .i64 i)),(8,.v (.int .i64 L.length)),(7,.r 0),(4,.v (.bool m))],[],[(0,.sl (Cf.d L))],1⟩)
  (fun(i,m) _=>0≤i∧i≤L.length∧dirF m (L.drop i.toNat)=dirF false L) (fun(i,_)=>(L.length-i).toNat) (fun(_,_)=>Nat.le_refl _) (0,false) [] .z
  ⟨by omega,by omega,by simp⟩ ?_
 rintro⟨i,m⟩ u hu ⟨g1,g2,g3⟩
 refine Ao Aa ?_
 refine Ap (fun h=>?_) (fun h=>?_)
 have h2:i<L.length:=of_decide_eq_true h
 rw[drop_at (d:=Bo) g1 h2]at g3
 repeat(refine And.intro ?_ ?_;first|omega|(simp only[Lay.d_n];omega))
 refine Ap (fun h3=>?_) (fun h3=>?_)
 have h4:gone (L.getD i.toNat Bo)=true:=h3
 repeat(refine And.intro ?_ ?_;first|omega|(simp only[Lay.d_n];omega))
 refine Bj (i+1,m) [] .z ⟨by omega,by omega,?_⟩ (by simp only;omega)
 simpa only[dirF,h4,if_true]using g3
 have h4:gone (L.getD i.toNat Bo)=false:=h3
 simp only[dirF,h4,Bool.false_eq_true,if_false]at g3
 refine Ap (fun h5=>?_) (fun h5=>?_)
 have h6:(!m&&noHash (L.getD i.toNat Bo))=true:=h5
 rw[if_pos h6]at g3
 refine Ay (fun _ _=>?_)
 rw[←g3];rfl
 have h6:(!m&&noHash (L.getD i.toNat Bo))=false:=h5
 rw[if_neg (by rw[h6];simp)]at g3
 refine Ap (fun h7=>?_) (fun h7=>?_)
 rw[if_pos h7]at g3
 repeat(refine And.intro ?_ ?_;first|omega|(simp only[Lay.d_n];omega))
 exact Bj (i+1,true) [] .z ⟨by omega,by omega,g3⟩ (by simp only;omega)
 rw[if_neg (by rw[h7];simp)]at g3
 refine Ap (fun h8=>?_) (fun h8=>?_)
 rw[if_pos (of_decide_eq_true h8)]at g3
 refine Ay (fun _ _=>?_)
 rw[←g3];rfl
 rw[if_neg (of_decide_eq_false h8)]at g3
 refine Ay (fun _ _=>?_)
 rw[←g3];rfl
 have h2:¬(i<(L.length:Int)):=of_decide_eq_false h
 rw[List.drop_eq_nil_of_le (by omega)]at g3
 simp only[dirF]at g3
 refine Ay (fun _ _=>?_)
 rw[←g3];rfl
def pcs:Nat→Nat→List Tok→List (Nat×Nat)
 |f,i,[]=>if f<i then[(f,i)]else[]
 |f,i,t::r=>if t.kind=9 then(f,i+1)::pcs (i+1) (i+1) r else pcs f (i+1) r
def pcV (A:Option Addr) (c:Nat) (p:Nat×Nat):Value:=partV 5 A c p.1 p.2
theorem pcs_mem:∀(L:List Tok) (f i:Nat) (p:Nat×Nat),f≤i→p∈pcs f i L→f≤p.1∧p.1<p.2∧p.2≤i+L.length
 |[],f,i,p,h,hp=>by
  simp only[pcs]at hp
  split at hp
  rw[List.mem_singleton.1 hp];exact⟨Nat.le_refl _,by assumption,Nat.le_refl _⟩
  cases hp
 |t::r,f,i,p,h,hp=>by
  simp only[pcs]at hp
  split at hp
  rcases List.mem_cons.1 hp with rfl|hp
  exact⟨Nat.le_refl _,by show f<i+1;omega,by show i+1≤_;simp⟩
  have:=pcs_mem r (i+1) (i+1) p (Nat.le_refl _) hp
  simp only[List.length_cons];omega
  have:=pcs_mem r f (i+1) p (by omega) hp
  simp only[List.length_cons];omega
theorem pcs_len:∀(L:List Tok) (f i:Nat),f≤i→(pcs f i L).length≤L.length+(i-f)
 |[],f,i,h=>by
  simp only[pcs]
  split
  simp;omega
  simp
 |t::r,f,i,h=>by
  simp only[pcs]
  split
  have:=pcs_len r (i+1) (i+1) (Nat.le_refl _)
  simp only[List.length_cons];omega
  have:=pcs_len r f (i+1) (by omega)
  simp only[List.length_cons];omega
theorem pieces_iter (L:List Tok) (A:Option Addr) (c:Nat) (b:Nat) (u0:Im) (hb:u0.h b=some (.cells #[.slice A L.length c] 65 (0,0))) (hx:Aw u0 (.slice A L.length c) (Cf.d L)) (hL:L.length*48≤140737488355328) :
 Iter Tryz.prog 94 #[.pointer (some ⟨b,0,none⟩)] ((pcs 0 0 L).map (pcV A c)) u0:=by
 refine x_iter Aa Tryz.func94 O O [(.slice (some ⟨b,0,none⟩) 1 1,⟨1,[fun _=>.slice A L.length c]⟩)] [.e 1 1 0 0] (boxEnv b) (fun j x hj=>?_) O O (fun x hx=>?_) (fun x hx=>?_) (fun l Y Z u hu hR=>?_)
 match j,hj with
 |0,hj=>cases hj;rfl
 |j+1,hj=>simp at hj
 simp only[List.mem_singleton]at hx
 subst hx
 exact⟨by simp,_,1,1,rfl,Int.le_refl _,by omega⟩
 simp only[List.mem_singleton]at hx
 subst hx
 exact Aw.box1 hb
 refine Ao Aa ?_
 refine x_sl 6 rfl (hx.sub hu.sub) ?_
 refine Br (σ:=Nat×Int×Int) (fun(k,f,i)=>⟨[(8,.v (.int .i64 i)),(7,.v (.int .i64 L.length)),(6,.r 2),(3,.v (.int .i64 f)),(1,.e 1 1 0 0),(0,.v (.func (.yield l) #[] #[]))],[],[(0,.gen (Y k).hp),(1,.sl ⟨1,[fun _=>.slice A L.length c]⟩),(2,.sl (Cf.d L))],3⟩)
  (fun(k,f,i) _=>0≤f∧f≤i∧i≤L.length∧∃pre,pre.length=k∧pcs 0 0 L=pre++pcs f.toNat i.toNat (L.drop i.toNat)) (fun(_,_,i)=>(L.length-i).toNat) (fun(_,_,_)=>Nat.le_refl 3) (0,0,0) [] .z
  ⟨by omega,by omega,by omega,[],rfl,by simp⟩ ?_
 rintro⟨k,f,i⟩ u2 hu2 ⟨g1,g2,g3,pre,g4,g5⟩
 have hcap:L.length≤c:=by obtain⟨A',c',q1,q2,_⟩:=hx;cases q1;exact q2
 refine Ao Aa ?_
 refine Ap (fun h=>?_) (fun h=>?_)
 have h2:i<L.length:=of_decide_eq_true h
 rw[drop_at (d:=Bo) (by omega) h2]at g5
 simp only[pcs]at g5
 have ei:(i+1).toNat=i.toNat+1:=by omega
 rw[ei]at g5
 repeat(refine And.intro ?_ ?_;first|omega|(simp only[Lay.d_n];omega))
 refine Ap (fun h3=>?_) (fun h3=>?_)
 have h4:¬(L.getD i.toNat Bo).kind=9:=of_decide_eq_true h3
 rw[if_neg h4]at g5
 repeat(refine And.intro ?_ ?_;first|omega|(simp only[Lay.d_n];omega))
 exact Bj (k,f,i+1) [] .z ⟨by omega,by omega,by omega,pre,g4,by rw[ei];exact g5⟩ (by simp only;omega)
 have h4:(L.getD i.toNat Bo).kind=9:=Classical.not_not.1 (of_decide_eq_false h3)
 rw[if_pos h4]at g5
 repeat(refine And.intro ?_ ?_;first|omega|(simp only[Lay.d_n];omega))
 refine xl_subE Aa O O O O O O O O O O (by omega) (by omega) (by omega) ?_
 refine Ab Aa ?_
 have hx1:((pcs 0 0 L).map (pcV A c))[k]?=some (partV 5 A c f.toNat (i+1).toNat):=by
  rw[List.getElem?_map,g5,List.getElem?_append_right (by omega),g4,Nat.sub_self,ei];rfl
 refine xl_yield (kY:=0) rfl hR O O O O O O O O hx1 ?_ ?_
 refine Ab Aa ?_
 refine x_iff rfl ?_
 repeat(refine And.intro ?_ ?_;first|omega|(simp only[Lay.d_n];omega))
 exact Bj (k+1,i+1,i+1) [] .z ⟨by omega,by omega,by omega,pre++[(f.toNat,i.toNat+1)],by rw[List.length_append,g4];rfl,by rw[ei,g5,List.append_assoc];rfl⟩ (by simp only;omega)
 refine Ab Aa ?_
 refine Be rfl ?_
 exact .inr rfl
 have h2:¬(i<(L.length:Int)):=of_decide_eq_false h
 rw[List.drop_eq_nil_of_le (by omega)]at g5
 have ei:i.toNat=L.length:=by omega
 rw[ei]at g5
 simp only[pcs]at g5
 refine Ap (fun h3=>?_) (fun h3=>?_)
 have h4:f<(L.length:Int):=of_decide_eq_true h3
 rw[if_pos (by omega)]at g5
 refine xl_fromE Aa O O O O O O O O O (by omega) (by omega) ?_
 refine Ab Aa ?_
 have hx1:((pcs 0 0 L).map (pcV A c))[k]?=some (partV 5 A c f.toNat L.length):=by
  rw[List.getElem?_map,g5,List.getElem?_append_right (by omega),g4,Nat.sub_self];rfl
 have hk:((pcs 0 0 L).map (pcV A c)).length=k+1:=by rw[List.length_map,g5,List.length_append,g4];rfl
 refine xl_yield (kY:=0) rfl hR O O O O O O O O hx1 ?_ ?_
 refine Ab Aa ?_
 exact .inl (by rw[hk];rfl)
 refine Ab Aa ?_
 exact .inr rfl
 have h4:¬f<(L.length:Int):=of_decide_eq_false h3
 rw[if_neg (by omega),List.append_nil]at g5
 have hk:((pcs 0 0 L).map (pcV A c)).length=k:=by rw[List.length_map,g5,g4]
 exact .inl (by rw[hk];rfl)
theorem clone_own (L:List Tok) (x:Value) (w:World) (hx:Aw (im w) x (Cf.d L)) (hL:L.length*48≤140737488355328) :
 Calls Tryz.prog 54 #[x] w (Bc w fun v u=>OwnAt u v 121 (Cf.d L)):=by
 refine Bq Aa Tryz.func54 O O [(x,Cf.d L)] 1 [.r 0] O O O O (fun b hb=>by simp at hb;subst hb;exact hx) ?_
 refine Ao Aa ?_
 refine xl_eqnil Aa O O O O O O O (fun E w F hs=>hs.slAt (k:=0) rfl) (fun b hb=>?_)
 refine Ab Aa ?_
 refine Ap (fun h=>?_) (fun h=>?_)
 have h0:L=[]:=List.eq_nil_of_length_eq_zero (hb h)
 subst h0
 exact finP fun _ _ _ hs _=>.inl ⟨rfl,rfl⟩
 refine xl_empty Aa Cf O O O O O O O ?_
 refine Ab Aa ?_
 refine Bm Aa Cf [] L 48 O O O O O O O O (by kernel_rfl) O O O (fun E w F hs=>hs.slAt (k:=0) rfl) tokOne rfl (by simp;omega) (by simp;omega) ?_
 refine Ab Aa ?_
 exact finO (k:=2) (D:=Cf.d L) rfl
structure RowT where
 dir:Bool
 name:ByteArray
 ts:List Tok
def rowT0:RowT:=⟨false,⟨#[]⟩,[]⟩
def RowT.key (r:RowT):Bool×ByteArray:=(r.dir,r.name)
def addLine (s:List RowT×Bool) (line:List Tok):List RowT×Bool:=
 if(!(dirF false line).2&&s.2)=true then(s.1.set (s.1.length-1) {s.1.getD (s.1.length-1) rowT0 with ts:=(s.1.getD (s.1.length-1) rowT0).ts++line},s.2)
 else(s.1++[⟨(dirF false line).2,(dirF false line).1,line⟩],!(dirF false line).2)
def lnOf (L:List Tok) (p:Nat×Nat):List Tok:=(L.take p.2).drop p.1
def linesOf (L:List Tok):List (List Tok):=(pcs 0 0 L).map (lnOf L)
def rowsOf (L:List Tok):List RowT:=((linesOf L).foldl addLine ([],false)).1
def itemsS (V:List RowV) (R:List RowT):List SI:=List.zipWith (fun v r=>⟨v.toks,121,Cf.d r.ts⟩) V R
theorem itemsS_set {V:List RowV} {R:List RowT} {i:Nat} {v:RowV} {r:RowT}:itemsS (V.set i v) (R.set i r)=(itemsS V R).set i ⟨v.toks,121,Cf.d r.ts⟩:=by
 unfold itemsS
 refine List.ext_getElem? fun j=>?_
 simp only[List.getElem?_zipWith,List.getElem?_set,List.length_zipWith]
 by_cases h:i=j
 subst h
 simp only[if_true]
 by_cases h1:i<V.length
 by_cases h2:i<R.length
 rw[if_pos h1,if_pos h2,if_pos (by omega)]
 rw[if_pos h1,if_neg h2,if_neg (by omega)]
 rw[if_neg h1,if_neg (show ¬i<min V.length R.length by omega)]
 simp only[if_neg h]
theorem itemsS_push {V:List RowV} {R:List RowT} (h:V.length=R.length) (v:RowV) (r:RowT):itemsS (V++[v]) (R++[r])=itemsS V R++[⟨v.toks,121,Cf.d r.ts⟩]:=by
 unfold itemsS
 rw[List.zipWith_append h];rfl
theorem itemsS_get {V:List RowV} {R:List RowT} {i:Nat} (h1:i<V.length) (h2:i<R.length):(itemsS V R)[i]?=some ⟨(V.getD i row0).toks,121,Cf.d (R.getD i rowT0).ts⟩:=by
 unfold itemsS
 rw[List.getElem?_zipWith,List.getElem?_eq_getElem h1,List.getElem?_eq_getElem h2]
 simp[List.getD_eq_getElem?_getD,List.getElem?_eq_getElem h1,List.getElem?_eq_getElem h2]
theorem pcs_sum (L:List Tok):∀(r:List Tok) (f i:Nat),f≤i→i+r.length≤L.length→(((pcs f i r).map (lnOf L)).map List.length).sum=i-f+r.length
 |[],f,i,h,hl=>by
  simp only[pcs]
  split
  simp[lnOf];simp at hl;omega
  simp;omega
 |t::r,f,i,h,hl=>by
  simp only[List.length_cons]at hl
  simp only[pcs,List.length_cons]
  split
  have:=pcs_sum L r (i+1) (i+1) (Nat.le_refl _) (by omega)
  simp only[List.map_cons,List.sum_cons,this,lnOf,List.length_drop,List.length_take]
  omega
  have:=pcs_sum L r f (i+1) (by omega) (by omega)
  rw[this];omega
def sizeR (R:List RowT):Nat:=(R.map (fun r=>r.ts.length)).sum
theorem sum_set:∀(l:List Nat) (i:Nat) (a:Nat),i<l.length→(l.set i a).sum+l.getD i 0=l.sum+a
 |[],i,a,h=>by simp at h
 |x::l,0,a,h=>by simp;omega
 |x::l,i+1,a,h=>by
  simp only[List.length_cons,Nat.add_lt_add_iff_right]at h
  have:=sum_set l i a h
  simp only[List.set_cons_succ,List.sum_cons,List.getD_cons_succ]
  omega
theorem addLine_size (s:List RowT×Bool) (line:List Tok) (h:s.2=true→s.1≠[]):sizeR (addLine s line).1=sizeR s.1+line.length∧((addLine s line).2=true→(addLine s line).1≠[])∧(addLine s line).1.length≤s.1.length+1:=by
 unfold addLine
 split
 rename_i hc
 simp only[Bool.and_eq_true]at hc
 have hne:=h hc.2
 have hpos:s.1.length-1<s.1.length:=by
  cases hs:s.1 with
  |nil=>exact absurd hs hne
  |cons=>simp
 refine⟨?_,fun _ hh=>?_,by simp⟩
 unfold sizeR
 rw[List.map_set]
 have:=sum_set (s.1.map (fun r=>r.ts.length)) (s.1.length-1) ((s.1.getD (s.1.length-1) rowT0).ts++line).length (by simpa using hpos)
 have e:(s.1.map (fun r=>r.ts.length)).getD (s.1.length-1) 0=(s.1.getD (s.1.length-1) rowT0).ts.length:=by
  simp[List.getD_eq_getElem?_getD,List.getElem?_eq_getElem hpos]
 rw[e]at this
 simp only[List.length_append]at this ⊢
 omega
 have:=congrArg List.length hh
 simp at this
 exact hne this
 refine⟨?_,fun _=>by simp,by simp⟩
 simp[sizeR]
theorem getD_size {R:List RowT} {i:Nat} (h:i<R.length):(R.getD i rowT0).ts.length≤sizeR R:=by
 unfold sizeR
 induction R generalizing i with
 |nil=>simp at h
 |cons r R ih=>
  cases i with
  |zero=>simp
  |succ i=>
   simp only[List.length_cons,Nat.add_lt_add_iff_right]at h
   have:=ih h
   simp only[List.getD_cons_succ,List.map_cons,List.sum_cons]
   omega
def PiecesFn (x:Value) (v:Value) (u:Im):Prop:=∃b,v=.func (.func 94) #[] #[.pointer (some ⟨b,0,none⟩)]∧u.h b=some (.cells #[x] 65 (0,0))
theorem piecesFn_any (A:Option Addr) (n c:Nat) (w:World):Calls Tryz.prog 52 #[.slice A n c] w (Bc w (PiecesFn (.slice A n c))):=by
 refine Bq Aa Tryz.func52 O O [] 0 [.v (.slice A n c)] O O O O (fun b hb=>by cases hb) ?_
 refine Ao Aa ?_
 refine finP (fun E w' F hs hu=>?_)
 obtain⟨b,h1,h2⟩:=hs.boxNew (k:=0) rfl hu
 refine⟨b,?_,h2⟩
 simp[SV.den,tupV,ptrOf,h1]
def RowsR (R:List RowT):Value→Im→Prop:=StarR (fun(s:Option Addr×Nat×List RowV)=>.slice s.1 R.length s.2.1) (fun s=>itemsS s.2.2 R++[⟨.slice s.1 R.length s.2.1,74,rowY.d s.2.2⟩]) (fun s=>s.2.2.map RowV.key=R.map RowT.key)
theorem rowOne:∀x:RowV,∀y∈rowY.el x,oneB y=true:=by
 intro x y hy
 simp[Lay.el]at hy
 rcases hy with rfl|rfl|rfl<;>rfl
theorem rows_any (L:List Tok) (A:Option Addr) (c:Nat) (w:World) (hx:Aw (im w) (.slice A L.length c) (Cf.d L)) (hL:L.length*48≤140737488355328) :
 Calls Tryz.prog 30 #[.slice A L.length c] w (Bc w (RowsR (rowsOf L))):=by
 refine Bq Aa Tryz.func30 O O [] 0 [.v (.slice A L.length c)] O O O O (fun b hb=>by cases hb) ?_
 refine Ao Aa ?_
 refine xl_call _ O O O O fn52 O O (fun E w F _=>piecesFn_any _ _ _ w) (fun v u1 u2 hu2 hs2 hv=>?_)
 obtain⟨b,rfl,hb⟩:=hv
 have hb2:=of_sub_cut hs2 hb
 have hx2:Aw u2 (.slice A L.length c) (Cf.d L):=hx.le hu2
 refine Ab Aa ?_
 refine x_nilCell 0 74 rowY [] [] rfl ?_
 refine x_star0 0 ?_
 refine x_range (σ:=Bool×List RowV×List RowT) (τ:=Empty) rfl fn94 (pieces_iter L A c b u2 hb2 hx2 hL) [(3,.p 0 0),(4,.p 1 0),(0,.v (.slice A L.length c))]
  (fun(run,V,R)=>[(0,.box 68 [.r 5]),(1,.box 4 [.v (.bool run)]),(5,.row 74 (rowY.d V)),(3,.gen (Bx (itemsS V R)))]) (fun _=>6)
  (fun k (run,V,R) _=>((linesOf L).take k).foldl addLine ([],false)=(R,run)∧V.map RowV.key=R.map RowT.key∧sizeR R=(((linesOf L).take k).map List.length).sum∧(run=true→R≠[])∧R.length≤k)
  (fun _=>[]) (fun _=>6) (fun _ e _=>False) (false,[],[]) [(5,some 2)] .z ⟨rfl,rfl,rfl,(fun h=>by cases h),Nat.le_refl _⟩ rfl
  (fun _=>rfl) (fun _=>rfl) (fun _=>by decide) (fun _=>by decide) rfl (fun l k x s u3 Fr Fr' hx hu3 hg=>?_) (fun s u3 hu3 hg=>?_) (fun _ e u3 hu3 hg=>hg.elim)
 ·obtain⟨run,V,R⟩:=s
  rw[List.getElem?_map]at hx
  obtain⟨p,hp,rfl⟩:=Option.map_eq_some_iff.1 hx
  have hm:=pcs_mem L 0 0 p (Nat.le_refl _) (List.mem_of_getElem? hp)
  have hln:Aw u3 (pcV A c p) (Cf.d (lnOf L p)):=partV_slAt (hx2.le hu3) (by omega) (by omega)
  have hll:(lnOf L p).length=p.2-p.1:=by simp[lnOf];omega
  obtain⟨g1,g2,g3,g4,g5⟩:=hg
  have hk:(linesOf L)[k]?=some (lnOf L p):=by rw[linesOf,List.getElem?_map,hp];rfl
  have hadd:=addLine_size (R,run) (lnOf L p) g4
  have hVR:V.length=R.length:=by have:=congrArg List.length g2;simpa using this
  have hpl:=pcs_len L 0 0 (Nat.le_refl _)
  have hkl:k<(pcs 0 0 L).length:=(List.getElem?_eq_some_iff.1 hp).1
  have hsum:sizeR R+(lnOf L p).length≤L.length:=by
   have h1:=pcs_sum L L 0 0 (Nat.le_refl _) (by omega)
   rw[g3]
   have h2:=congrArg (fun l=>(l.map List.length).sum) (List.take_append_drop k (linesOf L))
   simp only[List.map_append,List.sum_append]at h2
   rw[show(linesOf L).drop k=lnOf L p::(linesOf L).drop (k+1)from drop_get hk]at h2
   simp only[List.map_cons,List.sum_cons]at h2
   have h3:((linesOf L).map List.length).sum=L.length:=by rw[linesOf,h1];omega
   omega
  have next:((linesOf L).take (k+1)).foldl addLine ([],false)=addLine (R,run) (lnOf L p):=by
   rw[Cj hk,List.foldl_append,g1];rfl
  have nsum:(((linesOf L).take (k+1)).map List.length).sum=sizeR R+(lnOf L p).length:=by
   rw[Cj hk,List.map_append,List.sum_append,←g3];simp
  refine Ao Aa ?_
  refine⟨rfl,rfl,Ao Aa ?_⟩
  refine Am (.tuple #[.string (dirF false (lnOf L p)).1,.bool (dirF false (lnOf L p)).2]) O O O O fn53 O O (fun E w F hs=>directive_any _ _ w (hln.imm hs.imm) (by omega)) ?_
  refine Ab Aa ?_
  refine Ap (fun h=>?_) (fun h=>?_)
  ·have h1:(!(dirF false (lnOf L p)).2&&run)=true:=h
   rw[addLine,if_pos h1]at next hadd
   obtain⟨hd1,hd2⟩:=Bool.and_eq_true_iff.1 h1
   subst hd2
   have hRne:=g4 rfl
   have hpos:0<R.length:=List.length_pos_iff.2 hRne
   have hi:(((V.length:Nat):Int)-1).toNat<V.length:=by omega
   have hi2:(((V.length:Nat):Int)-1).toNat<R.length:=by omega
   have hei:(((V.length:Nat):Int)-1).toNat=R.length-1:=by omega
   have hts:=getD_size hi2
   repeat(refine And.intro ?_ ?_;first|omega|(simp only[Lay.d_n];omega))
   refine xl_unpark 31 3 (((V.length:Nat):Int)-1).toNat O O (itemsS_get hi hi2) ?_
   refine Bm Aa Cf (R.getD (((V.length:Nat):Int)-1).toNat rowT0).ts (lnOf L p) 48 O O O O O O O O (by kernel_rfl) O O O (fun E w F hs=>hln.imm hs.imm) tokOne rfl (by omega) (by omega) ?_
   refine Ab Aa ?_
   refine xl_park 7 3 (((V.length:Nat):Int)-1).toNat O O (List.getElem?_set_self (by rw[itemsS,List.length_zipWith];omega)) rfl (fun A' c'=>?_)
   refine Bv Aa (cs:=[.slice A' (Cf.d ((R.getD (((V.length:Nat):Int)-1).toNat rowT0).ts++lnOf L p)).n c']) rowY V {V.getD (((V.length:Nat):Int)-1).toNat row0 with ta:=A',tn:=(Cf.d ((R.getD (((V.length:Nat):Int)-1).toNat rowT0).ts++lnOf L p)).n,tc:=c'} O O O O O O O (by simp only[Lay.d_n];omega) (by simp only[Lay.d_n];omega) O O (Nat.le_refl 3) rfl ?_
   refine Ab Aa ?_
   rw[List.set_set]
   have e:=itemsS_set (V:=V) (R:=R) (i:=(((V.length:Nat):Int)-1).toNat) (v:={V.getD (((V.length:Nat):Int)-1).toNat row0 with ta:=A',tn:=(Cf.d ((R.getD (((V.length:Nat):Int)-1).toNat rowT0).ts++lnOf L p)).n,tc:=c'})
    (r:={R.getD (((V.length:Nat):Int)-1).toNat rowT0 with ts:=(R.getD (((V.length:Nat):Int)-1).toNat rowT0).ts++lnOf L p})
   refine⟨(true,V.set (((V.length:Nat):Int)-1).toNat {V.getD (((V.length:Nat):Int)-1).toNat row0 with ta:=A',tn:=(Cf.d ((R.getD (((V.length:Nat):Int)-1).toNat rowT0).ts++lnOf L p)).n,tc:=c'},R.set (((V.length:Nat):Int)-1).toNat {R.getD (((V.length:Nat):Int)-1).toNat rowT0 with ts:=(R.getD (((V.length:Nat):Int)-1).toNat rowT0).ts++lnOf L p}),[],?_,?_⟩
   simp only[e]
   exact .of O O O O O O
   ·rw[hei]
    refine⟨next,?_,by rw[nsum];exact hadd.1,fun h=>hadd.2.1 h,by have:=hadd.2.2;simp at this ⊢;omega⟩
    rw[List.map_set,List.map_set,g2]
    congr 1
    have:=congrArg (fun l=>l.getD (R.length-1) row0.key) g2
    simp only[List.getD_eq_getElem?_getD,List.getElem?_map]at this ⊢
    rw[List.getElem?_eq_getElem (by omega:R.length-1<V.length),List.getElem?_eq_getElem (by omega:R.length-1<R.length)]at this ⊢
    exact this
  ·have h1:(!(dirF false (lnOf L p)).2&&run)=false:=h
   rw[addLine,if_neg (by rw[h1];simp)]at next hadd
   generalize hD:dirF false (lnOf L p)=dn at h1 next hadd ⊢
   have pz:(R++[(⟨dn.2,dn.1,lnOf L p⟩:RowT)]).length≤k+1:=by simp;omega
   refine x_via (σ:=Option Addr×Nat) (fun(A',c')=>⟨[(7,.v (.bool dn.2)),(4,.p 1 0),(3,.p 0 0)],[],
    [(4,.gen Fr'),(0,.box 68 [.r 6]),(1,.box 4 [.v (.bool run)]),(6,.row 74 (rowY.d (V++[⟨dn.2,dn.1,A',(Cf.d (lnOf L p)).n,c'⟩]))),(3,.gen (Bx (itemsS V R++[⟨.slice A' (Cf.d (lnOf L p)).n c',121,Cf.d (lnOf L p)⟩])))],7⟩) (fun _ _=>True) (fun _=>(by decide:6≤7)) ?_ ?_
   refine Bw mix ?_
   refine xa_pures Aa (fuel:=6) [1,2,3] rfl (by kernel_rfl) (by kernel_rfl) (fun _ _ _ hh=>hh) (by kernel_rfl) (by kernel_rfl) ?_
   refine Aq 0 4 (by kernel_rfl) O O (Ab Aa ?_) ?_
   refine Ae (fuel:=0) [4,5,6,7,8] O O (by kernel_rfl) ?_
   refine xl_callO 121 (Cf.d (lnOf L p)) O O O O fn54 O O (fun E w F hs=>clone_own _ _ w (hln.imm hs.imm) (by omega)) ?_
   refine By 6 3 O O (fun A' c'=>?_)
   refine Ab Aa ?_
   refine As Aa rowY [⟨dn.2,dn.1,A',(Cf.d (lnOf L p)).n,c'⟩] [_] O O O O O O O O O O O O O O O ?_
   refine Bm Aa rowY V [⟨dn.2,dn.1,A',(Cf.d (lnOf L p)).n,c'⟩] 48 O O O O O O O O (by kernel_rfl) O O O (fun E w F hs=>hs.rowAt (k:=7) rfl) rowOne rfl (by simp only[List.length_singleton];omega) (by simp only[List.length_singleton];omega) ?_
   refine Ab Aa ?_
   refine Aj (by kernel_rfl) rfl ?_
   exact Af (A',c') [(6,some 8)] .z trivial
   refine xl_callO 121 (Cf.d (lnOf L p)) O O O O fn54 O O (fun E w F hs=>clone_own _ _ w (hln.imm hs.imm) (by omega)) ?_
   refine By 6 3 O O (fun A' c'=>?_)
   refine Ad ?_
   refine Aq 0 5 (by kernel_rfl) O O (Ab Aa ?_) (Ab Aa ?_)
   refine Ae (fuel:=0) [5,6,7,8] O O (by kernel_rfl) ?_
   refine Ab Aa ?_
   refine As Aa rowY [⟨dn.2,dn.1,A',(Cf.d (lnOf L p)).n,c'⟩] [_] O O O O O O O O O O O O O O O ?_
   refine Bm Aa rowY V [⟨dn.2,dn.1,A',(Cf.d (lnOf L p)).n,c'⟩] 48 O O O O O O O O (by kernel_rfl) O O O (fun E w F hs=>hs.rowAt (k:=7) rfl) rowOne rfl (by simp only[List.length_singleton];omega) (by simp only[List.length_singleton];omega) ?_
   refine Ab Aa ?_
   refine Aj (by kernel_rfl) rfl ?_
   exact Af (A',c') [(6,some 8)] .z trivial
   refine Aq 0 6 (by kernel_rfl) O O (Ab Aa ?_) ?_
   refine Ae (fuel:=0) [6,7,8] O O (by kernel_rfl) ?_
   refine As Aa rowY [⟨dn.2,dn.1,A',(Cf.d (lnOf L p)).n,c'⟩] [_] O O O O O O O O O O O O O O O ?_
   refine Bm Aa rowY V [⟨dn.2,dn.1,A',(Cf.d (lnOf L p)).n,c'⟩] 48 O O O O O O O O (by kernel_rfl) O O O (fun E w F hs=>hs.rowAt (k:=7) rfl) rowOne rfl (by simp only[List.length_singleton];omega) (by simp only[List.length_singleton];omega) ?_
   refine Ab Aa ?_
   refine Aj (by kernel_rfl) rfl ?_
   exact Af (A',c') [(6,some 8)] .z trivial
   refine As Aa rowY [⟨dn.2,dn.1,A',(Cf.d (lnOf L p)).n,c'⟩] [_] O O O O O O O O O O O O O O O ?_
   refine Ad ?_
   refine Ae (fuel:=0) [0,7,8] O O (by kernel_rfl) ?_
   refine Ab Aa ?_
   refine Bm Aa rowY V [⟨dn.2,dn.1,A',(Cf.d (lnOf L p)).n,c'⟩] 48 O O O O O O O O (by kernel_rfl) O O O (fun E w F hs=>hs.rowAt (k:=7) rfl) rowOne rfl (by simp only[List.length_singleton];omega) (by simp only[List.length_singleton];omega) ?_
   refine Ab Aa ?_
   refine Aj (by kernel_rfl) rfl ?_
   exact Af (A',c') [(6,some 8)] .z trivial
   ·rintro⟨A',c'⟩ u4 hu4 _
    refine⟨(!dn.2,V++[⟨dn.2,dn.1,A',(Cf.d (lnOf L p)).n,c'⟩],R++[⟨dn.2,dn.1,lnOf L p⟩]),[(5,some 6)],?_,next,?_,by rw[nsum];exact hadd.1,fun h=>hadd.2.1 h,pz⟩
    have e:=itemsS_push hVR (⟨dn.2,dn.1,A',(Cf.d (lnOf L p)).n,c'⟩:RowV) (⟨dn.2,dn.1,lnOf L p⟩:RowT)
    simp only[e]
    exact .of O O O O O O
    rw[List.map_append,List.map_append,g2];rfl
 obtain⟨run,V,R⟩:=s
 obtain⟨g1,g2,_⟩:=hg
 have e1:((pcs 0 0 L).map (pcV A c)).length=(linesOf L).length:=by simp[linesOf]
 rw[e1,List.take_length]at g1
 have hVR:V.length=R.length:=by have:=congrArg List.length g2;simpa using this
 have hR:R=rowsOf L:=by rw[rowsOf,g1]
 subst hR
 refine finStarO (k:=5) (ks:=3) O O (fun A' c'=>⟨(A',c',V),fun E hE=>?_,?_,g2⟩)
 show E 5=_
 rw[hE,Lay.d_n,hVR]
 rw[Lay.d_n,hVR]
theorem says_own (r:RowV) (t:List Tok) (w:World) (hx:Aw (im w) r.toks (Cf.d t)) (hL:t.length*48≤140737488355328) :
 Calls Tryz.prog 32 #[.agg #[.bool r.dir,.string r.name,.slice r.ta r.tn r.tc]] w (Bc w fun v u=>OwnAt u v 121 (Cf.d (saysV r t))):=by
 have hb:=bareFrom_le false t
 refine Bq Aa Tryz.func32 O O [] 0 [.v (.agg #[.bool r.dir,.string r.name,.slice r.ta r.tn r.tc])] O O O O (fun b hb=>by cases hb) ?_
 refine Ao Aa ?_
 refine xl_callO 121 (Cf.d (Bu false t)) O O O O fn34 O O (fun E w F hs=>bare_any t _ w (hx.imm hs.imm) hL) ?_
 refine Ab Aa ?_
 refine Ap (fun h=>?_) (fun h=>?_)
 have h':r.dir=false:=by simpa using h
 have e:saysV r t=Bu false t:=by simp[saysV,h']
 rw[e]
 exact finO (k:=1) rfl
 have h':r.dir=true:=by simpa using h
 have key:∀k:Nat,(k=if r.name=⟨#[]⟩then 1 else 2)→saysV r t=(Bu false t).drop (if((Bu false t).length:Int)<(k:Int)then((Bu false t).length:Int)else(k:Int)).toNat:=by
  intro k hk
  simp only[saysV,h',if_true,←hk]
  split
  rw[List.drop_eq_nil_of_le (by omega),List.drop_eq_nil_of_le (by omega)]
  rfl
 refine Ap (fun h2=>?_) (fun h2=>?_)
 have h2':¬r.name=⟨#[]⟩:=of_decide_eq_true h2
 have e:=key 2 (by rw[if_neg h2'])
 refine xl_freeze 1 rfl (fun A c u2 hu2 hb1=>?_)
 refine xl_min O O O O O O ?_
 refine Ab Aa ?_
 refine xl_from Aa Cf (Bu false t) O O O O O O O O O O (fun E w F hs=>hb1) ?_ ?_ (fun A2 c2 hb2=>?_)
 show(0:Int)≤if((Bu false t).length:Int)<2 then((Bu false t).length:Int)else 2
 split<;>omega
 show(if((Bu false t).length:Int)<2 then((Bu false t).length:Int)else 2)≤((Bu false t).length:Int)
 split<;>omega
 refine Ab Aa ?_
 refine xl_callO 121 (Cf.d (saysV r t)) O O O O fn54 O O (fun E w F hs=>by rw[e];exact clone_own _ _ w (hb2.imm hs.imm) (by rw[List.length_drop];omega)) ?_
 refine Ab Aa ?_
 exact finO (k:=2) rfl
 have h2':r.name=⟨#[]⟩:=by
  have:¬ ¬r.name=⟨#[]⟩:=of_decide_eq_false h2
  exact Classical.not_not.1 this
 have e:=key 1 (by rw[if_pos h2'])
 refine xl_freeze 1 rfl (fun A c u2 hu2 hb1=>?_)
 refine xl_min O O O O O O ?_
 refine Ab Aa ?_
 refine xl_from Aa Cf (Bu false t) O O O O O O O O O O (fun E w F hs=>hb1) ?_ ?_ (fun A2 c2 hb2=>?_)
 show(0:Int)≤if((Bu false t).length:Int)<1 then((Bu false t).length:Int)else 1
 split<;>omega
 show(if((Bu false t).length:Int)<1 then((Bu false t).length:Int)else 1)≤((Bu false t).length:Int)
 split<;>omega
 refine Ab Aa ?_
 refine xl_callO 121 (Cf.d (saysV r t)) O O O O fn54 O O (fun E w F hs=>by rw[e];exact clone_own _ _ w (hb2.imm hs.imm) (by rw[List.length_drop];omega)) ?_
 refine Ab Aa ?_
 exact finO (k:=2) rfl
theorem fold_size:∀(ls:List (List Tok)) (s:List RowT×Bool),(s.2=true→s.1≠[])→sizeR (ls.foldl addLine s).1=sizeR s.1+(ls.map List.length).sum∧(ls.foldl addLine s).1.length≤s.1.length+ls.length
 |[],s,_=>by simp
 |l::ls,s,h=>by
  have h1:=addLine_size s l h
  have h2:=fold_size ls (addLine s l) h1.2.1
  simp only[List.foldl_cons,List.map_cons,List.sum_cons,List.length_cons]
  omega
theorem rowsOf_size (L:List Tok):sizeR (rowsOf L)=L.length∧(rowsOf L).length≤L.length:=by
 have h:=fold_size (linesOf L) ([],false) (fun h=>by cases h)
 have h1:=pcs_sum L L 0 0 (Nat.le_refl _) (by omega)
 have h2:=pcs_len L 0 0 (Nat.le_refl _)
 simp only[rowsOf]
 rw[h.1]
 have h3:((linesOf L).map List.length).sum=L.length:=by rw[linesOf,h1];omega
 have h4:(linesOf L).length=(pcs 0 0 L).length:=by simp[linesOf]
 refine⟨by rw[h3];simp[sizeR],?_⟩
 have:=h.2
 simp only[List.length_nil]at this
 omega
theorem ts_size {R:List RowT} (i:Nat):(R.getD i rowT0).ts.length≤sizeR R:=by
 rcases Nat.lt_or_ge i R.length with h|h
 exact getD_size h
 rw[List.getD_eq_getElem?_getD,List.getElem?_eq_none h];exact Nat.zero_le _
theorem tsD (R:List RowT) (i:Nat):(R.map RowT.ts).getD i []=(R.getD i rowT0).ts:=by
 simp only[List.getD_eq_getElem?_getD,List.getElem?_map]
 cases R[i]?<;>rfl
theorem star_toks {u:Im} {V:List RowV} {R:List RowT} (hl:V.length=R.length) (h:∀p∈itemsS V R,Aw u p.x p.D):ToksAt u V (R.map RowT.ts):=by
 refine⟨by simp[hl],fun i hi=>?_⟩
 rw[tsD]
 exact h _ (List.mem_of_getElem? (itemsS_get hi (by omega)))
def byC (c:Chr):UInt8:=UInt8.ofNat c.b.toNat
def logB (s:ByteArray):ByteArray:=⟨((charsOf s).map byC).toArray⟩
def errK:List Lx.Tk→Int
 |[]=>0
 |t::r=>if t.err≠0 then t.err else errK r
def tks (C:List Chr) (l:ByteArray):Int→List Lx.Tk→List Tok
 |_,[]=>[]
 |n,t::r=>⟨t.kind,sub l t.lo t.hi,(C.getD t.lo charY.dft).pos,(C.getD ((t.hi:Int)-1).toNat charY.dft).pos+(C.getD ((t.hi:Int)-1).toNat charY.dft).len,decide (n<t.lo)⟩::tks C l t.hi r
def scanE (s:ByteArray):Int:=if checkE s≠0 then checkE s else errK (itsOf (logB s))
def scanT (s:ByteArray):List Tok:=if scanE s=0 then tks (charsOf s) (logB s) 0 (itsOf (logB s))else[]
theorem logB_size (s:ByteArray):(logB s).size=(charsOf s).length:=by
 show(((charsOf s).map byC).toArray).size=_
 simp
theorem third_range (c:Int):0≤third c∧third c≤255:=by
 unfold third
 (repeat' split)<;>(constructor<;>omega)
theorem partP_b (s:ByteArray) (i:Int):0≤(partP s i).b∧(partP s i).b≤255:=by
 unfold partP
 split
 exact⟨Int.le_refl _,by show(0:Int)≤255;decide⟩
 show 0≤chB s i∧chB s i≤255
 unfold chB
 split
 exact third_range _
 exact bt_range s i
theorem partsF_b (s:ByteArray):∀(n:Nat) (i:Int),∀p∈partsF s n i,0≤p.b∧p.b≤255
 |0,_,p,hp=>by cases hp
 |n+1,i,p,hp=>by
  rw[partsF]at hp
  split at hp
  rcases List.mem_cons.1 hp with rfl|hp
  exact partP_b s i
  exact partsF_b s n _ p hp
  cases hp
theorem chrsL_b:∀(L:List Part),(∀p∈L,0≤p.b∧p.b≤255)→∀c∈chrsL L,0≤c.b∧c.b≤255
 |[],_,c,hc=>by cases hc
 |p::r,h,c,hc=>by
  rw[chrsL]at hc
  split at hc
  exact chrsL_b r (fun p hp=>h p (List.mem_cons_of_mem _ hp)) c hc
  rcases List.mem_cons.1 hc with rfl|hc
  exact h p (List.mem_cons_self ..)
  exact chrsL_b r (fun p hp=>h p (List.mem_cons_of_mem _ hp)) c hc
theorem charsOf_b {s:ByteArray} {c:Chr} (h:c∈charsOf s):0≤c.b∧c.b≤255:=by
 unfold charsOf at h
 split at h
 exact chrsL_b _ (partsF_b s _ _) c h
 cases h
theorem chrsL_mem:∀(L:List Part) (c:Chr),c∈chrsL L→∃p∈L,c=⟨p.b,p.pos,p.len⟩
 |[],c,hc=>by cases hc
 |p::r,c,hc=>by
  rw[chrsL]at hc
  split at hc
  obtain⟨q,hq,e⟩:=chrsL_mem r c hc
  exact⟨q,List.mem_cons_of_mem _ hq,e⟩
  rcases List.mem_cons.1 hc with rfl|hc
  exact⟨p,List.mem_cons_self ..,rfl⟩
  obtain⟨q,hq,e⟩:=chrsL_mem r c hc
  exact⟨q,List.mem_cons_of_mem _ hq,e⟩
theorem charsOf_pos {s:ByteArray} {c:Chr} (h:c∈charsOf s):0≤c.pos∧1≤c.len∧c.pos+c.len≤s.size:=by
 unfold charsOf at h
 split at h
 obtain⟨p,hp,rfl⟩:=chrsL_mem _ c h
 have:=partsV_mem hp
 exact⟨this.1,this.2.2.1,this.2.2.2.1⟩
 cases h
theorem byC_nat {c:Chr} (h:0≤c.b∧c.b≤255):((byC c).toNat:Int)=c.b:=by
 unfold byC
 rw[UInt8.toNat_ofNat']
 omega
theorem scan_any (s:ByteArray) (w:World) (hs:s.size≤9223372036854775807) (hg:Glob (im w)):Calls Tryz.prog 29 #[.string s] w (Bc w (OwnT 121 (Cf.d (scanT s)) [.int .i64 (scanE s)])):=by
 refine Bq Aa Tryz.func29 O O [] 0 [.v (.string s)] O O O O (fun b hb=>by cases hb) ?_
 refine Ao Aa ?_
 refine xl_callO2 114 (charY.d (charsOf s)) [.int .i64 (checkE s)] O O O O fn50 O O (fun E w F _=>chars_any s w hs) ?_
 refine Ab Aa ?_
 refine Ap (fun h=>?_) (fun h=>?_)
 have h:=of_decide_eq_true h
 have e1:scanE s=checkE s:=by rw[scanE,if_pos h]
 have e2:scanT s=[]:=by rw[scanT,e1,if_neg h]
 rw[e1,e2]
 exact finO2n Cf
 have h:checkE s=0:=Classical.not_not.1 (of_decide_eq_false h)
 have hsz:=checkE_size h
 have e1:scanE s=errK (itsOf (logB s)):=by rw[scanE,if_neg (by simpa using h)]
 have hcl:(charsOf s).length≤65536:=by
  have h2:charsOf s=chrsL (partsV s):=by rw[charsOf,if_pos h]
  rw[h2]
  exact Nat.le_trans (chrsL_len _) (Nat.le_trans (partsV_len s) hsz)
 obtain⟨C,hC⟩:∃C,C=charsOf s:=⟨_,rfl⟩
 have hl:logB s=⟨(C.map byC).toArray⟩:=by rw[hC];rfl
 have hCb:∀c∈C,0≤c.b∧c.b≤255:=fun c hc=>charsOf_b (hC▸hc)
 have hCp:∀c∈C,0≤c.pos∧1≤c.len∧c.pos+c.len≤s.size:=fun c hc=>charsOf_pos (hC▸hc)
 have e2:scanT s=if scanE s=0 then tks C (logB s) 0 (itsOf (logB s))else[]:=by rw[hC];rfl
 have hls:=logB_size s
 rw[←hC]at hcl hls ⊢
 clear hC
 refine Bz Aa byteY (0:UInt8) (.int .u8 0) 1 C.length O O O O O O O O O O (by kernel_rfl) O O O (by omega) (by omega) ?_
 refine Ab Aa ?_
 refine Br (σ:=Int×List UInt8) (fun(k,L)=>⟨[(28,.v (.int .i64 k)),(27,.v (.int .i64 C.length)),(26,.r 2),(6,.r 4),(4,.p 3 0),(3,.p 1 0),(2,.p 0 0)],[],
  [(0,.box 65 [.v (.slice none 0 0)]),(1,.box 30 [.v (.int .i64 0)]),(2,.row 114 (charY.d C)),(3,.box 109 [.r 2]),(4,.row 5 (byteY.d L))],5⟩)
  (fun(k,L) _=>0≤k∧k≤C.length∧L.length=C.length∧L.take k.toNat=(C.take k.toNat).map byC) (fun(k,_)=>(C.length-k).toNat) (fun(_,_)=>Nat.le_refl _) (0,List.replicate C.length 0) [] .z
  ⟨by omega,by omega,by simp,by simp⟩ ?_
 rintro⟨k,L⟩ u hu ⟨g1,g2,g3,g4⟩
 refine Ao Aa ?_
 refine Ap (fun h3=>?_) (fun h3=>?_)
 have h3:k<C.length:=of_decide_eq_true h3
 have hkl:k.toNat<C.length:=by omega
 have hm:C.getD k.toNat charY.dft∈C:=by
  rw[List.getD_eq_getElem?_getD,List.getElem?_eq_getElem hkl];exact List.getElem_mem _
 have hbn:=byC_nat (hCb _ hm)
 repeat refine sdI ?_
 refine Bv Aa byteY L (byC (C.getD k.toNat charY.dft)) (cs:=[.int .u8 (C.getD k.toNat charY.dft).b]) O O O O O O O g1 (by rw[g3];exact h3) O O (Nat.le_refl 1) (by show[Value.int .u8 ((byC (C.getD k.toNat charY.dft)).toNat:Int)]=[Value.int .u8 (C.getD k.toNat charY.dft).b];rw[hbn]) ?_
 refine Ab Aa ?_
 repeat refine sdI ?_
 refine Bj (k+1,L.set k.toNat (byC (C.getD k.toNat charY.dft))) [] .z ⟨by omega,by omega,by rw[List.length_set];exact g3,?_⟩ (by simp only;omega)
 have hk:k.toNat<L.length:=by omega
 rw[show(k+1).toNat=k.toNat+1 by omega,←List.take_append_getElem (by rw[List.length_set];exact hk),List.getElem_set_self,List.take_set_of_le (Nat.le_refl _),g4,←List.take_append_getElem hkl,List.map_append]
 simp only[List.map_cons,List.map_nil,List.getD_eq_getElem?_getD,List.getElem?_eq_getElem hkl,Option.getD_some]
 have h3:¬k<C.length:=of_decide_eq_false h3
 have hL:L=C.map byC:=by
  rw[show k.toNat=C.length by omega,List.take_of_length_le (by omega),List.take_length]at g4;exact g4
 subst hL
 refine xl_bytesStr (C.map byC) O O O O Tryz.underlying112 Tryz.underlying5 Tryz.underlying9 rfl (fun E w F hs=>hs.rowAt (k:=4) rfl) ?_
 rw[←hl]
 refine Ab Aa ?_
 clear g4 g3
 generalize logB s=l at hls e1 e2 hl ⊢
 refine xl_call _ O O O O fn51 O O (fun E w F _=>itemsFn_any l w) (fun v u1 u2 hu2 hs2 hv=>?_)
 obtain⟨bk,rfl,hbk⟩:=hv
 have hb2:=of_sub_cut hs2 hbk
 have hg2:Glob u2:=(hg.sub hu.sub).sub hu2.sub
 refine Ab Aa ?_
 refine x_nilCell 6 121 Cf [] [] rfl ?_
 refine x_range2 (σ:=List Tok×Int) (τ:=Int) rfl fn90 (items_iter l bk u2 hb2 hg2 (by omega)) [(11,.p 7 0),(10,.p 6 0),(9,.p 5 0),(4,.p 3 0),(3,.p 1 0),(2,.p 0 0)]
  (fun(T,n)=>[(0,.box 65 [.v (.slice none 0 0)]),(1,.box 30 [.v (.int .i64 0)]),(2,.row 114 (charY.d C)),(3,.box 109 [.r 2]),(5,.box 9 [.v (.string l)]),(6,.box 65 [.r 10]),(7,.box 3 [.v (.int .i64 n)]),(10,.row 121 (Cf.d T))]) (fun _=>11)
  (fun k (T,n) _=>T.length≤k∧errK (itsOf l)=errK ((itsOf l).drop k)∧tks C l 0 (itsOf l)=T++tks C l n ((itsOf l).drop k))
  (fun v=>[(0,.box 65 [.v (.slice none 0 0)]),(1,.box 30 [.v (.int .i64 v)])]) (fun _=>11)
  (fun v e _=>e=.ret∧errK (itsOf l)=v∧v≠0) ([],0) [(10,some 8)] .z ⟨Nat.le_refl _,rfl,rfl⟩ rfl
  (fun _=>rfl) (fun _=>rfl) (fun _=>by decide) (fun _=>by decide) O O (fun lb k x s' u3 Fr Fr' hx hu3 hgr=>?_) (fun s' u3 hu3 hgr=>?_) (fun v e u3 hu3 hgr=>?_)
 obtain⟨T,n⟩:=s'
 obtain⟨g0,g1,g2⟩:=hgr
 rw[List.getElem?_map]at hx
 obtain⟨t,ht,rfl⟩:=Option.map_eq_some_iff.1 hx
 rw[drop_get ht]at g1 g2
 have hm:=its_mem (List.mem_of_getElem? ht)
 have hlen:=its_len l
 have hk:k<(itsOf l).length:=(List.getElem?_eq_some_iff.1 ht).1
 refine Ao Aa ?_
 refine⟨rfl,rfl,Ao Aa ?_⟩
 refine Ap (fun h4=>?_) (fun h4=>?_)
 have h4:=of_decide_eq_true h4
 rw[errK,if_pos h4]at g1
 exact⟨t.err,[],.of O O O O O rfl,rfl,g1,h4⟩
 ·have h4:t.err=0:=Classical.not_not.1 (of_decide_eq_false h4)
  rw[errK,if_neg (by simpa using h4)]at g1
  rw[tks]at g2
  have hm:t.lo<t.hi∧t.hi≤l.size:=by
   rcases hm with hm|hm
   exact absurd h4 hm
   exact hm.2
  have q1:(C.getD t.lo charY.dft)∈C:=by
   rw[List.getD_eq_getElem?_getD,List.getElem?_eq_getElem (by omega:t.lo<C.length)];exact List.getElem_mem _
  have q2:(C.getD ((t.hi:Int)-1).toNat charY.dft)∈C:=by
   rw[List.getD_eq_getElem?_getD,List.getElem?_eq_getElem (by omega:((t.hi:Int)-1).toNat<C.length)];exact List.getElem_mem _
  have q1:=hCp _ q1
  have q2:=hCp _ q2
  have next:(T++[(⟨t.kind,sub l t.lo t.hi,(C.getD t.lo charY.dft).pos,(C.getD ((t.hi:Int)-1).toNat charY.dft).pos+(C.getD ((t.hi:Int)-1).toNat charY.dft).len,decide (n<t.lo)⟩:Tok)]).length≤k+1∧errK (itsOf l)=errK ((itsOf l).drop (k+1))∧tks C l 0 (itsOf l)=(T++[(⟨t.kind,sub l t.lo t.hi,(C.getD t.lo charY.dft).pos,(C.getD ((t.hi:Int)-1).toNat charY.dft).pos+(C.getD ((t.hi:Int)-1).toNat charY.dft).len,decide (n<t.lo)⟩:Tok)])++tks C l t.hi ((itsOf l).drop (k+1)):=
   ⟨by rw[List.length_append];simp only[List.length_singleton];omega,g1,by rw[g2,List.append_assoc];rfl⟩
  repeat refine sdI ?_
  refine Bw mix ?_
  refine xa_pures Aa (fuel:=21) [1,4,6,10,15,17,20] rfl (by kernel_rfl) (by kernel_rfl) (fun _ _ _ hh=>hh) (by kernel_rfl) (by kernel_rfl) ?_
  refine xa_late2 Aa (fuel:=3) 0 24 [2,3,5,7,8,9,11,12,13,14,16,18,19,21,22,23,24] O O O (by kernel_rfl) (by kernel_rfl) (by kernel_rfl) (by kernel_rfl) (by kernel_rfl) (Cq Aa ?_)
  repeat refine sdI ?_
  refine⟨rfl,?_,?_⟩
  ·refine Ae (fuel:=1) [25,26] O O (by kernel_rfl) ?_
   refine xl_push Aa Cf T (⟨t.kind,sub l t.lo t.hi,(C.getD t.lo charY.dft).pos,(C.getD ((t.hi:Int)-1).toNat charY.dft).pos+(C.getD ((t.hi:Int)-1).toNat charY.dft).len,decide (n<t.lo)⟩:Tok) 48 O O O O O O O O O O O O (by kernel_rfl) O O O O O (fun n hn=>by cases hn;decide) O O O (by omega) (by omega) ?_
   refine Ad ?_
   refine Ag 27 (by kernel_rfl) rfl (Ab Aa ?_)
   refine Aj (by kernel_rfl) rfl ?_
   exact⟨(T++[(⟨t.kind,sub l t.lo t.hi,(C.getD t.lo charY.dft).pos,(C.getD ((t.hi:Int)-1).toNat charY.dft).pos+(C.getD ((t.hi:Int)-1).toNat charY.dft).len,decide (n<t.lo)⟩:Tok)],(t.hi:Int)),[(10,some 13)],.of O O O O O rfl,next⟩
  refine Aq 0 25 (by kernel_rfl) O O (Ab Aa ?_) ?_
  ·refine Ae (fuel:=1) [25,26] O O (by kernel_rfl) ?_
   refine xl_push Aa Cf T (⟨t.kind,sub l t.lo t.hi,(C.getD t.lo charY.dft).pos,(C.getD ((t.hi:Int)-1).toNat charY.dft).pos+(C.getD ((t.hi:Int)-1).toNat charY.dft).len,decide (n<t.lo)⟩:Tok) 48 O O O O O O O O O O O O (by kernel_rfl) O O O O O (fun n hn=>by cases hn;decide) O O O (by omega) (by omega) ?_
   refine Ad ?_
   refine Ag 27 (by kernel_rfl) rfl (Ab Aa ?_)
   refine Aj (by kernel_rfl) rfl ?_
   exact⟨(T++[(⟨t.kind,sub l t.lo t.hi,(C.getD t.lo charY.dft).pos,(C.getD ((t.hi:Int)-1).toNat charY.dft).pos+(C.getD ((t.hi:Int)-1).toNat charY.dft).len,decide (n<t.lo)⟩:Tok)],(t.hi:Int)),[(10,some 13)],.of O O O O O rfl,next⟩
  ·refine As Aa Cf [(⟨t.kind,sub l t.lo t.hi,(C.getD t.lo charY.dft).pos,(C.getD ((t.hi:Int)-1).toNat charY.dft).pos+(C.getD ((t.hi:Int)-1).toNat charY.dft).len,decide (n<t.lo)⟩:Tok)] [_] O O O O O O O O O O O O O O O ?_
   refine Ad ?_
   refine Ag 0 (by kernel_rfl) rfl (Ab Aa ?_)
   refine Ag 26 (by kernel_rfl) rfl ?_
   refine Bm Aa Cf T [(⟨t.kind,sub l t.lo t.hi,(C.getD t.lo charY.dft).pos,(C.getD ((t.hi:Int)-1).toNat charY.dft).pos+(C.getD ((t.hi:Int)-1).toNat charY.dft).len,decide (n<t.lo)⟩:Tok)] 48 O O O O O O O O (by kernel_rfl) O O O (fun E w F hs=>hs.rowAt (k:=13) rfl) tokOne rfl (by simp only[List.length_singleton];omega) (by simp only[List.length_singleton];omega) ?_
   refine Ad ?_
   refine Ag 27 (by kernel_rfl) rfl (Ab Aa ?_)
   refine Aj (by kernel_rfl) rfl ?_
   exact⟨(T++[(⟨t.kind,sub l t.lo t.hi,(C.getD t.lo charY.dft).pos,(C.getD ((t.hi:Int)-1).toNat charY.dft).pos+(C.getD ((t.hi:Int)-1).toNat charY.dft).len,decide (n<t.lo)⟩:Tok)],(t.hi:Int)),[(10,some 14)],.of O O O O O rfl,next⟩
 obtain⟨T,n⟩:=s'
 obtain⟨g0,g1,g2⟩:=hgr
 rw[List.length_map,List.drop_length]at g1 g2
 have e3:scanE s=0:=by rw[e1,g1];rfl
 have e4:scanT s=T:=by rw[e2,if_pos e3,g2];simp[tks]
 rw[e3,e4]
 exact finO2 (k:=10) rfl
 obtain⟨rfl,g1,g2⟩:=hgr
 have e3:scanE s=v:=by rw[e1,g1]
 have e4:scanT s=[]:=by rw[e2,e3,if_neg g2]
 rw[e3,e4]
 exact finO2n Cf
theorem tks_len (C:List Chr) (l:ByteArray):∀(xs:List Lx.Tk) (n:Int),(tks C l n xs).length=xs.length
 |[],_=>rfl
 |x::r,n=>by rw[tks,List.length_cons,tks_len C l r,List.length_cons]
theorem scanE_zero {s:ByteArray} (h:scanE s=0):checkE s=0∧errK (itsOf (logB s))=0∧scanT s=tks (charsOf s) (logB s) 0 (itsOf (logB s))∧(logB s).size≤65536:=by
 have hc:checkE s=0:=by
  unfold scanE at h
  split at h
  rename_i h2;exact absurd h h2
  rename_i h2;exact Classical.not_not.1 h2
 refine⟨hc,?_,?_,?_⟩
 unfold scanE at h
 rw[if_neg (by simpa using hc)]at h;exact h
 rw[scanT,if_pos h]
 rw[logB_size]
 have h2:charsOf s=chrsL (partsV s):=by rw[charsOf,if_pos hc]
 rw[h2]
 exact Nat.le_trans (chrsL_len _) (Nat.le_trans (partsV_len s) (checkE_size hc))
theorem scanT_len (s:ByteArray):(scanT s).length≤65537:=by
 by_cases h:scanE s=0
 obtain⟨_,_,e3,e4⟩:=scanE_zero h
 rw[e3,tks_len]
 have:=its_len (logB s)
 omega
 rw[scanT,if_neg h];simp
theorem says_len (r:RowV) (t:List Tok):(saysV r t).length≤t.length:=by
 have:=bareFrom_le false t
 unfold saysV
 split
 rw[List.length_drop];omega
 exact this
def saysT (r:RowT):List Tok:=saysV ⟨r.dir,r.name,none,0,0⟩ r.ts
theorem keyT_at {V:List RowV} {R:List RowT} (hk:V.map RowV.key=R.map RowT.key) (i:Nat):(V.getD i row0).dir=(R.getD i rowT0).dir∧(V.getD i row0).name=(R.getD i rowT0).name:=by
 have h1:=congrArg (fun l=>l[i]?) hk
 simp only[List.getElem?_map]at h1
 simp only[List.getD_eq_getElem?_getD]
 cases h3:V[i]? with
 |none=>
  rw[h3]at h1
  cases h4:R[i]? with
  |none=>exact⟨rfl,rfl⟩
  |some r=>rw[h4]at h1;cases h1
 |some v=>
  rw[h3]at h1
  cases h4:R[i]? with
  |none=>rw[h4]at h1;cases h1
  |some r=>
   rw[h4]at h1
   simp only[Option.map_some,Option.some.injEq,RowV.key,RowT.key,Prod.mk.injEq]at h1
   exact h1
theorem tks_tx (C:List Chr) (l:ByteArray) (hl:l.size≤65536):∀(xs:List Lx.Tk) (n:Int),∀t∈tks C l n xs,t.text.size≤65536
 |[],_,t,h=>by simp[tks]at h
 |x::r,n,t,h=>by
  simp only[tks,List.mem_cons]at h
  rcases h with rfl|h
  have:=sub_le l x.lo x.hi
  simp only
  omega
  exact tks_tx C l hl r x.hi t h
theorem scanT_tx (s:ByteArray):∀t∈scanT s,t.text.size≤65536:=by
 by_cases h:scanE s=0
 obtain⟨_,_,e3,e4⟩:=scanE_zero h
 rw[e3]
 exact tks_tx _ _ e4 _ _
 rw[scanT,if_neg h]
 intro t ht;cases ht
def txR (R:List RowT):Prop:=∀r∈R,∀t∈r.ts,t.text.size≤65536
theorem txR_at {R:List RowT} (h:txR R) (i:Nat):∀t∈(R.getD i rowT0).ts,t.text.size≤65536:=by
 rw[List.getD_eq_getElem?_getD]
 rcases Nat.lt_or_ge i R.length with hi|hi
 rw[List.getElem?_eq_getElem hi];exact h _ (List.getElem_mem hi)
 rw[List.getElem?_eq_none hi];intro t ht;cases ht
theorem addLine_tx {s:List RowT×Bool} {line:List Tok} (h:txR s.1) (hl:∀t∈line,t.text.size≤65536):txR (addLine s line).1:=by
 unfold addLine
 split
 intro r hr t ht
 rcases List.mem_or_eq_of_mem_set hr with hr|rfl
 exact h r hr t ht
 rcases List.mem_append.1 ht with ht|ht
 exact txR_at h _ t ht
 exact hl t ht
 intro r hr t ht
 rcases List.mem_append.1 hr with hr|hr
 exact h r hr t ht
 rw[List.mem_singleton.1 hr]at ht
 exact hl t ht
theorem fold_tx:∀(ls:List (List Tok)) (s:List RowT×Bool),txR s.1→(∀l∈ls,∀t∈l,t.text.size≤65536)→txR (ls.foldl addLine s).1
 |[],s,h,_=>h
 |l::ls,s,h,hl=>fold_tx ls (addLine s l) (addLine_tx h (hl l (List.mem_cons_self ..))) (fun l' h'=>hl l' (List.mem_cons_of_mem _ h'))
theorem rows_tx {L:List Tok} (h:∀t∈L,t.text.size≤65536):txR (rowsOf L):=
 fold_tx _ _ (fun r hr=>by cases hr) (fun l hl t ht=>by
  obtain⟨p,_,rfl⟩:=List.mem_map.1 hl
  exact h t (List.mem_of_mem_take (List.mem_of_mem_drop ht)))
theorem bare_tx:∀(L:List Tok) (dr:Bool),(∀t∈L,t.text.size≤65536)→∀t∈Bu dr L,t.text.size≤65536
 |[],_,_,t,ht=>by cases ht
 |x::r,dr,h,t,ht=>by
  unfold Bu at ht
  split at ht
  exact bare_tx r true (fun y hy=>h y (List.mem_cons_of_mem _ hy)) t ht
  rcases List.mem_cons.1 ht with rfl|ht
  exact h x (List.mem_cons_self ..)
  exact bare_tx r false (fun y hy=>h y (List.mem_cons_of_mem _ hy)) t ht
theorem says_tx {r:RowV} {L:List Tok} (h:∀t∈L,t.text.size≤65536):∀t∈saysV r L,t.text.size≤65536:=by
 unfold saysV
 split
 exact fun t ht=>bare_tx L false h t (List.mem_of_mem_drop ht)
 exact bare_tx L false h
def rowsS (s:ByteArray):List RowT:=rowsOf (scanT s)
def bodyOf (s:ByteArray):List Tok:=saysT ((rowsS s).getD 0 rowT0)
theorem bodyOf_tx (s:ByteArray):∀t∈bodyOf s,t.text.size≤65536:=says_tx (txR_at (rows_tx (scanT_tx s)) 0)
end Go.Proofs.YtnjlkdhdinfejaaGreat
namespace Go.Proofs
open Go.Shelf
def Tryz.lays156_ren:Go.Shelf.Ren:=⟨fun|156=>64|165=>98|166=>61|169=>63|240=>96|241=>133|276=>132|277=>154|n=>n,fun|31=>25|9=>9|3=>3|4=>4|0=>0|20=>20|72=>136|76=>141|70=>134|37=>112|75=>138|127=>192|164=>233|5=>5|80=>144|n=>n,fun|n=>n⟩
theorem Tryz.lays156:Go.Proofs.Lays.n156 Tryz.prog Tryz.lays156_ren:={
 mixed:=by kernel_rfl
 f156:=Tryz.func64.trans (congrArg some (by kernel_rfl))
 f165:=Tryz.func98.trans (congrArg some (by kernel_rfl))
 f166:=Tryz.func61.trans (congrArg some (by kernel_rfl))
 f169:=Tryz.func63.trans (congrArg some (by kernel_rfl))
 f240:=Tryz.func96.trans (congrArg some (by kernel_rfl))
 f241:=Tryz.func133.trans (congrArg some (by kernel_rfl))
 f276:=Tryz.func132.trans (congrArg some (by kernel_rfl))
 f277:=Tryz.func154.trans (congrArg some (by kernel_rfl))
 t0:=Tryz.underlying0
 a0:=Tryz.isAgg0
 z0:=Tryz.sizeOf0
 v0:=Tryz.zeroValue0
 t3:=Tryz.underlying3
 a3:=Tryz.isAgg3
 z3:=Tryz.sizeOf3
 v3:=Tryz.zeroValue3
 t4:=Tryz.underlying4
 a4:=Tryz.isAgg4
 z4:=Tryz.sizeOf4
 v4:=Tryz.zeroValue4
 t9:=Tryz.underlying9
 a9:=Tryz.isAgg9
 z9:=Tryz.sizeOf9
 v9:=Tryz.zeroValue9
 t20:=Tryz.underlying20
 a20:=Tryz.isAgg20
 z20:=Tryz.sizeOf20
 v20:=Tryz.zeroValue20
 t31:=Tryz.underlying25
 a31:=Tryz.isAgg25
 z31:=Tryz.sizeOf25
 v31:=Tryz.zeroValue25
 t37:=Tryz.underlying112
 a37:=Tryz.isAgg112
 z37:=Tryz.sizeOf112
 v37:=Tryz.zeroValue112
 t70:=Tryz.underlying134
 a70:=Tryz.isAgg134
 z70:=Tryz.sizeOf134
 v70:=Tryz.zeroValue134
 t72:=Tryz.underlying136
 a72:=Tryz.isAgg136
 z72:=Tryz.sizeOf136
 v72:=Tryz.zeroValue136
 t75:=Tryz.underlying138
 a75:=Tryz.isAgg138
 z75:=Tryz.sizeOf138
 v75:=Tryz.zeroValue138
 t76:=Tryz.underlying141
 a76:=Tryz.isAgg141
 z76:=Tryz.sizeOf141
 v76:=Tryz.zeroValue141
 t127:=Tryz.underlying192
 a127:=Tryz.isAgg192
 z127:=Tryz.sizeOf192
 v127:=Tryz.zeroValue192
 t164:=Tryz.underlying233
 a164:=Tryz.isAgg233
 z164:=Tryz.sizeOf233
 v164:=Tryz.zeroValue233}
theorem Tryz.Builder_Extra_156:Builder.Extra Tryz.prog Tryz.lays156_ren:={
 sizeBuilder:=by kernel_rfl
 liesBuilder:=by kernel_rfl
 t5:=Tryz.underlying5
 a5:=Tryz.isAgg5
 z5:=Tryz.sizeOf5
 v5:=Tryz.zeroValue5
 infoByte:=by kernel_rfl
 cellsByte:=by kernel_rfl
 sizeByte:=by kernel_rfl
 neB5:=by decide}
open Go.RowKit in
theorem Tryz.strings_Join_none (a:Option Addr) (c:Nat) (sep:ByteArray) (w:World) :
 Calls Tryz.prog 64 #[.slice a 0 c,.string sep] w fun e w'=>e=.returned (.string ⟨#[]⟩)∧w'=w:=Any.strings_Join_none Tryz.lays156 Tryz.Builder_Extra_156 a c sep w
open Go.RowKit in
theorem Tryz.strings_Join (bk o c:Nat) (xs:List ByteArray) (sep:ByteArray) (w:World) (hcells:∀(j:Nat) x,xs[j]?=some x→w.cell? ⟨bk,o+j,none⟩=some (.string x)) (hbk:bk<w.heap.size) (hN:xs.length≤140737488355328) (hcap:xs.length≤c) (hlen:(Lib.join (xs.map (·.data.toList)) sep.data.toList).length≤140737488355328) :
 Calls Tryz.prog 64 #[.slice (some ⟨bk,o,none⟩) xs.length c,.string sep] w fun e w'=>e=.returned (.string ⟨(Lib.join (xs.map (·.data.toList)) sep.data.toList).toArray⟩)∧Below w.heap.size w w':=Any.strings_Join Tryz.lays156 Tryz.Builder_Extra_156 bk o c xs sep w hcells hbk hN hcap hlen
end Go.Proofs
namespace Go.GV
open Go.RowKit
theorem xl_nilCell {α:Type} {C:Cx} {all l:List Oper} {Q:Bb} {kn:Kn} {gk:List (Nat×(Gd×SV))} {ow:Own} {nx:Nat} {u:Im} (k e:Nat) (Y:Lay α) {t:Nat} (cs ds:List SV) (hk:look ow k=some (.box t (cs++.v (.slice none 0 0)::ds)))
 (h:XL C all l Q ⟨kn,gk,(nx,.row e (Y.d []))::(k,.box t (cs++.r nx::ds))::ow,nx+1⟩ u):XL C all l Q ⟨kn,gk,ow,nx⟩ u:=by
 unfold XL at h ⊢
 intro E a w hok
 obtain⟨f,hsat⟩:=hok.sat
 have hE:∀k,k<nx→upd E nx (.slice none 0 0) k=E k:=fun k hk=>An _ _ (by omega)
 have hs1:=hsat.nil e Y
 have hkl:k<nx:=(hsat.lt k _ hk).1
 have hkn:k≠nx:=by omega
 have hold:=hs1.holds k (.box t (cs++.v (.slice none 0 0)::ds)) (by rw[Ac,if_neg (fun e1=>hkn e1.symm)];exact hk)
 have hltold:=(hsat.lt k _ hk).2
 have hs2:Sat (upd E nx (.slice none 0 0)) ((nx,.row e (Y.d []))::(k,.box t (cs++.r nx::ds))::ow) (nx+1) u a.defers w (upd f nx (fun _=>False)):=by
  refine⟨fun j r hl=>?_,fun j hl b hb=>?_,hs1.apart,hs1.off,fun j r hl=>?_,hs1.imm,hs1.marks⟩
  rw[Ac]at hl
  split at hl
  rename_i e1;exact hs1.holds j r (by rw[Ac,if_pos e1];exact hl)
  rename_i e1
  rw[Ac]at hl
  split at hl
  rename_i e2
  subst e2
  cases hl
  obtain⟨b,q1,q2,q3⟩:=hold
  refine⟨b,q1,q2,?_⟩
  rw[q3]
  simp[SV.den,Ak]
  exact hs1.holds j r (by rw[Ac,if_neg e1];exact hl)
  refine hs1.non j ?_ b hb
  rw[Ac]at hl ⊢
  split at hl
  cases hl
  rename_i e1
  rw[if_neg e1]
  rw[Ac]at hl
  split at hl
  cases hl
  exact hl
  rw[Ac]at hl
  split at hl
  rename_i e1;exact hs1.lt j r (by rw[Ac,if_pos e1];exact hl)
  rename_i e1
  rw[Ac]at hl
  split at hl
  rename_i e2
  subst e2
  cases hl
  refine⟨by omega,fun x hx=>?_⟩
  have hx':=List.mem_append.1 hx
  rcases hx' with hx'|hx'
  exact SV.lt_mono hE (Nat.le_succ _) (hltold x (List.mem_append_left _ hx'))
  rcases List.mem_cons.1 hx' with rfl|hx'
  exact⟨Nat.lt_succ_self _,none,0,0,Ak _ _ _⟩
  exact SV.lt_mono hE (Nat.le_succ _) (hltold x (List.mem_append_right _ (List.mem_cons_of_mem _ hx')))
  exact hs1.lt j r (by rw[Ac,if_neg e1];exact hl)
 have hg:=hok.agr.grow (E':=upd E nx (.slice none 0 0)) (ow:=(nx,.row e (Y.d []))::(k,.box t (cs++.r nx::ds))::ow) (nx:=nx+1) hE (Nat.le_succ _)
 have:=h (upd E nx (.slice none 0 0)) a w ⟨hg,_,hs2⟩
 exact Av (fun e a w=>Cd.mono hE (Nat.le_succ _) (Im.le.refl u)) _ _ _ this
theorem xl_gcallF {C:Cx} {all:List Oper} {o:Oper} {r:List Oper} {Q:Bb} {kn:Kn} {gk:List (Nat×(Gd×SV))} {ow:Own} {nx:Nat} {u:Im} {c:Call} (v:Value) {y:Nat×Bool} {g:Gd} {f d:Nat}
 (ho:o.op=.call c) (hg:Bp all ⟨kn,gk,ow,nx⟩ o=some (y::g)) (hd:o.dst=some d)
 (hc:callee ⟨kn,gk,ow,nx⟩ c=some f) (hfn:Fn1 C.P f) {ss:List SV} (hargs:argsOf ⟨kn,gk,ow,nx⟩ (y::g) c.args.toList=some ss) (hfr:Bg C.N ⟨kn,gk,ow,nx⟩ d (y::g)=true)
 (H:∀E w F,Sat E ow nx u [] w F→Calls C.P f (ss.map (SV.den E)).toArray w (Bc w fun x _=>x=v))
 (K:XL C all r Q ⟨kn,(d,(y::g,.v v))::gk,ow,nx⟩ u):XL C all (o::r) Q ⟨kn,gk,ow,nx⟩ u:=
 Bt (st:=⟨kn,gk,ow,nx⟩) v ho hg hd hc hfn hargs hfr (fun _=>H) K
end Go.GV
namespace Go.Proofs.YtnjlkdhdinfejaaGreat
open Go.GV Go.RowKit
def joinT (L:List ByteArray) (sep:ByteArray):ByteArray:=⟨(Lib.join (L.map (·.data.toList)) sep.data.toList).toArray⟩
theorem joinT_size (L:List ByteArray) (sep:ByteArray):(joinT L sep).size=(Lib.join (L.map (·.data.toList)) sep.data.toList).length:=by
 show(joinT L sep).data.size=_
 simp[joinT]
theorem join_any (L:List ByteArray) (x:Value) (sep:ByteArray) (w:World) (hx:Aw (im w) x (Bh.d L)) (hL:L.length≤140737488355328) (hz:(joinT L sep).size≤140737488355328) :
 Calls Tryz.prog 64 #[x,.string sep] w (Bc w fun v _=>v=.string (joinT L sep)):=by
 obtain⟨A,c,rfl,h2,h3,h4⟩:=hx
 by_cases h0:L.length=0
 have hl:L=[]:=List.eq_nil_of_length_eq_zero h0
 subst hl
 refine(Tryz.strings_Join_none A c sep w).mono fun e w' ⟨h5,h6⟩=>?_
 subst h6
 exact⟨_,h5,Below.refl _ _,rfl⟩
 obtain⟨ad,rfl,h6⟩:=h4 (by show 0<L.length;omega)
 have hcell:∀(j:Nat) x,L[j]?=some x→(im w).cell? (ad.add j)=some (.string x):=by
  intro j x hj
  have hjl:j<L.length:=(List.getElem?_eq_some_iff.1 hj).1
  have:=h6 j hjl 0 _ rfl
  have e1:L.getD (j:Int).toNat (⟨#[]⟩:ByteArray)=x:=by
   rw[List.getD_eq_getElem?_getD,Int.toNat_natCast,hj];rfl
  have e2:j * (Bh.d L).cs.length+0=j:=by show j*1+0=j;omega
  rw[e2]at this
  rw[this]
  show some (Value.string (L.getD (j:Int).toNat ⟨#[]⟩))=_
  rw[e1]
 obtain⟨bk,o,sp⟩:=ad
 have h7:=hcell 0 (L.getD 0 ⟨#[]⟩) (by rw[List.getD_eq_getElem?_getD,List.getElem?_eq_getElem (by omega)];rfl)
 have hsp:sp=none:=by
  cases sp with
  |none=>rfl
  |some q=>
   exfalso
   unfold Addr.add at h7
   rw[if_pos rfl]at h7
   unfold Im.cell? at h7
   split at h7
   simp at h7
   cases h7
 subst hsp
 have hbk:bk<w.heap.size:=by
  unfold Im.cell? Addr.add at h7
  rw[if_pos rfl]at h7
  split at h7
  rename_i h8
  exact(Array.getElem?_eq_some_iff.1 h8).1
  cases h7
 refine(Tryz.strings_Join bk o c L sep w (fun j x hj=>?_) hbk hL (by exact h2) (by rw[←joinT_size];exact hz)).mono fun e w' ⟨h5,h8⟩=>⟨_,h5,h8,rfl⟩
 have h9:=hcell j x hj
 rw[←h9]
 show w.cell? _=w.cell? _
 congr 1
 unfold Addr.add
 by_cases hj0:j=0
 subst hj0;rfl
 rw[if_neg (by simpa using hj0)]
def strL (s:ByteArray):List UInt8:=s.data.toList
theorem strL_len (s:ByteArray):(strL s).length=s.size:=by
 show s.data.toList.length=s.data.size
 simp
def defB8:ByteArray:=⟨#[35,100,101,102,105,110,101,32]⟩
def comB:ByteArray:=⟨#[44]⟩
def dotB:ByteArray:=⟨#[46,46,46]⟩
def parA (m:MT):List UInt8:=[40]++strL (joinT m.ps comB)
def parB (m:MT):List UInt8:=if m.va&&decide (0<m.ps.length)then[44]else[]
def parC (m:MT):List UInt8:=if m.va then strL dotB else[]
def parL (m:MT):List UInt8:=if m.fn then parA m++parB m++parC m++[41]else[]
def headL (m:MT):List UInt8:=strL defB8++strL m.name++parL m
def ptL (i:Nat) (t:PV):List UInt8:=(if decide (i=0)||t.space then[32]else[])++strL t.text
def bodyUp (B:List PV):Nat→List UInt8
 |0=>[]
 |i+1=>bodyUp B i++ptL i (B.getD i pv0)
def lineL (m:MT):List UInt8:=headL m++bodyUp m.body m.body.length++[10]
def lineT (m:MT):ByteArray:=⟨(lineL m).toArray⟩
theorem bodyUp_le (B:List PV):∀ {i j:Nat},i≤j→(bodyUp B i).length≤(bodyUp B j).length:=by
 intro i j h
 induction h with
 |refl=>exact Nat.le_refl _
 |step _ ih=>rw[bodyUp,List.length_append];omega
theorem line_any (m:MT) (s:MA) (w:World) (hp:Aw (im w) (.slice s.1 m.ps.length s.2.1) (Bh.d m.ps)) (hb:Aw (im w) (.slice s.2.2.1 m.body.length s.2.2.2) (pvY.d m.body)) (hn:m.ps.length≤140737488355328)
 (hz:(lineL m).length≤140737488355328):Calls Tryz.prog 36 #[mVal m s] w (Bc w fun v _=>v=.string (lineT m)):=by
 have z1:8+m.name.size+(parL m).length+(bodyUp m.body m.body.length).length+1≤140737488355328:=by
  have:=hz
  unfold lineL headL at this
  simp only[List.length_append,strL_len,List.length_singleton]at this
  rw[show defB8.size=8 by rfl]at this
  omega
 obtain⟨nm,fn,ps,va,B⟩:=m
 simp only at hp hb hn z1
 have hBn:B.length≤9223372036854775807:=by
  obtain⟨_,_,_,k2,k3,_⟩:=hb
  exact Nat.le_trans k2 k3
 obtain⟨HL,hHL⟩:∃x,x=headL ⟨nm,fn,ps,va,B⟩:=⟨_,rfl⟩
 have hLine:lineT ⟨nm,fn,ps,va,B⟩=⟨(HL++bodyUp B B.length++[10]).toArray⟩:=by rw[hHL];rfl
 have zH:HL.length+(bodyUp B B.length).length+1≤140737488355328:=by
  rw[hHL];unfold headL
  simp only[List.length_append,strL_len]
  rw[show defB8.size=8 by rfl]
  omega
 refine Bq Aa Tryz.func36 O O [] 0 [.v (mVal ⟨nm,fn,ps,va,B⟩ s)] O O O O (fun b hb=>by cases hb) ?_
 refine Ao Aa ?_
 refine xl_nilCell 1 5 byteY [.v (.pointer none)] [] rfl ?_
 refine Bd (Cg false [] defB8 (by show 0+8≤_;omega)) (fun _ _ _ _=>trivial) trivial [1,2] O O O O fn61 O O O O O O O (fun _=>rfl) (fun _ u1 hu1 _=>?_)
 refine Ab Aa ?_
 refine Bd (Cg true (strL defB8) nm (by rw[strL_len];show 8+nm.size≤_;omega)) (fun _ _ _ _=>trivial) trivial [1,3] O O O O fn61 O O O O O O O (fun _=>rfl) (fun _ u2 hu2 _=>?_)
 refine Ab Aa ?_
 refine Ap (fun h=>?_) (fun h=>?_)
 have h:fn=true:=h
 subst h
 obtain⟨J,hJ⟩:∃x,x=joinT ps comB:=⟨_,rfl⟩
 have zp:(parL ⟨nm,true,ps,va,B⟩).length=1+J.size+(parB ⟨nm,true,ps,va,B⟩).length+(parC ⟨nm,true,ps,va,B⟩).length+1:=by
  rw[hJ];unfold parL parA;simp only[if_true,List.length_append,strL_len,List.length_singleton]
 have zJ:=strL_len J
 obtain⟨P0,hP0⟩:∃x,x=strL defB8++strL nm:=⟨_,rfl⟩
 have zP0:P0.length=8+nm.size:=by rw[hP0,List.length_append,strL_len,strL_len];rfl
 have hHL2:HL=P0++[40]++strL J++parB ⟨nm,true,ps,va,B⟩++parC ⟨nm,true,ps,va,B⟩++[41]:=by
  rw[hHL,hP0,hJ,headL,parL,if_pos rfl,parA];simp
 have e0:strL defB8++nm.data.toList=P0:=by rw[hP0];rfl
 simp only[e0]
 refine Bd (Cs true P0 40 (by omega)) (fun _ _ _ _=>trivial) trivial [1,4] O O O O fn59 O O O O O O O (fun _=>rfl) (fun _ u3 hu3 _=>?_)
 refine Ab Aa ?_
 refine Am (.string J) O O O O fn64 O O (fun E w' F hs=>by rw[hJ];exact join_any ps _ comB w' ((hp.le (hu1.trans (hu2.trans hu3))).imm hs.imm) hn (by rw[←hJ];omega)) ?_
 refine Ab Aa ?_
 refine Bd (Cg true (P0++[40]) J (by simp only[List.length_append,List.length_singleton];omega)) (fun _ _ _ _=>trivial) trivial [1,5] O O O O fn61 O O O O O O O (fun _=>rfl) (fun _ u4 hu4 _=>?_)
 refine Ab Aa ?_
 obtain⟨P1,hP1⟩:∃x,x=P0++[40]++strL J:=⟨_,rfl⟩
 have zP1:P1.length=P0.length+1+J.size:=by rw[hP1,List.length_append,List.length_append,strL_len];rfl
 rw[←hP1]at hHL2
 have e1:P0++[40]++J.data.toList=P1:=by rw[hP1];rfl
 simp only[e1]
 refine Ap (fun h=>?_) (fun h=>?_)
 have h:(va&&decide ((0:Int)<ps.length))=true:=h
 rw[Bool.and_eq_true,decide_eq_true_eq]at h
 obtain⟨hv,hl⟩:=h
 subst hv
 have hB:parB ⟨nm,true,ps,true,B⟩=[44]:=by unfold parB;rw[if_pos (by simp;omega)]
 have hC:parC ⟨nm,true,ps,true,B⟩=strL dotB:=rfl
 rw[hB,hC]at hHL2 zp
 simp only[List.length_singleton,show(strL dotB).length=3 by rfl]at zp
 refine Bd (Cs true P1 44 (by omega)) (fun _ _ _ _=>trivial) trivial [1,6] O O O O fn59 O O O O O O O (fun _=>rfl) (fun _ u5 hu5 _=>?_)
 refine Ab Aa ?_
 refine Be rfl ?_
 refine Bd (Cg true (P1++[44]) dotB (by simp only[List.length_append,List.length_singleton,show dotB.size=3 by rfl];omega)) (fun _ _ _ _=>trivial) trivial [1,7] O O O O fn61 O O O O O O O (fun _=>rfl) (fun _ u6 hu6 _=>?_)
 refine Ab Aa ?_
 refine Bd (Cs true (P1++[44]++strL dotB) 41 (by simp only[List.length_append,List.length_singleton,show(strL dotB).length=3 by rfl];omega)) (fun _ _ _ _=>trivial) trivial [1,8] O O O O fn59 O O O O O O O (fun _=>rfl) (fun _ u7 hu7 _=>?_)
 refine Ab Aa ?_
 have hle:(im w).le u7:=hu1.trans (hu2.trans (hu3.trans (hu4.trans (hu5.trans (hu6.trans hu7)))))
 rw[←hHL2]
 refine Ao Aa ?_
 refine x_sl 31 rfl (hb.le (by first|exact hu1.trans hu2|exact hle)) ?_
 refine Br (σ:=Int×List UInt8) (fun(i,L)=>⟨[(33,.v (.int .i64 i)),(32,.v (.int .i64 (B.length:Int))),(31,.r 21),(3,.p 1 0)],[],[(1,.box 136 [.p 1 0,.r 20]),(20,.row 5 (byteY.d L)),(21,.sl (pvY.d B))],22⟩)
  (fun(i,L) _=>0≤i∧i≤B.length∧L=HL++bodyUp B i.toNat) (fun(i,_)=>((B.length:Int)-i).toNat) (fun(_,_)=>of_decide_eq_true rfl) (0,HL) [(21,some 10),(20,some 9)] .z ⟨by omega,by omega,by simp[bodyUp]⟩ ?_
 rintro⟨i,L⟩ u8 hu8 ⟨g1,g2,g3⟩
 have hlen:L.length=HL.length+(bodyUp B i.toNat).length:=by
  rw[g3,List.length_append]
 refine Ao Aa ?_
 refine Ap (fun h4=>?_) (fun h4=>?_)
 have h5:i<B.length:=of_decide_eq_true h4
 have hle2:=bodyUp_le B (show i.toNat+1≤B.length by omega)
 have hst:bodyUp B (i+1).toNat=bodyUp B i.toNat++ptL i.toNat (B.getD i.toNat pv0):=by
  rw[show(i+1).toNat=i.toNat+1 by omega,bodyUp]
 rw[bodyUp,List.length_append,ptL,List.length_append,strL_len]at hle2
 repeat refine sdI ?_
 refine Ap (fun h6=>?_) (fun h6=>?_)
 have h6':(decide (i.toNat=0)||(B.getD i.toNat pv0).space)=true:=by
  have h6:(decide (i=0)||(B.getD i.toNat pv0).space)=true:=h6
  rw[show decide (i.toNat=0)=decide (i=0) by(congr 1;exact propext ⟨fun h=>by omega,fun h=>by omega⟩)];exact h6
 rw[if_pos h6',List.length_singleton]at hle2
 refine Bd (Cs true L 32 (by omega)) (fun _ _ _ _=>trivial) trivial [1,20] O O O O fn59 O O O O O O O (fun _=>rfl) (fun _ u9 hu9 _=>?_)
 refine Ab Aa ?_
 refine Bd (Cg true (L++[32]) (B.getD i.toNat pv0).text (by rw[List.length_append,List.length_singleton];omega)) (fun _ _ _ _=>trivial) trivial [1,23] O O O O fn61 O O O O O O O (fun _=>rfl) (fun _ u10 hu10 _=>?_)
 refine Ab Aa ?_
 repeat refine sdI ?_
 exact Bj (i+1,_) [(20,some 24)] .z ⟨by omega,by omega,by rw[hst,g3,ptL,if_pos h6'];simp[strL]⟩ (by simp only;omega)
 have h6':(decide (i.toNat=0)||(B.getD i.toNat pv0).space)=false:=by
  have h6:(decide (i=0)||(B.getD i.toNat pv0).space)=false:=h6
  rw[show decide (i.toNat=0)=decide (i=0) by(congr 1;exact propext ⟨fun h=>by omega,fun h=>by omega⟩)];exact h6
 rw[if_neg (by rw[h6'];simp)]at hle2
 refine Bd (Cg true L (B.getD i.toNat pv0).text (by simp only[List.length_nil]at hle2;omega)) (fun _ _ _ _=>trivial) trivial [1,20] O O O O fn61 O O O O O O O (fun _=>rfl) (fun _ u10 hu10 _=>?_)
 refine Ab Aa ?_
 repeat refine sdI ?_
 exact Bj (i+1,_) [(20,some 23)] .z ⟨by omega,by omega,by rw[hst,g3,ptL,if_neg (by rw[h6'];simp)];simp[strL]⟩ (by simp only;omega)
 have h5:¬i<B.length:=of_decide_eq_false h4
 have hi:i.toNat=B.length:=by omega
 rw[hi]at g3 hlen
 refine Bd (Cs true L 10 (by omega)) (fun _ _ _ _=>trivial) trivial [1,20] O O O O fn59 O O O O O O O (fun _=>rfl) (fun _ u9 hu9 _=>?_)
 refine Ab Aa ?_
 refine Bd (string_sc true (L++[10]) (by simp)) (fun _ _ _ _=>trivial) trivial [1,22] O O O O fn63 O O O O O O O (fun _=>rfl) (fun _ u10 hu10 _=>?_)
 refine Ab Aa ?_
 refine Ay (fun _ _=>?_)
 rw[hLine,←g3];rfl
 have h:(va&&decide ((0:Int)<ps.length))=false:=h
 have hB:parB ⟨nm,true,ps,va,B⟩=[]:=by
  unfold parB
  rw[if_neg]
  rw[show(decide (0<ps.length))=decide ((0:Int)<ps.length) by(congr 1;exact propext ⟨fun h=>by omega,fun h=>by omega⟩),h]
  simp
 refine Ap (fun h2=>?_) (fun h2=>?_)
 have h2:va=true:=h2
 subst h2
 have hC:parC ⟨nm,true,ps,true,B⟩=strL dotB:=rfl
 rw[hB,hC,List.append_nil]at hHL2
 rw[hB,hC]at zp
 simp only[List.length_nil,show(strL dotB).length=3 by rfl]at zp
 refine Bd (Cg true P1 dotB (by simp only[show dotB.size=3 by rfl];omega)) (fun _ _ _ _=>trivial) trivial [1,6] O O O O fn61 O O O O O O O (fun _=>rfl) (fun _ u6 hu6 _=>?_)
 refine Ab Aa ?_
 refine Bd (Cs true (P1++strL dotB) 41 (by simp only[List.length_append,show(strL dotB).length=3 by rfl];omega)) (fun _ _ _ _=>trivial) trivial [1,7] O O O O fn59 O O O O O O O (fun _=>rfl) (fun _ u7 hu7 _=>?_)
 refine Ab Aa ?_
 have hle:(im w).le u7:=hu1.trans (hu2.trans (hu3.trans (hu4.trans (hu6.trans hu7))))
 rw[←hHL2]
 refine Ao Aa ?_
 refine x_sl 31 rfl (hb.le (by first|exact hu1.trans hu2|exact hle)) ?_
 refine Br (σ:=Int×List UInt8) (fun(i,L)=>⟨[(33,.v (.int .i64 i)),(32,.v (.int .i64 (B.length:Int))),(31,.r 21),(3,.p 1 0)],[],[(1,.box 136 [.p 1 0,.r 20]),(20,.row 5 (byteY.d L)),(21,.sl (pvY.d B))],22⟩)
  (fun(i,L) _=>0≤i∧i≤B.length∧L=HL++bodyUp B i.toNat) (fun(i,_)=>((B.length:Int)-i).toNat) (fun(_,_)=>of_decide_eq_true rfl) (0,HL) [(21,some 9),(20,some 8)] .z ⟨by omega,by omega,by simp[bodyUp]⟩ ?_
 rintro⟨i,L⟩ u8 hu8 ⟨g1,g2,g3⟩
 have hlen:L.length=HL.length+(bodyUp B i.toNat).length:=by
  rw[g3,List.length_append]
 refine Ao Aa ?_
 refine Ap (fun h4=>?_) (fun h4=>?_)
 have h5:i<B.length:=of_decide_eq_true h4
 have hle2:=bodyUp_le B (show i.toNat+1≤B.length by omega)
 have hst:bodyUp B (i+1).toNat=bodyUp B i.toNat++ptL i.toNat (B.getD i.toNat pv0):=by
  rw[show(i+1).toNat=i.toNat+1 by omega,bodyUp]
 rw[bodyUp,List.length_append,ptL,List.length_append,strL_len]at hle2
 repeat refine sdI ?_
 refine Ap (fun h6=>?_) (fun h6=>?_)
 have h6':(decide (i.toNat=0)||(B.getD i.toNat pv0).space)=true:=by
  have h6:(decide (i=0)||(B.getD i.toNat pv0).space)=true:=h6
  rw[show decide (i.toNat=0)=decide (i=0) by(congr 1;exact propext ⟨fun h=>by omega,fun h=>by omega⟩)];exact h6
 rw[if_pos h6',List.length_singleton]at hle2
 refine Bd (Cs true L 32 (by omega)) (fun _ _ _ _=>trivial) trivial [1,20] O O O O fn59 O O O O O O O (fun _=>rfl) (fun _ u9 hu9 _=>?_)
 refine Ab Aa ?_
 refine Bd (Cg true (L++[32]) (B.getD i.toNat pv0).text (by rw[List.length_append,List.length_singleton];omega)) (fun _ _ _ _=>trivial) trivial [1,23] O O O O fn61 O O O O O O O (fun _=>rfl) (fun _ u10 hu10 _=>?_)
 refine Ab Aa ?_
 repeat refine sdI ?_
 exact Bj (i+1,_) [(20,some 24)] .z ⟨by omega,by omega,by rw[hst,g3,ptL,if_pos h6'];simp[strL]⟩ (by simp only;omega)
 have h6':(decide (i.toNat=0)||(B.getD i.toNat pv0).space)=false:=by
  have h6:(decide (i=0)||(B.getD i.toNat pv0).space)=false:=h6
  rw[show decide (i.toNat=0)=decide (i=0) by(congr 1;exact propext ⟨fun h=>by omega,fun h=>by omega⟩)];exact h6
 rw[if_neg (by rw[h6'];simp)]at hle2
 refine Bd (Cg true L (B.getD i.toNat pv0).text (by simp only[List.length_nil]at hle2;omega)) (fun _ _ _ _=>trivial) trivial [1,20] O O O O fn61 O O O O O O O (fun _=>rfl) (fun _ u10 hu10 _=>?_)
 refine Ab Aa ?_
 repeat refine sdI ?_
 exact Bj (i+1,_) [(20,some 23)] .z ⟨by omega,by omega,by rw[hst,g3,ptL,if_neg (by rw[h6'];simp)];simp[strL]⟩ (by simp only;omega)
 have h5:¬i<B.length:=of_decide_eq_false h4
 have hi:i.toNat=B.length:=by omega
 rw[hi]at g3 hlen
 refine Bd (Cs true L 10 (by omega)) (fun _ _ _ _=>trivial) trivial [1,20] O O O O fn59 O O O O O O O (fun _=>rfl) (fun _ u9 hu9 _=>?_)
 refine Ab Aa ?_
 refine Bd (string_sc true (L++[10]) (by simp)) (fun _ _ _ _=>trivial) trivial [1,22] O O O O fn63 O O O O O O O (fun _=>rfl) (fun _ u10 hu10 _=>?_)
 refine Ab Aa ?_
 refine Ay (fun _ _=>?_)
 rw[hLine,←g3];rfl
 have h2:va=false:=h2
 subst h2
 have hC:parC ⟨nm,true,ps,false,B⟩=[]:=rfl
 rw[hB,hC,List.append_nil,List.append_nil]at hHL2
 rw[hB,hC]at zp
 simp only[List.length_nil]at zp
 refine Bd (Cs true P1 41 (by omega)) (fun _ _ _ _=>trivial) trivial [1,6] O O O O fn59 O O O O O O O (fun _=>rfl) (fun _ u7 hu7 _=>?_)
 refine Ab Aa ?_
 have hle:(im w).le u7:=hu1.trans (hu2.trans (hu3.trans (hu4.trans hu7)))
 rw[←hHL2]
 refine Ao Aa ?_
 refine x_sl 31 rfl (hb.le (by first|exact hu1.trans hu2|exact hle)) ?_
 refine Br (σ:=Int×List UInt8) (fun(i,L)=>⟨[(33,.v (.int .i64 i)),(32,.v (.int .i64 (B.length:Int))),(31,.r 21),(3,.p 1 0)],[],[(1,.box 136 [.p 1 0,.r 20]),(20,.row 5 (byteY.d L)),(21,.sl (pvY.d B))],22⟩)
  (fun(i,L) _=>0≤i∧i≤B.length∧L=HL++bodyUp B i.toNat) (fun(i,_)=>((B.length:Int)-i).toNat) (fun(_,_)=>of_decide_eq_true rfl) (0,HL) [(21,some 8),(20,some 7)] .z ⟨by omega,by omega,by simp[bodyUp]⟩ ?_
 rintro⟨i,L⟩ u8 hu8 ⟨g1,g2,g3⟩
 have hlen:L.length=HL.length+(bodyUp B i.toNat).length:=by
  rw[g3,List.length_append]
 refine Ao Aa ?_
 refine Ap (fun h4=>?_) (fun h4=>?_)
 have h5:i<B.length:=of_decide_eq_true h4
 have hle2:=bodyUp_le B (show i.toNat+1≤B.length by omega)
 have hst:bodyUp B (i+1).toNat=bodyUp B i.toNat++ptL i.toNat (B.getD i.toNat pv0):=by
  rw[show(i+1).toNat=i.toNat+1 by omega,bodyUp]
 rw[bodyUp,List.length_append,ptL,List.length_append,strL_len]at hle2
 repeat refine sdI ?_
 refine Ap (fun h6=>?_) (fun h6=>?_)
 have h6':(decide (i.toNat=0)||(B.getD i.toNat pv0).space)=true:=by
  have h6:(decide (i=0)||(B.getD i.toNat pv0).space)=true:=h6
  rw[show decide (i.toNat=0)=decide (i=0) by(congr 1;exact propext ⟨fun h=>by omega,fun h=>by omega⟩)];exact h6
 rw[if_pos h6',List.length_singleton]at hle2
 refine Bd (Cs true L 32 (by omega)) (fun _ _ _ _=>trivial) trivial [1,20] O O O O fn59 O O O O O O O (fun _=>rfl) (fun _ u9 hu9 _=>?_)
 refine Ab Aa ?_
 refine Bd (Cg true (L++[32]) (B.getD i.toNat pv0).text (by rw[List.length_append,List.length_singleton];omega)) (fun _ _ _ _=>trivial) trivial [1,23] O O O O fn61 O O O O O O O (fun _=>rfl) (fun _ u10 hu10 _=>?_)
 refine Ab Aa ?_
 repeat refine sdI ?_
 exact Bj (i+1,_) [(20,some 24)] .z ⟨by omega,by omega,by rw[hst,g3,ptL,if_pos h6'];simp[strL]⟩ (by simp only;omega)
 have h6':(decide (i.toNat=0)||(B.getD i.toNat pv0).space)=false:=by
  have h6:(decide (i=0)||(B.getD i.toNat pv0).space)=false:=h6
  rw[show decide (i.toNat=0)=decide (i=0) by(congr 1;exact propext ⟨fun h=>by omega,fun h=>by omega⟩)];exact h6
 rw[if_neg (by rw[h6'];simp)]at hle2
 refine Bd (Cg true L (B.getD i.toNat pv0).text (by simp only[List.length_nil]at hle2;omega)) (fun _ _ _ _=>trivial) trivial [1,20] O O O O fn61 O O O O O O O (fun _=>rfl) (fun _ u10 hu10 _=>?_)
 refine Ab Aa ?_
 repeat refine sdI ?_
 exact Bj (i+1,_) [(20,some 23)] .z ⟨by omega,by omega,by rw[hst,g3,ptL,if_neg (by rw[h6'];simp)];simp[strL]⟩ (by simp only;omega)
 have h5:¬i<B.length:=of_decide_eq_false h4
 have hi:i.toNat=B.length:=by omega
 rw[hi]at g3 hlen
 refine Bd (Cs true L 10 (by omega)) (fun _ _ _ _=>trivial) trivial [1,20] O O O O fn59 O O O O O O O (fun _=>rfl) (fun _ u9 hu9 _=>?_)
 refine Ab Aa ?_
 refine Bd (string_sc true (L++[10]) (by simp)) (fun _ _ _ _=>trivial) trivial [1,22] O O O O fn63 O O O O O O O (fun _=>rfl) (fun _ u10 hu10 _=>?_)
 refine Ab Aa ?_
 refine Ay (fun _ _=>?_)
 rw[hLine,←g3];rfl
 have h:fn=false:=h
 subst h
 refine Ao Aa ?_
 refine x_sl 31 rfl (hb.le (by first|exact hu1.trans hu2|exact hle)) ?_
 refine Br (σ:=Int×List UInt8) (fun(i,L)=>⟨[(33,.v (.int .i64 i)),(32,.v (.int .i64 (B.length:Int))),(31,.r 21),(3,.p 1 0)],[],[(1,.box 136 [.p 1 0,.r 20]),(20,.row 5 (byteY.d L)),(21,.sl (pvY.d B))],22⟩)
  (fun(i,L) _=>0≤i∧i≤B.length∧L=HL++bodyUp B i.toNat) (fun(i,_)=>((B.length:Int)-i).toNat) (fun(_,_)=>of_decide_eq_true rfl) (0,strL defB8++strL nm) [(21,some 5),(20,some 4)] .z ⟨by omega,by omega,by rw[hHL];simp[headL,parL,bodyUp]⟩ ?_
 rintro⟨i,L⟩ u8 hu8 ⟨g1,g2,g3⟩
 have hlen:L.length=HL.length+(bodyUp B i.toNat).length:=by
  rw[g3,List.length_append]
 refine Ao Aa ?_
 refine Ap (fun h4=>?_) (fun h4=>?_)
 have h5:i<B.length:=of_decide_eq_true h4
 have hle2:=bodyUp_le B (show i.toNat+1≤B.length by omega)
 have hst:bodyUp B (i+1).toNat=bodyUp B i.toNat++ptL i.toNat (B.getD i.toNat pv0):=by
  rw[show(i+1).toNat=i.toNat+1 by omega,bodyUp]
 rw[bodyUp,List.length_append,ptL,List.length_append,strL_len]at hle2
 repeat refine sdI ?_
 refine Ap (fun h6=>?_) (fun h6=>?_)
 have h6':(decide (i.toNat=0)||(B.getD i.toNat pv0).space)=true:=by
  have h6:(decide (i=0)||(B.getD i.toNat pv0).space)=true:=h6
  rw[show decide (i.toNat=0)=decide (i=0) by(congr 1;exact propext ⟨fun h=>by omega,fun h=>by omega⟩)];exact h6
 rw[if_pos h6',List.length_singleton]at hle2
 refine Bd (Cs true L 32 (by omega)) (fun _ _ _ _=>trivial) trivial [1,20] O O O O fn59 O O O O O O O (fun _=>rfl) (fun _ u9 hu9 _=>?_)
 refine Ab Aa ?_
 refine Bd (Cg true (L++[32]) (B.getD i.toNat pv0).text (by rw[List.length_append,List.length_singleton];omega)) (fun _ _ _ _=>trivial) trivial [1,23] O O O O fn61 O O O O O O O (fun _=>rfl) (fun _ u10 hu10 _=>?_)
 refine Ab Aa ?_
 repeat refine sdI ?_
 exact Bj (i+1,_) [(20,some 24)] .z ⟨by omega,by omega,by rw[hst,g3,ptL,if_pos h6'];simp[strL]⟩ (by simp only;omega)
 have h6':(decide (i.toNat=0)||(B.getD i.toNat pv0).space)=false:=by
  have h6:(decide (i=0)||(B.getD i.toNat pv0).space)=false:=h6
  rw[show decide (i.toNat=0)=decide (i=0) by(congr 1;exact propext ⟨fun h=>by omega,fun h=>by omega⟩)];exact h6
 rw[if_neg (by rw[h6'];simp)]at hle2
 refine Bd (Cg true L (B.getD i.toNat pv0).text (by simp only[List.length_nil]at hle2;omega)) (fun _ _ _ _=>trivial) trivial [1,20] O O O O fn61 O O O O O O O (fun _=>rfl) (fun _ u10 hu10 _=>?_)
 refine Ab Aa ?_
 repeat refine sdI ?_
 exact Bj (i+1,_) [(20,some 23)] .z ⟨by omega,by omega,by rw[hst,g3,ptL,if_neg (by rw[h6'];simp)];simp[strL]⟩ (by simp only;omega)
 have h5:¬i<B.length:=of_decide_eq_false h4
 have hi:i.toNat=B.length:=by omega
 rw[hi]at g3 hlen
 refine Bd (Cs true L 10 (by omega)) (fun _ _ _ _=>trivial) trivial [1,20] O O O O fn59 O O O O O O O (fun _=>rfl) (fun _ u9 hu9 _=>?_)
 refine Ab Aa ?_
 refine Bd (string_sc true (L++[10]) (by simp)) (fun _ _ _ _=>trivial) trivial [1,22] O O O O fn63 O O O O O O O (fun _=>rfl) (fun _ u10 hu10 _=>?_)
 refine Ab Aa ?_
 refine Ay (fun _ _=>?_)
 rw[hLine,←g3];rfl
theorem fixS_len:∀L:List PV,(fixS L).length=L.length
 |[]=>rfl
 |_::_=>rfl
theorem fixS_prt {L:List PV} (h:∀t∈L,t.prt=.slice none 0 0):∀t∈fixS L,t.prt=.slice none 0 0:=by
 cases L with
 |nil=>intro t ht;cases ht
 |cons x r=>
  intro t ht
  rcases List.mem_cons.1 ht with rfl|ht
  exact h x (List.mem_cons_self ..)
  exact h t (List.mem_cons_of_mem _ ht)
theorem ofT_prt {L:List Tok}:∀t∈L.map ofT,t.prt=.slice none 0 0:=fun t ht=>by
 obtain⟨x,_,rfl⟩:=List.mem_map.1 ht
 rfl
structure MSm (m:MT) (n:Nat):Prop where
 ps:m.ps.length≤n
 body:m.body.length≤n
 prt:∀t∈m.body,t.prt=.slice none 0 0
theorem m0_sm (n:Nat):MSm m0 n:=⟨Nat.zero_le _,Nat.zero_le _,fun t ht=>by cases ht⟩
theorem defB_sm {nm:ByteArray} {fn va:Bool} {ps:List ByteArray} {l:List Tok} {n:Nat} (h1:ps.length≤n) (h2:l.length≤n):MSm (defB nm fn ps va l).1 n:=by
 unfold defB
 split
 exact⟨h1,by rw[fixS_len,List.length_map];exact h2,fixS_prt ofT_prt⟩
 exact m0_sm n
theorem defR_sm (L:List Tok):MSm (defR L).1 L.length:=by
 unfold defR
 split
 exact m0_sm _
 split
 rename_i h
 rw[Bool.and_eq_true,decide_eq_true_eq]at h
 have pl:=paramsR_le (L.drop 1) (by omega)
 rw[List.length_drop]at pl
 split
 split
 exact defB_sm (by omega) (by rw[List.length_drop,List.length_drop];omega)
 exact m0_sm _
 exact m0_sm _
 exact defB_sm (Nat.zero_le _) (by rw[List.length_drop];omega)
def noP (m:MT):List (List ByteArray):=List.replicate m.body.length []
theorem nil_slAt (u:Im):Aw u (.slice none 0 0) (Bh.d []):=⟨none,0,rfl,Nat.le_refl _,by decide,fun h=>by cases h⟩
theorem noP_at {m:MT} {n:Nat} (h:MSm m n) (u:Im):PartsAt u m.body (noP m):=by
 refine⟨by simp[noP],fun i hi=>?_⟩
 have h1:=h.prt (m.body.getD i pv0) (by rw[List.getD_eq_getElem?_getD,List.getElem?_eq_getElem hi];exact List.getElem_mem hi)
 rw[h1]
 have:(noP m).getD i []=[]:=by
  unfold noP
  simp[List.getD_eq_getElem?_getD,List.getElem?_replicate,hi]
 rw[this]
 exact nil_slAt u
theorem noP_sm (m:MT):prtSm (noP m):=fun i=>by
 unfold noP
 rw[List.getD_eq_getElem?_getD,List.getElem?_replicate]
 split<;>simp
theorem star_at {E:Env} {o:GV.Own} {nx:Nat} {u:Im} {df:List Deferred} {w:World} {f:Nat→Nat→Prop} (h:Sat E o nx u df w f) {k:Nat} {m:MT} {s:MA} {n:Nat} (hk:GV.look o k=some (GV.Rs.gen (Bx (mStar m s)))) (hm:MSm m n) (hn:n≤9223372036854775806) :
 MAt (im w) m (noP m) s:=
 ⟨h.starAt (i:=0) hk rfl,h.starAt (i:=1) hk rfl,noP_at hm _,Nat.le_trans hm.ps hn,Nat.le_trans hm.body hn,noP_sm m⟩
def byteAt (s:ByteArray) (i:Int):UInt8:=s.data.toList.getD i.toNat 0
def spellAt (s:ByteArray) (i:Int):List UInt8:=byteAt s i::(if parted s i=true then[92,10]else[])
def spellUp (s:ByteArray):Nat→List UInt8
 |0=>[]
 |k+1=>spellUp s k++spellAt s k
theorem spellUp_len (s:ByteArray):∀k,k≤(spellUp s k).length∧(spellUp s k).length≤3*k
 |0=>⟨Nat.le_refl _,Nat.le_refl _⟩
 |k+1=>by
  obtain⟨h1,h2⟩:=spellUp_len s k
  have h3:1≤(spellAt s k).length∧(spellAt s k).length≤3:=by
   unfold spellAt
   split<;>simp
  simp only[spellUp,List.length_append]
  omega
theorem spellUp_succ (s:ByteArray) {i:Int} (h:0≤i):spellUp s (i+1).toNat=spellUp s i.toNat++spellAt s i:=by
 have e:(i+1).toNat=i.toNat+1:=by omega
 rw[e]
 simp only[spellUp]
 congr 2
 omega
def ends (s:ByteArray):Bool:=decide (s=⟨#[]⟩)||decide (bt s ((s.size:Int)-1)=10)
def spellS (s:ByteArray):ByteArray:=
 if 65536<s.size then⟨#[]⟩else if ends s=false then⟨#[]⟩else if 65536<(spellUp s s.size).length then⟨#[]⟩else⟨(spellUp s s.size).toArray⟩
def spellE (s:ByteArray):Int:=
 if 65536<s.size then 3 else if ends s=false then 10 else if 65536<(spellUp s s.size).length then 3 else 0
theorem size_empty {s:ByteArray}:s=⟨#[]⟩↔s.size=0:=ByteArray.size_eq_zero_iff.symm
theorem spell_any (s:ByteArray) (w:World) (hs:s.size≤9223372036854775807):Calls Tryz.prog 35 #[.string s] w (Bc w fun v _=>v=.tuple #[.string (spellS s),.int .i64 (spellE s)]):=by
 refine Bq Aa Tryz.func35 O O [] 0 [.v (.string s)] O O O O (fun b hb=>by cases hb) ?_
 refine Ao Aa ?_
 refine Ap (fun h=>?_) (fun h=>?_)
 have h':65536<(s.size:Int):=of_decide_eq_true h
 refine Ay (fun _ _=>?_)
 rw[show spellS s=⟨#[]⟩ by unfold spellS;rw[if_pos (by omega)],show spellE s=3 by unfold spellE;rw[if_pos (by omega)]]
 rfl
 have h':¬ 65536<(s.size:Int):=of_decide_eq_false h
 have hn:¬ 65536<s.size:=by omega
 have hse:=@size_empty s
 repeat(refine And.intro ?_ ?_;first|omega|(simp only[Lay.d_n];omega)|(simp only[decide_eq_true_eq,ne_eq,hse,decide_eq_false_iff_not,Bool.or_eq_false_iff,Bool.and_eq_true,Bool.or_eq_true,Bool.and_eq_false_iff,Bool.not_eq_true',Bool.not_eq_false'];omega))
 refine Ap (fun h2=>?_) (fun h2=>?_)
 have h3:(decide (s≠⟨#[]⟩)&&decide (bt s ((s.size:Int)-1)≠10))=true:=h2
 rw[Bool.and_eq_true,decide_eq_true_eq,decide_eq_true_eq]at h3
 have he:ends s=false:=by unfold ends;rw[decide_eq_false h3.1,decide_eq_false h3.2];rfl
 refine Ay (fun _ _=>?_)
 rw[show spellS s=⟨#[]⟩ by unfold spellS;rw[if_neg hn,if_pos he],show spellE s=10 by unfold spellE;rw[if_neg hn,if_pos he]]
 rfl
 have h3:(decide (s≠⟨#[]⟩)&&decide (bt s ((s.size:Int)-1)≠10))=false:=h2
 have he:ends s=true:=by
  rw[Bool.and_eq_false_iff,decide_eq_false_iff_not,decide_eq_false_iff_not,Classical.not_not,Classical.not_not]at h3
  unfold ends
  rcases h3 with h3|h3
  rw[decide_eq_true h3];rfl
  rw[decide_eq_true h3];simp
 have hne:¬ends s=false:=by rw[he];simp
 by_cases h0:s.size=0
 have hss:spellS s=⟨#[]⟩:=by
  unfold spellS
  rw[if_neg hn,if_neg hne,h0,if_neg (show ¬ 65536<(spellUp s 0).length from by simp[spellUp])];rfl
 have hee:spellE s=0:=by
  unfold spellE
  rw[if_neg hn,if_neg hne,h0,if_neg (show ¬ 65536<(spellUp s 0).length from by simp[spellUp])]
 refine Br (σ:=Unit) (fun _=>⟨[(21,.v (.int .i64 0)),(20,.v (.int .i64 (s.size:Int))),(4,.p 0 0)],[],[(0,.box 136 [.v (.pointer none),.v (.slice none 0 0)])],1⟩)
  (fun _ _=>True) (fun _=>0) (fun _=>Nat.le_refl _) () [] .z trivial ?_
 rintro _ u hu _
 refine Ao Aa ?_
 refine x_iff (by rw[h0];rfl) ?_
 refine Bd lenNil_sc (fun _ _ _ _=>trivial) trivial [0] O O O O fn62 O O O O O O O (fun _=>rfl) (fun _ u1 hu1 _=>?_)
 refine Ab Aa ?_
 refine x_iff rfl ?_
 refine Bd stringNil_sc (fun _ _ _ _=>trivial) trivial [0] O O O O fn63 O O O O O O O (fun _=>rfl) (fun _ u2 hu2 _=>?_)
 refine Ab Aa ?_
 refine Ay (fun _ _=>?_)
 rw[hss,hee];rfl
 refine x_nilCell 0 5 byteY [.v (.pointer none)] [] rfl ?_
 refine Br (σ:=Int×Bool×List UInt8) (fun(i,us,L)=>⟨[(21,.v (.int .i64 i)),(20,.v (.int .i64 (s.size:Int))),(4,.p 0 0),(0,.v (.string s))],[],[(0,.box 136 [bAddr us,.r 2]),(2,.row 5 (byteY.d L))],3⟩)
  (fun(i,_,L) _=>0≤i∧i≤s.size∧L=spellUp s i.toNat) (fun(i,_,_)=>((s.size:Int)-i).toNat) (fun(_,_,_)=>by simp only;omega) (0,false,[]) [(2,some 1)] .z ⟨by omega,by omega,rfl⟩ ?_
 rintro⟨i,us,L⟩ u hu ⟨g1,g2,g3⟩
 have hlen:=spellUp_len s i.toNat
 rw[←g3]at hlen
 refine Ao Aa ?_
 refine Ap (fun h4=>?_) (fun h4=>?_)
 have h5:i<s.size:=of_decide_eq_true h4
 have hsu:=spellUp_succ s g1
 rw[←g3]at hsu
 repeat(refine And.intro ?_ ?_;first|omega|(simp only[Lay.d_n];omega)|(simp only[decide_eq_true_eq,decide_eq_false_iff_not,Bool.or_eq_false_iff,Bool.and_eq_true,Bool.or_eq_true,Bool.and_eq_false_iff,Bool.not_eq_true',Bool.not_eq_false'];omega))
 refine Bd (Cs us L (byteAt s i) (by omega)) (fun _ _ _ _=>trivial) trivial [0,2] O O O O fn59 O O O O O (by cases us<;>rfl) (by cases us<;>rfl) (fun _=>rfl) (fun _ u1 hu1 _=>?_)
 refine Ab Aa ?_
 refine Am (.bool (parted s i)) O O O O fn60 O O (fun E w F hs=>parted_any s i w g1 h5 (by omega)) ?_
 refine Ab Aa ?_
 refine Ap (fun h6=>?_) (fun h6=>?_)
 have e:spellUp s (i+1).toNat=(L++[byteAt s i])++[92,10]:=by
  rw[hsu,spellAt,if_pos h6];simp
 refine Bd (Cg true (L++[byteAt s i]) ⟨#[92,10]⟩ (by rw[List.length_append];show L.length+1+2≤_;omega)) (fun _ _ _ _=>trivial) trivial [0,3] O O O O fn61 O O O O O O O (fun _=>rfl) (fun _ u2 hu2 _=>?_)
 refine Ab Aa ?_
 repeat(refine And.intro ?_ ?_;first|omega|(simp only[Lay.d_n];omega)|(simp only[decide_eq_true_eq,decide_eq_false_iff_not,Bool.or_eq_false_iff,Bool.and_eq_true,Bool.or_eq_true,Bool.and_eq_false_iff,Bool.not_eq_true',Bool.not_eq_false'];omega))
 exact Bj (i+1,true,_) [(2,some 4)] .z ⟨by omega,by omega,e.symm⟩ (by simp only;omega)
 have e:spellUp s (i+1).toNat=L++[byteAt s i]:=by
  rw[hsu,spellAt,if_neg (by rw[h6];simp)]
 repeat(refine And.intro ?_ ?_;first|omega|(simp only[Lay.d_n];omega)|(simp only[decide_eq_true_eq,decide_eq_false_iff_not,Bool.or_eq_false_iff,Bool.and_eq_true,Bool.or_eq_true,Bool.and_eq_false_iff,Bool.not_eq_true',Bool.not_eq_false'];omega))
 exact Bj (i+1,true,_) [(2,some 3)] .z ⟨by omega,by omega,e.symm⟩ (by simp only;omega)
 have h5:¬i<s.size:=of_decide_eq_false h4
 have hi:i.toNat=s.size:=by omega
 rw[hi]at g3 hlen
 have hL:L≠[]:=fun h=>h0 (Nat.le_zero.1 (by have:=hlen.1;rw[h]at this;exact this))
 refine Bd (len_sc us L) (fun _ _ _ _=>trivial) trivial [0,2] O O O O fn62 O O O O O (by cases us<;>rfl) (by cases us<;>rfl) (fun _=>by cases us<;>rfl) (fun _ u1 hu1 _=>?_)
 refine Ab Aa ?_
 refine Ap (fun h6=>?_) (fun h6=>?_)
 have h7:65536<(L.length:Int):=of_decide_eq_true h6
 refine Ay (fun _ _=>?_)
 rw[show spellS s=⟨#[]⟩ by unfold spellS;rw[if_neg hn,if_neg hne,←g3,if_pos (by omega)],show spellE s=3 by unfold spellE;rw[if_neg hn,if_neg hne,←g3,if_pos (by omega)]]
 rfl
 have h7:¬ 65536<(L.length:Int):=of_decide_eq_false h6
 refine Bd (string_sc us L hL) (fun _ _ _ _=>trivial) trivial [0,2] O O O O fn63 O O O O O (by cases us<;>rfl) (by cases us<;>rfl) (fun _=>rfl) (fun _ u2 hu2 _=>?_)
 refine Ab Aa ?_
 refine Ay (fun _ _=>?_)
 rw[show spellS s=⟨L.toArray⟩ by unfold spellS;rw[if_neg hn,if_neg hne,←g3,if_neg (by omega)],show spellE s=0 by unfold spellE;rw[if_neg hn,if_neg hne,←g3,if_neg (by omega)]]
 rfl
theorem spellS_size (s:ByteArray):(spellS s).size≤65536:=by
 unfold spellS
 split
 decide
 split
 decide
 split
 decide
 rename_i h
 show((spellUp s s.size).toArray).size≤65536
 simp only[List.size_toArray]
 omega
def textR (m:MT) (T:List (List ByteArray)):ByteArray×Int:=
 if spellE (lineT m)≠0 then(⟨#[]⟩,50)else
 if scanE (spellS (lineT m))≠0 then(⟨#[]⟩,50)else
 if((rowsS (spellS (lineT m))).length:Int)≠1 then(⟨#[]⟩,50)else
 if(decide ((defR (bodyOf (spellS (lineT m)))).2≠0)||!mSame (defR (bodyOf (spellS (lineT m)))).1 m (noP (defR (bodyOf (spellS (lineT m)))).1) T)=true then(⟨#[]⟩,50)else(spellS (lineT m),0)
theorem text_any (m:MT) (T:List (List ByteArray)) (s:MA) (w:World) (hm:MAt (im w) m T s) (hn:m.ps.length≤140737488355328) (hz:(lineL m).length≤140737488355328) (hg:Glob (im w)) :
 Calls Tryz.prog 23 #[mVal m s] w (Bc w fun v _=>v=.tuple #[.string (textR m T).1,.int .i64 (textR m T).2]):=by
 have hlz:(lineT m).size≤9223372036854775807:=by
  show((lineL m).toArray).size≤_
  simp only[List.size_toArray]
  omega
 obtain⟨l,hl⟩:∃l,l=lineT m:=⟨_,rfl⟩
 unfold textR
 rw[←hl]at hlz ⊢
 obtain⟨sp,hsp⟩:∃sp,sp=spellS l:=⟨_,rfl⟩
 have zsp:sp.size≤65536:=by rw[hsp];exact spellS_size l
 rw[←hsp]
 have hlen:=scanT_len sp
 have hbt:=bodyOf_tx sp
 refine Bq Aa Tryz.func23 O O [] 0 [.v (mVal m s)] O O O O (fun b hb=>by cases hb) ?_
 refine Ao Aa ?_
 refine Am (.string l) O O O O fn36 O O (fun E w' F hs=>by rw[hl];exact line_any m s w' (hm.ps.imm hs.imm) (hm.body.imm hs.imm) hn hz) ?_
 refine Ab Aa ?_
 refine Am (.tuple #[.string sp,.int .i64 (spellE l)]) O O O O fn35 O O (fun E w' F hs=>by rw[hsp];exact spell_any l w' hlz) ?_
 refine Ab Aa ?_
 refine Ap (fun h=>?_) (fun h=>?_)
 have h:spellE l≠0:=of_decide_eq_true h
 rw[if_pos h]
 exact Ay (fun _ _=>rfl)
 have h:¬spellE l≠0:=of_decide_eq_false h
 rw[if_neg h]
 clear h
 refine xl_callO2 121 (Cf.d (scanT sp)) [.int .i64 (scanE sp)] O O O O fn29 O O (fun E w F hs'=>scan_any sp w (by omega) (hg.imm hs'.imm)) ?_
 refine Ab Aa ?_
 refine Ap (fun h=>?_) (fun h=>?_)
 have h:scanE sp≠0:=of_decide_eq_true h
 rw[if_pos h]
 exact Ay (fun _ _=>rfl)
 have h:¬scanE sp≠0:=of_decide_eq_false h
 rw[if_neg h]
 clear h
 obtain⟨R,hR⟩:∃R,R=rowsS sp:=⟨_,rfl⟩
 have hRl:R.length≤65537:=by rw[hR];have:=(rowsOf_size (scanT sp)).2;unfold rowsS;omega
 rw[←hR]
 refine xl_callStar (fun(s:Option Addr×Nat×List RowV)=>.slice s.1 R.length s.2.1) (fun s=>itemsS s.2.2 R++[(⟨.slice s.1 R.length s.2.1,74,rowY.d s.2.2⟩:SI)]) (fun s=>s.2.2.map RowV.key=R.map RowT.key) O O O O fn30 O O
  (fun E w F hs=>by
   have h1:=hs.rowAt (k:=1) rfl
   obtain⟨A,c,hv⟩:=h1.form
   show Calls Tryz.prog 30 #[E 1] w _
   rw[hv]at h1 ⊢
   rw[hR]
   exact rows_any (scanT sp) A c w h1 (by omega)) (fun s' hk=>?_)
 obtain⟨A,cc,V⟩:=s'
 replace hk:V.map RowV.key=R.map RowT.key:=hk
 have hVR:V.length=R.length:=by have:=congrArg List.length hk;simpa using this
 refine xl_freezeStar 2 (sl:=itemsS V R++[(⟨.slice A R.length cc,74,rowY.d V⟩:SI)]) rfl (fun u1 hu1 hfr=>?_)
 refine xl_sl 25 (x:=.slice A R.length cc) (D:=rowY.d V) rfl (hfr _ (List.mem_append_right _ (List.mem_singleton.2 rfl))).1 ?_
 have hT:=star_toks hVR (fun p hp=>(hfr p (List.mem_append_left _ hp)).1)
 refine Ab Aa ?_
 refine Ap (fun h=>?_) (fun h=>?_)
 have h:(V.length:Int)≠1:=of_decide_eq_true h
 rw[if_pos (by rw[←hVR];exact h)]
 exact Ay (fun _ _=>rfl)
 have h:¬(V.length:Int)≠1:=of_decide_eq_false h
 rw[if_neg (by rw[←hVR];exact h)]
 have hR1:0<V.length:=by omega
 repeat refine sdI ?_
 have hsz:((R.map RowT.ts).getD 0 []).length≤65537:=by
  rw[tsD]
  have h1:=ts_size (R:=R) 0
  rw[hR,rowsS,(rowsOf_size (scanT sp)).1]at h1
  rw[hR,rowsS];omega
 have hsv:saysV (V.getD 0 row0) ((R.map RowT.ts).getD 0 [])=bodyOf sp:=by
  have:=keyT_at hk 0
  rw[tsD]
  unfold bodyOf saysT saysV
  rw[this.1,this.2,hR]
 have hbl:(bodyOf sp).length≤65537:=by
  have:=says_len (V.getD 0 row0) ((R.map RowT.ts).getD 0 [])
  rw[hsv]at this;omega
 refine xl_callO 121 (Cf.d (bodyOf sp)) O O O O fn32 O O (fun E w F hs=>by
  have:=says_own (V.getD 0 row0) ((R.map RowT.ts).getD 0 []) w ((hT.2 0 hR1).imm hs.imm) (by omega)
  rw[hsv]at this
  exact this) ?_
 refine Ab Aa ?_
 obtain⟨r,hr⟩:∃r,r=defR (bodyOf sp):=⟨_,rfl⟩
 have hsm:MSm r.1 (bodyOf sp).length:=by rw[hr];exact defR_sm _
 rw[←hr]
 refine xl_callStar (fun s:MA=>.tuple #[mVal r.1 s,.int .i64 r.2]) (fun s=>mStar r.1 s) (fun _=>True) O O O O fn31 O O
  (fun E w F hs=>by
   have h1:=hs.rowAt (k:=4) rfl
   obtain⟨A,c,hv⟩:=h1.form
   show Calls Tryz.prog 31 #[E 4] w _
   rw[hv]at h1 ⊢
   rw[hr]
   exact define_any (bodyOf sp) A c w h1 (by omega) (fun t ht=>Nat.le_trans (hbt t ht) (by decide))) (fun sm _=>?_)
 refine Ab Aa ?_
 refine xl_gcallF (.bool (mSame r.1 m (noP r.1) T)) O O O O fn37 O O (fun E w' F hs=>macroSame_any r.1 m _ _ sm s w' (star_at hs (k:=5) rfl hsm (by omega)) ((hm.le hu1).imm hs.imm)) ?_
 refine Ab Aa ?_
 refine Ap (fun h=>?_) (fun h=>?_)
 have h:(decide (r.2≠0)||!mSame r.1 m (noP r.1) T)=true:=h
 rw[if_pos h]
 exact Ay (fun _ _=>rfl)
 have h:(decide (r.2≠0)||!mSame r.1 m (noP r.1) T)=false:=h
 rw[if_neg (by rw[h];simp)]
 exact Ay (fun _ _=>rfl)
def dfnQ (s:ByteArray):ByteArray:=defB8++s++⟨#[10]⟩
def nlQ (s:ByteArray):ByteArray:=s++⟨#[10]⟩
def toksL (s:ByteArray):List PV:=(Bu false (scanT (nlQ s))).map ofT
theorem toksL_len (s:ByteArray):(toksL s).length≤65537:=by
 have h1:=scanT_len (nlQ s)
 have h2:=bareFrom_le false (scanT (nlQ s))
 unfold toksL
 rw[List.length_map];omega
theorem toks_any (s:ByteArray) (w:World) (hs:s.size≤1000000) (hg:Glob (im w)):Calls Tryz.prog 18 #[.string s] w (Bc w fun v u=>OwnAt u v 37 (pvY.d (toksL s))):=by
 have h1:=scanT_len (nlQ s)
 have h2:=bareFrom_le false (scanT (nlQ s))
 have hz:(nlQ s).size≤9223372036854775807:=by
  unfold nlQ
  rw[ByteArray.size_append]
  show s.size+1≤_
  omega
 refine Bq Aa Tryz.func18 O O [] 0 [.v (.string s)] O O O O (fun b hb=>by cases hb) ?_
 refine Ao Aa ?_
 refine And.intro (by show s.size+1≤_;omega) ?_
 refine xl_callO2 121 (Cf.d (scanT (nlQ s))) [.int .i64 (scanE (nlQ s))] O O O O fn29 O O (fun E w F hs'=>scan_any _ w hz (hg.imm hs'.imm)) ?_
 refine Ab Aa ?_
 refine xl_callO 121 (Cf.d (Bu false (scanT (nlQ s)))) O O O O fn34 O O (fun E w F hs=>bare_any _ _ w (hs.rowAt (k:=0) rfl) (by omega)) ?_
 refine Ab Aa ?_
 refine xl_callO 37 (pvY.d (toksL s)) O O O O fn33 O O (fun E w F hs=>of_any _ _ w (hs.rowAt (k:=1) rfl) (by omega)) ?_
 refine Ab Aa ?_
 exact finO (k:=2) (D:=pvY.d (toksL s)) rfl
def MaAt (u:Im) (m:MT) (s:MA):Prop:=Aw u (.slice s.1 m.ps.length s.2.1) (Bh.d m.ps)∧Aw u (.slice s.2.2.1 m.body.length s.2.2.2) (pvY.d m.body)
theorem MaAt.sub {u u':Im} {m:MT} {s:MA} (h:MaAt u m s) (hu:u.sub u'):MaAt u' m s:=⟨h.1.sub hu,h.2.sub hu⟩
def mcY:Lay (MT×MA):=⟨[fun x=>.string x.1.name,fun x=>.bool x.1.fn,fun x=>.slice x.2.1 x.1.ps.length x.2.2.1,fun x=>.bool x.1.va,fun x=>.slice x.2.2.2.1 x.1.body.length x.2.2.2.2],(m0,(none,0,none,0))⟩
def MasAt (u:Im) (D:List (MT×MA)):Prop:=∀x∈D,MaAt u x.1 x.2
def defOne (s:ByteArray):Option MT:=if(rowsS (dfnQ s)).length=1 then some (defR (bodyOf (dfnQ s))).1 else none
def defsL (LS:List ByteArray):List MT:=LS.filterMap defOne
theorem defsL_sm {LS:List ByteArray} {m:MT} (h:m∈defsL LS):MSm m 65537:=by
 unfold defsL at h
 obtain⟨s,_,hs⟩:=List.mem_filterMap.1 h
 unfold defOne at hs
 split at hs
 cases hs
 have h1:=defR_sm (bodyOf (dfnQ s))
 have h2:(bodyOf (dfnQ s)).length≤65537:=by
  have h3:=scanT_len (dfnQ s)
  have h4:=ts_size (R:=rowsS (dfnQ s)) 0
  rw[rowsS,(rowsOf_size (scanT (dfnQ s))).1]at h4
  have h5:=says_len ⟨((rowsS (dfnQ s)).getD 0 rowT0).dir,((rowsS (dfnQ s)).getD 0 rowT0).name,none,0,0⟩ ((rowsS (dfnQ s)).getD 0 rowT0).ts
  have h6:saysV ⟨((rowsS (dfnQ s)).getD 0 rowT0).dir,((rowsS (dfnQ s)).getD 0 rowT0).name,none,0,0⟩ ((rowsS (dfnQ s)).getD 0 rowT0).ts=bodyOf (dfnQ s):=rfl
  rw[h6]at h5
  have h7:((rowsS (dfnQ s)).getD 0 rowT0).ts.length≤(scanT (dfnQ s)).length:=h4
  omega
 exact⟨Nat.le_trans h1.ps h2,Nat.le_trans h1.body h2,h1.prt⟩
 cases hs
theorem defs_any (LS:List ByteArray) (w:World) (A0:Option Addr) (c0:Nat) (hL:Aw (im w) (.slice A0 LS.length c0) (Bh.d LS)) (hz:LS.length≤1000) (hs:∀s∈LS,s.size≤1000000) (hg:Glob (im w)) :
 Calls Tryz.prog 16 #[.slice A0 LS.length c0] w (Bc w fun v u=>∃A c D,v=.slice A (List.length D) c∧Aw u v (mcY.d D)∧D.map (·.1)=defsL LS∧MasAt u D):=by
 refine Bq Aa Tryz.func16 O O [(.slice A0 LS.length c0,Bh.d LS)] 1 [.r 0] O O O O (fun b hb=>by simp at hb;subst hb;exact hL) ?_
 refine Ao Aa ?_
 refine x_nil 3 27 mcY rfl ?_
 refine Br (σ:=Nat×List (MT×MA)) (fun(i,D)=>⟨[(4,.v (.int .i64 (i:Int))),(3,.r 2),(0,.r 0)],[],[(0,.sl (Bh.d LS)),(2,.row 27 (mcY.d D))],3⟩)
  (fun(i,D) u=>i≤LS.length∧D.length≤i∧D.map (·.1)=defsL (LS.take i)∧MasAt (dif (im w) u) D) (fun(i,_)=>LS.length-i) (fun _=>by show 2≤3;omega) (0,[]) [(2,some 1)] .z ⟨Nat.zero_le _,Nat.zero_le _,rfl,fun x hx=>by cases hx⟩ ?_
 rintro⟨i,D⟩ u hu ⟨g1,g2,g3,g4⟩
 have hLn:(Bh.d LS).n=LS.length:=Lay.d_n _ _
 refine Ao Aa ?_
 refine Ap (fun h1=>?_) (fun h1=>?_)
 have h1:(i:Int)<((Bh.d LS).n:Int):=of_decide_eq_true h1
 obtain⟨s,hsi⟩:∃s,LS[i]?=some s:=⟨_,List.getElem?_eq_getElem (by omega)⟩
 have hgs:LS.getD ((i:Nat):Int).toNat Bh.dft=s:=by rw[Int.toNat_natCast,List.getD_eq_getElem?_getD,hsi];rfl
 have hss:=hs s (List.mem_of_getElem? hsi)
 have hq:(dfnQ s).size=s.size+9:=by
  unfold dfnQ
  rw[ByteArray.size_append,ByteArray.size_append]
  show 8+s.size+1=_
  omega
 have hsg:(LS.getD ((i:Nat):Int).toNat Bh.dft).size≤1000000:=by rw[hgs];exact hss
 have hdq:defB8++LS.getD ((i:Nat):Int).toNat Bh.dft++⟨#[10]⟩=dfnQ s:=by rw[hgs];rfl
 have hlen:=scanT_len (dfnQ s)
 have hbt:=bodyOf_tx (dfnQ s)
 have hsub:(im w).sub u:=hu.sub
 refine And.intro (by omega) ?_
 refine And.intro (by omega) ?_
 refine And.intro (by show 8+(LS.getD ((i:Nat):Int).toNat Bh.dft).size≤_;omega) ?_
 refine And.intro (by rw[ByteArray.size_append];show 8+(LS.getD ((i:Nat):Int).toNat Bh.dft).size+1≤_;omega) ?_
 refine xl_callO2 121 (Cf.d (scanT (dfnQ s))) [.int .i64 (scanE (dfnQ s))] O O O O fn29 O O (fun E w' F hs'=>by
  rw[hgs]
  exact scan_any (dfnQ s) w' (by omega) (hg.sub (hsub.trans (Au hs'.imm)))) ?_
 refine Ab Aa ?_
 obtain⟨R,hR⟩:∃R,R=rowsS (dfnQ s):=⟨_,rfl⟩
 have hRl:R.length≤65537:=by rw[hR];have:=(rowsOf_size (scanT (dfnQ s))).2;unfold rowsS;omega
 refine xl_callStar (fun(s:Option Addr×Nat×List RowV)=>.slice s.1 R.length s.2.1) (fun s=>itemsS s.2.2 R++[(⟨.slice s.1 R.length s.2.1,74,rowY.d s.2.2⟩:SI)]) (fun s=>s.2.2.map RowV.key=R.map RowT.key) O O O O fn30 O O
  (fun E w F hs=>by
   have h1:=hs.rowAt (k:=3) rfl
   obtain⟨A,c,hv⟩:=h1.form
   show Calls Tryz.prog 30 #[E 3] w _
   rw[hv]at h1 ⊢
   rw[hR]
   exact rows_any (scanT (dfnQ s)) A c w h1 (by omega)) (fun s' hk=>?_)
 obtain⟨A,cc,V⟩:=s'
 replace hk:V.map RowV.key=R.map RowT.key:=hk
 have hVR:V.length=R.length:=by have:=congrArg List.length hk;simpa using this
 refine xl_freezeStar 4 (sl:=itemsS V R++[(⟨.slice A R.length cc,74,rowY.d V⟩:SI)]) rfl (fun u1 hu1 hfr=>?_)
 have hT:=star_toks hVR (fun p hp=>(hfr p (List.mem_append_left _ hp)).1)
 refine Ab Aa ?_
 have htake:∀(o:Option MT),defOne s=o→defsL (LS.take (i+1))=defsL (LS.take i)++o.toList:=fun o ho=>by
  unfold defsL
  rw[Cj hsi,List.filterMap_append]
  congr 1
  simp only[List.filterMap_cons,List.filterMap_nil,ho]
  cases o<;>rfl
 refine Ap (fun h2=>?_) (fun h2=>?_)
 have h2:decide ((R.length:Int)=1)=true:=h2
 have h2:R.length=1:=by have:=of_decide_eq_true h2;omega
 have hR1:0<V.length:=by omega
 refine xl_sl 32 (x:=.slice A R.length cc) (D:=rowY.d V) rfl (hfr _ (List.mem_append_right _ (List.mem_singleton.2 rfl))).1 ?_
 refine Ab Aa ?_
 have hVn:(rowY.d V).n=V.length:=Lay.d_n _ _
 repeat refine sdI ?_
 have hsz:((R.map RowT.ts).getD 0 []).length≤65537:=by
  rw[tsD]
  have h1:=ts_size (R:=R) 0
  rw[hR,rowsS,(rowsOf_size (scanT (dfnQ s))).1]at h1
  rw[hR,rowsS];omega
 have hsv:saysV (V.getD 0 row0) ((R.map RowT.ts).getD 0 [])=bodyOf (dfnQ s):=by
  have:=keyT_at hk 0
  rw[tsD]
  unfold bodyOf saysT saysV
  rw[this.1,this.2,hR]
 have hbl:(bodyOf (dfnQ s)).length≤65537:=by
  have:=says_len (V.getD 0 row0) ((R.map RowT.ts).getD 0 [])
  rw[hsv]at this;omega
 refine xl_callO 121 (Cf.d (bodyOf (dfnQ s))) O O O O fn32 O O (fun E w F hs=>by
  have:=says_own (V.getD 0 row0) ((R.map RowT.ts).getD 0 []) w ((hT.2 0 hR1).imm hs.imm) (by omega)
  rw[hsv]at this
  exact this) ?_
 refine Ab Aa ?_
 obtain⟨r,hr⟩:∃r,r=defR (bodyOf (dfnQ s)):=⟨_,rfl⟩
 have hsm:MSm r.1 (bodyOf (dfnQ s)).length:=by rw[hr];exact defR_sm _
 refine xl_callStar (fun s:MA=>.tuple #[mVal r.1 s,.int .i64 r.2]) (fun s=>mStar r.1 s) (fun _=>True) O O O O fn31 O O
  (fun E w F hs=>by
   have h1:=hs.rowAt (k:=6) rfl
   obtain⟨A,c,hv⟩:=h1.form
   show Calls Tryz.prog 31 #[E 6] w _
   rw[hv]at h1 ⊢
   rw[hr]
   exact define_any (bodyOf (dfnQ s)) A c w h1 (by omega) (fun t ht=>Nat.le_trans (hbt t ht) (by decide))) (fun sm _=>?_)
 refine xl_freezeStar 7 (sl:=mStar r.1 sm) rfl (fun u2 hu2 hfm=>?_)
 refine Ab Aa ?_
 refine xl_push Aa mcY D (r.1,sm) 80 (cs:=[.string r.1.name,.bool r.1.fn,.slice sm.1 r.1.ps.length sm.2.1,.bool r.1.va,.slice sm.2.2.1 r.1.body.length sm.2.2.2]) O O O O O O O O O O O O (by kernel_rfl) O O O O O (fun n hn=>by cases hn;decide) O O O (by omega) (by omega) ?_
 refine Ab Aa ?_
 repeat refine sdI ?_
 have hone:defOne s=some r.1:=by
  unfold defOne
  rw[←hR,if_pos h2,←hr]
 refine Bj (i+1,D++[(r.1,sm)]) [(2,some 9)] .z ⟨by omega,by rw[List.length_append,List.length_singleton];omega,?_,?_⟩ (by show LS.length-(i+1)<LS.length-i;omega)
 rw[htake _ hone,List.map_append,g3];rfl
 intro x hx
 rcases List.mem_append.1 hx with hx|hx
 exact(g4 x hx).sub (Ba ((hu1.trans hu2).sub))
 rw[List.mem_singleton]at hx
 subst hx
 have hus1:(im w).sub u1:=hsub.trans hu1.sub
 have k1:=hfm ⟨.slice sm.1 r.1.ps.length sm.2.1,9,Bh.d r.1.ps⟩ (List.mem_cons_self)
 have k2:=hfm ⟨.slice sm.2.2.1 r.1.body.length sm.2.2.2,37,pvY.d r.1.body⟩ (List.mem_cons_of_mem _ List.mem_cons_self)
 exact⟨Aw.difOf k1.1 (fun ad had=>dif_none hus1 (k1.2 ad.block (by rw[had];rfl))),Aw.difOf k2.1 (fun ad had=>dif_none hus1 (k2.2 ad.block (by rw[had];rfl)))⟩
 have h2:decide ((R.length:Int)=1)=false:=h2
 have h2:R.length≠1:=by have:=of_decide_eq_false h2;omega
 repeat refine sdI ?_
 have hone:defOne s=none:=by
  unfold defOne
  rw[←hR,if_neg h2]
 refine Bj (i+1,D) [] .z ⟨by omega,by omega,?_,fun x hx=>(g4 x hx).sub (Ba hu1.sub)⟩ (by show LS.length-(i+1)<LS.length-i;omega)
 rw[htake _ hone,g3];exact(List.append_nil _).symm
 have h1:¬(i:Int)<((Bh.d LS).n:Int):=of_decide_eq_false h1
 obtain rfl:i=LS.length:=by omega
 rw[List.take_length]at g3
 have hDn:(mcY.d D).n=D.length:=Lay.d_n _ _
 exact finP (fun E w' F hs hle=>by
  have h1:=(hs.rowOwn (k:=2) rfl hle).slAt
  obtain⟨A,c,e⟩:=h1.form
  rw[hDn]at e
  exact⟨A,c,D,e,h1,g3,fun x hx=>(g4 x hx).sub (dif_cut hs.imm)⟩)
def msD (D:List MT) (s:ByteArray):Option MT:=D.find? (fun m=>decide (m.name=s))
def okB (m:MT):Bool:=(List.range m.body.length).all (fun i=>!(m.fn&&isH (m.body.getD i pv0))||decide (i+1<m.body.length))
theorem okB_ok {m:MT} (h:okB m=true):bodyOk m.fn m.body:=fun i hi hh=>by
 have:=List.all_eq_true.1 h i (List.mem_range.2 hi)
 rw[hh]at this
 simpa using this
def chkX:List MT→List ByteArray→Nat
 |[],_=>0
 |m::r,seen=>if(seen.any fun x=>decide (x=m.name))=true then 1
  else if(okB m&&decide ((lineL m).length≤1000000))=false then 2
  else if(textR m (noP m)).2≠0 then 1 else chkX r (seen++[m.name])
def expX (f:Nat) (D:List MT) (X:List XT) (steps:Int):RX (List XT):=
 if(decide (steps<0)||decide (65536<steps))=true then .err 2
 else if chkX D []=0 then withX (msD D) f steps.toNat X
 else if chkX D []=1 then .err 2 else .stuck
def EndX (r:RX (List XT)) (v:Value) (u:Im):Prop:=
 match r with
 |.stuck=>False
 |.err e=>v=.tuple #[.slice none 0 0,.int .i64 e]∧e≠0
 |.ok _ _ out=>∃A' c' L',v=.tuple #[.slice A' (List.length L') c',.int .i64 0]∧Aw u (.slice A' (List.length L') c') (pvY.d L')∧PvsR u L' out
def mD (D:List (MT×MA)) (s:ByteArray):Option (MT×MA):=D.find? (fun x=>decide (x.1.name=s))
def mF (D:List (MT×MA)) (s:ByteArray):Option Value:=(mD D s).map fun x=>mVal x.1 x.2
theorem mD_fst:∀(D:List (MT×MA)) (s:ByteArray),(mD D s).map (·.1)=msD (D.map (·.1)) s
 |[],s=>rfl
 |x::D,s=>by
  unfold mD msD
  rw[List.map_cons,List.find?_cons,List.find?_cons]
  cases decide (x.1.name=s)with
  |true=>rfl
  |false=>exact mD_fst D s
theorem mD_snoc (D:List (MT×MA)) (x:MT×MA) (s:ByteArray):mD (D++[x]) s=match mD D s with
  |some y=>some y
  |none=>if x.1.name=s then some x else none:=by
 unfold mD
 rw[List.find?_append]
 cases h:D.find? (fun x=>decide (x.1.name=s))with
 |some y=>rfl
 |none=>
  rw[Option.none_or,List.find?_cons,List.find?_nil]
  by_cases e:x.1.name=s
  rw[decide_eq_true e];simp[e]
  rw[decide_eq_false e];simp[e]
theorem mD_any:∀(D:List (MT×MA)) (s:ByteArray),(mD D s).isSome=((D.map fun x=>x.1.name).any fun x=>decide (x=s))
 |[],s=>rfl
 |x::D,s=>by
  have ih:=mD_any D s
  unfold mD at ih ⊢
  rw[List.find?_cons,List.map_cons,List.any_cons]
  cases decide (x.1.name=s)with
  |true=>rfl
  |false=>rw[Bool.false_or,←ih]
theorem expand_any {f:Nat} {D:List (MT×MA)} {A A1:Option Addr} {c c1:Nat} {L:List PV} {X:List XT} {steps:Int} (w:World) (hG:Glob (im w)) (hD:Aw (im w) (.slice A D.length c) (mcY.d D)) (hDa:MasAt (im w) D) (hDs:∀x∈D,MSm x.1 65537) (hDz:D.length≤1000)
 (hL:Aw (im w) (.slice A1 L.length c1) (pvY.d L)) (hX:PvsR (im w) L X) (hh:∀x∈X,x.hide=0) (hz:L.length≤1000000) (hns:expX f (D.map (·.1)) X steps≠.stuck) :
 Calls Tryz.prog 11 #[.slice A D.length c,.slice A1 L.length c1,.int .i64 steps] w (Bc w (EndX (expX f (D.map (·.1)) X steps))):=by
 obtain⟨RE,hRE⟩:∃RE,RE=expX f (D.map (·.1)) X steps:=⟨_,rfl⟩
 rw[←hRE]at hns ⊢
 unfold expX at hRE
 refine Bq Aa Tryz.func11 O O [(.slice A D.length c,mcY.d D)] 1 [.r 0,.v (.slice A1 L.length c1),.v (.int .i64 steps)] O O O O (fun b hb=>by simp at hb;subst hb;exact hD) ?_
 refine Ao Aa ?_
 refine Ap (fun h1=>?_) (fun h1=>?_)
 have h1:(decide (steps<0)||decide (65536<steps))=true:=h1
 rw[if_pos h1]at hRE
 rw[hRE]
 exact finP (fun E w' F hs hle=>⟨rfl,by decide⟩)
 have h1:(decide (steps<0)||decide (65536<steps))=false:=h1
 rw[if_neg (by rw[h1];simp)]at hRE
 have hst:0≤steps∧steps≤65536:=by
  rw[Bool.or_eq_false_iff]at h1
  have a:=of_decide_eq_false h1.1
  have b:=of_decide_eq_false h1.2
  omega
 obtain⟨KX,hKX⟩:∃KX,KX=chkX (D.map (·.1)) []:=⟨_,rfl⟩
 rw[←hKX]at hRE
 have hDn:(mcY.d D).n=D.length:=Lay.d_n _ _
 refine xl_makeO O O O Tryz.underlying50 (fun x hx=>by cases hx;exact⟨_,_,rfl⟩) rfl (fun bm=>?_)
 refine Ab Aa ?_
 refine Br (σ:=Nat) (fun i=>⟨[(26,.v (.int .i64 (i:Int))),(25,.v (.int .i64 ((mcY.d D).n:Int))),(24,.r 0),(8,.v (.map (some bm))),(2,.v (.int .i64 steps)),(1,.v (.slice A1 L.length c1))],[],[(1,.gen (mapO bm i (mF (D.take i)))),(0,.sl (mcY.d D))],2⟩)
  (fun i _=>i≤D.length∧chkX ((D.drop i).map (·.1)) ((D.take i).map fun x=>x.1.name)=KX) (fun i=>D.length-i) (fun _=>by show 2≤2;omega) 0 [] .z ⟨Nat.zero_le _,hKX.symm⟩ ?_
 rintro i u hu ⟨g1,g2⟩
 have hsub:(im w).sub u:=hu.sub
 refine Ao Aa ?_
 refine Ap (fun h2=>?_) (fun h2=>?_)
 have h2:(i:Int)<((mcY.d D).n:Int):=of_decide_eq_true h2
 obtain⟨y,hy⟩:∃y,D[i]?=some y:=⟨_,List.getElem?_eq_getElem (by omega)⟩
 have hgy:D.getD ((i:Nat):Int).toNat mcY.dft=y:=by rw[Int.toNat_natCast,List.getD_eq_getElem?_getD,hy];rfl
 have hym:=List.mem_of_getElem? hy
 rw[drop_cons hy,List.map_cons,chkX]at g2
 refine And.intro (by omega) ?_
 refine And.intro (by omega) ?_
 have hseen:(((D.take i).map fun x=>x.1.name).any fun x=>decide (x=y.1.name))=(mD (D.take i) (D.getD ((i:Nat):Int).toNat mcY.dft).1.name).isSome:=by rw[hgy];exact(mD_any (D.take i) y.1.name).symm
 cases hlk:mD (D.take i) (D.getD ((i:Nat):Int).toNat mcY.dft).1.name with
 |some z=>
  rw[hlk]at hseen
  rw[if_pos (by rw[hseen];rfl)]at g2
  subst g2
  rw[if_neg (by decide),if_pos rfl]at hRE
  refine xl_lookOv (k:=1) O O O Tryz.underlying50 Tryz.underlying9 O O O O (.agg #[.string ⟨#[]⟩,.bool false,.slice none 0 0,.bool false,.slice none 0 0]) (fun w=>rfl) (.tuple #[mVal z.1 z.2,.bool true]) (by
   show lookV true (mF (D.take i) (D.getD ((i:Nat):Int).toNat mcY.dft).1.name) _=_
   unfold mF
   rw[hlk];rfl) ?_
  refine Ab Aa ?_
  refine Be rfl ?_
  rw[hRE]
  exact finP (fun E w' F hs hle=>⟨rfl,by decide⟩)
 |none=>
  rw[hlk]at hseen
  rw[if_neg (by rw[hseen];simp)]at g2
  refine xl_lookOv (k:=1) O O O Tryz.underlying50 Tryz.underlying9 O O O O (.agg #[.string ⟨#[]⟩,.bool false,.slice none 0 0,.bool false,.slice none 0 0]) (fun w=>rfl) (.tuple #[.agg #[.string ⟨#[]⟩,.bool false,.slice none 0 0,.bool false,.slice none 0 0],.bool false]) (by
   show lookV true (mF (D.take i) (D.getD ((i:Nat):Int).toNat mcY.dft).1.name) _=_
   unfold mF
   rw[hlk];rfl) ?_
  refine Ab Aa ?_
  refine x_iff rfl ?_
  have hok:(okB y.1&&decide ((lineL y.1).length≤1000000))=true:=by
   cases h:(okB y.1&&decide ((lineL y.1).length≤1000000))with
   |true=>rfl
   |false=>
    rw[if_pos h]at g2
    subst g2
    rw[if_neg (by decide),if_neg (by decide)]at hRE
    exact absurd hRE hns
  rw[if_neg (by rw[hok];simp)]at g2
  rw[Bool.and_eq_true,decide_eq_true_eq]at hok
  have hsm:=hDs y hym
  obtain⟨TE,hTE⟩:∃TE,TE=textR y.1 (noP y.1):=⟨_,rfl⟩
  rw[←hTE]at g2
  refine Am (.tuple #[.string TE.1,.int .i64 TE.2]) O O O O fn23 O O (fun E w' F hs=>by
   have ha:=(hDa y hym).sub (hsub.trans (Au hs.imm))
   have:=text_any y.1 (noP y.1) y.2 w' ⟨ha.1,ha.2,noP_at hsm _,by have:=hsm.ps;omega,by have:=hsm.body;omega,noP_sm _⟩ (by have:=hsm.ps;omega) (by omega) (hG.sub (hsub.trans (Au hs.imm)))
   rw[←hTE]at this
   show Calls _ 23 #[mVal (D.getD ((i:Nat):Int).toNat mcY.dft).1 (D.getD ((i:Nat):Int).toNat mcY.dft).2] w' _
   rw[hgy]
   exact this) ?_
  refine Ab Aa ?_
  refine Ap (fun h4=>?_) (fun h4=>?_)
  have h4:decide (TE.2≠0)=true:=h4
  rw[if_pos (of_decide_eq_true h4)]at g2
  subst g2
  rw[if_neg (by decide),if_pos rfl]at hRE
  rw[hRE]
  exact finP (fun E w' F hs hle=>⟨rfl,by decide⟩)
  have h4:decide (TE.2≠0)=false:=h4
  rw[if_neg (of_decide_eq_false h4)]at g2
  refine xl_setO (k:=1) (s:=(D.getD ((i:Nat):Int).toNat mcY.dft).1.name) (c:=mVal (D.getD ((i:Nat):Int).toNat mcY.dft).1 (D.getD ((i:Nat):Int).toNat mcY.dft).2) O O O Tryz.underlying50 Tryz.underlying9 O O O O (i+1) (by
   have:(mF (D.take i) (D.getD ((i:Nat):Int).toNat mcY.dft).1.name).isSome=false:=by unfold mF;rw[hlk];rfl
   rw[if_neg (by rw[this];simp)]) (mF (D.take (i+1))) (by
   funext s'
   rw[Cj hy]
   unfold mF
   rw[mD_snoc,hgy]
   by_cases e:s'=y.1.name
   subst e
   rw[if_pos rfl]
   rw[hgy]at hlk
   rw[hlk];simp
   rw[if_neg e]
   cases mD (D.take i) s' with
   |some z=>rfl
   |none=>simp[Ne.symm e]) ?_
  refine Ab Aa ?_
  repeat refine sdI ?_
  refine Bj (i+1) [] .z ⟨by omega,?_⟩ (by show D.length-(i+1)<D.length-i;omega)
  rw[←g2,Cj hy]
  simp
 have h2:¬(i:Int)<((mcY.d D).n:Int):=of_decide_eq_false h2
 obtain rfl:i=D.length:=by omega
 rw[List.drop_of_length_le (Nat.le_refl _)]at g2
 have g2:0=KX:=g2
 subst g2
 rw[if_pos rfl]at hRE
 rw[List.take_length]
 obtain⟨stn,hstn⟩:∃n:Nat,steps=(n:Int):=⟨steps.toNat,by omega⟩
 subst hstn
 rw[show((stn:Nat):Int).toNat=stn from Int.toNat_natCast stn]at hRE
 have hmsf:msOf (mD D)=msD (D.map (·.1)):=funext fun s=>mD_fst D s
 rw[←hmsf]at hRE
 have hmem:∀s m sa,mD D s=some (m,sa)→(m,sa)∈D:=fun s m sa h=>List.mem_of_find?_eq_some h
 have hokall:∀x∈D,bodyOk x.1.fn x.1.body:=by
  have key:∀(l:List MT) (seen:List ByteArray),chkX l seen=0→∀m∈l,okB m=true:=by
   intro l
   induction l with
   |nil=>intro _ _ m hm;cases hm
   |cons a r ih=>
    intro seen h m hm
    rw[chkX]at h
    split at h
    cases h
    split at h
    cases h
    rename_i h5
    split at h
    cases h
    rcases List.mem_cons.1 hm with rfl|hm
    cases ho:okB m with
    |true=>rfl
    |false=>rw[ho]at h5;exact absurd rfl h5
    exact ih _ h m hm
  exact fun x hx=>okB_ok (key _ _ hKX.symm x.1 (List.mem_map.2 ⟨x,hx,rfl⟩))
 refine Ar (EndX RE) O O O O fn24 O O (fun E w' F hs=>by
  have hsw:(im w).sub (im w'):=hsub.trans (Au hs.imm)
  obtain⟨_,es,clock,h5,h6⟩:=hs.holds 1 _ rfl
  have hMs:MsAt (im w') bm D.length (mD D):=⟨⟨es,clock,h5,h6⟩,fun s m sa h=>by
   have hm:=hmem s m sa h
   have ha:=(hDa _ hm).sub hsw
   have hs':=hDs _ hm
   exact⟨ha.1,ha.2,hokall _ hm,Nat.le_trans hs'.ps (by decide),Nat.le_trans hs'.body (by decide)⟩⟩
  have:=with_walk (f:=f) (left:=stn) w' (hG.sub hsw) hMs (hL.sub hsw) (hX.sub hsw) hh hz (by rw[←hRE];exact hns)
  rw[←hRE]at this
  exact this) (fun v u1 u2 hu2 hn2 hR=>?_)
 have hw2:(im w).sub u2:=hsub.trans hu2.sub
 cases RE with
 |stuck=>exact absurd rfl hns
 |err e=>
  obtain⟨rfl,he⟩:=hR
  refine Ab Aa ?_
  exact finP (fun E w' F hs hle=>⟨rfl,he⟩)
 |ok NS lf out=>
  obtain⟨A',c',L',rfl,k1,k2⟩:=hR
  refine Ab Aa ?_
  exact finP (fun E w' F hs hle=>by
   have hn:u1.sub (cut w.heap.size (im w')):=(hn2.trans (Ch hsub)).trans (dif_cut hs.imm)
   exact⟨A',c',L',rfl,k1.sub hn,k2.sub hn⟩)
def ptsX (s:ByteArray):List ByteArray→ByteArray
 |[]=>s
 |p::r=>ptsX ((s++p)++⟨#[59]⟩) r
def begX (s:ByteArray) (i:Nat):ByteArray:=if 0<i then s++⟨#[32]⟩else s
def midX (s:ByteArray) (x:XT):ByteArray:=if x.kind=11 then ptsX (s++⟨#[60]⟩) x.parts++⟨#[62]⟩else s
def txA (s:ByteArray) (i:Nat):List XT→ByteArray
 |[]=>s
 |x::r=>txA (midX (begX s i) x++x.text) (i+1) r
def txX (X:List XT):ByteArray:=txA ⟨#[]⟩ 0 X
def ptc:List ByteArray→Nat
 |[]=>0
 |p::r=>p.size+1+ptc r
def cst:List XT→Nat
 |[]=>0
 |x::r=>x.text.size+ptc x.parts+3+cst r
theorem ptc_len:∀l:List ByteArray,l.length≤ptc l
 |[]=>Nat.le_refl _
 |p::r=>by have:=ptc_len r;rw[ptc,List.length_cons];omega
theorem cst_len:∀l:List XT,l.length≤cst l
 |[]=>Nat.le_refl _
 |p::r=>by have:=cst_len r;rw[cst,List.length_cons];omega
theorem size_app (a b:ByteArray):(a++b).size=a.size+b.size:=ByteArray.size_append
theorem size_one (x:UInt8):(⟨#[x]⟩:ByteArray).size=1:=rfl
theorem texts_any {A:Option Addr} {c:Nat} {L:List PV} {X:List XT} (w:World) (hL:Aw (im w) (.slice A L.length c) (pvY.d L)) (hX:PvsR (im w) L X) (hz:cst X≤1000000) :
 Calls Tryz.prog 28 #[.slice A L.length c] w (Bc w fun v _=>v=.string (txX X)):=by
 have hLX:=hX.len
 have hXc:=cst_len X
 have hLn:(pvY.d L).n=L.length:=Lay.d_n _ _
 refine Bq Aa Tryz.func28 O O [(.slice A L.length c,pvY.d L)] 1 [.r 0] O O O O (fun b hb=>by simp at hb;subst hb;exact hL) ?_
 refine Ao Aa ?_
 refine Br (σ:=Nat×ByteArray) (fun(i,s)=>⟨[(4,.v (.int .i64 (i:Int))),(3,.v (.string s)),(0,.r 0)],[],[(0,.sl (pvY.d L))],1⟩)
  (fun(i,s) _=>i≤L.length∧txA s i (X.drop i)=txX X∧s.size+cst (X.drop i)≤cst X) (fun(i,_)=>L.length-i) (fun _=>by show 1≤1;omega) (0,⟨#[]⟩) [] .z ⟨Nat.zero_le _,rfl,by show 0+cst X≤_;omega⟩ ?_
 rintro⟨i,s⟩ u hu ⟨g1,g2,g3⟩
 have hsub:(im w).sub u:=hu.sub
 refine Az (Az (Ao Aa ?_))
 refine Ao Aa ?_
 refine Ap (fun h1=>?_) (fun h1=>?_)
 have h1:(i:Int)<((pvY.d L).n:Int):=of_decide_eq_true h1
 obtain⟨t,ht⟩:∃t,L[i]?=some t:=⟨_,List.getElem?_eq_getElem (by omega)⟩
 have hgt:L.getD ((i:Nat):Int).toNat pvY.dft=t:=by rw[Int.toNat_natCast,List.getD_eq_getElem?_getD,ht];rfl
 obtain⟨x,hx,htx⟩:=hX.get ht
 rw[drop_cons hx]at g2 g3
 rw[txA]at g2
 rw[cst]at g3
 refine Az ?_
 refine x_block ?_
 refine Az ?_
 refine x_via (σ:=Unit) (fun _=>⟨[(4,.v (.int .i64 (i:Int))),(3,.v (.string (begX s i))),(0,.r 0)],[],[(0,.sl (pvY.d L))],1⟩) (fun _ _=>True) (fun _=>by show 1≤1;omega) ?_ ?_
 refine Ao Aa ?_
 refine Ap (fun h2=>?_) (fun h2=>?_)
 have h2:decide ((i:Int) > 0)=true:=h2
 have h2:=of_decide_eq_true h2
 refine And.intro (by show s.size+1≤_;omega) ?_
 have e:begX s i=s++⟨#[32]⟩:=if_pos (by omega)
 rw[e]
 exact Af () [] .z trivial
 have h2:decide ((i:Int) > 0)=false:=h2
 have h2:=of_decide_eq_false h2
 have e:begX s i=s:=if_neg (by omega)
 rw[e]
 exact Af () [] .z trivial
 rintro _ u2 hu2 -
 obtain⟨s1,hs1⟩:∃s1,s1=begX s i:=⟨_,rfl⟩
 have hs1z:s1.size≤s.size+1:=by
  rw[hs1];unfold begX
  split
  rw[size_app];exact Nat.le_refl _
  omega
 rw[←hs1]at g2 ⊢
 refine Az ?_
 refine x_via (σ:=Unit) (fun _=>⟨[(4,.v (.int .i64 (i:Int))),(3,.v (.string (midX s1 x))),(0,.r 0)],[],[(0,.sl (pvY.d L))],1⟩) (fun _ _=>True) (fun _=>by show 1≤1;omega) ?_ ?_
 refine Az (Ao Aa ?_)
 refine And.intro (by omega) ?_
 refine And.intro (by omega) ?_
 refine Ao Aa ?_
 refine Ap (fun h2=>?_) (fun h2=>?_)
 have h2:decide ((L.getD ((i:Nat):Int).toNat pvY.dft).kind=11)=true:=h2
 have h2:=of_decide_eq_true h2
 rw[hgt,htx.kind]at h2
 refine And.intro (by show s1.size+1≤_;omega) ?_
 have hpn:(L.getD ((i:Nat):Int).toNat pvY.dft).pn=x.parts.length:=by
  obtain⟨A',c',k1,_⟩:=htx.parts
  rw[hgt]
  simp only[Value.slice.injEq]at k1
  rw[k1.2.1,Lay.d_n]
 have hpsl:Aw u2 (.slice (L.getD ((i:Nat):Int).toNat pvY.dft).pa (L.getD ((i:Nat):Int).toNat pvY.dft).pn (L.getD ((i:Nat):Int).toNat pvY.dft).pc) (Bh.d x.parts):=by rw[hgt];exact htx.parts.sub (hsub.trans hu2.sub)
 have hptl:=ptc_len x.parts
 have hpd:(Bh.d x.parts).n=x.parts.length:=Lay.d_n _ _
 refine Br (σ:=Nat×ByteArray) (fun(j,s')=>⟨[(5,.v (.int .i64 (j:Int))),(4,.v (.int .i64 (i:Int))),(3,.v (.string s')),(0,.r 0)],[],[(0,.sl (pvY.d L))],1⟩)
  (fun(j,s') _=>j≤x.parts.length∧ptsX s' (x.parts.drop j)=ptsX (s1++⟨#[60]⟩) x.parts∧s'.size+ptc (x.parts.drop j)≤s1.size+1+ptc x.parts) (fun(j,_)=>x.parts.length-j) (fun _=>by show 1≤1;omega) (0,s1++⟨#[60]⟩) [] .z
  ⟨Nat.zero_le _,rfl,by rw[size_app];exact Nat.le_refl _⟩ ?_
 rintro⟨j,s'⟩ u4 hu4 ⟨j1,j2,j3⟩
 refine Ao Aa ?_
 refine And.intro (by omega) ?_
 refine And.intro (by omega) ?_
 refine Ap (fun h4=>?_) (fun h4=>?_)
 have h4:(j:Int)<((L.getD ((i:Nat):Int).toNat pvY.dft).pn:Int):=of_decide_eq_true h4
 obtain⟨q,hq⟩:∃q,x.parts[j]?=some q:=⟨_,List.getElem?_eq_getElem (by omega)⟩
 have hgq:x.parts.getD ((j:Nat):Int).toNat Bh.dft=q:=by rw[Int.toNat_natCast,List.getD_eq_getElem?_getD,hq];rfl
 rw[drop_cons hq,ptsX]at j2
 rw[drop_cons hq,ptc]at j3
 refine And.intro (by omega) ?_
 refine And.intro (by omega) ?_
 refine xl_sl 39 rfl (hpsl.sub hu4.sub) ?_
 refine Ab Aa ?_
 have hqs:(x.parts.getD ((j:Nat):Int).toNat Bh.dft).size=q.size:=by rw[hgq]
 refine And.intro (by omega) ?_
 refine And.intro (by omega) ?_
 refine And.intro (by omega) ?_
 refine And.intro (by rw[size_app];show _+1≤_;omega) ?_
 repeat refine sdI ?_
 have e:s'++x.parts.getD ((j:Nat):Int).toNat Bh.dft++⟨#[59]⟩=s'++q++⟨#[59]⟩:=by rw[hgq]
 rw[e]
 exact Bj (j+1,s'++q++⟨#[59]⟩) [] .z ⟨by omega,j2,by rw[size_app,size_app,size_one];omega⟩ (by show x.parts.length-(j+1)<x.parts.length-j;omega)
 have h4:¬(j:Int)<((L.getD ((i:Nat):Int).toNat pvY.dft).pn:Int):=of_decide_eq_false h4
 obtain rfl:j=x.parts.length:=by omega
 rw[List.drop_of_length_le (Nat.le_refl _)]at j2 j3
 have j2:s'=ptsX (s1++⟨#[60]⟩) x.parts:=j2
 have j3:s'.size+0≤s1.size+1+ptc x.parts:=j3
 refine And.intro (by show s'.size+1≤_;omega) ?_
 have e:midX s1 x=s'++⟨#[62]⟩:=by rw[j2];exact if_pos h2
 rw[e]
 exact Af () [] .z trivial
 have h2:decide ((L.getD ((i:Nat):Int).toNat pvY.dft).kind=11)=false:=h2
 have h2:=of_decide_eq_false h2
 rw[hgt,htx.kind]at h2
 have e:midX s1 x=s1:=if_neg h2
 rw[e]
 exact Af () [] .z trivial
 rintro _ u3 hu3 -
 have hmz:(midX s1 x).size≤s1.size+ptc x.parts+2:=by
  have key:∀(l:List ByteArray) (a:ByteArray),(ptsX a l).size=a.size+ptc l:=by
   intro l
   induction l with
   |nil=>intro a;rfl
   |cons p r ih=>
    intro a
    rw[ptsX,ih,size_app,size_app,size_one,ptc];omega
  unfold midX
  split
  rw[size_app,key,size_app,size_one,size_one];omega
  omega
 have hto:(L.getD ((i:Nat):Int).toNat pvY.dft).text.size=x.text.size:=by rw[hgt,htx.text]
 refine Ao Aa ?_
 refine And.intro (by omega) ?_
 refine And.intro (by omega) ?_
 refine And.intro (by omega) ?_
 refine Ao Aa ?_
 repeat refine sdI ?_
 have e:midX s1 x++(L.getD ((i:Nat):Int).toNat pvY.dft).text=midX s1 x++x.text:=by rw[hgt,htx.text]
 rw[e]
 exact Bj (i+1,midX s1 x++x.text) [] .z ⟨by omega,g2,by rw[size_app];omega⟩ (by show L.length-(i+1)<L.length-i;omega)
 have h1:¬(i:Int)<((pvY.d L).n:Int):=of_decide_eq_false h1
 obtain rfl:i=L.length:=by omega
 rw[List.drop_of_length_le (by omega)]at g2
 have g2:s=txX X:=g2
 rw[←g2]
 exact Ay (fun _ _=>rfl)
def pvX (t:PV):XT:=⟨t.kind,t.text,t.space,[],0⟩
def toksX (s:ByteArray):List XT:=(toksL s).map pvX
theorem ofT_pvs (u:Im):∀L:List Tok,PvsR u (L.map ofT) ((L.map ofT).map pvX)
 |[]=>trivial
 |t::L=>⟨⟨rfl,rfl,rfl,slAt_nil _ _ rfl⟩,ofT_pvs u L⟩
theorem toksX_pvs (s:ByteArray) (u:Im):PvsR u (toksL s) (toksX s):=ofT_pvs u _
theorem toksX_hide (s:ByteArray):∀x∈toksX s,x.hide=0:=fun x hx=>by
 obtain⟨t,_,rfl⟩:=List.mem_map.1 hx
 rfl
def outOk:RX (List XT)→Bool
 |.stuck=>false
 |.err _=>true
 |.ok _ _ out=>decide (cst out≤1000000)
def comV (r:RX (List XT)) (want:ByteArray):Bool:=
 match r with
 |.ok _ _ out=>decide (txX out=want)
 |_=>false
def failV (r:RX (List XT)) (want:Int):Bool:=
 match r with
 |.stuck=>false
 |.err e=>decide (e=want)
 |.ok _ _ out=>decide (want=0)&&decide (out.length=0)
structure DefsAt (u:Im) (A:Option Addr) (c:Nat) (D:List (MT×MA)) (LS:List ByteArray):Prop where
 row:Aw u (.slice A D.length c) (mcY.d D)
 mas:MasAt u D
 eq:D.map (·.1)=defsL LS
 len:D.length≤1000
theorem DefsAt.sub {u u':Im} {A:Option Addr} {c:Nat} {D:List (MT×MA)} {LS:List ByteArray} (h:DefsAt u A c D LS) (hu:u.sub u'):DefsAt u' A c D LS:=⟨h.row.sub hu,fun x hx=>(h.mas x hx).sub hu,h.eq,h.len⟩
theorem DefsAt.sm {u:Im} {A:Option Addr} {c:Nat} {D:List (MT×MA)} {LS:List ByteArray} (h:DefsAt u A c D LS):∀x∈D,MSm x.1 65537:=fun x hx=>
 defsL_sm (by rw[←h.eq];exact List.mem_map.2 ⟨x,hx,rfl⟩)
def Co (f:Nat) (LS:List ByteArray) (s:ByteArray) (n:Int):RX (List XT):=expX f (defsL LS) (toksX s) n
theorem expS_any {f:Nat} {LS:List ByteArray} {s:ByteArray} {n:Int} {A A1:Option Addr} {c c1:Nat} {D:List (MT×MA)} (w:World) (hG:Glob (im w)) (hD:DefsAt (im w) A c D LS) (hL:Aw (im w) (.slice A1 (toksL s).length c1) (pvY.d (toksL s))) (hok:outOk (Co f LS s n)=true) :
 Calls Tryz.prog 11 #[.slice A D.length c,.slice A1 (toksL s).length c1,.int .i64 n] w (Bc w (EndX (Co f LS s n))):=by
 have hl:=toksL_len s
 have:=expand_any (f:=f) (steps:=n) w hG hD.row hD.mas hD.sm hD.len hL (toksX_pvs s _) (toksX_hide s) (by omega) (by
  rw[hD.eq]
  intro e
  have e:Co f LS s n=.stuck:=e
  rw[e]at hok;cases hok)
 rw[hD.eq]at this
 exact this
theorem comes_any {f:Nat} {LS:List ByteArray} {s want:ByteArray} {A:Option Addr} {c:Nat} {D:List (MT×MA)} (w:World) (hG:Glob (im w)) (hD:DefsAt (im w) A c D LS) (hs:s.size≤1000000) (hok:outOk (Co f LS s 1000)=true) :
 Calls Tryz.prog 15 #[.slice A D.length c,.string s,.string want] w (Bc w fun v _=>v=.bool (comV (Co f LS s 1000) want)):=by
 obtain⟨RE,hRE⟩:∃RE,RE=Co f LS s 1000:=⟨_,rfl⟩
 rw[←hRE]
 have hln:(pvY.d (toksL s)).n=(toksL s).length:=Lay.d_n _ _
 refine Bq Aa Tryz.func15 O O [] 0 [.v (.slice A D.length c),.v (.string s),.v (.string want)] O O O O (fun b hb=>by cases hb) ?_
 refine Ao Aa ?_
 refine xl_callO 37 (pvY.d (toksL s)) O O O O fn18 O O (fun E w' F h=>toks_any s w' hs (hG.sub (Au h.imm))) ?_
 refine Ax 0 rfl (fun A1 c1 u1 hu1 hA1 hA1n=>?_)
 refine Ab Aa ?_
 rw[hln]at hA1
 refine Ar (EndX RE) O O O O fn11 O O (fun E w' F h=>by
  have hw1:(im w).sub (im w'):=hu1.sub.trans (Au h.imm)
  have:=expS_any (f:=f) (n:=1000) w' (hG.sub hw1) (hD.sub hw1) (hA1.sub (Au h.imm)) hok
  rw[←hRE]at this
  show Calls _ 11 #[_,.slice A1 (pvY.d (toksL s)).n c1,_] w' _
  rw[hln]
  exact this) (fun v u2 u3 hu3 hn3 hR=>?_)
 rw[←hRE]at hok
 cases RE with
 |stuck=>exact hR.elim
 |err e=>
  obtain⟨rfl,he⟩:=hR
  refine Ab Aa ?_
  refine xl_gval (.string ⟨#[]⟩) O O (fun c hc=>by cases hc) rfl (fun hp=>absurd (of_decide_eq_true hp.1) he) ?_
  refine Ab Aa ?_
  refine Ay (fun _ _=>?_)
  show Value.bool (decide (e=0)&&_)=Value.bool false
  rw[decide_eq_false he,Bool.false_and]
 |ok NS lf out=>
  obtain⟨A',c',L',rfl,k1,k2⟩:=hR
  refine Ab Aa ?_
  have hcz:cst out≤1000000:=of_decide_eq_true hok
  refine Bt (.string (txX out)) O O O O fn28 O O (fun _ E w' F h=>by
   have hu:u2.sub (im w'):=hn3.trans ((Bl _ _).trans (Au h.imm))
   exact texts_any w' (k1.sub hu) (k2.sub hu) hcz) ?_
  refine Ab Aa ?_
  refine Ay (fun _ _=>?_)
  show Value.bool (true&&decide (txX out=want))=Value.bool (decide (txX out=want))
  rfl
theorem fails_any {f:Nat} {LS:List ByteArray} {s:ByteArray} {want:Int} {A:Option Addr} {c:Nat} {D:List (MT×MA)} (w:World) (hG:Glob (im w)) (hD:DefsAt (im w) A c D LS) (hs:s.size≤1000000) (hok:outOk (Co f LS s 1000)=true) :
 Calls Tryz.prog 17 #[.slice A D.length c,.string s,.int .i64 want] w (Bc w fun v _=>v=.bool (failV (Co f LS s 1000) want)):=by
 obtain⟨RE,hRE⟩:∃RE,RE=Co f LS s 1000:=⟨_,rfl⟩
 rw[←hRE]
 have hln:(pvY.d (toksL s)).n=(toksL s).length:=Lay.d_n _ _
 refine Bq Aa Tryz.func17 O O [] 0 [.v (.slice A D.length c),.v (.string s),.v (.int .i64 want)] O O O O (fun b hb=>by cases hb) ?_
 refine Ao Aa ?_
 refine xl_callO 37 (pvY.d (toksL s)) O O O O fn18 O O (fun E w' F h=>toks_any s w' hs (hG.sub (Au h.imm))) ?_
 refine Ax 0 rfl (fun A1 c1 u1 hu1 hA1 hA1n=>?_)
 refine Ab Aa ?_
 rw[hln]at hA1
 refine Ar (EndX RE) O O O O fn11 O O (fun E w' F h=>by
  have hw1:(im w).sub (im w'):=hu1.sub.trans (Au h.imm)
  have:=expS_any (f:=f) (n:=1000) w' (hG.sub hw1) (hD.sub hw1) (hA1.sub (Au h.imm)) hok
  rw[←hRE]at this
  show Calls _ 11 #[_,.slice A1 (pvY.d (toksL s)).n c1,_] w' _
  rw[hln]
  exact this) (fun v u2 u3 hu3 hn3 hR=>?_)
 cases RE with
 |stuck=>exact hR.elim
 |err e=>
  obtain⟨rfl,he⟩:=hR
  refine Ab Aa ?_
  refine Ay (fun _ _=>?_)
  show Value.bool (decide (e=want)&&_)=Value.bool (decide (e=want))
  cases decide (e=want)<;>rfl
 |ok NS lf out=>
  obtain⟨A',c',L',rfl,k1,k2⟩:=hR
  have hlo:=k2.len
  refine Ab Aa ?_
  refine Ay (fun _ _=>?_)
  show Value.bool (decide ((0:Int)=want)&&decide ((L'.length:Int)=0))=Value.bool (decide (want=0)&&decide (out.length=0))
  rw[show decide ((0:Int)=want)=decide (want=0)from decide_eq_decide.2 ⟨fun h=>h.symm,fun h=>h.symm⟩,show decide ((L'.length:Int)=0)=decide (out.length=0)from decide_eq_decide.2 ⟨fun h=>by omega,fun h=>by omega⟩]
end Go.Proofs.YtnjlkdhdinfejaaGreat
