/- Part 6 of the lemmas behind the claim: YD, YE, YF, GU, YH, YI, YL, YJ, YK, YM, YN. -/
import Derived.Test.YtnjlkdhdinfejaaGreatZA5
set_option linter.unusedSimpArgs false
set_option linter.unusedVariables false
set_option maxHeartbeats 4000000
set_option maxRecDepth 100000
namespace Go.Proofs.YtnjlkdhdinfejaaGreat
open Go.GV Go.RowKit
theorem set_last {α:Type} {T:List α} (h:0<T.length) (x:α):T.set (T.length-1) x=T.dropLast++[x]:=by
 have hne:T≠[]:=List.length_pos_iff.1 h
 obtain⟨t,y,rfl⟩:∃t y,T=t++[y]:=⟨T.dropLast,T.getLast hne,(List.dropLast_concat_getLast hne).symm⟩
 simp
theorem spT_own {S:List TV} {t:TV} (h:S[0]?=some t):spT t.pv.space S=S:=by
 cases S with
 |nil=>rfl
 |cons y r=>
  simp only[List.getElem?_cons_zero,Option.some.injEq]at h
  subst h;rfl
def pasE (a b:Int) (s t:ByteArray):Int:=
 if(layB a||layB b)then 62
 else if !(oneP (s++t)).2||decide ((oneP (s++t)).1<1)||decide (6<(oneP (s++t)).1)then 61 else 0
def pasT (t y:TV) (p:Option Addr):TV:=⟨⟨(oneP (t.pv.text++y.pv.text)).1,t.pv.text++y.pv.text,t.pv.space,none,0,0⟩,p⟩
def pasX (x y:XT):XT:=⟨(oneP (x.text++y.text)).1,x.text++y.text,x.space,[],x.hide &&& y.hide⟩
def pasO (T S:List TV) (t y:TV) (count most:Nat) (op:Bool) (e:Int) (p:Option Addr):GV.Own:=
 if e=0 then fOw' (T.dropLast++pasT t y p::S.drop 1) (count+(S.length-1)) most (if S.length=1 then op else true)else fOw' T count most op
def tblYD:Tbl:=[([],[3,7,12,14]),([3],[7,12,14]),([7],[3,8,12,14]),([12],[3,7,13,14]),([14],[3,7,12]),([3,7],[8,12,14]),([3,12],[7,13,14]),([3,14],[7,12]),([7,8],[3,9,12,14]),([7,12],[3,8,13,14]),([7,14],[3,8,12]),([12,13],[3,7,14]),([12,14],[3,7,13]),([3,7,8],[9,12,14]),([3,7,12],[8,13,14]),([3,7,14],[8,12]),([3,12,13],[7,14]),([3,12,14],[7,13]),([7,8,9],[3,12,14]),([7,8,12],[3,9,13,14]),([7,8,14],[3,9,12]),([7,12,13],[3,8,14]),([7,12,14],[3,8,13]),([12,13,14],[3,7]),([3,7,8,9],[10,12,14]),([3,7,8,12],[9,13,14]),([3,7,8,14],[9,12]),([3,7,12,13],[8,14]),([3,7,12,14],[8,13]),([3,12,13,14],[7]),([7,8,9,12],[3,13,14]),([7,8,9,14],[3,12]),([7,8,12,13],[3,9,14]),([7,8,12,14],[3,9,13]),([7,12,13,14],[3,8]),([3,7,8,9,10],[12,14]),([3,7,8,9,12],[10,13,14]),([3,7,8,9,14],[10,12]),([3,7,8,12,13],[9,14]),([3,7,8,12,14],[9,13]),([3,7,12,13,14],[8]),([7,8,9,12,13],[3,14]),([7,8,9,12,14],[3,13]),([7,8,12,13,14],[3,9]),([3,7,8,9,10,12],[13,14]),([3,7,8,9,10,14],[12,15]),([3,7,8,9,12,13],[10,14]),([3,7,8,9,12,14],[10,13]),([3,7,8,12,13,14],[9]),([7,8,9,12,13,14],[3]),([3,7,8,9,10,12,13],[14]),([3,7,8,9,10,12,14],[13,15]),([3,7,8,9,10,14,15],[12]),([3,7,8,9,12,13,14],[10]),([3,7,8,9,10,12,13,14],[15]),([3,7,8,9,10,12,14,15],[13]),([3,7,8,9,10,12,13,14,15],[16])]
theorem paste_scx {u0:Im} {T S:List TV} {A:Option Addr} {c count most:Nat} {op:Bool} {t y:TV} {x z:XT} (hG:Glob u0) (hS:Aw u0 (.slice A S.length c) (tvY.d S)) (ht:T.getLast?=some t) (hy:S[0]?=some y) (hx:TkR u0 t x) (hz:TkR u0 y z)
 (hc:count+(S.length-1)≤most) (hm:most≤1000000000) (hT:T.length≤1000000000) (hs:x.text.size+z.text.size≤1000000000) :
 SCX Tryz.prog 106 u0 2 (fOw T count most op) [.p 0 0,.v (.slice A S.length c)] (fun(e,p)=>(pasO T S t y count most op e p,3,[.v (.int .i64 e)]))
  (fun(e,_)=>e=pasE x.kind z.kind x.text z.text) (fun(e,p) u=>e=0→Bk u p (x.hide &&& z.hide)):=by
 refine x_scx Aa Tryz.func106 O O O O (fun us hus=>?_)
 obtain⟨k1,k2,k3,k4,k5⟩:=hx
 obtain⟨l1,l2,l3,l4,l5⟩:=hz
 have hSl:0<S.length:=(List.getElem?_eq_some_iff.1 hy).1
 have hTl:0<T.length:=by cases T with
  |nil=>simp at ht
  |cons a b=>simp
 refine x_sl 1 rfl (hS.sub hus) ?_
 have hDT:(tvY.d T).n=T.length:=Lay.d_n _ _
 have hDS:(tvY.d S).n=S.length:=Lay.d_n _ _
 obtain⟨n,hn⟩:∃n,T.length=n+1:=⟨T.length-1,by omega⟩
 refine Az (Ao Aa ?_)
 refine Az ?_
 refine x_via (σ:=Unit) (fun _=>⟨[(0,.p 0 0),(1,.r 2),(5,.e 1 5 (((tvY.d T).n:Int)-1) 0),(6,.p 3 0)],[],(3,.box 87 ((tkC (S.getD (0:Int).toNat tvY.dft)).map .v))::(2,.sl (tvY.d S))::fOw T count most op,4⟩) (fun _ _=>True) (fun _=>by show 3≤4;omega) ?_ ?_
 skip
 refine Bw mix ?_
 refine At Aa (fuel:=10) [0,1,2,4,5,6,11] rfl (by kernel_rfl) (by kernel_rfl) (fun _ _ _ hh=>hh) (by kernel_rfl) (by kernel_rfl) ?_
 refine xa_fam (fuel:=1) (N:=9) tblYD (fun D=>⟨selD D [(3,(13,.r 1)),(7,(17,.r 1)),(8,(18,.v (.int .i64 ((tvY.d T).n:Int)))),(9,(19,.v (.int .i64 (((tvY.d T).n:Int)-1)))),(10,(20,.e 1 5 (((tvY.d T).n:Int)-1) 0)),(12,(22,.e 2 5 0 0)),(13,(23,.v (.agg (tkC (S.getD (0:Int).toNat tvY.dft)).toArray))),(14,(6,.p 3 0)),(15,(5,.e 1 5 (((tvY.d T).n:Int)-1) 0))]++[(21,.r 2),(16,.p 0 0),(12,.p 0 0),(1,.r 2),(0,.p 0 0)],[],selO D [(3,[(14,.box 87 [.v (.int .i64 0),.v (.string ⟨#[]⟩),.v (.bool false),.v (.slice none 0 0),.v (.pointer none)])])]++((2,.sl (tvY.d S))::fOw T count most op)++selN D [],4⟩) (fun D i=>insD i D) rfl (by kernel_rfl) (by kernel_rfl) (by kernel_rfl) [] .z (fun _=>by show 3≤4;omega) ?_ [3,7,8,9,10,12,13,14,15] (by kernel_rfl) (fun u9 hu9=>?_)
 refine And.intro (And.intro ?_ (And.intro ?_ (And.intro ?_ (And.intro ?_ (trivial))))) (And.intro (And.intro ?_ (And.intro ?_ (And.intro ?_ (trivial)))) (And.intro (And.intro ?_ (And.intro ?_ (And.intro ?_ (And.intro ?_ (trivial))))) (And.intro (And.intro ?_ (And.intro ?_ (And.intro ?_ (And.intro ?_ (trivial))))) (And.intro (And.intro ?_ (And.intro ?_ (And.intro ?_ (trivial)))) (And.intro (And.intro ?_ (And.intro ?_ (And.intro ?_ (trivial)))) (And.intro (And.intro ?_ (And.intro ?_ (And.intro ?_ (trivial)))) (And.intro (And.intro ?_ (And.intro ?_ (trivial))) (And.intro (And.intro ?_ (And.intro ?_ (And.intro ?_ (And.intro ?_ (trivial))))) (And.intro (And.intro ?_ (And.intro ?_ (And.intro ?_ (And.intro ?_ (trivial))))) (And.intro (And.intro ?_ (And.intro ?_ (And.intro ?_ (trivial)))) (And.intro (And.intro ?_ (And.intro ?_ (And.intro ?_ (trivial)))) (And.intro (And.intro ?_ (And.intro ?_ (And.intro ?_ (trivial)))) (And.intro (And.intro ?_ (And.intro ?_ (And.intro ?_ (trivial)))) (And.intro (And.intro ?_ (And.intro ?_ (And.intro ?_ (trivial)))) (And.intro (And.intro ?_ (And.intro ?_ (trivial))) (And.intro (And.intro ?_ (And.intro ?_ (trivial))) (And.intro (And.intro ?_ (And.intro ?_ (trivial))) (And.intro (And.intro ?_ (And.intro ?_ (And.intro ?_ (trivial)))) (And.intro (And.intro ?_ (And.intro ?_ (And.intro ?_ (And.intro ?_ (trivial))))) (And.intro (And.intro ?_ (And.intro ?_ (And.intro ?_ (trivial)))) (And.intro (And.intro ?_ (And.intro ?_ (And.intro ?_ (trivial)))) (And.intro (And.intro ?_ (And.intro ?_ (And.intro ?_ (trivial)))) (And.intro (And.intro ?_ (And.intro ?_ (trivial))) (And.intro (And.intro ?_ (And.intro ?_ (And.intro ?_ (trivial)))) (And.intro (And.intro ?_ (And.intro ?_ (And.intro ?_ (trivial)))) (And.intro (And.intro ?_ (And.intro ?_ (trivial))) (And.intro (And.intro ?_ (And.intro ?_ (trivial))) (And.intro (And.intro ?_ (And.intro ?_ (trivial))) (And.intro (And.intro ?_ (trivial)) (And.intro (And.intro ?_ (And.intro ?_ (And.intro ?_ (trivial)))) (And.intro (And.intro ?_ (And.intro ?_ (trivial))) (And.intro (And.intro ?_ (And.intro ?_ (And.intro ?_ (trivial)))) (And.intro (And.intro ?_ (And.intro ?_ (And.intro ?_ (trivial)))) (And.intro (And.intro ?_ (And.intro ?_ (trivial))) (And.intro (And.intro ?_ (And.intro ?_ (trivial))) (And.intro (And.intro ?_ (And.intro ?_ (And.intro ?_ (trivial)))) (And.intro (And.intro ?_ (And.intro ?_ (trivial))) (And.intro (And.intro ?_ (And.intro ?_ (trivial))) (And.intro (And.intro ?_ (And.intro ?_ (trivial))) (And.intro (And.intro ?_ (trivial)) (And.intro (And.intro ?_ (And.intro ?_ (trivial))) (And.intro (And.intro ?_ (And.intro ?_ (trivial))) (And.intro (And.intro ?_ (And.intro ?_ (trivial))) (And.intro (And.intro ?_ (And.intro ?_ (trivial))) (And.intro (And.intro ?_ (And.intro ?_ (trivial))) (And.intro (And.intro ?_ (And.intro ?_ (trivial))) (And.intro (And.intro ?_ (And.intro ?_ (trivial))) (And.intro (And.intro ?_ (trivial)) (And.intro (And.intro ?_ (trivial)) (And.intro (And.intro ?_ (trivial)) (And.intro (And.intro ?_ (And.intro ?_ (trivial))) (And.intro (And.intro ?_ (trivial)) (And.intro (And.intro ?_ (trivial)) (And.intro (And.intro ?_ (trivial)) (And.intro (And.intro ?_ (trivial)) (And.intro trivial (trivial)))))))))))))))))))))))))))))))))))))))))))))))))))))))))
 intro u9 hu9;refine Ab Aa ?_;exact Af () [] .z trivial
 intro u9 hu9;refine Ab Aa ?_;exact Af () [] .z trivial
 intro u9 hu9;refine Ab Aa ?_;refine And.intro (by omega) (And.intro (by omega) ?_);exact Af () [] .z trivial
 intro u9 hu9;refine Ab Aa ?_;exact Af () [(3,some 4)] .z trivial
 intro u9 hu9;refine Ab Aa ?_;exact Af () [] .z trivial
 intro u9 hu9;refine Ab Aa ?_;refine And.intro (by omega) (And.intro (by omega) ?_);exact Af () [] .z trivial
 intro u9 hu9;refine Ab Aa ?_;exact Af () [(3,some 4)] .z trivial
 intro u9 hu9;refine Ab Aa ?_;exact Af () [] .z trivial
 intro u9 hu9;refine Ab Aa ?_;exact Af () [] .z trivial
 intro u9 hu9;refine Ab Aa ?_;refine And.intro (by omega) (And.intro (by omega) ?_);exact Af () [] .z trivial
 intro u9 hu9;refine Ab Aa ?_;exact Af () [(3,some 4)] .z trivial
 intro u9 hu9;refine Ab Aa ?_;exact Af () [] .z trivial
 intro u9 hu9;refine Ab Aa ?_;exact Af () [] .z trivial
 intro u9 hu9;refine Ab Aa ?_;exact Af () [] .z trivial
 intro u9 hu9;refine Ab Aa ?_;exact Af () [(3,some 4)] .z trivial
 intro u9 hu9;refine Ab Aa ?_;exact Af () [] .z trivial
 intro u9 hu9;refine Ab Aa ?_;exact Af () [] .z trivial
 intro u9 hu9;refine Ab Aa ?_;refine And.intro (by omega) (And.intro (by omega) ?_);exact Af () [] .z trivial
 intro u9 hu9;refine Ab Aa ?_;exact Af () [] .z trivial
 intro u9 hu9;refine Ab Aa ?_;refine And.intro (by omega) (And.intro (by omega) ?_);exact Af () [] .z trivial
 intro u9 hu9;refine Ab Aa ?_;exact Af () [(3,some 4)] .z trivial
 intro u9 hu9;refine Ab Aa ?_;exact Af () [] .z trivial
 intro u9 hu9;refine Ab Aa ?_;exact Af () [] .z trivial
 intro u9 hu9;refine Ab Aa ?_;exact Af () [(3,some 4)] .z trivial
 intro u9 hu9;refine Ab Aa ?_;exact Af () [] .z trivial
 intro u9 hu9;refine Ab Aa ?_;refine And.intro (by omega) (And.intro (by omega) ?_);exact Af () [] .z trivial
 intro u9 hu9;refine Ab Aa ?_;exact Af () [] .z trivial
 intro u9 hu9;refine Ab Aa ?_;refine And.intro (by omega) (And.intro (by omega) ?_);exact Af () [] .z trivial
 intro u9 hu9;refine Ab Aa ?_;refine And.intro (by omega) (And.intro (by omega) ?_);exact Af () [] .z trivial
 intro u9 hu9;refine Ab Aa ?_;exact Af () [(3,some 4)] .z trivial
 intro u9 hu9;refine Ab Aa ?_;exact Af () [] .z trivial
 intro u9 hu9;refine Ab Aa ?_;exact Af () [] .z trivial
 intro u9 hu9;refine Ab Aa ?_;exact Af () [] .z trivial
 intro u9 hu9;refine Ab Aa ?_;exact Af () [(3,some 4)] .z trivial
 intro u9 hu9;refine Ab Aa ?_;exact Af () [] .z trivial
 intro u9 hu9;refine Ab Aa ?_;exact Af () [] .z trivial
 intro u9 hu9;refine Ab Aa ?_;refine And.intro (by omega) (And.intro (by omega) ?_);exact Af () [] .z trivial
 intro u9 hu9;refine Ab Aa ?_;exact Af () [] .z trivial
 intro u9 hu9;refine Ab Aa ?_;exact Af () [] .z trivial
 intro u9 hu9;refine Ab Aa ?_;exact Af () [(3,some 4)] .z trivial
 intro u9 hu9;refine Ab Aa ?_;exact Af () [] .z trivial
 intro u9 hu9;refine Ab Aa ?_;exact Af () [] .z trivial
 intro u9 hu9;refine Ab Aa ?_;exact Af () [] .z trivial
 intro u9 hu9;refine Ab Aa ?_;refine And.intro (by omega) (And.intro (by omega) ?_);exact Af () [] .z trivial
 intro u9 hu9;refine Ab Aa ?_;refine And.intro (by omega) (And.intro (by omega) ?_);exact Af () [] .z trivial
 intro u9 hu9;refine Ab Aa ?_;exact Af () [(3,some 4)] .z trivial
 intro u9 hu9;refine Ab Aa ?_;exact Af () [] .z trivial
 intro u9 hu9;refine Ab Aa ?_;exact Af () [] .z trivial
 intro u9 hu9;refine Ab Aa ?_;exact Af () [(3,some 4)] .z trivial
 intro u9 hu9;refine Ab Aa ?_;exact Af () [] .z trivial
 intro u9 hu9;refine Ab Aa ?_;refine And.intro (by omega) (And.intro (by omega) ?_);exact Af () [] .z trivial
 intro u9 hu9;refine Ab Aa ?_;exact Af () [] .z trivial
 intro u9 hu9;refine Ab Aa ?_;exact Af () [(3,some 4)] .z trivial
 intro u9 hu9;refine Ab Aa ?_;exact Af () [] .z trivial
 intro u9 hu9;refine Ab Aa ?_;exact Af () [] .z trivial
 intro u9 hu9;refine Ab Aa ?_;exact Af () [] .z trivial
 intro u9 hu9;refine Ab Aa ?_;refine And.intro (by omega) (And.intro (by omega) ?_);exact Af () [] .z trivial
 intro u9 hu9;refine Ab Aa ?_;exact Af () [(3,some 4)] .z trivial
 intro u9 hu9;refine Ab Aa ?_;exact Af () [] .z trivial
 intro u9 hu9;refine Ab Aa ?_;refine And.intro (by omega) (And.intro (by omega) ?_);exact Af () [] .z trivial
 intro u9 hu9;refine Ab Aa ?_;exact Af () [] .z trivial
 intro u9 hu9;refine Ab Aa ?_;exact Af () [(3,some 4)] .z trivial
 intro u9 hu9;refine Ab Aa ?_;exact Af () [] .z trivial
 intro u9 hu9;refine Ab Aa ?_;refine And.intro (by omega) (And.intro (by omega) ?_);exact Af () [] .z trivial
 intro u9 hu9;refine Ab Aa ?_;refine And.intro (by omega) (And.intro (by omega) ?_);exact Af () [] .z trivial
 intro u9 hu9;refine Ab Aa ?_;exact Af () [] .z trivial
 intro u9 hu9;refine Ab Aa ?_;exact Af () [] .z trivial
 intro u9 hu9;refine Ab Aa ?_;exact Af () [(3,some 4)] .z trivial
 intro u9 hu9;refine Ab Aa ?_;exact Af () [] .z trivial
 intro u9 hu9;refine Ab Aa ?_;exact Af () [] .z trivial
 intro u9 hu9;refine Ab Aa ?_;exact Af () [] .z trivial
 intro u9 hu9;refine Ab Aa ?_;exact Af () [] .z trivial
 intro u9 hu9;refine Ab Aa ?_;exact Af () [] .z trivial
 intro u9 hu9;refine Ab Aa ?_;refine And.intro (by omega) (And.intro (by omega) ?_);exact Af () [] .z trivial
 intro u9 hu9;refine Ab Aa ?_;refine And.intro (by omega) (And.intro (by omega) ?_);exact Af () [] .z trivial
 intro u9 hu9;refine Ab Aa ?_;exact Af () [(3,some 4)] .z trivial
 intro u9 hu9;refine Ab Aa ?_;refine And.intro (by omega) (And.intro (by omega) ?_);exact Af () [] .z trivial
 intro u9 hu9;refine Ab Aa ?_;exact Af () [] .z trivial
 intro u9 hu9;refine Ab Aa ?_;exact Af () [(3,some 4)] .z trivial
 intro u9 hu9;refine Ab Aa ?_;refine And.intro (by omega) (And.intro (by omega) ?_);exact Af () [] .z trivial
 intro u9 hu9;refine Ab Aa ?_;refine And.intro (by omega) (And.intro (by omega) ?_);exact Af () [] .z trivial
 intro u9 hu9;refine Ab Aa ?_;exact Af () [] .z trivial
 intro u9 hu9;refine Ab Aa ?_;exact Af () [(3,some 4)] .z trivial
 intro u9 hu9;refine Ab Aa ?_;exact Af () [] .z trivial
 intro u9 hu9;refine Ab Aa ?_;exact Af () [] .z trivial
 intro u9 hu9;refine Ab Aa ?_;exact Af () [] .z trivial
 intro u9 hu9;refine Ab Aa ?_;exact Af () [] .z trivial
 intro u9 hu9;refine Ab Aa ?_;exact Af () [] .z trivial
 intro u9 hu9;refine Ab Aa ?_;exact Af () [(3,some 4)] .z trivial
 intro u9 hu9;refine Ab Aa ?_;exact Af () [] .z trivial
 intro u9 hu9;refine Ab Aa ?_;refine And.intro (by omega) (And.intro (by omega) ?_);exact Af () [] .z trivial
 intro u9 hu9;refine Ab Aa ?_;exact Af () [] .z trivial
 intro u9 hu9;refine Ab Aa ?_;refine And.intro (by omega) (And.intro (by omega) ?_);exact Af () [] .z trivial
 intro u9 hu9;refine Ab Aa ?_;exact Af () [(3,some 4)] .z trivial
 intro u9 hu9;refine Ab Aa ?_;exact Af () [] .z trivial
 intro u9 hu9;refine Ab Aa ?_;refine And.intro (by omega) (And.intro (by omega) ?_);exact Af () [] .z trivial
 intro u9 hu9;refine Ab Aa ?_;exact Af () [] .z trivial
 intro u9 hu9;refine Ab Aa ?_;exact Af () [] .z trivial
 intro u9 hu9;refine Ab Aa ?_;exact Af () [] .z trivial
 intro u9 hu9;refine Ab Aa ?_;refine And.intro (by omega) (And.intro (by omega) ?_);exact Af () [] .z trivial
 intro u9 hu9;refine Ab Aa ?_;exact Af () [(3,some 4)] .z trivial
 intro u9 hu9;refine Ab Aa ?_;refine And.intro (by omega) (And.intro (by omega) ?_);exact Af () [] .z trivial
 intro u9 hu9;refine Ab Aa ?_;exact Af () [] .z trivial
 intro u9 hu9;refine Ab Aa ?_;exact Af () [(3,some 4)] .z trivial
 intro u9 hu9;refine Ab Aa ?_;refine And.intro (by omega) (And.intro (by omega) ?_);exact Af () [] .z trivial
 intro u9 hu9;refine Ab Aa ?_;refine And.intro (by omega) (And.intro (by omega) ?_);exact Af () [] .z trivial
 intro u9 hu9;refine Ab Aa ?_;refine And.intro (by omega) (And.intro (by omega) ?_);exact Af () [] .z trivial
 intro u9 hu9;refine Ab Aa ?_;exact Af () [(3,some 4)] .z trivial
 intro u9 hu9;refine Ab Aa ?_;refine And.intro (by omega) (And.intro (by omega) ?_);exact Af () [] .z trivial
 intro u9 hu9;refine Ab Aa ?_;exact Af () [] .z trivial
 intro u9 hu9;refine Ab Aa ?_;exact Af () [] .z trivial
 intro u9 hu9;refine Ab Aa ?_;exact Af () [] .z trivial
 intro u9 hu9;refine Ab Aa ?_;exact Af () [(3,some 4)] .z trivial
 intro u9 hu9;refine Ab Aa ?_;exact Af () [] .z trivial
 intro u9 hu9;refine Ab Aa ?_;exact Af () [] .z trivial
 intro u9 hu9;refine Ab Aa ?_;exact Af () [] .z trivial
 intro u9 hu9;refine Ab Aa ?_;refine And.intro (by omega) (And.intro (by omega) ?_);exact Af () [] .z trivial
 intro u9 hu9;refine Ab Aa ?_;exact Af () [] .z trivial
 intro u9 hu9;refine Ab Aa ?_;exact Af () [(3,some 4)] .z trivial
 intro u9 hu9;refine Ab Aa ?_;refine And.intro (by omega) (And.intro (by omega) ?_);exact Af () [] .z trivial
 intro u9 hu9;refine Ab Aa ?_;exact Af () [] .z trivial
 intro u9 hu9;refine Ab Aa ?_;refine And.intro (by omega) (And.intro (by omega) ?_);exact Af () [] .z trivial
 intro u9 hu9;refine Ab Aa ?_;exact Af () [(3,some 4)] .z trivial
 intro u9 hu9;refine Ab Aa ?_;refine And.intro (by omega) (And.intro (by omega) ?_);exact Af () [] .z trivial
 intro u9 hu9;refine Ab Aa ?_;exact Af () [] .z trivial
 intro u9 hu9;refine Ab Aa ?_;refine And.intro (by omega) (And.intro (by omega) ?_);exact Af () [] .z trivial
 intro u9 hu9;refine Ab Aa ?_;exact Af () [] .z trivial
 intro u9 hu9;refine Ab Aa ?_;exact Af () [(3,some 4)] .z trivial
 intro u9 hu9;refine Ab Aa ?_;exact Af () [] .z trivial
 intro u9 hu9;refine Ab Aa ?_;exact Af () [] .z trivial
 intro u9 hu9;refine Ab Aa ?_;refine And.intro (by omega) (And.intro (by omega) ?_);exact Af () [] .z trivial
 intro u9 hu9;refine Ab Aa ?_;refine And.intro (by omega) (And.intro (by omega) ?_);exact Af () [] .z trivial
 intro u9 hu9;refine Ab Aa ?_;exact Af () [] .z trivial
 intro u9 hu9;refine Ab Aa ?_;exact Af () [] .z trivial
 refine Ae (fuel:=0) [16] O O (by kernel_rfl) (Ab Aa ?_)
 refine Aj (by kernel_rfl) rfl ?_
 exact Af () [] .z trivial
 rintro _ u1 hu1 -
 have hyg:S.getD (0:Int).toNat tvY.dft=y:=by rw[List.getD_eq_getElem?_getD];show(S[0]?).getD _=y;rw[hy];rfl
 have htg:T.getD (((tvY.d T).n:Int)-1).toNat tvY.dft=t:=by
  rw[show(((tvY.d T).n:Int)-1).toNat=T.length-1 by omega,List.getD_eq_getElem?_getD,←List.getLast?_eq_getElem?,ht];rfl
 rw[hyg]
 refine Ao Aa ?_
 refine Am (.bool (layB x.kind)) O O O O fn136 O O (fun E w F hs=>by
  rw[←k1,←htg];exact layout_any _ w) ?_
 refine Ab Aa ?_
 refine Bt (.bool (layB z.kind)) O O O O fn136 O O (fun _ E w F _=>by rw[←l1];exact layout_any _ w) ?_
 refine Ab Aa ?_
 refine Ap (fun h1=>?_) (fun h1=>?_)
 have h1:(layB x.kind||layB z.kind)=true:=h1
 have he:pasE x.kind z.kind x.text z.text=62:=by unfold pasE;rw[if_pos h1]
 refine⟨(62,none),[(2,some 1)],rfl,.of O O O O O rfl,rfl,by show 2≤3;omega,he.symm,fun v a b h=>by cases h⟩
 have h1:(layB x.kind||layB z.kind)=false:=h1
 have htx:(T.getD (((tvY.d T).n:Int)-1).toNat tvY.dft).pv.text=x.text:=by rw[htg];exact k2
 have htz:(T.getD (((tvY.d T).n:Int)-1).toNat tvY.dft).pv.text.size+y.pv.text.size≤1000000000:=by rw[htx,l2];exact hs
 refine x_draw mix (by kernel_rfl) (Cq Aa ?_)
 repeat refine sdI ?_
 refine Am (.tuple #[.int .i64 (oneP (x.text++z.text)).1,.bool (oneP (x.text++z.text)).2]) O O O O fn137 O O (fun E w F hs'=>by
  have:=one_any (x.text++z.text) (by rw[ByteArray.size_append];omega) w (hG.sub (hus.trans (hu1.sub.trans (Au hs'.imm))))
  show Calls _ 137 #[.string ((T.getD (((tvY.d T).n:Int)-1).toNat tvY.dft).pv.text++y.pv.text)] w _
  rw[htx,l2]
  exact this) ?_
 refine Ab Aa ?_
 refine Ap (fun h2=>?_) (fun h2=>?_)
 have h2:(!(oneP (x.text++z.text)).2||decide ((oneP (x.text++z.text)).1<1)||decide (6<(oneP (x.text++z.text)).1))=true:=h2
 have he:pasE x.kind z.kind x.text z.text=61:=by unfold pasE;rw[if_neg (by rw[h1];simp),if_pos h2]
 refine⟨(61,none),[(2,some 1)],rfl,.of O O O O O rfl,rfl,by show 2≤3;omega,he.symm,fun v a b h=>by cases h⟩
 have h2:(!(oneP (x.text++z.text)).2||decide ((oneP (x.text++z.text)).1<1)||decide (6<(oneP (x.text++z.text)).1))=false:=h2
 have he:pasE x.kind z.kind x.text z.text=0:=by unfold pasE;rw[if_neg (by rw[h1];simp),if_neg (by rw[h2];simp)]
 have k5':Bk u0 (T.getD (((tvY.d T).n:Int)-1).toNat tvY.dft).hp x.hide:=by rw[htg];exact k5
 have hset:∀p',T.set (((tvY.d T).n:Int)-1).toNat (pasT t y p')=T.dropLast++[pasT t y p']:=fun p'=>by
  rw[show(((tvY.d T).n:Int)-1).toNat=T.length-1 by omega]
  exact set_last hTl _
 have hus1:us.sub u1:=hu1.sub
 have hsub1:u0.sub u1:=hus.trans hus1
 refine x_via (σ:=Option Addr) (fun p=>⟨[(0,.p 0 0),(1,.r 2)],[],(2,.sl (tvY.d S))::fOw (T.dropLast++[pasT t y p]) count most op,4⟩) (fun p u=>Nw u0 (dif us u) (fun v=>Bk v p (x.hide &&& z.hide))) (fun _=>Nat.le_refl _) ?_ ?_
 refine Bw mix ?_
 refine At Aa (fuel:=8) [0,1,2,3,9,13,4,10,5,11,6] rfl (by kernel_rfl) (by kernel_rfl) (fun _ _ _ hh=>hh) (by kernel_rfl) (by kernel_rfl) ?_
 refine xa_three 7 12 14 (by kernel_rfl) O O O ?_ ?_ ?_
 refine Ab Aa ?_
 refine xa_three 8 12 14 (by kernel_rfl) O O O ?_ ?_ ?_
 refine Ab Aa ?_
 refine Aq 12 14 (by kernel_rfl) O O ?_ ?_
 refine Ab Aa ?_
 refine Ae (fuel:=4) [14] O O (by kernel_rfl) (Ab Aa ?_)
 refine Ag 15 (by kernel_rfl) rfl ?_
 refine Ar (fun v ua=>∃p',v=.pointer p'∧Nw u0 ua (fun u'=>Bk u' p' (x.hide &&& z.hide))) O O O O fn73 O O (fun E w F hs9=>Cb _ _ _ _ u0 w (hsub1.trans (Au hs9.imm)) k5' l5) (fun v ua ub hub hs9 hR=>?_)
 obtain⟨p',rfl,hR⟩:=hR
 refine Ad ?_
 refine Ae (fuel:=1) [16,17] O O (by kernel_rfl) (Ab Aa ?_)
 refine Ag 18 (by kernel_rfl) rfl ?_
 refine Bv Aa tvY T (pasT t y p') (cs:=[.int .i64 (oneP (x.text++z.text)).1,.string ((T.getD (((tvY.d T).n:Int)-1).toNat tvY.dft).pv.text++y.pv.text),.bool (T.getD (((tvY.d T).n:Int)-1).toNat tvY.dft).pv.space,.slice none 0 0,.pointer p']) O O O O O O O (by omega) (by omega) O O (Nat.le_refl 5) (by rw[htg,←k2,←l2];rfl) ?_
 rw[hset p']
 refine Ad ?_
 refine Aj (by kernel_rfl) rfl ?_
 exact Af p' [] .z (hR.sub (hs9.trans (Ch hus1)))
 refine Ab Aa ?_
 refine Ae (fuel:=4) [12] O O (by kernel_rfl) (Ab Aa ?_)
 refine Ag 15 (by kernel_rfl) rfl ?_
 refine Ar (fun v ua=>∃p',v=.pointer p'∧Nw u0 ua (fun u'=>Bk u' p' (x.hide &&& z.hide))) O O O O fn73 O O (fun E w F hs9=>Cb _ _ _ _ u0 w (hsub1.trans (Au hs9.imm)) k5' l5) (fun v ua ub hub hs9 hR=>?_)
 obtain⟨p',rfl,hR⟩:=hR
 refine Ad ?_
 refine Ae (fuel:=1) [16,17] O O (by kernel_rfl) (Ab Aa ?_)
 refine Ag 18 (by kernel_rfl) rfl ?_
 refine Bv Aa tvY T (pasT t y p') (cs:=[.int .i64 (oneP (x.text++z.text)).1,.string ((T.getD (((tvY.d T).n:Int)-1).toNat tvY.dft).pv.text++y.pv.text),.bool (T.getD (((tvY.d T).n:Int)-1).toNat tvY.dft).pv.space,.slice none 0 0,.pointer p']) O O O O O O O (by omega) (by omega) O O (Nat.le_refl 5) (by rw[htg,←k2,←l2];rfl) ?_
 rw[hset p']
 refine Ad ?_
 refine Aj (by kernel_rfl) rfl ?_
 exact Af p' [] .z (hR.sub (hs9.trans (Ch hus1)))
 refine Ab Aa ?_
 refine Aq 8 14 (by kernel_rfl) O O ?_ ?_
 refine Ab Aa ?_
 refine Ae (fuel:=4) [14] O O (by kernel_rfl) (Ab Aa ?_)
 refine Ag 15 (by kernel_rfl) rfl ?_
 refine Ar (fun v ua=>∃p',v=.pointer p'∧Nw u0 ua (fun u'=>Bk u' p' (x.hide &&& z.hide))) O O O O fn73 O O (fun E w F hs9=>Cb _ _ _ _ u0 w (hsub1.trans (Au hs9.imm)) k5' l5) (fun v ua ub hub hs9 hR=>?_)
 obtain⟨p',rfl,hR⟩:=hR
 refine Ad ?_
 refine Ae (fuel:=1) [16,17] O O (by kernel_rfl) (Ab Aa ?_)
 refine Ag 18 (by kernel_rfl) rfl ?_
 refine Bv Aa tvY T (pasT t y p') (cs:=[.int .i64 (oneP (x.text++z.text)).1,.string ((T.getD (((tvY.d T).n:Int)-1).toNat tvY.dft).pv.text++y.pv.text),.bool (T.getD (((tvY.d T).n:Int)-1).toNat tvY.dft).pv.space,.slice none 0 0,.pointer p']) O O O O O O O (by omega) (by omega) O O (Nat.le_refl 5) (by rw[htg,←k2,←l2];rfl) ?_
 rw[hset p']
 refine Ad ?_
 refine Aj (by kernel_rfl) rfl ?_
 exact Af p' [] .z (hR.sub (hs9.trans (Ch hus1)))
 refine Ab Aa ?_
 refine Aq 8 15 (by kernel_rfl) O O ?_ ?_
 refine Ab Aa ?_
 refine Ag 15 (by kernel_rfl) rfl ?_
 refine Ar (fun v ua=>∃p',v=.pointer p'∧Nw u0 ua (fun u'=>Bk u' p' (x.hide &&& z.hide))) O O O O fn73 O O (fun E w F hs9=>Cb _ _ _ _ u0 w (hsub1.trans (Au hs9.imm)) k5' l5) (fun v ua ub hub hs9 hR=>?_)
 obtain⟨p',rfl,hR⟩:=hR
 refine Ad ?_
 refine Ae (fuel:=1) [16,17] O O (by kernel_rfl) (Ab Aa ?_)
 refine Ag 18 (by kernel_rfl) rfl ?_
 refine Bv Aa tvY T (pasT t y p') (cs:=[.int .i64 (oneP (x.text++z.text)).1,.string ((T.getD (((tvY.d T).n:Int)-1).toNat tvY.dft).pv.text++y.pv.text),.bool (T.getD (((tvY.d T).n:Int)-1).toNat tvY.dft).pv.space,.slice none 0 0,.pointer p']) O O O O O O O (by omega) (by omega) O O (Nat.le_refl 5) (by rw[htg,←k2,←l2];rfl) ?_
 rw[hset p']
 refine Ad ?_
 refine Aj (by kernel_rfl) rfl ?_
 exact Af p' [] .z (hR.sub (hs9.trans (Ch hus1)))
 refine Ar (fun v ua=>∃p',v=.pointer p'∧Nw u0 ua (fun u'=>Bk u' p' (x.hide &&& z.hide))) O O O O fn73 O O (fun E w F hs9=>Cb _ _ _ _ u0 w (hsub1.trans (Au hs9.imm)) k5' l5) (fun v ua ub hub hs9 hR=>?_)
 obtain⟨p',rfl,hR⟩:=hR
 refine Ad ?_
 refine Ae (fuel:=1) [8,16,17] O O (by kernel_rfl) (Ab Aa ?_)
 refine Ag 18 (by kernel_rfl) rfl ?_
 refine Bv Aa tvY T (pasT t y p') (cs:=[.int .i64 (oneP (x.text++z.text)).1,.string ((T.getD (((tvY.d T).n:Int)-1).toNat tvY.dft).pv.text++y.pv.text),.bool (T.getD (((tvY.d T).n:Int)-1).toNat tvY.dft).pv.space,.slice none 0 0,.pointer p']) O O O O O O O (by omega) (by omega) O O (Nat.le_refl 5) (by rw[htg,←k2,←l2];rfl) ?_
 rw[hset p']
 refine Ad ?_
 refine Aj (by kernel_rfl) rfl ?_
 exact Af p' [] .z (hR.sub (hs9.trans (Ch hus1)))
 refine Ab Aa ?_
 refine Aq 8 12 (by kernel_rfl) O O ?_ ?_
 refine Ab Aa ?_
 refine Ae (fuel:=4) [12] O O (by kernel_rfl) (Ab Aa ?_)
 refine Ag 15 (by kernel_rfl) rfl ?_
 refine Ar (fun v ua=>∃p',v=.pointer p'∧Nw u0 ua (fun u'=>Bk u' p' (x.hide &&& z.hide))) O O O O fn73 O O (fun E w F hs9=>Cb _ _ _ _ u0 w (hsub1.trans (Au hs9.imm)) k5' l5) (fun v ua ub hub hs9 hR=>?_)
 obtain⟨p',rfl,hR⟩:=hR
 refine Ad ?_
 refine Ae (fuel:=1) [16,17] O O (by kernel_rfl) (Ab Aa ?_)
 refine Ag 18 (by kernel_rfl) rfl ?_
 refine Bv Aa tvY T (pasT t y p') (cs:=[.int .i64 (oneP (x.text++z.text)).1,.string ((T.getD (((tvY.d T).n:Int)-1).toNat tvY.dft).pv.text++y.pv.text),.bool (T.getD (((tvY.d T).n:Int)-1).toNat tvY.dft).pv.space,.slice none 0 0,.pointer p']) O O O O O O O (by omega) (by omega) O O (Nat.le_refl 5) (by rw[htg,←k2,←l2];rfl) ?_
 rw[hset p']
 refine Ad ?_
 refine Aj (by kernel_rfl) rfl ?_
 exact Af p' [] .z (hR.sub (hs9.trans (Ch hus1)))
 refine Ab Aa ?_
 refine Aq 8 15 (by kernel_rfl) O O ?_ ?_
 refine Ab Aa ?_
 refine Ag 15 (by kernel_rfl) rfl ?_
 refine Ar (fun v ua=>∃p',v=.pointer p'∧Nw u0 ua (fun u'=>Bk u' p' (x.hide &&& z.hide))) O O O O fn73 O O (fun E w F hs9=>Cb _ _ _ _ u0 w (hsub1.trans (Au hs9.imm)) k5' l5) (fun v ua ub hub hs9 hR=>?_)
 obtain⟨p',rfl,hR⟩:=hR
 refine Ad ?_
 refine Ae (fuel:=1) [16,17] O O (by kernel_rfl) (Ab Aa ?_)
 refine Ag 18 (by kernel_rfl) rfl ?_
 refine Bv Aa tvY T (pasT t y p') (cs:=[.int .i64 (oneP (x.text++z.text)).1,.string ((T.getD (((tvY.d T).n:Int)-1).toNat tvY.dft).pv.text++y.pv.text),.bool (T.getD (((tvY.d T).n:Int)-1).toNat tvY.dft).pv.space,.slice none 0 0,.pointer p']) O O O O O O O (by omega) (by omega) O O (Nat.le_refl 5) (by rw[htg,←k2,←l2];rfl) ?_
 rw[hset p']
 refine Ad ?_
 refine Aj (by kernel_rfl) rfl ?_
 exact Af p' [] .z (hR.sub (hs9.trans (Ch hus1)))
 refine Ar (fun v ua=>∃p',v=.pointer p'∧Nw u0 ua (fun u'=>Bk u' p' (x.hide &&& z.hide))) O O O O fn73 O O (fun E w F hs9=>Cb _ _ _ _ u0 w (hsub1.trans (Au hs9.imm)) k5' l5) (fun v ua ub hub hs9 hR=>?_)
 obtain⟨p',rfl,hR⟩:=hR
 refine Ad ?_
 refine Ae (fuel:=1) [8,16,17] O O (by kernel_rfl) (Ab Aa ?_)
 refine Ag 18 (by kernel_rfl) rfl ?_
 refine Bv Aa tvY T (pasT t y p') (cs:=[.int .i64 (oneP (x.text++z.text)).1,.string ((T.getD (((tvY.d T).n:Int)-1).toNat tvY.dft).pv.text++y.pv.text),.bool (T.getD (((tvY.d T).n:Int)-1).toNat tvY.dft).pv.space,.slice none 0 0,.pointer p']) O O O O O O O (by omega) (by omega) O O (Nat.le_refl 5) (by rw[htg,←k2,←l2];rfl) ?_
 rw[hset p']
 refine Ad ?_
 refine Aj (by kernel_rfl) rfl ?_
 exact Af p' [] .z (hR.sub (hs9.trans (Ch hus1)))
 refine Ab Aa ?_
 refine Aq 7 14 (by kernel_rfl) O O ?_ ?_
 refine Ab Aa ?_
 refine Aq 8 14 (by kernel_rfl) O O ?_ ?_
 refine Ab Aa ?_
 refine Ae (fuel:=4) [14] O O (by kernel_rfl) (Ab Aa ?_)
 refine Ag 15 (by kernel_rfl) rfl ?_
 refine Ar (fun v ua=>∃p',v=.pointer p'∧Nw u0 ua (fun u'=>Bk u' p' (x.hide &&& z.hide))) O O O O fn73 O O (fun E w F hs9=>Cb _ _ _ _ u0 w (hsub1.trans (Au hs9.imm)) k5' l5) (fun v ua ub hub hs9 hR=>?_)
 obtain⟨p',rfl,hR⟩:=hR
 refine Ad ?_
 refine Ae (fuel:=1) [16,17] O O (by kernel_rfl) (Ab Aa ?_)
 refine Ag 18 (by kernel_rfl) rfl ?_
 refine Bv Aa tvY T (pasT t y p') (cs:=[.int .i64 (oneP (x.text++z.text)).1,.string ((T.getD (((tvY.d T).n:Int)-1).toNat tvY.dft).pv.text++y.pv.text),.bool (T.getD (((tvY.d T).n:Int)-1).toNat tvY.dft).pv.space,.slice none 0 0,.pointer p']) O O O O O O O (by omega) (by omega) O O (Nat.le_refl 5) (by rw[htg,←k2,←l2];rfl) ?_
 rw[hset p']
 refine Ad ?_
 refine Aj (by kernel_rfl) rfl ?_
 exact Af p' [] .z (hR.sub (hs9.trans (Ch hus1)))
 refine Ab Aa ?_
 refine Aq 8 15 (by kernel_rfl) O O ?_ ?_
 refine Ab Aa ?_
 refine Ag 15 (by kernel_rfl) rfl ?_
 refine Ar (fun v ua=>∃p',v=.pointer p'∧Nw u0 ua (fun u'=>Bk u' p' (x.hide &&& z.hide))) O O O O fn73 O O (fun E w F hs9=>Cb _ _ _ _ u0 w (hsub1.trans (Au hs9.imm)) k5' l5) (fun v ua ub hub hs9 hR=>?_)
 obtain⟨p',rfl,hR⟩:=hR
 refine Ad ?_
 refine Ae (fuel:=1) [16,17] O O (by kernel_rfl) (Ab Aa ?_)
 refine Ag 18 (by kernel_rfl) rfl ?_
 refine Bv Aa tvY T (pasT t y p') (cs:=[.int .i64 (oneP (x.text++z.text)).1,.string ((T.getD (((tvY.d T).n:Int)-1).toNat tvY.dft).pv.text++y.pv.text),.bool (T.getD (((tvY.d T).n:Int)-1).toNat tvY.dft).pv.space,.slice none 0 0,.pointer p']) O O O O O O O (by omega) (by omega) O O (Nat.le_refl 5) (by rw[htg,←k2,←l2];rfl) ?_
 rw[hset p']
 refine Ad ?_
 refine Aj (by kernel_rfl) rfl ?_
 exact Af p' [] .z (hR.sub (hs9.trans (Ch hus1)))
 refine Ar (fun v ua=>∃p',v=.pointer p'∧Nw u0 ua (fun u'=>Bk u' p' (x.hide &&& z.hide))) O O O O fn73 O O (fun E w F hs9=>Cb _ _ _ _ u0 w (hsub1.trans (Au hs9.imm)) k5' l5) (fun v ua ub hub hs9 hR=>?_)
 obtain⟨p',rfl,hR⟩:=hR
 refine Ad ?_
 refine Ae (fuel:=1) [8,16,17] O O (by kernel_rfl) (Ab Aa ?_)
 refine Ag 18 (by kernel_rfl) rfl ?_
 refine Bv Aa tvY T (pasT t y p') (cs:=[.int .i64 (oneP (x.text++z.text)).1,.string ((T.getD (((tvY.d T).n:Int)-1).toNat tvY.dft).pv.text++y.pv.text),.bool (T.getD (((tvY.d T).n:Int)-1).toNat tvY.dft).pv.space,.slice none 0 0,.pointer p']) O O O O O O O (by omega) (by omega) O O (Nat.le_refl 5) (by rw[htg,←k2,←l2];rfl) ?_
 rw[hset p']
 refine Ad ?_
 refine Aj (by kernel_rfl) rfl ?_
 exact Af p' [] .z (hR.sub (hs9.trans (Ch hus1)))
 refine Ab Aa ?_
 refine Aq 7 15 (by kernel_rfl) O O ?_ ?_
 refine Ab Aa ?_
 refine Aq 8 15 (by kernel_rfl) O O ?_ ?_
 refine Ab Aa ?_
 refine Ag 15 (by kernel_rfl) rfl ?_
 refine Ar (fun v ua=>∃p',v=.pointer p'∧Nw u0 ua (fun u'=>Bk u' p' (x.hide &&& z.hide))) O O O O fn73 O O (fun E w F hs9=>Cb _ _ _ _ u0 w (hsub1.trans (Au hs9.imm)) k5' l5) (fun v ua ub hub hs9 hR=>?_)
 obtain⟨p',rfl,hR⟩:=hR
 refine Ad ?_
 refine Ae (fuel:=1) [16,17] O O (by kernel_rfl) (Ab Aa ?_)
 refine Ag 18 (by kernel_rfl) rfl ?_
 refine Bv Aa tvY T (pasT t y p') (cs:=[.int .i64 (oneP (x.text++z.text)).1,.string ((T.getD (((tvY.d T).n:Int)-1).toNat tvY.dft).pv.text++y.pv.text),.bool (T.getD (((tvY.d T).n:Int)-1).toNat tvY.dft).pv.space,.slice none 0 0,.pointer p']) O O O O O O O (by omega) (by omega) O O (Nat.le_refl 5) (by rw[htg,←k2,←l2];rfl) ?_
 rw[hset p']
 refine Ad ?_
 refine Aj (by kernel_rfl) rfl ?_
 exact Af p' [] .z (hR.sub (hs9.trans (Ch hus1)))
 refine Ar (fun v ua=>∃p',v=.pointer p'∧Nw u0 ua (fun u'=>Bk u' p' (x.hide &&& z.hide))) O O O O fn73 O O (fun E w F hs9=>Cb _ _ _ _ u0 w (hsub1.trans (Au hs9.imm)) k5' l5) (fun v ua ub hub hs9 hR=>?_)
 obtain⟨p',rfl,hR⟩:=hR
 refine Ad ?_
 refine Ae (fuel:=1) [8,16,17] O O (by kernel_rfl) (Ab Aa ?_)
 refine Ag 18 (by kernel_rfl) rfl ?_
 refine Bv Aa tvY T (pasT t y p') (cs:=[.int .i64 (oneP (x.text++z.text)).1,.string ((T.getD (((tvY.d T).n:Int)-1).toNat tvY.dft).pv.text++y.pv.text),.bool (T.getD (((tvY.d T).n:Int)-1).toNat tvY.dft).pv.space,.slice none 0 0,.pointer p']) O O O O O O O (by omega) (by omega) O O (Nat.le_refl 5) (by rw[htg,←k2,←l2];rfl) ?_
 rw[hset p']
 refine Ad ?_
 refine Aj (by kernel_rfl) rfl ?_
 exact Af p' [] .z (hR.sub (hs9.trans (Ch hus1)))
 refine Ar (fun v ua=>∃p',v=.pointer p'∧Nw u0 ua (fun u'=>Bk u' p' (x.hide &&& z.hide))) O O O O fn73 O O (fun E w F hs9=>Cb _ _ _ _ u0 w (hsub1.trans (Au hs9.imm)) k5' l5) (fun v ua ub hub hs9 hR=>?_)
 obtain⟨p',rfl,hR⟩:=hR
 refine Ad ?_
 refine Ae (fuel:=1) [7,8,16,17] O O (by kernel_rfl) (Ab Aa ?_)
 refine Ag 18 (by kernel_rfl) rfl ?_
 refine Bv Aa tvY T (pasT t y p') (cs:=[.int .i64 (oneP (x.text++z.text)).1,.string ((T.getD (((tvY.d T).n:Int)-1).toNat tvY.dft).pv.text++y.pv.text),.bool (T.getD (((tvY.d T).n:Int)-1).toNat tvY.dft).pv.space,.slice none 0 0,.pointer p']) O O O O O O O (by omega) (by omega) O O (Nat.le_refl 5) (by rw[htg,←k2,←l2];rfl) ?_
 rw[hset p']
 refine Ad ?_
 refine Aj (by kernel_rfl) rfl ?_
 exact Af p' [] .z (hR.sub (hs9.trans (Ch hus1)))
 refine Ab Aa ?_
 refine Aq 7 12 (by kernel_rfl) O O ?_ ?_
 refine Ab Aa ?_
 refine Aq 8 12 (by kernel_rfl) O O ?_ ?_
 refine Ab Aa ?_
 refine Ae (fuel:=4) [12] O O (by kernel_rfl) (Ab Aa ?_)
 refine Ag 15 (by kernel_rfl) rfl ?_
 refine Ar (fun v ua=>∃p',v=.pointer p'∧Nw u0 ua (fun u'=>Bk u' p' (x.hide &&& z.hide))) O O O O fn73 O O (fun E w F hs9=>Cb _ _ _ _ u0 w (hsub1.trans (Au hs9.imm)) k5' l5) (fun v ua ub hub hs9 hR=>?_)
 obtain⟨p',rfl,hR⟩:=hR
 refine Ad ?_
 refine Ae (fuel:=1) [16,17] O O (by kernel_rfl) (Ab Aa ?_)
 refine Ag 18 (by kernel_rfl) rfl ?_
 refine Bv Aa tvY T (pasT t y p') (cs:=[.int .i64 (oneP (x.text++z.text)).1,.string ((T.getD (((tvY.d T).n:Int)-1).toNat tvY.dft).pv.text++y.pv.text),.bool (T.getD (((tvY.d T).n:Int)-1).toNat tvY.dft).pv.space,.slice none 0 0,.pointer p']) O O O O O O O (by omega) (by omega) O O (Nat.le_refl 5) (by rw[htg,←k2,←l2];rfl) ?_
 rw[hset p']
 refine Ad ?_
 refine Aj (by kernel_rfl) rfl ?_
 exact Af p' [] .z (hR.sub (hs9.trans (Ch hus1)))
 refine Ab Aa ?_
 refine Aq 8 15 (by kernel_rfl) O O ?_ ?_
 refine Ab Aa ?_
 refine Ag 15 (by kernel_rfl) rfl ?_
 refine Ar (fun v ua=>∃p',v=.pointer p'∧Nw u0 ua (fun u'=>Bk u' p' (x.hide &&& z.hide))) O O O O fn73 O O (fun E w F hs9=>Cb _ _ _ _ u0 w (hsub1.trans (Au hs9.imm)) k5' l5) (fun v ua ub hub hs9 hR=>?_)
 obtain⟨p',rfl,hR⟩:=hR
 refine Ad ?_
 refine Ae (fuel:=1) [16,17] O O (by kernel_rfl) (Ab Aa ?_)
 refine Ag 18 (by kernel_rfl) rfl ?_
 refine Bv Aa tvY T (pasT t y p') (cs:=[.int .i64 (oneP (x.text++z.text)).1,.string ((T.getD (((tvY.d T).n:Int)-1).toNat tvY.dft).pv.text++y.pv.text),.bool (T.getD (((tvY.d T).n:Int)-1).toNat tvY.dft).pv.space,.slice none 0 0,.pointer p']) O O O O O O O (by omega) (by omega) O O (Nat.le_refl 5) (by rw[htg,←k2,←l2];rfl) ?_
 rw[hset p']
 refine Ad ?_
 refine Aj (by kernel_rfl) rfl ?_
 exact Af p' [] .z (hR.sub (hs9.trans (Ch hus1)))
 refine Ar (fun v ua=>∃p',v=.pointer p'∧Nw u0 ua (fun u'=>Bk u' p' (x.hide &&& z.hide))) O O O O fn73 O O (fun E w F hs9=>Cb _ _ _ _ u0 w (hsub1.trans (Au hs9.imm)) k5' l5) (fun v ua ub hub hs9 hR=>?_)
 obtain⟨p',rfl,hR⟩:=hR
 refine Ad ?_
 refine Ae (fuel:=1) [8,16,17] O O (by kernel_rfl) (Ab Aa ?_)
 refine Ag 18 (by kernel_rfl) rfl ?_
 refine Bv Aa tvY T (pasT t y p') (cs:=[.int .i64 (oneP (x.text++z.text)).1,.string ((T.getD (((tvY.d T).n:Int)-1).toNat tvY.dft).pv.text++y.pv.text),.bool (T.getD (((tvY.d T).n:Int)-1).toNat tvY.dft).pv.space,.slice none 0 0,.pointer p']) O O O O O O O (by omega) (by omega) O O (Nat.le_refl 5) (by rw[htg,←k2,←l2];rfl) ?_
 rw[hset p']
 refine Ad ?_
 refine Aj (by kernel_rfl) rfl ?_
 exact Af p' [] .z (hR.sub (hs9.trans (Ch hus1)))
 refine Ab Aa ?_
 refine Aq 7 15 (by kernel_rfl) O O ?_ ?_
 refine Ab Aa ?_
 refine Aq 8 15 (by kernel_rfl) O O ?_ ?_
 refine Ab Aa ?_
 refine Ag 15 (by kernel_rfl) rfl ?_
 refine Ar (fun v ua=>∃p',v=.pointer p'∧Nw u0 ua (fun u'=>Bk u' p' (x.hide &&& z.hide))) O O O O fn73 O O (fun E w F hs9=>Cb _ _ _ _ u0 w (hsub1.trans (Au hs9.imm)) k5' l5) (fun v ua ub hub hs9 hR=>?_)
 obtain⟨p',rfl,hR⟩:=hR
 refine Ad ?_
 refine Ae (fuel:=1) [16,17] O O (by kernel_rfl) (Ab Aa ?_)
 refine Ag 18 (by kernel_rfl) rfl ?_
 refine Bv Aa tvY T (pasT t y p') (cs:=[.int .i64 (oneP (x.text++z.text)).1,.string ((T.getD (((tvY.d T).n:Int)-1).toNat tvY.dft).pv.text++y.pv.text),.bool (T.getD (((tvY.d T).n:Int)-1).toNat tvY.dft).pv.space,.slice none 0 0,.pointer p']) O O O O O O O (by omega) (by omega) O O (Nat.le_refl 5) (by rw[htg,←k2,←l2];rfl) ?_
 rw[hset p']
 refine Ad ?_
 refine Aj (by kernel_rfl) rfl ?_
 exact Af p' [] .z (hR.sub (hs9.trans (Ch hus1)))
 refine Ar (fun v ua=>∃p',v=.pointer p'∧Nw u0 ua (fun u'=>Bk u' p' (x.hide &&& z.hide))) O O O O fn73 O O (fun E w F hs9=>Cb _ _ _ _ u0 w (hsub1.trans (Au hs9.imm)) k5' l5) (fun v ua ub hub hs9 hR=>?_)
 obtain⟨p',rfl,hR⟩:=hR
 refine Ad ?_
 refine Ae (fuel:=1) [8,16,17] O O (by kernel_rfl) (Ab Aa ?_)
 refine Ag 18 (by kernel_rfl) rfl ?_
 refine Bv Aa tvY T (pasT t y p') (cs:=[.int .i64 (oneP (x.text++z.text)).1,.string ((T.getD (((tvY.d T).n:Int)-1).toNat tvY.dft).pv.text++y.pv.text),.bool (T.getD (((tvY.d T).n:Int)-1).toNat tvY.dft).pv.space,.slice none 0 0,.pointer p']) O O O O O O O (by omega) (by omega) O O (Nat.le_refl 5) (by rw[htg,←k2,←l2];rfl) ?_
 rw[hset p']
 refine Ad ?_
 refine Aj (by kernel_rfl) rfl ?_
 exact Af p' [] .z (hR.sub (hs9.trans (Ch hus1)))
 refine Ar (fun v ua=>∃p',v=.pointer p'∧Nw u0 ua (fun u'=>Bk u' p' (x.hide &&& z.hide))) O O O O fn73 O O (fun E w F hs9=>Cb _ _ _ _ u0 w (hsub1.trans (Au hs9.imm)) k5' l5) (fun v ua ub hub hs9 hR=>?_)
 obtain⟨p',rfl,hR⟩:=hR
 refine Ad ?_
 refine Ae (fuel:=1) [7,8,16,17] O O (by kernel_rfl) (Ab Aa ?_)
 refine Ag 18 (by kernel_rfl) rfl ?_
 refine Bv Aa tvY T (pasT t y p') (cs:=[.int .i64 (oneP (x.text++z.text)).1,.string ((T.getD (((tvY.d T).n:Int)-1).toNat tvY.dft).pv.text++y.pv.text),.bool (T.getD (((tvY.d T).n:Int)-1).toNat tvY.dft).pv.space,.slice none 0 0,.pointer p']) O O O O O O O (by omega) (by omega) O O (Nat.le_refl 5) (by rw[htg,←k2,←l2];rfl) ?_
 rw[hset p']
 refine Ad ?_
 refine Aj (by kernel_rfl) rfl ?_
 exact Af p' [] .z (hR.sub (hs9.trans (Ch hus1)))
 rintro p u2 hu2 hp
 have hN:Nw u0 (dif us u2) (fun v=>(0:Int)=0→Bk v p (x.hide &&& z.hide)):=hp.imp fun _ h _=>h
 refine Ap (fun h3=>?_) (fun h3=>?_)
 have h3:(1:Int)<((tvY.d S).n:Int):=of_decide_eq_true h3
 have hl1:(S.drop 1).length=S.length-1:=List.length_drop
 have hc10:count+(S.drop 1).length≤most:=by omega
 have hT10:(T.dropLast++[pasT t y p]).length≤1000000000:=by rw[List.length_append,List.length_dropLast,List.length_singleton];omega
 obtain⟨y1,hy1⟩:∃y1,S[1]?=some y1:=⟨_,List.getElem?_eq_getElem (by omega)⟩
 have hlast:pasO T S t y count most op 0 p=fOw' ((T.dropLast++[pasT t y p])++spT (S.getD (1:Int).toNat tvY.dft).pv.space (S.drop 1)) (count+(S.drop 1).length) most (if(S.drop 1).length=0 then op else true):=by
  have e1:S.getD (1:Int).toNat tvY.dft=y1:=by rw[List.getD_eq_getElem?_getD];show(S[1]?).getD _=y1;rw[hy1];rfl
  unfold pasO
  rw[if_pos rfl,if_neg (by omega),e1,spT_own (by rw[List.getElem?_drop];exact hy1),if_neg (by omega),hl1,List.append_assoc];rfl
 refine Bw mix ?_
 refine At Aa (fuel:=6) [0,1,3] rfl (by kernel_rfl) (by kernel_rfl) (fun _ _ _ hh=>hh) (by kernel_rfl) (by kernel_rfl) ?_
 refine Aq 2 4 (by kernel_rfl) O O ?_ ?_
 refine xl_asV 82 2 O O (fun A9 c9 hA9 _=>?_)
 refine xl_fromE Aa O O O O O O O O O (by omega) (by omega) ?_
 obtain⟨A10,c10,e10⟩:∃A10 c10,partV ti87.sz A9 c9 (1:Int).toNat (tvY.d S).n=.slice A10 (S.drop 1).length c10:=⟨_,_,by unfold partV;rw[List.length_drop,hDS];rfl⟩
 rw[e10]
 have hS10:Aw u2 (.slice A10 (S.drop 1).length c10) (tvY.d (S.drop 1)):=by
  have:=partV_slAt (Y:=tvY) hA9 (l:=1) (h:=S.length) (by omega) (Nat.le_refl _)
  rw[List.take_length]at this
  rw[←e10];exact this
 refine Ad ?_
 refine Ae (fuel:=1) [4,5,6,7] O O (by kernel_rfl) (Ab Aa ?_)
 repeat refine sdI ?_
 refine Ag 8 (by kernel_rfl) rfl ?_
 refine xl_callSCX (add_scx (op:=op) (sp:=(S.getD (1:Int).toNat tvY.dft).pv.space) hS10 hc10 hm hT10) ⟨fun _ _ h=>h⟩ [0,1] O O O O fn105 O O O O O O ⟨trivial,trivial,trivial⟩ rfl (fun _=>⟨trivial,trivial,trivial⟩) (fun _=>rfl) (fun _ u7 hu7 _ _=>?_)
 refine Ad ?_
 refine Aj (by kernel_rfl) rfl ?_
 refine⟨(0,p),[(2,some 4)],rfl,?_,rfl,by show 2≤3;omega,he.symm,hN.sub (Ba hu7.sub)⟩
 show Sub 2 _ _ ⟨_,[],pasO T S t y count most op 0 p,3⟩
 rw[hlast]
 exact .of O O O O O O
 refine Ab Aa ?_
 repeat refine sdI ?_
 refine At Aa (fuel:=3) [5,6] rfl (by kernel_rfl) (by kernel_rfl) (fun _ _ _ hh=>hh) (by kernel_rfl) (by kernel_rfl) ?_
 refine Aq 2 7 (by kernel_rfl) O O ?_ ?_
 refine xl_asV 82 2 O O (fun A9 c9 hA9 _=>?_)
 refine xl_fromE Aa O O O O O O O O O (by omega) (by omega) ?_
 obtain⟨A10,c10,e10⟩:∃A10 c10,partV ti87.sz A9 c9 (1:Int).toNat (tvY.d S).n=.slice A10 (S.drop 1).length c10:=⟨_,_,by unfold partV;rw[List.length_drop,hDS];rfl⟩
 rw[e10]
 have hS10:Aw u2 (.slice A10 (S.drop 1).length c10) (tvY.d (S.drop 1)):=by
  have:=partV_slAt (Y:=tvY) hA9 (l:=1) (h:=S.length) (by omega) (Nat.le_refl _)
  rw[List.take_length]at this
  rw[←e10];exact this
 refine Ad ?_
 refine Ae (fuel:=1) [7] O O (by kernel_rfl) (Ab Aa ?_)
 refine Ag 8 (by kernel_rfl) rfl ?_
 refine xl_callSCX (add_scx (op:=op) (sp:=(S.getD (1:Int).toNat tvY.dft).pv.space) hS10 hc10 hm hT10) ⟨fun _ _ h=>h⟩ [0,1] O O O O fn105 O O O O O O ⟨trivial,trivial,trivial⟩ rfl (fun _=>⟨trivial,trivial,trivial⟩) (fun _=>rfl) (fun _ u7 hu7 _ _=>?_)
 refine Ad ?_
 refine Aj (by kernel_rfl) rfl ?_
 refine⟨(0,p),[(2,some 4)],rfl,?_,rfl,by show 2≤3;omega,he.symm,hN.sub (Ba hu7.sub)⟩
 show Sub 2 _ _ ⟨_,[],pasO T S t y count most op 0 p,3⟩
 rw[hlast]
 exact .of O O O O O O
 refine Ab Aa ?_
 refine Ag 2 (by kernel_rfl) rfl ?_
 refine xl_asV 82 2 O O (fun A9 c9 hA9 _=>?_)
 refine xl_fromE Aa O O O O O O O O O (by omega) (by omega) ?_
 obtain⟨A10,c10,e10⟩:∃A10 c10,partV ti87.sz A9 c9 (1:Int).toNat (tvY.d S).n=.slice A10 (S.drop 1).length c10:=⟨_,_,by unfold partV;rw[List.length_drop,hDS];rfl⟩
 rw[e10]
 have hS10:Aw u2 (.slice A10 (S.drop 1).length c10) (tvY.d (S.drop 1)):=by
  have:=partV_slAt (Y:=tvY) hA9 (l:=1) (h:=S.length) (by omega) (Nat.le_refl _)
  rw[List.take_length]at this
  rw[←e10];exact this
 refine Ad ?_
 refine Ag 8 (by kernel_rfl) rfl ?_
 refine xl_callSCX (add_scx (op:=op) (sp:=(S.getD (1:Int).toNat tvY.dft).pv.space) hS10 hc10 hm hT10) ⟨fun _ _ h=>h⟩ [0,1] O O O O fn105 O O O O O O ⟨trivial,trivial,trivial⟩ rfl (fun _=>⟨trivial,trivial,trivial⟩) (fun _=>rfl) (fun _ u7 hu7 _ _=>?_)
 refine Ad ?_
 refine Aj (by kernel_rfl) rfl ?_
 refine⟨(0,p),[(2,some 4)],rfl,?_,rfl,by show 2≤3;omega,he.symm,hN.sub (Ba hu7.sub)⟩
 show Sub 2 _ _ ⟨_,[],pasO T S t y count most op 0 p,3⟩
 rw[hlast]
 exact .of O O O O O O
 have h3:¬(1:Int)<((tvY.d S).n:Int):=of_decide_eq_false h3
 have h3:S.length=1:=by omega
 have e:pasO T S t y count most op 0 p=fOw' (T.dropLast++[pasT t y p]) count most op:=by
  unfold pasO
  rw[if_pos rfl,if_pos h3,h3,show S.drop 1=[]from List.drop_of_length_le (by omega)];rfl
 refine⟨(0,p),[(2,some 1)],rfl,?_,rfl,by show 2≤3;omega,he.symm,hN⟩
 show Sub 2 _ _ ⟨_,[],pasO T S t y count most op 0 p,3⟩
 rw[e]
 exact .of O O O O O O
end Go.Proofs.YtnjlkdhdinfejaaGreat
namespace Go.GV
open Go.RowKit
def clipR (A:Option Addr) (e:TypeId) (D:Data):Hp where
 h:=fun _ F w=>(∀x,F x↔∃ad,A=some ad∧x=ad.block)∧(A=none→D.n=0)∧∀ad,A=some ad→ad=⟨ad.block,0,none⟩∧D.n≤maxLen∧D.flat.length=D.n*D.cs.length ∧
  ∃cur,w.heap[ad.block]?=some (.cells cur e (0,0))∧cur.toList.take (D.n*D.cs.length)=D.flat
 loc:=fun _ F w w' ⟨h1,h2,h3⟩ hF _ _=>⟨h1,h2,fun ad had=>by
  obtain⟨k1,k2,k3,cur,k4,k5⟩:=h3 ad had
  exact⟨k1,k2,k3,cur,by rw[hF ad.block ((h1 _).2 ⟨ad,had,rfl⟩)];exact k4,k5⟩⟩
 mono:=fun _ _ _ _ h _ _=>h
 fin:=fun _ F w ⟨h1,h2,h3⟩ x hx=>by
  obtain⟨ad,had,rfl⟩:=(h1 x).1 hx
  obtain⟨_,_,_,cur,k4,_⟩:=h3 ad had
  exact(Array.getElem?_eq_some_iff.1 k4).1
theorem Sat.genAt {E:Env} {o:Own} {nx:Nat} {u:Im} {df:List Deferred} {w w':World} {f:Nat→Nat→Prop} (h:Sat E o nx u df w f) {k:Nat} {r0:Rs} {A:Hp} (hk:look o k=some r0)
 (himm:Imm u w') (hsz:w.heap.size≤w'.heap.size) (hkeep:∀b,b<w.heap.size→¬f k b→w'.heap[b]?=w.heap[b]?) (hA:A.h u (f k) w'):Sat E ((k,.gen A)::o) nx u df w' f:=by
 refine h.step (fun j=>j=k) (fun _ _=>rfl) (Nat.le_refl _) (Im.le.refl u) himm hsz (fun b hb hn=>hkeep b hb (hn k rfl)) ?_ ?_ ?_ (fun b o ho=>.inl ho)
 intro j hj
 exact⟨by rw[Ac,if_neg (Ne.symm hj)],fun b=>Iff.rfl⟩
 rintro j rfl
 refine⟨fun r hr=>?_,fun hr=>?_,fun b hb=>?_⟩
 rw[Ac,if_pos rfl]at hr
 cases hr
 exact⟨hA,(h.lt j _ hk).1,trivial⟩
 rw[Ac,if_pos rfl]at hr;cases hr
 exact⟨.inl ⟨j,rfl,hb⟩,h.off j b hb⟩
 intro j j' b hj hj' hne;subst hj hj';exact absurd rfl hne
theorem xl_clip {α:Type} {T:TT} {C:Cx} (hT:TOk C.P T) {all:List Oper} {o:Oper} {r:List Oper} {Q:Bb} {kn:Kn} {gk:List (Nat×(Gd×SV))} {ow:Own} {nx:Nat} {u:Im}
 (Y:Lay α) (L:List α) {t e d k:Nat} {sv hv mv:Operand} {ti te:TI} {kh km:IntKind} (ho:o.op=.slice t sv none (some hv) (some mv)) (hgd:o.guard=none) (hd:o.dst=some d)
 (hti:look T t=some ti) (hsh:ti.shp=.slice e) (hte:look T e=some te)
 (hs:opd ⟨kn,gk,ow,nx⟩ [] sv=some (.r k)) (hk:look ow k=some (.row e (Y.d L))) (hh:opd ⟨kn,gk,ow,nx⟩ [] hv=some (.v (.int kh ((Y.d L).n:Int)))) (hm:opd ⟨kn,gk,ow,nx⟩ [] mv=some (.v (.int km ((Y.d L).n:Int))))
 (hf:Bg C.N ⟨kn,gk,ow,nx⟩ d []=true)
 (K:∀A,(A=none→L.length=0)→(∀ad,A=some ad→ad=⟨ad.block,0,none⟩)→XL C all r Q ⟨(d,.v (.slice A L.length L.length))::kn,gk,(k,.gen (clipR A e (Y.d L)))::ow,nx⟩ u):XL C all (o::r) Q ⟨kn,gk,ow,nx⟩ u:=by
 unfold XL at K ⊢
 intro E a w hok
 obtain⟨f,hsat⟩:=hok.sat
 have hgs:gs a.tmps []:=fun x hx=>by cases hx
 have hu:=(hT _ _ hti).isSlice hsh
 have hel:C.P.elem t=e:=by simp[Program.elem,hu]
 have htek:=hT _ _ hte
 obtain⟨es,_⟩:=Al hok.agr hgs hs
 obtain⟨eh,_⟩:=Al hok.agr hgs hh
 obtain⟨em,_⟩:=Al hok.agr hgs hm
 have es':a.eval sv=E k:=es
 simp only[SV.den]at eh em
 obtain⟨hrow,hF⟩:=hsat.holds k _ hk
 rw[Lay.d_n]at eh em
 have key:∃A,(execOp a.eval o).run C.P w=.ok (.value (.slice A L.length L.length)) w∧(A=none→L.length=0)∧(clipR A e (Y.d L)).h u (f k) w:=by
  have hfl:(Y.d L).flat.length=(Y.d L).n * (Y.d L).cs.length:=by rw[Lay.flat_length,Lay.d_n,Lay.cs_length]
  have hrow2:=hrow.2
  rw[Lay.d_n]at hrow2
  rcases hrow2 with⟨hv,hn⟩|⟨g,cap,cur,hv,hb,hg,hnc,hcm,hcs,htake⟩
  refine⟨none,?_,fun _=>hn,fun x=>⟨fun hx=>?_,fun⟨ad,had,_⟩=>by cases had⟩,fun _=>by rw[Lay.d_n];exact hn,fun ad had=>by cases had⟩
  have:=run_slice_hm (P:=C.P) (w:=w) t none 0 0 (by rw[hel];exact hu) kh km (L.length:Int) (L.length:Int) (by omega) (Int.le_refl _) (by omega)
  simp only[execOp,ho,Option.map_none,Option.map_some,es',hv,eh,em]
  rw[Sem.run_bind,run_sliceAt_slice (w:=w) t _ _ _ _ (by rw[hel];exact hu),this,hel,Ca w htek]
  simp[Result.andThen,sliced,hn]
  have:=(hF x).1 hx
  rw[hv]at this;cases this
  refine⟨some ⟨g,0,none⟩,?_,fun h=>(by cases h),fun x=>⟨fun hx=>?_,fun⟨ad,had,hx⟩=>?_⟩,fun h=>(by cases h),fun ad had=>?_⟩
  have:=run_slice_hm (P:=C.P) (w:=w) t (some ⟨g,0,none⟩) L.length cap (by rw[hel];exact hu) kh km (L.length:Int) (L.length:Int) (by omega) (Int.le_refl _) (by omega)
  simp only[execOp,ho,Option.map_none,Option.map_some,es',hv,eh,em]
  rw[Sem.run_bind,run_sliceAt_slice (w:=w) t _ _ _ _ (by rw[hel];exact hu),this,hel,Ca w htek]
  simp[Result.andThen,sliced,addr_add0]
  have:=(hF x).1 hx
  rw[hv]at this
  cases this
  exact⟨_,rfl,rfl⟩
  cases had
  rw[hx]
  exact(hF g).2 (by rw[hv];rfl)
  cases had
  refine⟨rfl,by rw[Lay.d_n];exact Nat.le_trans hnc hcm,hfl,cur,hg,by rw[Lay.d_n];exact htake⟩
 obtain⟨A,hrun,hA,hres⟩:=key
 refine xl_wp hgd (fun c hc=>by rw[ho]at hc;cases hc) hrun ?_
 rw[hd]
 have hsat2:=hsat.genAt hk hsat.imm (Nat.le_refl _) (fun _ _ _=>rfl) hres
 have hg:=hok.agr.grow (E':=E) (ow:=(k,.gen (clipR A e (Y.d L)))::ow) (nx:=nx) (fun _ _=>rfl) (Nat.le_refl _)
 have hput:=hg.put (g:=[]) (d:=d) (s:=.v (.slice A L.length L.length)) (x:=.slice A L.length L.length) hf (fun _=>trivial) (fun _=>rfl) (fun hn=>absurd (fun x hx=>(by cases hx)) hn) (fun _=>rfl)
 exact K A hA (fun ad had=>(hres.2.2 ad had).1) E (a.put (some d) _) _ ⟨⟨hput.size,hput.kn,hput.gk,hput.klt,hput.glt⟩,_,hsat2⟩
theorem clip_cell {α:Type} {Y:Lay α} {L:List α} {A:Option Addr} {e b:Nat} {u:Im} {F:Nat→Prop} {w:World} (h:(clipR A e (Y.d L)).h u F w) (hA:A=some ⟨b,0,none⟩) {i off:Nat} (hi:i<L.length) {v:Value} (hv:(Y.el (L.getD i Y.dft))[off]?=some v) :
 ∃cur,w.heap[b]?=some (.cells cur e (0,0))∧cur[i*Y.fs.length+off]?=some v:=by
 obtain⟨h1,h2,h3⟩:=h
 obtain⟨k1,k2,k3,cur,k4,k5⟩:=h3 _ hA
 refine⟨cur,k4,?_⟩
 rw[Lay.d_n,Lay.cs_length]at k5
 have hoff:off<Y.fs.length:=by
  have:=(List.getElem?_eq_some_iff.1 hv).1
  rwa [Lay.el_length]at this
 have hmul:(i+1) * Y.fs.length≤L.length*Y.fs.length:=Nat.mul_le_mul_right _ hi
 rw[Nat.add_mul,Nat.one_mul]at hmul
 have h9:((Y.d L).flat)[i*Y.fs.length+off]?=some v:=by
  have hx:L[i]?=some (L.getD i Y.dft):=by rw[List.getD_eq_getElem?_getD,List.getElem?_eq_getElem hi];rfl
  rw[Lay.flat,flatMap_get Y.el (fun x=>Y.el_length x) L i off _ hx hoff];exact hv
 rw[←k5,List.getElem?_take,if_pos (by omega)]at h9
 simpa using h9
theorem xl_loadC {α:Type} {T:TT} {C:Cx} (hT:TOk C.P T) {all:List Oper} {o:Oper} {r:List Oper} {Q:Bb} {st:St} {u:Im} {g:Gd}
 (Y:Lay α) (L:List α) (i off:Nat) {t d e k b:Nat} {ad:Addr} {A:Option Addr} {x:Operand} {ti:TI} (v:Value) (ho:o.op=.load t x) (hg:Bp all st o=some g) (hd:o.dst=some d) (hfr:Bg C.N st d g=true)
 (hti:look T t=some ti) (ha:ti.agg=false) (hx:opd st g x=some (.v (.pointer (some ad)))) (hk:look st.ow k=some (.gen (clipR A e (Y.d L)))) (hA:A=some ⟨b,0,none⟩) (had:ad=⟨b,i*Y.fs.length+off,none⟩)
 (hi:i<L.length) (hv:(Y.el (L.getD i Y.dft))[off]?=some v) (K:XL C all r Q (st.put d g (.v v)) u):XL C all (o::r) Q st u:=by
 refine xl_gval _ hg hd (fun c hc=>by rw[ho]at hc;cases hc) hfr (fun hp E a w hok hgs=>?_) K
 have e1:=(Al hok.agr hgs hx).1
 obtain⟨f,hsat⟩:=hok.sat
 obtain⟨cur,h1,h2⟩:=clip_cell (hsat.holds k _ hk) hA hi hv
 have hcell:w.cell? ad=some v:=by
  rw[had]
  show(im w).cell? ⟨b,i*Y.fs.length+off,none⟩=some v
  unfold Im.cell?
  show(match w.heap[b]? with|some (.cells c _ _)=>if(none:Option _).isSome then none else c[i*Y.fs.length+off]?|_=>none)=some v
  rw[h1];simpa using h2
 simp only[SV.den]at e1
 simp only[execOp,ho]
 rw[e1,Sem.run_bind]
 have:(Instr.loadAt t (.pointer (some ad))).run C.P w=.ok v w:=by
  simp only[Instr.loadAt,Instr.sureAddr,Sem.run_bind,Sem.run_pure,Result.andThen_ok]
  rw[run_loadVar (hT _ _ hti) (l:=[v]) (by simp[((hT _ _ hti).one ha).1]) (fun j x hj=>by
   cases j with
   |zero=>cases hj;rw[addr_same];exact hcell
   |succ j=>simp at hj)]
  rw[ha]
  rfl
 rw[this]
 rfl
theorem xl_storeC {α:Type} {T:TT} {C:Cx} (hT:TOk C.P T) {all:List Oper} {o:Oper} {r:List Oper} {Q:Bb} {kn:Kn} {gk:List (Nat×(Gd×SV))} {ow:Own} {nx:Nat} {u:Im}
 (Y:Lay α) (L:List α) (x:α) (i off:Nat) {t e k b:Nat} {ad:Addr} {A:Option Addr} {av sv:Operand} {ti:TI} {z:SV} {cs:List Value}
 (ho:o.op=.store t av sv) (hgd:o.guard=none) (hd:o.dst=none) (hti:look T t=some ti)
 (ha:opd ⟨kn,gk,ow,nx⟩ [] av=some (.v (.pointer (some ad)))) (hk:look ow k=some (.gen (clipR A e (Y.d L)))) (hA:A=some ⟨b,0,none⟩) (had:ad=⟨b,i*Y.fs.length+off,none⟩) (hi:i<L.length)
 (hz:opd ⟨kn,gk,ow,nx⟩ [] sv=some z) (hcs:cellsOf ti z=some (cs.map .v)) (hl:off+cs.length≤Y.fs.length)
 (hx:Y.el x=(Y.el (L.getD i Y.dft)).take off++cs++(Y.el (L.getD i Y.dft)).drop (off+cs.length))
 (K:XL C all r Q ⟨kn,gk,(k,.gen (clipR A e (Y.d (L.set i x))))::ow,nx⟩ u):XL C all (o::r) Q ⟨kn,gk,ow,nx⟩ u:=by
 subst had hA
 unfold XL at K ⊢
 intro E a w hok
 obtain⟨f,hsat⟩:=hok.sat
 have hgs:gs a.tmps []:=fun x hx=>by cases hx
 have hti':=hT _ _ hti
 obtain⟨e1,_⟩:=Al hok.agr hgs ha
 obtain⟨e2,e3⟩:=Al hok.agr hgs hz
 obtain⟨c1,_,c3,c4⟩:=cellsOf_spec hti' hcs e3
 have c3':(z.den E).cells=cs.toArray:=by rw[c3,List.map_map];simp[Function.comp_def,SV.den]
 have c4':∀y∈cs,oneB y=true:=fun y hy=>c4 y (by rw[List.map_map];simpa[Function.comp_def,SV.den]using hy)
 obtain⟨hF,hn0,hh⟩:=hsat.holds k _ hk
 obtain⟨_,k2,k3,cur,hg,htake⟩:=hh _ rfl
 rw[Lay.d_n,Lay.cs_length]at htake k3
 rw[Lay.d_n]at k2
 have hfl0:L.length*Y.fs.length≤cur.size:=by
  have h9:=congrArg List.length htake
  rw[k3,List.length_take,Array.length_toList]at h9
  have h10:min (L.length*Y.fs.length) cur.size=L.length*Y.fs.length:=h9
  rw[←h10];exact Nat.min_le_right _ _
 have hmul:(i+1) * Y.fs.length≤L.length*Y.fs.length:=Nat.mul_le_mul_right _ hi
 rw[Nat.add_mul,Nat.one_mul]at hmul
 obtain⟨w',h1,h2,h3,h4,h5,h6,h7⟩:=run_storeCells (P:=C.P) cs 0 (i*Y.fs.length+off) w _ hg c4' (by omega)
 simp only[Nat.add_zero]at h7
 have hrun:(execOp a.eval o).run C.P w=.ok .skip w':=by
  have hszz:(z.den E).cells.size=ti.sz:=by rw[c3'];simpa using c1
  simp only[SV.den]at e1
  simp only[execOp,ho,Instr.storeAt,e1,Instr.sureAddr,Sem.run_bind,Sem.run_pure,Result.andThen_ok,storeVar,Ca w hti',e2,hszz]
  rw[if_neg (by simp)]
  simp only[c3',h1,Result.andThen_ok]
 have hfl:=Lay.set_flat Y L i x hi off cs hl hx
 have hfk:f k b:=(hF b).2 ⟨_,rfl,rfl⟩
 have hres:(clipR (some ⟨b,0,none⟩) e (Y.d (L.set i x))).h u (f k) w':=by
  refine⟨hF,fun h=>(by cases h),fun ad had=>?_⟩
  cases had
  refine⟨rfl,by rw[Lay.d_n,List.length_set];exact k2,by rw[Lay.flat_length,Lay.d_n,Lay.cs_length],_,h7,?_⟩
  rw[Lay.d_n,Lay.cs_length,List.length_set,hfl,←htake]
  simp only[List.append_assoc]
  rw[List.take_append,List.take_append,List.take_take,List.take_take]
  simp only[List.length_take,Array.length_toList,List.drop_take]
  rw[Nat.min_eq_left (show i*Y.fs.length+off≤cur.size by omega)]
  rw[show min (L.length*Y.fs.length) (i*Y.fs.length+off)=i*Y.fs.length+off by omega,show min (i*Y.fs.length+off) (L.length*Y.fs.length)=i*Y.fs.length+off by omega]
  rw[List.take_of_length_le (show cs.length≤L.length*Y.fs.length-(i*Y.fs.length+off) by omega)]
  rw[show L.length*Y.fs.length-(i*Y.fs.length+off)-cs.length=L.length*Y.fs.length-(i*Y.fs.length+off+cs.length) by omega]
 have himm:Imm u w':=by
  refine⟨fun b' y hy=>?_,h3.trans hsat.imm.os,h4.trans hsat.imm.tape,h5.trans hsat.imm.output,by rw[h2];exact hsat.imm.lo⟩
  rw[h6 b' (fun e=>by rw[e,hsat.off k b hfk]at hy;cases hy)]
  exact hsat.imm.h b' y hy
 have hsat2:=hsat.genAt hk himm (Nat.le_of_eq h2.symm) (fun b' _ hb=>h6 b' (fun e=>hb (e▸hfk))) hres
 unfold wpListIn
 rw[if_pos (by simp[Region.wanted,hgd])]
 refine⟨fun _ _=>trivial,?_⟩
 rw[semAt_eq _ _ _ (fun c hc=>by rw[ho]at hc;cases hc),hrun,Oper.uponIn_skip,hd]
 exact K E a w' ⟨⟨hok.agr.size,hok.agr.kn,hok.agr.gk,hok.agr.klt,hok.agr.glt⟩,f,hsat2⟩
theorem Sat.freezeC {α:Type} {Y:Lay α} {L:List α} {E:Env} {o:Own} {nx:Nat} {u:Im} {df:List Deferred} {w:World} {f:Nat→Nat→Prop} (h:Sat E o nx u df w f) {k e:Nat} {A:Option Addr} (hk:look o k=some (.gen (clipR A e (Y.d L)))) :
 ∃u',u.le u'∧Aw u' (.slice A L.length L.length) (Y.d L)∧(∀ad,A=some ad→u.h ad.block=none∧ad.spot=none)∧Sat E ((k,.emp)::o) nx u' df w (upd f k (fun _=>False)):=by
 obtain⟨hF,hn0,hh⟩:=h.holds k _ hk
 have hoff:∀ad,A=some ad→u.h ad.block=none:=fun ad had=>h.off k _ ((hF _).2 ⟨ad,had,rfl⟩)
 let u':Im:={u with h:=fun x=>@ite _ (f k x) (Classical.propDecidable _) (w.heap[x]?) (u.h x)}
 have hin:∀x,f k x→u'.h x=w.heap[x]?:=fun x hx=>by
  show @ite _ (f k x) (Classical.propDecidable _) _ _=_
  rw[if_pos hx]
 have hout:∀x,¬f k x→u'.h x=u.h x:=fun x hx=>by
  show @ite _ (f k x) (Classical.propDecidable _) _ _=_
  rw[if_neg hx]
 have hle:u.le u':=⟨fun x y hx=>by
  rw[hout x (fun e=>by rw[h.off k x e]at hx;cases hx)];exact hx,rfl,rfl,rfl,rfl⟩
 have himm:Imm u' w:=⟨fun x y hx=>by
  by_cases hf:f k x
  rw[hin x hf]at hx;exact hx
  rw[hout x hf]at hx;exact h.imm.h x y hx,h.imm.os,h.imm.tape,h.imm.output,h.imm.lo⟩
 have hoth:∀j,j≠k→∀x,f j x→u'.h x=none:=fun j hj x hx=>by
  rw[hout x (fun e=>h.apart j k x hj hx e)];exact h.off j x hx
 refine⟨u',hle,?_,fun ad had=>⟨hoff ad had,by rw[(hh ad had).1]⟩,?_⟩
 cases hA:A with
 |none=>
  have hn:=hn0 hA
  rw[Lay.d_n]at hn
  rw[hn]
  exact⟨none,0,by rw[Lay.d_n,hn],by rw[Lay.d_n];omega,Nat.zero_le _,fun h=>by rw[Lay.d_n]at h;omega⟩
 |some ad=>
  obtain⟨k1,k2,k3,cur,k4,k5⟩:=hh ad hA
  refine⟨some ad,L.length,rfl,Nat.le_refl _,by rw[Lay.d_n]at k2;exact k2,fun hpos=>⟨ad,rfl,fun i hi j ff hff=>?_⟩⟩
  have hg:=flat_get (Y.d L) hi hff
  rw[←k5,List.getElem?_take]at hg
  split at hg
  have hb:=add_block ad (i * (Y.d L).cs.length+j)
  unfold Im.cell?
  rw[hb,hin ad.block ((hF _).2 ⟨ad,hA,rfl⟩),k4]
  rw[k1,addr_add0]
  simpa using hg
  cases hg
 refine⟨fun j r hr=>?_,fun j hr x hx=>?_,fun j j' x hne hx=>?_,fun j x hx=>?_,fun j r hr=>?_,himm,?_⟩
 rw[Ac]at hr
 split at hr
 rename_i e1;subst e1;cases hr;exact fun x hx=>by rw[Ak]at hx;exact hx
 rename_i e1
 rw[An _ _ (Ne.symm e1)]
 exact Rs.holds_mono hle himm (h.holds j r hr)
 rw[Ac]at hr
 split at hr
 cases hr
 rename_i e1
 rw[An _ _ (Ne.symm e1)]at hx
 exact h.non j hr x hx
 by_cases hj:j=k
 subst hj;rw[Ak]at hx;exact hx.elim
 rw[An _ _ hj]at hx
 by_cases hj':j'=k
 subst hj';rw[Ak];exact id
 rw[An _ _ hj'];exact h.apart j j' x hne hx
 by_cases hj:j=k
 subst hj;rw[Ak]at hx;exact hx.elim
 rw[An _ _ hj]at hx;exact hoth j hj x hx
 rw[Ac]at hr
 split at hr
 rename_i e1;subst e1;cases hr;exact⟨(h.lt k _ hk).1,trivial⟩
 exact h.lt j r hr
 obtain⟨ds,q1,q2,q3⟩:=h.marks
 refine⟨ds,q1,q2,fun d hd=>?_⟩
 obtain⟨q4,q5,q6⟩:=q3 d hd
 refine⟨q4,?_,fun j hj=>?_⟩
 rw[hout d (fun e=>q6 k e)];exact q5
 by_cases hjk:j=k
 subst hjk;rw[Ak]at hj;exact hj
 rw[An _ _ hjk]at hj;exact q6 j hj
theorem xl_freezeC {α:Type} {Y:Lay α} {L:List α} {C:Cx} {all l:List Oper} {Q:Bb} {kn:Kn} {gk:List (Nat×(Gd×SV))} {ow:Own} {nx:Nat} {u:Im} (k:Nat) {e:Nat} {A:Option Addr} (hk:look ow k=some (.gen (clipR A e (Y.d L))))
 (K:∀u',u.le u'→Aw u' (.slice A L.length L.length) (Y.d L)→(∀ad,A=some ad→u.h ad.block=none∧ad.spot=none)→XL C all l Q ⟨kn,gk,(k,.emp)::ow,nx⟩ u'):XL C all l Q ⟨kn,gk,ow,nx⟩ u:=by
 unfold XL at K ⊢
 intro E a w hok
 obtain⟨f,hsat⟩:=hok.sat
 obtain⟨u',hu,hsl,hnew,hsat'⟩:=hsat.freezeC hk
 have:=K u' hu hsl hnew E a w ⟨⟨hok.agr.size,hok.agr.kn,hok.agr.gk,hok.agr.klt,hok.agr.glt⟩,_,hsat'⟩
 exact Av (fun e a w=>Cd.mono (fun _ _=>rfl) (Nat.le_refl _) hu) _ _ _ this
end Go.GV
namespace Go.Proofs.YtnjlkdhdinfejaaGreat
open Go.GV Go.RowKit
theorem addr_two (b m n:Nat):((⟨b,0,none⟩:Addr).add m).add n=⟨b,m+n,none⟩:=by rw[addr_addN,addr_add0]
theorem hideAllC_scx {u0:Im} {T:List TV} {X:List XT} {p:Option Addr} {m:Nat} {A:Option Addr} (hA0:A=none→T.length=0) (hA1:∀ad,A=some ad→ad=⟨ad.block,0,none⟩) (hT:TksR u0 T X) (hp:Bk u0 p m) (hz:T.length≤1000000000) :
 SCX Tryz.prog 75 u0 1 [(0,.gen (clipR A 87 (tvY.d T)))] [.v (.slice A T.length T.length),.v (.pointer p)] (fun L:List TV=>([(0,.gen (clipR A 87 (tvY.d L)))],1,[])) (fun L=>L.length=T.length) (fun L u=>TksR u L (X.map (hideX m))):=by
 refine x_scx Aa Tryz.func75 O O O O (fun us hus=>?_)
 refine Ao Aa ?_
 refine Br (σ:=Nat×List TV×Option Addr×Option Addr) (fun(i,L,a,b)=>⟨[(10,.v (.int .i64 (i:Int))),(9,.v (.int .i64 ((T.length:Nat):Int))),(5,.v (.pointer b)),(4,.v (.pointer a)),(0,.v (.slice A T.length T.length)),(1,.v (.pointer p))],[],[(0,.gen (clipR A 87 (tvY.d L)))],1⟩)
  (fun(i,L,a,b) u=>i≤T.length∧L.length=T.length∧L.drop i=T.drop i∧Nw u0 (dif us u) (fun v=>TksR v (L.take i) ((X.take i).map (hideX m)))∧(0<i→∃n,Bk u0 a n∧Nw u0 (dif us u) (fun v=>Bk v b (n ||| m))))
  (fun(i,_,_,_)=>T.length-i) (fun _=>Nat.le_refl _) (0,T,none,none) [] .z ⟨Nat.zero_le _,rfl,rfl,fun _ _ _=>trivial,fun h=>by omega⟩ ?_
 rintro⟨i,L,a,b⟩ u hu ⟨g1,g2,g3,g4,g5⟩
 have hsub:u0.sub u:=hus.trans hu.sub
 refine Ao Aa ?_
 refine Ap (fun h1=>?_) (fun h1=>?_)
 have h1:(i:Int)<((T.length:Nat):Int):=of_decide_eq_true h1
 obtain⟨t,ht⟩:∃t,T[i]?=some t:=⟨_,List.getElem?_eq_getElem (by omega)⟩
 obtain⟨x,hx,htx⟩:=hT.get ht
 have hLi:L.getD i tv0=t:=by
  have:L[i]?=T[i]?:=by
   have:=congrArg (fun l=>l[0]?) g3
   simp only[List.getElem?_drop,Nat.add_zero]at this
   exact this
  rw[List.getD_eq_getElem?_getD,this,ht];rfl
 have hLj:L.getD ((i:Nat):Int).toNat tvY.dft=t:=by rw[Int.toNat_natCast];exact hLi
 have hdrop:∀y,(L.set i y).drop (i+1)=T.drop (i+1):=fun y=>by
  rw[List.drop_set_of_lt (Nat.lt_succ_self i)]
  have:=congrArg (fun l=>l.drop 1) g3
  simp only[List.drop_drop]at this
  exact this
 obtain⟨bb,rfl⟩:∃bb,A=some ⟨bb,0,none⟩:=by
  cases A with
  |none=>have:=hA0 rfl;omega
  |some ad=>exact⟨ad.block,by rw[←hA1 ad rfl]⟩
 have hLi2:L.getD i tvY.dft=t:=hLi
 have hiL:i<L.length:=by omega
 have had:((⟨bb,0,none⟩:Addr).add (((i:Nat):Int).toNat*ti87.sz)).add 4=⟨bb,i*tvY.fs.length+4,none⟩:=by rw[addr_two,Int.toNat_natCast];rfl
 refine xl_idxV Aa O O O O O O O O O (fun _=>⟨by omega,by omega⟩) ?_
 refine Cl Aa O O O O O O O ?_
 refine xl_loadC (k:=0) Aa tvY L i 4 (.pointer t.hp) O O O O O O O O O had hiL (by rw[hLi2];rfl) ?_
 refine Ab Aa ?_
 by_cases hi:i=0
 refine xl_skip 20 (.bool false) O O O O O (by rw[hi];decide) ?_
 refine Ab Aa ?_
 refine Be (by rw[hi];decide) ?_
 refine Ar (fun v u1=>∃p',v=.pointer p'∧Nw u0 u1 (fun u'=>Bk u' p' (x.hide ||| m))) rfl rfl rfl rfl fn108 rfl rfl (fun E w' F hs=>by
  have h9:=either_any t.hp p x.hide m u0 w' (hsub.trans (Au hs.imm)) htx.hide hp
  exact h9) (fun v u1 u2 hu2 hn hR=>?_)
 obtain⟨b',rfl,hb'⟩:=hR
 have hb2:Nw u0 (dif us u2) (fun v=>Bk v b' (x.hide ||| m)):=hb'.sub ⟨fun y o hy=>by
  have h8:=hn.h y o hy
  have h8:(match u.h y with|some _=>none|none=>u2.h y)=some o:=h8
  cases huy:u.h y with
  |some z=>rw[huy]at h8;cases h8
  |none=>
   rw[huy]at h8
   refine dif_new ?_ h8
   cases hsy:us.h y with
   |none=>rfl
   |some z=>rw[hu.h y z hsy]at huy;cases huy⟩
 refine Ab Aa ?_
 refine xl_idxV Aa O O O O O O O O O (fun _=>⟨by omega,by omega⟩) ?_
 refine Cl Aa O O O O O O O ?_
 refine xl_storeC (k:=0) Aa tvY L ⟨t.pv,b'⟩ i 4 (cs:=[.pointer b']) O O O O O O O had hiL O O (Nat.le_refl 5) (by rw[hLi2];rfl) ?_
 refine Ab Aa ?_
 repeat refine sdI ?_
 exact Bj (i+1,L.set i ⟨t.pv,b'⟩,t.hp,b') [] .z ⟨by omega,by rw[List.length_set];exact g2,hdrop _,hid_step g4 hu2.sub hx htx (by omega) hb2,fun _=>⟨x.hide,htx.hide,hb2⟩⟩ (by show T.length-(i+1)<T.length-i;omega)
 obtain⟨n,ha,hb⟩:=g5 (by omega)
 refine xl_binV (.bool (!decide (t.hp=a))) O O O O O O (fun w=>eqGuardP _ _ _ _ _ _ w) (fun _ w hw'=>run_neP rfl (Aa 203 _ rfl) (by decide) hw' (htx.hide.blk.sub hsub) (ha.blk.sub hsub)) ?_
 refine Ab Aa ?_
 refine Ap (fun h2=>?_) (fun h2=>?_)
 refine Ar (fun v u1=>∃p',v=.pointer p'∧Nw u0 u1 (fun u'=>Bk u' p' (x.hide ||| m))) rfl rfl rfl rfl fn108 rfl rfl (fun E w' F hs=>by
  have h9:=either_any t.hp p x.hide m u0 w' (hsub.trans (Au hs.imm)) htx.hide hp
  exact h9) (fun v u1 u2 hu2 hn hR=>?_)
 obtain⟨b',rfl,hb'⟩:=hR
 have hb2:Nw u0 (dif us u2) (fun v=>Bk v b' (x.hide ||| m)):=hb'.sub ⟨fun y o hy=>by
  have h8:=hn.h y o hy
  have h8:(match u.h y with|some _=>none|none=>u2.h y)=some o:=h8
  cases huy:u.h y with
  |some z=>rw[huy]at h8;cases h8
  |none=>
   rw[huy]at h8
   refine dif_new ?_ h8
   cases hsy:us.h y with
   |none=>rfl
   |some z=>rw[hu.h y z hsy]at huy;cases huy⟩
 refine Ab Aa ?_
 refine xl_idxV Aa O O O O O O O O O (fun _=>⟨by omega,by omega⟩) ?_
 refine Cl Aa O O O O O O O ?_
 refine xl_storeC (k:=0) Aa tvY L ⟨t.pv,b'⟩ i 4 (cs:=[.pointer b']) O O O O O O O had hiL O O (Nat.le_refl 5) (by rw[hLi2];rfl) ?_
 refine Ab Aa ?_
 repeat refine sdI ?_
 exact Bj (i+1,L.set i ⟨t.pv,b'⟩,t.hp,b') [] .z ⟨by omega,by rw[List.length_set];exact g2,hdrop _,hid_step g4 hu2.sub hx htx (by omega) hb2,fun _=>⟨x.hide,htx.hide,hb2⟩⟩ (by show T.length-(i+1)<T.length-i;omega)
 have h2:(decide ((i:Int)=0)||!decide (t.hp=a))=false:=h2
 simp only[Bool.or_eq_false_iff,Bool.not_eq_false',decide_eq_true_eq]at h2
 have hea:t.hp=a:=h2.2
 have hn:n=x.hide:=ha.uniq (hea▸htx.hide)
 subst hn
 refine xl_idxV Aa O O O O O O O O O (fun _=>⟨by omega,by omega⟩) ?_
 refine Cl Aa O O O O O O O ?_
 refine xl_storeC (k:=0) Aa tvY L ⟨t.pv,b⟩ i 4 (cs:=[.pointer b]) O O O O O O O had hiL O O (Nat.le_refl 5) (by rw[hLi2];rfl) ?_
 refine Ab Aa ?_
 repeat refine sdI ?_
 exact Bj (i+1,L.set i ⟨t.pv,b⟩,a,b) [] .z ⟨by omega,by rw[List.length_set];exact g2,hdrop _,hid_step g4 ⟨fun _ _ h=>h⟩ hx htx (by omega) hb,fun _=>⟨x.hide,ha,hb⟩⟩ (by show T.length-(i+1)<T.length-i;omega)
 have h1:¬(i:Int)<((T.length:Nat):Int):=of_decide_eq_false h1
 have hl:=hT.len
 refine⟨L,[],rfl,.of O O O O O rfl,rfl,Nat.le_refl _,g2,?_⟩
 rw[List.take_of_length_le (by omega),List.take_of_length_le (by omega)]at g4
 exact g4
end Go.Proofs.YtnjlkdhdinfejaaGreat
namespace Go.GV
open Go.RowKit
theorem Sat.starMoreP {E:Env} {o:Own} {nx:Nat} {u:Im} {df:List Deferred} {w:World} {f:Nat→Nat→Prop} (h:Sat E o nx u df w f) {s:Nat} {l:List SI} (hs:look o s=some (.gen (Bx l))) (q:SI) (hqo:q.own w) (hqn:q.x.ownBlock=none) :
 Sat E ((s,.gen (Bx (l++[q])))::o) nx u df w f:=by
 obtain⟨h1,h2,h3⟩:=h.holds s _ hs
 refine h.regroup (fun j=>j=s) (fun _ _=>rfl) (Nat.le_refl _) ?_ ?_ ?_
 intro j hj
 exact⟨by rw[Ac,if_neg (fun e=>hj e.symm)],fun _=>Iff.rfl⟩
 rintro j rfl
 refine⟨fun r hr=>?_,fun hr=>?_,fun b hb=>⟨j,rfl,hb⟩⟩
 rw[Ac,if_pos rfl]at hr
 cases hr
 refine⟨⟨fun p hp=>?_,?_,fun b=>?_⟩,(h.lt j _ hs).1,trivial⟩
 rcases List.mem_append.1 hp with hp|hp
 exact h1 p hp
 rw[List.mem_singleton.1 hp];exact hqo
 rw[starDis_at,List.append_nil]
 exact⟨h2,fun q' _ b hb=>by rw[hqn]at hb;cases hb⟩
 rw[starF_at,List.append_nil,h3,hqn];simp
 rw[Ac,if_pos rfl]at hr;cases hr
 intro k k' b hk hk' hne;subst hk hk';exact absurd rfl hne
end Go.GV
namespace Go.Proofs.YtnjlkdhdinfejaaGreat
open Go.GV Go.RowKit
def SlR.val (s:SlR):Value:=.slice s.A s.n s.c
def slr0:SlR:=⟨none,0,0⟩
structure AV where
 vw:Vw
 wh:SlR
 ex:SlR
 pa:SlR
 tk:Bool
 ly:Bool
def av0:AV:=⟨vw0,slr0,slr0,slr0,false,false⟩
def argY:Lay AV:=⟨[fun a=>.pointer a.vw.p,fun a=>.int .i64 a.vw.k,fun a=>.pointer a.vw.q,fun a=>.int .i64 a.vw.j,fun a=>.slice a.wh.A a.wh.n a.wh.c,fun a=>.slice a.ex.A a.ex.n a.ex.c,fun a=>.slice a.pa.A a.pa.n a.pa.c,fun a=>.bool a.tk,fun a=>.bool a.ly],av0⟩
def layX (X:List XT):Bool:=X.any (fun x=>layB x.kind)
structure ArgOk (u:Im) (a:AV) (X:List XT):Prop where
 vw:VwX u a.vw X
 no:a.tk=false→a.wh=slr0∧a.pa=slr0∧a.ly=false
 yes:a.tk=true→(∃T,Aw u (.slice a.wh.A T.length a.wh.c) (tvY.d T)∧a.wh.n=T.length∧TksR u T X)∧Aw u (.slice a.pa.A X.length a.pa.c) (Bh.d (X.map (·.text)))∧a.pa.n=X.length∧a.ly=layX X
theorem ArgOk.sub {u u':Im} {a:AV} {X:List XT} (h:ArgOk u a X) (hu:u.sub u'):ArgOk u' a X:=⟨h.vw.sub hu,h.no,fun ht=>by
 obtain⟨⟨T,h1,h2,h3⟩,h4,h5,h6⟩:=h.yes ht
 exact⟨⟨T,h1.sub hu,h2,h3.sub hu⟩,h4.sub hu,h5,h6⟩⟩
theorem strOneE:∀x:ByteArray,∀y∈Bh.el x,oneB y=true:=by
 intro t y hy
 rw[show Bh.el t=[.string t]from rfl]at hy
 simp only[List.mem_cons,List.not_mem_nil,or_false]at hy
 subst hy;rfl
theorem x_starNil {α:Type} {C:Cx} {cc:Code} {Q:Bb} {kn:Kn} {gk:List (Nat×(Gd×SV))} {ow:GV.Own} {nx:Nat} {u:Im} (s:Nat) (e:TypeId) (Y:Lay α) {sl:List SI} (hs:GV.look ow s=some (.gen (Bx sl)))
 (K:X C cc Q ⟨kn,gk,(s,.gen (Bx (sl++[⟨.slice none 0 0,e,Y.d []⟩])))::ow,nx⟩ u):X C cc Q ⟨kn,gk,ow,nx⟩ u:=by
 unfold X at K ⊢
 intro E a w hok
 obtain⟨f,hsat⟩:=hok.sat
 exact K E a w ⟨⟨hok.agr.size,hok.agr.kn,hok.agr.gk,hok.agr.klt,hok.agr.glt⟩,_,hsat.starMoreP hs _ ⟨by rw[GV.flat_length],.inl ⟨rfl,rfl⟩⟩ rfl⟩
theorem take_scx {u0:Im} {L:List AV} {i:Nat} {a:AV} {X:List XT} (ha:L[i]?=some a) (hok:ArgOk u0 a X) (hz:X.length≤1000000) (hL:L.length≤1000000) :
 SCX Tryz.prog 135 u0 1 [(0,.row 206 (argY.d L))] [.e 0 9 (i:Int) 0] (fun a':AV=>([(0,.row 206 (argY.d (L.set i a')))],1,[])) (fun a'=>a'.tk=true∧a'.vw=a.vw∧a'.ex=a.ex) (fun a' u=>ArgOk u a' X):=by
 have hiL:i<L.length:=(List.getElem?_eq_some_iff.1 ha).1
 have hDL:(argY.d L).n=L.length:=Lay.d_n _ _
 have hg:L.getD ((i:Nat):Int).toNat argY.dft=a:=by rw[Int.toNat_natCast,List.getD_eq_getElem?_getD,ha];rfl
 refine x_scx Aa Tryz.func135 O O O (by
  show(argLtX _ 1 (.e 0 9 (i:Int) 0)&&true)=true
  rw[show argLtX [(0,Rs.row 206 (argY.d L))] 1 (.e 0 9 (i:Int) 0)=(decide ((0:Int)≤(i:Int))&&decide ((i:Int)<((argY.d L).n:Int)))from rfl,decide_eq_true (by omega),decide_eq_true (by omega)];rfl) (fun us hus=>?_)
 refine Ao Aa ?_
 repeat refine sdI ?_
 refine Ap (fun h1=>?_) (fun h1=>?_)
 have h1:(L.getD ((i:Nat):Int).toNat argY.dft).tk=true:=h1
 rw[hg]at h1
 refine⟨a,[],rfl,?_,rfl,Nat.le_refl _,⟨h1,rfl,rfl⟩,fun v x _=>hok.sub x⟩
 show Sub 1 _ _ ⟨_,[],[(0,.row 206 (argY.d (L.set i a)))],1⟩
 rw[show L.set i a=L from by
  obtain⟨h,rfl⟩:=List.getElem?_eq_some_iff.1 ha
  exact List.set_getElem_self h]
 exact .of O O O O O O
 have h1:(L.getD ((i:Nat):Int).toNat argY.dft).tk=false:=h1
 rw[hg]at h1
 obtain⟨n1,n2,n3⟩:=hok.no h1
 obtain⟨P,n,k1,k2,k3,k4⟩:=id hok.vw
 have hvw:=hok.vw
 clear hok
 obtain⟨avw,awh,aex,apa,atk,aly⟩:=a
 simp only at n1 n2 n3 h1 k1 k2 hvw
 subst n1 n2 n3 h1
 have hXl:X.length=n:=by rw[←k4.len,List.length_take];omega
 have k1':Ck u0 (L.getD ((i:Nat):Int).toNat argY.dft).vw.p (L.getD ((i:Nat):Int).toNat argY.dft).vw.k P:=by rw[hg];exact k1
 have k2':Ck u0 (L.getD ((i:Nat):Int).toNat argY.dft).vw.q (L.getD ((i:Nat):Int).toNat argY.dft).vw.j (Cc n P):=by rw[hg];exact k2
 refine xl_callO 87 (tvY.d ((Bi P).take n)) O O O O fn157 O O (fun E w F hs=>tokens_any k1' k2' k3 (by omega) w (hus.trans (Au hs.imm))) ?_
 refine Ax 1 rfl (fun A1 c1 u1 hu1 hA1 hA1n=>?_)
 obtain⟨T,hT⟩:∃T,T=(Bi P).take n:=⟨_,rfl⟩
 rw[←hT]at k4 hA1 ⊢
 have hTl:T.length=X.length:=k4.len
 have hDT:(tvY.d T).n=T.length:=Lay.d_n _ _
 refine Ab Aa ?_
 have set1:∀y:AV,(L.set i y).getD ((i:Nat):Int).toNat argY.dft=y:=fun y=>by
  rw[Int.toNat_natCast,List.getD_eq_getElem?_getD,List.getElem?_set_self hiL];rfl
 let mk:SlR→Bool→AV:=fun pa ly=>⟨avw,⟨A1,(tvY.d T).n,c1⟩,aex,pa,true,ly⟩
 refine Bv Aa argY L ⟨avw,slr0,aex,slr0,true,false⟩ (cs:=[.bool true]) O O O O O O O (by omega) (by omega) O O (by show 7+1≤9;omega) (by rw[hg];rfl) ?_
 rw[Int.toNat_natCast]
 refine Ab Aa ?_
 refine Bv Aa argY (L.set i ⟨avw,slr0,aex,slr0,true,false⟩) (mk slr0 false) (cs:=[.slice A1 (tvY.d T).n c1]) O O O O O O O (by omega) (by rw[List.length_set];omega) O O (by show 4+1≤9;omega) (by rw[set1];rfl) ?_
 rw[Int.toNat_natCast,List.set_set]
 refine Ab Aa ?_
 refine x_sl (x:=.slice ((L.set i (mk slr0 false)).getD ((i:Nat):Int).toNat argY.dft).wh.A ((L.set i (mk slr0 false)).getD ((i:Nat):Int).toNat argY.dft).wh.n ((L.set i (mk slr0 false)).getD ((i:Nat):Int).toNat argY.dft).wh.c) 22 rfl (by rw[set1];exact hA1) ?_
 refine x_star0 0 ?_
 refine x_starNil 3 9 Bh rfl ?_
 refine Br (σ:=Nat×SlR×Bool) (fun(j,pa,ly)=>⟨[(24,.v (.int .i64 (j:Int))),(23,.v (.int .i64 (((L.set i (mk slr0 false)).getD ((i:Nat):Int).toNat argY.dft).wh.n:Int))),(22,.r 2),(0,.e 0 9 (i:Int) 0)],[],
  [(0,.row 206 (argY.d (L.set i (mk pa ly)))),(2,.sl (tvY.d T)),(3,.gen (Bx [⟨.slice pa.A pa.n pa.c,9,Bh.d ((X.map (·.text)).take j)⟩]))],4⟩)
  (fun(j,pa,ly) _=>j≤T.length∧pa.n=j∧ly=layX (X.take j)) (fun(j,_,_)=>T.length-j) (fun _=>Nat.le_refl _) (0,slr0,false) [] .z ⟨Nat.zero_le _,rfl,rfl⟩ ?_
 rintro⟨j,pa,ly⟩ u hu ⟨g1,g2,g3⟩
 rw[set1]
 refine Az (Ao Aa ?_)
 refine Az ?_
 refine x_cond (b:=decide ((j:Int)<((tvY.d T).n:Int))) rfl (fun h2=>?_) (fun h2=>?_)
 have h2:(j:Int)<((tvY.d T).n:Int):=of_decide_eq_true h2
 refine Ao Aa ?_
 refine Ao Aa ?_
 obtain⟨t,ht⟩:∃t,T[j]?=some t:=⟨_,List.getElem?_eq_getElem (by omega)⟩
 obtain⟨x,hx,htx⟩:=k4.get ht
 have htg:T.getD ((j:Nat):Int).toNat tvY.dft=t:=by rw[Int.toNat_natCast,List.getD_eq_getElem?_getD,ht];rfl
 have htk:(X.map (·.text)).take j++[(T.getD ((j:Nat):Int).toNat tvY.dft).pv.text]=(X.map (·.text)).take (j+1):=by
  rw[htg,Cj (show(X.map (·.text))[j]?=some x.text by rw[List.getElem?_map,hx];rfl),htx.text]
 repeat refine sdI ?_
 refine x_via (σ:=SlR) (fun pa'=>⟨[(24,.v (.int .i64 (j:Int))),(23,.v (.int .i64 ((tvY.d T).n:Int))),(22,.r 2),(0,.e 0 9 (i:Int) 0),(3,.p 4 0)],[],
  [(0,.row 206 (argY.d (L.set i (mk pa' ly)))),(2,.sl (tvY.d T)),(3,.gen (Bx [⟨.slice pa'.A pa'.n pa'.c,9,Bh.d ((X.map (·.text)).take j++[(T.getD ((j:Nat):Int).toNat tvY.dft).pv.text])⟩])),(4,.box 87 ((tkC (T.getD ((j:Nat):Int).toNat tvY.dft)).map .v))],5⟩)
  (fun pa' _=>pa'.n=(Bh.d ((X.map (·.text)).take j++[(T.getD ((j:Nat):Int).toNat tvY.dft).pv.text])).n) (fun _=>Nat.le_refl _) ?_ ?_
 refine Bw mix ?_
 refine At Aa (fuel:=7) [0,1,5,2,6,3] rfl (by kernel_rfl) (by kernel_rfl) (fun _ _ _ hh=>hh) (by kernel_rfl) (by kernel_rfl) ?_
 refine Aq 4 7 (by kernel_rfl) O O ?_ ?_
 refine Ab Aa ?_
 refine Ae (fuel:=5) [7] O O (by kernel_rfl) (Ab Aa ?_)
 refine Ag 8 (by kernel_rfl) rfl ?_
 refine As Aa Bh [(T.getD ((j:Nat):Int).toNat tvY.dft).pv.text] [_] O O O O O O O O O O O O O O O ?_
 refine Ad ?_
 refine Ag 9 (by kernel_rfl) rfl ?_
 refine xl_eqv 32 (.slice pa.A pa.n pa.c) rfl (by show(Value.slice ((L.set i (mk pa ly)).getD ((i:Nat):Int).toNat argY.dft).pa.A ((L.set i (mk pa ly)).getD ((i:Nat):Int).toNat argY.dft).pa.n ((L.set i (mk pa ly)).getD ((i:Nat):Int).toNat argY.dft).pa.c)=_;rw[set1]) ?_
 refine xl_unpark (p:=⟨.slice pa.A pa.n pa.c,9,Bh.d ((X.map (·.text)).take j)⟩) 32 3 0 O O O ?_
 refine Bm Aa Bh ((X.map (·.text)).take j) [(T.getD ((j:Nat):Int).toNat tvY.dft).pv.text] 16 O O O O O O O O (by kernel_rfl) O O O (fun E w F hs=>hs.rowAt (k:=5) rfl) strOneE rfl (by rw[List.length_take,List.length_singleton];omega) (by rw[List.length_take,List.length_singleton];omega) ?_
 refine Ad ?_
 refine Ae (fuel:=1) [10,11] O O (by kernel_rfl) (Ab Aa ?_)
 refine Ag 12 (by kernel_rfl) rfl ?_
 refine xl_park 7 3 0 O O O O (fun A' c'=>?_)
 refine Bv Aa argY (L.set i (mk pa ly)) (mk ⟨A',(Bh.d ((X.map (·.text)).take j++[(T.getD ((j:Nat):Int).toNat tvY.dft).pv.text])).n,c'⟩ ly) (cs:=[.slice A' (Bh.d ((X.map (·.text)).take j++[(T.getD ((j:Nat):Int).toNat tvY.dft).pv.text])).n c']) O O O O O O O (by omega) (by rw[List.length_set];omega) O O (by show 6+1≤9;omega) (by rw[set1];rfl) ?_
 rw[Int.toNat_natCast i,List.set_set]
 refine Ad ?_
 refine Aj (by kernel_rfl) rfl ?_
 exact Af ⟨A',(Bh.d ((X.map (·.text)).take j++[(T.getD ((j:Nat):Int).toNat tvY.dft).pv.text])).n,c'⟩ [] .z rfl
 refine Ab Aa ?_
 refine Aq 4 8 (by kernel_rfl) O O ?_ ?_
 refine Ab Aa ?_
 refine Ag 8 (by kernel_rfl) rfl ?_
 refine As Aa Bh [(T.getD ((j:Nat):Int).toNat tvY.dft).pv.text] [_] O O O O O O O O O O O O O O O ?_
 refine Ad ?_
 refine Ag 9 (by kernel_rfl) rfl ?_
 refine xl_eqv 32 (.slice pa.A pa.n pa.c) rfl (by show(Value.slice ((L.set i (mk pa ly)).getD ((i:Nat):Int).toNat argY.dft).pa.A ((L.set i (mk pa ly)).getD ((i:Nat):Int).toNat argY.dft).pa.n ((L.set i (mk pa ly)).getD ((i:Nat):Int).toNat argY.dft).pa.c)=_;rw[set1]) ?_
 refine xl_unpark (p:=⟨.slice pa.A pa.n pa.c,9,Bh.d ((X.map (·.text)).take j)⟩) 32 3 0 O O O ?_
 refine Bm Aa Bh ((X.map (·.text)).take j) [(T.getD ((j:Nat):Int).toNat tvY.dft).pv.text] 16 O O O O O O O O (by kernel_rfl) O O O (fun E w F hs=>hs.rowAt (k:=5) rfl) strOneE rfl (by rw[List.length_take,List.length_singleton];omega) (by rw[List.length_take,List.length_singleton];omega) ?_
 refine Ad ?_
 refine Ae (fuel:=1) [10,11] O O (by kernel_rfl) (Ab Aa ?_)
 refine Ag 12 (by kernel_rfl) rfl ?_
 refine xl_park 7 3 0 O O O O (fun A' c'=>?_)
 refine Bv Aa argY (L.set i (mk pa ly)) (mk ⟨A',(Bh.d ((X.map (·.text)).take j++[(T.getD ((j:Nat):Int).toNat tvY.dft).pv.text])).n,c'⟩ ly) (cs:=[.slice A' (Bh.d ((X.map (·.text)).take j++[(T.getD ((j:Nat):Int).toNat tvY.dft).pv.text])).n c']) O O O O O O O (by omega) (by rw[List.length_set];omega) O O (by show 6+1≤9;omega) (by rw[set1];rfl) ?_
 rw[Int.toNat_natCast i,List.set_set]
 refine Ad ?_
 refine Aj (by kernel_rfl) rfl ?_
 exact Af ⟨A',(Bh.d ((X.map (·.text)).take j++[(T.getD ((j:Nat):Int).toNat tvY.dft).pv.text])).n,c'⟩ [] .z rfl
 refine As Aa Bh [(T.getD ((j:Nat):Int).toNat tvY.dft).pv.text] [_] O O O O O O O O O O O O O O O ?_
 refine Ad ?_
 refine Ae (fuel:=4) [4] O O (by kernel_rfl) (Ab Aa ?_)
 refine Ag 9 (by kernel_rfl) rfl ?_
 refine xl_eqv 32 (.slice pa.A pa.n pa.c) rfl (by show(Value.slice ((L.set i (mk pa ly)).getD ((i:Nat):Int).toNat argY.dft).pa.A ((L.set i (mk pa ly)).getD ((i:Nat):Int).toNat argY.dft).pa.n ((L.set i (mk pa ly)).getD ((i:Nat):Int).toNat argY.dft).pa.c)=_;rw[set1]) ?_
 refine xl_unpark (p:=⟨.slice pa.A pa.n pa.c,9,Bh.d ((X.map (·.text)).take j)⟩) 32 3 0 O O O ?_
 refine Bm Aa Bh ((X.map (·.text)).take j) [(T.getD ((j:Nat):Int).toNat tvY.dft).pv.text] 16 O O O O O O O O (by kernel_rfl) O O O (fun E w F hs=>hs.rowAt (k:=5) rfl) strOneE rfl (by rw[List.length_take,List.length_singleton];omega) (by rw[List.length_take,List.length_singleton];omega) ?_
 refine Ad ?_
 refine Ae (fuel:=1) [10,11] O O (by kernel_rfl) (Ab Aa ?_)
 refine Ag 12 (by kernel_rfl) rfl ?_
 refine xl_park 7 3 0 O O O O (fun A' c'=>?_)
 refine Bv Aa argY (L.set i (mk pa ly)) (mk ⟨A',(Bh.d ((X.map (·.text)).take j++[(T.getD ((j:Nat):Int).toNat tvY.dft).pv.text])).n,c'⟩ ly) (cs:=[.slice A' (Bh.d ((X.map (·.text)).take j++[(T.getD ((j:Nat):Int).toNat tvY.dft).pv.text])).n c']) O O O O O O O (by omega) (by rw[List.length_set];omega) O O (by show 6+1≤9;omega) (by rw[set1];rfl) ?_
 rw[Int.toNat_natCast i,List.set_set]
 refine Ad ?_
 refine Aj (by kernel_rfl) rfl ?_
 exact Af ⟨A',(Bh.d ((X.map (·.text)).take j++[(T.getD ((j:Nat):Int).toNat tvY.dft).pv.text])).n,c'⟩ [] .z rfl
 rintro pa' u5 hu5 hpa'
 rw[htk,htg]at *
 have hpn:pa'.n=j+1:=by
  rw[hpa',Lay.d_n,List.length_take,List.length_map];omega
 have hly:layX (X.take (j+1))=(ly||layB x.kind):=by
  rw[g3];unfold layX
  rw[Cj hx,List.any_append];simp
 refine Bt (.bool (layB x.kind)) O O O O fn136 O O (fun _ E w F _=>by rw[←htx.kind];exact layout_any _ w) ?_
 refine Ab Aa ?_
 refine Bv Aa argY (L.set i (mk pa' ly)) (mk pa' (ly||layB x.kind)) (cs:=[.bool (((L.set i (mk pa' ly)).getD ((i:Nat):Int).toNat argY.dft).ly||layB x.kind)]) rfl rfl rfl rfl rfl rfl rfl (by omega) (by rw[List.length_set];omega) rfl rfl (by show 8+1≤9;omega) (by rw[set1];rfl) ?_
 rw[Int.toNat_natCast i,List.set_set]
 refine Ab Aa ?_
 repeat refine sdI ?_
 exact Bj (j+1,pa',ly||layB x.kind) [] .z ⟨by omega,hpn,hly.symm⟩ (by show T.length-(j+1)<T.length-j;omega)
 have h2:¬(j:Int)<((tvY.d T).n:Int):=of_decide_eq_false h2
 obtain rfl:j=T.length:=by omega
 rw[List.take_of_length_le (by omega)]at g3
 rw[show(X.map (·.text)).take T.length=X.map (·.text)from List.take_of_length_le (by rw[List.length_map];omega)]
 refine x_freezeStar 3 rfl (fun u7 hu7 hfz=>?_)
 refine Ao Aa ?_
 obtain⟨f1,f2⟩:=hfz ⟨.slice pa.A pa.n pa.c,9,Bh.d (X.map (·.text))⟩ (List.mem_singleton.2 rfl)
 have hus7:us.sub u7:=((hu1.trans hu).trans hu7).sub
 refine⟨mk pa ly,[],rfl,.of O O O O O rfl,rfl,Nat.le_refl _,⟨rfl,rfl,rfl⟩,fun v a b=>⟨hvw.sub a,fun h=>(by cases h),fun _=>⟨⟨T,?_,hDT,k4.sub a⟩,?_,by rw[←hTl];exact g2,g3⟩⟩⟩
 have:=(hA1.difOf (us:=us) (fun ad had=>(hA1n ad had).1)).sub ((Ba (hu.trans hu7).sub).trans b)
 rw[hDT]at this
 exact this
 have f1:Aw u7 (.slice pa.A pa.n pa.c) (Bh.d (X.map (·.text))):=f1
 have:=(f1.difOf (us:=us) (fun ad had=>dif_none ((hu1.trans hu).sub) (f2 ad.block (by rw[had];rfl)))).sub b
 rw[g2,hTl]at this
 exact this
def TksAt (u:Im) (s:SlR) (X:List XT):Prop:=∃T,Aw u (.slice s.A T.length s.c) (tvY.d T)∧s.n=T.length∧TksR u T X
theorem TksAt.sub {u u':Im} {s:SlR} {X:List XT} (h:TksAt u s X) (hu:u.sub u'):TksAt u' s X:=by
 obtain⟨T,h1,h2,h3⟩:=h
 exact⟨T,h1.sub hu,h2,h3.sub hu⟩
def yldX (t:IV) (X E:List XT):Int×List XT:=
 if !t.made&&!t.raw then(0,E)else if !t.made then(0,X)else if layX X then(62,[])else(0,[⟨11,⟨#[]⟩,false,X.map (·.text),0⟩])
theorem yields_scx {u0:Im} {L:List AV} {i:Nat} {a:AV} {X E:List XT} {t:IV} (ha:L[i]?=some a) (hok:ArgOk u0 a X) (hE:(!t.made&&!t.raw)=true→TksAt u0 a.ex E) (hz:X.length≤1000000) (hL:L.length≤1000000) :
 SCX Tryz.prog 104 u0 1 [(0,.row 206 (argY.d L))] [.e 0 9 (i:Int) 0,.v (ivV t)] (fun(a',r,e)=>([(0,.row 206 (argY.d (L.set i a')))],1,[.v (.slice r.A r.n r.c),.v (.int .i64 e)])) (fun(a',_,e)=>e=(yldX t X E).1∧a'.vw=a.vw∧a'.ex=a.ex)
  (fun(a',r,e) u=>ArgOk u a' X∧(e=0→TksAt u r (yldX t X E).2)):=by
 have hiL:i<L.length:=(List.getElem?_eq_some_iff.1 ha).1
 have hDL:(argY.d L).n=L.length:=Lay.d_n _ _
 have hg:L.getD ((i:Nat):Int).toNat argY.dft=a:=by rw[Int.toNat_natCast,List.getD_eq_getElem?_getD,ha];rfl
 have hgi:∀y:AV,(L.set i y).getD ((i:Nat):Int).toNat argY.dft=y:=fun y=>by
  rw[Int.toNat_natCast,List.getD_eq_getElem?_getD,List.getElem?_set_self hiL];rfl
 refine x_scx Aa Tryz.func104 O O O (by
  show(argLtX _ 1 (.e 0 9 (i:Int) 0)&&true)=true
  rw[show argLtX [(0,Rs.row 206 (argY.d L))] 1 (.e 0 9 (i:Int) 0)=(decide ((0:Int)≤(i:Int))&&decide ((i:Int)<((argY.d L).n:Int)))from rfl,decide_eq_true (by omega),decide_eq_true (by omega)];rfl) (fun us hus=>?_)
 refine Ao Aa ?_
 refine Ap (fun h1=>?_) (fun h1=>?_)
 have h1:(!t.made&&!t.raw)=true:=h1
 have hy:yldX t X E=(0,E):=by unfold yldX;rw[if_pos h1]
 have hs:L.set i a=L:=by
  obtain⟨h,rfl⟩:=List.getElem?_eq_some_iff.1 ha
  exact List.set_getElem_self h
 refine⟨(a,(L.getD ((i:Nat):Int).toNat argY.dft).ex,0),[],rfl,?_,rfl,Nat.le_refl _,⟨by rw[hy];rfl,rfl,rfl⟩,fun v x _=>⟨hok.sub x,fun _=>by rw[hy,hg];exact(hE h1).sub x⟩⟩
 show Sub 1 _ _ ⟨_,[],[(0,.row 206 (argY.d (L.set i a)))],1⟩
 rw[hs]
 exact .of O O O O O O
 have h1:(!t.made&&!t.raw)=false:=h1
 refine xl_callSCX (take_scx ha hok hz hL) hus [0] O O O O fn135 O O O O O O ⟨trivial,trivial⟩ rfl (fun _=>⟨trivial,trivial⟩) (fun _=>rfl) (fun a' u1 hu1 hG hN=>?_)
 obtain⟨q1,q2,q3⟩:=hG
 refine Ab Aa ?_
 refine Ap (fun h2=>?_) (fun h2=>?_)
 have h2:(!t.made)=true:=h2
 have hy:yldX t X E=(0,X):=by unfold yldX;rw[if_neg (by rw[h1];simp),if_pos h2]
 refine⟨(a',((L.set i a').getD ((i:Nat):Int).toNat argY.dft).wh,0),[],rfl,.of O O O O O rfl,rfl,Nat.le_refl _,⟨by rw[hy];rfl,q2,q3⟩,fun v x y=>⟨hN v x y,fun _=>?_⟩⟩
 rw[hy,hgi]
 exact((hN v x y).yes q1).1
 have h2:(!t.made)=false:=h2
 refine Ap (fun h3=>?_) (fun h3=>?_)
 have h3:((L.set i a').getD ((i:Nat):Int).toNat argY.dft).ly=true:=h3
 rw[hgi]at h3
 have hl:layX X=true:=by
  have:=((hN (Bf u0 (dif us u1)) (joinI_old _ _) (joinI_new hus)).yes q1).2.2.2
  rw[←this];exact h3
 have hy:yldX t X E=(62,[]):=by unfold yldX;rw[if_neg (by rw[h1];simp),if_neg (by rw[h2];simp),if_pos hl]
 refine⟨(a',slr0,62),[],rfl,.of O O O O O rfl,rfl,Nat.le_refl _,⟨by rw[hy];rfl,q2,q3⟩,fun v x y=>⟨hN v x y,fun h=>by cases h⟩⟩
 have h3:((L.set i a').getD ((i:Nat):Int).toNat argY.dft).ly=false:=h3
 rw[hgi]at h3
 have hl:layX X=false:=by
  have:=((hN (Bf u0 (dif us u1)) (joinI_old _ _) (joinI_new hus)).yes q1).2.2.2
  rw[←this];exact h3
 have hy:yldX t X E=(0,[⟨11,⟨#[]⟩,false,X.map (·.text),0⟩]):=by unfold yldX;rw[if_neg (by rw[h1];simp),if_neg (by rw[h2];simp),if_neg (by rw[hl];simp)]
 refine As Aa tvY [⟨⟨11,⟨#[]⟩,false,((L.set i a').getD ((i:Nat):Int).toNat argY.dft).pa.A,((L.set i a').getD ((i:Nat):Int).toNat argY.dft).pa.n,((L.set i a').getD ((i:Nat):Int).toNat argY.dft).pa.c⟩,none⟩] [_] O O O O O O O O O O O O O O O ?_
 refine Ax 2 rfl (fun A2 c2 u2 hu2 hA2 hA2n=>?_)
 refine Ab Aa ?_
 refine⟨(a',⟨A2,1,c2⟩,0),[],rfl,.of O O O O O rfl,rfl,Nat.le_refl _,⟨by rw[hy];rfl,q2,q3⟩,fun v x y=>?_⟩
 have hv:=hN v x ((Ba hu2.sub).trans y)
 obtain⟨_,p1,p2,_⟩:=hv.yes q1
 refine⟨hv,fun _=>?_⟩
 rw[hy]
 have h9:=(hA2.difOf (us:=us) (fun ad had=>dif_none hu1.sub (hA2n ad had).1)).sub y
 rw[hgi]at h9
 refine⟨_,h9,rfl,⟨rfl,rfl,rfl,?_,rfl⟩,trivial⟩
 show Aw v (.slice a'.pa.A a'.pa.n a'.pa.c) _
 rw[p2];exact p1
end Go.Proofs.YtnjlkdhdinfejaaGreat
namespace Go.GV
open Go.RowKit
theorem xl_to3 {T:TT} {C:Cx} (hT:TOk C.P T) {all:List Oper} {o:Oper} {r:List Oper} {Q:Bb} {kn:Kn} {gk:List (Nat×(Gd×SV))} {ow:Own} {nx:Nat} {u:Im}
 {t e d n c:Nat} {A:Option Addr} {sv hv mv:Operand} {ti te:TI} {kh km:IntKind} {l:Int} (ho:o.op=.slice t sv none (some hv) (some mv)) (hgd:o.guard=none) (hd:o.dst=some d)
 (hti:look T t=some ti) (hsh:ti.shp=.slice e) (hte:look T e=some te)
 (hs:opd ⟨kn,gk,ow,nx⟩ [] sv=some (.v (.slice A n c))) (hh:opd ⟨kn,gk,ow,nx⟩ [] hv=some (.v (.int kh l))) (hm:opd ⟨kn,gk,ow,nx⟩ [] mv=some (.v (.int km l))) (hf:Bg C.N ⟨kn,gk,ow,nx⟩ d []=true)
 (h0:0≤l) (h1:l≤c) (K:XL C all r Q ⟨(d,.v (.slice A l.toNat l.toNat))::kn,gk,ow,nx⟩ u):XL C all (o::r) Q ⟨kn,gk,ow,nx⟩ u:=by
 refine xl_val _ hgd hd (fun c hc=>by rw[ho]at hc;cases hc) hf (fun E a w hok=>?_) K
 have hgs:gs a.tmps []:=fun x hx=>by cases hx
 have hu:=(hT _ _ hti).isSlice hsh
 have hel:C.P.elem t=e:=by simp[Program.elem,hu]
 have htek:=hT _ _ hte
 obtain⟨es,_⟩:=Al hok.agr hgs hs
 obtain⟨eh,_⟩:=Al hok.agr hgs hh
 obtain⟨em,_⟩:=Al hok.agr hgs hm
 simp only[SV.den]at es eh em
 have:=run_slice_hm (P:=C.P) (w:=w) t A n c (by rw[hel];exact hu) kh km l l h0 (Int.le_refl _) h1
 simp only[execOp,ho,Option.map_none,Option.map_some,es,eh,em]
 rw[Sem.run_bind,run_sliceAt_slice (w:=w) t _ _ _ _ (by rw[hel];exact hu),this,hel,Ca w htek]
 have h9:∀x:Addr,x.add 0=x:=fun x=>by unfold Addr.add;rw[if_pos rfl]
 cases A<;>simp[Result.andThen,sliced,h9]
theorem Aw.full {u:Im} {A:Option Addr} {n c:Nat} {D:Data} (h:Aw u (.slice A n c) D):Aw u (.slice A n n) D:=by
 obtain⟨A',c',h1,h2,h3,h4⟩:=h
 cases h1
 exact⟨A,D.n,rfl,Nat.le_refl _,Nat.le_trans h2 h3,h4⟩
theorem addr_addS {ad:Addr} (h:ad.spot=none) (m n:Nat):(ad.add m).add n=ad.add (m+n):=by
 obtain⟨b,off,sp⟩:=ad
 simp only at h
 subst h
 unfold Addr.add
 by_cases hm:m=0
 subst hm;simp
 rw[if_neg hm,if_neg (show ¬m+n=0 by omega)]
 by_cases hn:n=0
 subst hn;simp
 rw[if_neg hn,Nat.add_assoc]
theorem PtAt.part {u:Im} {ad:Addr} {cs ds:List Value} (h:PtAt u ad cs) (o:Nat) (hs:ad.spot=none) (hd:∀j y,ds[j]?=some y→cs[o+j]?=some y):PtAt u (ad.add o) ds:=fun j v hv=>by
 have:=h (o+j) v (hd j v hv)
 rwa [addr_addS hs]
theorem xl_appF {α:Type} {T:TT} {C:Cx} (hT:TOk C.P T) {all:List Oper} {o2:Oper} {r:List Oper} {Q:Bb} {kn:Kn} {gk:List (Nat×(Gd×SV))} {ow:Own} {nx:Nat} {u:Im}
 (Y:Lay α) (L M:List α) (by':Nat) {t e d2:Nat} {A:Option Addr} {sv xv:Operand} {ti te:TI} {z:SV}
 (h2:o2.op=.call {callee:=.builtin .append,args:=#[sv,xv],argTypes:=#[t,t]}) (g2:o2.guard=none) (hd2:o2.dst=some d2)
 (hti:look T t=some ti) (hsh:ti.shp=.slice e) (hte:look T e=some te) (hsz:te.sz=Y.fs.length) (hpos:Nat.blt 0 te.sz=true)
 (hby:(C.P.info? e).map (fun i=>i.bytes)=some by')
 (hs:opd ⟨kn,gk,ow,nx⟩ [] sv=some (.v (.slice A L.length L.length))) (hS:Aw u (.slice A L.length L.length) (Y.d L)) (hM:0<M.length)
 (hz:opd ⟨kn,gk,ow,nx⟩ [] xv=some z) (hx:∀E w F,Sat E ow nx u [] w F→Aw (im w) (z.den E) (Y.d M)) (hone:∀x,∀y∈Y.el x,oneB y=true)
 (hf2:Bg C.N ⟨kn,gk,ow,nx⟩ d2 []=true)
 (hb:(L.length+M.length) * by'≤140737488355328) (hn:L.length+M.length≤9223372036854775807)
 (K:XL C all r Q ⟨(d2,.r nx)::kn,gk,(nx,.row e (Y.d (L++M)))::ow,nx+1⟩ u) :
 XL C all (o2::r) Q ⟨kn,gk,ow,nx⟩ u:=by
 unfold XL at K ⊢
 intro E a w hok
 obtain⟨f,hsat⟩:=hok.sat
 have hgs:gs a.tmps []:=fun x hx=>by cases hx
 have htik:=hT _ _ hti
 have htek:=hT _ _ hte
 have hpos':0<te.sz:=Cp hpos
 obtain⟨es,_⟩:=Al hok.agr hgs hs
 simp only[SV.den]at es
 obtain⟨ez,_⟩:=Al hok.agr hgs hz
 obtain⟨B,c,hzv,hB0,hBc⟩:=(hx E w f hsat.unmarked).flat
 rw[hzv]at ez
 obtain⟨i,i1,i2,i3,i4⟩:=info_bytes htek hby
 have hD:(Y.d (L++M)).n=L.length+M.length:=by simp[Lay.d]
 obtain⟨bd,hbd⟩:∃bd,B=some bd:=by
  cases B with
  |none=>exact absurd (hB0 rfl) (by rw[Lay.d_n];omega)
  |some bd=>exact⟨bd,rfl⟩
 subst hbd
 have hone':∀y∈(Y.d M).flat,oneB y=true:=fun y hy=>by
  rw[Lay.flat,List.mem_flatMap]at hy
  obtain⟨x,_,hy⟩:=hy
  exact hone x y hy
 obtain⟨A',c',hAe,hA0,hAc⟩:=(hS.sub (⟨fun b o hb=>hsat.imm.h b o hb⟩:u.sub (im w))).flat
 cases hAe
 have key:∃v' w',(Builtin.append_ #[t,t] o2.type #[.slice A L.length L.length,.slice (some bd) (Y.d M).n c]).run C.P w=.ok v' w'∧w'.ownsRow 0 e te.sz v' (L.length+M.length) (Y.d (L++M)).flat∧w.grownBy w' none∧(∀b,v'.ownBlock=some b→w.heap.size≤b):=by
  cases A with
  |none=>
   have h0:L=[]:=List.eq_nil_of_length_eq_zero (by have:=hA0 rfl;rwa [Lay.d_n]at this)
   subst h0
   obtain⟨v',w',hrun2,hown,hgr,_,hat⟩:=run_append_own_at (P:=C.P) w 0 t o2.type e i te.zv te.sz by' (htik.isSlice hsh) i1 i3 i2 i4
    (by rw[TI.zv_cells htek];simpa using htek.len) hpos' (.slice none 0 0) 0 [] ⟨by simp,.inl ⟨rfl,rfl⟩⟩ bd M.length c (Y.d M).flat (by rw[Lay.flat_length,hsz]) (hBc bd rfl)
    (fun y hy=>oneB_cell' (hone' y hy)) (by simpa[maxLen]using hn) (by simpa using hb) (Nat.zero_le _)
   refine⟨v',w',hrun2,by simpa using hown,hgr,fun b hb'=>?_⟩
   rcases hat with h|h
   rw[hb']at h;cases h
   rw[hb']at h;cases h;exact Nat.le_refl _
  |some ad=>
   obtain⟨v',w',hrun2,hown,hgr⟩:=run_append_arg_grows (P:=C.P) w t o2.type e i te.zv te.sz by' (htik.isSlice hsh) i1 i3 i2 i4
    (by rw[TI.zv_cells htek];simpa using htek.len) hpos' ad L.length L.length (Y.d L).flat (by rw[Lay.flat_length,hsz]) (hAc ad rfl) bd M.length c (Y.d M).flat (by rw[Lay.flat_length,hsz]) (hBc bd rfl)
    (by omega) (by simpa[maxLen]using hn) hb
   rw[←Lay.app]at hown
   refine⟨v',w',hrun2,⟨hown.1,hown.2.imp id ?_⟩,hgr,fun b hb'=>?_⟩
   rintro⟨g,cap,cur,k1,k2,k3⟩
   exact⟨g,cap,cur,k1,Nat.zero_le _,k3⟩
   rcases hown.2 with⟨h1,_⟩|⟨g,cap,cur,h1,h2,_⟩
   rw[h1]at hb';cases hb'
   rw[h1]at hb'
   cases hb';exact h2
 obtain⟨v',w',hrun2,hown,hgr,hge⟩:=key
 have hrun2':(execOp a.eval o2).run C.P w=.ok (.value v') w':=by
  simp only[execOp,h2,resolve,invoke,builtin,List.map_toArray,List.map_cons,List.map_nil,es,ez]
  simp[hrun2,Result.andThen]
 refine xl_wp g2 (fun c hc=>by rw[h2]at hc;cases hc) hrun2' ?_
 rw[hd2]
 have hbel:Below w.heap.size w w':=by
  obtain⟨g1,g2,g3,g4,g5⟩:=hgr
  exact⟨g1,g2,g3,g4,fun b hb=>g5 b hb (by simp)⟩
 have hv:=ownAt_of (lo:=w.heap.size) (D:=Y.d (L++M)) (by rw[Lay.cs_length,hD,←hsz];exact hown) hge
 have hE:∀j,j<nx→upd E nx v' j=E j:=fun j hj=>An _ _ (by omega)
 have hg:=hok.agr.grow (E':=upd E nx v') (ow:=(nx,.row e (Y.d (L++M)))::ow) (nx:=nx+1) hE (Nat.le_succ _)
 have hput2:Agr C.N (upd E nx v') (St.put ⟨kn,gk,(nx,.row e (Y.d (L++M)))::ow,nx+1⟩ d2 [] (.r nx)) (a.tmps.setIfInBounds d2 v'):=by
  refine hg.put (g:=[]) hf2 (fun _=>⟨Nat.lt_succ_self _,?_⟩) (fun _=>?_) (fun hn=>absurd (fun x hx=>(by cases hx)) hn) (fun _=>?_)
  obtain⟨A,c,hv⟩:=ownsRow_sl hown
  exact⟨A,_,c,by rw[Ak];exact hv⟩
  simp only[SV.den,Ak]
  simp only[SV.den,Ak]
 have:=K (upd E nx v') (a.put (some d2) v') w' ⟨⟨hput2.size,hput2.kn,hput2.gk,hput2.klt,hput2.glt⟩,_,hsat.take hbel hv⟩
 exact Av (fun e a w=>Cd.mono hE (Nat.le_succ _) (Im.le.refl u)) _ _ _ this
theorem xd_gloadA {T:TT} {C:Cx} (hT:TOk C.P T) {all:List Oper} {o:Oper} {r:List Oper} {Q:St→Prop} {st:St} {u:Im} {g:Gd}
 {t d:Nat} {ad:Addr} {x:Operand} {ti:TI} (cs:List Value) (ho:o.op=.load t x) (hg:Bp all st o=some g) (hd:o.dst=some d) (hfr:Bg C.N st d g=true)
 (hti:look T t=some ti) (ha:ti.agg=true) (hl:cs.length=ti.sz) (hx:opd st g x=some (.v (.pointer (some ad)))) (hc:allL (gprops st g)→PtAt u ad cs)
 (K:XD C all r Q (st.put d g (.v (.agg cs.toArray))) u):XD C all (o::r) Q st u:=by
 refine xd_gval _ hg hd (fun c hc=>by rw[ho]at hc;cases hc) hfr (fun hp E a w hok hgs=>?_) K
 have e1:=(Al hok.agr hgs hx).1
 obtain⟨f,hsat⟩:=hok.sat
 simp only[SV.den]at e1
 simp only[execOp,ho]
 rw[e1,Sem.run_bind,run_loadA (hT _ _ hti) ha hsat.imm hl (hc hp)]
 rfl
end Go.GV
namespace Go.Proofs.YtnjlkdhdinfejaaGreat
open Go.GV Go.RowKit
def clsB (kind:Int) (text:ByteArray):Nat:=if kind=5 then(if text=lpB then 1 else if text=rpB then 2 else if text=cmB then 3 else 0)else 0
def clsT (t:TV):Nat:=clsB t.pv.kind t.pv.text
def clsX (x:XT):Nat:=clsB x.kind x.text
def scanI:List Nat→Nat→Nat→Nat→Option (List (Nat×Nat)×Nat)
 |[],_,_,_=>none
 |c::r,d,s,i=>
  if c=1 then scanI r (d+1) s (i+1)
  else if c=2 then(if d=0 then some ([(s,i)],i)else scanI r (d-1) s (i+1))
  else if c=3∧d=0 then(scanI r 0 (i+1) (i+1)).map fun x=>((s,i)::x.1,x.2)
  else scanI r d s (i+1)
theorem pct_cls (t:TV):pctB t=decide (clsT t≠0):=by
 unfold pctB clsT clsB
 by_cases h:t.pv.kind=5
 rw[if_pos h,decide_eq_true h]
 by_cases h1:t.pv.text=lpB
 rw[if_pos h1,decide_eq_true h1];rfl
 rw[if_neg h1,decide_eq_false h1]
 by_cases h2:t.pv.text=rpB
 rw[if_pos h2,decide_eq_true h2];rfl
 rw[if_neg h2,decide_eq_false h2]
 by_cases h3:t.pv.text=cmB
 rw[if_pos h3,decide_eq_true h3];rfl
 rw[if_neg h3,decide_eq_false h3];rfl
 rw[if_neg h,decide_eq_false h];rfl
theorem scanI_skip:∀(l:List Nat) (m d s i:Nat),(∀x,x<m→l.getD x 1=0)→m≤l.length→scanI l d s i=scanI (l.drop m) d s (i+m)
 |l,0,d,s,i,_,_=>by rw[List.drop_zero,Nat.add_zero]
 |[],m+1,d,s,i,h,hm=>by simp at hm
 |c::r,m+1,d,s,i,h,hm=>by
  have h0:c=0:=h 0 (by omega)
  subst h0
  rw[scanI,if_neg (by decide),if_neg (by decide),if_neg (by omega),List.drop_succ_cons,scanI_skip r m d s (i+1) (fun x hx=>h (x+1) (by omega)) (by simpa using hm),show i+1+m=i+(m+1) by omega]
theorem TksR.cls {u:Im}:∀ {T:List TV} {X:List XT},TksR u T X→T.map clsT=X.map clsX
 |[],[],_=>rfl
 |t::T,x::X,h=>by
  rw[List.map_cons,List.map_cons,TksR.cls h.2]
  congr 1
  unfold clsT clsX
  rw[h.1.kind,h.1.text]
 |[],_::_,h=>h.elim
 |_::_,[],h=>h.elim
theorem isF_cls (t:TV):isF t lpB=decide (clsT t=1)∧isF t rpB=decide (clsT t=2)∧isF t cmB=decide (clsT t=3)∧(clsT t≠0→clsT t=1∨clsT t=2∨clsT t=3):=by
 unfold isF clsT clsB
 by_cases h:t.pv.kind=5
 rw[if_pos h,decide_eq_true h]
 by_cases h1:t.pv.text=lpB
 rw[if_pos h1,h1];decide
 rw[if_neg h1,decide_eq_false h1]
 by_cases h2:t.pv.text=rpB
 rw[if_pos h2,h2];decide
 rw[if_neg h2,decide_eq_false h2]
 by_cases h3:t.pv.text=cmB
 rw[if_pos h3,h3];decide
 rw[if_neg h3,decide_eq_false h3];decide
 rw[if_neg h,decide_eq_false h];simp
theorem fstP_le:∀V:List TV,fstP V≤V.length
 |[]=>Nat.le_refl _
 |t::r=>by
  have:=fstP_le r
  rw[fstP,List.length_cons]
  split<;>omega
theorem fstP_off:∀(V:List TV) (x:Nat),x<fstP V→pctB (V.getD x tv0)=false
 |[],x,h=>by simp[fstP]at h
 |t::r,x,h=>by
  rw[fstP]at h
  by_cases hp:pctB t=true
  rw[if_pos hp]at h;omega
  rw[if_neg hp]at h
  cases x with
  |zero=>simpa using hp
  |succ x=>simpa using fstP_off r x (by omega)
theorem fstP_hit:∀V:List TV,fstP V<V.length→pctB (V.getD (fstP V) tv0)=true
 |[],h=>by simp at h
 |t::r,h=>by
  by_cases hp:pctB t=true
  rw[fstP,if_pos hp];exact hp
  rw[fstP,if_neg hp]at h ⊢
  simpa using fstP_hit r (by simpa using h)
def VwI (u:Im) (P:Stk) (n:Nat) (v:Vw) (ab:Nat×Nat):Prop:=Ck u v.p v.k (Cc ab.1 P)∧Ck u v.q v.j (Cc ab.2 P)∧ab.1≤ab.2∧ab.2≤n
def VwIs (u:Im) (P:Stk) (n:Nat):List Vw→List (Nat×Nat)→Prop
 |[],[]=>True
 |v::L,x::XS=>VwI u P n v x∧VwIs u P n L XS
 |_,_=>False
theorem VwIs.snoc {u:Im} {P:Stk} {n:Nat}:∀ {L:List Vw} {I:List (Nat×Nat)} {v:Vw} {x:Nat×Nat},VwIs u P n L I→VwI u P n v x→VwIs u P n (L++[v]) (I++[x])
 |[],[],v,x,_,k=>⟨k,trivial⟩
 |_::L,_::I,v,x,h,k=>⟨h.1,VwIs.snoc h.2 k⟩
 |[],_::_,_,_,h,_=>h.elim
 |_::_,[],_,_,h,_=>h.elim
theorem VwIs.len {u:Im} {P:Stk} {n:Nat}:∀ {L:List Vw} {I:List (Nat×Nat)},VwIs u P n L I→L.length=I.length
 |[],[],_=>rfl
 |v::L,x::I,h=>by rw[List.length_cons,List.length_cons,VwIs.len h.2]
 |[],_::_,h=>h.elim
 |_::_,[],h=>h.elim
theorem VwsX.drop {u:Im}:∀ {L:List Vw} {XS:List (List XT)},VwsX u L XS→∀n,VwsX u (L.drop n) (XS.drop n)
 |[],[],_,n=>by simp[VwsX]
 |v::L,X::XS,h,0=>h
 |v::L,X::XS,h,n+1=>VwsX.drop h.2 n
 |[],_::_,h,_=>h.elim
 |_::_,[],h,_=>h.elim
theorem VwsX.take {u:Im}:∀ {L:List Vw} {XS:List (List XT)},VwsX u L XS→∀n,VwsX u (L.take n) (XS.take n)
 |[],[],_,n=>by simp[VwsX]
 |v::L,X::XS,h,0=>trivial
 |v::L,X::XS,h,n+1=>⟨h.1,VwsX.take h.2 n⟩
 |[],_::_,h,_=>h.elim
 |_::_,[],h,_=>h.elim
theorem VwsX.snoc {u:Im}:∀ {L:List Vw} {XS:List (List XT)} {v:Vw} {X:List XT},VwsX u L XS→VwX u v X→VwsX u (L++[v]) (XS++[X])
 |[],[],v,X,_,k=>⟨k,trivial⟩
 |_::L,_::I,v,x,h,k=>⟨h.1,VwsX.snoc h.2 k⟩
 |[],_::_,_,_,h,_=>h.elim
 |_::_,[],_,_,h,_=>h.elim
theorem run_eqPl {u:Im} {w:World} (hi:Imm u w) {p q:Option Addr} (hp:BlkAt u p) (hq:BlkAt u q) (k j:Int) :
 (binOp .eql 82 (plV p k) (plV q j)).run Tryz.prog w=.ok (.bool (decide (p=q)&&decide (k=j))) w:=by
 have:=run_equalPl hi hp hq k j
 unfold plV at this ⊢
 simp only[binOp]
 simp[this]
theorem eqGuardPl2 (x y:Operand) (p q:Option Addr) (k j:Int) (w:World):(eqGuard .eql 82 x y (plV p k) (plV q j)).run Tryz.prog w=.ok () w:=
 run_eqGuard_agg w .eql 82 x y _ _ (by kernel_rfl)
theorem vwOne:∀x:Vw,∀y∈vwY.el x,oneB y=true:=by
 intro t y hy
 rw[show vwY.el t=[.pointer t.p,.int .i64 t.k,.pointer t.q,.int .i64 t.j]from rfl]at hy
 simp only[List.mem_cons,List.not_mem_nil,or_false]at hy
 rcases hy with rfl|rfl|rfl|rfl<;>rfl
def sliX (X:List XT) (ab:Nat×Nat):List XT:=(X.drop ab.1).take (ab.2-ab.1)
theorem VwIs.vws {u:Im} {P:Stk} {n:Nat} {X:List XT} (hn:n≤(Bi P).length) (hX:TksR u ((Bi P).take n) X) (hl1:lowB P) (hl2:∀x∈P,x.2.2<x.2.1.length):∀ {L:List Vw} {I:List (Nat×Nat)},VwIs u P n L I→VwsX u L (I.map (sliX X))
 |[],[],_=>trivial
 |v::L,(a,b)::I,h=>by
  obtain⟨⟨h1,h2,h3,h4⟩,hr⟩:=h
  refine⟨⟨Cc a P,b-a,h1,?_,?_,?_⟩,VwIs.vws hn hX hl1 hl2 hr⟩
  rw[adv_add,show a+(b-a)=b by omega];exact h2
  rw[toks_adv a hl1 hl2,List.length_drop];omega
  rw[toks_adv a hl1 hl2]
  have h9:=(hX.drop a).take (b-a)
  rw[List.drop_take,List.take_take,Nat.min_eq_left (by omega)]at h9
  exact h9
 |[],_::_,h=>h.elim
 |_::_,[],h=>h.elim
def bndX (np:Nat) (va:Bool) (XS:List (List XT)):Option (List (List XT)):=
 if va=true∧np<XS.length then some (XS.take np++[joinX (XS.drop np)])
 else if va=false∧np=0∧XS.length=1∧(XS.headD []).length=0 then some []
 else if va=true∨XS.length≠np∨np=0 then none else some XS
structure CallX where
 args:List (List XT)
 close:XT
 rest:List XT
def callX (np:Nat) (va:Bool) (X:List XT):Option CallX:=
 match scanI ((X.drop 1).map clsX) 0 1 1 with
 |none=>none
 |some (I,e)=>match bndX np va (I.map (sliX X))with
  |none=>none
  |some XS=>some ⟨XS,X.getD e comX,X.drop (e+1)⟩
theorem call_any {u0:Im} {p q:Option Addr} {k j:Int} {P:Stk} {n:Nat} {X:List XT} {ad:Addr} {id:Nat} {m:MT} {sa:MA} {I:List IV} {U:List Bool} (xv:Value) (hpl:PlanAt u0 ad id m sa I U) (hp:Ck u0 p k P) (hq:Ck u0 q j (Cc n P)) (hn:n≤(Bi P).length)
 (hX:TksR u0 ((Bi P).take n) X) (hn0:0<n) (hz:n≤1000000) (hps:m.ps.length≤1000000) (w:World) (hw:u0.sub (im w)) :
 Calls Tryz.prog 72 #[xv,.pointer (some ad),vwV p k q j] w (Bc w fun v u1=>match callX m.ps.length m.va X with
  |none=>v=.tuple #[.agg #[.slice none 0 0,.pointer none,.pointer none,.int .i64 0],.int .i64 60]
  |some c=>∃A L cc hp ap ak,v=.tuple #[.agg #[.slice A (List.length L) cc,.pointer hp,.pointer ap,.int .i64 ak],.int .i64 0]∧Nw u0 u1 (fun u=>Aw u (.slice A (List.length L) cc) (vwY.d L)∧VwsX u L c.args∧Bk u hp c.close.hide∧VwX u ⟨ap,ak,q,j⟩ c.rest)):=by
 obtain⟨hl1,hl2⟩:=hp.low
 have hXl:X.length=n:=by rw[←hX.len,List.length_take];omega
 have hP:P≠[]:=fun e=>by subst e;simp[Bi]at hn;omega
 refine Bq Aa Tryz.func72 O O [] 0 [.v xv,.v (.pointer (some ad)),.v (vwV p k q j)] O O O O (fun b hb=>by cases hb) ?_
 obtain⟨pb,xi,xu,rfl,hpb,hpi,hpu⟩:=hpl.it
 refine x_ptr 1 (mCells m sa++[.int .i64 (id:Int),xi,xu]) rfl (ptAt_box (hw.h _ _ hpb)) ?_
 refine Az (Ao Aa ?_)
 refine x_scope ?_
 refine Az (Ao Aa ?_)
 refine Az (Ao Aa ?_)
 obtain⟨p1,k1,hp1,hc1⟩:=next_any hp hP
 have hp1:Ck u0 p1 k1 (Cc 1 P):=hp1
 refine Am (plV p1 k1) O O O O fn69 O O (fun E w' F hs=>hc1 w' (hw.trans (Au hs.imm))) ?_
 refine Ab Aa ?_
 refine Az (Ao Aa ?_)
 refine Az (Ao Aa ?_)
 refine Az (Az (Ao Aa ?_))
 have hq1:Ck u0 q j (Cc (n-1) (Cc 1 P)):=by rw[adv_add,show 1+(n-1)=n by omega];exact hq
 have hlen:∀a,(Bi (Cc a P)).length=(Bi P).length-a:=fun a=>by rw[toks_adv a hl1 hl2,List.length_drop]
 obtain⟨p2,k2,hp2,hc2⟩:=ppunct_any hp1 hq1 (by rw[hlen];omega)
 refine Am (plV p2 k2) O O O O fn101 O O (fun E w' F hs=>hc2 w' (hw.trans (Au hs.imm))) ?_
 refine Ab Aa ?_
 refine x_nilCell 3 95 vwY [] [.v (.pointer none),.v (.pointer none),.v (.int .i64 0)] rfl ?_
 obtain⟨C,hC⟩:∃C,C=X.map clsX:=⟨_,rfl⟩
 have hCT:C=((Bi P).take n).map clsT:=by rw[hC,hX.cls]
 have hCl:C.length=n:=by rw[hC,List.length_map,hXl]
 have hCg:∀a,a<n→C.getD a 1=clsT ((Bi P).getD a tv0):=fun a ha=>by
  rw[hCT,List.getD_eq_getElem?_getD,List.getElem?_map,List.getElem?_take,if_pos ha,List.getD_eq_getElem?_getD,List.getElem?_eq_getElem (show a<(Bi P).length by omega)];rfl
 have hpass:∀a,a≤n→∃c,c=a+fstP ((Bi (Cc a P)).take (n-a))∧a≤c∧c≤n∧(c<n→C.getD c 1≠0)∧∀d s,scanI (C.drop a) d s a=scanI (C.drop c) d s c:=by
  intro a ha
  obtain⟨V,hV⟩:∃V,V=(Bi (Cc a P)).take (n-a):=⟨_,rfl⟩
  have hVd:V=((Bi P).take n).drop a:=by rw[hV,toks_adv a hl1 hl2,List.drop_take]
  have hVl:V.length=n-a:=by rw[hVd,List.length_drop,List.length_take];omega
  have hCV:C.drop a=V.map clsT:=by rw[hVd,hCT,List.map_drop]
  have hCVg:∀x,x<n-a→(C.drop a).getD x 1=clsT (V.getD x tv0):=fun x hx=>by
   rw[hCV,List.getD_eq_getElem?_getD,List.getElem?_map,List.getD_eq_getElem?_getD,List.getElem?_eq_getElem (show x<V.length by omega)];rfl
  have hle:=fstP_le V
  have hdr:∀x,(C.drop a).getD x 1=C.getD (a+x) 1:=fun x=>by rw[List.getD_eq_getElem?_getD,List.getElem?_drop,←List.getD_eq_getElem?_getD]
  refine⟨a+fstP V,by rw[hV],by omega,by omega,fun hc=>?_,fun d s=>?_⟩
  have h9:=fstP_hit V (by omega)
  rw[pct_cls]at h9
  rw[←hdr,hCVg _ (by omega)]
  exact of_decide_eq_true h9
  rw[scanI_skip (C.drop a) (fstP V) d s a (fun x hx=>by
   have h9:=fstP_off V x hx
   rw[pct_cls]at h9
   have h9:=of_decide_eq_false h9
   rw[hCVg x (by omega)]
   omega) (by rw[hCV,List.length_map];exact hle),List.drop_drop]
 obtain⟨c0,e0,f1,f2,f3,f4⟩:=hpass 1 hn0
 have hp2':Ck u0 p2 k2 (Cc c0 P):=by
  rw[adv_add,←e0]at hp2;exact hp2
 refine x_via (σ:=Bool×List Vw×Option Addr×Int×Option Addr×Int) (fun(cl,V,fp,fk,pp,pk)=>⟨[(12,.v (.bool cl)),(11,.p 5 0),(10,.p 4 0),(8,.p 3 0),(6,.p 2 0),(1,.e 0 8 0 0)],[],
  [(0,.sl (oneD (mCells m sa++[.int .i64 (id:Int),xi,xu]))),(1,.box 95 [.v (.pointer p),.v (.int .i64 k),.v (.pointer q),.v (.int .i64 j)]),(2,.box 159 [.v (.slice none 0 0),.v (.pointer none),.v (.pointer none),.v (.int .i64 0)]),(3,.box 159 [.r 7,.v (.pointer none),.v (.pointer none),.v (.int .i64 0)]),
   (4,.box 82 [.v (.pointer fp),.v (.int .i64 fk)]),(5,.box 82 [.v (.pointer pp),.v (.int .i64 pk)]),(7,.row 95 (vwY.d V))],8⟩)
  (fun(cl,V,fp,fk,pp,pk) _=>(cl=false→scanI (C.drop 1) 0 1 1=none)∧(cl=true→∃s mm PL,1≤s∧s≤mm∧mm<n∧Ck u0 fp fk (Cc s P)∧Ck u0 pp pk (Cc mm P)∧V.length≤mm∧VwIs u0 P n V PL∧scanI (C.drop 1) 0 1 1=some (PL++[(s,mm)],mm))) (fun _=>by show 7≤8;omega) ?_ ?_
 refine x_block ?_
 refine Br (σ:=Nat×Nat×Nat×List Vw×Option Addr×Int×Option Addr×Int) (fun(d,s,mm,V,fp,fk,pp,pk)=>⟨[(12,.v (.bool false)),(11,.p 5 0),(10,.p 4 0),(9,.v (.int .i64 (d:Int))),(8,.p 3 0),(6,.p 2 0),(5,.p 1 0),(1,.e 0 8 0 0)],[],
  [(0,.sl (oneD (mCells m sa++[.int .i64 (id:Int),xi,xu]))),(1,.box 95 [.v (.pointer p),.v (.int .i64 k),.v (.pointer q),.v (.int .i64 j)]),(2,.box 159 [.v (.slice none 0 0),.v (.pointer none),.v (.pointer none),.v (.int .i64 0)]),(3,.box 159 [.r 7,.v (.pointer none),.v (.pointer none),.v (.int .i64 0)]),
   (4,.box 82 [.v (.pointer fp),.v (.int .i64 fk)]),(5,.box 82 [.v (.pointer pp),.v (.int .i64 pk)]),(7,.row 95 (vwY.d V))],8⟩)
  (fun(d,s,mm,V,fp,fk,pp,pk) _=>1≤s∧s≤mm∧mm≤n∧d≤mm∧Ck u0 fp fk (Cc s P)∧Ck u0 pp pk (Cc mm P)∧(mm<n→C.getD mm 1≠0)∧V.length≤mm ∧
   ∃PL,VwIs u0 P n V PL∧scanI (C.drop 1) 0 1 1=(scanI (C.drop mm) d s mm).map fun x=>(PL++x.1,x.2))
  (fun(_,_,mm,_)=>n-mm) (fun _=>by show 7≤8;omega) (0,1,c0,[],p1,k1,p2,k2) [(7,some 6)] .z
  ⟨Nat.le_refl _,f1,f2,Nat.zero_le _,hp1,hp2',f3,Nat.zero_le _,[],trivial,by rw[f4];simp⟩ ?_
 rintro⟨d,s,mm,V,fp,fk,pp,pk⟩ u hu ⟨g1,g2,g3,g4,g5,g6,g7,g8,PL,g9,g10⟩
 have hsub:u0.sub u:=hw.trans hu.sub
 have hwu:∀ {w':World},Imm u w'→u0.sub (im w'):=fun hs=>hsub.trans (Au hs)
 have hqm:Ck u0 q j (Cc (n-mm) (Cc mm P)):=by rw[adv_add,show mm+(n-mm)=n by omega];exact hq
 have hsame:=g6.same hqm (by rw[hlen];omega)
 refine Az (Az (Ao Aa ?_))
 refine xl_binV (.bool (!(decide (pp=q)&&decide (pk=j)))) O O O O O O (fun w=>eqGuardPl _ _ _ _ _ _ w) (fun _ w' hw'=>run_nePl hw' (g6.blk.sub hsub) (hq.blk.sub hsub) pk j) ?_
 refine Ab Aa ?_
 refine Ao Aa ?_
 refine Ap (fun h1=>?_) (fun h1=>?_)
 have h1:(!(decide (pp=q)&&decide (pk=j)))=true:=h1
 have hm:mm<n:=by
  rcases Nat.lt_or_ge mm n with h|h
  exact h
  have:=hsame.2 (by omega)
  rw[decide_eq_true this.1,decide_eq_true this.2]at h1
  exact absurd h1 (by decide)
 refine x_cut (σ:=Nat×Nat×List Vw×Option Addr×Int) (fun(d,s,V,fp,fk)=>⟨[(12,.v (.bool false)),(11,.p 5 0),(10,.p 4 0),(9,.v (.int .i64 (d:Int))),(8,.p 3 0),(6,.p 2 0),(5,.p 1 0),(1,.e 0 8 0 0)],[],
  [(0,.sl (oneD (mCells m sa++[.int .i64 (id:Int),xi,xu]))),(1,.box 95 [.v (.pointer p),.v (.int .i64 k),.v (.pointer q),.v (.int .i64 j)]),(2,.box 159 [.v (.slice none 0 0),.v (.pointer none),.v (.pointer none),.v (.int .i64 0)]),(3,.box 159 [.r 9,.v (.pointer none),.v (.pointer none),.v (.int .i64 0)]),
   (4,.box 82 [.v (.pointer fp),.v (.int .i64 fk)]),(5,.box 82 [.v (.pointer pp),.v (.int .i64 pk)]),(9,.row 95 (vwY.d V))],10⟩)
  (fun(d,s,V,fp,fk) _=>1≤s∧s≤mm+1∧d≤mm+1∧Ck u0 fp fk (Cc s P)∧V.length≤mm+1∧∃PL,VwIs u0 P n V PL∧scanI (C.drop 1) 0 1 1=(scanI (C.drop (mm+1)) d s (mm+1)).map fun x=>(PL++x.1,x.2)) (fun _=>by show 8≤10;omega) ?_ ?_
 obtain⟨b,T,i,R,e⟩:=stk_pos (P:=Cc mm P) (by rw[hlen];omega)
 obtain⟨tad,ht1,ht2⟩:=token_any (e▸g6)
 obtain⟨t,ht⟩:∃t,t=T.getD i tv0:=⟨_,rfl⟩
 rw[←ht]at ht1
 have hiT:i<T.length:=(e▸g6:Ck u0 pp pk ((b,T,i)::R)).2.2.1
 have htm:(Bi P).getD mm tv0=t:=by
  have h9:=toks_adv mm hl1 hl2
  rw[e]at h9
  have h10:=congrArg (fun l=>l[0]?) h9
  simp only[Bi,List.getElem?_drop,Nat.add_zero]at h10
  rw[List.getElem?_append_left (by rw[List.length_drop];omega),List.getElem?_drop,Nat.add_zero]at h10
  rw[ht,List.getD_eq_getElem?_getD,List.getD_eq_getElem?_getD,←h10]
 have hcons:C.drop mm=clsT t::C.drop (mm+1):=by
  have:=hCg mm hm
  rw[htm]at this
  rw[←this,List.getD_eq_getElem?_getD,List.getElem?_eq_getElem (show mm<C.length by omega)]
  exact List.drop_eq_getElem_cons (by omega)
 have hne:clsT t≠0:=by
  have:=hCg mm hm
  rw[htm]at this
  rw[←this];exact g7 hm
 obtain⟨w1,w2,w3,w4⟩:=isF_cls t
 have w4:=w4 hne
 refine x_block ?_
 refine Ao Aa ?_
 refine Am (.pointer (some tad)) O O O O fn68 O O (fun E w' F hs=>ht2 w' (hwu hs.imm)) ?_
 refine Ab Aa ?_
 refine Am (.bool (isF t lpB)) O O O O fn71 O O (fun E w' F hs=>tis_any lpB w' (ht1.sub (hwu hs.imm))) ?_
 refine Ab Aa ?_
 refine Ap (fun h2=>?_) (fun h2=>?_)
 have h2:isF t lpB=true:=h2
 have hc:clsT t=1:=by rw[w1]at h2;exact of_decide_eq_true h2
 repeat refine sdI ?_
 refine Af (d+1,s,V,fp,fk) [(9,some 7)] .z ⟨g1,by omega,by omega,g5,by omega,PL,g9,?_⟩
 rw[g10,hcons,hc,scanI,if_pos rfl]
 have h2:isF t lpB=false:=h2
 have hc1':clsT t≠1:=by rw[w1]at h2;exact of_decide_eq_false h2
 refine Am (.bool (isF t rpB)) O O O O fn71 O O (fun E w' F hs=>tis_any rpB w' (ht1.sub (hwu hs.imm))) ?_
 refine Ab Aa ?_
 refine Ap (fun h3=>?_) (fun h3=>?_)
 have h3:(isF t rpB&&decide ((d:Int)=0))=true:=h3
 rw[Bool.and_eq_true]at h3
 have hc:clsT t=2:=by have:=h3.1;rw[w2]at this;exact of_decide_eq_true this
 have hd:d=0:=by have:=of_decide_eq_true h3.2;omega
 subst hd
 exact Af (true,V,fp,fk,pp,pk) [] .z ⟨fun h=>(by cases h),fun _=>⟨s,mm,PL,g1,g2,hm,g5,g6,g8,g9,by rw[g10,hcons,hc,scanI,if_neg (by decide),if_pos rfl,if_pos rfl];rfl⟩⟩
 have h3:(isF t rpB&&decide ((d:Int)=0))=false:=h3
 refine Am (.bool (isF t rpB)) O O O O fn71 O O (fun E w' F hs=>tis_any rpB w' (ht1.sub (hwu hs.imm))) ?_
 refine Ab Aa ?_
 refine Ap (fun h4=>?_) (fun h4=>?_)
 have h4:isF t rpB=true:=h4
 have hc:clsT t=2:=by rw[w2]at h4;exact of_decide_eq_true h4
 have hd:d≠0:=fun h0=>by rw[h4,h0]at h3;simp at h3
 repeat refine sdI ?_
 rw[show(d:Int)-1=((d-1:Nat):Int) by omega]
 refine Af (d-1,s,V,fp,fk) [(9,some 7)] .z ⟨g1,by omega,by omega,g5,by omega,PL,g9,?_⟩
 rw[g10,hcons,hc,scanI,if_neg (by decide),if_pos rfl,if_neg hd]
 have h4:isF t rpB=false:=h4
 have hc2':clsT t≠2:=by rw[w2]at h4;exact of_decide_eq_false h4
 have hc:clsT t=3:=(w4.resolve_left hc1').resolve_left hc2'
 refine Am (.bool (isF t cmB)) O O O O fn71 O O (fun E w' F hs=>tis_any cmB w' (ht1.sub (hwu hs.imm))) ?_
 refine Ab Aa ?_
 refine Ap (fun h5=>?_) (fun h5=>?_)
 have h5:(isF t cmB&&decide ((d:Int)=0))=true:=h5
 have hd:d=0:=by
  rw[Bool.and_eq_true]at h5
  have:=of_decide_eq_true h5.2
  omega
 subst hd
 refine xl_push Aa vwY V ⟨fp,fk,pp,pk⟩ 32 (cs:=[.pointer fp,.int .i64 fk,.pointer pp,.int .i64 pk]) O O O O O O O O O O O O (by kernel_rfl) O O O O O (fun n hn=>by cases hn;decide) O O O (by omega) (by omega) ?_
 refine Ab Aa ?_
 have hPm:Cc mm P≠[]:=by rw[e];exact fun h=>by cases h
 obtain⟨p5,k5,hp5,hc5⟩:=next_any g6 hPm
 have hp5:Ck u0 p5 k5 (Cc (mm+1) P):=by rw[adv_succ];exact hp5
 refine Am (plV p5 k5) O O O O fn69 O O (fun E w' F hs=>hc5 w' (hwu hs.imm)) ?_
 refine Ab Aa ?_
 refine Af (0,mm+1,V++[⟨fp,fk,pp,pk⟩],p5,k5) [(9,some 8)] .z ⟨by omega,Nat.le_refl _,by omega,hp5,by rw[List.length_append,List.length_singleton];omega,PL++[(s,mm)],g9.snoc ⟨g5,g6,g2,by omega⟩,?_⟩
 rw[g10,hcons,hc,scanI,if_neg (by decide),if_neg (by decide),if_pos ⟨rfl,rfl⟩,Option.map_map]
 congr 1
 funext x
 simp
 have h5:(isF t cmB&&decide ((d:Int)=0))=false:=h5
 have hd:d≠0:=fun h0=>by rw[w3,decide_eq_true hc,h0]at h5;simp at h5
 refine Af (d,s,V,fp,fk) [(9,some 7)] .z ⟨g1,by omega,by omega,g5,by omega,PL,g9,?_⟩
 rw[g10,hcons,hc,scanI,if_neg (by decide),if_neg (by decide),if_neg (by omega)]
 rintro⟨d',s',V',fp',fk'⟩ u3 hu3 ⟨b1,b2,b3,b4,b5,PL',b6,b7⟩
 have hsub3:u0.sub u3:=hsub.trans hu3.sub
 have hPm:Cc mm P≠[]:=fun h=>by
  have:=hlen mm
  rw[h]at this
  simp only[Bi,List.length_nil]at this
  omega
 obtain⟨p3,k3,hp3,hc3⟩:=next_any g6 hPm
 have hp3:Ck u0 p3 k3 (Cc (mm+1) P):=by rw[adv_succ];exact hp3
 have hq3:Ck u0 q j (Cc (n-(mm+1)) (Cc (mm+1) P)):=by rw[adv_add,show mm+1+(n-(mm+1))=n by omega];exact hq
 obtain⟨p4,k4,hp4,hc4⟩:=ppunct_any hp3 hq3 (by rw[hlen];omega)
 obtain⟨c1,e1,q1,q2,q3,q4⟩:=hpass (mm+1) (by omega)
 have hp4':Ck u0 p4 k4 (Cc c1 P):=by
  rw[adv_add,←e1]at hp4;exact hp4
 refine Bw mix ?_
 refine At Aa (fuel:=5) [2] rfl (by kernel_rfl) (by kernel_rfl) (fun _ _ _ hh=>hh) (by kernel_rfl) (by kernel_rfl) ?_
 refine Aq 0 3 (by kernel_rfl) O O ?_ ?_
 refine Ab Aa ?_
 refine Aq 1 3 (by kernel_rfl) O O ?_ ?_
 refine Am (plV p3 k3) O O O O fn69 O O (fun E w' F hs=>hc3 w' (hsub3.trans (Au hs.imm))) ?_
 refine Ad ?_
 refine Ae (fuel:=2) [3] O O (by kernel_rfl) (Ab Aa ?_)
 refine Ag 4 (by kernel_rfl) rfl ?_
 refine Am (plV p4 k4) O O O O fn101 O O (fun E w' F hs=>hc4 w' (hsub3.trans (Au hs.imm))) ?_
 refine Ad ?_
 refine Ae (fuel:=0) [5] O O (by kernel_rfl) (Ab Aa ?_)
 refine Aj (by kernel_rfl) rfl ?_
 exact Bj (d',s',c1,V',fp',fk',p4,k4) [(7,some 9)] .z ⟨b1,by omega,q2,by omega,b4,hp4',q3,by omega,PL',b6,by rw[b7,q4]⟩ (by show n-c1<n-mm;omega)
 refine Ab Aa ?_
 refine Ag 1 (by kernel_rfl) rfl ?_
 refine Am (plV p3 k3) O O O O fn69 O O (fun E w' F hs=>hc3 w' (hsub3.trans (Au hs.imm))) ?_
 refine Ad ?_
 refine Ag 4 (by kernel_rfl) rfl ?_
 refine Am (plV p4 k4) O O O O fn101 O O (fun E w' F hs=>hc4 w' (hsub3.trans (Au hs.imm))) ?_
 refine Ad ?_
 refine Ae (fuel:=0) [5] O O (by kernel_rfl) (Ab Aa ?_)
 refine Aj (by kernel_rfl) rfl ?_
 exact Bj (d',s',c1,V',fp',fk',p4,k4) [(7,some 9)] .z ⟨b1,by omega,q2,by omega,b4,hp4',q3,by omega,PL',b6,by rw[b7,q4]⟩ (by show n-c1<n-mm;omega)
 refine Ab Aa ?_
 refine Ae (fuel:=3) [0] O O (by kernel_rfl) (Ab Aa ?_)
 refine Ag 1 (by kernel_rfl) rfl ?_
 refine Am (plV p3 k3) O O O O fn69 O O (fun E w' F hs=>hc3 w' (hsub3.trans (Au hs.imm))) ?_
 refine Ad ?_
 refine Ag 4 (by kernel_rfl) rfl ?_
 refine Am (plV p4 k4) O O O O fn101 O O (fun E w' F hs=>hc4 w' (hsub3.trans (Au hs.imm))) ?_
 refine Ad ?_
 refine Ae (fuel:=0) [5] O O (by kernel_rfl) (Ab Aa ?_)
 refine Aj (by kernel_rfl) rfl ?_
 exact Bj (d',s',c1,V',fp',fk',p4,k4) [(7,some 9)] .z ⟨b1,by omega,q2,by omega,b4,hp4',q3,by omega,PL',b6,by rw[b7,q4]⟩ (by show n-c1<n-mm;omega)
 have h1:(!(decide (pp=q)&&decide (pk=j)))=false:=h1
 have hmn:mm=n:=by
  rcases Nat.lt_or_ge mm n with h|h
  have hx:¬(pp=q∧pk=j):=fun hh=>by
   have:=hsame.1 hh
   omega
  rw[Bool.not_eq_false',Bool.and_eq_true]at h1
  exact absurd ⟨of_decide_eq_true h1.1,of_decide_eq_true h1.2⟩ hx
  omega
 subst hmn
 exact Af (false,V,fp,fk,pp,pk) [] .z ⟨fun _=>by rw[g10,List.drop_of_length_le (by omega)];rfl,fun h=>(by cases h)⟩
 rintro⟨cl,V,fp,fk,pp,pk⟩ u3 hu3 ⟨g1,g2⟩
 have hsub:u0.sub u3:=hw.trans hu3.sub
 refine Az (Az (Ao Aa ?_))
 refine Ao Aa ?_
 refine Ap (fun h1=>?_) (fun h1=>?_)
 have h1:cl=false:=by simpa using h1
 refine finP (fun E w' F hs hle=>?_)
 unfold callX
 rw[List.map_drop,←hC,g1 h1]
 exact rfl
 have h1:cl=true:=by simpa using h1
 subst h1
 obtain⟨s,mm,PL,b1,b2,b3,b4,b5,b6,b7,b8⟩:=g2 rfl
 clear g1 g2
 have hPL:=b7.len
 refine Az (Ao Aa ?_)
 refine xl_push Aa vwY V ⟨fp,fk,pp,pk⟩ 32 (cs:=[.pointer fp,.int .i64 fk,.pointer pp,.int .i64 pk]) O O O O O O O O O O O O (by kernel_rfl) O O O O O (fun n hn=>by cases hn;decide) O O O (by omega) (by omega) ?_
 refine Ax 8 rfl (fun A c u4 hu4 hA hAn=>?_)
 refine Ab Aa ?_
 have hlt:mm<(Bi P).length:=by omega
 have hPm:Cc mm P≠[]:=fun h=>by
  have:=hlen mm
  rw[h]at this
  simp only[Bi,List.length_nil]at this
  omega
 obtain⟨bb,T,i,R,e⟩:=stk_pos (P:=Cc mm P) (by rw[hlen];omega)
 obtain⟨tad,ht1,ht2⟩:=token_any (e▸b5)
 obtain⟨t,ht⟩:∃t,t=T.getD i tv0:=⟨_,rfl⟩
 rw[←ht]at ht1
 have hiT:i<T.length:=(e▸b5:Ck u0 pp pk ((bb,T,i)::R)).2.2.1
 have htm:(Bi P)[mm]?=some t:=by
  have h9:=toks_adv mm hl1 hl2
  rw[e]at h9
  have h10:=congrArg (fun l=>l[0]?) h9
  simp only[Bi,List.getElem?_drop,Nat.add_zero]at h10
  rw[List.getElem?_append_left (by rw[List.length_drop];omega),List.getElem?_drop,Nat.add_zero]at h10
  rw[←h10,ht,List.getD_eq_getElem?_getD,List.getElem?_eq_getElem hiT];rfl
 obtain⟨x,hx,htx⟩:=hX.get (show((Bi P).take n)[mm]?=some t by rw[List.getElem?_take,if_pos b3];exact htm)
 obtain⟨p5,k5,hp5,hc5⟩:=next_any b5 hPm
 have hp5:Ck u0 p5 k5 (Cc (mm+1) P):=by rw[adv_succ];exact hp5
 have hsub:u0.sub u4:=hsub.trans hu4.sub
 have hwu:∀ {w':World},Imm u4 w'→u0.sub (im w'):=fun hs=>hsub.trans (Au hs)
 refine Az ?_
 refine x_via (σ:=Unit) (fun _=>⟨[(11,.p 5 0),(10,.p 4 0),(8,.p 3 0),(6,.p 2 0),(1,.e 0 8 0 0)],[],
  [(0,.sl (oneD (mCells m sa++[.int .i64 (id:Int),xi,xu]))),(2,.box 159 [.v (.slice none 0 0),.v (.pointer none),.v (.pointer none),.v (.int .i64 0)]),(3,.box 159 [.v (.slice A (V++[(⟨fp,fk,pp,pk⟩:Vw)]).length c),.v (.pointer t.hp),.v (.pointer p5),.v (.int .i64 k5)])],9⟩) (fun _ _=>True) (fun _=>by show 9≤9;omega) ?_ ?_
 refine Bw mix ?_
 refine Aq 0 5 (by kernel_rfl) O O ?_ ?_
 refine Ab Aa ?_
 refine Aq 1 5 (by kernel_rfl) O O ?_ ?_
 refine Am (.pointer (some tad)) O O O O fn68 O O (fun E w' F hs=>ht2 w' (hwu hs.imm)) ?_
 refine Ad ?_
 refine At Aa (fuel:=8) [2] rfl (by kernel_rfl) (by kernel_rfl) (fun _ _ _ hh=>hh) (by kernel_rfl) (by kernel_rfl) ?_
 refine Aq 3 5 (by kernel_rfl) O O ?_ ?_
 refine Cl Aa O O O O O O O ?_
 refine Ad ?_
 refine Aq 4 5 (by kernel_rfl) O O ?_ ?_
 refine Cr Aa (.pointer t.hp) O O O O O O O (fun _=>ht1.sub hsub 4 _ rfl) ?_
 refine Ad ?_
 refine At Aa (fuel:=5) [7] rfl (by kernel_rfl) (by kernel_rfl) (fun _ _ _ hh=>hh) (by kernel_rfl) (by kernel_rfl) ?_
 refine Ae (fuel:=4) [5] O O (by kernel_rfl) (Ab Aa ?_)
 refine Ag 6 (by kernel_rfl) rfl ?_
 refine Am (plV p5 k5) O O O O fn69 O O (fun E w' F hs=>hc5 w' (hwu hs.imm)) ?_
 refine Ad ?_
 refine Ae (fuel:=0) [8,9,10] O O (by kernel_rfl) (Ab Aa ?_)
 refine Aj (by kernel_rfl) rfl ?_
 exact Af () [] .z trivial
 refine Ab Aa ?_
 refine Aq 4 6 (by kernel_rfl) O O ?_ ?_
 refine Cr Aa (.pointer t.hp) O O O O O O O (fun _=>ht1.sub hsub 4 _ rfl) ?_
 refine Ad ?_
 refine At Aa (fuel:=4) [7] rfl (by kernel_rfl) (by kernel_rfl) (fun _ _ _ hh=>hh) (by kernel_rfl) (by kernel_rfl) ?_
 refine Ag 6 (by kernel_rfl) rfl ?_
 refine Am (plV p5 k5) O O O O fn69 O O (fun E w' F hs=>hc5 w' (hwu hs.imm)) ?_
 refine Ad ?_
 refine Ae (fuel:=0) [8,9,10] O O (by kernel_rfl) (Ab Aa ?_)
 refine Aj (by kernel_rfl) rfl ?_
 exact Af () [] .z trivial
 refine Am (plV p5 k5) O O O O fn69 O O (fun E w' F hs=>hc5 w' (hwu hs.imm)) ?_
 refine Ad ?_
 refine Ag 4 (by kernel_rfl) rfl ?_
 refine Cr Aa (.pointer t.hp) O O O O O O O (fun _=>ht1.sub hsub 4 _ rfl) ?_
 refine Ad ?_
 refine Ae (fuel:=0) [7,8,9,10] O O (by kernel_rfl) (Ab Aa ?_)
 refine Aj (by kernel_rfl) rfl ?_
 exact Af () [] .z trivial
 refine Ab Aa ?_
 refine Aq 3 6 (by kernel_rfl) O O ?_ ?_
 refine Cl Aa O O O O O O O ?_
 refine Ad ?_
 refine Aq 4 6 (by kernel_rfl) O O ?_ ?_
 refine Cr Aa (.pointer t.hp) O O O O O O O (fun _=>ht1.sub hsub 4 _ rfl) ?_
 refine Ad ?_
 refine At Aa (fuel:=4) [7] rfl (by kernel_rfl) (by kernel_rfl) (fun _ _ _ hh=>hh) (by kernel_rfl) (by kernel_rfl) ?_
 refine Ag 6 (by kernel_rfl) rfl ?_
 refine Am (plV p5 k5) O O O O fn69 O O (fun E w' F hs=>hc5 w' (hwu hs.imm)) ?_
 refine Ad ?_
 refine Ae (fuel:=0) [8,9,10] O O (by kernel_rfl) (Ab Aa ?_)
 refine Aj (by kernel_rfl) rfl ?_
 exact Af () [] .z trivial
 refine Am (plV p5 k5) O O O O fn69 O O (fun E w' F hs=>hc5 w' (hwu hs.imm)) ?_
 refine Ad ?_
 refine Ag 4 (by kernel_rfl) rfl ?_
 refine Cr Aa (.pointer t.hp) O O O O O O O (fun _=>ht1.sub hsub 4 _ rfl) ?_
 refine Ad ?_
 refine Ae (fuel:=0) [7,8,9,10] O O (by kernel_rfl) (Ab Aa ?_)
 refine Aj (by kernel_rfl) rfl ?_
 exact Af () [] .z trivial
 refine Am (plV p5 k5) O O O O fn69 O O (fun E w' F hs=>hc5 w' (hwu hs.imm)) ?_
 refine Ad ?_
 refine Ag 3 (by kernel_rfl) rfl ?_
 refine Cl Aa O O O O O O O ?_
 refine Ad ?_
 refine Ag 4 (by kernel_rfl) rfl ?_
 refine Cr Aa (.pointer t.hp) O O O O O O O (fun _=>ht1.sub hsub 4 _ rfl) ?_
 refine Ad ?_
 refine Ae (fuel:=0) [7,8,9,10] O O (by kernel_rfl) (Ab Aa ?_)
 refine Aj (by kernel_rfl) rfl ?_
 exact Af () [] .z trivial
 refine Ab Aa ?_
 refine Ag 1 (by kernel_rfl) rfl ?_
 refine Am (.pointer (some tad)) O O O O fn68 O O (fun E w' F hs=>ht2 w' (hwu hs.imm)) ?_
 refine Ad ?_
 refine At Aa (fuel:=7) [2] rfl (by kernel_rfl) (by kernel_rfl) (fun _ _ _ hh=>hh) (by kernel_rfl) (by kernel_rfl) ?_
 refine Aq 3 6 (by kernel_rfl) O O ?_ ?_
 refine Cl Aa O O O O O O O ?_
 refine Ad ?_
 refine Aq 4 6 (by kernel_rfl) O O ?_ ?_
 refine Cr Aa (.pointer t.hp) O O O O O O O (fun _=>ht1.sub hsub 4 _ rfl) ?_
 refine Ad ?_
 refine At Aa (fuel:=4) [7] rfl (by kernel_rfl) (by kernel_rfl) (fun _ _ _ hh=>hh) (by kernel_rfl) (by kernel_rfl) ?_
 refine Ag 6 (by kernel_rfl) rfl ?_
 refine Am (plV p5 k5) O O O O fn69 O O (fun E w' F hs=>hc5 w' (hwu hs.imm)) ?_
 refine Ad ?_
 refine Ae (fuel:=0) [8,9,10] O O (by kernel_rfl) (Ab Aa ?_)
 refine Aj (by kernel_rfl) rfl ?_
 exact Af () [] .z trivial
 refine Am (plV p5 k5) O O O O fn69 O O (fun E w' F hs=>hc5 w' (hwu hs.imm)) ?_
 refine Ad ?_
 refine Ag 4 (by kernel_rfl) rfl ?_
 refine Cr Aa (.pointer t.hp) O O O O O O O (fun _=>ht1.sub hsub 4 _ rfl) ?_
 refine Ad ?_
 refine Ae (fuel:=0) [7,8,9,10] O O (by kernel_rfl) (Ab Aa ?_)
 refine Aj (by kernel_rfl) rfl ?_
 exact Af () [] .z trivial
 refine Am (plV p5 k5) O O O O fn69 O O (fun E w' F hs=>hc5 w' (hwu hs.imm)) ?_
 refine Ad ?_
 refine Ag 3 (by kernel_rfl) rfl ?_
 refine Cl Aa O O O O O O O ?_
 refine Ad ?_
 refine Ag 4 (by kernel_rfl) rfl ?_
 refine Cr Aa (.pointer t.hp) O O O O O O O (fun _=>ht1.sub hsub 4 _ rfl) ?_
 refine Ad ?_
 refine Ae (fuel:=0) [7,8,9,10] O O (by kernel_rfl) (Ab Aa ?_)
 refine Aj (by kernel_rfl) rfl ?_
 exact Af () [] .z trivial
 refine Ab Aa ?_
 refine Ae (fuel:=9) [0] O O (by kernel_rfl) (Ab Aa ?_)
 refine Ag 1 (by kernel_rfl) rfl ?_
 refine Am (.pointer (some tad)) O O O O fn68 O O (fun E w' F hs=>ht2 w' (hwu hs.imm)) ?_
 refine Ad ?_
 refine At Aa (fuel:=7) [2] rfl (by kernel_rfl) (by kernel_rfl) (fun _ _ _ hh=>hh) (by kernel_rfl) (by kernel_rfl) ?_
 refine Aq 3 6 (by kernel_rfl) O O ?_ ?_
 refine Cl Aa O O O O O O O ?_
 refine Ad ?_
 refine Aq 4 6 (by kernel_rfl) O O ?_ ?_
 refine Cr Aa (.pointer t.hp) O O O O O O O (fun _=>ht1.sub hsub 4 _ rfl) ?_
 refine Ad ?_
 refine At Aa (fuel:=4) [7] rfl (by kernel_rfl) (by kernel_rfl) (fun _ _ _ hh=>hh) (by kernel_rfl) (by kernel_rfl) ?_
 refine Ag 6 (by kernel_rfl) rfl ?_
 refine Am (plV p5 k5) O O O O fn69 O O (fun E w' F hs=>hc5 w' (hwu hs.imm)) ?_
 refine Ad ?_
 refine Ae (fuel:=0) [8,9,10] O O (by kernel_rfl) (Ab Aa ?_)
 refine Aj (by kernel_rfl) rfl ?_
 exact Af () [] .z trivial
 refine Am (plV p5 k5) O O O O fn69 O O (fun E w' F hs=>hc5 w' (hwu hs.imm)) ?_
 refine Ad ?_
 refine Ag 4 (by kernel_rfl) rfl ?_
 refine Cr Aa (.pointer t.hp) O O O O O O O (fun _=>ht1.sub hsub 4 _ rfl) ?_
 refine Ad ?_
 refine Ae (fuel:=0) [7,8,9,10] O O (by kernel_rfl) (Ab Aa ?_)
 refine Aj (by kernel_rfl) rfl ?_
 exact Af () [] .z trivial
 refine Am (plV p5 k5) O O O O fn69 O O (fun E w' F hs=>hc5 w' (hwu hs.imm)) ?_
 refine Ad ?_
 refine Ag 3 (by kernel_rfl) rfl ?_
 refine Cl Aa O O O O O O O ?_
 refine Ad ?_
 refine Ag 4 (by kernel_rfl) rfl ?_
 refine Cr Aa (.pointer t.hp) O O O O O O O (fun _=>ht1.sub hsub 4 _ rfl) ?_
 refine Ad ?_
 refine Ae (fuel:=0) [7,8,9,10] O O (by kernel_rfl) (Ab Aa ?_)
 refine Aj (by kernel_rfl) rfl ?_
 exact Af () [] .z trivial
 rintro _ u5 hu5 -
 have hA:Aw u4 (.slice A (V++[(⟨fp,fk,pp,pk⟩:Vw)]).length c) (vwY.d (V++[(⟨fp,fk,pp,pk⟩:Vw)])):=hA
 have hsub5:u0.sub u5:=hsub.trans hu5.sub
 have hus:(im w).sub u5:=hu3.sub.trans (hu4.sub.trans hu5.sub)
 obtain⟨VL,hVL⟩:∃VL,VL=V++[(⟨fp,fk,pp,pk⟩:Vw)]:=⟨_,rfl⟩
 have hVLn:VL.length=V.length+1:=by rw[hVL,List.length_append,List.length_singleton]
 obtain⟨PLL,hPLL⟩:∃PLL,PLL=PL++[(s,mm)]:=⟨_,rfl⟩
 have hVI:VwIs u0 P n VL PLL:=by rw[hVL,hPLL];exact b7.snoc ⟨b4,b5,b2,by omega⟩
 rw[←hVL]at hA ⊢
 rw[←hPLL]at b8
 have hA5:Aw u5 (.slice A VL.length c) (vwY.d VL):=hA.mono hu5
 have hcl:VL.length≤c:=by
  have hA5':=hA5
  obtain⟨A',c',h1,h2,h3,h4⟩:=hA5'
  cases h1
  exact h2
 obtain⟨XSs,hXSs⟩:∃XSs,XSs=PLL.map (sliX X):=⟨_,rfl⟩
 have hVX:VwsX u0 VL XSs:=by rw[hXSs];exact hVI.vws hn hX hl1 hl2
 have hXl2:=hVX.len
 have hU:Aw (dif (im w) u5) (.slice A VL.length c) (vwY.d VL):=hA5.difOf (fun ad had=>dif_none hu3.sub (hAn ad had).1)
 have hXz:∀Y∈XSs,Y.length≤1000000:=fun Y hY=>by
  rw[hXSs]at hY
  obtain⟨ab,_,rfl⟩:=List.mem_map.1 hY
  unfold sliX
  rw[List.length_take,List.length_drop];omega
 refine Az (Ao Aa ?_)
 refine x_cut (σ:=Option Addr×Nat×Nat) (fun(B,bn,bc)=>⟨[(11,.p 5 0),(10,.p 4 0),(8,.p 3 0),(6,.p 2 0),(1,.e 0 8 0 0)],[],
  [(0,.sl (oneD (mCells m sa++[.int .i64 (id:Int),xi,xu]))),(2,.box 159 [.v (.slice none 0 0),.v (.pointer none),.v (.pointer none),.v (.int .i64 0)]),(3,.box 159 [.v (.slice B bn bc),.v (.pointer t.hp),.v (.pointer p5),.v (.int .i64 k5)])],12⟩)
  (fun(B,bn,bc) u=>∃L XS,bndX m.ps.length m.va XSs=some XS∧bn=L.length∧Nw u0 (dif (im w) u) (fun v=>Aw v (.slice B bn bc) (vwY.d L)∧VwsX v L XS)) (fun _=>by show 9≤12;omega) ?_ ?_
 refine x_block ?_
 refine Az (Ao Aa ?_)
 refine x_cond (b:=m.va&&decide ((VL.length:Int) > (m.ps.length:Int))) rfl (fun h3=>?_) (fun h3=>?_)
 rw[Bool.and_eq_true]at h3
 have hva:=h3.1
 have hlt:m.ps.length<VL.length:=by have:=of_decide_eq_true h3.2;omega
 have htl:(VL.take m.ps.length).length=m.ps.length:=by rw[List.length_take];omega
 have hst:Aw u5 (.slice A (VL.take m.ps.length).length (VL.take m.ps.length).length) (vwY.d (VL.take m.ps.length)):=by
  have h9:=Aw.full (hA5.take (h:=m.ps.length) (by omega))
  rw[htl];exact h9
 have hjoin:∀w':World,(Bf u0 (dif (im w) u5)).sub (im w')→Calls Tryz.prog 102 #[partV 4 A c ((m.ps.length:Nat):Int).toNat VL.length] w' (Bc w' fun v u1=>∃vw:Vw,v=vw.val∧Nw (Bf u0 (dif (im w) u5)) u1 (fun v=>VwX v vw (joinX (XSs.drop m.ps.length)))):=fun w' hw'=>by
  have h9:Aw (Bf u0 (dif (im w) u5)) (partV 4 A c m.ps.length VL.length) (vwY.d (VL.drop m.ps.length)):=by
   have:=partV_slAt (Y:=vwY) (hU.sub (joinI_new hw)) (l:=m.ps.length) (h:=VL.length) (by omega) (Nat.le_refl _)
   rw[List.take_length]at this
   exact this
  obtain⟨A',c',h10⟩:=h9.form
  rw[Lay.d_n]at h10
  rw[Int.toNat_natCast]
  rw[h10]at h9 ⊢
  exact joined_any h9 ((hVX.drop m.ps.length).sub (joinI_old _ _)) (by rw[List.length_drop];omega) (by rw[List.length_drop];omega) (fun Y hY=>hXz Y (List.mem_of_mem_drop hY)) w' hw'
 have hfin:∀(vw:Vw) (u1 u6 u7:Im) (A2:Option Addr) (c2:Nat),u5.le u6→u1.sub (dif u5 u6)→Nw (Bf u0 (dif (im w) u5)) u1 (fun v=>VwX v vw (joinX (XSs.drop m.ps.length)))→u6.le u7→Aw u7 (.slice A2 (vwY.d (VL.take m.ps.length++[vw])).n c2) (vwY.d (VL.take m.ps.length++[vw])) →
  (∀ad,A2=some ad→u6.h ad.block=none∧ad.spot=none)→∃L XS,bndX m.ps.length m.va XSs=some XS∧(vwY.d (VL.take m.ps.length++[vw])).n=L.length∧Nw u0 (dif (im w) u7) (fun v=>Aw v (.slice A2 (vwY.d (VL.take m.ps.length++[vw])).n c2) (vwY.d L)∧VwsX v L XS):=fun vw u1 u6 u7 A2 c2 hu6 hn6 hvw hu7 hA2 hA2n=>by
  refine⟨VL.take m.ps.length++[vw],XSs.take m.ps.length++[joinX (XSs.drop m.ps.length)],?_,Lay.d_n _ _,fun v a b=>⟨?_,?_⟩⟩
  unfold bndX
  rw[if_pos ⟨hva,by omega⟩]
  exact(hA2.difOf (us:=im w) (fun ad had=>dif_none (hus.trans hu6.sub) (hA2n ad had).1)).sub b
  exact((hVX.sub a).take m.ps.length).snoc ((Nw.lift hw hus hu6.sub (hvw.sub hn6)).at a ((Ba hu7.sub).trans b))
 refine Bw mix ?_
 refine At Aa (fuel:=9) [0,2,3,5,7] rfl (by kernel_rfl) (by kernel_rfl) (fun _ _ _ hh=>hh) (by kernel_rfl) (by kernel_rfl) ?_
 refine Aq 1 6 (by kernel_rfl) O O ?_ ?_
 refine Ab Aa ?_
 refine Aq 4 6 (by kernel_rfl) O O ?_ ?_
 refine xl_to3 Aa O O O O O O O O O O (by omega) (by omega) ?_
 refine xl_eqv 111 (.slice A (VL.take m.ps.length).length (VL.take m.ps.length).length) rfl (by rw[htl];rfl) ?_
 refine Ad ?_
 refine Ae (fuel:=6) [6] O O (by kernel_rfl) (Ab Aa ?_)
 refine Ag 8 (by kernel_rfl) rfl ?_
 refine xl_fromE Aa O O O O O O O O O (by omega) (by omega) ?_
 refine Ad ?_
 refine Ag 9 (by kernel_rfl) rfl ?_
 refine Ar (fun v u1=>∃vw:Vw,v=vw.val∧Nw (Bf u0 (dif (im w) u5)) u1 (fun v=>VwX v vw (joinX (XSs.drop m.ps.length)))) O O O O fn102 O O (fun E w' F hs=>hjoin w' (Bn (hsub5.trans (Au hs.imm)) ((Bl _ _).trans (Au hs.imm)))) (fun v u1 u6 hu6 hn6 hR=>?_)
 obtain⟨vw,rfl,hvw⟩:=hR
 refine Ad ?_
 refine Ag 10 (by kernel_rfl) rfl ?_
 refine As Aa vwY [vw] [_] O O O O O O O O O O O O O O O ?_
 refine Ad ?_
 refine Ag 11 (by kernel_rfl) rfl ?_
 refine xl_appF Aa vwY (VL.take m.ps.length) [vw] 32 O O O O O O O O (by kernel_rfl) rfl (hst.mono hu6) (by show 0<1;omega) rfl (fun E w F hs=>hs.rowAt (k:=9) rfl) vwOne rfl (by rw[htl,List.length_singleton];omega) (by rw[htl,List.length_singleton];omega) ?_
 refine Ad ?_
 refine Ae (fuel:=1) [12] O O (by kernel_rfl) (Ab Aa ?_)
 refine Ag 13 (by kernel_rfl) rfl ?_
 refine Ax 10 rfl (fun A2 c2 u7 hu7 hA2 hA2n=>?_)
 refine Ab Aa ?_
 refine Aj (by kernel_rfl) rfl ?_
 exact Af (A2,(vwY.d (VL.take m.ps.length++[vw])).n,c2) [] .z (hfin vw u1 u6 u7 A2 c2 hu6 hn6 hvw hu7 hA2 hA2n)
 refine Ab Aa ?_
 refine Aq 4 8 (by kernel_rfl) O O ?_ ?_
 refine xl_to3 Aa O O O O O O O O O O (by omega) (by omega) ?_
 refine xl_eqv 111 (.slice A (VL.take m.ps.length).length (VL.take m.ps.length).length) rfl (by rw[htl];rfl) ?_
 refine Ad ?_
 refine Ag 8 (by kernel_rfl) rfl ?_
 refine xl_fromE Aa O O O O O O O O O (by omega) (by omega) ?_
 refine Ad ?_
 refine Ag 9 (by kernel_rfl) rfl ?_
 refine Ar (fun v u1=>∃vw:Vw,v=vw.val∧Nw (Bf u0 (dif (im w) u5)) u1 (fun v=>VwX v vw (joinX (XSs.drop m.ps.length)))) O O O O fn102 O O (fun E w' F hs=>hjoin w' (Bn (hsub5.trans (Au hs.imm)) ((Bl _ _).trans (Au hs.imm)))) (fun v u1 u6 hu6 hn6 hR=>?_)
 obtain⟨vw,rfl,hvw⟩:=hR
 refine Ad ?_
 refine Ag 10 (by kernel_rfl) rfl ?_
 refine As Aa vwY [vw] [_] O O O O O O O O O O O O O O O ?_
 refine Ad ?_
 refine Ag 11 (by kernel_rfl) rfl ?_
 refine xl_appF Aa vwY (VL.take m.ps.length) [vw] 32 O O O O O O O O (by kernel_rfl) rfl (hst.mono hu6) (by show 0<1;omega) rfl (fun E w F hs=>hs.rowAt (k:=9) rfl) vwOne rfl (by rw[htl,List.length_singleton];omega) (by rw[htl,List.length_singleton];omega) ?_
 refine Ad ?_
 refine Ae (fuel:=1) [12] O O (by kernel_rfl) (Ab Aa ?_)
 refine Ag 13 (by kernel_rfl) rfl ?_
 refine Ax 10 rfl (fun A2 c2 u7 hu7 hA2 hA2n=>?_)
 refine Ab Aa ?_
 refine Aj (by kernel_rfl) rfl ?_
 exact Af (A2,(vwY.d (VL.take m.ps.length++[vw])).n,c2) [] .z (hfin vw u1 u6 u7 A2 c2 hu6 hn6 hvw hu7 hA2 hA2n)
 refine xl_fromE Aa O O O O O O O O O (by omega) (by omega) ?_
 refine Ad ?_
 refine Aq 4 9 (by kernel_rfl) O O ?_ ?_
 refine xl_to3 Aa O O O O O O O O O O (by omega) (by omega) ?_
 refine xl_eqv 111 (.slice A (VL.take m.ps.length).length (VL.take m.ps.length).length) rfl (by rw[htl];rfl) ?_
 refine Ad ?_
 refine Ag 9 (by kernel_rfl) rfl ?_
 refine Ar (fun v u1=>∃vw:Vw,v=vw.val∧Nw (Bf u0 (dif (im w) u5)) u1 (fun v=>VwX v vw (joinX (XSs.drop m.ps.length)))) O O O O fn102 O O (fun E w' F hs=>hjoin w' (Bn (hsub5.trans (Au hs.imm)) ((Bl _ _).trans (Au hs.imm)))) (fun v u1 u6 hu6 hn6 hR=>?_)
 obtain⟨vw,rfl,hvw⟩:=hR
 refine Ad ?_
 refine Ag 10 (by kernel_rfl) rfl ?_
 refine As Aa vwY [vw] [_] O O O O O O O O O O O O O O O ?_
 refine Ad ?_
 refine Ag 11 (by kernel_rfl) rfl ?_
 refine xl_appF Aa vwY (VL.take m.ps.length) [vw] 32 O O O O O O O O (by kernel_rfl) rfl (hst.mono hu6) (by show 0<1;omega) rfl (fun E w F hs=>hs.rowAt (k:=9) rfl) vwOne rfl (by rw[htl,List.length_singleton];omega) (by rw[htl,List.length_singleton];omega) ?_
 refine Ad ?_
 refine Ae (fuel:=1) [12] O O (by kernel_rfl) (Ab Aa ?_)
 refine Ag 13 (by kernel_rfl) rfl ?_
 refine Ax 10 rfl (fun A2 c2 u7 hu7 hA2 hA2n=>?_)
 refine Ab Aa ?_
 refine Aj (by kernel_rfl) rfl ?_
 exact Af (A2,(vwY.d (VL.take m.ps.length++[vw])).n,c2) [] .z (hfin vw u1 u6 u7 A2 c2 hu6 hn6 hvw hu7 hA2 hA2n)
 refine Ar (fun v u1=>∃vw:Vw,v=vw.val∧Nw (Bf u0 (dif (im w) u5)) u1 (fun v=>VwX v vw (joinX (XSs.drop m.ps.length)))) O O O O fn102 O O (fun E w' F hs=>hjoin w' (Bn (hsub5.trans (Au hs.imm)) ((Bl _ _).trans (Au hs.imm)))) (fun v u1 u6 hu6 hn6 hR=>?_)
 obtain⟨vw,rfl,hvw⟩:=hR
 refine Ad ?_
 refine Aq 4 10 (by kernel_rfl) O O ?_ ?_
 refine xl_to3 Aa O O O O O O O O O O (by omega) (by omega) ?_
 refine xl_eqv 111 (.slice A (VL.take m.ps.length).length (VL.take m.ps.length).length) rfl (by rw[htl];rfl) ?_
 refine Ad ?_
 refine Ag 10 (by kernel_rfl) rfl ?_
 refine As Aa vwY [vw] [_] O O O O O O O O O O O O O O O ?_
 refine Ad ?_
 refine Ag 11 (by kernel_rfl) rfl ?_
 refine xl_appF Aa vwY (VL.take m.ps.length) [vw] 32 O O O O O O O O (by kernel_rfl) rfl (hst.mono hu6) (by show 0<1;omega) rfl (fun E w F hs=>hs.rowAt (k:=9) rfl) vwOne rfl (by rw[htl,List.length_singleton];omega) (by rw[htl,List.length_singleton];omega) ?_
 refine Ad ?_
 refine Ae (fuel:=1) [12] O O (by kernel_rfl) (Ab Aa ?_)
 refine Ag 13 (by kernel_rfl) rfl ?_
 refine Ax 10 rfl (fun A2 c2 u7 hu7 hA2 hA2n=>?_)
 refine Ab Aa ?_
 refine Aj (by kernel_rfl) rfl ?_
 exact Af (A2,(vwY.d (VL.take m.ps.length++[vw])).n,c2) [] .z (hfin vw u1 u6 u7 A2 c2 hu6 hn6 hvw hu7 hA2 hA2n)
 refine As Aa vwY [vw] [_] O O O O O O O O O O O O O O O ?_
 refine Ad ?_
 refine Ag 4 (by kernel_rfl) rfl ?_
 refine xl_to3 Aa O O O O O O O O O O (by omega) (by omega) ?_
 refine xl_eqv 111 (.slice A (VL.take m.ps.length).length (VL.take m.ps.length).length) rfl (by rw[htl];rfl) ?_
 refine Ad ?_
 refine Ag 11 (by kernel_rfl) rfl ?_
 refine xl_appF Aa vwY (VL.take m.ps.length) [vw] 32 O O O O O O O O (by kernel_rfl) rfl (hst.mono hu6) (by show 0<1;omega) rfl (fun E w F hs=>hs.rowAt (k:=9) rfl) vwOne rfl (by rw[htl,List.length_singleton];omega) (by rw[htl,List.length_singleton];omega) ?_
 refine Ad ?_
 refine Ae (fuel:=1) [12] O O (by kernel_rfl) (Ab Aa ?_)
 refine Ag 13 (by kernel_rfl) rfl ?_
 refine Ax 10 rfl (fun A2 c2 u7 hu7 hA2 hA2n=>?_)
 refine Ab Aa ?_
 refine Aj (by kernel_rfl) rfl ?_
 exact Af (A2,(vwY.d (VL.take m.ps.length++[vw])).n,c2) [] .z (hfin vw u1 u6 u7 A2 c2 hu6 hn6 hvw hu7 hA2 hA2n)
 refine Ab Aa ?_
 refine Aq 1 8 (by kernel_rfl) O O ?_ ?_
 refine Ab Aa ?_
 refine Aq 4 8 (by kernel_rfl) O O ?_ ?_
 refine xl_to3 Aa O O O O O O O O O O (by omega) (by omega) ?_
 refine xl_eqv 111 (.slice A (VL.take m.ps.length).length (VL.take m.ps.length).length) rfl (by rw[htl];rfl) ?_
 refine Ad ?_
 refine Ag 8 (by kernel_rfl) rfl ?_
 refine xl_fromE Aa O O O O O O O O O (by omega) (by omega) ?_
 refine Ad ?_
 refine Ag 9 (by kernel_rfl) rfl ?_
 refine Ar (fun v u1=>∃vw:Vw,v=vw.val∧Nw (Bf u0 (dif (im w) u5)) u1 (fun v=>VwX v vw (joinX (XSs.drop m.ps.length)))) O O O O fn102 O O (fun E w' F hs=>hjoin w' (Bn (hsub5.trans (Au hs.imm)) ((Bl _ _).trans (Au hs.imm)))) (fun v u1 u6 hu6 hn6 hR=>?_)
 obtain⟨vw,rfl,hvw⟩:=hR
 refine Ad ?_
 refine Ag 10 (by kernel_rfl) rfl ?_
 refine As Aa vwY [vw] [_] O O O O O O O O O O O O O O O ?_
 refine Ad ?_
 refine Ag 11 (by kernel_rfl) rfl ?_
 refine xl_appF Aa vwY (VL.take m.ps.length) [vw] 32 O O O O O O O O (by kernel_rfl) rfl (hst.mono hu6) (by show 0<1;omega) rfl (fun E w F hs=>hs.rowAt (k:=9) rfl) vwOne rfl (by rw[htl,List.length_singleton];omega) (by rw[htl,List.length_singleton];omega) ?_
 refine Ad ?_
 refine Ae (fuel:=1) [12] O O (by kernel_rfl) (Ab Aa ?_)
 refine Ag 13 (by kernel_rfl) rfl ?_
 refine Ax 10 rfl (fun A2 c2 u7 hu7 hA2 hA2n=>?_)
 refine Ab Aa ?_
 refine Aj (by kernel_rfl) rfl ?_
 exact Af (A2,(vwY.d (VL.take m.ps.length++[vw])).n,c2) [] .z (hfin vw u1 u6 u7 A2 c2 hu6 hn6 hvw hu7 hA2 hA2n)
 refine xl_fromE Aa O O O O O O O O O (by omega) (by omega) ?_
 refine Ad ?_
 refine Aq 4 9 (by kernel_rfl) O O ?_ ?_
 refine xl_to3 Aa O O O O O O O O O O (by omega) (by omega) ?_
 refine xl_eqv 111 (.slice A (VL.take m.ps.length).length (VL.take m.ps.length).length) rfl (by rw[htl];rfl) ?_
 refine Ad ?_
 refine Ag 9 (by kernel_rfl) rfl ?_
 refine Ar (fun v u1=>∃vw:Vw,v=vw.val∧Nw (Bf u0 (dif (im w) u5)) u1 (fun v=>VwX v vw (joinX (XSs.drop m.ps.length)))) O O O O fn102 O O (fun E w' F hs=>hjoin w' (Bn (hsub5.trans (Au hs.imm)) ((Bl _ _).trans (Au hs.imm)))) (fun v u1 u6 hu6 hn6 hR=>?_)
 obtain⟨vw,rfl,hvw⟩:=hR
 refine Ad ?_
 refine Ag 10 (by kernel_rfl) rfl ?_
 refine As Aa vwY [vw] [_] O O O O O O O O O O O O O O O ?_
 refine Ad ?_
 refine Ag 11 (by kernel_rfl) rfl ?_
 refine xl_appF Aa vwY (VL.take m.ps.length) [vw] 32 O O O O O O O O (by kernel_rfl) rfl (hst.mono hu6) (by show 0<1;omega) rfl (fun E w F hs=>hs.rowAt (k:=9) rfl) vwOne rfl (by rw[htl,List.length_singleton];omega) (by rw[htl,List.length_singleton];omega) ?_
 refine Ad ?_
 refine Ae (fuel:=1) [12] O O (by kernel_rfl) (Ab Aa ?_)
 refine Ag 13 (by kernel_rfl) rfl ?_
 refine Ax 10 rfl (fun A2 c2 u7 hu7 hA2 hA2n=>?_)
 refine Ab Aa ?_
 refine Aj (by kernel_rfl) rfl ?_
 exact Af (A2,(vwY.d (VL.take m.ps.length++[vw])).n,c2) [] .z (hfin vw u1 u6 u7 A2 c2 hu6 hn6 hvw hu7 hA2 hA2n)
 refine Ar (fun v u1=>∃vw:Vw,v=vw.val∧Nw (Bf u0 (dif (im w) u5)) u1 (fun v=>VwX v vw (joinX (XSs.drop m.ps.length)))) O O O O fn102 O O (fun E w' F hs=>hjoin w' (Bn (hsub5.trans (Au hs.imm)) ((Bl _ _).trans (Au hs.imm)))) (fun v u1 u6 hu6 hn6 hR=>?_)
 obtain⟨vw,rfl,hvw⟩:=hR
 refine Ad ?_
 refine Aq 4 10 (by kernel_rfl) O O ?_ ?_
 refine xl_to3 Aa O O O O O O O O O O (by omega) (by omega) ?_
 refine xl_eqv 111 (.slice A (VL.take m.ps.length).length (VL.take m.ps.length).length) rfl (by rw[htl];rfl) ?_
 refine Ad ?_
 refine Ag 10 (by kernel_rfl) rfl ?_
 refine As Aa vwY [vw] [_] O O O O O O O O O O O O O O O ?_
 refine Ad ?_
 refine Ag 11 (by kernel_rfl) rfl ?_
 refine xl_appF Aa vwY (VL.take m.ps.length) [vw] 32 O O O O O O O O (by kernel_rfl) rfl (hst.mono hu6) (by show 0<1;omega) rfl (fun E w F hs=>hs.rowAt (k:=9) rfl) vwOne rfl (by rw[htl,List.length_singleton];omega) (by rw[htl,List.length_singleton];omega) ?_
 refine Ad ?_
 refine Ae (fuel:=1) [12] O O (by kernel_rfl) (Ab Aa ?_)
 refine Ag 13 (by kernel_rfl) rfl ?_
 refine Ax 10 rfl (fun A2 c2 u7 hu7 hA2 hA2n=>?_)
 refine Ab Aa ?_
 refine Aj (by kernel_rfl) rfl ?_
 exact Af (A2,(vwY.d (VL.take m.ps.length++[vw])).n,c2) [] .z (hfin vw u1 u6 u7 A2 c2 hu6 hn6 hvw hu7 hA2 hA2n)
 refine As Aa vwY [vw] [_] O O O O O O O O O O O O O O O ?_
 refine Ad ?_
 refine Ag 4 (by kernel_rfl) rfl ?_
 refine xl_to3 Aa O O O O O O O O O O (by omega) (by omega) ?_
 refine xl_eqv 111 (.slice A (VL.take m.ps.length).length (VL.take m.ps.length).length) rfl (by rw[htl];rfl) ?_
 refine Ad ?_
 refine Ag 11 (by kernel_rfl) rfl ?_
 refine xl_appF Aa vwY (VL.take m.ps.length) [vw] 32 O O O O O O O O (by kernel_rfl) rfl (hst.mono hu6) (by show 0<1;omega) rfl (fun E w F hs=>hs.rowAt (k:=9) rfl) vwOne rfl (by rw[htl,List.length_singleton];omega) (by rw[htl,List.length_singleton];omega) ?_
 refine Ad ?_
 refine Ae (fuel:=1) [12] O O (by kernel_rfl) (Ab Aa ?_)
 refine Ag 13 (by kernel_rfl) rfl ?_
 refine Ax 10 rfl (fun A2 c2 u7 hu7 hA2 hA2n=>?_)
 refine Ab Aa ?_
 refine Aj (by kernel_rfl) rfl ?_
 exact Af (A2,(vwY.d (VL.take m.ps.length++[vw])).n,c2) [] .z (hfin vw u1 u6 u7 A2 c2 hu6 hn6 hvw hu7 hA2 hA2n)
 refine xl_fromE Aa O O O O O O O O O (by omega) (by omega) ?_
 refine Ad ?_
 refine Aq 1 9 (by kernel_rfl) O O ?_ ?_
 refine Ab Aa ?_
 refine Aq 4 9 (by kernel_rfl) O O ?_ ?_
 refine xl_to3 Aa O O O O O O O O O O (by omega) (by omega) ?_
 refine xl_eqv 111 (.slice A (VL.take m.ps.length).length (VL.take m.ps.length).length) rfl (by rw[htl];rfl) ?_
 refine Ad ?_
 refine Ag 9 (by kernel_rfl) rfl ?_
 refine Ar (fun v u1=>∃vw:Vw,v=vw.val∧Nw (Bf u0 (dif (im w) u5)) u1 (fun v=>VwX v vw (joinX (XSs.drop m.ps.length)))) O O O O fn102 O O (fun E w' F hs=>hjoin w' (Bn (hsub5.trans (Au hs.imm)) ((Bl _ _).trans (Au hs.imm)))) (fun v u1 u6 hu6 hn6 hR=>?_)
 obtain⟨vw,rfl,hvw⟩:=hR
 refine Ad ?_
 refine Ag 10 (by kernel_rfl) rfl ?_
 refine As Aa vwY [vw] [_] O O O O O O O O O O O O O O O ?_
 refine Ad ?_
 refine Ag 11 (by kernel_rfl) rfl ?_
 refine xl_appF Aa vwY (VL.take m.ps.length) [vw] 32 O O O O O O O O (by kernel_rfl) rfl (hst.mono hu6) (by show 0<1;omega) rfl (fun E w F hs=>hs.rowAt (k:=9) rfl) vwOne rfl (by rw[htl,List.length_singleton];omega) (by rw[htl,List.length_singleton];omega) ?_
 refine Ad ?_
 refine Ae (fuel:=1) [12] O O (by kernel_rfl) (Ab Aa ?_)
 refine Ag 13 (by kernel_rfl) rfl ?_
 refine Ax 10 rfl (fun A2 c2 u7 hu7 hA2 hA2n=>?_)
 refine Ab Aa ?_
 refine Aj (by kernel_rfl) rfl ?_
 exact Af (A2,(vwY.d (VL.take m.ps.length++[vw])).n,c2) [] .z (hfin vw u1 u6 u7 A2 c2 hu6 hn6 hvw hu7 hA2 hA2n)
 refine Ar (fun v u1=>∃vw:Vw,v=vw.val∧Nw (Bf u0 (dif (im w) u5)) u1 (fun v=>VwX v vw (joinX (XSs.drop m.ps.length)))) O O O O fn102 O O (fun E w' F hs=>hjoin w' (Bn (hsub5.trans (Au hs.imm)) ((Bl _ _).trans (Au hs.imm)))) (fun v u1 u6 hu6 hn6 hR=>?_)
 obtain⟨vw,rfl,hvw⟩:=hR
 refine Ad ?_
 refine Aq 4 10 (by kernel_rfl) O O ?_ ?_
 refine xl_to3 Aa O O O O O O O O O O (by omega) (by omega) ?_
 refine xl_eqv 111 (.slice A (VL.take m.ps.length).length (VL.take m.ps.length).length) rfl (by rw[htl];rfl) ?_
 refine Ad ?_
 refine Ag 10 (by kernel_rfl) rfl ?_
 refine As Aa vwY [vw] [_] O O O O O O O O O O O O O O O ?_
 refine Ad ?_
 refine Ag 11 (by kernel_rfl) rfl ?_
 refine xl_appF Aa vwY (VL.take m.ps.length) [vw] 32 O O O O O O O O (by kernel_rfl) rfl (hst.mono hu6) (by show 0<1;omega) rfl (fun E w F hs=>hs.rowAt (k:=9) rfl) vwOne rfl (by rw[htl,List.length_singleton];omega) (by rw[htl,List.length_singleton];omega) ?_
 refine Ad ?_
 refine Ae (fuel:=1) [12] O O (by kernel_rfl) (Ab Aa ?_)
 refine Ag 13 (by kernel_rfl) rfl ?_
 refine Ax 10 rfl (fun A2 c2 u7 hu7 hA2 hA2n=>?_)
 refine Ab Aa ?_
 refine Aj (by kernel_rfl) rfl ?_
 exact Af (A2,(vwY.d (VL.take m.ps.length++[vw])).n,c2) [] .z (hfin vw u1 u6 u7 A2 c2 hu6 hn6 hvw hu7 hA2 hA2n)
 refine As Aa vwY [vw] [_] O O O O O O O O O O O O O O O ?_
 refine Ad ?_
 refine Ag 4 (by kernel_rfl) rfl ?_
 refine xl_to3 Aa O O O O O O O O O O (by omega) (by omega) ?_
 refine xl_eqv 111 (.slice A (VL.take m.ps.length).length (VL.take m.ps.length).length) rfl (by rw[htl];rfl) ?_
 refine Ad ?_
 refine Ag 11 (by kernel_rfl) rfl ?_
 refine xl_appF Aa vwY (VL.take m.ps.length) [vw] 32 O O O O O O O O (by kernel_rfl) rfl (hst.mono hu6) (by show 0<1;omega) rfl (fun E w F hs=>hs.rowAt (k:=9) rfl) vwOne rfl (by rw[htl,List.length_singleton];omega) (by rw[htl,List.length_singleton];omega) ?_
 refine Ad ?_
 refine Ae (fuel:=1) [12] O O (by kernel_rfl) (Ab Aa ?_)
 refine Ag 13 (by kernel_rfl) rfl ?_
 refine Ax 10 rfl (fun A2 c2 u7 hu7 hA2 hA2n=>?_)
 refine Ab Aa ?_
 refine Aj (by kernel_rfl) rfl ?_
 exact Af (A2,(vwY.d (VL.take m.ps.length++[vw])).n,c2) [] .z (hfin vw u1 u6 u7 A2 c2 hu6 hn6 hvw hu7 hA2 hA2n)
 refine Ar (fun v u1=>∃vw:Vw,v=vw.val∧Nw (Bf u0 (dif (im w) u5)) u1 (fun v=>VwX v vw (joinX (XSs.drop m.ps.length)))) O O O O fn102 O O (fun E w' F hs=>hjoin w' (Bn (hsub5.trans (Au hs.imm)) ((Bl _ _).trans (Au hs.imm)))) (fun v u1 u6 hu6 hn6 hR=>?_)
 obtain⟨vw,rfl,hvw⟩:=hR
 refine Ad ?_
 refine Aq 1 10 (by kernel_rfl) O O ?_ ?_
 refine Ab Aa ?_
 refine Aq 4 10 (by kernel_rfl) O O ?_ ?_
 refine xl_to3 Aa O O O O O O O O O O (by omega) (by omega) ?_
 refine xl_eqv 111 (.slice A (VL.take m.ps.length).length (VL.take m.ps.length).length) rfl (by rw[htl];rfl) ?_
 refine Ad ?_
 refine Ag 10 (by kernel_rfl) rfl ?_
 refine As Aa vwY [vw] [_] O O O O O O O O O O O O O O O ?_
 refine Ad ?_
 refine Ag 11 (by kernel_rfl) rfl ?_
 refine xl_appF Aa vwY (VL.take m.ps.length) [vw] 32 O O O O O O O O (by kernel_rfl) rfl (hst.mono hu6) (by show 0<1;omega) rfl (fun E w F hs=>hs.rowAt (k:=9) rfl) vwOne rfl (by rw[htl,List.length_singleton];omega) (by rw[htl,List.length_singleton];omega) ?_
 refine Ad ?_
 refine Ae (fuel:=1) [12] O O (by kernel_rfl) (Ab Aa ?_)
 refine Ag 13 (by kernel_rfl) rfl ?_
 refine Ax 10 rfl (fun A2 c2 u7 hu7 hA2 hA2n=>?_)
 refine Ab Aa ?_
 refine Aj (by kernel_rfl) rfl ?_
 exact Af (A2,(vwY.d (VL.take m.ps.length++[vw])).n,c2) [] .z (hfin vw u1 u6 u7 A2 c2 hu6 hn6 hvw hu7 hA2 hA2n)
 refine As Aa vwY [vw] [_] O O O O O O O O O O O O O O O ?_
 refine Ad ?_
 refine Ag 4 (by kernel_rfl) rfl ?_
 refine xl_to3 Aa O O O O O O O O O O (by omega) (by omega) ?_
 refine xl_eqv 111 (.slice A (VL.take m.ps.length).length (VL.take m.ps.length).length) rfl (by rw[htl];rfl) ?_
 refine Ad ?_
 refine Ag 11 (by kernel_rfl) rfl ?_
 refine xl_appF Aa vwY (VL.take m.ps.length) [vw] 32 O O O O O O O O (by kernel_rfl) rfl (hst.mono hu6) (by show 0<1;omega) rfl (fun E w F hs=>hs.rowAt (k:=9) rfl) vwOne rfl (by rw[htl,List.length_singleton];omega) (by rw[htl,List.length_singleton];omega) ?_
 refine Ad ?_
 refine Ae (fuel:=1) [12] O O (by kernel_rfl) (Ab Aa ?_)
 refine Ag 13 (by kernel_rfl) rfl ?_
 refine Ax 10 rfl (fun A2 c2 u7 hu7 hA2 hA2n=>?_)
 refine Ab Aa ?_
 refine Aj (by kernel_rfl) rfl ?_
 exact Af (A2,(vwY.d (VL.take m.ps.length++[vw])).n,c2) [] .z (hfin vw u1 u6 u7 A2 c2 hu6 hn6 hvw hu7 hA2 hA2n)
 refine As Aa vwY [vw] [_] O O O O O O O O O O O O O O O ?_
 refine Ad ?_
 refine Ae (fuel:=4) [1] O O (by kernel_rfl) (Ab Aa ?_)
 refine Ag 4 (by kernel_rfl) rfl ?_
 refine xl_to3 Aa O O O O O O O O O O (by omega) (by omega) ?_
 refine xl_eqv 111 (.slice A (VL.take m.ps.length).length (VL.take m.ps.length).length) rfl (by rw[htl];rfl) ?_
 refine Ad ?_
 refine Ag 11 (by kernel_rfl) rfl ?_
 refine xl_appF Aa vwY (VL.take m.ps.length) [vw] 32 O O O O O O O O (by kernel_rfl) rfl (hst.mono hu6) (by show 0<1;omega) rfl (fun E w F hs=>hs.rowAt (k:=9) rfl) vwOne rfl (by rw[htl,List.length_singleton];omega) (by rw[htl,List.length_singleton];omega) ?_
 refine Ad ?_
 refine Ae (fuel:=1) [12] O O (by kernel_rfl) (Ab Aa ?_)
 refine Ag 13 (by kernel_rfl) rfl ?_
 refine Ax 10 rfl (fun A2 c2 u7 hu7 hA2 hA2n=>?_)
 refine Ab Aa ?_
 refine Aj (by kernel_rfl) rfl ?_
 exact Af (A2,(vwY.d (VL.take m.ps.length++[vw])).n,c2) [] .z (hfin vw u1 u6 u7 A2 c2 hu6 hn6 hvw hu7 hA2 hA2n)
 obtain⟨ad,rfl⟩:∃ad,A=some ad:=by
  have hA5':=hA5
  obtain⟨A',c',k1,k2,k3,k4⟩:=hA5'
  cases k1
  obtain⟨ad,k5,_⟩:=k4 (by rw[Lay.d_n];omega)
  exact⟨ad,k5⟩
 have hpt:PtAt u5 (ad.add (0*4)) (vwY.el (VL.getD 0 vwY.dft)):=hA5.ptAt (i:=0) (by rw[Lay.d_n];omega) (hAn ad rfl).2
 obtain⟨v0,V2,hv0⟩:∃v0 V2,VL=v0::V2:=by
  cases h:VL with
  |nil=>rw[h]at hVLn;simp at hVLn
  |cons a b=>exact⟨a,b,rfl⟩
 obtain⟨ab,I2,hI2⟩:∃ab I2,PLL=ab::I2:=by
  cases h:PLL with
  |nil=>rw[hv0,h]at hVI;exact hVI.elim
  |cons a b=>exact⟨a,b,rfl⟩
 have hvi:VwI u0 P n v0 ab:=by rw[hv0,hI2]at hVI;exact hVI.1
 have hv00:VL.getD 0 vwY.dft=v0:=by rw[hv0];rfl
 rw[hv00]at hpt
 obtain⟨i1,i2,i3,i4⟩:=hvi
 have i2':Ck u0 v0.q v0.j (Cc (ab.2-ab.1) (Cc ab.1 P)):=by rw[adv_add,show ab.1+(ab.2-ab.1)=ab.2 by omega];exact i2
 have isame:=i1.same i2' (by rw[hlen];omega)
 have hX0:XSs.headD []=sliX X ab:=by rw[hXSs,hI2];rfl
 have hX0l:(XSs.headD []).length=ab.2-ab.1:=by
  rw[hX0];unfold sliX
  rw[List.length_take,List.length_drop];omega
 refine Az ?_
 refine x_draw mix (by kernel_rfl) (Cq Aa ?_)
 refine xd_gidxV Aa O O O O O O O O O (fun _=>⟨by omega,by omega⟩) ?_
 refine Cq Aa ?_
 refine xd_fieldV Aa O O O O O O O ?_
 refine xd_gloadA Aa [.pointer v0.p,.int .i64 v0.k] O O O O O O O O (fun _=>hpt.part 0 (add_spot (hAn ad rfl).2 _) (fun j y hj=>by
  rcases j with _|_|j
  exact hj
  exact hj
  simp at hj)) ?_
 refine Cq Aa ?_
 refine xd_gidxV Aa O O O O O O O O O (fun _=>⟨by omega,by omega⟩) ?_
 refine Cq Aa ?_
 refine xd_fieldV Aa O O O O O O O ?_
 refine xd_gloadA Aa [.pointer v0.q,.int .i64 v0.j] O O O O O O O O (fun _=>hpt.part 2 (add_spot (hAn ad rfl).2 _) (fun j y hj=>by
  rcases j with _|_|j
  exact hj
  exact hj
  simp at hj)) ?_
 refine Cq Aa ?_
 refine xd_gbinV (.bool (decide (v0.p=v0.q)&&decide (v0.k=v0.j))) O O O O O O (fun w=>eqGuardPl2 _ _ _ _ _ _ w) (fun _ w' hw'=>run_eqPl hw' ((i1.blk).sub hsub5) (i2.blk.sub hsub5) v0.k v0.j) ?_
 refine Cq Aa ?_
 refine x_cond (b:=!m.va&&decide ((m.ps.length:Int)=0)&&decide ((VL.length:Int)=1)&&(decide (v0.p=v0.q)&&decide (v0.k=v0.j))) rfl (fun h4=>?_) (fun h4=>?_)
 refine Ao Aa ?_
 rw[Bool.and_eq_true,Bool.and_eq_true,Bool.and_eq_true,Bool.not_eq_true']at h4
 obtain⟨⟨⟨h5,h6⟩,h7⟩,h8⟩:=h4
 have h6:=of_decide_eq_true h6
 have h7:=of_decide_eq_true h7
 rw[Bool.and_eq_true]at h8
 have h9:=isame.1 ⟨of_decide_eq_true h8.1,of_decide_eq_true h8.2⟩
 refine Af (none,0,0) [] .z ⟨[],[],?_,rfl,fun v a b=>⟨slAt_nil _ _ rfl,trivial⟩⟩
 unfold bndX
 rw[if_neg (by rw[h5];simp),if_pos ⟨h5,by omega,by omega,by omega⟩]
 have h4':¬(m.va=false∧m.ps.length=0∧XSs.length=1∧(XSs.headD []).length=0):=fun⟨h5,h6,h7,h8⟩=>by
  have h9:=isame.2 (by omega)
  rw[h5,decide_eq_true (show(m.ps.length:Int)=0 by omega),decide_eq_true (show(VL.length:Int)=1 by omega),decide_eq_true h9.1,decide_eq_true h9.2]at h4
  exact absurd h4 (by decide)
 have h3':¬(m.va=true∧m.ps.length<XSs.length):=fun⟨h5,h6⟩=>by
  rw[h5,decide_eq_true (show(VL.length:Int) > (m.ps.length:Int) by omega)]at h3
  exact absurd h3 (by decide)
 refine Ao Aa ?_
 refine Ap (fun h5=>?_) (fun h5=>?_)
 have h5:(m.va||decide ((VL.length:Int)≠(m.ps.length:Int))||decide ((m.ps.length:Int)=0))=true:=h5
 refine finP (fun E w' F hs hle=>?_)
 have hb:bndX m.ps.length m.va XSs=none:=by
  unfold bndX
  rw[if_neg h3',if_neg h4',if_pos]
  rw[Bool.or_eq_true,Bool.or_eq_true]at h5
  rcases h5 with(h5|h5)|h5
  exact .inl h5
  exact .inr (.inl (by have:=of_decide_eq_true h5;omega))
  exact .inr (.inr (by have:=of_decide_eq_true h5;omega))
 have hcx:callX m.ps.length m.va X=none:=by
  unfold callX
  rw[List.map_drop,←hC,b8]
  show(match bndX m.ps.length m.va (PLL.map (sliX X))with|none=>none|some XS=>some _)=_
  rw[←hXSs,hb]
 rw[hcx]
 exact rfl
 have h5:(m.va||decide ((VL.length:Int)≠(m.ps.length:Int))||decide ((m.ps.length:Int)=0))=false:=h5
 refine Af (some ad,VL.length,c) [] .z ⟨VL,XSs,?_,rfl,fun v a b=>⟨hU.sub b,hVX.sub a⟩⟩
 unfold bndX
 rw[if_neg h3',if_neg h4',if_neg]
 rw[Bool.or_eq_false_iff,Bool.or_eq_false_iff]at h5
 obtain⟨⟨h6,h7⟩,h8⟩:=h5
 have h7:=of_decide_eq_false h7
 have h8:=of_decide_eq_false h8
 rintro(h|h|h)
 rw[h6]at h;cases h
 omega
 omega
 rintro⟨B,bn,bc⟩ u6 hu6 ⟨L,XS,q1,q2,q3⟩
 refine Ao Aa ?_
 refine finP (fun E w' F hs hle=>?_)
 have hcx:callX m.ps.length m.va X=some ⟨XS,X.getD mm comX,X.drop (mm+1)⟩:=by
  unfold callX
  rw[List.map_drop,←hC,b8]
  show(match bndX m.ps.length m.va (PLL.map (sliX X))with|none=>none|some XS=>some _)=_
  rw[←hXSs,q1]
 rw[hcx]
 subst q2
 refine⟨B,L,bc,t.hp,p5,k5,rfl,fun v a b=>?_⟩
 obtain⟨q4,q5⟩:=q3 v a ((dif_cut hs.imm).trans b)
 refine⟨q4,q5,?_,⟨Cc (mm+1) P,n-(mm+1),hp5.sub a,?_,by rw[hlen];omega,?_⟩⟩
 show Bk v t.hp (X.getD mm comX).hide
 rw[List.getD_eq_getElem?_getD,hx]
 exact htx.hide.sub a
 rw[adv_add,show mm+1+(n-(mm+1))=n by omega];exact hq.sub a
 have h9:=(hX.drop (mm+1)).sub a
 rw[List.drop_take]at h9
 rw[toks_adv _ hl1 hl2]
 exact h9
inductive RX (α:Type) where
 |stuck:RX α
 |err:Int→RX α
 |ok:List ByteArray→Nat→α→RX α
inductive RF where
 |stuck:RF
 |err:Int→RF
 |ok:List XT→Nat→RF
abbrev LstF:=List ByteArray→Nat→List XT→List XT→RX (List XT)
def argsX (lst:LstF):List Bool→List (List XT)→List ByteArray→Nat→List (List XT)→RX (List (List XT))
 |_,[],NS,left,ES=>.ok NS left ES
 |[],_::_,_,_,_=>.stuck
 |false::U,_::XS,NS,left,ES=>argsX lst U XS NS left (ES++[[]])
 |true::U,X::XS,NS,left,ES=>match lst NS left X []with
  |.stuck=>.stuck
  |.err e=>.err e
  |.ok NS2 left2 E=>argsX lst U XS NS2 left2 (ES++[E])
def oneX (XS ES:List (List XT)) (t:IV):Option (Int×List XT):=
 if 0≤t.param then(if t.param.toNat<XS.length then some (yldX t (XS.getD t.param.toNat []) (ES.getD t.param.toNat []))else none)
 else if t.pv.pa=none∧t.pv.pn=0∧t.pv.pc=0 then some (0,[⟨t.pv.kind,t.pv.text,t.pv.space,[],0⟩])else none
def itemsX (XS ES:List (List XT)) (most:Nat):List IV→List XT→Nat→Bool→RF
 |[],out,count,_=>.ok out count
 |t::I,out,count,op=>match oneX XS ES t with
  |none=>.stuck
  |some (e,S)=>if e≠0 then .err e
   else if(op&&t.pasted)=false∨S.length=0 then
    (if count+S.length≤most then itemsX XS ES most I (out++spX t.pv.space S) (count+S.length) (if S.length=0 then(op&&t.pasted)else true)else .stuck)
   else match out.getLast?,S[0]? with
    |some x,some z=>if count+(S.length-1)≤most∧x.text.size+z.text.size≤1000000 then
     (if pasE x.kind z.kind x.text z.text≠0 then .err (pasE x.kind z.kind x.text z.text)
     else itemsX XS ES most I (out.dropLast++pasX x z::S.drop 1) (count+(S.length-1)) (if S.length=1 then(op&&t.pasted)else true))
     else .stuck
    |_,_=>.stuck
def finX (NS:List ByteArray) (left:Nat):RF→RX (List XT)
 |.stuck=>.stuck
 |.err e=>.err e
 |.ok out count=>if left<1+count then .err 63 else .ok NS (left-(1+count)) out
def aftX (XS:List (List XT)) (I:List IV):RX (List (List XT))→RX (List XT)
 |.stuck=>.stuck
 |.err e=>.err e
 |.ok NS left ES=>if 1000000<left then .stuck else finX NS left (itemsX XS ES left I [] 0 false)
def fillX (lst:LstF) (m:MT) (NS:List ByteArray) (left:Nat) (XS:List (List XT)):RX (List XT):=
 aftX XS (itemsL m.fn (numP m) m.body) (argsX lst (usedL m.ps.length (itemsL m.fn (numP m) m.body)) XS NS left [])
def lnB:ByteArray:=⟨#[95,95,76,73,78,69,95,95]⟩
def isX (x:XT) (b:ByteArray):Bool:=decide (x.kind=5)&&decide (x.text=b)
def headNo:List XT→Bool
 |[]=>true
 |y::_=>!isX y lpB
def putX (lst:LstF) (x:XT) (i:Nat) (m:MT) (out:List XT) (c:CallX) (r:RX (List XT)):RX (List XT):=
 match r with
 |.stuck=>.stuck
 |.err e=>.err e
 |.ok NS3 left3 T=>if T.length≤1000000 then lst NS3 left3 (spX x.space (T.map (hideX ((if m.fn then x.hide &&& c.close.hide else x.hide) ||| 1 <<< i)))++c.rest) out else .stuck
def gotX (lst:LstF) (NS:List ByteArray) (left:Nat) (x:XT) (i:Nat) (m:MT) (out:List XT) (c:Option CallX):RX (List XT):=
 match c with
 |none=>.err 60
 |some c=>if(decide (c.args.length≤100000)&&c.args.all (fun X=>decide (X.length≤100000)))=true then putX lst x i m out c (fillX lst m NS left c.args)else .stuck
def macX (ms:ByteArray→Option MT) (lst:LstF) (left:Nat) (x:XT) (R out:List XT):List ByteArray×Option Nat→RX (List XT)
 |(NS,none)=>lst NS left R (out++[x])
 |(NS,some i)=>match ms (NS.getD i ⟨#[]⟩)with
  |none=>.stuck
  |some m=>if m.fn&&headNo R then lst NS left R (out++[x])
   else gotX lst NS left x i m out (if m.fn then callX m.ps.length m.va R else some ⟨[],x,R⟩)
def stepB (ms:ByteArray→Option MT) (lst:LstF) (NS:List ByteArray) (left:Nat) (X out:List XT):RX (List XT):=
 match X with
 |[]=>.ok NS left out
 |x::R=>if x.kind=1∧x.text=lnB then lst NS left R (out++[{x with kind:=10}])
  else macX ms lst left x R out (calX (fun s=>(ms s).isSome) NS x.kind x.text x.hide)
def stepX (ms:ByteArray→Option MT) (lst:LstF) (NS:List ByteArray) (left:Nat) (X out:List XT):RX (List XT):=
 if X.length≤100000∧out.length≤100000∧NS.length≤100000∧left≤100000 then stepB ms lst NS left X out else .stuck
def listX (ms:ByteArray→Option MT):Nat→LstF
 |0=>fun _ _ _ _=>.stuck
 |f+1=>stepX ms (listX ms f)
def RX.Fits {α:Type} (r:RX α) (e:Int) (NS:List ByteArray) (left:Int):Prop:=
 match r with
 |.stuck=>False
 |.err e'=>e=e'∧e≠0
 |.ok NS' left' _=>e=0∧NS=NS'∧left=(left':Int)
def RX.val {α:Type} (d:α):RX α→α
 |.ok _ _ x=>x
 |_=>d
def msOf (M:ME):ByteArray→Option MT:=fun s=>(M s).map (·.1)
def ListC (M:ME) (bm nm f:Nat):Prop:=∀(u0:Im) (bp:Nat) (N:Nms) (left:Nat) (vw:Vw) (X:List XT),Glob u0→MsAt u0 bm nm M→PSt u0 M N→VwX u0 vw X →
 listX (msOf M) f (N.map (·.1)) left X []≠.stuck →
 SCX Tryz.prog 38 u0 2 (xOw bm bp left N) [.p 0 0,.v vw.val] (fun(N',l',r,e)=>(xOw bm bp l' N',2,[.v (SlR.val r),.v (.int .i64 e)]))
  (fun(N',l',_,e)=>(listX (msOf M) f (N.map (·.1)) left X []).Fits e (N'.map (·.1)) l') (fun(N',_,r,e) u=>e=0→PSt u M N'∧TksAt u r ((listX (msOf M) f (N.map (·.1)) left X []).val []))
def AsOk (u:Im):List AV→List (List XT)→List (List XT)→Prop
 |[],[],[]=>True
 |a::L,X::XS,E::ES=>(ArgOk u a X∧TksAt u a.ex E)∧AsOk u L XS ES
 |_,_,_=>False
theorem AsOk.sub {u u':Im} (hu:u.sub u'):∀ {L:List AV} {XS ES:List (List XT)},AsOk u L XS ES→AsOk u' L XS ES
 |[],[],[],_=>trivial
 |_::_,_::_,_::_,h=>⟨⟨h.1.1.sub hu,h.1.2.sub hu⟩,AsOk.sub hu h.2⟩
 |[],_::_,_,h=>h.elim
 |[],[],_::_,h=>h.elim
 |_::_,[],_,h=>h.elim
 |_::_,_::_,[],h=>h.elim
theorem AsOk.len {u:Im}:∀ {L:List AV} {XS ES:List (List XT)},AsOk u L XS ES→L.length=XS.length∧ES.length=XS.length
 |[],[],[],_=>⟨rfl,rfl⟩
 |_::_,_::_,_::_,h=>by
  obtain⟨h1,h2⟩:=AsOk.len h.2
  simp only[List.length_cons];omega
 |[],_::_,_,h=>h.elim
 |[],[],_::_,h=>h.elim
 |_::_,[],_,h=>h.elim
 |_::_,_::_,[],h=>h.elim
theorem AsOk.snoc {u:Im}:∀ {L:List AV} {XS ES:List (List XT)} {a:AV} {X E:List XT},AsOk u L XS ES→ArgOk u a X→TksAt u a.ex E→AsOk u (L++[a]) (XS++[X]) (ES++[E])
 |[],[],[],_,_,_,_,h1,h2=>⟨⟨h1,h2⟩,trivial⟩
 |_::_,_::_,_::_,_,_,_,h,h1,h2=>⟨h.1,AsOk.snoc h.2 h1 h2⟩
 |[],_::_,_,_,_,_,h,_,_=>h.elim
 |[],[],_::_,_,_,_,h,_,_=>h.elim
 |_::_,[],_,_,_,_,h,_,_=>h.elim
 |_::_,_::_,[],_,_,_,h,_,_=>h.elim
theorem AsOk.get {u:Im}:∀ {L:List AV} {XS ES:List (List XT)} {k:Nat},AsOk u L XS ES→k<XS.length→∃a,L[k]?=some a∧ArgOk u a (XS.getD k [])∧TksAt u a.ex (ES.getD k [])
 |a::_,_::_,_::_,0,h,_=>⟨a,rfl,h.1.1,h.1.2⟩
 |_::L,_::XS,_::ES,k+1,h,hk=>by
  obtain⟨a,h1,h2,h3⟩:=AsOk.get (k:=k) h.2 (by simpa using hk)
  exact⟨a,by simpa using h1,by simpa using h2,by simpa using h3⟩
 |[],[],[],_,_,hk=>by simp at hk
 |[],_::_,_,_,h,_=>h.elim
 |[],[],_::_,_,h,_=>h.elim
 |_::_,[],_,_,h,_=>h.elim
 |_::_,_::_,[],_,h,_=>h.elim
theorem AsOk.set {u:Im}:∀ {L:List AV} {XS ES:List (List XT)} {k:Nat} {a a':AV},AsOk u L XS ES→L[k]?=some a→ArgOk u a' (XS.getD k [])→a'.ex=a.ex→AsOk u (L.set k a') XS ES
 |a::_,_::_,_::_,0,_,_,h,hk,h1,h2=>by
  simp only[List.getElem?_cons_zero,Option.some.injEq]at hk
  subst hk
  exact⟨⟨h1,h2▸h.1.2⟩,h.2⟩
 |_::L,_::XS,_::ES,k+1,_,_,h,hk,h1,h2=>⟨h.1,AsOk.set (k:=k) h.2 (by simpa using hk) (by simpa using h1) h2⟩
 |[],[],[],_,_,_,_,hk,_,_=>by simp at hk
 |[],_::_,_,_,_,_,h,_,_,_=>h.elim
 |[],[],_::_,_,_,_,h,_,_,_=>h.elim
 |_::_,[],_,_,_,_,h,_,_,_=>h.elim
 |_::_,_::_,[],_,_,_,h,_,_,_=>h.elim
theorem tksAt_nil (u:Im):TksAt u slr0 []:=⟨[],slAt_nil _ _ rfl,rfl,trivial⟩
def avI (v:Vw) (s:SlR):AV:=⟨v,slr0,s,slr0,false,false⟩
theorem argOk_fresh {u:Im} {v:Vw} {X:List XT} (h:VwX u v X) (s:SlR):ArgOk u (avI v s) X:=⟨h,fun _=>⟨rfl,rfl,rfl⟩,fun h=>by cases h⟩
theorem clip_scx {u0:Im} (T:List TV) (hz:T.length≤1000000000):SCX Tryz.prog 107 u0 1 [(0,.row 87 (tvY.d T))] [.r 0] (fun A=>([(0,.gen (clipR A 87 (tvY.d T)))],1,[.v (.slice A T.length T.length)]))
 (fun A=>(A=none→T.length=0)∧(∀ad,A=some ad→ad=⟨ad.block,0,none⟩)) (fun _ _=>True):=by
 refine x_scx Aa Tryz.func107 O O O O (fun us hus=>?_)
 refine Az (Ao Aa ?_)
 refine Az (Ao Aa ?_)
 refine xl_clip Aa tvY T O O O O O O O O O O O (fun A hA0 hA1=>?_)
 refine Ab Aa ?_
 refine Ao Aa ?_
 exact⟨A,[],rfl,.of O O O O O rfl,rfl,Nat.le_refl _,⟨hA0,hA1⟩,fun _ _ _=>trivial⟩
def filO (bm bp:Nat) (l:Int) (N:Nms) (A:Option Addr) (T:List TV) (e:Int):GV.Own×Nat×List SV:=
 if e=0 then((2,.gen (clipR A 87 (tvY.d T)))::xOw bm bp l N,3,[.v (.slice A T.length T.length),.v (.int .i64 0)])else(xOw bm bp l N,3,[.v (.slice none 0 0),.v (.int .i64 e)])
theorem VwsX.get' {u:Im}:∀ {L:List Vw} {XS:List (List XT)} {i:Nat} {v:Vw},VwsX u L XS→L[i]?=some v→∃X,XS[i]?=some X∧VwX u v X
 |[],[],_,_,_,h=>by simp at h
 |x::_,X::_,0,v,h,hv=>by
  simp only[List.getElem?_cons_zero,Option.some.injEq]at hv
  subst hv
  exact⟨X,rfl,h.1⟩
 |_::L,_::XS,i+1,v,h,hv=>by
  obtain⟨X,h1,h2⟩:=VwsX.get' (i:=i) h.2 (by simpa using hv)
  exact⟨X,by simpa using h1,h2⟩
 |[],_::_,_,_,h,_=>h.elim
 |_::_,[],_,_,h,_=>h.elim
theorem fill_scx {M:ME} {bm nm f:Nat} (hC:ListC M bm nm f) {u0:Im} {bp:Nat} {N:Nms} {left:Nat} {ad:Addr} {id:Nat} {m:MT} {sa:MA} {A:Option Addr} {c:Nat} {L:List Vw} {XS:List (List XT)}
 (hG:Glob u0) (hM:MsAt u0 bm nm M) (hN:PSt u0 M N) (hP:PlanAt u0 ad id m sa (itemsL m.fn (numP m) m.body) (usedL m.ps.length (itemsL m.fn (numP m) m.body))) (hV:Aw u0 (.slice A L.length c) (vwY.d L)) (hX:VwsX u0 L XS)
 (hz:XS.length≤1000000) (hz2:∀X∈XS,X.length≤1000000) (hI:(itemsL m.fn (numP m) m.body).length≤1000000) (hns:fillX (listX (msOf M) f) m (N.map (·.1)) left XS≠.stuck) :
 SCX Tryz.prog 74 u0 2 (xOw bm bp left N) [.p 0 0,.v (.pointer (some ad)),.v (.slice A L.length c)] (fun(N',l',A',T',e)=>filO bm bp l' N' A' T' e)
  (fun(N',l',A',T',e)=>(fillX (listX (msOf M) f) m (N.map (·.1)) left XS).Fits e (N'.map (·.1)) l'∧(A'=none→T'.length=0)∧(∀ad,A'=some ad→ad=⟨ad.block,0,none⟩))
  (fun(N',_,_,T',e) u=>e=0→PSt u M N'∧TksR u T' ((fillX (listX (msOf M) f) m (N.map (·.1)) left XS).val [])):=by
 refine x_scx Aa Tryz.func74 O O O O (fun us hus=>?_)
 have hXl:=hX.len
 obtain⟨pb,xi,xu,rfl,hpb,hpi,hpu⟩:=hP.it
 obtain⟨I,hIe⟩:∃I,I=itemsL m.fn (numP m) m.body:=⟨_,rfl⟩
 obtain⟨U,hUe⟩:∃U,U=usedL m.ps.length I:=⟨_,rfl⟩
 obtain⟨lst,hlst⟩:∃lst,lst=listX (msOf M) f:=⟨_,rfl⟩
 have hF:fillX lst m (N.map (·.1)) left XS=aftX XS I (argsX lst U XS (N.map (·.1)) left []):=by rw[hUe,hIe];rfl
 rw[←hIe]at hpi hpu hI
 rw[←hUe]at hpu
 obtain⟨Ai,ci,rfl⟩:=hpi.form
 obtain⟨FX,hFX⟩:∃FX,FX=fillX lst m (N.map (·.1)) left XS:=⟨_,rfl⟩
 rw[←hlst,←hFX]at hns ⊢
 rw[←hFX]at hF
 have hUl:U.length=m.ps.length+1:=by rw[hUe];exact usedL_len _ _
 refine x_ptr 1 (mCells m sa++[.int .i64 (id:Int),.slice Ai (itmY.d I).n ci,xu]) rfl (ptAt_box (hus.h _ _ hpb)) ?_
 refine x_sl 2 rfl (hV.sub hus) ?_
 refine Az (Ao Aa ?_)
 refine Az (Ao Aa ?_)
 refine xl_makeG Aa argY av0 112 L.length O O O O O O O O O (by kernel_rfl) O O O (by omega) (by omega) ?_
 refine Ab Aa ?_
 refine Az (Ao Aa ?_)
 obtain⟨R0,hR0⟩:∃R0,R0=argsX lst U XS (N.map (·.1)) left []:=⟨_,rfl⟩
 rw[←hR0]at hF
 have hR0n:R0≠.stuck:=fun e=>hns (by rw[hF,e];rfl)
 refine Br (σ:=Nat×Nms×Nat×List AV) (fun(i,N',l',D)=>⟨[(24,.v (.int .i64 (i:Int))),(23,.v (.int .i64 ((L.length:Nat):Int))),(22,.r 3),(8,.r 4),(1,.e 2 8 0 0),(0,.p 0 0)],[],
  (4,.row 206 (argY.d (D++List.replicate (L.length-i) av0)))::(3,.sl (vwY.d L))::(2,.sl (oneD (mCells m sa++[.int .i64 (id:Int),.slice Ai (itmY.d I).n ci,xu])))::xOw bm bp l' N',5⟩)
  (fun(i,N',l',D) u=>i≤L.length∧D.length=i∧∃ES,Nw u0 (dif us u) (fun v=>PSt v M N'∧AsOk v D (XS.take i) ES)∧argsX lst (U.drop i) (XS.drop i) (N'.map (·.1)) l' ES=R0)
  (fun(i,_,_,_)=>L.length-i) (fun _=>by show 5≤5;omega) (0,N,left,[]) [] .z
  ⟨Nat.zero_le _,rfl,[],fun v a _=>⟨hN.sub a,trivial⟩,hR0.symm⟩ ?_
 rintro⟨i,N1,l1,D⟩ u hu ⟨g1,g2,ES,g3,g4⟩
 have hsub:u0.sub u:=hus.trans hu.sub
 refine Az (Ao Aa ?_)
 refine Az (Ao Aa ?_)
 refine Ap (fun h1=>?_) (fun h1=>?_)
 have h1:(i:Int)<((L.length:Nat):Int):=of_decide_eq_true h1
 obtain⟨v,hv⟩:∃v,L[i]?=some v:=⟨_,List.getElem?_eq_getElem (by omega)⟩
 obtain⟨X,hXi,hvX⟩:=hX.get' hv
 have hgv:L.getD ((i:Nat):Int).toNat vwY.dft=v:=by rw[Int.toNat_natCast,List.getD_eq_getElem?_getD,hv];rfl
 have hDn:(vwY.d L).n=L.length:=Lay.d_n _ _
 have hRn:(argY.d (D++List.replicate (L.length-i) av0)).n=L.length:=by rw[Lay.d_n,List.length_append,List.length_replicate];omega
 refine Ao Aa ?_
 repeat refine sdI ?_
 have hset:∀y:AV,(D++List.replicate (L.length-i) av0).set ((i:Nat):Int).toNat y=D++y::List.replicate (L.length-(i+1)) av0:=fun y=>by
  rw[Int.toNat_natCast,List.set_append_right _ _ (by omega),show i-D.length=0 by omega,show L.length-i=(L.length-(i+1))+1 by omega];rfl
 have hset2:∀y y':AV,(D++y::List.replicate (L.length-(i+1)) av0).set ((i:Nat):Int).toNat y'=D++y'::List.replicate (L.length-(i+1)) av0:=fun y y'=>by
  rw[Int.toNat_natCast,List.set_append_right _ _ (by omega),show i-D.length=0 by omega];rfl
 have hget2:∀y:AV,(D++y::List.replicate (L.length-(i+1)) av0).getD ((i:Nat):Int).toNat argY.dft=y:=fun y=>by
  rw[Int.toNat_natCast,List.getD_eq_getElem?_getD,List.getElem?_append_right (by omega),show i-D.length=0 by omega];rfl
 have hlen2:∀y:AV,(D++y::List.replicate (L.length-(i+1)) av0).length=L.length:=fun y=>by
  rw[List.length_append,List.length_cons,List.length_replicate];omega
 have hget1:(D++List.replicate (L.length-i) av0).getD ((i:Nat):Int).toNat argY.dft=av0:=by
  rw[Int.toNat_natCast,List.getD_eq_getElem?_getD,List.getElem?_append_right (by omega),show i-D.length=0 by omega,show L.length-i=(L.length-(i+1))+1 by omega];rfl
 refine Bv Aa argY (D++List.replicate (L.length-i) av0) (avI (L.getD ((i:Nat):Int).toNat vwY.dft) slr0) (cs:=[.pointer (L.getD ((i:Nat):Int).toNat vwY.dft).p,.int .i64 (L.getD ((i:Nat):Int).toNat vwY.dft).k,.pointer (L.getD ((i:Nat):Int).toNat vwY.dft).q,.int .i64 (L.getD ((i:Nat):Int).toNat vwY.dft).j]) O O O O O O O (by omega) (by rw[List.length_append,List.length_replicate];omega) O O (by show 0+4≤9;omega) (by rw[hget1];rfl) ?_
 rw[hset]
 refine Ab Aa ?_
 have hiU:i<U.length:=by
  rcases Nat.lt_or_ge i U.length with h|h
  exact h
  rw[List.drop_of_length_le h,drop_cons hXi]at g4
  exact absurd g4.symm hR0n
 have hUn:(bolY.d U).n=U.length:=Lay.d_n _ _
 obtain⟨b,hb⟩:∃b,U[i]?=some b:=⟨_,List.getElem?_eq_getElem hiU⟩
 have hgb:U.getD ((i:Nat):Int).toNat bolY.dft=b:=by rw[Int.toNat_natCast,List.getD_eq_getElem?_getD,hb];rfl
 rw[drop_cons hXi,drop_cons hb]at g4
 refine xl_sl 37 rfl (hpu.sub hsub) ?_
 refine Ab Aa ?_
 repeat refine sdI ?_
 refine Ap (fun h2=>?_) (fun h2=>?_)
 have h2:U.getD ((i:Nat):Int).toNat bolY.dft=true:=h2
 rw[hgb]at h2
 subst h2
 have hj0:=joinI_old u0 (dif us u)
 have hj1:(dif us u).sub (Bf u0 (dif us u)):=joinI_new hus
 have hj2:(Bf u0 (dif us u)).sub u:=Bn hsub (Bl us u)
 have hvw:VwX u0 (L.getD ((i:Nat):Int).toNat vwY.dft) X:=by rw[hgv];exact hvX
 obtain⟨p1,p2⟩:=g3 _ hj0 hj1
 have g4:(match lst (N1.map (·.1)) l1 X []with
  |.stuck=>.stuck
  |.err e=>.err e
  |.ok NS2 left2 E=>argsX lst (U.drop (i+1)) (XS.drop (i+1)) NS2 left2 (ES++[E]))=R0:=g4
 have hCs:=hC (Bf u0 (dif us u)) bp N1 l1 (L.getD ((i:Nat):Int).toNat vwY.dft) X (hG.sub hj0) (hM.sub hj0) p1 (hvw.sub hj0) (fun e=>hR0n (by rw[←g4,hlst,e]))
 rw[←hlst]at hCs
 obtain⟨RL,hRL⟩:∃RL,RL=lst (N1.map (·.1)) l1 X []:=⟨_,rfl⟩
 rw[←hRL]at g4 hCs
 refine xl_callSCX hCs hj2 [0,1] O O O O fn38 O O O O O O ⟨trivial,fun _ _ _ _ h=>h,trivial⟩ rfl (fun _=>⟨trivial,fun _ _ _ _ h=>h,trivial⟩) (fun _=>rfl) (fun q u1 hu1 hFt hNw=>?_)
 obtain⟨N2,l2,r,e⟩:=q
 refine Ab Aa ?_
 refine Ap (fun h3=>?_) (fun h3=>?_)
 have h3:decide (e≠0)=true:=h3
 have h3:e≠0:=of_decide_eq_true h3
 have hFt:RL.Fits e (N2.map (·.1)) l2:=hFt
 have hfx:FX=.err e:=by
  cases RL with
  |stuck=>exact hFt.elim
  |ok a b d=>exact absurd hFt.1 h3
  |err e'=>
   obtain⟨rfl,_⟩:=hFt
   rw[hF,←g4];rfl
 refine⟨(N2,l2,none,[],e),[],?_⟩
 have hfil:filO bm bp l2 N2 none [] e=(xOw bm bp l2 N2,3,[.v (.slice none 0 0),.v (.int .i64 e)]):=by unfold filO;rw[if_neg h3]
 show _=(filO bm bp l2 N2 none [] e).2.2.length∧Sub 2 [] _ ⟨knOf 0 (filO bm bp l2 N2 none [] e).2.2,[],(filO bm bp l2 N2 none [] e).1,(filO bm bp l2 N2 none [] e).2.1⟩∧_∧2≤(filO bm bp l2 N2 none [] e).2.1∧_∧_
 rw[hfil]
 exact⟨rfl,.of O O O O O rfl,rfl,by show 2≤3;omega,⟨by rw[hfx];exact⟨rfl,h3⟩,fun _=>rfl,fun ad h=>by cases h⟩,fun v a b h=>absurd h h3⟩
 have h3:decide (e≠0)=false:=h3
 have h3:e=0:=by simpa using h3
 subst h3
 have hFt:RL.Fits 0 (N2.map (·.1)) l2:=hFt
 obtain⟨NS2,lf2,E,rfl⟩:∃NS2 lf2 E,RL=.ok NS2 lf2 E:=by
  cases RL with
  |stuck=>exact hFt.elim
  |ok a b d=>exact⟨a,b,d,rfl⟩
  |err e'=>exact absurd rfl hFt.2
 obtain⟨-,rfl,rfl⟩:=hFt
 have g4:argsX lst (U.drop (i+1)) (XS.drop (i+1)) (N2.map (·.1)) lf2 (ES++[E])=R0:=g4
 have hRn2:(argY.d (D++avI (L.getD ((i:Nat):Int).toNat vwY.dft) slr0::List.replicate (L.length-(i+1)) av0)).n=L.length:=by rw[Lay.d_n,hlen2]
 repeat refine sdI ?_
 refine Bv Aa argY (D++avI (L.getD ((i:Nat):Int).toNat vwY.dft) slr0::List.replicate (L.length-(i+1)) av0) (avI (L.getD ((i:Nat):Int).toNat vwY.dft) r) (i:=((i:Nat):Int)) (cs:=[r.val]) O O O O O O O (by omega) (by rw[hlen2];omega) O O (by show 5+1≤9;omega) (by rw[hget2];rfl) ?_
 rw[hset2]
 refine Ab Aa ?_
 repeat refine sdI ?_
 have e1:D++avI (L.getD ((i:Nat):Int).toNat vwY.dft) r::List.replicate (L.length-(i+1)) av0=(D++[avI (L.getD ((i:Nat):Int).toNat vwY.dft) r])++List.replicate (L.length-(i+1)) av0:=by simp
 rw[e1]
 refine Bj (i+1,N2,lf2,D++[avI (L.getD ((i:Nat):Int).toNat vwY.dft) r]) [] .z ⟨by omega,by rw[List.length_append,List.length_singleton];omega,ES++[E],fun v a b=>?_,g4⟩ (by show L.length-(i+1)<L.length-i;omega)
 obtain⟨q1,q2⟩:=(Nw.lift hus hu.sub hu1.sub hNw).at a b rfl
 refine⟨q1,?_⟩
 rw[Cj hXi]
 exact(g3 v a ((Ba hu1.sub).trans b)).2.snoc (argOk_fresh (by rw[hgv];exact hvX.sub a) r) q2
 have h2:U.getD ((i:Nat):Int).toNat bolY.dft=false:=h2
 rw[hgb]at h2
 subst h2
 have g4:argsX lst (U.drop (i+1)) (XS.drop (i+1)) (N1.map (·.1)) l1 (ES++[[]])=R0:=g4
 repeat refine sdI ?_
 have e1:D++avI (L.getD ((i:Nat):Int).toNat vwY.dft) slr0::List.replicate (L.length-(i+1)) av0=(D++[avI (L.getD ((i:Nat):Int).toNat vwY.dft) slr0])++List.replicate (L.length-(i+1)) av0:=by simp
 rw[e1]
 refine Bj (i+1,N1,l1,D++[avI (L.getD ((i:Nat):Int).toNat vwY.dft) slr0]) [] .z ⟨by omega,by rw[List.length_append,List.length_singleton];omega,ES++[[]],fun v a b=>?_,g4⟩ (by show L.length-(i+1)<L.length-i;omega)
 obtain⟨q1,q2⟩:=g3 v a b
 refine⟨q1,?_⟩
 rw[Cj hXi]
 exact q2.snoc (argOk_fresh (by rw[hgv];exact hvX.sub a) slr0) (tksAt_nil _)
 have h1:¬(i:Int)<((L.length:Nat):Int):=of_decide_eq_false h1
 have hi:i=L.length:=by omega
 subst hi
 rw[Nat.sub_self]
 have e0:D++List.replicate 0 av0=D:=List.append_nil D
 rw[e0]
 rw[List.drop_of_length_le (show XS.length≤L.length by omega)]at g4
 have g4:RX.ok (N1.map (·.1)) l1 ES=R0:=by rw[←g4];cases U.drop L.length<;>rfl
 rw[List.take_of_length_le (by omega)]at g3
 rw[←g4]at hF
 clear g4 hR0 hR0n
 have hl1:l1≤1000000:=by
  rcases Nat.lt_or_ge 1000000 l1 with h|h
  exact absurd (by rw[hF];show(if 1000000<l1 then RX.stuck else _)=_;rw[if_pos h]) hns
  exact h
 obtain⟨RI,hRI⟩:∃RI,RI=itemsX XS ES l1 I [] 0 false:=⟨_,rfl⟩
 have hF:FX=finX (N1.map (·.1)) l1 RI:=by
  rw[hF,hRI]
  show(if 1000000<l1 then RX.stuck else _)=_
  rw[if_neg (by omega)]
 have hRIn:RI≠.stuck:=fun e=>hns (by rw[hF,e];rfl)
 have hIn:(itmY.d I).n=I.length:=Lay.d_n _ _
 refine Az (Ao Aa ?_)
 refine x_nilCell 5 87 tvY [] [.v (.int .i64 0),.v (.int .i64 (l1:Int)),.v (.bool false)] rfl ?_
 refine Az (Ao Aa ?_)
 refine x_sl 64 rfl (hpi.sub hsub) ?_
 refine Br (σ:=Nat×List AV×List TV×Nat×Bool) (fun(k,AL,T,count,op)=>⟨[(66,.v (.int .i64 (k:Int))),(65,.v (.int .i64 ((itmY.d I).n:Int))),(64,.r 7),(13,.p 5 0),(8,.r 4),(0,.p 0 0)],[],
  (5,.box 208 (fBox 8 count l1 op))::(8,.row 87 (tvY.d T))::(7,.sl (itmY.d I))::(4,.row 206 (argY.d AL))::(3,.sl (vwY.d L))::(2,.sl (oneD (mCells m sa++[.int .i64 (id:Int),.slice Ai (itmY.d I).n ci,xu])))::xOw bm bp l1 N1,9⟩)
  (fun(k,AL,T,count,op) u=>k≤I.length∧T.length≤count∧count≤l1∧∃out,Nw u0 (dif us u) (fun v=>PSt v M N1∧AsOk v AL XS ES∧TksR v T out)∧itemsX XS ES l1 (I.drop k) out count op=RI)
  (fun(k,_,_,_,_)=>I.length-k) (fun _=>by show 8≤9;omega) (0,D,[],0,false) [(8,some 6)] .z
  ⟨Nat.zero_le _,Nat.le_refl _,Nat.zero_le _,[],fun v a b=>⟨(g3 v a b).1,(g3 v a b).2,trivial⟩,hRI.symm⟩ ?_
 clear g3 hRI
 rintro⟨k,AL,T,count,op⟩ u2 hu2 ⟨b1,b2,b3,out,b4,b5⟩
 have hsub2:u0.sub u2:=hsub.trans hu2.sub
 have hus2:us.sub u2:=hu.sub.trans hu2.sub
 refine Az (Ao Aa ?_)
 refine Az (Ao Aa ?_)
 refine Ap (fun h2=>?_) (fun h2=>?_)
 have h2:(k:Int)<((itmY.d I).n:Int):=of_decide_eq_true h2
 obtain⟨t,ht⟩:∃t,I[k]?=some t:=⟨_,List.getElem?_eq_getElem (by omega)⟩
 have hgt:I.getD ((k:Nat):Int).toNat itmY.dft=t:=by rw[Int.toNat_natCast,List.getD_eq_getElem?_getD,ht];rfl
 refine Az ?_
 refine x_block ?_
 refine Az (Ao Aa ?_)
 repeat refine sdI ?_
 refine Az (Ao Aa ?_)
 refine As Aa tvY [⟨(I.getD ((k:Nat):Int).toNat itmY.dft).pv,none⟩] [_] O O O O O O O O O O O O O O O ?_
 refine Ax 10 rfl (fun A3 c3 u3 hu3 hA3 hA3n=>?_)
 refine Ab Aa ?_
 have hsub3:u0.sub u3:=hsub2.trans hu3.sub
 have hus3:us.sub u3:=hus2.trans hu3.sub
 have b4':Nw u0 (dif us u3) (fun v=>PSt v M N1∧AsOk v AL XS ES∧TksR v T out):=b4.sub (Ba hu3.sub)
 rw[drop_cons ht]at b5
 obtain⟨e0,S,hone⟩:∃e0 S,oneX XS ES t=some (e0,S):=by
  cases ho:oneX XS ES t with
  |none=>
   rw[itemsX,ho]at b5
   exact absurd b5.symm hRIn
  |some x=>exact⟨x.1,x.2,rfl⟩
 rw[itemsX,hone]at b5
 have b5:(if e0≠0 then RF.err e0
  else if(op&&t.pasted)=false∨S.length=0 then
   (if count+S.length≤l1 then itemsX XS ES l1 (I.drop (k+1)) (out++spX t.pv.space S) (count+S.length) (if S.length=0 then(op&&t.pasted)else true)else .stuck)
  else match out.getLast?,S[0]? with
   |some x,some z=>if count+(S.length-1)≤l1∧x.text.size+z.text.size≤1000000 then
    (if pasE x.kind z.kind x.text z.text≠0 then .err (pasE x.kind z.kind x.text z.text)
    else itemsX XS ES l1 (I.drop (k+1)) (out.dropLast++pasX x z::S.drop 1) (count+(S.length-1)) (if S.length=1 then(op&&t.pasted)else true))
    else .stuck
   |_,_=>.stuck)=RI:=b5
 refine x_cut (σ:=SlR×List AV) (fun(s,AL')=>⟨[(16,.v (.slice s.A s.n s.c)),(15,.p 9 0),(66,.v (.int .i64 (k:Int))),(65,.v (.int .i64 ((itmY.d I).n:Int))),(64,.r 7),(13,.p 5 0),(8,.r 4),(0,.p 0 0)],[],
  (9,.box 210 ((itC (I.getD ((k:Nat):Int).toNat itmY.dft)).map .v))::(5,.box 208 (fBox 8 count l1 op))::(8,.row 87 (tvY.d T))::(7,.sl (itmY.d I))::(4,.row 206 (argY.d AL'))::(3,.sl (vwY.d L))::(2,.sl (oneD (mCells m sa++[.int .i64 (id:Int),.slice Ai (itmY.d I).n ci,xu])))::xOw bm bp l1 N1,11⟩)
  (fun(s,AL') u=>e0=0∧Nw u0 (dif us u) (fun v=>PSt v M N1∧AsOk v AL' XS ES∧TksR v T out∧TksAt v s S)) (fun _=>by show 11≤11;omega) ?_ ?_
 refine Az (Ao Aa ?_)
 refine Ao Aa ?_
 refine Ap (fun h3=>?_) (fun h3=>?_)
 have h3:decide ((I.getD ((k:Nat):Int).toNat itmY.dft).param≥0)=true:=h3
 have h3:0≤(I.getD ((k:Nat):Int).toNat itmY.dft).param:=of_decide_eq_true h3
 have h4:0≤t.param:=by rw[←hgt];exact h3
 obtain⟨kk,hkk⟩:∃kk:Nat,(I.getD ((k:Nat):Int).toNat itmY.dft).param=(kk:Int):=⟨(I.getD ((k:Nat):Int).toNat itmY.dft).param.toNat,by omega⟩
 have hkk':t.param.toNat=kk:=by rw[←hgt,hkk];rfl
 have hkX:kk<XS.length:=by
  rcases Nat.lt_or_ge kk XS.length with h|h
  exact h
  unfold oneX at hone
  rw[if_pos h4,hkk',if_neg (by omega)]at hone
  cases hone
 have hyl:yldX t (XS.getD kk []) (ES.getD kk [])=(e0,S):=by
  unfold oneX at hone
  rw[if_pos h4,hkk',if_pos hkX]at hone
  exact Option.some.inj hone
 have hj0:=joinI_old u0 (dif us u3)
 have hj1:(dif us u3).sub (Bf u0 (dif us u3)):=joinI_new hus
 have hj2:(Bf u0 (dif us u3)).sub u3:=Bn hsub3 (Bl us u3)
 obtain⟨-,p2,p3⟩:=b4' _ hj0 hj1
 have hALl:=p2.len.1
 obtain⟨a,ha,hao,hae⟩:=p2.get hkX
 have hXkl:(XS.getD kk []).length≤1000000:=by
  rw[List.getD_eq_getElem?_getD,List.getElem?_eq_getElem hkX]
  exact hz2 _ (List.getElem_mem hkX)
 have hYs:=yields_scx (t:=(I.getD ((k:Nat):Int).toNat itmY.dft)) ha hao (fun _=>hae) hXkl (by omega)
 rw[←hgt]at hyl
 rw[hyl]at hYs
 have hADn:(argY.d AL).n=AL.length:=Lay.d_n _ _
 refine x_via (σ:=AV×SlR×Int) (fun(a',r,e)=>⟨[(17,.v (.int .i64 e)),(16,.v (.slice r.A r.n r.c)),(15,.p 9 0),(66,.v (.int .i64 (k:Int))),(65,.v (.int .i64 ((itmY.d I).n:Int))),(64,.r 7),(13,.p 5 0),(8,.r 4),(0,.p 0 0)],[],
  (9,.box 210 ((itC (I.getD ((k:Nat):Int).toNat itmY.dft)).map .v))::(5,.box 208 (fBox 8 count l1 op))::(8,.row 87 (tvY.d T))::(7,.sl (itmY.d I))::(4,.row 206 (argY.d (AL.set kk a')))::(3,.sl (vwY.d L))::(2,.sl (oneD (mCells m sa++[.int .i64 (id:Int),.slice Ai (itmY.d I).n ci,xu])))::xOw bm bp l1 N1,11⟩)
  (fun(a',r,e) u=>(e=e0∧a'.vw=a.vw∧a'.ex=a.ex)∧Nw u0 (dif us u) (fun v=>ArgOk v a' (XS.getD kk [])∧(e=0→TksAt v r S))) (fun _=>by show 11≤11;omega) ?_ ?_
 refine Bw mix ?_
 refine At Aa (fuel:=9) [0,1] rfl (by kernel_rfl) (by kernel_rfl) (fun _ _ _ hh=>hh) (by kernel_rfl) (by kernel_rfl) ?_
 refine Aq 2 4 (by kernel_rfl) O O ?_ ?_
 refine Ab Aa ?_
 refine Aq 3 4 (by kernel_rfl) O O ?_ ?_
 refine xl_eqv 80 (.int .i64 ((kk:Nat):Int)) rfl (congrArg (Value.int .i64) hkk) ?_
 refine Ab Aa ?_
 repeat refine sdI ?_
 refine Ae (fuel:=6) [4] O O (by kernel_rfl) (Ab Aa ?_)
 refine Ag 5 (by kernel_rfl) rfl ?_
 refine xl_callSCX hYs hj2 [4] O O O O fn104 O O O O O O ⟨trivial,trivial⟩ rfl (fun _=>⟨trivial,trivial⟩) (fun _=>rfl) (fun q u4 hu4 hFt hNw=>?_)
 obtain⟨a',r,e⟩:=q
 refine Ad ?_
 refine At Aa (fuel:=0) [6,7,8,9,10] rfl (by kernel_rfl) (by kernel_rfl) (fun _ _ _ hh=>hh) (by kernel_rfl) (by kernel_rfl) ?_
 refine Aj (by kernel_rfl) rfl ?_
 exact Af (a',r,(e:Int)) [] .z ⟨hFt,(Nw.lift hus hus3 hu4.sub hNw).imp (fun _ h=>⟨h.1,fun h0=>h.2 (by omega)⟩)⟩
 refine Ab Aa ?_
 refine Ag 3 (by kernel_rfl) rfl ?_
 refine xl_eqv 80 (.int .i64 ((kk:Nat):Int)) rfl (congrArg (Value.int .i64) hkk) ?_
 refine Ab Aa ?_
 repeat refine sdI ?_
 refine Ag 5 (by kernel_rfl) rfl ?_
 refine xl_callSCX hYs hj2 [4] O O O O fn104 O O O O O O ⟨trivial,trivial⟩ rfl (fun _=>⟨trivial,trivial⟩) (fun _=>rfl) (fun q u4 hu4 hFt hNw=>?_)
 obtain⟨a',r,e⟩:=q
 refine Ad ?_
 refine At Aa (fuel:=0) [6,7,8,9,10] rfl (by kernel_rfl) (by kernel_rfl) (fun _ _ _ hh=>hh) (by kernel_rfl) (by kernel_rfl) ?_
 refine Aj (by kernel_rfl) rfl ?_
 exact Af (a',r,(e:Int)) [] .z ⟨hFt,(Nw.lift hus hus3 hu4.sub hNw).imp (fun _ h=>⟨h.1,fun h0=>h.2 (by omega)⟩)⟩
 refine Ab Aa ?_
 refine Ae (fuel:=7) [2] O O (by kernel_rfl) (Ab Aa ?_)
 refine Ag 3 (by kernel_rfl) rfl ?_
 refine xl_eqv 80 (.int .i64 ((kk:Nat):Int)) rfl (congrArg (Value.int .i64) hkk) ?_
 refine Ab Aa ?_
 repeat refine sdI ?_
 refine Ag 5 (by kernel_rfl) rfl ?_
 refine xl_callSCX hYs hj2 [4] O O O O fn104 O O O O O O ⟨trivial,trivial⟩ rfl (fun _=>⟨trivial,trivial⟩) (fun _=>rfl) (fun q u4 hu4 hFt hNw=>?_)
 obtain⟨a',r,e⟩:=q
 refine Ad ?_
 refine At Aa (fuel:=0) [6,7,8,9,10] rfl (by kernel_rfl) (by kernel_rfl) (fun _ _ _ hh=>hh) (by kernel_rfl) (by kernel_rfl) ?_
 refine Aj (by kernel_rfl) rfl ?_
 exact Af (a',r,(e:Int)) [] .z ⟨hFt,(Nw.lift hus hus3 hu4.sub hNw).imp (fun _ h=>⟨h.1,fun h0=>h.2 (by omega)⟩)⟩
 rintro⟨a',r,e⟩ u4 hu4 ⟨⟨rfl,q1,q2⟩,q3⟩
 refine Ap (fun h5=>?_) (fun h5=>?_)
 have h5:decide (e≠0)=true:=h5
 have h5:e≠0:=of_decide_eq_true h5
 rw[if_pos h5]at b5
 have hfx:FX=.err e:=by rw[hF,←b5];rfl
 refine⟨(N1,l1,none,[],e),[],?_⟩
 have hfil:filO bm bp l1 N1 none [] e=(xOw bm bp l1 N1,3,[.v (.slice none 0 0),.v (.int .i64 e)]):=by unfold filO;rw[if_neg h5]
 show _=(filO bm bp l1 N1 none [] e).2.2.length∧Sub 2 [] _ ⟨knOf 0 (filO bm bp l1 N1 none [] e).2.2,[],(filO bm bp l1 N1 none [] e).1,(filO bm bp l1 N1 none [] e).2.1⟩∧_∧2≤(filO bm bp l1 N1 none [] e).2.1∧_∧_
 rw[hfil]
 exact⟨rfl,.of O O O O O rfl,rfl,by show 2≤3;omega,⟨by rw[hfx];exact⟨rfl,h5⟩,fun _=>rfl,fun ad h=>by cases h⟩,fun v a b h=>absurd h h5⟩
 have h5:decide (e≠0)=false:=h5
 have h5:e=0:=by simpa using h5
 refine Af (r,AL.set kk a') [] .z ⟨h5,fun v x y=>?_⟩
 obtain⟨z1,z2,z3⟩:=b4' v x ((Ba hu4.sub).trans y)
 obtain⟨z4,z5⟩:=q3 v x y
 exact⟨z1,z2.set ha z4 q2,z3,z5 h5⟩
 have h3:decide ((I.getD ((k:Nat):Int).toNat itmY.dft).param≥0)=false:=h3
 have h3:¬ 0≤(I.getD ((k:Nat):Int).toNat itmY.dft).param:=of_decide_eq_false h3
 have h4:¬ 0≤t.param:=by rw[←hgt];exact h3
 unfold oneX at hone
 rw[if_neg h4]at hone
 split at hone
 rename_i hp
 obtain⟨hp1,hp2,hp3⟩:=hp
 cases hone
 refine Af (⟨A3,1,c3⟩,AL) [] .z ⟨rfl,fun v a b=>?_⟩
 obtain⟨q1,q2,q3⟩:=b4' v a b
 refine⟨q1,q2,q3,[⟨(I.getD ((k:Nat):Int).toNat itmY.dft).pv,none⟩],(hA3.difOf (us:=us) (fun ad had=>dif_none hus2 (hA3n ad had).1)).sub b,rfl,⟨?_,?_,?_,?_,rfl⟩,trivial⟩
 rw[hgt]
 rw[hgt]
 rw[hgt]
 rw[hgt]
 show Aw v (.slice t.pv.pa t.pv.pn t.pv.pc) _
 rw[hp1,hp2,hp3]
 exact slAt_nil _ _ rfl
 cases hone
 rintro⟨⟨sA,sn,sc⟩,AL2⟩ u4 hu4 ⟨rfl,c4⟩
 rw[if_neg (by simp)]at b5
 have hsub4:u0.sub u4:=hsub3.trans hu4.sub
 have hus4:us.sub u4:=hus3.trans hu4.sub
 have hj0:=joinI_old u0 (dif us u4)
 have hj1:(dif us u4).sub (Bf u0 (dif us u4)):=joinI_new hus
 have hj2:(Bf u0 (dif us u4)).sub u4:=Bn hsub4 (Bl us u4)
 obtain⟨-,-,d3,ST,f1,f2,f3⟩:=c4 _ hj0 hj1
 have f2:sn=ST.length:=f2
 subst f2
 have hSl:=f3.len
 have hTl:=d3.len
 have hpas:(I.getD ((k:Nat):Int).toNat itmY.dft).pasted=t.pasted:=by rw[hgt]
 have hspc:(I.getD ((k:Nat):Int).toNat itmY.dft).pv.space=t.pv.space:=by rw[hgt]
 refine Az (Ao Aa ?_)
 refine Az (Ao Aa ?_)
 refine Ao Aa ?_
 refine Ap (fun h3=>?_) (fun h3=>?_)
 have h3:(!(op&&(I.getD ((k:Nat):Int).toNat itmY.dft).pasted)||decide ((ST.length:Int)=0))=true:=h3
 rw[hpas]at h3
 have h4:(op&&t.pasted)=false∨S.length=0:=by
  rw[Bool.or_eq_true,Bool.not_eq_true']at h3
  rcases h3 with h|h
  exact .inl h
  exact .inr (by have:=of_decide_eq_true h;omega)
 rw[if_pos h4]at b5
 have h5:count+S.length≤l1:=by
  rcases Nat.lt_or_ge l1 (count+S.length)with h|h
  rw[if_neg (by omega)]at b5
  exact absurd b5.symm hRIn
  exact h
 rw[if_pos h5]at b5
 refine xl_callSCX (add_scx (T:=T) (S:=ST) (count:=count) (most:=l1) (op:=op&&(I.getD ((k:Nat):Int).toNat itmY.dft).pasted) (sp:=(I.getD ((k:Nat):Int).toNat itmY.dft).pv.space) f1 (by omega) (by omega) (by omega)) hj2 [5,8] O O O O fn105 O O O O O O ⟨trivial,trivial,trivial⟩ rfl (fun _=>⟨trivial,trivial,trivial⟩) (fun _=>rfl) (fun _ u5 hu5 _ _=>?_)
 refine Ab Aa ?_
 refine Ao Aa ?_
 repeat refine sdI ?_
 refine Bj (k+1,AL2,T++spT (I.getD ((k:Nat):Int).toNat itmY.dft).pv.space ST,count+ST.length,if ST.length=0 then(op&&(I.getD ((k:Nat):Int).toNat itmY.dft).pasted)else true) [(8,some 11)] .z ⟨by omega,?_,by omega,out++spX t.pv.space S,fun v a b=>?_,?_⟩ (by show I.length-(k+1)<I.length-k;omega)
 have:(spT (I.getD ((k:Nat):Int).toNat itmY.dft).pv.space ST).length=ST.length:=by cases ST<;>rfl
 rw[List.length_append,this];omega
 obtain⟨z1,z2,z3,z4⟩:=c4 v a ((Ba hu5.sub).trans b)
 refine⟨z1,z2,z3.append ?_⟩
 rw[←hspc]
 exact(f3.sub (Bn a ((Ba hu5.sub).trans b))).sp _
 rw[hSl,hpas];exact b5
 have h3:(!(op&&(I.getD ((k:Nat):Int).toNat itmY.dft).pasted)||decide ((ST.length:Int)=0))=false:=h3
 rw[hpas]at h3
 have h4:¬((op&&t.pasted)=false∨S.length=0):=by
  rw[Bool.or_eq_false_iff,Bool.not_eq_false']at h3
  rintro(h|h)
  rw[h]at h3;cases h3.1
  have:=of_decide_eq_false h3.2;omega
 rw[if_neg h4]at b5
 obtain⟨x,hx⟩:∃x,out.getLast?=some x:=by
  cases h:out.getLast? with
  |none=>rw[h]at b5;exact absurd b5.symm hRIn
  |some x=>exact⟨x,rfl⟩
 obtain⟨z,hz0⟩:∃z,S[0]?=some z:=by
  cases h:S[0]? with
  |none=>rw[hx,h]at b5;exact absurd b5.symm hRIn
  |some x=>exact⟨x,rfl⟩
 rw[hx,hz0]at b5
 have b5:(if count+(S.length-1)≤l1∧x.text.size+z.text.size≤1000000 then
  (if pasE x.kind z.kind x.text z.text≠0 then RF.err (pasE x.kind z.kind x.text z.text)
  else itemsX XS ES l1 (I.drop (k+1)) (out.dropLast++pasX x z::S.drop 1) (count+(S.length-1)) (if S.length=1 then(op&&t.pasted)else true))
  else .stuck)=RI:=b5
 have hbb:count+(S.length-1)≤l1∧x.text.size+z.text.size≤1000000:=by
  by_cases h:count+(S.length-1)≤l1∧x.text.size+z.text.size≤1000000
  exact h
  rw[if_neg h]at b5
  exact absurd b5.symm hRIn
 rw[if_pos hbb]at b5
 have hol:0<out.length:=by cases out with
  |nil=>simp at hx
  |cons a b=>simp
 have hSl0:0<S.length:=(List.getElem?_eq_some_iff.1 hz0).1
 obtain⟨tl,htl⟩:∃tl,T.getLast?=some tl:=by
  rw[List.getLast?_eq_getElem?]
  exact⟨_,List.getElem?_eq_getElem (by omega)⟩
 obtain⟨x',hx',hrx⟩:=d3.get (by rw[List.getLast?_eq_getElem?]at htl;exact htl)
 rw[hTl,←List.getLast?_eq_getElem?,hx]at hx'
 cases hx'
 obtain⟨y,hy⟩:∃y,ST[0]?=some y:=⟨_,List.getElem?_eq_getElem (by omega)⟩
 obtain⟨z',hz',hrz⟩:=f3.get hy
 rw[hz0]at hz'
 cases hz'
 obtain⟨EP,hEP⟩:∃EP,EP=pasE x.kind z.kind x.text z.text:=⟨_,rfl⟩
 have hszb:x.text.size+z.text.size≤1000000000:=by omega
 have hcnb:count+(ST.length-1)≤l1:=by omega
 refine xl_callSCX (paste_scx (T:=T) (S:=ST) (count:=count) (most:=l1) (op:=op&&(I.getD ((k:Nat):Int).toNat itmY.dft).pasted) (hG.sub hj0) f1 htl hy hrx hrz hcnb (by omega) (by omega) hszb) hj2 [5,8] O O O O fn106 O O O O O O ⟨trivial,trivial,trivial⟩ rfl (fun q=>?_) (fun _=>rfl) (fun q u5 hu5 hFt hNw=>?_)
 obtain⟨e,p⟩:=q
 show pGL (pasO T ST tl y count l1 (op&&(I.getD ((k:Nat):Int).toNat itmY.dft).pasted) e p)
 unfold pasO
 split<;>exact⟨trivial,trivial,trivial⟩
 obtain⟨e,p⟩:=q
 have hFt:e=pasE x.kind z.kind x.text z.text:=hFt
 rw[←hFt]at b5
 by_cases he:e=0
 subst he
 have hpo:pasO T ST tl y count l1 (op&&(I.getD ((k:Nat):Int).toNat itmY.dft).pasted) 0 p=fOw' (T.dropLast++pasT tl y p::ST.drop 1) (count+(ST.length-1)) l1 (if ST.length=1 then(op&&(I.getD ((k:Nat):Int).toNat itmY.dft).pasted)else true):=if_pos rfl
 show XL _ _ _ _ ⟨_,_,mergeOw [5,8] 2 11 (pasO T ST tl y count l1 (op&&(I.getD ((k:Nat):Int).toNat itmY.dft).pasted) 0 p) _,_⟩ _
 rw[hpo]
 rw[if_neg (by simp)]at b5
 refine Ab Aa ?_
 refine x_iff rfl ?_
 refine Ao Aa ?_
 repeat refine sdI ?_
 have hdl:T.dropLast.length=T.length-1:=List.length_dropLast
 refine Bj (k+1,AL2,T.dropLast++pasT tl y p::ST.drop 1,count+(ST.length-1),if ST.length=1 then(op&&(I.getD ((k:Nat):Int).toNat itmY.dft).pasted)else true) [(8,some 11)] .z ⟨by omega,?_,by omega,out.dropLast++pasX x z::S.drop 1,fun v a b=>?_,?_⟩ (by show I.length-(k+1)<I.length-k;omega)
 rw[List.length_append,hdl,List.length_cons,List.length_drop];omega
 obtain⟨z1,z2,z3,z4⟩:=c4 v a ((Ba hu5.sub).trans b)
 have hjv:(Bf u0 (dif us u4)).sub v:=Bn a ((Ba hu5.sub).trans b)
 refine⟨z1,z2,?_⟩
 rw[List.dropLast_eq_take,List.dropLast_eq_take,hTl]
 refine(z3.take _).append ⟨⟨?_,?_,hrx.space,slAt_nil _ _ rfl,?_⟩,(f3.sub hjv).drop 1⟩
 show(oneP (tl.pv.text++y.pv.text)).1=(oneP (x.text++z.text)).1
 rw[hrx.text,hrz.text]
 show tl.pv.text++y.pv.text=x.text++z.text
 rw[hrx.text,hrz.text]
 exact(Nw.lift hus hus4 hu5.sub hNw).at a b rfl
 rw[hSl,hpas];exact b5
 have hpo:pasO T ST tl y count l1 (op&&(I.getD ((k:Nat):Int).toNat itmY.dft).pasted) e p=fOw' T count l1 (op&&(I.getD ((k:Nat):Int).toNat itmY.dft).pasted):=if_neg he
 show XL _ _ _ _ ⟨_,_,mergeOw [5,8] 2 11 (pasO T ST tl y count l1 (op&&(I.getD ((k:Nat):Int).toNat itmY.dft).pasted) e p) _,_⟩ _
 rw[hpo]
 rw[if_pos he]at b5
 refine Ab Aa ?_
 refine Be (show decide (e≠0)=true from decide_eq_true he) ?_
 have hfx:FX=.err e:=by rw[hF,←b5];rfl
 refine⟨(N1,l1,none,[],e),[],?_⟩
 have hfil:filO bm bp l1 N1 none [] e=(xOw bm bp l1 N1,3,[.v (.slice none 0 0),.v (.int .i64 e)]):=by unfold filO;rw[if_neg he]
 show _=(filO bm bp l1 N1 none [] e).2.2.length∧Sub 2 [] _ ⟨knOf 0 (filO bm bp l1 N1 none [] e).2.2,[],(filO bm bp l1 N1 none [] e).1,(filO bm bp l1 N1 none [] e).2.1⟩∧_∧2≤(filO bm bp l1 N1 none [] e).2.1∧_∧_
 rw[hfil]
 exact⟨rfl,.of O O O O O rfl,rfl,by show 2≤3;omega,⟨by rw[hfx];exact⟨rfl,he⟩,fun _=>rfl,fun ad h=>by cases h⟩,fun v a b h=>absurd h he⟩
 have h2:¬(k:Int)<((itmY.d I).n:Int):=of_decide_eq_false h2
 obtain rfl:k=I.length:=by omega
 rw[List.drop_of_length_le (Nat.le_refl _)]at b5
 have b5:RF.ok out count=RI:=b5
 rw[←b5]at hF
 have hF:FX=(if l1<1+count then .err 63 else .ok (N1.map (·.1)) (l1-(1+count)) out):=hF
 refine Az (Ao Aa ?_)
 refine x_via (σ:=Unit) (fun _=>⟨[(13,.p 5 0),(0,.p 0 0)],[],
  (5,.box 208 (fBox 8 count l1 op))::(8,.row 87 (tvY.d T))::xOw bm bp ((l1:Int)-(1+(count:Int))) N1,9⟩) (fun _ _=>True) (fun _=>by show 9≤9;omega) ?_ ?_
 refine Bw mix ?_
 refine At Aa (fuel:=7) [0,4,1,2] rfl (by kernel_rfl) (by kernel_rfl) (fun _ _ _ hh=>hh) (by kernel_rfl) (by kernel_rfl) ?_
 refine Aq 3 5 (by kernel_rfl) O O ?_ ?_
 refine Ab Aa ?_
 refine Ae (fuel:=0) [5,6,7,8,9,10] O O (by kernel_rfl) (Ab Aa ?_)
 repeat refine sdI ?_
 refine Aj (by kernel_rfl) rfl ?_
 exact Af () [] .z trivial
 refine Ab Aa ?_
 refine Aq 3 6 (by kernel_rfl) O O ?_ ?_
 refine Ab Aa ?_
 refine Ae (fuel:=0) [6,7,8,9,10] O O (by kernel_rfl) (Ab Aa ?_)
 repeat refine sdI ?_
 refine Aj (by kernel_rfl) rfl ?_
 exact Af () [] .z trivial
 refine Ab Aa ?_
 repeat refine sdI ?_
 refine Ae (fuel:=0) [3,7,8,9,10] O O (by kernel_rfl) (Ab Aa ?_)
 repeat refine sdI ?_
 refine Aj (by kernel_rfl) rfl ?_
 exact Af () [] .z trivial
 rintro _ u3 hu3 -
 refine Ap (fun h3=>?_) (fun h3=>?_)
 have h3:decide ((l1:Int)-(1+(count:Int))<0)=true:=h3
 have h3:=of_decide_eq_true h3
 rw[if_pos (by omega)]at hF
 refine⟨(N1,(l1:Int)-(1+(count:Int)),none,[],63),[],?_⟩
 have hfil:filO bm bp ((l1:Int)-(1+(count:Int))) N1 none [] 63=(xOw bm bp ((l1:Int)-(1+(count:Int))) N1,3,[.v (.slice none 0 0),.v (.int .i64 63)]):=rfl
 show _=(filO bm bp ((l1:Int)-(1+(count:Int))) N1 none [] 63).2.2.length∧Sub 2 [] _ ⟨knOf 0 (filO bm bp ((l1:Int)-(1+(count:Int))) N1 none [] 63).2.2,[],(filO bm bp ((l1:Int)-(1+(count:Int))) N1 none [] 63).1,(filO bm bp ((l1:Int)-(1+(count:Int))) N1 none [] 63).2.1⟩∧_∧2≤(filO bm bp ((l1:Int)-(1+(count:Int))) N1 none [] 63).2.1∧_∧_
 rw[hfil]
 exact⟨rfl,.of O O O O O rfl,rfl,by show 2≤3;omega,⟨by rw[hF];exact⟨rfl,by decide⟩,fun _=>rfl,fun ad h=>by cases h⟩,fun v a b h=>by cases h⟩
 have h3:decide ((l1:Int)-(1+(count:Int))<0)=false:=h3
 have h3:=of_decide_eq_false h3
 rw[if_neg (by omega)]at hF
 refine Az (Ao Aa ?_)
 refine xl_callSCX (clip_scx (u0:=u3) T (by omega)) ⟨fun _ _ h=>h⟩ [8] O O O O fn107 O O O O O O ⟨trivial,trivial⟩ rfl (fun _=>⟨fun _ _ _ _ h=>h,trivial⟩) (fun _=>rfl) (fun A' u4 hu4 hA' _=>?_)
 refine Ab Aa ?_
 refine Ao Aa ?_
 obtain⟨hA0,hA1⟩:=hA'
 refine⟨(N1,(l1:Int)-(1+(count:Int)),A',T,0),[(2,some 8)],rfl,.of O O O O O rfl,rfl,by show 2≤3;omega,⟨?_,hA0,hA1⟩,fun v a b _=>?_⟩
 rw[hF]
 exact⟨rfl,rfl,by omega⟩
 obtain⟨z1,z2,z3⟩:=b4 v a ((Ba (hu3.trans hu4).sub).trans b)
 refine⟨z1,?_⟩
 rw[hF]
 exact z3
end Go.Proofs.YtnjlkdhdinfejaaGreat
