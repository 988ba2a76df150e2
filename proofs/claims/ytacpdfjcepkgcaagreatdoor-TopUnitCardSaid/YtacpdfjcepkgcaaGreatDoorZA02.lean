/- Part 2 of the lemmas behind the claim. -/
import Derived.Test.YtacpdfjcepkgcaaGreatDoorZA01
set_option linter.unusedSimpArgs false
set_option linter.unusedVariables false
set_option linter.constructorNameAsVariable false
set_option linter.unusedSectionVars false
set_option linter.defProp false
set_option maxRecDepth 100000
set_option maxHeartbeats 40000000
namespace Go.Ps
structure Tk where
 c:Int
 t:List Nat
 deriving DecidableEq
structure Nd where
 k:Nat
 f:Nat
 t:Nat
 s:Nat
 deriving DecidableEq
structure Dc where
 n:List Nat
 ty:Bool
 deriving DecidableEq
structure Stt where
 f:Nat
 b:Nat
 deriving DecidableEq
structure Frm where
 named:Bool
 name:List Nat
 near:Nat
 ps:List Dc
structure PS where
 at':Nat
 done:List Nd
 ty:List Nat→Bool
 dl:List Dc
 st:List ((List Nat→Bool)×List Dc)
inductive Out (α:Type) where
 |ok (a:α) (s:PS)
 |fail
 |out
def M (α:Type):Type:=List Tk→PS→Out α
def ret {α:Type} (a:α):M α:=fun _ s=>.ok a s
def bd {α β:Type} (m:M α) (f:α→M β):M β:=fun l s=>match m l s with
 |.ok a s=>f a l s
 |.fail=>.fail
 |.out=>.out
def D6 {α:Type} (b:Bool) (x y:M α):M α:=match b with
 |true=>x
 |false=>y
def Ku {α:Type}:M α:=fun _ _=>.fail
def z0:Tk:=⟨0,[]⟩
def L9:M Tk:=fun l s=>.ok (l.getD s.at' z0) s
def Gg (t:Tk) (x:List Nat):Bool:=decide (t.c=7)&&decide (t.t=x)
def Of (t:Tk) (x:List Nat):Bool:=decide (t.c=1)&&decide (t.t=x)
def Hz (x:List Nat):M Bool:=fun l s=>.ok (Gg (l.getD s.at' z0) x) s
def Vp (x:List Nat):M Bool:=fun l s=>.ok (Of (l.getD s.at' z0) x) s
def big:Nat:=10000000
def He (n:Nat):M Unit:=fun l s=>if s.at'+n≤l.length then .ok () {s with at':=s.at'+n}else .out
def clo (t:Tk):Bool:=Gg t [59]||Gg t [125]
def Jo (x:List Nat):M Bool:=fun l s=>match clo (l.getD s.at' z0)with
 |true=>.out
 |false=>.ok (Gg (l.getD (s.at'+1) z0) x) s
def E6 (x:List Nat):M Bool:=fun l s=>match Gg (l.getD s.at' z0) x with
 |true=>.ok true {s with at':=s.at'+1}
 |false=>.ok false s
def Km (x:List Nat):M Bool:=fun l s=>match Of (l.getD s.at' z0) x with
 |true=>.ok true {s with at':=s.at'+1}
 |false=>.ok false s
def De (x:List Nat):M Unit:=fun l s=>match Gg (l.getD s.at' z0) x with
 |true=>.ok () {s with at':=s.at'+1}
 |false=>.fail
def name:M (List Nat):=fun l s=>if(l.getD s.at' z0).c=2 then .ok (l.getD s.at' z0).t {s with at':=s.at'+1}else .fail
def V4:M Nat:=fun _ s=>.ok s.at' s
def Fm:M Stt:=fun _ s=>.ok ⟨s.at',s.done.length⟩ s
def Cl (k:Nat) (b:Stt):M Unit:=fun _ s=>if s.done.length<big∧b.b≤s.done.length then .ok () {s with done:=s.done++[⟨k,b.f,s.at',s.done.length-b.b+1⟩]}else .out
def isTy (x:List Nat):M Bool:=fun _ s=>.ok (s.ty x) s
def tot (s:PS):Nat:=s.dl.length+(s.st.map (·.2.length)).sum
def Hq:M Unit:=fun _ s=>if s.st.length<big then .ok () {s with st:=(s.ty,s.dl)::s.st,dl:=[]}else .out
def Em:M Unit:=fun _ s=>match s.st with
 |[]=>.out
 |(ty,dl)::r=>.ok () {s with ty:=ty,dl:=dl,st:=r}
def Fu (d:Dc):M Unit:=fun _ s=>if d.n=[]then .ok () s else if tot s<big then .ok () {s with ty:=fun x=>if x=d.n then d.ty else s.ty x,dl:=s.dl++[d]}else .out
def X5:M (List Dc):=fun _ s=>.ok s.dl s
def Hy (t:List Nat):Nat:=
 if t∈[[116,121,112,101,100,101,102],[101,120,116,101,114,110],[115,116,97,116,105,99],[95,84,104,114,101,97,100,95,108,111,99,97,108],[97,117,116,111],[114,101,103,105,115,116,101,114],[105,110,108,105,110,101],[95,78,111,114,101,116,117,114,110]]then 1
 else if t=[95,65,108,105,103,110,97,115]then 2
 else if t∈[[99,111,110,115,116],[114,101,115,116,114,105,99,116],[118,111,108,97,116,105,108,101]]then 3
 else if t=[95,65,116,111,109,105,99]then 4
 else if t∈[[118,111,105,100],[99,104,97,114],[115,104,111,114,116],[105,110,116],[108,111,110,103],[102,108,111,97,116],[100,111,117,98,108,101],[115,105,103,110,101,100],[117,110,115,105,103,110,101,100],[95,66,111,111,108],[95,67,111,109,112,108,101,120]]then 5
 else if t∈[[115,116,114,117,99,116],[117,110,105,111,110]]then 6
 else if t=[101,110,117,109]then 7
 else 0
def Wm (t:Tk) (ty:List Nat→Bool):Bool:=if t.c=1 then decide (Hy t.t≠0)else if t.c=2 then ty t.t else false
def Aav (t:Tk) (ty:List Nat→Bool):Bool:=if t.c=1∧(Hy t.t=1∨Hy t.t=2)then false else Wm t ty
def Iy:M Bool:=fun l s=>.ok (Wm (l.getD s.at' z0) s.ty) s
def Iz:M Bool:=fun l s=>.ok (Aav (l.getD s.at' z0) s.ty) s
def Ew:M Bool:=fun l s=>match clo (l.getD s.at' z0)with
 |true=>.out
 |false=>.ok (Wm (l.getD (s.at'+1) z0) s.ty) s
def Ej:M Bool:=fun l s=>match clo (l.getD s.at' z0)with
 |true=>.out
 |false=>.ok (Aav (l.getD (s.at'+1) z0) s.ty) s
def Eu:M Bool:=bd (Hz [40]) fun b=>D6 b (Ej) (ret false)
def Eh:M Bool:=bd (Jo [41]) fun b=>D6 b (ret true) (Ew)
def Hb (t:Tk):Bool:=decide (t.c=7)&&decide (t.t∈[[61],[42,61],[47,61],[37,61],[43,61],[45,61],[60,60,61],[62,62,61],[38,61],[94,61],[124,61]])
def Ny:M Bool:=fun l s=>.ok (Hb (l.getD s.at' z0)) s
def Gz (t:Tk):Nat:=if t.c=7 then
    if t.t=[124,124]then 36
    else if t.t=[38,38]then 37
    else if t.t=[124]then 38
    else if t.t=[94]then 39
    else if t.t=[38]then 40
    else if t.t∈[[61,61],[33,61]]then 41
    else if t.t∈[[60],[62],[60,61],[62,61]]then 42
    else if t.t∈[[60,60],[62,62]]then 43
    else if t.t∈[[43],[45]]then 44
    else if t.t∈[[42],[47],[37]]then 45
    else 0
 else 0
def Xr:M Nat:=fun l s=>.ok (Gz (l.getD s.at' z0)) s
def Fg:M Bool:=bd L9 fun t=>if t.c=2 then Jo [58]else ret false
def F7:M Bool:=bd (Vp [95,83,116,97,116,105,99,95,97,115,115,101,114,116]) fun b=>D6 b (ret true) (Iy)
def W {α:Type} (o:Out α) (Q:α→PS→Prop) (F O:Prop):Prop:=match o with
 |.ok a s=>Q a s
 |.fail=>F
 |.out=>O
theorem Ac {α β:Type} {m:M α} {f:α→M β} {l:List Tk} {s:PS} {Q:β→PS→Prop} {F O:Prop}:W (bd m f l s) Q F O↔W (m l s) (fun a s'=>W (f a l s') Q F O) F O:=by
 unfold W bd
 cases m l s<;>exact Iff.rfl
theorem Ao {α β γ:Type} (m:M α) (f:α→M β) (g:β→M γ):bd (bd m f) g=bd m fun a=>bd (f a) g:=by
 funext l s;unfold bd
 cases m l s<;>rfl
theorem A8 {α β:Type} (a:α) (f:α→M β):bd (ret a) f=f a:=rfl
theorem Bt {α:Type} (x y:M α):D6 true x y=x:=rfl
theorem Bs {α:Type} (x y:M α):D6 false x y=y:=rfl
theorem W.mono {α:Type} {o:Out α} {Q Q':α→PS→Prop} {F F' O O':Prop} (h:W o Q F O) (hq:∀a s,Q a s→Q' a s) (hf:F→F') (ho:O→O'):W o Q' F' O':=by
 unfold W at h ⊢
 cases o with
 |ok a s=>exact hq _ _ h
 |fail=>exact hf h
 |out=>exact ho h
inductive Val where
 |u
 |b (x:Bool)
 |f (f:Frm)
 |fb (f:Frm) (x:Bool)
 |ds (l:List Dc)
 |sp (td:Bool) (words others:Nat)
def Jt:Val→Bool
 |.b x=>x
 |.fb _ x=>x
 |_=>false
def spT:Val→Bool
 |.sp t _ _=>t
 |_=>false
def spW:Val→Nat
 |.sp _ w _=>w
 |_=>0
def spO:Val→Nat
 |.sp _ _ o=>o
 |_=>0
def Wo (w o:Nat):Bool:=decide (w+o=0)||decide (o > 1)||(decide (w > 0)&&decide (o > 0))
theorem badS_t {w o:Nat} (h:w+o=0∨o > 1∨w > 0∧o > 0):Wo w o=true:=by
 unfold Wo
 rcases h with h|h|⟨h1,h2⟩
 · simp[h]
 · simp[h]
 · simp[h1,h2]
theorem badS_f {w o:Nat} (h:¬(w+o=0∨o > 1∨w > 0∧o > 0)):Wo w o=false:=by
 cases hb:Wo w o with
 |false=>rfl
 |true=>
  exfalso;apply h
  unfold Wo at hb
  simp at hb
  omega
theorem spT_sp (t:Bool) (w o:Nat):spT (.sp t w o)=t:=rfl
theorem spW_sp (t:Bool) (w o:Nat):spW (.sp t w o)=w:=rfl
theorem spO_sp (t:Bool) (w o:Nat):spO (.sp t w o)=o:=rfl
def f0:Frm:=⟨false,[],0,[]⟩
def Lx:Val→Frm
 |.f f=>f
 |.fb f _=>f
 |_=>f0
def asD:Val→List Dc
 |.ds l=>l
 |_=>[]
inductive NT where
 |expr|exprL (s:Stt)|assign|choice|binary (Gi:Nat)|binaryL (Gi:Nat) (s:Stt) (u:Bool)|cast|typeInBr|literal (s:Stt)
 |unary|size (v:Bool)|postf|applied (s:Stt)|call|callL|primary|strings|stringsL|generic|genericL|assoc|initializer|braces|bracesL
 |item|itemL|desig
 |declarator (kind:Nat)|starsL (b:Bool)|qualifiers|qualL|suffixes (f:Frm) (any:Bool)|array|params|paramsL|param
 |unit|external|body (ds:List Dc)|bodyL (ds:List Dc)|declaration|moreInits (td:Bool)|init (td:Bool)|restOfInit (s:Stt)|assert|items|itemsL|part|condition|until' (x:List Nat)
 |statement|keyword (x:List Nat) (s:Stt)|compound (x:List Nat) (s:Stt)
 |specs (all:Bool)|specsL (all td:Bool) (words others:Nat)|align|atomic|record|recordL|member|memberL|field|enum|enumL|enumerator|typeName
def Ah (R:NT→M Val):NT→M Val
 |.expr=>bd Fm fun s=>bd (R .assign) fun _=>R (.exprL s)
 |.exprL s=>bd (E6 [44]) fun b=>D6 b (bd (R .assign) fun _=>bd (Cl 33 s) fun _=>R (.exprL s)) (ret Val.u)
 |.assign=>bd Fm fun s=>bd (R .choice) fun u=>D6 (Jt u) (bd Ny fun a=>D6 a (bd (He 1) fun _=>bd (R .assign) fun _=>bd (Cl 34 s) fun _=>ret Val.u) (ret Val.u)) (ret Val.u)
 |.choice=>bd Fm fun s=>bd (R (.binary 36)) fun u=>bd (E6 [63]) fun q=>D6 q (bd (R .expr) fun _=>bd (De [58]) fun _=>bd (R .choice) fun _=>bd (Cl 35 s) fun _=>ret (Val.b false)) (ret (Val.b (Jt u)))
 |.binary Gi=>bd Fm fun s=>bd (R .cast) fun u=>R (.binaryL Gi s (Jt u))
 |.binaryL Gi s u=>bd Xr fun kind=>if kind<Gi then ret (Val.b u)else bd (He 1) fun _=>bd (R (.binary (kind+1))) fun _=>bd (Cl kind s) fun _=>R (.binaryL Gi s false)
 |.cast=>bd Eu fun b=>D6 b (bd Fm fun s=>bd (R .typeInBr) fun _=>bd (Hz [123]) fun c=>D6 c (bd (R (.literal s)) fun _=>ret (Val.b true)) (bd (R .cast) fun _=>bd (Cl 46 s) fun _=>ret (Val.b false))) (bd (R .unary) fun _=>ret (Val.b true))
 |.typeInBr=>bd (De [40]) fun _=>bd (R .typeName) fun _=>bd (De [41]) fun _=>ret Val.u
 |.literal s=>bd (R .braces) fun _=>bd (Cl 53 s) fun _=>bd (R (.applied s)) fun _=>ret Val.u
 |.unary=>bd Fm fun s=>bd L9 fun t=>
   if t.c=7 then
    if t.t=[43,43]then bd (He 1) fun _=>bd (R .unary) fun _=>bd (Cl 47 s) fun _=>ret Val.u
    else if t.t=[45,45]then bd (He 1) fun _=>bd (R .unary) fun _=>bd (Cl 47 s) fun _=>ret Val.u
    else if t.t=[38]then bd (He 1) fun _=>bd (R .cast) fun _=>bd (Cl 47 s) fun _=>ret Val.u
    else if t.t=[42]then bd (He 1) fun _=>bd (R .cast) fun _=>bd (Cl 47 s) fun _=>ret Val.u
    else if t.t=[43]then bd (He 1) fun _=>bd (R .cast) fun _=>bd (Cl 47 s) fun _=>ret Val.u
    else if t.t=[45]then bd (He 1) fun _=>bd (R .cast) fun _=>bd (Cl 47 s) fun _=>ret Val.u
    else if t.t=[126]then bd (He 1) fun _=>bd (R .cast) fun _=>bd (Cl 47 s) fun _=>ret Val.u
    else if t.t=[33]then bd (He 1) fun _=>bd (R .cast) fun _=>bd (Cl 47 s) fun _=>ret Val.u
    else R .postf
   else if t.c=1 then
    if t.t=[115,105,122,101,111,102]then bd (He 1) fun _=>bd (R (.size true)) fun _=>bd (Cl 48 s) fun _=>ret Val.u
    else if t.t=[95,65,108,105,103,110,111,102]then bd (He 1) fun _=>bd (R (.size false)) fun _=>bd (Cl 48 s) fun _=>ret Val.u
    else R .postf
   else R .postf
 |.size v=>bd Eu fun b=>D6 b (bd Fm fun s=>bd (R .typeInBr) fun _=>D6 v (bd (Hz [123]) fun c=>D6 c (R (.literal s)) (ret Val.u)) (ret Val.u)) (D6 v (R .unary) Ku)
 |.postf=>bd Fm fun s=>bd Eu fun b=>D6 b (bd (R .typeInBr) fun _=>R (.literal s)) (bd (R .primary) fun _=>R (.applied s))
 |.applied s=>bd L9 fun t=>
   if t.c=7 then
    if t.t=[91]then bd (He 1) fun _=>bd (R .expr) fun _=>bd (De [93]) fun _=>bd (Cl 49 s) fun _=>R (.applied s)
    else if t.t=[40]then bd (R .call) fun _=>bd (Cl 50 s) fun _=>R (.applied s)
    else if t.t=[46]then bd (He 1) fun _=>bd name fun _=>bd (Cl 51 s) fun _=>R (.applied s)
    else if t.t=[45,62]then bd (He 1) fun _=>bd name fun _=>bd (Cl 51 s) fun _=>R (.applied s)
    else if t.t=[43,43]then bd (He 1) fun _=>bd (Cl 52 s) fun _=>R (.applied s)
    else if t.t=[45,45]then bd (He 1) fun _=>bd (Cl 52 s) fun _=>R (.applied s)
    else ret Val.u
   else ret Val.u
 |.call=>bd (De [40]) fun _=>bd (E6 [41]) fun b=>D6 b (ret Val.u) (bd (R .assign) fun _=>R .callL)
 |.callL=>bd (E6 [44]) fun b=>D6 b (bd (R .assign) fun _=>R .callL) (bd (De [41]) fun _=>ret Val.u)
 |.primary=>bd Fm fun s=>bd L9 fun t=>bd (if t.c=2 then bd (isTy t.t) fun b=>ret (!b)else ret false) fun nm=>
   D6 nm (bd (He 1) fun _=>bd (Cl 57 s) fun _=>ret Val.u)
    (if t.c=3 then bd (He 1) fun _=>bd (Cl 58 s) fun _=>ret Val.u
     else if t.c=4 then bd (He 1) fun _=>bd (Cl 58 s) fun _=>ret Val.u
     else if t.c=5 then bd (He 1) fun _=>bd (Cl 58 s) fun _=>ret Val.u
     else if t.c=6 then bd (R .strings) fun _=>bd (Cl 58 s) fun _=>ret Val.u
     else bd (E6 [40]) fun b=>D6 b (bd (R .expr) fun _=>bd (De [41]) fun _=>bd (Cl 56 s) fun _=>ret Val.u)
      (bd (Km [95,71,101,110,101,114,105,99]) fun g=>D6 g (bd (R .generic) fun _=>bd (Cl 54 s) fun _=>ret Val.u) Ku))
 |.strings=>bd L9 fun t=>if t.c=6 then R .stringsL else Ku
 |.stringsL=>bd L9 fun t=>if t.c=6 then bd (He 1) fun _=>R .stringsL else ret Val.u
 |.generic=>bd (De [40]) fun _=>bd (R .assign) fun _=>bd (De [44]) fun _=>bd (R .assoc) fun _=>R .genericL
 |.genericL=>bd (E6 [44]) fun b=>D6 b (bd (R .assoc) fun _=>R .genericL) (bd (De [41]) fun _=>ret Val.u)
 |.assoc=>bd Fm fun s=>bd (Km [100,101,102,97,117,108,116]) fun b=>bd (D6 b (ret Val.u) (R .typeName)) fun _=>bd (De [58]) fun _=>bd (R .assign) fun _=>bd (Cl 55 s) fun _=>ret Val.u
 |.initializer=>bd (Hz [123]) fun b=>D6 b (R .braces) (R .assign)
 |.braces=>bd Fm fun s=>bd (De [123]) fun _=>bd (R .item) fun _=>bd (R .bracesL) fun _=>bd (De [125]) fun _=>bd (Cl 19 s) fun _=>ret Val.u
 |.bracesL=>bd (E6 [44]) fun b=>D6 b (bd (Hz [125]) fun c=>D6 c (ret Val.u) (bd (R .item) fun _=>R .bracesL)) (ret Val.u)
 |.item=>bd Fm fun s=>bd (R .desig) fun d=>bd (D6 (Jt d) (bd (R .itemL) fun _=>bd (De [61]) fun _=>ret ()) (ret ())) fun _=>bd (R .initializer) fun _=>bd (Cl 20 s) fun _=>ret Val.u
 |.itemL=>bd (R .desig) fun d=>D6 (Jt d) (R .itemL) (ret Val.u)
 |.desig=>bd Fm fun s=>bd (E6 [91]) fun a=>D6 a (bd (R .choice) fun _=>bd (De [93]) fun _=>bd (Cl 21 s) fun _=>ret (Val.b true))
   (bd (E6 [46]) fun b=>D6 b (bd name fun _=>bd (Cl 21 s) fun _=>ret (Val.b true)) (ret (Val.b false)))
 |.declarator kind=>bd Fm fun s=>bd (R (.starsL false)) fun v=>bd (if kind=2 then ret false else bd L9 fun t=>if t.c=2 then ret true else ret false) fun nm=>
   bd (D6 nm (bd name fun n=>ret ((⟨true,n,0,[]⟩:Frm),true))
       (bd (bd (Hz [40]) fun b=>D6 b (if kind=0 then ret true else bd Eh fun c=>ret (!c)) (ret false)) fun par=>
         D6 par (bd (He 1) fun _=>bd (R (.declarator kind)) fun w=>bd (De [41]) fun _=>ret (Lx w,true))
          (if kind=0 then Ku else ret (f0,false)))) fun fc=>
   bd (R (.suffixes fc.1 false)) fun w=>
   D6 (!fc.2&&!Jt v&&!Jt w) Ku
    (D6 (Jt v) (if(Lx w).near=0 then bd (Cl 14 s) fun _=>ret (Val.f {Lx w with near:=1})else bd (Cl 14 s) fun _=>ret (Val.f (Lx w)))
      (bd (Cl 14 s) fun _=>ret (Val.f (Lx w))))
 |.starsL b=>bd (E6 [42]) fun c=>D6 c (bd (R .qualifiers) fun _=>R (.starsL true)) (ret (Val.b b))
 |.qualifiers=>bd V4 fun a=>bd (R .qualL) fun _=>bd V4 fun b=>ret (Val.b (decide (a<b)))
 |.qualL=>bd L9 fun t=>if t.c=1 then
   if Hy t.t=3 then bd (He 1) fun _=>R .qualL
   else if Hy t.t=4 then bd (Jo [40]) fun b=>D6 b (ret Val.u) (bd (He 1) fun _=>R .qualL)
   else ret Val.u
   else ret Val.u
 |.suffixes f any=>bd (Hz [91]) fun a=>D6 a (bd (R .array) fun _=>if f.near=0 then R (.suffixes {f with near:=2} true)else R (.suffixes f true))
   (bd (Hz [40]) fun b=>D6 b (bd (R .params) fun d=>if f.near=0 then R (.suffixes {f with near:=3,ps:=asD d} true)else R (.suffixes f true)) (ret (Val.fb f any)))
 |.array=>bd Fm fun s=>bd (De [91]) fun _=>bd (Km [115,116,97,116,105,99]) fun a=>
   bd (D6 a (bd (R .qualifiers) fun _=>R .assign)
    (bd (R .qualifiers) fun q=>bd (D6 (Jt q) (Km [115,116,97,116,105,99]) (ret false)) fun b=>D6 b (R .assign)
      (bd (Hz [93]) fun c=>D6 c (ret Val.u) (bd (bd (Hz [42]) fun d=>D6 d (Jo [93]) (ret false)) fun e=>D6 e (bd (He 1) fun _=>ret Val.u) (R .assign))))) fun _=>
   bd (De [93]) fun _=>bd (Cl 15 s) fun _=>ret Val.u
 |.params=>bd Fm fun s=>bd (De [40]) fun _=>bd Hq fun _=>bd (E6 [41]) fun b=>
   bd (D6 b (ret Val.u) (bd (R .param) fun _=>bd (R .paramsL) fun _=>bd (De [41]) fun _=>ret Val.u)) fun _=>
   bd X5 fun d=>bd Em fun _=>bd (Cl 16 s) fun _=>ret (Val.ds d)
 |.paramsL=>bd (E6 [44]) fun b=>D6 b (bd (E6 [46,46,46]) fun c=>D6 c (ret Val.u) (bd (R .param) fun _=>R .paramsL)) (ret Val.u)
 |.param=>bd Fm fun s=>bd (R (.specs true)) fun td=>bd (Hz [44]) fun a=>bd (D6 a (ret true) (Hz [41])) fun b=>
   bd (D6 b (ret ()) (bd (R (.declarator 1)) fun w=>D6 (Lx w).named (Fu ⟨(Lx w).name,Jt td⟩) (ret ()))) fun _=>bd (Cl 17 s) fun _=>ret Val.u
 |.unit=>fun l s=>if s.at'<l.length then bd (R .external) (fun _=>R .unit) l s else .ok .u s
 |.external=>bd (Vp [95,83,116,97,116,105,99,95,97,115,115,101,114,116]) fun a=>D6 a (R .assert) (bd Fm fun s=>bd (R (.specs true)) fun td=>bd (Hz [59]) fun b=>
   D6 b (bd (De [59]) fun _=>bd (Cl 3 s) fun _=>ret Val.u)
    (bd Fm fun first=>bd (R (.declarator 0)) fun w=>bd (Fu ⟨(Lx w).name,Jt td⟩) fun _=>bd (Hz [123]) fun c=>
      D6 c (if(Lx w).near=3 then bd (R (.body (Lx w).ps)) fun _=>bd (Cl 2 s) fun _=>ret Val.u
         else bd (R (.restOfInit first)) fun _=>bd (R (.moreInits (Jt td))) fun _=>bd (De [59]) fun _=>bd (Cl 3 s) fun _=>ret Val.u)
       (bd (R (.restOfInit first)) fun _=>bd (R (.moreInits (Jt td))) fun _=>bd (De [59]) fun _=>bd (Cl 3 s) fun _=>ret Val.u)))
 |.body ds=>bd Hq fun _=>bd (R (.bodyL ds)) fun _=>bd (R .items) fun _=>bd Em fun _=>ret Val.u
 |.bodyL ds=>match ds with
  |[]=>ret Val.u
  |d::r=>bd (Fu d) fun _=>R (.bodyL r)
 |.declaration=>bd (Vp [95,83,116,97,116,105,99,95,97,115,115,101,114,116]) fun a=>D6 a (R .assert) (bd Fm fun s=>bd (R (.specs true)) fun td=>bd (Hz [59]) fun b=>
   bd (D6 b (ret Val.u) (bd (R (.init (Jt td))) fun _=>R (.moreInits (Jt td)))) fun _=>bd (De [59]) fun _=>bd (Cl 3 s) fun _=>ret Val.u)
 |.moreInits td=>bd (E6 [44]) fun b=>D6 b (bd (R (.init td)) fun _=>R (.moreInits td)) (ret Val.u)
 |.init td=>bd Fm fun s=>bd (R (.declarator 0)) fun w=>bd (Fu ⟨(Lx w).name,td⟩) fun _=>R (.restOfInit s)
 |.restOfInit s=>bd (E6 [61]) fun b=>bd (D6 b (R .initializer) (ret Val.u)) fun _=>bd (Cl 13 s) fun _=>ret Val.u
 |.assert=>bd Fm fun s=>bd (He 1) fun _=>bd (De [40]) fun _=>bd (R .choice) fun _=>bd (De [44]) fun _=>bd (R .strings) fun _=>bd (De [41]) fun _=>bd (De [59]) fun _=>bd (Cl 4 s) fun _=>ret Val.u
 |.items=>bd Fm fun s=>bd (De [123]) fun _=>bd (R .itemsL) fun _=>bd (Cl 22 s) fun _=>ret Val.u
 |.itemsL=>bd (E6 [125]) fun b=>D6 b (ret Val.u) (bd Fg fun a=>bd (D6 a (ret false) F7) fun c=>bd (D6 c (R .declaration) (R .statement)) fun _=>R .itemsL)
 |.part=>bd Hq fun _=>bd (R .statement) fun _=>bd Em fun _=>ret Val.u
 |.condition=>bd (De [40]) fun _=>bd (R .expr) fun _=>bd (De [41]) fun _=>ret Val.u
 |.until' x=>bd (Hz x) fun b=>bd (D6 b (ret Val.u) (R .expr)) fun _=>bd (De x) fun _=>ret Val.u
 |.statement=>bd Fm fun s=>bd L9 fun t=>bd Fg fun a=>D6 a (bd (He 2) fun _=>bd (R .statement) fun _=>bd (Cl 23 s) fun _=>ret Val.u)
   (bd (Hz [123]) fun b=>D6 b (bd Hq fun _=>bd (R .items) fun _=>bd Em fun _=>ret Val.u)
     (bd (if t.c=1 then R (.keyword t.t s)else ret (Val.b false)) fun k=>D6 (Jt k) (ret Val.u) (bd (R (.until' [59])) fun _=>bd (Cl 26 s) fun _=>ret Val.u)))
 |.keyword x s=>
   if x=[99,97,115,101]then bd (He 1) fun _=>bd (R .choice) fun _=>bd (De [58]) fun _=>bd (R .statement) fun _=>bd (Cl 24 s) fun _=>ret (Val.b true)
   else if x=[100,101,102,97,117,108,116]then bd (He 1) fun _=>bd (De [58]) fun _=>bd (R .statement) fun _=>bd (Cl 25 s) fun _=>ret (Val.b true)
   else if x=[103,111,116,111]then bd (He 1) fun _=>bd name fun _=>bd (De [59]) fun _=>bd (Cl 32 s) fun _=>ret (Val.b true)
   else if x=[99,111,110,116,105,110,117,101]then bd (He 1) fun _=>bd (De [59]) fun _=>bd (Cl 32 s) fun _=>ret (Val.b true)
   else if x=[98,114,101,97,107]then bd (He 1) fun _=>bd (De [59]) fun _=>bd (Cl 32 s) fun _=>ret (Val.b true)
   else if x=[114,101,116,117,114,110]then bd (He 1) fun _=>bd (R (.until' [59])) fun _=>bd (Cl 32 s) fun _=>ret (Val.b true)
   else if x=[105,102]then bd (He 1) fun _=>bd Hq fun _=>bd (R (.compound x s)) fun _=>bd Em fun _=>ret (Val.b true)
   else if x=[115,119,105,116,99,104]then bd (He 1) fun _=>bd Hq fun _=>bd (R (.compound x s)) fun _=>bd Em fun _=>ret (Val.b true)
   else if x=[119,104,105,108,101]then bd (He 1) fun _=>bd Hq fun _=>bd (R (.compound x s)) fun _=>bd Em fun _=>ret (Val.b true)
   else if x=[100,111]then bd (He 1) fun _=>bd Hq fun _=>bd (R (.compound x s)) fun _=>bd Em fun _=>ret (Val.b true)
   else if x=[102,111,114]then bd (He 1) fun _=>bd Hq fun _=>bd (R (.compound x s)) fun _=>bd Em fun _=>ret (Val.b true)
   else ret (Val.b false)
 |.compound x s=>
   if x=[105,102]then bd (R .condition) fun _=>bd (R .part) fun _=>bd (Km [101,108,115,101]) fun b=>bd (D6 b (R .part) (ret Val.u)) fun _=>bd (Cl 27 s) fun _=>ret Val.u
   else if x=[115,119,105,116,99,104]then bd (R .condition) fun _=>bd (R .part) fun _=>bd (Cl 28 s) fun _=>ret Val.u
   else if x=[119,104,105,108,101]then bd (R .condition) fun _=>bd (R .part) fun _=>bd (Cl 29 s) fun _=>ret Val.u
   else if x=[100,111]then bd (R .part) fun _=>bd (Km [119,104,105,108,101]) fun b=>D6 b (bd (R .condition) fun _=>bd (De [59]) fun _=>bd (Cl 30 s) fun _=>ret Val.u) Ku
   else if x=[102,111,114]then bd (De [40]) fun _=>bd F7 fun b=>bd (D6 b (R .declaration) (R (.until' [59]))) fun _=>bd (R (.until' [59])) fun _=>bd (R (.until' [41])) fun _=>bd (R .part) fun _=>bd (Cl 31 s) fun _=>ret Val.u
   else ret Val.u
 |.specs all=>bd Fm fun s=>bd (R (.specsL all false 0 0)) fun v=>D6 (Wo (spW v) (spO v)) Ku (bd (Cl 5 s) fun _=>ret (Val.b (spT v)))
 |.specsL all td words others=>bd L9 fun t=>
   if t.c=2 then if words+others > 0 then ret (Val.sp td words others)else bd (isTy t.t) fun b=>D6 b (bd (He 1) fun _=>R (.specsL all td words (others+1))) (ret (Val.sp td words others))
   else if t.c=1 then
    if Hy t.t=1∧all=true then bd (He 1) fun _=>if t.t=[116,121,112,101,100,101,102]then R (.specsL all true words others)else R (.specsL all td words others)
    else if Hy t.t=2∧all=true then bd (R .align) fun _=>R (.specsL all td words others)
    else if Hy t.t=3 then bd (He 1) fun _=>R (.specsL all td words others)
    else if Hy t.t=4 then bd (Jo [40]) fun b=>D6 b (bd (R .atomic) fun _=>R (.specsL all td words (others+1))) (bd (He 1) fun _=>R (.specsL all td words others))
    else if Hy t.t=5 then bd (He 1) fun _=>R (.specsL all td (words+1) others)
    else if Hy t.t=6 then bd (R .record) fun _=>R (.specsL all td words (others+1))
    else if Hy t.t=7 then bd (R .enum) fun _=>R (.specsL all td words (others+1))
    else ret (Val.sp td words others)
   else ret (Val.sp td words others)
 |.align=>bd Fm fun s=>bd (He 1) fun _=>bd (De [40]) fun _=>bd (Iz) fun b=>bd (D6 b (R .typeName) (R .choice)) fun _=>bd (De [41]) fun _=>bd (Cl 11 s) fun _=>ret Val.u
 |.atomic=>bd Fm fun s=>bd (He 1) fun _=>bd (R .typeInBr) fun _=>bd (Cl 12 s) fun _=>ret Val.u
 |.record=>bd Fm fun s=>bd (He 1) fun _=>bd L9 fun t=>bd (if t.c=2 then He 1 else ret ()) fun _=>bd (E6 [123]) fun b=>
   bd (D6 b (bd (R .member) fun _=>R .recordL) (if t.c=2 then ret Val.u else Ku)) fun _=>bd (Cl 6 s) fun _=>ret Val.u
 |.recordL=>bd (E6 [125]) fun b=>D6 b (ret Val.u) (bd (R .member) fun _=>R .recordL)
 |.member=>bd (Vp [95,83,116,97,116,105,99,95,97,115,115,101,114,116]) fun a=>D6 a (R .assert) (bd Fm fun s=>bd (R (.specs false)) fun _=>bd (Hz [59]) fun b=>
   bd (D6 b (ret Val.u) (bd (R .field) fun _=>R .memberL)) fun _=>bd (De [59]) fun _=>bd (Cl 7 s) fun _=>ret Val.u)
 |.memberL=>bd (E6 [44]) fun b=>D6 b (bd (R .field) fun _=>R .memberL) (ret Val.u)
 |.field=>bd Fm fun s=>bd (Hz [58]) fun a=>bd (D6 a (ret Val.u) (R (.declarator 0))) fun _=>bd (E6 [58]) fun b=>bd (D6 b (R .choice) (ret Val.u)) fun _=>bd (Cl 8 s) fun _=>ret Val.u
 |.enum=>bd Fm fun s=>bd (He 1) fun _=>bd L9 fun t=>bd (if t.c=2 then He 1 else ret ()) fun _=>bd (E6 [123]) fun b=>
   bd (D6 b (bd (R .enumerator) fun _=>bd (R .enumL) fun _=>bd (De [125]) fun _=>ret Val.u) (if t.c=2 then ret Val.u else Ku)) fun _=>bd (Cl 9 s) fun _=>ret Val.u
 |.enumL=>bd (E6 [44]) fun b=>D6 b (bd (Hz [125]) fun c=>D6 c (ret Val.u) (bd (R .enumerator) fun _=>R .enumL)) (ret Val.u)
 |.enumerator=>bd Fm fun s=>bd name fun n=>bd (E6 [61]) fun b=>bd (D6 b (R .choice) (ret Val.u)) fun _=>bd (Cl 10 s) fun _=>bd (Fu ⟨n,false⟩) fun _=>ret Val.u
 |.typeName=>bd Fm fun s=>bd (R (.specs false)) fun _=>bd (Hz [42]) fun a=>bd (D6 a (ret true) (bd (Hz [40]) fun b=>D6 b (ret true) (Hz [91]))) fun c=>
   bd (D6 c (R (.declarator 2)) (ret Val.u)) fun _=>bd (Cl 18 s) fun _=>ret Val.u
def run:Nat→NT→M Val
 |0=>fun _ _ _=>.out
 |n+1=>Ah (run n)
def ov (b:List Nat→Bool) (dl:List Dc):List Nat→Bool:=dl.foldl (fun f d x=>if x=d.n then d.ty else f x) b
def tic (b:List Nat→Bool):(List Nat→Bool)→List Dc→List ((List Nat→Bool)×List Dc)→Prop
 |ty,dl,[]=>ty=ov b dl∧∀d∈dl,d.n≠[]
 |ty,dl,(t,e)::r=>ty=ov t dl∧(∀d∈dl,d.n≠[])∧tic b t e r
def ti (b:List Nat→Bool) (s:PS):Prop:=tic b s.ty s.dl s.st
theorem tic_dec {b:List Nat→Bool} {ty:List Nat→Bool} {dl:List Dc} {st:List ((List Nat→Bool)×List Dc)} {d:Dc} (h:tic b ty dl st) (hd:d.n≠[]):tic b (fun x=>if x=d.n then d.ty else ty x) (dl++[d]) st:=by
 have e:∀t,ty=ov t dl→(fun x=>if x=d.n then d.ty else ty x)=ov t (dl++[d]):=fun t ht=>by
  subst ht;unfold ov;rw[List.foldl_append];rfl
 have m:(∀c∈dl,c.n≠[])→∀c∈dl++[d],c.n≠[]:=fun hm c hc=>by
  rcases D9.1 hc with hc|hc
  · exact hm c hc
  · rw[Co.1 hc];exact hd
 cases st with
 |nil=>exact⟨e _ h.1,m h.2⟩
 |cons x r=>exact⟨e _ h.1,m h.2.1,h.2.2⟩
def dr (P1 P2:List Dc):List Dc→List ((List Nat→Bool)×List Dc)→List Dc→List ((List Nat→Bool)×List Dc)→Prop
 |d1,[],d2,s2=>s2=[]∧∃Q,d1=P1++Q∧d2=P2++Q
 |d1,(t,e1)::r1,d2,s2=>d1=d2∧∃e2 r2,s2=(t,e2)::r2∧dr P1 P2 e1 r1 e2 r2
structure Lp where
 l1:List Tk
 l2:List Tk
 k1:Nat
 k2:Nat
 e:Nat
 P1:List Dc
 P2:List Dc
 g:∀i j,i+k2=j+k1→i<e→l1.getD i z0=l2.getD j z0
 c:∀i,i+1=e→clo (l1.getD i z0)=true
def SR (p:Lp) (s1 s2:PS):Prop:=s1.at'+p.k2=s2.at'+p.k1∧s1.ty=s2.ty∧dr p.P1 p.P2 s1.dl s1.st s2.dl s2.st
def RO {α:Type} (p:Lp) (V:α→α→Prop) (o:Out α) (a:α) (s:PS):Prop:=o=.out∨∃a2 s2,o=.ok a2 s2∧V a a2∧SR p s s2
def Mo {α:Type} (m:M α):Prop:=∀b l s a s',m l s=.ok a s'→s.at'≤s'.at'∧(ti b s→ti b s')
def Mo1 {α:Type} (m:M α):Prop:=∀b l s a s',m l s=.ok a s'→s.at'+1≤s'.at'∧(ti b s→ti b s')
def Mo0 {α:Type} (m:M α):Prop:=∀b l s a s',m l s=.ok a s'→s.at'=s'.at'∧(ti b s→ti b s')
structure L1 {α:Type} (p:Lp) (V:α→α→Prop) (m1 m2:M α):Prop where
 mo:Mo m1
 fw:∀s1 s2,SR p s1 s2→∀a s',m1 p.l1 s1=.ok a s'→s'.at'<p.e→RO p V (m2 p.l2 s2) a s'
structure L2 {α:Type} (p:Lp) (V:α→α→Prop) (m1 m2:M α):Prop where
 mo:Mo1 m1
 fw:∀s1 s2,SR p s1 s2→∀a s',m1 p.l1 s1=.ok a s'→s'.at'≤p.e→RO p V (m2 p.l2 s2) a s'
structure L0 {α:Type} (p:Lp) (V:α→α→Prop) (m1 m2:M α):Prop where
 mo:Mo0 m1
 fw:∀s1 s2,SR p s1 s2→∀a s',m1 p.l1 s1=.ok a s'→RO p V (m2 p.l2 s2) a s'
theorem Ee {α β:Type} {m:M α} {f:α→M β} {l:List Tk} {s:PS} {b:β} {s':PS} (h:bd m f l s=.ok b s'):∃a t,m l s=.ok a t∧f a l t=.ok b s':=by
 unfold bd at h
 cases e:m l s with
 |ok a t=>rw[e]at h;exact⟨a,t,rfl,h⟩
 |fail=>rw[e]at h;cases h
 |out=>rw[e]at h;cases h
variable {p : Lp} {α β : Type} {m1 m2 : M α} {f1 f2 : α → M β} {W : β → β → Prop} {x1 x2 y1 y2 : M β}
theorem RO.bd {V:α→α→Prop} {l:List Tk} {s:PS} {a:α} {t:PS} {b:β} {s':PS} (h:RO p V (m2 l s) a t) (hf:∀a2 t2,V a a2→SR p t t2→RO p W (f2 a2 l t2) b s'):RO p W (Ps.bd m2 f2 l s) b s':=by
 rcases h with o|⟨a2,t2,o,hv,hs⟩
 · left;unfold Ps.bd;rw[o]
 · have:=hf a2 t2 hv hs
   unfold Ps.bd;rw[o];exact this
theorem Qc (h:L1 p Eq m1 m2) (hf:∀a,L1 p W (f1 a) (f2 a)):L1 p W (bd m1 f1) (bd m2 f2):=by
 refine⟨fun b l s a s' hr=>?_,fun s1 s2 hs a s' hr he=>?_⟩
 · obtain⟨c,t,e1,e2⟩:=Ee hr
   obtain⟨q1,q2⟩:=h.mo b _ _ _ _ e1
   obtain⟨q3,q4⟩:=(hf c).mo b _ _ _ _ e2
   exact⟨by omega,fun i=>q4 (q2 i)⟩
 · obtain⟨c,t,e1,e2⟩:=Ee hr
   have q:=((hf c).mo (fun _=>false) _ _ _ _ e2).1
   exact RO.bd (h.fw _ _ hs _ _ e1 (by omega)) fun a2 t2 hv hs2=>by subst hv;exact(hf c).fw _ _ hs2 _ _ e2 he
theorem k_bdE (h:L1 p Eq m1 m2) (hf:∀a,L2 p W (f1 a) (f2 a)):L2 p W (bd m1 f1) (bd m2 f2):=by
 refine⟨fun b l s a s' hr=>?_,fun s1 s2 hs a s' hr he=>?_⟩
 · obtain⟨c,t,e1,e2⟩:=Ee hr
   obtain⟨q1,q2⟩:=h.mo b _ _ _ _ e1
   obtain⟨q3,q4⟩:=(hf c).mo b _ _ _ _ e2
   exact⟨by omega,fun i=>q4 (q2 i)⟩
 · obtain⟨c,t,e1,e2⟩:=Ee hr
   have q:=((hf c).mo (fun _=>false) _ _ _ _ e2).1
   exact RO.bd (h.fw _ _ hs _ _ e1 (by omega)) fun a2 t2 hv hs2=>by subst hv;exact(hf c).fw _ _ hs2 _ _ e2 he
theorem J4 (h:L2 p Eq m1 m2) (hf:∀a,L0 p W (f1 a) (f2 a)):L2 p W (bd m1 f1) (bd m2 f2):=by
 refine⟨fun b l s a s' hr=>?_,fun s1 s2 hs a s' hr he=>?_⟩
 · obtain⟨c,t,e1,e2⟩:=Ee hr
   obtain⟨q1,q2⟩:=h.mo b _ _ _ _ e1
   obtain⟨q3,q4⟩:=(hf c).mo b _ _ _ _ e2
   exact⟨by omega,fun i=>q4 (q2 i)⟩
 · obtain⟨c,t,e1,e2⟩:=Ee hr
   have q:=((hf c).mo (fun _=>false) _ _ _ _ e2).1
   exact RO.bd (h.fw _ _ hs _ _ e1 (by omega)) fun a2 t2 hv hs2=>by subst hv;exact(hf c).fw _ _ hs2 _ _ e2
theorem Hm (h:L0 p Eq m1 m2) (hf:∀a,L0 p W (f1 a) (f2 a)):L0 p W (bd m1 f1) (bd m2 f2):=by
 refine⟨fun b l s a s' hr=>?_,fun s1 s2 hs a s' hr=>?_⟩
 · obtain⟨c,t,e1,e2⟩:=Ee hr
   obtain⟨q1,q2⟩:=h.mo b _ _ _ _ e1
   obtain⟨q3,q4⟩:=(hf c).mo b _ _ _ _ e2
   exact⟨by omega,fun i=>q4 (q2 i)⟩
 · obtain⟨c,t,e1,e2⟩:=Ee hr
   exact RO.bd (h.fw _ _ hs _ _ e1) fun a2 t2 hv hs2=>by subst hv;exact(hf c).fw _ _ hs2 _ _ e2
theorem L1.of2 {V:α→α→Prop} (h:L2 p V m1 m2):L1 p V m1 m2:=⟨fun b l s a s' hr=>⟨by have:=(h.mo b _ _ _ _ hr).1;omega,(h.mo b _ _ _ _ hr).2⟩,fun s1 s2 hs a s' hr he=>h.fw _ _ hs _ _ hr (by omega)⟩
theorem L1.of0 {V:α→α→Prop} (h:L0 p V m1 m2):L1 p V m1 m2:=⟨fun b l s a s' hr=>⟨by have:=(h.mo b _ _ _ _ hr).1;omega,(h.mo b _ _ _ _ hr).2⟩,fun s1 s2 hs a s' hr he=>h.fw _ _ hs _ _ hr⟩
theorem Ff {a:α}:L0 p Eq (ret a) (ret a):=⟨fun b l s c s' hr=>by cases hr;exact⟨rfl,id⟩,fun s1 s2 hs c s' hr=>by cases hr;exact .inr ⟨_,_,rfl,rfl,hs⟩⟩
theorem E5 {k:Nat} {b1 b2:Stt}:L0 p Eq (Cl k b1) (Cl k b2):=by
 refine⟨fun b l s a s' hr=>?_,fun s1 s2 hs a s' hr=>?_⟩
 · unfold Cl at hr
   split at hr
   · cases hr;exact⟨rfl,id⟩
   · cases hr
 · unfold Cl at hr
   split at hr
   · cases hr
     unfold Cl
     split
     · exact .inr ⟨_,_,rfl,rfl,hs⟩
     · exact .inl rfl
   · cases hr
theorem Dw:L0 p Eq Em Em:=by
 refine⟨fun b l s a s' hr=>?_,fun s1 s2 hs a s' hr=>?_⟩
 · obtain⟨at',d,ty,dl,st⟩:=s
   cases st with
   |nil=>cases hr
   |cons x r=>cases hr;exact⟨rfl,fun h=>h.2.2⟩
 · obtain⟨a1,d1,t1,e1,st1⟩:=s1
   obtain⟨a2,d2,t2,e2,st2⟩:=s2
   cases st1 with
   |nil=>cases hr
   |cons x r=>
    cases hr
    obtain⟨h1,h2,h3,e3,r3,h4,h5⟩:=hs
    dsimp only at h4
    subst h4
    exact .inr ⟨_,_,rfl,rfl,h1,rfl,h5⟩
theorem Nc:L0 p Eq Hq Hq:=by
 refine⟨fun b l s a s' hr=>?_,fun s1 s2 hs a s' hr=>?_⟩
 · unfold Hq at hr
   split at hr
   · cases hr;exact⟨rfl,fun h=>⟨rfl,(fun d hd=>by cases hd),h⟩⟩
   · cases hr
 · unfold Hq at hr
   split at hr
   · cases hr
     unfold Hq
     split
     · obtain⟨h1,h2,h3⟩:=hs
       exact .inr ⟨_,_,rfl,rfl,h1,h2,rfl,_,_,by rw[h2],h3⟩
     · exact .inl rfl
   · cases hr
theorem dr_dec {P1 P2:List Dc} {d:Dc} {d1 d2:List Dc} {st1 st2:List ((List Nat→Bool)×List Dc)} (h:dr P1 P2 d1 st1 d2 st2):dr P1 P2 (d1++[d]) st1 (d2++[d]) st2:=by
 cases st1 with
 |nil=>
  obtain⟨h1,Q,rfl,rfl⟩:=h
  exact⟨h1,Q++[d],by rw[A4],by rw[A4]⟩
 |cons x r=>
  obtain⟨rfl,h2⟩:=h
  exact⟨rfl,h2⟩
theorem Iq {d:Dc}:L0 p Eq (Fu d) (Fu d):=by
 refine⟨fun b l s a s' hr=>?_,fun s1 s2 hs a s' hr=>?_⟩
 · unfold Fu at hr
   split at hr
   · cases hr;exact⟨rfl,id⟩
   · rename_i hn
     split at hr
     · cases hr;exact⟨rfl,fun h=>tic_dec h hn⟩
     · cases hr
 · unfold Fu at hr ⊢
   split at hr
   · rename_i hn;cases hr;rw[if_pos hn];exact .inr ⟨_,_,rfl,rfl,hs⟩
   · rename_i hn
     split at hr
     · cases hr
       rw[if_neg hn]
       split
       · obtain⟨h1,h2,h3⟩:=hs
         exact .inr ⟨_,_,rfl,rfl,h1,by rw[h2],dr_dec h3⟩
       · exact .inl rfl
     · cases hr
theorem Ms {γ:Type} {F:Tk→(List Nat→Bool)→γ}:L1 p Eq (fun l s=>.ok (F (l.getD s.at' z0) s.ty) s) (fun l s=>.ok (F (l.getD s.at' z0) s.ty) s):=
 ⟨fun b l s a s' hr=>by cases hr;exact⟨Ag _,id⟩,fun s1 s2 hs a s' hr he=>by
   cases hr
   exact .inr ⟨_,_,rfl,by rw[p.g _ _ hs.1 he,hs.2.1],hs⟩⟩
theorem Q4:L1 p Eq L9 L9:=Ms (F:=fun t _=>t)
theorem Q1 {x:List Nat}:L1 p Eq (Hz x) (Hz x):=Ms (F:=fun t _=>Gg t x)
theorem Qz {x:List Nat}:L1 p Eq (Vp x) (Vp x):=Ms (F:=fun t _=>Of t x)
theorem Gu:L1 p Eq Iy Iy:=Ms (F:=Wm)
theorem Gv:L1 p Eq Iz Iz:=Ms (F:=Aav)
theorem Jw:L1 p Eq Ny Ny:=Ms (F:=fun t _=>Hb t)
theorem Ns:L1 p Eq Xr Xr:=Ms (F:=fun t _=>Gz t)
theorem Q6 {x:List Nat}:L1 p Eq (isTy x) (isTy x):=Ms (F:=fun _ ty=>ty x)
theorem Z1 {γ:Type} {F:Tk→(List Nat→Bool)→γ}:L1 p Eq (fun l s=>match clo (l.getD s.at' z0)with|true=>.out|false=>.ok (F (l.getD (s.at'+1) z0) s.ty) s) (fun l s=>match clo (l.getD s.at' z0)with|true=>.out|false=>.ok (F (l.getD (s.at'+1) z0) s.ty) s):=by
 refine⟨fun b l s a s' hr=>?_,fun s1 s2 hs a s' hr he=>?_⟩
 · split at hr
   · cases hr
   · cases hr;exact⟨Ag _,id⟩
 · split at hr
   · cases hr
   · rename_i hc
     cases hr
     have h1:s1.at'+1<p.e:=by
      rcases Nat.lt_or_ge (s1.at'+1) p.e with h|h
      · exact h
      · have:=p.c s1.at' (by omega)
        rw[hc]at this;cases this
     rw[←p.g _ _ hs.1 he,hc]
     exact .inr ⟨_,_,rfl,by rw[p.g (s1.at'+1) (s2.at'+1) (by have:=hs.1;omega) h1,hs.2.1],hs⟩
theorem Nr {x:List Nat}:L1 p Eq (Jo x) (Jo x):=Z1 (F:=fun t _=>Gg t x)
theorem F9:L1 p Eq Ew Ew:=Z1 (F:=Wm)
theorem Ga:L1 p Eq Ej Ej:=Z1 (F:=Aav)
theorem SR.up {s1 s2:PS} (h:SR p s1 s2) (n:Nat):SR p {s1 with at':=s1.at'+n} {s2 with at':=s2.at'+n}:=⟨by have:=h.1;show s1.at'+n+p.k2=s2.at'+n+p.k1;omega,h.2.1,h.2.2⟩
theorem Xu {n:Nat}:L1 p Eq (He n) (He n):=by
 refine⟨fun b l s a s' hr=>?_,fun s1 s2 hs a s' hr he=>?_⟩
 · unfold He at hr
   split at hr
   · cases hr;exact⟨Nat.le_add_right _ _,id⟩
   · cases hr
 · unfold He at hr ⊢
   split at hr
   · cases hr
     split
     · exact .inr ⟨_,_,rfl,rfl,hs.up n⟩
     · exact .inl rfl
   · cases hr
theorem l_took_ {F:Tk→Bool}:L1 p Eq (fun l s=>match F (l.getD s.at' z0)with|true=>.ok true {s with at':=s.at'+1}|false=>.ok false s) (fun l s=>match F (l.getD s.at' z0)with|true=>.ok true {s with at':=s.at'+1}|false=>.ok false s):=by
 refine⟨fun b l s a s' hr=>?_,fun s1 s2 hs a s' hr he=>?_⟩
 · split at hr
   · cases hr;exact⟨Nat.le_succ _,id⟩
   · cases hr;exact⟨Ag _,id⟩
 · split at hr
   · rename_i hF
     cases hr
     rw[←p.g _ _ hs.1 (by dsimp only at he;omega),hF]
     exact .inr ⟨_,_,rfl,rfl,hs.up 1⟩
   · rename_i hF
     cases hr
     rw[←p.g _ _ hs.1 he,hF]
     exact .inr ⟨_,_,rfl,rfl,hs⟩
theorem Q0 {x:List Nat}:L1 p Eq (E6 x) (E6 x):=l_took_ (F:=fun t=>Gg t x)
theorem Nq {x:List Nat}:L1 p Eq (Km x) (Km x):=l_took_ (F:=fun t=>Of t x)
theorem G4 {x:List Nat}:L2 p Eq (De x) (De x):=by
 refine⟨fun b l s a s' hr=>?_,fun s1 s2 hs a s' hr he=>?_⟩
 · unfold De at hr
   split at hr
   · cases hr;exact⟨Ag _,id⟩
   · cases hr
 · unfold De at hr ⊢
   split at hr
   · rename_i hF
     cases hr
     rw[←p.g _ _ hs.1 (by dsimp only at he;omega),hF]
     exact .inr ⟨_,_,rfl,rfl,hs.up 1⟩
   · cases hr
theorem Q5:L1 p Eq name name:=by
 refine⟨fun b l s a s' hr=>?_,fun s1 s2 hs a s' hr he=>?_⟩
 · unfold name at hr
   split at hr
   · cases hr;exact⟨Nat.le_succ _,id⟩
   · cases hr
 · unfold name at hr ⊢
   split at hr
   · rename_i hF
     cases hr
     rw[←p.g _ _ hs.1 (by dsimp only at he;omega),if_pos hF]
     exact .inr ⟨_,_,rfl,rfl,hs.up 1⟩
   · cases hr
theorem Q8:L1 p Eq (Ku:M α) Ku:=⟨fun b l s a s' hr=>(by cases hr),fun s1 s2 hs a s' hr he=>(by cases hr)⟩
theorem Q7 {f1 f2:Stt→M β} (hf:∀a b,L1 p W (f1 a) (f2 b)):L1 p W (bd Fm f1) (bd Fm f2):=
 ⟨fun b l s a s' hr=>(hf _ ⟨0,0⟩).mo b l s a s' hr,fun s1 s2 hs a s' hr he=>(hf _ _).fw s1 s2 hs a s' hr he⟩
theorem Un {f1 f2:Stt→M β} (hf:∀a b,L2 p W (f1 a) (f2 b)):L2 p W (bd Fm f1) (bd Fm f2):=
 ⟨fun b l s a s' hr=>(hf _ ⟨0,0⟩).mo b l s a s' hr,fun s1 s2 hs a s' hr he=>(hf _ _).fw s1 s2 hs a s' hr he⟩
theorem Xt {b:Bool} (hx:b=true→L1 p W x1 x2) (hy:b=false→L1 p W y1 y2):L1 p W (D6 b x1 y1) (D6 b x2 y2):=by
 cases b
 · exact hy rfl
 · exact hx rfl
theorem k_ifM {b:Bool} (hx:b=true→L2 p W x1 x2) (hy:b=false→L2 p W y1 y2):L2 p W (D6 b x1 y1) (D6 b x2 y2):=by
 cases b
 · exact hy rfl
 · exact hx rfl
theorem Xs {c:Prop} [Decidable c] (hx:c→L1 p W x1 x2) (hy:¬c→L1 p W y1 y2):L1 p W (if c then x1 else y1) (if c then x2 else y2):=by
 by_cases h:c
 · rw[if_pos h,if_pos h];exact hx h
 · rw[if_neg h,if_neg h];exact hy h
theorem k_ite {c:Prop} [Decidable c] (hx:c→L2 p W x1 x2) (hy:¬c→L2 p W y1 y2):L2 p W (if c then x1 else y1) (if c then x2 else y2):=by
 by_cases h:c
 · rw[if_pos h,if_pos h];exact hx h
 · rw[if_neg h,if_neg h];exact hy h
theorem Um {x:List Nat} (hx:L0 p W x1 x2) (hy:L2 p W y1 y2):L2 p W (bd (E6 x) fun b=>D6 b x1 y1) (bd (E6 x) fun b=>D6 b x2 y2):=by
 refine⟨fun b l s a s' hr=>?_,fun s1 s2 hs a s' hr he=>?_⟩
 · obtain⟨c,t,e1,e2⟩:=Ee hr
   unfold E6 at e1
   split at e1
   · cases e1
     obtain⟨q1,q2⟩:=hx.mo b _ _ _ _ e2
     exact⟨by dsimp only at q1;omega,q2⟩
   · cases e1;exact hy.mo b _ _ _ _ e2
 · obtain⟨c,t,e1,e2⟩:=Ee hr
   have e3:=e1
   unfold E6 at e1
   split at e1
   · rename_i hF
     cases e1
     have q1:=(hx.mo (fun _=>false) _ _ _ _ e2).1
     dsimp only at q1
     have e4:E6 x p.l2 s2=.ok true {s2 with at':=s2.at'+1}:=by
      unfold E6;rw[←p.g _ _ hs.1 (by omega),hF]
     unfold bd;rw[e4]
     exact hx.fw _ _ (hs.up 1) _ _ e2
   · rename_i hF
     cases e1
     have q1:=(hy.mo (fun _=>false) _ _ _ _ e2).1
     have e4:E6 x p.l2 s2=.ok false s2:=by
      unfold E6;rw[←p.g _ _ hs.1 (by omega),hF]
     unfold bd;rw[e4]
     exact hy.fw _ _ hs _ _ e2 he
theorem Iu {f1 f2:List Dc→M β} (hf:∀a,L1 p W (f1 a) (f2 a)):L1 p W (bd X5 fun d=>bd Em fun _=>f1 d) (bd X5 fun d=>bd Em fun _=>f2 d):=by
 refine⟨fun b l s a s' hr=>?_,fun s1 s2 hs a s' hr he=>?_⟩
 · obtain⟨c,t,e1,e2⟩:=Ee hr
   cases e1
   exact(Qc (p:=p) (f1:=fun _=>f1 _) (f2:=fun _=>f2 _) (L1.of0 Dw) fun _=>hf _).mo b _ _ _ _ e2
 · obtain⟨c,t,e1,e2⟩:=Ee hr
   cases e1
   have e:s1.dl=s2.dl:=by
    obtain⟨a1,d1,t1,e1,st1⟩:=s1
    cases st1 with
    |nil=>cases e2
    |cons x r=>exact hs.2.2.1
   show RO p W (bd Em (fun _=>f2 s2.dl) p.l2 s2) a s'
   rw[←e]
   exact(Qc (p:=p) (f1:=fun _=>f1 _) (f2:=fun _=>f2 _) (L1.of0 Dw) fun _=>hf _).fw _ _ hs _ _ e2 he
theorem Q3 {γ δ:Type} {m1 m2:M γ} {F:Bool→δ} (h:L1 p Eq m1 m2):L1 p Eq (bd V4 fun a=>bd m1 fun _=>bd V4 fun b=>ret (F (decide (a<b)))) (bd V4 fun a=>bd m2 fun _=>bd V4 fun b=>ret (F (decide (a<b)))):=by
 refine⟨fun b l s a s' hr=>?_,fun s1 s2 hs a s' hr he=>?_⟩
 · obtain⟨c,t,e1,e2⟩:=Ee hr
   cases e1
   obtain⟨c,t,e3,e4⟩:=Ee e2
   cases e4
   exact h.mo b _ _ _ _ e3
 · obtain⟨c,t,e1,e2⟩:=Ee hr
   cases e1
   obtain⟨c,t,e3,e4⟩:=Ee e2
   cases e4
   show RO p Eq (bd m2 (fun _=>bd V4 fun b=>ret (F (decide (s2.at'<b)))) p.l2 s2) _ _
   refine RO.bd (h.fw _ _ hs _ _ e3 he) fun a2 t2 hv hs2=>.inr ⟨_,_,rfl,?_,hs2⟩
   have h1:=hs.1
   have h2:=hs2.1
   by_cases hc:s1.at'<s'.at'
   · rw[decide_eq_true hc,decide_eq_true (by omega:s2.at'<t2.at')]
   · rw[decide_eq_false hc,decide_eq_false (by omega:¬s2.at'<t2.at')]
end Go.Ps
namespace Go.Ps
def wi:Option Stt→NT→NT
 |some b,.exprL _=>.exprL b
 |some b,.binaryL k _ u=>.binaryL k b u
 |some b,.literal _=>.literal b
 |some b,.applied _=>.applied b
 |some b,.restOfInit _=>.restOfInit b
 |some b,.keyword x _=>.keyword x b
 |some b,.compound x _=>.compound x b
 |_,nt=>nt
def isU:NT→Bool
 |.unit=>true
 |_=>false
def isT:NT→Bool
 |.external | .assert | .body _ | .items | .itemsL=>true
 |_=>false
end Go.Ps
