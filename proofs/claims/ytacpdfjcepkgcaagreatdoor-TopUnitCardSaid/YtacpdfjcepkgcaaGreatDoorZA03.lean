/- Part 3 of the lemmas behind the claim. -/
import Derived.Test.YtacpdfjcepkgcaaGreatDoorZA01
import Derived.Test.YtacpdfjcepkgcaaGreatDoorZA02
set_option linter.unusedSimpArgs false
set_option linter.unusedVariables false
set_option linter.constructorNameAsVariable false
set_option linter.unusedSectionVars false
set_option linter.defProp false
set_option maxRecDepth 100000
set_option maxHeartbeats 40000000
namespace Go.Ps
attribute [local irreducible] L9 Hz Vp He Jo E6 Km De name V4 Fm Cl isTy Hq Em Fu X5 Iy Iz Ej Ew Eu Eh Ny Xr Fg F7 ret Ku bd D6
def H1 (p:Lp) (m:Nat):Prop:=∀nt o,isU nt=false→L1 p Eq (run m nt) (run m (wi o nt))
def H2 (p:Lp) (m:Nat):Prop:=∀nt,isT nt=true→L2 p Eq (run m nt) (run m nt)
theorem dvL {p:Prop} (h:p:=by
 repeat' first
  |exact h1 _ none rfl
  |exact h1 _ (some _) rfl
  |refine Q7 fun a b=>?_
  |refine Iu fun d=>?_
  |exact Q3 (h1 _ none rfl)
  |refine Qc ?_ (fun a=>?_)
  |refine Xt (fun hb=>?_) (fun hb=>?_)
  |refine Xs (fun hb=>?_) (fun hb=>?_)
  |exact L1.of0 Ff
  |exact Q4|exact Q1|exact Q0|exact L1.of2 G4|exact L1.of0 E5|exact Xu|exact Qz|exact Nq|exact Q5|exact Nr
  |exact Gu|exact Gv|exact Ga|exact F9|exact Ns|exact Jw|exact Q6|exact L1.of0 Nc|exact L1.of0 Dw|exact L1.of0 Iq|exact Q8
  |(first|unfold Eu|unfold Eh|unfold Fg|unfold F7)):p:=h
def Hu (nt:NT):Prop:=∀ {p:Lp} {m:Nat} (_:H1 p m) (_:H2 p m) {ob:Option Stt},L1 p Eq (Ah (run m) nt) (Ah (run m) (wi ob nt))
theorem Cj {p:Prop} (h:p:=by
 rename_i p m;intro h1 h2 ob
 cases ob
 all_goals
  dsimp only[Ah,wi]
  exact dvL):p:=h
theorem lo_expr:Hu (.expr):=Cj
theorem lo_exprL {b}:Hu (.exprL b):=Cj
theorem lo_assign:Hu (.assign):=Cj
theorem lo_choice:Hu (.choice):=Cj
theorem lo_binary {k}:Hu (.binary k):=Cj
theorem lo_binaryL {k b u}:Hu (.binaryL k b u):=Cj
theorem lo_cast:Hu (.cast):=Cj
theorem lo_typeInBr:Hu (.typeInBr):=Cj
theorem lo_literal {b}:Hu (.literal b):=Cj
theorem lo_unary:Hu (.unary):=Cj
theorem lo_size {v}:Hu (.size v):=Cj
theorem lo_postf:Hu (.postf):=Cj
theorem lo_applied {b}:Hu (.applied b):=Cj
theorem lo_call:Hu (.call):=Cj
theorem lo_callL:Hu (.callL):=Cj
theorem lo_primary:Hu (.primary):=Cj
theorem lo_strings:Hu (.strings):=Cj
theorem lo_stringsL:Hu (.stringsL):=Cj
theorem lo_generic:Hu (.generic):=Cj
theorem lo_genericL:Hu (.genericL):=Cj
theorem lo_assoc:Hu (.assoc):=Cj
theorem Uh:Hu (.initializer):=Cj
theorem lo_braces:Hu (.braces):=Cj
theorem lo_bracesL:Hu (.bracesL):=Cj
theorem lo_item:Hu (.item):=Cj
theorem lo_itemL:Hu (.itemL):=Cj
theorem lo_desig:Hu (.desig):=Cj
theorem Wd {k}:Hu (.declarator k):=Cj
theorem lo_starsL {b}:Hu (.starsL b):=Cj
theorem Wb:Hu (.qualifiers):=Cj
theorem lo_qualL:Hu (.qualL):=Cj
theorem lo_suffixes {f any}:Hu (.suffixes f any):=Cj
theorem lo_array:Hu (.array):=Cj
theorem lo_params:Hu (.params):=Cj
theorem lo_paramsL:Hu (.paramsL):=Cj
theorem lo_param:Hu (.param):=Cj
theorem Ui:Hu (.declaration):=Cj
theorem Zx {td}:Hu (.moreInits td):=Cj
theorem lo_init {td}:Hu (.init td):=Cj
theorem Wa {b}:Hu (.restOfInit b):=Cj
theorem lo_part:Hu (.part):=Cj
theorem Zy:Hu (.condition):=Cj
theorem lo_until' {x}:Hu (.until' x):=Cj
theorem Zw:Hu (.statement):=Cj
theorem lo_keyword {x b}:Hu (.keyword x b):=Cj
theorem lo_compound {x b}:Hu (.compound x b):=Cj
theorem lo_specs {all}:Hu (.specs all):=Cj
theorem lo_specsL {all td w o}:Hu (.specsL all td w o):=Cj
theorem lo_align:Hu (.align):=Cj
theorem lo_atomic:Hu (.atomic):=Cj
theorem lo_record:Hu (.record):=Cj
theorem lo_recordL:Hu (.recordL):=Cj
theorem lo_member:Hu (.member):=Cj
theorem lo_memberL:Hu (.memberL):=Cj
theorem lo_field:Hu (.field):=Cj
theorem lo_enum:Hu (.enum):=Cj
theorem lo_enumL:Hu (.enumL):=Cj
theorem Wc:Hu (.enumerator):=Cj
theorem lo_typeName:Hu (.typeName):=Cj
theorem lo_bodyL {ds:List Dc}:Hu (.bodyL ds):=by
 intro p m h1 h2 ob
 have e:wi ob (.bodyL ds)=.bodyL ds:=by cases ob<;>rfl
 rw[e]
 cases ds with
 |nil=>exact L1.of0 Ff
 |cons c r=>exact Qc (L1.of0 Iq) fun _=>h1 _ none rfl
theorem lp_external {p:Lp} {m:Nat} (h1:H1 p m) (h2:H2 p m):L2 p Eq (Ah (run m) (.external)) (Ah (run m) (.external)):=by
 dsimp only[Ah,wi]
 repeat' first
  |exact h2 _ rfl
  |exact h1 _ none rfl
  |exact h1 _ (some _) rfl
  |refine Un fun a b=>?_
  |refine Um ?_ ?_
  |refine k_ifM (fun hb=>?_) (fun hb=>?_)
  |refine k_ite (fun hb=>?_) (fun hb=>?_)
  |exact Ff|exact E5|exact Dw|exact G4
  |refine Hm ?_ (fun a=>?_)
  |(refine J4 (h2 _ rfl) (fun a=>?_);exact Hm Dw fun a=>Ff)
  |(refine J4 (h2 _ rfl) (fun a=>?_);exact Hm E5 fun a=>Ff)
  |(refine J4 G4 (fun a=>?_);exact Hm E5 fun a=>Ff)
  |refine k_bdE ?_ (fun a=>?_)
  |refine Q7 fun a b=>?_
  |refine Iu fun d=>?_
  |exact Q3 (h1 _ none rfl)
  |exact L1.of2 (h2 _ rfl)
  |refine Qc ?_ (fun a=>?_)
  |refine Xt (fun hb=>?_) (fun hb=>?_)
  |refine Xs (fun hb=>?_) (fun hb=>?_)
  |exact L1.of0 Ff
  |exact Q4|exact Q1|exact Q0|exact L1.of2 G4|exact L1.of0 E5|exact Xu|exact Qz|exact Nq|exact Q5|exact Nr
  |exact Gu|exact Gv|exact Ga|exact F9|exact Ns|exact Jw|exact Q6|exact L1.of0 Nc|exact L1.of0 Dw|exact L1.of0 Iq|exact Q8
  |(first|unfold Eu|unfold Eh|unfold Fg|unfold F7)
theorem lp_assert {p:Lp} {m:Nat} (h1:H1 p m) (h2:H2 p m):L2 p Eq (Ah (run m) (.assert)) (Ah (run m) (.assert)):=by
 dsimp only[Ah,wi]
 repeat' first
  |exact h2 _ rfl
  |exact h1 _ none rfl
  |exact h1 _ (some _) rfl
  |refine Un fun a b=>?_
  |refine Um ?_ ?_
  |refine k_ifM (fun hb=>?_) (fun hb=>?_)
  |refine k_ite (fun hb=>?_) (fun hb=>?_)
  |exact Ff|exact E5|exact Dw|exact G4
  |refine Hm ?_ (fun a=>?_)
  |(refine J4 (h2 _ rfl) (fun a=>?_);exact Hm Dw fun a=>Ff)
  |(refine J4 (h2 _ rfl) (fun a=>?_);exact Hm E5 fun a=>Ff)
  |(refine J4 G4 (fun a=>?_);exact Hm E5 fun a=>Ff)
  |refine k_bdE ?_ (fun a=>?_)
  |refine Q7 fun a b=>?_
  |refine Iu fun d=>?_
  |exact Q3 (h1 _ none rfl)
  |exact L1.of2 (h2 _ rfl)
  |refine Qc ?_ (fun a=>?_)
  |refine Xt (fun hb=>?_) (fun hb=>?_)
  |refine Xs (fun hb=>?_) (fun hb=>?_)
  |exact L1.of0 Ff
  |exact Q4|exact Q1|exact Q0|exact L1.of2 G4|exact L1.of0 E5|exact Xu|exact Qz|exact Nq|exact Q5|exact Nr
  |exact Gu|exact Gv|exact Ga|exact F9|exact Ns|exact Jw|exact Q6|exact L1.of0 Nc|exact L1.of0 Dw|exact L1.of0 Iq|exact Q8
  |(first|unfold Eu|unfold Eh|unfold Fg|unfold F7)
theorem lp_body {p:Lp} {m:Nat} (h1:H1 p m) (h2:H2 p m) {ds}:L2 p Eq (Ah (run m) (.body ds)) (Ah (run m) (.body ds)):=by
 dsimp only[Ah,wi]
 repeat' first
  |exact h2 _ rfl
  |exact h1 _ none rfl
  |exact h1 _ (some _) rfl
  |refine Un fun a b=>?_
  |refine Um ?_ ?_
  |refine k_ifM (fun hb=>?_) (fun hb=>?_)
  |refine k_ite (fun hb=>?_) (fun hb=>?_)
  |exact Ff|exact E5|exact Dw|exact G4
  |refine Hm ?_ (fun a=>?_)
  |(refine J4 (h2 _ rfl) (fun a=>?_);exact Hm Dw fun a=>Ff)
  |(refine J4 (h2 _ rfl) (fun a=>?_);exact Hm E5 fun a=>Ff)
  |(refine J4 G4 (fun a=>?_);exact Hm E5 fun a=>Ff)
  |refine k_bdE ?_ (fun a=>?_)
  |refine Q7 fun a b=>?_
  |refine Iu fun d=>?_
  |exact Q3 (h1 _ none rfl)
  |exact L1.of2 (h2 _ rfl)
  |refine Qc ?_ (fun a=>?_)
  |refine Xt (fun hb=>?_) (fun hb=>?_)
  |refine Xs (fun hb=>?_) (fun hb=>?_)
  |exact L1.of0 Ff
  |exact Q4|exact Q1|exact Q0|exact L1.of2 G4|exact L1.of0 E5|exact Xu|exact Qz|exact Nq|exact Q5|exact Nr
  |exact Gu|exact Gv|exact Ga|exact F9|exact Ns|exact Jw|exact Q6|exact L1.of0 Nc|exact L1.of0 Dw|exact L1.of0 Iq|exact Q8
  |(first|unfold Eu|unfold Eh|unfold Fg|unfold F7)
theorem lp_items {p:Lp} {m:Nat} (h1:H1 p m) (h2:H2 p m):L2 p Eq (Ah (run m) (.items)) (Ah (run m) (.items)):=by
 dsimp only[Ah,wi]
 repeat' first
  |exact h2 _ rfl
  |exact h1 _ none rfl
  |exact h1 _ (some _) rfl
  |refine Un fun a b=>?_
  |refine Um ?_ ?_
  |refine k_ifM (fun hb=>?_) (fun hb=>?_)
  |refine k_ite (fun hb=>?_) (fun hb=>?_)
  |exact Ff|exact E5|exact Dw|exact G4
  |refine Hm ?_ (fun a=>?_)
  |(refine J4 (h2 _ rfl) (fun a=>?_);exact Hm Dw fun a=>Ff)
  |(refine J4 (h2 _ rfl) (fun a=>?_);exact Hm E5 fun a=>Ff)
  |(refine J4 G4 (fun a=>?_);exact Hm E5 fun a=>Ff)
  |refine k_bdE ?_ (fun a=>?_)
  |refine Q7 fun a b=>?_
  |refine Iu fun d=>?_
  |exact Q3 (h1 _ none rfl)
  |exact L1.of2 (h2 _ rfl)
  |refine Qc ?_ (fun a=>?_)
  |refine Xt (fun hb=>?_) (fun hb=>?_)
  |refine Xs (fun hb=>?_) (fun hb=>?_)
  |exact L1.of0 Ff
  |exact Q4|exact Q1|exact Q0|exact L1.of2 G4|exact L1.of0 E5|exact Xu|exact Qz|exact Nq|exact Q5|exact Nr
  |exact Gu|exact Gv|exact Ga|exact F9|exact Ns|exact Jw|exact Q6|exact L1.of0 Nc|exact L1.of0 Dw|exact L1.of0 Iq|exact Q8
  |(first|unfold Eu|unfold Eh|unfold Fg|unfold F7)
theorem lp_itemsL {p:Lp} {m:Nat} (h1:H1 p m) (h2:H2 p m):L2 p Eq (Ah (run m) (.itemsL)) (Ah (run m) (.itemsL)):=by
 dsimp only[Ah,wi]
 repeat' first
  |exact h2 _ rfl
  |exact h1 _ none rfl
  |exact h1 _ (some _) rfl
  |refine Un fun a b=>?_
  |refine Um ?_ ?_
  |refine k_ifM (fun hb=>?_) (fun hb=>?_)
  |refine k_ite (fun hb=>?_) (fun hb=>?_)
  |exact Ff|exact E5|exact Dw|exact G4
  |refine Hm ?_ (fun a=>?_)
  |(refine J4 (h2 _ rfl) (fun a=>?_);exact Hm Dw fun a=>Ff)
  |(refine J4 (h2 _ rfl) (fun a=>?_);exact Hm E5 fun a=>Ff)
  |(refine J4 G4 (fun a=>?_);exact Hm E5 fun a=>Ff)
  |refine k_bdE ?_ (fun a=>?_)
  |refine Q7 fun a b=>?_
  |refine Iu fun d=>?_
  |exact Q3 (h1 _ none rfl)
  |exact L1.of2 (h2 _ rfl)
  |refine Qc ?_ (fun a=>?_)
  |refine Xt (fun hb=>?_) (fun hb=>?_)
  |refine Xs (fun hb=>?_) (fun hb=>?_)
  |exact L1.of0 Ff
  |exact Q4|exact Q1|exact Q0|exact L1.of2 G4|exact L1.of0 E5|exact Xu|exact Qz|exact Nq|exact Q5|exact Nr
  |exact Gu|exact Gv|exact Ga|exact F9|exact Ns|exact Jw|exact Q6|exact L1.of0 Nc|exact L1.of0 Dw|exact L1.of0 Iq|exact Q8
  |(first|unfold Eu|unfold Eh|unfold Fg|unfold F7)
theorem loc_ok {p:Lp}:∀m,H1 p m∧H2 p m:=by
 intro m
 induction m with
 |zero=>exact⟨fun nt o h=>⟨fun b l s a s' hr=>(by cases hr),fun s1 s2 hs a s' hr he=>(by cases hr)⟩,fun nt h=>⟨fun b l s a s' hr=>(by cases hr),fun s1 s2 hs a s' hr he=>(by cases hr)⟩⟩
 |succ m ih=>
  obtain⟨h1,h2⟩:=ih
  have g2:H2 p (m+1):=fun nt h=>by
   show L2 p Eq (Ah (run m) nt) (Ah (run m) nt)
   cases nt<;>first|cases h|skip
   · exact lp_external h1 h2
   · exact lp_body h1 h2
   · exact lp_assert h1 h2
   · exact lp_items h1 h2
   · exact lp_itemsL h1 h2
  have e:∀nt (o:Option Stt),isT nt=true→wi o nt=nt:=fun nt o h=>by
   cases nt<;>first|cases h|skip
   all_goals cases o<;>rfl
  refine⟨fun nt o h=>?_,g2⟩
  cases ht:isT nt with
  |true=>rw[e nt o ht];exact L1.of2 (g2 nt ht)
  |false=>
  show L1 p Eq (Ah (run m) nt) (Ah (run m) (wi o nt))
  cases nt with
  |expr=>exact lo_expr h1 h2
  |exprL b=>exact lo_exprL h1 h2
  |assign=>exact lo_assign h1 h2
  |choice=>exact lo_choice h1 h2
  |binary k=>exact lo_binary h1 h2
  |binaryL k b u=>exact lo_binaryL h1 h2
  |cast=>exact lo_cast h1 h2
  |typeInBr=>exact lo_typeInBr h1 h2
  |literal b=>exact lo_literal h1 h2
  |unary=>exact lo_unary h1 h2
  |size v=>exact lo_size h1 h2
  |postf=>exact lo_postf h1 h2
  |applied b=>exact lo_applied h1 h2
  |call=>exact lo_call h1 h2
  |callL=>exact lo_callL h1 h2
  |primary=>exact lo_primary h1 h2
  |strings=>exact lo_strings h1 h2
  |stringsL=>exact lo_stringsL h1 h2
  |generic=>exact lo_generic h1 h2
  |genericL=>exact lo_genericL h1 h2
  |assoc=>exact lo_assoc h1 h2
  |initializer=>exact Uh h1 h2
  |braces=>exact lo_braces h1 h2
  |bracesL=>exact lo_bracesL h1 h2
  |item=>exact lo_item h1 h2
  |itemL=>exact lo_itemL h1 h2
  |desig=>exact lo_desig h1 h2
  |declarator k=>exact Wd h1 h2
  |starsL b=>exact lo_starsL h1 h2
  |qualifiers=>exact Wb h1 h2
  |qualL=>exact lo_qualL h1 h2
  |suffixes f any=>exact lo_suffixes h1 h2
  |array=>exact lo_array h1 h2
  |params=>exact lo_params h1 h2
  |paramsL=>exact lo_paramsL h1 h2
  |param=>exact lo_param h1 h2
  |declaration=>exact Ui h1 h2
  |moreInits td=>exact Zx h1 h2
  |init td=>exact lo_init h1 h2
  |restOfInit b=>exact Wa h1 h2
  |part=>exact lo_part h1 h2
  |condition=>exact Zy h1 h2
  |until' x=>exact lo_until' h1 h2
  |statement=>exact Zw h1 h2
  |keyword x b=>exact lo_keyword h1 h2
  |compound x b=>exact lo_compound h1 h2
  |specs all=>exact lo_specs h1 h2
  |specsL all td w o=>exact lo_specsL h1 h2
  |align=>exact lo_align h1 h2
  |atomic=>exact lo_atomic h1 h2
  |record=>exact lo_record h1 h2
  |recordL=>exact lo_recordL h1 h2
  |member=>exact lo_member h1 h2
  |memberL=>exact lo_memberL h1 h2
  |field=>exact lo_field h1 h2
  |enum=>exact lo_enum h1 h2
  |enumL=>exact lo_enumL h1 h2
  |enumerator=>exact Wc h1 h2
  |typeName=>exact lo_typeName h1 h2
  |bodyL ds=>exact lo_bodyL h1 h2
  |external=>cases ht
  |assert=>cases ht
  |body ds=>cases ht
  |items=>cases ht
  |itemsL=>cases ht
  |unit=>cases h
end Go.Ps
namespace Go.Ps
def cloX (x:List Nat):Bool:=decide (x=[59])||decide (x=[125])
theorem Wk {l:List Tk} {a:Nat} (h:(l.getD a z0).c≠0):a<l.length:=by
 rcases Nat.lt_or_ge a l.length with h1|h1
 · exact h1
 · exfalso;apply h
   rw[A0,Jl (by omega)];rfl
theorem sgn_c {t:Tk} {x:List Nat} (h:Gg t x=true):t.c=7∧t.t=x:=by
 unfold Gg at h;simpa using h
theorem wrd_c {t:Tk} {x:List Nat} (h:Of t x=true):t.c=1∧t.t=x:=by
 unfold Of at h;simpa using h
theorem sgn_clo {t:Tk} {x:List Nat} (h:Gg t x=true) (hx:cloX x=false):clo t=false:=by
 obtain⟨h1,h2⟩:=sgn_c h
 unfold clo Gg cloX at *
 simp_all
theorem clo_c {t:Tk} (h:t.c≠7):clo t=false:=by
 unfold clo Gg;simp[h]
variable {l : List Tk} {a : Nat} {d : List Nd} {ty : List Nat → Bool} {dl : List Dc} {st : List ((List Nat → Bool) × List Dc)}
abbrev NO {α:Type} (o:Out α) (Q:α→PS→Prop):Prop:=W o Q True False
theorem Tu {α:Type} {v:α} {s:PS} {Q:α→PS→Prop} (h:Q v s):NO (ret v l s) Q:=h
theorem r_fail {α:Type} {s:PS} {Q:α→PS→Prop}:NO ((Ku:M α) l s) Q:=trivial
theorem r_bd {α β:Type} {m:M α} {f:α→M β} {s:PS} {Q:β→PS→Prop} (h:NO (m l s) (fun v s'=>NO (f v l s') Q)):NO (bd m f l s) Q:=Ac.2 h
theorem r_peek {Q:Tk→PS→Prop} (h:∀t:Tk,t=l.getD a z0→(t.c≠0→a<l.length)→Q t ⟨a,d,ty,dl,st⟩):NO (L9 l ⟨a,d,ty,dl,st⟩) Q:=h _ rfl fun h=>Wk h
theorem r_sign {x:List Nat} {Q:Bool→PS→Prop} (h1:a<l.length→(cloX x=false→clo (l.getD a z0)=false)→Gg (l.getD a z0) x=true→Q true ⟨a,d,ty,dl,st⟩) (h2:Q false ⟨a,d,ty,dl,st⟩):NO (Hz x l ⟨a,d,ty,dl,st⟩) Q:=by
 show Q (Gg (l.getD a z0) x) _
 cases h:Gg (l.getD a z0) x with
 |true=>exact h1 (Wk (by rw[(sgn_c h).1];decide)) (fun hx=>sgn_clo h hx) h
 |false=>exact h2
theorem r_word {x:List Nat} {Q:Bool→PS→Prop} (h1:a<l.length→Q true ⟨a,d,ty,dl,st⟩) (h2:Q false ⟨a,d,ty,dl,st⟩):NO (Vp x l ⟨a,d,ty,dl,st⟩) Q:=by
 show Q (Of (l.getD a z0) x) _
 cases h:Of (l.getD a z0) x with
 |true=>exact h1 (Wk (by rw[(wrd_c h).1];decide))
 |false=>exact h2
theorem r_adv {n:Nat} {Q:Unit→PS→Prop} (h1:a+n≤l.length) (h:Q () ⟨a+n,d,ty,dl,st⟩):NO (He n l ⟨a,d,ty,dl,st⟩) Q:=by
 unfold He NO;rw[if_pos h1];exact h
theorem Sp {x:List Nat} {Q:Bool→PS→Prop} (hc:clo (l.getD a z0)=false) (h1:a+1<l.length→Q true ⟨a,d,ty,dl,st⟩) (h2:Q false ⟨a,d,ty,dl,st⟩):NO (Jo x l ⟨a,d,ty,dl,st⟩) Q:=by
 unfold Jo NO
 show W (match clo (l.getD a z0)with|true=>Out.out|false=>Out.ok (Gg (l.getD (a+1) z0) x) ⟨a,d,ty,dl,st⟩) Q True False
 rw[hc]
 show Q (Gg (l.getD (a+1) z0) x) _
 cases h:Gg (l.getD (a+1) z0) x with
 |true=>exact h1 (Wk (by rw[(sgn_c h).1];decide))
 |false=>exact h2
theorem r_took {x:List Nat} {Q:Bool→PS→Prop} (h1:a<l.length→Q true ⟨a+1,d,ty,dl,st⟩) (h2:Gg (l.getD a z0) x=false→Q false ⟨a,d,ty,dl,st⟩):NO (E6 x l ⟨a,d,ty,dl,st⟩) Q:=by
 unfold E6 NO
 show W (match Gg (l.getD a z0) x with|true=>Out.ok true ⟨a+1,d,ty,dl,st⟩|false=>Out.ok false ⟨a,d,ty,dl,st⟩) Q True False
 cases h:Gg (l.getD a z0) x with
 |true=>exact h1 (Wk (by rw[(sgn_c h).1];decide))
 |false=>exact h2 h
theorem r_tookW {x:List Nat} {Q:Bool→PS→Prop} (h1:a<l.length→Q true ⟨a+1,d,ty,dl,st⟩) (h2:Q false ⟨a,d,ty,dl,st⟩):NO (Km x l ⟨a,d,ty,dl,st⟩) Q:=by
 unfold Km NO
 show W (match Of (l.getD a z0) x with|true=>Out.ok true ⟨a+1,d,ty,dl,st⟩|false=>Out.ok false ⟨a,d,ty,dl,st⟩) Q True False
 cases h:Of (l.getD a z0) x with
 |true=>exact h1 (Wk (by rw[(wrd_c h).1];decide))
 |false=>exact h2
theorem r_need {x:List Nat} {Q:Unit→PS→Prop} (h1:a<l.length→Q () ⟨a+1,d,ty,dl,st⟩):NO (De x l ⟨a,d,ty,dl,st⟩) Q:=by
 unfold De NO
 show W (match Gg (l.getD a z0) x with|true=>Out.ok () ⟨a+1,d,ty,dl,st⟩|false=>Out.fail) Q True False
 cases h:Gg (l.getD a z0) x with
 |true=>exact h1 (Wk (by rw[(sgn_c h).1];decide))
 |false=>trivial
theorem r_name {Q:List Nat→PS→Prop} (h1:a<l.length→∀x,Q x ⟨a+1,d,ty,dl,st⟩):NO (name l ⟨a,d,ty,dl,st⟩) Q:=by
 unfold name NO
 by_cases h:(l.getD a z0).c=2
 · rw[if_pos h];exact h1 (Wk (by rw[h];decide)) _
 · rw[if_neg h];trivial
theorem r_posn {Q:Nat→PS→Prop} (h:Q a ⟨a,d,ty,dl,st⟩):NO (V4 l ⟨a,d,ty,dl,st⟩) Q:=h
theorem r_here {Q:Stt→PS→Prop} (h:Q ⟨a,d.length⟩ ⟨a,d,ty,dl,st⟩):NO (Fm l ⟨a,d,ty,dl,st⟩) Q:=h
theorem r_node {k:Nat} {b:Stt} {Q:Unit→PS→Prop} (h1:d.length<10000000) (h2:b.b≤d.length) (h:∀d',d'.length=d.length+1→Q () ⟨a,d',ty,dl,st⟩):NO (Cl k b l ⟨a,d,ty,dl,st⟩) Q:=by
 unfold Cl NO
 show W (if d.length<big∧b.b≤d.length then _ else _) _ _ _
 rw[if_pos (show d.length<big∧b.b≤d.length from⟨h1,h2⟩)]
 exact h _ (by simp)
theorem r_isTy {x:List Nat} {Q:Bool→PS→Prop} (h:∀b,Q b ⟨a,d,ty,dl,st⟩):NO (isTy x l ⟨a,d,ty,dl,st⟩) Q:=h _
theorem r_getDl {Q:List Dc→PS→Prop} (h:Q dl ⟨a,d,ty,dl,st⟩):NO (X5 l ⟨a,d,ty,dl,st⟩) Q:=h
def sm (st:List ((List Nat→Bool)×List Dc)):Nat:=(st.map (·.2.length)).sum
theorem r_openB {Q:Unit→PS→Prop} (h1:st.length<10000000) (h:∀st',st'=(ty,dl)::st→st'.length=st.length+1→sm st'=dl.length+sm st→Q () ⟨a,d,ty,[],st'⟩):NO (Hq l ⟨a,d,ty,dl,st⟩) Q:=by
 unfold Hq NO
 show W (if st.length<big then _ else _) _ _ _
 rw[if_pos (show st.length<big from h1)]
 exact h _ rfl rfl (by simp[sm])
theorem r_closeB {Q:Unit→PS→Prop} {ty' dl' st'} (h0:st=(ty',dl')::st') (h:Q () ⟨a,d,ty',dl',st'⟩):NO (Em l ⟨a,d,ty,dl,st⟩) Q:=by
 subst h0;exact h
theorem Qs {c:Dc} {Q:Unit→PS→Prop} (h1:dl.length+sm st<10000000) (h:∀ty' dl',dl'.length≤dl.length+1→Q () ⟨a,d,ty',dl',st⟩):NO (Fu c l ⟨a,d,ty,dl,st⟩) Q:=by
 unfold Fu NO
 by_cases h0:c.n=[]
 · rw[if_pos h0];exact h _ _ (by omega)
 · rw[if_neg h0]
   show W (if dl.length+sm st<big then _ else _) _ _ _
   rw[if_pos (show dl.length+sm st<big from h1)]
   exact h _ _ (by simp)
theorem Zf {Q:Bool→PS→Prop} (h:∀b,Q b ⟨a,d,ty,dl,st⟩):NO (Iy l ⟨a,d,ty,dl,st⟩) Q:=h _
theorem Py {Q:Bool→PS→Prop} (h:∀b,Q b ⟨a,d,ty,dl,st⟩):NO (Iz l ⟨a,d,ty,dl,st⟩) Q:=h _
theorem Xk {Q:Bool→PS→Prop} (h1:a<l.length→Q true ⟨a,d,ty,dl,st⟩) (h2:Q false ⟨a,d,ty,dl,st⟩):NO (Ny l ⟨a,d,ty,dl,st⟩) Q:=by
 show Q (Hb (l.getD a z0)) _
 cases e:Hb (l.getD a z0)with
 |true=>exact h1 (Wk (by
   unfold Hb at e
   simp only[I2,decide_eq_true_eq]at e
   rw[e.1];decide))
 |false=>exact h2
theorem badS_pos {w o:Nat} (h:Wo w o=false):1≤w+o:=by
 unfold Wo at h
 simp at h
 omega
theorem Cc (x:Bool):Jt (.b x)=x:=rfl
theorem Rq (f:Frm) (x:Bool):Jt (.fb f x)=x:=rfl
theorem Yl:Jt .u=false:=rfl
theorem asB_f (f:Frm):Jt (.f f)=false:=rfl
theorem asF_fb (f:Frm) (x:Bool):Lx (.fb f x)=f:=rfl
theorem asF_f (f:Frm):Lx (.f f)=f:=rfl
theorem asD_ds (x:List Dc):asD (.ds x)=x:=rfl
theorem f0_ps:f0.ps=[]:=rfl
theorem levelT_le (t:Tk):Gz t≤45:=by
 unfold Gz
 repeat' split
 all_goals omega
theorem levelT_pos {t:Tk} (h:0<Gz t):t.c=7:=by
 unfold Gz at h
 split at h
 · assumption
 · omega
theorem r_level {Q:Nat→PS→Prop} (h:∀k,k≤45→(0<k→a<l.length)→Q k ⟨a,d,ty,dl,st⟩):NO (Xr l ⟨a,d,ty,dl,st⟩) Q:=h _ (levelT_le _) fun e=>Wk (by rw[levelT_pos e];decide)
theorem V3 {Q:Bool→PS→Prop} (hc:clo (l.getD a z0)=false) (h:∀b,Q b ⟨a,d,ty,dl,st⟩):NO (Ej l ⟨a,d,ty,dl,st⟩) Q:=by
 unfold Ej NO
 show W (match clo (l.getD a z0)with|true=>_|false=>_) _ _ _
 rw[hc];exact h _
theorem V2 {Q:Bool→PS→Prop} (hc:clo (l.getD a z0)=false) (h:∀b,Q b ⟨a,d,ty,dl,st⟩):NO (Ew l ⟨a,d,ty,dl,st⟩) Q:=by
 unfold Ew NO
 show W (match clo (l.getD a z0)with|true=>_|false=>_) _ _ _
 rw[hc];exact h _
theorem N9 {Q:Bool→PS→Prop} (hc:clo (l.getD a z0)=false) (h:∀b,Q b ⟨a,d,ty,dl,st⟩):NO (Eh l ⟨a,d,ty,dl,st⟩) Q:=
 r_bd (Sp hc (fun _=>Tu (l:=l) (h _)) (V2 hc fun b=>h b))
theorem Rx {Q:Bool→PS→Prop} (h1:a<l.length→Q true ⟨a,d,ty,dl,st⟩) (h2:Q false ⟨a,d,ty,dl,st⟩):NO (Eu l ⟨a,d,ty,dl,st⟩) Q:=
 r_bd (r_sign (fun hl hc _=>V3 (hc (by decide)) fun b=>by
  cases b
  · exact h2
  · exact h1 hl) (Tu (l:=l) h2))
theorem Tv {Q:Bool→PS→Prop} (h1:a+1<l.length→Q true ⟨a,d,ty,dl,st⟩) (h2:Q false ⟨a,d,ty,dl,st⟩):NO (Fg l ⟨a,d,ty,dl,st⟩) Q:=
 r_bd (r_peek fun t ht hl=>by
  by_cases h:t.c=2
  · rw[if_pos h]
    exact Sp (by rw[←ht];exact clo_c (by rw[h];decide)) h1 h2
  · rw[if_neg h];exact Tu h2)
theorem Tw {Q:Bool→PS→Prop} (h:∀b,Q b ⟨a,d,ty,dl,st⟩):NO (F7 l ⟨a,d,ty,dl,st⟩) Q:=
 r_bd (r_word (fun _=>Tu (l:=l) (h _)) (Zf fun b=>h b))
theorem r_ifM {α:Type} {b:Bool} {x y:M α} {s:PS} {Q:α→PS→Prop} (h1:b=true→NO (x l s) Q) (h2:b=false→NO (y l s) Q):NO (D6 b x y l s) Q:=by
 cases b
 · exact h2 rfl
 · exact h1 rfl
theorem r_ite {α:Type} {p:Prop} [Decidable p] {x y:M α} {s:PS} {Q:α→PS→Prop} (h1:p→NO (x l s) Q) (h2:¬p→NO (y l s) Q):NO ((if p then x else y) l s) Q:=by
 by_cases h:p
 · rw[if_pos h];exact h1 h
 · rw[if_neg h];exact h2 h
theorem r_if3 {α:Type} {b v w:Bool} {x y:M α} {s:PS} {Q:α→PS→Prop} (h1:NO (x l s) Q) (h2:1≤b.toNat+v.toNat+w.toNat→NO (y l s) Q):NO (D6 (!b&&!v&&!w) x y l s) Q:=by
 cases b<;>cases v<;>cases w<;>first|exact h1|exact h2 (by decide)
end Go.Ps
namespace Go.Ps
def cm:NT→Nat
 |.exprL _ | .binaryL _ _ _ | .applied _ | .stringsL | .bracesL | .itemL | .desig | .starsL _ | .qualifiers | .qualL | .suffixes _ _ | .paramsL | .unit | .bodyL _ | .moreInits _ | .restOfInit _ | .keyword _ _ | .specsL _ _ _ _ | .memberL | .enumL=>0
 |_=>1
def ex:NT→Nat
 |.exprL _ | .binaryL _ _ _ | .applied _ | .stringsL | .bracesL | .itemL | .desig | .starsL _ | .qualifiers | .qualL | .suffixes _ _ | .paramsL | .unit | .bodyL _ | .moreInits _ | .restOfInit _ | .keyword _ _ | .specsL _ _ _ _ | .memberL | .enumL=>0
 |.specs _=>5
 |.typeName | .declarator _ | .param=>4
 |.array | .params | .record | .enum | .atomic | .align | .braces | .strings | .until' _=>6
 |.item=>2
 |_=>3
def ey:NT→Nat
 |.restOfInit _=>1
 |_=>0
def xd:NT→Nat
 |.bodyL ds=>ds.length
 |_=>0
def xs:NT→Nat
 |.declarator _ | .array | .params=>1
 |_=>0
def rk:NT→Nat
 |.primary=>3 | .applied _=>2 | .postf=>4 | .unary=>5 | .size _=>6 | .cast=>7 | .binary _=>8 | .choice=>9 | .assign=>10 | .expr=>11 | .initializer=>11 | .item=>12 | .itemL=>2
 |.strings=>2 | .specs _=>3 | .specsL _ _ _ _=>2 | .typeName=>4 | .suffixes _ _=>2 | .declarator _=>3 | .assoc=>5 | .param=>4 | .statement=>13 | .part=>14 | .compound _ _=>15
 |.declaration=>4 | .itemsL=>14 | .recordL=>5 | .external=>4 | .unit=>5 | .init _=>4 | .member=>4 | .field=>4 | .body _=>2 | .literal _=>2 | .until' _=>12 | .qualifiers=>2
 |_=>1
def fl:NT→Nat
 |.bodyL ds=>0
 |_=>21000
def cl:NT→Nat
 |.statement | .body _ | .keyword _ _ | .itemsL=>2
 |.part | .compound _ _=>1
 |_=>3
def sd (l:List Tk) (X:Nat) (s:PS):NT→Prop
 |.unit | .external=>X=0
 |.body ds=>X=0∧ds.length≤20000
 |.bodyL ds=>s.dl.length+sm s.st+ds.length≤100000
 |.exprL b | .literal b | .applied b | .restOfInit b=>b.b≤s.done.length
 |.keyword _ b=>b.b≤s.done.length∧s.at'+1≤l.length
 |.assert | .record | .enum | .align | .atomic=>s.at'+1≤l.length
 |.compound x b=>b.b≤s.done.length∧(x=[105,102]∨x=[115,119,105,116,99,104]∨x=[119,104,105,108,101]∨x=[100,111]∨x=[102,111,114])
 |.binary k=>1≤k
 |.binaryL k b _=>b.b≤s.done.length∧1≤k
 |.suffixes f _=>f.ps.length≤20000
 |_=>True
def vq (l:List Tk) (v:Val) (s s':PS):NT→Prop
 |.stringsL=>(l.getD s.at' z0).c=6→s.at'+1≤s'.at'∧s'.done.length+8*s.at'+6≤s.done.length+8*s'.at'
 |.desig=>Jt v=true→s.at'+1≤s'.at'
 |.starsL b=>(Jt v).toNat+s.at'≤b.toNat+s'.at'∧(s.at'+1≤s'.at'→s'.done.length+8*s.at'+6≤s.done.length+8*s'.at'∧s'.dl.length+s.at'+1≤s.dl.length+s'.at')
 |.suffixes f any=>(Jt v).toNat+s.at'≤any.toNat+s'.at'∧(s.at'+1≤s'.at'→s'.done.length+8*s.at'+6≤s.done.length+8*s'.at'∧s'.dl.length+s.at'+1≤s.dl.length+s'.at')∧(Lx v).ps.length≤20000
 |.declarator _=>(Lx v).ps.length≤20000
 |.params=>(asD v).length≤20000
 |.specsL _ _ w o=>spW v+spO v+s.at'≤w+o+s'.at'∧(s.at'+1≤s'.at'→s'.done.length+8*s.at'+6≤s.done.length+8*s'.at')
 |.keyword _ _=>Jt v=true→s.at'+1≤s'.at'∧s'.done.length+8*s.at'+3≤s.done.length+8*s'.at'
 |.bodyL _=>s'.at'=s.at'∧s'.done.length=s.done.length
 |_=>True
def Pre (l:List Tk) (m X:Nat) (nt:NT) (s:PS):Prop:=
 s.at'≤l.length∧l.length≤20000∧X≤20000∧(fl nt=21000→s.dl.length+sm s.st≤s.at'+X)∧s.done.length≤8*s.at'+8∧s.st.length≤4*s.at'+cl nt∧(fl nt=21000→100*l.length+rk nt+21000≤m+100*s.at')∧xd nt+1≤m∧sd l X s nt
def Sf (l:List Tk) (nt:NT) (s:PS) (v:Val) (s':PS):Prop:=
 s.at'+cm nt≤s'.at'∧s'.at'≤l.length∧s'.st=s.st∧s'.dl.length+s.at'+xs nt≤s.dl.length+s'.at'+xd nt∧s.done.length≤s'.done.length∧s'.done.length+8*s.at'+ex nt≤s.done.length+8*s'.at'+ey nt∧vq l v s s' nt
theorem call {l:List Tk} {m:Nat} (ih:∀X nt s,Pre l m X nt s→NO (run m nt l s) (Sf l nt s)) (X:Nat) {nt:NT} {a:Nat} {d:List Nd} {ty:List Nat→Bool} {dl:List Dc} {st:List ((List Nat→Bool)×List Dc)} {Q:Val→PS→Prop}
 (h:Pre l m X nt ⟨a,d,ty,dl,st⟩) (hk:∀v a' d' ty' dl',Sf l nt ⟨a,d,ty,dl,st⟩ v ⟨a',d',ty',dl',st⟩→Q v ⟨a',d',ty',dl',st⟩):NO (run m nt l ⟨a,d,ty,dl,st⟩) Q:=by
 refine W.mono (ih X nt _ h) (fun v s' hp=>?_) id id
 obtain⟨a',d',ty',dl',st'⟩:=s'
 have:=hp.2.2.1
 subst this
 exact hk _ _ _ _ _ hp
variable {l : List Tk} {a a' : Nat} {d d' : List Nd} {ty ty' : List Nat → Bool} {dl dl' : List Dc} {st : List ((List Nat → Bool) × List Dc)}
theorem pre_i {m X:Nat} {nt:NT} (h1:a≤l.length) (h2:l.length≤20000) (h3:X≤20000) (h4:fl nt=21000→dl.length+sm st≤a+X) (h5:d.length≤8*a+8) (h6:st.length≤4*a+cl nt)
 (h7:fl nt=21000→100*l.length+rk nt+21000≤m+100*a) (h8:xd nt+1≤m) (h9:sd l X ⟨a,d,ty,dl,st⟩ nt):Pre l m X nt ⟨a,d,ty,dl,st⟩:=⟨h1,h2,h3,h4,h5,h6,h7,h8,h9⟩
theorem Tz {nt:NT} {v:Val} (h1:a+cm nt≤a') (h2:a'≤l.length) (h4:dl'.length+a+xs nt≤dl.length+a'+xd nt) (h5:d.length≤d'.length) (h6:d'.length+8*a+ex nt≤d.length+8*a'+ey nt)
 (h7:vq l v ⟨a,d,ty,dl,st⟩ ⟨a',d',ty',dl',st⟩ nt):Sf l nt ⟨a,d,ty,dl,st⟩ v ⟨a',d',ty',dl',st⟩:=⟨h1,h2,rfl,h4,h5,h6,h7⟩
end Go.Ps
namespace Go.Ps
attribute [local irreducible] L9 Hz Vp He Jo E6 Km De name V4 Fm Cl isTy Hq Em Fu X5 Iy Iz Eu Eh Ny Xr Fg F7 ret Ku bd D6
theorem dvN {p:Prop} (h:p:=by
 repeat' first
  |contradiction
  |refine r_bd ?_
  |refine call ih X (pre_i ?_ ?_ ?_ ?_ ?_ ?_ ?_ ?_ ?_) ?_
  |refine r_if3 ?_ (fun hb3=>?_)
  |refine r_ifM (fun hb=>?_) (fun hb=>?_)
  |refine r_ite (fun hb=>?_) (fun hb=>?_)
  |refine Tu ?_
  |exact r_fail
  |refine r_here ?_
  |refine r_peek fun t ht hl=>?_
  |refine r_sign (fun hl hc hs=>?_) ?_
  |refine r_took (fun hl=>?_) (fun hf=>?_)
  |refine r_need (fun hl=>?_)
  |refine r_node ?_ ?_ (fun d' hd=>?_)
  |refine r_adv ?_ ?_
  |refine r_word (fun hl=>?_) ?_
  |refine r_tookW (fun hl=>?_) ?_
  |refine r_name (fun hl x=>?_)
  |refine Sp ?_ (fun hl=>?_) ?_
  |refine Rx (fun hl=>?_) ?_
  |refine N9 ?_ (fun b=>?_)
  |refine Tv (fun hl=>?_) ?_
  |refine Tw (fun b=>?_)
  |refine Py (fun b=>?_)
  |refine r_level (fun k hk hl=>?_)
  |refine Xk (fun hl=>?_) ?_
  |refine r_isTy (fun b=>?_)
  |refine r_posn ?_
  |refine r_getDl ?_
  |refine r_openB ?_ (fun st' hst hs1 hs2=>?_)
  |refine r_closeB hst ?_
  |refine Qs ?_ (fun ty' dl' hdl=>?_)
  |refine Tz ?_ ?_ ?_ ?_ ?_ ?_
  |(rintro v a' d' ty' dl' ⟨q1,q2,-,q4,q5,q6,q7⟩;dsimp only[cm,ex,ey,xd,xs,vq,Bool.toNat_false,Bool.toNat_true,List.length_nil]at q1 q2 q4 q5 q6 q7)
  |omega
  |(dsimp only[Bool.toNat_false,Bool.toNat_true]at *;omega)
  |exact trivial
  |assumption
  |(exact hc (by decide))
  |exact absurd hs (by rw[hf];decide)
  |(dsimp only[Cc]at hb;contradiction)
  |(refine clo_c ?_;subst ht;omega)
  |dsimp only[cl,rk,xd,xs,fl,sd,cm,ex,ey,vq,Bool.toNat_false,Bool.toNat_true,Cc,Rq,Yl,asB_f,asF_fb,asF_f,asD_ds,f0_ps,spW_sp,spO_sp,spT_sp,List.length_nil]
  |(have:=q7 ‹_›;omega)
  |(have:=q7.1 ‹_›;omega)
  |(have:=badS_pos hb;omega)
  |(subst ht;have:=q7 hb;omega)
  |(exfalso;rcases h9.2 with h|h|h|h|h<;>contradiction)
  |(refine⟨?_,?_⟩)
  |(intro hh;first|contradiction|exact Or.inl hh|exact Or.inr (by omega)|(subst ht;omega))
  |(subst hb;decide)):p:=h
def Hl (nt:NT):Prop:=∀ {l:List Tk} {m X:Nat} (_:∀X nt s,Pre l m X nt s→NO (run m nt l s) (Sf l nt s)) {s:PS} (_:Pre l (m+1) X nt s),NO (Ah (run m) nt l s) (Sf l nt s)
theorem Cf {p:Prop} (h:p:=by
 rename_i l m X;intro ih s hp
 obtain⟨a,d,ty,dl,st⟩:=s
 obtain⟨h1,h2,h3,h4,h5,h6,h7,h8,h9⟩:=hp
 dsimp only[cl,rk,xd,fl,sd]at h1 h2 h3 h4 h5 h6 h7 h8 h9
 replace h4:=h4 rfl
 replace h7:=h7 rfl
 dsimp only[Ah]
 exact dvN):p:=h
theorem no_expr:Hl .expr:=Cf
theorem no_exprL {b}:Hl (.exprL b):=Cf
theorem no_assign:Hl .assign:=Cf
theorem no_choice:Hl .choice:=Cf
theorem no_binary {k}:Hl (.binary k):=Cf
theorem no_binaryL {k b u}:Hl (.binaryL k b u):=Cf
theorem no_cast:Hl .cast:=Cf
theorem no_typeInBr:Hl .typeInBr:=Cf
theorem no_literal {b}:Hl (.literal b):=Cf
theorem no_unary:Hl .unary:=Cf
theorem no_size {v}:Hl (.size v):=Cf
theorem no_postf:Hl .postf:=Cf
theorem no_applied {b}:Hl (.applied b):=Cf
theorem no_call:Hl .call:=Cf
theorem no_callL:Hl .callL:=Cf
theorem no_primary:Hl .primary:=Cf
theorem no_strings:Hl .strings:=Cf
theorem no_stringsL:Hl .stringsL:=Cf
theorem no_generic:Hl .generic:=Cf
theorem no_genericL:Hl .genericL:=Cf
theorem no_assoc:Hl .assoc:=Cf
theorem Ud:Hl .initializer:=Cf
theorem no_braces:Hl .braces:=Cf
theorem no_bracesL:Hl .bracesL:=Cf
theorem no_item:Hl .item:=Cf
theorem no_itemL:Hl .itemL:=Cf
theorem no_desig:Hl .desig:=Cf
theorem V8 {k}:Hl (.declarator k):=Cf
theorem no_starsL {b}:Hl (.starsL b):=Cf
theorem V6:Hl .qualifiers:=Cf
theorem no_qualL:Hl .qualL:=Cf
theorem no_suffixes {f any}:Hl (.suffixes f any):=Cf
theorem no_array:Hl .array:=Cf
theorem no_params:Hl .params:=Cf
theorem no_paramsL:Hl .paramsL:=Cf
theorem no_param:Hl .param:=Cf
theorem no_external:Hl .external:=Cf
theorem Ue:Hl .declaration:=Cf
theorem Zo {td}:Hl (.moreInits td):=Cf
theorem no_init {td}:Hl (.init td):=Cf
theorem V5 {b}:Hl (.restOfInit b):=Cf
theorem no_assert:Hl .assert:=Cf
theorem no_items:Hl .items:=Cf
theorem no_itemsL:Hl .itemsL:=Cf
theorem no_part:Hl .part:=Cf
theorem Zp:Hl .condition:=Cf
theorem no_until' {x}:Hl (.until' x):=Cf
theorem Zn:Hl .statement:=Cf
theorem no_keyword {x b}:Hl (.keyword x b):=Cf
theorem no_compound {x b}:Hl (.compound x b):=Cf
theorem no_specs {all}:Hl (.specs all):=Cf
theorem no_specsL {all td w o}:Hl (.specsL all td w o):=Cf
theorem no_align:Hl .align:=Cf
theorem no_atomic:Hl .atomic:=Cf
theorem no_record:Hl .record:=Cf
theorem no_recordL:Hl .recordL:=Cf
theorem no_member:Hl .member:=Cf
theorem no_memberL:Hl .memberL:=Cf
theorem no_field:Hl .field:=Cf
theorem no_enum:Hl .enum:=Cf
theorem no_enumL:Hl .enumL:=Cf
theorem V7:Hl .enumerator:=Cf
theorem no_typeName:Hl .typeName:=Cf
theorem no_body {l:List Tk} {m X:Nat} (ih:∀X nt s,Pre l m X nt s→NO (run m nt l s) (Sf l nt s)) {ds} {s:PS} (hp:Pre l (m+1) X (.body ds) s):NO (Ah (run m) (.body ds) l s) (Sf l (.body ds) s):=by
 obtain⟨a,d,ty,dl,st⟩:=s
 obtain⟨h1,h2,h3,h4,h5,h6,h7,h8,h9⟩:=hp
 dsimp only[cl,rk,xd,fl,sd]at h1 h2 h3 h4 h5 h6 h7 h8 h9
 replace h4:=h4 rfl
 replace h7:=h7 rfl
 obtain⟨h9,h10⟩:=h9
 dsimp only[Ah]
 repeat' first
  |contradiction
  |refine r_bd ?_
  |refine call ih 20000 (pre_i ?_ ?_ ?_ ?_ ?_ ?_ ?_ ?_ ?_) ?_
  |refine r_if3 ?_ (fun hb3=>?_)
  |refine r_ifM (fun hb=>?_) (fun hb=>?_)
  |refine r_ite (fun hb=>?_) (fun hb=>?_)
  |refine Tu ?_
  |exact r_fail
  |refine r_here ?_
  |refine r_peek fun t ht hl=>?_
  |refine r_sign (fun hl hc hs=>?_) ?_
  |refine r_took (fun hl=>?_) (fun hf=>?_)
  |refine r_need (fun hl=>?_)
  |refine r_node ?_ ?_ (fun d' hd=>?_)
  |refine r_adv ?_ ?_
  |refine r_word (fun hl=>?_) ?_
  |refine r_tookW (fun hl=>?_) ?_
  |refine r_name (fun hl x=>?_)
  |refine Sp ?_ (fun hl=>?_) ?_
  |refine Rx (fun hl=>?_) ?_
  |refine N9 ?_ (fun b=>?_)
  |refine Tv (fun hl=>?_) ?_
  |refine Tw (fun b=>?_)
  |refine Py (fun b=>?_)
  |refine r_level (fun k hk hl=>?_)
  |refine Xk (fun hl=>?_) ?_
  |refine r_isTy (fun b=>?_)
  |refine r_posn ?_
  |refine r_getDl ?_
  |refine r_openB ?_ (fun st' hst hs1 hs2=>?_)
  |refine r_closeB hst ?_
  |refine Qs ?_ (fun ty' dl' hdl=>?_)
  |refine Tz ?_ ?_ ?_ ?_ ?_ ?_
  |(rintro v a' d' ty' dl' ⟨q1,q2,-,q4,q5,q6,q7⟩;dsimp only[cm,ex,ey,xd,xs,vq,Bool.toNat_false,Bool.toNat_true,List.length_nil]at q1 q2 q4 q5 q6 q7)
  |omega
  |(dsimp only[Bool.toNat_false,Bool.toNat_true]at *;omega)
  |exact trivial
  |assumption
  |(exact hc (by decide))
  |exact absurd hs (by rw[hf];decide)
  |(dsimp only[Cc]at hb;contradiction)
  |(refine clo_c ?_;subst ht;omega)
  |dsimp only[cl,rk,xd,xs,fl,sd,cm,ex,ey,vq,Bool.toNat_false,Bool.toNat_true,Cc,Rq,Yl,asB_f,asF_fb,asF_f,asD_ds,f0_ps,spW_sp,spO_sp,spT_sp,List.length_nil]
  |(have:=q7 ‹_›;omega)
  |(have:=q7.1 ‹_›;omega)
  |(have:=badS_pos hb;omega)
  |(subst ht;have:=q7 hb;omega)
  |(exfalso;rcases h9.2 with h|h|h|h|h<;>contradiction)
  |(refine⟨?_,?_⟩)
  |(intro hh;first|contradiction|exact Or.inl hh|exact Or.inr (by omega)|(subst ht;omega))
  |(subst hb;decide)
  |(obtain⟨q8,q9⟩:=q7;omega)
theorem no_bodyL {l:List Tk} {m X:Nat} (ih:∀X nt s,Pre l m X nt s→NO (run m nt l s) (Sf l nt s)) {ds} {s:PS} (hp:Pre l (m+1) X (.bodyL ds) s):NO (Ah (run m) (.bodyL ds) l s) (Sf l (.bodyL ds) s):=by
 obtain⟨a,d,ty,dl,st⟩:=s
 obtain⟨h1,h2,h3,h4,h5,h6,h7,h8,h9⟩:=hp
 dsimp only[cl,rk,xd,fl,sd]at h1 h2 h3 h4 h5 h6 h7 h8 h9
 cases ds with
 |nil=>
  dsimp only[Ah]
  refine Tu (Tz ?_ ?_ ?_ ?_ ?_ ?_)<;>first|omega|(dsimp only[cm,ex,ey,xd,xs,vq,List.length_nil];omega)|exact⟨rfl,rfl⟩
 |cons c r=>
  rw[Cq]at h8 h9
  dsimp only[Ah]
  refine r_bd (Qs (by omega) fun ty' dl' hdl=>?_)
  refine call ih X (pre_i h1 h2 h3 ?_ h5 h6 ?_ ?_ ?_) ?_
  · intro h;exact absurd (show(0:Nat)=21000 from h) (by decide)
  · intro h;exact absurd (show(0:Nat)=21000 from h) (by decide)
  · dsimp only[xd];omega
  · dsimp only[sd];omega
  · rintro v a' d' ty2 dl2 ⟨q1,q2,-,q4,q5,q6,q7⟩
    dsimp only[cm,ex,ey,xd,xs,vq]at q1 q2 q4 q5 q6 q7
    refine Tz ?_ ?_ ?_ ?_ ?_ ?_
    · dsimp only[cm];omega
    · exact q2
    · dsimp only[xs,xd];rw[List.length_cons];omega
    · exact q5
    · dsimp only[ex,ey];omega
    · exact q7
theorem no_unit {l:List Tk} {m X:Nat} (ih:∀X nt s,Pre l m X nt s→NO (run m nt l s) (Sf l nt s))  {s:PS} (hp:Pre l (m+1) X .unit s):NO (Ah (run m) .unit l s) (Sf l .unit s):=by
 obtain⟨a,d,ty,dl,st⟩:=s
 obtain⟨h1,h2,h3,h4,h5,h6,h7,h8,h9⟩:=hp
 dsimp only[cl,rk,xd,fl,sd]at h1 h2 h3 h4 h5 h6 h7 h8 h9
 replace h4:=h4 rfl
 replace h7:=h7 rfl
 show NO (if a<l.length then bd (run m .external) (fun _=>run m .unit) l ⟨a,d,ty,dl,st⟩else Out.ok Val.u ⟨a,d,ty,dl,st⟩) _
 by_cases hh:a<l.length
 · rw[if_pos hh]
   exact dvN
 · rw[if_neg hh]
   refine Tz ?_ ?_ ?_ ?_ ?_ ?_<;>first|omega|(dsimp only[cm,ex,ey,xd,xs,vq];omega)|exact trivial
theorem no_out {l:List Tk}:∀m X nt s,Pre l m X nt s→NO (run m nt l s) (Sf l nt s):=by
 intro m
 induction m with
 |zero=>intro X nt s hp;exact absurd hp.2.2.2.2.2.2.2.1 (by omega)
 |succ m ih=>
  intro X nt s hp
  show NO (Ah (run m) nt l s) _
  cases nt with
  |expr=>exact no_expr ih hp
  |exprL b=>exact no_exprL ih hp
  |assign=>exact no_assign ih hp
  |choice=>exact no_choice ih hp
  |binary k=>exact no_binary ih hp
  |binaryL k b u=>exact no_binaryL ih hp
  |cast=>exact no_cast ih hp
  |typeInBr=>exact no_typeInBr ih hp
  |literal b=>exact no_literal ih hp
  |unary=>exact no_unary ih hp
  |size v=>exact no_size ih hp
  |postf=>exact no_postf ih hp
  |applied b=>exact no_applied ih hp
  |call=>exact no_call ih hp
  |callL=>exact no_callL ih hp
  |primary=>exact no_primary ih hp
  |strings=>exact no_strings ih hp
  |stringsL=>exact no_stringsL ih hp
  |generic=>exact no_generic ih hp
  |genericL=>exact no_genericL ih hp
  |assoc=>exact no_assoc ih hp
  |initializer=>exact Ud ih hp
  |braces=>exact no_braces ih hp
  |bracesL=>exact no_bracesL ih hp
  |item=>exact no_item ih hp
  |itemL=>exact no_itemL ih hp
  |desig=>exact no_desig ih hp
  |declarator k=>exact V8 ih hp
  |starsL b=>exact no_starsL ih hp
  |qualifiers=>exact V6 ih hp
  |qualL=>exact no_qualL ih hp
  |suffixes f any=>exact no_suffixes ih hp
  |array=>exact no_array ih hp
  |params=>exact no_params ih hp
  |paramsL=>exact no_paramsL ih hp
  |param=>exact no_param ih hp
  |external=>exact no_external ih hp
  |declaration=>exact Ue ih hp
  |moreInits td=>exact Zo ih hp
  |init td=>exact no_init ih hp
  |restOfInit b=>exact V5 ih hp
  |assert=>exact no_assert ih hp
  |items=>exact no_items ih hp
  |itemsL=>exact no_itemsL ih hp
  |part=>exact no_part ih hp
  |condition=>exact Zp ih hp
  |until' x=>exact no_until' ih hp
  |statement=>exact Zn ih hp
  |keyword x b=>exact no_keyword ih hp
  |compound x b=>exact no_compound ih hp
  |specs all=>exact no_specs ih hp
  |specsL all td w o=>exact no_specsL ih hp
  |align=>exact no_align ih hp
  |atomic=>exact no_atomic ih hp
  |record=>exact no_record ih hp
  |recordL=>exact no_recordL ih hp
  |member=>exact no_member ih hp
  |memberL=>exact no_memberL ih hp
  |field=>exact no_field ih hp
  |enum=>exact no_enum ih hp
  |enumL=>exact no_enumL ih hp
  |enumerator=>exact V7 ih hp
  |typeName=>exact no_typeName ih hp
  |body ds=>exact no_body ih hp
  |bodyL ds=>exact no_bodyL ih hp
  |unit=>exact no_unit ih hp
end Go.Ps
