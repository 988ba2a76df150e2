/- Part 32 of the lemmas behind the claim. -/
import Derived.Test.YtacpdfjcepkgcaaGreatDoorZA01
import Derived.Test.YtacpdfjcepkgcaaGreatDoorZA31
set_option linter.unusedSimpArgs false
set_option linter.unusedVariables false
set_option linter.constructorNameAsVariable false
set_option linter.unusedSectionVars false
set_option linter.defProp false
set_option maxRecDepth 100000
set_option maxHeartbeats 40000000
namespace Go.CE
open Go Go.Ps Go.Proofs.YtacpdfjcepkgcaaGreatDoor
attribute [local irreducible] loopK Ai K0 N2 Dg fits rd rd1 wr newC Kj Fk Fa Ve
variable {E : PEnv} {m : Nat}
theorem w_external (A:ALL E m):C5 E (m+1) .external 16 []:=by
 intro n d hd hn kp h nx k s R Q Fl P hW hk hf
 refine Ab (d:=m+1+d) hn (by omega) fun mm hm=>?_
 have hW:W (Ah (run m) .external E.l s) Q Fl False:=hW
 simp only[Ah]at hW
 (try simp only[Ak,ite_self]at hW)
 repeat' ((conv=>lhs;whnf);first
  |contradiction
  |(refine A.body _ _ _ hX hpl _ _ hd (by omega) _ _ _ _ _ _ _ _ (by intro e he;exact .tail _ (.tail _ (.tail _ (A3 _ he)))) P (Ac.1 hW) (fun v s' h' nx' hW P=>?_) (fun f h2 n2 s2 P2=>hf f _ _ _ (PI.sb P2));(try simp only[Ak,ite_self]at hW))
  |(refine B4 (by omega) ‹_› (Ac.1 hW) (fun h' nx' hW P=>?_);(try simp only[Ak,ite_self]at hW))
  |refine Bl ‹_› rfl fun h1 P=>?_
  |refine B5 ‹_› 0 rfl (Aa rfl) (by first|rfl|exact Ba ‹_›) fun h1 P=>?_
  |refine An ‹_› 0 rfl (Aa rfl) ?_
  |refine An ‹_› 1 rfl (Aa rfl) ?_
  |refine An ‹_› 2 rfl (Aa rfl) ?_
  |refine Af ‹_› 0 rfl (Aa rfl) ?_
  |refine Af ‹_› 1 rfl (Aa rfl) ?_
  |refine Af ‹_› 2 rfl (Aa rfl) ?_
  |refine Bd ‹_› fun hat=>?_
  |refine Bv (by(try simp only[Aj]at *);omega) ?_
  |(refine Cy ‹_› (Ac.1 hW) rfl fun s' h' hW P=>?_;(try simp only[Ak,ite_self]at hW))
  |(refine Ca (b:=⟨_,_⟩) (by omega) ‹_› (by first|omega|exact(Aa rfl)) (Ac.1 hW) fun s' h' nx' hW P=>?_;(try simp only[Ak,ite_self]at hW))
  |(refine word_w (by omega) ‹_› (Ac.1 hW) fun b h' nx' hW P=>?_;cases b<;>(try simp only[Ak,ite_self]at hW))
  |(refine Gb (by omega) ‹_› (Ac.1 hW) fun b h' nx' hW P=>?_;cases b<;>(try simp only[Ak,ite_self]at hW))
  |(refine J0 (d:=⟨_,_⟩) (by omega) ‹_› (Ac.1 hW) fun s' h' nx' hW P=>?_;(try simp only[Ak,ite_self]at hW))
  |(refine Dd (by omega) ‹_› (Ac.1 hW) (fun s' h' nx' hW P=>?_) (fun f h2 n2 s2 P2=>hf f _ _ _ (PI.sb P2));(try simp only[Ak,ite_self]at hW))
  |(refine Cu (fun hc hz=>?_) (fun hc hz=>?_)<;>(try rewrite [hc])<;>(first|simp only[if_pos hz]at hW|simp only[if_neg hz]at hW|rw[if_pos ‹_›]at hW|rw[if_neg ‹_›]at hW|rw[if_pos (by(try simp only[Aj]at *);omega)]at hW|rw[if_neg (by(try simp only[Aj]at *);omega)]at hW|skip)<;>(try simp only[Ak,ite_self]at hW))
  |(refine A.assert _ _ hd (by omega) _ _ _ _ _ _ _ _ ‹_› (Ac.1 hW) (fun v s' h' nx' hW P=>?_) (fun f h2 n2 s2 P2=>hf f _ _ _ (PI.sb P2));(try simp only[Ak,ite_self]at hW))
  |(refine A.assert _ _ hd (by omega) _ _ _ _ _ _ _ _ ‹_› hW (fun v s' h' nx' hW P=>?_) (fun f h2 n2 s2 P2=>hf f _ _ _ (PI.sb P2));(try simp only[Ak,ite_self]at hW))
  |(refine A.specs _ _ _ hd (by omega) _ _ _ _ _ _ _ _ ‹_› (Ac.1 hW) (fun b v s' h' nx' hb hW P=>?_) (fun f h2 n2 s2 P2=>hf f _ _ _ (PI.sb P2));(try rw[hb]at hW);cases b<;>(try simp only[Ak,ite_self]at hW))
  |(refine A.specs _ _ _ hd (by omega) _ _ _ _ _ _ _ _ ‹_› hW (fun b v s' h' nx' hb hW P=>?_) (fun f h2 n2 s2 P2=>hf f _ _ _ (PI.sb P2));(try rw[hb]at hW);cases b<;>(try simp only[Ak,ite_self]at hW))
  |(refine A.declarator _ (by first|omega|exact(Aa rfl)) _ _ hd (by omega) _ _ _ _ _ _ _ _ ‹_› (Ac.1 hW) (fun v s' h' nx' pv X hX hpl hW P=>?_) (fun f h2 n2 s2 P2=>hf f _ _ _ (PI.sb P2));(try simp only[Ak,ite_self]at hW))
  |(refine A.restOfInit _ _ _ hd (by omega) _ _ _ _ _ _ _ _ ‹_› (Ac.1 hW) (fun v s' h' nx' hW P=>?_) (fun f h2 n2 s2 P2=>hf f _ _ _ (PI.sb P2));(try simp only[Ak,ite_self]at hW))
  |(refine A.restOfInit _ _ _ hd (by omega) _ _ _ _ _ _ _ _ ‹_› hW (fun v s' h' nx' hW P=>?_) (fun f h2 n2 s2 P2=>hf f _ _ _ (PI.sb P2));(try simp only[Ak,ite_self]at hW))
  |(refine A.moreInits _ _ _ hd (by omega) _ _ _ _ _ _ _ _ ‹_› (Ac.1 hW) (fun v s' h' nx' hW P=>?_) (fun f h2 n2 s2 P2=>hf f _ _ _ (PI.sb P2));(try simp only[Ak,ite_self]at hW))
  |(refine A.moreInits _ _ _ hd (by omega) _ _ _ _ _ _ _ _ ‹_› hW (fun v s' h' nx' hW P=>?_) (fun f h2 n2 s2 P2=>hf f _ _ _ (PI.sb P2));(try simp only[Ak,ite_self]at hW))
  |exact hk _ _ _ _ hW (PI.sb ‹_›))
theorem all_ok:∀m,m≤1000000000→ALL E m:=by
 have key:∀m,(∀m',m'≤m→m'≤1000000000→ALL E m'):=by
  intro m
  induction m with
  |zero=>
   intro m' h1 h2
   obtain rfl:m'=0:=by omega
   constructor
   · intro n d hd hn kp h nx k s R Q Fl P hW;exact hW.elim
   · intro n d hd hn kp h nx k s R Q Fl P hW;exact hW.elim
   · intro n d hd hn kp h nx k s R Q Fl P hW;exact hW.elim
   · intro q0 q1 n d hd hn kp h nx k s R Q Fl P hW;exact hW.elim
   · intro n d hd hn kp h nx k s R Q Fl P hW;exact hW.elim
   · intro n d hd hn kp h nx k s R Q Fl P hW;exact hW.elim
   · intro q0 n d hd hn kp h nx k s R Q Fl P hW;exact hW.elim
   · intro n d hd hn kp h nx k s R Q Fl P hW;exact hW.elim
   · intro q0 n d hd hn kp h nx k s R Q Fl P hW;exact hW.elim
   · intro n d hd hn kp h nx k s R Q Fl P hW;exact hW.elim
   · intro q0 n d hd hn kp h nx k s R Q Fl P hW;exact hW.elim
   · intro n d hd hn kp h nx k s R Q Fl P hW;exact hW.elim
   · intro n d hd hn kp h nx k s R Q Fl P hW;exact hW.elim
   · intro n d hd hn kp h nx k s R Q Fl P hW;exact hW.elim
   · intro n d hd hn kp h nx k s R Q Fl P hW;exact hW.elim
   · intro n d hd hn kp h nx k s R Q Fl P hW;exact hW.elim
   · intro n d hd hn kp h nx k s R Q Fl P hW;exact hW.elim
   · intro n d hd hn kp h nx k s R Q Fl P hW;exact hW.elim
   · intro n d hd hn kp h nx k s R Q Fl P hW;exact hW.elim
   · intro n d hd hn kp h nx k s R Q Fl P hW;exact hW.elim
   · intro n d hd hn kp h nx k s R Q Fl P hW;exact hW.elim
   · intro n d hd hn kp h nx k s R Q Fl P hW;exact hW.elim
   · intro n d hd hn kp h nx k s R Q Fl P hW;exact hW.elim
   · intro n d hd hn kp h nx k s R Q Fl P hW;exact hW.elim
   · intro n d hd hn kp h nx k s R Q Fl P hW;exact hW.elim
   · intro q0 n d hd hn kp h nx k s R Q Fl P hW;exact hW.elim
   · intro q0 n d hd hn kp h nx k s R Q Fl P hW;exact hW.elim
   · intro q0 n d hd hn kp h nx k s R Q Fl P hW;exact hW.elim
   · intro n d hd hn kp h nx k s R Q Fl P hW;exact hW.elim
   · intro n d hd hn kp h nx k s R Q Fl P hW;exact hW.elim
   · intro n d hd hn kp h nx k s R Q Fl P hW;exact hW.elim
   · intro n d hd hn kp h nx k s R Q Fl P hW;exact hW.elim
   · intro q0 n d hd hn kp h nx k s R Q Fl P hW;exact hW.elim
   · intro n d hd hn kp h nx k s R Q Fl P hW;exact hW.elim
   · intro q0 q1 n d hd hn kp h nx k s R Q Fl P hW;exact hW.elim
   · intro q0 q1 n d hd hn kp h nx k s R Q Fl P hW;exact hW.elim
   · intro q0 n d hd hn kp h nx k s R Q Fl P hW;exact hW.elim
   · intro n d hd hn kp h nx k s R Q Fl P hW;exact hW.elim
   · intro n d hd hn kp h nx k s R Q Fl P hW;exact hW.elim
   · intro n d hd hn kp h nx k s R Q Fl P hW;exact hW.elim
   · intro n d hd hn kp h nx k s R Q Fl P hW;exact hW.elim
   · intro n d hd hn kp h nx k s R Q Fl P hW;exact hW.elim
   · intro n d hd hn kp h nx k s R Q Fl P hW;exact hW.elim
   · intro n d hd hn kp h nx k s R Q Fl P hW;exact hW.elim
   · intro n d hd hn kp h nx k s R Q Fl P hW;exact hW.elim
   · intro q0 q1 n d hd hn kp h nx k s R Q Fl P hW;exact hW.elim
   · intro q0 q1 q2 q3 q4 q5 n d hd hn kp h nx k s R Q Fl P hW;exact hW.elim
   · intro n d hd hn kp h nx k s R Q Fl P hW;exact hW.elim
   · intro q0 q1 q2 q3 q4 n d hd hn kp h nx k s R Q Fl q5 P hW;exact hW.elim
  |succ m ih=>
   intro m' h1 h2
   by_cases h3:m'≤m
   · exact ih m' h3 h2
   obtain rfl:m'=m+1:=by omega
   have AA:∀m',m'≤m→ALL E m':=fun m' h=>ih m' h (by omega)
   have A:=AA m (Ag _)
   exact {
    expr:=w_expr AA
    assign:=w_assign A
    choice:=w_choice A
    binary:=fun Gi hl=>w_binary AA Gi hl
    cast:=w_cast A
    typeInBr:=w_typeInBr A
    literal:=fun q=>w_literal A q
    unary:=w_unary A
    size:=fun q=>w_size A q
    postf':=w_postf A
    applied:=fun q=>w_applied AA q
    call:=w_call AA
    primary:=w_primary A
    strings:=w_strings AA
    generic:=w_generic AA
    assoc:=w_assoc A
    initializer:=Vq A
    braces:=w_braces AA
    item:=w_item AA
    desig:=w_desig A
    qualifiers:=Yr AA
    array:=w_array A
    param:=w_param A
    external:=w_external A
    declaration:=Vr A
    moreInits:=fun q=>w_moreInits AA q
    init:=fun q=>w_init A q
    restOfInit:=fun q=>Yq A q
    assert:=w_assert A
    items:=w_items AA
    part:=w_part A
    condition:=w_condition A
    until':=fun q=>w_until A q
    statement:=w_statement A
    keyword:=fun q r=>w_keyword A q r
    compound:=fun q r=>w_compound A q r
    specs:=fun all=>by cases all<;>first|exact w_specst AA (by omega)|exact w_specsf AA (by omega)
    align:=w_align A
    atomic:=w_atomic A
    record:=w_record AA
    member:=w_member AA
    field:=w_field A
    enum:=w_enum AA
    enumerator:=Ys A
    typeName:=w_typeName A
    declarator:=fun kind hk=>by
     have hkk:kind=0∨kind=1∨kind=2:=by omega
     rcases hkk with rfl|rfl|rfl
     · exact w_decl0 AA
     · exact w_decl1 AA
     · exact w_decl2 AA
    suffixes:=w_suffixes AA
    params:=w_params AA
    body:=w_body A
   }
 exact fun m hm=>key m m (Ag _) hm
end Go.CE
