/- The statement of CtokOne, out of its walk: for any input the law answers true, and the input stays. -/
import Derived.Test.YtdonomneofdhfaaN28
import Derived.Test.YtdonomneofdhfaaF1
import Derived.Test.YtdonomneofdhfaaRows
import Derived.ProofKit
import Derived.OpenShut
import Derived.ShutString
import Derived.ChangeOld
import Derived.Below
import Derived.SizedLaws
import Derived.HandedShaped
namespace Go.Proofs.Ytdonomneofdhfaa
open Go.ChangeShapes Go.WideShapes Go.ChangeAt Go.RowKit Go.GV

/-! ### The row -/
set_option maxRecDepth 100000 in
theorem lifted (os : Os) (started : os.Started) (H : Type) (enc : TypeId × Value → H) :
    ReturnsInHanded {} Try.checked os 16 .any (Rows.ctokOneSpec.pre6 enc Try.prog Try.f16 Rows.ctokOneRow.domain false) (Rows.ctokOneSpec.post enc Try.prog Try.f16 false true false false) := by
  refine returnsInHanded_of_change_shaped (C := Try.checked) own started (by kernel_rfl) Try.func16
    (ChangeSpec.witness6 (enc := enc) (C := Try.checked) false ⟨#[], #[.string ⟨#[]⟩], []⟩ 8 (by kernel_rfl) (by kernel_rfl) (by kernel_rfl) (by kernel_rfl)) ?_
  intro W base args ds gs before hval0 hW hcnd hz hsh _
  have hval : ∀ (j : Nat) t v, Try.f16.params[j]? = some t → args[j]? = some v → Value.okWide Try.prog W .any base t v := hval0
  have hW' := hW
  obtain ⟨p, q, hA0, hV, rfl, hfz, hnd⟩ := hW
  have hA : DataW.TrodAll enc Try.prog W 0 (fun _ => true) true Try.f16.params.toList args.toList ds p := hA0
  rw [Try.params16] at hA hval hz
  obtain ⟨v0, vs0, d0, ds0, p0, q0, hargs, rfl, rfl, h0, r0⟩ := trodAll_cons hA
  obtain ⟨rfl, rfl, rfl⟩ := trodAll_nil r0
  obtain rfl : args = #[v0] := by cases args; simp_all
  obtain ⟨rfl, rfl⟩ := trodVars_none hV
  obtain ⟨x0, rfl⟩ := okWide_string Try.underlying9 (hval 0 9 v0 rfl rfl)
  have lt0 : ∀ x ∈ p0, x.block < W.heap.size := by obtain ⟨m, hm⟩ := h0; exact DataW.trod_lt m _ _ _ hm
  have hg : Glob (im W) := Try.laysM143.s1_3 W hsh
  have hx0 : x0.size ≤ 140737488351232 := by
    obtain ⟨s, e1, e2⟩ := (TrZ.of (j := 0) hz rfl rfl h0).strB Try.underlying9
    simp only [Value.cells, List.cons.injEq, and_true, Value.string.injEq] at e1
    subst e1
    exact e2
  clear hA0 hval0
  refine (ctokOne_any x0 W hx0 hg).mono fun e W' ⟨v, he, bel, hv⟩ => ?_
  subst he hv
  exact ⟨_, rfl, _, _, _, [], _, [], hW', trodAll_mk1 (shut_bool Try.underlying4 _), (trodAll_cons_mk (Below.trod laidOut (by kernel_rfl) (of_decide_eq_true (by kernel_rfl)) h0 bel lt0) trodAll_mk0), rfl, bel.frame _, fun h => by cases h⟩

theorem c9 : (Rows.ctokOneRow.inPlace == Try.prog.inPlace 16) = true := by kernel_rfl
theorem c10 : (Rows.ctokOneRow.unfollowed == Try.prog.unfollowed 16) = true := by kernel_rfl
theorem c11 : (Rows.ctokOneRow.recurses == Try.prog.recurses 16) = true := by kernel_rfl
theorem c12 : (Rows.ctokOneRow.named == Try.prog.varsNamed 16) = true := by kernel_rfl
theorem closed : joinedFacts Try.prog 16 Try.f16 Rows.ctokOneSpec Rows.ctokOneRow = true :=
  jmk (by kernel_rfl) laidOut fMaps (by kernel_rfl) (by kernel_rfl) (by kernel_rfl) (by kernel_rfl) (by kernel_rfl) (by kernel_rfl) c9 c10 c11 c12 (by kernel_rfl) (by kernel_rfl) (by kernel_rfl) (by kernel_rfl) (by kernel_rfl) (by kernel_rfl) (by kernel_rfl) (by kernel_rfl) (by kernel_rfl) (by kernel_rfl) (by kernel_rfl) fHeard fEnter fLifts fMake (by kernel_rfl) (by kernel_rfl) (by kernel_rfl) (by kernel_rfl)
theorem named : Try.prog.funcNamed Rows.ctokOneRow.func = some 16 := by kernel_rfl
theorem inst : Try.f16.isInstance Try.prog Rows.ctokOneRow.origin Rows.ctokOneRow.targs := of_decide_eq_true (by kernel_rfl)
theorem wrap : Try.f16.isWrapper Try.prog Rows.ctokOneRow.wrapper Rows.ctokOneRow.mainSum := by unfold Func.isWrapper; first | (rw [if_pos (by decide +kernel)]; kernel_rfl) | (rw [if_neg (by decide +kernel)]; exact ⟨rfl, rfl⟩)
theorem over : Rows.ctokOneRow.holds Try.pinned (OpenSpec.ofChange Rows.ctokOneSpec) :=
  OpenClaim.holds_of_wide 16 Try.f16 rfl rfl rfl rfl rfl rfl rfl ⟨rfl, rfl, rfl, rfl, rfl⟩ rfl rfl rfl rfl rfl named Try.func16 closed inst wrap
    (fun os started H enc _ => lifted os started H enc)

theorem ctokOne_proved : Rows.CtokOneSaid := over
#print axioms ctokOne_proved
end Go.Proofs.Ytdonomneofdhfaa
