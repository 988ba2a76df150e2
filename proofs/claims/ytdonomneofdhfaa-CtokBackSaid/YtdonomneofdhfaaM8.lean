/- The statement of CtokBack, out of its walk: for any input the law answers true, and the input stays. -/
import Derived.Test.YtdonomneofdhfaaN31
import Derived.Test.YtdonomneofdhfaaF1
import Derived.Test.YtdonomneofdhfaaRows
import Derived.ProofKit
import Derived.OpenShut
import Derived.ShutString
import Derived.ChangeOld
import Derived.Below
import Derived.SizedLaws
import Derived.HandedShaped
namespace Go.Proofs.Ytdonomneofdhfaa
open Go.ChangeShapes Go.WideShapes Go.ChangeAt Go.RowKit Go.GV

/-! ### The row -/
set_option maxRecDepth 100000 in
theorem lifted (os : Os) (started : os.Started) (H : Type) (enc : TypeId × Value → H) :
    ReturnsInHanded {} Try.checked os 15 .any (Rows.ctokBackSpec.pre6 enc Try.prog Try.f15 Rows.ctokBackRow.domain false) (Rows.ctokBackSpec.post enc Try.prog Try.f15 false true false false) := by
  refine returnsInHanded_of_change_shaped (C := Try.checked) own started (by kernel_rfl) Try.func15
    (ChangeSpec.witness6 (enc := enc) (C := Try.checked) false ⟨#[], #[.int .u64 0], []⟩ 8 (by kernel_rfl) (by kernel_rfl) (by kernel_rfl) (by kernel_rfl)) ?_
  intro W base args ds gs before hval0 hW hcnd hz hsh _
  have hval : ∀ (j : Nat) t v, Try.f15.params[j]? = some t → args[j]? = some v → Value.okWide Try.prog W .any base t v := hval0
  have hW' := hW
  obtain ⟨p, q, hA0, hV, rfl, hfz, hnd⟩ := hW
  have hA : DataW.TrodAll enc Try.prog W 0 (fun _ => true) true Try.f15.params.toList args.toList ds p := hA0
  rw [Try.params15] at hA hval hz
  obtain ⟨v0, vs0, d0, ds0, p0, q0, hargs, rfl, rfl, h0, r0⟩ := trodAll_cons hA
  obtain ⟨rfl, rfl, rfl⟩ := trodAll_nil r0
  obtain rfl : args = #[v0] := by cases args; simp_all
  obtain ⟨rfl, rfl⟩ := trodVars_none hV
  obtain ⟨x0, rfl⟩ := okWide_int Try.underlying68 (hval 0 68 v0 rfl rfl)
  have lt0 : ∀ x ∈ p0, x.block < W.heap.size := by obtain ⟨m, hm⟩ := h0; exact DataW.trod_lt m _ _ _ hm
  have hg : Glob (im W) := Try.laysM143.s1_3 W hsh
  have hr0 : 0 ≤ x0 ∧ x0 < 18446744073709551616 := by
    obtain ⟨m, hm⟩ := h0
    obtain ⟨n, e1, _, hw⟩ := DataW.trod_int Try.underlying68 hm
    simp only [Value.cells, List.cons.injEq, and_true, Value.int.injEq, true_and] at e1
    subst e1
    have h9 : IntKind.u64.min ≤ x0 ∧ x0 ≤ IntKind.u64.max := by simpa [Lit.wf] using hw
    have h10 : (0 : Int) ≤ x0 ∧ x0 ≤ 18446744073709551615 := h9
    omega
  obtain ⟨n0, rfl⟩ := Int.eq_ofNat_of_zero_le hr0.1
  clear hA0 hval0
  refine (ctokBack_any n0 (by omega) W hg).mono fun e W' ⟨v, he, bel, hv⟩ => ?_
  subst he hv
  exact ⟨_, rfl, _, _, _, [], _, [], hW', trodAll_mk1 (shut_bool Try.underlying4 _), (trodAll_cons_mk (Below.trod laidOut (by kernel_rfl) (of_decide_eq_true (by kernel_rfl)) h0 bel lt0) trodAll_mk0), rfl, bel.frame _, fun h => by cases h⟩

theorem c9 : (Rows.ctokBackRow.inPlace == Try.prog.inPlace 15) = true := by kernel_rfl
theorem c10 : (Rows.ctokBackRow.unfollowed == Try.prog.unfollowed 15) = true := by kernel_rfl
theorem c11 : (Rows.ctokBackRow.recurses == Try.prog.recurses 15) = true := by kernel_rfl
theorem c12 : (Rows.ctokBackRow.named == Try.prog.varsNamed 15) = true := by kernel_rfl
theorem closed : joinedFacts Try.prog 15 Try.f15 Rows.ctokBackSpec Rows.ctokBackRow = true :=
  jmk (by kernel_rfl) laidOut fMaps (by kernel_rfl) (by kernel_rfl) (by kernel_rfl) (by kernel_rfl) (by kernel_rfl) (by kernel_rfl) c9 c10 c11 c12 (by kernel_rfl) (by kernel_rfl) (by kernel_rfl) (by kernel_rfl) (by kernel_rfl) (by kernel_rfl) (by kernel_rfl) (by kernel_rfl) (by kernel_rfl) (by kernel_rfl) (by kernel_rfl) fHeard fEnter fLifts fMake (by kernel_rfl) (by kernel_rfl) (by kernel_rfl) (by kernel_rfl)
theorem named : Try.prog.funcNamed Rows.ctokBackRow.func = some 15 := by kernel_rfl
theorem inst : Try.f15.isInstance Try.prog Rows.ctokBackRow.origin Rows.ctokBackRow.targs := of_decide_eq_true (by kernel_rfl)
theorem wrap : Try.f15.isWrapper Try.prog Rows.ctokBackRow.wrapper Rows.ctokBackRow.mainSum := by unfold Func.isWrapper; first | (rw [if_pos (by decide +kernel)]; kernel_rfl) | (rw [if_neg (by decide +kernel)]; exact ⟨rfl, rfl⟩)
theorem over : Rows.ctokBackRow.holds Try.pinned (OpenSpec.ofChange Rows.ctokBackSpec) :=
  OpenClaim.holds_of_wide 15 Try.f15 rfl rfl rfl rfl rfl rfl rfl ⟨rfl, rfl, rfl, rfl, rfl⟩ rfl rfl rfl rfl rfl named Try.func15 closed inst wrap
    (fun os started H enc _ => lifted os started H enc)

theorem ctokBack_proved : Rows.CtokBackSaid := over
#print axioms ctokBack_proved
end Go.Proofs.Ytdonomneofdhfaa
