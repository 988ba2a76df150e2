/- The statement of LinesWhole, out of its walk: for any input the law answers true, and the input stays. -/
import Derived.Test.YtdonomneofdhfaaV2
import Derived.Test.YtdonomneofdhfaaO1
import Derived.Test.YtdonomneofdhfaaF1
import Derived.Test.YtdonomneofdhfaaRows
import Derived.ProofKit
import Derived.OpenShut
import Derived.ShutString
import Derived.ChangeOld
import Derived.Below
import Derived.SizedLaws
import Derived.HandedShaped
namespace Go.Proofs.Ytdonomneofdhfaa
open Go.ChangeShapes Go.WideShapes Go.ChangeAt Go.RowKit Go.GV

/-! ### The row -/
set_option maxRecDepth 100000 in
theorem lifted (os : Os) (started : os.Started) (H : Type) (enc : TypeId × Value → H) :
    ReturnsInHanded {} Try.checked os 10 .any (Rows.linesWholeSpec.pre6 enc Try.prog Try.f10 Rows.linesWholeRow.domain false) (Rows.linesWholeSpec.post enc Try.prog Try.f10 false true false false) := by
  refine returnsInHanded_of_change_shaped (C := Try.checked) own started (by kernel_rfl) Try.func10
    (ChangeSpec.witness6 (enc := enc) (C := Try.checked) false ⟨#[], #[.slice none 0 0], []⟩ 8 (by kernel_rfl) (by kernel_rfl) (by kernel_rfl) (by kernel_rfl)) ?_
  intro W base args ds gs before hval0 hW hcnd hz hsh _
  have hval : ∀ (j : Nat) t v, Try.f10.params[j]? = some t → args[j]? = some v → Value.okWide Try.prog W .any base t v := hval0
  have hW' := hW
  obtain ⟨p, q, hA0, hV, rfl, hfz, hnd⟩ := hW
  have hA : DataW.TrodAll enc Try.prog W 0 (fun _ => true) true Try.f10.params.toList args.toList ds p := hA0
  rw [Try.params10] at hA hval hz
  obtain ⟨v0, vs0, d0, ds0, p0, q0, hargs, rfl, rfl, h0, r0⟩ := trodAll_cons hA
  obtain ⟨rfl, rfl, rfl⟩ := trodAll_nil r0
  obtain rfl : args = #[v0] := by cases args; simp_all
  obtain ⟨rfl, rfl⟩ := trodVars_none hV
  obtain ⟨a0, len0, cap0, rfl⟩ := okWide_slice Try.underlying22 (hval 0 22 v0 rfl rfl)
  have lt0 : ∀ x ∈ p0, x.block < W.heap.size := by obtain ⟨m, hm⟩ := h0; exact DataW.trod_lt m _ _ _ hm
  have hg : Glob (im W) := Try.laysM143.s1_3 W hsh
  obtain ⟨A', n', c', e', o1, o2⟩ := open_toksZ (TrZ.of (j := 0) hz rfl rfl h0)
  have o3 : len0 * Try.prog.bytesOf 31 ≤ 140737488351232 := (TrZ.of (j := 0) hz rfl rfl h0).bytes Try.underlying22
  rw [show Try.prog.bytesOf 31 = 48 by kernel_rfl] at o3
  have key : Calls Try.prog 10 #[.slice a0 len0 cap0] W (PureP W fun v _ => v = .bool true) := by
    have h := linesWhole_any (toksAt (im W) (.slice a0 len0 cap0)) (.slice a0 len0 cap0) W
    rw [show (toksAt (im W) (.slice a0 len0 cap0)).length = len0 from toksAt_length _ _] at h
    exact h o1 o3 hg
  clear hA0 hval0
  refine (key).mono fun e W' ⟨v, he, bel, hv⟩ => ?_
  subst he hv
  exact ⟨_, rfl, _, _, _, [], _, [], hW', trodAll_mk1 (shut_bool Try.underlying4 _), (trodAll_cons_mk (Below.trod laidOut (by kernel_rfl) (of_decide_eq_true (by kernel_rfl)) h0 bel lt0) trodAll_mk0), rfl, bel.frame _, fun h => by cases h⟩

theorem c9 : (Rows.linesWholeRow.inPlace == Try.prog.inPlace 10) = true := by kernel_rfl
theorem c10 : (Rows.linesWholeRow.unfollowed == Try.prog.unfollowed 10) = true := by kernel_rfl
theorem c11 : (Rows.linesWholeRow.recurses == Try.prog.recurses 10) = true := by kernel_rfl
theorem c12 : (Rows.linesWholeRow.named == Try.prog.varsNamed 10) = true := by kernel_rfl
theorem closed : joinedFacts Try.prog 10 Try.f10 Rows.linesWholeSpec Rows.linesWholeRow = true :=
  jmk (by kernel_rfl) laidOut fMaps (by kernel_rfl) (by kernel_rfl) (by kernel_rfl) (by kernel_rfl) (by kernel_rfl) (by kernel_rfl) c9 c10 c11 c12 (by kernel_rfl) (by kernel_rfl) (by kernel_rfl) (by kernel_rfl) (by kernel_rfl) (by kernel_rfl) (by kernel_rfl) (by kernel_rfl) (by kernel_rfl) (by kernel_rfl) (by kernel_rfl) fHeard fEnter fLifts fMake (by kernel_rfl) (by kernel_rfl) (by kernel_rfl) (by kernel_rfl)
theorem named : Try.prog.funcNamed Rows.linesWholeRow.func = some 10 := by kernel_rfl
theorem inst : Try.f10.isInstance Try.prog Rows.linesWholeRow.origin Rows.linesWholeRow.targs := of_decide_eq_true (by kernel_rfl)
theorem wrap : Try.f10.isWrapper Try.prog Rows.linesWholeRow.wrapper Rows.linesWholeRow.mainSum := by unfold Func.isWrapper; first | (rw [if_pos (by decide +kernel)]; kernel_rfl) | (rw [if_neg (by decide +kernel)]; exact ⟨rfl, rfl⟩)
theorem over : Rows.linesWholeRow.holds Try.pinned (OpenSpec.ofChange Rows.linesWholeSpec) :=
  OpenClaim.holds_of_wide 10 Try.f10 rfl rfl rfl rfl rfl rfl rfl ⟨rfl, rfl, rfl, rfl, rfl⟩ rfl rfl rfl rfl rfl named Try.func10 closed inst wrap
    (fun os started H enc _ => lifted os started H enc)

theorem linesWhole_proved : Rows.LinesWholeSaid := over
#print axioms linesWhole_proved
end Go.Proofs.Ytdonomneofdhfaa
