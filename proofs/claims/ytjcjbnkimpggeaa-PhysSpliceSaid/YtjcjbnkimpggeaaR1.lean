/- PhysSplice: its walk. -/
import Derived.Test.YtjcjbnkimpggeaaQ1
namespace Go.Proofs.Ytjcjbnkimpggeaa
open Go.GV Go.RowKit

def spliced (s : ByteArray) (q : Int) : ByteArray := sub s 0 q ++ ⟨#[92, 10]⟩ ++ sub s q s.size

set_option maxRecDepth 100000 in
theorem physSplice_any (s : ByteArray) (k : Int) (w : World) (hs : s.size ≤ 140737488355328)
    (law : checkE s = 0 → 0 ≤ k → k < (charsOf s).length → s.size + 2 ≤ 65536 → (spliced s ((charsOf s).getD k.toNat charY.dft).pos).size ≤ 65536 ∧ checkE (spliced s ((charsOf s).getD k.toNat charY.dft).pos) = 0 ∧ logicalOf (spliced s ((charsOf s).getD k.toNat charY.dft).pos) = logicalOf s) :
    Calls Try.prog 5 #[.string s, .int .i64 k] w (PureP w fun v _ => v = .bool true) := by
  refine x_fun tt_ok Try.func5 rfl rfl [] 0 [.v (.string s), .v (.int .i64 k)] rfl rfl rfl rfl (fun b hb => by cases hb) ?_
  refine x_vc tt_ok ?_
  refine xl_call0 (.bool true) rfl rfl rfl rfl fn14 rfl rfl (fun E w F _ => alive_any w) ?_
  refine xl_go tt_ok ?_
  refine xl_callO2 35 (charY.d (charsOf s)) [.int .i64 (checkE s)] rfl rfl rfl rfl fn15 rfl rfl (fun E w F h => chars_any s w (by omega)) ?_
  refine xl_go tt_ok ?_
  have la := @charsOf_len s
  repeat (refine And.intro ?_ ?_; first | omega | (simp only [Lay.d_n]; omega) | (simp only [decide_eq_true_eq, decide_eq_false_iff_not, Bool.or_eq_false_iff, Bool.and_eq_true, Bool.or_eq_true, Bool.and_eq_false_iff, Bool.not_eq_true', Bool.not_eq_false']; omega))
  refine x_if (fun h => ?_) (fun h => ?_)
  · exact fin1 (fun _ _ => rfl)
  · have h : (decide (checkE s ≠ 0) || decide (k < 0) || decide (((charY.d (charsOf s)).n : Int) ≤ k) || decide ((65536 : Int) < s.size + 2)) = false := h
    rw [Bool.or_eq_false_iff, Bool.or_eq_false_iff, Bool.or_eq_false_iff, decide_eq_false_iff_not, decide_eq_false_iff_not, decide_eq_false_iff_not, decide_eq_false_iff_not, Classical.not_not] at h
    obtain ⟨⟨⟨es, h1⟩, h2⟩, h3⟩ := h
    rw [Lay.d_n] at h2
    obtain ⟨l0, l1, l2⟩ := law es (by omega) (by omega) (by omega)
    have hq := @charsOf_pos s k.toNat
    refine xl_call0 (.tuple #[.string (logicalOf s), .int .i64 (checkE s)]) rfl rfl rfl rfl fn16 rfl rfl (fun E w F _ => logical_any s w (by omega)) ?_
    refine xl_go tt_ok ?_
    refine x_draw mix (by kernel_rfl) (xd_go tt_ok ?_)
    have z1 : ((sub s 0 ((charsOf s).getD k.toNat charY.dft).pos).size : Int) ≤ s.size := by
      unfold sub; rw [ByteArray.size_extract]; omega
    have z2 : ((sub s ((charsOf s).getD k.toNat charY.dft).pos s.size).size : Int) ≤ s.size := by
      unfold sub; rw [ByteArray.size_extract]; omega
    have z3 : (⟨#[92, 10]⟩ : ByteArray).size = 2 := rfl
    have z4 := @ByteArray.size_append (sub s 0 ((charsOf s).getD k.toNat charY.dft).pos) ⟨#[92, 10]⟩
    repeat (refine And.intro ?_ ?_; first | omega | (simp only [Lay.d_n]; omega) | (simp only [Lay.d] at *; omega) | (simp only [decide_eq_true_eq, decide_eq_false_iff_not, Bool.or_eq_false_iff, Bool.and_eq_true, Bool.or_eq_true, Bool.and_eq_false_iff, Bool.not_eq_true', Bool.not_eq_false']; omega))
    refine xd_call0 (.tuple #[.string (logicalOf (spliced s ((charsOf s).getD k.toNat charY.dft).pos)), .int .i64 (checkE (spliced s ((charsOf s).getD k.toNat charY.dft).pos))]) rfl rfl rfl rfl fn16 rfl rfl
      (fun _ E w F _ => logical_any (spliced s ((charsOf s).getD k.toNat charY.dft).pos) w (by omega)) ?_
    refine xd_go tt_ok ?_
    refine fin1 (fun _ _ => ?_)
    show Value.bool _ = _
    rw [l1, l2, es]
    simp
end Go.Proofs.Ytjcjbnkimpggeaa
