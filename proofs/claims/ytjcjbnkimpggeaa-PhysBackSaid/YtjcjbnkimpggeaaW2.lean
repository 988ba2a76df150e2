/- PhysBack: its walk. -/
import Derived.Test.YtjcjbnkimpggeaaP6
import Derived.Test.YtjcjbnkimpggeaaW1
namespace Go.Proofs.Ytjcjbnkimpggeaa
open Go.GV Go.RowKit

theorem spellS_size (l : ByteArray) : (spellS l).size ≤ 65536 := by
  unfold spellS
  split
  · show 0 ≤ _; omega
  · split
    · show 0 ≤ _; omega
    · split
      · show 0 ≤ _; omega
      · rename_i h
        show ((spellUp l l.size).toArray).size ≤ _
        rw [List.size_toArray]; omega

theorem splicesOf_len2 {s : ByteArray} : (splicesOf s).length ≤ s.size := by
  unfold splicesOf
  split
  · exact Nat.le_trans (spnsL_len _) (partsV_len s)
  · simp

set_option maxRecDepth 100000 in
theorem physBack_any (l : ByteArray) (w : World) (hs : l.size ≤ 140737488355328) : Calls Try.prog 8 #[.string l] w (PureP w fun v _ => v = .bool true) := by
  refine x_fun tt_ok Try.func8 rfl rfl [] 0 [.v (.string l)] rfl rfl rfl rfl (fun b hb => by cases hb) ?_
  have hz := spellS_size l
  have hz2 := @splicesOf_len2 (spellS l)
  refine x_vc tt_ok ?_
  refine xl_call0 (.bool true) rfl rfl rfl rfl fn14 rfl rfl (fun E w F _ => alive_any w) ?_
  refine xl_go tt_ok ?_
  refine xl_call0 (.tuple #[.string (spellS l), .int .i64 (spellE l)]) rfl rfl rfl rfl fn10 rfl rfl (fun E w F h => spell_any l w (by omega)) ?_
  refine xl_go tt_ok ?_
  refine x_if (fun h => ?_) (fun h => ?_)
  · have h : (decide (spellE l ≠ 0) || !true) = true := h
    have e : spellE l ≠ 0 := by simpa using h
    refine fin1 (fun _ _ => ?_)
    rw [spell_none l e]
    show Value.bool _ = _
    simp
  · have h : (decide (spellE l ≠ 0) || !true) = false := h
    have e : spellE l = 0 := by simpa using h
    obtain ⟨p1, p2, p3⟩ := spell_law l e
    refine xl_call0 (.tuple #[.string (logicalOf (spellS l)), .int .i64 (checkE (spellS l))]) rfl rfl rfl rfl fn16 rfl rfl (fun E w F _ => logical_any (spellS l) w (by omega)) ?_
    refine xl_go tt_ok ?_
    refine xl_callO2 50 (spanY.d (splicesOf (spellS l))) [.int .i64 (checkE (spellS l))] rfl rfl rfl rfl fn19 rfl rfl (fun E w F h => splices_any (spellS l) w (by omega)) ?_
    refine xl_go tt_ok ?_
    repeat (refine And.intro ?_ ?_; first | omega | (simp only [Lay.d_n]; omega) | (simp only [decide_eq_true_eq, decide_eq_false_iff_not, Bool.or_eq_false_iff, Bool.and_eq_true, Bool.or_eq_true, Bool.and_eq_false_iff, Bool.not_eq_true', Bool.not_eq_false']; omega) | (simp only [decide_eq_true_eq, decide_eq_false_iff_not, Bool.or_eq_false_iff, Bool.and_eq_true, Bool.or_eq_true, Bool.and_eq_false_iff, Bool.not_eq_true', Bool.not_eq_false']; simp only [Lay.d_n]; omega))
    refine fin1 (fun _ _ => ?_)
    rw [p1, p2]
    show Value.bool _ = _
    have : ((spellS l).size : Int) = (l.size : Int) + 2 * ((spanY.d (splicesOf (spellS l))).n : Int) := p3
    rw [this]
    simp
end Go.Proofs.Ytjcjbnkimpggeaa
