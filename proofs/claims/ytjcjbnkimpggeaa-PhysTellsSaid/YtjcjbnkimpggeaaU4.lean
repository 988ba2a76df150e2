/- PhysTells: its walk. -/
import Derived.Test.YtjcjbnkimpggeaaU3
namespace Go.Proofs.Ytjcjbnkimpggeaa
open Go.GV Go.RowKit

theorem splicesOf_len' {s : ByteArray} : (splicesOf s).length ≤ s.size := by
  unfold splicesOf
  split
  · exact Nat.le_trans (spnsL_len _) (partsV_len s)
  · simp

set_option maxRecDepth 100000 in
theorem physTells_any (s : ByteArray) (w : World) (hs : s.size ≤ 140737488355328) : Calls Try.prog 6 #[.string s] w (PureP w fun v _ => v = .bool true) := by
  refine x_fun tt_ok Try.func6 rfl rfl [] 0 [.v (.string s)] rfl rfl rfl rfl (fun b hb => by cases hb) ?_
  have la := @charsOf_len s
  have ls := @splicesOf_len' s
  refine x_vc tt_ok ?_
  refine xl_callO2 35 (charY.d (charsOf s)) [.int .i64 (checkE s)] rfl rfl rfl rfl fn15 rfl rfl (fun E w F h => chars_any s w (by omega)) ?_
  refine xl_go tt_ok ?_
  refine xl_call _ rfl rfl rfl rfl fn17 rfl rfl (fun E w F _ => refChars_any s w (by omega)) (fun v u1 u2 hu2 hs2 hv => ?_)
  obtain ⟨x, rfl, hx0⟩ := hv
  obtain ⟨A, c, rfl⟩ := hx0.form
  have hx := (hx0.sub hs2).uncut
  refine xl_go tt_ok ?_
  refine xl_call0 (.tuple #[.string (logicalOf s), .int .i64 (checkE s)]) rfl rfl rfl rfl fn16 rfl rfl (fun E w F _ => logical_any s w (by omega)) ?_
  refine xl_go tt_ok ?_
  refine xl_call0 (.tuple #[.string (logicalOf s), .int .i64 (checkE s)]) rfl rfl rfl rfl fn18 rfl rfl (fun E w F _ => refLogical_any s w (by omega)) ?_
  refine xl_go tt_ok ?_
  refine xl_callO2 50 (spanY.d (splicesOf s)) [.int .i64 (checkE s)] rfl rfl rfl rfl fn19 rfl rfl (fun E w F h => splices_any s w (by omega)) ?_
  refine xl_go tt_ok ?_
  refine xl_call _ rfl rfl rfl rfl fn20 rfl rfl (fun E w F _ => refSplices_any s w (by omega)) (fun v u3 u4 hu4 hs4 hv => ?_)
  obtain ⟨y, rfl, hy0⟩ := hv
  obtain ⟨B, d, rfl⟩ := hy0.form
  have hy := (hy0.sub hs4).uncut
  refine xl_go tt_ok ?_
  refine xl_call0 (.int .i64 (checkE s)) rfl rfl rfl rfl fn21 rfl rfl (fun E w F _ => check_any s w (by omega)) ?_
  refine xl_go tt_ok ?_
  refine xl_call0 (.bool true) rfl rfl rfl rfl fn22 rfl rfl (fun E w F hs => sameChars_any (charsOf s) _ _ w (hs.rowAt (k := 0) rfl) ((hx.le hu4).imm hs.imm) (by omega)) ?_
  refine xl_go tt_ok ?_
  refine xl_gcall0 (.bool true) rfl rfl rfl rfl fn23 rfl rfl (fun _ E w F hs => sameSpans_any (splicesOf s) _ _ w (hs.rowAt (k := 1) rfl) (hy.imm hs.imm) (by omega)) ?_
  refine xl_go tt_ok ?_
  refine xl_gcall0 (.int .i64 (checkE s)) rfl rfl rfl rfl fn24 rfl rfl (fun _ E w F hs => refCheck_any s w (by omega)) ?_
  refine xl_go tt_ok ?_
  refine x_iff (by simp) ?_
  refine x_loop (σ := Int × List Chr) (fun (i, L) => ⟨[(16, .v (.int .i64 i)), (13, .v (.slice B (spanY.d (splicesOf s)).n d)), (11, .r 1), (5, .v (.slice A (charY.d (charsOf s)).n c)), (3, .r 0), (0, .v (.string s))], [], [(0, .row 35 (charY.d L)), (1, .row 50 (spanY.d (splicesOf s)))], 2⟩)
    (fun (i, L) _ => 0 ≤ i ∧ i ≤ L.length ∧ L.length = (charsOf s).length) (fun (i, L) => (L.length - i).toNat) (fun (_, _) => Nat.le_refl _) (0, charsOf s) [] (.of rfl rfl rfl rfl rfl rfl) ⟨by omega, by omega, rfl⟩ ?_
  rintro ⟨i, L⟩ u5 hu5 ⟨g1, g2, g3⟩
  refine x_vc tt_ok ?_
  refine x_if (fun h => ?_) (fun h => ?_)
  · have h2 : i < L.length := of_decide_eq_true h
    repeat (refine And.intro ?_ ?_; first | omega | (simp only [Lay.d_n]; omega) | (simp only [decide_eq_true_eq, decide_eq_false_iff_not, Bool.or_eq_false_iff, Bool.and_eq_true, Bool.or_eq_true, Bool.and_eq_false_iff, Bool.not_eq_true', Bool.not_eq_false']; omega))
    refine xl_set tt_ok charY L ⟨113, -7, 0⟩ rfl rfl rfl rfl rfl rfl rfl g1 h2 rfl rfl (by decide) rfl ?_
    refine xl_go tt_ok ?_
    repeat (refine And.intro ?_ ?_; first | omega | (simp only [Lay.d_n]; omega) | (simp only [decide_eq_true_eq, decide_eq_false_iff_not, Bool.or_eq_false_iff, Bool.and_eq_true, Bool.or_eq_true, Bool.and_eq_false_iff, Bool.not_eq_true', Bool.not_eq_false']; omega))
    exact again (i + 1, L.set i.toNat ⟨113, -7, 0⟩) [] (.of rfl rfl rfl rfl rfl rfl) ⟨by omega, by simp; omega, by simpa using g3⟩ (by simp only [List.length_set]; omega)
  · refine x_loop (σ := Int × List Spn) (fun (i, M) => ⟨[(17, .v (.int .i64 i)), (13, .v (.slice B (spanY.d (splicesOf s)).n d)), (11, .r 1), (5, .v (.slice A (charY.d (charsOf s)).n c)), (0, .v (.string s))], [], [(1, .row 50 (spanY.d M))], 2⟩)
      (fun (i, M) _ => 0 ≤ i ∧ i ≤ M.length ∧ M.length = (splicesOf s).length) (fun (i, M) => (M.length - i).toNat) (fun (_, _) => Nat.le_refl _) (0, splicesOf s) [] (.of rfl rfl rfl rfl rfl rfl) ⟨by omega, by omega, rfl⟩ ?_
    rintro ⟨j, M⟩ u6 hu6 ⟨k1, k2, k3⟩
    refine x_vc tt_ok ?_
    refine x_if (fun h => ?_) (fun h => ?_)
    · have h2 : j < M.length := of_decide_eq_true h
      repeat (refine And.intro ?_ ?_; first | omega | (simp only [Lay.d_n]; omega) | (simp only [decide_eq_true_eq, decide_eq_false_iff_not, Bool.or_eq_false_iff, Bool.and_eq_true, Bool.or_eq_true, Bool.and_eq_false_iff, Bool.not_eq_true', Bool.not_eq_false']; omega))
      refine xl_set tt_ok spanY M ⟨-7, 0⟩ rfl rfl rfl rfl rfl rfl rfl k1 h2 rfl rfl (by decide) rfl ?_
      refine xl_go tt_ok ?_
      repeat (refine And.intro ?_ ?_; first | omega | (simp only [Lay.d_n]; omega) | (simp only [decide_eq_true_eq, decide_eq_false_iff_not, Bool.or_eq_false_iff, Bool.and_eq_true, Bool.or_eq_true, Bool.and_eq_false_iff, Bool.not_eq_true', Bool.not_eq_false']; omega))
      exact again (j + 1, M.set j.toNat ⟨-7, 0⟩) [] (.of rfl rfl rfl rfl rfl rfl) ⟨by omega, by simp; omega, by simpa using k3⟩ (by simp only [List.length_set]; omega)
    · refine xl_callO2 35 (charY.d (charsOf s)) [.int .i64 (checkE s)] rfl rfl rfl rfl fn15 rfl rfl (fun E w F h => chars_any s w (by omega)) ?_
      refine xl_go tt_ok ?_
      refine xl_callO2 50 (spanY.d (splicesOf s)) [.int .i64 (checkE s)] rfl rfl rfl rfl fn19 rfl rfl (fun E w F h => splices_any s w (by omega)) ?_
      refine xl_go tt_ok ?_
      refine xl_call0 (.bool true) rfl rfl rfl rfl fn22 rfl rfl (fun E w F hs => sameChars_any (charsOf s) _ _ w (hs.rowAt (k := 2) rfl) ((((hx.le hu4).le hu5).le hu6).imm hs.imm) (by omega)) ?_
      refine xl_go tt_ok ?_
      refine xl_gcall0 (.bool true) rfl rfl rfl rfl fn23 rfl rfl (fun _ E w F hs => sameSpans_any (splicesOf s) _ _ w (hs.rowAt (k := 3) rfl) (((hy.le hu5).le hu6).imm hs.imm) (by omega)) ?_
      refine xl_go tt_ok ?_
      exact fin1 (fun _ _ => rfl)
end Go.Proofs.Ytjcjbnkimpggeaa
