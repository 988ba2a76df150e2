/- ScanCovers: its walk. -/
import Derived.Test.YtdonomneofdhfaaT5
namespace Go.Proofs.Ytdonomneofdhfaa
open Go.GV Go.RowKit

set_option maxRecDepth 100000 in
theorem spliced_any (s : ByteArray) (h : ∀ i : Int, 0 ≤ i → i < s.size → gapB (bt s i) = true) (hz : s.size ≤ 140737488355328) (w : World) : Calls Try.prog 42 #[.string s] w (PureP w fun v _ => v = .bool true) := by
  refine x_fun tt_ok Try.func42 rfl rfl [] 0 [.v (.string s)] rfl rfl rfl rfl (fun b hb => by cases hb) ?_
  refine x_vc tt_ok ?_
  refine x_loop (σ := Int) (fun k => ⟨[(3, .v (.int .i64 k)), (0, .v (.string s))], [], [], 0⟩)
    (fun k _ => 0 ≤ k ∧ k ≤ s.size) (fun k => (s.size - k).toNat) (fun _ => Nat.le_refl _) 0 [] (.of rfl rfl rfl rfl rfl rfl) ⟨by omega, by omega⟩ ?_
  rintro k u hu ⟨g1, g2⟩
  refine x_vc tt_ok ?_
  refine x_if (fun h2 => ?_) (fun h2 => ?_)
  · have h2 : k < s.size := of_decide_eq_true h2
    have hg := h k g1 h2
    repeat (refine And.intro ?_ ?_; first | omega | (simp only [Lay.d_n]; omega) | (simp only [decide_eq_true_eq, decide_eq_false_iff_not, Bool.or_eq_false_iff, Bool.and_eq_true, Bool.or_eq_true, Bool.and_eq_false_iff, Bool.not_eq_true', Bool.not_eq_false', Lay.d_n]; omega) | (simp only [decide_eq_true_eq, decide_eq_false_iff_not, Bool.or_eq_false_iff, Bool.and_eq_true, Bool.or_eq_true, Bool.and_eq_false_iff, Bool.not_eq_true', Bool.not_eq_false']; omega))
    refine x_iff ?_ ?_
    · show (decide (bt s k ≠ 32) && decide (bt s k ≠ 9) && decide (bt s k ≠ 11) && decide (bt s k ≠ 12) && decide (bt s k ≠ 92) && decide (bt s k ≠ 10) && decide (bt s k ≠ 63) && decide (bt s k ≠ 47)) = false
      unfold gapB at hg
      simp only [Bool.or_eq_true, decide_eq_true_eq] at hg
      rcases hg with ((((((hg | hg) | hg) | hg) | hg) | hg) | hg) | hg <;> simp [hg]
    · repeat (refine And.intro ?_ ?_; first | omega | (simp only [Lay.d_n]; omega) | (simp only [decide_eq_true_eq, decide_eq_false_iff_not, Bool.or_eq_false_iff, Bool.and_eq_true, Bool.or_eq_true, Bool.and_eq_false_iff, Bool.not_eq_true', Bool.not_eq_false', Lay.d_n]; omega) | (simp only [decide_eq_true_eq, decide_eq_false_iff_not, Bool.or_eq_false_iff, Bool.and_eq_true, Bool.or_eq_true, Bool.and_eq_false_iff, Bool.not_eq_true', Bool.not_eq_false']; omega))
      exact again (k + 1) [] (.of rfl rfl rfl rfl rfl rfl) ⟨by omega, by omega⟩ (by omega)
  · exact fin1 (fun _ _ => rfl)

theorem bt_sub {s : ByteArray} {a b i : Int} (h0 : 0 ≤ a) (h1 : a ≤ b) (h2 : b ≤ s.size) (h3 : 0 ≤ i) (h4 : i < b - a) : bt (sub s a b) i = bt s (a + i) := by
  have hz : ((sub s a b).size : Int) = b - a := sub_size h0 h1 h2
  have e1 := tl_get (s := sub s a b) (i := 0) (j := i.toNat) (Int.le_refl _) (by omega)
  have e2 := tl_get (s := s) (i := a) (j := i.toNat) h0 (by omega)
  rw [tl_zero, bl_sub s h0 h1 h2, List.getElem?_take, if_pos (by omega), e2] at e1
  have := Option.some.inj e1
  rw [show (0 : Int) + (i.toNat : Int) = i by omega, show (i.toNat : Int) = i by omega] at this
  exact this.symm

theorem gap_sub {s : ByteArray} {a b : Int} (h0 : 0 ≤ a) (h1 : a ≤ b) (h2 : b ≤ s.size) (hg : Gap s a b) : ∀ i : Int, 0 ≤ i → i < (sub s a b).size → gapB (bt (sub s a b) i) = true := by
  intro i h3 h4
  have hz : ((sub s a b).size : Int) = b - a := sub_size h0 h1 h2
  rw [bt_sub h0 h1 h2 h3 (by omega)]
  exact hg _ (by omega) (by omega)

set_option maxRecDepth 100000 in
theorem scanCovers_any (s : ByteArray) (w : World) (hs : s.size ≤ 9223372036854775807) (hg : Glob (im w)) : Calls Try.prog 6 #[.string s] w (PureP w fun v _ => v = .bool true) := by
  refine x_fun tt_ok Try.func6 rfl rfl [] 0 [.v (.string s)] rfl rfl rfl rfl (fun b hb => by cases hb) ?_
  refine x_vc tt_ok ?_
  refine xl_call0 (.bool true) rfl rfl rfl rfl fn40 rfl rfl (fun E w F hs => scanAlive_any w (hg.imm hs.imm)) ?_
  refine xl_go tt_ok ?_
  refine xl_callO2 31 (tokY.d (scanT s)) [.int .i64 (scanE s)] rfl rfl rfl rfl fn41 rfl rfl (fun E w F hs' => scan_any s w hs (hg.imm hs'.imm)) ?_
  refine xl_go tt_ok ?_
  refine x_if (fun h => ?_) (fun h => ?_)
  · have h' : (decide (scanE s ≠ 0) || !true) = true := h
    have he : scanE s ≠ 0 := by simpa using h'
    have hT : scanT s = [] := by rw [scanT, if_neg he]
    rw [hT]
    exact fin1 (fun _ _ => rfl)
  · have h' : (decide (scanE s ≠ 0) || !true) = false := h
    have he : scanE s = 0 := by simpa using h'
    have hlen := scanT_len s
    have hsz := checkE_size (scanE_zero he).1
    have key := scan_cov he
    clear h h'
    generalize scanT s = T at hlen key ⊢
    refine x_loop (σ := Int × Int) (fun (k, a) => ⟨[(7, .v (.int .i64 k)), (6, .v (.int .i64 a)), (4, .r 0), (3, .v (.bool true)), (0, .v (.string s))], [], [(0, .row 31 (tokY.d T))], 1⟩)
      (fun (k, a) _ => 0 ≤ k ∧ k ≤ T.length ∧ 0 ≤ a ∧ a ≤ s.size ∧ Cov s a (T.drop k.toNat)) (fun (k, _) => (T.length - k).toNat) (fun (_, _) => Nat.le_refl 1) (0, 0) [] (.of rfl rfl rfl rfl rfl rfl)
      ⟨by omega, by omega, by omega, by omega, key⟩ ?_
    clear key
    rintro ⟨k, a⟩ u hu ⟨g1, g2, g3, g4, g5⟩
    refine x_vc tt_ok ?_
    refine x_if (fun h3 => ?_) (fun h3 => ?_)
    · have h3 : k < T.length := of_decide_eq_true h3
      have hd : T.drop k.toNat = T.getD k.toNat tok0 :: T.drop (k + 1).toNat := by
        rw [show (k + 1).toNat = k.toNat + 1 by omega, List.getD_eq_getElem?_getD, List.getElem?_eq_getElem (by omega : k.toNat < T.length)]
        exact List.drop_eq_getElem_cons _
      rw [hd] at g5
      obtain ⟨c1, c2, c3, c4, c5, c6, c7⟩ := g5
      refine x_draw mix (by kernel_rfl) (xd_go tt_ok ?_)
      repeat (refine And.intro ?_ ?_; first | omega | (simp only [Lay.d_n]; omega) | (simp only [decide_eq_true_eq, decide_eq_false_iff_not, Bool.or_eq_false_iff, Bool.and_eq_true, Bool.or_eq_true, Bool.and_eq_false_iff, Bool.not_eq_true', Bool.not_eq_false', Lay.d_n]; omega) | (simp only [decide_eq_true_eq, decide_eq_false_iff_not, Bool.or_eq_false_iff, Bool.and_eq_true, Bool.or_eq_true, Bool.and_eq_false_iff, Bool.not_eq_true', Bool.not_eq_false']; omega))
      refine xd_call0 (.bool true) rfl rfl rfl rfl fn42 rfl rfl (fun _ E w F _ => by
        have := sub_le s a (T.getD k.toNat tok0).lo
        exact spliced_any _ (gap_sub g3 c1 (by omega) c4) (by omega) w) ?_
      refine xd_go tt_ok ?_
      repeat (refine And.intro ?_ ?_; first | omega | (simp only [Lay.d_n]; omega) | (simp only [decide_eq_true_eq, decide_eq_false_iff_not, Bool.or_eq_false_iff, Bool.and_eq_true, Bool.or_eq_true, Bool.and_eq_false_iff, Bool.not_eq_true', Bool.not_eq_false', Lay.d_n]; omega) | (simp only [decide_eq_true_eq, decide_eq_false_iff_not, Bool.or_eq_false_iff, Bool.and_eq_true, Bool.or_eq_true, Bool.and_eq_false_iff, Bool.not_eq_true', Bool.not_eq_false']; omega))
      refine x_iff ?_ ?_
      · show ((((decide ((T.getD k.toNat tok0).lo < a) || decide ((T.getD k.toNat tok0).hi ≤ (T.getD k.toNat tok0).lo)) || decide ((s.size : Int) < (T.getD k.toNat tok0).hi)) || !true) || decide ((T.getD k.toNat tok0).hi - (T.getD k.toNat tok0).lo < ((T.getD k.toNat tok0).text.size : Int))) = false
        rw [decide_eq_false (by omega), decide_eq_false (by omega), decide_eq_false (by omega), decide_eq_false (by omega)]; rfl
      refine x_draw mix (by kernel_rfl) (xd_go tt_ok ?_)
      repeat (refine And.intro ?_ ?_; first | omega | (simp only [Lay.d_n]; omega) | (simp only [decide_eq_true_eq, decide_eq_false_iff_not, Bool.or_eq_false_iff, Bool.and_eq_true, Bool.or_eq_true, Bool.and_eq_false_iff, Bool.not_eq_true', Bool.not_eq_false', Lay.d_n]; omega) | (simp only [decide_eq_true_eq, decide_eq_false_iff_not, Bool.or_eq_false_iff, Bool.and_eq_true, Bool.or_eq_true, Bool.and_eq_false_iff, Bool.not_eq_true', Bool.not_eq_false']; omega))
      refine x_iff ?_ ?_
      · show (decide ((T.getD k.toNat tok0).hi - (T.getD k.toNat tok0).lo = ((T.getD k.toNat tok0).text.size : Int)) && decide (sub s (T.getD k.toNat tok0).lo (T.getD k.toNat tok0).hi ≠ (T.getD k.toNat tok0).text)) = false
        by_cases h6 : (T.getD k.toNat tok0).hi - (T.getD k.toNat tok0).lo = ((T.getD k.toNat tok0).text.size : Int)
        · rw [c6 h6]; simp
        · rw [decide_eq_false h6]; rfl
      repeat (refine And.intro ?_ ?_; first | omega | (simp only [Lay.d_n]; omega) | (simp only [decide_eq_true_eq, decide_eq_false_iff_not, Bool.or_eq_false_iff, Bool.and_eq_true, Bool.or_eq_true, Bool.and_eq_false_iff, Bool.not_eq_true', Bool.not_eq_false', Lay.d_n]; omega) | (simp only [decide_eq_true_eq, decide_eq_false_iff_not, Bool.or_eq_false_iff, Bool.and_eq_true, Bool.or_eq_true, Bool.and_eq_false_iff, Bool.not_eq_true', Bool.not_eq_false']; omega))
      exact again (k + 1, (T.getD k.toNat tok0).hi) [] (.of rfl rfl rfl rfl rfl rfl) ⟨by omega, by omega, by omega, by omega, c7⟩ (by simp only; omega)
    · have h3 : ¬ k < (T.length : Int) := of_decide_eq_false h3
      rw [List.drop_eq_nil_of_le (by omega)] at g5
      repeat (refine And.intro ?_ ?_; first | omega | (simp only [Lay.d_n]; omega) | (simp only [decide_eq_true_eq, decide_eq_false_iff_not, Bool.or_eq_false_iff, Bool.and_eq_true, Bool.or_eq_true, Bool.and_eq_false_iff, Bool.not_eq_true', Bool.not_eq_false', Lay.d_n]; omega) | (simp only [decide_eq_true_eq, decide_eq_false_iff_not, Bool.or_eq_false_iff, Bool.and_eq_true, Bool.or_eq_true, Bool.and_eq_false_iff, Bool.not_eq_true', Bool.not_eq_false']; omega))
      refine xl_call0 (.bool true) rfl rfl rfl rfl fn42 rfl rfl (fun E w F _ => by
        have := sub_le s a s.size
        exact spliced_any _ (gap_sub g3 g4 (Int.le_refl _) g5) (by omega) w) ?_
      refine xl_go tt_ok ?_
      exact fin1 (fun _ _ => rfl)
end Go.Proofs.Ytdonomneofdhfaa
