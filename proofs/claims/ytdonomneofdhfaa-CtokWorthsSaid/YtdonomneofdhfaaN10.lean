/- A floating constant: the document's answer, second part. -/
import Derived.Test.YtdonomneofdhfaaN9
namespace Go.Proofs.Ytdonomneofdhfaa
open Go.GV Go.RowKit

set_option maxRecDepth 100000 in
theorem floatR_any (s : ByteArray) (w : World) (hs : s.size ≤ 140737488355328) :
    Calls Try.prog 68 #[.string s] w (PureP w fun v _ => v = .bool (floatB s)) := by
  have hat := atT_range s
  have hn1 := n1F_le s
  obtain ⟨hi1, hi0, hn2⟩ := iF_le s
  have hb16 : baseH s ≤ 16 := by unfold baseH; split <;> omega
  obtain ⟨N, hN⟩ : ∃ N, N = floatB s := ⟨_, rfl⟩
  rw [← hN]
  refine x_fun tt_ok Try.func68 rfl rfl [] 0 [.v (.string s)] rfl rfl rfl rfl (fun b hb => by cases hb) ?_
  iterate 3
    refine x_seq ?_
    refine x_vc tt_ok ?_
  refine x_cut (σ := Unit) (fun _ => ⟨[(4, .v (.int .i64 (atT s))), (3, .v (.int .i64 (baseH s))), (0, .v (.string s))], [], [], 0⟩) (fun _ _ => True) (fun _ => Nat.le_refl _) ?_ ?_
  · refine x_vc tt_ok ?_
    refine xl_call0 (.bool (hexT s)) rfl rfl rfl rfl fn114 rfl rfl (fun E w F _ => hex_any s w (by omega)) ?_
    refine xl_go tt_ok ?_
    refine x_if (fun h => ?_) (fun h => ?_)
    · have h : hexT s = true := h
      have e1 : baseH s = 16 := by unfold baseH; rw [if_pos h]
      have e3 : atT s = 2 := by unfold atT; rw [if_pos h]
      rw [e1, e3]
      exact meet () [] (.of rfl rfl rfl rfl rfl rfl) trivial
    · have h : hexT s = false := h
      have hn : ¬ hexT s = true := by rw [h]; simp
      have e1 : baseH s = 10 := by unfold baseH; rw [if_neg hn]
      have e3 : atT s = 0 := by unfold atT; rw [if_neg hn]
      rw [e1, e3]
      exact meet () [] (.of rfl rfl rfl rfl rfl rfl) trivial
  · rintro _ u1 hu1 _
    refine x_seq ?_
    refine x_vc tt_ok ?_
    refine xl_call0 (.int .i64 (n1F s)) rfl rfl rfl rfl fn115 rfl rfl (fun E w F _ => runR_any s (atT s) (baseH s) w (by omega) hb16 (by omega)) ?_
    refine xl_go tt_ok ?_
    refine x_seq ?_
    refine x_vc tt_ok ?_
    repeat (refine And.intro ?_ ?_; first | omega | (simp only [Lay.d_n]; omega) | (simp only [decide_eq_true_eq, decide_eq_false_iff_not, Bool.or_eq_false_iff, Bool.and_eq_true, Bool.or_eq_true, Bool.and_eq_false_iff, Bool.not_eq_true', Bool.not_eq_false', Lay.d_n]; omega) | (simp only [decide_eq_true_eq, decide_eq_false_iff_not, Bool.or_eq_false_iff, Bool.and_eq_true, Bool.or_eq_true, Bool.and_eq_false_iff, Bool.not_eq_true', Bool.not_eq_false']; omega))
    refine x_seq ?_
    refine x_vc tt_ok ?_
    repeat (refine And.intro ?_ ?_; first | omega | (simp only [Lay.d_n]; omega) | (simp only [decide_eq_true_eq, decide_eq_false_iff_not, Bool.or_eq_false_iff, Bool.and_eq_true, Bool.or_eq_true, Bool.and_eq_false_iff, Bool.not_eq_true', Bool.not_eq_false', Lay.d_n]; omega) | (simp only [decide_eq_true_eq, decide_eq_false_iff_not, Bool.or_eq_false_iff, Bool.and_eq_true, Bool.or_eq_true, Bool.and_eq_false_iff, Bool.not_eq_true', Bool.not_eq_false']; omega))
    refine x_cut (σ := Int × Int) (fun p => ⟨[(6, .v (.bool (ptF s))), (5, .v (.int .i64 p.2)), (4, .v (.int .i64 p.1)), (3, .v (.int .i64 (baseH s))), (0, .v (.string s))], [], [], 0⟩)
      (fun p _ => p.1 = iF s ∧ p.2 = n1F s + n2F s) (fun _ => Nat.le_refl _) ?_ ?_
    · refine x_vc tt_ok ?_
      refine x_if (fun h => ?_) (fun h => ?_)
      · have h : ptF s = true := h
        have e1 : n2F s = runB (baseH s) (tl s (atT s + n1F s + 1)) := by unfold n2F; rw [if_pos h]
        have e2 : iF s = atT s + n1F s + 1 + n2F s := by unfold iF; rw [if_pos h]
        have h' := h
        unfold ptF at h'
        simp only [Bool.and_eq_true, decide_eq_true_eq] at h'
        repeat (refine And.intro ?_ ?_; first | omega | (simp only [Lay.d_n]; omega) | (simp only [decide_eq_true_eq, decide_eq_false_iff_not, Bool.or_eq_false_iff, Bool.and_eq_true, Bool.or_eq_true, Bool.and_eq_false_iff, Bool.not_eq_true', Bool.not_eq_false', Lay.d_n]; omega) | (simp only [decide_eq_true_eq, decide_eq_false_iff_not, Bool.or_eq_false_iff, Bool.and_eq_true, Bool.or_eq_true, Bool.and_eq_false_iff, Bool.not_eq_true', Bool.not_eq_false']; omega))
        refine xl_call0 (.int .i64 (n2F s)) rfl rfl rfl rfl fn115 rfl rfl (fun E w F _ => by
          rw [e1]; exact runR_any s (atT s + n1F s + 1) (baseH s) w (by omega) hb16 (by omega)) ?_
        refine xl_go tt_ok ?_
        repeat (refine And.intro ?_ ?_; first | omega | (simp only [Lay.d_n]; omega) | (simp only [decide_eq_true_eq, decide_eq_false_iff_not, Bool.or_eq_false_iff, Bool.and_eq_true, Bool.or_eq_true, Bool.and_eq_false_iff, Bool.not_eq_true', Bool.not_eq_false', Lay.d_n]; omega) | (simp only [decide_eq_true_eq, decide_eq_false_iff_not, Bool.or_eq_false_iff, Bool.and_eq_true, Bool.or_eq_true, Bool.and_eq_false_iff, Bool.not_eq_true', Bool.not_eq_false']; omega))
        exact meet (atT s + n1F s + 1 + n2F s, (n1F s : Int) + n2F s) [] (.of rfl rfl rfl rfl rfl rfl) ⟨e2.symm, rfl⟩
      · have h : ptF s = false := h
        have e1 : n2F s = 0 := by unfold n2F; rw [if_neg (by rw [h]; simp)]
        have e2 : iF s = atT s + n1F s := by unfold iF; rw [if_neg (by rw [h]; simp)]
        exact meet (atT s + n1F s, (n1F s : Int)) [] (.of rfl rfl rfl rfl rfl rfl) ⟨by rw [e2], by rw [e1]; simp⟩
    · rintro ⟨r, n⟩ u2 hu2 ⟨hr, hn⟩
      replace hr : r = iF s := hr
      replace hn : n = n1F s + n2F s := hn
      subst hr hn
      refine x_vc tt_ok ?_
      refine x_if (fun h => ?_) (fun h => ?_)
      · have h : (n1F s : Int) + n2F s = 0 := of_decide_eq_true h
        have e : N = false := by rw [hN]; unfold floatB; rw [if_pos (by omega)]
        rw [e]
        exact fin1 (fun _ _ => rfl)
      · have h : ¬ (n1F s : Int) + n2F s = 0 := of_decide_eq_false h
        have e : N = endsL (markH s) (if hexT s = true then false else ptF s) (tl s (iF s)) := by rw [hN]; unfold floatB; rw [if_neg (by omega)]
        refine x_if (fun h => ?_) (fun h => ?_)
        · have h : baseH s = 16 := of_decide_eq_true h
          have hx : hexT s = true := by
            unfold baseH at h
            split at h
            · assumption
            · cases h
          have e3 : markH s = 112 := by unfold markH; rw [if_pos hx]
          rw [if_pos hx, e3] at e
          refine xl_call0 (.bool N) rfl rfl rfl rfl fn126 rfl rfl (fun E w F _ => by
            rw [e]; exact ends_any s (iF s) 112 80 false rfl hi0 hi1 w hs) ?_
          refine xl_go tt_ok ?_
          exact fin1 (fun _ _ => rfl)
        · have h : ¬ baseH s = 16 := of_decide_eq_false h
          have hx : ¬ hexT s = true := fun hx => h (by unfold baseH; rw [if_pos hx])
          have e3 : markH s = 101 := by unfold markH; rw [if_neg hx]
          rw [if_neg hx, e3] at e
          refine xl_call0 (.bool N) rfl rfl rfl rfl fn126 rfl rfl (fun E w F _ => by
            rw [e]; exact ends_any s (iF s) 101 69 (ptF s) rfl hi0 hi1 w hs) ?_
          refine xl_go tt_ok ?_
          exact fin1 (fun _ _ => rfl)
end Go.Proofs.Ytdonomneofdhfaa
