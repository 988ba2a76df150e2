/- The document's tokens: the longest one, headers, comments. -/
import Derived.Test.YtdonomneofdhfaaR3
import Derived.Test.YtdonomneofdhfaaE6
namespace Go.Proofs.Ytdonomneofdhfaa
open Go.GV Go.RowKit

theorem whiteR_any (c : Int) (w : World) : Calls Try.prog 134 #[.int .u8 c] w (PureP w fun v _ => v = .bool (Lx.white c)) := by
  refine x_fun tt_ok Try.func134 rfl rfl [] 0 [.v (.int .u8 c)] rfl rfl rfl rfl (fun b hb => by cases hb) ?_
  refine x_vc tt_ok ?_
  exact fin1 (fun _ _ => rfl)

set_option maxRecDepth 100000 in
theorem longR_any (s : ByteArray) (h1 : 1 ≤ s.size) (hz : s.size ≤ 140737488355000) (w : World) :
    Calls Try.prog 137 #[.string s] w (PureP w fun v _ => v = .tuple #[.int .i64 (Lx.longR (bl s)).1, .int .i64 (Lx.longR (bl s)).2]) := by
  obtain ⟨N, hN⟩ : ∃ N, N = Lx.longR (bl s) := ⟨_, rfl⟩
  rw [← hN]
  refine x_fun tt_ok Try.func137 rfl rfl [] 0 [.v (.string s)] rfl rfl rfl rfl (fun b hb => by cases hb) ?_
  refine x_vc tt_ok ?_
  refine x_loop (σ := Int) (fun k => ⟨[(4, .v (.int .i64 k)), (0, .v (.string s))], [], [], 0⟩)
    (fun k _ => 0 ≤ k ∧ k ≤ s.size ∧ (Lx.run Lx.notNl (bl s) : Int) = k + Lx.run Lx.notNl (tl s k)) (fun k => (s.size - k).toNat) (fun _ => Nat.le_refl _) 0 [] (.of rfl rfl rfl rfl rfl rfl)
    ⟨by omega, by omega, by rw [tl_zero]; omega⟩ ?_
  rintro k u hu ⟨g1, g2, g3⟩
  refine x_vc tt_ok ?_
  repeat (refine And.intro ?_ ?_; first | omega | (simp only [Lay.d_n]; omega) | (simp only [decide_eq_true_eq, decide_eq_false_iff_not, Bool.or_eq_false_iff, Bool.and_eq_true, Bool.or_eq_true, Bool.and_eq_false_iff, Bool.not_eq_true', Bool.not_eq_false', Lay.d_n]; omega) | (simp only [decide_eq_true_eq, decide_eq_false_iff_not, Bool.or_eq_false_iff, Bool.and_eq_true, Bool.or_eq_true, Bool.and_eq_false_iff, Bool.not_eq_true', Bool.not_eq_false']; omega))
  refine x_if (fun h => ?_) (fun h => ?_)
  · obtain ⟨ha, hb⟩ := Bool.and_eq_true_iff.1 h
    have h2 : k < s.size := of_decide_eq_true ha
    have h3 : Lx.notNl (bt s k) = true := by
      unfold Lx.notNl
      have := of_decide_eq_true hb
      simpa using this
    rw [tl_cons g1 h2, run_cons, if_pos h3] at g3
    repeat (refine And.intro ?_ ?_; first | omega | (simp only [Lay.d_n]; omega) | (simp only [decide_eq_true_eq, decide_eq_false_iff_not, Bool.or_eq_false_iff, Bool.and_eq_true, Bool.or_eq_true, Bool.and_eq_false_iff, Bool.not_eq_true', Bool.not_eq_false', Lay.d_n]; omega) | (simp only [decide_eq_true_eq, decide_eq_false_iff_not, Bool.or_eq_false_iff, Bool.and_eq_true, Bool.or_eq_true, Bool.and_eq_false_iff, Bool.not_eq_true', Bool.not_eq_false']; omega))
    exact again (k + 1) [] (.of rfl rfl rfl rfl rfl rfl) ⟨by omega, by omega, by omega⟩ (by omega)
  · have g4 : (Lx.run Lx.notNl (bl s) : Int) = k := by
      rw [g3]
      by_cases h2 : k < s.size
      · have h' : (decide (k < (s.size : Int)) && decide (bt s k ≠ 10)) = false := h
        rw [decide_eq_true h2, Bool.true_and] at h'
        have h3 : Lx.notNl (bt s k) = false := by
          unfold Lx.notNl
          have := Classical.not_not.1 (of_decide_eq_false h')
          simpa using this
        rw [tl_cons g1 h2, run_cons, if_neg (by rw [h3]; simp)]; omega
      · rw [tl_nil (by omega)]; simp [Lx.run]
    clear g3
    refine x_if (fun h0 => ?_) (fun h0 => ?_)
    · have h0 : k = 0 := of_decide_eq_true h0
      have e : N = (9, 1) := by rw [hN, Lx.longR, if_pos (by omega)]
      rw [e]
      exact fin1 (fun _ _ => rfl)
    · have h0 : ¬ k = 0 := of_decide_eq_false h0
      have e : N = if (Lx.downR (Lx.run Lx.notNl (bl s)) (bl s)).1 ≠ 0 then Lx.downR (Lx.run Lx.notNl (bl s)) (bl s) else if Lx.qHead (bl s) = true then (0, 0) else (6, 1) := by
        rw [hN, Lx.longR, if_neg (by omega)]
      obtain ⟨m, hm⟩ : ∃ m : Nat, (m : Int) = k := ⟨k.toNat, by omega⟩
      subst hm
      have hr : Lx.run Lx.notNl (bl s) = m := by omega
      rw [hr] at e
      refine x_loop (σ := Nat) (fun n => ⟨[(4, .v (.int .i64 n)), (0, .v (.string s))], [], [], 0⟩)
        (fun n _ => (n : Int) ≤ s.size ∧ Lx.downR m (bl s) = Lx.downR n (bl s)) (fun n => n) (fun _ => Nat.le_refl _) m [] (.of rfl rfl rfl rfl rfl rfl)
        ⟨g2, rfl⟩ ?_
      rintro n u2 hu2 ⟨q1, q2⟩
      refine x_vc tt_ok ?_
      refine x_if (fun h3 => ?_) (fun h3 => ?_)
      · have h3 : 0 < (n : Int) := of_decide_eq_true h3
        obtain ⟨j, rfl⟩ : ∃ j, n = j + 1 := ⟨n - 1, by omega⟩
        repeat (refine And.intro ?_ ?_; first | omega | (simp only [Lay.d_n]; omega) | (simp only [decide_eq_true_eq, decide_eq_false_iff_not, Bool.or_eq_false_iff, Bool.and_eq_true, Bool.or_eq_true, Bool.and_eq_false_iff, Bool.not_eq_true', Bool.not_eq_false', Lay.d_n]; omega) | (simp only [decide_eq_true_eq, decide_eq_false_iff_not, Bool.or_eq_false_iff, Bool.and_eq_true, Bool.or_eq_true, Bool.and_eq_false_iff, Bool.not_eq_true', Bool.not_eq_false']; omega))
        refine xl_call0 (.int .i64 (Lx.kindR ((bl s).take (j + 1)))) rfl rfl rfl rfl fn154 rfl rfl (fun E w F _ => by
          have := kind_any (sub s 0 ((j + 1 : Nat) : Int)) (by have := sub_le s 0 ((j + 1 : Nat) : Int); omega) w
          rw [bl_sub s (Int.le_refl _) (by omega) q1, tl_zero, Int.sub_zero, Int.toNat_natCast] at this; exact this) ?_
        refine xl_go tt_ok ?_
        rw [Lx.downR] at q2
        refine x_if (fun h4 => ?_) (fun h4 => ?_)
        · have h4 := of_decide_eq_true h4
          rw [if_pos h4] at q2
          rw [q2, if_pos (by simp only; omega)] at e
          rw [e]
          exact fin1 (fun _ _ => rfl)
        · rw [if_neg (of_decide_eq_false h4)] at q2
          repeat (refine And.intro ?_ ?_; first | omega | (simp only [Lay.d_n]; omega) | (simp only [decide_eq_true_eq, decide_eq_false_iff_not, Bool.or_eq_false_iff, Bool.and_eq_true, Bool.or_eq_true, Bool.and_eq_false_iff, Bool.not_eq_true', Bool.not_eq_false', Lay.d_n]; omega) | (simp only [decide_eq_true_eq, decide_eq_false_iff_not, Bool.or_eq_false_iff, Bool.and_eq_true, Bool.or_eq_true, Bool.and_eq_false_iff, Bool.not_eq_true', Bool.not_eq_false']; omega))
          rw [show ((j + 1 : Nat) : Int) - 1 = (j : Int) by omega]
          exact again j [] (.of rfl rfl rfl rfl rfl rfl) ⟨by omega, q2⟩ (by omega)
      · have h3 : ¬ 0 < (n : Int) := of_decide_eq_false h3
        obtain rfl : n = 0 := by omega
        rw [q2, Lx.downR, if_neg (by simp)] at e
        have hq : Lx.qHead (bl s) = (decide (bt s 0 = 39) || decide (bt s 0 = 34)) := by
          rw [← tl_zero, tl_cons (by omega) (by omega)]; rfl
        rw [hq] at e
        repeat (refine And.intro ?_ ?_; first | omega | (simp only [Lay.d_n]; omega) | (simp only [decide_eq_true_eq, decide_eq_false_iff_not, Bool.or_eq_false_iff, Bool.and_eq_true, Bool.or_eq_true, Bool.and_eq_false_iff, Bool.not_eq_true', Bool.not_eq_false', Lay.d_n]; omega) | (simp only [decide_eq_true_eq, decide_eq_false_iff_not, Bool.or_eq_false_iff, Bool.and_eq_true, Bool.or_eq_true, Bool.and_eq_false_iff, Bool.not_eq_true', Bool.not_eq_false']; omega))
        refine x_if (fun h4 => ?_) (fun h4 => ?_)
        · rw [if_pos h4] at e
          rw [e]
          exact fin1 (fun _ _ => rfl)
        · rw [if_neg (fun h2 => Bool.noConfusion (h2.symm.trans h4))] at e
          rw [e]
          exact fin1 (fun _ _ => rfl)

theorem atE_0 (n : Nat) : atE 0 n = n := by
  unfold atE; split <;> omega

set_option maxRecDepth 100000 in
theorem named_any (s : ByteArray) (h1 : 1 ≤ s.size) (hz : s.size ≤ 140737488355328) (w : World) :
    Calls Try.prog 135 #[.string s] w (PureP w fun v _ => v = .int .i64 (Lx.hdrN (bl s))) := by
  have hE := hdrE_eq (s := s) (i := 0) (Int.le_refl _) (by omega)
  have hN : hdrE s 0 = (Lx.hdrN (bl s) : Int) := by unfold hdrE; rw [atE_0, tl_zero]
  rw [← hN]
  refine x_fun tt_ok Try.func135 rfl rfl [] 0 [.v (.string s)] rfl rfl rfl rfl (fun b hb => by cases hb) ?_
  refine x_vc tt_ok ?_
  repeat (refine And.intro ?_ ?_; first | omega | (simp only [Lay.d_n]; omega) | (simp only [decide_eq_true_eq, decide_eq_false_iff_not, Bool.or_eq_false_iff, Bool.and_eq_true, Bool.or_eq_true, Bool.and_eq_false_iff, Bool.not_eq_true', Bool.not_eq_false', Lay.d_n]; omega) | (simp only [decide_eq_true_eq, decide_eq_false_iff_not, Bool.or_eq_false_iff, Bool.and_eq_true, Bool.or_eq_true, Bool.and_eq_false_iff, Bool.not_eq_true', Bool.not_eq_false']; omega))
  refine x_if (fun h => ?_) (fun h => ?_)
  · obtain ⟨ha, hb⟩ := Bool.and_eq_true_iff.1 h
    rw [if_neg (of_decide_eq_true ha), if_neg (of_decide_eq_true hb)] at hE
    rw [hE]
    exact fin1 (fun _ _ => rfl)
  · have h' : (decide (bt s 0 ≠ 60) && decide (bt s 0 ≠ 34)) = false := h
    repeat (refine And.intro ?_ ?_; first | omega | (simp only [Lay.d_n]; omega) | (simp only [decide_eq_true_eq, decide_eq_false_iff_not, Bool.or_eq_false_iff, Bool.and_eq_true, Bool.or_eq_true, Bool.and_eq_false_iff, Bool.not_eq_true', Bool.not_eq_false', Lay.d_n]; omega) | (simp only [decide_eq_true_eq, decide_eq_false_iff_not, Bool.or_eq_false_iff, Bool.and_eq_true, Bool.or_eq_true, Bool.and_eq_false_iff, Bool.not_eq_true', Bool.not_eq_false']; omega))
    refine x_if (fun h2 => ?_) (fun h2 => ?_)
    · rw [if_pos (of_decide_eq_true h2)] at hE
      obtain ⟨q, hq⟩ : ∃ q : Int, q = 62 := ⟨_, rfl⟩
      rw [← hq] at hE ⊢
      refine x_loop (σ := Int) (fun k => ⟨[(4, .v (.int .i64 k)), (3, .v (.int .u8 q)), (0, .v (.string s))], [], [], 0⟩)
        (fun k _ => 0 ≤ k ∧ k ≤ s.size ∧ hdrE s 0 = atE k (Lx.hdrGo q (tl s k))) (fun k => (s.size - k).toNat) (fun _ => Nat.le_refl _) 1 [] (.of rfl rfl rfl rfl rfl rfl)
        ⟨by omega, by omega, hE⟩ ?_
      rintro k u2 hu2 ⟨g1, g2, g3⟩
      refine x_vc tt_ok ?_
      repeat (refine And.intro ?_ ?_; first | omega | (simp only [Lay.d_n]; omega) | (simp only [decide_eq_true_eq, decide_eq_false_iff_not, Bool.or_eq_false_iff, Bool.and_eq_true, Bool.or_eq_true, Bool.and_eq_false_iff, Bool.not_eq_true', Bool.not_eq_false', Lay.d_n]; omega) | (simp only [decide_eq_true_eq, decide_eq_false_iff_not, Bool.or_eq_false_iff, Bool.and_eq_true, Bool.or_eq_true, Bool.and_eq_false_iff, Bool.not_eq_true', Bool.not_eq_false']; omega))
      refine x_if (fun h => ?_) (fun h => ?_)
      · obtain ⟨ha, hb⟩ := Bool.and_eq_true_iff.1 h
        have h2 : k < s.size := of_decide_eq_true ha
        have h3 : ¬ bt s k = 10 := of_decide_eq_true hb
        rw [tl_cons g1 h2, hdrGo_pos, if_neg h3] at g3
        repeat (refine And.intro ?_ ?_; first | omega | (simp only [Lay.d_n]; omega) | (simp only [decide_eq_true_eq, decide_eq_false_iff_not, Bool.or_eq_false_iff, Bool.and_eq_true, Bool.or_eq_true, Bool.and_eq_false_iff, Bool.not_eq_true', Bool.not_eq_false', Lay.d_n]; omega) | (simp only [decide_eq_true_eq, decide_eq_false_iff_not, Bool.or_eq_false_iff, Bool.and_eq_true, Bool.or_eq_true, Bool.and_eq_false_iff, Bool.not_eq_true', Bool.not_eq_false']; omega))
        refine x_if (fun h5 => ?_) (fun h5 => ?_)
        · rw [if_pos (of_decide_eq_true h5)] at g3
          repeat (refine And.intro ?_ ?_; first | omega | (simp only [Lay.d_n]; omega) | (simp only [decide_eq_true_eq, decide_eq_false_iff_not, Bool.or_eq_false_iff, Bool.and_eq_true, Bool.or_eq_true, Bool.and_eq_false_iff, Bool.not_eq_true', Bool.not_eq_false', Lay.d_n]; omega) | (simp only [decide_eq_true_eq, decide_eq_false_iff_not, Bool.or_eq_false_iff, Bool.and_eq_true, Bool.or_eq_true, Bool.and_eq_false_iff, Bool.not_eq_true', Bool.not_eq_false']; omega))
          rw [g3]
          exact fin1 (fun _ _ => rfl)
        · repeat (refine And.intro ?_ ?_; first | omega | (simp only [Lay.d_n]; omega) | (simp only [decide_eq_true_eq, decide_eq_false_iff_not, Bool.or_eq_false_iff, Bool.and_eq_true, Bool.or_eq_true, Bool.and_eq_false_iff, Bool.not_eq_true', Bool.not_eq_false', Lay.d_n]; omega) | (simp only [decide_eq_true_eq, decide_eq_false_iff_not, Bool.or_eq_false_iff, Bool.and_eq_true, Bool.or_eq_true, Bool.and_eq_false_iff, Bool.not_eq_true', Bool.not_eq_false']; omega))
          rw [if_neg (of_decide_eq_false h5), atE_up] at g3
          exact again (k + 1) [] (.of rfl rfl rfl rfl rfl rfl) ⟨by omega, by omega, g3⟩ (by omega)
      · have g4 : hdrE s 0 = 0 := by
          rw [g3]
          by_cases h2 : k < s.size
          · have h' : (decide (k < (s.size : Int)) && decide (bt s k ≠ 10)) = false := h
            rw [decide_eq_true h2, Bool.true_and] at h'
            rw [tl_cons g1 h2, hdrGo_pos, if_pos (Classical.not_not.1 (of_decide_eq_false h'))]; rfl
          · rw [tl_nil (by omega)]; rfl
        rw [g4]
        exact fin1 (fun _ _ => rfl)
    · have h2 := of_decide_eq_false h2
      rw [decide_eq_true h2, Bool.true_and] at h'
      have h34 : bt s 0 = 34 := Classical.not_not.1 (of_decide_eq_false h')
      rw [if_neg h2, if_pos h34] at hE
      obtain ⟨q, hq⟩ : ∃ q : Int, q = bt s 0 := ⟨_, rfl⟩
      rw [← h34, ← hq] at hE
      rw [← hq]
      refine x_loop (σ := Int) (fun k => ⟨[(4, .v (.int .i64 k)), (3, .v (.int .u8 q)), (0, .v (.string s))], [], [], 0⟩)
        (fun k _ => 0 ≤ k ∧ k ≤ s.size ∧ hdrE s 0 = atE k (Lx.hdrGo q (tl s k))) (fun k => (s.size - k).toNat) (fun _ => Nat.le_refl _) 1 [] (.of rfl rfl rfl rfl rfl rfl)
        ⟨by omega, by omega, hE⟩ ?_
      rintro k u2 hu2 ⟨g1, g2, g3⟩
      refine x_vc tt_ok ?_
      repeat (refine And.intro ?_ ?_; first | omega | (simp only [Lay.d_n]; omega) | (simp only [decide_eq_true_eq, decide_eq_false_iff_not, Bool.or_eq_false_iff, Bool.and_eq_true, Bool.or_eq_true, Bool.and_eq_false_iff, Bool.not_eq_true', Bool.not_eq_false', Lay.d_n]; omega) | (simp only [decide_eq_true_eq, decide_eq_false_iff_not, Bool.or_eq_false_iff, Bool.and_eq_true, Bool.or_eq_true, Bool.and_eq_false_iff, Bool.not_eq_true', Bool.not_eq_false']; omega))
      refine x_if (fun h => ?_) (fun h => ?_)
      · obtain ⟨ha, hb⟩ := Bool.and_eq_true_iff.1 h
        have h2 : k < s.size := of_decide_eq_true ha
        have h3 : ¬ bt s k = 10 := of_decide_eq_true hb
        rw [tl_cons g1 h2, hdrGo_pos, if_neg h3] at g3
        repeat (refine And.intro ?_ ?_; first | omega | (simp only [Lay.d_n]; omega) | (simp only [decide_eq_true_eq, decide_eq_false_iff_not, Bool.or_eq_false_iff, Bool.and_eq_true, Bool.or_eq_true, Bool.and_eq_false_iff, Bool.not_eq_true', Bool.not_eq_false', Lay.d_n]; omega) | (simp only [decide_eq_true_eq, decide_eq_false_iff_not, Bool.or_eq_false_iff, Bool.and_eq_true, Bool.or_eq_true, Bool.and_eq_false_iff, Bool.not_eq_true', Bool.not_eq_false']; omega))
        refine x_if (fun h5 => ?_) (fun h5 => ?_)
        · rw [if_pos (of_decide_eq_true h5)] at g3
          repeat (refine And.intro ?_ ?_; first | omega | (simp only [Lay.d_n]; omega) | (simp only [decide_eq_true_eq, decide_eq_false_iff_not, Bool.or_eq_false_iff, Bool.and_eq_true, Bool.or_eq_true, Bool.and_eq_false_iff, Bool.not_eq_true', Bool.not_eq_false', Lay.d_n]; omega) | (simp only [decide_eq_true_eq, decide_eq_false_iff_not, Bool.or_eq_false_iff, Bool.and_eq_true, Bool.or_eq_true, Bool.and_eq_false_iff, Bool.not_eq_true', Bool.not_eq_false']; omega))
          rw [g3]
          exact fin1 (fun _ _ => rfl)
        · repeat (refine And.intro ?_ ?_; first | omega | (simp only [Lay.d_n]; omega) | (simp only [decide_eq_true_eq, decide_eq_false_iff_not, Bool.or_eq_false_iff, Bool.and_eq_true, Bool.or_eq_true, Bool.and_eq_false_iff, Bool.not_eq_true', Bool.not_eq_false', Lay.d_n]; omega) | (simp only [decide_eq_true_eq, decide_eq_false_iff_not, Bool.or_eq_false_iff, Bool.and_eq_true, Bool.or_eq_true, Bool.and_eq_false_iff, Bool.not_eq_true', Bool.not_eq_false']; omega))
          rw [if_neg (of_decide_eq_false h5), atE_up] at g3
          exact again (k + 1) [] (.of rfl rfl rfl rfl rfl rfl) ⟨by omega, by omega, g3⟩ (by omega)
      · have g4 : hdrE s 0 = 0 := by
          rw [g3]
          by_cases h2 : k < s.size
          · have h' : (decide (k < (s.size : Int)) && decide (bt s k ≠ 10)) = false := h
            rw [decide_eq_true h2, Bool.true_and] at h'
            rw [tl_cons g1 h2, hdrGo_pos, if_pos (Classical.not_not.1 (of_decide_eq_false h'))]; rfl
          · rw [tl_nil (by omega)]; rfl
        rw [g4]
        exact fin1 (fun _ _ => rfl)
end Go.Proofs.Ytdonomneofdhfaa
