/- Part 5 of the lemmas behind the claim: R4, R5, R6, R7, L2, L3, L4, L5, A1, T1, T2, T3, T4, X2, W1, W2, W4, W9, W10, W11, W12, A2, C1, C2, C3, D1, J1, J2, U14, UB, U15, U16, U17, W13, W14, W15, W16, X5, U6, GI, U7, U8, X4. -/
import Derived.Test.YtnjmkeijjapejaaGreatZA4
set_option linter.unusedSimpArgs false
set_option linter.unusedVariables false
namespace Go.Proofs.YtnjmkeijjapejaaGreat
open Go.GV Go.RowKit
theorem whiteR_any (c : Int) (w : World) : Calls Tryz.prog 70 #[.int .u8 c] w (PureP w fun v _ => v = .bool (Lx.white c)) := by
  refine x_fun tt_ok Tryz.func70 rfl rfl [] 0 [.v (.int .u8 c)] rfl rfl rfl rfl (fun b hb => by cases hb) ?_
  refine x_vc tt_ok ?_
  exact fin1 (fun _ _ => rfl)
set_option maxRecDepth 100000 in
theorem longR_any (s : ByteArray) (h1 : 1 ≤ s.size) (hz : s.size ≤ 140737488355000) (w : World) :
    Calls Tryz.prog 73 #[.string s] w (PureP w fun v _ => v = .tuple #[.int .i64 (Lx.longR (bl s)).1, .int .i64 (Lx.longR (bl s)).2]) := by
  obtain ⟨N, hN⟩ : ∃ N, N = Lx.longR (bl s) := ⟨_, rfl⟩
  rw [← hN]
  refine x_fun tt_ok Tryz.func73 rfl rfl [] 0 [.v (.string s)] rfl rfl rfl rfl (fun b hb => by cases hb) ?_
  refine x_vc tt_ok ?_
  refine x_loop (σ := Int) (fun k => ⟨[(4, .v (.int .i64 k)), (0, .v (.string s))], [], [], 0⟩)
    (fun k _ => 0 ≤ k ∧ k ≤ s.size ∧ (Lx.run Lx.notNl (bl s) : Int) = k + Lx.run Lx.notNl (tl s k)) (fun k => (s.size - k).toNat) (fun _ => Nat.le_refl _) 0 [] (.of rfl rfl rfl rfl rfl rfl)
    ⟨by omega, by omega, by rw [tl_zero]; omega⟩ ?_
  rintro k u hu ⟨g1, g2, g3⟩
  refine x_vc tt_ok ?_
  repeat (refine And.intro ?_ ?_; first | omega | (simp only [Lay.d_n]; omega) | (simp only [decide_eq_true_eq, decide_eq_false_iff_not, Bool.or_eq_false_iff, Bool.and_eq_true, Bool.or_eq_true, Bool.and_eq_false_iff, Bool.not_eq_true', Bool.not_eq_false', Lay.d_n]; omega) | (simp only [decide_eq_true_eq, decide_eq_false_iff_not, Bool.or_eq_false_iff, Bool.and_eq_true, Bool.or_eq_true, Bool.and_eq_false_iff, Bool.not_eq_true', Bool.not_eq_false']; omega))
  refine x_if (fun h => ?_) (fun h => ?_)
  · obtain ⟨ha, hb⟩ := Bool.and_eq_true_iff.1 h
    have h2 : k < s.size := of_decide_eq_true ha
    have h3 : Lx.notNl (bt s k) = true := by
      unfold Lx.notNl
      have := of_decide_eq_true hb
      simpa using this
    rw [tl_cons g1 h2, run_cons, if_pos h3] at g3
    repeat (refine And.intro ?_ ?_; first | omega | (simp only [Lay.d_n]; omega) | (simp only [decide_eq_true_eq, decide_eq_false_iff_not, Bool.or_eq_false_iff, Bool.and_eq_true, Bool.or_eq_true, Bool.and_eq_false_iff, Bool.not_eq_true', Bool.not_eq_false', Lay.d_n]; omega) | (simp only [decide_eq_true_eq, decide_eq_false_iff_not, Bool.or_eq_false_iff, Bool.and_eq_true, Bool.or_eq_true, Bool.and_eq_false_iff, Bool.not_eq_true', Bool.not_eq_false']; omega))
    exact again (k + 1) [] (.of rfl rfl rfl rfl rfl rfl) ⟨by omega, by omega, by omega⟩ (by omega)
  · have g4 : (Lx.run Lx.notNl (bl s) : Int) = k := by
      rw [g3]
      by_cases h2 : k < s.size
      · have h' : (decide (k < (s.size : Int)) && decide (bt s k ≠ 10)) = false := h
        rw [decide_eq_true h2, Bool.true_and] at h'
        have h3 : Lx.notNl (bt s k) = false := by
          unfold Lx.notNl
          have := Classical.not_not.1 (of_decide_eq_false h')
          simpa using this
        rw [tl_cons g1 h2, run_cons, if_neg (by rw [h3]; simp)]; omega
      · rw [tl_nil (by omega)]; simp [Lx.run]
    clear g3
    refine x_if (fun h0 => ?_) (fun h0 => ?_)
    · have h0 : k = 0 := of_decide_eq_true h0
      have e : N = (9, 1) := by rw [hN, Lx.longR, if_pos (by omega)]
      rw [e]
      exact fin1 (fun _ _ => rfl)
    · have h0 : ¬ k = 0 := of_decide_eq_false h0
      have e : N = if (Lx.downR (Lx.run Lx.notNl (bl s)) (bl s)).1 ≠ 0 then Lx.downR (Lx.run Lx.notNl (bl s)) (bl s) else if Lx.qHead (bl s) = true then (0, 0) else (6, 1) := by
        rw [hN, Lx.longR, if_neg (by omega)]
      obtain ⟨m, hm⟩ : ∃ m : Nat, (m : Int) = k := ⟨k.toNat, by omega⟩
      subst hm
      have hr : Lx.run Lx.notNl (bl s) = m := by omega
      rw [hr] at e
      refine x_loop (σ := Nat) (fun n => ⟨[(4, .v (.int .i64 n)), (0, .v (.string s))], [], [], 0⟩)
        (fun n _ => (n : Int) ≤ s.size ∧ Lx.downR m (bl s) = Lx.downR n (bl s)) (fun n => n) (fun _ => Nat.le_refl _) m [] (.of rfl rfl rfl rfl rfl rfl)
        ⟨g2, rfl⟩ ?_
      rintro n u2 hu2 ⟨q1, q2⟩
      refine x_vc tt_ok ?_
      refine x_if (fun h3 => ?_) (fun h3 => ?_)
      · have h3 : 0 < (n : Int) := of_decide_eq_true h3
        obtain ⟨j, rfl⟩ : ∃ j, n = j + 1 := ⟨n - 1, by omega⟩
        repeat (refine And.intro ?_ ?_; first | omega | (simp only [Lay.d_n]; omega) | (simp only [decide_eq_true_eq, decide_eq_false_iff_not, Bool.or_eq_false_iff, Bool.and_eq_true, Bool.or_eq_true, Bool.and_eq_false_iff, Bool.not_eq_true', Bool.not_eq_false', Lay.d_n]; omega) | (simp only [decide_eq_true_eq, decide_eq_false_iff_not, Bool.or_eq_false_iff, Bool.and_eq_true, Bool.or_eq_true, Bool.and_eq_false_iff, Bool.not_eq_true', Bool.not_eq_false']; omega))
        refine xl_call0 (.int .i64 (Lx.kindR ((bl s).take (j + 1)))) rfl rfl rfl rfl fn86 rfl rfl (fun E w F _ => by
          have := kind_any (sub s 0 ((j + 1 : Nat) : Int)) (by have := sub_le s 0 ((j + 1 : Nat) : Int); omega) w
          rw [bl_sub s (Int.le_refl _) (by omega) q1, tl_zero, Int.sub_zero, Int.toNat_natCast] at this; exact this) ?_
        refine xl_go tt_ok ?_
        rw [Lx.downR] at q2
        refine x_if (fun h4 => ?_) (fun h4 => ?_)
        · have h4 := of_decide_eq_true h4
          rw [if_pos h4] at q2
          rw [q2, if_pos (by simp only; omega)] at e
          rw [e]
          exact fin1 (fun _ _ => rfl)
        · rw [if_neg (of_decide_eq_false h4)] at q2
          repeat (refine And.intro ?_ ?_; first | omega | (simp only [Lay.d_n]; omega) | (simp only [decide_eq_true_eq, decide_eq_false_iff_not, Bool.or_eq_false_iff, Bool.and_eq_true, Bool.or_eq_true, Bool.and_eq_false_iff, Bool.not_eq_true', Bool.not_eq_false', Lay.d_n]; omega) | (simp only [decide_eq_true_eq, decide_eq_false_iff_not, Bool.or_eq_false_iff, Bool.and_eq_true, Bool.or_eq_true, Bool.and_eq_false_iff, Bool.not_eq_true', Bool.not_eq_false']; omega))
          rw [show ((j + 1 : Nat) : Int) - 1 = (j : Int) by omega]
          exact again j [] (.of rfl rfl rfl rfl rfl rfl) ⟨by omega, q2⟩ (by omega)
      · have h3 : ¬ 0 < (n : Int) := of_decide_eq_false h3
        obtain rfl : n = 0 := by omega
        rw [q2, Lx.downR, if_neg (by simp)] at e
        have hq : Lx.qHead (bl s) = (decide (bt s 0 = 39) || decide (bt s 0 = 34)) := by
          rw [← tl_zero, tl_cons (by omega) (by omega)]; rfl
        rw [hq] at e
        repeat (refine And.intro ?_ ?_; first | omega | (simp only [Lay.d_n]; omega) | (simp only [decide_eq_true_eq, decide_eq_false_iff_not, Bool.or_eq_false_iff, Bool.and_eq_true, Bool.or_eq_true, Bool.and_eq_false_iff, Bool.not_eq_true', Bool.not_eq_false', Lay.d_n]; omega) | (simp only [decide_eq_true_eq, decide_eq_false_iff_not, Bool.or_eq_false_iff, Bool.and_eq_true, Bool.or_eq_true, Bool.and_eq_false_iff, Bool.not_eq_true', Bool.not_eq_false']; omega))
        refine x_if (fun h4 => ?_) (fun h4 => ?_)
        · rw [if_pos h4] at e
          rw [e]
          exact fin1 (fun _ _ => rfl)
        · rw [if_neg (fun h2 => Bool.noConfusion (h2.symm.trans h4))] at e
          rw [e]
          exact fin1 (fun _ _ => rfl)
theorem atE_0 (n : Nat) : atE 0 n = n := by
  unfold atE; split <;> omega
set_option maxRecDepth 100000 in
theorem named_any (s : ByteArray) (h1 : 1 ≤ s.size) (hz : s.size ≤ 140737488355328) (w : World) :
    Calls Tryz.prog 71 #[.string s] w (PureP w fun v _ => v = .int .i64 (Lx.hdrN (bl s))) := by
  have hE := hdrE_eq (s := s) (i := 0) (Int.le_refl _) (by omega)
  have hN : hdrE s 0 = (Lx.hdrN (bl s) : Int) := by unfold hdrE; rw [atE_0, tl_zero]
  rw [← hN]
  refine x_fun tt_ok Tryz.func71 rfl rfl [] 0 [.v (.string s)] rfl rfl rfl rfl (fun b hb => by cases hb) ?_
  refine x_vc tt_ok ?_
  repeat (refine And.intro ?_ ?_; first | omega | (simp only [Lay.d_n]; omega) | (simp only [decide_eq_true_eq, decide_eq_false_iff_not, Bool.or_eq_false_iff, Bool.and_eq_true, Bool.or_eq_true, Bool.and_eq_false_iff, Bool.not_eq_true', Bool.not_eq_false', Lay.d_n]; omega) | (simp only [decide_eq_true_eq, decide_eq_false_iff_not, Bool.or_eq_false_iff, Bool.and_eq_true, Bool.or_eq_true, Bool.and_eq_false_iff, Bool.not_eq_true', Bool.not_eq_false']; omega))
  refine x_if (fun h => ?_) (fun h => ?_)
  · obtain ⟨ha, hb⟩ := Bool.and_eq_true_iff.1 h
    rw [if_neg (of_decide_eq_true ha), if_neg (of_decide_eq_true hb)] at hE
    rw [hE]
    exact fin1 (fun _ _ => rfl)
  · have h' : (decide (bt s 0 ≠ 60) && decide (bt s 0 ≠ 34)) = false := h
    repeat (refine And.intro ?_ ?_; first | omega | (simp only [Lay.d_n]; omega) | (simp only [decide_eq_true_eq, decide_eq_false_iff_not, Bool.or_eq_false_iff, Bool.and_eq_true, Bool.or_eq_true, Bool.and_eq_false_iff, Bool.not_eq_true', Bool.not_eq_false', Lay.d_n]; omega) | (simp only [decide_eq_true_eq, decide_eq_false_iff_not, Bool.or_eq_false_iff, Bool.and_eq_true, Bool.or_eq_true, Bool.and_eq_false_iff, Bool.not_eq_true', Bool.not_eq_false']; omega))
    refine x_if (fun h2 => ?_) (fun h2 => ?_)
    · rw [if_pos (of_decide_eq_true h2)] at hE
      obtain ⟨q, hq⟩ : ∃ q : Int, q = 62 := ⟨_, rfl⟩
      rw [← hq] at hE ⊢
      refine x_loop (σ := Int) (fun k => ⟨[(4, .v (.int .i64 k)), (3, .v (.int .u8 q)), (0, .v (.string s))], [], [], 0⟩)
        (fun k _ => 0 ≤ k ∧ k ≤ s.size ∧ hdrE s 0 = atE k (Lx.hdrGo q (tl s k))) (fun k => (s.size - k).toNat) (fun _ => Nat.le_refl _) 1 [] (.of rfl rfl rfl rfl rfl rfl)
        ⟨by omega, by omega, hE⟩ ?_
      rintro k u2 hu2 ⟨g1, g2, g3⟩
      refine x_vc tt_ok ?_
      repeat (refine And.intro ?_ ?_; first | omega | (simp only [Lay.d_n]; omega) | (simp only [decide_eq_true_eq, decide_eq_false_iff_not, Bool.or_eq_false_iff, Bool.and_eq_true, Bool.or_eq_true, Bool.and_eq_false_iff, Bool.not_eq_true', Bool.not_eq_false', Lay.d_n]; omega) | (simp only [decide_eq_true_eq, decide_eq_false_iff_not, Bool.or_eq_false_iff, Bool.and_eq_true, Bool.or_eq_true, Bool.and_eq_false_iff, Bool.not_eq_true', Bool.not_eq_false']; omega))
      refine x_if (fun h => ?_) (fun h => ?_)
      · obtain ⟨ha, hb⟩ := Bool.and_eq_true_iff.1 h
        have h2 : k < s.size := of_decide_eq_true ha
        have h3 : ¬ bt s k = 10 := of_decide_eq_true hb
        rw [tl_cons g1 h2, hdrGo_pos, if_neg h3] at g3
        repeat (refine And.intro ?_ ?_; first | omega | (simp only [Lay.d_n]; omega) | (simp only [decide_eq_true_eq, decide_eq_false_iff_not, Bool.or_eq_false_iff, Bool.and_eq_true, Bool.or_eq_true, Bool.and_eq_false_iff, Bool.not_eq_true', Bool.not_eq_false', Lay.d_n]; omega) | (simp only [decide_eq_true_eq, decide_eq_false_iff_not, Bool.or_eq_false_iff, Bool.and_eq_true, Bool.or_eq_true, Bool.and_eq_false_iff, Bool.not_eq_true', Bool.not_eq_false']; omega))
        refine x_if (fun h5 => ?_) (fun h5 => ?_)
        · rw [if_pos (of_decide_eq_true h5)] at g3
          repeat (refine And.intro ?_ ?_; first | omega | (simp only [Lay.d_n]; omega) | (simp only [decide_eq_true_eq, decide_eq_false_iff_not, Bool.or_eq_false_iff, Bool.and_eq_true, Bool.or_eq_true, Bool.and_eq_false_iff, Bool.not_eq_true', Bool.not_eq_false', Lay.d_n]; omega) | (simp only [decide_eq_true_eq, decide_eq_false_iff_not, Bool.or_eq_false_iff, Bool.and_eq_true, Bool.or_eq_true, Bool.and_eq_false_iff, Bool.not_eq_true', Bool.not_eq_false']; omega))
          rw [g3]
          exact fin1 (fun _ _ => rfl)
        · repeat (refine And.intro ?_ ?_; first | omega | (simp only [Lay.d_n]; omega) | (simp only [decide_eq_true_eq, decide_eq_false_iff_not, Bool.or_eq_false_iff, Bool.and_eq_true, Bool.or_eq_true, Bool.and_eq_false_iff, Bool.not_eq_true', Bool.not_eq_false', Lay.d_n]; omega) | (simp only [decide_eq_true_eq, decide_eq_false_iff_not, Bool.or_eq_false_iff, Bool.and_eq_true, Bool.or_eq_true, Bool.and_eq_false_iff, Bool.not_eq_true', Bool.not_eq_false']; omega))
          rw [if_neg (of_decide_eq_false h5), atE_up] at g3
          exact again (k + 1) [] (.of rfl rfl rfl rfl rfl rfl) ⟨by omega, by omega, g3⟩ (by omega)
      · have g4 : hdrE s 0 = 0 := by
          rw [g3]
          by_cases h2 : k < s.size
          · have h' : (decide (k < (s.size : Int)) && decide (bt s k ≠ 10)) = false := h
            rw [decide_eq_true h2, Bool.true_and] at h'
            rw [tl_cons g1 h2, hdrGo_pos, if_pos (Classical.not_not.1 (of_decide_eq_false h'))]; rfl
          · rw [tl_nil (by omega)]; rfl
        rw [g4]
        exact fin1 (fun _ _ => rfl)
    · have h2 := of_decide_eq_false h2
      rw [decide_eq_true h2, Bool.true_and] at h'
      have h34 : bt s 0 = 34 := Classical.not_not.1 (of_decide_eq_false h')
      rw [if_neg h2, if_pos h34] at hE
      obtain ⟨q, hq⟩ : ∃ q : Int, q = bt s 0 := ⟨_, rfl⟩
      rw [← h34, ← hq] at hE
      rw [← hq]
      refine x_loop (σ := Int) (fun k => ⟨[(4, .v (.int .i64 k)), (3, .v (.int .u8 q)), (0, .v (.string s))], [], [], 0⟩)
        (fun k _ => 0 ≤ k ∧ k ≤ s.size ∧ hdrE s 0 = atE k (Lx.hdrGo q (tl s k))) (fun k => (s.size - k).toNat) (fun _ => Nat.le_refl _) 1 [] (.of rfl rfl rfl rfl rfl rfl)
        ⟨by omega, by omega, hE⟩ ?_
      rintro k u2 hu2 ⟨g1, g2, g3⟩
      refine x_vc tt_ok ?_
      repeat (refine And.intro ?_ ?_; first | omega | (simp only [Lay.d_n]; omega) | (simp only [decide_eq_true_eq, decide_eq_false_iff_not, Bool.or_eq_false_iff, Bool.and_eq_true, Bool.or_eq_true, Bool.and_eq_false_iff, Bool.not_eq_true', Bool.not_eq_false', Lay.d_n]; omega) | (simp only [decide_eq_true_eq, decide_eq_false_iff_not, Bool.or_eq_false_iff, Bool.and_eq_true, Bool.or_eq_true, Bool.and_eq_false_iff, Bool.not_eq_true', Bool.not_eq_false']; omega))
      refine x_if (fun h => ?_) (fun h => ?_)
      · obtain ⟨ha, hb⟩ := Bool.and_eq_true_iff.1 h
        have h2 : k < s.size := of_decide_eq_true ha
        have h3 : ¬ bt s k = 10 := of_decide_eq_true hb
        rw [tl_cons g1 h2, hdrGo_pos, if_neg h3] at g3
        repeat (refine And.intro ?_ ?_; first | omega | (simp only [Lay.d_n]; omega) | (simp only [decide_eq_true_eq, decide_eq_false_iff_not, Bool.or_eq_false_iff, Bool.and_eq_true, Bool.or_eq_true, Bool.and_eq_false_iff, Bool.not_eq_true', Bool.not_eq_false', Lay.d_n]; omega) | (simp only [decide_eq_true_eq, decide_eq_false_iff_not, Bool.or_eq_false_iff, Bool.and_eq_true, Bool.or_eq_true, Bool.and_eq_false_iff, Bool.not_eq_true', Bool.not_eq_false']; omega))
        refine x_if (fun h5 => ?_) (fun h5 => ?_)
        · rw [if_pos (of_decide_eq_true h5)] at g3
          repeat (refine And.intro ?_ ?_; first | omega | (simp only [Lay.d_n]; omega) | (simp only [decide_eq_true_eq, decide_eq_false_iff_not, Bool.or_eq_false_iff, Bool.and_eq_true, Bool.or_eq_true, Bool.and_eq_false_iff, Bool.not_eq_true', Bool.not_eq_false', Lay.d_n]; omega) | (simp only [decide_eq_true_eq, decide_eq_false_iff_not, Bool.or_eq_false_iff, Bool.and_eq_true, Bool.or_eq_true, Bool.and_eq_false_iff, Bool.not_eq_true', Bool.not_eq_false']; omega))
          rw [g3]
          exact fin1 (fun _ _ => rfl)
        · repeat (refine And.intro ?_ ?_; first | omega | (simp only [Lay.d_n]; omega) | (simp only [decide_eq_true_eq, decide_eq_false_iff_not, Bool.or_eq_false_iff, Bool.and_eq_true, Bool.or_eq_true, Bool.and_eq_false_iff, Bool.not_eq_true', Bool.not_eq_false', Lay.d_n]; omega) | (simp only [decide_eq_true_eq, decide_eq_false_iff_not, Bool.or_eq_false_iff, Bool.and_eq_true, Bool.or_eq_true, Bool.and_eq_false_iff, Bool.not_eq_true', Bool.not_eq_false']; omega))
          rw [if_neg (of_decide_eq_false h5), atE_up] at g3
          exact again (k + 1) [] (.of rfl rfl rfl rfl rfl rfl) ⟨by omega, by omega, g3⟩ (by omega)
      · have g4 : hdrE s 0 = 0 := by
          rw [g3]
          by_cases h2 : k < s.size
          · have h' : (decide (k < (s.size : Int)) && decide (bt s k ≠ 10)) = false := h
            rw [decide_eq_true h2, Bool.true_and] at h'
            rw [tl_cons g1 h2, hdrGo_pos, if_pos (Classical.not_not.1 (of_decide_eq_false h'))]; rfl
          · rw [tl_nil (by omega)]; rfl
        rw [g4]
        exact fin1 (fun _ _ => rfl)
end Go.Proofs.YtnjmkeijjapejaaGreat
namespace Go.Proofs.YtnjmkeijjapejaaGreat
open Go.GV Go.RowKit
theorem endC_cons (a : Int) (r : Lx.Bs) : Lx.endC (a :: r) = if a = 42 ∧ r.head? = some 47 then 2 else if Lx.endC r = 0 then 0 else Lx.endC r + 1 := by
  cases r with
  | nil => simp [Lx.endC]
  | cons b r =>
    simp only [Lx.endC, List.head?_cons, Option.some.injEq]
    by_cases h : a = 42 ∧ b = 47
    · rw [decide_eq_true h.1, decide_eq_true h.2, if_pos h]; rfl
    · rw [if_neg h]
      have : (decide (a = 42) && decide (b = 47)) = false := by
        rw [Bool.and_eq_false_iff]
        by_cases h1 : a = 42
        · exact .inr (decide_eq_false (fun h2 => h ⟨h1, h2⟩))
        · exact .inl (decide_eq_false h1)
      rw [this]
      simp only
      cases Lx.endC (b :: r) <;> simp
theorem tl_head {s : ByteArray} {i : Int} (h0 : 0 ≤ i) (h : i < s.size) : (tl s i).head? = some (bt s i) := by rw [tl_cons h0 h]; rfl
theorem tl_two {s : ByteArray} (h : 2 ≤ s.size) : (bl s).take 2 = [bt s 0, bt s 1] := by
  rw [← tl_zero, tl_cons (by omega) (by omega), tl_cons (by omega) (by omega)]; rfl
set_option maxRecDepth 100000 in
theorem remark_any (s : ByteArray) (h1 : 1 ≤ s.size) (hz : s.size ≤ 140737488355328) (w : World) :
    Calls Tryz.prog 72 #[.string s] w (PureP w fun v _ => v = .int .i64 (Lx.remR (bl s))) := by
  obtain ⟨N, hN⟩ : ∃ N, N = Lx.remR (bl s) := ⟨_, rfl⟩
  rw [← hN]
  refine x_fun tt_ok Tryz.func72 rfl rfl [] 0 [.v (.string s)] rfl rfl rfl rfl (fun b hb => by cases hb) ?_
  refine x_vc tt_ok ?_
  repeat (refine And.intro ?_ ?_; first | omega | (simp only [Lay.d_n]; omega) | (simp only [decide_eq_true_eq, decide_eq_false_iff_not, Bool.or_eq_false_iff, Bool.and_eq_true, Bool.or_eq_true, Bool.and_eq_false_iff, Bool.not_eq_true', Bool.not_eq_false', Lay.d_n]; omega) | (simp only [decide_eq_true_eq, decide_eq_false_iff_not, Bool.or_eq_false_iff, Bool.and_eq_true, Bool.or_eq_true, Bool.and_eq_false_iff, Bool.not_eq_true', Bool.not_eq_false']; omega))
  refine x_if (fun h => ?_) (fun h => ?_)
  · have h' : ((decide ((s.size : Int) < 2) || decide (bt s 0 ≠ 47)) || (decide (bt s 1 ≠ 47) && decide (bt s 1 ≠ 42))) = true := h
    have e : N = 0 := by
      rw [hN]
      unfold Lx.remR Lx.isOpen Lx.isLine
      by_cases h2 : 2 ≤ s.size
      · rw [tl_two h2]
        rw [decide_eq_false (by omega), Bool.false_or] at h'
        have n1 : ¬ [bt s 0, bt s 1] = [47, 42] := by
          simp only [List.cons.injEq, and_true]
          rintro ⟨a1, a2⟩
          rw [a1, a2] at h'; revert h'; decide
        have n2 : ¬ [bt s 0, bt s 1] = [47, 47] := by
          simp only [List.cons.injEq, and_true]
          rintro ⟨a1, a2⟩
          rw [a1, a2] at h'; revert h'; decide
        rw [decide_eq_false n1, decide_eq_false n2]; rfl
      · have hl : ∀ x y : Int, ¬ (bl s).take 2 = [x, y] := by
          intro x y hc
          have := congrArg List.length hc
          rw [List.length_take, bl_len] at this
          simp only [List.length_cons, List.length_nil] at this
          omega
        rw [decide_eq_false (hl _ _), decide_eq_false (hl _ _)]; rfl
    rw [e]
    exact fin1 (fun _ _ => rfl)
  · have h' : ((decide ((s.size : Int) < 2) || decide (bt s 0 ≠ 47)) || (decide (bt s 1 ≠ 47) && decide (bt s 1 ≠ 42))) = false := h
    obtain ⟨a1, a2⟩ := Bool.or_eq_false_iff.1 h'
    obtain ⟨a3, a4⟩ := Bool.or_eq_false_iff.1 a1
    have a3 := of_decide_eq_false a3
    have a4 : bt s 0 = 47 := Classical.not_not.1 (of_decide_eq_false a4)
    have h2 : 2 ≤ s.size := by omega
    clear h h' a1
    by_cases h47 : bt s 1 = 47
    · have e : N = (Lx.run Lx.notNl (bl s) : Int) := by
        rw [hN]
        unfold Lx.remR Lx.isOpen Lx.isLine
        rw [tl_two h2, a4, h47]; rfl
      have e0 : (Lx.run Lx.notNl (bl s) : Int) = 2 + Lx.run Lx.notNl (tl s 2) := by
        rw [← tl_zero, tl_cons (by omega) (by omega), run_cons, a4, if_pos (show Lx.notNl 47 = true from rfl), tl_cons (by omega) (by omega), run_cons, show (0 : Int) + 1 = 1 from rfl, h47, if_pos (show Lx.notNl 47 = true from rfl)]
        show ((Lx.run Lx.notNl (tl s 2) + 1 + 1 : Nat) : Int) = _
        omega
      rw [e0] at e
      refine x_loop (σ := Int) (fun k => ⟨[(3, .v (.int .i64 k)), (0, .v (.string s))], [], [], 0⟩)
        (fun k _ => 2 ≤ k ∧ k ≤ s.size ∧ N = k + Lx.run Lx.notNl (tl s k)) (fun k => (s.size - k).toNat) (fun _ => Nat.le_refl _) 2 [] (.of rfl rfl rfl rfl rfl rfl)
        ⟨by omega, by omega, e⟩ ?_
      rintro k u hu ⟨g1, g2, g3⟩
      refine x_vc tt_ok ?_
      refine x_if (fun h => ?_) (fun h => ?_)
      · have hk : k < s.size := of_decide_eq_true h
        rw [tl_cons (by omega) hk, run_cons] at g3
        repeat (refine And.intro ?_ ?_; first | omega | (simp only [Lay.d_n]; omega) | (simp only [decide_eq_true_eq, decide_eq_false_iff_not, Bool.or_eq_false_iff, Bool.and_eq_true, Bool.or_eq_true, Bool.and_eq_false_iff, Bool.not_eq_true', Bool.not_eq_false', Lay.d_n]; omega) | (simp only [decide_eq_true_eq, decide_eq_false_iff_not, Bool.or_eq_false_iff, Bool.and_eq_true, Bool.or_eq_true, Bool.and_eq_false_iff, Bool.not_eq_true', Bool.not_eq_false']; omega))
        refine x_if (fun h3 => ?_) (fun h3 => ?_)
        · have h4 : bt s k = 10 := of_decide_eq_true (Bool.and_eq_true_iff.1 h3).2
          rw [h4, if_neg (by decide)] at g3
          have e : N = k := by omega
          rw [e]
          exact fin1 (fun _ _ => rfl)
        · have h3' : (decide (bt s 1 = 47) && decide (bt s k = 10)) = false := h3
          rw [decide_eq_true h47, Bool.true_and] at h3'
          have h4 := of_decide_eq_false h3'
          have h5 : Lx.notNl (bt s k) = true := by unfold Lx.notNl; simpa using h4
          rw [if_pos h5] at g3
          repeat (refine And.intro ?_ ?_; first | omega | (simp only [Lay.d_n]; omega) | (simp only [decide_eq_true_eq, decide_eq_false_iff_not, Bool.or_eq_false_iff, Bool.and_eq_true, Bool.or_eq_true, Bool.and_eq_false_iff, Bool.not_eq_true', Bool.not_eq_false', Lay.d_n]; omega) | (simp only [decide_eq_true_eq, decide_eq_false_iff_not, Bool.or_eq_false_iff, Bool.and_eq_true, Bool.or_eq_true, Bool.and_eq_false_iff, Bool.not_eq_true', Bool.not_eq_false']; omega))
          refine x_if (fun h6 => ?_) (fun h6 => ?_)
          · have h6' : (((decide (bt s 1 = 42) && decide (2 < k)) && decide (bt s k = 47)) && decide (bt s (k - 1) = 42)) = true := h6
            rw [decide_eq_false (by omega)] at h6'; cases h6'
          · repeat (refine And.intro ?_ ?_; first | omega | (simp only [Lay.d_n]; omega) | (simp only [decide_eq_true_eq, decide_eq_false_iff_not, Bool.or_eq_false_iff, Bool.and_eq_true, Bool.or_eq_true, Bool.and_eq_false_iff, Bool.not_eq_true', Bool.not_eq_false', Lay.d_n]; omega) | (simp only [decide_eq_true_eq, decide_eq_false_iff_not, Bool.or_eq_false_iff, Bool.and_eq_true, Bool.or_eq_true, Bool.and_eq_false_iff, Bool.not_eq_true', Bool.not_eq_false']; omega))
            exact again (k + 1) [] (.of rfl rfl rfl rfl rfl rfl) ⟨by omega, by omega, by omega⟩ (by omega)
      · have hk : ¬ k < (s.size : Int) := of_decide_eq_false h
        rw [tl_nil (by omega)] at g3
        have e : N = s.size := by
          simp only [Lx.run] at g3
          omega
        repeat (refine And.intro ?_ ?_; first | omega | (simp only [Lay.d_n]; omega) | (simp only [decide_eq_true_eq, decide_eq_false_iff_not, Bool.or_eq_false_iff, Bool.and_eq_true, Bool.or_eq_true, Bool.and_eq_false_iff, Bool.not_eq_true', Bool.not_eq_false', Lay.d_n]; omega) | (simp only [decide_eq_true_eq, decide_eq_false_iff_not, Bool.or_eq_false_iff, Bool.and_eq_true, Bool.or_eq_true, Bool.and_eq_false_iff, Bool.not_eq_true', Bool.not_eq_false']; omega))
        refine x_ift (decide_eq_true h47) ?_
        rw [e]
        exact fin1 (fun _ _ => rfl)
    · have h42 : bt s 1 = 42 := by
        rw [decide_eq_true h47, Bool.true_and] at a2
        exact Classical.not_not.1 (of_decide_eq_false a2)
      have e : N = if Lx.endC (tl s 2) = 0 then -1 else atE 2 (Lx.endC (tl s 2)) := by
        rw [hN]
        unfold Lx.remR Lx.isOpen Lx.isLine
        rw [tl_two h2, a4, h42]
        have : (bl s).drop 2 = tl s 2 := rfl
        rw [this]
        simp only [decide_true, if_true]
        cases Lx.endC (tl s 2) with
        | zero => rfl
        | succ n =>
          rw [if_neg (by omega)]
          unfold atE
          rw [if_neg (by omega)]
          show (n : Int) + 3 = 2 + ((n + 1 : Nat) : Int)
          omega
      have e : N = if atE 2 (Lx.endC (tl s 2)) = 0 then -1 else atE 2 (Lx.endC (tl s 2)) := by
        rw [e]
        unfold atE
        by_cases h0 : Lx.endC (tl s 2) = 0
        · rw [if_pos h0, if_pos h0]; rfl
        · rw [if_neg h0, if_neg h0, if_neg (by omega)]
      refine x_loop (σ := Int) (fun k => ⟨[(3, .v (.int .i64 k)), (0, .v (.string s))], [], [], 0⟩)
        (fun k _ => 2 ≤ k ∧ k ≤ s.size ∧ ((k = 2 ∧ N = if atE 2 (Lx.endC (tl s 2)) = 0 then -1 else atE 2 (Lx.endC (tl s 2))) ∨ (2 < k ∧ N = if atE (k - 1) (Lx.endC (tl s (k - 1))) = 0 then -1 else atE (k - 1) (Lx.endC (tl s (k - 1))))))
        (fun k => (s.size - k).toNat) (fun _ => Nat.le_refl _) 2 [] (.of rfl rfl rfl rfl rfl rfl)
        ⟨by omega, by omega, .inl ⟨rfl, e⟩⟩ ?_
      clear e
      rintro k u hu ⟨g1, g2, g3⟩
      refine x_vc tt_ok ?_
      refine x_if (fun h => ?_) (fun h => ?_)
      · have hk : k < s.size := of_decide_eq_true h
        repeat (refine And.intro ?_ ?_; first | omega | (simp only [Lay.d_n]; omega) | (simp only [decide_eq_true_eq, decide_eq_false_iff_not, Bool.or_eq_false_iff, Bool.and_eq_true, Bool.or_eq_true, Bool.and_eq_false_iff, Bool.not_eq_true', Bool.not_eq_false', Lay.d_n]; omega) | (simp only [decide_eq_true_eq, decide_eq_false_iff_not, Bool.or_eq_false_iff, Bool.and_eq_true, Bool.or_eq_true, Bool.and_eq_false_iff, Bool.not_eq_true', Bool.not_eq_false']; omega))
        refine x_if (fun h3 => ?_) (fun h3 => ?_)
        · exact absurd (of_decide_eq_true (Bool.and_eq_true_iff.1 h3).1) h47
        · repeat (refine And.intro ?_ ?_; first | omega | (simp only [Lay.d_n]; omega) | (simp only [decide_eq_true_eq, decide_eq_false_iff_not, Bool.or_eq_false_iff, Bool.and_eq_true, Bool.or_eq_true, Bool.and_eq_false_iff, Bool.not_eq_true', Bool.not_eq_false', Lay.d_n]; omega) | (simp only [decide_eq_true_eq, decide_eq_false_iff_not, Bool.or_eq_false_iff, Bool.and_eq_true, Bool.or_eq_true, Bool.and_eq_false_iff, Bool.not_eq_true', Bool.not_eq_false']; omega))
          refine x_if (fun h6 => ?_) (fun h6 => ?_)
          · have h6' : (((decide (bt s 1 = 42) && decide (2 < k)) && decide (bt s k = 47)) && decide (bt s (k - 1) = 42)) = true := h6
            simp only [Bool.and_eq_true, decide_eq_true_eq] at h6'
            obtain ⟨⟨⟨_, b1⟩, b2⟩, b3⟩ := h6'
            rcases g3 with ⟨c1, _⟩ | ⟨c1, c2⟩
            · omega
            · have e : N = k + 1 := by
                have ec : Lx.endC (tl s (k - 1)) = 2 := by
                  rw [tl_cons (by omega) (by omega), endC_cons, show k - 1 + 1 = k by omega, tl_head (by omega) hk, if_pos ⟨b3, by rw [b2]⟩]
                have ea : atE (k - 1) 2 = k + 1 := by unfold atE; rw [if_neg (by omega)]; omega
                rw [c2, ec, ea, if_neg (by omega)]
              repeat (refine And.intro ?_ ?_; first | omega | (simp only [Lay.d_n]; omega) | (simp only [decide_eq_true_eq, decide_eq_false_iff_not, Bool.or_eq_false_iff, Bool.and_eq_true, Bool.or_eq_true, Bool.and_eq_false_iff, Bool.not_eq_true', Bool.not_eq_false', Lay.d_n]; omega) | (simp only [decide_eq_true_eq, decide_eq_false_iff_not, Bool.or_eq_false_iff, Bool.and_eq_true, Bool.or_eq_true, Bool.and_eq_false_iff, Bool.not_eq_true', Bool.not_eq_false']; omega))
              rw [e]
              exact fin1 (fun _ _ => rfl)
          · have h6' : (((decide (bt s 1 = 42) && decide (2 < k)) && decide (bt s k = 47)) && decide (bt s (k - 1) = 42)) = false := h6
            repeat (refine And.intro ?_ ?_; first | omega | (simp only [Lay.d_n]; omega) | (simp only [decide_eq_true_eq, decide_eq_false_iff_not, Bool.or_eq_false_iff, Bool.and_eq_true, Bool.or_eq_true, Bool.and_eq_false_iff, Bool.not_eq_true', Bool.not_eq_false', Lay.d_n]; omega) | (simp only [decide_eq_true_eq, decide_eq_false_iff_not, Bool.or_eq_false_iff, Bool.and_eq_true, Bool.or_eq_true, Bool.and_eq_false_iff, Bool.not_eq_true', Bool.not_eq_false']; omega))
            refine again (k + 1) [] (.of rfl rfl rfl rfl rfl rfl) ⟨by omega, by omega, .inr ⟨by omega, ?_⟩⟩ (by omega)
            rw [show k + 1 - 1 = k by omega]
            rcases g3 with ⟨c1, c2⟩ | ⟨c1, c2⟩
            · subst c1; exact c2
            · have hn : ¬ (bt s (k - 1) = 42 ∧ some (bt s k) = some (47 : Int)) := by
                rintro ⟨b3, b2⟩
                rw [decide_eq_true h42, decide_eq_true c1, decide_eq_true (Option.some.inj b2), decide_eq_true b3] at h6'; cases h6'
              have ec : Lx.endC (tl s (k - 1)) = if Lx.endC (tl s k) = 0 then 0 else Lx.endC (tl s k) + 1 := by
                rw [tl_cons (by omega) (by omega), endC_cons, show k - 1 + 1 = k by omega, tl_head (by omega) hk, if_neg hn]
              rw [ec, atE_up, show k - 1 + 1 = k by omega] at c2
              exact c2
      · have hk : ¬ k < (s.size : Int) := of_decide_eq_false h
        have e : N = -1 := by
          rcases g3 with ⟨c1, c2⟩ | ⟨c1, c2⟩
          · rw [c2, tl_nil (by omega)]; rfl
          · rw [c2, tl_cons (by omega) (by omega), endC_cons, tl_nil (by omega)]
            simp [Lx.endC, atE]
        repeat (refine And.intro ?_ ?_; first | omega | (simp only [Lay.d_n]; omega) | (simp only [decide_eq_true_eq, decide_eq_false_iff_not, Bool.or_eq_false_iff, Bool.and_eq_true, Bool.or_eq_true, Bool.and_eq_false_iff, Bool.not_eq_true', Bool.not_eq_false', Lay.d_n]; omega) | (simp only [decide_eq_true_eq, decide_eq_false_iff_not, Bool.or_eq_false_iff, Bool.and_eq_true, Bool.or_eq_true, Bool.and_eq_false_iff, Bool.not_eq_true', Bool.not_eq_false']; omega))
        refine x_iff (decide_eq_false h47) ?_
        rw [e]
        exact fin1 (fun _ _ => rfl)
end Go.Proofs.YtnjmkeijjapejaaGreat
namespace Go.Proofs.YtnjmkeijjapejaaGreat
open Go.GV Go.RowKit
def rtF (s : ByteArray) : Nat → Int → Bool → Int → List (Lx.Tk × Bool)
  | 0, _, _, _ => []
  | n + 1, st, sp, i => if i < s.size then
      (if Lx.white (bt s i) = true then rtF s n st true (i + 1)
      else if (itm s st i).err ≠ 0 then [(⟨0, 0, 0, (itm s st i).err⟩, sp)]
      else (⟨(itm s st i).kind, i.toNat, i.toNat + (itm s st i).len, 0⟩, sp) :: rtF s n (Lx.after st (itm s st i).kind ((tl s i).take (itm s st i).len)) false (i + (itm s st i).len))
    else []
theorem rtF_fuel (s : ByteArray) : ∀ (n m : Nat) (st : Int) (sp : Bool) (i : Int), 0 ≤ i → (s.size : Int) - i ≤ n → (s.size : Int) - i ≤ m → rtF s n st sp i = rtF s m st sp i
  | 0, 0, _, _, _, _, _, _ => rfl
  | 0, m + 1, st, sp, i, h0, h1, h2 => by rw [rtF, rtF, if_neg (by omega)]
  | n + 1, 0, st, sp, i, h0, h1, h2 => by rw [rtF, rtF, if_neg (by omega)]
  | n + 1, m + 1, st, sp, i, h0, h1, h2 => by
    rw [rtF, rtF]
    by_cases hi : i < s.size
    · rw [if_pos hi, if_pos hi, rtF_fuel s n m st true (i + 1) (by omega) (by omega) (by omega)]
      by_cases he : (itm s st i).err = 0
      · have := itm_le h0 hi he
        rw [rtF_fuel s n m _ false (i + (itm s st i).len) (by omega) (by omega) (by omega)]
      · rw [if_pos he, if_pos he]
    · rw [if_neg hi, if_neg hi]
def rtA (s : ByteArray) (st : Int) (sp : Bool) (i : Int) : List (Lx.Tk × Bool) := rtF s s.size st sp i
theorem rtA_nil {s : ByteArray} {st : Int} {sp : Bool} {i : Int} (h : s.size ≤ i) : rtA s st sp i = [] := by
  unfold rtA
  cases hn : s.size with
  | zero => rfl
  | succ n => rw [rtF, if_neg (by omega)]
theorem rtA_cons {s : ByteArray} {st : Int} {sp : Bool} {i : Int} (h0 : 0 ≤ i) (h : i < s.size) : rtA s st sp i =
    if Lx.white (bt s i) = true then rtA s st true (i + 1)
    else if (itm s st i).err ≠ 0 then [(⟨0, 0, 0, (itm s st i).err⟩, sp)]
    else (⟨(itm s st i).kind, i.toNat, i.toNat + (itm s st i).len, 0⟩, sp) :: rtA s (Lx.after st (itm s st i).kind ((tl s i).take (itm s st i).len)) false (i + (itm s st i).len) := by
  unfold rtA
  obtain ⟨n, hn⟩ : ∃ n, s.size = n + 1 := ⟨s.size - 1, by omega⟩
  conv => lhs; rw [hn, rtF, if_pos h]
  rw [rtF_fuel s n s.size st true (i + 1) (by omega) (by omega) (by omega)]
  by_cases he : (itm s st i).err = 0
  · have := itm_le h0 h he
    rw [rtF_fuel s n s.size _ false (i + (itm s st i).len) (by omega) (by omega) (by omega)]
  · rw [if_pos he, if_pos he]
theorem rtF_fst (s : ByteArray) : ∀ (n : Nat) (st : Int) (sp : Bool) (i : Int), 0 ≤ i → (s.size : Int) - i ≤ n → (rtF s n st sp i).map (·.1) = itA s st i
  | 0, st, sp, i, h0, h1 => by rw [rtF, itA_nil (by omega)]; rfl
  | n + 1, st, sp, i, h0, h1 => by
    rw [rtF]
    by_cases hi : i < s.size
    · rw [if_pos hi, itA_cons h0 hi]
      by_cases hw : Lx.white (bt s i) = true
      · rw [if_pos hw, if_pos hw]; exact rtF_fst s n st true (i + 1) (by omega) (by omega)
      · rw [if_neg hw, if_neg hw]
        by_cases he : (itm s st i).err = 0
        · have := itm_le h0 hi he
          rw [if_neg (by simpa using he), if_neg (by simpa using he), List.map_cons, rtF_fst s n _ false _ (by omega) (by omega)]
        · rw [if_pos he, if_pos he]; rfl
    · rw [if_neg hi, itA_nil (by omega)]; rfl
theorem rtA_fst (s : ByteArray) : (rtA s 0 false 0).map (·.1) = itsOf s := by
  rw [← itA_zero]; exact rtF_fst s _ _ _ _ (Int.le_refl _) (by omega)
abbrev hashW (x : ByteArray) : Prop := x = ⟨#[35]⟩ ∨ x = ⟨#[37, 58]⟩
def inclW : ByteArray := ⟨#[105, 110, 99, 108, 117, 100, 101]⟩
def Rel : List ByteArray → Int → Prop
  | [], st => st = 0
  | [x], st => (hashW x ∧ st = 1) ∨ (¬ hashW x ∧ st = 3)
  | [x, y], st => (hashW x ∧ y = inclW ∧ st = 2) ∨ (¬ (hashW x ∧ y = inclW) ∧ st = 3)
  | _ :: _ :: _ :: _, st => st = 3
def hdrW (W : List ByteArray) : Bool := decide ((W.length : Int) = 2) && (decide (W.getD 0 ⟨#[]⟩ = ⟨#[35]⟩) || decide (W.getD 0 ⟨#[]⟩ = ⟨#[37, 58]⟩)) && decide (W.getD 1 ⟨#[]⟩ = ⟨#[105, 110, 99, 108, 117, 100, 101]⟩)
theorem Rel.hdr {W : List ByteArray} {st : Int} (h : Rel W st) : hdrW W = decide (st = 2) := by
  match W, h with
  | [], h => have h : st = 0 := h; subst h; rfl
  | [x], h =>
    have : ¬ st = 2 := by rcases h with h | h <;> omega
    rw [decide_eq_false this]; rfl
  | [x, y], h =>
    rcases h with ⟨h1, h2, h3⟩ | ⟨h1, h2⟩
    · subst h3; subst h2
      rcases h1 with rfl | rfl <;> rfl
    · subst h2
      cases hh : hdrW [x, y] with
      | false => rfl
      | true =>
        refine absurd ?_ h1
        simp only [hdrW, Bool.and_eq_true, Bool.or_eq_true, decide_eq_true_eq] at hh
        exact ⟨hh.1.2, hh.2⟩
  | x :: y :: z :: r, h =>
    have h : st = 3 := h
    subst h
    unfold hdrW
    rw [decide_eq_false (by simp only [List.length_cons]; omega)]; rfl
theorem bestL_seven (l : Lx.Bs) : (Lx.bestL l).1 ≠ 7 := by
  unfold Lx.bestL
  have h := Lx.litQ_facts l
  split
  · rcases h with h | h
    · omega
    · rcases h.1 with h | h <;> omega
  · split
    · show (1 : Int) ≠ 7; decide
    · split
      · show (2 : Int) ≠ 7; decide
      · split
        · show (5 : Int) ≠ 7; decide
        · show (0 : Int) ≠ 7; decide
theorem hdrN_head {c : Int} {r : Lx.Bs} (h : 0 < Lx.hdrN (c :: r)) : c = 60 ∨ c = 34 := by
  simp only [Lx.hdrN] at h
  by_cases h1 : c = 60
  · exact .inl h1
  · rw [if_neg h1] at h
    by_cases h2 : c = 34
    · exact .inr h2
    · rw [if_neg h2] at h; omega
theorem item_seven {hdr : Bool} {c : Int} {r : Lx.Bs} (h : (Lx.itemP hdr (c :: r)).kind = 7) : c = 60 ∨ c = 34 := by
  rw [itemP_eq] at h
  split at h
  · rename_i h1; exact hdrN_head h1.2
  · split at h
    · split at h <;> simp at h
    · split at h
      · simp at h
      · unfold longL at h
        split at h
        · simp at h
        · split at h
          · exact absurd h (bestL_seven _)
          · split at h <;> simp at h
theorem one_hash : Lx.oneL [35] = some 5 := by decide
theorem one_hash2 : Lx.oneL [37, 58] = some 5 := by decide
theorem one_incl : Lx.oneL [105, 110, 99, 108, 117, 100, 101] = some 1 := by decide
theorem itm_one {s : ByteArray} {st i : Int} (h0 : 0 ≤ i) (h : i < s.size) (hw : Lx.white (bt s i) = false) (he : (itm s st i).err = 0) {t : Lx.Bs} (ht : (tl s i).take (itm s st i).len = t) {k c : Int}
    (hk : Lx.oneL t = some k) (hc : t.head? = some c) (hc1 : c ≠ 60) (hc2 : c ≠ 34) : (itm s st i).kind = k := by
  unfold itm at he ht ⊢
  have h1 := Lx.itemP_le (decide (st = 2)) (l := tl s i) (by rw [tl_cons h0 h]; simp)
  have h2 := h1.2 he
  rw [tl_cons h0 h] at he ht h2 ⊢
  have hb : bt s i = c := by
    rw [← ht, Lx.head_take (by omega)] at hc
    exact Option.some.inj hc
  have h7 : (Lx.itemP (decide (st = 2)) (bt s i :: tl s (i + 1))).kind ≠ 7 := fun h7 => by
    rcases item_seven h7 with h7 | h7
    · exact hc1 (hb.symm.trans h7)
    · exact hc2 (hb.symm.trans h7)
  have := Lx.one_of_item hw he h7
  rw [ht, hk] at this
  exact (Option.some.inj this).symm
theorem Rel.step {s : ByteArray} {W : List ByteArray} {st i : Int} (h : Rel W st) (h0 : 0 ≤ i) (hi : i < s.size) (hw : Lx.white (bt s i) = false) (he : (itm s st i).err = 0) (h8 : (itm s st i).kind ≠ 8) (h9 : (itm s st i).kind ≠ 9) :
    Rel (W ++ [sub s i (i + (itm s st i).len)]) (Lx.after st (itm s st i).kind ((tl s i).take (itm s st i).len)) := by
  obtain ⟨m1, m2⟩ := itm_le h0 hi he
  have hb : bl (sub s i (i + (itm s st i).len)) = (tl s i).take (itm s st i).len := by rw [bl_part s h0 (by omega) m2, Int.toNat_natCast]
  have k1 : hashW (sub s i (i + (itm s st i).len)) → (itm s st i).kind = 5 := by
    rintro (h | h)
    · exact itm_one h0 hi hw he (t := [35]) (by rw [← hb, h]; rfl) one_hash rfl (by decide) (by decide)
    · exact itm_one h0 hi hw he (t := [37, 58]) (by rw [← hb, h]; rfl) one_hash2 rfl (by decide) (by decide)
  have k2 : sub s i (i + (itm s st i).len) = inclW → (itm s st i).kind = 1 := fun h =>
    itm_one h0 hi hw he (t := [105, 110, 99, 108, 117, 100, 101]) (by rw [← hb, h]; rfl) one_incl rfl (by decide) (by decide)
  have t1 : ((tl s i).take (itm s st i).len = [35] ∨ (tl s i).take (itm s st i).len = [37, 58]) ↔ hashW (sub s i (i + (itm s st i).len)) := by
    rw [← hb]
    unfold hashW
    constructor
    · rintro (h | h)
      · exact .inl (bl_inj h)
      · exact .inr (bl_inj h)
    · rintro (h | h)
      · exact .inl (by rw [h]; rfl)
      · exact .inr (by rw [h]; rfl)
  have t2 : (tl s i).take (itm s st i).len = [105, 110, 99, 108, 117, 100, 101] ↔ sub s i (i + (itm s st i).len) = inclW := by
    rw [← hb]
    exact ⟨fun h => bl_inj h, fun h => by rw [h]; rfl⟩
  have ea : Lx.after st (itm s st i).kind ((tl s i).take (itm s st i).len) = if st = 0 ∧ (itm s st i).kind = 5 ∧ hashW (sub s i (i + (itm s st i).len)) then 1
      else if st = 1 ∧ (itm s st i).kind = 1 ∧ sub s i (i + (itm s st i).len) = inclW then 2 else 3 := by
    unfold Lx.after
    rw [if_neg h8, if_neg h9]
    simp only [t1, t2]
  rw [ea]
  generalize sub s i (i + (itm s st i).len) = t at k1 k2 ⊢
  match W, h with
  | [], h =>
    have h : st = 0 := h
    subst h
    by_cases hh : hashW t
    · rw [if_pos ⟨rfl, k1 hh, hh⟩]; exact .inl ⟨hh, rfl⟩
    · rw [if_neg (fun h => hh h.2.2), if_neg (fun h => by omega)]; exact .inr ⟨hh, rfl⟩
  | [x], h =>
    rcases h with ⟨h1, h2⟩ | ⟨h1, h2⟩
    · rw [if_neg (fun h => by omega)]
      by_cases hh : t = inclW
      · rw [if_pos ⟨h2, k2 hh, hh⟩]; exact .inl ⟨h1, hh, rfl⟩
      · rw [if_neg (fun h => hh h.2.2)]; exact .inr ⟨fun h => hh h.2, rfl⟩
    · rw [if_neg (fun h => by omega), if_neg (fun h => by omega)]
      exact .inr ⟨fun h => h1 h.1, rfl⟩
  | [x, y], h =>
    have : st = 2 ∨ st = 3 := by
      rcases h with h | h
      · exact .inl h.2.2
      · exact .inr h.2
    rw [if_neg (fun h => by omega), if_neg (fun h => by omega)]
    rfl
  | x :: y :: z :: r, h =>
    have h : st = 3 := h
    rw [if_neg (fun h => by omega), if_neg (fun h => by omega)]
    rfl
def errT : List (Lx.Tk × Bool) → Int
  | [] => 0
  | t :: r => if t.1.err ≠ 0 then t.1.err else errT r
def tokT (s : ByteArray) (p : Lx.Tk × Bool) : Tok := ⟨p.1.kind, sub s p.1.lo p.1.hi, p.1.lo, p.1.hi, p.2⟩
def rErr (s : ByteArray) : Int := errT (rtA s 0 false 0)
def rToks (s : ByteArray) : List Tok := if rErr s = 0 then (rtA s 0 false 0).map (tokT s) else []
end Go.Proofs.YtnjmkeijjapejaaGreat
namespace Go.Proofs.YtnjmkeijjapejaaGreat
open Go.GV Go.RowKit
set_option maxRecDepth 100000 in
theorem refTokens_any (s : ByteArray) (hz : s.size ≤ 4294967280) (w : World) :
    Calls Tryz.prog 48 #[.string s] w (PureP w (OwnT 82 (tokY.d (rToks s)) [.int .i64 (rErr s)])) := by
  refine x_fun tt_ok Tryz.func48 rfl rfl [] 0 [.v (.string s)] rfl rfl rfl rfl (fun b hb => by cases hb) ?_
  refine x_vc tt_ok ?_
  refine x_nil 4 82 tokY rfl ?_
  refine x_loop (σ := Int × Bool × List Tok × Bool × List ByteArray × Int) (fun (i, sp, T, wr, W, _) => ⟨[(7, .v (.bool sp)), (6, .v (.int .i64 i)), (5, cond wr (.r 2) (.v (.slice none 0 0))), (4, .r 1), (0, .v (.string s))], [],
      cond wr [(2, .row 9 (strY.d W)), (1, .row 82 (tokY.d T))] [(1, .row 82 (tokY.d T))], 3⟩)
    (fun (i, sp, T, wr, W, st) _ => 0 ≤ i ∧ i ≤ s.size ∧ (T.length : Int) ≤ i ∧ (W.length : Int) ≤ i ∧ (wr = false → W = []) ∧ Rel W st ∧ rErr s = errT (rtA s st sp i) ∧ (rErr s = 0 → rToks s = T ++ (rtA s st sp i).map (tokT s)))
    (fun (i, _) => (s.size - i).toNat) (fun (_, _, _, _, _, _) => by show 1 ≤ 3; decide) (0, false, [], false, [], 0) [(1, some 0)] (.of rfl rfl rfl rfl rfl rfl)
    ⟨by omega, by omega, by simp, by simp, fun _ => rfl, rfl, rfl, fun h => by rw [rToks, if_pos h]; rfl⟩ ?_
  rintro ⟨i, sp, T, wr, W, st⟩ u hu ⟨g1, g2, g3, g4, g5, g6, g7, g8⟩
  refine x_cut (σ := Unit) (fun _ => ⟨[(7, .v (.bool sp)), (6, .v (.int .i64 i)), (5, .r 3), (4, .r 1), (0, .v (.string s))], [], [(3, .row 9 (strY.d W)), (1, .row 82 (tokY.d T))], 4⟩)
    (fun _ _ => i < s.size) (fun _ => by show 3 ≤ 4; decide) ?_ ?_
  · cases wr with
    | true =>
      refine x_vc tt_ok ?_
      refine x_if (fun h => ?_) (fun h => ?_)
      · exact meet () [(3, some 2)] (.of rfl rfl rfl rfl rfl rfl) (of_decide_eq_true h)
      · have h2 := of_decide_eq_false h
        rw [rtA_nil (by omega)] at g7 g8
        have e1 : rErr s = 0 := g7
        have e2 : rToks s = T := by rw [g8 e1]; simp
        rw [e1, e2]
        exact finO2 (k := 1) rfl
    | false =>
      obtain rfl := g5 rfl
      refine x_nil 5 9 strY rfl ?_
      refine x_vc tt_ok ?_
      refine x_if (fun h => ?_) (fun h => ?_)
      · exact meet () [] (.of rfl rfl rfl rfl rfl rfl) (of_decide_eq_true h)
      · have h2 := of_decide_eq_false h
        rw [rtA_nil (by omega)] at g7 g8
        have e1 : rErr s = 0 := g7
        have e2 : rToks s = T := by rw [g8 e1]; simp
        rw [e1, e2]
        exact finO2 (k := 1) rfl
  · rintro _ u2 hu2 hi
    rw [rtA_cons g1 hi] at g7 g8
    have hbr : bl (sub s i s.size) = tl s i := bl_rest s g1 (by omega)
    have hsz : ((sub s i s.size).size : Int) = s.size - i := sub_size g1 (by omega) (Int.le_refl _)
    refine x_block ?_
    refine x_seq ?_
    refine x_vc tt_ok ?_
    repeat (refine And.intro ?_ ?_; first | omega | (simp only [Lay.d_n]; omega) | (simp only [decide_eq_true_eq, decide_eq_false_iff_not, Bool.or_eq_false_iff, Bool.and_eq_true, Bool.or_eq_true, Bool.and_eq_false_iff, Bool.not_eq_true', Bool.not_eq_false', Lay.d_n]; omega) | (simp only [decide_eq_true_eq, decide_eq_false_iff_not, Bool.or_eq_false_iff, Bool.and_eq_true, Bool.or_eq_true, Bool.and_eq_false_iff, Bool.not_eq_true', Bool.not_eq_false']; omega))
    refine xl_call0 (.bool (Lx.white (bt s i))) rfl rfl rfl rfl fn70 rfl rfl (fun E w F _ => whiteR_any _ w) ?_
    refine xl_go tt_ok ?_
    refine x_if (fun h => ?_) (fun h => ?_)
    · rw [if_pos h] at g7 g8
      repeat (refine And.intro ?_ ?_; first | omega | (simp only [Lay.d_n]; omega) | (simp only [decide_eq_true_eq, decide_eq_false_iff_not, Bool.or_eq_false_iff, Bool.and_eq_true, Bool.or_eq_true, Bool.and_eq_false_iff, Bool.not_eq_true', Bool.not_eq_false', Lay.d_n]; omega) | (simp only [decide_eq_true_eq, decide_eq_false_iff_not, Bool.or_eq_false_iff, Bool.and_eq_true, Bool.or_eq_true, Bool.and_eq_false_iff, Bool.not_eq_true', Bool.not_eq_false']; omega))
      exact again (i + 1, true, T, true, W, st) [(1, some 1), (2, some 3)] (.of rfl rfl rfl rfl rfl rfl) ⟨by omega, by omega, by omega, by omega, (fun h => by cases h), g6, g7, g8⟩ (by simp only; omega)
    · rw [if_neg (fun h2 => Bool.noConfusion (h2.symm.trans h))] at g7 g8
      have hitm : itm s st i = Lx.itemR (hdrW W) (tl s i) := by
        rw [Lx.itemR_eq _ (by rw [tl_cons g1 hi]; simp), g6.hdr]; rfl
      refine x_seq ?_
      refine x_vc tt_ok ?_
      refine x_seq ?_
      refine x_vc tt_ok ?_
      refine x_cut (σ := Int × Int) (fun (k, n) => ⟨[(9, .v (.int .i64 n)), (8, .v (.int .i64 k)), (7, .v (.bool sp)), (6, .v (.int .i64 i)), (5, .r 3), (4, .r 1), (0, .v (.string s))], [], [(3, .row 9 (strY.d W)), (1, .row 82 (tokY.d T))], 4⟩)
        (fun (k, n) _ => n = (if hdrW W = true then (Lx.hdrN (tl s i) : Int) else 0) ∧ (n ≠ 0 → k = 7)) (fun (_, _) => Nat.le_refl 4) ?_ ?_
      · refine x_vc tt_ok ?_
        repeat (refine And.intro ?_ ?_; first | omega | (simp only [Lay.d_n]; omega) | (simp only [decide_eq_true_eq, decide_eq_false_iff_not, Bool.or_eq_false_iff, Bool.and_eq_true, Bool.or_eq_true, Bool.and_eq_false_iff, Bool.not_eq_true', Bool.not_eq_false', Lay.d_n]; omega) | (simp only [decide_eq_true_eq, decide_eq_false_iff_not, Bool.or_eq_false_iff, Bool.and_eq_true, Bool.or_eq_true, Bool.and_eq_false_iff, Bool.not_eq_true', Bool.not_eq_false']; omega))
        refine x_if (fun h3 => ?_) (fun h3 => ?_)
        · have h3' : hdrW W = true := h3
          repeat (refine And.intro ?_ ?_; first | omega | (simp only [Lay.d_n]; omega) | (simp only [decide_eq_true_eq, decide_eq_false_iff_not, Bool.or_eq_false_iff, Bool.and_eq_true, Bool.or_eq_true, Bool.and_eq_false_iff, Bool.not_eq_true', Bool.not_eq_false', Lay.d_n]; omega) | (simp only [decide_eq_true_eq, decide_eq_false_iff_not, Bool.or_eq_false_iff, Bool.and_eq_true, Bool.or_eq_true, Bool.and_eq_false_iff, Bool.not_eq_true', Bool.not_eq_false']; omega))
          refine xl_call0 (.int .i64 (Lx.hdrN (tl s i))) rfl rfl rfl rfl fn71 rfl rfl (fun E w F _ => by rw [← hbr]; exact named_any _ (by omega) (by omega) w) ?_
          refine xl_go tt_ok ?_
          exact meet (7, (Lx.hdrN (tl s i) : Int)) [] (.of rfl rfl rfl rfl rfl rfl) ⟨by rw [if_pos h3'], fun _ => rfl⟩
        · have h3' : hdrW W = false := h3
          exact meet (0, 0) [] (.of rfl rfl rfl rfl rfl rfl) ⟨by rw [h3']; rfl, fun h => absurd rfl h⟩
      · rintro ⟨k, n⟩ u3 hu3 ⟨n1, n2⟩
        refine x_cut (σ := Int × Int) (fun (k, n) => ⟨[(9, .v (.int .i64 n)), (8, .v (.int .i64 k)), (7, .v (.bool sp)), (6, .v (.int .i64 i)), (5, .r 3), (4, .r 1), (0, .v (.string s))], [], [(3, .row 9 (strY.d W)), (1, .row 82 (tokY.d T))], 4⟩)
          (fun (k, n) _ => ((if hdrW W = true then (Lx.hdrN (tl s i) : Int) else 0) ≠ 0 ∧ k = 7 ∧ n = (if hdrW W = true then (Lx.hdrN (tl s i) : Int) else 0)) ∨ ((if hdrW W = true then (Lx.hdrN (tl s i) : Int) else 0) = 0 ∧ k = 8 ∧ n = Lx.remR (tl s i)))
          (fun (_, _) => Nat.le_refl 4) ?_ ?_
        · refine x_vc tt_ok ?_
          refine x_if (fun h3 => ?_) (fun h3 => ?_)
          · have h3 := of_decide_eq_true h3
            repeat (refine And.intro ?_ ?_; first | omega | (simp only [Lay.d_n]; omega) | (simp only [decide_eq_true_eq, decide_eq_false_iff_not, Bool.or_eq_false_iff, Bool.and_eq_true, Bool.or_eq_true, Bool.and_eq_false_iff, Bool.not_eq_true', Bool.not_eq_false', Lay.d_n]; omega) | (simp only [decide_eq_true_eq, decide_eq_false_iff_not, Bool.or_eq_false_iff, Bool.and_eq_true, Bool.or_eq_true, Bool.and_eq_false_iff, Bool.not_eq_true', Bool.not_eq_false']; omega))
            refine xl_call0 (.int .i64 (Lx.remR (tl s i))) rfl rfl rfl rfl fn72 rfl rfl (fun E w F _ => by rw [← hbr]; exact remark_any _ (by omega) (by omega) w) ?_
            refine xl_go tt_ok ?_
            exact meet (8, Lx.remR (tl s i)) [] (.of rfl rfl rfl rfl rfl rfl) (.inr ⟨by rw [← n1]; exact h3, rfl, rfl⟩)
          · have h3 := of_decide_eq_false h3
            exact meet (k, n) [] (.of rfl rfl rfl rfl rfl rfl) (.inl ⟨by rw [← n1]; exact h3, n2 h3, n1⟩)
        · clear n1 n2
          rintro ⟨k, n⟩ u4 hu4 hn
          replace hn : ((if hdrW W = true then (Lx.hdrN (tl s i) : Int) else 0) ≠ 0 ∧ k = 7 ∧ n = (if hdrW W = true then (Lx.hdrN (tl s i) : Int) else 0)) ∨ ((if hdrW W = true then (Lx.hdrN (tl s i) : Int) else 0) = 0 ∧ k = 8 ∧ n = Lx.remR (tl s i)) := hn
          unfold Lx.itemR at hitm
          simp only at hitm
          generalize hn0 : (if hdrW W = true then (Lx.hdrN (tl s i) : Int) else 0) = n0 at hn hitm
          have hn0' : 0 ≤ n0 := by rw [← hn0]; split <;> omega
          clear hn0
          have hnil : ∀ e : Int, (itm s st i).err = e → e ≠ 0 → rErr s = e ∧ rToks s = [] := by
            intro e he1 he2
            rw [if_pos (by rw [he1]; exact he2)] at g7
            have : rErr s = e := by
              rw [g7, errT, if_pos (by rw [he1]; exact he2)]; exact he1
            exact ⟨this, by rw [rToks, if_neg (by rw [this]; exact he2)]⟩
          refine x_seq ?_
          refine x_vc tt_ok ?_
          refine x_if (fun h3 => ?_) (fun h3 => ?_)
          · have h3 := of_decide_eq_true h3
            obtain ⟨e1, e2⟩ := hnil 20 (by
              rcases hn with ⟨b1, b2, b3⟩ | ⟨b1, b2, b3⟩
              · omega
              · rw [hitm, if_neg (by simpa using b1), if_pos (by omega)]) (by decide)
            rw [e1, e2]
            exact finO2n tokY
          · have h3 := of_decide_eq_false h3
            refine x_cut (σ := Int × Int) (fun (k, n) => ⟨[(9, .v (.int .i64 n)), (8, .v (.int .i64 k)), (7, .v (.bool sp)), (6, .v (.int .i64 i)), (5, .r 3), (4, .r 1), (0, .v (.string s))], [], [(3, .row 9 (strY.d W)), (1, .row 82 (tokY.d T))], 4⟩)
              (fun (k, n) _ => 0 ≤ n ∧ (n = 0 → itm s st i = ⟨0, 0, 21⟩) ∧ (n ≠ 0 → itm s st i = ⟨k, n.toNat, 0⟩))
              (fun (_, _) => Nat.le_refl 4) ?_ ?_
            · refine x_vc tt_ok ?_
              refine x_if (fun h4 => ?_) (fun h4 => ?_)
              · have h4 := of_decide_eq_true h4
                repeat (refine And.intro ?_ ?_; first | omega | (simp only [Lay.d_n]; omega) | (simp only [decide_eq_true_eq, decide_eq_false_iff_not, Bool.or_eq_false_iff, Bool.and_eq_true, Bool.or_eq_true, Bool.and_eq_false_iff, Bool.not_eq_true', Bool.not_eq_false', Lay.d_n]; omega) | (simp only [decide_eq_true_eq, decide_eq_false_iff_not, Bool.or_eq_false_iff, Bool.and_eq_true, Bool.or_eq_true, Bool.and_eq_false_iff, Bool.not_eq_true', Bool.not_eq_false']; omega))
                refine xl_call0 (.tuple #[.int .i64 (Lx.longR (tl s i)).1, .int .i64 (Lx.longR (tl s i)).2]) rfl rfl rfl rfl fn73 rfl rfl (fun E w F _ => by rw [← hbr]; exact longR_any _ (by omega) (by omega) w) ?_
                refine xl_go tt_ok ?_
                refine meet ((Lx.longR (tl s i)).1, ((Lx.longR (tl s i)).2 : Int)) [] (.of rfl rfl rfl rfl rfl rfl) ⟨by omega, fun h5 => ?_, fun h5 => ?_⟩
                · rcases hn with ⟨b1, b2, b3⟩ | ⟨b1, b2, b3⟩
                  · omega
                  · rw [hitm, if_neg (by simpa using b1), if_neg (by omega), if_neg (by omega), if_pos (by omega)]
                · rcases hn with ⟨b1, b2, b3⟩ | ⟨b1, b2, b3⟩
                  · omega
                  · rw [hitm, if_neg (by simpa using b1), if_neg (by omega), if_neg (by omega), if_neg (by omega)]
                    simp
              · have h4 := of_decide_eq_false h4
                refine meet (k, n) [] (.of rfl rfl rfl rfl rfl rfl) ⟨by omega, fun h5 => absurd h5 h4, fun _ => ?_⟩
                rcases hn with ⟨b1, b2, b3⟩ | ⟨b1, b2, b3⟩
                · rw [hitm, if_pos b1, b2, b3]
                · rw [hitm, if_neg (by simpa using b1), if_neg (by omega), if_pos (by omega), b2, b3]
            · clear hn h3 hitm
              rintro ⟨k, n⟩ u5 hu5 ⟨c0, c1, c2⟩
              refine x_seq ?_
              refine x_vc tt_ok ?_
              refine x_if (fun h3 => ?_) (fun h3 => ?_)
              · have h3 := of_decide_eq_true h3
                obtain ⟨e1, e2⟩ := hnil 21 (by rw [c1 h3]) (by decide)
                rw [e1, e2]
                exact finO2n tokY
              · have h3 := of_decide_eq_false h3
                have hI := c2 h3
                have hle := itm_le g1 hi (by rw [hI])
                rw [hI] at hle
                have hle : 1 ≤ n.toNat ∧ i + (n.toNat : Int) ≤ s.size := hle
                have hnn : (n.toNat : Int) = n := Int.toNat_of_nonneg c0
                rw [hnn] at hle
                have e7 : rErr s = errT (rtA s (Lx.after st k ((tl s i).take n.toNat)) false (i + n)) := by
                  rw [g7, if_neg (by rw [hI]; simp), errT, if_neg (by simp), hI]
                  simp only
                  rw [hnn]
                have e8 : rErr s = 0 → rToks s = (T ++ [(⟨k, sub s i (i + n), i, i + n, sp⟩ : Tok)]) ++ (rtA s (Lx.after st k ((tl s i).take n.toNat)) false (i + n)).map (tokT s) := by
                  intro h0
                  rw [g8 h0, if_neg (by rw [hI]; simp), List.map_cons, hI, List.append_assoc]
                  simp only [tokT, List.cons_append, List.nil_append]
                  rw [hnn, show ((i.toNat : Nat) : Int) = i by omega, show ((i.toNat + n.toNat : Nat) : Int) = i + n by omega]
                have hkd : (itm s st i).kind = k := by rw [hI]
                have hln : (itm s st i).len = n.toNat := by rw [hI]
                clear g7 g8 hnil c1 c2
                refine x_seq ?_
                refine x_vc tt_ok ?_
                repeat (refine And.intro ?_ ?_; first | omega | (simp only [Lay.d_n]; omega) | (simp only [decide_eq_true_eq, decide_eq_false_iff_not, Bool.or_eq_false_iff, Bool.and_eq_true, Bool.or_eq_true, Bool.and_eq_false_iff, Bool.not_eq_true', Bool.not_eq_false', Lay.d_n]; omega) | (simp only [decide_eq_true_eq, decide_eq_false_iff_not, Bool.or_eq_false_iff, Bool.and_eq_true, Bool.or_eq_true, Bool.and_eq_false_iff, Bool.not_eq_true', Bool.not_eq_false']; omega))
                refine xl_push tt_ok tokY T ⟨k, sub s i (i + n), i, i + n, sp⟩ 48 rfl rfl rfl rfl rfl rfl rfl rfl rfl rfl rfl rfl (by kernel_rfl) rfl rfl rfl rfl rfl (fun n hn => by cases hn; decide) rfl rfl rfl (by omega) (by omega) ?_
                refine xl_go tt_ok ?_
                have hT' : ((T ++ [(⟨k, sub s i (i + n), i, i + n, sp⟩ : Tok)]).length : Int) ≤ i + n := by
                  rw [List.length_append]; simp only [List.length_cons, List.length_nil]; omega
                refine x_vc tt_ok ?_
                refine x_if (fun h4 => ?_) (fun h4 => ?_)
                · have h4 := of_decide_eq_true h4
                  repeat (refine And.intro ?_ ?_; first | omega | (simp only [Lay.d_n]; omega) | (simp only [decide_eq_true_eq, decide_eq_false_iff_not, Bool.or_eq_false_iff, Bool.and_eq_true, Bool.or_eq_true, Bool.and_eq_false_iff, Bool.not_eq_true', Bool.not_eq_false', Lay.d_n]; omega) | (simp only [decide_eq_true_eq, decide_eq_false_iff_not, Bool.or_eq_false_iff, Bool.and_eq_true, Bool.or_eq_true, Bool.and_eq_false_iff, Bool.not_eq_true', Bool.not_eq_false']; omega))
                  have ha : Lx.after st k ((tl s i).take n.toNat) = 0 := by
                    unfold Lx.after; rw [if_neg (by omega), if_pos h4]
                  rw [ha] at e7 e8
                  exact again (i + n, false, T ++ [(⟨k, sub s i (i + n), i, i + n, sp⟩ : Tok)], false, [], 0) [(1, some 4)] (.of rfl rfl rfl rfl rfl rfl) ⟨by omega, by omega, hT', by simp; omega, (fun _ => rfl), rfl, e7, e8⟩ (by simp only; omega)
                · have h4 := of_decide_eq_false h4
                  refine x_if (fun h5 => ?_) (fun h5 => ?_)
                  · have h5 := of_decide_eq_true h5
                    have hR := g6.step g1 hi h (by rw [hI]) (by rw [hkd]; exact h5) (by rw [hkd]; exact h4)
                    rw [hkd, hln, hnn] at hR
                    repeat (refine And.intro ?_ ?_; first | omega | (simp only [Lay.d_n]; omega) | (simp only [decide_eq_true_eq, decide_eq_false_iff_not, Bool.or_eq_false_iff, Bool.and_eq_true, Bool.or_eq_true, Bool.and_eq_false_iff, Bool.not_eq_true', Bool.not_eq_false', Lay.d_n]; omega) | (simp only [decide_eq_true_eq, decide_eq_false_iff_not, Bool.or_eq_false_iff, Bool.and_eq_true, Bool.or_eq_true, Bool.and_eq_false_iff, Bool.not_eq_true', Bool.not_eq_false']; omega))
                    refine xl_push tt_ok strY W (sub s i (i + n)) 16 rfl rfl rfl rfl rfl rfl rfl rfl rfl rfl rfl rfl (by kernel_rfl) rfl rfl rfl rfl rfl (fun n hn => by cases hn; decide) rfl rfl rfl (by omega) (by omega) ?_
                    refine xl_go tt_ok ?_
                    repeat (refine And.intro ?_ ?_; first | omega | (simp only [Lay.d_n]; omega) | (simp only [decide_eq_true_eq, decide_eq_false_iff_not, Bool.or_eq_false_iff, Bool.and_eq_true, Bool.or_eq_true, Bool.and_eq_false_iff, Bool.not_eq_true', Bool.not_eq_false', Lay.d_n]; omega) | (simp only [decide_eq_true_eq, decide_eq_false_iff_not, Bool.or_eq_false_iff, Bool.and_eq_true, Bool.or_eq_true, Bool.and_eq_false_iff, Bool.not_eq_true', Bool.not_eq_false']; omega))
                    exact again (i + n, false, T ++ [(⟨k, sub s i (i + n), i, i + n, sp⟩ : Tok)], true, W ++ [sub s i (i + n)], Lx.after st k ((tl s i).take n.toNat)) [(1, some 4), (2, some 5)] (.of rfl rfl rfl rfl rfl rfl)
                      ⟨by omega, by omega, hT', by rw [List.length_append]; simp only [List.length_cons, List.length_nil]; omega, (fun h => by cases h), hR, e7, e8⟩ (by simp only; omega)
                  · have h5 : k = 8 := Classical.not_not.1 (of_decide_eq_false h5)
                    repeat (refine And.intro ?_ ?_; first | omega | (simp only [Lay.d_n]; omega) | (simp only [decide_eq_true_eq, decide_eq_false_iff_not, Bool.or_eq_false_iff, Bool.and_eq_true, Bool.or_eq_true, Bool.and_eq_false_iff, Bool.not_eq_true', Bool.not_eq_false', Lay.d_n]; omega) | (simp only [decide_eq_true_eq, decide_eq_false_iff_not, Bool.or_eq_false_iff, Bool.and_eq_true, Bool.or_eq_true, Bool.and_eq_false_iff, Bool.not_eq_true', Bool.not_eq_false']; omega))
                    have ha : Lx.after st k ((tl s i).take n.toNat) = st := by
                      unfold Lx.after; rw [if_pos h5]
                    rw [ha] at e7 e8
                    exact again (i + n, false, T ++ [(⟨k, sub s i (i + n), i, i + n, sp⟩ : Tok)], true, W, st) [(1, some 4), (2, some 3)] (.of rfl rfl rfl rfl rfl rfl) ⟨by omega, by omega, hT', by omega, (fun h => by cases h), g6, e7, e8⟩ (by simp only; omega)
end Go.Proofs.YtnjmkeijjapejaaGreat
namespace Go.Proofs.YtnjmkeijjapejaaGreat
open Go.GV Go.RowKit
end Go.Proofs.YtnjmkeijjapejaaGreat
namespace Go.Proofs.YtnjmkeijjapejaaGreat
open Go.GV Go.RowKit
end Go.Proofs.YtnjmkeijjapejaaGreat
namespace Go.Proofs.YtnjmkeijjapejaaGreat
open Go.GV Go.RowKit
end Go.Proofs.YtnjmkeijjapejaaGreat
namespace Go.Proofs.YtnjmkeijjapejaaGreat
open Go.GV Go.RowKit
end Go.Proofs.YtnjmkeijjapejaaGreat
namespace Go.Proofs.YtnjmkeijjapejaaGreat
open Go.GV Go.RowKit
def saysV (r : RowV) (t : List Tok) : List Tok :=
  if r.dir = true then (bareFrom false t).drop (if r.name = ⟨#[]⟩ then 1 else 2) else bareFrom false t
theorem pureSl {w : World} {e : TypeId} {D : GV.Data} {E : Ending} {w' : World} (h : PureP w (fun v u => OwnAt u v e D) E w') : PureP w (fun v u => SlAt u v D) E w' := by
  obtain ⟨v, h1, h2, h3⟩ := h
  exact ⟨v, h1, h2, h3.slAt⟩
theorem refBare_sl (L : List Tok) (x : Value) (w : World) (hx : SlAt (im w) x (tokY.d L)) (hL : L.length * 48 ≤ 140737488355328) :
    Calls Tryz.prog 49 #[x] w (PureP w fun v u => SlAt u v (tokY.d (bareFrom false L))) := (refBare_any L x w hx hL).mono fun _ _ => pureSl
set_option maxRecDepth 100000 in
theorem refSays_any (r : RowV) (t : List Tok) (w : World) (hx : SlAt (im w) r.toks (tokY.d t)) (hL : t.length * 48 ≤ 140737488355328) :
    Calls Tryz.prog 22 #[.agg #[.bool r.dir, .string r.name, .slice r.ta r.tn r.tc]] w (PureP w fun v u => SlAt u v (tokY.d (saysV r t))) := by
  have hb := bareFrom_le false t
  refine x_fun tt_ok Tryz.func22 rfl rfl [] 0 [.v (.agg #[.bool r.dir, .string r.name, .slice r.ta r.tn r.tc])] rfl rfl rfl rfl (fun b hb => by cases hb) ?_
  refine x_vc tt_ok ?_
  refine xl_callV (tokY.d (bareFrom false t)) rfl rfl rfl rfl fn49 rfl rfl (fun E w F hs => refBare_sl t _ w (hx.imm hs.imm) hL) (fun A c u hu hb1 => ?_)
  refine xl_go tt_ok ?_
  generalize hB : bareFrom false t = B at hb1 hb ⊢
  refine x_if (fun h => ?_) (fun h => ?_)
  · have h1 : (r.dir && decide (0 < (B.length : Int))) = true := h
    rw [Bool.and_eq_true, decide_eq_true_eq] at h1
    refine xl_from tt_ok tokY B rfl rfl rfl rfl rfl rfl rfl rfl rfl rfl (fun E w F hs => hb1) (by omega) (by omega) (fun A2 c2 hb2 => ?_)
    refine xl_go tt_ok ?_
    refine x_if (fun h2 => ?_) (fun h2 => ?_)
    · have h3 : (decide (0 < (r.name.size : Int)) && decide (0 < ((B.length - (1 : Int).toNat : Nat) : Int))) = true := h2
      rw [Bool.and_eq_true, decide_eq_true_eq, decide_eq_true_eq] at h3
      refine xl_from tt_ok tokY (B.drop 1) rfl rfl rfl rfl rfl rfl rfl rfl rfl rfl (fun E w F hs => hb2) (by omega) (by simp; omega) (fun A3 c3 hb3 => ?_)
      refine xl_go tt_ok ?_
      have e : saysV r t = (B.drop 1).drop (1 : Int).toNat := by
        have hn : ¬ r.name = ⟨#[]⟩ := fun hn => by
          rw [hn] at h3
          have h0 : (⟨#[]⟩ : ByteArray).size = 0 := rfl
          omega
        simp [saysV, h1.1, hB, hn]
      rw [e]
      exact finS hb3
    · have h3 : (decide (0 < (r.name.size : Int)) && decide (0 < ((B.length - (1 : Int).toNat : Nat) : Int))) = false := h2
      have e : saysV r t = B.drop (1 : Int).toNat := by
        rw [Bool.and_eq_false_iff, decide_eq_false_iff_not, decide_eq_false_iff_not] at h3
        simp only [saysV, h1.1, hB, if_true]
        rcases h3 with h3 | h3
        · have hn : r.name = ⟨#[]⟩ := by
            have : r.name.size = 0 := by omega
            exact ByteArray.size_eq_zero_iff.1 this
          rw [if_pos hn]; rfl
        · split
          · rfl
          · rw [List.drop_eq_nil_of_le (by omega), List.drop_eq_nil_of_le (by omega)]
      rw [e]
      exact finS hb2
  · have h1 : (r.dir && decide (0 < (B.length : Int))) = false := h
    have e : saysV r t = B := by
      rw [Bool.and_eq_false_iff, decide_eq_false_iff_not] at h1
      simp only [saysV, hB]
      rcases h1 with h1 | h1
      · rw [h1]; rfl
      · have : B = [] := List.eq_nil_of_length_eq_zero (by omega)
        subst this; simp
    rw [e]
    exact finS hb1
end Go.Proofs.YtnjmkeijjapejaaGreat
namespace Go.Proofs.YtnjmkeijjapejaaGreat
open Go.GV Go.RowKit
def byC (c : Chr) : UInt8 := UInt8.ofNat c.b.toNat
def logB (s : ByteArray) : ByteArray := ⟨((charsOf s).map byC).toArray⟩
def errK : List Lx.Tk → Int
  | [] => 0
  | t :: r => if t.err ≠ 0 then t.err else errK r
def tks (C : List Chr) (l : ByteArray) : Int → List Lx.Tk → List Tok
  | _, [] => []
  | n, t :: r => ⟨t.kind, sub l t.lo t.hi, (C.getD t.lo charY.dft).pos, (C.getD ((t.hi : Int) - 1).toNat charY.dft).pos + (C.getD ((t.hi : Int) - 1).toNat charY.dft).len, decide (n < t.lo)⟩ :: tks C l t.hi r
def scanE (s : ByteArray) : Int := if checkE s ≠ 0 then checkE s else errK (itsOf (logB s))
def scanT (s : ByteArray) : List Tok := if scanE s = 0 then tks (charsOf s) (logB s) 0 (itsOf (logB s)) else []
theorem logB_size (s : ByteArray) : (logB s).size = (charsOf s).length := by
  show (((charsOf s).map byC).toArray).size = _
  simp
theorem third_range (c : Int) : 0 ≤ third c ∧ third c ≤ 255 := by
  unfold third
  (repeat' split) <;> (constructor <;> omega)
theorem partP_b (s : ByteArray) (i : Int) : 0 ≤ (partP s i).b ∧ (partP s i).b ≤ 255 := by
  unfold partP
  split
  · exact ⟨Int.le_refl _, by show (0 : Int) ≤ 255; decide⟩
  · show 0 ≤ chB s i ∧ chB s i ≤ 255
    unfold chB
    split
    · exact third_range _
    · exact bt_range s i
theorem partsF_b (s : ByteArray) : ∀ (n : Nat) (i : Int), ∀ p ∈ partsF s n i, 0 ≤ p.b ∧ p.b ≤ 255
  | 0, _, p, hp => by cases hp
  | n + 1, i, p, hp => by
    rw [partsF] at hp
    split at hp
    · rcases List.mem_cons.1 hp with rfl | hp
      · exact partP_b s i
      · exact partsF_b s n _ p hp
    · cases hp
theorem chrsL_b : ∀ (L : List Part), (∀ p ∈ L, 0 ≤ p.b ∧ p.b ≤ 255) → ∀ c ∈ chrsL L, 0 ≤ c.b ∧ c.b ≤ 255
  | [], _, c, hc => by cases hc
  | p :: r, h, c, hc => by
    rw [chrsL] at hc
    split at hc
    · exact chrsL_b r (fun p hp => h p (List.mem_cons_of_mem _ hp)) c hc
    · rcases List.mem_cons.1 hc with rfl | hc
      · exact h p (List.mem_cons_self ..)
      · exact chrsL_b r (fun p hp => h p (List.mem_cons_of_mem _ hp)) c hc
theorem charsOf_b {s : ByteArray} {c : Chr} (h : c ∈ charsOf s) : 0 ≤ c.b ∧ c.b ≤ 255 := by
  unfold charsOf at h
  split at h
  · exact chrsL_b _ (partsF_b s _ _) c h
  · cases h
theorem chrsL_mem : ∀ (L : List Part) (c : Chr), c ∈ chrsL L → ∃ p ∈ L, c = ⟨p.b, p.pos, p.len⟩
  | [], c, hc => by cases hc
  | p :: r, c, hc => by
    rw [chrsL] at hc
    split at hc
    · obtain ⟨q, hq, e⟩ := chrsL_mem r c hc
      exact ⟨q, List.mem_cons_of_mem _ hq, e⟩
    · rcases List.mem_cons.1 hc with rfl | hc
      · exact ⟨p, List.mem_cons_self .., rfl⟩
      · obtain ⟨q, hq, e⟩ := chrsL_mem r c hc
        exact ⟨q, List.mem_cons_of_mem _ hq, e⟩
theorem charsOf_pos {s : ByteArray} {c : Chr} (h : c ∈ charsOf s) : 0 ≤ c.pos ∧ 1 ≤ c.len ∧ c.pos + c.len ≤ s.size := by
  unfold charsOf at h
  split at h
  · obtain ⟨p, hp, rfl⟩ := chrsL_mem _ c h
    have := partsV_mem hp
    exact ⟨this.1, this.2.2.1, this.2.2.2.1⟩
  · cases h
theorem byC_nat {c : Chr} (h : 0 ≤ c.b ∧ c.b ≤ 255) : ((byC c).toNat : Int) = c.b := by
  unfold byC
  rw [UInt8.toNat_ofNat']
  omega
set_option maxRecDepth 100000 in
theorem scan_any (s : ByteArray) (w : World) (hs : s.size ≤ 9223372036854775807) (hg : Glob (im w)) : Calls Tryz.prog 13 #[.string s] w (PureP w (OwnT 82 (tokY.d (scanT s)) [.int .i64 (scanE s)])) := by
  refine x_fun tt_ok Tryz.func13 rfl rfl [] 0 [.v (.string s)] rfl rfl rfl rfl (fun b hb => by cases hb) ?_
  refine x_vc tt_ok ?_
  refine xl_callO2 75 (charY.d (charsOf s)) [.int .i64 (checkE s)] rfl rfl rfl rfl fn34 rfl rfl (fun E w F _ => chars_any s w hs) ?_
  refine xl_go tt_ok ?_
  refine x_if (fun h => ?_) (fun h => ?_)
  · have h := of_decide_eq_true h
    have e1 : scanE s = checkE s := by rw [scanE, if_pos h]
    have e2 : scanT s = [] := by rw [scanT, e1, if_neg h]
    rw [e1, e2]
    exact finO2n tokY
  · have h : checkE s = 0 := Classical.not_not.1 (of_decide_eq_false h)
    have hsz := checkE_size h
    have e1 : scanE s = errK (itsOf (logB s)) := by rw [scanE, if_neg (by simpa using h)]
    have hcl : (charsOf s).length ≤ 65536 := by
      have h2 : charsOf s = chrsL (partsV s) := by rw [charsOf, if_pos h]
      rw [h2]
      exact Nat.le_trans (chrsL_len _) (Nat.le_trans (partsV_len s) hsz)
    obtain ⟨C, hC⟩ : ∃ C, C = charsOf s := ⟨_, rfl⟩
    have hl : logB s = ⟨(C.map byC).toArray⟩ := by rw [hC]; rfl
    have hCb : ∀ c ∈ C, 0 ≤ c.b ∧ c.b ≤ 255 := fun c hc => charsOf_b (hC ▸ hc)
    have hCp : ∀ c ∈ C, 0 ≤ c.pos ∧ 1 ≤ c.len ∧ c.pos + c.len ≤ s.size := fun c hc => charsOf_pos (hC ▸ hc)
    have e2 : scanT s = if scanE s = 0 then tks C (logB s) 0 (itsOf (logB s)) else [] := by rw [hC]; rfl
    have hls := logB_size s
    rw [← hC] at hcl hls ⊢
    clear hC
    refine xl_makeN tt_ok byteY (0 : UInt8) (.int .u8 0) 1 C.length rfl rfl rfl rfl rfl rfl rfl rfl rfl rfl (by kernel_rfl) rfl rfl rfl (by omega) (by omega) ?_
    refine xl_go tt_ok ?_
    refine x_loop (σ := Int × List UInt8) (fun (k, L) => ⟨[(28, .v (.int .i64 k)), (27, .v (.int .i64 C.length)), (26, .r 2), (6, .r 4), (4, .p 3 0), (3, .p 1 0), (2, .p 0 0)], [],
        [(0, .box 39 [.v (.slice none 0 0)]), (1, .box 28 [.v (.int .i64 0)]), (2, .row 75 (charY.d C)), (3, .box 71 [.r 2]), (4, .row 5 (byteY.d L))], 5⟩)
      (fun (k, L) _ => 0 ≤ k ∧ k ≤ C.length ∧ L.length = C.length ∧ L.take k.toNat = (C.take k.toNat).map byC) (fun (k, _) => (C.length - k).toNat) (fun (_, _) => Nat.le_refl _) (0, List.replicate C.length 0) [] (.of rfl rfl rfl rfl rfl rfl)
      ⟨by omega, by omega, by simp, by simp⟩ ?_
    rintro ⟨k, L⟩ u hu ⟨g1, g2, g3, g4⟩
    refine x_vc tt_ok ?_
    refine x_if (fun h3 => ?_) (fun h3 => ?_)
    · have h3 : k < C.length := of_decide_eq_true h3
      have hkl : k.toNat < C.length := by omega
      have hm : C.getD k.toNat charY.dft ∈ C := by
        rw [List.getD_eq_getElem?_getD, List.getElem?_eq_getElem hkl]; exact List.getElem_mem _
      have hbn := byC_nat (hCb _ hm)
      repeat (refine And.intro ?_ ?_; first | omega | (simp only [Lay.d_n]; omega) | (simp only [decide_eq_true_eq, decide_eq_false_iff_not, Bool.or_eq_false_iff, Bool.and_eq_true, Bool.or_eq_true, Bool.and_eq_false_iff, Bool.not_eq_true', Bool.not_eq_false', Lay.d_n]; omega) | (simp only [decide_eq_true_eq, decide_eq_false_iff_not, Bool.or_eq_false_iff, Bool.and_eq_true, Bool.or_eq_true, Bool.and_eq_false_iff, Bool.not_eq_true', Bool.not_eq_false']; omega))
      refine xl_set tt_ok byteY L (byC (C.getD k.toNat charY.dft)) (cs := [.int .u8 (C.getD k.toNat charY.dft).b]) rfl rfl rfl rfl rfl rfl rfl g1 (by rw [g3]; exact h3) rfl rfl (Nat.le_refl 1) (by show [Value.int .u8 ((byC (C.getD k.toNat charY.dft)).toNat : Int)] = [Value.int .u8 (C.getD k.toNat charY.dft).b]; rw [hbn]) ?_
      refine xl_go tt_ok ?_
      repeat (refine And.intro ?_ ?_; first | omega | (simp only [Lay.d_n]; omega) | (simp only [decide_eq_true_eq, decide_eq_false_iff_not, Bool.or_eq_false_iff, Bool.and_eq_true, Bool.or_eq_true, Bool.and_eq_false_iff, Bool.not_eq_true', Bool.not_eq_false', Lay.d_n]; omega) | (simp only [decide_eq_true_eq, decide_eq_false_iff_not, Bool.or_eq_false_iff, Bool.and_eq_true, Bool.or_eq_true, Bool.and_eq_false_iff, Bool.not_eq_true', Bool.not_eq_false']; omega))
      refine again (k + 1, L.set k.toNat (byC (C.getD k.toNat charY.dft))) [] (.of rfl rfl rfl rfl rfl rfl) ⟨by omega, by omega, by rw [List.length_set]; exact g3, ?_⟩ (by simp only; omega)
      have hk : k.toNat < L.length := by omega
      rw [show (k + 1).toNat = k.toNat + 1 by omega, ← List.take_append_getElem (by rw [List.length_set]; exact hk), List.getElem_set_self, List.take_set_of_le (Nat.le_refl _), g4, ← List.take_append_getElem hkl, List.map_append]
      simp only [List.map_cons, List.map_nil, List.getD_eq_getElem?_getD, List.getElem?_eq_getElem hkl, Option.getD_some]
    · have h3 : ¬ k < C.length := of_decide_eq_false h3
      have hL : L = C.map byC := by
        rw [show k.toNat = C.length by omega, List.take_of_length_le (by omega), List.take_length] at g4; exact g4
      subst hL
      refine xl_bytesStr (C.map byC) rfl rfl rfl rfl Tryz.underlying59 Tryz.underlying5 Tryz.underlying9 rfl (fun E w F hs => hs.rowAt (k := 4) rfl) ?_
      rw [← hl]
      refine xl_go tt_ok ?_
      clear g4 g3
      generalize logB s = l at hls e1 e2 hl ⊢
      refine xl_call _ rfl rfl rfl rfl fn35 rfl rfl (fun E w F _ => itemsFn_any l w) (fun v u1 u2 hu2 hs2 hv => ?_)
      obtain ⟨bk, rfl, hbk⟩ := hv
      have hb2 := of_sub_cut hs2 hbk
      have hg2 : Glob u2 := (hg.sub hu.sub).sub hu2.sub
      refine xl_go tt_ok ?_
      refine x_nilCell 6 82 tokY [] [] rfl ?_
      refine x_range2 (σ := List Tok × Int) (τ := Int) rfl fn61 (items_iter l bk u2 hb2 hg2 (by omega)) [(11, .p 7 0), (10, .p 6 0), (9, .p 5 0), (4, .p 3 0), (3, .p 1 0), (2, .p 0 0)]
        (fun (T, n) => [(0, .box 39 [.v (.slice none 0 0)]), (1, .box 28 [.v (.int .i64 0)]), (2, .row 75 (charY.d C)), (3, .box 71 [.r 2]), (5, .box 9 [.v (.string l)]), (6, .box 39 [.r 10]), (7, .box 3 [.v (.int .i64 n)]), (10, .row 82 (tokY.d T))]) (fun _ => 11)
        (fun k (T, n) _ => T.length ≤ k ∧ errK (itsOf l) = errK ((itsOf l).drop k) ∧ tks C l 0 (itsOf l) = T ++ tks C l n ((itsOf l).drop k))
        (fun v => [(0, .box 39 [.v (.slice none 0 0)]), (1, .box 28 [.v (.int .i64 v)])]) (fun _ => 11)
        (fun v e _ => e = .ret ∧ errK (itsOf l) = v ∧ v ≠ 0) ([], 0) [(10, some 8)] (.of rfl rfl rfl rfl rfl rfl) ⟨Nat.le_refl _, rfl, rfl⟩ rfl
        (fun _ => rfl) (fun _ => rfl) (fun _ => by decide) (fun _ => by decide) rfl rfl (fun lb k x s' u3 Fr Fr' hx hu3 hgr => ?_) (fun s' u3 hu3 hgr => ?_) (fun v e u3 hu3 hgr => ?_)
      · obtain ⟨T, n⟩ := s'
        obtain ⟨g0, g1, g2⟩ := hgr
        rw [List.getElem?_map] at hx
        obtain ⟨t, ht, rfl⟩ := Option.map_eq_some_iff.1 hx
        rw [drop_get ht] at g1 g2
        have hm := its_mem (List.mem_of_getElem? ht)
        have hlen := its_len l
        have hk : k < (itsOf l).length := (List.getElem?_eq_some_iff.1 ht).1
        refine x_vc tt_ok ?_
        refine ⟨rfl, rfl, x_vc tt_ok ?_⟩
        refine x_if (fun h4 => ?_) (fun h4 => ?_)
        · have h4 := of_decide_eq_true h4
          rw [errK, if_pos h4] at g1
          exact ⟨t.err, [], .of rfl rfl rfl rfl rfl rfl, rfl, g1, h4⟩
        · have h4 : t.err = 0 := Classical.not_not.1 (of_decide_eq_false h4)
          rw [errK, if_neg (by simpa using h4)] at g1
          rw [tks] at g2
          have hm : t.lo < t.hi ∧ t.hi ≤ l.size := by
            rcases hm with hm | hm
            · exact absurd h4 hm
            · exact hm.2
          have q1 : (C.getD t.lo charY.dft) ∈ C := by
            rw [List.getD_eq_getElem?_getD, List.getElem?_eq_getElem (by omega : t.lo < C.length)]; exact List.getElem_mem _
          have q2 : (C.getD ((t.hi : Int) - 1).toNat charY.dft) ∈ C := by
            rw [List.getD_eq_getElem?_getD, List.getElem?_eq_getElem (by omega : ((t.hi : Int) - 1).toNat < C.length)]; exact List.getElem_mem _
          have q1 := hCp _ q1
          have q2 := hCp _ q2
          have next : (T ++ [(⟨t.kind, sub l t.lo t.hi, (C.getD t.lo charY.dft).pos, (C.getD ((t.hi : Int) - 1).toNat charY.dft).pos + (C.getD ((t.hi : Int) - 1).toNat charY.dft).len, decide (n < t.lo)⟩ : Tok)]).length ≤ k + 1 ∧ errK (itsOf l) = errK ((itsOf l).drop (k + 1)) ∧ tks C l 0 (itsOf l) = (T ++ [(⟨t.kind, sub l t.lo t.hi, (C.getD t.lo charY.dft).pos, (C.getD ((t.hi : Int) - 1).toNat charY.dft).pos + (C.getD ((t.hi : Int) - 1).toNat charY.dft).len, decide (n < t.lo)⟩ : Tok)]) ++ tks C l t.hi ((itsOf l).drop (k + 1)) :=
            ⟨by rw [List.length_append]; simp only [List.length_singleton]; omega, g1, by rw [g2, List.append_assoc]; rfl⟩
          repeat (refine And.intro ?_ ?_; first | omega | (simp only [Lay.d_n]; omega) | (simp only [decide_eq_true_eq, decide_eq_false_iff_not, Bool.or_eq_false_iff, Bool.and_eq_true, Bool.or_eq_true, Bool.and_eq_false_iff, Bool.not_eq_true', Bool.not_eq_false', Lay.d_n]; omega) | (simp only [decide_eq_true_eq, decide_eq_false_iff_not, Bool.or_eq_false_iff, Bool.and_eq_true, Bool.or_eq_true, Bool.and_eq_false_iff, Bool.not_eq_true', Bool.not_eq_false']; omega))
          refine x_drawA mix ?_
          refine xa_pures tt_ok (fuel := 21) [1, 4, 6, 10, 15, 17, 20] rfl (by kernel_rfl) (by kernel_rfl) (fun _ _ _ hh => hh) (by kernel_rfl) (by kernel_rfl) ?_
          refine xa_late2 tt_ok (fuel := 3) 0 24 [2, 3, 5, 7, 8, 9, 11, 12, 13, 14, 16, 18, 19, 21, 22, 23, 24] rfl rfl rfl (by kernel_rfl) (by kernel_rfl) (by kernel_rfl) (by kernel_rfl) (by kernel_rfl) (xd_go tt_ok ?_)
          repeat (refine And.intro ?_ ?_; first | omega | (simp only [Lay.d_n]; omega) | (simp only [decide_eq_true_eq, decide_eq_false_iff_not, Bool.or_eq_false_iff, Bool.and_eq_true, Bool.or_eq_true, Bool.and_eq_false_iff, Bool.not_eq_true', Bool.not_eq_false', Lay.d_n]; omega) | (simp only [decide_eq_true_eq, decide_eq_false_iff_not, Bool.or_eq_false_iff, Bool.and_eq_true, Bool.or_eq_true, Bool.and_eq_false_iff, Bool.not_eq_true', Bool.not_eq_false']; omega))
          refine ⟨rfl, ?_, ?_⟩
          · refine xa_chain (fuel := 1) [25, 26] rfl rfl (by kernel_rfl) ?_
            refine xl_push tt_ok tokY T (⟨t.kind, sub l t.lo t.hi, (C.getD t.lo charY.dft).pos, (C.getD ((t.hi : Int) - 1).toNat charY.dft).pos + (C.getD ((t.hi : Int) - 1).toNat charY.dft).len, decide (n < t.lo)⟩ : Tok) 48 rfl rfl rfl rfl rfl rfl rfl rfl rfl rfl rfl rfl (by kernel_rfl) rfl rfl rfl rfl rfl (fun n hn => by cases hn; decide) rfl rfl rfl (by omega) (by omega) ?_
            refine xl_end ?_
            refine xa_one 27 (by kernel_rfl) rfl (xl_go tt_ok ?_)
            refine xa_done (by kernel_rfl) rfl ?_
            exact ⟨(T ++ [(⟨t.kind, sub l t.lo t.hi, (C.getD t.lo charY.dft).pos, (C.getD ((t.hi : Int) - 1).toNat charY.dft).pos + (C.getD ((t.hi : Int) - 1).toNat charY.dft).len, decide (n < t.lo)⟩ : Tok)], (t.hi : Int)), [(10, some 13)], .of rfl rfl rfl rfl rfl rfl, next⟩
          · refine xa_two 0 25 (by kernel_rfl) rfl rfl (xl_go tt_ok ?_) ?_
            · refine xa_chain (fuel := 1) [25, 26] rfl rfl (by kernel_rfl) ?_
              refine xl_push tt_ok tokY T (⟨t.kind, sub l t.lo t.hi, (C.getD t.lo charY.dft).pos, (C.getD ((t.hi : Int) - 1).toNat charY.dft).pos + (C.getD ((t.hi : Int) - 1).toNat charY.dft).len, decide (n < t.lo)⟩ : Tok) 48 rfl rfl rfl rfl rfl rfl rfl rfl rfl rfl rfl rfl (by kernel_rfl) rfl rfl rfl rfl rfl (fun n hn => by cases hn; decide) rfl rfl rfl (by omega) (by omega) ?_
              refine xl_end ?_
              refine xa_one 27 (by kernel_rfl) rfl (xl_go tt_ok ?_)
              refine xa_done (by kernel_rfl) rfl ?_
              exact ⟨(T ++ [(⟨t.kind, sub l t.lo t.hi, (C.getD t.lo charY.dft).pos, (C.getD ((t.hi : Int) - 1).toNat charY.dft).pos + (C.getD ((t.hi : Int) - 1).toNat charY.dft).len, decide (n < t.lo)⟩ : Tok)], (t.hi : Int)), [(10, some 13)], .of rfl rfl rfl rfl rfl rfl, next⟩
            · refine xl_build tt_ok tokY [(⟨t.kind, sub l t.lo t.hi, (C.getD t.lo charY.dft).pos, (C.getD ((t.hi : Int) - 1).toNat charY.dft).pos + (C.getD ((t.hi : Int) - 1).toNat charY.dft).len, decide (n < t.lo)⟩ : Tok)] [_] rfl rfl rfl rfl rfl rfl rfl rfl rfl rfl rfl rfl rfl rfl rfl ?_
              refine xl_end ?_
              refine xa_one 0 (by kernel_rfl) rfl (xl_go tt_ok ?_)
              refine xa_one 26 (by kernel_rfl) rfl ?_
              refine xl_append tt_ok tokY T [(⟨t.kind, sub l t.lo t.hi, (C.getD t.lo charY.dft).pos, (C.getD ((t.hi : Int) - 1).toNat charY.dft).pos + (C.getD ((t.hi : Int) - 1).toNat charY.dft).len, decide (n < t.lo)⟩ : Tok)] 48 rfl rfl rfl rfl rfl rfl rfl rfl (by kernel_rfl) rfl rfl rfl (fun E w F hs => hs.rowAt (k := 13) rfl) tokOne rfl (by simp only [List.length_singleton]; omega) (by simp only [List.length_singleton]; omega) ?_
              refine xl_end ?_
              refine xa_one 27 (by kernel_rfl) rfl (xl_go tt_ok ?_)
              refine xa_done (by kernel_rfl) rfl ?_
              exact ⟨(T ++ [(⟨t.kind, sub l t.lo t.hi, (C.getD t.lo charY.dft).pos, (C.getD ((t.hi : Int) - 1).toNat charY.dft).pos + (C.getD ((t.hi : Int) - 1).toNat charY.dft).len, decide (n < t.lo)⟩ : Tok)], (t.hi : Int)), [(10, some 14)], .of rfl rfl rfl rfl rfl rfl, next⟩
      · obtain ⟨T, n⟩ := s'
        obtain ⟨g0, g1, g2⟩ := hgr
        rw [List.length_map, List.drop_length] at g1 g2
        have e3 : scanE s = 0 := by rw [e1, g1]; rfl
        have e4 : scanT s = T := by rw [e2, if_pos e3, g2]; simp [tks]
        rw [e3, e4]
        exact finO2 (k := 10) rfl
      · obtain ⟨rfl, g1, g2⟩ := hgr
        have e3 : scanE s = v := by rw [e1, g1]
        have e4 : scanT s = [] := by rw [e2, e3, if_neg g2]
        rw [e3, e4]
        exact finO2n tokY
end Go.Proofs.YtnjmkeijjapejaaGreat
namespace Go.Proofs.YtnjmkeijjapejaaGreat
open Go.GV Go.RowKit
end Go.Proofs.YtnjmkeijjapejaaGreat
namespace Go.Proofs.YtnjmkeijjapejaaGreat
open Go.GV Go.RowKit
theorem tks_len (C : List Chr) (l : ByteArray) : ∀ (xs : List Lx.Tk) (n : Int), (tks C l n xs).length = xs.length
  | [], _ => rfl
  | x :: r, n => by rw [tks, List.length_cons, tks_len C l r, List.length_cons]
end Go.Proofs.YtnjmkeijjapejaaGreat
namespace Go.Proofs.YtnjmkeijjapejaaGreat
open Go.GV Go.RowKit
theorem errK_zero : ∀ {xs : List Lx.Tk}, errK xs = 0 → ∀ t ∈ xs, t.err = 0
  | [], _, t, ht => by cases ht
  | x :: r, h, t, ht => by
    rw [errK] at h
    by_cases hx : x.err = 0
    · rw [if_neg (by simpa using hx)] at h
      rcases List.mem_cons.1 ht with rfl | ht
      · exact hx
      · exact errK_zero h t ht
    · rw [if_pos hx] at h; exact absurd h hx
theorem scanE_zero {s : ByteArray} (h : scanE s = 0) : checkE s = 0 ∧ errK (itsOf (logB s)) = 0 ∧ scanT s = tks (charsOf s) (logB s) 0 (itsOf (logB s)) ∧ (logB s).size ≤ 65536 := by
  have hc : checkE s = 0 := by
    unfold scanE at h
    split at h
    · rename_i h2; exact absurd h h2
    · rename_i h2; exact Classical.not_not.1 h2
  refine ⟨hc, ?_, ?_, ?_⟩
  · unfold scanE at h
    rw [if_neg (by simpa using hc)] at h; exact h
  · rw [scanT, if_pos h]
  · rw [logB_size]
    have h2 : charsOf s = chrsL (partsV s) := by rw [charsOf, if_pos hc]
    rw [h2]
    exact Nat.le_trans (chrsL_len _) (Nat.le_trans (partsV_len s) (checkE_size hc))
theorem scanT_len (s : ByteArray) : (scanT s).length ≤ 65537 := by
  by_cases h : scanE s = 0
  · obtain ⟨_, _, e3, e4⟩ := scanE_zero h
    rw [e3, tks_len]
    have := its_len (logB s)
    omega
  · rw [scanT, if_neg h]; simp
end Go.Proofs.YtnjmkeijjapejaaGreat
namespace Go.Proofs.YtnjmkeijjapejaaGreat
open Go.GV Go.RowKit
def fxC (C : List Chr) (t : Tok) : Tok := ⟨t.kind, t.text, (C.getD t.lo.toNat charY.dft).pos, (C.getD (t.hi - 1).toNat charY.dft).pos + (C.getD (t.hi - 1).toNat charY.dft).len, t.space⟩
theorem errK_errT : ∀ P : List (Lx.Tk × Bool), errK (P.map (·.1)) = errT P
  | [] => rfl
  | p :: r => by
    simp only [List.map_cons, errK, errT, errK_errT r]
theorem rt_tks (s : ByteArray) (C : List Chr) : ∀ (k : Nat) (st : Int) (sp : Bool) (i n : Int), s.size - i ≤ k → 0 ≤ i → n ≤ i → sp = decide (n < i) → errT (rtA s st sp i) = 0 →
    (rtA s st sp i).map (fun p => fxC C (tokT s p)) = tks C s n ((rtA s st sp i).map (·.1))
  | 0, st, sp, i, n, hk, h0, hn, hsp, he => by rw [rtA_nil (by omega)]; rfl
  | k + 1, st, sp, i, n, hk, h0, hn, hsp, he => by
    by_cases hi : i < s.size
    · rw [rtA_cons h0 hi] at he ⊢
      by_cases hw : Lx.white (bt s i) = true
      · rw [if_pos hw] at he ⊢
        exact rt_tks s C k st true (i + 1) n (by omega) (by omega) (by omega) (by rw [decide_eq_true (by omega)]) he
      · rw [if_neg hw] at he ⊢
        by_cases hE : (itm s st i).err ≠ 0
        · rw [if_pos hE] at he
          rw [errT, if_pos hE] at he
          exact absurd he hE
        · rw [if_neg hE] at he ⊢
          rw [errT, if_neg (by simp)] at he
          obtain ⟨m1, m2⟩ := itm_le h0 hi (Classical.not_not.1 hE)
          have ih := rt_tks s C k (Lx.after st (itm s st i).kind ((tl s i).take (itm s st i).len)) false (i + (itm s st i).len) ((i.toNat + (itm s st i).len : Nat) : Int) (by omega) (by omega) (by omega) (by rw [decide_eq_false (by omega)]) he
          simp only [List.map_cons, tks]
          rw [ih]
          congr 1
          simp only [fxC, tokT]
          rw [hsp, Int.toNat_natCast, show ((i.toNat : Nat) : Int) = i by omega]
    · rw [rtA_nil (by omega)]; rfl
theorem rErr_eq (s : ByteArray) : rErr s = errK (itsOf s) := by
  unfold rErr
  rw [← rtA_fst, errK_errT]
theorem scanE_r (s : ByteArray) : scanE s = if checkE s ≠ 0 then checkE s else rErr (logB s) := by
  unfold scanE
  rw [rErr_eq]
theorem scanT_r {s : ByteArray} (hc : checkE s = 0) : scanT s = (rToks (logB s)).map (fxC (charsOf s)) := by
  have hE := scanE_r s
  rw [hc, if_neg (by simp)] at hE
  unfold scanT rToks
  rw [hE]
  by_cases h : rErr (logB s) = 0
  · rw [if_pos h, if_pos h, List.map_map]
    have := rt_tks (logB s) (charsOf s) (logB s).size 0 false 0 0 (by omega) (by omega) (by omega) rfl h
    rw [rtA_fst] at this
    exact this.symm
  · rw [if_neg h, if_neg h]; rfl
theorem rt_at {s : ByteArray} : ∀ (k : Nat) (st : Int) (sp : Bool) (i : Int), s.size - i ≤ k → 0 ≤ i → errT (rtA s st sp i) = 0 → ∀ p ∈ rtA s st sp i, p.1.lo < p.1.hi ∧ p.1.hi ≤ s.size
  | 0, st, sp, i, hk, h0, he, p, hp => by rw [rtA_nil (by omega)] at hp; cases hp
  | k + 1, st, sp, i, hk, h0, he, p, hp => by
    by_cases hi : i < s.size
    · rw [rtA_cons h0 hi] at he hp
      by_cases hw : Lx.white (bt s i) = true
      · rw [if_pos hw] at he hp
        exact rt_at k st true (i + 1) (by omega) (by omega) he p hp
      · rw [if_neg hw] at he hp
        by_cases hE : (itm s st i).err ≠ 0
        · rw [if_pos hE] at he
          rw [errT, if_pos hE] at he
          exact absurd he hE
        · rw [if_neg hE] at he hp
          rw [errT, if_neg (by simp)] at he
          obtain ⟨m1, m2⟩ := itm_le h0 hi (Classical.not_not.1 hE)
          rcases List.mem_cons.1 hp with rfl | hp
          · simp only
            omega
          · exact rt_at k _ false (i + (itm s st i).len) (by omega) (by omega) he p hp
    · rw [rtA_nil (by omega)] at hp; cases hp
theorem rToks_at {s : ByteArray} {t : Tok} (h : t ∈ rToks s) : 0 ≤ t.lo ∧ t.lo < t.hi ∧ t.hi ≤ s.size := by
  unfold rToks at h
  split at h
  · rename_i he
    obtain ⟨p, hp, rfl⟩ := List.mem_map.1 h
    have := rt_at s.size 0 false 0 (by omega) (by omega) he p hp
    simp only [tokT]
    omega
  · cases h
theorem logical_B (s : ByteArray) : logicalOf s = logB s := Ph.logical_chrs s
theorem fx_step {T : List Tok} {C : List Chr} {i : Nat} (h : i < T.length) {x : Tok} (hx : x = fxC C (T.getD i tok0)) :
    ((T.take i).map (fxC C) ++ T.drop i).set i x = (T.take (i + 1)).map (fxC C) ++ T.drop (i + 1) := by
  have e1 : T.drop i = T[i] :: T.drop (i + 1) := List.drop_eq_getElem_cons h
  have e2 : T.take (i + 1) = T.take i ++ [T[i]] := by rw [List.take_succ_eq_append_getElem h]
  have hl : ((T.take i).map (fxC C)).length = i := by rw [List.length_map, List.length_take]; omega
  rw [List.set_append_right _ _ (by omega), hl, Nat.sub_self, e1, List.set_cons_zero, e2, List.map_append, List.append_assoc]
  rw [hx, List.getD_eq_getElem?_getD, List.getElem?_eq_getElem h]
  rfl
theorem fx_at {T : List Tok} {C : List Chr} {i : Nat} (h : i < T.length) : ((T.take i).map (fxC C) ++ T.drop i).getD i tok0 = T.getD i tok0 := by
  have hl : ((T.take i).map (fxC C)).length = i := by rw [List.length_map, List.length_take]; omega
  rw [List.getD_eq_getElem?_getD, List.getElem?_append_right (by omega), hl, Nat.sub_self, List.getElem?_drop, List.getD_eq_getElem?_getD]
  rfl
theorem fx_len (T : List Tok) (C : List Chr) (i : Nat) : ((T.take i).map (fxC C) ++ T.drop i).length = T.length := by
  rw [List.length_append, List.length_map, List.length_take, List.length_drop]; omega
set_option maxRecDepth 100000 in
theorem refScan_any (s : ByteArray) (w : World) (hs : s.size ≤ 140737488355328) : Calls Tryz.prog 19 #[.string s] w (PureP w (OwnT 82 (tokY.d (scanT s)) [.int .i64 (scanE s)])) := by
  refine x_fun tt_ok Tryz.func19 rfl rfl [] 0 [.v (.string s)] rfl rfl rfl rfl (fun b hb => by cases hb) ?_
  refine x_vc tt_ok ?_
  refine xl_call _ rfl rfl rfl rfl fn46 rfl rfl (fun E w F _ => Ph.refChars_any s w (by omega)) (fun v u1 u2 hu2 hs2 hv => ?_)
  obtain ⟨x, rfl, hx⟩ := hv
  obtain ⟨A, c, rfl⟩ := hx.form
  refine xl_go tt_ok ?_
  refine x_if (fun h => ?_) (fun h => ?_)
  · have h := of_decide_eq_true h
    have e1 : scanE s = checkE s := by rw [scanE, if_pos h]
    have e2 : scanT s = [] := by rw [scanT, e1, if_neg h]
    rw [e1, e2]
    exact finO2n tokY
  have h : checkE s = 0 := Classical.not_not.1 (of_decide_eq_false h)
  have hsz := checkE_size h
  have hE := scanE_r s
  rw [h, if_neg (by simp)] at hE
  have hT := scanT_r h
  have hlen := scanT_len s
  rw [hT, List.length_map] at hlen
  have hcl : (charsOf s).length ≤ 65536 := by
    have h2 : charsOf s = chrsL (partsV s) := by rw [charsOf, if_pos h]
    rw [h2]
    exact Nat.le_trans (chrsL_len _) (Nat.le_trans (partsV_len s) hsz)
  have hls := logB_size s
  refine xl_call0 (.tuple #[.string (logB s), .int .i64 (checkE s)]) rfl rfl rfl rfl fn47 rfl rfl (fun E w F _ => by
    have := Ph.refLogical_any s w hs
    rw [logical_B] at this
    exact this) ?_
  refine xl_go tt_ok ?_
  refine xl_callO2 82 (tokY.d (rToks (logB s))) [.int .i64 (rErr (logB s))] rfl rfl rfl rfl fn48 rfl rfl (fun E w F _ => refTokens_any _ (by omega) w) ?_
  refine xl_go tt_ok ?_
  rw [hE, hT]
  obtain ⟨T, hTd⟩ : ∃ T, T = rToks (logB s) := ⟨_, rfl⟩
  obtain ⟨C, hC⟩ : ∃ C, C = charsOf s := ⟨_, rfl⟩
  have hat : ∀ t ∈ T, 0 ≤ t.lo ∧ t.lo < t.hi ∧ t.hi ≤ C.length := fun t ht => by
    have := rToks_at (hTd ▸ ht)
    rw [hls, ← hC] at this
    exact this
  have hCp : ∀ c ∈ C, 0 ≤ c.pos ∧ 1 ≤ c.len ∧ c.pos + c.len ≤ s.size := fun c hc => charsOf_pos (hC ▸ hc)
  rw [← hC] at hcl hx
  rw [← hTd] at hlen
  rw [← hTd, ← hC]
  refine x_sl 4 rfl (hx.sub hs2).uncut ?_
  refine x_loop (σ := Int × List Tok) (fun (i, M) => ⟨[(10, .v (.int .i64 i)), (9, .v (.int .i64 (rErr (logB s)))), (8, .r 2), (4, .r 1)], [], [(2, .row 82 (tokY.d M)), (1, .sl (charY.d C))], 3⟩)
    (fun (i, M) _ => 0 ≤ i ∧ i ≤ T.length ∧ M = (T.take i.toNat).map (fxC C) ++ T.drop i.toNat) (fun (i, _) => (T.length - i).toNat) (fun (_, _) => by simp only; omega) (0, T) [(2, some 0)] (.of rfl rfl rfl rfl rfl rfl) ⟨by omega, by omega, rfl⟩ ?_
  rintro ⟨i, M⟩ u hu ⟨g1, g2, g3⟩
  have hMl : M.length = T.length := by rw [g3, fx_len]
  refine x_vc tt_ok ?_
  refine x_if (fun h2 => ?_) (fun h2 => ?_)
  · have h2 : i < M.length := of_decide_eq_true h2
    have hi : i.toNat < T.length := by omega
    have hMi : M.getD i.toNat tok0 = T.getD i.toNat tok0 := by rw [g3]; exact fx_at hi
    have htm : T.getD i.toNat tok0 ∈ T := by rw [List.getD_eq_getElem?_getD, List.getElem?_eq_getElem hi]; exact List.getElem_mem hi
    obtain ⟨t1, t2, t3⟩ := hat _ htm
    rw [← hMi] at t1 t2 t3
    have hc1 : C.getD (M.getD i.toNat tok0).lo.toNat charY.dft ∈ C := by
      rw [List.getD_eq_getElem?_getD, List.getElem?_eq_getElem (by omega)]; exact List.getElem_mem _
    have hc2 : C.getD ((M.getD i.toNat tok0).hi - 1).toNat charY.dft ∈ C := by
      rw [List.getD_eq_getElem?_getD, List.getElem?_eq_getElem (by omega)]; exact List.getElem_mem _
    have hp1 := hCp _ hc1
    have hp2 := hCp _ hc2
    have q1 : 0 ≤ (M.getD i.toNat tokY.dft).hi - 1 := by show 0 ≤ (M.getD i.toNat tok0).hi - 1; omega
    have q2 : (M.getD i.toNat tokY.dft).hi - 1 < C.length := by show (M.getD i.toNat tok0).hi - 1 < C.length; omega
    have q3 : 0 ≤ (M.getD i.toNat tokY.dft).lo := t1
    have q4 : (M.getD i.toNat tokY.dft).lo < C.length := by show (M.getD i.toNat tok0).lo < C.length; omega
    repeat (refine And.intro ?_ ?_; first | omega | (simp only [Lay.d_n]; omega) | (simp only [decide_eq_true_eq, decide_eq_false_iff_not, Bool.or_eq_false_iff, Bool.and_eq_true, Bool.or_eq_true, Bool.and_eq_false_iff, Bool.not_eq_true', Bool.not_eq_false', Lay.d_n]; omega) | (simp only [decide_eq_true_eq, decide_eq_false_iff_not, Bool.or_eq_false_iff, Bool.and_eq_true, Bool.or_eq_true, Bool.and_eq_false_iff, Bool.not_eq_true', Bool.not_eq_false']; omega) | (simp only [decide_eq_true_eq, decide_eq_false_iff_not, Bool.or_eq_false_iff]; simp only [Lay.d_n]; omega))
    refine xl_set tt_ok (off := 2) tokY M ⟨(M.getD i.toNat tok0).kind, (M.getD i.toNat tok0).text, (C.getD (M.getD i.toNat tok0).lo.toNat charY.dft).pos, (M.getD i.toNat tok0).hi, (M.getD i.toNat tok0).space⟩ (cs := [.int .i64 (C.getD (M.getD i.toNat tok0).lo.toNat charY.dft).pos])
      rfl rfl rfl rfl rfl rfl rfl g1 h2 rfl rfl (by show 2 + 1 ≤ 5; decide) rfl ?_
    obtain ⟨x1, hx1⟩ : ∃ x1 : Tok, x1 = ⟨(M.getD i.toNat tok0).kind, (M.getD i.toNat tok0).text, (C.getD (M.getD i.toNat tok0).lo.toNat charY.dft).pos, (M.getD i.toNat tok0).hi, (M.getD i.toNat tok0).space⟩ := ⟨_, rfl⟩
    rw [← hx1]
    have hM1 : (M.set i.toNat x1).getD i.toNat tokY.dft = x1 := by
      rw [List.getD_eq_getElem?_getD, List.getElem?_set_self (by omega)]; rfl
    have q5 : (C.getD ((M.getD i.toNat tokY.dft).hi - 1).toNat charY.dft).pos + (C.getD ((M.getD i.toNat tokY.dft).hi - 1).toNat charY.dft).len ≤ s.size := hp2.2.2
    have q6 : 0 ≤ (C.getD ((M.getD i.toNat tokY.dft).hi - 1).toNat charY.dft).pos := hp2.1
    have q7 : 1 ≤ (C.getD ((M.getD i.toNat tokY.dft).hi - 1).toNat charY.dft).len := hp2.2.1
    have hl1 : (M.set i.toNat x1).length = M.length := List.length_set
    refine xl_go tt_ok ?_
    repeat (refine And.intro ?_ ?_; first | omega | (simp only [Lay.d_n]; omega) | (simp only [decide_eq_true_eq, decide_eq_false_iff_not, Bool.or_eq_false_iff, Bool.and_eq_true, Bool.or_eq_true, Bool.and_eq_false_iff, Bool.not_eq_true', Bool.not_eq_false', Lay.d_n]; omega) | (simp only [decide_eq_true_eq, decide_eq_false_iff_not, Bool.or_eq_false_iff, Bool.and_eq_true, Bool.or_eq_true, Bool.and_eq_false_iff, Bool.not_eq_true', Bool.not_eq_false']; omega) | (simp only [decide_eq_true_eq, decide_eq_false_iff_not, Bool.or_eq_false_iff]; simp only [Lay.d_n]; omega))
    refine xl_set tt_ok (off := 3) tokY (M.set i.toNat x1) (fxC C (M.getD i.toNat tok0)) (cs := [.int .i64 ((C.getD ((M.getD i.toNat tok0).hi - 1).toNat charY.dft).pos + (C.getD ((M.getD i.toNat tok0).hi - 1).toNat charY.dft).len)])
      rfl rfl rfl rfl rfl rfl rfl g1 (by omega) rfl rfl (by show 3 + 1 ≤ 5; decide) (by rw [hM1, hx1]; rfl) ?_
    refine xl_go tt_ok ?_
    repeat (refine And.intro ?_ ?_; first | omega | (simp only [Lay.d_n]; omega) | (simp only [decide_eq_true_eq, decide_eq_false_iff_not, Bool.or_eq_false_iff, Bool.and_eq_true, Bool.or_eq_true, Bool.and_eq_false_iff, Bool.not_eq_true', Bool.not_eq_false', Lay.d_n]; omega) | (simp only [decide_eq_true_eq, decide_eq_false_iff_not, Bool.or_eq_false_iff, Bool.and_eq_true, Bool.or_eq_true, Bool.and_eq_false_iff, Bool.not_eq_true', Bool.not_eq_false']; omega) | (simp only [decide_eq_true_eq, decide_eq_false_iff_not, Bool.or_eq_false_iff]; simp only [Lay.d_n]; omega))
    refine again (i + 1, (M.set i.toNat x1).set i.toNat (fxC C (M.getD i.toNat tok0))) [] (.of rfl rfl rfl rfl rfl rfl) ⟨by omega, by omega, ?_⟩ (by simp only; omega)
    rw [List.set_set, hMi, g3, fx_step hi rfl, show (i + 1).toNat = i.toNat + 1 by omega]
  · have h2 : ¬ i < M.length := of_decide_eq_false h2
    have hi : i.toNat = T.length := by omega
    rw [hi, List.take_length, List.drop_length, List.append_nil] at g3
    rw [← g3]
    exact finO2 (k := 2) rfl
end Go.Proofs.YtnjmkeijjapejaaGreat
namespace Go.Lx
def lexF : Nat → Int → Bs → List (Int × Bs)
  | 0, _, _ => []
  | _ + 1, _, [] => []
  | n + 1, st, c :: r => match white c with
    | true => lexF n st r
    | false => if (itemP (decide (st = 2)) (c :: r)).err ≠ 0 then []
      else ((itemP (decide (st = 2)) (c :: r)).kind, (c :: r).take (itemP (decide (st = 2)) (c :: r)).len) ::
        lexF n (after st (itemP (decide (st = 2)) (c :: r)).kind ((c :: r).take (itemP (decide (st = 2)) (c :: r)).len)) ((c :: r).drop (itemP (decide (st = 2)) (c :: r)).len)
def okF : Nat → Int → Bs → Prop
  | 0, _, _ => True
  | _ + 1, _, [] => True
  | n + 1, st, c :: r => match white c with
    | true => okF n st r
    | false => (itemP (decide (st = 2)) (c :: r)).err = 0 ∧
        okF n (after st (itemP (decide (st = 2)) (c :: r)).kind ((c :: r).take (itemP (decide (st = 2)) (c :: r)).len)) ((c :: r).drop (itemP (decide (st = 2)) (c :: r)).len)
theorem lexF_items (L : Bs) : ∀ (n : Nat) (st : Int) (i : Nat), okF n st (L.drop i) → (itemsF n st i (L.drop i)).map (fun t => (t.kind, (L.take t.hi).drop t.lo)) = lexF n st (L.drop i)
  | 0, _, _, _ => rfl
  | n + 1, st, i, hok => by
    cases hx : L.drop i with
    | nil => rfl
    | cons c r =>
      have hr : L.drop (i + 1) = r := by rw [← List.drop_drop, hx]; rfl
      rw [hx] at hok
      simp only [itemsF, lexF, okF] at hok ⊢
      cases hw : white c with
      | true =>
        rw [hw] at hok
        simp only at hok ⊢
        rw [← hr] at hok ⊢
        exact lexF_items L n st (i + 1) hok
      | false =>
        rw [hw] at hok
        simp only at hok ⊢
        rw [if_neg (by simpa using hok.1), if_neg (by simpa using hok.1)]
        have hd : (c :: r).drop (itemP (decide (st = 2)) (c :: r)).len = L.drop (i + (itemP (decide (st = 2)) (c :: r)).len) := by rw [← hx, List.drop_drop]
        rw [List.map_cons, hd]
        rw [hd] at hok
        rw [lexF_items L n _ _ hok.2]
        congr 2
        rw [← hx, ← List.take_drop]
theorem okF_items : ∀ (n : Nat) (st : Int) (i : Nat) (l : Bs), (∀ t ∈ itemsF n st i l, t.err = 0) ↔ okF n st l
  | 0, _, _, _ => ⟨fun _ => trivial, fun _ t ht => by cases ht⟩
  | n + 1, _, _, [] => ⟨fun _ => trivial, fun _ t ht => by cases ht⟩
  | n + 1, st, i, c :: r => by
    simp only [itemsF, okF]
    cases hw : white c with
    | true => exact okF_items n st (i + 1) r
    | false =>
      simp only
      by_cases he : (itemP (decide (st = 2)) (c :: r)).err = 0
      · rw [if_neg (by simpa using he)]
        have ih := okF_items n (after st (itemP (decide (st = 2)) (c :: r)).kind ((c :: r).take (itemP (decide (st = 2)) (c :: r)).len)) (i + (itemP (decide (st = 2)) (c :: r)).len) ((c :: r).drop (itemP (decide (st = 2)) (c :: r)).len)
        simp only [List.mem_cons, forall_eq_or_imp]
        rw [ih]
        simp [he]
      · rw [if_pos he]
        constructor
        · intro h; exact absurd (h _ (List.mem_singleton.2 rfl)) he
        · intro h; exact absurd h.1 he
end Go.Lx
namespace Go.Lx
def stop (q : Bs) : Prop := q = [] ∨ ∃ h r, q = h :: r ∧ (h = 32 ∨ h = 10)
theorem bodyN_app (q : Int) : ∀ (l r : Bs), 0 < bodyN q l → bodyN q (l ++ r) = bodyN q l
  | [], _, h => by cases h
  | [c], r, h => by
    cases r with
    | nil => rfl
    | cons d r =>
      simp only [bodyN] at h
      have hc : (decide (c = q) && decide (c ≠ 10)) = true := by
        cases hx : (decide (c = q) && decide (c ≠ 10)) with
        | true => rfl
        | false => rw [hx] at h; cases h
      simp only [Bool.and_eq_true, decide_eq_true_eq] at hc
      simp only [List.cons_append, List.nil_append, bodyN]
      rw [decide_eq_false hc.2, decide_eq_true hc.1, decide_eq_true hc.2]
      rfl
  | c :: d :: l, r, h => by
    simp only [List.cons_append]
    unfold bodyN at h ⊢
    cases h10 : decide (c = 10) with
    | true => simp [h10] at h
    | false =>
      rw [h10] at h
      simp only at h ⊢
      cases hq : decide (c = q) with
      | true => rfl
      | false =>
        rw [hq] at h
        simp only at h ⊢
        cases h92 : decide (c = 92) with
        | true =>
          rw [h92] at h
          simp only at h ⊢
          have h0 : 0 < bodyN q l := by
            rcases Nat.eq_zero_or_pos (bodyN q l) with h0 | h0
            · rw [h0] at h; cases hd : decide (d = 10) <;> rw [hd] at h <;> cases h
            · exact h0
          rw [bodyN_app q l r h0]
        | false =>
          rw [h92] at h
          simp only at h ⊢
          have h0 : 0 < bodyN q (d :: l) := by
            rcases Nat.eq_zero_or_pos (bodyN q (d :: l)) with h0 | h0
            · rw [h0] at h; cases h
            · exact h0
          have := bodyN_app q (d :: l) r h0
          rw [List.cons_append] at this
          rw [this]
theorem litQ_app {t : Bs} (r : Bs) (h : 0 < (litQ t).2) : litQ (t ++ r) = litQ t := by
  have hf : 2 ≤ (litQ t).2 ∧ (litQ t).2 ≤ t.length ∧ prefN t + 2 ≤ (litQ t).2 ∧ ∃ q, (q = 39 ∨ q = 34) ∧ t[prefN t]? = some q := by
    rcases litQ_facts t with hf | hf
    · omega
    · exact ⟨hf.2.1, hf.2.2.1, hf.2.2.2.1, hf.2.2.2.2⟩
  obtain ⟨f1, f2, f3, q, hq, hx⟩ := hf
  have hp : prefN (t ++ r) = prefN t := by
    match t, f2, f3, h with
    | [], f2, f3, h => simp only [List.length_nil] at f2; omega
    | [c], f2, f3, h => simp only [List.length_cons, List.length_nil] at f2; omega
    | [c, d], f2, f3, h =>
      simp only [List.length_cons, List.length_nil] at f2
      have h0 : prefN [c, d] = 0 := by omega
      have hc : (decide (c = 117) || decide (c = 85) || decide (c = 76)) = false := by
        cases hc : (decide (c = 117) || decide (c = 85) || decide (c = 76)) with
        | false => rfl
        | true =>
          simp only [prefN, hc] at h0
          split at h0 <;> cases h0
      rw [h0]
      simp only [List.cons_append, prefN, hc]
      simp only [Bool.or_eq_false_iff] at hc
      rw [hc.1.1]; rfl
    | c :: d :: e :: t, _, _, _ => rfl
  have hl : prefN t < t.length := by omega
  have hd0 : t.drop (prefN t) = q :: t.drop (prefN t + 1) := drop_cons_of hx
  have hd : (t ++ r).drop (prefN t) = q :: (t.drop (prefN t + 1) ++ r) := by
    rw [List.drop_append_of_le_length (by omega), hd0]; rfl
  unfold litQ at h ⊢
  rw [hp, hd]
  rw [hd0] at h ⊢
  simp only at h ⊢
  have hb : ∀ k : Int, 0 < bodyN k (t.drop (prefN t + 1)) → bodyN k (t.drop (prefN t + 1) ++ r) = bodyN k (t.drop (prefN t + 1)) := fun k hk => bodyN_app k _ _ hk
  by_cases h34 : q = 34
  · rw [if_pos h34] at h ⊢
    rcases Nat.eq_zero_or_pos (bodyN 34 (t.drop (prefN t + 1))) with h0 | h0
    · rw [h0] at h; cases h
    · rw [if_pos h34, hb 34 h0]
  · rw [if_neg h34] at h ⊢
    by_cases h39 : q = 39
    · rw [if_pos h39] at h ⊢
      rcases Nat.eq_zero_or_pos (bodyN 39 (t.drop (prefN t + 1))) with h0 | h0
      · rw [h0] at h; cases h
      · rw [if_neg h34, if_pos h39, hb 39 h0]
    · rw [if_neg h39] at h; cases h
theorem prefN_two {c : Int} {r : Bs} (h : prefN (c :: r) = 2) : r.head? = some 56 := by
  simp only [prefN] at h
  split at h
  · rename_i hh
    simp only [Bool.and_eq_true, decide_eq_true_eq] at hh
    exact hh.1.2
  · split at h <;> cases h
theorem litQ_zero {t : Bs} (h : (litQ t).2 = 0) : litQ t = (0, 0) := by
  rcases litQ_facts t with hf | hf
  · exact Prod.ext hf.1 hf.2
  · omega
end Go.Lx
namespace Go.Proofs.YtnjmkeijjapejaaGreat
open Go.GV Go.RowKit
def kt (t : Tok) : Int × Lx.Bs := (t.kind, bl t.text)
def lexB (l : Lx.Bs) : List (Int × Lx.Bs) := Lx.lexF l.length 0 l
def okB (l : Lx.Bs) : Prop := Lx.okF l.length 0 l
def lgc (s : ByteArray) : Lx.Bs := (charsOf s).map (·.b)
theorem bl_lgc (s : ByteArray) : bl (logB s) = lgc s := by
  unfold bl logB lgc
  simp only [List.map_map]
  refine List.map_congr_left fun c hc => ?_
  exact byC_nat (charsOf_b hc)
theorem bl_ext (s : ByteArray) (a b : Nat) : bl (sub s a b) = ((bl s).take b).drop a := by
  unfold bl sub
  rw [ByteArray.data_extract, Array.toList_extract, List.extract_eq_take_drop, List.map_take, List.map_drop, List.drop_take]
  simp
theorem kt_tks (C : List Chr) (l : ByteArray) : ∀ (xs : List Lx.Tk) (n : Int), (tks C l n xs).map kt = xs.map fun t => (t.kind, ((bl l).take t.hi).drop t.lo)
  | [], _ => rfl
  | t :: r, n => by
    simp only [tks, List.map_cons]
    rw [kt_tks C l r]
    simp only [kt, bl_ext]
theorem its_lex {s : ByteArray} (h : okB (lgc s)) : (itsOf (logB s)).map (fun t => (t.kind, ((bl (logB s)).take t.hi).drop t.lo)) = lexB (lgc s) := by
  have := Lx.lexF_items (lgc s) (lgc s).length 0 0 h
  rw [List.drop_zero] at this
  unfold itsOf Lx.itemsL
  rw [bl_lgc]
  exact this
theorem scan_lex {s : ByteArray} (h : scanE s = 0) : checkE s = 0 ∧ okB (lgc s) ∧ (scanT s).map kt = lexB (lgc s) := by
  obtain ⟨e1, e2, e3, e4⟩ := scanE_zero h
  have ho : okB (lgc s) := by
    refine (Lx.okF_items _ _ 0 _).1 ?_
    have := errK_zero e2
    unfold itsOf Lx.itemsL at this
    rwa [bl_lgc] at this
  refine ⟨e1, ho, ?_⟩
  rw [e3, kt_tks, its_lex ho]
end Go.Proofs.YtnjmkeijjapejaaGreat
namespace Go.Lx
def stopW (q : Bs) : Prop := q = [] ∨ ∃ h r, q = h :: r ∧ (h = 32 ∨ h = 9 ∨ h = 11 ∨ h = 10)
theorem run_stopW {p : Int → Bool} (h1 : p 32 = false) (h2 : p 9 = false) (h3 : p 11 = false) (h4 : p 10 = false) {q : Bs} (hq : stopW q) : ∀ t : Bs, run p (t ++ q) = run p t
  | [] => by
    rcases hq with rfl | ⟨h, r, rfl, rfl | rfl | rfl | rfl⟩
    · rfl
    · simp only [List.nil_append, run, h1]
    · simp only [List.nil_append, run, h2]
    · simp only [List.nil_append, run, h3]
    · simp only [List.nil_append, run, h4]
  | c :: t => by simp only [List.cons_append, run, run_stopW h1 h2 h3 h4 hq t]
theorem wordN_stopW {q : Bs} (hq : stopW q) {t : Bs} (ht : t ≠ []) : wordN (t ++ q) = wordN t := by
  cases t with
  | nil => exact absurd rfl ht
  | cons c t => simp only [List.cons_append, wordN, run_stopW (p := alnum) (by decide) (by decide) (by decide) (by decide) hq t]
theorem runP_stopW {q : Bs} (hq : stopW q) : ∀ (t : Bs) (a : Int), runP a (t ++ q) = runP a t
  | [], a => by
    have h1 : okp a 32 = false := by unfold okp; rw [show okc 32 = false from by decide, show sign 32 = false from by decide]; rfl
    have h2 : okp a 9 = false := by unfold okp; rw [show okc 9 = false from by decide, show sign 9 = false from by decide]; rfl
    have h3 : okp a 11 = false := by unfold okp; rw [show okc 11 = false from by decide, show sign 11 = false from by decide]; rfl
    have h4 : okp a 10 = false := by unfold okp; rw [show okc 10 = false from by decide, show sign 10 = false from by decide]; rfl
    rcases hq with rfl | ⟨h, r, rfl, rfl | rfl | rfl | rfl⟩
    · rfl
    · simp only [List.nil_append, runP, h1]
    · simp only [List.nil_append, runP, h2]
    · simp only [List.nil_append, runP, h3]
    · simp only [List.nil_append, runP, h4]
  | c :: t, a => by simp only [List.cons_append, runP, runP_stopW hq t]
theorem numN_stopW {q : Bs} (hq : stopW q) {t : Bs} (ht : t ≠ []) : numN (t ++ q) = numN t := by
  cases t with
  | nil => exact absurd rfl ht
  | cons c t =>
    simp only [List.cons_append, numN]
    cases hd : digit c with
    | true => simp only [runP_stopW hq]
    | false =>
      simp only
      cases t with
      | cons d t => cases decide (c = 46) <;> simp only [List.cons_append, runP_stopW hq]
      | nil =>
        have h1 : digit 32 = false := by decide
        have h2 : digit 9 = false := by decide
        have h3 : digit 11 = false := by decide
        have h4 : digit 10 = false := by decide
        rcases hq with rfl | ⟨h, r, rfl, rfl | rfl | rfl | rfl⟩
        · rfl
        · cases decide (c = 46) <;> simp [h1]
        · cases decide (c = 46) <;> simp [h2]
        · cases decide (c = 46) <;> simp [h3]
        · cases decide (c = 46) <;> simp [h4]
theorem punN_stopW {q : Bs} (hq : stopW q) (t : Bs) : punN (t ++ q) = punN t := by
  have hle := punN_le t
  have hle' := punN_le (t ++ q)
  have a1 : punN t ≤ punN (t ++ q) := by
    rcases Nat.eq_zero_or_pos (punN t) with h0 | h0
    · omega
    · refine punN_max (by rw [List.length_append]; omega) ?_
      rw [List.take_append_of_le_length hle]; exact punN_is h0
  have a2 : punN (t ++ q) ≤ punN t := by
    rcases Nat.eq_zero_or_pos (punN (t ++ q)) with h0 | h0
    · omega
    · have hi := punN_is h0
      rcases Nat.lt_or_ge t.length (punN (t ++ q)) with hlt | hge
      · exfalso
        have hall := (pun_facts _ (isPun_mem.1 hi)).2.1
        rw [List.all_eq_true] at hall
        rw [List.length_append] at hle'
        rcases hq with rfl | ⟨h, r, rfl, hh⟩
        · rw [List.append_nil, List.length_nil] at *; omega
        · have hmem : h ∈ (t ++ h :: r).take (punN (t ++ h :: r)) := by
            refine List.mem_of_getElem? (i := t.length) ?_
            rw [List.getElem?_take_of_lt hlt, List.getElem?_append_right (Nat.le_refl _)]; simp
          have := hall h hmem
          rcases hh with rfl | rfl | rfl | rfl <;> exact absurd this (by decide)
      · rw [List.take_append_of_le_length hge] at hi
        exact punN_max hge hi
  omega
def nqs (t : Bs) : Prop := ∀ x, t[prefN t]? = some x → quoteB x = false
theorem prefN_stopW {q : Bs} (hq : stopW q) {t : Bs} (ht : t ≠ []) : prefN (t ++ q) = prefN t ∨ t.length ≤ prefN (t ++ q) := by
  match t, ht with
  | [c], _ =>
    rcases Nat.eq_zero_or_pos (prefN ([c] ++ q)) with h0 | h0
    · left
      rw [h0]
      simp only [List.cons_append, List.nil_append, prefN] at h0 ⊢
      split at h0
      · cases h0
      · split at h0
        · cases h0
        · rename_i h1
          simp only [Bool.or_eq_false_iff] at h1
          simp [h1.1.1, h1.1.2, h1.2]
    · right; exact h0
  | [c, d], _ =>
    by_cases h2 : 2 ≤ prefN ([c, d] ++ q)
    · right; exact h2
    · left
      simp only [List.cons_append, List.nil_append, prefN] at h2 ⊢
      split at h2
      · omega
      · simp
  | c :: d :: e :: t, _ => exact .inl rfl
theorem litQ_stopW {q : Bs} (hq : stopW q) {t : Bs} (ht : t ≠ []) (hn : nqs t) : (litQ (t ++ q)).2 = 0 := by
  rcases litQ_facts (t ++ q) with hf | ⟨_, _, _, _, x, hx, hxx⟩
  · exact hf.2
  · exfalso
    have hqx : quoteB x = true := by rcases hx with rfl | rfl <;> rfl
    rcases prefN_stopW hq ht with he | hge
    · rw [he] at hxx
      rcases Nat.lt_or_ge (prefN t) t.length with hlt | hge
      · rw [List.getElem?_append_left hlt] at hxx
        have := hn x hxx
        rw [hqx] at this; cases this
      · rw [← he] at hxx hge
        exact absurd (stopAt hxx hge hqx) id
    · exact absurd (stopAt hxx hge hqx) id
where
  stopAt {x : Int} (hxx : (t ++ q)[prefN (t ++ q)]? = some x) (hge : t.length ≤ prefN (t ++ q)) (hqx : quoteB x = true) : False := by
    rw [List.getElem?_append_right hge] at hxx
    match t, ht with
    | c :: t, _ =>
      have hq' : ∃ h r, q = h :: r ∧ (h = 32 ∨ h = 9 ∨ h = 11 ∨ h = 10) := by
        rcases hq with rfl | hq
        · simp at hxx
        · exact hq
      obtain ⟨h, r, rfl, hh⟩ := hq'
      rcases prefN_head c (t ++ h :: r) with h0 | ⟨_, h2, h1⟩
      · rw [List.cons_append, h0] at hge; simp at hge
      · rw [List.cons_append] at hge hxx
        simp only [List.length_cons] at hge hxx
        rcases Nat.eq_or_lt_of_le hge with he | hlt
        · rw [← he, Nat.sub_self] at hxx
          simp only [List.getElem?_cons_zero, Option.some.injEq] at hxx
          subst hxx
          rcases hh with rfl | rfl | rfl | rfl <;> exact absurd hqx (by decide)
        · have h2' : prefN (c :: (t ++ h :: r)) = 2 := by omega
          have ht0 : t = [] := List.eq_nil_of_length_eq_zero (by omega)
          subst ht0
          have := prefN_two h2'
          simp only [List.nil_append, List.head?_cons, Option.some.injEq] at this
          subst this
          rcases hh with hh | hh | hh | hh <;> cases hh
theorem bestL_stopW {q : Bs} (hq : stopW q) {t : Bs} (ht : t ≠ []) (hn : 0 < (litQ t).2 ∨ nqs t) : bestL (t ++ q) = bestL t := by
  have hl : litQ (t ++ q) = litQ t := by
    rcases Nat.eq_zero_or_pos (litQ t).2 with h0 | h0
    · rcases hn with hn | hn
      · omega
      · rw [litQ_zero h0, litQ_zero (litQ_stopW hq ht hn)]
    · exact litQ_app q h0
  unfold bestL
  rw [hl, wordN_stopW hq ht, numN_stopW hq ht, punN_stopW hq t]
theorem take2_stopW {t q : Bs} (hq : stopW q) (ht : t ≠ []) {x : Int} (hx : x = 42 ∨ x = 47) : ((t ++ q).take 2 = [47, x]) ↔ (t.take 2 = [47, x]) := by
  match t, ht with
  | [c], _ =>
    rcases hq with rfl | ⟨h, r, rfl, hh⟩
    · exact Iff.rfl
    · constructor
      · intro e
        simp at e
        omega
      · intro e; simp at e
  | a :: b :: t, _ => exact Iff.rfl
theorem item_stopW {t q : Bs} (ht : t ≠ []) (hq : stopW q) (hn : 0 < (litQ t).2 ∨ nqs t) (ho : ¬ isOpen t = true) (hs : ¬ isLine t = true) : itemP false (t ++ q) = itemP false t := by
  have ho' : isOpen (t ++ q) = isOpen t := by unfold isOpen; rw [decide_eq_decide]; exact take2_stopW hq ht (.inl rfl)
  have hs' : isLine (t ++ q) = isLine t := by unfold isLine; rw [decide_eq_decide]; exact take2_stopW hq ht (.inr rfl)
  have hh : (t ++ q).head? = t.head? := by cases t with
    | nil => exact absurd rfl ht
    | cons => rfl
  have hqh : qHead (t ++ q) = qHead t := by cases t with
    | nil => exact absurd rfl ht
    | cons => rfl
  unfold itemP
  rw [if_neg (show ¬ (false = true ∧ 0 < hdrN (t ++ q)) by simp), if_neg (show ¬ (false = true ∧ 0 < hdrN t) by simp), ho', hs', hh, hqh, bestL_stopW hq ht hn]
  rw [if_neg ho, if_neg hs, if_neg ho, if_neg hs]
end Go.Lx
namespace Go.Lx
def lexG : Nat → Int → Bool → Bs → List (Bool × Int × Bs)
  | 0, _, _, _ => []
  | _ + 1, _, _, [] => []
  | n + 1, st, sp, c :: r => match white c with
    | true => lexG n st true r
    | false => if (itemP (decide (st = 2)) (c :: r)).err ≠ 0 then []
      else (sp, (itemP (decide (st = 2)) (c :: r)).kind, (c :: r).take (itemP (decide (st = 2)) (c :: r)).len) ::
        lexG n (after st (itemP (decide (st = 2)) (c :: r)).kind ((c :: r).take (itemP (decide (st = 2)) (c :: r)).len)) false ((c :: r).drop (itemP (decide (st = 2)) (c :: r)).len)
def fillW : Nat → Bs
  | 0 => [32]
  | 1 => [9]
  | 2 => [32, 47, 42, 32, 120, 32, 42, 47]
  | 3 => [32, 32]
  | 4 => [32, 47, 42, 42, 47, 32, 47, 42, 32, 10, 32, 42, 47]
  | _ => [11, 12]
def ren (w : Nat → Nat) : Nat → List (Bool × Int × Bs) → Bs
  | _, [] => []
  | i, t :: r => (if (decide (t.2.1 = 8) || t.1) = true then fillW (w i) else []) ++ (if t.2.1 = 8 then [] else t.2.2) ++ ren w (i + 1) r
theorem lexG_white {n : Nat} {st : Int} {sp : Bool} {c : Int} {r : Bs} (h : white c = true) : lexG (n + 1) st sp (c :: r) = lexG n st true r := by
  simp only [lexG, h]
end Go.Lx
namespace Go.Lx
theorem lexG_item {n : Nat} {st : Int} {sp : Bool} {c : Int} {r : Bs} (hst : st ≠ 2) (hw : white c = false) (he : (itemP false (c :: r)).err = 0) :
    lexG (n + 1) st sp (c :: r) = (sp, (itemP false (c :: r)).kind, (c :: r).take (itemP false (c :: r)).len) :: lexG n (after st (itemP false (c :: r)).kind ((c :: r).take (itemP false (c :: r)).len)) false ((c :: r).drop (itemP false (c :: r)).len) := by
  have hd : decide (st = 2) = false := decide_eq_false hst
  simp only [lexG, hw, hd]
  rw [if_neg (by simpa using he)]
theorem okF_item {n : Nat} {st : Int} {c : Int} {r : Bs} (hst : st ≠ 2) (hw : white c = false) :
    okF (n + 1) st (c :: r) ↔ (itemP false (c :: r)).err = 0 ∧ okF n (after st (itemP false (c :: r)).kind ((c :: r).take (itemP false (c :: r)).len)) ((c :: r).drop (itemP false (c :: r)).len) := by
  have hd : decide (st = 2) = false := decide_eq_false hst
  simp only [okF, hw, hd]
end Go.Lx
namespace Go.Lx
end Go.Lx
namespace Go.Proofs.YtnjmkeijjapejaaGreat
open Go.GV Go.RowKit
abbrev It := RowV × List Tok
def it0 : It := (row0, [])
def ItAt (u : Im) (I : List It) : Prop := ∀ i : Nat, i < I.length → SlAt u (I.getD i it0).1.toks (tokY.d (I.getD i it0).2)
theorem ItAt.le {u u' : Im} {I : List It} (h : ItAt u I) (hu : u.le u') : ItAt u' I := fun i hi => (h i hi).le hu
theorem ItAt.sub {u u' : Im} {I : List It} (h : ItAt u I) (hu : u.sub u') : ItAt u' I := fun i hi => (h i hi).sub hu
end Go.Proofs.YtnjmkeijjapejaaGreat
namespace Go.Proofs.YtnjmkeijjapejaaGreat
open Go.GV Go.RowKit
def noHash (t : Tok) : Bool := decide (t.kind ≠ 5) || (decide (t.text ≠ ⟨#[35]⟩) && decide (t.text ≠ ⟨#[37, 58]⟩))
def dirF : Bool → List Tok → ByteArray × Bool
  | m, [] => (⟨#[]⟩, m)
  | m, t :: r => if gone t then dirF m r else if !m && noHash t then (⟨#[]⟩, false) else if !m then dirF true r
    else if t.kind = 1 then (t.text, true) else (⟨#[]⟩, true)
set_option maxRecDepth 100000 in
theorem directive_any (L : List Tok) (x : Value) (w : World) (hx : SlAt (im w) x (tokY.d L)) (hL : L.length ≤ 9223372036854775807) :
    Calls Tryz.prog 37 #[x] w (PureP w fun v _ => v = .tuple #[.string (dirF false L).1, .bool (dirF false L).2]) := by
  refine x_fun tt_ok Tryz.func37 rfl rfl [(x, tokY.d L)] 1 [.r 0] rfl rfl rfl rfl (fun b hb => by simp at hb; subst hb; exact hx) ?_
  refine x_vc tt_ok ?_
  refine x_loop (σ := Int × Bool) (fun (i, m) => ⟨[(9, .v (.int .i64 i)), (8, .v (.int .i64 L.length)), (7, .r 0), (4, .v (.bool m))], [], [(0, .sl (tokY.d L))], 1⟩)
    (fun (i, m) _ => 0 ≤ i ∧ i ≤ L.length ∧ dirF m (L.drop i.toNat) = dirF false L) (fun (i, _) => (L.length - i).toNat) (fun (_, _) => Nat.le_refl _) (0, false) [] (.of rfl rfl rfl rfl rfl rfl)
    ⟨by omega, by omega, by simp⟩ ?_
  rintro ⟨i, m⟩ u hu ⟨g1, g2, g3⟩
  refine x_vc tt_ok ?_
  refine x_if (fun h => ?_) (fun h => ?_)
  · have h2 : i < L.length := of_decide_eq_true h
    rw [drop_at (d := tok0) g1 h2] at g3
    repeat (refine And.intro ?_ ?_; first | omega | (simp only [Lay.d_n]; omega))
    refine x_if (fun h3 => ?_) (fun h3 => ?_)
    · have h4 : gone (L.getD i.toNat tok0) = true := h3
      repeat (refine And.intro ?_ ?_; first | omega | (simp only [Lay.d_n]; omega))
      refine again (i + 1, m) [] (.of rfl rfl rfl rfl rfl rfl) ⟨by omega, by omega, ?_⟩ (by simp only; omega)
      simpa only [dirF, h4, if_true] using g3
    · have h4 : gone (L.getD i.toNat tok0) = false := h3
      simp only [dirF, h4, Bool.false_eq_true, if_false] at g3
      refine x_if (fun h5 => ?_) (fun h5 => ?_)
      · have h6 : (!m && noHash (L.getD i.toNat tok0)) = true := h5
        rw [if_pos h6] at g3
        refine fin1 (fun _ _ => ?_)
        rw [← g3]; rfl
      · have h6 : (!m && noHash (L.getD i.toNat tok0)) = false := h5
        rw [if_neg (by rw [h6]; simp)] at g3
        refine x_if (fun h7 => ?_) (fun h7 => ?_)
        · rw [if_pos h7] at g3
          repeat (refine And.intro ?_ ?_; first | omega | (simp only [Lay.d_n]; omega))
          exact again (i + 1, true) [] (.of rfl rfl rfl rfl rfl rfl) ⟨by omega, by omega, g3⟩ (by simp only; omega)
        · rw [if_neg (by rw [h7]; simp)] at g3
          refine x_if (fun h8 => ?_) (fun h8 => ?_)
          · rw [if_pos (of_decide_eq_true h8)] at g3
            refine fin1 (fun _ _ => ?_)
            rw [← g3]; rfl
          · rw [if_neg (of_decide_eq_false h8)] at g3
            refine fin1 (fun _ _ => ?_)
            rw [← g3]; rfl
  · have h2 : ¬ (i < (L.length : Int)) := of_decide_eq_false h
    rw [List.drop_eq_nil_of_le (by omega)] at g3
    simp only [dirF] at g3
    refine fin1 (fun _ _ => ?_)
    rw [← g3]; rfl
def pcs : Nat → Nat → List Tok → List (Nat × Nat)
  | f, i, [] => if f < i then [(f, i)] else []
  | f, i, t :: r => if t.kind = 9 then (f, i + 1) :: pcs (i + 1) (i + 1) r else pcs f (i + 1) r
def pcV (A : Option Addr) (c : Nat) (p : Nat × Nat) : Value := partV 5 A c p.1 p.2
theorem pcs_mem : ∀ (L : List Tok) (f i : Nat) (p : Nat × Nat), f ≤ i → p ∈ pcs f i L → f ≤ p.1 ∧ p.1 < p.2 ∧ p.2 ≤ i + L.length
  | [], f, i, p, h, hp => by
    simp only [pcs] at hp
    split at hp
    · rw [List.mem_singleton.1 hp]; exact ⟨Nat.le_refl _, by assumption, Nat.le_refl _⟩
    · cases hp
  | t :: r, f, i, p, h, hp => by
    simp only [pcs] at hp
    split at hp
    · rcases List.mem_cons.1 hp with rfl | hp
      · exact ⟨Nat.le_refl _, by show f < i + 1; omega, by show i + 1 ≤ _; simp⟩
      · have := pcs_mem r (i + 1) (i + 1) p (Nat.le_refl _) hp
        simp only [List.length_cons]; omega
    · have := pcs_mem r f (i + 1) p (by omega) hp
      simp only [List.length_cons]; omega
theorem pcs_len : ∀ (L : List Tok) (f i : Nat), f ≤ i → (pcs f i L).length ≤ L.length + (i - f)
  | [], f, i, h => by
    simp only [pcs]
    split
    · simp; omega
    · simp
  | t :: r, f, i, h => by
    simp only [pcs]
    split
    · have := pcs_len r (i + 1) (i + 1) (Nat.le_refl _)
      simp only [List.length_cons]; omega
    · have := pcs_len r f (i + 1) (by omega)
      simp only [List.length_cons]; omega
set_option maxRecDepth 100000 in
theorem pieces_iter (L : List Tok) (A : Option Addr) (c : Nat) (b : Nat) (u0 : Im) (hb : u0.h b = some (.cells #[.slice A L.length c] 39 (0, 0))) (hx : SlAt u0 (.slice A L.length c) (tokY.d L)) (hL : L.length * 48 ≤ 140737488355328) :
    Iter Tryz.prog 65 #[.pointer (some ⟨b, 0, none⟩)] ((pcs 0 0 L).map (pcV A c)) u0 := by
  refine x_iter tt_ok Tryz.func65 rfl rfl [(.slice (some ⟨b, 0, none⟩) 1 1, ⟨1, [fun _ => .slice A L.length c]⟩)] [.e 1 1 0 0] (boxEnv b) (fun j x hj => ?_) rfl rfl (fun x hx => ?_) (fun x hx => ?_) (fun l Y Z u hu hR => ?_)
  · match j, hj with
    | 0, hj => cases hj; rfl
    | j + 1, hj => simp at hj
  · simp only [List.mem_singleton] at hx
    subst hx
    exact ⟨by simp, _, 1, 1, rfl, Int.le_refl _, by omega⟩
  · simp only [List.mem_singleton] at hx
    subst hx
    exact SlAt.box1 hb
  refine x_vc tt_ok ?_
  refine x_sl 6 rfl (hx.sub hu.sub) ?_
  refine x_loop (σ := Nat × Int × Int) (fun (k, f, i) => ⟨[(8, .v (.int .i64 i)), (7, .v (.int .i64 L.length)), (6, .r 2), (3, .v (.int .i64 f)), (1, .e 1 1 0 0), (0, .v (.func (.yield l) #[] #[]))], [], [(0, .gen (Y k).hp), (1, .sl ⟨1, [fun _ => .slice A L.length c]⟩), (2, .sl (tokY.d L))], 3⟩)
    (fun (k, f, i) _ => 0 ≤ f ∧ f ≤ i ∧ i ≤ L.length ∧ ∃ pre, pre.length = k ∧ pcs 0 0 L = pre ++ pcs f.toNat i.toNat (L.drop i.toNat)) (fun (_, _, i) => (L.length - i).toNat) (fun (_, _, _) => Nat.le_refl 3) (0, 0, 0) [] (.of rfl rfl rfl rfl rfl rfl)
    ⟨by omega, by omega, by omega, [], rfl, by simp⟩ ?_
  rintro ⟨k, f, i⟩ u2 hu2 ⟨g1, g2, g3, pre, g4, g5⟩
  have hcap : L.length ≤ c := by obtain ⟨A', c', q1, q2, _⟩ := hx; cases q1; exact q2
  refine x_vc tt_ok ?_
  refine x_if (fun h => ?_) (fun h => ?_)
  · have h2 : i < L.length := of_decide_eq_true h
    rw [drop_at (d := tok0) (by omega) h2] at g5
    simp only [pcs] at g5
    have ei : (i + 1).toNat = i.toNat + 1 := by omega
    rw [ei] at g5
    repeat (refine And.intro ?_ ?_; first | omega | (simp only [Lay.d_n]; omega))
    refine x_if (fun h3 => ?_) (fun h3 => ?_)
    · have h4 : ¬ (L.getD i.toNat tok0).kind = 9 := of_decide_eq_true h3
      rw [if_neg h4] at g5
      repeat (refine And.intro ?_ ?_; first | omega | (simp only [Lay.d_n]; omega))
      exact again (k, f, i + 1) [] (.of rfl rfl rfl rfl rfl rfl) ⟨by omega, by omega, by omega, pre, g4, by rw [ei]; exact g5⟩ (by simp only; omega)
    · have h4 : (L.getD i.toNat tok0).kind = 9 := Classical.not_not.1 (of_decide_eq_false h3)
      rw [if_pos h4] at g5
      repeat (refine And.intro ?_ ?_; first | omega | (simp only [Lay.d_n]; omega))
      refine xl_subE tt_ok rfl rfl rfl rfl rfl rfl rfl rfl rfl rfl (by omega) (by omega) (by omega) ?_
      refine xl_go tt_ok ?_
      have hx1 : ((pcs 0 0 L).map (pcV A c))[k]? = some (partV 5 A c f.toNat (i + 1).toNat) := by
        rw [List.getElem?_map, g5, List.getElem?_append_right (by omega), g4, Nat.sub_self, ei]; rfl
      refine xl_yield (kY := 0) rfl hR rfl rfl rfl rfl rfl rfl rfl rfl hx1 ?_ ?_
      · refine xl_go tt_ok ?_
        refine x_iff rfl ?_
        repeat (refine And.intro ?_ ?_; first | omega | (simp only [Lay.d_n]; omega))
        exact again (k + 1, i + 1, i + 1) [] (.of rfl rfl rfl rfl rfl rfl) ⟨by omega, by omega, by omega, pre ++ [(f.toNat, i.toNat + 1)], by rw [List.length_append, g4]; rfl, by rw [ei, g5, List.append_assoc]; rfl⟩ (by simp only; omega)
      · refine xl_go tt_ok ?_
        refine x_ift rfl ?_
        exact .inr rfl
  · have h2 : ¬ (i < (L.length : Int)) := of_decide_eq_false h
    rw [List.drop_eq_nil_of_le (by omega)] at g5
    have ei : i.toNat = L.length := by omega
    rw [ei] at g5
    simp only [pcs] at g5
    refine x_if (fun h3 => ?_) (fun h3 => ?_)
    · have h4 : f < (L.length : Int) := of_decide_eq_true h3
      rw [if_pos (by omega)] at g5
      refine xl_fromE tt_ok rfl rfl rfl rfl rfl rfl rfl rfl rfl (by omega) (by omega) ?_
      refine xl_go tt_ok ?_
      have hx1 : ((pcs 0 0 L).map (pcV A c))[k]? = some (partV 5 A c f.toNat L.length) := by
        rw [List.getElem?_map, g5, List.getElem?_append_right (by omega), g4, Nat.sub_self]; rfl
      have hk : ((pcs 0 0 L).map (pcV A c)).length = k + 1 := by rw [List.length_map, g5, List.length_append, g4]; rfl
      refine xl_yield (kY := 0) rfl hR rfl rfl rfl rfl rfl rfl rfl rfl hx1 ?_ ?_
      · refine xl_go tt_ok ?_
        exact .inl (by rw [hk]; rfl)
      · refine xl_go tt_ok ?_
        exact .inr rfl
    · have h4 : ¬ f < (L.length : Int) := of_decide_eq_false h3
      rw [if_neg (by omega), List.append_nil] at g5
      have hk : ((pcs 0 0 L).map (pcV A c)).length = k := by rw [List.length_map, g5, g4]
      exact .inl (by rw [hk]; rfl)
end Go.Proofs.YtnjmkeijjapejaaGreat
namespace Go.Proofs.YtnjmkeijjapejaaGreat
open Go.GV Go.RowKit
set_option maxRecDepth 100000 in
theorem clone_own (L : List Tok) (x : Value) (w : World) (hx : SlAt (im w) x (tokY.d L)) (hL : L.length * 48 ≤ 140737488355328) :
    Calls Tryz.prog 38 #[x] w (PureP w fun v u => OwnAt u v 82 (tokY.d L)) := by
  refine x_fun tt_ok Tryz.func38 rfl rfl [(x, tokY.d L)] 1 [.r 0] rfl rfl rfl rfl (fun b hb => by simp at hb; subst hb; exact hx) ?_
  refine x_vc tt_ok ?_
  refine xl_eqnil tt_ok rfl rfl rfl rfl rfl rfl rfl (fun E w F hs => hs.slAt (k := 0) rfl) (fun b hb => ?_)
  refine xl_go tt_ok ?_
  refine x_if (fun h => ?_) (fun h => ?_)
  · have h0 : L = [] := List.eq_nil_of_length_eq_zero (hb h)
    subst h0
    exact finP fun _ _ _ hs _ => .inl ⟨rfl, rfl⟩
  · refine xl_empty tt_ok tokY rfl rfl rfl rfl rfl rfl rfl ?_
    refine xl_go tt_ok ?_
    refine xl_append tt_ok tokY [] L 48 rfl rfl rfl rfl rfl rfl rfl rfl (by kernel_rfl) rfl rfl rfl (fun E w F hs => hs.slAt (k := 0) rfl) tokOne rfl (by simp; omega) (by simp; omega) ?_
    refine xl_go tt_ok ?_
    exact finO (k := 2) (D := tokY.d L) rfl
structure RowT where
  dir : Bool
  name : ByteArray
  ts : List Tok
def rowT0 : RowT := ⟨false, ⟨#[]⟩, []⟩
def RowT.key (r : RowT) : Bool × ByteArray := (r.dir, r.name)
def addLine (s : List RowT × Bool) (line : List Tok) : List RowT × Bool :=
  if (!(dirF false line).2 && s.2) = true then (s.1.set (s.1.length - 1) { s.1.getD (s.1.length - 1) rowT0 with ts := (s.1.getD (s.1.length - 1) rowT0).ts ++ line }, s.2)
  else (s.1 ++ [⟨(dirF false line).2, (dirF false line).1, line⟩], !(dirF false line).2)
def lnOf (L : List Tok) (p : Nat × Nat) : List Tok := (L.take p.2).drop p.1
def linesOf (L : List Tok) : List (List Tok) := (pcs 0 0 L).map (lnOf L)
def rowsOf (L : List Tok) : List RowT := ((linesOf L).foldl addLine ([], false)).1
def itemsS (V : List RowV) (R : List RowT) : List SI := List.zipWith (fun v r => ⟨v.toks, 82, tokY.d r.ts⟩) V R
theorem itemsS_set {V : List RowV} {R : List RowT} {i : Nat} {v : RowV} {r : RowT} : itemsS (V.set i v) (R.set i r) = (itemsS V R).set i ⟨v.toks, 82, tokY.d r.ts⟩ := by
  unfold itemsS
  refine List.ext_getElem? fun j => ?_
  simp only [List.getElem?_zipWith, List.getElem?_set, List.length_zipWith]
  by_cases h : i = j
  · subst h
    simp only [if_true]
    by_cases h1 : i < V.length
    · by_cases h2 : i < R.length
      · rw [if_pos h1, if_pos h2, if_pos (by omega)]
      · rw [if_pos h1, if_neg h2, if_neg (by omega)]
    · rw [if_neg h1, if_neg (show ¬ i < min V.length R.length by omega)]
  · simp only [if_neg h]
theorem itemsS_push {V : List RowV} {R : List RowT} (h : V.length = R.length) (v : RowV) (r : RowT) : itemsS (V ++ [v]) (R ++ [r]) = itemsS V R ++ [⟨v.toks, 82, tokY.d r.ts⟩] := by
  unfold itemsS
  rw [List.zipWith_append h]; rfl
theorem itemsS_get {V : List RowV} {R : List RowT} {i : Nat} (h1 : i < V.length) (h2 : i < R.length) : (itemsS V R)[i]? = some ⟨(V.getD i row0).toks, 82, tokY.d (R.getD i rowT0).ts⟩ := by
  unfold itemsS
  rw [List.getElem?_zipWith, List.getElem?_eq_getElem h1, List.getElem?_eq_getElem h2]
  simp [List.getD_eq_getElem?_getD, List.getElem?_eq_getElem h1, List.getElem?_eq_getElem h2]
theorem pcs_sum (L : List Tok) : ∀ (r : List Tok) (f i : Nat), f ≤ i → i + r.length ≤ L.length → (((pcs f i r).map (lnOf L)).map List.length).sum = i - f + r.length
  | [], f, i, h, hl => by
    simp only [pcs]
    split
    · simp [lnOf]; simp at hl; omega
    · simp; omega
  | t :: r, f, i, h, hl => by
    simp only [List.length_cons] at hl
    simp only [pcs, List.length_cons]
    split
    · have := pcs_sum L r (i + 1) (i + 1) (Nat.le_refl _) (by omega)
      simp only [List.map_cons, List.sum_cons, this, lnOf, List.length_drop, List.length_take]
      omega
    · have := pcs_sum L r f (i + 1) (by omega) (by omega)
      rw [this]; omega
def sizeR (R : List RowT) : Nat := (R.map (fun r => r.ts.length)).sum
theorem sum_set : ∀ (l : List Nat) (i : Nat) (a : Nat), i < l.length → (l.set i a).sum + l.getD i 0 = l.sum + a
  | [], i, a, h => by simp at h
  | x :: l, 0, a, h => by simp; omega
  | x :: l, i + 1, a, h => by
    simp only [List.length_cons, Nat.add_lt_add_iff_right] at h
    have := sum_set l i a h
    simp only [List.set_cons_succ, List.sum_cons, List.getD_cons_succ]
    omega
theorem addLine_size (s : List RowT × Bool) (line : List Tok) (h : s.2 = true → s.1 ≠ []) : sizeR (addLine s line).1 = sizeR s.1 + line.length ∧ ((addLine s line).2 = true → (addLine s line).1 ≠ []) ∧ (addLine s line).1.length ≤ s.1.length + 1 := by
  unfold addLine
  split
  · rename_i hc
    simp only [Bool.and_eq_true] at hc
    have hne := h hc.2
    have hpos : s.1.length - 1 < s.1.length := by
      cases hs : s.1 with
      | nil => exact absurd hs hne
      | cons => simp
    refine ⟨?_, fun _ hh => ?_, by simp⟩
    · unfold sizeR
      rw [List.map_set]
      have := sum_set (s.1.map (fun r => r.ts.length)) (s.1.length - 1) ((s.1.getD (s.1.length - 1) rowT0).ts ++ line).length (by simpa using hpos)
      have e : (s.1.map (fun r => r.ts.length)).getD (s.1.length - 1) 0 = (s.1.getD (s.1.length - 1) rowT0).ts.length := by
        simp [List.getD_eq_getElem?_getD, List.getElem?_eq_getElem hpos]
      rw [e] at this
      simp only [List.length_append] at this ⊢
      omega
    · have := congrArg List.length hh
      simp at this
      exact hne this
  · refine ⟨?_, fun _ => by simp, by simp⟩
    simp [sizeR]
theorem getD_size {R : List RowT} {i : Nat} (h : i < R.length) : (R.getD i rowT0).ts.length ≤ sizeR R := by
  unfold sizeR
  induction R generalizing i with
  | nil => simp at h
  | cons r R ih =>
    cases i with
    | zero => simp
    | succ i =>
      simp only [List.length_cons, Nat.add_lt_add_iff_right] at h
      have := ih h
      simp only [List.getD_cons_succ, List.map_cons, List.sum_cons]
      omega
def PiecesFn (x : Value) (v : Value) (u : Im) : Prop := ∃ b, v = .func (.func 65) #[] #[.pointer (some ⟨b, 0, none⟩)] ∧ u.h b = some (.cells #[x] 39 (0, 0))
set_option maxRecDepth 100000 in
theorem piecesFn_any (A : Option Addr) (n c : Nat) (w : World) : Calls Tryz.prog 36 #[.slice A n c] w (PureP w (PiecesFn (.slice A n c))) := by
  refine x_fun tt_ok Tryz.func36 rfl rfl [] 0 [.v (.slice A n c)] rfl rfl rfl rfl (fun b hb => by cases hb) ?_
  refine x_vc tt_ok ?_
  refine finP (fun E w' F hs hu => ?_)
  obtain ⟨b, h1, h2⟩ := hs.boxNew (k := 0) rfl hu
  refine ⟨b, ?_, h2⟩
  simp [SV.den, tupV, ptrOf, h1]
def RowsR (R : List RowT) : Value → Im → Prop := StarR (fun (s : Option Addr × Nat × List RowV) => .slice s.1 R.length s.2.1) (fun s => itemsS s.2.2 R ++ [⟨.slice s.1 R.length s.2.1, 48, rowY.d s.2.2⟩]) (fun s => s.2.2.map RowV.key = R.map RowT.key)
theorem rowOne : ∀ x : RowV, ∀ y ∈ rowY.el x, oneB y = true := by
  intro x y hy
  simp [Lay.el] at hy
  rcases hy with rfl | rfl | rfl <;> rfl
set_option maxRecDepth 100000 in
theorem rows_any (L : List Tok) (A : Option Addr) (c : Nat) (w : World) (hx : SlAt (im w) (.slice A L.length c) (tokY.d L)) (hL : L.length * 48 ≤ 140737488355328) :
    Calls Tryz.prog 14 #[.slice A L.length c] w (PureP w (RowsR (rowsOf L))) := by
  refine x_fun tt_ok Tryz.func14 rfl rfl [] 0 [.v (.slice A L.length c)] rfl rfl rfl rfl (fun b hb => by cases hb) ?_
  refine x_vc tt_ok ?_
  refine xl_call _ rfl rfl rfl rfl fn36 rfl rfl (fun E w F _ => piecesFn_any _ _ _ w) (fun v u1 u2 hu2 hs2 hv => ?_)
  obtain ⟨b, rfl, hb⟩ := hv
  have hb2 := of_sub_cut hs2 hb
  have hx2 : SlAt u2 (.slice A L.length c) (tokY.d L) := hx.le hu2
  refine xl_go tt_ok ?_
  refine x_nilCell 0 48 rowY [] [] rfl ?_
  refine x_star0 0 ?_
  refine x_range (σ := Bool × List RowV × List RowT) (τ := Empty) rfl fn65 (pieces_iter L A c b u2 hb2 hx2 hL) [(3, .p 0 0), (4, .p 1 0), (0, .v (.slice A L.length c))]
    (fun (run, V, R) => [(0, .box 42 [.r 5]), (1, .box 4 [.v (.bool run)]), (5, .row 48 (rowY.d V)), (3, .gen (starHp (itemsS V R)))]) (fun _ => 6)
    (fun k (run, V, R) _ => ((linesOf L).take k).foldl addLine ([], false) = (R, run) ∧ V.map RowV.key = R.map RowT.key ∧ sizeR R = (((linesOf L).take k).map List.length).sum ∧ (run = true → R ≠ []) ∧ R.length ≤ k)
    (fun _ => []) (fun _ => 6) (fun _ e _ => False) (false, [], []) [(5, some 2)] (.of rfl rfl rfl rfl rfl rfl) ⟨rfl, rfl, rfl, (fun h => by cases h), Nat.le_refl _⟩ rfl
    (fun _ => rfl) (fun _ => rfl) (fun _ => by decide) (fun _ => by decide) rfl (fun l k x s u3 Fr Fr' hx hu3 hg => ?_) (fun s u3 hu3 hg => ?_) (fun _ e u3 hu3 hg => hg.elim)
  · obtain ⟨run, V, R⟩ := s
    rw [List.getElem?_map] at hx
    obtain ⟨p, hp, rfl⟩ := Option.map_eq_some_iff.1 hx
    have hm := pcs_mem L 0 0 p (Nat.le_refl _) (List.mem_of_getElem? hp)
    have hln : SlAt u3 (pcV A c p) (tokY.d (lnOf L p)) := partV_slAt (hx2.le hu3) (by omega) (by omega)
    have hll : (lnOf L p).length = p.2 - p.1 := by simp [lnOf]; omega
    obtain ⟨g1, g2, g3, g4, g5⟩ := hg
    have hk : (linesOf L)[k]? = some (lnOf L p) := by rw [linesOf, List.getElem?_map, hp]; rfl
    have hadd := addLine_size (R, run) (lnOf L p) g4
    have hVR : V.length = R.length := by have := congrArg List.length g2; simpa using this
    have hpl := pcs_len L 0 0 (Nat.le_refl _)
    have hkl : k < (pcs 0 0 L).length := (List.getElem?_eq_some_iff.1 hp).1
    have hsum : sizeR R + (lnOf L p).length ≤ L.length := by
      have h1 := pcs_sum L L 0 0 (Nat.le_refl _) (by omega)
      rw [g3]
      have h2 := congrArg (fun l => (l.map List.length).sum) (List.take_append_drop k (linesOf L))
      simp only [List.map_append, List.sum_append] at h2
      rw [show (linesOf L).drop k = lnOf L p :: (linesOf L).drop (k + 1) from drop_get hk] at h2
      simp only [List.map_cons, List.sum_cons] at h2
      have h3 : ((linesOf L).map List.length).sum = L.length := by rw [linesOf, h1]; omega
      omega
    have next : ((linesOf L).take (k + 1)).foldl addLine ([], false) = addLine (R, run) (lnOf L p) := by
      rw [take_get hk, List.foldl_append, g1]; rfl
    have nsum : (((linesOf L).take (k + 1)).map List.length).sum = sizeR R + (lnOf L p).length := by
      rw [take_get hk, List.map_append, List.sum_append, ← g3]; simp
    refine x_vc tt_ok ?_
    refine ⟨rfl, rfl, x_vc tt_ok ?_⟩
    refine xl_call0 (.tuple #[.string (dirF false (lnOf L p)).1, .bool (dirF false (lnOf L p)).2]) rfl rfl rfl rfl fn37 rfl rfl (fun E w F hs => directive_any _ _ w (hln.imm hs.imm) (by omega)) ?_
    refine xl_go tt_ok ?_
    refine x_if (fun h => ?_) (fun h => ?_)
    · have h1 : (!(dirF false (lnOf L p)).2 && run) = true := h
      rw [addLine, if_pos h1] at next hadd
      obtain ⟨hd1, hd2⟩ := Bool.and_eq_true_iff.1 h1
      subst hd2
      have hRne := g4 rfl
      have hpos : 0 < R.length := List.length_pos_iff.2 hRne
      have hi : (((V.length : Nat) : Int) - 1).toNat < V.length := by omega
      have hi2 : (((V.length : Nat) : Int) - 1).toNat < R.length := by omega
      have hei : (((V.length : Nat) : Int) - 1).toNat = R.length - 1 := by omega
      have hts := getD_size hi2
      repeat (refine And.intro ?_ ?_; first | omega | (simp only [Lay.d_n]; omega))
      refine xl_unpark 31 3 (((V.length : Nat) : Int) - 1).toNat rfl rfl (itemsS_get hi hi2) ?_
      refine xl_append tt_ok tokY (R.getD (((V.length : Nat) : Int) - 1).toNat rowT0).ts (lnOf L p) 48 rfl rfl rfl rfl rfl rfl rfl rfl (by kernel_rfl) rfl rfl rfl (fun E w F hs => hln.imm hs.imm) tokOne rfl (by omega) (by omega) ?_
      refine xl_go tt_ok ?_
      refine xl_park 7 3 (((V.length : Nat) : Int) - 1).toNat rfl rfl (List.getElem?_set_self (by rw [itemsS, List.length_zipWith]; omega)) rfl (fun A' c' => ?_)
      refine xl_set tt_ok (cs := [.slice A' (tokY.d ((R.getD (((V.length : Nat) : Int) - 1).toNat rowT0).ts ++ lnOf L p)).n c']) rowY V { V.getD (((V.length : Nat) : Int) - 1).toNat row0 with ta := A', tn := (tokY.d ((R.getD (((V.length : Nat) : Int) - 1).toNat rowT0).ts ++ lnOf L p)).n, tc := c' } rfl rfl rfl rfl rfl rfl rfl (by simp only [Lay.d_n]; omega) (by simp only [Lay.d_n]; omega) rfl rfl (Nat.le_refl 3) rfl ?_
      refine xl_go tt_ok ?_
      rw [List.set_set]
      have e := itemsS_set (V := V) (R := R) (i := (((V.length : Nat) : Int) - 1).toNat) (v := { V.getD (((V.length : Nat) : Int) - 1).toNat row0 with ta := A', tn := (tokY.d ((R.getD (((V.length : Nat) : Int) - 1).toNat rowT0).ts ++ lnOf L p)).n, tc := c' })
        (r := { R.getD (((V.length : Nat) : Int) - 1).toNat rowT0 with ts := (R.getD (((V.length : Nat) : Int) - 1).toNat rowT0).ts ++ lnOf L p })
      refine ⟨(true, V.set (((V.length : Nat) : Int) - 1).toNat { V.getD (((V.length : Nat) : Int) - 1).toNat row0 with ta := A', tn := (tokY.d ((R.getD (((V.length : Nat) : Int) - 1).toNat rowT0).ts ++ lnOf L p)).n, tc := c' }, R.set (((V.length : Nat) : Int) - 1).toNat { R.getD (((V.length : Nat) : Int) - 1).toNat rowT0 with ts := (R.getD (((V.length : Nat) : Int) - 1).toNat rowT0).ts ++ lnOf L p }), [], ?_, ?_⟩
      · simp only [e]
        exact .of rfl rfl rfl rfl rfl rfl
      · rw [hei]
        refine ⟨next, ?_, by rw [nsum]; exact hadd.1, fun h => hadd.2.1 h, by have := hadd.2.2; simp at this ⊢; omega⟩
        rw [List.map_set, List.map_set, g2]
        congr 1
        have := congrArg (fun l => l.getD (R.length - 1) row0.key) g2
        simp only [List.getD_eq_getElem?_getD, List.getElem?_map] at this ⊢
        rw [List.getElem?_eq_getElem (by omega : R.length - 1 < V.length), List.getElem?_eq_getElem (by omega : R.length - 1 < R.length)] at this ⊢
        exact this
    · have h1 : (!(dirF false (lnOf L p)).2 && run) = false := h
      rw [addLine, if_neg (by rw [h1]; simp)] at next hadd
      generalize hD : dirF false (lnOf L p) = dn at h1 next hadd ⊢
      have pz : (R ++ [(⟨dn.2, dn.1, lnOf L p⟩ : RowT)]).length ≤ k + 1 := by simp; omega
      refine x_via (σ := Option Addr × Nat) (fun (A', c') => ⟨[(7, .v (.bool dn.2)), (4, .p 1 0), (3, .p 0 0)], [],
          [(4, .gen Fr'), (0, .box 42 [.r 6]), (1, .box 4 [.v (.bool run)]), (6, .row 48 (rowY.d (V ++ [⟨dn.2, dn.1, A', (tokY.d (lnOf L p)).n, c'⟩]))), (3, .gen (starHp (itemsS V R ++ [⟨.slice A' (tokY.d (lnOf L p)).n c', 82, tokY.d (lnOf L p)⟩])))], 7⟩) (fun _ _ => True) (fun _ => (by decide : 6 ≤ 7)) ?_ ?_
      · refine x_drawA mix ?_
        refine xa_pures tt_ok (fuel := 6) [1, 2, 3] rfl (by kernel_rfl) (by kernel_rfl) (fun _ _ _ hh => hh) (by kernel_rfl) (by kernel_rfl) ?_
        refine xa_two 0 4 (by kernel_rfl) rfl rfl (xl_go tt_ok ?_) ?_
        · refine xa_chain (fuel := 0) [4, 5, 6, 7, 8] rfl rfl (by kernel_rfl) ?_
          refine xl_callO 82 (tokY.d (lnOf L p)) rfl rfl rfl rfl fn38 rfl rfl (fun E w F hs => clone_own _ _ w (hln.imm hs.imm) (by omega)) ?_
          refine xl_parkN 6 3 rfl rfl (fun A' c' => ?_)
          refine xl_go tt_ok ?_
          refine xl_build tt_ok rowY [⟨dn.2, dn.1, A', (tokY.d (lnOf L p)).n, c'⟩] [_] rfl rfl rfl rfl rfl rfl rfl rfl rfl rfl rfl rfl rfl rfl rfl ?_
          refine xl_append tt_ok rowY V [⟨dn.2, dn.1, A', (tokY.d (lnOf L p)).n, c'⟩] 48 rfl rfl rfl rfl rfl rfl rfl rfl (by kernel_rfl) rfl rfl rfl (fun E w F hs => hs.rowAt (k := 7) rfl) rowOne rfl (by simp only [List.length_singleton]; omega) (by simp only [List.length_singleton]; omega) ?_
          refine xl_go tt_ok ?_
          refine xa_done (by kernel_rfl) rfl ?_
          exact meet (A', c') [(6, some 8)] (.of rfl rfl rfl rfl rfl rfl) trivial
        · refine xl_callO 82 (tokY.d (lnOf L p)) rfl rfl rfl rfl fn38 rfl rfl (fun E w F hs => clone_own _ _ w (hln.imm hs.imm) (by omega)) ?_
          refine xl_parkN 6 3 rfl rfl (fun A' c' => ?_)
          refine xl_end ?_
          refine xa_two 0 5 (by kernel_rfl) rfl rfl (xl_go tt_ok ?_) (xl_go tt_ok ?_)
          · refine xa_chain (fuel := 0) [5, 6, 7, 8] rfl rfl (by kernel_rfl) ?_
            refine xl_go tt_ok ?_
            refine xl_build tt_ok rowY [⟨dn.2, dn.1, A', (tokY.d (lnOf L p)).n, c'⟩] [_] rfl rfl rfl rfl rfl rfl rfl rfl rfl rfl rfl rfl rfl rfl rfl ?_
            refine xl_append tt_ok rowY V [⟨dn.2, dn.1, A', (tokY.d (lnOf L p)).n, c'⟩] 48 rfl rfl rfl rfl rfl rfl rfl rfl (by kernel_rfl) rfl rfl rfl (fun E w F hs => hs.rowAt (k := 7) rfl) rowOne rfl (by simp only [List.length_singleton]; omega) (by simp only [List.length_singleton]; omega) ?_
            refine xl_go tt_ok ?_
            refine xa_done (by kernel_rfl) rfl ?_
            exact meet (A', c') [(6, some 8)] (.of rfl rfl rfl rfl rfl rfl) trivial
          · refine xa_two 0 6 (by kernel_rfl) rfl rfl (xl_go tt_ok ?_) ?_
            · refine xa_chain (fuel := 0) [6, 7, 8] rfl rfl (by kernel_rfl) ?_
              refine xl_build tt_ok rowY [⟨dn.2, dn.1, A', (tokY.d (lnOf L p)).n, c'⟩] [_] rfl rfl rfl rfl rfl rfl rfl rfl rfl rfl rfl rfl rfl rfl rfl ?_
              refine xl_append tt_ok rowY V [⟨dn.2, dn.1, A', (tokY.d (lnOf L p)).n, c'⟩] 48 rfl rfl rfl rfl rfl rfl rfl rfl (by kernel_rfl) rfl rfl rfl (fun E w F hs => hs.rowAt (k := 7) rfl) rowOne rfl (by simp only [List.length_singleton]; omega) (by simp only [List.length_singleton]; omega) ?_
              refine xl_go tt_ok ?_
              refine xa_done (by kernel_rfl) rfl ?_
              exact meet (A', c') [(6, some 8)] (.of rfl rfl rfl rfl rfl rfl) trivial
            · refine xl_build tt_ok rowY [⟨dn.2, dn.1, A', (tokY.d (lnOf L p)).n, c'⟩] [_] rfl rfl rfl rfl rfl rfl rfl rfl rfl rfl rfl rfl rfl rfl rfl ?_
              refine xl_end ?_
              refine xa_chain (fuel := 0) [0, 7, 8] rfl rfl (by kernel_rfl) ?_
              refine xl_go tt_ok ?_
              refine xl_append tt_ok rowY V [⟨dn.2, dn.1, A', (tokY.d (lnOf L p)).n, c'⟩] 48 rfl rfl rfl rfl rfl rfl rfl rfl (by kernel_rfl) rfl rfl rfl (fun E w F hs => hs.rowAt (k := 7) rfl) rowOne rfl (by simp only [List.length_singleton]; omega) (by simp only [List.length_singleton]; omega) ?_
              refine xl_go tt_ok ?_
              refine xa_done (by kernel_rfl) rfl ?_
              exact meet (A', c') [(6, some 8)] (.of rfl rfl rfl rfl rfl rfl) trivial
      · rintro ⟨A', c'⟩ u4 hu4 _
        refine ⟨(!dn.2, V ++ [⟨dn.2, dn.1, A', (tokY.d (lnOf L p)).n, c'⟩], R ++ [⟨dn.2, dn.1, lnOf L p⟩]), [(5, some 6)], ?_, next, ?_, by rw [nsum]; exact hadd.1, fun h => hadd.2.1 h, pz⟩
        · have e := itemsS_push hVR (⟨dn.2, dn.1, A', (tokY.d (lnOf L p)).n, c'⟩ : RowV) (⟨dn.2, dn.1, lnOf L p⟩ : RowT)
          simp only [e]
          exact .of rfl rfl rfl rfl rfl rfl
        · rw [List.map_append, List.map_append, g2]; rfl
  · obtain ⟨run, V, R⟩ := s
    obtain ⟨g1, g2, _⟩ := hg
    have e1 : ((pcs 0 0 L).map (pcV A c)).length = (linesOf L).length := by simp [linesOf]
    rw [e1, List.take_length] at g1
    have hVR : V.length = R.length := by have := congrArg List.length g2; simpa using this
    have hR : R = rowsOf L := by rw [rowsOf, g1]
    subst hR
    refine finStarO (k := 5) (ks := 3) rfl rfl (fun A' c' => ⟨(A', c', V), fun E hE => ?_, ?_, g2⟩)
    · show E 5 = _
      rw [hE, Lay.d_n, hVR]
    · rw [Lay.d_n, hVR]
end Go.Proofs.YtnjmkeijjapejaaGreat
namespace Go.Proofs.YtnjmkeijjapejaaGreat
open Go.GV Go.RowKit
def hashB (b : List Tok) : Bool := decide (0 < (b.length : Int)) && (decide ((b.getD 0 tok0).kind = 5) && (decide ((b.getD 0 tok0).text = ⟨#[35]⟩) || decide ((b.getD 0 tok0).text = ⟨#[37, 58]⟩)))
set_option maxRecDepth 100000 in
theorem hash_any (L : List Tok) (x : Value) (w : World) (hx : SlAt (im w) x (tokY.d L)) :
    Calls Tryz.prog 50 #[x] w (PureP w fun v _ => v = .bool (hashB L)) := by
  refine x_fun tt_ok Tryz.func50 rfl rfl [(x, tokY.d L)] 1 [.r 0] rfl rfl rfl rfl (fun b hb => by simp at hb; subst hb; exact hx) ?_
  refine x_vc tt_ok ?_
  repeat (refine And.intro ?_ ?_; first | omega | (simp only [decide_eq_true_eq, decide_eq_false_iff_not, Bool.and_eq_true]; simp only [Lay.d_n]; omega))
  refine fin1 (fun _ _ => ?_)
  show Value.bool _ = _
  unfold hashB
  rw [← Bool.and_assoc]
  rfl
def dirB : List Tok → ByteArray × Bool
  | [] => (⟨#[]⟩, false)
  | t :: r => if noHash t then (⟨#[]⟩, false) else match r with
    | [] => (⟨#[]⟩, true)
    | t2 :: _ => if t2.kind = 1 then (t2.text, true) else (⟨#[]⟩, true)
theorem dirF_true (dr : Bool) (L : List Tok) : dirF true L = (match bareFrom dr L with
    | [] => (⟨#[]⟩, true)
    | t2 :: _ => if t2.kind = 1 then (t2.text, true) else (⟨#[]⟩, true)) := by
  induction L generalizing dr with
  | nil => rfl
  | cons t r ih =>
    simp only [dirF, bareFrom]
    cases hg : gone t with
    | true => simp only [if_true]; exact ih true
    | false => simp
theorem dirF_bare (dr : Bool) (L : List Tok) : dirF false L = dirB (bareFrom dr L) := by
  induction L generalizing dr with
  | nil => rfl
  | cons t r ih =>
    simp only [dirF, bareFrom]
    cases hg : gone t with
    | true => simp only [if_true]; exact ih true
    | false =>
      simp only [Bool.false_eq_true, if_false, dirB, Bool.not_false, Bool.true_and, if_true]
      have : noHash { t with space := t.space || dr } = noHash t := rfl
      rw [this, dirF_true false]
theorem hash_dir (b : List Tok) : (dirB b).2 = hashB b := by
  cases b with
  | nil => rfl
  | cons t r =>
    simp only [dirB, hashB, noHash, List.getD_cons_zero, List.length_cons]
    rw [decide_eq_true (show 0 < ((r.length + 1 : Nat) : Int) by omega)]
    by_cases h5 : t.kind = 5
    · by_cases h1 : t.text = ⟨#[35]⟩
      · simp [h5, h1]
        cases r with
        | nil => rfl
        | cons => simp only; split <;> rfl
      · by_cases h2 : t.text = ⟨#[37, 58]⟩
        · simp [h5, h2]
          cases r with
          | nil => rfl
          | cons => simp only; split <;> rfl
        · simp [h5, h1, h2]
    · simp [h5]
def nameB (b : List Tok) : ByteArray := if (hashB b && (decide (1 < (b.length : Int)) && decide ((b.getD 1 tok0).kind = 1))) = true then (b.getD 1 tok0).text else ⟨#[]⟩
theorem name_dir (b : List Tok) : (dirB b).1 = nameB b := by
  unfold nameB
  rw [← hash_dir]
  cases b with
  | nil => rfl
  | cons t r =>
    simp only [dirB]
    split
    · simp
    · cases r with
      | nil => simp
      | cons t2 r =>
        simp only [List.length_cons, List.getD_cons_succ, List.getD_cons_zero]
        rw [decide_eq_true (show 1 < ((r.length + 1 + 1 : Nat) : Int) by omega)]
        by_cases h : t2.kind = 1
        · simp [h]
        · simp [h]
theorem key_dir {V : List RowV} {R : List RowT} (h : V.map RowV.key = R.map RowT.key) (i : Nat) : (V.getD i row0).dir = (R.getD i rowT0).dir := by
  have hl : V.length = R.length := by have := congrArg List.length h; simpa using this
  rcases Nat.lt_or_ge i V.length with hi | hi
  · have := congrArg (fun l => l.getD i row0.key) h
    simp only [List.getD_eq_getElem?_getD, List.getElem?_map] at this ⊢
    rw [List.getElem?_eq_getElem hi, List.getElem?_eq_getElem (by omega)] at this ⊢
    exact congrArg Prod.fst this
  · simp only [List.getD_eq_getElem?_getD]
    rw [List.getElem?_eq_none hi, List.getElem?_eq_none (by omega)]; rfl
set_option maxRecDepth 100000 in
theorem refRows_any (L : List Tok) (x : Value) (w : World) (hx : SlAt (im w) x (tokY.d L)) (hL : L.length * 48 ≤ 140737488355328) :
    Calls Tryz.prog 20 #[x] w (PureP w (RowsR (rowsOf L))) := by
  refine x_fun tt_ok Tryz.func20 rfl rfl [(x, tokY.d L)] 1 [.r 0] rfl rfl rfl rfl (fun b hb => by simp at hb; subst hb; exact hx) ?_
  refine x_vc tt_ok ?_
  refine x_nil 3 48 rowY rfl ?_
  refine x_nil 4 82 tokY rfl ?_
  refine x_star0 0 ?_
  refine x_loop (σ := Int × List RowV × List RowT × Bool × Int × List Tok) (fun (i, V, R, run, f, ln) => ⟨[(5, .v (.int .i64 i)), (4, .r 5), (3, .r 4), (0, .r 0)], [], [(0, .sl (tokY.d L)), (4, .row 48 (rowY.d V)), (5, .row 82 (tokY.d ln)), (3, .gen (starHp (itemsS V R)))], 6⟩)
    (fun (i, V, R, run, f, ln) _ => 0 ≤ f ∧ f ≤ i ∧ i ≤ L.length ∧ (i = L.length → f = i) ∧ ln = (L.take i.toNat).drop f.toNat ∧ (∃ pre, pcs 0 0 L = pre ++ pcs f.toNat i.toNat (L.drop i.toNat) ∧ (pre.map (lnOf L)).foldl addLine ([], false) = (R, run) ∧ (sizeR R : Int) = f ∧ R.length ≤ i) ∧ V.map RowV.key = R.map RowT.key ∧ (run = (decide (0 < (R.length : Int)) && !(R.getD (R.length - 1) rowT0).dir)))
    (fun (i, _, _, _, _, _) => (L.length - i).toNat) (fun (_, _, _, _, _, _) => (by decide : 4 ≤ 6)) (0, [], [], false, 0, []) [(4, some 1), (5, some 2)] (.of rfl rfl rfl rfl rfl rfl)
    ⟨by omega, by omega, by omega, by omega, (by simp), ⟨[], by simp, rfl, rfl, by simp⟩, rfl, rfl⟩ ?_
  rintro ⟨i, V, R, run, f, ln⟩ u hu ⟨g0, g1, g2, g3, rfl, ⟨pre, g4, g5, g6, g7⟩, g8, g9⟩
  have hVR : V.length = R.length := by have := congrArg List.length g8; simpa using this
  refine x_vc tt_ok ?_
  refine x_if (fun h => ?_) (fun h => ?_)
  · have h2 : i < L.length := of_decide_eq_true h
    have ei : (i + 1).toNat = i.toNat + 1 := by omega
    have hline : ((L.take i.toNat).drop f.toNat) ++ [L.getD i.toNat tok0] = lnOf L (f.toNat, (i + 1).toNat) := by
      rw [lnOf, take_succ_getD (d := tok0) (by omega) h2, List.drop_append_of_le_length (by rw [List.length_take]; omega)]
    have hll : ((L.take i.toNat).drop f.toNat).length = i.toNat - f.toNat := by rw [List.length_drop, List.length_take]; omega
    have hll2 : (lnOf L (f.toNat, (i + 1).toNat)).length = i.toNat + 1 - f.toNat := by rw [← hline, List.length_append, hll]; simp; omega
    rw [drop_at (d := tok0) (by omega) h2, ei] at g4
    simp only [pcs] at g4
    repeat (refine And.intro ?_ ?_; first | omega | (simp only [Lay.d_n]; omega))
    refine xl_push tt_ok tokY ((L.take i.toNat).drop f.toNat) (L.getD i.toNat tok0) 48 rfl rfl rfl rfl rfl rfl rfl rfl rfl rfl rfl rfl (by kernel_rfl) rfl rfl rfl rfl rfl (fun n hn => by cases hn; decide) rfl rfl rfl (by omega) (by omega) ?_
    rw [hline]
    refine xl_go tt_ok ?_
    repeat (refine And.intro ?_ ?_; first | omega | (simp only [Lay.d_n]; omega) | (simp only [decide_eq_true_eq, decide_eq_false_iff_not, Bool.or_eq_false_iff, Bool.and_eq_true, Bool.or_eq_true, Bool.and_eq_false_iff, Bool.not_eq_true', Bool.not_eq_false', Lay.d_n]; omega) | (simp only [decide_eq_true_eq, decide_eq_false_iff_not, Bool.or_eq_false_iff, Bool.and_eq_true, Bool.or_eq_true, Bool.and_eq_false_iff, Bool.not_eq_true', Bool.not_eq_false']; omega))
    refine x_if (fun h3 => ?_) (fun h3 => ?_)
    · have h4 : (decide ((L.getD i.toNat tok0).kind ≠ 9) && decide (i < (L.length : Int) - 1)) = true := h3
      rw [Bool.and_eq_true, decide_eq_true_eq, decide_eq_true_eq] at h4
      rw [if_neg h4.1] at g4
      repeat (refine And.intro ?_ ?_; first | omega | (simp only [Lay.d_n]; omega) | (simp only [decide_eq_true_eq, decide_eq_false_iff_not, Bool.or_eq_false_iff, Bool.and_eq_true, Bool.or_eq_true, Bool.and_eq_false_iff, Bool.not_eq_true', Bool.not_eq_false', Lay.d_n]; omega) | (simp only [decide_eq_true_eq, decide_eq_false_iff_not, Bool.or_eq_false_iff, Bool.and_eq_true, Bool.or_eq_true, Bool.and_eq_false_iff, Bool.not_eq_true', Bool.not_eq_false']; omega))
      exact again (i + 1, V, R, run, f, lnOf L (f.toNat, (i + 1).toNat)) [(5, some 6)] (.of rfl rfl rfl rfl rfl rfl) ⟨by omega, by omega, by omega, by omega, rfl, ⟨pre, by rw [ei]; exact g4, g5, g6, by omega⟩, g8, g9⟩ (by simp only; omega)
    · have h4 : (decide ((L.getD i.toNat tok0).kind ≠ 9) && decide (i < (L.length : Int) - 1)) = false := h3
      have gnext : pcs 0 0 L = (pre ++ [(f.toNat, (i + 1).toNat)]) ++ pcs (i + 1).toNat (i + 1).toNat (L.drop (i + 1).toNat) := by
        rw [List.append_assoc, List.singleton_append, ei]
        by_cases hk : (L.getD i.toNat tok0).kind = 9
        · rw [if_pos hk] at g4; exact g4
        · rw [decide_eq_true hk, Bool.true_and, decide_eq_false_iff_not] at h4
          rw [if_neg hk, List.drop_eq_nil_of_le (by omega)] at g4
          rw [g4, List.drop_eq_nil_of_le (by omega)]
          simp only [pcs]
          rw [if_pos (by omega), if_neg (by omega)]
      refine xl_callO 82 (tokY.d (bareFrom false (lnOf L (f.toNat, (i + 1).toNat)))) rfl rfl rfl rfl fn49 rfl rfl (fun E w F hs => refBare_any _ _ w (hs.rowAt (k := 6) rfl) (by omega)) ?_
      refine xl_go tt_ok ?_
      obtain ⟨b, hb⟩ : ∃ b, b = bareFrom false (lnOf L (f.toNat, (i + 1).toNat)) := ⟨_, rfl⟩
      rw [← hb]
      refine xl_call0 (.bool (hashB b)) rfl rfl rfl rfl fn50 rfl rfl (fun E w F hs => hash_any b _ w (hs.rowAt (k := 7) rfl)) ?_
      refine xl_parkN 6 3 rfl rfl (fun A' c' => ?_)
      refine xl_go tt_ok ?_
      repeat (refine And.intro ?_ ?_; first | omega | (simp only [Lay.d_n]; omega) | (simp only [decide_eq_true_eq, decide_eq_false_iff_not, Bool.or_eq_false_iff, Bool.and_eq_true, Bool.or_eq_true, Bool.and_eq_false_iff, Bool.not_eq_true', Bool.not_eq_false', Lay.d_n]; omega) | (simp only [decide_eq_true_eq, decide_eq_false_iff_not, Bool.or_eq_false_iff, Bool.and_eq_true, Bool.or_eq_true, Bool.and_eq_false_iff, Bool.not_eq_true', Bool.not_eq_false']; omega))
      refine x_if (fun hn => ?_) (fun hn => ?_)
      · have hnm : nameB b = (b.getD 1 tok0).text := by
          unfold nameB; rw [if_pos (by rw [← Bool.and_assoc]; exact hn)]
        have hlen : 1 < b.length := by
          have hh := hn
          simp only [Bool.and_eq_true, decide_eq_true_eq, Lay.d_n] at hh
          have h9 : (1 : Int) < (b.length : Int) := of_decide_eq_true hh.1.2
          omega
        repeat (refine And.intro ?_ ?_; first | omega | (simp only [Lay.d_n]; omega) | (simp only [decide_eq_true_eq, decide_eq_false_iff_not, Bool.or_eq_false_iff, Bool.and_eq_true, Bool.or_eq_true, Bool.and_eq_false_iff, Bool.not_eq_true', Bool.not_eq_false', Lay.d_n]; omega) | (simp only [decide_eq_true_eq, decide_eq_false_iff_not, Bool.or_eq_false_iff, Bool.and_eq_true, Bool.or_eq_true, Bool.and_eq_false_iff, Bool.not_eq_true', Bool.not_eq_false']; omega))
        refine x_if (fun h5 => ?_) (fun h5 => ?_)
        · have hc : (!(hashB b) && (decide (0 < (V.length : Int)) && !(V.getD ((V.length : Int) - 1).toNat row0).dir)) = true := by rw [← Bool.and_assoc]; exact h5
          rw [Bool.and_eq_true, Bool.and_eq_true, decide_eq_true_eq] at hc
          have hi : ((V.length : Int) - 1).toNat < V.length := by omega
          have hi2 : ((V.length : Int) - 1).toNat < R.length := by omega
          have hts := getD_size hi2
          repeat (refine And.intro ?_ ?_; first | omega | (simp only [Lay.d_n]; omega) | (simp only [decide_eq_true_eq, decide_eq_false_iff_not, Bool.or_eq_false_iff, Bool.and_eq_true, Bool.or_eq_true, Bool.and_eq_false_iff, Bool.not_eq_true', Bool.not_eq_false', Lay.d_n]; omega) | (simp only [decide_eq_true_eq, decide_eq_false_iff_not, Bool.or_eq_false_iff, Bool.and_eq_true, Bool.or_eq_true, Bool.and_eq_false_iff, Bool.not_eq_true', Bool.not_eq_false']; omega))
          refine xl_unpark 86 3 ((V.length : Int) - 1).toNat rfl rfl (by rw [List.getElem?_append_left (by rw [itemsS, List.length_zipWith]; omega)]; exact itemsS_get hi hi2) ?_
          refine xl_append tt_ok tokY (R.getD ((V.length : Int) - 1).toNat rowT0).ts (lnOf L (f.toNat, (i + 1).toNat)) 48 rfl rfl rfl rfl rfl rfl rfl rfl (by kernel_rfl) rfl rfl rfl (fun E w F hs => hs.starAt (s := 3) (i := R.length) rfl (by
            rw [List.getElem?_set, if_neg (by omega), List.getElem?_append_right (by rw [itemsS, List.length_zipWith]; omega)]
            rw [show R.length - (itemsS V R).length = 0 by rw [itemsS, List.length_zipWith]; omega]; rfl)) tokOne rfl (by omega) (by omega) ?_
          refine xl_go tt_ok ?_
          repeat (refine And.intro ?_ ?_; first | omega | (simp only [Lay.d_n]; omega) | (simp only [decide_eq_true_eq, decide_eq_false_iff_not, Bool.or_eq_false_iff, Bool.and_eq_true, Bool.or_eq_true, Bool.and_eq_false_iff, Bool.not_eq_true', Bool.not_eq_false', Lay.d_n]; omega) | (simp only [decide_eq_true_eq, decide_eq_false_iff_not, Bool.or_eq_false_iff, Bool.and_eq_true, Bool.or_eq_true, Bool.and_eq_false_iff, Bool.not_eq_true', Bool.not_eq_false']; omega))
          refine xl_park 10 3 ((V.length : Int) - 1).toNat rfl rfl (List.getElem?_set_self (by rw [List.length_append, itemsS, List.length_zipWith]; omega)) rfl (fun A2 c2 => ?_)
          refine xl_set tt_ok (cs := [.slice A2 (tokY.d ((R.getD ((V.length : Int) - 1).toNat rowT0).ts ++ lnOf L (f.toNat, (i + 1).toNat))).n c2]) rowY V { V.getD ((V.length : Int) - 1).toNat row0 with ta := A2, tn := (tokY.d ((R.getD ((V.length : Int) - 1).toNat rowT0).ts ++ lnOf L (f.toNat, (i + 1).toNat))).n, tc := c2 } rfl rfl rfl rfl rfl rfl rfl (by simp only [Lay.d_n]; omega) (by simp only [Lay.d_n]; omega) rfl rfl (Nat.le_refl 3) rfl ?_
          refine xl_starTake 3 R.length rfl ?_
          refine xl_go tt_ok ?_
          repeat (refine And.intro ?_ ?_; first | omega | (simp only [Lay.d_n]; omega) | (simp only [decide_eq_true_eq, decide_eq_false_iff_not, Bool.or_eq_false_iff, Bool.and_eq_true, Bool.or_eq_true, Bool.and_eq_false_iff, Bool.not_eq_true', Bool.not_eq_false', Lay.d_n]; omega) | (simp only [decide_eq_true_eq, decide_eq_false_iff_not, Bool.or_eq_false_iff, Bool.and_eq_true, Bool.or_eq_true, Bool.and_eq_false_iff, Bool.not_eq_true', Bool.not_eq_false']; omega))
          have hset : (((itemsS V R ++ [(⟨.slice A' (tokY.d (lnOf L (f.toNat, (i + 1).toNat))).n c', 82, tokY.d (lnOf L (f.toNat, (i + 1).toNat))⟩ : SI)]).set ((V.length : Int) - 1).toNat SI.hole).set ((V.length : Int) - 1).toNat (⟨.slice A2 (tokY.d ((R.getD ((V.length : Int) - 1).toNat rowT0).ts ++ lnOf L (f.toNat, (i + 1).toNat))).n c2, 82, tokY.d ((R.getD ((V.length : Int) - 1).toNat rowT0).ts ++ lnOf L (f.toNat, (i + 1).toNat))⟩ : SI)).take R.length =
              itemsS (V.set ((V.length : Int) - 1).toNat { V.getD ((V.length : Int) - 1).toNat row0 with ta := A2, tn := (tokY.d ((R.getD ((V.length : Int) - 1).toNat rowT0).ts ++ lnOf L (f.toNat, (i + 1).toNat))).n, tc := c2 }) (R.set ((V.length : Int) - 1).toNat { R.getD ((V.length : Int) - 1).toNat rowT0 with ts := (R.getD ((V.length : Int) - 1).toNat rowT0).ts ++ lnOf L (f.toNat, (i + 1).toNat) }) := by
            rw [List.set_set, itemsS_set, List.set_append_left _ _ (by rw [itemsS, List.length_zipWith]; omega), List.take_left' (by rw [List.length_set, itemsS, List.length_zipWith]; omega)]; rfl
          simp only [hset]
          have hdd : (V.getD ((V.length : Int) - 1).toNat row0).dir = (R.getD (R.length - 1) rowT0).dir := by rw [key_dir g8]; congr 2; omega
          have hrun : run = true := by rw [g9, decide_eq_true (show 0 < (R.length : Int) by omega), ← hdd]; simpa using hc.2.2
          have hadd : addLine (R, run) (lnOf L (f.toNat, (i + 1).toNat)) = (R.set ((V.length : Int) - 1).toNat { R.getD ((V.length : Int) - 1).toNat rowT0 with ts := (R.getD ((V.length : Int) - 1).toNat rowT0).ts ++ lnOf L (f.toNat, (i + 1).toNat) }, run) := by
            have h1 : ((V.length : Int) - 1).toNat = R.length - 1 := by omega
            rw [addLine, dirF_bare false, ← hb, hash_dir, hrun, if_pos (by rw [Bool.and_true]; exact hc.1), h1]
          have q1 : 0 ≤ i + 1 := by omega
          have q3 : i + 1 ≤ (L.length : Int) := by omega
          have q5 : ((L.length : Int) - (i + 1)).toNat < ((L.length : Int) - i).toNat := by omega
          have q4 : ((R.set ((V.length : Int) - 1).toNat { R.getD ((V.length : Int) - 1).toNat rowT0 with ts := (R.getD ((V.length : Int) - 1).toNat rowT0).ts ++ lnOf L (f.toNat, (i + 1).toNat) }).length : Int) ≤ i + 1 := by rw [List.length_set]; omega
          refine again (i + 1, V.set ((V.length : Int) - 1).toNat { V.getD ((V.length : Int) - 1).toNat row0 with ta := A2, tn := (tokY.d ((R.getD ((V.length : Int) - 1).toNat rowT0).ts ++ lnOf L (f.toNat, (i + 1).toNat))).n, tc := c2 }, R.set ((V.length : Int) - 1).toNat { R.getD ((V.length : Int) - 1).toNat rowT0 with ts := (R.getD ((V.length : Int) - 1).toNat rowT0).ts ++ lnOf L (f.toNat, (i + 1).toNat) }, run, i + 1, []) [(5, none)] (.of rfl rfl rfl rfl rfl rfl)
            ⟨q1, Int.le_refl _, q3, fun _ => rfl, (by simp), ⟨pre ++ [(f.toNat, (i + 1).toNat)], gnext, by rw [List.map_append, List.foldl_append, g5]; exact hadd, ?_, q4⟩, ?_, ?_⟩ q5
          · have := (addLine_size (R, run) (lnOf L (f.toNat, (i + 1).toNat)) (fun _ hh => by have h9 : R = [] := hh; rw [h9] at hi2; simp at hi2)).1
            rw [hadd] at this
            rw [this]; show ((sizeR R + (lnOf L (f.toNat, (i + 1).toNat)).length : Nat) : Int) = i + 1
            omega
          · rw [List.map_set, List.map_set, g8]
            congr 1
            have := congrArg (fun l => l.getD ((V.length : Int) - 1).toNat row0.key) g8
            simp only [List.getD_eq_getElem?_getD, List.getElem?_map] at this ⊢
            rw [List.getElem?_eq_getElem hi, List.getElem?_eq_getElem hi2] at this ⊢
            exact this
          · show run = (decide (0 < ((R.set ((V.length : Int) - 1).toNat { R.getD ((V.length : Int) - 1).toNat rowT0 with ts := (R.getD ((V.length : Int) - 1).toNat rowT0).ts ++ lnOf L (f.toNat, (i + 1).toNat) }).length : Int)) && !((R.set ((V.length : Int) - 1).toNat { R.getD ((V.length : Int) - 1).toNat rowT0 with ts := (R.getD ((V.length : Int) - 1).toNat rowT0).ts ++ lnOf L (f.toNat, (i + 1).toNat) }).getD ((R.set ((V.length : Int) - 1).toNat { R.getD ((V.length : Int) - 1).toNat rowT0 with ts := (R.getD ((V.length : Int) - 1).toNat rowT0).ts ++ lnOf L (f.toNat, (i + 1).toNat) }).length - 1) rowT0).dir)
            rw [List.length_set, hrun, decide_eq_true (show 0 < (R.length : Int) by omega), List.getD_eq_getElem?_getD, List.getElem?_set, if_pos (by omega), if_pos (by omega)]
            show true = (true && !(R.getD ((V.length : Int) - 1).toNat rowT0).dir)
            rw [show ((V.length : Int) - 1).toNat = R.length - 1 by omega, ← hdd]
            simpa using hc.2.2
        · have hc : (!(hashB b) && (decide (0 < (V.length : Int)) && !(V.getD ((V.length : Int) - 1).toNat row0).dir)) = false := by rw [← Bool.and_assoc]; exact h5
          refine xl_push tt_ok rowY V ⟨hashB b, (b.getD 1 tok0).text, A', (tokY.d (lnOf L (f.toNat, (i + 1).toNat))).n, c'⟩ 48 rfl rfl rfl rfl rfl rfl rfl rfl rfl rfl rfl rfl (by kernel_rfl) rfl rfl rfl rfl rfl (fun n hn => by cases hn; decide) rfl rfl rfl (by omega) (by omega) ?_
          refine xl_go tt_ok ?_
          repeat (refine And.intro ?_ ?_; first | omega | (simp only [Lay.d_n]; omega) | (simp only [decide_eq_true_eq, decide_eq_false_iff_not, Bool.or_eq_false_iff, Bool.and_eq_true, Bool.or_eq_true, Bool.and_eq_false_iff, Bool.not_eq_true', Bool.not_eq_false', Lay.d_n]; omega) | (simp only [decide_eq_true_eq, decide_eq_false_iff_not, Bool.or_eq_false_iff, Bool.and_eq_true, Bool.or_eq_true, Bool.and_eq_false_iff, Bool.not_eq_true', Bool.not_eq_false']; omega))
          have e : itemsS V R ++ [(⟨.slice A' (tokY.d (lnOf L (f.toNat, (i + 1).toNat))).n c', 82, tokY.d (lnOf L (f.toNat, (i + 1).toNat))⟩ : SI)] = itemsS (V ++ [(⟨hashB b, (b.getD 1 tok0).text, A', (tokY.d (lnOf L (f.toNat, (i + 1).toNat))).n, c'⟩ : RowV)]) (R ++ [(⟨hashB b, (b.getD 1 tok0).text, lnOf L (f.toNat, (i + 1).toNat)⟩ : RowT)]) := (itemsS_push hVR (⟨hashB b, (b.getD 1 tok0).text, A', (tokY.d (lnOf L (f.toNat, (i + 1).toNat))).n, c'⟩ : RowV) (⟨hashB b, (b.getD 1 tok0).text, lnOf L (f.toNat, (i + 1).toNat)⟩ : RowT)).symm
          have hrun : (!(hashB b) && run) = false := by
            rw [g9]
            by_cases h0 : 0 < (R.length : Int)
            · have hdd : (V.getD ((V.length : Int) - 1).toNat row0).dir = (R.getD (R.length - 1) rowT0).dir := by rw [key_dir g8]; congr 2; omega
              rw [decide_eq_true h0, ← hdd]
              rw [decide_eq_true (show 0 < (V.length : Int) by omega)] at hc
              exact hc
            · rw [decide_eq_false h0]; simp
          have hadd : addLine (R, run) (lnOf L (f.toNat, (i + 1).toNat)) = (R ++ [⟨hashB b, (b.getD 1 tok0).text, lnOf L (f.toNat, (i + 1).toNat)⟩], !(hashB b)) := by
            rw [addLine, dirF_bare false, ← hb, hash_dir, if_neg (by rw [hrun]; simp), name_dir, hnm]
          simp only [e]
          have q1 : 0 ≤ i + 1 := by omega
          have q3 : i + 1 ≤ (L.length : Int) := by omega
          have q5 : ((L.length : Int) - (i + 1)).toNat < ((L.length : Int) - i).toNat := by omega
          have q4 : ((R ++ [(⟨hashB b, (b.getD 1 tok0).text, lnOf L (f.toNat, (i + 1).toNat)⟩ : RowT)]).length : Int) ≤ i + 1 := by rw [List.length_append, List.length_singleton]; omega
          refine again (i + 1, V ++ [⟨hashB b, (b.getD 1 tok0).text, A', (tokY.d (lnOf L (f.toNat, (i + 1).toNat))).n, c'⟩], R ++ [⟨hashB b, (b.getD 1 tok0).text, lnOf L (f.toNat, (i + 1).toNat)⟩], !(hashB b), i + 1, []) [(4, some 9), (5, none)] (.of rfl rfl rfl rfl rfl rfl)
            ⟨q1, Int.le_refl _, q3, fun _ => rfl, (by simp), ⟨pre ++ [(f.toNat, (i + 1).toNat)], gnext, by rw [List.map_append, List.foldl_append, g5]; exact hadd, ?_, q4⟩, ?_, ?_⟩ q5
          · simp only [sizeR, List.map_append, List.sum_append] at g6 ⊢
            simp; omega
          · rw [List.map_append, List.map_append, g8]; rfl
          · simp
        
      · have hnm : nameB b = ⟨#[]⟩ := by
          unfold nameB
          have hn' : (hashB b && decide (1 < (b.length : Int)) && decide ((b.getD 1 tok0).kind = 1)) = false := hn
          rw [if_neg (by rw [← Bool.and_assoc, hn']; simp)]
        repeat (refine And.intro ?_ ?_; first | omega | (simp only [Lay.d_n]; omega) | (simp only [decide_eq_true_eq, decide_eq_false_iff_not, Bool.or_eq_false_iff, Bool.and_eq_true, Bool.or_eq_true, Bool.and_eq_false_iff, Bool.not_eq_true', Bool.not_eq_false', Lay.d_n]; omega) | (simp only [decide_eq_true_eq, decide_eq_false_iff_not, Bool.or_eq_false_iff, Bool.and_eq_true, Bool.or_eq_true, Bool.and_eq_false_iff, Bool.not_eq_true', Bool.not_eq_false']; omega))
        refine x_if (fun h5 => ?_) (fun h5 => ?_)
        · have hc : (!(hashB b) && (decide (0 < (V.length : Int)) && !(V.getD ((V.length : Int) - 1).toNat row0).dir)) = true := by rw [← Bool.and_assoc]; exact h5
          rw [Bool.and_eq_true, Bool.and_eq_true, decide_eq_true_eq] at hc
          have hi : ((V.length : Int) - 1).toNat < V.length := by omega
          have hi2 : ((V.length : Int) - 1).toNat < R.length := by omega
          have hts := getD_size hi2
          repeat (refine And.intro ?_ ?_; first | omega | (simp only [Lay.d_n]; omega) | (simp only [decide_eq_true_eq, decide_eq_false_iff_not, Bool.or_eq_false_iff, Bool.and_eq_true, Bool.or_eq_true, Bool.and_eq_false_iff, Bool.not_eq_true', Bool.not_eq_false', Lay.d_n]; omega) | (simp only [decide_eq_true_eq, decide_eq_false_iff_not, Bool.or_eq_false_iff, Bool.and_eq_true, Bool.or_eq_true, Bool.and_eq_false_iff, Bool.not_eq_true', Bool.not_eq_false']; omega))
          refine xl_unpark 86 3 ((V.length : Int) - 1).toNat rfl rfl (by rw [List.getElem?_append_left (by rw [itemsS, List.length_zipWith]; omega)]; exact itemsS_get hi hi2) ?_
          refine xl_append tt_ok tokY (R.getD ((V.length : Int) - 1).toNat rowT0).ts (lnOf L (f.toNat, (i + 1).toNat)) 48 rfl rfl rfl rfl rfl rfl rfl rfl (by kernel_rfl) rfl rfl rfl (fun E w F hs => hs.starAt (s := 3) (i := R.length) rfl (by
            rw [List.getElem?_set, if_neg (by omega), List.getElem?_append_right (by rw [itemsS, List.length_zipWith]; omega)]
            rw [show R.length - (itemsS V R).length = 0 by rw [itemsS, List.length_zipWith]; omega]; rfl)) tokOne rfl (by omega) (by omega) ?_
          refine xl_go tt_ok ?_
          repeat (refine And.intro ?_ ?_; first | omega | (simp only [Lay.d_n]; omega) | (simp only [decide_eq_true_eq, decide_eq_false_iff_not, Bool.or_eq_false_iff, Bool.and_eq_true, Bool.or_eq_true, Bool.and_eq_false_iff, Bool.not_eq_true', Bool.not_eq_false', Lay.d_n]; omega) | (simp only [decide_eq_true_eq, decide_eq_false_iff_not, Bool.or_eq_false_iff, Bool.and_eq_true, Bool.or_eq_true, Bool.and_eq_false_iff, Bool.not_eq_true', Bool.not_eq_false']; omega))
          refine xl_park 10 3 ((V.length : Int) - 1).toNat rfl rfl (List.getElem?_set_self (by rw [List.length_append, itemsS, List.length_zipWith]; omega)) rfl (fun A2 c2 => ?_)
          refine xl_set tt_ok (cs := [.slice A2 (tokY.d ((R.getD ((V.length : Int) - 1).toNat rowT0).ts ++ lnOf L (f.toNat, (i + 1).toNat))).n c2]) rowY V { V.getD ((V.length : Int) - 1).toNat row0 with ta := A2, tn := (tokY.d ((R.getD ((V.length : Int) - 1).toNat rowT0).ts ++ lnOf L (f.toNat, (i + 1).toNat))).n, tc := c2 } rfl rfl rfl rfl rfl rfl rfl (by simp only [Lay.d_n]; omega) (by simp only [Lay.d_n]; omega) rfl rfl (Nat.le_refl 3) rfl ?_
          refine xl_starTake 3 R.length rfl ?_
          refine xl_go tt_ok ?_
          repeat (refine And.intro ?_ ?_; first | omega | (simp only [Lay.d_n]; omega) | (simp only [decide_eq_true_eq, decide_eq_false_iff_not, Bool.or_eq_false_iff, Bool.and_eq_true, Bool.or_eq_true, Bool.and_eq_false_iff, Bool.not_eq_true', Bool.not_eq_false', Lay.d_n]; omega) | (simp only [decide_eq_true_eq, decide_eq_false_iff_not, Bool.or_eq_false_iff, Bool.and_eq_true, Bool.or_eq_true, Bool.and_eq_false_iff, Bool.not_eq_true', Bool.not_eq_false']; omega))
          have hset : (((itemsS V R ++ [(⟨.slice A' (tokY.d (lnOf L (f.toNat, (i + 1).toNat))).n c', 82, tokY.d (lnOf L (f.toNat, (i + 1).toNat))⟩ : SI)]).set ((V.length : Int) - 1).toNat SI.hole).set ((V.length : Int) - 1).toNat (⟨.slice A2 (tokY.d ((R.getD ((V.length : Int) - 1).toNat rowT0).ts ++ lnOf L (f.toNat, (i + 1).toNat))).n c2, 82, tokY.d ((R.getD ((V.length : Int) - 1).toNat rowT0).ts ++ lnOf L (f.toNat, (i + 1).toNat))⟩ : SI)).take R.length =
              itemsS (V.set ((V.length : Int) - 1).toNat { V.getD ((V.length : Int) - 1).toNat row0 with ta := A2, tn := (tokY.d ((R.getD ((V.length : Int) - 1).toNat rowT0).ts ++ lnOf L (f.toNat, (i + 1).toNat))).n, tc := c2 }) (R.set ((V.length : Int) - 1).toNat { R.getD ((V.length : Int) - 1).toNat rowT0 with ts := (R.getD ((V.length : Int) - 1).toNat rowT0).ts ++ lnOf L (f.toNat, (i + 1).toNat) }) := by
            rw [List.set_set, itemsS_set, List.set_append_left _ _ (by rw [itemsS, List.length_zipWith]; omega), List.take_left' (by rw [List.length_set, itemsS, List.length_zipWith]; omega)]; rfl
          simp only [hset]
          have hdd : (V.getD ((V.length : Int) - 1).toNat row0).dir = (R.getD (R.length - 1) rowT0).dir := by rw [key_dir g8]; congr 2; omega
          have hrun : run = true := by rw [g9, decide_eq_true (show 0 < (R.length : Int) by omega), ← hdd]; simpa using hc.2.2
          have hadd : addLine (R, run) (lnOf L (f.toNat, (i + 1).toNat)) = (R.set ((V.length : Int) - 1).toNat { R.getD ((V.length : Int) - 1).toNat rowT0 with ts := (R.getD ((V.length : Int) - 1).toNat rowT0).ts ++ lnOf L (f.toNat, (i + 1).toNat) }, run) := by
            have h1 : ((V.length : Int) - 1).toNat = R.length - 1 := by omega
            rw [addLine, dirF_bare false, ← hb, hash_dir, hrun, if_pos (by rw [Bool.and_true]; exact hc.1), h1]
          have q1 : 0 ≤ i + 1 := by omega
          have q3 : i + 1 ≤ (L.length : Int) := by omega
          have q5 : ((L.length : Int) - (i + 1)).toNat < ((L.length : Int) - i).toNat := by omega
          have q4 : ((R.set ((V.length : Int) - 1).toNat { R.getD ((V.length : Int) - 1).toNat rowT0 with ts := (R.getD ((V.length : Int) - 1).toNat rowT0).ts ++ lnOf L (f.toNat, (i + 1).toNat) }).length : Int) ≤ i + 1 := by rw [List.length_set]; omega
          refine again (i + 1, V.set ((V.length : Int) - 1).toNat { V.getD ((V.length : Int) - 1).toNat row0 with ta := A2, tn := (tokY.d ((R.getD ((V.length : Int) - 1).toNat rowT0).ts ++ lnOf L (f.toNat, (i + 1).toNat))).n, tc := c2 }, R.set ((V.length : Int) - 1).toNat { R.getD ((V.length : Int) - 1).toNat rowT0 with ts := (R.getD ((V.length : Int) - 1).toNat rowT0).ts ++ lnOf L (f.toNat, (i + 1).toNat) }, run, i + 1, []) [(5, none)] (.of rfl rfl rfl rfl rfl rfl)
            ⟨q1, Int.le_refl _, q3, fun _ => rfl, (by simp), ⟨pre ++ [(f.toNat, (i + 1).toNat)], gnext, by rw [List.map_append, List.foldl_append, g5]; exact hadd, ?_, q4⟩, ?_, ?_⟩ q5
          · have := (addLine_size (R, run) (lnOf L (f.toNat, (i + 1).toNat)) (fun _ hh => by have h9 : R = [] := hh; rw [h9] at hi2; simp at hi2)).1
            rw [hadd] at this
            rw [this]; show ((sizeR R + (lnOf L (f.toNat, (i + 1).toNat)).length : Nat) : Int) = i + 1
            omega
          · rw [List.map_set, List.map_set, g8]
            congr 1
            have := congrArg (fun l => l.getD ((V.length : Int) - 1).toNat row0.key) g8
            simp only [List.getD_eq_getElem?_getD, List.getElem?_map] at this ⊢
            rw [List.getElem?_eq_getElem hi, List.getElem?_eq_getElem hi2] at this ⊢
            exact this
          · show run = (decide (0 < ((R.set ((V.length : Int) - 1).toNat { R.getD ((V.length : Int) - 1).toNat rowT0 with ts := (R.getD ((V.length : Int) - 1).toNat rowT0).ts ++ lnOf L (f.toNat, (i + 1).toNat) }).length : Int)) && !((R.set ((V.length : Int) - 1).toNat { R.getD ((V.length : Int) - 1).toNat rowT0 with ts := (R.getD ((V.length : Int) - 1).toNat rowT0).ts ++ lnOf L (f.toNat, (i + 1).toNat) }).getD ((R.set ((V.length : Int) - 1).toNat { R.getD ((V.length : Int) - 1).toNat rowT0 with ts := (R.getD ((V.length : Int) - 1).toNat rowT0).ts ++ lnOf L (f.toNat, (i + 1).toNat) }).length - 1) rowT0).dir)
            rw [List.length_set, hrun, decide_eq_true (show 0 < (R.length : Int) by omega), List.getD_eq_getElem?_getD, List.getElem?_set, if_pos (by omega), if_pos (by omega)]
            show true = (true && !(R.getD ((V.length : Int) - 1).toNat rowT0).dir)
            rw [show ((V.length : Int) - 1).toNat = R.length - 1 by omega, ← hdd]
            simpa using hc.2.2
        · have hc : (!(hashB b) && (decide (0 < (V.length : Int)) && !(V.getD ((V.length : Int) - 1).toNat row0).dir)) = false := by rw [← Bool.and_assoc]; exact h5
          refine xl_push tt_ok rowY V ⟨hashB b, ⟨#[]⟩, A', (tokY.d (lnOf L (f.toNat, (i + 1).toNat))).n, c'⟩ 48 rfl rfl rfl rfl rfl rfl rfl rfl rfl rfl rfl rfl (by kernel_rfl) rfl rfl rfl rfl rfl (fun n hn => by cases hn; decide) rfl rfl rfl (by omega) (by omega) ?_
          refine xl_go tt_ok ?_
          repeat (refine And.intro ?_ ?_; first | omega | (simp only [Lay.d_n]; omega) | (simp only [decide_eq_true_eq, decide_eq_false_iff_not, Bool.or_eq_false_iff, Bool.and_eq_true, Bool.or_eq_true, Bool.and_eq_false_iff, Bool.not_eq_true', Bool.not_eq_false', Lay.d_n]; omega) | (simp only [decide_eq_true_eq, decide_eq_false_iff_not, Bool.or_eq_false_iff, Bool.and_eq_true, Bool.or_eq_true, Bool.and_eq_false_iff, Bool.not_eq_true', Bool.not_eq_false']; omega))
          have e : itemsS V R ++ [(⟨.slice A' (tokY.d (lnOf L (f.toNat, (i + 1).toNat))).n c', 82, tokY.d (lnOf L (f.toNat, (i + 1).toNat))⟩ : SI)] = itemsS (V ++ [(⟨hashB b, ⟨#[]⟩, A', (tokY.d (lnOf L (f.toNat, (i + 1).toNat))).n, c'⟩ : RowV)]) (R ++ [(⟨hashB b, ⟨#[]⟩, lnOf L (f.toNat, (i + 1).toNat)⟩ : RowT)]) := (itemsS_push hVR (⟨hashB b, ⟨#[]⟩, A', (tokY.d (lnOf L (f.toNat, (i + 1).toNat))).n, c'⟩ : RowV) (⟨hashB b, ⟨#[]⟩, lnOf L (f.toNat, (i + 1).toNat)⟩ : RowT)).symm
          have hrun : (!(hashB b) && run) = false := by
            rw [g9]
            by_cases h0 : 0 < (R.length : Int)
            · have hdd : (V.getD ((V.length : Int) - 1).toNat row0).dir = (R.getD (R.length - 1) rowT0).dir := by rw [key_dir g8]; congr 2; omega
              rw [decide_eq_true h0, ← hdd]
              rw [decide_eq_true (show 0 < (V.length : Int) by omega)] at hc
              exact hc
            · rw [decide_eq_false h0]; simp
          have hadd : addLine (R, run) (lnOf L (f.toNat, (i + 1).toNat)) = (R ++ [⟨hashB b, ⟨#[]⟩, lnOf L (f.toNat, (i + 1).toNat)⟩], !(hashB b)) := by
            rw [addLine, dirF_bare false, ← hb, hash_dir, if_neg (by rw [hrun]; simp), name_dir, hnm]
          simp only [e]
          have q1 : 0 ≤ i + 1 := by omega
          have q3 : i + 1 ≤ (L.length : Int) := by omega
          have q5 : ((L.length : Int) - (i + 1)).toNat < ((L.length : Int) - i).toNat := by omega
          have q4 : ((R ++ [(⟨hashB b, ⟨#[]⟩, lnOf L (f.toNat, (i + 1).toNat)⟩ : RowT)]).length : Int) ≤ i + 1 := by rw [List.length_append, List.length_singleton]; omega
          refine again (i + 1, V ++ [⟨hashB b, ⟨#[]⟩, A', (tokY.d (lnOf L (f.toNat, (i + 1).toNat))).n, c'⟩], R ++ [⟨hashB b, ⟨#[]⟩, lnOf L (f.toNat, (i + 1).toNat)⟩], !(hashB b), i + 1, []) [(4, some 9), (5, none)] (.of rfl rfl rfl rfl rfl rfl)
            ⟨q1, Int.le_refl _, q3, fun _ => rfl, (by simp), ⟨pre ++ [(f.toNat, (i + 1).toNat)], gnext, by rw [List.map_append, List.foldl_append, g5]; exact hadd, ?_, q4⟩, ?_, ?_⟩ q5
          · simp only [sizeR, List.map_append, List.sum_append] at g6 ⊢
            simp; omega
          · rw [List.map_append, List.map_append, g8]; rfl
          · simp
        
  · have h2 : ¬ (i < (L.length : Int)) := of_decide_eq_false h
    rw [List.drop_eq_nil_of_le (by omega)] at g4
    have hfi := g3 (by omega)
    simp only [pcs] at g4
    rw [if_neg (by omega), List.append_nil] at g4
    have hR : R = rowsOf L := by rw [rowsOf, linesOf, g4, g5]
    subst hR
    refine finStarO (k := 4) (ks := 3) rfl rfl (fun A' c' => ⟨(A', c', V), fun E hE => ?_, ?_, g8⟩)
    · show E 4 = _
      rw [hE, Lay.d_n, hVR]
    · rw [Lay.d_n, hVR]
end Go.Proofs.YtnjmkeijjapejaaGreat
namespace Go.Proofs.YtnjmkeijjapejaaGreat
open Go.GV Go.RowKit
set_option maxRecDepth 100000 in
theorem says_own (r : RowV) (t : List Tok) (w : World) (hx : SlAt (im w) r.toks (tokY.d t)) (hL : t.length * 48 ≤ 140737488355328) :
    Calls Tryz.prog 16 #[.agg #[.bool r.dir, .string r.name, .slice r.ta r.tn r.tc]] w (PureP w fun v u => OwnAt u v 82 (tokY.d (saysV r t))) := by
  have hb := bareFrom_le false t
  refine x_fun tt_ok Tryz.func16 rfl rfl [] 0 [.v (.agg #[.bool r.dir, .string r.name, .slice r.ta r.tn r.tc])] rfl rfl rfl rfl (fun b hb => by cases hb) ?_
  refine x_vc tt_ok ?_
  refine xl_callO 82 (tokY.d (bareFrom false t)) rfl rfl rfl rfl fn44 rfl rfl (fun E w F hs => bare_any t _ w (hx.imm hs.imm) hL) ?_
  refine xl_go tt_ok ?_
  refine x_if (fun h => ?_) (fun h => ?_)
  · have h' : r.dir = false := by simpa using h
    have e : saysV r t = bareFrom false t := by simp [saysV, h']
    rw [e]
    exact finO (k := 1) rfl
  · have h' : r.dir = true := by simpa using h
    have key : ∀ k : Nat, (k = if r.name = ⟨#[]⟩ then 1 else 2) → saysV r t = (bareFrom false t).drop (if ((bareFrom false t).length : Int) < (k : Int) then ((bareFrom false t).length : Int) else (k : Int)).toNat := by
      intro k hk
      simp only [saysV, h', if_true, ← hk]
      split
      · rw [List.drop_eq_nil_of_le (by omega), List.drop_eq_nil_of_le (by omega)]
      · rfl
    refine x_if (fun h2 => ?_) (fun h2 => ?_)
    · have h2' : ¬ r.name = ⟨#[]⟩ := of_decide_eq_true h2
      have e := key 2 (by rw [if_neg h2'])
      refine xl_freeze 1 rfl (fun A c u2 hu2 hb1 => ?_)
      refine xl_min rfl rfl rfl rfl rfl rfl ?_
      refine xl_go tt_ok ?_
      refine xl_from tt_ok tokY (bareFrom false t) rfl rfl rfl rfl rfl rfl rfl rfl rfl rfl (fun E w F hs => hb1) ?_ ?_ (fun A2 c2 hb2 => ?_)
      · show (0 : Int) ≤ if ((bareFrom false t).length : Int) < 2 then ((bareFrom false t).length : Int) else 2
        split <;> omega
      · show (if ((bareFrom false t).length : Int) < 2 then ((bareFrom false t).length : Int) else 2) ≤ ((bareFrom false t).length : Int)
        split <;> omega
      refine xl_go tt_ok ?_
      refine xl_callO 82 (tokY.d (saysV r t)) rfl rfl rfl rfl fn38 rfl rfl (fun E w F hs => by rw [e]; exact clone_own _ _ w (hb2.imm hs.imm) (by rw [List.length_drop]; omega)) ?_
      refine xl_go tt_ok ?_
      exact finO (k := 2) rfl
    · have h2' : r.name = ⟨#[]⟩ := by
        have : ¬ ¬ r.name = ⟨#[]⟩ := of_decide_eq_false h2
        exact Classical.not_not.1 this
      have e := key 1 (by rw [if_pos h2'])
      refine xl_freeze 1 rfl (fun A c u2 hu2 hb1 => ?_)
      refine xl_min rfl rfl rfl rfl rfl rfl ?_
      refine xl_go tt_ok ?_
      refine xl_from tt_ok tokY (bareFrom false t) rfl rfl rfl rfl rfl rfl rfl rfl rfl rfl (fun E w F hs => hb1) ?_ ?_ (fun A2 c2 hb2 => ?_)
      · show (0 : Int) ≤ if ((bareFrom false t).length : Int) < 1 then ((bareFrom false t).length : Int) else 1
        split <;> omega
      · show (if ((bareFrom false t).length : Int) < 1 then ((bareFrom false t).length : Int) else 1) ≤ ((bareFrom false t).length : Int)
        split <;> omega
      refine xl_go tt_ok ?_
      refine xl_callO 82 (tokY.d (saysV r t)) rfl rfl rfl rfl fn38 rfl rfl (fun E w F hs => by rw [e]; exact clone_own _ _ w (hb2.imm hs.imm) (by rw [List.length_drop]; omega)) ?_
      refine xl_go tt_ok ?_
      exact finO (k := 2) rfl
theorem fold_size : ∀ (ls : List (List Tok)) (s : List RowT × Bool), (s.2 = true → s.1 ≠ []) → sizeR (ls.foldl addLine s).1 = sizeR s.1 + (ls.map List.length).sum ∧ (ls.foldl addLine s).1.length ≤ s.1.length + ls.length
  | [], s, _ => by simp
  | l :: ls, s, h => by
    have h1 := addLine_size s l h
    have h2 := fold_size ls (addLine s l) h1.2.1
    simp only [List.foldl_cons, List.map_cons, List.sum_cons, List.length_cons]
    omega
theorem rowsOf_size (L : List Tok) : sizeR (rowsOf L) = L.length ∧ (rowsOf L).length ≤ L.length := by
  have h := fold_size (linesOf L) ([], false) (fun h => by cases h)
  have h1 := pcs_sum L L 0 0 (Nat.le_refl _) (by omega)
  have h2 := pcs_len L 0 0 (Nat.le_refl _)
  simp only [rowsOf]
  rw [h.1]
  have h3 : ((linesOf L).map List.length).sum = L.length := by rw [linesOf, h1]; omega
  have h4 : (linesOf L).length = (pcs 0 0 L).length := by simp [linesOf]
  refine ⟨by rw [h3]; simp [sizeR], ?_⟩
  have := h.2
  simp only [List.length_nil] at this
  omega
theorem ts_size {R : List RowT} (i : Nat) : (R.getD i rowT0).ts.length ≤ sizeR R := by
  rcases Nat.lt_or_ge i R.length with h | h
  · exact getD_size h
  · rw [List.getD_eq_getElem?_getD, List.getElem?_eq_none h]; exact Nat.zero_le _
theorem tsD (R : List RowT) (i : Nat) : (R.map RowT.ts).getD i [] = (R.getD i rowT0).ts := by
  simp only [List.getD_eq_getElem?_getD, List.getElem?_map]
  cases R[i]? <;> rfl
theorem star_toks {u : Im} {V : List RowV} {R : List RowT} (hl : V.length = R.length) (h : ∀ p ∈ itemsS V R, SlAt u p.x p.D) : ToksAt u V (R.map RowT.ts) := by
  refine ⟨by simp [hl], fun i hi => ?_⟩
  rw [tsD]
  exact h _ (List.mem_of_getElem? (itemsS_get hi (by omega)))
end Go.Proofs.YtnjmkeijjapejaaGreat
namespace Go.Proofs.YtnjmkeijjapejaaGreat
open Go.GV Go.RowKit
theorem says_len (r : RowV) (t : List Tok) : (saysV r t).length ≤ t.length := by
  have := bareFrom_le false t
  unfold saysV
  split
  · rw [List.length_drop]; omega
  · exact this
end Go.Proofs.YtnjmkeijjapejaaGreat
namespace Go.Proofs.YtnjmkeijjapejaaGreat
open Go.GV Go.RowKit
def saysT (r : RowT) : List Tok := saysV ⟨r.dir, r.name, none, 0, 0⟩ r.ts
theorem keyT_at {V : List RowV} {R : List RowT} (hk : V.map RowV.key = R.map RowT.key) (i : Nat) : (V.getD i row0).dir = (R.getD i rowT0).dir ∧ (V.getD i row0).name = (R.getD i rowT0).name := by
  have h1 := congrArg (fun l => l[i]?) hk
  simp only [List.getElem?_map] at h1
  simp only [List.getD_eq_getElem?_getD]
  cases h3 : V[i]? with
  | none =>
    rw [h3] at h1
    cases h4 : R[i]? with
    | none => exact ⟨rfl, rfl⟩
    | some r => rw [h4] at h1; cases h1
  | some v =>
    rw [h3] at h1
    cases h4 : R[i]? with
    | none => rw [h4] at h1; cases h1
    | some r =>
      rw [h4] at h1
      simp only [Option.map_some, Option.some.injEq, RowV.key, RowT.key, Prod.mk.injEq] at h1
      exact h1
end Go.Proofs.YtnjmkeijjapejaaGreat
namespace Go.Proofs.YtnjmkeijjapejaaGreat
open Go.GV Go.RowKit
theorem tks_tx (C : List Chr) (l : ByteArray) (hl : l.size ≤ 65536) : ∀ (xs : List Lx.Tk) (n : Int), ∀ t ∈ tks C l n xs, t.text.size ≤ 65536
  | [], _, t, h => by simp [tks] at h
  | x :: r, n, t, h => by
    simp only [tks, List.mem_cons] at h
    rcases h with rfl | h
    · have := sub_le l x.lo x.hi
      simp only
      omega
    · exact tks_tx C l hl r x.hi t h
theorem scanT_tx (s : ByteArray) : ∀ t ∈ scanT s, t.text.size ≤ 65536 := by
  by_cases h : scanE s = 0
  · obtain ⟨_, _, e3, e4⟩ := scanE_zero h
    rw [e3]
    exact tks_tx _ _ e4 _ _
  · rw [scanT, if_neg h]
    intro t ht; cases ht
def txR (R : List RowT) : Prop := ∀ r ∈ R, ∀ t ∈ r.ts, t.text.size ≤ 65536
theorem txR_at {R : List RowT} (h : txR R) (i : Nat) : ∀ t ∈ (R.getD i rowT0).ts, t.text.size ≤ 65536 := by
  rw [List.getD_eq_getElem?_getD]
  rcases Nat.lt_or_ge i R.length with hi | hi
  · rw [List.getElem?_eq_getElem hi]; exact h _ (List.getElem_mem hi)
  · rw [List.getElem?_eq_none hi]; intro t ht; cases ht
theorem addLine_tx {s : List RowT × Bool} {line : List Tok} (h : txR s.1) (hl : ∀ t ∈ line, t.text.size ≤ 65536) : txR (addLine s line).1 := by
  unfold addLine
  split
  · intro r hr t ht
    rcases List.mem_or_eq_of_mem_set hr with hr | rfl
    · exact h r hr t ht
    · rcases List.mem_append.1 ht with ht | ht
      · exact txR_at h _ t ht
      · exact hl t ht
  · intro r hr t ht
    rcases List.mem_append.1 hr with hr | hr
    · exact h r hr t ht
    · rw [List.mem_singleton.1 hr] at ht
      exact hl t ht
theorem fold_tx : ∀ (ls : List (List Tok)) (s : List RowT × Bool), txR s.1 → (∀ l ∈ ls, ∀ t ∈ l, t.text.size ≤ 65536) → txR (ls.foldl addLine s).1
  | [], s, h, _ => h
  | l :: ls, s, h, hl => fold_tx ls (addLine s l) (addLine_tx h (hl l (List.mem_cons_self ..))) (fun l' h' => hl l' (List.mem_cons_of_mem _ h'))
theorem rows_tx {L : List Tok} (h : ∀ t ∈ L, t.text.size ≤ 65536) : txR (rowsOf L) :=
  fold_tx _ _ (fun r hr => by cases hr) (fun l hl t ht => by
    obtain ⟨p, _, rfl⟩ := List.mem_map.1 hl
    exact h t (List.mem_of_mem_take (List.mem_of_mem_drop ht)))
theorem bare_tx : ∀ (L : List Tok) (dr : Bool), (∀ t ∈ L, t.text.size ≤ 65536) → ∀ t ∈ bareFrom dr L, t.text.size ≤ 65536
  | [], _, _, t, ht => by cases ht
  | x :: r, dr, h, t, ht => by
    unfold bareFrom at ht
    split at ht
    · exact bare_tx r true (fun y hy => h y (List.mem_cons_of_mem _ hy)) t ht
    · rcases List.mem_cons.1 ht with rfl | ht
      · exact h x (List.mem_cons_self ..)
      · exact bare_tx r false (fun y hy => h y (List.mem_cons_of_mem _ hy)) t ht
theorem says_tx {r : RowV} {L : List Tok} (h : ∀ t ∈ L, t.text.size ≤ 65536) : ∀ t ∈ saysV r L, t.text.size ≤ 65536 := by
  unfold saysV
  split
  · exact fun t ht => bare_tx L false h t (List.mem_of_mem_drop ht)
  · exact bare_tx L false h
def rowsS (s : ByteArray) : List RowT := rowsOf (scanT s)
def bodyOf (s : ByteArray) : List Tok := saysT ((rowsS s).getD 0 rowT0)
theorem bodyOf_tx (s : ByteArray) : ∀ t ∈ bodyOf s, t.text.size ≤ 65536 := says_tx (txR_at (rows_tx (scanT_tx s)) 0)
end Go.Proofs.YtnjmkeijjapejaaGreat
namespace Go.Proofs.YtnjmkeijjapejaaGreat
open Go.GV Go.RowKit
theorem fixS_len : ∀ L : List PV, (fixS L).length = L.length
  | [] => rfl
  | _ :: _ => rfl
theorem fixS_prt {L : List PV} (h : ∀ t ∈ L, t.prt = .slice none 0 0) : ∀ t ∈ fixS L, t.prt = .slice none 0 0 := by
  cases L with
  | nil => intro t ht; cases ht
  | cons x r =>
    intro t ht
    rcases List.mem_cons.1 ht with rfl | ht
    · exact h x (List.mem_cons_self ..)
    · exact h t (List.mem_cons_of_mem _ ht)
theorem ofT_prt {L : List Tok} : ∀ t ∈ L.map ofT, t.prt = .slice none 0 0 := fun t ht => by
  obtain ⟨x, _, rfl⟩ := List.mem_map.1 ht
  rfl
structure MSm (m : MT) (n : Nat) : Prop where
  ps : m.ps.length ≤ n
  body : m.body.length ≤ n
  prt : ∀ t ∈ m.body, t.prt = .slice none 0 0
theorem m0_sm (n : Nat) : MSm m0 n := ⟨Nat.zero_le _, Nat.zero_le _, fun t ht => by cases ht⟩
theorem defB_sm {nm : ByteArray} {fn va : Bool} {ps : List ByteArray} {l : List Tok} {n : Nat} (h1 : ps.length ≤ n) (h2 : l.length ≤ n) : MSm (defB nm fn ps va l).1 n := by
  unfold defB
  split
  · exact ⟨h1, by rw [fixS_len, List.length_map]; exact h2, fixS_prt ofT_prt⟩
  · exact m0_sm n
theorem defR_sm (L : List Tok) : MSm (defR L).1 L.length := by
  unfold defR
  split
  · exact m0_sm _
  · split
    · rename_i h
      rw [Bool.and_eq_true, decide_eq_true_eq] at h
      have pl := paramsR_le (L.drop 1) (by omega)
      rw [List.length_drop] at pl
      split
      · split
        · exact defB_sm (by omega) (by rw [List.length_drop, List.length_drop]; omega)
        · exact m0_sm _
      · exact m0_sm _
    · exact defB_sm (Nat.zero_le _) (by rw [List.length_drop]; omega)
def noP (m : MT) : List (List ByteArray) := List.replicate m.body.length []
theorem nil_slAt (u : Im) : SlAt u (.slice none 0 0) (strY.d []) := ⟨none, 0, rfl, Nat.le_refl _, by decide, fun h => by cases h⟩
theorem noP_at {m : MT} {n : Nat} (h : MSm m n) (u : Im) : PartsAt u m.body (noP m) := by
  refine ⟨by simp [noP], fun i hi => ?_⟩
  have h1 := h.prt (m.body.getD i pv0) (by rw [List.getD_eq_getElem?_getD, List.getElem?_eq_getElem hi]; exact List.getElem_mem hi)
  rw [h1]
  have : (noP m).getD i [] = [] := by
    unfold noP
    simp [List.getD_eq_getElem?_getD, List.getElem?_replicate, hi]
  rw [this]
  exact nil_slAt u
theorem noP_sm (m : MT) : prtSm (noP m) := fun i => by
  unfold noP
  rw [List.getD_eq_getElem?_getD, List.getElem?_replicate]
  split <;> simp
theorem mSame_refl (m : MT) (T : List (List ByteArray)) : mSame m m T T = true := by simp [mSame]
theorem star_at {E : Env} {o : GV.Own} {nx : Nat} {u : Im} {df : List Deferred} {w : World} {f : Nat → Nat → Prop} (h : Sat E o nx u df w f) {k : Nat} {m : MT} {s : MA} {n : Nat} (hk : GV.look o k = some (GV.Rs.gen (starHp (mStar m s)))) (hm : MSm m n) (hn : n ≤ 9223372036854775806) :
    MAt (im w) m (noP m) s :=
  ⟨h.starAt (i := 0) hk rfl, h.starAt (i := 1) hk rfl, noP_at hm _, Nat.le_trans hm.ps hn, Nat.le_trans hm.body hn, noP_sm m⟩
end Go.Proofs.YtnjmkeijjapejaaGreat
namespace Go.Proofs.YtnjmkeijjapejaaGreat
open Go.GV Go.RowKit
theorem spellS_size (s : ByteArray) : (spellS s).size ≤ 65536 := by
  unfold spellS
  split
  · decide
  · split
    · decide
    · split
      · decide
      · rename_i h
        show ((spellUp s s.size).toArray).size ≤ 65536
        simp only [List.size_toArray]
        omega
def textR (m : MT) (T : List (List ByteArray)) : ByteArray × Int :=
  if spellE (lineT m) ≠ 0 then (⟨#[]⟩, 50) else
  if scanE (spellS (lineT m)) ≠ 0 then (⟨#[]⟩, 50) else
  if ((rowsS (spellS (lineT m))).length : Int) ≠ 1 then (⟨#[]⟩, 50) else
  if (decide ((defR (bodyOf (spellS (lineT m)))).2 ≠ 0) || !mSame (defR (bodyOf (spellS (lineT m)))).1 m (noP (defR (bodyOf (spellS (lineT m)))).1) T) = true then (⟨#[]⟩, 50) else (spellS (lineT m), 0)
set_option maxHeartbeats 2000000 in
set_option maxRecDepth 100000 in
theorem text_any (m : MT) (T : List (List ByteArray)) (s : MA) (w : World) (hm : MAt (im w) m T s) (hn : m.ps.length ≤ 140737488355328) (hz : (lineL m).length ≤ 140737488355328) (hg : Glob (im w)) :
    Calls Tryz.prog 6 #[mVal m s] w (PureP w fun v _ => v = .tuple #[.string (textR m T).1, .int .i64 (textR m T).2]) := by
  have hlz : (lineT m).size ≤ 9223372036854775807 := by
    show ((lineL m).toArray).size ≤ _
    simp only [List.size_toArray]
    omega
  obtain ⟨l, hl⟩ : ∃ l, l = lineT m := ⟨_, rfl⟩
  unfold textR
  rw [← hl] at hlz ⊢
  obtain ⟨sp, hsp⟩ : ∃ sp, sp = spellS l := ⟨_, rfl⟩
  have zsp : sp.size ≤ 65536 := by rw [hsp]; exact spellS_size l
  rw [← hsp]
  have hlen := scanT_len sp
  have hbt := bodyOf_tx sp
  refine x_fun tt_ok Tryz.func6 rfl rfl [] 0 [.v (mVal m s)] rfl rfl rfl rfl (fun b hb => by cases hb) ?_
  refine x_vc tt_ok ?_
  refine xl_call0 (.string l) rfl rfl rfl rfl fn12 rfl rfl (fun E w' F hs => by rw [hl]; exact line_any m s w' (hm.ps.imm hs.imm) (hm.body.imm hs.imm) hn hz) ?_
  refine xl_go tt_ok ?_
  refine xl_call0 (.tuple #[.string sp, .int .i64 (spellE l)]) rfl rfl rfl rfl fn11 rfl rfl (fun E w' F hs => by rw [hsp]; exact spell_any l w' hlz) ?_
  refine xl_go tt_ok ?_
  refine x_if (fun h => ?_) (fun h => ?_)
  · have h : spellE l ≠ 0 := of_decide_eq_true h
    rw [if_pos h]
    exact fin1 (fun _ _ => rfl)
  have h : ¬ spellE l ≠ 0 := of_decide_eq_false h
  rw [if_neg h]
  clear h
  refine xl_callO2 82 (tokY.d (scanT sp)) [.int .i64 (scanE sp)] rfl rfl rfl rfl fn13 rfl rfl (fun E w F hs' => scan_any sp w (by omega) (hg.imm hs'.imm)) ?_
  refine xl_go tt_ok ?_
  refine x_if (fun h => ?_) (fun h => ?_)
  · have h : scanE sp ≠ 0 := of_decide_eq_true h
    rw [if_pos h]
    exact fin1 (fun _ _ => rfl)
  have h : ¬ scanE sp ≠ 0 := of_decide_eq_false h
  rw [if_neg h]
  clear h
  obtain ⟨R, hR⟩ : ∃ R, R = rowsS sp := ⟨_, rfl⟩
  have hRl : R.length ≤ 65537 := by rw [hR]; have := (rowsOf_size (scanT sp)).2; unfold rowsS; omega
  rw [← hR]
  refine xl_callStar (fun (s : Option Addr × Nat × List RowV) => .slice s.1 R.length s.2.1) (fun s => itemsS s.2.2 R ++ [(⟨.slice s.1 R.length s.2.1, 48, rowY.d s.2.2⟩ : SI)]) (fun s => s.2.2.map RowV.key = R.map RowT.key) rfl rfl rfl rfl fn14 rfl rfl
    (fun E w F hs => by
      have h1 := hs.rowAt (k := 1) rfl
      obtain ⟨A, c, hv⟩ := h1.form
      show Calls Tryz.prog 14 #[E 1] w _
      rw [hv] at h1 ⊢
      rw [hR]
      exact rows_any (scanT sp) A c w h1 (by omega)) (fun s' hk => ?_)
  obtain ⟨A, cc, V⟩ := s'
  replace hk : V.map RowV.key = R.map RowT.key := hk
  have hVR : V.length = R.length := by have := congrArg List.length hk; simpa using this
  refine xl_freezeStar 2 (sl := itemsS V R ++ [(⟨.slice A R.length cc, 48, rowY.d V⟩ : SI)]) rfl (fun u1 hu1 hfr => ?_)
  refine xl_sl 25 (x := .slice A R.length cc) (D := rowY.d V) rfl (hfr _ (List.mem_append_right _ (List.mem_singleton.2 rfl))).1 ?_
  have hT := star_toks hVR (fun p hp => (hfr p (List.mem_append_left _ hp)).1)
  refine xl_go tt_ok ?_
  refine x_if (fun h => ?_) (fun h => ?_)
  · have h : (V.length : Int) ≠ 1 := of_decide_eq_true h
    rw [if_pos (by rw [← hVR]; exact h)]
    exact fin1 (fun _ _ => rfl)
  have h : ¬ (V.length : Int) ≠ 1 := of_decide_eq_false h
  rw [if_neg (by rw [← hVR]; exact h)]
  have hR1 : 0 < V.length := by omega
  repeat (refine And.intro ?_ ?_; first | omega | (simp only [Lay.d_n]; omega) | (simp only [decide_eq_true_eq, decide_eq_false_iff_not, Bool.or_eq_false_iff, Bool.and_eq_true, Bool.or_eq_true, Bool.and_eq_false_iff, Bool.not_eq_true', Bool.not_eq_false', Lay.d_n]; omega) | (simp only [decide_eq_true_eq, decide_eq_false_iff_not, Bool.or_eq_false_iff, Bool.and_eq_true, Bool.or_eq_true, Bool.and_eq_false_iff, Bool.not_eq_true', Bool.not_eq_false']; omega) | (simp only [decide_eq_true_eq, decide_eq_false_iff_not, Bool.or_eq_false_iff]; simp only [Lay.d_n]; omega))
  have hsz : ((R.map RowT.ts).getD 0 []).length ≤ 65537 := by
    rw [tsD]
    have h1 := ts_size (R := R) 0
    rw [hR, rowsS, (rowsOf_size (scanT sp)).1] at h1
    rw [hR, rowsS]; omega
  have hsv : saysV (V.getD 0 row0) ((R.map RowT.ts).getD 0 []) = bodyOf sp := by
    have := keyT_at hk 0
    rw [tsD]
    unfold bodyOf saysT saysV
    rw [this.1, this.2, hR]
  have hbl : (bodyOf sp).length ≤ 65537 := by
    have := says_len (V.getD 0 row0) ((R.map RowT.ts).getD 0 [])
    rw [hsv] at this; omega
  refine xl_callO 82 (tokY.d (bodyOf sp)) rfl rfl rfl rfl fn16 rfl rfl (fun E w F hs => by
    have := says_own (V.getD 0 row0) ((R.map RowT.ts).getD 0 []) w ((hT.2 0 hR1).imm hs.imm) (by omega)
    rw [hsv] at this
    exact this) ?_
  refine xl_go tt_ok ?_
  obtain ⟨r, hr⟩ : ∃ r, r = defR (bodyOf sp) := ⟨_, rfl⟩
  have hsm : MSm r.1 (bodyOf sp).length := by rw [hr]; exact defR_sm _
  rw [← hr]
  refine xl_callStar (fun s : MA => .tuple #[mVal r.1 s, .int .i64 r.2]) (fun s => mStar r.1 s) (fun _ => True) rfl rfl rfl rfl fn15 rfl rfl
    (fun E w F hs => by
      have h1 := hs.rowAt (k := 4) rfl
      obtain ⟨A, c, hv⟩ := h1.form
      show Calls Tryz.prog 15 #[E 4] w _
      rw [hv] at h1 ⊢
      rw [hr]
      exact define_any (bodyOf sp) A c w h1 (by omega) (fun t ht => Nat.le_trans (hbt t ht) (by decide))) (fun sm _ => ?_)
  refine xl_go tt_ok ?_
  refine xl_gcallF (.bool (mSame r.1 m (noP r.1) T)) rfl rfl rfl rfl fn8 rfl rfl (fun E w' F hs => macroSame_any r.1 m _ _ sm s w' (star_at hs (k := 5) rfl hsm (by omega)) ((hm.le hu1).imm hs.imm)) ?_
  refine xl_go tt_ok ?_
  refine x_if (fun h => ?_) (fun h => ?_)
  · have h : (decide (r.2 ≠ 0) || !mSame r.1 m (noP r.1) T) = true := h
    rw [if_pos h]
    exact fin1 (fun _ _ => rfl)
  · have h : (decide (r.2 ≠ 0) || !mSame r.1 m (noP r.1) T) = false := h
    rw [if_neg (by rw [h]; simp)]
    exact fin1 (fun _ _ => rfl)
end Go.Proofs.YtnjmkeijjapejaaGreat
namespace Go.Proofs.YtnjmkeijjapejaaGreat
open Go.GV Go.RowKit
end Go.Proofs.YtnjmkeijjapejaaGreat
namespace Go.Proofs.YtnjmkeijjapejaaGreat
open Go.GV Go.RowKit
end Go.Proofs.YtnjmkeijjapejaaGreat
namespace Go.Proofs.YtnjmkeijjapejaaGreat
open Go.GV Go.RowKit
def ftk (t : Tok) : Bool × Int × Lx.Bs := (t.space, t.kind, bl t.text)
theorem ftk_tks (C : List Chr) (l : ByteArray) : ∀ (n : Nat) (st : Int) (i p : Nat), p ≤ i → Lx.okF n st ((bl l).drop i) →
    (tks C l (p : Int) (Lx.itemsF n st i ((bl l).drop i))).map ftk = Lx.lexG n st (decide (p < i)) ((bl l).drop i)
  | 0, _, _, _, _, _ => rfl
  | n + 1, st, i, p, hp, hok => by
    cases hx : (bl l).drop i with
    | nil => rfl
    | cons c r =>
      have hr : (bl l).drop (i + 1) = r := by rw [← List.drop_drop, hx]; rfl
      rw [hx] at hok
      cases hw : Lx.white c with
      | true =>
        rw [Lx.lexG_white hw]
        simp only [Lx.itemsF, Lx.okF, hw] at hok ⊢
        rw [← hr] at hok ⊢
        have := ftk_tks C l n st (i + 1) p (by omega) hok
        rw [decide_eq_true (show p < i + 1 by omega)] at this
        exact this
      | false =>
        simp only [Lx.itemsF, Lx.lexG, Lx.okF, hw] at hok ⊢
        rw [if_neg (by simpa using hok.1), if_neg (by simpa using hok.1)]
        have hd : (c :: r).drop (Lx.itemP (decide (st = 2)) (c :: r)).len = (bl l).drop (i + (Lx.itemP (decide (st = 2)) (c :: r)).len) := by rw [← hx, List.drop_drop]
        rw [tks, List.map_cons, hd]
        rw [hd] at hok
        have := ftk_tks C l n _ (i + (Lx.itemP (decide (st = 2)) (c :: r)).len) (i + (Lx.itemP (decide (st = 2)) (c :: r)).len) (Nat.le_refl _) hok.2
        rw [decide_eq_false (Nat.lt_irrefl _)] at this
        rw [this]
        congr 1
        unfold ftk
        simp only [bl_ext]
        rw [← hx, ← List.take_drop]
        refine Prod.ext ?_ rfl
        simp only [decide_eq_decide]
        omega
theorem scan_lexG {s : ByteArray} (h : scanE s = 0) : (scanT s).map ftk = Lx.lexG (lgc s).length 0 false (lgc s) := by
  obtain ⟨e1, e2, e3, e4⟩ := scanE_zero h
  have ho := (scan_lex h).2.1
  rw [e3]
  have := ftk_tks (charsOf s) (logB s) (lgc s).length 0 0 0 (Nat.le_refl _) (by rw [bl_lgc, List.drop_zero]; exact ho)
  rw [bl_lgc, List.drop_zero] at this
  unfold itsOf Lx.itemsL
  rw [bl_lgc]
  exact this
end Go.Proofs.YtnjmkeijjapejaaGreat
namespace Go.Proofs.YtnjmkeijjapejaaGreat
open Go.GV Go.RowKit
end Go.Proofs.YtnjmkeijjapejaaGreat
namespace Go.Proofs.YtnjmkeijjapejaaGreat
open Go.GV Go.RowKit
end Go.Proofs.YtnjmkeijjapejaaGreat
namespace Go.Lx
def hashT : Bs := [35]
def defnT : Bs := [100, 101, 102, 105, 110, 101]
theorem item_hash {z : Bs} (hz : stopW z) : itemP false (35 :: (defnT ++ z)) = ⟨5, 1, 0⟩ := by
  have h := item_stopW (t := [35, 100, 101, 102, 105, 110, 101]) (q := z) (by simp) hz (.inr (fun x hx => by
    have : prefN [35, 100, 101, 102, 105, 110, 101] = 0 := by decide
    rw [this] at hx
    simp only [List.getElem?_cons_zero, Option.some.injEq] at hx
    subst hx; rfl)) (by decide) (by decide)
  have e : itemP false [35, 100, 101, 102, 105, 110, 101] = ⟨5, 1, 0⟩ := by decide
  rw [e] at h
  exact h
theorem item_defn {z : Bs} (hz : stopW z) : itemP false (defnT ++ z) = ⟨1, 6, 0⟩ := by
  have h := item_stopW (t := defnT) (q := z) (by decide) hz (.inr (fun x hx => by
    have : prefN defnT = 0 := by decide
    rw [this] at hx
    simp only [defnT, List.getElem?_cons_zero, Option.some.injEq] at hx
    subst hx; rfl)) (by decide) (by decide)
  have e : itemP false defnT = ⟨1, 6, 0⟩ := by decide
  rw [e] at h
  exact h
theorem lex_def {z : Bs} (hz : stopW z) {n : Nat} (hn : (35 :: (defnT ++ z)).length ≤ n) :
    ∃ m, z.length ≤ m ∧ lexG n 0 false (35 :: (defnT ++ z)) = (false, 5, hashT) :: (false, 1, defnT) :: lexG m 3 false z ∧ (okF n 0 (35 :: (defnT ++ z)) ↔ okF m 3 z) := by
  simp only [List.length_cons, List.length_append, show defnT.length = 6 by rfl] at hn
  obtain ⟨m, rfl⟩ : ∃ m, n = m + 1 + 1 := ⟨n - 2, by omega⟩
  have i1 := item_hash hz
  have i2 := item_defn hz
  have t1 : (35 :: (defnT ++ z)).take 1 = hashT := rfl
  have d1 : (35 :: (defnT ++ z)).drop 1 = defnT ++ z := rfl
  have t2 : (defnT ++ z).take 6 = defnT := List.take_left' rfl
  have d2 : (defnT ++ z).drop 6 = z := List.drop_left' rfl
  have a1 : after 0 5 hashT = 1 := by decide
  have a2 : after 1 1 defnT = 3 := by decide
  have c2 : defnT ++ z = 100 :: ([101, 102, 105, 110, 101] ++ z) := rfl
  refine ⟨m, by omega, ?_, ?_⟩
  · rw [lexG_item (by decide) rfl (by rw [i1]), i1]
    simp only
    rw [t1, d1, a1]
    congr 1
    rw [c2] at i2 t2 d2 ⊢
    rw [lexG_item (by decide) rfl (by rw [i2]), i2]
    simp only
    rw [t2, d2, a2]
  · rw [okF_item (by decide) rfl, i1]
    simp only
    rw [t1, d1, a1]
    rw [c2] at i2 t2 d2 ⊢
    rw [okF_item (by decide) rfl, i2]
    simp only
    rw [t2, d2, a2]
    simp
end Go.Lx
namespace Go.Proofs.YtnjmkeijjapejaaGreat
open Go.GV Go.RowKit
def dfnB : ByteArray := ⟨#[100, 101, 102, 105, 110, 101]⟩
def key0 (R : List RowT) : Prop := R ≠ [] ∧ (R.getD 0 rowT0).dir = true ∧ (R.getD 0 rowT0).name = dfnB
theorem addLine_key {s : List RowT × Bool} (h : key0 s.1) (line : List Tok) : key0 (addLine s line).1 := by
  obtain ⟨h0, h1, h2⟩ := h
  obtain ⟨R, b⟩ := s
  simp only at h0 h1 h2
  have hl : 0 < R.length := List.length_pos_iff.2 h0
  unfold addLine
  simp only
  split
  · refine ⟨?_, ?_, ?_⟩
    · intro he
      have := congrArg List.length he
      rw [List.length_set, List.length_nil] at this; omega
    · by_cases hz : R.length - 1 = 0
      · rw [hz, List.getD_eq_getElem?_getD, List.getElem?_set_self hl]
        exact h1
      · rw [List.getD_eq_getElem?_getD, List.getElem?_set_ne (by omega), ← List.getD_eq_getElem?_getD]
        exact h1
    · by_cases hz : R.length - 1 = 0
      · rw [hz, List.getD_eq_getElem?_getD, List.getElem?_set_self hl]
        exact h2
      · rw [List.getD_eq_getElem?_getD, List.getElem?_set_ne (by omega), ← List.getD_eq_getElem?_getD]
        exact h2
  · have e : ∀ x : RowT, (R ++ [x]).getD 0 rowT0 = R.getD 0 rowT0 := fun x => by
      rw [List.getD_eq_getElem?_getD, List.getElem?_append_left hl, ← List.getD_eq_getElem?_getD]
    refine ⟨by simp, ?_, ?_⟩
    · rw [e]; exact h1
    · rw [e]; exact h2
theorem fold_key : ∀ (ls : List (List Tok)) (s : List RowT × Bool), key0 s.1 → key0 (ls.foldl addLine s).1
  | [], s, h => h
  | l :: r, s, h => fold_key r _ (addLine_key h l)
theorem pcs_first : ∀ (L : List Tok) (f i : Nat), f < i → ∃ k r, pcs f i L = (f, k) :: r ∧ i ≤ k
  | [], f, i, h => ⟨i, [], by rw [pcs, if_pos h], Nat.le_refl _⟩
  | t :: L, f, i, h => by
    rw [pcs]
    split
    · exact ⟨i + 1, _, rfl, by omega⟩
    · obtain ⟨k, r, e, hk⟩ := pcs_first L f (i + 1) (by omega)
      exact ⟨k, r, e, by omega⟩
theorem rows_key {t0 t1 : Tok} {L : List Tok} (h0 : t0.kind = 5) (x0 : t0.text = ⟨#[35]⟩) (h1 : t1.kind = 1) (x1 : t1.text = dfnB) : key0 (rowsOf (t0 :: t1 :: L)) := by
  obtain ⟨k, r, e, hk⟩ := pcs_first L 0 2 (by omega)
  have e2 : pcs 0 0 (t0 :: t1 :: L) = (0, k) :: r := by
    rw [pcs, if_neg (by omega), pcs, if_neg (by omega)]
    exact e
  have e3 : lnOf (t0 :: t1 :: L) (0, k) = t0 :: t1 :: L.take (k - 2) := by
    unfold lnOf
    simp only
    obtain ⟨j, rfl⟩ : ∃ j, k = j + 2 := ⟨k - 2, by omega⟩
    rw [List.drop_zero, List.take_succ_cons, List.take_succ_cons]
    rfl
  have e4 : ∀ Z : List Tok, dirF false (t0 :: t1 :: Z) = (dfnB, true) := fun Z => by
    have g0 : gone t0 = false := by unfold gone; rw [h0]; decide
    have g1 : gone t1 = false := by unfold gone; rw [h1]; decide
    have nh : noHash t0 = false := by unfold noHash; rw [h0, x0]; decide
    simp only [dirF, g0, g1, nh, h1, x1, Bool.false_eq_true, if_false, Bool.not_false, Bool.and_false, Bool.not_true, Bool.false_and, if_true]
  unfold rowsOf linesOf
  rw [e2, List.map_cons, List.foldl_cons, e3]
  refine fold_key _ _ ?_
  unfold addLine
  rw [e4]
  exact ⟨by simp, rfl, rfl⟩
theorem line_def (m : MT) : ∃ rest, bl (lineT m) = 35 :: (Lx.defnT ++ 32 :: rest) := by
  refine ⟨((strL m.name ++ parL m) ++ bodyUp m.body m.body.length ++ [10]).map (fun b : UInt8 => (b.toNat : Int)), ?_⟩
  show (lineL m).map (fun b : UInt8 => (b.toNat : Int)) = _
  unfold lineL headL
  rw [List.append_assoc (strL defB8), List.append_assoc (strL defB8), List.append_assoc (strL defB8), List.map_append]
  rw [show (strL defB8).map (fun b : UInt8 => (b.toNat : Int)) = 35 :: (Lx.defnT ++ [32]) by rfl]
  simp only [List.append_assoc, List.cons_append, List.nil_append]
theorem line_key (m : MT) (hsp : spellE (lineT m) = 0) (hsc : scanE (spellS (lineT m)) = 0) : key0 (rowsS (spellS (lineT m))) := by
  obtain ⟨p1, p2, _⟩ := spell_law (lineT m) hsp
  have hlg : lgc (spellS (lineT m)) = bl (lineT m) := by
    rw [← bl_lgc, ← logical_B, p2]
  obtain ⟨rest, hr⟩ := line_def m
  have hg := scan_lexG hsc
  rw [hlg, hr] at hg
  obtain ⟨q, q1, q2, _⟩ := Lx.lex_def (z := 32 :: rest) (.inr ⟨32, rest, rfl, .inl rfl⟩) (n := (35 :: (Lx.defnT ++ 32 :: rest)).length) (Nat.le_refl _)
  rw [q2] at hg
  unfold rowsS
  generalize scanT (spellS (lineT m)) = T at hg
  match T, hg with
  | [], hg => cases hg
  | [t], hg => exact absurd (congrArg List.length hg) (by simp)
  | t0 :: t1 :: L, hg =>
    simp only [List.map_cons, List.cons.injEq] at hg
    obtain ⟨a1, a2, _⟩ := hg
    unfold ftk at a1 a2
    simp only [Prod.mk.injEq] at a1 a2
    exact rows_key a1.2.1 (bl_inj (a1.2.2.trans rfl)) a2.2.1 (bl_inj (a2.2.2.trans rfl))
end Go.Proofs.YtnjmkeijjapejaaGreat
namespace Go.Proofs.YtnjmkeijjapejaaGreat
open Go.GV Go.RowKit
theorem memB_step {L : List ByteArray} {i : Nat} {s : ByteArray} (hi : i < L.length) : memB s (L.take (i + 1)) = (memB s (L.take i) || decide (s = L.getD i ⟨#[]⟩)) := by
  unfold memB
  rw [take_get (List.getElem?_eq_getElem hi), List.any_append, List.getD_eq_getElem?_getD, List.getElem?_eq_getElem hi]
  simp
set_option maxRecDepth 100000 in
theorem among_any (L : List ByteArray) (s : ByteArray) (x : Value) (w : World) (hx : SlAt (im w) x (strY.d L)) (hL : L.length ≤ 9223372036854775806) :
    Calls Tryz.prog 51 #[x, .string s] w (PureP w fun v _ => v = .bool (memB s L)) := by
  refine x_fun tt_ok Tryz.func51 rfl rfl [(x, strY.d L)] 1 [.r 0, .v (.string s)] rfl rfl rfl rfl (fun b hb => by simp at hb; subst hb; exact hx) ?_
  refine x_vc tt_ok ?_
  refine x_loop (σ := Int) (fun i => ⟨[(5, .v (.int .i64 i)), (1, .v (.string s)), (0, .r 0)], [], [(0, .sl (strY.d L))], 1⟩)
    (fun i _ => 0 ≤ i ∧ i ≤ L.length ∧ memB s (L.take i.toNat) = false) (fun i => (L.length - i).toNat) (fun _ => Nat.le_refl _) 0 [] (.of rfl rfl rfl rfl rfl rfl) ⟨by omega, by omega, rfl⟩ ?_
  rintro i u hu ⟨g1, g2, g3⟩
  refine x_vc tt_ok ?_
  refine x_if (fun h => ?_) (fun h => ?_)
  · have h : i < L.length := of_decide_eq_true h
    repeat (refine And.intro ?_ ?_; first | omega | (simp only [Lay.d_n]; omega) | (simp only [decide_eq_true_eq, decide_eq_false_iff_not, Bool.or_eq_false_iff, Bool.and_eq_true, Bool.or_eq_true, Bool.and_eq_false_iff, Bool.not_eq_true', Bool.not_eq_false', Lay.d_n]; omega) | (simp only [decide_eq_true_eq, decide_eq_false_iff_not, Bool.or_eq_false_iff, Bool.and_eq_true, Bool.or_eq_true, Bool.and_eq_false_iff, Bool.not_eq_true', Bool.not_eq_false']; omega) | (simp only [decide_eq_true_eq, decide_eq_false_iff_not, Bool.or_eq_false_iff]; simp only [Lay.d_n]; omega))
    have hst := memB_step (L := L) (i := i.toNat) (s := s) (by omega)
    rw [g3, Bool.false_or] at hst
    refine x_if (fun h2 => ?_) (fun h2 => ?_)
    · have h2 : L.getD i.toNat ⟨#[]⟩ = s := of_decide_eq_true h2
      refine fin1 (fun _ _ => ?_)
      have hm : memB s L = true := by
        rw [memB_iff, ← h2, List.getD_eq_getElem?_getD, List.getElem?_eq_getElem (by omega)]
        exact List.getElem_mem _
      rw [hm]; rfl
    · have h2 : ¬ L.getD i.toNat ⟨#[]⟩ = s := of_decide_eq_false h2
      repeat (refine And.intro ?_ ?_; first | omega | (simp only [Lay.d_n]; omega) | (simp only [decide_eq_true_eq, decide_eq_false_iff_not, Bool.or_eq_false_iff, Bool.and_eq_true, Bool.or_eq_true, Bool.and_eq_false_iff, Bool.not_eq_true', Bool.not_eq_false', Lay.d_n]; omega) | (simp only [decide_eq_true_eq, decide_eq_false_iff_not, Bool.or_eq_false_iff, Bool.and_eq_true, Bool.or_eq_true, Bool.and_eq_false_iff, Bool.not_eq_true', Bool.not_eq_false']; omega) | (simp only [decide_eq_true_eq, decide_eq_false_iff_not, Bool.or_eq_false_iff]; simp only [Lay.d_n]; omega))
      refine again (i + 1) [] (.of rfl rfl rfl rfl rfl rfl) ⟨by omega, by omega, ?_⟩ (by omega)
      rw [show (i + 1).toNat = i.toNat + 1 by omega, hst]
      exact decide_eq_false (Ne.symm h2)
  · have h : ¬ i < L.length := of_decide_eq_false h
    rw [List.take_of_length_le (by omega)] at g3
    refine fin1 (fun _ _ => ?_)
    rw [g3]; rfl
def atB (L : List Tok) (i : Int) (s : ByteArray) : Bool := decide (i < L.length) && decide ((L.getD i.toNat tok0).kind = 5) && decide ((L.getD i.toNat tok0).text = s)
theorem atB_isT {L : List Tok} {i : Int} (s : ByteArray) (h : i < L.length) : atB L i s = isT (L.getD i.toNat tok0) [s] := by
  unfold atB isT memB
  rw [decide_eq_true h]
  simp
theorem atB_end {L : List Tok} {i : Int} (s : ByteArray) (h : ¬ i < L.length) : atB L i s = false := by
  unfold atB
  rw [decide_eq_false h]; rfl
set_option maxRecDepth 100000 in
theorem at_any (L : List Tok) (i : Int) (s : ByteArray) (x : Value) (w : World) (hx : SlAt (im w) x (tokY.d L)) (h0 : 0 ≤ i) :
    Calls Tryz.prog 52 #[x, .int .i64 i, .string s] w (PureP w fun v _ => v = .bool (atB L i s)) := by
  refine x_fun tt_ok Tryz.func52 rfl rfl [(x, tokY.d L)] 1 [.r 0, .v (.int .i64 i), .v (.string s)] rfl rfl rfl rfl (fun b hb => by simp at hb; subst hb; exact hx) ?_
  refine x_vc tt_ok ?_
  repeat (refine And.intro ?_ ?_; first | omega | (simp only [Lay.d_n]; omega) | (simp only [decide_eq_true_eq, decide_eq_false_iff_not, Bool.or_eq_false_iff, Bool.and_eq_true, Bool.or_eq_true, Bool.and_eq_false_iff, Bool.not_eq_true', Bool.not_eq_false', Lay.d_n]; omega) | (simp only [decide_eq_true_eq, decide_eq_false_iff_not, Bool.or_eq_false_iff, Bool.and_eq_true, Bool.or_eq_true, Bool.and_eq_false_iff, Bool.not_eq_true', Bool.not_eq_false']; omega) | (simp only [decide_eq_true_eq, decide_eq_false_iff_not, Bool.or_eq_false_iff]; simp only [Lay.d_n]; omega))
  exact fin1 (fun _ _ => rfl)
theorem finO3 {w0 : World} {ow : GV.Own} {nx : Nat} {u : Im} {k : Nat} {e : TypeId} {D : GV.Data} {y z : Value} (hk : GV.look ow k = some (GV.Rs.row e D)) : Done w0 (OwnT e D [y, z]) [.r k, .v y, .v z] ow nx u :=
  finP fun _ _ _ hs hu => ⟨_, rfl, hs.rowOwn hk hu⟩
theorem finO3n {α : Type} {w0 : World} {ow : GV.Own} {nx : Nat} {u : Im} {e : TypeId} (Y : Lay α) {y z : Value} : Done w0 (OwnT e (Y.d []) [y, z]) [.v (.slice none 0 0), .v y, .v z] ow nx u :=
  finP fun _ _ _ _ _ => ⟨_, rfl, .inl ⟨rfl, rfl⟩⟩
def refP (q : PR) : List ByteArray × Bool × Int := if q.ok = true then (q.ps, q.va, q.n) else ([], false, -1)
def sDots : ByteArray := ⟨#[46, 46, 46]⟩
def sRp : ByteArray := ⟨#[41]⟩
def sComma : ByteArray := ⟨#[44]⟩
theorem pF_at {L : List Tok} {i : Int} (P : List ByteArray) (h0 : 0 ≤ i) (h : i < L.length) : refP (pF P i (L.drop i.toNat)) =
    if atB L i sDots = true then (if atB L (i + 1) sRp = true then (P, true, i + 2) else ([], false, -1))
    else if ((decide ((L.getD i.toNat tok0).kind ≠ 1) || decide ((L.getD i.toNat tok0).text = sRest)) || memB (L.getD i.toNat tok0).text P) = true then ([], false, -1)
    else if atB L (i + 1) sRp = true then (P ++ [(L.getD i.toNat tok0).text], false, i + 2)
    else if atB L (i + 1) sComma = true then refP (pF (P ++ [(L.getD i.toNat tok0).text]) (i + 2) (L.drop (i + 2).toNat))
    else ([], false, -1) := by
  rw [drop_at (d := tok0) h0 h, atB_isT sDots h]
  by_cases h1 : i + 1 < L.length
  · rw [drop_at (d := tok0) (by omega) h1, atB_isT sRp h1, atB_isT sComma h1, show (i + 1 + 1) = i + 2 by omega]
    generalize L.getD i.toNat tok0 = t
    generalize L.getD (i + 1).toNat tok0 = x
    generalize L.drop (i + 2).toNat = r
    show refP (if isT t [sDots] = true then ⟨P, true, i + 2, isT x [sRp]⟩
      else if ((decide (t.kind ≠ 1) || decide (t.text = sRest)) || memB t.text P) = true then ⟨P, false, 0, false⟩
      else if isT x [sRp] = true then ⟨P ++ [t.text], false, i + 2, true⟩
      else if isT x [sComma] = true then pF (P ++ [t.text]) (i + 2) r
      else ⟨P ++ [t.text], false, 0, false⟩) = _
    split
    · unfold refP; rfl
    · split
      · rfl
      · split
        · rfl
        · split
          · rfl
          · rfl
  · rw [List.drop_eq_nil_of_le (by omega), atB_end sRp h1, atB_end sComma h1]
    generalize L.getD i.toNat tok0 = t
    have e : refP (pF P i [t]) = ([], false, -1) := rfl
    rw [e]
    simp
set_option maxRecDepth 100000 in
theorem refParams_any (L : List Tok) (i0 : Int) (x : Value) (w : World) (hx : SlAt (im w) x (tokY.d L)) (h0 : 0 ≤ i0) (h1 : i0 ≤ L.length) (hL : L.length * 48 ≤ 140737488355328) (r : List ByteArray × Bool × Int)
    (hr : r = refP (if atB L i0 sRp = true then ⟨[], false, i0 + 1, true⟩ else pF [] i0 (L.drop i0.toNat))) :
    Calls Tryz.prog 53 #[x, .int .i64 i0] w (PureP w (OwnT 9 (strY.d r.1) [.bool r.2.1, .int .i64 r.2.2])) := by
  refine x_fun tt_ok Tryz.func53 rfl rfl [(x, tokY.d L)] 1 [.r 0, .v (.int .i64 i0)] rfl rfl rfl rfl (fun b hb => by simp at hb; subst hb; exact hx) ?_
  refine x_vc tt_ok ?_
  refine xl_call0 (.bool (atB L i0 sRp)) rfl rfl rfl rfl fn52 rfl rfl (fun E w F hs => at_any L i0 sRp _ w (hs.slAt (k := 0) rfl) h0) ?_
  refine xl_go tt_ok ?_
  refine x_if (fun h => ?_) (fun h => ?_)
  · have h : atB L i0 sRp = true := h
    repeat (refine And.intro ?_ ?_; first | omega | (simp only [Lay.d_n]; omega) | (simp only [decide_eq_true_eq, decide_eq_false_iff_not, Bool.or_eq_false_iff, Bool.and_eq_true, Bool.or_eq_true, Bool.and_eq_false_iff, Bool.not_eq_true', Bool.not_eq_false', Lay.d_n]; omega) | (simp only [decide_eq_true_eq, decide_eq_false_iff_not, Bool.or_eq_false_iff, Bool.and_eq_true, Bool.or_eq_true, Bool.and_eq_false_iff, Bool.not_eq_true', Bool.not_eq_false']; omega) | (simp only [decide_eq_true_eq, decide_eq_false_iff_not, Bool.or_eq_false_iff]; simp only [Lay.d_n]; omega))
    rw [if_pos h] at hr
    rw [hr]
    exact finO3n strY
  · have h : atB L i0 sRp = false := h
    rw [if_neg (by rw [h]; simp)] at hr
    refine x_nil 7 9 strY rfl ?_
    refine x_loop (σ := Int × List ByteArray) (fun (i, P) => ⟨[(7, .r 2), (1, .v (.int .i64 i)), (0, .r 0)], [], [(0, .sl (tokY.d L)), (2, .row 9 (strY.d P))], 3⟩)
      (fun (i, P) _ => 0 ≤ i ∧ P.length ≤ i ∧ i ≤ L.length + 2 ∧ refP (pF P i (L.drop i.toNat)) = r) (fun (i, _) => (L.length + 2 - i).toNat) (fun (_, _) => by simp only; omega) (i0, []) [(2, some 1)] (.of rfl rfl rfl rfl rfl rfl)
      ⟨by omega, by simp only [List.length_nil]; omega, by omega, hr.symm⟩ ?_
    rintro ⟨i, P⟩ u hu ⟨g1, g2, g3, g4⟩
    refine x_vc tt_ok ?_
    refine x_if (fun h2 => ?_) (fun h2 => ?_)
    · have h2 : i < L.length := of_decide_eq_true h2
      rw [pF_at P g1 h2] at g4
      refine xl_call0 (.bool (atB L i sDots)) rfl rfl rfl rfl fn52 rfl rfl (fun E w F hs => at_any L i sDots _ w (hs.slAt (k := 0) rfl) g1) ?_
      refine xl_go tt_ok ?_
      refine x_if (fun h3 => ?_) (fun h3 => ?_)
      · have h3 : atB L i sDots = true := h3
        rw [if_pos h3] at g4
        repeat (refine And.intro ?_ ?_; first | omega | (simp only [Lay.d_n]; omega) | (simp only [decide_eq_true_eq, decide_eq_false_iff_not, Bool.or_eq_false_iff, Bool.and_eq_true, Bool.or_eq_true, Bool.and_eq_false_iff, Bool.not_eq_true', Bool.not_eq_false', Lay.d_n]; omega) | (simp only [decide_eq_true_eq, decide_eq_false_iff_not, Bool.or_eq_false_iff, Bool.and_eq_true, Bool.or_eq_true, Bool.and_eq_false_iff, Bool.not_eq_true', Bool.not_eq_false']; omega) | (simp only [decide_eq_true_eq, decide_eq_false_iff_not, Bool.or_eq_false_iff]; simp only [Lay.d_n]; omega))
        refine xl_call0 (.bool (atB L (i + 1) sRp)) rfl rfl rfl rfl fn52 rfl rfl (fun E w F hs => at_any L (i + 1) sRp _ w (hs.slAt (k := 0) rfl) (by omega)) ?_
        refine xl_go tt_ok ?_
        refine x_if (fun h4 => ?_) (fun h4 => ?_)
        · have h4 : atB L (i + 1) sRp = true := h4
          rw [if_pos h4] at g4
          repeat (refine And.intro ?_ ?_; first | omega | (simp only [Lay.d_n]; omega) | (simp only [decide_eq_true_eq, decide_eq_false_iff_not, Bool.or_eq_false_iff, Bool.and_eq_true, Bool.or_eq_true, Bool.and_eq_false_iff, Bool.not_eq_true', Bool.not_eq_false', Lay.d_n]; omega) | (simp only [decide_eq_true_eq, decide_eq_false_iff_not, Bool.or_eq_false_iff, Bool.and_eq_true, Bool.or_eq_true, Bool.and_eq_false_iff, Bool.not_eq_true', Bool.not_eq_false']; omega) | (simp only [decide_eq_true_eq, decide_eq_false_iff_not, Bool.or_eq_false_iff]; simp only [Lay.d_n]; omega))
          rw [← g4]
          exact finO3 (k := 2) rfl
        · have h4 : atB L (i + 1) sRp = false := h4
          rw [if_neg (by rw [h4]; simp)] at g4
          rw [← g4]
          exact finO3n strY
      · have h3 : atB L i sDots = false := h3
        rw [if_neg (by rw [h3]; simp)] at g4
        repeat (refine And.intro ?_ ?_; first | omega | (simp only [Lay.d_n]; omega) | (simp only [decide_eq_true_eq, decide_eq_false_iff_not, Bool.or_eq_false_iff, Bool.and_eq_true, Bool.or_eq_true, Bool.and_eq_false_iff, Bool.not_eq_true', Bool.not_eq_false', Lay.d_n]; omega) | (simp only [decide_eq_true_eq, decide_eq_false_iff_not, Bool.or_eq_false_iff, Bool.and_eq_true, Bool.or_eq_true, Bool.and_eq_false_iff, Bool.not_eq_true', Bool.not_eq_false']; omega) | (simp only [decide_eq_true_eq, decide_eq_false_iff_not, Bool.or_eq_false_iff]; simp only [Lay.d_n]; omega))
        refine xl_gcall0 (.bool (memB (L.getD i.toNat tok0).text P)) rfl rfl rfl rfl fn51 rfl rfl (fun _ E w F hs => among_any P _ _ w (hs.rowAt (k := 2) rfl) (by omega)) ?_
        refine xl_go tt_ok ?_
        refine x_if (fun h4 => ?_) (fun h4 => ?_)
        · have h4 : ((decide ((L.getD i.toNat tok0).kind ≠ 1) || decide ((L.getD i.toNat tok0).text = sRest)) || memB (L.getD i.toNat tok0).text P) = true := h4
          rw [if_pos h4] at g4
          rw [← g4]
          exact finO3n strY
        · have h4 : ((decide ((L.getD i.toNat tok0).kind ≠ 1) || decide ((L.getD i.toNat tok0).text = sRest)) || memB (L.getD i.toNat tok0).text P) = false := h4
          rw [if_neg (by rw [h4]; simp)] at g4
          repeat (refine And.intro ?_ ?_; first | omega | (simp only [Lay.d_n]; omega) | (simp only [decide_eq_true_eq, decide_eq_false_iff_not, Bool.or_eq_false_iff, Bool.and_eq_true, Bool.or_eq_true, Bool.and_eq_false_iff, Bool.not_eq_true', Bool.not_eq_false', Lay.d_n]; omega) | (simp only [decide_eq_true_eq, decide_eq_false_iff_not, Bool.or_eq_false_iff, Bool.and_eq_true, Bool.or_eq_true, Bool.and_eq_false_iff, Bool.not_eq_true', Bool.not_eq_false']; omega) | (simp only [decide_eq_true_eq, decide_eq_false_iff_not, Bool.or_eq_false_iff]; simp only [Lay.d_n]; omega))
          refine xl_push tt_ok strY P (L.getD i.toNat tok0).text 16 (cs := [.string (L.getD i.toNat tok0).text]) rfl rfl rfl rfl rfl rfl rfl rfl rfl rfl rfl rfl (by kernel_rfl) rfl rfl rfl rfl rfl (fun n hn => by cases hn; decide) rfl rfl rfl (by omega) (by omega) ?_
          refine xl_go tt_ok ?_
          repeat (refine And.intro ?_ ?_; first | omega | (simp only [Lay.d_n]; omega) | (simp only [decide_eq_true_eq, decide_eq_false_iff_not, Bool.or_eq_false_iff, Bool.and_eq_true, Bool.or_eq_true, Bool.and_eq_false_iff, Bool.not_eq_true', Bool.not_eq_false', Lay.d_n]; omega) | (simp only [decide_eq_true_eq, decide_eq_false_iff_not, Bool.or_eq_false_iff, Bool.and_eq_true, Bool.or_eq_true, Bool.and_eq_false_iff, Bool.not_eq_true', Bool.not_eq_false']; omega) | (simp only [decide_eq_true_eq, decide_eq_false_iff_not, Bool.or_eq_false_iff]; simp only [Lay.d_n]; omega))
          refine xl_call0 (.bool (atB L (i + 1) sRp)) rfl rfl rfl rfl fn52 rfl rfl (fun E w F hs => at_any L (i + 1) sRp _ w (hs.slAt (k := 0) rfl) (by omega)) ?_
          refine xl_go tt_ok ?_
          refine x_if (fun h5 => ?_) (fun h5 => ?_)
          · have h5 : atB L (i + 1) sRp = true := h5
            rw [if_pos h5] at g4
            repeat (refine And.intro ?_ ?_; first | omega | (simp only [Lay.d_n]; omega) | (simp only [decide_eq_true_eq, decide_eq_false_iff_not, Bool.or_eq_false_iff, Bool.and_eq_true, Bool.or_eq_true, Bool.and_eq_false_iff, Bool.not_eq_true', Bool.not_eq_false', Lay.d_n]; omega) | (simp only [decide_eq_true_eq, decide_eq_false_iff_not, Bool.or_eq_false_iff, Bool.and_eq_true, Bool.or_eq_true, Bool.and_eq_false_iff, Bool.not_eq_true', Bool.not_eq_false']; omega) | (simp only [decide_eq_true_eq, decide_eq_false_iff_not, Bool.or_eq_false_iff]; simp only [Lay.d_n]; omega))
            rw [← g4]
            exact finO3 (k := 3) rfl
          · have h5 : atB L (i + 1) sRp = false := h5
            rw [if_neg (by rw [h5]; simp)] at g4
            repeat (refine And.intro ?_ ?_; first | omega | (simp only [Lay.d_n]; omega) | (simp only [decide_eq_true_eq, decide_eq_false_iff_not, Bool.or_eq_false_iff, Bool.and_eq_true, Bool.or_eq_true, Bool.and_eq_false_iff, Bool.not_eq_true', Bool.not_eq_false', Lay.d_n]; omega) | (simp only [decide_eq_true_eq, decide_eq_false_iff_not, Bool.or_eq_false_iff, Bool.and_eq_true, Bool.or_eq_true, Bool.and_eq_false_iff, Bool.not_eq_true', Bool.not_eq_false']; omega) | (simp only [decide_eq_true_eq, decide_eq_false_iff_not, Bool.or_eq_false_iff]; simp only [Lay.d_n]; omega))
            refine xl_call0 (.bool (atB L (i + 1) sComma)) rfl rfl rfl rfl fn52 rfl rfl (fun E w F hs => at_any L (i + 1) sComma _ w (hs.slAt (k := 0) rfl) (by omega)) ?_
            refine xl_go tt_ok ?_
            refine x_if (fun h6 => ?_) (fun h6 => ?_)
            · have h6 : (!atB L (i + 1) sComma) = true := h6
              rw [if_neg (by intro h7; rw [h7] at h6; cases h6)] at g4
              rw [← g4]
              exact finO3n strY
            · have h6 : atB L (i + 1) sComma = true := by
                have h6 : (!atB L (i + 1) sComma) = false := h6
                simpa using h6
              rw [if_pos h6] at g4
              repeat (refine And.intro ?_ ?_; first | omega | (simp only [Lay.d_n]; omega) | (simp only [decide_eq_true_eq, decide_eq_false_iff_not, Bool.or_eq_false_iff, Bool.and_eq_true, Bool.or_eq_true, Bool.and_eq_false_iff, Bool.not_eq_true', Bool.not_eq_false', Lay.d_n]; omega) | (simp only [decide_eq_true_eq, decide_eq_false_iff_not, Bool.or_eq_false_iff, Bool.and_eq_true, Bool.or_eq_true, Bool.and_eq_false_iff, Bool.not_eq_true', Bool.not_eq_false']; omega) | (simp only [decide_eq_true_eq, decide_eq_false_iff_not, Bool.or_eq_false_iff]; simp only [Lay.d_n]; omega))
              exact again (i + 2, P ++ [(L.getD i.toNat tok0).text]) [(2, some 3)] (.of rfl rfl rfl rfl rfl rfl) ⟨by omega, by simp only [List.length_append, List.length_singleton]; omega, by omega, g4⟩ (by simp only; omega)
    · have h2 : ¬ i < L.length := of_decide_eq_false h2
      rw [List.drop_eq_nil_of_le (by omega)] at g4
      have e : refP (pF P i []) = ([], false, -1) := rfl
      rw [e] at g4
      rw [← g4]
      exact finO3n strY
end Go.Proofs.YtnjmkeijjapejaaGreat
namespace Go.GV
open Go.RowKit
theorem fit1 {n bytes : Nat} (hb : (n + 1) * bytes ≤ 211106232532992) (hs : bytes ≤ 1000) : Builtin.nextslicecap (n + 1) n * bytes ≤ 281474976710656 := by
  have h1 : n * bytes + bytes ≤ 211106232532992 := by rw [Nat.add_mul, Nat.one_mul] at hb; exact hb
  have h2 : Builtin.nextslicecap (n + 1) n ≤ n + n / 4 + 600 := by
    unfold Builtin.nextslicecap
    split
    · omega
    · split
      · omega
      · rw [growBy_four]
        repeat' split
        all_goals omega
  have h3 : (n + n / 4 + 600) * bytes = n * bytes + n / 4 * bytes + 600 * bytes := by rw [Nat.add_mul, Nat.add_mul]
  have h4 : 4 * (n / 4 * bytes) ≤ n * bytes := by
    rw [← Nat.mul_assoc]
    exact Nat.mul_le_mul_right _ (by omega)
  have h5 := Nat.mul_le_mul_right bytes h2
  omega
theorem appendFit {P : Program} (w : World) (base : Nat) (t ty e : TypeId) (i : TypeInfo) (z : Value) (size : Nat) (ht : P.underlying t = some (.slice e)) (hi : P.info? e = some i) (hz : i.zero = some z)
    (hsize : i.size = size) (hzs : z.cells.size = size) (hsz : 0 < size) (v : Value) (n : Nat) (xs : List Value) (hown : w.ownsRow base e size v n xs) (a : Addr) (m c : Nat) (news : List Value) (hl : news.length = m * size)
    (hnews : ∀ j u, news[j]? = some u → w.cell? (a.add j) = some u) (h1 : ∀ u ∈ news, u.oneCell' = true) (h63 : n + m ≤ maxLen) (h48 : (n + m) * i.bytes ≤ 281474976710656)
    (hfit : ∀ old, n ≤ old → old < n + m → Builtin.nextslicecap (n + m) old * i.bytes ≤ 281474976710656) (hbase : base ≤ w.heap.size) :
    ∃ v' w', (Builtin.append_ #[t, t] ty #[v, .slice (some a) m c]).run P w = .ok v' w' ∧ w'.ownsRow base e size v' (n + m) (xs ++ news) ∧ w.grownBy w' v.ownBlock ∧ (v'.ownBlock = v.ownBlock ∨ v'.ownBlock = some w.heap.size) := by
  subst hsize
  have hs63 : n + m ≤ 9223372036854775807 := by simp only [maxLen] at h63; omega
  have hall : (xs ++ news).length = (n + m) * i.size := by rw [List.length_append, hown.1, hl, Nat.add_mul]
  have fresh : ∀ old, old < n + m → ∀ row : Option Nat, ∃ cells : Array Value, cells = xs.toArray ++ news.toArray ++ Builtin.zeroCells z.cells (grownCap w (n + m) old e - (n + m)) ∧
      (w.drew.alloc (.cells cells e)).ownsRow base e i.size (.slice (some ⟨w.heap.size, 0, none⟩) (n + m) (grownCap w (n + m) old e)) (n + m) (xs ++ news) ∧ w.grownBy (w.drew.alloc (.cells cells e)) row := by
    intro old _ row
    have c1 := grownCap_ge w (n + m) old e
    have c2 := grownCap_le_maxLen w (n + m) old e h63
    refine ⟨_, rfl, ⟨hall, .inr ⟨w.heap.size, _, _, rfl, hbase, heap_alloc_new w.drew _, c1, c2, ?_, ?_⟩⟩, rfl, rfl, rfl, by simp, fun k hk _ => heap_alloc_old w.drew _ k hk⟩
    · rw [Array.size_append, size_zeroCells, hzs, Array.size_append, List.size_toArray, List.size_toArray, ← List.length_append, hall, ← Nat.add_mul]
      congr 1; omega
    · rw [Array.toList_append, Array.toList_append, List.toList_toArray, List.toList_toArray, ← hall]
      exact List.take_left
  rcases hown.2 with ⟨rfl, rfl⟩ | ⟨g, cap, cur, rfl, hbg, hg, hnc, hcm, hcs, htake⟩
  · obtain rfl : xs = [] := List.eq_nil_of_length_eq_zero (by simpa using hown.1)
    rcases Nat.eq_zero_or_pos m with rfl | hm
    · obtain rfl : news = [] := List.eq_nil_of_length_eq_zero (by simpa using hl)
      refine ⟨.slice none 0 0, w, ?_, World.ownsRow_nil w base e i.size, ⟨rfl, rfl, rfl, Nat.le_refl _, fun _ _ _ => rfl⟩, .inl rfl⟩
      simp [Builtin.append_, run_underlying ht, sizeOf, typeInfo, hi, Builtin.lenOf, Builtin.firstCells, loadCells, loadCellsFrom]
    · simp only [Nat.zero_add, List.nil_append] at *
      have hr := run_append_nil (P := P) w t ty e i z ht hi hz a m c news hl hnews hm (by omega) h48
      obtain ⟨cells, e1, q1, q2⟩ := fresh 0 hm (Value.ownBlock (.slice none 0 0))
      have e2 : news.toArray ++ Builtin.zeroCells z.cells (grownCap w m 0 e - m) = cells := by rw [e1]; simp
      rw [e2] at hr
      exact ⟨_, _, hr, q1, q2, .inr rfl⟩
  · by_cases hroom : n + m ≤ cap
    · have hf : n * i.size + news.length ≤ cur.size := by rw [hl, hcs, ← Nat.add_mul]; exact Nat.mul_le_mul_right _ hroom
      have hr := run_append_room (P := P) w t ty e i ht hi g n cap cur hg a m c news hl hnews h1 hroom hf
      refine ⟨_, _, hr, ⟨hall, .inr ⟨g, cap, _, rfl, hbg, setRow_heap w g cur _ e _ hg, hroom, hcm, ?_, ?_⟩⟩, ⟨rfl, rfl, rfl, by simp, fun k _ hk => setRow_other w g k _ (fun e => hk (by simp [Value.ownBlock, e]))⟩, .inl rfl⟩
      · simp only [List.size_toArray, List.length_append, List.length_take, List.length_drop, Array.length_toList]
        omega
      · rw [htake, ← hall]
        exact List.take_left
    · have hr := run_append_grow (P := P) w t ty e i z ht hi hz ⟨g, 0, none⟩ n cap xs hown.1 (hown.cells (g := g) rfl) a m c news hl hnews (by omega) (by omega) (hfit cap hnc (by omega))
      obtain ⟨cells, e1, q1, q2⟩ := fresh cap (by omega) (Value.ownBlock (.slice (some ⟨g, 0, none⟩) n cap))
      rw [← e1] at hr
      exact ⟨_, _, hr, q1, q2, .inr rfl⟩
theorem xl_append1 {α : Type} {T : TT} {C : Cx} (hT : TOk C.P T) {all : List Oper} {o2 : Oper} {r : List Oper} {Q : Post} {kn : Kn} {gk : List (Nat × (Gd × SV))} {ow : Own} {nx : Nat} {u : Im}
    (Y : Lay α) (L : List α) (m : α) (by' : Nat) {t e d2 k : Nat} {sv xv : Operand} {ti te : TI} {z : SV}
    (h2 : o2.op = .call { callee := .builtin .append, args := #[sv, xv], argTypes := #[t, t] }) (g2 : o2.guard = none) (hd2 : o2.dst = some d2)
    (hti : look T t = some ti) (hsh : ti.shp = .slice e) (hte : look T e = some te) (hsz : te.sz = Y.fs.length) (hpos : Nat.blt 0 te.sz = true)
    (hby : (C.P.info? e).map (fun i => i.bytes) = some by')
    (hs : opd ⟨kn, gk, ow, nx⟩ [] sv = some (.r k)) (hk : look ow k = some (.row e (Y.d L)))
    (hz : opd ⟨kn, gk, ow, nx⟩ [] xv = some z) (hx : ∀ E w F, Sat E ow nx u [] w F → SlAt (im w) (z.den E) (Y.d [m])) (hone : ∀ x, ∀ y ∈ Y.el x, oneB y = true)
    (hf2 : fresh C.N ⟨kn, gk, ow, nx⟩ d2 [] = true)
    (hb : (L.length + 1) * by' ≤ 211106232532992) (hsm : by' ≤ 1000) (hn : L.length + 1 ≤ 9223372036854775807)
    (K : XL C all r Q ⟨(d2, .r nx) :: kn, gk, (nx, .row e (Y.d (L ++ [m]))) :: (k, .emp) :: ow, nx + 1⟩ u) :
    XL C all (o2 :: r) Q ⟨kn, gk, ow, nx⟩ u := by
  unfold XL at K ⊢
  intro E a w hok
  obtain ⟨f, hsat⟩ := hok.sat
  have hgs : gs a.tmps [] := fun x hx => by cases hx
  have htik := hT _ _ hti
  have htek := hT _ _ hte
  have hpos' : 0 < te.sz := blt_lt hpos
  obtain ⟨es, _⟩ := opd_sound hok.agr hgs hs
  have es' : a.eval sv = E k := es
  obtain ⟨ez, _⟩ := opd_sound hok.agr hgs hz
  obtain ⟨A, c, hzv, hA0, hAc⟩ := (hx E w f hsat.unmarked).flat
  rw [hzv] at ez
  obtain ⟨i, i1, i2, i3, i4⟩ := info_bytes htek hby
  have hrow := (hsat.holds k _ hk).1
  rw [Lay.cs_length, Lay.d_n, ← hsz] at hrow
  have key : ∃ v' w', (Builtin.append_ #[t, t] o2.type #[E k, .slice A (Y.d [m]).n c]).run C.P w = .ok v' w' ∧ w'.ownsRow 0 e te.sz v' (L.length + 1) (Y.d (L ++ [m])).flat ∧ w.grownBy w' (E k).ownBlock ∧
      (v'.ownBlock = (E k).ownBlock ∨ v'.ownBlock = some w.heap.size) := by
    cases A with
    | none => exact absurd (hA0 rfl) (by simp [Lay.d])
    | some ad =>
      have h1 := appendFit (P := C.P) w 0 t o2.type e i te.zv te.sz (htik.isSlice hsh) i1 i3 i2
        (by rw [TI.zv_cells htek]; simpa using htek.len) hpos' (E k) L.length (Y.d L).flat hrow ad 1 c (Y.d [m]).flat (by rw [Lay.flat_length, hsz]; rfl) (hAc ad rfl)
        (fun y hy => by
          rw [Lay.flat, List.mem_flatMap] at hy
          obtain ⟨x, _, hy⟩ := hy
          exact oneB_cell' (hone x y hy))
        (by simpa [maxLen] using hn) (by rw [i4]; omega) (fun old ho1 ho2 => by
          have : old = L.length := by omega
          subst this
          rw [i4]; exact fit1 hb hsm) (Nat.zero_le _)
      obtain ⟨v', w', hrun2, hown, hgr, hat⟩ := h1
      rw [← Lay.app] at hown
      exact ⟨v', w', hrun2, hown, hgr, hat⟩
  obtain ⟨v', w', hrun2, hown, hgr, hat⟩ := key
  have hrun2' : (execOp a.eval o2).run C.P w = .ok (.value v') w' := by
    simp only [execOp, h2, resolve, invoke, builtin, List.map_toArray, List.map_cons, List.map_nil, es', ez]
    simp [hrun2, Result.andThen]
  refine xl_wp g2 (fun c hc => by rw [h2] at hc; cases hc) hrun2' ?_
  rw [hd2]
  have hD : (Y.d (L ++ [m])).n = L.length + 1 := by simp [Lay.d]
  have hsat2 := hsat.app (D' := Y.d (L ++ [m])) hk (by rw [Lay.cs_length, hD, ← hsz]; exact hown) hgr (hat.imp id fun hh => ⟨_, hh, Nat.le_refl _⟩)
  have hE : ∀ j, j < nx → upd E nx v' j = E j := fun j hj => upd_other _ _ (by omega)
  have hg := hok.agr.grow (E' := upd E nx v') (ow := (nx, .row e (Y.d (L ++ [m]))) :: (k, .emp) :: ow) (nx := nx + 1) hE (Nat.le_succ _)
  have hput2 : Agr C.N (upd E nx v') (St.put ⟨kn, gk, (nx, .row e (Y.d (L ++ [m]))) :: (k, .emp) :: ow, nx + 1⟩ d2 [] (.r nx)) (a.tmps.setIfInBounds d2 v') := by
    refine hg.put (g := []) hf2 (fun _ => ⟨Nat.lt_succ_self _, ?_⟩) (fun _ => ?_) (fun hn => absurd (fun x hx => (by cases hx)) hn) (fun _ => ?_)
    · obtain ⟨A, c, hv⟩ := ownsRow_sl hown
      exact ⟨A, _, c, by rw [upd_same]; exact hv⟩
    · simp only [SV.den, upd_same]
    · simp only [SV.den, upd_same]
  have := K (upd E nx v') (a.put (some d2) v') w' ⟨⟨hput2.size, hput2.kn, hput2.gk, hput2.klt, hput2.glt⟩, _, hsat2⟩
  exact wpListIn_monoQ (fun e a w => SemQ.mono hE (Nat.le_succ _) (Im.le.refl u)) _ _ _ this
end Go.GV
namespace Go.Proofs.YtnjmkeijjapejaaGreat
open Go.GV Go.RowKit
def sHH : ByteArray := ⟨#[35, 35]⟩
def sPP : ByteArray := ⟨#[37, 58, 37, 58]⟩
def sH : ByteArray := ⟨#[35]⟩
def sP : ByteArray := ⟨#[37, 58]⟩
def mF (fn va : Bool) (P : List ByteArray) : Bool → List Tok → Bool
  | _, [] => true
  | first, t :: r => if ((isT t [sHH] || isT t [sPP]) && (first || r.isEmpty)) = true then false
    else if (decide (t.kind = 1) && decide (t.text = sRest) && !va) = true then false
    else if (!fn || (!isT t [sH] && !isT t [sP])) = true then mF fn va P false r
    else match r with
      | [] => false
      | t2 :: _ => if (decide (t2.kind ≠ 1) || (!memB t2.text P && decide (t2.text ≠ sRest))) = true then false else mF fn va P false r
theorem isT_two (t : Tok) (a b : ByteArray) : isT t [a, b] = (isT t [a] || isT t [b]) := by
  unfold isT memB
  simp only [List.any_cons, List.any_nil, Bool.or_false]
  cases decide (t.kind = 5) <;> simp
theorem mF_false (fn va : Bool) (P : List ByteArray) : ∀ L : List Tok, mF fn va P false L = ((L.isEmpty || !isT (L.getLastD tok0) hashes) && vF fn va P L)
  | [] => rfl
  | t :: r => by
    have ih := mF_false fn va P r
    have e1 : isT t hashes = (isT t [sHH] || isT t [sPP]) := isT_two t _ _
    have e2 : isT t hash1 = (isT t [sH] || isT t [sP]) := isT_two t _ _
    have hn : (!fn || (!isT t [sH] && !isT t [sP])) = (!fn || !isT t hash1) := by rw [e2, Bool.not_or]
    simp only [mF, vF, Bool.false_or]
    rw [hn, ← e1]
    by_cases h1 : (isT t hashes && r.isEmpty) = true
    · rw [if_pos h1]
      rw [Bool.and_eq_true, List.isEmpty_iff] at h1
      obtain ⟨k1, rfl⟩ := h1
      simp [k1]
    · rw [if_neg h1]
      by_cases h2 : (decide (t.kind = 1) && decide (t.text = sRest) && !va) = true
      · rw [if_pos h2, if_pos h2, Bool.and_false]
      · rw [if_neg h2, if_neg h2]
        have hlast : ((t :: r).isEmpty || !isT ((t :: r).getLastD tok0) hashes) = (r.isEmpty || !isT (r.getLastD tok0) hashes) := by
          cases r with
          | nil =>
            simp only [List.isEmpty_nil, Bool.and_true, Bool.not_eq_true] at h1
            simp [h1]
          | cons x r => simp
        rw [hlast]
        by_cases h3 : (!fn || !isT t hash1) = true
        · rw [if_pos h3, if_pos h3]; exact ih
        · rw [if_neg h3, if_neg h3]
          cases r with
          | nil => simp
          | cons t2 r =>
            simp only
            have e3 : (decide (t2.kind ≠ 1) || (!memB t2.text P && decide (t2.text ≠ sRest))) = (decide (t2.kind ≠ 1) || !(decide (t2.text = sRest) || memB t2.text P)) := by
              by_cases h4 : t2.text = sRest
              · simp [h4]
              · simp [h4]
            rw [e3]
            by_cases h4 : (decide (t2.kind ≠ 1) || !(decide (t2.text = sRest) || memB t2.text P)) = true
            · rw [if_pos h4, if_pos h4, Bool.and_false]
            · rw [if_neg h4, if_neg h4]; exact ih
theorem mF_true (fn va : Bool) (P : List ByteArray) (L : List Tok) : mF fn va P true L = validB fn va P L := by
  cases L with
  | nil => rfl
  | cons t r =>
    have e1 : isT t hashes = (isT t [sHH] || isT t [sPP]) := isT_two t _ _
    have hf := mF_false fn va P (t :: r)
    show _ = if (isT t hashes || isT ((t :: r).getLastD tok0) hashes) = true then false else vF fn va P (t :: r)
    by_cases h1 : isT t hashes = true
    · rw [if_pos (by rw [h1]; rfl)]
      simp only [mF, Bool.true_or, Bool.and_true]
      rw [if_pos (by rw [← e1]; exact h1)]
    · have h1' : isT t hashes = false := by simpa using h1
      have e : mF fn va P true (t :: r) = mF fn va P false (t :: r) := by
        simp only [mF]
        rw [← e1, h1']
        simp only [Bool.false_and]
      rw [e, hf, h1']
      simp only [List.isEmpty_cons, Bool.false_or]
      cases isT ((t :: r).getLastD tok0) hashes <;> simp
set_option maxHeartbeats 1000000 in
set_option maxRecDepth 100000 in
theorem may_any (nm : ByteArray) (fn va : Bool) (P : List ByteArray) (pa ba : Option Addr) (pc bn bc : Nat) (L : List Tok) (x : Value) (w : World) (hx : SlAt (im w) x (tokY.d L)) (hp : SlAt (im w) (.slice pa P.length pc) (strY.d P))
    (hL : L.length * 48 ≤ 140737488355328) (hP : P.length * 16 ≤ 140737488355328) :
    Calls Tryz.prog 54 #[.agg #[.string nm, .bool fn, .slice pa P.length pc, .bool va, .slice ba bn bc], x] w (PureP w fun v _ => v = .bool (validB fn va P L)) := by
  rw [← mF_true]
  refine x_fun tt_ok Tryz.func54 rfl rfl [(x, tokY.d L)] 1 [.v (.agg #[.string nm, .bool fn, .slice pa P.length pc, .bool va, .slice ba bn bc]), .r 0] rfl rfl rfl rfl (fun b hb => by simp at hb; subst hb; exact hx) ?_
  refine x_vc tt_ok ?_
  refine x_loop (σ := Int) (fun i => ⟨[(5, .v (.int .i64 i)), (2, .p 1 0), (1, .r 0)], [], [(0, .sl (tokY.d L)), (1, .box 25 [.v (.string nm), .v (.bool fn), .v (.slice pa P.length pc), .v (.bool va), .v (.slice ba bn bc)])], 2⟩)
    (fun i _ => 0 ≤ i ∧ i ≤ L.length ∧ mF fn va P (decide (i = 0)) (L.drop i.toNat) = mF fn va P true L) (fun i => (L.length - i).toNat) (fun _ => Nat.le_refl _) 0 [] (.of rfl rfl rfl rfl rfl rfl) ⟨by omega, by omega, rfl⟩ ?_
  rintro i u hu ⟨g1, g2, g3⟩
  refine x_vc tt_ok ?_
  refine x_if (fun h => ?_) (fun h => ?_)
  · have h : i < L.length := of_decide_eq_true h
    have ei : (i + 1).toNat = i.toNat + 1 := by omega
    have hi1 : decide (i + 1 = 0) = false := decide_eq_false (by omega)
    have hem : (L.drop (i + 1).toNat).isEmpty = decide (i + 1 = (L.length : Int)) := by
      by_cases h2 : i + 1 = (L.length : Int)
      · rw [decide_eq_true h2, List.drop_eq_nil_of_le (by omega)]; rfl
      · rw [decide_eq_false h2, drop_at (d := tok0) (by omega) (by omega)]; rfl
    rw [drop_at (d := tok0) g1 h] at g3
    obtain ⟨t, ht⟩ : ∃ t, t = L.getD i.toNat tok0 := ⟨_, rfl⟩
    rw [← ht] at g3
    simp only [mF, hem] at g3
    rw [ht, ← atB_isT sHH h, ← atB_isT sPP h, ← atB_isT sH h, ← atB_isT sP h] at g3
    refine xl_call0 (.bool (atB L i sHH)) rfl rfl rfl rfl fn52 rfl rfl (fun E w F hs => at_any L i sHH _ w (hs.slAt (k := 0) rfl) g1) ?_
    refine xl_go tt_ok ?_
    refine xl_gcall0 (.bool (atB L i sPP)) rfl rfl rfl rfl fn52 rfl rfl (fun _ E w F hs => at_any L i sPP _ w (hs.slAt (k := 0) rfl) g1) ?_
    refine xl_go tt_ok ?_
    repeat (refine And.intro ?_ ?_; first | omega | (simp only [Lay.d_n]; omega) | (simp only [decide_eq_true_eq, decide_eq_false_iff_not, Bool.or_eq_false_iff, Bool.and_eq_true, Bool.or_eq_true, Bool.and_eq_false_iff, Bool.not_eq_true', Bool.not_eq_false', Lay.d_n]; omega) | (simp only [decide_eq_true_eq, decide_eq_false_iff_not, Bool.or_eq_false_iff, Bool.and_eq_true, Bool.or_eq_true, Bool.and_eq_false_iff, Bool.not_eq_true', Bool.not_eq_false']; omega) | (simp only [decide_eq_true_eq, decide_eq_false_iff_not, Bool.or_eq_false_iff]; simp only [Lay.d_n]; omega))
    refine x_if (fun h2 => ?_) (fun h2 => ?_)
    · have h2 : ((atB L i sHH || atB L i sPP) && (decide (i = 0) || decide (i + 1 = (L.length : Int)))) = true := h2
      rw [if_pos h2] at g3
      refine fin1 (fun _ _ => ?_)
      rw [← g3]; rfl
    · have h2 : ((atB L i sHH || atB L i sPP) && (decide (i = 0) || decide (i + 1 = (L.length : Int)))) = false := h2
      rw [if_neg (by rw [h2]; simp)] at g3
      repeat (refine And.intro ?_ ?_; first | omega | (simp only [Lay.d_n]; omega) | (simp only [decide_eq_true_eq, decide_eq_false_iff_not, Bool.or_eq_false_iff, Bool.and_eq_true, Bool.or_eq_true, Bool.and_eq_false_iff, Bool.not_eq_true', Bool.not_eq_false', Lay.d_n]; omega) | (simp only [decide_eq_true_eq, decide_eq_false_iff_not, Bool.or_eq_false_iff, Bool.and_eq_true, Bool.or_eq_true, Bool.and_eq_false_iff, Bool.not_eq_true', Bool.not_eq_false']; omega) | (simp only [decide_eq_true_eq, decide_eq_false_iff_not, Bool.or_eq_false_iff]; simp only [Lay.d_n]; omega))
      refine x_if (fun h3 => ?_) (fun h3 => ?_)
      · have h3 : (decide ((L.getD i.toNat tok0).kind = 1) && decide ((L.getD i.toNat tok0).text = sRest) && !va) = true := h3
        rw [if_pos h3] at g3
        refine fin1 (fun _ _ => ?_)
        rw [← g3]; rfl
      · have h3 : (decide ((L.getD i.toNat tok0).kind = 1) && decide ((L.getD i.toNat tok0).text = sRest) && !va) = false := h3
        rw [if_neg (by rw [h3]; simp)] at g3
        refine xl_gcall0 (.bool (atB L i sH)) rfl rfl rfl rfl fn52 rfl rfl (fun _ E w F hs => at_any L i sH _ w (hs.slAt (k := 0) rfl) g1) ?_
        refine xl_go tt_ok ?_
        refine xl_gcall0 (.bool (atB L i sP)) rfl rfl rfl rfl fn52 rfl rfl (fun _ E w F hs => at_any L i sP _ w (hs.slAt (k := 0) rfl) g1) ?_
        refine xl_go tt_ok ?_
        refine x_if (fun h4 => ?_) (fun h4 => ?_)
        · have h4 : (!fn || (!atB L i sH && !atB L i sP)) = true := h4
          rw [if_pos h4] at g3
          repeat (refine And.intro ?_ ?_; first | omega | (simp only [Lay.d_n]; omega) | (simp only [decide_eq_true_eq, decide_eq_false_iff_not, Bool.or_eq_false_iff, Bool.and_eq_true, Bool.or_eq_true, Bool.and_eq_false_iff, Bool.not_eq_true', Bool.not_eq_false', Lay.d_n]; omega) | (simp only [decide_eq_true_eq, decide_eq_false_iff_not, Bool.or_eq_false_iff, Bool.and_eq_true, Bool.or_eq_true, Bool.and_eq_false_iff, Bool.not_eq_true', Bool.not_eq_false']; omega) | (simp only [decide_eq_true_eq, decide_eq_false_iff_not, Bool.or_eq_false_iff]; simp only [Lay.d_n]; omega))
          exact again (i + 1) [] (.of rfl rfl rfl rfl rfl rfl) ⟨by omega, by omega, by rw [hi1]; exact g3⟩ (by omega)
        · have h4 : (!fn || (!atB L i sH && !atB L i sP)) = false := h4
          rw [if_neg (by rw [h4]; simp)] at g3
          refine x_draw mix (by kernel_rfl) (xd_go tt_ok ?_)
          repeat (refine And.intro ?_ ?_; first | omega | (simp only [Lay.d_n]; omega) | (simp only [decide_eq_true_eq, decide_eq_false_iff_not, Bool.or_eq_false_iff, Bool.and_eq_true, Bool.or_eq_true, Bool.and_eq_false_iff, Bool.not_eq_true', Bool.not_eq_false', Lay.d_n]; omega) | (simp only [decide_eq_true_eq, decide_eq_false_iff_not, Bool.or_eq_false_iff, Bool.and_eq_true, Bool.or_eq_true, Bool.and_eq_false_iff, Bool.not_eq_true', Bool.not_eq_false']; omega) | (simp only [decide_eq_true_eq, decide_eq_false_iff_not, Bool.or_eq_false_iff]; simp only [Lay.d_n]; omega))
          refine xd_call0 (.bool (memB (L.getD (i + 1).toNat tok0).text P)) rfl rfl rfl rfl fn51 rfl rfl (fun _ E w F hs => among_any P _ _ w ((hp.le hu).imm hs.imm) (by omega)) ?_
          refine xd_go tt_ok ?_
          repeat (refine And.intro ?_ ?_; first | omega | (simp only [Lay.d_n]; omega) | (simp only [decide_eq_true_eq, decide_eq_false_iff_not, Bool.or_eq_false_iff, Bool.and_eq_true, Bool.or_eq_true, Bool.and_eq_false_iff, Bool.not_eq_true', Bool.not_eq_false', Lay.d_n]; omega) | (simp only [decide_eq_true_eq, decide_eq_false_iff_not, Bool.or_eq_false_iff, Bool.and_eq_true, Bool.or_eq_true, Bool.and_eq_false_iff, Bool.not_eq_true', Bool.not_eq_false']; omega) | (simp only [decide_eq_true_eq, decide_eq_false_iff_not, Bool.or_eq_false_iff]; simp only [Lay.d_n]; omega))
          have hnx : ∀ r : Bool, (match List.drop (i + 1).toNat L with
              | [] => false
              | t2 :: _ => if (decide (t2.kind ≠ 1) || (!memB t2.text P && decide (t2.text ≠ sRest))) = true then false else mF fn va P false (L.drop (i + 1).toNat)) = r →
              if ((decide (i + 1 = (L.length : Int)) || decide ((L.getD (i + 1).toNat tok0).kind ≠ 1)) || (!memB (L.getD (i + 1).toNat tok0).text P && decide ((L.getD (i + 1).toNat tok0).text ≠ sRest))) = true then r = false else r = mF fn va P false (L.drop (i + 1).toNat) := by
            intro r hr
            rw [← hr]
            by_cases he : i + 1 = (L.length : Int)
            · rw [decide_eq_true he, List.drop_eq_nil_of_le (by omega)]; simp
            · rw [decide_eq_false he, Bool.false_or]
              rw [drop_at (L := L) (d := tok0) (i := i + 1) (by omega) (by omega)]
              simp only
              by_cases hc : (decide ((L.getD (i + 1).toNat tok0).kind ≠ 1) || (!memB (L.getD (i + 1).toNat tok0).text P && decide ((L.getD (i + 1).toNat tok0).text ≠ sRest))) = true
              · rw [if_pos hc, if_pos hc]
              · rw [if_neg hc, if_neg hc]
          have k4 := hnx _ g3
          refine x_if (fun h8 => ?_) (fun h8 => ?_)
          · have h8 : ((decide (i + 1 = (L.length : Int)) || decide ((L.getD (i + 1).toNat tok0).kind ≠ 1)) || (!memB (L.getD (i + 1).toNat tok0).text P && decide ((L.getD (i + 1).toNat tok0).text ≠ sRest))) = true := h8
            rw [if_pos h8] at k4
            refine fin1 (fun _ _ => ?_)
            rw [k4]; rfl
          · have h8 : ((decide (i + 1 = (L.length : Int)) || decide ((L.getD (i + 1).toNat tok0).kind ≠ 1)) || (!memB (L.getD (i + 1).toNat tok0).text P && decide ((L.getD (i + 1).toNat tok0).text ≠ sRest))) = false := h8
            rw [if_neg (by rw [h8]; simp)] at k4
            repeat (refine And.intro ?_ ?_; first | omega | (simp only [Lay.d_n]; omega) | (simp only [decide_eq_true_eq, decide_eq_false_iff_not, Bool.or_eq_false_iff, Bool.and_eq_true, Bool.or_eq_true, Bool.and_eq_false_iff, Bool.not_eq_true', Bool.not_eq_false', Lay.d_n]; omega) | (simp only [decide_eq_true_eq, decide_eq_false_iff_not, Bool.or_eq_false_iff, Bool.and_eq_true, Bool.or_eq_true, Bool.and_eq_false_iff, Bool.not_eq_true', Bool.not_eq_false']; omega) | (simp only [decide_eq_true_eq, decide_eq_false_iff_not, Bool.or_eq_false_iff]; simp only [Lay.d_n]; omega))
            exact again (i + 1) [] (.of rfl rfl rfl rfl rfl rfl) ⟨by omega, by omega, by rw [hi1]; exact k4.symm⟩ (by omega)
  · have h : ¬ i < L.length := of_decide_eq_false h
    rw [List.drop_eq_nil_of_le (by omega)] at g3
    refine fin1 (fun _ _ => ?_)
    rw [← g3]; rfl
set_option maxRecDepth 100000 in
theorem refOf_any (L : List Tok) (x : Value) (w : World) (hx : SlAt (im w) x (tokY.d L)) (hL : L.length * 48 ≤ 140737488355328) :
    Calls Tryz.prog 55 #[x] w (PureP w fun v u => OwnAt u v 35 (pvY.d (L.map ofT))) := by
  refine x_fun tt_ok Tryz.func55 rfl rfl [(x, tokY.d L)] 1 [.r 0] rfl rfl rfl rfl (fun b hb => by simp at hb; subst hb; exact hx) ?_
  refine x_vc tt_ok ?_
  refine x_nil 3 35 pvY rfl ?_
  refine x_loop (σ := Int × List PV) (fun (i, M) => ⟨[(4, .v (.int .i64 i)), (3, .r 2), (0, .r 0)], [], [(0, .sl (tokY.d L)), (2, .row 35 (pvY.d M))], 3⟩)
    (fun (i, M) _ => 0 ≤ i ∧ i ≤ L.length ∧ M = (L.take i.toNat).map ofT) (fun (i, _) => (L.length - i).toNat) (fun (_, _) => by simp only; omega) (0, []) [(2, some 1)] (.of rfl rfl rfl rfl rfl rfl)
    ⟨by omega, by omega, rfl⟩ ?_
  rintro ⟨i, M⟩ u hu ⟨g1, g2, g3⟩
  refine x_vc tt_ok ?_
  refine x_if (fun h => ?_) (fun h => ?_)
  · have h : i < L.length := of_decide_eq_true h
    have hM : M.length = i.toNat := by rw [g3, List.length_map, List.length_take]; omega
    refine x_drawA mix ?_
    refine xa_pures tt_ok (fuel := 13) [0, 1, 2, 6, 7, 11, 12] rfl (by kernel_rfl) (by kernel_rfl) (fun _ _ _ hh => hh) (by kernel_rfl) (by kernel_rfl) ?_
    refine xa_phase tt_ok (fuel := 3) [3, 4, 5, 8, 9, 10, 13, 14, 15, 16] rfl (by kernel_rfl) (by kernel_rfl) (by kernel_rfl) (phaseB_of 16 (by kernel_rfl)) ?_
    refine xd_go tt_ok ?_
    repeat (refine And.intro ?_ ?_; first | omega | (simp only [Lay.d_n]; omega) | (simp only [decide_eq_true_eq, decide_eq_false_iff_not, Bool.or_eq_false_iff, Bool.and_eq_true, Bool.or_eq_true, Bool.and_eq_false_iff, Bool.not_eq_true', Bool.not_eq_false', Lay.d_n]; omega) | (simp only [decide_eq_true_eq, decide_eq_false_iff_not, Bool.or_eq_false_iff, Bool.and_eq_true, Bool.or_eq_true, Bool.and_eq_false_iff, Bool.not_eq_true', Bool.not_eq_false']; omega) | (simp only [decide_eq_true_eq, decide_eq_false_iff_not, Bool.or_eq_false_iff]; simp only [Lay.d_n]; omega))
    refine xa_one 17 (by kernel_rfl) rfl ?_
    refine xl_build tt_ok pvY [ofT (L.getD i.toNat tok0)] [_] rfl rfl rfl rfl rfl rfl rfl rfl rfl rfl rfl rfl rfl rfl rfl ?_
    refine xl_end ?_
    refine xa_one 18 (by kernel_rfl) rfl ?_
    refine xl_append1 tt_ok pvY M (ofT (L.getD i.toNat tok0)) 56 rfl rfl rfl rfl rfl rfl rfl rfl (by kernel_rfl) rfl rfl rfl (fun E w F hs => hs.rowAt (k := 3) rfl) (by intro x y hy; simp [Lay.el, pvY] at hy; rcases hy with rfl | rfl | rfl | rfl <;> rfl) rfl (by omega) (by decide) (by omega) ?_
    refine xl_end ?_
    refine xa_one 19 (by kernel_rfl) rfl (xl_go tt_ok ?_)
    refine xa_done (by kernel_rfl) rfl ?_
    repeat (refine And.intro ?_ ?_; first | omega | (simp only [Lay.d_n]; omega) | (simp only [decide_eq_true_eq, decide_eq_false_iff_not, Bool.or_eq_false_iff, Bool.and_eq_true, Bool.or_eq_true, Bool.and_eq_false_iff, Bool.not_eq_true', Bool.not_eq_false', Lay.d_n]; omega) | (simp only [decide_eq_true_eq, decide_eq_false_iff_not, Bool.or_eq_false_iff, Bool.and_eq_true, Bool.or_eq_true, Bool.and_eq_false_iff, Bool.not_eq_true', Bool.not_eq_false']; omega) | (simp only [decide_eq_true_eq, decide_eq_false_iff_not, Bool.or_eq_false_iff]; simp only [Lay.d_n]; omega))
    refine again (i + 1, M ++ [ofT (L.getD i.toNat tok0)]) [(2, some 4)] (.of rfl rfl rfl rfl rfl rfl) ⟨by omega, by omega, ?_⟩ (by simp only; omega)
    rw [show (i + 1).toNat = i.toNat + 1 by omega, take_get (List.getElem?_eq_getElem (by omega)), List.map_append, g3, List.getD_eq_getElem?_getD, List.getElem?_eq_getElem (by omega)]
    rfl
  · have h : ¬ i < L.length := of_decide_eq_false h
    rw [List.take_of_length_le (by omega)] at g3
    rw [← g3]
    exact finO (k := 2) rfl
end Go.Proofs.YtnjmkeijjapejaaGreat
namespace Go.Proofs.YtnjmkeijjapejaaGreat
open Go.GV Go.RowKit
def resS : List ByteArray := [⟨#[100, 101, 102, 105, 110, 101, 100]⟩, ⟨#[95, 95, 86, 65, 95, 65, 82, 71, 83, 95, 95]⟩, ⟨#[95, 95, 76, 73, 78, 69, 95, 95]⟩, ⟨#[95, 80, 114, 97, 103, 109, 97]⟩]
theorem resS_eq (s : ByteArray) : memB s resS = resB s := by
  unfold memB resS resB
  simp only [List.any_cons, List.any_nil, Bool.or_false, Bool.or_assoc]
def sLp : ByteArray := ⟨#[40]⟩
theorem pF_shift (k : Int) : ∀ (n : Nat) (l : List Tok) (P : List ByteArray) (i : Int), l.length ≤ n → (pF P (i + k) l).ps = (pF P i l).ps ∧ (pF P (i + k) l).va = (pF P i l).va ∧ (pF P (i + k) l).ok = (pF P i l).ok ∧ ((pF P i l).ok = true → (pF P (i + k) l).n = (pF P i l).n + k)
  | _, [], P, i, _ => ⟨rfl, rfl, rfl, fun h => by cases h⟩
  | _, [t], P, i, _ => ⟨rfl, rfl, rfl, fun h => by cases h⟩
  | 0, t :: x :: r, P, i, h => by simp at h
  | n + 1, t :: x :: r, P, i, h => by
    simp only [List.length_cons] at h
    have ih := pF_shift k n r (P ++ [t.text]) (i + 2) (by omega)
    rw [show i + 2 + k = i + k + 2 by omega] at ih
    unfold pF
    split
    · exact ⟨rfl, rfl, rfl, fun _ => by show i + k + 2 = i + 2 + k; omega⟩
    · split
      · exact ⟨rfl, rfl, rfl, fun h => by cases h⟩
      · split
        · exact ⟨rfl, rfl, rfl, fun _ => by show i + k + 2 = i + 2 + k; omega⟩
        · split
          · exact ih
          · exact ⟨rfl, rfl, rfl, fun h => by cases h⟩
theorem refP_params (L : List Tok) (hL : 2 ≤ L.length) : refP (if atB L 2 sRp = true then ⟨[], false, 2 + 1, true⟩ else pF [] 2 (L.drop (2 : Int).toNat)) =
    if (paramsR (L.drop 1)).ok = true then ((paramsR (L.drop 1)).ps, (paramsR (L.drop 1)).va, (paramsR (L.drop 1)).n + 1) else ([], false, -1) := by
  have hd : (L.drop 1).drop 1 = L.drop 2 := by rw [List.drop_drop]
  unfold paramsR
  rw [hd, show ((2 : Int)).toNat = 2 from rfl]
  by_cases h : 1 < (L.drop 1).length
  · have h3 : (2 : Int) < L.length := by rw [List.length_drop] at h; omega
    have hg : (L.drop 1).getD 1 tok0 = L.getD 2 tok0 := by simp [List.getD_eq_getElem?_getD, List.getElem?_drop]
    rw [atB_isT sRp h3, decide_eq_true h, Bool.true_and, hg]
    show refP (if isT (L.getD 2 tok0) rpS = true then _ else _) = _
    by_cases h4 : isT (L.getD 2 tok0) rpS = true
    · simp only [if_pos h4]; rfl
    · simp only [if_neg h4]
      obtain ⟨k1, k2, k3, k4⟩ := pF_shift 1 (L.drop 2).length (L.drop 2) [] 1 (Nat.le_refl _)
      rw [show (2 : Int) = 1 + 1 from rfl]
      unfold refP
      rw [k3]
      by_cases h5 : (pF [] 1 (L.drop 2)).ok = true
      · rw [if_pos h5, if_pos h5, k1, k2, k4 h5]
      · rw [if_neg h5, if_neg h5]
  · have h3 : ¬ (2 : Int) < L.length := by rw [List.length_drop] at h; omega
    have h4 : L.drop 2 = [] := List.drop_eq_nil_of_le (by omega)
    rw [atB_end sRp h3, decide_eq_false h, Bool.false_and, h4]
    rfl
def defC (L : List Tok) : Bool := (decide ((L.length : Int) = 0) || decide ((L.getD 0 tok0).kind ≠ 1)) || resB (L.getD 0 tok0).text
theorem defR_no {L : List Tok} (h : defC L = true) : defR L = (m0, 50) := by
  unfold defR
  exact if_pos h
theorem defR_yes {L : List Tok} (h : defC L = false) : (0 : Int) < L.length ∧ defR L = if (decide ((1 : Int) < L.length) && !(L.getD 1 tok0).space) = true then
      if atB L 1 sLp = true then
        if (paramsR (L.drop 1)).ok = true then defB (L.getD 0 tok0).text true (paramsR (L.drop 1)).ps (paramsR (L.drop 1)).va ((L.drop 1).drop (paramsR (L.drop 1)).n.toNat) else (m0, 50)
      else (m0, 50)
    else defB (L.getD 0 tok0).text false [] false (L.drop 1) := by
  have hpos : (0 : Int) < L.length := by
    unfold defC at h
    simp only [Bool.or_eq_false_iff, decide_eq_false_iff_not] at h
    omega
  refine ⟨hpos, ?_⟩
  unfold defR
  rw [if_neg (by unfold defC at h; rw [h]; simp)]
  have g1 : (L.drop 1).getD 0 tok0 = L.getD 1 tok0 := by simp [List.getD_eq_getElem?_getD, List.getElem?_drop]
  have g2 : decide ((0 : Int) < (L.drop 1).length) = decide ((1 : Int) < L.length) := by
    rw [List.length_drop]
    by_cases h : (1 : Int) < L.length
    · rw [decide_eq_true h, decide_eq_true (by omega)]
    · rw [decide_eq_false h, decide_eq_false (by omega)]
  rw [g1, g2]
  by_cases h3 : (decide ((1 : Int) < L.length) && !(L.getD 1 tok0).space) = true
  · rw [if_pos h3, if_pos h3]
    rw [Bool.and_eq_true, decide_eq_true_eq] at h3
    rw [atB_isT sLp h3.1]
    rfl
  · rw [if_neg h3, if_neg h3]
set_option maxHeartbeats 4000000 in
set_option maxRecDepth 100000 in
theorem refDefine_any (L : List Tok) (A : Option Addr) (c : Nat) (w : World) (hx : SlAt (im w) (.slice A L.length c) (tokY.d L)) (hL : L.length * 48 ≤ 140737488355328) :
    Calls Tryz.prog 21 #[.slice A L.length c] w (PureP w (DefR (defR L))) := by
  refine x_fun tt_ok Tryz.func21 rfl rfl [] 0 [.v (.slice A L.length c)] rfl rfl rfl rfl (fun b hb => by cases hb) ?_
  refine x_seq (x_vc tt_ok ?_)
  refine x_seq (x_vc tt_ok ?_)
  refine xl_slG 13 rfl hx ?_
  refine xl_go tt_ok ?_
  repeat (refine And.intro ?_ ?_; first | omega | (simp only [Lay.d_n]; omega) | (simp only [decide_eq_true_eq, decide_eq_false_iff_not, Bool.or_eq_false_iff, Bool.and_eq_true, Bool.or_eq_true, Bool.and_eq_false_iff, Bool.not_eq_true', Bool.not_eq_false', Lay.d_n]; omega) | (simp only [decide_eq_true_eq, decide_eq_false_iff_not, Bool.or_eq_false_iff, Bool.and_eq_true, Bool.or_eq_true, Bool.and_eq_false_iff, Bool.not_eq_true', Bool.not_eq_false']; omega) | (simp only [decide_eq_true_eq, decide_eq_false_iff_not, Bool.or_eq_false_iff]; simp only [Lay.d_n]; omega))
  refine xl_gsplit 19 (.bool false) rfl rfl rfl rfl rfl (fun hb => ?_) (fun hb => ?_)
  · refine xl_build tt_ok strY resS [_, _, _, _] rfl rfl rfl rfl rfl rfl rfl rfl rfl rfl rfl rfl rfl rfl rfl ?_
    refine xl_go tt_ok ?_
    refine xl_slG 21 rfl hx ?_
    refine xl_go tt_ok ?_
    repeat (refine And.intro ?_ ?_; first | omega | (simp only [Lay.d_n]; omega) | (simp only [decide_eq_true_eq, decide_eq_false_iff_not, Bool.or_eq_false_iff, Bool.and_eq_true, Bool.or_eq_true, Bool.and_eq_false_iff, Bool.not_eq_true', Bool.not_eq_false', Lay.d_n]; omega) | (simp only [decide_eq_true_eq, decide_eq_false_iff_not, Bool.or_eq_false_iff, Bool.and_eq_true, Bool.or_eq_true, Bool.and_eq_false_iff, Bool.not_eq_true', Bool.not_eq_false']; omega) | (simp only [decide_eq_true_eq, decide_eq_false_iff_not, Bool.or_eq_false_iff]; simp only [Lay.d_n]; omega))
    refine xl_gcall0 (.bool (resB (L.getD 0 tok0).text)) rfl rfl rfl rfl fn51 rfl rfl (fun _ E w F hs => by
      rw [← resS_eq]
      exact among_any resS _ _ w (hs.rowAt (k := 2) rfl) (by decide)) ?_
    refine xl_go tt_ok ?_
    refine x_if (fun h => ?_) (fun h => ?_)
    · have h : defC L = true := h
      rw [defR_no h]
      exact finP (fun E w' F hs hu => defNo _)
    · have h : defC L = false := h
      obtain ⟨hpos, e⟩ := defR_yes h
      rw [e]
      clear h e
      have rp := refP_params L
      have pl := paramsR_le (L.drop 1)
      refine x_seq (x_vc tt_ok ?_)
      refine xl_sl 28 rfl hx ?_
      refine xl_go tt_ok ?_
      repeat (refine And.intro ?_ ?_; first | omega | (simp only [Lay.d_n]; omega) | (simp only [decide_eq_true_eq, decide_eq_false_iff_not, Bool.or_eq_false_iff, Bool.and_eq_true, Bool.or_eq_true, Bool.and_eq_false_iff, Bool.not_eq_true', Bool.not_eq_false', Lay.d_n]; omega) | (simp only [decide_eq_true_eq, decide_eq_false_iff_not, Bool.or_eq_false_iff, Bool.and_eq_true, Bool.or_eq_true, Bool.and_eq_false_iff, Bool.not_eq_true', Bool.not_eq_false']; omega) | (simp only [decide_eq_true_eq, decide_eq_false_iff_not, Bool.or_eq_false_iff]; simp only [Lay.d_n]; omega))
      refine x_seq (x_vc tt_ok ?_)
      refine x_nilCell 5 9 strY [.v (.string (L.getD 0 tok0).text), .v (.bool false)] [.v (.bool false), .v (.slice none 0 0)] rfl ?_
      generalize hres : (if (decide ((1 : Int) < L.length) && !(L.getD 1 tok0).space) = true then
          if atB L 1 sLp = true then
            if (paramsR (L.drop 1)).ok = true then defB (L.getD 0 tok0).text true (paramsR (L.drop 1)).ps (paramsR (L.drop 1)).va ((L.drop 1).drop (paramsR (L.drop 1)).n.toNat) else (m0, 50)
          else (m0, 50)
        else defB (L.getD 0 tok0).text false [] false (L.drop 1)) = res
      refine x_cut (σ := Bool × Bool × List ByteArray × Int) (fun (fn, va, ps, k) => ⟨[(5, .v (.int .i64 k)), (4, .p 5 0), (2, .p 0 0), (0, .v (.slice A L.length c))], [],
          [(0, .box 25 [.v (.string ⟨#[]⟩), .v (.bool false), .v (.slice none 0 0), .v (.bool false), .v (.slice none 0 0)]), (5, .box 25 [.v (.string (L.getD 0 tok0).text), .v (.bool fn), .r 7, .v (.bool va), .v (.slice none 0 0)]), (7, .row 9 (strY.d ps))], 8⟩)
        (fun (fn, va, ps, k) u => 0 ≤ k ∧ k ≤ L.length ∧ ps.length ≤ L.length ∧ res = defB (L.getD 0 tok0).text fn ps va (L.drop k.toNat)) (fun (_, _, _, _) => by show 7 ≤ 8; omega) ?_ ?_
      · refine x_vc tt_ok ?_
        refine xl_slG 37 rfl hx ?_
        refine xl_go tt_ok ?_
        repeat (refine And.intro ?_ ?_; first | omega | (simp only [Lay.d_n]; omega) | (simp only [decide_eq_true_eq, decide_eq_false_iff_not, Bool.or_eq_false_iff, Bool.and_eq_true, Bool.or_eq_true, Bool.and_eq_false_iff, Bool.not_eq_true', Bool.not_eq_false', Lay.d_n]; omega) | (simp only [decide_eq_true_eq, decide_eq_false_iff_not, Bool.or_eq_false_iff, Bool.and_eq_true, Bool.or_eq_true, Bool.and_eq_false_iff, Bool.not_eq_true', Bool.not_eq_false']; omega) | (simp only [decide_eq_true_eq, decide_eq_false_iff_not, Bool.or_eq_false_iff]; simp only [Lay.d_n]; omega))
        refine x_if (fun h => ?_) (fun h => ?_)
        · have h : (decide ((1 : Int) < L.length) && !(L.getD 1 tok0).space) = true := h
          rw [if_pos h] at hres
          have hL2 : 2 ≤ L.length := by
            rw [Bool.and_eq_true, decide_eq_true_eq] at h
            omega
          obtain ⟨z1, z2, z3, _⟩ := pl (by rw [List.length_drop]; omega)
          refine xl_call0 (.bool (atB L 1 sLp)) rfl rfl rfl rfl fn52 rfl rfl (fun E w F hs => at_any L 1 sLp _ w (hx.imm hs.imm) (by omega)) ?_
          refine xl_go tt_ok ?_
          refine x_if (fun h2 => ?_) (fun h2 => ?_)
          · have h2 : (!atB L 1 sLp) = true := h2
            rw [if_neg (by intro h3; rw [h3] at h2; cases h2)] at hres
            rw [← hres]
            exact finP (fun E w' F hs hu => defNo _)
          · have h2 : atB L 1 sLp = true := by
              have h2 : (!atB L 1 sLp) = false := h2
              simpa using h2
            rw [if_pos h2] at hres
            obtain ⟨r, hr⟩ : ∃ r, r = refP (if atB L 2 sRp = true then ⟨[], false, 2 + 1, true⟩ else pF [] 2 (L.drop (2 : Int).toNat)) := ⟨_, rfl⟩
            have hr2 := hr
            rw [rp hL2] at hr2
            refine xl_callO2 9 (strY.d r.1) [.bool r.2.1, .int .i64 r.2.2] rfl rfl rfl rfl fn53 rfl rfl (fun E w F hs => refParams_any L 2 _ w (hx.imm hs.imm) (by omega) (by omega) (by omega) r hr) ?_
            clear hr
            refine xl_go tt_ok ?_
            by_cases h3 : (paramsR (L.drop 1)).ok = true
            · rw [if_pos h3] at hr2 hres
              subst hr2
              generalize paramsR (L.drop 1) = q at *
              refine x_iff (decide_eq_false (by show ¬ q.n + 1 < 0; omega)) ?_
              refine meet (true, q.va, q.ps, q.n + 1) [(7, some 8)] (.of rfl rfl rfl rfl rfl rfl) ⟨by omega, by rw [List.length_drop] at z3; omega, by rw [List.length_drop] at z1; omega, ?_⟩
              rw [← hres, show (q.n + 1).toNat = 1 + q.n.toNat by omega, List.drop_drop]
            · rw [if_neg h3] at hr2 hres
              subst hr2
              refine x_ift rfl ?_
              rw [← hres]
              exact finP (fun E w' F hs hu => defNo _)
        · have h : (decide ((1 : Int) < L.length) && !(L.getD 1 tok0).space) = false := h
          rw [if_neg (by rw [h]; simp)] at hres
          exact meet (false, false, [], 1) [(7, some 6)] (.of rfl rfl rfl rfl rfl rfl) ⟨by omega, by omega, Nat.zero_le _, hres.symm⟩
      · rintro ⟨fn, va, ps, k⟩ u5 hu5 ⟨k1, k2, k3, k6⟩
        rw [k6]
        clear k6 hres rp pl
        generalize (L.getD 0 tok0).text = nm
        obtain ⟨A2, c2, hA2⟩ : ∃ A2 c2, partV ti82.sz A c k.toNat L.length = .slice A2 (L.drop k.toNat).length c2 := ⟨_, _, by unfold partV; rw [List.length_drop]⟩
        have hx2 : SlAt (im w) (.slice A2 (L.drop k.toNat).length c2) (tokY.d (L.drop k.toNat)) := by
          have := partV_slAt hx (l := k.toNat) (h := L.length) (by omega) (Nat.le_refl _)
          rw [List.take_length] at this
          rw [← hA2]; exact this
        obtain ⟨l, hl⟩ : ∃ l, l = L.drop k.toNat := ⟨_, rfl⟩
        have hll : l.length ≤ L.length := by rw [hl, List.length_drop]; omega
        rw [← hl] at hA2 hx2 ⊢
        have hx5 : SlAt u5 (.slice A2 l.length c2) (tokY.d l) := hx2.le hu5
        refine x_star0 0 ?_
        refine x_parkB 7 8 5 rfl rfl rfl (fun pa pc => ?_)
        refine x_seq (x_seq ?_)
        refine x_via (σ := Unit) (fun _ => ⟨[(67, .v (.bool (!validB fn va ps l))), (5, .v (.int .i64 k)), (4, .p 5 0), (2, .p 0 0), (0, .v (.slice A L.length c))], [],
            [(0, .box 25 [.v (.string ⟨#[]⟩), .v (.bool false), .v (.slice none 0 0), .v (.bool false), .v (.slice none 0 0)]), (5, .box 25 [.v (.string nm), .v (.bool fn), .v (.slice pa ps.length pc), .v (.bool va), .v (.slice none 0 0)]),
             (8, .gen (starHp [⟨.slice pa ps.length pc, 9, strY.d ps⟩]))], 9⟩) (fun _ _ => True) (fun _ => by show 9 ≤ 9; omega) ?_ ?_
        · refine x_drawA mix ?_
          refine xa_pures tt_ok (fuel := 4) [1, 2] rfl (by kernel_rfl) (by kernel_rfl) (fun _ _ _ hh => hh) (by kernel_rfl) (by kernel_rfl) ?_
          refine xa_two 0 3 (by kernel_rfl) rfl rfl ?_ ?_
          · refine xl_go tt_ok ?_
            refine xa_one 3 (by kernel_rfl) rfl ?_
            refine xl_fromE tt_ok rfl rfl rfl rfl rfl rfl rfl rfl rfl (by omega) (by omega) ?_
            rw [hA2]
            refine xl_end ?_
            refine xa_one 4 (by kernel_rfl) rfl ?_
            refine xl_call0 (.bool (validB fn va ps l)) rfl rfl rfl rfl fn54 rfl rfl (fun E w F hs => may_any nm fn va ps pa none pc 0 0 l _ w (hx5.imm hs.imm) (hs.starAt (s := 8) (i := 0) rfl rfl) (by omega) (by omega)) ?_
            refine xl_end ?_
            refine xa_one 5 (by kernel_rfl) rfl (xl_go tt_ok ?_)
            refine xa_done (by kernel_rfl) rfl ?_
            exact meet () [] (.of rfl rfl rfl rfl rfl rfl) trivial
          · refine xl_fromE tt_ok rfl rfl rfl rfl rfl rfl rfl rfl rfl (by omega) (by omega) ?_
            rw [hA2]
            refine xl_end ?_
            refine xa_one 0 (by kernel_rfl) rfl (xl_go tt_ok ?_)
            refine xa_one 4 (by kernel_rfl) rfl ?_
            refine xl_call0 (.bool (validB fn va ps l)) rfl rfl rfl rfl fn54 rfl rfl (fun E w F hs => may_any nm fn va ps pa none pc 0 0 l _ w (hx5.imm hs.imm) (hs.starAt (s := 8) (i := 0) rfl rfl) (by omega) (by omega)) ?_
            refine xl_end ?_
            refine xa_one 5 (by kernel_rfl) rfl (xl_go tt_ok ?_)
            refine xa_done (by kernel_rfl) rfl ?_
            exact meet () [] (.of rfl rfl rfl rfl rfl rfl) trivial
        · rintro _ u6 hu6 _
          refine x_vc tt_ok ?_
          refine x_if (fun h => ?_) (fun h => ?_)
          · have h : (!validB fn va ps l) = true := h
            have e : defB nm fn ps va l = (m0, 50) := by
              unfold defB
              rw [if_neg (by intro h3; rw [h3] at h; cases h)]
            rw [e]
            exact finP (fun E w' F hs hu => defNo _)
          · have h : validB fn va ps l = true := by
              have h : (!validB fn va ps l) = false := h
              simpa using h
            have e : defB nm fn ps va l = (⟨nm, fn, ps, va, fixS (l.map ofT)⟩, 0) := by unfold defB; rw [if_pos h]
            rw [e]
            refine x_vc tt_ok ?_
            refine xl_fromE tt_ok rfl rfl rfl rfl rfl rfl rfl rfl rfl (by omega) (by omega) ?_
            rw [hA2]
            refine xl_go tt_ok ?_
            refine xl_callO 35 (pvY.d (l.map ofT)) rfl rfl rfl rfl fn55 rfl rfl (fun E w F hs => refOf_any l _ w ((hx5.le hu6).imm hs.imm) (by omega)) ?_
            have hml : (l.map ofT).length = l.length := by rw [List.length_map]
            generalize l.map ofT = M at hml
            refine xl_go tt_ok ?_
            cases M with
            | nil =>
              refine x_iff rfl ?_
              refine xl_parkB 9 8 5 rfl rfl rfl (fun ba bc => ?_)
              refine xl_go tt_ok ?_
              exact finStar (k := 8) (pa, pc, ba, bc) rfl (fun _ => rfl) trivial
            | cons t r =>
              refine x_ift (decide_eq_true (by show (0 : Int) < ((r.length + 1 : Nat) : Int); omega)) ?_
              refine And.intro (by omega) ?_
              refine And.intro (by show (0 : Int) < ((r.length + 1 : Nat) : Int); omega) ?_
              refine xl_set tt_ok (i := 0) (off := 2) pvY (t :: r) { t with space := false } (cs := [.bool false]) rfl rfl rfl rfl rfl rfl rfl (by omega) (by simp only [List.length_cons]; omega) rfl rfl (by decide) rfl ?_
              refine xl_go tt_ok ?_
              refine xl_parkB 9 8 5 rfl rfl rfl (fun ba bc => ?_)
              refine xl_go tt_ok ?_
              exact finStar (k := 8) (pa, pc, ba, bc) rfl (fun _ => rfl) trivial
  · have hb : (decide ((L.length : Int) = 0) || decide ((L.getD 0 tok0).kind ≠ 1)) = true := by
      have hb : ¬ (decide ((L.length : Int) = 0) || decide ((L.getD 0 tok0).kind ≠ 1)) = false := hb
      simpa only [Bool.not_eq_false] using hb
    refine xl_go tt_ok ?_
    refine xl_slG 21 rfl hx ?_
    refine xl_go tt_ok ?_
    repeat (refine And.intro ?_ ?_; first | omega | (simp only [Lay.d_n]; omega) | (simp only [decide_eq_true_eq, decide_eq_false_iff_not, Bool.or_eq_false_iff, Bool.and_eq_true, Bool.or_eq_true, Bool.and_eq_false_iff, Bool.not_eq_true', Bool.not_eq_false', Lay.d_n]; omega) | (simp only [decide_eq_true_eq, decide_eq_false_iff_not, Bool.or_eq_false_iff, Bool.and_eq_true, Bool.or_eq_true, Bool.and_eq_false_iff, Bool.not_eq_true', Bool.not_eq_false']; omega) | (simp only [decide_eq_true_eq, decide_eq_false_iff_not, Bool.or_eq_false_iff]; simp only [Lay.d_n]; omega))
    refine xl_gcall0 (.bool false) rfl rfl rfl rfl fn51 rfl rfl (fun hg => by
      have h7 : (decide ((L.length : Int) = 0) || decide ((L.getD 0 tok0).kind ≠ 1)) = false := hg.1
      rw [hb] at h7; cases h7) ?_
    refine xl_go tt_ok ?_
    refine x_ift ?_ ?_
    · show ((decide ((L.length : Int) = 0) || decide ((L.getD 0 tok0).kind ≠ 1)) || false) = true
      rw [hb]; rfl
    · have h : defC L = true := by unfold defC; rw [hb]; rfl
      rw [defR_no h]
      exact finP (fun E w' F hs hu => defNo _)
end Go.Proofs.YtnjmkeijjapejaaGreat
namespace Go.Proofs.YtnjmkeijjapejaaGreat
open Go.GV Go.RowKit
set_option maxHeartbeats 2000000 in
set_option maxRecDepth 100000 in
theorem refText_any (m : MT) (T : List (List ByteArray)) (s : MA) (w : World) (hm : MAt (im w) m T s) (hz : (lineL m).length ≤ 140737488355328) :
    Calls Tryz.prog 7 #[mVal m s] w (PureP w fun v _ => v = .tuple #[.string (textR m T).1, .int .i64 (textR m T).2]) := by
  have hlz : (lineT m).size ≤ 9223372036854775807 := by
    show ((lineL m).toArray).size ≤ _
    simp only [List.size_toArray]
    omega
  have hkey := line_key m
  obtain ⟨l, hl⟩ : ∃ l, l = lineT m := ⟨_, rfl⟩
  unfold textR
  rw [← hl] at hlz hkey ⊢
  obtain ⟨sp, hsp⟩ : ∃ sp, sp = spellS l := ⟨_, rfl⟩
  have zsp : sp.size ≤ 65536 := by rw [hsp]; exact spellS_size l
  rw [← hsp] at hkey ⊢
  have hlen := scanT_len sp
  have hbt := bodyOf_tx sp
  refine x_fun tt_ok Tryz.func7 rfl rfl [] 0 [.v (mVal m s)] rfl rfl rfl rfl (fun b hb => by cases hb) ?_
  refine x_vc tt_ok ?_
  refine xl_call0 (.string l) rfl rfl rfl rfl fn18 rfl rfl (fun E w' F hs => by rw [hl]; exact refLine_any m s w' (hm.ps.imm hs.imm) (hm.body.imm hs.imm) hz) ?_
  refine xl_go tt_ok ?_
  refine xl_call0 (.tuple #[.string sp, .int .i64 (spellE l)]) rfl rfl rfl rfl fn17 rfl rfl (fun E w' F hs => by rw [hsp]; exact Ph.refSpell_any l w' hlz) ?_
  refine xl_go tt_ok ?_
  refine x_if (fun h => ?_) (fun h => ?_)
  · have h : spellE l ≠ 0 := of_decide_eq_true h
    rw [if_pos h]
    exact fin1 (fun _ _ => rfl)
  have h : spellE l = 0 := Classical.not_not.1 (of_decide_eq_false h)
  replace hkey := hkey h
  rw [if_neg (fun hh => hh h)]
  clear h
  refine xl_callO2 82 (tokY.d (scanT sp)) [.int .i64 (scanE sp)] rfl rfl rfl rfl fn19 rfl rfl (fun E w F hs' => refScan_any sp w (by omega)) ?_
  refine xl_go tt_ok ?_
  obtain ⟨R, hR⟩ : ∃ R, R = rowsS sp := ⟨_, rfl⟩
  have hRl : R.length ≤ 65537 := by rw [hR]; have := (rowsOf_size (scanT sp)).2; unfold rowsS; omega
  rw [← hR] at hkey ⊢
  refine xl_callStar (fun (s : Option Addr × Nat × List RowV) => .slice s.1 R.length s.2.1) (fun s => itemsS s.2.2 R ++ [(⟨.slice s.1 R.length s.2.1, 48, rowY.d s.2.2⟩ : SI)]) (fun s => s.2.2.map RowV.key = R.map RowT.key) rfl rfl rfl rfl fn20 rfl rfl
    (fun E w F hs => by
      have h1 := hs.rowAt (k := 1) rfl
      rw [hR]
      exact refRows_any (scanT sp) (E 1) w h1 (by omega)) (fun s' hk => ?_)
  obtain ⟨A, cc, V⟩ := s'
  replace hk : V.map RowV.key = R.map RowT.key := hk
  have hVR : V.length = R.length := by have := congrArg List.length hk; simpa using this
  refine xl_freezeStar 2 (sl := itemsS V R ++ [(⟨.slice A R.length cc, 48, rowY.d V⟩ : SI)]) rfl (fun u1 hu1 hfr => ?_)
  refine xl_sl 25 (x := .slice A R.length cc) (D := rowY.d V) rfl (hfr _ (List.mem_append_right _ (List.mem_singleton.2 rfl))).1 ?_
  have hT := star_toks hVR (fun p hp => (hfr p (List.mem_append_left _ hp)).1)
  refine xl_go tt_ok ?_
  repeat (refine And.intro ?_ ?_; first | omega | (simp only [Lay.d_n]; omega) | (simp only [decide_eq_true_eq, decide_eq_false_iff_not, Bool.or_eq_false_iff, Bool.and_eq_true, Bool.or_eq_true, Bool.and_eq_false_iff, Bool.not_eq_true', Bool.not_eq_false', Lay.d_n]; omega) | (simp only [decide_eq_true_eq, decide_eq_false_iff_not, Bool.or_eq_false_iff, Bool.and_eq_true, Bool.or_eq_true, Bool.and_eq_false_iff, Bool.not_eq_true', Bool.not_eq_false']; omega) | (simp only [decide_eq_true_eq, decide_eq_false_iff_not, Bool.or_eq_false_iff]; simp only [Lay.d_n]; omega))
  have hk0 := keyT_at hk 0
  refine x_if (fun h => ?_) (fun h => ?_)
  · have h : (((decide (scanE sp ≠ 0) || decide ((V.length : Int) ≠ 1)) || !(V.getD 0 row0).dir) || decide ((V.getD 0 row0).name ≠ ⟨#[100, 101, 102, 105, 110, 101]⟩)) = true := h
    have hb : scanE sp ≠ 0 ∨ (R.length : Int) ≠ 1 := by
      by_cases he : scanE sp = 0
      · right
        intro hl1
        obtain ⟨_, k1, k2⟩ := hkey he
        rw [hk0.1, hk0.2, k1, k2, hVR, hl1, he] at h
        simp [dfnB] at h
      · exact .inl he
    have hbad : (if scanE sp ≠ 0 then ((⟨#[]⟩ : ByteArray), (50 : Int)) else if (R.length : Int) ≠ 1 then (⟨#[]⟩, 50) else if (decide ((defR (bodyOf sp)).2 ≠ 0) || !mSame (defR (bodyOf sp)).1 m (noP (defR (bodyOf sp)).1) T) = true then (⟨#[]⟩, 50) else (sp, 0)) = ((⟨#[]⟩ : ByteArray), (50 : Int)) := by
      rcases hb with hb | hb
      · rw [if_pos hb]
      · rw [if_pos hb]
        split <;> rfl
    rw [hbad]
    exact fin1 (fun _ _ => rfl)
  have h : (((decide (scanE sp ≠ 0) || decide ((V.length : Int) ≠ 1)) || !(V.getD 0 row0).dir) || decide ((V.getD 0 row0).name ≠ ⟨#[100, 101, 102, 105, 110, 101]⟩)) = false := h
  simp only [Bool.or_eq_false_iff, decide_eq_false_iff_not, Classical.not_not] at h
  obtain ⟨⟨⟨he, hV1⟩, _⟩, _⟩ := h
  rw [if_neg (by omega), if_neg (by omega)]
  have hR1 : 0 < V.length := by omega
  repeat (refine And.intro ?_ ?_; first | omega | (simp only [Lay.d_n]; omega) | (simp only [decide_eq_true_eq, decide_eq_false_iff_not, Bool.or_eq_false_iff, Bool.and_eq_true, Bool.or_eq_true, Bool.and_eq_false_iff, Bool.not_eq_true', Bool.not_eq_false', Lay.d_n]; omega) | (simp only [decide_eq_true_eq, decide_eq_false_iff_not, Bool.or_eq_false_iff, Bool.and_eq_true, Bool.or_eq_true, Bool.and_eq_false_iff, Bool.not_eq_true', Bool.not_eq_false']; omega) | (simp only [decide_eq_true_eq, decide_eq_false_iff_not, Bool.or_eq_false_iff]; simp only [Lay.d_n]; omega))
  have hsz : ((R.map RowT.ts).getD 0 []).length ≤ 65537 := by
    rw [tsD]
    have h1 := ts_size (R := R) 0
    rw [hR, rowsS, (rowsOf_size (scanT sp)).1] at h1
    rw [hR, rowsS]; omega
  have hsv : saysV (V.getD 0 row0) ((R.map RowT.ts).getD 0 []) = bodyOf sp := by
    rw [tsD]
    unfold bodyOf saysT saysV
    rw [hk0.1, hk0.2, hR]
  have hbl : (bodyOf sp).length ≤ 65537 := by
    have := says_len (V.getD 0 row0) ((R.map RowT.ts).getD 0 [])
    rw [hsv] at this; omega
  refine xl_callV (tokY.d (bodyOf sp)) rfl rfl rfl rfl fn22 rfl rfl (fun E w F hs => by
    have := refSays_any (V.getD 0 row0) ((R.map RowT.ts).getD 0 []) w ((hT.2 0 hR1).imm hs.imm) (by omega)
    rw [hsv] at this
    exact this) (fun A2 c2 u2 hu2 hsl => ?_)
  refine xl_go tt_ok ?_
  obtain ⟨r, hr⟩ : ∃ r, r = defR (bodyOf sp) := ⟨_, rfl⟩
  have hsm : MSm r.1 (bodyOf sp).length := by rw [hr]; exact defR_sm _
  rw [← hr]
  refine xl_callStar (fun s : MA => .tuple #[mVal r.1 s, .int .i64 r.2]) (fun s => mStar r.1 s) (fun _ => True) rfl rfl rfl rfl fn21 rfl rfl
    (fun E w F hs => by
      rw [hr]
      exact refDefine_any (bodyOf sp) A2 c2 w ((hsl.uncut).imm hs.imm) (by omega)) (fun sm _ => ?_)
  refine xl_go tt_ok ?_
  refine xl_gcallF (.bool (mSame r.1 m (noP r.1) T)) rfl rfl rfl rfl fn9 rfl rfl (fun E w' F hs => refSame_any r.1 m _ _ sm s w' (star_at hs (k := 4) rfl hsm (by omega)) ((hm.le (hu1.trans hu2)).imm hs.imm)) ?_
  refine xl_go tt_ok ?_
  refine x_if (fun h => ?_) (fun h => ?_)
  · have h : (decide (r.2 ≠ 0) || !mSame r.1 m (noP r.1) T) = true := h
    rw [if_pos h]
    exact fin1 (fun _ _ => rfl)
  · have h : (decide (r.2 ≠ 0) || !mSame r.1 m (noP r.1) T) = false := h
    rw [if_neg (by rw [h]; simp)]
    exact fin1 (fun _ _ => rfl)
end Go.Proofs.YtnjmkeijjapejaaGreat
