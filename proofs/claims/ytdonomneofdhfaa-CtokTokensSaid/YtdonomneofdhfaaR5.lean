/- The document's tokens: comments. -/
import Derived.Test.YtdonomneofdhfaaR4
namespace Go.Proofs.Ytdonomneofdhfaa
open Go.GV Go.RowKit

theorem endC_cons (a : Int) (r : Lx.Bs) : Lx.endC (a :: r) = if a = 42 ∧ r.head? = some 47 then 2 else if Lx.endC r = 0 then 0 else Lx.endC r + 1 := by
  cases r with
  | nil => simp [Lx.endC]
  | cons b r =>
    simp only [Lx.endC, List.head?_cons, Option.some.injEq]
    by_cases h : a = 42 ∧ b = 47
    · rw [decide_eq_true h.1, decide_eq_true h.2, if_pos h]; rfl
    · rw [if_neg h]
      have : (decide (a = 42) && decide (b = 47)) = false := by
        rw [Bool.and_eq_false_iff]
        by_cases h1 : a = 42
        · exact .inr (decide_eq_false (fun h2 => h ⟨h1, h2⟩))
        · exact .inl (decide_eq_false h1)
      rw [this]
      simp only
      cases Lx.endC (b :: r) <;> simp

theorem tl_head {s : ByteArray} {i : Int} (h0 : 0 ≤ i) (h : i < s.size) : (tl s i).head? = some (bt s i) := by rw [tl_cons h0 h]; rfl
theorem tl_two {s : ByteArray} (h : 2 ≤ s.size) : (bl s).take 2 = [bt s 0, bt s 1] := by
  rw [← tl_zero, tl_cons (by omega) (by omega), tl_cons (by omega) (by omega)]; rfl

set_option maxRecDepth 100000 in
theorem remark_any (s : ByteArray) (h1 : 1 ≤ s.size) (hz : s.size ≤ 140737488355328) (w : World) :
    Calls Try.prog 136 #[.string s] w (PureP w fun v _ => v = .int .i64 (Lx.remR (bl s))) := by
  obtain ⟨N, hN⟩ : ∃ N, N = Lx.remR (bl s) := ⟨_, rfl⟩
  rw [← hN]
  refine x_fun tt_ok Try.func136 rfl rfl [] 0 [.v (.string s)] rfl rfl rfl rfl (fun b hb => by cases hb) ?_
  refine x_vc tt_ok ?_
  repeat (refine And.intro ?_ ?_; first | omega | (simp only [Lay.d_n]; omega) | (simp only [decide_eq_true_eq, decide_eq_false_iff_not, Bool.or_eq_false_iff, Bool.and_eq_true, Bool.or_eq_true, Bool.and_eq_false_iff, Bool.not_eq_true', Bool.not_eq_false', Lay.d_n]; omega) | (simp only [decide_eq_true_eq, decide_eq_false_iff_not, Bool.or_eq_false_iff, Bool.and_eq_true, Bool.or_eq_true, Bool.and_eq_false_iff, Bool.not_eq_true', Bool.not_eq_false']; omega))
  refine x_if (fun h => ?_) (fun h => ?_)
  · have h' : ((decide ((s.size : Int) < 2) || decide (bt s 0 ≠ 47)) || (decide (bt s 1 ≠ 47) && decide (bt s 1 ≠ 42))) = true := h
    have e : N = 0 := by
      rw [hN]
      unfold Lx.remR Lx.isOpen Lx.isLine
      by_cases h2 : 2 ≤ s.size
      · rw [tl_two h2]
        rw [decide_eq_false (by omega), Bool.false_or] at h'
        have n1 : ¬ [bt s 0, bt s 1] = [47, 42] := by
          simp only [List.cons.injEq, and_true]
          rintro ⟨a1, a2⟩
          rw [a1, a2] at h'; revert h'; decide
        have n2 : ¬ [bt s 0, bt s 1] = [47, 47] := by
          simp only [List.cons.injEq, and_true]
          rintro ⟨a1, a2⟩
          rw [a1, a2] at h'; revert h'; decide
        rw [decide_eq_false n1, decide_eq_false n2]; rfl
      · have hl : ∀ x y : Int, ¬ (bl s).take 2 = [x, y] := by
          intro x y hc
          have := congrArg List.length hc
          rw [List.length_take, bl_len] at this
          simp only [List.length_cons, List.length_nil] at this
          omega
        rw [decide_eq_false (hl _ _), decide_eq_false (hl _ _)]; rfl
    rw [e]
    exact fin1 (fun _ _ => rfl)
  · have h' : ((decide ((s.size : Int) < 2) || decide (bt s 0 ≠ 47)) || (decide (bt s 1 ≠ 47) && decide (bt s 1 ≠ 42))) = false := h
    obtain ⟨a1, a2⟩ := Bool.or_eq_false_iff.1 h'
    obtain ⟨a3, a4⟩ := Bool.or_eq_false_iff.1 a1
    have a3 := of_decide_eq_false a3
    have a4 : bt s 0 = 47 := Classical.not_not.1 (of_decide_eq_false a4)
    have h2 : 2 ≤ s.size := by omega
    clear h h' a1
    by_cases h47 : bt s 1 = 47
    · have e : N = (Lx.run Lx.notNl (bl s) : Int) := by
        rw [hN]
        unfold Lx.remR Lx.isOpen Lx.isLine
        rw [tl_two h2, a4, h47]; rfl
      have e0 : (Lx.run Lx.notNl (bl s) : Int) = 2 + Lx.run Lx.notNl (tl s 2) := by
        rw [← tl_zero, tl_cons (by omega) (by omega), run_cons, a4, if_pos (show Lx.notNl 47 = true from rfl), tl_cons (by omega) (by omega), run_cons, show (0 : Int) + 1 = 1 from rfl, h47, if_pos (show Lx.notNl 47 = true from rfl)]
        show ((Lx.run Lx.notNl (tl s 2) + 1 + 1 : Nat) : Int) = _
        omega
      rw [e0] at e
      refine x_loop (σ := Int) (fun k => ⟨[(3, .v (.int .i64 k)), (0, .v (.string s))], [], [], 0⟩)
        (fun k _ => 2 ≤ k ∧ k ≤ s.size ∧ N = k + Lx.run Lx.notNl (tl s k)) (fun k => (s.size - k).toNat) (fun _ => Nat.le_refl _) 2 [] (.of rfl rfl rfl rfl rfl rfl)
        ⟨by omega, by omega, e⟩ ?_
      rintro k u hu ⟨g1, g2, g3⟩
      refine x_vc tt_ok ?_
      refine x_if (fun h => ?_) (fun h => ?_)
      · have hk : k < s.size := of_decide_eq_true h
        rw [tl_cons (by omega) hk, run_cons] at g3
        repeat (refine And.intro ?_ ?_; first | omega | (simp only [Lay.d_n]; omega) | (simp only [decide_eq_true_eq, decide_eq_false_iff_not, Bool.or_eq_false_iff, Bool.and_eq_true, Bool.or_eq_true, Bool.and_eq_false_iff, Bool.not_eq_true', Bool.not_eq_false', Lay.d_n]; omega) | (simp only [decide_eq_true_eq, decide_eq_false_iff_not, Bool.or_eq_false_iff, Bool.and_eq_true, Bool.or_eq_true, Bool.and_eq_false_iff, Bool.not_eq_true', Bool.not_eq_false']; omega))
        refine x_if (fun h3 => ?_) (fun h3 => ?_)
        · have h4 : bt s k = 10 := of_decide_eq_true (Bool.and_eq_true_iff.1 h3).2
          rw [h4, if_neg (by decide)] at g3
          have e : N = k := by omega
          rw [e]
          exact fin1 (fun _ _ => rfl)
        · have h3' : (decide (bt s 1 = 47) && decide (bt s k = 10)) = false := h3
          rw [decide_eq_true h47, Bool.true_and] at h3'
          have h4 := of_decide_eq_false h3'
          have h5 : Lx.notNl (bt s k) = true := by unfold Lx.notNl; simpa using h4
          rw [if_pos h5] at g3
          repeat (refine And.intro ?_ ?_; first | omega | (simp only [Lay.d_n]; omega) | (simp only [decide_eq_true_eq, decide_eq_false_iff_not, Bool.or_eq_false_iff, Bool.and_eq_true, Bool.or_eq_true, Bool.and_eq_false_iff, Bool.not_eq_true', Bool.not_eq_false', Lay.d_n]; omega) | (simp only [decide_eq_true_eq, decide_eq_false_iff_not, Bool.or_eq_false_iff, Bool.and_eq_true, Bool.or_eq_true, Bool.and_eq_false_iff, Bool.not_eq_true', Bool.not_eq_false']; omega))
          refine x_if (fun h6 => ?_) (fun h6 => ?_)
          · have h6' : (((decide (bt s 1 = 42) && decide (2 < k)) && decide (bt s k = 47)) && decide (bt s (k - 1) = 42)) = true := h6
            rw [decide_eq_false (by omega)] at h6'; cases h6'
          · repeat (refine And.intro ?_ ?_; first | omega | (simp only [Lay.d_n]; omega) | (simp only [decide_eq_true_eq, decide_eq_false_iff_not, Bool.or_eq_false_iff, Bool.and_eq_true, Bool.or_eq_true, Bool.and_eq_false_iff, Bool.not_eq_true', Bool.not_eq_false', Lay.d_n]; omega) | (simp only [decide_eq_true_eq, decide_eq_false_iff_not, Bool.or_eq_false_iff, Bool.and_eq_true, Bool.or_eq_true, Bool.and_eq_false_iff, Bool.not_eq_true', Bool.not_eq_false']; omega))
            exact again (k + 1) [] (.of rfl rfl rfl rfl rfl rfl) ⟨by omega, by omega, by omega⟩ (by omega)
      · have hk : ¬ k < (s.size : Int) := of_decide_eq_false h
        rw [tl_nil (by omega)] at g3
        have e : N = s.size := by
          simp only [Lx.run] at g3
          omega
        repeat (refine And.intro ?_ ?_; first | omega | (simp only [Lay.d_n]; omega) | (simp only [decide_eq_true_eq, decide_eq_false_iff_not, Bool.or_eq_false_iff, Bool.and_eq_true, Bool.or_eq_true, Bool.and_eq_false_iff, Bool.not_eq_true', Bool.not_eq_false', Lay.d_n]; omega) | (simp only [decide_eq_true_eq, decide_eq_false_iff_not, Bool.or_eq_false_iff, Bool.and_eq_true, Bool.or_eq_true, Bool.and_eq_false_iff, Bool.not_eq_true', Bool.not_eq_false']; omega))
        refine x_ift (decide_eq_true h47) ?_
        rw [e]
        exact fin1 (fun _ _ => rfl)
    · have h42 : bt s 1 = 42 := by
        rw [decide_eq_true h47, Bool.true_and] at a2
        exact Classical.not_not.1 (of_decide_eq_false a2)
      have e : N = if Lx.endC (tl s 2) = 0 then -1 else atE 2 (Lx.endC (tl s 2)) := by
        rw [hN]
        unfold Lx.remR Lx.isOpen Lx.isLine
        rw [tl_two h2, a4, h42]
        have : (bl s).drop 2 = tl s 2 := rfl
        rw [this]
        simp only [decide_true, if_true]
        cases Lx.endC (tl s 2) with
        | zero => rfl
        | succ n =>
          rw [if_neg (by omega)]
          unfold atE
          rw [if_neg (by omega)]
          show (n : Int) + 3 = 2 + ((n + 1 : Nat) : Int)
          omega
      have e : N = if atE 2 (Lx.endC (tl s 2)) = 0 then -1 else atE 2 (Lx.endC (tl s 2)) := by
        rw [e]
        unfold atE
        by_cases h0 : Lx.endC (tl s 2) = 0
        · rw [if_pos h0, if_pos h0]; rfl
        · rw [if_neg h0, if_neg h0, if_neg (by omega)]
      refine x_loop (σ := Int) (fun k => ⟨[(3, .v (.int .i64 k)), (0, .v (.string s))], [], [], 0⟩)
        (fun k _ => 2 ≤ k ∧ k ≤ s.size ∧ ((k = 2 ∧ N = if atE 2 (Lx.endC (tl s 2)) = 0 then -1 else atE 2 (Lx.endC (tl s 2))) ∨ (2 < k ∧ N = if atE (k - 1) (Lx.endC (tl s (k - 1))) = 0 then -1 else atE (k - 1) (Lx.endC (tl s (k - 1))))))
        (fun k => (s.size - k).toNat) (fun _ => Nat.le_refl _) 2 [] (.of rfl rfl rfl rfl rfl rfl)
        ⟨by omega, by omega, .inl ⟨rfl, e⟩⟩ ?_
      clear e
      rintro k u hu ⟨g1, g2, g3⟩
      refine x_vc tt_ok ?_
      refine x_if (fun h => ?_) (fun h => ?_)
      · have hk : k < s.size := of_decide_eq_true h
        repeat (refine And.intro ?_ ?_; first | omega | (simp only [Lay.d_n]; omega) | (simp only [decide_eq_true_eq, decide_eq_false_iff_not, Bool.or_eq_false_iff, Bool.and_eq_true, Bool.or_eq_true, Bool.and_eq_false_iff, Bool.not_eq_true', Bool.not_eq_false', Lay.d_n]; omega) | (simp only [decide_eq_true_eq, decide_eq_false_iff_not, Bool.or_eq_false_iff, Bool.and_eq_true, Bool.or_eq_true, Bool.and_eq_false_iff, Bool.not_eq_true', Bool.not_eq_false']; omega))
        refine x_if (fun h3 => ?_) (fun h3 => ?_)
        · exact absurd (of_decide_eq_true (Bool.and_eq_true_iff.1 h3).1) h47
        · repeat (refine And.intro ?_ ?_; first | omega | (simp only [Lay.d_n]; omega) | (simp only [decide_eq_true_eq, decide_eq_false_iff_not, Bool.or_eq_false_iff, Bool.and_eq_true, Bool.or_eq_true, Bool.and_eq_false_iff, Bool.not_eq_true', Bool.not_eq_false', Lay.d_n]; omega) | (simp only [decide_eq_true_eq, decide_eq_false_iff_not, Bool.or_eq_false_iff, Bool.and_eq_true, Bool.or_eq_true, Bool.and_eq_false_iff, Bool.not_eq_true', Bool.not_eq_false']; omega))
          refine x_if (fun h6 => ?_) (fun h6 => ?_)
          · have h6' : (((decide (bt s 1 = 42) && decide (2 < k)) && decide (bt s k = 47)) && decide (bt s (k - 1) = 42)) = true := h6
            simp only [Bool.and_eq_true, decide_eq_true_eq] at h6'
            obtain ⟨⟨⟨_, b1⟩, b2⟩, b3⟩ := h6'
            rcases g3 with ⟨c1, _⟩ | ⟨c1, c2⟩
            · omega
            · have e : N = k + 1 := by
                have ec : Lx.endC (tl s (k - 1)) = 2 := by
                  rw [tl_cons (by omega) (by omega), endC_cons, show k - 1 + 1 = k by omega, tl_head (by omega) hk, if_pos ⟨b3, by rw [b2]⟩]
                have ea : atE (k - 1) 2 = k + 1 := by unfold atE; rw [if_neg (by omega)]; omega
                rw [c2, ec, ea, if_neg (by omega)]
              repeat (refine And.intro ?_ ?_; first | omega | (simp only [Lay.d_n]; omega) | (simp only [decide_eq_true_eq, decide_eq_false_iff_not, Bool.or_eq_false_iff, Bool.and_eq_true, Bool.or_eq_true, Bool.and_eq_false_iff, Bool.not_eq_true', Bool.not_eq_false', Lay.d_n]; omega) | (simp only [decide_eq_true_eq, decide_eq_false_iff_not, Bool.or_eq_false_iff, Bool.and_eq_true, Bool.or_eq_true, Bool.and_eq_false_iff, Bool.not_eq_true', Bool.not_eq_false']; omega))
              rw [e]
              exact fin1 (fun _ _ => rfl)
          · have h6' : (((decide (bt s 1 = 42) && decide (2 < k)) && decide (bt s k = 47)) && decide (bt s (k - 1) = 42)) = false := h6
            repeat (refine And.intro ?_ ?_; first | omega | (simp only [Lay.d_n]; omega) | (simp only [decide_eq_true_eq, decide_eq_false_iff_not, Bool.or_eq_false_iff, Bool.and_eq_true, Bool.or_eq_true, Bool.and_eq_false_iff, Bool.not_eq_true', Bool.not_eq_false', Lay.d_n]; omega) | (simp only [decide_eq_true_eq, decide_eq_false_iff_not, Bool.or_eq_false_iff, Bool.and_eq_true, Bool.or_eq_true, Bool.and_eq_false_iff, Bool.not_eq_true', Bool.not_eq_false']; omega))
            refine again (k + 1) [] (.of rfl rfl rfl rfl rfl rfl) ⟨by omega, by omega, .inr ⟨by omega, ?_⟩⟩ (by omega)
            rw [show k + 1 - 1 = k by omega]
            rcases g3 with ⟨c1, c2⟩ | ⟨c1, c2⟩
            · subst c1; exact c2
            · have hn : ¬ (bt s (k - 1) = 42 ∧ some (bt s k) = some (47 : Int)) := by
                rintro ⟨b3, b2⟩
                rw [decide_eq_true h42, decide_eq_true c1, decide_eq_true (Option.some.inj b2), decide_eq_true b3] at h6'; cases h6'
              have ec : Lx.endC (tl s (k - 1)) = if Lx.endC (tl s k) = 0 then 0 else Lx.endC (tl s k) + 1 := by
                rw [tl_cons (by omega) (by omega), endC_cons, show k - 1 + 1 = k by omega, tl_head (by omega) hk, if_neg hn]
              rw [ec, atE_up, show k - 1 + 1 = k by omega] at c2
              exact c2
      · have hk : ¬ k < (s.size : Int) := of_decide_eq_false h
        have e : N = -1 := by
          rcases g3 with ⟨c1, c2⟩ | ⟨c1, c2⟩
          · rw [c2, tl_nil (by omega)]; rfl
          · rw [c2, tl_cons (by omega) (by omega), endC_cons, tl_nil (by omega)]
            simp [Lx.endC, atE]
        repeat (refine And.intro ?_ ?_; first | omega | (simp only [Lay.d_n]; omega) | (simp only [decide_eq_true_eq, decide_eq_false_iff_not, Bool.or_eq_false_iff, Bool.and_eq_true, Bool.or_eq_true, Bool.and_eq_false_iff, Bool.not_eq_true', Bool.not_eq_false', Lay.d_n]; omega) | (simp only [decide_eq_true_eq, decide_eq_false_iff_not, Bool.or_eq_false_iff, Bool.and_eq_true, Bool.or_eq_true, Bool.and_eq_false_iff, Bool.not_eq_true', Bool.not_eq_false']; omega))
        refine x_iff (decide_eq_false h47) ?_
        rw [e]
        exact fin1 (fun _ _ => rfl)
end Go.Proofs.Ytdonomneofdhfaa
