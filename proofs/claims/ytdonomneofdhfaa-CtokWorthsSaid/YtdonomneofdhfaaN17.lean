/- The elements of constants and strings: the document's answer. -/
import Derived.Test.YtdonomneofdhfaaN16
namespace Go.Proofs.Ytdonomneofdhfaa
open Go.GV Go.RowKit

def minF (b : Int) : Int → List Int → Int
  | v, [] => v
  | v, c :: r => minF b (if 1099511627776 < v * b + dg c then 1099511627776 else v * b + dg c) r
theorem minF_ge (b : Int) (hb : 1 ≤ b) : ∀ (L : List Int) (v : Int), 0 ≤ v → v ≤ 1099511627776 → v ≤ minF b v L
  | [], v, _, _ => Int.le_refl _
  | c :: r, v, h0, h1 => by
    have := dg_range c
    have h2 : v ≤ v * b := by have := Int.mul_le_mul_of_nonneg_left hb h0; rw [Int.mul_one] at this; exact this
    simp only [minF]
    split
    · have := minF_ge b hb r 1099511627776 (by omega) (by omega); omega
    · have := minF_ge b hb r (v * b + dg c) (by omega) (by omega); omega
theorem numF_min (b most : Int) (hb : 1 ≤ b) (hm : most < 1099511627776) : ∀ (L : List Int) (v : Int), 0 ≤ v → v ≤ most → numF b most v L = if most < minF b v L then -1 else minF b v L
  | [], v, h0, h1 => by
    have e : minF b v [] = v := rfl
    rw [e, if_neg (by omega)]; rfl
  | c :: r, v, h0, h1 => by
    have := dg_range c
    have h2 : 0 ≤ v * b := Int.mul_nonneg h0 (by omega)
    have e1 : minF b v (c :: r) = minF b (if 1099511627776 < v * b + dg c then 1099511627776 else v * b + dg c) r := rfl
    have e2 : numF b most v (c :: r) = if most < v * b + dg c then -1 else numF b most (v * b + dg c) r := rfl
    rw [e1, e2]
    by_cases h3 : most < v * b + dg c
    · rw [if_pos h3]
      have h4 : most < minF b (if 1099511627776 < v * b + dg c then 1099511627776 else v * b + dg c) r := by
        split
        · have := minF_ge b hb r 1099511627776 (by omega) (by omega); omega
        · have := minF_ge b hb r (v * b + dg c) (by omega) (by omega); omega
      rw [if_pos h4]
    · rw [if_neg h3, if_neg (by omega : ¬ 1099511627776 < v * b + dg c)]
      exact numF_min b most hb hm r _ (by omega) (by omega)

/-- an element: its number, and how many bytes it has (0: there is none) -/
def oneRL : List Int → Int × Nat
  | [] => (0, 0)
  | c :: r => if c ≠ 92 then (c, 1) else match r with
    | [] => (0, 0)
    | d :: q => if 0 < simR d then (simR d, 2)
      else if d = 120 then (if runB 16 q = 0 then (0, 0) else (minF 16 0 (q.take (runB 16 q)), 2 + runB 16 q))
      else if min 3 (runB 8 (d :: q)) = 0 then (0, 0) else (minF 8 0 ((d :: q).take (min 3 (runB 8 (d :: q)))), 1 + min 3 (runB 8 (d :: q)))

theorem runB_take (b : Int) : ∀ (L : List Int) (n : Nat), runB b (L.take n) = min n (runB b L)
  | [], n => by simp [runB]
  | c :: r, 0 => by simp [runB]
  | c :: r, n + 1 => by
    simp only [List.take_succ_cons, runB]
    split
    · rw [runB_take b r n]; omega
    · simp
theorem elemP_one {most : Int} (hm0 : 255 ≤ most) (hm : most < 1099511627776) : ∀ {L : List Int}, (∀ c ∈ L, 0 ≤ c ∧ c ≤ 255) → L ≠ [] →
    ((elemP most L).1 < 0 ↔ ((oneRL L).2 = 0 ∨ most < (oneRL L).1)) ∧ (¬ (elemP most L).1 < 0 → elemP most L = oneRL L)
  | [], _, h => absurd rfl h
  | c :: r, hc, _ => by
    have hc0 := hc c (List.mem_cons_self ..)
    by_cases h1 : c ≠ 92
    · simp only [elemP, oneRL, if_pos h1]
      exact ⟨⟨fun h => by omega, fun h => by omega⟩, fun _ => by trivial⟩
    · simp only [elemP, oneRL, if_neg h1]
      cases r with
      | nil => simp
      | cons d q =>
        have hs := simR_range d
        have hsp : 0 ≤ simP d ↔ 0 < simR d := by unfold simP; split <;> omega
        have hsp2 : 0 < simR d → simP d = simR d := fun h => by unfold simP; rw [if_neg (by omega)]
        simp only
        by_cases h2 : 0 < simR d
        · rw [if_pos h2, if_pos (hsp.2 h2), hsp2 h2]
          exact ⟨⟨fun h => by simp only at h; omega, fun h => by simp only at h; omega⟩, fun _ => rfl⟩
        · rw [if_neg h2, if_neg (fun h => h2 (hsp.1 h))]
          by_cases h3 : d = 120
          · rw [if_pos h3, if_pos h3]
            by_cases h4 : runB 16 q = 0
            · rw [if_pos h4, if_pos h4]; simp
            · rw [if_neg h4, if_neg h4, numF_min 16 most (by omega) hm _ 0 (by omega) (by omega)]
              have hge := minF_ge 16 (by omega) (q.take (runB 16 q)) 0 (by omega) (by omega)
              simp only
              by_cases h5 : most < minF 16 0 (q.take (runB 16 q))
              · rw [if_pos h5]
                exact ⟨⟨fun _ => .inr h5, fun _ => by omega⟩, fun h => by omega⟩
              · rw [if_neg h5]
                exact ⟨⟨fun h => by omega, fun h => by omega⟩, fun _ => rfl⟩
          · rw [if_neg h3, if_neg h3, runB_take]
            by_cases h4 : min 3 (runB 8 (d :: q)) = 0
            · rw [if_pos h4, if_pos h4]; simp
            · rw [if_neg h4, if_neg h4, numF_min 8 most (by omega) hm _ 0 (by omega) (by omega)]
              have hge := minF_ge 8 (by omega) ((d :: q).take (min 3 (runB 8 (d :: q)))) 0 (by omega) (by omega)
              simp only
              by_cases h5 : most < minF 8 0 ((d :: q).take (min 3 (runB 8 (d :: q))))
              · rw [if_pos h5]
                exact ⟨⟨fun _ => .inr h5, fun _ => by omega⟩, fun h => by omega⟩
              · rw [if_neg h5]
                exact ⟨⟨fun h => by omega, fun h => by omega⟩, fun _ => rfl⟩

set_option maxRecDepth 100000 in
theorem prefix_any (s : ByteArray) {k : Int} (h : (oneP s).1 = k) (hk : k = 3 ∨ k = 4) (w : World) (hs : s.size ≤ 9223372036854775807) :
    Calls Try.prog 121 #[.string s] w (PureP w fun v _ => v = .int .i64 (pfN s)) := by
  obtain ⟨q1, _, q3, _, q5⟩ := lit_at h hk
  have hq : qOf k = 39 ∨ qOf k = 34 := by unfold qOf; split <;> omega
  generalize pfN s = n at *
  refine x_fun tt_ok Try.func121 rfl rfl [] 0 [.v (.string s)] rfl rfl rfl rfl (fun b hb => by cases hb) ?_
  refine x_vc tt_ok ?_
  refine x_loop (σ := Nat) (fun i => ⟨[(3, .v (.int .i64 (i : Int))), (0, .v (.string s))], [], [], 0⟩)
    (fun i _ => i ≤ n) (fun i => n - i) (fun _ => Nat.le_refl _) 0 [] (.of rfl rfl rfl rfl rfl rfl) (Nat.zero_le _) ?_
  rintro i u hu g1
  refine x_vc tt_ok ?_
  repeat (refine And.intro ?_ ?_; first | omega | (simp only [Lay.d_n]; omega) | (simp only [decide_eq_true_eq, decide_eq_false_iff_not, Bool.or_eq_false_iff, Bool.and_eq_true, Bool.or_eq_true, Bool.and_eq_false_iff, Bool.not_eq_true', Bool.not_eq_false', Lay.d_n]; omega) | (simp only [decide_eq_true_eq, decide_eq_false_iff_not, Bool.or_eq_false_iff, Bool.and_eq_true, Bool.or_eq_true, Bool.and_eq_false_iff, Bool.not_eq_true', Bool.not_eq_false']; omega))
  refine x_if (fun h1 => ?_) (fun h1 => ?_)
  · have h1 : (decide (bt s i ≠ 39) && decide (bt s i ≠ 34)) = true := h1
    simp only [Bool.and_eq_true, decide_eq_true_eq] at h1
    have hlt : i < n := by
      rcases Nat.lt_or_ge i n with h2 | h2
      · exact h2
      · have : i = n := by omega
        subst this
        rw [q3] at h1; omega
    repeat (refine And.intro ?_ ?_; first | omega | (simp only [Lay.d_n]; omega) | (simp only [decide_eq_true_eq, decide_eq_false_iff_not, Bool.or_eq_false_iff, Bool.and_eq_true, Bool.or_eq_true, Bool.and_eq_false_iff, Bool.not_eq_true', Bool.not_eq_false', Lay.d_n]; omega) | (simp only [decide_eq_true_eq, decide_eq_false_iff_not, Bool.or_eq_false_iff, Bool.and_eq_true, Bool.or_eq_true, Bool.and_eq_false_iff, Bool.not_eq_true', Bool.not_eq_false']; omega))
    exact again (i + 1) [] (.of rfl rfl rfl rfl rfl rfl) hlt (by omega)
  · have h1 : (decide (bt s i ≠ 39) && decide (bt s i ≠ 34)) = false := h1
    have e : i = n := by
      rcases Nat.lt_or_ge i n with h2 | h2
      · obtain ⟨a1, a2⟩ := q5 i h2
        rw [decide_eq_true a1, decide_eq_true a2] at h1; cases h1
      · omega
    subst e
    exact fin1 (fun _ _ => rfl)
end Go.Proofs.Ytdonomneofdhfaa
