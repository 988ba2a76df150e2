/- C's constants: digits, and how many a text begins with. -/
import Derived.Test.YtdonomneofdhfaaE1
namespace Go.Proofs.Ytdonomneofdhfaa
open Go.GV Go.RowKit

/-- a digit's worth; 16: none -/
def dg (c : Int) : Int := if (decide (48 ≤ c) && decide (c ≤ 57)) = true then c - 48 else if (decide (97 ≤ c) && decide (c ≤ 102)) = true then c - 97 + 10 else if (decide (65 ≤ c) && decide (c ≤ 70)) = true then c - 65 + 10 else 16
def dgR (c : Int) : Int := if dg c = 16 then 99 else dg c
theorem dg_range (c : Int) : 0 ≤ dg c ∧ dg c ≤ 16 := by
  unfold dg
  simp only [Bool.and_eq_true, decide_eq_true_eq]
  (repeat' split) <;> omega
theorem dgR_lt (c : Int) {b : Int} (hb : b ≤ 16) : dgR c < b ↔ dg c < b := by
  have := dg_range c
  unfold dgR
  split <;> omega
theorem dgR_eq {c : Int} {b : Int} (hb : b ≤ 16) (h : dg c < b) : dgR c = dg c := by
  unfold dgR
  rw [if_neg (by omega)]

set_option maxRecDepth 100000 in
theorem dg_any (c : Int) (w : World) (h0 : 0 ≤ c) (h1 : c ≤ 255) : Calls Try.prog 143 #[.int .u8 c] w (PureP w fun v _ => v = .int .i64 (dg c)) := by
  obtain ⟨N, hN⟩ : ∃ N, N = dg c := ⟨_, rfl⟩
  rw [← hN]
  unfold dg at hN
  refine x_fun tt_ok Try.func143 rfl rfl [] 0 [.v (.int .u8 c)] rfl rfl rfl rfl (fun b hb => by cases hb) ?_
  refine x_vc tt_ok ?_
  refine x_if (fun h => ?_) (fun h => ?_)
  · have h : (decide (48 ≤ c) && decide (c ≤ 57)) = true := h
    rw [if_pos h] at hN
    simp only [Bool.and_eq_true, decide_eq_true_eq] at h
    repeat (refine And.intro ?_ ?_; first | omega | (simp only [Lay.d_n]; omega) | (simp only [decide_eq_true_eq, decide_eq_false_iff_not, Bool.or_eq_false_iff, Bool.and_eq_true, Bool.or_eq_true, Bool.and_eq_false_iff, Bool.not_eq_true', Bool.not_eq_false', Lay.d_n]; omega) | (simp only [decide_eq_true_eq, decide_eq_false_iff_not, Bool.or_eq_false_iff, Bool.and_eq_true, Bool.or_eq_true, Bool.and_eq_false_iff, Bool.not_eq_true', Bool.not_eq_false']; omega))
    rw [hN]
    exact fin1 (fun _ _ => rfl)
  · have h : (decide (48 ≤ c) && decide (c ≤ 57)) = false := h
    rw [if_neg (by rw [h]; simp)] at hN
    refine x_if (fun h => ?_) (fun h => ?_)
    · have h : (decide (97 ≤ c) && decide (c ≤ 102)) = true := h
      rw [if_pos h] at hN
      simp only [Bool.and_eq_true, decide_eq_true_eq] at h
      repeat (refine And.intro ?_ ?_; first | omega | (simp only [Lay.d_n]; omega) | (simp only [decide_eq_true_eq, decide_eq_false_iff_not, Bool.or_eq_false_iff, Bool.and_eq_true, Bool.or_eq_true, Bool.and_eq_false_iff, Bool.not_eq_true', Bool.not_eq_false', Lay.d_n]; omega) | (simp only [decide_eq_true_eq, decide_eq_false_iff_not, Bool.or_eq_false_iff, Bool.and_eq_true, Bool.or_eq_true, Bool.and_eq_false_iff, Bool.not_eq_true', Bool.not_eq_false']; omega))
      rw [hN]
      exact fin1 (fun _ _ => rfl)
    · have h : (decide (97 ≤ c) && decide (c ≤ 102)) = false := h
      rw [if_neg (by rw [h]; simp)] at hN
      refine x_if (fun h => ?_) (fun h => ?_)
      · have h : (decide (65 ≤ c) && decide (c ≤ 70)) = true := h
        rw [if_pos h] at hN
        simp only [Bool.and_eq_true, decide_eq_true_eq] at h
        repeat (refine And.intro ?_ ?_; first | omega | (simp only [Lay.d_n]; omega) | (simp only [decide_eq_true_eq, decide_eq_false_iff_not, Bool.or_eq_false_iff, Bool.and_eq_true, Bool.or_eq_true, Bool.and_eq_false_iff, Bool.not_eq_true', Bool.not_eq_false', Lay.d_n]; omega) | (simp only [decide_eq_true_eq, decide_eq_false_iff_not, Bool.or_eq_false_iff, Bool.and_eq_true, Bool.or_eq_true, Bool.and_eq_false_iff, Bool.not_eq_true', Bool.not_eq_false']; omega))
        rw [hN]
        exact fin1 (fun _ _ => rfl)
      · have h : (decide (65 ≤ c) && decide (c ≤ 70)) = false := h
        rw [if_neg (by rw [h]; simp)] at hN
        rw [hN]
        exact fin1 (fun _ _ => rfl)

theorem dgR_def (c : Int) : dgR c = if (decide (48 ≤ c) && decide (c ≤ 57)) = true then c - 48 else if (decide (97 ≤ c) && decide (c ≤ 102)) = true then c - 97 + 10 else if (decide (65 ≤ c) && decide (c ≤ 70)) = true then c - 65 + 10 else 99 := by
  unfold dgR dg
  simp only [Bool.and_eq_true, decide_eq_true_eq]
  by_cases h1 : 48 ≤ c ∧ c ≤ 57
  · simp only [if_pos h1]; rw [if_neg (by omega)]
  · simp only [if_neg h1]
    by_cases h2 : 97 ≤ c ∧ c ≤ 102
    · simp only [if_pos h2]; rw [if_neg (by omega)]
    · simp only [if_neg h2]
      by_cases h3 : 65 ≤ c ∧ c ≤ 70
      · simp only [if_pos h3]; rw [if_neg (by omega)]
      · simp only [if_neg h3, if_true]

set_option maxRecDepth 100000 in
theorem dgR_any (c : Int) (w : World) (h0 : 0 ≤ c) (h1 : c ≤ 255) : Calls Try.prog 117 #[.int .u8 c] w (PureP w fun v _ => v = .int .i64 (dgR c)) := by
  obtain ⟨N, hN⟩ : ∃ N, N = dgR c := ⟨_, rfl⟩
  rw [← hN]
  rw [dgR_def] at hN
  refine x_fun tt_ok Try.func117 rfl rfl [] 0 [.v (.int .u8 c)] rfl rfl rfl rfl (fun b hb => by cases hb) ?_
  refine x_vc tt_ok ?_
  refine x_if (fun h => ?_) (fun h => ?_)
  · have h : (decide (48 ≤ c) && decide (c ≤ 57)) = true := h
    rw [if_pos h] at hN
    simp only [Bool.and_eq_true, decide_eq_true_eq] at h
    repeat (refine And.intro ?_ ?_; first | omega | (simp only [Lay.d_n]; omega) | (simp only [decide_eq_true_eq, decide_eq_false_iff_not, Bool.or_eq_false_iff, Bool.and_eq_true, Bool.or_eq_true, Bool.and_eq_false_iff, Bool.not_eq_true', Bool.not_eq_false', Lay.d_n]; omega) | (simp only [decide_eq_true_eq, decide_eq_false_iff_not, Bool.or_eq_false_iff, Bool.and_eq_true, Bool.or_eq_true, Bool.and_eq_false_iff, Bool.not_eq_true', Bool.not_eq_false']; omega))
    rw [hN]
    exact fin1 (fun _ _ => rfl)
  · have h : (decide (48 ≤ c) && decide (c ≤ 57)) = false := h
    rw [if_neg (by rw [h]; simp)] at hN
    refine x_if (fun h => ?_) (fun h => ?_)
    · have h : (decide (97 ≤ c) && decide (c ≤ 102)) = true := h
      rw [if_pos h] at hN
      simp only [Bool.and_eq_true, decide_eq_true_eq] at h
      repeat (refine And.intro ?_ ?_; first | omega | (simp only [Lay.d_n]; omega) | (simp only [decide_eq_true_eq, decide_eq_false_iff_not, Bool.or_eq_false_iff, Bool.and_eq_true, Bool.or_eq_true, Bool.and_eq_false_iff, Bool.not_eq_true', Bool.not_eq_false', Lay.d_n]; omega) | (simp only [decide_eq_true_eq, decide_eq_false_iff_not, Bool.or_eq_false_iff, Bool.and_eq_true, Bool.or_eq_true, Bool.and_eq_false_iff, Bool.not_eq_true', Bool.not_eq_false']; omega))
      rw [hN]
      exact fin1 (fun _ _ => rfl)
    · have h : (decide (97 ≤ c) && decide (c ≤ 102)) = false := h
      rw [if_neg (by rw [h]; simp)] at hN
      refine x_if (fun h => ?_) (fun h => ?_)
      · have h : (decide (65 ≤ c) && decide (c ≤ 70)) = true := h
        rw [if_pos h] at hN
        simp only [Bool.and_eq_true, decide_eq_true_eq] at h
        repeat (refine And.intro ?_ ?_; first | omega | (simp only [Lay.d_n]; omega) | (simp only [decide_eq_true_eq, decide_eq_false_iff_not, Bool.or_eq_false_iff, Bool.and_eq_true, Bool.or_eq_true, Bool.and_eq_false_iff, Bool.not_eq_true', Bool.not_eq_false', Lay.d_n]; omega) | (simp only [decide_eq_true_eq, decide_eq_false_iff_not, Bool.or_eq_false_iff, Bool.and_eq_true, Bool.or_eq_true, Bool.and_eq_false_iff, Bool.not_eq_true', Bool.not_eq_false']; omega))
        rw [hN]
        exact fin1 (fun _ _ => rfl)
      · have h : (decide (65 ≤ c) && decide (c ≤ 70)) = false := h
        rw [if_neg (by rw [h]; simp)] at hN
        rw [hN]
        exact fin1 (fun _ _ => rfl)

/-- how many digits of a base stand ahead -/
def runB (b : Int) : List Int → Nat
  | [] => 0
  | c :: r => if dg c < b then runB b r + 1 else 0
theorem runB_le (b : Int) : ∀ l : List Int, runB b l ≤ l.length
  | [] => Nat.le_refl 0
  | c :: r => by
    have := runB_le b r
    simp only [runB]
    split
    · simp only [List.length_cons]; omega
    · omega

def hexT (s : ByteArray) : Bool := (decide (2 ≤ (s.size : Int)) && decide (bt s 0 = 48)) && (decide (bt s 1 = 120) || decide (bt s 1 = 88))
theorem hexT_size {s : ByteArray} (h : hexT s = true) : 2 ≤ s.size := by
  unfold hexT at h
  simp only [Bool.and_eq_true, decide_eq_true_eq] at h
  have := h.1.1
  omega

set_option maxRecDepth 100000 in
theorem hexed_any (s : ByteArray) (w : World) (hs : s.size ≤ 9223372036854775807) : Calls Try.prog 108 #[.string s] w (PureP w fun v _ => v = .bool (hexT s)) := by
  refine x_fun tt_ok Try.func108 rfl rfl [] 0 [.v (.string s)] rfl rfl rfl rfl (fun b hb => by cases hb) ?_
  refine x_vc tt_ok ?_
  repeat (refine And.intro ?_ ?_; first | omega | (simp only [Lay.d_n]; omega) | (simp only [decide_eq_true_eq, decide_eq_false_iff_not, Bool.or_eq_false_iff, Bool.and_eq_true, Bool.or_eq_true, Bool.and_eq_false_iff, Bool.not_eq_true', Bool.not_eq_false', Lay.d_n]; omega) | (simp only [decide_eq_true_eq, decide_eq_false_iff_not, Bool.or_eq_false_iff, Bool.and_eq_true, Bool.or_eq_true, Bool.and_eq_false_iff, Bool.not_eq_true', Bool.not_eq_false']; omega))
  exact fin1 (fun _ _ => rfl)

set_option maxRecDepth 100000 in
theorem hex_any (s : ByteArray) (w : World) (hs : s.size ≤ 9223372036854775807) : Calls Try.prog 114 #[.string s] w (PureP w fun v _ => v = .bool (hexT s)) := by
  refine x_fun tt_ok Try.func114 rfl rfl [] 0 [.v (.string s)] rfl rfl rfl rfl (fun b hb => by cases hb) ?_
  refine x_vc tt_ok ?_
  repeat (refine And.intro ?_ ?_; first | omega | (simp only [Lay.d_n]; omega) | (simp only [decide_eq_true_eq, decide_eq_false_iff_not, Bool.or_eq_false_iff, Bool.and_eq_true, Bool.or_eq_true, Bool.and_eq_false_iff, Bool.not_eq_true', Bool.not_eq_false', Lay.d_n]; omega) | (simp only [decide_eq_true_eq, decide_eq_false_iff_not, Bool.or_eq_false_iff, Bool.and_eq_true, Bool.or_eq_true, Bool.and_eq_false_iff, Bool.not_eq_true', Bool.not_eq_false']; omega))
  refine fin1 (fun _ _ => ?_)
  unfold hexT
  rw [decide_eq_decide.2 (show (2 : Int) ≤ (s.size : Int) ↔ (1 : Int) < (s.size : Int) by omega)]
  rfl
end Go.Proofs.Ytdonomneofdhfaa
