/- CtokBack: numbers that are written, and read. -/
import Derived.Test.YtdonomneofdhfaaN28
namespace Go.Proofs.Ytdonomneofdhfaa
open Go.GV Go.RowKit

def hexD : ByteArray := ⟨#[48, 49, 50, 51, 52, 53, 54, 55, 56, 57, 97, 98, 99, 100, 101, 102]⟩
def hexS (d : Nat) : ByteArray := sub hexD (d : Int) ((d : Int) + 1)
def wrB : Nat → Nat → Nat → ByteArray
  | 0, _, _ => ⟨#[]⟩
  | f + 1, n, b => if n < b then hexS n else wrB f (n / b) b ++ hexS (n % b)
theorem hexS_size {d : Nat} (h : d < 16) : (hexS d).size = 1 := by
  have := sub_size (s := hexD) (a := (d : Int)) (b := (d : Int) + 1) (by omega) (by omega) (by show (d : Int) + 1 ≤ 16; omega)
  unfold hexS; omega
theorem wrB_size (b : Nat) (hb : 2 ≤ b) (hb2 : b ≤ 16) : ∀ f n, (wrB f n b).size ≤ f
  | 0, n => Nat.le_refl 0
  | f + 1, n => by
    simp only [wrB]
    split
    · rw [hexS_size (by omega)]; omega
    · have := wrB_size b hb hb2 f (n / b)
      have h1 : n % b < b := Nat.mod_lt _ (by omega)
      rw [ByteArray.size_append, hexS_size (by omega)]; omega

set_option maxRecDepth 100000 in
theorem written_any (b : Nat) (hb : 2 ≤ b) (hb2 : b ≤ 16) : ∀ (f n : Nat), n < 2 ^ f → n < 18446744073709551616 → f ≤ 1000 → ∀ w : World, Calls Try.prog 70 #[.int .u64 (n : Int), .int .u64 (b : Int)] w (PureP w fun v _ => v = .string (wrB (f + 1) n b)) := by
  intro f
  induction f with
  | zero =>
    intro n hn hn2 _ w
    have h0 : n = 0 := by simp at hn; exact hn
    subst h0
    have e : wrB (0 + 1) 0 b = hexS 0 := by simp only [wrB]; rw [if_pos (by omega)]
    rw [e]
    refine x_fun tt_ok Try.func70 rfl rfl [] 0 [.v (.int .u64 ((0 : Nat) : Int)), .v (.int .u64 (b : Int))] rfl rfl rfl rfl (fun b hb => by cases hb) ?_
    refine x_vc tt_ok ?_
    refine x_if (fun h => ?_) (fun h => ?_)
    · repeat (refine And.intro ?_ ?_; first | omega | (simp only [Lay.d_n]; omega) | (simp only [decide_eq_true_eq, decide_eq_false_iff_not, Bool.or_eq_false_iff, Bool.and_eq_true, Bool.or_eq_true, Bool.and_eq_false_iff, Bool.not_eq_true', Bool.not_eq_false', Lay.d_n]; omega) | (simp only [decide_eq_true_eq, decide_eq_false_iff_not, Bool.or_eq_false_iff, Bool.and_eq_true, Bool.or_eq_true, Bool.and_eq_false_iff, Bool.not_eq_true', Bool.not_eq_false']; omega))
      refine And.intro (show ((0 : Nat) : Int) + 1 ≤ ((16 : Nat) : Int) by omega) ?_
      exact fin1 (fun _ _ => rfl)
    · have h : ¬ ((0 : Nat) : Int) < (b : Int) := of_decide_eq_false h
      omega
  | succ f ih =>
    intro n hn hn2 hf w
    refine x_fun tt_ok Try.func70 rfl rfl [] 0 [.v (.int .u64 (n : Int)), .v (.int .u64 (b : Int))] rfl rfl rfl rfl (fun b hb => by cases hb) ?_
    refine x_vc tt_ok ?_
    refine x_if (fun h => ?_) (fun h => ?_)
    · have h : (n : Int) < (b : Int) := of_decide_eq_true h
      have e : wrB (f + 1 + 1) n b = hexS n := by simp only [wrB]; rw [if_pos (by omega)]
      rw [e]
      repeat (refine And.intro ?_ ?_; first | omega | (simp only [Lay.d_n]; omega) | (simp only [decide_eq_true_eq, decide_eq_false_iff_not, Bool.or_eq_false_iff, Bool.and_eq_true, Bool.or_eq_true, Bool.and_eq_false_iff, Bool.not_eq_true', Bool.not_eq_false', Lay.d_n]; omega) | (simp only [decide_eq_true_eq, decide_eq_false_iff_not, Bool.or_eq_false_iff, Bool.and_eq_true, Bool.or_eq_true, Bool.and_eq_false_iff, Bool.not_eq_true', Bool.not_eq_false']; omega))
      refine And.intro (show (n : Int) + 1 ≤ ((16 : Nat) : Int) by omega) ?_
      exact fin1 (fun _ _ => rfl)
    · have h : ¬ (n : Int) < (b : Int) := of_decide_eq_false h
      have e : wrB (f + 1 + 1) n b = wrB (f + 1) (n / b) b ++ hexS (n % b) := by rw [wrB]; rw [if_neg (by omega)]
      rw [e]
      repeat (refine And.intro ?_ ?_; first | omega | (simp only [Lay.d_n]; omega) | (simp only [decide_eq_true_eq, decide_eq_false_iff_not, Bool.or_eq_false_iff, Bool.and_eq_true, Bool.or_eq_true, Bool.and_eq_false_iff, Bool.not_eq_true', Bool.not_eq_false', Lay.d_n]; omega) | (simp only [decide_eq_true_eq, decide_eq_false_iff_not, Bool.or_eq_false_iff, Bool.and_eq_true, Bool.or_eq_true, Bool.and_eq_false_iff, Bool.not_eq_true', Bool.not_eq_false']; omega))
      have hmod : n % b < b := Nat.mod_lt _ (by omega)
      have hdiv : n / b < 2 ^ f := by
        rw [Nat.div_lt_iff_lt_mul (by omega)]
        have : 2 ^ (f + 1) ≤ 2 ^ f * b := by rw [Nat.pow_succ]; exact Nat.mul_le_mul_left _ hb
        omega
      have hdl : n / b ≤ n := Nat.div_le_self _ _
      have hsz := wrB_size b hb hb2 (f + 1) (n / b)
      have hsx := hexS_size (d := n % b) (by omega)
      rw [show (n : Int) % (b : Int) = ((n % b : Nat) : Int) from (Int.natCast_emod n b).symm]
      refine x_draw mix (by kernel_rfl) (xd_go tt_ok ?_)
      have hq : (n : Int) / (b : Int) = ((n / b : Nat) : Int) := (Int.natCast_ediv n b).symm
      have hq0 : 0 ≤ (n : Int) / (b : Int) := Int.ediv_nonneg (by omega) (by omega)
      have hq1 : (n : Int) / (b : Int) ≤ n := Int.ediv_le_self _ (by omega)
      repeat (refine And.intro ?_ ?_; first | omega | (simp only [Lay.d_n]; omega) | (simp only [decide_eq_true_eq, decide_eq_false_iff_not, Bool.or_eq_false_iff, Bool.and_eq_true, Bool.or_eq_true, Bool.and_eq_false_iff, Bool.not_eq_true', Bool.not_eq_false', Lay.d_n]; omega) | (simp only [decide_eq_true_eq, decide_eq_false_iff_not, Bool.or_eq_false_iff, Bool.and_eq_true, Bool.or_eq_true, Bool.and_eq_false_iff, Bool.not_eq_true', Bool.not_eq_false']; omega))
      refine xd_call0 (.string (wrB (f + 1) (n / b) b)) rfl rfl rfl rfl fn70 rfl rfl (fun _ E w F _ => by
        have := ih (n / b) hdiv (by omega) (by omega) w
        rw [← hq] at this
        exact this) ?_
      refine xd_go tt_ok ?_
      repeat (refine And.intro ?_ ?_; first | omega | (simp only [Lay.d_n]; omega) | (simp only [decide_eq_true_eq, decide_eq_false_iff_not, Bool.or_eq_false_iff, Bool.and_eq_true, Bool.or_eq_true, Bool.and_eq_false_iff, Bool.not_eq_true', Bool.not_eq_false', Lay.d_n]; omega) | (simp only [decide_eq_true_eq, decide_eq_false_iff_not, Bool.or_eq_false_iff, Bool.and_eq_true, Bool.or_eq_true, Bool.and_eq_false_iff, Bool.not_eq_true', Bool.not_eq_false']; omega))
      refine And.intro (show ((n % b : Nat) : Int) + 1 ≤ ((16 : Nat) : Int) by omega) ?_
      refine And.intro (show (wrB (f + 1) (n / b) b).size + (hexS (n % b)).size ≤ 9223372036854775807 by omega) ?_
      exact fin1 (fun _ _ => rfl)
end Go.Proofs.Ytdonomneofdhfaa
