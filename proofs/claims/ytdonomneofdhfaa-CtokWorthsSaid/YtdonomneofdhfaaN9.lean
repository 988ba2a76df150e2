/- A floating constant: the document's answer. -/
import Derived.Test.YtdonomneofdhfaaN8
namespace Go.Proofs.Ytdonomneofdhfaa
open Go.GV Go.RowKit

theorem tl_drop (s : ByteArray) {i : Int} (h : 0 ≤ i) (k : Nat) : (tl s i).drop k = tl s (i + k) := by
  unfold tl
  rw [List.drop_drop, show (i + (k : Int)).toNat = i.toNat + k by omega]
theorem sgnL_le (L : List Int) : sgnL L ≤ L.length := by
  cases L with
  | nil => exact Nat.le_refl 0
  | cons d q => simp only [sgnL, List.length_cons]; split <;> omega
theorem sgnL_tl (s : ByteArray) {i : Int} (h0 : 0 ≤ i) : sgnL (tl s i) = if (decide (i < (s.size : Int)) && (decide (bt s i = 43) || decide (bt s i = 45))) = true then 1 else 0 := by
  by_cases h1 : i < (s.size : Int)
  · rw [tl_cons h0 h1, decide_eq_true h1, Bool.true_and]; rfl
  · rw [tl_nil (by omega), decide_eq_false h1, Bool.false_and]; rfl

set_option maxRecDepth 100000 in
theorem ends_any (s : ByteArray) (i m g : Int) (may : Bool) (hg : g = m - 32) (h0 : 0 ≤ i) (h1 : i ≤ s.size) (w : World) (hs : s.size ≤ 140737488355328) :
    Calls Try.prog 126 #[.string s, .int .i64 i, .int .u8 m, .int .u8 g, .bool may] w (PureP w fun v _ => v = .bool (endsL m may (tl s i))) := by
  subst hg
  obtain ⟨N, hN⟩ : ∃ N, N = endsL m may (tl s i) := ⟨_, rfl⟩
  rw [← hN]
  refine x_fun tt_ok Try.func126 rfl rfl [] 0 [.v (.string s), .v (.int .i64 i), .v (.int .u8 m), .v (.int .u8 (m - 32)), .v (.bool may)] rfl rfl rfl rfl (fun b hb => by cases hb) ?_
  refine x_seq ?_
  refine x_vc tt_ok ?_
  refine x_cut (σ := Int) (fun j => ⟨[(1, .v (.int .i64 j)), (0, .v (.string s))], [], [], 0⟩) (fun j _ => 0 ≤ j ∧ j ≤ s.size ∧ N = fsufL (tl s j)) (fun _ => Nat.le_refl _) ?_ ?_
  · refine x_vc tt_ok ?_
    repeat (refine And.intro ?_ ?_; first | omega | (simp only [Lay.d_n]; omega) | (simp only [decide_eq_true_eq, decide_eq_false_iff_not, Bool.or_eq_false_iff, Bool.and_eq_true, Bool.or_eq_true, Bool.and_eq_false_iff, Bool.not_eq_true', Bool.not_eq_false', Lay.d_n]; omega) | (simp only [decide_eq_true_eq, decide_eq_false_iff_not, Bool.or_eq_false_iff, Bool.and_eq_true, Bool.or_eq_true, Bool.and_eq_false_iff, Bool.not_eq_true', Bool.not_eq_false']; omega))
    refine x_if (fun h => ?_) (fun h => ?_)
    · have h : (decide (i < (s.size : Int)) && (decide (bt s i = m) || decide (bt s i = m - 32))) = true := h
      obtain ⟨h2, h3⟩ := Bool.and_eq_true_iff.1 h
      have h2 := of_decide_eq_true h2
      have hE : expL m (tl s i) = (1 + sgnL (tl s (i + 1)) + runB 10 (tl s (i + 1 + sgnL (tl s (i + 1)))), decide (0 < runB 10 (tl s (i + 1 + sgnL (tl s (i + 1)))))) := by
        rw [tl_cons h0 h2, expL, if_pos h3, tl_drop s (by omega)]
      have hsg := sgnL_tl s (i := i + 1) (by omega)
      have hsl := sgnL_le (tl s (i + 1))
      rw [tl_len] at hsl
      unfold endsL at hN
      rw [hE, tl_drop s h0] at hN
      repeat (refine And.intro ?_ ?_; first | omega | (simp only [Lay.d_n]; omega) | (simp only [decide_eq_true_eq, decide_eq_false_iff_not, Bool.or_eq_false_iff, Bool.and_eq_true, Bool.or_eq_true, Bool.and_eq_false_iff, Bool.not_eq_true', Bool.not_eq_false', Lay.d_n]; omega) | (simp only [decide_eq_true_eq, decide_eq_false_iff_not, Bool.or_eq_false_iff, Bool.and_eq_true, Bool.or_eq_true, Bool.and_eq_false_iff, Bool.not_eq_true', Bool.not_eq_false']; omega))
      refine x_if (fun h4 => ?_) (fun h4 => ?_)
      · have h4 : (decide (i + 1 < (s.size : Int)) && (decide (bt s (i + 1) = 43) || decide (bt s (i + 1) = 45))) = true := h4
        rw [if_pos h4] at hsg
        rw [hsg] at hN hsl
        simp only [Bool.and_eq_true, decide_eq_true_eq] at h4
        rw [show i + 1 + ((1 : Nat) : Int) = i + 1 + 1 by omega] at hN
        have hn : ∀ n : Nat, runB 10 (tl s (i + 1 + 1)) = n → (n = 0 → N = false) ∧ (n ≠ 0 → N = fsufL (tl s (i + 1 + 1 + n))) := fun n hn => by
          rw [hn] at hN
          refine ⟨fun hz => ?_, fun hz => ?_⟩
          · rw [hN, hz]; rfl
          · rw [if_neg (by simp; omega)] at hN
            rw [hN]
            congr 2
            omega
        have hrl := runB_le 10 (tl s (i + 1 + 1))
        rw [tl_len] at hrl
        repeat (refine And.intro ?_ ?_; first | omega | (simp only [Lay.d_n]; omega) | (simp only [decide_eq_true_eq, decide_eq_false_iff_not, Bool.or_eq_false_iff, Bool.and_eq_true, Bool.or_eq_true, Bool.and_eq_false_iff, Bool.not_eq_true', Bool.not_eq_false', Lay.d_n]; omega) | (simp only [decide_eq_true_eq, decide_eq_false_iff_not, Bool.or_eq_false_iff, Bool.and_eq_true, Bool.or_eq_true, Bool.and_eq_false_iff, Bool.not_eq_true', Bool.not_eq_false']; omega))
        refine xl_call0 (.int .i64 (runB 10 (tl s (i + 1 + 1)))) rfl rfl rfl rfl fn115 rfl rfl (fun E w F _ => runR_any s (i + 1 + 1) 10 w (by omega) (by omega) (by omega)) ?_
        refine xl_go tt_ok ?_
        obtain ⟨hn1, hn2⟩ := hn _ rfl
        generalize runB 10 (tl s (i + 1 + 1)) = n at hn1 hn2 hrl ⊢
        refine x_if (fun h5 => ?_) (fun h5 => ?_)
        · have h5 : (n : Int) = 0 := of_decide_eq_true h5
          rw [hn1 (by omega)]
          exact fin1 (fun _ _ => rfl)
        · have h5 : ¬ (n : Int) = 0 := of_decide_eq_false h5
          repeat (refine And.intro ?_ ?_; first | omega | (simp only [Lay.d_n]; omega) | (simp only [decide_eq_true_eq, decide_eq_false_iff_not, Bool.or_eq_false_iff, Bool.and_eq_true, Bool.or_eq_true, Bool.and_eq_false_iff, Bool.not_eq_true', Bool.not_eq_false', Lay.d_n]; omega) | (simp only [decide_eq_true_eq, decide_eq_false_iff_not, Bool.or_eq_false_iff, Bool.and_eq_true, Bool.or_eq_true, Bool.and_eq_false_iff, Bool.not_eq_true', Bool.not_eq_false']; omega))
          exact meet (i + 1 + 1 + n) [] (.of rfl rfl rfl rfl rfl rfl) ⟨by omega, by omega, hn2 (by omega)⟩
      · have h4 : (decide (i + 1 < (s.size : Int)) && (decide (bt s (i + 1) = 43) || decide (bt s (i + 1) = 45))) = false := h4
        rw [if_neg (by rw [h4]; simp)] at hsg
        rw [hsg] at hN hsl
        rw [show i + 1 + ((0 : Nat) : Int) = i + 1 by omega] at hN
        have hn : ∀ n : Nat, runB 10 (tl s (i + 1)) = n → (n = 0 → N = false) ∧ (n ≠ 0 → N = fsufL (tl s (i + 1 + n))) := fun n hn => by
          rw [hn] at hN
          refine ⟨fun hz => ?_, fun hz => ?_⟩
          · rw [hN, hz]; rfl
          · rw [if_neg (by simp; omega)] at hN
            rw [hN]
            congr 2
            omega
        have hrl := runB_le 10 (tl s (i + 1))
        rw [tl_len] at hrl
        repeat (refine And.intro ?_ ?_; first | omega | (simp only [Lay.d_n]; omega) | (simp only [decide_eq_true_eq, decide_eq_false_iff_not, Bool.or_eq_false_iff, Bool.and_eq_true, Bool.or_eq_true, Bool.and_eq_false_iff, Bool.not_eq_true', Bool.not_eq_false', Lay.d_n]; omega) | (simp only [decide_eq_true_eq, decide_eq_false_iff_not, Bool.or_eq_false_iff, Bool.and_eq_true, Bool.or_eq_true, Bool.and_eq_false_iff, Bool.not_eq_true', Bool.not_eq_false']; omega))
        refine xl_call0 (.int .i64 (runB 10 (tl s (i + 1)))) rfl rfl rfl rfl fn115 rfl rfl (fun E w F _ => runR_any s (i + 1) 10 w (by omega) (by omega) (by omega)) ?_
        refine xl_go tt_ok ?_
        obtain ⟨hn1, hn2⟩ := hn _ rfl
        generalize runB 10 (tl s (i + 1)) = n at hn1 hn2 hrl ⊢
        refine x_if (fun h5 => ?_) (fun h5 => ?_)
        · have h5 : (n : Int) = 0 := of_decide_eq_true h5
          rw [hn1 (by omega)]
          exact fin1 (fun _ _ => rfl)
        · have h5 : ¬ (n : Int) = 0 := of_decide_eq_false h5
          repeat (refine And.intro ?_ ?_; first | omega | (simp only [Lay.d_n]; omega) | (simp only [decide_eq_true_eq, decide_eq_false_iff_not, Bool.or_eq_false_iff, Bool.and_eq_true, Bool.or_eq_true, Bool.and_eq_false_iff, Bool.not_eq_true', Bool.not_eq_false', Lay.d_n]; omega) | (simp only [decide_eq_true_eq, decide_eq_false_iff_not, Bool.or_eq_false_iff, Bool.and_eq_true, Bool.or_eq_true, Bool.and_eq_false_iff, Bool.not_eq_true', Bool.not_eq_false']; omega))
          exact meet (i + 1 + n) [] (.of rfl rfl rfl rfl rfl rfl) ⟨by omega, by omega, hn2 (by omega)⟩
    · have h : (decide (i < (s.size : Int)) && (decide (bt s i = m) || decide (bt s i = m - 32))) = false := h
      have hE : expL m (tl s i) = (0, true) := by
        by_cases h2 : i < (s.size : Int)
        · rw [decide_eq_true h2, Bool.true_and] at h
          rw [tl_cons h0 h2, expL, if_neg (by rw [h]; simp)]
        · rw [tl_nil (by omega)]; rfl
      unfold endsL at hN
      rw [hE] at hN
      refine x_if (fun h3 => ?_) (fun h3 => ?_)
      · have h3 : (!may) = true := h3
        rw [h3] at hN
        rw [hN]
        exact fin1 (fun _ _ => rfl)
      · have h3 : (!may) = false := h3
        rw [h3] at hN
        exact meet i [] (.of rfl rfl rfl rfl rfl rfl) ⟨h0, h1, hN⟩
  · rintro j u1 hu1 ⟨g0, g1, g2⟩
    refine x_vc tt_ok ?_
    repeat (refine And.intro ?_ ?_; first | omega | (simp only [Lay.d_n]; omega) | (simp only [decide_eq_true_eq, decide_eq_false_iff_not, Bool.or_eq_false_iff, Bool.and_eq_true, Bool.or_eq_true, Bool.and_eq_false_iff, Bool.not_eq_true', Bool.not_eq_false', Lay.d_n]; omega) | (simp only [decide_eq_true_eq, decide_eq_false_iff_not, Bool.or_eq_false_iff, Bool.and_eq_true, Bool.or_eq_true, Bool.and_eq_false_iff, Bool.not_eq_true', Bool.not_eq_false']; omega))
    refine fin1 (fun _ _ => ?_)
    show Value.bool ((((decide (sub s j s.size = ⟨#[]⟩) || decide (sub s j s.size = ⟨#[102]⟩)) || decide (sub s j s.size = ⟨#[70]⟩)) || decide (sub s j s.size = ⟨#[108]⟩)) || decide (sub s j s.size = ⟨#[76]⟩)) = _
    rw [g2, bl_eq, bl_eq, bl_eq, bl_eq, bl_eq, bl_rest s g0 g1, Bool.or_assoc, Bool.or_assoc, Bool.or_assoc]
    rfl
end Go.Proofs.Ytdonomneofdhfaa
