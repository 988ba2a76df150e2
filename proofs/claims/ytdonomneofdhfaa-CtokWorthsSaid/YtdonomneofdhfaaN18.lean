/- The elements of constants and strings: the document's answer, second part. -/
import Derived.Test.YtdonomneofdhfaaN17
namespace Go.Proofs.Ytdonomneofdhfaa
open Go.GV Go.RowKit

theorem tl_take_get (s : ByteArray) {i : Int} {n : Nat} (h0 : 0 ≤ i) (h1 : i + n ≤ s.size) : ∀ k : Nat, k < n → ((tl s i).take n)[k]? = some (bt s (i + k)) := fun k hk => by
  rw [List.getElem?_take_of_lt hk]
  unfold tl
  rw [List.getElem?_drop, show i + (k : Int) = ((i.toNat + k : Nat) : Int) by omega]
  exact bl_get s (by omega)
theorem minF_up (b : Int) (hb : 0 ≤ b) : ∀ (L : List Int) (v : Int), 0 ≤ v → v ≤ 1099511627776 → 0 ≤ minF b v L ∧ minF b v L ≤ 1099511627776
  | [], v, h0, h1 => ⟨h0, h1⟩
  | c :: r, v, h0, h1 => by
    have := dg_range c
    have h2 : 0 ≤ v * b := Int.mul_nonneg h0 hb
    simp only [minF]
    split
    · exact minF_up b hb r _ (by omega) (by omega)
    · exact minF_up b hb r _ (by omega) (by omega)

set_option maxRecDepth 100000 in
theorem one147_any (s : ByteArray) (i : Int) (h0 : 0 ≤ i) (h1 : i < s.size) (w : World) (hs : s.size ≤ 140737488355328) :
    Calls Try.prog 147 #[.string s, .int .i64 i] w (PureP w fun v _ => v = .tuple #[.int .i64 (oneRL (tl s i)).1, .int .i64 (oneRL (tl s i)).2]) := by
  obtain ⟨N, hN⟩ : ∃ N, N = oneRL (tl s i) := ⟨_, rfl⟩
  rw [← hN]
  have hbt := bt_range s i
  rw [tl_cons h0 h1] at hN
  simp only [oneRL] at hN
  refine x_fun tt_ok Try.func147 rfl rfl [] 0 [.v (.string s), .v (.int .i64 i)] rfl rfl rfl rfl (fun b hb => by cases hb) ?_
  refine x_seq ?_
  refine x_vc tt_ok ?_
  refine x_seq ?_
  refine x_vc tt_ok ?_
  repeat (refine And.intro ?_ ?_; first | omega | (simp only [Lay.d_n]; omega) | (simp only [decide_eq_true_eq, decide_eq_false_iff_not, Bool.or_eq_false_iff, Bool.and_eq_true, Bool.or_eq_true, Bool.and_eq_false_iff, Bool.not_eq_true', Bool.not_eq_false', Lay.d_n]; omega) | (simp only [decide_eq_true_eq, decide_eq_false_iff_not, Bool.or_eq_false_iff, Bool.and_eq_true, Bool.or_eq_true, Bool.and_eq_false_iff, Bool.not_eq_true', Bool.not_eq_false']; omega))
  refine x_if (fun h => ?_) (fun h => ?_)
  · have h : bt s i ≠ 92 := of_decide_eq_true h
    rw [if_pos h] at hN
    repeat (refine And.intro ?_ ?_; first | omega | (simp only [Lay.d_n]; omega) | (simp only [decide_eq_true_eq, decide_eq_false_iff_not, Bool.or_eq_false_iff, Bool.and_eq_true, Bool.or_eq_true, Bool.and_eq_false_iff, Bool.not_eq_true', Bool.not_eq_false', Lay.d_n]; omega) | (simp only [decide_eq_true_eq, decide_eq_false_iff_not, Bool.or_eq_false_iff, Bool.and_eq_true, Bool.or_eq_true, Bool.and_eq_false_iff, Bool.not_eq_true', Bool.not_eq_false']; omega))
    rw [hN]
    exact fin1 (fun _ _ => rfl)
  · have h : ¬ bt s i ≠ 92 := of_decide_eq_false h
    rw [if_neg h] at hN
    refine x_seq ?_
    refine x_vc tt_ok ?_
    repeat (refine And.intro ?_ ?_; first | omega | (simp only [Lay.d_n]; omega) | (simp only [decide_eq_true_eq, decide_eq_false_iff_not, Bool.or_eq_false_iff, Bool.and_eq_true, Bool.or_eq_true, Bool.and_eq_false_iff, Bool.not_eq_true', Bool.not_eq_false', Lay.d_n]; omega) | (simp only [decide_eq_true_eq, decide_eq_false_iff_not, Bool.or_eq_false_iff, Bool.and_eq_true, Bool.or_eq_true, Bool.and_eq_false_iff, Bool.not_eq_true', Bool.not_eq_false']; omega))
    refine x_if (fun h => ?_) (fun h => ?_)
    · have h : i + 1 = s.size := of_decide_eq_true h
      rw [tl_nil (by omega)] at hN
      rw [hN]
      exact fin1 (fun _ _ => rfl)
    · have h : ¬ i + 1 = s.size := of_decide_eq_false h
      have hbt1 := bt_range s (i + 1)
      rw [tl_cons (by omega) (by omega)] at hN
      simp only at hN
      have hsr := simR_range (bt s (i + 1))
      refine x_seq ?_
      refine x_vc tt_ok ?_
      repeat (refine And.intro ?_ ?_; first | omega | (simp only [Lay.d_n]; omega) | (simp only [decide_eq_true_eq, decide_eq_false_iff_not, Bool.or_eq_false_iff, Bool.and_eq_true, Bool.or_eq_true, Bool.and_eq_false_iff, Bool.not_eq_true', Bool.not_eq_false', Lay.d_n]; omega) | (simp only [decide_eq_true_eq, decide_eq_false_iff_not, Bool.or_eq_false_iff, Bool.and_eq_true, Bool.or_eq_true, Bool.and_eq_false_iff, Bool.not_eq_true', Bool.not_eq_false']; omega))
      refine xl_call0 (.int .i64 (simR (bt s (i + 1)))) rfl rfl rfl rfl fn162 rfl rfl (fun E w F _ => simpleR_any _ w) ?_
      refine xl_go tt_ok ?_
      refine x_seq ?_
      refine x_vc tt_ok ?_
      refine x_if (fun h1 => ?_) (fun h1 => ?_)
      · have h1 : 0 < simR (bt s (i + 1)) := of_decide_eq_true h1
        rw [if_pos h1] at hN
        rw [hN]
        exact fin1 (fun _ _ => rfl)
      · have h1 : ¬ 0 < simR (bt s (i + 1)) := of_decide_eq_false h1
        rw [if_neg h1] at hN
        have hs0 : simR (bt s (i + 1)) = 0 := by omega
        rw [hs0]
        iterate 2
          refine x_seq ?_
          refine x_vc tt_ok ?_
        repeat (refine And.intro ?_ ?_; first | omega | (simp only [Lay.d_n]; omega) | (simp only [decide_eq_true_eq, decide_eq_false_iff_not, Bool.or_eq_false_iff, Bool.and_eq_true, Bool.or_eq_true, Bool.and_eq_false_iff, Bool.not_eq_true', Bool.not_eq_false', Lay.d_n]; omega) | (simp only [decide_eq_true_eq, decide_eq_false_iff_not, Bool.or_eq_false_iff, Bool.and_eq_true, Bool.or_eq_true, Bool.and_eq_false_iff, Bool.not_eq_true', Bool.not_eq_false']; omega))
        refine x_seq ?_
        refine x_vc tt_ok ?_
        refine xl_call0 (.int .i64 (runB 8 (tl s (i + 1)))) rfl rfl rfl rfl fn115 rfl rfl (fun E w F _ => runR_any s (i + 1) 8 w (by omega) (by omega) (by omega)) ?_
        refine xl_go tt_ok ?_
        refine xl_min rfl rfl rfl rfl rfl rfl ?_
        refine xl_go tt_ok ?_
        have hm3 : (if ((runB 8 (tl s (i + 1)) : Nat) : Int) < 3 then ((runB 8 (tl s (i + 1)) : Nat) : Int) else 3) = ((min 3 (runB 8 (tl s (i + 1))) : Nat) : Int) := by split <;> omega
        have htl1 : bt s (i + 1) :: tl s (i + 1 + 1) = tl s (i + 1) := (tl_cons (by omega) (by omega)).symm
        rw [htl1] at hN
        have hr8 := runB_le 8 (tl s (i + 1))
        rw [tl_len] at hr8
        have hr16 := runB_le 16 (tl s (i + 1 + 1))
        rw [tl_len] at hr16
        refine x_cut (σ := Int × Int × Int) (fun (b, fr, n) => ⟨[(9, .v (.int .i64 n)), (8, .v (.int .i64 fr)), (7, .v (.int .i64 b)), (6, .v (.int .i64 0)), (1, .v (.int .i64 i)), (0, .v (.string s))], [], [], 0⟩)
          (fun (b, fr, n) _ => (b = 8 ∨ b = 16) ∧ i < fr ∧ 0 ≤ n ∧ fr + n ≤ s.size ∧ (∀ c ∈ (tl s fr).take n.toNat, dg c < b) ∧ N = if n = 0 then (0, 0) else (minF b 0 ((tl s fr).take n.toNat), (fr - i + n).toNat)) (fun (_, _, _) => Nat.le_refl _) ?_ ?_
        · refine x_vc tt_ok ?_
          repeat (refine And.intro ?_ ?_; first | omega | (simp only [Lay.d_n]; omega) | (simp only [decide_eq_true_eq, decide_eq_false_iff_not, Bool.or_eq_false_iff, Bool.and_eq_true, Bool.or_eq_true, Bool.and_eq_false_iff, Bool.not_eq_true', Bool.not_eq_false', Lay.d_n]; omega) | (simp only [decide_eq_true_eq, decide_eq_false_iff_not, Bool.or_eq_false_iff, Bool.and_eq_true, Bool.or_eq_true, Bool.and_eq_false_iff, Bool.not_eq_true', Bool.not_eq_false']; omega))
          refine x_if (fun h2 => ?_) (fun h2 => ?_)
          · have h2 : bt s (i + 1) = 120 := of_decide_eq_true h2
            rw [if_pos h2] at hN
            repeat (refine And.intro ?_ ?_; first | omega | (simp only [Lay.d_n]; omega) | (simp only [decide_eq_true_eq, decide_eq_false_iff_not, Bool.or_eq_false_iff, Bool.and_eq_true, Bool.or_eq_true, Bool.and_eq_false_iff, Bool.not_eq_true', Bool.not_eq_false', Lay.d_n]; omega) | (simp only [decide_eq_true_eq, decide_eq_false_iff_not, Bool.or_eq_false_iff, Bool.and_eq_true, Bool.or_eq_true, Bool.and_eq_false_iff, Bool.not_eq_true', Bool.not_eq_false']; omega))
            refine xl_call0 (.int .i64 (runB 16 (tl s (i + 2)))) rfl rfl rfl rfl fn115 rfl rfl (fun E w F _ => runR_any s (i + 2) 16 w (by omega) (by omega) (by omega)) ?_
            refine xl_go tt_ok ?_
            rw [show i + 1 + 1 = i + 2 by omega] at hN hr16
            have hlt := runB_take_lt 16 (tl s (i + 2))
            generalize runB 16 (tl s (i + 2)) = n at *
            refine meet (16, i + 2, (n : Int)) [] (.of rfl rfl rfl rfl rfl rfl) ⟨.inr rfl, by omega, by omega, by omega, hlt, ?_⟩
            rw [hN]
            by_cases hn : n = 0
            · rw [if_pos hn, if_pos (by omega)]
            · rw [if_neg hn, if_neg (by omega), show ((n : Int)).toNat = n by omega, show (i + 2 - i + (n : Int)).toNat = 2 + n by omega]
          · have h2 : ¬ bt s (i + 1) = 120 := of_decide_eq_false h2
            rw [if_neg h2] at hN
            have hlt : ∀ c ∈ (tl s (i + 1)).take (min 3 (runB 8 (tl s (i + 1)))), dg c < 8 := fun c hc =>
              runB_take_lt 8 (tl s (i + 1)) c (List.take_subset_take_left _ (Nat.min_le_right ..) hc)
            have hmin : min 3 (runB 8 (tl s (i + 1))) ≤ runB 8 (tl s (i + 1)) := Nat.min_le_right ..
            generalize min 3 (runB 8 (tl s (i + 1))) = n at *
            refine meet (8, i + 1, (if ((runB 8 (tl s (i + 1)) : Nat) : Int) < 3 then ((runB 8 (tl s (i + 1)) : Nat) : Int) else 3)) [] (.of rfl rfl rfl rfl rfl rfl) ?_
            rw [hm3]
            refine ⟨.inl rfl, by omega, by omega, by omega, hlt, ?_⟩
            rw [hN]
            by_cases hn : n = 0
            · rw [if_pos hn, if_pos (by omega)]
            · rw [if_neg hn, if_neg (by omega), show ((n : Int)).toNat = n by omega, show (i + 1 - i + (n : Int)).toNat = 1 + n by omega]
        · rintro ⟨b, fr, n⟩ u1 hu1 ⟨g1, g2, g3, g4, g5, g6⟩
          obtain ⟨n, rfl⟩ := Int.eq_ofNat_of_zero_le g3
          refine x_vc tt_ok ?_
          refine x_if (fun h2 => ?_) (fun h2 => ?_)
          · have h2 : (n : Int) = 0 := of_decide_eq_true h2
            rw [if_pos h2] at g6
            rw [g6]
            exact fin1 (fun _ _ => rfl)
          · have h2 : ¬ (n : Int) = 0 := of_decide_eq_false h2
            rw [if_neg h2] at g6
            have hD := tl_take_get s (i := fr) (n := n) (by omega) (by omega)
            have hDl : ((tl s fr).take n).length = n := by rw [List.length_take, tl_len]; omega
            rw [show ((n : Int)).toNat = n by omega] at g5 g6
            generalize (tl s fr).take n = D at *
            refine x_loop (σ := Int × Int) (fun (j, v) => ⟨[(10, .v (.int .i64 j)), (9, .v (.int .i64 (n : Int))), (8, .v (.int .i64 fr)), (7, .v (.int .i64 b)), (6, .v (.int .i64 v)), (1, .v (.int .i64 i)), (0, .v (.string s))], [], [], 0⟩)
              (fun (j, v) _ => fr ≤ j ∧ j ≤ fr + n ∧ 0 ≤ v ∧ v ≤ 1099511627776 ∧ minF b 0 D = minF b v (D.drop (j - fr).toNat)) (fun (j, _) => (fr + n - j).toNat) (fun (_, _) => Nat.le_refl _) (fr, 0) [] (.of rfl rfl rfl rfl rfl rfl)
              ⟨by omega, by omega, by omega, by omega, by rw [Int.sub_self]; rfl⟩ ?_
            rintro ⟨j, v⟩ u2 hu2 ⟨f1, f2, f3, f4, f5⟩
            obtain ⟨k, hk0⟩ : ∃ k : Nat, j = fr + k := ⟨(j - fr).toNat, by omega⟩
            rw [show (j - fr).toNat = k by omega] at f5
            refine x_vc tt_ok ?_
            repeat (refine And.intro ?_ ?_; first | omega | (simp only [Lay.d_n]; omega) | (simp only [decide_eq_true_eq, decide_eq_false_iff_not, Bool.or_eq_false_iff, Bool.and_eq_true, Bool.or_eq_true, Bool.and_eq_false_iff, Bool.not_eq_true', Bool.not_eq_false', Lay.d_n]; omega) | (simp only [decide_eq_true_eq, decide_eq_false_iff_not, Bool.or_eq_false_iff, Bool.and_eq_true, Bool.or_eq_true, Bool.and_eq_false_iff, Bool.not_eq_true', Bool.not_eq_false']; omega))
            refine x_if (fun h3 => ?_) (fun h3 => ?_)
            · have h3 : j < fr + n := of_decide_eq_true h3
              have hk := hD k (by omega)
              rw [← hk0] at hk
              have hcd := g5 _ (List.mem_of_getElem? hk)
              have hcr := dg_range (bt s j)
              have hbt := bt_range s j
              rw [drop_get hk, minF] at f5
              have hvb : 0 ≤ v * b ∧ v * b ≤ 1099511627776 * 16 := by rcases g1 with rfl | rfl <;> omega
              repeat (refine And.intro ?_ ?_; first | omega | (simp only [Lay.d_n]; omega) | (simp only [decide_eq_true_eq, decide_eq_false_iff_not, Bool.or_eq_false_iff, Bool.and_eq_true, Bool.or_eq_true, Bool.and_eq_false_iff, Bool.not_eq_true', Bool.not_eq_false', Lay.d_n]; omega) | (simp only [decide_eq_true_eq, decide_eq_false_iff_not, Bool.or_eq_false_iff, Bool.and_eq_true, Bool.or_eq_true, Bool.and_eq_false_iff, Bool.not_eq_true', Bool.not_eq_false']; omega))
              refine xl_call0 (.int .i64 (dg (bt s j))) rfl rfl rfl rfl fn117 rfl rfl (fun E w F _ => by
                have := dgR_any (bt s j) w hbt.1 hbt.2
                rw [dgR_eq (by omega) hcd] at this
                exact this) ?_
              refine xl_go tt_ok ?_
              repeat (refine And.intro ?_ ?_; first | omega | (simp only [Lay.d_n]; omega) | (simp only [decide_eq_true_eq, decide_eq_false_iff_not, Bool.or_eq_false_iff, Bool.and_eq_true, Bool.or_eq_true, Bool.and_eq_false_iff, Bool.not_eq_true', Bool.not_eq_false', Lay.d_n]; omega) | (simp only [decide_eq_true_eq, decide_eq_false_iff_not, Bool.or_eq_false_iff, Bool.and_eq_true, Bool.or_eq_true, Bool.and_eq_false_iff, Bool.not_eq_true', Bool.not_eq_false']; omega))
              refine xl_min rfl rfl rfl rfl rfl rfl ?_
              refine xl_go tt_ok ?_
              repeat (refine And.intro ?_ ?_; first | omega | (simp only [Lay.d_n]; omega) | (simp only [decide_eq_true_eq, decide_eq_false_iff_not, Bool.or_eq_false_iff, Bool.and_eq_true, Bool.or_eq_true, Bool.and_eq_false_iff, Bool.not_eq_true', Bool.not_eq_false', Lay.d_n]; omega) | (simp only [decide_eq_true_eq, decide_eq_false_iff_not, Bool.or_eq_false_iff, Bool.and_eq_true, Bool.or_eq_true, Bool.and_eq_false_iff, Bool.not_eq_true', Bool.not_eq_false']; omega))
              refine again (j + 1, if 1099511627776 < v * b + dg (bt s j) then 1099511627776 else v * b + dg (bt s j)) [] (.of rfl rfl rfl rfl rfl rfl) ⟨by omega, by omega, by split <;> omega, by split <;> omega, ?_⟩ (by simp only; omega)
              rw [show (j + 1 - fr).toNat = k + 1 by omega]
              exact f5
            · have h3 : ¬ j < fr + n := of_decide_eq_false h3
              rw [List.drop_eq_nil_of_le (by omega), minF] at f5
              rw [f5] at g6
              repeat (refine And.intro ?_ ?_; first | omega | (simp only [Lay.d_n]; omega) | (simp only [decide_eq_true_eq, decide_eq_false_iff_not, Bool.or_eq_false_iff, Bool.and_eq_true, Bool.or_eq_true, Bool.and_eq_false_iff, Bool.not_eq_true', Bool.not_eq_false', Lay.d_n]; omega) | (simp only [decide_eq_true_eq, decide_eq_false_iff_not, Bool.or_eq_false_iff, Bool.and_eq_true, Bool.or_eq_true, Bool.and_eq_false_iff, Bool.not_eq_true', Bool.not_eq_false']; omega))
              rw [g6]
              refine fin1 (fun _ _ => ?_)
              show Value.tuple #[.int .i64 v, .int .i64 (fr + n - i)] = .tuple #[.int .i64 v, .int .i64 ((fr - i + (n : Int)).toNat : Int)]
              rw [show (((fr - i + (n : Int)).toNat : Nat) : Int) = fr + n - i by omega]
end Go.Proofs.Ytdonomneofdhfaa
