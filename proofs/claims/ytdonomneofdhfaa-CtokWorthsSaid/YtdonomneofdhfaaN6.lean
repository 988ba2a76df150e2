/- An integer constant: the document's answer. -/
import Derived.Test.YtdonomneofdhfaaN5
namespace Go.Proofs.Ytdonomneofdhfaa
open Go.GV Go.RowKit

set_option maxRecDepth 100000 in
theorem intR_any (s : ByteArray) (w : World) (hs : s.size ≤ 140737488355328) :
    Calls Try.prog 52 #[.string s] w (PureP w fun v _ => v = .tuple #[.int .u64 (intV s).1, .bool (intV s).2.1, .int .i64 (intV s).2.2]) := by
  have hat := atT_range s
  have hnl := nT_le s
  have hbr := baseT_range s
  have herr : intC s = none → intV s = (0, false, 40) := fun h => by unfold intV; rw [h]
  have hok : ∀ v u, intC s = some (v, u) → intV s = (v, u, 0) := fun v u h => by unfold intV; rw [h]
  refine x_fun tt_ok Try.func52 rfl rfl [] 0 [.v (.string s)] rfl rfl rfl rfl (fun b hb => by cases hb) ?_
  iterate 3
    refine x_seq ?_
    refine x_vc tt_ok ?_
  refine x_cut (σ := Unit) (fun _ => ⟨[(6, .v (.int .i64 (atT s))), (5, .v (.int .i64 (baseT s))), (0, .v (.string s))], [], [], 0⟩) (fun _ _ => True) (fun _ => Nat.le_refl _) ?_ ?_
  · refine x_vc tt_ok ?_
    refine xl_call0 (.bool (hexT s)) rfl rfl rfl rfl fn114 rfl rfl (fun E w F _ => hex_any s w (by omega)) ?_
    refine xl_go tt_ok ?_
    refine x_if (fun h => ?_) (fun h => ?_)
    · have h : hexT s = true := h
      have e1 : baseT s = 16 := by unfold baseT; rw [if_pos h]
      have e2 : atT s = 2 := by unfold atT; rw [if_pos h]
      rw [e1, e2]
      exact meet () [] (.of rfl rfl rfl rfl rfl rfl) trivial
    · have h : hexT s = false := h
      have e2 : atT s = 0 := by unfold atT; rw [if_neg (by rw [h]; simp)]
      have e1 : baseT s = if (decide (s ≠ ⟨#[]⟩) && decide (bt s 0 = 48)) = true then 8 else 10 := by unfold baseT; rw [if_neg (by rw [h]; simp)]
      have hne : decide (s ≠ ⟨#[]⟩) = decide (0 < (s.size : Int)) := decide_eq_decide.2 ⟨fun hn => by
        rcases Nat.eq_zero_or_pos s.size with h0 | h0
        · exact absurd (ByteArray.size_eq_zero_iff.1 h0) hn
        · omega, fun hp hn => by rw [hn] at hp; exact absurd hp (by decide)⟩
      rw [hne] at e1
      repeat (refine And.intro ?_ ?_; first | omega | (simp only [Lay.d_n]; omega) | (simp only [decide_eq_true_eq, decide_eq_false_iff_not, Bool.or_eq_false_iff, Bool.and_eq_true, Bool.or_eq_true, Bool.and_eq_false_iff, Bool.not_eq_true', Bool.not_eq_false', Lay.d_n]; omega) | (simp only [decide_eq_true_eq, decide_eq_false_iff_not, Bool.or_eq_false_iff, Bool.and_eq_true, Bool.or_eq_true, Bool.and_eq_false_iff, Bool.not_eq_true', Bool.not_eq_false']; omega))
      refine x_if (fun h => ?_) (fun h => ?_)
      · have h : (decide (0 < (s.size : Int)) && decide (bt s 0 = 48)) = true := h
        rw [if_pos h] at e1
        rw [e1, e2]
        exact meet () [] (.of rfl rfl rfl rfl rfl rfl) trivial
      · have h : (decide (0 < (s.size : Int)) && decide (bt s 0 = 48)) = false := h
        rw [if_neg (by rw [h]; simp)] at e1
        rw [e1, e2]
        exact meet () [] (.of rfl rfl rfl rfl rfl rfl) trivial
  · rintro _ u1 hu1 _
    refine x_vc tt_ok ?_
    refine xl_call0 (.int .i64 (nT s)) rfl rfl rfl rfl fn115 rfl rfl (fun E w F _ => runR_any s (atT s) (baseT s) w (by omega) (by omega) (by omega)) ?_
    refine xl_go tt_ok ?_
    repeat (refine And.intro ?_ ?_; first | omega | (simp only [Lay.d_n]; omega) | (simp only [decide_eq_true_eq, decide_eq_false_iff_not, Bool.or_eq_false_iff, Bool.and_eq_true, Bool.or_eq_true, Bool.and_eq_false_iff, Bool.not_eq_true', Bool.not_eq_false', Lay.d_n]; omega) | (simp only [decide_eq_true_eq, decide_eq_false_iff_not, Bool.or_eq_false_iff, Bool.and_eq_true, Bool.or_eq_true, Bool.and_eq_false_iff, Bool.not_eq_true', Bool.not_eq_false']; omega))
    refine xl_min rfl rfl rfl rfl rfl rfl ?_
    rw [show (if atT s + (nT s : Int) < (s.size : Int) then atT s + (nT s : Int) else (s.size : Int)) = atT s + nT s by split <;> omega]
    refine xl_go tt_ok ?_
    repeat (refine And.intro ?_ ?_; first | omega | (simp only [Lay.d_n]; omega) | (simp only [decide_eq_true_eq, decide_eq_false_iff_not, Bool.or_eq_false_iff, Bool.and_eq_true, Bool.or_eq_true, Bool.and_eq_false_iff, Bool.not_eq_true', Bool.not_eq_false', Lay.d_n]; omega) | (simp only [decide_eq_true_eq, decide_eq_false_iff_not, Bool.or_eq_false_iff, Bool.and_eq_true, Bool.or_eq_true, Bool.and_eq_false_iff, Bool.not_eq_true', Bool.not_eq_false']; omega))
    refine xl_call0 (.tuple #[.bool (sufO (sub s (atT s + nT s) s.size)), .bool (sufU (sub s (atT s + nT s) s.size))]) rfl rfl rfl rfl fn116 rfl rfl (fun E w F _ => suffixR_any _ w (by have := sub_size (s := s) (a := atT s + (nT s : Int)) (b := s.size) (by omega) (by omega) (by omega); omega)) ?_
    refine xl_go tt_ok ?_
    have e1 : intC s = if nT s = 0 then none else match valF (baseT s) 0 ((tl s (atT s)).take (nT s)) with
        | none => none
        | some v => if (!sufO (sub s (atT s + nT s) s.size) || (decide (baseT s = 10) && decide (9223372036854775807 < v) && !sufU (sub s (atT s + nT s) s.size))) = true then none
          else some (v, sufU (sub s (atT s + nT s) s.size) || decide (9223372036854775807 < v)) := rfl
    generalize sufO (sub s (atT s + nT s) s.size) = o at *
    generalize sufU (sub s (atT s + nT s) s.size) = q at *
    refine x_if (fun h => ?_) (fun h => ?_)
    · have h : (decide ((nT s : Int) = 0) || !o) = true := h
      have e2 : intC s = none := by
        rw [e1]
        by_cases hn : nT s = 0
        · rw [if_pos hn]
        · rw [if_neg hn]
          rw [decide_eq_false (by omega), Bool.false_or] at h
          split
          · rfl
          · rw [if_pos (by rw [h]; rfl)]
      rw [herr e2]
      exact fin1 (fun _ _ => rfl)
    · have h : (decide ((nT s : Int) = 0) || !o) = false := h
      simp only [Bool.or_eq_false_iff, decide_eq_false_iff_not, Bool.not_eq_false'] at h
      obtain ⟨hn, ho⟩ := h
      subst ho
      rw [if_neg (by omega)] at e1
      have hD : ∀ k : Nat, k < nT s → ((tl s (atT s)).take (nT s))[k]? = some (bt s (atT s + k)) := fun k hk => by
        rw [List.getElem?_take_of_lt hk]
        unfold tl
        rw [List.getElem?_drop, show atT s + (k : Int) = (((atT s).toNat + k : Nat) : Int) by omega]
        exact bl_get s (by omega)
      have hdl := runB_take_lt (baseT s) (tl s (atT s))
      change ∀ c ∈ (tl s (atT s)).take (nT s), dg c < baseT s at hdl
      have hDl : ((tl s (atT s)).take (nT s)).length = nT s := by rw [List.length_take, tl_len]; omega
      generalize (tl s (atT s)).take (nT s) = D at hD hDl hdl e1
      refine x_loop (σ := Int × Int) (fun (i, v) => ⟨[(11, .v (.int .i64 i)), (10, .v (.int .u64 v)), (9, .v (.bool q)), (7, .v (.int .i64 (nT s))), (6, .v (.int .i64 (atT s))), (5, .v (.int .i64 (baseT s))), (0, .v (.string s))], [], [], 0⟩)
        (fun (i, v) _ => atT s ≤ i ∧ i ≤ atT s + nT s ∧ 0 ≤ v ∧ v < 18446744073709551616 ∧ valF (baseT s) 0 D = valF (baseT s) v (D.drop (i - atT s).toNat)) (fun (i, _) => (atT s + nT s - i).toNat) (fun (_, _) => Nat.le_refl _) (atT s, 0) [] (.of rfl rfl rfl rfl rfl rfl)
        ⟨by omega, by omega, by omega, by omega, by rw [Int.sub_self]; rfl⟩ ?_
      rintro ⟨i, v⟩ u2 hu2 ⟨g4, g0, g1, g2, g3⟩
      obtain ⟨k, hk0⟩ : ∃ k : Nat, i = atT s + k := ⟨(i - atT s).toNat, by omega⟩
      rw [show (i - atT s).toNat = k by omega] at g3
      refine x_vc tt_ok ?_
      repeat (refine And.intro ?_ ?_; first | omega | (simp only [Lay.d_n]; omega) | (simp only [decide_eq_true_eq, decide_eq_false_iff_not, Bool.or_eq_false_iff, Bool.and_eq_true, Bool.or_eq_true, Bool.and_eq_false_iff, Bool.not_eq_true', Bool.not_eq_false', Lay.d_n]; omega) | (simp only [decide_eq_true_eq, decide_eq_false_iff_not, Bool.or_eq_false_iff, Bool.and_eq_true, Bool.or_eq_true, Bool.and_eq_false_iff, Bool.not_eq_true', Bool.not_eq_false']; omega))
      refine x_if (fun h3 => ?_) (fun h3 => ?_)
      · have h3 : i < atT s + nT s := of_decide_eq_true h3
        have hk := hD k (by omega)
        rw [← hk0] at hk
        have hcd := hdl _ (List.mem_of_getElem? hk)
        have hcr := dg_range (bt s i)
        have hbt := bt_range s i
        rw [drop_get hk, valF] at g3
        repeat (refine And.intro ?_ ?_; first | omega | (simp only [Lay.d_n]; omega) | (simp only [decide_eq_true_eq, decide_eq_false_iff_not, Bool.or_eq_false_iff, Bool.and_eq_true, Bool.or_eq_true, Bool.and_eq_false_iff, Bool.not_eq_true', Bool.not_eq_false', Lay.d_n]; omega) | (simp only [decide_eq_true_eq, decide_eq_false_iff_not, Bool.or_eq_false_iff, Bool.and_eq_true, Bool.or_eq_true, Bool.and_eq_false_iff, Bool.not_eq_true', Bool.not_eq_false']; omega))
        refine xl_call0 (.int .i64 (dg (bt s i))) rfl rfl rfl rfl fn117 rfl rfl (fun E w F _ => by
          have := dgR_any (bt s i) w hbt.1 hbt.2
          rw [dgR_eq (by omega) hcd] at this
          exact this) ?_
        refine xl_go tt_ok ?_
        generalize dg (bt s i) = d at *
        generalize baseT s = b at *
        have hvb : 0 ≤ v * b := Int.mul_nonneg g1 (by omega)
        have hq0 : 0 ≤ (18446744073709551615 - d) / b := Int.ediv_nonneg (by omega) (by omega)
        have hq1 : (18446744073709551615 - d) / b ≤ 18446744073709551615 - d := Int.ediv_le_self _ (by omega)
        have hq2 : (18446744073709551615 - d) / b < v ↔ 18446744073709551615 - d < v * b := Int.ediv_lt_iff_lt_mul (by omega)
        repeat (refine And.intro ?_ ?_; first | omega | (simp only [Lay.d_n]; omega) | (simp only [decide_eq_true_eq, decide_eq_false_iff_not, Bool.or_eq_false_iff, Bool.and_eq_true, Bool.or_eq_true, Bool.and_eq_false_iff, Bool.not_eq_true', Bool.not_eq_false', Lay.d_n]; omega) | (simp only [decide_eq_true_eq, decide_eq_false_iff_not, Bool.or_eq_false_iff, Bool.and_eq_true, Bool.or_eq_true, Bool.and_eq_false_iff, Bool.not_eq_true', Bool.not_eq_false']; omega))
        refine x_if (fun h5 => ?_) (fun h5 => ?_)
        · have h5 : (18446744073709551615 - d) / b < v := of_decide_eq_true h5
          rw [if_neg (by omega)] at g3
          rw [g3] at e1
          rw [herr e1]
          exact fin1 (fun _ _ => rfl)
        · have h5 : ¬ (18446744073709551615 - d) / b < v := of_decide_eq_false h5
          rw [if_pos (by omega)] at g3
          repeat (refine And.intro ?_ ?_; first | omega | (simp only [Lay.d_n]; omega) | (simp only [decide_eq_true_eq, decide_eq_false_iff_not, Bool.or_eq_false_iff, Bool.and_eq_true, Bool.or_eq_true, Bool.and_eq_false_iff, Bool.not_eq_true', Bool.not_eq_false', Lay.d_n]; omega) | (simp only [decide_eq_true_eq, decide_eq_false_iff_not, Bool.or_eq_false_iff, Bool.and_eq_true, Bool.or_eq_true, Bool.and_eq_false_iff, Bool.not_eq_true', Bool.not_eq_false']; omega))
          refine again (i + 1, v * b + d) [] (.of rfl rfl rfl rfl rfl rfl) ⟨by omega, by omega, by omega, by omega, ?_⟩ (by simp only; omega)
          rw [show (i + 1 - atT s).toNat = k + 1 by omega]
          exact g3
      · have h3 : ¬ i < atT s + nT s := of_decide_eq_false h3
        rw [List.drop_eq_nil_of_le (by omega), valF] at g3
        rw [g3] at e1
        repeat (refine And.intro ?_ ?_; first | omega | (simp only [Lay.d_n]; omega) | (simp only [decide_eq_true_eq, decide_eq_false_iff_not, Bool.or_eq_false_iff, Bool.and_eq_true, Bool.or_eq_true, Bool.and_eq_false_iff, Bool.not_eq_true', Bool.not_eq_false', Lay.d_n]; omega) | (simp only [decide_eq_true_eq, decide_eq_false_iff_not, Bool.or_eq_false_iff, Bool.and_eq_true, Bool.or_eq_true, Bool.and_eq_false_iff, Bool.not_eq_true', Bool.not_eq_false']; omega))
        refine x_if (fun h5 => ?_) (fun h5 => ?_)
        · have h5 : ((decide (baseT s = 10) && !q) && decide (9223372036854775807 < v)) = true := h5
          have e2 : intC s = none := by
            rw [e1]
            simp only [Bool.and_eq_true] at h5
            obtain ⟨⟨h6, h7⟩, h8⟩ := h5
            simp only
            rw [if_pos (by rw [h6, h7, h8]; rfl)]
          rw [herr e2]
          exact fin1 (fun _ _ => rfl)
        · have h5 : ((decide (baseT s = 10) && !q) && decide (9223372036854775807 < v)) = false := h5
          have e2 : intC s = some (v, q || decide (9223372036854775807 < v)) := by
            rw [e1]
            simp only
            rw [if_neg]
            intro h6
            simp only [Bool.not_true, Bool.false_or, Bool.and_eq_true] at h6
            obtain ⟨⟨h6, h7⟩, h8⟩ := h6
            rw [h6, h7, h8] at h5
            cases h5
          rw [hok _ _ e2]
          refine fin1 (fun _ _ => ?_)
          show Value.tuple #[.int .u64 v, .bool (q || (decide (9223372036854775807 < v) && decide (baseT s ≠ 10))), .int .i64 0] = _
          have e3 : (q || (decide (9223372036854775807 < v) && decide (baseT s ≠ 10))) = (q || decide (9223372036854775807 < v)) := by
            cases q with
            | true => rfl
            | false =>
              simp only [Bool.not_false, Bool.and_true] at h5
              by_cases h6 : baseT s = 10
              · rw [decide_eq_true h6, Bool.true_and] at h5
                rw [h5]; rfl
              · rw [decide_eq_true h6, Bool.and_true]
          rw [e3]
end Go.Proofs.Ytdonomneofdhfaa
