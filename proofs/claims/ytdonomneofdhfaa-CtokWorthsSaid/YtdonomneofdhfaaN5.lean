/- An integer constant: the program's answer. -/
import Derived.Test.YtdonomneofdhfaaN4
namespace Go.Proofs.Ytdonomneofdhfaa
open Go.GV Go.RowKit

def baseT (s : ByteArray) : Int := if hexT s = true then 16 else if (decide (s ≠ ⟨#[]⟩) && decide (bt s 0 = 48)) = true then 8 else 10
def rstT (s : ByteArray) : ByteArray := if hexT s = true then sub s 2 s.size else s
def atT (s : ByteArray) : Int := if hexT s = true then 2 else 0
def nT (s : ByteArray) : Nat := runB (baseT s) (tl s (atT s))
/-- digits' worth; none: too much for a word -/
def valF (b : Int) : Int → List Int → Option Int
  | v, [] => some v
  | v, c :: r => if v * b + dg c < 18446744073709551616 then valF b (v * b + dg c) r else none
def intC (s : ByteArray) : Option (Int × Bool) :=
  if nT s = 0 then none
  else match valF (baseT s) 0 ((tl s (atT s)).take (nT s)) with
    | none => none
    | some v => if (!sufO (sub s (atT s + nT s) s.size) || (decide (baseT s = 10) && decide (9223372036854775807 < v) && !sufU (sub s (atT s + nT s) s.size))) = true then none
      else some (v, sufU (sub s (atT s + nT s) s.size) || decide (9223372036854775807 < v))
def intV (s : ByteArray) : Int × Bool × Int := match intC s with
  | none => (0, false, 40)
  | some (v, u) => (v, u, 0)

theorem baseT_range (s : ByteArray) : 8 ≤ baseT s ∧ baseT s ≤ 16 := by
  unfold baseT
  (repeat' split) <;> omega
theorem atT_range (s : ByteArray) : 0 ≤ atT s ∧ atT s ≤ s.size := by
  unfold atT
  split
  · rename_i h
    have := hexT_size h
    omega
  · omega
theorem bl_rstT (s : ByteArray) : bl (rstT s) = tl s (atT s) := by
  unfold rstT atT
  split
  · rename_i h
    have := hexT_size h
    exact bl_rest s (by omega) (by omega)
  · rfl
theorem rstT_size (s : ByteArray) : ((rstT s).size : Int) = s.size - atT s := by
  have h1 := bl_len (rstT s)
  rw [bl_rstT, tl_len] at h1
  have := atT_range s
  omega
theorem nT_le (s : ByteArray) : (nT s : Int) ≤ s.size - atT s := by
  have h1 := runB_le (baseT s) (tl s (atT s))
  rw [tl_len] at h1
  have := atT_range s
  unfold nT
  omega
theorem rest_eq (s : ByteArray) : sub (rstT s) (nT s) (rstT s).size = sub s (atT s + nT s) s.size := by
  have h1 := rstT_size s
  have h2 := nT_le s
  have h3 := atT_range s
  refine bl_inj ?_
  rw [bl_rest _ (by omega) (by omega), bl_rest _ (by omega) (by omega)]
  unfold tl
  rw [bl_rstT]
  unfold tl
  rw [List.drop_drop, show (atT s + (nT s : Int)).toNat = (atT s).toNat + ((nT s : Int)).toNat by omega]
theorem digs_eq (s : ByteArray) : bl (sub (rstT s) 0 (nT s)) = (tl s (atT s)).take (nT s) := by
  have h1 := rstT_size s
  have h2 := nT_le s
  rw [bl_sub _ (by omega) (by omega) (by omega), tl_zero, bl_rstT]
  rw [show ((nT s : Int) - 0).toNat = nT s by omega]

theorem runB_take_lt (b : Int) : ∀ (l : List Int), ∀ c ∈ l.take (runB b l), dg c < b
  | [], c, hc => by simp at hc
  | x :: r, c, hc => by
    simp only [runB] at hc
    split at hc
    · rename_i hx
      rw [List.take_succ_cons] at hc
      rcases List.mem_cons.1 hc with rfl | hc
      · exact hx
      · exact runB_take_lt b r c hc
    · simp at hc

set_option maxRecDepth 100000 in
theorem int_any (s : ByteArray) (w : World) (hs : s.size ≤ 9223372036854775807) :
    Calls Try.prog 51 #[.string s] w (PureP w fun v _ => v = .tuple #[.int .u64 (intV s).1, .bool (intV s).2.1, .int .i64 (intV s).2.2]) := by
  have hrs := rstT_size s
  have hat := atT_range s
  have hnl := nT_le s
  have hbr := baseT_range s
  have hdg := digs_eq s
  have hre := rest_eq s
  have herr : intC s = none → intV s = (0, false, 40) := fun h => by unfold intV; rw [h]
  have hok : ∀ v u, intC s = some (v, u) → intV s = (v, u, 0) := fun v u h => by unfold intV; rw [h]
  refine x_fun tt_ok Try.func51 rfl rfl [] 0 [.v (.string s)] rfl rfl rfl rfl (fun b hb => by cases hb) ?_
  iterate 2
    refine x_seq ?_
    refine x_vc tt_ok ?_
  refine x_cut (σ := Unit) (fun _ => ⟨[(6, .v (.string (rstT s))), (5, .p 3 0), (4, .p 2 0), (3, .p 1 0), (2, .p 0 0)], [], [(0, .box 68 [.v (.int .u64 0)]), (1, .box 4 [.v (.bool false)]), (2, .box 37 [.v (.int .i64 0)]), (3, .box 3 [.v (.int .i64 (baseT s))])], 4⟩) (fun _ _ => True) (fun _ => Nat.le_refl _) ?_ ?_
  · refine x_vc tt_ok ?_
    refine xl_call0 (.bool (hexT s)) rfl rfl rfl rfl fn108 rfl rfl (fun E w F _ => hexed_any s w hs) ?_
    refine xl_go tt_ok ?_
    refine x_if (fun h => ?_) (fun h => ?_)
    · have h : hexT s = true := h
      have h2 := hexT_size h
      have e1 : baseT s = 16 := by unfold baseT; rw [if_pos h]
      have e2 : rstT s = sub s 2 s.size := by unfold rstT; rw [if_pos h]
      refine x_drawA mix ?_
      refine xa_pures tt_ok (fuel := 3) [0] rfl (by kernel_rfl) (by kernel_rfl) (fun _ _ _ hh => hh) (by kernel_rfl) (by kernel_rfl) ?_
      rw [e1, e2]
      refine xa_two 1 2 (by kernel_rfl) rfl rfl (xl_go tt_ok ?_) (xl_go tt_ok ?_)
      · repeat (refine And.intro ?_ ?_; first | omega | (simp only [Lay.d_n]; omega) | (simp only [decide_eq_true_eq, decide_eq_false_iff_not, Bool.or_eq_false_iff, Bool.and_eq_true, Bool.or_eq_true, Bool.and_eq_false_iff, Bool.not_eq_true', Bool.not_eq_false', Lay.d_n]; omega) | (simp only [decide_eq_true_eq, decide_eq_false_iff_not, Bool.or_eq_false_iff, Bool.and_eq_true, Bool.or_eq_true, Bool.and_eq_false_iff, Bool.not_eq_true', Bool.not_eq_false']; omega))
        refine xa_chain (fuel := 0) [2, 3] rfl rfl (by kernel_rfl) (xl_go tt_ok ?_)
        refine xa_done (by kernel_rfl) rfl ?_
        exact meet () [] (.of rfl rfl rfl rfl rfl rfl) trivial
      · refine xa_chain (fuel := 0) [1, 3] rfl rfl (by kernel_rfl) (xl_go tt_ok ?_)
        repeat (refine And.intro ?_ ?_; first | omega | (simp only [Lay.d_n]; omega) | (simp only [decide_eq_true_eq, decide_eq_false_iff_not, Bool.or_eq_false_iff, Bool.and_eq_true, Bool.or_eq_true, Bool.and_eq_false_iff, Bool.not_eq_true', Bool.not_eq_false', Lay.d_n]; omega) | (simp only [decide_eq_true_eq, decide_eq_false_iff_not, Bool.or_eq_false_iff, Bool.and_eq_true, Bool.or_eq_true, Bool.and_eq_false_iff, Bool.not_eq_true', Bool.not_eq_false']; omega))
        refine xa_done (by kernel_rfl) rfl ?_
        exact meet () [] (.of rfl rfl rfl rfl rfl rfl) trivial
    · have h : hexT s = false := h
      have e2 : rstT s = s := by unfold rstT; rw [if_neg (by rw [h]; simp)]
      have e1 : baseT s = if (decide (s ≠ ⟨#[]⟩) && decide (bt s 0 = 48)) = true then 8 else 10 := by unfold baseT; rw [if_neg (by rw [h]; simp)]
      have hne : s ≠ ⟨#[]⟩ → 0 < s.size := fun hn => by
        rcases Nat.eq_zero_or_pos s.size with h0 | h0
        · exact absurd (ByteArray.size_eq_zero_iff.1 h0) hn
        · exact h0
      refine And.intro (fun _ => Int.le_refl 0) ?_
      refine And.intro (fun h => ?_) ?_
      · have := hne (of_decide_eq_true h); omega
      refine x_if (fun h => ?_) (fun h => ?_)
      · have h : (decide (s ≠ ⟨#[]⟩) && decide (bt s 0 = 48)) = true := h
        rw [if_pos h] at e1
        rw [e1, e2]
        exact meet () [] (.of rfl rfl rfl rfl rfl rfl) trivial
      · have h : (decide (s ≠ ⟨#[]⟩) && decide (bt s 0 = 48)) = false := h
        rw [if_neg (by rw [h]; simp)] at e1
        rw [e1, e2]
        exact meet () [] (.of rfl rfl rfl rfl rfl rfl) trivial
  · rintro _ u1 hu1 _
    refine x_vc tt_ok ?_
    refine xl_call0 (.int .i64 (nT s)) rfl rfl rfl rfl fn109 rfl rfl (fun E w F _ => by unfold nT; rw [← bl_rstT]; exact run_any _ _ w (by omega)) ?_
    refine xl_go tt_ok ?_
    refine x_if (fun h => ?_) (fun h => ?_)
    · have h := of_decide_eq_true h
      rw [herr (by unfold intC; rw [if_pos (by omega)])]
      exact fin1 (fun _ _ => rfl)
    · have h : ¬ ((nT s : Nat) : Int) = 0 := of_decide_eq_false h
      have e1 : intC s = match valF (baseT s) 0 ((tl s (atT s)).take (nT s)) with
        | none => none
        | some v => if (!sufO (sub s (atT s + nT s) s.size) || (decide (baseT s = 10) && decide (9223372036854775807 < v) && !sufU (sub s (atT s + nT s) s.size))) = true then none
          else some (v, sufU (sub s (atT s + nT s) s.size) || decide (9223372036854775807 < v)) := by
        unfold intC; rw [if_neg (by omega)]
      repeat (refine And.intro ?_ ?_; first | omega | (simp only [Lay.d_n]; omega) | (simp only [decide_eq_true_eq, decide_eq_false_iff_not, Bool.or_eq_false_iff, Bool.and_eq_true, Bool.or_eq_true, Bool.and_eq_false_iff, Bool.not_eq_true', Bool.not_eq_false', Lay.d_n]; omega) | (simp only [decide_eq_true_eq, decide_eq_false_iff_not, Bool.or_eq_false_iff, Bool.and_eq_true, Bool.or_eq_true, Bool.and_eq_false_iff, Bool.not_eq_true', Bool.not_eq_false']; omega))
      refine xl_call _ rfl rfl rfl rfl fn110 rfl rfl (fun E w F _ => digitsFn_any _ w) (fun v u2 u3 hu3 hs3 hv => ?_)
      obtain ⟨bk, rfl, hbk⟩ := hv
      have hb3 := of_sub_cut hs3 hbk
      have hin := digits_iter (sub (rstT s) 0 (nT s)) bk u3 hb3 (by have := sub_size (s := rstT s) (a := 0) (b := (nT s : Int)) (by omega) (by omega) (by omega); omega)
      rw [hdg] at hin
      have hdl := runB_take_lt (baseT s) (tl s (atT s))
      change ∀ c ∈ (tl s (atT s)).take (nT s), dg c < baseT s at hdl
      refine xl_go tt_ok ?_
      generalize (tl s (atT s)).take (nT s) = D at hin hdl e1
      generalize hb : baseT s = b at *
      refine x_range (σ := Int) (τ := Unit) rfl fn142 hin [(7, .v (.int .i64 (nT s))), (6, .v (.string (rstT s))), (5, .p 3 0), (4, .p 2 0), (3, .p 1 0), (2, .p 0 0)]
        (fun v => [(0, .box 68 [.v (.int .u64 v)]), (1, .box 4 [.v (.bool false)]), (2, .box 37 [.v (.int .i64 0)]), (3, .box 3 [.v (.int .i64 b)])]) (fun _ => 5)
        (fun k v _ => 0 ≤ v ∧ v < 18446744073709551616 ∧ valF b 0 D = valF b v (D.drop k))
        (fun _ => [(0, .box 68 [.v (.int .u64 0)]), (1, .box 4 [.v (.bool false)]), (2, .box 37 [.v (.int .i64 40)]), (3, .box 3 [.v (.int .i64 b)])]) (fun _ => 5)
        (fun _ e _ => e = .ret ∧ valF b 0 D = none) 0 [] (.of rfl rfl rfl rfl rfl rfl) ⟨by omega, by omega, rfl⟩ rfl
        (fun _ => rfl) (fun _ => rfl) (fun _ => by decide) (fun _ => by decide) rfl (fun l k x v u4 Fr Fr' hx hu4 hg => ?_) (fun v u4 hu4 hg => ?_) (fun _ e u4 hu4 hg => ?_)
      · obtain ⟨g0, g1, g2⟩ := hg
        rw [List.getElem?_map] at hx
        obtain ⟨c, hc, rfl⟩ := Option.map_eq_some_iff.1 hx
        have hcd := hdl c (List.mem_of_getElem? hc)
        have hcr := dg_range c
        rw [drop_get hc, valF] at g2
        refine x_vc tt_ok ?_
        refine ⟨rfl, rfl, x_vc tt_ok ?_⟩
        repeat (refine And.intro ?_ ?_; first | omega | (simp only [Lay.d_n]; omega) | (simp only [decide_eq_true_eq, decide_eq_false_iff_not, Bool.or_eq_false_iff, Bool.and_eq_true, Bool.or_eq_true, Bool.and_eq_false_iff, Bool.not_eq_true', Bool.not_eq_false', Lay.d_n]; omega) | (simp only [decide_eq_true_eq, decide_eq_false_iff_not, Bool.or_eq_false_iff, Bool.and_eq_true, Bool.or_eq_true, Bool.and_eq_false_iff, Bool.not_eq_true', Bool.not_eq_false']; omega))
        refine xl_call0 (.tuple #[.int .u64 (v * b / 18446744073709551616), .int .u64 (v * b % 18446744073709551616)]) rfl rfl rfl rfl fn111 rfl rfl (fun E w F _ => mul64_any v b g0 g1 (by omega) (by omega) w) ?_
        refine xl_go tt_ok ?_
        repeat (refine And.intro ?_ ?_; first | omega | (simp only [Lay.d_n]; omega) | (simp only [decide_eq_true_eq, decide_eq_false_iff_not, Bool.or_eq_false_iff, Bool.and_eq_true, Bool.or_eq_true, Bool.and_eq_false_iff, Bool.not_eq_true', Bool.not_eq_false', Lay.d_n]; omega) | (simp only [decide_eq_true_eq, decide_eq_false_iff_not, Bool.or_eq_false_iff, Bool.and_eq_true, Bool.or_eq_true, Bool.and_eq_false_iff, Bool.not_eq_true', Bool.not_eq_false']; omega))
        refine xl_externN (.tuple #[.int .u64 ((v * b % 18446744073709551616 + dg c + 0) % 18446744073709551616), .int .u64 ((v * b % 18446744073709551616 + dg c + 0) / 18446744073709551616)]) rfl rfl rfl rfl rfl rfl (fun E w => add64_run _ _ (by omega) (by omega) w) ?_
        refine xl_go tt_ok ?_
        have hvb : 0 ≤ v * b := Int.mul_nonneg g0 (by omega)
        refine x_if (fun h1 => ?_) (fun h1 => ?_)
        · have h1 : (decide (v * b / 18446744073709551616 ≠ 0) || decide ((v * b % 18446744073709551616 + dg c + 0) / 18446744073709551616 ≠ 0)) = true := h1
          simp only [Bool.or_eq_true, decide_eq_true_eq] at h1
          rw [if_neg (by omega)] at g2
          exact ⟨(), [], .of rfl rfl rfl rfl rfl rfl, rfl, g2⟩
        · have h1 : (decide (v * b / 18446744073709551616 ≠ 0) || decide ((v * b % 18446744073709551616 + dg c + 0) / 18446744073709551616 ≠ 0)) = false := h1
          simp only [Bool.or_eq_false_iff, decide_eq_false_iff_not, Classical.not_not] at h1
          rw [if_pos (by omega), show v * b + dg c = (v * b % 18446744073709551616 + dg c + 0) % 18446744073709551616 by omega] at g2
          exact ⟨(v * b % 18446744073709551616 + dg c + 0) % 18446744073709551616, [], .of rfl rfl rfl rfl rfl rfl, by omega, by omega, g2⟩
      · obtain ⟨g0, g1, g2⟩ := hg
        rw [List.length_map, List.drop_length, valF] at g2
        rw [g2] at e1
        repeat (refine And.intro ?_ ?_; first | omega | (simp only [Lay.d_n]; omega) | (simp only [decide_eq_true_eq, decide_eq_false_iff_not, Bool.or_eq_false_iff, Bool.and_eq_true, Bool.or_eq_true, Bool.and_eq_false_iff, Bool.not_eq_true', Bool.not_eq_false', Lay.d_n]; omega) | (simp only [decide_eq_true_eq, decide_eq_false_iff_not, Bool.or_eq_false_iff, Bool.and_eq_true, Bool.or_eq_true, Bool.and_eq_false_iff, Bool.not_eq_true', Bool.not_eq_false']; omega))
        refine xl_call0 (.tuple #[.bool (sufO (sub s (atT s + nT s) s.size) && sufU (sub s (atT s + nT s) s.size)), .bool (sufO (sub s (atT s + nT s) s.size))]) rfl rfl rfl rfl fn113 rfl rfl (fun E w F _ => by rw [← hre]; exact suffix_any _ w (by have := sub_size (s := rstT s) (a := (nT s : Int)) (b := (rstT s).size) (by omega) (by omega) (by omega); omega)) ?_
        refine xl_go tt_ok ?_
        generalize sufO (sub s (atT s + nT s) s.size) = o at *
        generalize sufU (sub s (atT s + nT s) s.size) = q at *
        refine x_if (fun h1 => ?_) (fun h1 => ?_)
        · have h1 : (!o || (decide (b = 10) && decide (9223372036854775807 < v) && !(o && q))) = true := h1
          have e2 : intC s = none := by
            rw [e1]
            simp only
            rw [if_pos]
            cases o with
            | false => rfl
            | true => simpa using h1
          rw [herr e2]
          exact fin1 (fun _ _ => rfl)
        · have h1 : (!o || (decide (b = 10) && decide (9223372036854775807 < v) && !(o && q))) = false := h1
          have ho : o = true := by
            cases o with
            | false => simp at h1
            | true => rfl
          subst ho
          have e2 : intC s = some (v, q || decide (9223372036854775807 < v)) := by
            rw [e1]
            simp only
            rw [if_neg]
            simpa using h1
          rw [hok _ _ e2]
          exact fin1 (fun _ _ => rfl)
      · obtain ⟨rfl, hg⟩ := hg
        rw [hg] at e1
        rw [herr e1]
        exact fin1 (fun _ _ => rfl)
end Go.Proofs.Ytdonomneofdhfaa
