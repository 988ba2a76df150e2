/- Constants and strings: the document's answer. -/
import Derived.Test.YtdonomneofdhfaaN19
import Derived.Test.YtdonomneofdhfaaR8
namespace Go.Proofs.Ytdonomneofdhfaa
open Go.GV Go.RowKit

theorem oneP_two {s : ByteArray} {k : Int} (h : (oneP s).1 = k) (hk : k = 3 ∨ k = 4) : (oneP s).2 = true := by
  have := oneP_one h hk
  unfold oneP
  rw [this]

set_option maxRecDepth 100000 in
theorem strR_any (s : ByteArray) (w : World) (hs : s.size ≤ 4294967280) :
    Calls Try.prog 56 #[.string s] w (PureP w (OwnT 2 (intY.d (strL s)) [.int .i64 (strE s)])) := by
  refine x_fun tt_ok Try.func56 rfl rfl [] 0 [.v (.string s)] rfl rfl rfl rfl (fun b hb => by cases hb) ?_
  refine x_vc tt_ok ?_
  refine xl_call0 (.tuple #[.int .i64 (oneP s).1, .bool (oneP s).2]) rfl rfl rfl rfl fn37 rfl rfl (fun E w F _ => refOne_any s hs w) ?_
  refine xl_go tt_ok ?_
  refine x_if (fun h => ?_) (fun h => ?_)
  · have h : (!(oneP s).2 || decide ((oneP s).1 ≠ 4)) = true := h
    have h4 : (oneP s).1 ≠ 4 := fun h4 => by rw [oneP_two h4 (.inr rfl), decide_eq_false (by simpa using h4)] at h; cases h
    have e1 : strE s = 40 := by unfold strE; rw [if_neg h4]
    have e2 : strL s = [] := by unfold strL; rw [e1, if_neg (by omega)]
    rw [e1, e2]
    exact finO2n intY
  · have h : (!(oneP s).2 || decide ((oneP s).1 ≠ 4)) = false := h
    simp only [Bool.or_eq_false_iff, decide_eq_false_iff_not, Classical.not_not] at h
    have h4 := h.2
    have e1 : strE s = if okY (ysT s) = true then 0 else 40 := by unfold strE; rw [if_pos h4]
    have e2 : strL s = if strE s = 0 then ysT s else [] := rfl
    refine xl_call0 (.int .i64 (pfN s)) rfl rfl rfl rfl fn121 rfl rfl (fun E w F _ => prefix_any s h4 (.inr rfl) w (by omega)) ?_
    refine xl_go tt_ok ?_
    refine xl_callO2 2 (intY.d (if okY (ysT s) = true then ysT s else [])) [.bool (okY (ysT s))] rfl rfl rfl rfl fn122 rfl rfl (fun E w F _ => elements_any s h4 (.inr rfl) w hs) ?_
    refine xl_go tt_ok ?_
    generalize ysT s = ys at *
    refine x_if (fun h5 => ?_) (fun h5 => ?_)
    · have h5 : (!okY ys) = true := h5
      have h6 : okY ys = false := by simpa using h5
      rw [if_neg (by rw [h6]; simp)] at e1
      rw [e1, if_neg (by omega)] at e2
      rw [e1, e2]
      exact finO2n intY
    · have h5 : (!okY ys) = false := h5
      have h6 : okY ys = true := by simpa using h5
      rw [if_pos h6] at e1
      rw [e1, if_pos rfl] at e2
      rw [e1, e2]
      rw [if_pos h6]
      exact finO2 rfl

set_option maxRecDepth 100000 in
theorem charR_any (s : ByteArray) (w : World) (hs : s.size ≤ 4294967280) :
    Calls Try.prog 54 #[.string s] w (PureP w fun v _ => v = .tuple #[.int .i64 (charV s).1, .int .i64 (charV s).2]) := by
  have herr : charC s = none → charV s = (0, 40) := fun h => by unfold charV; rw [h]
  have hok : ∀ v, charC s = some v → charV s = (v, 0) := fun v h => by unfold charV; rw [h]
  refine x_fun tt_ok Try.func54 rfl rfl [] 0 [.v (.string s)] rfl rfl rfl rfl (fun b hb => by cases hb) ?_
  refine x_vc tt_ok ?_
  refine xl_call0 (.tuple #[.int .i64 (oneP s).1, .bool (oneP s).2]) rfl rfl rfl rfl fn37 rfl rfl (fun E w F _ => refOne_any s hs w) ?_
  refine xl_go tt_ok ?_
  refine x_if (fun h => ?_) (fun h => ?_)
  · have h : (!(oneP s).2 || decide ((oneP s).1 ≠ 3)) = true := h
    have h4 : (oneP s).1 ≠ 3 := fun h4 => by rw [oneP_two h4 (.inl rfl), decide_eq_false (by simpa using h4)] at h; cases h
    rw [herr (by unfold charC; rw [if_neg h4])]
    exact fin1 (fun _ _ => rfl)
  · have h : (!(oneP s).2 || decide ((oneP s).1 ≠ 3)) = false := h
    simp only [Bool.or_eq_false_iff, decide_eq_false_iff_not, Classical.not_not] at h
    have h4 := h.2
    have e1 : charC s = if okY (ysT s) = true ∧ ((ysT s).length : Int) ≤ mostT s then some (if 0 < pfN s then vch (ysT s) else sgnV (ysT s).length (vch (ysT s))) else none := by unfold charC; rw [if_pos h4]
    obtain ⟨q1, q2, _, _, _⟩ := lit_at h4 (.inl rfl)
    replace q2 := q2 rfl
    have hlr := limP_range (sub s 0 (pfN s))
    have htop : topT s = limP (sub s 0 (pfN s)) := rfl
    have hyle := ysT_le s
    have hzi := sub_size (s := s) (a := (pfN s : Int) + 1) (b := (s.size : Int) - 1) (by omega) (by omega) (by omega)
    have hine : ysT s ≠ [] := ysF_ne _ (bl_ne (s := inT s) (by unfold inT; omega))
    have htop0 : ¬ 0 < pfN s → topT s = 255 := fun hp => by
      unfold topT
      rw [show pfN s = 0 by omega]
      have : sub s 0 ((0 : Nat) : Int) = ⟨#[]⟩ := bl_inj (by rw [bl_sub s (by omega) (by omega) (by omega)]; rfl)
      rw [this]; rfl
    refine xl_call0 (.int .i64 (pfN s)) rfl rfl rfl rfl fn121 rfl rfl (fun E w F _ => prefix_any s h4 (.inl rfl) w (by omega)) ?_
    refine xl_go tt_ok ?_
    refine xl_callO2 2 (intY.d (if okY (ysT s) = true then ysT s else [])) [.bool (okY (ysT s))] rfl rfl rfl rfl fn122 rfl rfl (fun E w F _ => elements_any s h4 (.inl rfl) w hs) ?_
    refine xl_go tt_ok ?_
    have hmo : mostT s = if 0 < pfN s then 1 else 4 := rfl
    generalize ysT s = ys at *
    generalize mostT s = m at *
    rw [← htop] at hlr
    generalize topT s = tp at *
    by_cases hy : okY ys = true
    · rw [if_pos hy]
      rw [hy] at e1 ⊢
      simp only [true_and] at e1
      refine x_if (fun h5 => ?_) (fun h5 => ?_)
      · have h5 : ((!true || decide (4 < (ys.length : Int))) || (decide (0 < (pfN s : Int)) && decide (1 < (ys.length : Int)))) = true := h5
        simp only [Bool.not_true, Bool.false_or, Bool.or_eq_true, Bool.and_eq_true, decide_eq_true_eq] at h5
        rw [herr (by rw [e1, if_neg]; split at hmo <;> omega)]
        exact fin1 (fun _ _ => rfl)
      · have h5 : ((!true || decide (4 < (ys.length : Int))) || (decide (0 < (pfN s : Int)) && decide (1 < (ys.length : Int)))) = false := h5
        simp only [Bool.not_true, Bool.false_or, Bool.or_eq_false_iff, Bool.and_eq_false_iff, decide_eq_false_iff_not] at h5
        have hlm : (ys.length : Int) ≤ m := by split at hmo <;> omega
        rw [if_pos hlm] at e1
        have hyl : 1 ≤ ys.length := List.length_pos_iff.2 hine
        have hpos : ∀ y ∈ ys, 0 ≤ y := fun y hyy => by
          unfold okY at hy
          exact of_decide_eq_true (List.all_eq_true.1 hy y hyy)
        refine x_loop (σ := Int × Int × Int) (fun (i, v, z) => ⟨[(11, .v (.int .i64 i)), (10, .v (.int .i64 z)), (9, .v (.int .i64 v)), (7, .r 0), (6, .v (.int .i64 (pfN s)))], [], [(0, .row 2 (intY.d ys))], 1⟩)
          (fun (i, v, z) _ => 0 ≤ i ∧ i ≤ ys.length ∧ v = vch (ys.take i.toNat) ∧ z = 256 ^ i.toNat ∧ 0 ≤ v ∧ (¬ 0 < pfN s → v < 256 ^ i.toNat) ∧ (0 < pfN s → i = 0 → v = 0) ∧ v ≤ 4294967295) (fun (i, _, _) => (ys.length - i).toNat) (fun (_, _, _) => Nat.le_refl 1) (0, 0, 1) [] (.of rfl rfl rfl rfl rfl rfl)
          ⟨by omega, by omega, rfl, rfl, by omega, fun _ => by decide, fun _ _ => rfl, by omega⟩ ?_
        rintro ⟨i, v, z⟩ u hu ⟨g1, g2, g3, g4, g5, g6, g7, g8⟩
        refine x_vc tt_ok ?_
        have hc : i = 0 ∨ i = 1 ∨ i = 2 ∨ i = 3 ∨ i = 4 := by omega
        refine x_if (fun h6 => ?_) (fun h6 => ?_)
        · have h6 : i < ys.length := of_decide_eq_true h6
          have hyi : ys[i.toNat]? = some (ys.getD i.toNat 0) := by
            rw [List.getD_eq_getElem?_getD, List.getElem?_eq_getElem (by omega)]; rfl
          have hym := List.mem_of_getElem? hyi
          have hy0 := hpos _ hym
          have hy1 := hyle _ hym
          have hst := vch_step hyi
          have hval : v * 256 + ys.getD i.toNat 0 ≤ 4294967295 ∧ (¬ 0 < pfN s → v * 256 + ys.getD i.toNat 0 < 256 ^ (i + 1).toNat) ∧ z ≤ 16777216 ∧ 0 ≤ z ∧ 256 * z = 256 ^ (i + 1).toNat := by
            by_cases hp : 0 < pfN s
            · have hi0 : i = 0 := by omega
              subst hi0
              have := g7 hp rfl
              subst this
              rw [g4]
              exact ⟨by omega, fun h => absurd hp h, by decide, by decide, by decide⟩
            · have h255 := htop0 hp
              have h7 := g6 hp
              rcases hc with rfl | rfl | rfl | rfl | rfl
              · simp only [show (256 : Int) ^ (0 : Int).toNat = 1 by rfl, show (256 : Int) ^ ((0 : Int) + 1).toNat = 256 by rfl] at g4 h7 ⊢; omega
              · simp only [show (256 : Int) ^ (1 : Int).toNat = 256 by rfl, show (256 : Int) ^ ((1 : Int) + 1).toNat = 65536 by rfl] at g4 h7 ⊢; omega
              · simp only [show (256 : Int) ^ (2 : Int).toNat = 65536 by rfl, show (256 : Int) ^ ((2 : Int) + 1).toNat = 16777216 by rfl] at g4 h7 ⊢; omega
              · simp only [show (256 : Int) ^ (3 : Int).toNat = 16777216 by rfl, show (256 : Int) ^ ((3 : Int) + 1).toNat = 4294967296 by rfl] at g4 h7 ⊢; omega
              · omega
          obtain ⟨v1, v2, v3, v4, v5⟩ := hval
          repeat (refine And.intro ?_ ?_; first | omega | (simp only [Lay.d_n]; omega) | (simp only [decide_eq_true_eq, decide_eq_false_iff_not, Bool.or_eq_false_iff, Bool.and_eq_true, Bool.or_eq_true, Bool.and_eq_false_iff, Bool.not_eq_true', Bool.not_eq_false', Lay.d_n]; omega) | (simp only [decide_eq_true_eq, decide_eq_false_iff_not, Bool.or_eq_false_iff, Bool.and_eq_true, Bool.or_eq_true, Bool.and_eq_false_iff, Bool.not_eq_true', Bool.not_eq_false']; omega))
          refine again (i + 1, 256 * v + ys.getD i.toNat 0, 256 * z) [] (.of rfl rfl rfl rfl rfl rfl) ⟨by omega, by omega, ?_, v5, by omega, fun h => by have := v2 h; omega, fun _ h => by omega, by omega⟩ (by simp only; omega)
          rw [show (i + 1).toNat = i.toNat + 1 by omega, hst, ← g3]; omega
        · have h6 : ¬ i < ys.length := of_decide_eq_false h6
          have hi : i = ys.length := by omega
          rw [hi, show ((ys.length : Int)).toNat = ys.length by omega] at g3 g4 g6
          rw [List.take_length] at g3
          rw [← g3] at e1
          have hz : 1 ≤ z ∧ z ≤ 4294967296 := by
            rw [g4]
            have hc2 : ys.length = 0 ∨ ys.length = 1 ∨ ys.length = 2 ∨ ys.length = 3 ∨ ys.length = 4 := by omega
            rcases hc2 with h | h | h | h | h <;> (rw [h]; decide)
          rw [hok _ e1]
          repeat (refine And.intro ?_ ?_; first | omega | (simp only [Lay.d_n]; omega) | (simp only [decide_eq_true_eq, decide_eq_false_iff_not, Bool.or_eq_false_iff, Bool.and_eq_true, Bool.or_eq_true, Bool.and_eq_false_iff, Bool.not_eq_true', Bool.not_eq_false', Lay.d_n]; omega) | (simp only [decide_eq_true_eq, decide_eq_false_iff_not, Bool.or_eq_false_iff, Bool.and_eq_true, Bool.or_eq_true, Bool.and_eq_false_iff, Bool.not_eq_true', Bool.not_eq_false']; omega))
          refine x_if (fun h7 => ?_) (fun h7 => ?_)
          · have h7 : (decide ((pfN s : Int) = 0) && decide (z / 2 ≤ v)) = true := h7
            simp only [Bool.and_eq_true, decide_eq_true_eq] at h7
            rw [if_neg (by omega)]
            unfold sgnV
            rw [← g4, if_pos h7.2]
            repeat (refine And.intro ?_ ?_; first | omega | (simp only [Lay.d_n]; omega) | (simp only [decide_eq_true_eq, decide_eq_false_iff_not, Bool.or_eq_false_iff, Bool.and_eq_true, Bool.or_eq_true, Bool.and_eq_false_iff, Bool.not_eq_true', Bool.not_eq_false', Lay.d_n]; omega) | (simp only [decide_eq_true_eq, decide_eq_false_iff_not, Bool.or_eq_false_iff, Bool.and_eq_true, Bool.or_eq_true, Bool.and_eq_false_iff, Bool.not_eq_true', Bool.not_eq_false']; omega))
            exact fin1 (fun _ _ => rfl)
          · have h7 : (decide ((pfN s : Int) = 0) && decide (z / 2 ≤ v)) = false := h7
            simp only [Bool.and_eq_false_iff, decide_eq_false_iff_not] at h7
            have e2 : (if 0 < pfN s then v else sgnV ys.length v) = v := by
              split
              · rfl
              · unfold sgnV
                rw [← g4, if_neg (by omega)]
            rw [e2]
            exact fin1 (fun _ _ => rfl)
    · have hy2 : okY ys = false := by simpa using hy
      rw [hy2]
      rw [herr (by rw [e1, if_neg (fun hh => hy hh.1)])]
      refine x_ift rfl ?_
      exact fin1 (fun _ _ => rfl)
end Go.Proofs.Ytdonomneofdhfaa
