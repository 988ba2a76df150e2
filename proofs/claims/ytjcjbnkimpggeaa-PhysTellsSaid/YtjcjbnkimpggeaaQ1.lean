/- PhysParts: its walk. -/
import Derived.Test.YtjcjbnkimpggeaaP6
namespace Go.Proofs.Ytjcjbnkimpggeaa
open Go.GV Go.RowKit

def Chr.shift (n : Int) (c : Chr) : Chr := ⟨c.b, c.pos + n, c.len⟩

theorem charsOf_len {s : ByteArray} : (charsOf s).length ≤ s.size := by
  unfold charsOf
  split
  · exact Nat.le_trans (chrsL_len _) (partsV_len s)
  · simp

theorem chrsL_mem {L : List Part} {c : Chr} (h : c ∈ chrsL L) : ∃ p ∈ L, p.sp = false ∧ c = ⟨p.b, p.pos, p.len⟩ := by
  induction L with
  | nil => cases h
  | cons q L ih =>
    simp only [chrsL] at h
    split at h
    · obtain ⟨p, h1, h2⟩ := ih h
      exact ⟨p, List.mem_cons_of_mem _ h1, h2⟩
    · rename_i hq
      rcases List.mem_cons.1 h with rfl | h
      · exact ⟨q, List.mem_cons_self .., by simpa using hq, rfl⟩
      · obtain ⟨p, h1, h2⟩ := ih h
        exact ⟨p, List.mem_cons_of_mem _ h1, h2⟩

theorem charsOf_pos {s : ByteArray} (i : Nat) : 0 ≤ ((charsOf s).getD i charY.dft).pos ∧ ((charsOf s).getD i charY.dft).pos ≤ s.size := by
  rw [List.getD_eq_getElem?_getD]
  cases h : (charsOf s)[i]? with
  | none => exact ⟨Int.le_refl _, by show (0 : Int) ≤ _; omega⟩
  | some c =>
    have hc := List.mem_of_getElem? h
    unfold charsOf at hc
    split at hc
    · obtain ⟨p, hp, _, rfl⟩ := chrsL_mem hc
      obtain ⟨q0, q1, _⟩ := partsV_mem hp
      exact ⟨q0, by show p.pos ≤ _; omega⟩
    · cases hc

set_option maxRecDepth 100000 in
theorem physParts_any (a b : ByteArray) (w : World) (ha : a.size ≤ 140737488355328) (hb : b.size ≤ 140737488355328)
    (law : checkE a = 0 → checkE b = 0 → a.size + b.size ≤ 65536 → checkE (a ++ b) = 0 ∧ charsOf (a ++ b) = charsOf a ++ (charsOf b).map (Chr.shift a.size)) :
    Calls Try.prog 4 #[.string a, .string b] w (PureP w fun v _ => v = .bool true) := by
  refine x_fun tt_ok Try.func4 rfl rfl [] 0 [.v (.string a), .v (.string b)] rfl rfl rfl rfl (fun b hb => by cases hb) ?_
  refine x_vc tt_ok ?_
  refine xl_call0 (.bool true) rfl rfl rfl rfl fn14 rfl rfl (fun E w F _ => alive_any w) ?_
  refine xl_go tt_ok ?_
  refine xl_callO2 35 (charY.d (charsOf a)) [.int .i64 (checkE a)] rfl rfl rfl rfl fn15 rfl rfl (fun E w F hs => chars_any a w (by omega)) ?_
  refine xl_go tt_ok ?_
  refine xl_callO2 35 (charY.d (charsOf b)) [.int .i64 (checkE b)] rfl rfl rfl rfl fn15 rfl rfl (fun E w F hs => chars_any b w (by omega)) ?_
  refine xl_go tt_ok ?_
  repeat (refine And.intro ?_ ?_; first | omega | (simp <;> omega))
  refine xl_callO2 35 (charY.d (charsOf (a ++ b))) [.int .i64 (checkE (a ++ b))] rfl rfl rfl rfl fn15 rfl rfl (fun E w F hs => chars_any (a ++ b) w (by rw [ByteArray.size_append]; omega)) ?_
  refine xl_go tt_ok ?_
  have SZ : ((a ++ b).size : Int) = a.size + b.size := by rw [ByteArray.size_append]; omega
  have la := @charsOf_len a
  have lb := @charsOf_len b
  have lab := @charsOf_len (a ++ b)
  rw [ByteArray.size_append] at lab
  repeat (refine And.intro ?_ ?_; first | omega | (simp only [Lay.d_n]; omega) | (simp only [decide_eq_true_eq, decide_eq_false_iff_not, Bool.or_eq_false_iff, Bool.and_eq_true, Bool.or_eq_true, Bool.and_eq_false_iff, Bool.not_eq_true', Bool.not_eq_false']; omega))
  refine x_if (fun h => ?_) (fun h => ?_)
  · refine fin1 (fun _ _ => ?_)
    show Value.bool _ = _
    by_cases h1 : checkE a = 0
    · rw [h1]; rfl
    · rw [show charsOf a = [] by rw [charsOf, if_neg h1]]; simp [Lay.d]
  · have h : (decide (checkE a ≠ 0) || decide (checkE b ≠ 0) || decide ((65536 : Int) < a.size + b.size)) = false := h
    rw [Bool.or_eq_false_iff, Bool.or_eq_false_iff, decide_eq_false_iff_not, decide_eq_false_iff_not, decide_eq_false_iff_not, Classical.not_not, Classical.not_not] at h
    obtain ⟨⟨ea, eb⟩, hl⟩ := h
    obtain ⟨eab, ec⟩ := law ea eb (by omega)
    have ll : (charsOf (a ++ b)).length = (charsOf a).length + (charsOf b).length := by rw [ec]; simp
    repeat (refine And.intro ?_ ?_; first | omega | (simp only [Lay.d_n]; omega) | (simp only [decide_eq_true_eq, decide_eq_false_iff_not, Bool.or_eq_false_iff, Bool.and_eq_true, Bool.or_eq_true, Bool.and_eq_false_iff, Bool.not_eq_true', Bool.not_eq_false']; omega))
    refine x_iff ?_ ?_
    · show (decide (checkE (a ++ b) ≠ 0) || decide (((charY.d (charsOf (a ++ b))).n : Int) ≠ (charY.d (charsOf a)).n + (charY.d (charsOf b)).n)) = false
      rw [eab, decide_eq_false (show ¬ (((charY.d (charsOf (a ++ b))).n : Int) ≠ (charY.d (charsOf a)).n + (charY.d (charsOf b)).n) by simp only [Lay.d_n]; omega)]; rfl
    refine x_loop (σ := Int) (fun i => ⟨[(12, .v (.int .i64 i)), (10, .r 2), (8, .r 1), (6, .r 0), (5, .v (.bool true)), (0, .v (.string a))], [], [(2, .row 35 (charY.d (charsOf (a ++ b)))), (1, .row 35 (charY.d (charsOf b))), (0, .row 35 (charY.d (charsOf a)))], 3⟩)
      (fun i _ => 0 ≤ i ∧ i ≤ (charsOf (a ++ b)).length) (fun i => ((charsOf (a ++ b)).length - i).toNat) (fun _ => Nat.le_refl _) 0 [] (.of rfl rfl rfl rfl rfl rfl) ⟨by omega, by omega⟩ ?_
    rintro i u hu ⟨g1, g2⟩
    refine x_vc tt_ok ?_
    refine x_if (fun h2 => ?_) (fun h2 => ?_)
    · have h2 := of_decide_eq_true h2
      simp only [Lay.d_n] at h2
      have hq := @charsOf_pos b (i - ((charsOf a).length : Int)).toNat
      have hq1 := @charsOf_pos b (i - ((charY.d (charsOf a)).n : Int)).toNat
      refine x_draw mix (by kernel_rfl) (xd_go tt_ok ?_)
      repeat (refine And.intro ?_ ?_; first | omega | (simp only [Lay.d_n]; omega) | (simp only [decide_eq_true_eq, decide_eq_false_iff_not, Bool.or_eq_false_iff, Bool.and_eq_true, Bool.or_eq_true, Bool.and_eq_false_iff, Bool.not_eq_true', Bool.not_eq_false']; omega) | (simp only [decide_eq_true_eq, decide_eq_false_iff_not, Bool.or_eq_false_iff, Bool.and_eq_true, Bool.or_eq_true, Bool.and_eq_false_iff, Bool.not_eq_true', Bool.not_eq_false']; simp only [Lay.d_n]; omega))
      refine x_iff ?_ ?_
      · have hn : ((charY.d (charsOf a)).n : Int) = (charsOf a).length := rfl
        rw [hn]
        by_cases hi : i < (charsOf a).length
        · have e : (charsOf (a ++ b)).getD i.toNat charY.dft = (charsOf a).getD i.toNat charY.dft := by
            rw [ec, List.getD_eq_getElem?_getD, List.getD_eq_getElem?_getD, List.getElem?_append_left (by omega)]
          rw [e, decide_eq_false (show ¬ (((charsOf a).length : Int) ≤ i) by omega)]
          simp
        · have e : (charsOf (a ++ b)).getD i.toNat charY.dft = Chr.shift a.size ((charsOf b).getD (i - (charsOf a).length).toNat charY.dft) := by
            have hk : i.toNat - (charsOf a).length = (i - (charsOf a).length).toNat := by omega
            have hk2 : (i - (charsOf a).length).toNat < (charsOf b).length := by omega
            rw [ec, List.getD_eq_getElem?_getD, List.getD_eq_getElem?_getD, List.getElem?_append_right (by omega), hk, List.getElem?_map, List.getElem?_eq_getElem hk2]
            rfl
          rw [e, decide_eq_false (show ¬ (i < ((charsOf a).length : Int)) by omega)]
          simp [Chr.shift]
      · repeat (refine And.intro ?_ ?_; first | omega | (simp only [Lay.d_n]; omega) | (simp only [decide_eq_true_eq, decide_eq_false_iff_not, Bool.or_eq_false_iff, Bool.and_eq_true, Bool.or_eq_true, Bool.and_eq_false_iff, Bool.not_eq_true', Bool.not_eq_false']; omega))
        exact again (i + 1) [] (.of rfl rfl rfl rfl rfl rfl) ⟨by omega, by omega⟩ (by omega)
    · exact fin1 (fun _ _ => rfl)
end Go.Proofs.Ytjcjbnkimpggeaa
