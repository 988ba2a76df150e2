/- The document's answer: where a splice stands, the characters and the splices. -/
import Derived.Test.YtjcjbnkimpggeaaP7
namespace Go.Proofs.Ytjcjbnkimpggeaa
open Go.GV Go.RowKit

theorem dec_lt {a b x : Int} (h : a = b + 1) : decide (a ≤ x) = decide (b < x) := by
  by_cases k : a ≤ x
  · rw [decide_eq_true k, decide_eq_true (by omega)]
  · rw [decide_eq_false k, decide_eq_false (by omega)]

theorem isTri_triB (s : ByteArray) (i : Int) : isTri s i = triB s i := by
  unfold isTri triB
  rw [dec_lt (show i + 3 = i + 2 + 1 by omega)]
  cases decide (i + 2 < (s.size : Int)) <;> cases decide (bt s i = 63) <;> cases decide (bt s (i + 1) = 63) <;> rfl

def spN (s : ByteArray) (i : Int) : Int := if spl s i then chN s i + 1 else 0

set_option maxRecDepth 100000 in
theorem refSplice_any (s : ByteArray) (i : Int) (w : World) (h0 : 0 ≤ i) (h1 : i < s.size) (hs : s.size ≤ 140737488355328) :
    Calls Try.prog 37 #[.string s, .int .i64 i] w (PureP w fun v _ => v = .int .i64 (spN s i)) := by
  refine x_fun tt_ok Try.func37 rfl rfl [] 0 [.v (.string s), .v (.int .i64 i)] rfl rfl rfl rfl (fun b hb => by cases hb) ?_
  refine x_vc tt_ok ?_
  repeat (refine And.intro ?_ ?_; first | omega | (simp only [decide_eq_true_eq, decide_eq_false_iff_not, Bool.or_eq_false_iff, Bool.and_eq_true, Bool.or_eq_true, Bool.and_eq_false_iff, Bool.not_eq_true', Bool.not_eq_false']; omega))
  refine x_if (fun h => ?_) (fun h => ?_)
  · have h' : ((decide (i + 2 ≤ (s.size : Int)) && decide (bt s i = 92)) && decide (bt s (i + 1) = 10)) = true := h
    simp only [Bool.and_eq_true, decide_eq_true_eq] at h'
    have ht : triB s i = false := by
      cases ht : triB s i
      · rfl
      · unfold triB at ht; simp only [Bool.and_eq_true, decide_eq_true_eq] at ht; omega
    have hN : chN s i = 1 := by rw [chN, if_neg (by rw [ht]; simp)]
    have hS : spl s i = true := by
      unfold spl
      rw [chB, if_neg (by rw [ht]; simp), hN, decide_eq_true h'.1.2, decide_eq_true h'.2, decide_eq_true (show i + 1 < (s.size : Int) by omega)]; rfl
    refine fin1 (fun _ _ => ?_)
    rw [spN, if_pos hS, hN]; rfl
  · have h' : ((decide (i + 2 ≤ (s.size : Int)) && decide (bt s i = 92)) && decide (bt s (i + 1) = 10)) = false := h
    refine xl_call0 (.tuple #[.int .u8 (triV s i), .bool (isTri s i)]) rfl rfl rfl rfl fn30 rfl rfl (fun E w F hs => tri_any s i w h0 (by omega) (by omega)) ?_
    refine xl_go tt_ok ?_
    repeat (refine And.intro ?_ ?_; first | omega | (simp only [decide_eq_true_eq, decide_eq_false_iff_not, Bool.or_eq_false_iff, Bool.and_eq_true, Bool.or_eq_true, Bool.and_eq_false_iff, Bool.not_eq_true', Bool.not_eq_false']; omega))
    have key : ((isTri s i && decide (triV s i = 92)) && decide (i + 4 ≤ (s.size : Int)) && decide (bt s (i + 3) = 10)) = spl s i ∧ (spl s i = true → chN s i = 3) := by
      unfold triV
      rw [isTri_triB]
      cases ht : triB s i
      · rw [if_neg (by simp)]
        have : spl s i = false := by
          unfold spl
          rw [chB, chN, if_neg (by rw [ht]; simp), if_neg (by rw [ht]; simp)]
          cases hb : (decide (bt s i = 92) && decide (i + 1 < (s.size : Int)) && decide (bt s (i + 1) = 10))
          · rfl
          · simp only [Bool.and_eq_true, decide_eq_true_eq] at hb
            rw [decide_eq_true (show i + 2 ≤ (s.size : Int) by omega), decide_eq_true hb.1.1, decide_eq_true hb.2] at h'
            cases h'
        rw [this]
        exact ⟨rfl, fun h => by cases h⟩
      · rw [if_pos rfl]
        have hN : chN s i = 3 := by rw [chN, if_pos ht]
        have hB : chB s i = third (bt s (i + 2)) := by rw [chB, if_pos ht]
        refine ⟨?_, fun _ => hN⟩
        unfold spl
        rw [hN, hB]
        rw [dec_lt (show i + 4 = i + 3 + 1 by omega)]
        rfl
    refine x_if (fun h2 => ?_) (fun h2 => ?_)
    · have h2 : spl s i = true := key.1.symm.trans h2
      refine fin1 (fun _ _ => ?_)
      rw [spN, if_pos h2, key.2 h2]; rfl
    · have h2 : spl s i = false := key.1.symm.trans h2
      refine fin1 (fun _ _ => ?_)
      rw [spN, if_neg (by rw [h2]; simp)]; rfl

def lastSp (L : List Part) : Bool := match L.getLast? with
  | some p => p.sp
  | none => false

theorem lastSp_snoc (L : List Part) (p : Part) : lastSp (L ++ [p]) = p.sp := by unfold lastSp; rw [List.getLast?_concat]

def BothV (s : ByteArray) (v : Value) (u : Im) : Prop :=
  ∃ x y, v = .tuple #[x, y, .bool (lastSp (partsV s))] ∧ SlAt u x (charY.d (chrsL (partsV s))) ∧ SlAt u y (spanY.d (spnsL (partsV s)))

set_option maxRecDepth 100000 in
theorem both_any (s : ByteArray) (w : World) (hs : s.size ≤ 65536) : Calls Try.prog 32 #[.string s] w (PureP w (BothV s)) := by
  refine x_fun tt_ok Try.func32 rfl rfl [] 0 [.v (.string s)] rfl rfl rfl rfl (fun b hb => by cases hb) ?_
  refine x_vc tt_ok ?_
  refine x_nil 5 35 charY rfl ?_
  refine x_nil 6 50 spanY rfl ?_
  refine x_loop (σ := Int × Bool × List Part × List Chr × List Spn) (fun (i, b, _, L, M) => ⟨[(8, .v (.int .i64 i)), (7, .v (.bool b)), (6, .r 3), (5, .r 2), (0, .v (.string s))], [], [(3, .row 50 (spanY.d M)), (2, .row 35 (charY.d L))], 4⟩)
    (fun (i, b, pre, L, M) _ => 0 ≤ i ∧ i ≤ s.size ∧ pre.length ≤ i ∧ partsV s = pre ++ partsAt s i ∧ L = chrsL pre ∧ M = spnsL pre ∧ b = lastSp pre) (fun (i, _) => (s.size - i).toNat) (fun (_, _) => by simp only; omega) (0, false, [], [], []) [(2, some 0), (3, some 1)] (.of rfl rfl rfl rfl rfl rfl)
    ⟨by omega, by omega, by simp, rfl, rfl, rfl, rfl⟩ ?_
  rintro ⟨i, b, pre, L, M⟩ u hu ⟨g1, g2, g3, g4, g5, g6, g7⟩
  have hL := chrsL_len pre
  have hM := spnsL_len pre
  rw [← g5] at hL
  rw [← g6] at hM
  refine x_vc tt_ok ?_
  refine x_if (fun h => ?_) (fun h => ?_)
  · have h2 : i < s.size := of_decide_eq_true h
    obtain ⟨hl1, hl2⟩ := partP_len s g1 h2
    rw [partsAt_eq g1 h2] at g4
    have e0 : (partP s i).len = chN s i + (if spl s i then 1 else 0) := partP_len_eq s i
    have hp := chN_pos s i
    have hLs := lastSp_snoc pre (partP s i)
    have g4' : partsV s = (pre ++ [partP s i]) ++ partsAt s (i + (partP s i).len) := by rw [g4]; simp
    have gl : ((pre ++ [partP s i]).length : Int) ≤ i + (partP s i).len := by rw [List.length_append]; simp; omega
    refine xl_call0 (.int .i64 (spN s i)) rfl rfl rfl rfl fn37 rfl rfl (fun E w F h => refSplice_any s i w g1 h2 (by omega)) ?_
    refine xl_go tt_ok ?_
    refine x_if (fun h3 => ?_) (fun h3 => ?_)
    · have hsp : spl s i = true := by
        cases hsp : spl s i
        · have h4 : 0 < spN s i := of_decide_eq_true h3
          rw [spN, if_neg (by rw [hsp]; simp)] at h4; omega
        · rfl
      have hps : (partP s i).sp = true := by rw [partP, if_pos hsp]
      have hN : spN s i = (partP s i).len := by rw [spN, if_pos hsp, e0, if_pos hsp]
      have c1 : chrsL (pre ++ [partP s i]) = L := by rw [chrsL_append, ← g5]; simp [chrsL, hps]
      have c2 : spnsL (pre ++ [partP s i]) = M ++ [⟨i, i + (partP s i).len⟩] := by rw [spnsL_append, ← g6]; simp [spnsL, hps, partP_pos]
      rw [hps] at hLs
      rw [hN]
      repeat (refine And.intro ?_ ?_; first | omega | (simp only [decide_eq_true_eq, decide_eq_false_iff_not, Bool.or_eq_false_iff, Bool.and_eq_true, Bool.or_eq_true, Bool.and_eq_false_iff, Bool.not_eq_true', Bool.not_eq_false']; omega))
      refine xl_push tt_ok spanY M ⟨i, i + (partP s i).len⟩ 16 rfl rfl rfl rfl rfl rfl rfl rfl rfl rfl rfl rfl (by kernel_rfl) rfl rfl rfl rfl rfl (fun n hn => by cases hn; decide) rfl rfl rfl (by omega) (by omega) ?_
      refine xl_go tt_ok ?_
      repeat (refine And.intro ?_ ?_; first | omega | (simp only [decide_eq_true_eq, decide_eq_false_iff_not, Bool.or_eq_false_iff, Bool.and_eq_true, Bool.or_eq_true, Bool.and_eq_false_iff, Bool.not_eq_true', Bool.not_eq_false']; omega))
      exact again (i + (partP s i).len, decide (0 < (partP s i).len), pre ++ [partP s i], L, _) [(3, some 4)] (.of rfl rfl rfl rfl rfl rfl) ⟨by omega, by omega, gl, g4', c1.symm, c2.symm, by rw [hLs, decide_eq_true (by omega)]⟩ (by simp only; omega)
    · have hsp : spl s i = false := by
        cases hsp : spl s i
        · rfl
        · have h4 : ¬ 0 < spN s i := of_decide_eq_false h3
          rw [spN, if_pos hsp] at h4; omega
      have hps : partP s i = ⟨chB s i, i, chN s i, false⟩ := by rw [partP, if_neg (by rw [hsp]; simp)]
      have hN0 : spN s i = 0 := by rw [spN, if_neg (by rw [hsp]; simp)]
      have c1 : chrsL (pre ++ [partP s i]) = L ++ [⟨chB s i, i, chN s i⟩] := by rw [chrsL_append, ← g5, hps]; rfl
      have c2 : spnsL (pre ++ [partP s i]) = M := by rw [spnsL_append, ← g6, hps]; simp [spnsL]
      have hlen : (partP s i).len = chN s i := by rw [hps]
      rw [hps] at hLs
      refine xl_call0 (.tuple #[.int .u8 (triV s i), .bool (isTri s i)]) rfl rfl rfl rfl fn30 rfl rfl (fun E w F hs => tri_any s i w g1 (by omega) (by omega)) ?_
      refine xl_go tt_ok ?_
      rw [isTri_triB]
      refine x_if (fun h4 => ?_) (fun h4 => ?_)
      · have ht : triB s i = false := by simpa using h4
        have eN : chN s i = 1 := by rw [chN, if_neg (by rw [ht]; simp)]
        have eB : chB s i = bt s i := by rw [chB, if_neg (by rw [ht]; simp)]
        rw [eN, eB] at c1
        repeat (refine And.intro ?_ ?_; first | omega | (simp only [decide_eq_true_eq, decide_eq_false_iff_not, Bool.or_eq_false_iff, Bool.and_eq_true, Bool.or_eq_true, Bool.and_eq_false_iff, Bool.not_eq_true', Bool.not_eq_false']; omega))
        refine xl_push tt_ok charY L ⟨bt s i, i, 1⟩ 24 rfl rfl rfl rfl rfl rfl rfl rfl rfl rfl rfl rfl (by kernel_rfl) rfl rfl rfl rfl rfl (fun n hn => by cases hn; decide) rfl rfl rfl (by omega) (by omega) ?_
        refine xl_go tt_ok ?_
        repeat (refine And.intro ?_ ?_; first | omega | (simp only [decide_eq_true_eq, decide_eq_false_iff_not, Bool.or_eq_false_iff, Bool.and_eq_true, Bool.or_eq_true, Bool.and_eq_false_iff, Bool.not_eq_true', Bool.not_eq_false']; omega))
        exact again (i + 1, decide (0 < spN s i), pre ++ [partP s i], _, M) [(2, some 4)] (.of rfl rfl rfl rfl rfl rfl) ⟨by omega, by omega, by omega, by rw [g4', hlen, eN], c1.symm, c2.symm, by rw [hps, hLs, decide_eq_false (by omega)]⟩ (by simp only; omega)
      · have ht : triB s i = true := by simpa using h4
        have eN : chN s i = 3 := by rw [chN, if_pos ht]
        have eB : chB s i = triV s i := by rw [chB, if_pos ht, triV, isTri_triB, if_pos ht]
        rw [eN, eB] at c1
        repeat (refine And.intro ?_ ?_; first | omega | (simp only [decide_eq_true_eq, decide_eq_false_iff_not, Bool.or_eq_false_iff, Bool.and_eq_true, Bool.or_eq_true, Bool.and_eq_false_iff, Bool.not_eq_true', Bool.not_eq_false']; omega))
        refine xl_push tt_ok charY L ⟨triV s i, i, 3⟩ 24 rfl rfl rfl rfl rfl rfl rfl rfl rfl rfl rfl rfl (by kernel_rfl) rfl rfl rfl rfl rfl (fun n hn => by cases hn; decide) rfl rfl rfl (by omega) (by omega) ?_
        refine xl_go tt_ok ?_
        repeat (refine And.intro ?_ ?_; first | omega | (simp only [decide_eq_true_eq, decide_eq_false_iff_not, Bool.or_eq_false_iff, Bool.and_eq_true, Bool.or_eq_true, Bool.and_eq_false_iff, Bool.not_eq_true', Bool.not_eq_false']; omega))
        exact again (i + 3, decide (0 < spN s i), pre ++ [partP s i], _, M) [(2, some 4)] (.of rfl rfl rfl rfl rfl rfl) ⟨by omega, by omega, by omega, by rw [g4', hlen, eN], c1.symm, c2.symm, by rw [hps, hLs, decide_eq_false (by omega)]⟩ (by simp only; omega)
  · have h2 : ¬ i < s.size := of_decide_eq_false h
    rw [partsAt_end h2, List.append_nil] at g4
    rw [← g4] at g5 g6 g7
    subst g5 g6 g7
    exact finP (fun E w' F hs hu => ⟨_, _, rfl, (hs.rowOwn (k := 2) rfl hu).slAt, (hs.rowOwn (k := 3) rfl hu).slAt⟩)
end Go.Proofs.Ytjcjbnkimpggeaa
