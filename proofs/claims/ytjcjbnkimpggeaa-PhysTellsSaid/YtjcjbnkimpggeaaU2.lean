/- The document's answer: whether a text ends well, its characters, its splices, its logical text; and two lists. -/
import Derived.Test.YtjcjbnkimpggeaaU1
import Derived.Test.YtjcjbnkimpggeaaV1
namespace Go.Proofs.Ytjcjbnkimpggeaa
open Go.GV Go.RowKit

theorem snoc_cases {α : Type} (L : List α) : L = [] ∨ ∃ M x, L = M ++ [x] := by
  rcases List.eq_nil_or_concat L with h | ⟨M, x, h⟩
  · exact .inl h
  · exact .inr ⟨M, x, by rw [h, List.concat_eq_append]⟩

theorem checkE_ref (s : ByteArray) (hs : s.size ≤ 65536) : checkE s = if 0 < s.size ∧ (lastSp (partsV s) = true ∨ bt s ((s.size : Int) - 1) ≠ 10) then 10 else 0 := by
  rw [checkE_of hs]
  rcases snoc_cases (partsV s) with h | ⟨pre, p, h⟩
  · rw [h]
    by_cases h0 : 0 < s.size
    · exfalso
      have := partsAt_eq (s := s) (i := 0) (Int.le_refl _) (by omega)
      rw [show partsAt s 0 = partsV s from rfl, h] at this
      cases this
    · rw [if_neg (fun hh => h0 hh.1)]; rfl
  · obtain ⟨q, k1, k2, k3, _, k5⟩ := parts_split (s := s) pre 0 [p] (Int.le_refl _) (by omega) h
    have hq : q < s.size := by
      by_cases hq : q < s.size
      · exact hq
      · rw [partsAt_end hq] at k3; cases k3
    have hl := partP_len s k1 hq
    rw [partsAt_eq k1 hq, List.cons.injEq] at k3
    obtain ⟨rfl, k4⟩ := k3
    have hend : q + (partP s q).len = s.size := by
      by_cases hh : q + (partP s q).len < s.size
      · rw [partsAt_eq (by omega) hh] at k4; cases k4
      · omega
    rw [h, checkL_skip (fun x hx => by have := k5 x hx; omega), lastSp_snoc]
    simp only [checkL]
    rw [if_pos (by rw [partP_pos]; exact hend)]
    cases hsp : (partP s q).sp
    · have hb : (partP s q).b ≠ 10 ↔ bt s ((s.size : Int) - 1) ≠ 10 := by
        rcases cov_char hsp with ⟨c1, c2, c3, c4, c5, c6⟩ | ⟨c1, c2⟩
        · rw [c6]
          rw [show (s.size : Int) - 1 = q + 2 by omega]
          refine ⟨fun _ h10 => ?_, fun _ => third_ne10 _⟩
          rw [h10, isThird10] at c5; cases c5
        · rw [c2, show (s.size : Int) - 1 = q by omega]
      by_cases h10 : (partP s q).b = 10
      · rw [if_neg (by simp [h10]), if_neg]
        rintro ⟨_, h2 | h2⟩
        · cases h2
        · exact hb.2 h2 h10
      · rw [if_pos (by simp [h10]), if_pos ⟨by omega, .inr (hb.1 h10)⟩]
    · rw [Bool.true_or, if_pos rfl, if_pos ⟨by omega, .inl rfl⟩]

set_option maxRecDepth 100000 in
theorem refCheck_any (s : ByteArray) (w : World) (hs : s.size ≤ 9223372036854775807) : Calls Try.prog 24 #[.string s] w (PureP w fun v _ => v = .int .i64 (checkE s)) := by
  refine x_fun tt_ok Try.func24 rfl rfl [] 0 [.v (.string s)] rfl rfl rfl rfl (fun b hb => by cases hb) ?_
  refine x_vc tt_ok ?_
  refine x_if (fun h => ?_) (fun h => ?_)
  · have h := of_decide_eq_true h
    refine fin1 (fun _ _ => ?_)
    rw [checkE, if_pos (by omega)]; rfl
  · have h := of_decide_eq_false h
    refine xl_call _ rfl rfl rfl rfl fn32 rfl rfl (fun E w F _ => both_any s w (by omega)) (fun v u1 u2 hu2 hs2 hv => ?_)
    obtain ⟨x, y, rfl, hx, hy⟩ := hv
    refine xl_go tt_ok ?_
    repeat (refine And.intro ?_ ?_; first | omega | (simp only [decide_eq_true_eq, decide_eq_false_iff_not, Bool.or_eq_false_iff, Bool.and_eq_true, Bool.or_eq_true, Bool.and_eq_false_iff, Bool.not_eq_true', Bool.not_eq_false']; omega))
    have e := checkE_ref s (by omega)
    refine x_if (fun h2 => ?_) (fun h2 => ?_)
    · have h2 : (decide (0 < (s.size : Int)) && (lastSp (partsV s) || decide (bt s ((s.size : Int) - 1) ≠ 10))) = true := h2
      simp only [Bool.and_eq_true, Bool.or_eq_true, decide_eq_true_eq] at h2
      refine fin1 (fun _ _ => ?_)
      rw [e, if_pos ⟨by omega, h2.2⟩]; rfl
    · have h2 : (decide (0 < (s.size : Int)) && (lastSp (partsV s) || decide (bt s ((s.size : Int) - 1) ≠ 10))) = false := h2
      refine fin1 (fun _ _ => ?_)
      rw [e, if_neg]; · rfl
      rintro ⟨k1, k2⟩
      rw [decide_eq_true (show 0 < (s.size : Int) by omega)] at h2
      rcases k2 with k2 | k2
      · rw [k2] at h2; cases h2
      · rw [decide_eq_true k2] at h2; simp at h2

/-- a list that is read alone, and an error -/
def SlT {α : Type} (Y : Lay α) (L : List α) (e : Int) (v : Value) (u : Im) : Prop := ∃ x, v = .tuple #[x, .int .i64 e] ∧ SlAt u x (Y.d L)

theorem SlAt.none {α : Type} (Y : Lay α) (u : Im) : SlAt u (.slice none 0 0) (Y.d []) := ⟨_, 0, rfl, Nat.zero_le _, by decide, fun h => by cases h⟩

set_option maxRecDepth 100000 in
theorem refChars_any (s : ByteArray) (w : World) (hs : s.size ≤ 9223372036854775807) : Calls Try.prog 17 #[.string s] w (PureP w (SlT charY (charsOf s) (checkE s))) := by
  refine x_fun tt_ok Try.func17 rfl rfl [] 0 [.v (.string s)] rfl rfl rfl rfl (fun b hb => by cases hb) ?_
  refine x_vc tt_ok ?_
  refine xl_call0 (.int .i64 (checkE s)) rfl rfl rfl rfl fn24 rfl rfl (fun E w F _ => refCheck_any s w hs) ?_
  refine xl_go tt_ok ?_
  refine x_if (fun h => ?_) (fun h => ?_)
  · have h := of_decide_eq_true h
    rw [charsOf, if_neg h]
    exact finP (fun E w' F hs hu => ⟨_, rfl, SlAt.none charY _⟩)
  · have h : checkE s = 0 := Classical.not_not.1 (of_decide_eq_false h)
    have hsz := checkE_size h
    refine xl_call _ rfl rfl rfl rfl fn32 rfl rfl (fun E w F _ => both_any s w (by omega)) (fun v u1 u2 hu2 hs2 hv => ?_)
    obtain ⟨x, y, rfl, hx, hy⟩ := hv
    refine xl_go tt_ok ?_
    rw [charsOf, if_pos h, h]
    exact finP (fun E w' F hs hu => ⟨_, rfl, (hx.sub hs2).sub (hs.imm.cutLe _)⟩)

set_option maxRecDepth 100000 in
theorem refSplices_any (s : ByteArray) (w : World) (hs : s.size ≤ 9223372036854775807) : Calls Try.prog 20 #[.string s] w (PureP w (SlT spanY (splicesOf s) (checkE s))) := by
  refine x_fun tt_ok Try.func20 rfl rfl [] 0 [.v (.string s)] rfl rfl rfl rfl (fun b hb => by cases hb) ?_
  refine x_vc tt_ok ?_
  refine xl_call0 (.int .i64 (checkE s)) rfl rfl rfl rfl fn24 rfl rfl (fun E w F _ => refCheck_any s w hs) ?_
  refine xl_go tt_ok ?_
  refine x_if (fun h => ?_) (fun h => ?_)
  · have h := of_decide_eq_true h
    rw [splicesOf, if_neg h]
    exact finP (fun E w' F hs hu => ⟨_, rfl, SlAt.none spanY _⟩)
  · have h : checkE s = 0 := Classical.not_not.1 (of_decide_eq_false h)
    have hsz := checkE_size h
    refine xl_call _ rfl rfl rfl rfl fn32 rfl rfl (fun E w F _ => both_any s w (by omega)) (fun v u1 u2 hu2 hs2 hv => ?_)
    obtain ⟨x, y, rfl, hx, hy⟩ := hv
    refine xl_go tt_ok ?_
    rw [splicesOf, if_pos h, h]
    exact finP (fun E w' F hs hu => ⟨_, rfl, (hy.sub hs2).sub (hs.imm.cutLe _)⟩)

theorem bytes_chrs (L : List Part) : (chrsL L).map (fun c => UInt8.ofNat c.b.toNat) = bytesL L := by
  induction L with
  | nil => rfl
  | cons p L ih => simp only [chrsL, bytesL]; split <;> simp [ih]
end Go.Proofs.Ytjcjbnkimpggeaa
