/- CtokBytes: the plain law. -/
import Derived.Test.YtdonomneofdhfaaN27
namespace Go.Proofs.Ytdonomneofdhfaa
open Go.GV Go.RowKit

/-- a byte as three octal digits -/
def octL (c : Int) : List Int := [92, 48 + c / 64, 48 + c / 8 % 8, 48 + c % 8]
theorem oct_elem {c : Int} (h0 : 0 ≤ c) (h1 : c ≤ 255) (r : List Int) : elemP 255 (octL c ++ r) = (c, 4) := by
  have d1 : dg (48 + c / 64) = c / 64 := by unfold dg; rw [if_pos (by simp only [Bool.and_eq_true, decide_eq_true_eq]; omega)]; omega
  have d2 : dg (48 + c / 8 % 8) = c / 8 % 8 := by unfold dg; rw [if_pos (by simp only [Bool.and_eq_true, decide_eq_true_eq]; omega)]; omega
  have d3 : dg (48 + c % 8) = c % 8 := by unfold dg; rw [if_pos (by simp only [Bool.and_eq_true, decide_eq_true_eq]; omega)]; omega
  have hs : simP (48 + c / 64) = -1 := by
    have : simR (48 + c / 64) = 0 := by
      unfold simR
      rw [if_neg (by omega), if_neg (by omega), if_neg (by omega), if_neg (by omega), if_neg (by omega), if_neg (by omega), if_neg (by omega), if_neg (by omega), if_neg (by omega), if_neg (by omega), if_neg (by omega)]
    unfold simP; rw [if_pos this]
  have hr : runB 8 [48 + c / 64, 48 + c / 8 % 8, 48 + c % 8] = 3 := by
    simp only [runB, d1, d2, d3]
    rw [if_pos (by omega), if_pos (by omega), if_pos (by omega)]
  show elemP 255 (92 :: (48 + c / 64) :: (48 + c / 8 % 8) :: (48 + c % 8) :: r) = _
  have ht : ((48 + c / 64) :: (48 + c / 8 % 8) :: (48 + c % 8) :: r).take 3 = [48 + c / 64, 48 + c / 8 % 8, 48 + c % 8] := rfl
  simp only [elemP]
  rw [if_neg (by omega), hs, if_neg (by omega), if_neg (by omega), ht, hr, if_neg (by omega), ht]
  have hv : numF 8 255 0 [48 + c / 64, 48 + c / 8 % 8, 48 + c % 8] = c := by
    simp only [numF, d1, d2, d3]
    rw [if_neg (by omega), if_neg (by omega), if_neg (by omega)]
    omega
  rw [hv]

def octs (B : List Int) : List Int := B.flatMap octL
theorem octs_ys : ∀ (B : List Int) (n : Nat), (∀ c ∈ B, 0 ≤ c ∧ c ≤ 255) → (octs B).length ≤ n → ysF 255 n (octs B) = B
  | [], n, _, _ => ysF_nil 255 n
  | c :: B, n, h, hn => by
    have hc := h c (List.mem_cons_self ..)
    have e : octs (c :: B) = octL c ++ octs B := rfl
    rw [e] at hn ⊢
    have hl : (octL c).length = 4 := rfl
    rw [List.length_append, hl] at hn
    obtain ⟨m, rfl⟩ : ∃ m, n = m + 1 := ⟨n - 1, by omega⟩
    have hel := oct_elem hc.1 hc.2 (octs B)
    have hst : ysF 255 (m + 1) (octL c ++ octs B) = if (elemP 255 (octL c ++ octs B)).1 < 0 then [(elemP 255 (octL c ++ octs B)).1] else (elemP 255 (octL c ++ octs B)).1 :: ysF 255 m ((octL c ++ octs B).drop (elemP 255 (octL c ++ octs B)).2) := rfl
    rw [hst, hel]
    show (if c < 0 then _ else _) = _
    rw [if_neg (by omega)]
    show c :: ysF 255 m (octs B) = _
    rw [octs_ys B m (fun x hx => h x (List.mem_cons_of_mem _ hx)) (by omega)]

/-- what stands in it is no quote, no line end, and each backslash is followed by a digit -/
theorem octs_body : ∀ (B : List Int), (∀ c ∈ B, 0 ≤ c ∧ c ≤ 255) → Lx.bodyN 34 (octs B ++ [34]) = (octs B).length + 1
  | [], _ => rfl
  | c :: B, h => by
    have hc := h c (List.mem_cons_self ..)
    have ih := octs_body B (fun x hx => h x (List.mem_cons_of_mem _ hx))
    have hne : octs B ++ [34] ≠ [] := by simp
    obtain ⟨x, t, ht⟩ := List.exists_cons_of_ne_nil hne
    have e : octs (c :: B) ++ [34] = 92 :: (48 + c / 64) :: (48 + c / 8 % 8) :: (48 + c % 8) :: (octs B ++ [34]) := rfl
    have hl : (octs (c :: B)).length = (octs B).length + 4 := by
      show (octL c ++ octs B).length = _
      rw [List.length_append]; show 4 + _ = _; omega
    rw [e, hl, ht]
    rw [ht] at ih
    have s3 : Lx.bodyN 34 ((48 + c % 8) :: x :: t) = (octs B).length + 2 := by
      rw [Lx.bodyN, decide_eq_false (by omega), decide_eq_false (by omega), decide_eq_false (by omega)]
      simp only [ih]
    have s2 : Lx.bodyN 34 ((48 + c / 8 % 8) :: (48 + c % 8) :: x :: t) = (octs B).length + 3 := by
      rw [Lx.bodyN, decide_eq_false (by omega), decide_eq_false (by omega), decide_eq_false (by omega)]
      simp only [s3]
    rw [Lx.bodyN]
    rw [decide_eq_false (by omega : ¬ (92 : Int) = 10), decide_eq_false (by omega : ¬ (92 : Int) = 34), decide_eq_true rfl, decide_eq_false (by omega)]
    simp only [s2]
end Go.Proofs.Ytdonomneofdhfaa
