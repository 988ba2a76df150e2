/- Parts of a text, and of what is made of it: plain laws. -/
import Derived.Test.YtjcjbnkimpggeaaP6
namespace Go.Proofs.Ytjcjbnkimpggeaa
open Go.GV Go.RowKit

theorem bt_left {a b : ByteArray} {i : Int} (h0 : 0 ≤ i) (h : i < a.size) : bt (a ++ b) i = bt a i := by
  unfold bt
  have hl : a.data.toList.length = a.size := by simp
  rw [ByteArray.data_append, Array.toList_append, List.getD_eq_getElem?_getD, List.getD_eq_getElem?_getD, List.getElem?_append_left (by omega)]

theorem bt_right {a b : ByteArray} {i : Int} (h0 : 0 ≤ i) : bt (a ++ b) (i + a.size) = bt b i := by
  unfold bt
  have hl : a.data.toList.length = a.size := by simp
  rw [ByteArray.data_append, Array.toList_append, List.getD_eq_getElem?_getD, List.getD_eq_getElem?_getD, List.getElem?_append_right (by omega)]
  rw [show (i + (a.size : Int)).toNat - a.data.toList.length = i.toNat by omega]

def Part.shift (n : Int) (p : Part) : Part := ⟨p.b, p.pos + n, p.len, p.sp⟩

theorem size_app (a b : ByteArray) : ((a ++ b).size : Int) = a.size + b.size := by rw [ByteArray.size_append]; omega

theorem decide_lt_add {x y k : Int} : decide (x + k < k + y) = decide (x < y) := by
  by_cases h : x < y
  · rw [decide_eq_true h, decide_eq_true (by omega)]
  · rw [decide_eq_false h, decide_eq_false (by omega)]

theorem triB_right {a b : ByteArray} {i : Int} (h0 : 0 ≤ i) : triB (a ++ b) (i + a.size) = triB b i := by
  unfold triB
  rw [size_app, show i + (a.size : Int) + 2 = (i + 2) + a.size by omega, show i + (a.size : Int) + 1 = (i + 1) + a.size by omega,
    bt_right h0, bt_right (by omega), bt_right (by omega), decide_lt_add]

theorem chB_right {a b : ByteArray} {i : Int} (h0 : 0 ≤ i) : chB (a ++ b) (i + a.size) = chB b i := by
  unfold chB
  rw [triB_right h0, show i + (a.size : Int) + 2 = (i + 2) + a.size by omega, bt_right h0, bt_right (by omega)]

theorem chN_right {a b : ByteArray} {i : Int} (h0 : 0 ≤ i) : chN (a ++ b) (i + a.size) = chN b i := by
  unfold chN
  rw [triB_right h0]

theorem chN_pos (s : ByteArray) (i : Int) : chN s i = 1 ∨ chN s i = 3 := by unfold chN; split <;> simp

theorem spl_right {a b : ByteArray} {i : Int} (h0 : 0 ≤ i) : spl (a ++ b) (i + a.size) = spl b i := by
  have := chN_pos b i
  unfold spl
  rw [chB_right h0, chN_right h0, show i + (a.size : Int) + chN b i = (i + chN b i) + a.size by omega, bt_right (by omega), size_app, decide_lt_add]

theorem partP_right {a b : ByteArray} {i : Int} (h0 : 0 ≤ i) : partP (a ++ b) (i + a.size) = (partP b i).shift a.size := by
  unfold partP
  rw [spl_right h0, chB_right h0, chN_right h0]
  split <;> rfl

theorem partsF_fuel (s : ByteArray) : ∀ (n m : Nat) (i : Int), 0 ≤ i → s.size - i ≤ n → s.size - i ≤ m → partsF s n i = partsF s m i
  | 0, m, i, _, h1, _ => by rw [partsF_end s (n := m) (by omega)]; rfl
  | n + 1, 0, i, _, _, h2 => by rw [partsF_end s (by omega)]; rfl
  | n + 1, m + 1, i, h0, h1, h2 => by
    simp only [partsF]
    split
    · rename_i h
      have := partP_len s h0 h
      rw [partsF_fuel s n m _ (by omega) (by omega) (by omega)]
    · rfl

def partsAt (s : ByteArray) (i : Int) : List Part := partsF s s.size i

theorem partsAt_eq {s : ByteArray} {i : Int} (h0 : 0 ≤ i) (h : i < s.size) : partsAt s i = partP s i :: partsAt s (i + (partP s i).len) := by
  have hl := partP_len s h0 h
  obtain ⟨m, e1, e2⟩ := partsF_step s h (n := s.size) (by omega) h0
  unfold partsAt
  rw [e1, partsF_fuel s m s.size _ (by omega) e2 (by omega)]

theorem partsAt_end {s : ByteArray} {i : Int} (h : ¬ i < s.size) : partsAt s i = [] := partsF_end s h

/-- parts up to a place are those of any text that has the same ones up to there -/
theorem parts_split {s : ByteArray} : ∀ (pre : List Part) (i : Int) (rest : List Part), 0 ≤ i → i ≤ s.size → partsAt s i = pre ++ rest →
    ∃ q, i ≤ q ∧ q ≤ s.size ∧ rest = partsAt s q ∧ (∀ s' : ByteArray, q ≤ s'.size → (∀ j, 0 ≤ j → j < q → j + (partP s j).len ≤ q → partP s' j = partP s j) → partsAt s' i = pre ++ partsAt s' q) ∧ ∀ p ∈ pre, p.pos + p.len ≤ q
  | [], i, rest, _, h1, h => ⟨i, Int.le_refl _, h1, by rw [h]; rfl, fun _ _ _ => rfl, fun p hp => by cases hp⟩
  | p :: pre, i, rest, h0, h1, h => by
    by_cases hi : i < s.size
    · rw [partsAt_eq h0 hi] at h
      have hl := partP_len s h0 hi
      simp only [List.cons_append, List.cons.injEq] at h
      obtain ⟨q, k1, k2, k3, k4, k5⟩ := parts_split pre (i + (partP s i).len) rest (by omega) hl.2 h.2
      refine ⟨q, by omega, k2, k3, fun s' hs' H => ?_, fun x hx => ?_⟩
      · rw [partsAt_eq h0 (by omega), H i h0 (by omega) k1, k4 s' hs' H, h.1]; rfl
      · rcases List.mem_cons.1 hx with rfl | hx
        · rw [← h.1, partP_pos]; exact k1
        · exact k5 x hx
    · rw [partsAt_end hi] at h; cases h

theorem partsAt_right {a b : ByteArray} : ∀ (n : Nat) (i : Int), 0 ≤ i → b.size - i ≤ n → partsAt (a ++ b) (i + a.size) = (partsAt b i).map (Part.shift a.size)
  | 0, i, h0, h => by rw [partsAt_end (by rw [size_app]; omega), partsAt_end (by omega)]; rfl
  | n + 1, i, h0, h => by
    by_cases hi : i < b.size
    · have hl := partP_len b h0 hi
      rw [partsAt_eq h0 hi, partsAt_eq (by omega) (by rw [size_app]; omega), partP_right h0]
      simp only [List.map_cons]
      rw [show i + (a.size : Int) + ((partP b i).shift a.size).len = (i + (partP b i).len) + a.size by simp only [Part.shift]; omega,
        partsAt_right n _ (by omega) (by omega)]
    · rw [partsAt_end (by rw [size_app]; omega), partsAt_end hi]; rfl

theorem third_ne10 (c : Int) : third c ≠ 10 := by unfold third; (repeat' split) <;> decide

theorem partP_char {s : ByteArray} {i : Int} (h : (partP s i).sp = false) : spl s i = false ∧ partP s i = ⟨chB s i, i, chN s i, false⟩ := by
  unfold partP at h ⊢
  split
  · rename_i hs; rw [if_pos hs] at h; cases h
  · rename_i hs; exact ⟨by simpa using hs, rfl⟩

theorem partP_splice {s : ByteArray} {i : Int} (h : (partP s i).sp = true) : spl s i = true ∧ partP s i = ⟨0, i, chN s i + 1, true⟩ := by
  unfold partP at h ⊢
  split
  · rename_i hs; exact ⟨hs, rfl⟩
  · rename_i hs; rw [if_neg hs] at h; cases h

/-- a text that ends well ends with a line end -/
theorem last_nl {s : ByteArray} (h : checkE s = 0) (h0 : s.size ≠ 0) : bt s ((s.size : Int) - 1) = 10 := by
  have hsz := checkE_size h
  have e : checkL s.size (partsV s) = 0 := by rw [checkE, if_neg (by omega)] at h; exact h
  obtain ⟨p, hp, h1, h2, h3⟩ := checkL_zero e (partsF_last s s.size 0 (Int.le_refl _) (by omega) (by omega))
  obtain ⟨q0, q1, q2, q3, q4⟩ := partsV_mem hp
  rw [q4] at h1 h2 h3
  obtain ⟨c1, c2⟩ := partP_char h1
  rw [c2] at h2 h3
  have h2 : chB s p.pos = 10 := h2
  have h3 : p.pos + chN s p.pos = s.size := h3
  have ht : triB s p.pos = false := by
    cases ht : triB s p.pos
    · rfl
    · rw [chB, if_pos ht] at h2; exact absurd h2 (third_ne10 _)
  rw [chB, if_neg (by rw [ht]; simp)] at h2
  rw [chN, if_neg (by rw [ht]; simp)] at h3
  rw [show (s.size : Int) - 1 = p.pos by omega]
  exact h2

theorem isThird10 : isThird 10 = false := by decide
theorem isThird92 : isThird 92 = false := by decide

theorem spl_false_of {s : ByteArray} {i : Int} (h : chB s i = 92 → i + chN s i < s.size → bt s (i + chN s i) = 10 → False) : spl s i = false := by
  unfold spl
  cases hb : (decide (chB s i = 92) && decide (i + chN s i < s.size) && decide (bt s (i + chN s i) = 10))
  · rfl
  · rw [Bool.and_eq_true, Bool.and_eq_true, decide_eq_true_eq, decide_eq_true_eq, decide_eq_true_eq] at hb
    exact (h hb.1.1 hb.1.2 hb.2).elim

theorem partP_len_eq (s : ByteArray) (i : Int) : (partP s i).len = chN s i + (if spl s i then 1 else 0) := by
  unfold partP; split
  · rfl
  · simp

/-- what is read at a place hangs on what stands there -/
theorem partP_congr {s s' : ByteArray} {i : Int} (h1 : triB s' i = triB s i) (h2 : bt s' i = bt s i) (h3 : triB s i = true → bt s' (i + 2) = bt s (i + 2)) (h4 : spl s' i = spl s i) : partP s' i = partP s i := by
  have e1 : chN s' i = chN s i := by unfold chN; rw [h1]
  have e2 : chB s' i = chB s i := by
    unfold chB; rw [h1, h2]
    by_cases ht : triB s i = true
    · rw [if_pos ht, if_pos ht, h3 ht]
    · rw [if_neg ht, if_neg ht]
  unfold partP
  rw [h4, e1, e2]

theorem partP_left {a b : ByteArray} (hnl : a.size ≠ 0 → bt a ((a.size : Int) - 1) = 10) {j : Int} (h0 : 0 ≤ j) (h1 : j < a.size) (h2 : j + (partP a j).len ≤ a.size) : partP (a ++ b) j = partP a j := by
  have hnl := hnl (by omega)
  have e0 : bt (a ++ b) j = bt a j := bt_left h0 h1
  have et : triB (a ++ b) j = triB a j := by
    by_cases hj : j + 2 < a.size
    · unfold triB
      rw [e0, bt_left (by omega) (by omega), bt_left (by omega) hj, size_app, decide_eq_true hj, decide_eq_true (by omega)]
    · have e1 : triB a j = false := by unfold triB; rw [decide_eq_false hj]; rfl
      rw [e1]
      unfold triB
      rw [e0]
      by_cases hj1 : j + 1 < a.size
      · rw [bt_left (by omega) hj1, show j + 1 = (a.size : Int) - 1 by omega, hnl]; simp
      · rw [show j = (a.size : Int) - 1 by omega, hnl]; simp
  have e3 : triB a j = true → bt (a ++ b) (j + 2) = bt a (j + 2) := fun ht => by
    unfold triB at ht
    simp only [Bool.and_eq_true, decide_eq_true_eq] at ht
    exact bt_left (by omega) (by omega)
  refine partP_congr et e0 e3 ?_
  have eN : chN (a ++ b) j = chN a j := by unfold chN; rw [et]
  have eB : chB (a ++ b) j = chB a j := by
    unfold chB; rw [et, e0]
    by_cases ht : triB a j = true
    · rw [if_pos ht, if_pos ht, e3 ht]
    · rw [if_neg ht, if_neg ht]
  have hp := chN_pos a j
  by_cases hj : j + chN a j < a.size
  · unfold spl
    rw [eN, eB, bt_left (by omega) hj, size_app, decide_eq_true hj, decide_eq_true (show j + chN a j < (a.size : Int) + b.size by omega)]
  · have e5 : spl a j = false := spl_false_of fun _ h _ => hj h
    rw [e5]
    refine spl_false_of fun hc _ _ => ?_
    rw [eB] at hc
    have hN : j + chN a j = a.size := by rw [partP_len_eq, e5] at h2; simp at h2; omega
    by_cases ht : triB a j = true
    · have hN3 : chN a j = 3 := by rw [chN, if_pos ht]
      have ht2 := ht
      unfold triB at ht2
      simp only [Bool.and_eq_true, decide_eq_true_eq] at ht2
      rw [show j + 2 = (a.size : Int) - 1 by omega, hnl, isThird10] at ht2
      cases ht2.2
    · have hN1 : chN a j = 1 := by rw [chN, if_neg ht]
      rw [chB, if_neg ht, show j = (a.size : Int) - 1 by omega, hnl] at hc
      cases hc

theorem checkL_skip {n : Int} {a b : List Part} (h : ∀ p ∈ a, p.pos + p.len ≠ n) : checkL n (a ++ b) = checkL n b := by
  induction a with
  | nil => rfl
  | cons p a ih =>
    simp only [List.cons_append, checkL]
    rw [if_neg (h p (List.mem_cons_self ..)), ih (fun q hq => h q (List.mem_cons_of_mem _ hq))]

theorem checkL_shift {n k : Int} (L : List Part) : checkL (k + n) (L.map (Part.shift k)) = checkL n L := by
  induction L with
  | nil => rfl
  | cons p L ih =>
    simp only [List.map_cons, checkL, Part.shift]
    by_cases h : p.pos + p.len = n
    · rw [if_pos h, if_pos (by omega)]
    · rw [if_neg h, if_neg (by omega), ih]

theorem chrsL_shift {k : Int} (L : List Part) : chrsL (L.map (Part.shift k)) = (chrsL L).map fun c => ⟨c.b, c.pos + k, c.len⟩ := by
  induction L with
  | nil => rfl
  | cons p L ih =>
    simp only [List.map_cons, chrsL]
    by_cases h : p.sp = true
    · rw [if_pos h, if_pos (by exact h), ih]
    · rw [if_neg h, if_neg (by exact h), ih]; rfl

theorem bytesL_shift {k : Int} (L : List Part) : bytesL (L.map (Part.shift k)) = bytesL L := by
  induction L with
  | nil => rfl
  | cons p L ih =>
    simp only [List.map_cons, bytesL]
    by_cases h : p.sp = true
    · rw [if_pos h, if_pos (by exact h), ih]
    · rw [if_neg h, if_neg (by exact h), ih]; rfl

theorem parts_append {a b : ByteArray} (h : checkE a = 0) : partsV (a ++ b) = partsV a ++ (partsV b).map (Part.shift a.size) := by
  obtain ⟨q, k1, k2, k3, k4, _⟩ := parts_split (s := a) (partsV a) 0 [] (Int.le_refl _) (by omega) (by rw [List.append_nil]; rfl)
  have hq : q = a.size := by
    by_cases hq : q < a.size
    · rw [partsAt_eq k1 hq] at k3; cases k3
    · omega
  subst hq
  have e := k4 (a ++ b) (by rw [size_app]; omega) (fun j h0 h1 h2 => partP_left (last_nl h) h0 h1 h2)
  have e2 := partsAt_right (a := a) (b := b) b.size 0 (Int.le_refl _) (by omega)
  rw [Int.zero_add] at e2
  rw [e2] at e
  exact e

theorem partsV_nil {s : ByteArray} (h : s.size = 0) : partsV s = [] := List.length_eq_zero_iff.1 (by have := partsV_len s; omega)

theorem checkE_of {s : ByteArray} (h : s.size ≤ 65536) : checkE s = checkL s.size (partsV s) := by rw [checkE, if_neg (by omega)]

theorem parts_law (a b : ByteArray) (ea : checkE a = 0) (eb : checkE b = 0) (hl : a.size + b.size ≤ 65536) :
    checkE (a ++ b) = 0 ∧ chrsL (partsV (a ++ b)) = chrsL (partsV a) ++ (chrsL (partsV b)).map fun c => ⟨c.b, c.pos + a.size, c.len⟩ := by
  have e := parts_append (b := b) ea
  have hs := size_app a b
  refine ⟨?_, by rw [e, chrsL_append, chrsL_shift]⟩
  rw [checkE_of (by omega), e, hs]
  by_cases h0 : b.size = 0
  · rw [partsV_nil h0, h0]
    rw [checkE_of (by omega)] at ea
    simpa using ea
  · rw [checkL_skip (fun p hp => by have := partsV_mem hp; omega), checkL_shift, ← checkE_of (by omega)]
    exact eb
end Go.Proofs.Ytjcjbnkimpggeaa
