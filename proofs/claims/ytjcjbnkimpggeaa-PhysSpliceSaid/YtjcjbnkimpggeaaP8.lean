/- A splice more. -/
import Derived.Test.YtjcjbnkimpggeaaP7
namespace Go.Proofs.Ytjcjbnkimpggeaa
open Go.GV Go.RowKit

def bsnl : ByteArray := ⟨#[92, 10]⟩

/-- what is read ahead of a splice that comes in between -/
theorem partP_ahead {x y : ByteArray} {j : Int} (h0 : 0 ≤ j) (h1 : j < x.size) (h2 : j + (partP (x ++ y) j).len ≤ x.size) : partP (x ++ bsnl ++ y) j = partP (x ++ y) j := by
  have z : bsnl.size = 2 := rfl
  have zs := size_app x y
  have zm := size_app x bsnl
  have zs' := size_app (x ++ bsnl) y
  have low : ∀ i : Int, 0 ≤ i → i < x.size → bt (x ++ bsnl ++ y) i = bt (x ++ y) i := fun i k0 k1 => by
    rw [bt_left k0 (by omega), bt_left k0 k1, bt_left k0 k1]
  have at0 : bt (x ++ bsnl ++ y) x.size = 92 := by
    rw [bt_left (by omega) (by omega), show (x.size : Int) = 0 + x.size by omega, bt_right (Int.le_refl _)]; rfl
  have hp := chN_pos (x ++ y) j
  rw [partP_len_eq] at h2
  have hN : chN (x ++ y) j ≤ x.size - j := by split at h2 <;> omega
  have et : triB (x ++ bsnl ++ y) j = triB (x ++ y) j := by
    by_cases hj : j + 2 < x.size
    · unfold triB
      rw [low j h0 h1, low (j + 1) (by omega) (by omega), low (j + 2) (by omega) hj, decide_eq_true (show j + 2 < ((x ++ bsnl ++ y).size : Int) by omega), decide_eq_true (show j + 2 < ((x ++ y).size : Int) by omega)]
    · have e1 : triB (x ++ y) j = false := by
        cases ht : triB (x ++ y) j
        · rfl
        · rw [chN, if_pos ht] at hN; omega
      rw [e1]
      unfold triB
      by_cases hj1 : j + 1 < x.size
      · rw [show j + 2 = (x.size : Int) by omega, at0, isThird92]; simp
      · rw [show j + 1 = (x.size : Int) by omega, at0]; simp
  have e3 : triB (x ++ y) j = true → bt (x ++ bsnl ++ y) (j + 2) = bt (x ++ y) (j + 2) := fun ht => by
    rw [chN, if_pos ht] at hN
    exact low _ (by omega) (by omega)
  refine partP_congr et (low j h0 h1) e3 ?_
  have eN : chN (x ++ bsnl ++ y) j = chN (x ++ y) j := by unfold chN; rw [et]
  have eB : chB (x ++ bsnl ++ y) j = chB (x ++ y) j := by
    unfold chB; rw [et, low j h0 h1]
    by_cases ht : triB (x ++ y) j = true
    · rw [if_pos ht, if_pos ht, e3 ht]
    · rw [if_neg ht, if_neg ht]
  by_cases hj : j + chN (x ++ y) j < x.size
  · unfold spl
    rw [eN, eB, low _ (by omega) hj, decide_eq_true (show j + chN (x ++ y) j < ((x ++ bsnl ++ y).size : Int) by omega), decide_eq_true (show j + chN (x ++ y) j < ((x ++ y).size : Int) by omega)]
  · have e5 : spl (x ++ y) j = false := by
      cases hs : spl (x ++ y) j
      · rfl
      · rw [hs, if_pos rfl] at h2; omega
    rw [e5]
    refine spl_false_of fun _ _ hb => ?_
    rw [eN, show j + chN (x ++ y) j = (x.size : Int) by omega, at0] at hb
    cases hb

theorem partP_bsnl {x y : ByteArray} : partP (x ++ bsnl ++ y) x.size = ⟨0, x.size, 2, true⟩ := by
  have z : bsnl.size = 2 := rfl
  have zm := size_app x bsnl
  have zs' := size_app (x ++ bsnl) y
  have at0 : bt (x ++ bsnl ++ y) x.size = 92 := by
    rw [bt_left (by omega) (by omega), show (x.size : Int) = 0 + x.size by omega, bt_right (Int.le_refl _)]; rfl
  have at1 : bt (x ++ bsnl ++ y) (x.size + 1) = 10 := by
    rw [bt_left (by omega) (by omega), show (x.size : Int) + 1 = 1 + x.size by omega, bt_right (by decide)]; rfl
  have et : triB (x ++ bsnl ++ y) x.size = false := by unfold triB; rw [at0]; simp
  have eN : chN (x ++ bsnl ++ y) x.size = 1 := by rw [chN, if_neg (by rw [et]; simp)]
  have es : spl (x ++ bsnl ++ y) x.size = true := by
    unfold spl
    rw [eN, chB, if_neg (by rw [et]; simp), at0, at1, decide_eq_true (show (x.size : Int) + 1 < ((x ++ bsnl ++ y).size : Int) by omega)]; rfl
  rw [partP, if_pos es, eN]; rfl

/-- a splice more, ahead of a part -/
theorem splice_parts {x y : ByteArray} {pre rest : List Part} {p : Part} (h : partsV (x ++ y) = pre ++ p :: rest) (hp : p.pos = x.size) :
    partsV (x ++ bsnl ++ y) = pre ++ ⟨0, x.size, 2, true⟩ :: (partsV y).map (Part.shift (x.size + 2)) ∧ partsV (x ++ y) = pre ++ (partsV y).map (Part.shift x.size) ∧ ∀ q ∈ pre, q.pos + q.len ≤ x.size := by
  have z : bsnl.size = 2 := rfl
  have zs := size_app x y
  have zm := size_app x bsnl
  have zs' := size_app (x ++ bsnl) y
  obtain ⟨q, k1, k2, k3, k4, k5⟩ := parts_split pre 0 (p :: rest) (Int.le_refl _) (by omega) h
  have hq : q < (x ++ y).size := by
    by_cases hq : q < (x ++ y).size
    · exact hq
    · rw [partsAt_end hq] at k3; cases k3
  have hqx : q = x.size := by
    rw [partsAt_eq k1 hq, List.cons.injEq] at k3
    rw [← hp, k3.1, partP_pos]
  subst hqx
  have hy := partsAt_right (a := x) (b := y) y.size 0 (Int.le_refl _) (by omega)
  have hy' := partsAt_right (a := x ++ bsnl) (b := y) y.size 0 (Int.le_refl _) (by omega)
  rw [Int.zero_add] at hy hy'
  refine ⟨?_, ?_, k5⟩
  · have e := k4 (x ++ bsnl ++ y) (by omega) (fun j h0 h1 h2 => partP_ahead h0 h1 h2)
    rw [show partsV (x ++ bsnl ++ y) = partsAt (x ++ bsnl ++ y) 0 from rfl, e, partsAt_eq (by omega) (by omega), partP_bsnl]
    rw [show (x.size : Int) + (⟨0, x.size, 2, true⟩ : Part).len = ((x ++ bsnl).size : Int) by rw [zm, z]; rfl, hy', zm, z]
    rfl
  · rw [h, k3, hy]; rfl

theorem sub_split (s : ByteArray) {q : Int} (h0 : 0 ≤ q) (h1 : q ≤ s.size) : sub s 0 q ++ sub s q s.size = s := by
  unfold sub
  have : ByteArray.extract s (Int.toNat 0) q.toNat ++ s.extract q.toNat (Int.toNat s.size) = s.extract (Int.toNat 0) (Int.toNat s.size) := by
    rw [ByteArray.extract_append_extract]
    congr 1 <;> omega
  rw [this]
  simp

theorem chrsL_get {c : Chr} : ∀ {L : List Part} {k : Nat}, (chrsL L)[k]? = some c → ∃ pre p rest, L = pre ++ p :: rest ∧ p.pos = c.pos
  | [], _, h => by cases h
  | q :: L, k, h => by
    simp only [chrsL] at h
    split at h
    · obtain ⟨pre, p, rest, e1, e2⟩ := chrsL_get h
      exact ⟨q :: pre, p, rest, by rw [e1]; rfl, e2⟩
    · cases k with
      | zero => simp at h; subst h; exact ⟨[], q, L, rfl, rfl⟩
      | succ k =>
        simp at h
        obtain ⟨pre, p, rest, e1, e2⟩ := chrsL_get h
        exact ⟨q :: pre, p, rest, by rw [e1]; rfl, e2⟩

theorem splice_law (s : ByteArray) {k : Int} (es : checkE s = 0) (k0 : 0 ≤ k) (k1 : k < (charsOf s).length) (hl : s.size + 2 ≤ 65536) :
    (sub s 0 ((charsOf s).getD k.toNat charY.dft).pos ++ bsnl ++ sub s ((charsOf s).getD k.toNat charY.dft).pos s.size).size ≤ 65536 ∧
    checkE (sub s 0 ((charsOf s).getD k.toNat charY.dft).pos ++ bsnl ++ sub s ((charsOf s).getD k.toNat charY.dft).pos s.size) = 0 ∧
    logicalOf (sub s 0 ((charsOf s).getD k.toNat charY.dft).pos ++ bsnl ++ sub s ((charsOf s).getD k.toNat charY.dft).pos s.size) = logicalOf s := by
  have ec : charsOf s = chrsL (partsV s) := by rw [charsOf, if_pos es]
  have hk : k.toNat < (charsOf s).length := by omega
  have hc : (chrsL (partsV s))[k.toNat]? = some ((charsOf s).getD k.toNat charY.dft) := by
    rw [← ec, List.getD_eq_getElem?_getD, List.getElem?_eq_getElem hk]; rfl
  generalize hq0 : ((charsOf s).getD k.toNat charY.dft) = c at hc ⊢
  obtain ⟨pre, p, rest, e1, e2⟩ := chrsL_get hc
  obtain ⟨b0, b1, _⟩ := partsV_mem (s := s) (p := p) (by rw [e1]; simp)
  rw [e2] at b0 b1
  generalize c.pos = q at e2 b0 b1 ⊢
  have hs := sub_split s b0 (by omega)
  have zx : ((sub s 0 q).size : Int) = q := by rw [sub_size (Int.le_refl _) b0 (by omega)]; omega
  have zy : ((sub s q s.size).size : Int) = s.size - q := sub_size b0 (by omega) (by omega)
  generalize sub s 0 q = x at hs zx ⊢
  generalize sub s q s.size = y at hs zy ⊢
  rw [← hs] at e1
  obtain ⟨p1, p2, p3⟩ := splice_parts e1 (by rw [e2, zx])
  have z : bsnl.size = 2 := rfl
  have zs := size_app x y
  have zm := size_app x bsnl
  have zs' := size_app (x ++ bsnl) y
  have zz : (x ++ bsnl ++ y).size ≤ 65536 := by omega
  have hne : ∀ n : Int, (x.size : Int) < n → ∀ p ∈ pre, p.pos + p.len ≠ n := fun n hn p hp => by have := p3 p hp; omega
  have c0 : checkL y.size (partsV y) = 0 := by
    have := es
    rw [← hs, checkE_of (by omega), p2, zs, checkL_skip (hne _ (by omega)), checkL_shift] at this
    exact this
  have c1 : checkE (x ++ bsnl ++ y) = 0 := by
    rw [checkE_of zz, p1, zs', zm, checkL_skip (hne _ (by omega))]
    simp only [checkL]
    rw [if_neg (by omega), show (x.size : Int) + (bsnl.size : Int) = x.size + 2 by omega, checkL_shift]
    exact c0
  refine ⟨zz, c1, ?_⟩
  rw [logicalOf, logicalOf, if_pos c1, if_pos es, p1, ← hs, p2, bytesL_append, bytesL_append, bytesL_shift]
  simp only [bytesL]
  rw [if_pos trivial, bytesL_shift]
end Go.Proofs.Ytjcjbnkimpggeaa
