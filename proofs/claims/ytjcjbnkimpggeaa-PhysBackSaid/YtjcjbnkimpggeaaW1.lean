/- What is spelt: its parts (a plain law). -/
import Derived.Test.YtjcjbnkimpggeaaV1
import Derived.Test.YtjcjbnkimpggeaaU1
namespace Go.Proofs.Ytjcjbnkimpggeaa
open Go.GV Go.RowKit

def tailF (l : ByteArray) : Nat → Nat → List UInt8
  | 0, _ => []
  | n + 1, k => spellAt l k ++ tailF l n (k + 1)

theorem spellUp_add (l : ByteArray) : ∀ n k : Nat, spellUp l (k + n) = spellUp l k ++ tailF l n k
  | 0, k => by simp [tailF]
  | n + 1, k => by
    rw [show k + (n + 1) = (k + 1) + n by omega, spellUp_add l n (k + 1)]
    simp only [spellUp, tailF, List.append_assoc]

/-- a spelt text -/
def spelt (l : ByteArray) : ByteArray := ⟨(spellUp l l.size).toArray⟩
def posOf (l : ByteArray) (k : Nat) : Nat := (spellUp l k).length

theorem spelt_size (l : ByteArray) : (spelt l).size = posOf l l.size := by
  show ((spellUp l l.size).toArray).size = _
  rw [List.size_toArray]; rfl

theorem bt_spelt (l : ByteArray) {k : Nat} (hk : k ≤ l.size) (j : Nat) : bt (spelt l) ((posOf l k : Int) + j) = (((tailF l (l.size - k) k).getD j 0).toNat : Int) := by
  unfold bt
  have e : spellUp l l.size = spellUp l k ++ tailF l (l.size - k) k := by rw [← spellUp_add]; congr 1; omega
  have hn : ((posOf l k : Int) + j).toNat = posOf l k + j := by omega
  rw [hn]
  show ((((spellUp l l.size).toArray.toList).getD _ _).toNat : Int) = _
  rw [List.toList_toArray, e, List.getD_eq_getElem?_getD, List.getD_eq_getElem?_getD, List.getElem?_append_right (by unfold posOf; omega)]
  rw [show posOf l k + j - (spellUp l k).length = j by unfold posOf; omega]

theorem tail_step (l : ByteArray) {k : Nat} (hk : k < l.size) : tailF l (l.size - k) k = spellAt l k ++ tailF l (l.size - (k + 1)) (k + 1) := by
  rw [show l.size - k = (l.size - (k + 1)) + 1 by omega]; rfl

theorem byteAt_bt (l : ByteArray) (i : Int) : ((byteAt l i).toNat : Int) = bt l i := rfl

theorem posOf_succ (l : ByteArray) (k : Nat) : posOf l (k + 1) = posOf l k + (if parted l k = true then 3 else 1) := by
  unfold posOf
  simp only [spellUp, List.length_append, spellAt]
  split <;> simp

theorem sp_at0 (l : ByteArray) {k : Nat} (hk : k < l.size) : bt (spelt l) (posOf l k) = bt l k := by
  have := bt_spelt l (k := k) (by omega) 0
  rw [tail_step l hk, spellAt] at this
  simpa [byteAt_bt] using this

theorem sp_at1 (l : ByteArray) {k : Nat} (hk : k < l.size) (hp : parted l k = true) : bt (spelt l) (posOf l k + 1) = 92 ∧ bt (spelt l) (posOf l k + 2) = 10 := by
  have h1 := bt_spelt l (k := k) (by omega) 1
  have h2 := bt_spelt l (k := k) (by omega) 2
  rw [tail_step l hk, spellAt, if_pos hp] at h1 h2
  exact ⟨h1, h2⟩

theorem posOf_lt (l : ByteArray) {k : Nat} (hk : k < l.size) : posOf l k < (spelt l).size := by
  rw [spelt_size]
  have : ∀ n, posOf l k ≤ posOf l (k + n) := fun n => by
    induction n with
    | zero => exact Nat.le_refl _
    | succ n ih => rw [← Nat.add_assoc, posOf_succ]; split <;> omega
  have h2 := this (l.size - (k + 1))
  have h3 := posOf_succ l (k + (l.size - (k + 1)))
  rw [show k + (l.size - (k + 1)) + 1 = l.size by omega] at h3
  split at h3 <;> omega

theorem posOf_le (l : ByteArray) {k : Nat} (hk : k ≤ l.size) : posOf l k ≤ (spelt l).size := by
  rcases Nat.lt_or_ge k l.size with h | h
  · exact Nat.le_of_lt (posOf_lt l h)
  · rw [show k = l.size by omega, spelt_size]; exact Nat.le_refl _

theorem parted_tri {l : ByteArray} {k : Int} (h : isTri l k = true) : parted l k = true := by unfold parted; rw [h]; simp
theorem parted_bs {l : ByteArray} {k : Int} (h0 : k + 1 < l.size) (h1 : bt l k = 92) (h2 : bt l (k + 1) = 10) : parted l k = true := by
  unfold parted; rw [decide_eq_true h0, decide_eq_true h1, decide_eq_true h2]; rfl

/-- a byte of a text is a character of what is spelt -/
theorem sp_char (l : ByteArray) {k : Nat} (hk : k < l.size) : partP (spelt l) (posOf l k) = ⟨bt l k, posOf l k, 1, false⟩ := by
  have e0 := sp_at0 l hk
  have hs := posOf_succ l k
  have ht : triB (spelt l) (posOf l k) = false := by
    cases ht : triB (spelt l) (posOf l k)
    · rfl
    · exfalso
      obtain ⟨t1, t2, t3, t4⟩ := ltB ht
      cases hp : parted l k
      · rw [hp, if_neg (by simp)] at hs
        have hk1 : k + 1 < l.size := by
          rcases Nat.lt_or_ge (k + 1) l.size with h | h
          · exact h
          · have := spelt_size l; rw [show l.size = k + 1 by omega] at this; omega
        have e1 := sp_at0 l hk1
        rw [hs] at e1
        rw [show ((posOf l k + 1 : Nat) : Int) = (posOf l k : Int) + 1 by omega, t3] at e1
        cases hp1 : parted l ((k + 1 : Nat) : Int)
        · have hs1 := posOf_succ l (k + 1)
          rw [hp1, if_neg (by simp)] at hs1
          have hk2 : k + 2 < l.size := by
            rcases Nat.lt_or_ge (k + 2) l.size with h | h
            · exact h
            · have := spelt_size l; rw [show l.size = k + 1 + 1 by omega] at this; omega
          have e2 := sp_at0 l hk2
          rw [show posOf l (k + 2) = posOf l k + 2 by rw [show k + 2 = k + 1 + 1 by omega]; omega] at e2
          rw [show ((posOf l k + 2 : Nat) : Int) = (posOf l k : Int) + 2 by omega] at e2
          have : isTri l k = true := by
            unfold isTri
            rw [decide_eq_true (show (k : Int) + 3 ≤ l.size by omega), ← e0, t2, show (k : Int) + 1 = ((k + 1 : Nat) : Int) by omega, ← e1, show (k : Int) + 2 = ((k + 2 : Nat) : Int) by omega, ← e2, t4]; rfl
          rw [parted_tri this] at hp; cases hp
        · have := (sp_at1 l hk1 hp1).1
          rw [hs, show (((posOf l k + 1 : Nat) : Int) + 1) = (posOf l k : Int) + 2 by omega] at this
          rw [this, isThird92] at t4; cases t4
      · have := (sp_at1 l hk hp).1
        rw [this] at t3; cases t3
  have hN : chN (spelt l) (posOf l k) = 1 := by rw [chN, if_neg (by rw [ht]; simp)]
  have hB : chB (spelt l) (posOf l k) = bt l k := by rw [chB, if_neg (by rw [ht]; simp), e0]
  have hS : spl (spelt l) (posOf l k) = false := by
    refine spl_false_of fun h1 h2 h3 => ?_
    rw [hB] at h1
    rw [hN] at h2 h3
    cases hp : parted l k
    · rw [hp, if_neg (by simp)] at hs
      have hk1 : k + 1 < l.size := by
        rcases Nat.lt_or_ge (k + 1) l.size with h | h
        · exact h
        · have := spelt_size l; rw [show l.size = k + 1 by omega] at this; omega
      have e1 := sp_at0 l hk1
      rw [hs, show ((posOf l k + 1 : Nat) : Int) = (posOf l k : Int) + 1 by omega, h3] at e1
      rw [parted_bs (l := l) (k := k) (by omega) h1 (by rw [show (k : Int) + 1 = ((k + 1 : Nat) : Int) by omega]; exact e1.symm)] at hp; cases hp
    · rw [(sp_at1 l hk hp).1] at h3; cases h3
  rw [partP, if_neg (by rw [hS]; simp), hB, hN]

theorem sp_splice (l : ByteArray) {k : Nat} (hk : k < l.size) (hp : parted l k = true) : partP (spelt l) ((posOf l k : Int) + 1) = ⟨0, (posOf l k : Int) + 1, 2, true⟩ := by
  obtain ⟨e1, e2⟩ := sp_at1 l hk hp
  have hs := posOf_succ l k
  rw [hp, if_pos rfl] at hs
  have hle := posOf_le l (k := k + 1) (by omega)
  have ht : triB (spelt l) ((posOf l k : Int) + 1) = false := by unfold triB; rw [e1]; simp
  have hN : chN (spelt l) ((posOf l k : Int) + 1) = 1 := by rw [chN, if_neg (by rw [ht]; simp)]
  have hS : spl (spelt l) ((posOf l k : Int) + 1) = true := by
    unfold spl
    rw [hN, chB, if_neg (by rw [ht]; simp), e1, show (posOf l k : Int) + 1 + 1 = (posOf l k : Int) + 2 by omega, e2, decide_eq_true (show (posOf l k : Int) + 2 < (spelt l).size by omega)]; rfl
  rw [partP, if_pos hS, hN]; rfl

theorem sp_parts (l : ByteArray) {k : Nat} (hk : k < l.size) :
    partsAt (spelt l) (posOf l k) = ⟨bt l k, posOf l k, 1, false⟩ :: (if parted l k = true then [⟨0, (posOf l k : Int) + 1, 2, true⟩] else []) ++ partsAt (spelt l) (posOf l (k + 1)) := by
  have hlt := posOf_lt l hk
  have hs := posOf_succ l k
  rw [partsAt_eq (by omega) (by omega), sp_char l hk]
  show _ :: partsAt (spelt l) ((posOf l k : Int) + 1) = _
  by_cases hp : parted l k = true
  · rw [if_pos hp] at hs
    have hle := posOf_le l (k := k + 1) (by omega)
    rw [if_pos hp, partsAt_eq (by omega) (by omega), sp_splice l hk hp, hs]
    show _ :: _ :: partsAt (spelt l) ((posOf l k : Int) + 1 + 2) = _
    rw [show (posOf l k : Int) + 1 + 2 = ((posOf l k + 3 : Nat) : Int) by omega]; rfl
  · rw [if_neg hp] at hs
    rw [if_neg hp, hs, show ((posOf l k + 1 : Nat) : Int) = (posOf l k : Int) + 1 by omega]; rfl

theorem sp_all (l : ByteArray) (hnl : l.size ≠ 0 → bt l ((l.size : Int) - 1) = 10) : ∀ (n k : Nat), l.size - k = n → k ≤ l.size →
    bytesL (partsAt (spelt l) (posOf l k)) = l.data.toList.drop k ∧ (spelt l).size - posOf l k = (l.size - k) + 2 * (spnsL (partsAt (spelt l) (posOf l k))).length ∧ checkL (spelt l).size (partsAt (spelt l) (posOf l k)) = 0
  | 0, k, hn, hk => by
    have hk' : k = l.size := by omega
    subst hk'
    have hl : l.data.toList.length = l.size := by simp
    rw [partsAt_end (by rw [spelt_size]; omega), List.drop_eq_nil_of_le (by omega), spelt_size]
    refine ⟨rfl, ?_, rfl⟩
    simp [spnsL]
  | n + 1, k, hn, hk => by
    have hk' : k < l.size := by omega
    obtain ⟨h1, h2, h3⟩ := sp_all l hnl n (k + 1) (by omega) (by omega)
    have hs := posOf_succ l k
    have hle := posOf_le l (k := k + 1) (by omega)
    have hl : l.data.toList.length = l.size := by simp
    have hd : l.data.toList.drop k = byteAt l k :: l.data.toList.drop (k + 1) := by
      rw [List.drop_eq_getElem_cons (by omega)]
      congr 1
      unfold byteAt
      rw [List.getD_eq_getElem?_getD, show ((k : Int)).toNat = k by omega, List.getElem?_eq_getElem (by omega)]; rfl
    have hb : UInt8.ofNat (bt l k).toNat = byteAt l k := by
      rw [← byteAt_bt]; simp
    rw [sp_parts l hk', hd]
    have hlast : k + 1 = l.size → bt l k = 10 ∧ ¬ parted l k = true := fun h => by
      have e := hnl (by omega)
      rw [show (l.size : Int) - 1 = k by omega] at e
      refine ⟨e, fun hp => ?_⟩
      unfold parted isTri at hp
      rw [decide_eq_false (show ¬ (k : Int) + 1 < l.size by omega), decide_eq_false (show ¬ (k : Int) + 3 ≤ l.size by omega)] at hp
      cases hp
    have hend : posOf l (k + 1) = (spelt l).size → k + 1 = l.size := fun h => by
      rcases Nat.lt_or_ge (k + 1) l.size with h' | h'
      · have := posOf_lt l h'; omega
      · omega
    by_cases hp : parted l k = true
    · rw [if_pos hp] at hs
      rw [if_pos hp]
      simp only [List.cons_append, List.nil_append, bytesL, spnsL, checkL, List.length_cons]
      refine ⟨?_, ?_, ?_⟩
      · rw [if_neg (by simp), if_pos trivial, hb, h1]
      · rw [if_neg (by simp), if_pos trivial, List.length_cons]; omega
      · rw [if_neg (by omega), if_neg (fun h => (hlast (hend (by omega))).2 hp), h3]
    · rw [if_neg hp] at hs
      rw [if_neg hp]
      simp only [List.cons_append, List.nil_append, bytesL, spnsL, checkL]
      refine ⟨?_, ?_, ?_⟩
      · rw [if_neg (by simp), hb, h1]
      · rw [if_neg (by simp)]; omega
      · by_cases he : (posOf l k : Int) + 1 = (spelt l).size
        · rw [if_pos he, (hlast (hend (by omega))).1]; rfl
        · rw [if_neg he, h3]

theorem spell_law (l : ByteArray) (h : spellE l = 0) : checkE (spellS l) = 0 ∧ logicalOf (spellS l) = l ∧ ((spellS l).size : Int) = l.size + 2 * (splicesOf (spellS l)).length := by
  have h' := h
  unfold spellE at h'
  split at h'
  · cases h'
  · rename_i k1
    split at h'
    · cases h'
    · rename_i k2
      split at h'
      · cases h'
      · rename_i k3
        have es : spellS l = spelt l := by unfold spellS; rw [if_neg k1, if_neg k2, if_neg k3]; rfl
        have hnl : l.size ≠ 0 → bt l ((l.size : Int) - 1) = 10 := fun h0 => by
          unfold ends at k2
          rw [decide_eq_false (fun e => h0 (size_empty.1 e))] at k2
          simpa using k2
        obtain ⟨p1, p2, p3⟩ := sp_all l hnl l.size 0 rfl (by omega)
        have ez := spelt_size l
        have hz : (spelt l).size ≤ 65536 := by rw [ez]; unfold posOf; omega
        have e0 : partsAt (spelt l) (posOf l 0) = partsV (spelt l) := rfl
        rw [e0] at p1 p2 p3
        have hc : checkE (spelt l) = 0 := by rw [checkE_of hz]; exact p3
        rw [es]
        refine ⟨hc, ?_, ?_⟩
        · rw [logicalOf, if_pos hc, p1]; simp
        · rw [splicesOf, if_pos hc]
          have : posOf l 0 = 0 := rfl
          omega

theorem spell_none (l : ByteArray) (h : spellE l ≠ 0) : spellS l = ⟨#[]⟩ := by
  unfold spellE at h
  unfold spellS
  split
  · rfl
  · rename_i k1
    rw [if_neg k1] at h
    split
    · rfl
    · rename_i k2
      rw [if_neg k2] at h
      split
      · rfl
      · rename_i k3
        rw [if_neg k3] at h
        exact absurd rfl h
end Go.Proofs.Ytjcjbnkimpggeaa
