/- What covers a text: plain laws. -/
import Derived.Test.YtjcjbnkimpggeaaP7
namespace Go.Proofs.Ytjcjbnkimpggeaa
open Go.GV Go.RowKit

theorem ltB {s : ByteArray} {i : Int} (h : triB s i = true) : i + 2 < s.size ∧ bt s i = 63 ∧ bt s (i + 1) = 63 ∧ isThird (bt s (i + 2)) = true := by
  unfold triB at h
  simp only [Bool.and_eq_true, decide_eq_true_eq] at h
  exact ⟨h.1.1.1, h.1.1.2, h.1.2, h.2⟩

theorem u8_of_int {x : UInt8} {n : Nat} (h : ((x.toNat : Int)) = n) (hn : n < 256) : x = UInt8.ofNat n := by
  apply UInt8.toNat_inj.1
  rw [UInt8.toNat_ofNat', Nat.mod_eq_of_lt (by omega)]
  omega

theorem sub_two {s : ByteArray} {i : Int} (h0 : 0 ≤ i) (h : i + 2 ≤ s.size) (h1 : bt s i = 63) (h2 : bt s (i + 1) = 63) : sub s i (i + 2) = ⟨#[63, 63]⟩ := by
  have hl : s.data.toList.length = s.size := by simp
  have g : ∀ j : Int, 0 ≤ j → j < s.size → bt s j = 63 → s.data.toList[j.toNat]? = some 63 := fun j k0 k1 k2 => by
    have hj : j.toNat < s.data.toList.length := by omega
    rw [List.getElem?_eq_getElem hj]
    unfold bt at k2
    rw [List.getD_eq_getElem?_getD, List.getElem?_eq_getElem hj] at k2
    congr 1
    exact u8_of_int (n := 63) k2 (by decide)
  have e1 := g i h0 (by omega) h1
  have e2 := g (i + 1) (by omega) (by omega) h2
  unfold sub
  apply ByteArray.ext
  apply Array.ext'
  rw [ByteArray.data_extract, Array.toList_extract]
  have e : (s.data.toList.extract i.toNat (i + 2).toNat) = [63, 63] := by
    rw [List.extract_eq_take_drop, show (i + 2).toNat - i.toNat = 2 by omega]
    have hd : s.data.toList.drop i.toNat = s.data.toList[i.toNat]'(by omega) :: s.data.toList[i.toNat + 1]'(by omega) :: s.data.toList.drop (i.toNat + 1 + 1) := by
      rw [List.drop_eq_getElem_cons (by omega), List.drop_eq_getElem_cons (by omega)]
    rw [hd]
    rw [List.getElem?_eq_getElem (by omega)] at e1
    rw [show (i + 1).toNat = i.toNat + 1 by omega, List.getElem?_eq_getElem (by omega)] at e2
    rw [Option.some.inj e1, Option.some.inj e2]; rfl
  exact e

theorem cov_splice {s : ByteArray} {i : Int} (h : (partP s i).sp = true) : ((partP s i).len = 2 ∨ (partP s i).len = 4) ∧ bt s (i + (partP s i).len - 1) = 10 := by
  obtain ⟨h1, h2⟩ := partP_splice h
  have hp := chN_pos s i
  rw [h2]
  unfold spl at h1
  simp only [Bool.and_eq_true, decide_eq_true_eq] at h1
  refine ⟨?_, ?_⟩
  · show chN s i + 1 = 2 ∨ chN s i + 1 = 4
    omega
  · show bt s (i + (chN s i + 1) - 1) = 10
    rw [show i + (chN s i + 1) - 1 = i + chN s i by omega]; exact h1.2

theorem cov_char {s : ByteArray} {i : Int} (h : (partP s i).sp = false) :
    ((partP s i).len = 3 ∧ i + 2 < s.size ∧ bt s i = 63 ∧ bt s (i + 1) = 63 ∧ isThird (bt s (i + 2)) = true ∧ (partP s i).b = third (bt s (i + 2))) ∨ ((partP s i).len = 1 ∧ (partP s i).b = bt s i) := by
  obtain ⟨h1, h2⟩ := partP_char h
  rw [h2]
  by_cases ht : triB s i = true
  · obtain ⟨a, b, c, d⟩ := ltB ht
    exact .inl ⟨by show chN s i = 3; rw [chN, if_pos ht], a, b, c, d, by show chB s i = _; rw [chB, if_pos ht]⟩
  · exact .inr ⟨by show chN s i = 1; rw [chN, if_neg ht], by show chB s i = _; rw [chB, if_neg ht]⟩
end Go.Proofs.Ytjcjbnkimpggeaa
