/- PhysNames: its walk. -/
import Derived.Test.YtjcjbnkimpggeaaP6
import Derived.Test.YtjcjbnkimpggeaaP7
import Derived.Test.YtjcjbnkimpggeaaGX
namespace Go.Proofs.Ytjcjbnkimpggeaa
open Go.GV Go.RowKit

deriving instance DecidableEq for Chr
deriving instance DecidableEq for Spn

theorem n_chars : charsOf aliveIn = [⟨97, 0, 1⟩, ⟨35, 1, 3⟩, ⟨98, 6, 1⟩, ⟨10, 7, 1⟩] := by decide +kernel
theorem n_splices : splicesOf aliveIn = [⟨4, 6⟩] := by decide +kernel
theorem n_log : logicalOf ⟨#[63, 92, 10, 63, 61, 10]⟩ = ⟨#[63, 63, 61, 10]⟩ ∧ checkE ⟨#[63, 92, 10, 63, 61, 10]⟩ = 0 := by decide +kernel
theorem n_sp1 : spellS ⟨#[63, 63, 61, 10]⟩ = ⟨#[63, 92, 10, 63, 61, 10]⟩ ∧ spellE ⟨#[63, 63, 61, 10]⟩ = 0 := by decide +kernel
theorem n_sp2 : spellS ⟨#[92, 10]⟩ = ⟨#[92, 92, 10, 10]⟩ ∧ spellE ⟨#[92, 10]⟩ = 0 := by decide +kernel
theorem n_sp3 : spellE ⟨#[97]⟩ = 10 := by decide +kernel
theorem n_c1 : checkE ⟨#[97]⟩ = 10 := by decide +kernel
theorem n_c2 : checkE ⟨#[97, 92, 10]⟩ = 10 := by decide +kernel
theorem n_c3 : checkE ⟨#[97, 92, 92, 10]⟩ = 10 := by decide +kernel
theorem n_c4 : checkE ⟨#[]⟩ = 0 := by decide +kernel
theorem n_c5 : checkE ⟨#[97, 63, 63, 47, 10]⟩ = 10 := by decide +kernel
theorem n_c6 : checkE ⟨#[10]⟩ = 0 := by decide +kernel

/-- line ends alone -/
def nls (n : Nat) : ByteArray := ⟨(List.replicate n (10 : UInt8)).toArray⟩

theorem nls_size (n : Nat) : (nls n).size = n := by
  show ((List.replicate n (10 : UInt8)).toArray).size = n
  rw [List.size_toArray, List.length_replicate]

theorem nls_bt (n : Nat) {i : Int} (h0 : 0 ≤ i) (h1 : i < n) : bt (nls n) i = 10 := by
  unfold bt
  show (((List.replicate n (10 : UInt8)).toArray.toList.getD i.toNat 0).toNat : Int) = 10
  rw [List.toList_toArray, List.getD_eq_getElem?_getD, List.getElem?_replicate, if_pos (by omega)]; rfl

theorem nls_part (n : Nat) {i : Int} (h0 : 0 ≤ i) (h1 : i < n) : partP (nls n) i = ⟨10, i, 1, false⟩ := by
  have e := nls_bt n h0 h1
  have ht : triB (nls n) i = false := by unfold triB; rw [e]; simp
  have hN : chN (nls n) i = 1 := by rw [chN, if_neg (by rw [ht]; simp)]
  have hB : chB (nls n) i = 10 := by rw [chB, if_neg (by rw [ht]; simp), e]
  have hS : spl (nls n) i = false := by unfold spl; rw [hB]; rfl
  rw [partP, if_neg (by rw [hS]; simp), hN, hB]

theorem nls_all (n : Nat) : ∀ (m : Nat) (i : Int), 0 ≤ i → n - i ≤ m → checkL n (partsAt (nls n) i) = 0
  | 0, i, h0, h => by rw [partsAt_end (by rw [nls_size]; omega)]; rfl
  | m + 1, i, h0, h => by
    by_cases hi : i < n
    · rw [partsAt_eq h0 (by rw [nls_size]; exact hi), nls_part n h0 hi]
      simp only [checkL]
      split
      · rfl
      · exact nls_all n m (i + 1) (by omega) (by omega)
    · rw [partsAt_end (by rw [nls_size]; exact hi)]; rfl

theorem nls_check {n : Nat} (h : n ≤ 65536) : checkE (nls n) = 0 := by
  rw [checkE_of (by rw [nls_size]; exact h), nls_size]
  exact nls_all n n 0 (Int.le_refl _) (by omega)

theorem nls_long {n : Nat} (h : 65536 < n) : checkE (nls n) = 3 ∧ spellE (nls n) = 3 := by
  constructor
  · rw [checkE, if_pos (by rw [nls_size]; exact h)]
  · unfold spellE; rw [if_pos (by rw [nls_size]; exact h)]
end Go.Proofs.Ytjcjbnkimpggeaa
