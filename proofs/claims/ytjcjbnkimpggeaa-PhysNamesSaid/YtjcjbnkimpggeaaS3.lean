/- How a text is spelt: both programs' answers. -/
import Derived.Test.YtjcjbnkimpggeaaS2
namespace Go.Proofs.Ytjcjbnkimpggeaa
open Go.GV Go.RowKit

def byteAt (s : ByteArray) (i : Int) : UInt8 := s.data.toList.getD i.toNat 0
def spellAt (s : ByteArray) (i : Int) : List UInt8 := byteAt s i :: (if parted s i = true then [92, 10] else [])
/-- what the first bytes of a text are spelt as -/
def spellUp (s : ByteArray) : Nat → List UInt8
  | 0 => []
  | k + 1 => spellUp s k ++ spellAt s k

theorem spellUp_len (s : ByteArray) : ∀ k, k ≤ (spellUp s k).length ∧ (spellUp s k).length ≤ 3 * k
  | 0 => ⟨Nat.le_refl _, Nat.le_refl _⟩
  | k + 1 => by
    obtain ⟨h1, h2⟩ := spellUp_len s k
    have h3 : 1 ≤ (spellAt s k).length ∧ (spellAt s k).length ≤ 3 := by
      unfold spellAt
      split <;> simp
    simp only [spellUp, List.length_append]
    omega

theorem spellUp_succ (s : ByteArray) {i : Int} (h : 0 ≤ i) : spellUp s (i + 1).toNat = spellUp s i.toNat ++ spellAt s i := by
  have e : (i + 1).toNat = i.toNat + 1 := by omega
  rw [e]
  simp only [spellUp]
  congr 2
  omega

def ends (s : ByteArray) : Bool := decide (s = ⟨#[]⟩) || decide (bt s ((s.size : Int) - 1) = 10)
def spellS (s : ByteArray) : ByteArray :=
  if 65536 < s.size then ⟨#[]⟩ else if ends s = false then ⟨#[]⟩ else if 65536 < (spellUp s s.size).length then ⟨#[]⟩ else ⟨(spellUp s s.size).toArray⟩
def spellE (s : ByteArray) : Int :=
  if 65536 < s.size then 3 else if ends s = false then 10 else if 65536 < (spellUp s s.size).length then 3 else 0

theorem size_empty {s : ByteArray} : s = ⟨#[]⟩ ↔ s.size = 0 := ByteArray.size_eq_zero_iff.symm

set_option maxRecDepth 100000 in
theorem spell_any (s : ByteArray) (w : World) (hs : s.size ≤ 9223372036854775807) : Calls Try.prog 10 #[.string s] w (PureP w fun v _ => v = .tuple #[.string (spellS s), .int .i64 (spellE s)]) := by
  refine x_fun tt_ok Try.func10 rfl rfl [] 0 [.v (.string s)] rfl rfl rfl rfl (fun b hb => by cases hb) ?_
  refine x_vc tt_ok ?_
  refine x_if (fun h => ?_) (fun h => ?_)
  · have h' : 65536 < (s.size : Int) := of_decide_eq_true h
    refine fin1 (fun _ _ => ?_)
    rw [show spellS s = ⟨#[]⟩ by unfold spellS; rw [if_pos (by omega)], show spellE s = 3 by unfold spellE; rw [if_pos (by omega)]]
    rfl
  have h' : ¬ 65536 < (s.size : Int) := of_decide_eq_false h
  have hn : ¬ 65536 < s.size := by omega
  have hse := @size_empty s
  repeat (refine And.intro ?_ ?_; first | omega | (simp only [Lay.d_n]; omega) | (simp only [decide_eq_true_eq, ne_eq, hse, decide_eq_false_iff_not, Bool.or_eq_false_iff, Bool.and_eq_true, Bool.or_eq_true, Bool.and_eq_false_iff, Bool.not_eq_true', Bool.not_eq_false']; omega))
  refine x_if (fun h2 => ?_) (fun h2 => ?_)
  · have h3 : (decide (s ≠ ⟨#[]⟩) && decide (bt s ((s.size : Int) - 1) ≠ 10)) = true := h2
    rw [Bool.and_eq_true, decide_eq_true_eq, decide_eq_true_eq] at h3
    have he : ends s = false := by unfold ends; rw [decide_eq_false h3.1, decide_eq_false h3.2]; rfl
    refine fin1 (fun _ _ => ?_)
    rw [show spellS s = ⟨#[]⟩ by unfold spellS; rw [if_neg hn, if_pos he], show spellE s = 10 by unfold spellE; rw [if_neg hn, if_pos he]]
    rfl
  have h3 : (decide (s ≠ ⟨#[]⟩) && decide (bt s ((s.size : Int) - 1) ≠ 10)) = false := h2
  have he : ends s = true := by
    rw [Bool.and_eq_false_iff, decide_eq_false_iff_not, decide_eq_false_iff_not, Classical.not_not, Classical.not_not] at h3
    unfold ends
    rcases h3 with h3 | h3
    · rw [decide_eq_true h3]; rfl
    · rw [decide_eq_true h3]; simp
  have hne : ¬ ends s = false := by rw [he]; simp
  by_cases h0 : s.size = 0
  · have hss : spellS s = ⟨#[]⟩ := by
      unfold spellS
      rw [if_neg hn, if_neg hne, h0, if_neg (show ¬ 65536 < (spellUp s 0).length from by simp [spellUp])]; rfl
    have hee : spellE s = 0 := by
      unfold spellE
      rw [if_neg hn, if_neg hne, h0, if_neg (show ¬ 65536 < (spellUp s 0).length from by simp [spellUp])]
    refine x_loop (σ := Unit) (fun _ => ⟨[(21, .v (.int .i64 0)), (20, .v (.int .i64 (s.size : Int))), (4, .p 0 0)], [], [(0, .box 55 [.v (.pointer none), .v (.slice none 0 0)])], 1⟩)
      (fun _ _ => True) (fun _ => 0) (fun _ => Nat.le_refl _) () [] (.of rfl rfl rfl rfl rfl rfl) trivial ?_
    rintro _ u hu _
    refine x_vc tt_ok ?_
    refine x_iff (by rw [h0]; rfl) ?_
    refine xl_callSC lenNil_sc (fun _ _ _ _ => trivial) trivial [0] rfl rfl rfl rfl fn28 rfl rfl rfl rfl rfl rfl rfl (fun _ => rfl) (fun _ u1 hu1 _ => ?_)
    refine xl_go tt_ok ?_
    refine x_iff rfl ?_
    refine xl_callSC stringNil_sc (fun _ _ _ _ => trivial) trivial [0] rfl rfl rfl rfl fn29 rfl rfl rfl rfl rfl rfl rfl (fun _ => rfl) (fun _ u2 hu2 _ => ?_)
    refine xl_go tt_ok ?_
    refine fin1 (fun _ _ => ?_)
    rw [hss, hee]; rfl
  · refine x_nilCell 0 5 byteY [.v (.pointer none)] [] rfl ?_
    refine x_loop (σ := Int × Bool × List UInt8) (fun (i, us, L) => ⟨[(21, .v (.int .i64 i)), (20, .v (.int .i64 (s.size : Int))), (4, .p 0 0), (0, .v (.string s))], [], [(0, .box 55 [bAddr us, .r 2]), (2, .row 5 (byteY.d L))], 3⟩)
      (fun (i, _, L) _ => 0 ≤ i ∧ i ≤ s.size ∧ L = spellUp s i.toNat) (fun (i, _, _) => ((s.size : Int) - i).toNat) (fun (_, _, _) => by simp only; omega) (0, false, []) [(2, some 1)] (.of rfl rfl rfl rfl rfl rfl) ⟨by omega, by omega, rfl⟩ ?_
    rintro ⟨i, us, L⟩ u hu ⟨g1, g2, g3⟩
    have hlen := spellUp_len s i.toNat
    rw [← g3] at hlen
    refine x_vc tt_ok ?_
    refine x_if (fun h4 => ?_) (fun h4 => ?_)
    · have h5 : i < s.size := of_decide_eq_true h4
      have hsu := spellUp_succ s g1
      rw [← g3] at hsu
      repeat (refine And.intro ?_ ?_; first | omega | (simp only [Lay.d_n]; omega) | (simp only [decide_eq_true_eq, decide_eq_false_iff_not, Bool.or_eq_false_iff, Bool.and_eq_true, Bool.or_eq_true, Bool.and_eq_false_iff, Bool.not_eq_true', Bool.not_eq_false']; omega))
      refine xl_callSC (writeByte_sc us L (byteAt s i) (by omega)) (fun _ _ _ _ => trivial) trivial [0, 2] rfl rfl rfl rfl fn25 rfl rfl rfl rfl rfl (by cases us <;> rfl) (by cases us <;> rfl) (fun _ => rfl) (fun _ u1 hu1 _ => ?_)
      refine xl_go tt_ok ?_
      refine xl_call0 (.bool (parted s i)) rfl rfl rfl rfl fn26 rfl rfl (fun E w F hs => parted_any s i w g1 h5 (by omega)) ?_
      refine xl_go tt_ok ?_
      refine x_if (fun h6 => ?_) (fun h6 => ?_)
      · have e : spellUp s (i + 1).toNat = (L ++ [byteAt s i]) ++ [92, 10] := by
          rw [hsu, spellAt, if_pos h6]; simp
        refine xl_callSC (writeString_sc true (L ++ [byteAt s i]) ⟨#[92, 10]⟩ (by rw [List.length_append]; show L.length + 1 + 2 ≤ _; omega)) (fun _ _ _ _ => trivial) trivial [0, 3] rfl rfl rfl rfl fn27 rfl rfl rfl rfl rfl rfl rfl (fun _ => rfl) (fun _ u2 hu2 _ => ?_)
        refine xl_go tt_ok ?_
        repeat (refine And.intro ?_ ?_; first | omega | (simp only [Lay.d_n]; omega) | (simp only [decide_eq_true_eq, decide_eq_false_iff_not, Bool.or_eq_false_iff, Bool.and_eq_true, Bool.or_eq_true, Bool.and_eq_false_iff, Bool.not_eq_true', Bool.not_eq_false']; omega))
        exact again (i + 1, true, _) [(2, some 4)] (.of rfl rfl rfl rfl rfl rfl) ⟨by omega, by omega, e.symm⟩ (by simp only; omega)
      · have e : spellUp s (i + 1).toNat = L ++ [byteAt s i] := by
          rw [hsu, spellAt, if_neg (by rw [h6]; simp)]
        repeat (refine And.intro ?_ ?_; first | omega | (simp only [Lay.d_n]; omega) | (simp only [decide_eq_true_eq, decide_eq_false_iff_not, Bool.or_eq_false_iff, Bool.and_eq_true, Bool.or_eq_true, Bool.and_eq_false_iff, Bool.not_eq_true', Bool.not_eq_false']; omega))
        exact again (i + 1, true, _) [(2, some 3)] (.of rfl rfl rfl rfl rfl rfl) ⟨by omega, by omega, e.symm⟩ (by simp only; omega)
    · have h5 : ¬ i < s.size := of_decide_eq_false h4
      have hi : i.toNat = s.size := by omega
      rw [hi] at g3 hlen
      have hL : L ≠ [] := fun h => h0 (Nat.le_zero.1 (by have := hlen.1; rw [h] at this; exact this))
      refine xl_callSC (len_sc us L) (fun _ _ _ _ => trivial) trivial [0, 2] rfl rfl rfl rfl fn28 rfl rfl rfl rfl rfl (by cases us <;> rfl) (by cases us <;> rfl) (fun _ => by cases us <;> rfl) (fun _ u1 hu1 _ => ?_)
      refine xl_go tt_ok ?_
      refine x_if (fun h6 => ?_) (fun h6 => ?_)
      · have h7 : 65536 < (L.length : Int) := of_decide_eq_true h6
        refine fin1 (fun _ _ => ?_)
        rw [show spellS s = ⟨#[]⟩ by unfold spellS; rw [if_neg hn, if_neg hne, ← g3, if_pos (by omega)], show spellE s = 3 by unfold spellE; rw [if_neg hn, if_neg hne, ← g3, if_pos (by omega)]]
        rfl
      · have h7 : ¬ 65536 < (L.length : Int) := of_decide_eq_false h6
        refine xl_callSC (string_sc us L hL) (fun _ _ _ _ => trivial) trivial [0, 2] rfl rfl rfl rfl fn29 rfl rfl rfl rfl rfl (by cases us <;> rfl) (by cases us <;> rfl) (fun _ => rfl) (fun _ u2 hu2 _ => ?_)
        refine xl_go tt_ok ?_
        refine fin1 (fun _ _ => ?_)
        rw [show spellS s = ⟨L.toArray⟩ by unfold spellS; rw [if_neg hn, if_neg hne, ← g3, if_neg (by omega)], show spellE s = 0 by unfold spellE; rw [if_neg hn, if_neg hne, ← g3, if_neg (by omega)]]
        rfl

theorem ends_ref (s : ByteArray) : ends s = !(decide (0 < (s.size : Int)) && decide (bt s ((s.size : Int) - 1) ≠ 10)) := by
  unfold ends
  by_cases h : s.size = 0
  · rw [decide_eq_true (size_empty.2 h), decide_eq_false (show ¬ 0 < (s.size : Int) by omega)]; rfl
  · rw [decide_eq_false (fun h' => h (size_empty.1 h')), decide_eq_true (show 0 < (s.size : Int) by omega)]
    by_cases h2 : bt s ((s.size : Int) - 1) = 10
    · rw [decide_eq_true h2, decide_eq_false (fun h3 => h3 h2)]; rfl
    · rw [decide_eq_false h2, decide_eq_true h2]; rfl

set_option maxRecDepth 100000 in
theorem refSpell_any (s : ByteArray) (w : World) (hs : s.size ≤ 9223372036854775807) : Calls Try.prog 11 #[.string s] w (PureP w fun v _ => v = .tuple #[.string (spellS s), .int .i64 (spellE s)]) := by
  refine x_fun tt_ok Try.func11 rfl rfl [] 0 [.v (.string s)] rfl rfl rfl rfl (fun b hb => by cases hb) ?_
  refine x_vc tt_ok ?_
  refine x_if (fun h => ?_) (fun h => ?_)
  · have h' : 65536 < (s.size : Int) := of_decide_eq_true h
    refine fin1 (fun _ _ => ?_)
    rw [show spellS s = ⟨#[]⟩ by unfold spellS; rw [if_pos (by omega)], show spellE s = 3 by unfold spellE; rw [if_pos (by omega)]]
    rfl
  have h' : ¬ 65536 < (s.size : Int) := of_decide_eq_false h
  have hn : ¬ 65536 < s.size := by omega
  repeat (refine And.intro ?_ ?_; first | omega | (simp only [Lay.d_n]; omega) | (simp only [decide_eq_true_eq, decide_eq_false_iff_not, Bool.or_eq_false_iff, Bool.and_eq_true, Bool.or_eq_true, Bool.and_eq_false_iff, Bool.not_eq_true', Bool.not_eq_false']; omega))
  refine x_if (fun h2 => ?_) (fun h2 => ?_)
  · have h3 : (decide (0 < (s.size : Int)) && decide (bt s ((s.size : Int) - 1) ≠ 10)) = true := h2
    have he : ends s = false := by rw [ends_ref, h3]; rfl
    refine fin1 (fun _ _ => ?_)
    rw [show spellS s = ⟨#[]⟩ by unfold spellS; rw [if_neg hn, if_pos he], show spellE s = 10 by unfold spellE; rw [if_neg hn, if_pos he]]
    rfl
  have h3 : (decide (0 < (s.size : Int)) && decide (bt s ((s.size : Int) - 1) ≠ 10)) = false := h2
  have he : ends s = true := by rw [ends_ref, h3]; rfl
  have hne : ¬ ends s = false := by rw [he]; simp
  refine x_nil 4 5 byteY rfl ?_
  refine x_loop (σ := Int × List UInt8) (fun (i, L) => ⟨[(5, .v (.int .i64 i)), (4, .r 1), (0, .v (.string s))], [], [(1, .row 5 (byteY.d L))], 2⟩)
    (fun (i, L) _ => 0 ≤ i ∧ i ≤ s.size ∧ L = spellUp s i.toNat) (fun (i, _) => ((s.size : Int) - i).toNat) (fun (_, _) => by simp only; omega) (0, []) [(1, some 0)] (.of rfl rfl rfl rfl rfl rfl) ⟨by omega, by omega, rfl⟩ ?_
  rintro ⟨i, L⟩ u hu ⟨g1, g2, g3⟩
  have hlen := spellUp_len s i.toNat
  rw [← g3] at hlen
  refine x_vc tt_ok ?_
  refine x_if (fun h4 => ?_) (fun h4 => ?_)
  · have h5 : i < s.size := of_decide_eq_true h4
    have hsu := spellUp_succ s g1
    rw [← g3] at hsu
    repeat (refine And.intro ?_ ?_; first | omega | (simp only [Lay.d_n]; omega) | (simp only [decide_eq_true_eq, decide_eq_false_iff_not, Bool.or_eq_false_iff, Bool.and_eq_true, Bool.or_eq_true, Bool.and_eq_false_iff, Bool.not_eq_true', Bool.not_eq_false']; omega))
    refine xl_push tt_ok byteY L (byteAt s i) 1 (cs := [.int .u8 ((byteAt s i).toNat : Int)]) rfl rfl rfl rfl rfl rfl rfl rfl rfl rfl rfl rfl (by kernel_rfl) rfl rfl rfl rfl rfl (fun n hn => by cases hn; decide) rfl rfl rfl (by first | omega | (simp; omega)) (by first | omega | (simp; omega)) ?_
    refine xl_go tt_ok ?_
    refine xl_call0 (.tuple #[.int .u8 (triV s i), .bool (isTri s i)]) rfl rfl rfl rfl fn30 rfl rfl (fun E w F hs => tri_any s i w g1 g2 (by omega)) ?_
    refine xl_go tt_ok ?_
    repeat (refine And.intro ?_ ?_; first | omega | (simp only [Lay.d_n]; omega) | (simp only [decide_eq_true_eq, decide_eq_false_iff_not, Bool.or_eq_false_iff, Bool.and_eq_true, Bool.or_eq_true, Bool.and_eq_false_iff, Bool.not_eq_true', Bool.not_eq_false']; omega))
    have hp : (isTri s i || (decide (i + 1 < s.size) && decide (bt s i = 92) && decide (bt s (i + 1) = 10))) = parted s i := by
      unfold parted
      rw [Bool.or_comm, Bool.and_assoc]
    refine x_if (fun h6 => ?_) (fun h6 => ?_)
    · have h6' : parted s i = true := hp.symm.trans h6
      have e : spellUp s (i + 1).toNat = (L ++ [byteAt s i]) ++ [92, 10] := by
        rw [hsu, spellAt, if_pos h6']; simp
      refine xl_build tt_ok byteY [92, 10] [.const (.int .u8 92), .const (.int .u8 10)] rfl rfl rfl rfl rfl rfl rfl rfl rfl rfl rfl rfl rfl rfl rfl ?_
      refine xl_go tt_ok ?_
      refine xl_append tt_ok byteY (L ++ [byteAt s i]) [92, 10] 1 rfl rfl rfl rfl rfl rfl rfl rfl (by kernel_rfl) rfl rfl rfl (fun E w F hs => hs.rowAt (k := 3) rfl) (fun x y hy => by simp [Lay.el] at hy; subst hy; rfl) rfl (by simp; omega) (by simp; omega) ?_
      refine xl_go tt_ok ?_
      repeat (refine And.intro ?_ ?_; first | omega | (simp only [Lay.d_n]; omega) | (simp only [decide_eq_true_eq, decide_eq_false_iff_not, Bool.or_eq_false_iff, Bool.and_eq_true, Bool.or_eq_true, Bool.and_eq_false_iff, Bool.not_eq_true', Bool.not_eq_false']; omega))
      exact again (i + 1, _) [(1, some 4)] (.of rfl rfl rfl rfl rfl rfl) ⟨by omega, by omega, e.symm⟩ (by simp only; omega)
    · have h6' : parted s i = false := hp.symm.trans h6
      have e : spellUp s (i + 1).toNat = L ++ [byteAt s i] := by
        rw [hsu, spellAt, if_neg (by rw [h6']; simp)]
      repeat (refine And.intro ?_ ?_; first | omega | (simp only [Lay.d_n]; omega) | (simp only [decide_eq_true_eq, decide_eq_false_iff_not, Bool.or_eq_false_iff, Bool.and_eq_true, Bool.or_eq_true, Bool.and_eq_false_iff, Bool.not_eq_true', Bool.not_eq_false']; omega))
      exact again (i + 1, _) [(1, some 2)] (.of rfl rfl rfl rfl rfl rfl) ⟨by omega, by omega, e.symm⟩ (by simp only; omega)
  · have h5 : ¬ i < s.size := of_decide_eq_false h4
    have hi : i.toNat = s.size := by omega
    rw [hi] at g3 hlen
    refine x_if (fun h6 => ?_) (fun h6 => ?_)
    · have h7 : 65536 < (L.length : Int) := of_decide_eq_true h6
      refine fin1 (fun _ _ => ?_)
      rw [show spellS s = ⟨#[]⟩ by unfold spellS; rw [if_neg hn, if_neg hne, ← g3, if_pos (by omega)], show spellE s = 3 by unfold spellE; rw [if_neg hn, if_neg hne, ← g3, if_pos (by omega)]]
      rfl
    · have h7 : ¬ 65536 < (L.length : Int) := of_decide_eq_false h6
      refine xl_bytesStr L rfl rfl rfl rfl Try.underlying52 Try.underlying5 Try.underlying9 rfl (fun E w F hs => hs.rowAt (k := 1) rfl) ?_
      refine xl_go tt_ok ?_
      refine fin1 (fun _ _ => ?_)
      rw [show spellS s = ⟨L.toArray⟩ by unfold spellS; rw [if_neg hn, if_neg hne, ← g3, if_neg (by omega)], show spellE s = 0 by unfold spellE; rw [if_neg hn, if_neg hne, ← g3, if_neg (by omega)]]
      rfl
end Go.Proofs.Ytjcjbnkimpggeaa
