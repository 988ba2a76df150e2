/- Keywords: the document's answer. -/
import Derived.Test.YtdonomneofdhfaaN22
namespace Go.Proofs.Ytdonomneofdhfaa
open Go.GV Go.RowKit

def allB : ByteArray := ⟨#[32, 97, 117, 116, 111, 32, 98, 114, 101, 97, 107, 32, 99, 97, 115, 101, 32, 99, 104, 97, 114, 32, 99, 111, 110, 115, 116, 32, 99, 111, 110, 116, 105, 110, 117, 101, 32, 100, 101, 102, 97, 117, 108, 116, 32, 100, 111, 32, 100, 111, 117, 98, 108, 101, 32, 101, 108, 115, 101, 32, 101, 110, 117, 109, 32, 101, 120, 116, 101, 114, 110, 32, 102, 108, 111, 97, 116, 32, 102, 111, 114, 32, 103, 111, 116, 111, 32, 105, 102, 32, 105, 110, 108, 105, 110, 101, 32, 105, 110, 116, 32, 108, 111, 110, 103, 32, 114, 101, 103, 105, 115, 116, 101, 114, 32, 114, 101, 115, 116, 114, 105, 99, 116, 32, 114, 101, 116, 117, 114, 110, 32, 115, 104, 111, 114, 116, 32, 115, 105, 103, 110, 101, 100, 32, 115, 105, 122, 101, 111, 102, 32, 115, 116, 97, 116, 105, 99, 32, 115, 116, 114, 117, 99, 116, 32, 115, 119, 105, 116, 99, 104, 32, 116, 121, 112, 101, 100, 101, 102, 32, 117, 110, 105, 111, 110, 32, 117, 110, 115, 105, 103, 110, 101, 100, 32, 118, 111, 105, 100, 32, 118, 111, 108, 97, 116, 105, 108, 101, 32, 119, 104, 105, 108, 101, 32, 95, 65, 108, 105, 103, 110, 97, 115, 32, 95, 65, 108, 105, 103, 110, 111, 102, 32, 95, 65, 116, 111, 109, 105, 99, 32, 95, 66, 111, 111, 108, 32, 95, 67, 111, 109, 112, 108, 101, 120, 32, 95, 71, 101, 110, 101, 114, 105, 99, 32, 95, 73, 109, 97, 103, 105, 110, 97, 114, 121, 32, 95, 78, 111, 114, 101, 116, 117, 114, 110, 32, 95, 83, 116, 97, 116, 105, 99, 95, 97, 115, 115, 101, 114, 116, 32, 95, 84, 104, 114, 101, 97, 100, 95, 108, 111, 99, 97, 108, 32]⟩
def spB (s : ByteArray) : ByteArray := (⟨#[32]⟩ ++ s) ++ ⟨#[32]⟩
theorem bl_spB (s : ByteArray) : bl (spB s) = 32 :: bl s ++ [32] := by
  unfold spB
  rw [bl_append, bl_append]; rfl
theorem spB_size (s : ByteArray) : (spB s).size = s.size + 2 := by
  have h := bl_len (spB s)
  rw [bl_spB, List.length_append, List.length_cons, bl_len] at h
  simp at h; omega
def noSp (L : List Int) : Bool := L.all fun c => decide (c ≠ 32)
def wordAt (L : List Int) : List Int := L.takeWhile fun c => decide (c ≠ 32)
theorem wordAt_eq : ∀ (a : List Int) (r : List Int), noSp a = true → wordAt (a ++ 32 :: r) = a
  | [], r, _ => rfl
  | c :: a, r, h => by
    unfold noSp at h
    simp only [List.all_cons, Bool.and_eq_true] at h
    show List.takeWhile _ (c :: (a ++ 32 :: r)) = _
    rw [List.takeWhile_cons, if_pos h.1]
    exact congrArg (c :: ·) (wordAt_eq a r h.2)
def kwL : List (List Int) := kwW.map bl
def kwHas (w : ByteArray) : Bool := decide (0 < w.size) && (noSp (bl w) && (List.range 315).any fun i => decide (i + (w.size + 2) ≤ 315) && decide (((bl allB).drop i).take (w.size + 2) = bl (spB w)))
set_option maxRecDepth 100000 in
theorem kw_has : (kwW.all kwHas) = true := by kernel_rfl
set_option maxRecDepth 100000 in
theorem kw_only : ((List.range 315).all fun i => decide ((bl allB).getD i 0 ≠ 32) || (decide (wordAt ((bl allB).drop (i + 1)) = []) || kwL.contains (wordAt ((bl allB).drop (i + 1))))) = true := by kernel_rfl
theorem allB_size : allB.size = 315 := by kernel_rfl

/-- a keyword stands between two blanks of the list -/
theorem kw_iff (s : ByteArray) : kwB s = true ↔ 0 < s.size ∧ noSp (bl s) = true ∧ ∃ i : Nat, i + (s.size + 2) ≤ 315 ∧ ((bl allB).drop i).take (s.size + 2) = bl (spB s) := by
  constructor
  · intro h
    unfold kwB at h
    obtain ⟨w, hw, e⟩ := List.any_eq_true.1 h
    have e := of_decide_eq_true e
    subst e
    have h2 := List.all_eq_true.1 kw_has s hw
    unfold kwHas at h2
    simp only [Bool.and_eq_true, decide_eq_true_eq] at h2
    obtain ⟨h3, h4, h5⟩ := h2
    obtain ⟨i, _, h6⟩ := List.any_eq_true.1 h5
    simp only [Bool.and_eq_true, decide_eq_true_eq] at h6
    exact ⟨h3, h4, i, h6⟩
  · rintro ⟨h1, h2, i, h3, h4⟩
    have hl : (bl allB).length = 315 := by rw [bl_len]; exact allB_size
    have hsl := bl_len s
    rw [bl_spB] at h4
    have h5 : (bl allB).drop i = 32 :: bl s ++ 32 :: (bl allB).drop (i + (s.size + 2)) := by
      rw [← List.take_append_drop (s.size + 2) ((bl allB).drop i), h4, List.drop_drop]
      simp
    have h6 : (bl allB).drop (i + 1) = bl s ++ 32 :: (bl allB).drop (i + (s.size + 2)) := by
      rw [← List.drop_drop, h5]; rfl
    have h7 : (bl allB).getD i 0 = 32 := by
      have := congrArg (fun l => l[0]?) h5
      simp only [List.getElem?_drop, Nat.add_zero, List.cons_append, List.getElem?_cons_zero] at this
      rw [List.getD_eq_getElem?_getD, this]; rfl
    have h8 := List.all_eq_true.1 kw_only i (List.mem_range.2 (by omega))
    rw [h6, wordAt_eq _ _ h2, h7] at h8
    have h9 : bl s ≠ [] := bl_ne h1
    rw [decide_eq_false (by simp), decide_eq_false h9, Bool.false_or, Bool.false_or, List.contains_iff_mem] at h8
    obtain ⟨w, hw, e⟩ := List.mem_map.1 h8
    unfold kwB
    exact List.any_eq_true.2 ⟨w, hw, decide_eq_true (bl_inj e.symm)⟩

set_option maxRecDepth 100000 in
theorem keywordR_any (s : ByteArray) (w : World) (hs : s.size ≤ 140737488355328) : Calls Try.prog 64 #[.string s] w (PureP w fun v _ => v = .bool (kwB s)) := by
  have hk := kw_iff s
  have hbl := bl_len s
  have hF : ∀ {P : Prop}, (kwB s = true ↔ P) → ¬ P → kwB s = false := fun h hn => by
    cases hb : kwB s with
    | false => rfl
    | true => exact absurd (h.1 hb) hn
  generalize kwB s = N at *
  refine x_fun tt_ok Try.func64 rfl rfl [] 0 [.v (.string s)] rfl rfl rfl rfl (fun b hb => by cases hb) ?_
  refine x_vc tt_ok ?_
  refine And.intro (show 1 + s.size ≤ 9223372036854775807 by omega) ?_
  refine And.intro (show ((⟨#[32]⟩ : ByteArray) ++ s).size + 1 ≤ 9223372036854775807 by rw [ByteArray.size_append]; show 1 + s.size + 1 ≤ _; omega) ?_
  refine x_loop (σ := Int) (fun k => ⟨[(4, .v (.int .i64 k)), (3, .v (.string (spB s))), (0, .v (.string s))], [], [], 0⟩)
    (fun k _ => 0 ≤ k ∧ k ≤ s.size ∧ noSp ((bl s).take k.toNat) = true) (fun k => (s.size - k).toNat) (fun _ => Nat.le_refl _) 0 [] (.of rfl rfl rfl rfl rfl rfl)
    ⟨by omega, by omega, rfl⟩ ?_
  rintro k u hu ⟨g1, g2, g3⟩
  refine x_vc tt_ok ?_
  refine x_if (fun h => ?_) (fun h => ?_)
  · have h : k < s.size := of_decide_eq_true h
    have hbk := bl_get s (n := k.toNat) (by omega)
    rw [show ((k.toNat : Nat) : Int) = k by omega] at hbk
    repeat (refine And.intro ?_ ?_; first | omega | (simp only [Lay.d_n]; omega) | (simp only [decide_eq_true_eq, decide_eq_false_iff_not, Bool.or_eq_false_iff, Bool.and_eq_true, Bool.or_eq_true, Bool.and_eq_false_iff, Bool.not_eq_true', Bool.not_eq_false', Lay.d_n]; omega) | (simp only [decide_eq_true_eq, decide_eq_false_iff_not, Bool.or_eq_false_iff, Bool.and_eq_true, Bool.or_eq_true, Bool.and_eq_false_iff, Bool.not_eq_true', Bool.not_eq_false']; omega))
    refine x_if (fun h1 => ?_) (fun h1 => ?_)
    · have h1 : bt s k = 32 := of_decide_eq_true h1
      have e : N = false := hF hk (fun hh => by
        have h2 := List.all_eq_true.1 hh.2.1 _ (List.mem_of_getElem? hbk)
        exact absurd h1 (of_decide_eq_true h2))
      rw [e]
      exact fin1 (fun _ _ => rfl)
    · have h1 : ¬ bt s k = 32 := of_decide_eq_false h1
      repeat (refine And.intro ?_ ?_; first | omega | (simp only [Lay.d_n]; omega) | (simp only [decide_eq_true_eq, decide_eq_false_iff_not, Bool.or_eq_false_iff, Bool.and_eq_true, Bool.or_eq_true, Bool.and_eq_false_iff, Bool.not_eq_true', Bool.not_eq_false', Lay.d_n]; omega) | (simp only [decide_eq_true_eq, decide_eq_false_iff_not, Bool.or_eq_false_iff, Bool.and_eq_true, Bool.or_eq_true, Bool.and_eq_false_iff, Bool.not_eq_true', Bool.not_eq_false']; omega))
      refine again (k + 1) [] (.of rfl rfl rfl rfl rfl rfl) ⟨by omega, by omega, ?_⟩ (by omega)
      unfold noSp at g3 ⊢
      rw [show (k + 1).toNat = k.toNat + 1 by omega, take_get hbk, List.all_append, g3]
      simp [h1]
  · have h : ¬ k < s.size := of_decide_eq_false h
    have hno : noSp (bl s) = true := by
      rw [List.take_of_length_le (by omega)] at g3; exact g3
    have hws := spB_size s
    refine x_loop (σ := Int) (fun i => ⟨[(5, .v (.int .i64 i)), (3, .v (.string (spB s))), (0, .v (.string s))], [], [], 0⟩)
      (fun i _ => 0 ≤ i ∧ i ≤ 316 ∧ ∀ j : Nat, (j : Int) < i → ((bl allB).drop j).take (s.size + 2) ≠ bl (spB s)) (fun i => (316 - i).toNat) (fun _ => Nat.le_refl _) 0 [] (.of rfl rfl rfl rfl rfl rfl)
      ⟨by omega, by omega, fun j hj => by omega⟩ ?_
    rintro i u2 hu2 ⟨f1, f2, f3⟩
    refine x_vc tt_ok ?_
    repeat (refine And.intro ?_ ?_; first | omega | (simp only [Lay.d_n]; omega) | (simp only [decide_eq_true_eq, decide_eq_false_iff_not, Bool.or_eq_false_iff, Bool.and_eq_true, Bool.or_eq_true, Bool.and_eq_false_iff, Bool.not_eq_true', Bool.not_eq_false', Lay.d_n]; omega) | (simp only [decide_eq_true_eq, decide_eq_false_iff_not, Bool.or_eq_false_iff, Bool.and_eq_true, Bool.or_eq_true, Bool.and_eq_false_iff, Bool.not_eq_true', Bool.not_eq_false']; omega))
    refine x_if (fun h2 => ?_) (fun h2 => ?_)
    · have h2 : (decide (i + (spB s).size ≤ 315) && decide (0 < (s.size : Int))) = true := h2
      simp only [Bool.and_eq_true, decide_eq_true_eq] at h2
      have hal := allB_size
      have hsub : bl (sub allB i (i + (spB s).size)) = ((bl allB).drop i.toNat).take (s.size + 2) := by
        rw [bl_sub allB f1 (by omega) (by omega)]
        unfold tl
        rw [show (i + ((spB s).size : Int) - i).toNat = s.size + 2 by omega]
      repeat (refine And.intro ?_ ?_; first | omega | (simp only [Lay.d_n]; omega) | (simp only [decide_eq_true_eq, decide_eq_false_iff_not, Bool.or_eq_false_iff, Bool.and_eq_true, Bool.or_eq_true, Bool.and_eq_false_iff, Bool.not_eq_true', Bool.not_eq_false', Lay.d_n]; omega) | (simp only [decide_eq_true_eq, decide_eq_false_iff_not, Bool.or_eq_false_iff, Bool.and_eq_true, Bool.or_eq_true, Bool.and_eq_false_iff, Bool.not_eq_true', Bool.not_eq_false']; omega))
      refine And.intro (show i + ((spB s).size : Int) ≤ ((315 : Nat) : Int) by omega) ?_
      refine x_if (fun h3 => ?_) (fun h3 => ?_)
      · have h3 : sub allB i (i + (spB s).size) = spB s := of_decide_eq_true h3
        have e : N = true := hk.2 ⟨by omega, hno, i.toNat, by omega, by rw [← hsub, h3]⟩
        rw [e]
        exact fin1 (fun _ _ => rfl)
      · have h3 : ¬ sub allB i (i + (spB s).size) = spB s := of_decide_eq_false h3
        repeat (refine And.intro ?_ ?_; first | omega | (simp only [Lay.d_n]; omega) | (simp only [decide_eq_true_eq, decide_eq_false_iff_not, Bool.or_eq_false_iff, Bool.and_eq_true, Bool.or_eq_true, Bool.and_eq_false_iff, Bool.not_eq_true', Bool.not_eq_false', Lay.d_n]; omega) | (simp only [decide_eq_true_eq, decide_eq_false_iff_not, Bool.or_eq_false_iff, Bool.and_eq_true, Bool.or_eq_true, Bool.and_eq_false_iff, Bool.not_eq_true', Bool.not_eq_false']; omega))
        refine again (i + 1) [] (.of rfl rfl rfl rfl rfl rfl) ⟨by omega, by omega, fun j hj hh => ?_⟩ (by omega)
        by_cases hji : (j : Int) < i
        · exact f3 j hji hh
        · have : j = i.toNat := by omega
          subst this
          rw [← hsub] at hh
          exact h3 (bl_inj hh)
    · have h2 : (decide (i + (spB s).size ≤ 315) && decide (0 < (s.size : Int))) = false := h2
      have e : N = false := hF hk (fun hh => by
        obtain ⟨a1, _, j, a2, a3⟩ := hh
        simp only [Bool.and_eq_false_iff, decide_eq_false_iff_not] at h2
        exact f3 j (by rcases h2 with h2 | h2 <;> omega) a3)
      rw [e]
      exact fin1 (fun _ _ => rfl)
end Go.Proofs.Ytdonomneofdhfaa
