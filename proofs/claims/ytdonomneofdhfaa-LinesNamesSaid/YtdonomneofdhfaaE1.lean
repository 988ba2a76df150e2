/- The scanner's small functions: bytes, headers, words. -/
import Derived.Test.YtdonomneofdhfaaS1
import Derived.Test.YtdonomneofdhfaaK
namespace Go.Proofs.Ytdonomneofdhfaa
open Go.GV Go.RowKit

/-- a string's bytes, as numbers -/
def bl (s : ByteArray) : Lx.Bs := s.data.toList.map fun b => (b.toNat : Int)
/-- from a place on -/
def tl (s : ByteArray) (i : Int) : Lx.Bs := (bl s).drop i.toNat

theorem bl_len (s : ByteArray) : (bl s).length = s.size := by rw [bl, List.length_map, Array.length_toList]; rfl
theorem tl_len (s : ByteArray) (i : Int) : (tl s i).length = s.size - i.toNat := by rw [tl, List.length_drop, bl_len]
theorem bl_get (s : ByteArray) {n : Nat} (h : n < s.size) : (bl s)[n]? = some (bt s n) := by
  unfold bl bt
  have h' : n < s.data.toList.length := by rw [Array.length_toList]; exact h
  simp only [List.getElem?_map, List.getD_eq_getElem?_getD, Int.toNat_natCast, List.getElem?_eq_getElem h', Option.map_some, Option.getD_some]
theorem tl_cons {s : ByteArray} {i : Int} (h0 : 0 ≤ i) (h : i < s.size) : tl s i = bt s i :: tl s (i + 1) := by
  have hl : i.toNat < (bl s).length := by rw [bl_len]; omega
  unfold tl
  rw [List.drop_eq_getElem_cons hl, show (i + 1).toNat = i.toNat + 1 by omega]
  have h2 := bl_get s (n := i.toNat) (by omega)
  rw [List.getElem?_eq_getElem hl] at h2
  rw [Option.some.inj h2]
  rfl
theorem tl_nil {s : ByteArray} {i : Int} (h : s.size ≤ i) : tl s i = [] := List.drop_eq_nil_of_le (by rw [bl_len]; omega)
theorem tl_zero (s : ByteArray) : tl s 0 = bl s := rfl

theorem white_any (c : Int) (w : World) : Calls Try.prog 131 #[.int .u8 c] w (PureP w fun v _ => v = .bool (Lx.white c)) := by
  refine x_fun tt_ok Try.func131 rfl rfl [] 0 [.v (.int .u8 c)] rfl rfl rfl rfl (fun b hb => by cases hb) ?_
  refine x_vc tt_ok ?_
  exact fin1 (fun _ _ => rfl)
theorem letter_or (c : Int) : (decide (c = 95) || decide (97 ≤ c) && decide (c ≤ 122) || decide (65 ≤ c) && decide (c ≤ 90)) = Lx.letter c := by
  unfold Lx.letter; rw [Bool.or_assoc, Bool.or_comm]
theorem letter_any (c : Int) (w : World) : Calls Try.prog 178 #[.int .u8 c] w (PureP w fun v _ => v = .bool (Lx.letter c)) := by
  refine x_fun tt_ok Try.func178 rfl rfl [] 0 [.v (.int .u8 c)] rfl rfl rfl rfl (fun b hb => by cases hb) ?_
  refine x_vc tt_ok ?_
  exact fin1 (fun _ _ => rfl)
theorem digit_any (c : Int) (w : World) : Calls Try.prog 179 #[.int .u8 c] w (PureP w fun v _ => v = .bool (Lx.digit c)) := by
  refine x_fun tt_ok Try.func179 rfl rfl [] 0 [.v (.int .u8 c)] rfl rfl rfl rfl (fun b hb => by cases hb) ?_
  refine x_vc tt_ok ?_
  exact fin1 (fun _ _ => rfl)
theorem letterR_any (c : Int) (w : World) : Calls Try.prog 181 #[.int .u8 c] w (PureP w fun v _ => v = .bool (Lx.letter c)) := by
  refine x_fun tt_ok Try.func181 rfl rfl [] 0 [.v (.int .u8 c)] rfl rfl rfl rfl (fun b hb => by cases hb) ?_
  refine x_vc tt_ok ?_
  exact fin1 (fun _ _ => congrArg Value.bool (letter_or c))
theorem digitR_any (c : Int) (w : World) : Calls Try.prog 182 #[.int .u8 c] w (PureP w fun v _ => v = .bool (Lx.digit c)) := by
  refine x_fun tt_ok Try.func182 rfl rfl [] 0 [.v (.int .u8 c)] rfl rfl rfl rfl (fun b hb => by cases hb) ?_
  refine x_vc tt_ok ?_
  exact fin1 (fun _ _ => rfl)
theorem sign_any (c : Int) (w : World) : Calls Try.prog 183 #[.int .u8 c] w (PureP w fun v _ => v = .bool (Lx.sign c)) := by
  refine x_fun tt_ok Try.func183 rfl rfl [] 0 [.v (.int .u8 c)] rfl rfl rfl rfl (fun b hb => by cases hb) ?_
  refine x_vc tt_ok ?_
  exact fin1 (fun _ _ => rfl)
theorem expo_any (c : Int) (w : World) : Calls Try.prog 184 #[.int .u8 c] w (PureP w fun v _ => v = .bool (Lx.expo c)) := by
  refine x_fun tt_ok Try.func184 rfl rfl [] 0 [.v (.int .u8 c)] rfl rfl rfl rfl (fun b hb => by cases hb) ?_
  refine x_vc tt_ok ?_
  exact fin1 (fun _ _ => rfl)

theorem hdrGo_pos (q : Int) (c : Int) (r : Lx.Bs) : Lx.hdrGo q (c :: r) = if c = 10 then 0 else if c = q then 1 else if Lx.hdrGo q r = 0 then 0 else Lx.hdrGo q r + 1 := by
  simp only [Lx.hdrGo]
  by_cases h1 : c = 10
  · simp [h1]
  · by_cases h2 : c = q
    · subst h2; simp [h1]
    · simp only [h1, h2, decide_false, if_false]
      cases Lx.hdrGo q r <;> simp

/-- a place behind another, or 0 -/
def atE (k : Int) (n : Nat) : Int := if n = 0 then 0 else k + n
theorem atE_zero (k : Int) : atE k 0 = 0 := rfl
theorem atE_one (k : Int) : atE k 1 = k + 1 := rfl
theorem atE_up (k : Int) (n : Nat) : atE k (if n = 0 then 0 else n + 1) = atE (k + 1) n := by
  unfold atE
  by_cases h : n = 0
  · simp [h]
  · simp [h]; omega
/-- where a header ends -/
def hdrE (s : ByteArray) (i : Int) : Int := atE i (Lx.hdrN (tl s i))

theorem hdrE_eq {s : ByteArray} {i : Int} (h0 : 0 ≤ i) (h1 : i < s.size) : hdrE s i =
    if bt s i = 60 then atE (i + 1) (Lx.hdrGo 62 (tl s (i + 1)))
    else if bt s i = 34 then atE (i + 1) (Lx.hdrGo 34 (tl s (i + 1))) else 0 := by
  have e : ∀ n : Nat, atE i (match n with | 0 => 0 | n + 1 => n + 2 : Nat) = atE (i + 1) n := by
    intro n
    rw [← atE_up]; congr 1
    cases n <;> simp
  unfold hdrE
  rw [tl_cons h0 h1]
  simp only [Lx.hdrN]
  split
  · exact e _
  · split
    · exact e _
    · rfl

set_option maxRecDepth 100000 in
theorem hdr_any (s : ByteArray) (i : Int) (h0 : 0 ≤ i) (h1 : i < s.size) (hz : s.size ≤ 140737488355328) (w : World) :
    Calls Try.prog 150 #[.string s, .int .i64 i] w (PureP w fun v _ => v = .int .i64 (hdrE s i)) := by
  refine x_fun tt_ok Try.func150 rfl rfl [] 0 [.v (.string s), .v (.int .i64 i)] rfl rfl rfl rfl (fun b hb => by cases hb) ?_
  refine x_seq ?_
  refine x_vc tt_ok ?_
  refine x_seq ?_
  refine x_vc tt_ok ?_
  repeat (refine And.intro ?_ ?_; first | omega | (simp only [Lay.d_n]; omega) | (simp only [decide_eq_true_eq, decide_eq_false_iff_not, Bool.or_eq_false_iff, Bool.and_eq_true, Bool.or_eq_true, Bool.and_eq_false_iff, Bool.not_eq_true', Bool.not_eq_false', Lay.d_n]; omega) | (simp only [decide_eq_true_eq, decide_eq_false_iff_not, Bool.or_eq_false_iff, Bool.and_eq_true, Bool.or_eq_true, Bool.and_eq_false_iff, Bool.not_eq_true', Bool.not_eq_false']; omega))
  have hE := hdrE_eq h0 h1
  refine x_cut (σ := Int) (fun q => ⟨[(5, .v (.int .u8 q)), (1, .v (.int .i64 i)), (0, .v (.string s))], [], [], 0⟩)
    (fun q _ => hdrE s i = atE (i + 1) (Lx.hdrGo q (tl s (i + 1)))) (fun _ => Nat.le_refl _) ?_ ?_
  · refine x_vc tt_ok ?_
    refine x_if (fun h => ?_) (fun h => ?_)
    · rw [if_pos (of_decide_eq_true h)] at hE
      exact meet 62 [] (.of rfl rfl rfl rfl rfl rfl) hE
    · rw [if_neg (of_decide_eq_false h)] at hE
      refine x_if (fun h => ?_) (fun h => ?_)
      · have h34 := of_decide_eq_true h
        rw [if_pos h34, ← h34] at hE
        exact meet (bt s i) [] (.of rfl rfl rfl rfl rfl rfl) hE
      · rw [if_neg (of_decide_eq_false h)] at hE
        rw [hE]
        exact fin1 (fun _ _ => rfl)
  · rintro q u hu g
    clear hE
    refine x_vc tt_ok ?_
    repeat (refine And.intro ?_ ?_; first | omega | (simp only [Lay.d_n]; omega) | (simp only [decide_eq_true_eq, decide_eq_false_iff_not, Bool.or_eq_false_iff, Bool.and_eq_true, Bool.or_eq_true, Bool.and_eq_false_iff, Bool.not_eq_true', Bool.not_eq_false', Lay.d_n]; omega) | (simp only [decide_eq_true_eq, decide_eq_false_iff_not, Bool.or_eq_false_iff, Bool.and_eq_true, Bool.or_eq_true, Bool.and_eq_false_iff, Bool.not_eq_true', Bool.not_eq_false']; omega))
    refine x_loop (σ := Int) (fun k => ⟨[(6, .v (.int .i64 k)), (5, .v (.int .u8 q)), (0, .v (.string s))], [], [], 0⟩)
      (fun k _ => 0 ≤ k ∧ k ≤ s.size ∧ hdrE s i = atE k (Lx.hdrGo q (tl s k))) (fun k => (s.size - k).toNat) (fun _ => Nat.le_refl _) (i + 1) [] (.of rfl rfl rfl rfl rfl rfl)
      ⟨by omega, by omega, g⟩ ?_
    rintro k u2 hu2 ⟨g1, g2, g3⟩
    refine x_vc tt_ok ?_
    repeat (refine And.intro ?_ ?_; first | omega | (simp only [Lay.d_n]; omega) | (simp only [decide_eq_true_eq, decide_eq_false_iff_not, Bool.or_eq_false_iff, Bool.and_eq_true, Bool.or_eq_true, Bool.and_eq_false_iff, Bool.not_eq_true', Bool.not_eq_false', Lay.d_n]; omega) | (simp only [decide_eq_true_eq, decide_eq_false_iff_not, Bool.or_eq_false_iff, Bool.and_eq_true, Bool.or_eq_true, Bool.and_eq_false_iff, Bool.not_eq_true', Bool.not_eq_false']; omega))
    refine x_if (fun h => ?_) (fun h => ?_)
    · obtain ⟨ha, hb⟩ := Bool.and_eq_true_iff.1 h
      have h2 : k < s.size := of_decide_eq_true ha
      have h3 : ¬ bt s k = 10 := of_decide_eq_true hb
      rw [tl_cons g1 h2, hdrGo_pos, if_neg h3] at g3
      repeat (refine And.intro ?_ ?_; first | omega | (simp only [Lay.d_n]; omega) | (simp only [decide_eq_true_eq, decide_eq_false_iff_not, Bool.or_eq_false_iff, Bool.and_eq_true, Bool.or_eq_true, Bool.and_eq_false_iff, Bool.not_eq_true', Bool.not_eq_false', Lay.d_n]; omega) | (simp only [decide_eq_true_eq, decide_eq_false_iff_not, Bool.or_eq_false_iff, Bool.and_eq_true, Bool.or_eq_true, Bool.and_eq_false_iff, Bool.not_eq_true', Bool.not_eq_false']; omega))
      refine x_if (fun h5 => ?_) (fun h5 => ?_)
      · rw [if_pos (of_decide_eq_true h5)] at g3
        repeat (refine And.intro ?_ ?_; first | omega | (simp only [Lay.d_n]; omega) | (simp only [decide_eq_true_eq, decide_eq_false_iff_not, Bool.or_eq_false_iff, Bool.and_eq_true, Bool.or_eq_true, Bool.and_eq_false_iff, Bool.not_eq_true', Bool.not_eq_false', Lay.d_n]; omega) | (simp only [decide_eq_true_eq, decide_eq_false_iff_not, Bool.or_eq_false_iff, Bool.and_eq_true, Bool.or_eq_true, Bool.and_eq_false_iff, Bool.not_eq_true', Bool.not_eq_false']; omega))
        rw [g3]
        exact fin1 (fun _ _ => rfl)
      · repeat (refine And.intro ?_ ?_; first | omega | (simp only [Lay.d_n]; omega) | (simp only [decide_eq_true_eq, decide_eq_false_iff_not, Bool.or_eq_false_iff, Bool.and_eq_true, Bool.or_eq_true, Bool.and_eq_false_iff, Bool.not_eq_true', Bool.not_eq_false', Lay.d_n]; omega) | (simp only [decide_eq_true_eq, decide_eq_false_iff_not, Bool.or_eq_false_iff, Bool.and_eq_true, Bool.or_eq_true, Bool.and_eq_false_iff, Bool.not_eq_true', Bool.not_eq_false']; omega))
        rw [if_neg (of_decide_eq_false h5), atE_up] at g3
        exact again (k + 1) [] (.of rfl rfl rfl rfl rfl rfl) ⟨by omega, by omega, g3⟩ (by omega)
    · have g4 : hdrE s i = 0 := by
        rw [g3]
        by_cases h2 : k < s.size
        · have hb : bt s k = 10 := by
            have h3 : decide (bt s k ≠ 10) = false := by
              have ha : decide (k < (s.size : Int)) = true := decide_eq_true h2
              have h' : (decide (k < (s.size : Int)) && decide (bt s k ≠ 10)) = false := h
              rw [ha, Bool.true_and] at h'; exact h'
            exact Classical.not_not.1 (of_decide_eq_false h3)
          rw [tl_cons g1 h2, hdrGo_pos, if_pos hb]; rfl
        · rw [tl_nil (by omega)]; rfl
      rw [g4]
      exact fin1 (fun _ _ => rfl)
end Go.Proofs.Ytdonomneofdhfaa
