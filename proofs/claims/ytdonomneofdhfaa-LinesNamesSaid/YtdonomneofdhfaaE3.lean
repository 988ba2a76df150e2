/- The scanner's small functions: literals and prefixes. -/
import Derived.Test.YtdonomneofdhfaaE2
namespace Go.Proofs.Ytdonomneofdhfaa
open Go.GV Go.RowKit

theorem bl_sub (s : ByteArray) {a b : Int} (h0 : 0 ≤ a) (h1 : a ≤ b) (h2 : b ≤ s.size) : bl (sub s a b) = (tl s a).take (b - a).toNat := by
  unfold bl sub tl bl
  rw [ByteArray.data_extract, Array.toList_extract, List.extract_eq_take_drop, List.map_take, List.map_drop, show b.toNat - a.toNat = (b - a).toNat by omega]
theorem bl_rest (s : ByteArray) {a : Int} (h0 : 0 ≤ a) (h1 : a ≤ s.size) : bl (sub s a s.size) = tl s a := by
  rw [bl_sub s h0 h1 (Int.le_refl _), List.take_of_length_le (by rw [tl_len]; omega)]
theorem bl_inj {a b : ByteArray} (h : bl a = bl b) : a = b := by
  have h2 : a.data.toList = b.data.toList := by
    unfold bl at h
    refine List.map_inj_right (f := fun b : UInt8 => (b.toNat : Int)) (fun x y hxy => ?_) |>.1 h
    exact UInt8.toNat_inj.1 (Int.ofNat.inj hxy)
  cases a; cases b
  simp only [ByteArray.mk.injEq]
  exact Array.toList_inj.1 h2
theorem bl_eq {a b : ByteArray} : decide (a = b) = decide (bl a = bl b) := by
  by_cases h : a = b
  · subst h; simp
  · rw [decide_eq_false h, decide_eq_false (fun h2 => h (bl_inj h2))]

/-- whether a text begins with another -/
def hasP (a b : ByteArray) : Bool := decide ((b.size : Int) ≤ a.size) && decide (sub a 0 b.size = b)

theorem hasP_bl (a b : ByteArray) : hasP a b = decide ((bl a).take b.size = bl b) := by
  unfold hasP
  by_cases h : (b.size : Int) ≤ a.size
  · rw [decide_eq_true h, Bool.true_and, bl_eq, bl_sub a (by omega) (by omega) h, tl_zero, Int.sub_zero, Int.toNat_natCast]
  · rw [decide_eq_false h, Bool.false_and]
    refine (decide_eq_false (fun h2 => h ?_)).symm
    have := congrArg List.length h2
    rw [List.length_take, bl_len, bl_len] at this
    omega

set_option maxRecDepth 100000 in
theorem hasPL_any (a b : ByteArray) (w : World) : Calls Try.prog 164 #[.string a, .string b] w (PureP w fun v _ => v = .bool (hasP a b)) := by
  refine x_fun tt_ok Try.func164 rfl rfl [] 0 [.v (.string a), .v (.string b)] rfl rfl rfl rfl (fun b hb => by cases hb) ?_
  refine x_vc tt_ok ?_
  repeat (refine And.intro ?_ ?_; first | omega | (simp only [Lay.d_n]; omega) | (simp only [decide_eq_true_eq, decide_eq_false_iff_not, Bool.or_eq_false_iff, Bool.and_eq_true, Bool.or_eq_true, Bool.and_eq_false_iff, Bool.not_eq_true', Bool.not_eq_false', Lay.d_n]; omega) | (simp only [decide_eq_true_eq, decide_eq_false_iff_not, Bool.or_eq_false_iff, Bool.and_eq_true, Bool.or_eq_true, Bool.and_eq_false_iff, Bool.not_eq_true', Bool.not_eq_false']; omega))
  exact fin1 (fun _ _ => rfl)
theorem hasP_any (a b : ByteArray) (w : World) : Calls Try.prog 151 #[.string a, .string b] w (PureP w fun v _ => v = .bool (hasP a b)) := by
  refine x_fun tt_ok Try.func151 rfl rfl [] 0 [.v (.string a), .v (.string b)] rfl rfl rfl rfl (fun b hb => by cases hb) ?_
  refine x_vc tt_ok ?_
  refine xl_call0 (.bool (hasP a b)) rfl rfl rfl rfl fn164 rfl rfl (fun E w F _ => hasPL_any _ _ w) ?_
  refine xl_go tt_ok ?_
  exact fin1 (fun _ _ => rfl)

/-- where a literal ends, and of which kind it is -/
def litE (s : ByteArray) (i : Int) : Int × Int := ((Lx.litQ (tl s i)).1, atE i (Lx.litQ (tl s i)).2)
def lE (q st e : Int) : Int × Int := if e = 0 then (0, 0) else if q = 34 then (4, e) else if e = st + 1 then (0, 0) else (3, e)

theorem tl_tl (s : ByteArray) {i : Int} (h0 : 0 ≤ i) (n : Nat) : (tl s i).drop n = tl s (i + n) := by
  unfold tl
  rw [List.drop_drop]; congr 1; omega

theorem litE_eq {s : ByteArray} {i : Int} (h0 : 0 ≤ i) {j : Int} (hj : j = i + Lx.prefN (tl s i)) : litE s i =
    if j < s.size ∧ (bt s j = 34 ∨ bt s j = 39) then lE (bt s j) (j + 1) (atE (j + 1) (Lx.bodyN (bt s j) (tl s (j + 1)))) else (0, 0) := by
  unfold litE Lx.litQ
  rw [tl_tl s h0, ← hj]
  by_cases h2 : j < s.size
  · rw [tl_cons (by omega) h2]
    simp only [h2, true_and]
    by_cases h34 : bt s j = 34
    · rw [if_pos h34, if_pos (.inl h34)]
      cases hb : Lx.bodyN 34 (tl s (j + 1)) with
      | zero => simp [h34, hb, atE, lE]
      | succ n =>
        simp [h34, hb, atE, lE]
        rw [if_neg (by omega)]
        simp only [Prod.mk.injEq, true_and]; omega
    · rw [if_neg h34]
      by_cases h39 : bt s j = 39
      · rw [if_pos h39, if_pos (.inr h39)]
        cases hb : Lx.bodyN 39 (tl s (j + 1)) with
        | zero => simp [h39, hb, atE, lE]
        | succ n =>
          cases n with
          | zero => simp [h39, hb, atE, lE]
          | succ n =>
            simp [h39, hb, atE, lE]
            rw [if_neg (by omega), if_neg (by omega)]
            simp only [Prod.mk.injEq, true_and]; omega
      · rw [if_neg h39, if_neg (by simp [h34, h39])]; rfl
  · rw [tl_nil (by omega), if_neg (by simp [h2])]; rfl

theorem bodyN_cons (q c : Int) (r : Lx.Bs) : Lx.bodyN q (c :: r) = if c = 10 then 0 else if c = q then 1 else if c = 92 then
    (match r with
      | [] => 0
      | d :: r' => if d = 10 then 0 else if Lx.bodyN q r' = 0 then 0 else Lx.bodyN q r' + 1 + 1)
    else if Lx.bodyN q r = 0 then 0 else Lx.bodyN q r + 1 := by
  cases r with
  | nil =>
    simp only [Lx.bodyN]
    by_cases h1 : c = 10
    · simp [h1]
    · by_cases h2 : c = q
      · subst h2; simp [h1]
      · simp [h1, h2]
  | cons d r =>
    simp only [Lx.bodyN]
    by_cases h1 : c = 10
    · simp [h1]
    · by_cases h2 : c = q
      · subst h2; simp [h1]
      · by_cases h3 : c = 92
        · subst h3
          simp only [h1, h2, decide_false, if_false, decide_true, if_true]
          by_cases h4 : d = 10
          · simp [h4]
          · simp only [h4, decide_false, if_false]
            cases Lx.bodyN q r <;> simp
        · simp only [h1, h2, h3, decide_false, if_false]
          cases Lx.bodyN q (d :: r) <;> simp

theorem atE_up2 (k : Int) (n : Nat) : atE k (if n = 0 then 0 else n + 1 + 1) = atE (k + 2) n := by
  unfold atE
  by_cases h : n = 0
  · simp [h]
  · simp [h]; omega

theorem prefN_eq {s : ByteArray} {i : Int} (h0 : 0 ≤ i) (h1 : i < s.size) : Lx.prefN (tl s i) =
    if hasP (sub s i s.size) ⟨#[117, 56, 34]⟩ = true then 2 else if (decide (bt s i = 117) || (decide (bt s i = 85) || decide (bt s i = 76))) = true then 1 else 0 := by
  rw [hasP_bl, bl_rest s h0 (by omega), tl_cons h0 h1]
  have e : decide (List.take (ByteArray.mk #[117, 56, 34]).size (bt s i :: tl s (i + 1)) = bl ⟨#[117, 56, 34]⟩) =
      (decide (bt s i = 117) && decide ((tl s (i + 1)).head? = some 56) && decide ((tl s (i + 1))[1]? = some 34)) := by
    show decide ((bt s i :: tl s (i + 1)).take 3 = [117, 56, 34]) = _
    match tl s (i + 1) with
    | [] => simp
    | [d] => simp
    | d :: e :: r => simp [Bool.and_assoc]
  rw [e]
  simp only [Lx.prefN]
  cases (decide (bt s i = 117) && decide ((tl s (i + 1)).head? = some 56) && decide ((tl s (i + 1))[1]? = some 34)) with
  | true => simp
  | false =>
    simp only [Bool.false_eq_true, if_false, ← Bool.or_assoc]
    cases (decide (bt s i = 117) || decide (bt s i = 85) || decide (bt s i = 76)) <;> simp

theorem prefN_len (l : Lx.Bs) : Lx.prefN l ≤ l.length := by
  cases l with
  | nil => exact Nat.le_refl _
  | cons c r =>
    simp only [Lx.prefN, List.length_cons]
    split
    · rename_i h
      simp only [Bool.and_eq_true, decide_eq_true_eq] at h
      cases r with
      | nil => simp at h
      | cons d r => simp
    · split <;> omega

set_option maxRecDepth 100000 in
theorem lit_any (s : ByteArray) (i : Int) (h0 : 0 ≤ i) (h1 : i < s.size) (hz : s.size ≤ 140737488355328) (w : World) :
    Calls Try.prog 166 #[.string s, .int .i64 i] w (PureP w fun v _ => v = .tuple #[.int .i64 (litE s i).1, .int .i64 (litE s i).2]) := by
  have hP := prefN_eq h0 h1
  refine x_fun tt_ok Try.func166 rfl rfl [] 0 [.v (.string s), .v (.int .i64 i)] rfl rfl rfl rfl (fun b hb => by cases hb) ?_
  refine x_seq ?_
  refine x_vc tt_ok ?_
  refine x_seq ?_
  refine x_vc tt_ok ?_
  refine x_cut (σ := Int) (fun j => ⟨[(6, .v (.int .i64 j)), (0, .v (.string s))], [], [], 0⟩)
    (fun j _ => j = i + Lx.prefN (tl s i)) (fun _ => Nat.le_refl _) ?_ ?_
  · refine x_vc tt_ok ?_
    repeat (refine And.intro ?_ ?_; first | omega | (simp only [Lay.d_n]; omega) | (simp only [decide_eq_true_eq, decide_eq_false_iff_not, Bool.or_eq_false_iff, Bool.and_eq_true, Bool.or_eq_true, Bool.and_eq_false_iff, Bool.not_eq_true', Bool.not_eq_false', Lay.d_n]; omega) | (simp only [decide_eq_true_eq, decide_eq_false_iff_not, Bool.or_eq_false_iff, Bool.and_eq_true, Bool.or_eq_true, Bool.and_eq_false_iff, Bool.not_eq_true', Bool.not_eq_false']; omega))
    refine xl_call0 (.bool (hasP (sub s i s.size) ⟨#[117, 56, 34]⟩)) rfl rfl rfl rfl fn151 rfl rfl (fun E w F _ => hasP_any _ _ w) ?_
    refine xl_go tt_ok ?_
    refine x_if (fun h => ?_) (fun h => ?_)
    · rw [if_pos h] at hP
      repeat (refine And.intro ?_ ?_; first | omega | (simp only [Lay.d_n]; omega) | (simp only [decide_eq_true_eq, decide_eq_false_iff_not, Bool.or_eq_false_iff, Bool.and_eq_true, Bool.or_eq_true, Bool.and_eq_false_iff, Bool.not_eq_true', Bool.not_eq_false', Lay.d_n]; omega) | (simp only [decide_eq_true_eq, decide_eq_false_iff_not, Bool.or_eq_false_iff, Bool.and_eq_true, Bool.or_eq_true, Bool.and_eq_false_iff, Bool.not_eq_true', Bool.not_eq_false']; omega))
      exact meet (i + 2) [] (.of rfl rfl rfl rfl rfl rfl) (by rw [hP]; rfl)
    · rw [if_neg (by rw [h]; simp)] at hP
      repeat (refine And.intro ?_ ?_; first | omega | (simp only [Lay.d_n]; omega) | (simp only [decide_eq_true_eq, decide_eq_false_iff_not, Bool.or_eq_false_iff, Bool.and_eq_true, Bool.or_eq_true, Bool.and_eq_false_iff, Bool.not_eq_true', Bool.not_eq_false', Lay.d_n]; omega) | (simp only [decide_eq_true_eq, decide_eq_false_iff_not, Bool.or_eq_false_iff, Bool.and_eq_true, Bool.or_eq_true, Bool.and_eq_false_iff, Bool.not_eq_true', Bool.not_eq_false']; omega))
      refine x_if (fun h2 => ?_) (fun h2 => ?_)
      · rw [h2, if_pos (by simp)] at hP
        refine x_ift h2 ?_
        repeat (refine And.intro ?_ ?_; first | omega | (simp only [Lay.d_n]; omega) | (simp only [decide_eq_true_eq, decide_eq_false_iff_not, Bool.or_eq_false_iff, Bool.and_eq_true, Bool.or_eq_true, Bool.and_eq_false_iff, Bool.not_eq_true', Bool.not_eq_false', Lay.d_n]; omega) | (simp only [decide_eq_true_eq, decide_eq_false_iff_not, Bool.or_eq_false_iff, Bool.and_eq_true, Bool.or_eq_true, Bool.and_eq_false_iff, Bool.not_eq_true', Bool.not_eq_false']; omega))
        exact meet (i + 1) [] (.of rfl rfl rfl rfl rfl rfl) (by rw [hP]; rfl)
      · repeat (refine And.intro ?_ ?_; first | omega | (simp only [Lay.d_n]; omega) | (simp only [decide_eq_true_eq, decide_eq_false_iff_not, Bool.or_eq_false_iff, Bool.and_eq_true, Bool.or_eq_true, Bool.and_eq_false_iff, Bool.not_eq_true', Bool.not_eq_false', Lay.d_n]; omega) | (simp only [decide_eq_true_eq, decide_eq_false_iff_not, Bool.or_eq_false_iff, Bool.and_eq_true, Bool.or_eq_true, Bool.and_eq_false_iff, Bool.not_eq_true', Bool.not_eq_false']; omega))
        refine x_if (fun h3 => ?_) (fun h3 => ?_)
        · rw [h2, h3, if_pos (by simp)] at hP
          refine x_ift h3 ?_
          repeat (refine And.intro ?_ ?_; first | omega | (simp only [Lay.d_n]; omega) | (simp only [decide_eq_true_eq, decide_eq_false_iff_not, Bool.or_eq_false_iff, Bool.and_eq_true, Bool.or_eq_true, Bool.and_eq_false_iff, Bool.not_eq_true', Bool.not_eq_false', Lay.d_n]; omega) | (simp only [decide_eq_true_eq, decide_eq_false_iff_not, Bool.or_eq_false_iff, Bool.and_eq_true, Bool.or_eq_true, Bool.and_eq_false_iff, Bool.not_eq_true', Bool.not_eq_false']; omega))
          exact meet (i + 1) [] (.of rfl rfl rfl rfl rfl rfl) (by rw [hP]; rfl)
        · repeat (refine And.intro ?_ ?_; first | omega | (simp only [Lay.d_n]; omega) | (simp only [decide_eq_true_eq, decide_eq_false_iff_not, Bool.or_eq_false_iff, Bool.and_eq_true, Bool.or_eq_true, Bool.and_eq_false_iff, Bool.not_eq_true', Bool.not_eq_false', Lay.d_n]; omega) | (simp only [decide_eq_true_eq, decide_eq_false_iff_not, Bool.or_eq_false_iff, Bool.and_eq_true, Bool.or_eq_true, Bool.and_eq_false_iff, Bool.not_eq_true', Bool.not_eq_false']; omega))
          refine x_if (fun h4 => ?_) (fun h4 => ?_)
          · rw [h2, h3, h4, if_pos (by simp)] at hP
            repeat (refine And.intro ?_ ?_; first | omega | (simp only [Lay.d_n]; omega) | (simp only [decide_eq_true_eq, decide_eq_false_iff_not, Bool.or_eq_false_iff, Bool.and_eq_true, Bool.or_eq_true, Bool.and_eq_false_iff, Bool.not_eq_true', Bool.not_eq_false', Lay.d_n]; omega) | (simp only [decide_eq_true_eq, decide_eq_false_iff_not, Bool.or_eq_false_iff, Bool.and_eq_true, Bool.or_eq_true, Bool.and_eq_false_iff, Bool.not_eq_true', Bool.not_eq_false']; omega))
            exact meet (i + 1) [] (.of rfl rfl rfl rfl rfl rfl) (by rw [hP]; rfl)
          · rw [h2, h3, h4, if_neg (by simp)] at hP
            exact meet i [] (.of rfl rfl rfl rfl rfl rfl) (by rw [hP]; exact (Int.add_zero _).symm)
  · rintro j u hu hj
    have hE := litE_eq h0 hj
    have hj0 : 0 ≤ j := by omega
    have hjl : j ≤ s.size := by
      have := prefN_len (tl s i)
      rw [tl_len] at this
      omega
    clear hP hj
    obtain ⟨N, hN⟩ : ∃ N, N = litE s i := ⟨_, rfl⟩
    rw [← hN] at hE ⊢
    refine x_vc tt_ok ?_
    repeat (refine And.intro ?_ ?_; first | omega | (simp only [Lay.d_n]; omega) | (simp only [decide_eq_true_eq, decide_eq_false_iff_not, Bool.or_eq_false_iff, Bool.and_eq_true, Bool.or_eq_true, Bool.and_eq_false_iff, Bool.not_eq_true', Bool.not_eq_false', Lay.d_n]; omega) | (simp only [decide_eq_true_eq, decide_eq_false_iff_not, Bool.or_eq_false_iff, Bool.and_eq_true, Bool.or_eq_true, Bool.and_eq_false_iff, Bool.not_eq_true', Bool.not_eq_false']; omega))
    refine x_if (fun h => ?_) (fun h => ?_)
    · have hn : ¬ (j < (s.size : Int) ∧ (bt s j = 34 ∨ bt s j = 39)) := by
        rintro ⟨ha, hb⟩
        have h' : (decide (j = (s.size : Int)) || (decide (bt s j ≠ 39) && decide (bt s j ≠ 34))) = true := h
        rw [decide_eq_false (by omega)] at h'
        simp only [Bool.false_or, Bool.and_eq_true, decide_eq_true_eq] at h'
        omega
      rw [if_neg hn] at hE
      rw [hE]
      exact fin1 (fun _ _ => rfl)
    · have h' : (decide (j = (s.size : Int)) || (decide (bt s j ≠ 39) && decide (bt s j ≠ 34))) = false := h
      obtain ⟨ha, hb⟩ := Bool.or_eq_false_iff.1 h'
      have ha' := of_decide_eq_false ha
      have hq : bt s j = 34 ∨ bt s j = 39 := by
        by_cases h39 : bt s j = 39
        · exact .inr h39
        · rw [decide_eq_true h39, Bool.true_and] at hb
          exact .inl (Classical.not_not.1 (of_decide_eq_false hb))
      rw [if_pos ⟨by omega, hq⟩] at hE
      clear hb h h' ha
      refine x_draw mix (by kernel_rfl) (xd_go tt_ok ?_)
      repeat (refine And.intro ?_ ?_; first | omega | (simp only [Lay.d_n]; omega) | (simp only [decide_eq_true_eq, decide_eq_false_iff_not, Bool.or_eq_false_iff, Bool.and_eq_true, Bool.or_eq_true, Bool.and_eq_false_iff, Bool.not_eq_true', Bool.not_eq_false', Lay.d_n]; omega) | (simp only [decide_eq_true_eq, decide_eq_false_iff_not, Bool.or_eq_false_iff, Bool.and_eq_true, Bool.or_eq_true, Bool.and_eq_false_iff, Bool.not_eq_true', Bool.not_eq_false']; omega))
      refine x_vc tt_ok ?_
      generalize bt s j = q at hE hq ⊢
      refine x_loop (σ := Int) (fun k => ⟨[(8, .v (.int .u8 q)), (7, .v (.int .i64 (j + 1))), (6, .v (.int .i64 k)), (0, .v (.string s))], [], [], 0⟩)
        (fun k _ => j + 1 ≤ k ∧ k ≤ s.size ∧ N = lE q (j + 1) (atE k (Lx.bodyN q (tl s k)))) (fun k => (s.size - k).toNat) (fun _ => Nat.le_refl _) (j + 1) [] (.of rfl rfl rfl rfl rfl rfl)
        ⟨by omega, by omega, hE⟩ ?_
      clear hE
      rintro k u2 hu2 ⟨g1, g2, g3⟩
      refine x_vc tt_ok ?_
      repeat (refine And.intro ?_ ?_; first | omega | (simp only [Lay.d_n]; omega) | (simp only [decide_eq_true_eq, decide_eq_false_iff_not, Bool.or_eq_false_iff, Bool.and_eq_true, Bool.or_eq_true, Bool.and_eq_false_iff, Bool.not_eq_true', Bool.not_eq_false', Lay.d_n]; omega) | (simp only [decide_eq_true_eq, decide_eq_false_iff_not, Bool.or_eq_false_iff, Bool.and_eq_true, Bool.or_eq_true, Bool.and_eq_false_iff, Bool.not_eq_true', Bool.not_eq_false']; omega))
      refine x_if (fun h => ?_) (fun h => ?_)
      · obtain ⟨hc, hb⟩ := Bool.and_eq_true_iff.1 h
        have h2 : k < s.size := of_decide_eq_true hc
        have h3 : ¬ bt s k = 10 := of_decide_eq_true hb
        rw [tl_cons (by omega) h2, bodyN_cons, if_neg h3] at g3
        repeat (refine And.intro ?_ ?_; first | omega | (simp only [Lay.d_n]; omega) | (simp only [decide_eq_true_eq, decide_eq_false_iff_not, Bool.or_eq_false_iff, Bool.and_eq_true, Bool.or_eq_true, Bool.and_eq_false_iff, Bool.not_eq_true', Bool.not_eq_false', Lay.d_n]; omega) | (simp only [decide_eq_true_eq, decide_eq_false_iff_not, Bool.or_eq_false_iff, Bool.and_eq_true, Bool.or_eq_true, Bool.and_eq_false_iff, Bool.not_eq_true', Bool.not_eq_false']; omega))
        refine x_if (fun h5 => ?_) (fun h5 => ?_)
        · obtain ⟨h6, h7⟩ := Bool.and_eq_true_iff.1 h5
          have h6 : bt s k = q := of_decide_eq_true h6
          have h7 : q = 34 := of_decide_eq_true h7
          rw [if_pos h6, atE_one, lE, if_neg (by omega), if_pos h7] at g3
          repeat (refine And.intro ?_ ?_; first | omega | (simp only [Lay.d_n]; omega) | (simp only [decide_eq_true_eq, decide_eq_false_iff_not, Bool.or_eq_false_iff, Bool.and_eq_true, Bool.or_eq_true, Bool.and_eq_false_iff, Bool.not_eq_true', Bool.not_eq_false', Lay.d_n]; omega) | (simp only [decide_eq_true_eq, decide_eq_false_iff_not, Bool.or_eq_false_iff, Bool.and_eq_true, Bool.or_eq_true, Bool.and_eq_false_iff, Bool.not_eq_true', Bool.not_eq_false']; omega))
          rw [g3]
          exact fin1 (fun _ _ => rfl)
        · repeat (refine And.intro ?_ ?_; first | omega | (simp only [Lay.d_n]; omega) | (simp only [decide_eq_true_eq, decide_eq_false_iff_not, Bool.or_eq_false_iff, Bool.and_eq_true, Bool.or_eq_true, Bool.and_eq_false_iff, Bool.not_eq_true', Bool.not_eq_false', Lay.d_n]; omega) | (simp only [decide_eq_true_eq, decide_eq_false_iff_not, Bool.or_eq_false_iff, Bool.and_eq_true, Bool.or_eq_true, Bool.and_eq_false_iff, Bool.not_eq_true', Bool.not_eq_false']; omega))
          refine x_if (fun h8 => ?_) (fun h8 => ?_)
          · obtain ⟨h6, h7⟩ := Bool.and_eq_true_iff.1 h8
            have h6' : bt s k = q := of_decide_eq_true h6
            have h9 : j + 1 < k := of_decide_eq_true h7
            have h10 : ¬ q = 34 := fun h => by
              have h5' : (decide (bt s k = q) && decide (q = 34)) = false := h5
              rw [h6, decide_eq_true h] at h5'; cases h5'
            rw [if_pos h6', atE_one, lE, if_neg (by omega), if_neg h10, if_neg (by omega)] at g3
            repeat (refine And.intro ?_ ?_; first | omega | (simp only [Lay.d_n]; omega) | (simp only [decide_eq_true_eq, decide_eq_false_iff_not, Bool.or_eq_false_iff, Bool.and_eq_true, Bool.or_eq_true, Bool.and_eq_false_iff, Bool.not_eq_true', Bool.not_eq_false', Lay.d_n]; omega) | (simp only [decide_eq_true_eq, decide_eq_false_iff_not, Bool.or_eq_false_iff, Bool.and_eq_true, Bool.or_eq_true, Bool.and_eq_false_iff, Bool.not_eq_true', Bool.not_eq_false']; omega))
            rw [g3]
            exact fin1 (fun _ _ => rfl)
          · repeat (refine And.intro ?_ ?_; first | omega | (simp only [Lay.d_n]; omega) | (simp only [decide_eq_true_eq, decide_eq_false_iff_not, Bool.or_eq_false_iff, Bool.and_eq_true, Bool.or_eq_true, Bool.and_eq_false_iff, Bool.not_eq_true', Bool.not_eq_false', Lay.d_n]; omega) | (simp only [decide_eq_true_eq, decide_eq_false_iff_not, Bool.or_eq_false_iff, Bool.and_eq_true, Bool.or_eq_true, Bool.and_eq_false_iff, Bool.not_eq_true', Bool.not_eq_false']; omega))
            refine x_if (fun h11 => ?_) (fun h11 => ?_)
            · have h6' : bt s k = q := of_decide_eq_true h11
              have h10 : ¬ q = 34 := fun h => by
                have h5' : (decide (bt s k = q) && decide (q = 34)) = false := h5
                rw [h11, decide_eq_true h] at h5'; cases h5'
              have h12 : ¬ j + 1 < k := fun h => by
                have h8' : (decide (bt s k = q) && decide (j + 1 < k)) = false := h8
                rw [h11, decide_eq_true h] at h8'; cases h8'
              rw [if_pos h6', atE_one, lE, if_neg (by omega), if_neg h10, if_pos (by omega)] at g3
              rw [g3]
              exact fin1 (fun _ _ => rfl)
            · rw [if_neg (of_decide_eq_false h11)] at g3
              repeat (refine And.intro ?_ ?_; first | omega | (simp only [Lay.d_n]; omega) | (simp only [decide_eq_true_eq, decide_eq_false_iff_not, Bool.or_eq_false_iff, Bool.and_eq_true, Bool.or_eq_true, Bool.and_eq_false_iff, Bool.not_eq_true', Bool.not_eq_false', Lay.d_n]; omega) | (simp only [decide_eq_true_eq, decide_eq_false_iff_not, Bool.or_eq_false_iff, Bool.and_eq_true, Bool.or_eq_true, Bool.and_eq_false_iff, Bool.not_eq_true', Bool.not_eq_false']; omega))
              refine x_if (fun h12 => ?_) (fun h12 => ?_)
              · have h12' : (decide (bt s k = 92) && decide (k + 1 < (s.size : Int)) && decide (bt s (k + 1) ≠ 10)) = true := h12
                obtain ⟨h13, h14⟩ := Bool.and_eq_true_iff.1 h12'
                obtain ⟨h15, h16⟩ := Bool.and_eq_true_iff.1 h13
                have h16' := of_decide_eq_true h16
                rw [if_pos (of_decide_eq_true h15), tl_cons (by omega) h16'] at g3
                simp only at g3
                rw [if_neg (of_decide_eq_true h14), atE_up2] at g3
                repeat (refine And.intro ?_ ?_; first | omega | (simp only [Lay.d_n]; omega) | (simp only [decide_eq_true_eq, decide_eq_false_iff_not, Bool.or_eq_false_iff, Bool.and_eq_true, Bool.or_eq_true, Bool.and_eq_false_iff, Bool.not_eq_true', Bool.not_eq_false', Lay.d_n]; omega) | (simp only [decide_eq_true_eq, decide_eq_false_iff_not, Bool.or_eq_false_iff, Bool.and_eq_true, Bool.or_eq_true, Bool.and_eq_false_iff, Bool.not_eq_true', Bool.not_eq_false']; omega))
                refine again (k + 1 + 1) [] (.of rfl rfl rfl rfl rfl rfl) ⟨by omega, by omega, ?_⟩ (by omega)
                rw [show k + 1 + 1 = k + 2 by omega] at g3 ⊢
                exact g3
              · repeat (refine And.intro ?_ ?_; first | omega | (simp only [Lay.d_n]; omega) | (simp only [decide_eq_true_eq, decide_eq_false_iff_not, Bool.or_eq_false_iff, Bool.and_eq_true, Bool.or_eq_true, Bool.and_eq_false_iff, Bool.not_eq_true', Bool.not_eq_false', Lay.d_n]; omega) | (simp only [decide_eq_true_eq, decide_eq_false_iff_not, Bool.or_eq_false_iff, Bool.and_eq_true, Bool.or_eq_true, Bool.and_eq_false_iff, Bool.not_eq_true', Bool.not_eq_false']; omega))
                refine x_if (fun h17 => ?_) (fun h17 => ?_)
                · have h92 := of_decide_eq_true h17
                  rw [if_pos h92] at g3
                  have h12' : (decide (bt s k = 92) && decide (k + 1 < (s.size : Int)) && decide (bt s (k + 1) ≠ 10)) = false := h12
                  rw [h17, Bool.true_and] at h12'
                  have e : N = (0, 0) := by
                    rw [g3]
                    by_cases h18 : k + 1 < s.size
                    · rw [decide_eq_true h18, Bool.true_and] at h12'
                      rw [tl_cons (by omega) h18]
                      simp only
                      rw [if_pos (Classical.not_not.1 (of_decide_eq_false h12'))]; rfl
                    · rw [tl_nil (by omega)]; rfl
                  rw [e]
                  exact fin1 (fun _ _ => rfl)
                · rw [if_neg (of_decide_eq_false h17), atE_up] at g3
                  repeat (refine And.intro ?_ ?_; first | omega | (simp only [Lay.d_n]; omega) | (simp only [decide_eq_true_eq, decide_eq_false_iff_not, Bool.or_eq_false_iff, Bool.and_eq_true, Bool.or_eq_true, Bool.and_eq_false_iff, Bool.not_eq_true', Bool.not_eq_false', Lay.d_n]; omega) | (simp only [decide_eq_true_eq, decide_eq_false_iff_not, Bool.or_eq_false_iff, Bool.and_eq_true, Bool.or_eq_true, Bool.and_eq_false_iff, Bool.not_eq_true', Bool.not_eq_false']; omega))
                  exact again (k + 1) [] (.of rfl rfl rfl rfl rfl rfl) ⟨by omega, by omega, g3⟩ (by omega)
      · have e : N = (0, 0) := by
          rw [g3]
          by_cases h2 : k < s.size
          · have h' : (decide (k < (s.size : Int)) && decide (bt s k ≠ 10)) = false := h
            rw [decide_eq_true h2, Bool.true_and] at h'
            rw [tl_cons (by omega) h2, bodyN_cons, if_pos (Classical.not_not.1 (of_decide_eq_false h'))]; rfl
          · rw [tl_nil (by omega)]; rfl
        rw [e]
        exact fin1 (fun _ _ => rfl)
end Go.Proofs.Ytdonomneofdhfaa
