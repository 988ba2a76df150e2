/- The document's tokens: words, numbers, what stands between quotes. -/
import Derived.Test.YtdonomneofdhfaaE3
namespace Go.Proofs.Ytdonomneofdhfaa
open Go.GV Go.RowKit

theorem isWord_cons (c : Int) (r : Lx.Bs) : Lx.isWord (c :: r) = (Lx.letter c && r.all Lx.alnum) := rfl

set_option maxRecDepth 100000 in
theorem isWord_any (s : ByteArray) (hz : s.size ≤ 140737488355328) (w : World) : Calls Try.prog 170 #[.string s] w (PureP w fun v _ => v = .bool (Lx.isWord (bl s))) := by
  obtain ⟨N, hN⟩ : ∃ N, N = Lx.isWord (bl s) := ⟨_, rfl⟩
  rw [← hN]
  refine x_fun tt_ok Try.func170 rfl rfl [] 0 [.v (.string s)] rfl rfl rfl rfl (fun b hb => by cases hb) ?_
  refine x_vc tt_ok ?_
  refine x_loop (σ := Int) (fun k => ⟨[(3, .v (.int .i64 k)), (0, .v (.string s))], [], [], 0⟩)
    (fun k _ => 0 ≤ k ∧ k ≤ s.size ∧ (0 < k → N = (tl s k).all Lx.alnum)) (fun k => (s.size - k).toNat) (fun _ => Nat.le_refl _) 0 [] (.of rfl rfl rfl rfl rfl rfl)
    ⟨by omega, by omega, fun h => absurd h (by omega)⟩ ?_
  rintro k u hu ⟨g1, g2, g3⟩
  refine x_vc tt_ok ?_
  refine x_if (fun h => ?_) (fun h => ?_)
  · have h2 : k < s.size := of_decide_eq_true h
    repeat (refine And.intro ?_ ?_; first | omega | (simp only [Lay.d_n]; omega) | (simp only [decide_eq_true_eq, decide_eq_false_iff_not, Bool.or_eq_false_iff, Bool.and_eq_true, Bool.or_eq_true, Bool.and_eq_false_iff, Bool.not_eq_true', Bool.not_eq_false', Lay.d_n]; omega) | (simp only [decide_eq_true_eq, decide_eq_false_iff_not, Bool.or_eq_false_iff, Bool.and_eq_true, Bool.or_eq_true, Bool.and_eq_false_iff, Bool.not_eq_true', Bool.not_eq_false']; omega))
    refine xl_call0 (.bool (Lx.letter (bt s k))) rfl rfl rfl rfl fn181 rfl rfl (fun E w F _ => letterR_any _ w) ?_
    refine xl_go tt_ok ?_
    repeat (refine And.intro ?_ ?_; first | omega | (simp only [Lay.d_n]; omega) | (simp only [decide_eq_true_eq, decide_eq_false_iff_not, Bool.or_eq_false_iff, Bool.and_eq_true, Bool.or_eq_true, Bool.and_eq_false_iff, Bool.not_eq_true', Bool.not_eq_false', Lay.d_n]; omega) | (simp only [decide_eq_true_eq, decide_eq_false_iff_not, Bool.or_eq_false_iff, Bool.and_eq_true, Bool.or_eq_true, Bool.and_eq_false_iff, Bool.not_eq_true', Bool.not_eq_false']; omega))
    refine xl_gcall0 (.bool (Lx.digit (bt s k))) rfl rfl rfl rfl fn182 rfl rfl (fun _ E w F _ => digitR_any _ w) ?_
    refine xl_go tt_ok ?_
    have key : N = if k = 0 then (Lx.letter (bt s k) && (tl s (k + 1)).all Lx.alnum) else (Lx.alnum (bt s k) && (tl s (k + 1)).all Lx.alnum) := by
      by_cases hk : k = 0
      · subst hk
        rw [if_pos rfl, hN, ← tl_zero, tl_cons (by omega) h2]; rfl
      · rw [if_neg hk, g3 (by omega), tl_cons g1 h2]; rfl
    refine x_if (fun h3 => ?_) (fun h3 => ?_)
    · have h3' : (!Lx.letter (bt s k) && (decide (k = 0) || !Lx.digit (bt s k))) = true := h3
      have e : N = false := by
        rw [key]
        obtain ⟨q1, q2⟩ := Bool.and_eq_true_iff.1 h3'
        rw [Bool.not_eq_true'] at q1
        by_cases hk : k = 0
        · rw [if_pos hk, q1]; rfl
        · rw [decide_eq_false hk, Bool.false_or, Bool.not_eq_true'] at q2
          rw [if_neg hk]; unfold Lx.alnum; rw [q1, q2]; rfl
      rw [e]
      exact fin1 (fun _ _ => rfl)
    · have h3' : (!Lx.letter (bt s k) && (decide (k = 0) || !Lx.digit (bt s k))) = false := h3
      repeat (refine And.intro ?_ ?_; first | omega | (simp only [Lay.d_n]; omega) | (simp only [decide_eq_true_eq, decide_eq_false_iff_not, Bool.or_eq_false_iff, Bool.and_eq_true, Bool.or_eq_true, Bool.and_eq_false_iff, Bool.not_eq_true', Bool.not_eq_false', Lay.d_n]; omega) | (simp only [decide_eq_true_eq, decide_eq_false_iff_not, Bool.or_eq_false_iff, Bool.and_eq_true, Bool.or_eq_true, Bool.and_eq_false_iff, Bool.not_eq_true', Bool.not_eq_false']; omega))
      refine again (k + 1) [] (.of rfl rfl rfl rfl rfl rfl) ⟨by omega, by omega, fun _ => ?_⟩ (by omega)
      rw [key]
      cases hl : Lx.letter (bt s k) with
      | true => unfold Lx.alnum; rw [hl]; simp
      | false =>
        rw [hl] at h3'
        simp only [Bool.not_false, Bool.true_and, Bool.or_eq_false_iff, decide_eq_false_iff_not, Bool.not_eq_false'] at h3'
        rw [if_neg h3'.1]; unfold Lx.alnum; rw [hl, h3'.2]; rfl
  · have h2 : ¬ k < (s.size : Int) := of_decide_eq_false h
    have e : N = decide (0 < (s.size : Int)) := by
      by_cases h0 : (0 : Int) < s.size
      · rw [g3 (by omega), tl_nil (by omega), decide_eq_true h0]; rfl
      · rw [hN, ← tl_zero, tl_nil (by omega), decide_eq_false h0]; rfl
    rw [e]
    exact fin1 (fun _ _ => rfl)

theorem pieces_cons (q c : Int) (r : Lx.Bs) : Lx.pieces q (c :: r) = if (decide (c = q) || decide (c = 10)) = true then false else if c = 92 then
    (match r with
      | [] => false
      | d :: r' => if d = 10 then false else Lx.pieces q r') else Lx.pieces q r := by
  cases r with
  | nil =>
    simp only [Lx.pieces]
    cases (decide (c = q) || decide (c = 10)) with
    | true => rfl
    | false => by_cases h : c = 92 <;> simp [h]
  | cons d r =>
    simp only [Lx.pieces]
    cases (decide (c = q) || decide (c = 10)) with
    | true => rfl
    | false =>
      by_cases h : c = 92
      · by_cases h2 : d = 10 <;> simp [h, h2]
      · simp [h]

set_option maxRecDepth 100000 in
theorem pieces_any (s : ByteArray) (q : Int) (hz : s.size ≤ 140737488355328) (w : World) : Calls Try.prog 185 #[.string s, .int .u8 q] w (PureP w fun v _ => v = .bool (Lx.pieces q (bl s))) := by
  obtain ⟨N, hN⟩ : ∃ N, N = Lx.pieces q (bl s) := ⟨_, rfl⟩
  rw [← hN]
  refine x_fun tt_ok Try.func185 rfl rfl [] 0 [.v (.string s), .v (.int .u8 q)] rfl rfl rfl rfl (fun b hb => by cases hb) ?_
  refine x_vc tt_ok ?_
  refine x_loop (σ := Int) (fun k => ⟨[(5, .v (.int .i64 k)), (1, .v (.int .u8 q)), (0, .v (.string s))], [], [], 0⟩)
    (fun k _ => 0 ≤ k ∧ k ≤ s.size ∧ N = Lx.pieces q (tl s k)) (fun k => (s.size - k).toNat) (fun _ => Nat.le_refl _) 0 [] (.of rfl rfl rfl rfl rfl rfl)
    ⟨by omega, by omega, hN⟩ ?_
  rintro k u hu ⟨g1, g2, g3⟩
  refine x_vc tt_ok ?_
  refine x_if (fun h => ?_) (fun h => ?_)
  · have h2 : k < s.size := of_decide_eq_true h
    rw [tl_cons g1 h2, pieces_cons] at g3
    repeat (refine And.intro ?_ ?_; first | omega | (simp only [Lay.d_n]; omega) | (simp only [decide_eq_true_eq, decide_eq_false_iff_not, Bool.or_eq_false_iff, Bool.and_eq_true, Bool.or_eq_true, Bool.and_eq_false_iff, Bool.not_eq_true', Bool.not_eq_false', Lay.d_n]; omega) | (simp only [decide_eq_true_eq, decide_eq_false_iff_not, Bool.or_eq_false_iff, Bool.and_eq_true, Bool.or_eq_true, Bool.and_eq_false_iff, Bool.not_eq_true', Bool.not_eq_false']; omega))
    refine x_if (fun h3 => ?_) (fun h3 => ?_)
    · rw [if_pos h3] at g3
      rw [g3]
      exact fin1 (fun _ _ => rfl)
    · rw [if_neg (fun h => Bool.noConfusion (h.symm.trans h3))] at g3
      repeat (refine And.intro ?_ ?_; first | omega | (simp only [Lay.d_n]; omega) | (simp only [decide_eq_true_eq, decide_eq_false_iff_not, Bool.or_eq_false_iff, Bool.and_eq_true, Bool.or_eq_true, Bool.and_eq_false_iff, Bool.not_eq_true', Bool.not_eq_false', Lay.d_n]; omega) | (simp only [decide_eq_true_eq, decide_eq_false_iff_not, Bool.or_eq_false_iff, Bool.and_eq_true, Bool.or_eq_true, Bool.and_eq_false_iff, Bool.not_eq_true', Bool.not_eq_false']; omega))
      refine x_if (fun h4 => ?_) (fun h4 => ?_)
      · rw [if_pos (of_decide_eq_true h4)] at g3
        repeat (refine And.intro ?_ ?_; first | omega | (simp only [Lay.d_n]; omega) | (simp only [decide_eq_true_eq, decide_eq_false_iff_not, Bool.or_eq_false_iff, Bool.and_eq_true, Bool.or_eq_true, Bool.and_eq_false_iff, Bool.not_eq_true', Bool.not_eq_false', Lay.d_n]; omega) | (simp only [decide_eq_true_eq, decide_eq_false_iff_not, Bool.or_eq_false_iff, Bool.and_eq_true, Bool.or_eq_true, Bool.and_eq_false_iff, Bool.not_eq_true', Bool.not_eq_false']; omega))
        refine x_if (fun h5 => ?_) (fun h5 => ?_)
        · have h5' : (decide (k + 1 = (s.size : Int)) || decide (bt s (k + 1) = 10)) = true := h5
          have e : N = false := by
            rw [g3]
            by_cases h6 : k + 1 < s.size
            · rw [decide_eq_false (by omega), Bool.false_or] at h5'
              rw [tl_cons (by omega) h6]
              exact if_pos (of_decide_eq_true h5')
            · rw [tl_nil (by omega)]
          rw [e]
          exact fin1 (fun _ _ => rfl)
        · have h5' : (decide (k + 1 = (s.size : Int)) || decide (bt s (k + 1) = 10)) = false := h5
          obtain ⟨q1, q2⟩ := Bool.or_eq_false_iff.1 h5'
          have q1 := of_decide_eq_false q1
          rw [tl_cons (by omega) (by omega)] at g3
          simp only at g3
          rw [if_neg (of_decide_eq_false q2)] at g3
          repeat (refine And.intro ?_ ?_; first | omega | (simp only [Lay.d_n]; omega) | (simp only [decide_eq_true_eq, decide_eq_false_iff_not, Bool.or_eq_false_iff, Bool.and_eq_true, Bool.or_eq_true, Bool.and_eq_false_iff, Bool.not_eq_true', Bool.not_eq_false', Lay.d_n]; omega) | (simp only [decide_eq_true_eq, decide_eq_false_iff_not, Bool.or_eq_false_iff, Bool.and_eq_true, Bool.or_eq_true, Bool.and_eq_false_iff, Bool.not_eq_true', Bool.not_eq_false']; omega))
          exact again (k + 1 + 1) [] (.of rfl rfl rfl rfl rfl rfl) ⟨by omega, by omega, g3⟩ (by omega)
      · rw [if_neg (of_decide_eq_false h4)] at g3
        repeat (refine And.intro ?_ ?_; first | omega | (simp only [Lay.d_n]; omega) | (simp only [decide_eq_true_eq, decide_eq_false_iff_not, Bool.or_eq_false_iff, Bool.and_eq_true, Bool.or_eq_true, Bool.and_eq_false_iff, Bool.not_eq_true', Bool.not_eq_false', Lay.d_n]; omega) | (simp only [decide_eq_true_eq, decide_eq_false_iff_not, Bool.or_eq_false_iff, Bool.and_eq_true, Bool.or_eq_true, Bool.and_eq_false_iff, Bool.not_eq_true', Bool.not_eq_false']; omega))
        exact again (k + 1) [] (.of rfl rfl rfl rfl rfl rfl) ⟨by omega, by omega, g3⟩ (by omega)
  · have h2 : ¬ k < (s.size : Int) := of_decide_eq_false h
    rw [tl_nil (by omega)] at g3
    rw [g3]
    exact fin1 (fun _ _ => rfl)

/-! ### Numbers, from the end -/
theorem allP_snoc : ∀ (l : Lx.Bs) (a c : Int), Lx.allP a (l ++ [c]) = (Lx.allP a l && Lx.okp ((a :: l).getLast (by simp)) c)
  | [], a, c => by simp [Lx.allP]
  | b :: r, a, c => by
    simp only [List.cons_append, Lx.allP, allP_snoc r b c, Bool.and_assoc]
    rfl

theorem isNum_snoc {l : Lx.Bs} (h : l ≠ []) (h2 : l ≠ [46]) (c : Int) : Lx.isNum (l ++ [c]) = (Lx.isNum l && Lx.okp (l.getLast h) c) := by
  match l, h, h2 with
  | [a], _, h2 =>
    have ha : ¬ a = 46 := fun h => h2 (by rw [h])
    simp only [List.cons_append, List.nil_append, Lx.isNum, Lx.allP, List.getLast_singleton, Bool.and_true, decide_eq_false ha]
    cases Lx.digit a <;> rfl
  | a :: d :: r, _, _ =>
    simp only [List.cons_append, Lx.isNum]
    cases Lx.digit a with
    | true =>
      have := allP_snoc (d :: r) a c
      rw [List.cons_append] at this
      exact this
    | false =>
      cases decide (a = 46) with
      | true =>
        simp only [allP_snoc r d c]
        rw [Bool.and_assoc]; rfl
      | false => rfl

theorem sign_okc {c : Int} (h : Lx.sign c = true) : Lx.okc c = false := by
  unfold Lx.sign at h
  simp only [Bool.or_eq_true, decide_eq_true_eq] at h
  rcases h with rfl | rfl <;> rfl
theorem expo_digit {c : Int} (h : Lx.expo c = true) : Lx.digit c = false := by
  unfold Lx.expo at h
  simp only [Bool.or_eq_true, decide_eq_true_eq] at h
  rcases h with ((rfl | rfl) | rfl) | rfl <;> rfl

theorem snocS (s : ByteArray) {k : Int} (h0 : 0 ≤ k) (h : k < s.size) : bl (sub s 0 (k + 1)) = bl (sub s 0 k) ++ [bt s k] := by
  have hl : k.toNat < (bl s).length := by rw [bl_len]; omega
  rw [bl_sub s (Int.le_refl _) (by omega) (by omega), bl_sub s (Int.le_refl _) (by omega) (by omega), tl_zero, Int.sub_zero, Int.sub_zero, show (k + 1).toNat = k.toNat + 1 by omega]
  have h2 := bl_get s (n := k.toNat) (by omega)
  rw [show ((k.toNat : Nat) : Int) = k by omega] at h2
  rw [List.getElem?_eq_getElem hl] at h2
  rw [← Option.some.inj h2]
  exact (List.take_append_getElem hl).symm
theorem wholeS (s : ByteArray) : bl (sub s 0 s.size) = bl s := bl_rest s (Int.le_refl _) (by omega)

theorem isNum_step (s : ByteArray) (h2 : 2 ≤ s.size) (hx : ¬ (s.size = 2 ∧ bt s 0 = 46)) : Lx.isNum (bl s) =
    if Lx.sign (bt s ((s.size : Int) - 1)) = true then (decide (2 < (s.size : Int)) && Lx.expo (bt s ((s.size : Int) - 2)) && Lx.isNum (bl (sub s 0 ((s.size : Int) - 2))))
    else (Lx.okc (bt s ((s.size : Int) - 1)) && Lx.isNum (bl (sub s 0 ((s.size : Int) - 1)))) := by
  have e1 := snocS s (k := (s.size : Int) - 1) (by omega) (by omega)
  have e2 := snocS s (k := (s.size : Int) - 2) (by omega) (by omega)
  rw [show (s.size : Int) - 1 + 1 = s.size by omega, wholeS] at e1
  rw [show (s.size : Int) - 2 + 1 = (s.size : Int) - 1 by omega] at e2
  have hp : (bl (sub s 0 ((s.size : Int) - 2))).length = s.size - 2 := by
    rw [bl_sub s (Int.le_refl _) (by omega) (by omega), List.length_take, tl_len]; omega
  have hp0 : s.size = 2 → bt s ((s.size : Int) - 2) = bt s 0 := fun h => by rw [h]; rfl
  have hp46 : bl (sub s 0 ((s.size : Int) - 2)) = [46] → Lx.isNum (bl (sub s 0 ((s.size : Int) - 2))) = false := fun h => by rw [h]; rfl
  generalize bl (sub s 0 ((s.size : Int) - 2)) = p at e2 hp hp46 ⊢
  generalize bt s ((s.size : Int) - 2) = a at e2 hp0 ⊢
  generalize bt s ((s.size : Int) - 1) = c at e1 ⊢
  have hm46 : bl (sub s 0 ((s.size : Int) - 1)) ≠ [46] := by
    rw [e2]
    intro h
    cases p with
    | nil =>
      simp only [List.length_nil] at hp
      have h3 : s.size = 2 := by omega
      simp only [List.nil_append, List.cons.injEq, and_true] at h
      exact hx ⟨h3, (hp0 h3).symm.trans h⟩
    | cons x r => simp at h
  rw [e1, isNum_snoc (by rw [e2]; simp) hm46]
  have hlast : ∀ h, (bl (sub s 0 ((s.size : Int) - 1))).getLast h = a := fun h => by simp only [e2, List.getLast_append, List.getLast_singleton]; simp
  rw [hlast]
  by_cases hs : Lx.sign c = true
  · rw [if_pos hs]
    unfold Lx.okp
    rw [sign_okc hs, hs, Bool.false_or, Bool.true_and]
    cases ha : Lx.expo a with
    | false => simp
    | true =>
      rw [Bool.and_true, Bool.and_true, e2]
      cases p with
      | nil =>
        simp only [List.length_nil] at hp
        rw [decide_eq_false (by omega), Bool.false_and]
        show Lx.isNum [a] = false
        simp only [Lx.isNum, expo_digit ha]
        split
        · simp_all
        · rfl
      | cons x r =>
        simp only [List.length_cons] at hp
        rw [decide_eq_true (by omega), Bool.true_and]
        by_cases h46 : x :: r = [46]
        · rw [hp46 h46, h46]
          simp [Lx.isNum, Lx.digit, Lx.allP]
          have := expo_digit ha
          unfold Lx.digit at this
          simpa using this
        · rw [isNum_snoc (by simp) h46, expo_okc ha, Bool.and_true]
  · rw [if_neg hs]
    have hs : Lx.sign c = false := by simpa using hs
    unfold Lx.okp
    rw [hs, Bool.false_and, Bool.or_false, Bool.and_comm]

set_option maxRecDepth 100000 in
theorem isNumN_any (n : Nat) : ∀ (s : ByteArray), s.size = n → s.size ≤ 140737488355328 → ∀ w : World, Calls Try.prog 171 #[.string s] w (PureP w fun v _ => v = .bool (Lx.isNum (bl s))) := by
  induction n using Nat.strongRecOn with
  | _ n ih =>
    intro s hn hz w
    obtain ⟨N, hN⟩ : ∃ N, N = Lx.isNum (bl s) := ⟨_, rfl⟩
    rw [← hN]
    refine x_fun tt_ok Try.func171 rfl rfl [] 0 [.v (.string s)] rfl rfl rfl rfl (fun b hb => by cases hb) ?_
    refine x_vc tt_ok ?_
    refine x_if (fun h => ?_) (fun h => ?_)
    · have h0 : (s.size : Int) = 0 := of_decide_eq_true h
      have e : N = false := by rw [hN, ← tl_zero, tl_nil (by omega)]; rfl
      rw [e]
      exact fin1 (fun _ _ => rfl)
    · have h0 : ¬ (s.size : Int) = 0 := of_decide_eq_false h
      refine x_if (fun h1 => ?_) (fun h1 => ?_)
      · have h1 : (s.size : Int) = 1 := of_decide_eq_true h1
        repeat (refine And.intro ?_ ?_; first | omega | (simp only [Lay.d_n]; omega) | (simp only [decide_eq_true_eq, decide_eq_false_iff_not, Bool.or_eq_false_iff, Bool.and_eq_true, Bool.or_eq_true, Bool.and_eq_false_iff, Bool.not_eq_true', Bool.not_eq_false', Lay.d_n]; omega) | (simp only [decide_eq_true_eq, decide_eq_false_iff_not, Bool.or_eq_false_iff, Bool.and_eq_true, Bool.or_eq_true, Bool.and_eq_false_iff, Bool.not_eq_true', Bool.not_eq_false']; omega))
        refine xl_call0 (.bool (Lx.digit (bt s 0))) rfl rfl rfl rfl fn182 rfl rfl (fun E w F _ => digitR_any _ w) ?_
        refine xl_go tt_ok ?_
        have e : N = Lx.digit (bt s 0) := by
          rw [hN, ← tl_zero, tl_cons (by omega) (by omega), tl_nil (by omega)]
          simp only [Lx.isNum, Lx.allP]
          cases Lx.digit (bt s 0) with
          | true => rfl
          | false => cases decide (bt s 0 = 46) <;> rfl
        rw [e]
        exact fin1 (fun _ _ => rfl)
      · have h1 : ¬ (s.size : Int) = 1 := of_decide_eq_false h1
        repeat (refine And.intro ?_ ?_; first | omega | (simp only [Lay.d_n]; omega) | (simp only [decide_eq_true_eq, decide_eq_false_iff_not, Bool.or_eq_false_iff, Bool.and_eq_true, Bool.or_eq_true, Bool.and_eq_false_iff, Bool.not_eq_true', Bool.not_eq_false', Lay.d_n]; omega) | (simp only [decide_eq_true_eq, decide_eq_false_iff_not, Bool.or_eq_false_iff, Bool.and_eq_true, Bool.or_eq_true, Bool.and_eq_false_iff, Bool.not_eq_true', Bool.not_eq_false']; omega))
        refine x_if (fun h2 => ?_) (fun h2 => ?_)
        · obtain ⟨q1, q2⟩ := Bool.and_eq_true_iff.1 h2
          have q1 : (s.size : Int) = 2 := of_decide_eq_true q1
          have q2 : bt s 0 = 46 := of_decide_eq_true q2
          repeat (refine And.intro ?_ ?_; first | omega | (simp only [Lay.d_n]; omega) | (simp only [decide_eq_true_eq, decide_eq_false_iff_not, Bool.or_eq_false_iff, Bool.and_eq_true, Bool.or_eq_true, Bool.and_eq_false_iff, Bool.not_eq_true', Bool.not_eq_false', Lay.d_n]; omega) | (simp only [decide_eq_true_eq, decide_eq_false_iff_not, Bool.or_eq_false_iff, Bool.and_eq_true, Bool.or_eq_true, Bool.and_eq_false_iff, Bool.not_eq_true', Bool.not_eq_false']; omega))
          refine xl_call0 (.bool (Lx.digit (bt s 1))) rfl rfl rfl rfl fn182 rfl rfl (fun E w F _ => digitR_any _ w) ?_
          refine xl_go tt_ok ?_
          have e : N = Lx.digit (bt s 1) := by
            rw [hN, ← tl_zero, tl_cons (by omega) (by omega), tl_cons (by omega) (by omega), tl_nil (by omega), q2]
            simp [Lx.isNum, Lx.allP, show Lx.digit 46 = false from rfl]
          rw [e]
          exact fin1 (fun _ _ => rfl)
        · have hx : ¬ (s.size = 2 ∧ bt s 0 = 46) := by
            rintro ⟨q1, q2⟩
            have h2' : (decide ((s.size : Int) = 2) && decide (bt s 0 = 46)) = false := h2
            rw [decide_eq_true (by omega), decide_eq_true q2] at h2'; cases h2'
          have key := isNum_step s (by omega) hx
          rw [← hN] at key
          repeat (refine And.intro ?_ ?_; first | omega | (simp only [Lay.d_n]; omega) | (simp only [decide_eq_true_eq, decide_eq_false_iff_not, Bool.or_eq_false_iff, Bool.and_eq_true, Bool.or_eq_true, Bool.and_eq_false_iff, Bool.not_eq_true', Bool.not_eq_false', Lay.d_n]; omega) | (simp only [decide_eq_true_eq, decide_eq_false_iff_not, Bool.or_eq_false_iff, Bool.and_eq_true, Bool.or_eq_true, Bool.and_eq_false_iff, Bool.not_eq_true', Bool.not_eq_false']; omega))
          refine xl_call0 (.bool (Lx.sign (bt s ((s.size : Int) - 1)))) rfl rfl rfl rfl fn183 rfl rfl (fun E w F _ => sign_any _ w) ?_
          refine xl_go tt_ok ?_
          refine x_if (fun h3 => ?_) (fun h3 => ?_)
          · rw [if_pos h3] at key
            repeat (refine And.intro ?_ ?_; first | omega | (simp only [Lay.d_n]; omega) | (simp only [decide_eq_true_eq, decide_eq_false_iff_not, Bool.or_eq_false_iff, Bool.and_eq_true, Bool.or_eq_true, Bool.and_eq_false_iff, Bool.not_eq_true', Bool.not_eq_false', Lay.d_n]; omega) | (simp only [decide_eq_true_eq, decide_eq_false_iff_not, Bool.or_eq_false_iff, Bool.and_eq_true, Bool.or_eq_true, Bool.and_eq_false_iff, Bool.not_eq_true', Bool.not_eq_false']; omega))
            refine xl_gcall0 (.bool (Lx.expo (bt s ((s.size : Int) - 2)))) rfl rfl rfl rfl fn184 rfl rfl (fun _ E w F _ => expo_any _ w) ?_
            refine xl_go tt_ok ?_
            repeat (refine And.intro ?_ ?_; first | omega | (simp only [Lay.d_n]; omega) | (simp only [decide_eq_true_eq, decide_eq_false_iff_not, Bool.or_eq_false_iff, Bool.and_eq_true, Bool.or_eq_true, Bool.and_eq_false_iff, Bool.not_eq_true', Bool.not_eq_false', Lay.d_n]; omega) | (simp only [decide_eq_true_eq, decide_eq_false_iff_not, Bool.or_eq_false_iff, Bool.and_eq_true, Bool.or_eq_true, Bool.and_eq_false_iff, Bool.not_eq_true', Bool.not_eq_false']; omega))
            have hz2 : ((sub s 0 ((s.size : Int) - 2)).size : Int) = s.size - 2 - 0 := sub_size (Int.le_refl _) (by omega) (by omega)
            refine xl_gcall0 (.bool (Lx.isNum (bl (sub s 0 ((s.size : Int) - 2))))) rfl rfl rfl rfl fn171 rfl rfl (fun _ E w F _ => ih (sub s 0 ((s.size : Int) - 2)).size (by omega) _ rfl (by omega) w) ?_
            refine xl_go tt_ok ?_
            rw [key]
            exact fin1 (fun _ _ => rfl)
          · rw [if_neg (by rw [h3]; simp)] at key
            repeat (refine And.intro ?_ ?_; first | omega | (simp only [Lay.d_n]; omega) | (simp only [decide_eq_true_eq, decide_eq_false_iff_not, Bool.or_eq_false_iff, Bool.and_eq_true, Bool.or_eq_true, Bool.and_eq_false_iff, Bool.not_eq_true', Bool.not_eq_false', Lay.d_n]; omega) | (simp only [decide_eq_true_eq, decide_eq_false_iff_not, Bool.or_eq_false_iff, Bool.and_eq_true, Bool.or_eq_true, Bool.and_eq_false_iff, Bool.not_eq_true', Bool.not_eq_false']; omega))
            refine xl_call0 (.bool (Lx.digit (bt s ((s.size : Int) - 1)))) rfl rfl rfl rfl fn182 rfl rfl (fun E w F _ => digitR_any _ w) ?_
            refine xl_go tt_ok ?_
            refine xl_gcall0 (.bool (Lx.letter (bt s ((s.size : Int) - 1)))) rfl rfl rfl rfl fn181 rfl rfl (fun _ E w F _ => letterR_any _ w) ?_
            refine xl_go tt_ok ?_
            repeat (refine And.intro ?_ ?_; first | omega | (simp only [Lay.d_n]; omega) | (simp only [decide_eq_true_eq, decide_eq_false_iff_not, Bool.or_eq_false_iff, Bool.and_eq_true, Bool.or_eq_true, Bool.and_eq_false_iff, Bool.not_eq_true', Bool.not_eq_false', Lay.d_n]; omega) | (simp only [decide_eq_true_eq, decide_eq_false_iff_not, Bool.or_eq_false_iff, Bool.and_eq_true, Bool.or_eq_true, Bool.and_eq_false_iff, Bool.not_eq_true', Bool.not_eq_false']; omega))
            have hz2 : ((sub s 0 ((s.size : Int) - 1)).size : Int) = s.size - 1 - 0 := sub_size (Int.le_refl _) (by omega) (by omega)
            refine xl_gcall0 (.bool (Lx.isNum (bl (sub s 0 ((s.size : Int) - 1))))) rfl rfl rfl rfl fn171 rfl rfl (fun _ E w F _ => ih (sub s 0 ((s.size : Int) - 1)).size (by omega) _ rfl (by omega) w) ?_
            refine xl_go tt_ok ?_
            have e : Lx.okc (bt s ((s.size : Int) - 1)) = ((Lx.digit (bt s ((s.size : Int) - 1)) || Lx.letter (bt s ((s.size : Int) - 1))) || decide (bt s ((s.size : Int) - 1) = 46)) := by
              unfold Lx.okc Lx.alnum
              rw [Bool.or_comm (Lx.letter _)]
            rw [key, e]
            exact fin1 (fun _ _ => rfl)
theorem isNum_any (s : ByteArray) (hz : s.size ≤ 140737488355328) (w : World) : Calls Try.prog 171 #[.string s] w (PureP w fun v _ => v = .bool (Lx.isNum (bl s))) := isNumN_any _ s rfl hz w
end Go.Proofs.Ytdonomneofdhfaa
