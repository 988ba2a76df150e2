/- The scanner's small functions: words and numbers. -/
import Derived.Test.YtdonomneofdhfaaE1
namespace Go.Proofs.Ytdonomneofdhfaa
open Go.GV Go.RowKit

theorem run_cons (p : Int → Bool) (c : Int) (r : Lx.Bs) : Lx.run p (c :: r) = if p c = true then Lx.run p r + 1 else 0 := by
  simp only [Lx.run]
  cases p c <;> simp
theorem runP_cons (a c : Int) (r : Lx.Bs) : Lx.runP a (c :: r) = if Lx.okp a c = true then Lx.runP c r + 1 else 0 := by
  simp only [Lx.runP]
  cases Lx.okp a c <;> simp

/-- where a word ends -/
def wordE (s : ByteArray) (i : Int) : Int := atE i (Lx.wordN (tl s i))

theorem wordE_eq {s : ByteArray} {i : Int} (h0 : 0 ≤ i) (h1 : i < s.size) : wordE s i = if Lx.letter (bt s i) = true then i + 1 + Lx.run Lx.alnum (tl s (i + 1)) else 0 := by
  unfold wordE
  rw [tl_cons h0 h1]
  simp only [Lx.wordN]
  cases Lx.letter (bt s i) with
  | true => simp [atE]; omega
  | false => rfl

set_option maxRecDepth 100000 in
theorem word_any (s : ByteArray) (i : Int) (h0 : 0 ≤ i) (h1 : i < s.size) (hz : s.size ≤ 140737488355328) (w : World) :
    Calls Try.prog 167 #[.string s, .int .i64 i] w (PureP w fun v _ => v = .int .i64 (wordE s i)) := by
  have hE := wordE_eq h0 h1
  refine x_fun tt_ok Try.func167 rfl rfl [] 0 [.v (.string s), .v (.int .i64 i)] rfl rfl rfl rfl (fun b hb => by cases hb) ?_
  refine x_vc tt_ok ?_
  repeat (refine And.intro ?_ ?_; first | omega | (simp only [Lay.d_n]; omega) | (simp only [decide_eq_true_eq, decide_eq_false_iff_not, Bool.or_eq_false_iff, Bool.and_eq_true, Bool.or_eq_true, Bool.and_eq_false_iff, Bool.not_eq_true', Bool.not_eq_false', Lay.d_n]; omega) | (simp only [decide_eq_true_eq, decide_eq_false_iff_not, Bool.or_eq_false_iff, Bool.and_eq_true, Bool.or_eq_true, Bool.and_eq_false_iff, Bool.not_eq_true', Bool.not_eq_false']; omega))
  refine xl_call0 (.bool (Lx.letter (bt s i))) rfl rfl rfl rfl fn178 rfl rfl (fun E w F _ => letter_any _ w) ?_
  refine xl_go tt_ok ?_
  refine x_if (fun h => ?_) (fun h => ?_)
  · have h' : Lx.letter (bt s i) = false := by simpa using h
    rw [if_neg (by rw [h']; simp)] at hE
    rw [hE]
    exact fin1 (fun _ _ => rfl)
  · have h' : Lx.letter (bt s i) = true := by simpa using h
    rw [if_pos h'] at hE
    repeat (refine And.intro ?_ ?_; first | omega | (simp only [Lay.d_n]; omega) | (simp only [decide_eq_true_eq, decide_eq_false_iff_not, Bool.or_eq_false_iff, Bool.and_eq_true, Bool.or_eq_true, Bool.and_eq_false_iff, Bool.not_eq_true', Bool.not_eq_false', Lay.d_n]; omega) | (simp only [decide_eq_true_eq, decide_eq_false_iff_not, Bool.or_eq_false_iff, Bool.and_eq_true, Bool.or_eq_true, Bool.and_eq_false_iff, Bool.not_eq_true', Bool.not_eq_false']; omega))
    refine x_loop (σ := Int) (fun k => ⟨[(5, .v (.int .i64 k)), (0, .v (.string s))], [], [], 0⟩)
      (fun k _ => 0 ≤ k ∧ k ≤ s.size ∧ wordE s i = k + Lx.run Lx.alnum (tl s k)) (fun k => (s.size - k).toNat) (fun _ => Nat.le_refl _) (i + 1) [] (.of rfl rfl rfl rfl rfl rfl)
      ⟨by omega, by omega, hE⟩ ?_
    rintro k u2 hu2 ⟨g1, g2, g3⟩
    refine x_vc tt_ok ?_
    repeat (refine And.intro ?_ ?_; first | omega | (simp only [Lay.d_n]; omega) | (simp only [decide_eq_true_eq, decide_eq_false_iff_not, Bool.or_eq_false_iff, Bool.and_eq_true, Bool.or_eq_true, Bool.and_eq_false_iff, Bool.not_eq_true', Bool.not_eq_false', Lay.d_n]; omega) | (simp only [decide_eq_true_eq, decide_eq_false_iff_not, Bool.or_eq_false_iff, Bool.and_eq_true, Bool.or_eq_true, Bool.and_eq_false_iff, Bool.not_eq_true', Bool.not_eq_false']; omega))
    refine xl_gcall0 (.bool (Lx.letter (bt s k))) rfl rfl rfl rfl fn178 rfl rfl (fun _ E w F _ => letter_any _ w) ?_
    refine xl_go tt_ok ?_
    repeat (refine And.intro ?_ ?_; first | omega | (simp only [Lay.d_n]; omega) | (simp only [decide_eq_true_eq, decide_eq_false_iff_not, Bool.or_eq_false_iff, Bool.and_eq_true, Bool.or_eq_true, Bool.and_eq_false_iff, Bool.not_eq_true', Bool.not_eq_false', Lay.d_n]; omega) | (simp only [decide_eq_true_eq, decide_eq_false_iff_not, Bool.or_eq_false_iff, Bool.and_eq_true, Bool.or_eq_true, Bool.and_eq_false_iff, Bool.not_eq_true', Bool.not_eq_false']; omega))
    refine xl_gcall0 (.bool (Lx.digit (bt s k))) rfl rfl rfl rfl fn179 rfl rfl (fun _ E w F _ => digit_any _ w) ?_
    refine xl_go tt_ok ?_
    refine x_if (fun h => ?_) (fun h => ?_)
    · obtain ⟨ha, hb⟩ := Bool.and_eq_true_iff.1 h
      have h2 : k < s.size := of_decide_eq_true ha
      have h3 : Lx.alnum (bt s k) = true := hb
      rw [tl_cons g1 h2, run_cons, if_pos h3] at g3
      repeat (refine And.intro ?_ ?_; first | omega | (simp only [Lay.d_n]; omega) | (simp only [decide_eq_true_eq, decide_eq_false_iff_not, Bool.or_eq_false_iff, Bool.and_eq_true, Bool.or_eq_true, Bool.and_eq_false_iff, Bool.not_eq_true', Bool.not_eq_false', Lay.d_n]; omega) | (simp only [decide_eq_true_eq, decide_eq_false_iff_not, Bool.or_eq_false_iff, Bool.and_eq_true, Bool.or_eq_true, Bool.and_eq_false_iff, Bool.not_eq_true', Bool.not_eq_false']; omega))
      exact again (k + 1) [] (.of rfl rfl rfl rfl rfl rfl) ⟨by omega, by omega, by omega⟩ (by omega)
    · have g4 : wordE s i = k := by
        rw [g3]
        by_cases h2 : k < s.size
        · have h' : (decide (k < (s.size : Int)) && Lx.alnum (bt s k)) = false := h
          rw [decide_eq_true h2, Bool.true_and] at h'
          rw [tl_cons g1 h2, run_cons, if_neg (by rw [h']; simp)]; omega
        · rw [tl_nil (by omega)]; simp [Lx.run]
      rw [g4]
      exact fin1 (fun _ _ => rfl)

/-- where a number ends -/
def numE (s : ByteArray) (i : Int) : Int := atE i (Lx.numN (tl s i))

theorem numE_eq {s : ByteArray} {i : Int} (h0 : 0 ≤ i) (h1 : i < s.size) : numE s i =
    if bt s i = 46 then (if i + 1 < s.size ∧ Lx.digit (bt s (i + 1)) = true then i + 1 + 1 + Lx.runP (bt s (i + 1)) (tl s (i + 1 + 1)) else 0)
    else if Lx.digit (bt s i) = true then i + 1 + Lx.runP (bt s i) (tl s (i + 1)) else 0 := by
  unfold numE
  rw [tl_cons h0 h1]
  by_cases h46 : bt s i = 46
  · rw [if_pos h46]
    have hd : Lx.digit (bt s i) = false := by rw [h46]; rfl
    by_cases h2 : i + 1 < s.size
    · rw [tl_cons (by omega) h2]
      simp only [Lx.numN, hd, decide_eq_true h46]
      cases hd2 : Lx.digit (bt s (i + 1)) with
      | true => simp [atE, h2]; omega
      | false => simp [atE]
    · rw [tl_nil (by omega)]
      simp only [Lx.numN, hd]
      simp [atE, h2]
  · rw [if_neg h46]
    simp only [Lx.numN]
    cases hd : Lx.digit (bt s i) with
    | true => simp [atE]; omega
    | false => simp [atE, h46]

theorem expo_okc {c : Int} (h : Lx.expo c = true) (a : Int) : Lx.okp a c = true := by
  unfold Lx.expo at h
  simp only [Bool.or_eq_true, decide_eq_true_eq] at h
  unfold Lx.okp Lx.okc Lx.alnum Lx.letter
  rcases h with ((rfl | rfl) | rfl) | rfl <;> simp
theorem sign_expo {c : Int} (h : Lx.sign c = true) : Lx.expo c = false := by
  unfold Lx.sign at h
  simp only [Bool.or_eq_true, decide_eq_true_eq] at h
  rcases h with rfl | rfl <;> rfl
theorem digit_expo {c : Int} (h : Lx.digit c = true) : Lx.expo c = false := by
  unfold Lx.digit at h
  simp only [Bool.and_eq_true, decide_eq_true_eq] at h
  unfold Lx.expo
  rw [decide_eq_false (by omega), decide_eq_false (by omega), decide_eq_false (by omega), decide_eq_false (by omega)]; rfl

set_option maxRecDepth 100000 in
theorem num_any (s : ByteArray) (i : Int) (h0 : 0 ≤ i) (h1 : i < s.size) (hz : s.size ≤ 140737488355328) (w : World) :
    Calls Try.prog 168 #[.string s, .int .i64 i] w (PureP w fun v _ => v = .int .i64 (numE s i)) := by
  have hE := numE_eq h0 h1
  obtain ⟨N, hN⟩ : ∃ N, N = numE s i := ⟨_, rfl⟩
  rw [← hN] at hE ⊢
  refine x_fun tt_ok Try.func168 rfl rfl [] 0 [.v (.string s), .v (.int .i64 i)] rfl rfl rfl rfl (fun b hb => by cases hb) ?_
  refine x_vc tt_ok ?_
  repeat (refine And.intro ?_ ?_; first | omega | (simp only [Lay.d_n]; omega) | (simp only [decide_eq_true_eq, decide_eq_false_iff_not, Bool.or_eq_false_iff, Bool.and_eq_true, Bool.or_eq_true, Bool.and_eq_false_iff, Bool.not_eq_true', Bool.not_eq_false', Lay.d_n]; omega) | (simp only [decide_eq_true_eq, decide_eq_false_iff_not, Bool.or_eq_false_iff, Bool.and_eq_true, Bool.or_eq_true, Bool.and_eq_false_iff, Bool.not_eq_true', Bool.not_eq_false']; omega))
  refine x_if (fun h => ?_) (fun h => ?_)
  · have h46 : bt s i = 46 := of_decide_eq_true h
    rw [if_pos h46] at hE
    repeat (refine And.intro ?_ ?_; first | omega | (simp only [Lay.d_n]; omega) | (simp only [decide_eq_true_eq, decide_eq_false_iff_not, Bool.or_eq_false_iff, Bool.and_eq_true, Bool.or_eq_true, Bool.and_eq_false_iff, Bool.not_eq_true', Bool.not_eq_false', Lay.d_n]; omega) | (simp only [decide_eq_true_eq, decide_eq_false_iff_not, Bool.or_eq_false_iff, Bool.and_eq_true, Bool.or_eq_true, Bool.and_eq_false_iff, Bool.not_eq_true', Bool.not_eq_false']; omega))
    obtain ⟨j, hj⟩ : ∃ j, j = i + 1 := ⟨_, rfl⟩
    rw [← hj] at hE ⊢
    repeat (refine And.intro ?_ ?_; first | omega | (simp only [Lay.d_n]; omega) | (simp only [decide_eq_true_eq, decide_eq_false_iff_not, Bool.or_eq_false_iff, Bool.and_eq_true, Bool.or_eq_true, Bool.and_eq_false_iff, Bool.not_eq_true', Bool.not_eq_false', Lay.d_n]; omega) | (simp only [decide_eq_true_eq, decide_eq_false_iff_not, Bool.or_eq_false_iff, Bool.and_eq_true, Bool.or_eq_true, Bool.and_eq_false_iff, Bool.not_eq_true', Bool.not_eq_false']; omega))
    refine xl_gcall0 (.bool (Lx.digit (bt s j))) rfl rfl rfl rfl fn179 rfl rfl (fun _ E w F _ => digit_any _ w) ?_
    refine xl_go tt_ok ?_
    refine x_if (fun h => ?_) (fun h => ?_)
    · have hn : ¬ (j < (s.size : Int) ∧ Lx.digit (bt s j) = true) := by
        rintro ⟨ha, hb⟩
        have h' : (decide (j = (s.size : Int)) || !Lx.digit (bt s j)) = true := h
        rw [hb, decide_eq_false (by omega)] at h'
        cases h'
      rw [if_neg hn] at hE
      rw [hE]
      exact fin1 (fun _ _ => rfl)
    · have h' : (decide (j = (s.size : Int)) || !Lx.digit (bt s j)) = false := h
      obtain ⟨ha, hb⟩ := Bool.or_eq_false_iff.1 h'
      have ha' := of_decide_eq_false ha
      have hb' : Lx.digit (bt s j) = true := by simpa using hb
      rw [if_pos ⟨by omega, hb'⟩] at hE
      repeat (refine And.intro ?_ ?_; first | omega | (simp only [Lay.d_n]; omega) | (simp only [decide_eq_true_eq, decide_eq_false_iff_not, Bool.or_eq_false_iff, Bool.and_eq_true, Bool.or_eq_true, Bool.and_eq_false_iff, Bool.not_eq_true', Bool.not_eq_false', Lay.d_n]; omega) | (simp only [decide_eq_true_eq, decide_eq_false_iff_not, Bool.or_eq_false_iff, Bool.and_eq_true, Bool.or_eq_true, Bool.and_eq_false_iff, Bool.not_eq_true', Bool.not_eq_false']; omega))
      refine x_loop (σ := Int) (fun k => ⟨[(5, .v (.int .i64 k)), (0, .v (.string s))], [], [], 0⟩)
        (fun k _ => 1 ≤ k ∧ k ≤ s.size ∧ N = k + Lx.runP (bt s (k - 1)) (tl s k) ∧ (k < s.size → (Lx.expo (bt s (k - 1)) && Lx.sign (bt s k)) = false))
        (fun k => (s.size - k).toNat) (fun _ => Nat.le_refl _) (j + 1) [] (.of rfl rfl rfl rfl rfl rfl)
        ⟨by omega, by omega, by rw [show j + 1 - 1 = j by omega]; exact hE, fun _ => by rw [show j + 1 - 1 = j by omega, digit_expo hb']; rfl⟩ ?_
      clear hE
      rintro k u2 hu2 ⟨g1, g2, g3, g4⟩
      refine x_vc tt_ok ?_
      repeat (refine And.intro ?_ ?_; first | omega | (simp only [Lay.d_n]; omega) | (simp only [decide_eq_true_eq, decide_eq_false_iff_not, Bool.or_eq_false_iff, Bool.and_eq_true, Bool.or_eq_true, Bool.and_eq_false_iff, Bool.not_eq_true', Bool.not_eq_false', Lay.d_n]; omega) | (simp only [decide_eq_true_eq, decide_eq_false_iff_not, Bool.or_eq_false_iff, Bool.and_eq_true, Bool.or_eq_true, Bool.and_eq_false_iff, Bool.not_eq_true', Bool.not_eq_false']; omega))
      refine x_if (fun h5 => ?_) (fun h5 => ?_)
      · have h2 : k < s.size := of_decide_eq_true h5
        have g4 := g4 h2
        rw [tl_cons (by omega) h2, runP_cons] at g3
        repeat (refine And.intro ?_ ?_; first | omega | (simp only [Lay.d_n]; omega) | (simp only [decide_eq_true_eq, decide_eq_false_iff_not, Bool.or_eq_false_iff, Bool.and_eq_true, Bool.or_eq_true, Bool.and_eq_false_iff, Bool.not_eq_true', Bool.not_eq_false', Lay.d_n]; omega) | (simp only [decide_eq_true_eq, decide_eq_false_iff_not, Bool.or_eq_false_iff, Bool.and_eq_true, Bool.or_eq_true, Bool.and_eq_false_iff, Bool.not_eq_true', Bool.not_eq_false']; omega))
        refine x_if (fun h6 => ?_) (fun h6 => ?_)
        · have h6' : (Lx.expo (bt s k) && decide (k + 1 < (s.size : Int)) && Lx.sign (bt s (k + 1))) = true := h6
          obtain ⟨h7, h8⟩ := Bool.and_eq_true_iff.1 h6'
          obtain ⟨h9, h10⟩ := Bool.and_eq_true_iff.1 h7
          have h11 := of_decide_eq_true h10
          rw [if_pos (expo_okc h9 _), tl_cons (by omega) h11, runP_cons, if_pos (by unfold Lx.okp; rw [h8, h9]; simp)] at g3
          repeat (refine And.intro ?_ ?_; first | omega | (simp only [Lay.d_n]; omega) | (simp only [decide_eq_true_eq, decide_eq_false_iff_not, Bool.or_eq_false_iff, Bool.and_eq_true, Bool.or_eq_true, Bool.and_eq_false_iff, Bool.not_eq_true', Bool.not_eq_false', Lay.d_n]; omega) | (simp only [decide_eq_true_eq, decide_eq_false_iff_not, Bool.or_eq_false_iff, Bool.and_eq_true, Bool.or_eq_true, Bool.and_eq_false_iff, Bool.not_eq_true', Bool.not_eq_false']; omega))
          exact again (k + 2) [] (.of rfl rfl rfl rfl rfl rfl) ⟨by omega, by omega, by rw [show k + 2 - 1 = k + 1 by omega, show k + 2 = k + 1 + 1 by omega]; omega,
            fun _ => by rw [show k + 2 - 1 = k + 1 by omega, sign_expo h8]; rfl⟩ (by omega)
        · have h6' : (Lx.expo (bt s k) && decide (k + 1 < (s.size : Int)) && Lx.sign (bt s (k + 1))) = false := h6
          have next : Lx.okc (bt s k) = true → 1 ≤ k + 1 ∧ k + 1 ≤ s.size ∧ N = k + 1 + Lx.runP (bt s (k + 1 - 1)) (tl s (k + 1)) ∧ (k + 1 < s.size → (Lx.expo (bt s (k + 1 - 1)) && Lx.sign (bt s (k + 1))) = false) := by
            intro hc
            rw [if_pos (by unfold Lx.okp; rw [hc]; rfl)] at g3
            rw [show k + 1 - 1 = k by omega]
            refine ⟨by omega, by omega, by omega, fun h12 => ?_⟩
            rw [decide_eq_true h12, Bool.and_true] at h6'
            exact h6'
          refine xl_call0 (.bool (Lx.digit (bt s k))) rfl rfl rfl rfl fn179 rfl rfl (fun E w F _ => digit_any _ w) ?_
          refine xl_go tt_ok ?_
          refine x_if (fun h7 => ?_) (fun h7 => ?_)
          · refine x_ift h7 ?_
            repeat (refine And.intro ?_ ?_; first | omega | (simp only [Lay.d_n]; omega) | (simp only [decide_eq_true_eq, decide_eq_false_iff_not, Bool.or_eq_false_iff, Bool.and_eq_true, Bool.or_eq_true, Bool.and_eq_false_iff, Bool.not_eq_true', Bool.not_eq_false', Lay.d_n]; omega) | (simp only [decide_eq_true_eq, decide_eq_false_iff_not, Bool.or_eq_false_iff, Bool.and_eq_true, Bool.or_eq_true, Bool.and_eq_false_iff, Bool.not_eq_true', Bool.not_eq_false']; omega))
            exact again (k + 1) [] (.of rfl rfl rfl rfl rfl rfl) (next (by unfold Lx.okc Lx.alnum; rw [h7]; simp)) (by omega)
          · refine xl_call0 (.bool (Lx.letter (bt s k))) rfl rfl rfl rfl fn178 rfl rfl (fun E w F _ => letter_any _ w) ?_
            refine xl_go tt_ok ?_
            refine x_if (fun h8 => ?_) (fun h8 => ?_)
            · refine x_ift h8 ?_
              repeat (refine And.intro ?_ ?_; first | omega | (simp only [Lay.d_n]; omega) | (simp only [decide_eq_true_eq, decide_eq_false_iff_not, Bool.or_eq_false_iff, Bool.and_eq_true, Bool.or_eq_true, Bool.and_eq_false_iff, Bool.not_eq_true', Bool.not_eq_false', Lay.d_n]; omega) | (simp only [decide_eq_true_eq, decide_eq_false_iff_not, Bool.or_eq_false_iff, Bool.and_eq_true, Bool.or_eq_true, Bool.and_eq_false_iff, Bool.not_eq_true', Bool.not_eq_false']; omega))
              exact again (k + 1) [] (.of rfl rfl rfl rfl rfl rfl) (next (by unfold Lx.okc Lx.alnum; rw [h8]; simp)) (by omega)
            · refine x_if (fun h9 => ?_) (fun h9 => ?_)
              · repeat (refine And.intro ?_ ?_; first | omega | (simp only [Lay.d_n]; omega) | (simp only [decide_eq_true_eq, decide_eq_false_iff_not, Bool.or_eq_false_iff, Bool.and_eq_true, Bool.or_eq_true, Bool.and_eq_false_iff, Bool.not_eq_true', Bool.not_eq_false', Lay.d_n]; omega) | (simp only [decide_eq_true_eq, decide_eq_false_iff_not, Bool.or_eq_false_iff, Bool.and_eq_true, Bool.or_eq_true, Bool.and_eq_false_iff, Bool.not_eq_true', Bool.not_eq_false']; omega))
                exact again (k + 1) [] (.of rfl rfl rfl rfl rfl rfl) (next (by unfold Lx.okc Lx.alnum; rw [h9]; simp)) (by omega)
              · have hc : Lx.okp (bt s (k - 1)) (bt s k) = false := by
                  unfold Lx.okp Lx.okc Lx.alnum
                  rw [h7, h8, h9, Bool.and_comm (Lx.sign _), g4]; rfl
                rw [if_neg (by rw [hc]; simp)] at g3
                have e : N = k := by rw [g3]; simp
                rw [e]
                exact fin1 (fun _ _ => rfl)
      · have h2 : ¬ k < (s.size : Int) := of_decide_eq_false h5
        rw [tl_nil (by omega)] at g3
        have e : N = k := by rw [g3]; simp [Lx.runP]
        rw [e]
        exact fin1 (fun _ _ => rfl)
  · have h46 : ¬ bt s i = 46 := of_decide_eq_false h
    rw [if_neg h46] at hE
    have hE : N = if i < s.size ∧ Lx.digit (bt s i) = true then i + 1 + Lx.runP (bt s i) (tl s (i + 1)) else 0 := by
      rw [hE]; simp [h1]
    obtain ⟨j, hj⟩ : ∃ j, j = i := ⟨_, rfl⟩
    have hE : N = if j < s.size ∧ Lx.digit (bt s j) = true then j + 1 + Lx.runP (bt s j) (tl s (j + 1)) else 0 := by rw [hj]; exact hE
    rw [← hj]
    repeat (refine And.intro ?_ ?_; first | omega | (simp only [Lay.d_n]; omega) | (simp only [decide_eq_true_eq, decide_eq_false_iff_not, Bool.or_eq_false_iff, Bool.and_eq_true, Bool.or_eq_true, Bool.and_eq_false_iff, Bool.not_eq_true', Bool.not_eq_false', Lay.d_n]; omega) | (simp only [decide_eq_true_eq, decide_eq_false_iff_not, Bool.or_eq_false_iff, Bool.and_eq_true, Bool.or_eq_true, Bool.and_eq_false_iff, Bool.not_eq_true', Bool.not_eq_false']; omega))
    refine xl_gcall0 (.bool (Lx.digit (bt s j))) rfl rfl rfl rfl fn179 rfl rfl (fun _ E w F _ => digit_any _ w) ?_
    refine xl_go tt_ok ?_
    refine x_if (fun h => ?_) (fun h => ?_)
    · have hn : ¬ (j < (s.size : Int) ∧ Lx.digit (bt s j) = true) := by
        rintro ⟨ha, hb⟩
        have h' : (decide (j = (s.size : Int)) || !Lx.digit (bt s j)) = true := h
        rw [hb, decide_eq_false (by omega)] at h'
        cases h'
      rw [if_neg hn] at hE
      rw [hE]
      exact fin1 (fun _ _ => rfl)
    · have h' : (decide (j = (s.size : Int)) || !Lx.digit (bt s j)) = false := h
      obtain ⟨ha, hb⟩ := Bool.or_eq_false_iff.1 h'
      have ha' := of_decide_eq_false ha
      have hb' : Lx.digit (bt s j) = true := by simpa using hb
      rw [if_pos ⟨by omega, hb'⟩] at hE
      repeat (refine And.intro ?_ ?_; first | omega | (simp only [Lay.d_n]; omega) | (simp only [decide_eq_true_eq, decide_eq_false_iff_not, Bool.or_eq_false_iff, Bool.and_eq_true, Bool.or_eq_true, Bool.and_eq_false_iff, Bool.not_eq_true', Bool.not_eq_false', Lay.d_n]; omega) | (simp only [decide_eq_true_eq, decide_eq_false_iff_not, Bool.or_eq_false_iff, Bool.and_eq_true, Bool.or_eq_true, Bool.and_eq_false_iff, Bool.not_eq_true', Bool.not_eq_false']; omega))
      refine x_loop (σ := Int) (fun k => ⟨[(5, .v (.int .i64 k)), (0, .v (.string s))], [], [], 0⟩)
        (fun k _ => 1 ≤ k ∧ k ≤ s.size ∧ N = k + Lx.runP (bt s (k - 1)) (tl s k) ∧ (k < s.size → (Lx.expo (bt s (k - 1)) && Lx.sign (bt s k)) = false))
        (fun k => (s.size - k).toNat) (fun _ => Nat.le_refl _) (j + 1) [] (.of rfl rfl rfl rfl rfl rfl)
        ⟨by omega, by omega, by rw [show j + 1 - 1 = j by omega]; exact hE, fun _ => by rw [show j + 1 - 1 = j by omega, digit_expo hb']; rfl⟩ ?_
      clear hE
      rintro k u2 hu2 ⟨g1, g2, g3, g4⟩
      refine x_vc tt_ok ?_
      repeat (refine And.intro ?_ ?_; first | omega | (simp only [Lay.d_n]; omega) | (simp only [decide_eq_true_eq, decide_eq_false_iff_not, Bool.or_eq_false_iff, Bool.and_eq_true, Bool.or_eq_true, Bool.and_eq_false_iff, Bool.not_eq_true', Bool.not_eq_false', Lay.d_n]; omega) | (simp only [decide_eq_true_eq, decide_eq_false_iff_not, Bool.or_eq_false_iff, Bool.and_eq_true, Bool.or_eq_true, Bool.and_eq_false_iff, Bool.not_eq_true', Bool.not_eq_false']; omega))
      refine x_if (fun h5 => ?_) (fun h5 => ?_)
      · have h2 : k < s.size := of_decide_eq_true h5
        have g4 := g4 h2
        rw [tl_cons (by omega) h2, runP_cons] at g3
        repeat (refine And.intro ?_ ?_; first | omega | (simp only [Lay.d_n]; omega) | (simp only [decide_eq_true_eq, decide_eq_false_iff_not, Bool.or_eq_false_iff, Bool.and_eq_true, Bool.or_eq_true, Bool.and_eq_false_iff, Bool.not_eq_true', Bool.not_eq_false', Lay.d_n]; omega) | (simp only [decide_eq_true_eq, decide_eq_false_iff_not, Bool.or_eq_false_iff, Bool.and_eq_true, Bool.or_eq_true, Bool.and_eq_false_iff, Bool.not_eq_true', Bool.not_eq_false']; omega))
        refine x_if (fun h6 => ?_) (fun h6 => ?_)
        · have h6' : (Lx.expo (bt s k) && decide (k + 1 < (s.size : Int)) && Lx.sign (bt s (k + 1))) = true := h6
          obtain ⟨h7, h8⟩ := Bool.and_eq_true_iff.1 h6'
          obtain ⟨h9, h10⟩ := Bool.and_eq_true_iff.1 h7
          have h11 := of_decide_eq_true h10
          rw [if_pos (expo_okc h9 _), tl_cons (by omega) h11, runP_cons, if_pos (by unfold Lx.okp; rw [h8, h9]; simp)] at g3
          repeat (refine And.intro ?_ ?_; first | omega | (simp only [Lay.d_n]; omega) | (simp only [decide_eq_true_eq, decide_eq_false_iff_not, Bool.or_eq_false_iff, Bool.and_eq_true, Bool.or_eq_true, Bool.and_eq_false_iff, Bool.not_eq_true', Bool.not_eq_false', Lay.d_n]; omega) | (simp only [decide_eq_true_eq, decide_eq_false_iff_not, Bool.or_eq_false_iff, Bool.and_eq_true, Bool.or_eq_true, Bool.and_eq_false_iff, Bool.not_eq_true', Bool.not_eq_false']; omega))
          exact again (k + 2) [] (.of rfl rfl rfl rfl rfl rfl) ⟨by omega, by omega, by rw [show k + 2 - 1 = k + 1 by omega, show k + 2 = k + 1 + 1 by omega]; omega,
            fun _ => by rw [show k + 2 - 1 = k + 1 by omega, sign_expo h8]; rfl⟩ (by omega)
        · have h6' : (Lx.expo (bt s k) && decide (k + 1 < (s.size : Int)) && Lx.sign (bt s (k + 1))) = false := h6
          have next : Lx.okc (bt s k) = true → 1 ≤ k + 1 ∧ k + 1 ≤ s.size ∧ N = k + 1 + Lx.runP (bt s (k + 1 - 1)) (tl s (k + 1)) ∧ (k + 1 < s.size → (Lx.expo (bt s (k + 1 - 1)) && Lx.sign (bt s (k + 1))) = false) := by
            intro hc
            rw [if_pos (by unfold Lx.okp; rw [hc]; rfl)] at g3
            rw [show k + 1 - 1 = k by omega]
            refine ⟨by omega, by omega, by omega, fun h12 => ?_⟩
            rw [decide_eq_true h12, Bool.and_true] at h6'
            exact h6'
          refine xl_call0 (.bool (Lx.digit (bt s k))) rfl rfl rfl rfl fn179 rfl rfl (fun E w F _ => digit_any _ w) ?_
          refine xl_go tt_ok ?_
          refine x_if (fun h7 => ?_) (fun h7 => ?_)
          · refine x_ift h7 ?_
            repeat (refine And.intro ?_ ?_; first | omega | (simp only [Lay.d_n]; omega) | (simp only [decide_eq_true_eq, decide_eq_false_iff_not, Bool.or_eq_false_iff, Bool.and_eq_true, Bool.or_eq_true, Bool.and_eq_false_iff, Bool.not_eq_true', Bool.not_eq_false', Lay.d_n]; omega) | (simp only [decide_eq_true_eq, decide_eq_false_iff_not, Bool.or_eq_false_iff, Bool.and_eq_true, Bool.or_eq_true, Bool.and_eq_false_iff, Bool.not_eq_true', Bool.not_eq_false']; omega))
            exact again (k + 1) [] (.of rfl rfl rfl rfl rfl rfl) (next (by unfold Lx.okc Lx.alnum; rw [h7]; simp)) (by omega)
          · refine xl_call0 (.bool (Lx.letter (bt s k))) rfl rfl rfl rfl fn178 rfl rfl (fun E w F _ => letter_any _ w) ?_
            refine xl_go tt_ok ?_
            refine x_if (fun h8 => ?_) (fun h8 => ?_)
            · refine x_ift h8 ?_
              repeat (refine And.intro ?_ ?_; first | omega | (simp only [Lay.d_n]; omega) | (simp only [decide_eq_true_eq, decide_eq_false_iff_not, Bool.or_eq_false_iff, Bool.and_eq_true, Bool.or_eq_true, Bool.and_eq_false_iff, Bool.not_eq_true', Bool.not_eq_false', Lay.d_n]; omega) | (simp only [decide_eq_true_eq, decide_eq_false_iff_not, Bool.or_eq_false_iff, Bool.and_eq_true, Bool.or_eq_true, Bool.and_eq_false_iff, Bool.not_eq_true', Bool.not_eq_false']; omega))
              exact again (k + 1) [] (.of rfl rfl rfl rfl rfl rfl) (next (by unfold Lx.okc Lx.alnum; rw [h8]; simp)) (by omega)
            · refine x_if (fun h9 => ?_) (fun h9 => ?_)
              · repeat (refine And.intro ?_ ?_; first | omega | (simp only [Lay.d_n]; omega) | (simp only [decide_eq_true_eq, decide_eq_false_iff_not, Bool.or_eq_false_iff, Bool.and_eq_true, Bool.or_eq_true, Bool.and_eq_false_iff, Bool.not_eq_true', Bool.not_eq_false', Lay.d_n]; omega) | (simp only [decide_eq_true_eq, decide_eq_false_iff_not, Bool.or_eq_false_iff, Bool.and_eq_true, Bool.or_eq_true, Bool.and_eq_false_iff, Bool.not_eq_true', Bool.not_eq_false']; omega))
                exact again (k + 1) [] (.of rfl rfl rfl rfl rfl rfl) (next (by unfold Lx.okc Lx.alnum; rw [h9]; simp)) (by omega)
              · have hc : Lx.okp (bt s (k - 1)) (bt s k) = false := by
                  unfold Lx.okp Lx.okc Lx.alnum
                  rw [h7, h8, h9, Bool.and_comm (Lx.sign _), g4]; rfl
                rw [if_neg (by rw [hc]; simp)] at g3
                have e : N = k := by rw [g3]; simp
                rw [e]
                exact fin1 (fun _ _ => rfl)
      · have h2 : ¬ k < (s.size : Int) := of_decide_eq_false h5
        rw [tl_nil (by omega)] at g3
        have e : N = k := by rw [g3]; simp [Lx.runP]
        rw [e]
        exact fin1 (fun _ _ => rfl)
end Go.Proofs.Ytdonomneofdhfaa
