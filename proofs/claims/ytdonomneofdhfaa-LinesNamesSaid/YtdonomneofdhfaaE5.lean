/- The longest token at a place, as the program finds it. -/
import Derived.Test.YtdonomneofdhfaaE4
namespace Go.Proofs.Ytdonomneofdhfaa
open Go.GV Go.RowKit

/-- where a punctuator ends -/
def punE (s : ByteArray) (i : Int) : Int := atE i (Lx.punN (tl s i))

theorem bl_part (s : ByteArray) {i n : Int} (h0 : 0 ≤ i) (hn : 0 ≤ n) (h : i + n ≤ s.size) : bl (sub s i (i + n)) = (tl s i).take n.toNat := by
  rw [bl_sub s h0 (by omega) h]; congr 1; omega

set_option maxRecDepth 100000 in
theorem pun_any (s : ByteArray) (i : Int) (h0 : 0 ≤ i) (h1 : i < s.size) (hz : s.size ≤ 140737488355328) (w : World) :
    Calls Try.prog 169 #[.string s, .int .i64 i] w (PureP w fun v _ => v = .int .i64 (punE s i)) := by
  refine x_fun tt_ok Try.func169 rfl rfl [] 0 [.v (.string s), .v (.int .i64 i)] rfl rfl rfl rfl (fun b hb => by cases hb) ?_
  refine x_vc tt_ok ?_
  repeat (refine And.intro ?_ ?_; first | omega | (simp only [Lay.d_n]; omega) | (simp only [decide_eq_true_eq, decide_eq_false_iff_not, Bool.or_eq_false_iff, Bool.and_eq_true, Bool.or_eq_true, Bool.and_eq_false_iff, Bool.not_eq_true', Bool.not_eq_false', Lay.d_n]; omega) | (simp only [decide_eq_true_eq, decide_eq_false_iff_not, Bool.or_eq_false_iff, Bool.and_eq_true, Bool.or_eq_true, Bool.and_eq_false_iff, Bool.not_eq_true', Bool.not_eq_false']; omega))
  refine xl_min rfl rfl rfl rfl rfl rfl ?_
  have hm : (if (s.size : Int) - i < 4 then (s.size : Int) - i else 4) = ((min 4 (tl s i).length : Nat) : Int) := by
    rw [tl_len]; split <;> omega
  rw [hm]
  refine xl_go tt_ok ?_
  have hl : (tl s i).length = s.size - i.toNat := tl_len s i
  refine x_loop (σ := Nat) (fun n => ⟨[(5, .v (.int .i64 n)), (1, .v (.int .i64 i)), (0, .v (.string s))], [], [], 0⟩)
    (fun n _ => n ≤ (tl s i).length ∧ punE s i = atE i (Lx.punDown n (tl s i))) (fun n => n) (fun _ => Nat.le_refl _) (min 4 (tl s i).length) [] (.of rfl rfl rfl rfl rfl rfl)
    ⟨Nat.min_le_right .., rfl⟩ ?_
  rintro n u hu ⟨g1, g2⟩
  refine x_vc tt_ok ?_
  refine x_if (fun h => ?_) (fun h => ?_)
  · have h2 : 0 < (n : Int) := of_decide_eq_true h
    obtain ⟨m, rfl⟩ : ∃ m, n = m + 1 := ⟨n - 1, by omega⟩
    repeat (refine And.intro ?_ ?_; first | omega | (simp only [Lay.d_n]; omega) | (simp only [decide_eq_true_eq, decide_eq_false_iff_not, Bool.or_eq_false_iff, Bool.and_eq_true, Bool.or_eq_true, Bool.and_eq_false_iff, Bool.not_eq_true', Bool.not_eq_false', Lay.d_n]; omega) | (simp only [decide_eq_true_eq, decide_eq_false_iff_not, Bool.or_eq_false_iff, Bool.and_eq_true, Bool.or_eq_true, Bool.and_eq_false_iff, Bool.not_eq_true', Bool.not_eq_false']; omega))
    refine xl_call0 (.bool (Lx.isPun ((tl s i).take (m + 1)))) rfl rfl rfl rfl fn180 rfl rfl (fun E w F _ => by
      have := punct_any (sub s i (i + ((m + 1 : Nat) : Int))) w
      rw [bl_part s h0 (by omega) (by omega), Int.toNat_natCast] at this; exact this) ?_
    refine xl_go tt_ok ?_
    refine x_if (fun h3 => ?_) (fun h3 => ?_)
    · simp only [Lx.punDown, h3] at g2
      repeat (refine And.intro ?_ ?_; first | omega | (simp only [Lay.d_n]; omega) | (simp only [decide_eq_true_eq, decide_eq_false_iff_not, Bool.or_eq_false_iff, Bool.and_eq_true, Bool.or_eq_true, Bool.and_eq_false_iff, Bool.not_eq_true', Bool.not_eq_false', Lay.d_n]; omega) | (simp only [decide_eq_true_eq, decide_eq_false_iff_not, Bool.or_eq_false_iff, Bool.and_eq_true, Bool.or_eq_true, Bool.and_eq_false_iff, Bool.not_eq_true', Bool.not_eq_false']; omega))
      have e : punE s i = i + ((m + 1 : Nat) : Int) := g2
      rw [e]
      exact fin1 (fun _ _ => rfl)
    · simp only [Lx.punDown, h3] at g2
      repeat (refine And.intro ?_ ?_; first | omega | (simp only [Lay.d_n]; omega) | (simp only [decide_eq_true_eq, decide_eq_false_iff_not, Bool.or_eq_false_iff, Bool.and_eq_true, Bool.or_eq_true, Bool.and_eq_false_iff, Bool.not_eq_true', Bool.not_eq_false', Lay.d_n]; omega) | (simp only [decide_eq_true_eq, decide_eq_false_iff_not, Bool.or_eq_false_iff, Bool.and_eq_true, Bool.or_eq_true, Bool.and_eq_false_iff, Bool.not_eq_true', Bool.not_eq_false']; omega))
      rw [show ((m + 1 : Nat) : Int) - 1 = (m : Int) by omega]
      exact again m [] (.of rfl rfl rfl rfl rfl rfl) ⟨by omega, g2⟩ (by omega)
  · have h2 : ¬ 0 < (n : Int) := of_decide_eq_false h
    obtain rfl : n = 0 := by omega
    have e : punE s i = 0 := g2
    rw [e]
    exact fin1 (fun _ _ => rfl)

/-- what stands at a place, as a value -/
def itV (i : Int) (t : Lx.Item) : Value := if t.err = 0 then .tuple #[.agg #[.int .i64 t.kind, .int .i64 i, .int .i64 (i + t.len)], .int .i64 0]
  else .tuple #[.agg #[.int .i64 0, .int .i64 0, .int .i64 0], .int .i64 t.err]

/-- what stands at a place that is no header and no comment -/
def longL (l : Lx.Bs) : Lx.Item :=
  if l.head? = some 10 then ⟨9, 1, 0⟩
  else if (Lx.bestL l).1 ≠ 0 then ⟨(Lx.bestL l).1, (Lx.bestL l).2, 0⟩
  else if Lx.qHead l = true then ⟨0, 0, 21⟩
  else ⟨6, 1, 0⟩

theorem atE_lt {i : Int} (h0 : 0 ≤ i) (n m : Nat) : decide (i + (m : Int) < atE i n) = decide (m < n) := by
  unfold atE
  by_cases h : n = 0
  · subst h; simp; omega
  · rw [if_neg h]
    by_cases h2 : m < n
    · rw [decide_eq_true h2, decide_eq_true (by omega)]
    · rw [decide_eq_false h2, decide_eq_false (by omega)]

def stp (k : Int) (n : Nat) (b : Int × Nat) : Int × Nat := if b.2 < n then (k, n) else b

theorem bestG_stp (l : Lx.Bs) : Lx.bestL l = stp 5 (Lx.punN l) (stp 2 (Lx.numN l) (stp 1 (Lx.wordN l) (stp (Lx.litQ l).1 (Lx.litQ l).2 (0, 0)))) := by
  rw [← Lx.bestG_eq]; rfl

theorem stp_t {i : Int} {n m : Nat} {k k0 : Int} (h0 : 0 ≤ i) (h : decide (i + (m : Int) < atE i n) = true) : ∃ n' : Nat, atE i n = i + n' ∧ (k, n') = stp k n (k0, m) := by
  rw [atE_lt h0] at h
  have h := of_decide_eq_true h
  exact ⟨n, by rw [atE, if_neg (by omega)], by rw [stp, if_pos h]⟩
theorem stp_f {i : Int} {n m : Nat} {k k0 : Int} (h0 : 0 ≤ i) (h : decide (i + (m : Int) < atE i n) = false) : (k0, m) = stp k n (k0, m) := by
  rw [atE_lt h0] at h
  rw [stp, if_neg (of_decide_eq_false h)]

set_option maxRecDepth 100000 in
theorem long_any (s : ByteArray) (i : Int) (h0 : 0 ≤ i) (h1 : i < s.size) (hz : s.size ≤ 140737488355328) (w : World) :
    Calls Try.prog 153 #[.string s, .int .i64 i] w (PureP w fun v _ => v = itV i (longL (tl s i))) := by
  have hT : tl s i = bt s i :: tl s (i + 1) := tl_cons h0 h1
  refine x_fun tt_ok Try.func153 rfl rfl [] 0 [.v (.string s), .v (.int .i64 i)] rfl rfl rfl rfl (fun b hb => by cases hb) ?_
  refine x_seq ?_
  refine x_vc tt_ok ?_
  refine x_seq ?_
  refine x_vc tt_ok ?_
  repeat (refine And.intro ?_ ?_; first | omega | (simp only [Lay.d_n]; omega) | (simp only [decide_eq_true_eq, decide_eq_false_iff_not, Bool.or_eq_false_iff, Bool.and_eq_true, Bool.or_eq_true, Bool.and_eq_false_iff, Bool.not_eq_true', Bool.not_eq_false', Lay.d_n]; omega) | (simp only [decide_eq_true_eq, decide_eq_false_iff_not, Bool.or_eq_false_iff, Bool.and_eq_true, Bool.or_eq_true, Bool.and_eq_false_iff, Bool.not_eq_true', Bool.not_eq_false']; omega))
  refine x_seq ?_
  refine x_vc tt_ok ?_
  refine x_if (fun h => ?_) (fun h => ?_)
  · have h10 := of_decide_eq_true h
    repeat (refine And.intro ?_ ?_; first | omega | (simp only [Lay.d_n]; omega) | (simp only [decide_eq_true_eq, decide_eq_false_iff_not, Bool.or_eq_false_iff, Bool.and_eq_true, Bool.or_eq_true, Bool.and_eq_false_iff, Bool.not_eq_true', Bool.not_eq_false', Lay.d_n]; omega) | (simp only [decide_eq_true_eq, decide_eq_false_iff_not, Bool.or_eq_false_iff, Bool.and_eq_true, Bool.or_eq_true, Bool.and_eq_false_iff, Bool.not_eq_true', Bool.not_eq_false']; omega))
    have e : itV i (longL (tl s i)) = .tuple #[.agg #[.int .i64 9, .int .i64 i, .int .i64 (i + 1)], .int .i64 0] := by
      unfold longL; rw [hT, h10]; rfl
    rw [e]
    exact fin1 (fun _ _ => rfl)
  · have h10 := of_decide_eq_false h
    clear h
    refine x_seq ?_
    refine x_vc tt_ok ?_
    repeat (refine And.intro ?_ ?_; first | omega | (simp only [Lay.d_n]; omega) | (simp only [decide_eq_true_eq, decide_eq_false_iff_not, Bool.or_eq_false_iff, Bool.and_eq_true, Bool.or_eq_true, Bool.and_eq_false_iff, Bool.not_eq_true', Bool.not_eq_false', Lay.d_n]; omega) | (simp only [decide_eq_true_eq, decide_eq_false_iff_not, Bool.or_eq_false_iff, Bool.and_eq_true, Bool.or_eq_true, Bool.and_eq_false_iff, Bool.not_eq_true', Bool.not_eq_false']; omega))
    refine x_cut (σ := Int × Int) (fun b => ⟨[(7, .p 1 0), (6, .v (.int .u8 (bt s i))), (4, .p 0 0), (1, .v (.int .i64 i)), (0, .v (.string s))], [],
        [(1, .box 129 [.v (.int .i64 b.1), .v (.int .i64 i), .v (.int .i64 b.2)]), (0, .box 129 [.v (.int .i64 0), .v (.int .i64 0), .v (.int .i64 0)])], 2⟩)
      (fun b _ => ∃ n : Nat, b.2 = i + n ∧ (b.1, n) = (stp (Lx.litQ (tl s i)).1 (Lx.litQ (tl s i)).2 (0, 0))) (fun _ => Nat.le_refl 2) ?_ ?_
    · refine x_vc tt_ok ?_
      refine xl_call0 (.tuple #[.int .i64 (litE s i).1, .int .i64 (litE s i).2]) rfl rfl rfl rfl fn166 rfl rfl (fun E w F _ => lit_any s i h0 h1 hz w) ?_
      refine xl_go tt_ok ?_
      refine x_if (fun h => ?_) (fun h => ?_)
      · have h' : decide (i + ((0 : Nat) : Int) < atE i (Lx.litQ (tl s i)).2) = true := by rw [show i + ((0 : Nat) : Int) = i by omega]; exact h
        obtain ⟨n, h2, h3⟩ := stp_t (k := (litE s i).1) (k0 := 0) h0 h'
        repeat (refine And.intro ?_ ?_; first | omega | (simp only [Lay.d_n]; omega) | (simp only [decide_eq_true_eq, decide_eq_false_iff_not, Bool.or_eq_false_iff, Bool.and_eq_true, Bool.or_eq_true, Bool.and_eq_false_iff, Bool.not_eq_true', Bool.not_eq_false', Lay.d_n]; omega) | (simp only [decide_eq_true_eq, decide_eq_false_iff_not, Bool.or_eq_false_iff, Bool.and_eq_true, Bool.or_eq_true, Bool.and_eq_false_iff, Bool.not_eq_true', Bool.not_eq_false']; omega))
        exact meet ((litE s i).1, (litE s i).2) [] (.of rfl rfl rfl rfl rfl rfl) ⟨n, h2, h3⟩
      · have h' : decide (i + ((0 : Nat) : Int) < atE i (Lx.litQ (tl s i)).2) = false := by rw [show i + ((0 : Nat) : Int) = i by omega]; exact h
        exact meet (0, i) [] (.of rfl rfl rfl rfl rfl rfl) ⟨0, by simp, stp_f h0 h'⟩
    · rintro ⟨kd, ed⟩ u1 hu1 ⟨n0, e0, hb⟩
      replace e0 : ed = i + (n0 : Int) := e0
      subst e0
      replace hb : (kd, n0) = (stp (Lx.litQ (tl s i)).1 (Lx.litQ (tl s i)).2 (0, 0)) := hb
      refine x_cut (σ := Int × Int) (fun b => ⟨[(7, .p 1 0), (6, .v (.int .u8 (bt s i))), (4, .p 0 0), (1, .v (.int .i64 i)), (0, .v (.string s))], [],
          [(1, .box 129 [.v (.int .i64 b.1), .v (.int .i64 i), .v (.int .i64 b.2)]), (0, .box 129 [.v (.int .i64 0), .v (.int .i64 0), .v (.int .i64 0)])], 2⟩)
        (fun b _ => ∃ n : Nat, b.2 = i + n ∧ (b.1, n) = (stp 1 (Lx.wordN (tl s i)) (stp (Lx.litQ (tl s i)).1 (Lx.litQ (tl s i)).2 (0, 0)))) (fun _ => Nat.le_refl 2) ?_ ?_
      · refine x_vc tt_ok ?_
        refine xl_call0 (.int .i64 (wordE s i)) rfl rfl rfl rfl fn167 rfl rfl (fun E w F _ => word_any s i h0 h1 hz w) ?_
        refine xl_go tt_ok ?_
        refine x_if (fun h => ?_) (fun h => ?_)
        · obtain ⟨n, h2, h3⟩ := stp_t (k := 1) (k0 := kd) h0 h
          rw [hb] at h3
          repeat (refine And.intro ?_ ?_; first | omega | (simp only [Lay.d_n]; omega) | (simp only [decide_eq_true_eq, decide_eq_false_iff_not, Bool.or_eq_false_iff, Bool.and_eq_true, Bool.or_eq_true, Bool.and_eq_false_iff, Bool.not_eq_true', Bool.not_eq_false', Lay.d_n]; omega) | (simp only [decide_eq_true_eq, decide_eq_false_iff_not, Bool.or_eq_false_iff, Bool.and_eq_true, Bool.or_eq_true, Bool.and_eq_false_iff, Bool.not_eq_true', Bool.not_eq_false']; omega))
          exact meet (1, (wordE s i)) [] (.of rfl rfl rfl rfl rfl rfl) ⟨n, h2, h3⟩
        · have h3 := stp_f (k := 1) (k0 := kd) h0 h
          exact meet (kd, i + (n0 : Int)) [] (.of rfl rfl rfl rfl rfl rfl) ⟨n0, rfl, h3.trans (by rw [hb])⟩
      · rintro ⟨kd, ed⟩ u2 hu2 ⟨n0, e0, hb⟩
        replace e0 : ed = i + (n0 : Int) := e0
        subst e0
        replace hb : (kd, n0) = (stp 1 (Lx.wordN (tl s i)) (stp (Lx.litQ (tl s i)).1 (Lx.litQ (tl s i)).2 (0, 0))) := hb
        refine x_cut (σ := Int × Int) (fun b => ⟨[(7, .p 1 0), (6, .v (.int .u8 (bt s i))), (4, .p 0 0), (1, .v (.int .i64 i)), (0, .v (.string s))], [],
            [(1, .box 129 [.v (.int .i64 b.1), .v (.int .i64 i), .v (.int .i64 b.2)]), (0, .box 129 [.v (.int .i64 0), .v (.int .i64 0), .v (.int .i64 0)])], 2⟩)
          (fun b _ => ∃ n : Nat, b.2 = i + n ∧ (b.1, n) = (stp 2 (Lx.numN (tl s i)) (stp 1 (Lx.wordN (tl s i)) (stp (Lx.litQ (tl s i)).1 (Lx.litQ (tl s i)).2 (0, 0))))) (fun _ => Nat.le_refl 2) ?_ ?_
        · refine x_vc tt_ok ?_
          refine xl_call0 (.int .i64 (numE s i)) rfl rfl rfl rfl fn168 rfl rfl (fun E w F _ => num_any s i h0 h1 hz w) ?_
          refine xl_go tt_ok ?_
          refine x_if (fun h => ?_) (fun h => ?_)
          · obtain ⟨n, h2, h3⟩ := stp_t (k := 2) (k0 := kd) h0 h
            rw [hb] at h3
            repeat (refine And.intro ?_ ?_; first | omega | (simp only [Lay.d_n]; omega) | (simp only [decide_eq_true_eq, decide_eq_false_iff_not, Bool.or_eq_false_iff, Bool.and_eq_true, Bool.or_eq_true, Bool.and_eq_false_iff, Bool.not_eq_true', Bool.not_eq_false', Lay.d_n]; omega) | (simp only [decide_eq_true_eq, decide_eq_false_iff_not, Bool.or_eq_false_iff, Bool.and_eq_true, Bool.or_eq_true, Bool.and_eq_false_iff, Bool.not_eq_true', Bool.not_eq_false']; omega))
            exact meet (2, (numE s i)) [] (.of rfl rfl rfl rfl rfl rfl) ⟨n, h2, h3⟩
          · have h3 := stp_f (k := 2) (k0 := kd) h0 h
            exact meet (kd, i + (n0 : Int)) [] (.of rfl rfl rfl rfl rfl rfl) ⟨n0, rfl, h3.trans (by rw [hb])⟩
        · rintro ⟨kd, ed⟩ u3 hu3 ⟨n0, e0, hb⟩
          replace e0 : ed = i + (n0 : Int) := e0
          subst e0
          replace hb : (kd, n0) = (stp 2 (Lx.numN (tl s i)) (stp 1 (Lx.wordN (tl s i)) (stp (Lx.litQ (tl s i)).1 (Lx.litQ (tl s i)).2 (0, 0)))) := hb
          refine x_cut (σ := Int × Int) (fun b => ⟨[(7, .p 1 0), (6, .v (.int .u8 (bt s i))), (4, .p 0 0), (1, .v (.int .i64 i)), (0, .v (.string s))], [],
              [(1, .box 129 [.v (.int .i64 b.1), .v (.int .i64 i), .v (.int .i64 b.2)]), (0, .box 129 [.v (.int .i64 0), .v (.int .i64 0), .v (.int .i64 0)])], 2⟩)
            (fun b _ => ∃ n : Nat, b.2 = i + n ∧ (b.1, n) = (stp 5 (Lx.punN (tl s i)) (stp 2 (Lx.numN (tl s i)) (stp 1 (Lx.wordN (tl s i)) (stp (Lx.litQ (tl s i)).1 (Lx.litQ (tl s i)).2 (0, 0)))))) (fun _ => Nat.le_refl 2) ?_ ?_
          · refine x_vc tt_ok ?_
            refine xl_call0 (.int .i64 (punE s i)) rfl rfl rfl rfl fn169 rfl rfl (fun E w F _ => pun_any s i h0 h1 hz w) ?_
            refine xl_go tt_ok ?_
            refine x_if (fun h => ?_) (fun h => ?_)
            · obtain ⟨n, h2, h3⟩ := stp_t (k := 5) (k0 := kd) h0 h
              rw [hb] at h3
              repeat (refine And.intro ?_ ?_; first | omega | (simp only [Lay.d_n]; omega) | (simp only [decide_eq_true_eq, decide_eq_false_iff_not, Bool.or_eq_false_iff, Bool.and_eq_true, Bool.or_eq_true, Bool.and_eq_false_iff, Bool.not_eq_true', Bool.not_eq_false', Lay.d_n]; omega) | (simp only [decide_eq_true_eq, decide_eq_false_iff_not, Bool.or_eq_false_iff, Bool.and_eq_true, Bool.or_eq_true, Bool.and_eq_false_iff, Bool.not_eq_true', Bool.not_eq_false']; omega))
              exact meet (5, (punE s i)) [] (.of rfl rfl rfl rfl rfl rfl) ⟨n, h2, h3⟩
            · have h3 := stp_f (k := 5) (k0 := kd) h0 h
              exact meet (kd, i + (n0 : Int)) [] (.of rfl rfl rfl rfl rfl rfl) ⟨n0, rfl, h3.trans (by rw [hb])⟩
          · rintro ⟨kd, ed⟩ u4 hu4 ⟨n0, e0, hb⟩
            replace e0 : ed = i + (n0 : Int) := e0
            subst e0
            replace hb : (kd, n0) = (stp 5 (Lx.punN (tl s i)) (stp 2 (Lx.numN (tl s i)) (stp 1 (Lx.wordN (tl s i)) (stp (Lx.litQ (tl s i)).1 (Lx.litQ (tl s i)).2 (0, 0))))) := hb
            rw [← bestG_stp] at hb
            have q1 : (Lx.bestL (tl s i)).1 = kd := by rw [← hb]
            have q2 : (Lx.bestL (tl s i)).2 = n0 := by rw [← hb]
            have hL : longL (tl s i) = if kd ≠ 0 then ⟨kd, n0, 0⟩ else if Lx.qHead (tl s i) = true then ⟨0, 0, 21⟩ else ⟨6, 1, 0⟩ := by
              unfold longL; rw [q1, q2, hT, List.head?_cons, if_neg (by simpa using h10)]
            rw [hT] at hL
            rw [hT, hL]
            refine x_vc tt_ok ?_
            refine x_if (fun h => ?_) (fun h => ?_)
            · rw [if_pos (of_decide_eq_true h)]
              exact fin1 (fun _ _ => rfl)
            · rw [if_neg (of_decide_eq_false h)]
              refine x_if (fun h2 => ?_) (fun h2 => ?_)
              · have h2' : Lx.qHead (bt s i :: tl s (i + 1)) = true := h2
                rw [if_pos h2']
                exact fin1 (fun _ _ => rfl)
              · have h2' : Lx.qHead (bt s i :: tl s (i + 1)) = false := h2
                rw [if_neg (by rw [h2']; simp)]
                repeat (refine And.intro ?_ ?_; first | omega | (simp only [Lay.d_n]; omega) | (simp only [decide_eq_true_eq, decide_eq_false_iff_not, Bool.or_eq_false_iff, Bool.and_eq_true, Bool.or_eq_true, Bool.and_eq_false_iff, Bool.not_eq_true', Bool.not_eq_false', Lay.d_n]; omega) | (simp only [decide_eq_true_eq, decide_eq_false_iff_not, Bool.or_eq_false_iff, Bool.and_eq_true, Bool.or_eq_true, Bool.and_eq_false_iff, Bool.not_eq_true', Bool.not_eq_false']; omega))
                exact fin1 (fun _ _ => rfl)
end Go.Proofs.Ytdonomneofdhfaa
