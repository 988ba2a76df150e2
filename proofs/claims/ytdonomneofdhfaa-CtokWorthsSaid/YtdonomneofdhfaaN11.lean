/- The elements of constants and strings: the program's small functions. -/
import Derived.Test.YtdonomneofdhfaaN10
namespace Go.Proofs.Ytdonomneofdhfaa
open Go.GV Go.RowKit

/-- what a letter behind a backslash stands for; 0: nothing -/
def simR (c : Int) : Int := if c = 39 then 39 else if c = 34 then 34 else if c = 63 then 63 else if c = 92 then 92 else if c = 97 then 7 else if c = 98 then 8 else if c = 102 then 12 else if c = 110 then 10
  else if c = 114 then 13 else if c = 116 then 9 else if c = 118 then 11 else 0
def simP (c : Int) : Int := if simR c = 0 then -1 else simR c
theorem simR_range (c : Int) : 0 ≤ simR c ∧ simR c ≤ 92 := by
  unfold simR
  (repeat' split) <;> omega

set_option maxRecDepth 100000 in
theorem simple_any (c : Int) (w : World) : Calls Try.prog 160 #[.int .u8 c] w (PureP w fun v _ => v = .int .i64 (simP c)) := by
  refine x_fun tt_ok Try.func160 rfl rfl [] 0 [.v (.int .u8 c)] rfl rfl rfl rfl (fun b hb => by cases hb) ?_
  refine x_vc tt_ok ?_
  iterate 3
    refine x_if (fun h => ?_) (fun h => ?_)
    · have h := of_decide_eq_true h
      subst h
      refine x_ift rfl ?_
      repeat (refine And.intro ?_ ?_; first | omega | (simp only [Lay.d_n]; omega) | (simp only [decide_eq_true_eq, decide_eq_false_iff_not, Bool.or_eq_false_iff, Bool.and_eq_true, Bool.or_eq_true, Bool.and_eq_false_iff, Bool.not_eq_true', Bool.not_eq_false', Lay.d_n]; omega) | (simp only [decide_eq_true_eq, decide_eq_false_iff_not, Bool.or_eq_false_iff, Bool.and_eq_true, Bool.or_eq_true, Bool.and_eq_false_iff, Bool.not_eq_true', Bool.not_eq_false']; omega))
      refine fin1 (fun _ _ => rfl)
  refine x_if (fun h => ?_) (fun h => ?_)
  · have h := of_decide_eq_true h
    subst h
    repeat (refine And.intro ?_ ?_; first | omega | (simp only [Lay.d_n]; omega) | (simp only [decide_eq_true_eq, decide_eq_false_iff_not, Bool.or_eq_false_iff, Bool.and_eq_true, Bool.or_eq_true, Bool.and_eq_false_iff, Bool.not_eq_true', Bool.not_eq_false', Lay.d_n]; omega) | (simp only [decide_eq_true_eq, decide_eq_false_iff_not, Bool.or_eq_false_iff, Bool.and_eq_true, Bool.or_eq_true, Bool.and_eq_false_iff, Bool.not_eq_true', Bool.not_eq_false']; omega))
    refine fin1 (fun _ _ => rfl)
  iterate 7
    refine x_if (fun h => ?_) (fun h => ?_)
    · have h := of_decide_eq_true h
      subst h
      refine fin1 (fun _ _ => rfl)
  refine fin1 (fun _ _ => ?_)
  simp only [decide_eq_true_eq, decide_eq_false_iff_not] at *
  have : simP c = -1 := by unfold simP simR; simp [*]
  rw [this]; rfl

set_option maxRecDepth 100000 in
theorem simpleR_any (c : Int) (w : World) : Calls Try.prog 162 #[.int .u8 c] w (PureP w fun v _ => v = .int .i64 (simR c)) := by
  refine x_fun tt_ok Try.func162 rfl rfl [] 0 [.v (.int .u8 c)] rfl rfl rfl rfl (fun b hb => by cases hb) ?_
  refine x_vc tt_ok ?_
  iterate 3
    refine x_if (fun h => ?_) (fun h => ?_)
    · have h := of_decide_eq_true h
      subst h
      refine x_ift rfl ?_
      repeat (refine And.intro ?_ ?_; first | omega | (simp only [Lay.d_n]; omega) | (simp only [decide_eq_true_eq, decide_eq_false_iff_not, Bool.or_eq_false_iff, Bool.and_eq_true, Bool.or_eq_true, Bool.and_eq_false_iff, Bool.not_eq_true', Bool.not_eq_false', Lay.d_n]; omega) | (simp only [decide_eq_true_eq, decide_eq_false_iff_not, Bool.or_eq_false_iff, Bool.and_eq_true, Bool.or_eq_true, Bool.and_eq_false_iff, Bool.not_eq_true', Bool.not_eq_false']; omega))
      refine fin1 (fun _ _ => rfl)
  refine x_if (fun h => ?_) (fun h => ?_)
  · have h := of_decide_eq_true h
    subst h
    repeat (refine And.intro ?_ ?_; first | omega | (simp only [Lay.d_n]; omega) | (simp only [decide_eq_true_eq, decide_eq_false_iff_not, Bool.or_eq_false_iff, Bool.and_eq_true, Bool.or_eq_true, Bool.and_eq_false_iff, Bool.not_eq_true', Bool.not_eq_false', Lay.d_n]; omega) | (simp only [decide_eq_true_eq, decide_eq_false_iff_not, Bool.or_eq_false_iff, Bool.and_eq_true, Bool.or_eq_true, Bool.and_eq_false_iff, Bool.not_eq_true', Bool.not_eq_false']; omega))
    refine fin1 (fun _ _ => rfl)
  iterate 7
    refine x_if (fun h => ?_) (fun h => ?_)
    · have h := of_decide_eq_true h
      subst h
      refine fin1 (fun _ _ => rfl)
  refine fin1 (fun _ _ => ?_)
  simp only [decide_eq_true_eq, decide_eq_false_iff_not] at *
  have : simR c = 0 := by unfold simR; simp [*]
  rw [this]; rfl

/-- the number that digits are; -1: it is too great -/
def numF (b most : Int) : Int → List Int → Int
  | v, [] => v
  | v, c :: r => if most < v * b + dg c then -1 else numF b most (v * b + dg c) r

set_option maxRecDepth 100000 in
theorem number_any (s : ByteArray) (b most : Int) (hb0 : 0 ≤ b) (hb : b ≤ 16) (hm0 : 0 ≤ most) (hm : most ≤ 4294967295) (w : World) (hs : s.size ≤ 9223372036854775807) :
    Calls Try.prog 161 #[.string s, .int .i64 b, .int .i64 most] w (PureP w fun v _ => v = .int .i64 (numF b most 0 (bl s))) := by
  obtain ⟨N, hN⟩ : ∃ N, N = numF b most 0 (bl s) := ⟨_, rfl⟩
  rw [← hN]
  refine x_fun tt_ok Try.func161 rfl rfl [] 0 [.v (.string s), .v (.int .i64 b), .v (.int .i64 most)] rfl rfl rfl rfl (fun b hb => by cases hb) ?_
  refine x_vc tt_ok ?_
  refine xl_call _ rfl rfl rfl rfl fn110 rfl rfl (fun E w F _ => digitsFn_any s w) (fun v u1 u2 hu2 hs2 hv => ?_)
  obtain ⟨bk, rfl, hbk⟩ := hv
  have hb2 := of_sub_cut hs2 hbk
  refine xl_go tt_ok ?_
  refine x_range (σ := Int) (τ := Int) rfl fn142 (digits_iter s bk u2 hb2 hs) [(7, .p 3 0), (6, .p 2 0), (5, .p 1 0), (4, .p 0 0)]
    (fun v => [(0, .box 2 [.v (.int .i64 b)]), (1, .box 2 [.v (.int .i64 most)]), (2, .box 2 [.v (.int .i64 0)]), (3, .box 2 [.v (.int .i64 v)])]) (fun _ => 5) (fun k v _ => 0 ≤ v ∧ v ≤ most ∧ N = numF b most v ((bl s).drop k))
    (fun q => [(0, .box 2 [.v (.int .i64 b)]), (1, .box 2 [.v (.int .i64 most)]), (2, .box 2 [.v (.int .i64 (-1))]), (3, .box 2 [.v (.int .i64 q)])]) (fun _ => 5) (fun _ e _ => e = .ret ∧ N = -1) 0 [] (.of rfl rfl rfl rfl rfl rfl) ⟨by omega, by omega, hN⟩ rfl
    (fun _ => rfl) (fun _ => rfl) (fun _ => by decide) (fun _ => by decide) rfl (fun l k x v u3 Fr Fr' hx hu3 hg => ?_) (fun v u3 hu3 hg => ?_) (fun _ e u3 hu3 hg => ?_)
  · obtain ⟨g0, g1, g2⟩ := hg
    rw [List.getElem?_map] at hx
    obtain ⟨c, hc, rfl⟩ := Option.map_eq_some_iff.1 hx
    rw [drop_get hc, numF] at g2
    have hcr := dg_range c
    have hv0 : 0 ≤ v * b := Int.mul_nonneg g0 hb0
    have hv1 : v * b ≤ 4294967295 * 16 := Int.mul_le_mul (by omega) hb hb0 (by omega)
    refine x_vc tt_ok ?_
    refine ⟨rfl, rfl, x_vc tt_ok ?_⟩
    repeat (refine And.intro ?_ ?_; first | omega | (simp only [Lay.d_n]; omega) | (simp only [decide_eq_true_eq, decide_eq_false_iff_not, Bool.or_eq_false_iff, Bool.and_eq_true, Bool.or_eq_true, Bool.and_eq_false_iff, Bool.not_eq_true', Bool.not_eq_false', Lay.d_n]; omega) | (simp only [decide_eq_true_eq, decide_eq_false_iff_not, Bool.or_eq_false_iff, Bool.and_eq_true, Bool.or_eq_true, Bool.and_eq_false_iff, Bool.not_eq_true', Bool.not_eq_false']; omega))
    refine x_if (fun h1 => ?_) (fun h1 => ?_)
    · have h1 : most < v * b + dg c := of_decide_eq_true h1
      rw [if_pos h1] at g2
      exact ⟨v * b + dg c, [], .of rfl rfl rfl rfl rfl rfl, rfl, g2⟩
    · have h1 : ¬ most < v * b + dg c := of_decide_eq_false h1
      rw [if_neg h1] at g2
      exact ⟨v * b + dg c, [], .of rfl rfl rfl rfl rfl rfl, by omega, by omega, g2⟩
  · obtain ⟨g0, g1, g2⟩ := hg
    rw [List.length_map, List.drop_length, numF] at g2
    rw [g2]
    exact fin1 (fun _ _ => rfl)
  · obtain ⟨rfl, g2⟩ := hg
    rw [g2]
    exact fin1 (fun _ _ => rfl)

/-- an element: its number (-1: there is none), and how many bytes it has -/
def elemP (most : Int) : List Int → Int × Nat
  | [] => (-1, 1)
  | c :: r => if c ≠ 92 then (c, 1) else match r with
    | [] => (-1, 1)
    | d :: q => if 0 ≤ simP d then (simP d, 2)
      else if d = 120 then (if runB 16 q = 0 then (-1, 1) else (numF 16 most 0 (q.take (runB 16 q)), 2 + runB 16 q))
      else if runB 8 ((d :: q).take 3) = 0 then (-1, 1) else (numF 8 most 0 ((d :: q).take (runB 8 ((d :: q).take 3))), 1 + runB 8 ((d :: q).take 3))

set_option maxRecDepth 100000 in
theorem element_any (s : ByteArray) (most : Int) (hz : 0 < s.size) (hm0 : 0 ≤ most) (hm : most ≤ 4294967295) (w : World) (hs : s.size ≤ 140737488355328) :
    Calls Try.prog 146 #[.string s, .int .i64 most] w (PureP w fun v _ => v = .tuple #[.int .i64 (elemP most (bl s)).1, .int .i64 (elemP most (bl s)).2]) := by
  obtain ⟨N, hN⟩ : ∃ N, N = elemP most (bl s) := ⟨_, rfl⟩
  rw [← hN]
  have hbt := bt_range s 0
  rw [← tl_zero, tl_cons (by omega) (by omega), Int.zero_add] at hN
  simp only [elemP] at hN
  refine x_fun tt_ok Try.func146 rfl rfl [] 0 [.v (.string s), .v (.int .i64 most)] rfl rfl rfl rfl (fun b hb => by cases hb) ?_
  refine x_vc tt_ok ?_
  repeat (refine And.intro ?_ ?_; first | omega | (simp only [Lay.d_n]; omega) | (simp only [decide_eq_true_eq, decide_eq_false_iff_not, Bool.or_eq_false_iff, Bool.and_eq_true, Bool.or_eq_true, Bool.and_eq_false_iff, Bool.not_eq_true', Bool.not_eq_false', Lay.d_n]; omega) | (simp only [decide_eq_true_eq, decide_eq_false_iff_not, Bool.or_eq_false_iff, Bool.and_eq_true, Bool.or_eq_true, Bool.and_eq_false_iff, Bool.not_eq_true', Bool.not_eq_false']; omega))
  refine x_if (fun h => ?_) (fun h => ?_)
  · have h : bt s 0 ≠ 92 := of_decide_eq_true h
    rw [if_pos h] at hN
    repeat (refine And.intro ?_ ?_; first | omega | (simp only [Lay.d_n]; omega) | (simp only [decide_eq_true_eq, decide_eq_false_iff_not, Bool.or_eq_false_iff, Bool.and_eq_true, Bool.or_eq_true, Bool.and_eq_false_iff, Bool.not_eq_true', Bool.not_eq_false', Lay.d_n]; omega) | (simp only [decide_eq_true_eq, decide_eq_false_iff_not, Bool.or_eq_false_iff, Bool.and_eq_true, Bool.or_eq_true, Bool.and_eq_false_iff, Bool.not_eq_true', Bool.not_eq_false']; omega))
    rw [hN]
    exact fin1 (fun _ _ => rfl)
  · have h : ¬ bt s 0 ≠ 92 := of_decide_eq_false h
    rw [if_neg h] at hN
    repeat (refine And.intro ?_ ?_; first | omega | (simp only [Lay.d_n]; omega) | (simp only [decide_eq_true_eq, decide_eq_false_iff_not, Bool.or_eq_false_iff, Bool.and_eq_true, Bool.or_eq_true, Bool.and_eq_false_iff, Bool.not_eq_true', Bool.not_eq_false', Lay.d_n]; omega) | (simp only [decide_eq_true_eq, decide_eq_false_iff_not, Bool.or_eq_false_iff, Bool.and_eq_true, Bool.or_eq_true, Bool.and_eq_false_iff, Bool.not_eq_true', Bool.not_eq_false']; omega))
    refine x_if (fun h => ?_) (fun h => ?_)
    · have h : (s.size : Int) = 1 := of_decide_eq_true h
      rw [tl_nil (by omega)] at hN
      rw [hN]
      exact fin1 (fun _ _ => rfl)
    · have h : ¬ (s.size : Int) = 1 := of_decide_eq_false h
      have hbt1 := bt_range s 1
      rw [tl_cons (by omega) (by omega)] at hN
      simp only at hN
      rw [show (1 : Int) + 1 = 2 from rfl] at hN
      repeat (refine And.intro ?_ ?_; first | omega | (simp only [Lay.d_n]; omega) | (simp only [decide_eq_true_eq, decide_eq_false_iff_not, Bool.or_eq_false_iff, Bool.and_eq_true, Bool.or_eq_true, Bool.and_eq_false_iff, Bool.not_eq_true', Bool.not_eq_false', Lay.d_n]; omega) | (simp only [decide_eq_true_eq, decide_eq_false_iff_not, Bool.or_eq_false_iff, Bool.and_eq_true, Bool.or_eq_true, Bool.and_eq_false_iff, Bool.not_eq_true', Bool.not_eq_false']; omega))
      refine xl_call0 (.int .i64 (simP (bt s 1))) rfl rfl rfl rfl fn160 rfl rfl (fun E w F _ => simple_any _ w) ?_
      refine xl_go tt_ok ?_
      refine x_if (fun h1 => ?_) (fun h1 => ?_)
      · have h1 : 0 ≤ simP (bt s 1) := of_decide_eq_true h1
        rw [if_pos h1] at hN
        rw [hN]
        exact fin1 (fun _ _ => rfl)
      · have h1 : ¬ 0 ≤ simP (bt s 1) := of_decide_eq_false h1
        rw [if_neg h1] at hN
        repeat (refine And.intro ?_ ?_; first | omega | (simp only [Lay.d_n]; omega) | (simp only [decide_eq_true_eq, decide_eq_false_iff_not, Bool.or_eq_false_iff, Bool.and_eq_true, Bool.or_eq_true, Bool.and_eq_false_iff, Bool.not_eq_true', Bool.not_eq_false', Lay.d_n]; omega) | (simp only [decide_eq_true_eq, decide_eq_false_iff_not, Bool.or_eq_false_iff, Bool.and_eq_true, Bool.or_eq_true, Bool.and_eq_false_iff, Bool.not_eq_true', Bool.not_eq_false']; omega))
        refine x_if (fun h2 => ?_) (fun h2 => ?_)
        · have h2 : bt s 1 = 120 := of_decide_eq_true h2
          rw [if_pos h2] at hN
          have hrl := runB_le 16 (tl s 2)
          rw [tl_len] at hrl
          repeat (refine And.intro ?_ ?_; first | omega | (simp only [Lay.d_n]; omega) | (simp only [decide_eq_true_eq, decide_eq_false_iff_not, Bool.or_eq_false_iff, Bool.and_eq_true, Bool.or_eq_true, Bool.and_eq_false_iff, Bool.not_eq_true', Bool.not_eq_false', Lay.d_n]; omega) | (simp only [decide_eq_true_eq, decide_eq_false_iff_not, Bool.or_eq_false_iff, Bool.and_eq_true, Bool.or_eq_true, Bool.and_eq_false_iff, Bool.not_eq_true', Bool.not_eq_false']; omega))
          refine xl_call0 (.int .i64 (runB 16 (tl s 2))) rfl rfl rfl rfl fn109 rfl rfl (fun E w F _ => by
            have := run_any (sub s 2 s.size) 16 w (by have := sub_size (s := s) (a := 2) (b := s.size) (by omega) (by omega) (by omega); omega)
            rw [bl_rest s (by omega) (by omega)] at this
            exact this) ?_
          refine xl_go tt_ok ?_
          obtain ⟨n, hn⟩ : ∃ n, n = runB 16 (tl s 2) := ⟨_, rfl⟩
          rw [← hn] at hN hrl ⊢
          refine x_if (fun h3 => ?_) (fun h3 => ?_)
          · have h3 : (n : Int) = 0 := of_decide_eq_true h3
            rw [if_pos (by omega)] at hN
            rw [hN]
            exact fin1 (fun _ _ => rfl)
          · have h3 : ¬ (n : Int) = 0 := of_decide_eq_false h3
            rw [if_neg (by omega)] at hN
            repeat (refine And.intro ?_ ?_; first | omega | (simp only [Lay.d_n]; omega) | (simp only [decide_eq_true_eq, decide_eq_false_iff_not, Bool.or_eq_false_iff, Bool.and_eq_true, Bool.or_eq_true, Bool.and_eq_false_iff, Bool.not_eq_true', Bool.not_eq_false', Lay.d_n]; omega) | (simp only [decide_eq_true_eq, decide_eq_false_iff_not, Bool.or_eq_false_iff, Bool.and_eq_true, Bool.or_eq_true, Bool.and_eq_false_iff, Bool.not_eq_true', Bool.not_eq_false']; omega))
            refine xl_call0 (.int .i64 (numF 16 most 0 ((tl s 2).take n))) rfl rfl rfl rfl fn161 rfl rfl (fun E w F _ => by
              have := number_any (sub s 2 (2 + n)) 16 most (by omega) (by omega) hm0 hm w (by have := sub_size (s := s) (a := 2) (b := 2 + (n : Int)) (by omega) (by omega) (by omega); omega)
              rw [bl_sub s (by omega) (by omega) (by omega), show (2 + (n : Int) - 2).toNat = n by omega] at this
              exact this) ?_
            refine xl_go tt_ok ?_
            repeat (refine And.intro ?_ ?_; first | omega | (simp only [Lay.d_n]; omega) | (simp only [decide_eq_true_eq, decide_eq_false_iff_not, Bool.or_eq_false_iff, Bool.and_eq_true, Bool.or_eq_true, Bool.and_eq_false_iff, Bool.not_eq_true', Bool.not_eq_false', Lay.d_n]; omega) | (simp only [decide_eq_true_eq, decide_eq_false_iff_not, Bool.or_eq_false_iff, Bool.and_eq_true, Bool.or_eq_true, Bool.and_eq_false_iff, Bool.not_eq_true', Bool.not_eq_false']; omega))
            rw [hN]
            refine fin1 (fun _ _ => ?_)
            show Value.tuple #[_, .int .i64 (2 + (n : Int))] = Value.tuple #[_, .int .i64 ((2 + n : Nat) : Int)]
            rw [show ((2 + n : Nat) : Int) = 2 + (n : Int) by omega]
            rfl
        · have h2 : ¬ bt s 1 = 120 := of_decide_eq_false h2
          rw [if_neg h2, show bt s 1 :: tl s 2 = tl s 1 from (tl_cons (by omega) (by omega)).symm] at hN
          have hrl := runB_le 8 ((tl s 1).take 3)
          rw [List.length_take, tl_len] at hrl
          repeat (refine And.intro ?_ ?_; first | omega | (simp only [Lay.d_n]; omega) | (simp only [decide_eq_true_eq, decide_eq_false_iff_not, Bool.or_eq_false_iff, Bool.and_eq_true, Bool.or_eq_true, Bool.and_eq_false_iff, Bool.not_eq_true', Bool.not_eq_false', Lay.d_n]; omega) | (simp only [decide_eq_true_eq, decide_eq_false_iff_not, Bool.or_eq_false_iff, Bool.and_eq_true, Bool.or_eq_true, Bool.and_eq_false_iff, Bool.not_eq_true', Bool.not_eq_false']; omega))
          refine xl_min rfl rfl rfl rfl rfl rfl ?_
          obtain ⟨e, he⟩ : ∃ e : Int, e = if (s.size : Int) < 4 then (s.size : Int) else 4 := ⟨_, rfl⟩
          rw [← he]
          have he2 : 1 ≤ e ∧ e ≤ s.size ∧ e ≤ 4 ∧ (e = s.size ∨ e = 4) := by rw [he]; split <;> omega
          refine xl_go tt_ok ?_
          repeat (refine And.intro ?_ ?_; first | omega | (simp only [Lay.d_n]; omega) | (simp only [decide_eq_true_eq, decide_eq_false_iff_not, Bool.or_eq_false_iff, Bool.and_eq_true, Bool.or_eq_true, Bool.and_eq_false_iff, Bool.not_eq_true', Bool.not_eq_false', Lay.d_n]; omega) | (simp only [decide_eq_true_eq, decide_eq_false_iff_not, Bool.or_eq_false_iff, Bool.and_eq_true, Bool.or_eq_true, Bool.and_eq_false_iff, Bool.not_eq_true', Bool.not_eq_false']; omega))
          refine xl_call0 (.int .i64 (runB 8 ((tl s 1).take 3))) rfl rfl rfl rfl fn109 rfl rfl (fun E w F _ => by
            have := run_any (sub s 1 e) 8 w (by have := sub_size (s := s) (a := 1) (b := e) (by omega) (by omega) (by omega); omega)
            rw [bl_sub s (by omega) (by omega) (by omega)] at this
            have e2 : (tl s 1).take (e - 1).toNat = (tl s 1).take 3 := by
              rcases he2.2.2.2 with h9 | h9
              · rw [List.take_of_length_le (by rw [tl_len]; omega), List.take_of_length_le (by rw [tl_len]; omega)]
              · rw [show (e - 1).toNat = 3 by omega]
            rw [e2] at this
            exact this) ?_
          refine xl_go tt_ok ?_
          obtain ⟨n, hn⟩ : ∃ n, n = runB 8 ((tl s 1).take 3) := ⟨_, rfl⟩
          rw [← hn] at hN hrl ⊢
          refine x_if (fun h3 => ?_) (fun h3 => ?_)
          · have h3 : (n : Int) = 0 := of_decide_eq_true h3
            rw [if_pos (by omega)] at hN
            rw [hN]
            exact fin1 (fun _ _ => rfl)
          · have h3 : ¬ (n : Int) = 0 := of_decide_eq_false h3
            rw [if_neg (by omega)] at hN
            repeat (refine And.intro ?_ ?_; first | omega | (simp only [Lay.d_n]; omega) | (simp only [decide_eq_true_eq, decide_eq_false_iff_not, Bool.or_eq_false_iff, Bool.and_eq_true, Bool.or_eq_true, Bool.and_eq_false_iff, Bool.not_eq_true', Bool.not_eq_false', Lay.d_n]; omega) | (simp only [decide_eq_true_eq, decide_eq_false_iff_not, Bool.or_eq_false_iff, Bool.and_eq_true, Bool.or_eq_true, Bool.and_eq_false_iff, Bool.not_eq_true', Bool.not_eq_false']; omega))
            refine xl_call0 (.int .i64 (numF 8 most 0 ((tl s 1).take n))) rfl rfl rfl rfl fn161 rfl rfl (fun E w F _ => by
              have := number_any (sub s 1 (1 + n)) 8 most (by omega) (by omega) hm0 hm w (by have := sub_size (s := s) (a := 1) (b := 1 + (n : Int)) (by omega) (by omega) (by omega); omega)
              rw [bl_sub s (by omega) (by omega) (by omega), show (1 + (n : Int) - 1).toNat = n by omega] at this
              exact this) ?_
            refine xl_go tt_ok ?_
            repeat (refine And.intro ?_ ?_; first | omega | (simp only [Lay.d_n]; omega) | (simp only [decide_eq_true_eq, decide_eq_false_iff_not, Bool.or_eq_false_iff, Bool.and_eq_true, Bool.or_eq_true, Bool.and_eq_false_iff, Bool.not_eq_true', Bool.not_eq_false', Lay.d_n]; omega) | (simp only [decide_eq_true_eq, decide_eq_false_iff_not, Bool.or_eq_false_iff, Bool.and_eq_true, Bool.or_eq_true, Bool.and_eq_false_iff, Bool.not_eq_true', Bool.not_eq_false']; omega))
            rw [hN]
            refine fin1 (fun _ _ => ?_)
            show Value.tuple #[_, .int .i64 (1 + (n : Int))] = Value.tuple #[_, .int .i64 ((1 + n : Nat) : Int)]
            rw [show ((1 + n : Nat) : Int) = 1 + (n : Int) by omega]
            rfl
end Go.Proofs.Ytdonomneofdhfaa
