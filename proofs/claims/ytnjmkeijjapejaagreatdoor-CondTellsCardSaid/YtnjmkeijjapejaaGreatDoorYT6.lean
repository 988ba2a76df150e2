/- Part 6 of the lemmas behind the claim: NX, N22, N23, N24, U1, GB, GC, GF, U2, Q16, GQ, Q17, Q21. -/
import Derived.Test.YtnjmkeijjapejaaGreatDoorYT5
import Derived.Shelf.Bits.Mul64
import Derived.Laws.Externs
import Derived.Laws.BitsAllLaws
import Derived.Laws.Shifts
set_option linter.unusedSimpArgs false
set_option linter.unusedVariables false
namespace Go.Proofs.YtnjmkeijjapejaaGreatDoor
open Go.GV Go.RowKit
def dg (c : Int) : Int := if (decide (48 ≤ c) && decide (c ≤ 57)) = true then c - 48 else if (decide (97 ≤ c) && decide (c ≤ 102)) = true then c - 97 + 10 else if (decide (65 ≤ c) && decide (c ≤ 70)) = true then c - 65 + 10 else 16
def dgR (c : Int) : Int := if dg c = 16 then 99 else dg c
theorem dg_range (c : Int) : 0 ≤ dg c ∧ dg c ≤ 16 := by
  unfold dg
  simp only [Bool.and_eq_true, decide_eq_true_eq]
  (repeat' split) <;> omega
theorem dgR_lt (c : Int) {b : Int} (hb : b ≤ 16) : dgR c < b ↔ dg c < b := by
  have := dg_range c
  unfold dgR
  split <;> omega
theorem dgR_eq {c : Int} {b : Int} (hb : b ≤ 16) (h : dg c < b) : dgR c = dg c := by
  unfold dgR
  rw [if_neg (by omega)]
set_option maxRecDepth 100000 in
theorem dg_any (c : Int) (w : World) (h0 : 0 ≤ c) (h1 : c ≤ 255) : Calls Tryz.prog 63 #[.int .u8 c] w (PureP w fun v _ => v = .int .i64 (dg c)) := by
  obtain ⟨N, hN⟩ : ∃ N, N = dg c := ⟨_, rfl⟩
  rw [← hN]
  unfold dg at hN
  refine x_fun tt_ok Tryz.func63 rfl rfl [] 0 [.v (.int .u8 c)] rfl rfl rfl rfl (fun b hb => by cases hb) ?_
  refine x_vc tt_ok ?_
  refine x_if (fun h => ?_) (fun h => ?_)
  · have h : (decide (48 ≤ c) && decide (c ≤ 57)) = true := h
    rw [if_pos h] at hN
    simp only [Bool.and_eq_true, decide_eq_true_eq] at h
    repeat (refine And.intro ?_ ?_; first | omega | (simp only [Lay.d_n]; omega))
    rw [hN]
    exact fin1 (fun _ _ => rfl)
  · have h : (decide (48 ≤ c) && decide (c ≤ 57)) = false := h
    rw [if_neg (by rw [h]; simp)] at hN
    refine x_if (fun h => ?_) (fun h => ?_)
    · have h : (decide (97 ≤ c) && decide (c ≤ 102)) = true := h
      rw [if_pos h] at hN
      simp only [Bool.and_eq_true, decide_eq_true_eq] at h
      repeat (refine And.intro ?_ ?_; first | omega | (simp only [Lay.d_n]; omega))
      rw [hN]
      exact fin1 (fun _ _ => rfl)
    · have h : (decide (97 ≤ c) && decide (c ≤ 102)) = false := h
      rw [if_neg (by rw [h]; simp)] at hN
      refine x_if (fun h => ?_) (fun h => ?_)
      · have h : (decide (65 ≤ c) && decide (c ≤ 70)) = true := h
        rw [if_pos h] at hN
        simp only [Bool.and_eq_true, decide_eq_true_eq] at h
        repeat (refine And.intro ?_ ?_; first | omega | (simp only [Lay.d_n]; omega))
        rw [hN]
        exact fin1 (fun _ _ => rfl)
      · have h : (decide (65 ≤ c) && decide (c ≤ 70)) = false := h
        rw [if_neg (by rw [h]; simp)] at hN
        rw [hN]
        exact fin1 (fun _ _ => rfl)
theorem dgR_def (c : Int) : dgR c = if (decide (48 ≤ c) && decide (c ≤ 57)) = true then c - 48 else if (decide (97 ≤ c) && decide (c ≤ 102)) = true then c - 97 + 10 else if (decide (65 ≤ c) && decide (c ≤ 70)) = true then c - 65 + 10 else 99 := by
  unfold dgR dg
  simp only [Bool.and_eq_true, decide_eq_true_eq]
  by_cases h1 : 48 ≤ c ∧ c ≤ 57
  · simp only [if_pos h1]; rw [if_neg (by omega)]
  · simp only [if_neg h1]
    by_cases h2 : 97 ≤ c ∧ c ≤ 102
    · simp only [if_pos h2]; rw [if_neg (by omega)]
    · simp only [if_neg h2]
      by_cases h3 : 65 ≤ c ∧ c ≤ 70
      · simp only [if_pos h3]; rw [if_neg (by omega)]
      · simp only [if_neg h3, if_true]
set_option maxRecDepth 100000 in
theorem dgR_any (c : Int) (w : World) (h0 : 0 ≤ c) (h1 : c ≤ 255) : Calls Tryz.prog 54 #[.int .u8 c] w (PureP w fun v _ => v = .int .i64 (dgR c)) := by
  obtain ⟨N, hN⟩ : ∃ N, N = dgR c := ⟨_, rfl⟩
  rw [← hN]
  rw [dgR_def] at hN
  refine x_fun tt_ok Tryz.func54 rfl rfl [] 0 [.v (.int .u8 c)] rfl rfl rfl rfl (fun b hb => by cases hb) ?_
  refine x_vc tt_ok ?_
  refine x_if (fun h => ?_) (fun h => ?_)
  · have h : (decide (48 ≤ c) && decide (c ≤ 57)) = true := h
    rw [if_pos h] at hN
    simp only [Bool.and_eq_true, decide_eq_true_eq] at h
    repeat (refine And.intro ?_ ?_; first | omega | (simp only [Lay.d_n]; omega))
    rw [hN]
    exact fin1 (fun _ _ => rfl)
  · have h : (decide (48 ≤ c) && decide (c ≤ 57)) = false := h
    rw [if_neg (by rw [h]; simp)] at hN
    refine x_if (fun h => ?_) (fun h => ?_)
    · have h : (decide (97 ≤ c) && decide (c ≤ 102)) = true := h
      rw [if_pos h] at hN
      simp only [Bool.and_eq_true, decide_eq_true_eq] at h
      repeat (refine And.intro ?_ ?_; first | omega | (simp only [Lay.d_n]; omega))
      rw [hN]
      exact fin1 (fun _ _ => rfl)
    · have h : (decide (97 ≤ c) && decide (c ≤ 102)) = false := h
      rw [if_neg (by rw [h]; simp)] at hN
      refine x_if (fun h => ?_) (fun h => ?_)
      · have h : (decide (65 ≤ c) && decide (c ≤ 70)) = true := h
        rw [if_pos h] at hN
        simp only [Bool.and_eq_true, decide_eq_true_eq] at h
        repeat (refine And.intro ?_ ?_; first | omega | (simp only [Lay.d_n]; omega))
        rw [hN]
        exact fin1 (fun _ _ => rfl)
      · have h : (decide (65 ≤ c) && decide (c ≤ 70)) = false := h
        rw [if_neg (by rw [h]; simp)] at hN
        rw [hN]
        exact fin1 (fun _ _ => rfl)
def runB (b : Int) : List Int → Nat
  | [] => 0
  | c :: r => if dg c < b then runB b r + 1 else 0
theorem runB_le (b : Int) : ∀ l : List Int, runB b l ≤ l.length
  | [] => Nat.le_refl 0
  | c :: r => by
    have := runB_le b r
    simp only [runB]
    split
    · simp only [List.length_cons]; omega
    · omega
def hexT (s : ByteArray) : Bool := (decide (2 ≤ (s.size : Int)) && decide (bt s 0 = 48)) && (decide (bt s 1 = 120) || decide (bt s 1 = 88))
theorem hexT_size {s : ByteArray} (h : hexT s = true) : 2 ≤ s.size := by
  unfold hexT at h
  simp only [Bool.and_eq_true, decide_eq_true_eq] at h
  have := h.1.1
  omega
set_option maxRecDepth 100000 in
theorem hexed_any (s : ByteArray) (w : World) (hs : s.size ≤ 9223372036854775807) : Calls Tryz.prog 34 #[.string s] w (PureP w fun v _ => v = .bool (hexT s)) := by
  refine x_fun tt_ok Tryz.func34 rfl rfl [] 0 [.v (.string s)] rfl rfl rfl rfl (fun b hb => by cases hb) ?_
  refine x_vc tt_ok ?_
  repeat (refine And.intro ?_ ?_; first | omega | (simp only [Lay.d_n]; omega) | (simp only [decide_eq_true_eq, decide_eq_false_iff_not, Bool.or_eq_false_iff, Bool.and_eq_true, Bool.or_eq_true, Bool.and_eq_false_iff, Bool.not_eq_true', Bool.not_eq_false', Lay.d_n]; omega) | (simp only [decide_eq_true_eq, decide_eq_false_iff_not, Bool.or_eq_false_iff, Bool.and_eq_true, Bool.or_eq_true, Bool.and_eq_false_iff, Bool.not_eq_true', Bool.not_eq_false']; omega))
  exact fin1 (fun _ _ => rfl)
set_option maxRecDepth 100000 in
theorem hex_any (s : ByteArray) (w : World) (hs : s.size ≤ 9223372036854775807) : Calls Tryz.prog 51 #[.string s] w (PureP w fun v _ => v = .bool (hexT s)) := by
  refine x_fun tt_ok Tryz.func51 rfl rfl [] 0 [.v (.string s)] rfl rfl rfl rfl (fun b hb => by cases hb) ?_
  refine x_vc tt_ok ?_
  repeat (refine And.intro ?_ ?_; first | omega | (simp only [Lay.d_n]; omega) | (simp only [decide_eq_true_eq, decide_eq_false_iff_not, Bool.or_eq_false_iff, Bool.and_eq_true, Bool.or_eq_true, Bool.and_eq_false_iff, Bool.not_eq_true', Bool.not_eq_false', Lay.d_n]; omega) | (simp only [decide_eq_true_eq, decide_eq_false_iff_not, Bool.or_eq_false_iff, Bool.and_eq_true, Bool.or_eq_true, Bool.and_eq_false_iff, Bool.not_eq_true', Bool.not_eq_false']; omega))
  refine fin1 (fun _ _ => ?_)
  unfold hexT
  rw [decide_eq_decide.2 (show (2 : Int) ≤ (s.size : Int) ↔ (1 : Int) < (s.size : Int) by omega)]
  rfl
end Go.Proofs.YtnjmkeijjapejaaGreatDoor
namespace Go.Proofs.YtnjmkeijjapejaaGreatDoor
open Go.GV Go.RowKit
def dgV (c : Int) : Value := .int .i64 (dg c)
set_option maxRecDepth 100000 in
theorem digits_iter (s : ByteArray) (b : Nat) (u0 : Im) (hb : u0.h b = some (.cells #[.string s] 9 (0, 0))) (hs : s.size ≤ 9223372036854775807) :
    Iter Tryz.prog 62 #[.pointer (some ⟨b, 0, none⟩)] ((bl s).map dgV) u0 := by
  refine x_iter tt_ok Tryz.func62 rfl rfl [(.slice (some ⟨b, 0, none⟩) 1 1, ⟨1, [fun _ => .string s]⟩)] [.e 1 1 0 0] (boxEnv b) (fun j x hj => ?_) rfl rfl (fun x hx => ?_) (fun x hx => ?_) (fun l Y Z u hu hR => ?_)
  · match j, hj with
    | 0, hj => cases hj; rfl
    | j + 1, hj => simp at hj
  · simp only [List.mem_singleton] at hx
    subst hx
    exact ⟨by simp, _, 1, 1, rfl, Int.le_refl _, by omega⟩
  · simp only [List.mem_singleton] at hx
    subst hx
    exact SlAt.box1 hb
  have hbl := bl_len s
  refine x_vc tt_ok ?_
  repeat (refine And.intro ?_ ?_; first | omega | (simp only [Lay.d_n]; omega))
  refine x_loop (σ := Nat) (fun k => ⟨[(6, .v (.int .i64 (k : Int))), (5, .v (.int .i64 s.size)), (0, .v (.func (.yield l) #[] #[])), (1, .e 1 1 0 0)], [], [(0, .gen (Y k).hp), (1, .sl ⟨1, [fun _ => .string s]⟩)], 2⟩)
    (fun k _ => k ≤ s.size) (fun k => s.size - k) (fun _ => Nat.le_refl _) 0 [] (.of rfl rfl rfl rfl rfl rfl) (Nat.zero_le _) ?_
  rintro k u2 hu2 g1
  refine x_vc tt_ok ?_
  refine x_if (fun h => ?_) (fun h => ?_)
  · have h2 : (k : Int) < s.size := of_decide_eq_true h
    have hbt := bt_range s k
    have hx : ((bl s).map dgV)[k]? = some (dgV (bt s k)) := by
      rw [List.getElem?_map, bl_get s (by omega)]; rfl
    repeat (refine And.intro ?_ ?_; first | omega | (simp only [Lay.d_n]; omega))
    refine xl_call0 (dgV (bt s k)) rfl rfl rfl rfl fn63 rfl rfl (fun E w F _ => dg_any _ w hbt.1 hbt.2) ?_
    refine xl_go tt_ok ?_
    refine xl_yield (kY := 0) rfl hR rfl rfl rfl rfl rfl rfl rfl rfl hx ?_ ?_
    · refine xl_go tt_ok ?_
      refine x_iff rfl ?_
      repeat (refine And.intro ?_ ?_; first | omega | (simp only [Lay.d_n]; omega))
      refine again (k + 1) [] (.of rfl rfl rfl rfl rfl rfl) (by omega) (by omega)
    · refine xl_go tt_ok ?_
      refine x_ift rfl ?_
      exact .inr rfl
  · have h2 : ¬ (k : Int) < s.size := of_decide_eq_false h
    have hk : ((bl s).map dgV).length = k := by rw [List.length_map, hbl]; omega
    exact .inl (by rw [hk]; rfl)
def DigitsFn (s : ByteArray) (v : Value) (u : Im) : Prop := ∃ b, v = .func (.func 62) #[] #[.pointer (some ⟨b, 0, none⟩)] ∧ u.h b = some (.cells #[.string s] 9 (0, 0))
set_option maxRecDepth 100000 in
theorem digitsFn_any (s : ByteArray) (w : World) : Calls Tryz.prog 36 #[.string s] w (PureP w (DigitsFn s)) := by
  refine x_fun tt_ok Tryz.func36 rfl rfl [] 0 [.v (.string s)] rfl rfl rfl rfl (fun b hb => by cases hb) ?_
  refine x_vc tt_ok ?_
  refine finP (fun E w' F hs hu => ?_)
  obtain ⟨b, h1, h2⟩ := hs.boxNew (k := 0) rfl hu
  refine ⟨b, ?_, h2⟩
  simp [SV.den, tupV, ptrOf, h1]
theorem runB_drop (b : Int) : ∀ (l : List Int) (k : Nat), k ≤ runB b l → runB b (l.drop k) + k = runB b l
  | l, 0, _ => by simp
  | [], k + 1, h => by simp [runB] at h
  | c :: r, k + 1, h => by
    simp only [runB] at h ⊢
    split at h
    · rename_i hc
      rw [if_pos hc]
      have := runB_drop b r k (by omega)
      rw [List.drop_succ_cons]; omega
    · omega
set_option maxRecDepth 100000 in
theorem run_any (s : ByteArray) (b : Int) (w : World) (hs : s.size ≤ 9223372036854775807) : Calls Tryz.prog 35 #[.string s, .int .i64 b] w (PureP w fun v _ => v = .int .i64 (runB b (bl s))) := by
  have hbl := bl_len s
  have hrl := runB_le b (bl s)
  refine x_fun tt_ok Tryz.func35 rfl rfl [] 0 [.v (.string s), .v (.int .i64 b)] rfl rfl rfl rfl (fun b hb => by cases hb) ?_
  refine x_vc tt_ok ?_
  refine xl_call _ rfl rfl rfl rfl fn36 rfl rfl (fun E w F _ => digitsFn_any s w) (fun v u1 u2 hu2 hs2 hv => ?_)
  obtain ⟨bk, rfl, hbk⟩ := hv
  have hb2 := of_sub_cut hs2 hbk
  refine xl_go tt_ok ?_
  refine x_range (σ := Unit × Nat) (τ := Unit) rfl fn62 (digits_iter s bk u2 hb2 hs) [(5, .p 1 0), (3, .p 0 0)]
    (fun (_, k) => [(0, .box 3 [.v (.int .i64 b)]), (1, .box 3 [.v (.int .i64 (k : Int))])]) (fun _ => 3) (fun k (_, n) _ => n = k ∧ k ≤ runB b (bl s))
    (fun _ => [(0, .box 3 [.v (.int .i64 b)]), (1, .box 3 [.v (.int .i64 (runB b (bl s) : Int))])]) (fun _ => 3) (fun _ e _ => e = .exit 0) ((), 0) [] (.of rfl rfl rfl rfl rfl rfl) ⟨rfl, Nat.zero_le _⟩ rfl
    (fun _ => rfl) (fun _ => rfl) (fun _ => by decide) (fun _ => by decide) rfl (fun l k x s' u3 Fr Fr' hx hu3 hg => ?_) (fun s' u3 hu3 hg => ?_) (fun _ e u3 hu3 hg => ?_)
  · obtain ⟨_, n⟩ := s'
    obtain ⟨rfl, hg⟩ := hg
    rw [List.getElem?_map] at hx
    obtain ⟨c, hc, rfl⟩ := Option.map_eq_some_iff.1 hx
    have hk : n < (bl s).length := (List.getElem?_eq_some_iff.1 hc).1
    have hd := runB_drop b (bl s) n hg
    rw [drop_get hc, runB] at hd
    refine x_vc tt_ok ?_
    refine ⟨rfl, rfl, x_vc tt_ok ?_⟩
    refine x_if (fun h1 => ?_) (fun h1 => ?_)
    · have h1 : b ≤ dg c := of_decide_eq_true h1
      rw [if_neg (by omega)] at hd
      have e : n = runB b (bl s) := by omega
      subst e
      exact ⟨(), [], .of rfl rfl rfl rfl rfl rfl, rfl⟩
    · have h1 : ¬ b ≤ dg c := of_decide_eq_false h1
      rw [if_pos (by omega)] at hd
      repeat (refine And.intro ?_ ?_; first | omega | (simp only [Lay.d_n]; omega))
      refine ⟨((), n + 1), [], .of rfl rfl rfl rfl rfl rfl, rfl, ?_⟩
      omega
  · obtain ⟨_, n⟩ := s'
    obtain ⟨rfl, hg⟩ := hg
    rw [List.length_map] at hg ⊢
    have e : (bl s).length = runB b (bl s) := by omega
    rw [e]
    exact fin1 (fun _ _ => rfl)
  · subst hg
    exact fin1 (fun _ _ => rfl)
set_option maxRecDepth 100000 in
theorem runR_any (s : ByteArray) (i b : Int) (w : World) (h0 : 0 ≤ i) (hb : b ≤ 16) (hs : (s.size : Int) + i ≤ 9223372036854775807) : Calls Tryz.prog 52 #[.string s, .int .i64 i, .int .i64 b] w (PureP w fun v _ => v = .int .i64 (runB b (tl s i))) := by
  have hN0 := runB_le b (tl s i)
  have htl := tl_len s i
  obtain ⟨N, hN⟩ : ∃ N, N = runB b (tl s i) := ⟨_, rfl⟩
  rw [← hN] at hN0 ⊢
  refine x_fun tt_ok Tryz.func52 rfl rfl [] 0 [.v (.string s), .v (.int .i64 i), .v (.int .i64 b)] rfl rfl rfl rfl (fun b hb => by cases hb) ?_
  refine x_vc tt_ok ?_
  refine x_loop (σ := Int) (fun k => ⟨[(7, .v (.int .i64 k)), (2, .v (.int .i64 b)), (1, .v (.int .i64 i)), (0, .v (.string s))], [], [], 0⟩)
    (fun k _ => 0 ≤ k ∧ k ≤ N ∧ (N : Int) = k + runB b (tl s (i + k))) (fun k => (N - k).toNat) (fun _ => Nat.le_refl _) 0 [] (.of rfl rfl rfl rfl rfl rfl)
    ⟨by omega, by omega, by rw [Int.add_zero, Int.zero_add, hN]⟩ ?_
  rintro k u hu ⟨g1, g2, g3⟩
  refine x_vc tt_ok ?_
  repeat (refine And.intro ?_ ?_; first | omega | (simp only [decide_eq_true_eq, decide_eq_false_iff_not, Bool.or_eq_false_iff, Lay.d_n]; omega))
  refine xl_gcall0 (.int .i64 (dgR (bt s (i + k)))) rfl rfl rfl rfl fn54 rfl rfl (fun hg E w F _ => dgR_any _ w (bt_range s _).1 (bt_range s _).2) ?_
  refine xl_go tt_ok ?_
  refine x_if (fun h => ?_) (fun h => ?_)
  · have h' : (decide (i + k < (s.size : Int)) && decide (dgR (bt s (i + k)) < b)) = true := h
    simp only [Bool.and_eq_true, decide_eq_true_eq] at h'
    rw [tl_cons (by omega) h'.1, runB, if_pos ((dgR_lt _ hb).1 h'.2)] at g3
    repeat (refine And.intro ?_ ?_; first | omega | (simp only [Lay.d_n]; omega))
    refine again (k + 1) [] (.of rfl rfl rfl rfl rfl rfl) ⟨by omega, by omega, ?_⟩ (by omega)
    rw [← Int.add_assoc]; omega
  · have h' : (decide (i + k < (s.size : Int)) && decide (dgR (bt s (i + k)) < b)) = false := h
    have e : (N : Int) = k := by
      rw [g3]
      by_cases h2 : i + k < s.size
      · rw [decide_eq_true h2, Bool.true_and] at h'
        have h3 := of_decide_eq_false h'
        rw [tl_cons (by omega) h2, runB, if_neg (fun hh => h3 ((dgR_lt _ hb).2 hh))]; omega
      · rw [tl_nil (by omega)]; simp [runB]
    rw [e]
    exact fin1 (fun _ _ => rfl)
end Go.Proofs.YtnjmkeijjapejaaGreatDoor
namespace Go.Proofs
open Go.Shelf
def Tryz.lays264_ren : Go.Shelf.Ren := ⟨fun | 264 => 37 | n => n, fun | 46 => 99 | 53 => 25 | n => n, fun | n => n⟩
theorem Tryz.lays264 : Go.Proofs.Lays.n264 Tryz.prog Tryz.lays264_ren := {
  mixed := by kernel_rfl
  f264 := Tryz.func37.trans (congrArg some (by kernel_rfl))
  t46 := Tryz.underlying99
  a46 := Tryz.isAgg99
  z46 := Tryz.sizeOf99
  v46 := Tryz.zeroValue99
  t53 := Tryz.underlying25
  a53 := Tryz.isAgg25
  z53 := Tryz.sizeOf25
  v53 := Tryz.zeroValue25 }
end Go.Proofs
namespace Go.Proofs.YtnjmkeijjapejaaGreatDoor
open Go.GV Go.RowKit
theorem mul64_any (x y : Int) (hx : 0 ≤ x) (hx1 : x < 18446744073709551616) (hy : 0 ≤ y) (hy1 : y < 18446744073709551616) (w : World) :
    Calls Tryz.prog 37 #[.int .u64 x, .int .u64 y] w (PureP w fun v _ => v = .tuple #[.int .u64 (x * y / 18446744073709551616), .int .u64 (x * y % 18446744073709551616)]) := by
  obtain ⟨a, rfl⟩ := Int.eq_ofNat_of_zero_le hx
  obtain ⟨b, rfl⟩ := Int.eq_ofNat_of_zero_le hy
  have h := pure_of (Any.bits_Mul64 Tryz.lays264 a b (by omega) (by omega) w)
  have e1 : ((a * b / 18446744073709551616 : Nat) : Int) = (a : Int) * b / 18446744073709551616 := by rw [Int.natCast_ediv, Int.natCast_mul]; rfl
  have e2 : ((a * b % 18446744073709551616 : Nat) : Int) = (a : Int) * b % 18446744073709551616 := by rw [Int.natCast_emod, Int.natCast_mul]; rfl
  rw [← e1, ← e2]
  exact h
theorem add64_run (x y : Int) (hx : 0 ≤ x) (hy : 0 ≤ y) (w : World) : (callFunc 38 #[.int .u64 x, .int .u64 y, .int .u64 0]).run Tryz.prog w = .ok (.value (.tuple #[.int .u64 ((x + y + 0) % 18446744073709551616), .int .u64 ((x + y + 0) / 18446744073709551616)])) w := by
  have h := run_callFunc_extern (args := #[.int .u64 x, .int .u64 y, .int .u64 0]) (w := w) Tryz.func38 (by kernel_rfl) (by kernel_rfl) (by kernel_rfl) (e := add64Entry) (by kernel_rfl)
  rw [h, run_add64 x y 0 hx hy (by omega) (by omega)]
  rfl
theorem xl_externN {C : Cx} {all : List Oper} {o : Oper} {r : List Oper} {Q : Post} {kn : Kn} {gk : List (Nat × (Gd × SV))} {ow : Go.GV.Own} {nx : Nat} {u : Im} {c : Call} {f d : Nat} {ss : List SV} (v : Value)
    (ho : o.op = .call c) (hgd : o.guard = none) (hd : o.dst = some d) (hfr : fresh C.N ⟨kn, gk, ow, nx⟩ d [] = true) (hc : c.callee = .value (.func f))
    (hargs : argsOf ⟨kn, gk, ow, nx⟩ [] c.args.toList = some ss) (hrun : ∀ E w, (callFunc f (ss.map (SV.den E)).toArray).run C.P w = .ok (.value v) w)
    (K : XL C all r Q ⟨(d, .v v) :: kn, gk, ow, nx⟩ u) : XL C all (o :: r) Q ⟨kn, gk, ow, nx⟩ u := by
  refine xl_val v hgd hd (fun c' hc' => by rw [ho] at hc'; cases hc') hfr (fun E a w hok => ?_) K
  have hgs : gs a.tmps [] := fun x hx => by cases hx
  obtain ⟨e1, e2⟩ := argsOf_sound hok.agr hgs hargs
  have e3 : c.args.map a.eval = (ss.map (SV.den E)).toArray := by
    apply Array.ext'
    simpa using e1
  have e4 : a.eval (.func f) = .func (.func f) #[] #[] := rfl
  simp [execOp, ho, resolve, hc, e4, Deferred.ofValue, invoke, e3, hrun]
end Go.Proofs.YtnjmkeijjapejaaGreatDoor
namespace Go.Proofs.YtnjmkeijjapejaaGreatDoor
open Go.GV Go.RowKit
def isU (c : Int) : Bool := decide (c = 117) || decide (c = 85)
def headU (s : ByteArray) : Bool := decide (0 < (s.size : Int)) && isU (bt s 0)
def lastU (s : ByteArray) : Bool := decide (0 < (s.size : Int)) && isU (bt s ((s.size : Int) - 1))
def sufR (s : ByteArray) : ByteArray × Bool := if headU s = true then (sub s 1 s.size, true) else if lastU s = true then (sub s 0 ((s.size : Int) - 1), true) else (s, false)
def isSuf (s : ByteArray) : Bool := decide (s = ⟨#[]⟩) || (decide (s = ⟨#[108]⟩) || (decide (s = ⟨#[108, 108]⟩) || (decide (s = ⟨#[76]⟩) || decide (s = ⟨#[76, 76]⟩))))
def sufO (s : ByteArray) : Bool := isSuf (sufR s).1
def sufU (s : ByteArray) : Bool := (sufR s).2
set_option maxRecDepth 100000 in
theorem suffix_any (s : ByteArray) (w : World) (hs : s.size ≤ 9223372036854775807) :
    Calls Tryz.prog 39 #[.string s] w (PureP w fun v _ => v = .tuple #[.bool (sufO s && sufU s), .bool (sufO s)]) := by
  refine x_fun tt_ok Tryz.func39 rfl rfl [] 0 [.v (.string s)] rfl rfl rfl rfl (fun b hb => by cases hb) ?_
  refine x_seq ?_
  refine x_vc tt_ok ?_
  refine x_cut (σ := ByteArray × Bool) (fun p => ⟨[(0, .v (.string p.1)), (2, .v (.bool p.2))], [], [], 0⟩) (fun p _ => sufR s = p) (fun _ => Nat.le_refl _) ?_ ?_
  · refine x_vc tt_ok ?_
    repeat (refine And.intro ?_ ?_; first | omega | (simp only [decide_eq_true_eq, decide_eq_false_iff_not, Bool.or_eq_false_iff, Lay.d_n]; omega))
    refine x_if (fun h => ?_) (fun h => ?_)
    · have h : headU s = true := h
      have e : sufR s = (sub s 1 s.size, true) := by unfold sufR; rw [if_pos h]
      unfold headU at h
      simp only [Bool.and_eq_true, decide_eq_true_eq] at h
      refine x_draw mix (by kernel_rfl) (xd_go tt_ok ?_)
      repeat (refine And.intro ?_ ?_; first | omega | (simp only [Lay.d_n]; omega))
      exact meet (sub s 1 s.size, true) [] (.of rfl rfl rfl rfl rfl rfl) e
    · have h : headU s = false := h
      repeat (refine And.intro ?_ ?_; first | omega | (simp only [decide_eq_true_eq, decide_eq_false_iff_not, Bool.or_eq_false_iff, Lay.d_n]; omega))
      refine x_if (fun h2 => ?_) (fun h2 => ?_)
      · have h2 : lastU s = true := h2
        have e : sufR s = (sub s 0 ((s.size : Int) - 1), true) := by unfold sufR; rw [if_neg (by rw [h]; simp), if_pos h2]
        unfold lastU at h2
        simp only [Bool.and_eq_true, decide_eq_true_eq] at h2
        refine x_draw mix (by kernel_rfl) (xd_go tt_ok ?_)
        repeat (refine And.intro ?_ ?_; first | omega | (simp only [Lay.d_n]; omega))
        exact meet (sub s 0 ((s.size : Int) - 1), true) [] (.of rfl rfl rfl rfl rfl rfl) e
      · have h2 : lastU s = false := h2
        have e : sufR s = (s, false) := by unfold sufR; rw [if_neg (by rw [h]; simp), if_neg (by rw [h2]; simp)]
        exact meet (s, false) [] (.of rfl rfl rfl rfl rfl rfl) e
  · rintro ⟨r, u⟩ u1 hu1 hr
    replace hr : sufR s = (r, u) := hr
    have e1 : sufO s = isSuf r := by unfold sufO; rw [hr]
    have e2 : sufU s = u := by unfold sufU; rw [hr]
    rw [e1, e2]
    refine x_vc tt_ok ?_
    refine x_if (fun h => ?_) (fun h => ?_)
    · have h := of_decide_eq_true h
      subst h
      refine x_ift rfl ?_
      exact fin1 (fun _ _ => rfl)
    · have h1 := of_decide_eq_false h
      refine x_if (fun h => ?_) (fun h => ?_)
      · have h := of_decide_eq_true h
        subst h
        refine x_ift rfl ?_
        exact fin1 (fun _ _ => rfl)
      · have h2 := of_decide_eq_false h
        refine x_if (fun h => ?_) (fun h => ?_)
        · have h := of_decide_eq_true h
          subst h
          refine x_ift rfl ?_
          exact fin1 (fun _ _ => rfl)
        · have h3 := of_decide_eq_false h
          refine x_if (fun h => ?_) (fun h => ?_)
          · have h := of_decide_eq_true h
            subst h
            refine x_ift rfl ?_
            exact fin1 (fun _ _ => rfl)
          · have h4 := of_decide_eq_false h
            refine x_if (fun h => ?_) (fun h => ?_)
            · have h := of_decide_eq_true h
              subst h
              exact fin1 (fun _ _ => rfl)
            · have h5 := of_decide_eq_false h
              have e3 : isSuf r = false := by unfold isSuf; rw [decide_eq_false h1, decide_eq_false h2, decide_eq_false h3, decide_eq_false h4, decide_eq_false h5]; rfl
              rw [e3]
              exact fin1 (fun _ _ => rfl)
set_option maxRecDepth 100000 in
theorem suffixR_any (s : ByteArray) (w : World) (hs : s.size ≤ 9223372036854775807) :
    Calls Tryz.prog 53 #[.string s] w (PureP w fun v _ => v = .tuple #[.bool (sufO s), .bool (sufU s)]) := by
  refine x_fun tt_ok Tryz.func53 rfl rfl [] 0 [.v (.string s)] rfl rfl rfl rfl (fun b hb => by cases hb) ?_
  iterate 3
    refine x_seq ?_
    refine x_vc tt_ok ?_
  refine x_cut (σ := ByteArray × Bool) (fun p => ⟨[(5, .v (.string p.1)), (4, .v (.int .i64 (if p.2 then 1 else 0)))], [], [], 0⟩) (fun p _ => sufR s = p) (fun _ => Nat.le_refl _) ?_ ?_
  · refine x_vc tt_ok ?_
    repeat (refine And.intro ?_ ?_; first | omega | (simp only [decide_eq_true_eq, decide_eq_false_iff_not, Bool.or_eq_false_iff, Lay.d_n]; omega))
    refine x_if (fun h => ?_) (fun h => ?_)
    · have h : headU s = true := h
      have e : sufR s = (sub s 1 s.size, true) := by unfold sufR; rw [if_pos h]
      unfold headU at h
      simp only [Bool.and_eq_true, decide_eq_true_eq] at h
      repeat (refine And.intro ?_ ?_; first | omega | (simp only [Lay.d_n]; omega))
      exact meet (sub s 1 s.size, true) [] (.of rfl rfl rfl rfl rfl rfl) e
    · have h : headU s = false := h
      repeat (refine And.intro ?_ ?_; first | omega | (simp only [decide_eq_true_eq, decide_eq_false_iff_not, Bool.or_eq_false_iff, Lay.d_n]; omega))
      refine x_if (fun h2 => ?_) (fun h2 => ?_)
      · have h2 : lastU s = true := h2
        have e : sufR s = (sub s 0 ((s.size : Int) - 1), true) := by unfold sufR; rw [if_neg (by rw [h]; simp), if_pos h2]
        unfold lastU at h2
        simp only [Bool.and_eq_true, decide_eq_true_eq] at h2
        repeat (refine And.intro ?_ ?_; first | omega | (simp only [Lay.d_n]; omega))
        exact meet (sub s 0 ((s.size : Int) - 1), true) [] (.of rfl rfl rfl rfl rfl rfl) e
      · have h2 : lastU s = false := h2
        have e : sufR s = (s, false) := by unfold sufR; rw [if_neg (by rw [h]; simp), if_neg (by rw [h2]; simp)]
        exact meet (s, false) [] (.of rfl rfl rfl rfl rfl rfl) e
  · rintro ⟨r, u⟩ u1 hu1 hr
    replace hr : sufR s = (r, u) := hr
    have e1 : sufO s = isSuf r := by unfold sufO; rw [hr]
    have e2 : sufU s = u := by unfold sufU; rw [hr]
    rw [e1, e2]
    refine x_vc tt_ok ?_
    refine fin1 (fun _ _ => ?_)
    show Value.tuple #[.bool ((((decide (r = ⟨#[]⟩) || decide (r = ⟨#[108]⟩)) || decide (r = ⟨#[76]⟩)) || decide (r = ⟨#[108, 108]⟩)) || decide (r = ⟨#[76, 76]⟩)), .bool (decide ((if u then (1 : Int) else 0) = 1))] = _
    have e3 : ((((decide (r = ⟨#[]⟩) || decide (r = ⟨#[108]⟩)) || decide (r = ⟨#[76]⟩)) || decide (r = ⟨#[108, 108]⟩)) || decide (r = ⟨#[76, 76]⟩)) = isSuf r := by
      unfold isSuf
      generalize decide (r = ⟨#[]⟩) = a
      generalize decide (r = ⟨#[108]⟩) = b
      generalize decide (r = ⟨#[76]⟩) = c
      generalize decide (r = ⟨#[108, 108]⟩) = d
      generalize decide (r = ⟨#[76, 76]⟩) = e
      cases a <;> cases b <;> cases c <;> cases d <;> cases e <;> rfl
    rw [e3]
    cases u <;> rfl
end Go.Proofs.YtnjmkeijjapejaaGreatDoor
namespace Go.Proofs.YtnjmkeijjapejaaGreatDoor
open Go.GV Go.RowKit
def baseT (s : ByteArray) : Int := if hexT s = true then 16 else if (decide (s ≠ ⟨#[]⟩) && decide (bt s 0 = 48)) = true then 8 else 10
def rstT (s : ByteArray) : ByteArray := if hexT s = true then sub s 2 s.size else s
def atT (s : ByteArray) : Int := if hexT s = true then 2 else 0
def nT (s : ByteArray) : Nat := runB (baseT s) (tl s (atT s))
def valF (b : Int) : Int → List Int → Option Int
  | v, [] => some v
  | v, c :: r => if v * b + dg c < 18446744073709551616 then valF b (v * b + dg c) r else none
def intC (s : ByteArray) : Option (Int × Bool) :=
  if nT s = 0 then none
  else match valF (baseT s) 0 ((tl s (atT s)).take (nT s)) with
    | none => none
    | some v => if (!sufO (sub s (atT s + nT s) s.size) || (decide (baseT s = 10) && decide (9223372036854775807 < v) && !sufU (sub s (atT s + nT s) s.size))) = true then none
      else some (v, sufU (sub s (atT s + nT s) s.size) || decide (9223372036854775807 < v))
def intV (s : ByteArray) : Int × Bool × Int := match intC s with
  | none => (0, false, 40)
  | some (v, u) => (v, u, 0)
theorem baseT_range (s : ByteArray) : 8 ≤ baseT s ∧ baseT s ≤ 16 := by
  unfold baseT
  (repeat' split) <;> omega
theorem atT_range (s : ByteArray) : 0 ≤ atT s ∧ atT s ≤ s.size := by
  unfold atT
  split
  · rename_i h
    have := hexT_size h
    omega
  · omega
theorem bl_rstT (s : ByteArray) : bl (rstT s) = tl s (atT s) := by
  unfold rstT atT
  split
  · rename_i h
    have := hexT_size h
    exact bl_rest s (by omega) (by omega)
  · rfl
theorem rstT_size (s : ByteArray) : ((rstT s).size : Int) = s.size - atT s := by
  have h1 := bl_len (rstT s)
  rw [bl_rstT, tl_len] at h1
  have := atT_range s
  omega
theorem nT_le (s : ByteArray) : (nT s : Int) ≤ s.size - atT s := by
  have h1 := runB_le (baseT s) (tl s (atT s))
  rw [tl_len] at h1
  have := atT_range s
  unfold nT
  omega
theorem rest_eq (s : ByteArray) : sub (rstT s) (nT s) (rstT s).size = sub s (atT s + nT s) s.size := by
  have h1 := rstT_size s
  have h2 := nT_le s
  have h3 := atT_range s
  refine bl_inj ?_
  rw [bl_rest _ (by omega) (by omega), bl_rest _ (by omega) (by omega)]
  unfold tl
  rw [bl_rstT]
  unfold tl
  rw [List.drop_drop, show (atT s + (nT s : Int)).toNat = (atT s).toNat + ((nT s : Int)).toNat by omega]
theorem digs_eq (s : ByteArray) : bl (sub (rstT s) 0 (nT s)) = (tl s (atT s)).take (nT s) := by
  have h1 := rstT_size s
  have h2 := nT_le s
  rw [bl_sub _ (by omega) (by omega) (by omega), tl_zero, bl_rstT]
  rw [show ((nT s : Int) - 0).toNat = nT s by omega]
theorem runB_take_lt (b : Int) : ∀ (l : List Int), ∀ c ∈ l.take (runB b l), dg c < b
  | [], c, hc => by simp at hc
  | x :: r, c, hc => by
    simp only [runB] at hc
    split at hc
    · rename_i hx
      rw [List.take_succ_cons] at hc
      rcases List.mem_cons.1 hc with rfl | hc
      · exact hx
      · exact runB_take_lt b r c hc
    · simp at hc
set_option maxRecDepth 100000 in
theorem int_any (s : ByteArray) (w : World) (hs : s.size ≤ 9223372036854775807) :
    Calls Tryz.prog 17 #[.string s] w (PureP w fun v _ => v = .tuple #[.int .u64 (intV s).1, .bool (intV s).2.1, .int .i64 (intV s).2.2]) := by
  have hrs := rstT_size s
  have hat := atT_range s
  have hnl := nT_le s
  have hbr := baseT_range s
  have hdg := digs_eq s
  have hre := rest_eq s
  have herr : intC s = none → intV s = (0, false, 40) := fun h => by unfold intV; rw [h]
  have hok : ∀ v u, intC s = some (v, u) → intV s = (v, u, 0) := fun v u h => by unfold intV; rw [h]
  refine x_fun tt_ok Tryz.func17 rfl rfl [] 0 [.v (.string s)] rfl rfl rfl rfl (fun b hb => by cases hb) ?_
  iterate 2
    refine x_seq ?_
    refine x_vc tt_ok ?_
  refine x_cut (σ := Unit) (fun _ => ⟨[(6, .v (.string (rstT s))), (5, .p 3 0), (4, .p 2 0), (3, .p 1 0), (2, .p 0 0)], [], [(0, .box 25 [.v (.int .u64 0)]), (1, .box 4 [.v (.bool false)]), (2, .box 26 [.v (.int .i64 0)]), (3, .box 3 [.v (.int .i64 (baseT s))])], 4⟩) (fun _ _ => True) (fun _ => Nat.le_refl _) ?_ ?_
  · refine x_vc tt_ok ?_
    refine xl_call0 (.bool (hexT s)) rfl rfl rfl rfl fn34 rfl rfl (fun E w F _ => hexed_any s w hs) ?_
    refine xl_go tt_ok ?_
    refine x_if (fun h => ?_) (fun h => ?_)
    · have h : hexT s = true := h
      have h2 := hexT_size h
      have e1 : baseT s = 16 := by unfold baseT; rw [if_pos h]
      have e2 : rstT s = sub s 2 s.size := by unfold rstT; rw [if_pos h]
      refine x_drawA mix ?_
      refine xa_pures tt_ok (fuel := 3) [0] rfl (by kernel_rfl) (by kernel_rfl) (fun _ _ _ hh => hh) (by kernel_rfl) (by kernel_rfl) ?_
      rw [e1, e2]
      refine xa_two 1 2 (by kernel_rfl) rfl rfl (xl_go tt_ok ?_) (xl_go tt_ok ?_)
      · repeat (refine And.intro ?_ ?_; first | omega | (simp only [Lay.d_n]; omega))
        refine xa_chain (fuel := 0) [2, 3] rfl rfl (by kernel_rfl) (xl_go tt_ok ?_)
        refine xa_done (by kernel_rfl) rfl ?_
        exact meet () [] (.of rfl rfl rfl rfl rfl rfl) trivial
      · refine xa_chain (fuel := 0) [1, 3] rfl rfl (by kernel_rfl) (xl_go tt_ok ?_)
        repeat (refine And.intro ?_ ?_; first | omega | (simp only [Lay.d_n]; omega))
        refine xa_done (by kernel_rfl) rfl ?_
        exact meet () [] (.of rfl rfl rfl rfl rfl rfl) trivial
    · have h : hexT s = false := h
      have e2 : rstT s = s := by unfold rstT; rw [if_neg (by rw [h]; simp)]
      have e1 : baseT s = if (decide (s ≠ ⟨#[]⟩) && decide (bt s 0 = 48)) = true then 8 else 10 := by unfold baseT; rw [if_neg (by rw [h]; simp)]
      have hne : s ≠ ⟨#[]⟩ → 0 < s.size := fun hn => by
        rcases Nat.eq_zero_or_pos s.size with h0 | h0
        · exact absurd (ByteArray.size_eq_zero_iff.1 h0) hn
        · exact h0
      refine And.intro (fun _ => Int.le_refl 0) ?_
      refine And.intro (fun h => ?_) ?_
      · have := hne (of_decide_eq_true h); omega
      refine x_if (fun h => ?_) (fun h => ?_)
      · have h : (decide (s ≠ ⟨#[]⟩) && decide (bt s 0 = 48)) = true := h
        rw [if_pos h] at e1
        rw [e1, e2]
        exact meet () [] (.of rfl rfl rfl rfl rfl rfl) trivial
      · have h : (decide (s ≠ ⟨#[]⟩) && decide (bt s 0 = 48)) = false := h
        rw [if_neg (by rw [h]; simp)] at e1
        rw [e1, e2]
        exact meet () [] (.of rfl rfl rfl rfl rfl rfl) trivial
  · rintro _ u1 hu1 _
    refine x_vc tt_ok ?_
    refine xl_call0 (.int .i64 (nT s)) rfl rfl rfl rfl fn35 rfl rfl (fun E w F _ => by unfold nT; rw [← bl_rstT]; exact run_any _ _ w (by omega)) ?_
    refine xl_go tt_ok ?_
    refine x_if (fun h => ?_) (fun h => ?_)
    · have h := of_decide_eq_true h
      rw [herr (by unfold intC; rw [if_pos (by omega)])]
      exact fin1 (fun _ _ => rfl)
    · have h : ¬ ((nT s : Nat) : Int) = 0 := of_decide_eq_false h
      have e1 : intC s = match valF (baseT s) 0 ((tl s (atT s)).take (nT s)) with
        | none => none
        | some v => if (!sufO (sub s (atT s + nT s) s.size) || (decide (baseT s = 10) && decide (9223372036854775807 < v) && !sufU (sub s (atT s + nT s) s.size))) = true then none
          else some (v, sufU (sub s (atT s + nT s) s.size) || decide (9223372036854775807 < v)) := by
        unfold intC; rw [if_neg (by omega)]
      repeat (refine And.intro ?_ ?_; first | omega | (simp only [Lay.d_n]; omega))
      refine xl_call _ rfl rfl rfl rfl fn36 rfl rfl (fun E w F _ => digitsFn_any _ w) (fun v u2 u3 hu3 hs3 hv => ?_)
      obtain ⟨bk, rfl, hbk⟩ := hv
      have hb3 := of_sub_cut hs3 hbk
      have hin := digits_iter (sub (rstT s) 0 (nT s)) bk u3 hb3 (by have := sub_size (s := rstT s) (a := 0) (b := (nT s : Int)) (by omega) (by omega) (by omega); omega)
      rw [hdg] at hin
      have hdl := runB_take_lt (baseT s) (tl s (atT s))
      change ∀ c ∈ (tl s (atT s)).take (nT s), dg c < baseT s at hdl
      refine xl_go tt_ok ?_
      generalize (tl s (atT s)).take (nT s) = D at hin hdl e1
      generalize hb : baseT s = b at *
      refine x_range (σ := Int) (τ := Unit) rfl fn62 hin [(7, .v (.int .i64 (nT s))), (6, .v (.string (rstT s))), (5, .p 3 0), (4, .p 2 0), (3, .p 1 0), (2, .p 0 0)]
        (fun v => [(0, .box 25 [.v (.int .u64 v)]), (1, .box 4 [.v (.bool false)]), (2, .box 26 [.v (.int .i64 0)]), (3, .box 3 [.v (.int .i64 b)])]) (fun _ => 5)
        (fun k v _ => 0 ≤ v ∧ v < 18446744073709551616 ∧ valF b 0 D = valF b v (D.drop k))
        (fun _ => [(0, .box 25 [.v (.int .u64 0)]), (1, .box 4 [.v (.bool false)]), (2, .box 26 [.v (.int .i64 40)]), (3, .box 3 [.v (.int .i64 b)])]) (fun _ => 5)
        (fun _ e _ => e = .ret ∧ valF b 0 D = none) 0 [] (.of rfl rfl rfl rfl rfl rfl) ⟨by omega, by omega, rfl⟩ rfl
        (fun _ => rfl) (fun _ => rfl) (fun _ => by decide) (fun _ => by decide) rfl (fun l k x v u4 Fr Fr' hx hu4 hg => ?_) (fun v u4 hu4 hg => ?_) (fun _ e u4 hu4 hg => ?_)
      · obtain ⟨g0, g1, g2⟩ := hg
        rw [List.getElem?_map] at hx
        obtain ⟨c, hc, rfl⟩ := Option.map_eq_some_iff.1 hx
        have hcd := hdl c (List.mem_of_getElem? hc)
        have hcr := dg_range c
        rw [drop_get hc, valF] at g2
        refine x_vc tt_ok ?_
        refine ⟨rfl, rfl, x_vc tt_ok ?_⟩
        repeat (refine And.intro ?_ ?_; first | omega | (simp only [Lay.d_n]; omega))
        refine xl_call0 (.tuple #[.int .u64 (v * b / 18446744073709551616), .int .u64 (v * b % 18446744073709551616)]) rfl rfl rfl rfl fn37 rfl rfl (fun E w F _ => mul64_any v b g0 g1 (by omega) (by omega) w) ?_
        refine xl_go tt_ok ?_
        repeat (refine And.intro ?_ ?_; first | omega | (simp only [Lay.d_n]; omega))
        refine xl_externN (.tuple #[.int .u64 ((v * b % 18446744073709551616 + dg c + 0) % 18446744073709551616), .int .u64 ((v * b % 18446744073709551616 + dg c + 0) / 18446744073709551616)]) rfl rfl rfl rfl rfl rfl (fun E w => add64_run _ _ (by omega) (by omega) w) ?_
        refine xl_go tt_ok ?_
        have hvb : 0 ≤ v * b := Int.mul_nonneg g0 (by omega)
        refine x_if (fun h1 => ?_) (fun h1 => ?_)
        · have h1 : (decide (v * b / 18446744073709551616 ≠ 0) || decide ((v * b % 18446744073709551616 + dg c + 0) / 18446744073709551616 ≠ 0)) = true := h1
          simp only [Bool.or_eq_true, decide_eq_true_eq] at h1
          rw [if_neg (by omega)] at g2
          exact ⟨(), [], .of rfl rfl rfl rfl rfl rfl, rfl, g2⟩
        · have h1 : (decide (v * b / 18446744073709551616 ≠ 0) || decide ((v * b % 18446744073709551616 + dg c + 0) / 18446744073709551616 ≠ 0)) = false := h1
          simp only [Bool.or_eq_false_iff, decide_eq_false_iff_not, Classical.not_not] at h1
          rw [if_pos (by omega), show v * b + dg c = (v * b % 18446744073709551616 + dg c + 0) % 18446744073709551616 by omega] at g2
          exact ⟨(v * b % 18446744073709551616 + dg c + 0) % 18446744073709551616, [], .of rfl rfl rfl rfl rfl rfl, by omega, by omega, g2⟩
      · obtain ⟨g0, g1, g2⟩ := hg
        rw [List.length_map, List.drop_length, valF] at g2
        rw [g2] at e1
        repeat (refine And.intro ?_ ?_; first | omega | (simp only [Lay.d_n]; omega))
        refine xl_call0 (.tuple #[.bool (sufO (sub s (atT s + nT s) s.size) && sufU (sub s (atT s + nT s) s.size)), .bool (sufO (sub s (atT s + nT s) s.size))]) rfl rfl rfl rfl fn39 rfl rfl (fun E w F _ => by rw [← hre]; exact suffix_any _ w (by have := sub_size (s := rstT s) (a := (nT s : Int)) (b := (rstT s).size) (by omega) (by omega) (by omega); omega)) ?_
        refine xl_go tt_ok ?_
        generalize sufO (sub s (atT s + nT s) s.size) = o at *
        generalize sufU (sub s (atT s + nT s) s.size) = q at *
        refine x_if (fun h1 => ?_) (fun h1 => ?_)
        · have h1 : (!o || (decide (b = 10) && decide (9223372036854775807 < v) && !(o && q))) = true := h1
          have e2 : intC s = none := by
            rw [e1]
            simp only
            rw [if_pos]
            cases o with
            | false => rfl
            | true => simpa using h1
          rw [herr e2]
          exact fin1 (fun _ _ => rfl)
        · have h1 : (!o || (decide (b = 10) && decide (9223372036854775807 < v) && !(o && q))) = false := h1
          have ho : o = true := by
            cases o with
            | false => simp at h1
            | true => rfl
          subst ho
          have e2 : intC s = some (v, q || decide (9223372036854775807 < v)) := by
            rw [e1]
            simp only
            rw [if_neg]
            simpa using h1
          rw [hok _ _ e2]
          exact fin1 (fun _ _ => rfl)
      · obtain ⟨rfl, hg⟩ := hg
        rw [hg] at e1
        rw [herr e1]
        exact fin1 (fun _ _ => rfl)
end Go.Proofs.YtnjmkeijjapejaaGreatDoor
namespace Go.Proofs.YtnjmkeijjapejaaGreatDoor
open Go.GV Go.RowKit
set_option maxRecDepth 100000 in
theorem intR_any (s : ByteArray) (w : World) (hs : s.size ≤ 140737488355328) :
    Calls Tryz.prog 24 #[.string s] w (PureP w fun v _ => v = .tuple #[.int .u64 (intV s).1, .bool (intV s).2.1, .int .i64 (intV s).2.2]) := by
  have hat := atT_range s
  have hnl := nT_le s
  have hbr := baseT_range s
  have herr : intC s = none → intV s = (0, false, 40) := fun h => by unfold intV; rw [h]
  have hok : ∀ v u, intC s = some (v, u) → intV s = (v, u, 0) := fun v u h => by unfold intV; rw [h]
  refine x_fun tt_ok Tryz.func24 rfl rfl [] 0 [.v (.string s)] rfl rfl rfl rfl (fun b hb => by cases hb) ?_
  iterate 3
    refine x_seq ?_
    refine x_vc tt_ok ?_
  refine x_cut (σ := Unit) (fun _ => ⟨[(6, .v (.int .i64 (atT s))), (5, .v (.int .i64 (baseT s))), (0, .v (.string s))], [], [], 0⟩) (fun _ _ => True) (fun _ => Nat.le_refl _) ?_ ?_
  · refine x_vc tt_ok ?_
    refine xl_call0 (.bool (hexT s)) rfl rfl rfl rfl fn51 rfl rfl (fun E w F _ => hex_any s w (by omega)) ?_
    refine xl_go tt_ok ?_
    refine x_if (fun h => ?_) (fun h => ?_)
    · have h : hexT s = true := h
      have e1 : baseT s = 16 := by unfold baseT; rw [if_pos h]
      have e2 : atT s = 2 := by unfold atT; rw [if_pos h]
      rw [e1, e2]
      exact meet () [] (.of rfl rfl rfl rfl rfl rfl) trivial
    · have h : hexT s = false := h
      have e2 : atT s = 0 := by unfold atT; rw [if_neg (by rw [h]; simp)]
      have e1 : baseT s = if (decide (s ≠ ⟨#[]⟩) && decide (bt s 0 = 48)) = true then 8 else 10 := by unfold baseT; rw [if_neg (by rw [h]; simp)]
      have hne : decide (s ≠ ⟨#[]⟩) = decide (0 < (s.size : Int)) := decide_eq_decide.2 ⟨fun hn => by
        rcases Nat.eq_zero_or_pos s.size with h0 | h0
        · exact absurd (ByteArray.size_eq_zero_iff.1 h0) hn
        · omega, fun hp hn => by rw [hn] at hp; exact absurd hp (by decide)⟩
      rw [hne] at e1
      repeat (refine And.intro ?_ ?_; first | omega | (simp only [decide_eq_true_eq, decide_eq_false_iff_not, Bool.or_eq_false_iff, Lay.d_n]; omega))
      refine x_if (fun h => ?_) (fun h => ?_)
      · have h : (decide (0 < (s.size : Int)) && decide (bt s 0 = 48)) = true := h
        rw [if_pos h] at e1
        rw [e1, e2]
        exact meet () [] (.of rfl rfl rfl rfl rfl rfl) trivial
      · have h : (decide (0 < (s.size : Int)) && decide (bt s 0 = 48)) = false := h
        rw [if_neg (by rw [h]; simp)] at e1
        rw [e1, e2]
        exact meet () [] (.of rfl rfl rfl rfl rfl rfl) trivial
  · rintro _ u1 hu1 _
    refine x_vc tt_ok ?_
    refine xl_call0 (.int .i64 (nT s)) rfl rfl rfl rfl fn52 rfl rfl (fun E w F _ => runR_any s (atT s) (baseT s) w (by omega) (by omega) (by omega)) ?_
    refine xl_go tt_ok ?_
    repeat (refine And.intro ?_ ?_; first | omega | (simp only [Lay.d_n]; omega))
    refine xl_min rfl rfl rfl rfl rfl rfl ?_
    rw [show (if atT s + (nT s : Int) < (s.size : Int) then atT s + (nT s : Int) else (s.size : Int)) = atT s + nT s by split <;> omega]
    refine xl_go tt_ok ?_
    repeat (refine And.intro ?_ ?_; first | omega | (simp only [Lay.d_n]; omega))
    refine xl_call0 (.tuple #[.bool (sufO (sub s (atT s + nT s) s.size)), .bool (sufU (sub s (atT s + nT s) s.size))]) rfl rfl rfl rfl fn53 rfl rfl (fun E w F _ => suffixR_any _ w (by have := sub_size (s := s) (a := atT s + (nT s : Int)) (b := s.size) (by omega) (by omega) (by omega); omega)) ?_
    refine xl_go tt_ok ?_
    have e1 : intC s = if nT s = 0 then none else match valF (baseT s) 0 ((tl s (atT s)).take (nT s)) with
        | none => none
        | some v => if (!sufO (sub s (atT s + nT s) s.size) || (decide (baseT s = 10) && decide (9223372036854775807 < v) && !sufU (sub s (atT s + nT s) s.size))) = true then none
          else some (v, sufU (sub s (atT s + nT s) s.size) || decide (9223372036854775807 < v)) := rfl
    generalize sufO (sub s (atT s + nT s) s.size) = o at *
    generalize sufU (sub s (atT s + nT s) s.size) = q at *
    refine x_if (fun h => ?_) (fun h => ?_)
    · have h : (decide ((nT s : Int) = 0) || !o) = true := h
      have e2 : intC s = none := by
        rw [e1]
        by_cases hn : nT s = 0
        · rw [if_pos hn]
        · rw [if_neg hn]
          rw [decide_eq_false (by omega), Bool.false_or] at h
          split
          · rfl
          · rw [if_pos (by rw [h]; rfl)]
      rw [herr e2]
      exact fin1 (fun _ _ => rfl)
    · have h : (decide ((nT s : Int) = 0) || !o) = false := h
      simp only [Bool.or_eq_false_iff, decide_eq_false_iff_not, Bool.not_eq_false'] at h
      obtain ⟨hn, ho⟩ := h
      subst ho
      rw [if_neg (by omega)] at e1
      have hD : ∀ k : Nat, k < nT s → ((tl s (atT s)).take (nT s))[k]? = some (bt s (atT s + k)) := fun k hk => by
        rw [List.getElem?_take_of_lt hk]
        unfold tl
        rw [List.getElem?_drop, show atT s + (k : Int) = (((atT s).toNat + k : Nat) : Int) by omega]
        exact bl_get s (by omega)
      have hdl := runB_take_lt (baseT s) (tl s (atT s))
      change ∀ c ∈ (tl s (atT s)).take (nT s), dg c < baseT s at hdl
      have hDl : ((tl s (atT s)).take (nT s)).length = nT s := by rw [List.length_take, tl_len]; omega
      generalize (tl s (atT s)).take (nT s) = D at hD hDl hdl e1
      refine x_loop (σ := Int × Int) (fun (i, v) => ⟨[(11, .v (.int .i64 i)), (10, .v (.int .u64 v)), (9, .v (.bool q)), (7, .v (.int .i64 (nT s))), (6, .v (.int .i64 (atT s))), (5, .v (.int .i64 (baseT s))), (0, .v (.string s))], [], [], 0⟩)
        (fun (i, v) _ => atT s ≤ i ∧ i ≤ atT s + nT s ∧ 0 ≤ v ∧ v < 18446744073709551616 ∧ valF (baseT s) 0 D = valF (baseT s) v (D.drop (i - atT s).toNat)) (fun (i, _) => (atT s + nT s - i).toNat) (fun (_, _) => Nat.le_refl _) (atT s, 0) [] (.of rfl rfl rfl rfl rfl rfl)
        ⟨by omega, by omega, by omega, by omega, by rw [Int.sub_self]; rfl⟩ ?_
      rintro ⟨i, v⟩ u2 hu2 ⟨g4, g0, g1, g2, g3⟩
      obtain ⟨k, hk0⟩ : ∃ k : Nat, i = atT s + k := ⟨(i - atT s).toNat, by omega⟩
      rw [show (i - atT s).toNat = k by omega] at g3
      refine x_vc tt_ok ?_
      repeat (refine And.intro ?_ ?_; first | omega | (simp only [Lay.d_n]; omega))
      refine x_if (fun h3 => ?_) (fun h3 => ?_)
      · have h3 : i < atT s + nT s := of_decide_eq_true h3
        have hk := hD k (by omega)
        rw [← hk0] at hk
        have hcd := hdl _ (List.mem_of_getElem? hk)
        have hcr := dg_range (bt s i)
        have hbt := bt_range s i
        rw [drop_get hk, valF] at g3
        repeat (refine And.intro ?_ ?_; first | omega | (simp only [Lay.d_n]; omega))
        refine xl_call0 (.int .i64 (dg (bt s i))) rfl rfl rfl rfl fn54 rfl rfl (fun E w F _ => by
          have := dgR_any (bt s i) w hbt.1 hbt.2
          rw [dgR_eq (by omega) hcd] at this
          exact this) ?_
        refine xl_go tt_ok ?_
        generalize dg (bt s i) = d at *
        generalize baseT s = b at *
        have hvb : 0 ≤ v * b := Int.mul_nonneg g1 (by omega)
        have hq0 : 0 ≤ (18446744073709551615 - d) / b := Int.ediv_nonneg (by omega) (by omega)
        have hq1 : (18446744073709551615 - d) / b ≤ 18446744073709551615 - d := Int.ediv_le_self _ (by omega)
        have hq2 : (18446744073709551615 - d) / b < v ↔ 18446744073709551615 - d < v * b := Int.ediv_lt_iff_lt_mul (by omega)
        repeat (refine And.intro ?_ ?_; first | omega | (simp only [Lay.d_n]; omega))
        refine x_if (fun h5 => ?_) (fun h5 => ?_)
        · have h5 : (18446744073709551615 - d) / b < v := of_decide_eq_true h5
          rw [if_neg (by omega)] at g3
          rw [g3] at e1
          rw [herr e1]
          exact fin1 (fun _ _ => rfl)
        · have h5 : ¬ (18446744073709551615 - d) / b < v := of_decide_eq_false h5
          rw [if_pos (by omega)] at g3
          repeat (refine And.intro ?_ ?_; first | omega | (simp only [Lay.d_n]; omega))
          refine again (i + 1, v * b + d) [] (.of rfl rfl rfl rfl rfl rfl) ⟨by omega, by omega, by omega, by omega, ?_⟩ (by simp only; omega)
          rw [show (i + 1 - atT s).toNat = k + 1 by omega]
          exact g3
      · have h3 : ¬ i < atT s + nT s := of_decide_eq_false h3
        rw [List.drop_eq_nil_of_le (by omega), valF] at g3
        rw [g3] at e1
        repeat (refine And.intro ?_ ?_; first | omega | (simp only [Lay.d_n]; omega))
        refine x_if (fun h5 => ?_) (fun h5 => ?_)
        · have h5 : ((decide (baseT s = 10) && !q) && decide (9223372036854775807 < v)) = true := h5
          have e2 : intC s = none := by
            rw [e1]
            simp only [Bool.and_eq_true] at h5
            obtain ⟨⟨h6, h7⟩, h8⟩ := h5
            simp only
            rw [if_pos (by rw [h6, h7, h8]; rfl)]
          rw [herr e2]
          exact fin1 (fun _ _ => rfl)
        · have h5 : ((decide (baseT s = 10) && !q) && decide (9223372036854775807 < v)) = false := h5
          have e2 : intC s = some (v, q || decide (9223372036854775807 < v)) := by
            rw [e1]
            simp only
            rw [if_neg]
            intro h6
            simp only [Bool.not_true, Bool.false_or, Bool.and_eq_true] at h6
            obtain ⟨⟨h6, h7⟩, h8⟩ := h6
            rw [h6, h7, h8] at h5
            cases h5
          rw [hok _ _ e2]
          refine fin1 (fun _ _ => ?_)
          show Value.tuple #[.int .u64 v, .bool (q || (decide (9223372036854775807 < v) && decide (baseT s ≠ 10))), .int .i64 0] = _
          have e3 : (q || (decide (9223372036854775807 < v) && decide (baseT s ≠ 10))) = (q || decide (9223372036854775807 < v)) := by
            cases q with
            | true => rfl
            | false =>
              simp only [Bool.not_false, Bool.and_true] at h5
              by_cases h6 : baseT s = 10
              · rw [decide_eq_true h6, Bool.true_and] at h5
                rw [h5]; rfl
              · rw [decide_eq_true h6, Bool.and_true]
          rw [e3]
end Go.Proofs.YtnjmkeijjapejaaGreatDoor
namespace Go.GV
open Go.RowKit
theorem xl_gbin {C : Cx} {all : List Oper} {o : Oper} {r : List Oper} {Q : Post} {st : St} {u : Im} (v : Value) {g : Gd} {d t ut : Nat} {b : BinOp} {x y : Operand} {vx vy : Value}
    (ho : o.op = .binOp b t x y ut) (hg : guardOf all st o = some g) (hd : o.dst = some d) (hfr : fresh C.N st d g = true) (hx : opd st g x = some (.v vx)) (hy : opd st g y = some (.v vy))
    (hrun1 : ∀ w, (eqGuard b t x y vx vy).run C.P w = .ok () w) (hrun : allL (gprops st g) → ∀ w, (binOp b t vx vy).run C.P w = .ok v w)
    (K : XL C all r Q (st.put d g (.v v)) u) : XL C all (o :: r) Q st u := by
  refine xl_gval v hg hd (fun c hc => by rw [ho] at hc; cases hc) hfr (fun hp E a w hok hgs => ?_) K
  obtain ⟨e1, _⟩ := opd_sound hok.agr hgs hx
  obtain ⟨e2, _⟩ := opd_sound hok.agr hgs hy
  simp only [SV.den] at e1 e2
  have h1 := hrun1 w
  have h2 := hrun hp w
  unfold execOp
  rw [ho]
  simp only [e1, e2]
  simp [h1, h2, Result.andThen]
end Go.GV
namespace Go.Proofs.YtnjmkeijjapejaaGreatDoor
open Go.GV Go.RowKit
set_option maxRecDepth 100000 in
theorem or32 : ∀ n : Nat, n < 256 → ((n ||| 32 = 101 ↔ n = 101 ∨ n = 69) ∧ (n ||| 32 = 112 ↔ n = 112 ∨ n = 80)) := by decide
theorem or32_iff {c m : Int} (h0 : 0 ≤ c) (h1 : c ≤ 255) (hm : m = 101 ∨ m = 112) : bits .or .u8 c 32 = m ↔ c = m ∨ c = m - 32 := by
  obtain ⟨n, rfl⟩ := Int.eq_ofNat_of_zero_le h0
  have h2 := u8_or_nat n 32 (by omega) (by omega)
  have h3 := or32 n (by omega)
  rw [show ((32 : Nat) : Int) = 32 from rfl] at h2
  rw [h2]
  generalize n ||| 32 = k at h3
  rcases hm with rfl | rfl <;> omega
def sgnL : List Int → Nat
  | [] => 0
  | d :: _ => if (decide (d = 43) || decide (d = 45)) = true then 1 else 0
def expL (m : Int) : List Int → Nat × Bool
  | [] => (0, true)
  | c :: r => if (decide (c = m) || decide (c = m - 32)) = true then (1 + sgnL r + runB 10 (r.drop (sgnL r)), decide (0 < runB 10 (r.drop (sgnL r)))) else (0, true)
set_option maxRecDepth 100000 in
theorem exponent_any (s : ByteArray) (m : Int) (hm : m = 101 ∨ m = 112) (w : World) (hs : s.size ≤ 140737488355328) :
    Calls Tryz.prog 61 #[.string s, .int .u8 m] w (PureP w fun v _ => v = .tuple #[.int .i64 (expL m (bl s)).1, .bool (expL m (bl s)).2]) := by
  have hne : s ≠ ⟨#[]⟩ → 0 < s.size := fun hn => by
    rcases Nat.eq_zero_or_pos s.size with h0 | h0
    · exact absurd (ByteArray.size_eq_zero_iff.1 h0) hn
    · exact h0
  have hbt := bt_range s 0
  obtain ⟨N, hN⟩ : ∃ N, N = expL m (bl s) := ⟨_, rfl⟩
  rw [← hN]
  refine x_fun tt_ok Tryz.func61 rfl rfl [] 0 [.v (.string s), .v (.int .u8 m)] rfl rfl rfl rfl (fun b hb => by cases hb) ?_
  refine x_vc tt_ok ?_
  refine And.intro (fun _ => Int.le_refl 0) ?_
  refine And.intro (fun h => ?_) ?_
  · have := hne (of_decide_eq_false h); omega
  refine xl_gbin (.int .u8 (bits .or .u8 (bt s 0) 32)) rfl rfl rfl rfl rfl rfl (fun w => rfl) (fun _ w => rfl) ?_
  have hor := or32_iff hbt.1 hbt.2 hm
  generalize bits .or .u8 (bt s 0) 32 = q at hor ⊢
  refine xl_go tt_ok ?_
  refine x_if (fun h => ?_) (fun h => ?_)
  · have h : (decide (s = ⟨#[]⟩) || decide (q ≠ m)) = true := h
    have e : N = (0, true) := by
      rw [hN]
      simp only [Bool.or_eq_true, decide_eq_true_eq] at h
      rcases h with h | h
      · rw [h]; rfl
      · by_cases hz : s = ⟨#[]⟩
        · rw [hz]; rfl
        · have := hne hz
          rw [← tl_zero, tl_cons (by omega) (by omega), expL, if_neg]
          simp only [Bool.or_eq_true, decide_eq_true_eq]
          rw [← hor]; exact h
    rw [e]
    exact fin1 (fun _ _ => rfl)
  · have h : (decide (s = ⟨#[]⟩) || decide (q ≠ m)) = false := h
    simp only [Bool.or_eq_false_iff, decide_eq_false_iff_not, Classical.not_not] at h
    have hz := hne h.1
    rw [← tl_zero, tl_cons (by omega) (by omega), expL, if_pos (by simp only [Bool.or_eq_true, decide_eq_true_eq]; exact hor.1 h.2)] at hN
    simp only [Int.zero_add] at hN
    have hdr : ∀ k : Nat, (tl s 1).drop k = tl s (1 + k) := fun k => by
      unfold tl
      rw [List.drop_drop, show (1 + (k : Int)).toNat = (1 : Int).toNat + k by omega]
    rw [hdr] at hN
    have hsg : sgnL (tl s 1) = if (decide (1 < (s.size : Int)) && (decide (bt s 1 = 43) || decide (bt s 1 = 45))) = true then 1 else 0 := by
      by_cases h1 : 1 < (s.size : Int)
      · rw [tl_cons (by omega) h1, decide_eq_true h1, Bool.true_and]; rfl
      · rw [tl_nil (by omega), decide_eq_false h1, Bool.false_and]; rfl
    repeat (refine And.intro ?_ ?_; first | omega | (simp only [decide_eq_true_eq, decide_eq_false_iff_not, Bool.or_eq_false_iff, Lay.d_n]; omega))
    refine x_if (fun h3 => ?_) (fun h3 => ?_)
    · have h3 : (decide (1 < (s.size : Int)) && (decide (bt s 1 = 43) || decide (bt s 1 = 45))) = true := h3
      rw [if_pos h3] at hsg
      rw [hsg] at hN
      simp only [Bool.and_eq_true, decide_eq_true_eq] at h3
      have hrl := runB_le 10 (tl s (1 + ((1 : Nat) : Int)))
      rw [tl_len] at hrl
      repeat (refine And.intro ?_ ?_; first | omega | (simp only [Lay.d_n]; omega))
      refine xl_call0 (.int .i64 (runB 10 (tl s (1 + ((1 : Nat) : Int))))) rfl rfl rfl rfl fn35 rfl rfl (fun E w F _ => by
        have := run_any (sub s 2 s.size) 10 w (by have := sub_size (s := s) (a := 2) (b := s.size) (by omega) (by omega) (by omega); omega)
        rw [bl_rest s (by omega) (by omega)] at this
        exact this) ?_
      refine xl_go tt_ok ?_
      repeat (refine And.intro ?_ ?_; first | omega | (simp only [Lay.d_n]; omega))
      rw [hN]
      refine fin1 (fun _ _ => ?_)
      generalize runB 10 (tl s (1 + ((1 : Nat) : Int))) = n
      show Value.tuple #[.int .i64 (1 + 1 + (n : Int)), .bool (decide ((0 : Int) < n))] = .tuple #[.int .i64 ((1 + 1 + n : Nat) : Int), .bool (decide (0 < n))]
      rw [decide_eq_decide.2 (show (0 : Int) < n ↔ 0 < n by omega), show ((1 + 1 + n : Nat) : Int) = 1 + 1 + (n : Int) by omega]
    · have h3 : (decide (1 < (s.size : Int)) && (decide (bt s 1 = 43) || decide (bt s 1 = 45))) = false := h3
      rw [if_neg (by rw [h3]; simp)] at hsg
      rw [hsg] at hN
      have hrl := runB_le 10 (tl s (1 + ((0 : Nat) : Int)))
      rw [tl_len] at hrl
      repeat (refine And.intro ?_ ?_; first | omega | (simp only [Lay.d_n]; omega))
      refine xl_call0 (.int .i64 (runB 10 (tl s (1 + ((0 : Nat) : Int))))) rfl rfl rfl rfl fn35 rfl rfl (fun E w F _ => by
        have := run_any (sub s 1 s.size) 10 w (by have := sub_size (s := s) (a := 1) (b := s.size) (by omega) (by omega) (by omega); omega)
        rw [bl_rest s (by omega) (by omega)] at this
        exact this) ?_
      refine xl_go tt_ok ?_
      repeat (refine And.intro ?_ ?_; first | omega | (simp only [Lay.d_n]; omega))
      rw [hN]
      refine fin1 (fun _ _ => ?_)
      generalize runB 10 (tl s (1 + ((0 : Nat) : Int))) = n
      show Value.tuple #[.int .i64 (1 + (n : Int)), .bool (decide ((0 : Int) < n))] = .tuple #[.int .i64 ((1 + 0 + n : Nat) : Int), .bool (decide (0 < n))]
      rw [decide_eq_decide.2 (show (0 : Int) < n ↔ 0 < n by omega), show ((1 + 0 + n : Nat) : Int) = 1 + (n : Int) by omega]
end Go.Proofs.YtnjmkeijjapejaaGreatDoor
namespace Go.Proofs.YtnjmkeijjapejaaGreatDoor
open Go.GV Go.RowKit
theorem sub_rest (s : ByteArray) {a b : Int} (h0 : 0 ≤ a) (h1 : a ≤ s.size) (h2 : 0 ≤ b) (h3 : a + b ≤ s.size) : sub (sub s a s.size) b (sub s a s.size).size = sub s (a + b) s.size := by
  have hz := sub_size (s := s) h0 h1 (Int.le_refl _)
  refine bl_inj ?_
  rw [bl_rest _ h2 (by omega), bl_rest _ (by omega) h3]
  unfold tl
  rw [bl_rest _ h0 h1]
  unfold tl
  rw [List.drop_drop, show (a + b).toNat = a.toNat + b.toNat by omega]
theorem sub_whole (s : ByteArray) : sub s 0 s.size = s := bl_inj (by rw [bl_rest s (Int.le_refl _) (by omega)]; rfl)
theorem bt_rest (s : ByteArray) {a b : Int} (h0 : 0 ≤ a) (h1 : a ≤ s.size) (h2 : 0 ≤ b) (h3 : a + b < s.size) : bt (sub s a s.size) b = bt s (a + b) := by
  have hz := sub_size (s := s) h0 h1 (Int.le_refl _)
  have e1 := tl_cons (s := sub s a s.size) (i := b) h2 (by omega)
  have e2 := tl_cons (s := s) (i := a + b) (by omega) h3
  have e3 : tl (sub s a s.size) b = tl s (a + b) := by
    rw [← bl_rest _ h2 (by omega), sub_rest s h0 h1 h2 (by omega), bl_rest s (by omega) (by omega)]
  rw [e1, e2] at e3
  exact (List.cons.inj e3).1
def fsufL (L : List Int) : Bool := decide (L = []) || (decide (L = [102]) || (decide (L = [70]) || (decide (L = [108]) || decide (L = [76]))))
def endsL (m : Int) (may : Bool) (L : List Int) : Bool := if (!(expL m L).2 || (decide ((expL m L).1 = 0) && !may)) = true then false else fsufL (L.drop (expL m L).1)
def baseH (s : ByteArray) : Int := if hexT s = true then 16 else 10
def markH (s : ByteArray) : Int := if hexT s = true then 112 else 101
def n1F (s : ByteArray) : Nat := runB (baseH s) (tl s (atT s))
def ptF (s : ByteArray) : Bool := decide (atT s + n1F s < (s.size : Int)) && decide (bt s (atT s + n1F s) = 46)
def n2F (s : ByteArray) : Nat := if ptF s = true then runB (baseH s) (tl s (atT s + n1F s + 1)) else 0
def iF (s : ByteArray) : Int := if ptF s = true then atT s + n1F s + 1 + n2F s else atT s + n1F s
def floatB (s : ByteArray) : Bool := if n1F s + n2F s = 0 then false else endsL (markH s) (if hexT s = true then false else ptF s) (tl s (iF s))
theorem n1F_le (s : ByteArray) : atT s + n1F s ≤ s.size := by
  have h1 := runB_le (baseH s) (tl s (atT s))
  rw [tl_len] at h1
  have := atT_range s
  unfold n1F
  omega
theorem iF_le (s : ByteArray) : iF s ≤ s.size ∧ 0 ≤ iF s ∧ n2F s ≤ s.size := by
  have h1 := n1F_le s
  have h2 := atT_range s
  unfold iF n2F
  by_cases hp : ptF s = true
  · simp only [if_pos hp]
    have h3 := runB_le (baseH s) (tl s (atT s + n1F s + 1))
    rw [tl_len] at h3
    unfold ptF at hp
    simp only [Bool.and_eq_true, decide_eq_true_eq] at hp
    omega
  · simp only [if_neg hp]
    omega
theorem expL_le (m : Int) (L : List Int) : (expL m L).1 ≤ L.length := by
  cases L with
  | nil => exact Nat.le_refl 0
  | cons c r =>
    simp only [expL]
    split
    · have h1 := runB_le 10 (r.drop (sgnL r))
      rw [List.length_drop] at h1
      have h2 : sgnL r ≤ r.length := by
        cases r with
        | nil => exact Nat.le_refl 0
        | cons d q => simp only [sgnL, List.length_cons]; split <;> omega
      simp only [List.length_cons]; omega
    · simp
theorem ne_empty (s : ByteArray) : decide (s ≠ ⟨#[]⟩) = decide (0 < (s.size : Int)) := decide_eq_decide.2 ⟨fun hn => by
  rcases Nat.eq_zero_or_pos s.size with h0 | h0
  · exact absurd (ByteArray.size_eq_zero_iff.1 h0) hn
  · omega, fun hp hn => by rw [hn] at hp; exact absurd hp (by decide)⟩
theorem ne_size {s : ByteArray} (h : decide (s ≠ ⟨#[]⟩) = true) : 0 < (s.size : Int) := by
  rw [ne_empty] at h; exact of_decide_eq_true h
set_option maxRecDepth 100000 in
theorem float_any (s : ByteArray) (w : World) (hs : s.size ≤ 140737488355328) :
    Calls Tryz.prog 31 #[.string s] w (PureP w fun v _ => v = .bool (floatB s)) := by
  have hat := atT_range s
  have hn1 := n1F_le s
  obtain ⟨hi1, hi0, hn2⟩ := iF_le s
  obtain ⟨N, hN⟩ : ∃ N, N = floatB s := ⟨_, rfl⟩
  rw [← hN]
  refine x_fun tt_ok Tryz.func31 rfl rfl [] 0 [.v (.string s)] rfl rfl rfl rfl (fun b hb => by cases hb) ?_
  iterate 2
    refine x_seq ?_
    refine x_vc tt_ok ?_
  refine x_cut (σ := Unit) (fun _ => ⟨[(5, .v (.string (sub s (atT s) s.size))), (4, .v (.int .u8 (markH s))), (3, .v (.int .i64 (baseH s)))], [], [], 0⟩) (fun _ _ => True) (fun _ => Nat.le_refl _) ?_ ?_
  · refine x_vc tt_ok ?_
    refine xl_call0 (.bool (hexT s)) rfl rfl rfl rfl fn34 rfl rfl (fun E w F _ => hexed_any s w (by omega)) ?_
    refine xl_go tt_ok ?_
    refine x_if (fun h => ?_) (fun h => ?_)
    · have h : hexT s = true := h
      have h2 := hexT_size h
      have e1 : baseH s = 16 := by unfold baseH; rw [if_pos h]
      have e2 : markH s = 112 := by unfold markH; rw [if_pos h]
      have e3 : atT s = 2 := by unfold atT; rw [if_pos h]
      rw [e1, e2, e3]
      refine x_draw mix (by kernel_rfl) (xd_go tt_ok ?_)
      repeat (refine And.intro ?_ ?_; first | omega | (simp only [Lay.d_n]; omega))
      exact meet () [] (.of rfl rfl rfl rfl rfl rfl) trivial
    · have h : hexT s = false := h
      have hn : ¬ hexT s = true := by rw [h]; simp
      have e1 : baseH s = 10 := by unfold baseH; rw [if_neg hn]
      have e2 : markH s = 101 := by unfold markH; rw [if_neg hn]
      have e3 : atT s = 0 := by unfold atT; rw [if_neg hn]
      rw [e1, e2, e3, sub_whole]
      exact meet () [] (.of rfl rfl rfl rfl rfl rfl) trivial
  · rintro _ u1 hu1 _
    have hz1 := sub_size (s := s) (a := atT s) (b := s.size) (by omega) (by omega) (by omega)
    refine x_seq ?_
    refine x_vc tt_ok ?_
    refine xl_call0 (.int .i64 (n1F s)) rfl rfl rfl rfl fn35 rfl rfl (fun E w F _ => by
      have := run_any (sub s (atT s) s.size) (baseH s) w (by omega)
      rw [bl_rest s (by omega) (by omega)] at this
      exact this) ?_
    refine xl_go tt_ok ?_
    refine x_seq ?_
    refine x_vc tt_ok ?_
    repeat (refine And.intro ?_ ?_; first | omega | (simp only [Lay.d_n]; omega))
    rw [sub_rest s (by omega) (by omega) (by omega) (by omega)]
    have hz2 := sub_size (s := s) (a := atT s + n1F s) (b := s.size) (by omega) (by omega) (by omega)
    have hpt : (decide (sub s (atT s + n1F s) s.size ≠ ⟨#[]⟩) && decide (bt (sub s (atT s + n1F s) s.size) 0 = 46)) = ptF s := by
      rw [ne_empty]
      unfold ptF
      by_cases h1 : atT s + n1F s < (s.size : Int)
      · rw [bt_rest s (by omega) (by omega) (by omega) (by omega), Int.add_zero, decide_eq_true h1, decide_eq_true (by omega)]
      · rw [decide_eq_false h1, decide_eq_false (by omega), Bool.false_and, Bool.false_and]
    refine x_seq ?_
    refine x_vc tt_ok ?_
    refine And.intro (fun _ => Int.le_refl 0) ?_
    refine And.intro (fun h => ne_size h) ?_
    refine x_cut (σ := ByteArray × Int) (fun p => ⟨[(7, .v (.bool (decide (sub s (atT s + n1F s) s.size ≠ ⟨#[]⟩) && decide (bt (sub s (atT s + n1F s) s.size) 0 = 46)))), (6, .v (.int .i64 p.2)), (5, .v (.string p.1)), (4, .v (.int .u8 (markH s))), (3, .v (.int .i64 (baseH s)))], [], [], 0⟩) (fun p _ => p.1 = sub s (iF s) s.size ∧ p.2 = n1F s + n2F s) (fun _ => Nat.le_refl _) ?_ ?_
    · refine x_vc tt_ok ?_
      refine x_if (fun h => ?_) (fun h => ?_)
      · have h : ptF s = true := hpt.symm.trans h
        have e1 : n2F s = runB (baseH s) (tl s (atT s + n1F s + 1)) := by unfold n2F; rw [if_pos h]
        have e2 : iF s = atT s + n1F s + 1 + n2F s := by unfold iF; rw [if_pos h]
        unfold ptF at h
        simp only [Bool.and_eq_true, decide_eq_true_eq] at h
        repeat (refine And.intro ?_ ?_; first | omega | (simp only [Lay.d_n]; omega))
        refine xl_call0 (.int .i64 (n2F s)) rfl rfl rfl rfl fn35 rfl rfl (fun E w F _ => by
          rw [sub_rest s (by omega) (by omega) (by omega) (by omega)]
          have hz3 := sub_size (s := s) (a := atT s + n1F s + 1) (b := s.size) (by omega) (by omega) (by omega)
          have := run_any (sub s (atT s + n1F s + 1) s.size) (baseH s) w (by omega)
          rw [bl_rest s (by omega) (by omega), ← e1] at this
          exact this) ?_
        refine xl_go tt_ok ?_
        repeat (refine And.intro ?_ ?_; first | omega | (simp only [Lay.d_n]; omega))
        refine meet (_, (n1F s : Int) + n2F s) [] (.of rfl rfl rfl rfl rfl rfl) ⟨?_, rfl⟩
        show sub (sub s (atT s + n1F s) s.size) (1 + n2F s) (sub s (atT s + n1F s) s.size).size = _
        rw [sub_rest s (by omega) (by omega) (by omega) (by omega), show atT s + (n1F s : Int) + (1 + n2F s) = iF s by omega]
      · have h : ptF s = false := hpt.symm.trans h
        have e1 : n2F s = 0 := by unfold n2F; rw [if_neg (by rw [h]; simp)]
        have e2 : iF s = atT s + n1F s := by unfold iF; rw [if_neg (by rw [h]; simp)]
        refine meet (sub s (atT s + n1F s) s.size, (n1F s : Int)) [] (.of rfl rfl rfl rfl rfl rfl) ⟨by rw [e2], by rw [e1]; simp⟩
    · rintro ⟨r, n⟩ u2 hu2 ⟨hr, hn⟩
      replace hr : r = sub s (iF s) s.size := hr
      replace hn : n = n1F s + n2F s := hn
      subst hr hn
      rw [hpt]
      have hz3 := sub_size (s := s) (a := iF s) (b := s.size) (by omega) (by omega) (by omega)
      have hel := expL_le (markH s) (tl s (iF s))
      rw [tl_len] at hel
      have hmk : markH s = 101 ∨ markH s = 112 := by unfold markH; split <;> simp
      refine x_vc tt_ok ?_
      refine x_if (fun h => ?_) (fun h => ?_)
      · have h : (n1F s : Int) + n2F s = 0 := of_decide_eq_true h
        have e : N = false := by rw [hN]; unfold floatB; rw [if_pos (by omega)]
        rw [e]
        exact fin1 (fun _ _ => rfl)
      · have h : ¬ (n1F s : Int) + n2F s = 0 := of_decide_eq_false h
        have e : N = endsL (markH s) (if hexT s = true then false else ptF s) (tl s (iF s)) := by rw [hN]; unfold floatB; rw [if_neg (by omega)]
        refine xl_call0 (.tuple #[.int .i64 (expL (markH s) (tl s (iF s))).1, .bool (expL (markH s) (tl s (iF s))).2]) rfl rfl rfl rfl fn61 rfl rfl (fun E w F _ => by
          have := exponent_any (sub s (iF s) s.size) (markH s) hmk w (by omega)
          rw [bl_rest s (by omega) (by omega)] at this
          exact this) ?_
        refine xl_go tt_ok ?_
        unfold endsL at e
        have hdr : (tl s (iF s)).drop (expL (markH s) (tl s (iF s))).1 = tl s (iF s + (expL (markH s) (tl s (iF s))).1) := by
          unfold tl
          rw [List.drop_drop, show (iF s + ((expL (markH s) (bl s |>.drop (iF s).toNat)).1 : Int)).toNat = (iF s).toNat + (expL (markH s) (bl s |>.drop (iF s).toNat)).1 by omega]
        rw [hdr] at e
        generalize (expL (markH s) (tl s (iF s))) = q at *
        have hbx : decide (baseH s = 16) = hexT s := by
          unfold baseH
          cases hexT s <;> rfl
        refine x_if (fun h4 => ?_) (fun h4 => ?_)
        · have h4 : (!q.2 || (decide ((q.1 : Int) = 0) && (decide (baseH s = 16) || !ptF s))) = true := h4
          have e5 : N = false := by
            rw [e, if_pos]
            rw [hbx, decide_eq_decide.2 (show (q.1 : Int) = 0 ↔ q.1 = 0 by omega)] at h4
            refine Eq.trans ?_ h4
            cases hexT s <;> rfl
          rw [e5]
          exact fin1 (fun _ _ => rfl)
        · have h4 : (!q.2 || (decide ((q.1 : Int) = 0) && (decide (baseH s = 16) || !ptF s))) = false := h4
          have e5 : N = fsufL (tl s (iF s + q.1)) := by
            rw [e, if_neg]
            rw [hbx, decide_eq_decide.2 (show (q.1 : Int) = 0 ↔ q.1 = 0 by omega)] at h4
            intro h5
            have h6 : (!q.2 || (decide (q.1 = 0) && (hexT s || !ptF s))) = true := by
              refine Eq.trans ?_ h5
              cases hexT s <;> rfl
            rw [h4] at h6; cases h6
          repeat (refine And.intro ?_ ?_; first | omega | (simp only [Lay.d_n]; omega))
          obtain ⟨R, hR⟩ : ∃ R, R = sub (sub s (iF s) s.size) q.1 (sub s (iF s) s.size).size := ⟨_, rfl⟩
          have hbR : bl R = tl s (iF s + q.1) := by
            rw [hR, sub_rest s (by omega) (by omega) (by omega) (by omega), bl_rest s (by omega) (by omega)]
          have e6 : N = (decide (R = ⟨#[]⟩) || (decide (R = ⟨#[102]⟩) || (decide (R = ⟨#[70]⟩) || (decide (R = ⟨#[108]⟩) || decide (R = ⟨#[76]⟩))))) := by
            rw [e5, ← hbR, bl_eq, bl_eq, bl_eq, bl_eq, bl_eq]; rfl
          clear e e5
          refine x_if (fun hh => ?_) (fun hh => ?_)
          · have h : R = _ := hR.trans (of_decide_eq_true hh)
            have e7 : N = true := by rw [e6, h]; rfl
            rw [e7]
            refine x_ift hh ?_
            exact fin1 (fun _ _ => rfl)
          · have h5 : ¬ R = _ := fun hq => of_decide_eq_false hh (hR.symm.trans hq)
            refine x_if (fun hh => ?_) (fun hh => ?_)
            · have h : R = _ := hR.trans (of_decide_eq_true hh)
              have e7 : N = true := by rw [e6, h]; rfl
              rw [e7]
              refine x_ift hh ?_
              exact fin1 (fun _ _ => rfl)
            · have h6 : ¬ R = _ := fun hq => of_decide_eq_false hh (hR.symm.trans hq)
              refine x_if (fun hh => ?_) (fun hh => ?_)
              · have h : R = _ := hR.trans (of_decide_eq_true hh)
                have e7 : N = true := by rw [e6, h]; rfl
                rw [e7]
                refine x_ift hh ?_
                exact fin1 (fun _ _ => rfl)
              · have h7 : ¬ R = _ := fun hq => of_decide_eq_false hh (hR.symm.trans hq)
                refine x_if (fun hh => ?_) (fun hh => ?_)
                · have h : R = _ := hR.trans (of_decide_eq_true hh)
                  have e7 : N = true := by rw [e6, h]; rfl
                  rw [e7]
                  refine x_ift hh ?_
                  exact fin1 (fun _ _ => rfl)
                · have h8 : ¬ R = _ := fun hq => of_decide_eq_false hh (hR.symm.trans hq)
                  refine x_if (fun hh => ?_) (fun hh => ?_)
                  · have h : R = _ := hR.trans (of_decide_eq_true hh)
                    have e7 : N = true := by rw [e6, h]; rfl
                    rw [e7]
                    exact fin1 (fun _ _ => rfl)
                  · have h9 : ¬ R = _ := fun hq => of_decide_eq_false hh (hR.symm.trans hq)
                    have e7 : N = false := by rw [e6, decide_eq_false h5, decide_eq_false h6, decide_eq_false h7, decide_eq_false h8, decide_eq_false h9]; rfl
                    rw [e7]
                    exact fin1 (fun _ _ => rfl)
end Go.Proofs.YtnjmkeijjapejaaGreatDoor
namespace Go.Proofs.YtnjmkeijjapejaaGreatDoor
open Go.GV Go.RowKit
theorem tl_drop (s : ByteArray) {i : Int} (h : 0 ≤ i) (k : Nat) : (tl s i).drop k = tl s (i + k) := by
  unfold tl
  rw [List.drop_drop, show (i + (k : Int)).toNat = i.toNat + k by omega]
theorem sgnL_le (L : List Int) : sgnL L ≤ L.length := by
  cases L with
  | nil => exact Nat.le_refl 0
  | cons d q => simp only [sgnL, List.length_cons]; split <;> omega
theorem sgnL_tl (s : ByteArray) {i : Int} (h0 : 0 ≤ i) : sgnL (tl s i) = if (decide (i < (s.size : Int)) && (decide (bt s i = 43) || decide (bt s i = 45))) = true then 1 else 0 := by
  by_cases h1 : i < (s.size : Int)
  · rw [tl_cons h0 h1, decide_eq_true h1, Bool.true_and]; rfl
  · rw [tl_nil (by omega), decide_eq_false h1, Bool.false_and]; rfl
set_option maxRecDepth 100000 in
theorem ends_any (s : ByteArray) (i m g : Int) (may : Bool) (hg : g = m - 32) (h0 : 0 ≤ i) (h1 : i ≤ s.size) (w : World) (hs : s.size ≤ 140737488355328) :
    Calls Tryz.prog 88 #[.string s, .int .i64 i, .int .u8 m, .int .u8 g, .bool may] w (PureP w fun v _ => v = .bool (endsL m may (tl s i))) := by
  subst hg
  obtain ⟨N, hN⟩ : ∃ N, N = endsL m may (tl s i) := ⟨_, rfl⟩
  rw [← hN]
  refine x_fun tt_ok Tryz.func88 rfl rfl [] 0 [.v (.string s), .v (.int .i64 i), .v (.int .u8 m), .v (.int .u8 (m - 32)), .v (.bool may)] rfl rfl rfl rfl (fun b hb => by cases hb) ?_
  refine x_seq ?_
  refine x_vc tt_ok ?_
  refine x_cut (σ := Int) (fun j => ⟨[(1, .v (.int .i64 j)), (0, .v (.string s))], [], [], 0⟩) (fun j _ => 0 ≤ j ∧ j ≤ s.size ∧ N = fsufL (tl s j)) (fun _ => Nat.le_refl _) ?_ ?_
  · refine x_vc tt_ok ?_
    repeat (refine And.intro ?_ ?_; first | omega | (simp only [decide_eq_true_eq, decide_eq_false_iff_not, Bool.or_eq_false_iff, Lay.d_n]; omega))
    refine x_if (fun h => ?_) (fun h => ?_)
    · have h : (decide (i < (s.size : Int)) && (decide (bt s i = m) || decide (bt s i = m - 32))) = true := h
      obtain ⟨h2, h3⟩ := Bool.and_eq_true_iff.1 h
      have h2 := of_decide_eq_true h2
      have hE : expL m (tl s i) = (1 + sgnL (tl s (i + 1)) + runB 10 (tl s (i + 1 + sgnL (tl s (i + 1)))), decide (0 < runB 10 (tl s (i + 1 + sgnL (tl s (i + 1)))))) := by
        rw [tl_cons h0 h2, expL, if_pos h3, tl_drop s (by omega)]
      have hsg := sgnL_tl s (i := i + 1) (by omega)
      have hsl := sgnL_le (tl s (i + 1))
      rw [tl_len] at hsl
      unfold endsL at hN
      rw [hE, tl_drop s h0] at hN
      repeat (refine And.intro ?_ ?_; first | omega | (simp only [decide_eq_true_eq, decide_eq_false_iff_not, Bool.or_eq_false_iff, Lay.d_n]; omega))
      refine x_if (fun h4 => ?_) (fun h4 => ?_)
      · have h4 : (decide (i + 1 < (s.size : Int)) && (decide (bt s (i + 1) = 43) || decide (bt s (i + 1) = 45))) = true := h4
        rw [if_pos h4] at hsg
        rw [hsg] at hN hsl
        simp only [Bool.and_eq_true, decide_eq_true_eq] at h4
        rw [show i + 1 + ((1 : Nat) : Int) = i + 1 + 1 by omega] at hN
        have hn : ∀ n : Nat, runB 10 (tl s (i + 1 + 1)) = n → (n = 0 → N = false) ∧ (n ≠ 0 → N = fsufL (tl s (i + 1 + 1 + n))) := fun n hn => by
          rw [hn] at hN
          refine ⟨fun hz => ?_, fun hz => ?_⟩
          · rw [hN, hz]; rfl
          · rw [if_neg (by simp; omega)] at hN
            rw [hN]
            congr 2
            omega
        have hrl := runB_le 10 (tl s (i + 1 + 1))
        rw [tl_len] at hrl
        repeat (refine And.intro ?_ ?_; first | omega | (simp only [Lay.d_n]; omega))
        refine xl_call0 (.int .i64 (runB 10 (tl s (i + 1 + 1)))) rfl rfl rfl rfl fn52 rfl rfl (fun E w F _ => runR_any s (i + 1 + 1) 10 w (by omega) (by omega) (by omega)) ?_
        refine xl_go tt_ok ?_
        obtain ⟨hn1, hn2⟩ := hn _ rfl
        generalize runB 10 (tl s (i + 1 + 1)) = n at hn1 hn2 hrl ⊢
        refine x_if (fun h5 => ?_) (fun h5 => ?_)
        · have h5 : (n : Int) = 0 := of_decide_eq_true h5
          rw [hn1 (by omega)]
          exact fin1 (fun _ _ => rfl)
        · have h5 : ¬ (n : Int) = 0 := of_decide_eq_false h5
          repeat (refine And.intro ?_ ?_; first | omega | (simp only [Lay.d_n]; omega))
          exact meet (i + 1 + 1 + n) [] (.of rfl rfl rfl rfl rfl rfl) ⟨by omega, by omega, hn2 (by omega)⟩
      · have h4 : (decide (i + 1 < (s.size : Int)) && (decide (bt s (i + 1) = 43) || decide (bt s (i + 1) = 45))) = false := h4
        rw [if_neg (by rw [h4]; simp)] at hsg
        rw [hsg] at hN hsl
        rw [show i + 1 + ((0 : Nat) : Int) = i + 1 by omega] at hN
        have hn : ∀ n : Nat, runB 10 (tl s (i + 1)) = n → (n = 0 → N = false) ∧ (n ≠ 0 → N = fsufL (tl s (i + 1 + n))) := fun n hn => by
          rw [hn] at hN
          refine ⟨fun hz => ?_, fun hz => ?_⟩
          · rw [hN, hz]; rfl
          · rw [if_neg (by simp; omega)] at hN
            rw [hN]
            congr 2
            omega
        have hrl := runB_le 10 (tl s (i + 1))
        rw [tl_len] at hrl
        repeat (refine And.intro ?_ ?_; first | omega | (simp only [Lay.d_n]; omega))
        refine xl_call0 (.int .i64 (runB 10 (tl s (i + 1)))) rfl rfl rfl rfl fn52 rfl rfl (fun E w F _ => runR_any s (i + 1) 10 w (by omega) (by omega) (by omega)) ?_
        refine xl_go tt_ok ?_
        obtain ⟨hn1, hn2⟩ := hn _ rfl
        generalize runB 10 (tl s (i + 1)) = n at hn1 hn2 hrl ⊢
        refine x_if (fun h5 => ?_) (fun h5 => ?_)
        · have h5 : (n : Int) = 0 := of_decide_eq_true h5
          rw [hn1 (by omega)]
          exact fin1 (fun _ _ => rfl)
        · have h5 : ¬ (n : Int) = 0 := of_decide_eq_false h5
          repeat (refine And.intro ?_ ?_; first | omega | (simp only [Lay.d_n]; omega))
          exact meet (i + 1 + n) [] (.of rfl rfl rfl rfl rfl rfl) ⟨by omega, by omega, hn2 (by omega)⟩
    · have h : (decide (i < (s.size : Int)) && (decide (bt s i = m) || decide (bt s i = m - 32))) = false := h
      have hE : expL m (tl s i) = (0, true) := by
        by_cases h2 : i < (s.size : Int)
        · rw [decide_eq_true h2, Bool.true_and] at h
          rw [tl_cons h0 h2, expL, if_neg (by rw [h]; simp)]
        · rw [tl_nil (by omega)]; rfl
      unfold endsL at hN
      rw [hE] at hN
      refine x_if (fun h3 => ?_) (fun h3 => ?_)
      · have h3 : (!may) = true := h3
        rw [h3] at hN
        rw [hN]
        exact fin1 (fun _ _ => rfl)
      · have h3 : (!may) = false := h3
        rw [h3] at hN
        exact meet i [] (.of rfl rfl rfl rfl rfl rfl) ⟨h0, h1, hN⟩
  · rintro j u1 hu1 ⟨g0, g1, g2⟩
    refine x_vc tt_ok ?_
    repeat (refine And.intro ?_ ?_; first | omega | (simp only [Lay.d_n]; omega))
    refine fin1 (fun _ _ => ?_)
    show Value.bool ((((decide (sub s j s.size = ⟨#[]⟩) || decide (sub s j s.size = ⟨#[102]⟩)) || decide (sub s j s.size = ⟨#[70]⟩)) || decide (sub s j s.size = ⟨#[108]⟩)) || decide (sub s j s.size = ⟨#[76]⟩)) = _
    rw [g2, bl_eq, bl_eq, bl_eq, bl_eq, bl_eq, bl_rest s g0 g1, Bool.or_assoc, Bool.or_assoc, Bool.or_assoc]
    rfl
end Go.Proofs.YtnjmkeijjapejaaGreatDoor
namespace Go.Proofs.YtnjmkeijjapejaaGreatDoor
open Go.GV Go.RowKit
set_option maxRecDepth 100000 in
theorem floatR_any (s : ByteArray) (w : World) (hs : s.size ≤ 140737488355328) :
    Calls Tryz.prog 72 #[.string s] w (PureP w fun v _ => v = .bool (floatB s)) := by
  have hat := atT_range s
  have hn1 := n1F_le s
  obtain ⟨hi1, hi0, hn2⟩ := iF_le s
  have hb16 : baseH s ≤ 16 := by unfold baseH; split <;> omega
  obtain ⟨N, hN⟩ : ∃ N, N = floatB s := ⟨_, rfl⟩
  rw [← hN]
  refine x_fun tt_ok Tryz.func72 rfl rfl [] 0 [.v (.string s)] rfl rfl rfl rfl (fun b hb => by cases hb) ?_
  iterate 3
    refine x_seq ?_
    refine x_vc tt_ok ?_
  refine x_cut (σ := Unit) (fun _ => ⟨[(4, .v (.int .i64 (atT s))), (3, .v (.int .i64 (baseH s))), (0, .v (.string s))], [], [], 0⟩) (fun _ _ => True) (fun _ => Nat.le_refl _) ?_ ?_
  · refine x_vc tt_ok ?_
    refine xl_call0 (.bool (hexT s)) rfl rfl rfl rfl fn51 rfl rfl (fun E w F _ => hex_any s w (by omega)) ?_
    refine xl_go tt_ok ?_
    refine x_if (fun h => ?_) (fun h => ?_)
    · have h : hexT s = true := h
      have e1 : baseH s = 16 := by unfold baseH; rw [if_pos h]
      have e3 : atT s = 2 := by unfold atT; rw [if_pos h]
      rw [e1, e3]
      exact meet () [] (.of rfl rfl rfl rfl rfl rfl) trivial
    · have h : hexT s = false := h
      have hn : ¬ hexT s = true := by rw [h]; simp
      have e1 : baseH s = 10 := by unfold baseH; rw [if_neg hn]
      have e3 : atT s = 0 := by unfold atT; rw [if_neg hn]
      rw [e1, e3]
      exact meet () [] (.of rfl rfl rfl rfl rfl rfl) trivial
  · rintro _ u1 hu1 _
    refine x_seq ?_
    refine x_vc tt_ok ?_
    refine xl_call0 (.int .i64 (n1F s)) rfl rfl rfl rfl fn52 rfl rfl (fun E w F _ => runR_any s (atT s) (baseH s) w (by omega) hb16 (by omega)) ?_
    refine xl_go tt_ok ?_
    refine x_seq ?_
    refine x_vc tt_ok ?_
    repeat (refine And.intro ?_ ?_; first | omega | (simp only [Lay.d_n]; omega))
    refine x_seq ?_
    refine x_vc tt_ok ?_
    repeat (refine And.intro ?_ ?_; first | omega | (simp only [decide_eq_true_eq, decide_eq_false_iff_not, Bool.or_eq_false_iff, Lay.d_n]; omega))
    refine x_cut (σ := Int × Int) (fun p => ⟨[(6, .v (.bool (ptF s))), (5, .v (.int .i64 p.2)), (4, .v (.int .i64 p.1)), (3, .v (.int .i64 (baseH s))), (0, .v (.string s))], [], [], 0⟩)
      (fun p _ => p.1 = iF s ∧ p.2 = n1F s + n2F s) (fun _ => Nat.le_refl _) ?_ ?_
    · refine x_vc tt_ok ?_
      refine x_if (fun h => ?_) (fun h => ?_)
      · have h : ptF s = true := h
        have e1 : n2F s = runB (baseH s) (tl s (atT s + n1F s + 1)) := by unfold n2F; rw [if_pos h]
        have e2 : iF s = atT s + n1F s + 1 + n2F s := by unfold iF; rw [if_pos h]
        have h' := h
        unfold ptF at h'
        simp only [Bool.and_eq_true, decide_eq_true_eq] at h'
        repeat (refine And.intro ?_ ?_; first | omega | (simp only [Lay.d_n]; omega))
        refine xl_call0 (.int .i64 (n2F s)) rfl rfl rfl rfl fn52 rfl rfl (fun E w F _ => by
          rw [e1]; exact runR_any s (atT s + n1F s + 1) (baseH s) w (by omega) hb16 (by omega)) ?_
        refine xl_go tt_ok ?_
        repeat (refine And.intro ?_ ?_; first | omega | (simp only [Lay.d_n]; omega))
        exact meet (atT s + n1F s + 1 + n2F s, (n1F s : Int) + n2F s) [] (.of rfl rfl rfl rfl rfl rfl) ⟨e2.symm, rfl⟩
      · have h : ptF s = false := h
        have e1 : n2F s = 0 := by unfold n2F; rw [if_neg (by rw [h]; simp)]
        have e2 : iF s = atT s + n1F s := by unfold iF; rw [if_neg (by rw [h]; simp)]
        exact meet (atT s + n1F s, (n1F s : Int)) [] (.of rfl rfl rfl rfl rfl rfl) ⟨by rw [e2], by rw [e1]; simp⟩
    · rintro ⟨r, n⟩ u2 hu2 ⟨hr, hn⟩
      replace hr : r = iF s := hr
      replace hn : n = n1F s + n2F s := hn
      subst hr hn
      refine x_vc tt_ok ?_
      refine x_if (fun h => ?_) (fun h => ?_)
      · have h : (n1F s : Int) + n2F s = 0 := of_decide_eq_true h
        have e : N = false := by rw [hN]; unfold floatB; rw [if_pos (by omega)]
        rw [e]
        exact fin1 (fun _ _ => rfl)
      · have h : ¬ (n1F s : Int) + n2F s = 0 := of_decide_eq_false h
        have e : N = endsL (markH s) (if hexT s = true then false else ptF s) (tl s (iF s)) := by rw [hN]; unfold floatB; rw [if_neg (by omega)]
        refine x_if (fun h => ?_) (fun h => ?_)
        · have h : baseH s = 16 := of_decide_eq_true h
          have hx : hexT s = true := by
            unfold baseH at h
            split at h
            · assumption
            · cases h
          have e3 : markH s = 112 := by unfold markH; rw [if_pos hx]
          rw [if_pos hx, e3] at e
          refine xl_call0 (.bool N) rfl rfl rfl rfl fn88 rfl rfl (fun E w F _ => by
            rw [e]; exact ends_any s (iF s) 112 80 false rfl hi0 hi1 w hs) ?_
          refine xl_go tt_ok ?_
          exact fin1 (fun _ _ => rfl)
        · have h : ¬ baseH s = 16 := of_decide_eq_false h
          have hx : ¬ hexT s = true := fun hx => h (by unfold baseH; rw [if_pos hx])
          have e3 : markH s = 101 := by unfold markH; rw [if_neg hx]
          rw [if_neg hx, e3] at e
          refine xl_call0 (.bool N) rfl rfl rfl rfl fn88 rfl rfl (fun E w F _ => by
            rw [e]; exact ends_any s (iF s) 101 69 (ptF s) rfl hi0 hi1 w hs) ?_
          refine xl_go tt_ok ?_
          exact fin1 (fun _ _ => rfl)
end Go.Proofs.YtnjmkeijjapejaaGreatDoor
namespace Go.Proofs.YtnjmkeijjapejaaGreatDoor
open Go.GV Go.RowKit
def simR (c : Int) : Int := if c = 39 then 39 else if c = 34 then 34 else if c = 63 then 63 else if c = 92 then 92 else if c = 97 then 7 else if c = 98 then 8 else if c = 102 then 12 else if c = 110 then 10
  else if c = 114 then 13 else if c = 116 then 9 else if c = 118 then 11 else 0
def simP (c : Int) : Int := if simR c = 0 then -1 else simR c
theorem simR_range (c : Int) : 0 ≤ simR c ∧ simR c ≤ 92 := by
  unfold simR
  (repeat' split) <;> omega
set_option maxRecDepth 100000 in
theorem simple_any (c : Int) (w : World) : Calls Tryz.prog 85 #[.int .u8 c] w (PureP w fun v _ => v = .int .i64 (simP c)) := by
  refine x_fun tt_ok Tryz.func85 rfl rfl [] 0 [.v (.int .u8 c)] rfl rfl rfl rfl (fun b hb => by cases hb) ?_
  refine x_vc tt_ok ?_
  iterate 3
    refine x_if (fun h => ?_) (fun h => ?_)
    · have h := of_decide_eq_true h
      subst h
      refine x_ift rfl ?_
      repeat (refine And.intro ?_ ?_; first | omega | (simp only [Lay.d_n]; omega))
      refine fin1 (fun _ _ => rfl)
  refine x_if (fun h => ?_) (fun h => ?_)
  · have h := of_decide_eq_true h
    subst h
    repeat (refine And.intro ?_ ?_; first | omega | (simp only [Lay.d_n]; omega))
    refine fin1 (fun _ _ => rfl)
  iterate 7
    refine x_if (fun h => ?_) (fun h => ?_)
    · have h := of_decide_eq_true h
      subst h
      refine fin1 (fun _ _ => rfl)
  refine fin1 (fun _ _ => ?_)
  simp only [decide_eq_true_eq, decide_eq_false_iff_not] at *
  have : simP c = -1 := by unfold simP simR; simp [*]
  rw [this]; rfl
set_option maxRecDepth 100000 in
theorem simpleR_any (c : Int) (w : World) : Calls Tryz.prog 93 #[.int .u8 c] w (PureP w fun v _ => v = .int .i64 (simR c)) := by
  refine x_fun tt_ok Tryz.func93 rfl rfl [] 0 [.v (.int .u8 c)] rfl rfl rfl rfl (fun b hb => by cases hb) ?_
  refine x_vc tt_ok ?_
  iterate 3
    refine x_if (fun h => ?_) (fun h => ?_)
    · have h := of_decide_eq_true h
      subst h
      refine x_ift rfl ?_
      repeat (refine And.intro ?_ ?_; first | omega | (simp only [Lay.d_n]; omega))
      refine fin1 (fun _ _ => rfl)
  refine x_if (fun h => ?_) (fun h => ?_)
  · have h := of_decide_eq_true h
    subst h
    repeat (refine And.intro ?_ ?_; first | omega | (simp only [Lay.d_n]; omega))
    refine fin1 (fun _ _ => rfl)
  iterate 7
    refine x_if (fun h => ?_) (fun h => ?_)
    · have h := of_decide_eq_true h
      subst h
      refine fin1 (fun _ _ => rfl)
  refine fin1 (fun _ _ => ?_)
  simp only [decide_eq_true_eq, decide_eq_false_iff_not] at *
  have : simR c = 0 := by unfold simR; simp [*]
  rw [this]; rfl
def numF (b most : Int) : Int → List Int → Int
  | v, [] => v
  | v, c :: r => if most < v * b + dg c then -1 else numF b most (v * b + dg c) r
set_option maxRecDepth 100000 in
theorem number_any (s : ByteArray) (b most : Int) (hb0 : 0 ≤ b) (hb : b ≤ 16) (hm0 : 0 ≤ most) (hm : most ≤ 4294967295) (w : World) (hs : s.size ≤ 9223372036854775807) :
    Calls Tryz.prog 86 #[.string s, .int .i64 b, .int .i64 most] w (PureP w fun v _ => v = .int .i64 (numF b most 0 (bl s))) := by
  obtain ⟨N, hN⟩ : ∃ N, N = numF b most 0 (bl s) := ⟨_, rfl⟩
  rw [← hN]
  refine x_fun tt_ok Tryz.func86 rfl rfl [] 0 [.v (.string s), .v (.int .i64 b), .v (.int .i64 most)] rfl rfl rfl rfl (fun b hb => by cases hb) ?_
  refine x_vc tt_ok ?_
  refine xl_call _ rfl rfl rfl rfl fn36 rfl rfl (fun E w F _ => digitsFn_any s w) (fun v u1 u2 hu2 hs2 hv => ?_)
  obtain ⟨bk, rfl, hbk⟩ := hv
  have hb2 := of_sub_cut hs2 hbk
  refine xl_go tt_ok ?_
  refine x_range (σ := Int) (τ := Int) rfl fn62 (digits_iter s bk u2 hb2 hs) [(7, .p 3 0), (6, .p 2 0), (5, .p 1 0), (4, .p 0 0)]
    (fun v => [(0, .box 2 [.v (.int .i64 b)]), (1, .box 2 [.v (.int .i64 most)]), (2, .box 2 [.v (.int .i64 0)]), (3, .box 2 [.v (.int .i64 v)])]) (fun _ => 5) (fun k v _ => 0 ≤ v ∧ v ≤ most ∧ N = numF b most v ((bl s).drop k))
    (fun q => [(0, .box 2 [.v (.int .i64 b)]), (1, .box 2 [.v (.int .i64 most)]), (2, .box 2 [.v (.int .i64 (-1))]), (3, .box 2 [.v (.int .i64 q)])]) (fun _ => 5) (fun _ e _ => e = .ret ∧ N = -1) 0 [] (.of rfl rfl rfl rfl rfl rfl) ⟨by omega, by omega, hN⟩ rfl
    (fun _ => rfl) (fun _ => rfl) (fun _ => by decide) (fun _ => by decide) rfl (fun l k x v u3 Fr Fr' hx hu3 hg => ?_) (fun v u3 hu3 hg => ?_) (fun _ e u3 hu3 hg => ?_)
  · obtain ⟨g0, g1, g2⟩ := hg
    rw [List.getElem?_map] at hx
    obtain ⟨c, hc, rfl⟩ := Option.map_eq_some_iff.1 hx
    rw [drop_get hc, numF] at g2
    have hcr := dg_range c
    have hv0 : 0 ≤ v * b := Int.mul_nonneg g0 hb0
    have hv1 : v * b ≤ 4294967295 * 16 := Int.mul_le_mul (by omega) hb hb0 (by omega)
    refine x_vc tt_ok ?_
    refine ⟨rfl, rfl, x_vc tt_ok ?_⟩
    repeat (refine And.intro ?_ ?_; first | omega | (simp only [Lay.d_n]; omega))
    refine x_if (fun h1 => ?_) (fun h1 => ?_)
    · have h1 : most < v * b + dg c := of_decide_eq_true h1
      rw [if_pos h1] at g2
      exact ⟨v * b + dg c, [], .of rfl rfl rfl rfl rfl rfl, rfl, g2⟩
    · have h1 : ¬ most < v * b + dg c := of_decide_eq_false h1
      rw [if_neg h1] at g2
      exact ⟨v * b + dg c, [], .of rfl rfl rfl rfl rfl rfl, by omega, by omega, g2⟩
  · obtain ⟨g0, g1, g2⟩ := hg
    rw [List.length_map, List.drop_length, numF] at g2
    rw [g2]
    exact fin1 (fun _ _ => rfl)
  · obtain ⟨rfl, g2⟩ := hg
    rw [g2]
    exact fin1 (fun _ _ => rfl)
def elemP (most : Int) : List Int → Int × Nat
  | [] => (-1, 1)
  | c :: r => if c ≠ 92 then (c, 1) else match r with
    | [] => (-1, 1)
    | d :: q => if 0 ≤ simP d then (simP d, 2)
      else if d = 120 then (if runB 16 q = 0 then (-1, 1) else (numF 16 most 0 (q.take (runB 16 q)), 2 + runB 16 q))
      else if runB 8 ((d :: q).take 3) = 0 then (-1, 1) else (numF 8 most 0 ((d :: q).take (runB 8 ((d :: q).take 3))), 1 + runB 8 ((d :: q).take 3))
set_option maxRecDepth 100000 in
theorem element_any (s : ByteArray) (most : Int) (hz : 0 < s.size) (hm0 : 0 ≤ most) (hm : most ≤ 4294967295) (w : World) (hs : s.size ≤ 140737488355328) :
    Calls Tryz.prog 67 #[.string s, .int .i64 most] w (PureP w fun v _ => v = .tuple #[.int .i64 (elemP most (bl s)).1, .int .i64 (elemP most (bl s)).2]) := by
  obtain ⟨N, hN⟩ : ∃ N, N = elemP most (bl s) := ⟨_, rfl⟩
  rw [← hN]
  have hbt := bt_range s 0
  rw [← tl_zero, tl_cons (by omega) (by omega), Int.zero_add] at hN
  simp only [elemP] at hN
  refine x_fun tt_ok Tryz.func67 rfl rfl [] 0 [.v (.string s), .v (.int .i64 most)] rfl rfl rfl rfl (fun b hb => by cases hb) ?_
  refine x_vc tt_ok ?_
  repeat (refine And.intro ?_ ?_; first | omega | (simp only [Lay.d_n]; omega))
  refine x_if (fun h => ?_) (fun h => ?_)
  · have h : bt s 0 ≠ 92 := of_decide_eq_true h
    rw [if_pos h] at hN
    repeat (refine And.intro ?_ ?_; first | omega | (simp only [Lay.d_n]; omega))
    rw [hN]
    exact fin1 (fun _ _ => rfl)
  · have h : ¬ bt s 0 ≠ 92 := of_decide_eq_false h
    rw [if_neg h] at hN
    repeat (refine And.intro ?_ ?_; first | omega | (simp only [Lay.d_n]; omega))
    refine x_if (fun h => ?_) (fun h => ?_)
    · have h : (s.size : Int) = 1 := of_decide_eq_true h
      rw [tl_nil (by omega)] at hN
      rw [hN]
      exact fin1 (fun _ _ => rfl)
    · have h : ¬ (s.size : Int) = 1 := of_decide_eq_false h
      have hbt1 := bt_range s 1
      rw [tl_cons (by omega) (by omega)] at hN
      simp only at hN
      rw [show (1 : Int) + 1 = 2 from rfl] at hN
      repeat (refine And.intro ?_ ?_; first | omega | (simp only [Lay.d_n]; omega))
      refine xl_call0 (.int .i64 (simP (bt s 1))) rfl rfl rfl rfl fn85 rfl rfl (fun E w F _ => simple_any _ w) ?_
      refine xl_go tt_ok ?_
      refine x_if (fun h1 => ?_) (fun h1 => ?_)
      · have h1 : 0 ≤ simP (bt s 1) := of_decide_eq_true h1
        rw [if_pos h1] at hN
        rw [hN]
        exact fin1 (fun _ _ => rfl)
      · have h1 : ¬ 0 ≤ simP (bt s 1) := of_decide_eq_false h1
        rw [if_neg h1] at hN
        repeat (refine And.intro ?_ ?_; first | omega | (simp only [Lay.d_n]; omega))
        refine x_if (fun h2 => ?_) (fun h2 => ?_)
        · have h2 : bt s 1 = 120 := of_decide_eq_true h2
          rw [if_pos h2] at hN
          have hrl := runB_le 16 (tl s 2)
          rw [tl_len] at hrl
          repeat (refine And.intro ?_ ?_; first | omega | (simp only [Lay.d_n]; omega))
          refine xl_call0 (.int .i64 (runB 16 (tl s 2))) rfl rfl rfl rfl fn35 rfl rfl (fun E w F _ => by
            have := run_any (sub s 2 s.size) 16 w (by have := sub_size (s := s) (a := 2) (b := s.size) (by omega) (by omega) (by omega); omega)
            rw [bl_rest s (by omega) (by omega)] at this
            exact this) ?_
          refine xl_go tt_ok ?_
          obtain ⟨n, hn⟩ : ∃ n, n = runB 16 (tl s 2) := ⟨_, rfl⟩
          rw [← hn] at hN hrl ⊢
          refine x_if (fun h3 => ?_) (fun h3 => ?_)
          · have h3 : (n : Int) = 0 := of_decide_eq_true h3
            rw [if_pos (by omega)] at hN
            rw [hN]
            exact fin1 (fun _ _ => rfl)
          · have h3 : ¬ (n : Int) = 0 := of_decide_eq_false h3
            rw [if_neg (by omega)] at hN
            repeat (refine And.intro ?_ ?_; first | omega | (simp only [Lay.d_n]; omega))
            refine xl_call0 (.int .i64 (numF 16 most 0 ((tl s 2).take n))) rfl rfl rfl rfl fn86 rfl rfl (fun E w F _ => by
              have := number_any (sub s 2 (2 + n)) 16 most (by omega) (by omega) hm0 hm w (by have := sub_size (s := s) (a := 2) (b := 2 + (n : Int)) (by omega) (by omega) (by omega); omega)
              rw [bl_sub s (by omega) (by omega) (by omega), show (2 + (n : Int) - 2).toNat = n by omega] at this
              exact this) ?_
            refine xl_go tt_ok ?_
            repeat (refine And.intro ?_ ?_; first | omega | (simp only [Lay.d_n]; omega))
            rw [hN]
            refine fin1 (fun _ _ => ?_)
            show Value.tuple #[_, .int .i64 (2 + (n : Int))] = Value.tuple #[_, .int .i64 ((2 + n : Nat) : Int)]
            rw [show ((2 + n : Nat) : Int) = 2 + (n : Int) by omega]
            rfl
        · have h2 : ¬ bt s 1 = 120 := of_decide_eq_false h2
          rw [if_neg h2, show bt s 1 :: tl s 2 = tl s 1 from (tl_cons (by omega) (by omega)).symm] at hN
          have hrl := runB_le 8 ((tl s 1).take 3)
          rw [List.length_take, tl_len] at hrl
          repeat (refine And.intro ?_ ?_; first | omega | (simp only [Lay.d_n]; omega))
          refine xl_min rfl rfl rfl rfl rfl rfl ?_
          obtain ⟨e, he⟩ : ∃ e : Int, e = if (s.size : Int) < 4 then (s.size : Int) else 4 := ⟨_, rfl⟩
          rw [← he]
          have he2 : 1 ≤ e ∧ e ≤ s.size ∧ e ≤ 4 ∧ (e = s.size ∨ e = 4) := by rw [he]; split <;> omega
          refine xl_go tt_ok ?_
          repeat (refine And.intro ?_ ?_; first | omega | (simp only [Lay.d_n]; omega))
          refine xl_call0 (.int .i64 (runB 8 ((tl s 1).take 3))) rfl rfl rfl rfl fn35 rfl rfl (fun E w F _ => by
            have := run_any (sub s 1 e) 8 w (by have := sub_size (s := s) (a := 1) (b := e) (by omega) (by omega) (by omega); omega)
            rw [bl_sub s (by omega) (by omega) (by omega)] at this
            have e2 : (tl s 1).take (e - 1).toNat = (tl s 1).take 3 := by
              rcases he2.2.2.2 with h9 | h9
              · rw [List.take_of_length_le (by rw [tl_len]; omega), List.take_of_length_le (by rw [tl_len]; omega)]
              · rw [show (e - 1).toNat = 3 by omega]
            rw [e2] at this
            exact this) ?_
          refine xl_go tt_ok ?_
          obtain ⟨n, hn⟩ : ∃ n, n = runB 8 ((tl s 1).take 3) := ⟨_, rfl⟩
          rw [← hn] at hN hrl ⊢
          refine x_if (fun h3 => ?_) (fun h3 => ?_)
          · have h3 : (n : Int) = 0 := of_decide_eq_true h3
            rw [if_pos (by omega)] at hN
            rw [hN]
            exact fin1 (fun _ _ => rfl)
          · have h3 : ¬ (n : Int) = 0 := of_decide_eq_false h3
            rw [if_neg (by omega)] at hN
            repeat (refine And.intro ?_ ?_; first | omega | (simp only [Lay.d_n]; omega))
            refine xl_call0 (.int .i64 (numF 8 most 0 ((tl s 1).take n))) rfl rfl rfl rfl fn86 rfl rfl (fun E w F _ => by
              have := number_any (sub s 1 (1 + n)) 8 most (by omega) (by omega) hm0 hm w (by have := sub_size (s := s) (a := 1) (b := 1 + (n : Int)) (by omega) (by omega) (by omega); omega)
              rw [bl_sub s (by omega) (by omega) (by omega), show (1 + (n : Int) - 1).toNat = n by omega] at this
              exact this) ?_
            refine xl_go tt_ok ?_
            repeat (refine And.intro ?_ ?_; first | omega | (simp only [Lay.d_n]; omega))
            rw [hN]
            refine fin1 (fun _ _ => ?_)
            show Value.tuple #[_, .int .i64 (1 + (n : Int))] = Value.tuple #[_, .int .i64 ((1 + n : Nat) : Int)]
            rw [show ((1 + n : Nat) : Int) = 1 + (n : Int) by omega]
            rfl
end Go.Proofs.YtnjmkeijjapejaaGreatDoor
namespace Go.GV
open Go.RowKit
def IterC (P : Program) (gf : Nat) (bx : List (TypeId × Value)) (xs : List Value) (u0 : Im) : Prop :=
  ∀ (bl : List Nat) (l : Nat) (Y : Nat → Wp u0) (Z : Wp u0) (w : World) (F : Nat → Prop), Rounds P l Y Z xs → Imm u0 w → (Y 0).h F w → (∀ b, F b → u0.h b = none) →
    bl.Nodup → bl.length = bx.length → (∀ j b : Nat, bl[j]? = some b → ¬ F b ∧ u0.h b = none ∧ ∃ p : TypeId × Value, bx[j]? = some p ∧ w.heap[b]? = some (.cells #[p.2] p.1 (0, 0))) →
    Calls P gf (#[.func (.yield l) #[] #[]] ++ (bl.map fun b => Value.pointer (some ⟨b, 0, none⟩)).toArray) w fun e w' => ∃ v F', e = .returned v ∧ ((Y xs.length).h F' w' ∨ Z.h F' w')
def ownBx : Nat → List (TypeId × Value) → Own
  | _, [] => []
  | k, p :: r => (k, .box p.1 [.v p.2]) :: ownBx (k + 1) r
theorem ownBx_look : ∀ {k : Nat} {bs : List (TypeId × Value)} {j : Nat} {r : Rs}, look (ownBx k bs) j = some r → k ≤ j ∧ ∃ p, bs[j - k]? = some p ∧ r = .box p.1 [.v p.2]
  | k, [], j, r, h => by cases h
  | k, p :: t, j, r, h => by
    simp only [ownBx] at h
    rw [look_cons] at h
    split at h
    · rename_i e; subst e; cases h; exact ⟨Nat.le_refl _, p, by simp, rfl⟩
    · obtain ⟨h1, q, h2, h3⟩ := ownBx_look h
      refine ⟨by omega, q, ?_, h3⟩
      rw [show j - k = (j - (k + 1)) + 1 by omega, List.getElem?_cons_succ]; exact h2
theorem ownBx_none : ∀ {k : Nat} {bs : List (TypeId × Value)} {j : Nat}, look (ownBx k bs) j = none → j < k ∨ k + bs.length ≤ j
  | k, [], j, h => by simp; omega
  | k, p :: t, j, h => by
    simp only [ownBx] at h
    rw [look_cons] at h
    split at h
    · cases h
    · have := ownBx_none h
      simp only [List.length_cons]; omega
def ptrsFrom (n : Nat) : List SV := (List.range n).map fun j => .p (j + 1) 0
theorem x_iterC {T : TT} {P : Program} (hT : TOk P T) {gf N : Nat} {fn : Func} {c : Code} (hf : P.funcs[gf]? = some fn) (hb : fn.body = some c) (hN : fn.ntmps = N)
    {bx : List (TypeId × Value)} {xs : List Value} {u0 : Im} (hle : Nat.ble (bx.length + 1) N = true)
    (h : ∀ l (Y : Nat → Wp u0) (Z : Wp u0) u, u0.ext u → Rounds P l Y Z xs → X ⟨P, none, N⟩ c (FinQ T fn.results.toList fun _ st _ => look st.ow 0 = some (.gen (Y xs.length).hp) ∨ look st.ow 0 = some (.gen Z.hp))
      ⟨knOf 0 (.v (.func (.yield l) #[] #[]) :: ptrsFrom bx.length), [], (0, .gen (Y 0).hp) :: ownBx 1 bx, bx.length + 1⟩ u) : IterC P gf bx xs u0 := by
  classical
  intro bl l Y Z w F hR himm hY0 hoff hnd hlen hbs
  let E : Env := fun k => match bl[k - 1]? with | some b => .pointer (some ⟨b, 0, none⟩) | none => undef
  have hE : ∀ j b, bl[j]? = some b → E (j + 1) = .pointer (some ⟨b, 0, none⟩) := fun j b hj => by
    show (match bl[j + 1 - 1]? with | some b => _ | none => _) = _
    rw [Nat.add_sub_cancel, hj]
  let v : Im := { h := fun b => if F b ∨ b ∈ bl then none else w.heap[b]?, os := w.os, tape := w.tape, output := w.output, lo := w.heap.size }
  have hv : ∀ b, ¬ F b → b ∉ bl → v.h b = w.heap[b]? := fun b hb hb2 => by show (if F b ∨ b ∈ bl then none else w.heap[b]?) = _; rw [if_neg (fun hh => hh.elim hb hb2)]
  have hvF : ∀ b, F b ∨ b ∈ bl → v.h b = none := fun b hb => by show (if F b ∨ b ∈ bl then none else w.heap[b]?) = _; rw [if_pos hb]
  have hbu : ∀ b ∈ bl, ¬ F b ∧ u0.h b = none := fun b hb => by
    obtain ⟨j, hj⟩ := List.getElem?_of_mem hb
    exact ⟨(hbs j b hj).1, (hbs j b hj).2.1⟩
  have huv : u0.ext v := ⟨fun b o ho => by rw [hv b (fun hF => by rw [hoff b hF] at ho; cases ho) (fun hF => by rw [(hbu b hF).2] at ho; cases ho)]; exact himm.h b o ho, himm.os, himm.tape, himm.output, himm.lo⟩
  have himmv : Imm v w := ⟨fun b o ho => by
    by_cases hb : F b ∨ b ∈ bl
    · rw [hvF b hb] at ho; cases ho
    · rw [hv b (fun h => hb (.inl h)) (fun h => hb (.inr h))] at ho; exact ho, rfl, rfl, rfl, Nat.le_refl _⟩
  let f : Nat → Nat → Prop := fun k b => (k = 0 ∧ F b) ∨ ∃ j, k = j + 1 ∧ bl[j]? = some b
  have hf0 : f 0 = F := funext fun b => propext ⟨fun h => by
    rcases h with h | ⟨j, h, _⟩
    · exact h.2
    · omega, fun h => .inl ⟨rfl, h⟩⟩
  have hsat : Sat E ((0, .gen (Y 0).hp) :: ownBx 1 bx) (bx.length + 1) v [] w f := by
    refine ⟨fun k r hl => ?_, fun k hl b hb => ?_, fun k k' b hne h1 h2 => ?_, fun k b hb => ?_, fun k r hl => ?_, himmv, [], rfl, List.nodup_nil, fun d hd => by cases hd⟩
    · rw [look_cons] at hl
      split at hl
      · rename_i e; subst e; cases hl
        show (Y 0).hp.h v (f 0) w
        rw [hf0]
        exact ⟨hY0, huv⟩
      · obtain ⟨h1, p, h2, rfl⟩ := ownBx_look hl
        have h3 : k - 1 < bl.length := by rw [hlen]; exact (List.getElem?_eq_some_iff.1 h2).1
        have h4 := List.getElem?_eq_getElem h3
        obtain ⟨q1, q2, q, q3, q4⟩ := hbs (k - 1) _ h4
        rw [h2] at q3; cases q3
        refine ⟨bl[k - 1], ?_, fun x => ⟨fun hx => ?_, fun hx => ?_⟩, ?_⟩
        · have := hE (k - 1) _ h4
          rw [show k - 1 + 1 = k by omega] at this; exact this
        · rcases hx with hx | ⟨j, hj, hx⟩
          · omega
          · have h7 : bl[k - 1]? = some x := by rw [hj]; simpa using hx
            exact Option.some.inj (h7.symm.trans h4)
        · subst hx
          exact .inr ⟨k - 1, by omega, h4⟩
        · simpa [SV.den] using q4
    · rw [look_cons] at hl
      split at hl
      · cases hl
      · rename_i e
        rcases hb with hb | ⟨j, rfl, hb⟩
        · exact e hb.1.symm
        · have h1 := ownBx_none hl
          have h2 := (List.getElem?_eq_some_iff.1 hb).1
          omega
    · rcases h1 with h1 | ⟨j, rfl, h1⟩
      · rcases h2 with h2 | ⟨j, rfl, h2⟩
        · exact hne (h1.1.trans h2.1.symm)
        · exact (hbs j b h2).1 h1.2
      · rcases h2 with h2 | ⟨i, rfl, h2⟩
        · exact (hbs j b h1).1 h2.2
        · obtain ⟨a1, a2⟩ := List.getElem?_eq_some_iff.1 h1
          obtain ⟨b1, b2⟩ := List.getElem?_eq_some_iff.1 h2
          have := (List.getElem?_inj a1 hnd).1 (h1.trans h2.symm)
          omega
    · rcases hb with hb | ⟨j, _, hb⟩
      · exact hvF b (.inl hb.2)
      · exact hvF b (.inr (List.mem_of_getElem? hb))
    · rw [look_cons] at hl
      split at hl
      · rename_i e; subst e; cases hl; exact ⟨Nat.succ_pos _, trivial⟩
      · obtain ⟨h1, p, h2, rfl⟩ := ownBx_look hl
        have := (List.getElem?_eq_some_iff.1 h2).1
        exact ⟨by omega, fun s hs => by rw [List.mem_singleton.1 hs]; trivial⟩
  refine (callsIn_wide (n := 0)).1 (callsIn_of_wp_marks hf hb trivial ?_ rfl)
  have hle' : bx.length + 1 ≤ N := Nat.le_of_ble_eq_true hle
  have hpl : (ptrsFrom bx.length).length = bx.length := by simp [ptrsFrom]
  have hargs : (#[.func (.yield l) #[] #[]] ++ (bl.map fun b => Value.pointer (some ⟨b, 0, none⟩)).toArray : Array Value) = ((SV.v (.func (.yield l) #[] #[]) :: ptrsFrom bx.length).map (SV.den E)).toArray := by
    apply Array.ext'
    simp only [List.map_cons, SV.den, Array.toList_append]
    show _ :: (bl.map fun b => Value.pointer (some ⟨b, 0, none⟩)) = _ :: (ptrsFrom bx.length).map (SV.den E)
    congr 1
    refine List.ext_getElem (by simp [ptrsFrom, hlen]) fun j h1 h2 => ?_
    have h3 : j < bl.length := by simpa using h1
    have h4 := hE j _ (List.getElem?_eq_getElem h3)
    simp [ptrsFrom, SV.den, ptrOf, h4]
  rw [hargs]
  have hlt : ∀ s ∈ (SV.v (.func (.yield l) #[] #[]) :: ptrsFrom bx.length), s.lt E (bx.length + 1) := fun s hs => by
    rcases List.mem_cons.1 hs with rfl | hs
    · trivial
    · obtain ⟨j, hj, rfl⟩ := List.mem_map.1 hs
      have h1 : j < bx.length := List.mem_range.1 hj
      have h3 : j < bl.length := by omega
      exact ⟨by omega, _, hE j _ (List.getElem?_eq_getElem h3)⟩
  have hagr : Agr N E ⟨knOf 0 (SV.v (.func (.yield l) #[] #[]) :: ptrsFrom bx.length), [], (0, .gen (Y 0).hp) :: ownBx 1 bx, bx.length + 1⟩ (((SV.v (.func (.yield l) #[] #[]) :: ptrsFrom bx.length).map (SV.den E)).toArray ++ Array.replicate (fn.ntmps - (((SV.v (.func (.yield l) #[] #[]) :: ptrsFrom bx.length).map (SV.den E)).toArray).size) undef) := by
    refine ⟨?_, ?_, fun d g s h => (by cases h), ?_, fun d g s h => (by cases h)⟩
    · rw [hN]; simp [hpl]; omega
    · intro d s _ h2
      have h3 := (knOf_look h2).2
      rw [Nat.sub_zero] at h3
      have hd : d < (SV.v (.func (.yield l) #[] #[]) :: ptrsFrom bx.length).length := (List.getElem?_eq_some_iff.1 h3).1
      rw [Array.getElem?_append_left (by simpa using hd)]
      simp only [List.getElem?_toArray, List.getElem?_map, h3, Option.map_some]
    · intro d s h2
      exact hlt s (List.mem_of_getElem? (knOf_look h2).2)
  have hX := h l Y Z v huv hR
  unfold X at hX
  refine Go.wpIn_mono (hX E { tmps := ((SV.v (.func (.yield l) #[] #[]) :: ptrsFrom bx.length).map (SV.den E)).toArray ++ Array.replicate (fn.ntmps - (((SV.v (.func (.yield l) #[] #[]) :: ptrsFrom bx.length).map (SV.den E)).toArray).size) undef, defers := [] } w ⟨hagr, _, hsat⟩) ?_
  rintro e a' w' ⟨E', st', u', h1, h2, h3, hok', h5⟩
  obtain ⟨f', hs⟩ := hok'.sat
  have fin : ∀ lr, resV T st' fn.results.toList = some lr → (look st'.ow 0 = some (.gen (Y xs.length).hp) ∨ look st'.ow 0 = some (.gen Z.hp)) →
      LeavesInM (FR none) 0 P fn a'.tmps (fun e w' => ∃ v F', e = .returned v ∧ ((Y xs.length).h F' w' ∨ Z.h F' w')) a'.defers .returning w' := by
    intro lr hl hA
    obtain ⟨ds, hds, _⟩ := hs.marks
    rw [hds] at hs ⊢
    refine leaves (C := ⟨P, none, N⟩) hT hok'.agr hl (fun w'' hw => ?_) ds w' hs
    refine ⟨_, f' 0, rfl, ?_⟩
    rcases hA with hA | hA
    · exact .inl (hw.holds 0 _ hA).1
    · exact .inr (hw.holds 0 _ hA).1
  cases e with
  | normal =>
    simp only [FinQ] at h5
    split at h5
    · rename_i l hl; exact fin l hl h5
    · exact h5.elim
  | ret =>
    simp only [FinQ] at h5
    split at h5
    · rename_i l hl; exact fin l hl h5
    · exact h5.elim
  | exit id => exact h5.elim
  | goto l => exact h5.elim
  | panic c => exact h5.elim
  | outgrown => exact h5.elim
def ownKs : List Nat → List (TypeId × Value) → Own
  | k :: ks, p :: r => (k, .box p.1 [.v p.2]) :: ownKs ks r
  | _, _ => []
theorem Sat.dropBoxes {E : Env} {o : Own} {nx : Nat} {u : Im} {df : List Deferred} {w : World} : ∀ {ks : List Nat} {bx : List (TypeId × Value)} {f : Nat → Nat → Prop}, Sat E (ownKs ks bx ++ o) nx u df w f →
    (∀ k ∈ ks, look o k = none) → ks.Nodup → ks.length = bx.length →
    ∃ (bl : List Nat) (f' : Nat → Nat → Prop), Sat E o nx u df w f' ∧ (∀ j c, f' j c → f j c) ∧ bl.Nodup ∧ bl.length = bx.length ∧
      (∀ j b : Nat, bl[j]? = some b → (∀ k, ¬ f' k b) ∧ u.h b = none ∧ (∃ k, ks[j]? = some k ∧ f k b ∧ E k = .pointer (some ⟨b, 0, none⟩)) ∧ ∃ p : TypeId × Value, bx[j]? = some p ∧ w.heap[b]? = some (.cells #[p.2] p.1 (0, 0)))
  | [], [], f, h, _, _, _ => ⟨[], f, h, fun _ _ h => h, List.nodup_nil, rfl, fun j b hj => by simp at hj⟩
  | [], _ :: _, _, _, _, _, h => by cases h
  | _ :: _, [], _, _, _, _, h => by cases h
  | k :: ks, p :: bx, f, h, hfr, hnd, hl => by
    have hl' : ks.length = bx.length := by simpa using hl
    obtain ⟨hk, hnd'⟩ := List.nodup_cons.1 hnd
    have hfree : look (ownKs ks bx ++ o) k = none := by
      have : ∀ {ks : List Nat} {bx : List (TypeId × Value)}, k ∉ ks → look o k = none → look (ownKs ks bx ++ o) k = none := by
        intro ks
        induction ks with
        | nil => intro bx _ h2; exact h2
        | cons a r ih =>
          intro bx h1 h2
          cases bx with
          | nil => exact h2
          | cons q t =>
            show look ((a, _) :: (ownKs r t ++ o)) k = none
            rw [look_cons, if_neg (fun e : a = k => h1 (by rw [e]; exact List.mem_cons_self ..))]
            exact ih (fun h => h1 (List.mem_cons_of_mem _ h)) h2
      exact this hk (hfr k (List.mem_cons_self ..))
    obtain ⟨b, hE, hF, hw⟩ := h.holds k (.box p.1 [.v p.2]) (by show look ((k, _) :: (ownKs ks bx ++ o)) k = _; rw [look_cons, if_pos rfl])
    have hs1 : Sat E (ownKs ks bx ++ o) nx u df w (fun j c => j ≠ k ∧ f j c) := Sat.dropK h hfree
    obtain ⟨bl, f', hs2, hsub, hn2, hl2, hb2⟩ := hs1.dropBoxes (fun j hj => hfr j (List.mem_cons_of_mem _ hj)) hnd' hl'
    have hkb : f k b := (hF b).2 rfl
    refine ⟨b :: bl, f', hs2, fun j c hj => (hsub j c hj).2, List.nodup_cons.2 ⟨fun hb => ?_, hn2⟩, by simp [hl2], fun j c hj => ?_⟩
    · obtain ⟨j, hj⟩ := List.getElem?_of_mem hb
      obtain ⟨_, _, ⟨k', _, hk', _⟩, _⟩ := hb2 j b hj
      exact h.apart k' k b hk'.1 hk'.2 hkb
    · cases j with
      | zero =>
        simp only [List.getElem?_cons_zero, Option.some.injEq] at hj
        subst hj
        exact ⟨fun j hj => h.apart j k b (hsub j b hj).1 (hsub j b hj).2 hkb, h.off k b hkb, ⟨k, rfl, hkb, hE⟩, p, rfl, by simpa [SV.den] using hw⟩
      | succ j =>
        rw [List.getElem?_cons_succ] at hj
        obtain ⟨h1, h2, ⟨k', h3, h4, h5⟩, h6⟩ := hb2 j c hj
        exact ⟨h1, h2, ⟨k', by rw [List.getElem?_cons_succ]; exact h3, h4.2, h5⟩, h6⟩
def ksB (nx : Nat) : List Nat → Own → Bool
  | [], _ => true
  | k :: r, o => Nat.blt k nx && (r.all (fun j => !(Nat.beq k j)) && ((look o k).isNone && ksB nx r o))
theorem ksB_ok {nx : Nat} {o : Own} : ∀ {ks : List Nat}, ksB nx ks o = true → ks.Nodup ∧ (∀ k ∈ ks, k < nx) ∧ ∀ k ∈ ks, look o k = none
  | [], _ => ⟨List.nodup_nil, fun k hk => (by cases hk), fun k hk => (by cases hk)⟩
  | k :: r, h => by
    simp only [ksB, Bool.and_eq_true] at h
    obtain ⟨h1, h2, h3, h4⟩ := h
    obtain ⟨i1, i2, i3⟩ := ksB_ok h4
    refine ⟨List.nodup_cons.2 ⟨fun hk => ?_, i1⟩, fun j hj => ?_, fun j hj => ?_⟩
    · have := List.all_eq_true.1 h2 k hk
      rw [Nat.beq_refl] at this
      cases this
    · rcases List.mem_cons.1 hj with rfl | hj
      · exact blt_lt h1
      · exact i2 j hj
    · rcases List.mem_cons.1 hj with rfl | hj
      · exact Option.isNone_iff_eq_none.1 h3
      · exact i3 j hj
theorem x_rangeC {σ τ : Type} {P : Program} {N : Nat} {g : Operand} {p : Nat} {asg body : Code} {Q : Post} {kn : Kn} {ow : Own} {nx : Nat} {u : Im} {gf : Nat} {ks : List Nat} {bx : List (TypeId × Value)} {xs : List Value}
    (hg : opd ⟨kn, [], ow, nx⟩ [] g = some (.clo gf ks)) (hfn : Fn1 P gf) (hit : IterC P gf bx xs u)
    (kn' : Kn) (hdo : σ → Own) (hdn : σ → Nat) (G : Nat → σ → Im → Prop) (hxo : τ → Own) (hxn : τ → Nat) (GX : τ → Exit → Im → Prop) (s0 : σ) (ρ0 : Ren)
    (h0 : Sub nx ρ0 ⟨kn, [], ow, nx⟩ ⟨kn', [], ownKs ks bx ++ hdo s0, hdn s0⟩) (g0 : G 0 s0 u) (hkn : kn'.all (fun x => x.2.inN nx) = true)
    (hkb : ksB nx ks (hdo s0) = true) (hkl : ks.length = bx.length)
    (hfree : ∀ s, look (hdo s) nx = none) (hfreex : ∀ t, look (hxo t) nx = none) (hnx : ∀ s, nx < hdn s) (hnxx : ∀ t, nx ≤ hxn t) (hp : Nat.blt p N = true)
    (hround : ∀ l k x s u' (Fr Fr' : Hp), xs[k]? = some x → u.le u' → G k s u' →
      X ⟨P, some l, N⟩ asg (onlyN fun st1 u1 => st1.gk = [] ∧ look st1.ow nx = some (.gen Fr) ∧ X ⟨P, some l, N⟩ body (RQ nx hdo hdn (G (k + 1)) hxo hxn GX Fr') ⟨st1.kn, [], (nx, .gen Fr') :: st1.ow, st1.nx⟩ u1)
        ⟨(p, .v x) :: kn', [], (nx, .gen Fr) :: hdo s, hdn s⟩ u')
    (hdone : ∀ s u', u.le u' → G xs.length s u' → Q .normal ⟨kn', [], hdo s, hdn s⟩ u')
    (hstop : ∀ t e u', u.le u' → GX t e u' → Q e ⟨kn', [], hxo t, hxn t⟩ u') : X ⟨P, none, N⟩ (.rangeFunc g #[p] asg body) Q ⟨kn, [], ow, nx⟩ u := by
  obtain ⟨hks, hknx, hfr0⟩ := ksB_ok hkb
  unfold X
  intro E a w hok
  obtain ⟨E1, hE1, hok1⟩ := h0.ok hok
  obtain ⟨f1, hs1⟩ := hok1.sat
  obtain ⟨bl, f0, hs0, _, hbn, hbl, hbs⟩ := hs1.dropBoxes (fun k hk => hfr0 k hk) hks hkl
  have hagr := hok1.agr
  have hgs : gs a.tmps [] := fun x hx => by cases hx
  obtain ⟨eg, _⟩ := opd_sound hok.agr hgs hg
  simp only [SV.den] at eg
  have hcaps : (ks.map fun k => ptrOf E k 0) = bl.map fun b => Value.pointer (some ⟨b, 0, none⟩) := by
    refine List.ext_getElem (by rw [List.length_map, List.length_map, hkl, hbl]) fun j h1 h2 => ?_
    rw [List.getElem_map, List.getElem_map]
    have h3 : j < bl.length := by simpa using h2
    obtain ⟨_, _, ⟨k, hk, _, hE⟩, _⟩ := hbs j bl[j] (List.getElem?_eq_getElem h3)
    have h4 : j < ks.length := by simpa using h1
    rw [List.getElem?_eq_getElem h4] at hk
    cases hk
    have h5 := hE1 ks[j] (hknx _ (List.getElem_mem h4))
    unfold ptrOf
    rw [← h5, hE]
  rw [hcaps] at eg
  obtain ⟨ds, hds, hnd, hm⟩ := hs0.marks
  refine wpIn_rangeFunc ?_
  intro fn _
  obtain ⟨D, hD⟩ : ∃ D, D = w.heap.size := ⟨_, rfl⟩
  obtain ⟨l, hl⟩ : ∃ l, l = w.heap.size + 1 := ⟨_, rfl⟩
  obtain ⟨W1, hW1⟩ : ∃ W1, W1 = (w.alloc (.deferred (some []))).alloc (.loop (recL fn a.tmps p asg body D .ready none)) := ⟨_, rfl⟩
  have hsz : W1.heap.size = w.heap.size + 2 := by rw [hW1, World.size_alloc, World.size_alloc]
  have hold : ∀ b, b < w.heap.size → W1.heap[b]? = w.heap[b]? := fun b hb => by
    rw [hW1, Below.heap_alloc _ _ _ (by rw [World.size_alloc]; omega), Below.heap_alloc _ _ _ hb]
  have hl1 : W1.heap[l]? = some (.loop (recL fn a.tmps p asg body D .ready none)) := by
    have := heap_alloc_new (w.alloc (.deferred (some []))) (.loop (recL fn a.tmps p asg body D .ready none))
    rw [World.size_alloc] at this
    rw [hW1, hl]; exact this
  have hD1 : W1.heap[D]? = some (.deferred (some [])) := by
    rw [hW1, hD, Below.heap_alloc _ _ _ (by rw [World.size_alloc]; omega)]
    exact heap_alloc_new w _
  have hult : ∀ b o, u.h b = some o → b < w.heap.size := fun b o ho => (Array.getElem?_eq_some_iff.1 (hs0.imm.h b o ho)).1
  have hflt : ∀ k b, f0 k b → b < w.heap.size := fun k b hb => hs0.fin hb
  have himm1 : Imm u W1 := ⟨fun b o ho => (hold b (hult b o ho)).trans (hs0.imm.h b o ho), by rw [hW1]; exact hs0.imm.os, by rw [hW1]; exact hs0.imm.tape, by rw [hW1]; exact hs0.imm.output, by rw [hsz]; exact Nat.le_trans hs0.imm.lo (by omega)⟩
  have hdlt : ∀ d ∈ ds, d < w.heap.size := fun d hd => (Array.getElem?_eq_some_iff.1 (hm d hd).1).1
  have hblt : ∀ b ∈ bl, b < w.heap.size := fun b hb => by
    obtain ⟨j, hj⟩ := List.getElem?_of_mem hb
    obtain ⟨_, _, _, p, _, h3⟩ := hbs j b hj
    exact (Array.getElem?_eq_some_iff.1 h3).1
  have hnone : ∀ b, w.heap.size ≤ b → u.h b = none := fun b hb => by
    cases ho : u.h b with
    | none => rfl
    | some o => have := hult b o ho; omega
  let F0 : Nat → Prop := fun b => (∃ j, f0 j b) ∨ b = l ∨ b ∈ D :: ds
  have hin0 : InL nx E1 u l (recL fn a.tmps p asg body D .ready none) (D :: ds) (hdo s0) (hdn s0) (G 0 s0) F0 W1 E1 f0 u := by
    refine ⟨g0, Im.le.refl u, fun _ _ => rfl, hs0.local (fun k b hb => hold b (hflt k b hb)) himm1 (by omega), hl1, fun d hd => ?_, hnone l (by omega), fun k hk => by have := hflt k l hk; omega, .inr (.inl rfl), fun b o ho => .inl ho, fun k b hb => .inl ⟨k, hb⟩, ?_⟩
    · rcases List.mem_cons.1 hd with rfl | hd'
      · exact ⟨hD1, hnone _ (by omega), fun k hk => by have := hflt k _ hk; omega, .inr (.inr hd)⟩
      · obtain ⟨h1, h2, h3⟩ := hm d hd'
        exact ⟨(hold d (hdlt d hd')).trans h1, h2, h3, .inr (.inr hd)⟩
    · rintro b (⟨j, hb⟩ | rfl | hb)
      · have := hflt j b hb; omega
      · omega
      · rcases List.mem_cons.1 hb with rfl | hb
        · omega
        · have := hdlt b hb; omega
  have hoff0 : ∀ b, F0 b → u.h b = none := by
    rintro b (⟨j, hb⟩ | rfl | hb)
    · exact hs0.off j b hb
    · exact hnone _ (by omega)
    · rcases List.mem_cons.1 hb with rfl | hb
      · exact hnone _ (by omega)
      · exact (hm b hb).2.1
  have hbF : ∀ j b : Nat, bl[j]? = some b → ¬ F0 b ∧ u.h b = none ∧ ∃ p : TypeId × Value, bx[j]? = some p ∧ W1.heap[b]? = some (.cells #[p.2] p.1 (0, 0)) := fun j b hj => by
    obtain ⟨h1, h2, _, p, h3, h4⟩ := hbs j b hj
    have hlt := hblt b (List.mem_of_getElem? hj)
    refine ⟨?_, h2, p, h3, (hold b hlt).trans h4⟩
    rintro (⟨k, hk⟩ | rfl | hb)
    · exact h1 k hk
    · omega
    · rcases List.mem_cons.1 hb with rfl | hb
      · omega
      · rw [(hm b hb).1] at h4; cases h4
  have hR := rounds_of (P := P) (N := N) (l := l) (keep := nx) (ue := u) (E0 := E1) (tm := a.tmps) (kn := kn') hagr hkn (D :: ds) fn p asg body D hdo hdn G hxo hxn GX hfree hfreex hnx (blt_lt hp) (xs := xs) (fun k x s u' Fr Fr' => hround l k x s u' Fr Fr')
  have hnd' : (D :: ds).Nodup := List.nodup_cons.2 ⟨fun h => by have := hdlt D h; omega, hnd⟩
  refine ⟨l, [{ target := .collected D, args := #[] }], W1, { target := .fn (.func gf) (bl.map fun b => Value.pointer (some ⟨b, 0, none⟩)).toArray, args := #[.func (.yield l) #[] #[]] }, W1, gf, #[.func (.yield l) #[] #[]] ++ (bl.map fun b => Value.pointer (some ⟨b, 0, none⟩)).toArray, W1, ?_, ?_, fun _ _ => trivial, ?_, fun h => (by cases h), ?_⟩
  · have := run_enterLoop_outer (P := P) (w := w) fn a.tmps #[p] asg body
    rw [hW1, hl, hD]; exact this
  · simp only [resolve, eg]
    simp [go_sem]
  · simp [invoke, go_sem, hfn.run]
  · refine (calls_in (hit bl l _ _ W1 F0 hR himm1 ⟨s0, E1, f0, u, hin0⟩ hoff0 hbn hbl hbF)).mono ?_
    have fin : ∀ {rec : Loop} {ow' : Own} {nx' : Nat} {G' : Im → Prop} {F' : Nat → Prop} {w3 : World} {E' : Env} {f' : Nat → Nat → Prop} {uc : Im} (o : Obj), InL nx E1 u l rec (D :: ds) ow' nx' G' F' w3 E' f' uc → nx ≤ nx' →
        Ok ⟨P, none, N⟩ E' ⟨kn', [], ow', nx'⟩ uc { a with defers := [{ target := .collected D, args := #[] }] ++ a.defers } (w3.putObj l o) := by
      intro rec ow' nx' G' F' w3 E' f' uc o hI hn
      have hoth : ∀ b, b ≠ l → (w3.putObj l o).heap[b]? = w3.heap[b]? := fun b hb => World.putObj_heap_other hb
      have hsz3 : (w3.putObj l o).heap.size = w3.heap.size := by simp [World.putObj]
      have himm : Imm uc (w3.putObj l o) := ⟨fun b x hb => by rw [hoth b (fun e => by subst e; rw [hI.lu] at hb; cases hb)]; exact hI.sat.imm.h b x hb, hI.sat.imm.os, hI.sat.imm.tape, hI.sat.imm.output, by rw [hsz3]; exact hI.sat.imm.lo⟩
      have hs4 := hI.sat.local (w' := w3.putObj l o) (fun k b hb => hoth b (fun e => by subst e; exact hI.lf k hb)) himm (Nat.le_of_eq hsz3.symm)
      refine ⟨hagr.keepE hkn hI.env hn, f', hs4.holds, hs4.non, hs4.apart, hs4.off, hs4.lt, hs4.imm, D :: ds, ?_, hnd', fun d hd => ?_⟩
      · rw [hds]; rfl
      · obtain ⟨h1, h2, h3, _⟩ := hI.ml d hd
        refine ⟨?_, h2, h3⟩
        rw [hoth d (fun e => by rw [e, hI.loop] at h1; cases h1)]
        exact h1
    rintro e w3 ⟨v, F', rfl, hY | hZ⟩
    · obtain ⟨s, E', f', uc, hI⟩ := hY
      refine ⟨none, _, run_endLoop (P := P) hI.loop (by simp [recL]), ?_⟩
      exact ⟨E', _, uc, fun k hk => (hI.env k hk).trans (hE1 k hk), Nat.le_of_lt (hnx s), hI.le, fin _ hI (Nat.le_of_lt (hnx s)), hdone s uc hI.le hI.g⟩
    · obtain ⟨⟨t, cj⟩, E', f', uc, hI⟩ := hZ
      refine ⟨some cj, _, run_endLoop (P := P) hI.loop (by simp [recL]), ?_⟩
      obtain ⟨e, hj, hgx⟩ := hI.g
      have hq : SemQ ⟨P, none, N⟩ E nx u Q e { a with defers := [{ target := .collected D, args := #[] }] ++ a.defers } (w3.putObj l (.loop { recL fn a.tmps p asg body D .done (some cj) with state := .exhausted })) :=
        ⟨E', _, uc, fun k hk => (hI.env k hk).trans (hE1 k hk), hnxx t, hI.le, fin _ hI (hnxx t), hstop t e uc hI.le hgx⟩
      show cj.wpIn (FR none) 0 P (SemQ ⟨P, none, N⟩ E nx u Q) _ _
      cases e with
      | ret => cases hj; exact wpIn_ret hq
      | exit id => cases hj; exact wpIn_exit hq
      | goto t => cases hj; exact wpIn_goto hq
      | normal => cases hj
      | panic c => cases hj
      | outgrown => cases hj
def ownAdd : Nat → List (TypeId × Value) → Own → Own
  | _, [], o => o
  | k, p :: r, o => ownAdd (k + 1) r ((k, .box p.1 [.v p.2]) :: o)
def keysFrom : Nat → Nat → List Nat
  | _, 0 => []
  | k, n + 1 => k :: keysFrom (k + 1) n
def CloAt (u : Im) (v : Value) (gf : Nat) (bx : List (TypeId × Value)) : Prop :=
  ∃ bl : List Nat, v = .func (.func gf) #[] (bl.map fun b => Value.pointer (some ⟨b, 0, none⟩)).toArray ∧ bl.Nodup ∧ bl.length = bx.length ∧
    ∀ j b : Nat, bl[j]? = some b → ∃ p : TypeId × Value, bx[j]? = some p ∧ u.h b = some (.cells #[p.2] p.1 (0, 0))
theorem Sat.addBoxes {u : Im} {df : List Deferred} {w : World} : ∀ {bx : List (TypeId × Value)} {bl : List Nat} {E : Env} {o : Own} {nx : Nat} {f : Nat → Nat → Prop}, Sat E o nx u df w f → bl.Nodup → bl.length = bx.length →
    (∀ j b : Nat, bl[j]? = some b → (∀ k, ¬ f k b) ∧ u.h b = none ∧ ∃ p : TypeId × Value, bx[j]? = some p ∧ w.heap[b]? = some (.cells #[p.2] p.1 (0, 0))) →
    ∃ (E' : Env) (f' : Nat → Nat → Prop), (∀ k, k < nx → E' k = E k) ∧ (keysFrom nx bx.length).map E' = bl.map (fun b => Value.pointer (some ⟨b, 0, none⟩)) ∧ Sat E' (ownAdd nx bx o) (nx + bx.length) u df w f'
  | [], bl, E, o, nx, f, h, _, hl, _ => by
    have : bl = [] := List.eq_nil_of_length_eq_zero hl
    subst this
    exact ⟨E, f, fun _ _ => rfl, rfl, h⟩
  | p :: bx, [], E, o, nx, f, h, _, hl, _ => by cases hl
  | p :: bx, b :: bl, E, o, nx, f, h, hnd, hl, hb => by
    obtain ⟨hbn, hnd'⟩ := List.nodup_cons.1 hnd
    obtain ⟨hf, hu, q, hq, hw⟩ := hb 0 b rfl
    cases hq
    have hE : ∀ k, k < nx → upd E nx (.pointer (some ⟨b, 0, none⟩)) k = E k := fun k hk => upd_other _ _ (by omega)
    have hnone : look o nx = none := by
      cases hl : look o nx with
      | none => rfl
      | some r => have := (h.lt nx r hl).1; omega
    have hs : Sat (upd E nx (.pointer (some ⟨b, 0, none⟩))) ((nx, .box p.1 [.v p.2]) :: o) (nx + 1) u df w (upd f nx (fun c => c = b)) := by
      refine ⟨fun k r hl => ?_, fun k hl c hc => ?_, fun k k' c hne h1 h2 => ?_, fun k c hc => ?_, fun k r hl => ?_, h.imm, ?_⟩
      · rw [look_cons] at hl
        split at hl
        · rename_i e; subst e; cases hl
          refine ⟨b, upd_same .., fun x => by rw [upd_same], by simpa [SV.den] using hw⟩
        · rename_i e
          obtain ⟨h1, h2⟩ := h.lt k r hl
          rw [upd_other _ _ (by omega)]
          exact Rs.holds_congr hE h1 h2 (h.holds k r hl)
      · rw [look_cons] at hl
        split at hl
        · cases hl
        · rename_i e
          rw [upd_other _ _ (Ne.symm e)] at hc
          exact h.non k hl c hc
      · by_cases e : k = nx
        · subst e
          rw [upd_same] at h1
          rw [upd_other _ _ (Ne.symm hne)] at h2
          subst h1
          exact hf k' h2
        · rw [upd_other _ _ e] at h1
          by_cases e' : k' = nx
          · subst e'
            rw [upd_same] at h2
            subst h2
            exact hf k h1
          · rw [upd_other _ _ e'] at h2
            exact h.apart k k' c hne h1 h2
      · by_cases e : k = nx
        · subst e; rw [upd_same] at hc; subst hc; exact hu
        · rw [upd_other _ _ e] at hc; exact h.off k c hc
      · rw [look_cons] at hl
        split at hl
        · rename_i e; subst e; cases hl
          exact ⟨Nat.lt_succ_self _, fun s hs => by rw [List.mem_singleton.1 hs]; trivial⟩
        · obtain ⟨h1, h2⟩ := h.lt k r hl
          exact ⟨by omega, Rs.lt_mono hE (Nat.le_succ _) h2⟩
      · obtain ⟨ds, h1, h2, h3⟩ := h.marks
        refine ⟨ds, h1, h2, fun d hd => ⟨(h3 d hd).1, (h3 d hd).2.1, fun k hk => ?_⟩⟩
        by_cases e : k = nx
        · subst e; rw [upd_same] at hk; subst hk
          rw [(h3 d hd).1] at hw; cases hw
        · rw [upd_other _ _ e] at hk; exact (h3 d hd).2.2 k hk
    obtain ⟨E', f', h1, h2, h3⟩ := hs.addBoxes (bx := bx) (bl := bl) hnd' (by simpa using hl) (fun j c hj => by
      obtain ⟨a1, a2, a3⟩ := hb (j + 1) c (by rw [List.getElem?_cons_succ]; exact hj)
      rw [List.getElem?_cons_succ] at a3
      refine ⟨fun k hk => ?_, a2, a3⟩
      by_cases e : k = nx
      · subst e; rw [upd_same] at hk; subst hk
        exact hbn (List.mem_of_getElem? hj)
      · rw [upd_other _ _ e] at hk; exact a1 k hk)
    refine ⟨E', f', fun k hk => (h1 k (by omega)).trans (hE k hk), ?_, by rw [show nx + (p :: bx).length = nx + 1 + bx.length by simp; omega]; exact h3⟩
    show E' nx :: (keysFrom (nx + 1) bx.length).map E' = _ :: _
    rw [h2, h1 nx (by omega), upd_same]
theorem keysFrom_mem : ∀ {n k j : Nat}, j ∈ keysFrom k n → k ≤ j ∧ j < k + n
  | 0, k, j, h => by cases h
  | n + 1, k, j, h => by
    rcases List.mem_cons.1 h with rfl | h
    · omega
    · have := keysFrom_mem h; omega
theorem xl_callClo {C : Cx} {all : List Oper} {o : Oper} {r : List Oper} {Q : Post} {kn : Kn} {gk : List (Nat × (Gd × SV))} {ow : Own} {nx : Nat} {u : Im} {c : Call} (gf : Nat) (bx : List (TypeId × Value)) (ks : List Nat) (n : Nat) (hks : keysFrom nx bx.length = ks) (hn : nx + bx.length = n) (ho : o.op = .call c) (hgd : o.guard = none) {f d : Nat} (hd : o.dst = some d)
    (hc : callee ⟨kn, gk, ow, nx⟩ c = some f) (hfn : Fn1 C.P f) {ss : List SV} (hargs : argsOf ⟨kn, gk, ow, nx⟩ [] c.args.toList = some ss) (hfr : fresh C.N ⟨kn, gk, ow, nx⟩ d [] = true)
    (H : ∀ E w F, Sat E ow nx u [] w F → Calls C.P f (ss.map (SV.den E)).toArray w (PureP w fun v u => CloAt u v gf bx))
    (K : XL C all r Q ⟨(d, .clo gf ks) :: kn, gk, ownAdd nx bx ow, n⟩ u) :
    XL C all (o :: r) Q ⟨kn, gk, ow, nx⟩ u := by
  subst hks hn
  unfold XL at K ⊢
  intro E a w hok
  obtain ⟨fF, hsat⟩ := hok.sat
  refine call_core _ ho hgd hc hfn hargs H hok hsat fun v w' hbel hR => ?_
  obtain ⟨bl, rfl, hnd, hlen, hbs⟩ := hR
  have hk := hsat.keep hbel
  have hnew : ∀ b o, (cut w.heap.size (im w')).h b = some o → w.heap.size ≤ b ∧ w'.heap[b]? = some o := fun b o hb => by
    simp only [cut] at hb
    split at hb
    · cases hb
    · rename_i h1; exact ⟨Nat.le_of_not_lt h1, hb⟩
  obtain ⟨E', f', hE, hmap, hsat'⟩ := hk.addBoxes hnd hlen (fun j b hj => by
    obtain ⟨p, h1, h2⟩ := hbs j b hj
    obtain ⟨h3, h4⟩ := hnew b _ h2
    refine ⟨fun k hkb => ?_, ?_, p, h1, h4⟩
    · have := hsat.fin hkb; omega
    · cases hub : u.h b with
      | none => rfl
      | some o => have := (Array.getElem?_eq_some_iff.1 (hsat.imm.h b o hub)).1; omega)
  have hg := hok.agr.grow (E' := E') (ow := ownAdd nx bx ow) (nx := nx + bx.length) hE (Nat.le_add_right _ _)
  have hden : (SV.clo gf (keysFrom nx bx.length)).den E' = .func (.func gf) #[] (bl.map fun b => Value.pointer (some ⟨b, 0, none⟩)).toArray := by
    simp only [SV.den]
    congr 2
    rw [← hmap]
    refine List.map_congr_left fun k hk => ?_
    have : E' k ∈ bl.map fun b => Value.pointer (some ⟨b, 0, none⟩) := by rw [← hmap]; exact List.mem_map_of_mem hk
    obtain ⟨b, _, hb⟩ := List.mem_map.1 this
    unfold ptrOf
    rw [← hb]
  have hput : Agr C.N E' (St.put ⟨kn, gk, ownAdd nx bx ow, nx + bx.length⟩ d [] (.clo gf (keysFrom nx bx.length))) (a.tmps.setIfInBounds d (.func (.func gf) #[] (bl.map fun b => Value.pointer (some ⟨b, 0, none⟩)).toArray)) := by
    refine hg.put (g := []) hfr (fun _ k hk => ?_) (fun _ => hden.symm) (fun hn => absurd (fun x hx => (by cases hx)) hn) (fun _ => hden.symm)
    have h1 := keysFrom_mem hk
    have : E' k ∈ bl.map fun b => Value.pointer (some ⟨b, 0, none⟩) := by rw [← hmap]; exact List.mem_map_of_mem hk
    obtain ⟨b, _, hb⟩ := List.mem_map.1 this
    exact ⟨by show k < nx + bx.length; omega, _, hb.symm⟩
  rw [hd]
  have := K E' (a.put (some d) _) w' ⟨⟨hput.size, hput.kn, hput.gk, hput.klt, hput.glt⟩, _, hsat'⟩
  exact wpListIn_monoQ (fun e a w => SemQ.mono hE (Nat.le_add_right _ _) (Im.le.refl u)) _ _ _ this
end Go.GV
namespace Go.Proofs.YtnjmkeijjapejaaGreatDoor
open Go.GV Go.RowKit
theorem numF_ge (b most : Int) (hb : 0 ≤ b) : ∀ (L : List Int) (v : Int), 0 ≤ v → -1 ≤ numF b most v L
  | [], v, h => by simp only [numF]; omega
  | c :: r, v, h => by
    have := dg_range c
    have h1 : 0 ≤ v * b := Int.mul_nonneg h hb
    simp only [numF]
    split
    · omega
    · exact numF_ge b most hb r _ (by omega)
theorem elemP_ok (most : Int) : ∀ L : List Int, (∀ c ∈ L, 0 ≤ c) → L ≠ [] → 1 ≤ (elemP most L).2 ∧ (elemP most L).2 ≤ L.length ∧ -1 ≤ (elemP most L).1
  | [], _, h => absurd rfl h
  | c :: r, hc, _ => by
    have hc0 := hc c (List.mem_cons_self ..)
    simp only [elemP]
    split
    · simp; omega
    · cases r with
      | nil => simp
      | cons d q =>
        simp only
        have hs := simR_range d
        split
        · rename_i h; simp; omega
        · split
          · have h1 := runB_le 16 q
            split
            · simp
            · have := numF_ge 16 most (by omega) (q.take (runB 16 q)) 0 (Int.le_refl _)
              simp only [List.length_cons]; omega
          · have h1 := runB_le 8 ((d :: q).take 3)
            rw [List.length_take] at h1
            simp only [List.length_cons] at h1
            split
            · simp
            · have := numF_ge 8 most (by omega) ((d :: q).take (runB 8 ((d :: q).take 3))) 0 (Int.le_refl _)
              simp only [List.length_cons]; omega
def ysF (most : Int) : Nat → List Int → List Int
  | 0, _ => []
  | _, [] => []
  | n + 1, c :: r => if (elemP most (c :: r)).1 < 0 then [(elemP most (c :: r)).1] else (elemP most (c :: r)).1 :: ysF most n ((c :: r).drop (elemP most (c :: r)).2)
def ysL (most : Int) (L : List Int) : List Int := ysF most L.length L
theorem ysF_nil (most : Int) (n : Nat) : ysF most n [] = [] := by cases n <;> rfl
theorem bl_pos {s : ByteArray} : ∀ c ∈ bl s, 0 ≤ c := by
  intro c hc
  obtain ⟨b, _, rfl⟩ := List.mem_map.1 hc
  omega
theorem bl_ne {s : ByteArray} (h : 0 < s.size) : bl s ≠ [] := fun hn => by
  have := bl_len s
  rw [hn] at this
  simp at this; omega
def numV (v : Int) : Value := .int .i64 v
set_option maxRecDepth 100000 in
theorem elements_iter (s : ByteArray) (most : Int) (u0 : Im) (hm0 : 0 ≤ most) (hm : most ≤ 4294967295) (hs : s.size ≤ 140737488355328) :
    IterC Tryz.prog 66 [(9, .string s), (2, .int .i64 most)] ((ysL most (bl s)).map numV) u0 := by
  refine x_iterC tt_ok Tryz.func66 rfl rfl rfl (fun l Y Z u hu hR => ?_)
  refine x_vc tt_ok ?_
  refine x_loop (σ := Nat × ByteArray) (fun (k, r) => ⟨[(0, .v (.func (.yield l) #[] #[])), (1, .p 1 0), (2, .p 2 0)], [], [(0, .gen (Y k).hp), (1, .box 9 [.v (.string r)]), (2, .box 2 [.v (.int .i64 most)])], 3⟩)
    (fun (k, r) _ => r.size ≤ 140737488355328 ∧ ∃ n pre, pre.length = k ∧ ysL most (bl s) = pre ++ ysF most n (bl r) ∧ r.size ≤ n) (fun (_, r) => r.size) (fun (_, _) => Nat.le_refl _) (0, s) [] (.of rfl rfl rfl rfl rfl rfl)
    ⟨hs, (bl s).length, [], rfl, rfl, by rw [bl_len]; exact Nat.le_refl _⟩ ?_
  rintro ⟨k, r⟩ u2 hu2 ⟨g0, n, pre, g1, g2, g3⟩
  refine x_vc tt_ok ?_
  refine x_if (fun h => ?_) (fun h => ?_)
  · have hz := ne_size h
    obtain ⟨q1, q2, q3⟩ := elemP_ok most (bl r) bl_pos (bl_ne (by omega))
    rw [bl_len] at q2
    obtain ⟨m, rfl⟩ : ∃ m, n = m + 1 := ⟨n - 1, by omega⟩
    have hstep : ysF most (m + 1) (bl r) = if (elemP most (bl r)).1 < 0 then [(elemP most (bl r)).1] else (elemP most (bl r)).1 :: ysF most m ((bl r).drop (elemP most (bl r)).2) := by
      obtain ⟨c, t, hct⟩ := List.exists_cons_of_ne_nil (bl_ne (s := r) (by omega))
      rw [hct]; rfl
    refine xl_call0 (.tuple #[.int .i64 (elemP most (bl r)).1, .int .i64 (elemP most (bl r)).2]) rfl rfl rfl rfl fn67 rfl rfl (fun E w F _ => element_any r most (by omega) hm0 hm w g0) ?_
    refine xl_go tt_ok ?_
    have hdr : (bl r).drop (elemP most (bl r)).2 = bl (sub r (elemP most (bl r)).2 r.size) := by
      rw [bl_rest r (by omega) (by omega), ← tl_zero, tl_drop r (Int.le_refl _), Int.zero_add]
    rw [hdr] at hstep
    generalize elemP most (bl r) = e at *
    have hx : ((ysL most (bl s)).map numV)[k]? = some (numV e.1) := by
      rw [List.getElem?_map, g2, List.getElem?_append_right (by omega), g1, Nat.sub_self, hstep]
      split <;> rfl
    refine xl_yield (kY := 0) rfl hR rfl rfl rfl rfl rfl rfl rfl rfl hx ?_ ?_
    · refine xl_go tt_ok ?_
      refine x_if (fun h4 => ?_) (fun h4 => ?_)
      · have h4 : e.1 < 0 := of_decide_eq_true h4
        rw [if_pos h4] at hstep
        have hk : ((ysL most (bl s)).map numV).length = k + 1 := by rw [List.length_map, g2, hstep, List.length_append, g1]; rfl
        exact .inl (by rw [hk]; rfl)
      · have h4 : ¬ e.1 < 0 := of_decide_eq_false h4
        rw [if_neg h4] at hstep
        have hz2 := sub_size (s := r) (a := (e.2 : Int)) (b := r.size) (by omega) (by omega) (by omega)
        repeat (refine And.intro ?_ ?_; first | omega | (simp only [Lay.d_n]; omega))
        refine again (k + 1, sub r e.2 r.size) [] (.of rfl rfl rfl rfl rfl rfl) ⟨by omega, m, pre ++ [e.1], by rw [List.length_append, g1]; rfl, by rw [g2, hstep]; simp, by omega⟩ (by simp only; omega)
    · refine xl_go tt_ok ?_
      refine x_ift rfl ?_
      exact .inr rfl
  · have hz : r = ⟨#[]⟩ := Classical.byContradiction fun hn => by have := of_decide_eq_false h; exact this hn
    subst hz
    rw [show bl ⟨#[]⟩ = [] from rfl, ysF_nil, List.append_nil] at g2
    have hk : ((ysL most (bl s)).map numV).length = k := by rw [List.length_map, g2, g1]
    exact .inl (by rw [hk]; rfl)
set_option maxRecDepth 100000 in
theorem elementsFn_any (s : ByteArray) (most : Int) (w : World) : Calls Tryz.prog 42 #[.string s, .int .i64 most] w (PureP w fun v u => CloAt u v 66 [(9, .string s), (2, .int .i64 most)]) := by
  refine x_fun tt_ok Tryz.func42 rfl rfl [] 0 [.v (.string s), .v (.int .i64 most)] rfl rfl rfl rfl (fun b hb => by cases hb) ?_
  refine x_vc tt_ok ?_
  refine finP (fun E w' F hs hu => ?_)
  obtain ⟨b1, e1, h1⟩ := hs.boxNew (k := 0) rfl hu
  obtain ⟨b2, e2, h2⟩ := hs.boxNew (k := 1) rfl hu
  have hne : b1 ≠ b2 := fun hb => by
    subst hb
    obtain ⟨c1, q1, q2, _⟩ := hs.holds 0 _ rfl
    obtain ⟨c2, q3, q4, _⟩ := hs.holds 1 _ rfl
    rw [e1] at q1; rw [e2] at q3
    cases q1; cases q3
    exact hs.apart 0 1 b1 (by omega) ((q2 b1).2 rfl) ((q4 b1).2 rfl)
  refine ⟨[b1, b2], ?_, by simp [hne], rfl, fun j b hj => ?_⟩
  · simp [SV.den, tupV, ptrOf, e1, e2]
  · match j, hj with
    | 0, hj => cases hj; exact ⟨_, rfl, h1⟩
    | 1, hj => cases hj; exact ⟨_, rfl, h2⟩
    | j + 2, hj => simp at hj
end Go.Proofs.YtnjmkeijjapejaaGreatDoor
namespace Go.Proofs.YtnjmkeijjapejaaGreatDoor
open Go.GV Go.RowKit
def qOf (k : Int) : Int := if k = 3 then 39 else 34
theorem one_litQ {l : Lx.Bs} {k : Int} (h : Lx.oneL l = some k) (hk : k = 3 ∨ k = 4) : Lx.litQ l = (k, l.length) := by
  obtain ⟨c, r, e, _, hi⟩ := Lx.oneL_iff.1 h
  have hb : (Lx.bestL l).1 = k ∧ (Lx.bestL l).2 = l.length := by
    unfold Lx.itemP at hi
    rw [if_neg (by simp)] at hi
    split at hi
    · split at hi
      · simp at hi <;> omega
      · simp at hi <;> omega
    · split at hi
      · simp at hi <;> omega
      · split at hi
        · simp at hi <;> omega
        · split at hi
          · simp at hi; exact hi
          · split at hi
            · simp at hi <;> omega
            · simp at hi <;> omega
  unfold Lx.bestL at hb
  split at hb
  · exact Prod.ext hb.1 hb.2
  · split at hb
    · simp at hb <;> omega
    · split at hb
      · simp at hb <;> omega
      · split at hb
        · simp at hb <;> omega
        · simp at hb <;> omega
theorem lit_form {l : Lx.Bs} {k : Int} (h : Lx.oneL l = some k) (hk : k = 3 ∨ k = 4) :
    Lx.prefN l + 2 ≤ l.length ∧ (k = 3 → Lx.prefN l + 3 ≤ l.length) ∧ l[Lx.prefN l]? = some (qOf k) ∧ l.take (Lx.prefN l) ∈ Lx.pre34 := by
  have hq := one_litQ h hk
  have hq0 := hq
  unfold Lx.litQ at hq
  cases hd : l[Lx.prefN l]? with
  | none =>
    rw [Lx.drop_nil_of hd] at hq
    simp at hq <;> omega
  | some q =>
    rw [Lx.drop_cons_of hd] at hq
    have hb := Lx.bodyN_le q (l.drop (Lx.prefN l + 1))
    rw [List.length_drop] at hb
    obtain ⟨p, hp, hpl, hpt⟩ := Lx.pref_mem l
    have main : (q = 39 ∨ q = 34) → l.take (Lx.prefN l) ∈ Lx.pre34 := fun hqq => by
      rw [(hpt q hd hqq).1]; exact hp
    simp only at hq
    by_cases h34 : q = 34
    · subst h34
      rw [if_pos rfl] at hq
      split at hq
      · simp at hq <;> omega
      · rename_i n hn
        simp only [Prod.mk.injEq] at hq
        have : k = 4 := hq.1.symm
        subst this
        exact ⟨by omega, fun hh => by omega, rfl, main (.inr rfl)⟩
    · rw [if_neg h34] at hq
      by_cases h39 : q = 39
      · subst h39
        rw [if_pos rfl] at hq
        split at hq
        · simp at hq <;> omega
        · simp at hq <;> omega
        · rename_i n hn
          simp only [Prod.mk.injEq] at hq
          have : k = 3 := hq.1.symm
          subst this
          exact ⟨by omega, fun _ => by omega, rfl, main (.inl rfl)⟩
      · rw [if_neg h39] at hq
        simp at hq <;> omega
theorem pre_noq : ∀ p ∈ Lx.pre34, ∀ c ∈ p, c ≠ 39 ∧ c ≠ 34 := by decide
theorem indexByte_at : ∀ (l : List UInt8) (n : Nat) (q : Int), 0 ≤ q → q ≤ 255 → (∀ c ∈ (l.map fun b => (b.toNat : Int)).take n, c ≠ q) → (l.map fun b => (b.toNat : Int))[n]? = some q → Lib.indexByte l q.toNat.toUInt8 = n
  | [], n, q, _, _, _, h => by simp at h
  | b :: r, n, q, h0, h1, hn, h => by
    have hq : (q.toNat.toUInt8).toNat = q.toNat := by rw [Nat.toUInt8, UInt8.toNat_ofNat']; omega
    rw [Lib.indexByte]
    cases n with
    | zero =>
      simp only [List.map_cons, List.getElem?_cons_zero, Option.some.injEq] at h
      have e : (b == q.toNat.toUInt8) = true := by
        rw [beq_iff_eq, ← UInt8.toNat_inj, hq]; omega
      rw [e]; rfl
    | succ n =>
      simp only [List.map_cons, List.take_succ_cons, List.getElem?_cons_succ] at hn h
      have hb := hn _ (List.mem_cons_self ..)
      have e : (b == q.toNat.toUInt8) = false := by
        rw [beq_eq_false_iff_ne]
        intro e
        rw [e, hq] at hb
        exact hb (by omega)
      have ih := indexByte_at r n q h0 h1 (fun c hc => hn c (List.mem_cons_of_mem _ hc)) h
      rw [e, ih]
      have e2 : ((n : Int) == -1) = false := by rw [beq_eq_false_iff_ne]; omega
      rw [e2]
      simp
def pfN (s : ByteArray) : Nat := Lx.prefN (bl s)
theorem oneP_one {s : ByteArray} {k : Int} (h : (oneP s).1 = k) (hk : k = 3 ∨ k = 4) : Lx.oneL (bl s) = some k := by
  unfold oneP at h
  cases ho : Lx.oneL (bl s) with
  | none => rw [ho] at h; simp only at h; omega
  | some j => rw [ho] at h; simp only at h; rw [h]
theorem lit_at {s : ByteArray} {k : Int} (h : (oneP s).1 = k) (hk : k = 3 ∨ k = 4) :
    pfN s + 2 ≤ s.size ∧ (k = 3 → pfN s + 3 ≤ s.size) ∧ bt s (pfN s) = qOf k ∧ Lib.indexByte s.data.toList (qOf k).toNat.toUInt8 = pfN s ∧ ∀ i : Nat, i < pfN s → bt s i ≠ 39 ∧ bt s i ≠ 34 := by
  obtain ⟨h1, h2, h3, h4⟩ := lit_form (oneP_one h hk) hk
  rw [bl_len] at h1 h2
  have hno := pre_noq _ h4
  have hq : 0 ≤ qOf k ∧ qOf k ≤ 255 ∧ (qOf k = 39 ∨ qOf k = 34) := by unfold qOf; split <;> omega
  refine ⟨h1, h2, ?_, ?_, fun i hi => ?_⟩
  · have := bl_get s (n := Lx.prefN (bl s)) (by omega)
    rw [h3] at this
    exact (Option.some.inj this).symm
  · refine indexByte_at s.data.toList _ _ hq.1 hq.2.1 (fun c hc => ?_) h3
    have := hno c hc
    rcases hq.2.2 with e | e <;> rw [e]
    · exact this.1
    · exact this.2
  · have h5 := bl_get s (n := i) (by unfold pfN at hi; omega)
    have hi' : i < Lx.prefN (bl s) := hi
    exact hno _ (List.mem_of_getElem? (i := i) (by rw [List.getElem?_take_of_lt hi']; exact h5))
def limP (p : ByteArray) : Int := if p = ⟨#[117]⟩ then 65535 else if p = ⟨#[85]⟩ then 4294967295 else if p = ⟨#[76]⟩ then 4294967295 else 255
theorem limP_range (p : ByteArray) : 255 ≤ limP p ∧ limP p ≤ 4294967295 := by
  unfold limP
  (repeat' split) <;> omega
set_option maxRecDepth 100000 in
theorem limit_any (p : ByteArray) (w : World) : Calls Tryz.prog 43 #[.string p] w (PureP w fun v _ => v = .int .i64 (limP p)) := by
  refine x_fun tt_ok Tryz.func43 rfl rfl [] 0 [.v (.string p)] rfl rfl rfl rfl (fun b hb => by cases hb) ?_
  refine x_vc tt_ok ?_
  refine x_if (fun h => ?_) (fun h => ?_)
  · have h := of_decide_eq_true h
    subst h
    exact fin1 (fun _ _ => rfl)
  · have h1 := of_decide_eq_false h
    refine x_if (fun h => ?_) (fun h => ?_)
    · have h := of_decide_eq_true h
      subst h
      refine x_ift rfl ?_
      exact fin1 (fun _ _ => rfl)
    · have h2 := of_decide_eq_false h
      refine x_if (fun h => ?_) (fun h => ?_)
      · have h := of_decide_eq_true h
        subst h
        exact fin1 (fun _ _ => rfl)
      · have h3 := of_decide_eq_false h
        have e : limP p = 255 := by unfold limP; rw [if_neg h1, if_neg h2, if_neg h3]
        rw [e]
        exact fin1 (fun _ _ => rfl)
end Go.Proofs.YtnjmkeijjapejaaGreatDoor
namespace Go.Proofs.YtnjmkeijjapejaaGreatDoor
open Go.GV Go.RowKit
def inT (s : ByteArray) : ByteArray := sub s (pfN s + 1) ((s.size : Int) - 1)
def topT (s : ByteArray) : Int := limP (sub s 0 (pfN s))
def ysT (s : ByteArray) : List Int := ysL (topT s) (bl (inT s))
def okY (ys : List Int) : Bool := ys.all fun v => decide (0 ≤ v)
def strE (s : ByteArray) : Int := if (oneP s).1 = 4 then (if okY (ysT s) = true then 0 else 40) else 40
def strL (s : ByteArray) : List Int := if strE s = 0 then ysT s else []
theorem ysF_len (most : Int) : ∀ (n : Nat) (L : List Int), (ysF most n L).length ≤ n
  | 0, L => Nat.le_refl 0
  | n + 1, [] => Nat.zero_le _
  | n + 1, c :: r => by
    simp only [ysF]
    split
    · simp
    · have := ysF_len most n ((c :: r).drop (elemP most (c :: r)).2)
      simp only [List.length_cons]; omega
theorem okY_take {ys : List Int} {k : Nat} {v : Int} (hv : ys[k]? = some v) (h : v < 0) : okY ys = false := by
  unfold okY
  rw [List.all_eq_false]
  exact ⟨v, List.mem_of_getElem? hv, by simp; omega⟩
theorem okY_step {ys : List Int} {k : Nat} {v : Int} (hv : ys[k]? = some v) (h : 0 ≤ v) (hk : okY (ys.take k) = true) : okY (ys.take (k + 1)) = true := by
  unfold okY at hk ⊢
  rw [take_get hv, List.all_append, hk]
  simp [h]
set_option maxRecDepth 100000 in
theorem str_any (s : ByteArray) (w : World) (hs : s.size ≤ 4294967280) (hg : Glob (im w)) :
    Calls Tryz.prog 32 #[.string s] w (PureP w (OwnT 2 (intY.d (strL s)) [.int .i64 (strE s)])) := by
  refine x_fun tt_ok Tryz.func32 rfl rfl [] 0 [.v (.string s)] rfl rfl rfl rfl (fun b hb => by cases hb) ?_
  refine x_vc tt_ok ?_
  refine xl_call0 (.tuple #[.int .i64 (oneP s).1, .bool (oneP s).2]) rfl rfl rfl rfl fn40 rfl rfl (fun E w F hs' => one_any s hs w (hg.imm hs'.imm)) ?_
  refine xl_go tt_ok ?_
  refine x_if (fun h => ?_) (fun h => ?_)
  · have h : (oneP s).1 ≠ 4 := of_decide_eq_true h
    have e1 : strE s = 40 := by unfold strE; rw [if_neg h]
    have e2 : strL s = [] := by unfold strL; rw [e1, if_neg (by omega)]
    rw [e1, e2]
    exact finO2n intY
  · have h : (oneP s).1 = 4 := Classical.not_not.1 (of_decide_eq_false h)
    obtain ⟨q1, _, q3, q4, q5⟩ := lit_at h (.inr rfl)
    have e1 : strE s = if okY (ysT s) = true then 0 else 40 := by unfold strE; rw [if_pos h]
    have e2 : strL s = if strE s = 0 then ysT s else [] := rfl
    have hlr := limP_range (sub s 0 (pfN s))
    refine xl_call0 (.int .i64 (pfN s)) rfl rfl rfl rfl fn41 rfl rfl (fun E w F _ => by rw [← q4]; exact pure_of (Tryz.strings_IndexByte s 34 w)) ?_
    refine xl_go tt_ok ?_
    refine x_drawA mix ?_
    refine xa_pures tt_ok (fuel := 7) [0, 1, 3, 7, 8] rfl (by kernel_rfl) (by kernel_rfl) (fun _ _ _ hh => hh) (by kernel_rfl) (by kernel_rfl) ?_
    repeat (refine And.intro ?_ ?_; first | omega | (simp only [Lay.d_n]; omega))
    refine xa_phase tt_ok (fuel := 1) [2, 4, 5, 6, 9, 10] rfl (by kernel_rfl) (by kernel_rfl) (by kernel_rfl) (by kernel_rfl) ?_
    refine xd_go tt_ok ?_
    repeat (refine And.intro ?_ ?_; first | omega | (simp only [Lay.d_n]; omega))
    refine xd_call0 (.int .i64 (topT s)) rfl rfl rfl rfl fn43 rfl rfl (fun _ E w F _ => limit_any _ w) ?_
    refine xd_go tt_ok ?_
    refine xa_one 11 (by kernel_rfl) rfl ?_
    refine xl_callClo 66 [(9, .string (inT s)), (2, .int .i64 (topT s))] [3, 4] 5 rfl rfl rfl rfl rfl rfl fn42 rfl rfl (fun E w F _ => elementsFn_any (inT s) (topT s) w) ?_
    refine xl_end ?_
    refine xa_done (by kernel_rfl) rfl ?_
    have hit := fun u0 => elements_iter (inT s) (topT s) u0 (by have := hlr.1; unfold topT; omega) hlr.2 (by
      have := sub_size (s := s) (a := (pfN s : Int) + 1) (b := (s.size : Int) - 1) (by omega) (by omega) (by omega)
      unfold inT; omega)
    have hyl : (ysT s).length ≤ 4294967280 := by
      have h1 := ysF_len (topT s) (bl (inT s)).length (bl (inT s))
      rw [bl_len] at h1
      have := sub_size (s := s) (a := (pfN s : Int) + 1) (b := (s.size : Int) - 1) (by omega) (by omega) (by omega)
      have h2 : ((inT s).size : Int) = (s.size : Int) - 1 - (pfN s + 1) := this
      have h3 : (ysT s).length ≤ (inT s).size := by
        unfold ysT ysL
        rw [bl_len]
        exact h1
      omega
    change ∀ u0, IterC Tryz.prog 66 [(9, .string (inT s)), (2, .int .i64 (topT s))] ((ysT s).map numV) u0 at hit
    generalize ysT s = ys at hit hyl e1 e2
    refine x_nilCell 2 2 intY [] [] rfl ?_
    refine x_rangeC (σ := List Int) (τ := List Int) rfl fn66 (hit _) [(7, .p 2 0), (3, .p 1 0), (2, .p 0 0)]
      (fun L => [(0, .box 80 [.v (.slice none 0 0)]), (1, .box 26 [.v (.int .i64 0)]), (2, .box 80 [.r 7]), (7, .row 2 (intY.d L))]) (fun _ => 8)
      (fun k L _ => L = ys.take k ∧ okY (ys.take k) = true)
      (fun L => [(0, .box 80 [.v (.slice none 0 0)]), (1, .box 26 [.v (.int .i64 40)]), (2, .box 80 [.r 7]), (7, .row 2 (intY.d L))]) (fun _ => 8)
      (fun _ e _ => e = .ret ∧ okY ys = false) [] [(7, some 5)] (.of rfl rfl rfl rfl rfl rfl) ⟨rfl, rfl⟩ rfl rfl rfl
      (fun _ => rfl) (fun _ => rfl) (fun _ => Nat.lt_succ_of_lt (Nat.lt_succ_self 6)) (fun _ => Nat.le_succ_of_le (Nat.le_succ 6)) rfl (fun l k x L u3 Fr Fr' hx hu3 hgr => ?_) (fun L u3 hu3 hgr => ?_) (fun _ e u3 hu3 hgr => ?_)
    · rw [List.getElem?_map] at hx
      obtain ⟨v, hv, rfl⟩ := Option.map_eq_some_iff.1 hx
      obtain ⟨g1, g2⟩ := hgr
      have hk := (List.getElem?_eq_some_iff.1 hv).1
      have hLl : L.length ≤ k := by rw [g1, List.length_take]; omega
      refine x_vc tt_ok ?_
      refine ⟨rfl, rfl, x_vc tt_ok ?_⟩
      refine x_if (fun h1 => ?_) (fun h1 => ?_)
      · have h1 : v < 0 := of_decide_eq_true h1
        exact ⟨L, [], .of rfl rfl rfl rfl rfl rfl, rfl, okY_take hv h1⟩
      · have h1 : ¬ v < 0 := of_decide_eq_false h1
        refine xl_push tt_ok intY L v 8 (cs := [.int .i64 v]) rfl rfl rfl rfl rfl rfl rfl rfl rfl rfl rfl rfl (by kernel_rfl) rfl rfl rfl rfl rfl (fun n hn => by cases hn; decide) rfl rfl rfl (by omega) (by omega) ?_
        refine xl_go tt_ok ?_
        exact ⟨L ++ [v], [(7, some 8)], .of rfl rfl rfl rfl rfl rfl, by rw [g1, take_get hv], okY_step hv (by omega) g2⟩
    · obtain ⟨g1, g2⟩ := hgr
      rw [List.length_map, List.take_length] at g1 g2
      rw [if_pos g2] at e1
      rw [e1, if_pos rfl] at e2
      rw [e1, e2, ← g1]
      exact finO2 rfl
    · obtain ⟨rfl, g2⟩ := hgr
      rw [if_neg (by rw [g2]; simp)] at e1
      rw [e1, if_neg (by omega)] at e2
      rw [e1, e2]
      exact finO2n intY
end Go.Proofs.YtnjmkeijjapejaaGreatDoor
namespace Go.Proofs.YtnjmkeijjapejaaGreatDoor
open Go.GV Go.RowKit
theorem numF_le (b most : Int) (hb : 0 ≤ b) : ∀ (L : List Int) (v : Int), 0 ≤ v → v ≤ most → numF b most v L ≤ most
  | [], v, h, hv => hv
  | c :: r, v, h, hv => by
    have := dg_range c
    have h1 : 0 ≤ v * b := Int.mul_nonneg h hb
    simp only [numF]
    split
    · omega
    · exact numF_le b most hb r _ (by omega) (by omega)
theorem elemP_le (most : Int) (hm : 255 ≤ most) : ∀ L : List Int, (∀ c ∈ L, c ≤ 255) → (elemP most L).1 ≤ most
  | [], _ => by simp only [elemP]; omega
  | c :: r, hc => by
    have hc0 := hc c (List.mem_cons_self ..)
    simp only [elemP]
    split
    · simp only; omega
    · cases r with
      | nil => simp only; omega
      | cons d q =>
        simp only
        have hs := simR_range d
        split
        · simp only; unfold simP; split <;> omega
        · split
          · split
            · simp only; omega
            · exact numF_le 16 most (by omega) _ 0 (Int.le_refl _) (by omega)
          · split
            · simp only; omega
            · exact numF_le 8 most (by omega) _ 0 (Int.le_refl _) (by omega)
theorem ysF_le (most : Int) (hm : 255 ≤ most) : ∀ (n : Nat) (L : List Int), (∀ c ∈ L, c ≤ 255) → ∀ y ∈ ysF most n L, y ≤ most
  | 0, L, _, y, hy => by simp [ysF] at hy
  | n + 1, [], _, y, hy => by simp [ysF] at hy
  | n + 1, c :: r, hc, y, hy => by
    have h1 := elemP_le most hm (c :: r) hc
    simp only [ysF] at hy
    split at hy
    · rw [List.mem_singleton.1 hy]; exact h1
    · rcases List.mem_cons.1 hy with rfl | hy
      · exact h1
      · exact ysF_le most hm n _ (fun c hc' => hc c (List.mem_of_mem_drop hc')) y hy
theorem bl_le {s : ByteArray} : ∀ c ∈ bl s, c ≤ 255 := by
  intro c hc
  obtain ⟨b, _, rfl⟩ := List.mem_map.1 hc
  have := b.toNat_lt
  omega
theorem ysT_le (s : ByteArray) : ∀ y ∈ ysT s, y ≤ topT s := ysF_le _ (limP_range _).1 _ _ bl_le
theorem ysF_ne (most : Int) {L : List Int} (h : L ≠ []) : ysL most L ≠ [] := by
  obtain ⟨c, r, rfl⟩ := List.exists_cons_of_ne_nil h
  unfold ysL
  simp only [List.length_cons, ysF]
  split <;> simp
def mostT (s : ByteArray) : Int := if 0 < pfN s then 1 else 4
def vch (ys : List Int) : Int := ys.foldl (fun v y => v * 256 + y) 0
def sgnV (n : Nat) (v : Int) : Int := if 256 ^ n / 2 ≤ v then v - 256 ^ n else v
def charC (s : ByteArray) : Option Int :=
  if (oneP s).1 = 3 then (if okY (ysT s) = true ∧ ((ysT s).length : Int) ≤ mostT s then some (if 0 < pfN s then vch (ysT s) else sgnV (ysT s).length (vch (ysT s))) else none) else none
def charV (s : ByteArray) : Int × Int := match charC s with
  | none => (0, 40)
  | some v => (v, 0)
theorem vch_step {ys : List Int} {k : Nat} {y : Int} (h : ys[k]? = some y) : vch (ys.take (k + 1)) = vch (ys.take k) * 256 + y := by
  unfold vch
  rw [take_get h, List.foldl_append]; rfl
theorem sgn_shift {n : Nat} {v : Int} (hn : 1 ≤ n ∧ n ≤ 4) (h0 : 0 ≤ v) (h1 : v < 256 ^ n) : IntKind.i64.wrap (v * 2 ^ (64 - 8 * (n : Int)).toNat) / 2 ^ (64 - 8 * (n : Int)).toNat = sgnV n v := by
  unfold sgnV
  have hc : n = 1 ∨ n = 2 ∨ n = 3 ∨ n = 4 := by omega
  rcases hc with rfl | rfl | rfl | rfl
  · rw [show (64 - 8 * ((1 : Nat) : Int)).toNat = 56 by rfl, IntKind.wrap_i64]
    simp only [show (256 : Int) ^ 1 = 256 by rfl, show (2 : Int) ^ 56 = 72057594037927936 by rfl] at h1 ⊢
    split <;> omega
  · rw [show (64 - 8 * ((2 : Nat) : Int)).toNat = 48 by rfl, IntKind.wrap_i64]
    simp only [show (256 : Int) ^ 2 = 65536 by rfl, show (2 : Int) ^ 48 = 281474976710656 by rfl] at h1 ⊢
    split <;> omega
  · rw [show (64 - 8 * ((3 : Nat) : Int)).toNat = 40 by rfl, IntKind.wrap_i64]
    simp only [show (256 : Int) ^ 3 = 16777216 by rfl, show (2 : Int) ^ 40 = 1099511627776 by rfl] at h1 ⊢
    split <;> omega
  · rw [show (64 - 8 * ((4 : Nat) : Int)).toNat = 32 by rfl, IntKind.wrap_i64]
    simp only [show (256 : Int) ^ 4 = 4294967296 by rfl, show (2 : Int) ^ 32 = 4294967296 by rfl] at h1 ⊢
    split <;> omega
theorem shl_run {P : Program} (t : Nat) (v c : Int) (h0 : 0 ≤ c) (h1 : c ≤ 64) (w : World) : (binOp .shl t (.int .i64 v) (.int .i64 c) : Sem Value).run P w = .ok (.int .i64 (IntKind.i64.wrap (v * 2 ^ c.toNat))) w := by
  rw [binOp_shl, shift_shl .i64 .i64 v c h0 h1]
  rfl
theorem shr_run {P : Program} (t : Nat) (v c : Int) (h0 : 0 ≤ c) (h1 : c ≤ 64) (w : World) : (binOp .shr t (.int .i64 v) (.int .i64 c) : Sem Value).run P w = .ok (.int .i64 (v / 2 ^ c.toNat)) w := by
  rw [binOp_shr, shift_shr .i64 .i64 v c h0 h1]
  rfl
set_option maxRecDepth 100000 in
theorem char_any (s : ByteArray) (w : World) (hs : s.size ≤ 4294967280) (hg : Glob (im w)) :
    Calls Tryz.prog 18 #[.string s] w (PureP w fun v _ => v = .tuple #[.int .i64 (charV s).1, .int .i64 (charV s).2]) := by
  have herr : charC s = none → charV s = (0, 40) := fun h => by unfold charV; rw [h]
  have hok : ∀ v, charC s = some v → charV s = (v, 0) := fun v h => by unfold charV; rw [h]
  refine x_fun tt_ok Tryz.func18 rfl rfl [] 0 [.v (.string s)] rfl rfl rfl rfl (fun b hb => by cases hb) ?_
  refine x_seq ?_
  refine x_vc tt_ok ?_
  refine x_seq ?_
  refine x_vc tt_ok ?_
  refine xl_call0 (.tuple #[.int .i64 (oneP s).1, .bool (oneP s).2]) rfl rfl rfl rfl fn40 rfl rfl (fun E w F hs' => one_any s hs w (hg.imm hs'.imm)) ?_
  refine xl_go tt_ok ?_
  refine x_if (fun h => ?_) (fun h => ?_)
  · have h : (oneP s).1 ≠ 3 := of_decide_eq_true h
    rw [herr (by unfold charC; rw [if_neg h])]
    exact fin1 (fun _ _ => rfl)
  · have h : (oneP s).1 = 3 := Classical.not_not.1 (of_decide_eq_false h)
    obtain ⟨q1, q2, q3, q4, q5⟩ := lit_at h (.inl rfl)
    replace q2 := q2 rfl
    have e1 : charC s = if okY (ysT s) = true ∧ ((ysT s).length : Int) ≤ mostT s then some (if 0 < pfN s then vch (ysT s) else sgnV (ysT s).length (vch (ysT s))) else none := by unfold charC; rw [if_pos h]
    have hlr := limP_range (sub s 0 (pfN s))
    have hyle := ysT_le s
    have hzi := sub_size (s := s) (a := (pfN s : Int) + 1) (b := (s.size : Int) - 1) (by omega) (by omega) (by omega)
    have hine : ysT s ≠ [] := ysF_ne _ (bl_ne (s := inT s) (by unfold inT; omega))
    have htop : ¬ 0 < pfN s → topT s = 255 := fun hp => by
      unfold topT
      rw [show pfN s = 0 by omega]
      have : sub s 0 ((0 : Nat) : Int) = ⟨#[]⟩ := bl_inj (by rw [bl_sub s (by omega) (by omega) (by omega)]; rfl)
      rw [this]; rfl
    refine x_seq ?_
    refine x_vc tt_ok ?_
    refine xl_call0 (.int .i64 (pfN s)) rfl rfl rfl rfl fn41 rfl rfl (fun E w F _ => by rw [← q4]; exact pure_of (Tryz.strings_IndexByte s 39 w)) ?_
    refine xl_go tt_ok ?_
    refine x_seq ?_
    refine x_vc tt_ok ?_
    refine x_cut (σ := Unit) (fun _ => ⟨[(9, .p 4 0), (8, .p 3 0), (7, .p 2 0), (6, .v (.int .i64 (pfN s))), (3, .p 1 0), (2, .p 0 0), (0, .v (.string s))], [], [(0, .box 2 [.v (.int .i64 0)]), (1, .box 26 [.v (.int .i64 0)]), (2, .box 2 [.v (.int .i64 0)]), (3, .box 3 [.v (.int .i64 0)]), (4, .box 3 [.v (.int .i64 (mostT s))])], 5⟩) (fun _ _ => True) (fun _ => Nat.le_refl _) ?_ ?_
    · refine x_vc tt_ok ?_
      refine x_if (fun h => ?_) (fun h => ?_)
      · have h : 0 < (pfN s : Int) := of_decide_eq_true h
        have e : mostT s = 1 := by unfold mostT; rw [if_pos (by omega)]
        rw [e]
        exact meet () [] (.of rfl rfl rfl rfl rfl rfl) trivial
      · have h : ¬ 0 < (pfN s : Int) := of_decide_eq_false h
        have e : mostT s = 4 := by unfold mostT; rw [if_neg (by omega)]
        rw [e]
        exact meet () [] (.of rfl rfl rfl rfl rfl rfl) trivial
    · rintro _ u1 hu1 _
      refine x_vc tt_ok ?_
      refine x_drawA mix ?_
      refine xa_pures tt_ok (fuel := 7) [0, 1, 3, 7, 8] rfl (by kernel_rfl) (by kernel_rfl) (fun _ _ _ hh => hh) (by kernel_rfl) (by kernel_rfl) ?_
      repeat (refine And.intro ?_ ?_; first | omega | (simp only [Lay.d_n]; omega))
      refine xa_phase tt_ok (fuel := 1) [2, 4, 5, 6, 9, 10] rfl (by kernel_rfl) (by kernel_rfl) (by kernel_rfl) (by kernel_rfl) ?_
      refine xd_go tt_ok ?_
      repeat (refine And.intro ?_ ?_; first | omega | (simp only [Lay.d_n]; omega))
      refine xd_call0 (.int .i64 (topT s)) rfl rfl rfl rfl fn43 rfl rfl (fun _ E w F _ => limit_any _ w) ?_
      refine xd_go tt_ok ?_
      refine xa_one 11 (by kernel_rfl) rfl ?_
      refine xl_callClo 66 [(9, .string (inT s)), (2, .int .i64 (topT s))] [5, 6] 7 rfl rfl rfl rfl rfl rfl fn42 rfl rfl (fun E w F _ => elementsFn_any (inT s) (topT s) w) ?_
      refine xl_end ?_
      refine xa_done (by kernel_rfl) rfl ?_
      have hit := fun u0 => elements_iter (inT s) (topT s) u0 (by have := hlr.1; unfold topT; omega) hlr.2 (by unfold inT; omega)
      change ∀ u0, IterC Tryz.prog 66 [(9, .string (inT s)), (2, .int .i64 (topT s))] ((ysT s).map numV) u0 at hit
      have hpm : (0 < pfN s ∧ mostT s = 1) ∨ (¬ 0 < pfN s ∧ mostT s = 4) := by
        by_cases hp : 0 < pfN s
        · exact .inl ⟨hp, by unfold mostT; rw [if_pos hp]⟩
        · exact .inr ⟨hp, by unfold mostT; rw [if_neg hp]⟩
      have htr : topT s ≤ 4294967295 := hlr.2
      generalize ysT s = ys at hit hyle e1 hine
      generalize mostT s = m at hpm e1 ⊢
      generalize topT s = tp at *
      refine x_rangeC (σ := Nat × Int) (τ := Nat × Int) rfl fn66 (hit _) [(9, .p 4 0), (8, .p 3 0), (7, .p 2 0), (6, .v (.int .i64 (pfN s))), (3, .p 1 0), (2, .p 0 0)]
        (fun (k, v) => [(0, .box 2 [.v (.int .i64 0)]), (1, .box 26 [.v (.int .i64 0)]), (2, .box 2 [.v (.int .i64 v)]), (3, .box 3 [.v (.int .i64 (k : Int))]), (4, .box 3 [.v (.int .i64 m)])]) (fun _ => 8)
        (fun k (n, v) _ => n = k ∧ (k : Int) ≤ m ∧ okY (ys.take k) = true ∧ v = vch (ys.take k) ∧ 0 ≤ v ∧ (k = 0 → v = 0) ∧ (m = 4 → v < 256 ^ k))
        (fun (k, v) => [(0, .box 2 [.v (.int .i64 0)]), (1, .box 26 [.v (.int .i64 40)]), (2, .box 2 [.v (.int .i64 v)]), (3, .box 3 [.v (.int .i64 (k : Int))]), (4, .box 3 [.v (.int .i64 m)])]) (fun _ => 8)
        (fun _ e _ => e = .ret ∧ ¬ (okY ys = true ∧ (ys.length : Int) ≤ m)) (0, 0) [] (.of rfl rfl rfl rfl rfl rfl) ⟨rfl, by omega, rfl, rfl, by omega, fun _ => rfl, fun _ => by decide⟩ rfl rfl rfl
        (fun _ => rfl) (fun _ => rfl) (fun _ => Nat.lt_succ_self 7) (fun _ => Nat.le_succ 7) rfl (fun l k x nv u3 Fr Fr' hx hu3 hgr => ?_) (fun nv u3 hu3 hgr => ?_) (fun _ e u3 hu3 hgr => ?_)
      · obtain ⟨n, v⟩ := nv
        obtain ⟨rfl, g1, g2, g3, g4, g5, g6⟩ := hgr
        rw [List.getElem?_map] at hx
        obtain ⟨y, hy, rfl⟩ := Option.map_eq_some_iff.1 hx
        have hyt := hyle y (List.mem_of_getElem? hy)
        have hn := (List.getElem?_eq_some_iff.1 hy).1
        refine x_vc tt_ok ?_
        refine ⟨rfl, rfl, x_vc tt_ok ?_⟩
        repeat (refine And.intro ?_ ?_; first | omega | (simp only [Lay.d_n]; omega))
        refine x_if (fun h1 => ?_) (fun h1 => ?_)
        · have h1 : (decide (y < 0) || decide (m < (n : Int) + 1)) = true := h1
          simp only [Bool.or_eq_true, decide_eq_true_eq] at h1
          refine ⟨(n + 1, v), [], .of rfl rfl rfl rfl rfl rfl, rfl, ?_⟩
          rintro ⟨a1, a2⟩
          rcases h1 with h1 | h1
          · rw [okY_take hy h1] at a1; cases a1
          · omega
        · have h1 : (decide (y < 0) || decide (m < (n : Int) + 1)) = false := h1
          simp only [Bool.or_eq_false_iff, decide_eq_false_iff_not] at h1
          obtain ⟨h2, h3⟩ := h1
          have hv : v * 256 ≤ 256 * 16777216 ∧ v * 256 + y ≤ 1099511627776 ∧ (m = 4 → v * 256 + y < 256 ^ (n + 1)) := by
            rcases hpm with ⟨p1, p2⟩ | ⟨p1, p2⟩
            · have := g5 (by omega)
              subst this
              exact ⟨by omega, by omega, fun h => by omega⟩
            · have h6 := g6 p2
              have h7 := htop p1
              have hc : n = 0 ∨ n = 1 ∨ n = 2 ∨ n = 3 := by omega
              rcases hc with rfl | rfl | rfl | rfl
              · simp only [show (256 : Int) ^ 0 = 1 by rfl, show (256 : Int) ^ (0 + 1) = 256 by rfl] at h6 ⊢; omega
              · simp only [show (256 : Int) ^ 1 = 256 by rfl, show (256 : Int) ^ (1 + 1) = 65536 by rfl] at h6 ⊢; omega
              · simp only [show (256 : Int) ^ 2 = 65536 by rfl, show (256 : Int) ^ (2 + 1) = 16777216 by rfl] at h6 ⊢; omega
              · simp only [show (256 : Int) ^ 3 = 16777216 by rfl, show (256 : Int) ^ (3 + 1) = 4294967296 by rfl] at h6 ⊢; omega
          refine xl_gbin (.int .i64 (v * 256)) rfl rfl rfl rfl rfl rfl (fun w => rfl) (fun _ w => by
            refine (shl_run 2 v 8 (by omega) (by omega) w).trans ?_
            rw [show (2 : Int) ^ (8 : Int).toNat = 256 by rfl, IntKind.wrap_i64, show (v * 256 + 9223372036854775808) % 18446744073709551616 - 9223372036854775808 = v * 256 by omega]) ?_
          refine xl_go tt_ok ?_
          repeat (refine And.intro ?_ ?_; first | omega | (simp only [Lay.d_n]; omega))
          exact ⟨(n + 1, v * 256 + y), [], .of rfl rfl rfl rfl rfl rfl, rfl, by omega, okY_step hy (by omega) g2, by rw [vch_step hy, ← g3], by omega, fun h => by omega, hv.2.2⟩
      · obtain ⟨n, v⟩ := nv
        obtain ⟨rfl, g1, g2, g3, g4, g5, g6⟩ := hgr
        rw [List.length_map] at g1 g2 g3 g5 g6 ⊢
        rw [List.take_length] at g2 g3
        rw [if_pos ⟨g2, g1⟩, ← g3] at e1
        rw [hok _ e1]
        have hyl : 1 ≤ ys.length := List.length_pos_iff.2 hine
        refine x_if (fun h1 => ?_) (fun h1 => ?_)
        · have h1 : 0 < (pfN s : Int) := of_decide_eq_true h1
          rw [if_pos (by omega)]
          exact fin1 (fun _ _ => rfl)
        · have h1 : ¬ 0 < (pfN s : Int) := of_decide_eq_false h1
          rw [if_neg (by omega)]
          have hm4 : m = 4 := by omega
          repeat (refine And.intro ?_ ?_; first | omega | (simp only [Lay.d_n]; omega))
          refine xl_gbin (.int .i64 (IntKind.i64.wrap (v * 2 ^ (64 - 8 * (ys.length : Int)).toNat))) rfl rfl rfl rfl rfl rfl (fun w => rfl) (fun _ w => shl_run 2 v (64 - 8 * (ys.length : Int)) (by omega) (by omega) w) ?_
          refine xl_go tt_ok ?_
          refine xl_gbin (.int .i64 (IntKind.i64.wrap (v * 2 ^ (64 - 8 * (ys.length : Int)).toNat) / 2 ^ (64 - 8 * (ys.length : Int)).toNat)) rfl rfl rfl rfl rfl rfl (fun w => rfl) (fun _ w => shr_run 2 _ (64 - 8 * (ys.length : Int)) (by omega) (by omega) w) ?_
          refine xl_go tt_ok ?_
          rw [sgn_shift ⟨hyl, by omega⟩ g4 (g6 hm4)]
          exact fin1 (fun _ _ => rfl)
      · obtain ⟨rfl, g2⟩ := hgr
        rw [if_neg g2] at e1
        rw [herr e1]
        exact fin1 (fun _ _ => rfl)
end Go.Proofs.YtnjmkeijjapejaaGreatDoor
namespace Go.Proofs.YtnjmkeijjapejaaGreatDoor
open Go.GV Go.RowKit
def minF (b : Int) : Int → List Int → Int
  | v, [] => v
  | v, c :: r => minF b (if 1099511627776 < v * b + dg c then 1099511627776 else v * b + dg c) r
theorem minF_ge (b : Int) (hb : 1 ≤ b) : ∀ (L : List Int) (v : Int), 0 ≤ v → v ≤ 1099511627776 → v ≤ minF b v L
  | [], v, _, _ => Int.le_refl _
  | c :: r, v, h0, h1 => by
    have := dg_range c
    have h2 : v ≤ v * b := by have := Int.mul_le_mul_of_nonneg_left hb h0; rw [Int.mul_one] at this; exact this
    simp only [minF]
    split
    · have := minF_ge b hb r 1099511627776 (by omega) (by omega); omega
    · have := minF_ge b hb r (v * b + dg c) (by omega) (by omega); omega
theorem numF_min (b most : Int) (hb : 1 ≤ b) (hm : most < 1099511627776) : ∀ (L : List Int) (v : Int), 0 ≤ v → v ≤ most → numF b most v L = if most < minF b v L then -1 else minF b v L
  | [], v, h0, h1 => by
    have e : minF b v [] = v := rfl
    rw [e, if_neg (by omega)]; rfl
  | c :: r, v, h0, h1 => by
    have := dg_range c
    have h2 : 0 ≤ v * b := Int.mul_nonneg h0 (by omega)
    have e1 : minF b v (c :: r) = minF b (if 1099511627776 < v * b + dg c then 1099511627776 else v * b + dg c) r := rfl
    have e2 : numF b most v (c :: r) = if most < v * b + dg c then -1 else numF b most (v * b + dg c) r := rfl
    rw [e1, e2]
    by_cases h3 : most < v * b + dg c
    · rw [if_pos h3]
      have h4 : most < minF b (if 1099511627776 < v * b + dg c then 1099511627776 else v * b + dg c) r := by
        split
        · have := minF_ge b hb r 1099511627776 (by omega) (by omega); omega
        · have := minF_ge b hb r (v * b + dg c) (by omega) (by omega); omega
      rw [if_pos h4]
    · rw [if_neg h3, if_neg (by omega : ¬ 1099511627776 < v * b + dg c)]
      exact numF_min b most hb hm r _ (by omega) (by omega)
def oneRL : List Int → Int × Nat
  | [] => (0, 0)
  | c :: r => if c ≠ 92 then (c, 1) else match r with
    | [] => (0, 0)
    | d :: q => if 0 < simR d then (simR d, 2)
      else if d = 120 then (if runB 16 q = 0 then (0, 0) else (minF 16 0 (q.take (runB 16 q)), 2 + runB 16 q))
      else if min 3 (runB 8 (d :: q)) = 0 then (0, 0) else (minF 8 0 ((d :: q).take (min 3 (runB 8 (d :: q)))), 1 + min 3 (runB 8 (d :: q)))
theorem runB_take (b : Int) : ∀ (L : List Int) (n : Nat), runB b (L.take n) = min n (runB b L)
  | [], n => by simp [runB]
  | c :: r, 0 => by simp [runB]
  | c :: r, n + 1 => by
    simp only [List.take_succ_cons, runB]
    split
    · rw [runB_take b r n]; omega
    · simp
theorem elemP_one {most : Int} (hm0 : 255 ≤ most) (hm : most < 1099511627776) : ∀ {L : List Int}, (∀ c ∈ L, 0 ≤ c ∧ c ≤ 255) → L ≠ [] →
    ((elemP most L).1 < 0 ↔ ((oneRL L).2 = 0 ∨ most < (oneRL L).1)) ∧ (¬ (elemP most L).1 < 0 → elemP most L = oneRL L)
  | [], _, h => absurd rfl h
  | c :: r, hc, _ => by
    have hc0 := hc c (List.mem_cons_self ..)
    by_cases h1 : c ≠ 92
    · simp only [elemP, oneRL, if_pos h1]
      exact ⟨⟨fun h => by omega, fun h => by omega⟩, fun _ => by trivial⟩
    · simp only [elemP, oneRL, if_neg h1]
      cases r with
      | nil => simp
      | cons d q =>
        have hs := simR_range d
        have hsp : 0 ≤ simP d ↔ 0 < simR d := by unfold simP; split <;> omega
        have hsp2 : 0 < simR d → simP d = simR d := fun h => by unfold simP; rw [if_neg (by omega)]
        simp only
        by_cases h2 : 0 < simR d
        · rw [if_pos h2, if_pos (hsp.2 h2), hsp2 h2]
          exact ⟨⟨fun h => by simp only at h; omega, fun h => by simp only at h; omega⟩, fun _ => rfl⟩
        · rw [if_neg h2, if_neg (fun h => h2 (hsp.1 h))]
          by_cases h3 : d = 120
          · rw [if_pos h3, if_pos h3]
            by_cases h4 : runB 16 q = 0
            · rw [if_pos h4, if_pos h4]; simp
            · rw [if_neg h4, if_neg h4, numF_min 16 most (by omega) hm _ 0 (by omega) (by omega)]
              have hge := minF_ge 16 (by omega) (q.take (runB 16 q)) 0 (by omega) (by omega)
              simp only
              by_cases h5 : most < minF 16 0 (q.take (runB 16 q))
              · rw [if_pos h5]
                exact ⟨⟨fun _ => .inr h5, fun _ => by omega⟩, fun h => by omega⟩
              · rw [if_neg h5]
                exact ⟨⟨fun h => by omega, fun h => by omega⟩, fun _ => rfl⟩
          · rw [if_neg h3, if_neg h3, runB_take]
            by_cases h4 : min 3 (runB 8 (d :: q)) = 0
            · rw [if_pos h4, if_pos h4]; simp
            · rw [if_neg h4, if_neg h4, numF_min 8 most (by omega) hm _ 0 (by omega) (by omega)]
              have hge := minF_ge 8 (by omega) ((d :: q).take (min 3 (runB 8 (d :: q)))) 0 (by omega) (by omega)
              simp only
              by_cases h5 : most < minF 8 0 ((d :: q).take (min 3 (runB 8 (d :: q))))
              · rw [if_pos h5]
                exact ⟨⟨fun _ => .inr h5, fun _ => by omega⟩, fun h => by omega⟩
              · rw [if_neg h5]
                exact ⟨⟨fun h => by omega, fun h => by omega⟩, fun _ => rfl⟩
set_option maxRecDepth 100000 in
theorem prefix_any (s : ByteArray) {k : Int} (h : (oneP s).1 = k) (hk : k = 3 ∨ k = 4) (w : World) (hs : s.size ≤ 9223372036854775807) :
    Calls Tryz.prog 56 #[.string s] w (PureP w fun v _ => v = .int .i64 (pfN s)) := by
  obtain ⟨q1, _, q3, _, q5⟩ := lit_at h hk
  have hq : qOf k = 39 ∨ qOf k = 34 := by unfold qOf; split <;> omega
  generalize pfN s = n at *
  refine x_fun tt_ok Tryz.func56 rfl rfl [] 0 [.v (.string s)] rfl rfl rfl rfl (fun b hb => by cases hb) ?_
  refine x_vc tt_ok ?_
  refine x_loop (σ := Nat) (fun i => ⟨[(3, .v (.int .i64 (i : Int))), (0, .v (.string s))], [], [], 0⟩)
    (fun i _ => i ≤ n) (fun i => n - i) (fun _ => Nat.le_refl _) 0 [] (.of rfl rfl rfl rfl rfl rfl) (Nat.zero_le _) ?_
  rintro i u hu g1
  refine x_vc tt_ok ?_
  repeat (refine And.intro ?_ ?_; first | omega | (simp only [Lay.d_n]; omega))
  refine x_if (fun h1 => ?_) (fun h1 => ?_)
  · have h1 : (decide (bt s i ≠ 39) && decide (bt s i ≠ 34)) = true := h1
    simp only [Bool.and_eq_true, decide_eq_true_eq] at h1
    have hlt : i < n := by
      rcases Nat.lt_or_ge i n with h2 | h2
      · exact h2
      · have : i = n := by omega
        subst this
        rw [q3] at h1; omega
    repeat (refine And.intro ?_ ?_; first | omega | (simp only [Lay.d_n]; omega))
    exact again (i + 1) [] (.of rfl rfl rfl rfl rfl rfl) hlt (by omega)
  · have h1 : (decide (bt s i ≠ 39) && decide (bt s i ≠ 34)) = false := h1
    have e : i = n := by
      rcases Nat.lt_or_ge i n with h2 | h2
      · obtain ⟨a1, a2⟩ := q5 i h2
        rw [decide_eq_true a1, decide_eq_true a2] at h1; cases h1
      · omega
    subst e
    exact fin1 (fun _ _ => rfl)
end Go.Proofs.YtnjmkeijjapejaaGreatDoor
namespace Go.Proofs.YtnjmkeijjapejaaGreatDoor
open Go.GV Go.RowKit
theorem tl_take_get (s : ByteArray) {i : Int} {n : Nat} (h0 : 0 ≤ i) (h1 : i + n ≤ s.size) : ∀ k : Nat, k < n → ((tl s i).take n)[k]? = some (bt s (i + k)) := fun k hk => by
  rw [List.getElem?_take_of_lt hk]
  unfold tl
  rw [List.getElem?_drop, show i + (k : Int) = ((i.toNat + k : Nat) : Int) by omega]
  exact bl_get s (by omega)
set_option maxRecDepth 100000 in
theorem one147_any (s : ByteArray) (i : Int) (h0 : 0 ≤ i) (h1 : i < s.size) (w : World) (hs : s.size ≤ 140737488355328) :
    Calls Tryz.prog 75 #[.string s, .int .i64 i] w (PureP w fun v _ => v = .tuple #[.int .i64 (oneRL (tl s i)).1, .int .i64 (oneRL (tl s i)).2]) := by
  obtain ⟨N, hN⟩ : ∃ N, N = oneRL (tl s i) := ⟨_, rfl⟩
  rw [← hN]
  have hbt := bt_range s i
  rw [tl_cons h0 h1] at hN
  simp only [oneRL] at hN
  refine x_fun tt_ok Tryz.func75 rfl rfl [] 0 [.v (.string s), .v (.int .i64 i)] rfl rfl rfl rfl (fun b hb => by cases hb) ?_
  refine x_seq ?_
  refine x_vc tt_ok ?_
  refine x_seq ?_
  refine x_vc tt_ok ?_
  repeat (refine And.intro ?_ ?_; first | omega | (simp only [Lay.d_n]; omega))
  refine x_if (fun h => ?_) (fun h => ?_)
  · have h : bt s i ≠ 92 := of_decide_eq_true h
    rw [if_pos h] at hN
    repeat (refine And.intro ?_ ?_; first | omega | (simp only [Lay.d_n]; omega))
    rw [hN]
    exact fin1 (fun _ _ => rfl)
  · have h : ¬ bt s i ≠ 92 := of_decide_eq_false h
    rw [if_neg h] at hN
    refine x_seq ?_
    refine x_vc tt_ok ?_
    repeat (refine And.intro ?_ ?_; first | omega | (simp only [Lay.d_n]; omega))
    refine x_if (fun h => ?_) (fun h => ?_)
    · have h : i + 1 = s.size := of_decide_eq_true h
      rw [tl_nil (by omega)] at hN
      rw [hN]
      exact fin1 (fun _ _ => rfl)
    · have h : ¬ i + 1 = s.size := of_decide_eq_false h
      have hbt1 := bt_range s (i + 1)
      rw [tl_cons (by omega) (by omega)] at hN
      simp only at hN
      have hsr := simR_range (bt s (i + 1))
      refine x_seq ?_
      refine x_vc tt_ok ?_
      repeat (refine And.intro ?_ ?_; first | omega | (simp only [Lay.d_n]; omega))
      refine xl_call0 (.int .i64 (simR (bt s (i + 1)))) rfl rfl rfl rfl fn93 rfl rfl (fun E w F _ => simpleR_any _ w) ?_
      refine xl_go tt_ok ?_
      refine x_seq ?_
      refine x_vc tt_ok ?_
      refine x_if (fun h1 => ?_) (fun h1 => ?_)
      · have h1 : 0 < simR (bt s (i + 1)) := of_decide_eq_true h1
        rw [if_pos h1] at hN
        rw [hN]
        exact fin1 (fun _ _ => rfl)
      · have h1 : ¬ 0 < simR (bt s (i + 1)) := of_decide_eq_false h1
        rw [if_neg h1] at hN
        have hs0 : simR (bt s (i + 1)) = 0 := by omega
        rw [hs0]
        iterate 2
          refine x_seq ?_
          refine x_vc tt_ok ?_
        repeat (refine And.intro ?_ ?_; first | omega | (simp only [Lay.d_n]; omega))
        refine x_seq ?_
        refine x_vc tt_ok ?_
        refine xl_call0 (.int .i64 (runB 8 (tl s (i + 1)))) rfl rfl rfl rfl fn52 rfl rfl (fun E w F _ => runR_any s (i + 1) 8 w (by omega) (by omega) (by omega)) ?_
        refine xl_go tt_ok ?_
        refine xl_min rfl rfl rfl rfl rfl rfl ?_
        refine xl_go tt_ok ?_
        have hm3 : (if ((runB 8 (tl s (i + 1)) : Nat) : Int) < 3 then ((runB 8 (tl s (i + 1)) : Nat) : Int) else 3) = ((min 3 (runB 8 (tl s (i + 1))) : Nat) : Int) := by split <;> omega
        have htl1 : bt s (i + 1) :: tl s (i + 1 + 1) = tl s (i + 1) := (tl_cons (by omega) (by omega)).symm
        rw [htl1] at hN
        have hr8 := runB_le 8 (tl s (i + 1))
        rw [tl_len] at hr8
        have hr16 := runB_le 16 (tl s (i + 1 + 1))
        rw [tl_len] at hr16
        refine x_cut (σ := Int × Int × Int) (fun (b, fr, n) => ⟨[(9, .v (.int .i64 n)), (8, .v (.int .i64 fr)), (7, .v (.int .i64 b)), (6, .v (.int .i64 0)), (1, .v (.int .i64 i)), (0, .v (.string s))], [], [], 0⟩)
          (fun (b, fr, n) _ => (b = 8 ∨ b = 16) ∧ i < fr ∧ 0 ≤ n ∧ fr + n ≤ s.size ∧ (∀ c ∈ (tl s fr).take n.toNat, dg c < b) ∧ N = if n = 0 then (0, 0) else (minF b 0 ((tl s fr).take n.toNat), (fr - i + n).toNat)) (fun (_, _, _) => Nat.le_refl _) ?_ ?_
        · refine x_vc tt_ok ?_
          repeat (refine And.intro ?_ ?_; first | omega | (simp only [Lay.d_n]; omega))
          refine x_if (fun h2 => ?_) (fun h2 => ?_)
          · have h2 : bt s (i + 1) = 120 := of_decide_eq_true h2
            rw [if_pos h2] at hN
            repeat (refine And.intro ?_ ?_; first | omega | (simp only [Lay.d_n]; omega))
            refine xl_call0 (.int .i64 (runB 16 (tl s (i + 2)))) rfl rfl rfl rfl fn52 rfl rfl (fun E w F _ => runR_any s (i + 2) 16 w (by omega) (by omega) (by omega)) ?_
            refine xl_go tt_ok ?_
            rw [show i + 1 + 1 = i + 2 by omega] at hN hr16
            have hlt := runB_take_lt 16 (tl s (i + 2))
            generalize runB 16 (tl s (i + 2)) = n at *
            refine meet (16, i + 2, (n : Int)) [] (.of rfl rfl rfl rfl rfl rfl) ⟨.inr rfl, by omega, by omega, by omega, hlt, ?_⟩
            rw [hN]
            by_cases hn : n = 0
            · rw [if_pos hn, if_pos (by omega)]
            · rw [if_neg hn, if_neg (by omega), show ((n : Int)).toNat = n by omega, show (i + 2 - i + (n : Int)).toNat = 2 + n by omega]
          · have h2 : ¬ bt s (i + 1) = 120 := of_decide_eq_false h2
            rw [if_neg h2] at hN
            have hlt : ∀ c ∈ (tl s (i + 1)).take (min 3 (runB 8 (tl s (i + 1)))), dg c < 8 := fun c hc =>
              runB_take_lt 8 (tl s (i + 1)) c (List.take_subset_take_left _ (Nat.min_le_right ..) hc)
            have hmin : min 3 (runB 8 (tl s (i + 1))) ≤ runB 8 (tl s (i + 1)) := Nat.min_le_right ..
            generalize min 3 (runB 8 (tl s (i + 1))) = n at *
            refine meet (8, i + 1, (if ((runB 8 (tl s (i + 1)) : Nat) : Int) < 3 then ((runB 8 (tl s (i + 1)) : Nat) : Int) else 3)) [] (.of rfl rfl rfl rfl rfl rfl) ?_
            rw [hm3]
            refine ⟨.inl rfl, by omega, by omega, by omega, hlt, ?_⟩
            rw [hN]
            by_cases hn : n = 0
            · rw [if_pos hn, if_pos (by omega)]
            · rw [if_neg hn, if_neg (by omega), show ((n : Int)).toNat = n by omega, show (i + 1 - i + (n : Int)).toNat = 1 + n by omega]
        · rintro ⟨b, fr, n⟩ u1 hu1 ⟨g1, g2, g3, g4, g5, g6⟩
          obtain ⟨n, rfl⟩ := Int.eq_ofNat_of_zero_le g3
          refine x_vc tt_ok ?_
          refine x_if (fun h2 => ?_) (fun h2 => ?_)
          · have h2 : (n : Int) = 0 := of_decide_eq_true h2
            rw [if_pos h2] at g6
            rw [g6]
            exact fin1 (fun _ _ => rfl)
          · have h2 : ¬ (n : Int) = 0 := of_decide_eq_false h2
            rw [if_neg h2] at g6
            have hD := tl_take_get s (i := fr) (n := n) (by omega) (by omega)
            have hDl : ((tl s fr).take n).length = n := by rw [List.length_take, tl_len]; omega
            rw [show ((n : Int)).toNat = n by omega] at g5 g6
            generalize (tl s fr).take n = D at *
            refine x_loop (σ := Int × Int) (fun (j, v) => ⟨[(10, .v (.int .i64 j)), (9, .v (.int .i64 (n : Int))), (8, .v (.int .i64 fr)), (7, .v (.int .i64 b)), (6, .v (.int .i64 v)), (1, .v (.int .i64 i)), (0, .v (.string s))], [], [], 0⟩)
              (fun (j, v) _ => fr ≤ j ∧ j ≤ fr + n ∧ 0 ≤ v ∧ v ≤ 1099511627776 ∧ minF b 0 D = minF b v (D.drop (j - fr).toNat)) (fun (j, _) => (fr + n - j).toNat) (fun (_, _) => Nat.le_refl _) (fr, 0) [] (.of rfl rfl rfl rfl rfl rfl)
              ⟨by omega, by omega, by omega, by omega, by rw [Int.sub_self]; rfl⟩ ?_
            rintro ⟨j, v⟩ u2 hu2 ⟨f1, f2, f3, f4, f5⟩
            obtain ⟨k, hk0⟩ : ∃ k : Nat, j = fr + k := ⟨(j - fr).toNat, by omega⟩
            rw [show (j - fr).toNat = k by omega] at f5
            refine x_vc tt_ok ?_
            repeat (refine And.intro ?_ ?_; first | omega | (simp only [Lay.d_n]; omega))
            refine x_if (fun h3 => ?_) (fun h3 => ?_)
            · have h3 : j < fr + n := of_decide_eq_true h3
              have hk := hD k (by omega)
              rw [← hk0] at hk
              have hcd := g5 _ (List.mem_of_getElem? hk)
              have hcr := dg_range (bt s j)
              have hbt := bt_range s j
              rw [drop_get hk, minF] at f5
              have hvb : 0 ≤ v * b ∧ v * b ≤ 1099511627776 * 16 := by rcases g1 with rfl | rfl <;> omega
              repeat (refine And.intro ?_ ?_; first | omega | (simp only [Lay.d_n]; omega))
              refine xl_call0 (.int .i64 (dg (bt s j))) rfl rfl rfl rfl fn54 rfl rfl (fun E w F _ => by
                have := dgR_any (bt s j) w hbt.1 hbt.2
                rw [dgR_eq (by omega) hcd] at this
                exact this) ?_
              refine xl_go tt_ok ?_
              repeat (refine And.intro ?_ ?_; first | omega | (simp only [Lay.d_n]; omega))
              refine xl_min rfl rfl rfl rfl rfl rfl ?_
              refine xl_go tt_ok ?_
              repeat (refine And.intro ?_ ?_; first | omega | (simp only [Lay.d_n]; omega))
              refine again (j + 1, if 1099511627776 < v * b + dg (bt s j) then 1099511627776 else v * b + dg (bt s j)) [] (.of rfl rfl rfl rfl rfl rfl) ⟨by omega, by omega, by split <;> omega, by split <;> omega, ?_⟩ (by simp only; omega)
              rw [show (j + 1 - fr).toNat = k + 1 by omega]
              exact f5
            · have h3 : ¬ j < fr + n := of_decide_eq_false h3
              rw [List.drop_eq_nil_of_le (by omega), minF] at f5
              rw [f5] at g6
              repeat (refine And.intro ?_ ?_; first | omega | (simp only [Lay.d_n]; omega))
              rw [g6]
              refine fin1 (fun _ _ => ?_)
              show Value.tuple #[.int .i64 v, .int .i64 (fr + n - i)] = .tuple #[.int .i64 v, .int .i64 ((fr - i + (n : Int)).toNat : Int)]
              rw [show (((fr - i + (n : Int)).toNat : Nat) : Int) = fr + n - i by omega]
end Go.Proofs.YtnjmkeijjapejaaGreatDoor
namespace Go.Proofs.YtnjmkeijjapejaaGreatDoor
open Go.GV Go.RowKit
set_option maxRecDepth 100000 in
theorem elements_any (s : ByteArray) {k : Int} (h : (oneP s).1 = k) (hk : k = 3 ∨ k = 4) (w : World) (hs : s.size ≤ 4294967280) :
    Calls Tryz.prog 57 #[.string s, .int .i64 (pfN s)] w (PureP w (OwnT 2 (intY.d (if okY (ysT s) = true then ysT s else [])) [.bool (okY (ysT s))])) := by
  obtain ⟨q1, _, _, _, _⟩ := lit_at h hk
  have hlr := limP_range (sub s 0 (pfN s))
  have hzi := sub_size (s := s) (a := (pfN s : Int) + 1) (b := (s.size : Int) - 1) (by omega) (by omega) (by omega)
  have htop : topT s = limP (sub s 0 (pfN s)) := rfl
  have hys : ysT s = ysF (topT s) (bl (inT s)).length (bl (inT s)) := rfl
  have hin : inT s = sub s (pfN s + 1) ((s.size : Int) - 1) := rfl
  refine x_fun tt_ok Tryz.func57 rfl rfl [] 0 [.v (.string s), .v (.int .i64 (pfN s))] rfl rfl rfl rfl (fun b hb => by cases hb) ?_
  iterate 2
    refine x_seq ?_
    refine x_vc tt_ok ?_
  refine x_cut (σ := Int) (fun a => ⟨[(6, .v (.int .i64 a)), (5, .v (.bool false)), (4, .v (.slice none 0 0)), (1, .v (.int .i64 (pfN s))), (0, .v (.string s))], [], [], 0⟩)
    (fun a _ => a = if sub s 0 (pfN s) = ⟨#[117]⟩ then 65535 else 255) (fun _ => Nat.le_refl _) ?_ ?_
  · refine x_vc tt_ok ?_
    repeat (refine And.intro ?_ ?_; first | omega | (simp only [Lay.d_n]; omega))
    refine x_if (fun h1 => ?_) (fun h1 => ?_)
    · have h1 := of_decide_eq_true h1
      exact meet 65535 [] (.of rfl rfl rfl rfl rfl rfl) (by rw [if_pos h1])
    · have h1 := of_decide_eq_false h1
      exact meet 255 [] (.of rfl rfl rfl rfl rfl rfl) (by rw [if_neg h1])
  rintro a u1 hu1 ha
  refine x_cut (σ := Int) (fun a => ⟨[(6, .v (.int .i64 a)), (5, .v (.bool false)), (4, .v (.slice none 0 0)), (1, .v (.int .i64 (pfN s))), (0, .v (.string s))], [], [], 0⟩)
    (fun a _ => a = topT s) (fun _ => Nat.le_refl _) ?_ ?_
  · refine x_vc tt_ok ?_
    repeat (refine And.intro ?_ ?_; first | omega | (simp only [Lay.d_n]; omega))
    refine x_if (fun h1 => ?_) (fun h1 => ?_)
    · have h1 : (decide (sub s 0 (pfN s) = ⟨#[85]⟩) || decide (sub s 0 (pfN s) = ⟨#[76]⟩)) = true := h1
      refine meet 4294967295 [] (.of rfl rfl rfl rfl rfl rfl) ?_
      rw [htop]
      simp only [Bool.or_eq_true, decide_eq_true_eq] at h1
      rcases h1 with h1 | h1 <;> (rw [h1]; rfl)
    · have h1 : (decide (sub s 0 (pfN s) = ⟨#[85]⟩) || decide (sub s 0 (pfN s) = ⟨#[76]⟩)) = false := h1
      simp only [Bool.or_eq_false_iff, decide_eq_false_iff_not] at h1
      refine meet a [] (.of rfl rfl rfl rfl rfl rfl) ?_
      rw [htop, ha]
      unfold limP
      rw [if_neg h1.1, if_neg h1.2]
  rintro b u2 hu2 hb
  clear ha
  have hb1 : 255 ≤ b ∧ b ≤ 4294967295 := by rw [hb, htop]; exact hlr
  refine x_seq ?_
  refine x_vc tt_ok ?_
  repeat (refine And.intro ?_ ?_; first | omega | (simp only [Lay.d_n]; omega))
  rw [← hin] at hzi ⊢
  rw [← hb] at hys
  generalize inT s = c at *
  generalize ysT s = ys at *
  clear hin
  refine x_vc tt_ok ?_
  refine x_nil 8 2 intY rfl ?_
  have hbl := bl_len c
  refine x_loop (σ := Int × List Int) (fun (i, L) => ⟨[(9, .v (.int .i64 i)), (8, .r 1), (7, .v (.string c)), (6, .v (.int .i64 b)), (5, .v (.bool false)), (4, .v (.slice none 0 0))], [], [(1, .row 2 (intY.d L))], 2⟩)
    (fun (i, L) _ => 0 ≤ i ∧ i ≤ c.size ∧ (L.length : Int) ≤ i ∧ okY L = true ∧ ∃ n, ys = L ++ ysF b n (tl c i) ∧ (c.size : Int) - i ≤ n) (fun (i, _) => (c.size - i).toNat) (fun (_, _) => by simp only; omega) (0, []) [(1, some 0)] (.of rfl rfl rfl rfl rfl rfl)
    ⟨by omega, by omega, by simp, rfl, (bl c).length, by rw [hys, tl_zero]; rfl, by omega⟩ ?_
  rintro ⟨i, L⟩ u3 hu3 ⟨g1, g2, g3, g4, n, g5, g6⟩
  refine x_vc tt_ok ?_
  refine x_if (fun h1 => ?_) (fun h1 => ?_)
  · have h1 : i < c.size := of_decide_eq_true h1
    have hne : tl c i ≠ [] := by rw [tl_cons g1 h1]; simp
    have hmem : ∀ x ∈ tl c i, 0 ≤ x ∧ x ≤ 255 := fun x hx => ⟨bl_pos x (List.mem_of_mem_drop hx), bl_le x (List.mem_of_mem_drop hx)⟩
    obtain ⟨o1, o2⟩ := elemP_one hb1.1 (by omega : b < 1099511627776) hmem hne
    obtain ⟨p1, p2, p3⟩ := elemP_ok b (tl c i) (fun x hx => (hmem x hx).1) hne
    rw [tl_len] at p2
    obtain ⟨m, rfl⟩ : ∃ m, n = m + 1 := ⟨n - 1, by omega⟩
    have hstep : ysF b (m + 1) (tl c i) = if (elemP b (tl c i)).1 < 0 then [(elemP b (tl c i)).1] else (elemP b (tl c i)).1 :: ysF b m ((tl c i).drop (elemP b (tl c i)).2) := by
      rw [tl_cons g1 h1]; rfl
    rw [tl_drop c g1] at hstep
    refine xl_call0 (.tuple #[.int .i64 (oneRL (tl c i)).1, .int .i64 (oneRL (tl c i)).2]) rfl rfl rfl rfl fn75 rfl rfl (fun E w F _ => one147_any c i g1 h1 w (by omega)) ?_
    refine xl_go tt_ok ?_
    generalize oneRL (tl c i) = e at *
    generalize elemP b (tl c i) = f at *
    refine x_if (fun h2 => ?_) (fun h2 => ?_)
    · have h2 : (decide ((e.2 : Int) = 0) || decide (b < e.1)) = true := h2
      simp only [Bool.or_eq_true, decide_eq_true_eq] at h2
      have hf := o1.2 (by rcases h2 with h2 | h2 <;> omega)
      have hbad : okY ys = false := by
        rw [g5, hstep, if_pos hf]
        unfold okY
        rw [List.all_append]
        simp; omega
      rw [hbad]
      exact finO2n intY
    · have h2 : (decide ((e.2 : Int) = 0) || decide (b < e.1)) = false := h2
      simp only [Bool.or_eq_false_iff, decide_eq_false_iff_not] at h2
      have hf : ¬ f.1 < 0 := fun hh => by rcases o1.1 hh with h3 | h3 <;> omega
      have hef := o2 hf
      subst hef
      rw [if_neg hf] at hstep
      refine xl_push tt_ok intY L f.1 8 (cs := [.int .i64 f.1]) rfl rfl rfl rfl rfl rfl rfl rfl rfl rfl rfl rfl (by kernel_rfl) rfl rfl rfl rfl rfl (fun n hn => by cases hn; decide) rfl rfl rfl (by omega) (by omega) ?_
      refine xl_go tt_ok ?_
      repeat (refine And.intro ?_ ?_; first | omega | (simp only [Lay.d_n]; omega))
      refine again (i + f.2, L ++ [f.1]) [(1, some 2)] (.of rfl rfl rfl rfl rfl rfl) ⟨by omega, by omega, by simp; omega, ?_, m, by rw [g5, hstep]; simp, by omega⟩ (by simp only; omega)
      unfold okY at g4 ⊢
      rw [List.all_append, g4]
      simp; omega
  · have h1 : ¬ i < c.size := of_decide_eq_false h1
    rw [tl_nil (by omega), ysF_nil, List.append_nil] at g5
    subst g5
    rw [g4, if_pos rfl]
    exact finO2 rfl
end Go.Proofs.YtnjmkeijjapejaaGreatDoor
namespace Go.Proofs.YtnjmkeijjapejaaGreatDoor
open Go.GV Go.RowKit
theorem oneP_two {s : ByteArray} {k : Int} (h : (oneP s).1 = k) (hk : k = 3 ∨ k = 4) : (oneP s).2 = true := by
  have := oneP_one h hk
  unfold oneP
  rw [this]
set_option maxRecDepth 100000 in
theorem strR_any (s : ByteArray) (w : World) (hs : s.size ≤ 4294967280) :
    Calls Tryz.prog 73 #[.string s] w (PureP w (OwnT 2 (intY.d (strL s)) [.int .i64 (strE s)])) := by
  refine x_fun tt_ok Tryz.func73 rfl rfl [] 0 [.v (.string s)] rfl rfl rfl rfl (fun b hb => by cases hb) ?_
  refine x_vc tt_ok ?_
  refine xl_call0 (.tuple #[.int .i64 (oneP s).1, .bool (oneP s).2]) rfl rfl rfl rfl fn55 rfl rfl (fun E w F _ => refOne_any s hs w) ?_
  refine xl_go tt_ok ?_
  refine x_if (fun h => ?_) (fun h => ?_)
  · have h : (!(oneP s).2 || decide ((oneP s).1 ≠ 4)) = true := h
    have h4 : (oneP s).1 ≠ 4 := fun h4 => by rw [oneP_two h4 (.inr rfl), decide_eq_false (by simpa using h4)] at h; cases h
    have e1 : strE s = 40 := by unfold strE; rw [if_neg h4]
    have e2 : strL s = [] := by unfold strL; rw [e1, if_neg (by omega)]
    rw [e1, e2]
    exact finO2n intY
  · have h : (!(oneP s).2 || decide ((oneP s).1 ≠ 4)) = false := h
    simp only [Bool.or_eq_false_iff, decide_eq_false_iff_not, Classical.not_not] at h
    have h4 := h.2
    have e1 : strE s = if okY (ysT s) = true then 0 else 40 := by unfold strE; rw [if_pos h4]
    have e2 : strL s = if strE s = 0 then ysT s else [] := rfl
    refine xl_call0 (.int .i64 (pfN s)) rfl rfl rfl rfl fn56 rfl rfl (fun E w F _ => prefix_any s h4 (.inr rfl) w (by omega)) ?_
    refine xl_go tt_ok ?_
    refine xl_callO2 2 (intY.d (if okY (ysT s) = true then ysT s else [])) [.bool (okY (ysT s))] rfl rfl rfl rfl fn57 rfl rfl (fun E w F _ => elements_any s h4 (.inr rfl) w hs) ?_
    refine xl_go tt_ok ?_
    generalize ysT s = ys at *
    refine x_if (fun h5 => ?_) (fun h5 => ?_)
    · have h5 : (!okY ys) = true := h5
      have h6 : okY ys = false := by simpa using h5
      rw [if_neg (by rw [h6]; simp)] at e1
      rw [e1, if_neg (by omega)] at e2
      rw [e1, e2]
      exact finO2n intY
    · have h5 : (!okY ys) = false := h5
      have h6 : okY ys = true := by simpa using h5
      rw [if_pos h6] at e1
      rw [e1, if_pos rfl] at e2
      rw [e1, e2]
      rw [if_pos h6]
      exact finO2 rfl
set_option maxRecDepth 100000 in
theorem charR_any (s : ByteArray) (w : World) (hs : s.size ≤ 4294967280) :
    Calls Tryz.prog 25 #[.string s] w (PureP w fun v _ => v = .tuple #[.int .i64 (charV s).1, .int .i64 (charV s).2]) := by
  have herr : charC s = none → charV s = (0, 40) := fun h => by unfold charV; rw [h]
  have hok : ∀ v, charC s = some v → charV s = (v, 0) := fun v h => by unfold charV; rw [h]
  refine x_fun tt_ok Tryz.func25 rfl rfl [] 0 [.v (.string s)] rfl rfl rfl rfl (fun b hb => by cases hb) ?_
  refine x_vc tt_ok ?_
  refine xl_call0 (.tuple #[.int .i64 (oneP s).1, .bool (oneP s).2]) rfl rfl rfl rfl fn55 rfl rfl (fun E w F _ => refOne_any s hs w) ?_
  refine xl_go tt_ok ?_
  refine x_if (fun h => ?_) (fun h => ?_)
  · have h : (!(oneP s).2 || decide ((oneP s).1 ≠ 3)) = true := h
    have h4 : (oneP s).1 ≠ 3 := fun h4 => by rw [oneP_two h4 (.inl rfl), decide_eq_false (by simpa using h4)] at h; cases h
    rw [herr (by unfold charC; rw [if_neg h4])]
    exact fin1 (fun _ _ => rfl)
  · have h : (!(oneP s).2 || decide ((oneP s).1 ≠ 3)) = false := h
    simp only [Bool.or_eq_false_iff, decide_eq_false_iff_not, Classical.not_not] at h
    have h4 := h.2
    have e1 : charC s = if okY (ysT s) = true ∧ ((ysT s).length : Int) ≤ mostT s then some (if 0 < pfN s then vch (ysT s) else sgnV (ysT s).length (vch (ysT s))) else none := by unfold charC; rw [if_pos h4]
    obtain ⟨q1, q2, _, _, _⟩ := lit_at h4 (.inl rfl)
    replace q2 := q2 rfl
    have hlr := limP_range (sub s 0 (pfN s))
    have htop : topT s = limP (sub s 0 (pfN s)) := rfl
    have hyle := ysT_le s
    have hzi := sub_size (s := s) (a := (pfN s : Int) + 1) (b := (s.size : Int) - 1) (by omega) (by omega) (by omega)
    have hine : ysT s ≠ [] := ysF_ne _ (bl_ne (s := inT s) (by unfold inT; omega))
    have htop0 : ¬ 0 < pfN s → topT s = 255 := fun hp => by
      unfold topT
      rw [show pfN s = 0 by omega]
      have : sub s 0 ((0 : Nat) : Int) = ⟨#[]⟩ := bl_inj (by rw [bl_sub s (by omega) (by omega) (by omega)]; rfl)
      rw [this]; rfl
    refine xl_call0 (.int .i64 (pfN s)) rfl rfl rfl rfl fn56 rfl rfl (fun E w F _ => prefix_any s h4 (.inl rfl) w (by omega)) ?_
    refine xl_go tt_ok ?_
    refine xl_callO2 2 (intY.d (if okY (ysT s) = true then ysT s else [])) [.bool (okY (ysT s))] rfl rfl rfl rfl fn57 rfl rfl (fun E w F _ => elements_any s h4 (.inl rfl) w hs) ?_
    refine xl_go tt_ok ?_
    have hmo : mostT s = if 0 < pfN s then 1 else 4 := rfl
    generalize ysT s = ys at *
    generalize mostT s = m at *
    rw [← htop] at hlr
    generalize topT s = tp at *
    by_cases hy : okY ys = true
    · rw [if_pos hy]
      rw [hy] at e1 ⊢
      simp only [true_and] at e1
      refine x_if (fun h5 => ?_) (fun h5 => ?_)
      · have h5 : ((!true || decide (4 < (ys.length : Int))) || (decide (0 < (pfN s : Int)) && decide (1 < (ys.length : Int)))) = true := h5
        simp only [Bool.not_true, Bool.false_or, Bool.or_eq_true, Bool.and_eq_true, decide_eq_true_eq] at h5
        rw [herr (by rw [e1, if_neg]; split at hmo <;> omega)]
        exact fin1 (fun _ _ => rfl)
      · have h5 : ((!true || decide (4 < (ys.length : Int))) || (decide (0 < (pfN s : Int)) && decide (1 < (ys.length : Int)))) = false := h5
        simp only [Bool.not_true, Bool.false_or, Bool.or_eq_false_iff, Bool.and_eq_false_iff, decide_eq_false_iff_not] at h5
        have hlm : (ys.length : Int) ≤ m := by split at hmo <;> omega
        rw [if_pos hlm] at e1
        have hyl : 1 ≤ ys.length := List.length_pos_iff.2 hine
        have hpos : ∀ y ∈ ys, 0 ≤ y := fun y hyy => by
          unfold okY at hy
          exact of_decide_eq_true (List.all_eq_true.1 hy y hyy)
        refine x_loop (σ := Int × Int × Int) (fun (i, v, z) => ⟨[(11, .v (.int .i64 i)), (10, .v (.int .i64 z)), (9, .v (.int .i64 v)), (7, .r 0), (6, .v (.int .i64 (pfN s)))], [], [(0, .row 2 (intY.d ys))], 1⟩)
          (fun (i, v, z) _ => 0 ≤ i ∧ i ≤ ys.length ∧ v = vch (ys.take i.toNat) ∧ z = 256 ^ i.toNat ∧ 0 ≤ v ∧ (¬ 0 < pfN s → v < 256 ^ i.toNat) ∧ (0 < pfN s → i = 0 → v = 0) ∧ v ≤ 4294967295) (fun (i, _, _) => (ys.length - i).toNat) (fun (_, _, _) => Nat.le_refl 1) (0, 0, 1) [] (.of rfl rfl rfl rfl rfl rfl)
          ⟨by omega, by omega, rfl, rfl, by omega, fun _ => by decide, fun _ _ => rfl, by omega⟩ ?_
        rintro ⟨i, v, z⟩ u hu ⟨g1, g2, g3, g4, g5, g6, g7, g8⟩
        refine x_vc tt_ok ?_
        have hc : i = 0 ∨ i = 1 ∨ i = 2 ∨ i = 3 ∨ i = 4 := by omega
        refine x_if (fun h6 => ?_) (fun h6 => ?_)
        · have h6 : i < ys.length := of_decide_eq_true h6
          have hyi : ys[i.toNat]? = some (ys.getD i.toNat 0) := by
            rw [List.getD_eq_getElem?_getD, List.getElem?_eq_getElem (by omega)]; rfl
          have hym := List.mem_of_getElem? hyi
          have hy0 := hpos _ hym
          have hy1 := hyle _ hym
          have hst := vch_step hyi
          have hval : v * 256 + ys.getD i.toNat 0 ≤ 4294967295 ∧ (¬ 0 < pfN s → v * 256 + ys.getD i.toNat 0 < 256 ^ (i + 1).toNat) ∧ z ≤ 16777216 ∧ 0 ≤ z ∧ 256 * z = 256 ^ (i + 1).toNat := by
            by_cases hp : 0 < pfN s
            · have hi0 : i = 0 := by omega
              subst hi0
              have := g7 hp rfl
              subst this
              rw [g4]
              exact ⟨by omega, fun h => absurd hp h, by decide, by decide, by decide⟩
            · have h255 := htop0 hp
              have h7 := g6 hp
              rcases hc with rfl | rfl | rfl | rfl | rfl
              · simp only [show (256 : Int) ^ (0 : Int).toNat = 1 by rfl, show (256 : Int) ^ ((0 : Int) + 1).toNat = 256 by rfl] at g4 h7 ⊢; omega
              · simp only [show (256 : Int) ^ (1 : Int).toNat = 256 by rfl, show (256 : Int) ^ ((1 : Int) + 1).toNat = 65536 by rfl] at g4 h7 ⊢; omega
              · simp only [show (256 : Int) ^ (2 : Int).toNat = 65536 by rfl, show (256 : Int) ^ ((2 : Int) + 1).toNat = 16777216 by rfl] at g4 h7 ⊢; omega
              · simp only [show (256 : Int) ^ (3 : Int).toNat = 16777216 by rfl, show (256 : Int) ^ ((3 : Int) + 1).toNat = 4294967296 by rfl] at g4 h7 ⊢; omega
              · omega
          obtain ⟨v1, v2, v3, v4, v5⟩ := hval
          repeat (refine And.intro ?_ ?_; first | omega | (simp only [Lay.d_n]; omega))
          refine again (i + 1, 256 * v + ys.getD i.toNat 0, 256 * z) [] (.of rfl rfl rfl rfl rfl rfl) ⟨by omega, by omega, ?_, v5, by omega, fun h => by have := v2 h; omega, fun _ h => by omega, by omega⟩ (by simp only; omega)
          rw [show (i + 1).toNat = i.toNat + 1 by omega, hst, ← g3]; omega
        · have h6 : ¬ i < ys.length := of_decide_eq_false h6
          have hi : i = ys.length := by omega
          rw [hi, show ((ys.length : Int)).toNat = ys.length by omega] at g3 g4 g6
          rw [List.take_length] at g3
          rw [← g3] at e1
          have hz : 1 ≤ z ∧ z ≤ 4294967296 := by
            rw [g4]
            have hc2 : ys.length = 0 ∨ ys.length = 1 ∨ ys.length = 2 ∨ ys.length = 3 ∨ ys.length = 4 := by omega
            rcases hc2 with h | h | h | h | h <;> (rw [h]; decide)
          rw [hok _ e1]
          repeat (refine And.intro ?_ ?_; first | omega | (simp only [Lay.d_n]; omega))
          refine x_if (fun h7 => ?_) (fun h7 => ?_)
          · have h7 : (decide ((pfN s : Int) = 0) && decide (z / 2 ≤ v)) = true := h7
            simp only [Bool.and_eq_true, decide_eq_true_eq] at h7
            rw [if_neg (by omega)]
            unfold sgnV
            rw [← g4, if_pos h7.2]
            repeat (refine And.intro ?_ ?_; first | omega | (simp only [Lay.d_n]; omega))
            exact fin1 (fun _ _ => rfl)
          · have h7 : (decide ((pfN s : Int) = 0) && decide (z / 2 ≤ v)) = false := h7
            simp only [Bool.and_eq_false_iff, decide_eq_false_iff_not] at h7
            have e2 : (if 0 < pfN s then v else sgnV ys.length v) = v := by
              split
              · rfl
              · unfold sgnV
                rw [← g4, if_neg (by omega)]
            rw [e2]
            exact fin1 (fun _ _ => rfl)
    · have hy2 : okY ys = false := by simpa using hy
      rw [hy2]
      rw [herr (by rw [e1, if_neg (fun hh => hy hh.1)])]
      refine x_ift rfl ?_
      exact fin1 (fun _ _ => rfl)
end Go.Proofs.YtnjmkeijjapejaaGreatDoor
namespace Go.Proofs.YtnjmkeijjapejaaGreatDoor
open Go.GV Go.RowKit
def kwW : List ByteArray := [⟨#[97, 117, 116, 111]⟩, ⟨#[98, 114, 101, 97, 107]⟩, ⟨#[99, 97, 115, 101]⟩, ⟨#[99, 104, 97, 114]⟩, ⟨#[99, 111, 110, 115, 116]⟩, ⟨#[99, 111, 110, 116, 105, 110, 117, 101]⟩, ⟨#[100, 101, 102, 97, 117, 108, 116]⟩, ⟨#[100, 111]⟩, ⟨#[100, 111, 117, 98, 108, 101]⟩, ⟨#[101, 108, 115, 101]⟩, ⟨#[101, 110, 117, 109]⟩, ⟨#[101, 120, 116, 101, 114, 110]⟩, ⟨#[102, 108, 111, 97, 116]⟩, ⟨#[102, 111, 114]⟩, ⟨#[103, 111, 116, 111]⟩, ⟨#[105, 102]⟩, ⟨#[105, 110, 108, 105, 110, 101]⟩, ⟨#[105, 110, 116]⟩, ⟨#[108, 111, 110, 103]⟩, ⟨#[114, 101, 103, 105, 115, 116, 101, 114]⟩, ⟨#[114, 101, 115, 116, 114, 105, 99, 116]⟩, ⟨#[114, 101, 116, 117, 114, 110]⟩, ⟨#[115, 104, 111, 114, 116]⟩, ⟨#[115, 105, 103, 110, 101, 100]⟩, ⟨#[115, 105, 122, 101, 111, 102]⟩, ⟨#[115, 116, 97, 116, 105, 99]⟩, ⟨#[115, 116, 114, 117, 99, 116]⟩, ⟨#[115, 119, 105, 116, 99, 104]⟩, ⟨#[116, 121, 112, 101, 100, 101, 102]⟩, ⟨#[117, 110, 105, 111, 110]⟩, ⟨#[117, 110, 115, 105, 103, 110, 101, 100]⟩, ⟨#[118, 111, 105, 100]⟩, ⟨#[118, 111, 108, 97, 116, 105, 108, 101]⟩, ⟨#[119, 104, 105, 108, 101]⟩, ⟨#[95, 65, 108, 105, 103, 110, 97, 115]⟩, ⟨#[95, 65, 108, 105, 103, 110, 111, 102]⟩, ⟨#[95, 65, 116, 111, 109, 105, 99]⟩, ⟨#[95, 66, 111, 111, 108]⟩, ⟨#[95, 67, 111, 109, 112, 108, 101, 120]⟩, ⟨#[95, 71, 101, 110, 101, 114, 105, 99]⟩, ⟨#[95, 73, 109, 97, 103, 105, 110, 97, 114, 121]⟩, ⟨#[95, 78, 111, 114, 101, 116, 117, 114, 110]⟩, ⟨#[95, 83, 116, 97, 116, 105, 99, 95, 97, 115, 115, 101, 114, 116]⟩, ⟨#[95, 84, 104, 114, 101, 97, 100, 95, 108, 111, 99, 97, 108]⟩]
def kwB (s : ByteArray) : Bool := kwW.any fun w => decide (s = w)
set_option maxRecDepth 100000 in
theorem keyword_any (s : ByteArray) (w : World) : Calls Tryz.prog 30 #[.string s] w (PureP w fun v _ => v = .bool (kwB s)) := by
  refine x_fun tt_ok Tryz.func30 rfl rfl [] 0 [.v (.string s)] rfl rfl rfl rfl (fun b hb => by cases hb) ?_
  refine x_vc tt_ok ?_
  iterate 43
    refine x_if (fun h => ?_) (fun h => ?_)
    · have h := of_decide_eq_true h
      subst h
      refine x_ift rfl ?_
      refine fin1 (fun _ _ => rfl)
  refine x_if (fun h => ?_) (fun h => ?_)
  · have h := of_decide_eq_true h
    subst h
    refine fin1 (fun _ _ => rfl)
  refine fin1 (fun _ _ => ?_)
  have : kwB s = false := by
    unfold kwB
    rw [List.any_eq_false]
    intro x hx
    simp only [kwW, List.mem_cons, List.not_mem_nil, or_false] at hx
    simp only [decide_eq_false_iff_not] at *
    repeat' (rcases hx with hx | hx)
    all_goals
      rw [decide_eq_true_eq]
      assumption
  rw [this]; rfl
end Go.Proofs.YtnjmkeijjapejaaGreatDoor
namespace Go.Proofs.YtnjmkeijjapejaaGreatDoor
open Go.GV Go.RowKit
def allB : ByteArray := ⟨#[32, 97, 117, 116, 111, 32, 98, 114, 101, 97, 107, 32, 99, 97, 115, 101, 32, 99, 104, 97, 114, 32, 99, 111, 110, 115, 116, 32, 99, 111, 110, 116, 105, 110, 117, 101, 32, 100, 101, 102, 97, 117, 108, 116, 32, 100, 111, 32, 100, 111, 117, 98, 108, 101, 32, 101, 108, 115, 101, 32, 101, 110, 117, 109, 32, 101, 120, 116, 101, 114, 110, 32, 102, 108, 111, 97, 116, 32, 102, 111, 114, 32, 103, 111, 116, 111, 32, 105, 102, 32, 105, 110, 108, 105, 110, 101, 32, 105, 110, 116, 32, 108, 111, 110, 103, 32, 114, 101, 103, 105, 115, 116, 101, 114, 32, 114, 101, 115, 116, 114, 105, 99, 116, 32, 114, 101, 116, 117, 114, 110, 32, 115, 104, 111, 114, 116, 32, 115, 105, 103, 110, 101, 100, 32, 115, 105, 122, 101, 111, 102, 32, 115, 116, 97, 116, 105, 99, 32, 115, 116, 114, 117, 99, 116, 32, 115, 119, 105, 116, 99, 104, 32, 116, 121, 112, 101, 100, 101, 102, 32, 117, 110, 105, 111, 110, 32, 117, 110, 115, 105, 103, 110, 101, 100, 32, 118, 111, 105, 100, 32, 118, 111, 108, 97, 116, 105, 108, 101, 32, 119, 104, 105, 108, 101, 32, 95, 65, 108, 105, 103, 110, 97, 115, 32, 95, 65, 108, 105, 103, 110, 111, 102, 32, 95, 65, 116, 111, 109, 105, 99, 32, 95, 66, 111, 111, 108, 32, 95, 67, 111, 109, 112, 108, 101, 120, 32, 95, 71, 101, 110, 101, 114, 105, 99, 32, 95, 73, 109, 97, 103, 105, 110, 97, 114, 121, 32, 95, 78, 111, 114, 101, 116, 117, 114, 110, 32, 95, 83, 116, 97, 116, 105, 99, 95, 97, 115, 115, 101, 114, 116, 32, 95, 84, 104, 114, 101, 97, 100, 95, 108, 111, 99, 97, 108, 32]⟩
def spB (s : ByteArray) : ByteArray := (⟨#[32]⟩ ++ s) ++ ⟨#[32]⟩
theorem bl_spB (s : ByteArray) : bl (spB s) = 32 :: bl s ++ [32] := by
  unfold spB
  rw [bl_append, bl_append]; rfl
theorem spB_size (s : ByteArray) : (spB s).size = s.size + 2 := by
  have h := bl_len (spB s)
  rw [bl_spB, List.length_append, List.length_cons, bl_len] at h
  simp at h; omega
def noSp (L : List Int) : Bool := L.all fun c => decide (c ≠ 32)
def wordAt (L : List Int) : List Int := L.takeWhile fun c => decide (c ≠ 32)
theorem wordAt_eq : ∀ (a : List Int) (r : List Int), noSp a = true → wordAt (a ++ 32 :: r) = a
  | [], r, _ => rfl
  | c :: a, r, h => by
    unfold noSp at h
    simp only [List.all_cons, Bool.and_eq_true] at h
    show List.takeWhile _ (c :: (a ++ 32 :: r)) = _
    rw [List.takeWhile_cons, if_pos h.1]
    exact congrArg (c :: ·) (wordAt_eq a r h.2)
def kwL : List (List Int) := kwW.map bl
def kwHas (w : ByteArray) : Bool := decide (0 < w.size) && (noSp (bl w) && (List.range 315).any fun i => decide (i + (w.size + 2) ≤ 315) && decide (((bl allB).drop i).take (w.size + 2) = bl (spB w)))
set_option maxRecDepth 100000 in
theorem kw_has : (kwW.all kwHas) = true := by kernel_rfl
set_option maxRecDepth 100000 in
theorem kw_only : ((List.range 315).all fun i => decide ((bl allB).getD i 0 ≠ 32) || (decide (wordAt ((bl allB).drop (i + 1)) = []) || kwL.contains (wordAt ((bl allB).drop (i + 1))))) = true := by kernel_rfl
theorem allB_size : allB.size = 315 := by kernel_rfl
theorem kw_iff (s : ByteArray) : kwB s = true ↔ 0 < s.size ∧ noSp (bl s) = true ∧ ∃ i : Nat, i + (s.size + 2) ≤ 315 ∧ ((bl allB).drop i).take (s.size + 2) = bl (spB s) := by
  constructor
  · intro h
    unfold kwB at h
    obtain ⟨w, hw, e⟩ := List.any_eq_true.1 h
    have e := of_decide_eq_true e
    subst e
    have h2 := List.all_eq_true.1 kw_has s hw
    unfold kwHas at h2
    simp only [Bool.and_eq_true, decide_eq_true_eq] at h2
    obtain ⟨h3, h4, h5⟩ := h2
    obtain ⟨i, _, h6⟩ := List.any_eq_true.1 h5
    simp only [Bool.and_eq_true, decide_eq_true_eq] at h6
    exact ⟨h3, h4, i, h6⟩
  · rintro ⟨h1, h2, i, h3, h4⟩
    have hl : (bl allB).length = 315 := by rw [bl_len]; exact allB_size
    have hsl := bl_len s
    rw [bl_spB] at h4
    have h5 : (bl allB).drop i = 32 :: bl s ++ 32 :: (bl allB).drop (i + (s.size + 2)) := by
      rw [← List.take_append_drop (s.size + 2) ((bl allB).drop i), h4, List.drop_drop]
      simp
    have h6 : (bl allB).drop (i + 1) = bl s ++ 32 :: (bl allB).drop (i + (s.size + 2)) := by
      rw [← List.drop_drop, h5]; rfl
    have h7 : (bl allB).getD i 0 = 32 := by
      have := congrArg (fun l => l[0]?) h5
      simp only [List.getElem?_drop, Nat.add_zero, List.cons_append, List.getElem?_cons_zero] at this
      rw [List.getD_eq_getElem?_getD, this]; rfl
    have h8 := List.all_eq_true.1 kw_only i (List.mem_range.2 (by omega))
    rw [h6, wordAt_eq _ _ h2, h7] at h8
    have h9 : bl s ≠ [] := bl_ne h1
    rw [decide_eq_false (by simp), decide_eq_false h9, Bool.false_or, Bool.false_or, List.contains_iff_mem] at h8
    obtain ⟨w, hw, e⟩ := List.mem_map.1 h8
    unfold kwB
    exact List.any_eq_true.2 ⟨w, hw, decide_eq_true (bl_inj e.symm)⟩
set_option maxRecDepth 100000 in
theorem keywordR_any (s : ByteArray) (w : World) (hs : s.size ≤ 140737488355328) : Calls Tryz.prog 71 #[.string s] w (PureP w fun v _ => v = .bool (kwB s)) := by
  have hk := kw_iff s
  have hbl := bl_len s
  have hF : ∀ {P : Prop}, (kwB s = true ↔ P) → ¬ P → kwB s = false := fun h hn => by
    cases hb : kwB s with
    | false => rfl
    | true => exact absurd (h.1 hb) hn
  generalize kwB s = N at *
  refine x_fun tt_ok Tryz.func71 rfl rfl [] 0 [.v (.string s)] rfl rfl rfl rfl (fun b hb => by cases hb) ?_
  refine x_vc tt_ok ?_
  refine And.intro (show 1 + s.size ≤ 9223372036854775807 by omega) ?_
  refine And.intro (show ((⟨#[32]⟩ : ByteArray) ++ s).size + 1 ≤ 9223372036854775807 by rw [ByteArray.size_append]; show 1 + s.size + 1 ≤ _; omega) ?_
  refine x_loop (σ := Int) (fun k => ⟨[(4, .v (.int .i64 k)), (3, .v (.string (spB s))), (0, .v (.string s))], [], [], 0⟩)
    (fun k _ => 0 ≤ k ∧ k ≤ s.size ∧ noSp ((bl s).take k.toNat) = true) (fun k => (s.size - k).toNat) (fun _ => Nat.le_refl _) 0 [] (.of rfl rfl rfl rfl rfl rfl)
    ⟨by omega, by omega, rfl⟩ ?_
  rintro k u hu ⟨g1, g2, g3⟩
  refine x_vc tt_ok ?_
  refine x_if (fun h => ?_) (fun h => ?_)
  · have h : k < s.size := of_decide_eq_true h
    have hbk := bl_get s (n := k.toNat) (by omega)
    rw [show ((k.toNat : Nat) : Int) = k by omega] at hbk
    repeat (refine And.intro ?_ ?_; first | omega | (simp only [Lay.d_n]; omega))
    refine x_if (fun h1 => ?_) (fun h1 => ?_)
    · have h1 : bt s k = 32 := of_decide_eq_true h1
      have e : N = false := hF hk (fun hh => by
        have h2 := List.all_eq_true.1 hh.2.1 _ (List.mem_of_getElem? hbk)
        exact absurd h1 (of_decide_eq_true h2))
      rw [e]
      exact fin1 (fun _ _ => rfl)
    · have h1 : ¬ bt s k = 32 := of_decide_eq_false h1
      repeat (refine And.intro ?_ ?_; first | omega | (simp only [Lay.d_n]; omega))
      refine again (k + 1) [] (.of rfl rfl rfl rfl rfl rfl) ⟨by omega, by omega, ?_⟩ (by omega)
      unfold noSp at g3 ⊢
      rw [show (k + 1).toNat = k.toNat + 1 by omega, take_get hbk, List.all_append, g3]
      simp [h1]
  · have h : ¬ k < s.size := of_decide_eq_false h
    have hno : noSp (bl s) = true := by
      rw [List.take_of_length_le (by omega)] at g3; exact g3
    have hws := spB_size s
    refine x_loop (σ := Int) (fun i => ⟨[(5, .v (.int .i64 i)), (3, .v (.string (spB s))), (0, .v (.string s))], [], [], 0⟩)
      (fun i _ => 0 ≤ i ∧ i ≤ 316 ∧ ∀ j : Nat, (j : Int) < i → ((bl allB).drop j).take (s.size + 2) ≠ bl (spB s)) (fun i => (316 - i).toNat) (fun _ => Nat.le_refl _) 0 [] (.of rfl rfl rfl rfl rfl rfl)
      ⟨by omega, by omega, fun j hj => by omega⟩ ?_
    rintro i u2 hu2 ⟨f1, f2, f3⟩
    refine x_vc tt_ok ?_
    repeat (refine And.intro ?_ ?_; first | omega | (simp only [Lay.d_n]; omega))
    refine x_if (fun h2 => ?_) (fun h2 => ?_)
    · have h2 : (decide (i + (spB s).size ≤ 315) && decide (0 < (s.size : Int))) = true := h2
      simp only [Bool.and_eq_true, decide_eq_true_eq] at h2
      have hal := allB_size
      have hsub : bl (sub allB i (i + (spB s).size)) = ((bl allB).drop i.toNat).take (s.size + 2) := by
        rw [bl_sub allB f1 (by omega) (by omega)]
        unfold tl
        rw [show (i + ((spB s).size : Int) - i).toNat = s.size + 2 by omega]
      repeat (refine And.intro ?_ ?_; first | omega | (simp only [Lay.d_n]; omega))
      refine And.intro (show i + ((spB s).size : Int) ≤ ((315 : Nat) : Int) by omega) ?_
      refine x_if (fun h3 => ?_) (fun h3 => ?_)
      · have h3 : sub allB i (i + (spB s).size) = spB s := of_decide_eq_true h3
        have e : N = true := hk.2 ⟨by omega, hno, i.toNat, by omega, by rw [← hsub, h3]⟩
        rw [e]
        exact fin1 (fun _ _ => rfl)
      · have h3 : ¬ sub allB i (i + (spB s).size) = spB s := of_decide_eq_false h3
        repeat (refine And.intro ?_ ?_; first | omega | (simp only [Lay.d_n]; omega))
        refine again (i + 1) [] (.of rfl rfl rfl rfl rfl rfl) ⟨by omega, by omega, fun j hj hh => ?_⟩ (by omega)
        by_cases hji : (j : Int) < i
        · exact f3 j hji hh
        · have : j = i.toNat := by omega
          subst this
          rw [← hsub] at hh
          exact h3 (bl_inj hh)
    · have h2 : (decide (i + (spB s).size ≤ 315) && decide (0 < (s.size : Int))) = false := h2
      have e : N = false := hF hk (fun hh => by
        obtain ⟨a1, _, j, a2, a3⟩ := hh
        simp only [Bool.and_eq_false_iff, decide_eq_false_iff_not] at h2
        exact f3 j (by rcases h2 with h2 | h2 <;> omega) a3)
      rw [e]
      exact fin1 (fun _ _ => rfl)
end Go.Proofs.YtnjmkeijjapejaaGreatDoor
namespace Go.Proofs.YtnjmkeijjapejaaGreatDoor
open Go.GV Go.RowKit
def canP (t : ByteArray) : ByteArray := if t = ⟨#[60, 58]⟩ then ⟨#[91]⟩ else if t = ⟨#[58, 62]⟩ then ⟨#[93]⟩ else if t = ⟨#[60, 37]⟩ then ⟨#[123]⟩ else if t = ⟨#[37, 62]⟩ then ⟨#[125]⟩
  else if t = ⟨#[37, 58]⟩ then ⟨#[35]⟩ else if t = ⟨#[37, 58, 37, 58]⟩ then ⟨#[35, 35]⟩ else t
set_option maxRecDepth 100000 in
theorem canon_any (s : ByteArray) (w : World) : Calls Tryz.prog 33 #[.string s] w (PureP w fun v _ => v = .string (canP s)) := by
  refine x_fun tt_ok Tryz.func33 rfl rfl [] 0 [.v (.string s)] rfl rfl rfl rfl (fun b hb => by cases hb) ?_
  refine x_vc tt_ok ?_
  iterate 6
    refine x_if (fun h => ?_) (fun h => ?_)
    · have h := of_decide_eq_true h
      subst h
      refine fin1 (fun _ _ => rfl)
  refine fin1 (fun _ _ => ?_)
  simp only [decide_eq_false_iff_not] at *
  have : canP s = s := by unfold canP; simp [*]
  rw [this]; rfl
set_option maxRecDepth 100000 in
theorem canonR_any (s : ByteArray) (w : World) : Calls Tryz.prog 50 #[.string s] w (PureP w fun v _ => v = .string (canP s)) := by
  refine x_fun tt_ok Tryz.func50 rfl rfl [] 0 [.v (.string s)] rfl rfl rfl rfl (fun b hb => by cases hb) ?_
  refine x_vc tt_ok ?_
  iterate 6
    refine x_if (fun h => ?_) (fun h => ?_)
    · have h := of_decide_eq_true h
      subst h
      refine fin1 (fun _ _ => rfl)
  refine fin1 (fun _ _ => ?_)
  simp only [decide_eq_false_iff_not] at *
  have : canP s = s := by unfold canP; simp [*]
  rw [this]; rfl
def clsV (k : Int) (t : ByteArray) : Int :=
  if k = 1 then (if kwB t = true then 1 else 2)
  else if k = 2 then (if (intV t).2.2 = 0 then 3 else if floatB t = true then 4 else 0)
  else if k = 3 then (if (charV t).2 = 0 then 5 else 0)
  else if k = 4 then (if strE t = 0 then 6 else 0)
  else if k = 5 then 7 else 0
def clsT (k : Int) (t : ByteArray) : ByteArray := if k = 5 then canP t else t
def clsA (k : Int) (t : ByteArray) : Int × ByteArray := if clsV k t = 0 then (0, ⟨#[]⟩) else (clsV k t, clsT k t)
def clsE (k : Int) (t : ByteArray) : Int := if clsV k t = 0 then 40 else 0
set_option maxRecDepth 100000 in
theorem class_any (k : Int) (s : ByteArray) (w : World) (hs : s.size ≤ 4294967280) (hg : Glob (im w)) :
    Calls Tryz.prog 16 #[.int .i64 k, .string s] w (PureP w fun v _ => v = .tuple #[.agg #[.int .i64 (clsA k s).1, .string (clsA k s).2], .int .i64 (clsE k s)]) := by
  refine x_fun tt_ok Tryz.func16 rfl rfl [] 0 [.v (.int .i64 k), .v (.string s)] rfl rfl rfl rfl (fun b hb => by cases hb) ?_
  iterate 2
    refine x_seq ?_
    refine x_vc tt_ok ?_
  refine x_cut (σ := Int × ByteArray) (fun p => ⟨[(6, .v (.int .i64 p.1)), (1, .v (.string p.2)), (4, .p 0 0), (5, .v (.int .i64 0))], [], [(0, .box 56 [.v (.int .i64 0), .v (.string ⟨#[]⟩)])], 1⟩) (fun p _ => p = (clsV k s, clsT k s)) (fun _ => Nat.le_refl _) ?_ ?_
  · refine x_vc tt_ok ?_
    refine x_if (fun h => ?_) (fun h => ?_)
    · have h : k = 1 := of_decide_eq_true h
      subst h
      refine xl_call0 (.bool (kwB s)) rfl rfl rfl rfl fn30 rfl rfl (fun E w F _ => keyword_any s w) ?_
      refine xl_go tt_ok ?_
      refine x_if (fun h => ?_) (fun h => ?_)
      · have h : kwB s = true := h
        exact meet (1, s) [] (.of rfl rfl rfl rfl rfl rfl) (Prod.ext (by unfold clsV; rw [if_pos rfl, if_pos h]) rfl)
      · have h : kwB s = false := h
        exact meet (2, s) [] (.of rfl rfl rfl rfl rfl rfl) (Prod.ext (by unfold clsV; rw [if_pos rfl, if_neg (by rw [h]; simp)]) rfl)
    · have h1 : ¬ k = 1 := of_decide_eq_false h
      refine x_if (fun h => ?_) (fun h => ?_)
      · have h : k = 2 := of_decide_eq_true h
        subst h
        refine xl_call0 (.tuple #[.int .u64 (intV s).1, .bool (intV s).2.1, .int .i64 (intV s).2.2]) rfl rfl rfl rfl fn17 rfl rfl (fun E w F _ => int_any s w (by omega)) ?_
        refine xl_go tt_ok ?_
        refine x_if (fun h => ?_) (fun h => ?_)
        · have h : (intV s).2.2 = 0 := of_decide_eq_true h
          exact meet (3, s) [] (.of rfl rfl rfl rfl rfl rfl) (Prod.ext (by unfold clsV; rw [if_neg (by omega), if_pos rfl, if_pos h]) rfl)
        · have h2 : ¬ (intV s).2.2 = 0 := of_decide_eq_false h
          refine xl_call0 (.bool (floatB s)) rfl rfl rfl rfl fn31 rfl rfl (fun E w F _ => float_any s w (by omega)) ?_
          refine xl_go tt_ok ?_
          refine x_if (fun h => ?_) (fun h => ?_)
          · have h : floatB s = true := h
            exact meet (4, s) [] (.of rfl rfl rfl rfl rfl rfl) (Prod.ext (by unfold clsV; rw [if_neg (by omega), if_pos rfl, if_neg h2, if_pos h]) rfl)
          · have h : floatB s = false := h
            exact meet (0, s) [] (.of rfl rfl rfl rfl rfl rfl) (Prod.ext (by unfold clsV; rw [if_neg (by omega), if_pos rfl, if_neg h2, if_neg (by rw [h]; simp)]) rfl)
      · have h2 : ¬ k = 2 := of_decide_eq_false h
        refine x_if (fun h => ?_) (fun h => ?_)
        · have h : k = 3 := of_decide_eq_true h
          subst h
          refine xl_call0 (.tuple #[.int .i64 (charV s).1, .int .i64 (charV s).2]) rfl rfl rfl rfl fn18 rfl rfl (fun E w F hs' => char_any s w hs (hg.imm hs'.imm)) ?_
          refine xl_go tt_ok ?_
          refine x_if (fun h => ?_) (fun h => ?_)
          · have h : (charV s).2 = 0 := of_decide_eq_true h
            exact meet (5, s) [] (.of rfl rfl rfl rfl rfl rfl) (Prod.ext (by unfold clsV; rw [if_neg (by omega), if_neg (by omega), if_pos rfl, if_pos h]) rfl)
          · have h : ¬ (charV s).2 = 0 := of_decide_eq_false h
            exact meet (0, s) [] (.of rfl rfl rfl rfl rfl rfl) (Prod.ext (by unfold clsV; rw [if_neg (by omega), if_neg (by omega), if_pos rfl, if_neg h]) rfl)
        · have h3 : ¬ k = 3 := of_decide_eq_false h
          refine x_if (fun h => ?_) (fun h => ?_)
          · have h : k = 4 := of_decide_eq_true h
            subst h
            refine xl_callO2 2 (intY.d (strL s)) [.int .i64 (strE s)] rfl rfl rfl rfl fn32 rfl rfl (fun E w F hs' => str_any s w hs (hg.imm hs'.imm)) ?_
            refine xl_go tt_ok ?_
            refine x_if (fun h => ?_) (fun h => ?_)
            · have h : strE s = 0 := of_decide_eq_true h
              exact meet (6, s) [] (.of rfl rfl rfl rfl rfl rfl) (Prod.ext (by unfold clsV; rw [if_neg (by omega), if_neg (by omega), if_neg (by omega), if_pos rfl, if_pos h]) rfl)
            · have h : ¬ strE s = 0 := of_decide_eq_false h
              exact meet (0, s) [] (.of rfl rfl rfl rfl rfl rfl) (Prod.ext (by unfold clsV; rw [if_neg (by omega), if_neg (by omega), if_neg (by omega), if_pos rfl, if_neg h]) rfl)
          · have h4 : ¬ k = 4 := of_decide_eq_false h
            refine x_if (fun h => ?_) (fun h => ?_)
            · have h : k = 5 := of_decide_eq_true h
              subst h
              refine xl_call0 (.string (canP s)) rfl rfl rfl rfl fn33 rfl rfl (fun E w F _ => canon_any s w) ?_
              refine xl_go tt_ok ?_
              exact meet (7, canP s) [] (.of rfl rfl rfl rfl rfl rfl) rfl
            · have h5 : ¬ k = 5 := of_decide_eq_false h
              exact meet (0, s) [] (.of rfl rfl rfl rfl rfl rfl) (Prod.ext (by unfold clsV; rw [if_neg h1, if_neg h2, if_neg h3, if_neg h4, if_neg h5]) (by unfold clsT; rw [if_neg h5]))
  · rintro p u1 hu1 rfl
    refine x_vc tt_ok ?_
    refine x_if (fun h => ?_) (fun h => ?_)
    · have h : clsV k s = 0 := of_decide_eq_true h
      have e1 : clsA k s = (0, ⟨#[]⟩) := by unfold clsA; rw [if_pos h]
      have e2 : clsE k s = 40 := by unfold clsE; rw [if_pos h]
      rw [e1, e2]
      exact fin1 (fun _ _ => rfl)
    · have h : ¬ clsV k s = 0 := of_decide_eq_false h
      have e1 : clsA k s = (clsV k s, clsT k s) := by unfold clsA; rw [if_neg h]
      have e2 : clsE k s = 0 := by unfold clsE; rw [if_neg h]
      rw [e1, e2]
      exact fin1 (fun _ _ => rfl)
set_option maxRecDepth 100000 in
theorem clsR_any (k : Int) (s : ByteArray) (w : World) (hs : s.size ≤ 4294967280) :
    Calls Tryz.prog 49 #[.int .i64 k, .string s] w (PureP w fun v _ => v = .int .i64 (clsV k s)) := by
  refine x_fun tt_ok Tryz.func49 rfl rfl [] 0 [.v (.int .i64 k), .v (.string s)] rfl rfl rfl rfl (fun b hb => by cases hb) ?_
  refine x_vc tt_ok ?_
  refine x_if (fun h => ?_) (fun h => ?_)
  · have h : k = 1 := of_decide_eq_true h
    subst h
    refine xl_call0 (.bool (kwB s)) rfl rfl rfl rfl fn71 rfl rfl (fun E w F _ => keywordR_any s w (by omega)) ?_
    refine xl_go tt_ok ?_
    refine x_if (fun h => ?_) (fun h => ?_)
    · have h : kwB s = true := h
      have e : clsV 1 s = 1 := by unfold clsV; rw [if_pos rfl, if_pos h]
      rw [e]
      exact fin1 (fun _ _ => rfl)
    · have h : kwB s = false := h
      have e : clsV 1 s = 2 := by unfold clsV; rw [if_pos rfl, if_neg (by rw [h]; simp)]
      rw [e]
      exact fin1 (fun _ _ => rfl)
  · have h1 : ¬ k = 1 := of_decide_eq_false h
    refine x_if (fun h => ?_) (fun h => ?_)
    · have h : k = 2 := of_decide_eq_true h
      subst h
      refine xl_call0 (.tuple #[.int .u64 (intV s).1, .bool (intV s).2.1, .int .i64 (intV s).2.2]) rfl rfl rfl rfl fn24 rfl rfl (fun E w F _ => intR_any s w (by omega)) ?_
      refine xl_go tt_ok ?_
      refine x_if (fun h => ?_) (fun h => ?_)
      · have h : (intV s).2.2 = 0 := of_decide_eq_true h
        have e : clsV 2 s = 3 := by unfold clsV; rw [if_neg (by omega), if_pos rfl, if_pos h]
        rw [e]
        exact fin1 (fun _ _ => rfl)
      · have h2 : ¬ (intV s).2.2 = 0 := of_decide_eq_false h
        refine xl_call0 (.bool (floatB s)) rfl rfl rfl rfl fn72 rfl rfl (fun E w F _ => floatR_any s w (by omega)) ?_
        refine xl_go tt_ok ?_
        refine x_if (fun h => ?_) (fun h => ?_)
        · have h : floatB s = true := h
          have e : clsV 2 s = 4 := by unfold clsV; rw [if_neg (by omega), if_pos rfl, if_neg h2, if_pos h]
          rw [e]
          exact fin1 (fun _ _ => rfl)
        · have h : floatB s = false := h
          have e : clsV 2 s = 0 := by unfold clsV; rw [if_neg (by omega), if_pos rfl, if_neg h2, if_neg (by rw [h]; simp)]
          rw [e]
          exact fin1 (fun _ _ => rfl)
    · have h2 : ¬ k = 2 := of_decide_eq_false h
      refine x_if (fun h => ?_) (fun h => ?_)
      · have h : k = 3 := of_decide_eq_true h
        subst h
        refine xl_call0 (.tuple #[.int .i64 (charV s).1, .int .i64 (charV s).2]) rfl rfl rfl rfl fn25 rfl rfl (fun E w F _ => charR_any s w hs) ?_
        refine xl_go tt_ok ?_
        refine x_if (fun h => ?_) (fun h => ?_)
        · have h : (charV s).2 = 0 := of_decide_eq_true h
          have e : clsV 3 s = 5 := by unfold clsV; rw [if_neg (by omega), if_neg (by omega), if_pos rfl, if_pos h]
          rw [e]
          exact fin1 (fun _ _ => rfl)
        · have h : ¬ (charV s).2 = 0 := of_decide_eq_false h
          have e : clsV 3 s = 0 := by unfold clsV; rw [if_neg (by omega), if_neg (by omega), if_pos rfl, if_neg h]
          rw [e]
          exact fin1 (fun _ _ => rfl)
      · have h3 : ¬ k = 3 := of_decide_eq_false h
        refine x_if (fun h => ?_) (fun h => ?_)
        · have h : k = 4 := of_decide_eq_true h
          subst h
          refine xl_callO2 2 (intY.d (strL s)) [.int .i64 (strE s)] rfl rfl rfl rfl fn73 rfl rfl (fun E w F _ => strR_any s w hs) ?_
          refine xl_go tt_ok ?_
          refine x_if (fun h => ?_) (fun h => ?_)
          · have h : strE s = 0 := of_decide_eq_true h
            have e : clsV 4 s = 6 := by unfold clsV; rw [if_neg (by omega), if_neg (by omega), if_neg (by omega), if_pos rfl, if_pos h]
            rw [e]
            exact fin1 (fun _ _ => rfl)
          · have h : ¬ strE s = 0 := of_decide_eq_false h
            have e : clsV 4 s = 0 := by unfold clsV; rw [if_neg (by omega), if_neg (by omega), if_neg (by omega), if_pos rfl, if_neg h]
            rw [e]
            exact fin1 (fun _ _ => rfl)
        · have h4 : ¬ k = 4 := of_decide_eq_false h
          refine x_if (fun h => ?_) (fun h => ?_)
          · have h : k = 5 := of_decide_eq_true h
            subst h
            exact fin1 (fun _ _ => rfl)
          · have h5 : ¬ k = 5 := of_decide_eq_false h
            have e : clsV k s = 0 := by unfold clsV; rw [if_neg h1, if_neg h2, if_neg h3, if_neg h4, if_neg h5]
            rw [e]
            exact fin1 (fun _ _ => rfl)
theorem clsT_op {k : Int} {s : ByteArray} (h0 : clsV k s ≠ 0) : clsT k s = if clsV k s = 7 then canP s else s := by
  unfold clsT
  by_cases h5 : k = 5
  · subst h5; rfl
  · rw [if_neg h5, if_neg]
    unfold clsV
    (repeat' split) <;> omega
set_option maxRecDepth 100000 in
theorem classR_any (k : Int) (s : ByteArray) (w : World) (hs : s.size ≤ 4294967280) :
    Calls Tryz.prog 23 #[.int .i64 k, .string s] w (PureP w fun v _ => v = .tuple #[.agg #[.int .i64 (clsA k s).1, .string (clsA k s).2], .int .i64 (clsE k s)]) := by
  refine x_fun tt_ok Tryz.func23 rfl rfl [] 0 [.v (.int .i64 k), .v (.string s)] rfl rfl rfl rfl (fun b hb => by cases hb) ?_
  refine x_vc tt_ok ?_
  refine xl_call0 (.int .i64 (clsV k s)) rfl rfl rfl rfl fn49 rfl rfl (fun E w F _ => clsR_any k s w hs) ?_
  refine xl_go tt_ok ?_
  refine x_if (fun h => ?_) (fun h => ?_)
  · have h : clsV k s = 0 := of_decide_eq_true h
    have e1 : clsA k s = (0, ⟨#[]⟩) := by unfold clsA; rw [if_pos h]
    have e2 : clsE k s = 40 := by unfold clsE; rw [if_pos h]
    rw [e1, e2]
    exact fin1 (fun _ _ => rfl)
  · have h : ¬ clsV k s = 0 := of_decide_eq_false h
    have e1 : clsA k s = (clsV k s, clsT k s) := by unfold clsA; rw [if_neg h]
    have e2 : clsE k s = 0 := by unfold clsE; rw [if_neg h]
    rw [e1, e2, clsT_op h]
    refine x_if (fun h2 => ?_) (fun h2 => ?_)
    · have h2 : clsV k s = 7 := of_decide_eq_true h2
      rw [if_pos h2]
      refine xl_call0 (.string (canP s)) rfl rfl rfl rfl fn50 rfl rfl (fun E w F _ => canonR_any s w) ?_
      refine xl_go tt_ok ?_
      exact fin1 (fun _ _ => rfl)
    · have h2 : ¬ clsV k s = 7 := of_decide_eq_false h2
      rw [if_neg h2]
      exact fin1 (fun _ _ => rfl)
end Go.Proofs.YtnjmkeijjapejaaGreatDoor
namespace Go.Proofs.YtnjmkeijjapejaaGreatDoor
open Go.GV Go.RowKit
end Go.Proofs.YtnjmkeijjapejaaGreatDoor
namespace Go.GV
open Go.RowKit
end Go.GV
namespace Go.GV
open Go.RowKit
end Go.GV
namespace Go.GV
open Go.RowKit
theorem flatMap_replicateG {α : Type} {f : α → List Value} {z : α} : ∀ m : Nat, (List.replicate m z).flatMap f = (List.replicate m (f z)).flatten
  | 0 => rfl
  | m + 1 => by rw [List.replicate_succ, List.flatMap_cons, flatMap_replicateG m, List.replicate_succ, List.flatten_cons]
theorem madeCells_rep (z : Array Value) (n : Nat) (hz : z.size = n) (hn : 0 < n) (m : Nat) : (madeCells z (m * n)).toList = (List.replicate m z.toList).flatten := by
  have e : (List.replicate m z.toList).flatten = (List.replicate m z).flatMap Array.toList := (flatMap_replicateG m).symm
  rw [e]
  apply List.ext_getElem?
  intro i
  by_cases hi : i < m * n
  · have h1 := flatMap_get (m := n) (fun x : { x : Array Value // x.size = n } => x.1.toList) (fun x => by simp [x.2]) (List.replicate m ⟨z, hz⟩) (i / n) (i % n) ⟨z, hz⟩
      (by rw [List.getElem?_replicate, if_pos (Nat.div_lt_of_lt_mul (by rw [Nat.mul_comm]; exact hi))]) (Nat.mod_lt _ hn)
    have e2 : (List.replicate m (⟨z, hz⟩ : { x : Array Value // x.size = n })).flatMap (fun x => x.1.toList) = (List.replicate m z).flatMap Array.toList := by
      rw [flatMap_replicateG, flatMap_replicateG]
    rw [e2, Nat.mul_comm, Nat.div_add_mod] at h1
    rw [h1]
    have hm : i % n < z.size := by rw [hz]; exact Nat.mod_lt _ hn
    rw [Array.getElem?_toList, Array.getElem?_toList]
    simp [madeCells, hi, hz, Array.getElem?_eq_getElem hm, getElem!_pos z (i % n) hm]
  · rw [List.getElem?_eq_none (by rw [Array.length_toList, size_madeCells]; omega), List.getElem?_eq_none]
    rw [flatMap_replicateG]
    simp [hz]
    omega
theorem xl_makeG {α : Type} {T : TT} {C : Cx} (hT : TOk C.P T) {all : List Oper} {o : Oper} {r : List Oper} {Q : Post} {kn : Kn} {gk : List (Nat × (Gd × SV))} {ow : Own} {nx : Nat} {u : Im}
    (Y : Lay α) (z : α) (by' m : Nat) {t e d : Nat} {lv cv : Operand} {ti te : TI} {kl kc : IntKind} (ho : o.op = .makeSlice t lv cv) (hgd : o.guard = none) (hd : o.dst = some d)
    (hti : look T t = some ti) (hsh : ti.shp = .slice e) (hte : look T e = some te) (hsz : te.sz = Y.fs.length) (hpos : Nat.blt 0 te.sz = true) (hel : Y.el z = te.zero) (hby : (C.P.info? e).map (fun i => i.bytes) = some by')
    (hl : opd ⟨kn, gk, ow, nx⟩ [] lv = some (.v (.int kl (m : Int)))) (hc : opd ⟨kn, gk, ow, nx⟩ [] cv = some (.v (.int kc (m : Int)))) (hf : fresh C.N ⟨kn, gk, ow, nx⟩ d [] = true)
    (hb : by' * m ≤ 281474976710656) (hm : m ≤ 9223372036854775807)
    (K : XL C all r Q ⟨(d, .r nx) :: kn, gk, (nx, .row e (Y.d (List.replicate m z))) :: ow, nx + 1⟩ u) : XL C all (o :: r) Q ⟨kn, gk, ow, nx⟩ u := by
  unfold XL at K ⊢
  intro E a w hok
  obtain ⟨f, hsat⟩ := hok.sat
  have hgs : gs a.tmps [] := fun x hx => by cases hx
  have htik := hT _ _ hti
  have htek := hT _ _ hte
  obtain ⟨i, i1, i2, i3, i4⟩ := info_bytes htek hby
  obtain ⟨el, _⟩ := opd_sound hok.agr hgs hl
  obtain ⟨ec, _⟩ := opd_sound hok.agr hgs hc
  simp only [SV.den] at el ec
  have hb' : (i.bytes : Int) * (m : Int) ≤ 281474976710656 := by
    rw [i4]
    have h : ((by' * m : Nat) : Int) ≤ 281474976710656 := by omega
    rwa [Int.natCast_mul] at h
  have hr := run_make (P := C.P) w t e i te.zv (htik.isSlice hsh) i1 i3 kl kc (m : Int) (m : Int) (by omega) (Int.le_refl _) hb' (by omega)
  simp only [Int.toNat_natCast] at hr
  have hrun : (execOp a.eval o).run C.P w = .ok (.value (.slice (some ⟨w.heap.size, 0, none⟩) m m)) (w.alloc (.cells (madeCells te.zv.cells (m * i.size)) e)) := by
    simp only [execOp, ho, el, ec, Sem.run_bind, hr, Result.andThen_ok]
    rfl
  refine xl_wp hgd (fun c hc => by rw [ho] at hc; cases hc) hrun ?_
  rw [hd]
  have hgr := World.grownBy_alloc w (.cells (madeCells te.zv.cells (m * i.size)) e) none
  have hbel : Below w.heap.size w (w.alloc (.cells (madeCells te.zv.cells (m * i.size)) e)) := ⟨hgr.os, hgr.tape, hgr.output, hgr.size, fun b hb => hgr.block b hb (by simp)⟩
  have hpos' : 0 < te.sz := blt_lt hpos
  have hzc : te.zv.cells = te.zero.toArray := TI.zv_cells htek
  have hown := World.ownsRow_lit (e := e) (base := 0) (size := te.sz) w (madeCells te.zv.cells (m * i.size)) m (Nat.zero_le _) (by simpa [maxLen] using hm) (by rw [size_madeCells, i2])
  have hown' : (w.alloc (.cells (madeCells te.zv.cells (m * i.size)) e)).ownsRow 0 e (Y.d (List.replicate m z)).cs.length (.slice (some ⟨w.heap.size, 0, none⟩) m m) (Y.d (List.replicate m z)).n (Y.d (List.replicate m z)).flat := by
    have e1 : (Y.d (List.replicate m z)).cs.length = te.sz := by rw [Lay.cs_length, ← hsz]
    have e2 : (Y.d (List.replicate m z)).n = m := by rw [Lay.d_n, List.length_replicate]
    have e3 : (Y.d (List.replicate m z)).flat = (madeCells te.zv.cells (m * i.size)).toList := by
      rw [Lay.flat, hzc, i2, madeCells_rep te.zero.toArray te.sz (by simpa using htek.len) hpos' m, flatMap_replicateG m, hel]
    rw [e1, e2, e3]; exact hown
  have hv := ownAt_of (lo := w.heap.size) hown' (fun b hb => by cases hb; exact Nat.le_refl _)
  have hE : ∀ j, j < nx → upd E nx (.slice (some ⟨w.heap.size, 0, none⟩) m m) j = E j := fun j hj => upd_other _ _ (by omega)
  have hg := hok.agr.grow (E' := upd E nx (.slice (some ⟨w.heap.size, 0, none⟩) m m)) (ow := (nx, .row e (Y.d (List.replicate m z))) :: ow) (nx := nx + 1) hE (Nat.le_succ _)
  have hput := hg.put (g := []) (d := d) (s := .r nx) (x := .slice (some ⟨w.heap.size, 0, none⟩) m m) hf (fun _ => ⟨Nat.lt_succ_self _, _, _, _, upd_same _ _ _⟩) (fun _ => (by simp only [SV.den, upd_same])) (fun hn => absurd (fun x hx => (by cases hx)) hn) (fun _ => (by simp only [SV.den, upd_same]))
  have := K _ (a.put (some d) (.slice (some ⟨w.heap.size, 0, none⟩) m m)) _ ⟨⟨hput.size, hput.kn, hput.gk, hput.klt, hput.glt⟩, _, hsat.take hbel hv⟩
  exact wpListIn_monoQ (fun e a w => SemQ.mono hE (Nat.le_succ _) (Im.le.refl u)) _ _ _ this
def SV.frz (k : Nat) (x : Value) : SV → SV
  | .r j => match Nat.beq j k with
    | true => .v x
    | false => .r j
  | s => s
theorem SV.frz_den {k : Nat} {x : Value} {E : Env} (h : E k = x) (s : SV) : (s.frz k x).den E = s.den E := by
  cases s with
  | r j =>
    cases hj : Nat.beq j k with
    | true =>
      have e : j = k := Nat.eq_of_beq_eq_true hj
      subst e
      simp only [SV.frz, hj]; exact h.symm
    | false => simp only [SV.frz, hj]
  | _ => rfl
theorem SV.frz_lt {k n : Nat} {x : Value} {E : Env} {s : SV} (h : s.lt E n) : (s.frz k x).lt E n := by
  cases s with
  | r j =>
    cases hj : Nat.beq j k with
    | true => simp only [SV.frz, hj]; trivial
    | false => simp only [SV.frz, hj]; exact h
  | _ => exact h
theorem Sat.boxFrz {E : Env} {ow : Own} {nx : Nat} {u : Im} {df : List Deferred} {w : World} {f : Nat → Nat → Prop} (h : Sat E ow nx u df w f) {k kb t : Nat} {x : Value} {cs : List SV} (hx : E k = x) (hb : look ow kb = some (.box t cs)) :
    Sat E ((kb, .box t (cs.map (SV.frz k x))) :: ow) nx u df w f := by
  refine h.regroup (fun j => j = kb) (fun _ _ => rfl) (Nat.le_refl _) (fun j hj => ⟨by rw [look_cons, if_neg (Ne.symm hj)], fun _ => Iff.rfl⟩) ?_ (fun j j' b hj hj' hne => by subst hj hj'; exact absurd rfl hne)
  rintro j rfl
  refine ⟨fun r hr => ?_, fun hr => (by rw [look_cons, if_pos rfl] at hr; cases hr), fun b hb' => ⟨j, rfl, hb'⟩⟩
  rw [look_cons, if_pos rfl] at hr
  cases hr
  obtain ⟨b, h1, h2, h3⟩ := h.holds j _ hb
  obtain ⟨l1, l2⟩ := h.lt j _ hb
  refine ⟨⟨b, h1, h2, ?_⟩, l1, fun s hs => ?_⟩
  · rw [List.map_map, show (SV.den E ∘ SV.frz k x) = SV.den E from funext fun s => SV.frz_den hx s]; exact h3
  · obtain ⟨s0, hs0, rfl⟩ := List.mem_map.1 hs
    exact SV.frz_lt (l2 s0 hs0)
theorem Sat.parkB {E : Env} {ow : Own} {nx : Nat} {u : Im} {df : List Deferred} {w : World} {f : Nat → Nat → Prop} (h : Sat E ow nx u df w f) {k s kb : Nat} {e : TypeId} {D : Data} {sl : List SI} {t : Nat} {cs : List SV} {A : Option Addr} {c : Nat}
    (hk : look ow k = some (.row e D)) (hs : look ow s = some (.gen (starHp sl))) (hb : look ow kb = some (.box t cs)) (hv : E k = .slice A D.n c) :
    Sat E ((k, .emp) :: (s, .gen (starHp (sl ++ [⟨.slice A D.n c, e, D⟩]))) :: (kb, .box t (cs.map (SV.frz k (.slice A D.n c)))) :: ow) nx u df w (upd (upd f s (fun b => f s b ∨ f k b)) k (fun _ => False)) := by
  have n1 : kb ≠ k := fun hh => by rw [hh, hk] at hb; cases hb
  have n2 : kb ≠ s := fun hh => by rw [hh, hs] at hb; cases hb
  have n3 : s ≠ k := fun hh => by rw [← hh, hs] at hk; cases hk
  have h1 := h.boxFrz hv hb
  have h2 := (h1.starMore (s := s) (by rw [look_cons, if_neg n2]; exact hs)).park (k := k) (s := s) (i := sl.length) (q := SI.hole) (e := e) (D := D) (by rw [look_cons, if_neg n3, look_cons, if_neg n1]; exact hk) (by rw [look_cons, if_pos rfl]) (by simp) rfl
  rw [hv, set_at] at h2
  refine h2.regroup (fun _ => False) (fun _ _ => rfl) (Nat.le_refl _) (fun j _ => ⟨?_, fun _ => Iff.rfl⟩) (fun _ hh => hh.elim) (fun _ _ _ hh => hh.elim)
  simp only [look_cons]
  by_cases a1 : k = j
  · rw [if_pos a1, if_pos a1]
  · by_cases a2 : s = j
    · rw [if_neg a1, if_neg a1, if_pos a2, if_pos a2]
    · rw [if_neg a1, if_neg a1, if_neg a2, if_neg a2, if_neg a2]
theorem xl_parkB {C : Cx} {all l : List Oper} {Q : Post} {kn : Kn} {gk : List (Nat × (Gd × SV))} {ow : Own} {nx : Nat} {u : Im} (k s kb : Nat) {e : TypeId} {D : Data} {sl : List SI} {t : Nat} {cs : List SV}
    (hk : look ow k = some (.row e D)) (hs : look ow s = some (.gen (starHp sl))) (hb : look ow kb = some (.box t cs))
    (K : ∀ A c, XL C all l Q ⟨frz k (.slice A D.n c) kn, gk, (k, .emp) :: (s, .gen (starHp (sl ++ [⟨.slice A D.n c, e, D⟩]))) :: (kb, .box t (cs.map (SV.frz k (.slice A D.n c)))) :: ow, nx⟩ u) : XL C all l Q ⟨kn, gk, ow, nx⟩ u := by
  unfold XL at K ⊢
  intro E a w hok
  obtain ⟨f, hsat⟩ := hok.sat
  obtain ⟨A, c, hv⟩ := ownsRow_sl (hsat.holds k _ hk).1
  exact K A c E a w ⟨hok.agr.frz hv, _, hsat.parkB hk hs hb hv⟩
end Go.GV
namespace Go.Proofs.YtnjmkeijjapejaaGreatDoor
open Go.GV Go.RowKit
def Tok.val (t : Tok) : Value := .agg #[.int .i64 t.kind, .string t.text, .int .i64 t.lo, .int .i64 t.hi, .bool t.space]
structure PV where
  kind : Int
  text : ByteArray
  space : Bool
  pa : Option Addr
  pn : Nat
  pc : Nat
def pv0 : PV := ⟨0, ⟨#[]⟩, false, none, 0, 0⟩
def pvY : Lay PV := ⟨[fun t => .int .i64 t.kind, fun t => .string t.text, fun t => .bool t.space, fun t => .slice t.pa t.pn t.pc], pv0⟩
end Go.Proofs.YtnjmkeijjapejaaGreatDoor
namespace Go.Cd
theorem W.clean {n : Int} {l : List Tk} {t : Tr} (h : W n l t) : clean l := by
  have key : ∀ {s : ByteArray}, s ≠ ⟨#[]⟩ → isNum (.op s) = false → opT (.op s) ≠ ⟨#[]⟩ := fun h _ => h
  induction h with
  | num n v u h => intro x hx hn; rw [List.mem_singleton.1 hx] at hn; cases hn
  | par h he ih =>
    intro x hx hn
    rcases List.mem_cons.1 hx with rfl | hx
    · show lp ≠ _; decide
    rcases List.mem_append.1 hx with hx | hx
    · exact ih x hx hn
    · rw [List.mem_singleton.1 hx]; show rp ≠ _; decide
  | @pre n s l e h hs he ih =>
    intro x hx hn
    rcases List.mem_cons.1 hx with rfl | hx
    · exact pre_ne hs pre_empty
    · exact ih x hx hn
  | @bin n s l r a b h hs ha hb i1 i2 =>
    intro x hx hn
    rcases List.mem_append.1 hx with hx | hx
    · exact i1 x hx hn
    rcases List.mem_cons.1 hx with rfl | hx
    · exact lev_ne hs lev_empty
    · exact i2 x hx hn
  | cho h hc ha hb i1 i2 i3 =>
    intro x hx hn
    rcases List.mem_append.1 hx with hx | hx
    · exact i1 x hx hn
    rcases List.mem_cons.1 hx with rfl | hx
    · show qm ≠ _; decide
    rcases List.mem_append.1 hx with hx | hx
    · exact i2 x hx hn
    rcases List.mem_cons.1 hx with rfl | hx
    · show cl ≠ _; decide
    · exact i3 x hx hn
end Go.Cd
namespace Go.Proofs.YtnjmkeijjapejaaGreatDoor
open Go.GV Go.RowKit
def rdT (k : Int) (s : ByteArray) : Cd.Tk :=
  if k = 1 then .num 0 false
  else if clsE k s ≠ 0 then .op ⟨#[]⟩
  else if (clsA k s).1 = 3 then .num (intV s).1 (intV s).2.1
  else if (clsA k s).1 = 5 then .num (Cd.wr (charV s).1) false
  else if (clsA k s).1 = 7 then .op (clsA k s).2
  else .op ⟨#[]⟩
theorem valF_rg {b : Int} (hb : 0 ≤ b) : ∀ (l : List Int) {v x : Int}, Cd.rg v → (∀ c ∈ l, 0 ≤ dg c) → valF b v l = some x → Cd.rg x
  | [], v, x, hv, _, h => by simp only [valF, Option.some.injEq] at h; rw [← h]; exact hv
  | c :: r, v, x, hv, hd, h => by
    simp only [valF] at h
    split at h
    · rename_i hlt
      have := Int.mul_nonneg hv.1 hb
      have := hd c (List.mem_cons_self ..)
      exact valF_rg hb r ⟨by omega, hlt⟩ (fun c hc => hd c (List.mem_cons_of_mem _ hc)) h
    · cases h
def pvA (t : PV) : Value := .agg #[.int .i64 t.kind, .string t.text, .bool t.space, .slice t.pa t.pn t.pc]
set_option maxHeartbeats 2000000 in
set_option maxRecDepth 100000 in
theorem read_any (t : PV) (w : World) (hs : t.text.size ≤ 4294967280) (hg : Glob (im w)) : Calls Tryz.prog 10 #[pvA t] w (PureP w fun v _ => v = ptV (rdT t.kind t.text)) := by
  refine x_fun tt_ok Tryz.func10 rfl rfl [] 0 [.v (pvA t)] rfl rfl rfl rfl (fun b hb => by cases hb) ?_
  unfold rdT
  refine x_seq (x_vc tt_ok ?_)
  refine x_seq (x_seq (x_vc tt_ok ?_))
  refine x_cond rfl (fun h1 => ?_) (fun h1 => ?_)
  · rw [if_pos (of_decide_eq_true h1)]
    refine x_vc tt_ok ?_
    exact fin1 (fun _ _ => rfl)
  rw [if_neg (of_decide_eq_false h1)]
  refine x_vc tt_ok ?_
  refine x_seq (x_vc tt_ok ?_)
  refine xl_call0 (.tuple #[.agg #[.int .i64 (clsA t.kind t.text).1, .string (clsA t.kind t.text).2], .int .i64 (clsE t.kind t.text)]) rfl rfl rfl rfl fn16 rfl rfl (fun E w' F hs' => class_any _ _ w' hs (hg.imm hs'.imm)) ?_
  refine xl_go tt_ok ?_
  refine x_seq (x_seq (x_vc tt_ok ?_))
  refine x_cond rfl (fun h2 => ?_) (fun h2 => ?_)
  · rw [if_pos (show clsE t.kind t.text ≠ 0 from of_decide_eq_true h2)]
    refine x_vc tt_ok ?_
    exact fin1 (fun _ _ => rfl)
  rw [if_neg (show ¬ clsE t.kind t.text ≠ 0 from of_decide_eq_false h2)]
  refine x_vc tt_ok ?_
  refine x_seq (x_seq (x_vc tt_ok ?_))
  refine x_block ?_
  refine x_seq (x_vc tt_ok ?_)
  refine x_cond rfl (fun h3 => ?_) (fun h3 => ?_)
  · rw [if_pos (show (clsA t.kind t.text).1 = 3 from of_decide_eq_true h3)]
    refine x_vc tt_ok ?_
    refine xl_call0 (.tuple #[.int .u64 (intV t.text).1, .bool (intV t.text).2.1, .int .i64 (intV t.text).2.2]) rfl rfl rfl rfl fn17 rfl rfl (fun E w' F _ => int_any _ w' (by omega)) ?_
    refine xl_go tt_ok ?_
    exact fin1 (fun _ _ => rfl)
  rw [if_neg (show ¬ (clsA t.kind t.text).1 = 3 from of_decide_eq_false h3)]
  refine x_seq (x_vc tt_ok ?_)
  refine x_cond rfl (fun h4 => ?_) (fun h4 => ?_)
  · rw [if_pos (show (clsA t.kind t.text).1 = 5 from of_decide_eq_true h4)]
    refine x_seq (x_vc tt_ok ?_)
    refine xl_call0 (.tuple #[.int .i64 (charV t.text).1, .int .i64 (charV t.text).2]) rfl rfl rfl rfl fn18 rfl rfl (fun E w' F hs' => char_any _ w' hs (hg.imm hs'.imm)) ?_
    refine xl_go tt_ok ?_
    refine x_seq (x_region ?_)
    refine xl_eff tt_ok rfl rfl rfl rfl (by trivial) ?_
    refine xl_convI tt_ok (.int .u64 (Cd.wr (charV t.text).1)) rfl rfl rfl rfl rfl rfl rfl rfl rfl (by rw [wrap_wr]) ?_
    refine xl_go tt_ok ?_
    refine x_vc tt_ok ?_
    exact fin1 (fun _ _ => rfl)
  rw [if_neg (show ¬ (clsA t.kind t.text).1 = 5 from of_decide_eq_false h4)]
  refine x_seq (x_vc tt_ok ?_)
  refine x_cond rfl (fun h5 => ?_) (fun h5 => ?_)
  · rw [if_pos (show (clsA t.kind t.text).1 = 7 from of_decide_eq_true h5)]
    refine x_vc tt_ok ?_
    exact fin1 (fun _ _ => rfl)
  rw [if_neg (show ¬ (clsA t.kind t.text).1 = 7 from of_decide_eq_false h5)]
  refine x_vc tt_ok ?_
  refine x_vc tt_ok ?_
  exact fin1 (fun _ _ => rfl)
end Go.Proofs.YtnjmkeijjapejaaGreatDoor
namespace Go.GV
open Go.RowKit
theorem xl_pack {T : TT} {C : Cx} (hT : TOk C.P T) {all : List Oper} {o1 o2 o3 : Oper} {r : List Oper} {Q : Post} {kn : Kn} {gk : List (Nat × (Gd × SV))} {ow : Own} {nx : Nat} {u : Im} (k : Nat) {e : TypeId} {D : Data} (zs : List Value) {d1 d2 t : Nat} {ti : TI}
    (hk : look ow k = some (.row e D)) (g1 : o1.guard = none) (hd1 : o1.dst = some d1) (he : ∀ A c, eff T ⟨frz k (.slice A D.n c) kn, gk, ow, nx⟩ [] o1.op = .val (.v (.agg (.slice A D.n c :: zs).toArray)) [])
    (h2 : o2.op = .alloc t) (g2 : o2.guard = none) (hd2 : o2.dst = some d2) (h3 : o3.op = .store t (.tmp d2) (.tmp d1)) (g3 : o3.guard = none) (hd3 : o3.dst = none)
    (hti : look T t = some ti) (hzl : ti.zero.length = zs.length + 1) (hone : ∀ y ∈ zs, oneB y = true)
    (hf1 : fresh C.N ⟨kn, gk, ow, nx⟩ d1 [] = true) (hf2 : fresh C.N ⟨kn, gk, ow, nx⟩ d2 [] = true) (hne : d1 ≠ d2) (hkn : look kn d1 = none)
    (K : XL C all r Q ⟨(d2, .p nx 0) :: kn, gk, (nx, .box t (.r k :: zs.map .v)) :: (nx, .box t (ti.zero.map .v)) :: ow, nx + 1⟩ u) : XL C all (o1 :: o2 :: o3 :: r) Q ⟨kn, gk, ow, nx⟩ u := by
  unfold XL at K ⊢
  intro E a w hok
  obtain ⟨f, hsat⟩ := hok.sat
  obtain ⟨A, c, hv⟩ := ownsRow_sl (hsat.holds k _ hk).1
  have hkl := (hsat.lt k _ hk).1
  have hti' := hT _ _ hti
  have hok1 : Ok C E ⟨frz k (.slice A D.n c) kn, gk, ow, nx⟩ u a w := ⟨hok.agr.frz hv, f, hsat⟩
  have hrun1 := (eff_sound hT hok1 (fun x hx => by cases hx) (he A c) trivial).1
  simp only [SV.den] at hrun1
  refine xl_wp g1 (fun c' hc => by have := he A c; rw [hc] at this; cases this) hrun1 ?_
  rw [hd1]
  generalize hV : Value.agg (Value.slice A D.n c :: zs).toArray = V at *
  have hput1 : Agr C.N E ⟨kn, gk, ow, nx⟩ (a.tmps.setIfInBounds d1 V) := by
    have : Agr C.N E (St.put ⟨kn, gk, ow, nx⟩ d1 [] (.v V)) (a.tmps.setIfInBounds d1 V) :=
      hok.agr.put (g := []) hf1 (fun _ => trivial) (fun _ => rfl) (fun hn => absurd (fun x hx => (by cases hx)) hn) (fun _ => rfl)
    exact Agr.drop this hkn
  have hsz1 : d1 < a.tmps.size := by
    rw [hok.agr.size]
    unfold fresh at hf1
    split at hf1
    · rename_i hh; exact blt_lt hh
    · cases hf1
  have hsz2 : d2 < a.tmps.size := by
    rw [hok.agr.size]
    unfold fresh at hf2
    split at hf2
    · rename_i hh; exact blt_lt hh
    · cases hf2
  have hrun2 : (execOp (a.put (some d1) V).eval o2).run C.P w = .ok (.value (.pointer (some ⟨w.heap.size, 0, none⟩))) (w.alloc (.cells ti.zv.cells t)) := by
    simp [execOp, h2, Instr.alloc, run_zeroValue w hti', run_newVar]
  refine xl_wp g2 (fun c' hc => by rw [h2] at hc; cases hc) hrun2 ?_
  rw [hd2]
  have hE : ∀ j, j < nx → upd E nx (.pointer (some ⟨w.heap.size, 0, none⟩)) j = E j := fun j hj => upd_other _ _ (by omega)
  have hzc : ti.zv.cells = ((ti.zero.map SV.v).map (SV.den E)).toArray := by
    rw [TI.zv_cells hti']; simp [Function.comp_def, SV.den]
  have hsat1 := hsat.newBox t (cs := ti.zero.map .v) (fun x hx => by simp only [List.mem_map] at hx; obtain ⟨y, _, rfl⟩ := hx; trivial)
  rw [← hzc] at hsat1
  have hb := heap_alloc_new w (.cells ti.zv.cells t)
  have hone' : ∀ y ∈ Value.slice A D.n c :: zs, oneB y = true := fun y hy => by
    rcases List.mem_cons.1 hy with rfl | hy
    · rfl
    · exact hone y hy
  have hzs : ti.zv.cells.size = zs.length + 1 := by rw [TI.zv_cells hti']; simpa using hzl
  obtain ⟨w', q1, q2, q3, q4, q5, q6, q7⟩ := run_storeCells (P := C.P) (Value.slice A D.n c :: zs) 0 0 (w.alloc (.cells ti.zv.cells t)) _ hb hone' (by rw [hzs]; simp)
  have ev1 : ((a.put (some d1) V).put (some d2) (.pointer (some ⟨w.heap.size, 0, none⟩))).eval (.tmp d1) = V := by
    have : (a.put (some d1) V).eval (.tmp d1) = V := eval_put_eq hsz1
    rw [eval_put_ne (fun n hn => by cases hn; exact hne)]
    exact this
  have ev2 : ((a.put (some d1) V).put (some d2) (.pointer (some ⟨w.heap.size, 0, none⟩))).eval (.tmp d2) = .pointer (some ⟨w.heap.size, 0, none⟩) := eval_put_eq (by show d2 < (a.tmps.setIfInBounds d1 V).size; simpa using hsz2)
  have hrun3 : (execOp ((a.put (some d1) V).put (some d2) (.pointer (some ⟨w.heap.size, 0, none⟩))).eval o3).run C.P (w.alloc (.cells ti.zv.cells t)) = .ok .skip w' := by
    have hVc : V.cells = (Value.slice A D.n c :: zs).toArray := by rw [← hV]; rfl
    have hVs : V.cells.size = ti.sz := by rw [hVc]; have := hti'.len; simp; omega
    simp only [execOp, h3, Instr.storeAt, ev2, Instr.sureAddr, Sem.run_bind, Sem.run_pure, Result.andThen_ok, storeVar, run_sizeOf _ hti', ev1]
    rw [if_neg (by rw [hVs]; simp)]
    simp only [hVc, q1, Result.andThen_ok]
  have hcsl : ∀ x ∈ (SV.r k :: zs.map SV.v), x.lt (upd E nx (.pointer (some ⟨w.heap.size, 0, none⟩))) (nx + 1) := fun x hx => by
    rcases List.mem_cons.1 hx with rfl | hx
    · exact ⟨Nat.lt_succ_of_lt hkl, A, D.n, c, by rw [hE k hkl]; exact hv⟩
    · simp only [List.mem_map] at hx; obtain ⟨y, _, rfl⟩ := hx; trivial
  have hsat2 := hsat1.setBox (cs' := .r k :: zs.map .v) (by rw [look_cons, if_pos rfl]) (upd_same _ _ _) hcsl q2 q3 q4 q5 q6 (by
    rw [q7]
    congr 2
    have hz0 : ti.zv.cells.toList.drop (0 + 0 + (Value.slice A D.n c :: zs).length) = [] := List.drop_eq_nil_of_le (by rw [Array.length_toList, hzs]; simp)
    rw [hz0]
    simp only [List.append_nil, Nat.add_zero, List.take_zero, List.nil_append, List.map_cons, List.map_map, SV.den, hE k hkl, hv]
    simp [Function.comp_def, SV.den])
  unfold wpListIn
  rw [if_pos (by simp [Region.wanted, g3])]
  refine ⟨fun _ _ => trivial, ?_⟩
  rw [semAt_eq _ _ _ (fun c hc => by rw [h3] at hc; cases hc), hrun3, Oper.uponIn_skip, hd3]
  have hg := hput1.grow (E' := upd E nx (.pointer (some ⟨w.heap.size, 0, none⟩))) (ow := (nx, .box t (.r k :: zs.map .v)) :: (nx, .box t (ti.zero.map .v)) :: ow) (nx := nx + 1) hE (Nat.le_succ _)
  have hput2 := hg.put (g := []) (d := d2) (s := .p nx 0) (x := .pointer (some ⟨w.heap.size, 0, none⟩)) hf2 (fun _ => ⟨Nat.lt_succ_self _, _, upd_same _ _ _⟩) (fun _ => (by simp [SV.den, ptrOf, upd_same])) (fun hn => absurd (fun x hx => (by cases hx)) hn) (fun _ => (by simp [SV.den, ptrOf, upd_same]))
  have := K (upd E nx (.pointer (some ⟨w.heap.size, 0, none⟩))) ((a.put (some d1) V).put (some d2) (.pointer (some ⟨w.heap.size, 0, none⟩))) w' ⟨⟨hput2.size, hput2.kn, hput2.gk, hput2.klt, hput2.glt⟩, _, hsat2⟩
  exact wpListIn_monoQ (fun e a w => SemQ.mono hE (Nat.le_succ _) (Im.le.refl u)) _ _ _ this
end Go.GV
namespace Go.Proofs.YtnjmkeijjapejaaGreatDoor
open Go.GV Go.RowKit
theorem intV_rg (s : ByteArray) : Cd.rg (intV s).1 := by
  unfold intV
  split
  · exact Cd.rg0
  · rename_i v u h
    unfold intC at h
    split at h
    · cases h
    · split at h
      · cases h
      · rename_i x hx
        have hb := (baseT_range s).1
        have := valF_rg (by omega) _ Cd.rg0 (fun c _ => (dg_range c).1) hx
        split at h
        · cases h
        · cases h; exact this
theorem rdT_rg (k : Int) (s : ByteArray) : Cd.rg (Cd.vT (rdT k s)) := by
  unfold rdT
  split
  · exact Cd.rg0
  split
  · exact Cd.rg0
  split
  · exact intV_rg s
  split
  · exact Cd.rg_wr _
  split
  · exact Cd.rg0
  · exact Cd.rg0
def toksV (L : List PV) : List Cd.Tk := L.map fun t => rdT t.kind t.text
theorem toksV_nums (L : List PV) : Cd.nums (toksV L) := by
  intro t ht
  obtain ⟨x, _, rfl⟩ := List.mem_map.1 ht
  exact rdT_rg _ _
def layT : List PV → Bool
  | [] => false
  | t :: r => (decide (t.kind = 10) || decide (t.kind = 11)) || layT r
def valV (L : List PV) : Int × Bool × Int :=
  if layT L = true then (0, false, 62)
  else match Cd.measure (toksV L) with
    | none => (0, false, 70)
    | some d => if 256 < d then (0, false, 111)
      else if (Cd.ofF (3 * L.length + 3) (toksV L)).E ≠ 0 then (0, false, (Cd.ofF (3 * L.length + 3) (toksV L)).E)
      else ((Cd.ofF (3 * L.length + 3) (toksV L)).V, (Cd.ofF (3 * L.length + 3) (toksV L)).U, 0)
def holV (L : List PV) : Bool × Int := (decide ((valV L).2.2 = 0) && decide ((valV L).1 ≠ 0), (valV L).2.2)
set_option maxHeartbeats 4000000 in
set_option maxRecDepth 100000 in
theorem value_any (L : List PV) (x : Value) (w : World) (hx : SlAt (im w) x (pvY.d L)) (hL : L.length ≤ 1000000) (hT : ∀ t ∈ L, t.text.size ≤ 4294967280) (hg : Glob (im w)) (hO : OpG (im w)) :
    Calls Tryz.prog 6 #[x] w (PureP w fun v _ => v = .tuple #[.int .u64 (valV L).1, .bool (valV L).2.1, .int .i64 (valV L).2.2]) := by
  obtain ⟨V, hV⟩ : ∃ V, V = valV L := ⟨_, rfl⟩
  rw [← hV]
  have v1 : layT L = true → V = (0, false, 62) := fun h => by rw [hV, valV, if_pos h]
  have v2 : layT L = false → Cd.measure (toksV L) = none → V = (0, false, 70) := fun h h2 => by rw [hV, valV, if_neg (by rw [h]; simp), h2]
  have v3 : ∀ d, layT L = false → Cd.measure (toksV L) = some d → 256 < d → V = (0, false, 111) := fun d h h2 h3 => by rw [hV, valV, if_neg (by rw [h]; simp), h2]; simp only [if_pos h3]
  have v4 : ∀ d, layT L = false → Cd.measure (toksV L) = some d → ¬ 256 < d → (Cd.ofF (3 * L.length + 3) (toksV L)).E ≠ 0 → V = (0, false, (Cd.ofF (3 * L.length + 3) (toksV L)).E) := fun d h h2 h3 h4 => by
    rw [hV, valV, if_neg (by rw [h]; simp), h2]; simp only [if_neg h3, if_pos h4]
  have v5 : ∀ d, layT L = false → Cd.measure (toksV L) = some d → ¬ 256 < d → (Cd.ofF (3 * L.length + 3) (toksV L)).E = 0 → V = ((Cd.ofF (3 * L.length + 3) (toksV L)).V, (Cd.ofF (3 * L.length + 3) (toksV L)).U, 0) := fun d h h2 h3 h4 => by
    rw [hV, valV, if_neg (by rw [h]; simp), h2]; simp only [if_neg h3, h4, ne_eq, not_true_eq_false, if_false]
  clear hV
  have hget : ∀ i : Int, 0 ≤ i → i < L.length → (L.getD i.toNat pv0) ∈ L := fun i h0 h1 => by
    rw [List.getD_eq_getElem?_getD, List.getElem?_eq_getElem (by omega : i.toNat < L.length)]; exact List.getElem_mem _
  refine x_fun tt_ok Tryz.func6 rfl rfl [(x, pvY.d L)] 1 [.r 0] rfl rfl rfl rfl (fun b hb => by simp at hb; subst hb; exact hx) ?_
  refine x_vc tt_ok ?_
  refine x_loop (σ := Int) (fun i => ⟨[(16, .v (.int .i64 i)), (15, .v (.int .i64 L.length)), (14, .r 0), (0, .r 0)], [], [(0, .sl (pvY.d L))], 1⟩)
    (fun i _ => 0 ≤ i ∧ i ≤ L.length ∧ layT (L.drop i.toNat) = layT L) (fun i => (L.length - i).toNat) (fun _ => Nat.le_refl _) 0 [] (.of rfl rfl rfl rfl rfl rfl) ⟨by omega, by omega, rfl⟩ ?_
  rintro i u1 hu1 ⟨g1, g2, g3⟩
  refine x_vc tt_ok ?_
  refine x_if (fun h1 => ?_) (fun h1 => ?_)
  · have h1 : i < L.length := of_decide_eq_true h1
    have hd : L.drop i.toNat = L.getD i.toNat pv0 :: L.drop (i + 1).toNat := by
      rw [List.drop_eq_getElem_cons (by omega : i.toNat < L.length), List.getD_eq_getElem?_getD, List.getElem?_eq_getElem (by omega : i.toNat < L.length), show (i + 1).toNat = i.toNat + 1 by omega]
      rfl
    rw [hd, layT] at g3
    repeat (refine And.intro ?_ ?_; first | omega | (simp only [Lay.d_n]; omega))
    refine x_if (fun h2 => ?_) (fun h2 => ?_)
    · have h2 : (decide ((L.getD i.toNat pv0).kind = 10) || decide ((L.getD i.toNat pv0).kind = 11)) = true := h2
      rw [h2] at g3
      rw [v1 g3.symm]
      exact fin1 (fun _ _ => rfl)
    · have h2 : (decide ((L.getD i.toNat pv0).kind = 10) || decide ((L.getD i.toNat pv0).kind = 11)) = false := h2
      rw [h2, Bool.false_or] at g3
      repeat (refine And.intro ?_ ?_; first | omega | (simp only [Lay.d_n]; omega))
      exact again (i + 1) [] (.of rfl rfl rfl rfl rfl rfl) ⟨by omega, by omega, g3⟩ (by omega)
  have h1 : ¬ i < L.length := of_decide_eq_false h1
  rw [List.drop_eq_nil_of_le (by omega), layT] at g3
  have hlay := g3.symm
  refine xl_makeG tt_ok ptY (.op ⟨#[]⟩) 40 L.length rfl rfl rfl rfl rfl rfl rfl rfl rfl (by kernel_rfl) rfl rfl rfl (by omega) (by omega) ?_
  refine xl_go tt_ok ?_
  refine x_loop (σ := Int × List Cd.Tk) (fun (i, M) => ⟨[(34, .v (.int .i64 i)), (33, .v (.int .i64 L.length)), (32, .r 0), (7, .r 1)], [], [(0, .sl (pvY.d L)), (1, .row 41 (ptY.d M))], 2⟩)
    (fun (i, M) _ => 0 ≤ i ∧ i ≤ L.length ∧ M.length = L.length ∧ M.take i.toNat = toksV (L.take i.toNat)) (fun (i, _) => (L.length - i).toNat) (fun (_, _) => Nat.le_refl _) (0, List.replicate L.length (.op ⟨#[]⟩)) [] (.of rfl rfl rfl rfl rfl rfl)
    ⟨by omega, by omega, by simp, by simp [toksV]⟩ ?_
  rintro ⟨j, M⟩ u2 hu2 ⟨k1, k2, k3, k4⟩
  have hle := hu1.trans hu2
  refine x_vc tt_ok ?_
  refine x_if (fun h2 => ?_) (fun h2 => ?_)
  · have h2 : j < L.length := of_decide_eq_true h2
    repeat (refine And.intro ?_ ?_; first | omega | (simp only [Lay.d_n]; omega))
    refine xl_call0 (ptV (rdT (L.getD j.toNat pv0).kind (L.getD j.toNat pv0).text)) rfl rfl rfl rfl fn10 rfl rfl (fun E w' F hs' => read_any (L.getD j.toNat pv0) w' (hT _ (hget j k1 h2)) ((hg.sub hle.sub).imm hs'.imm)) ?_
    refine xl_go tt_ok ?_
    repeat (refine And.intro ?_ ?_; first | omega | (simp only [Lay.d_n]; omega))
    refine xl_set tt_ok ptY M (rdT (L.getD j.toNat pv0).kind (L.getD j.toNat pv0).text) (cs := [.bool (Cd.isNum (rdT (L.getD j.toNat pv0).kind (L.getD j.toNat pv0).text)), .int .u64 (Cd.vT (rdT (L.getD j.toNat pv0).kind (L.getD j.toNat pv0).text)), .bool (Cd.uT (rdT (L.getD j.toNat pv0).kind (L.getD j.toNat pv0).text)), .string (Cd.opT (rdT (L.getD j.toNat pv0).kind (L.getD j.toNat pv0).text))])
      rfl rfl rfl rfl rfl rfl rfl (by omega) (by omega) rfl rfl (Nat.le_refl 4) rfl ?_
    refine xl_go tt_ok ?_
    repeat (refine And.intro ?_ ?_; first | omega | (simp only [Lay.d_n]; omega))
    refine again (j + 1, M.set j.toNat (rdT (L.getD j.toNat pv0).kind (L.getD j.toNat pv0).text)) [] (.of rfl rfl rfl rfl rfl rfl) ⟨by omega, by omega, by rw [List.length_set]; exact k3, ?_⟩ (by simp only; omega)
    rw [show (j + 1).toNat = j.toNat + 1 by omega, take_get (x := rdT (L.getD j.toNat pv0).kind (L.getD j.toNat pv0).text) (List.getElem?_set_self (by omega)), List.take_set_of_le (Nat.le_refl _), k4,
      take_get (List.getElem?_eq_getElem (by omega : j.toNat < L.length)), toksV, toksV, List.map_append, List.getD_eq_getElem?_getD, List.getElem?_eq_getElem (by omega : j.toNat < L.length)]
    rfl
  have h2 : ¬ j < L.length := of_decide_eq_false h2
  have eM : M = toksV L := by
    rw [List.take_of_length_le (by omega), List.take_of_length_le (by omega)] at k4
    exact k4
  obtain ⟨T, hTT⟩ : ∃ T, T = toksV L := ⟨_, rfl⟩
  rw [← hTT] at eM v2 v3 v4 v5
  subst eM
  have hnum : Cd.nums M := by rw [hTT]; exact toksV_nums L
  have hmm := Cd.mea_measure M
  refine xl_call0 (.tuple #[.int .i64 (Cd.meaV M).1, .bool (Cd.meaV M).2]) rfl rfl rfl rfl fn11 rfl rfl (fun E w' F hs' => measure_any M (E 1) w' (hs'.rowAt (k := 1) rfl) ((hO.sub hle.sub).imm hs'.imm) (by omega)) ?_
  refine xl_go tt_ok ?_
  refine x_if (fun h3 => ?_) (fun h3 => ?_)
  · have h3 : (!(Cd.meaV M).2) = true := h3
    rw [if_neg (by rw [Bool.not_eq_true'] at h3; rw [h3]; simp)] at hmm
    rw [v2 hlay hmm]
    exact fin1 (fun _ _ => rfl)
  have h3 : (!(Cd.meaV M).2) = false := h3
  rw [if_pos (by simpa using h3)] at hmm
  refine x_if (fun h4 => ?_) (fun h4 => ?_)
  · have h4 : (Cd.meaV M).1 > 256 := of_decide_eq_true h4
    rw [v3 _ hlay hmm h4]
    exact fin1 (fun _ _ => rfl)
  have h4 : ¬ (Cd.meaV M).1 > 256 := of_decide_eq_false h4
  have v4 := v4 _ hlay hmm h4
  have v5 := v5 _ hlay hmm h4
  obtain ⟨tr, htr, _⟩ := Cd.measure_some hmm
  obtain ⟨_, _, y, fu, hrel, hfu⟩ := (Cd.cond_law htr.clean hnum (f := 3 * L.length + 3) (by omega)).2 _ hmm
  generalize Cd.ofF (3 * L.length + 3) M = W at v4 v5 hrel hfu
  have hcho := (read_all fu fu (Nat.le_refl _)).1 M 0 0 true y [] W.E hnum (by omega) (by omega) (by omega) (hfu fu (Nat.le_refl _))
  obtain ⟨y, yu⟩ := y
  refine xl_pack tt_ok 1 [.int .i64 0, .int .i64 0] rfl rfl rfl (fun A c => rfl) rfl rfl rfl rfl rfl rfl rfl rfl (by decide) rfl rfl (by decide) rfl ?_
  refine xl_go tt_ok ?_
  refine xl_callSC hcho opMono (hO.sub hle.sub) [2, 1] rfl rfl rfl rfl fn12 rfl rfl rfl rfl rfl rfl rfl (fun _ => rfl) (fun _ u3 hu3 _ => ?_)
  refine xl_go tt_ok ?_
  refine x_if (fun h5 => ?_) (fun h5 => ?_)
  · have h5 : W.E ≠ 0 := of_decide_eq_true h5
    rw [v4 h5]
    refine x_draw mix (by kernel_rfl) (xd_go tt_ok ?_)
    exact fin1 (fun _ _ => rfl)
  · have h5 : W.E = 0 := Classical.not_not.1 (of_decide_eq_false h5)
    rw [v5 h5]
    obtain ⟨r1, r2⟩ := hrel
    rw [← r1, ← r2 h5]
    refine x_draw mix (by kernel_rfl) (xd_go tt_ok ?_)
    exact fin1 (fun _ _ => rfl)
set_option maxRecDepth 100000 in
theorem holds_any (L : List PV) (x : Value) (w : World) (hx : SlAt (im w) x (pvY.d L)) (hL : L.length ≤ 1000000) (hT : ∀ t ∈ L, t.text.size ≤ 4294967280) (hg : Glob (im w)) (hO : OpG (im w)) :
    Calls Tryz.prog 8 #[x] w (PureP w fun v _ => v = .tuple #[.bool (holV L).1, .int .i64 (holV L).2]) := by
  unfold holV
  refine x_fun tt_ok Tryz.func8 rfl rfl [(x, pvY.d L)] 1 [.r 0] rfl rfl rfl rfl (fun b hb => by simp at hb; subst hb; exact hx) ?_
  refine x_vc tt_ok ?_
  refine xl_call0 (.tuple #[.int .u64 (valV L).1, .bool (valV L).2.1, .int .i64 (valV L).2.2]) rfl rfl rfl rfl fn6 rfl rfl (fun E w' F hs' => value_any L (E 0) w' (hs'.slAt (k := 0) rfl) hL hT (hg.imm hs'.imm) (hO.imm hs'.imm)) ?_
  refine xl_go tt_ok ?_
  exact fin1 (fun _ _ => rfl)
end Go.Proofs.YtnjmkeijjapejaaGreatDoor
namespace Go.Cd
def okW (w : Wo) (f : Nat) : Prop := rg w.V ∧ 0 ≤ w.D ∧ w.D ≤ f ∧ (w.E = 0 ∨ w.E = 70 ∨ w.E = 71)
theorem nums.take' {l : List Tk} (h : nums l) (n : Nat) : nums (l.take n) := fun t ht => h t (List.mem_of_mem_take ht)
theorem nums.drop' {l : List Tk} (h : nums l) (n : Nat) : nums (l.drop n) := fun t ht => h t (List.mem_of_mem_drop ht)
theorem okW.up {w : Wo} {f : Nat} (h : okW w f) : okW w (f + 1) := ⟨h.1, h.2.1, by have := h.2.2.1; omega, h.2.2.2⟩
theorem okW_bad (f : Nat) : okW badW f := ⟨rg0, Int.le_refl _, by show (0 : Int) ≤ f; omega, .inl rfl⟩
theorem rec_E (op : ByteArray) (a b : Int) (au bu : Bool) : (reckon op a au b bu).2 = 0 ∨ (reckon op a au b bu).2 = 70 ∨ (reckon op a au b bu).2 = 71 := by
  have key : ∀ (c : Prop) [Decidable c] (x y : Int × Int), (x.2 = 0 ∨ x.2 = 70 ∨ x.2 = 71) → (y.2 = 0 ∨ y.2 = 70 ∨ y.2 = 71) → (ite c x y).2 = 0 ∨ (ite c x y).2 = 70 ∨ (ite c x y).2 = 71 := fun c _ x y h1 h2 => by
    by_cases h : c
    · rw [if_pos h]; exact h1
    · rw [if_neg h]; exact h2
  unfold reckon
  iterate 12 refine key _ _ _ (.inl rfl) ?_
  refine key _ _ _ ?_ (key _ _ _ (.inr (.inr rfl)) (key _ _ _ (.inl rfl) (key _ _ _ (.inl rfl) (key _ _ _ (.inl rfl) (.inl rfl)))))
  unfold shifted
  exact key _ _ _ (.inr (.inl rfl)) (key _ _ _ (.inl rfl) (.inl rfl))
theorem okW_two {s : ByteArray} {a b : Wo} {f : Nat} (ha : okW a f) (hb : okW b f) : okW (twoW s a b) f := by
  obtain ⟨a1, a2, a3, a4⟩ := ha
  obtain ⟨b1, b2, b3, b4⟩ := hb
  refine ⟨?_, by rw [twoW_D]; omega, by rw [twoW_D]; omega, ?_⟩
  · unfold twoW
    simp only
    split
    · exact rg0
    split
    · exact rg_truth _
    split
    · exact rg0
    split
    · exact rg_truth _
    · exact rg_reckon a1 b1
  · unfold twoW
    simp only
    split
    · exact a4
    split
    · exact .inl rfl
    split
    · exact b4
    split
    · exact .inl rfl
    · exact rec_E _ _ _ _ _
theorem okW_cho {c a b : Wo} {f : Nat} (hc : okW c f) (ha : okW a f) (hb : okW b f) : okW (choW c a b) (f + 1) := by
  obtain ⟨c1, c2, c3, c4⟩ := hc
  obtain ⟨a1, a2, a3, a4⟩ := ha
  obtain ⟨b1, b2, b3, b4⟩ := hb
  refine ⟨?_, ?_, ?_, ?_⟩
  · unfold choW
    simp only
    split
    · exact rg0
    split
    · exact a1
    · exact b1
  · show 0 ≤ 1 + max (max c.D a.D) b.D; omega
  · show 1 + max (max c.D a.D) b.D ≤ ((f + 1 : Nat) : Int); omega
  · unfold choW
    simp only
    split
    · exact c4
    split
    · exact a4
    · exact b4
theorem okW_pre {s : ByteArray} {w : Wo} {f : Nat} (h : okW w f) : okW (preW s w) (f + 1) := by
  obtain ⟨a1, a2, a3, a4⟩ := h
  refine ⟨?_, by rw [preW_D]; omega, by rw [preW_D]; omega, ?_⟩
  · unfold preW
    split
    · exact a1
    split
    · exact rg_wr _
    split
    · have := a1.1; have := a1.2; exact ⟨by show 0 ≤ 18446744073709551615 - w.V; omega, by show 18446744073709551615 - w.V < _; omega⟩
    split
    · exact rg_truth _
    · exact a1
  · have : (preW s w).E = w.E := preW_E s w
    rw [this]; exact a4
theorem of_ok : ∀ (f : Nat) (l : List Tk), nums l → okW (ofF f l) f ∧ okW (sidF f l) f ∧ okW (oneF f l) f
  | 0, l, _ => ⟨okW_bad 0, okW_bad 0, okW_bad 0⟩
  | f + 1, l, h => by
    have hg : ∀ i, rg (vT (l.getD i (.num 0 false))) := fun i => by
      rcases Nat.lt_or_ge i l.length with hi | hi
      · rw [List.getD_eq_getElem?_getD, List.getElem?_eq_getElem hi]; exact h _ (List.getElem_mem _)
      · rw [List.getD_eq_getElem?_getD, List.getElem?_eq_none hi]; exact rg0
    refine ⟨?_, ?_, ?_⟩
    · unfold ofF
      split
      · exact okW_bad _
      split
      · split
        · exact okW_bad _
        · exact okW_cho (of_ok f _ (h.take' _)).2.1 (of_ok f _ ((h.take' _).drop' _)).1 (of_ok f _ (h.drop' _)).1
      · exact (of_ok f l h).2.1.up
    · unfold sidF
      split
      · exact (okW_two (of_ok f _ (h.take' _)).2.1 (of_ok f _ (h.drop' _)).2.1).up
      · exact (of_ok f l h).2.2.up
    · unfold oneF
      split
      · exact okW_bad _
      split
      · exact ⟨hg 0, by show (0 : Int) ≤ 1; omega, by show (1 : Int) ≤ ((f + 1 : Nat) : Int); omega, .inl rfl⟩
      split
      · have k := (of_ok f _ ((h.take' (l.length - 1)).drop' 1)).1
        exact ⟨k.1, by have := k.2.1; show 0 ≤ (ofF f ((l.take (l.length - 1)).drop 1)).D + 1; omega, by have := k.2.2.1; show (ofF f ((l.take (l.length - 1)).drop 1)).D + 1 ≤ ((f + 1 : Nat) : Int); omega, k.2.2.2⟩
      · split
        · exact okW_pre (of_ok f _ (h.drop' 1)).2.2
        · exact okW_pre (okW_bad f)
def isBad (t : Tk) : Bool := !isNum t && decide (opT t = ⟨#[]⟩)
theorem clean_any {l : List Tk} (h : l.any isBad = false) : clean l := by
  intro t ht hn e
  rw [List.any_eq_false] at h
  have := h t ht
  simp [isBad, hn, e] at this
end Go.Cd
namespace Go.Proofs.YtnjmkeijjapejaaGreatDoor
open Go.GV Go.RowKit
def docV (L : List PV) : Int × Bool × Int :=
  if layT L = true then (0, false, 62)
  else if (toksV L).any Cd.isBad = true then (0, false, 70)
  else if (Cd.ofF (3 * L.length + 3) (toksV L)).bad = true then (0, false, 70)
  else if 256 < (Cd.ofF (3 * L.length + 3) (toksV L)).D then (0, false, 111)
  else if (Cd.ofF (3 * L.length + 3) (toksV L)).E ≠ 0 then (0, false, (Cd.ofF (3 * L.length + 3) (toksV L)).E)
  else ((Cd.ofF (3 * L.length + 3) (toksV L)).V, (Cd.ofF (3 * L.length + 3) (toksV L)).U, 0)
theorem docV_eq (L : List PV) : docV L = valV L := by
  unfold docV valV
  by_cases hl : layT L = true
  · rw [if_pos hl, if_pos hl]
  rw [if_neg hl, if_neg hl]
  cases hb : (toksV L).any Cd.isBad with
  | true =>
    rw [if_pos rfl]
    cases hm : Cd.measure (toksV L) with
    | none => rfl
    | some d =>
      obtain ⟨t, ht, _⟩ := Cd.measure_some hm
      have hc := ht.clean
      rw [List.any_eq_true] at hb
      obtain ⟨x, hx, hb⟩ := hb
      unfold Cd.isBad at hb
      rw [Bool.and_eq_true, Bool.not_eq_true', decide_eq_true_eq] at hb
      exact absurd hb.2 (hc x hx hb.1)
  | false =>
    rw [if_neg (by simp)]
    have hlaw := Cd.cond_law (Cd.clean_any hb) (toksV_nums L) (f := 3 * L.length + 3) (by rw [toksV, List.length_map]; omega)
    cases hm : Cd.measure (toksV L) with
    | none => rw [if_pos (hlaw.1 hm)]
    | some d =>
      obtain ⟨h1, h2, _⟩ := hlaw.2 d hm
      rw [if_neg (by rw [h1]; simp)]
      simp only
      rw [h2]
end Go.Proofs.YtnjmkeijjapejaaGreatDoor
