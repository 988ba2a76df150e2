/- The digits of a text, one after the other, and how many a text begins with. -/
import Derived.Test.YtdonomneofdhfaaN1
import Derived.Test.YtdonomneofdhfaaP3
namespace Go.Proofs.Ytdonomneofdhfaa
open Go.GV Go.RowKit

def dgV (c : Int) : Value := .int .i64 (dg c)

set_option maxRecDepth 100000 in
theorem digits_iter (s : ByteArray) (b : Nat) (u0 : Im) (hb : u0.h b = some (.cells #[.string s] 9 (0, 0))) (hs : s.size ≤ 9223372036854775807) :
    Iter Try.prog 142 #[.pointer (some ⟨b, 0, none⟩)] ((bl s).map dgV) u0 := by
  refine x_iter tt_ok Try.func142 rfl rfl [(.slice (some ⟨b, 0, none⟩) 1 1, ⟨1, [fun _ => .string s]⟩)] [.e 1 1 0 0] (boxEnv b) (fun j x hj => ?_) rfl rfl (fun x hx => ?_) (fun x hx => ?_) (fun l Y Z u hu hR => ?_)
  · match j, hj with
    | 0, hj => cases hj; rfl
    | j + 1, hj => simp at hj
  · simp only [List.mem_singleton] at hx
    subst hx
    exact ⟨by simp, _, 1, 1, rfl, Int.le_refl _, by omega⟩
  · simp only [List.mem_singleton] at hx
    subst hx
    exact SlAt.box1 hb
  have hbl := bl_len s
  refine x_vc tt_ok ?_
  repeat (refine And.intro ?_ ?_; first | omega | (simp only [Lay.d_n]; omega) | (simp only [decide_eq_true_eq, decide_eq_false_iff_not, Bool.or_eq_false_iff, Bool.and_eq_true, Bool.or_eq_true, Bool.and_eq_false_iff, Bool.not_eq_true', Bool.not_eq_false', Lay.d_n]; omega) | (simp only [decide_eq_true_eq, decide_eq_false_iff_not, Bool.or_eq_false_iff, Bool.and_eq_true, Bool.or_eq_true, Bool.and_eq_false_iff, Bool.not_eq_true', Bool.not_eq_false']; omega))
  refine x_loop (σ := Nat) (fun k => ⟨[(6, .v (.int .i64 (k : Int))), (5, .v (.int .i64 s.size)), (0, .v (.func (.yield l) #[] #[])), (1, .e 1 1 0 0)], [], [(0, .gen (Y k).hp), (1, .sl ⟨1, [fun _ => .string s]⟩)], 2⟩)
    (fun k _ => k ≤ s.size) (fun k => s.size - k) (fun _ => Nat.le_refl _) 0 [] (.of rfl rfl rfl rfl rfl rfl) (Nat.zero_le _) ?_
  rintro k u2 hu2 g1
  refine x_vc tt_ok ?_
  refine x_if (fun h => ?_) (fun h => ?_)
  · have h2 : (k : Int) < s.size := of_decide_eq_true h
    have hbt := bt_range s k
    have hx : ((bl s).map dgV)[k]? = some (dgV (bt s k)) := by
      rw [List.getElem?_map, bl_get s (by omega)]; rfl
    repeat (refine And.intro ?_ ?_; first | omega | (simp only [Lay.d_n]; omega) | (simp only [decide_eq_true_eq, decide_eq_false_iff_not, Bool.or_eq_false_iff, Bool.and_eq_true, Bool.or_eq_true, Bool.and_eq_false_iff, Bool.not_eq_true', Bool.not_eq_false', Lay.d_n]; omega) | (simp only [decide_eq_true_eq, decide_eq_false_iff_not, Bool.or_eq_false_iff, Bool.and_eq_true, Bool.or_eq_true, Bool.and_eq_false_iff, Bool.not_eq_true', Bool.not_eq_false']; omega))
    refine xl_call0 (dgV (bt s k)) rfl rfl rfl rfl fn143 rfl rfl (fun E w F _ => dg_any _ w hbt.1 hbt.2) ?_
    refine xl_go tt_ok ?_
    refine xl_yield (kY := 0) rfl hR rfl rfl rfl rfl rfl rfl rfl rfl hx ?_ ?_
    · refine xl_go tt_ok ?_
      refine x_iff rfl ?_
      repeat (refine And.intro ?_ ?_; first | omega | (simp only [Lay.d_n]; omega) | (simp only [decide_eq_true_eq, decide_eq_false_iff_not, Bool.or_eq_false_iff, Bool.and_eq_true, Bool.or_eq_true, Bool.and_eq_false_iff, Bool.not_eq_true', Bool.not_eq_false', Lay.d_n]; omega) | (simp only [decide_eq_true_eq, decide_eq_false_iff_not, Bool.or_eq_false_iff, Bool.and_eq_true, Bool.or_eq_true, Bool.and_eq_false_iff, Bool.not_eq_true', Bool.not_eq_false']; omega))
      refine again (k + 1) [] (.of rfl rfl rfl rfl rfl rfl) (by omega) (by omega)
    · refine xl_go tt_ok ?_
      refine x_ift rfl ?_
      exact .inr rfl
  · have h2 : ¬ (k : Int) < s.size := of_decide_eq_false h
    have hk : ((bl s).map dgV).length = k := by rw [List.length_map, hbl]; omega
    exact .inl (by rw [hk]; rfl)

def DigitsFn (s : ByteArray) (v : Value) (u : Im) : Prop := ∃ b, v = .func (.func 142) #[] #[.pointer (some ⟨b, 0, none⟩)] ∧ u.h b = some (.cells #[.string s] 9 (0, 0))

set_option maxRecDepth 100000 in
theorem digitsFn_any (s : ByteArray) (w : World) : Calls Try.prog 110 #[.string s] w (PureP w (DigitsFn s)) := by
  refine x_fun tt_ok Try.func110 rfl rfl [] 0 [.v (.string s)] rfl rfl rfl rfl (fun b hb => by cases hb) ?_
  refine x_vc tt_ok ?_
  refine finP (fun E w' F hs hu => ?_)
  obtain ⟨b, h1, h2⟩ := hs.boxNew (k := 0) rfl hu
  refine ⟨b, ?_, h2⟩
  simp [SV.den, tupV, ptrOf, h1]

theorem runB_drop (b : Int) : ∀ (l : List Int) (k : Nat), k ≤ runB b l → runB b (l.drop k) + k = runB b l
  | l, 0, _ => by simp
  | [], k + 1, h => by simp [runB] at h
  | c :: r, k + 1, h => by
    simp only [runB] at h ⊢
    split at h
    · rename_i hc
      rw [if_pos hc]
      have := runB_drop b r k (by omega)
      rw [List.drop_succ_cons]; omega
    · omega

set_option maxRecDepth 100000 in
theorem run_any (s : ByteArray) (b : Int) (w : World) (hs : s.size ≤ 9223372036854775807) : Calls Try.prog 109 #[.string s, .int .i64 b] w (PureP w fun v _ => v = .int .i64 (runB b (bl s))) := by
  have hbl := bl_len s
  have hrl := runB_le b (bl s)
  refine x_fun tt_ok Try.func109 rfl rfl [] 0 [.v (.string s), .v (.int .i64 b)] rfl rfl rfl rfl (fun b hb => by cases hb) ?_
  refine x_vc tt_ok ?_
  refine xl_call _ rfl rfl rfl rfl fn110 rfl rfl (fun E w F _ => digitsFn_any s w) (fun v u1 u2 hu2 hs2 hv => ?_)
  obtain ⟨bk, rfl, hbk⟩ := hv
  have hb2 := of_sub_cut hs2 hbk
  refine xl_go tt_ok ?_
  refine x_range (σ := Unit × Nat) (τ := Unit) rfl fn142 (digits_iter s bk u2 hb2 hs) [(5, .p 1 0), (3, .p 0 0)]
    (fun (_, k) => [(0, .box 3 [.v (.int .i64 b)]), (1, .box 3 [.v (.int .i64 (k : Int))])]) (fun _ => 3) (fun k (_, n) _ => n = k ∧ k ≤ runB b (bl s))
    (fun _ => [(0, .box 3 [.v (.int .i64 b)]), (1, .box 3 [.v (.int .i64 (runB b (bl s) : Int))])]) (fun _ => 3) (fun _ e _ => e = .exit 0) ((), 0) [] (.of rfl rfl rfl rfl rfl rfl) ⟨rfl, Nat.zero_le _⟩ rfl
    (fun _ => rfl) (fun _ => rfl) (fun _ => by decide) (fun _ => by decide) rfl (fun l k x s' u3 Fr Fr' hx hu3 hg => ?_) (fun s' u3 hu3 hg => ?_) (fun _ e u3 hu3 hg => ?_)
  · obtain ⟨_, n⟩ := s'
    obtain ⟨rfl, hg⟩ := hg
    rw [List.getElem?_map] at hx
    obtain ⟨c, hc, rfl⟩ := Option.map_eq_some_iff.1 hx
    have hk : n < (bl s).length := (List.getElem?_eq_some_iff.1 hc).1
    have hd := runB_drop b (bl s) n hg
    rw [drop_get hc, runB] at hd
    refine x_vc tt_ok ?_
    refine ⟨rfl, rfl, x_vc tt_ok ?_⟩
    refine x_if (fun h1 => ?_) (fun h1 => ?_)
    · have h1 : b ≤ dg c := of_decide_eq_true h1
      rw [if_neg (by omega)] at hd
      have e : n = runB b (bl s) := by omega
      subst e
      exact ⟨(), [], .of rfl rfl rfl rfl rfl rfl, rfl⟩
    · have h1 : ¬ b ≤ dg c := of_decide_eq_false h1
      rw [if_pos (by omega)] at hd
      repeat (refine And.intro ?_ ?_; first | omega | (simp only [Lay.d_n]; omega) | (simp only [decide_eq_true_eq, decide_eq_false_iff_not, Bool.or_eq_false_iff, Bool.and_eq_true, Bool.or_eq_true, Bool.and_eq_false_iff, Bool.not_eq_true', Bool.not_eq_false', Lay.d_n]; omega) | (simp only [decide_eq_true_eq, decide_eq_false_iff_not, Bool.or_eq_false_iff, Bool.and_eq_true, Bool.or_eq_true, Bool.and_eq_false_iff, Bool.not_eq_true', Bool.not_eq_false']; omega))
      refine ⟨((), n + 1), [], .of rfl rfl rfl rfl rfl rfl, rfl, ?_⟩
      omega
  · obtain ⟨_, n⟩ := s'
    obtain ⟨rfl, hg⟩ := hg
    rw [List.length_map] at hg ⊢
    have e : (bl s).length = runB b (bl s) := by omega
    rw [e]
    exact fin1 (fun _ _ => rfl)
  · subst hg
    exact fin1 (fun _ _ => rfl)

set_option maxRecDepth 100000 in
theorem runR_any (s : ByteArray) (i b : Int) (w : World) (h0 : 0 ≤ i) (hb : b ≤ 16) (hs : (s.size : Int) + i ≤ 9223372036854775807) : Calls Try.prog 115 #[.string s, .int .i64 i, .int .i64 b] w (PureP w fun v _ => v = .int .i64 (runB b (tl s i))) := by
  have hN0 := runB_le b (tl s i)
  have htl := tl_len s i
  obtain ⟨N, hN⟩ : ∃ N, N = runB b (tl s i) := ⟨_, rfl⟩
  rw [← hN] at hN0 ⊢
  refine x_fun tt_ok Try.func115 rfl rfl [] 0 [.v (.string s), .v (.int .i64 i), .v (.int .i64 b)] rfl rfl rfl rfl (fun b hb => by cases hb) ?_
  refine x_vc tt_ok ?_
  refine x_loop (σ := Int) (fun k => ⟨[(7, .v (.int .i64 k)), (2, .v (.int .i64 b)), (1, .v (.int .i64 i)), (0, .v (.string s))], [], [], 0⟩)
    (fun k _ => 0 ≤ k ∧ k ≤ N ∧ (N : Int) = k + runB b (tl s (i + k))) (fun k => (N - k).toNat) (fun _ => Nat.le_refl _) 0 [] (.of rfl rfl rfl rfl rfl rfl)
    ⟨by omega, by omega, by rw [Int.add_zero, Int.zero_add, hN]⟩ ?_
  rintro k u hu ⟨g1, g2, g3⟩
  refine x_vc tt_ok ?_
  repeat (refine And.intro ?_ ?_; first | omega | (simp only [Lay.d_n]; omega) | (simp only [decide_eq_true_eq, decide_eq_false_iff_not, Bool.or_eq_false_iff, Bool.and_eq_true, Bool.or_eq_true, Bool.and_eq_false_iff, Bool.not_eq_true', Bool.not_eq_false', Lay.d_n]; omega) | (simp only [decide_eq_true_eq, decide_eq_false_iff_not, Bool.or_eq_false_iff, Bool.and_eq_true, Bool.or_eq_true, Bool.and_eq_false_iff, Bool.not_eq_true', Bool.not_eq_false']; omega))
  refine xl_gcall0 (.int .i64 (dgR (bt s (i + k)))) rfl rfl rfl rfl fn117 rfl rfl (fun hg E w F _ => dgR_any _ w (bt_range s _).1 (bt_range s _).2) ?_
  refine xl_go tt_ok ?_
  refine x_if (fun h => ?_) (fun h => ?_)
  · have h' : (decide (i + k < (s.size : Int)) && decide (dgR (bt s (i + k)) < b)) = true := h
    simp only [Bool.and_eq_true, decide_eq_true_eq] at h'
    rw [tl_cons (by omega) h'.1, runB, if_pos ((dgR_lt _ hb).1 h'.2)] at g3
    repeat (refine And.intro ?_ ?_; first | omega | (simp only [Lay.d_n]; omega) | (simp only [decide_eq_true_eq, decide_eq_false_iff_not, Bool.or_eq_false_iff, Bool.and_eq_true, Bool.or_eq_true, Bool.and_eq_false_iff, Bool.not_eq_true', Bool.not_eq_false', Lay.d_n]; omega) | (simp only [decide_eq_true_eq, decide_eq_false_iff_not, Bool.or_eq_false_iff, Bool.and_eq_true, Bool.or_eq_true, Bool.and_eq_false_iff, Bool.not_eq_true', Bool.not_eq_false']; omega))
    refine again (k + 1) [] (.of rfl rfl rfl rfl rfl rfl) ⟨by omega, by omega, ?_⟩ (by omega)
    rw [← Int.add_assoc]; omega
  · have h' : (decide (i + k < (s.size : Int)) && decide (dgR (bt s (i + k)) < b)) = false := h
    have e : (N : Int) = k := by
      rw [g3]
      by_cases h2 : i + k < s.size
      · rw [decide_eq_true h2, Bool.true_and] at h'
        have h3 := of_decide_eq_false h'
        rw [tl_cons (by omega) h2, runB, if_neg (fun hh => h3 ((dgR_lt _ hb).2 hh))]; omega
      · rw [tl_nil (by omega)]; simp [runB]
    rw [e]
    exact fin1 (fun _ _ => rfl)
end Go.Proofs.Ytdonomneofdhfaa
