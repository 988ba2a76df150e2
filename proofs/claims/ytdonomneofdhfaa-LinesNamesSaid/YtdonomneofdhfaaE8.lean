/- Whether a text is one token: as the program finds it. -/
import Derived.Test.YtdonomneofdhfaaE7
import Derived.Test.YtdonomneofdhfaaP3
namespace Go.Proofs.Ytdonomneofdhfaa
open Go.GV Go.RowKit

theorem chain_len : ∀ {xs : List Lx.Tk} {i n : Nat}, Lx.chain i n xs → xs.length ≤ n - i + 1
  | [], _, _, _ => Nat.zero_le _
  | x :: r, i, n, h => by
    rcases h with ⟨h1, h2, h3, h4, h5⟩ | ⟨h1, h2⟩
    · have := chain_len h5
      simp only [List.length_cons]; omega
    · subst h2; simp
theorem its_len (s : ByteArray) : (itsOf s).length ≤ s.size + 1 := by
  have hc := chain_len (Lx.itemsF_chain (bl s).length 0 0 (bl s))
  rw [bl_len] at hc
  have : (Lx.itemsF s.size 0 0 (bl s)).length = (itsOf s).length := by unfold itsOf Lx.itemsL; rw [bl_len]
  omega

theorem chain_mem : ∀ {xs : List Lx.Tk} {i n : Nat}, Lx.chain i n xs → ∀ t ∈ xs, t.err ≠ 0 ∨ (t.err = 0 ∧ i ≤ t.lo ∧ t.lo < t.hi ∧ t.hi ≤ n)
  | [], _, _, _, t, ht => by cases ht
  | x :: r, i, n, h, t, ht => by
    rcases h with ⟨h1, h2, h3, h4, h5⟩ | ⟨h1, h2⟩
    · rcases List.mem_cons.1 ht with rfl | ht
      · exact .inr ⟨h1, h2, h3, h4⟩
      · rcases chain_mem h5 t ht with h | h
        · exact .inl h
        · exact .inr ⟨h.1, by omega, h.2.2⟩
    · subst h2
      rw [List.mem_singleton.1 ht]; exact .inl h1

theorem its_mem {s : ByteArray} {t : Lx.Tk} (h : t ∈ itsOf s) : t.err ≠ 0 ∨ (t.err = 0 ∧ t.lo < t.hi ∧ t.hi ≤ s.size) := by
  have hc := Lx.itemsF_chain (bl s).length 0 0 (bl s)
  rcases chain_mem hc t h with h | ⟨h1, _, h2, h3⟩
  · exact .inl h
  · rw [bl_len] at h3
    exact .inr ⟨h1, h2, by omega⟩

def oneP (s : ByteArray) : Int × Bool := match Lx.oneL (bl s) with
  | some k => (k, true)
  | none => (0, false)
theorem oneP_eq (s : ByteArray) : oneP s = if (Lx.oneG s.size (0, 0) (itsOf s)).2 = 1 then ((Lx.oneG s.size (0, 0) (itsOf s)).1, true) else (0, false) := by
  unfold oneP
  rw [Lx.oneG_eq, bl_len]
  unfold itsOf
  split <;> rename_i h <;> split at h <;> simp_all

set_option maxRecDepth 100000 in
theorem one_any (s : ByteArray) (hz : s.size ≤ 4294967280) (w : World) (hg : Glob (im w)) :
    Calls Try.prog 36 #[.string s] w (PureP w fun v _ => v = .tuple #[.int .i64 (oneP s).1, .bool (oneP s).2]) := by
  have hE := oneP_eq s
  generalize oneP s = N at hE ⊢
  refine x_fun tt_ok Try.func36 rfl rfl [] 0 [.v (.string s)] rfl rfl rfl rfl (fun b hb => by cases hb) ?_
  refine x_vc tt_ok ?_
  refine xl_call _ rfl rfl rfl rfl fn100 rfl rfl (fun E w F _ => itemsFn_any s w) (fun v u1 u2 hu2 hs2 hv => ?_)
  obtain ⟨b, rfl, hb⟩ := hv
  have hb2 := of_sub_cut hs2 hb
  have hg2 : Glob u2 := hg.sub hu2.sub
  refine xl_go tt_ok ?_
  refine x_range2 (σ := Int × Nat) (τ := Int) rfl fn130 (items_iter s b u2 hb2 hg2 hz) [(5, .p 2 0), (4, .p 1 0), (1, .p 0 0)]
    (fun (kd, n) => [(0, .box 9 [.v (.string s)]), (1, .box 3 [.v (.int .i64 kd)]), (2, .box 3 [.v (.int .i64 n)])]) (fun _ => 4)
    (fun k (kd, n) _ => n ≤ k ∧ Lx.oneG s.size (0, 0) (itsOf s) = Lx.oneG s.size (kd, n) ((itsOf s).drop k))
    (fun kd => [(0, .box 9 [.v (.string s)]), (1, .box 3 [.v (.int .i64 kd)]), (2, .box 3 [.v (.int .i64 0)])]) (fun _ => 4)
    (fun kd e _ => e = .exit 0 ∧ Lx.oneG s.size (0, 0) (itsOf s) = (kd, 0)) (0, 0) [] (.of rfl rfl rfl rfl rfl rfl) ⟨Nat.le_refl _, rfl⟩ rfl
    (fun _ => rfl) (fun _ => rfl) (fun _ => by decide) (fun _ => by decide) rfl rfl (fun l k x s' u3 Fr Fr' hx hu3 hg => ?_) (fun s' u3 hu3 hg => ?_) (fun kd e u3 hu3 hg => ?_)
  · obtain ⟨kd, n⟩ := s'
    obtain ⟨g0, g1⟩ := hg
    rw [List.getElem?_map] at hx
    obtain ⟨t, ht, rfl⟩ := Option.map_eq_some_iff.1 hx
    rw [drop_get ht, Lx.oneG] at g1
    have hm := its_mem (List.mem_of_getElem? ht)
    have hlen := its_len s
    have hk : k < (itsOf s).length := (List.getElem?_eq_some_iff.1 ht).1
    refine x_vc tt_ok ?_
    refine ⟨rfl, rfl, x_vc tt_ok ?_⟩
    repeat (refine And.intro ?_ ?_; first | omega | (simp only [Lay.d_n]; omega) | (simp only [decide_eq_true_eq, decide_eq_false_iff_not, Bool.or_eq_false_iff, Bool.and_eq_true, Bool.or_eq_true, Bool.and_eq_false_iff, Bool.not_eq_true', Bool.not_eq_false', Lay.d_n]; omega) | (simp only [decide_eq_true_eq, decide_eq_false_iff_not, Bool.or_eq_false_iff, Bool.and_eq_true, Bool.or_eq_true, Bool.and_eq_false_iff, Bool.not_eq_true', Bool.not_eq_false']; omega))
    have hc : (decide (t.err ≠ 0) || decide ((t.hi : Int) - (t.lo : Int) ≠ (s.size : Int))) = decide (t.err ≠ 0 ∨ t.hi - t.lo ≠ s.size) := by
      rw [Bool.eq_iff_iff]
      simp only [Bool.or_eq_true, decide_eq_true_eq]
      rcases hm with hm | hm
      · simp [hm]
      · have : ((t.hi : Int) - (t.lo : Int) ≠ (s.size : Int)) ↔ t.hi - t.lo ≠ s.size := by omega
        rw [this]
    refine x_if (fun h => ?_) (fun h => ?_)
    · have h := of_decide_eq_true (hc.symm.trans h)
      rw [if_pos h] at g1
      exact ⟨kd, [], .of rfl rfl rfl rfl rfl rfl, rfl, g1⟩
    · have h := of_decide_eq_false (hc.symm.trans h)
      rw [if_neg h] at g1
      repeat (refine And.intro ?_ ?_; first | omega | (simp only [Lay.d_n]; omega) | (simp only [decide_eq_true_eq, decide_eq_false_iff_not, Bool.or_eq_false_iff, Bool.and_eq_true, Bool.or_eq_true, Bool.and_eq_false_iff, Bool.not_eq_true', Bool.not_eq_false', Lay.d_n]; omega) | (simp only [decide_eq_true_eq, decide_eq_false_iff_not, Bool.or_eq_false_iff, Bool.and_eq_true, Bool.or_eq_true, Bool.and_eq_false_iff, Bool.not_eq_true', Bool.not_eq_false']; omega))
      exact ⟨(t.kind, n + 1), [], .of rfl rfl rfl rfl rfl rfl, by omega, g1⟩
  · obtain ⟨kd, n⟩ := s'
    obtain ⟨g0, g1⟩ := hg
    rw [List.length_map, List.drop_length, Lx.oneG] at g1
    rw [g1] at hE
    refine x_if (fun h => ?_) (fun h => ?_)
    · rw [if_neg (by have := of_decide_eq_true h; simp only; omega)] at hE
      rw [hE]
      exact fin1 (fun _ _ => rfl)
    · rw [if_pos (by have := Classical.not_not.1 (of_decide_eq_false h); simp only; omega)] at hE
      rw [hE]
      exact fin1 (fun _ _ => rfl)
  · obtain ⟨rfl, g1⟩ := hg
    rw [g1] at hE
    rw [if_neg (by simp)] at hE
    refine x_ift rfl ?_
    rw [hE]
    exact fin1 (fun _ _ => rfl)
end Go.Proofs.Ytdonomneofdhfaa
