/- ScanMunch: its walk. -/
import Derived.Test.YtdonomneofdhfaaT3
namespace Go.Proofs.Ytdonomneofdhfaa
open Go.GV Go.RowKit

theorem errK_zero : ∀ {xs : List Lx.Tk}, errK xs = 0 → ∀ t ∈ xs, t.err = 0
  | [], _, t, ht => by cases ht
  | x :: r, h, t, ht => by
    rw [errK] at h
    by_cases hx : x.err = 0
    · rw [if_neg (by simpa using hx)] at h
      rcases List.mem_cons.1 ht with rfl | ht
      · exact hx
      · exact errK_zero h t ht
    · rw [if_pos hx] at h; exact absurd h hx

theorem scanE_zero {s : ByteArray} (h : scanE s = 0) : checkE s = 0 ∧ errK (itsOf (logB s)) = 0 ∧ scanT s = tks (charsOf s) (logB s) 0 (itsOf (logB s)) ∧ (logB s).size ≤ 65536 := by
  have hc : checkE s = 0 := by
    unfold scanE at h
    split at h
    · rename_i h2; exact absurd h h2
    · rename_i h2; exact Classical.not_not.1 h2
  refine ⟨hc, ?_, ?_, ?_⟩
  · unfold scanE at h
    rw [if_neg (by simpa using hc)] at h; exact h
  · rw [scanT, if_pos h]
  · rw [logB_size]
    have h2 : charsOf s = chrsL (partsV s) := by rw [charsOf, if_pos hc]
    rw [h2]
    exact Nat.le_trans (chrsL_len _) (Nat.le_trans (partsV_len s) (checkE_size hc))

theorem getD_of {α : Type} {L : List α} {i : Nat} {x d : α} (h : L[i]? = some x) : L.getD i d = x := by
  rw [List.getD_eq_getElem?_getD, h]; rfl

/-- two neighbours of a text -/
theorem scan_munch {s : ByteArray} (h : scanE s = 0) {k : Nat} (hk : k + 1 < (scanT s).length) (h1 : ((scanT s).getD (k + 1) tok0).space = false) (h2 : ((scanT s).getD (k + 1) tok0).kind ≠ 7) (h3 : ((scanT s).getD k tok0).kind ≠ 7) :
    fuP ((scanT s).getD k tok0).text ((scanT s).getD (k + 1) tok0).text = (false, 0) ∧ ((scanT s).getD k tok0).text.size ≤ 65536 ∧ ((scanT s).getD (k + 1) tok0).text.size ≤ 65536 := by
  obtain ⟨e1, e2, e3, e4⟩ := scanE_zero h
  rw [e3] at hk h1 h2 h3 ⊢
  rw [tks_len] at hk
  obtain ⟨a, ha⟩ : ∃ a, (itsOf (logB s))[k]? = some a := ⟨_, List.getElem?_eq_getElem (by omega)⟩
  obtain ⟨b, hb⟩ : ∃ b, (itsOf (logB s))[k + 1]? = some b := ⟨_, List.getElem?_eq_getElem hk⟩
  obtain ⟨ta, a1, a2, a3, _⟩ := tks_get (charsOf s) (logB s) _ 0 k a ha
  obtain ⟨tb, b1, b2, b3, b4⟩ := tks_get (charsOf s) (logB s) _ 0 (k + 1) b hb
  rw [getD_of b1] at h1 h2 ⊢
  rw [getD_of a1] at h3 ⊢
  have b4 := b4 a (by omega) ha
  have ea := errK_zero e2 a (List.mem_of_getElem? ha)
  have eb := errK_zero e2 b (List.mem_of_getElem? hb)
  have hn := chain_next (Lx.itemsF_chain (bl (logB s)).length 0 0 (bl (logB s))) ha hb eb
  rw [b4] at h1
  have hab : a.hi = b.lo := by
    have := of_decide_eq_false h1
    have := hn.2
    omega
  rw [a3, b3]
  have s1 := sub_le (logB s) a.lo a.hi
  have s2 := sub_le (logB s) b.lo b.hi
  exact ⟨munch (its_stands (List.mem_of_getElem? ha)) (its_stands (List.mem_of_getElem? hb)) ea eb hab (by rw [← a2]; exact h3) (by rw [← b2]; exact h2), by omega, by omega⟩

theorem scanT_len (s : ByteArray) : (scanT s).length ≤ 65537 := by
  by_cases h : scanE s = 0
  · obtain ⟨_, _, e3, e4⟩ := scanE_zero h
    rw [e3, tks_len]
    have := its_len (logB s)
    omega
  · rw [scanT, if_neg h]; simp

set_option maxRecDepth 100000 in
theorem scanMunch_any (s : ByteArray) (w : World) (hs : s.size ≤ 9223372036854775807) (hg : Glob (im w)) : Calls Try.prog 7 #[.string s] w (PureP w fun v _ => v = .bool true) := by
  refine x_fun tt_ok Try.func7 rfl rfl [] 0 [.v (.string s)] rfl rfl rfl rfl (fun b hb => by cases hb) ?_
  refine x_vc tt_ok ?_
  refine xl_call0 (.bool true) rfl rfl rfl rfl fn40 rfl rfl (fun E w F hs => scanAlive_any w (hg.imm hs.imm)) ?_
  refine xl_go tt_ok ?_
  refine xl_callO2 31 (tokY.d (scanT s)) [.int .i64 (scanE s)] rfl rfl rfl rfl fn41 rfl rfl (fun E w F hs' => scan_any s w hs (hg.imm hs'.imm)) ?_
  refine xl_go tt_ok ?_
  refine x_if (fun h => ?_) (fun h => ?_)
  · exact fin1 (fun _ _ => rfl)
  · have h' : (decide (scanE s ≠ 0) || !true) = false := h
    have he : scanE s = 0 := by simpa using h'
    have hlen := scanT_len s
    have key := fun (k : Nat) => scan_munch he (k := k)
    clear h h'
    generalize scanT s = T at hlen key ⊢
    refine x_loop (σ := Int) (fun k => ⟨[(6, .v (.int .i64 k)), (4, .r 0), (3, .v (.bool true))], [], [(0, .row 31 (tokY.d T))], 1⟩)
      (fun k _ => 1 ≤ k ∧ k ≤ (T.length : Int) + 1) (fun k => ((T.length : Int) + 1 - k).toNat) (fun _ => Nat.le_refl 1) 1 [] (.of rfl rfl rfl rfl rfl rfl)
      ⟨by omega, by omega⟩ ?_
    rintro k u hu ⟨g1, g2⟩
    refine x_vc tt_ok ?_
    refine x_if (fun h3 => ?_) (fun h3 => ?_)
    · have h3 : k < T.length := of_decide_eq_true h3
      have ek : k.toNat = (k - 1).toNat + 1 := by omega
      repeat (refine And.intro ?_ ?_; first | omega | (simp only [Lay.d_n]; omega) | (simp only [decide_eq_true_eq, decide_eq_false_iff_not, Bool.or_eq_false_iff, Bool.and_eq_true, Bool.or_eq_true, Bool.and_eq_false_iff, Bool.not_eq_true', Bool.not_eq_false', Lay.d_n]; omega) | (simp only [decide_eq_true_eq, decide_eq_false_iff_not, Bool.or_eq_false_iff, Bool.and_eq_true, Bool.or_eq_true, Bool.and_eq_false_iff, Bool.not_eq_true', Bool.not_eq_false']; omega))
      refine x_if (fun h4 => ?_) (fun h4 => ?_)
      · repeat (refine And.intro ?_ ?_; first | omega | (simp only [Lay.d_n]; omega) | (simp only [decide_eq_true_eq, decide_eq_false_iff_not, Bool.or_eq_false_iff, Bool.and_eq_true, Bool.or_eq_true, Bool.and_eq_false_iff, Bool.not_eq_true', Bool.not_eq_false', Lay.d_n]; omega) | (simp only [decide_eq_true_eq, decide_eq_false_iff_not, Bool.or_eq_false_iff, Bool.and_eq_true, Bool.or_eq_true, Bool.and_eq_false_iff, Bool.not_eq_true', Bool.not_eq_false']; omega))
        exact again (k + 1) [] (.of rfl rfl rfl rfl rfl rfl) ⟨by omega, by omega⟩ (by omega)
      · have h4' : ((T.getD k.toNat tok0).space || decide ((T.getD k.toNat tok0).kind = 7) || decide ((T.getD (k - 1).toNat tok0).kind = 7)) = false := h4
        simp only [Bool.or_eq_false_iff, decide_eq_false_iff_not] at h4'
        obtain ⟨⟨b1, b2⟩, b3⟩ := h4'
        have hm := key (k - 1).toNat (by omega) (by rw [← ek]; exact b1) (by rw [← ek]; exact b2) b3
        rw [← ek] at hm
        refine x_draw mix (by kernel_rfl) (xd_go tt_ok ?_)
        repeat (refine And.intro ?_ ?_; first | omega | (simp only [Lay.d_n]; omega) | (simp only [decide_eq_true_eq, decide_eq_false_iff_not, Bool.or_eq_false_iff, Bool.and_eq_true, Bool.or_eq_true, Bool.and_eq_false_iff, Bool.not_eq_true', Bool.not_eq_false', Lay.d_n]; omega) | (simp only [decide_eq_true_eq, decide_eq_false_iff_not, Bool.or_eq_false_iff, Bool.and_eq_true, Bool.or_eq_true, Bool.and_eq_false_iff, Bool.not_eq_true', Bool.not_eq_false']; omega))
        refine xd_call0 (.tuple #[.bool false, .int .i64 0]) rfl rfl rfl rfl fn38 rfl rfl (fun _ E w F hs' => by
          have h5 := fuses_any (T.getD (k - 1).toNat tok0).text (T.getD k.toNat tok0).text (by omega) w (((hg.sub hu.sub)).imm hs'.imm)
          rw [hm.1] at h5
          exact h5) ?_
        refine xd_go tt_ok ?_
        refine x_iff rfl ?_
        repeat (refine And.intro ?_ ?_; first | omega | (simp only [Lay.d_n]; omega) | (simp only [decide_eq_true_eq, decide_eq_false_iff_not, Bool.or_eq_false_iff, Bool.and_eq_true, Bool.or_eq_true, Bool.and_eq_false_iff, Bool.not_eq_true', Bool.not_eq_false', Lay.d_n]; omega) | (simp only [decide_eq_true_eq, decide_eq_false_iff_not, Bool.or_eq_false_iff, Bool.and_eq_true, Bool.or_eq_true, Bool.and_eq_false_iff, Bool.not_eq_true', Bool.not_eq_false']; omega))
        exact again (k + 1) [] (.of rfl rfl rfl rfl rfl rfl) ⟨by omega, by omega⟩ (by omega)
    · exact fin1 (fun _ _ => rfl)
end Go.Proofs.Ytdonomneofdhfaa
