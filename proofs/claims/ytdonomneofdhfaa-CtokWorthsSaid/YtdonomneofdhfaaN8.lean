/- A floating constant: the program's answer, second part. -/
import Derived.Test.YtdonomneofdhfaaN7
namespace Go.Proofs.Ytdonomneofdhfaa
open Go.GV Go.RowKit

theorem sub_rest (s : ByteArray) {a b : Int} (h0 : 0 ≤ a) (h1 : a ≤ s.size) (h2 : 0 ≤ b) (h3 : a + b ≤ s.size) : sub (sub s a s.size) b (sub s a s.size).size = sub s (a + b) s.size := by
  have hz := sub_size (s := s) h0 h1 (Int.le_refl _)
  refine bl_inj ?_
  rw [bl_rest _ h2 (by omega), bl_rest _ (by omega) h3]
  unfold tl
  rw [bl_rest _ h0 h1]
  unfold tl
  rw [List.drop_drop, show (a + b).toNat = a.toNat + b.toNat by omega]
theorem sub_whole (s : ByteArray) : sub s 0 s.size = s := bl_inj (by rw [bl_rest s (Int.le_refl _) (by omega)]; rfl)
theorem bt_rest (s : ByteArray) {a b : Int} (h0 : 0 ≤ a) (h1 : a ≤ s.size) (h2 : 0 ≤ b) (h3 : a + b < s.size) : bt (sub s a s.size) b = bt s (a + b) := by
  have hz := sub_size (s := s) h0 h1 (Int.le_refl _)
  have e1 := tl_cons (s := sub s a s.size) (i := b) h2 (by omega)
  have e2 := tl_cons (s := s) (i := a + b) (by omega) h3
  have e3 : tl (sub s a s.size) b = tl s (a + b) := by
    rw [← bl_rest _ h2 (by omega), sub_rest s h0 h1 h2 (by omega), bl_rest s (by omega) (by omega)]
  rw [e1, e2] at e3
  exact (List.cons.inj e3).1

def fsufL (L : List Int) : Bool := decide (L = []) || (decide (L = [102]) || (decide (L = [70]) || (decide (L = [108]) || decide (L = [76]))))
def endsL (m : Int) (may : Bool) (L : List Int) : Bool := if (!(expL m L).2 || (decide ((expL m L).1 = 0) && !may)) = true then false else fsufL (L.drop (expL m L).1)
def baseH (s : ByteArray) : Int := if hexT s = true then 16 else 10
def markH (s : ByteArray) : Int := if hexT s = true then 112 else 101
def n1F (s : ByteArray) : Nat := runB (baseH s) (tl s (atT s))
def ptF (s : ByteArray) : Bool := decide (atT s + n1F s < (s.size : Int)) && decide (bt s (atT s + n1F s) = 46)
def n2F (s : ByteArray) : Nat := if ptF s = true then runB (baseH s) (tl s (atT s + n1F s + 1)) else 0
def iF (s : ByteArray) : Int := if ptF s = true then atT s + n1F s + 1 + n2F s else atT s + n1F s
def floatB (s : ByteArray) : Bool := if n1F s + n2F s = 0 then false else endsL (markH s) (if hexT s = true then false else ptF s) (tl s (iF s))

theorem n1F_le (s : ByteArray) : atT s + n1F s ≤ s.size := by
  have h1 := runB_le (baseH s) (tl s (atT s))
  rw [tl_len] at h1
  have := atT_range s
  unfold n1F
  omega
theorem iF_le (s : ByteArray) : iF s ≤ s.size ∧ 0 ≤ iF s ∧ n2F s ≤ s.size := by
  have h1 := n1F_le s
  have h2 := atT_range s
  unfold iF n2F
  by_cases hp : ptF s = true
  · simp only [if_pos hp]
    have h3 := runB_le (baseH s) (tl s (atT s + n1F s + 1))
    rw [tl_len] at h3
    unfold ptF at hp
    simp only [Bool.and_eq_true, decide_eq_true_eq] at hp
    omega
  · simp only [if_neg hp]
    omega
theorem expL_le (m : Int) (L : List Int) : (expL m L).1 ≤ L.length := by
  cases L with
  | nil => exact Nat.le_refl 0
  | cons c r =>
    simp only [expL]
    split
    · have h1 := runB_le 10 (r.drop (sgnL r))
      rw [List.length_drop] at h1
      have h2 : sgnL r ≤ r.length := by
        cases r with
        | nil => exact Nat.le_refl 0
        | cons d q => simp only [sgnL, List.length_cons]; split <;> omega
      simp only [List.length_cons]; omega
    · simp

theorem ne_empty (s : ByteArray) : decide (s ≠ ⟨#[]⟩) = decide (0 < (s.size : Int)) := decide_eq_decide.2 ⟨fun hn => by
  rcases Nat.eq_zero_or_pos s.size with h0 | h0
  · exact absurd (ByteArray.size_eq_zero_iff.1 h0) hn
  · omega, fun hp hn => by rw [hn] at hp; exact absurd hp (by decide)⟩
theorem ne_size {s : ByteArray} (h : decide (s ≠ ⟨#[]⟩) = true) : 0 < (s.size : Int) := by
  rw [ne_empty] at h; exact of_decide_eq_true h

set_option maxRecDepth 100000 in
theorem float_any (s : ByteArray) (w : World) (hs : s.size ≤ 140737488355328) :
    Calls Try.prog 67 #[.string s] w (PureP w fun v _ => v = .bool (floatB s)) := by
  have hat := atT_range s
  have hn1 := n1F_le s
  obtain ⟨hi1, hi0, hn2⟩ := iF_le s
  obtain ⟨N, hN⟩ : ∃ N, N = floatB s := ⟨_, rfl⟩
  rw [← hN]
  refine x_fun tt_ok Try.func67 rfl rfl [] 0 [.v (.string s)] rfl rfl rfl rfl (fun b hb => by cases hb) ?_
  iterate 2
    refine x_seq ?_
    refine x_vc tt_ok ?_
  refine x_cut (σ := Unit) (fun _ => ⟨[(5, .v (.string (sub s (atT s) s.size))), (4, .v (.int .u8 (markH s))), (3, .v (.int .i64 (baseH s)))], [], [], 0⟩) (fun _ _ => True) (fun _ => Nat.le_refl _) ?_ ?_
  · refine x_vc tt_ok ?_
    refine xl_call0 (.bool (hexT s)) rfl rfl rfl rfl fn108 rfl rfl (fun E w F _ => hexed_any s w (by omega)) ?_
    refine xl_go tt_ok ?_
    refine x_if (fun h => ?_) (fun h => ?_)
    · have h : hexT s = true := h
      have h2 := hexT_size h
      have e1 : baseH s = 16 := by unfold baseH; rw [if_pos h]
      have e2 : markH s = 112 := by unfold markH; rw [if_pos h]
      have e3 : atT s = 2 := by unfold atT; rw [if_pos h]
      rw [e1, e2, e3]
      refine x_draw mix (by kernel_rfl) (xd_go tt_ok ?_)
      repeat (refine And.intro ?_ ?_; first | omega | (simp only [Lay.d_n]; omega) | (simp only [decide_eq_true_eq, decide_eq_false_iff_not, Bool.or_eq_false_iff, Bool.and_eq_true, Bool.or_eq_true, Bool.and_eq_false_iff, Bool.not_eq_true', Bool.not_eq_false', Lay.d_n]; omega) | (simp only [decide_eq_true_eq, decide_eq_false_iff_not, Bool.or_eq_false_iff, Bool.and_eq_true, Bool.or_eq_true, Bool.and_eq_false_iff, Bool.not_eq_true', Bool.not_eq_false']; omega))
      exact meet () [] (.of rfl rfl rfl rfl rfl rfl) trivial
    · have h : hexT s = false := h
      have hn : ¬ hexT s = true := by rw [h]; simp
      have e1 : baseH s = 10 := by unfold baseH; rw [if_neg hn]
      have e2 : markH s = 101 := by unfold markH; rw [if_neg hn]
      have e3 : atT s = 0 := by unfold atT; rw [if_neg hn]
      rw [e1, e2, e3, sub_whole]
      exact meet () [] (.of rfl rfl rfl rfl rfl rfl) trivial
  · rintro _ u1 hu1 _
    have hz1 := sub_size (s := s) (a := atT s) (b := s.size) (by omega) (by omega) (by omega)
    refine x_seq ?_
    refine x_vc tt_ok ?_
    refine xl_call0 (.int .i64 (n1F s)) rfl rfl rfl rfl fn109 rfl rfl (fun E w F _ => by
      have := run_any (sub s (atT s) s.size) (baseH s) w (by omega)
      rw [bl_rest s (by omega) (by omega)] at this
      exact this) ?_
    refine xl_go tt_ok ?_
    refine x_seq ?_
    refine x_vc tt_ok ?_
    repeat (refine And.intro ?_ ?_; first | omega | (simp only [Lay.d_n]; omega) | (simp only [decide_eq_true_eq, decide_eq_false_iff_not, Bool.or_eq_false_iff, Bool.and_eq_true, Bool.or_eq_true, Bool.and_eq_false_iff, Bool.not_eq_true', Bool.not_eq_false', Lay.d_n]; omega) | (simp only [decide_eq_true_eq, decide_eq_false_iff_not, Bool.or_eq_false_iff, Bool.and_eq_true, Bool.or_eq_true, Bool.and_eq_false_iff, Bool.not_eq_true', Bool.not_eq_false']; omega))
    rw [sub_rest s (by omega) (by omega) (by omega) (by omega)]
    have hz2 := sub_size (s := s) (a := atT s + n1F s) (b := s.size) (by omega) (by omega) (by omega)
    have hpt : (decide (sub s (atT s + n1F s) s.size ≠ ⟨#[]⟩) && decide (bt (sub s (atT s + n1F s) s.size) 0 = 46)) = ptF s := by
      rw [ne_empty]
      unfold ptF
      by_cases h1 : atT s + n1F s < (s.size : Int)
      · rw [bt_rest s (by omega) (by omega) (by omega) (by omega), Int.add_zero, decide_eq_true h1, decide_eq_true (by omega)]
      · rw [decide_eq_false h1, decide_eq_false (by omega), Bool.false_and, Bool.false_and]
    refine x_seq ?_
    refine x_vc tt_ok ?_
    refine And.intro (fun _ => Int.le_refl 0) ?_
    refine And.intro (fun h => ne_size h) ?_
    refine x_cut (σ := ByteArray × Int) (fun p => ⟨[(7, .v (.bool (decide (sub s (atT s + n1F s) s.size ≠ ⟨#[]⟩) && decide (bt (sub s (atT s + n1F s) s.size) 0 = 46)))), (6, .v (.int .i64 p.2)), (5, .v (.string p.1)), (4, .v (.int .u8 (markH s))), (3, .v (.int .i64 (baseH s)))], [], [], 0⟩) (fun p _ => p.1 = sub s (iF s) s.size ∧ p.2 = n1F s + n2F s) (fun _ => Nat.le_refl _) ?_ ?_
    · refine x_vc tt_ok ?_
      refine x_if (fun h => ?_) (fun h => ?_)
      · have h : ptF s = true := hpt.symm.trans h
        have e1 : n2F s = runB (baseH s) (tl s (atT s + n1F s + 1)) := by unfold n2F; rw [if_pos h]
        have e2 : iF s = atT s + n1F s + 1 + n2F s := by unfold iF; rw [if_pos h]
        unfold ptF at h
        simp only [Bool.and_eq_true, decide_eq_true_eq] at h
        repeat (refine And.intro ?_ ?_; first | omega | (simp only [Lay.d_n]; omega) | (simp only [decide_eq_true_eq, decide_eq_false_iff_not, Bool.or_eq_false_iff, Bool.and_eq_true, Bool.or_eq_true, Bool.and_eq_false_iff, Bool.not_eq_true', Bool.not_eq_false', Lay.d_n]; omega) | (simp only [decide_eq_true_eq, decide_eq_false_iff_not, Bool.or_eq_false_iff, Bool.and_eq_true, Bool.or_eq_true, Bool.and_eq_false_iff, Bool.not_eq_true', Bool.not_eq_false']; omega))
        refine xl_call0 (.int .i64 (n2F s)) rfl rfl rfl rfl fn109 rfl rfl (fun E w F _ => by
          rw [sub_rest s (by omega) (by omega) (by omega) (by omega)]
          have hz3 := sub_size (s := s) (a := atT s + n1F s + 1) (b := s.size) (by omega) (by omega) (by omega)
          have := run_any (sub s (atT s + n1F s + 1) s.size) (baseH s) w (by omega)
          rw [bl_rest s (by omega) (by omega), ← e1] at this
          exact this) ?_
        refine xl_go tt_ok ?_
        repeat (refine And.intro ?_ ?_; first | omega | (simp only [Lay.d_n]; omega) | (simp only [decide_eq_true_eq, decide_eq_false_iff_not, Bool.or_eq_false_iff, Bool.and_eq_true, Bool.or_eq_true, Bool.and_eq_false_iff, Bool.not_eq_true', Bool.not_eq_false', Lay.d_n]; omega) | (simp only [decide_eq_true_eq, decide_eq_false_iff_not, Bool.or_eq_false_iff, Bool.and_eq_true, Bool.or_eq_true, Bool.and_eq_false_iff, Bool.not_eq_true', Bool.not_eq_false']; omega))
        refine meet (_, (n1F s : Int) + n2F s) [] (.of rfl rfl rfl rfl rfl rfl) ⟨?_, rfl⟩
        show sub (sub s (atT s + n1F s) s.size) (1 + n2F s) (sub s (atT s + n1F s) s.size).size = _
        rw [sub_rest s (by omega) (by omega) (by omega) (by omega), show atT s + (n1F s : Int) + (1 + n2F s) = iF s by omega]
      · have h : ptF s = false := hpt.symm.trans h
        have e1 : n2F s = 0 := by unfold n2F; rw [if_neg (by rw [h]; simp)]
        have e2 : iF s = atT s + n1F s := by unfold iF; rw [if_neg (by rw [h]; simp)]
        refine meet (sub s (atT s + n1F s) s.size, (n1F s : Int)) [] (.of rfl rfl rfl rfl rfl rfl) ⟨by rw [e2], by rw [e1]; simp⟩
    · rintro ⟨r, n⟩ u2 hu2 ⟨hr, hn⟩
      replace hr : r = sub s (iF s) s.size := hr
      replace hn : n = n1F s + n2F s := hn
      subst hr hn
      rw [hpt]
      have hz3 := sub_size (s := s) (a := iF s) (b := s.size) (by omega) (by omega) (by omega)
      have hel := expL_le (markH s) (tl s (iF s))
      rw [tl_len] at hel
      have hmk : markH s = 101 ∨ markH s = 112 := by unfold markH; split <;> simp
      refine x_vc tt_ok ?_
      refine x_if (fun h => ?_) (fun h => ?_)
      · have h : (n1F s : Int) + n2F s = 0 := of_decide_eq_true h
        have e : N = false := by rw [hN]; unfold floatB; rw [if_pos (by omega)]
        rw [e]
        exact fin1 (fun _ _ => rfl)
      · have h : ¬ (n1F s : Int) + n2F s = 0 := of_decide_eq_false h
        have e : N = endsL (markH s) (if hexT s = true then false else ptF s) (tl s (iF s)) := by rw [hN]; unfold floatB; rw [if_neg (by omega)]
        refine xl_call0 (.tuple #[.int .i64 (expL (markH s) (tl s (iF s))).1, .bool (expL (markH s) (tl s (iF s))).2]) rfl rfl rfl rfl fn125 rfl rfl (fun E w F _ => by
          have := exponent_any (sub s (iF s) s.size) (markH s) hmk w (by omega)
          rw [bl_rest s (by omega) (by omega)] at this
          exact this) ?_
        refine xl_go tt_ok ?_
        unfold endsL at e
        have hdr : (tl s (iF s)).drop (expL (markH s) (tl s (iF s))).1 = tl s (iF s + (expL (markH s) (tl s (iF s))).1) := by
          unfold tl
          rw [List.drop_drop, show (iF s + ((expL (markH s) (bl s |>.drop (iF s).toNat)).1 : Int)).toNat = (iF s).toNat + (expL (markH s) (bl s |>.drop (iF s).toNat)).1 by omega]
        rw [hdr] at e
        generalize (expL (markH s) (tl s (iF s))) = q at *
        have hbx : decide (baseH s = 16) = hexT s := by
          unfold baseH
          cases hexT s <;> rfl
        refine x_if (fun h4 => ?_) (fun h4 => ?_)
        · have h4 : (!q.2 || (decide ((q.1 : Int) = 0) && (decide (baseH s = 16) || !ptF s))) = true := h4
          have e5 : N = false := by
            rw [e, if_pos]
            rw [hbx, decide_eq_decide.2 (show (q.1 : Int) = 0 ↔ q.1 = 0 by omega)] at h4
            refine Eq.trans ?_ h4
            cases hexT s <;> rfl
          rw [e5]
          exact fin1 (fun _ _ => rfl)
        · have h4 : (!q.2 || (decide ((q.1 : Int) = 0) && (decide (baseH s = 16) || !ptF s))) = false := h4
          have e5 : N = fsufL (tl s (iF s + q.1)) := by
            rw [e, if_neg]
            rw [hbx, decide_eq_decide.2 (show (q.1 : Int) = 0 ↔ q.1 = 0 by omega)] at h4
            intro h5
            have h6 : (!q.2 || (decide (q.1 = 0) && (hexT s || !ptF s))) = true := by
              refine Eq.trans ?_ h5
              cases hexT s <;> rfl
            rw [h4] at h6; cases h6
          repeat (refine And.intro ?_ ?_; first | omega | (simp only [Lay.d_n]; omega) | (simp only [decide_eq_true_eq, decide_eq_false_iff_not, Bool.or_eq_false_iff, Bool.and_eq_true, Bool.or_eq_true, Bool.and_eq_false_iff, Bool.not_eq_true', Bool.not_eq_false', Lay.d_n]; omega) | (simp only [decide_eq_true_eq, decide_eq_false_iff_not, Bool.or_eq_false_iff, Bool.and_eq_true, Bool.or_eq_true, Bool.and_eq_false_iff, Bool.not_eq_true', Bool.not_eq_false']; omega))
          obtain ⟨R, hR⟩ : ∃ R, R = sub (sub s (iF s) s.size) q.1 (sub s (iF s) s.size).size := ⟨_, rfl⟩
          have hbR : bl R = tl s (iF s + q.1) := by
            rw [hR, sub_rest s (by omega) (by omega) (by omega) (by omega), bl_rest s (by omega) (by omega)]
          have e6 : N = (decide (R = ⟨#[]⟩) || (decide (R = ⟨#[102]⟩) || (decide (R = ⟨#[70]⟩) || (decide (R = ⟨#[108]⟩) || decide (R = ⟨#[76]⟩))))) := by
            rw [e5, ← hbR, bl_eq, bl_eq, bl_eq, bl_eq, bl_eq]; rfl
          clear e e5
          refine x_if (fun hh => ?_) (fun hh => ?_)
          · have h : R = _ := hR.trans (of_decide_eq_true hh)
            have e7 : N = true := by rw [e6, h]; rfl
            rw [e7]
            refine x_ift hh ?_
            exact fin1 (fun _ _ => rfl)
          · have h5 : ¬ R = _ := fun hq => of_decide_eq_false hh (hR.symm.trans hq)
            refine x_if (fun hh => ?_) (fun hh => ?_)
            · have h : R = _ := hR.trans (of_decide_eq_true hh)
              have e7 : N = true := by rw [e6, h]; rfl
              rw [e7]
              refine x_ift hh ?_
              exact fin1 (fun _ _ => rfl)
            · have h6 : ¬ R = _ := fun hq => of_decide_eq_false hh (hR.symm.trans hq)
              refine x_if (fun hh => ?_) (fun hh => ?_)
              · have h : R = _ := hR.trans (of_decide_eq_true hh)
                have e7 : N = true := by rw [e6, h]; rfl
                rw [e7]
                refine x_ift hh ?_
                exact fin1 (fun _ _ => rfl)
              · have h7 : ¬ R = _ := fun hq => of_decide_eq_false hh (hR.symm.trans hq)
                refine x_if (fun hh => ?_) (fun hh => ?_)
                · have h : R = _ := hR.trans (of_decide_eq_true hh)
                  have e7 : N = true := by rw [e6, h]; rfl
                  rw [e7]
                  refine x_ift hh ?_
                  exact fin1 (fun _ _ => rfl)
                · have h8 : ¬ R = _ := fun hq => of_decide_eq_false hh (hR.symm.trans hq)
                  refine x_if (fun hh => ?_) (fun hh => ?_)
                  · have h : R = _ := hR.trans (of_decide_eq_true hh)
                    have e7 : N = true := by rw [e6, h]; rfl
                    rw [e7]
                    exact fin1 (fun _ _ => rfl)
                  · have h9 : ¬ R = _ := fun hq => of_decide_eq_false hh (hR.symm.trans hq)
                    have e7 : N = false := by rw [e6, decide_eq_false h5, decide_eq_false h6, decide_eq_false h7, decide_eq_false h8, decide_eq_false h9]; rfl
                    rw [e7]
                    exact fin1 (fun _ _ => rfl)
end Go.Proofs.Ytdonomneofdhfaa
