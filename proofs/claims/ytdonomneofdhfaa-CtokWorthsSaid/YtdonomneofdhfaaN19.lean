/- The elements of constants and strings: the document's answer, third part. -/
import Derived.Test.YtdonomneofdhfaaN18
namespace Go.Proofs.Ytdonomneofdhfaa
open Go.GV Go.RowKit

def topQ (s : ByteArray) (n : Nat) : Int := limP (sub s 0 n)

set_option maxRecDepth 100000 in
theorem elements_any (s : ByteArray) {k : Int} (h : (oneP s).1 = k) (hk : k = 3 ∨ k = 4) (w : World) (hs : s.size ≤ 4294967280) :
    Calls Try.prog 122 #[.string s, .int .i64 (pfN s)] w (PureP w (OwnT 2 (intY.d (if okY (ysT s) = true then ysT s else [])) [.bool (okY (ysT s))])) := by
  obtain ⟨q1, _, _, _, _⟩ := lit_at h hk
  have hlr := limP_range (sub s 0 (pfN s))
  have hzi := sub_size (s := s) (a := (pfN s : Int) + 1) (b := (s.size : Int) - 1) (by omega) (by omega) (by omega)
  have htop : topT s = limP (sub s 0 (pfN s)) := rfl
  have hys : ysT s = ysF (topT s) (bl (inT s)).length (bl (inT s)) := rfl
  have hin : inT s = sub s (pfN s + 1) ((s.size : Int) - 1) := rfl
  refine x_fun tt_ok Try.func122 rfl rfl [] 0 [.v (.string s), .v (.int .i64 (pfN s))] rfl rfl rfl rfl (fun b hb => by cases hb) ?_
  iterate 2
    refine x_seq ?_
    refine x_vc tt_ok ?_
  refine x_cut (σ := Int) (fun a => ⟨[(6, .v (.int .i64 a)), (5, .v (.bool false)), (4, .v (.slice none 0 0)), (1, .v (.int .i64 (pfN s))), (0, .v (.string s))], [], [], 0⟩)
    (fun a _ => a = if sub s 0 (pfN s) = ⟨#[117]⟩ then 65535 else 255) (fun _ => Nat.le_refl _) ?_ ?_
  · refine x_vc tt_ok ?_
    repeat (refine And.intro ?_ ?_; first | omega | (simp only [Lay.d_n]; omega) | (simp only [decide_eq_true_eq, decide_eq_false_iff_not, Bool.or_eq_false_iff, Bool.and_eq_true, Bool.or_eq_true, Bool.and_eq_false_iff, Bool.not_eq_true', Bool.not_eq_false', Lay.d_n]; omega) | (simp only [decide_eq_true_eq, decide_eq_false_iff_not, Bool.or_eq_false_iff, Bool.and_eq_true, Bool.or_eq_true, Bool.and_eq_false_iff, Bool.not_eq_true', Bool.not_eq_false']; omega))
    refine x_if (fun h1 => ?_) (fun h1 => ?_)
    · have h1 := of_decide_eq_true h1
      exact meet 65535 [] (.of rfl rfl rfl rfl rfl rfl) (by rw [if_pos h1])
    · have h1 := of_decide_eq_false h1
      exact meet 255 [] (.of rfl rfl rfl rfl rfl rfl) (by rw [if_neg h1])
  rintro a u1 hu1 ha
  refine x_cut (σ := Int) (fun a => ⟨[(6, .v (.int .i64 a)), (5, .v (.bool false)), (4, .v (.slice none 0 0)), (1, .v (.int .i64 (pfN s))), (0, .v (.string s))], [], [], 0⟩)
    (fun a _ => a = topT s) (fun _ => Nat.le_refl _) ?_ ?_
  · refine x_vc tt_ok ?_
    repeat (refine And.intro ?_ ?_; first | omega | (simp only [Lay.d_n]; omega) | (simp only [decide_eq_true_eq, decide_eq_false_iff_not, Bool.or_eq_false_iff, Bool.and_eq_true, Bool.or_eq_true, Bool.and_eq_false_iff, Bool.not_eq_true', Bool.not_eq_false', Lay.d_n]; omega) | (simp only [decide_eq_true_eq, decide_eq_false_iff_not, Bool.or_eq_false_iff, Bool.and_eq_true, Bool.or_eq_true, Bool.and_eq_false_iff, Bool.not_eq_true', Bool.not_eq_false']; omega))
    refine x_if (fun h1 => ?_) (fun h1 => ?_)
    · have h1 : (decide (sub s 0 (pfN s) = ⟨#[85]⟩) || decide (sub s 0 (pfN s) = ⟨#[76]⟩)) = true := h1
      refine meet 4294967295 [] (.of rfl rfl rfl rfl rfl rfl) ?_
      rw [htop]
      simp only [Bool.or_eq_true, decide_eq_true_eq] at h1
      rcases h1 with h1 | h1 <;> (rw [h1]; rfl)
    · have h1 : (decide (sub s 0 (pfN s) = ⟨#[85]⟩) || decide (sub s 0 (pfN s) = ⟨#[76]⟩)) = false := h1
      simp only [Bool.or_eq_false_iff, decide_eq_false_iff_not] at h1
      refine meet a [] (.of rfl rfl rfl rfl rfl rfl) ?_
      rw [htop, ha]
      unfold limP
      rw [if_neg h1.1, if_neg h1.2]
  rintro b u2 hu2 hb
  clear ha
  have hb1 : 255 ≤ b ∧ b ≤ 4294967295 := by rw [hb, htop]; exact hlr
  refine x_seq ?_
  refine x_vc tt_ok ?_
  repeat (refine And.intro ?_ ?_; first | omega | (simp only [Lay.d_n]; omega) | (simp only [decide_eq_true_eq, decide_eq_false_iff_not, Bool.or_eq_false_iff, Bool.and_eq_true, Bool.or_eq_true, Bool.and_eq_false_iff, Bool.not_eq_true', Bool.not_eq_false', Lay.d_n]; omega) | (simp only [decide_eq_true_eq, decide_eq_false_iff_not, Bool.or_eq_false_iff, Bool.and_eq_true, Bool.or_eq_true, Bool.and_eq_false_iff, Bool.not_eq_true', Bool.not_eq_false']; omega))
  rw [← hin] at hzi ⊢
  rw [← hb] at hys
  generalize inT s = c at *
  generalize ysT s = ys at *
  clear hin
  refine x_vc tt_ok ?_
  refine x_nil 8 2 intY rfl ?_
  have hbl := bl_len c
  refine x_loop (σ := Int × List Int) (fun (i, L) => ⟨[(9, .v (.int .i64 i)), (8, .r 1), (7, .v (.string c)), (6, .v (.int .i64 b)), (5, .v (.bool false)), (4, .v (.slice none 0 0))], [], [(1, .row 2 (intY.d L))], 2⟩)
    (fun (i, L) _ => 0 ≤ i ∧ i ≤ c.size ∧ (L.length : Int) ≤ i ∧ okY L = true ∧ ∃ n, ys = L ++ ysF b n (tl c i) ∧ (c.size : Int) - i ≤ n) (fun (i, _) => (c.size - i).toNat) (fun (_, _) => by simp only; omega) (0, []) [(1, some 0)] (.of rfl rfl rfl rfl rfl rfl)
    ⟨by omega, by omega, by simp, rfl, (bl c).length, by rw [hys, tl_zero]; rfl, by omega⟩ ?_
  rintro ⟨i, L⟩ u3 hu3 ⟨g1, g2, g3, g4, n, g5, g6⟩
  refine x_vc tt_ok ?_
  refine x_if (fun h1 => ?_) (fun h1 => ?_)
  · have h1 : i < c.size := of_decide_eq_true h1
    have hne : tl c i ≠ [] := by rw [tl_cons g1 h1]; simp
    have hmem : ∀ x ∈ tl c i, 0 ≤ x ∧ x ≤ 255 := fun x hx => ⟨bl_pos x (List.mem_of_mem_drop hx), bl_le x (List.mem_of_mem_drop hx)⟩
    obtain ⟨o1, o2⟩ := elemP_one hb1.1 (by omega : b < 1099511627776) hmem hne
    obtain ⟨p1, p2, p3⟩ := elemP_ok b (tl c i) (fun x hx => (hmem x hx).1) hne
    rw [tl_len] at p2
    obtain ⟨m, rfl⟩ : ∃ m, n = m + 1 := ⟨n - 1, by omega⟩
    have hstep : ysF b (m + 1) (tl c i) = if (elemP b (tl c i)).1 < 0 then [(elemP b (tl c i)).1] else (elemP b (tl c i)).1 :: ysF b m ((tl c i).drop (elemP b (tl c i)).2) := by
      rw [tl_cons g1 h1]; rfl
    rw [tl_drop c g1] at hstep
    refine xl_call0 (.tuple #[.int .i64 (oneRL (tl c i)).1, .int .i64 (oneRL (tl c i)).2]) rfl rfl rfl rfl fn147 rfl rfl (fun E w F _ => one147_any c i g1 h1 w (by omega)) ?_
    refine xl_go tt_ok ?_
    generalize oneRL (tl c i) = e at *
    generalize elemP b (tl c i) = f at *
    refine x_if (fun h2 => ?_) (fun h2 => ?_)
    · have h2 : (decide ((e.2 : Int) = 0) || decide (b < e.1)) = true := h2
      simp only [Bool.or_eq_true, decide_eq_true_eq] at h2
      have hf := o1.2 (by rcases h2 with h2 | h2 <;> omega)
      have hbad : okY ys = false := by
        rw [g5, hstep, if_pos hf]
        unfold okY
        rw [List.all_append]
        simp; omega
      rw [hbad]
      exact finO2n intY
    · have h2 : (decide ((e.2 : Int) = 0) || decide (b < e.1)) = false := h2
      simp only [Bool.or_eq_false_iff, decide_eq_false_iff_not] at h2
      have hf : ¬ f.1 < 0 := fun hh => by rcases o1.1 hh with h3 | h3 <;> omega
      have hef := o2 hf
      subst hef
      rw [if_neg hf] at hstep
      refine xl_push tt_ok intY L f.1 8 (cs := [.int .i64 f.1]) rfl rfl rfl rfl rfl rfl rfl rfl rfl rfl rfl rfl (by kernel_rfl) rfl rfl rfl rfl rfl (fun n hn => by cases hn; decide) rfl rfl rfl (by omega) (by omega) ?_
      refine xl_go tt_ok ?_
      repeat (refine And.intro ?_ ?_; first | omega | (simp only [Lay.d_n]; omega) | (simp only [decide_eq_true_eq, decide_eq_false_iff_not, Bool.or_eq_false_iff, Bool.and_eq_true, Bool.or_eq_true, Bool.and_eq_false_iff, Bool.not_eq_true', Bool.not_eq_false', Lay.d_n]; omega) | (simp only [decide_eq_true_eq, decide_eq_false_iff_not, Bool.or_eq_false_iff, Bool.and_eq_true, Bool.or_eq_true, Bool.and_eq_false_iff, Bool.not_eq_true', Bool.not_eq_false']; omega))
      refine again (i + f.2, L ++ [f.1]) [(1, some 2)] (.of rfl rfl rfl rfl rfl rfl) ⟨by omega, by omega, by simp; omega, ?_, m, by rw [g5, hstep]; simp, by omega⟩ (by simp only; omega)
      unfold okY at g4 ⊢
      rw [List.all_append, g4]
      simp; omega
  · have h1 : ¬ i < c.size := of_decide_eq_false h1
    rw [tl_nil (by omega), ysF_nil, List.append_nil] at g5
    subst g5
    rw [g4, if_pos rfl]
    exact finO2 rfl
end Go.Proofs.Ytdonomneofdhfaa
