/- CtokWorths: the walk of the law. -/
import Derived.Test.YtdonomneofdhfaaN20
namespace Go.Proofs.Ytdonomneofdhfaa
open Go.GV Go.RowKit

theorem drop_eq_cons {L M : List Int} {i : Nat} (h : i < L.length) (h2 : i < M.length) (d : Int) : (L.drop i = M.drop i) ↔ (L.getD i d = M.getD i d ∧ L.drop (i + 1) = M.drop (i + 1)) := by
  rw [List.drop_eq_getElem_cons h, List.drop_eq_getElem_cons h2, List.getD_eq_getElem?_getD, List.getD_eq_getElem?_getD, List.getElem?_eq_getElem h, List.getElem?_eq_getElem h2]
  simp only [Option.getD_some, List.cons.injEq]

set_option maxRecDepth 100000 in
theorem numbers_any (L M : List Int) (x y : Value) (w : World) (hx : SlAt (im w) x (intY.d L)) (hy : SlAt (im w) y (intY.d M)) (hL : L.length ≤ 9223372036854775807) :
    Calls Try.prog 57 #[x, y] w (PureP w fun v _ => v = .bool (decide (L = M))) := by
  refine x_fun tt_ok Try.func57 rfl rfl [(x, intY.d L), (y, intY.d M)] 2 [.r 0, .r 1] rfl rfl rfl rfl (fun b hb => by
    simp only [List.mem_cons, List.not_mem_nil, or_false] at hb
    rcases hb with rfl | rfl
    · exact hx
    · exact hy) ?_
  refine x_vc tt_ok ?_
  refine x_if (fun h => ?_) (fun h => ?_)
  · have h : (L.length : Int) ≠ M.length := of_decide_eq_true h
    rw [decide_eq_false (fun e : L = M => h (by rw [e]))]
    exact fin1 (fun _ _ => rfl)
  · have h : ¬ (L.length : Int) ≠ M.length := of_decide_eq_false h
    have hl : L.length = M.length := by omega
    obtain ⟨N, hN⟩ : ∃ N, N = decide (L = M) := ⟨_, rfl⟩
    rw [← hN]
    refine x_loop (σ := Int) (fun i => ⟨[(5, .v (.int .i64 i)), (1, .r 1), (0, .r 0)], [], [(0, .sl (intY.d L)), (1, .sl (intY.d M))], 2⟩)
      (fun i _ => 0 ≤ i ∧ i ≤ L.length ∧ N = decide (L.drop i.toNat = M.drop i.toNat)) (fun i => (L.length - i).toNat) (fun _ => Nat.le_refl _) 0 [] (.of rfl rfl rfl rfl rfl rfl)
      ⟨by omega, by omega, hN⟩ ?_
    rintro i u hu ⟨g1, g2, g3⟩
    refine x_vc tt_ok ?_
    refine x_if (fun h2 => ?_) (fun h2 => ?_)
    · have h2 : i < L.length := of_decide_eq_true h2
      have hdc := drop_eq_cons (L := L) (M := M) (i := i.toNat) (by omega) (by omega) 0
      refine x_draw mix (by kernel_rfl) (xd_go tt_ok ?_)
      repeat (refine And.intro ?_ ?_; first | omega | (simp only [Lay.d_n]; omega) | (simp only [decide_eq_true_eq, decide_eq_false_iff_not, Bool.or_eq_false_iff, Bool.and_eq_true, Bool.or_eq_true, Bool.and_eq_false_iff, Bool.not_eq_true', Bool.not_eq_false', Lay.d_n]; omega) | (simp only [decide_eq_true_eq, decide_eq_false_iff_not, Bool.or_eq_false_iff, Bool.and_eq_true, Bool.or_eq_true, Bool.and_eq_false_iff, Bool.not_eq_true', Bool.not_eq_false']; omega))
      refine x_if (fun h3 => ?_) (fun h3 => ?_)
      · have h3 : L.getD i.toNat 0 ≠ M.getD i.toNat 0 := of_decide_eq_true h3
        rw [g3, decide_eq_false (fun hh => h3 (hdc.1 hh).1)]
        exact fin1 (fun _ _ => rfl)
      · have h3 : ¬ L.getD i.toNat 0 ≠ M.getD i.toNat 0 := of_decide_eq_false h3
        have g4 : N = decide (L.drop (i + 1).toNat = M.drop (i + 1).toNat) := by
          rw [g3, show (i + 1).toNat = i.toNat + 1 by omega]
          exact decide_eq_decide.2 ⟨fun hh => (hdc.1 hh).2, fun hh => hdc.2 ⟨Classical.not_not.1 h3, hh⟩⟩
        repeat (refine And.intro ?_ ?_; first | omega | (simp only [Lay.d_n]; omega) | (simp only [decide_eq_true_eq, decide_eq_false_iff_not, Bool.or_eq_false_iff, Bool.and_eq_true, Bool.or_eq_true, Bool.and_eq_false_iff, Bool.not_eq_true', Bool.not_eq_false', Lay.d_n]; omega) | (simp only [decide_eq_true_eq, decide_eq_false_iff_not, Bool.or_eq_false_iff, Bool.and_eq_true, Bool.or_eq_true, Bool.and_eq_false_iff, Bool.not_eq_true', Bool.not_eq_false']; omega))
        exact again (i + 1) [] (.of rfl rfl rfl rfl rfl rfl) ⟨by omega, by omega, g4⟩ (by omega)
    · have h2 : ¬ i < L.length := of_decide_eq_false h2
      rw [List.drop_eq_nil_of_le (by omega), List.drop_eq_nil_of_le (by omega)] at g3
      rw [g3, decide_eq_true rfl]
      exact fin1 (fun _ _ => rfl)

set_option maxRecDepth 100000 in
theorem ctokWorths_any (s : ByteArray) (w : World) (hs : s.size ≤ 9223372036854775807) (hg : Glob (im w)) : Calls Try.prog 12 #[.string s] w (PureP w fun v _ => v = .bool true) := by
  refine x_fun tt_ok Try.func12 rfl rfl [] 0 [.v (.string s)] rfl rfl rfl rfl (fun b hb => by cases hb) ?_
  refine x_vc tt_ok ?_
  refine x_if (fun h => ?_) (fun h => ?_)
  · exact fin1 (fun _ _ => rfl)
  · have h : ¬ 1000 < (s.size : Int) := of_decide_eq_false h
    have hyl : (strL s).length ≤ 1000 := by
      unfold strL
      split
      · unfold strE at *
        rename_i hE
        have h4 : (oneP s).1 = 4 := by
          by_cases h4 : (oneP s).1 = 4
          · exact h4
          · rw [if_neg h4] at hE; omega
        obtain ⟨q1, _, _, _, _⟩ := lit_at h4 (.inr rfl)
        have h1 := ysF_len (topT s) (bl (inT s)).length (bl (inT s))
        have := sub_size (s := s) (a := (pfN s : Int) + 1) (b := (s.size : Int) - 1) (by omega) (by omega) (by omega)
        have h2 : ((inT s).size : Int) = (s.size : Int) - 1 - (pfN s + 1) := this
        have h3 : (ysT s).length ≤ (inT s).size := by
          unfold ysT ysL
          rw [bl_len] at h1 ⊢
          exact h1
        omega
      · simp
    refine xl_call0 (.tuple #[.int .u64 (intV s).1, .bool (intV s).2.1, .int .i64 (intV s).2.2]) rfl rfl rfl rfl fn51 rfl rfl (fun E w F _ => int_any s w hs) ?_
    refine xl_go tt_ok ?_
    refine xl_call0 (.tuple #[.int .u64 (intV s).1, .bool (intV s).2.1, .int .i64 (intV s).2.2]) rfl rfl rfl rfl fn52 rfl rfl (fun E w F _ => intR_any s w (by omega)) ?_
    refine xl_go tt_ok ?_
    refine xl_call0 (.tuple #[.int .i64 (charV s).1, .int .i64 (charV s).2]) rfl rfl rfl rfl fn53 rfl rfl (fun E w F hs' => char_any s w (by omega) (hg.imm hs'.imm)) ?_
    refine xl_go tt_ok ?_
    refine xl_call0 (.tuple #[.int .i64 (charV s).1, .int .i64 (charV s).2]) rfl rfl rfl rfl fn54 rfl rfl (fun E w F _ => charR_any s w (by omega)) ?_
    refine xl_go tt_ok ?_
    refine xl_callO2 2 (intY.d (strL s)) [.int .i64 (strE s)] rfl rfl rfl rfl fn55 rfl rfl (fun E w F hs' => str_any s w (by omega) (hg.imm hs'.imm)) ?_
    refine xl_go tt_ok ?_
    refine xl_callO2 2 (intY.d (strL s)) [.int .i64 (strE s)] rfl rfl rfl rfl fn56 rfl rfl (fun E w F _ => strR_any s w (by omega)) ?_
    refine xl_go tt_ok ?_
    refine xl_gcall0 (.bool true) rfl rfl rfl rfl fn57 rfl rfl (fun _ E w F hs' => by
      have := numbers_any (strL s) (strL s) _ _ w (hs'.rowAt (k := 0) rfl) (hs'.rowAt (k := 1) rfl) (by omega)
      rw [decide_eq_true rfl] at this
      exact this) ?_
    refine xl_go tt_ok ?_
    refine x_if (fun h2 => ?_) (fun h2 => ?_)
    · exact absurd h2 (by simp)
    · clear h2
      refine x_loop (σ := Int × List Int) (fun (i, L) => ⟨[(17, .v (.int .i64 i)), (15, .r 1), (13, .r 0), (0, .v (.string s))], [], [(0, .row 2 (intY.d L)), (1, .row 2 (intY.d (strL s)))], 2⟩)
        (fun (i, L) _ => 0 ≤ i ∧ i ≤ L.length ∧ L.length = (strL s).length) (fun (i, L) => (L.length - i).toNat) (fun (_, _) => Nat.le_refl 2) (0, strL s) [] (.of rfl rfl rfl rfl rfl rfl)
        ⟨by omega, by omega, rfl⟩ ?_
      rintro ⟨i, L⟩ u hu ⟨g1, g2, g3⟩
      refine x_vc tt_ok ?_
      refine x_if (fun h2 => ?_) (fun h2 => ?_)
      · have h2 : i < L.length := of_decide_eq_true h2
        repeat (refine And.intro ?_ ?_; first | omega | (simp only [Lay.d_n]; omega) | (simp only [decide_eq_true_eq, decide_eq_false_iff_not, Bool.or_eq_false_iff, Bool.and_eq_true, Bool.or_eq_true, Bool.and_eq_false_iff, Bool.not_eq_true', Bool.not_eq_false', Lay.d_n]; omega) | (simp only [decide_eq_true_eq, decide_eq_false_iff_not, Bool.or_eq_false_iff, Bool.and_eq_true, Bool.or_eq_true, Bool.and_eq_false_iff, Bool.not_eq_true', Bool.not_eq_false']; omega))
        refine xl_set tt_ok intY L (-77) (cs := [.int .i64 (-77)]) rfl rfl rfl rfl rfl rfl rfl g1 h2 rfl rfl (Nat.le_refl 1) rfl ?_
        refine xl_go tt_ok ?_
        repeat (refine And.intro ?_ ?_; first | omega | (simp only [Lay.d_n]; omega) | (simp only [decide_eq_true_eq, decide_eq_false_iff_not, Bool.or_eq_false_iff, Bool.and_eq_true, Bool.or_eq_true, Bool.and_eq_false_iff, Bool.not_eq_true', Bool.not_eq_false', Lay.d_n]; omega) | (simp only [decide_eq_true_eq, decide_eq_false_iff_not, Bool.or_eq_false_iff, Bool.and_eq_true, Bool.or_eq_true, Bool.and_eq_false_iff, Bool.not_eq_true', Bool.not_eq_false']; omega))
        exact again (i + 1, L.set i.toNat (-77)) [] (.of rfl rfl rfl rfl rfl rfl) ⟨by omega, by rw [List.length_set]; omega, by rw [List.length_set]; exact g3⟩ (by simp only [List.length_set]; omega)
      · refine xl_callO2 2 (intY.d (strL s)) [.int .i64 (strE s)] rfl rfl rfl rfl fn55 rfl rfl (fun E w F hs' => str_any s w (by omega) ((hg.sub hu.sub).imm hs'.imm)) ?_
        refine xl_go tt_ok ?_
        refine xl_call0 (.bool true) rfl rfl rfl rfl fn57 rfl rfl (fun E w F hs' => by
          have := numbers_any (strL s) (strL s) _ _ w (hs'.rowAt (k := 2) rfl) (hs'.rowAt (k := 1) rfl) (by omega)
          rw [decide_eq_true rfl] at this
          exact this) ?_
        refine xl_go tt_ok ?_
        exact fin1 (fun _ _ => rfl)
end Go.Proofs.Ytdonomneofdhfaa
