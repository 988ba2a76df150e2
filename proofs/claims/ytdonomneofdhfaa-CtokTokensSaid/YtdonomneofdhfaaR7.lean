/- The document's tokens: its walk. -/
import Derived.Test.YtdonomneofdhfaaR6
namespace Go.Proofs.Ytdonomneofdhfaa
open Go.GV Go.RowKit

set_option maxRecDepth 100000 in
theorem refTokens_any (s : ByteArray) (hz : s.size ≤ 4294967280) (w : World) :
    Calls Try.prog 101 #[.string s] w (PureP w (OwnT 31 (tokY.d (rToks s)) [.int .i64 (rErr s)])) := by
  refine x_fun tt_ok Try.func101 rfl rfl [] 0 [.v (.string s)] rfl rfl rfl rfl (fun b hb => by cases hb) ?_
  refine x_vc tt_ok ?_
  refine x_nil 4 31 tokY rfl ?_
  refine x_loop (σ := Int × Bool × List Tok × Bool × List ByteArray × Int) (fun (i, sp, T, wr, W, _) => ⟨[(7, .v (.bool sp)), (6, .v (.int .i64 i)), (5, cond wr (.r 2) (.v (.slice none 0 0))), (4, .r 1), (0, .v (.string s))], [],
      cond wr [(2, .row 9 (strY.d W)), (1, .row 31 (tokY.d T))] [(1, .row 31 (tokY.d T))], 3⟩)
    (fun (i, sp, T, wr, W, st) _ => 0 ≤ i ∧ i ≤ s.size ∧ (T.length : Int) ≤ i ∧ (W.length : Int) ≤ i ∧ (wr = false → W = []) ∧ Rel W st ∧ rErr s = errT (rtA s st sp i) ∧ (rErr s = 0 → rToks s = T ++ (rtA s st sp i).map (tokT s)))
    (fun (i, _) => (s.size - i).toNat) (fun (_, _, _, _, _, _) => by show 1 ≤ 3; decide) (0, false, [], false, [], 0) [(1, some 0)] (.of rfl rfl rfl rfl rfl rfl)
    ⟨by omega, by omega, by simp, by simp, fun _ => rfl, rfl, rfl, fun h => by rw [rToks, if_pos h]; rfl⟩ ?_
  rintro ⟨i, sp, T, wr, W, st⟩ u hu ⟨g1, g2, g3, g4, g5, g6, g7, g8⟩
  refine x_cut (σ := Unit) (fun _ => ⟨[(7, .v (.bool sp)), (6, .v (.int .i64 i)), (5, .r 3), (4, .r 1), (0, .v (.string s))], [], [(3, .row 9 (strY.d W)), (1, .row 31 (tokY.d T))], 4⟩)
    (fun _ _ => i < s.size) (fun _ => by show 3 ≤ 4; decide) ?_ ?_
  · cases wr with
    | true =>
      refine x_vc tt_ok ?_
      refine x_if (fun h => ?_) (fun h => ?_)
      · exact meet () [(3, some 2)] (.of rfl rfl rfl rfl rfl rfl) (of_decide_eq_true h)
      · have h2 := of_decide_eq_false h
        rw [rtA_nil (by omega)] at g7 g8
        have e1 : rErr s = 0 := g7
        have e2 : rToks s = T := by rw [g8 e1]; simp
        rw [e1, e2]
        exact finO2 (k := 1) rfl
    | false =>
      obtain rfl := g5 rfl
      refine x_nil 5 9 strY rfl ?_
      refine x_vc tt_ok ?_
      refine x_if (fun h => ?_) (fun h => ?_)
      · exact meet () [] (.of rfl rfl rfl rfl rfl rfl) (of_decide_eq_true h)
      · have h2 := of_decide_eq_false h
        rw [rtA_nil (by omega)] at g7 g8
        have e1 : rErr s = 0 := g7
        have e2 : rToks s = T := by rw [g8 e1]; simp
        rw [e1, e2]
        exact finO2 (k := 1) rfl
  · rintro _ u2 hu2 hi
    rw [rtA_cons g1 hi] at g7 g8
    have hbr : bl (sub s i s.size) = tl s i := bl_rest s g1 (by omega)
    have hsz : ((sub s i s.size).size : Int) = s.size - i := sub_size g1 (by omega) (Int.le_refl _)
    refine x_block ?_
    refine x_seq ?_
    refine x_vc tt_ok ?_
    repeat (refine And.intro ?_ ?_; first | omega | (simp only [Lay.d_n]; omega) | (simp only [decide_eq_true_eq, decide_eq_false_iff_not, Bool.or_eq_false_iff, Bool.and_eq_true, Bool.or_eq_true, Bool.and_eq_false_iff, Bool.not_eq_true', Bool.not_eq_false', Lay.d_n]; omega) | (simp only [decide_eq_true_eq, decide_eq_false_iff_not, Bool.or_eq_false_iff, Bool.and_eq_true, Bool.or_eq_true, Bool.and_eq_false_iff, Bool.not_eq_true', Bool.not_eq_false']; omega))
    refine xl_call0 (.bool (Lx.white (bt s i))) rfl rfl rfl rfl fn134 rfl rfl (fun E w F _ => whiteR_any _ w) ?_
    refine xl_go tt_ok ?_
    refine x_if (fun h => ?_) (fun h => ?_)
    · rw [if_pos h] at g7 g8
      repeat (refine And.intro ?_ ?_; first | omega | (simp only [Lay.d_n]; omega) | (simp only [decide_eq_true_eq, decide_eq_false_iff_not, Bool.or_eq_false_iff, Bool.and_eq_true, Bool.or_eq_true, Bool.and_eq_false_iff, Bool.not_eq_true', Bool.not_eq_false', Lay.d_n]; omega) | (simp only [decide_eq_true_eq, decide_eq_false_iff_not, Bool.or_eq_false_iff, Bool.and_eq_true, Bool.or_eq_true, Bool.and_eq_false_iff, Bool.not_eq_true', Bool.not_eq_false']; omega))
      exact again (i + 1, true, T, true, W, st) [(1, some 1), (2, some 3)] (.of rfl rfl rfl rfl rfl rfl) ⟨by omega, by omega, by omega, by omega, (fun h => by cases h), g6, g7, g8⟩ (by simp only; omega)
    · rw [if_neg (fun h2 => Bool.noConfusion (h2.symm.trans h))] at g7 g8
      have hitm : itm s st i = Lx.itemR (hdrW W) (tl s i) := by
        rw [Lx.itemR_eq _ (by rw [tl_cons g1 hi]; simp), g6.hdr]; rfl
      refine x_seq ?_
      refine x_vc tt_ok ?_
      refine x_seq ?_
      refine x_vc tt_ok ?_
      refine x_cut (σ := Int × Int) (fun (k, n) => ⟨[(9, .v (.int .i64 n)), (8, .v (.int .i64 k)), (7, .v (.bool sp)), (6, .v (.int .i64 i)), (5, .r 3), (4, .r 1), (0, .v (.string s))], [], [(3, .row 9 (strY.d W)), (1, .row 31 (tokY.d T))], 4⟩)
        (fun (k, n) _ => n = (if hdrW W = true then (Lx.hdrN (tl s i) : Int) else 0) ∧ (n ≠ 0 → k = 7)) (fun (_, _) => Nat.le_refl 4) ?_ ?_
      · refine x_vc tt_ok ?_
        repeat (refine And.intro ?_ ?_; first | omega | (simp only [Lay.d_n]; omega) | (simp only [decide_eq_true_eq, decide_eq_false_iff_not, Bool.or_eq_false_iff, Bool.and_eq_true, Bool.or_eq_true, Bool.and_eq_false_iff, Bool.not_eq_true', Bool.not_eq_false', Lay.d_n]; omega) | (simp only [decide_eq_true_eq, decide_eq_false_iff_not, Bool.or_eq_false_iff, Bool.and_eq_true, Bool.or_eq_true, Bool.and_eq_false_iff, Bool.not_eq_true', Bool.not_eq_false']; omega))
        refine x_if (fun h3 => ?_) (fun h3 => ?_)
        · have h3' : hdrW W = true := h3
          repeat (refine And.intro ?_ ?_; first | omega | (simp only [Lay.d_n]; omega) | (simp only [decide_eq_true_eq, decide_eq_false_iff_not, Bool.or_eq_false_iff, Bool.and_eq_true, Bool.or_eq_true, Bool.and_eq_false_iff, Bool.not_eq_true', Bool.not_eq_false', Lay.d_n]; omega) | (simp only [decide_eq_true_eq, decide_eq_false_iff_not, Bool.or_eq_false_iff, Bool.and_eq_true, Bool.or_eq_true, Bool.and_eq_false_iff, Bool.not_eq_true', Bool.not_eq_false']; omega))
          refine xl_call0 (.int .i64 (Lx.hdrN (tl s i))) rfl rfl rfl rfl fn135 rfl rfl (fun E w F _ => by rw [← hbr]; exact named_any _ (by omega) (by omega) w) ?_
          refine xl_go tt_ok ?_
          exact meet (7, (Lx.hdrN (tl s i) : Int)) [] (.of rfl rfl rfl rfl rfl rfl) ⟨by rw [if_pos h3'], fun _ => rfl⟩
        · have h3' : hdrW W = false := h3
          exact meet (0, 0) [] (.of rfl rfl rfl rfl rfl rfl) ⟨by rw [h3']; rfl, fun h => absurd rfl h⟩
      · rintro ⟨k, n⟩ u3 hu3 ⟨n1, n2⟩
        refine x_cut (σ := Int × Int) (fun (k, n) => ⟨[(9, .v (.int .i64 n)), (8, .v (.int .i64 k)), (7, .v (.bool sp)), (6, .v (.int .i64 i)), (5, .r 3), (4, .r 1), (0, .v (.string s))], [], [(3, .row 9 (strY.d W)), (1, .row 31 (tokY.d T))], 4⟩)
          (fun (k, n) _ => ((if hdrW W = true then (Lx.hdrN (tl s i) : Int) else 0) ≠ 0 ∧ k = 7 ∧ n = (if hdrW W = true then (Lx.hdrN (tl s i) : Int) else 0)) ∨ ((if hdrW W = true then (Lx.hdrN (tl s i) : Int) else 0) = 0 ∧ k = 8 ∧ n = Lx.remR (tl s i)))
          (fun (_, _) => Nat.le_refl 4) ?_ ?_
        · refine x_vc tt_ok ?_
          refine x_if (fun h3 => ?_) (fun h3 => ?_)
          · have h3 := of_decide_eq_true h3
            repeat (refine And.intro ?_ ?_; first | omega | (simp only [Lay.d_n]; omega) | (simp only [decide_eq_true_eq, decide_eq_false_iff_not, Bool.or_eq_false_iff, Bool.and_eq_true, Bool.or_eq_true, Bool.and_eq_false_iff, Bool.not_eq_true', Bool.not_eq_false', Lay.d_n]; omega) | (simp only [decide_eq_true_eq, decide_eq_false_iff_not, Bool.or_eq_false_iff, Bool.and_eq_true, Bool.or_eq_true, Bool.and_eq_false_iff, Bool.not_eq_true', Bool.not_eq_false']; omega))
            refine xl_call0 (.int .i64 (Lx.remR (tl s i))) rfl rfl rfl rfl fn136 rfl rfl (fun E w F _ => by rw [← hbr]; exact remark_any _ (by omega) (by omega) w) ?_
            refine xl_go tt_ok ?_
            exact meet (8, Lx.remR (tl s i)) [] (.of rfl rfl rfl rfl rfl rfl) (.inr ⟨by rw [← n1]; exact h3, rfl, rfl⟩)
          · have h3 := of_decide_eq_false h3
            exact meet (k, n) [] (.of rfl rfl rfl rfl rfl rfl) (.inl ⟨by rw [← n1]; exact h3, n2 h3, n1⟩)
        · clear n1 n2
          rintro ⟨k, n⟩ u4 hu4 hn
          replace hn : ((if hdrW W = true then (Lx.hdrN (tl s i) : Int) else 0) ≠ 0 ∧ k = 7 ∧ n = (if hdrW W = true then (Lx.hdrN (tl s i) : Int) else 0)) ∨ ((if hdrW W = true then (Lx.hdrN (tl s i) : Int) else 0) = 0 ∧ k = 8 ∧ n = Lx.remR (tl s i)) := hn
          unfold Lx.itemR at hitm
          simp only at hitm
          generalize hn0 : (if hdrW W = true then (Lx.hdrN (tl s i) : Int) else 0) = n0 at hn hitm
          have hn0' : 0 ≤ n0 := by rw [← hn0]; split <;> omega
          clear hn0
          have hnil : ∀ e : Int, (itm s st i).err = e → e ≠ 0 → rErr s = e ∧ rToks s = [] := by
            intro e he1 he2
            rw [if_pos (by rw [he1]; exact he2)] at g7
            have : rErr s = e := by
              rw [g7, errT, if_pos (by rw [he1]; exact he2)]; exact he1
            exact ⟨this, by rw [rToks, if_neg (by rw [this]; exact he2)]⟩
          refine x_seq ?_
          refine x_vc tt_ok ?_
          refine x_if (fun h3 => ?_) (fun h3 => ?_)
          · have h3 := of_decide_eq_true h3
            obtain ⟨e1, e2⟩ := hnil 20 (by
              rcases hn with ⟨b1, b2, b3⟩ | ⟨b1, b2, b3⟩
              · omega
              · rw [hitm, if_neg (by simpa using b1), if_pos (by omega)]) (by decide)
            rw [e1, e2]
            exact finO2n tokY
          · have h3 := of_decide_eq_false h3
            refine x_cut (σ := Int × Int) (fun (k, n) => ⟨[(9, .v (.int .i64 n)), (8, .v (.int .i64 k)), (7, .v (.bool sp)), (6, .v (.int .i64 i)), (5, .r 3), (4, .r 1), (0, .v (.string s))], [], [(3, .row 9 (strY.d W)), (1, .row 31 (tokY.d T))], 4⟩)
              (fun (k, n) _ => 0 ≤ n ∧ (n = 0 → itm s st i = ⟨0, 0, 21⟩) ∧ (n ≠ 0 → itm s st i = ⟨k, n.toNat, 0⟩))
              (fun (_, _) => Nat.le_refl 4) ?_ ?_
            · refine x_vc tt_ok ?_
              refine x_if (fun h4 => ?_) (fun h4 => ?_)
              · have h4 := of_decide_eq_true h4
                repeat (refine And.intro ?_ ?_; first | omega | (simp only [Lay.d_n]; omega) | (simp only [decide_eq_true_eq, decide_eq_false_iff_not, Bool.or_eq_false_iff, Bool.and_eq_true, Bool.or_eq_true, Bool.and_eq_false_iff, Bool.not_eq_true', Bool.not_eq_false', Lay.d_n]; omega) | (simp only [decide_eq_true_eq, decide_eq_false_iff_not, Bool.or_eq_false_iff, Bool.and_eq_true, Bool.or_eq_true, Bool.and_eq_false_iff, Bool.not_eq_true', Bool.not_eq_false']; omega))
                refine xl_call0 (.tuple #[.int .i64 (Lx.longR (tl s i)).1, .int .i64 (Lx.longR (tl s i)).2]) rfl rfl rfl rfl fn137 rfl rfl (fun E w F _ => by rw [← hbr]; exact longR_any _ (by omega) (by omega) w) ?_
                refine xl_go tt_ok ?_
                refine meet ((Lx.longR (tl s i)).1, ((Lx.longR (tl s i)).2 : Int)) [] (.of rfl rfl rfl rfl rfl rfl) ⟨by omega, fun h5 => ?_, fun h5 => ?_⟩
                · rcases hn with ⟨b1, b2, b3⟩ | ⟨b1, b2, b3⟩
                  · omega
                  · rw [hitm, if_neg (by simpa using b1), if_neg (by omega), if_neg (by omega), if_pos (by omega)]
                · rcases hn with ⟨b1, b2, b3⟩ | ⟨b1, b2, b3⟩
                  · omega
                  · rw [hitm, if_neg (by simpa using b1), if_neg (by omega), if_neg (by omega), if_neg (by omega)]
                    simp
              · have h4 := of_decide_eq_false h4
                refine meet (k, n) [] (.of rfl rfl rfl rfl rfl rfl) ⟨by omega, fun h5 => absurd h5 h4, fun _ => ?_⟩
                rcases hn with ⟨b1, b2, b3⟩ | ⟨b1, b2, b3⟩
                · rw [hitm, if_pos b1, b2, b3]
                · rw [hitm, if_neg (by simpa using b1), if_neg (by omega), if_pos (by omega), b2, b3]
            · clear hn h3 hitm
              rintro ⟨k, n⟩ u5 hu5 ⟨c0, c1, c2⟩
              refine x_seq ?_
              refine x_vc tt_ok ?_
              refine x_if (fun h3 => ?_) (fun h3 => ?_)
              · have h3 := of_decide_eq_true h3
                obtain ⟨e1, e2⟩ := hnil 21 (by rw [c1 h3]) (by decide)
                rw [e1, e2]
                exact finO2n tokY
              · have h3 := of_decide_eq_false h3
                have hI := c2 h3
                have hle := itm_le g1 hi (by rw [hI])
                rw [hI] at hle
                have hle : 1 ≤ n.toNat ∧ i + (n.toNat : Int) ≤ s.size := hle
                have hnn : (n.toNat : Int) = n := Int.toNat_of_nonneg c0
                rw [hnn] at hle
                have e7 : rErr s = errT (rtA s (Lx.after st k ((tl s i).take n.toNat)) false (i + n)) := by
                  rw [g7, if_neg (by rw [hI]; simp), errT, if_neg (by simp), hI]
                  simp only
                  rw [hnn]
                have e8 : rErr s = 0 → rToks s = (T ++ [(⟨k, sub s i (i + n), i, i + n, sp⟩ : Tok)]) ++ (rtA s (Lx.after st k ((tl s i).take n.toNat)) false (i + n)).map (tokT s) := by
                  intro h0
                  rw [g8 h0, if_neg (by rw [hI]; simp), List.map_cons, hI, List.append_assoc]
                  simp only [tokT, List.cons_append, List.nil_append]
                  rw [hnn, show ((i.toNat : Nat) : Int) = i by omega, show ((i.toNat + n.toNat : Nat) : Int) = i + n by omega]
                have hkd : (itm s st i).kind = k := by rw [hI]
                have hln : (itm s st i).len = n.toNat := by rw [hI]
                clear g7 g8 hnil c1 c2
                refine x_seq ?_
                refine x_vc tt_ok ?_
                repeat (refine And.intro ?_ ?_; first | omega | (simp only [Lay.d_n]; omega) | (simp only [decide_eq_true_eq, decide_eq_false_iff_not, Bool.or_eq_false_iff, Bool.and_eq_true, Bool.or_eq_true, Bool.and_eq_false_iff, Bool.not_eq_true', Bool.not_eq_false', Lay.d_n]; omega) | (simp only [decide_eq_true_eq, decide_eq_false_iff_not, Bool.or_eq_false_iff, Bool.and_eq_true, Bool.or_eq_true, Bool.and_eq_false_iff, Bool.not_eq_true', Bool.not_eq_false']; omega))
                refine xl_push tt_ok tokY T ⟨k, sub s i (i + n), i, i + n, sp⟩ 48 rfl rfl rfl rfl rfl rfl rfl rfl rfl rfl rfl rfl (by kernel_rfl) rfl rfl rfl rfl rfl (fun n hn => by cases hn; decide) rfl rfl rfl (by omega) (by omega) ?_
                refine xl_go tt_ok ?_
                have hT' : ((T ++ [(⟨k, sub s i (i + n), i, i + n, sp⟩ : Tok)]).length : Int) ≤ i + n := by
                  rw [List.length_append]; simp only [List.length_cons, List.length_nil]; omega
                refine x_vc tt_ok ?_
                refine x_if (fun h4 => ?_) (fun h4 => ?_)
                · have h4 := of_decide_eq_true h4
                  repeat (refine And.intro ?_ ?_; first | omega | (simp only [Lay.d_n]; omega) | (simp only [decide_eq_true_eq, decide_eq_false_iff_not, Bool.or_eq_false_iff, Bool.and_eq_true, Bool.or_eq_true, Bool.and_eq_false_iff, Bool.not_eq_true', Bool.not_eq_false', Lay.d_n]; omega) | (simp only [decide_eq_true_eq, decide_eq_false_iff_not, Bool.or_eq_false_iff, Bool.and_eq_true, Bool.or_eq_true, Bool.and_eq_false_iff, Bool.not_eq_true', Bool.not_eq_false']; omega))
                  have ha : Lx.after st k ((tl s i).take n.toNat) = 0 := by
                    unfold Lx.after; rw [if_neg (by omega), if_pos h4]
                  rw [ha] at e7 e8
                  exact again (i + n, false, T ++ [(⟨k, sub s i (i + n), i, i + n, sp⟩ : Tok)], false, [], 0) [(1, some 4)] (.of rfl rfl rfl rfl rfl rfl) ⟨by omega, by omega, hT', by simp; omega, (fun _ => rfl), rfl, e7, e8⟩ (by simp only; omega)
                · have h4 := of_decide_eq_false h4
                  refine x_if (fun h5 => ?_) (fun h5 => ?_)
                  · have h5 := of_decide_eq_true h5
                    have hR := g6.step g1 hi h (by rw [hI]) (by rw [hkd]; exact h5) (by rw [hkd]; exact h4)
                    rw [hkd, hln, hnn] at hR
                    repeat (refine And.intro ?_ ?_; first | omega | (simp only [Lay.d_n]; omega) | (simp only [decide_eq_true_eq, decide_eq_false_iff_not, Bool.or_eq_false_iff, Bool.and_eq_true, Bool.or_eq_true, Bool.and_eq_false_iff, Bool.not_eq_true', Bool.not_eq_false', Lay.d_n]; omega) | (simp only [decide_eq_true_eq, decide_eq_false_iff_not, Bool.or_eq_false_iff, Bool.and_eq_true, Bool.or_eq_true, Bool.and_eq_false_iff, Bool.not_eq_true', Bool.not_eq_false']; omega))
                    refine xl_push tt_ok strY W (sub s i (i + n)) 16 rfl rfl rfl rfl rfl rfl rfl rfl rfl rfl rfl rfl (by kernel_rfl) rfl rfl rfl rfl rfl (fun n hn => by cases hn; decide) rfl rfl rfl (by omega) (by omega) ?_
                    refine xl_go tt_ok ?_
                    repeat (refine And.intro ?_ ?_; first | omega | (simp only [Lay.d_n]; omega) | (simp only [decide_eq_true_eq, decide_eq_false_iff_not, Bool.or_eq_false_iff, Bool.and_eq_true, Bool.or_eq_true, Bool.and_eq_false_iff, Bool.not_eq_true', Bool.not_eq_false', Lay.d_n]; omega) | (simp only [decide_eq_true_eq, decide_eq_false_iff_not, Bool.or_eq_false_iff, Bool.and_eq_true, Bool.or_eq_true, Bool.and_eq_false_iff, Bool.not_eq_true', Bool.not_eq_false']; omega))
                    exact again (i + n, false, T ++ [(⟨k, sub s i (i + n), i, i + n, sp⟩ : Tok)], true, W ++ [sub s i (i + n)], Lx.after st k ((tl s i).take n.toNat)) [(1, some 4), (2, some 5)] (.of rfl rfl rfl rfl rfl rfl)
                      ⟨by omega, by omega, hT', by rw [List.length_append]; simp only [List.length_cons, List.length_nil]; omega, (fun h => by cases h), hR, e7, e8⟩ (by simp only; omega)
                  · have h5 : k = 8 := Classical.not_not.1 (of_decide_eq_false h5)
                    repeat (refine And.intro ?_ ?_; first | omega | (simp only [Lay.d_n]; omega) | (simp only [decide_eq_true_eq, decide_eq_false_iff_not, Bool.or_eq_false_iff, Bool.and_eq_true, Bool.or_eq_true, Bool.and_eq_false_iff, Bool.not_eq_true', Bool.not_eq_false', Lay.d_n]; omega) | (simp only [decide_eq_true_eq, decide_eq_false_iff_not, Bool.or_eq_false_iff, Bool.and_eq_true, Bool.or_eq_true, Bool.and_eq_false_iff, Bool.not_eq_true', Bool.not_eq_false']; omega))
                    have ha : Lx.after st k ((tl s i).take n.toNat) = st := by
                      unfold Lx.after; rw [if_pos h5]
                    rw [ha] at e7 e8
                    exact again (i + n, false, T ++ [(⟨k, sub s i (i + n), i, i + n, sp⟩ : Tok)], true, W, st) [(1, some 4), (2, some 3)] (.of rfl rfl rfl rfl rfl rfl) ⟨by omega, by omega, hT', by omega, (fun h => by cases h), g6, e7, e8⟩ (by simp only; omega)
end Go.Proofs.Ytdonomneofdhfaa
