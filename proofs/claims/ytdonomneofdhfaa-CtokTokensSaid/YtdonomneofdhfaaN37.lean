/- The document's Tokens of chapter 04. -/
import Derived.Test.YtdonomneofdhfaaN26
import Derived.Test.YtdonomneofdhfaaB2
import Derived.Test.YtdonomneofdhfaaGA
namespace Go.Proofs.Ytdonomneofdhfaa
open Go.GV Go.RowKit

set_option maxRecDepth 100000 in
theorem tokensR_any (L : List Tok) (x : Value) (w : World) (hx : SlAt (im w) x (tokY.d L)) (hL : L.length * 48 ≤ 140737488355328) (hT : ∀ t ∈ L, t.text.size ≤ 4294967280) :
    Calls Try.prog 74 #[x] w (PureP w (OwnT 86 (ctY.d (ctL (bareFrom false L))) [.int .i64 (ctI (bareFrom false L)), .int .i64 (ctE (bareFrom false L))])) := by
  have hbl := bareFrom_le false L
  have hbt := bare_text (fun t => t.size ≤ 4294967280) L false hT
  refine x_fun tt_ok Try.func74 rfl rfl [(x, tokY.d L)] 1 [.r 0] rfl rfl rfl rfl (fun b hb => by simp at hb; subst hb; exact hx) ?_
  refine x_vc tt_ok ?_
  refine xl_callO 31 (tokY.d (bareFrom false L)) rfl rfl rfl rfl fn86 rfl rfl (fun E w F hs => refBare_any L _ w (hs.slAt (k := 0) rfl) hL) ?_
  refine xl_go tt_ok ?_
  generalize bareFrom false L = b at *
  refine x_nil 6 86 ctY rfl ?_
  refine x_loop (σ := Int × List CT) (fun (i, O) => ⟨[(7, .v (.int .i64 i)), (6, .r 3), (5, .r 1)], [], [(1, .row 31 (tokY.d b)), (3, .row 86 (ctY.d O))], 4⟩)
    (fun (i, O) _ => 0 ≤ i ∧ i ≤ b.length ∧ O = outC (b.take i.toNat) ∧ tokAll (b.take i.toNat) = true) (fun (i, _) => (b.length - i).toNat) (fun (_, _) => by simp only; omega) (0, []) [(3, some 2)] (.of rfl rfl rfl rfl rfl rfl)
    ⟨by omega, by omega, rfl, rfl⟩ ?_
  rintro ⟨i, O⟩ u hu ⟨g1, g2, g3, g4⟩
  refine x_vc tt_ok ?_
  refine x_if (fun h => ?_) (fun h => ?_)
  · have h : i < b.length := of_decide_eq_true h
    obtain ⟨hm, hi⟩ := getD_mem (L := b) (i := i.toNat) (d := tokY.dft) (by omega)
    have hsz := hbt _ hm
    have hOl : O.length ≤ i.toNat := by rw [g3]; unfold outC; rw [List.length_map, List.length_take]; omega
    obtain ⟨t, ht⟩ : ∃ t, t = b.getD i.toNat tokY.dft := ⟨_, rfl⟩
    refine x_drawA mix ?_
    refine xa_pures tt_ok (fuel := 13) [0, 1, 5, 6] rfl (by kernel_rfl) (by kernel_rfl) (fun _ _ _ hh => hh) (by kernel_rfl) (by kernel_rfl) ?_
    refine xa_alloc tt_ok (fuel := 4) 14 [2, 3, 4, 7, 8, 9, 10, 11] rfl rfl rfl rfl rfl rfl (by kernel_rfl) (by kernel_rfl) (by kernel_rfl) (by kernel_rfl) (by kernel_rfl) (by kernel_rfl) rfl ?_
    refine xs_go tt_ok ?_
    repeat (refine And.intro ?_ ?_; first | omega | (simp only [Lay.d_n]; omega) | (simp only [decide_eq_true_eq, decide_eq_false_iff_not, Bool.or_eq_false_iff, Bool.and_eq_true, Bool.or_eq_true, Bool.and_eq_false_iff, Bool.not_eq_true', Bool.not_eq_false', Lay.d_n]; omega) | (simp only [decide_eq_true_eq, decide_eq_false_iff_not, Bool.or_eq_false_iff, Bool.and_eq_true, Bool.or_eq_true, Bool.and_eq_false_iff, Bool.not_eq_true', Bool.not_eq_false']; omega))
    refine xs_call0 (.tuple #[.agg #[.int .i64 (clsA t.kind t.text).1, .string (clsA t.kind t.text).2], .int .i64 (clsE t.kind t.text)]) rfl rfl rfl rfl fn62 rfl rfl
      (fun _ u' _ E w F _ => by rw [ht]; exact classR_any (b.getD i.toNat tokY.dft).kind (b.getD i.toNat tokY.dft).text w hsz) ?_
    refine xs_go tt_ok ?_
    refine ⟨rfl, ?_, ?_⟩
    rotate_left
    refine xa_pures tt_ok (fuel := 3) [12, 13] rfl (by kernel_rfl) (by kernel_rfl) (fun _ _ _ hh => hh) (by kernel_rfl) (by kernel_rfl) ?_
    refine xa_chain (fuel := 0) [14, 15, 16] rfl (by kernel_rfl) (by kernel_rfl) ?_
    refine xl_go tt_ok ?_
    refine xa_done (by kernel_rfl) rfl ?_
    rotate_left
    refine xa_pures tt_ok (fuel := 2) [12, 13] rfl (by kernel_rfl) (by kernel_rfl) (fun _ _ _ hh => hh) (by kernel_rfl) (by kernel_rfl) ?_
    refine xa_chain (fuel := 0) [15, 16] rfl (by kernel_rfl) (by kernel_rfl) ?_
    refine xl_go tt_ok ?_
    refine xa_done (by kernel_rfl) rfl ?_
    all_goals
      refine x_if (fun h2 => ?_) (fun h2 => ?_)
      · have h2 : clsE t.kind t.text ≠ 0 := of_decide_eq_true h2
        rw [← ht] at hi
        obtain ⟨e1, e2⟩ := tok_bad hi g4 (show okC t = false from decide_eq_false h2)
        have e3 : ctL b = [] := by unfold ctL; rw [if_neg (by rw [e1]; simp)]
        have e4 : ctI b = i := by unfold ctI; rw [if_neg (by rw [e1]; simp), e2]; omega
        have e5 : ctE b = clsE t.kind t.text := by
          unfold ctE; rw [if_neg (by rw [e1]; simp)]
          rcases clsE_two t.kind t.text with h3 | h3
          · exact absurd h3 h2
          · rw [h3]
        rw [e3, e4, e5]
        exact finO3n ctY
      · have h2 : clsE t.kind t.text = 0 := Classical.not_not.1 (of_decide_eq_false h2)
        rw [← ht] at hi
        obtain ⟨e1, e2⟩ := tok_next hi g4 (show okC t = true from decide_eq_true h2)
        refine xl_push tt_ok ctY O (clsA t.kind t.text) 24 rfl rfl rfl rfl rfl rfl rfl rfl rfl rfl rfl rfl (by kernel_rfl) rfl rfl rfl rfl rfl (fun n hn => by cases hn; decide) rfl rfl rfl (by omega) (by omega) ?_
        refine xl_go tt_ok ?_
        repeat (refine And.intro ?_ ?_; first | omega | (simp only [Lay.d_n]; omega) | (simp only [decide_eq_true_eq, decide_eq_false_iff_not, Bool.or_eq_false_iff, Bool.and_eq_true, Bool.or_eq_true, Bool.and_eq_false_iff, Bool.not_eq_true', Bool.not_eq_false', Lay.d_n]; omega) | (simp only [decide_eq_true_eq, decide_eq_false_iff_not, Bool.or_eq_false_iff, Bool.and_eq_true, Bool.or_eq_true, Bool.and_eq_false_iff, Bool.not_eq_true', Bool.not_eq_false']; omega))
        refine again (i + 1, O ++ [clsA t.kind t.text]) [(3, some 5)] (.of rfl rfl rfl rfl rfl rfl) ⟨by omega, by omega, ?_, ?_⟩ (by simp only; omega)
        · rw [show (i + 1).toNat = i.toNat + 1 by omega, e2, g3]
        · rw [show (i + 1).toNat = i.toNat + 1 by omega]; exact e1
  · have h : ¬ i < b.length := of_decide_eq_false h
    rw [List.take_of_length_le (by omega)] at g3 g4
    have e3 : ctL b = O := by unfold ctL; rw [if_pos g4, g3]
    have e4 : ctI b = 0 := by unfold ctI; rw [if_pos g4]
    have e5 : ctE b = 0 := by unfold ctE; rw [if_pos g4]
    rw [e3, e4, e5]
    exact finO3 rfl
end Go.Proofs.Ytdonomneofdhfaa
