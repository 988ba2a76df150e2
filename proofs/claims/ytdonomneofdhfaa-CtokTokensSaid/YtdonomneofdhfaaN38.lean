/- CtokTokens: the walk. -/
import Derived.Test.YtdonomneofdhfaaN37
import Derived.Test.YtdonomneofdhfaaL5
namespace Go.Proofs.Ytdonomneofdhfaa
open Go.GV Go.RowKit

theorem ctEq {a b : CT} : (decide (a.1 = b.1) && (decide (a.2 = b.2) && true)) = true ↔ a = b := by
  obtain ⟨a1, a2⟩ := a; obtain ⟨b1, b2⟩ := b; simp

set_option maxRecDepth 100000 in
theorem sameC_any (L : List CT) (x y : Value) (w : World) (hx : SlAt (im w) x (ctY.d L)) (hy : SlAt (im w) y (ctY.d L)) (hL : L.length ≤ 9223372036854775807) :
    Calls Try.prog 75 #[x, y] w (PureP w fun v _ => v = .bool true) := by
  refine x_fun tt_ok Try.func75 rfl rfl [(x, ctY.d L), (y, ctY.d L)] 2 [.r 0, .r 1] rfl rfl rfl rfl (fun b hb => by simp at hb; rcases hb with rfl | rfl <;> assumption) ?_
  refine x_vc tt_ok ?_
  refine x_if (fun h => ?_) (fun h => ?_)
  · have h' : ¬ ((L.length : Int) = L.length) := of_decide_eq_true h
    exact absurd rfl h'
  · refine x_loop (σ := Int) (fun i => ⟨[(5, .v (.int .i64 i)), (0, .r 0), (1, .r 1)], [], [(0, .sl (ctY.d L)), (1, .sl (ctY.d L))], 2⟩)
      (fun i _ => 0 ≤ i ∧ i ≤ L.length) (fun i => (L.length - i).toNat) (fun _ => Nat.le_refl _) 0 [] (.of rfl rfl rfl rfl rfl rfl) ⟨by omega, by omega⟩ ?_
    rintro i u hu ⟨g1, g2⟩
    refine x_vc tt_ok ?_
    refine x_if (fun h => ?_) (fun h => ?_)
    · have h2 : i < L.length := of_decide_eq_true h
      refine x_draw mix (by kernel_rfl) (xd_go tt_ok ?_)
      repeat (refine And.intro ?_ ?_; first | omega | (simp [Lay.d] <;> omega))
      refine x_if (fun h3 => ?_) (fun h3 => ?_)
      · have := ctEq.2 (show L.getD i.toNat ctY.dft = L.getD i.toNat ctY.dft from rfl)
        rw [Bool.not_eq_true'] at h3
        exact absurd (h3.symm.trans this) (by simp)
      · repeat (refine And.intro ?_ ?_; first | omega | (simp [Lay.d] <;> omega))
        exact again (i + 1) [] (.of rfl rfl rfl rfl rfl rfl) ⟨by omega, by omega⟩ (by omega)
    · exact fin1 (fun _ _ => rfl)

set_option maxRecDepth 100000 in
theorem ctokTokens_any (L : List Tok) (x : Value) (w : World) (hx : SlAt (im w) x (tokY.d L)) (hL : L.length * 48 ≤ 140737488351232) (hg : Glob (im w)) :
    Calls Try.prog 18 #[x] w (PureP w fun v _ => v = .bool true) := by
  refine x_fun tt_ok Try.func18 rfl rfl [(x, tokY.d L)] 1 [.r 0] rfl rfl rfl rfl (fun b hb => by simp at hb; subst hb; exact hx) ?_
  refine x_vc tt_ok ?_
  refine x_loop (σ := Int) (fun i => ⟨[(3, .v (.int .i64 i)), (0, .r 0)], [], [(0, .sl (tokY.d L))], 1⟩)
    (fun i _ => 0 ≤ i ∧ i ≤ L.length ∧ ∀ t ∈ L.take i.toNat, t.text.size ≤ 1000) (fun i => (L.length - i).toNat) (fun _ => Nat.le_refl _) 0 [] (.of rfl rfl rfl rfl rfl rfl) ⟨by omega, by omega, by simp⟩ ?_
  rintro i u hu ⟨g1, g2, g3⟩
  refine x_vc tt_ok ?_
  refine x_if (fun h => ?_) (fun h => ?_)
  · have h2 : i < L.length := of_decide_eq_true h
    obtain ⟨hm, hi⟩ := getD_mem (L := L) (i := i.toNat) (d := tokY.dft) (by omega)
    repeat (refine And.intro ?_ ?_; first | omega | (simp only [Lay.d_n]; omega) | (simp only [decide_eq_true_eq, decide_eq_false_iff_not, Bool.or_eq_false_iff, Bool.and_eq_true, Bool.or_eq_true, Bool.and_eq_false_iff, Bool.not_eq_true', Bool.not_eq_false', Lay.d_n]; omega) | (simp only [decide_eq_true_eq, decide_eq_false_iff_not, Bool.or_eq_false_iff, Bool.and_eq_true, Bool.or_eq_true, Bool.and_eq_false_iff, Bool.not_eq_true', Bool.not_eq_false']; omega))
    refine x_if (fun h3 => ?_) (fun h3 => ?_)
    · exact fin1 (fun _ _ => rfl)
    · have h3 : ¬ 1000 < ((L.getD i.toNat tokY.dft).text.size : Int) := of_decide_eq_false h3
      repeat (refine And.intro ?_ ?_; first | omega | (simp only [Lay.d_n]; omega) | (simp only [decide_eq_true_eq, decide_eq_false_iff_not, Bool.or_eq_false_iff, Bool.and_eq_true, Bool.or_eq_true, Bool.and_eq_false_iff, Bool.not_eq_true', Bool.not_eq_false', Lay.d_n]; omega) | (simp only [decide_eq_true_eq, decide_eq_false_iff_not, Bool.or_eq_false_iff, Bool.and_eq_true, Bool.or_eq_true, Bool.and_eq_false_iff, Bool.not_eq_true', Bool.not_eq_false']; omega))
      refine again (i + 1) [] (.of rfl rfl rfl rfl rfl rfl) ⟨by omega, by omega, ?_⟩ (by omega)
      rw [show (i + 1).toNat = i.toNat + 1 by omega, take_get hi]
      intro t ht
      rcases List.mem_append.1 ht with ht | ht
      · exact g3 t ht
      · rw [List.mem_singleton.1 ht]; omega
  · have h : ¬ i < L.length := of_decide_eq_false h
    rw [List.take_of_length_le (by omega)] at g3
    have hT : ∀ t ∈ L, t.text.size ≤ 4294967280 := fun t ht => by have := g3 t ht; omega
    clear g3
    refine xl_empty tt_ok tokY rfl rfl rfl rfl rfl rfl rfl ?_
    refine xl_go tt_ok ?_
    refine xl_append tt_ok tokY [] L 48 rfl rfl rfl rfl rfl rfl rfl rfl (by kernel_rfl) rfl rfl rfl (fun E w F hs => hs.slAt (k := 0) rfl) tokOne rfl (by simp; omega) (by simp; omega) ?_
    refine xl_go tt_ok ?_
    have hbl := bareFrom_le false L
    obtain ⟨A, hA⟩ : ∃ A, A = ctL (bareFrom false L) := ⟨_, rfl⟩
    obtain ⟨z1, hz1⟩ : ∃ z, z = ctI (bareFrom false L) := ⟨_, rfl⟩
    obtain ⟨z2, hz2⟩ : ∃ z, z = ctE (bareFrom false L) := ⟨_, rfl⟩
    have hAl : A.length ≤ L.length := by
      rw [hA]; unfold ctL
      split
      · unfold outC; rw [List.length_map]; exact hbl
      · simp
    refine xl_callO2 86 (ctY.d A) [.int .i64 z1, .int .i64 z2] rfl rfl rfl rfl fn73 rfl rfl (fun E w F hs => by rw [hA, hz1, hz2]; exact tokensC_any L _ w (hs.rowAt (k := 2) rfl) (by omega) hT ((hg.sub hu.sub).imm hs.imm)) ?_
    refine xl_go tt_ok ?_
    refine xl_callO2 86 (ctY.d A) [.int .i64 z1, .int .i64 z2] rfl rfl rfl rfl fn74 rfl rfl (fun E w F hs => by rw [hA, hz1, hz2]; exact tokensR_any L _ w (hs.slAt (k := 0) rfl) (by omega) hT) ?_
    refine xl_go tt_ok ?_
    refine xl_call0 (.bool true) rfl rfl rfl rfl fn75 rfl rfl (fun E w F hs => sameC_any A _ _ w (hs.rowAt (k := 3) rfl) (hs.rowAt (k := 4) rfl) (by omega)) ?_
    refine xl_go tt_ok ?_
    refine x_if (fun h3 => ?_) (fun h3 => ?_)
    · simp at h3
    · refine x_loop (σ := Int × List CT) (fun (i, M) => ⟨[(11, .v (.int .i64 i)), (5, .r 3), (4, .r 2), (0, .r 0)], [], [(0, .sl (tokY.d L)), (2, .row 31 (tokY.d L)), (3, .row 86 (ctY.d M))], 5⟩)
        (fun (i, M) _ => 0 ≤ i ∧ i ≤ M.length ∧ M.length = A.length) (fun (i, M) => (M.length - i).toNat) (fun (_, _) => Nat.le_refl _) (0, A) [] (.of rfl rfl rfl rfl rfl rfl) ⟨by omega, by omega, rfl⟩ ?_
      rintro ⟨i, M⟩ u2 hu2 ⟨k1, k2, k3⟩
      refine x_vc tt_ok ?_
      refine x_if (fun h4 => ?_) (fun h4 => ?_)
      · have h4 : i < M.length := of_decide_eq_true h4
        repeat (refine And.intro ?_ ?_; first | omega | (simp only [Lay.d_n]; omega) | (simp only [decide_eq_true_eq, decide_eq_false_iff_not, Bool.or_eq_false_iff, Bool.and_eq_true, Bool.or_eq_true, Bool.and_eq_false_iff, Bool.not_eq_true', Bool.not_eq_false', Lay.d_n]; omega) | (simp only [decide_eq_true_eq, decide_eq_false_iff_not, Bool.or_eq_false_iff, Bool.and_eq_true, Bool.or_eq_true, Bool.and_eq_false_iff, Bool.not_eq_true', Bool.not_eq_false']; omega))
        refine xl_set tt_ok ctY M (0, ⟨#[]⟩) (cs := [.int .i64 0, .string ⟨#[]⟩]) rfl rfl rfl rfl rfl rfl rfl k1 h4 rfl rfl (Nat.le_refl 2) rfl ?_
        refine xl_go tt_ok ?_
        repeat (refine And.intro ?_ ?_; first | omega | (simp only [Lay.d_n]; omega) | (simp only [decide_eq_true_eq, decide_eq_false_iff_not, Bool.or_eq_false_iff, Bool.and_eq_true, Bool.or_eq_true, Bool.and_eq_false_iff, Bool.not_eq_true', Bool.not_eq_false', Lay.d_n]; omega) | (simp only [decide_eq_true_eq, decide_eq_false_iff_not, Bool.or_eq_false_iff, Bool.and_eq_true, Bool.or_eq_true, Bool.and_eq_false_iff, Bool.not_eq_true', Bool.not_eq_false']; omega))
        refine again (i + 1, M.set i.toNat (0, ⟨#[]⟩)) [] (.of rfl rfl rfl rfl rfl rfl) ⟨by omega, ?_, ?_⟩ (by simp only [List.length_set]; omega)
        · rw [List.length_set]; omega
        · rw [List.length_set]; exact k3
      · refine xl_call0 (.bool true) rfl rfl rfl rfl fn28 rfl rfl (fun E w F hs => same_refl L _ _ w (hs.rowAt (k := 2) rfl) (hs.slAt (k := 0) rfl) (by omega)) ?_
        refine xl_go tt_ok ?_
        exact fin1 (fun _ _ => rfl)
end Go.Proofs.Ytdonomneofdhfaa
