/- LinesWhole: the walk. -/
import Derived.Test.YtdonomneofdhfaaJ2
import Derived.Test.YtdonomneofdhfaaV1
import Derived.Test.YtdonomneofdhfaaGB
namespace Go.Proofs.Ytdonomneofdhfaa
open Go.GV Go.RowKit

/-- the tokens of the rows so far -/
def preR (R : List RowT) (n : Nat) : List Tok := ((R.take n).map RowT.ts).flatten
theorem preR_next {R : List RowT} {n : Nat} (h : n < R.length) : preR R (n + 1) = preR R n ++ (R.getD n rowT0).ts := by
  unfold preR
  rw [take_get (List.getElem?_eq_getElem h), List.map_append, List.flatten_append, List.getD_eq_getElem?_getD, List.getElem?_eq_getElem h]
  simp
theorem preR_len {R : List RowT} (n : Nat) : (preR R n).length ≤ ((R.map RowT.ts).flatten).length := by
  conv => rhs; rw [← List.take_append_drop n R, List.map_append, List.flatten_append]
  rw [List.length_append]; unfold preR; omega

set_option maxRecDepth 100000 in
theorem linesWhole_any (L : List Tok) (x : Value) (w : World) (hx : SlAt (im w) x (tokY.d L)) (hL : L.length * 48 ≤ 140737488351232) (hg : Glob (im w)) :
    Calls Try.prog 10 #[x] w (PureP w fun v _ => v = .bool true) := by
  obtain ⟨q1, q2, q3⟩ := rowsOf_good L
  obtain ⟨hz1, hz2⟩ := rowsOf_size L
  have hr := fun (A : Option Addr) (c : Nat) (w : World) (h : SlAt (im w) (.slice A L.length c) (tokY.d L)) => rows_any L A c w h (by omega)
  generalize rowsOf L = R at q1 q2 q3 hz1 hz2 hr
  refine x_fun tt_ok Try.func10 rfl rfl [(x, tokY.d L)] 1 [.r 0] rfl rfl rfl rfl (fun b hb => by simp at hb; subst hb; exact hx) ?_
  refine x_vc tt_ok ?_
  refine xl_call0 (.bool true) rfl rfl rfl rfl fn48 rfl rfl (fun E w F hs => linesAlive_any w (hg.imm hs.imm)) ?_
  refine xl_go tt_ok ?_
  refine xl_callStar (fun (s : Option Addr × Nat × List RowV) => .slice s.1 R.length s.2.1) (fun s => itemsS s.2.2 R ++ [(⟨.slice s.1 R.length s.2.1, 28, rowY.d s.2.2⟩ : SI)]) (fun s => s.2.2.map RowV.key = R.map RowT.key) rfl rfl rfl rfl fn23 rfl rfl
    (fun E w F hs => by
      have h1 := hs.slAt (k := 0) rfl
      obtain ⟨A, c, hv⟩ := h1.form
      show Calls Try.prog 23 #[E 0] w _
      rw [hv] at h1 ⊢
      exact hr A c w h1) (fun s hk => ?_)
  obtain ⟨A, c, V⟩ := s
  replace hk : V.map RowV.key = R.map RowT.key := hk
  have hVR : V.length = R.length := by have := congrArg List.length hk; simpa using this
  refine xl_freezeStar 1 rfl (fun u1 hu1 hfr => ?_)
  have hT : ToksAt u1 V (R.map RowT.ts) := star_toks hVR (fun p hp => (hfr p (List.mem_append_left _ hp)).1)
  have hxV : SlAt u1 (.slice A R.length c) (rowY.d V) := (hfr _ (List.mem_append_right _ (List.mem_singleton.2 rfl))).1
  refine xl_sl 10 rfl hxV ?_
  refine xl_go tt_ok ?_
  have htn : ∀ i, i < V.length → (V.getD i row0).tn = (R.getD i rowT0).ts.length := fun i hi => by
    obtain ⟨A, c, h2⟩ := (hT.2 i hi).form
    rw [tsD] at h2
    have h3 : (V.getD i row0).toks = .slice A (R.getD i rowT0).ts.length c := h2
    unfold RowV.toks at h3
    injection h3
  refine x_nil 5 31 tokY rfl ?_
  refine x_loop (σ := Int × List Tok) (fun (i, O) => ⟨[(6, .v (.int .i64 i)), (5, .r 4), (4, .r 2), (3, .v (.bool true)), (0, .r 0)], [], [(0, .sl (tokY.d L)), (2, .sl (rowY.d V)), (4, .row 31 (tokY.d O))], 5⟩)
    (fun (i, O) _ => 0 ≤ i ∧ i ≤ V.length ∧ O = preR R i.toNat) (fun (i, _) => (V.length - i).toNat) (fun (_, _) => by simp only; omega) (0, []) [(4, some 3)] (.of rfl rfl rfl rfl rfl rfl)
    ⟨by omega, by omega, rfl⟩ ?_
  rintro ⟨i, O⟩ u hu ⟨g1, g2, g3⟩
  refine x_vc tt_ok ?_
  refine x_if (fun h => ?_) (fun h => ?_)
  · have h : i < V.length := of_decide_eq_true h
    repeat (refine And.intro ?_ ?_; first | omega | (simp only [Lay.d_n]; omega) | (simp only [decide_eq_true_eq, decide_eq_false_iff_not, Bool.or_eq_false_iff, Bool.and_eq_true, Bool.or_eq_true, Bool.and_eq_false_iff, Bool.not_eq_true', Bool.not_eq_false', Lay.d_n]; omega) | (simp only [decide_eq_true_eq, decide_eq_false_iff_not, Bool.or_eq_false_iff, Bool.and_eq_true, Bool.or_eq_true, Bool.and_eq_false_iff, Bool.not_eq_true', Bool.not_eq_false']; omega))
    have hn : i.toNat < R.length := by omega
    obtain ⟨d1, d2⟩ := keyT_at hk i.toNat
    have d3 := htn i.toNat (by omega)
    have hmem : R.getD i.toNat rowT0 ∈ R := by rw [List.getD_eq_getElem?_getD, List.getElem?_eq_getElem hn]; exact List.getElem_mem hn
    obtain ⟨o1, o2, o3⟩ := q1 _ hmem
    have hlts : (R.getD i.toNat rowT0).ts.length ≤ L.length := by rw [← hz1]; exact ts_size _
    have hpos : 0 < (R.getD i.toNat rowT0).ts.length := List.length_pos_iff.2 o1
    refine x_if (fun h2 => ?_) (fun h2 => ?_)
    · replace h2 : ((decide (((V.getD i.toNat row0).tn : Int) = 0) || decide (0 < i) && !(V.getD i.toNat row0).dir && !(V.getD (i - 1).toNat row0).dir) || !(V.getD i.toNat row0).dir && decide ((V.getD i.toNat row0).name ≠ ⟨#[]⟩)) = true := h2
      rw [d1, d2, d3] at h2
      exfalso
      simp only [Bool.or_eq_true, Bool.and_eq_true, Bool.not_eq_true', decide_eq_true_eq] at h2
      rcases h2 with (h2 | ⟨⟨h2, h3⟩, h4⟩) | ⟨h2, h3⟩
      · omega
      · rw [(keyT_at hk _).1] at h4
        have := q2 (i - 1).toNat (by omega)
        rw [show (i - 1).toNat + 1 = i.toNat by omega, h3, h4] at this
        simp at this
      · exact h3 (o2 h2)
    · refine x_loop (σ := Int) (fun k => ⟨[(7, .v (.int .i64 k)), (6, .v (.int .i64 i)), (5, .r 4), (4, .r 2), (3, .v (.bool true)), (0, .r 0)], [], [(0, .sl (tokY.d L)), (2, .sl (rowY.d V)), (4, .row 31 (tokY.d O))], 5⟩)
        (fun k _ => 0 ≤ k ∧ k + 1 ≤ (R.getD i.toNat rowT0).ts.length) (fun k => ((R.getD i.toNat rowT0).ts.length - k).toNat) (fun _ => Nat.le_refl _) 0 [] (.of rfl rfl rfl rfl rfl rfl) ⟨by omega, by omega⟩ ?_
      rintro k u3 hu3 ⟨k1, k2⟩
      have hts : SlAt u3 (V.getD i.toNat row0).toks (tokY.d (R.getD i.toNat rowT0).ts) := by
        have := hT.2 i.toNat (by omega)
        rw [tsD] at this
        exact this.mono (hu.trans hu3)
      refine x_vc tt_ok ?_
      repeat (refine And.intro ?_ ?_; first | omega | (simp only [Lay.d_n]; omega) | (simp only [decide_eq_true_eq, decide_eq_false_iff_not, Bool.or_eq_false_iff, Bool.and_eq_true, Bool.or_eq_true, Bool.and_eq_false_iff, Bool.not_eq_true', Bool.not_eq_false', Lay.d_n]; omega) | (simp only [decide_eq_true_eq, decide_eq_false_iff_not, Bool.or_eq_false_iff, Bool.and_eq_true, Bool.or_eq_true, Bool.and_eq_false_iff, Bool.not_eq_true', Bool.not_eq_false']; omega))
      refine x_if (fun h3 => ?_) (fun h3 => ?_)
      · have h3 : k + 1 < ((V.getD i.toNat row0).tn : Int) := of_decide_eq_true h3
        rw [d3] at h3
        repeat (refine And.intro ?_ ?_; first | omega | (simp only [Lay.d_n]; omega) | (simp only [decide_eq_true_eq, decide_eq_false_iff_not, Bool.or_eq_false_iff, Bool.and_eq_true, Bool.or_eq_true, Bool.and_eq_false_iff, Bool.not_eq_true', Bool.not_eq_false', Lay.d_n]; omega) | (simp only [decide_eq_true_eq, decide_eq_false_iff_not, Bool.or_eq_false_iff, Bool.and_eq_true, Bool.or_eq_true, Bool.and_eq_false_iff, Bool.not_eq_true', Bool.not_eq_false']; omega))
        refine xl_slG 82 rfl hts ?_
        refine xl_go tt_ok ?_
        repeat (refine And.intro ?_ ?_; first | omega | (simp only [Lay.d_n]; omega) | (simp only [decide_eq_true_eq, decide_eq_false_iff_not, Bool.or_eq_false_iff, Bool.and_eq_true, Bool.or_eq_true, Bool.and_eq_false_iff, Bool.not_eq_true', Bool.not_eq_false', Lay.d_n]; omega) | (simp only [decide_eq_true_eq, decide_eq_false_iff_not, Bool.or_eq_false_iff, Bool.and_eq_true, Bool.or_eq_true, Bool.and_eq_false_iff, Bool.not_eq_true', Bool.not_eq_false']; omega))
        refine x_if (fun h4 => ?_) (fun h4 => ?_)
        · exfalso
          replace h4 : ((V.getD i.toNat row0).dir && decide (((R.getD i.toNat rowT0).ts.getD k.toNat tok0).kind = 9)) = true := h4
          rw [Bool.and_eq_true, decide_eq_true_eq, d1] at h4
          refine o3 h4.1 _ ?_ h4.2
          have hk2 : k.toNat < (R.getD i.toNat rowT0).ts.dropLast.length := by rw [List.length_dropLast]; omega
          have : (R.getD i.toNat rowT0).ts.getD k.toNat tok0 = (R.getD i.toNat rowT0).ts.dropLast[k.toNat] := by
            rw [List.getElem_dropLast, List.getD_eq_getElem?_getD, List.getElem?_eq_getElem (by omega)]; rfl
          rw [this]
          exact List.getElem_mem hk2
        · repeat (refine And.intro ?_ ?_; first | omega | (simp only [Lay.d_n]; omega) | (simp only [decide_eq_true_eq, decide_eq_false_iff_not, Bool.or_eq_false_iff, Bool.and_eq_true, Bool.or_eq_true, Bool.and_eq_false_iff, Bool.not_eq_true', Bool.not_eq_false', Lay.d_n]; omega) | (simp only [decide_eq_true_eq, decide_eq_false_iff_not, Bool.or_eq_false_iff, Bool.and_eq_true, Bool.or_eq_true, Bool.and_eq_false_iff, Bool.not_eq_true', Bool.not_eq_false']; omega))
          exact again (k + 1) [] (.of rfl rfl rfl rfl rfl rfl) ⟨by omega, by omega⟩ (by omega)
      · have hnx := preR_next hn
        have hle := preR_len (R := R) (i.toNat + 1)
        rw [q3, hnx, List.length_append, ← g3] at hle
        repeat (refine And.intro ?_ ?_; first | omega | (simp only [Lay.d_n]; omega) | (simp only [decide_eq_true_eq, decide_eq_false_iff_not, Bool.or_eq_false_iff, Bool.and_eq_true, Bool.or_eq_true, Bool.and_eq_false_iff, Bool.not_eq_true', Bool.not_eq_false', Lay.d_n]; omega) | (simp only [decide_eq_true_eq, decide_eq_false_iff_not, Bool.or_eq_false_iff, Bool.and_eq_true, Bool.or_eq_true, Bool.and_eq_false_iff, Bool.not_eq_true', Bool.not_eq_false']; omega))
        refine xl_append tt_ok tokY O (R.getD i.toNat rowT0).ts 48 rfl rfl rfl rfl rfl rfl rfl rfl (by kernel_rfl) rfl rfl rfl (fun E w F hs => hts.imm hs.imm) tokOne rfl (by omega) (by omega) ?_
        refine xl_go tt_ok ?_
        repeat (refine And.intro ?_ ?_; first | omega | (simp only [Lay.d_n]; omega) | (simp only [decide_eq_true_eq, decide_eq_false_iff_not, Bool.or_eq_false_iff, Bool.and_eq_true, Bool.or_eq_true, Bool.and_eq_false_iff, Bool.not_eq_true', Bool.not_eq_false', Lay.d_n]; omega) | (simp only [decide_eq_true_eq, decide_eq_false_iff_not, Bool.or_eq_false_iff, Bool.and_eq_true, Bool.or_eq_true, Bool.and_eq_false_iff, Bool.not_eq_true', Bool.not_eq_false']; omega))
        refine again (i + 1, O ++ (R.getD i.toNat rowT0).ts) [(4, some 5)] (.of rfl rfl rfl rfl rfl rfl) ⟨by omega, by omega, ?_⟩ (by simp only; omega)
        rw [show (i + 1).toNat = i.toNat + 1 by omega, hnx, g3]
  · have h : ¬ i < V.length := of_decide_eq_false h
    have hO : O = L := by rw [g3, ← q3]; unfold preR; rw [List.take_of_length_le (by omega)]
    rw [hO]
    refine xl_gcall0 (.bool true) rfl rfl rfl rfl fn28 rfl rfl (fun _ E w F hs => same_refl L _ _ w (hs.rowAt (k := 4) rfl) (hs.slAt (k := 0) rfl) (by omega)) ?_
    refine xl_go tt_ok ?_
    exact fin1 (fun _ _ => rfl)
end Go.Proofs.Ytdonomneofdhfaa
