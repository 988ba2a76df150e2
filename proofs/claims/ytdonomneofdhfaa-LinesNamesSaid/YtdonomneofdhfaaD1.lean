/- LinesTells: its walk. -/
import Derived.Test.YtdonomneofdhfaaC3
namespace Go.Proofs.Ytdonomneofdhfaa
open Go.GV Go.RowKit

set_option maxRecDepth 100000 in
theorem says_own (r : RowV) (t : List Tok) (w : World) (hx : SlAt (im w) r.toks (tokY.d t)) (hL : t.length * 48 ≤ 140737488355328) :
    Calls Try.prog 26 #[.agg #[.bool r.dir, .string r.name, .slice r.ta r.tn r.tc]] w (PureP w fun v u => OwnAt u v 31 (tokY.d (saysV r t))) := by
  have hb := bareFrom_le false t
  refine x_fun tt_ok Try.func26 rfl rfl [] 0 [.v (.agg #[.bool r.dir, .string r.name, .slice r.ta r.tn r.tc])] rfl rfl rfl rfl (fun b hb => by cases hb) ?_
  refine x_vc tt_ok ?_
  refine xl_callO 31 (tokY.d (bareFrom false t)) rfl rfl rfl rfl fn46 rfl rfl (fun E w F hs => bare_any t _ w (hx.imm hs.imm) hL) ?_
  refine xl_go tt_ok ?_
  refine x_if (fun h => ?_) (fun h => ?_)
  · have h' : r.dir = false := by simpa using h
    have e : saysV r t = bareFrom false t := by simp [saysV, h']
    rw [e]
    exact finO (k := 1) rfl
  · have h' : r.dir = true := by simpa using h
    have key : ∀ k : Nat, (k = if r.name = ⟨#[]⟩ then 1 else 2) → saysV r t = (bareFrom false t).drop (if ((bareFrom false t).length : Int) < (k : Int) then ((bareFrom false t).length : Int) else (k : Int)).toNat := by
      intro k hk
      simp only [saysV, h', if_true, ← hk]
      split
      · rw [List.drop_eq_nil_of_le (by omega), List.drop_eq_nil_of_le (by omega)]
      · rfl
    refine x_if (fun h2 => ?_) (fun h2 => ?_)
    · have h2' : ¬ r.name = ⟨#[]⟩ := of_decide_eq_true h2
      have e := key 2 (by rw [if_neg h2'])
      refine xl_freeze 1 rfl (fun A c u2 hu2 hb1 => ?_)
      refine xl_min rfl rfl rfl rfl rfl rfl ?_
      refine xl_go tt_ok ?_
      refine xl_from tt_ok tokY (bareFrom false t) rfl rfl rfl rfl rfl rfl rfl rfl rfl rfl (fun E w F hs => hb1) ?_ ?_ (fun A2 c2 hb2 => ?_)
      · show (0 : Int) ≤ if ((bareFrom false t).length : Int) < 2 then ((bareFrom false t).length : Int) else 2
        split <;> omega
      · show (if ((bareFrom false t).length : Int) < 2 then ((bareFrom false t).length : Int) else 2) ≤ ((bareFrom false t).length : Int)
        split <;> omega
      refine xl_go tt_ok ?_
      refine xl_callO 31 (tokY.d (saysV r t)) rfl rfl rfl rfl fn85 rfl rfl (fun E w F hs => by rw [e]; exact clone_own _ _ w (hb2.imm hs.imm) (by rw [List.length_drop]; omega)) ?_
      refine xl_go tt_ok ?_
      exact finO (k := 2) rfl
    · have h2' : r.name = ⟨#[]⟩ := by
        have : ¬ ¬ r.name = ⟨#[]⟩ := of_decide_eq_false h2
        exact Classical.not_not.1 this
      have e := key 1 (by rw [if_pos h2'])
      refine xl_freeze 1 rfl (fun A c u2 hu2 hb1 => ?_)
      refine xl_min rfl rfl rfl rfl rfl rfl ?_
      refine xl_go tt_ok ?_
      refine xl_from tt_ok tokY (bareFrom false t) rfl rfl rfl rfl rfl rfl rfl rfl rfl rfl (fun E w F hs => hb1) ?_ ?_ (fun A2 c2 hb2 => ?_)
      · show (0 : Int) ≤ if ((bareFrom false t).length : Int) < 1 then ((bareFrom false t).length : Int) else 1
        split <;> omega
      · show (if ((bareFrom false t).length : Int) < 1 then ((bareFrom false t).length : Int) else 1) ≤ ((bareFrom false t).length : Int)
        split <;> omega
      refine xl_go tt_ok ?_
      refine xl_callO 31 (tokY.d (saysV r t)) rfl rfl rfl rfl fn85 rfl rfl (fun E w F hs => by rw [e]; exact clone_own _ _ w (hb2.imm hs.imm) (by rw [List.length_drop]; omega)) ?_
      refine xl_go tt_ok ?_
      exact finO (k := 2) rfl

/-- rows of a list have no more tokens than the list -/
theorem fold_size : ∀ (ls : List (List Tok)) (s : List RowT × Bool), (s.2 = true → s.1 ≠ []) → sizeR (ls.foldl addLine s).1 = sizeR s.1 + (ls.map List.length).sum ∧ (ls.foldl addLine s).1.length ≤ s.1.length + ls.length
  | [], s, _ => by simp
  | l :: ls, s, h => by
    have h1 := addLine_size s l h
    have h2 := fold_size ls (addLine s l) h1.2.1
    simp only [List.foldl_cons, List.map_cons, List.sum_cons, List.length_cons]
    omega

theorem rowsOf_size (L : List Tok) : sizeR (rowsOf L) = L.length ∧ (rowsOf L).length ≤ L.length := by
  have h := fold_size (linesOf L) ([], false) (fun h => by cases h)
  have h1 := pcs_sum L L 0 0 (Nat.le_refl _) (by omega)
  have h2 := pcs_len L 0 0 (Nat.le_refl _)
  simp only [rowsOf]
  rw [h.1]
  have h3 : ((linesOf L).map List.length).sum = L.length := by rw [linesOf, h1]; omega
  have h4 : (linesOf L).length = (pcs 0 0 L).length := by simp [linesOf]
  refine ⟨by rw [h3]; simp [sizeR], ?_⟩
  have := h.2
  simp only [List.length_nil] at this
  omega

theorem ts_size {R : List RowT} (i : Nat) : (R.getD i rowT0).ts.length ≤ sizeR R := by
  rcases Nat.lt_or_ge i R.length with h | h
  · exact getD_size h
  · rw [List.getD_eq_getElem?_getD, List.getElem?_eq_none h]; exact Nat.zero_le _

theorem tsD (R : List RowT) (i : Nat) : (R.map RowT.ts).getD i [] = (R.getD i rowT0).ts := by
  simp only [List.getD_eq_getElem?_getD, List.getElem?_map]
  cases R[i]? <;> rfl

/-- what the star holds, as tokens of rows -/
theorem star_toks {u : Im} {V : List RowV} {R : List RowT} (hl : V.length = R.length) (h : ∀ p ∈ itemsS V R, SlAt u p.x p.D) : ToksAt u V (R.map RowT.ts) := by
  refine ⟨by simp [hl], fun i hi => ?_⟩
  rw [tsD]
  exact h _ (List.mem_of_getElem? (itemsS_get hi (by omega)))

set_option maxRecDepth 100000 in
theorem linesTells_any (L : List Tok) (A0 : Option Addr) (c0 : Nat) (w : World) (hx : SlAt (im w) (.slice A0 L.length c0) (tokY.d L)) (hL : L.length * 48 ≤ 140737488351232) :
    Calls Try.prog 3 #[.slice A0 L.length c0] w (PureP w fun v _ => v = .bool true) := by
  obtain ⟨hz1, hz2⟩ := rowsOf_size L
  obtain ⟨R, hR⟩ : ∃ R, R = rowsOf L := ⟨_, rfl⟩
  have hts : ∀ i, (R.getD i rowT0).ts.length ≤ L.length := fun i => by rw [hR, ← hz1]; exact ts_size i
  rw [← hR] at hz1 hz2
  have rA : ∀ (A : Option Addr) (c : Nat) (w : World), SlAt (im w) (.slice A L.length c) (tokY.d L) → Calls Try.prog 23 #[.slice A L.length c] w (PureP w (RowsR R)) := fun A c w h => hR ▸ rows_any L A c w h (by omega)
  have rB : ∀ (x : Value) (w : World), SlAt (im w) x (tokY.d L) → Calls Try.prog 24 #[x] w (PureP w (RowsR R)) := fun x w h => hR ▸ refRows_any L x w h (by omega)
  refine x_fun tt_ok Try.func3 rfl rfl [(.slice A0 L.length c0, tokY.d L)] 1 [.r 0] rfl rfl rfl rfl (fun b hb => by simp at hb; subst hb; exact hx) ?_
  refine x_vc tt_ok ?_
  refine xl_empty tt_ok tokY rfl rfl rfl rfl rfl rfl rfl ?_
  refine xl_go tt_ok ?_
  refine xl_append tt_ok tokY [] L 48 rfl rfl rfl rfl rfl rfl rfl rfl (by kernel_rfl) rfl rfl rfl (fun E w F hs => hs.slAt (k := 0) rfl) tokOne rfl (by simp; omega) (by simp; omega) ?_
  refine xl_go tt_ok ?_
  refine xl_callStar (fun (s : Option Addr × Nat × List RowV) => .slice s.1 R.length s.2.1) (fun s => itemsS s.2.2 R ++ [(⟨.slice s.1 R.length s.2.1, 28, rowY.d s.2.2⟩ : SI)]) (fun s => s.2.2.map RowV.key = R.map RowT.key) rfl rfl rfl rfl fn23 rfl rfl
    (fun E w F hs => by
      have h1 := hs.rowAt (k := 2) rfl
      obtain ⟨A, c, hv⟩ := h1.form
      show Calls Try.prog 23 #[E 2] w _
      rw [hv] at h1 ⊢
      exact rA A c w h1) (fun s hk => ?_)
  obtain ⟨Aa, ca, V⟩ := s
  have hVR : V.length = R.length := by have := congrArg List.length hk; simpa using this
  have hil : (itemsS V R).length = R.length := by rw [itemsS, List.length_zipWith]; omega
  refine xl_unpark 16 3 R.length (p := ⟨.slice Aa R.length ca, 28, rowY.d V⟩) rfl rfl (by show (itemsS V R ++ _)[_]? = _; rw [List.getElem?_append_right (by omega), hil, Nat.sub_self]; rfl) ?_
  refine xl_starTake 3 R.length rfl ?_
  rw [show ((itemsS V R ++ [(⟨.slice Aa R.length ca, 28, rowY.d V⟩ : SI)]).set R.length SI.hole).take R.length = itemsS V R by
    rw [List.set_append_right _ _ (by omega), List.take_left' hil]]
  refine xl_go tt_ok ?_
  refine xl_callStar (fun (s : Option Addr × Nat × List RowV) => .slice s.1 R.length s.2.1) (fun s => itemsS s.2.2 R ++ [(⟨.slice s.1 R.length s.2.1, 28, rowY.d s.2.2⟩ : SI)]) (fun s => s.2.2.map RowV.key = R.map RowT.key) rfl rfl rfl rfl fn24 rfl rfl
    (fun E w F hs => rB _ w (hs.slAt (k := 0) rfl)) (fun s hk2 => ?_)
  obtain ⟨Ab, cb, W⟩ := s
  have hWR : W.length = R.length := by have := congrArg List.length hk2; simpa using this
  refine xl_freezeStar 5 rfl (fun u1 hu1 hfr => ?_)
  have hWT : ToksAt u1 W (R.map RowT.ts) := star_toks hWR (fun p hp => (hfr p (List.mem_append_left _ hp)).1)
  have hWs : SlAt u1 (.slice Ab R.length cb) (rowY.d W) := (hfr _ (List.mem_append_right _ (List.mem_singleton.2 rfl))).1
  refine xl_sl 18 rfl hWs ?_
  replace hk : V.map RowV.key = R.map RowT.key := hk
  replace hk2 : W.map RowV.key = R.map RowT.key := hk2
  refine xl_pure (P := ∀ i < V.length, (V.getD i row0).tn = (R.getD i rowT0).ts.length) (fun E w F hs i hi => ?_) (fun htn => ?_)
  · have h1 := hs.starAt (s := 3) rfl (itemsS_get hi (by omega))
    obtain ⟨A, c, h2⟩ := h1.form
    have h3 : (V.getD i row0).toks = .slice A (R.getD i rowT0).ts.length c := h2
    unfold RowV.toks at h3
    injection h3
  refine xl_go tt_ok ?_
  refine xl_call0 (.bool true) rfl rfl rfl rfl fn25 rfl rfl (fun E w F hs => sameRows_any V W (R.map RowT.ts) _ _ w (hs.rowAt (k := 4) rfl) (hs.slAt (k := 6) rfl)
    (star_toks hVR (fun p hp => own_slAt ((hs.holds 3 _ rfl).1 p hp))) (hWT.sub ⟨fun b o hb => hs.imm.h b o hb⟩) (hk.trans hk2.symm) (by omega) (fun i => by rw [tsD]; have := hts i; omega)) ?_
  refine xl_go tt_ok ?_
  refine x_iff rfl ?_
  have hsays : ∀ (i : Nat) (t : List Tok), saysV (V.getD i row0) t = saysV (W.getD i row0) t := fun i t => by
    have h1 := congrArg (fun l => l.getD i row0.key) (hk.trans hk2.symm)
    simp only [List.getD_eq_getElem?_getD, List.getElem?_map] at h1 ⊢
    have h2 : (V[i]?.getD row0).key = (W[i]?.getD row0).key := by
      cases h3 : V[i]? <;> cases h4 : W[i]? <;> simp_all
    unfold RowV.key at h2
    injection h2 with h3 h4
    unfold saysV
    rw [h3, h4]
  refine x_loop (σ := Int) (fun i => ⟨[(6, .v (.int .i64 i)), (5, .r 6), (4, .r 4), (3, .r 2), (0, .r 0)], [], [(0, .sl (tokY.d L)), (2, .row 31 (tokY.d L)), (3, .gen (starHp (itemsS V R))), (4, .row 28 (rowY.d V)), (6, .sl (rowY.d W))], 7⟩)
    (fun i _ => 0 ≤ i ∧ i ≤ W.length) (fun i => (W.length - i).toNat) (fun _ => Nat.le_refl 7) 0 [] (.of rfl rfl rfl rfl rfl rfl) ⟨by omega, by omega⟩ ?_
  rintro i u2 hu2 ⟨g1, g2⟩
  refine x_vc tt_ok ?_
  refine x_if (fun h => ?_) (fun h => ?_)
  · have h2 : i < (W.length : Int) := of_decide_eq_true h
    have hi1 : i.toNat < V.length := by omega
    have hi2 : i.toNat < R.length := by omega
    have hti := hts i.toNat
    repeat (refine And.intro ?_ ?_; first | omega | (simp only [Lay.d_n]; omega))
    refine xl_callO 31 (tokY.d (saysV (V.getD i.toNat row0) (R.getD i.toNat rowT0).ts)) rfl rfl rfl rfl fn26 rfl rfl (fun E w F hs => says_own (V.getD i.toNat row0) (R.getD i.toNat rowT0).ts w (hs.starAt (s := 3) rfl (itemsS_get hi1 hi2)) (by omega)) ?_
    refine xl_go tt_ok ?_
    repeat (refine And.intro ?_ ?_; first | omega | (simp only [Lay.d_n]; omega))
    refine xl_callV (tokY.d (saysV (V.getD i.toNat row0) (R.getD i.toNat rowT0).ts)) rfl rfl rfl rfl fn27 rfl rfl (fun E w F hs => by
      rw [hsays]
      have h9 := hWT.2 i.toNat (by omega)
      rw [tsD] at h9
      exact refSays_any (W.getD i.toNat row0) (R.getD i.toNat rowT0).ts w ((h9.le hu2).imm hs.imm) (by omega)) (fun A c u3 hu3 hb1 => ?_)
    refine xl_go tt_ok ?_
    have hsl : (saysV (V.getD i.toNat row0) (R.getD i.toNat rowT0).ts).length ≤ L.length := by
      have h9 := bareFrom_le false (R.getD i.toNat rowT0).ts
      unfold saysV
      split
      · rw [List.length_drop]; omega
      · omega
    refine xl_call0 (.bool true) rfl rfl rfl rfl fn28 rfl rfl (fun E w F hs => by
      have h9 := same_any _ _ _ _ w (hs.rowAt (k := 7) rfl) (hb1.uncut.imm hs.imm) (by omega)
      rw [pb_true rfl] at h9
      exact h9) ?_
    refine xl_go tt_ok ?_
    refine x_iff rfl ?_
    refine x_loop (σ := Int × List Tok) (fun (k, M) => ⟨[(9, .v (.int .i64 k)), (7, .r 7), (6, .v (.int .i64 i)), (5, .r 6), (4, .r 4), (3, .r 2), (0, .r 0)], [], [(0, .sl (tokY.d L)), (2, .row 31 (tokY.d L)), (3, .gen (starHp (itemsS V R))), (4, .row 28 (rowY.d V)), (6, .sl (rowY.d W)), (7, .row 31 (tokY.d M))], 8⟩)
      (fun (k, M) _ => 0 ≤ k ∧ k ≤ M.length ∧ M.length ≤ L.length) (fun (k, M) => (M.length - k).toNat) (fun (_, _) => Nat.le_refl 8) (0, saysV (V.getD i.toNat row0) (R.getD i.toNat rowT0).ts) [] (.of rfl rfl rfl rfl rfl rfl) ⟨by omega, by omega, hsl⟩ ?_
    rintro ⟨k, M⟩ u4 hu4 ⟨k1, k2, k3⟩
    refine x_vc tt_ok ?_
    refine x_if (fun h5 => ?_) (fun h5 => ?_)
    · have h6 : k < (M.length : Int) := of_decide_eq_true h5
      repeat (refine And.intro ?_ ?_; first | omega | (simp only [Lay.d_n]; omega))
      refine xl_set tt_ok tokY M ⟨0, ⟨"written over".toUTF8.data⟩, 0, 0, false⟩ rfl rfl rfl rfl rfl rfl rfl k1 h6 rfl rfl (by decide) rfl ?_
      refine xl_go tt_ok ?_
      repeat (refine And.intro ?_ ?_; first | omega | (simp only [Lay.d_n]; omega))
      exact again (k + 1, M.set k.toNat ⟨0, ⟨"written over".toUTF8.data⟩, 0, 0, false⟩) [] (.of rfl rfl rfl rfl rfl rfl) ⟨by omega, by simp; omega, by simpa using k3⟩ (by simp only [List.length_set]; omega)
    · repeat (refine And.intro ?_ ?_; first | omega | (simp only [Lay.d_n]; omega))
      exact again (i + 1) [] (.of rfl rfl rfl rfl rfl rfl) ⟨by omega, by omega⟩ (by omega)
  · refine x_loop (σ := Int × List RowV × List RowT) (fun (i, V2, R2) => ⟨[(10, .v (.int .i64 i)), (5, .r 6), (4, .r 4), (3, .r 2), (0, .r 0)], [], [(0, .sl (tokY.d L)), (2, .row 31 (tokY.d L)), (3, .gen (starHp (itemsS V2 R2))), (4, .row 28 (rowY.d V2)), (6, .sl (rowY.d W))], 7⟩)
      (fun (i, V2, R2) _ => 0 ≤ i ∧ i ≤ V2.length ∧ V2.length = R.length ∧ R2.length = R.length ∧ (∀ j : Nat, i ≤ j → (R2.getD j rowT0).ts = (R.getD j rowT0).ts)) (fun (i, V2, _) => (V2.length - i).toNat) (fun (_, _, _) => Nat.le_refl 7) (0, V, R) [] (.of rfl rfl rfl rfl rfl rfl) ⟨by omega, by omega, hVR, rfl, fun _ _ => rfl⟩ ?_
    rintro ⟨j, V2, R2⟩ u3 hu3 ⟨q1, q2, q3, q4, q5⟩
    refine x_vc tt_ok ?_
    refine x_if (fun h4 => ?_) (fun h4 => ?_)
    · have h5 : j < (V2.length : Int) := of_decide_eq_true h4
      have hj1 : j.toNat < V2.length := by omega
      have hj2 : j.toNat < R2.length := by omega
      have hlen : (R2.getD j.toNat rowT0).ts.length ≤ L.length := by rw [q5 j.toNat (by omega)]; exact hts _
      repeat (refine And.intro ?_ ?_; first | omega | (simp only [Lay.d_n]; omega))
      refine xl_unpark 65 3 j.toNat rfl rfl (itemsS_get hj1 hj2) ?_
      refine xl_push tt_ok tokY (R2.getD j.toNat rowT0).ts ⟨0, ⟨"more".toUTF8.data⟩, 0, 0, false⟩ 48 rfl rfl rfl rfl rfl rfl rfl rfl rfl rfl rfl rfl (by kernel_rfl) rfl rfl rfl rfl rfl (fun n hn => by cases hn; decide) rfl rfl rfl (by omega) (by omega) ?_
      refine xl_go tt_ok ?_
      repeat (refine And.intro ?_ ?_; first | omega | (simp only [Lay.d_n]; omega))
      refine xl_park 8 3 j.toNat rfl rfl (List.getElem?_set_self (by rw [itemsS, List.length_zipWith]; omega)) rfl (fun A2 c2 => ?_)
      obtain ⟨M0, hM0⟩ : ∃ M0, M0 = (R2.getD j.toNat rowT0).ts ++ [(⟨0, ⟨"more".toUTF8.data⟩, 0, 0, false⟩ : Tok)] := ⟨_, rfl⟩
      have hM0l : M0.length ≤ L.length + 1 := by rw [hM0, List.length_append, List.length_singleton]; omega
      rw [← hM0]
      refine xl_set tt_ok (cs := [.slice A2 (tokY.d M0).n c2]) rowY V2 { V2.getD j.toNat row0 with ta := A2, tn := (tokY.d M0).n, tc := c2 } rfl rfl rfl rfl rfl rfl rfl q1 h5 rfl rfl (Nat.le_refl 3) rfl ?_
      refine xl_go tt_ok ?_
      obtain ⟨v3, hv3⟩ : ∃ v3 : RowV, v3 = { V2.getD j.toNat row0 with ta := A2, tn := (tokY.d M0).n, tc := c2 } := ⟨_, rfl⟩
      have hv3t : v3.toks = .slice A2 (tokY.d M0).n c2 := by rw [hv3]; rfl
      have hv3n : v3.tn = M0.length := by rw [hv3]; rfl
      rw [← hv3]
      have e0 : ((itemsS V2 R2).set j.toNat SI.hole).set j.toNat (⟨.slice A2 (tokY.d M0).n c2, 31, tokY.d M0⟩ : SI) = itemsS (V2.set j.toNat v3) (R2.set j.toNat { R2.getD j.toNat rowT0 with ts := M0 }) := by
        rw [List.set_set, itemsS_set, hv3t]
      simp only [e0]
      have hVl : (V2.set j.toNat v3).length = V2.length := List.length_set ..
      have hVg : (V2.set j.toNat v3).getD j.toNat row0 = v3 := by rw [List.getD_eq_getElem?_getD, List.getElem?_set_self hj1]; rfl
      have hRl : ∀ M, (R2.set j.toNat { R2.getD j.toNat rowT0 with ts := M }).length = R2.length := fun M => List.length_set ..
      have hRg : ∀ M, ((R2.set j.toNat { R2.getD j.toNat rowT0 with ts := M }).getD j.toNat rowT0).ts = M := fun M => by rw [List.getD_eq_getElem?_getD, List.getElem?_set_self hj2]; rfl
      have hRo : ∀ M (k : Nat), j + 1 ≤ k → ((R2.set j.toNat { R2.getD j.toNat rowT0 with ts := M }).getD k rowT0).ts = (R.getD k rowT0).ts := fun M k hk => by
        rw [List.getD_eq_getElem?_getD, List.getElem?_set, if_neg (by omega), ← List.getD_eq_getElem?_getD]
        exact q5 k (by omega)
      generalize V2.set j.toNat v3 = V3 at hVl hVg ⊢
      refine x_loop (σ := Int × List Tok) (fun (k, M) => ⟨[(11, .v (.int .i64 k)), (10, .v (.int .i64 j)), (5, .r 6), (4, .r 4), (3, .r 2), (0, .r 0)], [], [(0, .sl (tokY.d L)), (2, .row 31 (tokY.d L)), (3, .gen (starHp (itemsS V3 (R2.set j.toNat { R2.getD j.toNat rowT0 with ts := M })))), (4, .row 28 (rowY.d V3)), (6, .sl (rowY.d W))], 9⟩)
        (fun (k, M) _ => 0 ≤ k ∧ k ≤ M.length ∧ M.length = M0.length) (fun (k, M) => (M.length - k).toNat) (fun (_, _) => Nat.le_refl 9) (0, M0) [] (.of rfl rfl rfl rfl rfl rfl) ⟨by omega, by omega, rfl⟩ ?_
      rintro ⟨k, M⟩ u4 hu4 ⟨k1, k2, k3⟩
      refine x_vc tt_ok ?_
      repeat (refine And.intro ?_ ?_; first | omega | (simp only [Lay.d_n]; omega))
      refine x_if (fun h6 => ?_) (fun h6 => ?_)
      · have h7 : k < ((V3.getD j.toNat row0).tn : Int) := of_decide_eq_true h6
        rw [hVg, hv3n] at h7
        repeat (refine And.intro ?_ ?_; first | omega | (simp only [Lay.d_n]; omega))
        refine xl_setStar tt_ok (cs := [.int .i64 0, .string ⟨"written over".toUTF8.data⟩, .int .i64 0, .int .i64 0, .bool false]) tokY M ⟨0, ⟨"written over".toUTF8.data⟩, 0, 0, false⟩ 3 j.toNat rfl rfl rfl rfl rfl rfl rfl rfl rfl rfl rfl rfl rfl (by
          have h9 := itemsS_get (V := V3) (R := R2.set j.toNat { R2.getD j.toNat rowT0 with ts := M }) (i := j.toNat) (by omega) (by rw [hRl]; omega)
          rw [hRg] at h9
          exact h9) rfl k1 (by omega) rfl rfl (Nat.le_refl 5) (fun t ht => by cases ht; decide) rfl rfl rfl ?_
        refine xl_go tt_ok ?_
        repeat (refine And.intro ?_ ?_; first | omega | (simp only [Lay.d_n]; omega))
        have e1 : (itemsS V3 (R2.set j.toNat { R2.getD j.toNat rowT0 with ts := M })).set j.toNat (⟨(V3.getD j.toNat row0).toks, 31, tokY.d (M.set k.toNat ⟨0, ⟨"written over".toUTF8.data⟩, 0, 0, false⟩)⟩ : SI) =
            itemsS V3 (R2.set j.toNat { R2.getD j.toNat rowT0 with ts := M.set k.toNat ⟨0, ⟨"written over".toUTF8.data⟩, 0, 0, false⟩ }) := by
          have h9 := itemsS_set (V := V3) (R := R2.set j.toNat { R2.getD j.toNat rowT0 with ts := M }) (i := j.toNat) (v := V3.getD j.toNat row0) (r := { R2.getD j.toNat rowT0 with ts := M.set k.toNat ⟨0, ⟨"written over".toUTF8.data⟩, 0, 0, false⟩ })
          rw [List.set_set] at h9
          rw [← h9]
          congr 1
          refine List.ext_getElem? fun m => ?_
          rw [List.getElem?_set]
          split
          · rename_i hm; subst hm
            rw [if_pos (by omega), List.getD_eq_getElem?_getD, List.getElem?_eq_getElem (by omega)]; rfl
          · rfl
        have e1' : (itemsS V3 (R2.set j.toNat { R2.getD j.toNat rowT0 with ts := M })).set j.toNat (⟨.slice (V3.getD j.toNat row0).ta (V3.getD j.toNat row0).tn (V3.getD j.toNat row0).tc, 31, tokY.d (M.set k.toNat ⟨0, ⟨"written over".toUTF8.data⟩, 0, 0, false⟩)⟩ : SI) =
            itemsS V3 (R2.set j.toNat { R2.getD j.toNat rowT0 with ts := M.set k.toNat ⟨0, ⟨"written over".toUTF8.data⟩, 0, 0, false⟩ }) := e1
        simp only [e1']
        exact again (k + 1, M.set k.toNat ⟨0, ⟨"written over".toUTF8.data⟩, 0, 0, false⟩) [] (.of rfl rfl rfl rfl rfl rfl) ⟨by omega, by simp only [List.length_set]; omega, by simp only [List.length_set]; omega⟩ (by simp only [List.length_set]; omega)
      · refine x_draw mix (by kernel_rfl) (xd_go tt_ok ?_)
        repeat (refine And.intro ?_ ?_; first | omega | (intro hh; exact of_decide_eq_true hh) | (intro hh; have h9 : j + 1 < (V3.length : Int) := of_decide_eq_true hh; show j + 1 < (W.length : Int); omega) | (simp only [decide_eq_true_eq, decide_eq_false_iff_not, Bool.and_eq_true, Lay.d_n]; omega))
        refine xd_call0 (.bool true) rfl rfl rfl rfl fn28 rfl rfl (fun hg E w F hs => ?_) ?_
        · have h9 : j + 1 < (V3.length : Int) := of_decide_eq_true hg.1
          have s1 := hs.starAt (s := 3) rfl (itemsS_get (V := V3) (R := R2.set j.toNat { R2.getD j.toNat rowT0 with ts := M }) (i := (j + 1).toNat) (by omega) (by rw [hRl]; omega))
          rw [hRo M (j + 1).toNat (by omega)] at s1
          have s2 := hWT.2 (j + 1).toNat (by omega)
          rw [tsD] at s2
          have h8 := same_any _ _ _ _ w s1 (((s2.le hu2).le (hu3.trans hu4)).imm hs.imm) (by have := hts (j + 1).toNat; omega)
          rw [pb_true rfl] at h8
          exact h8
        refine xd_go tt_ok ?_
        refine x_iff (by simp) ?_
        repeat (refine And.intro ?_ ?_; first | omega | (simp only [Lay.d_n]; omega))
        exact again (j + 1, V3, R2.set j.toNat { R2.getD j.toNat rowT0 with ts := M }) [] (.of rfl rfl rfl rfl rfl rfl) ⟨(by omega : (0 : Int) ≤ j + 1), (by omega : j + 1 ≤ (V3.length : Int)), (by omega : V3.length = R.length), by rw [hRl]; exact q4, hRo M⟩ (by simp only; omega)
    · refine xl_call0 (.bool true) rfl rfl rfl rfl fn28 rfl rfl (fun E w F hs => by
        have h9 := same_any _ _ _ _ w (hs.rowAt (k := 2) rfl) (hs.slAt (k := 0) rfl) (by omega)
        rw [pb_true rfl] at h9
        exact h9) ?_
      refine xl_go tt_ok ?_
      exact fin1 (fun _ _ => rfl)
end Go.Proofs.Ytdonomneofdhfaa
