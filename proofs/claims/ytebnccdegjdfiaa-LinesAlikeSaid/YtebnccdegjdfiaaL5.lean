/- Lists and rows that are the same; the law's own function. -/
import Derived.Test.YtebnccdegjdfiaaL4
namespace Go.Proofs.Ytebnccdegjdfiaa
open Go.GV Go.RowKit

set_option maxRecDepth 100000 in
theorem ints_any (L : List Int) (x y : Value) (w : World) (hx : SlAt (im w) x (intY.d L)) (hy : SlAt (im w) y (intY.d L)) (hL : L.length ≤ 9223372036854775807) :
    Calls Try.prog 21 #[x, y] w (PureP w fun v _ => v = .bool true) := by
  refine x_fun tt_ok Try.func21 rfl rfl [(x, intY.d L), (y, intY.d L)] 2 [.r 0, .r 1] rfl rfl rfl rfl (fun b hb => by simp at hb; rcases hb with rfl | rfl <;> assumption) ?_
  refine x_vc tt_ok ?_
  refine x_iff (by simp) ?_
  refine x_loop (σ := Int) (fun i => ⟨[(5, .v (.int .i64 i)), (0, .r 0), (1, .r 1)], [], [(0, .sl (intY.d L)), (1, .sl (intY.d L))], 2⟩)
    (fun i _ => 0 ≤ i ∧ i ≤ L.length) (fun i => (L.length - i).toNat) (fun _ => Nat.le_refl _) 0 [] (.of rfl rfl rfl rfl rfl rfl) ⟨by omega, by omega⟩ ?_
  rintro i u hu ⟨g1, g2⟩
  refine x_vc tt_ok ?_
  refine x_if (fun h => ?_) (fun h => ?_)
  · have h2 : i < L.length := of_decide_eq_true h
    refine x_draw mix (by kernel_rfl) (xd_go tt_ok ?_)
    repeat (refine And.intro ?_ ?_; first | omega | (simp [Lay.d] <;> omega))
    refine x_iff (by simp) ?_
    repeat (refine And.intro ?_ ?_; first | omega | (simp [Lay.d] <;> omega))
    exact again (i + 1) [] (.of rfl rfl rfl rfl rfl rfl) ⟨by omega, by omega⟩ (by omega)
  · exact fin1 (fun _ _ => rfl)

theorem key_at {L M : List RowV} (h : L.map RowV.key = M.map RowV.key) (i : Nat) : (L.getD i row0).dir = (M.getD i row0).dir ∧ (L.getD i row0).name = (M.getD i row0).name := by
  have h1 : (L.map RowV.key).getD i row0.key = (M.map RowV.key).getD i row0.key := by rw [h]
  simp only [List.getD_eq_getElem?_getD, List.getElem?_map] at h1 ⊢
  have e : ∀ o : Option RowV, (o.map RowV.key).getD row0.key = (o.getD row0).key := fun o => by cases o <;> rfl
  rw [e, e] at h1
  simpa [RowV.key] using h1

theorem same_refl (L : List Tok) (x y : Value) (w : World) (hx : SlAt (im w) x (tokY.d L)) (hy : SlAt (im w) y (tokY.d L)) (hL : L.length ≤ 9223372036854775807) :
    Calls Try.prog 17 #[x, y] w (PureP w fun v _ => v = .bool true) := by
  have := same_any L L x y w hx hy hL
  rwa [pb_true rfl] at this

set_option maxRecDepth 100000 in
theorem sameRows_any (L M : List RowV) (T : List (List Tok)) (x y : Value) (w : World) (hx : SlAt (im w) x (rowY.d L)) (hy : SlAt (im w) y (rowY.d M)) (hT : ToksAt (im w) L T) (hS : ToksAt (im w) M T)
    (hk : L.map RowV.key = M.map RowV.key) (hL : L.length ≤ 9223372036854775807) (hTL : ∀ i : Nat, (T.getD i []).length ≤ 9223372036854775807) :
    Calls Try.prog 22 #[x, y] w (PureP w fun v _ => v = .bool true) := by
  have hl : L.length = M.length := by rw [hT.1, hS.1]
  refine x_fun tt_ok Try.func22 rfl rfl [(x, rowY.d L), (y, rowY.d M)] 2 [.r 0, .r 1] rfl rfl rfl rfl (fun b hb => by simp at hb; rcases hb with rfl | rfl <;> assumption) ?_
  refine x_vc tt_ok ?_
  refine x_iff (by simp [Lay.d_n, hl]) ?_
  refine x_loop (σ := Int) (fun i => ⟨[(5, .v (.int .i64 i)), (0, .r 0), (1, .r 1)], [], [(0, .sl (rowY.d L)), (1, .sl (rowY.d M))], 2⟩)
    (fun i _ => 0 ≤ i ∧ i ≤ L.length) (fun i => (L.length - i).toNat) (fun _ => Nat.le_refl _) 0 [] (.of rfl rfl rfl rfl rfl rfl) ⟨by omega, by omega⟩ ?_
  rintro i u hu ⟨g1, g2⟩
  refine x_vc tt_ok ?_
  refine x_if (fun h => ?_) (fun h => ?_)
  · have h2 : i < L.length := of_decide_eq_true h
    obtain ⟨k1, k2⟩ := key_at hk i.toNat
    refine x_draw mix (by kernel_rfl) (xd_go tt_ok ?_)
    repeat (refine And.intro ?_ ?_; first | omega | (simp [Lay.d] <;> omega))
    refine xd_call0 (.bool true) rfl rfl rfl rfl fn17 rfl rfl
      (fun _ E w F hs => same_refl _ _ _ w (((hT.2 i.toNat (by omega)).le hu).imm hs.imm) (((hS.2 i.toNat (by omega)).le hu).imm hs.imm) (hTL _)) ?_
    refine xd_go tt_ok ?_
    refine x_draw mix (by kernel_rfl) (xd_go tt_ok ?_)
    repeat (refine And.intro ?_ ?_; first | omega | (simp only [decide_eq_true_eq, decide_eq_false_iff_not]; simp only [Lay.d_n]; omega) | (simp [Lay.d] <;> omega))
    refine x_if (fun h3 => ?_) (fun h3 => ?_)
    · rw [show (L.getD i.toNat rowY.dft).dir = (M.getD i.toNat rowY.dft).dir from k1, show (L.getD i.toNat rowY.dft).name = (M.getD i.toNat rowY.dft).name from k2] at h3
      simp at h3
    · repeat (refine And.intro ?_ ?_; first | omega | (simp only [decide_eq_true_eq, decide_eq_false_iff_not]; simp only [Lay.d_n]; omega) | (simp [Lay.d] <;> omega))
      exact again (i + 1) [] (.of rfl rfl rfl rfl rfl rfl) ⟨by omega, by omega⟩ (by omega)
  · exact fin1 (fun _ _ => rfl)

theorem turn_key {r r' : RowV} (h : r.key = r'.key) : turnV r = turnV r' := by
  simp only [RowV.key, Prod.mk.injEq] at h
  simp only [turnV, h.1, h.2]

theorem depths_key : ∀ {L L' : List RowV} (last out : List Int), L.map RowV.key = L'.map RowV.key → depthsFrom last out L = depthsFrom last out L'
  | [], [], _, _, _ => rfl
  | [], _ :: _, _, _, h => by simp at h
  | _ :: _, [], _, _, h => by simp at h
  | r :: L, r' :: L', last, out, h => by
    simp only [List.map_cons, List.cons.injEq] at h
    simp only [depthsFrom, turn_key h.1]
    split
    · rfl
    · exact depths_key _ _ h.2

theorem dOut_length : ∀ (L : List RowV) (last out o : List Int), depthsFrom last out L = some o → o.length = out.length + L.length
  | [], last, out, o, h => by
    simp only [depthsFrom] at h
    split at h
    · cases h
    · cases h; simp
  | r :: L, last, out, o, h => by
    simp only [depthsFrom] at h
    split at h
    · cases h
    · have := dOut_length L _ _ _ h
      simp at this ⊢
      omega

theorem dOut_le (L : List RowV) : (dOut L).length ≤ L.length := by
  unfold dOut
  cases h : depthsFrom [] [] L with
  | none => simp
  | some o => have := dOut_length L [] [] o h; simp at this ⊢; omega

set_option maxRecDepth 100000 in
theorem linesDepths_any (L : List RowV) (T : List (List Tok)) (x : Value) (w : World) (hx : SlAt (im w) x (rowY.d L)) (hT : ToksAt (im w) L T) (hL : L.length * 48 ≤ 140737488355328)
    (hTL : ∀ i : Nat, (T.getD i []).length * 48 ≤ 140737488355328) :
    Calls Try.prog 4 #[x] w (PureP w fun v _ => v = .bool true) := by
  refine x_fun tt_ok Try.func4 rfl rfl [(x, rowY.d L)] 1 [.r 0] rfl rfl rfl rfl (fun b hb => by simp at hb; subst hb; exact hx) ?_
  refine x_vc tt_ok ?_
  refine xl_call (fun v u => ∃ L', SlAt u v (rowY.d L') ∧ ToksAt u L' T ∧ L'.map RowV.key = L.map RowV.key) rfl rfl rfl rfl fn18 rfl rfl
    (fun E w F hs => twin_any L T _ w (hs.slAt (k := 0) rfl) (hT.sub ⟨fun b o hb => hs.imm.h b o hb⟩) hL hTL) ?_
  rintro v u1 u hu hu1 ⟨L', e1, e2, e3⟩
  have hsub : u1.sub u := hu1.trans (cut_sub _ u)
  have e1' := e1.sub hsub
  have e2' := e2.sub hsub
  have hl : L'.length = L.length := by rw [hT.1, e2.1]
  have ed : dOut L' = dOut L := by simp only [dOut, depths_key [] [] e3]
  have ee : dErr L' = dErr L := by simp only [dErr, depths_key [] [] e3]
  have hdl := dOut_le L
  refine xl_go tt_ok ?_
  refine xl_callO2 3 (intY.d (dOut L)) [.int .i64 (dErr L)] rfl rfl rfl rfl fn19 rfl rfl (fun E w F hs => by rw [← ed, ← ee]; exact depths_any L' _ w (e1'.imm hs.imm) (by omega)) ?_
  refine xl_go tt_ok ?_
  refine xl_callO2 3 (intY.d (dOut L)) [.int .i64 (dErr L)] rfl rfl rfl rfl fn20 rfl rfl (fun E w F hs => refDepths_any L _ w (hs.slAt (k := 0) rfl) hL) ?_
  refine xl_go tt_ok ?_
  refine xl_call0 (.bool true) rfl rfl rfl rfl fn21 rfl rfl (fun E w F hs => ints_any (dOut L) _ _ w (hs.rowAt (k := 1) rfl) (hs.rowAt (k := 2) rfl) (by omega)) ?_
  refine xl_go tt_ok ?_
  refine xl_gcall0 (.bool true) rfl rfl rfl rfl fn22 rfl rfl (fun _ E w F hs => sameRows_any L' L T _ _ w (e1'.imm hs.imm) (hs.slAt (k := 0) rfl) (e2'.sub ⟨fun b o hb => hs.imm.h b o hb⟩) ((hT.sub hu.sub).sub ⟨fun b o hb => hs.imm.h b o hb⟩) e3 (by omega) (fun i => by have := hTL i; omega)) ?_
  refine xl_go tt_ok ?_
  refine fin1 (fun _ _ => ?_)
  show Value.bool (true && decide (dErr L = dErr L) && true) = _
  simp
end Go.Proofs.Ytebnccdegjdfiaa
