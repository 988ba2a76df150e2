/- Lists and rows that are the same; the law's own function. -/
import Derived.Test.YtdonomneofdhfaaL4
namespace Go.Proofs.Ytdonomneofdhfaa
open Go.GV Go.RowKit

theorem key_at {L M : List RowV} (h : L.map RowV.key = M.map RowV.key) (i : Nat) : (L.getD i row0).dir = (M.getD i row0).dir ∧ (L.getD i row0).name = (M.getD i row0).name := by
  have h1 : (L.map RowV.key).getD i row0.key = (M.map RowV.key).getD i row0.key := by rw [h]
  simp only [List.getD_eq_getElem?_getD, List.getElem?_map] at h1 ⊢
  have e : ∀ o : Option RowV, (o.map RowV.key).getD row0.key = (o.getD row0).key := fun o => by cases o <;> rfl
  rw [e, e] at h1
  simpa [RowV.key] using h1

theorem same_refl (L : List Tok) (x y : Value) (w : World) (hx : SlAt (im w) x (tokY.d L)) (hy : SlAt (im w) y (tokY.d L)) (hL : L.length ≤ 9223372036854775807) :
    Calls Try.prog 28 #[x, y] w (PureP w fun v _ => v = .bool true) := by
  have := same_any L L x y w hx hy hL
  rwa [pb_true rfl] at this

set_option maxRecDepth 100000 in
theorem sameRows_any (L M : List RowV) (T : List (List Tok)) (x y : Value) (w : World) (hx : SlAt (im w) x (rowY.d L)) (hy : SlAt (im w) y (rowY.d M)) (hT : ToksAt (im w) L T) (hS : ToksAt (im w) M T)
    (hk : L.map RowV.key = M.map RowV.key) (hL : L.length ≤ 9223372036854775807) (hTL : ∀ i : Nat, (T.getD i []).length ≤ 9223372036854775807) :
    Calls Try.prog 25 #[x, y] w (PureP w fun v _ => v = .bool true) := by
  have hl : L.length = M.length := by rw [hT.1, hS.1]
  refine x_fun tt_ok Try.func25 rfl rfl [(x, rowY.d L), (y, rowY.d M)] 2 [.r 0, .r 1] rfl rfl rfl rfl (fun b hb => by simp at hb; rcases hb with rfl | rfl <;> assumption) ?_
  refine x_vc tt_ok ?_
  refine x_iff (by simp [Lay.d_n, hl]) ?_
  refine x_loop (σ := Int) (fun i => ⟨[(5, .v (.int .i64 i)), (0, .r 0), (1, .r 1)], [], [(0, .sl (rowY.d L)), (1, .sl (rowY.d M))], 2⟩)
    (fun i _ => 0 ≤ i ∧ i ≤ L.length) (fun i => (L.length - i).toNat) (fun _ => Nat.le_refl _) 0 [] (.of rfl rfl rfl rfl rfl rfl) ⟨by omega, by omega⟩ ?_
  rintro i u hu ⟨g1, g2⟩
  refine x_vc tt_ok ?_
  refine x_if (fun h => ?_) (fun h => ?_)
  · have h2 : i < L.length := of_decide_eq_true h
    obtain ⟨k1, k2⟩ := key_at hk i.toNat
    refine x_draw mix (by kernel_rfl) (xd_go tt_ok ?_)
    repeat (refine And.intro ?_ ?_; first | omega | (simp [Lay.d] <;> omega))
    refine xd_call0 (.bool true) rfl rfl rfl rfl fn28 rfl rfl
      (fun _ E w F hs => same_refl _ _ _ w (((hT.2 i.toNat (by omega)).le hu).imm hs.imm) (((hS.2 i.toNat (by omega)).le hu).imm hs.imm) (hTL _)) ?_
    refine xd_go tt_ok ?_
    refine x_draw mix (by kernel_rfl) (xd_go tt_ok ?_)
    repeat (refine And.intro ?_ ?_; first | omega | (simp only [decide_eq_true_eq, decide_eq_false_iff_not]; simp only [Lay.d_n]; omega) | (simp [Lay.d] <;> omega))
    refine x_if (fun h3 => ?_) (fun h3 => ?_)
    · rw [show (L.getD i.toNat rowY.dft).dir = (M.getD i.toNat rowY.dft).dir from k1, show (L.getD i.toNat rowY.dft).name = (M.getD i.toNat rowY.dft).name from k2] at h3
      simp at h3
    · repeat (refine And.intro ?_ ?_; first | omega | (simp only [decide_eq_true_eq, decide_eq_false_iff_not]; simp only [Lay.d_n]; omega) | (simp [Lay.d] <;> omega))
      exact again (i + 1) [] (.of rfl rfl rfl rfl rfl rfl) ⟨by omega, by omega⟩ (by omega)
  · exact fin1 (fun _ _ => rfl)

theorem turn_key {r r' : RowV} (h : r.key = r'.key) : turnV r = turnV r' := by
  simp only [RowV.key, Prod.mk.injEq] at h
  simp only [turnV, h.1, h.2]

theorem depths_key : ∀ {L L' : List RowV} (last out : List Int), L.map RowV.key = L'.map RowV.key → depthsFrom last out L = depthsFrom last out L'
  | [], [], _, _, _ => rfl
  | [], _ :: _, _, _, h => by simp at h
  | _ :: _, [], _, _, h => by simp at h
  | r :: L, r' :: L', last, out, h => by
    simp only [List.map_cons, List.cons.injEq] at h
    simp only [depthsFrom, turn_key h.1]
    split
    · rfl
    · exact depths_key _ _ h.2

theorem dOut_length : ∀ (L : List RowV) (last out o : List Int), depthsFrom last out L = some o → o.length = out.length + L.length
  | [], last, out, o, h => by
    simp only [depthsFrom] at h
    split at h
    · cases h
    · cases h; simp
  | r :: L, last, out, o, h => by
    simp only [depthsFrom] at h
    split at h
    · cases h
    · have := dOut_length L _ _ _ h
      simp at this ⊢
      omega

theorem dOut_le (L : List RowV) : (dOut L).length ≤ L.length := by
  unfold dOut
  cases h : depthsFrom [] [] L with
  | none => simp
  | some o => have := dOut_length L [] [] o h; simp at this ⊢; omega

end Go.Proofs.Ytdonomneofdhfaa
