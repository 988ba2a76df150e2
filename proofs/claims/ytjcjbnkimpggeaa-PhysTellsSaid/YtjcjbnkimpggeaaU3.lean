/- The document's answer: the logical text; two lists. -/
import Derived.Test.YtjcjbnkimpggeaaU2
import Derived.Test.YtjcjbnkimpggeaaQ1
namespace Go.Proofs.Ytjcjbnkimpggeaa
open Go.GV Go.RowKit

theorem charsOf_b {s : ByteArray} {c : Chr} (h : c ∈ charsOf s) : 0 ≤ c.b ∧ c.b ≤ 255 := by
  unfold charsOf at h
  split at h
  · obtain ⟨p, hp, _, rfl⟩ := chrsL_mem h
    obtain ⟨_, _, _, _, q4⟩ := partsV_mem hp
    rw [q4]
    exact partP_b s p.pos
  · cases h

def chrB (c : Chr) : UInt8 := UInt8.ofNat c.b.toNat

theorem logical_chrs (s : ByteArray) : logicalOf s = ⟨((charsOf s).map chrB).toArray⟩ := by
  unfold logicalOf charsOf
  split
  · rw [show (chrsL (partsV s)).map chrB = bytesL (partsV s) from bytes_chrs _]
  · rfl

theorem take_snoc {α : Type} {L : List α} {i : Int} {d : α} (h0 : 0 ≤ i) (h1 : i < L.length) : L.take (i + 1).toNat = L.take i.toNat ++ [L.getD i.toNat d] := by
  have hk : i.toNat < L.length := by omega
  rw [show (i + 1).toNat = i.toNat + 1 by omega, ← List.take_append_getElem hk, List.getD_eq_getElem?_getD, List.getElem?_eq_getElem hk]; rfl

set_option maxRecDepth 100000 in
theorem refLogical_any (s : ByteArray) (w : World) (hs : s.size ≤ 140737488355328) : Calls Try.prog 18 #[.string s] w (PureP w fun v _ => v = .tuple #[.string (logicalOf s), .int .i64 (checkE s)]) := by
  refine x_fun tt_ok Try.func18 rfl rfl [] 0 [.v (.string s)] rfl rfl rfl rfl (fun b hb => by cases hb) ?_
  refine x_vc tt_ok ?_
  refine xl_call _ rfl rfl rfl rfl fn17 rfl rfl (fun E w F _ => refChars_any s w (by omega)) (fun v u1 u2 hu2 hs2 hv => ?_)
  obtain ⟨x, rfl, hx⟩ := hv
  obtain ⟨A, c, rfl⟩ := hx.form
  refine xl_go tt_ok ?_
  have la := @charsOf_len s
  refine x_nil 6 5 byteY rfl ?_
  refine x_sl 4 rfl (hx.sub hs2).uncut ?_
  refine x_loop (σ := Int × List UInt8) (fun (i, L) => ⟨[(7, .v (.int .i64 i)), (6, .r 2), (5, .v (.int .i64 (checkE s))), (4, .r 1)], [], [(2, .row 5 (byteY.d L)), (1, .sl (charY.d (charsOf s)))], 3⟩)
    (fun (i, L) _ => 0 ≤ i ∧ i ≤ (charsOf s).length ∧ L = ((charsOf s).take i.toNat).map chrB) (fun (i, _) => ((charsOf s).length - i).toNat) (fun (_, _) => by simp only; omega) (0, []) [(2, some 0)] (.of rfl rfl rfl rfl rfl rfl) ⟨by omega, by omega, rfl⟩ ?_
  rintro ⟨i, L⟩ u hu ⟨g1, g2, g3⟩
  have hLl : L.length ≤ i := by rw [g3, List.length_map, List.length_take]; omega
  refine x_vc tt_ok ?_
  refine x_if (fun h => ?_) (fun h => ?_)
  · have h2 : i < (charsOf s).length := of_decide_eq_true h
    have hk : i.toNat < (charsOf s).length := by omega
    have hb := charsOf_b (s := s) (c := (charsOf s).getD i.toNat charY.dft) (by rw [List.getD_eq_getElem?_getD, List.getElem?_eq_getElem hk]; exact List.getElem_mem hk)
    have hbk : ((chrB ((charsOf s).getD i.toNat charY.dft)).toNat : Int) = ((charsOf s).getD i.toNat charY.dft).b := u8_back hb.1 hb.2
    have e : ((charsOf s).take (i + 1).toNat).map chrB = L ++ [chrB ((charsOf s).getD i.toNat charY.dft)] := by
      rw [take_snoc (d := charY.dft) g1 h2, List.map_append, ← g3]; rfl
    repeat (refine And.intro ?_ ?_; first | omega | (simp only [Lay.d_n]; omega) | (simp only [decide_eq_true_eq, decide_eq_false_iff_not, Bool.or_eq_false_iff, Bool.and_eq_true, Bool.or_eq_true, Bool.and_eq_false_iff, Bool.not_eq_true', Bool.not_eq_false']; omega))
    refine xl_push tt_ok byteY L (chrB ((charsOf s).getD i.toNat charY.dft)) 1 (cs := [.int .u8 ((charsOf s).getD i.toNat charY.dft).b]) rfl rfl rfl rfl rfl rfl rfl rfl rfl rfl rfl rfl (by kernel_rfl) rfl rfl
      (by show [Value.int .u8 _] = _; rw [hbk]) rfl rfl (fun n hn => by cases hn; decide) rfl rfl rfl (by omega) (by omega) ?_
    refine xl_go tt_ok ?_
    repeat (refine And.intro ?_ ?_; first | omega | (simp only [Lay.d_n]; omega) | (simp only [decide_eq_true_eq, decide_eq_false_iff_not, Bool.or_eq_false_iff, Bool.and_eq_true, Bool.or_eq_true, Bool.and_eq_false_iff, Bool.not_eq_true', Bool.not_eq_false']; omega))
    exact again (i + 1, _) [(2, some 3)] (.of rfl rfl rfl rfl rfl rfl) ⟨by omega, by omega, e.symm⟩ (by simp only; omega)
  · have h2 : ¬ i < (charsOf s).length := of_decide_eq_false h
    rw [List.take_of_length_le (by omega)] at g3
    refine xl_bytesStr L rfl rfl rfl rfl Try.underlying52 Try.underlying5 Try.underlying9 rfl (fun E w F hs => hs.rowAt (k := 2) rfl) ?_
    refine xl_go tt_ok ?_
    refine fin1 (fun _ _ => ?_)
    rw [logical_chrs, ← g3]; rfl

set_option maxRecDepth 100000 in
theorem sameChars_any (L : List Chr) (x y : Value) (w : World) (hx : SlAt (im w) x (charY.d L)) (hy : SlAt (im w) y (charY.d L)) (hL : L.length ≤ 140737488355328) :
    Calls Try.prog 22 #[x, y] w (PureP w fun v _ => v = .bool true) := by
  refine x_fun tt_ok Try.func22 rfl rfl [(x, charY.d L), (y, charY.d L)] 2 [.r 0, .r 1] rfl rfl rfl rfl (fun b hb => by simp at hb; rcases hb with rfl | rfl <;> assumption) ?_
  refine x_vc tt_ok ?_
  refine x_iff (decide_eq_false (fun h => h rfl)) ?_
  refine x_loop (σ := Int) (fun i => ⟨[(5, .v (.int .i64 i)), (0, .r 0), (1, .r 1)], [], [(0, .sl (charY.d L)), (1, .sl (charY.d L))], 2⟩)
    (fun i _ => 0 ≤ i ∧ i ≤ L.length) (fun i => (L.length - i).toNat) (fun _ => Nat.le_refl _) 0 [] (.of rfl rfl rfl rfl rfl rfl) ⟨by omega, by omega⟩ ?_
  rintro i u hu ⟨g1, g2⟩
  refine x_vc tt_ok ?_
  refine x_if (fun h => ?_) (fun h => ?_)
  · have h2 : i < L.length := of_decide_eq_true h
    refine x_draw mix (by kernel_rfl) (xd_go tt_ok ?_)
    repeat (refine And.intro ?_ ?_; first | omega | (simp only [Lay.d_n]; omega) | (simp only [decide_eq_true_eq, decide_eq_false_iff_not, Bool.or_eq_false_iff, Bool.and_eq_true, Bool.or_eq_true, Bool.and_eq_false_iff, Bool.not_eq_true', Bool.not_eq_false']; omega))
    refine x_iff (by simp) ?_
    repeat (refine And.intro ?_ ?_; first | omega | (simp only [Lay.d_n]; omega) | (simp only [decide_eq_true_eq, decide_eq_false_iff_not, Bool.or_eq_false_iff, Bool.and_eq_true, Bool.or_eq_true, Bool.and_eq_false_iff, Bool.not_eq_true', Bool.not_eq_false']; omega))
    exact again (i + 1) [] (.of rfl rfl rfl rfl rfl rfl) ⟨by omega, by omega⟩ (by omega)
  · exact fin1 (fun _ _ => rfl)

set_option maxRecDepth 100000 in
theorem sameSpans_any (L : List Spn) (x y : Value) (w : World) (hx : SlAt (im w) x (spanY.d L)) (hy : SlAt (im w) y (spanY.d L)) (hL : L.length ≤ 140737488355328) :
    Calls Try.prog 23 #[x, y] w (PureP w fun v _ => v = .bool true) := by
  refine x_fun tt_ok Try.func23 rfl rfl [(x, spanY.d L), (y, spanY.d L)] 2 [.r 0, .r 1] rfl rfl rfl rfl (fun b hb => by simp at hb; rcases hb with rfl | rfl <;> assumption) ?_
  refine x_vc tt_ok ?_
  refine x_iff (decide_eq_false (fun h => h rfl)) ?_
  refine x_loop (σ := Int) (fun i => ⟨[(5, .v (.int .i64 i)), (0, .r 0), (1, .r 1)], [], [(0, .sl (spanY.d L)), (1, .sl (spanY.d L))], 2⟩)
    (fun i _ => 0 ≤ i ∧ i ≤ L.length) (fun i => (L.length - i).toNat) (fun _ => Nat.le_refl _) 0 [] (.of rfl rfl rfl rfl rfl rfl) ⟨by omega, by omega⟩ ?_
  rintro i u hu ⟨g1, g2⟩
  refine x_vc tt_ok ?_
  refine x_if (fun h => ?_) (fun h => ?_)
  · have h2 : i < L.length := of_decide_eq_true h
    refine x_draw mix (by kernel_rfl) (xd_go tt_ok ?_)
    repeat (refine And.intro ?_ ?_; first | omega | (simp only [Lay.d_n]; omega) | (simp only [decide_eq_true_eq, decide_eq_false_iff_not, Bool.or_eq_false_iff, Bool.and_eq_true, Bool.or_eq_true, Bool.and_eq_false_iff, Bool.not_eq_true', Bool.not_eq_false']; omega))
    refine x_iff (by simp) ?_
    repeat (refine And.intro ?_ ?_; first | omega | (simp only [Lay.d_n]; omega) | (simp only [decide_eq_true_eq, decide_eq_false_iff_not, Bool.or_eq_false_iff, Bool.and_eq_true, Bool.or_eq_true, Bool.and_eq_false_iff, Bool.not_eq_true', Bool.not_eq_false']; omega))
    exact again (i + 1) [] (.of rfl rfl rfl rfl rfl rfl) ⟨by omega, by omega⟩ (by omega)
  · exact fin1 (fun _ _ => rfl)
end Go.Proofs.Ytjcjbnkimpggeaa
