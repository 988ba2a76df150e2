/- How deep rows stand: the program's answer. -/
import Derived.Test.YtdonomneofdhfaaL3
namespace Go.Proofs.Ytdonomneofdhfaa
open Go.GV Go.RowKit

def is3 (k : Int) : Bool := decide (k = 3)

theorem bad_is3 (last : List Int) {k : Int} (hk : k < 4) : bad last k = (decide (((last.map is3).length : Int) = 0) || (last.map is3).getD (((last.map is3).length : Int) - 1).toNat false) := by
  unfold bad
  rw [List.length_map]
  by_cases h : last.length = 0
  · have : decide ((last.length : Int) = 0) = true := decide_eq_true (by omega)
    rw [this]; rfl
  · have h1 : ((last.length : Int) - 1).toNat < last.length := by omega
    have h2 : decide (k < 4) = true := decide_eq_true hk
    rw [h2, Bool.true_and]
    congr 1
    simp only [List.getD_eq_getElem?_getD, List.getElem?_map, List.getElem?_eq_getElem h1, Option.map_some, Option.getD_some, is3]

set_option maxRecDepth 100000 in
theorem depths_any (L : List RowV) (x : Value) (w : World) (hx : SlAt (im w) x (rowY.d L)) (hL : L.length * 48 ≤ 140737488355328) :
    Calls Try.prog 49 #[x] w (PureP w (OwnT 3 (intY.d (dOut L)) [.int .i64 (dErr L)])) := by
  refine x_fun tt_ok Try.func49 rfl rfl [(x, rowY.d L)] 1 [.r 0] rfl rfl rfl rfl (fun b hb => by simp at hb; subst hb; exact hx) ?_
  refine x_vc tt_ok ?_
  refine xl_make0 tt_ok intY 8 L.length rfl rfl rfl rfl rfl rfl rfl (by kernel_rfl) rfl rfl rfl (by omega) (by omega) ?_
  refine xl_go tt_ok ?_
  refine x_nil 5 4 boolY rfl ?_
  refine x_loop (σ := Int × List Int × List Bool) (fun (i, out, en) => ⟨[(15, .v (.int .i64 i)), (14, .v (.int .i64 L.length)), (13, .r 0), (0, .r 0), (4, .r 3), (5, .r 4)], [], [(0, .sl (rowY.d L)), (3, .row 3 (intY.d out)), (4, .row 4 (boolY.d en))], 5⟩)
    (fun (i, out, en) _ => 0 ≤ i ∧ i ≤ L.length ∧ out.length = i ∧ ∃ last : List Int, en = last.map is3 ∧ last.length ≤ i ∧ depthsFrom last out (L.drop i.toNat) = depthsFrom [] [] L) (fun (i, _, _) => (L.length - i).toNat) (fun (_, _, _) => by simp only; omega) (0, [], []) [(3, some 1), (4, some 2)] (.of rfl rfl rfl rfl rfl rfl)
    ⟨by omega, by simp, by simp, [], rfl, by simp, by simp⟩ ?_
  rintro ⟨i, out, en⟩ u hu ⟨g1, g2, g3, last, g4, g5, g6⟩
  have hen : en.length = last.length := by rw [g4, List.length_map]
  refine x_vc tt_ok ?_
  refine x_if (fun h => ?_) (fun h => ?_)
  · have h2 : i < L.length := of_decide_eq_true h
    rw [drop_at (d := row0) g1 h2] at g6
    simp only [depthsFrom] at g6
    repeat (refine And.intro ?_ ?_; first | omega | (simp only [decide_eq_true_eq, decide_eq_false_iff_not]; simp only [Lay.d_n]; omega) | (simp [Lay.d] <;> omega))
    refine x_if (fun hd => ?_) (fun hd => ?_)
    · have hd' : (L.getD i.toNat row0).dir = true := hd
      have hk : turnV (L.getD i.toNat row0) = turnN (L.getD i.toNat row0).name := by simp only [turnV]; rw [if_pos hd']
      rw [hk] at g6
      clear hk
      refine x_if (fun h1 => x_ift h1 ?o1) (fun h1 => x_if (fun h2 => x_ift h2 ?o2) (fun h2 => x_if (fun h3 => ?o3) (fun h3 => x_if (fun h4 => x_ift h4 ?e1) (fun h4 =>
        x_if (fun h5 => ?e2) (fun h5 => x_if (fun h6 => ?f1) (fun h6 => ?n1))))))
      case o1 | o2 | o3 =>
        have hk : turnN (L.getD i.toNat row0).name = 1 := by
          simp only [decide_eq_true_eq, decide_eq_false_iff_not] at *
          simp only [turnN]
          simp_all
        rw [hk] at g6
        have e : stepR last 1 = some (last ++ [1], (last.length : Int)) := by simp [stepR]
        rw [e] at g6
        simp only at g6
        refine xl_push tt_ok boolY en false 1 (cs := [.bool false]) rfl rfl rfl rfl rfl rfl rfl rfl rfl rfl rfl rfl (by kernel_rfl) rfl rfl rfl rfl rfl (fun n hn => by cases hn; decide) rfl rfl rfl (by first | omega | (simp; omega)) (by first | omega | (simp; omega)) ?_
        refine xl_go tt_ok ?_
        refine xl_push tt_ok intY out (en.length : Int) 8 (cs := [.int .i64 (en.length : Int)]) rfl rfl rfl rfl rfl rfl rfl rfl rfl rfl rfl rfl (by kernel_rfl) rfl rfl rfl rfl rfl (fun n hn => by cases hn; decide) rfl rfl rfl (by first | omega | (simp; omega)) (by first | omega | (simp; omega)) ?_
        refine xl_go tt_ok ?_
        repeat (refine And.intro ?_ ?_; first | omega | (simp only [decide_eq_true_eq, decide_eq_false_iff_not]; simp only [Lay.d_n]; omega) | (simp [Lay.d] <;> omega))
        refine again (i + 1, _, _) [(3, some 7), (4, some 6)] (.of rfl rfl rfl rfl rfl rfl) ⟨by omega, by omega, by simp; omega, last ++ [1], by rw [g4]; simp [is3], by simp; omega, ?_⟩ (by simp only; omega)
        rw [hen]
        exact g6
      case n1 =>
        have hk : turnN (L.getD i.toNat row0).name = 0 := by
          simp only [decide_eq_true_eq, decide_eq_false_iff_not] at *
          simp only [turnN]
          simp_all
        rw [hk] at g6
        have e : stepR last 0 = some (last, (last.length : Int)) := by simp [stepR]
        rw [e] at g6
        simp only at g6
        refine xl_push tt_ok intY out (en.length : Int) 8 (cs := [.int .i64 (en.length : Int)]) rfl rfl rfl rfl rfl rfl rfl rfl rfl rfl rfl rfl (by kernel_rfl) rfl rfl rfl rfl rfl (fun n hn => by cases hn; decide) rfl rfl rfl (by first | omega | (simp; omega)) (by first | omega | (simp; omega)) ?_
        refine xl_go tt_ok ?_
        repeat (refine And.intro ?_ ?_; first | omega | (simp only [decide_eq_true_eq, decide_eq_false_iff_not]; simp only [Lay.d_n]; omega) | (simp [Lay.d] <;> omega))
        refine again (i + 1, _, _) [(3, some 6)] (.of rfl rfl rfl rfl rfl rfl) ⟨by omega, by omega, by simp; omega, last, g4, by omega, ?_⟩ (by simp only; omega)
        rw [hen]
        exact g6
      case e1 =>
        have hk : turnN (L.getD i.toNat row0).name = 2 := by
          simp only [decide_eq_true_eq, decide_eq_false_iff_not] at *
          simp only [turnN]
          simp_all
        rw [hk] at g6
        have hv : decide ((L.getD i.toNat row0).name = sElse) = is3 2 := by
          simp only [decide_eq_true_eq, decide_eq_false_iff_not] at *
          simp_all [is3]
        have hb := bad_is3 last (k := 2) (by omega)
        rw [← g4] at hb
        repeat (refine And.intro ?_ ?_; first | omega | (simp only [decide_eq_true_eq, decide_eq_false_iff_not]; simp only [Lay.d_n]; omega) | (simp [Lay.d] <;> omega))
        refine x_if (fun h7 => ?_) (fun h7 => ?_)
        · have e : stepR last 2 = none := by simp only [stepR]; rw [if_pos (by omega), if_pos (hb.trans h7)]
          rw [e] at g6
          simp only at g6
          have e1 : dOut L = [] := by simp only [dOut, ← g6]; rfl
          have e2 : dErr L = 81 := by simp only [dErr, ← g6]; rfl
          rw [e1, e2]
          exact finO2n intY
        · have h8 : bad last 2 = false := hb.trans h7
          have h9 : 0 < last.length := by
            simp only [bad, Bool.or_eq_false_iff, decide_eq_false_iff_not] at h8
            omega
          have e : stepR last 2 = some (last.set ((last.length : Int) - 1).toNat 2, (last.length : Int) - 1) := by
            simp only [stepR]; rw [if_pos (by omega), if_neg (by rw [h8]; simp), if_neg (by omega)]
          rw [e] at g6
          simp only at g6
          repeat (refine And.intro ?_ ?_; first | omega | (simp only [decide_eq_true_eq, decide_eq_false_iff_not]; simp only [Lay.d_n]; omega) | (simp [Lay.d] <;> omega))
          refine xl_set tt_ok boolY en (decide ((L.getD i.toNat row0).name = sElse)) (cs := [.bool (decide ((L.getD i.toNat row0).name = sElse))]) rfl rfl rfl rfl rfl rfl rfl (by simp only [Lay.d_n]; omega) (by simp only [Lay.d_n]; omega) rfl rfl (by simp) rfl ?_
          refine xl_go tt_ok ?_
          repeat (refine And.intro ?_ ?_; first | omega | (simp only [decide_eq_true_eq, decide_eq_false_iff_not]; simp only [Lay.d_n]; omega) | (simp [Lay.d] <;> omega))
          refine xl_push tt_ok intY out ((en.length : Int) - 1) 8 (cs := [.int .i64 ((en.length : Int) - 1)]) rfl rfl rfl rfl rfl rfl rfl rfl rfl rfl rfl rfl (by kernel_rfl) rfl rfl rfl rfl rfl (fun n hn => by cases hn; decide) rfl rfl rfl (by first | omega | (simp; omega)) (by first | omega | (simp; omega)) ?_
          refine xl_go tt_ok ?_
          repeat (refine And.intro ?_ ?_; first | omega | (simp only [decide_eq_true_eq, decide_eq_false_iff_not]; simp only [Lay.d_n]; omega) | (simp [Lay.d] <;> omega))
          refine again (i + 1, _, _) [(3, some 6)] (.of rfl rfl rfl rfl rfl rfl) ⟨by omega, by omega, by simp; omega, last.set ((last.length : Int) - 1).toNat 2, ?_, by simp; omega, ?_⟩ (by simp only; omega)
          · rw [hv, g4]
            simp only [Lay.d_n, List.length_map, List.map_set]
          · rw [hen]
            exact g6
      case e2 =>
        have hk : turnN (L.getD i.toNat row0).name = 3 := by
          simp only [decide_eq_true_eq, decide_eq_false_iff_not] at *
          simp only [turnN]
          simp_all
        rw [hk] at g6
        have hv : decide ((L.getD i.toNat row0).name = sElse) = is3 3 := by
          simp only [decide_eq_true_eq, decide_eq_false_iff_not] at *
          simp_all [is3]
        have hb := bad_is3 last (k := 3) (by omega)
        rw [← g4] at hb
        repeat (refine And.intro ?_ ?_; first | omega | (simp only [decide_eq_true_eq, decide_eq_false_iff_not]; simp only [Lay.d_n]; omega) | (simp [Lay.d] <;> omega))
        refine x_if (fun h7 => ?_) (fun h7 => ?_)
        · have e : stepR last 3 = none := by simp only [stepR]; rw [if_pos (by omega), if_pos (hb.trans h7)]
          rw [e] at g6
          simp only at g6
          have e1 : dOut L = [] := by simp only [dOut, ← g6]; rfl
          have e2 : dErr L = 81 := by simp only [dErr, ← g6]; rfl
          rw [e1, e2]
          exact finO2n intY
        · have h8 : bad last 3 = false := hb.trans h7
          have h9 : 0 < last.length := by
            simp only [bad, Bool.or_eq_false_iff, decide_eq_false_iff_not] at h8
            omega
          have e : stepR last 3 = some (last.set ((last.length : Int) - 1).toNat 3, (last.length : Int) - 1) := by
            simp only [stepR]; rw [if_pos (by omega), if_neg (by rw [h8]; simp), if_neg (by omega)]
          rw [e] at g6
          simp only at g6
          repeat (refine And.intro ?_ ?_; first | omega | (simp only [decide_eq_true_eq, decide_eq_false_iff_not]; simp only [Lay.d_n]; omega) | (simp [Lay.d] <;> omega))
          refine xl_set tt_ok boolY en (decide ((L.getD i.toNat row0).name = sElse)) (cs := [.bool (decide ((L.getD i.toNat row0).name = sElse))]) rfl rfl rfl rfl rfl rfl rfl (by simp only [Lay.d_n]; omega) (by simp only [Lay.d_n]; omega) rfl rfl (by simp) rfl ?_
          refine xl_go tt_ok ?_
          repeat (refine And.intro ?_ ?_; first | omega | (simp only [decide_eq_true_eq, decide_eq_false_iff_not]; simp only [Lay.d_n]; omega) | (simp [Lay.d] <;> omega))
          refine xl_push tt_ok intY out ((en.length : Int) - 1) 8 (cs := [.int .i64 ((en.length : Int) - 1)]) rfl rfl rfl rfl rfl rfl rfl rfl rfl rfl rfl rfl (by kernel_rfl) rfl rfl rfl rfl rfl (fun n hn => by cases hn; decide) rfl rfl rfl (by first | omega | (simp; omega)) (by first | omega | (simp; omega)) ?_
          refine xl_go tt_ok ?_
          repeat (refine And.intro ?_ ?_; first | omega | (simp only [decide_eq_true_eq, decide_eq_false_iff_not]; simp only [Lay.d_n]; omega) | (simp [Lay.d] <;> omega))
          refine again (i + 1, _, _) [(3, some 6)] (.of rfl rfl rfl rfl rfl rfl) ⟨by omega, by omega, by simp; omega, last.set ((last.length : Int) - 1).toNat 3, ?_, by simp; omega, ?_⟩ (by simp only; omega)
          · rw [hv, g4]
            simp only [Lay.d_n, List.length_map, List.map_set]
          · rw [hen]
            exact g6
      case f1 =>
        have hk : turnN (L.getD i.toNat row0).name = 4 := by
          simp only [decide_eq_true_eq, decide_eq_false_iff_not] at *
          simp only [turnN]
          simp_all
        rw [hk] at g6
        refine x_if (fun h7 => ?_) (fun h7 => ?_)
        · have h8 : (en.length : Int) = 0 := of_decide_eq_true h7
          have hb : bad last 4 = true := by unfold bad; rw [decide_eq_true (show (last.length : Int) = 0 by omega)]; rfl
          have e : stepR last 4 = none := by simp only [stepR]; rw [if_pos (by omega), if_pos hb]
          rw [e] at g6
          simp only at g6
          have e1 : dOut L = [] := by simp only [dOut, ← g6]; rfl
          have e2 : dErr L = 81 := by simp only [dErr, ← g6]; rfl
          rw [e1, e2]
          exact finO2n intY
        · have h8 : ¬ (en.length : Int) = 0 := of_decide_eq_false h7
          have hb : bad last 4 = false := by unfold bad; rw [decide_eq_false (show ¬ (last.length : Int) = 0 by omega)]; rfl
          have e : stepR last 4 = some ((last.set ((last.length : Int) - 1).toNat 4).take ((last.length : Int) - 1).toNat, (last.length : Int) - 1) := by
            simp only [stepR]; rw [if_pos (by omega), if_neg (by rw [hb]; simp), if_pos trivial]
          rw [e] at g6
          simp only at g6
          repeat (refine And.intro ?_ ?_; first | omega | (simp only [decide_eq_true_eq, decide_eq_false_iff_not]; simp only [Lay.d_n]; omega) | (simp [Lay.d] <;> omega))
          refine xl_cutTo tt_ok boolY en rfl rfl rfl rfl rfl rfl rfl rfl rfl rfl (by simp only [Lay.d_n]; omega) (by simp only [Lay.d_n]; omega) ?_
          refine xl_go tt_ok ?_
          refine xl_push tt_ok intY out ((en.length : Int) - 1) 8 (cs := [.int .i64 ((en.length : Int) - 1)]) rfl rfl rfl rfl rfl rfl rfl rfl rfl rfl rfl rfl (by kernel_rfl) rfl rfl rfl rfl rfl (fun n hn => by cases hn; decide) rfl rfl rfl (by first | omega | (simp; omega)) (by first | omega | (simp; omega)) ?_
          refine xl_go tt_ok ?_
          repeat (refine And.intro ?_ ?_; first | omega | (simp only [decide_eq_true_eq, decide_eq_false_iff_not]; simp only [Lay.d_n]; omega) | (simp [Lay.d] <;> omega))
          refine again (i + 1, _, _) [(3, some 7), (4, some 6)] (.of rfl rfl rfl rfl rfl rfl) ⟨by omega, by omega, by simp; omega, (last.set ((last.length : Int) - 1).toNat 4).take ((last.length : Int) - 1).toNat, ?_, by simp; omega, ?_⟩ (by simp only; omega)
          · rw [List.take_set_of_le (Nat.le_refl _), g4]
            simp only [Lay.d_n, List.length_map, List.map_take]
          · rw [hen]
            exact g6
    · have hd' : (L.getD i.toNat row0).dir = false := hd
      have hk : turnV (L.getD i.toNat row0) = 0 := by simp only [turnV]; rw [hd']; rfl
      rw [hk] at g6
      have e : stepR last 0 = some (last, (last.length : Int)) := by simp [stepR]
      rw [e] at g6
      simp only at g6
      repeat' refine x_iff (by decide) ?_
      refine xl_push tt_ok intY out (en.length : Int) 8 (cs := [.int .i64 (en.length : Int)]) rfl rfl rfl rfl rfl rfl rfl rfl rfl rfl rfl rfl (by kernel_rfl) rfl rfl rfl rfl rfl (fun n hn => by cases hn; decide) rfl rfl rfl (by omega) (by omega) ?_
      refine xl_go tt_ok ?_
      repeat (refine And.intro ?_ ?_; first | omega | (simp only [decide_eq_true_eq, decide_eq_false_iff_not]; simp only [Lay.d_n]; omega) | (simp [Lay.d] <;> omega))
      refine again (i + 1, _, _) [(3, some 6)] (.of rfl rfl rfl rfl rfl rfl) ⟨by omega, by omega, by simp; omega, last, g4, by omega, ?_⟩ (by simp only; omega)
      rw [hen]
      exact g6
  · have h2 : i = L.length := by
      have h3 : ¬ (i < (L.length : Int)) := of_decide_eq_false h
      omega
    have e : L.drop i.toNat = [] := List.drop_eq_nil_of_le (by omega)
    rw [e] at g6
    simp only [depthsFrom] at g6
    refine x_if (fun h6 => ?_) (fun h6 => ?_)
    · have h7 : 0 < (en.length : Int) := of_decide_eq_true h6
      rw [if_pos (by omega)] at g6
      have e1 : dOut L = [] := by simp only [dOut, ← g6]; rfl
      have e2 : dErr L = 81 := by simp only [dErr, ← g6]; rfl
      rw [e1, e2]
      exact finO2n intY
    · have h7 : ¬ 0 < (en.length : Int) := of_decide_eq_false h6
      rw [if_neg (by omega)] at g6
      have e1 : dOut L = out := by simp only [dOut, ← g6]; rfl
      have e2 : dErr L = 0 := by simp only [dErr, ← g6]; rfl
      rw [e1, e2]
      exact finO2 rfl
end Go.Proofs.Ytdonomneofdhfaa
