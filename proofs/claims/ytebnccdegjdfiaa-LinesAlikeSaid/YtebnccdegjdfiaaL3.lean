/- How deep rows stand: the document's answer. -/
import Derived.Test.YtebnccdegjdfiaaL2
namespace Go.Proofs.Ytebnccdegjdfiaa
open Go.GV Go.RowKit

abbrev intY : Lay Int := ⟨[fun i => .int .i64 i], 0⟩
abbrev boolY : Lay Bool := ⟨[fun b => .bool b], false⟩

def bad (last : List Int) (k : Int) : Bool := decide ((last.length : Int) = 0) || (decide (k < 4) && decide (last.getD ((last.length : Int) - 1).toNat 0 = 3))

/-- what a row does to the stack of what is open, and how deep it stands -/
def stepR (last : List Int) (k : Int) : Option (List Int × Int) :=
  if 1 < k then
    if bad last k = true then none
    else some (if k = 4 then (last.set ((last.length : Int) - 1).toNat k).take ((last.length : Int) - 1).toNat else last.set ((last.length : Int) - 1).toNat k, (last.length : Int) - 1)
  else some (if k = 1 then last ++ [1] else last, last.length)

def depthsFrom (last out : List Int) : List RowV → Option (List Int)
  | [] => if 0 < last.length then none else some out
  | r :: rest => match stepR last (turnV r) with
    | none => none
    | some (last', d) => depthsFrom last' (out ++ [d]) rest

def dOut (L : List RowV) : List Int := (depthsFrom [] [] L).getD []
def dErr (L : List RowV) : Int := if (depthsFrom [] [] L).isNone then 81 else 0

set_option maxRecDepth 100000 in
theorem refDepths_any (L : List RowV) (x : Value) (w : World) (hx : SlAt (im w) x (rowY.d L)) (hL : L.length * 48 ≤ 140737488355328) :
    Calls Try.prog 20 #[x] w (PureP w (OwnT 3 (intY.d (dOut L)) [.int .i64 (dErr L)])) := by
  refine x_fun tt_ok Try.func20 rfl rfl [(x, rowY.d L)] 1 [.r 0] rfl rfl rfl rfl (fun b hb => by simp at hb; subst hb; exact hx) ?_
  refine x_vc tt_ok ?_
  refine x_nil 4 3 intY rfl (x_nil 5 3 intY rfl ?_)
  refine x_loop (σ := Int × List Int × List Int) (fun (i, out, last) => ⟨[(6, .v (.int .i64 i)), (0, .r 0), (4, .r 3), (5, .r 4)], [], [(0, .sl (rowY.d L)), (3, .row 3 (intY.d out)), (4, .row 3 (intY.d last))], 5⟩)
    (fun (i, out, last) _ => 0 ≤ i ∧ i ≤ L.length ∧ out.length = i ∧ last.length ≤ i ∧ depthsFrom last out (L.drop i.toNat) = depthsFrom [] [] L) (fun (i, _, _) => (L.length - i).toNat) (fun (_, _, _) => by simp only; omega) (0, [], []) [(3, some 1), (4, some 2)] (.of rfl rfl rfl rfl rfl rfl)
    ⟨by omega, by simp, by simp, by simp, by simp⟩ ?_
  rintro ⟨i, out, last⟩ u hu ⟨g1, g2, g3, g4, g5⟩
  refine x_vc tt_ok ?_
  refine x_if (fun h => ?_) (fun h => ?_)
  · have h2 : i < L.length := of_decide_eq_true h
    rw [drop_at (d := row0) g1 h2] at g5
    simp only [depthsFrom] at g5
    repeat (refine And.intro ?_ ?_; first | omega | (simp only [decide_eq_true_eq, decide_eq_false_iff_not]; simp only [Lay.d_n]; omega) | (simp [Lay.d] <;> omega))
    refine xl_call0 (.int .i64 (turnV (L.getD i.toNat row0))) rfl rfl rfl rfl fn44 rfl rfl (fun E w F hs => turn_any _ w) ?_
    generalize turnV (L.getD i.toNat row0) = k at g5 ⊢
    refine xl_go tt_ok ?_
    refine x_if (fun h1 => ?_) (fun h1 => ?_)
    · have k1 : 1 < k := of_decide_eq_true h1
      repeat (refine And.intro ?_ ?_; first | omega | (simp only [decide_eq_true_eq, decide_eq_false_iff_not]; simp only [Lay.d_n]; omega) | (simp [Lay.d] <;> omega))
      refine x_if (fun h3 => ?_) (fun h3 => ?_)
      · have h4 : bad last k = true := h3
        have e : stepR last k = none := by simp only [stepR, k1, h4, if_true]
        rw [e] at g5
        simp only at g5
        have e1 : dOut L = [] := by simp only [dOut, ← g5]; rfl
        have e2 : dErr L = 81 := by simp only [dErr, ← g5]; rfl
        rw [e1, e2]
        exact finO2n intY
      · have h4 : bad last k = false := h3
        have h5 : 0 < last.length := by
          simp only [bad, Bool.or_eq_false_iff, decide_eq_false_iff_not] at h4
          omega
        have e : stepR last k = some (if k = 4 then (last.set ((last.length : Int) - 1).toNat k).take ((last.length : Int) - 1).toNat else last.set ((last.length : Int) - 1).toNat k, (last.length : Int) - 1) := by
          simp only [stepR, k1, h4, if_true, Bool.false_eq_true, if_false]
        rw [e] at g5
        simp only at g5
        repeat (refine And.intro ?_ ?_; first | omega | (simp only [decide_eq_true_eq, decide_eq_false_iff_not]; simp only [Lay.d_n]; omega) | (simp [Lay.d] <;> omega))
        refine xl_set tt_ok intY last k (cs := [.int .i64 k]) rfl rfl rfl rfl rfl rfl rfl (by simp only [Lay.d_n]; omega) (by simp only [Lay.d_n]; omega) rfl rfl (by simp) rfl ?_
        refine xl_go tt_ok ?_
        refine xl_push tt_ok intY out ((last.length : Int) - 1) 8 (cs := [.int .i64 ((last.length : Int) - 1)]) rfl rfl rfl rfl rfl rfl rfl rfl rfl rfl rfl rfl (by kernel_rfl) rfl rfl rfl rfl rfl (fun n hn => by cases hn; decide) rfl rfl rfl (by omega) (by omega) ?_
        refine xl_go tt_ok ?_
        refine x_iff (decide_eq_false (by omega)) ?_
        refine x_if (fun h6 => ?_) (fun h6 => ?_)
        · have h7 : k = 4 := of_decide_eq_true h6
          rw [if_pos h7] at g5
          refine xl_cutTo tt_ok intY _ rfl rfl rfl rfl rfl rfl rfl rfl rfl rfl (by simp only [Lay.d_n]; omega) (by simp only [Lay.d_n, List.length_set]; omega) ?_
          refine xl_go tt_ok ?_
          repeat (refine And.intro ?_ ?_; first | omega | (simp only [decide_eq_true_eq, decide_eq_false_iff_not]; simp only [Lay.d_n]; omega) | (simp [Lay.d] <;> omega))
          refine again (i + 1, _, _) [(3, some 5), (4, some 6)] (.of rfl rfl rfl rfl rfl rfl) ⟨by omega, by omega, by simp; omega, by first | omega | (simp; omega), ?_⟩ (by simp only; omega)
          exact g5
        · have h7 : ¬ k = 4 := of_decide_eq_false h6
          rw [if_neg h7] at g5
          repeat (refine And.intro ?_ ?_; first | omega | (simp only [decide_eq_true_eq, decide_eq_false_iff_not]; simp only [Lay.d_n]; omega) | (simp [Lay.d] <;> omega))
          refine again (i + 1, _, _) [(3, some 5)] (.of rfl rfl rfl rfl rfl rfl) ⟨by omega, by omega, by simp; omega, by first | omega | (simp; omega), ?_⟩ (by simp only; omega)
          exact g5
    · have k1 : ¬ 1 < k := of_decide_eq_false h1
      have e : stepR last k = some (if k = 1 then last ++ [1] else last, (last.length : Int)) := by simp only [stepR, k1, if_false]
      rw [e] at g5
      simp only at g5
      repeat (refine And.intro ?_ ?_; first | omega | (simp only [decide_eq_true_eq, decide_eq_false_iff_not]; simp only [Lay.d_n]; omega) | (simp [Lay.d] <;> omega))
      refine xl_push tt_ok intY out (last.length : Int) 8 (cs := [.int .i64 (last.length : Int)]) rfl rfl rfl rfl rfl rfl rfl rfl rfl rfl rfl rfl (by kernel_rfl) rfl rfl rfl rfl rfl (fun n hn => by cases hn; decide) rfl rfl rfl (by omega) (by omega) ?_
      refine xl_go tt_ok ?_
      refine x_if (fun h6 => ?_) (fun h6 => ?_)
      · have h7 : k = 1 := of_decide_eq_true h6
        rw [if_pos h7] at g5
        refine xl_push tt_ok intY last 1 8 (cs := [.int .i64 1]) rfl rfl rfl rfl rfl rfl rfl rfl rfl rfl rfl rfl (by kernel_rfl) rfl rfl rfl rfl rfl (fun n hn => by cases hn; decide) rfl rfl rfl (by omega) (by omega) ?_
        refine xl_go tt_ok ?_
        refine x_iff (decide_eq_false (by omega)) ?_
        repeat (refine And.intro ?_ ?_; first | omega | (simp only [decide_eq_true_eq, decide_eq_false_iff_not]; simp only [Lay.d_n]; omega) | (simp [Lay.d] <;> omega))
        refine again (i + 1, _, _) [(3, some 5), (4, some 6)] (.of rfl rfl rfl rfl rfl rfl) ⟨by omega, by omega, by simp; omega, by first | omega | (simp; omega), ?_⟩ (by simp only; omega)
        exact g5
      · have h7 : ¬ k = 1 := of_decide_eq_false h6
        rw [if_neg h7] at g5
        refine x_iff (decide_eq_false (by omega)) ?_
        repeat (refine And.intro ?_ ?_; first | omega | (simp only [decide_eq_true_eq, decide_eq_false_iff_not]; simp only [Lay.d_n]; omega) | (simp [Lay.d] <;> omega))
        refine again (i + 1, _, _) [(3, some 5)] (.of rfl rfl rfl rfl rfl rfl) ⟨by omega, by omega, by simp; omega, by first | omega | (simp; omega), ?_⟩ (by simp only; omega)
        exact g5
  · have h2 : i = L.length := by
      have h3 : ¬ (i < (L.length : Int)) := of_decide_eq_false h
      omega
    have e : L.drop i.toNat = [] := List.drop_eq_nil_of_le (by omega)
    rw [e] at g5
    simp only [depthsFrom] at g5
    refine x_if (fun h6 => ?_) (fun h6 => ?_)
    · have h7 : 0 < (last.length : Int) := of_decide_eq_true h6
      rw [if_pos (by omega)] at g5
      have e1 : dOut L = [] := by simp only [dOut, ← g5]; rfl
      have e2 : dErr L = 81 := by simp only [dErr, ← g5]; rfl
      rw [e1, e2]
      exact finO2n intY
    · have h7 : ¬ 0 < (last.length : Int) := of_decide_eq_false h6
      rw [if_neg (by omega)] at g5
      have e1 : dOut L = out := by simp only [dOut, ← g5]; rfl
      have e2 : dErr L = 0 := by simp only [dErr, ← g5]; rfl
      rw [e1, e2]
      exact finO2 rfl
end Go.Proofs.Ytebnccdegjdfiaa
