/- The statement of CondTells, out of its walk: for any input the law answers true, and the input stays. -/
import Derived.Test.YtnjmkeijjapejaaGreatDoorYT6
import Derived.Maps.OwnSet
import Derived.Carry
import Derived.Test.YtnjmkeijjapejaaGreatDoorCards
import Derived.ProofKit
import Derived.OpenShut
import Derived.ShutString
import Derived.ChangeOld
import Derived.Below
import Derived.SizedLaws
import Derived.HandedShaped
import Derived.Handed
import Derived.Lay
import Derived.LaidLaws
import Derived.LaidMore
import Derived.Test.YtnjmkeijjapejaaGreatDoorRows
import Derived.Test.YtnjmkeijjapejaaGreatDoorTie
import Derived.SevenTiedAt
set_option linter.unusedSimpArgs false
set_option linter.unusedVariables false
namespace Go.Proofs.YtnjmkeijjapejaaGreatDoor
open Go.GV Go.RowKit
def partY : Lay Cd.Tk := ⟨[fun t => .string (Cd.opT t), fun t => .int .u64 (Cd.vT t), fun t => .bool (Cd.uT t)], .num 0 false⟩
def partV1 (t : Cd.Tk) : Value := .agg #[.string (Cd.opT t), .int .u64 (Cd.vT t), .bool (Cd.uT t)]
def woV (w : Cd.Wo) : Value := .agg #[.int .u64 w.V, .bool w.U, .int .i64 w.D, .int .i64 w.E, .bool w.bad]
set_option maxRecDepth 100000 in
theorem levelR_any (s : ByteArray) (w : World) : Calls Tryz.prog 76 #[.string s] w (PureP w fun v _ => v = .int .i64 (Cd.lev s)) := by
  refine x_fun tt_ok Tryz.func76 rfl rfl [] 0 [.v (.string s)] rfl rfl rfl rfl (fun b hb => by cases hb) ?_
  refine x_vc tt_ok ?_
  refine x_if (fun h => ?_) (fun h => ?_)
  · have h := of_decide_eq_true h
    subst h
    exact fin1 (fun _ _ => rfl)
  refine x_if (fun h => ?_) (fun h => ?_)
  · have h := of_decide_eq_true h
    subst h
    exact fin1 (fun _ _ => rfl)
  refine x_if (fun h => ?_) (fun h => ?_)
  · have h := of_decide_eq_true h
    subst h
    exact fin1 (fun _ _ => rfl)
  refine x_if (fun h => ?_) (fun h => ?_)
  · have h := of_decide_eq_true h
    subst h
    exact fin1 (fun _ _ => rfl)
  refine x_if (fun h => ?_) (fun h => ?_)
  · have h := of_decide_eq_true h
    subst h
    exact fin1 (fun _ _ => rfl)
  refine x_if (fun h => ?_) (fun h => ?_)
  · have h := of_decide_eq_true h
    subst h
    refine x_ift rfl ?_
    exact fin1 (fun _ _ => rfl)
  refine x_if (fun h => ?_) (fun h => ?_)
  · have h := of_decide_eq_true h
    subst h
    exact fin1 (fun _ _ => rfl)
  refine x_if (fun h => ?_) (fun h => ?_)
  · have h := of_decide_eq_true h
    subst h
    refine x_ift rfl ?_
    exact fin1 (fun _ _ => rfl)
  refine x_if (fun h => ?_) (fun h => ?_)
  · have h := of_decide_eq_true h
    subst h
    refine x_ift rfl ?_
    exact fin1 (fun _ _ => rfl)
  refine x_if (fun h => ?_) (fun h => ?_)
  · have h := of_decide_eq_true h
    subst h
    refine x_ift rfl ?_
    exact fin1 (fun _ _ => rfl)
  refine x_if (fun h => ?_) (fun h => ?_)
  · have h := of_decide_eq_true h
    subst h
    exact fin1 (fun _ _ => rfl)
  refine x_if (fun h => ?_) (fun h => ?_)
  · have h := of_decide_eq_true h
    subst h
    refine x_ift rfl ?_
    exact fin1 (fun _ _ => rfl)
  refine x_if (fun h => ?_) (fun h => ?_)
  · have h := of_decide_eq_true h
    subst h
    exact fin1 (fun _ _ => rfl)
  refine x_if (fun h => ?_) (fun h => ?_)
  · have h := of_decide_eq_true h
    subst h
    refine x_ift rfl ?_
    exact fin1 (fun _ _ => rfl)
  refine x_if (fun h => ?_) (fun h => ?_)
  · have h := of_decide_eq_true h
    subst h
    exact fin1 (fun _ _ => rfl)
  refine x_if (fun h => ?_) (fun h => ?_)
  · have h := of_decide_eq_true h
    subst h
    refine x_ift rfl ?_
    exact fin1 (fun _ _ => rfl)
  refine x_if (fun h => ?_) (fun h => ?_)
  · have h := of_decide_eq_true h
    subst h
    refine x_ift rfl ?_
    exact fin1 (fun _ _ => rfl)
  refine x_if (fun h => ?_) (fun h => ?_)
  · have h := of_decide_eq_true h
    subst h
    exact fin1 (fun _ _ => rfl)
  refine fin1 (fun _ _ => ?_)
  simp only [decide_eq_false_iff_not] at *
  have : Cd.lev s = 0 := by unfold Cd.lev; simp [*]
  rw [this]; rfl
set_option maxRecDepth 100000 in
theorem endsR_any (t : Cd.Tk) (w : World) : Calls Tryz.prog 77 #[partV1 t] w (PureP w fun v _ => v = .bool (Cd.ends t)) := by
  refine x_fun tt_ok Tryz.func77 rfl rfl [] 0 [.v (partV1 t)] rfl rfl rfl rfl (fun b hb => by cases hb) ?_
  refine x_vc tt_ok ?_
  exact fin1 (fun _ _ => rfl)
set_option maxRecDepth 100000 in
theorem truthR_any (b : Bool) (w : World) : Calls Tryz.prog 78 #[.bool b] w (PureP w fun v _ => v = .int .u64 (Cd.truth b)) := by
  refine x_fun tt_ok Tryz.func78 rfl rfl [] 0 [.v (.bool b)] rfl rfl rfl rfl (fun b hb => by cases hb) ?_
  refine x_vc tt_ok ?_
  refine x_if (fun h => ?_) (fun h => ?_)
  · have h : b = true := h
    subst h
    exact fin1 (fun _ _ => rfl)
  · have h : b = false := h
    subst h
    exact fin1 (fun _ _ => rfl)
theorem drop_cons {α : Type} (d : α) {L : List α} {i : Nat} (h : i < L.length) : L.drop i = L.getD i d :: L.drop (i + 1) := by
  rw [List.drop_eq_getElem_cons h, List.getD_eq_getElem?_getD, List.getElem?_eq_getElem h]
  rfl
set_option maxHeartbeats 1000000 in
set_option maxRecDepth 100000 in
theorem question_any (L : List Cd.Tk) (y : Value) (w : World) (hy : SlAt (im w) y (partY.d L)) (hL : L.length ≤ 1000000) : Calls Tryz.prog 26 #[y] w (PureP w fun v _ => v = .int .i64 (Cd.quF 0 0 L)) := by
  refine x_fun tt_ok Tryz.func26 rfl rfl [(y, partY.d L)] 1 [.r 0] rfl rfl rfl rfl (fun b hb => by simp at hb; subst hb; exact hy) ?_
  refine x_vc tt_ok ?_
  refine x_loop (σ := Int × Int) (fun (d, i) => ⟨[(4, .v (.int .i64 i)), (3, .v (.int .i64 d)), (0, .r 0)], [], [(0, .sl (partY.d L))], 1⟩)
    (fun (d, i) _ => 0 ≤ i ∧ i ≤ L.length ∧ -i ≤ d ∧ d ≤ i ∧ Cd.quF i d (L.drop i.toNat) = Cd.quF 0 0 L) (fun (_, i) => (L.length - i).toNat) (fun (_, _) => Nat.le_refl _) (0, 0) [] (.of rfl rfl rfl rfl rfl rfl) ⟨by omega, by omega, by omega, by omega, rfl⟩ ?_
  rintro ⟨d, i⟩ u1 hu1 ⟨g1, g2, g3, g4, g5⟩
  refine x_vc tt_ok ?_
  refine x_if (fun h1 => ?_) (fun h1 => ?_)
  · have h1 : i < L.length := of_decide_eq_true h1
    rw [drop_cons (.num 0 false) (by omega : i.toNat < L.length), Cd.quF] at g5
    obtain ⟨x, hx⟩ : ∃ x, x = L.getD i.toNat (.num 0 false) := ⟨_, rfl⟩
    rw [← hx] at g5
    repeat (refine And.intro ?_ ?_; first | omega | (simp only [Lay.d_n]; omega))
    refine x_if (fun h2 => ?_) (fun h2 => ?_)
    · have h2 : Cd.opT x = Cd.lp := by rw [hx]; exact of_decide_eq_true h2
      have hd : Cd.dl d x = d + 1 := by unfold Cd.dl; rw [h2, if_neg (by decide), if_pos rfl]
      repeat (refine And.intro ?_ ?_; first | omega | (simp only [Lay.d_n]; omega))
      refine x_iff (by show decide (Cd.opT (L.getD i.toNat partY.dft) = Cd.rp) = false; rw [show L.getD i.toNat partY.dft = x from hx.symm, h2]; decide) ?_
      repeat (refine And.intro ?_ ?_; first | omega | (simp only [Lay.d_n]; omega))
      rw [hd] at g5
      refine x_if (fun h4 => ?_) (fun h4 => ?_)
      · have h4 : (decide ((d + 1) = 0) && decide (Cd.opT x = Cd.qm)) = true := by rw [hx]; exact h4
        rw [if_pos (by simpa using h4)] at g5
        exact fin1 (fun _ _ => by rw [← g5]; rfl)
      · have h4 : (decide ((d + 1) = 0) && decide (Cd.opT x = Cd.qm)) = false := by rw [hx]; exact h4
        rw [if_neg (by rw [← Bool.not_eq_true] at h4; simpa using h4)] at g5
        repeat (refine And.intro ?_ ?_; first | omega | (simp only [Lay.d_n]; omega))
        exact again ((d + 1), i + 1) [] (.of rfl rfl rfl rfl rfl rfl) ⟨by omega, by omega, by omega, by omega, by rw [show (i + 1).toNat = i.toNat + 1 by omega]; exact g5⟩ (by simp only; omega)
    have h2 : ¬ Cd.opT x = Cd.lp := by rw [hx]; exact of_decide_eq_false h2
    repeat (refine And.intro ?_ ?_; first | omega | (simp only [Lay.d_n]; omega))
    refine x_if (fun h3 => ?_) (fun h3 => ?_)
    · have h3 : Cd.opT x = Cd.rp := by rw [hx]; exact of_decide_eq_true h3
      have hd : Cd.dl d x = d - 1 := by unfold Cd.dl; rw [if_pos h3, if_neg h2]
      repeat (refine And.intro ?_ ?_; first | omega | (simp only [Lay.d_n]; omega))
      repeat (refine And.intro ?_ ?_; first | omega | (simp only [Lay.d_n]; omega))
      rw [hd] at g5
      refine x_if (fun h4 => ?_) (fun h4 => ?_)
      · have h4 : (decide ((d - 1) = 0) && decide (Cd.opT x = Cd.qm)) = true := by rw [hx]; exact h4
        rw [if_pos (by simpa using h4)] at g5
        exact fin1 (fun _ _ => by rw [← g5]; rfl)
      · have h4 : (decide ((d - 1) = 0) && decide (Cd.opT x = Cd.qm)) = false := by rw [hx]; exact h4
        rw [if_neg (by rw [← Bool.not_eq_true] at h4; simpa using h4)] at g5
        repeat (refine And.intro ?_ ?_; first | omega | (simp only [Lay.d_n]; omega))
        exact again ((d - 1), i + 1) [] (.of rfl rfl rfl rfl rfl rfl) ⟨by omega, by omega, by omega, by omega, by rw [show (i + 1).toNat = i.toNat + 1 by omega]; exact g5⟩ (by simp only; omega)
    have h3 : ¬ Cd.opT x = Cd.rp := by rw [hx]; exact of_decide_eq_false h3
    have hd : Cd.dl d x = d := by unfold Cd.dl; rw [if_neg h3, if_neg h2]
    repeat (refine And.intro ?_ ?_; first | omega | (simp only [Lay.d_n]; omega))
    rw [hd] at g5
    refine x_if (fun h4 => ?_) (fun h4 => ?_)
    · have h4 : (decide (d = 0) && decide (Cd.opT x = Cd.qm)) = true := by rw [hx]; exact h4
      rw [if_pos (by simpa using h4)] at g5
      exact fin1 (fun _ _ => by rw [← g5]; rfl)
    · have h4 : (decide (d = 0) && decide (Cd.opT x = Cd.qm)) = false := by rw [hx]; exact h4
      rw [if_neg (by rw [← Bool.not_eq_true] at h4; simpa using h4)] at g5
      repeat (refine And.intro ?_ ?_; first | omega | (simp only [Lay.d_n]; omega))
      exact again (d, i + 1) [] (.of rfl rfl rfl rfl rfl rfl) ⟨by omega, by omega, by omega, by omega, by rw [show (i + 1).toNat = i.toNat + 1 by omega]; exact g5⟩ (by simp only; omega)
  have h1 : ¬ i < L.length := of_decide_eq_false h1
  rw [List.drop_eq_nil_of_le (by omega), Cd.quF] at g5
  exact fin1 (fun _ _ => by rw [← g5]; rfl)
set_option maxHeartbeats 1000000 in
set_option maxRecDepth 100000 in
theorem colon_any (L : List Cd.Tk) (at' : Int) (y : Value) (w : World) (hy : SlAt (im w) y (partY.d L)) (hL : L.length ≤ 1000000) (ha : 0 ≤ at') (hal : at' ≤ L.length) : Calls Tryz.prog 27 #[y, .int .i64 at'] w (PureP w fun v _ => v = .int .i64 (Cd.coF at' 0 0 (L.drop at'.toNat))) := by
  obtain ⟨R, hR⟩ : ∃ R, R = Cd.coF at' 0 0 (L.drop at'.toNat) := ⟨_, rfl⟩
  rw [← hR]
  refine x_fun tt_ok Tryz.func27 rfl rfl [(y, partY.d L)] 1 [.r 0, .v (.int .i64 at')] rfl rfl rfl rfl (fun b hb => by simp at hb; subst hb; exact hy) ?_
  refine x_vc tt_ok ?_
  refine x_loop (σ := Int × Int × Int) (fun (d, o, i) => ⟨[(7, .v (.int .i64 i)), (6, .v (.int .i64 o)), (5, .v (.int .i64 d)), (0, .r 0)], [], [(0, .sl (partY.d L))], 1⟩)
    (fun (d, o, i) _ => 0 ≤ i ∧ i ≤ L.length ∧ -i ≤ d ∧ d ≤ i ∧ -i ≤ o ∧ o ≤ i ∧ Cd.coF i d o (L.drop i.toNat) = R) (fun (_, _, i) => (L.length - i).toNat) (fun (_, _, _) => Nat.le_refl _) (0, 0, at') [] (.of rfl rfl rfl rfl rfl rfl) ⟨by omega, by omega, by omega, by omega, by omega, by omega, hR.symm⟩ ?_
  rintro ⟨d, o, i⟩ u1 hu1 ⟨g1, g2, g3, g4, g6, g7, g5⟩
  refine x_vc tt_ok ?_
  refine x_if (fun h1 => ?_) (fun h1 => ?_)
  · have h1 : i < L.length := of_decide_eq_true h1
    rw [drop_cons (.num 0 false) (by omega : i.toNat < L.length), Cd.coF] at g5
    obtain ⟨x, hx⟩ : ∃ x, x = L.getD i.toNat (.num 0 false) := ⟨_, rfl⟩
    rw [← hx] at g5
    repeat (refine And.intro ?_ ?_; first | omega | (simp only [Lay.d_n]; omega))
    refine x_if (fun h2 => ?_) (fun h2 => ?_)
    · have h2 : Cd.opT x = Cd.lp := by rw [hx]; exact of_decide_eq_true h2
      have hd : Cd.dl d x = d + 1 := by unfold Cd.dl; rw [h2, if_neg (by decide), if_pos rfl]
      repeat (refine And.intro ?_ ?_; first | omega | (simp only [Lay.d_n]; omega))
      refine x_iff (by show decide (Cd.opT (L.getD i.toNat partY.dft) = Cd.rp) = false; rw [show L.getD i.toNat partY.dft = x from hx.symm, h2]; decide) ?_
      repeat (refine And.intro ?_ ?_; first | omega | (simp only [Lay.d_n]; omega))
      rw [hd] at g5
      refine x_if (fun h4 => ?_) (fun h4 => ?_)
      · have h4 : (decide ((d + 1) = 0) && decide (Cd.opT x = Cd.qm)) = true := by rw [hx]; exact h4
        have h4 : (d + 1) = 0 ∧ Cd.opT x = Cd.qm := by simpa using h4
        rw [if_neg (fun h => by rw [h4.2] at h; exact absurd h.2 (by decide)), if_pos h4] at g5
        repeat (refine And.intro ?_ ?_; first | omega | (simp only [Lay.d_n]; omega))
        refine x_iff (by show (decide ((d + 1) = 0) && decide (Cd.opT (L.getD i.toNat partY.dft) = Cd.cl)) = false; rw [show L.getD i.toNat partY.dft = x from hx.symm, h4.2, Bool.and_eq_false_iff]; exact .inr (by decide)) ?_
        repeat (refine And.intro ?_ ?_; first | omega | (simp only [Lay.d_n]; omega))
        exact again ((d + 1), o + 1, i + 1) [] (.of rfl rfl rfl rfl rfl rfl) ⟨by omega, by omega, by omega, by omega, by omega, by omega, by rw [show (i + 1).toNat = i.toNat + 1 by omega]; exact g5⟩ (by simp only; omega)
      have h4 : (decide ((d + 1) = 0) && decide (Cd.opT x = Cd.qm)) = false := by rw [hx]; exact h4
      have h4 : ¬ ((d + 1) = 0 ∧ Cd.opT x = Cd.qm) := by rw [← Bool.not_eq_true] at h4; simpa using h4
      rw [if_neg h4] at g5
      repeat (refine And.intro ?_ ?_; first | omega | (simp only [Lay.d_n]; omega))
      refine x_if (fun h5 => ?_) (fun h5 => ?_)
      · have h5 : (decide ((d + 1) = 0) && decide (Cd.opT x = Cd.cl)) = true := by rw [hx]; exact h5
        rw [if_pos (by simpa using h5)] at g5
        repeat (refine And.intro ?_ ?_; first | omega | (simp only [Lay.d_n]; omega))
        refine x_if (fun h6 => ?_) (fun h6 => ?_)
        · have h6 : o - 1 = 0 := of_decide_eq_true h6
          rw [if_pos h6] at g5
          exact fin1 (fun _ _ => by rw [← g5]; rfl)
        · have h6 : ¬ o - 1 = 0 := of_decide_eq_false h6
          rw [if_neg h6] at g5
          repeat (refine And.intro ?_ ?_; first | omega | (simp only [Lay.d_n]; omega))
          exact again ((d + 1), o - 1, i + 1) [] (.of rfl rfl rfl rfl rfl rfl) ⟨by omega, by omega, by omega, by omega, by omega, by omega, by rw [show (i + 1).toNat = i.toNat + 1 by omega]; exact g5⟩ (by simp only; omega)
      have h5 : (decide ((d + 1) = 0) && decide (Cd.opT x = Cd.cl)) = false := by rw [hx]; exact h5
      rw [if_neg (by rw [← Bool.not_eq_true] at h5; simpa using h5)] at g5
      repeat (refine And.intro ?_ ?_; first | omega | (simp only [Lay.d_n]; omega))
      exact again ((d + 1), o, i + 1) [] (.of rfl rfl rfl rfl rfl rfl) ⟨by omega, by omega, by omega, by omega, by omega, by omega, by rw [show (i + 1).toNat = i.toNat + 1 by omega]; exact g5⟩ (by simp only; omega)
    have h2 : ¬ Cd.opT x = Cd.lp := by rw [hx]; exact of_decide_eq_false h2
    repeat (refine And.intro ?_ ?_; first | omega | (simp only [Lay.d_n]; omega))
    refine x_if (fun h3 => ?_) (fun h3 => ?_)
    · have h3 : Cd.opT x = Cd.rp := by rw [hx]; exact of_decide_eq_true h3
      have hd : Cd.dl d x = d - 1 := by unfold Cd.dl; rw [if_pos h3, if_neg h2]
      repeat (refine And.intro ?_ ?_; first | omega | (simp only [Lay.d_n]; omega))
      repeat (refine And.intro ?_ ?_; first | omega | (simp only [Lay.d_n]; omega))
      rw [hd] at g5
      refine x_if (fun h4 => ?_) (fun h4 => ?_)
      · have h4 : (decide ((d - 1) = 0) && decide (Cd.opT x = Cd.qm)) = true := by rw [hx]; exact h4
        have h4 : (d - 1) = 0 ∧ Cd.opT x = Cd.qm := by simpa using h4
        rw [if_neg (fun h => by rw [h4.2] at h; exact absurd h.2 (by decide)), if_pos h4] at g5
        repeat (refine And.intro ?_ ?_; first | omega | (simp only [Lay.d_n]; omega))
        refine x_iff (by show (decide ((d - 1) = 0) && decide (Cd.opT (L.getD i.toNat partY.dft) = Cd.cl)) = false; rw [show L.getD i.toNat partY.dft = x from hx.symm, h4.2, Bool.and_eq_false_iff]; exact .inr (by decide)) ?_
        repeat (refine And.intro ?_ ?_; first | omega | (simp only [Lay.d_n]; omega))
        exact again ((d - 1), o + 1, i + 1) [] (.of rfl rfl rfl rfl rfl rfl) ⟨by omega, by omega, by omega, by omega, by omega, by omega, by rw [show (i + 1).toNat = i.toNat + 1 by omega]; exact g5⟩ (by simp only; omega)
      have h4 : (decide ((d - 1) = 0) && decide (Cd.opT x = Cd.qm)) = false := by rw [hx]; exact h4
      have h4 : ¬ ((d - 1) = 0 ∧ Cd.opT x = Cd.qm) := by rw [← Bool.not_eq_true] at h4; simpa using h4
      rw [if_neg h4] at g5
      repeat (refine And.intro ?_ ?_; first | omega | (simp only [Lay.d_n]; omega))
      refine x_if (fun h5 => ?_) (fun h5 => ?_)
      · have h5 : (decide ((d - 1) = 0) && decide (Cd.opT x = Cd.cl)) = true := by rw [hx]; exact h5
        rw [if_pos (by simpa using h5)] at g5
        repeat (refine And.intro ?_ ?_; first | omega | (simp only [Lay.d_n]; omega))
        refine x_if (fun h6 => ?_) (fun h6 => ?_)
        · have h6 : o - 1 = 0 := of_decide_eq_true h6
          rw [if_pos h6] at g5
          exact fin1 (fun _ _ => by rw [← g5]; rfl)
        · have h6 : ¬ o - 1 = 0 := of_decide_eq_false h6
          rw [if_neg h6] at g5
          repeat (refine And.intro ?_ ?_; first | omega | (simp only [Lay.d_n]; omega))
          exact again ((d - 1), o - 1, i + 1) [] (.of rfl rfl rfl rfl rfl rfl) ⟨by omega, by omega, by omega, by omega, by omega, by omega, by rw [show (i + 1).toNat = i.toNat + 1 by omega]; exact g5⟩ (by simp only; omega)
      have h5 : (decide ((d - 1) = 0) && decide (Cd.opT x = Cd.cl)) = false := by rw [hx]; exact h5
      rw [if_neg (by rw [← Bool.not_eq_true] at h5; simpa using h5)] at g5
      repeat (refine And.intro ?_ ?_; first | omega | (simp only [Lay.d_n]; omega))
      exact again ((d - 1), o, i + 1) [] (.of rfl rfl rfl rfl rfl rfl) ⟨by omega, by omega, by omega, by omega, by omega, by omega, by rw [show (i + 1).toNat = i.toNat + 1 by omega]; exact g5⟩ (by simp only; omega)
    have h3 : ¬ Cd.opT x = Cd.rp := by rw [hx]; exact of_decide_eq_false h3
    have hd : Cd.dl d x = d := by unfold Cd.dl; rw [if_neg h3, if_neg h2]
    repeat (refine And.intro ?_ ?_; first | omega | (simp only [Lay.d_n]; omega))
    rw [hd] at g5
    refine x_if (fun h4 => ?_) (fun h4 => ?_)
    · have h4 : (decide (d = 0) && decide (Cd.opT x = Cd.qm)) = true := by rw [hx]; exact h4
      have h4 : d = 0 ∧ Cd.opT x = Cd.qm := by simpa using h4
      rw [if_neg (fun h => by rw [h4.2] at h; exact absurd h.2 (by decide)), if_pos h4] at g5
      repeat (refine And.intro ?_ ?_; first | omega | (simp only [Lay.d_n]; omega))
      refine x_iff (by show (decide (d = 0) && decide (Cd.opT (L.getD i.toNat partY.dft) = Cd.cl)) = false; rw [show L.getD i.toNat partY.dft = x from hx.symm, h4.2, Bool.and_eq_false_iff]; exact .inr (by decide)) ?_
      repeat (refine And.intro ?_ ?_; first | omega | (simp only [Lay.d_n]; omega))
      exact again (d, o + 1, i + 1) [] (.of rfl rfl rfl rfl rfl rfl) ⟨by omega, by omega, by omega, by omega, by omega, by omega, by rw [show (i + 1).toNat = i.toNat + 1 by omega]; exact g5⟩ (by simp only; omega)
    have h4 : (decide (d = 0) && decide (Cd.opT x = Cd.qm)) = false := by rw [hx]; exact h4
    have h4 : ¬ (d = 0 ∧ Cd.opT x = Cd.qm) := by rw [← Bool.not_eq_true] at h4; simpa using h4
    rw [if_neg h4] at g5
    repeat (refine And.intro ?_ ?_; first | omega | (simp only [Lay.d_n]; omega))
    refine x_if (fun h5 => ?_) (fun h5 => ?_)
    · have h5 : (decide (d = 0) && decide (Cd.opT x = Cd.cl)) = true := by rw [hx]; exact h5
      rw [if_pos (by simpa using h5)] at g5
      repeat (refine And.intro ?_ ?_; first | omega | (simp only [Lay.d_n]; omega))
      refine x_if (fun h6 => ?_) (fun h6 => ?_)
      · have h6 : o - 1 = 0 := of_decide_eq_true h6
        rw [if_pos h6] at g5
        exact fin1 (fun _ _ => by rw [← g5]; rfl)
      · have h6 : ¬ o - 1 = 0 := of_decide_eq_false h6
        rw [if_neg h6] at g5
        repeat (refine And.intro ?_ ?_; first | omega | (simp only [Lay.d_n]; omega))
        exact again (d, o - 1, i + 1) [] (.of rfl rfl rfl rfl rfl rfl) ⟨by omega, by omega, by omega, by omega, by omega, by omega, by rw [show (i + 1).toNat = i.toNat + 1 by omega]; exact g5⟩ (by simp only; omega)
    have h5 : (decide (d = 0) && decide (Cd.opT x = Cd.cl)) = false := by rw [hx]; exact h5
    rw [if_neg (by rw [← Bool.not_eq_true] at h5; simpa using h5)] at g5
    repeat (refine And.intro ?_ ?_; first | omega | (simp only [Lay.d_n]; omega))
    exact again (d, o, i + 1) [] (.of rfl rfl rfl rfl rfl rfl) ⟨by omega, by omega, by omega, by omega, by omega, by omega, by rw [show (i + 1).toNat = i.toNat + 1 by omega]; exact g5⟩ (by simp only; omega)
  have h1 : ¬ i < L.length := of_decide_eq_false h1
  rw [List.drop_eq_nil_of_le (by omega), Cd.coF] at g5
  exact fin1 (fun _ _ => by rw [← g5]; rfl)
set_option maxHeartbeats 1000000 in
set_option maxRecDepth 100000 in
theorem loosest_any (L : List Cd.Tk) (y : Value) (w : World) (hy : SlAt (im w) y (partY.d L)) (hL : L.length ≤ 1000000) : Calls Tryz.prog 58 #[y] w (PureP w fun v _ => v = .int .i64 (Cd.loF 0 0 false (-1) 11 L)) := by
  refine x_fun tt_ok Tryz.func58 rfl rfl [(y, partY.d L)] 1 [.r 0] rfl rfl rfl rfl (fun b hb => by simp at hb; subst hb; exact hy) ?_
  refine x_vc tt_ok ?_
  refine x_loop (σ := Int × Int × Int × Int) (fun (a, b, d, i) => ⟨[(6, .v (.int .i64 i)), (5, .v (.int .i64 d)), (4, .v (.int .i64 b)), (3, .v (.int .i64 a)), (0, .r 0)], [], [(0, .sl (partY.d L))], 1⟩)
    (fun (a, b, d, i) _ => 0 ≤ i ∧ i ≤ L.length ∧ -i ≤ d ∧ d ≤ i ∧ Cd.loF i d (decide (0 < i) && Cd.ends (L.getD (i - 1).toNat (.num 0 false))) a b (L.drop i.toNat) = Cd.loF 0 0 false (-1) 11 L) (fun (_, _, _, i) => (L.length - i).toNat) (fun (_, _, _, _) => Nat.le_refl _) (-1, 11, 0, 0) [] (.of rfl rfl rfl rfl rfl rfl) ⟨by omega, by omega, by omega, by omega, rfl⟩ ?_
  rintro ⟨a, b, d, i⟩ u1 hu1 ⟨g1, g2, g3, g4, g5⟩
  refine x_vc tt_ok ?_
  refine x_if (fun h1 => ?_) (fun h1 => ?_)
  · have h1 : i < L.length := of_decide_eq_true h1
    rw [drop_cons (.num 0 false) (by omega : i.toNat < L.length), Cd.loF] at g5
    obtain ⟨x, hx⟩ : ∃ x, x = L.getD i.toNat (.num 0 false) := ⟨_, rfl⟩
    rw [← hx] at g5
    have hpe : (decide (0 < i + 1) && Cd.ends (L.getD (i + 1 - 1).toNat (.num 0 false))) = Cd.ends x := by
      rw [show i + 1 - 1 = i by omega, ← hx, decide_eq_true (by omega : 0 < i + 1), Bool.true_and]
    repeat (refine And.intro ?_ ?_; first | omega | (simp only [Lay.d_n]; omega))
    refine x_if (fun h2 => ?_) (fun h2 => ?_)
    · have h2 : Cd.opT x = Cd.lp := by rw [hx]; exact of_decide_eq_true h2
      have hd : Cd.dl d x = d + 1 := by unfold Cd.dl; rw [h2, if_neg (by decide), if_pos rfl]
      repeat (refine And.intro ?_ ?_; first | omega | (simp only [Lay.d_n]; omega))
      refine x_iff (by show decide (Cd.opT (L.getD i.toNat partY.dft) = Cd.rp) = false; rw [show L.getD i.toNat partY.dft = x from hx.symm, h2]; decide) ?_
      repeat (refine And.intro ?_ ?_; first | omega | (simp only [Lay.d_n]; omega))
      rw [hd] at g5
      refine xl_call0 (.int .i64 (Cd.lev (Cd.opT x))) rfl rfl rfl rfl fn76 rfl rfl (fun E w F hs => by rw [hx]; exact levelR_any _ w) ?_
      refine xl_go tt_ok ?_
      repeat (refine And.intro ?_ ?_; first | omega | (simp only [Lay.d_n]; omega) | (simp only [decide_eq_true_eq, decide_eq_false_iff_not, Bool.or_eq_false_iff, Bool.and_eq_true, Bool.or_eq_true, Bool.and_eq_false_iff, Bool.not_eq_true', Bool.not_eq_false', Lay.d_n]; omega) | (simp only [decide_eq_true_eq, decide_eq_false_iff_not, Bool.or_eq_false_iff, Bool.and_eq_true, Bool.or_eq_true, Bool.and_eq_false_iff, Bool.not_eq_true', Bool.not_eq_false']; omega) | (simp only [decide_eq_true_eq, decide_eq_false_iff_not, Bool.or_eq_false_iff]; simp only [Lay.d_n]; omega))
      refine xl_gcallF (.bool (Cd.ends (L.getD (i - 1).toNat (.num 0 false)))) rfl rfl rfl rfl fn77 rfl rfl (fun E w F hs => endsR_any _ w) ?_
      refine xl_go tt_ok ?_
      refine x_if (fun h4 => ?_) (fun h4 => ?_)
      · have h4 : ((((decide ((d + 1) = 0) && decide (0 < Cd.lev (Cd.opT x))) && decide (Cd.lev (Cd.opT x) ≤ b)) && decide (0 < i)) && Cd.ends (L.getD (i - 1).toNat (.num 0 false))) = true := h4
        rw [if_pos (by simp only [Bool.and_eq_true, decide_eq_true_eq] at h4 ⊢; exact ⟨h4.1.1.1.1, h4.1.1.1.2, h4.1.1.2, h4.1.2, h4.2⟩)] at g5
        repeat (refine And.intro ?_ ?_; first | omega | (simp only [Lay.d_n]; omega))
        exact again (i, Cd.lev (Cd.opT x), (d + 1), i + 1) [] (.of rfl rfl rfl rfl rfl rfl) ⟨by omega, by omega, by omega, by omega, by rw [show (i + 1).toNat = i.toNat + 1 by omega, hpe]; exact g5⟩ (by simp only; omega)
      have h4 : ((((decide ((d + 1) = 0) && decide (0 < Cd.lev (Cd.opT x))) && decide (Cd.lev (Cd.opT x) ≤ b)) && decide (0 < i)) && Cd.ends (L.getD (i - 1).toNat (.num 0 false))) = false := h4
      rw [if_neg (fun h => by rw [← Bool.not_eq_true] at h4; refine h4 ?_; simp only [Bool.and_eq_true, decide_eq_true_eq] at h ⊢; exact ⟨⟨⟨⟨h.1, h.2.1⟩, h.2.2.1⟩, h.2.2.2.1⟩, h.2.2.2.2⟩)] at g5
      repeat (refine And.intro ?_ ?_; first | omega | (simp only [Lay.d_n]; omega))
      exact again (a, b, (d + 1), i + 1) [] (.of rfl rfl rfl rfl rfl rfl) ⟨by omega, by omega, by omega, by omega, by rw [show (i + 1).toNat = i.toNat + 1 by omega, hpe]; exact g5⟩ (by simp only; omega)
    have h2 : ¬ Cd.opT x = Cd.lp := by rw [hx]; exact of_decide_eq_false h2
    repeat (refine And.intro ?_ ?_; first | omega | (simp only [Lay.d_n]; omega))
    refine x_if (fun h3 => ?_) (fun h3 => ?_)
    · have h3 : Cd.opT x = Cd.rp := by rw [hx]; exact of_decide_eq_true h3
      have hd : Cd.dl d x = d - 1 := by unfold Cd.dl; rw [if_pos h3, if_neg h2]
      repeat (refine And.intro ?_ ?_; first | omega | (simp only [Lay.d_n]; omega))
      repeat (refine And.intro ?_ ?_; first | omega | (simp only [Lay.d_n]; omega))
      rw [hd] at g5
      refine xl_call0 (.int .i64 (Cd.lev (Cd.opT x))) rfl rfl rfl rfl fn76 rfl rfl (fun E w F hs => by rw [hx]; exact levelR_any _ w) ?_
      refine xl_go tt_ok ?_
      repeat (refine And.intro ?_ ?_; first | omega | (simp only [Lay.d_n]; omega) | (simp only [decide_eq_true_eq, decide_eq_false_iff_not, Bool.or_eq_false_iff, Bool.and_eq_true, Bool.or_eq_true, Bool.and_eq_false_iff, Bool.not_eq_true', Bool.not_eq_false', Lay.d_n]; omega) | (simp only [decide_eq_true_eq, decide_eq_false_iff_not, Bool.or_eq_false_iff, Bool.and_eq_true, Bool.or_eq_true, Bool.and_eq_false_iff, Bool.not_eq_true', Bool.not_eq_false']; omega) | (simp only [decide_eq_true_eq, decide_eq_false_iff_not, Bool.or_eq_false_iff]; simp only [Lay.d_n]; omega))
      refine xl_gcallF (.bool (Cd.ends (L.getD (i - 1).toNat (.num 0 false)))) rfl rfl rfl rfl fn77 rfl rfl (fun E w F hs => endsR_any _ w) ?_
      refine xl_go tt_ok ?_
      refine x_if (fun h4 => ?_) (fun h4 => ?_)
      · have h4 : ((((decide ((d - 1) = 0) && decide (0 < Cd.lev (Cd.opT x))) && decide (Cd.lev (Cd.opT x) ≤ b)) && decide (0 < i)) && Cd.ends (L.getD (i - 1).toNat (.num 0 false))) = true := h4
        rw [if_pos (by simp only [Bool.and_eq_true, decide_eq_true_eq] at h4 ⊢; exact ⟨h4.1.1.1.1, h4.1.1.1.2, h4.1.1.2, h4.1.2, h4.2⟩)] at g5
        repeat (refine And.intro ?_ ?_; first | omega | (simp only [Lay.d_n]; omega))
        exact again (i, Cd.lev (Cd.opT x), (d - 1), i + 1) [] (.of rfl rfl rfl rfl rfl rfl) ⟨by omega, by omega, by omega, by omega, by rw [show (i + 1).toNat = i.toNat + 1 by omega, hpe]; exact g5⟩ (by simp only; omega)
      have h4 : ((((decide ((d - 1) = 0) && decide (0 < Cd.lev (Cd.opT x))) && decide (Cd.lev (Cd.opT x) ≤ b)) && decide (0 < i)) && Cd.ends (L.getD (i - 1).toNat (.num 0 false))) = false := h4
      rw [if_neg (fun h => by rw [← Bool.not_eq_true] at h4; refine h4 ?_; simp only [Bool.and_eq_true, decide_eq_true_eq] at h ⊢; exact ⟨⟨⟨⟨h.1, h.2.1⟩, h.2.2.1⟩, h.2.2.2.1⟩, h.2.2.2.2⟩)] at g5
      repeat (refine And.intro ?_ ?_; first | omega | (simp only [Lay.d_n]; omega))
      exact again (a, b, (d - 1), i + 1) [] (.of rfl rfl rfl rfl rfl rfl) ⟨by omega, by omega, by omega, by omega, by rw [show (i + 1).toNat = i.toNat + 1 by omega, hpe]; exact g5⟩ (by simp only; omega)
    have h3 : ¬ Cd.opT x = Cd.rp := by rw [hx]; exact of_decide_eq_false h3
    have hd : Cd.dl d x = d := by unfold Cd.dl; rw [if_neg h3, if_neg h2]
    repeat (refine And.intro ?_ ?_; first | omega | (simp only [Lay.d_n]; omega))
    rw [hd] at g5
    refine xl_call0 (.int .i64 (Cd.lev (Cd.opT x))) rfl rfl rfl rfl fn76 rfl rfl (fun E w F hs => by rw [hx]; exact levelR_any _ w) ?_
    refine xl_go tt_ok ?_
    repeat (refine And.intro ?_ ?_; first | omega | (simp only [Lay.d_n]; omega) | (simp only [decide_eq_true_eq, decide_eq_false_iff_not, Bool.or_eq_false_iff, Bool.and_eq_true, Bool.or_eq_true, Bool.and_eq_false_iff, Bool.not_eq_true', Bool.not_eq_false', Lay.d_n]; omega) | (simp only [decide_eq_true_eq, decide_eq_false_iff_not, Bool.or_eq_false_iff, Bool.and_eq_true, Bool.or_eq_true, Bool.and_eq_false_iff, Bool.not_eq_true', Bool.not_eq_false']; omega) | (simp only [decide_eq_true_eq, decide_eq_false_iff_not, Bool.or_eq_false_iff]; simp only [Lay.d_n]; omega))
    refine xl_gcallF (.bool (Cd.ends (L.getD (i - 1).toNat (.num 0 false)))) rfl rfl rfl rfl fn77 rfl rfl (fun E w F hs => endsR_any _ w) ?_
    refine xl_go tt_ok ?_
    refine x_if (fun h4 => ?_) (fun h4 => ?_)
    · have h4 : ((((decide (d = 0) && decide (0 < Cd.lev (Cd.opT x))) && decide (Cd.lev (Cd.opT x) ≤ b)) && decide (0 < i)) && Cd.ends (L.getD (i - 1).toNat (.num 0 false))) = true := h4
      rw [if_pos (by simp only [Bool.and_eq_true, decide_eq_true_eq] at h4 ⊢; exact ⟨h4.1.1.1.1, h4.1.1.1.2, h4.1.1.2, h4.1.2, h4.2⟩)] at g5
      repeat (refine And.intro ?_ ?_; first | omega | (simp only [Lay.d_n]; omega))
      exact again (i, Cd.lev (Cd.opT x), d, i + 1) [] (.of rfl rfl rfl rfl rfl rfl) ⟨by omega, by omega, by omega, by omega, by rw [show (i + 1).toNat = i.toNat + 1 by omega, hpe]; exact g5⟩ (by simp only; omega)
    have h4 : ((((decide (d = 0) && decide (0 < Cd.lev (Cd.opT x))) && decide (Cd.lev (Cd.opT x) ≤ b)) && decide (0 < i)) && Cd.ends (L.getD (i - 1).toNat (.num 0 false))) = false := h4
    rw [if_neg (fun h => by rw [← Bool.not_eq_true] at h4; refine h4 ?_; simp only [Bool.and_eq_true, decide_eq_true_eq] at h ⊢; exact ⟨⟨⟨⟨h.1, h.2.1⟩, h.2.2.1⟩, h.2.2.2.1⟩, h.2.2.2.2⟩)] at g5
    repeat (refine And.intro ?_ ?_; first | omega | (simp only [Lay.d_n]; omega))
    exact again (a, b, d, i + 1) [] (.of rfl rfl rfl rfl rfl rfl) ⟨by omega, by omega, by omega, by omega, by rw [show (i + 1).toNat = i.toNat + 1 by omega, hpe]; exact g5⟩ (by simp only; omega)
  have h1 : ¬ i < L.length := of_decide_eq_false h1
  rw [List.drop_eq_nil_of_le (by omega), Cd.loF] at g5
  exact fin1 (fun _ _ => by rw [← g5]; rfl)
end Go.Proofs.YtnjmkeijjapejaaGreatDoor
namespace Go.GV
open Go.RowKit
theorem run_max3 (P : Program) (w : World) (ts : Array TypeId) (t : TypeId) (k : IntKind) (m n q : Int) : (Builtin.max_ ts t #[.int k m, .int k n, .int k q]).run P w = .ok (.int k (max (max m n) q)) w := by
  have h1 : ∀ a b : Int, (if b > a then b else a) = max a b := fun a b => by split <;> omega
  simp [Builtin.max_, Builtin.max2, h1]
theorem xl_max3 {C : Cx} {all : List Oper} {o : Oper} {r : List Oper} {Q : Post} {kn : Kn} {gk : List (Nat × (Gd × SV))} {ow : Own} {nx : Nat} {u : Im} {d : Nat} {x y z : Operand} {ts : Array TypeId} {k : IntKind} {m n p : Int} (q : Int) (hq : max (max m n) p = q)
    (ho : o.op = .call { callee := .builtin .max, args := #[x, y, z], argTypes := ts }) (hgd : o.guard = none) (hd : o.dst = some d) (hfr : fresh C.N ⟨kn, gk, ow, nx⟩ d [] = true)
    (hx : opd ⟨kn, gk, ow, nx⟩ [] x = some (.v (.int k m))) (hy : opd ⟨kn, gk, ow, nx⟩ [] y = some (.v (.int k n))) (hz : opd ⟨kn, gk, ow, nx⟩ [] z = some (.v (.int k p)))
    (K : XL C all r Q ⟨(d, .v (.int k q)) :: kn, gk, ow, nx⟩ u) : XL C all (o :: r) Q ⟨kn, gk, ow, nx⟩ u := by
  subst hq
  refine xl_val _ hgd hd (fun c hc => by rw [ho] at hc; cases hc) hfr (fun E a w hok => ?_) K
  have hgs : gs a.tmps [] := fun x hx => by cases hx
  obtain ⟨e1, _⟩ := opd_sound hok.agr hgs hx
  obtain ⟨e2, _⟩ := opd_sound hok.agr hgs hy
  obtain ⟨e3, _⟩ := opd_sound hok.agr hgs hz
  simp only [SV.den] at e1 e2 e3
  have hm := run_max3 C.P w ts o.type k m n p
  simp only [execOp, ho, resolve]
  simp [invoke, builtin, e1, e2, e3, hm]
end Go.GV
namespace Go.Proofs.YtnjmkeijjapejaaGreatDoor
open Go.GV Go.RowKit
def dsm (w : Cd.Wo) : Prop := 0 ≤ w.D ∧ w.D ≤ 1000000000
set_option maxHeartbeats 1000000 in
set_option maxRecDepth 100000 in
theorem choiceR_any (c a b : Cd.Wo) (hc : dsm c) (ha : dsm a) (hb : dsm b) (w : World) : Calls Tryz.prog 28 #[woV c, woV a, woV b] w (PureP w fun v _ => v = woV (Cd.choW c a b)) := by
  obtain ⟨c1, c2⟩ := hc
  obtain ⟨a1, a2⟩ := ha
  obtain ⟨b1, b2⟩ := hb
  refine x_fun tt_ok Tryz.func28 rfl rfl [] 0 [.v (woV c), .v (woV a), .v (woV b)] rfl rfl rfl rfl (fun b hb => by cases hb) ?_
  refine x_vc tt_ok ?_
  refine x_if (fun h1 => ?_) (fun h1 => ?_)
  · have h1 : c.V ≠ 0 := of_decide_eq_true h1
    refine xl_max3 (max (max c.D a.D) b.D) rfl rfl rfl rfl rfl rfl rfl rfl ?_
    refine xl_go tt_ok ?_
    repeat (refine And.intro ?_ ?_; first | omega | (simp only [Lay.d_n]; omega))
    refine x_if (fun h2 => ?_) (fun h2 => ?_)
    · have h2 : c.E ≠ 0 := of_decide_eq_true h2
      refine fin1 (fun _ _ => ?_)
      show woV ⟨0, a.U || b.U, 1 + max (max c.D a.D) b.D, c.E, (c.bad || a.bad) || b.bad⟩ = _
      unfold Cd.choW
      simp only [if_pos h2]
    · have h2 : ¬ c.E ≠ 0 := of_decide_eq_false h2
      refine fin1 (fun _ _ => ?_)
      show woV ⟨a.V, a.U || b.U, 1 + max (max c.D a.D) b.D, a.E, (c.bad || a.bad) || b.bad⟩ = _
      unfold Cd.choW
      simp only [if_neg h2, if_pos h1]
  · have h1 : ¬ c.V ≠ 0 := of_decide_eq_false h1
    refine xl_max3 (max (max c.D a.D) b.D) rfl rfl rfl rfl rfl rfl rfl rfl ?_
    refine xl_go tt_ok ?_
    repeat (refine And.intro ?_ ?_; first | omega | (simp only [Lay.d_n]; omega))
    refine x_if (fun h2 => ?_) (fun h2 => ?_)
    · have h2 : c.E ≠ 0 := of_decide_eq_true h2
      refine fin1 (fun _ _ => ?_)
      show woV ⟨0, a.U || b.U, 1 + max (max c.D a.D) b.D, c.E, (c.bad || a.bad) || b.bad⟩ = _
      unfold Cd.choW
      simp only [if_pos h2]
    · have h2 : ¬ c.E ≠ 0 := of_decide_eq_false h2
      refine fin1 (fun _ _ => ?_)
      show woV ⟨b.V, a.U || b.U, 1 + max (max c.D a.D) b.D, b.E, (c.bad || a.bad) || b.bad⟩ = _
      unfold Cd.choW
      simp only [if_neg h2, if_neg h1]
end Go.Proofs.YtnjmkeijjapejaaGreatDoor
namespace Go.Proofs.YtnjmkeijjapejaaGreatDoor
open Go.GV Go.RowKit
set_option maxHeartbeats 1000000 in
set_option maxRecDepth 100000 in
theorem shiftedR_any (op : ByteArray) (a b : Cd.Wo) (ha : Cd.rg a.V) (hb : Cd.rg b.V) (w : World) : Calls Tryz.prog 94 #[.string op, woV a, woV b] w (PureP w fun v _ => v = .tuple #[.int .u64 (Cd.shifted op a.V a.U b.V).1, .int .i64 (Cd.shifted op a.V a.U b.V).2]) := by
  obtain ⟨b0, b1⟩ := id hb
  obtain ⟨R, hR⟩ : ∃ R, R = (if op = ⟨#[60, 60]⟩ then Cd.shlF b.V.toNat a.V else Cd.shrF a.U b.V.toNat a.V) := ⟨_, rfl⟩
  refine x_fun tt_ok Tryz.func94 rfl rfl [] 0 [.v (.string op), .v (woV a), .v (woV b)] rfl rfl rfl rfl (fun b hb => by cases hb) ?_
  refine x_vc tt_ok ?_
  unfold Cd.shifted
  refine x_if (fun h1 => ?_) (fun h1 => ?_)
  · have h1 : b.V > 63 := of_decide_eq_true h1
    refine fin1 (fun _ _ => ?_)
    rw [if_pos h1]
    rfl
  have h1 : ¬ b.V > 63 := of_decide_eq_false h1
  rw [if_neg h1]
  have hR2 : (if op = ⟨#[60, 60]⟩ then (Cd.shlF b.V.toNat a.V, (0 : Int)) else (Cd.shrF a.U b.V.toNat a.V, 0)) = (R, 0) := by rw [hR]; split <;> rfl
  rw [hR2]
  refine x_loop (σ := Int × Int) (fun (v, i) => ⟨[(9, .v (.int .u64 i)), (8, .v (.int .u64 v)), (5, .p 1 0), (4, .p 0 0), (0, .v (.string op))], [],
      [(1, .box 52 [.v (.int .u64 b.V), .v (.bool b.U), .v (.int .i64 b.D), .v (.int .i64 b.E), .v (.bool b.bad)]), (0, .box 52 [.v (.int .u64 a.V), .v (.bool a.U), .v (.int .i64 a.D), .v (.int .i64 a.E), .v (.bool a.bad)])], 2⟩)
    (fun (v, i) _ => 0 ≤ i ∧ i ≤ b.V ∧ Cd.rg v ∧ (if op = ⟨#[60, 60]⟩ then Cd.shlF (b.V - i).toNat v else Cd.shrF a.U (b.V - i).toNat v) = R) (fun (_, i) => (b.V - i).toNat) (fun (_, _) => Nat.le_refl _) (a.V, 0) [] (.of rfl rfl rfl rfl rfl rfl) ⟨by omega, by omega, ha, by rw [Int.sub_zero]; exact hR.symm⟩ ?_
  rintro ⟨v, i⟩ u1 hu1 ⟨g1, g2, g3, g5⟩
  obtain ⟨v0, v1⟩ := id g3
  refine x_seq (x_vc tt_ok ?_)
  refine x_if (fun h2 => ?_) (fun h2 => ?_)
  · have h2 : i < b.V := of_decide_eq_true h2
    have hn : (b.V - i).toNat = (b.V - (i + 1)).toNat + 1 := by omega
    have hi1 : Cd.wr (i + 1) = i + 1 := Cd.wr_rg ⟨by omega, by omega⟩
    rw [hn] at g5
    refine x_seq (x_block ?_)
    refine x_seq (x_vc tt_ok ?_)
    refine x_cond rfl (fun h3 => ?_) (fun h3 => ?_)
    · have h3 : op = ⟨#[60, 60]⟩ := of_decide_eq_true h3
      rw [if_pos h3, Cd.shlF] at g5
      refine x_region ?_
      refine xl_eff tt_ok rfl rfl rfl rfl (by trivial) ?_
      refine xl_eff tt_ok rfl rfl rfl rfl (by trivial) ?_
      refine xl_bin (.int .u64 (Cd.wr (v + v))) rfl rfl rfl rfl rfl rfl (fun w => rfl) (fun w => run_plus64 v v) ?_
      refine xl_go tt_ok ?_
      refine x_region ?_
      refine xl_eff tt_ok rfl rfl rfl rfl (by trivial) ?_
      refine xl_bin (.int .u64 (Cd.wr (i + 1))) rfl rfl rfl rfl rfl rfl (fun w => rfl) (fun w => run_plus64 i 1) ?_
      refine xl_go tt_ok ?_
      rw [hi1]
      exact again (Cd.wr (v + v), i + 1) [] (.of rfl rfl rfl rfl rfl rfl) ⟨by omega, by omega, Cd.rg_wr _, by rw [if_pos h3]; exact g5⟩ (by simp only; omega)
    have h3 : ¬ op = ⟨#[60, 60]⟩ := of_decide_eq_false h3
    rw [if_neg h3, Cd.shrF] at g5
    refine x_seq (x_vc tt_ok ?_)
    refine x_seq (x_vc tt_ok ?_)
    repeat (refine And.intro ?_ ?_; first | omega | (simp only [Lay.d_n]; omega))
    refine x_seq (x_vc tt_ok ?_)
    refine x_cond rfl (fun h4 => ?_) (fun h4 => ?_)
    · have h4 : (decide (v ≥ 9223372036854775808) && !a.U) = true := h4
      rw [if_pos h4] at g5
      have hv : Cd.rg (v / 2 + 9223372036854775808) := ⟨by omega, by omega⟩
      refine x_region ?_
      refine xl_eff tt_ok rfl rfl rfl rfl (by trivial) ?_
      refine xl_bin (.int .u64 (Cd.wr (v / 2 + 9223372036854775808))) rfl rfl rfl rfl rfl rfl (fun w => rfl) (fun w => run_plus64 _ _) ?_
      refine xl_go tt_ok ?_
      refine x_region ?_
      refine xl_eff tt_ok rfl rfl rfl rfl (by trivial) ?_
      refine xl_bin (.int .u64 (Cd.wr (i + 1))) rfl rfl rfl rfl rfl rfl (fun w => rfl) (fun w => run_plus64 i 1) ?_
      refine xl_go tt_ok ?_
      rw [hi1, Cd.wr_rg hv]
      exact again (v / 2 + 9223372036854775808, i + 1) [] (.of rfl rfl rfl rfl rfl rfl) ⟨by omega, by omega, hv, by rw [if_neg h3]; exact g5⟩ (by simp only; omega)
    · have h4 : (decide (v ≥ 9223372036854775808) && !a.U) = false := h4
      rw [if_neg (fun h => by have h : (decide (v ≥ 9223372036854775808) && !a.U) = true := h; rw [h4] at h; cases h)] at g5
      refine x_vc tt_ok ?_
      refine x_region ?_
      refine xl_eff tt_ok rfl rfl rfl rfl (by trivial) ?_
      refine xl_bin (.int .u64 (Cd.wr (i + 1))) rfl rfl rfl rfl rfl rfl (fun w => rfl) (fun w => run_plus64 i 1) ?_
      refine xl_go tt_ok ?_
      rw [hi1]
      exact again (v / 2, i + 1) [] (.of rfl rfl rfl rfl rfl rfl) ⟨by omega, by omega, ⟨by omega, by omega⟩, by rw [if_neg h3]; exact g5⟩ (by simp only; omega)
  have h2 : ¬ i < b.V := of_decide_eq_false h2
  have hz : (b.V - i).toNat = 0 := by omega
  rw [hz, Cd.shlF, Cd.shrF] at g5
  have g5 : v = R := by rw [← g5]; split <;> rfl
  subst g5
  exact fin1 (fun _ _ => rfl)
set_option maxHeartbeats 4000000 in
set_option maxRecDepth 100000 in
theorem reckonR_any (op : ByteArray) (a b : Cd.Wo) (ha : Cd.rg a.V) (hb : Cd.rg b.V) (w : World) : Calls Tryz.prog 79 #[.string op, woV a, woV b] w (PureP w fun v _ => v = .tuple #[.int .u64 (Cd.reckon op a.V a.U b.V b.U).1, .int .i64 (Cd.reckon op a.V a.U b.V b.U).2]) := by
  obtain ⟨a0, a1⟩ := id ha
  obtain ⟨b0, b1⟩ := id hb
  have hsa := Cd.s64_rg ha
  have hsb := Cd.s64_rg hb
  obtain ⟨R, hR⟩ : ∃ R, R = Cd.reckon op a.V a.U b.V b.U := ⟨_, rfl⟩
  rw [← hR]
  unfold Cd.reckon at hR
  refine x_fun tt_ok Tryz.func79 rfl rfl [] 0 [.v (.string op), .v (woV a), .v (woV b)] rfl rfl rfl rfl (fun b hb => by cases hb) ?_
  refine x_seq (x_vc tt_ok ?_)
  refine x_seq (x_vc tt_ok ?_)
  refine x_seq (x_region ?_)
  refine xl_eff tt_ok rfl rfl rfl rfl (by trivial) ?_
  refine xl_eff tt_ok rfl rfl rfl rfl (by trivial) ?_
  refine xl_convI tt_ok (.int .i64 (Cd.s64 a.V)) rfl rfl rfl rfl rfl rfl rfl rfl rfl (by rw [wrap_s64 ha]) ?_
  refine xl_go tt_ok ?_
  refine x_seq (x_region ?_)
  refine xl_eff tt_ok rfl rfl rfl rfl (by trivial) ?_
  refine xl_eff tt_ok rfl rfl rfl rfl (by trivial) ?_
  refine xl_convI tt_ok (.int .i64 (Cd.s64 b.V)) rfl rfl rfl rfl rfl rfl rfl rfl rfl (by rw [wrap_s64 hb]) ?_
  refine xl_go tt_ok ?_
  refine x_seq (x_vc tt_ok ?_)
  refine x_seq ?_
  refine x_seq (x_vc tt_ok ?_)
  refine x_block ?_
  refine x_seq (x_vc tt_ok ?_)
  refine x_cond rfl (fun h => ?_) (fun h => ?_)
  · have h : op = Cd.plB := of_decide_eq_true h
    rw [if_pos h] at hR
    refine x_seq (x_region ?_)
    refine xl_eff tt_ok rfl rfl rfl rfl (by trivial) ?_
    refine xl_eff tt_ok rfl rfl rfl rfl (by trivial) ?_
    refine xl_eff tt_ok rfl rfl rfl rfl (by trivial) ?_
    refine xl_eff tt_ok rfl rfl rfl rfl (by trivial) ?_
    refine xl_bin (.int .u64 (Cd.wr (a.V + b.V))) rfl rfl rfl rfl rfl rfl (fun w => rfl) (fun w => run_plus64 a.V b.V) ?_
    refine xl_go tt_ok ?_
    refine x_vc tt_ok ?_
    exact fin1 (fun _ _ => by rw [hR]; rfl)
  have h : ¬ op = Cd.plB := of_decide_eq_false h
  rw [if_neg h] at hR
  clear h
  refine x_seq (x_vc tt_ok ?_)
  refine x_cond rfl (fun h => ?_) (fun h => ?_)
  · have h : op = Cd.miB := of_decide_eq_true h
    rw [if_pos h] at hR
    refine x_seq (x_region ?_)
    refine xl_eff tt_ok rfl rfl rfl rfl (by trivial) ?_
    refine xl_eff tt_ok rfl rfl rfl rfl (by trivial) ?_
    refine xl_eff tt_ok rfl rfl rfl rfl (by trivial) ?_
    refine xl_eff tt_ok rfl rfl rfl rfl (by trivial) ?_
    refine xl_bin (.int .u64 (Cd.wr (a.V - b.V))) rfl rfl rfl rfl rfl rfl (fun w => rfl) (fun w => run_minus64 a.V b.V) ?_
    refine xl_go tt_ok ?_
    refine x_vc tt_ok ?_
    exact fin1 (fun _ _ => by rw [hR]; rfl)
  have h : ¬ op = Cd.miB := of_decide_eq_false h
  rw [if_neg h] at hR
  clear h
  refine x_seq (x_vc tt_ok ?_)
  refine x_cond rfl (fun h => ?_) (fun h => ?_)
  · have h : op = ⟨#[42]⟩ := of_decide_eq_true h
    rw [if_pos h] at hR
    refine x_seq (x_region ?_)
    refine xl_eff tt_ok rfl rfl rfl rfl (by trivial) ?_
    refine xl_eff tt_ok rfl rfl rfl rfl (by trivial) ?_
    refine xl_eff tt_ok rfl rfl rfl rfl (by trivial) ?_
    refine xl_eff tt_ok rfl rfl rfl rfl (by trivial) ?_
    refine xl_bin (.int .u64 (Cd.wr (a.V * b.V))) rfl rfl rfl rfl rfl rfl (fun w => rfl) (fun w => run_times64 a.V b.V) ?_
    refine xl_go tt_ok ?_
    refine x_vc tt_ok ?_
    exact fin1 (fun _ _ => by rw [hR]; rfl)
  have h : ¬ op = ⟨#[42]⟩ := of_decide_eq_false h
  rw [if_neg h] at hR
  clear h
  refine x_seq (x_vc tt_ok ?_)
  refine x_cond rfl (fun h => ?_) (fun h => ?_)
  · have h : op = ⟨#[38]⟩ := of_decide_eq_true h
    rw [if_pos h] at hR
    refine x_seq (x_region ?_)
    refine xl_eff tt_ok rfl rfl rfl rfl (by trivial) ?_
    refine xl_eff tt_ok rfl rfl rfl rfl (by trivial) ?_
    refine xl_eff tt_ok rfl rfl rfl rfl (by trivial) ?_
    refine xl_eff tt_ok rfl rfl rfl rfl (by trivial) ?_
    refine xl_bin (.int .u64 (Cd.andI a.V b.V)) rfl rfl rfl rfl rfl rfl (fun w => rfl) (fun w => run_and ha hb) ?_
    refine xl_go tt_ok ?_
    refine x_vc tt_ok ?_
    exact fin1 (fun _ _ => by rw [hR]; rfl)
  have h : ¬ op = ⟨#[38]⟩ := of_decide_eq_false h
  rw [if_neg h] at hR
  clear h
  refine x_seq (x_vc tt_ok ?_)
  refine x_cond rfl (fun h => ?_) (fun h => ?_)
  · have h : op = ⟨#[124]⟩ := of_decide_eq_true h
    rw [if_pos h] at hR
    refine x_seq (x_region ?_)
    refine xl_eff tt_ok rfl rfl rfl rfl (by trivial) ?_
    refine xl_eff tt_ok rfl rfl rfl rfl (by trivial) ?_
    refine xl_eff tt_ok rfl rfl rfl rfl (by trivial) ?_
    refine xl_eff tt_ok rfl rfl rfl rfl (by trivial) ?_
    refine xl_bin (.int .u64 (Cd.orI a.V b.V)) rfl rfl rfl rfl rfl rfl (fun w => rfl) (fun w => run_or ha hb) ?_
    refine xl_go tt_ok ?_
    refine x_vc tt_ok ?_
    exact fin1 (fun _ _ => by rw [hR]; rfl)
  have h : ¬ op = ⟨#[124]⟩ := of_decide_eq_false h
  rw [if_neg h] at hR
  clear h
  refine x_seq (x_vc tt_ok ?_)
  refine x_cond rfl (fun h => ?_) (fun h => ?_)
  · have h : op = ⟨#[94]⟩ := of_decide_eq_true h
    rw [if_pos h] at hR
    refine x_seq (x_region ?_)
    refine xl_eff tt_ok rfl rfl rfl rfl (by trivial) ?_
    refine xl_eff tt_ok rfl rfl rfl rfl (by trivial) ?_
    refine xl_eff tt_ok rfl rfl rfl rfl (by trivial) ?_
    refine xl_eff tt_ok rfl rfl rfl rfl (by trivial) ?_
    refine xl_bin (.int .u64 (Cd.xorI a.V b.V)) rfl rfl rfl rfl rfl rfl (fun w => rfl) (fun w => run_xor ha hb) ?_
    refine xl_go tt_ok ?_
    refine x_vc tt_ok ?_
    exact fin1 (fun _ _ => by rw [hR]; rfl)
  have h : ¬ op = ⟨#[94]⟩ := of_decide_eq_false h
  rw [if_neg h] at hR
  clear h
  refine x_seq (x_vc tt_ok ?_)
  refine x_cond rfl (fun h => ?_) (fun h => ?_)
  · have h : op = ⟨#[61, 61]⟩ := of_decide_eq_true h
    rw [if_pos h] at hR
    refine x_vc tt_ok ?_
    refine xl_call0 (.int .u64 (Cd.truth (decide (a.V = b.V)))) rfl rfl rfl rfl fn78 rfl rfl (fun E w F hs => truthR_any (decide (a.V = b.V)) w) ?_
    refine xl_go tt_ok ?_
    exact fin1 (fun _ _ => by rw [hR]; rfl)
  have h : ¬ op = ⟨#[61, 61]⟩ := of_decide_eq_false h
  rw [if_neg h] at hR
  clear h
  refine x_seq (x_vc tt_ok ?_)
  refine x_cond rfl (fun h => ?_) (fun h => ?_)
  · have h : op = ⟨#[33, 61]⟩ := of_decide_eq_true h
    rw [if_pos h] at hR
    refine x_vc tt_ok ?_
    refine xl_call0 (.int .u64 (Cd.truth (decide (a.V ≠ b.V)))) rfl rfl rfl rfl fn78 rfl rfl (fun E w F hs => truthR_any (decide (a.V ≠ b.V)) w) ?_
    refine xl_go tt_ok ?_
    exact fin1 (fun _ _ => by rw [hR]; rfl)
  have h : ¬ op = ⟨#[33, 61]⟩ := of_decide_eq_false h
  rw [if_neg h] at hR
  clear h
  refine x_seq (x_vc tt_ok ?_)
  refine x_cond rfl (fun h => ?_) (fun h => ?_)
  · have h : op = ⟨#[60]⟩ := of_decide_eq_true h
    rw [if_pos h] at hR
    refine x_vc tt_ok ?_
    refine xl_call0 (.int .u64 (Cd.truth (Cd.lessI (a.U || b.U) a.V b.V))) rfl rfl rfl rfl fn78 rfl rfl (fun E w F hs => truthR_any (Cd.lessI (a.U || b.U) a.V b.V) w) ?_
    refine xl_go tt_ok ?_
    exact fin1 (fun _ _ => by rw [hR]; rfl)
  have h : ¬ op = ⟨#[60]⟩ := of_decide_eq_false h
  rw [if_neg h] at hR
  clear h
  refine x_seq (x_vc tt_ok ?_)
  refine x_cond rfl (fun h => ?_) (fun h => ?_)
  · have h : op = ⟨#[62, 61]⟩ := of_decide_eq_true h
    rw [if_pos h] at hR
    refine x_vc tt_ok ?_
    refine xl_call0 (.int .u64 (Cd.truth (!Cd.lessI (a.U || b.U) a.V b.V))) rfl rfl rfl rfl fn78 rfl rfl (fun E w F hs => truthR_any (!Cd.lessI (a.U || b.U) a.V b.V) w) ?_
    refine xl_go tt_ok ?_
    exact fin1 (fun _ _ => by rw [hR]; rfl)
  have h : ¬ op = ⟨#[62, 61]⟩ := of_decide_eq_false h
  rw [if_neg h] at hR
  clear h
  refine x_seq (x_vc tt_ok ?_)
  refine x_cond rfl (fun h => ?_) (fun h => ?_)
  · have h : op = ⟨#[62]⟩ := of_decide_eq_true h
    rw [if_pos h] at hR
    refine x_vc tt_ok ?_
    refine xl_call0 (.int .u64 (Cd.truth (!Cd.lessI (a.U || b.U) a.V b.V && decide (a.V ≠ b.V)))) rfl rfl rfl rfl fn78 rfl rfl (fun E w F hs => truthR_any (!Cd.lessI (a.U || b.U) a.V b.V && decide (a.V ≠ b.V)) w) ?_
    refine xl_go tt_ok ?_
    exact fin1 (fun _ _ => by rw [hR]; rfl)
  have h : ¬ op = ⟨#[62]⟩ := of_decide_eq_false h
  rw [if_neg h] at hR
  clear h
  refine x_seq (x_vc tt_ok ?_)
  refine x_cond rfl (fun h => ?_) (fun h => ?_)
  · have h : op = ⟨#[60, 61]⟩ := of_decide_eq_true h
    rw [if_pos h] at hR
    refine x_vc tt_ok ?_
    refine xl_call0 (.int .u64 (Cd.truth (Cd.lessI (a.U || b.U) a.V b.V || decide (a.V = b.V)))) rfl rfl rfl rfl fn78 rfl rfl (fun E w F hs => truthR_any (Cd.lessI (a.U || b.U) a.V b.V || decide (a.V = b.V)) w) ?_
    refine xl_go tt_ok ?_
    exact fin1 (fun _ _ => by rw [hR]; rfl)
  have h : ¬ op = ⟨#[60, 61]⟩ := of_decide_eq_false h
  rw [if_neg h] at hR
  clear h
  refine x_vc tt_ok ?_
  refine x_if (fun h => ?_) (fun h => ?_)
  · have h : op = ⟨#[60, 60]⟩ := of_decide_eq_true h
    rw [if_pos (.inl h)] at hR
    refine x_ift (decide_eq_true h) ?_
    refine xl_call0 (.tuple #[.int .u64 (Cd.shifted op a.V a.U b.V).1, .int .i64 (Cd.shifted op a.V a.U b.V).2]) rfl rfl rfl rfl fn94 rfl rfl (fun E w F hs => shiftedR_any op a b ha hb w) ?_
    refine xl_go tt_ok ?_
    exact fin1 (fun _ _ => by rw [hR]; rfl)
  have h : ¬ op = ⟨#[60, 60]⟩ := of_decide_eq_false h
  refine x_if (fun h' => ?_) (fun h' => ?_)
  · have h' : op = ⟨#[62, 62]⟩ := of_decide_eq_true h'
    rw [if_pos (.inr h')] at hR
    refine xl_call0 (.tuple #[.int .u64 (Cd.shifted op a.V a.U b.V).1, .int .i64 (Cd.shifted op a.V a.U b.V).2]) rfl rfl rfl rfl fn94 rfl rfl (fun E w F hs => shiftedR_any op a b ha hb w) ?_
    refine xl_go tt_ok ?_
    exact fin1 (fun _ _ => by rw [hR]; rfl)
  have h' : ¬ op = ⟨#[62, 62]⟩ := of_decide_eq_false h'
  rw [if_neg (fun hh => hh.elim h h')] at hR
  clear h h'
  refine x_seq (x_vc tt_ok ?_)
  refine x_if (fun h => ?_) (fun h => ?_)
  · have h : b.V = 0 := of_decide_eq_true h
    rw [if_pos h] at hR
    exact fin1 (fun _ _ => by rw [hR]; rfl)
  have h0 : b.V ≠ 0 := of_decide_eq_false h
  rw [if_neg h0] at hR
  clear h
  have hb0 : Cd.s64 b.V ≠ 0 := by
    unfold Cd.s64
    split <;> omega
  have e1 := Int.ediv_nonneg a0 b0
  have e2 := Int.ediv_le_self b.V a0
  refine x_seq (x_vc tt_ok ?_)
  refine x_if (fun h => ?_) (fun h => ?_)
  · have h : ((a.U || b.U) && decide (op = ⟨#[47]⟩)) = true := h
    rw [if_pos h] at hR
    repeat (refine And.intro ?_ ?_; first | omega | (simp only [Lay.d_n]; omega))
    exact fin1 (fun _ _ => by rw [hR]; rfl)
  have h : ((a.U || b.U) && decide (op = ⟨#[47]⟩)) = false := h
  rw [if_neg (by rw [h]; simp)] at hR
  refine x_seq (x_vc tt_ok ?_)
  refine x_if (fun h2 => ?_) (fun h2 => ?_)
  · have h2 : (a.U || b.U) = true := h2
    rw [if_pos h2] at hR
    repeat (refine And.intro ?_ ?_; first | omega | (simp only [Lay.d_n]; omega))
    exact fin1 (fun _ _ => by rw [hR]; rfl)
  have h2 : (a.U || b.U) = false := h2
  rw [if_neg (by rw [h2]; simp)] at hR
  refine x_seq (x_vc tt_ok ?_)
  obtain ⟨q, hq⟩ : ∃ q, q = Cd.quoI a.V b.V := ⟨_, rfl⟩
  rw [← hq] at hR
  unfold Cd.quoI at hq
  refine x_seq ?_
  refine x_seq (x_vc tt_ok ?_)
  refine x_cond rfl (fun h3 => ?_) (fun h3 => ?_)
  · have h3 : Cd.s64 b.V = -1 := of_decide_eq_true h3
    rw [if_pos h3] at hq
    refine x_region ?_
    refine xl_eff tt_ok rfl rfl rfl rfl (by trivial) ?_
    refine xl_eff tt_ok rfl rfl rfl rfl (by trivial) ?_
    refine xl_un (.int .u64 (Cd.wr (-a.V))) rfl rfl rfl rfl rfl (fun w => run_neg64 a.V) ?_
    refine xl_go tt_ok ?_
    refine x_seq (x_vc tt_ok ?_)
    refine x_if (fun h4 => ?_) (fun h4 => ?_)
    · have h4 : op = ⟨#[47]⟩ := of_decide_eq_true h4
      rw [if_pos h4] at hR
      exact fin1 (fun _ _ => by rw [hR, hq]; rfl)
    have h4 : ¬ op = ⟨#[47]⟩ := of_decide_eq_false h4
    rw [if_neg h4] at hR
    refine x_seq (x_region ?_)
    refine xl_eff tt_ok rfl rfl rfl rfl (by trivial) ?_
    refine xl_eff tt_ok rfl rfl rfl rfl (by trivial) ?_
    refine xl_eff tt_ok rfl rfl rfl rfl (by trivial) ?_
    refine xl_eff tt_ok rfl rfl rfl rfl (by trivial) ?_
    refine xl_eff tt_ok rfl rfl rfl rfl (by trivial) ?_
    refine xl_bin (.int .u64 (Cd.wr (q * b.V))) rfl rfl rfl rfl rfl rfl (fun w => rfl) (fun w => by rw [hq]; exact run_times64 _ b.V) ?_
    refine xl_bin (.int .u64 (Cd.wr (a.V - Cd.wr (q * b.V)))) rfl rfl rfl rfl rfl rfl (fun w => rfl) (fun w => run_minus64 a.V _) ?_
    refine xl_go tt_ok ?_
    refine x_vc tt_ok ?_
    exact fin1 (fun _ _ => by rw [hR]; rfl)
  have h3 : ¬ Cd.s64 b.V = -1 := of_decide_eq_false h3
  rw [if_neg h3] at hq
  refine x_region ?_
  refine xl_eff tt_ok rfl rfl rfl rfl (by trivial) ?_
  refine xl_eff tt_ok rfl rfl rfl rfl (by trivial) ?_
  refine xl_bin (.int .i64 (IntKind.i64.wrap ((Cd.s64 a.V).tdiv (Cd.s64 b.V)))) rfl rfl rfl rfl rfl rfl (fun w => rfl) (fun w => run_quo64 hb0) ?_
  refine xl_convI tt_ok (.int .u64 (Cd.wr ((Cd.s64 a.V).tdiv (Cd.s64 b.V)))) rfl rfl rfl rfl rfl rfl rfl rfl rfl (by rw [wrap_both]) ?_
  refine xl_go tt_ok ?_
  refine x_seq (x_vc tt_ok ?_)
  refine x_if (fun h4 => ?_) (fun h4 => ?_)
  · have h4 : op = ⟨#[47]⟩ := of_decide_eq_true h4
    rw [if_pos h4] at hR
    exact fin1 (fun _ _ => by rw [hR, hq]; rfl)
  have h4 : ¬ op = ⟨#[47]⟩ := of_decide_eq_false h4
  rw [if_neg h4] at hR
  refine x_seq (x_region ?_)
  refine xl_eff tt_ok rfl rfl rfl rfl (by trivial) ?_
  refine xl_eff tt_ok rfl rfl rfl rfl (by trivial) ?_
  refine xl_eff tt_ok rfl rfl rfl rfl (by trivial) ?_
  refine xl_eff tt_ok rfl rfl rfl rfl (by trivial) ?_
  refine xl_eff tt_ok rfl rfl rfl rfl (by trivial) ?_
  refine xl_bin (.int .u64 (Cd.wr (q * b.V))) rfl rfl rfl rfl rfl rfl (fun w => rfl) (fun w => by rw [hq]; exact run_times64 _ b.V) ?_
  refine xl_bin (.int .u64 (Cd.wr (a.V - Cd.wr (q * b.V)))) rfl rfl rfl rfl rfl rfl (fun w => rfl) (fun w => run_minus64 a.V _) ?_
  refine xl_go tt_ok ?_
  refine x_vc tt_ok ?_
  exact fin1 (fun _ _ => by rw [hR]; rfl)
end Go.Proofs.YtnjmkeijjapejaaGreatDoor
namespace Go.Proofs.YtnjmkeijjapejaaGreatDoor
open Go.GV Go.RowKit
set_option maxHeartbeats 4000000 in
set_option maxRecDepth 100000 in
theorem twoR_any (op : ByteArray) (a b : Cd.Wo) (ha : Cd.rg a.V) (hb : Cd.rg b.V) (w : World) : Calls Tryz.prog 59 #[.string op, woV a, woV b] w (PureP w fun v _ => v = woV (Cd.twoW op a b)) := by
  obtain ⟨R, hR⟩ : ∃ R, R = Cd.twoW op a b := ⟨_, rfl⟩
  rw [← hR]
  unfold Cd.twoW Cd.twoU at hR
  simp only at hR
  refine x_fun tt_ok Tryz.func59 rfl rfl [] 0 [.v (.string op), .v (woV a), .v (woV b)] rfl rfl rfl rfl (fun b hb => by cases hb) ?_
  refine x_vc tt_ok ?_
  refine xl_max (max a.D b.D) (max_gt _ _) rfl rfl rfl rfl rfl rfl ?_
  refine xl_go tt_ok ?_
  refine xl_call0 (.int .i64 (Cd.lev op)) rfl rfl rfl rfl fn76 rfl rfl (fun E w F hs => levelR_any op w) ?_
  refine xl_go tt_ok ?_
  have hlv := Cd.lev_range op
  generalize hn : Cd.lev op = n at *
  obtain ⟨U, hU⟩ : ∃ U, U = (((decide (n ≠ 6) && decide (n ≠ 7)) && decide (n > 2)) && (a.U || (b.U && decide (n ≠ 8)))) := ⟨_, rfl⟩
  have hU2 : (decide (n ≠ 6) && decide (n ≠ 7) && decide (2 < n) && (a.U || b.U && decide (n ≠ 8))) = U := by rw [hU]
  rw [hU2] at hR
  refine x_if (fun h1 => ?_) (fun h1 => ?_)
  · have h1 : a.E ≠ 0 := of_decide_eq_true h1
    rw [if_pos h1] at hR
    exact fin1 (fun _ _ => by rw [hR, ← hU2]; rfl)
  have h1 : ¬ a.E ≠ 0 := of_decide_eq_false h1
  rw [if_neg h1] at hR
  refine x_if (fun h2 => ?_) (fun h2 => ?_)
  · have h2 : ((decide (n = 1) && decide (a.V ≠ 0)) || (decide (n = 2) && decide (a.V = 0))) = true := h2
    rw [if_pos (by simpa using h2)] at hR
    refine xl_call0 (.int .u64 (Cd.truth (decide (n = 1)))) rfl rfl rfl rfl fn78 rfl rfl (fun E w F hs => truthR_any _ w) ?_
    refine xl_go tt_ok ?_
    exact fin1 (fun _ _ => by rw [hR, ← hU2]; rfl)
  have h2 : ((decide (n = 1) && decide (a.V ≠ 0)) || (decide (n = 2) && decide (a.V = 0))) = false := h2
  rw [if_neg (fun h => by rw [← Bool.not_eq_true] at h2; exact h2 (by simpa using h))] at hR
  refine x_if (fun h3 => ?_) (fun h3 => ?_)
  · have h3 : b.E ≠ 0 := of_decide_eq_true h3
    rw [if_pos h3] at hR
    exact fin1 (fun _ _ => by rw [hR, ← hU2]; rfl)
  have h3 : ¬ b.E ≠ 0 := of_decide_eq_false h3
  rw [if_neg h3] at hR
  refine x_if (fun h4 => ?_) (fun h4 => ?_)
  · have h4 : n < 3 := of_decide_eq_true h4
    rw [if_pos h4] at hR
    refine xl_call0 (.int .u64 (Cd.truth (decide (b.V ≠ 0)))) rfl rfl rfl rfl fn78 rfl rfl (fun E w F hs => truthR_any _ w) ?_
    refine xl_go tt_ok ?_
    exact fin1 (fun _ _ => by rw [hR, ← hU2]; rfl)
  have h4 : ¬ n < 3 := of_decide_eq_false h4
  rw [if_neg h4] at hR
  refine xl_call0 (.tuple #[.int .u64 (Cd.reckon op a.V a.U b.V b.U).1, .int .i64 (Cd.reckon op a.V a.U b.V b.U).2]) rfl rfl rfl rfl fn79 rfl rfl (fun E w F hs => reckonR_any op a b ha hb w) ?_
  refine xl_go tt_ok ?_
  exact fin1 (fun _ _ => by rw [hR, ← hU2]; rfl)
end Go.Proofs.YtnjmkeijjapejaaGreatDoor
namespace Go.GV
open Go.RowKit
theorem xd_fromE {T : TT} {C : Cx} (hT : TOk C.P T) {all : List Oper} {o : Oper} {r : List Oper} {Q : St → Prop} {st : St} {u : Im}
    {t e d n c : Nat} {A : Option Addr} {sv lv : Operand} {ti te : TI} {kl : IntKind} {l : Int} (ho : o.op = .slice t sv (some lv) none none) (hgd : o.guard = none) (hd : o.dst = some d)
    (hti : look T t = some ti) (hsh : ti.shp = .slice e) (hte : look T e = some te)
    (hs : opd st [] sv = some (.v (.slice A n c))) (hll : opd st [] lv = some (.v (.int kl l))) (hf : fresh C.N st d [] = true)
    (h0 : 0 ≤ l) (h1 : l ≤ n) (K : XD C all r Q (st.put d [] (.v (partV te.sz A c l.toNat n))) u) : XD C all (o :: r) Q st u := by
  refine xd_sv (.v (partV te.sz A c l.toNat n)) hgd hd (fun c hc => by rw [ho] at hc; cases hc) hf (fun E a w hok => ⟨?_, trivial⟩) K
  have hgs : gs a.tmps [] := fun x hx => by cases hx
  have hu := (hT _ _ hti).isSlice hsh
  have hel : C.P.elem t = e := by simp [Program.elem, hu]
  have htek := hT _ _ hte
  obtain ⟨es, _⟩ := opd_sound hok.agr hgs hs
  obtain ⟨el, _⟩ := opd_sound hok.agr hgs hll
  simp only [SV.den] at es el ⊢
  have := run_slice_l (P := C.P) w t A n c (by rw [hel]; exact hu) kl l h0 h1
  simp only [execOp, ho, Option.map_none, Option.map_some, es, el]
  rw [Sem.run_bind, run_sliceAt_slice w t _ _ _ _ (by rw [hel]; exact hu), this, hel, run_sizeOf w htek]
  simp [Result.andThen, sliced, partV]
theorem xd_subE {T : TT} {C : Cx} (hT : TOk C.P T) {all : List Oper} {o : Oper} {r : List Oper} {Q : St → Prop} {st : St} {u : Im}
    {t e d n c : Nat} {A : Option Addr} {sv lv hv : Operand} {ti te : TI} {kl kh : IntKind} {l h : Int} (ho : o.op = .slice t sv (some lv) (some hv) none) (hgd : o.guard = none) (hd : o.dst = some d)
    (hti : look T t = some ti) (hsh : ti.shp = .slice e) (hte : look T e = some te)
    (hs : opd st [] sv = some (.v (.slice A n c))) (hll : opd st [] lv = some (.v (.int kl l))) (hhh : opd st [] hv = some (.v (.int kh h))) (hf : fresh C.N st d [] = true)
    (h0 : 0 ≤ l) (h1 : l ≤ h) (h2 : h ≤ c) (K : XD C all r Q (st.put d [] (.v (partV te.sz A c l.toNat h.toNat))) u) : XD C all (o :: r) Q st u := by
  refine xd_sv (.v (partV te.sz A c l.toNat h.toNat)) hgd hd (fun c hc => by rw [ho] at hc; cases hc) hf (fun E a w hok => ⟨?_, trivial⟩) K
  have hgs : gs a.tmps [] := fun x hx => by cases hx
  have hu := (hT _ _ hti).isSlice hsh
  have hel : C.P.elem t = e := by simp [Program.elem, hu]
  have htek := hT _ _ hte
  obtain ⟨es, _⟩ := opd_sound hok.agr hgs hs
  obtain ⟨el, _⟩ := opd_sound hok.agr hgs hll
  obtain ⟨eh, _⟩ := opd_sound hok.agr hgs hhh
  simp only [SV.den] at es el eh ⊢
  have := run_slice_lh (P := C.P) w t A n c (by rw [hel]; exact hu) kl kh l h h0 h1 h2
  simp only [execOp, ho, Option.map_none, Option.map_some, es, el, eh]
  rw [Sem.run_bind, run_sliceAt_slice w t _ _ _ _ (by rw [hel]; exact hu), this, hel, run_sizeOf w htek]
  simp [Result.andThen, sliced, partV]
theorem xd_toE {T : TT} {C : Cx} (hT : TOk C.P T) {all : List Oper} {o : Oper} {r : List Oper} {Q : St → Prop} {st : St} {u : Im}
    {t e d n c : Nat} {A : Option Addr} {sv hv : Operand} {ti te : TI} {kh : IntKind} {h : Int} (ho : o.op = .slice t sv none (some hv) none) (hgd : o.guard = none) (hd : o.dst = some d)
    (hti : look T t = some ti) (hsh : ti.shp = .slice e) (hte : look T e = some te)
    (hs : opd st [] sv = some (.v (.slice A n c))) (hhh : opd st [] hv = some (.v (.int kh h))) (hf : fresh C.N st d [] = true)
    (h0 : 0 ≤ h) (h2 : h ≤ c) (K : XD C all r Q (st.put d [] (.v (partV te.sz A c 0 h.toNat))) u) : XD C all (o :: r) Q st u := by
  refine xd_sv (.v (partV te.sz A c 0 h.toNat)) hgd hd (fun c hc => by rw [ho] at hc; cases hc) hf (fun E a w hok => ⟨?_, trivial⟩) K
  have hgs : gs a.tmps [] := fun x hx => by cases hx
  have hu := (hT _ _ hti).isSlice hsh
  have hel : C.P.elem t = e := by simp [Program.elem, hu]
  have htek := hT _ _ hte
  obtain ⟨es, _⟩ := opd_sound hok.agr hgs hs
  obtain ⟨eh, _⟩ := opd_sound hok.agr hgs hhh
  simp only [SV.den] at es eh ⊢
  have := run_slice_h (P := C.P) w t A n c (by rw [hel]; exact hu) kh h h0 h2
  simp only [execOp, ho, Option.map_none, Option.map_some, es, eh]
  rw [Sem.run_bind, run_sliceAt_slice w t _ _ _ _ (by rw [hel]; exact hu), this, hel, run_sizeOf w htek]
  simp [Result.andThen, sliced, partV]
  try (cases A <;> simp)
theorem xd_asV {C : Cx} {all r : List Oper} {Q : St → Prop} {kn : Kn} {gk : List (Nat × (Gd × SV))} {ow : Own} {nx : Nat} {u : Im} (d k : Nat) {D : Data} (hd : look kn d = some (.r k)) (hk : look ow k = some (.sl D))
    (h : ∀ A c, SlAt u (.slice A D.n c) D → D.n ≤ c → XD C all r Q ⟨(d, .v (.slice A D.n c)) :: kn, gk, ow, nx⟩ u) : XD C all r Q ⟨kn, gk, ow, nx⟩ u := by
  unfold XD at h ⊢
  intro E a w0 hok
  obtain ⟨f, hsat⟩ := hok.sat
  have h1 : SlAt u (E k) D := (hsat.holds k _ hk).1
  obtain ⟨A, c, hv, hnc, _⟩ := id h1
  rw [hv] at h1
  refine h A c h1 hnc E a w0 ⟨⟨hok.agr.size, fun d' s h1 h2 => ?_, hok.agr.gk, fun d' s h2 => ?_, hok.agr.glt⟩, hok.sat⟩
  · rw [look_cons] at h2
    split at h2
    · rename_i e; subst e; cases h2
      rw [hok.agr.kn _ _ h1 hd]
      exact congrArg some hv
    · exact hok.agr.kn _ _ h1 h2
  · rw [look_cons] at h2
    split at h2
    · rename_i e; subst e; cases h2; trivial
    · exact hok.agr.klt _ _ h2
theorem xl_asV {C : Cx} {all l : List Oper} {Q : Post} {kn : Kn} {gk : List (Nat × (Gd × SV))} {ow : Own} {nx : Nat} {u : Im} (d k : Nat) {D : Data} (hd : look kn d = some (.r k)) (hk : look ow k = some (.sl D))
    (h : ∀ A c, SlAt u (.slice A D.n c) D → D.n ≤ c → XL C all l Q ⟨(d, .v (.slice A D.n c)) :: kn, gk, ow, nx⟩ u) : XL C all l Q ⟨kn, gk, ow, nx⟩ u := by
  unfold XL at h ⊢
  intro E a w hok
  obtain ⟨f, hsat⟩ := hok.sat
  have h1 : SlAt u (E k) D := (hsat.holds k _ hk).1
  obtain ⟨A, c, hv, hnc, _⟩ := id h1
  rw [hv] at h1
  refine h A c h1 hnc E a w ⟨⟨hok.agr.size, fun d' s h1 h2 => ?_, hok.agr.gk, fun d' s h2 => ?_, hok.agr.glt⟩, hok.sat⟩
  · rw [look_cons] at h2
    split at h2
    · rename_i e; subst e; cases h2
      rw [hok.agr.kn _ _ h1 hd]
      exact congrArg some hv
    · exact hok.agr.kn _ _ h1 h2
  · rw [look_cons] at h2
    split at h2
    · rename_i e; subst e; cases h2; trivial
    · exact hok.agr.klt _ _ h2
end Go.GV
namespace Go.Proofs.YtnjmkeijjapejaaGreatDoor
open Go.GV Go.RowKit
def DocC (f : Nat) : Prop := ∀ (L : List Cd.Tk) (y : Value) (w : World), SlAt (im w) y (partY.d L) → L.length ≤ 1000000 → Cd.nums L →
  (3 * L.length + 3 ≤ f → Calls Tryz.prog 14 #[y] w (PureP w fun v _ => v = woV (Cd.ofF f L))) ∧
  (3 * L.length + 2 ≤ f → Calls Tryz.prog 29 #[y] w (PureP w fun v _ => v = woV (Cd.sidF f L))) ∧
  (3 * L.length + 1 ≤ f → Calls Tryz.prog 60 #[y] w (PureP w fun v _ => v = woV (Cd.oneF f L)))
set_option maxHeartbeats 2000000 in
set_option maxRecDepth 100000 in
theorem sided_step {f : Nat} (ih : DocC f) (L : List Cd.Tk) (y : Value) (w : World) (hy : SlAt (im w) y (partY.d L)) (hL : L.length ≤ 1000000) (hn : Cd.nums L) (hf : 3 * L.length + 2 ≤ f + 1) :
    Calls Tryz.prog 29 #[y] w (PureP w fun v _ => v = woV (Cd.sidF (f + 1) L)) := by
  unfold Cd.sidF
  have hb := Cd.lo_bound L 0 0 false (-1) 11
  have hat := Cd.lo_at (l := L) (i := 0) (d := 0) (pe := false) (k := -1) (best := 11)
  generalize hq : Cd.loF 0 0 false (-1) 11 L = q at hb hat
  refine x_fun tt_ok Tryz.func29 rfl rfl [(y, partY.d L)] 1 [.r 0] rfl rfl rfl rfl (fun b hb => by simp at hb; subst hb; exact hy) ?_
  refine x_vc tt_ok ?_
  refine xl_call0 (.int .i64 q) rfl rfl rfl rfl fn58 rfl rfl (fun E w F hs => by rw [← hq]; exact loosest_any L _ w (hs.slAt (k := 0) rfl) hL) ?_
  refine xl_go tt_ok ?_
  refine x_if (fun h1 => ?_) (fun h1 => ?_)
  · have h1 : q ≥ 0 := of_decide_eq_true h1
    have hql : q < L.length := by
      rcases hat with h | ⟨x, s, z, e1, _, e2⟩
      · omega
      · rw [e1]; simp only [List.length_append, List.length_cons]; omega
    rw [if_pos h1]
    refine x_drawA mix ?_
    refine xa_phase tt_ok (fuel := 1) [0, 1, 2, 3, 4, 5, 6, 7, 8, 9, 10, 11, 12, 13, 14] rfl (by kernel_rfl) (by kernel_rfl) (by kernel_rfl) (phaseB_of 14 (by kernel_rfl)) (xd_go tt_ok ?_)
    repeat (refine And.intro ?_ ?_; first | omega | (simp only [Lay.d_n]; omega))
    refine xd_asV 13 0 rfl rfl (fun A c hx hc => ?_)
    have hc : L.length ≤ c := hc
    refine xd_toE tt_ok rfl rfl rfl rfl rfl rfl rfl rfl rfl h1 (by omega) ?_
    refine xd_go tt_ok ?_
    have hs1 : ∀ w' : World, Imm (im w) w' → SlAt (im w') (partV ti72.sz A c 0 q.toNat) (partY.d (L.take q.toNat)) := fun w' hi => by
      have := partV_slAt (hx.imm hi) (l := 0) (h := q.toNat) (by omega) (by omega)
      rw [List.drop_zero] at this
      exact this
    refine xd_call0 (woV (Cd.sidF f (L.take q.toNat))) rfl rfl rfl rfl fn29 rfl rfl (fun _ E w' F hs => (ih (L.take q.toNat) _ w' (hs1 w' hs.imm) (by rw [List.length_take]; omega) (hn.take' _)).2.1 (by rw [List.length_take]; omega)) ?_
    refine xd_go tt_ok ?_
    repeat (refine And.intro ?_ ?_; first | omega | (simp only [Lay.d_n]; omega))
    refine xd_asV 17 0 rfl rfl (fun A2 c2 hx2 _ => ?_)
    refine xd_fromE tt_ok rfl rfl rfl rfl rfl rfl rfl rfl rfl (by omega) (by show q + 1 ≤ (L.length : Int); omega) ?_
    refine xd_go tt_ok ?_
    have hs2 : ∀ w' : World, Imm (im w) w' → SlAt (im w') (partV ti72.sz A2 c2 (q + 1).toNat L.length) (partY.d (L.drop (q.toNat + 1))) := fun w' hi => by
      have := partV_slAt (hx2.imm hi) (l := (q + 1).toNat) (h := L.length) (by omega) (Nat.le_refl _)
      rw [List.take_length, show (q + 1).toNat = q.toNat + 1 by omega] at this
      rw [show (q + 1).toNat = q.toNat + 1 by omega]
      exact this
    refine xd_call0 (woV (Cd.sidF f (L.drop (q.toNat + 1)))) rfl rfl rfl rfl fn29 rfl rfl (fun _ E w' F hs => (ih (L.drop (q.toNat + 1)) _ w' (hs2 w' hs.imm) (by rw [List.length_drop]; omega) (hn.drop' _)).2.1 (by rw [List.length_drop]; omega)) ?_
    refine xd_go tt_ok ?_
    refine xd_call0 (woV (Cd.twoW (Cd.opT (L.getD q.toNat (.num 0 false))) (Cd.sidF f (L.take q.toNat)) (Cd.sidF f (L.drop (q.toNat + 1))))) rfl rfl rfl rfl fn59 rfl rfl (fun _ E w' F hs => twoR_any _ _ _ (Cd.of_ok f _ (hn.take' _)).2.1.1 (Cd.of_ok f _ (hn.drop' _)).2.1.1 w') ?_
    refine xd_go tt_ok ?_
    refine xa_one 15 (by kernel_rfl) rfl (xl_go tt_ok ?_)
    refine xa_done (by kernel_rfl) rfl ?_
    exact fin1 (fun _ _ => rfl)
  have h1 : ¬ q ≥ 0 := of_decide_eq_false h1
  rw [if_neg h1]
  refine xl_call0 (woV (Cd.oneF f L)) rfl rfl rfl rfl fn60 rfl rfl (fun E w F hs => (ih L _ w (hs.slAt (k := 0) rfl) hL hn).2.2 (by omega)) ?_
  refine xl_go tt_ok ?_
  exact fin1 (fun _ _ => rfl)
end Go.Proofs.YtnjmkeijjapejaaGreatDoor
namespace Go.Proofs.YtnjmkeijjapejaaGreatDoor
open Go.GV Go.RowKit
set_option maxHeartbeats 4000000 in
set_option maxRecDepth 100000 in
theorem of_step {f : Nat} (ih : DocC f) (hf0 : f ≤ 100000000) (L : List Cd.Tk) (y : Value) (w : World) (hy : SlAt (im w) y (partY.d L)) (hL : L.length ≤ 1000000) (hn : Cd.nums L) (hf : 3 * L.length + 3 ≤ f + 1) :
    Calls Tryz.prog 14 #[y] w (PureP w fun v _ => v = woV (Cd.ofF (f + 1) L)) := by
  obtain ⟨R, hR⟩ : ∃ R, R = Cd.ofF (f + 1) L := ⟨_, rfl⟩
  rw [← hR]
  unfold Cd.ofF at hR
  have hat := Cd.qu_at (l := L) (i := 0) (d := 0)
  generalize hq : Cd.quF 0 0 L = q at hat hR
  refine x_fun tt_ok Tryz.func14 rfl rfl [(y, partY.d L)] 1 [.r 0] rfl rfl rfl rfl (fun b hb => by simp at hb; subst hb; exact hy) ?_
  refine x_vc tt_ok ?_
  refine x_if (fun h0 => ?_) (fun h0 => ?_)
  · have h0 : (L.length : Int) = 0 := of_decide_eq_true h0
    rw [if_pos (List.length_eq_zero_iff.1 (by omega))] at hR
    rw [hR]
    exact fin1 (fun _ _ => rfl)
  have h0 : ¬ (L.length : Int) = 0 := of_decide_eq_false h0
  rw [if_neg (fun h => h0 (by rw [h]; rfl))] at hR
  refine xl_call0 (.int .i64 q) rfl rfl rfl rfl fn26 rfl rfl (fun E w F hs => by rw [← hq]; exact question_any L _ w (hs.slAt (k := 0) rfl) hL) ?_
  refine xl_go tt_ok ?_
  refine x_if (fun h1 => ?_) (fun h1 => ?_)
  · have h1 : q ≥ 0 := of_decide_eq_true h1
    rw [if_pos h1] at hR
    obtain ⟨p1, p2, e1, e2⟩ := hat h1
    have hpl : q = p1.length := by omega
    have hql : q < L.length := by rw [e1]; simp only [List.length_append, List.length_cons]; omega
    have hcat := Cd.co_at (l := L.drop q.toNat) (i := q) (d := 0) (o := 0)
    refine xl_call0 (.int .i64 (Cd.coF q 0 0 (L.drop q.toNat))) rfl rfl rfl rfl fn27 rfl rfl (fun E w F hs => colon_any L q _ w (hs.slAt (k := 0) rfl) hL h1 (by omega)) ?_
    generalize hc : Cd.coF q 0 0 (L.drop q.toNat) = c at hcat hR
    refine xl_go tt_ok ?_
    refine x_if (fun h2 => ?_) (fun h2 => ?_)
    · have h2 : c < 0 := of_decide_eq_true h2
      rw [if_pos h2] at hR
      rw [hR]
      exact fin1 (fun _ _ => rfl)
    have h2 : ¬ c < 0 := of_decide_eq_false h2
    rw [if_neg h2] at hR
    obtain ⟨r1, r2, e3, e4⟩ := hcat (by omega)
    have hr1 : 1 ≤ r1.length := by
      cases r1 with
      | nil =>
        rw [e1, hpl, Int.toNat_natCast, List.drop_left, List.nil_append] at e3
        injection e3 with e5 _
        injection e5 with e6
        exact absurd e6 (by decide)
      | cons a b => simp
    have hcl : c < L.length := by
      have := congrArg List.length e3
      rw [List.length_drop, List.length_append, List.length_cons] at this
      omega
    refine x_drawA mix ?_
    refine xa_phase tt_ok (fuel := 1) [0, 1, 2, 3, 4, 5, 6, 7, 8, 9, 10, 11, 12, 13, 14, 15] rfl (by kernel_rfl) (by kernel_rfl) (by kernel_rfl) (phaseB_of 15 (by kernel_rfl)) (xd_go tt_ok ?_)
    refine xd_asV 19 0 rfl rfl (fun A k hx hk => ?_)
    have hk : L.length ≤ k := hk
    refine xd_toE tt_ok rfl rfl rfl rfl rfl rfl rfl rfl rfl h1 (by omega) ?_
    refine xd_go tt_ok ?_
    have hs1 : ∀ w' : World, Imm (im w) w' → SlAt (im w') (partV ti72.sz A k 0 q.toNat) (partY.d (L.take q.toNat)) := fun w' hi => by
      have := partV_slAt (hx.imm hi) (l := 0) (h := q.toNat) (by omega) (by omega)
      rw [List.drop_zero] at this
      exact this
    refine xd_call0 (woV (Cd.sidF f (L.take q.toNat))) rfl rfl rfl rfl fn29 rfl rfl (fun _ E w' F hs => (ih (L.take q.toNat) _ w' (hs1 w' hs.imm) (by rw [List.length_take]; omega) (hn.take' _)).2.1 (by rw [List.length_take]; omega)) ?_
    refine xd_go tt_ok ?_
    repeat (refine And.intro ?_ ?_; first | omega | (simp only [Lay.d_n]; omega))
    refine xd_asV 23 0 rfl rfl (fun A2 k2 hx2 hk2 => ?_)
    have hk2 : L.length ≤ k2 := hk2
    refine xd_subE tt_ok rfl rfl rfl rfl rfl rfl rfl rfl rfl rfl (by omega) (by omega) (by omega) ?_
    refine xd_go tt_ok ?_
    have hs2 : ∀ w' : World, Imm (im w) w' → SlAt (im w') (partV ti72.sz A2 k2 (q + 1).toNat c.toNat) (partY.d ((L.take c.toNat).drop (q.toNat + 1))) := fun w' hi => by
      have := partV_slAt (hx2.imm hi) (l := (q + 1).toNat) (h := c.toNat) (by omega) (by omega)
      rw [show (q + 1).toNat = q.toNat + 1 by omega] at this ⊢
      exact this
    refine xd_call0 (woV (Cd.ofF f ((L.take c.toNat).drop (q.toNat + 1)))) rfl rfl rfl rfl fn14 rfl rfl (fun _ E w' F hs => (ih _ _ w' (hs2 w' hs.imm) (by rw [List.length_drop, List.length_take]; omega) ((hn.take' _).drop' _)).1 (by rw [List.length_drop, List.length_take]; omega)) ?_
    refine xd_go tt_ok ?_
    repeat (refine And.intro ?_ ?_; first | omega | (simp only [Lay.d_n]; omega))
    refine xd_asV 29 0 rfl rfl (fun A3 k3 hx3 _ => ?_)
    refine xd_fromE tt_ok rfl rfl rfl rfl rfl rfl rfl rfl rfl (by omega) (by show c + 1 ≤ (L.length : Int); omega) ?_
    refine xd_go tt_ok ?_
    have hs3 : ∀ w' : World, Imm (im w) w' → SlAt (im w') (partV ti72.sz A3 k3 (c + 1).toNat L.length) (partY.d (L.drop (c.toNat + 1))) := fun w' hi => by
      have := partV_slAt (hx3.imm hi) (l := (c + 1).toNat) (h := L.length) (by omega) (Nat.le_refl _)
      rw [List.take_length, show (c + 1).toNat = c.toNat + 1 by omega] at this
      rw [show (c + 1).toNat = c.toNat + 1 by omega]
      exact this
    refine xd_call0 (woV (Cd.ofF f (L.drop (c.toNat + 1)))) rfl rfl rfl rfl fn14 rfl rfl (fun _ E w' F hs => (ih _ _ w' (hs3 w' hs.imm) (by rw [List.length_drop]; omega) (hn.drop' _)).1 (by rw [List.length_drop]; omega)) ?_
    refine xd_go tt_ok ?_
    have dsm_of : ∀ {x : Cd.Wo}, Cd.okW x f → dsm x := fun h => ⟨h.2.1, by have := h.2.2.1; omega⟩
    refine xd_call0 (woV (Cd.choW (Cd.sidF f (L.take q.toNat)) (Cd.ofF f ((L.take c.toNat).drop (q.toNat + 1))) (Cd.ofF f (L.drop (c.toNat + 1))))) rfl rfl rfl rfl fn28 rfl rfl
      (fun _ E w' F hs => choiceR_any _ _ _ (dsm_of (Cd.of_ok f _ (hn.take' _)).2.1) (dsm_of (Cd.of_ok f _ ((hn.take' _).drop' _)).1) (dsm_of (Cd.of_ok f _ (hn.drop' _)).1) w') ?_
    refine xd_go tt_ok ?_
    refine xa_one 16 (by kernel_rfl) rfl (xl_go tt_ok ?_)
    refine xa_done (by kernel_rfl) rfl ?_
    rw [hR]
    exact fin1 (fun _ _ => rfl)
  have h1 : ¬ q ≥ 0 := of_decide_eq_false h1
  rw [if_neg h1] at hR
  refine xl_call0 (woV (Cd.sidF f L)) rfl rfl rfl rfl fn29 rfl rfl (fun E w F hs => (ih L _ w (hs.slAt (k := 0) rfl) hL hn).2.1 (by omega)) ?_
  refine xl_go tt_ok ?_
  rw [hR]
  exact fin1 (fun _ _ => rfl)
end Go.Proofs.YtnjmkeijjapejaaGreatDoor
namespace Go.Proofs.YtnjmkeijjapejaaGreatDoor
open Go.GV Go.RowKit
set_option maxHeartbeats 8000000 in
set_option maxRecDepth 100000 in
theorem one_step {f : Nat} (ih : DocC f) (hf0 : f ≤ 100000000) (L : List Cd.Tk) (y : Value) (w : World) (hy : SlAt (im w) y (partY.d L)) (hL : L.length ≤ 1000000) (hn : Cd.nums L) (hf : 3 * L.length + 1 ≤ f + 1) :
    Calls Tryz.prog 60 #[y] w (PureP w fun v _ => v = woV (Cd.oneF (f + 1) L)) := by
  obtain ⟨R, hR⟩ : ∃ R, R = Cd.oneF (f + 1) L := ⟨_, rfl⟩
  rw [← hR]
  unfold Cd.oneF at hR
  obtain ⟨p, hp⟩ : ∃ p, p = Cd.opT (L.getD 0 (.num 0 false)) := ⟨_, rfl⟩
  rw [← hp] at hR
  refine x_fun tt_ok Tryz.func60 rfl rfl [(y, partY.d L)] 1 [.r 0] rfl rfl rfl rfl (fun b hb => by simp at hb; subst hb; exact hy) ?_
  refine x_seq (x_vc tt_ok ?_)
  refine x_seq (x_vc tt_ok ?_)
  refine x_if (fun h0 => ?_) (fun h0 => ?_)
  · have h0 : (L.length : Int) = 0 := of_decide_eq_true h0
    rw [if_pos (List.length_eq_zero_iff.1 (by omega))] at hR
    rw [hR]
    exact fin1 (fun _ _ => rfl)
  have h0 : ¬ (L.length : Int) = 0 := of_decide_eq_false h0
  rw [if_neg (fun h => h0 (by rw [h]; rfl))] at hR
  refine x_seq (x_vc tt_ok ?_)
  repeat (refine And.intro ?_ ?_; first | omega | (simp only [Lay.d_n]; omega))
  refine x_if (fun h1 => ?_) (fun h1 => ?_)
  · have h1 : (decide ((L.length : Int) = 1) && decide (p = ⟨#[]⟩)) = true := by rw [hp]; exact h1
    rw [Bool.and_eq_true, decide_eq_true_eq, decide_eq_true_eq] at h1
    rw [if_pos ⟨by omega, h1.2⟩] at hR
    rw [hR]
    refine x_drawA mix ?_
    refine xa_phase tt_ok (fuel := 1) [0, 1, 2, 3, 4, 5, 6, 7, 8] rfl (by kernel_rfl) (by kernel_rfl) (by kernel_rfl) (phaseB_of 8 (by kernel_rfl)) (xd_go tt_ok ?_)
    repeat (refine And.intro ?_ ?_; first | omega | (simp only [Lay.d_n]; omega))
    refine xa_one 9 (by kernel_rfl) rfl (xl_go tt_ok ?_)
    refine xa_done (by kernel_rfl) rfl ?_
    exact fin1 (fun _ _ => rfl)
  have h1 : (decide ((L.length : Int) = 1) && decide (p = ⟨#[]⟩)) = false := by rw [hp]; exact h1
  rw [if_neg (fun h => by rw [← Bool.not_eq_true] at h1; exact h1 (by rw [Bool.and_eq_true, decide_eq_true_eq, decide_eq_true_eq]; exact ⟨by omega, h.2⟩))] at hR
  clear h1
  refine x_seq (x_vc tt_ok ?_)
  repeat (refine And.intro ?_ ?_; first | omega | (simp only [Lay.d_n]; omega))
  refine x_seq (x_vc tt_ok ?_)
  repeat (refine And.intro ?_ ?_; first | omega | (simp only [Lay.d_n]; omega))
  refine x_if (fun h2 => ?_) (fun h2 => ?_)
  · have h2 : (decide (p = Cd.lp) && decide (Cd.opT (L.getD ((L.length : Int) - 1).toNat (.num 0 false)) = Cd.rp)) = true := by rw [hp]; exact h2
    rw [Bool.and_eq_true, decide_eq_true_eq, decide_eq_true_eq, show ((L.length : Int) - 1).toNat = L.length - 1 by omega] at h2
    rw [if_pos h2] at hR
    have hl2 : 2 ≤ L.length := by
      rcases Nat.lt_or_ge L.length 2 with h | h
      · have e : L.length - 1 = 0 := by omega
        rw [e, ← hp, h2.1] at h2
        exact absurd h2.2 (by decide)
      · exact h
    refine xl_asV 45 0 rfl rfl (fun A k hx hk => ?_)
    have hk : L.length ≤ k := hk
    refine xl_subE tt_ok rfl rfl rfl rfl rfl rfl rfl rfl rfl rfl (by omega) (by show (1 : Int) ≤ (L.length : Int) - 1; omega) (by show (L.length : Int) - 1 ≤ k; omega) ?_
    refine xl_go tt_ok ?_
    obtain ⟨M, hM⟩ : ∃ M, M = (L.take (L.length - 1)).drop 1 := ⟨_, rfl⟩
    rw [← hM] at hR
    have hs1 : ∀ w' : World, Imm (im w) w' → SlAt (im w') (partV ti72.sz A k (1 : Int).toNat ((L.length : Int) - 1).toNat) (partY.d M) := fun w' hi => by
      have := partV_slAt (hx.imm hi) (l := (1 : Int).toNat) (h := ((L.length : Int) - 1).toNat) (by omega) (by omega)
      rw [hM, show L.length - 1 = ((L.length : Int) - 1).toNat by omega]
      exact this
    have hMl : M.length + 2 = L.length := by rw [hM, List.length_drop, List.length_take]; omega
    have hMn : Cd.nums M := by rw [hM]; exact (hn.take' _).drop' _
    have hok := (Cd.of_ok f M hMn).1
    obtain ⟨_, d0, d1, _⟩ := hok
    refine xl_call0 (woV (Cd.ofF f M)) rfl rfl rfl rfl fn14 rfl rfl (fun E w' F hs => (ih M _ w' (hs1 w' hs.imm) (by omega) hMn).1 (by omega)) ?_
    refine xl_go tt_ok ?_
    repeat (refine And.intro ?_ ?_; first | omega | (simp only [Lay.d_n]; omega))
    rw [hR]
    exact fin1 (fun _ _ => rfl)
  have h2 : (decide (p = Cd.lp) && decide (Cd.opT (L.getD ((L.length : Int) - 1).toNat (.num 0 false)) = Cd.rp)) = false := by rw [hp]; exact h2
  rw [if_neg (fun h => by rw [← Bool.not_eq_true] at h2; exact h2 (by rw [Bool.and_eq_true, decide_eq_true_eq, decide_eq_true_eq, show ((L.length : Int) - 1).toNat = L.length - 1 by omega]; exact h))] at hR
  clear h2
  refine x_seq (x_vc tt_ok ?_)
  refine x_seq (x_vc tt_ok ?_)
  repeat (refine And.intro ?_ ?_; first | omega | (simp only [Lay.d_n]; omega))
  have hdr : Cd.nums (L.drop 1) := hn.drop' 1
  have hs2 : ∀ (A : Option Addr) (k : Nat) (w' : World), SlAt (im w) (.slice A (partY.d L).n k) (partY.d L) → Imm (im w) w' → SlAt (im w') (partV ti72.sz A k (1 : Int).toNat L.length) (partY.d (L.drop 1)) := fun A k w' hx hi => by
    have := partV_slAt (hx.imm hi) (l := (1 : Int).toNat) (h := L.length) (by omega) (Nat.le_refl _)
    rw [List.take_length] at this
    exact this
  obtain ⟨r0, d0, d1, _⟩ := (Cd.of_ok f (L.drop 1) hdr).2.2
  have hone : ∀ (A : Option Addr) (k : Nat) (w' : World), SlAt (im w) (.slice A (partY.d L).n k) (partY.d L) → Imm (im w) w' → Calls Tryz.prog 60 #[partV ti72.sz A k (1 : Int).toNat L.length] w' (PureP w' fun v _ => v = woV (Cd.oneF f (L.drop 1))) := fun A k w' hx hi =>
    (ih (L.drop 1) _ w' (hs2 A k w' hx hi) (by rw [List.length_drop]; omega) hdr).2.2 (by rw [List.length_drop]; omega)
  generalize Cd.oneF f (L.drop 1) = W at *
  obtain ⟨wv, wu, wd, we, wb⟩ := W
  by_cases e : p = Cd.plB
  · rw [e, if_pos (by decide)] at hR
    refine x_ift (by show decide (Cd.opT (L.getD 0 (.num 0 false)) = _) = true; rw [← hp, e]; decide) ?_
    refine x_ift (by show decide (Cd.opT (L.getD 0 (.num 0 false)) = _) = true; rw [← hp, e]; decide) ?_
    repeat (refine And.intro ?_ ?_; first | omega | (simp only [Lay.d_n]; omega))
    refine xl_asV 64 0 rfl rfl (fun A k hx hk => ?_)
    refine xl_fromE tt_ok rfl rfl rfl rfl rfl rfl rfl rfl rfl (by omega) (by show (1 : Int) ≤ (L.length : Int); omega) ?_
    refine xl_go tt_ok ?_
    refine xl_call0 (woV ⟨wv, wu, wd, we, wb⟩) rfl rfl rfl rfl fn60 rfl rfl (fun E w' F hs => hone A k w' hx hs.imm) ?_
    refine xl_go tt_ok ?_
    have d0 : 0 ≤ wd := d0
    have d1 : wd ≤ f := d1
    refine x_seq (x_vc tt_ok ?_)
    repeat (refine And.intro ?_ ?_; first | omega | (simp only [Lay.d_n]; omega))
    refine x_seq (x_vc tt_ok ?_)
    unfold Cd.preW at hR
    simp only at hR
    refine x_if (fun h3 => ?_) (fun h3 => ?_)
    · have h3 : (wb || decide (we ≠ 0)) = true := h3
      rw [if_pos h3] at hR
      repeat (refine And.intro ?_ ?_; first | omega | (simp only [Lay.d_n]; omega))
      refine x_iff (by show decide (Cd.opT (L.getD 0 (.num 0 false)) = _) = false; rw [← hp, e]; decide) ?_
      rw [hR]
      exact fin1 (fun _ _ => rfl)
    have h3 : (wb || decide (we ≠ 0)) = false := h3
    rw [if_neg (by rw [h3]; simp)] at hR
    rw [if_neg (by decide), if_neg (by decide), if_neg (by decide)] at hR
    refine x_vc tt_ok ?_
    repeat (refine And.intro ?_ ?_; first | omega | (simp only [Lay.d_n]; omega))
    refine x_iff (by show decide (Cd.opT (L.getD 0 (.num 0 false)) = _) = false; rw [← hp, e]; decide) ?_
    refine x_iff (by show decide (Cd.opT (L.getD 0 (.num 0 false)) = _) = false; rw [← hp, e]; decide) ?_
    refine x_iff (by show decide (Cd.opT (L.getD 0 (.num 0 false)) = _) = false; rw [← hp, e]; decide) ?_
    rw [hR]
    exact fin1 (fun _ _ => rfl)
  have n0 : ¬ p = Cd.plB := e
  clear e
  by_cases e : p = Cd.miB
  · rw [e, if_pos (by decide)] at hR
    refine x_iff (by show decide (Cd.opT (L.getD 0 (.num 0 false)) = _) = false; rw [← hp, e]; decide) ?_
    refine x_ift (by show decide (Cd.opT (L.getD 0 (.num 0 false)) = _) = true; rw [← hp, e]; decide) ?_
    refine x_ift (by show decide (Cd.opT (L.getD 0 (.num 0 false)) = _) = true; rw [← hp, e]; decide) ?_
    repeat (refine And.intro ?_ ?_; first | omega | (simp only [Lay.d_n]; omega))
    refine xl_asV 64 0 rfl rfl (fun A k hx hk => ?_)
    refine xl_fromE tt_ok rfl rfl rfl rfl rfl rfl rfl rfl rfl (by omega) (by show (1 : Int) ≤ (L.length : Int); omega) ?_
    refine xl_go tt_ok ?_
    refine xl_call0 (woV ⟨wv, wu, wd, we, wb⟩) rfl rfl rfl rfl fn60 rfl rfl (fun E w' F hs => hone A k w' hx hs.imm) ?_
    refine xl_go tt_ok ?_
    have d0 : 0 ≤ wd := d0
    have d1 : wd ≤ f := d1
    refine x_seq (x_vc tt_ok ?_)
    repeat (refine And.intro ?_ ?_; first | omega | (simp only [Lay.d_n]; omega))
    refine x_seq (x_vc tt_ok ?_)
    unfold Cd.preW at hR
    simp only at hR
    refine x_if (fun h3 => ?_) (fun h3 => ?_)
    · have h3 : (wb || decide (we ≠ 0)) = true := h3
      rw [if_pos h3] at hR
      repeat (refine And.intro ?_ ?_; first | omega | (simp only [Lay.d_n]; omega))
      refine x_iff (by show decide (Cd.opT (L.getD 0 (.num 0 false)) = _) = false; rw [← hp, e]; decide) ?_
      rw [hR]
      exact fin1 (fun _ _ => rfl)
    have h3 : (wb || decide (we ≠ 0)) = false := h3
    rw [if_neg (by rw [h3]; simp)] at hR
    rw [if_pos (by decide)] at hR
    refine x_seq ?_
    refine x_seq (x_vc tt_ok ?_)
    repeat (refine And.intro ?_ ?_; first | omega | (simp only [Lay.d_n]; omega))
    refine x_block ?_
    refine x_seq (x_vc tt_ok ?_)
    refine x_cond rfl (fun _ => ?_) (fun h => absurd (h.symm.trans (show decide (Cd.opT (L.getD 0 (.num 0 false)) = Cd.miB) = true by rw [← hp, e]; decide)) (by decide))
    refine x_region ?_
    refine xl_eff tt_ok rfl rfl rfl rfl (by trivial) ?_
    refine xl_eff tt_ok rfl rfl rfl rfl (by trivial) ?_
    refine xl_un (.int .u64 (Cd.wr (-wv))) rfl rfl rfl rfl rfl (fun w => run_neg64 wv) ?_
    refine xl_go tt_ok ?_
    refine x_vc tt_ok ?_
    rw [hR]
    exact fin1 (fun _ _ => rfl)
  have n1 : ¬ p = Cd.miB := e
  clear e
  by_cases e : p = Cd.tiB
  · rw [e, if_pos (by decide)] at hR
    refine x_iff (by show decide (Cd.opT (L.getD 0 (.num 0 false)) = _) = false; rw [← hp, e]; decide) ?_
    refine x_iff (by show decide (Cd.opT (L.getD 0 (.num 0 false)) = _) = false; rw [← hp, e]; decide) ?_
    refine x_ift (by show decide (Cd.opT (L.getD 0 (.num 0 false)) = _) = true; rw [← hp, e]; decide) ?_
    refine x_ift (by show decide (Cd.opT (L.getD 0 (.num 0 false)) = _) = true; rw [← hp, e]; decide) ?_
    repeat (refine And.intro ?_ ?_; first | omega | (simp only [Lay.d_n]; omega))
    refine xl_asV 64 0 rfl rfl (fun A k hx hk => ?_)
    refine xl_fromE tt_ok rfl rfl rfl rfl rfl rfl rfl rfl rfl (by omega) (by show (1 : Int) ≤ (L.length : Int); omega) ?_
    refine xl_go tt_ok ?_
    refine xl_call0 (woV ⟨wv, wu, wd, we, wb⟩) rfl rfl rfl rfl fn60 rfl rfl (fun E w' F hs => hone A k w' hx hs.imm) ?_
    refine xl_go tt_ok ?_
    have d0 : 0 ≤ wd := d0
    have d1 : wd ≤ f := d1
    refine x_seq (x_vc tt_ok ?_)
    repeat (refine And.intro ?_ ?_; first | omega | (simp only [Lay.d_n]; omega))
    refine x_seq (x_vc tt_ok ?_)
    unfold Cd.preW at hR
    simp only at hR
    refine x_if (fun h3 => ?_) (fun h3 => ?_)
    · have h3 : (wb || decide (we ≠ 0)) = true := h3
      rw [if_pos h3] at hR
      repeat (refine And.intro ?_ ?_; first | omega | (simp only [Lay.d_n]; omega))
      refine x_iff (by show decide (Cd.opT (L.getD 0 (.num 0 false)) = _) = false; rw [← hp, e]; decide) ?_
      rw [hR]
      exact fin1 (fun _ _ => rfl)
    have h3 : (wb || decide (we ≠ 0)) = false := h3
    rw [if_neg (by rw [h3]; simp)] at hR
    rw [if_neg (by decide), if_pos (by decide)] at hR
    have r1 : 0 ≤ wv := r0.1
    have r2 : wv < 18446744073709551616 := r0.2
    refine x_vc tt_ok ?_
    repeat (refine And.intro ?_ ?_; first | omega | (simp only [Lay.d_n]; omega))
    refine x_iff (by show decide (Cd.opT (L.getD 0 (.num 0 false)) = _) = false; rw [← hp, e]; decide) ?_
    refine x_ift (by show decide (Cd.opT (L.getD 0 (.num 0 false)) = _) = true; rw [← hp, e]; decide) ?_
    repeat (refine And.intro ?_ ?_; first | omega | (simp only [Lay.d_n]; omega))
    rw [hR]
    exact fin1 (fun _ _ => rfl)
  have n2 : ¬ p = Cd.tiB := e
  clear e
  by_cases e : p = Cd.noB
  · rw [e, if_pos (by decide)] at hR
    refine x_iff (by show decide (Cd.opT (L.getD 0 (.num 0 false)) = _) = false; rw [← hp, e]; decide) ?_
    refine x_iff (by show decide (Cd.opT (L.getD 0 (.num 0 false)) = _) = false; rw [← hp, e]; decide) ?_
    refine x_iff (by show decide (Cd.opT (L.getD 0 (.num 0 false)) = _) = false; rw [← hp, e]; decide) ?_
    refine x_ift (by show decide (Cd.opT (L.getD 0 (.num 0 false)) = _) = true; rw [← hp, e]; decide) ?_
    repeat (refine And.intro ?_ ?_; first | omega | (simp only [Lay.d_n]; omega))
    refine xl_asV 64 0 rfl rfl (fun A k hx hk => ?_)
    refine xl_fromE tt_ok rfl rfl rfl rfl rfl rfl rfl rfl rfl (by omega) (by show (1 : Int) ≤ (L.length : Int); omega) ?_
    refine xl_go tt_ok ?_
    refine xl_call0 (woV ⟨wv, wu, wd, we, wb⟩) rfl rfl rfl rfl fn60 rfl rfl (fun E w' F hs => hone A k w' hx hs.imm) ?_
    refine xl_go tt_ok ?_
    have d0 : 0 ≤ wd := d0
    have d1 : wd ≤ f := d1
    refine x_seq (x_vc tt_ok ?_)
    repeat (refine And.intro ?_ ?_; first | omega | (simp only [Lay.d_n]; omega))
    refine x_seq (x_vc tt_ok ?_)
    unfold Cd.preW at hR
    simp only at hR
    refine x_if (fun h3 => ?_) (fun h3 => ?_)
    · have h3 : (wb || decide (we ≠ 0)) = true := h3
      rw [if_pos h3] at hR
      repeat (refine And.intro ?_ ?_; first | omega | (simp only [Lay.d_n]; omega))
      refine x_ift (by show decide (Cd.opT (L.getD 0 (.num 0 false)) = _) = true; rw [← hp, e]; decide) ?_
      rw [hR]
      exact fin1 (fun _ _ => rfl)
    have h3 : (wb || decide (we ≠ 0)) = false := h3
    rw [if_neg (by rw [h3]; simp)] at hR
    rw [if_neg (by decide), if_neg (by decide), if_pos (by decide)] at hR
    refine x_vc tt_ok ?_
    repeat (refine And.intro ?_ ?_; first | omega | (simp only [Lay.d_n]; omega))
    refine x_iff (by show decide (Cd.opT (L.getD 0 (.num 0 false)) = _) = false; rw [← hp, e]; decide) ?_
    refine x_iff (by show decide (Cd.opT (L.getD 0 (.num 0 false)) = _) = false; rw [← hp, e]; decide) ?_
    refine x_ift (by show decide (Cd.opT (L.getD 0 (.num 0 false)) = _) = true; rw [← hp, e]; decide) ?_
    refine xl_call0 (.int .u64 (Cd.truth (decide (wv = 0)))) rfl rfl rfl rfl fn78 rfl rfl (fun E w F hs => truthR_any _ w) ?_
    refine xl_go tt_ok ?_
    rw [hR]
    exact fin1 (fun _ _ => rfl)
  have n3 : ¬ p = Cd.noB := e
  clear e
  have hpre : Cd.isPre p = false := by
    cases h : Cd.isPre p with
    | false => rfl
    | true => rcases Cd.isPre_cases h with h | h | h | h <;> contradiction
  rw [if_neg (by rw [hpre]; simp)] at hR
  refine x_iff (decide_eq_false (fun h => n0 (hp.trans h))) ?_
  refine x_iff (decide_eq_false (fun h => n1 (hp.trans h))) ?_
  refine x_iff (decide_eq_false (fun h => n2 (hp.trans h))) ?_
  refine x_iff (decide_eq_false (fun h => n3 (hp.trans h))) ?_
  refine x_seq (x_vc tt_ok ?_)
  repeat (refine And.intro ?_ ?_; first | omega | (simp only [Lay.d_n]; omega))
  refine x_seq (x_vc tt_ok ?_)
  refine x_ift rfl ?_
  repeat (refine And.intro ?_ ?_; first | omega | (simp only [Lay.d_n]; omega))
  refine x_iff (decide_eq_false (fun h => n3 (hp.trans h))) ?_
  unfold Cd.preW at hR
  rw [if_pos (by rfl), if_neg n3] at hR
  rw [hR]
  exact fin1 (fun _ _ => rfl)
theorem docC : ∀ f, f ≤ 100000000 → DocC f
  | 0, _ => fun L y w hy hL hn => ⟨fun h => absurd h (by omega), fun h => absurd h (by omega), fun h => absurd h (by omega)⟩
  | f + 1, hf => fun L y w hy hL hn =>
    ⟨fun h => of_step (docC f (by omega)) (by omega) L y w hy hL hn h, fun h => sided_step (docC f (by omega)) L y w hy hL hn h, fun h => one_step (docC f (by omega)) (by omega) L y w hy hL hn h⟩
end Go.Proofs.YtnjmkeijjapejaaGreatDoor
namespace Go.Proofs.YtnjmkeijjapejaaGreatDoor
open Go.GV Go.RowKit
def prE (L : List PV) : Int := if layT L = true then 62 else if (toksV L).any Cd.isBad = true then 70 else 0
def prL (L : List PV) : List Cd.Tk := if prE L = 0 then toksV L else []
theorem rd_word (s : ByteArray) : rdT 1 s = .num 0 false := rfl
theorem rd_none {k : Int} {s : ByteArray} (h1 : k ≠ 1) (h : clsE k s ≠ 0) : Cd.isBad (rdT k s) = true := by
  unfold rdT; rw [if_neg h1, if_pos h]; rfl
theorem rd_int {k : Int} {s : ByteArray} (h1 : k ≠ 1) (h : clsE k s = 0) (h3 : (clsA k s).1 = 3) : (clsA k s).2 = s ∧ rdT k s = .num (intV s).1 (intV s).2.1 := by
  have hv : clsV k s ≠ 0 := fun e => by unfold clsE at h; rw [if_pos e] at h; cases h
  have e : clsA k s = (clsV k s, clsT k s) := by unfold clsA; rw [if_neg hv]
  refine ⟨?_, by unfold rdT; rw [if_neg h1, if_neg (by rw [h]; simp), if_pos h3]⟩
  rw [e] at h3 ⊢
  have h3 : clsV k s = 3 := h3
  show clsT k s = s
  rw [clsT_op hv, if_neg (by omega)]
theorem rd_char {k : Int} {s : ByteArray} (h1 : k ≠ 1) (h : clsE k s = 0) (h5 : (clsA k s).1 = 5) : (clsA k s).2 = s ∧ rdT k s = .num (Cd.wr (charV s).1) false := by
  have hv : clsV k s ≠ 0 := fun e => by unfold clsE at h; rw [if_pos e] at h; cases h
  have e : clsA k s = (clsV k s, clsT k s) := by unfold clsA; rw [if_neg hv]
  refine ⟨?_, by unfold rdT; rw [if_neg h1, if_neg (by rw [h]; simp), if_neg (by rw [h5]; decide), if_pos h5]⟩
  rw [e] at h5 ⊢
  have h5 : clsV k s = 5 := h5
  show clsT k s = s
  rw [clsT_op hv, if_neg (by omega)]
theorem rd_op {k : Int} {s : ByteArray} (h1 : k ≠ 1) (h : clsE k s = 0) (h7 : (clsA k s).1 = 7) : rdT k s = .op (clsA k s).2 := by
  unfold rdT; rw [if_neg h1, if_neg (by rw [h]; simp), if_neg (by rw [h7]; decide), if_neg (by rw [h7]; decide), if_pos h7]
theorem rd_other {k : Int} {s : ByteArray} (h1 : k ≠ 1) (h : clsE k s = 0) (h3 : (clsA k s).1 ≠ 3) (h5 : (clsA k s).1 ≠ 5) (h7 : (clsA k s).1 ≠ 7) : Cd.isBad (rdT k s) = true := by
  unfold rdT; rw [if_neg h1, if_neg (by rw [h]; simp), if_neg h3, if_neg h5, if_neg h7]; rfl
theorem pr_bad {L : List PV} {i : Nat} (hl : layT L = false) (hi : i < L.length) (h : Cd.isBad (rdT (L.getD i pv0).kind (L.getD i pv0).text) = true) : prE L = 70 ∧ prL L = [] := by
  have e : (toksV L).any Cd.isBad = true := by
    rw [List.any_eq_true]
    refine ⟨_, ?_, h⟩
    unfold toksV
    refine List.mem_map.2 ⟨L.getD i pv0, ?_, rfl⟩
    rw [List.getD_eq_getElem?_getD, List.getElem?_eq_getElem hi]
    exact List.getElem_mem hi
  have e2 : prE L = 70 := by unfold prE; rw [if_neg (by rw [hl]; simp), if_pos e]
  exact ⟨e2, by unfold prL; rw [if_neg (by rw [e2]; decide)]⟩
set_option maxHeartbeats 4000000 in
set_option maxRecDepth 100000 in
theorem partsR_any (L : List PV) (x : Value) (w : World) (hx : SlAt (im w) x (pvY.d L)) (hL : L.length ≤ 1000000) (hT : ∀ t ∈ L, t.text.size ≤ 1000) :
    Calls Tryz.prog 13 #[x] w (PureP w (OwnT 72 (partY.d (prL L)) [.int .i64 (prE L)])) := by
  refine x_fun tt_ok Tryz.func13 rfl rfl [(x, pvY.d L)] 1 [.r 0] rfl rfl rfl rfl (fun b hb => by simp at hb; subst hb; exact hx) ?_
  refine x_vc tt_ok ?_
  refine x_loop (σ := Int) (fun i => ⟨[(4, .v (.int .i64 i)), (0, .r 0)], [], [(0, .sl (pvY.d L))], 1⟩)
    (fun i _ => 0 ≤ i ∧ i ≤ L.length ∧ layT (L.drop i.toNat) = layT L) (fun i => (L.length - i).toNat) (fun _ => Nat.le_refl _) 0 [] (.of rfl rfl rfl rfl rfl rfl) ⟨by omega, by omega, rfl⟩ ?_
  rintro i u1 hu1 ⟨g1, g2, g3⟩
  refine x_vc tt_ok ?_
  refine x_if (fun h1 => ?_) (fun h1 => ?_)
  · have h1 : i < L.length := of_decide_eq_true h1
    rw [drop_cons pv0 (by omega : i.toNat < L.length), layT] at g3
    repeat (refine And.intro ?_ ?_; first | omega | (simp only [Lay.d_n]; omega))
    refine x_if (fun h2 => ?_) (fun h2 => ?_)
    · have h2 : (decide ((L.getD i.toNat pv0).kind = 10) || decide ((L.getD i.toNat pv0).kind = 11)) = true := h2
      rw [h2] at g3
      have e2 : prE L = 62 := by unfold prE; rw [if_pos (by rw [← g3]; rfl)]
      rw [show prL L = [] by unfold prL; rw [if_neg (by rw [e2]; decide)], e2]
      exact finO2n partY
    · have h2 : (decide ((L.getD i.toNat pv0).kind = 10) || decide ((L.getD i.toNat pv0).kind = 11)) = false := h2
      rw [h2, Bool.false_or] at g3
      repeat (refine And.intro ?_ ?_; first | omega | (simp only [Lay.d_n]; omega))
      exact again (i + 1) [] (.of rfl rfl rfl rfl rfl rfl) ⟨by omega, by omega, by rw [show (i + 1).toNat = i.toNat + 1 by omega]; exact g3⟩ (by omega)
  have h1 : ¬ i < L.length := of_decide_eq_false h1
  rw [List.drop_eq_nil_of_le (by omega), layT] at g3
  have hlay := g3.symm
  clear h1
  refine x_nil 5 72 partY rfl ?_
  refine x_vc tt_ok ?_
  refine x_loop (σ := Int × List Cd.Tk) (fun (j, O) => ⟨[(6, .v (.int .i64 j)), (5, .r 2), (0, .r 0)], [], [(2, .row 72 (partY.d O)), (0, .sl (pvY.d L))], 3⟩)
    (fun (j, O) _ => 0 ≤ j ∧ j ≤ L.length ∧ O = toksV (L.take j.toNat) ∧ O.any Cd.isBad = false) (fun (j, _) => (L.length - j).toNat) (fun (_, _) => by simp only; omega) (0, []) [(2, some 1)] (.of rfl rfl rfl rfl rfl rfl)
    ⟨by omega, by omega, rfl, rfl⟩ ?_
  rintro ⟨j, O⟩ qu qhu ⟨qg1, qg2, qg3, qg4⟩
  refine x_seq (x_vc tt_ok ?_)
  refine x_if (fun qh => ?_) (fun qh => ?_)
  · have qh : j < L.length := of_decide_eq_true qh
    have hi : L[j.toNat]? = some (L.getD j.toNat pv0) := by rw [List.getD_eq_getElem?_getD, List.getElem?_eq_getElem (by omega : j.toNat < L.length)]; rfl
    have hsz := hT _ (List.mem_of_getElem? hi)
    have hOl : O.length ≤ j.toNat := by rw [qg3, toksV, List.length_map, List.length_take]; omega
    have hnext : ∀ y, rdT (L.getD j.toNat pv0).kind (L.getD j.toNat pv0).text = y → Cd.isBad y = false → O ++ [y] = toksV (L.take (j + 1).toNat) ∧ (O ++ [y]).any Cd.isBad = false := fun y hy hb => by
      refine ⟨?_, by rw [List.any_append, qg4]; simpa using hb⟩
      rw [show (j + 1).toNat = j.toNat + 1 by omega, take_get hi, toksV, List.map_append, qg3, toksV, ← hy]
      rfl
    have hbad := fun hb => pr_bad (i := j.toNat) hlay (by omega) hb
    refine x_seq (x_block ?_)
    refine x_seq ?_
    refine x_drawA mix ?_
    refine xa_pures tt_ok (fuel := 13) [0, 1, 5, 6] rfl (by kernel_rfl) (by kernel_rfl) (fun _ _ _ hh => hh) (by kernel_rfl) (by kernel_rfl) ?_
    refine xa_alloc tt_ok (fuel := 4) 14 [2, 3, 4, 7, 8, 9, 10, 11] rfl rfl rfl rfl rfl rfl (by kernel_rfl) (by kernel_rfl) (by kernel_rfl) (by kernel_rfl) (by kernel_rfl) (by kernel_rfl) rfl ?_
    refine xs_go tt_ok ?_
    repeat (refine And.intro ?_ ?_; first | omega | (simp only [Lay.d_n]; omega))
    obtain ⟨t, ht⟩ : ∃ t, t = L.getD j.toNat pv0 := ⟨_, rfl⟩
    rw [← ht] at hsz hnext hbad
    refine xs_call0 (.tuple #[.agg #[.int .i64 (clsA t.kind t.text).1, .string (clsA t.kind t.text).2], .int .i64 (clsE t.kind t.text)]) rfl rfl rfl rfl fn23 rfl rfl
      (fun _ u' _ E w F _ => by rw [ht]; exact classR_any (L.getD j.toNat pv0).kind (L.getD j.toNat pv0).text w (by rw [← ht]; omega)) ?_
    refine xs_go tt_ok ?_
    refine ⟨rfl, ?_, ?_⟩
    rotate_left
    refine xa_pures tt_ok (fuel := 3) [12, 13] rfl (by kernel_rfl) (by kernel_rfl) (fun _ _ _ hh => hh) (by kernel_rfl) (by kernel_rfl) ?_
    refine xa_chain (fuel := 0) [14, 15, 16] rfl (by kernel_rfl) (by kernel_rfl) ?_
    refine xl_go tt_ok ?_
    refine xa_done (by kernel_rfl) rfl ?_
    rotate_left
    refine xa_pures tt_ok (fuel := 2) [12, 13] rfl (by kernel_rfl) (by kernel_rfl) (fun _ _ _ hh => hh) (by kernel_rfl) (by kernel_rfl) ?_
    refine xa_chain (fuel := 0) [15, 16] rfl (by kernel_rfl) (by kernel_rfl) ?_
    refine xl_go tt_ok ?_
    refine xa_done (by kernel_rfl) rfl ?_
    all_goals
      refine x_seq (x_vc tt_ok ?_)
      repeat (refine And.intro ?_ ?_; first | omega | (simp only [Lay.d_n]; omega))
      refine x_cond rfl (fun h2 => ?_) (fun h2 => ?_)
      · have h2 : t.kind = 1 := by rw [ht]; exact of_decide_eq_true h2
        refine x_vc tt_ok ?_
        obtain ⟨n1, n2⟩ := hnext (.num 0 false) (by rw [h2]; exact rd_word _) rfl
        refine xl_push tt_ok partY O (.num 0 false) 32 rfl rfl rfl rfl rfl rfl rfl rfl rfl rfl rfl rfl (by kernel_rfl) rfl rfl rfl rfl rfl (fun n hn => by cases hn; decide) rfl rfl rfl (by omega) (by omega) ?_
        refine xl_go tt_ok ?_
        refine x_vc tt_ok ?_
        repeat (refine And.intro ?_ ?_; first | omega | (simp only [Lay.d_n]; omega))
        exact again (j + 1, O ++ [.num 0 false]) [(2, some 4)] (.of rfl rfl rfl rfl rfl rfl) ⟨by omega, by omega, n1, n2⟩ (by simp only; omega)
      have h2 : t.kind ≠ 1 := by rw [ht]; exact of_decide_eq_false h2
      refine x_seq (x_vc tt_ok ?_)
      refine x_cond rfl (fun h3 => ?_) (fun h3 => ?_)
      · have h3 : (decide (clsE t.kind t.text = 0) && decide ((clsA t.kind t.text).1 = 3)) = true := h3
        rw [Bool.and_eq_true, decide_eq_true_eq, decide_eq_true_eq] at h3
        obtain ⟨e1, e2⟩ := rd_int h2 h3.1 h3.2
        obtain ⟨V, hV⟩ : ∃ V, V = intV t.text := ⟨_, rfl⟩
        rw [← hV] at e2
        obtain ⟨va, vb, vc⟩ := V
        refine x_vc tt_ok ?_
        refine xl_call0 (.tuple #[.int .u64 va, .bool vb, .int .i64 vc]) rfl rfl rfl rfl fn24 rfl rfl (fun E w F hs => by
          have := intR_any (clsA t.kind t.text).2 w (by rw [e1]; omega)
          rw [e1, ← hV] at this
          rw [← e1] at this
          exact this) ?_
        refine xl_go tt_ok ?_
        obtain ⟨n1, n2⟩ := hnext (.num va vb) e2 rfl
        refine xl_push tt_ok partY O (.num va vb) 32 rfl rfl rfl rfl rfl rfl rfl rfl rfl rfl rfl rfl (by kernel_rfl) rfl rfl rfl rfl rfl (fun n hn => by cases hn; decide) rfl rfl rfl (by omega) (by omega) ?_
        refine xl_go tt_ok ?_
        refine x_vc tt_ok ?_
        repeat (refine And.intro ?_ ?_; first | omega | (simp only [Lay.d_n]; omega))
        exact again (j + 1, O ++ [.num va vb]) [(2, some 4)] (.of rfl rfl rfl rfl rfl rfl) ⟨by omega, by omega, n1, n2⟩ (by simp only; omega)
      have h3 : (decide (clsE t.kind t.text = 0) && decide ((clsA t.kind t.text).1 = 3)) = false := h3
      refine x_seq (x_vc tt_ok ?_)
      refine x_cond rfl (fun h4 => ?_) (fun h4 => ?_)
      · have h4 : (decide (clsE t.kind t.text = 0) && decide ((clsA t.kind t.text).1 = 5)) = true := h4
        rw [Bool.and_eq_true, decide_eq_true_eq, decide_eq_true_eq] at h4
        obtain ⟨e1, e2⟩ := rd_char h2 h4.1 h4.2
        obtain ⟨V, hV⟩ : ∃ V, V = charV t.text := ⟨_, rfl⟩
        rw [← hV] at e2
        obtain ⟨va, vb⟩ := V
        refine x_seq (x_vc tt_ok ?_)
        refine xl_call0 (.tuple #[.int .i64 va, .int .i64 vb]) rfl rfl rfl rfl fn25 rfl rfl (fun E w F hs => by
          have := charR_any (clsA t.kind t.text).2 w (by rw [e1]; omega)
          rw [e1, ← hV] at this
          rw [← e1] at this
          exact this) ?_
        refine xl_go tt_ok ?_
        refine x_region ?_
        refine xl_eff tt_ok rfl rfl rfl rfl (by trivial) ?_
        refine xl_eff tt_ok rfl rfl rfl rfl (by trivial) ?_
        refine xl_convI tt_ok (.int .u64 (Cd.wr va)) rfl rfl rfl rfl rfl rfl rfl rfl rfl (by rw [wrap_wr]) ?_
        refine xl_go tt_ok ?_
        obtain ⟨n1, n2⟩ := hnext (.num (Cd.wr va) false) e2 rfl
        refine xl_push tt_ok partY O (.num (Cd.wr va) false) 32 rfl rfl rfl rfl rfl rfl rfl rfl rfl rfl rfl rfl (by kernel_rfl) rfl rfl rfl rfl rfl (fun n hn => by cases hn; decide) rfl rfl rfl (by omega) (by omega) ?_
        refine xl_go tt_ok ?_
        refine x_vc tt_ok ?_
        repeat (refine And.intro ?_ ?_; first | omega | (simp only [Lay.d_n]; omega))
        exact again (j + 1, O ++ [.num (Cd.wr va) false]) [(2, some 4)] (.of rfl rfl rfl rfl rfl rfl) ⟨by omega, by omega, n1, n2⟩ (by simp only; omega)
      have h4 : (decide (clsE t.kind t.text = 0) && decide ((clsA t.kind t.text).1 = 5)) = false := h4
      refine x_seq (x_vc tt_ok ?_)
      refine x_cond rfl (fun h5 => ?_) (fun h5 => ?_)
      · have h5 : ((decide (clsE t.kind t.text = 0) && decide ((clsA t.kind t.text).1 = 7)) && decide ((clsA t.kind t.text).2 ≠ ⟨#[]⟩)) = true := h5
        rw [Bool.and_eq_true, Bool.and_eq_true, decide_eq_true_eq, decide_eq_true_eq, decide_eq_true_eq] at h5
        refine x_vc tt_ok ?_
        obtain ⟨n1, n2⟩ := hnext (.op (clsA t.kind t.text).2) (rd_op h2 h5.1.1 h5.1.2) (by unfold Cd.isBad Cd.isNum Cd.opT; simpa using h5.2)
        refine xl_push tt_ok partY O (.op (clsA t.kind t.text).2) 32 rfl rfl rfl rfl rfl rfl rfl rfl rfl rfl rfl rfl (by kernel_rfl) rfl rfl rfl rfl rfl (fun n hn => by cases hn; decide) rfl rfl rfl (by omega) (by omega) ?_
        refine xl_go tt_ok ?_
        refine x_vc tt_ok ?_
        repeat (refine And.intro ?_ ?_; first | omega | (simp only [Lay.d_n]; omega))
        exact again (j + 1, O ++ [.op (clsA t.kind t.text).2]) [(2, some 4)] (.of rfl rfl rfl rfl rfl rfl) ⟨by omega, by omega, n1, n2⟩ (by simp only; omega)
      have h5 : ((decide (clsE t.kind t.text = 0) && decide ((clsA t.kind t.text).1 = 7)) && decide ((clsA t.kind t.text).2 ≠ ⟨#[]⟩)) = false := h5
      have hb : Cd.isBad (rdT t.kind t.text) = true := by
        by_cases e : clsE t.kind t.text = 0
        · rw [decide_eq_true e, Bool.true_and] at h3 h4 h5
          by_cases e7 : (clsA t.kind t.text).1 = 7
          · rw [decide_eq_true e7, Bool.true_and] at h5
            rw [rd_op h2 e e7]
            unfold Cd.isBad Cd.isNum Cd.opT
            simpa using h5
          · exact rd_other h2 e (of_decide_eq_false h3) (of_decide_eq_false h4) e7
        · exact rd_none h2 e
      obtain ⟨b1, b2⟩ := hbad hb
      rw [b1, b2]
      refine x_vc tt_ok ?_
      exact finO2n partY
  have qh : ¬ j < L.length := of_decide_eq_false qh
  rw [List.take_of_length_le (by omega)] at qg3
  have e2 : prE L = 0 := by unfold prE; rw [if_neg (by rw [hlay]; simp), if_neg (by rw [← qg3, qg4]; simp)]
  rw [show prL L = O by unfold prL; rw [if_pos e2, qg3], e2]
  exact finO2 (k := 2) rfl
end Go.Proofs.YtnjmkeijjapejaaGreatDoor
namespace Go.GV
open Go.RowKit Go.Maps
end Go.GV
namespace Go.Proofs.YtnjmkeijjapejaaGreatDoor
open Go.GV Go.RowKit
end Go.Proofs.YtnjmkeijjapejaaGreatDoor
namespace Go.GV
open Go.RowKit
end Go.GV
namespace Go.Proofs.YtnjmkeijjapejaaGreatDoor
open Go.GV Go.RowKit
structure PR where
  ps : List ByteArray
  va : Bool
  n : Int
  ok : Bool
end Go.Proofs.YtnjmkeijjapejaaGreatDoor
namespace Go.Proofs.YtnjmkeijjapejaaGreatDoor
open Go.GV Go.RowKit
structure MT where
  name : ByteArray
  fn : Bool
  ps : List ByteArray
  va : Bool
  body : List PV
def m0 : MT := ⟨⟨#[]⟩, false, [], false, []⟩
abbrev MA := Option Addr × Nat × Option Addr × Nat
end Go.Proofs.YtnjmkeijjapejaaGreatDoor
namespace Go.Proofs.YtnjmkeijjapejaaGreatDoor
open Go.GV Go.RowKit
theorem eq_take_step {α : Type} {L M : List α} {i : Nat} (d : α) (hl : L.length = M.length) (hi : i < L.length) (h : L.take i = M.take i) : L.take (i + 1) = M.take (i + 1) ↔ L.getD i d = M.getD i d := by
  rw [take_get (List.getElem?_eq_getElem hi), take_get (List.getElem?_eq_getElem (show i < M.length by omega)), h, List.append_cancel_left_eq]
  simp [List.getD_eq_getElem?_getD, List.getElem?_eq_getElem hi, List.getElem?_eq_getElem (show i < M.length by omega)]
theorem ne_of_get {α : Type} {L M : List α} {i : Nat} {d : α} (h : L.getD i d ≠ M.getD i d) : L ≠ M := fun e => h (by rw [e])
set_option maxRecDepth 100000 in
theorem sameTexts_any (L M : List ByteArray) (x y : Value) (w : World) (hx : SlAt (im w) x (strY.d L)) (hy : SlAt (im w) y (strY.d M)) (hL : L.length ≤ 9223372036854775806) :
    Calls Tryz.prog 15 #[x, y] w (PureP w fun v _ => v = .bool (decide (L = M))) := by
  refine x_fun tt_ok Tryz.func15 rfl rfl [(x, strY.d L), (y, strY.d M)] 2 [.r 0, .r 1] rfl rfl rfl rfl (fun b hb => by simp at hb; rcases hb with rfl | rfl <;> assumption) ?_
  refine x_vc tt_ok ?_
  refine x_if (fun h => ?_) (fun h => ?_)
  · have h : (L.length : Int) ≠ M.length := of_decide_eq_true h
    refine fin1 (fun _ _ => ?_)
    rw [decide_eq_false (fun e => h (by rw [e]))]; rfl
  · have h : (L.length : Int) = M.length := Classical.not_not.1 (of_decide_eq_false h)
    refine x_loop (σ := Int) (fun i => ⟨[(5, .v (.int .i64 i)), (1, .r 1), (0, .r 0)], [], [(0, .sl (strY.d L)), (1, .sl (strY.d M))], 2⟩)
      (fun i _ => 0 ≤ i ∧ i ≤ L.length ∧ L.take i.toNat = M.take i.toNat) (fun i => (L.length - i).toNat) (fun _ => Nat.le_refl _) 0 [] (.of rfl rfl rfl rfl rfl rfl) ⟨by omega, by omega, rfl⟩ ?_
    rintro i u hu ⟨g1, g2, g3⟩
    refine x_vc tt_ok ?_
    refine x_if (fun h2 => ?_) (fun h2 => ?_)
    · have h2 : i < L.length := of_decide_eq_true h2
      refine x_draw mix (by kernel_rfl) (xd_go tt_ok ?_)
      repeat (refine And.intro ?_ ?_; first | omega | (simp only [Lay.d_n]; omega))
      refine x_if (fun h3 => ?_) (fun h3 => ?_)
      · have h3 : L.getD i.toNat ⟨#[]⟩ ≠ M.getD i.toNat ⟨#[]⟩ := of_decide_eq_true h3
        refine fin1 (fun _ _ => ?_)
        rw [decide_eq_false (ne_of_get h3)]; rfl
      · have h3 : L.getD i.toNat ⟨#[]⟩ = M.getD i.toNat ⟨#[]⟩ := Classical.not_not.1 (of_decide_eq_false h3)
        repeat (refine And.intro ?_ ?_; first | omega | (simp only [Lay.d_n]; omega))
        refine again (i + 1) [] (.of rfl rfl rfl rfl rfl rfl) ⟨by omega, by omega, ?_⟩ (by omega)
        rw [show (i + 1).toNat = i.toNat + 1 by omega]
        exact (eq_take_step _ (by omega) (by omega) g3).2 h3
    · have h2 : ¬ i < L.length := of_decide_eq_false h2
      rw [List.take_of_length_le (by omega), List.take_of_length_le (by omega)] at g3
      refine fin1 (fun _ _ => ?_)
      rw [decide_eq_true g3]; rfl
structure PK where
  kind : Int
  text : ByteArray
  space : Bool
  parts : List ByteArray
  deriving DecidableEq
def pk0 : PK := ⟨0, ⟨#[]⟩, false, []⟩
def PK.of (t : PV) (p : List ByteArray) : PK := ⟨t.kind, t.text, t.space, p⟩
def keysOf (L : List PV) (T : List (List ByteArray)) : List PK := List.zipWith PK.of L T
def PV.prt (t : PV) : Value := .slice t.pa t.pn t.pc
def PartsAt (u : Im) (L : List PV) (T : List (List ByteArray)) : Prop := L.length = T.length ∧ ∀ i, i < L.length → SlAt u (L.getD i pv0).prt (strY.d (T.getD i []))
def prtSm (T : List (List ByteArray)) : Prop := ∀ i : Nat, (T.getD i []).length ≤ 9223372036854775806
theorem keys_len {L : List PV} {T : List (List ByteArray)} (h : L.length = T.length) : (keysOf L T).length = L.length := by
  unfold keysOf
  rw [List.length_zipWith]; omega
theorem keys_get {L : List PV} {T : List (List ByteArray)} (h : L.length = T.length) {i : Nat} (hi : i < L.length) : (keysOf L T).getD i pk0 = PK.of (L.getD i pv0) (T.getD i []) := by
  unfold keysOf
  simp [List.getD_eq_getElem?_getD, List.getElem?_zipWith, List.getElem?_eq_getElem hi, List.getElem?_eq_getElem (show i < T.length by omega)]
theorem pk_ne (t t' : PV) (p p' : List ByteArray) : (((decide (t.kind ≠ t'.kind) || decide (t.text ≠ t'.text)) || decide (t.space ≠ t'.space)) || !decide (p = p')) = decide (PK.of t p ≠ PK.of t' p') := by
  unfold PK.of
  simp only [ne_eq, PK.mk.injEq]
  by_cases e1 : t.kind = t'.kind <;> by_cases e2 : t.text = t'.text <;> by_cases e3 : t.space = t'.space <;> by_cases e4 : p = p' <;> simp [e1, e2, e3, e4]
set_option maxHeartbeats 1000000 in
set_option maxRecDepth 100000 in
theorem sameToks_any (L M : List PV) (T S : List (List ByteArray)) (x y : Value) (w : World) (hx : SlAt (im w) x (pvY.d L)) (hy : SlAt (im w) y (pvY.d M)) (hT : PartsAt (im w) L T) (hS : PartsAt (im w) M S) (zT : prtSm T)
    (hL : L.length ≤ 9223372036854775806) : Calls Tryz.prog 9 #[x, y] w (PureP w fun v _ => v = .bool (decide (keysOf L T = keysOf M S))) := by
  refine x_fun tt_ok Tryz.func9 rfl rfl [(x, pvY.d L), (y, pvY.d M)] 2 [.r 0, .r 1] rfl rfl rfl rfl (fun b hb => by simp at hb; rcases hb with rfl | rfl <;> assumption) ?_
  refine x_vc tt_ok ?_
  have kl := keys_len hT.1
  have km := keys_len hS.1
  refine x_if (fun h => ?_) (fun h => ?_)
  · have h : (L.length : Int) ≠ M.length := of_decide_eq_true h
    refine fin1 (fun _ _ => ?_)
    rw [decide_eq_false (fun e => h (by rw [← kl, ← km, e]))]; rfl
  · have h : (L.length : Int) = M.length := Classical.not_not.1 (of_decide_eq_false h)
    refine x_loop (σ := Int) (fun i => ⟨[(5, .v (.int .i64 i)), (1, .r 1), (0, .r 0)], [], [(0, .sl (pvY.d L)), (1, .sl (pvY.d M))], 2⟩)
      (fun i _ => 0 ≤ i ∧ i ≤ L.length ∧ (keysOf L T).take i.toNat = (keysOf M S).take i.toNat) (fun i => (L.length - i).toNat) (fun _ => Nat.le_refl _) 0 [] (.of rfl rfl rfl rfl rfl rfl) ⟨by omega, by omega, rfl⟩ ?_
    rintro i u hu ⟨g1, g2, g3⟩
    refine x_vc tt_ok ?_
    refine x_if (fun h2 => ?_) (fun h2 => ?_)
    · have h2 : i < L.length := of_decide_eq_true h2
      have gl := keys_get hT.1 (i := i.toNat) (by omega)
      have gm := keys_get hS.1 (i := i.toNat) (by omega)
      refine x_draw mix (by kernel_rfl) (xd_go tt_ok ?_)
      repeat (refine And.intro ?_ ?_; first | omega | (simp only [Lay.d_n]; omega))
      refine xd_call0 (.bool (decide (T.getD i.toNat [] = S.getD i.toNat []))) rfl rfl rfl rfl fn15 rfl rfl
        (fun _ E w F hs => sameTexts_any _ _ _ _ w (((hT.2 i.toNat (by omega)).le hu).imm hs.imm) (((hS.2 i.toNat (by omega)).le hu).imm hs.imm) (zT _)) ?_
      refine xd_go tt_ok ?_
      have hc : (((decide ((L.getD i.toNat pv0).kind ≠ (M.getD i.toNat pv0).kind) || decide ((L.getD i.toNat pv0).text ≠ (M.getD i.toNat pv0).text)) || decide ((L.getD i.toNat pv0).space ≠ (M.getD i.toNat pv0).space)) || !decide (T.getD i.toNat [] = S.getD i.toNat [])) =
          decide ((keysOf L T).getD i.toNat pk0 ≠ (keysOf M S).getD i.toNat pk0) := by
        rw [gl, gm]
        exact pk_ne _ _ _ _
      refine x_if (fun h3 => ?_) (fun h3 => ?_)
      · have h3 : (((decide ((L.getD i.toNat pv0).kind ≠ (M.getD i.toNat pv0).kind) || decide ((L.getD i.toNat pv0).text ≠ (M.getD i.toNat pv0).text)) || decide ((L.getD i.toNat pv0).space ≠ (M.getD i.toNat pv0).space)) || !decide (T.getD i.toNat [] = S.getD i.toNat [])) = true := h3
        rw [hc] at h3
        refine fin1 (fun _ _ => ?_)
        rw [decide_eq_false (ne_of_get (of_decide_eq_true h3))]; rfl
      · have h3 : (((decide ((L.getD i.toNat pv0).kind ≠ (M.getD i.toNat pv0).kind) || decide ((L.getD i.toNat pv0).text ≠ (M.getD i.toNat pv0).text)) || decide ((L.getD i.toNat pv0).space ≠ (M.getD i.toNat pv0).space)) || !decide (T.getD i.toNat [] = S.getD i.toNat [])) = false := h3
        rw [hc] at h3
        repeat (refine And.intro ?_ ?_; first | omega | (simp only [Lay.d_n]; omega))
        refine again (i + 1) [] (.of rfl rfl rfl rfl rfl rfl) ⟨by omega, by omega, ?_⟩ (by omega)
        rw [show (i + 1).toNat = i.toNat + 1 by omega]
        exact (eq_take_step _ (by omega) (by omega) g3).2 (Classical.not_not.1 (of_decide_eq_false h3))
    · have h2 : ¬ i < L.length := of_decide_eq_false h2
      rw [List.take_of_length_le (by omega), List.take_of_length_le (by omega)] at g3
      refine fin1 (fun _ _ => ?_)
      rw [decide_eq_true g3]; rfl
def PV.val (t : PV) : Value := .agg #[.int .i64 t.kind, .string t.text, .bool t.space, t.prt]
end Go.Proofs.YtnjmkeijjapejaaGreatDoor
namespace Go.Proofs.YtnjmkeijjapejaaGreatDoor
open Go.GV Go.RowKit
structure MAt (u : Im) (m : MT) (T : List (List ByteArray)) (s : MA) : Prop where
  ps : SlAt u (.slice s.1 m.ps.length s.2.1) (strY.d m.ps)
  body : SlAt u (.slice s.2.2.1 m.body.length s.2.2.2) (pvY.d m.body)
  parts : PartsAt u m.body T
  z1 : m.ps.length ≤ 9223372036854775806
  z2 : m.body.length ≤ 9223372036854775806
  z3 : prtSm T
theorem PartsAt.imm {u : Im} {L : List PV} {T : List (List ByteArray)} {w : World} (h : PartsAt u L T) (hi : Imm u w) : PartsAt (im w) L T := ⟨h.1, fun i hi' => (h.2 i hi').imm hi⟩
theorem PartsAt.sub {u u' : Im} {L : List PV} {T : List (List ByteArray)} (h : PartsAt u L T) (hi : u.sub u') : PartsAt u' L T := ⟨h.1, fun i hi' => (h.2 i hi').sub hi⟩
theorem MAt.imm {u : Im} {m : MT} {T : List (List ByteArray)} {s : MA} {w : World} (h : MAt u m T s) (hi : Imm u w) : MAt (im w) m T s := ⟨h.ps.imm hi, h.body.imm hi, h.parts.imm hi, h.z1, h.z2, h.z3⟩
theorem MAt.le {u u' : Im} {m : MT} {T : List (List ByteArray)} {s : MA} (h : MAt u m T s) (hi : u.le u') : MAt u' m T s := ⟨h.ps.le hi, h.body.le hi, h.parts.sub hi.sub, h.z1, h.z2, h.z3⟩
end Go.Proofs.YtnjmkeijjapejaaGreatDoor
namespace Go.Proofs.YtnjmkeijjapejaaGreatDoor
open Go.GV Go.RowKit
def sameK (a b : PV) : Prop := a.kind = b.kind ∧ a.text = b.text ∧ a.space = b.space
def itemsP (T : List (List ByteArray)) : Nat → List PV → List SI
  | _, [] => []
  | j, b :: B => ⟨b.prt, 9, strY.d (T.getD j [])⟩ :: itemsP T (j + 1) B
theorem itemsP_push (T : List (List ByteArray)) (b : PV) : ∀ (B : List PV) (j : Nat), itemsP T j (B ++ [b]) = itemsP T j B ++ [⟨b.prt, 9, strY.d (T.getD (j + B.length) [])⟩]
  | [], j => rfl
  | x :: B, j => by
    rw [List.cons_append, itemsP, itemsP, itemsP_push T b B (j + 1), List.length_cons, show j + 1 + B.length = j + (B.length + 1) by omega]
    rfl
theorem itemsP_mem (T : List (List ByteArray)) : ∀ (B : List PV) (j i : Nat), i < B.length → (⟨(B.getD i pv0).prt, 9, strY.d (T.getD (j + i) [])⟩ : SI) ∈ itemsP T j B
  | [], j, i, h => absurd h (Nat.not_lt_zero _)
  | x :: B, j, 0, h => List.mem_cons_self ..
  | x :: B, j, i + 1, h => by
    have := itemsP_mem T B (j + 1) i (by simpa using h)
    rw [show j + 1 + i = j + (i + 1) by omega] at this
    exact List.mem_cons_of_mem _ this
def twG (L : List PV) (s : Option Addr × Nat × List PV) : Prop := s.2.2.length = L.length ∧ ∀ j, j < L.length → sameK (s.2.2.getD j pv0) (L.getD j pv0)
def TwR (L : List PV) (T : List (List ByteArray)) : Value → Im → Prop :=
  StarR (fun s : Option Addr × Nat × List PV => .slice s.1 L.length s.2.1) (fun s => itemsP T 0 s.2.2 ++ [⟨.slice s.1 L.length s.2.1, 36, pvY.d s.2.2⟩]) (twG L)
set_option maxHeartbeats 2000000 in
set_option maxRecDepth 100000 in
theorem twinToks_any (L : List PV) (T : List (List ByteArray)) (A : Option Addr) (c : Nat) (w : World) (hx : SlAt (im w) (.slice A L.length c) (pvY.d L)) (hp : PartsAt (im w) L T) (hL : L.length * 56 ≤ 140737488355328)
    (hT : ∀ j, (T.getD j []).length * 16 ≤ 140737488355328) : Calls Tryz.prog 5 #[.slice A L.length c] w (PureP w (TwR L T)) := by
  refine x_fun tt_ok Tryz.func5 rfl rfl [(.slice A L.length c, pvY.d L)] 1 [.r 0] rfl rfl rfl rfl (fun b hb => by simp at hb; subst hb; exact hx) ?_
  refine x_vc tt_ok ?_
  refine x_nil 3 36 pvY rfl ?_
  refine x_star0 0 ?_
  refine x_loop (σ := Int × List PV) (fun (i, B) => ⟨[(4, .v (.int .i64 i)), (3, .r 3), (0, .r 0)], [], [(3, .row 36 (pvY.d B)), (2, .gen (starHp (itemsP T 0 B))), (0, .sl (pvY.d L))], 4⟩)
    (fun (i, B) u => 0 ≤ i ∧ i ≤ L.length ∧ (B.length : Int) = i ∧ (∀ j : Nat, (j : Int) < i → sameK (B.getD j pv0) (L.getD j pv0)))
    (fun (i, _) => (L.length - i).toNat) (fun (_, _) => by simp only; omega) (0, []) [(3, some 1)] (.of rfl rfl rfl rfl rfl rfl) ⟨by omega, by omega, rfl, fun j hj => by omega⟩ ?_
  rintro ⟨i, B⟩ u hu ⟨g1, g2, g3, g4⟩
  refine x_vc tt_ok ?_
  refine x_if (fun h => ?_) (fun h => ?_)
  · have h : i < L.length := of_decide_eq_true h
    repeat (refine And.intro ?_ ?_; first | omega | (simp only [Lay.d_n]; omega))
    have hpi := hp.2 i.toNat (by omega)
    have hTi := hT i.toNat
    refine x_nilCell 4 9 strY [.v (.int .i64 (L.getD i.toNat pv0).kind), .v (.string (L.getD i.toNat pv0).text), .v (.bool (L.getD i.toNat pv0).space)] [] rfl ?_
    refine x_drawA mix ?_
    refine xa_phase tt_ok (fuel := 3) [0, 1, 2, 3, 4, 5, 6] rfl (by kernel_rfl) (by kernel_rfl) (by kernel_rfl) (by kernel_rfl) (xd_go tt_ok ?_)
    repeat (refine And.intro ?_ ?_; first | omega | (simp only [Lay.d_n]; omega))
    refine xa_chain (fuel := 0) [7, 8, 9] rfl rfl (by kernel_rfl) ?_
    refine xl_append tt_ok strY [] (T.getD i.toNat []) 16 rfl rfl rfl rfl rfl rfl rfl rfl (by kernel_rfl) rfl rfl rfl (fun E w F hs => (hpi.le hu).imm hs.imm) (fun x y hy => by cases List.mem_singleton.1 hy; rfl) rfl (by simp only [List.length_nil]; omega) (by simp only [List.length_nil]; omega) ?_
    refine xl_go tt_ok ?_
    refine xa_done (by kernel_rfl) rfl ?_
    refine xl_parkB 6 2 4 rfl rfl rfl (fun pa pc => ?_)
    refine xl_go tt_ok ?_
    obtain ⟨b, hb⟩ : ∃ b : PV, b = ⟨(L.getD i.toNat pv0).kind, (L.getD i.toNat pv0).text, (L.getD i.toNat pv0).space, pa, (T.getD i.toNat []).length, pc⟩ := ⟨_, rfl⟩
    refine xl_build tt_ok pvY [⟨(L.getD i.toNat pv0).kind, (L.getD i.toNat pv0).text, (L.getD i.toNat pv0).space, pa, (T.getD i.toNat []).length, pc⟩] [_] rfl rfl rfl rfl rfl rfl rfl rfl rfl rfl rfl rfl rfl rfl rfl ?_
    rw [← hb]
    refine xl_append tt_ok pvY B [b] 56 rfl rfl rfl rfl rfl rfl rfl rfl (by kernel_rfl) rfl rfl rfl (fun E w F hs => hs.rowAt (k := 7) rfl) (fun x y hy => by
      simp only [Lay.el, pvY, List.map_cons, List.map_nil, List.mem_cons, List.not_mem_nil, or_false] at hy
      rcases hy with rfl | rfl | rfl | rfl <;> rfl) rfl (by simp only [List.length_singleton]; omega) (by simp only [List.length_singleton]; omega) ?_
    refine xl_go tt_ok ?_
    repeat (refine And.intro ?_ ?_; first | omega | (simp only [Lay.d_n]; omega))
    have hi2 : itemsP T 0 (B ++ [b]) = itemsP T 0 B ++ [⟨.slice pa (strY.d ([] ++ T.getD i.toNat [])).n pc, 9, strY.d ([] ++ T.getD i.toNat [])⟩] := by
      rw [itemsP_push, Nat.zero_add, show B.length = i.toNat by omega, hb]
      rfl
    rw [← hi2]
    refine again (i + 1, B ++ [b]) [(3, some 8)] (.of rfl rfl rfl rfl rfl rfl) ⟨by omega, by omega, by rw [List.length_append, List.length_singleton]; omega, fun j hj => ?_⟩ (by simp only; omega)
    rcases Nat.lt_or_ge j B.length with hjl | hjl
    · rw [List.getD_eq_getElem?_getD, List.getElem?_append_left hjl, ← List.getD_eq_getElem?_getD]
      exact g4 j (by omega)
    · have hj2 : j = B.length := by omega
      rw [List.getD_eq_getElem?_getD, List.getElem?_append_right (by omega), hj2, Nat.sub_self, show B.length = i.toNat by omega]
      show sameK b _
      rw [hb]
      exact ⟨rfl, rfl, rfl⟩
  · have h : ¬ i < L.length := of_decide_eq_false h
    refine finStarO (k := 3) (ks := 2) rfl rfl (fun A' c' => ⟨(A', c', B), fun E hE => ?_, ?_, by show B.length = L.length; omega, fun j hj => g4 j (by omega)⟩)
    · show E 3 = _
      rw [hE, Lay.d_n, show B.length = L.length by omega]
    · show _ = itemsP T 0 B ++ [⟨.slice A' B.length c', 36, pvY.d B⟩]
      rw [show B.length = L.length by omega]
end Go.Proofs.YtnjmkeijjapejaaGreatDoor
namespace Go.Proofs.YtnjmkeijjapejaaGreatDoor
open Go.GV Go.RowKit
set_option maxHeartbeats 2000000 in
set_option maxRecDepth 100000 in
theorem valueR_any (L : List PV) (x : Value) (w : World) (hx : SlAt (im w) x (pvY.d L)) (hL : L.length ≤ 1000000) (hT : ∀ t ∈ L, t.text.size ≤ 1000) :
    Calls Tryz.prog 7 #[x] w (PureP w fun v _ => v = .tuple #[.int .u64 (docV L).1, .bool (docV L).2.1, .int .i64 (docV L).2.2]) := by
  obtain ⟨V, hV⟩ : ∃ V, V = docV L := ⟨_, rfl⟩
  rw [← hV]
  have hV2 : V = if prE L ≠ 0 then (0, false, prE L) else if (Cd.ofF (3 * L.length + 3) (toksV L)).bad = true then (0, false, 70) else if 256 < (Cd.ofF (3 * L.length + 3) (toksV L)).D then (0, false, 111)
      else if (Cd.ofF (3 * L.length + 3) (toksV L)).E ≠ 0 then (0, false, (Cd.ofF (3 * L.length + 3) (toksV L)).E) else ((Cd.ofF (3 * L.length + 3) (toksV L)).V, (Cd.ofF (3 * L.length + 3) (toksV L)).U, 0) := by
    rw [hV]
    unfold docV prE
    by_cases h1 : layT L = true
    · rw [if_pos h1, if_pos h1, if_pos (by decide)]
    rw [if_neg h1, if_neg h1]
    by_cases h2 : (toksV L).any Cd.isBad = true
    · rw [if_pos h2, if_pos h2, if_pos (by decide)]
    rw [if_neg h2, if_neg h2, if_neg (show ¬ ((0 : Int) ≠ 0) by decide)]
  clear hV
  refine x_fun tt_ok Tryz.func7 rfl rfl [(x, pvY.d L)] 1 [.r 0] rfl rfl rfl rfl (fun b hb => by simp at hb; subst hb; exact hx) ?_
  refine x_vc tt_ok ?_
  refine xl_callO2 72 (partY.d (prL L)) [.int .i64 (prE L)] rfl rfl rfl rfl fn13 rfl rfl (fun E w' F hs' => partsR_any L _ w' (hs'.slAt (k := 0) rfl) hL hT) ?_
  refine xl_go tt_ok ?_
  refine x_if (fun h1 => ?_) (fun h1 => ?_)
  · have h1 : prE L ≠ 0 := of_decide_eq_true h1
    rw [if_pos h1] at hV2
    rw [hV2]
    exact fin1 (fun _ _ => rfl)
  have h1 : ¬ prE L ≠ 0 := of_decide_eq_false h1
  rw [if_neg h1] at hV2
  have hpl : prL L = toksV L := by unfold prL; rw [if_pos (Classical.not_not.1 h1)]
  have hl : (toksV L).length = L.length := List.length_map ..
  have hok := (Cd.of_ok (3 * L.length + 3) (toksV L) (toksV_nums L)).1
  rw [hpl]
  have hdc := docC (3 * L.length + 3) (by omega) (toksV L)
  refine xl_call0 (woV (Cd.ofF (3 * L.length + 3) (toksV L))) rfl rfl rfl rfl fn14 rfl rfl (fun E w' F hs' => (hdc _ w' (hs'.rowAt (k := 1) rfl) (by omega) (toksV_nums L)).1 (by omega)) ?_
  generalize Cd.ofF (3 * L.length + 3) (toksV L) = W at *
  clear hdc
  obtain ⟨wv, wu, wd, we, wb⟩ := W
  refine xl_go tt_ok ?_
  simp only at hV2
  refine x_if (fun h2 => ?_) (fun h2 => ?_)
  · have h2 : wb = true := h2
    rw [if_pos h2] at hV2
    rw [hV2]
    exact fin1 (fun _ _ => rfl)
  have h2 : wb = false := h2
  rw [if_neg (by rw [h2]; simp)] at hV2
  refine x_if (fun h3 => ?_) (fun h3 => ?_)
  · have h3 : wd > 256 := of_decide_eq_true h3
    rw [if_pos h3] at hV2
    rw [hV2]
    exact fin1 (fun _ _ => rfl)
  have h3 : ¬ wd > 256 := of_decide_eq_false h3
  rw [if_neg h3] at hV2
  refine x_if (fun h4 => ?_) (fun h4 => ?_)
  · have h4 : we ≠ 0 := of_decide_eq_true h4
    rw [if_pos h4] at hV2
    rw [hV2]
    refine x_draw mix (by kernel_rfl) (xd_go tt_ok ?_)
    exact fin1 (fun _ _ => rfl)
  have h4 : ¬ we ≠ 0 := of_decide_eq_false h4
  rw [if_neg h4] at hV2
  rw [hV2]
  refine x_draw mix (by kernel_rfl) (xd_go tt_ok ?_)
  exact fin1 (fun _ _ => rfl)
def grV (L : List PV) : Bool := decide (600 < (L.length : Int)) || L.any fun t => decide (100 < (t.text.size : Int))
set_option maxRecDepth 100000 in
theorem greatC_any (L : List PV) (x : Value) (w : World) (hx : SlAt (im w) x (pvY.d L)) (hz : L.length ≤ 9223372036854775806) : Calls Tryz.prog 4 #[x] w (PureP w fun v _ => v = .bool (grV L)) := by
  refine x_fun tt_ok Tryz.func4 rfl rfl [(x, pvY.d L)] 1 [.r 0] rfl rfl rfl rfl (fun b hb => by simp at hb; subst hb; exact hx) ?_
  refine x_vc tt_ok ?_
  unfold grV
  refine x_if (fun h1 => ?_) (fun h1 => ?_)
  · have h1 : (L.length : Int) > 600 := of_decide_eq_true h1
    rw [decide_eq_true (show 600 < (L.length : Int) from h1), Bool.true_or]
    exact fin1 (fun _ _ => rfl)
  have h1 : ¬ (L.length : Int) > 600 := of_decide_eq_false h1
  rw [decide_eq_false (show ¬ 600 < (L.length : Int) from h1), Bool.false_or]
  refine x_loop (σ := Int) (fun i => ⟨[(3, .v (.int .i64 i)), (0, .r 0)], [], [(0, .sl (pvY.d L))], 1⟩)
    (fun i _ => 0 ≤ i ∧ i ≤ L.length ∧ (L.take i.toNat).any (fun t => decide (100 < (t.text.size : Int))) = false) (fun i => (L.length - i).toNat) (fun _ => Nat.le_refl _) 0 [] (.of rfl rfl rfl rfl rfl rfl) ⟨by omega, by omega, by simp⟩ ?_
  rintro i u1 hu1 ⟨g1, g2, g3⟩
  refine x_vc tt_ok ?_
  refine x_if (fun h2 => ?_) (fun h2 => ?_)
  · have h2 : i < L.length := of_decide_eq_true h2
    have hi : L[i.toNat]? = some (L.getD i.toNat pv0) := by rw [List.getD_eq_getElem?_getD, List.getElem?_eq_getElem (by omega : i.toNat < L.length)]; rfl
    repeat (refine And.intro ?_ ?_; first | omega | (simp only [Lay.d_n]; omega))
    refine x_if (fun h3 => ?_) (fun h3 => ?_)
    · have h3 : ((L.getD i.toNat pv0).text.size : Int) > 100 := of_decide_eq_true h3
      have e : L.any (fun t => decide (100 < (t.text.size : Int))) = true := List.any_eq_true.2 ⟨_, List.mem_of_getElem? hi, decide_eq_true h3⟩
      rw [e]
      exact fin1 (fun _ _ => rfl)
    · have h3 : ¬ ((L.getD i.toNat pv0).text.size : Int) > 100 := of_decide_eq_false h3
      repeat (refine And.intro ?_ ?_; first | omega | (simp only [Lay.d_n]; omega))
      refine again (i + 1) [] (.of rfl rfl rfl rfl rfl rfl) ⟨by omega, by omega, ?_⟩ (by omega)
      rw [show (i + 1).toNat = i.toNat + 1 by omega, take_get hi, List.any_append, g3]
      simpa using h3
  have h2 : ¬ i < L.length := of_decide_eq_false h2
  rw [List.take_of_length_le (by omega)] at g3
  rw [g3]
  exact fin1 (fun _ _ => rfl)
theorem grV_spec {L : List PV} (h : grV L = false) : L.length ≤ 600 ∧ ∀ t ∈ L, t.text.size ≤ 100 := by
  unfold grV at h
  rw [Bool.or_eq_false_iff, List.any_eq_false] at h
  refine ⟨by have := of_decide_eq_false h.1; omega, fun t ht => ?_⟩
  have := h.2 t ht
  rw [decide_eq_true_eq] at this
  omega
theorem keys_same {L B : List PV} (T : List (List ByteArray)) (hl : B.length = L.length) (h : ∀ j, j < L.length → sameK (B.getD j pv0) (L.getD j pv0)) : keysOf B T = keysOf L T := by
  unfold keysOf
  refine List.ext_getElem? fun i => ?_
  rw [List.getElem?_zipWith, List.getElem?_zipWith]
  rcases Nat.lt_or_ge i L.length with hi | hi
  · rw [List.getElem?_eq_getElem hi, List.getElem?_eq_getElem (show i < B.length by omega)]
    have := h i hi
    rw [List.getD_eq_getElem?_getD, List.getD_eq_getElem?_getD, List.getElem?_eq_getElem hi, List.getElem?_eq_getElem (show i < B.length by omega)] at this
    simp only [Option.getD_some] at this
    cases T[i]? with
    | none => rfl
    | some p =>
      simp only [PK.of]
      rw [this.1, this.2.1, this.2.2]
  · rw [List.getElem?_eq_none hi, List.getElem?_eq_none (show B.length ≤ i by omega)]
theorem toks_same {L B : List PV} (hl : B.length = L.length) (h : ∀ j, j < L.length → sameK (B.getD j pv0) (L.getD j pv0)) : toksV B = toksV L ∧ layT B = layT L := by
  have key : ∀ (L B : List PV), B.length = L.length → (∀ j, j < L.length → sameK (B.getD j pv0) (L.getD j pv0)) → toksV B = toksV L ∧ layT B = layT L := by
    intro L
    induction L with
    | nil => intro B hl _; rw [List.length_eq_zero_iff.1 hl]; exact ⟨rfl, rfl⟩
    | cons x L ih =>
      intro B hl h
      match B, hl with
      | y :: B, hl =>
        obtain ⟨k1, k2, _⟩ := h 0 (by simp)
        have k1 : y.kind = x.kind := k1
        have k2 : y.text = x.text := k2
        obtain ⟨i1, i2⟩ := ih B (by simpa using hl) (fun j hj => by
          have := h (j + 1) (by simpa using hj)
          simpa using this)
        exact ⟨by simp only [toksV, List.map_cons] at i1 ⊢; rw [i1, k1, k2], by simp only [layT]; rw [i2, k1]⟩
  exact key L B hl h
theorem valV_same {L B : List PV} (hl : B.length = L.length) (h : ∀ j, j < L.length → sameK (B.getD j pv0) (L.getD j pv0)) : valV B = valV L := by
  obtain ⟨e1, e2⟩ := toks_same hl h
  unfold valV
  rw [e1, e2, hl]
set_option maxHeartbeats 2000000 in
set_option maxRecDepth 100000 in
theorem condTells_any (L : List PV) (T : List (List ByteArray)) (A : Option Addr) (c : Nat) (w : World) (hx : SlAt (im w) (.slice A L.length c) (pvY.d L)) (hp : PartsAt (im w) L T) (hL : L.length * 56 ≤ 140737488355328)
    (hT : ∀ j, (T.getD j []).length * 16 ≤ 140737488355328) (hg : Glob (im w)) (hO : OpG (im w)) : Calls Tryz.prog 3 #[.slice A L.length c] w (PureP w fun v _ => v = .bool true) := by
  refine x_fun tt_ok Tryz.func3 rfl rfl [] 0 [.v (.slice A L.length c)] rfl rfl rfl rfl (fun b hb => by cases hb) ?_
  refine x_vc tt_ok ?_
  refine xl_call0 (.bool (grV L)) rfl rfl rfl rfl fn4 rfl rfl (fun E w' F hs' => greatC_any L _ w' (hx.imm hs'.imm) (by omega)) ?_
  refine xl_go tt_ok ?_
  refine x_if (fun h1 => ?_) (fun h1 => ?_)
  · exact fin1 (fun _ _ => rfl)
  have h1 : grV L = false := h1
  obtain ⟨hl, ht⟩ := grV_spec h1
  refine xl_callStar (fun s : Option Addr × Nat × List PV => .slice s.1 L.length s.2.1) (fun s => itemsP T 0 s.2.2 ++ [(⟨.slice s.1 L.length s.2.1, 36, pvY.d s.2.2⟩ : SI)]) (twG L) rfl rfl rfl rfl fn5 rfl rfl
    (fun E w' F hs => twinToks_any L T _ _ w' (hx.imm hs.imm) (hp.imm hs.imm) hL hT) (fun sb hG => ?_)
  obtain ⟨ba, bc, B⟩ := sb
  have hBl : B.length = L.length := hG.1
  have hBk : ∀ j, j < L.length → sameK (B.getD j pv0) (L.getD j pv0) := hG.2
  have hBt : ∀ t ∈ B, t.text.size ≤ 4294967280 := fun t hm => by
    obtain ⟨j, hj, rfl⟩ := List.mem_iff_getElem.1 hm
    have h2 := (hBk j (by omega)).2.1
    rw [List.getD_eq_getElem?_getD, List.getElem?_eq_getElem hj] at h2
    have h2 : B[j].text = (L.getD j pv0).text := h2
    rw [h2]
    have h3 := ht (L.getD j pv0) (by rw [List.getD_eq_getElem?_getD, List.getElem?_eq_getElem (by omega : j < L.length)]; exact List.getElem_mem _)
    omega
  refine xl_freezeStar 0 (sl := itemsP T 0 B ++ [(⟨.slice ba L.length bc, 36, pvY.d B⟩ : SI)]) rfl (fun u1 hu1 hfr => ?_)
  have hown : SlAt u1 (.slice ba L.length bc) (pvY.d B) := (hfr _ (List.mem_append_right _ (List.mem_singleton.2 rfl))).1
  have hparts : PartsAt u1 B T := ⟨by rw [hBl]; exact hp.1, fun i hi => by
    have := (hfr _ (List.mem_append_left _ (itemsP_mem T B 0 i hi))).1
    rw [Nat.zero_add] at this
    exact this⟩
  have imw : ∀ {w' : World}, Imm u1 w' → Imm (im w) w' := fun {w'} hi => ⟨fun b o hb => hi.h b o (hu1.h b o hb), hi.os.trans hu1.os, hi.tape.trans hu1.tape, hi.output.trans hu1.output, by have := hi.lo; rw [hu1.lo] at this; exact this⟩
  refine xl_go tt_ok ?_
  have ev := valV_same hBl hBk
  have ed := docV_eq L
  have hh : holV B = (decide ((valV L).2.2 = 0) && decide ((valV L).1 ≠ 0), (valV L).2.2) := by unfold holV; rw [ev]
  have hv0 : (valV L).2.2 ≠ 0 → (valV L).1 = 0 := fun h => by
    unfold valV at h ⊢
    split
    · rfl
    · rename_i hl
      rw [if_neg hl] at h
      split
      · rfl
      · rename_i d hd
        rw [hd] at h
        simp only at h ⊢
        split
        · rfl
        · rename_i h5
          rw [if_neg h5] at h
          split
          · rfl
          · rename_i h6
            rw [if_neg h6] at h
            exact absurd rfl h
  generalize valV L = V at ev ed hh hv0
  refine xl_call0 (.tuple #[.int .u64 V.1, .bool V.2.1, .int .i64 V.2.2]) rfl rfl rfl rfl fn6 rfl rfl (fun E w' F hs => by
    have := value_any B (.slice ba L.length bc) w' (hown.imm hs.imm) (by omega) hBt (hg.imm (imw hs.imm)) (hO.imm (imw hs.imm))
    rw [ev] at this
    exact this) ?_
  refine xl_go tt_ok ?_
  refine xl_call0 (.tuple #[.int .u64 V.1, .bool V.2.1, .int .i64 V.2.2]) rfl rfl rfl rfl fn7 rfl rfl (fun E w' F hs => by
    have := valueR_any L (.slice A L.length c) w' (hx.imm (imw hs.imm)) (by omega) (fun t hm => by have := ht t hm; omega)
    rw [ed] at this
    exact this) ?_
  refine xl_go tt_ok ?_
  refine xl_call0 (.tuple #[.bool (decide (V.2.2 = 0) && decide (V.1 ≠ 0)), .int .i64 V.2.2]) rfl rfl rfl rfl fn8 rfl rfl (fun E w' F hs => by
    have := holds_any B (.slice ba L.length bc) w' (hown.imm hs.imm) (by omega) hBt (hg.imm (imw hs.imm)) (hO.imm (imw hs.imm))
    rw [hh] at this
    exact this) ?_
  refine xl_go tt_ok ?_
  refine xl_gcallF (.bool true) rfl rfl rfl rfl fn9 rfl rfl (fun E w' F hs => by
    have := sameToks_any B L T T (.slice ba L.length bc) (.slice A L.length c) w' (hown.imm hs.imm) (hx.imm (imw hs.imm)) (hparts.imm hs.imm) (hp.imm (imw hs.imm)) (fun i => by have := hT i; omega) (by omega)
    rw [keys_same T hBl hBk, decide_eq_true rfl] at this
    exact this) ?_
  refine xl_go tt_ok ?_
  refine fin1 (fun _ _ => ?_)
  show Value.bool (((((decide (V.1 = V.1) && decide (V.2.1 = V.2.1)) && decide (V.2.2 = V.2.2)) && decide ((decide (V.2.2 = 0) && decide (V.1 ≠ 0)) = decide (V.1 ≠ 0))) && decide (V.2.2 = V.2.2)) && true) = _
  have e : (decide (V.2.2 = 0) && decide (V.1 ≠ 0)) = decide (V.1 ≠ 0) := by
    by_cases h : V.2.2 = 0
    · simp [h]
    · rw [hv0 h]; simp
  rw [e]
  simp
end Go.Proofs.YtnjmkeijjapejaaGreatDoor
namespace Go.Proofs.YtnjmkeijjapejaaGreatDoor
open Go.ChangeShapes Go.WideShapes Go.ChangeAt Go.RowKit Go.GV
theorem returnsInHanded_and_shaped {H : Type} {enc : TypeId × Value → H} {a : Assume} {C : Checked} {os : Os} {f : FuncId} {fn : Func} {s : ChangeSpec} {conds : List PathCond} {apart fresh handsOn again : Bool} {X : World → Array Value → Prop}
    (hX : ∀ (w w' : World) (args : Array Value), w.heap = w'.heap → X w args → X w' args)
    (own : ownKnob C.prog.godebug = none) (started : os.Started) (noInit : C.prog.inits.idxOf? f = none) (hfn : C.prog.funcs[f]? = some fn)
    (witness : ∃ (w : World) (tape : Tape) (i : Input), w.os = os ∧ (w.forCall tape i).Shaped C.prog ∧ i.vars = [] ∧ Input.okWide C.prog (w.forCall tape i) .any w.heap.size f i ∧
      ((s.pre enc C.prog fn conds apart (w.forCall tape i).memory i.args ∧ X (w.forCall tape i).memory i.args) ∧ sizedMet enc C.prog fn (OpenSpec.ofChange s) apart (w.forCall tape i).memory i.args) ∧ a.holds C.prog (lone (Frame.enter C.prog f i.args .normal) [] (w.forCall tape i)))
    (contract : ∀ (W : World) (base : Nat) (args : Array Value) (ds gs : List (DataW H)) (before : List MemPlace),
      (∀ (j : Nat) t v, fn.params[j]? = some t → args[j]? = some v → Value.okWide C.prog W .any base t v) →
      DataW.Whole enc C.prog fn.params.toList s.vars apart W args.toList ds gs before →
      conds.all (PathCond.test C.prog ⟨fn.params.toList, ds, s.plain.varTypes C.prog, gs⟩) = true →
      (DataW.weightsEach C.prog (fn.params.toList ++ s.plain.varTypes C.prog) (ds ++ gs)).all (· ≤ reachBytes) = true → X W args → W.ShapedOpen C.prog →
      a.holds C.prog (lone (Frame.enter C.prog f args .normal) [] W) →
      Calls C.prog f args W fun e W' => ∃ v, e = .returned v ∧ s.post enc C.prog fn apart fresh handsOn again W args v W') :
    ReturnsInHanded a C os f .any (fun w args => (s.pre enc C.prog fn conds apart w args ∧ X w args) ∧ sizedMet enc C.prog fn (OpenSpec.ofChange s) apart w args) (s.post enc C.prog fn apart fresh handsOn again) := by
  refine returnsInHanded_of_calls own started noInit witness ?_
  intro w tape i _ hsh _ hok hpre hholds
  obtain ⟨_, _, _, fn', hfn', _, _, _, _, hval⟩ := hok
  have e : fn' = fn := Option.some.inj (hfn'.symm.trans hfn)
  subst e
  obtain ⟨⟨⟨ds, gs, before, hw, hc⟩, hx⟩, hz⟩ := hpre
  have hw' := DataW.Whole.of_heap (w' := w.forCall tape i) (by rfl) hw
  refine (contract (w.forCall tape i) w.heap.size i.args ds gs before hval hw' hc (hz.weights hw) (hX _ _ _ (by rfl) hx) hsh hholds).mono fun e W' ⟨v, he, hp⟩ => ?_
  subst he
  exact ChangeSpec.post_blind hp
def lst : List (String × DataW Unit) := [("reglet/cond.operators", Rows.laid_reglet_cond_operators)]
theorem gOps : Tryz.prog.globalNamed "reglet/cond.operators" = some 0 := by kernel_rfl
theorem lstB (os : Os) : (World.laidAll Tryz.prog os lst).os = os := World.laidAll_os _ _ _
theorem met (os : Os) (args : Array Value) : laidMetH Tryz.prog lst ((World.laidAll Tryz.prog os lst).forCall (fun _ _ => 0) ⟨#[], args, []⟩).memory := by
  rw [MakeChecks.laidMetH_plain _ _ _ (by kernel_rfl)]
  exact laidMet_laidAll args (by kernel_rfl) (by kernel_rfl)
set_option maxRecDepth 100000 in
theorem pair_of {H : Type} {enc : TypeId × Value → H} {W : World} {b : Nat} {sp : Nat → Bool} {hd : Bool} {m : Nat} {cs : List Value} {x : DataW H × List MemPlace} (h : DataW.trod enc Tryz.prog W b sp hd m 123 cs = some x) :
    ∃ (s : ByteArray) (n : Int), cs = [.string s, .int .i64 n] ∧ x.1 = .agg [.lit (.string s.data.toList), .lit (.int .i64 n)] := by
  obtain ⟨xs, k, _, hx, hl, hxl, hf⟩ := DataW.trod_struct Tryz.underlying123 h
  have c123 : Tryz.prog.cellsOf 123 = 2 := by kernel_rfl
  have c9 : Tryz.prog.cellsOf 9 = 1 := by kernel_rfl
  have c3 : Tryz.prog.cellsOf 3 = 1 := by kernel_rfl
  rw [c123] at hl
  have h0 := hf 0 _ rfl
  have h1 := hf 1 _ rfl
  change DataW.trod enc Tryz.prog W b sp hd k 9 ((cs.drop 0).take (Tryz.prog.cellsOf 9)) = xs[0]? at h0
  change DataW.trod enc Tryz.prog W b sp hd k 3 ((cs.drop 1).take (Tryz.prog.cellsOf 3)) = xs[1]? at h1
  rw [c9] at h0
  rw [c3] at h1
  match xs, hxl, cs, hl, h0, h1, hx with
  | [x0, x1], _, [a, c], _, h0, h1, hx =>
    obtain ⟨s, e1, e2, _⟩ := DataW.trod_string Tryz.underlying9 (show DataW.trod _ Tryz.prog W b sp hd k 9 _ = some x0 from h0)
    obtain ⟨n, e3, e4, _⟩ := DataW.trod_int Tryz.underlying3 (show DataW.trod _ Tryz.prog W b sp hd k 3 _ = some x1 from h1)
    have e1 : [a] = [Value.string s] := e1
    have e3 : [c] = [Value.int .i64 n] := e3
    cases e1; cases e3
    refine ⟨s, n, rfl, ?_⟩
    rw [hx, e2, e4]; rfl
def opD (p : ByteArray × Int) : DataW Unit := .agg [.lit (.string p.1.data.toList), .lit (.int .i64 p.2)]
theorem laid_ops : (Rows.laid_reglet_cond_operators : DataW Unit) = .agg (opsL.map opD) := rfl
theorem ops_of_laid {W : World} (h : laidMetH Tryz.prog lst W) : OpG (im W) := by
  rw [MakeChecks.laidMetH_plain _ _ _ (by kernel_rfl)] at h
  obtain ⟨ps, ⟨g0, t0, cs0, f0, p0, q0, hg0, ht0, hv0, hd0, _, _⟩, _, _⟩ := h
  obtain rfl := Option.some.inj (gOps.symm.trans hg0)
  have tOps : (Tryz.prog.globals[0]?).map (·.type) = some 124 := by kernel_rfl
  obtain rfl := Option.some.inj (tOps.symm.trans ht0)
  rw [laid_ops] at hd0
  obtain ⟨xs, m1, _, hx1, hlen, hn, hel⟩ := DataW.trod_array Tryz.underlying124 hd0
  have c123 : Tryz.prog.cellsOf 123 = 2 := by kernel_rfl
  simp only [Prod.mk.injEq, DataW.agg.injEq] at hx1
  intro i hi
  have h1 := hel i hi
  rw [c123] at h1
  have hxi : i < xs.length := by omega
  rw [List.getElem?_eq_getElem hxi] at h1
  obtain ⟨s, n, e1, e2⟩ := pair_of h1
  have h2 : (opsL.map opD)[i]? = (xs.map (·.1))[i]? := by rw [hx1.1]
  have hoi : i < opsL.length := hi
  rw [List.getElem?_map, List.getElem?_map, List.getElem?_eq_getElem hxi, List.getElem?_eq_getElem hoi] at h2
  simp only [Option.map_some, Option.some.injEq] at h2
  rw [e2] at h2
  have hop : opAt i = opsL[i] := by unfold opAt; rw [List.getD_eq_getElem?_getD, List.getElem?_eq_getElem hoi]; rfl
  rw [← hop] at h2
  unfold opD at h2
  simp only [DataW.agg.injEq, List.cons.injEq, DataW.lit.injEq, Lit.string.injEq, Lit.int.injEq, and_true, true_and] at h2
  obtain ⟨k1, k2⟩ := h2
  have hs : s = (opAt i).1 := by
    obtain ⟨⟨l⟩⟩ := s
    generalize (opAt i).1 = z at k1
    obtain ⟨⟨l2⟩⟩ := z
    have k1 : l2 = l := k1
    rw [k1]
  have get : ∀ j : Nat, cs0[j]? = cs0.toList[j]? := fun j => (Array.getElem?_toList).symm
  have d0 : cs0.toList[i * 2]? = some (.string s) := by
    have := congrArg (fun l => l[0]?) e1
    simpa [List.getElem?_take, List.getElem?_drop] using this
  have d1 : cs0.toList[i * 2 + 1]? = some (.int .i64 n) := by
    have := congrArg (fun l => l[1]?) e1
    simpa [List.getElem?_take, List.getElem?_drop] using this
  have v0 := World.var?_cell hg0 hv0 (i * 2)
  have v1 := World.var?_cell hg0 hv0 (i * 2 + 1)
  rw [get, d0, hs] at v0
  rw [get, d1, ← k2] at v1
  exact ⟨v0, v1⟩
end Go.Proofs.YtnjmkeijjapejaaGreatDoor
namespace Go.Proofs.YtnjmkeijjapejaaGreatDoor
open Go.ChangeShapes Go.WideShapes Go.ChangeAt Go.RowKit Go.GV
theorem own : ownKnob Tryz.prog.godebug = none := by kernel_rfl
theorem laidOut : laidOutB Tryz.prog = true := by kernel_rfl
theorem fMaps : mapsRowed Tryz.prog = true := by kernel_rfl
theorem fHeard : Tryz.prog.stopsHeard = true := by kernel_rfl
theorem fEnter : Tryz.prog.mayEnter = true := by kernel_rfl
theorem fLifts : (Rows.condTellsRow.lifted == Tryz.prog.liftsFinal) = true := by kernel_rfl
theorem fMake : (Tryz.prog.make == some Rows.condTellsRow.make) = true := by kernel_rfl
theorem jmk {a0 a1 a2 a3 a4 a5 a6 a7 a8 a9 a10 a11 a12 a13 a14 a15 a16 a17 a18 a19 a20 a21 a22 a23 a24 a25 a26 a27 a28 a29 a30 a31 : Bool} (h0 : a0 = true) (h1 : a1 = true) (h2 : a2 = true) (h3 : a3 = true) (h4 : a4 = true) (h5 : a5 = true) (h6 : a6 = true) (h7 : a7 = true) (h8 : a8 = true) (h9 : a9 = true) (h10 : a10 = true) (h11 : a11 = true) (h12 : a12 = true) (h13 : a13 = true) (h14 : a14 = true) (h15 : a15 = true) (h16 : a16 = true) (h17 : a17 = true) (h18 : a18 = true) (h19 : a19 = true) (h20 : a20 = true) (h21 : a21 = true) (h22 : a22 = true) (h23 : a23 = true) (h24 : a24 = true) (h25 : a25 = true) (h26 : a26 = true) (h27 : a27 = true) (h28 : a28 = true) (h29 : a29 = true) (h30 : a30 = true) (h31 : a31 = true) :
    (a0 && a1 && a2 && a3 && a4 && a5 && a6 && a7 && a8 && a9 && a10 && a11 && a12 && a13 && a14 && a15 && a16 && a17 && a18 && a19 && a20 && a21 && a22 && a23 && a24 && a25 && a26 && a27 && a28 && a29 && a30 && a31) = true := by simp only [h0, h1, h2, h3, h4, h5, h6, h7, h8, h9, h10, h11, h12, h13, h14, h15, h16, h17, h18, h19, h20, h21, h22, h23, h24, h25, h26, h27, h28, h29, h30, h31, Bool.and_self]
end Go.Proofs.YtnjmkeijjapejaaGreatDoor
namespace Go.Proofs.YtnjmkeijjapejaaGreatDoor
open Go.ChangeShapes Go.WideShapes Go.ChangeAt Go.RowKit Go.GV
section
variable {H : Type} {enc : TypeId × Value → H} {w : World}
def slN : Value → Nat
  | .slice _ n _ => n
  | _ => 0
def strC (u : Im) (x : Value) : List ByteArray := (List.range (slN x)).map fun i : Nat => vStr (cellAt u x 1 i 0)
theorem open_strC {x : Value} (h : TrZ enc Tryz.prog w 34 [x]) : ∃ A n c, x = .slice A n c ∧ SlAt (im w) x (strY.d (strC (im w) x)) ∧ (strC (im w) x).length * 16 ≤ 140737488355328 ∧ (strC (im w) x).length = n := by
  obtain ⟨A, n, c, h1, h2, hz, h3, h4⟩ := h.slice Tryz.underlying34 (by kernel_rfl : _ = 1)
  have hn : slN x = n := by rw [h1]; rfl
  have hl : (strC (im w) x).length = n := by simp [strC, hn]
  have hb : Tryz.prog.bytesOf 9 = 16 := by kernel_rfl
  rw [hb] at hz
  refine ⟨A, n, c, h1, ?_, by rw [hl]; exact hz, hl⟩
  refine h3.ext (by simp [dataAt, Lay.d, hl]) rfl fun i hi j f f' hf hf' => ?_
  have hi' : i < n := hi
  obtain ⟨s, e1, _⟩ := (h4 i (by omega) (by omega)).str Tryz.underlying9
  have e1 : cellAt (im w) x 1 (i : Int) 0 = .string s := by simpa using e1
  have hg : (strC (im w) x).getD (i : Int).toNat ⟨#[]⟩ = vStr (cellAt (im w) x 1 i 0) := by
    rw [List.getD_eq_getElem?_getD]
    simp [strC, hn, hi']
  match j, hf, hf' with
  | 0, hf, hf' =>
    cases hf; cases hf'
    show cellAt (im w) x 1 (i : Int) 0 = .string ((strC (im w) x).getD (i : Int).toNat ⟨#[]⟩)
    rw [hg, e1, vStr]
  | j + 1, hf, hf' => simp [Lay.d, strY] at hf'
def ptC (u : Im) (x : Value) (i : Int) : PV := match cellAt u x 4 i 3 with
  | .slice a n c => ⟨vInt (cellAt u x 4 i 0), vStr (cellAt u x 4 i 1), vBool (cellAt u x 4 i 2), a, n, c⟩
  | _ => pv0
theorem open_ptC {x : Value} (h : TrZ enc Tryz.prog w 22 [x]) : ∃ A c L T, x = .slice A L.length c ∧ SlAt (im w) (.slice A L.length c) (pvY.d L) ∧ PartsAt (im w) L T ∧ L.length * 56 ≤ 140737488355328 ∧ ∀ j, (T.getD j []).length * 16 ≤ 140737488355328 := by
  obtain ⟨A, n, c, rfl, h2, hz, h3, h4⟩ := h.slice Tryz.underlying22 (by kernel_rfl : _ = 4)
  have hb : Tryz.prog.bytesOf 36 = 56 := by kernel_rfl
  rw [hb] at hz
  generalize hx : Value.slice A n c = x at h3 h4
  have cell : ∀ i : Nat, i < n → (∃ k, cellAt (im w) x 4 i 0 = .int .i64 k) ∧ (∃ s, cellAt (im w) x 4 i 1 = .string s) ∧ (∃ b, cellAt (im w) x 4 i 2 = .bool b) ∧ TrZ enc Tryz.prog w 34 [cellAt (im w) x 4 i 3] := by
    intro i hi
    obtain ⟨_, hc⟩ := (h4 i (by omega) (by omega)).strct Tryz.underlying36 (by kernel_rfl)
    obtain ⟨k0, e0, _⟩ := (hc 0 _ _ rfl rfl).tr.int Tryz.underlying3
    obtain ⟨k1, e1, _⟩ := (hc 1 _ _ rfl rfl).tr.str Tryz.underlying9
    obtain ⟨k2, e2⟩ := (hc 2 _ _ rfl rfl).tr.bool Tryz.underlying4
    exact ⟨⟨k0, by simpa using e0⟩, ⟨k1, by simpa using e1⟩, ⟨k2, by simpa using e2⟩, hc 3 _ _ rfl rfl⟩
  obtain ⟨L, hL⟩ : ∃ L, L = (List.range n).map fun i : Nat => ptC (im w) x i := ⟨_, rfl⟩
  obtain ⟨T, hT⟩ : ∃ T, T = (List.range n).map fun i : Nat => strC (im w) (cellAt (im w) x 4 i 3) := ⟨_, rfl⟩
  have hl : L.length = n := by rw [hL]; simp
  have hget : ∀ i : Nat, i < n → L.getD i pv0 = ptC (im w) x i := fun i hi => by rw [hL, List.getD_eq_getElem?_getD]; simp [hi]
  have hgT : ∀ i : Nat, i < n → T.getD i [] = strC (im w) (cellAt (im w) x 4 i 3) := fun i hi => by rw [hT, List.getD_eq_getElem?_getD]; simp [hi]
  have hpt : ∀ i : Nat, i < n → ∃ k s b a m c2, cellAt (im w) x 4 i 0 = .int .i64 k ∧ cellAt (im w) x 4 i 1 = .string s ∧ cellAt (im w) x 4 i 2 = .bool b ∧ cellAt (im w) x 4 i 3 = .slice a m c2 ∧ ptC (im w) x i = ⟨k, s, b, a, m, c2⟩ := fun i hi => by
    obtain ⟨⟨k, e0⟩, ⟨s, e1⟩, ⟨b, e2⟩, hp⟩ := cell i hi
    obtain ⟨a, m, c2, e3, _⟩ := open_strC hp
    exact ⟨k, s, b, a, m, c2, e0, e1, e2, e3, by unfold ptC; rw [e3]; simp only [e0, e1, e2, vInt, vStr, vBool]⟩
  refine ⟨A, c, L, T, by rw [← hx, hl], ?_, ⟨by rw [hl, hT]; simp, fun i hi => ?_⟩, by rw [hl]; exact hz, fun j => ?_⟩
  · rw [hl, hx]
    refine h3.ext (by simp [dataAt, Lay.d, hl]) rfl fun i hi j f f' hf hf' => ?_
    have hi' : i < n := hi
    have hg : L.getD (i : Int).toNat pv0 = ptC (im w) x i := hget i hi'
    obtain ⟨k, s, b, a, n2, c2, e0, e1, e2, e3, hp⟩ := hpt i hi'
    match j, hf, hf' with
    | 0, hf, hf' =>
      cases hf; cases hf'
      show cellAt (im w) x 4 i 0 = .int .i64 (L.getD (i : Int).toNat pv0).kind
      rw [hg, hp, e0]
    | 1, hf, hf' =>
      cases hf; cases hf'
      show cellAt (im w) x 4 i 1 = .string (L.getD (i : Int).toNat pv0).text
      rw [hg, hp, e1]
    | 2, hf, hf' =>
      cases hf; cases hf'
      show cellAt (im w) x 4 i 2 = .bool (L.getD (i : Int).toNat pv0).space
      rw [hg, hp, e2]
    | 3, hf, hf' =>
      cases hf; cases hf'
      show cellAt (im w) x 4 i 3 = .slice (L.getD (i : Int).toNat pv0).pa (L.getD (i : Int).toNat pv0).pn (L.getD (i : Int).toNat pv0).pc
      rw [hg, hp, e3]
    | j + 4, hf, hf' => simp [Lay.d, pvY] at hf'
  · rw [hl] at hi
    rw [hget i hi, hgT i hi]
    obtain ⟨k, s, b, a, n2, c2, e0, e1, e2, e3, hp⟩ := hpt i hi
    obtain ⟨_, _, _, _, hs, _⟩ := open_strC (cell i hi).2.2.2
    rw [hp]
    show SlAt (im w) (.slice a n2 c2) _
    rw [← e3]; exact hs
  · rcases Nat.lt_or_ge j n with hj | hj
    · rw [hgT j hj]
      obtain ⟨_, _, _, _, _, hz, _⟩ := open_strC (cell j hj).2.2.2
      exact hz
    · rw [List.getD_eq_getElem?_getD, List.getElem?_eq_none (by rw [hT]; simp; omega)]
      exact Nat.zero_le _
end
set_option maxRecDepth 100000 in
theorem lifted (os : Os) (started : os.Started) (H : Type) (enc : TypeId × Value → H) :
    ReturnsInHanded {} Tryz.checked os 3 .any (fun w args => (Rows.condTellsSpec.pre enc Tryz.prog Tryz.f3 [] false w args ∧ laidMetH Tryz.prog lst w) ∧ sizedMet enc Tryz.prog Tryz.f3 (OpenSpec.ofChange Rows.condTellsSpec) false w args)
      (Rows.condTellsSpec.post enc Tryz.prog Tryz.f3 false true false false) := by
  refine returnsInHanded_and_shaped (C := Tryz.checked) (X := fun w _ => laidMetH Tryz.prog lst w) (fun _ _ _ hh h => h.of_heap hh) own started (by kernel_rfl) Tryz.func3
    (ChangeSpec.witness_at (enc := enc) (C := Tryz.checked) (os := os) (X := fun w _ => laidMetH Tryz.prog lst w) false (World.laidAll Tryz.prog os lst) #[.slice none 0 0] 8 (lstB os) (by kernel_rfl) (by kernel_rfl) (by kernel_rfl) (by kernel_rfl) (by kernel_rfl) (met os _)) ?_
  intro W base args ds gs before hval0 hW hcnd hz hL hsh _
  have hval : ∀ (j : Nat) t v, Tryz.f3.params[j]? = some t → args[j]? = some v → Value.okWide Tryz.prog W .any base t v := hval0
  have hW' := hW
  obtain ⟨p, q, hA0, hV, rfl, hfz, hnd⟩ := hW
  have hA : DataW.TrodAll enc Tryz.prog W 0 (fun _ => true) true Tryz.f3.params.toList args.toList ds p := hA0
  rw [Tryz.params3] at hA hval hz
  obtain ⟨v0, vs0, d0, ds0, p0, q0, hargs, rfl, rfl, h0, r0⟩ := trodAll_cons hA
  obtain ⟨rfl, rfl, rfl⟩ := trodAll_nil r0
  obtain rfl : args = #[v0] := by cases args; simp_all
  obtain ⟨rfl, rfl⟩ := trodVars_none hV
  obtain ⟨a0, len0, cap0, e0⟩ := okWide_slice Tryz.underlying22 (hval 0 22 v0 rfl rfl)
  have lt0 : ∀ x ∈ p0, x.block < W.heap.size := by obtain ⟨m, hm⟩ := h0; exact DataW.trod_lt m _ _ _ hm
  have hT0 : TrZ enc Tryz.prog W 22 [v0] := by
    have := TrZ.of (j := 0) hz rfl rfl h0
    rw [e0] at this ⊢
    exact this
  have hg : Glob (im W) := Tryz.laysM143.s1_3 W hsh
  have hO : OpG (im W) := ops_of_laid hL
  obtain ⟨A, c, L, T, z0, m0, p0', l0, t0⟩ := open_ptC hT0
  have key : Calls Tryz.prog 3 #[v0] W (PureP W fun v _ => v = .bool true) := by
    rw [z0]; exact condTells_any L T A c W m0 p0' l0 t0 hg hO
  clear hA0 hval0
  refine (key).mono fun e W' ⟨v, he, bel, hv⟩ => ?_
  subst he hv
  exact ⟨_, rfl, _, _, _, [], _, [], hW', trodAll_mk1 (shut_bool Tryz.underlying4 _), (trodAll_cons_mk (Below.trod laidOut (by kernel_rfl) (of_decide_eq_true (by kernel_rfl)) h0 bel lt0) trodAll_mk0), rfl, bel.frame _, fun h => by cases h⟩
theorem c9 : (Rows.condTellsRow.inPlace == Tryz.prog.inPlace 3) = true := by kernel_rfl
theorem c10 : (Rows.condTellsRow.unfollowed == Tryz.prog.unfollowed 3) = true := by kernel_rfl
theorem c11 : (Rows.condTellsRow.recurses == Tryz.prog.recurses 3) = true := by kernel_rfl
theorem c12 : (Rows.condTellsRow.named == Tryz.prog.varsNamed 3) = true := by kernel_rfl
theorem closed : joinedFacts Tryz.prog 3 Tryz.f3 Rows.condTellsSpec Rows.condTellsRow = true :=
  jmk (by kernel_rfl) laidOut fMaps (by kernel_rfl) (by kernel_rfl) (by kernel_rfl) (by kernel_rfl) (by kernel_rfl) (by kernel_rfl) c9 c10 c11 c12 (by kernel_rfl) (by kernel_rfl) (by kernel_rfl) (by kernel_rfl) (by kernel_rfl) (by kernel_rfl) (by kernel_rfl) (by kernel_rfl) (by kernel_rfl) (by kernel_rfl) (by kernel_rfl) fHeard fEnter fLifts fMake (by kernel_rfl) (by kernel_rfl) (by kernel_rfl) (by kernel_rfl)
theorem named : Tryz.prog.funcNamed Rows.condTellsRow.func = some 3 := by kernel_rfl
theorem inst : Tryz.f3.isInstance Tryz.prog Rows.condTellsRow.origin Rows.condTellsRow.targs := of_decide_eq_true (by kernel_rfl)
theorem wrap : Tryz.f3.isWrapper Tryz.prog Rows.condTellsRow.wrapper Rows.condTellsRow.mainSum := by unfold Func.isWrapper; first | (rw [if_pos (by decide +kernel)]; kernel_rfl) | (rw [if_neg (by decide +kernel)]; exact ⟨rfl, rfl⟩)
theorem over : Rows.condTellsRow.holds Tryz.pinned (OpenSpec.ofChange Rows.condTellsSpec) :=
  OpenClaim.holds_of_wide 3 Tryz.f3 rfl rfl rfl rfl rfl rfl rfl ⟨rfl, rfl, rfl, rfl, rfl⟩ rfl rfl rfl rfl rfl named Tryz.func3 closed inst wrap
    (fun os started H enc _ => lifted os started H enc)
theorem condTells_card : Rows.CondTellsCardSaid :=
  Claim7.holds_tied_plain_at .later [] _ _ _ _
    over (fun _ h => by cases h) (by kernel_rfl) (fun _ h => by cases h) condTells_row_tie rfl ⟨rfl, rfl⟩ (by kernel_rfl) rfl
    (fun f fn hf hfn => by
      obtain rfl : f = 3 := Option.some.inj (named.symm.trans hf) |>.symm
      obtain rfl : fn = Tryz.f3 := (Option.some.inj (Tryz.func3.symm.trans hfn)).symm
      exact ⟨by kernel_rfl, fun j t ht => by
        rw [Tryz.params3] at ht
        obtain rfl : t = 22 := by simpa using Array.mem_of_getElem? ht
        exact (show Tryz.prog.wantsStandIn 22 = false by kernel_rfl)⟩)
    (by kernel_rfl)
#print axioms condTells_card
end Go.Proofs.YtnjmkeijjapejaaGreatDoor
