/- A constant's suffix. -/
import Derived.Test.YtdonomneofdhfaaN3
namespace Go.Proofs.Ytdonomneofdhfaa
open Go.GV Go.RowKit

def isU (c : Int) : Bool := decide (c = 117) || decide (c = 85)
def headU (s : ByteArray) : Bool := decide (0 < (s.size : Int)) && isU (bt s 0)
def lastU (s : ByteArray) : Bool := decide (0 < (s.size : Int)) && isU (bt s ((s.size : Int) - 1))
/-- what is left without the u, and whether there is one -/
def sufR (s : ByteArray) : ByteArray × Bool := if headU s = true then (sub s 1 s.size, true) else if lastU s = true then (sub s 0 ((s.size : Int) - 1), true) else (s, false)
def isSuf (s : ByteArray) : Bool := decide (s = ⟨#[]⟩) || (decide (s = ⟨#[108]⟩) || (decide (s = ⟨#[108, 108]⟩) || (decide (s = ⟨#[76]⟩) || decide (s = ⟨#[76, 76]⟩))))
def sufO (s : ByteArray) : Bool := isSuf (sufR s).1
def sufU (s : ByteArray) : Bool := (sufR s).2

set_option maxRecDepth 100000 in
theorem suffix_any (s : ByteArray) (w : World) (hs : s.size ≤ 9223372036854775807) :
    Calls Try.prog 113 #[.string s] w (PureP w fun v _ => v = .tuple #[.bool (sufO s && sufU s), .bool (sufO s)]) := by
  refine x_fun tt_ok Try.func113 rfl rfl [] 0 [.v (.string s)] rfl rfl rfl rfl (fun b hb => by cases hb) ?_
  refine x_seq ?_
  refine x_vc tt_ok ?_
  refine x_cut (σ := ByteArray × Bool) (fun p => ⟨[(0, .v (.string p.1)), (2, .v (.bool p.2))], [], [], 0⟩) (fun p _ => sufR s = p) (fun _ => Nat.le_refl _) ?_ ?_
  · refine x_vc tt_ok ?_
    repeat (refine And.intro ?_ ?_; first | omega | (simp only [Lay.d_n]; omega) | (simp only [decide_eq_true_eq, decide_eq_false_iff_not, Bool.or_eq_false_iff, Bool.and_eq_true, Bool.or_eq_true, Bool.and_eq_false_iff, Bool.not_eq_true', Bool.not_eq_false', Lay.d_n]; omega) | (simp only [decide_eq_true_eq, decide_eq_false_iff_not, Bool.or_eq_false_iff, Bool.and_eq_true, Bool.or_eq_true, Bool.and_eq_false_iff, Bool.not_eq_true', Bool.not_eq_false']; omega))
    refine x_if (fun h => ?_) (fun h => ?_)
    · have h : headU s = true := h
      have e : sufR s = (sub s 1 s.size, true) := by unfold sufR; rw [if_pos h]
      unfold headU at h
      simp only [Bool.and_eq_true, decide_eq_true_eq] at h
      refine x_draw mix (by kernel_rfl) (xd_go tt_ok ?_)
      repeat (refine And.intro ?_ ?_; first | omega | (simp only [Lay.d_n]; omega) | (simp only [decide_eq_true_eq, decide_eq_false_iff_not, Bool.or_eq_false_iff, Bool.and_eq_true, Bool.or_eq_true, Bool.and_eq_false_iff, Bool.not_eq_true', Bool.not_eq_false', Lay.d_n]; omega) | (simp only [decide_eq_true_eq, decide_eq_false_iff_not, Bool.or_eq_false_iff, Bool.and_eq_true, Bool.or_eq_true, Bool.and_eq_false_iff, Bool.not_eq_true', Bool.not_eq_false']; omega))
      exact meet (sub s 1 s.size, true) [] (.of rfl rfl rfl rfl rfl rfl) e
    · have h : headU s = false := h
      repeat (refine And.intro ?_ ?_; first | omega | (simp only [Lay.d_n]; omega) | (simp only [decide_eq_true_eq, decide_eq_false_iff_not, Bool.or_eq_false_iff, Bool.and_eq_true, Bool.or_eq_true, Bool.and_eq_false_iff, Bool.not_eq_true', Bool.not_eq_false', Lay.d_n]; omega) | (simp only [decide_eq_true_eq, decide_eq_false_iff_not, Bool.or_eq_false_iff, Bool.and_eq_true, Bool.or_eq_true, Bool.and_eq_false_iff, Bool.not_eq_true', Bool.not_eq_false']; omega))
      refine x_if (fun h2 => ?_) (fun h2 => ?_)
      · have h2 : lastU s = true := h2
        have e : sufR s = (sub s 0 ((s.size : Int) - 1), true) := by unfold sufR; rw [if_neg (by rw [h]; simp), if_pos h2]
        unfold lastU at h2
        simp only [Bool.and_eq_true, decide_eq_true_eq] at h2
        refine x_draw mix (by kernel_rfl) (xd_go tt_ok ?_)
        repeat (refine And.intro ?_ ?_; first | omega | (simp only [Lay.d_n]; omega) | (simp only [decide_eq_true_eq, decide_eq_false_iff_not, Bool.or_eq_false_iff, Bool.and_eq_true, Bool.or_eq_true, Bool.and_eq_false_iff, Bool.not_eq_true', Bool.not_eq_false', Lay.d_n]; omega) | (simp only [decide_eq_true_eq, decide_eq_false_iff_not, Bool.or_eq_false_iff, Bool.and_eq_true, Bool.or_eq_true, Bool.and_eq_false_iff, Bool.not_eq_true', Bool.not_eq_false']; omega))
        exact meet (sub s 0 ((s.size : Int) - 1), true) [] (.of rfl rfl rfl rfl rfl rfl) e
      · have h2 : lastU s = false := h2
        have e : sufR s = (s, false) := by unfold sufR; rw [if_neg (by rw [h]; simp), if_neg (by rw [h2]; simp)]
        exact meet (s, false) [] (.of rfl rfl rfl rfl rfl rfl) e
  · rintro ⟨r, u⟩ u1 hu1 hr
    replace hr : sufR s = (r, u) := hr
    have e1 : sufO s = isSuf r := by unfold sufO; rw [hr]
    have e2 : sufU s = u := by unfold sufU; rw [hr]
    rw [e1, e2]
    refine x_vc tt_ok ?_
    refine x_if (fun h => ?_) (fun h => ?_)
    · have h := of_decide_eq_true h
      subst h
      refine x_ift rfl ?_
      exact fin1 (fun _ _ => rfl)
    · have h1 := of_decide_eq_false h
      refine x_if (fun h => ?_) (fun h => ?_)
      · have h := of_decide_eq_true h
        subst h
        refine x_ift rfl ?_
        exact fin1 (fun _ _ => rfl)
      · have h2 := of_decide_eq_false h
        refine x_if (fun h => ?_) (fun h => ?_)
        · have h := of_decide_eq_true h
          subst h
          refine x_ift rfl ?_
          exact fin1 (fun _ _ => rfl)
        · have h3 := of_decide_eq_false h
          refine x_if (fun h => ?_) (fun h => ?_)
          · have h := of_decide_eq_true h
            subst h
            refine x_ift rfl ?_
            exact fin1 (fun _ _ => rfl)
          · have h4 := of_decide_eq_false h
            refine x_if (fun h => ?_) (fun h => ?_)
            · have h := of_decide_eq_true h
              subst h
              exact fin1 (fun _ _ => rfl)
            · have h5 := of_decide_eq_false h
              have e3 : isSuf r = false := by unfold isSuf; rw [decide_eq_false h1, decide_eq_false h2, decide_eq_false h3, decide_eq_false h4, decide_eq_false h5]; rfl
              rw [e3]
              exact fin1 (fun _ _ => rfl)

set_option maxRecDepth 100000 in
theorem suffixR_any (s : ByteArray) (w : World) (hs : s.size ≤ 9223372036854775807) :
    Calls Try.prog 116 #[.string s] w (PureP w fun v _ => v = .tuple #[.bool (sufO s), .bool (sufU s)]) := by
  refine x_fun tt_ok Try.func116 rfl rfl [] 0 [.v (.string s)] rfl rfl rfl rfl (fun b hb => by cases hb) ?_
  iterate 3
    refine x_seq ?_
    refine x_vc tt_ok ?_
  refine x_cut (σ := ByteArray × Bool) (fun p => ⟨[(5, .v (.string p.1)), (4, .v (.int .i64 (if p.2 then 1 else 0)))], [], [], 0⟩) (fun p _ => sufR s = p) (fun _ => Nat.le_refl _) ?_ ?_
  · refine x_vc tt_ok ?_
    repeat (refine And.intro ?_ ?_; first | omega | (simp only [Lay.d_n]; omega) | (simp only [decide_eq_true_eq, decide_eq_false_iff_not, Bool.or_eq_false_iff, Bool.and_eq_true, Bool.or_eq_true, Bool.and_eq_false_iff, Bool.not_eq_true', Bool.not_eq_false', Lay.d_n]; omega) | (simp only [decide_eq_true_eq, decide_eq_false_iff_not, Bool.or_eq_false_iff, Bool.and_eq_true, Bool.or_eq_true, Bool.and_eq_false_iff, Bool.not_eq_true', Bool.not_eq_false']; omega))
    refine x_if (fun h => ?_) (fun h => ?_)
    · have h : headU s = true := h
      have e : sufR s = (sub s 1 s.size, true) := by unfold sufR; rw [if_pos h]
      unfold headU at h
      simp only [Bool.and_eq_true, decide_eq_true_eq] at h
      repeat (refine And.intro ?_ ?_; first | omega | (simp only [Lay.d_n]; omega) | (simp only [decide_eq_true_eq, decide_eq_false_iff_not, Bool.or_eq_false_iff, Bool.and_eq_true, Bool.or_eq_true, Bool.and_eq_false_iff, Bool.not_eq_true', Bool.not_eq_false', Lay.d_n]; omega) | (simp only [decide_eq_true_eq, decide_eq_false_iff_not, Bool.or_eq_false_iff, Bool.and_eq_true, Bool.or_eq_true, Bool.and_eq_false_iff, Bool.not_eq_true', Bool.not_eq_false']; omega))
      exact meet (sub s 1 s.size, true) [] (.of rfl rfl rfl rfl rfl rfl) e
    · have h : headU s = false := h
      repeat (refine And.intro ?_ ?_; first | omega | (simp only [Lay.d_n]; omega) | (simp only [decide_eq_true_eq, decide_eq_false_iff_not, Bool.or_eq_false_iff, Bool.and_eq_true, Bool.or_eq_true, Bool.and_eq_false_iff, Bool.not_eq_true', Bool.not_eq_false', Lay.d_n]; omega) | (simp only [decide_eq_true_eq, decide_eq_false_iff_not, Bool.or_eq_false_iff, Bool.and_eq_true, Bool.or_eq_true, Bool.and_eq_false_iff, Bool.not_eq_true', Bool.not_eq_false']; omega))
      refine x_if (fun h2 => ?_) (fun h2 => ?_)
      · have h2 : lastU s = true := h2
        have e : sufR s = (sub s 0 ((s.size : Int) - 1), true) := by unfold sufR; rw [if_neg (by rw [h]; simp), if_pos h2]
        unfold lastU at h2
        simp only [Bool.and_eq_true, decide_eq_true_eq] at h2
        repeat (refine And.intro ?_ ?_; first | omega | (simp only [Lay.d_n]; omega) | (simp only [decide_eq_true_eq, decide_eq_false_iff_not, Bool.or_eq_false_iff, Bool.and_eq_true, Bool.or_eq_true, Bool.and_eq_false_iff, Bool.not_eq_true', Bool.not_eq_false', Lay.d_n]; omega) | (simp only [decide_eq_true_eq, decide_eq_false_iff_not, Bool.or_eq_false_iff, Bool.and_eq_true, Bool.or_eq_true, Bool.and_eq_false_iff, Bool.not_eq_true', Bool.not_eq_false']; omega))
        exact meet (sub s 0 ((s.size : Int) - 1), true) [] (.of rfl rfl rfl rfl rfl rfl) e
      · have h2 : lastU s = false := h2
        have e : sufR s = (s, false) := by unfold sufR; rw [if_neg (by rw [h]; simp), if_neg (by rw [h2]; simp)]
        exact meet (s, false) [] (.of rfl rfl rfl rfl rfl rfl) e
  · rintro ⟨r, u⟩ u1 hu1 hr
    replace hr : sufR s = (r, u) := hr
    have e1 : sufO s = isSuf r := by unfold sufO; rw [hr]
    have e2 : sufU s = u := by unfold sufU; rw [hr]
    rw [e1, e2]
    refine x_vc tt_ok ?_
    refine fin1 (fun _ _ => ?_)
    show Value.tuple #[.bool ((((decide (r = ⟨#[]⟩) || decide (r = ⟨#[108]⟩)) || decide (r = ⟨#[76]⟩)) || decide (r = ⟨#[108, 108]⟩)) || decide (r = ⟨#[76, 76]⟩)), .bool (decide ((if u then (1 : Int) else 0) = 1))] = _
    have e3 : ((((decide (r = ⟨#[]⟩) || decide (r = ⟨#[108]⟩)) || decide (r = ⟨#[76]⟩)) || decide (r = ⟨#[108, 108]⟩)) || decide (r = ⟨#[76, 76]⟩)) = isSuf r := by
      unfold isSuf
      generalize decide (r = ⟨#[]⟩) = a
      generalize decide (r = ⟨#[108]⟩) = b
      generalize decide (r = ⟨#[76]⟩) = c
      generalize decide (r = ⟨#[108, 108]⟩) = d
      generalize decide (r = ⟨#[76, 76]⟩) = e
      cases a <;> cases b <;> cases c <;> cases d <;> cases e <;> rfl
    rw [e3]
    cases u <;> rfl
end Go.Proofs.Ytdonomneofdhfaa
