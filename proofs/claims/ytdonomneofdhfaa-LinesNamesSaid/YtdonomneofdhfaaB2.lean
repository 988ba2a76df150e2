/- The document's answer to the same, and when two lists of tokens are one. -/
import Derived.Test.YtdonomneofdhfaaB1
namespace Go.Proofs.Ytdonomneofdhfaa
open Go.GV Go.RowKit

theorem tokN (L : List Tok) : (tokY.d L).n = L.length := rfl

def pg (L : List Tok) (i : Int) : Bool := decide (0 < i) && (decide ((L.getD (i - 1).toNat tok0).kind = 8) || decide ((L.getD (i - 1).toNat tok0).kind = 9))
theorem pg_succ (L : List Tok) {i : Int} (h : 0 ≤ i) : pg L (i + 1) = gone (L.getD i.toNat tok0) := by
  unfold pg gone
  rw [show i + 1 - 1 = i by omega]
  simp; omega

set_option maxRecDepth 100000 in
theorem refBare_any (L : List Tok) (x : Value) (w : World) (hx : SlAt (im w) x (tokY.d L)) (hL : L.length * 48 ≤ 140737488355328) :
    Calls Try.prog 86 #[x] w (PureP w fun v u => OwnAt u v 31 (tokY.d (bareFrom false L))) := by
  refine x_fun tt_ok Try.func86 rfl rfl [(x, tokY.d L)] 1 [.r 0] rfl rfl rfl rfl (fun b hb => by simp at hb; subst hb; exact hx) ?_
  refine x_vc tt_ok ?_
  refine x_nil 3 31 tokY rfl ?_
  refine x_loop (σ := Int × List Tok) (fun (i, out) => ⟨[(4, .v (.int .i64 i)), (0, .r 0), (3, .r 2)], [], [(0, .sl (tokY.d L)), (2, .row 31 (tokY.d out))], 3⟩)
    (fun (i, out) _ => 0 ≤ i ∧ i ≤ L.length ∧ out.length ≤ i ∧ out ++ bareFrom (pg L i) (L.drop i.toNat) = bareFrom false L) (fun (i, _) => (L.length - i).toNat) (fun (_, _) => by simp only; omega) (0, []) [(2, some 1)] (.of rfl rfl rfl rfl rfl rfl)
    ⟨by omega, by simp, by simp, by simp [pg]⟩ ?_
  rintro ⟨i, out⟩ u hu ⟨g1, g2, g3, g4⟩
  refine x_vc tt_ok ?_
  refine x_if (fun h => ?_) (fun h => ?_)
  · have h2 : i < L.length := of_decide_eq_true h
    rw [drop_at (d := tok0) g1 h2] at g4
    have hpg := pg_succ L g1
    repeat (refine And.intro ?_ ?_; first | omega | (simp [Lay.d] <;> omega))
    refine x_if (fun h3 => ?_) (fun h3 => ?_)
    · have h4 : gone (L.getD i.toNat tok0) = true := h3
      repeat (refine And.intro ?_ ?_; first | omega | (simp [Lay.d] <;> omega))
      refine again (i + 1, out) [] (.of rfl rfl rfl rfl rfl rfl) ⟨by omega, by omega, by omega, ?_⟩ (by simp only; omega)
      rw [hpg, h4]
      simpa only [bareFrom, h4, if_true] using g4
    · have h4 : gone (L.getD i.toNat tok0) = false := h3
      simp only [bareFrom, h4, Bool.false_eq_true, if_false] at g4
      repeat (refine And.intro ?_ ?_; first | omega | (simp [Lay.d] <;> omega))
      refine x_if (fun h5 => ?_) (fun h5 => ?_)
      · have h6 : pg L i = true := h5
        rw [h6, Bool.or_true] at g4
        refine xl_push tt_ok tokY out { L.getD i.toNat tok0 with space := true } 48 rfl rfl rfl rfl rfl rfl rfl rfl rfl rfl rfl rfl (by kernel_rfl) rfl rfl rfl rfl rfl (fun n hn => by cases hn; decide) rfl rfl rfl (by omega) (by omega) ?_
        refine xl_go tt_ok ?_
        repeat (refine And.intro ?_ ?_; first | omega | (simp [Lay.d] <;> omega))
        refine again (i + 1, out ++ [{ L.getD i.toNat tok0 with space := true }]) [(2, some 4)] (.of rfl rfl rfl rfl rfl rfl) ⟨by omega, by omega, by simp; omega, ?_⟩ (by simp only; omega)
        rw [hpg, h4, List.append_assoc]
        exact g4
      · have h6 : pg L i = false := h5
        rw [h6, Bool.or_false] at g4
        refine xl_push tt_ok tokY out (L.getD i.toNat tok0) 48 rfl rfl rfl rfl rfl rfl rfl rfl rfl rfl rfl rfl (by kernel_rfl) rfl rfl rfl rfl rfl (fun n hn => by cases hn; decide) rfl rfl rfl (by omega) (by omega) ?_
        refine xl_go tt_ok ?_
        repeat (refine And.intro ?_ ?_; first | omega | (simp [Lay.d] <;> omega))
        refine again (i + 1, out ++ [L.getD i.toNat tok0]) [(2, some 4)] (.of rfl rfl rfl rfl rfl rfl) ⟨by omega, by omega, by simp; omega, ?_⟩ (by simp only; omega)
        rw [hpg, h4, List.append_assoc]
        exact g4
  · have h2 : i = L.length := by
      have h3 : ¬ (i < (L.length : Int)) := of_decide_eq_false h
      omega
    have e : L.drop i.toNat = [] := List.drop_eq_nil_of_le (by omega)
    rw [e] at g4
    simp only [bareFrom, List.append_nil] at g4
    subst g4
    exact finO rfl

theorem tokEq {a b : Tok} : (decide (a.kind = b.kind) && (decide (a.text = b.text) && (decide (a.lo = b.lo) && (decide (a.hi = b.hi) && (decide (a.space = b.space) && true))))) = true ↔ a = b := by
  cases a; cases b; simp

theorem take_one {α : Type} {L M : List α} {i : Int} {d : α} (h0 : 0 ≤ i) (hl : i < L.length) (hm : i < M.length) (h : L.take i.toNat = M.take i.toNat) (he : L.getD i.toNat d = M.getD i.toNat d) : L.take (i + 1).toNat = M.take (i + 1).toNat := by
  have e : (i + 1).toNat = i.toNat + 1 := by omega
  have h1 : i.toNat < L.length := by omega
  have h2 : i.toNat < M.length := by omega
  rw [e, List.take_succ_eq_append_getElem h1, List.take_succ_eq_append_getElem h2, h]
  rw [List.getD_eq_getElem?_getD, List.getD_eq_getElem?_getD, List.getElem?_eq_getElem h1, List.getElem?_eq_getElem h2] at he
  simp at he
  rw [he]

set_option maxRecDepth 100000 in
theorem same_any (L M : List Tok) (x y : Value) (w : World) (hx : SlAt (im w) x (tokY.d L)) (hy : SlAt (im w) y (tokY.d M)) (hL : L.length ≤ 9223372036854775807) :
    Calls Try.prog 28 #[x, y] w (PureP w fun v _ => v = .bool (pb (L = M))) := by
  refine x_fun tt_ok Try.func28 rfl rfl [(x, tokY.d L), (y, tokY.d M)] 2 [.r 0, .r 1] rfl rfl rfl rfl (fun b hb => by simp at hb; rcases hb with rfl | rfl <;> assumption) ?_
  refine x_vc tt_ok ?_
  refine x_if (fun h => ?_) (fun h => ?_)
  · refine fin1 (fun _ _ => ?_)
    have h' : ¬ ((L.length : Int) = M.length) := of_decide_eq_true h
    rw [pb_false (fun hh => h' (by rw [hh]))]; rfl
  · have h' : ¬ ¬ ((L.length : Int) = M.length) := of_decide_eq_false h
    have hl : L.length = M.length := by omega
    refine x_loop (σ := Int) (fun i => ⟨[(5, .v (.int .i64 i)), (0, .r 0), (1, .r 1)], [], [(0, .sl (tokY.d L)), (1, .sl (tokY.d M))], 2⟩)
      (fun i _ => 0 ≤ i ∧ i ≤ L.length ∧ L.take i.toNat = M.take i.toNat) (fun i => (L.length - i).toNat) (fun _ => Nat.le_refl _) 0 [] (.of rfl rfl rfl rfl rfl rfl) ⟨by omega, by omega, by simp⟩ ?_
    rintro i u hu ⟨g1, g2, g3⟩
    refine x_vc tt_ok ?_
    refine x_if (fun h => ?_) (fun h => ?_)
    · have h2 : i < L.length := of_decide_eq_true h
      refine x_draw mix (by kernel_rfl) (xd_go tt_ok ?_)
      repeat (refine And.intro ?_ ?_; first | omega | (simp [Lay.d] <;> omega))
      refine x_if (fun h3 => ?_) (fun h3 => ?_)
      · refine fin1 (fun _ _ => ?_)
        have h4 : ¬ L.getD i.toNat tok0 = M.getD i.toNat tok0 := fun hh => by
          have := tokEq.2 hh
          rw [Bool.not_eq_true'] at h3
          exact absurd (h3.symm.trans this) (by simp)
        rw [pb_false (fun hh => h4 (by rw [hh]))]; rfl
      · have h4 : L.getD i.toNat tok0 = M.getD i.toNat tok0 := tokEq.1 (by rw [Bool.not_eq_false'] at h3; exact h3)
        repeat (refine And.intro ?_ ?_; first | omega | (simp [Lay.d] <;> omega))
        refine again (i + 1) [] (.of rfl rfl rfl rfl rfl rfl) ⟨by omega, by omega, ?_⟩ (by omega)
        exact take_one g1 h2 (by omega) g3 h4
    · have h2 : i = L.length := by
        have h3 : ¬ (i < (L.length : Int)) := of_decide_eq_false h
        omega
      refine fin1 (fun _ _ => ?_)
      rw [List.take_of_length_le (by omega), List.take_of_length_le (by omega)] at g3
      rw [pb_true g3]; rfl
end Go.Proofs.Ytdonomneofdhfaa
