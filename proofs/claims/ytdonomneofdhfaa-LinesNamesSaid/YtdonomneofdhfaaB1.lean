/- What is left of a list of tokens without comments and line ends: both programs' answers. -/
import Derived.Test.YtdonomneofdhfaaP3
namespace Go.Proofs.Ytdonomneofdhfaa
open Go.GV Go.RowKit

noncomputable def pb (p : Prop) : Bool := @decide p (Classical.propDecidable p)
theorem pb_iff {p : Prop} : pb p = true ↔ p := by unfold pb; exact @decide_eq_true_iff p (Classical.propDecidable p)
theorem pb_true {p : Prop} (h : p) : pb p = true := pb_iff.2 h
theorem pb_false {p : Prop} (h : ¬ p) : pb p = false := by
  cases hb : pb p with
  | false => rfl
  | true => exact absurd (pb_iff.1 hb) h

structure Tok where
  kind : Int
  text : ByteArray
  lo : Int
  hi : Int
  space : Bool

def tok0 : Tok := ⟨0, ⟨#[]⟩, 0, 0, false⟩
abbrev tokY : Lay Tok := ⟨[fun t => .int .i64 t.kind, fun t => .string t.text, fun t => .int .i64 t.lo, fun t => .int .i64 t.hi, fun t => .bool t.space], tok0⟩

def gone (t : Tok) : Bool := decide (t.kind = 8) || decide (t.kind = 9)
def bareFrom (dr : Bool) : List Tok → List Tok
  | [] => []
  | t :: r => if gone t then bareFrom true r else { t with space := t.space || dr } :: bareFrom false r

theorem drop_at {α : Type} {L : List α} {i : Int} {d : α} (h0 : 0 ≤ i) (h : i < L.length) : L.drop i.toNat = L.getD i.toNat d :: L.drop (i + 1).toNat := by
  have hl : i.toNat < L.length := by omega
  rw [List.drop_eq_getElem_cons hl, show (i + 1).toNat = i.toNat + 1 by omega, List.getD_eq_getElem?_getD, List.getElem?_eq_getElem hl]; rfl

theorem bareFrom_le (dr : Bool) (L : List Tok) : (bareFrom dr L).length ≤ L.length := by
  induction L generalizing dr with
  | nil => simp [bareFrom]
  | cons t r ih =>
    simp only [bareFrom]
    split
    · have := ih true; simp; omega
    · have := ih false; simp; omega

set_option maxRecDepth 100000 in
theorem bare_any (L : List Tok) (x : Value) (w : World) (hx : SlAt (im w) x (tokY.d L)) (hL : L.length * 48 ≤ 140737488355328) :
    Calls Try.prog 46 #[x] w (PureP w fun v u => OwnAt u v 31 (tokY.d (bareFrom false L))) := by
  refine x_fun tt_ok Try.func46 rfl rfl [(x, tokY.d L)] 1 [.r 0] rfl rfl rfl rfl (fun b hb => by simp at hb; subst hb; exact hx) ?_
  refine x_vc tt_ok ?_
  refine x_nil 3 31 tokY rfl ?_
  refine x_loop (σ := Int × Bool × List Tok) (fun (i, dr, out) => ⟨[(9, .v (.int .i64 i)), (8, .v (.int .i64 L.length)), (7, .r 0), (4, .v (.bool dr)), (3, .r 2)], [], [(0, .sl (tokY.d L)), (2, .row 31 (tokY.d out))], 3⟩)
    (fun (i, dr, out) _ => 0 ≤ i ∧ i ≤ L.length ∧ out.length ≤ i ∧ out ++ bareFrom dr (L.drop i.toNat) = bareFrom false L) (fun (i, _, _) => (L.length - i).toNat) (fun (_, _, _) => by simp only; omega) (0, false, []) [(2, some 1)] (.of rfl rfl rfl rfl rfl rfl)
    ⟨by omega, by simp, by simp, by simp⟩ ?_
  rintro ⟨i, dr, out⟩ u hu ⟨g1, g2, g3, g4⟩
  refine x_vc tt_ok ?_
  refine x_if (fun h => ?_) (fun h => ?_)
  · have h2 : i < L.length := by simpa using h
    rw [drop_at (d := tok0) g1 h2] at g4
    repeat (refine And.intro ?_ ?_; first | omega | (simp [Lay.d] <;> omega))
    refine x_if (fun h3 => ?_) (fun h3 => ?_)
    · have h4 : gone (L.getD i.toNat tok0) = true := h3
      repeat (refine And.intro ?_ ?_; first | omega | (simp [Lay.d] <;> omega))
      refine again (i + 1, true, out) [] (.of rfl rfl rfl rfl rfl rfl) ⟨by omega, by omega, by omega, ?_⟩ (by simp only; omega)
      simpa only [bareFrom, h4, if_true] using g4
    · have h4 : gone (L.getD i.toNat tok0) = false := h3
      simp only [bareFrom, h4, Bool.false_eq_true, if_false] at g4
      refine xl_push tt_ok tokY out { L.getD i.toNat tok0 with space := (L.getD i.toNat tok0).space || dr } 48 rfl rfl rfl rfl rfl rfl rfl rfl rfl rfl rfl rfl (by kernel_rfl) rfl rfl rfl rfl rfl (fun n hn => by cases hn; decide) rfl rfl rfl (by omega) (by omega) ?_
      refine xl_go tt_ok ?_
      repeat (refine And.intro ?_ ?_; first | omega | (simp [Lay.d] <;> omega))
      refine again (i + 1, false, out ++ [{ L.getD i.toNat tok0 with space := (L.getD i.toNat tok0).space || dr }]) [(2, some 4)] (.of rfl rfl rfl rfl rfl rfl) ⟨by omega, by omega, by simp; omega, ?_⟩ (by simp only; omega)
      rw [List.append_assoc]
      exact g4
  · have h2 : i = L.length := by simp at h; omega
    have e : L.drop i.toNat = [] := List.drop_eq_nil_of_le (by omega)
    rw [e] at g4
    simp only [bareFrom, List.append_nil] at g4
    subst g4
    exact finO rfl
end Go.Proofs.Ytdonomneofdhfaa
