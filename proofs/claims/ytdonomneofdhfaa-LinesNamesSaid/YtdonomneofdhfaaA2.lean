/- Whether two lists of rows say the same: the program's answer. -/
import Derived.Test.YtdonomneofdhfaaA1
namespace Go.Proofs.Ytdonomneofdhfaa
open Go.GV Go.RowKit

abbrev It := RowV × List Tok
def it0 : It := (row0, [])
abbrev itY : Lay It := ⟨[fun p => .bool p.1.dir, fun p => .string p.1.name, fun p => .slice p.1.ta p.1.tn p.1.tc], it0⟩
def ItAt (u : Im) (I : List It) : Prop := ∀ i : Nat, i < I.length → SlAt u (I.getD i it0).1.toks (tokY.d (I.getD i it0).2)
def ItSm (I : List It) : Prop := ∀ i : Nat, (I.getD i it0).2.length * 48 ≤ 140737488355328

theorem ItAt.le {u u' : Im} {I : List It} (h : ItAt u I) (hu : u.le u') : ItAt u' I := fun i hi => (h i hi).le hu
theorem ItAt.sub {u u' : Im} {I : List It} (h : ItAt u I) (hu : u.sub u') : ItAt u' I := fun i hi => (h i hi).sub hu

def says (p : It) : List Tok := saysV p.1 p.2
def blank (p : It) : Bool := !p.1.dir && decide (((bareFrom false p.2).length : Int) = 0)
abbrev sDefine : ByteArray := ⟨#[100, 101, 102, 105, 110, 101]⟩
def relR (keep : Bool) (p q : It) : Bool := decide (p.1.dir = q.1.dir) && (decide (p.1.name = q.1.name) && eqToks (keep || (p.1.dir && decide (p.1.name = sDefine))) (says p) (says q))

def all2 {α β : Type} (f : α → β → Bool) : List α → List β → Bool
  | a :: x, b :: y => f a b && all2 f x y
  | [], [] => true
  | _, _ => false

def nb (I : List It) : List It := I.filter fun p => !blank p
def alikeV (keep : Bool) (I J : List It) : Bool := all2 (relR keep) (nb I) (nb J)

theorem nb_blank {p : It} {I : List It} (h : blank p = true) : nb (p :: I) = nb I := by simp [nb, h]
theorem nb_not {p : It} {I : List It} (h : blank p = false) : nb (p :: I) = p :: nb I := by simp [nb, h]

theorem blank_says (p : It) : blank p = (!p.1.dir && decide (((says p).length : Int) = 0)) := by
  unfold blank says saysV
  cases p.1.dir <;> simp

set_option maxRecDepth 100000 in
theorem alike_any (keep : Bool) (I J : List It) (x y : Value) (w : World) (hx : SlAt (im w) x (itY.d I)) (hy : SlAt (im w) y (itY.d J)) (hI : ItAt (im w) I) (hJ : ItAt (im w) J) (zI : ItSm I) (zJ : ItSm J)
    (hL : I.length ≤ 9223372036854775806) (hM : J.length ≤ 9223372036854775806) :
    Calls Try.prog 60 #[x, y, .bool keep] w (PureP w fun v _ => v = .bool (alikeV keep I J)) := by
  refine x_fun tt_ok Try.func60 rfl rfl [(x, itY.d I), (y, itY.d J)] 2 [.r 0, .r 1, .v (.bool keep)] rfl rfl rfl rfl (fun b hb => by simp at hb; rcases hb with rfl | rfl <;> assumption) ?_
  refine x_vc tt_ok ?_
  refine x_loop (σ := Int × Int) (fun (i, j) => ⟨[(14, .v (.int .i64 i)), (7, .v (.int .i64 j)), (13, .v (.int .i64 I.length)), (12, .r 0), (0, .r 0), (1, .r 1), (2, .v (.bool keep))], [], [(0, .sl (itY.d I)), (1, .sl (itY.d J))], 2⟩)
    (fun (i, j) _ => 0 ≤ i ∧ i ≤ I.length ∧ 0 ≤ j ∧ j ≤ J.length ∧ all2 (relR keep) (nb (I.drop i.toNat)) (nb (J.drop j.toNat)) = alikeV keep I J) (fun (i, _) => (I.length - i).toNat) (fun (_, _) => Nat.le_refl _) (0, 0) [] (.of rfl rfl rfl rfl rfl rfl)
    ⟨by omega, by omega, by omega, by omega, by simp [alikeV]⟩ ?_
  rintro ⟨i, j⟩ u hu ⟨g1, g2, g3, g4, g5⟩
  refine x_vc tt_ok ?_
  refine x_if (fun h => ?_) (fun h => ?_)
  · have h2 : i < I.length := of_decide_eq_true h
    rw [drop_at (d := it0) g1 h2] at g5
    repeat (refine And.intro ?_ ?_; first | omega | (simp [Lay.d] <;> omega))
    refine xl_callV (tokY.d (says (I.getD i.toNat it0))) rfl rfl rfl rfl fn26 rfl rfl (fun E w F hs => says_any (I.getD i.toNat it0).1 (I.getD i.toNat it0).2 w (((hI i.toNat (by omega)).le hu).imm hs.imm) (zI _)) (fun A c u2 hu2 hb1 => ?_)
    have hu3 := hu.trans hu2
    refine xl_go tt_ok ?_
    refine x_if (fun h3 => ?_) (fun h3 => ?_)
    · have h4 : blank (I.getD i.toNat it0) = true := (blank_says _).trans h3
      rw [nb_blank h4] at g5
      repeat (refine And.intro ?_ ?_; first | omega | (simp only [decide_eq_true_eq, decide_eq_false_iff_not]; simp only [Lay.d_n]; omega) | (simp [Lay.d] <;> omega))
      exact again (i + 1, j) [] (.of rfl rfl rfl rfl rfl rfl) ⟨by omega, by omega, g3, g4, g5⟩ (by simp only; omega)
    · have h4 : blank (I.getD i.toNat it0) = false := (blank_says _).trans h3
      rw [nb_not h4] at g5
      refine x_loop (σ := Int) (fun k => ⟨[(7, .v (.int .i64 k)), (9, .p 2 0), (10, .v (.slice A (tokY.d (says (I.getD i.toNat it0))).n c)), (14, .v (.int .i64 i)), (13, .v (.int .i64 I.length)), (12, .r 0), (0, .r 0), (1, .r 1), (2, .v (.bool keep))], [],
          [(2, .box 28 [.v (.bool (I.getD i.toNat it0).1.dir), .v (.string (I.getD i.toNat it0).1.name), .v (.slice (I.getD i.toNat it0).1.ta (I.getD i.toNat it0).1.tn (I.getD i.toNat it0).1.tc)]), (0, .sl (itY.d I)), (1, .sl (itY.d J))], 3⟩)
        (fun k _ => 0 ≤ k ∧ k ≤ J.length ∧ all2 (relR keep) ((I.getD i.toNat it0) :: nb (I.drop (i + 1).toNat)) (nb (J.drop k.toNat)) = alikeV keep I J) (fun k => (J.length - k).toNat) (fun _ => Nat.le_refl _) j [] (.of rfl rfl rfl rfl rfl rfl)
        ⟨g3, g4, g5⟩ ?_
      rintro k u4 hu4 ⟨k1, k2, k3⟩
      refine x_vc tt_ok ?_
      refine x_if (fun h5 => ?_) (fun h5 => ?_)
      · have h6 : k < J.length := of_decide_eq_true h5
        rw [drop_at (d := it0) k1 h6] at k3
        repeat (refine And.intro ?_ ?_; first | omega | (simp only [decide_eq_true_eq, decide_eq_false_iff_not]; simp only [Lay.d_n]; omega) | (simp [Lay.d] <;> omega))
        refine xl_callV (tokY.d (says (J.getD k.toNat it0))) rfl rfl rfl rfl fn26 rfl rfl (fun E w F hs => says_any (J.getD k.toNat it0).1 (J.getD k.toNat it0).2 w (((hJ k.toNat (by omega)).le (hu3.trans hu4)).imm hs.imm) (zJ _)) (fun A2 c2 u5 hu5 hb2 => ?_)
        refine xl_go tt_ok ?_
        repeat (refine And.intro ?_ ?_; first | omega | (simp only [decide_eq_true_eq, decide_eq_false_iff_not]; simp only [Lay.d_n]; omega) | (simp [Lay.d] <;> omega))
        refine x_if (fun h7 => ?_) (fun h7 => ?_)
        · have h8 : blank (J.getD k.toNat it0) = true := (blank_says _).trans h7
          rw [nb_blank h8] at k3
          repeat (refine And.intro ?_ ?_; first | omega | (simp only [decide_eq_true_eq, decide_eq_false_iff_not]; simp only [Lay.d_n]; omega) | (simp [Lay.d] <;> omega))
          exact again (k + 1) [] (.of rfl rfl rfl rfl rfl rfl) ⟨by omega, by omega, k3⟩ (by omega)
        · have h8 : blank (J.getD k.toNat it0) = false := (blank_says _).trans h7
          rw [nb_not h8] at k3
          simp only [all2, relR] at k3
          refine x_draw mix (by kernel_rfl) (xd_go tt_ok ?_)
          repeat (refine And.intro ?_ ?_; first | omega | (simp only [decide_eq_true_eq, decide_eq_false_iff_not]; simp only [Lay.d_n]; omega) | (simp [Lay.d] <;> omega))
          refine x_if (fun h9 => ?_) (fun h9 => ?_)
          · have h10 : (decide ((I.getD i.toNat it0).1.dir ≠ (J.getD k.toNat it0).1.dir) || decide ((I.getD i.toNat it0).1.name ≠ (J.getD k.toNat it0).1.name)) = true := h9
            rw [Bool.or_eq_true, decide_eq_true_eq, decide_eq_true_eq] at h10
            refine fin1 (fun _ _ => ?_)
            rw [← k3]
            rcases h10 with h10 | h10
            · rw [decide_eq_false h10]; rfl
            · rw [decide_eq_false h10]; simp [tupV, SV.den]
          · have h10 : (decide ((I.getD i.toNat it0).1.dir ≠ (J.getD k.toNat it0).1.dir) || decide ((I.getD i.toNat it0).1.name ≠ (J.getD k.toNat it0).1.name)) = false := h9
            rw [Bool.or_eq_false_iff, decide_eq_false_iff_not, decide_eq_false_iff_not, Classical.not_not, Classical.not_not] at h10
            rw [decide_eq_true h10.1, decide_eq_true h10.2, Bool.true_and, Bool.true_and] at k3
            repeat (refine And.intro ?_ ?_; first | omega | (simp only [decide_eq_true_eq, decide_eq_false_iff_not]; simp only [Lay.d_n]; omega) | (simp [Lay.d] <;> omega))
            have hl1 : (says (I.getD i.toNat it0)).length ≤ 9223372036854775807 := by
              have h11 := zI i.toNat
              have h12 := bareFrom_le false (I.getD i.toNat it0).2
              have : (says (I.getD i.toNat it0)).length ≤ (bareFrom false (I.getD i.toNat it0).2).length := by
                unfold says saysV
                split
                · rw [List.length_drop]; omega
                · exact Nat.le_refl _
              omega
            refine xl_call0 (.bool (eqToks (keep || ((I.getD i.toNat it0).1.dir && decide ((I.getD i.toNat it0).1.name = sDefine))) (says (I.getD i.toNat it0)) (says (J.getD k.toNat it0)))) rfl rfl rfl rfl fn123 rfl rfl
              (fun E w F hs => lsame_any _ _ _ _ _ w ((hb1.uncut.le (hu4.trans hu5)).imm hs.imm) (hb2.uncut.imm hs.imm) hl1) ?_
            refine xl_go tt_ok ?_
            refine x_if (fun h11 => ?_) (fun h11 => ?_)
            · rw [Bool.not_eq_true'] at h11
              refine fin1 (fun _ _ => ?_)
              rw [← k3, h11]; rfl
            · rw [Bool.not_eq_false'] at h11
              rw [h11, Bool.true_and] at k3
              repeat (refine And.intro ?_ ?_; first | omega | (simp only [decide_eq_true_eq, decide_eq_false_iff_not]; simp only [Lay.d_n]; omega) | (simp [Lay.d] <;> omega))
              exact again (i + 1, k + 1) [] (.of rfl rfl rfl rfl rfl rfl) ⟨by omega, by omega, by omega, by omega, k3⟩ (by simp only; omega)
      · have h6 : ¬ (k < (J.length : Int)) := of_decide_eq_false h5
        have e : J.drop k.toNat = [] := List.drop_eq_nil_of_le (by omega)
        rw [e] at k3
        refine fin1 (fun _ _ => ?_)
        rw [← k3]; rfl
  · have h2 : ¬ (i < (I.length : Int)) := of_decide_eq_false h
    have e : I.drop i.toNat = [] := List.drop_eq_nil_of_le (by omega)
    rw [e] at g5
    refine x_loop (σ := Int) (fun k => ⟨[(7, .v (.int .i64 k)), (0, .r 0), (1, .r 1)], [], [(0, .sl (itY.d I)), (1, .sl (itY.d J))], 2⟩)
      (fun k _ => 0 ≤ k ∧ k ≤ J.length ∧ all2 (relR keep) [] (nb (J.drop k.toNat)) = alikeV keep I J) (fun k => (J.length - k).toNat) (fun _ => Nat.le_refl _) j [] (.of rfl rfl rfl rfl rfl rfl)
      ⟨g3, g4, g5⟩ ?_
    rintro k u2 hu2 ⟨k1, k2, k3⟩
    refine x_vc tt_ok ?_
    refine x_if (fun h5 => ?_) (fun h5 => ?_)
    · have h6 : k < J.length := of_decide_eq_true h5
      rw [drop_at (d := it0) k1 h6] at k3
      repeat (refine And.intro ?_ ?_; first | omega | (simp only [decide_eq_true_eq, decide_eq_false_iff_not]; simp only [Lay.d_n]; omega) | (simp [Lay.d] <;> omega))
      refine xl_gcallN (tokY.d (says (J.getD k.toNat it0))) rfl rfl rfl rfl fn26 rfl rfl (fun _ E w F hs => says_any (J.getD k.toNat it0).1 (J.getD k.toNat it0).2 w (((hJ k.toNat (by omega)).le (hu.trans hu2)).imm hs.imm) (zJ _)) (fun A2 c2 u5 hu5 => ?_)
      refine xl_go tt_ok ?_
      have e : blank (J.getD k.toNat it0) = !((J.getD k.toNat it0).1.dir || decide (0 < ((says (J.getD k.toNat it0)).length : Int))) := by
        rw [blank_says, Bool.not_or]
        congr 1
        rcases Nat.eq_zero_or_pos (says (J.getD k.toNat it0)).length with h0 | h0
        · rw [decide_eq_true (by omega), decide_eq_false (by omega)]; rfl
        · rw [decide_eq_false (by omega), decide_eq_true (by omega)]; rfl
      refine x_if (fun h7 => ?_) (fun h7 => ?_)
      · have h8 : ((J.getD k.toNat it0).1.dir || decide (0 < ((says (J.getD k.toNat it0)).length : Int))) = true := h7
        rw [h8] at e
        rw [nb_not e] at k3
        refine fin1 (fun _ _ => ?_)
        rw [← k3]; rfl
      · have h8 : ((J.getD k.toNat it0).1.dir || decide (0 < ((says (J.getD k.toNat it0)).length : Int))) = false := h7
        rw [h8] at e
        rw [nb_blank e] at k3
        repeat (refine And.intro ?_ ?_; first | omega | (simp only [decide_eq_true_eq, decide_eq_false_iff_not]; simp only [Lay.d_n]; omega) | (simp [Lay.d] <;> omega))
        exact again (k + 1) [] (.of rfl rfl rfl rfl rfl rfl) ⟨by omega, by omega, k3⟩ (by omega)
    · have h6 : ¬ (k < (J.length : Int)) := of_decide_eq_false h5
      have e : J.drop k.toNat = [] := List.drop_eq_nil_of_le (by omega)
      rw [e] at k3
      refine fin1 (fun _ _ => ?_)
      rw [← k3]; rfl
end Go.Proofs.Ytdonomneofdhfaa
