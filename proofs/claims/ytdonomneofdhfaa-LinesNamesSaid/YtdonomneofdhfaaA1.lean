/- What a row says: both programs' answers. -/
import Derived.Test.YtdonomneofdhfaaL5
namespace Go.Proofs.Ytdonomneofdhfaa
open Go.GV Go.RowKit

def saysV (r : RowV) (t : List Tok) : List Tok :=
  if r.dir = true then (bareFrom false t).drop (if r.name = ⟨#[]⟩ then 1 else 2) else bareFrom false t

theorem pureSl {w : World} {e : TypeId} {D : GV.Data} {E : Ending} {w' : World} (h : PureP w (fun v u => OwnAt u v e D) E w') : PureP w (fun v u => SlAt u v D) E w' := by
  obtain ⟨v, h1, h2, h3⟩ := h
  exact ⟨v, h1, h2, h3.slAt⟩

theorem bare_sl (L : List Tok) (x : Value) (w : World) (hx : SlAt (im w) x (tokY.d L)) (hL : L.length * 48 ≤ 140737488355328) :
    Calls Try.prog 46 #[x] w (PureP w fun v u => SlAt u v (tokY.d (bareFrom false L))) := (bare_any L x w hx hL).mono fun _ _ => pureSl
theorem refBare_sl (L : List Tok) (x : Value) (w : World) (hx : SlAt (im w) x (tokY.d L)) (hL : L.length * 48 ≤ 140737488355328) :
    Calls Try.prog 86 #[x] w (PureP w fun v u => SlAt u v (tokY.d (bareFrom false L))) := (refBare_any L x w hx hL).mono fun _ _ => pureSl

set_option maxRecDepth 100000 in
theorem clone_any (L : List Tok) (x : Value) (w : World) (hx : SlAt (im w) x (tokY.d L)) (hL : L.length * 48 ≤ 140737488355328) :
    Calls Try.prog 85 #[x] w (PureP w fun v u => SlAt u v (tokY.d L)) := by
  refine x_fun tt_ok Try.func85 rfl rfl [(x, tokY.d L)] 1 [.r 0] rfl rfl rfl rfl (fun b hb => by simp at hb; subst hb; exact hx) ?_
  refine x_vc tt_ok ?_
  refine xl_eqnil tt_ok rfl rfl rfl rfl rfl rfl rfl (fun E w F hs => hs.slAt (k := 0) rfl) (fun b hb => ?_)
  refine xl_go tt_ok ?_
  refine x_if (fun h => ?_) (fun h => ?_)
  · have h0 : L = [] := List.eq_nil_of_length_eq_zero (hb h)
    subst h0
    exact finP fun _ _ _ hs _ => ⟨none, 0, rfl, Nat.le_refl _, by decide, fun hn => absurd hn (Nat.lt_irrefl 0)⟩
  · refine xl_empty tt_ok tokY rfl rfl rfl rfl rfl rfl rfl ?_
    refine xl_go tt_ok ?_
    refine xl_append tt_ok tokY [] L 48 rfl rfl rfl rfl rfl rfl rfl rfl (by kernel_rfl) rfl rfl rfl (fun E w F hs => hs.slAt (k := 0) rfl) tokOne rfl (by simp; omega) (by simp; omega) ?_
    refine xl_go tt_ok ?_
    exact finP fun E w' F hs hu' => (hs.rowOwn (k := 2) (D := tokY.d L) rfl hu').slAt

set_option maxRecDepth 100000 in
theorem says_any (r : RowV) (t : List Tok) (w : World) (hx : SlAt (im w) r.toks (tokY.d t)) (hL : t.length * 48 ≤ 140737488355328) :
    Calls Try.prog 26 #[.agg #[.bool r.dir, .string r.name, .slice r.ta r.tn r.tc]] w (PureP w fun v u => SlAt u v (tokY.d (saysV r t))) := by
  have hb := bareFrom_le false t
  refine x_fun tt_ok Try.func26 rfl rfl [] 0 [.v (.agg #[.bool r.dir, .string r.name, .slice r.ta r.tn r.tc])] rfl rfl rfl rfl (fun b hb => by cases hb) ?_
  refine x_vc tt_ok ?_
  refine xl_callV (tokY.d (bareFrom false t)) rfl rfl rfl rfl fn46 rfl rfl (fun E w F hs => bare_sl t _ w (hx.imm hs.imm) hL) (fun A c u hu hb1 => ?_)
  refine xl_go tt_ok ?_
  refine x_if (fun h => ?_) (fun h => ?_)
  · have h' : r.dir = false := by simpa using h
    have e : saysV r t = bareFrom false t := by simp [saysV, h']
    rw [e]
    exact finS hb1
  · have h' : r.dir = true := by simpa using h
    have key : ∀ k : Nat, (k = if r.name = ⟨#[]⟩ then 1 else 2) → saysV r t = (bareFrom false t).drop (if ((bareFrom false t).length : Int) < (k : Int) then ((bareFrom false t).length : Int) else (k : Int)).toNat := by
      intro k hk
      simp only [saysV, h', if_true, ← hk]
      split
      · rw [List.drop_eq_nil_of_le (by omega), List.drop_eq_nil_of_le (by omega)]
      · rfl
    refine x_if (fun h2 => ?_) (fun h2 => ?_)
    · have h2' : ¬ r.name = ⟨#[]⟩ := of_decide_eq_true h2
      have e := key 2 (by rw [if_neg h2'])
      refine xl_min rfl rfl rfl rfl rfl rfl ?_
      refine xl_go tt_ok ?_
      refine xl_from tt_ok tokY (bareFrom false t) rfl rfl rfl rfl rfl rfl rfl rfl rfl rfl (fun E w F hs => hb1) ?_ ?_ (fun A2 c2 hb2 => ?_)
      · show (0 : Int) ≤ if ((bareFrom false t).length : Int) < 2 then ((bareFrom false t).length : Int) else 2
        split <;> omega
      · show (if ((bareFrom false t).length : Int) < 2 then ((bareFrom false t).length : Int) else 2) ≤ ((bareFrom false t).length : Int)
        split <;> omega
      refine xl_go tt_ok ?_
      refine xl_callV (tokY.d (saysV r t)) rfl rfl rfl rfl fn85 rfl rfl (fun E w F hs => by rw [e]; exact clone_any _ _ w (hb2.uncut.imm hs.imm) (by rw [List.length_drop]; omega)) (fun A3 c3 u3 hu3 hb3 => ?_)
      refine xl_go tt_ok ?_
      exact finS (by rw [hu.lo] at hb3; exact hb3)
    · have h2' : r.name = ⟨#[]⟩ := by
        have : ¬ ¬ r.name = ⟨#[]⟩ := of_decide_eq_false h2
        exact Classical.not_not.1 this
      have e := key 1 (by rw [if_pos h2'])
      refine xl_min rfl rfl rfl rfl rfl rfl ?_
      refine xl_go tt_ok ?_
      refine xl_from tt_ok tokY (bareFrom false t) rfl rfl rfl rfl rfl rfl rfl rfl rfl rfl (fun E w F hs => hb1) ?_ ?_ (fun A2 c2 hb2 => ?_)
      · show (0 : Int) ≤ if ((bareFrom false t).length : Int) < 1 then ((bareFrom false t).length : Int) else 1
        split <;> omega
      · show (if ((bareFrom false t).length : Int) < 1 then ((bareFrom false t).length : Int) else 1) ≤ ((bareFrom false t).length : Int)
        split <;> omega
      refine xl_go tt_ok ?_
      refine xl_callV (tokY.d (saysV r t)) rfl rfl rfl rfl fn85 rfl rfl (fun E w F hs => by rw [e]; exact clone_any _ _ w (hb2.uncut.imm hs.imm) (by rw [List.length_drop]; omega)) (fun A3 c3 u3 hu3 hb3 => ?_)
      refine xl_go tt_ok ?_
      exact finS (by rw [hu.lo] at hb3; exact hb3)

set_option maxRecDepth 100000 in
theorem refSays_any (r : RowV) (t : List Tok) (w : World) (hx : SlAt (im w) r.toks (tokY.d t)) (hL : t.length * 48 ≤ 140737488355328) :
    Calls Try.prog 27 #[.agg #[.bool r.dir, .string r.name, .slice r.ta r.tn r.tc]] w (PureP w fun v u => SlAt u v (tokY.d (saysV r t))) := by
  have hb := bareFrom_le false t
  refine x_fun tt_ok Try.func27 rfl rfl [] 0 [.v (.agg #[.bool r.dir, .string r.name, .slice r.ta r.tn r.tc])] rfl rfl rfl rfl (fun b hb => by cases hb) ?_
  refine x_vc tt_ok ?_
  refine xl_callV (tokY.d (bareFrom false t)) rfl rfl rfl rfl fn86 rfl rfl (fun E w F hs => refBare_sl t _ w (hx.imm hs.imm) hL) (fun A c u hu hb1 => ?_)
  refine xl_go tt_ok ?_
  generalize hB : bareFrom false t = B at hb1 hb ⊢
  refine x_if (fun h => ?_) (fun h => ?_)
  · have h1 : (r.dir && decide (0 < (B.length : Int))) = true := h
    rw [Bool.and_eq_true, decide_eq_true_eq] at h1
    refine xl_from tt_ok tokY B rfl rfl rfl rfl rfl rfl rfl rfl rfl rfl (fun E w F hs => hb1) (by omega) (by omega) (fun A2 c2 hb2 => ?_)
    refine xl_go tt_ok ?_
    refine x_if (fun h2 => ?_) (fun h2 => ?_)
    · have h3 : (decide (0 < (r.name.size : Int)) && decide (0 < ((B.length - (1 : Int).toNat : Nat) : Int))) = true := h2
      rw [Bool.and_eq_true, decide_eq_true_eq, decide_eq_true_eq] at h3
      refine xl_from tt_ok tokY (B.drop 1) rfl rfl rfl rfl rfl rfl rfl rfl rfl rfl (fun E w F hs => hb2) (by omega) (by simp; omega) (fun A3 c3 hb3 => ?_)
      refine xl_go tt_ok ?_
      have e : saysV r t = (B.drop 1).drop (1 : Int).toNat := by
        have hn : ¬ r.name = ⟨#[]⟩ := fun hn => by
          rw [hn] at h3
          have h0 : (⟨#[]⟩ : ByteArray).size = 0 := rfl
          omega
        simp [saysV, h1.1, hB, hn]
      rw [e]
      exact finS hb3
    · have h3 : (decide (0 < (r.name.size : Int)) && decide (0 < ((B.length - (1 : Int).toNat : Nat) : Int))) = false := h2
      have e : saysV r t = B.drop (1 : Int).toNat := by
        rw [Bool.and_eq_false_iff, decide_eq_false_iff_not, decide_eq_false_iff_not] at h3
        simp only [saysV, h1.1, hB, if_true]
        rcases h3 with h3 | h3
        · have hn : r.name = ⟨#[]⟩ := by
            have : r.name.size = 0 := by omega
            exact ByteArray.size_eq_zero_iff.1 this
          rw [if_pos hn]; rfl
        · split
          · rfl
          · rw [List.drop_eq_nil_of_le (by omega), List.drop_eq_nil_of_le (by omega)]
      rw [e]
      exact finS hb2
  · have h1 : (r.dir && decide (0 < (B.length : Int))) = false := h
    have e : saysV r t = B := by
      rw [Bool.and_eq_false_iff, decide_eq_false_iff_not] at h1
      simp only [saysV, hB]
      rcases h1 with h1 | h1
      · rw [h1]; rfl
      · have : B = [] := List.eq_nil_of_length_eq_zero (by omega)
        subst this; simp
    rw [e]
    exact finS hb1

def tokEqB (s : Bool) (a b : Tok) : Bool := decide (a.kind = b.kind) && (decide (a.text = b.text) && (decide ((s && a.space) = (s && b.space)) && true))
def eqFrom (sp : Bool) : Bool → List Tok → List Tok → Bool
  | first, a :: x, b :: y => tokEqB (sp && !first) a b && eqFrom sp false x y
  | _, [], [] => true
  | _, _, _ => false
def eqToks (sp : Bool) (L M : List Tok) : Bool := eqFrom sp true L M

theorem eqFrom_len (sp : Bool) : ∀ (f : Bool) (L M : List Tok), L.length ≠ M.length → eqFrom sp f L M = false
  | _, [], [], h => absurd rfl h
  | _, [], _ :: _, _ => rfl
  | _, _ :: _, [], _ => rfl
  | f, a :: x, b :: y, h => by
    simp only [eqFrom]
    rw [eqFrom_len sp false x y (fun e => h (by simp [e])), Bool.and_false]

set_option maxRecDepth 100000 in
theorem lsame_any (sp : Bool) (L M : List Tok) (x y : Value) (w : World) (hx : SlAt (im w) x (tokY.d L)) (hy : SlAt (im w) y (tokY.d M)) (hL : L.length ≤ 9223372036854775807) :
    Calls Try.prog 123 #[x, y, .bool sp] w (PureP w fun v _ => v = .bool (eqToks sp L M)) := by
  refine x_fun tt_ok Try.func123 rfl rfl [(x, tokY.d L), (y, tokY.d M)] 2 [.r 0, .r 1, .v (.bool sp)] rfl rfl rfl rfl (fun b hb => by simp at hb; rcases hb with rfl | rfl <;> assumption) ?_
  refine x_vc tt_ok ?_
  refine x_if (fun h => ?_) (fun h => ?_)
  · refine fin1 (fun _ _ => ?_)
    have h' : ¬ ((L.length : Int) = M.length) := of_decide_eq_true h
    rw [eqToks, eqFrom_len _ _ _ _ (by omega)]; rfl
  · have h' : ¬ ¬ ((L.length : Int) = M.length) := of_decide_eq_false h
    have hl : L.length = M.length := by omega
    refine x_loop (σ := Int) (fun i => ⟨[(17, .v (.int .i64 i)), (16, .v (.int .i64 L.length)), (15, .r 0), (0, .r 0), (1, .r 1), (2, .v (.bool sp))], [], [(0, .sl (tokY.d L)), (1, .sl (tokY.d M))], 2⟩)
      (fun i _ => 0 ≤ i ∧ i ≤ L.length ∧ eqFrom sp (!decide (0 < i)) (L.drop i.toNat) (M.drop i.toNat) = eqToks sp L M) (fun i => (L.length - i).toNat) (fun _ => Nat.le_refl _) 0 [] (.of rfl rfl rfl rfl rfl rfl) ⟨by omega, by omega, by simp [eqToks]⟩ ?_
    rintro i u hu ⟨g1, g2, g3⟩
    refine x_vc tt_ok ?_
    refine x_if (fun h => ?_) (fun h => ?_)
    · have h2 : i < L.length := of_decide_eq_true h
      rw [drop_at (d := tok0) g1 h2, drop_at (d := tok0) g1 (by omega : i < M.length)] at g3
      simp only [eqFrom] at g3
      repeat (refine And.intro ?_ ?_; first | omega | (simp [Lay.d] <;> omega))
      refine x_draw mix (by kernel_rfl) (xd_go tt_ok ?_)
      repeat (refine And.intro ?_ ?_; first | omega | (simp only [decide_eq_true_eq, decide_eq_false_iff_not]; simp only [Lay.d_n]; omega) | (simp [Lay.d] <;> omega))
      have e : tokEqB (sp && !!decide (0 < i)) (L.getD i.toNat tok0) (M.getD i.toNat tok0) =
          (decide ((L.getD i.toNat tok0).kind = (M.getD i.toNat tok0).kind) && (decide ((L.getD i.toNat tok0).text = (M.getD i.toNat tok0).text) &&
            (decide ((sp && decide (0 < i) && (L.getD i.toNat tok0).space) = (sp && decide (0 < i) && (M.getD i.toNat tok0).space)) && true))) := by
        rw [Bool.not_not]; rfl
      rw [e] at g3
      refine x_if (fun h3 => ?_) (fun h3 => ?_)
      · rw [Bool.not_eq_true'] at h3
        refine fin1 (fun _ _ => ?_)
        rw [← g3]
        have h4 := h3
        show Value.bool false = _
        rw [show (decide ((L.getD i.toNat tok0).kind = (M.getD i.toNat tok0).kind) && (decide ((L.getD i.toNat tok0).text = (M.getD i.toNat tok0).text) &&
            (decide ((sp && decide (0 < i) && (L.getD i.toNat tok0).space) = (sp && decide (0 < i) && (M.getD i.toNat tok0).space)) && true))) = false from h3]
        rfl
      · rw [Bool.not_eq_false'] at h3
        rw [show (decide ((L.getD i.toNat tok0).kind = (M.getD i.toNat tok0).kind) && (decide ((L.getD i.toNat tok0).text = (M.getD i.toNat tok0).text) &&
            (decide ((sp && decide (0 < i) && (L.getD i.toNat tok0).space) = (sp && decide (0 < i) && (M.getD i.toNat tok0).space)) && true))) = true from h3, Bool.true_and] at g3
        repeat (refine And.intro ?_ ?_; first | omega | (simp [Lay.d] <;> omega))
        refine again (i + 1) [] (.of rfl rfl rfl rfl rfl rfl) ⟨by omega, by omega, ?_⟩ (by omega)
        rw [show (!decide (0 < i + 1)) = false by simp; omega]
        exact g3
    · have h2 : i = L.length := by
        have h3 : ¬ (i < (L.length : Int)) := of_decide_eq_false h
        omega
      refine fin1 (fun _ _ => ?_)
      rw [List.drop_eq_nil_of_le (by omega), List.drop_eq_nil_of_le (by omega)] at g3
      simp only [eqFrom] at g3
      rw [← g3]; rfl
end Go.Proofs.Ytdonomneofdhfaa
