/- The lines of a list of tokens, and which of them are directives. -/
import Derived.Test.YtdonomneofdhfaaA2
namespace Go.Proofs.Ytdonomneofdhfaa
open Go.GV Go.RowKit

def noHash (t : Tok) : Bool := decide (t.kind ≠ 5) || (decide (t.text ≠ ⟨#[35]⟩) && decide (t.text ≠ ⟨#[37, 58]⟩))
/-- a directive's name, and whether a line is one -/
def dirF : Bool → List Tok → ByteArray × Bool
  | m, [] => (⟨#[]⟩, m)
  | m, t :: r => if gone t then dirF m r else if !m && noHash t then (⟨#[]⟩, false) else if !m then dirF true r
    else if t.kind = 1 then (t.text, true) else (⟨#[]⟩, true)

set_option maxRecDepth 100000 in
theorem directive_any (L : List Tok) (x : Value) (w : World) (hx : SlAt (im w) x (tokY.d L)) (hL : L.length ≤ 9223372036854775807) :
    Calls Try.prog 84 #[x] w (PureP w fun v _ => v = .tuple #[.string (dirF false L).1, .bool (dirF false L).2]) := by
  refine x_fun tt_ok Try.func84 rfl rfl [(x, tokY.d L)] 1 [.r 0] rfl rfl rfl rfl (fun b hb => by simp at hb; subst hb; exact hx) ?_
  refine x_vc tt_ok ?_
  refine x_loop (σ := Int × Bool) (fun (i, m) => ⟨[(9, .v (.int .i64 i)), (8, .v (.int .i64 L.length)), (7, .r 0), (4, .v (.bool m))], [], [(0, .sl (tokY.d L))], 1⟩)
    (fun (i, m) _ => 0 ≤ i ∧ i ≤ L.length ∧ dirF m (L.drop i.toNat) = dirF false L) (fun (i, _) => (L.length - i).toNat) (fun (_, _) => Nat.le_refl _) (0, false) [] (.of rfl rfl rfl rfl rfl rfl)
    ⟨by omega, by omega, by simp⟩ ?_
  rintro ⟨i, m⟩ u hu ⟨g1, g2, g3⟩
  refine x_vc tt_ok ?_
  refine x_if (fun h => ?_) (fun h => ?_)
  · have h2 : i < L.length := of_decide_eq_true h
    rw [drop_at (d := tok0) g1 h2] at g3
    repeat (refine And.intro ?_ ?_; first | omega | (simp only [Lay.d_n]; omega))
    refine x_if (fun h3 => ?_) (fun h3 => ?_)
    · have h4 : gone (L.getD i.toNat tok0) = true := h3
      repeat (refine And.intro ?_ ?_; first | omega | (simp only [Lay.d_n]; omega))
      refine again (i + 1, m) [] (.of rfl rfl rfl rfl rfl rfl) ⟨by omega, by omega, ?_⟩ (by simp only; omega)
      simpa only [dirF, h4, if_true] using g3
    · have h4 : gone (L.getD i.toNat tok0) = false := h3
      simp only [dirF, h4, Bool.false_eq_true, if_false] at g3
      refine x_if (fun h5 => ?_) (fun h5 => ?_)
      · have h6 : (!m && noHash (L.getD i.toNat tok0)) = true := h5
        rw [if_pos h6] at g3
        refine fin1 (fun _ _ => ?_)
        rw [← g3]; rfl
      · have h6 : (!m && noHash (L.getD i.toNat tok0)) = false := h5
        rw [if_neg (by rw [h6]; simp)] at g3
        refine x_if (fun h7 => ?_) (fun h7 => ?_)
        · rw [if_pos h7] at g3
          repeat (refine And.intro ?_ ?_; first | omega | (simp only [Lay.d_n]; omega))
          exact again (i + 1, true) [] (.of rfl rfl rfl rfl rfl rfl) ⟨by omega, by omega, g3⟩ (by simp only; omega)
        · rw [if_neg (by rw [h7]; simp)] at g3
          refine x_if (fun h8 => ?_) (fun h8 => ?_)
          · rw [if_pos (of_decide_eq_true h8)] at g3
            refine fin1 (fun _ _ => ?_)
            rw [← g3]; rfl
          · rw [if_neg (of_decide_eq_false h8)] at g3
            refine fin1 (fun _ _ => ?_)
            rw [← g3]; rfl
  · have h2 : ¬ (i < (L.length : Int)) := of_decide_eq_false h
    rw [List.drop_eq_nil_of_le (by omega)] at g3
    simp only [dirF] at g3
    refine fin1 (fun _ _ => ?_)
    rw [← g3]; rfl

/-- from where to where the lines are -/
def pcs : Nat → Nat → List Tok → List (Nat × Nat)
  | f, i, [] => if f < i then [(f, i)] else []
  | f, i, t :: r => if t.kind = 9 then (f, i + 1) :: pcs (i + 1) (i + 1) r else pcs f (i + 1) r

def pcV (A : Option Addr) (c : Nat) (p : Nat × Nat) : Value := partV 5 A c p.1 p.2

theorem pcs_mem : ∀ (L : List Tok) (f i : Nat) (p : Nat × Nat), f ≤ i → p ∈ pcs f i L → f ≤ p.1 ∧ p.1 < p.2 ∧ p.2 ≤ i + L.length
  | [], f, i, p, h, hp => by
    simp only [pcs] at hp
    split at hp
    · rw [List.mem_singleton.1 hp]; exact ⟨Nat.le_refl _, by assumption, Nat.le_refl _⟩
    · cases hp
  | t :: r, f, i, p, h, hp => by
    simp only [pcs] at hp
    split at hp
    · rcases List.mem_cons.1 hp with rfl | hp
      · exact ⟨Nat.le_refl _, by show f < i + 1; omega, by show i + 1 ≤ _; simp⟩
      · have := pcs_mem r (i + 1) (i + 1) p (Nat.le_refl _) hp
        simp only [List.length_cons]; omega
    · have := pcs_mem r f (i + 1) p (by omega) hp
      simp only [List.length_cons]; omega

theorem pcs_len : ∀ (L : List Tok) (f i : Nat), f ≤ i → (pcs f i L).length ≤ L.length + (i - f)
  | [], f, i, h => by
    simp only [pcs]
    split
    · simp; omega
    · simp
  | t :: r, f, i, h => by
    simp only [pcs]
    split
    · have := pcs_len r (i + 1) (i + 1) (Nat.le_refl _)
      simp only [List.length_cons]; omega
    · have := pcs_len r f (i + 1) (by omega)
      simp only [List.length_cons]; omega

set_option maxRecDepth 100000 in
theorem pieces_iter (L : List Tok) (A : Option Addr) (c : Nat) (b : Nat) (u0 : Im) (hb : u0.h b = some (.cells #[.slice A L.length c] 22 (0, 0))) (hx : SlAt u0 (.slice A L.length c) (tokY.d L)) (hL : L.length * 48 ≤ 140737488355328) :
    Iter Try.prog 128 #[.pointer (some ⟨b, 0, none⟩)] ((pcs 0 0 L).map (pcV A c)) u0 := by
  refine x_iter tt_ok Try.func128 rfl rfl [(.slice (some ⟨b, 0, none⟩) 1 1, ⟨1, [fun _ => .slice A L.length c]⟩)] [.e 1 1 0 0] (boxEnv b) (fun j x hj => ?_) rfl rfl (fun x hx => ?_) (fun x hx => ?_) (fun l Y Z u hu hR => ?_)
  · match j, hj with
    | 0, hj => cases hj; rfl
    | j + 1, hj => simp at hj
  · simp only [List.mem_singleton] at hx
    subst hx
    exact ⟨by simp, _, 1, 1, rfl, Int.le_refl _, by omega⟩
  · simp only [List.mem_singleton] at hx
    subst hx
    exact SlAt.box1 hb
  refine x_vc tt_ok ?_
  refine x_sl 6 rfl (hx.sub hu.sub) ?_
  refine x_loop (σ := Nat × Int × Int) (fun (k, f, i) => ⟨[(8, .v (.int .i64 i)), (7, .v (.int .i64 L.length)), (6, .r 2), (3, .v (.int .i64 f)), (1, .e 1 1 0 0), (0, .v (.func (.yield l) #[] #[]))], [], [(0, .gen (Y k).hp), (1, .sl ⟨1, [fun _ => .slice A L.length c]⟩), (2, .sl (tokY.d L))], 3⟩)
    (fun (k, f, i) _ => 0 ≤ f ∧ f ≤ i ∧ i ≤ L.length ∧ ∃ pre, pre.length = k ∧ pcs 0 0 L = pre ++ pcs f.toNat i.toNat (L.drop i.toNat)) (fun (_, _, i) => (L.length - i).toNat) (fun (_, _, _) => Nat.le_refl 3) (0, 0, 0) [] (.of rfl rfl rfl rfl rfl rfl)
    ⟨by omega, by omega, by omega, [], rfl, by simp⟩ ?_
  rintro ⟨k, f, i⟩ u2 hu2 ⟨g1, g2, g3, pre, g4, g5⟩
  have hcap : L.length ≤ c := by obtain ⟨A', c', q1, q2, _⟩ := hx; cases q1; exact q2
  refine x_vc tt_ok ?_
  refine x_if (fun h => ?_) (fun h => ?_)
  · have h2 : i < L.length := of_decide_eq_true h
    rw [drop_at (d := tok0) (by omega) h2] at g5
    simp only [pcs] at g5
    have ei : (i + 1).toNat = i.toNat + 1 := by omega
    rw [ei] at g5
    repeat (refine And.intro ?_ ?_; first | omega | (simp only [Lay.d_n]; omega))
    refine x_if (fun h3 => ?_) (fun h3 => ?_)
    · have h4 : ¬ (L.getD i.toNat tok0).kind = 9 := of_decide_eq_true h3
      rw [if_neg h4] at g5
      repeat (refine And.intro ?_ ?_; first | omega | (simp only [Lay.d_n]; omega))
      exact again (k, f, i + 1) [] (.of rfl rfl rfl rfl rfl rfl) ⟨by omega, by omega, by omega, pre, g4, by rw [ei]; exact g5⟩ (by simp only; omega)
    · have h4 : (L.getD i.toNat tok0).kind = 9 := Classical.not_not.1 (of_decide_eq_false h3)
      rw [if_pos h4] at g5
      repeat (refine And.intro ?_ ?_; first | omega | (simp only [Lay.d_n]; omega))
      refine xl_subE tt_ok rfl rfl rfl rfl rfl rfl rfl rfl rfl rfl (by omega) (by omega) (by omega) ?_
      refine xl_go tt_ok ?_
      have hx1 : ((pcs 0 0 L).map (pcV A c))[k]? = some (partV 5 A c f.toNat (i + 1).toNat) := by
        rw [List.getElem?_map, g5, List.getElem?_append_right (by omega), g4, Nat.sub_self, ei]; rfl
      refine xl_yield (kY := 0) rfl hR rfl rfl rfl rfl rfl rfl rfl rfl hx1 ?_ ?_
      · refine xl_go tt_ok ?_
        refine x_iff rfl ?_
        repeat (refine And.intro ?_ ?_; first | omega | (simp only [Lay.d_n]; omega))
        exact again (k + 1, i + 1, i + 1) [] (.of rfl rfl rfl rfl rfl rfl) ⟨by omega, by omega, by omega, pre ++ [(f.toNat, i.toNat + 1)], by rw [List.length_append, g4]; rfl, by rw [ei, g5, List.append_assoc]; rfl⟩ (by simp only; omega)
      · refine xl_go tt_ok ?_
        refine x_ift rfl ?_
        exact .inr rfl
  · have h2 : ¬ (i < (L.length : Int)) := of_decide_eq_false h
    rw [List.drop_eq_nil_of_le (by omega)] at g5
    have ei : i.toNat = L.length := by omega
    rw [ei] at g5
    simp only [pcs] at g5
    refine x_if (fun h3 => ?_) (fun h3 => ?_)
    · have h4 : f < (L.length : Int) := of_decide_eq_true h3
      rw [if_pos (by omega)] at g5
      refine xl_fromE tt_ok rfl rfl rfl rfl rfl rfl rfl rfl rfl (by omega) (by omega) ?_
      refine xl_go tt_ok ?_
      have hx1 : ((pcs 0 0 L).map (pcV A c))[k]? = some (partV 5 A c f.toNat L.length) := by
        rw [List.getElem?_map, g5, List.getElem?_append_right (by omega), g4, Nat.sub_self]; rfl
      have hk : ((pcs 0 0 L).map (pcV A c)).length = k + 1 := by rw [List.length_map, g5, List.length_append, g4]; rfl
      refine xl_yield (kY := 0) rfl hR rfl rfl rfl rfl rfl rfl rfl rfl hx1 ?_ ?_
      · refine xl_go tt_ok ?_
        exact .inl (by rw [hk]; rfl)
      · refine xl_go tt_ok ?_
        exact .inr rfl
    · have h4 : ¬ f < (L.length : Int) := of_decide_eq_false h3
      rw [if_neg (by omega), List.append_nil] at g5
      have hk : ((pcs 0 0 L).map (pcV A c)).length = k := by rw [List.length_map, g5, g4]
      exact .inl (by rw [hk]; rfl)
end Go.Proofs.Ytdonomneofdhfaa
