/- LinesWhole: the plain law of a list's rows. -/
import Derived.Test.YtdonomneofdhfaaD1
namespace Go.Proofs.Ytdonomneofdhfaa
open Go.GV Go.RowKit

theorem pcs_flat (L : List Tok) : ∀ (r : List Tok) (f i : Nat), f ≤ i → i ≤ L.length → L.drop i = r → ((pcs f i r).map (lnOf L)).flatten = L.drop f
  | [], f, i, h, hi, e => by
    have h1 : L.length ≤ i := List.drop_eq_nil_iff.1 e
    have h2 : i = L.length := by omega
    subst h2
    simp only [pcs]
    split
    · simp [lnOf]
    · rename_i hn
      have : f = L.length := by omega
      subst this
      simp
  | t :: r, f, i, h, hi, e => by
    have h1 : i < L.length := by
      have := congrArg List.length e
      simp at this; omega
    have h2 : L.drop (i + 1) = r := by
      rw [← List.drop_drop, e]; rfl
    simp only [pcs]
    split
    · rw [List.map_cons, List.flatten_cons, pcs_flat L r (i + 1) (i + 1) (Nat.le_refl _) h1 h2]
      show (L.take (i + 1)).drop f ++ L.drop (i + 1) = L.drop f
      conv => rhs; rw [← List.take_append_drop (i + 1) L]
      rw [List.drop_append_of_le_length (by rw [List.length_take]; omega)]
    · exact pcs_flat L r f (i + 1) (by omega) h1 h2

theorem take_next {L : List Tok} {t : Tok} {r : List Tok} {f i : Nat} (h : f ≤ i) (e : L.drop i = t :: r) : (L.take (i + 1)).drop f = (L.take i).drop f ++ [t] := by
  have h1 : i < L.length := by
    have := congrArg List.length e
    simp at this; omega
  have h2 : L[i]? = some t := by
    have h3 := congrArg (fun l => l[0]?) e
    simp only [List.getElem?_drop, List.getElem?_cons_zero, Nat.add_zero] at h3
    exact h3
  rw [take_get h2, List.drop_append_of_le_length (by rw [List.length_take]; omega)]

def LineOk (l : List Tok) : Prop := l ≠ [] ∧ ∀ t ∈ l.dropLast, t.kind ≠ 9

theorem pcs_line (L : List Tok) : ∀ (r : List Tok) (f i : Nat), f ≤ i → i ≤ L.length → L.drop i = r → (∀ t ∈ (L.take i).drop f, t.kind ≠ 9) → ∀ p ∈ pcs f i r, LineOk (lnOf L p)
  | [], f, i, h, hi, e, hk, p, hp => by
    simp only [pcs] at hp
    split at hp
    · rename_i hf
      rw [List.mem_singleton.1 hp]
      refine ⟨fun hn => ?_, fun t ht => hk t (List.dropLast_subset _ ht)⟩
      have := congrArg List.length hn
      simp only [lnOf, List.length_drop, List.length_take, List.length_nil] at this
      omega
    · cases hp
  | t :: r, f, i, h, hi, e, hk, p, hp => by
    have h1 : i < L.length := by
      have := congrArg List.length e
      simp at this; omega
    have h2 : L.drop (i + 1) = r := by
      rw [← List.drop_drop, e]; rfl
    have h3 := take_next h e
    simp only [pcs] at hp
    split at hp
    · rcases List.mem_cons.1 hp with rfl | hp
      · show LineOk ((L.take (i + 1)).drop f)
        rw [h3]
        refine ⟨by simp, fun x hx => ?_⟩
        rw [List.dropLast_concat] at hx
        exact hk x hx
      · exact pcs_line L r (i + 1) (i + 1) (Nat.le_refl _) h1 h2 (by rw [List.drop_eq_nil_of_le (by rw [List.length_take]; omega)]; intro x hx; cases hx) p hp
    · rename_i hn
      refine pcs_line L r f (i + 1) (by omega) h1 h2 (fun x hx => ?_) p hp
      rw [h3] at hx
      rcases List.mem_append.1 hx with hx | hx
      · exact hk x hx
      · rw [List.mem_singleton.1 hx]; exact hn

theorem linesOf_flat (L : List Tok) : (linesOf L).flatten = L := pcs_flat L L 0 0 (Nat.le_refl _) (Nat.zero_le _) rfl
theorem linesOf_ok (L : List Tok) : ∀ l ∈ linesOf L, LineOk l := by
  intro l hl
  obtain ⟨p, hp, rfl⟩ := List.mem_map.1 hl
  exact pcs_line L L 0 0 (Nat.le_refl _) (Nat.zero_le _) rfl (by intro t ht; cases ht) p hp

theorem dirF_name : ∀ (m : Bool) (l : List Tok), (dirF m l).2 = false → (dirF m l).1 = ⟨#[]⟩
  | m, [], h => rfl
  | m, t :: r, h => by
    simp only [dirF] at h ⊢
    split at h
    · rename_i h1; rw [if_pos h1]; exact dirF_name m r h
    · rename_i h1; rw [if_neg h1]
      split at h
      · rename_i h2; rw [if_pos h2]
      · rename_i h2; rw [if_neg h2]
        split at h
        · rename_i h3; rw [if_pos h3]; exact dirF_name true r h
        · split at h <;> cases h

structure RowOk (r : RowT) : Prop where
  ne : r.ts ≠ []
  nm : r.dir = false → r.name = ⟨#[]⟩
  nl : r.dir = true → ∀ t ∈ r.ts.dropLast, t.kind ≠ 9

/-- what the rows so far keep -/
structure RGood (s : List RowT × Bool) : Prop where
  row : ∀ r ∈ s.1, RowOk r
  ap : ∀ i, i + 1 < s.1.length → (s.1.getD i rowT0).dir = true ∨ (s.1.getD (i + 1) rowT0).dir = true
  run : s.2 = true → ∃ a r, s.1 = a ++ [r] ∧ r.dir = false
  no : s.2 = false → s.1 = [] ∨ ∃ a r, s.1 = a ++ [r] ∧ r.dir = true

theorem getD_left {α : Type} {a b : List α} {i : Nat} {d : α} (h : i < a.length) : (a ++ b).getD i d = a.getD i d := by
  simp only [List.getD_eq_getElem?_getD, List.getElem?_append_left h]
theorem getD_last {α : Type} {a : List α} {x d : α} : (a ++ [x]).getD a.length d = x := by
  simp [List.getD_eq_getElem?_getD]

theorem addLine_good {s : List RowT × Bool} {line : List Tok} (h : RGood s) (hl : LineOk line) : RGood (addLine s line) ∧ ((addLine s line).1.map RowT.ts).flatten = (s.1.map RowT.ts).flatten ++ line := by
  obtain ⟨R, f⟩ := s
  unfold addLine
  split
  · rename_i hc
    simp only [Bool.and_eq_true, Bool.not_eq_true'] at hc
    obtain ⟨a, r, e, hr⟩ := h.run hc.2
    simp only at e
    subst e
    have hrow := h.row r (by simp)
    have e1 : (a ++ [r]).length - 1 = a.length := by simp
    simp only [e1, getD_last]
    have e2 : (a ++ [r]).set a.length { r with ts := r.ts ++ line } = a ++ [{ r with ts := r.ts ++ line }] := by
      rw [List.set_append_right _ _ (Nat.le_refl _), Nat.sub_self]; rfl
    rw [e2]
    refine ⟨⟨fun x hx => ?_, fun i hi => ?_, fun _ => ⟨a, _, rfl, hr⟩, fun hf => ?_⟩, ?_⟩
    · rcases List.mem_append.1 hx with hx | hx
      · exact h.row x (List.mem_append_left _ hx)
      · rw [List.mem_singleton.1 hx]
        refine ⟨fun hn => ?_, hrow.nm, fun hd => ?_⟩
        · exact hrow.ne (List.append_eq_nil_iff.1 hn).1
        · rw [hr] at hd; cases hd
    · have hi' : i + 1 < a.length + 1 := by simpa using hi
      have h1 := h.ap i (by simpa using hi)
      rcases Nat.lt_or_ge (i + 1) a.length with h2 | h2
      · simp only [getD_left h2, getD_left (show i < a.length by omega)] at h1 ⊢
        exact h1
      · have h3 : i + 1 = a.length := by omega
        simp only [h3, getD_last, getD_left (show i < a.length by omega)] at h1 ⊢
        exact h1
    · simp only at hf; rw [hc.2] at hf; cases hf
    · simp
  · rename_i hc
    refine ⟨⟨fun x hx => ?_, fun i hi => ?_, fun hf => ⟨R, _, rfl, by simpa using hf⟩, fun hf => .inr ⟨R, _, rfl, by simpa using hf⟩⟩, by simp⟩
    · rcases List.mem_append.1 hx with hx | hx
      · exact h.row x hx
      · rw [List.mem_singleton.1 hx]
        exact ⟨hl.1, fun hd => dirF_name false line hd, fun _ => hl.2⟩
    · have hi' : i + 1 < R.length + 1 := by simpa using hi
      rcases Nat.lt_or_ge (i + 1) R.length with h2 | h2
      · simp only [getD_left h2, getD_left (show i < R.length by omega)]
        exact h.ap i h2
      · have h3 : i + 1 = R.length := by omega
        simp only [h3, getD_last, getD_left (show i < R.length by omega)]
        cases hd : (dirF false line).2 with
        | true => exact .inr rfl
        | false =>
          cases hf : f with
          | true => rw [hd, hf] at hc; simp at hc
          | false =>
            rcases h.no hf with h4 | ⟨a, r, h4, h5⟩
            · simp only at h4; rw [h4] at h3; simp at h3
            · simp only at h4
              subst h4
              have h6 : i = a.length := by simpa using h3
              rw [h6, getD_last]; exact .inl h5

theorem fold_good : ∀ (ls : List (List Tok)) (s : List RowT × Bool), RGood s → (∀ l ∈ ls, LineOk l) → RGood (ls.foldl addLine s) ∧ ((ls.foldl addLine s).1.map RowT.ts).flatten = (s.1.map RowT.ts).flatten ++ ls.flatten
  | [], s, h, _ => ⟨h, by simp⟩
  | l :: ls, s, h, hl => by
    obtain ⟨h1, h2⟩ := addLine_good h (hl l (List.mem_cons_self ..))
    obtain ⟨h3, h4⟩ := fold_good ls (addLine s l) h1 (fun x hx => hl x (List.mem_cons_of_mem _ hx))
    refine ⟨h3, ?_⟩
    rw [List.foldl_cons, h4, h2, List.flatten_cons, List.append_assoc]

theorem rowsOf_good (L : List Tok) : (∀ r ∈ rowsOf L, RowOk r) ∧ (∀ i, i + 1 < (rowsOf L).length → ((rowsOf L).getD i rowT0).dir = true ∨ ((rowsOf L).getD (i + 1) rowT0).dir = true) ∧ ((rowsOf L).map RowT.ts).flatten = L := by
  obtain ⟨h1, h2⟩ := fold_good (linesOf L) ([], false) ⟨fun r hr => (by cases hr), fun i hi => (by simp at hi), fun h => (by cases h), fun _ => .inl rfl⟩ (linesOf_ok L)
  refine ⟨h1.row, h1.ap, ?_⟩
  unfold rowsOf
  rw [h2, linesOf_flat]; rfl
end Go.Proofs.Ytdonomneofdhfaa
