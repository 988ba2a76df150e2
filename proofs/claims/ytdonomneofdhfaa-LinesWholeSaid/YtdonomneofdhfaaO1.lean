/- What comes in: lists of tokens, rows. -/
import Derived.Test.YtdonomneofdhfaaL1
namespace Go.Proofs.Ytdonomneofdhfaa
open Go.GV Go.RowKit

section
variable {H : Type} {enc : TypeId × Value → H} {w : World}

def tokAt (u : Im) (x : Value) (i : Int) : Tok := ⟨vInt (cellAt u x 5 i 0), vStr (cellAt u x 5 i 1), vInt (cellAt u x 5 i 2), vInt (cellAt u x 5 i 3), vBool (cellAt u x 5 i 4)⟩
def toksAt (u : Im) (x : Value) : List Tok := (List.range (vN x)).map fun i : Nat => tokAt u x i

theorem toksAt_getD (u : Im) (x : Value) {i : Nat} (h : i < vN x) : (toksAt u x).getD i tok0 = tokAt u x i := by
  rw [List.getD_eq_getElem?_getD]
  simp [toksAt, h]

theorem open_toks {x : Value} (h : Tr enc Try.prog w 22 [x]) : SlAt (im w) x (tokY.d (toksAt (im w) x)) := by
  obtain ⟨A, n, c, h1, h2, h3, h4⟩ := h.slice Try.underlying22 (by kernel_rfl : _ = 5)
  have hn : vN x = n := by rw [h1]; rfl
  refine h3.ext (by simp [dataAt, Lay.d, toksAt, hn]) rfl fun i hi j f f' hf hf' => ?_
  have hi' : i < n := hi
  obtain ⟨_, hc⟩ := (h4 i (by omega) (by omega)).strct Try.underlying31 (by kernel_rfl)
  have hg := toksAt_getD (im w) x (i := i) (by omega)
  obtain ⟨k0, e0, _⟩ := (hc 0 _ _ rfl rfl).int Try.underlying3
  obtain ⟨k1, e1, _⟩ := (hc 1 _ _ rfl rfl).str Try.underlying9
  obtain ⟨k2, e2, _⟩ := (hc 2 _ _ rfl rfl).int Try.underlying3
  obtain ⟨k3, e3, _⟩ := (hc 3 _ _ rfl rfl).int Try.underlying3
  obtain ⟨k4, e4⟩ := (hc 4 _ _ rfl rfl).bool Try.underlying4
  simp only [List.cons.injEq, and_true] at e0 e1 e2 e3 e4
  have hg' : (toksAt (im w) x).getD (i : Int).toNat tok0 = tokAt (im w) x i := hg
  match j, hf, hf' with
  | 0, hf, hf' =>
    cases hf; cases hf'
    show cellAt (im w) x 5 i 0 = .int .i64 ((toksAt (im w) x).getD (i : Int).toNat tok0).kind
    rw [hg']; simp only [tokAt, e0, vInt]
  | 1, hf, hf' =>
    cases hf; cases hf'
    show cellAt (im w) x 5 i 1 = .string ((toksAt (im w) x).getD (i : Int).toNat tok0).text
    rw [hg']; simp only [tokAt, e1, vStr]
  | 2, hf, hf' =>
    cases hf; cases hf'
    show cellAt (im w) x 5 i 2 = .int .i64 ((toksAt (im w) x).getD (i : Int).toNat tok0).lo
    rw [hg']; simp only [tokAt, e2, vInt]
  | 3, hf, hf' =>
    cases hf; cases hf'
    show cellAt (im w) x 5 i 3 = .int .i64 ((toksAt (im w) x).getD (i : Int).toNat tok0).hi
    rw [hg']; simp only [tokAt, e3, vInt]
  | 4, hf, hf' =>
    cases hf; cases hf'
    show cellAt (im w) x 5 i 4 = .bool ((toksAt (im w) x).getD (i : Int).toNat tok0).space
    rw [hg']; simp only [tokAt, e4, vBool]
  | j + 5, hf, hf' => simp [Lay.d] at hf'


theorem toksAt_length (u : Im) (x : Value) : (toksAt u x).length = vN x := by simp [toksAt]

def rowAt (u : Im) (x : Value) (i : Int) : RowV :=
  ⟨vBool (cellAt u x 3 i 0), vStr (cellAt u x 3 i 1), vA (cellAt u x 3 i 2), vN (cellAt u x 3 i 2), vC (cellAt u x 3 i 2)⟩
def rowsAt (u : Im) (x : Value) : List RowV := (List.range (vN x)).map fun i : Nat => rowAt u x i
def rowToksAt (u : Im) (x : Value) : List (List Tok) := (List.range (vN x)).map fun i : Nat => toksAt u (cellAt u x 3 i 2)

theorem rowsAt_length (u : Im) (x : Value) : (rowsAt u x).length = vN x := by simp [rowsAt]
theorem rowsAt_getD (u : Im) (x : Value) {i : Nat} (h : i < vN x) : (rowsAt u x).getD i row0 = rowAt u x i := by
  rw [List.getD_eq_getElem?_getD]
  simp [rowsAt, h]
theorem rowToksAt_getD (u : Im) (x : Value) {i : Nat} (h : i < vN x) : (rowToksAt u x).getD i [] = toksAt u (cellAt u x 3 i 2) := by
  rw [List.getD_eq_getElem?_getD]
  simp [rowToksAt, h]

theorem open_toksZ {x : Value} (h : TrZ enc Try.prog w 22 [x]) : ∃ A n c, x = .slice A n c ∧ SlAt (im w) x (tokY.d (toksAt (im w) x)) ∧ n * 48 ≤ 140737488355328 := by
  obtain ⟨A, n, c, h1, _, h2, _, _⟩ := h.slice Try.underlying22 (by kernel_rfl : _ = 5)
  have hb : Try.prog.bytesOf 31 = 48 := by kernel_rfl
  rw [hb] at h2
  exact ⟨A, n, c, h1, open_toks h.tr, h2⟩

theorem open_rows {x : Value} (h : TrZ enc Try.prog w 23 [x]) : SlAt (im w) x (rowY.d (rowsAt (im w) x)) ∧ ToksAt (im w) (rowsAt (im w) x) (rowToksAt (im w) x) ∧
    (rowsAt (im w) x).length * 48 ≤ 140737488355328 ∧ ∀ i : Nat, ((rowToksAt (im w) x).getD i []).length * 48 ≤ 140737488355328 := by
  obtain ⟨A, n, c, h1, h2, hz, h3, h4⟩ := h.slice Try.underlying23 (by kernel_rfl : _ = 3)
  have hn : vN x = n := by rw [h1]; rfl
  have cell : ∀ i : Nat, i < n → (∃ b, cellAt (im w) x 3 i 0 = .bool b) ∧ (∃ s, cellAt (im w) x 3 i 1 = .string s) ∧ TrZ enc Try.prog w 22 [cellAt (im w) x 3 i 2] := by
    intro i hi
    obtain ⟨_, hc⟩ := (h4 i (by omega) (by omega)).strct Try.underlying28 (by kernel_rfl)
    obtain ⟨k0, e0⟩ := (hc 0 _ _ rfl rfl).tr.bool Try.underlying4
    obtain ⟨k1, e1, _⟩ := (hc 1 _ _ rfl rfl).tr.str Try.underlying9
    exact ⟨⟨k0, by simpa using e0⟩, ⟨k1, by simpa using e1⟩, hc 2 _ _ rfl rfl⟩
  have htok : ∀ i : Nat, i < n → (rowAt (im w) x i).toks = cellAt (im w) x 3 i 2 := fun i hi => by
    obtain ⟨_, _, hp⟩ := cell i hi
    obtain ⟨A', n', c', e, _⟩ := open_toksZ hp
    simp only [RowV.toks, rowAt, e, vA, vN, vC]
  refine ⟨?_, ⟨by simp [rowsAt, rowToksAt], fun i hi => ?_⟩, ?_, fun i => ?_⟩
  · refine h3.ext (by simp [dataAt, Lay.d, rowsAt, hn]) rfl fun i hi j f f' hf hf' => ?_
    have hi' : i < n := hi
    have hg : (rowsAt (im w) x).getD (i : Int).toNat row0 = rowAt (im w) x i := rowsAt_getD (im w) x (i := i) (by omega)
    obtain ⟨⟨b, hb⟩, ⟨s, hs⟩, hp⟩ := cell i hi'
    match j, hf, hf' with
    | 0, hf, hf' =>
      cases hf; cases hf'
      show cellAt (im w) x 3 i 0 = .bool ((rowsAt (im w) x).getD (i : Int).toNat row0).dir
      rw [hg]; simp only [rowAt, hb, vBool]
    | 1, hf, hf' =>
      cases hf; cases hf'
      show cellAt (im w) x 3 i 1 = .string ((rowsAt (im w) x).getD (i : Int).toNat row0).name
      rw [hg]; simp only [rowAt, hs, vStr]
    | 2, hf, hf' =>
      cases hf; cases hf'
      show cellAt (im w) x 3 i 2 = ((rowsAt (im w) x).getD (i : Int).toNat row0).toks
      rw [hg, htok i hi']
    | j + 3, hf, hf' => simp [Lay.d] at hf'
  · rw [rowsAt_length, hn] at hi
    rw [rowsAt_getD _ _ (by omega), rowToksAt_getD _ _ (by omega), htok i hi]
    obtain ⟨_, _, hp⟩ := cell i hi
    obtain ⟨A', n', c', e, e2, _⟩ := open_toksZ hp
    exact e2
  · rw [rowsAt_length, hn]
    have hb : Try.prog.bytesOf 28 = 48 := by kernel_rfl
    rw [hb] at hz
    exact hz
  · rcases Nat.lt_or_ge i n with hi | hi
    · obtain ⟨_, _, hp⟩ := cell i hi
      obtain ⟨A', n', c', e, e2, e3⟩ := open_toksZ hp
      rw [rowToksAt_getD _ _ (by omega), toksAt_length, e]
      exact e3
    · have : (rowToksAt (im w) x).getD i [] = [] := by
        rw [List.getD_eq_getElem?_getD, List.getElem?_eq_none (by simp [rowToksAt]; omega)]; rfl
      rw [this]; simp
end
end Go.Proofs.Ytdonomneofdhfaa
