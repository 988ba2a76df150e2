/- Rows of tokens, and a copy of them in memory of its own. -/
import Derived.Test.YtdonomneofdhfaaB2

namespace Go.Proofs.Ytdonomneofdhfaa
open Go.GV Go.RowKit

theorem tokOne : ∀ x : Tok, ∀ y ∈ tokY.el x, oneB y = true := by
  intro x y hy
  simp [Lay.el] at hy
  rcases hy with rfl | rfl | rfl | rfl | rfl <;> rfl

structure RowV where
  dir : Bool
  name : ByteArray
  ta : Option Addr
  tn : Nat
  tc : Nat

def row0 : RowV := ⟨false, ⟨#[]⟩, none, 0, 0⟩
abbrev rowY : Lay RowV := ⟨[fun r => .bool r.dir, fun r => .string r.name, fun r => .slice r.ta r.tn r.tc], row0⟩
def RowV.toks (r : RowV) : Value := .slice r.ta r.tn r.tc
def RowV.key (r : RowV) : Bool × ByteArray := (r.dir, r.name)

/-- what the rows' tokens are -/
def ToksAt (u : Im) (L : List RowV) (T : List (List Tok)) : Prop := L.length = T.length ∧ ∀ i : Nat, i < L.length → SlAt u (L.getD i row0).toks (tokY.d (T.getD i []))

theorem ToksAt.sub {u u' : Im} {L : List RowV} {T : List (List Tok)} (h : ToksAt u L T) (hu : u.sub u') : ToksAt u' L T := ⟨h.1, fun i hi => (h.2 i hi).sub hu⟩

theorem ToksAt.push {u : Im} {L : List RowV} {T : List (List Tok)} {r : RowV} {t : List Tok} (h : ToksAt u L T) (hr : SlAt u r.toks (tokY.d t)) : ToksAt u (L ++ [r]) (T ++ [t]) := by
  refine ⟨by simp [h.1], fun i hi => ?_⟩
  simp only [List.length_append, List.length_cons, List.length_nil] at hi
  simp only [List.getD_eq_getElem?_getD]
  rcases Nat.lt_or_ge i L.length with hlt | hge
  · rw [List.getElem?_append_left hlt, List.getElem?_append_left (by rw [← h.1]; exact hlt)]
    have := h.2 i hlt
    simpa only [List.getD_eq_getElem?_getD] using this
  · have e : i = L.length := by omega
    have e2 : i = T.length := by rw [← h.1]; exact e
    rw [show (L ++ [r])[i]? = some r by subst e; simp, show (T ++ [t])[i]? = some t by subst e2; simp]
    exact hr

theorem take_succ_getD {α : Type} {L : List α} {i : Int} {d : α} (h0 : 0 ≤ i) (hl : i < L.length) : L.take (i + 1).toNat = L.take i.toNat ++ [L.getD i.toNat d] := by
  have e : (i + 1).toNat = i.toNat + 1 := by omega
  have h1 : i.toNat < L.length := by omega
  rw [e, List.take_succ_eq_append_getElem h1, List.getD_eq_getElem?_getD, List.getElem?_eq_getElem h1]
  rfl

end Go.Proofs.Ytdonomneofdhfaa
