/- The document's tokens: the plain law of the list of them. -/
import Derived.Test.YtdonomneofdhfaaR5
import Derived.Test.YtdonomneofdhfaaE8
import Derived.Test.YtdonomneofdhfaaB1
namespace Go.Proofs.Ytdonomneofdhfaa
open Go.GV Go.RowKit

/-- items, and whether white bytes stand before them -/
def rtF (s : ByteArray) : Nat → Int → Bool → Int → List (Lx.Tk × Bool)
  | 0, _, _, _ => []
  | n + 1, st, sp, i => if i < s.size then
      (if Lx.white (bt s i) = true then rtF s n st true (i + 1)
      else if (itm s st i).err ≠ 0 then [(⟨0, 0, 0, (itm s st i).err⟩, sp)]
      else (⟨(itm s st i).kind, i.toNat, i.toNat + (itm s st i).len, 0⟩, sp) :: rtF s n (Lx.after st (itm s st i).kind ((tl s i).take (itm s st i).len)) false (i + (itm s st i).len))
    else []

theorem rtF_fuel (s : ByteArray) : ∀ (n m : Nat) (st : Int) (sp : Bool) (i : Int), 0 ≤ i → (s.size : Int) - i ≤ n → (s.size : Int) - i ≤ m → rtF s n st sp i = rtF s m st sp i
  | 0, 0, _, _, _, _, _, _ => rfl
  | 0, m + 1, st, sp, i, h0, h1, h2 => by rw [rtF, rtF, if_neg (by omega)]
  | n + 1, 0, st, sp, i, h0, h1, h2 => by rw [rtF, rtF, if_neg (by omega)]
  | n + 1, m + 1, st, sp, i, h0, h1, h2 => by
    rw [rtF, rtF]
    by_cases hi : i < s.size
    · rw [if_pos hi, if_pos hi, rtF_fuel s n m st true (i + 1) (by omega) (by omega) (by omega)]
      by_cases he : (itm s st i).err = 0
      · have := itm_le h0 hi he
        rw [rtF_fuel s n m _ false (i + (itm s st i).len) (by omega) (by omega) (by omega)]
      · rw [if_pos he, if_pos he]
    · rw [if_neg hi, if_neg hi]

def rtA (s : ByteArray) (st : Int) (sp : Bool) (i : Int) : List (Lx.Tk × Bool) := rtF s s.size st sp i

theorem rtA_nil {s : ByteArray} {st : Int} {sp : Bool} {i : Int} (h : s.size ≤ i) : rtA s st sp i = [] := by
  unfold rtA
  cases hn : s.size with
  | zero => rfl
  | succ n => rw [rtF, if_neg (by omega)]
theorem rtA_cons {s : ByteArray} {st : Int} {sp : Bool} {i : Int} (h0 : 0 ≤ i) (h : i < s.size) : rtA s st sp i =
    if Lx.white (bt s i) = true then rtA s st true (i + 1)
    else if (itm s st i).err ≠ 0 then [(⟨0, 0, 0, (itm s st i).err⟩, sp)]
    else (⟨(itm s st i).kind, i.toNat, i.toNat + (itm s st i).len, 0⟩, sp) :: rtA s (Lx.after st (itm s st i).kind ((tl s i).take (itm s st i).len)) false (i + (itm s st i).len) := by
  unfold rtA
  obtain ⟨n, hn⟩ : ∃ n, s.size = n + 1 := ⟨s.size - 1, by omega⟩
  conv => lhs; rw [hn, rtF, if_pos h]
  rw [rtF_fuel s n s.size st true (i + 1) (by omega) (by omega) (by omega)]
  by_cases he : (itm s st i).err = 0
  · have := itm_le h0 h he
    rw [rtF_fuel s n s.size _ false (i + (itm s st i).len) (by omega) (by omega) (by omega)]
  · rw [if_pos he, if_pos he]

theorem rtF_fst (s : ByteArray) : ∀ (n : Nat) (st : Int) (sp : Bool) (i : Int), 0 ≤ i → (s.size : Int) - i ≤ n → (rtF s n st sp i).map (·.1) = itA s st i
  | 0, st, sp, i, h0, h1 => by rw [rtF, itA_nil (by omega)]; rfl
  | n + 1, st, sp, i, h0, h1 => by
    rw [rtF]
    by_cases hi : i < s.size
    · rw [if_pos hi, itA_cons h0 hi]
      by_cases hw : Lx.white (bt s i) = true
      · rw [if_pos hw, if_pos hw]; exact rtF_fst s n st true (i + 1) (by omega) (by omega)
      · rw [if_neg hw, if_neg hw]
        by_cases he : (itm s st i).err = 0
        · have := itm_le h0 hi he
          rw [if_neg (by simpa using he), if_neg (by simpa using he), List.map_cons, rtF_fst s n _ false _ (by omega) (by omega)]
        · rw [if_pos he, if_pos he]; rfl
    · rw [if_neg hi, itA_nil (by omega)]; rfl
theorem rtA_fst (s : ByteArray) : (rtA s 0 false 0).map (·.1) = itsOf s := by
  rw [← itA_zero]; exact rtF_fst s _ _ _ _ (Int.le_refl _) (by omega)

/-! ### The words of a line so far -/
abbrev hashW (x : ByteArray) : Prop := x = ⟨#[35]⟩ ∨ x = ⟨#[37, 58]⟩
def inclW : ByteArray := ⟨#[105, 110, 99, 108, 117, 100, 101]⟩
def Rel : List ByteArray → Int → Prop
  | [], st => st = 0
  | [x], st => (hashW x ∧ st = 1) ∨ (¬ hashW x ∧ st = 3)
  | [x, y], st => (hashW x ∧ y = inclW ∧ st = 2) ∨ (¬ (hashW x ∧ y = inclW) ∧ st = 3)
  | _ :: _ :: _ :: _, st => st = 3

def hdrW (W : List ByteArray) : Bool := decide ((W.length : Int) = 2) && (decide (W.getD 0 ⟨#[]⟩ = ⟨#[35]⟩) || decide (W.getD 0 ⟨#[]⟩ = ⟨#[37, 58]⟩)) && decide (W.getD 1 ⟨#[]⟩ = ⟨#[105, 110, 99, 108, 117, 100, 101]⟩)

theorem Rel.hdr {W : List ByteArray} {st : Int} (h : Rel W st) : hdrW W = decide (st = 2) := by
  match W, h with
  | [], h => have h : st = 0 := h; subst h; rfl
  | [x], h =>
    have : ¬ st = 2 := by rcases h with h | h <;> omega
    rw [decide_eq_false this]; rfl
  | [x, y], h =>
    rcases h with ⟨h1, h2, h3⟩ | ⟨h1, h2⟩
    · subst h3; subst h2
      rcases h1 with rfl | rfl <;> rfl
    · subst h2
      cases hh : hdrW [x, y] with
      | false => rfl
      | true =>
        refine absurd ?_ h1
        simp only [hdrW, Bool.and_eq_true, Bool.or_eq_true, decide_eq_true_eq] at hh
        exact ⟨hh.1.2, hh.2⟩
  | x :: y :: z :: r, h =>
    have h : st = 3 := h
    subst h
    unfold hdrW
    rw [decide_eq_false (by simp only [List.length_cons]; omega)]; rfl

theorem bestL_seven (l : Lx.Bs) : (Lx.bestL l).1 ≠ 7 := by
  unfold Lx.bestL
  have h := Lx.litQ_facts l
  split
  · rcases h with h | h
    · omega
    · rcases h.1 with h | h <;> omega
  · split
    · show (1 : Int) ≠ 7; decide
    · split
      · show (2 : Int) ≠ 7; decide
      · split
        · show (5 : Int) ≠ 7; decide
        · show (0 : Int) ≠ 7; decide

theorem hdrN_head {c : Int} {r : Lx.Bs} (h : 0 < Lx.hdrN (c :: r)) : c = 60 ∨ c = 34 := by
  simp only [Lx.hdrN] at h
  by_cases h1 : c = 60
  · exact .inl h1
  · rw [if_neg h1] at h
    by_cases h2 : c = 34
    · exact .inr h2
    · rw [if_neg h2] at h; omega

theorem item_seven {hdr : Bool} {c : Int} {r : Lx.Bs} (h : (Lx.itemP hdr (c :: r)).kind = 7) : c = 60 ∨ c = 34 := by
  rw [itemP_eq] at h
  split at h
  · rename_i h1; exact hdrN_head h1.2
  · split at h
    · split at h <;> simp at h
    · split at h
      · simp at h
      · unfold longL at h
        split at h
        · simp at h
        · split at h
          · exact absurd h (bestL_seven _)
          · split at h <;> simp at h

theorem one_hash : Lx.oneL [35] = some 5 := by decide
theorem one_hash2 : Lx.oneL [37, 58] = some 5 := by decide
theorem one_incl : Lx.oneL [105, 110, 99, 108, 117, 100, 101] = some 1 := by decide

theorem itm_one {s : ByteArray} {st i : Int} (h0 : 0 ≤ i) (h : i < s.size) (hw : Lx.white (bt s i) = false) (he : (itm s st i).err = 0) {t : Lx.Bs} (ht : (tl s i).take (itm s st i).len = t) {k c : Int}
    (hk : Lx.oneL t = some k) (hc : t.head? = some c) (hc1 : c ≠ 60) (hc2 : c ≠ 34) : (itm s st i).kind = k := by
  unfold itm at he ht ⊢
  have h1 := Lx.itemP_le (decide (st = 2)) (l := tl s i) (by rw [tl_cons h0 h]; simp)
  have h2 := h1.2 he
  rw [tl_cons h0 h] at he ht h2 ⊢
  have hb : bt s i = c := by
    rw [← ht, Lx.head_take (by omega)] at hc
    exact Option.some.inj hc
  have h7 : (Lx.itemP (decide (st = 2)) (bt s i :: tl s (i + 1))).kind ≠ 7 := fun h7 => by
    rcases item_seven h7 with h7 | h7
    · exact hc1 (hb.symm.trans h7)
    · exact hc2 (hb.symm.trans h7)
  have := Lx.one_of_item hw he h7
  rw [ht, hk] at this
  exact (Option.some.inj this).symm

theorem Rel.step {s : ByteArray} {W : List ByteArray} {st i : Int} (h : Rel W st) (h0 : 0 ≤ i) (hi : i < s.size) (hw : Lx.white (bt s i) = false) (he : (itm s st i).err = 0) (h8 : (itm s st i).kind ≠ 8) (h9 : (itm s st i).kind ≠ 9) :
    Rel (W ++ [sub s i (i + (itm s st i).len)]) (Lx.after st (itm s st i).kind ((tl s i).take (itm s st i).len)) := by
  obtain ⟨m1, m2⟩ := itm_le h0 hi he
  have hb : bl (sub s i (i + (itm s st i).len)) = (tl s i).take (itm s st i).len := by rw [bl_part s h0 (by omega) m2, Int.toNat_natCast]
  have k1 : hashW (sub s i (i + (itm s st i).len)) → (itm s st i).kind = 5 := by
    rintro (h | h)
    · exact itm_one h0 hi hw he (t := [35]) (by rw [← hb, h]; rfl) one_hash rfl (by decide) (by decide)
    · exact itm_one h0 hi hw he (t := [37, 58]) (by rw [← hb, h]; rfl) one_hash2 rfl (by decide) (by decide)
  have k2 : sub s i (i + (itm s st i).len) = inclW → (itm s st i).kind = 1 := fun h =>
    itm_one h0 hi hw he (t := [105, 110, 99, 108, 117, 100, 101]) (by rw [← hb, h]; rfl) one_incl rfl (by decide) (by decide)
  have t1 : ((tl s i).take (itm s st i).len = [35] ∨ (tl s i).take (itm s st i).len = [37, 58]) ↔ hashW (sub s i (i + (itm s st i).len)) := by
    rw [← hb]
    unfold hashW
    constructor
    · rintro (h | h)
      · exact .inl (bl_inj h)
      · exact .inr (bl_inj h)
    · rintro (h | h)
      · exact .inl (by rw [h]; rfl)
      · exact .inr (by rw [h]; rfl)
  have t2 : (tl s i).take (itm s st i).len = [105, 110, 99, 108, 117, 100, 101] ↔ sub s i (i + (itm s st i).len) = inclW := by
    rw [← hb]
    exact ⟨fun h => bl_inj h, fun h => by rw [h]; rfl⟩
  have ea : Lx.after st (itm s st i).kind ((tl s i).take (itm s st i).len) = if st = 0 ∧ (itm s st i).kind = 5 ∧ hashW (sub s i (i + (itm s st i).len)) then 1
      else if st = 1 ∧ (itm s st i).kind = 1 ∧ sub s i (i + (itm s st i).len) = inclW then 2 else 3 := by
    unfold Lx.after
    rw [if_neg h8, if_neg h9]
    simp only [t1, t2]
  rw [ea]
  generalize sub s i (i + (itm s st i).len) = t at k1 k2 ⊢
  match W, h with
  | [], h =>
    have h : st = 0 := h
    subst h
    by_cases hh : hashW t
    · rw [if_pos ⟨rfl, k1 hh, hh⟩]; exact .inl ⟨hh, rfl⟩
    · rw [if_neg (fun h => hh h.2.2), if_neg (fun h => by omega)]; exact .inr ⟨hh, rfl⟩
  | [x], h =>
    rcases h with ⟨h1, h2⟩ | ⟨h1, h2⟩
    · rw [if_neg (fun h => by omega)]
      by_cases hh : t = inclW
      · rw [if_pos ⟨h2, k2 hh, hh⟩]; exact .inl ⟨h1, hh, rfl⟩
      · rw [if_neg (fun h => hh h.2.2)]; exact .inr ⟨fun h => hh h.2, rfl⟩
    · rw [if_neg (fun h => by omega), if_neg (fun h => by omega)]
      exact .inr ⟨fun h => h1 h.1, rfl⟩
  | [x, y], h =>
    have : st = 2 ∨ st = 3 := by
      rcases h with h | h
      · exact .inl h.2.2
      · exact .inr h.2
    rw [if_neg (fun h => by omega), if_neg (fun h => by omega)]
    rfl
  | x :: y :: z :: r, h =>
    have h : st = 3 := h
    rw [if_neg (fun h => by omega), if_neg (fun h => by omega)]
    rfl

/-- the error, if there is one -/
def errT : List (Lx.Tk × Bool) → Int
  | [] => 0
  | t :: r => if t.1.err ≠ 0 then t.1.err else errT r
def tokT (s : ByteArray) (p : Lx.Tk × Bool) : Tok := ⟨p.1.kind, sub s p.1.lo p.1.hi, p.1.lo, p.1.hi, p.2⟩
def rErr (s : ByteArray) : Int := errT (rtA s 0 false 0)
def rToks (s : ByteArray) : List Tok := if rErr s = 0 then (rtA s 0 false 0).map (tokT s) else []
end Go.Proofs.Ytdonomneofdhfaa
