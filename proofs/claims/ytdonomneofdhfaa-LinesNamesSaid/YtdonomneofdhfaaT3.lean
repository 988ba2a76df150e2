/- ScanMunch: two tokens side by side don't fuse. -/
import Derived.Test.YtdonomneofdhfaaT2
import Derived.Test.YtdonomneofdhfaaE9
namespace Go.Proofs.Ytdonomneofdhfaa
open Go.GV Go.RowKit

/-- a token is what stands at its place -/
def Stands (s : ByteArray) (t : Lx.Tk) : Prop := t.err ≠ 0 ∨ (t.err = 0 ∧ ∃ st, Lx.white (bt s t.lo) = false ∧ itm s st t.lo = ⟨t.kind, t.hi - t.lo, 0⟩ ∧ t.lo < t.hi ∧ t.hi ≤ s.size)

theorem itA_stands (s : ByteArray) : ∀ (n : Nat) (st i : Int), 0 ≤ i → (s.size : Int) - i ≤ n → ∀ t ∈ itA s st i, Stands s t
  | 0, st, i, h0, hn, t, ht => by rw [itA_nil (by omega)] at ht; cases ht
  | n + 1, st, i, h0, hn, t, ht => by
    by_cases hi : i < s.size
    · rw [itA_cons h0 hi] at ht
      by_cases hw : Lx.white (bt s i) = true
      · rw [if_pos hw] at ht
        exact itA_stands s n st (i + 1) (by omega) (by omega) t ht
      · rw [if_neg hw] at ht
        by_cases he : (itm s st i).err = 0
        · rw [if_neg (by simpa using he)] at ht
          obtain ⟨m1, m2⟩ := itm_le h0 hi he
          rcases List.mem_cons.1 ht with rfl | ht
          · have e : ((i.toNat : Nat) : Int) = i := by omega
            refine .inr ⟨rfl, st, ?_, ?_, by show i.toNat < i.toNat + _; omega, by show i.toNat + _ ≤ _; omega⟩
            · show Lx.white (bt s (i.toNat : Nat)) = false
              rw [e]; simpa using hw
            · show itm s st (i.toNat : Nat) = ⟨(itm s st i).kind, i.toNat + (itm s st i).len - i.toNat, 0⟩
              rw [e, show i.toNat + (itm s st i).len - i.toNat = (itm s st i).len by omega]
              cases hx : itm s st i with
              | mk a b c => rw [hx] at he; simp only at he; rw [he]
          · exact itA_stands s n _ _ (by omega) (by omega) t ht
        · rw [if_pos he] at ht
          rw [List.mem_singleton.1 ht]
          exact .inl he
    · rw [itA_nil (by omega)] at ht; cases ht
theorem its_stands {s : ByteArray} {t : Lx.Tk} (h : t ∈ itsOf s) : Stands s t := by
  rw [← itA_zero] at h
  exact itA_stands s s.size 0 0 (Int.le_refl _) (by omega) t h

theorem chain_next : ∀ {xs : List Lx.Tk} {i n k : Nat} {a b : Lx.Tk}, Lx.chain i n xs → xs[k]? = some a → xs[k + 1]? = some b → b.err = 0 → a.err = 0 ∧ a.hi ≤ b.lo
  | [], _, _, _, _, _, _, h, _, _ => by simp at h
  | x :: r, i, n, k, a, b, hc, h1, h2, hb => by
    rcases hc with ⟨c1, c2, c3, c4, c5⟩ | ⟨c1, c2⟩
    · cases k with
      | zero =>
        simp only [List.getElem?_cons_zero, Option.some.injEq] at h1
        subst h1
        simp only [List.getElem?_cons_succ] at h2
        refine ⟨c1, ?_⟩
        rcases chain_mem c5 b (List.mem_of_getElem? h2) with h | h
        · exact absurd hb h
        · exact h.2.1
      | succ k =>
        simp only [List.getElem?_cons_succ] at h1 h2
        exact chain_next c5 h1 h2 hb
    · subst c2; simp at h2

theorem tks_len (C : List Chr) (l : ByteArray) : ∀ (xs : List Lx.Tk) (n : Int), (tks C l n xs).length = xs.length
  | [], _ => rfl
  | x :: r, n => by rw [tks, List.length_cons, tks_len C l r, List.length_cons]
theorem tks_get (C : List Chr) (l : ByteArray) : ∀ (xs : List Lx.Tk) (n : Int) (k : Nat) (t : Lx.Tk), xs[k]? = some t →
    ∃ tok, (tks C l n xs)[k]? = some tok ∧ tok.kind = t.kind ∧ tok.text = sub l t.lo t.hi ∧ (∀ p, 0 < k → xs[k - 1]? = some p → tok.space = decide (p.hi < t.lo))
  | [], _, _, _, h => by simp at h
  | x :: r, n, 0, t, h => by
    simp only [List.getElem?_cons_zero, Option.some.injEq] at h
    subst h
    exact ⟨_, rfl, rfl, rfl, fun p h => absurd h (by omega)⟩
  | x :: r, n, k + 1, t, h => by
    simp only [List.getElem?_cons_succ] at h
    obtain ⟨tok, h1, h2, h3, h4⟩ := tks_get C l r x.hi k t h
    refine ⟨tok, by rw [tks, List.getElem?_cons_succ]; exact h1, h2, h3, fun p _ hp => ?_⟩
    cases k with
    | zero =>
      simp only [Nat.zero_add, Nat.sub_self, List.getElem?_cons_zero, Option.some.injEq] at hp
      subst hp
      cases r with
      | nil => simp at h
      | cons y r =>
        simp only [List.getElem?_cons_zero, Option.some.injEq] at h
        subst h
        rw [tks] at h1
        simp only [List.getElem?_cons_zero, Option.some.injEq] at h1
        rw [← h1]
        simp only
        rw [decide_eq_decide]; omega
    | succ k =>
      refine h4 p (by omega) ?_
      simp only [Nat.add_sub_cancel, List.getElem?_cons_succ] at hp ⊢
      exact hp

/-- side by side, without a header: they don't fuse -/
theorem munch {l : ByteArray} {a b : Lx.Tk} (ha : Stands l a) (hb : Stands l b) (ea : a.err = 0) (eb : b.err = 0) (hab : a.hi = b.lo) (ka : a.kind ≠ 7) (kb : b.kind ≠ 7) :
    fuP (sub l a.lo a.hi) (sub l b.lo b.hi) = (false, 0) := by
  rcases ha with ha | ⟨_, st, wa, ia, la, na⟩
  · exact absurd ea ha
  rcases hb with hb | ⟨_, su, wb, ib, lb, nb⟩
  · exact absurd eb hb
  have one : ∀ (st : Int) (t : Lx.Tk), Lx.white (bt l t.lo) = false → itm l st t.lo = ⟨t.kind, t.hi - t.lo, 0⟩ → t.lo < t.hi → t.hi ≤ l.size → t.kind ≠ 7 →
      Lx.oneL (bl (sub l t.lo t.hi)) = some t.kind ∧ Lx.itemP false (tl l t.lo) = ⟨t.kind, t.hi - t.lo, 0⟩ ∧ bl (sub l t.lo t.hi) = (tl l t.lo).take (t.hi - t.lo) := by
    intro st t h1 h2 h3 h4 h5
    have hbl : bl (sub l t.lo t.hi) = (tl l t.lo).take (t.hi - t.lo) := by
      rw [bl_sub l (by omega) (by omega) (by omega)]; congr 1; omega
    unfold itm at h2
    have hcons := tl_cons (s := l) (i := (t.lo : Int)) (by omega) (by omega)
    have e1 := Lx.one_of_item (hdr := decide (st = 2)) (c := bt l t.lo) (r := tl l ((t.lo : Int) + 1)) h1 (by rw [← hcons, h2]) (by rw [← hcons, h2]; exact h5)
    rw [← hcons, h2] at e1
    refine ⟨by rw [hbl]; exact e1, ?_, hbl⟩
    rw [Lx.itemP_hdr (hdr := decide (st = 2)) (by rw [h2]; exact h5), h2]
  obtain ⟨a1, a2, a3⟩ := one st a wa ia la na ka
  obtain ⟨b1, b2, b3⟩ := one su b wb ib lb nb kb
  unfold fuP
  rw [a1, b1]
  simp only [Prod.mk.injEq, and_true]
  have hj : bl (sub l a.lo a.hi) ++ bl (sub l b.lo b.hi) = (tl l a.lo).take (b.hi - a.lo) := by
    rw [a3, b3, ← hab, show ((a.hi : Nat) : Int) = (a.lo : Int) + ((a.hi - a.lo : Nat) : Int) by omega, ← tl_tl l (by omega), show b.hi - a.lo = (a.hi - a.lo) + (b.hi - a.hi) by omega, List.take_add]
  have ht := Lx.itemP_take (l := tl l a.lo) (n := b.hi - a.lo) (by rw [tl_cons (by omega) (by omega)]; simp) (by rw [a2]) (by rw [a2]; show a.hi - a.lo ≤ _; omega)
  unfold Lx.fz
  rw [hj, ht, a2]
  have hlen : (bl (sub l a.lo a.hi)).length = a.hi - a.lo := by
    rw [a3, List.length_take, tl_len]; omega
  rw [hlen]
  simp
end Go.Proofs.Ytdonomneofdhfaa
