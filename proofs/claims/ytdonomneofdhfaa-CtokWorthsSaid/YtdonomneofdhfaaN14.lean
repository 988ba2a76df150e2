/- What a character constant or a string is made of. -/
import Derived.Test.YtdonomneofdhfaaN13
import Derived.Test.YtdonomneofdhfaaE8
namespace Go.Proofs.Ytdonomneofdhfaa
open Go.GV Go.RowKit

def qOf (k : Int) : Int := if k = 3 then 39 else 34
theorem one_litQ {l : Lx.Bs} {k : Int} (h : Lx.oneL l = some k) (hk : k = 3 ∨ k = 4) : Lx.litQ l = (k, l.length) := by
  obtain ⟨c, r, e, _, hi⟩ := Lx.oneL_iff.1 h
  have hb : (Lx.bestL l).1 = k ∧ (Lx.bestL l).2 = l.length := by
    unfold Lx.itemP at hi
    rw [if_neg (by simp)] at hi
    split at hi
    · split at hi
      · simp at hi <;> omega
      · simp at hi <;> omega
    · split at hi
      · simp at hi <;> omega
      · split at hi
        · simp at hi <;> omega
        · split at hi
          · simp at hi; exact hi
          · split at hi
            · simp at hi <;> omega
            · simp at hi <;> omega
  unfold Lx.bestL at hb
  split at hb
  · exact Prod.ext hb.1 hb.2
  · split at hb
    · simp at hb <;> omega
    · split at hb
      · simp at hb <;> omega
      · split at hb
        · simp at hb <;> omega
        · simp at hb <;> omega

/-- a literal's parts: where its quote stands, and what follows -/
theorem lit_form {l : Lx.Bs} {k : Int} (h : Lx.oneL l = some k) (hk : k = 3 ∨ k = 4) :
    Lx.prefN l + 2 ≤ l.length ∧ (k = 3 → Lx.prefN l + 3 ≤ l.length) ∧ l[Lx.prefN l]? = some (qOf k) ∧ l.take (Lx.prefN l) ∈ Lx.pre34 := by
  have hq := one_litQ h hk
  have hq0 := hq
  unfold Lx.litQ at hq
  cases hd : l[Lx.prefN l]? with
  | none =>
    rw [Lx.drop_nil_of hd] at hq
    simp at hq <;> omega
  | some q =>
    rw [Lx.drop_cons_of hd] at hq
    have hb := Lx.bodyN_le q (l.drop (Lx.prefN l + 1))
    rw [List.length_drop] at hb
    obtain ⟨p, hp, hpl, hpt⟩ := Lx.pref_mem l
    have main : (q = 39 ∨ q = 34) → l.take (Lx.prefN l) ∈ Lx.pre34 := fun hqq => by
      rw [(hpt q hd hqq).1]; exact hp
    simp only at hq
    by_cases h34 : q = 34
    · subst h34
      rw [if_pos rfl] at hq
      split at hq
      · simp at hq <;> omega
      · rename_i n hn
        simp only [Prod.mk.injEq] at hq
        have : k = 4 := hq.1.symm
        subst this
        exact ⟨by omega, fun hh => by omega, rfl, main (.inr rfl)⟩
    · rw [if_neg h34] at hq
      by_cases h39 : q = 39
      · subst h39
        rw [if_pos rfl] at hq
        split at hq
        · simp at hq <;> omega
        · simp at hq <;> omega
        · rename_i n hn
          simp only [Prod.mk.injEq] at hq
          have : k = 3 := hq.1.symm
          subst this
          exact ⟨by omega, fun _ => by omega, rfl, main (.inl rfl)⟩
      · rw [if_neg h39] at hq
        simp at hq <;> omega

theorem pre_noq : ∀ p ∈ Lx.pre34, ∀ c ∈ p, c ≠ 39 ∧ c ≠ 34 := by decide

theorem indexByte_at : ∀ (l : List UInt8) (n : Nat) (q : Int), 0 ≤ q → q ≤ 255 → (∀ c ∈ (l.map fun b => (b.toNat : Int)).take n, c ≠ q) → (l.map fun b => (b.toNat : Int))[n]? = some q → Lib.indexByte l q.toNat.toUInt8 = n
  | [], n, q, _, _, _, h => by simp at h
  | b :: r, n, q, h0, h1, hn, h => by
    have hq : (q.toNat.toUInt8).toNat = q.toNat := by rw [Nat.toUInt8, UInt8.toNat_ofNat']; omega
    rw [Lib.indexByte]
    cases n with
    | zero =>
      simp only [List.map_cons, List.getElem?_cons_zero, Option.some.injEq] at h
      have e : (b == q.toNat.toUInt8) = true := by
        rw [beq_iff_eq, ← UInt8.toNat_inj, hq]; omega
      rw [e]; rfl
    | succ n =>
      simp only [List.map_cons, List.take_succ_cons, List.getElem?_cons_succ] at hn h
      have hb := hn _ (List.mem_cons_self ..)
      have e : (b == q.toNat.toUInt8) = false := by
        rw [beq_eq_false_iff_ne]
        intro e
        rw [e, hq] at hb
        exact hb (by omega)
      have ih := indexByte_at r n q h0 h1 (fun c hc => hn c (List.mem_cons_of_mem _ hc)) h
      rw [e, ih]
      have e2 : ((n : Int) == -1) = false := by rw [beq_eq_false_iff_ne]; omega
      rw [e2]
      simp

def pfN (s : ByteArray) : Nat := Lx.prefN (bl s)
theorem oneP_one {s : ByteArray} {k : Int} (h : (oneP s).1 = k) (hk : k = 3 ∨ k = 4) : Lx.oneL (bl s) = some k := by
  unfold oneP at h
  cases ho : Lx.oneL (bl s) with
  | none => rw [ho] at h; simp only at h; omega
  | some j => rw [ho] at h; simp only at h; rw [h]
theorem lit_at {s : ByteArray} {k : Int} (h : (oneP s).1 = k) (hk : k = 3 ∨ k = 4) :
    pfN s + 2 ≤ s.size ∧ (k = 3 → pfN s + 3 ≤ s.size) ∧ bt s (pfN s) = qOf k ∧ Lib.indexByte s.data.toList (qOf k).toNat.toUInt8 = pfN s ∧ ∀ i : Nat, i < pfN s → bt s i ≠ 39 ∧ bt s i ≠ 34 := by
  obtain ⟨h1, h2, h3, h4⟩ := lit_form (oneP_one h hk) hk
  rw [bl_len] at h1 h2
  have hno := pre_noq _ h4
  have hq : 0 ≤ qOf k ∧ qOf k ≤ 255 ∧ (qOf k = 39 ∨ qOf k = 34) := by unfold qOf; split <;> omega
  refine ⟨h1, h2, ?_, ?_, fun i hi => ?_⟩
  · have := bl_get s (n := Lx.prefN (bl s)) (by omega)
    rw [h3] at this
    exact (Option.some.inj this).symm
  · refine indexByte_at s.data.toList _ _ hq.1 hq.2.1 (fun c hc => ?_) h3
    have := hno c hc
    rcases hq.2.2 with e | e <;> rw [e]
    · exact this.1
    · exact this.2
  · have h5 := bl_get s (n := i) (by unfold pfN at hi; omega)
    have hi' : i < Lx.prefN (bl s) := hi
    exact hno _ (List.mem_of_getElem? (i := i) (by rw [List.getElem?_take_of_lt hi']; exact h5))

/-- the greatest number of an element with a prefix -/
def limP (p : ByteArray) : Int := if p = ⟨#[117]⟩ then 65535 else if p = ⟨#[85]⟩ then 4294967295 else if p = ⟨#[76]⟩ then 4294967295 else 255
theorem limP_range (p : ByteArray) : 255 ≤ limP p ∧ limP p ≤ 4294967295 := by
  unfold limP
  (repeat' split) <;> omega

set_option maxRecDepth 100000 in
theorem limit_any (p : ByteArray) (w : World) : Calls Try.prog 120 #[.string p] w (PureP w fun v _ => v = .int .i64 (limP p)) := by
  refine x_fun tt_ok Try.func120 rfl rfl [] 0 [.v (.string p)] rfl rfl rfl rfl (fun b hb => by cases hb) ?_
  refine x_vc tt_ok ?_
  refine x_if (fun h => ?_) (fun h => ?_)
  · have h := of_decide_eq_true h
    subst h
    exact fin1 (fun _ _ => rfl)
  · have h1 := of_decide_eq_false h
    refine x_if (fun h => ?_) (fun h => ?_)
    · have h := of_decide_eq_true h
      subst h
      refine x_ift rfl ?_
      exact fin1 (fun _ _ => rfl)
    · have h2 := of_decide_eq_false h
      refine x_if (fun h => ?_) (fun h => ?_)
      · have h := of_decide_eq_true h
        subst h
        exact fin1 (fun _ _ => rfl)
      · have h3 := of_decide_eq_false h
        have e : limP p = 255 := by unfold limP; rw [if_neg h1, if_neg h2, if_neg h3]
        rw [e]
        exact fin1 (fun _ _ => rfl)
end Go.Proofs.Ytdonomneofdhfaa
