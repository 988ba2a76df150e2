/- The statement of MacroRemarks, out of its walk: for any input the law answers true, and the input stays. -/
import Derived.Test.YtdonomneofdhfaaZF4
import Derived.Maps.OwnSet
import Derived.Carry
import Derived.Shelf.Strings.OnBuilder
import Derived.Test.YtdonomneofdhfaaProg
import Derived.Test.YtdonomneofdhfaaRows
import Derived.ProofKit
import Derived.OpenShut
import Derived.ShutString
import Derived.ChangeOld
import Derived.Below
import Derived.SizedLaws
import Derived.HandedShaped
set_option linter.unusedSimpArgs false
set_option linter.unusedVariables false
namespace Go.Lx
def stopW (q : Bs) : Prop := q = [] ∨ ∃ h r, q = h :: r ∧ (h = 32 ∨ h = 9 ∨ h = 11 ∨ h = 10)
theorem run_stopW {p : Int → Bool} (h1 : p 32 = false) (h2 : p 9 = false) (h3 : p 11 = false) (h4 : p 10 = false) {q : Bs} (hq : stopW q) : ∀ t : Bs, run p (t ++ q) = run p t
  | [] => by
    rcases hq with rfl | ⟨h, r, rfl, rfl | rfl | rfl | rfl⟩
    · rfl
    · simp only [List.nil_append, run, h1]
    · simp only [List.nil_append, run, h2]
    · simp only [List.nil_append, run, h3]
    · simp only [List.nil_append, run, h4]
  | c :: t => by simp only [List.cons_append, run, run_stopW h1 h2 h3 h4 hq t]
theorem wordN_stopW {q : Bs} (hq : stopW q) {t : Bs} (ht : t ≠ []) : wordN (t ++ q) = wordN t := by
  cases t with
  | nil => exact absurd rfl ht
  | cons c t => simp only [List.cons_append, wordN, run_stopW (p := alnum) (by decide) (by decide) (by decide) (by decide) hq t]
theorem runP_stopW {q : Bs} (hq : stopW q) : ∀ (t : Bs) (a : Int), runP a (t ++ q) = runP a t
  | [], a => by
    have h1 : okp a 32 = false := by unfold okp; rw [show okc 32 = false from by decide, show sign 32 = false from by decide]; rfl
    have h2 : okp a 9 = false := by unfold okp; rw [show okc 9 = false from by decide, show sign 9 = false from by decide]; rfl
    have h3 : okp a 11 = false := by unfold okp; rw [show okc 11 = false from by decide, show sign 11 = false from by decide]; rfl
    have h4 : okp a 10 = false := by unfold okp; rw [show okc 10 = false from by decide, show sign 10 = false from by decide]; rfl
    rcases hq with rfl | ⟨h, r, rfl, rfl | rfl | rfl | rfl⟩
    · rfl
    · simp only [List.nil_append, runP, h1]
    · simp only [List.nil_append, runP, h2]
    · simp only [List.nil_append, runP, h3]
    · simp only [List.nil_append, runP, h4]
  | c :: t, a => by simp only [List.cons_append, runP, runP_stopW hq t]
theorem numN_stopW {q : Bs} (hq : stopW q) {t : Bs} (ht : t ≠ []) : numN (t ++ q) = numN t := by
  cases t with
  | nil => exact absurd rfl ht
  | cons c t =>
    simp only [List.cons_append, numN]
    cases hd : digit c with
    | true => simp only [runP_stopW hq]
    | false =>
      simp only
      cases t with
      | cons d t => cases decide (c = 46) <;> simp only [List.cons_append, runP_stopW hq]
      | nil =>
        have h1 : digit 32 = false := by decide
        have h2 : digit 9 = false := by decide
        have h3 : digit 11 = false := by decide
        have h4 : digit 10 = false := by decide
        rcases hq with rfl | ⟨h, r, rfl, rfl | rfl | rfl | rfl⟩
        · rfl
        · cases decide (c = 46) <;> simp [h1]
        · cases decide (c = 46) <;> simp [h2]
        · cases decide (c = 46) <;> simp [h3]
        · cases decide (c = 46) <;> simp [h4]
theorem punN_stopW {q : Bs} (hq : stopW q) (t : Bs) : punN (t ++ q) = punN t := by
  have hle := punN_le t
  have hle' := punN_le (t ++ q)
  have a1 : punN t ≤ punN (t ++ q) := by
    rcases Nat.eq_zero_or_pos (punN t) with h0 | h0
    · omega
    · refine punN_max (by rw [List.length_append]; omega) ?_
      rw [List.take_append_of_le_length hle]; exact punN_is h0
  have a2 : punN (t ++ q) ≤ punN t := by
    rcases Nat.eq_zero_or_pos (punN (t ++ q)) with h0 | h0
    · omega
    · have hi := punN_is h0
      rcases Nat.lt_or_ge t.length (punN (t ++ q)) with hlt | hge
      · exfalso
        have hall := (pun_facts _ (isPun_mem.1 hi)).2.1
        rw [List.all_eq_true] at hall
        rw [List.length_append] at hle'
        rcases hq with rfl | ⟨h, r, rfl, hh⟩
        · rw [List.append_nil, List.length_nil] at *; omega
        · have hmem : h ∈ (t ++ h :: r).take (punN (t ++ h :: r)) := by
            refine List.mem_of_getElem? (i := t.length) ?_
            rw [List.getElem?_take_of_lt hlt, List.getElem?_append_right (Nat.le_refl _)]; simp
          have := hall h hmem
          rcases hh with rfl | rfl | rfl | rfl <;> exact absurd this (by decide)
      · rw [List.take_append_of_le_length hge] at hi
        exact punN_max hge hi
  omega
def nqs (t : Bs) : Prop := ∀ x, t[prefN t]? = some x → quoteB x = false
theorem prefN_stopW {q : Bs} (hq : stopW q) {t : Bs} (ht : t ≠ []) : prefN (t ++ q) = prefN t ∨ t.length ≤ prefN (t ++ q) := by
  match t, ht with
  | [c], _ =>
    rcases Nat.eq_zero_or_pos (prefN ([c] ++ q)) with h0 | h0
    · left
      rw [h0]
      simp only [List.cons_append, List.nil_append, prefN] at h0 ⊢
      split at h0
      · cases h0
      · split at h0
        · cases h0
        · rename_i h1
          simp only [Bool.or_eq_false_iff] at h1
          simp [h1.1.1, h1.1.2, h1.2]
    · right; exact h0
  | [c, d], _ =>
    by_cases h2 : 2 ≤ prefN ([c, d] ++ q)
    · right; exact h2
    · left
      simp only [List.cons_append, List.nil_append, prefN] at h2 ⊢
      split at h2
      · omega
      · simp
  | c :: d :: e :: t, _ => exact .inl rfl
theorem litQ_stopW {q : Bs} (hq : stopW q) {t : Bs} (ht : t ≠ []) (hn : nqs t) : (litQ (t ++ q)).2 = 0 := by
  rcases litQ_facts (t ++ q) with hf | ⟨_, _, _, _, x, hx, hxx⟩
  · exact hf.2
  · exfalso
    have hqx : quoteB x = true := by rcases hx with rfl | rfl <;> rfl
    rcases prefN_stopW hq ht with he | hge
    · rw [he] at hxx
      rcases Nat.lt_or_ge (prefN t) t.length with hlt | hge
      · rw [List.getElem?_append_left hlt] at hxx
        have := hn x hxx
        rw [hqx] at this; cases this
      · rw [← he] at hxx hge
        exact absurd (stopAt hxx hge hqx) id
    · exact absurd (stopAt hxx hge hqx) id
where
  stopAt {x : Int} (hxx : (t ++ q)[prefN (t ++ q)]? = some x) (hge : t.length ≤ prefN (t ++ q)) (hqx : quoteB x = true) : False := by
    rw [List.getElem?_append_right hge] at hxx
    match t, ht with
    | c :: t, _ =>
      have hq' : ∃ h r, q = h :: r ∧ (h = 32 ∨ h = 9 ∨ h = 11 ∨ h = 10) := by
        rcases hq with rfl | hq
        · simp at hxx
        · exact hq
      obtain ⟨h, r, rfl, hh⟩ := hq'
      rcases prefN_head c (t ++ h :: r) with h0 | ⟨_, h2, h1⟩
      · rw [List.cons_append, h0] at hge; simp at hge
      · rw [List.cons_append] at hge hxx
        simp only [List.length_cons] at hge hxx
        rcases Nat.eq_or_lt_of_le hge with he | hlt
        · rw [← he, Nat.sub_self] at hxx
          simp only [List.getElem?_cons_zero, Option.some.injEq] at hxx
          subst hxx
          rcases hh with rfl | rfl | rfl | rfl <;> exact absurd hqx (by decide)
        · have h2' : prefN (c :: (t ++ h :: r)) = 2 := by omega
          have ht0 : t = [] := List.eq_nil_of_length_eq_zero (by omega)
          subst ht0
          have := prefN_two h2'
          simp only [List.nil_append, List.head?_cons, Option.some.injEq] at this
          subst this
          rcases hh with hh | hh | hh | hh <;> cases hh
theorem bestL_stopW {q : Bs} (hq : stopW q) {t : Bs} (ht : t ≠ []) (hn : 0 < (litQ t).2 ∨ nqs t) : bestL (t ++ q) = bestL t := by
  have hl : litQ (t ++ q) = litQ t := by
    rcases Nat.eq_zero_or_pos (litQ t).2 with h0 | h0
    · rcases hn with hn | hn
      · omega
      · rw [litQ_zero h0, litQ_zero (litQ_stopW hq ht hn)]
    · exact litQ_app q h0
  unfold bestL
  rw [hl, wordN_stopW hq ht, numN_stopW hq ht, punN_stopW hq t]
theorem take2_stopW {t q : Bs} (hq : stopW q) (ht : t ≠ []) {x : Int} (hx : x = 42 ∨ x = 47) : ((t ++ q).take 2 = [47, x]) ↔ (t.take 2 = [47, x]) := by
  match t, ht with
  | [c], _ =>
    rcases hq with rfl | ⟨h, r, rfl, hh⟩
    · exact Iff.rfl
    · constructor
      · intro e
        simp at e
        omega
      · intro e; simp at e
  | a :: b :: t, _ => exact Iff.rfl
theorem item_stopW {t q : Bs} (ht : t ≠ []) (hq : stopW q) (hn : 0 < (litQ t).2 ∨ nqs t) (ho : ¬ isOpen t = true) (hs : ¬ isLine t = true) : itemP false (t ++ q) = itemP false t := by
  have ho' : isOpen (t ++ q) = isOpen t := by unfold isOpen; rw [decide_eq_decide]; exact take2_stopW hq ht (.inl rfl)
  have hs' : isLine (t ++ q) = isLine t := by unfold isLine; rw [decide_eq_decide]; exact take2_stopW hq ht (.inr rfl)
  have hh : (t ++ q).head? = t.head? := by cases t with
    | nil => exact absurd rfl ht
    | cons => rfl
  have hqh : qHead (t ++ q) = qHead t := by cases t with
    | nil => exact absurd rfl ht
    | cons => rfl
  unfold itemP
  rw [if_neg (show ¬ (false = true ∧ 0 < hdrN (t ++ q)) by simp), if_neg (show ¬ (false = true ∧ 0 < hdrN t) by simp), ho', hs', hh, hqh, bestL_stopW hq ht hn]
  rw [if_neg ho, if_neg hs, if_neg ho, if_neg hs]
end Go.Lx
namespace Go.Lx
def lexG : Nat → Int → Bool → Bs → List (Bool × Int × Bs)
  | 0, _, _, _ => []
  | _ + 1, _, _, [] => []
  | n + 1, st, sp, c :: r => match white c with
    | true => lexG n st true r
    | false => if (itemP (decide (st = 2)) (c :: r)).err ≠ 0 then []
      else (sp, (itemP (decide (st = 2)) (c :: r)).kind, (c :: r).take (itemP (decide (st = 2)) (c :: r)).len) ::
        lexG n (after st (itemP (decide (st = 2)) (c :: r)).kind ((c :: r).take (itemP (decide (st = 2)) (c :: r)).len)) false ((c :: r).drop (itemP (decide (st = 2)) (c :: r)).len)
theorem lexG_nil (n : Nat) (st : Int) (sp : Bool) : lexG n st sp [] = [] := by cases n <;> rfl
theorem lexG_F : ∀ (n : Nat) (st : Int) (sp : Bool) (l : Bs), (lexG n st sp l).map (·.2) = lexF n st l
  | 0, _, _, _ => rfl
  | _ + 1, _, _, [] => rfl
  | n + 1, st, sp, c :: r => by
    cases hw : white c with
    | true => simp only [lexG, lexF, hw]; exact lexG_F n st true r
    | false =>
      simp only [lexG, lexF, hw]
      split
      · rfl
      · rw [List.map_cons, lexG_F n]
def bareG : Bool → List (Bool × Int × Bs) → List (Bool × Int × Bs)
  | _, [] => []
  | dr, t :: r => if t.2.1 = 8 then bareG true r else (t.1 || dr, t.2.1, t.2.2) :: bareG false r
def fillW : Nat → Bs
  | 0 => [32]
  | 1 => [9]
  | 2 => [32, 47, 42, 32, 120, 32, 42, 47]
  | 3 => [32, 32]
  | 4 => [32, 47, 42, 42, 47, 32, 47, 42, 32, 10, 32, 42, 47]
  | _ => [11, 12]
def ren (w : Nat → Nat) : Nat → List (Bool × Int × Bs) → Bs
  | _, [] => []
  | i, t :: r => (if (decide (t.2.1 = 8) || t.1) = true then fillW (w i) else []) ++ (if t.2.1 = 8 then [] else t.2.2) ++ ren w (i + 1) r
theorem fill_stop (k : Nat) (z : Bs) : stopW (fillW k ++ z) := by
  unfold fillW
  split
  · exact .inr ⟨32, _, rfl, .inl rfl⟩
  · exact .inr ⟨9, _, rfl, .inr (.inl rfl)⟩
  · exact .inr ⟨32, _, rfl, .inl rfl⟩
  · exact .inr ⟨32, _, rfl, .inl rfl⟩
  · exact .inr ⟨32, _, rfl, .inl rfl⟩
  · exact .inr ⟨11, _, rfl, .inr (.inr (.inl rfl))⟩
theorem lexG_white {n : Nat} {st : Int} {sp : Bool} {c : Int} {r : Bs} (h : white c = true) : lexG (n + 1) st sp (c :: r) = lexG n st true r := by
  simp only [lexG, h]
theorem okF_white {n : Nat} {st : Int} {c : Int} {r : Bs} (h : white c = true) : okF (n + 1) st (c :: r) = okF n st r := by
  simp only [okF, h]
theorem lexG_rem {n : Nat} {st : Int} {sp : Bool} {x : Bs} {z : Bs} (hst : st ≠ 2) (he : endC x = x.length) (hx : 0 < x.length) :
    lexG (n + 1) st sp (47 :: 42 :: (x ++ z)) = (sp, 8, 47 :: 42 :: x) :: lexG n st false z ∧ (okF (n + 1) st (47 :: 42 :: (x ++ z)) ↔ okF n st z) := by
  obtain ⟨k, hk⟩ : ∃ k, x.length = k + 1 := ⟨x.length - 1, by omega⟩
  have hi : itemP (decide (st = 2)) (47 :: 42 :: (x ++ z)) = ⟨8, x.length + 2, 0⟩ := by
    unfold itemP
    rw [if_neg (by simp [hst]), if_pos (by simp [isOpen])]
    have : endC ((47 :: 42 :: (x ++ z)).drop 2) = k + 1 := by
      show endC (x ++ z) = k + 1
      rw [endC_app x z (by omega), he, hk]
    rw [this, hk]
  have ht : (47 :: 42 :: (x ++ z)).take (x.length + 2) = 47 :: 42 :: x := by
    rw [List.take_succ_cons, List.take_succ_cons, List.take_left]
  have hd : (47 :: 42 :: (x ++ z)).drop (x.length + 2) = z := by
    rw [List.drop_succ_cons, List.drop_succ_cons, List.drop_left]
  have ha : after st 8 (47 :: 42 :: x) = st := by unfold after; rw [if_pos rfl]
  constructor
  · simp only [lexG, show white 47 = false from rfl, hi]
    rw [if_neg (by simp), ht, hd, ha]
  · simp only [okF, show white 47 = false from rfl, hi]
    rw [ht, hd, ha]
    simp
def nlLast : List (Bool × Int × Bs) → Prop
  | [] => True
  | t :: r => (t.2.1 = 9 → r = []) ∧ nlLast r
theorem nlLast_rem {sp : Bool} {x : Bs} {X : List (Bool × Int × Bs)} (h : nlLast X) : nlLast ((sp, 8, x) :: X) := by
  unfold nlLast
  exact ⟨fun (e : (8 : Int) = 9) => absurd e (by decide), h⟩
theorem fill_lex (k : Nat) {st : Int} (hst : st ≠ 2) (m : Nat) (sp dr : Bool) (z : Bs) (hm : (fillW k ++ z).length ≤ m) :
    ∃ m' sp' dr', z.length ≤ m' ∧ (sp' || dr') = true ∧ bareG dr (lexG m st sp (fillW k ++ z)) = bareG dr' (lexG m' st sp' z) ∧ (okF m st (fillW k ++ z) ↔ okF m' st z) ∧ (nlLast (lexG m' st sp' z) → nlLast (lexG m st sp (fillW k ++ z))) := by
  rw [List.length_append] at hm
  unfold fillW at *
  split at hm
  · obtain ⟨n, rfl⟩ : ∃ n, m = n + 1 := ⟨m - 1, by simp at hm; omega⟩
    simp only [List.length_cons, List.length_nil] at hm
    refine ⟨n, true, dr, by omega, rfl, ?_, ?_, ?_⟩
    · rw [List.cons_append, lexG_white rfl]; rfl
    · rw [List.cons_append, okF_white rfl]; exact Iff.rfl
    · rw [List.cons_append, lexG_white rfl]; exact id
  · obtain ⟨n, rfl⟩ : ∃ n, m = n + 1 := ⟨m - 1, by simp at hm; omega⟩
    simp only [List.length_cons, List.length_nil] at hm
    refine ⟨n, true, dr, by omega, rfl, ?_, ?_, ?_⟩
    · rw [List.cons_append, lexG_white rfl]; rfl
    · rw [List.cons_append, okF_white rfl]; exact Iff.rfl
    · rw [List.cons_append, lexG_white rfl]; exact id
  · simp only [List.length_cons, List.length_nil] at hm
    obtain ⟨n, rfl⟩ : ∃ n, m = n + 1 + 1 := ⟨m - 2, by omega⟩
    have h := lexG_rem (n := n) (sp := true) (x := [32, 120, 32, 42, 47]) (z := z) hst (by decide) (by decide)
    refine ⟨n, false, true, by omega, rfl, ?_, ?_, ?_⟩
    · rw [List.cons_append, lexG_white rfl]
      refine (congrArg (bareG dr) h.1).trans ?_
      rw [bareG, if_pos rfl]
    · rw [List.cons_append, okF_white rfl]; exact h.2
    · rw [List.cons_append, lexG_white rfl]
      intro hh
      have e : lexG (n + 1) st true ([47, 42, 32, 120, 32, 42, 47] ++ z) = _ := h.1
      rw [e]; exact nlLast_rem hh
  · simp only [List.length_cons, List.length_nil] at hm
    obtain ⟨n, rfl⟩ : ∃ n, m = n + 1 + 1 := ⟨m - 2, by omega⟩
    refine ⟨n, true, dr, by omega, rfl, ?_, ?_, ?_⟩
    · rw [List.cons_append, lexG_white rfl, List.cons_append, lexG_white rfl]; rfl
    · rw [List.cons_append, okF_white rfl, List.cons_append, okF_white rfl]; exact Iff.rfl
    · rw [List.cons_append, lexG_white rfl, List.cons_append, lexG_white rfl]; exact id
  · simp only [List.length_cons, List.length_nil] at hm
    obtain ⟨n, rfl⟩ : ∃ n, m = n + 1 + 1 + 1 + 1 := ⟨m - 4, by omega⟩
    have h2 := lexG_rem (n := n) (sp := true) (x := [32, 10, 32, 42, 47]) (z := z) hst (by decide) (by decide)
    have h1 := lexG_rem (n := n + 1 + 1) (sp := true) (x := [42, 47]) (z := 32 :: 47 :: 42 :: ([32, 10, 32, 42, 47] ++ z)) hst (by decide) (by decide)
    refine ⟨n, false, true, by omega, rfl, ?_, ?_, ?_⟩
    · rw [List.cons_append, lexG_white rfl]
      refine (congrArg (bareG dr) h1.1).trans ?_
      rw [bareG, if_pos rfl, lexG_white rfl, h2.1, bareG, if_pos rfl]
    · rw [List.cons_append, okF_white rfl]
      refine h1.2.trans ?_
      rw [okF_white rfl]; exact h2.2
    · rw [List.cons_append, lexG_white rfl]
      intro hh
      have e : lexG (n + 1 + 1 + 1) st true ([47, 42, 42, 47, 32, 47, 42, 32, 10, 32, 42, 47] ++ z) = _ := h1.1
      rw [e, lexG_white rfl, h2.1]; exact nlLast_rem (nlLast_rem hh)
  · simp only [List.length_cons, List.length_nil] at hm
    obtain ⟨n, rfl⟩ : ∃ n, m = n + 1 + 1 := ⟨m - 2, by omega⟩
    refine ⟨n, true, dr, by omega, rfl, ?_, ?_, ?_⟩
    · rw [List.cons_append, lexG_white rfl, List.cons_append, lexG_white rfl]; rfl
    · rw [List.cons_append, okF_white rfl, List.cons_append, okF_white rfl]; exact Iff.rfl
    · rw [List.cons_append, lexG_white rfl, List.cons_append, lexG_white rfl]; exact id
theorem quote_best {t : Bs} {c : Int} (h : t.head? = some c) (hq : quoteB c = true) (hb : (bestL t).1 ≠ 0) : 0 < (litQ t).2 := by
  cases t with
  | nil => cases h
  | cons d r =>
    simp only [List.head?_cons, Option.some.injEq] at h
    subst h
    unfold bestL at hb
    by_cases h1 : 0 < (litQ (d :: r)).2
    · exact h1
    · exfalso
      have hl : letter d = false := by
        unfold quoteB at hq
        simp only [Bool.or_eq_true, decide_eq_true_eq] at hq
        rcases hq with rfl | rfl <;> rfl
      have hd : digit d = false := by
        unfold quoteB at hq
        simp only [Bool.or_eq_true, decide_eq_true_eq] at hq
        rcases hq with rfl | rfl <;> rfl
      have h46 : d ≠ 46 := by
        unfold quoteB at hq
        simp only [Bool.or_eq_true, decide_eq_true_eq] at hq
        omega
      rw [if_neg h1, if_neg (by simp [wordN, hl])] at hb
      have hn : numN (d :: r) = 0 := by
        simp only [numN, hd]
        cases r with
        | nil => simp [h46]
        | cons e r => simp [h46]
      rw [if_neg (by omega)] at hb
      have hp : punN (d :: r) = 0 := by
        rcases Nat.eq_zero_or_pos (punN (d :: r)) with h0 | h0
        · exact h0
        · obtain ⟨c', r', e, h3, _⟩ := punN_head h0
          rw [List.cons.injEq] at e
          rw [← e.1, noPun_quote hq] at h3; cases h3
      rw [if_neg (by omega)] at hb
      exact hb rfl
theorem prefN_quote {c : Int} {r : Bs} (hq : quoteB c = true) : prefN (c :: r) = 0 := by
  unfold quoteB at hq
  simp only [Bool.or_eq_true, decide_eq_true_eq] at hq
  rcases hq with rfl | rfl <;> simp [prefN]
theorem litQ_pref {B Y : Bs} (h : B.drop (prefN B) = Y) {c : Int} (hc : Y.head? = some c) (hq : quoteB c = true) (hY : 0 < (litQ Y).2) : 0 < (litQ B).2 := by
  cases Y with
  | nil => cases hc
  | cons d r =>
    simp only [List.head?_cons, Option.some.injEq] at hc
    subst hc
    unfold litQ at hY ⊢
    rw [prefN_quote hq, List.drop_zero] at hY
    rw [h]
    simp only at hY ⊢
    by_cases h34 : d = 34
    · rw [if_pos h34] at hY ⊢
      cases hb : bodyN 34 r with
      | zero => rw [hb] at hY; cases hY
      | succ n => show 0 < prefN B + 1 + (n + 1); omega
    · rw [if_neg h34] at hY ⊢
      by_cases h39 : d = 39
      · rw [if_pos h39] at hY ⊢
        match hb : bodyN 39 r with
        | 0 => rw [hb] at hY; cases hY
        | 1 => rw [hb] at hY; cases hY
        | n + 2 => show 0 < prefN B + 1 + (n + 2); omega
      · rw [if_neg h39] at hY; cases hY
end Go.Lx
namespace Go.Lx
theorem lexG_item {n : Nat} {st : Int} {sp : Bool} {c : Int} {r : Bs} (hst : st ≠ 2) (hw : white c = false) (he : (itemP false (c :: r)).err = 0) :
    lexG (n + 1) st sp (c :: r) = (sp, (itemP false (c :: r)).kind, (c :: r).take (itemP false (c :: r)).len) :: lexG n (after st (itemP false (c :: r)).kind ((c :: r).take (itemP false (c :: r)).len)) false ((c :: r).drop (itemP false (c :: r)).len) := by
  have hd : decide (st = 2) = false := decide_eq_false hst
  simp only [lexG, hw, hd]
  rw [if_neg (by simpa using he)]
theorem okF_item {n : Nat} {st : Int} {c : Int} {r : Bs} (hst : st ≠ 2) (hw : white c = false) :
    okF (n + 1) st (c :: r) ↔ (itemP false (c :: r)).err = 0 ∧ okF n (after st (itemP false (c :: r)).kind ((c :: r).take (itemP false (c :: r)).len)) ((c :: r).drop (itemP false (c :: r)).len) := by
  have hd : decide (st = 2) = false := decide_eq_false hst
  simp only [okF, hw, hd]
theorem after3 {k : Int} {t : Bs} (h : k ≠ 9) : after 3 k t = 3 := by
  unfold after
  by_cases h8 : k = 8
  · rw [if_pos h8]
  · rw [if_neg h8, if_neg h, if_neg (by simp), if_neg (by simp)]
theorem lexG_true (n : Nat) (st : Int) : ∀ (l : Bs), ∀ t ts, lexG n st true l = t :: ts → t.1 = true := by
  induction n with
  | zero => intro l t ts h; cases h
  | succ n ih =>
    intro l t ts h
    cases l with
    | nil => cases h
    | cons c r =>
      cases hw : white c with
      | true => rw [lexG_white hw] at h; exact ih r t ts h
      | false =>
        simp only [lexG, hw] at h
        split at h
        · cases h
        · rw [List.cons.injEq] at h; rw [← h.1]
theorem chainR (w : Nat → Nat) : ∀ (n : Nat) (R : Bs) (i : Nat), R.length ≤ n → okF n 3 R →
    ∃ Y r q, R = Y ++ r ∧ ren w i (lexG n 3 false R) = Y ++ q ∧ stopW q ∧ (∀ c, Y.head? = some c → quoteB c = true → 0 < (litQ Y).2)
  | 0, R, i, h, _ => by
    have : R = [] := List.eq_nil_of_length_eq_zero (by omega)
    subst this
    exact ⟨[], [], [], rfl, rfl, .inl rfl, fun c h => by cases h⟩
  | n + 1, [], i, _, _ => ⟨[], [], [], rfl, rfl, .inl rfl, fun c h => by cases h⟩
  | n + 1, c :: r, i, h, hok => by
    simp only [List.length_cons] at h
    cases hw : white c with
    | true =>
      refine ⟨[], c :: r, _, rfl, (List.nil_append _).symm, ?_, fun c h => by cases h⟩
      rw [lexG_white hw]
      cases hl : lexG n 3 true r with
      | nil => exact .inl rfl
      | cons t ts =>
        have ht := lexG_true n 3 r t ts hl
        rw [ren, ht, Bool.or_true, if_pos rfl, List.append_assoc]
        exact fill_stop _ _
    | false =>
      rw [okF_item (by decide) hw] at hok
      obtain ⟨he, hok⟩ := hok
      rw [lexG_item (by decide) hw he]
      have hp := item_pos he
      obtain ⟨k, hk⟩ : ∃ k, k = (itemP false (c :: r)).kind := ⟨_, rfl⟩
      obtain ⟨e, hle⟩ : ∃ e, e = (itemP false (c :: r)).len := ⟨_, rfl⟩
      rw [← hk, ← hle] at hok ⊢
      rw [← hle] at hp
      by_cases h8 : k = 8
      · subst h8
        refine ⟨[], c :: r, _, rfl, (List.nil_append _).symm, ?_, fun c h => by cases h⟩
        rw [ren, if_pos (by simp), List.append_assoc]
        exact fill_stop _ _
      · by_cases h9 : k = 9
        · have hnl := item_nl (hdr := false) (l := c :: r) (by rw [← hk]; exact h9)
          rw [List.head?_cons, Option.some.injEq] at hnl
          refine ⟨[], c :: r, _, rfl, (List.nil_append _).symm, ?_, fun c h => by cases h⟩
          rw [ren, if_neg (by simp [h8]), if_neg h8, hle, hnl.2, hnl.1]
          exact .inr ⟨10, _, rfl, .inr (.inr (.inr rfl))⟩
        · rw [after3 h9] at hok ⊢
          obtain ⟨Y, r2, q, h1, h2, h3, h4⟩ := chainR w n ((c :: r).drop e) (i + 1) (by rw [List.length_drop, List.length_cons]; omega) hok
          refine ⟨(c :: r).take e ++ Y, r2, q, ?_, ?_, h3, fun x hx hq => ?_⟩
          · rw [List.append_assoc, ← h1, List.take_append_drop]
          · rw [ren, if_neg (by simp [h8]), if_neg h8, h2]
            simp
          · obtain ⟨m, rfl⟩ : ∃ m, e = m + 1 := ⟨e - 1, by omega⟩
            have hx : c = x := by simpa using hx
            subst hx
            have ht := itemP_take (l := c :: r) (n := m + 1) (by simp) he (by omega)
            have hb : (bestL ((c :: r).take (m + 1))).1 ≠ 0 := by
              intro h0
              have h10 : c ≠ 10 := by rintro rfl; exact absurd hq (by decide)
              have h47 : c ≠ 47 := by rintro rfl; exact absurd hq (by decide)
              rw [← ht] at he
              unfold itemP at he
              rw [if_neg (by simp), if_neg (by simp [isOpen, h47]), if_neg (by simp [isLine, h47]), if_neg (by simp [h10]), if_neg (by simpa using h0), if_pos (by simpa [qHead] using hq)] at he
              cases he
            have := quote_best (t := (c :: r).take (m + 1)) (c := c) (by simp) hq hb
            rw [litQ_app Y this]; exact this
theorem item_ren {w : Nat → Nat} {n i : Nat} {c : Int} {r : Bs} {ts : List (Bool × Int × Bs)} (he : (itemP false (c :: r)).err = 0) (h8 : (itemP false (c :: r)).kind ≠ 8) (h9 : (itemP false (c :: r)).kind ≠ 9)
    (hl : ((c :: r).drop (itemP false (c :: r)).len).length ≤ n) (hok : okF n 3 ((c :: r).drop (itemP false (c :: r)).len)) (hts : ts = lexG n 3 false ((c :: r).drop (itemP false (c :: r)).len)) :
    itemP false ((c :: r).take (itemP false (c :: r)).len ++ ren w i ts) = itemP false (c :: r) := by
  obtain ⟨Y, r2, q, h1, h2, h3, h4⟩ := chainR w n _ i hl hok
  rw [hts, h2]
  have hp := item_pos he
  obtain ⟨e, hle⟩ : ∃ e, e = (itemP false (c :: r)).len := ⟨_, rfl⟩
  rw [← hle] at hp h1 ⊢
  obtain ⟨B, hB⟩ : ∃ B, B = (c :: r).take e ++ Y := ⟨_, rfl⟩
  have hlB : c :: r = B ++ r2 := by rw [hB, List.append_assoc, ← h1, List.take_append_drop]
  have htl : ((c :: r).take e).length = e := by rw [List.length_take, List.length_cons]; omega
  have hBl : B.length = e + Y.length := by rw [hB, List.length_append, htl]
  have hBt : (c :: r).take B.length = B := by rw [hlB, List.take_left]
  have hit : itemP false B = itemP false (c :: r) := by
    rw [← hBt]
    exact itemP_take (by simp) he (by omega)
  have hBne : B ≠ [] := by intro h0; rw [h0] at hBl; simp at hBl; omega
  rw [← List.append_assoc, ← hB]
  have ho : ¬ isOpen B = true := by
    intro ho
    rw [← hit] at he h8
    unfold itemP at he h8
    rw [if_neg (by simp), if_pos ho] at he h8
    split at he
    · cases he
    · rename_i hh; rw [hh] at h8; exact h8 rfl
  have hs : ¬ isLine B = true := by
    intro hs
    rw [← hit] at h8
    unfold itemP at h8
    rw [if_neg (by simp), if_neg ho, if_pos hs] at h8
    exact h8 rfl
  rw [item_stopW hBne h3 ?_ ho hs, hit]
  rcases Nat.eq_zero_or_pos (litQ B).2 with h0 | h0
  · right
    intro z hz
    cases hqz : quoteB z with
    | false => rfl
    | true =>
      exfalso
      have hBc : ∃ B', B = c :: B' := by
        cases B with
        | nil => exact absurd rfl hBne
        | cons d B' => rw [List.cons_append, List.cons.injEq] at hlB; exact ⟨B', by rw [hlB.1]⟩
      obtain ⟨B', rfl⟩ := hBc
      have h10 : c ≠ 10 := by
        rintro rfl
        rw [← hit, nl_item] at h9; exact h9 rfl
      have hle2 : e = (itemP false (c :: B')).len := by rw [hit]; exact hle
      have he2 : (itemP false (c :: B')).err = 0 := by rw [hit]; exact he
      unfold itemP at hle2 he2
      rw [if_neg (by simp), if_neg ho, if_neg hs, if_neg (by simp [h10])] at hle2 he2
      rcases Nat.eq_zero_or_pos (prefN (c :: B')) with hp0 | hp0
      · rw [hp0] at hz
        simp only [List.getElem?_cons_zero, Option.some.injEq] at hz
        subst hz
        by_cases hb : (bestL (c :: B')).1 ≠ 0
        · have := quote_best (t := c :: B') (c := c) rfl hqz hb; omega
        · rw [if_neg hb, if_pos (by simpa [qHead] using hqz)] at he2
          cases he2
      · rcases prefN_head c B' with hh | ⟨h5, h6, h7⟩
        · omega
        · have hlet : letter c = true := by rcases h5 with rfl | rfl | rfl <;> rfl
          have hqa : alnum z = false := by
            unfold quoteB at hqz
            simp only [Bool.or_eq_true, decide_eq_true_eq] at hqz
            rcases hqz with rfl | rfl <;> rfl
          have hwp : 0 < wordN (c :: B') := by simp only [wordN, hlet]; omega
          have hbest : bestL (c :: B') = (1, wordN (c :: B')) := by
            unfold bestL
            rw [if_neg (by omega), if_pos hwp]
          rw [if_pos (by rw [hbest]; simp), hbest] at hle2
          have hle2 : e = wordN (c :: B') := hle2
          have hep : e = prefN (c :: B') := by
            rw [hle2]
            rcases Nat.eq_or_lt_of_le h7 with h7' | h7'
            · rw [← h7'] at hz ⊢
              cases B' with
              | nil => simp at hz
              | cons d B' =>
                simp only [List.getElem?_cons_succ, List.getElem?_cons_zero, Option.some.injEq] at hz
                subst hz
                simp only [wordN, hlet, run, hqa]
            · have hp2 : prefN (c :: B') = 2 := by omega
              have hd := prefN_two hp2
              rw [hp2] at hz ⊢
              match B', hz, hd with
              | d :: d2 :: B', hz, hd =>
                simp only [List.getElem?_cons_succ, List.getElem?_cons_zero, Option.some.injEq] at hz
                simp only [List.head?_cons, Option.some.injEq] at hd
                subst hz hd
                simp only [wordN, hlet, run, hqa, show alnum 56 = true from rfl]
          have hY : (c :: B').drop (prefN (c :: B')) = Y := by
            rw [← hep, hB, List.drop_left' htl]
          have hYh : Y.head? = some z := by
            rw [← hY, List.head?_drop]; exact hz
          have := litQ_pref hY hYh hqz (h4 z hYh hqz)
          omega
  · exact .inl h0
end Go.Lx
namespace Go.Lx
theorem pre_lex (b : Bool) (k : Nat) (m : Nat) (sp dr : Bool) (z : Bs) (hm : ((if b = true then fillW k else []) ++ z).length ≤ m) :
    ∃ m' sp' dr', z.length ≤ m' ∧ (dr' || sp') = ((dr || sp) || b) ∧ bareG dr (lexG m 3 sp ((if b = true then fillW k else []) ++ z)) = bareG dr' (lexG m' 3 sp' z) ∧ (okF m 3 ((if b = true then fillW k else []) ++ z) ↔ okF m' 3 z) ∧ (nlLast (lexG m' 3 sp' z) → nlLast (lexG m 3 sp ((if b = true then fillW k else []) ++ z))) := by
  cases b with
  | false => exact ⟨m, sp, dr, hm, by simp, rfl, Iff.rfl, id⟩
  | true =>
    rw [if_pos rfl] at hm ⊢
    obtain ⟨m', sp', dr', h1, h2, h3, h4, h5⟩ := fill_lex k (st := 3) (by decide) m sp dr z hm
    exact ⟨m', sp', dr', h1, by rw [Bool.or_comm, h2, Bool.or_true], h3, h4, h5⟩
theorem glue {a a' c c' : Prop} {x y v : List (Bool × Int × Bs)} (h1 : a ↔ a') (h2 : x = y) (h3 : c' → c) (h : a' ∧ y = v ∧ c') : a ∧ x = v ∧ c := ⟨h1.2 h.1, h2.trans h.2.1, h3 h.2.2⟩
theorem ren_law (w : Nat → Nat) : ∀ (n : Nat) (l : Bs) (i : Nat) (sp : Bool) (m : Nat) (dr sp' : Bool), l.length ≤ n → okF n 3 l → nlLast (lexG n 3 sp l) → (ren w i (lexG n 3 sp l)).length ≤ m →
    okF m 3 (ren w i (lexG n 3 sp l)) ∧ bareG dr (lexG m 3 sp' (ren w i (lexG n 3 sp l))) = bareG (dr || sp') (lexG n 3 sp l) ∧ nlLast (lexG m 3 sp' (ren w i (lexG n 3 sp l)))
  | 0, l, i, sp, m, dr, sp', h, _, _, _ => by
    rw [show lexG 0 3 sp l = [] from rfl, ren, lexG_nil]
    exact ⟨okF_nil _ _, rfl, trivial⟩
  | n + 1, [], i, sp, m, dr, sp', h, _, _, _ => by
    rw [lexG_nil, ren, lexG_nil]
    exact ⟨okF_nil _ _, rfl, trivial⟩
  | n + 1, c :: r, i, sp, m, dr, sp', h, hok, hnl, hm => by
    simp only [List.length_cons] at h
    cases hw : white c with
    | true =>
      rw [lexG_white hw] at hnl hm ⊢
      rw [okF_white hw] at hok
      exact ren_law w n r i true m dr sp' (by omega) hok hnl hm
    | false =>
      rw [okF_item (by decide) hw] at hok
      obtain ⟨he, hok⟩ := hok
      have hp := item_pos he
      rw [lexG_item (by decide) hw he] at hnl hm ⊢
      have hdl : ((c :: r).drop (itemP false (c :: r)).len).length ≤ n := by rw [List.length_drop, List.length_cons]; omega
      obtain ⟨hn9, hnl⟩ := hnl
      simp only at hn9
      simp only [ren] at hm ⊢
      rw [List.append_assoc] at hm ⊢
      obtain ⟨m1, s1, d1, q1, q2, q3, q4, q5⟩ := pre_lex _ _ m sp' dr _ hm
      refine glue q4 q3 q5 ?_
      clear q3 q4 q5
      by_cases h8 : (itemP false (c :: r)).kind = 8
      · rw [if_pos h8, List.nil_append] at q1 ⊢
        have ha : after 3 (itemP false (c :: r)).kind ((c :: r).take (itemP false (c :: r)).len) = 3 := after3 (by rw [h8]; decide)
        rw [ha] at hok hnl q1 ⊢
        have ih := ren_law w n _ (i + 1) false m1 d1 s1 hdl hok hnl q1
        refine ⟨ih.1, ih.2.1.trans ?_, ih.2.2⟩
        rw [q2, bareG, if_pos h8, h8]
        simp
      · rw [if_neg h8] at q1 ⊢
        have hb8 : decide ((itemP false (c :: r)).kind = 8) = false := decide_eq_false h8
        rw [hb8, Bool.false_or] at q2
        by_cases h9 : (itemP false (c :: r)).kind = 9
        · have h0 := hn9 h9
          rw [h0] at q1 ⊢
          have hi := item_nl (hdr := false) h9
          rw [List.head?_cons, Option.some.injEq] at hi
          rw [ren, List.append_nil, hi.2, hi.1] at q1 ⊢
          have q1 : 1 ≤ m1 := q1
          obtain ⟨m2, rfl⟩ : ∃ m2, m1 = m2 + 1 := ⟨m1 - 1, by omega⟩
          have ht : (10 :: r).take 1 = [10] := rfl
          have e1 : itemP false [10] = ⟨9, 1, 0⟩ := nl_item false []
          have e2 : lexG (m2 + 1) 3 s1 [10] = [(s1, 9, [10])] := by
            rw [lexG_item (by decide) rfl (by rw [e1]), e1]
            show (s1, 9, [10]) :: lexG m2 _ false [] = _
            rw [lexG_nil]
          have e3 : okF (m2 + 1) 3 [10] := by
            rw [okF_item (by decide) rfl, e1]
            exact ⟨rfl, okF_nil _ _⟩
          rw [ht, e2]
          refine ⟨e3, ?_, ⟨fun _ => rfl, trivial⟩⟩
          rw [nl_item]
          simp only [bareG]
          rw [if_neg (by decide), if_neg (by decide), Bool.or_comm s1 d1, q2, Bool.or_comm _ sp]
        · have ha : after 3 (itemP false (c :: r)).kind ((c :: r).take (itemP false (c :: r)).len) = 3 := after3 h9
          rw [ha] at hok hnl q1 ⊢
          have hir := item_ren (w := w) (i := i + 1) he h8 h9 hdl hok rfl
          obtain ⟨e, hle⟩ : ∃ e, e = (itemP false (c :: r)).len := ⟨_, rfl⟩
          obtain ⟨k, hk⟩ : ∃ k, k = (itemP false (c :: r)).kind := ⟨_, rfl⟩
          have hitem : (itemP false (c :: r)) = ⟨k, e, 0⟩ := by rw [hk, hle]; exact (by cases hx : itemP false (c :: r); rw [hx] at he; simp only at he; rw [he])
          rw [hitem] at hir q1 hdl hok hnl hp ⊢
          simp only at hir q1 hdl hok hnl hp ⊢
          obtain ⟨ts, hts⟩ : ∃ ts, ts = lexG n 3 false ((c :: r).drop e) := ⟨_, rfl⟩
          rw [← hts] at hir q1 hnl ⊢
          obtain ⟨f, rfl⟩ : ∃ f, e = f + 1 := ⟨e - 1, by omega⟩
          have htl : ((c :: r).take (f + 1)).length = f + 1 := by rw [List.length_take, List.length_cons]; omega
          rw [List.length_append, htl] at q1
          obtain ⟨m2, rfl⟩ : ∃ m2, m1 = m2 + 1 := ⟨m1 - 1, by omega⟩
          have hcons : (c :: r).take (f + 1) ++ ren w (i + 1) ts = c :: (r.take f ++ ren w (i + 1) ts) := by rw [List.take_succ_cons, List.cons_append]
          have hzt : ((c :: r).take (f + 1) ++ ren w (i + 1) ts).take (f + 1) = (c :: r).take (f + 1) := List.take_left' htl
          have hzd : ((c :: r).take (f + 1) ++ ren w (i + 1) ts).drop (f + 1) = ren w (i + 1) ts := List.drop_left' htl
          have hax : after 3 k ((c :: r).take (f + 1)) = 3 := after3 (by rw [hk]; exact h9)
          have ih := ren_law w n _ (i + 1) false m2 false false hdl hok (by rw [← hts]; exact hnl) (by rw [← hts]; omega)
          rw [← hts] at ih
          have hL : lexG (m2 + 1) 3 s1 ((c :: r).take (f + 1) ++ ren w (i + 1) ts) = (s1, k, (c :: r).take (f + 1)) :: lexG m2 3 false (ren w (i + 1) ts) := by
            rw [hcons] at hir hzt hzd ⊢
            rw [lexG_item (by decide) hw (by rw [hir]), hir]
            simp only
            rw [hzt, hzd, hax]
          have hO : okF (m2 + 1) 3 ((c :: r).take (f + 1) ++ ren w (i + 1) ts) ↔ okF m2 3 (ren w (i + 1) ts) := by
            rw [hcons] at hir hzt hzd ⊢
            rw [okF_item (by decide) hw, hir]
            simp only
            rw [hzt, hzd, hax]
            simp
          rw [hL, hO]
          refine ⟨ih.1, ?_, ⟨fun (e : k = 9) => absurd (hk ▸ e) h9, ih.2.2⟩⟩
          have hk8 : k ≠ 8 := by rw [hk]; exact h8
          rw [bareG, if_neg hk8, ih.2.1, bareG, if_neg hk8]
          simp only [Bool.or_false]
          rw [Bool.or_comm s1 d1, q2, Bool.or_comm _ sp]
end Go.Lx
namespace Go.Proofs.Ytdonomneofdhfaa
open Go.GV Go.RowKit
theorem pb_mem_step {L : List ByteArray} {i : Nat} {s : ByteArray} (hi : i < L.length) (h : s ∉ L.take i) (hne : s ≠ L.getD i ⟨#[]⟩) : s ∉ L.take (i + 1) := by
  rw [take_get (List.getElem?_eq_getElem hi)]
  intro hm
  rcases List.mem_append.1 hm with hm | hm
  · exact h hm
  · rw [List.mem_singleton] at hm
    refine hne ?_
    rw [hm, List.getD_eq_getElem?_getD, List.getElem?_eq_getElem hi]; rfl
set_option maxRecDepth 100000 in
theorem indexS_any (L : List ByteArray) (s : ByteArray) (x : Value) (w : World) (hx : SlAt (im w) x (strY.d L)) (hL : L.length ≤ 9223372036854775806) :
    Calls Try.prog 149 #[x, .string s] w (PureP w fun v _ => ∃ i : Int, v = .int .i64 i ∧ (0 ≤ i ↔ s ∈ L)) := by
  refine x_fun tt_ok Try.func149 rfl rfl [(x, strY.d L)] 1 [.r 0, .v (.string s)] rfl rfl rfl rfl (fun b hb => by simp at hb; subst hb; exact hx) ?_
  refine x_vc tt_ok ?_
  refine x_loop (σ := Int) (fun i => ⟨[(8, .v (.int .i64 i)), (7, .v (.int .i64 L.length)), (1, .v (.string s)), (0, .r 0)], [], [(0, .sl (strY.d L))], 1⟩)
    (fun i _ => 0 ≤ i ∧ i ≤ L.length ∧ s ∉ L.take i.toNat) (fun i => (L.length - i).toNat) (fun _ => Nat.le_refl _) 0 [] (.of rfl rfl rfl rfl rfl rfl) ⟨by omega, by omega, by simp⟩ ?_
  rintro i u hu ⟨g1, g2, g3⟩
  refine x_vc tt_ok ?_
  refine x_if (fun h => ?_) (fun h => ?_)
  · have h : i < L.length := of_decide_eq_true h
    repeat (refine And.intro ?_ ?_; first | omega | (simp only [Lay.d_n]; omega) | (simp only [decide_eq_true_eq, decide_eq_false_iff_not, Bool.or_eq_false_iff, Bool.and_eq_true, Bool.or_eq_true, Bool.and_eq_false_iff, Bool.not_eq_true', Bool.not_eq_false', Lay.d_n]; omega) | (simp only [decide_eq_true_eq, decide_eq_false_iff_not, Bool.or_eq_false_iff, Bool.and_eq_true, Bool.or_eq_true, Bool.and_eq_false_iff, Bool.not_eq_true', Bool.not_eq_false']; omega))
    refine x_if (fun h2 => ?_) (fun h2 => ?_)
    · have h2 : s = L.getD i.toNat ⟨#[]⟩ := of_decide_eq_true h2
      refine fin1 (fun _ _ => ⟨i, rfl, fun _ => ?_, fun _ => g1⟩)
      rw [h2, List.getD_eq_getElem?_getD, List.getElem?_eq_getElem (by omega)]
      exact List.getElem_mem _
    · have h2 : s ≠ L.getD i.toNat ⟨#[]⟩ := of_decide_eq_false h2
      repeat (refine And.intro ?_ ?_; first | omega | (simp only [Lay.d_n]; omega) | (simp only [decide_eq_true_eq, decide_eq_false_iff_not, Bool.or_eq_false_iff, Bool.and_eq_true, Bool.or_eq_true, Bool.and_eq_false_iff, Bool.not_eq_true', Bool.not_eq_false', Lay.d_n]; omega) | (simp only [decide_eq_true_eq, decide_eq_false_iff_not, Bool.or_eq_false_iff, Bool.and_eq_true, Bool.or_eq_true, Bool.and_eq_false_iff, Bool.not_eq_true', Bool.not_eq_false']; omega))
      refine again (i + 1) [] (.of rfl rfl rfl rfl rfl rfl) ⟨by omega, by omega, ?_⟩ (by omega)
      rw [show (i + 1).toNat = i.toNat + 1 by omega]
      exact pb_mem_step (by omega) g3 h2
  · have h : ¬ i < L.length := of_decide_eq_false h
    rw [List.take_of_length_le (by omega)] at g3
    exact fin1 (fun _ _ => ⟨-1, rfl, fun h => absurd h (by decide), fun h => absurd h g3⟩)
set_option maxRecDepth 100000 in
theorem reserved_any (s : ByteArray) (w : World) : Calls Try.prog 88 #[.string s] w (PureP w fun v _ => v = .bool (decide (s = ⟨#[100, 101, 102, 105, 110, 101, 100]⟩) || decide (s = ⟨#[95, 95, 86, 65, 95, 65, 82, 71, 83, 95, 95]⟩) || decide (s = ⟨#[95, 95, 76, 73, 78, 69, 95, 95]⟩) || decide (s = ⟨#[95, 80, 114, 97, 103, 109, 97]⟩))) := by
  refine x_fun tt_ok Try.func88 rfl rfl [] 0 [.v (.string s)] rfl rfl rfl rfl (fun b hb => by cases hb) ?_
  refine x_vc tt_ok ?_
  iterate 3
    refine x_if (fun h => ?_) (fun h => ?_)
    · have h := of_decide_eq_true h
      subst h
      refine x_ift rfl ?_
      refine fin1 (fun _ _ => rfl)
  refine x_if (fun h => ?_) (fun h => ?_)
  · have h := of_decide_eq_true h
    subst h
    refine fin1 (fun _ _ => rfl)
  refine fin1 (fun _ _ => ?_)
  simp only [decide_eq_false_iff_not] at *
  simp [*]
  rfl
set_option maxRecDepth 100000 in
theorem containsS_any (L : List ByteArray) (s : ByteArray) (x : Value) (w : World) (hx : SlAt (im w) x (strY.d L)) (hL : L.length ≤ 9223372036854775806) :
    Calls Try.prog 129 #[x, .string s] w (PureP w fun v _ => v = .bool (pb (s ∈ L))) := by
  refine x_fun tt_ok Try.func129 rfl rfl [(x, strY.d L)] 1 [.r 0, .v (.string s)] rfl rfl rfl rfl (fun b hb => by simp at hb; subst hb; exact hx) ?_
  refine x_vc tt_ok ?_
  refine xl_call (fun v _ => ∃ i : Int, v = .int .i64 i ∧ (0 ≤ i ↔ s ∈ L)) rfl rfl rfl rfl fn149 rfl rfl (fun E w F hs => indexS_any L s _ w (hs.slAt (k := 0) rfl) hL) (fun v u1 u' hu hu1 hR => ?_)
  obtain ⟨i, rfl, hi⟩ := hR
  refine xl_go tt_ok ?_
  refine fin1 (fun _ _ => ?_)
  by_cases h : s ∈ L
  · rw [pb_true h]; exact congrArg Value.bool (decide_eq_true (hi.2 h))
  · rw [pb_false h]; exact congrArg Value.bool (decide_eq_false (fun h0 => h (hi.1 h0)))
end Go.Proofs.Ytdonomneofdhfaa
namespace Go.GV
open Go.RowKit
end Go.GV
namespace Go.GV
open Go.RowKit
theorem xl_slG {C : Cx} {all l : List Oper} {Q : Post} {kn : Kn} {gk : List (Nat × (Gd × SV))} {ow : Own} {nx : Nat} {u : Im} (d : Nat) {g : Gd} {x : Value} {D : Data} (hd : look gk d = some (g, .v x)) (hx : SlAt u x D)
    (h : XL C all l Q ⟨kn, (d, (g, .r nx)) :: gk, (nx, .sl D) :: ow, nx + 1⟩ u) : XL C all l Q ⟨kn, gk, ow, nx⟩ u := by
  unfold XL at h ⊢
  intro E a w hok
  obtain ⟨f, hsat⟩ := hok.sat
  have hE : ∀ k, k < nx → upd E nx x k = E k := fun k hk => upd_other _ _ (by omega)
  have hg := hok.agr.grow (E' := upd E nx x) (ow := (nx, .sl D) :: ow) (nx := nx + 1) hE (Nat.le_succ _)
  have hsat' : Sat (upd E nx x) ((nx, .sl D) :: ow) (nx + 1) u a.defers w (upd f nx (fun _ => False)) := by
    refine hsat.step (fun k => k = nx) hE (Nat.le_succ _) (Im.le.refl u) hsat.imm (Nat.le_refl _) (fun b _ _ => rfl) ?_ ?_ ?_ (fun b o ho => .inl ho)
    · intro k hk
      exact ⟨by rw [look_cons, if_neg (fun e => hk e.symm)], fun b => by rw [upd_other _ _ hk]⟩
    · rintro k rfl
      refine ⟨fun r hr => ?_, fun hr => ?_, fun b hb => ?_⟩
      · rw [look_cons, if_pos rfl] at hr
        cases hr
        refine ⟨⟨by rw [upd_same]; exact hx, fun y hy => by rw [upd_same] at hy; exact hy⟩, Nat.lt_succ_self _, trivial⟩
      · rw [look_cons, if_pos rfl] at hr; cases hr
      · rw [upd_same] at hb; exact hb.elim
    · intro k k' b hk hk' hne; subst hk hk'; exact absurd rfl hne
  obtain ⟨A, c, hv⟩ := hx.form
  have hd' := hok.agr.gk d g _ hd
  have := h (upd E nx x) a w ⟨⟨hg.size, fun t s h1 h2 => ?_, fun t g' s h1 => ?_, fun t s h2 => hg.klt t s h2, fun t g' s h1 hgs => ?_⟩, _, hsat'⟩
  · exact wpListIn_monoQ (fun e a w => SemQ.mono hE (Nat.le_succ _) (Im.le.refl u)) _ _ _ this
  · rw [look_cons] at h1
    split at h1
    · cases h1
    · exact hg.kn t s h1 h2
  · rw [look_cons] at h1
    split at h1
    · rename_i e1; subst e1; cases h1
      refine ⟨fun hgs => ?_, hd'.2⟩
      rw [hd'.1 hgs]
      simp only [SV.den, upd_same]
    · exact hg.gk t g' s h1
  · rw [look_cons] at h1
    split at h1
    · cases h1; exact ⟨Nat.lt_succ_self _, A, D.n, c, by rw [upd_same]; exact hv⟩
    · exact hg.glt t g' s h1 hgs
end Go.GV
namespace Go.GV
open Go.RowKit
end Go.GV
namespace Go.GV
open Go.RowKit
theorem xl_gsplit {C : Cx} {all : List Oper} {o : Oper} {r : List Oper} {Q : Post} {st : St} {u : Im} (t : Nat) (s : Value) {want b : Bool} {d : Nat} (hg : guardOf all st o = some [(t, want)]) (hd : o.dst = some d)
    (hfr : fresh C.N st d [(t, want)] = true) (h2 : look st.gk t = none) (h3 : look st.kn t = some (.v (.bool b)))
    (K1 : b = want → XL C all ({ o with guard := none } :: r) Q st u) (K2 : b ≠ want → XL C all r Q (st.put d [(t, want)] (.v s)) u) : XL C all (o :: r) Q st u := by
  by_cases hb : b = want
  · exact xl_sure t hg h2 h3 hb (K1 hb)
  · have K := K2 hb
    unfold XL at K ⊢
    intro E a w hok
    have hgd := guard_sound (all := all.toArray) hok.agr (by simpa using hg)
    have hng : ¬ gs a.tmps [(t, want)] := fun hh => by
      have h5 := hh (t, want) (List.mem_singleton.2 rfl)
      have h6 := hok.agr.kn t _ h2 h3
      simp only [SV.den] at h6
      rw [h6] at h5
      simp only [Option.some.injEq, Value.bool.injEq] at h5
      exact hb h5
    have hw : Region.wanted o (yielded all.toArray a.tmps) = false := by
      cases hw : Region.wanted o (yielded all.toArray a.tmps)
      · rfl
      · exact absurd (hgd.1 hw) hng
    have hput : Agr C.N E (st.put d [(t, want)] (.v s)) (a.tmps.setIfInBounds d undef) :=
      hok.agr.put hfr (fun _ => trivial) (fun hy => absurd hy hng) (fun _ => rfl) (fun hn => by cases hn)
    obtain ⟨fF, hsat⟩ := hok.sat
    have := K E (a.put o.dst undef) w ⟨by rw [hd]; exact hput, fF, by rw [hd]; exact hsat⟩
    unfold wpListIn
    rw [if_neg (by rw [hw]; simp)]
    exact ⟨fun _ _ => trivial, this⟩
theorem flatMap_replicateG {α : Type} {f : α → List Value} {z : α} : ∀ m : Nat, (List.replicate m z).flatMap f = (List.replicate m (f z)).flatten
  | 0 => rfl
  | m + 1 => by rw [List.replicate_succ, List.flatMap_cons, flatMap_replicateG m, List.replicate_succ, List.flatten_cons]
theorem madeCells_rep (z : Array Value) (n : Nat) (hz : z.size = n) (hn : 0 < n) (m : Nat) : (madeCells z (m * n)).toList = (List.replicate m z.toList).flatten := by
  have e : (List.replicate m z.toList).flatten = (List.replicate m z).flatMap Array.toList := (flatMap_replicateG m).symm
  rw [e]
  apply List.ext_getElem?
  intro i
  by_cases hi : i < m * n
  · have h1 := flatMap_get (m := n) (fun x : { x : Array Value // x.size = n } => x.1.toList) (fun x => by simp [x.2]) (List.replicate m ⟨z, hz⟩) (i / n) (i % n) ⟨z, hz⟩
      (by rw [List.getElem?_replicate, if_pos (Nat.div_lt_of_lt_mul (by rw [Nat.mul_comm]; exact hi))]) (Nat.mod_lt _ hn)
    have e2 : (List.replicate m (⟨z, hz⟩ : { x : Array Value // x.size = n })).flatMap (fun x => x.1.toList) = (List.replicate m z).flatMap Array.toList := by
      rw [flatMap_replicateG, flatMap_replicateG]
    rw [e2, Nat.mul_comm, Nat.div_add_mod] at h1
    rw [h1]
    have hm : i % n < z.size := by rw [hz]; exact Nat.mod_lt _ hn
    rw [Array.getElem?_toList, Array.getElem?_toList]
    simp [madeCells, hi, hz, Array.getElem?_eq_getElem hm, getElem!_pos z (i % n) hm]
  · rw [List.getElem?_eq_none (by rw [Array.length_toList, size_madeCells]; omega), List.getElem?_eq_none]
    rw [flatMap_replicateG]
    simp [hz]
    omega
theorem xl_makeG {α : Type} {T : TT} {C : Cx} (hT : TOk C.P T) {all : List Oper} {o : Oper} {r : List Oper} {Q : Post} {kn : Kn} {gk : List (Nat × (Gd × SV))} {ow : Own} {nx : Nat} {u : Im}
    (Y : Lay α) (z : α) (by' m : Nat) {t e d : Nat} {lv cv : Operand} {ti te : TI} {kl kc : IntKind} (ho : o.op = .makeSlice t lv cv) (hgd : o.guard = none) (hd : o.dst = some d)
    (hti : look T t = some ti) (hsh : ti.shp = .slice e) (hte : look T e = some te) (hsz : te.sz = Y.fs.length) (hpos : Nat.blt 0 te.sz = true) (hel : Y.el z = te.zero) (hby : (C.P.info? e).map (fun i => i.bytes) = some by')
    (hl : opd ⟨kn, gk, ow, nx⟩ [] lv = some (.v (.int kl (m : Int)))) (hc : opd ⟨kn, gk, ow, nx⟩ [] cv = some (.v (.int kc (m : Int)))) (hf : fresh C.N ⟨kn, gk, ow, nx⟩ d [] = true)
    (hb : by' * m ≤ 281474976710656) (hm : m ≤ 9223372036854775807)
    (K : XL C all r Q ⟨(d, .r nx) :: kn, gk, (nx, .row e (Y.d (List.replicate m z))) :: ow, nx + 1⟩ u) : XL C all (o :: r) Q ⟨kn, gk, ow, nx⟩ u := by
  unfold XL at K ⊢
  intro E a w hok
  obtain ⟨f, hsat⟩ := hok.sat
  have hgs : gs a.tmps [] := fun x hx => by cases hx
  have htik := hT _ _ hti
  have htek := hT _ _ hte
  obtain ⟨i, i1, i2, i3, i4⟩ := info_bytes htek hby
  obtain ⟨el, _⟩ := opd_sound hok.agr hgs hl
  obtain ⟨ec, _⟩ := opd_sound hok.agr hgs hc
  simp only [SV.den] at el ec
  have hb' : (i.bytes : Int) * (m : Int) ≤ 281474976710656 := by
    rw [i4]
    have h : ((by' * m : Nat) : Int) ≤ 281474976710656 := by omega
    rwa [Int.natCast_mul] at h
  have hr := run_make (P := C.P) w t e i te.zv (htik.isSlice hsh) i1 i3 kl kc (m : Int) (m : Int) (by omega) (Int.le_refl _) hb' (by omega)
  simp only [Int.toNat_natCast] at hr
  have hrun : (execOp a.eval o).run C.P w = .ok (.value (.slice (some ⟨w.heap.size, 0, none⟩) m m)) (w.alloc (.cells (madeCells te.zv.cells (m * i.size)) e)) := by
    simp only [execOp, ho, el, ec, Sem.run_bind, hr, Result.andThen_ok]
    rfl
  refine xl_wp hgd (fun c hc => by rw [ho] at hc; cases hc) hrun ?_
  rw [hd]
  have hgr := World.grownBy_alloc w (.cells (madeCells te.zv.cells (m * i.size)) e) none
  have hbel : Below w.heap.size w (w.alloc (.cells (madeCells te.zv.cells (m * i.size)) e)) := ⟨hgr.os, hgr.tape, hgr.output, hgr.size, fun b hb => hgr.block b hb (by simp)⟩
  have hpos' : 0 < te.sz := blt_lt hpos
  have hzc : te.zv.cells = te.zero.toArray := TI.zv_cells htek
  have hown := World.ownsRow_lit (e := e) (base := 0) (size := te.sz) w (madeCells te.zv.cells (m * i.size)) m (Nat.zero_le _) (by simpa [maxLen] using hm) (by rw [size_madeCells, i2])
  have hown' : (w.alloc (.cells (madeCells te.zv.cells (m * i.size)) e)).ownsRow 0 e (Y.d (List.replicate m z)).cs.length (.slice (some ⟨w.heap.size, 0, none⟩) m m) (Y.d (List.replicate m z)).n (Y.d (List.replicate m z)).flat := by
    have e1 : (Y.d (List.replicate m z)).cs.length = te.sz := by rw [Lay.cs_length, ← hsz]
    have e2 : (Y.d (List.replicate m z)).n = m := by rw [Lay.d_n, List.length_replicate]
    have e3 : (Y.d (List.replicate m z)).flat = (madeCells te.zv.cells (m * i.size)).toList := by
      rw [Lay.flat, hzc, i2, madeCells_rep te.zero.toArray te.sz (by simpa using htek.len) hpos' m, flatMap_replicateG m, hel]
    rw [e1, e2, e3]; exact hown
  have hv := ownAt_of (lo := w.heap.size) hown' (fun b hb => by cases hb; exact Nat.le_refl _)
  have hE : ∀ j, j < nx → upd E nx (.slice (some ⟨w.heap.size, 0, none⟩) m m) j = E j := fun j hj => upd_other _ _ (by omega)
  have hg := hok.agr.grow (E' := upd E nx (.slice (some ⟨w.heap.size, 0, none⟩) m m)) (ow := (nx, .row e (Y.d (List.replicate m z))) :: ow) (nx := nx + 1) hE (Nat.le_succ _)
  have hput := hg.put (g := []) (d := d) (s := .r nx) (x := .slice (some ⟨w.heap.size, 0, none⟩) m m) hf (fun _ => ⟨Nat.lt_succ_self _, _, _, _, upd_same _ _ _⟩) (fun _ => (by simp only [SV.den, upd_same])) (fun hn => absurd (fun x hx => (by cases hx)) hn) (fun _ => (by simp only [SV.den, upd_same]))
  have := K _ (a.put (some d) (.slice (some ⟨w.heap.size, 0, none⟩) m m)) _ ⟨⟨hput.size, hput.kn, hput.gk, hput.klt, hput.glt⟩, _, hsat.take hbel hv⟩
  exact wpListIn_monoQ (fun e a w => SemQ.mono hE (Nat.le_succ _) (Im.le.refl u)) _ _ _ this
def SV.frz (k : Nat) (x : Value) : SV → SV
  | .r j => match Nat.beq j k with
    | true => .v x
    | false => .r j
  | s => s
theorem SV.frz_den {k : Nat} {x : Value} {E : Env} (h : E k = x) (s : SV) : (s.frz k x).den E = s.den E := by
  cases s with
  | r j =>
    cases hj : Nat.beq j k with
    | true =>
      have e : j = k := Nat.eq_of_beq_eq_true hj
      subst e
      simp only [SV.frz, hj]; exact h.symm
    | false => simp only [SV.frz, hj]
  | _ => rfl
theorem SV.frz_lt {k n : Nat} {x : Value} {E : Env} {s : SV} (h : s.lt E n) : (s.frz k x).lt E n := by
  cases s with
  | r j =>
    cases hj : Nat.beq j k with
    | true => simp only [SV.frz, hj]; trivial
    | false => simp only [SV.frz, hj]; exact h
  | _ => exact h
theorem Sat.boxFrz {E : Env} {ow : Own} {nx : Nat} {u : Im} {df : List Deferred} {w : World} {f : Nat → Nat → Prop} (h : Sat E ow nx u df w f) {k kb t : Nat} {x : Value} {cs : List SV} (hx : E k = x) (hb : look ow kb = some (.box t cs)) :
    Sat E ((kb, .box t (cs.map (SV.frz k x))) :: ow) nx u df w f := by
  refine h.regroup (fun j => j = kb) (fun _ _ => rfl) (Nat.le_refl _) (fun j hj => ⟨by rw [look_cons, if_neg (Ne.symm hj)], fun _ => Iff.rfl⟩) ?_ (fun j j' b hj hj' hne => by subst hj hj'; exact absurd rfl hne)
  rintro j rfl
  refine ⟨fun r hr => ?_, fun hr => (by rw [look_cons, if_pos rfl] at hr; cases hr), fun b hb' => ⟨j, rfl, hb'⟩⟩
  rw [look_cons, if_pos rfl] at hr
  cases hr
  obtain ⟨b, h1, h2, h3⟩ := h.holds j _ hb
  obtain ⟨l1, l2⟩ := h.lt j _ hb
  refine ⟨⟨b, h1, h2, ?_⟩, l1, fun s hs => ?_⟩
  · rw [List.map_map, show (SV.den E ∘ SV.frz k x) = SV.den E from funext fun s => SV.frz_den hx s]; exact h3
  · obtain ⟨s0, hs0, rfl⟩ := List.mem_map.1 hs
    exact SV.frz_lt (l2 s0 hs0)
theorem Sat.parkB {E : Env} {ow : Own} {nx : Nat} {u : Im} {df : List Deferred} {w : World} {f : Nat → Nat → Prop} (h : Sat E ow nx u df w f) {k s kb : Nat} {e : TypeId} {D : Data} {sl : List SI} {t : Nat} {cs : List SV} {A : Option Addr} {c : Nat}
    (hk : look ow k = some (.row e D)) (hs : look ow s = some (.gen (starHp sl))) (hb : look ow kb = some (.box t cs)) (hv : E k = .slice A D.n c) :
    Sat E ((k, .emp) :: (s, .gen (starHp (sl ++ [⟨.slice A D.n c, e, D⟩]))) :: (kb, .box t (cs.map (SV.frz k (.slice A D.n c)))) :: ow) nx u df w (upd (upd f s (fun b => f s b ∨ f k b)) k (fun _ => False)) := by
  have n1 : kb ≠ k := fun hh => by rw [hh, hk] at hb; cases hb
  have n2 : kb ≠ s := fun hh => by rw [hh, hs] at hb; cases hb
  have n3 : s ≠ k := fun hh => by rw [← hh, hs] at hk; cases hk
  have h1 := h.boxFrz hv hb
  have h2 := (h1.starMore (s := s) (by rw [look_cons, if_neg n2]; exact hs)).park (k := k) (s := s) (i := sl.length) (q := SI.hole) (e := e) (D := D) (by rw [look_cons, if_neg n3, look_cons, if_neg n1]; exact hk) (by rw [look_cons, if_pos rfl]) (by simp) rfl
  rw [hv, set_at] at h2
  refine h2.regroup (fun _ => False) (fun _ _ => rfl) (Nat.le_refl _) (fun j _ => ⟨?_, fun _ => Iff.rfl⟩) (fun _ hh => hh.elim) (fun _ _ _ hh => hh.elim)
  simp only [look_cons]
  by_cases a1 : k = j
  · rw [if_pos a1, if_pos a1]
  · by_cases a2 : s = j
    · rw [if_neg a1, if_neg a1, if_pos a2, if_pos a2]
    · rw [if_neg a1, if_neg a1, if_neg a2, if_neg a2, if_neg a2]
theorem xl_parkB {C : Cx} {all l : List Oper} {Q : Post} {kn : Kn} {gk : List (Nat × (Gd × SV))} {ow : Own} {nx : Nat} {u : Im} (k s kb : Nat) {e : TypeId} {D : Data} {sl : List SI} {t : Nat} {cs : List SV}
    (hk : look ow k = some (.row e D)) (hs : look ow s = some (.gen (starHp sl))) (hb : look ow kb = some (.box t cs))
    (K : ∀ A c, XL C all l Q ⟨frz k (.slice A D.n c) kn, gk, (k, .emp) :: (s, .gen (starHp (sl ++ [⟨.slice A D.n c, e, D⟩]))) :: (kb, .box t (cs.map (SV.frz k (.slice A D.n c)))) :: ow, nx⟩ u) : XL C all l Q ⟨kn, gk, ow, nx⟩ u := by
  unfold XL at K ⊢
  intro E a w hok
  obtain ⟨f, hsat⟩ := hok.sat
  obtain ⟨A, c, hv⟩ := ownsRow_sl (hsat.holds k _ hk).1
  exact K A c E a w ⟨hok.agr.frz hv, _, hsat.parkB hk hs hb hv⟩
theorem x_parkB {C : Cx} {cc : Code} {Q : Post} {kn : Kn} {gk : List (Nat × (Gd × SV))} {ow : Own} {nx : Nat} {u : Im} (k s kb : Nat) {e : TypeId} {D : Data} {sl : List SI} {t : Nat} {cs : List SV}
    (hk : look ow k = some (.row e D)) (hs : look ow s = some (.gen (starHp sl))) (hb : look ow kb = some (.box t cs))
    (K : ∀ A c, X C cc Q ⟨frz k (.slice A D.n c) kn, gk, (k, .emp) :: (s, .gen (starHp (sl ++ [⟨.slice A D.n c, e, D⟩]))) :: (kb, .box t (cs.map (SV.frz k (.slice A D.n c)))) :: ow, nx⟩ u) : X C cc Q ⟨kn, gk, ow, nx⟩ u := by
  unfold X at K ⊢
  intro E a w hok
  obtain ⟨f, hsat⟩ := hok.sat
  obtain ⟨A, c, hv⟩ := ownsRow_sl (hsat.holds k _ hk).1
  exact K A c E a w ⟨hok.agr.frz hv, _, hsat.parkB hk hs hb hv⟩
end Go.GV
namespace Go.Proofs.Ytdonomneofdhfaa
open Go.GV Go.RowKit
def Tok.val (t : Tok) : Value := .agg #[.int .i64 t.kind, .string t.text, .int .i64 t.lo, .int .i64 t.hi, .bool t.space]
def memB (s : ByteArray) (L : List ByteArray) : Bool := L.any fun x => decide (s = x)
theorem memB_iff {s : ByteArray} {L : List ByteArray} : memB s L = true ↔ s ∈ L := by
  unfold memB
  rw [List.any_eq_true]
  constructor
  · rintro ⟨x, hx, h⟩; rw [of_decide_eq_true h]; exact hx
  · intro h; exact ⟨s, h, decide_eq_true rfl⟩
theorem memB_false {s : ByteArray} {L : List ByteArray} : memB s L = false ↔ s ∉ L := by rw [← memB_iff, Bool.not_eq_true]
theorem pb_mem (s : ByteArray) (L : List ByteArray) : pb (s ∈ L) = memB s L := by
  by_cases h : s ∈ L
  · rw [pb_true h, memB_iff.2 h]
  · rw [pb_false h, memB_false.2 h]
def isT (t : Tok) (L : List ByteArray) : Bool := decide (t.kind = 5) && memB t.text L
set_option maxRecDepth 100000 in
theorem is_any (t : Tok) (L : List ByteArray) (x : Value) (w : World) (hx : SlAt (im w) x (strY.d L)) (hL : L.length ≤ 9223372036854775806) :
    Calls Try.prog 89 #[t.val, x] w (PureP w fun v _ => v = .bool (isT t L)) := by
  refine x_fun tt_ok Try.func89 rfl rfl [(x, strY.d L)] 1 [.v t.val, .r 0] rfl rfl rfl rfl (fun b hb => by simp at hb; subst hb; exact hx) ?_
  refine x_vc tt_ok ?_
  refine xl_gcall0 (.bool (pb (t.text ∈ L))) rfl rfl rfl rfl fn129 rfl rfl (fun _ E w F hs => containsS_any L t.text _ w (hs.slAt (k := 0) rfl) hL) ?_
  refine xl_go tt_ok ?_
  refine fin1 (fun _ _ => ?_)
  rw [pb_mem]; rfl
structure PV where
  kind : Int
  text : ByteArray
  space : Bool
  pa : Option Addr
  pn : Nat
  pc : Nat
def pv0 : PV := ⟨0, ⟨#[]⟩, false, none, 0, 0⟩
def pvY : Lay PV := ⟨[fun t => .int .i64 t.kind, fun t => .string t.text, fun t => .bool t.space, fun t => .slice t.pa t.pn t.pc], pv0⟩
def ofT (t : Tok) : PV := ⟨t.kind, t.text, t.space, none, 0, 0⟩
set_option maxRecDepth 100000 in
theorem of_any (L : List Tok) (x : Value) (w : World) (hx : SlAt (im w) x (tokY.d L)) (hL : L.length * 48 ≤ 140737488355328) :
    Calls Try.prog 31 #[x] w (PureP w fun v u => OwnAt u v 46 (pvY.d (L.map ofT))) := by
  refine x_fun tt_ok Try.func31 rfl rfl [(x, tokY.d L)] 1 [.r 0] rfl rfl rfl rfl (fun b hb => by simp at hb; subst hb; exact hx) ?_
  refine x_vc tt_ok ?_
  refine xl_makeG tt_ok pvY pv0 56 L.length rfl rfl rfl rfl rfl rfl rfl rfl rfl (by kernel_rfl) rfl rfl rfl (by omega) (by omega) ?_
  refine xl_go tt_ok ?_
  refine x_loop (σ := Int × List PV) (fun (i, M) => ⟨[(11, .v (.int .i64 i)), (10, .v (.int .i64 L.length)), (9, .r 0), (3, .r 1)], [], [(0, .sl (tokY.d L)), (1, .row 46 (pvY.d M))], 2⟩)
    (fun (i, M) _ => 0 ≤ i ∧ i ≤ L.length ∧ M.length = L.length ∧ M.take i.toNat = (L.take i.toNat).map ofT) (fun (i, _) => (L.length - i).toNat) (fun (_, _) => Nat.le_refl _) (0, List.replicate L.length pv0) [] (.of rfl rfl rfl rfl rfl rfl)
    ⟨by omega, by omega, by simp, by simp⟩ ?_
  rintro ⟨i, M⟩ u hu ⟨g1, g2, g3, g4⟩
  refine x_vc tt_ok ?_
  refine x_if (fun h => ?_) (fun h => ?_)
  · have h : i < L.length := of_decide_eq_true h
    repeat (refine And.intro ?_ ?_; first | omega | (simp only [Lay.d_n]; omega) | (simp only [decide_eq_true_eq, decide_eq_false_iff_not, Bool.or_eq_false_iff, Bool.and_eq_true, Bool.or_eq_true, Bool.and_eq_false_iff, Bool.not_eq_true', Bool.not_eq_false', Lay.d_n]; omega) | (simp only [decide_eq_true_eq, decide_eq_false_iff_not, Bool.or_eq_false_iff, Bool.and_eq_true, Bool.or_eq_true, Bool.and_eq_false_iff, Bool.not_eq_true', Bool.not_eq_false']; omega))
    refine xl_set tt_ok pvY M (ofT (L.getD i.toNat tok0)) (cs := [.int .i64 (L.getD i.toNat tok0).kind, .string (L.getD i.toNat tok0).text, .bool (L.getD i.toNat tok0).space, .slice none 0 0]) rfl rfl rfl rfl rfl rfl rfl (by omega) (by omega) rfl rfl (Nat.le_refl 4) rfl ?_
    refine xl_go tt_ok ?_
    repeat (refine And.intro ?_ ?_; first | omega | (simp only [Lay.d_n]; omega) | (simp only [decide_eq_true_eq, decide_eq_false_iff_not, Bool.or_eq_false_iff, Bool.and_eq_true, Bool.or_eq_true, Bool.and_eq_false_iff, Bool.not_eq_true', Bool.not_eq_false', Lay.d_n]; omega) | (simp only [decide_eq_true_eq, decide_eq_false_iff_not, Bool.or_eq_false_iff, Bool.and_eq_true, Bool.or_eq_true, Bool.and_eq_false_iff, Bool.not_eq_true', Bool.not_eq_false']; omega))
    refine again (i + 1, M.set i.toNat (ofT (L.getD i.toNat tok0))) [] (.of rfl rfl rfl rfl rfl rfl) ⟨by omega, by omega, by rw [List.length_set]; exact g3, ?_⟩ (by simp only; omega)
    rw [show (i + 1).toNat = i.toNat + 1 by omega, take_get (x := ofT (L.getD i.toNat tok0)) (List.getElem?_set_self (by omega)), List.take_set_of_le (Nat.le_refl _), g4,
      take_get (List.getElem?_eq_getElem (by omega)), List.map_append, List.getD_eq_getElem?_getD, List.getElem?_eq_getElem (by omega)]
    rfl
  · have h : ¬ i < L.length := of_decide_eq_false h
    have e : M = L.map ofT := by
      rw [List.take_of_length_le (by omega), List.take_of_length_le (by omega)] at g4
      exact g4
    rw [← e]
    exact finO (k := 1) rfl
end Go.Proofs.Ytdonomneofdhfaa
namespace Go.GV
open Go.RowKit
theorem xl_gval {C : Cx} {all : List Oper} {o : Oper} {r : List Oper} {Q : Post} {st : St} {u : Im} (v : Value) {g : Gd} {d : Nat}
    (hg : guardOf all st o = some g) (hd : o.dst = some d) (hnd : ∀ c, o.op ≠ .defer c) (hfr : fresh C.N st d g = true)
    (H : allL (gprops st g) → ∀ E a w, Ok C E st u a w → gs a.tmps g → (execOp a.eval o).run C.P w = .ok (.value v) w)
    (K : XL C all r Q (st.put d g (.v v)) u) : XL C all (o :: r) Q st u := by
  unfold XL at K ⊢
  intro E a w hok
  have how : (st.put d g (.v v)).ow = st.ow := by cases g <;> rfl
  have hnx : (st.put d g (.v v)).nx = st.nx := by cases g <;> rfl
  have hgd := guard_sound (all := all.toArray) hok.agr (by simpa using hg)
  obtain ⟨fF, hsat⟩ := hok.sat
  have go : ∀ x w', (gs a.tmps g → x = v) → (¬ gs a.tmps g → x = undef) → Below w.heap.size w w' →
      wpListIn (FR C.ro) 0 C.P all.toArray (SemQ C E st.nx u Q) r (a.put o.dst x) w' := by
    intro x w' hx hnx' hbel
    have hput : Agr C.N E (st.put d g (.v v)) (a.tmps.setIfInBounds d x) :=
      hok.agr.put hfr (fun _ => trivial) hx hnx' (fun hn => by subst hn; exact hx (fun y hy => by cases hy))
    have := K E (a.put o.dst x) w' ⟨by rw [hd]; exact hput, fF, by rw [how, hnx, hd]; exact hsat.keep hbel⟩
    rwa [hnx] at this
  unfold wpListIn
  by_cases hw : Region.wanted o (yielded all.toArray a.tmps) = true
  · have hgs := hgd.1 hw
    rw [if_pos hw]
    refine ⟨fun _ _ => trivial, ?_⟩
    rw [semAt_eq _ _ _ hnd, H (allL_of (gprops_sound hok.agr hgs (fun _ _ _ => trivial))) E a w hok hgs, Oper.uponIn_value]
    exact go _ _ (fun _ => rfl) (fun hn => absurd hgs hn) (Below.refl _ _)
  · have hgs := hgd.2 (by simpa using hw)
    rw [if_neg hw]
    exact ⟨fun _ _ => trivial, go _ _ (fun hy => absurd hy hgs) (fun _ => rfl) (Below.refl _ _)⟩
end Go.GV
namespace Go.GV
open Go.RowKit Go.Maps
def mapHp (P : Program) (kt et : TypeId) (b n : Nat) (f : ByteArray → Int) : Hp where
  h := fun _ F w => (∀ x, F x ↔ x = b) ∧ ∃ D : DataW Unit, w.ownsMap P kt (plainElem P et) b n D ∧ ∀ s : ByteArray, D.atKey (.string s.data.toList) (.lit (.int .i64 0)) = .lit (.int .i64 (f s))
  loc := fun _ F w w' ⟨h1, D, ⟨es, clock, h2, h3⟩, h4⟩ hF _ _ => ⟨h1, D, ⟨es, clock, by rw [hF b ((h1 b).2 rfl)]; exact h2, h3⟩, h4⟩
  mono := fun _ _ _ _ h _ _ => h
  fin := fun _ F w ⟨h1, D, h2, _⟩ x hx => by rw [(h1 x).1 hx]; exact h2.lt
theorem keyOf_str {P : Program} {kt : TypeId} (hk : P.underlying kt = some .string) (s : ByteArray) (hs : s.size ≤ maxLen) : keyOf P kt (.string s) = some (.string s.data.toList) := by
  simp [keyOf, hk, mapKey, hs]
theorem xl_makeMap {C : Cx} {all : List Oper} {o : Oper} {r : List Oper} {Q : Post} {kn : Kn} {gk : List (Nat × (Gd × SV))} {ow : Own} {nx : Nat} {u : Im} {t d kt et : Nat} (ho : o.op = .makeMap t none) (hgd : o.guard = none) (hd : o.dst = some d)
    (hfr : fresh C.N ⟨kn, gk, ow, nx⟩ d [] = true)
    (K : ∀ b, XL C all r Q ⟨(d, .v (.map (some b))) :: kn, gk, (nx, .gen (mapHp C.P kt et b 0 (fun _ => 0))) :: ow, nx + 1⟩ u) : XL C all (o :: r) Q ⟨kn, gk, ow, nx⟩ u := by
  unfold XL at K ⊢
  intro E a w hok
  obtain ⟨f, hsat⟩ := hok.sat
  have hrun : (execOp a.eval o).run C.P w = .ok (.value (.map (some w.heap.size))) (w.alloc (.map #[] 0)) := by
    obtain ⟨dst, op, ty, pos, after, guard⟩ := o
    simp only at ho
    subst ho
    simp [execOp, run_makeMap]
  refine xl_wp hgd (fun c hc => by rw [ho] at hc; cases hc) hrun ?_
  rw [hd]
  have hz : (w.alloc (.map #[] 0)).heap.size = w.heap.size + 1 := World.size_alloc _ _
  have hold : ∀ b, b < w.heap.size → (w.alloc (.map #[] 0)).heap[b]? = w.heap[b]? := fun b hb => Below.heap_alloc _ _ _ hb
  have hnone : u.h w.heap.size = none := by
    cases ho : u.h w.heap.size with
    | none => rfl
    | some x => have := (Array.getElem?_eq_some_iff.1 (hsat.imm.h _ x ho)).1; omega
  have hs : Sat E ((nx, .gen (mapHp C.P kt et w.heap.size 0 (fun _ => 0))) :: ow) (nx + 1) u a.defers (w.alloc (.map #[] 0)) (upd f nx (fun b => b = w.heap.size)) := by
    refine hsat.step (fun k => k = nx) (fun _ _ => rfl) (Nat.le_succ _) (Im.le.refl u) ?_ (by omega) (fun b hb _ => hold b hb) ?_ ?_ ?_ (fun b o ho => .inl ho)
    · exact ⟨fun b o ho => by rw [hold b (Array.getElem?_eq_some_iff.1 (hsat.imm.h b o ho)).1]; exact hsat.imm.h b o ho, hsat.imm.os, hsat.imm.tape, hsat.imm.output, by have := hsat.imm.lo; omega⟩
    · intro k hk
      exact ⟨by rw [look_cons, if_neg (fun e => hk e.symm)], fun b => by rw [upd_other _ _ hk]⟩
    · rintro k rfl
      refine ⟨fun r hr => ?_, fun hn => ?_, fun b hb => ?_⟩
      · rw [look_cons, if_pos rfl] at hr
        cases hr
        refine ⟨⟨fun x => by rw [upd_same], .map [], World.ownsMap_made w C.P kt _, fun s => rfl⟩, Nat.lt_succ_self _, trivial⟩
      · rw [look_cons, if_pos rfl] at hn; cases hn
      · rw [upd_same] at hb
        exact ⟨.inr (by omega), by rw [hb]; exact hnone⟩
    · rintro k k' b rfl rfl hne
      exact absurd rfl hne
  have hg := hok.agr.grow (E' := E) (ow := (nx, .gen (mapHp C.P kt et w.heap.size 0 (fun _ => 0))) :: ow) (nx := nx + 1) (fun _ _ => rfl) (Nat.le_succ _)
  have hput := hg.put (d := d) (g := []) (s := .v (.map (some w.heap.size))) (x := .map (some w.heap.size)) hfr (fun _ => trivial) (fun _ => rfl) (fun hn => absurd (fun x hx => (by cases hx)) hn) (fun _ => rfl)
  have := K w.heap.size E (a.put (some d) (.map (some w.heap.size))) _ ⟨⟨hput.size, hput.kn, hput.gk, hput.klt, hput.glt⟩, _, hs⟩
  exact wpListIn_monoQ (fun e a w => SemQ.mono (fun _ _ => rfl) (Nat.le_succ _) (Im.le.refl u)) _ _ _ this
theorem xl_lookup {C : Cx} {all : List Oper} {o : Oper} {r : List Oper} {Q : Post} {st : St} {u : Im} {t d kt et k b n : Nat} {g : Gd} {f : ByteArray → Int} {m x : Operand} {s : ByteArray} (ho : o.op = .lookup t m x false) (hg : guardOf all st o = some g) (hd : o.dst = some d)
    (ht : C.P.underlying t = some (.map kt et)) (hkt : C.P.underlying kt = some .string) (het : C.P.underlying et = some (.int .i64)) (hfr : fresh C.N st d g = true)
    (hm : opd st g m = some (.v (.map (some b)))) (hx : opd st g x = some (.v (.string s))) (hs : s.size ≤ maxLen) (hk : look st.ow k = some (.gen (mapHp C.P kt et b n f)))
    (hz : ∀ w, (zeroValue et).run C.P w = .ok (.int .i64 0) w)
    (K : XL C all r Q (st.put d g (.v (.int .i64 (f s)))) u) : XL C all (o :: r) Q st u := by
  refine xl_gval (.int .i64 (f s)) hg hd (fun c hc => by rw [ho] at hc; cases hc) hfr (fun _ E a w hok hgs => ?_) K
  obtain ⟨F, hsat⟩ := hok.sat
  obtain ⟨_, D, h1, h2⟩ := hsat.holds k _ hk
  have e1 := (opd_sound hok.agr hgs hm).1
  have e2 := (opd_sound hok.agr hgs hx).1
  obtain ⟨c, hrun, hat, _⟩ := h1.lookup_int (string_keyed hkt) ht het (hz w) (keyOf_str hkt s hs)
  rw [h2 s] at hat
  have hc : c = f s := by injection hat with hat; injection hat with _ hat; exact hat.symm
  obtain ⟨dst, op, ty, pos, after, guard⟩ := o
  simp only at ho
  subst ho
  simp only [SV.den] at e1 e2
  simp [execOp, e1, e2, hrun, hc]
theorem xl_mapSet {C : Cx} {all : List Oper} {o : Oper} {r : List Oper} {Q : Post} {kn : Kn} {gk : List (Nat × (Gd × SV))} {ow : Own} {nx : Nat} {u : Im} {t kt et k b n : Nat} {f : ByteArray → Int} {m x v : Operand} {s : ByteArray} {c : Int}
    (ho : o.op = .mapUpdate t m x v ∨ o.op = .insert t m x v) (hgd : o.guard = none) (hd : o.dst = none)
    (ht : C.P.underlying t = some (.map kt et)) (hkt : C.P.underlying kt = some .string) (het : C.P.underlying et = some (.int .i64))
    (hm : opd ⟨kn, gk, ow, nx⟩ [] m = some (.v (.map (some b)))) (hx : opd ⟨kn, gk, ow, nx⟩ [] x = some (.v (.string s))) (hv : opd ⟨kn, gk, ow, nx⟩ [] v = some (.v (.int .i64 c))) (hs : s.size ≤ maxLen) (hc : (Lit.int .i64 c).wf = true)
    (hk : look ow k = some (.gen (mapHp C.P kt et b n f))) (hn : n < maxLen)
    (K : XL C all r Q ⟨kn, gk, (k, .gen (mapHp C.P kt et b (n + 1) (fun s' => if s' = s then c else f s'))) :: ow, nx⟩ u) : XL C all (o :: r) Q ⟨kn, gk, ow, nx⟩ u := by
  unfold XL at K ⊢
  intro E a w hok
  obtain ⟨F, hsat⟩ := hok.sat
  have hgs : gs a.tmps [] := fun x hx => by cases hx
  obtain ⟨hF, D, h1, h2⟩ := hsat.holds k _ hk
  have e1 := (opd_sound hok.agr hgs hm).1
  have e2 := (opd_sound hok.agr hgs hx).1
  have e3 := (opd_sound hok.agr hgs hv).1
  have hkey := keyOf_str hkt s hs
  obtain ⟨w', hrun0, hown, hgr⟩ := h1.update (string_keyed hkt) ht hn hkey (plainElem_int het hc)
  have hrun : (execOp a.eval o).run C.P w = .ok .skip w' := by
    obtain ⟨dst, op, ty, pos, after, guard⟩ := o
    simp only at ho
    simp only [SV.den] at e1 e2 e3
    rcases ho with ho | ho <;> subst ho <;> simp [execOp, e1, e2, e3, hrun0]
  have hD := h1.isMap
  have hkk : WideAt.IsKeyLit (.string s.data.toList) := by trivial
  have hat : ∀ s' : ByteArray, (D.put (.string s.data.toList) (.lit (.int .i64 c))).atKey (.string s'.data.toList) (.lit (.int .i64 0)) = .lit (.int .i64 (if s' = s then c else f s')) := fun s' => by
    by_cases e : s' = s
    · subst e; rw [if_pos rfl]; exact atKey_put_same hD hkk _ _
    · rw [if_neg e, atKey_put_other (fun h => e (by
        injection h with h
        have : s'.data = s.data := Array.toList_inj.1 h
        cases s'; cases s; simp_all))]
      exact h2 s'
  have hkl := (hsat.lt k _ hk).1
  have hkb : F k b := (hF b).2 rfl
  have hsat2 : Sat E ((k, .gen (mapHp C.P kt et b (n + 1) (fun s' => if s' = s then c else f s'))) :: ow) nx u a.defers w' F := by
    refine hsat.step (fun j => j = k) (fun _ _ => rfl) (Nat.le_refl _) (Im.le.refl u) ?_ hgr.size (fun b' hb' hne => hgr.block b' hb' (fun e => hne k rfl (by injection e with e; rw [e]; exact hkb))) ?_ ?_ ?_ (fun b o ho => .inl ho)
    · refine ⟨fun b' y hy => ?_, hgr.os.trans hsat.imm.os, hgr.tape.trans hsat.imm.tape, hgr.output.trans hsat.imm.output, Nat.le_trans hsat.imm.lo hgr.size⟩
      have hh := hsat.imm.h b' y hy
      rw [hgr.block b' (Array.getElem?_eq_some_iff.1 hh).1 (fun e => by injection e with e; rw [e, hsat.off k b hkb] at hy; cases hy)]
      exact hh
    · intro j hj
      exact ⟨by rw [look_cons, if_neg (Ne.symm hj)], fun b => Iff.rfl⟩
    · rintro j rfl
      refine ⟨fun r hr => ?_, fun hr => ?_, fun b hb => ?_⟩
      · rw [look_cons, if_pos rfl] at hr
        cases hr
        exact ⟨⟨hF, _, hown, hat⟩, hkl, trivial⟩
      · rw [look_cons, if_pos rfl] at hr; cases hr
      · exact ⟨.inl ⟨j, rfl, hb⟩, hsat.off j b hb⟩
    · intro j j' b hj hj' hne; subst hj hj'; exact absurd rfl hne
  unfold wpListIn
  rw [if_pos (by simp [Region.wanted, hgd])]
  refine ⟨fun _ _ => trivial, ?_⟩
  rw [semAt_eq _ _ _ (fun c hc => by rcases ho with ho | ho <;> rw [ho] at hc <;> cases hc), hrun, Oper.uponIn_skip, hd]
  exact K E a w' ⟨⟨hok.agr.size, hok.agr.kn, hok.agr.gk, hok.agr.klt, hok.agr.glt⟩, F, hsat2⟩
theorem xl_mapSetE {C : Cx} {all : List Oper} {o : Oper} {r : List Oper} {Q : Post} {kn : Kn} {gk : List (Nat × (Gd × SV))} {ow : Own} {nx : Nat} {u : Im} {t kt et k b n : Nat} {f : ByteArray → Int} {m x v : Operand} {s : ByteArray} {c : Int}
    (ho : o.op = .mapUpdate t m x v ∨ o.op = .insert t m x v) (hgd : o.guard = none) (hd : o.dst = none)
    (ht : C.P.underlying t = some (.map kt et)) (hkt : C.P.underlying kt = some .string) (het : C.P.underlying et = some (.int .i64))
    (hm : opd ⟨kn, gk, ow, nx⟩ [] m = some (.v (.map (some b)))) (hx : opd ⟨kn, gk, ow, nx⟩ [] x = some (.v (.string s))) (hv : opd ⟨kn, gk, ow, nx⟩ [] v = some (.v (.int .i64 c))) (hs : s.size ≤ maxLen) (hc : (Lit.int .i64 c).wf = true)
    (hk : look ow k = some (.gen (mapHp C.P kt et b n f))) (hn : n < maxLen) (f' : ByteArray → Int) (hf : (fun s' => if s' = s then c else f s') = f')
    (K : XL C all r Q ⟨kn, gk, (k, .gen (mapHp C.P kt et b (n + 1) f')) :: ow, nx⟩ u) : XL C all (o :: r) Q ⟨kn, gk, ow, nx⟩ u := by
  subst hf
  exact xl_mapSet ho hgd hd ht hkt het hm hx hv hs hc hk hn K
end Go.GV
namespace Go.Proofs.Ytdonomneofdhfaa
open Go.GV Go.RowKit
def sRest : ByteArray := ⟨#[95, 95, 86, 65, 95, 65, 82, 71, 83, 95, 95]⟩
def hashes : List ByteArray := [⟨#[35, 35]⟩, ⟨#[37, 58, 37, 58]⟩]
def hash1 : List ByteArray := [⟨#[35]⟩, ⟨#[37, 58]⟩]
def vF (fn va : Bool) (P : List ByteArray) : List Tok → Bool
  | [] => true
  | t :: r => if (decide (t.kind = 1) && decide (t.text = sRest) && !va) = true then false
    else if (!fn || !isT t hash1) = true then vF fn va P r
    else match r with
      | [] => false
      | t2 :: _ => if (decide (t2.kind ≠ 1) || !(decide (t2.text = sRest) || memB t2.text P)) = true then false else vF fn va P r
def validB (fn va : Bool) (P : List ByteArray) (L : List Tok) : Bool :=
  match L with
  | [] => true
  | t :: r => if (isT t hashes || isT ((t :: r).getLastD tok0) hashes) = true then false else vF fn va P (t :: r)
def fM (P : List ByteArray) (i : Nat) : ByteArray → Int := fun s => if (decide (s = sRest) || memB s (P.take i)) = true then 1 else 0
theorem fM_zero (P : List ByteArray) : (fun s' : ByteArray => if s' = sRest then (1 : Int) else 0) = fM P 0 := by
  funext s
  unfold fM memB
  simp
theorem fM_next {P : List ByteArray} {i : Nat} {s : ByteArray} (h : P[i]? = some s) : (fun s' : ByteArray => if s' = s then (1 : Int) else fM P i s') = fM P (i + 1) := by
  funext s'
  unfold fM memB
  rw [take_get h, List.any_append]
  by_cases e : s' = s
  · subst e; simp
  · simp only [List.any_cons, List.any_nil, decide_eq_false e, Bool.or_false, if_neg e]
set_option maxRecDepth 100000 in
theorem valid_any (nm : ByteArray) (fn va : Bool) (P : List ByteArray) (pa ba : Option Addr) (pc bn bc : Nat) (L : List Tok) (x : Value) (w : World) (hx : SlAt (im w) x (tokY.d L)) (hp : SlAt (im w) (.slice pa P.length pc) (strY.d P))
    (hL : L.length * 48 ≤ 140737488355328) (hP : P.length * 16 ≤ 140737488355328) (zL : ∀ t ∈ L, t.text.size ≤ maxLen) (zP : ∀ s ∈ P, s.size ≤ maxLen) :
    Calls Try.prog 91 #[.agg #[.string nm, .bool fn, .slice pa P.length pc, .bool va, .slice ba bn bc], x] w (PureP w fun v _ => v = .bool (validB fn va P L)) := by
  have zT : ∀ i : Nat, (L.getD i tok0).text.size ≤ maxLen := fun i => by
    rw [List.getD_eq_getElem?_getD]
    cases hx : L[i]? with
    | none => decide
    | some t => exact zL t (List.mem_of_getElem? hx)
  refine x_fun tt_ok Try.func91 rfl rfl [(x, tokY.d L)] 1 [.v (.agg #[.string nm, .bool fn, .slice pa P.length pc, .bool va, .slice ba bn bc]), .r 0] rfl rfl rfl rfl (fun b hb => by simp at hb; subst hb; exact hx) ?_
  refine x_vc tt_ok ?_
  refine x_if (fun h => ?_) (fun h => ?_)
  · have h : (L.length : Int) = 0 := of_decide_eq_true h
    have : L = [] := List.eq_nil_of_length_eq_zero (by omega)
    subst this
    exact fin1 (fun _ _ => rfl)
  · have h : ¬ (L.length : Int) = 0 := of_decide_eq_false h
    have hv : validB fn va P L = if (isT (L.getD 0 tok0) hashes || isT (L.getD ((L.length : Int) - 1).toNat tok0) hashes) = true then false else vF fn va P L := by
      cases L with
      | nil => exact absurd rfl h
      | cons t r =>
        rw [show (((t :: r).length : Int) - 1).toNat = (t :: r).length - 1 by omega]
        simp [validB, List.getLastD_eq_getLast?, List.getLast?_eq_getElem?, List.getD_eq_getElem?_getD]
    repeat (refine And.intro ?_ ?_; first | omega | (simp only [Lay.d_n]; omega) | (simp only [decide_eq_true_eq, decide_eq_false_iff_not, Bool.or_eq_false_iff, Bool.and_eq_true, Bool.or_eq_true, Bool.and_eq_false_iff, Bool.not_eq_true', Bool.not_eq_false', Lay.d_n]; omega) | (simp only [decide_eq_true_eq, decide_eq_false_iff_not, Bool.or_eq_false_iff, Bool.and_eq_true, Bool.or_eq_true, Bool.and_eq_false_iff, Bool.not_eq_true', Bool.not_eq_false']; omega) | (simp only [decide_eq_true_eq, decide_eq_false_iff_not, Bool.or_eq_false_iff]; simp only [Lay.d_n]; omega))
    refine xl_build tt_ok strY hashes [_, _] rfl rfl rfl rfl rfl rfl rfl rfl rfl rfl rfl rfl rfl rfl rfl ?_
    refine xl_go tt_ok ?_
    refine xl_call0 (.bool (isT (L.getD 0 tok0) hashes)) rfl rfl rfl rfl fn89 rfl rfl (fun E w F hs => is_any (L.getD 0 tok0) hashes _ w (hs.rowAt (k := 2) rfl) (by decide)) ?_
    refine xl_go tt_ok ?_
    repeat (refine And.intro ?_ ?_; first | omega | (simp only [Lay.d_n]; omega) | (simp only [decide_eq_true_eq, decide_eq_false_iff_not, Bool.or_eq_false_iff, Bool.and_eq_true, Bool.or_eq_true, Bool.and_eq_false_iff, Bool.not_eq_true', Bool.not_eq_false', Lay.d_n]; omega) | (simp only [decide_eq_true_eq, decide_eq_false_iff_not, Bool.or_eq_false_iff, Bool.and_eq_true, Bool.or_eq_true, Bool.and_eq_false_iff, Bool.not_eq_true', Bool.not_eq_false']; omega) | (simp only [decide_eq_true_eq, decide_eq_false_iff_not, Bool.or_eq_false_iff]; simp only [Lay.d_n]; omega))
    refine xl_gsplit 18 (.bool false) rfl rfl rfl rfl rfl (fun hb => ?_) (fun hb => ?_)
    · refine xl_build tt_ok strY hashes [_, _] rfl rfl rfl rfl rfl rfl rfl rfl rfl rfl rfl rfl rfl rfl rfl ?_
      refine xl_go tt_ok ?_
      refine xl_gcall0 (.bool (isT (L.getD ((L.length : Int) - 1).toNat tok0) hashes)) rfl rfl rfl rfl fn89 rfl rfl (fun _ E w F hs => is_any (L.getD ((L.length : Int) - 1).toNat tok0) hashes _ w (hs.rowAt (k := 3) rfl) (by decide)) ?_
      refine xl_go tt_ok ?_
      refine x_if (fun h2 => ?_) (fun h2 => ?_)
      · have h2 : (isT (L.getD 0 tok0) hashes || isT (L.getD ((L.length : Int) - 1).toNat tok0) hashes) = true := h2
        refine fin1 (fun _ _ => ?_)
        rw [hv, if_pos h2]; rfl
      · have h2 : (isT (L.getD 0 tok0) hashes || isT (L.getD ((L.length : Int) - 1).toNat tok0) hashes) = false := h2
        rw [if_neg (by rw [h2]; simp)] at hv
        rw [hv]
        refine xl_makeMap (kt := 9) (et := 3) rfl rfl rfl rfl (fun b => ?_)
        refine xl_mapSetE (k := 4) (.inr rfl) rfl rfl Try.underlying174 Try.underlying9 Try.underlying3 rfl rfl rfl (by decide) (by decide) rfl (by decide) (fM P 0) (fM_zero P) ?_
        refine xl_go tt_ok ?_
        refine x_sl 31 rfl hp ?_
        refine x_loop (σ := Int) (fun i => ⟨[(33, .v (.int .i64 i)), (32, .v (.int .i64 P.length)), (31, .r 5), (5, .v (.map (some b))), (2, .p 1 0), (1, .r 0)], [],
            [(0, .sl (tokY.d L)), (1, .box 36 [.v (.string nm), .v (.bool fn), .v (.slice pa P.length pc), .v (.bool va), .v (.slice ba bn bc)]), (4, .gen (mapHp Try.prog 9 3 b (i.toNat + 1) (fM P i.toNat))), (5, .sl (strY.d P))], 6⟩)
          (fun i _ => 0 ≤ i ∧ i ≤ P.length) (fun i => (P.length - i).toNat) (fun _ => Nat.le_refl _) 0 [] (.of rfl rfl rfl rfl rfl rfl) ⟨by omega, by omega⟩ ?_
        rintro i u hu ⟨g1, g2⟩
        refine x_vc tt_ok ?_
        refine x_if (fun h3 => ?_) (fun h3 => ?_)
        · have h3 : i < P.length := of_decide_eq_true h3
          have hi : P[i.toNat]? = some (P.getD i.toNat strY.dft) := by rw [List.getD_eq_getElem?_getD, List.getElem?_eq_getElem (by omega)]; rfl
          repeat (refine And.intro ?_ ?_; first | omega | (simp only [Lay.d_n]; omega) | (simp only [decide_eq_true_eq, decide_eq_false_iff_not, Bool.or_eq_false_iff, Bool.and_eq_true, Bool.or_eq_true, Bool.and_eq_false_iff, Bool.not_eq_true', Bool.not_eq_false', Lay.d_n]; omega) | (simp only [decide_eq_true_eq, decide_eq_false_iff_not, Bool.or_eq_false_iff, Bool.and_eq_true, Bool.or_eq_true, Bool.and_eq_false_iff, Bool.not_eq_true', Bool.not_eq_false']; omega) | (simp only [decide_eq_true_eq, decide_eq_false_iff_not, Bool.or_eq_false_iff]; simp only [Lay.d_n]; omega))
          refine xl_mapSetE (k := 4) (.inl rfl) rfl rfl Try.underlying174 Try.underlying9 Try.underlying3 rfl rfl rfl (zP _ (List.mem_of_getElem? hi)) (by decide) rfl (by unfold maxLen; omega) (fM P (i.toNat + 1)) (fM_next hi) ?_
          refine xl_go tt_ok ?_
          repeat (refine And.intro ?_ ?_; first | omega | (simp only [Lay.d_n]; omega) | (simp only [decide_eq_true_eq, decide_eq_false_iff_not, Bool.or_eq_false_iff, Bool.and_eq_true, Bool.or_eq_true, Bool.and_eq_false_iff, Bool.not_eq_true', Bool.not_eq_false', Lay.d_n]; omega) | (simp only [decide_eq_true_eq, decide_eq_false_iff_not, Bool.or_eq_false_iff, Bool.and_eq_true, Bool.or_eq_true, Bool.and_eq_false_iff, Bool.not_eq_true', Bool.not_eq_false']; omega) | (simp only [decide_eq_true_eq, decide_eq_false_iff_not, Bool.or_eq_false_iff]; simp only [Lay.d_n]; omega))
          have e2 : (i + 1).toNat = i.toNat + 1 := by omega
          refine again (i + 1) [] ?_ ⟨by omega, by omega⟩ (by omega)
          simp only [e2]
          exact .of rfl rfl rfl rfl rfl rfl
        · have h3 : ¬ i < P.length := of_decide_eq_false h3
          obtain ⟨i0, hi0⟩ : ∃ i0, i0 = i.toNat := ⟨_, rfl⟩
          have e3 : i0 = P.length := by omega
          rw [← hi0]
          refine x_loop (σ := Int) (fun i => ⟨[(42, .v (.int .i64 i)), (41, .v (.int .i64 L.length)), (40, .r 0), (5, .v (.map (some b))), (2, .p 1 0), (1, .r 0)], [],
              [(0, .sl (tokY.d L)), (1, .box 36 [.v (.string nm), .v (.bool fn), .v (.slice pa P.length pc), .v (.bool va), .v (.slice ba bn bc)]), (4, .gen (mapHp Try.prog 9 3 b (i0 + 1) (fM P i0)))], 6⟩)
            (fun i _ => 0 ≤ i ∧ i ≤ L.length ∧ vF fn va P (L.drop i.toNat) = vF fn va P L) (fun i => (L.length - i).toNat) (fun _ => Nat.le_refl _) 0 [] (.of rfl rfl rfl rfl rfl rfl) ⟨by omega, by omega, rfl⟩ ?_
          rintro j u2 hu2 ⟨k1, k2, k3⟩
          refine x_vc tt_ok ?_
          refine x_if (fun h4 => ?_) (fun h4 => ?_)
          · have h4 : j < L.length := of_decide_eq_true h4
            have ej : (j + 1).toNat = j.toNat + 1 := by omega
            rw [drop_at (d := tok0) k1 h4, ej] at k3
            obtain ⟨t, ht⟩ : ∃ t, t = L.getD j.toNat tok0 := ⟨_, rfl⟩
            rw [← ht] at k3
            repeat (refine And.intro ?_ ?_; first | omega | (simp only [Lay.d_n]; omega) | (simp only [decide_eq_true_eq, decide_eq_false_iff_not, Bool.or_eq_false_iff, Bool.and_eq_true, Bool.or_eq_true, Bool.and_eq_false_iff, Bool.not_eq_true', Bool.not_eq_false', Lay.d_n]; omega) | (simp only [decide_eq_true_eq, decide_eq_false_iff_not, Bool.or_eq_false_iff, Bool.and_eq_true, Bool.or_eq_true, Bool.and_eq_false_iff, Bool.not_eq_true', Bool.not_eq_false']; omega) | (simp only [decide_eq_true_eq, decide_eq_false_iff_not, Bool.or_eq_false_iff]; simp only [Lay.d_n]; omega))
            refine x_if (fun h5 => ?_) (fun h5 => ?_)
            · have h5 : (decide ((L.getD j.toNat tok0).kind = 1) && decide ((L.getD j.toNat tok0).text = sRest) && !va) = true := h5
              rw [← ht] at h5
              simp only [vF, if_pos h5] at k3
              refine fin1 (fun _ _ => ?_)
              rw [← k3]; rfl
            · have h5 : (decide ((L.getD j.toNat tok0).kind = 1) && decide ((L.getD j.toNat tok0).text = sRest) && !va) = false := h5
              rw [← ht] at h5
              simp only [vF] at k3
              rw [if_neg (by rw [h5]; simp)] at k3
              refine xl_gsplit 63 (.bool false) rfl rfl rfl rfl rfl (fun hb2 => ?_) (fun hb2 => ?_)
              · refine xl_build tt_ok strY hash1 [_, _] rfl rfl rfl rfl rfl rfl rfl rfl rfl rfl rfl rfl rfl rfl rfl ?_
                refine xl_go tt_ok ?_
                refine xl_gcall0 (.bool (isT (L.getD j.toNat tok0) hash1)) rfl rfl rfl rfl fn89 rfl rfl (fun _ E w F hs => is_any (L.getD j.toNat tok0) hash1 _ w (hs.rowAt (k := 7) rfl) (by decide)) ?_
                refine xl_go tt_ok ?_
                repeat (refine And.intro ?_ ?_; first | omega | (simp only [Lay.d_n]; omega) | (simp only [decide_eq_true_eq, decide_eq_false_iff_not, Bool.or_eq_false_iff, Bool.and_eq_true, Bool.or_eq_true, Bool.and_eq_false_iff, Bool.not_eq_true', Bool.not_eq_false', Lay.d_n]; omega) | (simp only [decide_eq_true_eq, decide_eq_false_iff_not, Bool.or_eq_false_iff, Bool.and_eq_true, Bool.or_eq_true, Bool.and_eq_false_iff, Bool.not_eq_true', Bool.not_eq_false']; omega) | (simp only [decide_eq_true_eq, decide_eq_false_iff_not, Bool.or_eq_false_iff]; simp only [Lay.d_n]; omega))
                refine x_if (fun h6 => ?_) (fun h6 => ?_)
                · have h6 : (!fn || !isT (L.getD j.toNat tok0) hash1) = true := h6
                  rw [← ht] at h6
                  rw [if_pos h6] at k3
                  repeat (refine And.intro ?_ ?_; first | omega | (simp only [Lay.d_n]; omega) | (simp only [decide_eq_true_eq, decide_eq_false_iff_not, Bool.or_eq_false_iff, Bool.and_eq_true, Bool.or_eq_true, Bool.and_eq_false_iff, Bool.not_eq_true', Bool.not_eq_false', Lay.d_n]; omega) | (simp only [decide_eq_true_eq, decide_eq_false_iff_not, Bool.or_eq_false_iff, Bool.and_eq_true, Bool.or_eq_true, Bool.and_eq_false_iff, Bool.not_eq_true', Bool.not_eq_false']; omega) | (simp only [decide_eq_true_eq, decide_eq_false_iff_not, Bool.or_eq_false_iff]; simp only [Lay.d_n]; omega))
                  exact again (j + 1) [] (.of rfl rfl rfl rfl rfl rfl) ⟨by omega, by omega, by rw [ej]; exact k3⟩ (by omega)
                · have h6 : (!fn || !isT (L.getD j.toNat tok0) hash1) = false := h6
                  rw [← ht] at h6
                  rw [if_neg (by rw [h6]; simp)] at k3
                  repeat (refine And.intro ?_ ?_; first | omega | (simp only [Lay.d_n]; omega) | (simp only [decide_eq_true_eq, decide_eq_false_iff_not, Bool.or_eq_false_iff, Bool.and_eq_true, Bool.or_eq_true, Bool.and_eq_false_iff, Bool.not_eq_true', Bool.not_eq_false', Lay.d_n]; omega) | (simp only [decide_eq_true_eq, decide_eq_false_iff_not, Bool.or_eq_false_iff, Bool.and_eq_true, Bool.or_eq_true, Bool.and_eq_false_iff, Bool.not_eq_true', Bool.not_eq_false']; omega) | (simp only [decide_eq_true_eq, decide_eq_false_iff_not, Bool.or_eq_false_iff]; simp only [Lay.d_n]; omega))
                  repeat (refine And.intro ?_ ?_; first | omega | (simp only [Lay.d_n]; omega) | (simp only [decide_eq_true_eq, decide_eq_false_iff_not, Bool.or_eq_false_iff, Bool.and_eq_true, Bool.or_eq_true, Bool.and_eq_false_iff, Bool.not_eq_true', Bool.not_eq_false', Lay.d_n]; omega) | (simp only [decide_eq_true_eq, decide_eq_false_iff_not, Bool.or_eq_false_iff, Bool.and_eq_true, Bool.or_eq_true, Bool.and_eq_false_iff, Bool.not_eq_true', Bool.not_eq_false']; omega) | (simp only [decide_eq_true_eq, decide_eq_false_iff_not, Bool.or_eq_false_iff]; simp only [Lay.d_n]; omega))
                  refine xl_lookup (k := 4) (s := (L.getD (j + 1).toNat tok0).text) rfl rfl rfl Try.underlying174 Try.underlying9 Try.underlying3 rfl rfl rfl (zT _) rfl (fun w => run_zeroValue w tiok3) ?_
                  refine xl_go tt_ok ?_
                  repeat (refine And.intro ?_ ?_; first | omega | (simp only [Lay.d_n]; omega) | (simp only [decide_eq_true_eq, decide_eq_false_iff_not, Bool.or_eq_false_iff, Bool.and_eq_true, Bool.or_eq_true, Bool.and_eq_false_iff, Bool.not_eq_true', Bool.not_eq_false', Lay.d_n]; omega) | (simp only [decide_eq_true_eq, decide_eq_false_iff_not, Bool.or_eq_false_iff, Bool.and_eq_true, Bool.or_eq_true, Bool.and_eq_false_iff, Bool.not_eq_true', Bool.not_eq_false']; omega) | (simp only [decide_eq_true_eq, decide_eq_false_iff_not, Bool.or_eq_false_iff]; simp only [Lay.d_n]; omega))
                  have hnx : ∀ r : Bool, (match List.drop (j.toNat + 1) L with
                      | [] => false
                      | t2 :: _ => if (decide (t2.kind ≠ 1) || !(decide (t2.text = sRest) || memB t2.text P)) = true then false else vF fn va P (L.drop (j.toNat + 1))) = r →
                      if ((decide (j + 1 = (L.length : Int)) || decide ((L.getD (j + 1).toNat tok0).kind ≠ 1)) || decide (fM P i0 (L.getD (j + 1).toNat tok0).text = 0)) = true then r = false else r = vF fn va P (L.drop (j.toNat + 1)) := by
                    intro r hr
                    rw [← hr]
                    by_cases he : j + 1 = (L.length : Int)
                    · rw [decide_eq_true he, List.drop_eq_nil_of_le (by omega)]; simp
                    · have hd : L.drop (j.toNat + 1) = L.getD (j.toNat + 1) tok0 :: L.drop (j.toNat + 1 + 1) := by
                        have := drop_at (L := L) (d := tok0) (i := j + 1) (by omega) (by omega)
                        rw [ej] at this
                        rw [this, show (j + 1 + 1).toNat = j.toNat + 1 + 1 by omega]
                      have hf : decide (fM P i0 (L.getD (j + 1).toNat tok0).text = 0) = !(decide ((L.getD (j.toNat + 1) tok0).text = sRest) || memB (L.getD (j.toNat + 1) tok0).text P) := by
                        rw [ej, e3]
                        unfold fM
                        rw [List.take_length]
                        cases (decide ((L.getD (j.toNat + 1) tok0).text = sRest) || memB (L.getD (j.toNat + 1) tok0).text P) <;> rfl
                      rw [hf, decide_eq_false he, ej, Bool.false_or]
                      rw [hd]
                      simp only
                      by_cases hc : (decide ((L.getD (j.toNat + 1) tok0).kind ≠ 1) || !(decide ((L.getD (j.toNat + 1) tok0).text = sRest) || memB (L.getD (j.toNat + 1) tok0).text P)) = true
                      · rw [if_pos hc, if_pos hc]
                      · rw [if_neg hc, if_neg hc]
                  have k4 := hnx _ k3
                  refine x_if (fun h8 => ?_) (fun h8 => ?_)
                  · have h8 : ((decide (j + 1 = (L.length : Int)) || decide ((L.getD (j + 1).toNat tok0).kind ≠ 1)) || decide (fM P i0 (L.getD (j + 1).toNat tok0).text = 0)) = true := h8
                    rw [if_pos h8] at k4
                    refine fin1 (fun _ _ => ?_)
                    rw [k4]; rfl
                  · have h8 : ((decide (j + 1 = (L.length : Int)) || decide ((L.getD (j + 1).toNat tok0).kind ≠ 1)) || decide (fM P i0 (L.getD (j + 1).toNat tok0).text = 0)) = false := h8
                    rw [if_neg (by rw [h8]; simp)] at k4
                    repeat (refine And.intro ?_ ?_; first | omega | (simp only [Lay.d_n]; omega) | (simp only [decide_eq_true_eq, decide_eq_false_iff_not, Bool.or_eq_false_iff, Bool.and_eq_true, Bool.or_eq_true, Bool.and_eq_false_iff, Bool.not_eq_true', Bool.not_eq_false', Lay.d_n]; omega) | (simp only [decide_eq_true_eq, decide_eq_false_iff_not, Bool.or_eq_false_iff, Bool.and_eq_true, Bool.or_eq_true, Bool.and_eq_false_iff, Bool.not_eq_true', Bool.not_eq_false']; omega) | (simp only [decide_eq_true_eq, decide_eq_false_iff_not, Bool.or_eq_false_iff]; simp only [Lay.d_n]; omega))
                    exact again (j + 1) [] (.of rfl rfl rfl rfl rfl rfl) ⟨by omega, by omega, by rw [ej]; exact k4.symm⟩ (by omega)
              · have hb2 : (!fn) = true := by cases fn with
                  | true => exact absurd rfl hb2
                  | false => rfl
                refine xl_go tt_ok ?_
                refine xl_gcall0 (.bool false) rfl rfl rfl rfl fn89 rfl rfl (fun hg => by
                  have h7 : (!fn) = false := hg.1
                  rw [hb2] at h7; cases h7) ?_
                refine xl_go tt_ok ?_
                repeat (refine And.intro ?_ ?_; first | omega | (simp only [Lay.d_n]; omega) | (simp only [decide_eq_true_eq, decide_eq_false_iff_not, Bool.or_eq_false_iff, Bool.and_eq_true, Bool.or_eq_true, Bool.and_eq_false_iff, Bool.not_eq_true', Bool.not_eq_false', Lay.d_n]; omega) | (simp only [decide_eq_true_eq, decide_eq_false_iff_not, Bool.or_eq_false_iff, Bool.and_eq_true, Bool.or_eq_true, Bool.and_eq_false_iff, Bool.not_eq_true', Bool.not_eq_false']; omega) | (simp only [decide_eq_true_eq, decide_eq_false_iff_not, Bool.or_eq_false_iff]; simp only [Lay.d_n]; omega))
                refine x_ift ?_ ?_
                · show (!fn || !false) = true
                  rw [hb2]; rfl
                · rw [if_pos (by rw [hb2]; rfl)] at k3
                  repeat (refine And.intro ?_ ?_; first | omega | (simp only [Lay.d_n]; omega) | (simp only [decide_eq_true_eq, decide_eq_false_iff_not, Bool.or_eq_false_iff, Bool.and_eq_true, Bool.or_eq_true, Bool.and_eq_false_iff, Bool.not_eq_true', Bool.not_eq_false', Lay.d_n]; omega) | (simp only [decide_eq_true_eq, decide_eq_false_iff_not, Bool.or_eq_false_iff, Bool.and_eq_true, Bool.or_eq_true, Bool.and_eq_false_iff, Bool.not_eq_true', Bool.not_eq_false']; omega) | (simp only [decide_eq_true_eq, decide_eq_false_iff_not, Bool.or_eq_false_iff]; simp only [Lay.d_n]; omega))
                  exact again (j + 1) [] (.of rfl rfl rfl rfl rfl rfl) ⟨by omega, by omega, by rw [ej]; exact k3⟩ (by omega)
          · have h4 : ¬ j < L.length := of_decide_eq_false h4
            rw [List.drop_eq_nil_of_le (by omega)] at k3
            refine fin1 (fun _ _ => ?_)
            rw [← k3]; rfl
    · have hb : isT (L.getD 0 tok0) hashes = true := by simpa using hb
      rw [if_pos (by rw [hb]; rfl)] at hv
      refine xl_go tt_ok ?_
      refine xl_gcall0 (.bool false) rfl rfl rfl rfl fn89 rfl rfl (fun hg => by
        have h5 : isT (L.getD 0 tok0) hashes = false := hg.1
        rw [hb] at h5; cases h5) ?_
      refine xl_go tt_ok ?_
      refine x_ift ?_ ?_
      · show (isT (L.getD 0 tok0) hashes || false) = true
        rw [hb]; rfl
      · refine fin1 (fun _ _ => ?_)
        rw [hv]; rfl
end Go.Proofs.Ytdonomneofdhfaa
namespace Go.GV
open Go.RowKit
theorem idx_any {C : Cx} {T : TT} {E : Env} {st : St} {u : Im} {a : Act} {w : World} {t : Nat} {x i : Operand} {s : SV} {side : List Prop} {sx si : Option SV} (hT : TOk C.P T) (hok : Ok C E st u a w)
    (hx : ∀ z, sx = some z → a.eval x = z.den E ∧ z.lt E st.nx) (hi : ∀ z, si = some z → a.eval i = z.den E) (he : effIndexAddr T st t sx si = .val s side) (hs : allP side) (w' : World) :
    (Instr.indexAt t (a.eval x) (a.eval i)).run C.P w' = .ok (s.den E) w' ∧ s.lt E st.nx := by
  unfold effIndexAddr at he
  split at he
  · rename_i k kk n ti hl
    split at he
    · rename_i e hd
      have main : ∀ te r D, look T e = some te → look st.ow k = some r → r.data = some D → 0 ≤ n → n < D.n →
          (Instr.indexAt t (a.eval x) (a.eval i)).run C.P w' = .ok ((SV.e k te.sz n 0).den E) w' ∧ (SV.e k te.sz n 0).lt E st.nx := by
        intro te r D hte hr hdat h0 h1
        obtain ⟨f, hsat⟩ := hok.sat
        obtain ⟨A, c, hv, hcell⟩ := keyed hsat hr hdat
        obtain ⟨ad, rfl, _⟩ := hcell (by omega)
        obtain ⟨e1, hk, _⟩ := hx _ rfl
        have e2 := hi _ rfl
        simp only [SV.den] at e1 e2
        refine ⟨?_, hk, ad, _, c, hv, h0, h1⟩
        have hu := (hT _ _ hl).isSlice hd
        rw [e1, e2, hv]
        simp only [Instr.indexAt, asIntOf, Sem.run_bind, Sem.run_pure, Result.andThen_ok, run_underlying hu]
        simp [h0, h1, run_sizeOf w' (hT _ _ hte), SV.den, elOf, hv]
      split at he
      · rename_i te D' D hte hr
        cases he
        exact main te _ D hte hr rfl hs.1 hs.2.1
      · rename_i te D hte hr
        cases he
        exact main te _ D hte hr rfl hs.1 hs.2.1
      · cases he
    · cases he
  · cases he
theorem xa_idx {C : Cx} {T : TT} (hT : TOk C.P T) {ops : Array Oper} {fuel : Nat} {listed : Array Bool} {Q : Post} {st : St} {u : Im} {d t : Nat} {o : Oper} {g : Gd} {s : SV} {side : List Prop} {xv iv : Operand} (i : Nat)
    (hsel : Region.noSelect ops = true) (hdf : noDefer ops = true) (hQ : ∀ c st u, Q (.panic c) st u → False) (ho : ops.toList[i]? = some o)
    (hr : (Region.ready .any ops listed).contains i = true) (hf : Region.free .any ops listed i = true) (hp : o.op = .indexAddr t xv iv)
    (hg : guardOf ops.toList st o = some g) (he : effIndexAddr T st t (opd st g xv) (opd st g iv) = .val s side) (hd : o.dst = some d) (hfr : fresh C.N st d g = true)
    (hside : allL (gprops st g) → allP side)
    (K : XA C ops fuel (listed.setIfInBounds i true) Q (st.put d g s) u) : XA C ops (fuel + 1) listed Q st u := by
  intro E a w hok
  have ho' : ops[i]? = some o := by simpa using ho
  have how : (st.put d g s).ow = st.ow := by cases g <;> rfl
  have hnx : (st.put d g s).nx = st.nx := by cases g <;> rfl
  have hgd := guard_sound (all := ops) hok.agr hg
  have hrun : gs a.tmps g → ∀ w', (execOp a.eval o).run C.P w' = .ok (.value (s.den E)) w' ∧ s.lt E st.nx := fun hgs w' => by
    obtain ⟨h1, h2⟩ := idx_any hT hok (x := xv) (i := iv) (fun z h => opd_sound hok.agr hgs h) (fun z h => (opd_sound hok.agr hgs h).1) he (hside (allL_of (gprops_sound hok.agr hgs (fun _ _ _ => trivial)))) w'
    refine ⟨?_, h2⟩
    simp only [execOp, hp]
    rw [Sem.run_bind, h1]; rfl
  have hpan : ∀ x c a w, SemQ C E st.nx u Q (.panic c) (Act.put a o.dst x) w → SemQ C E st.nx u Q (.panic c) a w := fun x c a w ⟨_, st', u', _, _, _, _, h5⟩ => (hQ _ _ _ h5).elim
  have go : ∀ x, (gs a.tmps g → x = s.den E) → (¬ gs a.tmps g → x = undef) → YW C.P ops o x a → wpAnyIn (FR C.ro) 0 C.P .any ops (SemQ C E st.nx u Q) (fuel + 1) listed a w := by
    intro x hx hnx' hy
    have hput : Agr C.N E (st.put d g s) (a.tmps.setIfInBounds d x) :=
      hok.agr.put hfr (fun hgs => (hrun hgs w).2) hx hnx' (fun hn => by subst hn; exact hx (fun y hy => by cases hy))
    refine wpAny_ahead ho' (Region.noSelect_spec hsel) (noDefer_spec hdf) (hpan x) fuel listed a w (Region.free_spec ho' hf) (by simpa using hr) hy ?_
    have := K E (a.put o.dst x) w ⟨by rw [hd]; exact hput, by rw [how, hnx, hd]; exact hok.sat⟩
    rwa [hnx] at this
  by_cases hw : Region.wanted o (yielded ops a.tmps) = true
  · have hgs := hgd.1 hw
    exact go _ (fun _ => rfl) (fun hn => absurd hgs hn) (.inl ⟨hw, (fun c hc => by rw [hp] at hc; cases hc), fun w => (hrun hgs w).1⟩)
  · have hgs := hgd.2 (by simpa using hw)
    exact go undef (fun hy => absurd hy hgs) (fun _ => rfl) (.inr ⟨by simpa using hw, rfl⟩)
abbrev Tbl := List (List Nat × List Nat)
def tblOk (ops : Array Oper) (L0 : Array Bool) (N : Nat) (T : Tbl) : Bool :=
  T.all fun x => decide (Region.ready .any ops (marks L0 x.1) = x.2) && (decide (x.1.length = N) || (!x.2.isEmpty && x.2.all fun i => (ops[i]?).isSome && T.any fun y => decide (y.1.length = x.1.length + 1) && decide (marks L0 y.1 = (marks L0 x.1).setIfInBounds i true)))
def owesI (C : Cx) (ops : Array Oper) (u : Im) (keep : Nat) (F : List Nat → St) (nx : List Nat → Nat → List Nat) (D : List Nat) : List Nat → Prop
  | [] => True
  | i :: r => (match ops[i]? with
    | some o => ∀ u', u.le u' → XL C ops.toList [o] (onlyN (Meet keep (fun _ : Unit => F (nx D i)) (fun _ _ => True))) (F D) u'
    | none => True) ∧ owesI C ops u keep F nx D r
def owes (C : Cx) (ops : Array Oper) (u : Im) (keep N : Nat) (F : List Nat → St) (nx : List Nat → Nat → List Nat) : Tbl → Prop
  | [] => True
  | (D, l) :: r => (match Nat.beq D.length N with
    | true => True
    | false => owesI C ops u keep F nx D l) ∧ owes C ops u keep N F nx r
theorem owesI_mem {C : Cx} {ops : Array Oper} {u : Im} {keep : Nat} {F : List Nat → St} {nx : List Nat → Nat → List Nat} {D : List Nat} : ∀ {l : List Nat}, owesI C ops u keep F nx D l → ∀ i ∈ l, ∀ o, ops[i]? = some o → ∀ u', u.le u' → XL C ops.toList [o] (onlyN (Meet keep (fun _ : Unit => F (nx D i)) (fun _ _ => True))) (F D) u'
  | [], _, i, hi, _, _ => by cases hi
  | j :: r, h, i, hi, o, ho => by
    rcases List.mem_cons.1 hi with rfl | hi
    · have h1 := h.1
      rw [ho] at h1
      exact h1
    · exact owesI_mem h.2 i hi o ho
theorem owes_mem {C : Cx} {ops : Array Oper} {u : Im} {keep N : Nat} {F : List Nat → St} {nx : List Nat → Nat → List Nat} : ∀ {T : Tbl}, owes C ops u keep N F nx T → ∀ x ∈ T, x.1.length ≠ N → owesI C ops u keep F nx x.1 x.2
  | [], _, x, hx, _ => by cases hx
  | (D, l) :: r, h, x, hx, hn => by
    rcases List.mem_cons.1 hx with rfl | hx
    · have h1 := h.1
      rw [show Nat.beq D.length N = false from by cases hb : Nat.beq D.length N with
        | true => exact absurd (Nat.eq_of_beq_eq_true hb) hn
        | false => rfl] at h1
      exact h1
    · exact owes_mem h.2 x hx hn
def nxOk (L0 : Array Bool) (N : Nat) (nx : List Nat → Nat → List Nat) (T : Tbl) : Bool :=
  T.all fun x => decide (x.1.length = N) || x.2.all fun i => T.any fun y => decide (y.1 = nx x.1 i) && decide (y.1.length = x.1.length + 1) && decide (marks L0 y.1 = (marks L0 x.1).setIfInBounds i true)
theorem xa_fam0 {C : Cx} {ops : Array Oper} {Q : Post} {u0 : Im} {fuel keep N : Nat} {L0 : Array Bool} (T : Tbl) (F : List Nat → St) (nx : List Nat → Nat → List Nat) (hT : tblOk ops L0 N T = true) (hx : nxOk L0 N nx T = true)
    (hkeep : ∀ D, keep ≤ (F D).nx) (ho : owes C ops u0 keep N F nx T) (hend : ∀ x ∈ T, x.1.length = N → ∀ u, u0.le u → XA C ops fuel (marks L0 x.1) Q (F x.1) u) :
    ∀ (k : Nat) (x : List Nat × List Nat) (u : Im), x ∈ T → x.1.length + k = N → u0.le u → ∀ E a w, Ok C E (F x.1) u a w →
      wpAnyIn (FR C.ro) 0 C.P .any ops (SemQ C E keep u Q) (k + fuel) (marks L0 x.1) a w
  | 0, x, u, hxT, hk, hu, E, a, w, hok => by
    have h := hend x hxT (by omega) u hu E a w hok
    rw [Nat.zero_add]
    exact wpAnyIn_post (fun e a w => SemQ.mono (fun _ _ => rfl) (hkeep _) (Im.le.refl u)) h
  | k + 1, x, u, hxT, hk, hu, E, a, w, hok => by
    have t1 := List.all_eq_true.1 hT x hxT
    have t2 := List.all_eq_true.1 hx x hxT
    rw [Bool.and_eq_true, decide_eq_true_eq, Bool.or_eq_true, decide_eq_true_eq, Bool.and_eq_true] at t1
    rw [Bool.or_eq_true, decide_eq_true_eq] at t2
    obtain ⟨r1, r2⟩ := t1
    have r3 := r2.resolve_left (by omega)
    have t3 := List.all_eq_true.1 (t2.resolve_left (by omega))
    have hne : x.2 ≠ [] := by
      intro h0
      rw [h0] at r3
      exact absurd r3.1 (by simp)
    rw [show k + 1 + fuel = (k + fuel) + 1 by omega]
    refine wpAnyIn_all r1 hne fun j hj => ?_
    have r4 := List.all_eq_true.1 r3.2 j hj
    rw [Bool.and_eq_true] at r4
    obtain ⟨o, hoj⟩ := Option.isSome_iff_exists.1 r4.1
    have h5 := t3 j hj
    rw [List.any_eq_true] at h5
    obtain ⟨y, hy, h6⟩ := h5
    simp only [Bool.and_eq_true, decide_eq_true_eq] at h6
    obtain ⟨⟨y1, y2⟩, y3⟩ := h6
    have h1 := owesI_mem (owes_mem ho x hxT (by omega)) j hj o hoj u hu
    unfold XL at h1
    have h2 := h1 E a w hok
    have key : wpOpIn (FR C.ro) 0 C.P ops (SemQ C E (F x.1).nx u (onlyN (Meet keep (fun _ : Unit => F (nx x.1 j)) (fun _ _ => True)))) j
        (fun a' w' => SemQ C E (F x.1).nx u (onlyN (Meet keep (fun _ : Unit => F (nx x.1 j)) (fun _ _ => True))) .normal a' w') a w := by
      unfold wpOpIn
      simp only [hoj]
      unfold wpListIn at h2
      simp only [wpListIn] at h2
      exact h2
    refine wpOpIn_post ?_ ?_ key
    · rintro e a' w' hne' ⟨E', st', u', h2, h3, h4, h5, h6⟩
      cases e with
      | normal => exact absurd rfl hne'
      | exit id => exact h6.elim
      | goto l => exact h6.elim
      | ret => exact h6.elim
      | panic c => exact h6.elim
      | outgrown => exact h6.elim
    · rintro a' w' ⟨E', st', u', h2, h3, h4, h5, h6⟩
      have h6 : Meet keep (fun _ : Unit => F (nx x.1 j)) (fun _ _ => True) st' u' := h6
      unfold Meet at h6
      obtain ⟨_, ρ, h7, _⟩ := h6
      obtain ⟨E2, q1, q2⟩ := h7.ok h5
      rw [← y1] at q2
      have ih := xa_fam0 T F nx hT hx hkeep ho hend k y u' hy (by omega) (hu.trans h4) E2 a' w' q2
      rw [← y3]
      refine wpAnyIn_post (fun e a w => SemQ.mono (fun j hj => ?_) (Nat.le_refl _) h4) ih
      rw [q1 j hj, h2 j (Nat.lt_of_lt_of_le hj (hkeep _))]
theorem xa_fam {C : Cx} {ops : Array Oper} {Q : Post} {st : St} {u : Im} {fuel n N : Nat} {L0 : Array Bool} (T : Tbl) (F : List Nat → St) (nx : List Nat → Nat → List Nat) (hn : n = N + fuel) (hT : tblOk ops L0 N T = true) (hx : nxOk L0 N nx T = true)
    (h0 : (T.any fun x => decide (x.1 = [])) = true) (ρ : Ren) (hsub : Sub st.nx ρ st (F [])) (hkeep : ∀ D, st.nx ≤ (F D).nx) (ho : owes C ops u st.nx N F nx T)
    (full : List Nat) (hfull : (T.all fun x => !decide (x.1.length = N) || decide (x.1 = full)) = true) (hend : ∀ u', u.le u' → XA C ops fuel (marks L0 full) Q (F full) u') : XA C ops n L0 Q st u := by
  subst hn
  intro E a w hok
  obtain ⟨E2, q1, q2⟩ := hsub.ok hok
  rw [List.any_eq_true] at h0
  obtain ⟨x, hxT, hx0⟩ := h0
  have hx0 : x.1 = [] := of_decide_eq_true hx0
  have hend' : ∀ x ∈ T, x.1.length = N → ∀ u', u.le u' → XA C ops fuel (marks L0 x.1) Q (F x.1) u' := fun x hx hl u' hu => by
    have := List.all_eq_true.1 hfull x hx
    rw [Bool.or_eq_true, decide_eq_true_eq] at this
    rw [this.resolve_left (by simp [hl])]
    exact hend u' hu
  have h := xa_fam0 T F nx hT hx hkeep ho hend' N x u hxT (by rw [hx0]; simp) (Im.le.refl u) E2 a w (by rw [hx0]; exact q2)
  rw [hx0] at h
  exact wpAnyIn_post (fun e a w => SemQ.mono q1 (Nat.le_refl _) (Im.le.refl u)) h
def selD {α : Type} (D : List Nat) : List (Nat × α) → List α
  | [] => []
  | (i, x) :: r => match elemB i D with
    | true => x :: selD D r
    | false => selD D r
def selN {α : Type} (D : List Nat) : List (Nat × α) → List α
  | [] => []
  | (i, x) :: r => match elemB i D with
    | true => selN D r
    | false => x :: selN D r
def first1 {α : Type} (D : List Nat) : List (Nat × α) → Option α
  | [] => none
  | (i, x) :: r => match elemB i D with
    | true => some x
    | false => first1 D r
def selO {α : Type} (D : List Nat) : List (Nat × List (Nat × α)) → List (Nat × α)
  | [] => []
  | (k, l) :: r => match first1 D l with
    | some x => (k, x) :: selO D r
    | none => selO D r
def insD (i : Nat) : List Nat → List Nat
  | [] => [i]
  | j :: r => match Nat.blt i j with
    | true => i :: j :: r
    | false => j :: insD i r
end Go.GV
namespace Go.Proofs.Ytdonomneofdhfaa
open Go.GV Go.RowKit
def rpS : List ByteArray := [⟨#[41]⟩]
def commaS : List ByteArray := [⟨#[44]⟩]
def dotsS : List ByteArray := [⟨#[46, 46, 46]⟩]
structure PR where
  ps : List ByteArray
  va : Bool
  n : Int
  ok : Bool
def pF (P : List ByteArray) (i : Int) : List Tok → PR
  | t :: x :: r => if isT t dotsS = true then ⟨P, true, i + 2, isT x rpS⟩
    else if ((decide (t.kind ≠ 1) || decide (t.text = sRest)) || memB t.text P) = true then ⟨P, false, 0, false⟩
    else if isT x rpS = true then ⟨P ++ [t.text], false, i + 2, true⟩
    else if isT x commaS = true then pF (P ++ [t.text]) (i + 2) r
    else ⟨P ++ [t.text], false, 0, false⟩
  | _ => ⟨P, false, 0, false⟩
def paramsR (L : List Tok) : PR := if (decide (1 < L.length) && isT (L.getD 1 tok0) rpS) = true then ⟨[], false, 2, true⟩ else pF [] 1 (L.drop 1)
def fK (P : List ByteArray) : ByteArray → Int := fun s => if memB s P = true then 1 else 0
theorem fK_pos (P : List ByteArray) (s : ByteArray) : decide ((0 : Int) < fK P s) = memB s P := by
  unfold fK
  cases memB s P <;> rfl
theorem fK_next {P : List ByteArray} {s : ByteArray} : (fun s' : ByteArray => if s' = s then (1 : Int) else fK P s') = fK (P ++ [s]) := by
  funext s'
  unfold fK memB
  rw [List.any_append]
  by_cases e : s' = s
  · subst e; simp
  · simp only [List.any_cons, List.any_nil, decide_eq_false e, Bool.or_false, if_neg e]
def tbl90 : Tbl := [([], [3, 8, 9, 10]), ([3], [8, 9, 10]), ([8], [3, 9, 10]), ([9], [3, 8, 10]), ([10], [3, 8, 9]), ([3, 8], [9, 10]), ([3, 9], [8, 10]), ([3, 10], [8, 9]), ([8, 9], [3, 10]), ([8, 10], [3, 9]), ([9, 10], [3, 8]), ([3, 8, 9], [10]), ([3, 8, 10], [9]), ([3, 9, 10], [8, 11]), ([8, 9, 10], [3]), ([3, 8, 9, 10], [11]), ([3, 9, 10, 11], [8]), ([3, 8, 9, 10, 11], [12]), ([3, 8, 9, 10, 11, 12], [])]
def tbl90b : Tbl := [([], [2, 6]), ([2], [3, 6]), ([6], [2, 7]), ([2, 3], [4, 6]), ([2, 6], [3, 7]), ([6, 7], [2]), ([2, 3, 4], [6]), ([2, 3, 6], [4, 7]), ([2, 6, 7], [3]), ([2, 3, 4, 6], [7]), ([2, 3, 6, 7], [4]), ([2, 3, 4, 6, 7], [8])]
def tokC (t : Tok) : List SV := [.v (.int .i64 t.kind), .v (.string t.text), .v (.int .i64 t.lo), .v (.int .i64 t.hi), .v (.bool t.space)]
def mBox (nm : ByteArray) (va : Bool) (p : SV) : Rs := .box 36 [.v (.string nm), .v (.bool false), p, .v (.bool va), .v (.slice none 0 0)]
set_option maxHeartbeats 4000000 in
set_option maxRecDepth 100000 in
theorem params_sc (nm : ByteArray) (L : List Tok) (A : Option Addr) (c : Nat) (hL : L.length * 48 ≤ 140737488355328) (zL : ∀ t ∈ L, t.text.size ≤ maxLen) :
    SC Try.prog 90 (fun u => SlAt u (.slice A L.length c) (tokY.d L)) 2 [(0, mBox nm false (.r 1)), (1, .row 9 (strY.d []))] [.p 0 0, .v (.slice A L.length c)]
      (fun _ : Unit => ([(0, mBox nm (paramsR L).va (.r 2)), (2, .row 9 (strY.d (paramsR L).ps))], 3, .tuple #[.int .i64 (paramsR L).n, .bool (paramsR L).ok])) (fun _ => True) := by
  refine x_sc tt_ok Try.func90 rfl rfl rfl rfl (fun u hH => ?_)
  refine x_sl 1 rfl hH ?_
  refine x_vc tt_ok ?_
  repeat (refine And.intro ?_ ?_; first | omega | (simp only [Lay.d_n]; omega) | (simp only [decide_eq_true_eq, decide_eq_false_iff_not, Bool.or_eq_false_iff, Bool.and_eq_true, Bool.or_eq_true, Bool.and_eq_false_iff, Bool.not_eq_true', Bool.not_eq_false', Lay.d_n]; omega) | (simp only [decide_eq_true_eq, decide_eq_false_iff_not, Bool.or_eq_false_iff, Bool.and_eq_true, Bool.or_eq_true, Bool.and_eq_false_iff, Bool.not_eq_true', Bool.not_eq_false']; omega) | (simp only [decide_eq_true_eq, decide_eq_false_iff_not, Bool.or_eq_false_iff]; simp only [Lay.d_n]; omega))
  refine xl_gsplit 13 (.bool false) rfl rfl rfl rfl rfl (fun hb => ?_) (fun hb => ?_)
  · have hb : (1 : Int) < L.length := of_decide_eq_true hb
    have hR : paramsR L = if isT (L.getD 1 tok0) rpS = true then ⟨[], false, 2, true⟩ else pF [] 1 (L.drop 1) := by
      unfold paramsR
      rw [decide_eq_true (show 1 < L.length by omega), Bool.true_and]
    refine xl_build tt_ok strY rpS [_] rfl rfl rfl rfl rfl rfl rfl rfl rfl rfl rfl rfl rfl rfl rfl ?_
    refine xl_go tt_ok ?_
    refine xl_gcall0 (.bool (isT (L.getD 1 tok0) rpS)) rfl rfl rfl rfl fn89 rfl rfl (fun _ E w F hs => is_any (L.getD 1 tok0) rpS _ w (hs.rowAt (k := 3) rfl) (by decide)) ?_
    refine xl_go tt_ok ?_
    refine x_if (fun h2 => ?_) (fun h2 => ?_)
    · have h2 : (decide ((1 : Int) < L.length) && isT (L.getD 1 tok0) rpS) = true := h2
      rw [Bool.and_eq_true] at h2
      rw [if_pos h2.2] at hR
      rw [hR]
      exact ⟨(), [(2, some 1)], [_, _], rfl, rfl, .of rfl rfl rfl rfl rfl rfl, of_decide_eq_true rfl, trivial⟩
    · have h2 : (decide ((1 : Int) < L.length) && isT (L.getD 1 tok0) rpS) = false := h2
      rw [decide_eq_true hb, Bool.true_and] at h2
      rw [if_neg (by rw [h2]; simp)] at hR
      rw [hR]
      refine xl_makeMap (kt := 9) (et := 3) rfl rfl rfl rfl (fun b => ?_)
      refine xl_go tt_ok ?_
      obtain ⟨q, hq⟩ : ∃ q, q = pF [] 1 (L.drop 1) := ⟨_, rfl⟩
      rw [← hq]
      refine x_loop (σ := Int × Nat × List ByteArray) (fun (i, n, P) => ⟨[(7, .v (.int .i64 i)), (6, .v (.map (some b))), (1, .r 2), (0, .p 0 0)], [],
          [(0, mBox nm false (.r 5)), (2, .sl (tokY.d L)), (4, .gen (mapHp Try.prog 9 3 b n (fK P))), (5, .row 9 (strY.d P))], 6⟩)
        (fun (i, n, P) _ => 1 ≤ i ∧ i ≤ L.length ∧ P.length + 1 ≤ i ∧ n = P.length ∧ pF P i (L.drop i.toNat) = q) (fun (i, _) => (L.length - i).toNat) (fun (_, _, _) => by simp only; omega) (1, 0, []) [(5, some 1)] (.of rfl rfl rfl rfl rfl rfl)
        ⟨by omega, by omega, by simp, rfl, by rw [hq]; rfl⟩ ?_
      rintro ⟨i, n, P⟩ u2 hu2 ⟨g1, g2, g3, gn, g4⟩
      refine x_vc tt_ok ?_
      repeat (refine And.intro ?_ ?_; first | omega | (simp only [Lay.d_n]; omega) | (simp only [decide_eq_true_eq, decide_eq_false_iff_not, Bool.or_eq_false_iff, Bool.and_eq_true, Bool.or_eq_true, Bool.and_eq_false_iff, Bool.not_eq_true', Bool.not_eq_false', Lay.d_n]; omega) | (simp only [decide_eq_true_eq, decide_eq_false_iff_not, Bool.or_eq_false_iff, Bool.and_eq_true, Bool.or_eq_true, Bool.and_eq_false_iff, Bool.not_eq_true', Bool.not_eq_false']; omega) | (simp only [decide_eq_true_eq, decide_eq_false_iff_not, Bool.or_eq_false_iff]; simp only [Lay.d_n]; omega))
      refine x_if (fun h3 => ?_) (fun h3 => ?_)
      · have h3 : i + 1 < L.length := of_decide_eq_true h3
        refine x_via (σ := Unit) (fun _ => ⟨[(8, .p 6 0), (9, .p 7 0), (7, .v (.int .i64 i)), (6, .v (.map (some b))), (1, .r 2), (0, .p 0 0)], [],
            [(6, .box 31 (tokC (L.getD i.toNat tok0))), (7, .box 31 (tokC (L.getD (i + 1).toNat tok0))), (0, mBox nm false (.r 5)), (2, .sl (tokY.d L)), (4, .gen (mapHp Try.prog 9 3 b n (fK P))), (5, .row 9 (strY.d P))], 8⟩) (fun _ _ => True) (fun _ => by show 6 ≤ 8; omega) ?_ ?_
        · refine x_drawA mix ?_
          refine xa_pures tt_ok (fuel := 8) [0, 1, 4, 5, 6] rfl (by kernel_rfl) (by kernel_rfl) (fun _ _ _ hh => hh) (by kernel_rfl) (by kernel_rfl) ?_
          repeat (refine And.intro ?_ ?_; first | omega | (simp only [Lay.d_n]; omega) | (simp only [decide_eq_true_eq, decide_eq_false_iff_not, Bool.or_eq_false_iff, Bool.and_eq_true, Bool.or_eq_true, Bool.and_eq_false_iff, Bool.not_eq_true', Bool.not_eq_false', Lay.d_n]; omega) | (simp only [decide_eq_true_eq, decide_eq_false_iff_not, Bool.or_eq_false_iff, Bool.and_eq_true, Bool.or_eq_true, Bool.and_eq_false_iff, Bool.not_eq_true', Bool.not_eq_false']; omega) | (simp only [decide_eq_true_eq, decide_eq_false_iff_not, Bool.or_eq_false_iff]; simp only [Lay.d_n]; omega))
          refine xa_idx tt_ok (fuel := 7) 2 (by kernel_rfl) (by kernel_rfl) (fun _ _ _ hh => hh) rfl (by kernel_rfl) (by kernel_rfl) rfl rfl rfl rfl (by kernel_rfl) (fun _ => ?_) ?_
          · exact ⟨by omega, by show _ < (((tokY.d L).n : Nat) : Int); simp only [Lay.d_n]; omega, trivial⟩
          refine xa_idx tt_ok (fuel := 6) 7 (by kernel_rfl) (by kernel_rfl) (fun _ _ _ hh => hh) rfl (by kernel_rfl) (by kernel_rfl) rfl rfl rfl rfl (by kernel_rfl) (fun _ => ?_) ?_
          · exact ⟨by omega, by show _ < (((tokY.d L).n : Nat) : Int); simp only [Lay.d_n]; omega, trivial⟩
          refine xa_fam (fuel := 0) (N := 6) tbl90 (fun D => ⟨selD D [(3, (31, .v (L.getD i.toNat tok0).val)), (8, (36, .v (L.getD (i + 1).toNat tok0).val)), (9, (8, .p 6 0)), (10, (9, .p 7 0))] ++
              [(30, .e 2 5 i 0), (35, .e 2 5 (i + 1) 0), (7, .v (.int .i64 i)), (6, .v (.map (some b))), (1, .r 2), (0, .p 0 0)], [],
              selO D [(6, [(11, .box 31 (tokC (L.getD i.toNat tok0))), (9, .box 31 (tokC tok0))]), (7, [(12, .box 31 (tokC (L.getD (i + 1).toNat tok0))), (10, .box 31 (tokC tok0))])] ++
              [(0, mBox nm false (.r 5)), (2, .sl (tokY.d L)), (4, .gen (mapHp Try.prog 9 3 b n (fK P))), (5, .row 9 (strY.d P))], 8⟩) (fun D i => insD i D) rfl (by kernel_rfl) (by kernel_rfl) (by kernel_rfl) [] (.of rfl rfl rfl rfl rfl rfl) (fun _ => by show 6 ≤ 8; omega) ?_ [3, 8, 9, 10, 11, 12] (by kernel_rfl) (fun u3 hu3 => ?_)
          · repeat' (refine And.intro ?_ ?_)
            all_goals first | exact trivial | (intro u' hu'; refine xl_go tt_ok ?_; first | exact meet () [] (.of rfl rfl rfl rfl rfl rfl) trivial | exact meet () [(6, some 8)] (.of rfl rfl rfl rfl rfl rfl) trivial | exact meet () [(7, some 8)] (.of rfl rfl rfl rfl rfl rfl) trivial)
          · refine xa_done (by kernel_rfl) rfl ?_
            exact meet () [] (.of rfl rfl rfl rfl rfl rfl) trivial
        · rintro _ u4 hu4 _
          obtain ⟨t, ht⟩ : ∃ t, t = L.getD i.toNat tok0 := ⟨_, rfl⟩
          obtain ⟨x, hxx⟩ : ∃ x, x = L.getD (i + 1).toNat tok0 := ⟨_, rfl⟩
          have zt : t.text.size ≤ maxLen := by
            rw [ht, List.getD_eq_getElem?_getD, List.getElem?_eq_getElem (by omega)]
            exact zL _ (List.getElem_mem _)
          have hd : L.drop i.toNat = t :: x :: L.drop (i + 2).toNat := by
            have d1 := drop_at (L := L) (d := tok0) (i := i) (by omega) (by omega)
            have d2 := drop_at (L := L) (d := tok0) (i := i + 1) (by omega) (by omega)
            rw [d1, d2, ← ht, ← hxx, show (i + 1 + 1) = i + 2 by omega]
          rw [← ht, ← hxx]
          rw [hd] at g4
          have g5 : (if isT t dotsS = true then ⟨P, true, i + 2, isT x rpS⟩
            else if ((decide (t.kind ≠ 1) || decide (t.text = sRest)) || memB t.text P) = true then ⟨P, false, 0, false⟩
            else if isT x rpS = true then ⟨P ++ [t.text], false, i + 2, true⟩
            else if isT x commaS = true then pF (P ++ [t.text]) (i + 2) (L.drop (i + 2).toNat)
            else ⟨P ++ [t.text], false, 0, false⟩ : PR) = q := g4
          clear g4
          refine xl_build tt_ok strY dotsS [_] rfl rfl rfl rfl rfl rfl rfl rfl rfl rfl rfl rfl rfl rfl rfl ?_
          refine xl_go tt_ok ?_
          refine xl_call0 (.bool (isT t dotsS)) rfl rfl rfl rfl fn89 rfl rfl (fun E w F hs => is_any t dotsS _ w (hs.rowAt (k := 8) rfl) (by decide)) ?_
          refine xl_go tt_ok ?_
          refine x_if (fun h4 => ?_) (fun h4 => ?_)
          · have h4 : isT t dotsS = true := h4
            rw [if_pos h4] at g5
            repeat (refine And.intro ?_ ?_; first | omega | (simp only [Lay.d_n]; omega) | (simp only [decide_eq_true_eq, decide_eq_false_iff_not, Bool.or_eq_false_iff, Bool.and_eq_true, Bool.or_eq_true, Bool.and_eq_false_iff, Bool.not_eq_true', Bool.not_eq_false', Lay.d_n]; omega) | (simp only [decide_eq_true_eq, decide_eq_false_iff_not, Bool.or_eq_false_iff, Bool.and_eq_true, Bool.or_eq_true, Bool.and_eq_false_iff, Bool.not_eq_true', Bool.not_eq_false']; omega) | (simp only [decide_eq_true_eq, decide_eq_false_iff_not, Bool.or_eq_false_iff]; simp only [Lay.d_n]; omega))
            refine xl_build tt_ok strY rpS [_] rfl rfl rfl rfl rfl rfl rfl rfl rfl rfl rfl rfl rfl rfl rfl ?_
            refine xl_go tt_ok ?_
            refine xl_call0 (.bool (isT x rpS)) rfl rfl rfl rfl fn89 rfl rfl (fun E w F hs => is_any x rpS _ w (hs.rowAt (k := 9) rfl) (by decide)) ?_
            refine xl_go tt_ok ?_
            rw [← g5]
            exact ⟨(), [(2, some 5)], [_, _], rfl, rfl, .of rfl rfl rfl rfl rfl rfl, of_decide_eq_true rfl, trivial⟩
          · have h4 : isT t dotsS = false := h4
            rw [if_neg (by rw [h4]; simp)] at g5
            refine xl_lookup (k := 4) (s := t.text) rfl rfl rfl Try.underlying174 Try.underlying9 Try.underlying3 rfl rfl rfl zt rfl (fun w => run_zeroValue w tiok3) ?_
            refine xl_go tt_ok ?_
            refine x_if (fun h5 => ?_) (fun h5 => ?_)
            · have h5 : ((decide (t.kind ≠ 1) || decide (t.text = sRest)) || decide ((0 : Int) < fK P t.text)) = true := h5
              rw [fK_pos] at h5
              rw [if_pos h5] at g5
              rw [← g5]
              exact ⟨(), [(2, some 5)], [_, _], rfl, rfl, .of rfl rfl rfl rfl rfl rfl, of_decide_eq_true rfl, trivial⟩
            · have h5 : ((decide (t.kind ≠ 1) || decide (t.text = sRest)) || decide ((0 : Int) < fK P t.text)) = false := h5
              rw [fK_pos] at h5
              rw [if_neg (by rw [h5]; simp)] at g5
              refine xl_mapSetE (k := 4) (.inl rfl) rfl rfl Try.underlying174 Try.underlying9 Try.underlying3 rfl rfl rfl zt (by decide) rfl (by unfold maxLen; omega) (fK (P ++ [t.text])) fK_next ?_
              refine xl_go tt_ok ?_
              refine x_via (σ := Unit) (fun _ => ⟨[(9, .p 7 0), (7, .v (.int .i64 i)), (6, .v (.map (some b))), (1, .r 2), (0, .p 0 0)], [],
                  [(7, .box 31 (tokC x)), (0, mBox nm false (.r 10)), (2, .sl (tokY.d L)), (4, .gen (mapHp Try.prog 9 3 b (n + 1) (fK (P ++ [t.text])))), (10, .row 9 (strY.d (P ++ [t.text])))], 11⟩) (fun _ _ => True) (fun _ => by show 9 ≤ 11; omega) ?_ ?_
              · refine x_drawA mix ?_
                refine xa_pures tt_ok (fuel := 9) [0, 1, 5] rfl (by kernel_rfl) (by kernel_rfl) (fun _ _ _ hh => hh) (by kernel_rfl) (by kernel_rfl) ?_
                refine xa_fam (fuel := 4) (N := 5) tbl90b (fun D => ⟨selD D [(2, (70, .p 0 0)), (3, (71, .p 0 2)), (4, (72, .r 5)), (6, (74, .v (.string t.text))), (7, (75, .r 9))] ++
                    [(68, .p 0 0), (69, .p 0 0), (73, .p 6 1), (9, .p 7 0), (7, .v (.int .i64 i)), (6, .v (.map (some b))), (1, .r 2), (0, .p 0 0)], [],
                    selO D [(9, [(7, .row 9 (strY.d [t.text]))])] ++
                    [(6, .box 31 (tokC t)), (7, .box 31 (tokC x)), (0, mBox nm false (.r 5)), (2, .sl (tokY.d L)), (4, .gen (mapHp Try.prog 9 3 b (n + 1) (fK (P ++ [t.text])))), (5, .row 9 (strY.d P))], 10⟩) (fun D i => insD i D) rfl (by kernel_rfl) (by kernel_rfl) (by kernel_rfl) [] (.of rfl rfl rfl rfl rfl rfl) (fun _ => by show 9 ≤ 10; omega) ?_ [2, 3, 4, 6, 7] (by kernel_rfl) (fun u5 hu5 => ?_)
                · repeat' (refine And.intro ?_ ?_)
                  all_goals first | exact trivial | (intro u' hu'; refine xl_go tt_ok ?_; first | exact meet () [] (.of rfl rfl rfl rfl rfl rfl) trivial | (refine xl_build tt_ok strY [t.text] [_] rfl rfl rfl rfl rfl rfl rfl rfl rfl rfl rfl rfl rfl rfl rfl ?_; refine xl_end ?_; exact meet () [(9, some 10)] (.of rfl rfl rfl rfl rfl rfl) trivial))
                · refine xa_one 8 (by kernel_rfl) rfl ?_
                  refine xl_append tt_ok strY P [t.text] 16 rfl rfl rfl rfl rfl rfl rfl rfl (by kernel_rfl) rfl rfl rfl (fun E w F hs => hs.rowAt (k := 9) rfl) (by intro x y hy; rw [List.mem_singleton.1 hy]; rfl) rfl (by simp only [List.length_singleton]; omega) (by simp only [List.length_singleton]; omega) ?_
                  refine xl_end ?_
                  refine xa_chain (fuel := 0) [9, 10, 11] rfl rfl (by kernel_rfl) (xl_go tt_ok ?_)
                  refine xa_done (by kernel_rfl) rfl ?_
                  exact meet () [] (.of rfl rfl rfl rfl rfl rfl) trivial
              · rintro _ u5 hu5 _
                refine xl_build tt_ok strY rpS [_] rfl rfl rfl rfl rfl rfl rfl rfl rfl rfl rfl rfl rfl rfl rfl ?_
                refine xl_go tt_ok ?_
                refine xl_call0 (.bool (isT x rpS)) rfl rfl rfl rfl fn89 rfl rfl (fun E w F hs => is_any x rpS _ w (hs.rowAt (k := 11) rfl) (by decide)) ?_
                refine xl_go tt_ok ?_
                refine x_if (fun h6 => ?_) (fun h6 => ?_)
                · have h6 : isT x rpS = true := h6
                  rw [if_pos h6] at g5
                  repeat (refine And.intro ?_ ?_; first | omega | (simp only [Lay.d_n]; omega) | (simp only [decide_eq_true_eq, decide_eq_false_iff_not, Bool.or_eq_false_iff, Bool.and_eq_true, Bool.or_eq_true, Bool.and_eq_false_iff, Bool.not_eq_true', Bool.not_eq_false', Lay.d_n]; omega) | (simp only [decide_eq_true_eq, decide_eq_false_iff_not, Bool.or_eq_false_iff, Bool.and_eq_true, Bool.or_eq_true, Bool.and_eq_false_iff, Bool.not_eq_true', Bool.not_eq_false']; omega) | (simp only [decide_eq_true_eq, decide_eq_false_iff_not, Bool.or_eq_false_iff]; simp only [Lay.d_n]; omega))
                  rw [← g5]
                  exact ⟨(), [(2, some 10)], [_, _], rfl, rfl, .of rfl rfl rfl rfl rfl rfl, of_decide_eq_true rfl, trivial⟩
                · have h6 : isT x rpS = false := h6
                  rw [if_neg (by rw [h6]; simp)] at g5
                  refine xl_build tt_ok strY commaS [_] rfl rfl rfl rfl rfl rfl rfl rfl rfl rfl rfl rfl rfl rfl rfl ?_
                  refine xl_go tt_ok ?_
                  refine xl_call0 (.bool (isT x commaS)) rfl rfl rfl rfl fn89 rfl rfl (fun E w F hs => is_any x commaS _ w (hs.rowAt (k := 12) rfl) (by decide)) ?_
                  refine xl_go tt_ok ?_
                  refine x_if (fun h7 => ?_) (fun h7 => ?_)
                  · have h7 : isT x commaS = true := h7
                    rw [if_pos h7] at g5
                    repeat (refine And.intro ?_ ?_; first | omega | (simp only [Lay.d_n]; omega) | (simp only [decide_eq_true_eq, decide_eq_false_iff_not, Bool.or_eq_false_iff, Bool.and_eq_true, Bool.or_eq_true, Bool.and_eq_false_iff, Bool.not_eq_true', Bool.not_eq_false', Lay.d_n]; omega) | (simp only [decide_eq_true_eq, decide_eq_false_iff_not, Bool.or_eq_false_iff, Bool.and_eq_true, Bool.or_eq_true, Bool.and_eq_false_iff, Bool.not_eq_true', Bool.not_eq_false']; omega) | (simp only [decide_eq_true_eq, decide_eq_false_iff_not, Bool.or_eq_false_iff]; simp only [Lay.d_n]; omega))
                    exact again (i + 2, n + 1, P ++ [t.text]) [(5, some 10)] (.of rfl rfl rfl rfl rfl rfl) ⟨by omega, by omega, by simp; omega, by simp [gn], g5⟩ (by simp only; omega)
                  · have h7 : isT x commaS = false := h7
                    rw [if_neg (by rw [h7]; simp)] at g5
                    rw [← g5]
                    exact ⟨(), [(2, some 10)], [_, _], rfl, rfl, .of rfl rfl rfl rfl rfl rfl, of_decide_eq_true rfl, trivial⟩
      · have h3 : ¬ i + 1 < L.length := of_decide_eq_false h3
        have hn : pF P i (L.drop i.toNat) = ⟨P, false, 0, false⟩ := by
          cases hd : L.drop i.toNat with
          | nil => rfl
          | cons t r =>
            cases r with
            | nil => rfl
            | cons x r =>
              have := congrArg List.length hd
              simp only [List.length_drop, List.length_cons] at this
              omega
        rw [hn] at g4
        rw [← g4]
        exact ⟨(), [(2, some 5)], [_, _], rfl, rfl, .of rfl rfl rfl rfl rfl rfl, of_decide_eq_true rfl, trivial⟩
  · have hb : ¬ (1 : Int) < L.length := fun h => hb (decide_eq_true h)
    have hR : paramsR L = ⟨[], false, 0, false⟩ := by
      unfold paramsR
      rw [decide_eq_false (show ¬ 1 < L.length by omega), Bool.false_and, List.drop_eq_nil_of_le (by omega)]
      rfl
    rw [hR]
    refine xl_go tt_ok ?_
    refine xl_gcall0 (.bool false) rfl rfl rfl rfl fn89 rfl rfl (fun hg => absurd (of_decide_eq_true hg.1) hb) ?_
    refine xl_go tt_ok ?_
    refine x_iff ?_ ?_
    · show (decide ((1 : Int) < L.length) && false) = false
      rw [Bool.and_false]
    · refine xl_makeMap (kt := 9) (et := 3) rfl rfl rfl rfl (fun b => ?_)
      refine xl_go tt_ok ?_
      refine x_loop (σ := Unit) (fun _ => ⟨[(7, .v (.int .i64 1)), (1, .r 2)], [], [(0, mBox nm false (.r 1)), (1, .row 9 (strY.d [])), (2, .sl (tokY.d L))], 4⟩)
        (fun _ _ => True) (fun _ => 0) (fun _ => Nat.le_refl _) () [] (.of rfl rfl rfl rfl rfl rfl) trivial ?_
      rintro _ u2 hu2 _
      refine x_vc tt_ok ?_
      repeat (refine And.intro ?_ ?_; first | omega | (simp only [Lay.d_n]; omega) | (simp only [decide_eq_true_eq, decide_eq_false_iff_not, Bool.or_eq_false_iff, Bool.and_eq_true, Bool.or_eq_true, Bool.and_eq_false_iff, Bool.not_eq_true', Bool.not_eq_false', Lay.d_n]; omega) | (simp only [decide_eq_true_eq, decide_eq_false_iff_not, Bool.or_eq_false_iff, Bool.and_eq_true, Bool.or_eq_true, Bool.and_eq_false_iff, Bool.not_eq_true', Bool.not_eq_false']; omega) | (simp only [decide_eq_true_eq, decide_eq_false_iff_not, Bool.or_eq_false_iff]; simp only [Lay.d_n]; omega))
      refine x_iff (decide_eq_false (show ¬ (1 : Int) + 1 < L.length by omega)) ?_
      exact ⟨(), [(2, some 1)], [_, _], rfl, rfl, .of rfl rfl rfl rfl rfl rfl, of_decide_eq_true rfl, trivial⟩
end Go.Proofs.Ytdonomneofdhfaa
namespace Go.Proofs.Ytdonomneofdhfaa
open Go.GV Go.RowKit
structure MT where
  name : ByteArray
  fn : Bool
  ps : List ByteArray
  va : Bool
  body : List PV
def m0 : MT := ⟨⟨#[]⟩, false, [], false, []⟩
abbrev MA := Option Addr × Nat × Option Addr × Nat
def mVal (m : MT) (s : MA) : Value := .agg #[.string m.name, .bool m.fn, .slice s.1 m.ps.length s.2.1, .bool m.va, .slice s.2.2.1 m.body.length s.2.2.2]
def mStar (m : MT) (s : MA) : List SI := [⟨.slice s.1 m.ps.length s.2.1, 9, strY.d m.ps⟩, ⟨.slice s.2.2.1 m.body.length s.2.2.2, 46, pvY.d m.body⟩]
def fixS : List PV → List PV
  | [] => []
  | t :: r => { t with space := false } :: r
def lpS : List ByteArray := [⟨#[40]⟩]
def resB (s : ByteArray) : Bool := decide (s = ⟨#[100, 101, 102, 105, 110, 101, 100]⟩) || decide (s = ⟨#[95, 95, 86, 65, 95, 65, 82, 71, 83, 95, 95]⟩) || decide (s = ⟨#[95, 95, 76, 73, 78, 69, 95, 95]⟩) || decide (s = ⟨#[95, 80, 114, 97, 103, 109, 97]⟩)
def defB (nm : ByteArray) (fn : Bool) (ps : List ByteArray) (va : Bool) (l : List Tok) : MT × Int :=
  if validB fn va ps l = true then (⟨nm, fn, ps, va, fixS (l.map ofT)⟩, 0) else (m0, 50)
def defR (L : List Tok) : MT × Int :=
  if ((decide ((L.length : Int) = 0) || decide ((L.getD 0 tok0).kind ≠ 1)) || resB (L.getD 0 tok0).text) = true then (m0, 50)
  else if (decide ((0 : Int) < (L.drop 1).length) && !((L.drop 1).getD 0 tok0).space) = true then
    if isT ((L.drop 1).getD 0 tok0) lpS = true then
      if (paramsR (L.drop 1)).ok = true then defB (L.getD 0 tok0).text true (paramsR (L.drop 1)).ps (paramsR (L.drop 1)).va ((L.drop 1).drop (paramsR (L.drop 1)).n.toNat) else (m0, 50)
    else (m0, 50)
  else defB (L.getD 0 tok0).text false [] false (L.drop 1)
theorem mStar_nil : ∀ u, NestAt u (mStar m0 (none, 0, none, 0)) := fun u => by
  constructor
  · intro p hp
    simp only [mStar, List.mem_cons, List.not_mem_nil, or_false] at hp
    rcases hp with rfl | rfl <;> exact .inl ⟨rfl, rfl⟩
  · simp only [mStar, starDis, List.pairwise_cons, List.mem_singleton, List.not_mem_nil, false_imp_iff, implies_true, List.Pairwise.nil, and_self, and_true]
    rintro q rfl b hb
    cases hb
def DefR (r : MT × Int) : Value → Im → Prop := StarR (fun s : MA => .tuple #[mVal r.1 s, .int .i64 r.2]) (fun s => mStar r.1 s) (fun _ => True)
theorem defNo (u : Im) : DefR (m0, 50) (.tuple #[mVal m0 (none, 0, none, 0), .int .i64 50]) u := ⟨(none, 0, none, 0), rfl, mStar_nil u, trivial⟩
theorem pF_le : ∀ (n : Nat) (l : List Tok) (P : List ByteArray) (i : Int), l.length ≤ n → 0 ≤ i → (pF P i l).ps.length ≤ P.length + l.length ∧ 0 ≤ (pF P i l).n ∧ (pF P i l).n ≤ i + l.length ∧ ∀ s ∈ (pF P i l).ps, s ∈ P ∨ ∃ t ∈ l, s = t.text
  | _, [], P, i, _, h0 => ⟨by simp [pF], by simp [pF], by simp [pF]; omega, fun s hs => .inl hs⟩
  | _, [t], P, i, _, h0 => ⟨by simp [pF], by simp [pF], by simp [pF]; omega, fun s hs => .inl hs⟩
  | 0, t :: x :: r, P, i, h, h0 => by simp at h
  | n + 1, t :: x :: r, P, i, h, h0 => by
    simp only [List.length_cons] at h
    have ih := pF_le n r (P ++ [t.text]) (i + 2) (by omega) (by omega)
    have one : ∀ s ∈ P ++ [t.text], s ∈ P ∨ ∃ t' ∈ t :: x :: r, s = t'.text := fun s hs => by
      rcases List.mem_append.1 hs with hs | hs
      · exact .inl hs
      · exact .inr ⟨t, List.mem_cons_self .., List.mem_singleton.1 hs⟩
    unfold pF
    split
    · exact ⟨by simp only; omega, by simp only; omega, by simp only [List.length_cons]; omega, fun s hs => .inl hs⟩
    · split
      · exact ⟨by simp only; omega, by simp only; omega, by simp only [List.length_cons]; omega, fun s hs => .inl hs⟩
      · split
        · exact ⟨by simp only [List.length_append, List.length_cons, List.length_nil]; omega, by simp only; omega, by simp only [List.length_cons]; omega, one⟩
        · split
          · refine ⟨?_, ih.2.1, ?_, fun s hs => ?_⟩
            · have := ih.1
              simp only [List.length_append, List.length_cons, List.length_nil] at this ⊢
              omega
            · have := ih.2.2.1
              simp only [List.length_cons]
              omega
            · rcases ih.2.2.2 s hs with hs | ⟨t', ht', e⟩
              · exact one s hs
              · exact .inr ⟨t', List.mem_cons_of_mem _ (List.mem_cons_of_mem _ ht'), e⟩
          · exact ⟨by simp only [List.length_append, List.length_cons, List.length_nil]; omega, by simp only; omega, by simp only [List.length_cons]; omega, one⟩
theorem paramsR_le (L : List Tok) (hL : 1 ≤ L.length) : (paramsR L).ps.length ≤ L.length ∧ 0 ≤ (paramsR L).n ∧ (paramsR L).n ≤ L.length ∧ ∀ s ∈ (paramsR L).ps, ∃ t ∈ L, s = t.text := by
  unfold paramsR
  split
  · rename_i h
    rw [Bool.and_eq_true, decide_eq_true_eq] at h
    exact ⟨by simp, by simp, by simp only; omega, fun s hs => by cases hs⟩
  · have := pF_le _ (L.drop 1) [] 1 (Nat.le_refl _) (by omega)
    simp only [List.length_drop, List.length_nil] at this
    refine ⟨by omega, this.2.1, by omega, fun s hs => ?_⟩
    rcases this.2.2.2 s hs with h | ⟨t, ht, e⟩
    · cases h
    · exact ⟨t, List.mem_of_mem_drop ht, e⟩
def tbl29 : Tbl := [([], [1, 6, 7]), ([1], [2, 6, 7]), ([6], [1, 7]), ([7], [1, 6]), ([1, 2], [3, 6, 7]), ([1, 6], [2, 7]), ([1, 7], [2, 6]), ([6, 7], [1]), ([1, 2, 3], [4, 6, 7]), ([1, 2, 6], [3, 7]), ([1, 2, 7], [3, 6]), ([1, 6, 7], [2]), ([1, 2, 3, 4], [6, 7]), ([1, 2, 3, 6], [4, 7]), ([1, 2, 3, 7], [4, 6]), ([1, 2, 6, 7], [3]), ([1, 2, 3, 4, 6], [7]), ([1, 2, 3, 4, 7], [6, 8]), ([1, 2, 3, 6, 7], [4]), ([1, 2, 3, 4, 6, 7], [8]), ([1, 2, 3, 4, 7, 8], [6]), ([1, 2, 3, 4, 6, 7, 8], [9]), ([1, 2, 3, 4, 6, 7, 8, 9], [])]
set_option maxHeartbeats 4000000 in
set_option maxRecDepth 100000 in
theorem define_any (L : List Tok) (A : Option Addr) (c : Nat) (w : World) (hx : SlAt (im w) (.slice A L.length c) (tokY.d L)) (hL : L.length * 48 ≤ 140737488355328) (zL : ∀ t ∈ L, t.text.size ≤ maxLen) :
    Calls Try.prog 29 #[.slice A L.length c] w (PureP w (DefR (defR L))) := by
  refine x_fun tt_ok Try.func29 rfl rfl [] 0 [.v (.slice A L.length c)] rfl rfl rfl rfl (fun b hb => by cases hb) ?_
  refine x_seq (x_vc tt_ok ?_)
  refine x_seq (x_vc tt_ok ?_)
  refine xl_slG 11 rfl hx ?_
  refine xl_go tt_ok ?_
  repeat (refine And.intro ?_ ?_; first | omega | (simp only [Lay.d_n]; omega) | (simp only [decide_eq_true_eq, decide_eq_false_iff_not, Bool.or_eq_false_iff, Bool.and_eq_true, Bool.or_eq_true, Bool.and_eq_false_iff, Bool.not_eq_true', Bool.not_eq_false', Lay.d_n]; omega) | (simp only [decide_eq_true_eq, decide_eq_false_iff_not, Bool.or_eq_false_iff, Bool.and_eq_true, Bool.or_eq_true, Bool.and_eq_false_iff, Bool.not_eq_true', Bool.not_eq_false']; omega) | (simp only [decide_eq_true_eq, decide_eq_false_iff_not, Bool.or_eq_false_iff]; simp only [Lay.d_n]; omega))
  refine xl_slG 18 rfl hx ?_
  refine xl_go tt_ok ?_
  repeat (refine And.intro ?_ ?_; first | omega | (simp only [Lay.d_n]; omega) | (simp only [decide_eq_true_eq, decide_eq_false_iff_not, Bool.or_eq_false_iff, Bool.and_eq_true, Bool.or_eq_true, Bool.and_eq_false_iff, Bool.not_eq_true', Bool.not_eq_false', Lay.d_n]; omega) | (simp only [decide_eq_true_eq, decide_eq_false_iff_not, Bool.or_eq_false_iff, Bool.and_eq_true, Bool.or_eq_true, Bool.and_eq_false_iff, Bool.not_eq_true', Bool.not_eq_false']; omega) | (simp only [decide_eq_true_eq, decide_eq_false_iff_not, Bool.or_eq_false_iff]; simp only [Lay.d_n]; omega))
  refine xl_gcall0 (.bool (resB (L.getD 0 tok0).text)) rfl rfl rfl rfl fn88 rfl rfl (fun _ E w F hs => reserved_any _ w) ?_
  refine xl_go tt_ok ?_
  refine x_if (fun h => ?_) (fun h => ?_)
  · have h : ((decide ((L.length : Int) = 0) || decide ((L.getD 0 tok0).kind ≠ 1)) || resB (L.getD 0 tok0).text) = true := h
    have e : defR L = (m0, 50) := by unfold defR; rw [if_pos h]
    rw [e]
    exact finP (fun E w' F hs hu => defNo _)
  · have h : ((decide ((L.length : Int) = 0) || decide ((L.getD 0 tok0).kind ≠ 1)) || resB (L.getD 0 tok0).text) = false := h
    have e : defR L = if (decide ((0 : Int) < (L.drop 1).length) && !((L.drop 1).getD 0 tok0).space) = true then
        if isT ((L.drop 1).getD 0 tok0) lpS = true then
          if (paramsR (L.drop 1)).ok = true then defB (L.getD 0 tok0).text true (paramsR (L.drop 1)).ps (paramsR (L.drop 1)).va ((L.drop 1).drop (paramsR (L.drop 1)).n.toNat) else (m0, 50)
        else (m0, 50)
      else defB (L.getD 0 tok0).text false [] false (L.drop 1) := by
      unfold defR; rw [if_neg (by rw [h]; simp)]
    rw [e]
    have hpos : (0 : Int) < L.length := by
      simp only [Bool.or_eq_false_iff, decide_eq_false_iff_not] at h
      omega
    obtain ⟨A1, c1, hA1⟩ : ∃ A1 c1, partV 5 A c 1 L.length = .slice A1 (L.drop 1).length c1 := ⟨_, _, by unfold partV; rw [List.length_drop]⟩
    have hx1 : SlAt (im w) (.slice A1 (L.drop 1).length c1) (tokY.d (L.drop 1)) := by
      have := partV_slAt hx (l := 1) (h := L.length) (by omega) (Nat.le_refl _)
      rw [List.take_length] at this
      rw [← hA1]; exact this
    have zL1 : ∀ t ∈ L.drop 1, t.text.size ≤ maxLen := fun t ht => zL t (List.mem_of_mem_drop ht)
    obtain ⟨R, hR⟩ : ∃ R, R = L.drop 1 := ⟨_, rfl⟩
    have hRl : R.length + 1 = L.length := by rw [hR, List.length_drop]; omega
    rw [← hR] at hA1 hx1 zL1 ⊢
    have hA2 : partV ti31.sz A c (1 : Int).toNat L.length = .slice A1 R.length c1 := hA1
    refine x_seq ?_
    refine x_via (σ := Unit) (fun _ => ⟨[(4, .p 3 0), (2, .p 0 0), (0, .v (.slice A1 R.length c1))], [],
      [(0, .box 36 [.v (.string ⟨#[]⟩), .v (.bool false), .v (.slice none 0 0), .v (.bool false), .v (.slice none 0 0)]), (3, mBox (L.getD 0 tok0).text false (.v (.slice none 0 0)))], 4⟩) (fun _ _ => True) (fun _ => by show 3 ≤ 4; omega) ?_ ?_
    · refine x_drawA mix ?_
      refine xa_pures tt_ok (fuel := 8) [0, 5] rfl (by kernel_rfl) (by kernel_rfl) (fun _ _ _ hh => hh) (by kernel_rfl) (by kernel_rfl) ?_
      refine xa_fam (fuel := 0) (N := 8) tbl29 (fun D => ⟨selD D [(9, (0, .v (.slice A1 R.length c1))), (1, (26, .e 4 5 0 0)), (2, (27, .e 4 5 0 1)), (3, (28, .v (.string (L.getD 0 tok0).text))), (4, (29, .v (mVal ⟨(L.getD 0 tok0).text, false, [], false, []⟩ (none, 0, none, 0)))), (6, (31, .v (.slice A1 R.length c1))), (7, (4, .p 3 0))] ++
          selN D [(1, (25, .v (.slice A L.length c)))] ++ [(30, .v (.slice A L.length c)), (2, .p 0 0)], [],
          selO D [(3, [(8, mBox (L.getD 0 tok0).text false (.v (.slice none 0 0))), (7, .box 36 [.v (.string ⟨#[]⟩), .v (.bool false), .v (.slice none 0 0), .v (.bool false), .v (.slice none 0 0)])]), (4, [(1, .sl (tokY.d L))])] ++
          [(0, .box 36 [.v (.string ⟨#[]⟩), .v (.bool false), .v (.slice none 0 0), .v (.bool false), .v (.slice none 0 0)])], 5⟩) (fun D i => insD i D) rfl (by kernel_rfl) (by kernel_rfl) (by kernel_rfl) [] (.of rfl rfl rfl rfl rfl rfl) (fun _ => by show 3 ≤ 5; omega) ?_ [1, 2, 3, 4, 6, 7, 8, 9] (by kernel_rfl) (fun u3 hu3 => ?_)
      · repeat' (refine And.intro ?_ ?_)
        all_goals first | exact trivial | (intro u' hu'; first | (refine xl_go tt_ok ?_; first | exact meet () [] (.of rfl rfl rfl rfl rfl rfl) trivial | exact meet () [(3, some 5)] (.of rfl rfl rfl rfl rfl rfl) trivial) | (refine xl_fromE tt_ok rfl rfl rfl rfl rfl rfl rfl rfl rfl (by omega) (by omega) ?_; refine xl_end ?_; rw [hA2]; exact meet () [] (.of rfl rfl rfl rfl rfl rfl) trivial) | (refine xl_sl 25 rfl (hx.le hu') ?_; refine xl_go tt_ok ?_; (repeat (refine And.intro (by first | omega | (simp only [Lay.d_n]; omega)) ?_)); exact meet () [(4, some 5)] (.of rfl rfl rfl rfl rfl rfl) trivial))
      · refine xa_done (by kernel_rfl) rfl ?_
        exact meet () [] (.of rfl rfl rfl rfl rfl rfl) trivial
    · rintro _ u4 hu4 _
      clear hx hA1 hA2 h e
      generalize (L.getD 0 tok0).text = nm
      clear hR hpos
      obtain ⟨res, hres⟩ : ∃ res, res = (if (decide ((0 : Int) < R.length) && !(R.getD 0 tok0).space) = true then
            if isT (R.getD 0 tok0) lpS = true then
              if (paramsR R).ok = true then defB nm true (paramsR R).ps (paramsR R).va (R.drop (paramsR R).n.toNat) else (m0, 50)
            else (m0, 50)
          else defB nm false [] false R) := ⟨_, rfl⟩
      rw [← hres]
      refine x_nilCell 3 9 strY [.v (.string nm), .v (.bool false)] [.v (.bool false), .v (.slice none 0 0)] rfl ?_
      refine x_cut (σ := Bool × Bool × List ByteArray × List Tok × Option Addr × Nat) (fun (fn, va, ps, l, A2, c2) => ⟨[(4, .p 3 0), (2, .p 0 0), (0, .v (.slice A2 l.length c2))], [],
          [(0, .box 36 [.v (.string ⟨#[]⟩), .v (.bool false), .v (.slice none 0 0), .v (.bool false), .v (.slice none 0 0)]), (3, .box 36 [.v (.string nm), .v (.bool fn), .r 5, .v (.bool va), .v (.slice none 0 0)]), (5, .row 9 (strY.d ps))], 6⟩)
        (fun (fn, va, ps, l, A2, c2) u => SlAt u (.slice A2 l.length c2) (tokY.d l) ∧ l.length ≤ R.length ∧ ps.length ≤ R.length ∧ (∀ t ∈ l, t.text.size ≤ maxLen) ∧ (∀ s ∈ ps, s.size ≤ maxLen) ∧
          res = defB nm fn ps va l) (fun (_, _, _, _, _, _) => by show 5 ≤ 6; omega) ?_ ?_
      · refine x_vc tt_ok ?_
        refine xl_slG 36 rfl (hx1.le hu4) ?_
        refine xl_go tt_ok ?_
        repeat (refine And.intro ?_ ?_; first | omega | (simp only [Lay.d_n]; omega) | (simp only [decide_eq_true_eq, decide_eq_false_iff_not, Bool.or_eq_false_iff, Bool.and_eq_true, Bool.or_eq_true, Bool.and_eq_false_iff, Bool.not_eq_true', Bool.not_eq_false', Lay.d_n]; omega) | (simp only [decide_eq_true_eq, decide_eq_false_iff_not, Bool.or_eq_false_iff, Bool.and_eq_true, Bool.or_eq_true, Bool.and_eq_false_iff, Bool.not_eq_true', Bool.not_eq_false']; omega) | (simp only [decide_eq_true_eq, decide_eq_false_iff_not, Bool.or_eq_false_iff]; simp only [Lay.d_n]; omega))
        refine x_if (fun h => ?_) (fun h => ?_)
        · have h : (decide ((0 : Int) < R.length) && !(R.getD 0 tok0).space) = true := h
          rw [if_pos h] at hres
          have hRp : 1 ≤ R.length := by
            rw [Bool.and_eq_true, decide_eq_true_eq] at h
            omega
          refine xl_sl 42 rfl (hx1.le hu4) ?_
          refine xl_go tt_ok ?_
          repeat (refine And.intro ?_ ?_; first | omega | (simp only [Lay.d_n]; omega) | (simp only [decide_eq_true_eq, decide_eq_false_iff_not, Bool.or_eq_false_iff, Bool.and_eq_true, Bool.or_eq_true, Bool.and_eq_false_iff, Bool.not_eq_true', Bool.not_eq_false', Lay.d_n]; omega) | (simp only [decide_eq_true_eq, decide_eq_false_iff_not, Bool.or_eq_false_iff, Bool.and_eq_true, Bool.or_eq_true, Bool.and_eq_false_iff, Bool.not_eq_true', Bool.not_eq_false']; omega) | (simp only [decide_eq_true_eq, decide_eq_false_iff_not, Bool.or_eq_false_iff]; simp only [Lay.d_n]; omega))
          refine xl_build tt_ok strY lpS [_] rfl rfl rfl rfl rfl rfl rfl rfl rfl rfl rfl rfl rfl rfl rfl ?_
          refine xl_go tt_ok ?_
          refine xl_call0 (.bool (isT (R.getD 0 tok0) lpS)) rfl rfl rfl rfl fn89 rfl rfl (fun E w F hs => is_any (R.getD 0 tok0) lpS _ w (hs.rowAt (k := 7) rfl) (by decide)) ?_
          refine xl_go tt_ok ?_
          refine x_if (fun h2 => ?_) (fun h2 => ?_)
          · have h2 : (!isT (R.getD 0 tok0) lpS) = true := h2
            rw [if_neg (by intro h3; rw [h3] at h2; cases h2)] at hres
            rw [hres]
            exact finP (fun E w' F hs hu => defNo _)
          · have h2 : isT (R.getD 0 tok0) lpS = true := by
              have h2 : (!isT (R.getD 0 tok0) lpS) = false := h2
              simpa using h2
            rw [if_pos h2] at hres
            obtain ⟨z1, z2, z3, z4⟩ := paramsR_le R hRp
            refine xl_callSC (params_sc nm R A1 c1 (by omega) zL1) (fun u u' h hs => hs.sub h) (hx1.le hu4) [3, 4] rfl rfl rfl rfl fn90 rfl rfl rfl rfl rfl rfl rfl (fun _ => rfl) (fun _ u6 hu6 _ => ?_)
            refine xl_go tt_ok ?_
            refine x_if (fun h3 => ?_) (fun h3 => ?_)
            · have h3 : (!(paramsR R).ok) = true := h3
              rw [if_neg (by intro h4; rw [h4] at h3; cases h3)] at hres
              rw [hres]
              exact finP (fun E w' F hs hu => defNo _)
            · have h3 : (paramsR R).ok = true := by
                have h3 : (!(paramsR R).ok) = false := h3
                simpa using h3
              rw [if_pos h3] at hres
              obtain ⟨q, hq⟩ : ∃ q, q = paramsR R := ⟨_, rfl⟩
              rw [← hq] at hres z1 z2 z3 z4 ⊢
              obtain ⟨A2, c2, hA2⟩ : ∃ A2 c2, partV ti31.sz A1 c1 q.n.toNat R.length = .slice A2 (R.drop q.n.toNat).length c2 := ⟨_, _, by unfold partV; rw [List.length_drop]⟩
              have hx2 : SlAt u6 (.slice A2 (R.drop q.n.toNat).length c2) (tokY.d (R.drop q.n.toNat)) := by
                have := partV_slAt ((hx1.le hu4).le hu6) (l := q.n.toNat) (h := R.length) (by omega) (Nat.le_refl _)
                rw [List.take_length] at this
                rw [← hA2]; exact this
              refine x_drawA mix ?_
              refine xa_pures tt_ok (fuel := 3) [0, 1, 3] rfl (by kernel_rfl) (by kernel_rfl) (fun _ _ _ hh => hh) (by kernel_rfl) (by kernel_rfl) ?_
              refine xa_two 2 4 (by kernel_rfl) rfl rfl ?_ ?_
              · refine xl_fromE tt_ok rfl rfl rfl rfl rfl rfl rfl rfl rfl (by omega) (by omega) ?_
                rw [hA2]
                refine xl_end ?_
                refine xa_chain (fuel := 0) [4, 5] rfl rfl (by kernel_rfl) (xl_go tt_ok ?_)
                refine xa_done (by kernel_rfl) rfl ?_
                exact meet (true, q.va, q.ps, R.drop q.n.toNat, A2, c2) [(5, some 8)] (.of rfl rfl rfl rfl rfl rfl) ⟨hx2, by rw [List.length_drop]; omega, z1, fun t ht => zL1 t (List.mem_of_mem_drop ht), fun s hs => (by obtain ⟨t, ht, e⟩ := z4 s hs; rw [e]; exact zL1 t ht), hres⟩
              · refine xl_go tt_ok ?_
                refine xa_one 2 (by kernel_rfl) rfl ?_
                refine xl_fromE tt_ok rfl rfl rfl rfl rfl rfl rfl rfl rfl (by omega) (by omega) ?_
                rw [hA2]
                refine xl_end ?_
                refine xa_one 5 (by kernel_rfl) rfl (xl_go tt_ok ?_)
                refine xa_done (by kernel_rfl) rfl ?_
                exact meet (true, q.va, q.ps, R.drop q.n.toNat, A2, c2) [(5, some 8)] (.of rfl rfl rfl rfl rfl rfl) ⟨hx2, by rw [List.length_drop]; omega, z1, fun t ht => zL1 t (List.mem_of_mem_drop ht), fun s hs => (by obtain ⟨t, ht, e⟩ := z4 s hs; rw [e]; exact zL1 t ht), hres⟩
        · have h : (decide ((0 : Int) < R.length) && !(R.getD 0 tok0).space) = false := h
          rw [if_neg (by rw [h]; simp)] at hres
          exact meet (false, false, [], R, A1, c1) [(5, some 4)] (.of rfl rfl rfl rfl rfl rfl) ⟨hx1.le hu4, Nat.le_refl _, Nat.zero_le _, zL1, fun s hs => (by cases hs), hres⟩
      · rintro ⟨fn, va, ps, l, A2, c2⟩ u5 hu5 ⟨k1, k2, k3, k4, k5, k6⟩
        rw [k6]
        clear k6 hres hx1
        refine x_star0 0 ?_
        refine x_parkB 5 6 3 rfl rfl rfl (fun pa pc => ?_)
        refine x_vc tt_ok ?_
        refine xl_call0 (.bool (validB fn va ps l)) rfl rfl rfl rfl fn91 rfl rfl (fun E w F hs => valid_any nm fn va ps pa none pc 0 0 l _ w (k1.imm hs.imm) (hs.starAt (s := 6) (i := 0) rfl rfl) (by omega) (by omega) k4 k5) ?_
        refine xl_go tt_ok ?_
        refine x_if (fun h => ?_) (fun h => ?_)
        · have h : (!validB fn va ps l) = true := h
          have e : defB nm fn ps va l = (m0, 50) := by
            unfold defB
            rw [if_neg (by intro h3; rw [h3] at h; cases h)]
          rw [e]
          exact finP (fun E w' F hs hu => defNo _)
        · have h : validB fn va ps l = true := by
            have h : (!validB fn va ps l) = false := h
            simpa using h
          have e : defB nm fn ps va l = (⟨nm, fn, ps, va, fixS (l.map ofT)⟩, 0) := by unfold defB; rw [if_pos h]
          rw [e]
          refine xl_callO 46 (pvY.d (l.map ofT)) rfl rfl rfl rfl fn31 rfl rfl (fun E w F hs => of_any l _ w (k1.imm hs.imm) (by omega)) ?_
          have hml : (l.map ofT).length = l.length := by rw [List.length_map]
          generalize l.map ofT = M at hml
          refine xl_go tt_ok ?_
          cases M with
          | nil =>
            refine x_iff rfl ?_
            refine xl_parkB 7 6 3 rfl rfl rfl (fun ba bc => ?_)
            refine xl_go tt_ok ?_
            exact finStar (k := 6) (pa, pc, ba, bc) rfl (fun _ => rfl) trivial
          | cons t r =>
            refine x_ift (decide_eq_true (by show (0 : Int) < ((r.length + 1 : Nat) : Int); omega)) ?_
            refine And.intro (by omega) ?_
            refine And.intro (by show (0 : Int) < ((r.length + 1 : Nat) : Int); omega) ?_
            refine xl_set tt_ok (i := 0) (off := 2) pvY (t :: r) { t with space := false } (cs := [.bool false]) rfl rfl rfl rfl rfl rfl rfl (by omega) (by simp only [List.length_cons]; omega) rfl rfl (by decide) rfl ?_
            refine xl_go tt_ok ?_
            refine xl_parkB 7 6 3 rfl rfl rfl (fun ba bc => ?_)
            refine xl_go tt_ok ?_
            exact finStar (k := 6) (pa, pc, ba, bc) rfl (fun _ => rfl) trivial
end Go.Proofs.Ytdonomneofdhfaa
namespace Go.Proofs.Ytdonomneofdhfaa
open Go.GV Go.RowKit
abbrev It := RowV × List Tok
def it0 : It := (row0, [])
def ItAt (u : Im) (I : List It) : Prop := ∀ i : Nat, i < I.length → SlAt u (I.getD i it0).1.toks (tokY.d (I.getD i it0).2)
theorem ItAt.le {u u' : Im} {I : List It} (h : ItAt u I) (hu : u.le u') : ItAt u' I := fun i hi => (h i hi).le hu
theorem ItAt.sub {u u' : Im} {I : List It} (h : ItAt u I) (hu : u.sub u') : ItAt u' I := fun i hi => (h i hi).sub hu
end Go.Proofs.Ytdonomneofdhfaa
namespace Go.Proofs.Ytdonomneofdhfaa
open Go.GV Go.RowKit
def noHash (t : Tok) : Bool := decide (t.kind ≠ 5) || (decide (t.text ≠ ⟨#[35]⟩) && decide (t.text ≠ ⟨#[37, 58]⟩))
def dirF : Bool → List Tok → ByteArray × Bool
  | m, [] => (⟨#[]⟩, m)
  | m, t :: r => if gone t then dirF m r else if !m && noHash t then (⟨#[]⟩, false) else if !m then dirF true r
    else if t.kind = 1 then (t.text, true) else (⟨#[]⟩, true)
set_option maxRecDepth 100000 in
theorem directive_any (L : List Tok) (x : Value) (w : World) (hx : SlAt (im w) x (tokY.d L)) (hL : L.length ≤ 9223372036854775807) :
    Calls Try.prog 84 #[x] w (PureP w fun v _ => v = .tuple #[.string (dirF false L).1, .bool (dirF false L).2]) := by
  refine x_fun tt_ok Try.func84 rfl rfl [(x, tokY.d L)] 1 [.r 0] rfl rfl rfl rfl (fun b hb => by simp at hb; subst hb; exact hx) ?_
  refine x_vc tt_ok ?_
  refine x_loop (σ := Int × Bool) (fun (i, m) => ⟨[(9, .v (.int .i64 i)), (8, .v (.int .i64 L.length)), (7, .r 0), (4, .v (.bool m))], [], [(0, .sl (tokY.d L))], 1⟩)
    (fun (i, m) _ => 0 ≤ i ∧ i ≤ L.length ∧ dirF m (L.drop i.toNat) = dirF false L) (fun (i, _) => (L.length - i).toNat) (fun (_, _) => Nat.le_refl _) (0, false) [] (.of rfl rfl rfl rfl rfl rfl)
    ⟨by omega, by omega, by simp⟩ ?_
  rintro ⟨i, m⟩ u hu ⟨g1, g2, g3⟩
  refine x_vc tt_ok ?_
  refine x_if (fun h => ?_) (fun h => ?_)
  · have h2 : i < L.length := of_decide_eq_true h
    rw [drop_at (d := tok0) g1 h2] at g3
    repeat (refine And.intro ?_ ?_; first | omega | (simp only [Lay.d_n]; omega))
    refine x_if (fun h3 => ?_) (fun h3 => ?_)
    · have h4 : gone (L.getD i.toNat tok0) = true := h3
      repeat (refine And.intro ?_ ?_; first | omega | (simp only [Lay.d_n]; omega))
      refine again (i + 1, m) [] (.of rfl rfl rfl rfl rfl rfl) ⟨by omega, by omega, ?_⟩ (by simp only; omega)
      simpa only [dirF, h4, if_true] using g3
    · have h4 : gone (L.getD i.toNat tok0) = false := h3
      simp only [dirF, h4, Bool.false_eq_true, if_false] at g3
      refine x_if (fun h5 => ?_) (fun h5 => ?_)
      · have h6 : (!m && noHash (L.getD i.toNat tok0)) = true := h5
        rw [if_pos h6] at g3
        refine fin1 (fun _ _ => ?_)
        rw [← g3]; rfl
      · have h6 : (!m && noHash (L.getD i.toNat tok0)) = false := h5
        rw [if_neg (by rw [h6]; simp)] at g3
        refine x_if (fun h7 => ?_) (fun h7 => ?_)
        · rw [if_pos h7] at g3
          repeat (refine And.intro ?_ ?_; first | omega | (simp only [Lay.d_n]; omega))
          exact again (i + 1, true) [] (.of rfl rfl rfl rfl rfl rfl) ⟨by omega, by omega, g3⟩ (by simp only; omega)
        · rw [if_neg (by rw [h7]; simp)] at g3
          refine x_if (fun h8 => ?_) (fun h8 => ?_)
          · rw [if_pos (of_decide_eq_true h8)] at g3
            refine fin1 (fun _ _ => ?_)
            rw [← g3]; rfl
          · rw [if_neg (of_decide_eq_false h8)] at g3
            refine fin1 (fun _ _ => ?_)
            rw [← g3]; rfl
  · have h2 : ¬ (i < (L.length : Int)) := of_decide_eq_false h
    rw [List.drop_eq_nil_of_le (by omega)] at g3
    simp only [dirF] at g3
    refine fin1 (fun _ _ => ?_)
    rw [← g3]; rfl
def pcs : Nat → Nat → List Tok → List (Nat × Nat)
  | f, i, [] => if f < i then [(f, i)] else []
  | f, i, t :: r => if t.kind = 9 then (f, i + 1) :: pcs (i + 1) (i + 1) r else pcs f (i + 1) r
def pcV (A : Option Addr) (c : Nat) (p : Nat × Nat) : Value := partV 5 A c p.1 p.2
theorem pcs_mem : ∀ (L : List Tok) (f i : Nat) (p : Nat × Nat), f ≤ i → p ∈ pcs f i L → f ≤ p.1 ∧ p.1 < p.2 ∧ p.2 ≤ i + L.length
  | [], f, i, p, h, hp => by
    simp only [pcs] at hp
    split at hp
    · rw [List.mem_singleton.1 hp]; exact ⟨Nat.le_refl _, by assumption, Nat.le_refl _⟩
    · cases hp
  | t :: r, f, i, p, h, hp => by
    simp only [pcs] at hp
    split at hp
    · rcases List.mem_cons.1 hp with rfl | hp
      · exact ⟨Nat.le_refl _, by show f < i + 1; omega, by show i + 1 ≤ _; simp⟩
      · have := pcs_mem r (i + 1) (i + 1) p (Nat.le_refl _) hp
        simp only [List.length_cons]; omega
    · have := pcs_mem r f (i + 1) p (by omega) hp
      simp only [List.length_cons]; omega
theorem pcs_len : ∀ (L : List Tok) (f i : Nat), f ≤ i → (pcs f i L).length ≤ L.length + (i - f)
  | [], f, i, h => by
    simp only [pcs]
    split
    · simp; omega
    · simp
  | t :: r, f, i, h => by
    simp only [pcs]
    split
    · have := pcs_len r (i + 1) (i + 1) (Nat.le_refl _)
      simp only [List.length_cons]; omega
    · have := pcs_len r f (i + 1) (by omega)
      simp only [List.length_cons]; omega
set_option maxRecDepth 100000 in
theorem pieces_iter (L : List Tok) (A : Option Addr) (c : Nat) (b : Nat) (u0 : Im) (hb : u0.h b = some (.cells #[.slice A L.length c] 22 (0, 0))) (hx : SlAt u0 (.slice A L.length c) (tokY.d L)) (hL : L.length * 48 ≤ 140737488355328) :
    Iter Try.prog 128 #[.pointer (some ⟨b, 0, none⟩)] ((pcs 0 0 L).map (pcV A c)) u0 := by
  refine x_iter tt_ok Try.func128 rfl rfl [(.slice (some ⟨b, 0, none⟩) 1 1, ⟨1, [fun _ => .slice A L.length c]⟩)] [.e 1 1 0 0] (boxEnv b) (fun j x hj => ?_) rfl rfl (fun x hx => ?_) (fun x hx => ?_) (fun l Y Z u hu hR => ?_)
  · match j, hj with
    | 0, hj => cases hj; rfl
    | j + 1, hj => simp at hj
  · simp only [List.mem_singleton] at hx
    subst hx
    exact ⟨by simp, _, 1, 1, rfl, Int.le_refl _, by omega⟩
  · simp only [List.mem_singleton] at hx
    subst hx
    exact SlAt.box1 hb
  refine x_vc tt_ok ?_
  refine x_sl 6 rfl (hx.sub hu.sub) ?_
  refine x_loop (σ := Nat × Int × Int) (fun (k, f, i) => ⟨[(8, .v (.int .i64 i)), (7, .v (.int .i64 L.length)), (6, .r 2), (3, .v (.int .i64 f)), (1, .e 1 1 0 0), (0, .v (.func (.yield l) #[] #[]))], [], [(0, .gen (Y k).hp), (1, .sl ⟨1, [fun _ => .slice A L.length c]⟩), (2, .sl (tokY.d L))], 3⟩)
    (fun (k, f, i) _ => 0 ≤ f ∧ f ≤ i ∧ i ≤ L.length ∧ ∃ pre, pre.length = k ∧ pcs 0 0 L = pre ++ pcs f.toNat i.toNat (L.drop i.toNat)) (fun (_, _, i) => (L.length - i).toNat) (fun (_, _, _) => Nat.le_refl 3) (0, 0, 0) [] (.of rfl rfl rfl rfl rfl rfl)
    ⟨by omega, by omega, by omega, [], rfl, by simp⟩ ?_
  rintro ⟨k, f, i⟩ u2 hu2 ⟨g1, g2, g3, pre, g4, g5⟩
  have hcap : L.length ≤ c := by obtain ⟨A', c', q1, q2, _⟩ := hx; cases q1; exact q2
  refine x_vc tt_ok ?_
  refine x_if (fun h => ?_) (fun h => ?_)
  · have h2 : i < L.length := of_decide_eq_true h
    rw [drop_at (d := tok0) (by omega) h2] at g5
    simp only [pcs] at g5
    have ei : (i + 1).toNat = i.toNat + 1 := by omega
    rw [ei] at g5
    repeat (refine And.intro ?_ ?_; first | omega | (simp only [Lay.d_n]; omega))
    refine x_if (fun h3 => ?_) (fun h3 => ?_)
    · have h4 : ¬ (L.getD i.toNat tok0).kind = 9 := of_decide_eq_true h3
      rw [if_neg h4] at g5
      repeat (refine And.intro ?_ ?_; first | omega | (simp only [Lay.d_n]; omega))
      exact again (k, f, i + 1) [] (.of rfl rfl rfl rfl rfl rfl) ⟨by omega, by omega, by omega, pre, g4, by rw [ei]; exact g5⟩ (by simp only; omega)
    · have h4 : (L.getD i.toNat tok0).kind = 9 := Classical.not_not.1 (of_decide_eq_false h3)
      rw [if_pos h4] at g5
      repeat (refine And.intro ?_ ?_; first | omega | (simp only [Lay.d_n]; omega))
      refine xl_subE tt_ok rfl rfl rfl rfl rfl rfl rfl rfl rfl rfl (by omega) (by omega) (by omega) ?_
      refine xl_go tt_ok ?_
      have hx1 : ((pcs 0 0 L).map (pcV A c))[k]? = some (partV 5 A c f.toNat (i + 1).toNat) := by
        rw [List.getElem?_map, g5, List.getElem?_append_right (by omega), g4, Nat.sub_self, ei]; rfl
      refine xl_yield (kY := 0) rfl hR rfl rfl rfl rfl rfl rfl rfl rfl hx1 ?_ ?_
      · refine xl_go tt_ok ?_
        refine x_iff rfl ?_
        repeat (refine And.intro ?_ ?_; first | omega | (simp only [Lay.d_n]; omega))
        exact again (k + 1, i + 1, i + 1) [] (.of rfl rfl rfl rfl rfl rfl) ⟨by omega, by omega, by omega, pre ++ [(f.toNat, i.toNat + 1)], by rw [List.length_append, g4]; rfl, by rw [ei, g5, List.append_assoc]; rfl⟩ (by simp only; omega)
      · refine xl_go tt_ok ?_
        refine x_ift rfl ?_
        exact .inr rfl
  · have h2 : ¬ (i < (L.length : Int)) := of_decide_eq_false h
    rw [List.drop_eq_nil_of_le (by omega)] at g5
    have ei : i.toNat = L.length := by omega
    rw [ei] at g5
    simp only [pcs] at g5
    refine x_if (fun h3 => ?_) (fun h3 => ?_)
    · have h4 : f < (L.length : Int) := of_decide_eq_true h3
      rw [if_pos (by omega)] at g5
      refine xl_fromE tt_ok rfl rfl rfl rfl rfl rfl rfl rfl rfl (by omega) (by omega) ?_
      refine xl_go tt_ok ?_
      have hx1 : ((pcs 0 0 L).map (pcV A c))[k]? = some (partV 5 A c f.toNat L.length) := by
        rw [List.getElem?_map, g5, List.getElem?_append_right (by omega), g4, Nat.sub_self]; rfl
      have hk : ((pcs 0 0 L).map (pcV A c)).length = k + 1 := by rw [List.length_map, g5, List.length_append, g4]; rfl
      refine xl_yield (kY := 0) rfl hR rfl rfl rfl rfl rfl rfl rfl rfl hx1 ?_ ?_
      · refine xl_go tt_ok ?_
        exact .inl (by rw [hk]; rfl)
      · refine xl_go tt_ok ?_
        exact .inr rfl
    · have h4 : ¬ f < (L.length : Int) := of_decide_eq_false h3
      rw [if_neg (by omega), List.append_nil] at g5
      have hk : ((pcs 0 0 L).map (pcV A c)).length = k := by rw [List.length_map, g5, g4]
      exact .inl (by rw [hk]; rfl)
end Go.Proofs.Ytdonomneofdhfaa
namespace Go.Proofs.Ytdonomneofdhfaa
open Go.GV Go.RowKit
set_option maxRecDepth 100000 in
theorem clone_own (L : List Tok) (x : Value) (w : World) (hx : SlAt (im w) x (tokY.d L)) (hL : L.length * 48 ≤ 140737488355328) :
    Calls Try.prog 85 #[x] w (PureP w fun v u => OwnAt u v 31 (tokY.d L)) := by
  refine x_fun tt_ok Try.func85 rfl rfl [(x, tokY.d L)] 1 [.r 0] rfl rfl rfl rfl (fun b hb => by simp at hb; subst hb; exact hx) ?_
  refine x_vc tt_ok ?_
  refine xl_eqnil tt_ok rfl rfl rfl rfl rfl rfl rfl (fun E w F hs => hs.slAt (k := 0) rfl) (fun b hb => ?_)
  refine xl_go tt_ok ?_
  refine x_if (fun h => ?_) (fun h => ?_)
  · have h0 : L = [] := List.eq_nil_of_length_eq_zero (hb h)
    subst h0
    exact finP fun _ _ _ hs _ => .inl ⟨rfl, rfl⟩
  · refine xl_empty tt_ok tokY rfl rfl rfl rfl rfl rfl rfl ?_
    refine xl_go tt_ok ?_
    refine xl_append tt_ok tokY [] L 48 rfl rfl rfl rfl rfl rfl rfl rfl (by kernel_rfl) rfl rfl rfl (fun E w F hs => hs.slAt (k := 0) rfl) tokOne rfl (by simp; omega) (by simp; omega) ?_
    refine xl_go tt_ok ?_
    exact finO (k := 2) (D := tokY.d L) rfl
structure RowT where
  dir : Bool
  name : ByteArray
  ts : List Tok
def rowT0 : RowT := ⟨false, ⟨#[]⟩, []⟩
def RowT.key (r : RowT) : Bool × ByteArray := (r.dir, r.name)
def addLine (s : List RowT × Bool) (line : List Tok) : List RowT × Bool :=
  if (!(dirF false line).2 && s.2) = true then (s.1.set (s.1.length - 1) { s.1.getD (s.1.length - 1) rowT0 with ts := (s.1.getD (s.1.length - 1) rowT0).ts ++ line }, s.2)
  else (s.1 ++ [⟨(dirF false line).2, (dirF false line).1, line⟩], !(dirF false line).2)
def lnOf (L : List Tok) (p : Nat × Nat) : List Tok := (L.take p.2).drop p.1
def linesOf (L : List Tok) : List (List Tok) := (pcs 0 0 L).map (lnOf L)
def rowsOf (L : List Tok) : List RowT := ((linesOf L).foldl addLine ([], false)).1
def itemsS (V : List RowV) (R : List RowT) : List SI := List.zipWith (fun v r => ⟨v.toks, 31, tokY.d r.ts⟩) V R
theorem itemsS_set {V : List RowV} {R : List RowT} {i : Nat} {v : RowV} {r : RowT} : itemsS (V.set i v) (R.set i r) = (itemsS V R).set i ⟨v.toks, 31, tokY.d r.ts⟩ := by
  unfold itemsS
  refine List.ext_getElem? fun j => ?_
  simp only [List.getElem?_zipWith, List.getElem?_set, List.length_zipWith]
  by_cases h : i = j
  · subst h
    simp only [if_true]
    by_cases h1 : i < V.length
    · by_cases h2 : i < R.length
      · rw [if_pos h1, if_pos h2, if_pos (by omega)]
      · rw [if_pos h1, if_neg h2, if_neg (by omega)]
    · rw [if_neg h1, if_neg (show ¬ i < min V.length R.length by omega)]
  · simp only [if_neg h]
theorem itemsS_push {V : List RowV} {R : List RowT} (h : V.length = R.length) (v : RowV) (r : RowT) : itemsS (V ++ [v]) (R ++ [r]) = itemsS V R ++ [⟨v.toks, 31, tokY.d r.ts⟩] := by
  unfold itemsS
  rw [List.zipWith_append h]; rfl
theorem itemsS_get {V : List RowV} {R : List RowT} {i : Nat} (h1 : i < V.length) (h2 : i < R.length) : (itemsS V R)[i]? = some ⟨(V.getD i row0).toks, 31, tokY.d (R.getD i rowT0).ts⟩ := by
  unfold itemsS
  rw [List.getElem?_zipWith, List.getElem?_eq_getElem h1, List.getElem?_eq_getElem h2]
  simp [List.getD_eq_getElem?_getD, List.getElem?_eq_getElem h1, List.getElem?_eq_getElem h2]
theorem pcs_sum (L : List Tok) : ∀ (r : List Tok) (f i : Nat), f ≤ i → i + r.length ≤ L.length → (((pcs f i r).map (lnOf L)).map List.length).sum = i - f + r.length
  | [], f, i, h, hl => by
    simp only [pcs]
    split
    · simp [lnOf]; simp at hl; omega
    · simp; omega
  | t :: r, f, i, h, hl => by
    simp only [List.length_cons] at hl
    simp only [pcs, List.length_cons]
    split
    · have := pcs_sum L r (i + 1) (i + 1) (Nat.le_refl _) (by omega)
      simp only [List.map_cons, List.sum_cons, this, lnOf, List.length_drop, List.length_take]
      omega
    · have := pcs_sum L r f (i + 1) (by omega) (by omega)
      rw [this]; omega
def sizeR (R : List RowT) : Nat := (R.map (fun r => r.ts.length)).sum
theorem sum_set : ∀ (l : List Nat) (i : Nat) (a : Nat), i < l.length → (l.set i a).sum + l.getD i 0 = l.sum + a
  | [], i, a, h => by simp at h
  | x :: l, 0, a, h => by simp; omega
  | x :: l, i + 1, a, h => by
    simp only [List.length_cons, Nat.add_lt_add_iff_right] at h
    have := sum_set l i a h
    simp only [List.set_cons_succ, List.sum_cons, List.getD_cons_succ]
    omega
theorem addLine_size (s : List RowT × Bool) (line : List Tok) (h : s.2 = true → s.1 ≠ []) : sizeR (addLine s line).1 = sizeR s.1 + line.length ∧ ((addLine s line).2 = true → (addLine s line).1 ≠ []) ∧ (addLine s line).1.length ≤ s.1.length + 1 := by
  unfold addLine
  split
  · rename_i hc
    simp only [Bool.and_eq_true] at hc
    have hne := h hc.2
    have hpos : s.1.length - 1 < s.1.length := by
      cases hs : s.1 with
      | nil => exact absurd hs hne
      | cons => simp
    refine ⟨?_, fun _ hh => ?_, by simp⟩
    · unfold sizeR
      rw [List.map_set]
      have := sum_set (s.1.map (fun r => r.ts.length)) (s.1.length - 1) ((s.1.getD (s.1.length - 1) rowT0).ts ++ line).length (by simpa using hpos)
      have e : (s.1.map (fun r => r.ts.length)).getD (s.1.length - 1) 0 = (s.1.getD (s.1.length - 1) rowT0).ts.length := by
        simp [List.getD_eq_getElem?_getD, List.getElem?_eq_getElem hpos]
      rw [e] at this
      simp only [List.length_append] at this ⊢
      omega
    · have := congrArg List.length hh
      simp at this
      exact hne this
  · refine ⟨?_, fun _ => by simp, by simp⟩
    simp [sizeR]
theorem getD_size {R : List RowT} {i : Nat} (h : i < R.length) : (R.getD i rowT0).ts.length ≤ sizeR R := by
  unfold sizeR
  induction R generalizing i with
  | nil => simp at h
  | cons r R ih =>
    cases i with
    | zero => simp
    | succ i =>
      simp only [List.length_cons, Nat.add_lt_add_iff_right] at h
      have := ih h
      simp only [List.getD_cons_succ, List.map_cons, List.sum_cons]
      omega
def PiecesFn (x : Value) (v : Value) (u : Im) : Prop := ∃ b, v = .func (.func 128) #[] #[.pointer (some ⟨b, 0, none⟩)] ∧ u.h b = some (.cells #[x] 22 (0, 0))
set_option maxRecDepth 100000 in
theorem piecesFn_any (A : Option Addr) (n c : Nat) (w : World) : Calls Try.prog 83 #[.slice A n c] w (PureP w (PiecesFn (.slice A n c))) := by
  refine x_fun tt_ok Try.func83 rfl rfl [] 0 [.v (.slice A n c)] rfl rfl rfl rfl (fun b hb => by cases hb) ?_
  refine x_vc tt_ok ?_
  refine finP (fun E w' F hs hu => ?_)
  obtain ⟨b, h1, h2⟩ := hs.boxNew (k := 0) rfl hu
  refine ⟨b, ?_, h2⟩
  simp [SV.den, tupV, ptrOf, h1]
def RowsR (R : List RowT) : Value → Im → Prop := StarR (fun (s : Option Addr × Nat × List RowV) => .slice s.1 R.length s.2.1) (fun s => itemsS s.2.2 R ++ [⟨.slice s.1 R.length s.2.1, 28, rowY.d s.2.2⟩]) (fun s => s.2.2.map RowV.key = R.map RowT.key)
theorem rowOne : ∀ x : RowV, ∀ y ∈ rowY.el x, oneB y = true := by
  intro x y hy
  simp [Lay.el] at hy
  rcases hy with rfl | rfl | rfl <;> rfl
set_option maxRecDepth 100000 in
theorem rows_any (L : List Tok) (A : Option Addr) (c : Nat) (w : World) (hx : SlAt (im w) (.slice A L.length c) (tokY.d L)) (hL : L.length * 48 ≤ 140737488355328) :
    Calls Try.prog 23 #[.slice A L.length c] w (PureP w (RowsR (rowsOf L))) := by
  refine x_fun tt_ok Try.func23 rfl rfl [] 0 [.v (.slice A L.length c)] rfl rfl rfl rfl (fun b hb => by cases hb) ?_
  refine x_vc tt_ok ?_
  refine xl_call _ rfl rfl rfl rfl fn83 rfl rfl (fun E w F _ => piecesFn_any _ _ _ w) (fun v u1 u2 hu2 hs2 hv => ?_)
  obtain ⟨b, rfl, hb⟩ := hv
  have hb2 := of_sub_cut hs2 hb
  have hx2 : SlAt u2 (.slice A L.length c) (tokY.d L) := hx.le hu2
  refine xl_go tt_ok ?_
  refine x_nilCell 0 28 rowY [] [] rfl ?_
  refine x_star0 0 ?_
  refine x_range (σ := Bool × List RowV × List RowT) (τ := Empty) rfl fn128 (pieces_iter L A c b u2 hb2 hx2 hL) [(3, .p 0 0), (4, .p 1 0), (0, .v (.slice A L.length c))]
    (fun (run, V, R) => [(0, .box 23 [.r 5]), (1, .box 4 [.v (.bool run)]), (5, .row 28 (rowY.d V)), (3, .gen (starHp (itemsS V R)))]) (fun _ => 6)
    (fun k (run, V, R) _ => ((linesOf L).take k).foldl addLine ([], false) = (R, run) ∧ V.map RowV.key = R.map RowT.key ∧ sizeR R = (((linesOf L).take k).map List.length).sum ∧ (run = true → R ≠ []) ∧ R.length ≤ k)
    (fun _ => []) (fun _ => 6) (fun _ e _ => False) (false, [], []) [(5, some 2)] (.of rfl rfl rfl rfl rfl rfl) ⟨rfl, rfl, rfl, (fun h => by cases h), Nat.le_refl _⟩ rfl
    (fun _ => rfl) (fun _ => rfl) (fun _ => by decide) (fun _ => by decide) rfl (fun l k x s u3 Fr Fr' hx hu3 hg => ?_) (fun s u3 hu3 hg => ?_) (fun _ e u3 hu3 hg => hg.elim)
  · obtain ⟨run, V, R⟩ := s
    rw [List.getElem?_map] at hx
    obtain ⟨p, hp, rfl⟩ := Option.map_eq_some_iff.1 hx
    have hm := pcs_mem L 0 0 p (Nat.le_refl _) (List.mem_of_getElem? hp)
    have hln : SlAt u3 (pcV A c p) (tokY.d (lnOf L p)) := partV_slAt (hx2.le hu3) (by omega) (by omega)
    have hll : (lnOf L p).length = p.2 - p.1 := by simp [lnOf]; omega
    obtain ⟨g1, g2, g3, g4, g5⟩ := hg
    have hk : (linesOf L)[k]? = some (lnOf L p) := by rw [linesOf, List.getElem?_map, hp]; rfl
    have hadd := addLine_size (R, run) (lnOf L p) g4
    have hVR : V.length = R.length := by have := congrArg List.length g2; simpa using this
    have hpl := pcs_len L 0 0 (Nat.le_refl _)
    have hkl : k < (pcs 0 0 L).length := (List.getElem?_eq_some_iff.1 hp).1
    have hsum : sizeR R + (lnOf L p).length ≤ L.length := by
      have h1 := pcs_sum L L 0 0 (Nat.le_refl _) (by omega)
      rw [g3]
      have h2 := congrArg (fun l => (l.map List.length).sum) (List.take_append_drop k (linesOf L))
      simp only [List.map_append, List.sum_append] at h2
      rw [show (linesOf L).drop k = lnOf L p :: (linesOf L).drop (k + 1) from drop_get hk] at h2
      simp only [List.map_cons, List.sum_cons] at h2
      have h3 : ((linesOf L).map List.length).sum = L.length := by rw [linesOf, h1]; omega
      omega
    have next : ((linesOf L).take (k + 1)).foldl addLine ([], false) = addLine (R, run) (lnOf L p) := by
      rw [take_get hk, List.foldl_append, g1]; rfl
    have nsum : (((linesOf L).take (k + 1)).map List.length).sum = sizeR R + (lnOf L p).length := by
      rw [take_get hk, List.map_append, List.sum_append, ← g3]; simp
    refine x_vc tt_ok ?_
    refine ⟨rfl, rfl, x_vc tt_ok ?_⟩
    refine xl_call0 (.tuple #[.string (dirF false (lnOf L p)).1, .bool (dirF false (lnOf L p)).2]) rfl rfl rfl rfl fn84 rfl rfl (fun E w F hs => directive_any _ _ w (hln.imm hs.imm) (by omega)) ?_
    refine xl_go tt_ok ?_
    refine x_if (fun h => ?_) (fun h => ?_)
    · have h1 : (!(dirF false (lnOf L p)).2 && run) = true := h
      rw [addLine, if_pos h1] at next hadd
      obtain ⟨hd1, hd2⟩ := Bool.and_eq_true_iff.1 h1
      subst hd2
      have hRne := g4 rfl
      have hpos : 0 < R.length := List.length_pos_iff.2 hRne
      have hi : (((V.length : Nat) : Int) - 1).toNat < V.length := by omega
      have hi2 : (((V.length : Nat) : Int) - 1).toNat < R.length := by omega
      have hei : (((V.length : Nat) : Int) - 1).toNat = R.length - 1 := by omega
      have hts := getD_size hi2
      repeat (refine And.intro ?_ ?_; first | omega | (simp only [Lay.d_n]; omega))
      refine xl_unpark 31 3 (((V.length : Nat) : Int) - 1).toNat rfl rfl (itemsS_get hi hi2) ?_
      refine xl_append tt_ok tokY (R.getD (((V.length : Nat) : Int) - 1).toNat rowT0).ts (lnOf L p) 48 rfl rfl rfl rfl rfl rfl rfl rfl (by kernel_rfl) rfl rfl rfl (fun E w F hs => hln.imm hs.imm) tokOne rfl (by omega) (by omega) ?_
      refine xl_go tt_ok ?_
      refine xl_park 7 3 (((V.length : Nat) : Int) - 1).toNat rfl rfl (List.getElem?_set_self (by rw [itemsS, List.length_zipWith]; omega)) rfl (fun A' c' => ?_)
      refine xl_set tt_ok (cs := [.slice A' (tokY.d ((R.getD (((V.length : Nat) : Int) - 1).toNat rowT0).ts ++ lnOf L p)).n c']) rowY V { V.getD (((V.length : Nat) : Int) - 1).toNat row0 with ta := A', tn := (tokY.d ((R.getD (((V.length : Nat) : Int) - 1).toNat rowT0).ts ++ lnOf L p)).n, tc := c' } rfl rfl rfl rfl rfl rfl rfl (by simp only [Lay.d_n]; omega) (by simp only [Lay.d_n]; omega) rfl rfl (Nat.le_refl 3) rfl ?_
      refine xl_go tt_ok ?_
      rw [List.set_set]
      have e := itemsS_set (V := V) (R := R) (i := (((V.length : Nat) : Int) - 1).toNat) (v := { V.getD (((V.length : Nat) : Int) - 1).toNat row0 with ta := A', tn := (tokY.d ((R.getD (((V.length : Nat) : Int) - 1).toNat rowT0).ts ++ lnOf L p)).n, tc := c' })
        (r := { R.getD (((V.length : Nat) : Int) - 1).toNat rowT0 with ts := (R.getD (((V.length : Nat) : Int) - 1).toNat rowT0).ts ++ lnOf L p })
      refine ⟨(true, V.set (((V.length : Nat) : Int) - 1).toNat { V.getD (((V.length : Nat) : Int) - 1).toNat row0 with ta := A', tn := (tokY.d ((R.getD (((V.length : Nat) : Int) - 1).toNat rowT0).ts ++ lnOf L p)).n, tc := c' }, R.set (((V.length : Nat) : Int) - 1).toNat { R.getD (((V.length : Nat) : Int) - 1).toNat rowT0 with ts := (R.getD (((V.length : Nat) : Int) - 1).toNat rowT0).ts ++ lnOf L p }), [], ?_, ?_⟩
      · simp only [e]
        exact .of rfl rfl rfl rfl rfl rfl
      · rw [hei]
        refine ⟨next, ?_, by rw [nsum]; exact hadd.1, fun h => hadd.2.1 h, by have := hadd.2.2; simp at this ⊢; omega⟩
        rw [List.map_set, List.map_set, g2]
        congr 1
        have := congrArg (fun l => l.getD (R.length - 1) row0.key) g2
        simp only [List.getD_eq_getElem?_getD, List.getElem?_map] at this ⊢
        rw [List.getElem?_eq_getElem (by omega : R.length - 1 < V.length), List.getElem?_eq_getElem (by omega : R.length - 1 < R.length)] at this ⊢
        exact this
    · have h1 : (!(dirF false (lnOf L p)).2 && run) = false := h
      rw [addLine, if_neg (by rw [h1]; simp)] at next hadd
      generalize hD : dirF false (lnOf L p) = dn at h1 next hadd ⊢
      have pz : (R ++ [(⟨dn.2, dn.1, lnOf L p⟩ : RowT)]).length ≤ k + 1 := by simp; omega
      refine x_via (σ := Option Addr × Nat) (fun (A', c') => ⟨[(7, .v (.bool dn.2)), (4, .p 1 0), (3, .p 0 0)], [],
          [(4, .gen Fr'), (0, .box 23 [.r 6]), (1, .box 4 [.v (.bool run)]), (6, .row 28 (rowY.d (V ++ [⟨dn.2, dn.1, A', (tokY.d (lnOf L p)).n, c'⟩]))), (3, .gen (starHp (itemsS V R ++ [⟨.slice A' (tokY.d (lnOf L p)).n c', 31, tokY.d (lnOf L p)⟩])))], 7⟩) (fun _ _ => True) (fun _ => (by decide : 6 ≤ 7)) ?_ ?_
      · refine x_drawA mix ?_
        refine xa_pures tt_ok (fuel := 6) [1, 2, 3] rfl (by kernel_rfl) (by kernel_rfl) (fun _ _ _ hh => hh) (by kernel_rfl) (by kernel_rfl) ?_
        refine xa_two 0 4 (by kernel_rfl) rfl rfl (xl_go tt_ok ?_) ?_
        · refine xa_chain (fuel := 0) [4, 5, 6, 7, 8] rfl rfl (by kernel_rfl) ?_
          refine xl_callO 31 (tokY.d (lnOf L p)) rfl rfl rfl rfl fn85 rfl rfl (fun E w F hs => clone_own _ _ w (hln.imm hs.imm) (by omega)) ?_
          refine xl_parkN 6 3 rfl rfl (fun A' c' => ?_)
          refine xl_go tt_ok ?_
          refine xl_build tt_ok rowY [⟨dn.2, dn.1, A', (tokY.d (lnOf L p)).n, c'⟩] [_] rfl rfl rfl rfl rfl rfl rfl rfl rfl rfl rfl rfl rfl rfl rfl ?_
          refine xl_append tt_ok rowY V [⟨dn.2, dn.1, A', (tokY.d (lnOf L p)).n, c'⟩] 48 rfl rfl rfl rfl rfl rfl rfl rfl (by kernel_rfl) rfl rfl rfl (fun E w F hs => hs.rowAt (k := 7) rfl) rowOne rfl (by simp only [List.length_singleton]; omega) (by simp only [List.length_singleton]; omega) ?_
          refine xl_go tt_ok ?_
          refine xa_done (by kernel_rfl) rfl ?_
          exact meet (A', c') [(6, some 8)] (.of rfl rfl rfl rfl rfl rfl) trivial
        · refine xl_callO 31 (tokY.d (lnOf L p)) rfl rfl rfl rfl fn85 rfl rfl (fun E w F hs => clone_own _ _ w (hln.imm hs.imm) (by omega)) ?_
          refine xl_parkN 6 3 rfl rfl (fun A' c' => ?_)
          refine xl_end ?_
          refine xa_two 0 5 (by kernel_rfl) rfl rfl (xl_go tt_ok ?_) (xl_go tt_ok ?_)
          · refine xa_chain (fuel := 0) [5, 6, 7, 8] rfl rfl (by kernel_rfl) ?_
            refine xl_go tt_ok ?_
            refine xl_build tt_ok rowY [⟨dn.2, dn.1, A', (tokY.d (lnOf L p)).n, c'⟩] [_] rfl rfl rfl rfl rfl rfl rfl rfl rfl rfl rfl rfl rfl rfl rfl ?_
            refine xl_append tt_ok rowY V [⟨dn.2, dn.1, A', (tokY.d (lnOf L p)).n, c'⟩] 48 rfl rfl rfl rfl rfl rfl rfl rfl (by kernel_rfl) rfl rfl rfl (fun E w F hs => hs.rowAt (k := 7) rfl) rowOne rfl (by simp only [List.length_singleton]; omega) (by simp only [List.length_singleton]; omega) ?_
            refine xl_go tt_ok ?_
            refine xa_done (by kernel_rfl) rfl ?_
            exact meet (A', c') [(6, some 8)] (.of rfl rfl rfl rfl rfl rfl) trivial
          · refine xa_two 0 6 (by kernel_rfl) rfl rfl (xl_go tt_ok ?_) ?_
            · refine xa_chain (fuel := 0) [6, 7, 8] rfl rfl (by kernel_rfl) ?_
              refine xl_build tt_ok rowY [⟨dn.2, dn.1, A', (tokY.d (lnOf L p)).n, c'⟩] [_] rfl rfl rfl rfl rfl rfl rfl rfl rfl rfl rfl rfl rfl rfl rfl ?_
              refine xl_append tt_ok rowY V [⟨dn.2, dn.1, A', (tokY.d (lnOf L p)).n, c'⟩] 48 rfl rfl rfl rfl rfl rfl rfl rfl (by kernel_rfl) rfl rfl rfl (fun E w F hs => hs.rowAt (k := 7) rfl) rowOne rfl (by simp only [List.length_singleton]; omega) (by simp only [List.length_singleton]; omega) ?_
              refine xl_go tt_ok ?_
              refine xa_done (by kernel_rfl) rfl ?_
              exact meet (A', c') [(6, some 8)] (.of rfl rfl rfl rfl rfl rfl) trivial
            · refine xl_build tt_ok rowY [⟨dn.2, dn.1, A', (tokY.d (lnOf L p)).n, c'⟩] [_] rfl rfl rfl rfl rfl rfl rfl rfl rfl rfl rfl rfl rfl rfl rfl ?_
              refine xl_end ?_
              refine xa_chain (fuel := 0) [0, 7, 8] rfl rfl (by kernel_rfl) ?_
              refine xl_go tt_ok ?_
              refine xl_append tt_ok rowY V [⟨dn.2, dn.1, A', (tokY.d (lnOf L p)).n, c'⟩] 48 rfl rfl rfl rfl rfl rfl rfl rfl (by kernel_rfl) rfl rfl rfl (fun E w F hs => hs.rowAt (k := 7) rfl) rowOne rfl (by simp only [List.length_singleton]; omega) (by simp only [List.length_singleton]; omega) ?_
              refine xl_go tt_ok ?_
              refine xa_done (by kernel_rfl) rfl ?_
              exact meet (A', c') [(6, some 8)] (.of rfl rfl rfl rfl rfl rfl) trivial
      · rintro ⟨A', c'⟩ u4 hu4 _
        refine ⟨(!dn.2, V ++ [⟨dn.2, dn.1, A', (tokY.d (lnOf L p)).n, c'⟩], R ++ [⟨dn.2, dn.1, lnOf L p⟩]), [(5, some 6)], ?_, next, ?_, by rw [nsum]; exact hadd.1, fun h => hadd.2.1 h, pz⟩
        · have e := itemsS_push hVR (⟨dn.2, dn.1, A', (tokY.d (lnOf L p)).n, c'⟩ : RowV) (⟨dn.2, dn.1, lnOf L p⟩ : RowT)
          simp only [e]
          exact .of rfl rfl rfl rfl rfl rfl
        · rw [List.map_append, List.map_append, g2]; rfl
  · obtain ⟨run, V, R⟩ := s
    obtain ⟨g1, g2, _⟩ := hg
    have e1 : ((pcs 0 0 L).map (pcV A c)).length = (linesOf L).length := by simp [linesOf]
    rw [e1, List.take_length] at g1
    have hVR : V.length = R.length := by have := congrArg List.length g2; simpa using this
    have hR : R = rowsOf L := by rw [rowsOf, g1]
    subst hR
    refine finStarO (k := 5) (ks := 3) rfl rfl (fun A' c' => ⟨(A', c', V), fun E hE => ?_, ?_, g2⟩)
    · show E 5 = _
      rw [hE, Lay.d_n, hVR]
    · rw [Lay.d_n, hVR]
end Go.Proofs.Ytdonomneofdhfaa
namespace Go.Proofs.Ytdonomneofdhfaa
open Go.GV Go.RowKit
def dirB : List Tok → ByteArray × Bool
  | [] => (⟨#[]⟩, false)
  | t :: r => if noHash t then (⟨#[]⟩, false) else match r with
    | [] => (⟨#[]⟩, true)
    | t2 :: _ => if t2.kind = 1 then (t2.text, true) else (⟨#[]⟩, true)
theorem dirF_true (dr : Bool) (L : List Tok) : dirF true L = (match bareFrom dr L with
    | [] => (⟨#[]⟩, true)
    | t2 :: _ => if t2.kind = 1 then (t2.text, true) else (⟨#[]⟩, true)) := by
  induction L generalizing dr with
  | nil => rfl
  | cons t r ih =>
    simp only [dirF, bareFrom]
    cases hg : gone t with
    | true => simp only [if_true]; exact ih true
    | false => simp
theorem dirF_bare (dr : Bool) (L : List Tok) : dirF false L = dirB (bareFrom dr L) := by
  induction L generalizing dr with
  | nil => rfl
  | cons t r ih =>
    simp only [dirF, bareFrom]
    cases hg : gone t with
    | true => simp only [if_true]; exact ih true
    | false =>
      simp only [Bool.false_eq_true, if_false, dirB, Bool.not_false, Bool.true_and, if_true]
      have : noHash { t with space := t.space || dr } = noHash t := rfl
      rw [this, dirF_true false]
end Go.Proofs.Ytdonomneofdhfaa
namespace Go.Proofs.Ytdonomneofdhfaa
open Go.GV Go.RowKit
set_option maxRecDepth 100000 in
theorem says_own (r : RowV) (t : List Tok) (w : World) (hx : SlAt (im w) r.toks (tokY.d t)) (hL : t.length * 48 ≤ 140737488355328) :
    Calls Try.prog 26 #[.agg #[.bool r.dir, .string r.name, .slice r.ta r.tn r.tc]] w (PureP w fun v u => OwnAt u v 31 (tokY.d (saysV r t))) := by
  have hb := bareFrom_le false t
  refine x_fun tt_ok Try.func26 rfl rfl [] 0 [.v (.agg #[.bool r.dir, .string r.name, .slice r.ta r.tn r.tc])] rfl rfl rfl rfl (fun b hb => by cases hb) ?_
  refine x_vc tt_ok ?_
  refine xl_callO 31 (tokY.d (bareFrom false t)) rfl rfl rfl rfl fn46 rfl rfl (fun E w F hs => bare_any t _ w (hx.imm hs.imm) hL) ?_
  refine xl_go tt_ok ?_
  refine x_if (fun h => ?_) (fun h => ?_)
  · have h' : r.dir = false := by simpa using h
    have e : saysV r t = bareFrom false t := by simp [saysV, h']
    rw [e]
    exact finO (k := 1) rfl
  · have h' : r.dir = true := by simpa using h
    have key : ∀ k : Nat, (k = if r.name = ⟨#[]⟩ then 1 else 2) → saysV r t = (bareFrom false t).drop (if ((bareFrom false t).length : Int) < (k : Int) then ((bareFrom false t).length : Int) else (k : Int)).toNat := by
      intro k hk
      simp only [saysV, h', if_true, ← hk]
      split
      · rw [List.drop_eq_nil_of_le (by omega), List.drop_eq_nil_of_le (by omega)]
      · rfl
    refine x_if (fun h2 => ?_) (fun h2 => ?_)
    · have h2' : ¬ r.name = ⟨#[]⟩ := of_decide_eq_true h2
      have e := key 2 (by rw [if_neg h2'])
      refine xl_freeze 1 rfl (fun A c u2 hu2 hb1 => ?_)
      refine xl_min rfl rfl rfl rfl rfl rfl ?_
      refine xl_go tt_ok ?_
      refine xl_from tt_ok tokY (bareFrom false t) rfl rfl rfl rfl rfl rfl rfl rfl rfl rfl (fun E w F hs => hb1) ?_ ?_ (fun A2 c2 hb2 => ?_)
      · show (0 : Int) ≤ if ((bareFrom false t).length : Int) < 2 then ((bareFrom false t).length : Int) else 2
        split <;> omega
      · show (if ((bareFrom false t).length : Int) < 2 then ((bareFrom false t).length : Int) else 2) ≤ ((bareFrom false t).length : Int)
        split <;> omega
      refine xl_go tt_ok ?_
      refine xl_callO 31 (tokY.d (saysV r t)) rfl rfl rfl rfl fn85 rfl rfl (fun E w F hs => by rw [e]; exact clone_own _ _ w (hb2.imm hs.imm) (by rw [List.length_drop]; omega)) ?_
      refine xl_go tt_ok ?_
      exact finO (k := 2) rfl
    · have h2' : r.name = ⟨#[]⟩ := by
        have : ¬ ¬ r.name = ⟨#[]⟩ := of_decide_eq_false h2
        exact Classical.not_not.1 this
      have e := key 1 (by rw [if_pos h2'])
      refine xl_freeze 1 rfl (fun A c u2 hu2 hb1 => ?_)
      refine xl_min rfl rfl rfl rfl rfl rfl ?_
      refine xl_go tt_ok ?_
      refine xl_from tt_ok tokY (bareFrom false t) rfl rfl rfl rfl rfl rfl rfl rfl rfl rfl (fun E w F hs => hb1) ?_ ?_ (fun A2 c2 hb2 => ?_)
      · show (0 : Int) ≤ if ((bareFrom false t).length : Int) < 1 then ((bareFrom false t).length : Int) else 1
        split <;> omega
      · show (if ((bareFrom false t).length : Int) < 1 then ((bareFrom false t).length : Int) else 1) ≤ ((bareFrom false t).length : Int)
        split <;> omega
      refine xl_go tt_ok ?_
      refine xl_callO 31 (tokY.d (saysV r t)) rfl rfl rfl rfl fn85 rfl rfl (fun E w F hs => by rw [e]; exact clone_own _ _ w (hb2.imm hs.imm) (by rw [List.length_drop]; omega)) ?_
      refine xl_go tt_ok ?_
      exact finO (k := 2) rfl
theorem fold_size : ∀ (ls : List (List Tok)) (s : List RowT × Bool), (s.2 = true → s.1 ≠ []) → sizeR (ls.foldl addLine s).1 = sizeR s.1 + (ls.map List.length).sum ∧ (ls.foldl addLine s).1.length ≤ s.1.length + ls.length
  | [], s, _ => by simp
  | l :: ls, s, h => by
    have h1 := addLine_size s l h
    have h2 := fold_size ls (addLine s l) h1.2.1
    simp only [List.foldl_cons, List.map_cons, List.sum_cons, List.length_cons]
    omega
theorem rowsOf_size (L : List Tok) : sizeR (rowsOf L) = L.length ∧ (rowsOf L).length ≤ L.length := by
  have h := fold_size (linesOf L) ([], false) (fun h => by cases h)
  have h1 := pcs_sum L L 0 0 (Nat.le_refl _) (by omega)
  have h2 := pcs_len L 0 0 (Nat.le_refl _)
  simp only [rowsOf]
  rw [h.1]
  have h3 : ((linesOf L).map List.length).sum = L.length := by rw [linesOf, h1]; omega
  have h4 : (linesOf L).length = (pcs 0 0 L).length := by simp [linesOf]
  refine ⟨by rw [h3]; simp [sizeR], ?_⟩
  have := h.2
  simp only [List.length_nil] at this
  omega
theorem ts_size {R : List RowT} (i : Nat) : (R.getD i rowT0).ts.length ≤ sizeR R := by
  rcases Nat.lt_or_ge i R.length with h | h
  · exact getD_size h
  · rw [List.getD_eq_getElem?_getD, List.getElem?_eq_none h]; exact Nat.zero_le _
theorem tsD (R : List RowT) (i : Nat) : (R.map RowT.ts).getD i [] = (R.getD i rowT0).ts := by
  simp only [List.getD_eq_getElem?_getD, List.getElem?_map]
  cases R[i]? <;> rfl
theorem star_toks {u : Im} {V : List RowV} {R : List RowT} (hl : V.length = R.length) (h : ∀ p ∈ itemsS V R, SlAt u p.x p.D) : ToksAt u V (R.map RowT.ts) := by
  refine ⟨by simp [hl], fun i hi => ?_⟩
  rw [tsD]
  exact h _ (List.mem_of_getElem? (itemsS_get hi (by omega)))
end Go.Proofs.Ytdonomneofdhfaa
namespace Go.Proofs.Ytdonomneofdhfaa
open Go.GV Go.RowKit
theorem says_len (r : RowV) (t : List Tok) : (saysV r t).length ≤ t.length := by
  have := bareFrom_le false t
  unfold saysV
  split
  · rw [List.length_drop]; omega
  · exact this
end Go.Proofs.Ytdonomneofdhfaa
namespace Go.Proofs.Ytdonomneofdhfaa
open Go.GV Go.RowKit
def saysT (r : RowT) : List Tok := saysV ⟨r.dir, r.name, none, 0, 0⟩ r.ts
theorem keyT_at {V : List RowV} {R : List RowT} (hk : V.map RowV.key = R.map RowT.key) (i : Nat) : (V.getD i row0).dir = (R.getD i rowT0).dir ∧ (V.getD i row0).name = (R.getD i rowT0).name := by
  have h1 := congrArg (fun l => l[i]?) hk
  simp only [List.getElem?_map] at h1
  simp only [List.getD_eq_getElem?_getD]
  cases h3 : V[i]? with
  | none =>
    rw [h3] at h1
    cases h4 : R[i]? with
    | none => exact ⟨rfl, rfl⟩
    | some r => rw [h4] at h1; cases h1
  | some v =>
    rw [h3] at h1
    cases h4 : R[i]? with
    | none => rw [h4] at h1; cases h1
    | some r =>
      rw [h4] at h1
      simp only [Option.map_some, Option.some.injEq, RowV.key, RowT.key, Prod.mk.injEq] at h1
      exact h1
end Go.Proofs.Ytdonomneofdhfaa
namespace Go.Proofs.Ytdonomneofdhfaa
open Go.GV Go.RowKit
theorem tks_tx (C : List Chr) (l : ByteArray) (hl : l.size ≤ 65536) : ∀ (xs : List Lx.Tk) (n : Int), ∀ t ∈ tks C l n xs, t.text.size ≤ 65536
  | [], _, t, h => by simp [tks] at h
  | x :: r, n, t, h => by
    simp only [tks, List.mem_cons] at h
    rcases h with rfl | h
    · have := sub_le l x.lo x.hi
      simp only
      omega
    · exact tks_tx C l hl r x.hi t h
theorem scanT_tx (s : ByteArray) : ∀ t ∈ scanT s, t.text.size ≤ 65536 := by
  by_cases h : scanE s = 0
  · obtain ⟨_, _, e3, e4⟩ := scanE_zero h
    rw [e3]
    exact tks_tx _ _ e4 _ _
  · rw [scanT, if_neg h]
    intro t ht; cases ht
def txR (R : List RowT) : Prop := ∀ r ∈ R, ∀ t ∈ r.ts, t.text.size ≤ 65536
theorem txR_at {R : List RowT} (h : txR R) (i : Nat) : ∀ t ∈ (R.getD i rowT0).ts, t.text.size ≤ 65536 := by
  rw [List.getD_eq_getElem?_getD]
  rcases Nat.lt_or_ge i R.length with hi | hi
  · rw [List.getElem?_eq_getElem hi]; exact h _ (List.getElem_mem hi)
  · rw [List.getElem?_eq_none hi]; intro t ht; cases ht
theorem addLine_tx {s : List RowT × Bool} {line : List Tok} (h : txR s.1) (hl : ∀ t ∈ line, t.text.size ≤ 65536) : txR (addLine s line).1 := by
  unfold addLine
  split
  · intro r hr t ht
    rcases List.mem_or_eq_of_mem_set hr with hr | rfl
    · exact h r hr t ht
    · rcases List.mem_append.1 ht with ht | ht
      · exact txR_at h _ t ht
      · exact hl t ht
  · intro r hr t ht
    rcases List.mem_append.1 hr with hr | hr
    · exact h r hr t ht
    · rw [List.mem_singleton.1 hr] at ht
      exact hl t ht
theorem fold_tx : ∀ (ls : List (List Tok)) (s : List RowT × Bool), txR s.1 → (∀ l ∈ ls, ∀ t ∈ l, t.text.size ≤ 65536) → txR (ls.foldl addLine s).1
  | [], s, h, _ => h
  | l :: ls, s, h, hl => fold_tx ls (addLine s l) (addLine_tx h (hl l (List.mem_cons_self ..))) (fun l' h' => hl l' (List.mem_cons_of_mem _ h'))
theorem rows_tx {L : List Tok} (h : ∀ t ∈ L, t.text.size ≤ 65536) : txR (rowsOf L) :=
  fold_tx _ _ (fun r hr => by cases hr) (fun l hl t ht => by
    obtain ⟨p, _, rfl⟩ := List.mem_map.1 hl
    exact h t (List.mem_of_mem_take (List.mem_of_mem_drop ht)))
theorem bare_tx : ∀ (L : List Tok) (dr : Bool), (∀ t ∈ L, t.text.size ≤ 65536) → ∀ t ∈ bareFrom dr L, t.text.size ≤ 65536
  | [], _, _, t, ht => by cases ht
  | x :: r, dr, h, t, ht => by
    unfold bareFrom at ht
    split at ht
    · exact bare_tx r true (fun y hy => h y (List.mem_cons_of_mem _ hy)) t ht
    · rcases List.mem_cons.1 ht with rfl | ht
      · exact h x (List.mem_cons_self ..)
      · exact bare_tx r false (fun y hy => h y (List.mem_cons_of_mem _ hy)) t ht
theorem says_tx {r : RowV} {L : List Tok} (h : ∀ t ∈ L, t.text.size ≤ 65536) : ∀ t ∈ saysV r L, t.text.size ≤ 65536 := by
  unfold saysV
  split
  · exact fun t ht => bare_tx L false h t (List.mem_of_mem_drop ht)
  · exact bare_tx L false h
def rowsS (s : ByteArray) : List RowT := rowsOf (scanT s)
def bodyOf (s : ByteArray) : List Tok := saysT ((rowsS s).getD 0 rowT0)
def definedR (s : ByteArray) : MT × Int := if (decide (scanE s ≠ 0) || decide (((rowsS s).length : Int) ≠ 1)) = true then (m0, 3) else defR (bodyOf s)
theorem defNoN (e : Int) (u : Im) : DefR (m0, e) (.tuple #[mVal m0 (none, 0, none, 0), .int .i64 e]) u := ⟨(none, 0, none, 0), rfl, mStar_nil u, trivial⟩
theorem bodyOf_tx (s : ByteArray) : ∀ t ∈ bodyOf s, t.text.size ≤ 65536 := says_tx (txR_at (rows_tx (scanT_tx s)) 0)
set_option maxHeartbeats 2000000 in
set_option maxRecDepth 100000 in
theorem defined_any (s : ByteArray) (w : World) (hs : s.size ≤ 9223372036854775807) (hg : Glob (im w)) : Calls Try.prog 79 #[.string s] w (PureP w (DefR (definedR s))) := by
  have hl := scanT_len s
  have hbt := bodyOf_tx s
  refine x_fun tt_ok Try.func79 rfl rfl [] 0 [.v (.string s)] rfl rfl rfl rfl (fun b hb => by cases hb) ?_
  refine x_vc tt_ok ?_
  refine xl_callO2 31 (tokY.d (scanT s)) [.int .i64 (scanE s)] rfl rfl rfl rfl fn41 rfl rfl (fun E w F hs' => scan_any s w hs (hg.imm hs'.imm)) ?_
  refine xl_go tt_ok ?_
  obtain ⟨R, hR⟩ : ∃ R, R = rowsS s := ⟨_, rfl⟩
  have hRl : R.length ≤ 65537 := by rw [hR]; have := (rowsOf_size (scanT s)).2; unfold rowsS; omega
  unfold definedR
  rw [← hR]
  refine xl_callStar (fun (s : Option Addr × Nat × List RowV) => .slice s.1 R.length s.2.1) (fun s => itemsS s.2.2 R ++ [(⟨.slice s.1 R.length s.2.1, 28, rowY.d s.2.2⟩ : SI)]) (fun s => s.2.2.map RowV.key = R.map RowT.key) rfl rfl rfl rfl fn23 rfl rfl
    (fun E w F hs => by
      have h1 := hs.rowAt (k := 1) rfl
      obtain ⟨A, c, hv⟩ := h1.form
      show Calls Try.prog 23 #[E 1] w _
      rw [hv] at h1 ⊢
      rw [hR]
      exact rows_any (scanT s) A c w h1 (by omega)) (fun s' hk => ?_)
  obtain ⟨A, cc, V⟩ := s'
  replace hk : V.map RowV.key = R.map RowT.key := hk
  have hVR : V.length = R.length := by have := congrArg List.length hk; simpa using this
  refine xl_freezeStar 2 (sl := itemsS V R ++ [(⟨.slice A R.length cc, 28, rowY.d V⟩ : SI)]) rfl (fun u1 hu1 hfr => ?_)
  refine xl_sl 13 (x := .slice A R.length cc) (D := rowY.d V) rfl (hfr _ (List.mem_append_right _ (List.mem_singleton.2 rfl))).1 ?_
  have hT := star_toks hVR (fun p hp => (hfr p (List.mem_append_left _ hp)).1)
  refine xl_go tt_ok ?_
  refine x_if (fun h => ?_) (fun h => ?_)
  · have h : (decide (scanE s ≠ 0) || decide ((V.length : Int) ≠ 1)) = true := h
    rw [hVR] at h
    rw [if_pos h]
    exact finP (fun E w' F hs hu => defNoN 3 _)
  · have h : (decide (scanE s ≠ 0) || decide ((V.length : Int) ≠ 1)) = false := h
    rw [hVR] at h
    rw [if_neg (by rw [h]; simp)]
    have hR1 : 0 < V.length := by
      rw [Bool.or_eq_false_iff] at h
      have := of_decide_eq_false h.2
      omega
    repeat (refine And.intro ?_ ?_; first | omega | (simp only [Lay.d_n]; omega) | (simp only [decide_eq_true_eq, decide_eq_false_iff_not, Bool.or_eq_false_iff, Bool.and_eq_true, Bool.or_eq_true, Bool.and_eq_false_iff, Bool.not_eq_true', Bool.not_eq_false', Lay.d_n]; omega) | (simp only [decide_eq_true_eq, decide_eq_false_iff_not, Bool.or_eq_false_iff, Bool.and_eq_true, Bool.or_eq_true, Bool.and_eq_false_iff, Bool.not_eq_true', Bool.not_eq_false']; omega) | (simp only [decide_eq_true_eq, decide_eq_false_iff_not, Bool.or_eq_false_iff]; simp only [Lay.d_n]; omega))
    have hsz : ((R.map RowT.ts).getD 0 []).length ≤ 65537 := by
      rw [tsD]
      have h1 := ts_size (R := R) 0
      rw [hR, rowsS, (rowsOf_size (scanT s)).1] at h1
      rw [hR, rowsS]; omega
    have hsv : saysV (V.getD 0 row0) ((R.map RowT.ts).getD 0 []) = bodyOf s := by
      have := keyT_at hk 0
      rw [tsD]
      unfold bodyOf saysT saysV
      rw [this.1, this.2, hR]
    have hbl : (bodyOf s).length ≤ 65537 := by
      have := says_len (V.getD 0 row0) ((R.map RowT.ts).getD 0 [])
      rw [hsv] at this; omega
    refine xl_callO 31 (tokY.d (bodyOf s)) rfl rfl rfl rfl fn26 rfl rfl (fun E w F hs => by
      have := says_own (V.getD 0 row0) ((R.map RowT.ts).getD 0 []) w ((hT.2 0 hR1).imm hs.imm) (by omega)
      rw [hsv] at this
      exact this) ?_
    refine xl_go tt_ok ?_
    obtain ⟨r, hr⟩ : ∃ r, r = defR (bodyOf s) := ⟨_, rfl⟩
    rw [← hr]
    refine xl_callStar (fun s : MA => .tuple #[mVal r.1 s, .int .i64 r.2]) (fun s => mStar r.1 s) (fun _ => True) rfl rfl rfl rfl fn29 rfl rfl
      (fun E w F hs => by
        have h1 := hs.rowAt (k := 4) rfl
        obtain ⟨A, c, hv⟩ := h1.form
        show Calls Try.prog 29 #[E 4] w _
        rw [hv] at h1 ⊢
        rw [hr]
        exact define_any (bodyOf s) A c w h1 (by omega) (fun t ht => Nat.le_trans (hbt t ht) (by decide))) (fun sm _ => ?_)
    refine xl_go tt_ok ?_
    exact finStar (k := 5) sm rfl (fun _ => rfl) trivial
end Go.Proofs.Ytdonomneofdhfaa
namespace Go.Proofs.Ytdonomneofdhfaa
open Go.GV Go.RowKit
theorem eq_take_step {α : Type} {L M : List α} {i : Nat} (d : α) (hl : L.length = M.length) (hi : i < L.length) (h : L.take i = M.take i) : L.take (i + 1) = M.take (i + 1) ↔ L.getD i d = M.getD i d := by
  rw [take_get (List.getElem?_eq_getElem hi), take_get (List.getElem?_eq_getElem (show i < M.length by omega)), h, List.append_cancel_left_eq]
  simp [List.getD_eq_getElem?_getD, List.getElem?_eq_getElem hi, List.getElem?_eq_getElem (show i < M.length by omega)]
theorem ne_of_get {α : Type} {L M : List α} {i : Nat} {d : α} (h : L.getD i d ≠ M.getD i d) : L ≠ M := fun e => h (by rw [e])
set_option maxRecDepth 100000 in
theorem equalS_any (L M : List ByteArray) (x y : Value) (w : World) (hx : SlAt (im w) x (strY.d L)) (hy : SlAt (im w) y (strY.d M)) (hL : L.length ≤ 9223372036854775806) :
    Calls Try.prog 97 #[x, y] w (PureP w fun v _ => v = .bool (decide (L = M))) := by
  refine x_fun tt_ok Try.func97 rfl rfl [(x, strY.d L), (y, strY.d M)] 2 [.r 0, .r 1] rfl rfl rfl rfl (fun b hb => by simp at hb; rcases hb with rfl | rfl <;> assumption) ?_
  refine x_vc tt_ok ?_
  refine x_if (fun h => ?_) (fun h => ?_)
  · have h : (L.length : Int) ≠ M.length := of_decide_eq_true h
    refine fin1 (fun _ _ => ?_)
    rw [decide_eq_false (fun e => h (by rw [e]))]; rfl
  · have h : (L.length : Int) = M.length := Classical.not_not.1 (of_decide_eq_false h)
    refine x_loop (σ := Int) (fun i => ⟨[(13, .v (.int .i64 i)), (12, .v (.int .i64 L.length)), (1, .r 1), (0, .r 0)], [], [(0, .sl (strY.d L)), (1, .sl (strY.d M))], 2⟩)
      (fun i _ => 0 ≤ i ∧ i ≤ L.length ∧ L.take i.toNat = M.take i.toNat) (fun i => (L.length - i).toNat) (fun _ => Nat.le_refl _) 0 [] (.of rfl rfl rfl rfl rfl rfl) ⟨by omega, by omega, rfl⟩ ?_
    rintro i u hu ⟨g1, g2, g3⟩
    refine x_vc tt_ok ?_
    refine x_if (fun h2 => ?_) (fun h2 => ?_)
    · have h2 : i < L.length := of_decide_eq_true h2
      refine x_draw mix (by kernel_rfl) (xd_go tt_ok ?_)
      repeat (refine And.intro ?_ ?_; first | omega | (simp only [Lay.d_n]; omega) | (simp only [decide_eq_true_eq, decide_eq_false_iff_not, Bool.or_eq_false_iff, Bool.and_eq_true, Bool.or_eq_true, Bool.and_eq_false_iff, Bool.not_eq_true', Bool.not_eq_false', Lay.d_n]; omega) | (simp only [decide_eq_true_eq, decide_eq_false_iff_not, Bool.or_eq_false_iff, Bool.and_eq_true, Bool.or_eq_true, Bool.and_eq_false_iff, Bool.not_eq_true', Bool.not_eq_false']; omega) | (simp only [decide_eq_true_eq, decide_eq_false_iff_not, Bool.or_eq_false_iff]; simp only [Lay.d_n]; omega))
      refine x_if (fun h3 => ?_) (fun h3 => ?_)
      · have h3 : L.getD i.toNat ⟨#[]⟩ ≠ M.getD i.toNat ⟨#[]⟩ := of_decide_eq_true h3
        refine fin1 (fun _ _ => ?_)
        rw [decide_eq_false (ne_of_get h3)]; rfl
      · have h3 : L.getD i.toNat ⟨#[]⟩ = M.getD i.toNat ⟨#[]⟩ := Classical.not_not.1 (of_decide_eq_false h3)
        repeat (refine And.intro ?_ ?_; first | omega | (simp only [Lay.d_n]; omega) | (simp only [decide_eq_true_eq, decide_eq_false_iff_not, Bool.or_eq_false_iff, Bool.and_eq_true, Bool.or_eq_true, Bool.and_eq_false_iff, Bool.not_eq_true', Bool.not_eq_false', Lay.d_n]; omega) | (simp only [decide_eq_true_eq, decide_eq_false_iff_not, Bool.or_eq_false_iff, Bool.and_eq_true, Bool.or_eq_true, Bool.and_eq_false_iff, Bool.not_eq_true', Bool.not_eq_false']; omega) | (simp only [decide_eq_true_eq, decide_eq_false_iff_not, Bool.or_eq_false_iff]; simp only [Lay.d_n]; omega))
        refine again (i + 1) [] (.of rfl rfl rfl rfl rfl rfl) ⟨by omega, by omega, ?_⟩ (by omega)
        rw [show (i + 1).toNat = i.toNat + 1 by omega]
        exact (eq_take_step _ (by omega) (by omega) g3).2 h3
    · have h2 : ¬ i < L.length := of_decide_eq_false h2
      rw [List.take_of_length_le (by omega), List.take_of_length_le (by omega)] at g3
      refine fin1 (fun _ _ => ?_)
      rw [decide_eq_true g3]; rfl
structure PK where
  kind : Int
  text : ByteArray
  space : Bool
  parts : List ByteArray
  deriving DecidableEq
def pk0 : PK := ⟨0, ⟨#[]⟩, false, []⟩
def PK.of (t : PV) (p : List ByteArray) : PK := ⟨t.kind, t.text, t.space, p⟩
def keysOf (L : List PV) (T : List (List ByteArray)) : List PK := List.zipWith PK.of L T
def PV.prt (t : PV) : Value := .slice t.pa t.pn t.pc
def PartsAt (u : Im) (L : List PV) (T : List (List ByteArray)) : Prop := L.length = T.length ∧ ∀ i, i < L.length → SlAt u (L.getD i pv0).prt (strY.d (T.getD i []))
def prtSm (T : List (List ByteArray)) : Prop := ∀ i : Nat, (T.getD i []).length ≤ 9223372036854775806
theorem keys_len {L : List PV} {T : List (List ByteArray)} (h : L.length = T.length) : (keysOf L T).length = L.length := by
  unfold keysOf
  rw [List.length_zipWith]; omega
theorem keys_get {L : List PV} {T : List (List ByteArray)} (h : L.length = T.length) {i : Nat} (hi : i < L.length) : (keysOf L T).getD i pk0 = PK.of (L.getD i pv0) (T.getD i []) := by
  unfold keysOf
  simp [List.getD_eq_getElem?_getD, List.getElem?_zipWith, List.getElem?_eq_getElem hi, List.getElem?_eq_getElem (show i < T.length by omega)]
theorem pk_eq (t t' : PV) (p p' : List ByteArray) : (((decide (t.kind = t'.kind) && decide (t.text = t'.text)) && decide (t.space = t'.space)) && decide (p = p')) = decide (PK.of t p = PK.of t' p') := by
  unfold PK.of
  simp only [PK.mk.injEq]
  by_cases e1 : t.kind = t'.kind <;> by_cases e2 : t.text = t'.text <;> by_cases e3 : t.space = t'.space <;> by_cases e4 : p = p' <;> simp [e1, e2, e3, e4]
def PV.val (t : PV) : Value := .agg #[.int .i64 t.kind, .string t.text, .bool t.space, t.prt]
set_option maxRecDepth 100000 in
theorem same1_any (t t' : PV) (p p' : List ByteArray) (w : World) (hp : SlAt (im w) t.prt (strY.d p)) (hp' : SlAt (im w) t'.prt (strY.d p')) (hz : p.length ≤ 9223372036854775806) :
    Calls Try.prog 99 #[t.val, t'.val] w (PureP w fun v _ => v = .bool (decide (PK.of t p = PK.of t' p'))) := by
  refine x_fun tt_ok Try.func99 rfl rfl [] 0 [.v t.val, .v t'.val] rfl rfl rfl rfl (fun b hb => by cases hb) ?_
  refine x_vc tt_ok ?_
  refine xl_gcall0 (.bool (decide (p = p'))) rfl rfl rfl rfl fn97 rfl rfl (fun _ E w F hs => equalS_any p p' _ _ w (hp.imm hs.imm) (hp'.imm hs.imm) hz) ?_
  refine xl_go tt_ok ?_
  refine fin1 (fun _ _ => ?_)
  rw [← pk_eq]; rfl
end Go.Proofs.Ytdonomneofdhfaa
namespace Go.Proofs.Ytdonomneofdhfaa
open Go.GV Go.RowKit
set_option maxHeartbeats 1000000 in
set_option maxRecDepth 100000 in
theorem equalF_any (L M : List PV) (T S : List (List ByteArray)) (x y : Value) (w : World) (hx : SlAt (im w) x (pvY.d L)) (hy : SlAt (im w) y (pvY.d M)) (hT : PartsAt (im w) L T) (hS : PartsAt (im w) M S) (zT : prtSm T)
    (hL : L.length ≤ 9223372036854775806) : Calls Try.prog 98 #[x, y, .func (.func 99) #[] #[]] w (PureP w fun v _ => v = .bool (decide (keysOf L T = keysOf M S))) := by
  refine x_fun tt_ok Try.func98 rfl rfl [(x, pvY.d L), (y, pvY.d M)] 2 [.r 0, .r 1, .v (.func (.func 99) #[] #[])] rfl rfl rfl rfl (fun b hb => by simp at hb; rcases hb with rfl | rfl <;> assumption) ?_
  refine x_vc tt_ok ?_
  have kl := keys_len hT.1
  have km := keys_len hS.1
  refine x_if (fun h => ?_) (fun h => ?_)
  · have h : (L.length : Int) ≠ M.length := of_decide_eq_true h
    refine fin1 (fun _ _ => ?_)
    rw [decide_eq_false (fun e => h (by rw [← kl, ← km, e]))]; rfl
  · have h : (L.length : Int) = M.length := Classical.not_not.1 (of_decide_eq_false h)
    refine x_loop (σ := Int) (fun i => ⟨[(17, .v (.int .i64 i)), (16, .v (.int .i64 L.length)), (15, .r 0), (2, .v (.func (.func 99) #[] #[])), (1, .r 1)], [], [(0, .sl (pvY.d L)), (1, .sl (pvY.d M))], 2⟩)
      (fun i _ => 0 ≤ i ∧ i ≤ L.length ∧ (keysOf L T).take i.toNat = (keysOf M S).take i.toNat) (fun i => (L.length - i).toNat) (fun _ => Nat.le_refl _) 0 [] (.of rfl rfl rfl rfl rfl rfl) ⟨by omega, by omega, rfl⟩ ?_
    rintro i u hu ⟨g1, g2, g3⟩
    refine x_vc tt_ok ?_
    refine x_if (fun h2 => ?_) (fun h2 => ?_)
    · have h2 : i < L.length := of_decide_eq_true h2
      have gl := keys_get hT.1 (i := i.toNat) (by omega)
      have gm := keys_get hS.1 (i := i.toNat) (by omega)
      repeat (refine And.intro ?_ ?_; first | omega | (simp only [Lay.d_n]; omega) | (simp only [decide_eq_true_eq, decide_eq_false_iff_not, Bool.or_eq_false_iff, Bool.and_eq_true, Bool.or_eq_true, Bool.and_eq_false_iff, Bool.not_eq_true', Bool.not_eq_false', Lay.d_n]; omega) | (simp only [decide_eq_true_eq, decide_eq_false_iff_not, Bool.or_eq_false_iff, Bool.and_eq_true, Bool.or_eq_true, Bool.and_eq_false_iff, Bool.not_eq_true', Bool.not_eq_false']; omega) | (simp only [decide_eq_true_eq, decide_eq_false_iff_not, Bool.or_eq_false_iff]; simp only [Lay.d_n]; omega))
      refine xl_call0 (.bool (decide (PK.of (L.getD i.toNat pv0) (T.getD i.toNat []) = PK.of (M.getD i.toNat pv0) (S.getD i.toNat [])))) rfl rfl rfl rfl fn99 rfl rfl
        (fun E w F hs => same1_any (L.getD i.toNat pv0) (M.getD i.toNat pv0) _ _ w (((hT.2 i.toNat (by omega)).le hu).imm hs.imm) (((hS.2 i.toNat (by omega)).le hu).imm hs.imm) (zT _)) ?_
      refine xl_go tt_ok ?_
      rw [← gl, ← gm]
      refine x_if (fun h3 => ?_) (fun h3 => ?_)
      · have h3 : (!decide ((keysOf L T).getD i.toNat pk0 = (keysOf M S).getD i.toNat pk0)) = true := h3
        have h4 : (keysOf L T).getD i.toNat pk0 ≠ (keysOf M S).getD i.toNat pk0 := by
          rw [Bool.not_eq_true', decide_eq_false_iff_not] at h3; exact h3
        refine fin1 (fun _ _ => ?_)
        rw [decide_eq_false (ne_of_get h4)]; rfl
      · have h3 : (!decide ((keysOf L T).getD i.toNat pk0 = (keysOf M S).getD i.toNat pk0)) = false := h3
        have h4 : (keysOf L T).getD i.toNat pk0 = (keysOf M S).getD i.toNat pk0 := by
          rw [Bool.not_eq_false', decide_eq_true_eq] at h3; exact h3
        repeat (refine And.intro ?_ ?_; first | omega | (simp only [Lay.d_n]; omega) | (simp only [decide_eq_true_eq, decide_eq_false_iff_not, Bool.or_eq_false_iff, Bool.and_eq_true, Bool.or_eq_true, Bool.and_eq_false_iff, Bool.not_eq_true', Bool.not_eq_false', Lay.d_n]; omega) | (simp only [decide_eq_true_eq, decide_eq_false_iff_not, Bool.or_eq_false_iff, Bool.and_eq_true, Bool.or_eq_true, Bool.and_eq_false_iff, Bool.not_eq_true', Bool.not_eq_false']; omega) | (simp only [decide_eq_true_eq, decide_eq_false_iff_not, Bool.or_eq_false_iff]; simp only [Lay.d_n]; omega))
        refine again (i + 1) [] (.of rfl rfl rfl rfl rfl rfl) ⟨by omega, by omega, ?_⟩ (by omega)
        rw [show (i + 1).toNat = i.toNat + 1 by omega]
        exact (eq_take_step _ (by omega) (by omega) g3).2 h4
    · have h2 : ¬ i < L.length := of_decide_eq_false h2
      rw [List.take_of_length_le (by omega), List.take_of_length_le (by omega)] at g3
      refine fin1 (fun _ _ => ?_)
      rw [decide_eq_true g3]; rfl
def mSame (a b : MT) (T S : List (List ByteArray)) : Bool := (((decide (a.name = b.name) && decide (a.fn = b.fn)) && decide (a.va = b.va)) && decide (a.ps = b.ps)) && decide (keysOf a.body T = keysOf b.body S)
structure MAt (u : Im) (m : MT) (T : List (List ByteArray)) (s : MA) : Prop where
  ps : SlAt u (.slice s.1 m.ps.length s.2.1) (strY.d m.ps)
  body : SlAt u (.slice s.2.2.1 m.body.length s.2.2.2) (pvY.d m.body)
  parts : PartsAt u m.body T
  z1 : m.ps.length ≤ 9223372036854775806
  z2 : m.body.length ≤ 9223372036854775806
  z3 : prtSm T
theorem PartsAt.imm {u : Im} {L : List PV} {T : List (List ByteArray)} {w : World} (h : PartsAt u L T) (hi : Imm u w) : PartsAt (im w) L T := ⟨h.1, fun i hi' => (h.2 i hi').imm hi⟩
theorem PartsAt.sub {u u' : Im} {L : List PV} {T : List (List ByteArray)} (h : PartsAt u L T) (hi : u.sub u') : PartsAt u' L T := ⟨h.1, fun i hi' => (h.2 i hi').sub hi⟩
theorem MAt.imm {u : Im} {m : MT} {T : List (List ByteArray)} {s : MA} {w : World} (h : MAt u m T s) (hi : Imm u w) : MAt (im w) m T s := ⟨h.ps.imm hi, h.body.imm hi, h.parts.imm hi, h.z1, h.z2, h.z3⟩
theorem MAt.le {u u' : Im} {m : MT} {T : List (List ByteArray)} {s : MA} (h : MAt u m T s) (hi : u.le u') : MAt u' m T s := ⟨h.ps.le hi, h.body.le hi, h.parts.sub hi.sub, h.z1, h.z2, h.z3⟩
set_option maxRecDepth 100000 in
theorem macroSame_any (a b : MT) (T S : List (List ByteArray)) (s s' : MA) (w : World) (ha : MAt (im w) a T s) (hb : MAt (im w) b S s') :
    Calls Try.prog 33 #[mVal a s, mVal b s'] w (PureP w fun v _ => v = .bool (mSame a b T S)) := by
  refine x_fun tt_ok Try.func33 rfl rfl [] 0 [.v (mVal a s), .v (mVal b s')] rfl rfl rfl rfl (fun b hb => by cases hb) ?_
  refine x_vc tt_ok ?_
  refine xl_gcall0 (.bool (decide (a.ps = b.ps))) rfl rfl rfl rfl fn97 rfl rfl (fun _ E w F hs => equalS_any a.ps b.ps _ _ w (ha.ps.imm hs.imm) (hb.ps.imm hs.imm) ha.z1) ?_
  refine xl_go tt_ok ?_
  refine xl_gcall0 (.bool (decide (keysOf a.body T = keysOf b.body S))) rfl rfl rfl rfl fn98 rfl rfl (fun _ E w F hs => equalF_any a.body b.body T S _ _ w (ha.body.imm hs.imm) (hb.body.imm hs.imm) (ha.parts.imm hs.imm) (hb.parts.imm hs.imm) ha.z3 ha.z2) ?_
  refine xl_go tt_ok ?_
  exact fin1 (fun _ _ => rfl)
end Go.Proofs.Ytdonomneofdhfaa
namespace Go.Proofs
open Go.Shelf
end Go.Proofs
namespace Go.GV
open Go.RowKit
theorem xl_gcallF {C : Cx} {all : List Oper} {o : Oper} {r : List Oper} {Q : Post} {kn : Kn} {gk : List (Nat × (Gd × SV))} {ow : Own} {nx : Nat} {u : Im} {c : Call} (v : Value) {y : Nat × Bool} {g : Gd} {f d : Nat}
    (ho : o.op = .call c) (hg : guardOf all ⟨kn, gk, ow, nx⟩ o = some (y :: g)) (hd : o.dst = some d)
    (hc : callee ⟨kn, gk, ow, nx⟩ c = some f) (hfn : Fn1 C.P f) {ss : List SV} (hargs : argsOf ⟨kn, gk, ow, nx⟩ (y :: g) c.args.toList = some ss) (hfr : fresh C.N ⟨kn, gk, ow, nx⟩ d (y :: g) = true)
    (H : ∀ E w F, Sat E ow nx u [] w F → Calls C.P f (ss.map (SV.den E)).toArray w (PureP w fun x _ => x = v))
    (K : XL C all r Q ⟨kn, (d, (y :: g, .v v)) :: gk, ow, nx⟩ u) : XL C all (o :: r) Q ⟨kn, gk, ow, nx⟩ u :=
  xl_gcall0 (st := ⟨kn, gk, ow, nx⟩) v ho hg hd hc hfn hargs hfr (fun _ => H) K
end Go.GV
namespace Go.Proofs.Ytdonomneofdhfaa
open Go.GV Go.RowKit
def defB8 : ByteArray := ⟨#[35, 100, 101, 102, 105, 110, 101, 32]⟩
end Go.Proofs.Ytdonomneofdhfaa
namespace Go.Proofs.Ytdonomneofdhfaa
open Go.GV Go.RowKit
theorem fixS_len : ∀ L : List PV, (fixS L).length = L.length
  | [] => rfl
  | _ :: _ => rfl
theorem fixS_prt {L : List PV} (h : ∀ t ∈ L, t.prt = .slice none 0 0) : ∀ t ∈ fixS L, t.prt = .slice none 0 0 := by
  cases L with
  | nil => intro t ht; cases ht
  | cons x r =>
    intro t ht
    rcases List.mem_cons.1 ht with rfl | ht
    · exact h x (List.mem_cons_self ..)
    · exact h t (List.mem_cons_of_mem _ ht)
theorem ofT_prt {L : List Tok} : ∀ t ∈ L.map ofT, t.prt = .slice none 0 0 := fun t ht => by
  obtain ⟨x, _, rfl⟩ := List.mem_map.1 ht
  rfl
structure MSm (m : MT) (n : Nat) : Prop where
  ps : m.ps.length ≤ n
  body : m.body.length ≤ n
  prt : ∀ t ∈ m.body, t.prt = .slice none 0 0
theorem m0_sm (n : Nat) : MSm m0 n := ⟨Nat.zero_le _, Nat.zero_le _, fun t ht => by cases ht⟩
theorem defB_sm {nm : ByteArray} {fn va : Bool} {ps : List ByteArray} {l : List Tok} {n : Nat} (h1 : ps.length ≤ n) (h2 : l.length ≤ n) : MSm (defB nm fn ps va l).1 n := by
  unfold defB
  split
  · exact ⟨h1, by rw [fixS_len, List.length_map]; exact h2, fixS_prt ofT_prt⟩
  · exact m0_sm n
theorem defR_sm (L : List Tok) : MSm (defR L).1 L.length := by
  unfold defR
  split
  · exact m0_sm _
  · split
    · rename_i h
      rw [Bool.and_eq_true, decide_eq_true_eq] at h
      have pl := paramsR_le (L.drop 1) (by omega)
      rw [List.length_drop] at pl
      split
      · split
        · exact defB_sm (by omega) (by rw [List.length_drop, List.length_drop]; omega)
        · exact m0_sm _
      · exact m0_sm _
    · exact defB_sm (Nat.zero_le _) (by rw [List.length_drop]; omega)
def noP (m : MT) : List (List ByteArray) := List.replicate m.body.length []
theorem nil_slAt (u : Im) : SlAt u (.slice none 0 0) (strY.d []) := ⟨none, 0, rfl, Nat.le_refl _, by decide, fun h => by cases h⟩
theorem noP_at {m : MT} {n : Nat} (h : MSm m n) (u : Im) : PartsAt u m.body (noP m) := by
  refine ⟨by simp [noP], fun i hi => ?_⟩
  have h1 := h.prt (m.body.getD i pv0) (by rw [List.getD_eq_getElem?_getD, List.getElem?_eq_getElem hi]; exact List.getElem_mem hi)
  rw [h1]
  have : (noP m).getD i [] = [] := by
    unfold noP
    simp [List.getD_eq_getElem?_getD, List.getElem?_replicate, hi]
  rw [this]
  exact nil_slAt u
theorem noP_sm (m : MT) : prtSm (noP m) := fun i => by
  unfold noP
  rw [List.getD_eq_getElem?_getD, List.getElem?_replicate]
  split <;> simp
theorem mSame_refl (m : MT) (T : List (List ByteArray)) : mSame m m T T = true := by simp [mSame]
theorem star_at {E : Env} {o : GV.Own} {nx : Nat} {u : Im} {df : List Deferred} {w : World} {f : Nat → Nat → Prop} (h : Sat E o nx u df w f) {k : Nat} {m : MT} {s : MA} {n : Nat} (hk : GV.look o k = some (GV.Rs.gen (starHp (mStar m s)))) (hm : MSm m n) (hn : n ≤ 9223372036854775806) :
    MAt (im w) m (noP m) s :=
  ⟨h.starAt (i := 0) hk rfl, h.starAt (i := 1) hk rfl, noP_at hm _, Nat.le_trans hm.ps hn, Nat.le_trans hm.body hn, noP_sm m⟩
end Go.Proofs.Ytdonomneofdhfaa
namespace Go.Proofs.Ytdonomneofdhfaa
open Go.GV Go.RowKit
theorem spellS_size (s : ByteArray) : (spellS s).size ≤ 65536 := by
  unfold spellS
  split
  · decide
  · split
    · decide
    · split
      · decide
      · rename_i h
        show ((spellUp s s.size).toArray).size ≤ 65536
        simp only [List.size_toArray]
        omega
end Go.Proofs.Ytdonomneofdhfaa
namespace Go.Proofs.Ytdonomneofdhfaa
open Go.GV Go.RowKit
def sAl : ByteArray := ⟨#[35, 100, 101, 102, 105, 110, 101, 32, 70, 40, 97, 44, 32, 98, 41, 32, 97, 32, 35, 35, 32, 98, 10]⟩
set_option maxRecDepth 100000 in
theorem al_f : (let r := definedR sAl; decide (r.2 = 0) && decide (r.1.name = ⟨#[70]⟩) && r.1.fn && !r.1.va && decide (r.1.ps.length = 2) && decide (r.1.ps.getD 1 ⟨#[]⟩ = ⟨#[98]⟩) && decide (r.1.body.length = 3) &&
    decide ((r.1.body.getD 1 pv0).text = ⟨#[35, 35]⟩) && !(r.1.body.getD 0 pv0).space && (r.1.body.getD 1 pv0).space) = true := by kernel_rfl
set_option maxHeartbeats 2000000 in
set_option maxRecDepth 100000 in
theorem alive5_any (w : World) (hg : Glob (im w)) : Calls Try.prog 78 #[] w (PureP w fun v _ => v = .bool true) := by
  have hf := al_f
  obtain ⟨r, hr⟩ : ∃ r, r = definedR sAl := ⟨_, rfl⟩
  simp only [← hr] at hf
  simp only [Bool.and_eq_true, decide_eq_true_eq, Bool.not_eq_true'] at hf
  obtain ⟨⟨⟨⟨⟨⟨⟨⟨⟨f1, f2⟩, f3⟩, f4⟩, f5⟩, f6⟩, f7⟩, f8⟩, f9⟩, f10⟩ := hf
  refine x_fun tt_ok Try.func78 rfl rfl [] 0 [] rfl rfl rfl rfl (fun b hb => by cases hb) ?_
  refine x_vc tt_ok ?_
  refine xl_callStar (fun s : MA => .tuple #[mVal r.1 s, .int .i64 r.2]) (fun s => mStar r.1 s) (fun _ => True) rfl rfl rfl rfl fn79 rfl rfl
    (fun E w' F hs => by rw [hr]; exact defined_any sAl w' (by decide) (hg.imm hs.imm)) (fun sm _ => ?_)
  refine xl_freezeStar 0 (sl := mStar r.1 sm) rfl (fun u1 hu1 hfr => ?_)
  have hps := (hfr _ (List.mem_cons_self ..)).1
  have hbd := (hfr _ (List.mem_cons_of_mem _ (List.mem_cons_self ..))).1
  refine xl_go tt_ok ?_
  refine xl_slG 31 rfl hps ?_
  refine xl_go tt_ok ?_
  repeat (refine And.intro ?_ ?_; first | omega | (simp only [Lay.d_n]; omega) | (simp only [decide_eq_true_eq, decide_eq_false_iff_not, Bool.or_eq_false_iff, Bool.and_eq_true, Bool.or_eq_true, Bool.and_eq_false_iff, Bool.not_eq_true', Bool.not_eq_false', Lay.d_n]; omega) | (simp only [decide_eq_true_eq, decide_eq_false_iff_not, Bool.or_eq_false_iff, Bool.and_eq_true, Bool.or_eq_true, Bool.and_eq_false_iff, Bool.not_eq_true', Bool.not_eq_false']; omega) | (simp only [decide_eq_true_eq, decide_eq_false_iff_not, Bool.or_eq_false_iff]; simp only [Lay.d_n]; omega))
  refine xl_slG 44 rfl hbd ?_
  refine xl_go tt_ok ?_
  repeat (refine And.intro ?_ ?_; first | omega | (simp only [Lay.d_n]; omega) | (simp only [decide_eq_true_eq, decide_eq_false_iff_not, Bool.or_eq_false_iff, Bool.and_eq_true, Bool.or_eq_true, Bool.and_eq_false_iff, Bool.not_eq_true', Bool.not_eq_false', Lay.d_n]; omega) | (simp only [decide_eq_true_eq, decide_eq_false_iff_not, Bool.or_eq_false_iff, Bool.and_eq_true, Bool.or_eq_true, Bool.and_eq_false_iff, Bool.not_eq_true', Bool.not_eq_false']; omega) | (simp only [decide_eq_true_eq, decide_eq_false_iff_not, Bool.or_eq_false_iff]; simp only [Lay.d_n]; omega))
  refine xl_slG 52 rfl hbd ?_
  refine xl_go tt_ok ?_
  repeat (refine And.intro ?_ ?_; first | omega | (simp only [Lay.d_n]; omega) | (simp only [decide_eq_true_eq, decide_eq_false_iff_not, Bool.or_eq_false_iff, Bool.and_eq_true, Bool.or_eq_true, Bool.and_eq_false_iff, Bool.not_eq_true', Bool.not_eq_false', Lay.d_n]; omega) | (simp only [decide_eq_true_eq, decide_eq_false_iff_not, Bool.or_eq_false_iff, Bool.and_eq_true, Bool.or_eq_true, Bool.and_eq_false_iff, Bool.not_eq_true', Bool.not_eq_false']; omega) | (simp only [decide_eq_true_eq, decide_eq_false_iff_not, Bool.or_eq_false_iff]; simp only [Lay.d_n]; omega))
  refine xl_slG 60 rfl hbd ?_
  refine xl_go tt_ok ?_
  repeat (refine And.intro ?_ ?_; first | (intros; omega) | (intros; simp only [Lay.d_n]; omega))
  refine fin1 (fun _ _ => ?_)
  show Value.bool (decide (r.2 = 0) && decide (r.1.name = ⟨#[70]⟩) && r.1.fn && !r.1.va && decide ((r.1.ps.length : Int) = 2) && decide (r.1.ps.getD 1 ⟨#[]⟩ = ⟨#[98]⟩) && decide ((r.1.body.length : Int) = 3) &&
    decide ((r.1.body.getD 1 pv0).text = ⟨#[35, 35]⟩) && !(r.1.body.getD 0 pv0).space && (r.1.body.getD 1 pv0).space) = .bool true
  rw [f1, f2, f3, f4, f5, f6, f7, f8, f9, f10]
  rfl
end Go.Proofs.Ytdonomneofdhfaa
namespace Go.Proofs.Ytdonomneofdhfaa
open Go.GV Go.RowKit
def dfnQ (s : ByteArray) : ByteArray := defB8 ++ s ++ ⟨#[10]⟩
theorem definedR_sm (s : ByteArray) : MSm (definedR s).1 65537 := by
  unfold definedR
  split
  · exact m0_sm _
  · rename_i h
    have hsz : ((rowsS s).getD 0 rowT0).ts.length ≤ 65537 := by
      have h1 := ts_size (R := rowsS s) 0
      rw [rowsS, (rowsOf_size (scanT s)).1] at h1
      have := scanT_len s
      rw [rowsS]; omega
    have hbl : (bodyOf s).length ≤ 65537 := Nat.le_trans (says_len _ _) hsz
    have := defR_sm (bodyOf s)
    exact ⟨Nat.le_trans this.ps hbl, Nat.le_trans this.body hbl, this.prt⟩
end Go.Proofs.Ytdonomneofdhfaa
namespace Go.Proofs.Ytdonomneofdhfaa
open Go.GV Go.RowKit
def ftk (t : Tok) : Bool × Int × Lx.Bs := (t.space, t.kind, bl t.text)
theorem ftk_tks (C : List Chr) (l : ByteArray) : ∀ (n : Nat) (st : Int) (i p : Nat), p ≤ i → Lx.okF n st ((bl l).drop i) →
    (tks C l (p : Int) (Lx.itemsF n st i ((bl l).drop i))).map ftk = Lx.lexG n st (decide (p < i)) ((bl l).drop i)
  | 0, _, _, _, _, _ => rfl
  | n + 1, st, i, p, hp, hok => by
    cases hx : (bl l).drop i with
    | nil => rfl
    | cons c r =>
      have hr : (bl l).drop (i + 1) = r := by rw [← List.drop_drop, hx]; rfl
      rw [hx] at hok
      cases hw : Lx.white c with
      | true =>
        rw [Lx.lexG_white hw]
        simp only [Lx.itemsF, Lx.okF, hw] at hok ⊢
        rw [← hr] at hok ⊢
        have := ftk_tks C l n st (i + 1) p (by omega) hok
        rw [decide_eq_true (show p < i + 1 by omega)] at this
        exact this
      | false =>
        simp only [Lx.itemsF, Lx.lexG, Lx.okF, hw] at hok ⊢
        rw [if_neg (by simpa using hok.1), if_neg (by simpa using hok.1)]
        have hd : (c :: r).drop (Lx.itemP (decide (st = 2)) (c :: r)).len = (bl l).drop (i + (Lx.itemP (decide (st = 2)) (c :: r)).len) := by rw [← hx, List.drop_drop]
        rw [tks, List.map_cons, hd]
        rw [hd] at hok
        have := ftk_tks C l n _ (i + (Lx.itemP (decide (st = 2)) (c :: r)).len) (i + (Lx.itemP (decide (st = 2)) (c :: r)).len) (Nat.le_refl _) hok.2
        rw [decide_eq_false (Nat.lt_irrefl _)] at this
        rw [this]
        congr 1
        unfold ftk
        simp only [bl_ext]
        rw [← hx, ← List.take_drop]
        refine Prod.ext ?_ rfl
        simp only [decide_eq_decide]
        omega
theorem scan_lexG {s : ByteArray} (h : scanE s = 0) : (scanT s).map ftk = Lx.lexG (lgc s).length 0 false (lgc s) := by
  obtain ⟨e1, e2, e3, e4⟩ := scanE_zero h
  have ho := (scan_lex h).2.1
  rw [e3]
  have := ftk_tks (charsOf s) (logB s) (lgc s).length 0 0 0 (Nat.le_refl _) (by rw [bl_lgc, List.drop_zero]; exact ho)
  rw [bl_lgc, List.drop_zero] at this
  unfold itsOf Lx.itemsL
  rw [bl_lgc]
  exact this
theorem bare_ftk : ∀ (T : List Tok) (dr : Bool), Lx.nlLast (T.map ftk) → (bareFrom dr T).map ftk = (Lx.bareG dr (T.map ftk)).filter (fun t => !decide (t.2.1 = 9))
  | [], _, _ => rfl
  | t :: r, dr, h => by
    obtain ⟨h1, h2⟩ := h
    rw [List.map_cons, Lx.bareG]
    unfold bareFrom
    by_cases h8 : t.kind = 8
    · rw [if_pos (by simp [gone, h8]), if_pos (show (ftk t).2.1 = 8 from h8)]
      exact bare_ftk r true h2
    · rw [if_neg (show ¬ (ftk t).2.1 = 8 from h8)]
      by_cases h9 : t.kind = 9
      · have hr : r = [] := by simpa using h1 h9
        subst hr
        rw [if_pos (by simp [gone, h9])]
        show [] = List.filter _ [(t.space || dr, t.kind, bl t.text)]
        simp [h9]
      · rw [if_neg (by simp [gone, h8, h9]), List.map_cons, bare_ftk r false h2, List.filter_cons_of_pos (by show (!decide (t.kind = 9)) = true; simp [h9])]
        rfl
theorem pcs_one : ∀ (T : List Tok) (f i : Nat), f ≤ i → T ≠ [] → Lx.nlLast (T.map ftk) → pcs f i T = [(f, i + T.length)]
  | [], _, _, _, h, _ => absurd rfl h
  | [t], f, i, hf, _, h => by
    unfold pcs
    split
    · simp [pcs]
    · unfold pcs
      rw [if_pos (by omega)]
      rfl
  | t :: u :: r, f, i, hf, _, h => by
    obtain ⟨h1, h2⟩ := h
    have h9 : ¬ t.kind = 9 := fun h9 => by have := h1 h9; cases this
    unfold pcs
    rw [if_neg h9, pcs_one (u :: r) f (i + 1) (by omega) (by simp) h2]
    simp only [List.length_cons]
    congr 2
    omega
theorem lines_one {T : List Tok} (h0 : T ≠ []) (h : Lx.nlLast (T.map ftk)) : linesOf T = [T] := by
  unfold linesOf
  rw [pcs_one T 0 0 (Nat.le_refl _) h0 h]
  simp [lnOf]
theorem rows_one {T : List Tok} (h0 : T ≠ []) (h : Lx.nlLast (T.map ftk)) : rowsOf T = [⟨(dirF false T).2, (dirF false T).1, T⟩] := by
  unfold rowsOf
  rw [lines_one h0 h]
  simp [addLine]
def core (t : Tok) : Tok := ⟨t.kind, t.text, 0, 0, t.space⟩
theorem core_of {L M : List Tok} (h : L.map ftk = M.map ftk) : L.map core = M.map core := by
  have : ∀ (L M : List Tok), L.map ftk = M.map ftk → L.map core = M.map core := by
    intro L
    induction L with
    | nil => intro M h; cases M with
      | nil => rfl
      | cons => cases h
    | cons t r ih =>
      intro M h
      cases M with
      | nil => cases h
      | cons u q =>
        rw [List.map_cons, List.map_cons, List.cons.injEq] at h
        rw [List.map_cons, List.map_cons, ih q h.2]
        congr 1
        have h1 := h.1
        unfold ftk at h1
        simp only [Prod.mk.injEq] at h1
        unfold core
        rw [h1.1, h1.2.1, bl_inj h1.2.2]
  exact this L M h
end Go.Proofs.Ytdonomneofdhfaa
namespace Go.Proofs.Ytdonomneofdhfaa
open Go.GV Go.RowKit
theorem isT_core (t : Tok) (S : List ByteArray) : isT (core t) S = isT t S := rfl
theorem getD_core {L : List Tok} {i : Nat} : (L.map core).getD i tok0 = core (L.getD i tok0) := by
  simp only [List.getD_eq_getElem?_getD, List.getElem?_map]
  cases L[i]? <;> rfl
theorem vF_core (fn va : Bool) (P : List ByteArray) : ∀ L : List Tok, vF fn va P (L.map core) = vF fn va P L
  | [] => rfl
  | t :: r => by
    have ih := vF_core fn va P r
    rw [List.map_cons, vF.eq_def]
    conv => rhs; rw [vF.eq_def]
    simp only
    rw [ih]
    cases r with
    | nil => rfl
    | cons u r => rfl
theorem validB_core (fn va : Bool) (P : List ByteArray) (L : List Tok) : validB fn va P (L.map core) = validB fn va P L := by
  cases L with
  | nil => rfl
  | cons t r =>
    have h := vF_core fn va P (t :: r)
    have hl : ((t :: r).map core).getLastD tok0 = core ((t :: r).getLastD tok0) := by
      rw [List.getLastD_eq_getLast?, List.getLastD_eq_getLast?, List.getLast?_map]
      cases (t :: r).getLast? <;> rfl
    unfold validB
    rw [List.map_cons] at h hl ⊢
    simp only
    rw [h, hl]
    rfl
theorem pF_core : ∀ (n : Nat) (L : List Tok) (P : List ByteArray) (i : Int), L.length ≤ n → pF P i (L.map core) = pF P i L
  | _, [], _, _, _ => rfl
  | _, [t], _, _, _ => rfl
  | 0, t :: x :: r, _, _, h => by simp at h
  | n + 1, t :: x :: r, P, i, h => by
    simp only [List.length_cons] at h
    rw [List.map_cons, List.map_cons, pF, pF, pF_core n r (P ++ [(core t).text]) (i + 2) (by omega)]
    rfl
theorem paramsR_core (L : List Tok) : paramsR (L.map core) = paramsR L := by
  unfold paramsR
  rw [List.length_map, getD_core, isT_core, ← List.map_drop, pF_core _ _ _ _ (Nat.le_refl _)]
theorem map_ofT_core (L : List Tok) : (L.map core).map ofT = L.map ofT := by
  rw [List.map_map]
  rfl
theorem defB_core (nm : ByteArray) (fn : Bool) (ps : List ByteArray) (va : Bool) (L : List Tok) : defB nm fn ps va (L.map core) = defB nm fn ps va L := by
  unfold defB
  rw [validB_core, map_ofT_core]
theorem defR_core (L : List Tok) : defR (L.map core) = defR L := by
  unfold defR
  rw [← List.map_drop, paramsR_core, getD_core, getD_core, ← List.map_drop, defB_core, defB_core, isT_core, List.length_map, List.length_map]
  rfl
theorem dirB_core (L : List Tok) : dirB (L.map core) = dirB L := by
  match L with
  | [] => rfl
  | [t] => rfl
  | t :: u :: r => rfl
end Go.Proofs.Ytdonomneofdhfaa
namespace Go.Proofs.Ytdonomneofdhfaa
open Go.GV Go.RowKit
theorem plain_part {s : ByteArray} {i : Int} (h63 : bt s i ≠ 63) (h92 : bt s i ≠ 92) : partP s i = ⟨bt s i, i, 1, false⟩ := by
  have ht : triB s i = false := by
    unfold triB
    rw [decide_eq_false h63]
    simp
  have hc : chB s i = bt s i := by unfold chB; rw [ht]; rfl
  have hn : chN s i = 1 := by unfold chN; rw [ht]; rfl
  unfold partP spl
  rw [hc, hn, decide_eq_false h92]
  simp
theorem pre_chars (q : ByteArray) : ∀ (pre : List Int) (i : Int), 0 ≤ i → i + pre.length ≤ q.size → (∀ j : Nat, j < pre.length → bt q (i + j) = pre.getD j 0 ∧ bt q (i + j) ≠ 63 ∧ bt q (i + j) ≠ 92) →
    (chrsL (partsAt q i)).map (·.b) = pre ++ (chrsL (partsAt q (i + pre.length))).map (·.b)
  | [], i, _, _, _ => by simp
  | c :: r, i, h0, hl, h => by
    simp only [List.length_cons] at hl h
    have e0 : i + ((0 : Nat) : Int) = i := by omega
    have hb : bt q i = c := by have := (h 0 (by omega)).1; rw [e0] at this; simpa using this
    have hp := plain_part (s := q) (i := i) (by have := (h 0 (by omega)).2.1; rwa [e0] at this) (by have := (h 0 (by omega)).2.2; rwa [e0] at this)
    rw [partsAt_eq h0 (by push_cast at hl; omega), hp]
    simp only [chrsL, List.map_cons, List.cons_append, hb]
    rw [if_neg (by simp), List.map_cons]
    have ih := pre_chars q r (i + 1) (by omega) (by push_cast at hl; omega) (fun j hj => by
      have := h (j + 1) (by omega)
      rw [show i + 1 + (j : Int) = i + ((j + 1 : Nat) : Int) by push_cast; omega]
      simpa using this)
    rw [ih, show i + 1 + (r.length : Int) = i + ((c :: r).length : Int) by rw [List.length_cons]; push_cast; omega]
def defP : List Int := [35, 100, 101, 102, 105, 110, 101, 32]
theorem lgc_def {s : ByteArray} (hc : checkE (dfnQ s) = 0) : ∃ rest, lgc (dfnQ s) = defP ++ rest := by
  have hsz : (8 : Int) ≤ (dfnQ s).size := by
    unfold dfnQ
    rw [ByteArray.size_append, ByteArray.size_append]
    have : defB8.size = 8 := rfl
    omega
  have hb : ∀ j : Nat, j < 8 → bt (dfnQ s) ((0 : Int) + j) = bt defB8 (j : Int) := fun j hj => by
    unfold dfnQ
    rw [Int.zero_add]
    have h8 : defB8.size = 8 := rfl
    rw [bt_left (by omega) (by rw [ByteArray.size_append]; omega), bt_left (by omega) (by rw [h8]; omega)]
  refine ⟨(chrsL (partsAt (dfnQ s) ((0 : Int) + defP.length))).map (·.b), ?_⟩
  unfold lgc charsOf
  rw [if_pos hc]
  refine pre_chars (dfnQ s) defP 0 (Int.le_refl _) hsz (fun j hj => ?_)
  have hj : j < 8 := hj
  rw [hb j hj]
  match j, hj with
  | 0, _ => decide
  | 1, _ => decide
  | 2, _ => decide
  | 3, _ => decide
  | 4, _ => decide
  | 5, _ => decide
  | 6, _ => decide
  | 7, _ => decide
end Go.Proofs.Ytdonomneofdhfaa
namespace Go.Lx
def hashT : Bs := [35]
def defnT : Bs := [100, 101, 102, 105, 110, 101]
theorem item_hash {z : Bs} (hz : stopW z) : itemP false (35 :: (defnT ++ z)) = ⟨5, 1, 0⟩ := by
  have h := item_stopW (t := [35, 100, 101, 102, 105, 110, 101]) (q := z) (by simp) hz (.inr (fun x hx => by
    have : prefN [35, 100, 101, 102, 105, 110, 101] = 0 := by decide
    rw [this] at hx
    simp only [List.getElem?_cons_zero, Option.some.injEq] at hx
    subst hx; rfl)) (by decide) (by decide)
  have e : itemP false [35, 100, 101, 102, 105, 110, 101] = ⟨5, 1, 0⟩ := by decide
  rw [e] at h
  exact h
theorem item_defn {z : Bs} (hz : stopW z) : itemP false (defnT ++ z) = ⟨1, 6, 0⟩ := by
  have h := item_stopW (t := defnT) (q := z) (by decide) hz (.inr (fun x hx => by
    have : prefN defnT = 0 := by decide
    rw [this] at hx
    simp only [defnT, List.getElem?_cons_zero, Option.some.injEq] at hx
    subst hx; rfl)) (by decide) (by decide)
  have e : itemP false defnT = ⟨1, 6, 0⟩ := by decide
  rw [e] at h
  exact h
theorem lex_def {z : Bs} (hz : stopW z) {n : Nat} (hn : (35 :: (defnT ++ z)).length ≤ n) :
    ∃ m, z.length ≤ m ∧ lexG n 0 false (35 :: (defnT ++ z)) = (false, 5, hashT) :: (false, 1, defnT) :: lexG m 3 false z ∧ (okF n 0 (35 :: (defnT ++ z)) ↔ okF m 3 z) := by
  simp only [List.length_cons, List.length_append, show defnT.length = 6 by rfl] at hn
  obtain ⟨m, rfl⟩ : ∃ m, n = m + 1 + 1 := ⟨n - 2, by omega⟩
  have i1 := item_hash hz
  have i2 := item_defn hz
  have t1 : (35 :: (defnT ++ z)).take 1 = hashT := rfl
  have d1 : (35 :: (defnT ++ z)).drop 1 = defnT ++ z := rfl
  have t2 : (defnT ++ z).take 6 = defnT := List.take_left' rfl
  have d2 : (defnT ++ z).drop 6 = z := List.drop_left' rfl
  have a1 : after 0 5 hashT = 1 := by decide
  have a2 : after 1 1 defnT = 3 := by decide
  have c2 : defnT ++ z = 100 :: ([101, 102, 105, 110, 101] ++ z) := rfl
  refine ⟨m, by omega, ?_, ?_⟩
  · rw [lexG_item (by decide) rfl (by rw [i1]), i1]
    simp only
    rw [t1, d1, a1]
    congr 1
    rw [c2] at i2 t2 d2 ⊢
    rw [lexG_item (by decide) rfl (by rw [i2]), i2]
    simp only
    rw [t2, d2, a2]
  · rw [okF_item (by decide) rfl, i1]
    simp only
    rw [t1, d1, a1]
    rw [c2] at i2 t2 d2 ⊢
    rw [okF_item (by decide) rfl, i2]
    simp only
    rw [t2, d2, a2]
    simp
theorem def_law (w : Nat → Nat) {rest : Bs} {n m : Nat} (hn : (35 :: (defnT ++ 32 :: rest)).length ≤ n) (hok : okF n 0 (35 :: (defnT ++ 32 :: rest))) (hnl : nlLast (lexG n 0 false (35 :: (defnT ++ 32 :: rest))))
    (hm : (ren w 0 (lexG n 0 false (35 :: (defnT ++ 32 :: rest)))).length ≤ m) :
    okF m 0 (ren w 0 (lexG n 0 false (35 :: (defnT ++ 32 :: rest)))) ∧ bareG false (lexG m 0 false (ren w 0 (lexG n 0 false (35 :: (defnT ++ 32 :: rest))))) = bareG false (lexG n 0 false (35 :: (defnT ++ 32 :: rest))) ∧
      nlLast (lexG m 0 false (ren w 0 (lexG n 0 false (35 :: (defnT ++ 32 :: rest))))) := by
  have hz : stopW (32 :: rest) := .inr ⟨32, rest, rfl, .inl rfl⟩
  obtain ⟨k, k1, k2, k3⟩ := lex_def hz hn
  rw [k2] at hnl hm ⊢
  rw [k3] at hok
  obtain ⟨ts, hts⟩ : ∃ ts, ts = lexG k 3 false (32 :: rest) := ⟨_, rfl⟩
  have hr : ren w 0 ((false, 5, hashT) :: (false, 1, defnT) :: lexG k 3 false (32 :: rest)) = 35 :: (defnT ++ ren w 2 ts) := by
    rw [ren, ren, ← hts]
    rfl
  have hz2 : stopW (ren w 2 ts) := by
    simp only [List.length_cons] at k1
    obtain ⟨k', rfl⟩ : ∃ k', k = k' + 1 := ⟨k - 1, by omega⟩
    rw [lexG_white rfl] at hts
    cases ht : ts with
    | nil => exact .inl rfl
    | cons t r =>
      have hf := lexG_true k' 3 rest t r (by rw [← hts]; exact ht)
      rw [ren, hf, Bool.or_true, if_pos rfl, List.append_assoc]
      exact fill_stop _ _
  rw [hr] at hm ⊢
  obtain ⟨m', q1, q2, q3⟩ := lex_def hz2 hm
  rw [q2, q3]
  have hl := ren_law w k (32 :: rest) 2 false m' false false k1 hok (by exact hnl.2.2) (by rw [← hts]; exact q1)
  rw [← hts] at hl
  refine ⟨hl.1, ?_, ⟨fun e => absurd e (by decide), ⟨fun e => absurd e (by decide), hl.2.2⟩⟩⟩
  rw [bareG, if_neg (by decide), bareG, if_neg (by decide), hl.2.1, bareG, if_neg (by decide), bareG, if_neg (by decide), hts]
  rfl
end Go.Lx
namespace Go.Proofs.Ytdonomneofdhfaa
open Go.GV Go.RowKit
theorem defined_one {s : ByteArray} (he : scanE s = 0) (h0 : scanT s ≠ []) (hnl : Lx.nlLast ((scanT s).map ftk)) :
    definedR s = defR (if (dirB ((bareFrom false (scanT s)).map core)).2 = true then ((bareFrom false (scanT s)).map core).drop (if (dirB ((bareFrom false (scanT s)).map core)).1 = ⟨#[]⟩ then 1 else 2) else (bareFrom false (scanT s)).map core) := by
  have hr := rows_one h0 hnl
  unfold definedR bodyOf rowsS
  rw [hr, he]
  rw [if_neg (by simp)]
  show defR (saysV _ _) = _
  unfold saysV
  simp only [List.getD_cons_zero]
  rw [dirB_core, ← dirF_bare false (scanT s), ← defR_core]
  split
  · rw [List.map_drop]
  · rfl
theorem remarks_law {s b : ByteArray} {w : Nat → Nat} (he : scanE (dfnQ s) = 0) (hnl : Lx.nlLast ((scanT (dfnQ s)).map ftk)) (hb : bl b = Lx.ren w 0 ((scanT (dfnQ s)).map ftk)) (hsp : spellE b = 0) :
    definedR (spellS b) = definedR (dfnQ s) := by
  obtain ⟨e1, e2, _⟩ := scan_lex he
  obtain ⟨rest, hr⟩ := lgc_def e1
  have hr : lgc (dfnQ s) = 35 :: (Lx.defnT ++ 32 :: rest) := hr
  have hg := scan_lexG he
  obtain ⟨p1, p2, _⟩ := spell_law b hsp
  have hlt : lgc (spellS b) = bl b := by rw [lgc_logical' p1, p2]
  unfold okB at e2
  rw [hr] at e2 hg
  rw [hg] at hb hnl
  obtain ⟨k1, k2, k3⟩ := Lx.def_law w (n := (35 :: (Lx.defnT ++ 32 :: rest)).length) (m := (bl b).length) (Nat.le_refl _) e2 hnl (by rw [hb]; exact Nat.le_refl _)
  rw [← hb] at k1 k2 k3
  have ot : okB (lgc (spellS b)) := by unfold okB; rw [hlt]; exact k1
  have et := (scan_of p1 ot).1
  have gt := scan_lexG et
  rw [hlt] at gt
  rw [← gt] at k2 k3
  rw [← hg] at k2 hnl
  have hbare : (bareFrom false (scanT (spellS b))).map ftk = (bareFrom false (scanT (dfnQ s))).map ftk := by
    rw [bare_ftk _ _ k3, bare_ftk _ _ hnl, k2]
  have hq0 : (bareFrom false (scanT (dfnQ s))).map ftk ≠ [] := by
    rw [bare_ftk _ _ hnl, hg]
    obtain ⟨m, _, q2, _⟩ := Lx.lex_def (z := 32 :: rest) (.inr ⟨32, rest, rfl, .inl rfl⟩) (n := (35 :: (Lx.defnT ++ 32 :: rest)).length) (Nat.le_refl _)
    rw [q2, Lx.bareG, if_neg (by decide), List.filter_cons_of_pos (by decide)]
    simp
  have hq : scanT (dfnQ s) ≠ [] := fun h => hq0 (by rw [h]; rfl)
  have ht : scanT (spellS b) ≠ [] := fun h => hq0 (by rw [← hbare, h]; rfl)
  rw [defined_one et ht k3, defined_one he hq hnl, core_of hbare]
where
  lgc_logical' {t : ByteArray} (hc : checkE t = 0) : lgc t = bl (logicalOf t) := by
    unfold lgc charsOf logicalOf bl
    rw [if_pos hc, if_pos hc, List.toList_toArray]
    have bc : ∀ L : List Part, (∀ p ∈ L, 0 ≤ p.b ∧ p.b ≤ 255) → (bytesL L).map (fun b : UInt8 => (b.toNat : Int)) = (chrsL L).map (·.b) := by
      intro L
      induction L with
      | nil => intro _; rfl
      | cons p r ih =>
        intro h
        have ih := ih (fun q hq => h q (List.mem_cons_of_mem _ hq))
        simp only [bytesL, chrsL]
        split
        · exact ih
        · have := h p (List.mem_cons_self ..)
          simp only [List.map_cons, ih]
          rw [u8_back this.1 this.2]
    exact (bc _ (partsF_b t _ _)).symm
end Go.Proofs.Ytdonomneofdhfaa
namespace Go.Proofs.Ytdonomneofdhfaa
open Go.GV Go.RowKit
def fillT : Nat → ByteArray
  | 0 => ⟨#[32]⟩
  | 1 => ⟨#[9]⟩
  | 2 => ⟨#[32, 47, 42, 32, 120, 32, 42, 47]⟩
  | 3 => ⟨#[32, 32]⟩
  | 4 => ⟨#[32, 47, 42, 42, 47, 32, 47, 42, 32, 10, 32, 42, 47]⟩
  | _ => ⟨#[11, 12]⟩
theorem fillT_W (k : Nat) : bl (fillT k) = Lx.fillW k := by
  match k with
  | 0 => rfl
  | 1 => rfl
  | 2 => rfl
  | 3 => rfl
  | 4 => rfl
  | k + 5 => rfl
def pcU (k : Nat) (t : Tok) : List UInt8 := (if (decide (t.kind = 8) || t.space) = true then (fillT k).data.toList else []) ++ (if t.kind = 8 then [] else t.text.data.toList)
def remU (w : Nat → Nat) (T : List Tok) : Nat → List UInt8
  | 0 => []
  | i + 1 => remU w T i ++ pcU (w i) (T.getD i tok0)
theorem ren_snoc (w : Nat → Nat) (t : Bool × Int × Lx.Bs) : ∀ (F : List (Bool × Int × Lx.Bs)) (i : Nat), Lx.ren w i (F ++ [t]) = Lx.ren w i F ++ ((if (decide (t.2.1 = 8) || t.1) = true then Lx.fillW (w (i + F.length)) else []) ++ (if t.2.1 = 8 then [] else t.2.2))
  | [], i => by simp [Lx.ren]
  | u :: r, i => by
    rw [List.cons_append, Lx.ren, Lx.ren, ren_snoc w t r (i + 1), List.length_cons, show i + 1 + r.length = i + (r.length + 1) by omega]
    simp only [List.append_assoc]
theorem remU_ren (w : Nat → Nat) (T : List Tok) : ∀ i, i ≤ T.length → (remU w T i).map (fun b : UInt8 => (b.toNat : Int)) = Lx.ren w 0 ((T.take i).map ftk)
  | 0, _ => rfl
  | i + 1, h => by
    have ih := remU_ren w T i (by omega)
    have e : T.take (i + 1) = T.take i ++ [T.getD i tok0] := by
      rw [take_get (List.getElem?_eq_getElem (by omega)), List.getD_eq_getElem?_getD, List.getElem?_eq_getElem (by omega)]; rfl
    have hl : ((T.take i).map ftk).length = i := by rw [List.length_map, List.length_take]; omega
    rw [e, List.map_append, List.map_singleton, ren_snoc, hl, Nat.zero_add, remU, List.map_append, ih]
    congr 1
    have hf := fillT_W (w i)
    unfold bl at hf
    unfold pcU
    rw [List.map_append]
    congr 1
    · show List.map _ (if _ then _ else _) = if (decide ((T.getD i tok0).kind = 8) || (T.getD i tok0).space) = true then _ else _
      split
      · exact hf
      · rfl
    · show List.map _ (if _ then _ else _) = if (T.getD i tok0).kind = 8 then _ else _
      split
      · rfl
      · rfl
def remT (w : Nat → Nat) (T : List Tok) : ByteArray := ⟨(remU w T T.length).toArray⟩
theorem remT_ren (w : Nat → Nat) (T : List Tok) : bl (remT w T) = Lx.ren w 0 (T.map ftk) := by
  have := remU_ren w T T.length (Nat.le_refl _)
  rw [List.take_length] at this
  unfold bl remT
  rw [List.toList_toArray]
  exact this
end Go.Proofs.Ytdonomneofdhfaa
namespace Go.Lx
def costF : List (Bool × Int × Bs) → Nat
  | [] => 0
  | t :: r => t.2.2.length + (if t.1 = true then 1 else 0) + costF r
def bigF : List (Bool × Int × Bs) → Prop
  | [] => True
  | t :: r => (1 ≤ t.2.2.length ∧ (t.2.1 = 8 → 2 ≤ t.2.2.length)) ∧ bigF r
theorem lexG_cost : ∀ (n : Nat) (st : Int) (sp : Bool) (l : Bs), costF (lexG n st sp l) ≤ l.length + (if sp = true then 1 else 0)
  | 0, _, _, _ => Nat.zero_le _
  | _ + 1, _, _, [] => Nat.zero_le _
  | n + 1, st, sp, c :: r => by
    cases hw : white c with
    | true =>
      rw [lexG_white hw]
      have := lexG_cost n st true r
      rw [if_pos rfl] at this
      simp only [List.length_cons]
      omega
    | false =>
      simp only [lexG, hw]
      split
      · exact Nat.zero_le _
      · have ih := lexG_cost n (after st (itemP (decide (st = 2)) (c :: r)).kind ((c :: r).take (itemP (decide (st = 2)) (c :: r)).len)) false ((c :: r).drop (itemP (decide (st = 2)) (c :: r)).len)
        have h2 := congrArg List.length (List.take_append_drop (itemP (decide (st = 2)) (c :: r)).len (c :: r))
        rw [List.length_append] at h2
        rw [costF]
        simp only [Bool.false_eq_true, if_false] at ih ⊢
        omega
theorem item_big {hdr : Bool} {c : Int} {r : Bs} (he : (itemP hdr (c :: r)).err = 0) : (itemP hdr (c :: r)).kind = 8 → 2 ≤ (itemP hdr (c :: r)).len := by
  intro h
  unfold itemP at h ⊢
  split at h
  · cases h
  · rename_i h0
    rw [if_neg h0]
    split at h
    · rename_i h1
      rw [if_pos h1]
      split at h
      · cases h
      · show 2 ≤ _ + 3; omega
    · rename_i h1
      rw [if_neg h1]
      split at h
      · rename_i h2
        rw [if_pos h2]
        show 2 ≤ run notNl (c :: r)
        unfold isLine at h2
        rw [decide_eq_true_eq] at h2
        match r, h2 with
        | d :: r, h2 =>
          simp only [List.take_succ_cons, List.take_zero, List.cons.injEq, and_true] at h2
          rw [h2.1, h2.2]
          simp only [run, show notNl 47 = true from rfl]
          omega
      · split at h
        · cases h
        · split at h
          · exfalso
            simp only at h
            have := bestL_kind8 (c :: r)
            exact this h
          · split at h <;> cases h
where
  bestL_kind8 (l : Bs) : (bestL l).1 ≠ 8 := by
    unfold bestL
    split
    · rcases litQ_facts l with hf | ⟨hf, _⟩
      · omega
      · omega
    · split
      · simp
      · split
        · simp
        · split <;> simp
theorem lexG_big : ∀ (n : Nat) (st : Int) (sp : Bool) (l : Bs), bigF (lexG n st sp l)
  | 0, _, _, _ => trivial
  | _ + 1, _, _, [] => trivial
  | n + 1, st, sp, c :: r => by
    cases hw : white c with
    | true =>
      rw [lexG_white hw]
      exact lexG_big n st true r
    | false =>
      simp only [lexG, hw]
      split
      · trivial
      · rename_i he
        have he : (itemP (decide (st = 2)) (c :: r)).err = 0 := Classical.not_not.1 he
        have hp := item_pos he
        have hb := item_big he
        have hl : ((c :: r).take (itemP (decide (st = 2)) (c :: r)).len).length = (itemP (decide (st = 2)) (c :: r)).len := by
          rw [List.length_take, List.length_cons]; omega
        refine ⟨⟨?_, fun h8 => ?_⟩, lexG_big n _ _ _⟩
        · show 1 ≤ ((c :: r).take _).length
          rw [hl]; exact hp.1
        · show 2 ≤ ((c :: r).take _).length
          rw [hl]; exact hb h8
theorem fill_len (k : Nat) : (fillW k).length ≤ 13 := by
  unfold fillW
  split <;> decide
theorem ren_len (w : Nat → Nat) : ∀ (F : List (Bool × Int × Bs)) (i : Nat), bigF F → (ren w i F).length ≤ 7 * costF F
  | [], _, _ => Nat.zero_le _
  | t :: r, i, h => by
    obtain ⟨⟨h1, h8⟩, h2⟩ := h
    have ih := ren_len w r (i + 1) h2
    have hf := fill_len (w i)
    rw [ren, costF, List.length_append, List.length_append]
    by_cases hk : t.2.1 = 8
    · have := h8 hk
      rw [if_pos (by simp [hk]), if_pos hk, List.length_nil]
      omega
    · rw [if_neg hk]
      cases ht : t.1 with
      | true =>
        rw [if_pos (by simp), if_pos rfl]
        omega
      | false =>
        rw [if_neg (by simp [hk]), if_neg (by simp), List.length_nil]
        omega
def cntQ (l : Bs) : Nat := (l.filter (fun c => decide (c = 63) || decide (c = 92))).length
theorem cntQ_le (l : Bs) : cntQ l ≤ l.length := List.length_filter_le _ _
theorem cntQ_app (a b : Bs) : cntQ (a ++ b) = cntQ a + cntQ b := by
  unfold cntQ
  rw [List.filter_append, List.length_append]
theorem fill_cnt (k : Nat) : cntQ (fillW k) = 0 := by
  unfold fillW
  split <;> decide
theorem ren_cnt (w : Nat → Nat) : ∀ (F : List (Bool × Int × Bs)) (i : Nat), cntQ (ren w i F) ≤ costF F
  | [], _ => Nat.zero_le _
  | t :: r, i => by
    have ih := ren_cnt w r (i + 1)
    have hc := cntQ_le t.2.2
    rw [ren, costF, cntQ_app, cntQ_app]
    have h1 : cntQ (if (decide (t.2.1 = 8) || t.1) = true then fillW (w i) else []) = 0 := by
      split
      · exact fill_cnt _
      · rfl
    have h2 : cntQ (if t.2.1 = 8 then [] else t.2.2) ≤ t.2.2.length := by
      split
      · exact Nat.zero_le _
      · exact hc
    omega
end Go.Lx
namespace Go.Proofs.Ytdonomneofdhfaa
open Go.GV Go.RowKit
theorem parted_q {s : ByteArray} {i : Int} (h : parted s i = true) : bt s i = 63 ∨ bt s i = 92 := by
  unfold parted isTri at h
  simp only [Bool.or_eq_true, Bool.and_eq_true, decide_eq_true_eq] at h
  rcases h with h | h
  · exact .inr h.2.1
  · exact .inl h.2.1
theorem spellUp_cnt (s : ByteArray) : ∀ k, k ≤ s.size → (spellUp s k).length ≤ k + 2 * Lx.cntQ ((bl s).take k)
  | 0, _ => Nat.zero_le _
  | k + 1, h => by
    have ih := spellUp_cnt s k (by omega)
    have e : (bl s).take (k + 1) = (bl s).take k ++ [bt s k] := by rw [take_get (bl_get s (by omega))]
    rw [e, Lx.cntQ_app]
    simp only [spellUp, List.length_append, spellAt, List.length_cons]
    cases hp : parted s k with
    | false => simp; omega
    | true =>
      have hq := parted_q hp
      have : Lx.cntQ [bt s k] = 1 := by
        unfold Lx.cntQ
        rw [List.filter_cons_of_pos (by rcases hq with h | h <;> rw [h] <;> decide)]
        rfl
      rw [this]
      simp
      omega
theorem nl_text' : ∀ (n : Nat) (st : Int) (l : Lx.Bs), ∀ t ∈ Lx.lexF n st l, t.1 = 9 → t.2 = [10]
  | 0, _, _, t, h, _ => by cases h
  | n + 1, _, [], t, h, _ => by cases h
  | n + 1, st, c :: r, t, h, h9 => by
    simp only [Lx.lexF] at h
    split at h
    · exact nl_text' n st r t h h9
    · split at h
      · cases h
      · rcases List.mem_cons.1 h with rfl | h
        · obtain ⟨h1, h2⟩ := Lx.item_nl h9
          simp only at h2 ⊢
          rw [List.head?_cons, Option.some.injEq] at h1
          rw [h2, h1]; rfl
        · exact nl_text' n _ _ t h h9
theorem rem_spelt {s : ByteArray} (w : Nat → Nat) (he : scanE s = 0) (hs : s.size ≤ 6000) (h0 : s.size ≠ 0) : spellE (remT w (scanT s)) = 0 ∧ (remT w (scanT s)).size ≤ 43000 := by
  obtain ⟨a1, a2, a3⟩ := scan_lex he
  have hg := scan_lexG he
  have hlg := lgc_len s
  have hb := remT_ren w (scanT s)
  rw [hg] at hb
  have c1 := Lx.lexG_cost (lgc s).length 0 false (lgc s)
  rw [if_neg (by simp)] at c1
  have c2 := Lx.ren_len w _ 0 (Lx.lexG_big (lgc s).length 0 false (lgc s))
  have c3 := Lx.ren_cnt w (Lx.lexG (lgc s).length 0 false (lgc s)) 0
  rw [← hb] at c2 c3
  obtain ⟨b, hbb⟩ : ∃ b, b = remT w (scanT s) := ⟨_, rfl⟩
  rw [← hbb] at hb c2 c3 ⊢
  have hsz : b.size ≤ 42000 := by rw [← bl_len]; omega
  have hup := spellUp_cnt b b.size (Nat.le_refl _)
  rw [List.take_of_length_le (by rw [bl_len]; exact Nat.le_refl _)] at hup
  have hsp : (spellUp b b.size).length ≤ 65536 := by omega
  have hend : ends b = true := by
    have hla := lgc_last a1 h0
    obtain ⟨_, _, t, e3, e4⟩ := Lx.lexF_app (lgc s).length (lgc s) [] 0 (lgc s).length hla (Nat.le_refl _) (by simp) a2
    have ht : t = (9, [10]) := Prod.ext e4 (nl_text' _ _ _ t (List.mem_of_getLast? e3) e4)
    rw [ht, ← Lx.lexG_F _ _ false, List.getLast?_map] at e3
    cases hl : (Lx.lexG (lgc s).length 0 false (lgc s)).getLast? with
    | none => rw [hl] at e3; cases e3
    | some u =>
      rw [hl] at e3
      simp only [Option.map_some, Option.some.injEq] at e3
      obtain ⟨F, hF⟩ := List.getLast?_eq_some_iff.1 hl
      rw [hF, ren_snoc, e3] at hb
      have h1 : (bl b).getLast? = some 10 := by
        rw [hb]
        simp
      rw [List.getLast?_eq_getElem?, bl_len] at h1
      have hpos : b.size ≠ 0 := by
        intro hz
        have : bl b = [] := List.length_eq_zero_iff.1 (by rw [bl_len]; exact hz)
        rw [this] at h1; cases h1
      rw [bl_get b (by omega)] at h1
      unfold ends
      have e5 : bt b ((b.size : Int) - 1) = 10 := by
        rw [show (b.size : Int) - 1 = ((b.size - 1 : Nat) : Int) by omega]
        simpa using h1
      rw [decide_eq_true e5]; simp
  refine ⟨?_, by omega⟩
  unfold spellE
  rw [if_neg (by omega), if_neg (by rw [hend]; simp), if_neg (by omega)]
end Go.Proofs.Ytdonomneofdhfaa
namespace Go.Proofs.Ytdonomneofdhfaa
open Go.GV Go.RowKit
theorem fil_get : ∀ k : Nat, k < 6 → ([fillT 0, fillT 1, fillT 2, fillT 3, fillT 4, fillT 5].getD k strY.dft : ByteArray) = fillT k
  | 0, _ => rfl
  | 1, _ => rfl
  | 2, _ => rfl
  | 3, _ => rfl
  | 4, _ => rfl
  | 5, _ => rfl
  | k + 6, h => by omega
theorem remU_mono (w : Nat → Nat) (T : List Tok) : ∀ {i j : Nat}, i ≤ j → (remU w T i).length ≤ (remU w T j).length := by
  intro i j h
  induction j with
  | zero => have : i = 0 := by omega
            subst this; exact Nat.le_refl _
  | succ j ih =>
    rcases Nat.lt_or_ge j i with h1 | h1
    · have : i = j + 1 := by omega
      subst this; exact Nat.le_refl _
    · refine Nat.le_trans (ih h1) ?_
      rw [remU, List.length_append]; omega
theorem nlLast_of : ∀ (T : List Tok), (∀ j : Nat, j < T.length → (T.getD j tok0).kind = 9 → j + 1 = T.length) → Lx.nlLast (T.map ftk)
  | [], _ => trivial
  | t :: r, h => by
    refine ⟨fun h9 => ?_, nlLast_of r (fun j hj h9 => ?_)⟩
    · have := h 0 (by simp) h9
      have h0 : r = [] := List.length_eq_zero_iff.1 (by rw [List.length_cons] at this; omega)
      rw [h0]; rfl
    · have := h (j + 1) (by rw [List.length_cons]; omega) (by rw [List.getD_cons_succ]; exact h9)
      rw [List.length_cons] at this; omega
set_option maxHeartbeats 4000000 in
set_option maxRecDepth 100000 in
theorem macroRemarks_any (s : ByteArray) (A : Option Addr) (c : Nat) (ways : List UInt8) (w : World) (hx : SlAt (im w) (.slice A ways.length c) (byteY.d ways)) (hs : s.size ≤ 140737488351232) (hg : Glob (im w)) :
    Calls Try.prog 20 #[.string s, .slice A ways.length c] w (PureP w fun v _ => v = .bool true) := by
  have hq : (dfnQ s).size = s.size + 9 := by
    unfold dfnQ
    rw [ByteArray.size_append, ByteArray.size_append]
    show 8 + s.size + 1 = _
    omega
  have hwl : ways.length ≤ 9223372036854775807 := by
    obtain ⟨_, _, _, k2, k3, _⟩ := hx
    exact Nat.le_trans k2 k3
  refine x_fun tt_ok Try.func20 rfl rfl [(.slice A ways.length c, byteY.d ways)] 1 [.v (.string s), .r 0] rfl rfl rfl rfl (fun b hb => by simp at hb; subst hb; exact hx) ?_
  refine x_vc tt_ok ?_
  refine xl_call0 (.bool true) rfl rfl rfl rfl fn78 rfl rfl (fun E w' F hs => alive5_any w' (hg.imm hs.imm)) ?_
  refine xl_go tt_ok ?_
  refine And.intro (by show 8 + s.size ≤ _; omega) ?_
  refine And.intro (by rw [ByteArray.size_append]; show 8 + s.size + 1 ≤ _; omega) ?_
  refine xl_callO2 31 (tokY.d (scanT (dfnQ s))) [.int .i64 (scanE (dfnQ s))] rfl rfl rfl rfl fn41 rfl rfl (fun E w F hs' => scan_any (dfnQ s) w (by omega) (hg.imm hs'.imm)) ?_
  refine xl_go tt_ok ?_
  obtain ⟨T, hT⟩ : ∃ T, T = scanT (dfnQ s) := ⟨_, rfl⟩
  have hTl : T.length ≤ 65537 := by rw [hT]; exact scanT_len _
  have hTx : ∀ t ∈ T, t.text.size ≤ 65536 := by rw [hT]; exact scanT_tx _
  rw [← hT]
  refine x_if (fun h => ?_) (fun h => ?_)
  · exact fin1 (fun _ _ => rfl)
  have h : (((decide (scanE (dfnQ s) ≠ 0) || decide (5000 < (s.size : Int))) || !true) || decide ((ways.length : Int) = 0)) = false := h
  simp only [Bool.not_true, Bool.or_false, Bool.or_eq_false_iff, decide_eq_false_iff_not, Classical.not_not] at h
  obtain ⟨⟨he, hl5⟩, hw0⟩ := h
  obtain ⟨wf, hwf⟩ : ∃ wf : Nat → Nat, wf = fun i => ((ways.getD (i % ways.length) 0).toNat % 6) := ⟨_, rfl⟩
  have hsp := rem_spelt wf he (by omega) (by omega)
  have hRl : (remU wf T T.length).length ≤ 43000 := by
    have h2 := hsp.2
    rw [← hT] at h2
    have h3 : (remT wf T).size = (remU wf T T.length).length := by
      show ((remU wf T T.length).toArray).size = _
      simp
    omega
  refine x_vc tt_ok ?_
  refine x_nil 8 5 byteY rfl ?_
  refine x_loop (σ := Int × List UInt8) (fun (i, L) => ⟨[(9, .v (.int .i64 i)), (8, .r 3), (6, .r 1), (5, .v (.bool true)), (1, .r 0), (0, .v (.string s))], [], [(3, .row 5 (byteY.d L)), (1, .row 31 (tokY.d T)), (0, .sl (byteY.d ways))], 4⟩)
    (fun (i, L) _ => 0 ≤ i ∧ i ≤ T.length ∧ L = remU wf T i.toNat ∧ ∀ j : Nat, (j : Int) < i → (T.getD j tok0).kind = 9 → j + 1 = T.length) (fun (i, _) => ((T.length : Int) - i).toNat) (fun (_, _) => of_decide_eq_true rfl) (0, []) [(3, some 2)] (.of rfl rfl rfl rfl rfl rfl) ⟨by omega, by omega, rfl, fun j hj => by omega⟩ ?_
  rintro ⟨i, L⟩ u hu ⟨g1, g2, g3, g4⟩
  refine x_vc tt_ok ?_
  refine x_if (fun h => ?_) (fun h => ?_)
  · have h : i < T.length := of_decide_eq_true h
    repeat (refine And.intro ?_ ?_; first | omega | (simp only [Lay.d_n]; omega) | (simp only [decide_eq_true_eq, decide_eq_false_iff_not, Bool.or_eq_false_iff, Bool.and_eq_true, Bool.or_eq_true, Bool.and_eq_false_iff, Bool.not_eq_true', Bool.not_eq_false', Lay.d_n]; omega) | (simp only [decide_eq_true_eq, decide_eq_false_iff_not, Bool.or_eq_false_iff, Bool.and_eq_true, Bool.or_eq_true, Bool.and_eq_false_iff, Bool.not_eq_true', Bool.not_eq_false']; omega) | (simp only [decide_eq_true_eq, decide_eq_false_iff_not, Bool.or_eq_false_iff]; simp only [Lay.d_n]; omega))
    refine x_if (fun h9 => ?_) (fun h9 => ?_)
    · exact fin1 (fun _ _ => rfl)
    have h9 : (decide ((T.getD i.toNat tok0).kind = 9) && decide (i + 1 < (T.length : Int))) = false := h9
    have hnl9 : ∀ j : Nat, (j : Int) < i + 1 → (T.getD j tok0).kind = 9 → j + 1 = T.length := by
      intro j hj hk
      by_cases hji : (j : Int) < i
      · exact g4 j hji hk
      · have hj2 : j = i.toNat := by omega
        subst hj2
        rw [decide_eq_true hk, Bool.true_and] at h9
        have := of_decide_eq_false h9
        omega
    repeat (refine And.intro ?_ ?_; first | omega | (simp only [Lay.d_n]; omega) | (simp only [decide_eq_true_eq, decide_eq_false_iff_not, Bool.or_eq_false_iff, Bool.and_eq_true, Bool.or_eq_true, Bool.and_eq_false_iff, Bool.not_eq_true', Bool.not_eq_false', Lay.d_n]; omega) | (simp only [decide_eq_true_eq, decide_eq_false_iff_not, Bool.or_eq_false_iff, Bool.and_eq_true, Bool.or_eq_true, Bool.and_eq_false_iff, Bool.not_eq_true', Bool.not_eq_false']; omega) | (simp only [decide_eq_true_eq, decide_eq_false_iff_not, Bool.or_eq_false_iff]; simp only [Lay.d_n]; omega))
    refine x_if (fun h8 => ?_) (fun h8 => ?_)
    · have h8 : (decide ((T.getD i.toNat tok0).kind = 8) || (T.getD i.toNat tok0).space) = true := h8
      refine xl_build tt_ok strY [fillT 0, fillT 1, fillT 2, fillT 3, fillT 4, fillT 5] [_, _, _, _, _, _] rfl rfl rfl rfl rfl rfl rfl rfl rfl rfl rfl rfl rfl rfl rfl ?_
      have hm0 : 0 ≤ i % (ways.length : Int) := Int.emod_nonneg _ (by omega)
      have hm1 : i % (ways.length : Int) < ways.length := Int.emod_lt_of_pos _ (by omega)
      have hb8 := (ways.getD (i % ((byteY.d ways).n : Int)).toNat byteY.dft).toNat_lt
      refine xl_go tt_ok ?_
      have hk0 : 0 ≤ ((ways.getD (i % ((byteY.d ways).n : Int)).toNat byteY.dft).toNat : Int) % 6 := Int.emod_nonneg _ (by decide)
      have hk1 : ((ways.getD (i % ((byteY.d ways).n : Int)).toNat byteY.dft).toNat : Int) % 6 < 6 := Int.emod_lt_of_pos _ (by decide)
      repeat (refine And.intro ?_ ?_; first | omega | (simp only [Lay.d_n]; omega) | exact hk1 | exact hk0)
      have hfl : (([fillT 0, fillT 1, fillT 2, fillT 3, fillT 4, fillT 5].getD (((ways.getD (i % ((byteY.d ways).n : Int)).toNat byteY.dft).toNat : Int) % 6).toNat strY.dft) : ByteArray) = fillT (wf i.toNat) := by
        have e1 : (i % ((byteY.d ways).n : Int)).toNat = i.toNat % ways.length := by
          rw [Lay.d_n, show i % (ways.length : Int) = ((i.toNat % ways.length : Nat) : Int) by rw [Int.natCast_emod, Int.toNat_of_nonneg g1]]
          exact Int.toNat_natCast _
        have e2 : (((ways.getD (i % ((byteY.d ways).n : Int)).toNat byteY.dft).toNat : Int) % 6).toNat = wf i.toNat := by
          rw [e1, hwf]
          show _ = (ways.getD (i.toNat % ways.length) 0).toNat % 6
          show (((ways.getD (i.toNat % ways.length) 0).toNat : Int) % 6).toNat = _
          omega
        rw [e2]
        exact fil_get _ (by rw [hwf]; exact Nat.mod_lt _ (by decide))
      have hpc : remU wf T (i.toNat + 1) = L ++ (fillT (wf i.toNat)).data.toList ++ (if (T.getD i.toNat tok0).kind = 8 then [] else (T.getD i.toNat tok0).text.data.toList) := by
        rw [remU, ← g3, pcU, if_pos h8, List.append_assoc]
      have hfz : (fillT (wf i.toNat)).data.toList.length = (fillT (wf i.toNat)).size := by simp
      have hmo := remU_mono wf T (show i.toNat + 1 ≤ T.length by omega)
      rw [hpc, List.length_append, List.length_append, hfz] at hmo
      refine xl_appStr tt_ok L rfl rfl rfl rfl rfl rfl rfl (by kernel_rfl) rfl rfl rfl rfl (by rw [hfl]; omega) ?_
      rw [hfl]
      refine xl_go tt_ok ?_
      repeat (refine And.intro ?_ ?_; first | omega | (simp only [Lay.d_n]; omega) | (simp only [decide_eq_true_eq, decide_eq_false_iff_not, Bool.or_eq_false_iff, Bool.and_eq_true, Bool.or_eq_true, Bool.and_eq_false_iff, Bool.not_eq_true', Bool.not_eq_false', Lay.d_n]; omega) | (simp only [decide_eq_true_eq, decide_eq_false_iff_not, Bool.or_eq_false_iff, Bool.and_eq_true, Bool.or_eq_true, Bool.and_eq_false_iff, Bool.not_eq_true', Bool.not_eq_false']; omega) | (simp only [decide_eq_true_eq, decide_eq_false_iff_not, Bool.or_eq_false_iff]; simp only [Lay.d_n]; omega))
      refine x_if (fun h7 => ?_) (fun h7 => ?_)
      · have h7 : (T.getD i.toNat tok0).kind ≠ 8 := of_decide_eq_true h7
        rw [if_neg h7] at hpc hmo
        repeat (refine And.intro ?_ ?_; first | omega | (simp only [Lay.d_n]; omega) | (simp only [decide_eq_true_eq, decide_eq_false_iff_not, Bool.or_eq_false_iff, Bool.and_eq_true, Bool.or_eq_true, Bool.and_eq_false_iff, Bool.not_eq_true', Bool.not_eq_false', Lay.d_n]; omega) | (simp only [decide_eq_true_eq, decide_eq_false_iff_not, Bool.or_eq_false_iff, Bool.and_eq_true, Bool.or_eq_true, Bool.and_eq_false_iff, Bool.not_eq_true', Bool.not_eq_false']; omega) | (simp only [decide_eq_true_eq, decide_eq_false_iff_not, Bool.or_eq_false_iff]; simp only [Lay.d_n]; omega))
        refine xl_appStr tt_ok (L ++ (fillT (wf i.toNat)).data.toList) rfl rfl rfl rfl rfl rfl rfl (by kernel_rfl) rfl rfl rfl rfl (by
          rw [List.length_append, hfz]
          have : (T.getD i.toNat tok0).text.data.toList.length = (T.getD i.toNat tok0).text.size := by simp
          show _ + (T.getD i.toNat tok0).text.size ≤ _
          omega) ?_
        refine xl_go tt_ok ?_
        repeat (refine And.intro ?_ ?_; first | omega | (simp only [Lay.d_n]; omega) | (simp only [decide_eq_true_eq, decide_eq_false_iff_not, Bool.or_eq_false_iff, Bool.and_eq_true, Bool.or_eq_true, Bool.and_eq_false_iff, Bool.not_eq_true', Bool.not_eq_false', Lay.d_n]; omega) | (simp only [decide_eq_true_eq, decide_eq_false_iff_not, Bool.or_eq_false_iff, Bool.and_eq_true, Bool.or_eq_true, Bool.and_eq_false_iff, Bool.not_eq_true', Bool.not_eq_false']; omega) | (simp only [decide_eq_true_eq, decide_eq_false_iff_not, Bool.or_eq_false_iff]; simp only [Lay.d_n]; omega))
        refine again (i + 1, L ++ (fillT (wf i.toNat)).data.toList ++ (T.getD i.toNat tok0).text.data.toList) [(3, some 6)] (.of rfl rfl rfl rfl rfl rfl) ⟨by omega, by omega, ?_, fun j hj hk => ?_⟩ (by simp only; omega)
        · rw [show (i + 1).toNat = i.toNat + 1 by omega, hpc]
        · exact hnl9 j hj hk
      · have h7 : (T.getD i.toNat tok0).kind = 8 := Classical.not_not.1 (of_decide_eq_false h7)
        rw [if_pos h7] at hpc
        repeat (refine And.intro ?_ ?_; first | omega | (simp only [Lay.d_n]; omega) | (simp only [decide_eq_true_eq, decide_eq_false_iff_not, Bool.or_eq_false_iff, Bool.and_eq_true, Bool.or_eq_true, Bool.and_eq_false_iff, Bool.not_eq_true', Bool.not_eq_false', Lay.d_n]; omega) | (simp only [decide_eq_true_eq, decide_eq_false_iff_not, Bool.or_eq_false_iff, Bool.and_eq_true, Bool.or_eq_true, Bool.and_eq_false_iff, Bool.not_eq_true', Bool.not_eq_false']; omega) | (simp only [decide_eq_true_eq, decide_eq_false_iff_not, Bool.or_eq_false_iff]; simp only [Lay.d_n]; omega))
        refine again (i + 1, L ++ (fillT (wf i.toNat)).data.toList) [(3, some 5)] (.of rfl rfl rfl rfl rfl rfl) ⟨by omega, by omega, ?_, fun j hj hk => ?_⟩ (by simp only; omega)
        · rw [show (i + 1).toNat = i.toNat + 1 by omega, hpc, List.append_nil]
        · exact hnl9 j hj hk
    · have h8 : (decide ((T.getD i.toNat tok0).kind = 8) || (T.getD i.toNat tok0).space) = false := h8
      have h7 : (T.getD i.toNat tok0).kind ≠ 8 := by
        rw [Bool.or_eq_false_iff] at h8
        exact of_decide_eq_false h8.1
      have hpc : remU wf T (i.toNat + 1) = L ++ (T.getD i.toNat tok0).text.data.toList := by
        rw [remU, ← g3, pcU, if_neg (by rw [h8]; decide), if_neg h7, List.nil_append]
      have hmo := remU_mono wf T (show i.toNat + 1 ≤ T.length by omega)
      rw [hpc, List.length_append] at hmo
      repeat (refine And.intro ?_ ?_; first | omega | (simp only [Lay.d_n]; omega) | (simp only [decide_eq_true_eq, decide_eq_false_iff_not, Bool.or_eq_false_iff, Bool.and_eq_true, Bool.or_eq_true, Bool.and_eq_false_iff, Bool.not_eq_true', Bool.not_eq_false', Lay.d_n]; omega) | (simp only [decide_eq_true_eq, decide_eq_false_iff_not, Bool.or_eq_false_iff, Bool.and_eq_true, Bool.or_eq_true, Bool.and_eq_false_iff, Bool.not_eq_true', Bool.not_eq_false']; omega) | (simp only [decide_eq_true_eq, decide_eq_false_iff_not, Bool.or_eq_false_iff]; simp only [Lay.d_n]; omega))
      refine x_ift (decide_eq_true h7) ?_
      repeat (refine And.intro ?_ ?_; first | omega | (simp only [Lay.d_n]; omega) | (simp only [decide_eq_true_eq, decide_eq_false_iff_not, Bool.or_eq_false_iff, Bool.and_eq_true, Bool.or_eq_true, Bool.and_eq_false_iff, Bool.not_eq_true', Bool.not_eq_false', Lay.d_n]; omega) | (simp only [decide_eq_true_eq, decide_eq_false_iff_not, Bool.or_eq_false_iff, Bool.and_eq_true, Bool.or_eq_true, Bool.and_eq_false_iff, Bool.not_eq_true', Bool.not_eq_false']; omega) | (simp only [decide_eq_true_eq, decide_eq_false_iff_not, Bool.or_eq_false_iff]; simp only [Lay.d_n]; omega))
      refine xl_appStr tt_ok L rfl rfl rfl rfl rfl rfl rfl (by kernel_rfl) rfl rfl rfl rfl (by
        have : (T.getD i.toNat tok0).text.data.toList.length = (T.getD i.toNat tok0).text.size := by simp
        show _ + (T.getD i.toNat tok0).text.size ≤ _
        omega) ?_
      refine xl_go tt_ok ?_
      repeat (refine And.intro ?_ ?_; first | omega | (simp only [Lay.d_n]; omega) | (simp only [decide_eq_true_eq, decide_eq_false_iff_not, Bool.or_eq_false_iff, Bool.and_eq_true, Bool.or_eq_true, Bool.and_eq_false_iff, Bool.not_eq_true', Bool.not_eq_false', Lay.d_n]; omega) | (simp only [decide_eq_true_eq, decide_eq_false_iff_not, Bool.or_eq_false_iff, Bool.and_eq_true, Bool.or_eq_true, Bool.and_eq_false_iff, Bool.not_eq_true', Bool.not_eq_false']; omega) | (simp only [decide_eq_true_eq, decide_eq_false_iff_not, Bool.or_eq_false_iff]; simp only [Lay.d_n]; omega))
      refine again (i + 1, L ++ (T.getD i.toNat tok0).text.data.toList) [(3, some 4)] (.of rfl rfl rfl rfl rfl rfl) ⟨by omega, by omega, ?_, fun j hj hk => ?_⟩ (by simp only; omega)
      · rw [show (i + 1).toNat = i.toNat + 1 by omega, hpc]
      · exact hnl9 j hj hk
  · have h : ¬ i < T.length := of_decide_eq_false h
    have hi : i.toNat = T.length := by omega
    rw [hi] at g3
    have hb : remT wf T = ⟨L.toArray⟩ := by rw [g3]; rfl
    rw [← hT, hb] at hsp
    have hbr : bl ⟨L.toArray⟩ = Lx.ren wf 0 (T.map ftk) := by rw [← hb]; exact remT_ren wf T
    have hlaw := remarks_law he (by rw [← hT]; exact nlLast_of T (fun j hj h9 => g4 j (by omega) h9)) (by rw [← hT]; exact hbr) hsp.1
    refine xl_bytesStr L rfl rfl rfl rfl Try.underlying61 Try.underlying5 Try.underlying9 rfl (fun E w F hs => hs.rowAt (k := 3) rfl) ?_
    refine xl_call0 (.tuple #[.string (spellS ⟨L.toArray⟩), .int .i64 0]) rfl rfl rfl rfl fn47 rfl rfl (fun E w F _ => by
      have := spell_any ⟨L.toArray⟩ w (by omega)
      rw [hsp.1] at this
      exact this) ?_
    refine xl_go tt_ok ?_
    refine And.intro (by show 8 + s.size ≤ _; omega) ?_
    refine And.intro (by rw [ByteArray.size_append]; show 8 + s.size + 1 ≤ _; omega) ?_
    obtain ⟨r, hr⟩ : ∃ r, r = definedR (dfnQ s) := ⟨_, rfl⟩
    have hsm : MSm r.1 65537 := by rw [hr]; exact definedR_sm _
    have hgu : Glob u := hg.sub hu.sub
    refine xl_callStar (fun s : MA => .tuple #[mVal r.1 s, .int .i64 r.2]) (fun s => mStar r.1 s) (fun _ => True) rfl rfl rfl rfl fn79 rfl rfl
      (fun E w' F hs => by rw [hr]; exact defined_any (dfnQ s) w' (by omega) (hgu.imm hs.imm)) (fun sm1 _ => ?_)
    refine xl_go tt_ok ?_
    refine xl_callStar (fun s : MA => .tuple #[mVal r.1 s, .int .i64 r.2]) (fun s => mStar r.1 s) (fun _ => True) rfl rfl rfl rfl fn79 rfl rfl
      (fun E w' F hs => by
        rw [hr, ← hlaw]
        exact defined_any _ w' (Nat.le_trans (spellS_size _) (by decide)) (hgu.imm hs.imm)) (fun sm2 _ => ?_)
    refine xl_go tt_ok ?_
    refine xl_gcallF (.bool true) rfl rfl rfl rfl fn33 rfl rfl (fun E w' F hs => by
      have := macroSame_any r.1 r.1 (noP r.1) (noP r.1) sm1 sm2 w' (star_at hs (k := 4) rfl hsm (by omega)) (star_at hs (k := 6) rfl hsm (by omega))
      rw [mSame_refl] at this
      exact this) ?_
    refine xl_go tt_ok ?_
    refine fin1 (fun _ _ => ?_)
    show Value.bool (true && decide ((0 : Int) = 0) && decide (r.2 = r.2) && true) = .bool true
    simp
end Go.Proofs.Ytdonomneofdhfaa
namespace Go.Proofs.Ytdonomneofdhfaa
open Go.GV Go.RowKit
section
variable {H : Type} {enc : TypeId × Value → H} {w : World}
def byteIn (u : Im) (x : Value) (i : Int) : UInt8 := UInt8.ofNat (vInt (cellAt u x 1 i 0)).toNat
def bytesIn (u : Im) (x : Value) : List UInt8 := (List.range (vN x)).map fun i : Nat => byteIn u x i
theorem bytesIn_getD (u : Im) (x : Value) {i : Nat} (h : i < vN x) : (bytesIn u x).getD i 0 = byteIn u x i := by
  rw [List.getD_eq_getElem?_getD]
  simp [bytesIn, h]
theorem open_bytesIn {x : Value} (h : Tr enc Try.prog w 61 [x]) : SlAt (im w) x (byteY.d (bytesIn (im w) x)) := by
  obtain ⟨A, n, c, h1, h2, h3, h4⟩ := h.slice Try.underlying61 (by kernel_rfl : _ = 1)
  have hn : vN x = n := by rw [h1]; rfl
  refine h3.ext (by simp [dataAt, Lay.d, bytesIn, hn]) rfl fun i hi j f f' hf hf' => ?_
  have hi' : i < n := hi
  obtain ⟨k0, e0, r0⟩ := (h4 i (by omega) (by omega)).int Try.underlying5
  have hg := bytesIn_getD (im w) x (i := i) (by omega)
  match j, hf, hf' with
  | 0, hf, hf' =>
    cases hf; cases hf'
    show cellAt (im w) x 1 i 0 = .int .u8 (((bytesIn (im w) x).getD (i : Int).toNat 0).toNat : Int)
    have e1 : cellAt (im w) x 1 i 0 = .int .u8 k0 := by simpa using e0
    have hg' : (bytesIn (im w) x).getD (i : Int).toNat 0 = byteIn (im w) x i := hg
    rw [hg', e1]
    unfold byteIn
    rw [e1]
    simp only [vInt]
    have h9 : IntKind.u8.min ≤ k0 ∧ k0 ≤ IntKind.u8.max := by simpa [Lit.wf] using r0
    have h10 : (0 : Int) ≤ k0 ∧ k0 ≤ 255 := h9
    rw [UInt8.toNat_ofNat', show ((k0.toNat % 2 ^ 8 : Nat) : Int) = k0 by omega]
  | j + 1, hf, hf' => simp [Lay.d] at hf'
end
theorem trz_strB {H : Type} {enc : TypeId × Value → H} {P : Program} {w : World} {t : TypeId} {cs : List Value} (ht : P.underlying t = some .string) (h : TrZ enc P w t cs) : ∃ s : ByteArray, cs = [.string s] ∧ s.size ≤ 140737488351232 := by
  obtain ⟨f, x, h, hz⟩ := h
  obtain ⟨s, h1, h3, h2⟩ := DataW.trod_string ht h
  refine ⟨s, h1, hz s.size ?_⟩
  rw [h3]
  simp [DataW.weights]
theorem macroRemarks_in (s : ByteArray) (A : Option Addr) (n c : Nat) (w : World) (hx : SlAt (im w) (.slice A n c) (byteY.d (bytesIn (im w) (.slice A n c)))) (hs : s.size ≤ 140737488351232) (hg : Glob (im w)) :
    Calls Try.prog 20 #[.string s, .slice A n c] w (PureP w fun v _ => v = .bool true) := by
  obtain ⟨L, hL⟩ : ∃ L, L = bytesIn (im w) (.slice A n c) := ⟨_, rfl⟩
  have hl : L.length = n := by
    rw [hL]; simp [bytesIn]; rfl
  rw [← hL] at hx
  subst hl
  exact macroRemarks_any s A c L w hx hs hg
end Go.Proofs.Ytdonomneofdhfaa
namespace Go.Proofs.Ytdonomneofdhfaa
open Go.ChangeShapes Go.WideShapes Go.ChangeAt Go.RowKit Go.GV
theorem own : ownKnob Try.prog.godebug = none := by kernel_rfl
theorem laidOut : laidOutB Try.prog = true := by kernel_rfl
theorem fMaps : mapsRowed Try.prog = true := by kernel_rfl
theorem fHeard : Try.prog.stopsHeard = true := by kernel_rfl
theorem fEnter : Try.prog.mayEnter = true := by kernel_rfl
theorem fLifts : (Rows.linesTellsRow.lifted == Try.prog.liftsFinal) = true := by kernel_rfl
theorem fMake : (Try.prog.make == some Rows.linesTellsRow.make) = true := by kernel_rfl
theorem jmk {a0 a1 a2 a3 a4 a5 a6 a7 a8 a9 a10 a11 a12 a13 a14 a15 a16 a17 a18 a19 a20 a21 a22 a23 a24 a25 a26 a27 a28 a29 a30 a31 : Bool} (h0 : a0 = true) (h1 : a1 = true) (h2 : a2 = true) (h3 : a3 = true) (h4 : a4 = true) (h5 : a5 = true) (h6 : a6 = true) (h7 : a7 = true) (h8 : a8 = true) (h9 : a9 = true) (h10 : a10 = true) (h11 : a11 = true) (h12 : a12 = true) (h13 : a13 = true) (h14 : a14 = true) (h15 : a15 = true) (h16 : a16 = true) (h17 : a17 = true) (h18 : a18 = true) (h19 : a19 = true) (h20 : a20 = true) (h21 : a21 = true) (h22 : a22 = true) (h23 : a23 = true) (h24 : a24 = true) (h25 : a25 = true) (h26 : a26 = true) (h27 : a27 = true) (h28 : a28 = true) (h29 : a29 = true) (h30 : a30 = true) (h31 : a31 = true) :
    (a0 && a1 && a2 && a3 && a4 && a5 && a6 && a7 && a8 && a9 && a10 && a11 && a12 && a13 && a14 && a15 && a16 && a17 && a18 && a19 && a20 && a21 && a22 && a23 && a24 && a25 && a26 && a27 && a28 && a29 && a30 && a31) = true := by simp only [h0, h1, h2, h3, h4, h5, h6, h7, h8, h9, h10, h11, h12, h13, h14, h15, h16, h17, h18, h19, h20, h21, h22, h23, h24, h25, h26, h27, h28, h29, h30, h31, Bool.and_self]
end Go.Proofs.Ytdonomneofdhfaa
namespace Go.Proofs.Ytdonomneofdhfaa
open Go.ChangeShapes Go.WideShapes Go.ChangeAt Go.RowKit Go.GV
set_option maxRecDepth 100000 in
theorem lifted (os : Os) (started : os.Started) (H : Type) (enc : TypeId × Value → H) :
    ReturnsInHanded {} Try.checked os 20 .any (Rows.macroRemarksSpec.pre6 enc Try.prog Try.f20 Rows.macroRemarksRow.domain false) (Rows.macroRemarksSpec.post enc Try.prog Try.f20 false true false false) := by
  refine returnsInHanded_of_change_shaped (C := Try.checked) own started (by kernel_rfl) Try.func20
    (ChangeSpec.witness6 (enc := enc) (C := Try.checked) false ⟨#[], #[.string ⟨#[]⟩, .slice none 0 0], []⟩ 8 (by kernel_rfl) (by kernel_rfl) (by kernel_rfl) (by kernel_rfl)) ?_
  intro W base args ds gs before hval0 hW hcnd hz hsh _
  have hval : ∀ (j : Nat) t v, Try.f20.params[j]? = some t → args[j]? = some v → Value.okWide Try.prog W .any base t v := hval0
  have hW' := hW
  obtain ⟨p, q, hA0, hV, rfl, hfz, hnd⟩ := hW
  have hA : DataW.TrodAll enc Try.prog W 0 (fun _ => true) true Try.f20.params.toList args.toList ds p := hA0
  rw [Try.params20] at hA hval hz
  obtain ⟨v0, vs0, d0, ds0, p0, q0, hargs, rfl, rfl, h0, r0⟩ := trodAll_cons hA
  obtain ⟨v1, vs1, d1, ds1, p1, q1, rfl, rfl, rfl, h1, r1⟩ := trodAll_cons r0
  obtain ⟨rfl, rfl, rfl⟩ := trodAll_nil r1
  obtain rfl : args = #[v0, v1] := by cases args; simp_all
  obtain ⟨rfl, rfl⟩ := trodVars_none hV
  obtain ⟨x0, rfl⟩ := okWide_string Try.underlying9 (hval 0 9 v0 rfl rfl)
  obtain ⟨a1, len1, cap1, rfl⟩ := okWide_slice Try.underlying61 (hval 1 61 v1 rfl rfl)
  have lt0 : ∀ x ∈ p0, x.block < W.heap.size := by obtain ⟨m, hm⟩ := h0; exact DataW.trod_lt m _ _ _ hm
  have lt1 : ∀ x ∈ p1, x.block < W.heap.size := by obtain ⟨m, hm⟩ := h1; exact DataW.trod_lt m _ _ _ hm
  have hg : Glob (im W) := Try.laysM143.s1_3 W hsh
  have hx0 : x0.size ≤ 140737488351232 := by
    obtain ⟨s, e1, e2⟩ := trz_strB Try.underlying9 (TrZ.of (j := 0) hz rfl rfl h0)
    simp only [Value.cells, List.cons.injEq, and_true, Value.string.injEq] at e1
    subst e1
    exact e2
  have o1 := open_bytesIn (TrZ.of (j := 1) hz rfl rfl h1).tr
  clear hA0 hval0
  refine (macroRemarks_in _ _ _ _ W o1 hx0 hg).mono fun e W' ⟨v, he, bel, hv⟩ => ?_
  subst he hv
  exact ⟨_, rfl, _, _, _, [], _, [], hW', trodAll_mk1 (shut_bool Try.underlying4 _), (trodAll_cons_mk (Below.trod laidOut (by kernel_rfl) (of_decide_eq_true (by kernel_rfl)) h0 bel lt0) (trodAll_cons_mk (Below.trod laidOut (by kernel_rfl) (of_decide_eq_true (by kernel_rfl)) h1 bel lt1) trodAll_mk0)), rfl, bel.frame _, fun h => by cases h⟩
theorem c9 : (Rows.macroRemarksRow.inPlace == Try.prog.inPlace 20) = true := by kernel_rfl
theorem c10 : (Rows.macroRemarksRow.unfollowed == Try.prog.unfollowed 20) = true := by kernel_rfl
theorem c11 : (Rows.macroRemarksRow.recurses == Try.prog.recurses 20) = true := by kernel_rfl
theorem c12 : (Rows.macroRemarksRow.named == Try.prog.varsNamed 20) = true := by kernel_rfl
theorem closed : joinedFacts Try.prog 20 Try.f20 Rows.macroRemarksSpec Rows.macroRemarksRow = true :=
  jmk (by kernel_rfl) laidOut fMaps (by kernel_rfl) (by kernel_rfl) (by kernel_rfl) (by kernel_rfl) (by kernel_rfl) (by kernel_rfl) c9 c10 c11 c12 (by kernel_rfl) (by kernel_rfl) (by kernel_rfl) (by kernel_rfl) (by kernel_rfl) (by kernel_rfl) (by kernel_rfl) (by kernel_rfl) (by kernel_rfl) (by kernel_rfl) (by kernel_rfl) fHeard fEnter fLifts fMake (by kernel_rfl) (by kernel_rfl) (by kernel_rfl) (by kernel_rfl)
theorem named : Try.prog.funcNamed Rows.macroRemarksRow.func = some 20 := by kernel_rfl
theorem inst : Try.f20.isInstance Try.prog Rows.macroRemarksRow.origin Rows.macroRemarksRow.targs := of_decide_eq_true (by kernel_rfl)
theorem wrap : Try.f20.isWrapper Try.prog Rows.macroRemarksRow.wrapper Rows.macroRemarksRow.mainSum := by unfold Func.isWrapper; first | (rw [if_pos (by decide +kernel)]; kernel_rfl) | (rw [if_neg (by decide +kernel)]; exact ⟨rfl, rfl⟩)
theorem over : Rows.macroRemarksRow.holds Try.pinned (OpenSpec.ofChange Rows.macroRemarksSpec) :=
  OpenClaim.holds_of_wide 20 Try.f20 rfl rfl rfl rfl rfl rfl rfl ⟨rfl, rfl, rfl, rfl, rfl⟩ rfl rfl rfl rfl rfl named Try.func20 closed inst wrap
    (fun os started H enc _ => lifted os started H enc)
theorem macroRemarks_proved : Rows.MacroRemarksSaid := over
#print axioms macroRemarks_proved
end Go.Proofs.Ytdonomneofdhfaa
