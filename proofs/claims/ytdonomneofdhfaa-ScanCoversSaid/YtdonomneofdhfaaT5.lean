/- ScanCovers: what stands between the characters of a text, and between its tokens. -/
import Derived.Test.YtdonomneofdhfaaT4
namespace Go.Proofs.Ytdonomneofdhfaa
open Go.GV Go.RowKit

def gapB (c : Int) : Bool := decide (c = 32) || decide (c = 9) || decide (c = 11) || decide (c = 12) || decide (c = 92) || decide (c = 10) || decide (c = 63) || decide (c = 47)
/-- white space and splices alone from a place to another -/
def Gap (s : ByteArray) (a b : Int) : Prop := ∀ i, a ≤ i → i < b → gapB (bt s i) = true

theorem Gap.trans {s : ByteArray} {a b c : Int} (h1 : Gap s a b) (h2 : Gap s b c) : Gap s a c := fun i hi hj => by
  by_cases h : i < b
  · exact h1 i hi h
  · exact h2 i (by omega) hj

/-- characters from a place on -/
def Good (s : ByteArray) : Int → List Chr → Prop
  | i, [] => Gap s i s.size
  | i, c :: r => i ≤ c.pos ∧ Gap s i c.pos ∧ 1 ≤ c.len ∧ c.pos + c.len ≤ s.size ∧ (c.len = 1 → c.b = bt s c.pos) ∧ (c.len ≠ 1 → Lx.white c.b = false) ∧ Good s (c.pos + c.len) r

theorem Good.back {s : ByteArray} {i j : Int} {C : List Chr} (h : Good s j C) (hij : i ≤ j) (hg : Gap s i j) : Good s i C := by
  cases C with
  | nil => exact hg.trans h
  | cons c r =>
    obtain ⟨h1, h2, h3⟩ := h
    exact ⟨by omega, hg.trans h2, h3⟩

theorem third_white (c : Int) : Lx.white (third c) = false := by
  unfold third
  (repeat' split) <;> rfl

theorem splice_gap {s : ByteArray} {i : Int} (h : spl s i = true) : Gap s i (i + (chN s i + 1)) := by
  unfold spl at h
  simp only [Bool.and_eq_true, decide_eq_true_eq] at h
  obtain ⟨⟨h1, h2⟩, h3⟩ := h
  intro j hj hj2
  by_cases ht : triB s i = true
  · have hn : chN s i = 3 := by rw [chN, if_pos ht]
    rw [chB, if_pos ht] at h1
    have h47 : bt s (i + 2) = 47 := by
      unfold third at h1
      (repeat' split at h1) <;> first | omega | assumption
    unfold triB at ht
    simp only [Bool.and_eq_true, decide_eq_true_eq] at ht
    obtain ⟨⟨⟨_, a1⟩, a2⟩, _⟩ := ht
    rw [hn] at h3 hj2
    have : j = i ∨ j = i + 1 ∨ j = i + 2 ∨ j = i + 3 := by omega
    rcases this with rfl | rfl | rfl | rfl
    · rw [a1]; rfl
    · rw [a2]; rfl
    · rw [h47]; rfl
    · rw [h3]; rfl
  · have hn : chN s i = 1 := by rw [chN, if_neg ht]
    rw [chB, if_neg ht] at h1
    rw [hn] at h3 hj2
    have : j = i ∨ j = i + 1 := by omega
    rcases this with rfl | rfl
    · rw [h1]; rfl
    · rw [h3]; rfl

theorem good_parts (s : ByteArray) : ∀ (n : Nat) (i : Int), 0 ≤ i → i ≤ s.size → (s.size : Int) - i ≤ n → Good s i (chrsL (partsF s n i))
  | 0, i, h0, h1, hn => by
    show Gap s i s.size
    intro j a b; omega
  | n + 1, i, h0, h1, hn => by
    rw [partsF]
    by_cases hi : i < s.size
    · rw [if_pos hi]
      obtain ⟨l1, l2⟩ := partP_len s h0 hi
      have ih := good_parts s n (i + (partP s i).len) (by omega) l2 (by omega)
      rw [chrsL]
      by_cases hsp : spl s i = true
      · have e : partP s i = ⟨0, i, chN s i + 1, true⟩ := by rw [partP, if_pos hsp]
        rw [if_pos (by rw [e])]
        refine ih.back (by omega) ?_
        rw [e]
        exact splice_gap hsp
      · have e : partP s i = ⟨chB s i, i, chN s i, false⟩ := by rw [partP, if_neg hsp]
        rw [if_neg (by rw [e]; simp)]
        have hp := partP_pos s i
        refine ⟨by show i ≤ (partP s i).pos; omega, by show Gap s i (partP s i).pos; rw [hp]; intro j a b; omega, l1, by rw [hp]; exact l2, ?_, ?_, by rw [hp]; exact ih⟩
        · rw [e]
          show chN s i = 1 → chB s i = bt s i
          intro h
          unfold chN at h
          unfold chB
          split at h
          · omega
          · rename_i h2; rw [if_neg h2]
        · rw [e]
          show chN s i ≠ 1 → Lx.white (chB s i) = false
          intro h
          unfold chN at h
          unfold chB
          split at h
          · rename_i h2; rw [if_pos h2]; exact third_white _
          · exact absurd rfl h
    · rw [if_neg hi]
      show Gap s i s.size
      intro j a b; omega

theorem white_gap {c : Int} (h : Lx.white c = true) : gapB c = true := by
  unfold Lx.white at h
  simp only [Bool.or_eq_true, decide_eq_true_eq] at h
  unfold gapB
  rcases h with ((rfl | rfl) | rfl) | rfl <;> rfl

theorem Good.white {s : ByteArray} {i : Int} {c : Chr} {r : List Chr} (h : Good s i (c :: r)) (hw : Lx.white c.b = true) : Good s i r := by
  obtain ⟨h1, h2, h3, h4, h5, h6, h7⟩ := h
  have hl : c.len = 1 := by
    by_cases hl : c.len = 1
    · exact hl
    · rw [h6 hl] at hw; cases hw
  refine h7.back (by omega) (h2.trans ?_)
  rw [hl]
  intro j a b
  have : j = c.pos := by omega
  rw [this, ← h5 hl]
  exact white_gap hw

/-- several characters, one after the other -/
theorem Good.run {s : ByteArray} : ∀ (m : Nat) {i : Int} {C : List Chr} (d : Chr), Good s i C → m + 1 ≤ C.length →
    i ≤ (C.getD 0 d).pos ∧ Gap s i (C.getD 0 d).pos ∧ (C.getD 0 d).pos + ((m + 1 : Nat) : Int) ≤ (C.getD m d).pos + (C.getD m d).len ∧ (C.getD m d).pos + (C.getD m d).len ≤ s.size ∧
    ((C.getD m d).pos + (C.getD m d).len - (C.getD 0 d).pos = ((m + 1 : Nat) : Int) → ∀ j, j < m + 1 → (C.getD j d).b = bt s ((C.getD 0 d).pos + j)) ∧ Good s ((C.getD m d).pos + (C.getD m d).len) (C.drop (m + 1))
  | 0, i, c :: r, d, h, _ => by
    obtain ⟨h1, h2, h3, h4, h5, h6, h7⟩ := h
    refine ⟨h1, h2, ?_, h4, ?_, h7⟩
    · show c.pos + ((0 + 1 : Nat) : Int) ≤ c.pos + c.len
      omega
    · intro he j hj
      have he : c.pos + c.len - c.pos = ((0 + 1 : Nat) : Int) := he
      have : j = 0 := by omega
      subst this
      show c.b = bt s (c.pos + (0 : Nat))
      rw [h5 (by omega)]; congr 1; omega
  | m + 1, i, c :: r, d, h, hm => by
    obtain ⟨h1, h2, h3, h4, h5, h6, h7⟩ := h
    simp only [List.length_cons] at hm
    obtain ⟨q1, q2, q3, q4, q5, q6⟩ := Good.run m d h7 (by omega)
    simp only [List.getD_cons_zero, List.getD_cons_succ, List.drop_succ_cons]
    refine ⟨h1, h2, by omega, q4, ?_, q6⟩
    intro he j hj
    have hl : c.len = 1 := by omega
    cases j with
    | zero =>
      simp only [List.getD_cons_zero]
      rw [h5 hl]; congr 1; omega
    | succ j =>
      simp only [List.getD_cons_succ]
      rw [q5 (by omega) j (by omega)]; congr 1; omega
  | 0, _, [], _, _, hm => by simp at hm
  | m + 1, _, [], _, _, hm => by simp at hm

/-- the tokens of a text cover it, from a place on -/
def Cov (s : ByteArray) : Int → List Tok → Prop
  | a, [] => Gap s a s.size
  | a, t :: r => a ≤ t.lo ∧ t.lo < t.hi ∧ t.hi ≤ s.size ∧ Gap s a t.lo ∧ (t.text.size : Int) ≤ t.hi - t.lo ∧ (t.hi - t.lo = t.text.size → sub s t.lo t.hi = t.text) ∧ Cov s t.hi r

theorem tl_get {s : ByteArray} {i : Int} (h0 : 0 ≤ i) {j : Nat} (h : i + j < s.size) : (tl s i)[j]? = some (bt s (i + j)) := by
  unfold tl
  rw [List.getElem?_drop, bl_get s (by omega)]
  congr 2
  omega

theorem cov_its {s l : ByteArray} {C : List Chr} (hl : bl l = C.map (·.b)) : ∀ (n : Nat) (st k a p : Int), 0 ≤ a → 0 ≤ k → (l.size : Int) - k ≤ n → Good s a (C.drop k.toNat) → errK (itA l st k) = 0 → Cov s a (tks C l p (itA l st k)) := by
  have hlen : C.length = l.size := by have := congrArg List.length hl; rw [bl_len, List.length_map] at this; exact this.symm
  intro n
  induction n with
  | zero =>
    intro st k a p ha h0 hn hg _
    rw [itA_nil (by omega)]
    rw [List.drop_eq_nil_of_le (by omega)] at hg
    exact hg
  | succ n ih =>
    intro st k a p ha h0 hn hg he
    by_cases hk : k < l.size
    · rw [itA_cons h0 hk] at he ⊢
      have hkc : k.toNat < C.length := by omega
      have hd : C.drop k.toNat = C.getD k.toNat charY.dft :: C.drop (k.toNat + 1) := by
        rw [List.getD_eq_getElem?_getD, List.getElem?_eq_getElem hkc]; exact List.drop_eq_getElem_cons hkc
      have hbk : ∀ j : Nat, j < C.length → (C.getD j charY.dft).b = bt l j := by
        intro j hj
        have h1 := bl_get l (n := j) (by omega)
        rw [hl, List.getElem?_map, List.getElem?_eq_getElem hj] at h1
        rw [List.getD_eq_getElem?_getD, List.getElem?_eq_getElem hj]
        exact Option.some.inj h1
      by_cases hw : Lx.white (bt l k) = true
      · rw [if_pos hw] at he ⊢
        rw [hd] at hg
        have hb : (C.getD k.toNat charY.dft).b = bt l k := by rw [hbk _ hkc]; congr 1; omega
        refine ih st (k + 1) a p ha (by omega) (by omega) ?_ he
        rw [show (k + 1).toNat = k.toNat + 1 by omega]
        exact hg.white (by rw [hb]; exact hw)
      · rw [if_neg hw] at he ⊢
        by_cases hz : (itm l st k).err = 0
        · rw [if_neg (by simpa using hz)] at he ⊢
          obtain ⟨m1, m2⟩ := itm_le h0 hk hz
          obtain ⟨m, hm⟩ : ∃ m, (itm l st k).len = m + 1 := ⟨(itm l st k).len - 1, by omega⟩
          rw [errK, if_neg (by simp)] at he
          obtain ⟨q1, q2, q3, q4, q5, q6⟩ := Good.run m charY.dft hg (by rw [List.length_drop]; omega)
          have g0 : (C.drop k.toNat).getD 0 charY.dft = C.getD k.toNat charY.dft := by rw [hd]; rfl
          have gm : ∀ j, (C.drop k.toNat).getD j charY.dft = C.getD (k.toNat + j) charY.dft := by
            intro j; rw [List.getD_eq_getElem?_getD, List.getD_eq_getElem?_getD, List.getElem?_drop]
          simp only [gm, Nat.add_zero] at q1 q2 q3 q4 q5 q6
          have eh : (((k.toNat + (itm l st k).len : Nat) : Int) - 1).toNat = k.toNat + m := by omega
          have ek : ((k.toNat : Nat) : Int) = k := by omega
          have hts : ((sub l k (k + (itm l st k).len)).size : Int) = (itm l st k).len := by rw [sub_size h0 (by omega) m2]; omega
          rw [tks]
          simp only [Cov]
          rw [eh, ek, show ((k.toNat + (itm l st k).len : Nat) : Int) = k + (itm l st k).len by omega]
          refine ⟨q1, by omega, q4, q2, by rw [hts]; omega, ?_, ?_⟩
          · intro hsz
            rw [hts] at hsz
            apply bl_inj
            have hlo : 0 ≤ (C.getD k.toNat charY.dft).pos := by omega
            rw [bl_sub s hlo (by omega) q4, bl_part l h0 (by omega) m2, Int.toNat_natCast]
            refine List.ext_getElem? fun j => ?_
            rw [List.getElem?_take, List.getElem?_take, show ((C.getD (k.toNat + m) charY.dft).pos + (C.getD (k.toNat + m) charY.dft).len - (C.getD k.toNat charY.dft).pos).toNat = (itm l st k).len by omega]
            by_cases hj : j < (itm l st k).len
            · rw [if_pos hj, if_pos hj, tl_get hlo (by omega), tl_get h0 (by omega)]
              have := q5 (by omega) j (by omega)
              rw [hbk _ (by omega)] at this
              rw [← this]; congr 2; omega
            · rw [if_neg hj, if_neg hj]
          · refine ih _ (k + (itm l st k).len) _ _ (by omega) (by omega) (by omega) ?_ he
            rw [List.drop_drop] at q6
            rw [show (k + ((itm l st k).len : Int)).toNat = k.toNat + (m + 1) by omega]
            exact q6
        · rw [if_pos hz, errK, if_pos hz] at he
          exact absurd he hz
    · rw [itA_nil (by omega)]
      rw [List.drop_eq_nil_of_le (by omega)] at hg
      exact hg

theorem bl_logB (s : ByteArray) : bl (logB s) = (charsOf s).map (·.b) := by
  unfold bl logB
  simp only [List.map_map]
  refine List.map_congr_left fun c hc => ?_
  exact byC_nat (charsOf_b hc)

theorem scan_cov {s : ByteArray} (h : scanE s = 0) : Cov s 0 (scanT s) := by
  obtain ⟨e1, e2, e3, e4⟩ := scanE_zero h
  rw [e3, ← itA_zero]
  refine cov_its (bl_logB s) (logB s).size 0 0 0 0 (Int.le_refl _) (Int.le_refl _) (by omega) ?_ ?_
  · have hc : charsOf s = chrsL (partsF s s.size 0) := by rw [charsOf, if_pos e1]; rfl
    rw [hc]
    exact good_parts s _ 0 (Int.le_refl _) (by omega) (by omega)
  · rw [itA_zero]; exact e2
end Go.Proofs.Ytdonomneofdhfaa
