/- CtokOne: the plain law and the walk. -/
import Derived.Test.YtdonomneofdhfaaN27
namespace Go.GV
open Go.RowKit
theorem TrZ.strB {H : Type} {enc : TypeId × Value → H} {P : Program} {w : World} {t : TypeId} {cs : List Value} (ht : P.underlying t = some .string) (h : TrZ enc P w t cs) : ∃ s : ByteArray, cs = [.string s] ∧ s.size ≤ 140737488351232 := by
  obtain ⟨f, x, h, hz⟩ := h
  obtain ⟨s, h1, h3, h2⟩ := DataW.trod_string ht h
  refine ⟨s, h1, hz s.size ?_⟩
  rw [h3]
  simp [DataW.weights]
end Go.GV
namespace Go.Proofs.Ytdonomneofdhfaa
open Go.GV Go.RowKit

/-! ### A text that ends in _ -/
def E95 (L : List Int) : Prop := L.getLast? = some 95
theorem E95.ne {L : List Int} (h : E95 L) : L ≠ [] := fun e => by rw [e] at h; cases h
theorem E95.tail {c : Int} {r : List Int} (h : E95 (c :: r)) (hc : c ≠ 95) : E95 r := by
  unfold E95 at *
  cases r with
  | nil => simp at h; exact absurd h hc
  | cons d q => rw [List.getLast?_cons_cons] at h; exact h
theorem E95.drop : ∀ {k : Nat} {L : List Int}, E95 L → k < L.length → E95 (L.drop k)
  | 0, L, h, _ => h
  | k + 1, [], h, hk => by simp at hk
  | k + 1, c :: r, h, hk => by
    rw [List.drop_succ_cons]
    cases r with
    | nil => simp at hk
    | cons d q =>
      unfold E95 at h
      rw [List.getLast?_cons_cons] at h
      exact E95.drop (L := d :: q) h (by simpa using hk)
theorem E95.run {b : Int} (hb : b ≤ 16) : ∀ {L : List Int}, E95 L → runB b L < L.length
  | [], h => absurd rfl h.ne
  | c :: r, h => by
    simp only [runB]
    split
    · rename_i hc
      have hc2 : c ≠ 95 := fun e => by subst e; have : dg 95 = 16 := by rfl
                                       omega
      have := E95.run hb (h.tail hc2)
      simp only [List.length_cons]; omega
    · simp
theorem E95.sgn {L : List Int} (h : E95 L) : sgnL L < L.length := by
  cases L with
  | nil => exact absurd rfl h.ne
  | cons c r =>
    simp only [sgnL]
    split
    · rename_i hc
      have hc2 : c ≠ 95 := fun e => by subst e; simp at hc
      have := (h.tail hc2).ne
      cases r with
      | nil => exact absurd rfl this
      | cons => simp
    · simp
theorem E95.exp {m : Int} (hm : m = 101 ∨ m = 112) {L : List Int} (h : E95 L) : (expL m L).1 < L.length := by
  cases L with
  | nil => exact absurd rfl h.ne
  | cons c r =>
    simp only [expL]
    split
    · rename_i hc
      have hc2 : c ≠ 95 := fun e => by subst e; simp at hc; omega
      have h1 := h.tail hc2
      have h2 := h1.sgn
      have h3 := (h1.drop h2).run (b := 10) (by omega)
      rw [List.length_drop] at h3
      simp only [List.length_cons]; omega
    · simp
theorem E95.fsuf {L : List Int} (h : E95 L) : fsufL L = false := by
  unfold fsufL
  rw [decide_eq_false h.ne, decide_eq_false (fun e => by rw [e] at h; cases h), decide_eq_false (fun e => by rw [e] at h; cases h), decide_eq_false (fun e => by rw [e] at h; cases h), decide_eq_false (fun e => by rw [e] at h; cases h)]
  rfl
theorem E95.last {s : ByteArray} (h : E95 (bl s)) : 0 < s.size ∧ bt s ((s.size : Int) - 1) = 95 := by
  have h1 := List.length_pos_iff.2 h.ne
  rw [bl_len] at h1
  refine ⟨h1, ?_⟩
  unfold E95 at h
  rw [List.getLast?_eq_getElem?, bl_len] at h
  have h2 := bl_get s (n := s.size - 1) (by omega)
  rw [h] at h2
  rw [show (((s.size - 1 : Nat)) : Int) = (s.size : Int) - 1 by omega] at h2
  exact (Option.some.inj h2).symm
theorem isSuf_iff {s : ByteArray} : isSuf s = true ↔ bl s ∈ ([[], [108], [108, 108], [76], [76, 76]] : List (List Int)) := by
  unfold isSuf
  rw [bl_eq, bl_eq, bl_eq, bl_eq, bl_eq]
  simp only [Bool.or_eq_true, decide_eq_true_eq, List.mem_cons, List.not_mem_nil, or_false]
  exact Iff.rfl
theorem E95.suf {s : ByteArray} (h : E95 (bl s)) : sufO s = false := by
  obtain ⟨h1, h2⟩ := h.last
  have key : ∀ r : ByteArray, E95 (bl r) → isSuf r = false := fun r hr => by
    cases hh : isSuf r with
    | false => rfl
    | true =>
      have := isSuf_iff.1 hh
      simp only [List.mem_cons, List.not_mem_nil, or_false] at this
      rcases this with e | e | e | e | e <;> (rw [e] at hr; cases hr)
  unfold sufO sufR
  by_cases hu : headU s = true
  · rw [if_pos hu]
    apply key
    unfold headU isU at hu
    simp only [Bool.and_eq_true, Bool.or_eq_true, decide_eq_true_eq] at hu
    have e := tl_cons (s := s) (i := 0) (by omega) (by omega)
    rw [tl_zero] at e
    rw [bl_rest s (by omega) (by omega)]
    rw [e] at h
    exact h.tail (by omega)
  · rw [if_neg hu]
    have hl : ¬ lastU s = true := fun hl => by
      unfold lastU isU at hl
      simp only [Bool.and_eq_true, Bool.or_eq_true, decide_eq_true_eq] at hl
      omega
    rw [if_neg hl]
    exact key s h

theorem none_under {s : ByteArray} (h : E95 (bl s)) : noneB s = true := by
  obtain ⟨h1, h2⟩ := h.last
  have hat := atT_range s
  have hx : atT s < s.size := by
    unfold atT
    split
    · rename_i hx
      have h3 := hexT_size hx
      unfold hexT at hx
      simp only [Bool.and_eq_true, Bool.or_eq_true, decide_eq_true_eq] at hx
      by_cases h4 : s.size = 2
      · rw [h4] at h2
        have : ((2 : Nat) : Int) - 1 = 1 := by omega
        rw [this] at h2; omega
      · omega
    · omega
  have htl : E95 (tl s (atT s)) := h.drop (by rw [bl_len]; omega)
  have hn := htl.run (b := baseT s) (baseT_range s).2
  rw [tl_len] at hn
  change nT s < s.size - (atT s).toNat at hn
  have hr : E95 (bl (sub s (atT s + nT s) s.size)) := by
    rw [bl_rest s (by omega) (by omega)]
    exact h.drop (by rw [bl_len]; omega)
  unfold noneB intC
  split
  · rfl
  · split
    · rfl
    · rw [hr.suf]; rfl
theorem float_under {s : ByteArray} (h : E95 (bl s)) : floatB s = false := by
  have hat := atT_range s
  obtain ⟨h1, h2⟩ := h.last
  have hb16 : baseH s ≤ 16 := by unfold baseH; split <;> omega
  have hx : atT s < s.size := by
    unfold atT
    split
    · rename_i hx
      have h3 := hexT_size hx
      unfold hexT at hx
      simp only [Bool.and_eq_true, Bool.or_eq_true, decide_eq_true_eq] at hx
      by_cases h4 : s.size = 2
      · rw [h4] at h2
        have : ((2 : Nat) : Int) - 1 = 1 := by omega
        rw [this] at h2; omega
      · omega
    · omega
  have htl : E95 (tl s (atT s)) := h.drop (by rw [bl_len]; omega)
  have hn := htl.run (b := baseH s) hb16
  rw [tl_len] at hn
  change n1F s < s.size - (atT s).toNat at hn
  have hi : E95 (tl s (iF s)) := by
    unfold iF n2F
    by_cases hp : ptF s = true
    · simp only [if_pos hp]
      unfold ptF at hp
      simp only [Bool.and_eq_true, decide_eq_true_eq] at hp
      have hlt : atT s + n1F s + 1 < s.size := by
        by_cases h4 : atT s + (n1F s : Int) + 1 = s.size
        · rw [show (s.size : Int) - 1 = atT s + n1F s by omega] at h2; omega
        · omega
      have h5 : E95 (tl s (atT s + n1F s + 1)) := h.drop (by rw [bl_len]; omega)
      have h6 := h5.run (b := baseH s) hb16
      have h7 := h5.drop h6
      rw [tl_drop s (by omega)] at h7
      exact h7
    · simp only [if_neg hp]
      exact h.drop (by rw [bl_len]; omega)
  have hm : markH s = 101 ∨ markH s = 112 := by unfold markH; split <;> simp
  have hf := (hi.drop (hi.exp hm)).fsuf
  unfold floatB
  split
  · rfl
  · unfold endsL
    rw [hf]
    exact ite_self _

/-! ### No text is both -/
theorem suf_head {s : ByteArray} (h : sufO s = true) {c : Int} {r : List Int} (e : bl s = c :: r) : c = 117 ∨ c = 85 ∨ c = 108 ∨ c = 76 := by
  have hlen := congrArg List.length e
  rw [bl_len, List.length_cons] at hlen
  have e0 : bt s 0 = c := by
    have := tl_cons (s := s) (i := 0) (by omega) (by omega)
    rw [tl_zero, e] at this
    exact (List.cons.inj this).1.symm
  have key : ∀ {x : ByteArray} {d : Int} {q : List Int}, isSuf x = true → bl x = d :: q → d = 108 ∨ d = 76 := fun hx he => by
    have := isSuf_iff.1 hx
    rw [he] at this
    simp only [List.mem_cons, List.not_mem_nil, or_false] at this
    rcases this with h | h | h | h | h
    · cases h
    · injection h with h1 _; exact .inl h1
    · injection h with h1 _; exact .inl h1
    · injection h with h1 _; exact .inr h1
    · injection h with h1 _; exact .inr h1
  unfold sufO sufR at h
  by_cases hu : headU s = true
  · unfold headU isU at hu
    simp only [Bool.and_eq_true, Bool.or_eq_true, decide_eq_true_eq] at hu
    omega
  · rw [if_neg hu] at h
    by_cases hl : lastU s = true
    · rw [if_pos hl] at h
      unfold lastU isU at hl
      simp only [Bool.and_eq_true, Bool.or_eq_true, decide_eq_true_eq] at hl
      by_cases h1 : s.size = 1
      · rw [h1] at hl
        have : ((1 : Nat) : Int) - 1 = 0 := by omega
        rw [this] at hl; omega
      · have e2 : bl (sub s 0 ((s.size : Int) - 1)) = c :: (r.take (s.size - 2)) := by
          rw [bl_sub s (by omega) (by omega) (by omega), tl_zero, e, show ((s.size : Int) - 1 - 0).toNat = (s.size - 2) + 1 by omega, List.take_succ_cons]
        have := key h e2; omega
    · rw [if_neg hl] at h
      have := key h e; omega

theorem runB_stop (b : Int) : ∀ {L : List Int} {c : Int} {r : List Int}, L.drop (runB b L) = c :: r → ¬ dg c < b
  | [], c, r, h => by simp at h
  | x :: q, c, r, h => by
    simp only [runB] at h
    split at h
    · exact runB_stop b (L := q) (by simpa using h)
    · rename_i hx
      simp at h
      rw [← h.1]; exact hx
theorem runB_up {a b : Int} (hab : a ≤ b) : ∀ {L : List Int}, (∀ c r, L.drop (runB a L) = c :: r → ¬ dg c < b) → runB b L = runB a L
  | [], _ => rfl
  | x :: q, h => by
    simp only [runB] at h ⊢
    by_cases hx : dg x < a
    · rw [if_pos hx, if_pos (by omega)]
      rw [if_pos hx] at h
      rw [runB_up hab (L := q) (fun c r hh => h c r (by simpa using hh))]
    · rw [if_neg hx]
      rw [if_neg hx] at h
      rw [if_neg (h x q (by simp))]

theorem not_both {s : ByteArray} (h : noneB s = false) : floatB s = false := by
  have hat := atT_range s
  have hnl := nT_le s
  -- what an integer is
  have hI : nT s ≠ 0 ∧ sufO (sub s (atT s + nT s) s.size) = true := by
    unfold noneB intC at h
    split at h
    · cases h
    · rename_i hn
      split at h
      · cases h
      · refine ⟨hn, ?_⟩
        cases ho : sufO (sub s (atT s + nT s) s.size) with
        | true => rfl
        | false => rw [ho] at h; simp at h
  obtain ⟨hn, ho⟩ := hI
  have hrest : bl (sub s (atT s + nT s) s.size) = tl s (atT s + nT s) := bl_rest s (by omega) (by omega)
  have hhead : ∀ c r, tl s (atT s + nT s) = c :: r → c = 117 ∨ c = 85 ∨ c = 108 ∨ c = 76 := fun c r e => suf_head ho (hrest.trans e)
  have hdr : (tl s (atT s)).drop (nT s) = tl s (atT s + nT s) := tl_drop s hat.1 _
  have h1 : n1F s = nT s := by
    unfold n1F nT
    by_cases hx : hexT s = true
    · have e1 : baseH s = 16 := by unfold baseH; rw [if_pos hx]
      have e2 : baseT s = 16 := by unfold baseT; rw [if_pos hx]
      rw [e1, e2]
    · have e1 : baseH s = 10 := by unfold baseH; rw [if_neg hx]
      have e2 : baseT s ≤ 10 := by unfold baseT; rw [if_neg hx]; split <;> omega
      rw [e1]
      refine runB_up e2 (fun c r e => ?_)
      have e' : tl s (atT s + nT s) = c :: r := by rw [← hdr]; exact e
      rcases hhead c r e' with rfl | rfl | rfl | rfl <;> decide
  have hpt : ptF s = false := by
    cases hp : ptF s with
    | false => rfl
    | true =>
      unfold ptF at hp
      rw [h1] at hp
      simp only [Bool.and_eq_true, decide_eq_true_eq] at hp
      have := hhead _ _ (tl_cons (s := s) (i := atT s + nT s) (by omega) hp.1)
      omega
  have hiF : iF s = atT s + nT s := by unfold iF; rw [if_neg (by rw [hpt]; simp), h1]
  unfold floatB
  split
  · rfl
  · rw [hpt, hiF]
    unfold endsL
    rw [if_pos]
    have hm : markH s = 101 ∨ markH s = 112 := by unfold markH; split <;> simp
    have he : expL (markH s) (tl s (atT s + nT s)) = (0, true) := by
      cases e : tl s (atT s + nT s) with
      | nil => rfl
      | cons c r =>
        have := hhead c r e
        simp only [expL]
        rw [if_neg]
        simp only [Bool.or_eq_true, decide_eq_true_eq]
        omega
    rw [he]
    split <;> rfl

set_option maxRecDepth 100000 in
theorem ctokOne_any (s : ByteArray) (w : World) (hs : s.size ≤ 140737488351232) (hg : Glob (im w)) : Calls Try.prog 16 #[.string s] w (PureP w fun v _ => v = .bool true) := by
  have hsz : (s ++ (⟨#[95]⟩ : ByteArray)).size = s.size + 1 := by rw [ByteArray.size_append]; rfl
  have hE : E95 (bl (s ++ (⟨#[95]⟩ : ByteArray))) := by
    unfold E95
    rw [bl_append, show bl (⟨#[95]⟩ : ByteArray) = [95] from rfl, List.getLast?_append]; rfl
  have hb := @not_both s
  have h1 := none_under hE
  have h2 := float_under hE
  refine x_fun tt_ok Try.func16 rfl rfl [] 0 [.v (.string s)] rfl rfl rfl rfl (fun b hb => by cases hb) ?_
  refine x_vc tt_ok ?_
  refine xl_call0 (.bool true) rfl rfl rfl rfl fn69 rfl rfl (fun E w F hs' => ctokAlive_any w (hg.imm hs'.imm)) ?_
  refine xl_go tt_ok ?_
  refine xl_call0 (.bool (noneB s)) rfl rfl rfl rfl fn71 rfl rfl (fun E w F _ => none_any s w (by omega)) ?_
  refine xl_go tt_ok ?_
  refine xl_call0 (.bool (floatB s)) rfl rfl rfl rfl fn67 rfl rfl (fun E w F _ => float_any s w (by omega)) ?_
  refine xl_go tt_ok ?_
  refine And.intro (show s.size + 1 ≤ 9223372036854775807 by omega) ?_
  refine xl_call0 (.bool true) rfl rfl rfl rfl fn71 rfl rfl (fun E w F _ => by
    have := none_any (s ++ (⟨#[95]⟩ : ByteArray)) w (by omega)
    rw [h1] at this
    exact this) ?_
  refine xl_go tt_ok ?_
  refine And.intro (show s.size + 1 ≤ 9223372036854775807 by omega) ?_
  refine xl_call0 (.bool false) rfl rfl rfl rfl fn67 rfl rfl (fun E w F _ => by
    have := float_any (s ++ (⟨#[95]⟩ : ByteArray)) w (by omega)
    rw [h2] at this
    exact this) ?_
  refine xl_go tt_ok ?_
  refine fin1 (fun _ _ => ?_)
  show Value.bool (((true && (noneB s || !floatB s)) && true) && !false) = _
  cases hn : noneB s with
  | true => rfl
  | false => rw [hb hn]; rfl
end Go.Proofs.Ytdonomneofdhfaa
