/- Whether a text is one token, and whether two fuse: as the document says it; ScanOnes. -/
import Derived.Test.YtdonomneofdhfaaR7
import Derived.Test.YtdonomneofdhfaaE9
namespace Go.Proofs.Ytdonomneofdhfaa
open Go.GV Go.RowKit

theorem sub_len {s : ByteArray} {a b : Int} (h0 : 0 ≤ a) (h1 : a ≤ b) (h2 : b ≤ s.size) : ((sub s a b).size : Int) = b - a := sub_size h0 h1 h2
theorem sub_all (s : ByteArray) : sub s 0 s.size = s := bl_inj (wholeS s)

def oneC (s : ByteArray) : Bool := (decide (rErr s ≠ 0) || decide (((rToks s).length : Int) ≠ 1)) || decide (((rToks s).getD 0 tok0).text ≠ s)

theorem refOne_eq (s : ByteArray) : oneP s = if oneC s = true then (0, false) else (((rToks s).getD 0 tok0).kind, true) := by
  have hf := rtA_fst s
  have hm : ∀ t ∈ itsOf s, _ := fun t ht => its_mem ht
  unfold oneP oneC rToks rErr
  have hits : Lx.itemsL (bl s) = itsOf s := rfl
  unfold Lx.oneL
  rw [hits, ← hf]
  rw [← hf] at hm
  match rtA s 0 false 0, hm with
  | [], _ => simp [errT]
  | [p], hm =>
    have hm := hm p.1 (by simp)
    by_cases he : p.1.err = 0
    · rcases hm with hm | ⟨_, h1, h2⟩
      · exact absurd he hm
      · have hs := sub_len (s := s) (a := p.1.lo) (b := p.1.hi) (by omega) (by omega) (by omega)
        simp only [List.map_cons, List.map_nil, errT, he, ne_eq, not_true_eq_false, if_false, if_true, true_and, List.getD_cons_zero, tokT, List.length_cons, List.length_nil, bl_len]
        by_cases h3 : p.1.hi - p.1.lo = s.size
        · have h4 : p.1.lo = 0 := by omega
          have h5 : p.1.hi = s.size := by omega
          have h6 : sub s p.1.lo p.1.hi = s := by rw [h4, h5]; exact sub_all s
          rw [if_pos h3, h6]
          simp
        · have h6 : ¬ sub s p.1.lo p.1.hi = s := fun h => by rw [h] at hs; omega
          rw [if_neg h3]
          simp [h6]
    · simp [errT, he]
  | p :: q :: r, _ =>
    simp only [List.map_cons]
    by_cases he : errT (p :: q :: r) = 0
    · rw [if_pos he]
      simp; omega
    · simp [he]

set_option maxRecDepth 100000 in
theorem refOne_any (s : ByteArray) (hz : s.size ≤ 4294967280) (w : World) :
    Calls Try.prog 37 #[.string s] w (PureP w fun v _ => v = .tuple #[.int .i64 (oneP s).1, .bool (oneP s).2]) := by
  have hE := refOne_eq s
  generalize oneP s = N at hE ⊢
  refine x_fun tt_ok Try.func37 rfl rfl [] 0 [.v (.string s)] rfl rfl rfl rfl (fun b hb => by cases hb) ?_
  refine x_vc tt_ok ?_
  refine xl_callO2 31 (tokY.d (rToks s)) [.int .i64 (rErr s)] rfl rfl rfl rfl fn101 rfl rfl (fun E w F hs => refTokens_any s hz w) ?_
  refine xl_go tt_ok ?_
  repeat (refine And.intro ?_ ?_; first | omega | (simp only [Lay.d_n]; omega) | (simp only [decide_eq_true_eq, decide_eq_false_iff_not, Bool.or_eq_false_iff, Bool.and_eq_true, Bool.or_eq_true, Bool.and_eq_false_iff, Bool.not_eq_true', Bool.not_eq_false', Lay.d_n]; omega) | (simp only [decide_eq_true_eq, decide_eq_false_iff_not, Bool.or_eq_false_iff, Bool.and_eq_true, Bool.or_eq_true, Bool.and_eq_false_iff, Bool.not_eq_true', Bool.not_eq_false']; omega))
  refine x_if (fun h => ?_) (fun h => ?_)
  · have h' : oneC s = true := h
    rw [if_pos h'] at hE
    rw [hE]
    exact fin1 (fun _ _ => rfl)
  · have h' : oneC s = false := h
    rw [if_neg (by rw [h']; simp)] at hE
    have hl : (rToks s).length = 1 := by
      unfold oneC at h'
      have := (Bool.or_eq_false_iff.1 (Bool.or_eq_false_iff.1 h').1).2
      have := Classical.not_not.1 (of_decide_eq_false this)
      omega
    repeat (refine And.intro ?_ ?_; first | omega | (simp only [Lay.d_n]; omega) | (simp only [decide_eq_true_eq, decide_eq_false_iff_not, Bool.or_eq_false_iff, Bool.and_eq_true, Bool.or_eq_true, Bool.and_eq_false_iff, Bool.not_eq_true', Bool.not_eq_false', Lay.d_n]; omega) | (simp only [decide_eq_true_eq, decide_eq_false_iff_not, Bool.or_eq_false_iff, Bool.and_eq_true, Bool.or_eq_true, Bool.and_eq_false_iff, Bool.not_eq_true', Bool.not_eq_false']; omega))
    rw [hE]
    exact fin1 (fun _ _ => rfl)

def fuC (a b : ByteArray) : Bool := ((decide (rErr (a ++ b) ≠ 0) || decide (((rToks (a ++ b)).length : Int) ≠ 2)) || decide (((rToks (a ++ b)).getD 0 tok0).text ≠ a)) || decide (((rToks (a ++ b)).getD 1 tok0).text ≠ b)

theorem two_of {α : Type} {P : List α} (h : P.length = 2) : ∃ p q, P = [p, q] := by
  match P, h with
  | [p, q], _ => exact ⟨p, q, rfl⟩

theorem refFuses_eq {a b : ByteArray} (ha : (oneP a).2 = true) (hb : (oneP b).2 = true) : fuP a b = (fuC a b, 0) := by
  unfold fuP
  rw [oneP_some ha, oneP_some hb]
  simp only [Prod.mk.injEq, and_true]
  have hp := Lx.items_pair (oneP_some ha) (oneP_some hb)
  rw [← bl_append] at hp
  have hits : Lx.itemsL (bl (a ++ b)) = itsOf (a ++ b) := rfl
  rw [hits, ← rtA_fst, bl_len, bl_len] at hp
  have hz : (a ++ b).size = a.size + b.size := ByteArray.size_append
  have hm : ∀ t ∈ itsOf (a ++ b), _ := fun t ht => its_mem ht
  rw [← rtA_fst] at hm
  unfold fuC rToks rErr
  generalize rtA (a ++ b) 0 false 0 = P at hp hm ⊢
  rcases hp with ⟨h1, h2⟩ | ⟨h1, x, r, h2, h3⟩
  · rw [h1]
    obtain ⟨p, q, rfl⟩ : ∃ p q, P = [p, q] := two_of (by have := congrArg List.length h2; simpa using this)
    simp only [List.map_cons, List.map_nil, List.cons.injEq, and_true] at h2
    obtain ⟨e1, e2⟩ := h2
    have s1 : sub (a ++ b) 0 a.size = a := by
      apply bl_inj
      rw [bl_sub _ (by omega) (by omega) (by omega), tl_zero, bl_append, Int.sub_zero, Int.toNat_natCast, List.take_left' (bl_len a)]
    have s2 : sub (a ++ b) a.size ((a.size : Int) + b.size) = b := by
      apply bl_inj
      rw [bl_sub _ (by omega) (by omega) (by omega), tl, bl_append, Int.toNat_natCast, List.drop_left' (bl_len a), List.take_of_length_le (by rw [bl_len]; omega)]
    have t1 : (tokT (a ++ b) p).text = a := by
      show sub (a ++ b) p.1.lo p.1.hi = a
      rw [e1]; exact s1
    have t2 : (tokT (a ++ b) q).text = b := by
      show sub (a ++ b) q.1.lo q.1.hi = b
      rw [e2]
      show sub (a ++ b) (a.size : Int) ((a.size + b.size : Nat) : Int) = b
      rw [show ((a.size + b.size : Nat) : Int) = (a.size : Int) + b.size by omega]; exact s2
    have t3 : errT [p, q] = 0 := by simp [errT, e1, e2]
    rw [t3]
    simp [t1, t2]
  · rw [h1]
    match P, h2 with
    | p :: P', h2 =>
      simp only [List.map_cons, List.cons.injEq] at h2
      obtain ⟨e1, e2⟩ := h2
      have hm := hm p.1 (by simp)
      by_cases he : errT (p :: P') = 0
      · rcases h3 with ⟨h3, _⟩ | ⟨h3, h4, h5⟩
        · rw [errT, if_pos (by rw [e1]; exact h3), e1] at he
          exact absurd he h3
        · have hne : ¬ (tokT (a ++ b) p).text = a := by
            intro h
            have h : sub (a ++ b) p.1.lo p.1.hi = a := h
            rcases hm with hm | ⟨_, h6, h7⟩
            · exact hm (by rw [e1]; exact h3)
            · have := sub_len (s := a ++ b) (a := p.1.lo) (b := p.1.hi) (by omega) (by omega) (by omega)
              rw [h, e1, h4] at this
              omega
          simp [he, hne]
      · simp [he]

set_option maxRecDepth 100000 in
theorem refFuses_any (a b : ByteArray) (hz : a.size + b.size ≤ 4294967280) (w : World) :
    Calls Try.prog 39 #[.string a, .string b] w (PureP w fun v _ => v = .tuple #[.bool (fuP a b).1, .int .i64 (fuP a b).2]) := by
  have hF : (oneP a).2 = true → (oneP b).2 = true → fuP a b = (fuC a b, 0) := refFuses_eq
  have hF0 : (oneP a).2 = false ∨ (oneP b).2 = false → fuP a b = (false, 2) := by
    intro h
    unfold fuP
    rcases h with h | h
    · rw [oneP_none h]
    · rw [oneP_none h]
      cases Lx.oneL (bl a) <;> rfl
  generalize fuP a b = N at hF hF0 ⊢
  have hab : (a ++ b).size = a.size + b.size := ByteArray.size_append
  refine x_fun tt_ok Try.func39 rfl rfl [] 0 [.v (.string a), .v (.string b)] rfl rfl rfl rfl (fun b hb => by cases hb) ?_
  refine x_vc tt_ok ?_
  refine xl_call0 (.tuple #[.int .i64 (oneP a).1, .bool (oneP a).2]) rfl rfl rfl rfl fn37 rfl rfl (fun E w F hs => refOne_any a (by omega) w) ?_
  refine xl_go tt_ok ?_
  refine xl_call0 (.tuple #[.int .i64 (oneP b).1, .bool (oneP b).2]) rfl rfl rfl rfl fn37 rfl rfl (fun E w F hs => refOne_any b (by omega) w) ?_
  refine xl_go tt_ok ?_
  refine x_if (fun h => ?_) (fun h => ?_)
  · have h' : (!(oneP a).2 || !(oneP b).2) = true := h
    rw [Bool.or_eq_true, Bool.not_eq_true', Bool.not_eq_true'] at h'
    rw [hF0 h']
    exact fin1 (fun _ _ => rfl)
  · have h' : (!(oneP a).2 || !(oneP b).2) = false := h
    rw [Bool.or_eq_false_iff, Bool.not_eq_false', Bool.not_eq_false'] at h'
    have hE := hF h'.1 h'.2
    repeat (refine And.intro ?_ ?_; first | omega | (simp only [Lay.d_n]; omega) | (simp only [decide_eq_true_eq, decide_eq_false_iff_not, Bool.or_eq_false_iff, Bool.and_eq_true, Bool.or_eq_true, Bool.and_eq_false_iff, Bool.not_eq_true', Bool.not_eq_false', Lay.d_n]; omega) | (simp only [decide_eq_true_eq, decide_eq_false_iff_not, Bool.or_eq_false_iff, Bool.and_eq_true, Bool.or_eq_true, Bool.and_eq_false_iff, Bool.not_eq_true', Bool.not_eq_false']; omega))
    refine xl_callO2 31 (tokY.d (rToks (a ++ b))) [.int .i64 (rErr (a ++ b))] rfl rfl rfl rfl fn101 rfl rfl (fun E w F hs => refTokens_any (a ++ b) (by omega) w) ?_
    refine xl_go tt_ok ?_
    repeat (refine And.intro ?_ ?_; first | omega | (simp only [Lay.d_n]; omega) | (simp only [decide_eq_true_eq, decide_eq_false_iff_not, Bool.or_eq_false_iff, Bool.and_eq_true, Bool.or_eq_true, Bool.and_eq_false_iff, Bool.not_eq_true', Bool.not_eq_false', Lay.d_n]; omega) | (simp only [decide_eq_true_eq, decide_eq_false_iff_not, Bool.or_eq_false_iff, Bool.and_eq_true, Bool.or_eq_true, Bool.and_eq_false_iff, Bool.not_eq_true', Bool.not_eq_false']; omega))
    rw [hE]
    exact fin1 (fun _ _ => rfl)

set_option maxRecDepth 100000 in
theorem scanOnes_any (a b : ByteArray) (w : World) (hg : Glob (im w)) :
    Calls Try.prog 5 #[.string a, .string b] w (PureP w fun v _ => v = .bool true) := by
  refine x_fun tt_ok Try.func5 rfl rfl [] 0 [.v (.string a), .v (.string b)] rfl rfl rfl rfl (fun b hb => by cases hb) ?_
  refine x_vc tt_ok ?_
  refine x_if (fun h => ?_) (fun h => ?_)
  · exact fin1 (fun _ _ => rfl)
  · have h' : (decide ((500 : Int) < a.size) || decide ((500 : Int) < b.size)) = false := h
    obtain ⟨h1, h2⟩ := Bool.or_eq_false_iff.1 h'
    have h1 := of_decide_eq_false h1
    have h2 := of_decide_eq_false h2
    refine xl_call0 (.tuple #[.int .i64 (oneP a).1, .bool (oneP a).2]) rfl rfl rfl rfl fn36 rfl rfl (fun E w F hs => one_any a (by omega) w (hg.imm hs.imm)) ?_
    refine xl_go tt_ok ?_
    refine xl_call0 (.tuple #[.int .i64 (oneP a).1, .bool (oneP a).2]) rfl rfl rfl rfl fn37 rfl rfl (fun E w F hs => refOne_any a (by omega) w) ?_
    refine xl_go tt_ok ?_
    refine xl_call0 (.tuple #[.bool (fuP a b).1, .int .i64 (fuP a b).2]) rfl rfl rfl rfl fn38 rfl rfl (fun E w F hs => fuses_any a b (by omega) w (hg.imm hs.imm)) ?_
    refine xl_go tt_ok ?_
    refine xl_call0 (.tuple #[.bool (fuP a b).1, .int .i64 (fuP a b).2]) rfl rfl rfl rfl fn39 rfl rfl (fun E w F hs => refFuses_any a b (by omega) w) ?_
    refine xl_go tt_ok ?_
    refine fin1 (fun _ _ => ?_)
    show Value.bool (decide ((oneP a).1 = (oneP a).1) && decide ((oneP a).2 = (oneP a).2) && decide ((fuP a b).1 = (fuP a b).1) && decide ((fuP a b).2 = (fuP a b).2)) = _
    simp
end Go.Proofs.Ytdonomneofdhfaa
