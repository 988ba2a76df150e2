/- The items of a text, one after the other. -/
import Derived.Test.YtdonomneofdhfaaE6
namespace Go.Proofs.Ytdonomneofdhfaa
open Go.GV Go.RowKit

theorem after_any (st kd : Int) (t : ByteArray) (w : World) : Calls Try.prog 133 #[.int .i64 st, .int .i64 kd, .string t] w (PureP w fun v _ => v = .int .i64 (Lx.after st kd (bl t))) := by
  have e : Lx.after st kd (bl t) = if kd = 8 then st else if kd = 9 then 0
      else if (decide (st = 0) && decide (kd = 5) && (decide (t = ⟨#[35]⟩) || decide (t = ⟨#[37, 58]⟩))) = true then 1
      else if (decide (st = 1) && decide (kd = 1) && decide (t = ⟨#[105, 110, 99, 108, 117, 100, 101]⟩)) = true then 2 else 3 := by
    unfold Lx.after
    rw [bl_eq, bl_eq, bl_eq]
    have e1 : bl ⟨#[35]⟩ = [35] := rfl
    have e2 : bl ⟨#[37, 58]⟩ = [37, 58] := rfl
    have e3 : bl ⟨#[105, 110, 99, 108, 117, 100, 101]⟩ = [105, 110, 99, 108, 117, 100, 101] := rfl
    rw [e1, e2, e3]
    simp only [Bool.and_eq_true, Bool.or_eq_true, decide_eq_true_eq, and_assoc]
  rw [e]
  refine x_fun tt_ok Try.func133 rfl rfl [] 0 [.v (.int .i64 st), .v (.int .i64 kd), .v (.string t)] rfl rfl rfl rfl (fun b hb => by cases hb) ?_
  refine x_vc tt_ok ?_
  refine x_if (fun h => ?_) (fun h => ?_)
  · rw [if_pos (of_decide_eq_true h)]
    exact fin1 (fun _ _ => rfl)
  · rw [if_neg (of_decide_eq_false h)]
    refine x_if (fun h2 => ?_) (fun h2 => ?_)
    · rw [if_pos (of_decide_eq_true h2)]
      exact fin1 (fun _ _ => rfl)
    · rw [if_neg (of_decide_eq_false h2)]
      refine x_if (fun h3 => ?_) (fun h3 => ?_)
      · rw [if_pos h3]
        exact fin1 (fun _ _ => rfl)
      · rw [if_neg (fun h => Bool.noConfusion (h.symm.trans h3))]
        refine x_if (fun h4 => ?_) (fun h4 => ?_)
        · rw [if_pos h4]
          exact fin1 (fun _ _ => rfl)
        · rw [if_neg (fun h => Bool.noConfusion (h.symm.trans h4))]
          exact fin1 (fun _ _ => rfl)

/-- the items from a place on -/
def itA (s : ByteArray) (st i : Int) : List Lx.Tk := Lx.itemsF s.size st i.toNat (tl s i)
def itsOf (s : ByteArray) : List Lx.Tk := Lx.itemsL (bl s)
theorem itA_zero (s : ByteArray) : itA s 0 0 = itsOf s := by
  unfold itA itsOf Lx.itemsL
  rw [bl_len]; rfl
theorem itA_nil {s : ByteArray} {i st : Int} (h : s.size ≤ i) : itA s st i = [] := by
  unfold itA
  rw [tl_nil h, Lx.itemsF_nil]
def itm (s : ByteArray) (st i : Int) : Lx.Item := Lx.itemP (decide (st = 2)) (tl s i)
theorem itA_cons {s : ByteArray} {i st : Int} (h0 : 0 ≤ i) (h : i < s.size) : itA s st i = if Lx.white (bt s i) = true then itA s st (i + 1)
    else if (itm s st i).err ≠ 0 then [⟨0, 0, 0, (itm s st i).err⟩]
    else ⟨(itm s st i).kind, i.toNat, i.toNat + (itm s st i).len, 0⟩ :: itA s (Lx.after st (itm s st i).kind ((tl s i).take (itm s st i).len)) (i + (itm s st i).len) := by
  have hl := tl_len s i
  have hl1 := tl_len s (i + 1)
  obtain ⟨n, hn⟩ : ∃ n, s.size = n + 1 := ⟨s.size - 1, by omega⟩
  unfold itA
  conv => lhs; rw [hn, tl_cons h0 h, Lx.itemsF]
  rw [← tl_cons h0 h]
  cases hw : Lx.white (bt s i) with
  | true =>
    simp only [if_true]
    rw [Lx.itemsF_fuel n s.size _ _ _ (by omega) (by omega), show (i + 1).toNat = i.toNat + 1 by omega]
  | false =>
    simp only [Bool.false_eq_true, if_false]
    unfold itm
    split
    · rfl
    · congr 1
      rw [tl_tl s h0]
      have hl2 := tl_len s (i + (Lx.itemP (decide (st = 2)) (tl s i)).len)
      rename_i he
      have h1 := (Lx.itemP_le (decide (st = 2)) (l := tl s i) (by rw [tl_cons h0 h]; simp)).2 (by simpa using he)
      rw [Lx.itemsF_fuel n s.size _ _ _ (by omega) (by omega)]
      congr 1
      omega

def tkV (t : Lx.Tk) : Value × Value := (.agg #[.int .i64 t.kind, .int .i64 t.lo, .int .i64 t.hi], .int .i64 t.err)

theorem itm_le {s : ByteArray} {i st : Int} (h0 : 0 ≤ i) (h : i < s.size) (he : (itm s st i).err = 0) : 1 ≤ (itm s st i).len ∧ i + (itm s st i).len ≤ s.size := by
  have h1 := Lx.itemP_le (decide (st = 2)) (l := tl s i) (by rw [tl_cons h0 h]; simp)
  have h2 := h1.2 he
  have h3 := h1.1
  rw [tl_len] at h3
  unfold itm
  omega

set_option maxRecDepth 100000 in
theorem items_iter (s : ByteArray) (b : Nat) (u0 : Im) (hb : u0.h b = some (.cells #[.string s] 9 (0, 0))) (hg : Glob u0) (hz : s.size ≤ 4294967280) :
    Iter2 Try.prog 130 #[.pointer (some ⟨b, 0, none⟩)] ((itsOf s).map tkV) u0 := by
  refine x_iter2 tt_ok Try.func130 rfl rfl [(.slice (some ⟨b, 0, none⟩) 1 1, ⟨1, [fun _ => .string s]⟩)] [.e 1 1 0 0] (boxEnv b) (fun j x hj => ?_) rfl rfl (fun x hx => ?_) (fun x hx => ?_) (fun l Y Z u hu hR => ?_)
  · match j, hj with
    | 0, hj => cases hj; rfl
    | j + 1, hj => simp at hj
  · simp only [List.mem_singleton] at hx
    subst hx
    exact ⟨by simp, _, 1, 1, rfl, Int.le_refl _, by omega⟩
  · simp only [List.mem_singleton] at hx
    subst hx
    exact SlAt.box1 hb
  have hgu : Glob u := hg.sub hu.sub
  refine x_vc tt_ok ?_
  refine x_loop (σ := Nat × Int × Int) (fun (k, st, i) => ⟨[(4, .v (.int .i64 i)), (3, .v (.int .i64 st)), (1, .e 1 1 0 0), (0, .v (.func (.yield l) #[] #[]))], [], [(0, .gen (Y k).hp), (1, .sl ⟨1, [fun _ => .string s]⟩)], 2⟩)
    (fun (k, st, i) _ => 0 ≤ i ∧ i ≤ s.size ∧ ∃ pre, pre.length = k ∧ itsOf s = pre ++ itA s st i) (fun (_, _, i) => (s.size - i).toNat) (fun (_, _, _) => Nat.le_refl 2) (0, 0, 0) [] (.of rfl rfl rfl rfl rfl rfl)
    ⟨by omega, by omega, [], rfl, (itA_zero s).symm⟩ ?_
  rintro ⟨k, st, i⟩ u2 hu2 ⟨g1, g2, pre, g4, g5⟩
  refine x_vc tt_ok ?_
  repeat (refine And.intro ?_ ?_; first | omega | (simp only [Lay.d_n]; omega) | (simp only [decide_eq_true_eq, decide_eq_false_iff_not, Bool.or_eq_false_iff, Bool.and_eq_true, Bool.or_eq_true, Bool.and_eq_false_iff, Bool.not_eq_true', Bool.not_eq_false', Lay.d_n]; omega) | (simp only [decide_eq_true_eq, decide_eq_false_iff_not, Bool.or_eq_false_iff, Bool.and_eq_true, Bool.or_eq_true, Bool.and_eq_false_iff, Bool.not_eq_true', Bool.not_eq_false']; omega))
  refine x_if (fun h => ?_) (fun h => ?_)
  · have h2 : i < s.size := of_decide_eq_true h
    rw [itA_cons g1 h2] at g5
    repeat (refine And.intro ?_ ?_; first | omega | (simp only [Lay.d_n]; omega) | (simp only [decide_eq_true_eq, decide_eq_false_iff_not, Bool.or_eq_false_iff, Bool.and_eq_true, Bool.or_eq_true, Bool.and_eq_false_iff, Bool.not_eq_true', Bool.not_eq_false', Lay.d_n]; omega) | (simp only [decide_eq_true_eq, decide_eq_false_iff_not, Bool.or_eq_false_iff, Bool.and_eq_true, Bool.or_eq_true, Bool.and_eq_false_iff, Bool.not_eq_true', Bool.not_eq_false']; omega))
    refine xl_call0 (.bool (Lx.white (bt s i))) rfl rfl rfl rfl fn131 rfl rfl (fun E w F _ => white_any _ w) ?_
    refine xl_go tt_ok ?_
    refine x_if (fun h3 => ?_) (fun h3 => ?_)
    · rw [if_pos h3] at g5
      repeat (refine And.intro ?_ ?_; first | omega | (simp only [Lay.d_n]; omega) | (simp only [decide_eq_true_eq, decide_eq_false_iff_not, Bool.or_eq_false_iff, Bool.and_eq_true, Bool.or_eq_true, Bool.and_eq_false_iff, Bool.not_eq_true', Bool.not_eq_false', Lay.d_n]; omega) | (simp only [decide_eq_true_eq, decide_eq_false_iff_not, Bool.or_eq_false_iff, Bool.and_eq_true, Bool.or_eq_true, Bool.and_eq_false_iff, Bool.not_eq_true', Bool.not_eq_false']; omega))
      exact again (k, st, i + 1) [] (.of rfl rfl rfl rfl rfl rfl) ⟨by omega, by omega, pre, g4, g5⟩ (by simp only; omega)
    · rw [if_neg (by rw [h3]; simp)] at g5
      by_cases he : (itm s st i).err = 0
      · rw [if_neg (by simpa using he)] at g5
        have hv : itV i (itm s st i) = .tuple #[.agg #[.int .i64 (itm s st i).kind, .int .i64 i, .int .i64 (i + (itm s st i).len)], .int .i64 0] := if_pos he
        obtain ⟨m1, m2⟩ := itm_le g1 h2 he
        refine xl_call0 (.tuple #[.agg #[.int .i64 (itm s st i).kind, .int .i64 i, .int .i64 (i + (itm s st i).len)], .int .i64 0]) rfl rfl rfl rfl fn132 rfl rfl
          (fun E w F hs => by rw [← hv]; exact item_any s i (decide (st = 2)) g1 h2 hz w ((hgu.sub hu2.sub).imm hs.imm)) ?_
        refine xl_go tt_ok ?_
        have hx1 : ((itsOf s).map tkV)[k]? = some (.agg #[.int .i64 (itm s st i).kind, .int .i64 i, .int .i64 (i + (itm s st i).len)], .int .i64 0) := by
          rw [List.getElem?_map, g5, List.getElem?_append_right (by omega), g4, Nat.sub_self]
          simp only [List.getElem?_cons_zero, Option.map_some, tkV]
          rw [show ((i.toNat : Nat) : Int) = i by omega, show ((i.toNat + (itm s st i).len : Nat) : Int) = i + (itm s st i).len by omega]
        refine xl_yield2 (kY := 0) rfl hR rfl rfl rfl rfl rfl rfl rfl rfl hx1 ?_ ?_
        · refine xl_go tt_ok ?_
          refine x_iff rfl ?_
          refine x_draw mix (by kernel_rfl) (xd_go tt_ok ?_)
          repeat (refine And.intro ?_ ?_; first | omega | (simp only [Lay.d_n]; omega) | (simp only [decide_eq_true_eq, decide_eq_false_iff_not, Bool.or_eq_false_iff, Bool.and_eq_true, Bool.or_eq_true, Bool.and_eq_false_iff, Bool.not_eq_true', Bool.not_eq_false', Lay.d_n]; omega) | (simp only [decide_eq_true_eq, decide_eq_false_iff_not, Bool.or_eq_false_iff, Bool.and_eq_true, Bool.or_eq_true, Bool.and_eq_false_iff, Bool.not_eq_true', Bool.not_eq_false']; omega))
          refine xd_call0 (.int .i64 (Lx.after st (itm s st i).kind ((tl s i).take (itm s st i).len))) rfl rfl rfl rfl fn133 rfl rfl (fun _ E w F _ => by
            have := after_any st (itm s st i).kind (sub s i (i + (itm s st i).len)) w
            rw [bl_part s g1 (by omega) m2, Int.toNat_natCast] at this; exact this) ?_
          refine xd_go tt_ok ?_
          exact again (k + 1, Lx.after st (itm s st i).kind ((tl s i).take (itm s st i).len), i + (itm s st i).len) [] (.of rfl rfl rfl rfl rfl rfl)
            ⟨by omega, by omega, pre ++ [⟨(itm s st i).kind, i.toNat, i.toNat + (itm s st i).len, 0⟩], by rw [List.length_append, g4]; rfl, by rw [g5, List.append_assoc]; rfl⟩ (by simp only; omega)
        · refine xl_go tt_ok ?_
          refine x_ift rfl ?_
          exact .inr rfl
      · rw [if_pos he] at g5
        have hv : itV i (itm s st i) = .tuple #[.agg #[.int .i64 0, .int .i64 0, .int .i64 0], .int .i64 (itm s st i).err] := if_neg he
        refine xl_call0 (.tuple #[.agg #[.int .i64 0, .int .i64 0, .int .i64 0], .int .i64 (itm s st i).err]) rfl rfl rfl rfl fn132 rfl rfl
          (fun E w F hs => by rw [← hv]; exact item_any s i (decide (st = 2)) g1 h2 hz w ((hgu.sub hu2.sub).imm hs.imm)) ?_
        refine xl_go tt_ok ?_
        have hx1 : ((itsOf s).map tkV)[k]? = some (.agg #[.int .i64 0, .int .i64 0, .int .i64 0], .int .i64 (itm s st i).err) := by
          rw [List.getElem?_map, g5, List.getElem?_append_right (by omega), g4, Nat.sub_self]; rfl
        have hk : ((itsOf s).map tkV).length = k + 1 := by rw [List.length_map, g5, List.length_append, g4]; rfl
        refine xl_yield2 (kY := 0) rfl hR rfl rfl rfl rfl rfl rfl rfl rfl hx1 ?_ ?_
        · refine xl_go tt_ok ?_
          refine x_ift (by show (false || decide ((itm s st i).err ≠ 0)) = true; rw [decide_eq_true he]; rfl) ?_
          exact .inl (by rw [hk]; rfl)
        · refine xl_go tt_ok ?_
          refine x_ift rfl ?_
          exact .inr rfl
  · have h2 : ¬ (i < (s.size : Int)) := of_decide_eq_false h
    rw [itA_nil (by omega), List.append_nil] at g5
    have hk : ((itsOf s).map tkV).length = k := by rw [List.length_map, g5, g4]
    exact .inl (by rw [hk]; rfl)

theorem itemsFn_any (s : ByteArray) (w : World) : Calls Try.prog 100 #[.string s] w
    (PureP w fun v u => ∃ b, v = .func (.func 130) #[] #[.pointer (some ⟨b, 0, none⟩)] ∧ u.h b = some (.cells #[.string s] 9 (0, 0))) := by
  refine x_fun tt_ok Try.func100 rfl rfl [] 0 [.v (.string s)] rfl rfl rfl rfl (fun b hb => by cases hb) ?_
  refine x_vc tt_ok ?_
  refine finP (fun E w' F hs hu => ?_)
  obtain ⟨b, h1, h2⟩ := hs.boxNew (k := 0) rfl hu
  refine ⟨b, ?_, h2⟩
  simp [SV.den, tupV, ptrOf, h1]
end Go.Proofs.Ytdonomneofdhfaa
