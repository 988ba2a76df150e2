/- Part 5 of the lemmas behind the claim: E7, E8, B1, B2, L1, L2, L3, R1, E9, R2, R3, R4, R5, R6, R7, R8. -/
import Derived.Test.YtnjmkeijjapejaaGreatDoorYT4
set_option linter.unusedSimpArgs false
set_option linter.unusedVariables false
namespace Go.Proofs.YtnjmkeijjapejaaGreatDoor
open Go.GV Go.RowKit
theorem after_any (st kd : Int) (t : ByteArray) (w : World) : Calls Tryz.prog 83 #[.int .i64 st, .int .i64 kd, .string t] w (PureP w fun v _ => v = .int .i64 (Lx.after st kd (bl t))) := by
  have e : Lx.after st kd (bl t) = if kd = 8 then st else if kd = 9 then 0
      else if (decide (st = 0) && decide (kd = 5) && (decide (t = ⟨#[35]⟩) || decide (t = ⟨#[37, 58]⟩))) = true then 1
      else if (decide (st = 1) && decide (kd = 1) && decide (t = ⟨#[105, 110, 99, 108, 117, 100, 101]⟩)) = true then 2 else 3 := by
    unfold Lx.after
    rw [bl_eq, bl_eq, bl_eq]
    have e1 : bl ⟨#[35]⟩ = [35] := rfl
    have e2 : bl ⟨#[37, 58]⟩ = [37, 58] := rfl
    have e3 : bl ⟨#[105, 110, 99, 108, 117, 100, 101]⟩ = [105, 110, 99, 108, 117, 100, 101] := rfl
    rw [e1, e2, e3]
    simp only [Bool.and_eq_true, Bool.or_eq_true, decide_eq_true_eq, and_assoc]
  rw [e]
  refine x_fun tt_ok Tryz.func83 rfl rfl [] 0 [.v (.int .i64 st), .v (.int .i64 kd), .v (.string t)] rfl rfl rfl rfl (fun b hb => by cases hb) ?_
  refine x_vc tt_ok ?_
  refine x_if (fun h => ?_) (fun h => ?_)
  · rw [if_pos (of_decide_eq_true h)]
    exact fin1 (fun _ _ => rfl)
  · rw [if_neg (of_decide_eq_false h)]
    refine x_if (fun h2 => ?_) (fun h2 => ?_)
    · rw [if_pos (of_decide_eq_true h2)]
      exact fin1 (fun _ _ => rfl)
    · rw [if_neg (of_decide_eq_false h2)]
      refine x_if (fun h3 => ?_) (fun h3 => ?_)
      · rw [if_pos h3]
        exact fin1 (fun _ _ => rfl)
      · rw [if_neg (fun h => Bool.noConfusion (h.symm.trans h3))]
        refine x_if (fun h4 => ?_) (fun h4 => ?_)
        · rw [if_pos h4]
          exact fin1 (fun _ _ => rfl)
        · rw [if_neg (fun h => Bool.noConfusion (h.symm.trans h4))]
          exact fin1 (fun _ _ => rfl)
def itA (s : ByteArray) (st i : Int) : List Lx.Tk := Lx.itemsF s.size st i.toNat (tl s i)
def itsOf (s : ByteArray) : List Lx.Tk := Lx.itemsL (bl s)
theorem itA_zero (s : ByteArray) : itA s 0 0 = itsOf s := by
  unfold itA itsOf Lx.itemsL
  rw [bl_len]; rfl
theorem itA_nil {s : ByteArray} {i st : Int} (h : s.size ≤ i) : itA s st i = [] := by
  unfold itA
  rw [tl_nil h, Lx.itemsF_nil]
def itm (s : ByteArray) (st i : Int) : Lx.Item := Lx.itemP (decide (st = 2)) (tl s i)
theorem itA_cons {s : ByteArray} {i st : Int} (h0 : 0 ≤ i) (h : i < s.size) : itA s st i = if Lx.white (bt s i) = true then itA s st (i + 1)
    else if (itm s st i).err ≠ 0 then [⟨0, 0, 0, (itm s st i).err⟩]
    else ⟨(itm s st i).kind, i.toNat, i.toNat + (itm s st i).len, 0⟩ :: itA s (Lx.after st (itm s st i).kind ((tl s i).take (itm s st i).len)) (i + (itm s st i).len) := by
  have hl := tl_len s i
  have hl1 := tl_len s (i + 1)
  obtain ⟨n, hn⟩ : ∃ n, s.size = n + 1 := ⟨s.size - 1, by omega⟩
  unfold itA
  conv => lhs; rw [hn, tl_cons h0 h, Lx.itemsF]
  rw [← tl_cons h0 h]
  cases hw : Lx.white (bt s i) with
  | true =>
    simp only [if_true]
    rw [Lx.itemsF_fuel n s.size _ _ _ (by omega) (by omega), show (i + 1).toNat = i.toNat + 1 by omega]
  | false =>
    simp only [Bool.false_eq_true, if_false]
    unfold itm
    split
    · rfl
    · congr 1
      rw [tl_tl s h0]
      have hl2 := tl_len s (i + (Lx.itemP (decide (st = 2)) (tl s i)).len)
      rename_i he
      have h1 := (Lx.itemP_le (decide (st = 2)) (l := tl s i) (by rw [tl_cons h0 h]; simp)).2 (by simpa using he)
      rw [Lx.itemsF_fuel n s.size _ _ _ (by omega) (by omega)]
      congr 1
      omega
def tkV (t : Lx.Tk) : Value × Value := (.agg #[.int .i64 t.kind, .int .i64 t.lo, .int .i64 t.hi], .int .i64 t.err)
theorem itm_le {s : ByteArray} {i st : Int} (h0 : 0 ≤ i) (h : i < s.size) (he : (itm s st i).err = 0) : 1 ≤ (itm s st i).len ∧ i + (itm s st i).len ≤ s.size := by
  have h1 := Lx.itemP_le (decide (st = 2)) (l := tl s i) (by rw [tl_cons h0 h]; simp)
  have h2 := h1.2 he
  have h3 := h1.1
  rw [tl_len] at h3
  unfold itm
  omega
set_option maxRecDepth 100000 in
theorem items_iter (s : ByteArray) (b : Nat) (u0 : Im) (hb : u0.h b = some (.cells #[.string s] 9 (0, 0))) (hg : Glob u0) (hz : s.size ≤ 4294967280) :
    Iter2 Tryz.prog 80 #[.pointer (some ⟨b, 0, none⟩)] ((itsOf s).map tkV) u0 := by
  refine x_iter2 tt_ok Tryz.func80 rfl rfl [(.slice (some ⟨b, 0, none⟩) 1 1, ⟨1, [fun _ => .string s]⟩)] [.e 1 1 0 0] (boxEnv b) (fun j x hj => ?_) rfl rfl (fun x hx => ?_) (fun x hx => ?_) (fun l Y Z u hu hR => ?_)
  · match j, hj with
    | 0, hj => cases hj; rfl
    | j + 1, hj => simp at hj
  · simp only [List.mem_singleton] at hx
    subst hx
    exact ⟨by simp, _, 1, 1, rfl, Int.le_refl _, by omega⟩
  · simp only [List.mem_singleton] at hx
    subst hx
    exact SlAt.box1 hb
  have hgu : Glob u := hg.sub hu.sub
  refine x_vc tt_ok ?_
  refine x_loop (σ := Nat × Int × Int) (fun (k, st, i) => ⟨[(4, .v (.int .i64 i)), (3, .v (.int .i64 st)), (1, .e 1 1 0 0), (0, .v (.func (.yield l) #[] #[]))], [], [(0, .gen (Y k).hp), (1, .sl ⟨1, [fun _ => .string s]⟩)], 2⟩)
    (fun (k, st, i) _ => 0 ≤ i ∧ i ≤ s.size ∧ ∃ pre, pre.length = k ∧ itsOf s = pre ++ itA s st i) (fun (_, _, i) => (s.size - i).toNat) (fun (_, _, _) => Nat.le_refl 2) (0, 0, 0) [] (.of rfl rfl rfl rfl rfl rfl)
    ⟨by omega, by omega, [], rfl, (itA_zero s).symm⟩ ?_
  rintro ⟨k, st, i⟩ u2 hu2 ⟨g1, g2, pre, g4, g5⟩
  refine x_vc tt_ok ?_
  repeat (refine And.intro ?_ ?_; first | omega | (simp only [Lay.d_n]; omega))
  refine x_if (fun h => ?_) (fun h => ?_)
  · have h2 : i < s.size := of_decide_eq_true h
    rw [itA_cons g1 h2] at g5
    repeat (refine And.intro ?_ ?_; first | omega | (simp only [Lay.d_n]; omega))
    refine xl_call0 (.bool (Lx.white (bt s i))) rfl rfl rfl rfl fn81 rfl rfl (fun E w F _ => white_any _ w) ?_
    refine xl_go tt_ok ?_
    refine x_if (fun h3 => ?_) (fun h3 => ?_)
    · rw [if_pos h3] at g5
      repeat (refine And.intro ?_ ?_; first | omega | (simp only [Lay.d_n]; omega))
      exact again (k, st, i + 1) [] (.of rfl rfl rfl rfl rfl rfl) ⟨by omega, by omega, pre, g4, g5⟩ (by simp only; omega)
    · rw [if_neg (by rw [h3]; simp)] at g5
      by_cases he : (itm s st i).err = 0
      · rw [if_neg (by simpa using he)] at g5
        have hv : itV i (itm s st i) = .tuple #[.agg #[.int .i64 (itm s st i).kind, .int .i64 i, .int .i64 (i + (itm s st i).len)], .int .i64 0] := if_pos he
        obtain ⟨m1, m2⟩ := itm_le g1 h2 he
        refine xl_call0 (.tuple #[.agg #[.int .i64 (itm s st i).kind, .int .i64 i, .int .i64 (i + (itm s st i).len)], .int .i64 0]) rfl rfl rfl rfl fn82 rfl rfl
          (fun E w F hs => by rw [← hv]; exact item_any s i (decide (st = 2)) g1 h2 hz w ((hgu.sub hu2.sub).imm hs.imm)) ?_
        refine xl_go tt_ok ?_
        have hx1 : ((itsOf s).map tkV)[k]? = some (.agg #[.int .i64 (itm s st i).kind, .int .i64 i, .int .i64 (i + (itm s st i).len)], .int .i64 0) := by
          rw [List.getElem?_map, g5, List.getElem?_append_right (by omega), g4, Nat.sub_self]
          simp only [List.getElem?_cons_zero, Option.map_some, tkV]
          rw [show ((i.toNat : Nat) : Int) = i by omega, show ((i.toNat + (itm s st i).len : Nat) : Int) = i + (itm s st i).len by omega]
        refine xl_yield2 (kY := 0) rfl hR rfl rfl rfl rfl rfl rfl rfl rfl hx1 ?_ ?_
        · refine xl_go tt_ok ?_
          refine x_iff rfl ?_
          refine x_draw mix (by kernel_rfl) (xd_go tt_ok ?_)
          repeat (refine And.intro ?_ ?_; first | omega | (simp only [Lay.d_n]; omega))
          refine xd_call0 (.int .i64 (Lx.after st (itm s st i).kind ((tl s i).take (itm s st i).len))) rfl rfl rfl rfl fn83 rfl rfl (fun _ E w F _ => by
            have := after_any st (itm s st i).kind (sub s i (i + (itm s st i).len)) w
            rw [bl_part s g1 (by omega) m2, Int.toNat_natCast] at this; exact this) ?_
          refine xd_go tt_ok ?_
          exact again (k + 1, Lx.after st (itm s st i).kind ((tl s i).take (itm s st i).len), i + (itm s st i).len) [] (.of rfl rfl rfl rfl rfl rfl)
            ⟨by omega, by omega, pre ++ [⟨(itm s st i).kind, i.toNat, i.toNat + (itm s st i).len, 0⟩], by rw [List.length_append, g4]; rfl, by rw [g5, List.append_assoc]; rfl⟩ (by simp only; omega)
        · refine xl_go tt_ok ?_
          refine x_ift rfl ?_
          exact .inr rfl
      · rw [if_pos he] at g5
        have hv : itV i (itm s st i) = .tuple #[.agg #[.int .i64 0, .int .i64 0, .int .i64 0], .int .i64 (itm s st i).err] := if_neg he
        refine xl_call0 (.tuple #[.agg #[.int .i64 0, .int .i64 0, .int .i64 0], .int .i64 (itm s st i).err]) rfl rfl rfl rfl fn82 rfl rfl
          (fun E w F hs => by rw [← hv]; exact item_any s i (decide (st = 2)) g1 h2 hz w ((hgu.sub hu2.sub).imm hs.imm)) ?_
        refine xl_go tt_ok ?_
        have hx1 : ((itsOf s).map tkV)[k]? = some (.agg #[.int .i64 0, .int .i64 0, .int .i64 0], .int .i64 (itm s st i).err) := by
          rw [List.getElem?_map, g5, List.getElem?_append_right (by omega), g4, Nat.sub_self]; rfl
        have hk : ((itsOf s).map tkV).length = k + 1 := by rw [List.length_map, g5, List.length_append, g4]; rfl
        refine xl_yield2 (kY := 0) rfl hR rfl rfl rfl rfl rfl rfl rfl rfl hx1 ?_ ?_
        · refine xl_go tt_ok ?_
          refine x_ift (by show (false || decide ((itm s st i).err ≠ 0)) = true; rw [decide_eq_true he]; rfl) ?_
          exact .inl (by rw [hk]; rfl)
        · refine xl_go tt_ok ?_
          refine x_ift rfl ?_
          exact .inr rfl
  · have h2 : ¬ (i < (s.size : Int)) := of_decide_eq_false h
    rw [itA_nil (by omega), List.append_nil] at g5
    have hk : ((itsOf s).map tkV).length = k := by rw [List.length_map, g5, g4]
    exact .inl (by rw [hk]; rfl)
theorem itemsFn_any (s : ByteArray) (w : World) : Calls Tryz.prog 64 #[.string s] w
    (PureP w fun v u => ∃ b, v = .func (.func 80) #[] #[.pointer (some ⟨b, 0, none⟩)] ∧ u.h b = some (.cells #[.string s] 9 (0, 0))) := by
  refine x_fun tt_ok Tryz.func64 rfl rfl [] 0 [.v (.string s)] rfl rfl rfl rfl (fun b hb => by cases hb) ?_
  refine x_vc tt_ok ?_
  refine finP (fun E w' F hs hu => ?_)
  obtain ⟨b, h1, h2⟩ := hs.boxNew (k := 0) rfl hu
  refine ⟨b, ?_, h2⟩
  simp [SV.den, tupV, ptrOf, h1]
end Go.Proofs.YtnjmkeijjapejaaGreatDoor
namespace Go.Proofs.YtnjmkeijjapejaaGreatDoor
open Go.GV Go.RowKit
theorem chain_len : ∀ {xs : List Lx.Tk} {i n : Nat}, Lx.chain i n xs → xs.length ≤ n - i + 1
  | [], _, _, _ => Nat.zero_le _
  | x :: r, i, n, h => by
    rcases h with ⟨h1, h2, h3, h4, h5⟩ | ⟨h1, h2⟩
    · have := chain_len h5
      simp only [List.length_cons]; omega
    · subst h2; simp
theorem its_len (s : ByteArray) : (itsOf s).length ≤ s.size + 1 := by
  have hc := chain_len (Lx.itemsF_chain (bl s).length 0 0 (bl s))
  rw [bl_len] at hc
  have : (Lx.itemsF s.size 0 0 (bl s)).length = (itsOf s).length := by unfold itsOf Lx.itemsL; rw [bl_len]
  omega
theorem chain_mem : ∀ {xs : List Lx.Tk} {i n : Nat}, Lx.chain i n xs → ∀ t ∈ xs, t.err ≠ 0 ∨ (t.err = 0 ∧ i ≤ t.lo ∧ t.lo < t.hi ∧ t.hi ≤ n)
  | [], _, _, _, t, ht => by cases ht
  | x :: r, i, n, h, t, ht => by
    rcases h with ⟨h1, h2, h3, h4, h5⟩ | ⟨h1, h2⟩
    · rcases List.mem_cons.1 ht with rfl | ht
      · exact .inr ⟨h1, h2, h3, h4⟩
      · rcases chain_mem h5 t ht with h | h
        · exact .inl h
        · exact .inr ⟨h.1, by omega, h.2.2⟩
    · subst h2
      rw [List.mem_singleton.1 ht]; exact .inl h1
theorem its_mem {s : ByteArray} {t : Lx.Tk} (h : t ∈ itsOf s) : t.err ≠ 0 ∨ (t.err = 0 ∧ t.lo < t.hi ∧ t.hi ≤ s.size) := by
  have hc := Lx.itemsF_chain (bl s).length 0 0 (bl s)
  rcases chain_mem hc t h with h | ⟨h1, _, h2, h3⟩
  · exact .inl h
  · rw [bl_len] at h3
    exact .inr ⟨h1, h2, by omega⟩
def oneP (s : ByteArray) : Int × Bool := match Lx.oneL (bl s) with
  | some k => (k, true)
  | none => (0, false)
theorem oneP_eq (s : ByteArray) : oneP s = if (Lx.oneG s.size (0, 0) (itsOf s)).2 = 1 then ((Lx.oneG s.size (0, 0) (itsOf s)).1, true) else (0, false) := by
  unfold oneP
  rw [Lx.oneG_eq, bl_len]
  unfold itsOf
  split <;> rename_i h <;> split at h <;> simp_all
set_option maxRecDepth 100000 in
theorem one_any (s : ByteArray) (hz : s.size ≤ 4294967280) (w : World) (hg : Glob (im w)) :
    Calls Tryz.prog 40 #[.string s] w (PureP w fun v _ => v = .tuple #[.int .i64 (oneP s).1, .bool (oneP s).2]) := by
  have hE := oneP_eq s
  generalize oneP s = N at hE ⊢
  refine x_fun tt_ok Tryz.func40 rfl rfl [] 0 [.v (.string s)] rfl rfl rfl rfl (fun b hb => by cases hb) ?_
  refine x_vc tt_ok ?_
  refine xl_call _ rfl rfl rfl rfl fn64 rfl rfl (fun E w F _ => itemsFn_any s w) (fun v u1 u2 hu2 hs2 hv => ?_)
  obtain ⟨b, rfl, hb⟩ := hv
  have hb2 := of_sub_cut hs2 hb
  have hg2 : Glob u2 := hg.sub hu2.sub
  refine xl_go tt_ok ?_
  refine x_range2 (σ := Int × Nat) (τ := Int) rfl fn80 (items_iter s b u2 hb2 hg2 hz) [(5, .p 2 0), (4, .p 1 0), (1, .p 0 0)]
    (fun (kd, n) => [(0, .box 9 [.v (.string s)]), (1, .box 3 [.v (.int .i64 kd)]), (2, .box 3 [.v (.int .i64 n)])]) (fun _ => 4)
    (fun k (kd, n) _ => n ≤ k ∧ Lx.oneG s.size (0, 0) (itsOf s) = Lx.oneG s.size (kd, n) ((itsOf s).drop k))
    (fun kd => [(0, .box 9 [.v (.string s)]), (1, .box 3 [.v (.int .i64 kd)]), (2, .box 3 [.v (.int .i64 0)])]) (fun _ => 4)
    (fun kd e _ => e = .exit 0 ∧ Lx.oneG s.size (0, 0) (itsOf s) = (kd, 0)) (0, 0) [] (.of rfl rfl rfl rfl rfl rfl) ⟨Nat.le_refl _, rfl⟩ rfl
    (fun _ => rfl) (fun _ => rfl) (fun _ => by decide) (fun _ => by decide) rfl rfl (fun l k x s' u3 Fr Fr' hx hu3 hg => ?_) (fun s' u3 hu3 hg => ?_) (fun kd e u3 hu3 hg => ?_)
  · obtain ⟨kd, n⟩ := s'
    obtain ⟨g0, g1⟩ := hg
    rw [List.getElem?_map] at hx
    obtain ⟨t, ht, rfl⟩ := Option.map_eq_some_iff.1 hx
    rw [drop_get ht, Lx.oneG] at g1
    have hm := its_mem (List.mem_of_getElem? ht)
    have hlen := its_len s
    have hk : k < (itsOf s).length := (List.getElem?_eq_some_iff.1 ht).1
    refine x_vc tt_ok ?_
    refine ⟨rfl, rfl, x_vc tt_ok ?_⟩
    repeat (refine And.intro ?_ ?_; first | omega | (simp only [decide_eq_true_eq, decide_eq_false_iff_not, Bool.or_eq_false_iff, Lay.d_n]; omega))
    have hc : (decide (t.err ≠ 0) || decide ((t.hi : Int) - (t.lo : Int) ≠ (s.size : Int))) = decide (t.err ≠ 0 ∨ t.hi - t.lo ≠ s.size) := by
      rw [Bool.eq_iff_iff]
      simp only [Bool.or_eq_true, decide_eq_true_eq]
      rcases hm with hm | hm
      · simp [hm]
      · have : ((t.hi : Int) - (t.lo : Int) ≠ (s.size : Int)) ↔ t.hi - t.lo ≠ s.size := by omega
        rw [this]
    refine x_if (fun h => ?_) (fun h => ?_)
    · have h := of_decide_eq_true (hc.symm.trans h)
      rw [if_pos h] at g1
      exact ⟨kd, [], .of rfl rfl rfl rfl rfl rfl, rfl, g1⟩
    · have h := of_decide_eq_false (hc.symm.trans h)
      rw [if_neg h] at g1
      repeat (refine And.intro ?_ ?_; first | omega | (simp only [Lay.d_n]; omega))
      exact ⟨(t.kind, n + 1), [], .of rfl rfl rfl rfl rfl rfl, by omega, g1⟩
  · obtain ⟨kd, n⟩ := s'
    obtain ⟨g0, g1⟩ := hg
    rw [List.length_map, List.drop_length, Lx.oneG] at g1
    rw [g1] at hE
    refine x_if (fun h => ?_) (fun h => ?_)
    · rw [if_neg (by have := of_decide_eq_true h; simp only; omega)] at hE
      rw [hE]
      exact fin1 (fun _ _ => rfl)
    · rw [if_pos (by have := Classical.not_not.1 (of_decide_eq_false h); simp only; omega)] at hE
      rw [hE]
      exact fin1 (fun _ _ => rfl)
  · obtain ⟨rfl, g1⟩ := hg
    rw [g1] at hE
    rw [if_neg (by simp)] at hE
    refine x_ift rfl ?_
    rw [hE]
    exact fin1 (fun _ _ => rfl)
end Go.Proofs.YtnjmkeijjapejaaGreatDoor
namespace Go.Proofs.YtnjmkeijjapejaaGreatDoor
open Go.GV Go.RowKit
structure Tok where
  kind : Int
  text : ByteArray
  lo : Int
  hi : Int
  space : Bool
def tok0 : Tok := ⟨0, ⟨#[]⟩, 0, 0, false⟩
abbrev tokY : Lay Tok := ⟨[fun t => .int .i64 t.kind, fun t => .string t.text, fun t => .int .i64 t.lo, fun t => .int .i64 t.hi, fun t => .bool t.space], tok0⟩
end Go.Proofs.YtnjmkeijjapejaaGreatDoor
namespace Go.Proofs.YtnjmkeijjapejaaGreatDoor
open Go.GV Go.RowKit
end Go.Proofs.YtnjmkeijjapejaaGreatDoor
namespace Go.Proofs.YtnjmkeijjapejaaGreatDoor
open Go.GV Go.RowKit
structure RowV where
  dir : Bool
  name : ByteArray
  ta : Option Addr
  tn : Nat
  tc : Nat
def row0 : RowV := ⟨false, ⟨#[]⟩, none, 0, 0⟩
def RowV.toks (r : RowV) : Value := .slice r.ta r.tn r.tc
def RowV.key (r : RowV) : Bool × ByteArray := (r.dir, r.name)
def ToksAt (u : Im) (L : List RowV) (T : List (List Tok)) : Prop := L.length = T.length ∧ ∀ i : Nat, i < L.length → SlAt u (L.getD i row0).toks (tokY.d (T.getD i []))
theorem ToksAt.sub {u u' : Im} {L : List RowV} {T : List (List Tok)} (h : ToksAt u L T) (hu : u.sub u') : ToksAt u' L T := ⟨h.1, fun i hi => (h.2 i hi).sub hu⟩
theorem ToksAt.push {u : Im} {L : List RowV} {T : List (List Tok)} {r : RowV} {t : List Tok} (h : ToksAt u L T) (hr : SlAt u r.toks (tokY.d t)) : ToksAt u (L ++ [r]) (T ++ [t]) := by
  refine ⟨by simp [h.1], fun i hi => ?_⟩
  simp only [List.length_append, List.length_cons, List.length_nil] at hi
  simp only [List.getD_eq_getElem?_getD]
  rcases Nat.lt_or_ge i L.length with hlt | hge
  · rw [List.getElem?_append_left hlt, List.getElem?_append_left (by rw [← h.1]; exact hlt)]
    have := h.2 i hlt
    simpa only [List.getD_eq_getElem?_getD] using this
  · have e : i = L.length := by omega
    have e2 : i = T.length := by rw [← h.1]; exact e
    rw [show (L ++ [r])[i]? = some r by subst e; simp, show (T ++ [t])[i]? = some t by subst e2; simp]
    exact hr
end Go.Proofs.YtnjmkeijjapejaaGreatDoor
namespace Go.Proofs.YtnjmkeijjapejaaGreatDoor
open Go.GV Go.RowKit
end Go.Proofs.YtnjmkeijjapejaaGreatDoor
namespace Go.Proofs.YtnjmkeijjapejaaGreatDoor
open Go.GV Go.RowKit
abbrev intY : Lay Int := ⟨[fun i => .int .i64 i], 0⟩
def bad (last : List Int) (k : Int) : Bool := decide ((last.length : Int) = 0) || (decide (k < 4) && decide (last.getD ((last.length : Int) - 1).toNat 0 = 3))
end Go.Proofs.YtnjmkeijjapejaaGreatDoor
namespace Go.Proofs.YtnjmkeijjapejaaGreatDoor
open Go.GV Go.RowKit
set_option maxRecDepth 100000 in
theorem isWord_any (s : ByteArray) (hz : s.size ≤ 140737488355328) (w : World) : Calls Tryz.prog 106 #[.string s] w (PureP w fun v _ => v = .bool (Lx.isWord (bl s))) := by
  obtain ⟨N, hN⟩ : ∃ N, N = Lx.isWord (bl s) := ⟨_, rfl⟩
  rw [← hN]
  refine x_fun tt_ok Tryz.func106 rfl rfl [] 0 [.v (.string s)] rfl rfl rfl rfl (fun b hb => by cases hb) ?_
  refine x_vc tt_ok ?_
  refine x_loop (σ := Int) (fun k => ⟨[(3, .v (.int .i64 k)), (0, .v (.string s))], [], [], 0⟩)
    (fun k _ => 0 ≤ k ∧ k ≤ s.size ∧ (0 < k → N = (tl s k).all Lx.alnum)) (fun k => (s.size - k).toNat) (fun _ => Nat.le_refl _) 0 [] (.of rfl rfl rfl rfl rfl rfl)
    ⟨by omega, by omega, fun h => absurd h (by omega)⟩ ?_
  rintro k u hu ⟨g1, g2, g3⟩
  refine x_vc tt_ok ?_
  refine x_if (fun h => ?_) (fun h => ?_)
  · have h2 : k < s.size := of_decide_eq_true h
    repeat (refine And.intro ?_ ?_; first | omega | (simp only [Lay.d_n]; omega))
    refine xl_call0 (.bool (Lx.letter (bt s k))) rfl rfl rfl rfl fn116 rfl rfl (fun E w F _ => letterR_any _ w) ?_
    refine xl_go tt_ok ?_
    repeat (refine And.intro ?_ ?_; first | omega | (simp only [Lay.d_n]; omega))
    refine xl_gcall0 (.bool (Lx.digit (bt s k))) rfl rfl rfl rfl fn117 rfl rfl (fun _ E w F _ => digitR_any _ w) ?_
    refine xl_go tt_ok ?_
    have key : N = if k = 0 then (Lx.letter (bt s k) && (tl s (k + 1)).all Lx.alnum) else (Lx.alnum (bt s k) && (tl s (k + 1)).all Lx.alnum) := by
      by_cases hk : k = 0
      · subst hk
        rw [if_pos rfl, hN, ← tl_zero, tl_cons (by omega) h2]; rfl
      · rw [if_neg hk, g3 (by omega), tl_cons g1 h2]; rfl
    refine x_if (fun h3 => ?_) (fun h3 => ?_)
    · have h3' : (!Lx.letter (bt s k) && (decide (k = 0) || !Lx.digit (bt s k))) = true := h3
      have e : N = false := by
        rw [key]
        obtain ⟨q1, q2⟩ := Bool.and_eq_true_iff.1 h3'
        rw [Bool.not_eq_true'] at q1
        by_cases hk : k = 0
        · rw [if_pos hk, q1]; rfl
        · rw [decide_eq_false hk, Bool.false_or, Bool.not_eq_true'] at q2
          rw [if_neg hk]; unfold Lx.alnum; rw [q1, q2]; rfl
      rw [e]
      exact fin1 (fun _ _ => rfl)
    · have h3' : (!Lx.letter (bt s k) && (decide (k = 0) || !Lx.digit (bt s k))) = false := h3
      repeat (refine And.intro ?_ ?_; first | omega | (simp only [Lay.d_n]; omega))
      refine again (k + 1) [] (.of rfl rfl rfl rfl rfl rfl) ⟨by omega, by omega, fun _ => ?_⟩ (by omega)
      rw [key]
      cases hl : Lx.letter (bt s k) with
      | true => unfold Lx.alnum; rw [hl]; simp
      | false =>
        rw [hl] at h3'
        simp only [Bool.not_false, Bool.true_and, Bool.or_eq_false_iff, decide_eq_false_iff_not, Bool.not_eq_false'] at h3'
        rw [if_neg h3'.1]; unfold Lx.alnum; rw [hl, h3'.2]; rfl
  · have h2 : ¬ k < (s.size : Int) := of_decide_eq_false h
    have e : N = decide (0 < (s.size : Int)) := by
      by_cases h0 : (0 : Int) < s.size
      · rw [g3 (by omega), tl_nil (by omega), decide_eq_true h0]; rfl
      · rw [hN, ← tl_zero, tl_nil (by omega), decide_eq_false h0]; rfl
    rw [e]
    exact fin1 (fun _ _ => rfl)
theorem pieces_cons (q c : Int) (r : Lx.Bs) : Lx.pieces q (c :: r) = if (decide (c = q) || decide (c = 10)) = true then false else if c = 92 then
    (match r with
      | [] => false
      | d :: r' => if d = 10 then false else Lx.pieces q r') else Lx.pieces q r := by
  cases r with
  | nil =>
    simp only [Lx.pieces]
    cases (decide (c = q) || decide (c = 10)) with
    | true => rfl
    | false => by_cases h : c = 92 <;> simp [h]
  | cons d r =>
    simp only [Lx.pieces]
    cases (decide (c = q) || decide (c = 10)) with
    | true => rfl
    | false =>
      by_cases h : c = 92
      · by_cases h2 : d = 10 <;> simp [h, h2]
      · simp [h]
set_option maxRecDepth 100000 in
theorem pieces_any (s : ByteArray) (q : Int) (hz : s.size ≤ 140737488355328) (w : World) : Calls Tryz.prog 120 #[.string s, .int .u8 q] w (PureP w fun v _ => v = .bool (Lx.pieces q (bl s))) := by
  obtain ⟨N, hN⟩ : ∃ N, N = Lx.pieces q (bl s) := ⟨_, rfl⟩
  rw [← hN]
  refine x_fun tt_ok Tryz.func120 rfl rfl [] 0 [.v (.string s), .v (.int .u8 q)] rfl rfl rfl rfl (fun b hb => by cases hb) ?_
  refine x_vc tt_ok ?_
  refine x_loop (σ := Int) (fun k => ⟨[(5, .v (.int .i64 k)), (1, .v (.int .u8 q)), (0, .v (.string s))], [], [], 0⟩)
    (fun k _ => 0 ≤ k ∧ k ≤ s.size ∧ N = Lx.pieces q (tl s k)) (fun k => (s.size - k).toNat) (fun _ => Nat.le_refl _) 0 [] (.of rfl rfl rfl rfl rfl rfl)
    ⟨by omega, by omega, hN⟩ ?_
  rintro k u hu ⟨g1, g2, g3⟩
  refine x_vc tt_ok ?_
  refine x_if (fun h => ?_) (fun h => ?_)
  · have h2 : k < s.size := of_decide_eq_true h
    rw [tl_cons g1 h2, pieces_cons] at g3
    repeat (refine And.intro ?_ ?_; first | omega | (simp only [Lay.d_n]; omega))
    refine x_if (fun h3 => ?_) (fun h3 => ?_)
    · rw [if_pos h3] at g3
      rw [g3]
      exact fin1 (fun _ _ => rfl)
    · rw [if_neg (fun h => Bool.noConfusion (h.symm.trans h3))] at g3
      repeat (refine And.intro ?_ ?_; first | omega | (simp only [Lay.d_n]; omega))
      refine x_if (fun h4 => ?_) (fun h4 => ?_)
      · rw [if_pos (of_decide_eq_true h4)] at g3
        repeat (refine And.intro ?_ ?_; first | omega | (simp only [decide_eq_true_eq, decide_eq_false_iff_not, Bool.or_eq_false_iff, Lay.d_n]; omega))
        refine x_if (fun h5 => ?_) (fun h5 => ?_)
        · have h5' : (decide (k + 1 = (s.size : Int)) || decide (bt s (k + 1) = 10)) = true := h5
          have e : N = false := by
            rw [g3]
            by_cases h6 : k + 1 < s.size
            · rw [decide_eq_false (by omega), Bool.false_or] at h5'
              rw [tl_cons (by omega) h6]
              exact if_pos (of_decide_eq_true h5')
            · rw [tl_nil (by omega)]
          rw [e]
          exact fin1 (fun _ _ => rfl)
        · have h5' : (decide (k + 1 = (s.size : Int)) || decide (bt s (k + 1) = 10)) = false := h5
          obtain ⟨q1, q2⟩ := Bool.or_eq_false_iff.1 h5'
          have q1 := of_decide_eq_false q1
          rw [tl_cons (by omega) (by omega)] at g3
          simp only at g3
          rw [if_neg (of_decide_eq_false q2)] at g3
          repeat (refine And.intro ?_ ?_; first | omega | (simp only [Lay.d_n]; omega))
          exact again (k + 1 + 1) [] (.of rfl rfl rfl rfl rfl rfl) ⟨by omega, by omega, g3⟩ (by omega)
      · rw [if_neg (of_decide_eq_false h4)] at g3
        repeat (refine And.intro ?_ ?_; first | omega | (simp only [Lay.d_n]; omega))
        exact again (k + 1) [] (.of rfl rfl rfl rfl rfl rfl) ⟨by omega, by omega, g3⟩ (by omega)
  · have h2 : ¬ k < (s.size : Int) := of_decide_eq_false h
    rw [tl_nil (by omega)] at g3
    rw [g3]
    exact fin1 (fun _ _ => rfl)
theorem allP_snoc : ∀ (l : Lx.Bs) (a c : Int), Lx.allP a (l ++ [c]) = (Lx.allP a l && Lx.okp ((a :: l).getLast (by simp)) c)
  | [], a, c => by simp [Lx.allP]
  | b :: r, a, c => by
    simp only [List.cons_append, Lx.allP, allP_snoc r b c, Bool.and_assoc]
    rfl
theorem isNum_snoc {l : Lx.Bs} (h : l ≠ []) (h2 : l ≠ [46]) (c : Int) : Lx.isNum (l ++ [c]) = (Lx.isNum l && Lx.okp (l.getLast h) c) := by
  match l, h, h2 with
  | [a], _, h2 =>
    have ha : ¬ a = 46 := fun h => h2 (by rw [h])
    simp only [List.cons_append, List.nil_append, Lx.isNum, Lx.allP, List.getLast_singleton, Bool.and_true, decide_eq_false ha]
    cases Lx.digit a <;> rfl
  | a :: d :: r, _, _ =>
    simp only [List.cons_append, Lx.isNum]
    cases Lx.digit a with
    | true =>
      have := allP_snoc (d :: r) a c
      rw [List.cons_append] at this
      exact this
    | false =>
      cases decide (a = 46) with
      | true =>
        simp only [allP_snoc r d c]
        rw [Bool.and_assoc]; rfl
      | false => rfl
theorem sign_okc {c : Int} (h : Lx.sign c = true) : Lx.okc c = false := by
  unfold Lx.sign at h
  simp only [Bool.or_eq_true, decide_eq_true_eq] at h
  rcases h with rfl | rfl <;> rfl
theorem expo_digit {c : Int} (h : Lx.expo c = true) : Lx.digit c = false := by
  unfold Lx.expo at h
  simp only [Bool.or_eq_true, decide_eq_true_eq] at h
  rcases h with ((rfl | rfl) | rfl) | rfl <;> rfl
theorem snocS (s : ByteArray) {k : Int} (h0 : 0 ≤ k) (h : k < s.size) : bl (sub s 0 (k + 1)) = bl (sub s 0 k) ++ [bt s k] := by
  have hl : k.toNat < (bl s).length := by rw [bl_len]; omega
  rw [bl_sub s (Int.le_refl _) (by omega) (by omega), bl_sub s (Int.le_refl _) (by omega) (by omega), tl_zero, Int.sub_zero, Int.sub_zero, show (k + 1).toNat = k.toNat + 1 by omega]
  have h2 := bl_get s (n := k.toNat) (by omega)
  rw [show ((k.toNat : Nat) : Int) = k by omega] at h2
  rw [List.getElem?_eq_getElem hl] at h2
  rw [← Option.some.inj h2]
  exact (List.take_append_getElem hl).symm
theorem wholeS (s : ByteArray) : bl (sub s 0 s.size) = bl s := bl_rest s (Int.le_refl _) (by omega)
theorem isNum_step (s : ByteArray) (h2 : 2 ≤ s.size) (hx : ¬ (s.size = 2 ∧ bt s 0 = 46)) : Lx.isNum (bl s) =
    if Lx.sign (bt s ((s.size : Int) - 1)) = true then (decide (2 < (s.size : Int)) && Lx.expo (bt s ((s.size : Int) - 2)) && Lx.isNum (bl (sub s 0 ((s.size : Int) - 2))))
    else (Lx.okc (bt s ((s.size : Int) - 1)) && Lx.isNum (bl (sub s 0 ((s.size : Int) - 1)))) := by
  have e1 := snocS s (k := (s.size : Int) - 1) (by omega) (by omega)
  have e2 := snocS s (k := (s.size : Int) - 2) (by omega) (by omega)
  rw [show (s.size : Int) - 1 + 1 = s.size by omega, wholeS] at e1
  rw [show (s.size : Int) - 2 + 1 = (s.size : Int) - 1 by omega] at e2
  have hp : (bl (sub s 0 ((s.size : Int) - 2))).length = s.size - 2 := by
    rw [bl_sub s (Int.le_refl _) (by omega) (by omega), List.length_take, tl_len]; omega
  have hp0 : s.size = 2 → bt s ((s.size : Int) - 2) = bt s 0 := fun h => by rw [h]; rfl
  have hp46 : bl (sub s 0 ((s.size : Int) - 2)) = [46] → Lx.isNum (bl (sub s 0 ((s.size : Int) - 2))) = false := fun h => by rw [h]; rfl
  generalize bl (sub s 0 ((s.size : Int) - 2)) = p at e2 hp hp46 ⊢
  generalize bt s ((s.size : Int) - 2) = a at e2 hp0 ⊢
  generalize bt s ((s.size : Int) - 1) = c at e1 ⊢
  have hm46 : bl (sub s 0 ((s.size : Int) - 1)) ≠ [46] := by
    rw [e2]
    intro h
    cases p with
    | nil =>
      simp only [List.length_nil] at hp
      have h3 : s.size = 2 := by omega
      simp only [List.nil_append, List.cons.injEq, and_true] at h
      exact hx ⟨h3, (hp0 h3).symm.trans h⟩
    | cons x r => simp at h
  rw [e1, isNum_snoc (by rw [e2]; simp) hm46]
  have hlast : ∀ h, (bl (sub s 0 ((s.size : Int) - 1))).getLast h = a := fun h => by simp only [e2, List.getLast_append, List.getLast_singleton]; simp
  rw [hlast]
  by_cases hs : Lx.sign c = true
  · rw [if_pos hs]
    unfold Lx.okp
    rw [sign_okc hs, hs, Bool.false_or, Bool.true_and]
    cases ha : Lx.expo a with
    | false => simp
    | true =>
      rw [Bool.and_true, Bool.and_true, e2]
      cases p with
      | nil =>
        simp only [List.length_nil] at hp
        rw [decide_eq_false (by omega), Bool.false_and]
        show Lx.isNum [a] = false
        simp only [Lx.isNum, expo_digit ha]
        split
        · simp_all
        · rfl
      | cons x r =>
        simp only [List.length_cons] at hp
        rw [decide_eq_true (by omega), Bool.true_and]
        by_cases h46 : x :: r = [46]
        · rw [hp46 h46, h46]
          simp [Lx.isNum, Lx.digit, Lx.allP]
          have := expo_digit ha
          unfold Lx.digit at this
          simpa using this
        · rw [isNum_snoc (by simp) h46, expo_okc ha, Bool.and_true]
  · rw [if_neg hs]
    have hs : Lx.sign c = false := by simpa using hs
    unfold Lx.okp
    rw [hs, Bool.false_and, Bool.or_false, Bool.and_comm]
set_option maxRecDepth 100000 in
theorem isNumN_any (n : Nat) : ∀ (s : ByteArray), s.size = n → s.size ≤ 140737488355328 → ∀ w : World, Calls Tryz.prog 107 #[.string s] w (PureP w fun v _ => v = .bool (Lx.isNum (bl s))) := by
  induction n using Nat.strongRecOn with
  | _ n ih =>
    intro s hn hz w
    obtain ⟨N, hN⟩ : ∃ N, N = Lx.isNum (bl s) := ⟨_, rfl⟩
    rw [← hN]
    refine x_fun tt_ok Tryz.func107 rfl rfl [] 0 [.v (.string s)] rfl rfl rfl rfl (fun b hb => by cases hb) ?_
    refine x_vc tt_ok ?_
    refine x_if (fun h => ?_) (fun h => ?_)
    · have h0 : (s.size : Int) = 0 := of_decide_eq_true h
      have e : N = false := by rw [hN, ← tl_zero, tl_nil (by omega)]; rfl
      rw [e]
      exact fin1 (fun _ _ => rfl)
    · have h0 : ¬ (s.size : Int) = 0 := of_decide_eq_false h
      refine x_if (fun h1 => ?_) (fun h1 => ?_)
      · have h1 : (s.size : Int) = 1 := of_decide_eq_true h1
        repeat (refine And.intro ?_ ?_; first | omega | (simp only [Lay.d_n]; omega))
        refine xl_call0 (.bool (Lx.digit (bt s 0))) rfl rfl rfl rfl fn117 rfl rfl (fun E w F _ => digitR_any _ w) ?_
        refine xl_go tt_ok ?_
        have e : N = Lx.digit (bt s 0) := by
          rw [hN, ← tl_zero, tl_cons (by omega) (by omega), tl_nil (by omega)]
          simp only [Lx.isNum, Lx.allP]
          cases Lx.digit (bt s 0) with
          | true => rfl
          | false => cases decide (bt s 0 = 46) <;> rfl
        rw [e]
        exact fin1 (fun _ _ => rfl)
      · have h1 : ¬ (s.size : Int) = 1 := of_decide_eq_false h1
        repeat (refine And.intro ?_ ?_; first | omega | (simp only [Lay.d_n]; omega))
        refine x_if (fun h2 => ?_) (fun h2 => ?_)
        · obtain ⟨q1, q2⟩ := Bool.and_eq_true_iff.1 h2
          have q1 : (s.size : Int) = 2 := of_decide_eq_true q1
          have q2 : bt s 0 = 46 := of_decide_eq_true q2
          repeat (refine And.intro ?_ ?_; first | omega | (simp only [Lay.d_n]; omega))
          refine xl_call0 (.bool (Lx.digit (bt s 1))) rfl rfl rfl rfl fn117 rfl rfl (fun E w F _ => digitR_any _ w) ?_
          refine xl_go tt_ok ?_
          have e : N = Lx.digit (bt s 1) := by
            rw [hN, ← tl_zero, tl_cons (by omega) (by omega), tl_cons (by omega) (by omega), tl_nil (by omega), q2]
            simp [Lx.isNum, Lx.allP, show Lx.digit 46 = false from rfl]
          rw [e]
          exact fin1 (fun _ _ => rfl)
        · have hx : ¬ (s.size = 2 ∧ bt s 0 = 46) := by
            rintro ⟨q1, q2⟩
            have h2' : (decide ((s.size : Int) = 2) && decide (bt s 0 = 46)) = false := h2
            rw [decide_eq_true (by omega), decide_eq_true q2] at h2'; cases h2'
          have key := isNum_step s (by omega) hx
          rw [← hN] at key
          repeat (refine And.intro ?_ ?_; first | omega | (simp only [Lay.d_n]; omega))
          refine xl_call0 (.bool (Lx.sign (bt s ((s.size : Int) - 1)))) rfl rfl rfl rfl fn118 rfl rfl (fun E w F _ => sign_any _ w) ?_
          refine xl_go tt_ok ?_
          refine x_if (fun h3 => ?_) (fun h3 => ?_)
          · rw [if_pos h3] at key
            repeat (refine And.intro ?_ ?_; first | omega | (simp only [Lay.d_n]; omega))
            refine xl_gcall0 (.bool (Lx.expo (bt s ((s.size : Int) - 2)))) rfl rfl rfl rfl fn119 rfl rfl (fun _ E w F _ => expo_any _ w) ?_
            refine xl_go tt_ok ?_
            repeat (refine And.intro ?_ ?_; first | omega | (simp only [Lay.d_n]; omega))
            have hz2 : ((sub s 0 ((s.size : Int) - 2)).size : Int) = s.size - 2 - 0 := sub_size (Int.le_refl _) (by omega) (by omega)
            refine xl_gcall0 (.bool (Lx.isNum (bl (sub s 0 ((s.size : Int) - 2))))) rfl rfl rfl rfl fn107 rfl rfl (fun _ E w F _ => ih (sub s 0 ((s.size : Int) - 2)).size (by omega) _ rfl (by omega) w) ?_
            refine xl_go tt_ok ?_
            rw [key]
            exact fin1 (fun _ _ => rfl)
          · rw [if_neg (by rw [h3]; simp)] at key
            repeat (refine And.intro ?_ ?_; first | omega | (simp only [Lay.d_n]; omega))
            refine xl_call0 (.bool (Lx.digit (bt s ((s.size : Int) - 1)))) rfl rfl rfl rfl fn117 rfl rfl (fun E w F _ => digitR_any _ w) ?_
            refine xl_go tt_ok ?_
            refine xl_gcall0 (.bool (Lx.letter (bt s ((s.size : Int) - 1)))) rfl rfl rfl rfl fn116 rfl rfl (fun _ E w F _ => letterR_any _ w) ?_
            refine xl_go tt_ok ?_
            repeat (refine And.intro ?_ ?_; first | omega | (simp only [Lay.d_n]; omega))
            have hz2 : ((sub s 0 ((s.size : Int) - 1)).size : Int) = s.size - 1 - 0 := sub_size (Int.le_refl _) (by omega) (by omega)
            refine xl_gcall0 (.bool (Lx.isNum (bl (sub s 0 ((s.size : Int) - 1))))) rfl rfl rfl rfl fn107 rfl rfl (fun _ E w F _ => ih (sub s 0 ((s.size : Int) - 1)).size (by omega) _ rfl (by omega) w) ?_
            refine xl_go tt_ok ?_
            have e : Lx.okc (bt s ((s.size : Int) - 1)) = ((Lx.digit (bt s ((s.size : Int) - 1)) || Lx.letter (bt s ((s.size : Int) - 1))) || decide (bt s ((s.size : Int) - 1) = 46)) := by
              unfold Lx.okc Lx.alnum
              rw [Bool.or_comm (Lx.letter _)]
            rw [key, e]
            exact fin1 (fun _ _ => rfl)
theorem isNum_any (s : ByteArray) (hz : s.size ≤ 140737488355328) (w : World) : Calls Tryz.prog 107 #[.string s] w (PureP w fun v _ => v = .bool (Lx.isNum (bl s))) := isNumN_any _ s rfl hz w
end Go.Proofs.YtnjmkeijjapejaaGreatDoor
namespace Go.Proofs.YtnjmkeijjapejaaGreatDoor
open Go.GV Go.RowKit
theorem bl_append (a b : ByteArray) : bl (a ++ b) = bl a ++ bl b := by
  unfold bl
  rw [ByteArray.data_append, Array.toList_append, List.map_append]
end Go.Proofs.YtnjmkeijjapejaaGreatDoor
namespace Go.Proofs.YtnjmkeijjapejaaGreatDoor
open Go.GV Go.RowKit
set_option maxRecDepth 100000 in
def punT : ByteArray := ⟨#[32, 91, 32, 93, 32, 40, 32, 41, 32, 123, 32, 125, 32, 46, 32, 45, 62, 32, 43, 43, 32, 45, 45, 32, 38, 32, 42, 32, 43, 32, 45, 32, 126, 32, 33, 32, 47, 32, 37, 32, 60, 60, 32, 62, 62, 32, 60, 32, 62, 32, 60, 61, 32, 62, 61, 32, 61, 61, 32, 33, 61, 32, 94, 32, 124, 32, 38, 38, 32, 124, 124, 32, 63, 32, 58, 32, 59, 32, 46, 46, 46, 32, 61, 32, 42, 61, 32, 47, 61, 32, 37, 61, 32, 43, 61, 32, 45, 61, 32, 60, 60, 61, 32, 62, 62, 61, 32, 38, 61, 32, 94, 61, 32, 124, 61, 32, 44, 32, 35, 32, 35, 35, 32, 60, 58, 32, 58, 62, 32, 60, 37, 32, 37, 62, 32, 37, 58, 32, 37, 58, 37, 58, 32]⟩
set_option maxRecDepth 100000 in
def punI : Lx.Bs := [32, 91, 32, 93, 32, 40, 32, 41, 32, 123, 32, 125, 32, 46, 32, 45, 62, 32, 43, 43, 32, 45, 45, 32, 38, 32, 42, 32, 43, 32, 45, 32, 126, 32, 33, 32, 47, 32, 37, 32, 60, 60, 32, 62, 62, 32, 60, 32, 62, 32, 60, 61, 32, 62, 61, 32, 61, 61, 32, 33, 61, 32, 94, 32, 124, 32, 38, 38, 32, 124, 124, 32, 63, 32, 58, 32, 59, 32, 46, 46, 46, 32, 61, 32, 42, 61, 32, 47, 61, 32, 37, 61, 32, 43, 61, 32, 45, 61, 32, 60, 60, 61, 32, 62, 62, 61, 32, 38, 61, 32, 94, 61, 32, 124, 61, 32, 44, 32, 35, 32, 35, 35, 32, 60, 58, 32, 58, 62, 32, 60, 37, 32, 37, 62, 32, 37, 58, 32, 37, 58, 37, 58, 32]
set_option maxRecDepth 100000 in
theorem punI_eq : bl punT = punI := by kernel_rfl
set_option maxRecDepth 100000 in
theorem punT_size : punT.size = 143 := rfl
def winB (t : Lx.Bs) (j : Nat) : Bool := decide ((punI.drop j).take (t.length + 2) = 32 :: t ++ [32])
def midB (n j : Nat) : Lx.Bs := (punI.drop (j + 1)).take n
theorem win_there : (Lx.punS.all fun t => (List.range (144 - (t.length + 2))).any fun j => winB t j) = true := by kernel_rfl
theorem win_only : ((List.range 144).all fun j => [1, 2, 3, 4].all fun n => !(decide ((punI.drop j).take (n + 2) = 32 :: midB n j ++ [32]) && (midB n j).all fun c => !decide (c = 32)) || Lx.isPun (midB n j)) = true := by kernel_rfl
theorem isPun_win {t : Lx.Bs} (h1 : 1 ≤ t.length) (h4 : t.length ≤ 4) (hb : ∀ c ∈ t, c ≠ 32) : Lx.isPun t = true ↔ ∃ j, j + (t.length + 2) ≤ 143 ∧ (punI.drop j).take (t.length + 2) = 32 :: t ++ [32] := by
  constructor
  · intro h
    have := List.all_eq_true.1 win_there t (Lx.isPun_mem.1 h)
    obtain ⟨j, hj, hw⟩ := List.any_eq_true.1 this
    exact ⟨j, by have := List.mem_range.1 hj; omega, of_decide_eq_true hw⟩
  · rintro ⟨j, hj, hw⟩
    have h := List.all_eq_true.1 (List.all_eq_true.1 win_only j (List.mem_range.2 (by omega))) t.length (by simp; omega)
    have hm : midB t.length j = t := by
      unfold midB
      have e := congrArg (fun l => (l.drop 1).take t.length) hw
      simp only [List.cons_append, List.drop_one, List.tail_cons, List.take_left'] at e
      rw [← List.drop_one, List.drop_take, List.drop_drop, List.take_take] at e
      rw [show min t.length (t.length + 2 - 1) = t.length by omega] at e
      exact e
    rw [hm, decide_eq_true hw] at h
    have ha : (t.all fun c => !decide (c = 32)) = true := by
      rw [List.all_eq_true]; intro c hc; simp [hb c hc]
    rw [ha] at h
    simpa using h
theorem isPun_len {t : Lx.Bs} (h : Lx.isPun t = true) : 1 ≤ t.length ∧ t.length ≤ 4 := (Lx.pun_facts t (Lx.isPun_mem.1 h)).1
theorem isPun_32 {t : Lx.Bs} (h : Lx.isPun t = true) : ∀ c ∈ t, c ≠ 32 := by
  intro c hc h2
  have := List.all_eq_true.1 (Lx.pun_facts t (Lx.isPun_mem.1 h)).2.1 c hc
  subst h2
  simp [Lx.noPun, Lx.white] at this
theorem isPun_sub (s : ByteArray) (h1 : 1 ≤ s.size) (h4 : s.size ≤ 4) (hb : ∀ c ∈ bl s, c ≠ 32) : Lx.isPun (bl s) = true ↔
    ∃ j : Int, 0 ≤ j ∧ j + ((⟨#[32]⟩ ++ s ++ ⟨#[32]⟩ : ByteArray).size : Int) ≤ 143 ∧ sub punT j (j + ((⟨#[32]⟩ ++ s ++ ⟨#[32]⟩ : ByteArray).size : Int)) = ⟨#[32]⟩ ++ s ++ ⟨#[32]⟩ := by
  have hq : bl (⟨#[32]⟩ ++ s ++ ⟨#[32]⟩) = 32 :: bl s ++ [32] := by rw [bl_append, bl_append]; rfl
  have hqs : ((⟨#[32]⟩ ++ s ++ ⟨#[32]⟩ : ByteArray).size : Int) = s.size + 2 := by
    have := congrArg List.length hq
    rw [bl_len] at this
    simp only [List.length_append, List.length_cons, List.length_nil, bl_len] at this
    omega
  rw [isPun_win (by rw [bl_len]; exact h1) (by rw [bl_len]; exact h4) hb, hqs, bl_len]
  have key : ∀ j : Nat, j + (s.size + 2) ≤ 143 → (bl (sub punT (j : Int) ((j : Int) + ((s.size : Int) + 2))) = (punI.drop j).take (s.size + 2)) := by
    intro j hj
    rw [bl_sub punT (by omega) (by omega) (by rw [punT_size]; omega), tl, punI_eq]
    congr 1; omega
  constructor
  · rintro ⟨j, hj, hw⟩
    refine ⟨j, by omega, by omega, bl_inj ?_⟩
    rw [key j hj, hw, hq]
  · rintro ⟨j, h0, hj, hw⟩
    refine ⟨j.toNat, by omega, ?_⟩
    have e : ((j.toNat : Nat) : Int) = j := by omega
    rw [← key j.toNat (by omega), e, hw, hq]
set_option maxRecDepth 100000 in
theorem isPunct_any (s : ByteArray) (hz : s.size ≤ 140737488355000) (w : World) : Calls Tryz.prog 109 #[.string s] w (PureP w fun v _ => v = .bool (Lx.isPun (bl s))) := by
  have hqs : ((⟨#[32]⟩ ++ s ++ ⟨#[32]⟩ : ByteArray).size : Int) = s.size + 2 := by
    rw [ByteArray.size_append, ByteArray.size_append]
    show (((1 + s.size + 1 : Nat)) : Int) = _
    omega
  have hP := isPun_sub s
  obtain ⟨N, hN⟩ : ∃ N, N = Lx.isPun (bl s) := ⟨_, rfl⟩
  have hlen : N = true → 1 ≤ s.size ∧ s.size ≤ 4 := fun h => by rw [← bl_len]; exact isPun_len (hN ▸ h)
  have h32 : N = true → ∀ c ∈ bl s, c ≠ 32 := fun h => isPun_32 (hN ▸ h)
  rw [← hN] at hP ⊢
  clear hN
  have hF : (¬ N = true) → N = false := fun h => by simpa using h
  refine x_fun tt_ok Tryz.func109 rfl rfl [] 0 [.v (.string s)] rfl rfl rfl rfl (fun b hb => by cases hb) ?_
  refine x_vc tt_ok ?_
  refine And.intro (by show 1 + s.size ≤ _; omega) ?_
  refine And.intro (by rw [ByteArray.size_append]; show 1 + s.size + 1 ≤ _; omega) ?_
  refine x_if (fun h => ?_) (fun h => ?_)
  · have h' : (decide ((s.size : Int) = 0) || decide ((4 : Int) < s.size)) = true := h
    have e : N = false := hF (fun hn => by
      have := hlen hn
      rw [decide_eq_false (by omega), decide_eq_false (by omega)] at h'; cases h')
    rw [e]
    exact fin1 (fun _ _ => rfl)
  · have h' : (decide ((s.size : Int) = 0) || decide ((4 : Int) < s.size)) = false := h
    obtain ⟨q1, q2⟩ := Bool.or_eq_false_iff.1 h'
    have q1 := of_decide_eq_false q1
    have q2 := of_decide_eq_false q2
    clear h h'
    generalize hq : (⟨#[32]⟩ ++ s ++ ⟨#[32]⟩ : ByteArray) = q at hqs hP ⊢
    refine x_loop (σ := Int) (fun k => ⟨[(4, .v (.int .i64 k)), (3, .v (.string q)), (0, .v (.string s))], [], [], 0⟩)
      (fun k _ => 0 ≤ k ∧ k ≤ s.size ∧ ((∀ c ∈ tl s k, c ≠ 32) → ∀ c ∈ bl s, c ≠ 32)) (fun k => (s.size - k).toNat) (fun _ => Nat.le_refl _) 0 [] (.of rfl rfl rfl rfl rfl rfl)
      ⟨by omega, by omega, fun h => h⟩ ?_
    rintro k u hu ⟨g1, g2, g3⟩
    refine x_vc tt_ok ?_
    refine x_if (fun h => ?_) (fun h => ?_)
    · have h2 : k < s.size := of_decide_eq_true h
      repeat (refine And.intro ?_ ?_; first | omega | (simp only [Lay.d_n]; omega))
      refine x_if (fun h3 => ?_) (fun h3 => ?_)
      · have e : N = false := hF (fun hn => by
          refine h32 hn (bt s k) ?_ (of_decide_eq_true h3)
          have := bl_get s (n := k.toNat) (by omega)
          rw [show ((k.toNat : Nat) : Int) = k by omega] at this
          exact List.mem_of_getElem? this)
        rw [e]
        exact fin1 (fun _ _ => rfl)
      · repeat (refine And.intro ?_ ?_; first | omega | (simp only [Lay.d_n]; omega))
        refine again (k + 1) [] (.of rfl rfl rfl rfl rfl rfl) ⟨by omega, by omega, fun hc => g3 (fun c hc2 => ?_)⟩ (by omega)
        rw [tl_cons g1 h2] at hc2
        rcases List.mem_cons.1 hc2 with rfl | hc2
        · exact of_decide_eq_false h3
        · exact hc c hc2
    · have h2 : ¬ k < (s.size : Int) := of_decide_eq_false h
      have hb : ∀ c ∈ bl s, c ≠ 32 := g3 (by rw [tl_nil (by omega)]; intro c hc; cases hc)
      have hP := hP (by omega) (by omega) hb
      clear g3 h32 hlen hb
      refine x_loop (σ := Int) (fun k => ⟨[(5, .v (.int .i64 k)), (3, .v (.string q))], [], [], 0⟩)
        (fun k _ => 0 ≤ k ∧ k ≤ 143 ∧ (N = true ↔ ∃ j : Int, k ≤ j ∧ j + (q.size : Int) ≤ 143 ∧ sub punT j (j + (q.size : Int)) = q)) (fun k => (143 - k).toNat) (fun _ => Nat.le_refl _) 0 [] (.of rfl rfl rfl rfl rfl rfl)
        ⟨by omega, by omega, hP⟩ ?_
      rintro k u2 hu2 ⟨g1, g2, g3⟩
      refine x_vc tt_ok ?_
      repeat (refine And.intro ?_ ?_; first | omega | (simp only [Lay.d_n]; omega))
      refine x_if (fun h3 => ?_) (fun h3 => ?_)
      · have h3 : k + (q.size : Int) ≤ 143 := of_decide_eq_true h3
        repeat (refine And.intro ?_ ?_; first | omega | (show k + (q.size : Int) ≤ ((143 : Nat) : Int); omega))
        refine x_if (fun h4 => ?_) (fun h4 => ?_)
        · have h5 : sub punT k (k + (q.size : Int)) = q := of_decide_eq_true h4
          rw [g3.2 ⟨k, Int.le_refl _, h3, h5⟩]
          exact fin1 (fun _ _ => rfl)
        · have h5 : ¬ sub punT k (k + (q.size : Int)) = q := of_decide_eq_false h4
          repeat (refine And.intro ?_ ?_; first | omega | (simp only [Lay.d_n]; omega))
          refine again (k + 1) [] (.of rfl rfl rfl rfl rfl rfl) ⟨by omega, by omega, g3.trans ⟨?_, ?_⟩⟩ (by omega)
          · rintro ⟨j, j1, j2, j3⟩
            refine ⟨j, ?_, j2, j3⟩
            rcases Int.lt_or_eq_of_le j1 with h6 | h6
            · omega
            · subst h6; exact absurd j3 h5
          · rintro ⟨j, j1, j2, j3⟩
            exact ⟨j, by omega, j2, j3⟩
      · have h3 : ¬ k + (q.size : Int) ≤ 143 := of_decide_eq_false h3
        have e : N = false := hF (fun hn => by
          obtain ⟨j, j1, j2, j3⟩ := g3.1 hn
          omega)
        rw [e]
        exact fin1 (fun _ _ => rfl)
end Go.Proofs.YtnjmkeijjapejaaGreatDoor
namespace Go.Proofs.YtnjmkeijjapejaaGreatDoor
open Go.GV Go.RowKit
def strY : Lay ByteArray := ⟨[fun s => .string s], ⟨#[]⟩⟩
theorem sub_le (s : ByteArray) (a b : Int) : (sub s a b).size ≤ s.size := by
  unfold sub
  rw [ByteArray.size_extract]; omega
def litB (q : Int) (p s : ByteArray) : Bool :=
  decide ((p.size : Int) + 2 ≤ s.size) && decide (sub s 0 p.size = p) && decide (bt s p.size = q) && decide (bt s ((s.size : Int) - 1) = q) && Lx.pieces q (bl (sub s ((p.size : Int) + 1) ((s.size : Int) - 1)))
theorem litB_eq (q : Int) (p s : ByteArray) : litB q p s = Lx.litAt q (bl p) (bl s) := by
  unfold litB Lx.litAt
  rw [bl_len, bl_len]
  by_cases h : p.size + 2 ≤ s.size
  · have e1 : decide (sub s 0 p.size = p) = decide ((bl s).take p.size = bl p) := by
      rw [bl_eq, bl_sub s (by omega) (by omega) (by omega), tl_zero, Int.sub_zero, Int.toNat_natCast]
    have e2 : decide (bt s p.size = q) = decide ((bl s)[p.size]? = some q) := by
      rw [bl_get s (by omega)]; simp
    have e3 : decide (bt s ((s.size : Int) - 1) = q) = decide ((bl s)[s.size - 1]? = some q) := by
      rw [bl_get s (by omega)]
      rw [show ((s.size - 1 : Nat) : Int) = (s.size : Int) - 1 by omega]; simp
    have e4 : bl (sub s ((p.size : Int) + 1) ((s.size : Int) - 1)) = ((bl s).take (s.size - 1)).drop (p.size + 1) := by
      rw [bl_sub s (by omega) (by omega) (by omega), tl, List.drop_take]
      congr 1
      omega
    rw [e1, e2, e3, e4, decide_eq_true (by omega : (p.size : Int) + 2 ≤ s.size), decide_eq_true h]
    simp only [Bool.true_and, Bool.and_assoc]
  · rw [decide_eq_false h, decide_eq_false (by omega)]
    simp
theorem isLit_cons (q : Int) (p : ByteArray) (ps : List ByteArray) (s : ByteArray) : Lx.isLit q (bl p :: ps.map bl) (bl s) =
    if litB q p s = true then (decide (q = 34) || decide ((p.size : Int) + 2 < s.size)) else Lx.isLit q (ps.map bl) (bl s) := by
  rw [litB_eq]
  simp only [Lx.isLit]
  cases Lx.litAt q (bl p) (bl s) with
  | true =>
    simp only [if_true]
    rw [bl_len, bl_len]
    congr 1
    rw [decide_eq_decide]; omega
  | false => rfl
set_option maxRecDepth 100000 in
theorem isLit_any (s : ByteArray) (q : Int) (ps : List ByteArray) (x : Value) (w : World) (hx : SlAt (im w) x (strY.d ps)) (hps : ∀ p ∈ ps, p.size ≤ 2) (hl : ps.length ≤ 10) (hz : s.size ≤ 140737488355328) :
    Calls Tryz.prog 108 #[.string s, .int .u8 q, x] w (PureP w fun v _ => v = .bool (Lx.isLit q (ps.map bl) (bl s))) := by
  obtain ⟨N, hN⟩ : ∃ N, N = Lx.isLit q (ps.map bl) (bl s) := ⟨_, rfl⟩
  rw [← hN]
  refine x_fun tt_ok Tryz.func108 rfl rfl [(x, strY.d ps)] 1 [.v (.string s), .v (.int .u8 q), .r 0] rfl rfl rfl rfl (fun b hb => by simp at hb; subst hb; exact hx) ?_
  refine x_vc tt_ok ?_
  refine x_loop (σ := Int) (fun k => ⟨[(7, .v (.int .i64 k)), (2, .r 0), (1, .v (.int .u8 q)), (0, .v (.string s))], [], [(0, .sl (strY.d ps))], 1⟩)
    (fun k _ => 0 ≤ k ∧ k ≤ ps.length ∧ N = Lx.isLit q ((ps.drop k.toNat).map bl) (bl s)) (fun k => (ps.length - k).toNat) (fun _ => Nat.le_refl 1) 0 [] (.of rfl rfl rfl rfl rfl rfl)
    ⟨by omega, by omega, hN⟩ ?_
  rintro k u hu ⟨g1, g2, g3⟩
  refine x_vc tt_ok ?_
  refine x_if (fun h => ?_) (fun h => ?_)
  · have h2 : k < ps.length := of_decide_eq_true h
    have hd : ps.drop k.toNat = ps.getD k.toNat strY.dft :: ps.drop (k + 1).toNat := by
      rw [show (k + 1).toNat = k.toNat + 1 by omega, List.getD_eq_getElem?_getD, List.getElem?_eq_getElem (by omega : k.toNat < ps.length)]
      exact List.drop_eq_getElem_cons _
    have hp2 : (ps.getD k.toNat strY.dft).size ≤ 2 := by
      refine hps _ ?_
      rw [List.getD_eq_getElem?_getD, List.getElem?_eq_getElem (by omega : k.toNat < ps.length)]
      exact List.getElem_mem _
    rw [hd, List.map_cons, isLit_cons] at g3
    repeat (refine And.intro ?_ ?_; first | omega | (simp only [Lay.d_n]; omega))
    refine x_draw mix (by kernel_rfl) (xd_go tt_ok ?_)
    repeat (refine And.intro ?_ ?_; first | omega | (simp only [Lay.d_n]; omega) | (simp only [decide_eq_true_eq, decide_eq_false_iff_not, Bool.or_eq_false_iff, Bool.and_eq_true, Bool.or_eq_true, Bool.and_eq_false_iff, Bool.not_eq_true', Bool.not_eq_false', Lay.d_n]; omega) | (simp only [decide_eq_true_eq, decide_eq_false_iff_not, Bool.or_eq_false_iff, Bool.and_eq_true, Bool.or_eq_true, Bool.and_eq_false_iff, Bool.not_eq_true', Bool.not_eq_false']; omega))
    refine xd_call0 (.bool (Lx.pieces q (bl (sub s (((ps.getD k.toNat strY.dft).size : Int) + 1) ((s.size : Int) - 1))))) rfl rfl rfl rfl fn120 rfl rfl
      (fun _ E w F _ => pieces_any _ q (by have := sub_le s (((ps.getD k.toNat strY.dft).size : Int) + 1) ((s.size : Int) - 1); omega) w) ?_
    refine xd_go tt_ok ?_
    refine x_if (fun h3 => ?_) (fun h3 => ?_)
    · have h3' : litB q (ps.getD k.toNat strY.dft) s = true := h3
      rw [if_pos h3'] at g3
      repeat (refine And.intro ?_ ?_; first | omega | (simp only [Lay.d_n]; omega))
      rw [g3]
      exact fin1 (fun _ _ => rfl)
    · have h3' : litB q (ps.getD k.toNat strY.dft) s = false := h3
      rw [if_neg (by rw [h3']; simp)] at g3
      repeat (refine And.intro ?_ ?_; first | omega | (simp only [Lay.d_n]; omega) | (simp only [decide_eq_true_eq, decide_eq_false_iff_not, Bool.or_eq_false_iff, Bool.and_eq_true, Bool.or_eq_true, Bool.and_eq_false_iff, Bool.not_eq_true', Bool.not_eq_false', Lay.d_n]; omega) | (simp only [decide_eq_true_eq, decide_eq_false_iff_not, Bool.or_eq_false_iff, Bool.and_eq_true, Bool.or_eq_true, Bool.and_eq_false_iff, Bool.not_eq_true', Bool.not_eq_false']; omega))
      exact again (k + 1) [] (.of rfl rfl rfl rfl rfl rfl) ⟨by omega, by omega, g3⟩ (by omega)
  · have h2 : ¬ k < (ps.length : Int) := of_decide_eq_false h
    rw [List.drop_eq_nil_of_le (by omega)] at g3
    rw [g3]
    exact fin1 (fun _ _ => rfl)
theorem kindR_eq (s : ByteArray) : Lx.kindR (bl s) = if decide (s = ⟨#[10]⟩) = true then 9 else if Lx.isWord (bl s) = true then 1 else if Lx.isNum (bl s) = true then 2
    else if Lx.isLit 39 ([⟨#[]⟩, ⟨#[117]⟩, ⟨#[85]⟩, ⟨#[76]⟩].map bl) (bl s) = true then 3 else if Lx.isLit 34 ([⟨#[]⟩, ⟨#[117, 56]⟩, ⟨#[117]⟩, ⟨#[85]⟩, ⟨#[76]⟩].map bl) (bl s) = true then 4
    else if Lx.isPun (bl s) = true then 5 else 0 := by
  rw [bl_eq]
  have e : bl ⟨#[10]⟩ = [10] := rfl
  rw [e]
  unfold Lx.kindR
  simp only [decide_eq_true_eq]
  rfl
set_option maxRecDepth 100000 in
theorem kind_any (s : ByteArray) (hz : s.size ≤ 140737488355000) (w : World) : Calls Tryz.prog 99 #[.string s] w (PureP w fun v _ => v = .int .i64 (Lx.kindR (bl s))) := by
  have hz' : s.size ≤ 140737488355328 := by omega
  rw [kindR_eq]
  refine x_fun tt_ok Tryz.func99 rfl rfl [] 0 [.v (.string s)] rfl rfl rfl rfl (fun b hb => by cases hb) ?_
  refine x_vc tt_ok ?_
  refine x_if (fun h => ?_) (fun h => ?_)
  · rw [if_pos h]
    exact fin1 (fun _ _ => rfl)
  rw [if_neg (fun h2 => Bool.noConfusion (h2.symm.trans h))]
  refine xl_call0 (.bool (Lx.isWord (bl s))) rfl rfl rfl rfl fn106 rfl rfl (fun E w F _ => isWord_any s hz' w) ?_
  refine xl_go tt_ok ?_
  refine x_if (fun h => ?_) (fun h => ?_)
  · rw [if_pos h]
    exact fin1 (fun _ _ => rfl)
  rw [if_neg (fun h2 => Bool.noConfusion (h2.symm.trans h))]
  refine xl_call0 (.bool (Lx.isNum (bl s))) rfl rfl rfl rfl fn107 rfl rfl (fun E w F _ => isNum_any s hz' w) ?_
  refine xl_go tt_ok ?_
  refine x_if (fun h => ?_) (fun h => ?_)
  · rw [if_pos h]
    exact fin1 (fun _ _ => rfl)
  rw [if_neg (fun h2 => Bool.noConfusion (h2.symm.trans h))]
  refine xl_build tt_ok strY [⟨#[]⟩, ⟨#[117]⟩, ⟨#[85]⟩, ⟨#[76]⟩] [_, _, _, _] rfl rfl rfl rfl rfl rfl rfl rfl rfl rfl rfl rfl rfl rfl rfl ?_
  refine xl_go tt_ok ?_
  refine xl_call0 (.bool (Lx.isLit 39 ([⟨#[]⟩, ⟨#[117]⟩, ⟨#[85]⟩, ⟨#[76]⟩].map bl) (bl s))) rfl rfl rfl rfl fn108 rfl rfl (fun E w F hs => isLit_any s 39 _ _ w (hs.rowAt (k := 0) rfl) (by decide) (by decide) hz') ?_
  refine xl_go tt_ok ?_
  refine x_if (fun h => ?_) (fun h => ?_)
  · rw [if_pos h]
    exact fin1 (fun _ _ => rfl)
  rw [if_neg (fun h2 => Bool.noConfusion (h2.symm.trans h))]
  refine xl_build tt_ok strY [⟨#[]⟩, ⟨#[117, 56]⟩, ⟨#[117]⟩, ⟨#[85]⟩, ⟨#[76]⟩] [_, _, _, _, _] rfl rfl rfl rfl rfl rfl rfl rfl rfl rfl rfl rfl rfl rfl rfl ?_
  refine xl_go tt_ok ?_
  refine xl_call0 (.bool (Lx.isLit 34 ([⟨#[]⟩, ⟨#[117, 56]⟩, ⟨#[117]⟩, ⟨#[85]⟩, ⟨#[76]⟩].map bl) (bl s))) rfl rfl rfl rfl fn108 rfl rfl (fun E w F hs => isLit_any s 34 _ _ w (hs.rowAt (k := 1) rfl) (by decide) (by decide) hz') ?_
  refine xl_go tt_ok ?_
  refine x_if (fun h => ?_) (fun h => ?_)
  · rw [if_pos h]
    exact fin1 (fun _ _ => rfl)
  rw [if_neg (fun h2 => Bool.noConfusion (h2.symm.trans h))]
  refine xl_call0 (.bool (Lx.isPun (bl s))) rfl rfl rfl rfl fn109 rfl rfl (fun E w F _ => isPunct_any s hz w) ?_
  refine xl_go tt_ok ?_
  refine x_if (fun h => ?_) (fun h => ?_)
  · rw [if_pos h]
    exact fin1 (fun _ _ => rfl)
  · rw [if_neg (fun h2 => Bool.noConfusion (h2.symm.trans h))]
    exact fin1 (fun _ _ => rfl)
end Go.Proofs.YtnjmkeijjapejaaGreatDoor
namespace Go.Proofs.YtnjmkeijjapejaaGreatDoor
open Go.GV Go.RowKit
theorem whiteR_any (c : Int) (w : World) : Calls Tryz.prog 89 #[.int .u8 c] w (PureP w fun v _ => v = .bool (Lx.white c)) := by
  refine x_fun tt_ok Tryz.func89 rfl rfl [] 0 [.v (.int .u8 c)] rfl rfl rfl rfl (fun b hb => by cases hb) ?_
  refine x_vc tt_ok ?_
  exact fin1 (fun _ _ => rfl)
set_option maxRecDepth 100000 in
theorem longR_any (s : ByteArray) (h1 : 1 ≤ s.size) (hz : s.size ≤ 140737488355000) (w : World) :
    Calls Tryz.prog 92 #[.string s] w (PureP w fun v _ => v = .tuple #[.int .i64 (Lx.longR (bl s)).1, .int .i64 (Lx.longR (bl s)).2]) := by
  obtain ⟨N, hN⟩ : ∃ N, N = Lx.longR (bl s) := ⟨_, rfl⟩
  rw [← hN]
  refine x_fun tt_ok Tryz.func92 rfl rfl [] 0 [.v (.string s)] rfl rfl rfl rfl (fun b hb => by cases hb) ?_
  refine x_vc tt_ok ?_
  refine x_loop (σ := Int) (fun k => ⟨[(4, .v (.int .i64 k)), (0, .v (.string s))], [], [], 0⟩)
    (fun k _ => 0 ≤ k ∧ k ≤ s.size ∧ (Lx.run Lx.notNl (bl s) : Int) = k + Lx.run Lx.notNl (tl s k)) (fun k => (s.size - k).toNat) (fun _ => Nat.le_refl _) 0 [] (.of rfl rfl rfl rfl rfl rfl)
    ⟨by omega, by omega, by rw [tl_zero]; omega⟩ ?_
  rintro k u hu ⟨g1, g2, g3⟩
  refine x_vc tt_ok ?_
  repeat (refine And.intro ?_ ?_; first | omega | (simp only [decide_eq_true_eq, decide_eq_false_iff_not, Bool.or_eq_false_iff, Lay.d_n]; omega))
  refine x_if (fun h => ?_) (fun h => ?_)
  · obtain ⟨ha, hb⟩ := Bool.and_eq_true_iff.1 h
    have h2 : k < s.size := of_decide_eq_true ha
    have h3 : Lx.notNl (bt s k) = true := by
      unfold Lx.notNl
      have := of_decide_eq_true hb
      simpa using this
    rw [tl_cons g1 h2, run_cons, if_pos h3] at g3
    repeat (refine And.intro ?_ ?_; first | omega | (simp only [Lay.d_n]; omega))
    exact again (k + 1) [] (.of rfl rfl rfl rfl rfl rfl) ⟨by omega, by omega, by omega⟩ (by omega)
  · have g4 : (Lx.run Lx.notNl (bl s) : Int) = k := by
      rw [g3]
      by_cases h2 : k < s.size
      · have h' : (decide (k < (s.size : Int)) && decide (bt s k ≠ 10)) = false := h
        rw [decide_eq_true h2, Bool.true_and] at h'
        have h3 : Lx.notNl (bt s k) = false := by
          unfold Lx.notNl
          have := Classical.not_not.1 (of_decide_eq_false h')
          simpa using this
        rw [tl_cons g1 h2, run_cons, if_neg (by rw [h3]; simp)]; omega
      · rw [tl_nil (by omega)]; simp [Lx.run]
    clear g3
    refine x_if (fun h0 => ?_) (fun h0 => ?_)
    · have h0 : k = 0 := of_decide_eq_true h0
      have e : N = (9, 1) := by rw [hN, Lx.longR, if_pos (by omega)]
      rw [e]
      exact fin1 (fun _ _ => rfl)
    · have h0 : ¬ k = 0 := of_decide_eq_false h0
      have e : N = if (Lx.downR (Lx.run Lx.notNl (bl s)) (bl s)).1 ≠ 0 then Lx.downR (Lx.run Lx.notNl (bl s)) (bl s) else if Lx.qHead (bl s) = true then (0, 0) else (6, 1) := by
        rw [hN, Lx.longR, if_neg (by omega)]
      obtain ⟨m, hm⟩ : ∃ m : Nat, (m : Int) = k := ⟨k.toNat, by omega⟩
      subst hm
      have hr : Lx.run Lx.notNl (bl s) = m := by omega
      rw [hr] at e
      refine x_loop (σ := Nat) (fun n => ⟨[(4, .v (.int .i64 n)), (0, .v (.string s))], [], [], 0⟩)
        (fun n _ => (n : Int) ≤ s.size ∧ Lx.downR m (bl s) = Lx.downR n (bl s)) (fun n => n) (fun _ => Nat.le_refl _) m [] (.of rfl rfl rfl rfl rfl rfl)
        ⟨g2, rfl⟩ ?_
      rintro n u2 hu2 ⟨q1, q2⟩
      refine x_vc tt_ok ?_
      refine x_if (fun h3 => ?_) (fun h3 => ?_)
      · have h3 : 0 < (n : Int) := of_decide_eq_true h3
        obtain ⟨j, rfl⟩ : ∃ j, n = j + 1 := ⟨n - 1, by omega⟩
        repeat (refine And.intro ?_ ?_; first | omega | (simp only [Lay.d_n]; omega))
        refine xl_call0 (.int .i64 (Lx.kindR ((bl s).take (j + 1)))) rfl rfl rfl rfl fn99 rfl rfl (fun E w F _ => by
          have := kind_any (sub s 0 ((j + 1 : Nat) : Int)) (by have := sub_le s 0 ((j + 1 : Nat) : Int); omega) w
          rw [bl_sub s (Int.le_refl _) (by omega) q1, tl_zero, Int.sub_zero, Int.toNat_natCast] at this; exact this) ?_
        refine xl_go tt_ok ?_
        rw [Lx.downR] at q2
        refine x_if (fun h4 => ?_) (fun h4 => ?_)
        · have h4 := of_decide_eq_true h4
          rw [if_pos h4] at q2
          rw [q2, if_pos (by simp only; omega)] at e
          rw [e]
          exact fin1 (fun _ _ => rfl)
        · rw [if_neg (of_decide_eq_false h4)] at q2
          repeat (refine And.intro ?_ ?_; first | omega | (simp only [Lay.d_n]; omega))
          rw [show ((j + 1 : Nat) : Int) - 1 = (j : Int) by omega]
          exact again j [] (.of rfl rfl rfl rfl rfl rfl) ⟨by omega, q2⟩ (by omega)
      · have h3 : ¬ 0 < (n : Int) := of_decide_eq_false h3
        obtain rfl : n = 0 := by omega
        rw [q2, Lx.downR, if_neg (by simp)] at e
        have hq : Lx.qHead (bl s) = (decide (bt s 0 = 39) || decide (bt s 0 = 34)) := by
          rw [← tl_zero, tl_cons (by omega) (by omega)]; rfl
        rw [hq] at e
        repeat (refine And.intro ?_ ?_; first | omega | (simp only [Lay.d_n]; omega))
        refine x_if (fun h4 => ?_) (fun h4 => ?_)
        · rw [if_pos h4] at e
          rw [e]
          exact fin1 (fun _ _ => rfl)
        · rw [if_neg (fun h2 => Bool.noConfusion (h2.symm.trans h4))] at e
          rw [e]
          exact fin1 (fun _ _ => rfl)
theorem atE_0 (n : Nat) : atE 0 n = n := by
  unfold atE; split <;> omega
set_option maxRecDepth 100000 in
theorem named_any (s : ByteArray) (h1 : 1 ≤ s.size) (hz : s.size ≤ 140737488355328) (w : World) :
    Calls Tryz.prog 90 #[.string s] w (PureP w fun v _ => v = .int .i64 (Lx.hdrN (bl s))) := by
  have hE := hdrE_eq (s := s) (i := 0) (Int.le_refl _) (by omega)
  have hN : hdrE s 0 = (Lx.hdrN (bl s) : Int) := by unfold hdrE; rw [atE_0, tl_zero]
  rw [← hN]
  refine x_fun tt_ok Tryz.func90 rfl rfl [] 0 [.v (.string s)] rfl rfl rfl rfl (fun b hb => by cases hb) ?_
  refine x_vc tt_ok ?_
  repeat (refine And.intro ?_ ?_; first | omega | (simp only [Lay.d_n]; omega))
  refine x_if (fun h => ?_) (fun h => ?_)
  · obtain ⟨ha, hb⟩ := Bool.and_eq_true_iff.1 h
    rw [if_neg (of_decide_eq_true ha), if_neg (of_decide_eq_true hb)] at hE
    rw [hE]
    exact fin1 (fun _ _ => rfl)
  · have h' : (decide (bt s 0 ≠ 60) && decide (bt s 0 ≠ 34)) = false := h
    repeat (refine And.intro ?_ ?_; first | omega | (simp only [Lay.d_n]; omega))
    refine x_if (fun h2 => ?_) (fun h2 => ?_)
    · rw [if_pos (of_decide_eq_true h2)] at hE
      obtain ⟨q, hq⟩ : ∃ q : Int, q = 62 := ⟨_, rfl⟩
      rw [← hq] at hE ⊢
      refine x_loop (σ := Int) (fun k => ⟨[(4, .v (.int .i64 k)), (3, .v (.int .u8 q)), (0, .v (.string s))], [], [], 0⟩)
        (fun k _ => 0 ≤ k ∧ k ≤ s.size ∧ hdrE s 0 = atE k (Lx.hdrGo q (tl s k))) (fun k => (s.size - k).toNat) (fun _ => Nat.le_refl _) 1 [] (.of rfl rfl rfl rfl rfl rfl)
        ⟨by omega, by omega, hE⟩ ?_
      rintro k u2 hu2 ⟨g1, g2, g3⟩
      refine x_vc tt_ok ?_
      repeat (refine And.intro ?_ ?_; first | omega | (simp only [decide_eq_true_eq, decide_eq_false_iff_not, Bool.or_eq_false_iff, Lay.d_n]; omega))
      refine x_if (fun h => ?_) (fun h => ?_)
      · obtain ⟨ha, hb⟩ := Bool.and_eq_true_iff.1 h
        have h2 : k < s.size := of_decide_eq_true ha
        have h3 : ¬ bt s k = 10 := of_decide_eq_true hb
        rw [tl_cons g1 h2, hdrGo_pos, if_neg h3] at g3
        repeat (refine And.intro ?_ ?_; first | omega | (simp only [Lay.d_n]; omega))
        refine x_if (fun h5 => ?_) (fun h5 => ?_)
        · rw [if_pos (of_decide_eq_true h5)] at g3
          repeat (refine And.intro ?_ ?_; first | omega | (simp only [Lay.d_n]; omega))
          rw [g3]
          exact fin1 (fun _ _ => rfl)
        · repeat (refine And.intro ?_ ?_; first | omega | (simp only [Lay.d_n]; omega))
          rw [if_neg (of_decide_eq_false h5), atE_up] at g3
          exact again (k + 1) [] (.of rfl rfl rfl rfl rfl rfl) ⟨by omega, by omega, g3⟩ (by omega)
      · have g4 : hdrE s 0 = 0 := by
          rw [g3]
          by_cases h2 : k < s.size
          · have h' : (decide (k < (s.size : Int)) && decide (bt s k ≠ 10)) = false := h
            rw [decide_eq_true h2, Bool.true_and] at h'
            rw [tl_cons g1 h2, hdrGo_pos, if_pos (Classical.not_not.1 (of_decide_eq_false h'))]; rfl
          · rw [tl_nil (by omega)]; rfl
        rw [g4]
        exact fin1 (fun _ _ => rfl)
    · have h2 := of_decide_eq_false h2
      rw [decide_eq_true h2, Bool.true_and] at h'
      have h34 : bt s 0 = 34 := Classical.not_not.1 (of_decide_eq_false h')
      rw [if_neg h2, if_pos h34] at hE
      obtain ⟨q, hq⟩ : ∃ q : Int, q = bt s 0 := ⟨_, rfl⟩
      rw [← h34, ← hq] at hE
      rw [← hq]
      refine x_loop (σ := Int) (fun k => ⟨[(4, .v (.int .i64 k)), (3, .v (.int .u8 q)), (0, .v (.string s))], [], [], 0⟩)
        (fun k _ => 0 ≤ k ∧ k ≤ s.size ∧ hdrE s 0 = atE k (Lx.hdrGo q (tl s k))) (fun k => (s.size - k).toNat) (fun _ => Nat.le_refl _) 1 [] (.of rfl rfl rfl rfl rfl rfl)
        ⟨by omega, by omega, hE⟩ ?_
      rintro k u2 hu2 ⟨g1, g2, g3⟩
      refine x_vc tt_ok ?_
      repeat (refine And.intro ?_ ?_; first | omega | (simp only [decide_eq_true_eq, decide_eq_false_iff_not, Bool.or_eq_false_iff, Lay.d_n]; omega))
      refine x_if (fun h => ?_) (fun h => ?_)
      · obtain ⟨ha, hb⟩ := Bool.and_eq_true_iff.1 h
        have h2 : k < s.size := of_decide_eq_true ha
        have h3 : ¬ bt s k = 10 := of_decide_eq_true hb
        rw [tl_cons g1 h2, hdrGo_pos, if_neg h3] at g3
        repeat (refine And.intro ?_ ?_; first | omega | (simp only [Lay.d_n]; omega))
        refine x_if (fun h5 => ?_) (fun h5 => ?_)
        · rw [if_pos (of_decide_eq_true h5)] at g3
          repeat (refine And.intro ?_ ?_; first | omega | (simp only [Lay.d_n]; omega))
          rw [g3]
          exact fin1 (fun _ _ => rfl)
        · repeat (refine And.intro ?_ ?_; first | omega | (simp only [Lay.d_n]; omega))
          rw [if_neg (of_decide_eq_false h5), atE_up] at g3
          exact again (k + 1) [] (.of rfl rfl rfl rfl rfl rfl) ⟨by omega, by omega, g3⟩ (by omega)
      · have g4 : hdrE s 0 = 0 := by
          rw [g3]
          by_cases h2 : k < s.size
          · have h' : (decide (k < (s.size : Int)) && decide (bt s k ≠ 10)) = false := h
            rw [decide_eq_true h2, Bool.true_and] at h'
            rw [tl_cons g1 h2, hdrGo_pos, if_pos (Classical.not_not.1 (of_decide_eq_false h'))]; rfl
          · rw [tl_nil (by omega)]; rfl
        rw [g4]
        exact fin1 (fun _ _ => rfl)
end Go.Proofs.YtnjmkeijjapejaaGreatDoor
namespace Go.Proofs.YtnjmkeijjapejaaGreatDoor
open Go.GV Go.RowKit
theorem endC_cons (a : Int) (r : Lx.Bs) : Lx.endC (a :: r) = if a = 42 ∧ r.head? = some 47 then 2 else if Lx.endC r = 0 then 0 else Lx.endC r + 1 := by
  cases r with
  | nil => simp [Lx.endC]
  | cons b r =>
    simp only [Lx.endC, List.head?_cons, Option.some.injEq]
    by_cases h : a = 42 ∧ b = 47
    · rw [decide_eq_true h.1, decide_eq_true h.2, if_pos h]; rfl
    · rw [if_neg h]
      have : (decide (a = 42) && decide (b = 47)) = false := by
        rw [Bool.and_eq_false_iff]
        by_cases h1 : a = 42
        · exact .inr (decide_eq_false (fun h2 => h ⟨h1, h2⟩))
        · exact .inl (decide_eq_false h1)
      rw [this]
      simp only
      cases Lx.endC (b :: r) <;> simp
theorem tl_head {s : ByteArray} {i : Int} (h0 : 0 ≤ i) (h : i < s.size) : (tl s i).head? = some (bt s i) := by rw [tl_cons h0 h]; rfl
theorem tl_two {s : ByteArray} (h : 2 ≤ s.size) : (bl s).take 2 = [bt s 0, bt s 1] := by
  rw [← tl_zero, tl_cons (by omega) (by omega), tl_cons (by omega) (by omega)]; rfl
set_option maxRecDepth 100000 in
theorem remark_any (s : ByteArray) (h1 : 1 ≤ s.size) (hz : s.size ≤ 140737488355328) (w : World) :
    Calls Tryz.prog 91 #[.string s] w (PureP w fun v _ => v = .int .i64 (Lx.remR (bl s))) := by
  obtain ⟨N, hN⟩ : ∃ N, N = Lx.remR (bl s) := ⟨_, rfl⟩
  rw [← hN]
  refine x_fun tt_ok Tryz.func91 rfl rfl [] 0 [.v (.string s)] rfl rfl rfl rfl (fun b hb => by cases hb) ?_
  refine x_vc tt_ok ?_
  repeat (refine And.intro ?_ ?_; first | omega | (simp only [decide_eq_true_eq, decide_eq_false_iff_not, Bool.or_eq_false_iff, Lay.d_n]; omega))
  refine x_if (fun h => ?_) (fun h => ?_)
  · have h' : ((decide ((s.size : Int) < 2) || decide (bt s 0 ≠ 47)) || (decide (bt s 1 ≠ 47) && decide (bt s 1 ≠ 42))) = true := h
    have e : N = 0 := by
      rw [hN]
      unfold Lx.remR Lx.isOpen Lx.isLine
      by_cases h2 : 2 ≤ s.size
      · rw [tl_two h2]
        rw [decide_eq_false (by omega), Bool.false_or] at h'
        have n1 : ¬ [bt s 0, bt s 1] = [47, 42] := by
          simp only [List.cons.injEq, and_true]
          rintro ⟨a1, a2⟩
          rw [a1, a2] at h'; revert h'; decide
        have n2 : ¬ [bt s 0, bt s 1] = [47, 47] := by
          simp only [List.cons.injEq, and_true]
          rintro ⟨a1, a2⟩
          rw [a1, a2] at h'; revert h'; decide
        rw [decide_eq_false n1, decide_eq_false n2]; rfl
      · have hl : ∀ x y : Int, ¬ (bl s).take 2 = [x, y] := by
          intro x y hc
          have := congrArg List.length hc
          rw [List.length_take, bl_len] at this
          simp only [List.length_cons, List.length_nil] at this
          omega
        rw [decide_eq_false (hl _ _), decide_eq_false (hl _ _)]; rfl
    rw [e]
    exact fin1 (fun _ _ => rfl)
  · have h' : ((decide ((s.size : Int) < 2) || decide (bt s 0 ≠ 47)) || (decide (bt s 1 ≠ 47) && decide (bt s 1 ≠ 42))) = false := h
    obtain ⟨a1, a2⟩ := Bool.or_eq_false_iff.1 h'
    obtain ⟨a3, a4⟩ := Bool.or_eq_false_iff.1 a1
    have a3 := of_decide_eq_false a3
    have a4 : bt s 0 = 47 := Classical.not_not.1 (of_decide_eq_false a4)
    have h2 : 2 ≤ s.size := by omega
    clear h h' a1
    by_cases h47 : bt s 1 = 47
    · have e : N = (Lx.run Lx.notNl (bl s) : Int) := by
        rw [hN]
        unfold Lx.remR Lx.isOpen Lx.isLine
        rw [tl_two h2, a4, h47]; rfl
      have e0 : (Lx.run Lx.notNl (bl s) : Int) = 2 + Lx.run Lx.notNl (tl s 2) := by
        rw [← tl_zero, tl_cons (by omega) (by omega), run_cons, a4, if_pos (show Lx.notNl 47 = true from rfl), tl_cons (by omega) (by omega), run_cons, show (0 : Int) + 1 = 1 from rfl, h47, if_pos (show Lx.notNl 47 = true from rfl)]
        show ((Lx.run Lx.notNl (tl s 2) + 1 + 1 : Nat) : Int) = _
        omega
      rw [e0] at e
      refine x_loop (σ := Int) (fun k => ⟨[(3, .v (.int .i64 k)), (0, .v (.string s))], [], [], 0⟩)
        (fun k _ => 2 ≤ k ∧ k ≤ s.size ∧ N = k + Lx.run Lx.notNl (tl s k)) (fun k => (s.size - k).toNat) (fun _ => Nat.le_refl _) 2 [] (.of rfl rfl rfl rfl rfl rfl)
        ⟨by omega, by omega, e⟩ ?_
      rintro k u hu ⟨g1, g2, g3⟩
      refine x_vc tt_ok ?_
      refine x_if (fun h => ?_) (fun h => ?_)
      · have hk : k < s.size := of_decide_eq_true h
        rw [tl_cons (by omega) hk, run_cons] at g3
        repeat (refine And.intro ?_ ?_; first | omega | (simp only [Lay.d_n]; omega))
        refine x_if (fun h3 => ?_) (fun h3 => ?_)
        · have h4 : bt s k = 10 := of_decide_eq_true (Bool.and_eq_true_iff.1 h3).2
          rw [h4, if_neg (by decide)] at g3
          have e : N = k := by omega
          rw [e]
          exact fin1 (fun _ _ => rfl)
        · have h3' : (decide (bt s 1 = 47) && decide (bt s k = 10)) = false := h3
          rw [decide_eq_true h47, Bool.true_and] at h3'
          have h4 := of_decide_eq_false h3'
          have h5 : Lx.notNl (bt s k) = true := by unfold Lx.notNl; simpa using h4
          rw [if_pos h5] at g3
          repeat (refine And.intro ?_ ?_; first | omega | (simp only [Lay.d_n]; omega))
          refine x_if (fun h6 => ?_) (fun h6 => ?_)
          · have h6' : (((decide (bt s 1 = 42) && decide (2 < k)) && decide (bt s k = 47)) && decide (bt s (k - 1) = 42)) = true := h6
            rw [decide_eq_false (by omega)] at h6'; cases h6'
          · repeat (refine And.intro ?_ ?_; first | omega | (simp only [Lay.d_n]; omega))
            exact again (k + 1) [] (.of rfl rfl rfl rfl rfl rfl) ⟨by omega, by omega, by omega⟩ (by omega)
      · have hk : ¬ k < (s.size : Int) := of_decide_eq_false h
        rw [tl_nil (by omega)] at g3
        have e : N = s.size := by
          simp only [Lx.run] at g3
          omega
        repeat (refine And.intro ?_ ?_; first | omega | (simp only [Lay.d_n]; omega))
        refine x_ift (decide_eq_true h47) ?_
        rw [e]
        exact fin1 (fun _ _ => rfl)
    · have h42 : bt s 1 = 42 := by
        rw [decide_eq_true h47, Bool.true_and] at a2
        exact Classical.not_not.1 (of_decide_eq_false a2)
      have e : N = if Lx.endC (tl s 2) = 0 then -1 else atE 2 (Lx.endC (tl s 2)) := by
        rw [hN]
        unfold Lx.remR Lx.isOpen Lx.isLine
        rw [tl_two h2, a4, h42]
        have : (bl s).drop 2 = tl s 2 := rfl
        rw [this]
        simp only [decide_true, if_true]
        cases Lx.endC (tl s 2) with
        | zero => rfl
        | succ n =>
          rw [if_neg (by omega)]
          unfold atE
          rw [if_neg (by omega)]
          show (n : Int) + 3 = 2 + ((n + 1 : Nat) : Int)
          omega
      have e : N = if atE 2 (Lx.endC (tl s 2)) = 0 then -1 else atE 2 (Lx.endC (tl s 2)) := by
        rw [e]
        unfold atE
        by_cases h0 : Lx.endC (tl s 2) = 0
        · rw [if_pos h0, if_pos h0]; rfl
        · rw [if_neg h0, if_neg h0, if_neg (by omega)]
      refine x_loop (σ := Int) (fun k => ⟨[(3, .v (.int .i64 k)), (0, .v (.string s))], [], [], 0⟩)
        (fun k _ => 2 ≤ k ∧ k ≤ s.size ∧ ((k = 2 ∧ N = if atE 2 (Lx.endC (tl s 2)) = 0 then -1 else atE 2 (Lx.endC (tl s 2))) ∨ (2 < k ∧ N = if atE (k - 1) (Lx.endC (tl s (k - 1))) = 0 then -1 else atE (k - 1) (Lx.endC (tl s (k - 1))))))
        (fun k => (s.size - k).toNat) (fun _ => Nat.le_refl _) 2 [] (.of rfl rfl rfl rfl rfl rfl)
        ⟨by omega, by omega, .inl ⟨rfl, e⟩⟩ ?_
      clear e
      rintro k u hu ⟨g1, g2, g3⟩
      refine x_vc tt_ok ?_
      refine x_if (fun h => ?_) (fun h => ?_)
      · have hk : k < s.size := of_decide_eq_true h
        repeat (refine And.intro ?_ ?_; first | omega | (simp only [Lay.d_n]; omega))
        refine x_if (fun h3 => ?_) (fun h3 => ?_)
        · exact absurd (of_decide_eq_true (Bool.and_eq_true_iff.1 h3).1) h47
        · repeat (refine And.intro ?_ ?_; first | omega | (simp only [Lay.d_n]; omega))
          refine x_if (fun h6 => ?_) (fun h6 => ?_)
          · have h6' : (((decide (bt s 1 = 42) && decide (2 < k)) && decide (bt s k = 47)) && decide (bt s (k - 1) = 42)) = true := h6
            simp only [Bool.and_eq_true, decide_eq_true_eq] at h6'
            obtain ⟨⟨⟨_, b1⟩, b2⟩, b3⟩ := h6'
            rcases g3 with ⟨c1, _⟩ | ⟨c1, c2⟩
            · omega
            · have e : N = k + 1 := by
                have ec : Lx.endC (tl s (k - 1)) = 2 := by
                  rw [tl_cons (by omega) (by omega), endC_cons, show k - 1 + 1 = k by omega, tl_head (by omega) hk, if_pos ⟨b3, by rw [b2]⟩]
                have ea : atE (k - 1) 2 = k + 1 := by unfold atE; rw [if_neg (by omega)]; omega
                rw [c2, ec, ea, if_neg (by omega)]
              repeat (refine And.intro ?_ ?_; first | omega | (simp only [Lay.d_n]; omega))
              rw [e]
              exact fin1 (fun _ _ => rfl)
          · have h6' : (((decide (bt s 1 = 42) && decide (2 < k)) && decide (bt s k = 47)) && decide (bt s (k - 1) = 42)) = false := h6
            repeat (refine And.intro ?_ ?_; first | omega | (simp only [Lay.d_n]; omega))
            refine again (k + 1) [] (.of rfl rfl rfl rfl rfl rfl) ⟨by omega, by omega, .inr ⟨by omega, ?_⟩⟩ (by omega)
            rw [show k + 1 - 1 = k by omega]
            rcases g3 with ⟨c1, c2⟩ | ⟨c1, c2⟩
            · subst c1; exact c2
            · have hn : ¬ (bt s (k - 1) = 42 ∧ some (bt s k) = some (47 : Int)) := by
                rintro ⟨b3, b2⟩
                rw [decide_eq_true h42, decide_eq_true c1, decide_eq_true (Option.some.inj b2), decide_eq_true b3] at h6'; cases h6'
              have ec : Lx.endC (tl s (k - 1)) = if Lx.endC (tl s k) = 0 then 0 else Lx.endC (tl s k) + 1 := by
                rw [tl_cons (by omega) (by omega), endC_cons, show k - 1 + 1 = k by omega, tl_head (by omega) hk, if_neg hn]
              rw [ec, atE_up, show k - 1 + 1 = k by omega] at c2
              exact c2
      · have hk : ¬ k < (s.size : Int) := of_decide_eq_false h
        have e : N = -1 := by
          rcases g3 with ⟨c1, c2⟩ | ⟨c1, c2⟩
          · rw [c2, tl_nil (by omega)]; rfl
          · rw [c2, tl_cons (by omega) (by omega), endC_cons, tl_nil (by omega)]
            simp [Lx.endC, atE]
        repeat (refine And.intro ?_ ?_; first | omega | (simp only [Lay.d_n]; omega))
        refine x_iff (decide_eq_false h47) ?_
        rw [e]
        exact fin1 (fun _ _ => rfl)
end Go.Proofs.YtnjmkeijjapejaaGreatDoor
namespace Go.Proofs.YtnjmkeijjapejaaGreatDoor
open Go.GV Go.RowKit
def rtF (s : ByteArray) : Nat → Int → Bool → Int → List (Lx.Tk × Bool)
  | 0, _, _, _ => []
  | n + 1, st, sp, i => if i < s.size then
      (if Lx.white (bt s i) = true then rtF s n st true (i + 1)
      else if (itm s st i).err ≠ 0 then [(⟨0, 0, 0, (itm s st i).err⟩, sp)]
      else (⟨(itm s st i).kind, i.toNat, i.toNat + (itm s st i).len, 0⟩, sp) :: rtF s n (Lx.after st (itm s st i).kind ((tl s i).take (itm s st i).len)) false (i + (itm s st i).len))
    else []
theorem rtF_fuel (s : ByteArray) : ∀ (n m : Nat) (st : Int) (sp : Bool) (i : Int), 0 ≤ i → (s.size : Int) - i ≤ n → (s.size : Int) - i ≤ m → rtF s n st sp i = rtF s m st sp i
  | 0, 0, _, _, _, _, _, _ => rfl
  | 0, m + 1, st, sp, i, h0, h1, h2 => by rw [rtF, rtF, if_neg (by omega)]
  | n + 1, 0, st, sp, i, h0, h1, h2 => by rw [rtF, rtF, if_neg (by omega)]
  | n + 1, m + 1, st, sp, i, h0, h1, h2 => by
    rw [rtF, rtF]
    by_cases hi : i < s.size
    · rw [if_pos hi, if_pos hi, rtF_fuel s n m st true (i + 1) (by omega) (by omega) (by omega)]
      by_cases he : (itm s st i).err = 0
      · have := itm_le h0 hi he
        rw [rtF_fuel s n m _ false (i + (itm s st i).len) (by omega) (by omega) (by omega)]
      · rw [if_pos he, if_pos he]
    · rw [if_neg hi, if_neg hi]
def rtA (s : ByteArray) (st : Int) (sp : Bool) (i : Int) : List (Lx.Tk × Bool) := rtF s s.size st sp i
theorem rtA_nil {s : ByteArray} {st : Int} {sp : Bool} {i : Int} (h : s.size ≤ i) : rtA s st sp i = [] := by
  unfold rtA
  cases hn : s.size with
  | zero => rfl
  | succ n => rw [rtF, if_neg (by omega)]
theorem rtA_cons {s : ByteArray} {st : Int} {sp : Bool} {i : Int} (h0 : 0 ≤ i) (h : i < s.size) : rtA s st sp i =
    if Lx.white (bt s i) = true then rtA s st true (i + 1)
    else if (itm s st i).err ≠ 0 then [(⟨0, 0, 0, (itm s st i).err⟩, sp)]
    else (⟨(itm s st i).kind, i.toNat, i.toNat + (itm s st i).len, 0⟩, sp) :: rtA s (Lx.after st (itm s st i).kind ((tl s i).take (itm s st i).len)) false (i + (itm s st i).len) := by
  unfold rtA
  obtain ⟨n, hn⟩ : ∃ n, s.size = n + 1 := ⟨s.size - 1, by omega⟩
  conv => lhs; rw [hn, rtF, if_pos h]
  rw [rtF_fuel s n s.size st true (i + 1) (by omega) (by omega) (by omega)]
  by_cases he : (itm s st i).err = 0
  · have := itm_le h0 h he
    rw [rtF_fuel s n s.size _ false (i + (itm s st i).len) (by omega) (by omega) (by omega)]
  · rw [if_pos he, if_pos he]
theorem rtF_fst (s : ByteArray) : ∀ (n : Nat) (st : Int) (sp : Bool) (i : Int), 0 ≤ i → (s.size : Int) - i ≤ n → (rtF s n st sp i).map (·.1) = itA s st i
  | 0, st, sp, i, h0, h1 => by rw [rtF, itA_nil (by omega)]; rfl
  | n + 1, st, sp, i, h0, h1 => by
    rw [rtF]
    by_cases hi : i < s.size
    · rw [if_pos hi, itA_cons h0 hi]
      by_cases hw : Lx.white (bt s i) = true
      · rw [if_pos hw, if_pos hw]; exact rtF_fst s n st true (i + 1) (by omega) (by omega)
      · rw [if_neg hw, if_neg hw]
        by_cases he : (itm s st i).err = 0
        · have := itm_le h0 hi he
          rw [if_neg (by simpa using he), if_neg (by simpa using he), List.map_cons, rtF_fst s n _ false _ (by omega) (by omega)]
        · rw [if_pos he, if_pos he]; rfl
    · rw [if_neg hi, itA_nil (by omega)]; rfl
theorem rtA_fst (s : ByteArray) : (rtA s 0 false 0).map (·.1) = itsOf s := by
  rw [← itA_zero]; exact rtF_fst s _ _ _ _ (Int.le_refl _) (by omega)
abbrev hashW (x : ByteArray) : Prop := x = ⟨#[35]⟩ ∨ x = ⟨#[37, 58]⟩
def inclW : ByteArray := ⟨#[105, 110, 99, 108, 117, 100, 101]⟩
def Rel : List ByteArray → Int → Prop
  | [], st => st = 0
  | [x], st => (hashW x ∧ st = 1) ∨ (¬ hashW x ∧ st = 3)
  | [x, y], st => (hashW x ∧ y = inclW ∧ st = 2) ∨ (¬ (hashW x ∧ y = inclW) ∧ st = 3)
  | _ :: _ :: _ :: _, st => st = 3
def hdrW (W : List ByteArray) : Bool := decide ((W.length : Int) = 2) && (decide (W.getD 0 ⟨#[]⟩ = ⟨#[35]⟩) || decide (W.getD 0 ⟨#[]⟩ = ⟨#[37, 58]⟩)) && decide (W.getD 1 ⟨#[]⟩ = ⟨#[105, 110, 99, 108, 117, 100, 101]⟩)
theorem Rel.hdr {W : List ByteArray} {st : Int} (h : Rel W st) : hdrW W = decide (st = 2) := by
  match W, h with
  | [], h => have h : st = 0 := h; subst h; rfl
  | [x], h =>
    have : ¬ st = 2 := by rcases h with h | h <;> omega
    rw [decide_eq_false this]; rfl
  | [x, y], h =>
    rcases h with ⟨h1, h2, h3⟩ | ⟨h1, h2⟩
    · subst h3; subst h2
      rcases h1 with rfl | rfl <;> rfl
    · subst h2
      cases hh : hdrW [x, y] with
      | false => rfl
      | true =>
        refine absurd ?_ h1
        simp only [hdrW, Bool.and_eq_true, Bool.or_eq_true, decide_eq_true_eq] at hh
        exact ⟨hh.1.2, hh.2⟩
  | x :: y :: z :: r, h =>
    have h : st = 3 := h
    subst h
    unfold hdrW
    rw [decide_eq_false (by simp only [List.length_cons]; omega)]; rfl
theorem bestL_seven (l : Lx.Bs) : (Lx.bestL l).1 ≠ 7 := by
  unfold Lx.bestL
  have h := Lx.litQ_facts l
  split
  · rcases h with h | h
    · omega
    · rcases h.1 with h | h <;> omega
  · split
    · show (1 : Int) ≠ 7; decide
    · split
      · show (2 : Int) ≠ 7; decide
      · split
        · show (5 : Int) ≠ 7; decide
        · show (0 : Int) ≠ 7; decide
theorem hdrN_head {c : Int} {r : Lx.Bs} (h : 0 < Lx.hdrN (c :: r)) : c = 60 ∨ c = 34 := by
  simp only [Lx.hdrN] at h
  by_cases h1 : c = 60
  · exact .inl h1
  · rw [if_neg h1] at h
    by_cases h2 : c = 34
    · exact .inr h2
    · rw [if_neg h2] at h; omega
theorem item_seven {hdr : Bool} {c : Int} {r : Lx.Bs} (h : (Lx.itemP hdr (c :: r)).kind = 7) : c = 60 ∨ c = 34 := by
  rw [itemP_eq] at h
  split at h
  · rename_i h1; exact hdrN_head h1.2
  · split at h
    · split at h <;> simp at h
    · split at h
      · simp at h
      · unfold longL at h
        split at h
        · simp at h
        · split at h
          · exact absurd h (bestL_seven _)
          · split at h <;> simp at h
theorem one_hash : Lx.oneL [35] = some 5 := by decide
theorem one_hash2 : Lx.oneL [37, 58] = some 5 := by decide
theorem one_incl : Lx.oneL [105, 110, 99, 108, 117, 100, 101] = some 1 := by decide
theorem itm_one {s : ByteArray} {st i : Int} (h0 : 0 ≤ i) (h : i < s.size) (hw : Lx.white (bt s i) = false) (he : (itm s st i).err = 0) {t : Lx.Bs} (ht : (tl s i).take (itm s st i).len = t) {k c : Int}
    (hk : Lx.oneL t = some k) (hc : t.head? = some c) (hc1 : c ≠ 60) (hc2 : c ≠ 34) : (itm s st i).kind = k := by
  unfold itm at he ht ⊢
  have h1 := Lx.itemP_le (decide (st = 2)) (l := tl s i) (by rw [tl_cons h0 h]; simp)
  have h2 := h1.2 he
  rw [tl_cons h0 h] at he ht h2 ⊢
  have hb : bt s i = c := by
    rw [← ht, Lx.head_take (by omega)] at hc
    exact Option.some.inj hc
  have h7 : (Lx.itemP (decide (st = 2)) (bt s i :: tl s (i + 1))).kind ≠ 7 := fun h7 => by
    rcases item_seven h7 with h7 | h7
    · exact hc1 (hb.symm.trans h7)
    · exact hc2 (hb.symm.trans h7)
  have := Lx.one_of_item hw he h7
  rw [ht, hk] at this
  exact (Option.some.inj this).symm
theorem Rel.step {s : ByteArray} {W : List ByteArray} {st i : Int} (h : Rel W st) (h0 : 0 ≤ i) (hi : i < s.size) (hw : Lx.white (bt s i) = false) (he : (itm s st i).err = 0) (h8 : (itm s st i).kind ≠ 8) (h9 : (itm s st i).kind ≠ 9) :
    Rel (W ++ [sub s i (i + (itm s st i).len)]) (Lx.after st (itm s st i).kind ((tl s i).take (itm s st i).len)) := by
  obtain ⟨m1, m2⟩ := itm_le h0 hi he
  have hb : bl (sub s i (i + (itm s st i).len)) = (tl s i).take (itm s st i).len := by rw [bl_part s h0 (by omega) m2, Int.toNat_natCast]
  have k1 : hashW (sub s i (i + (itm s st i).len)) → (itm s st i).kind = 5 := by
    rintro (h | h)
    · exact itm_one h0 hi hw he (t := [35]) (by rw [← hb, h]; rfl) one_hash rfl (by decide) (by decide)
    · exact itm_one h0 hi hw he (t := [37, 58]) (by rw [← hb, h]; rfl) one_hash2 rfl (by decide) (by decide)
  have k2 : sub s i (i + (itm s st i).len) = inclW → (itm s st i).kind = 1 := fun h =>
    itm_one h0 hi hw he (t := [105, 110, 99, 108, 117, 100, 101]) (by rw [← hb, h]; rfl) one_incl rfl (by decide) (by decide)
  have t1 : ((tl s i).take (itm s st i).len = [35] ∨ (tl s i).take (itm s st i).len = [37, 58]) ↔ hashW (sub s i (i + (itm s st i).len)) := by
    rw [← hb]
    unfold hashW
    constructor
    · rintro (h | h)
      · exact .inl (bl_inj h)
      · exact .inr (bl_inj h)
    · rintro (h | h)
      · exact .inl (by rw [h]; rfl)
      · exact .inr (by rw [h]; rfl)
  have t2 : (tl s i).take (itm s st i).len = [105, 110, 99, 108, 117, 100, 101] ↔ sub s i (i + (itm s st i).len) = inclW := by
    rw [← hb]
    exact ⟨fun h => bl_inj h, fun h => by rw [h]; rfl⟩
  have ea : Lx.after st (itm s st i).kind ((tl s i).take (itm s st i).len) = if st = 0 ∧ (itm s st i).kind = 5 ∧ hashW (sub s i (i + (itm s st i).len)) then 1
      else if st = 1 ∧ (itm s st i).kind = 1 ∧ sub s i (i + (itm s st i).len) = inclW then 2 else 3 := by
    unfold Lx.after
    rw [if_neg h8, if_neg h9]
    simp only [t1, t2]
  rw [ea]
  generalize sub s i (i + (itm s st i).len) = t at k1 k2 ⊢
  match W, h with
  | [], h =>
    have h : st = 0 := h
    subst h
    by_cases hh : hashW t
    · rw [if_pos ⟨rfl, k1 hh, hh⟩]; exact .inl ⟨hh, rfl⟩
    · rw [if_neg (fun h => hh h.2.2), if_neg (fun h => by omega)]; exact .inr ⟨hh, rfl⟩
  | [x], h =>
    rcases h with ⟨h1, h2⟩ | ⟨h1, h2⟩
    · rw [if_neg (fun h => by omega)]
      by_cases hh : t = inclW
      · rw [if_pos ⟨h2, k2 hh, hh⟩]; exact .inl ⟨h1, hh, rfl⟩
      · rw [if_neg (fun h => hh h.2.2)]; exact .inr ⟨fun h => hh h.2, rfl⟩
    · rw [if_neg (fun h => by omega), if_neg (fun h => by omega)]
      exact .inr ⟨fun h => h1 h.1, rfl⟩
  | [x, y], h =>
    have : st = 2 ∨ st = 3 := by
      rcases h with h | h
      · exact .inl h.2.2
      · exact .inr h.2
    rw [if_neg (fun h => by omega), if_neg (fun h => by omega)]
    rfl
  | x :: y :: z :: r, h =>
    have h : st = 3 := h
    rw [if_neg (fun h => by omega), if_neg (fun h => by omega)]
    rfl
def errT : List (Lx.Tk × Bool) → Int
  | [] => 0
  | t :: r => if t.1.err ≠ 0 then t.1.err else errT r
def tokT (s : ByteArray) (p : Lx.Tk × Bool) : Tok := ⟨p.1.kind, sub s p.1.lo p.1.hi, p.1.lo, p.1.hi, p.2⟩
def rErr (s : ByteArray) : Int := errT (rtA s 0 false 0)
def rToks (s : ByteArray) : List Tok := if rErr s = 0 then (rtA s 0 false 0).map (tokT s) else []
end Go.Proofs.YtnjmkeijjapejaaGreatDoor
namespace Go.Proofs.YtnjmkeijjapejaaGreatDoor
open Go.GV Go.RowKit
set_option maxRecDepth 100000 in
theorem refTokens_any (s : ByteArray) (hz : s.size ≤ 4294967280) (w : World) :
    Calls Tryz.prog 74 #[.string s] w (PureP w (OwnT 133 (tokY.d (rToks s)) [.int .i64 (rErr s)])) := by
  refine x_fun tt_ok Tryz.func74 rfl rfl [] 0 [.v (.string s)] rfl rfl rfl rfl (fun b hb => by cases hb) ?_
  refine x_vc tt_ok ?_
  refine x_nil 4 133 tokY rfl ?_
  refine x_loop (σ := Int × Bool × List Tok × Bool × List ByteArray × Int) (fun (i, sp, T, wr, W, _) => ⟨[(7, .v (.bool sp)), (6, .v (.int .i64 i)), (5, cond wr (.r 2) (.v (.slice none 0 0))), (4, .r 1), (0, .v (.string s))], [],
      cond wr [(2, .row 9 (strY.d W)), (1, .row 133 (tokY.d T))] [(1, .row 133 (tokY.d T))], 3⟩)
    (fun (i, sp, T, wr, W, st) _ => 0 ≤ i ∧ i ≤ s.size ∧ (T.length : Int) ≤ i ∧ (W.length : Int) ≤ i ∧ (wr = false → W = []) ∧ Rel W st ∧ rErr s = errT (rtA s st sp i) ∧ (rErr s = 0 → rToks s = T ++ (rtA s st sp i).map (tokT s)))
    (fun (i, _) => (s.size - i).toNat) (fun (_, _, _, _, _, _) => by show 1 ≤ 3; decide) (0, false, [], false, [], 0) [(1, some 0)] (.of rfl rfl rfl rfl rfl rfl)
    ⟨by omega, by omega, by simp, by simp, fun _ => rfl, rfl, rfl, fun h => by rw [rToks, if_pos h]; rfl⟩ ?_
  rintro ⟨i, sp, T, wr, W, st⟩ u hu ⟨g1, g2, g3, g4, g5, g6, g7, g8⟩
  refine x_cut (σ := Unit) (fun _ => ⟨[(7, .v (.bool sp)), (6, .v (.int .i64 i)), (5, .r 3), (4, .r 1), (0, .v (.string s))], [], [(3, .row 9 (strY.d W)), (1, .row 133 (tokY.d T))], 4⟩)
    (fun _ _ => i < s.size) (fun _ => by show 3 ≤ 4; decide) ?_ ?_
  · cases wr with
    | true =>
      refine x_vc tt_ok ?_
      refine x_if (fun h => ?_) (fun h => ?_)
      · exact meet () [(3, some 2)] (.of rfl rfl rfl rfl rfl rfl) (of_decide_eq_true h)
      · have h2 := of_decide_eq_false h
        rw [rtA_nil (by omega)] at g7 g8
        have e1 : rErr s = 0 := g7
        have e2 : rToks s = T := by rw [g8 e1]; simp
        rw [e1, e2]
        exact finO2 (k := 1) rfl
    | false =>
      obtain rfl := g5 rfl
      refine x_nil 5 9 strY rfl ?_
      refine x_vc tt_ok ?_
      refine x_if (fun h => ?_) (fun h => ?_)
      · exact meet () [] (.of rfl rfl rfl rfl rfl rfl) (of_decide_eq_true h)
      · have h2 := of_decide_eq_false h
        rw [rtA_nil (by omega)] at g7 g8
        have e1 : rErr s = 0 := g7
        have e2 : rToks s = T := by rw [g8 e1]; simp
        rw [e1, e2]
        exact finO2 (k := 1) rfl
  · rintro _ u2 hu2 hi
    rw [rtA_cons g1 hi] at g7 g8
    have hbr : bl (sub s i s.size) = tl s i := bl_rest s g1 (by omega)
    have hsz : ((sub s i s.size).size : Int) = s.size - i := sub_size g1 (by omega) (Int.le_refl _)
    refine x_block ?_
    refine x_seq ?_
    refine x_vc tt_ok ?_
    repeat (refine And.intro ?_ ?_; first | omega | (simp only [Lay.d_n]; omega))
    refine xl_call0 (.bool (Lx.white (bt s i))) rfl rfl rfl rfl fn89 rfl rfl (fun E w F _ => whiteR_any _ w) ?_
    refine xl_go tt_ok ?_
    refine x_if (fun h => ?_) (fun h => ?_)
    · rw [if_pos h] at g7 g8
      repeat (refine And.intro ?_ ?_; first | omega | (simp only [Lay.d_n]; omega))
      exact again (i + 1, true, T, true, W, st) [(1, some 1), (2, some 3)] (.of rfl rfl rfl rfl rfl rfl) ⟨by omega, by omega, by omega, by omega, (fun h => by cases h), g6, g7, g8⟩ (by simp only; omega)
    · rw [if_neg (fun h2 => Bool.noConfusion (h2.symm.trans h))] at g7 g8
      have hitm : itm s st i = Lx.itemR (hdrW W) (tl s i) := by
        rw [Lx.itemR_eq _ (by rw [tl_cons g1 hi]; simp), g6.hdr]; rfl
      refine x_seq ?_
      refine x_vc tt_ok ?_
      refine x_seq ?_
      refine x_vc tt_ok ?_
      refine x_cut (σ := Int × Int) (fun (k, n) => ⟨[(9, .v (.int .i64 n)), (8, .v (.int .i64 k)), (7, .v (.bool sp)), (6, .v (.int .i64 i)), (5, .r 3), (4, .r 1), (0, .v (.string s))], [], [(3, .row 9 (strY.d W)), (1, .row 133 (tokY.d T))], 4⟩)
        (fun (k, n) _ => n = (if hdrW W = true then (Lx.hdrN (tl s i) : Int) else 0) ∧ (n ≠ 0 → k = 7)) (fun (_, _) => Nat.le_refl 4) ?_ ?_
      · refine x_vc tt_ok ?_
        repeat (refine And.intro ?_ ?_; first | omega | (simp only [Lay.d_n]; omega) | (simp only [decide_eq_true_eq, decide_eq_false_iff_not, Bool.or_eq_false_iff, Bool.and_eq_true, Bool.or_eq_true, Bool.and_eq_false_iff, Bool.not_eq_true', Bool.not_eq_false', Lay.d_n]; omega) | (simp only [decide_eq_true_eq, decide_eq_false_iff_not, Bool.or_eq_false_iff, Bool.and_eq_true, Bool.or_eq_true, Bool.and_eq_false_iff, Bool.not_eq_true', Bool.not_eq_false']; omega))
        refine x_if (fun h3 => ?_) (fun h3 => ?_)
        · have h3' : hdrW W = true := h3
          repeat (refine And.intro ?_ ?_; first | omega | (simp only [Lay.d_n]; omega))
          refine xl_call0 (.int .i64 (Lx.hdrN (tl s i))) rfl rfl rfl rfl fn90 rfl rfl (fun E w F _ => by rw [← hbr]; exact named_any _ (by omega) (by omega) w) ?_
          refine xl_go tt_ok ?_
          exact meet (7, (Lx.hdrN (tl s i) : Int)) [] (.of rfl rfl rfl rfl rfl rfl) ⟨by rw [if_pos h3'], fun _ => rfl⟩
        · have h3' : hdrW W = false := h3
          exact meet (0, 0) [] (.of rfl rfl rfl rfl rfl rfl) ⟨by rw [h3']; rfl, fun h => absurd rfl h⟩
      · rintro ⟨k, n⟩ u3 hu3 ⟨n1, n2⟩
        refine x_cut (σ := Int × Int) (fun (k, n) => ⟨[(9, .v (.int .i64 n)), (8, .v (.int .i64 k)), (7, .v (.bool sp)), (6, .v (.int .i64 i)), (5, .r 3), (4, .r 1), (0, .v (.string s))], [], [(3, .row 9 (strY.d W)), (1, .row 133 (tokY.d T))], 4⟩)
          (fun (k, n) _ => ((if hdrW W = true then (Lx.hdrN (tl s i) : Int) else 0) ≠ 0 ∧ k = 7 ∧ n = (if hdrW W = true then (Lx.hdrN (tl s i) : Int) else 0)) ∨ ((if hdrW W = true then (Lx.hdrN (tl s i) : Int) else 0) = 0 ∧ k = 8 ∧ n = Lx.remR (tl s i)))
          (fun (_, _) => Nat.le_refl 4) ?_ ?_
        · refine x_vc tt_ok ?_
          refine x_if (fun h3 => ?_) (fun h3 => ?_)
          · have h3 := of_decide_eq_true h3
            repeat (refine And.intro ?_ ?_; first | omega | (simp only [Lay.d_n]; omega))
            refine xl_call0 (.int .i64 (Lx.remR (tl s i))) rfl rfl rfl rfl fn91 rfl rfl (fun E w F _ => by rw [← hbr]; exact remark_any _ (by omega) (by omega) w) ?_
            refine xl_go tt_ok ?_
            exact meet (8, Lx.remR (tl s i)) [] (.of rfl rfl rfl rfl rfl rfl) (.inr ⟨by rw [← n1]; exact h3, rfl, rfl⟩)
          · have h3 := of_decide_eq_false h3
            exact meet (k, n) [] (.of rfl rfl rfl rfl rfl rfl) (.inl ⟨by rw [← n1]; exact h3, n2 h3, n1⟩)
        · clear n1 n2
          rintro ⟨k, n⟩ u4 hu4 hn
          replace hn : ((if hdrW W = true then (Lx.hdrN (tl s i) : Int) else 0) ≠ 0 ∧ k = 7 ∧ n = (if hdrW W = true then (Lx.hdrN (tl s i) : Int) else 0)) ∨ ((if hdrW W = true then (Lx.hdrN (tl s i) : Int) else 0) = 0 ∧ k = 8 ∧ n = Lx.remR (tl s i)) := hn
          unfold Lx.itemR at hitm
          simp only at hitm
          generalize hn0 : (if hdrW W = true then (Lx.hdrN (tl s i) : Int) else 0) = n0 at hn hitm
          have hn0' : 0 ≤ n0 := by rw [← hn0]; split <;> omega
          clear hn0
          have hnil : ∀ e : Int, (itm s st i).err = e → e ≠ 0 → rErr s = e ∧ rToks s = [] := by
            intro e he1 he2
            rw [if_pos (by rw [he1]; exact he2)] at g7
            have : rErr s = e := by
              rw [g7, errT, if_pos (by rw [he1]; exact he2)]; exact he1
            exact ⟨this, by rw [rToks, if_neg (by rw [this]; exact he2)]⟩
          refine x_seq ?_
          refine x_vc tt_ok ?_
          refine x_if (fun h3 => ?_) (fun h3 => ?_)
          · have h3 := of_decide_eq_true h3
            obtain ⟨e1, e2⟩ := hnil 20 (by
              rcases hn with ⟨b1, b2, b3⟩ | ⟨b1, b2, b3⟩
              · omega
              · rw [hitm, if_neg (by simpa using b1), if_pos (by omega)]) (by decide)
            rw [e1, e2]
            exact finO2n tokY
          · have h3 := of_decide_eq_false h3
            refine x_cut (σ := Int × Int) (fun (k, n) => ⟨[(9, .v (.int .i64 n)), (8, .v (.int .i64 k)), (7, .v (.bool sp)), (6, .v (.int .i64 i)), (5, .r 3), (4, .r 1), (0, .v (.string s))], [], [(3, .row 9 (strY.d W)), (1, .row 133 (tokY.d T))], 4⟩)
              (fun (k, n) _ => 0 ≤ n ∧ (n = 0 → itm s st i = ⟨0, 0, 21⟩) ∧ (n ≠ 0 → itm s st i = ⟨k, n.toNat, 0⟩))
              (fun (_, _) => Nat.le_refl 4) ?_ ?_
            · refine x_vc tt_ok ?_
              refine x_if (fun h4 => ?_) (fun h4 => ?_)
              · have h4 := of_decide_eq_true h4
                repeat (refine And.intro ?_ ?_; first | omega | (simp only [Lay.d_n]; omega))
                refine xl_call0 (.tuple #[.int .i64 (Lx.longR (tl s i)).1, .int .i64 (Lx.longR (tl s i)).2]) rfl rfl rfl rfl fn92 rfl rfl (fun E w F _ => by rw [← hbr]; exact longR_any _ (by omega) (by omega) w) ?_
                refine xl_go tt_ok ?_
                refine meet ((Lx.longR (tl s i)).1, ((Lx.longR (tl s i)).2 : Int)) [] (.of rfl rfl rfl rfl rfl rfl) ⟨by omega, fun h5 => ?_, fun h5 => ?_⟩
                · rcases hn with ⟨b1, b2, b3⟩ | ⟨b1, b2, b3⟩
                  · omega
                  · rw [hitm, if_neg (by simpa using b1), if_neg (by omega), if_neg (by omega), if_pos (by omega)]
                · rcases hn with ⟨b1, b2, b3⟩ | ⟨b1, b2, b3⟩
                  · omega
                  · rw [hitm, if_neg (by simpa using b1), if_neg (by omega), if_neg (by omega), if_neg (by omega)]
                    simp
              · have h4 := of_decide_eq_false h4
                refine meet (k, n) [] (.of rfl rfl rfl rfl rfl rfl) ⟨by omega, fun h5 => absurd h5 h4, fun _ => ?_⟩
                rcases hn with ⟨b1, b2, b3⟩ | ⟨b1, b2, b3⟩
                · rw [hitm, if_pos b1, b2, b3]
                · rw [hitm, if_neg (by simpa using b1), if_neg (by omega), if_pos (by omega), b2, b3]
            · clear hn h3 hitm
              rintro ⟨k, n⟩ u5 hu5 ⟨c0, c1, c2⟩
              refine x_seq ?_
              refine x_vc tt_ok ?_
              refine x_if (fun h3 => ?_) (fun h3 => ?_)
              · have h3 := of_decide_eq_true h3
                obtain ⟨e1, e2⟩ := hnil 21 (by rw [c1 h3]) (by decide)
                rw [e1, e2]
                exact finO2n tokY
              · have h3 := of_decide_eq_false h3
                have hI := c2 h3
                have hle := itm_le g1 hi (by rw [hI])
                rw [hI] at hle
                have hle : 1 ≤ n.toNat ∧ i + (n.toNat : Int) ≤ s.size := hle
                have hnn : (n.toNat : Int) = n := Int.toNat_of_nonneg c0
                rw [hnn] at hle
                have e7 : rErr s = errT (rtA s (Lx.after st k ((tl s i).take n.toNat)) false (i + n)) := by
                  rw [g7, if_neg (by rw [hI]; simp), errT, if_neg (by simp), hI]
                  simp only
                  rw [hnn]
                have e8 : rErr s = 0 → rToks s = (T ++ [(⟨k, sub s i (i + n), i, i + n, sp⟩ : Tok)]) ++ (rtA s (Lx.after st k ((tl s i).take n.toNat)) false (i + n)).map (tokT s) := by
                  intro h0
                  rw [g8 h0, if_neg (by rw [hI]; simp), List.map_cons, hI, List.append_assoc]
                  simp only [tokT, List.cons_append, List.nil_append]
                  rw [hnn, show ((i.toNat : Nat) : Int) = i by omega, show ((i.toNat + n.toNat : Nat) : Int) = i + n by omega]
                have hkd : (itm s st i).kind = k := by rw [hI]
                have hln : (itm s st i).len = n.toNat := by rw [hI]
                clear g7 g8 hnil c1 c2
                refine x_seq ?_
                refine x_vc tt_ok ?_
                repeat (refine And.intro ?_ ?_; first | omega | (simp only [Lay.d_n]; omega))
                refine xl_push tt_ok tokY T ⟨k, sub s i (i + n), i, i + n, sp⟩ 48 rfl rfl rfl rfl rfl rfl rfl rfl rfl rfl rfl rfl (by kernel_rfl) rfl rfl rfl rfl rfl (fun n hn => by cases hn; decide) rfl rfl rfl (by omega) (by omega) ?_
                refine xl_go tt_ok ?_
                have hT' : ((T ++ [(⟨k, sub s i (i + n), i, i + n, sp⟩ : Tok)]).length : Int) ≤ i + n := by
                  rw [List.length_append]; simp only [List.length_cons, List.length_nil]; omega
                refine x_vc tt_ok ?_
                refine x_if (fun h4 => ?_) (fun h4 => ?_)
                · have h4 := of_decide_eq_true h4
                  repeat (refine And.intro ?_ ?_; first | omega | (simp only [Lay.d_n]; omega))
                  have ha : Lx.after st k ((tl s i).take n.toNat) = 0 := by
                    unfold Lx.after; rw [if_neg (by omega), if_pos h4]
                  rw [ha] at e7 e8
                  exact again (i + n, false, T ++ [(⟨k, sub s i (i + n), i, i + n, sp⟩ : Tok)], false, [], 0) [(1, some 4)] (.of rfl rfl rfl rfl rfl rfl) ⟨by omega, by omega, hT', by simp; omega, (fun _ => rfl), rfl, e7, e8⟩ (by simp only; omega)
                · have h4 := of_decide_eq_false h4
                  refine x_if (fun h5 => ?_) (fun h5 => ?_)
                  · have h5 := of_decide_eq_true h5
                    have hR := g6.step g1 hi h (by rw [hI]) (by rw [hkd]; exact h5) (by rw [hkd]; exact h4)
                    rw [hkd, hln, hnn] at hR
                    repeat (refine And.intro ?_ ?_; first | omega | (simp only [Lay.d_n]; omega))
                    refine xl_push tt_ok strY W (sub s i (i + n)) 16 rfl rfl rfl rfl rfl rfl rfl rfl rfl rfl rfl rfl (by kernel_rfl) rfl rfl rfl rfl rfl (fun n hn => by cases hn; decide) rfl rfl rfl (by omega) (by omega) ?_
                    refine xl_go tt_ok ?_
                    repeat (refine And.intro ?_ ?_; first | omega | (simp only [Lay.d_n]; omega))
                    exact again (i + n, false, T ++ [(⟨k, sub s i (i + n), i, i + n, sp⟩ : Tok)], true, W ++ [sub s i (i + n)], Lx.after st k ((tl s i).take n.toNat)) [(1, some 4), (2, some 5)] (.of rfl rfl rfl rfl rfl rfl)
                      ⟨by omega, by omega, hT', by rw [List.length_append]; simp only [List.length_cons, List.length_nil]; omega, (fun h => by cases h), hR, e7, e8⟩ (by simp only; omega)
                  · have h5 : k = 8 := Classical.not_not.1 (of_decide_eq_false h5)
                    repeat (refine And.intro ?_ ?_; first | omega | (simp only [Lay.d_n]; omega))
                    have ha : Lx.after st k ((tl s i).take n.toNat) = st := by
                      unfold Lx.after; rw [if_pos h5]
                    rw [ha] at e7 e8
                    exact again (i + n, false, T ++ [(⟨k, sub s i (i + n), i, i + n, sp⟩ : Tok)], true, W, st) [(1, some 4), (2, some 3)] (.of rfl rfl rfl rfl rfl rfl) ⟨by omega, by omega, hT', by omega, (fun h => by cases h), g6, e7, e8⟩ (by simp only; omega)
end Go.Proofs.YtnjmkeijjapejaaGreatDoor
namespace Go.Proofs.YtnjmkeijjapejaaGreatDoor
open Go.GV Go.RowKit
theorem sub_len {s : ByteArray} {a b : Int} (h0 : 0 ≤ a) (h1 : a ≤ b) (h2 : b ≤ s.size) : ((sub s a b).size : Int) = b - a := sub_size h0 h1 h2
theorem sub_all (s : ByteArray) : sub s 0 s.size = s := bl_inj (wholeS s)
def oneC (s : ByteArray) : Bool := (decide (rErr s ≠ 0) || decide (((rToks s).length : Int) ≠ 1)) || decide (((rToks s).getD 0 tok0).text ≠ s)
theorem refOne_eq (s : ByteArray) : oneP s = if oneC s = true then (0, false) else (((rToks s).getD 0 tok0).kind, true) := by
  have hf := rtA_fst s
  have hm : ∀ t ∈ itsOf s, _ := fun t ht => its_mem ht
  unfold oneP oneC rToks rErr
  have hits : Lx.itemsL (bl s) = itsOf s := rfl
  unfold Lx.oneL
  rw [hits, ← hf]
  rw [← hf] at hm
  match rtA s 0 false 0, hm with
  | [], _ => simp [errT]
  | [p], hm =>
    have hm := hm p.1 (by simp)
    by_cases he : p.1.err = 0
    · rcases hm with hm | ⟨_, h1, h2⟩
      · exact absurd he hm
      · have hs := sub_len (s := s) (a := p.1.lo) (b := p.1.hi) (by omega) (by omega) (by omega)
        simp only [List.map_cons, List.map_nil, errT, he, ne_eq, not_true_eq_false, if_false, if_true, true_and, List.getD_cons_zero, tokT, List.length_cons, List.length_nil, bl_len]
        by_cases h3 : p.1.hi - p.1.lo = s.size
        · have h4 : p.1.lo = 0 := by omega
          have h5 : p.1.hi = s.size := by omega
          have h6 : sub s p.1.lo p.1.hi = s := by rw [h4, h5]; exact sub_all s
          rw [if_pos h3, h6]
          simp
        · have h6 : ¬ sub s p.1.lo p.1.hi = s := fun h => by rw [h] at hs; omega
          rw [if_neg h3]
          simp [h6]
    · simp [errT, he]
  | p :: q :: r, _ =>
    simp only [List.map_cons]
    by_cases he : errT (p :: q :: r) = 0
    · rw [if_pos he]
      simp; omega
    · simp [he]
set_option maxRecDepth 100000 in
theorem refOne_any (s : ByteArray) (hz : s.size ≤ 4294967280) (w : World) :
    Calls Tryz.prog 55 #[.string s] w (PureP w fun v _ => v = .tuple #[.int .i64 (oneP s).1, .bool (oneP s).2]) := by
  have hE := refOne_eq s
  generalize oneP s = N at hE ⊢
  refine x_fun tt_ok Tryz.func55 rfl rfl [] 0 [.v (.string s)] rfl rfl rfl rfl (fun b hb => by cases hb) ?_
  refine x_vc tt_ok ?_
  refine xl_callO2 133 (tokY.d (rToks s)) [.int .i64 (rErr s)] rfl rfl rfl rfl fn74 rfl rfl (fun E w F hs => refTokens_any s hz w) ?_
  refine xl_go tt_ok ?_
  repeat (refine And.intro ?_ ?_; first | omega | (simp only [Lay.d_n]; omega) | (simp only [decide_eq_true_eq, decide_eq_false_iff_not, Bool.or_eq_false_iff, Bool.and_eq_true, Bool.or_eq_true, Bool.and_eq_false_iff, Bool.not_eq_true', Bool.not_eq_false', Lay.d_n]; omega) | (simp only [decide_eq_true_eq, decide_eq_false_iff_not, Bool.or_eq_false_iff, Bool.and_eq_true, Bool.or_eq_true, Bool.and_eq_false_iff, Bool.not_eq_true', Bool.not_eq_false']; omega))
  refine x_if (fun h => ?_) (fun h => ?_)
  · have h' : oneC s = true := h
    rw [if_pos h'] at hE
    rw [hE]
    exact fin1 (fun _ _ => rfl)
  · have h' : oneC s = false := h
    rw [if_neg (by rw [h']; simp)] at hE
    have hl : (rToks s).length = 1 := by
      unfold oneC at h'
      have := (Bool.or_eq_false_iff.1 (Bool.or_eq_false_iff.1 h').1).2
      have := Classical.not_not.1 (of_decide_eq_false this)
      omega
    repeat (refine And.intro ?_ ?_; first | omega | (simp only [Lay.d_n]; omega))
    rw [hE]
    exact fin1 (fun _ _ => rfl)
end Go.Proofs.YtnjmkeijjapejaaGreatDoor
