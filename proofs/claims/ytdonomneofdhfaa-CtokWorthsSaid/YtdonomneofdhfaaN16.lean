/- A character constant: the program's answer. -/
import Derived.Test.YtdonomneofdhfaaN15
import Derived.Laws.Shifts
namespace Go.Proofs.Ytdonomneofdhfaa
open Go.GV Go.RowKit

theorem numF_le (b most : Int) (hb : 0 ≤ b) : ∀ (L : List Int) (v : Int), 0 ≤ v → v ≤ most → numF b most v L ≤ most
  | [], v, h, hv => hv
  | c :: r, v, h, hv => by
    have := dg_range c
    have h1 : 0 ≤ v * b := Int.mul_nonneg h hb
    simp only [numF]
    split
    · omega
    · exact numF_le b most hb r _ (by omega) (by omega)
theorem elemP_le (most : Int) (hm : 255 ≤ most) : ∀ L : List Int, (∀ c ∈ L, c ≤ 255) → (elemP most L).1 ≤ most
  | [], _ => by simp only [elemP]; omega
  | c :: r, hc => by
    have hc0 := hc c (List.mem_cons_self ..)
    simp only [elemP]
    split
    · simp only; omega
    · cases r with
      | nil => simp only; omega
      | cons d q =>
        simp only
        have hs := simR_range d
        split
        · simp only; unfold simP; split <;> omega
        · split
          · split
            · simp only; omega
            · exact numF_le 16 most (by omega) _ 0 (Int.le_refl _) (by omega)
          · split
            · simp only; omega
            · exact numF_le 8 most (by omega) _ 0 (Int.le_refl _) (by omega)
theorem ysF_le (most : Int) (hm : 255 ≤ most) : ∀ (n : Nat) (L : List Int), (∀ c ∈ L, c ≤ 255) → ∀ y ∈ ysF most n L, y ≤ most
  | 0, L, _, y, hy => by simp [ysF] at hy
  | n + 1, [], _, y, hy => by simp [ysF] at hy
  | n + 1, c :: r, hc, y, hy => by
    have h1 := elemP_le most hm (c :: r) hc
    simp only [ysF] at hy
    split at hy
    · rw [List.mem_singleton.1 hy]; exact h1
    · rcases List.mem_cons.1 hy with rfl | hy
      · exact h1
      · exact ysF_le most hm n _ (fun c hc' => hc c (List.mem_of_mem_drop hc')) y hy
theorem bl_le {s : ByteArray} : ∀ c ∈ bl s, c ≤ 255 := by
  intro c hc
  obtain ⟨b, _, rfl⟩ := List.mem_map.1 hc
  have := b.toNat_lt
  omega
theorem ysT_le (s : ByteArray) : ∀ y ∈ ysT s, y ≤ topT s := ysF_le _ (limP_range _).1 _ _ bl_le
theorem ysF_ne (most : Int) {L : List Int} (h : L ≠ []) : ysL most L ≠ [] := by
  obtain ⟨c, r, rfl⟩ := List.exists_cons_of_ne_nil h
  unfold ysL
  simp only [List.length_cons, ysF]
  split <;> simp

def mostT (s : ByteArray) : Int := if 0 < pfN s then 1 else 4
def vch (ys : List Int) : Int := ys.foldl (fun v y => v * 256 + y) 0
def sgnV (n : Nat) (v : Int) : Int := if 256 ^ n / 2 ≤ v then v - 256 ^ n else v
def charC (s : ByteArray) : Option Int :=
  if (oneP s).1 = 3 then (if okY (ysT s) = true ∧ ((ysT s).length : Int) ≤ mostT s then some (if 0 < pfN s then vch (ysT s) else sgnV (ysT s).length (vch (ysT s))) else none) else none
def charV (s : ByteArray) : Int × Int := match charC s with
  | none => (0, 40)
  | some v => (v, 0)

theorem vch_step {ys : List Int} {k : Nat} {y : Int} (h : ys[k]? = some y) : vch (ys.take (k + 1)) = vch (ys.take k) * 256 + y := by
  unfold vch
  rw [take_get h, List.foldl_append]; rfl

/-- shifted up and down again -/
theorem sgn_shift {n : Nat} {v : Int} (hn : 1 ≤ n ∧ n ≤ 4) (h0 : 0 ≤ v) (h1 : v < 256 ^ n) : IntKind.i64.wrap (v * 2 ^ (64 - 8 * (n : Int)).toNat) / 2 ^ (64 - 8 * (n : Int)).toNat = sgnV n v := by
  unfold sgnV
  have hc : n = 1 ∨ n = 2 ∨ n = 3 ∨ n = 4 := by omega
  rcases hc with rfl | rfl | rfl | rfl
  · rw [show (64 - 8 * ((1 : Nat) : Int)).toNat = 56 by rfl, IntKind.wrap_i64]
    simp only [show (256 : Int) ^ 1 = 256 by rfl, show (2 : Int) ^ 56 = 72057594037927936 by rfl] at h1 ⊢
    split <;> omega
  · rw [show (64 - 8 * ((2 : Nat) : Int)).toNat = 48 by rfl, IntKind.wrap_i64]
    simp only [show (256 : Int) ^ 2 = 65536 by rfl, show (2 : Int) ^ 48 = 281474976710656 by rfl] at h1 ⊢
    split <;> omega
  · rw [show (64 - 8 * ((3 : Nat) : Int)).toNat = 40 by rfl, IntKind.wrap_i64]
    simp only [show (256 : Int) ^ 3 = 16777216 by rfl, show (2 : Int) ^ 40 = 1099511627776 by rfl] at h1 ⊢
    split <;> omega
  · rw [show (64 - 8 * ((4 : Nat) : Int)).toNat = 32 by rfl, IntKind.wrap_i64]
    simp only [show (256 : Int) ^ 4 = 4294967296 by rfl, show (2 : Int) ^ 32 = 4294967296 by rfl] at h1 ⊢
    split <;> omega

theorem shl_run {P : Program} (t : Nat) (v c : Int) (h0 : 0 ≤ c) (h1 : c ≤ 64) (w : World) : (binOp .shl t (.int .i64 v) (.int .i64 c) : Sem Value).run P w = .ok (.int .i64 (IntKind.i64.wrap (v * 2 ^ c.toNat))) w := by
  rw [binOp_shl, shift_shl .i64 .i64 v c h0 h1]
  rfl
theorem shr_run {P : Program} (t : Nat) (v c : Int) (h0 : 0 ≤ c) (h1 : c ≤ 64) (w : World) : (binOp .shr t (.int .i64 v) (.int .i64 c) : Sem Value).run P w = .ok (.int .i64 (v / 2 ^ c.toNat)) w := by
  rw [binOp_shr, shift_shr .i64 .i64 v c h0 h1]
  rfl

set_option maxRecDepth 100000 in
theorem char_any (s : ByteArray) (w : World) (hs : s.size ≤ 4294967280) (hg : Glob (im w)) :
    Calls Try.prog 53 #[.string s] w (PureP w fun v _ => v = .tuple #[.int .i64 (charV s).1, .int .i64 (charV s).2]) := by
  have herr : charC s = none → charV s = (0, 40) := fun h => by unfold charV; rw [h]
  have hok : ∀ v, charC s = some v → charV s = (v, 0) := fun v h => by unfold charV; rw [h]
  refine x_fun tt_ok Try.func53 rfl rfl [] 0 [.v (.string s)] rfl rfl rfl rfl (fun b hb => by cases hb) ?_
  refine x_seq ?_
  refine x_vc tt_ok ?_
  refine x_seq ?_
  refine x_vc tt_ok ?_
  refine xl_call0 (.tuple #[.int .i64 (oneP s).1, .bool (oneP s).2]) rfl rfl rfl rfl fn36 rfl rfl (fun E w F hs' => one_any s hs w (hg.imm hs'.imm)) ?_
  refine xl_go tt_ok ?_
  refine x_if (fun h => ?_) (fun h => ?_)
  · have h : (oneP s).1 ≠ 3 := of_decide_eq_true h
    rw [herr (by unfold charC; rw [if_neg h])]
    exact fin1 (fun _ _ => rfl)
  · have h : (oneP s).1 = 3 := Classical.not_not.1 (of_decide_eq_false h)
    obtain ⟨q1, q2, q3, q4, q5⟩ := lit_at h (.inl rfl)
    replace q2 := q2 rfl
    have e1 : charC s = if okY (ysT s) = true ∧ ((ysT s).length : Int) ≤ mostT s then some (if 0 < pfN s then vch (ysT s) else sgnV (ysT s).length (vch (ysT s))) else none := by unfold charC; rw [if_pos h]
    have hlr := limP_range (sub s 0 (pfN s))
    have hyle := ysT_le s
    have hzi := sub_size (s := s) (a := (pfN s : Int) + 1) (b := (s.size : Int) - 1) (by omega) (by omega) (by omega)
    have hine : ysT s ≠ [] := ysF_ne _ (bl_ne (s := inT s) (by unfold inT; omega))
    have htop : ¬ 0 < pfN s → topT s = 255 := fun hp => by
      unfold topT
      rw [show pfN s = 0 by omega]
      have : sub s 0 ((0 : Nat) : Int) = ⟨#[]⟩ := bl_inj (by rw [bl_sub s (by omega) (by omega) (by omega)]; rfl)
      rw [this]; rfl
    refine x_seq ?_
    refine x_vc tt_ok ?_
    refine xl_call0 (.int .i64 (pfN s)) rfl rfl rfl rfl fn118 rfl rfl (fun E w F _ => by rw [← q4]; exact pure_of (Try.strings_IndexByte s 39 w)) ?_
    refine xl_go tt_ok ?_
    refine x_seq ?_
    refine x_vc tt_ok ?_
    refine x_cut (σ := Unit) (fun _ => ⟨[(9, .p 4 0), (8, .p 3 0), (7, .p 2 0), (6, .v (.int .i64 (pfN s))), (3, .p 1 0), (2, .p 0 0), (0, .v (.string s))], [], [(0, .box 2 [.v (.int .i64 0)]), (1, .box 37 [.v (.int .i64 0)]), (2, .box 2 [.v (.int .i64 0)]), (3, .box 3 [.v (.int .i64 0)]), (4, .box 3 [.v (.int .i64 (mostT s))])], 5⟩) (fun _ _ => True) (fun _ => Nat.le_refl _) ?_ ?_
    · refine x_vc tt_ok ?_
      refine x_if (fun h => ?_) (fun h => ?_)
      · have h : 0 < (pfN s : Int) := of_decide_eq_true h
        have e : mostT s = 1 := by unfold mostT; rw [if_pos (by omega)]
        rw [e]
        exact meet () [] (.of rfl rfl rfl rfl rfl rfl) trivial
      · have h : ¬ 0 < (pfN s : Int) := of_decide_eq_false h
        have e : mostT s = 4 := by unfold mostT; rw [if_neg (by omega)]
        rw [e]
        exact meet () [] (.of rfl rfl rfl rfl rfl rfl) trivial
    · rintro _ u1 hu1 _
      refine x_vc tt_ok ?_
      refine x_drawA mix ?_
      refine xa_pures tt_ok (fuel := 7) [0, 1, 3, 7, 8] rfl (by kernel_rfl) (by kernel_rfl) (fun _ _ _ hh => hh) (by kernel_rfl) (by kernel_rfl) ?_
      repeat (refine And.intro ?_ ?_; first | omega | (simp only [Lay.d_n]; omega) | (simp only [decide_eq_true_eq, decide_eq_false_iff_not, Bool.or_eq_false_iff, Bool.and_eq_true, Bool.or_eq_true, Bool.and_eq_false_iff, Bool.not_eq_true', Bool.not_eq_false', Lay.d_n]; omega) | (simp only [decide_eq_true_eq, decide_eq_false_iff_not, Bool.or_eq_false_iff, Bool.and_eq_true, Bool.or_eq_true, Bool.and_eq_false_iff, Bool.not_eq_true', Bool.not_eq_false']; omega))
      refine xa_phase tt_ok (fuel := 1) [2, 4, 5, 6, 9, 10] rfl (by kernel_rfl) (by kernel_rfl) (by kernel_rfl) (by kernel_rfl) ?_
      refine xd_go tt_ok ?_
      repeat (refine And.intro ?_ ?_; first | omega | (simp only [Lay.d_n]; omega) | (simp only [decide_eq_true_eq, decide_eq_false_iff_not, Bool.or_eq_false_iff, Bool.and_eq_true, Bool.or_eq_true, Bool.and_eq_false_iff, Bool.not_eq_true', Bool.not_eq_false', Lay.d_n]; omega) | (simp only [decide_eq_true_eq, decide_eq_false_iff_not, Bool.or_eq_false_iff, Bool.and_eq_true, Bool.or_eq_true, Bool.and_eq_false_iff, Bool.not_eq_true', Bool.not_eq_false']; omega))
      refine xd_call0 (.int .i64 (topT s)) rfl rfl rfl rfl fn120 rfl rfl (fun _ E w F _ => limit_any _ w) ?_
      refine xd_go tt_ok ?_
      refine xa_one 11 (by kernel_rfl) rfl ?_
      refine xl_callClo 145 [(9, .string (inT s)), (2, .int .i64 (topT s))] [5, 6] 7 rfl rfl rfl rfl rfl rfl fn119 rfl rfl (fun E w F _ => elementsFn_any (inT s) (topT s) w) ?_
      refine xl_end ?_
      refine xa_done (by kernel_rfl) rfl ?_
      have hit := fun u0 => elements_iter (inT s) (topT s) u0 (by have := hlr.1; unfold topT; omega) hlr.2 (by unfold inT; omega)
      change ∀ u0, IterC Try.prog 145 [(9, .string (inT s)), (2, .int .i64 (topT s))] ((ysT s).map numV) u0 at hit
      have hpm : (0 < pfN s ∧ mostT s = 1) ∨ (¬ 0 < pfN s ∧ mostT s = 4) := by
        by_cases hp : 0 < pfN s
        · exact .inl ⟨hp, by unfold mostT; rw [if_pos hp]⟩
        · exact .inr ⟨hp, by unfold mostT; rw [if_neg hp]⟩
      have htr : topT s ≤ 4294967295 := hlr.2
      generalize ysT s = ys at hit hyle e1 hine
      generalize mostT s = m at hpm e1 ⊢
      generalize topT s = tp at *
      refine x_rangeC (σ := Nat × Int) (τ := Nat × Int) rfl fn145 (hit _) [(9, .p 4 0), (8, .p 3 0), (7, .p 2 0), (6, .v (.int .i64 (pfN s))), (3, .p 1 0), (2, .p 0 0)]
        (fun (k, v) => [(0, .box 2 [.v (.int .i64 0)]), (1, .box 37 [.v (.int .i64 0)]), (2, .box 2 [.v (.int .i64 v)]), (3, .box 3 [.v (.int .i64 (k : Int))]), (4, .box 3 [.v (.int .i64 m)])]) (fun _ => 8)
        (fun k (n, v) _ => n = k ∧ (k : Int) ≤ m ∧ okY (ys.take k) = true ∧ v = vch (ys.take k) ∧ 0 ≤ v ∧ (k = 0 → v = 0) ∧ (m = 4 → v < 256 ^ k))
        (fun (k, v) => [(0, .box 2 [.v (.int .i64 0)]), (1, .box 37 [.v (.int .i64 40)]), (2, .box 2 [.v (.int .i64 v)]), (3, .box 3 [.v (.int .i64 (k : Int))]), (4, .box 3 [.v (.int .i64 m)])]) (fun _ => 8)
        (fun _ e _ => e = .ret ∧ ¬ (okY ys = true ∧ (ys.length : Int) ≤ m)) (0, 0) [] (.of rfl rfl rfl rfl rfl rfl) ⟨rfl, by omega, rfl, rfl, by omega, fun _ => rfl, fun _ => by decide⟩ rfl rfl rfl
        (fun _ => rfl) (fun _ => rfl) (fun _ => Nat.lt_succ_self 7) (fun _ => Nat.le_succ 7) rfl (fun l k x nv u3 Fr Fr' hx hu3 hgr => ?_) (fun nv u3 hu3 hgr => ?_) (fun _ e u3 hu3 hgr => ?_)
      · obtain ⟨n, v⟩ := nv
        obtain ⟨rfl, g1, g2, g3, g4, g5, g6⟩ := hgr
        rw [List.getElem?_map] at hx
        obtain ⟨y, hy, rfl⟩ := Option.map_eq_some_iff.1 hx
        have hyt := hyle y (List.mem_of_getElem? hy)
        have hn := (List.getElem?_eq_some_iff.1 hy).1
        refine x_vc tt_ok ?_
        refine ⟨rfl, rfl, x_vc tt_ok ?_⟩
        repeat (refine And.intro ?_ ?_; first | omega | (simp only [Lay.d_n]; omega) | (simp only [decide_eq_true_eq, decide_eq_false_iff_not, Bool.or_eq_false_iff, Bool.and_eq_true, Bool.or_eq_true, Bool.and_eq_false_iff, Bool.not_eq_true', Bool.not_eq_false', Lay.d_n]; omega) | (simp only [decide_eq_true_eq, decide_eq_false_iff_not, Bool.or_eq_false_iff, Bool.and_eq_true, Bool.or_eq_true, Bool.and_eq_false_iff, Bool.not_eq_true', Bool.not_eq_false']; omega))
        refine x_if (fun h1 => ?_) (fun h1 => ?_)
        · have h1 : (decide (y < 0) || decide (m < (n : Int) + 1)) = true := h1
          simp only [Bool.or_eq_true, decide_eq_true_eq] at h1
          refine ⟨(n + 1, v), [], .of rfl rfl rfl rfl rfl rfl, rfl, ?_⟩
          rintro ⟨a1, a2⟩
          rcases h1 with h1 | h1
          · rw [okY_take hy h1] at a1; cases a1
          · omega
        · have h1 : (decide (y < 0) || decide (m < (n : Int) + 1)) = false := h1
          simp only [Bool.or_eq_false_iff, decide_eq_false_iff_not] at h1
          obtain ⟨h2, h3⟩ := h1
          have hv : v * 256 ≤ 256 * 16777216 ∧ v * 256 + y ≤ 1099511627776 ∧ (m = 4 → v * 256 + y < 256 ^ (n + 1)) := by
            rcases hpm with ⟨p1, p2⟩ | ⟨p1, p2⟩
            · have := g5 (by omega)
              subst this
              exact ⟨by omega, by omega, fun h => by omega⟩
            · have h6 := g6 p2
              have h7 := htop p1
              have hc : n = 0 ∨ n = 1 ∨ n = 2 ∨ n = 3 := by omega
              rcases hc with rfl | rfl | rfl | rfl
              · simp only [show (256 : Int) ^ 0 = 1 by rfl, show (256 : Int) ^ (0 + 1) = 256 by rfl] at h6 ⊢; omega
              · simp only [show (256 : Int) ^ 1 = 256 by rfl, show (256 : Int) ^ (1 + 1) = 65536 by rfl] at h6 ⊢; omega
              · simp only [show (256 : Int) ^ 2 = 65536 by rfl, show (256 : Int) ^ (2 + 1) = 16777216 by rfl] at h6 ⊢; omega
              · simp only [show (256 : Int) ^ 3 = 16777216 by rfl, show (256 : Int) ^ (3 + 1) = 4294967296 by rfl] at h6 ⊢; omega
          refine xl_gbin (.int .i64 (v * 256)) rfl rfl rfl rfl rfl rfl (fun w => rfl) (fun _ w => by
            refine (shl_run 2 v 8 (by omega) (by omega) w).trans ?_
            rw [show (2 : Int) ^ (8 : Int).toNat = 256 by rfl, IntKind.wrap_i64, show (v * 256 + 9223372036854775808) % 18446744073709551616 - 9223372036854775808 = v * 256 by omega]) ?_
          refine xl_go tt_ok ?_
          repeat (refine And.intro ?_ ?_; first | omega | (simp only [Lay.d_n]; omega) | (simp only [decide_eq_true_eq, decide_eq_false_iff_not, Bool.or_eq_false_iff, Bool.and_eq_true, Bool.or_eq_true, Bool.and_eq_false_iff, Bool.not_eq_true', Bool.not_eq_false', Lay.d_n]; omega) | (simp only [decide_eq_true_eq, decide_eq_false_iff_not, Bool.or_eq_false_iff, Bool.and_eq_true, Bool.or_eq_true, Bool.and_eq_false_iff, Bool.not_eq_true', Bool.not_eq_false']; omega))
          exact ⟨(n + 1, v * 256 + y), [], .of rfl rfl rfl rfl rfl rfl, rfl, by omega, okY_step hy (by omega) g2, by rw [vch_step hy, ← g3], by omega, fun h => by omega, hv.2.2⟩
      · obtain ⟨n, v⟩ := nv
        obtain ⟨rfl, g1, g2, g3, g4, g5, g6⟩ := hgr
        rw [List.length_map] at g1 g2 g3 g5 g6 ⊢
        rw [List.take_length] at g2 g3
        rw [if_pos ⟨g2, g1⟩, ← g3] at e1
        rw [hok _ e1]
        have hyl : 1 ≤ ys.length := List.length_pos_iff.2 hine
        refine x_if (fun h1 => ?_) (fun h1 => ?_)
        · have h1 : 0 < (pfN s : Int) := of_decide_eq_true h1
          rw [if_pos (by omega)]
          exact fin1 (fun _ _ => rfl)
        · have h1 : ¬ 0 < (pfN s : Int) := of_decide_eq_false h1
          rw [if_neg (by omega)]
          have hm4 : m = 4 := by omega
          repeat (refine And.intro ?_ ?_; first | omega | (simp only [Lay.d_n]; omega) | (simp only [decide_eq_true_eq, decide_eq_false_iff_not, Bool.or_eq_false_iff, Bool.and_eq_true, Bool.or_eq_true, Bool.and_eq_false_iff, Bool.not_eq_true', Bool.not_eq_false', Lay.d_n]; omega) | (simp only [decide_eq_true_eq, decide_eq_false_iff_not, Bool.or_eq_false_iff, Bool.and_eq_true, Bool.or_eq_true, Bool.and_eq_false_iff, Bool.not_eq_true', Bool.not_eq_false']; omega))
          refine xl_gbin (.int .i64 (IntKind.i64.wrap (v * 2 ^ (64 - 8 * (ys.length : Int)).toNat))) rfl rfl rfl rfl rfl rfl (fun w => rfl) (fun _ w => shl_run 2 v (64 - 8 * (ys.length : Int)) (by omega) (by omega) w) ?_
          refine xl_go tt_ok ?_
          refine xl_gbin (.int .i64 (IntKind.i64.wrap (v * 2 ^ (64 - 8 * (ys.length : Int)).toNat) / 2 ^ (64 - 8 * (ys.length : Int)).toNat)) rfl rfl rfl rfl rfl rfl (fun w => rfl) (fun _ w => shr_run 2 _ (64 - 8 * (ys.length : Int)) (by omega) (by omega) w) ?_
          refine xl_go tt_ok ?_
          rw [sgn_shift ⟨hyl, by omega⟩ g4 (g6 hm4)]
          exact fin1 (fun _ _ => rfl)
      · obtain ⟨rfl, g2⟩ := hgr
        rw [if_neg g2] at e1
        rw [herr e1]
        exact fin1 (fun _ _ => rfl)
end Go.Proofs.Ytdonomneofdhfaa
