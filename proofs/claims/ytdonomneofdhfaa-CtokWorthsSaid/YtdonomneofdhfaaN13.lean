/- The elements of a text between quotes, one after the other. -/
import Derived.Test.YtdonomneofdhfaaN12
namespace Go.Proofs.Ytdonomneofdhfaa
open Go.GV Go.RowKit

theorem numF_ge (b most : Int) (hb : 0 ≤ b) : ∀ (L : List Int) (v : Int), 0 ≤ v → -1 ≤ numF b most v L
  | [], v, h => by simp only [numF]; omega
  | c :: r, v, h => by
    have := dg_range c
    have h1 : 0 ≤ v * b := Int.mul_nonneg h hb
    simp only [numF]
    split
    · omega
    · exact numF_ge b most hb r _ (by omega)
theorem elemP_ok (most : Int) : ∀ L : List Int, (∀ c ∈ L, 0 ≤ c) → L ≠ [] → 1 ≤ (elemP most L).2 ∧ (elemP most L).2 ≤ L.length ∧ -1 ≤ (elemP most L).1
  | [], _, h => absurd rfl h
  | c :: r, hc, _ => by
    have hc0 := hc c (List.mem_cons_self ..)
    simp only [elemP]
    split
    · simp; omega
    · cases r with
      | nil => simp
      | cons d q =>
        simp only
        have hs := simR_range d
        split
        · rename_i h; simp; omega
        · split
          · have h1 := runB_le 16 q
            split
            · simp
            · have := numF_ge 16 most (by omega) (q.take (runB 16 q)) 0 (Int.le_refl _)
              simp only [List.length_cons]; omega
          · have h1 := runB_le 8 ((d :: q).take 3)
            rw [List.length_take] at h1
            simp only [List.length_cons] at h1
            split
            · simp
            · have := numF_ge 8 most (by omega) ((d :: q).take (runB 8 ((d :: q).take 3))) 0 (Int.le_refl _)
              simp only [List.length_cons]; omega

/-- the numbers of a text's elements; the last one is -1 where there is none -/
def ysF (most : Int) : Nat → List Int → List Int
  | 0, _ => []
  | _, [] => []
  | n + 1, c :: r => if (elemP most (c :: r)).1 < 0 then [(elemP most (c :: r)).1] else (elemP most (c :: r)).1 :: ysF most n ((c :: r).drop (elemP most (c :: r)).2)
def ysL (most : Int) (L : List Int) : List Int := ysF most L.length L
theorem ysF_nil (most : Int) (n : Nat) : ysF most n [] = [] := by cases n <;> rfl

theorem bl_pos {s : ByteArray} : ∀ c ∈ bl s, 0 ≤ c := by
  intro c hc
  obtain ⟨b, _, rfl⟩ := List.mem_map.1 hc
  omega
theorem bl_ne {s : ByteArray} (h : 0 < s.size) : bl s ≠ [] := fun hn => by
  have := bl_len s
  rw [hn] at this
  simp at this; omega

def numV (v : Int) : Value := .int .i64 v

set_option maxRecDepth 100000 in
theorem elements_iter (s : ByteArray) (most : Int) (u0 : Im) (hm0 : 0 ≤ most) (hm : most ≤ 4294967295) (hs : s.size ≤ 140737488355328) :
    IterC Try.prog 145 [(9, .string s), (2, .int .i64 most)] ((ysL most (bl s)).map numV) u0 := by
  refine x_iterC tt_ok Try.func145 rfl rfl rfl (fun l Y Z u hu hR => ?_)
  refine x_vc tt_ok ?_
  refine x_loop (σ := Nat × ByteArray) (fun (k, r) => ⟨[(0, .v (.func (.yield l) #[] #[])), (1, .p 1 0), (2, .p 2 0)], [], [(0, .gen (Y k).hp), (1, .box 9 [.v (.string r)]), (2, .box 2 [.v (.int .i64 most)])], 3⟩)
    (fun (k, r) _ => r.size ≤ 140737488355328 ∧ ∃ n pre, pre.length = k ∧ ysL most (bl s) = pre ++ ysF most n (bl r) ∧ r.size ≤ n) (fun (_, r) => r.size) (fun (_, _) => Nat.le_refl _) (0, s) [] (.of rfl rfl rfl rfl rfl rfl)
    ⟨hs, (bl s).length, [], rfl, rfl, by rw [bl_len]; exact Nat.le_refl _⟩ ?_
  rintro ⟨k, r⟩ u2 hu2 ⟨g0, n, pre, g1, g2, g3⟩
  refine x_vc tt_ok ?_
  refine x_if (fun h => ?_) (fun h => ?_)
  · have hz := ne_size h
    obtain ⟨q1, q2, q3⟩ := elemP_ok most (bl r) bl_pos (bl_ne (by omega))
    rw [bl_len] at q2
    obtain ⟨m, rfl⟩ : ∃ m, n = m + 1 := ⟨n - 1, by omega⟩
    have hstep : ysF most (m + 1) (bl r) = if (elemP most (bl r)).1 < 0 then [(elemP most (bl r)).1] else (elemP most (bl r)).1 :: ysF most m ((bl r).drop (elemP most (bl r)).2) := by
      obtain ⟨c, t, hct⟩ := List.exists_cons_of_ne_nil (bl_ne (s := r) (by omega))
      rw [hct]; rfl
    refine xl_call0 (.tuple #[.int .i64 (elemP most (bl r)).1, .int .i64 (elemP most (bl r)).2]) rfl rfl rfl rfl fn146 rfl rfl (fun E w F _ => element_any r most (by omega) hm0 hm w g0) ?_
    refine xl_go tt_ok ?_
    have hdr : (bl r).drop (elemP most (bl r)).2 = bl (sub r (elemP most (bl r)).2 r.size) := by
      rw [bl_rest r (by omega) (by omega), ← tl_zero, tl_drop r (Int.le_refl _), Int.zero_add]
    rw [hdr] at hstep
    generalize elemP most (bl r) = e at *
    have hx : ((ysL most (bl s)).map numV)[k]? = some (numV e.1) := by
      rw [List.getElem?_map, g2, List.getElem?_append_right (by omega), g1, Nat.sub_self, hstep]
      split <;> rfl
    refine xl_yield (kY := 0) rfl hR rfl rfl rfl rfl rfl rfl rfl rfl hx ?_ ?_
    · refine xl_go tt_ok ?_
      refine x_if (fun h4 => ?_) (fun h4 => ?_)
      · have h4 : e.1 < 0 := of_decide_eq_true h4
        rw [if_pos h4] at hstep
        have hk : ((ysL most (bl s)).map numV).length = k + 1 := by rw [List.length_map, g2, hstep, List.length_append, g1]; rfl
        exact .inl (by rw [hk]; rfl)
      · have h4 : ¬ e.1 < 0 := of_decide_eq_false h4
        rw [if_neg h4] at hstep
        have hz2 := sub_size (s := r) (a := (e.2 : Int)) (b := r.size) (by omega) (by omega) (by omega)
        repeat (refine And.intro ?_ ?_; first | omega | (simp only [Lay.d_n]; omega) | (simp only [decide_eq_true_eq, decide_eq_false_iff_not, Bool.or_eq_false_iff, Bool.and_eq_true, Bool.or_eq_true, Bool.and_eq_false_iff, Bool.not_eq_true', Bool.not_eq_false', Lay.d_n]; omega) | (simp only [decide_eq_true_eq, decide_eq_false_iff_not, Bool.or_eq_false_iff, Bool.and_eq_true, Bool.or_eq_true, Bool.and_eq_false_iff, Bool.not_eq_true', Bool.not_eq_false']; omega))
        refine again (k + 1, sub r e.2 r.size) [] (.of rfl rfl rfl rfl rfl rfl) ⟨by omega, m, pre ++ [e.1], by rw [List.length_append, g1]; rfl, by rw [g2, hstep]; simp, by omega⟩ (by simp only; omega)
    · refine xl_go tt_ok ?_
      refine x_ift rfl ?_
      exact .inr rfl
  · have hz : r = ⟨#[]⟩ := Classical.byContradiction fun hn => by have := of_decide_eq_false h; exact this hn
    subst hz
    rw [show bl ⟨#[]⟩ = [] from rfl, ysF_nil, List.append_nil] at g2
    have hk : ((ysL most (bl s)).map numV).length = k := by rw [List.length_map, g2, g1]
    exact .inl (by rw [hk]; rfl)

set_option maxRecDepth 100000 in
theorem elementsFn_any (s : ByteArray) (most : Int) (w : World) : Calls Try.prog 119 #[.string s, .int .i64 most] w (PureP w fun v u => CloAt u v 145 [(9, .string s), (2, .int .i64 most)]) := by
  refine x_fun tt_ok Try.func119 rfl rfl [] 0 [.v (.string s), .v (.int .i64 most)] rfl rfl rfl rfl (fun b hb => by cases hb) ?_
  refine x_vc tt_ok ?_
  refine finP (fun E w' F hs hu => ?_)
  obtain ⟨b1, e1, h1⟩ := hs.boxNew (k := 0) rfl hu
  obtain ⟨b2, e2, h2⟩ := hs.boxNew (k := 1) rfl hu
  have hne : b1 ≠ b2 := fun hb => by
    subst hb
    obtain ⟨c1, q1, q2, _⟩ := hs.holds 0 _ rfl
    obtain ⟨c2, q3, q4, _⟩ := hs.holds 1 _ rfl
    rw [e1] at q1; rw [e2] at q3
    cases q1; cases q3
    exact hs.apart 0 1 b1 (by omega) ((q2 b1).2 rfl) ((q4 b1).2 rfl)
  refine ⟨[b1, b2], ?_, by simp [hne], rfl, fun j b hj => ?_⟩
  · simp [SV.den, tupV, ptrOf, e1, e2]
  · match j, hj with
    | 0, hj => cases hj; exact ⟨_, rfl, h1⟩
    | 1, hj => cases hj; exact ⟨_, rfl, h2⟩
    | j + 2, hj => simp at hj
end Go.Proofs.Ytdonomneofdhfaa
