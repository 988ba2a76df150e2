/- A string's elements: the program's answer. -/
import Derived.Test.YtdonomneofdhfaaN14
import Derived.Test.YtdonomneofdhfaaL3
namespace Go.Proofs.Ytdonomneofdhfaa
open Go.GV Go.RowKit

/-- what stands between the quotes -/
def inT (s : ByteArray) : ByteArray := sub s (pfN s + 1) ((s.size : Int) - 1)
def topT (s : ByteArray) : Int := limP (sub s 0 (pfN s))
def ysT (s : ByteArray) : List Int := ysL (topT s) (bl (inT s))
def okY (ys : List Int) : Bool := ys.all fun v => decide (0 ≤ v)
def strE (s : ByteArray) : Int := if (oneP s).1 = 4 then (if okY (ysT s) = true then 0 else 40) else 40
def strL (s : ByteArray) : List Int := if strE s = 0 then ysT s else []

theorem ysF_len (most : Int) : ∀ (n : Nat) (L : List Int), (ysF most n L).length ≤ n
  | 0, L => Nat.le_refl 0
  | n + 1, [] => Nat.zero_le _
  | n + 1, c :: r => by
    simp only [ysF]
    split
    · simp
    · have := ysF_len most n ((c :: r).drop (elemP most (c :: r)).2)
      simp only [List.length_cons]; omega
theorem okY_take {ys : List Int} {k : Nat} {v : Int} (hv : ys[k]? = some v) (h : v < 0) : okY ys = false := by
  unfold okY
  rw [List.all_eq_false]
  exact ⟨v, List.mem_of_getElem? hv, by simp; omega⟩
theorem okY_step {ys : List Int} {k : Nat} {v : Int} (hv : ys[k]? = some v) (h : 0 ≤ v) (hk : okY (ys.take k) = true) : okY (ys.take (k + 1)) = true := by
  unfold okY at hk ⊢
  rw [take_get hv, List.all_append, hk]
  simp [h]

set_option maxRecDepth 100000 in
theorem str_any (s : ByteArray) (w : World) (hs : s.size ≤ 4294967280) (hg : Glob (im w)) :
    Calls Try.prog 55 #[.string s] w (PureP w (OwnT 2 (intY.d (strL s)) [.int .i64 (strE s)])) := by
  refine x_fun tt_ok Try.func55 rfl rfl [] 0 [.v (.string s)] rfl rfl rfl rfl (fun b hb => by cases hb) ?_
  refine x_vc tt_ok ?_
  refine xl_call0 (.tuple #[.int .i64 (oneP s).1, .bool (oneP s).2]) rfl rfl rfl rfl fn36 rfl rfl (fun E w F hs' => one_any s hs w (hg.imm hs'.imm)) ?_
  refine xl_go tt_ok ?_
  refine x_if (fun h => ?_) (fun h => ?_)
  · have h : (oneP s).1 ≠ 4 := of_decide_eq_true h
    have e1 : strE s = 40 := by unfold strE; rw [if_neg h]
    have e2 : strL s = [] := by unfold strL; rw [e1, if_neg (by omega)]
    rw [e1, e2]
    exact finO2n intY
  · have h : (oneP s).1 = 4 := Classical.not_not.1 (of_decide_eq_false h)
    obtain ⟨q1, _, q3, q4, q5⟩ := lit_at h (.inr rfl)
    have e1 : strE s = if okY (ysT s) = true then 0 else 40 := by unfold strE; rw [if_pos h]
    have e2 : strL s = if strE s = 0 then ysT s else [] := rfl
    have hlr := limP_range (sub s 0 (pfN s))
    refine xl_call0 (.int .i64 (pfN s)) rfl rfl rfl rfl fn118 rfl rfl (fun E w F _ => by rw [← q4]; exact pure_of (Try.strings_IndexByte s 34 w)) ?_
    refine xl_go tt_ok ?_
    refine x_drawA mix ?_
    refine xa_pures tt_ok (fuel := 7) [0, 1, 3, 7, 8] rfl (by kernel_rfl) (by kernel_rfl) (fun _ _ _ hh => hh) (by kernel_rfl) (by kernel_rfl) ?_
    repeat (refine And.intro ?_ ?_; first | omega | (simp only [Lay.d_n]; omega) | (simp only [decide_eq_true_eq, decide_eq_false_iff_not, Bool.or_eq_false_iff, Bool.and_eq_true, Bool.or_eq_true, Bool.and_eq_false_iff, Bool.not_eq_true', Bool.not_eq_false', Lay.d_n]; omega) | (simp only [decide_eq_true_eq, decide_eq_false_iff_not, Bool.or_eq_false_iff, Bool.and_eq_true, Bool.or_eq_true, Bool.and_eq_false_iff, Bool.not_eq_true', Bool.not_eq_false']; omega))
    refine xa_phase tt_ok (fuel := 1) [2, 4, 5, 6, 9, 10] rfl (by kernel_rfl) (by kernel_rfl) (by kernel_rfl) (by kernel_rfl) ?_
    refine xd_go tt_ok ?_
    repeat (refine And.intro ?_ ?_; first | omega | (simp only [Lay.d_n]; omega) | (simp only [decide_eq_true_eq, decide_eq_false_iff_not, Bool.or_eq_false_iff, Bool.and_eq_true, Bool.or_eq_true, Bool.and_eq_false_iff, Bool.not_eq_true', Bool.not_eq_false', Lay.d_n]; omega) | (simp only [decide_eq_true_eq, decide_eq_false_iff_not, Bool.or_eq_false_iff, Bool.and_eq_true, Bool.or_eq_true, Bool.and_eq_false_iff, Bool.not_eq_true', Bool.not_eq_false']; omega))
    refine xd_call0 (.int .i64 (topT s)) rfl rfl rfl rfl fn120 rfl rfl (fun _ E w F _ => limit_any _ w) ?_
    refine xd_go tt_ok ?_
    refine xa_one 11 (by kernel_rfl) rfl ?_
    refine xl_callClo 145 [(9, .string (inT s)), (2, .int .i64 (topT s))] [3, 4] 5 rfl rfl rfl rfl rfl rfl fn119 rfl rfl (fun E w F _ => elementsFn_any (inT s) (topT s) w) ?_
    refine xl_end ?_
    refine xa_done (by kernel_rfl) rfl ?_
    have hit := fun u0 => elements_iter (inT s) (topT s) u0 (by have := hlr.1; unfold topT; omega) hlr.2 (by
      have := sub_size (s := s) (a := (pfN s : Int) + 1) (b := (s.size : Int) - 1) (by omega) (by omega) (by omega)
      unfold inT; omega)
    have hyl : (ysT s).length ≤ 4294967280 := by
      have h1 := ysF_len (topT s) (bl (inT s)).length (bl (inT s))
      rw [bl_len] at h1
      have := sub_size (s := s) (a := (pfN s : Int) + 1) (b := (s.size : Int) - 1) (by omega) (by omega) (by omega)
      have h2 : ((inT s).size : Int) = (s.size : Int) - 1 - (pfN s + 1) := this
      have h3 : (ysT s).length ≤ (inT s).size := by
        unfold ysT ysL
        rw [bl_len]
        exact h1
      omega
    change ∀ u0, IterC Try.prog 145 [(9, .string (inT s)), (2, .int .i64 (topT s))] ((ysT s).map numV) u0 at hit
    generalize ysT s = ys at hit hyl e1 e2
    refine x_nilCell 2 2 intY [] [] rfl ?_
    refine x_rangeC (σ := List Int) (τ := List Int) rfl fn145 (hit _) [(7, .p 2 0), (3, .p 1 0), (2, .p 0 0)]
      (fun L => [(0, .box 77 [.v (.slice none 0 0)]), (1, .box 37 [.v (.int .i64 0)]), (2, .box 77 [.r 7]), (7, .row 2 (intY.d L))]) (fun _ => 8)
      (fun k L _ => L = ys.take k ∧ okY (ys.take k) = true)
      (fun L => [(0, .box 77 [.v (.slice none 0 0)]), (1, .box 37 [.v (.int .i64 40)]), (2, .box 77 [.r 7]), (7, .row 2 (intY.d L))]) (fun _ => 8)
      (fun _ e _ => e = .ret ∧ okY ys = false) [] [(7, some 5)] (.of rfl rfl rfl rfl rfl rfl) ⟨rfl, rfl⟩ rfl rfl rfl
      (fun _ => rfl) (fun _ => rfl) (fun _ => Nat.lt_succ_of_lt (Nat.lt_succ_self 6)) (fun _ => Nat.le_succ_of_le (Nat.le_succ 6)) rfl (fun l k x L u3 Fr Fr' hx hu3 hgr => ?_) (fun L u3 hu3 hgr => ?_) (fun _ e u3 hu3 hgr => ?_)
    · rw [List.getElem?_map] at hx
      obtain ⟨v, hv, rfl⟩ := Option.map_eq_some_iff.1 hx
      obtain ⟨g1, g2⟩ := hgr
      have hk := (List.getElem?_eq_some_iff.1 hv).1
      have hLl : L.length ≤ k := by rw [g1, List.length_take]; omega
      refine x_vc tt_ok ?_
      refine ⟨rfl, rfl, x_vc tt_ok ?_⟩
      refine x_if (fun h1 => ?_) (fun h1 => ?_)
      · have h1 : v < 0 := of_decide_eq_true h1
        exact ⟨L, [], .of rfl rfl rfl rfl rfl rfl, rfl, okY_take hv h1⟩
      · have h1 : ¬ v < 0 := of_decide_eq_false h1
        refine xl_push tt_ok intY L v 8 (cs := [.int .i64 v]) rfl rfl rfl rfl rfl rfl rfl rfl rfl rfl rfl rfl (by kernel_rfl) rfl rfl rfl rfl rfl (fun n hn => by cases hn; decide) rfl rfl rfl (by omega) (by omega) ?_
        refine xl_go tt_ok ?_
        exact ⟨L ++ [v], [(7, some 8)], .of rfl rfl rfl rfl rfl rfl, by rw [g1, take_get hv], okY_step hv (by omega) g2⟩
    · obtain ⟨g1, g2⟩ := hgr
      rw [List.length_map, List.take_length] at g1 g2
      rw [if_pos g2] at e1
      rw [e1, if_pos rfl] at e2
      rw [e1, e2, ← g1]
      exact finO2 rfl
    · obtain ⟨rfl, g2⟩ := hgr
      rw [if_neg (by rw [g2]; simp)] at e1
      rw [e1, if_neg (by omega)] at e2
      rw [e1, e2]
      exact finO2n intY
end Go.Proofs.Ytdonomneofdhfaa
