/- Whether two tokens side by side are read as two: as the program finds it. -/
import Derived.Test.YtdonomneofdhfaaE8
namespace Go.Proofs.Ytdonomneofdhfaa
open Go.GV Go.RowKit

theorem bl_append (a b : ByteArray) : bl (a ++ b) = bl a ++ bl b := by
  unfold bl
  rw [ByteArray.data_append, Array.toList_append, List.map_append]

def fuP (a b : ByteArray) : Bool × Int := match Lx.oneL (bl a), Lx.oneL (bl b) with
  | some _, some _ => (Lx.fz (bl a) (bl b), 0)
  | _, _ => (false, 2)

theorem oneP_some {s : ByteArray} (h : (oneP s).2 = true) : Lx.oneL (bl s) = some (oneP s).1 := by
  unfold oneP at h ⊢
  split at h
  · assumption
  · cases h
theorem oneP_none {s : ByteArray} (h : (oneP s).2 = false) : Lx.oneL (bl s) = none := by
  unfold oneP at h
  split at h
  · cases h
  · assumption

set_option maxRecDepth 100000 in
theorem fuses_any (a b : ByteArray) (hz : a.size + b.size ≤ 4294967280) (w : World) (hg : Glob (im w)) :
    Calls Try.prog 38 #[.string a, .string b] w (PureP w fun v _ => v = .tuple #[.bool (fuP a b).1, .int .i64 (fuP a b).2]) := by
  have hF : (oneP a).2 = true → (oneP b).2 = true → fuP a b = (Lx.fuseG (oneP a).1 (oneP b).1 a.size b.size 0 (itsOf (a ++ b)), 0) := by
    intro h1 h2
    unfold fuP
    rw [oneP_some h1, oneP_some h2]
    simp only
    unfold itsOf
    rw [bl_append, ← Lx.fuseG_eq (oneP_some h1) (oneP_some h2), bl_len, bl_len]
  have hF0 : (oneP a).2 = false ∨ (oneP b).2 = false → fuP a b = (false, 2) := by
    intro h
    unfold fuP
    rcases h with h | h
    · rw [oneP_none h]
    · rw [oneP_none h]
      cases Lx.oneL (bl a) <;> rfl
  generalize fuP a b = N at hF hF0 ⊢
  refine x_fun tt_ok Try.func38 rfl rfl [] 0 [.v (.string a), .v (.string b)] rfl rfl rfl rfl (fun b hb => by cases hb) ?_
  refine x_vc tt_ok ?_
  refine xl_call0 (.tuple #[.int .i64 (oneP a).1, .bool (oneP a).2]) rfl rfl rfl rfl fn36 rfl rfl (fun E w F hs => one_any a (by omega) w (hg.imm hs.imm)) ?_
  refine xl_go tt_ok ?_
  refine x_if (fun h => ?_) (fun h => ?_)
  · have h' : (oneP a).2 = false := by simpa using h
    rw [hF0 (.inl h')]
    exact fin1 (fun _ _ => rfl)
  · have ha : (oneP a).2 = true := by simpa using h
    refine xl_call0 (.tuple #[.int .i64 (oneP b).1, .bool (oneP b).2]) rfl rfl rfl rfl fn36 rfl rfl (fun E w F hs => one_any b (by omega) w (hg.imm hs.imm)) ?_
    refine xl_go tt_ok ?_
    refine x_if (fun h2 => ?_) (fun h2 => ?_)
    · have h' : (oneP b).2 = false := by simpa using h2
      rw [hF0 (.inr h')]
      exact fin1 (fun _ _ => rfl)
    · have hb : (oneP b).2 = true := by simpa using h2
      have hE := hF ha hb
      clear hF hF0 h h2
      generalize (oneP a).1 = ka at hE ⊢
      generalize (oneP b).1 = kb at hE ⊢
      repeat (refine And.intro ?_ ?_; first | omega | (simp only [Lay.d_n]; omega) | (simp only [decide_eq_true_eq, decide_eq_false_iff_not, Bool.or_eq_false_iff, Bool.and_eq_true, Bool.or_eq_true, Bool.and_eq_false_iff, Bool.not_eq_true', Bool.not_eq_false', Lay.d_n]; omega) | (simp only [decide_eq_true_eq, decide_eq_false_iff_not, Bool.or_eq_false_iff, Bool.and_eq_true, Bool.or_eq_true, Bool.and_eq_false_iff, Bool.not_eq_true', Bool.not_eq_false']; omega))
      refine xl_call _ rfl rfl rfl rfl fn100 rfl rfl (fun E w F _ => itemsFn_any (a ++ b) w) (fun v u1 u2 hu2 hs2 hv => ?_)
      obtain ⟨bk, rfl, hbk⟩ := hv
      have hb2 := of_sub_cut hs2 hbk
      have hg2 : Glob u2 := hg.sub hu2.sub
      refine xl_go tt_ok ?_
      refine x_range2 (σ := Nat) (τ := Unit) rfl fn130 (items_iter (a ++ b) bk u2 hb2 hg2 (by rw [ByteArray.size_append]; omega))
        [(9, .p 6 0), (8, .p 5 0), (6, .p 4 0), (5, .p 3 0), (4, .p 2 0), (3, .p 1 0), (2, .p 0 0)]
        (fun c => [(0, .box 9 [.v (.string a)]), (1, .box 9 [.v (.string b)]), (2, .box 4 [.v (.bool false)]), (3, .box 37 [.v (.int .i64 0)]), (4, .box 3 [.v (.int .i64 ka)]), (5, .box 3 [.v (.int .i64 kb)]), (6, .box 3 [.v (.int .i64 c)])]) (fun _ => 8)
        (fun k c _ => c ≤ 2 ∧ Lx.fuseG ka kb a.size b.size 0 (itsOf (a ++ b)) = Lx.fuseG ka kb a.size b.size c ((itsOf (a ++ b)).drop k))
        (fun _ => [(2, .box 4 [.v (.bool true)]), (3, .box 37 [.v (.int .i64 0)])]) (fun _ => 8)
        (fun _ e _ => e = .ret ∧ Lx.fuseG ka kb a.size b.size 0 (itsOf (a ++ b)) = true) 0 [] (.of rfl rfl rfl rfl rfl rfl) ⟨by omega, rfl⟩ rfl
        (fun _ => rfl) (fun _ => rfl) (fun _ => by decide) (fun _ => by decide) rfl rfl (fun l k x c u3 Fr Fr' hx hu3 hg => ?_) (fun c u3 hu3 hg => ?_) (fun _ e u3 hu3 hg => ?_)
      · obtain ⟨g0, g1⟩ := hg
        rw [List.getElem?_map] at hx
        obtain ⟨t, ht, rfl⟩ := Option.map_eq_some_iff.1 hx
        rw [drop_get ht, Lx.fuseG] at g1
        refine x_vc tt_ok ?_
        refine ⟨rfl, rfl, x_vc tt_ok ?_⟩
        refine x_if (fun h => ?_) (fun h => ?_)
        · rw [if_pos (of_decide_eq_true h)] at g1
          exact ⟨(), [], .of rfl rfl rfl rfl rfl rfl, rfl, g1⟩
        · rw [if_neg (of_decide_eq_false h)] at g1
          refine x_if (fun h1 => ?_) (fun h1 => ?_)
          · have h1' := h1
            simp only [Bool.and_eq_true, decide_eq_true_eq, and_true] at h1'
            obtain ⟨q1, q2, q3, q4⟩ := h1'
            obtain rfl : c = 0 := by omega
            rw [if_pos ⟨rfl, q2, by omega, by omega⟩] at g1
            repeat (refine And.intro ?_ ?_; first | omega | (simp only [Lay.d_n]; omega) | (simp only [decide_eq_true_eq, decide_eq_false_iff_not, Bool.or_eq_false_iff, Bool.and_eq_true, Bool.or_eq_true, Bool.and_eq_false_iff, Bool.not_eq_true', Bool.not_eq_false', Lay.d_n]; omega) | (simp only [decide_eq_true_eq, decide_eq_false_iff_not, Bool.or_eq_false_iff, Bool.and_eq_true, Bool.or_eq_true, Bool.and_eq_false_iff, Bool.not_eq_true', Bool.not_eq_false']; omega))
            exact ⟨1, [], .of rfl rfl rfl rfl rfl rfl, by omega, g1⟩
          · have hn : ¬ (c = 0 ∧ t.kind = ka ∧ t.lo = 0 ∧ t.hi = a.size) := by
              rintro ⟨q1, q2, q3, q4⟩
              rw [decide_eq_true (by omega), decide_eq_true q2, decide_eq_true (by omega), decide_eq_true (by omega)] at h1
              cases h1
            rw [if_neg hn] at g1
            repeat (refine And.intro ?_ ?_; first | omega | (simp only [Lay.d_n]; omega) | (simp only [decide_eq_true_eq, decide_eq_false_iff_not, Bool.or_eq_false_iff, Bool.and_eq_true, Bool.or_eq_true, Bool.and_eq_false_iff, Bool.not_eq_true', Bool.not_eq_false', Lay.d_n]; omega) | (simp only [decide_eq_true_eq, decide_eq_false_iff_not, Bool.or_eq_false_iff, Bool.and_eq_true, Bool.or_eq_true, Bool.and_eq_false_iff, Bool.not_eq_true', Bool.not_eq_false']; omega))
            refine x_if (fun h2 => ?_) (fun h2 => ?_)
            · have h2' := h2
              simp only [Bool.and_eq_true, decide_eq_true_eq, and_true] at h2'
              obtain ⟨q1, q2, q3, q4⟩ := h2'
              obtain rfl : c = 1 := by omega
              rw [if_pos ⟨rfl, q2, by omega, by omega⟩] at g1
              repeat (refine And.intro ?_ ?_; first | omega | (simp only [Lay.d_n]; omega) | (simp only [decide_eq_true_eq, decide_eq_false_iff_not, Bool.or_eq_false_iff, Bool.and_eq_true, Bool.or_eq_true, Bool.and_eq_false_iff, Bool.not_eq_true', Bool.not_eq_false', Lay.d_n]; omega) | (simp only [decide_eq_true_eq, decide_eq_false_iff_not, Bool.or_eq_false_iff, Bool.and_eq_true, Bool.or_eq_true, Bool.and_eq_false_iff, Bool.not_eq_true', Bool.not_eq_false']; omega))
              exact ⟨2, [], .of rfl rfl rfl rfl rfl rfl, by omega, g1⟩
            · have hn : ¬ (c = 1 ∧ t.kind = kb ∧ t.lo = a.size ∧ t.hi = a.size + b.size) := by
                rintro ⟨q1, q2, q3, q4⟩
                rw [decide_eq_true (by omega), decide_eq_true q2, decide_eq_true (by omega), decide_eq_true (by omega)] at h2
                cases h2
              rw [if_neg hn] at g1
              exact ⟨(), [], .of rfl rfl rfl rfl rfl rfl, rfl, g1⟩
      · obtain ⟨g0, g1⟩ := hg
        rw [List.length_map, List.drop_length, Lx.fuseG] at g1
        rw [g1] at hE
        rw [hE]
        refine fin1 (fun _ _ => ?_)
        show Value.tuple #[.bool (decide ((c : Int) ≠ 2)), .int .i64 0] = _
        rw [show decide ((c : Int) ≠ 2) = decide (c ≠ 2) by rw [decide_eq_decide]; omega]
      · obtain ⟨rfl, g1⟩ := hg
        rw [hE, g1]
        exact fin1 (fun _ _ => rfl)
end Go.Proofs.Ytdonomneofdhfaa
