/- A floating constant: the program's answer. -/
import Derived.Laws.BitsAllLaws
import Derived.Test.YtdonomneofdhfaaN6
namespace Go.GV
open Go.RowKit

/-- a guarded operation that gives one value -/
theorem xl_gval {C : Cx} {all : List Oper} {o : Oper} {r : List Oper} {Q : Post} {st : St} {u : Im} (v : Value) {g : Gd} {d : Nat}
    (hg : guardOf all st o = some g) (hd : o.dst = some d) (hnd : ∀ c, o.op ≠ .defer c) (hfr : fresh C.N st d g = true)
    (H : allL (gprops st g) → ∀ E a w, Ok C E st u a w → gs a.tmps g → (execOp a.eval o).run C.P w = .ok (.value v) w)
    (K : XL C all r Q (st.put d g (.v v)) u) : XL C all (o :: r) Q st u := by
  unfold XL at K ⊢
  intro E a w hok
  have how : (st.put d g (.v v)).ow = st.ow := by cases g <;> rfl
  have hnx : (st.put d g (.v v)).nx = st.nx := by cases g <;> rfl
  have hgd := guard_sound (all := all.toArray) hok.agr (by simpa using hg)
  obtain ⟨fF, hsat⟩ := hok.sat
  have go : ∀ x w', (gs a.tmps g → x = v) → (¬ gs a.tmps g → x = undef) → Below w.heap.size w w' →
      wpListIn (FR C.ro) 0 C.P all.toArray (SemQ C E st.nx u Q) r (a.put o.dst x) w' := by
    intro x w' hx hnx' hbel
    have hput : Agr C.N E (st.put d g (.v v)) (a.tmps.setIfInBounds d x) :=
      hok.agr.put hfr (fun _ => trivial) hx hnx' (fun hn => by subst hn; exact hx (fun y hy => by cases hy))
    have := K E (a.put o.dst x) w' ⟨by rw [hd]; exact hput, fF, by rw [how, hnx, hd]; exact hsat.keep hbel⟩
    rwa [hnx] at this
  unfold wpListIn
  by_cases hw : Region.wanted o (yielded all.toArray a.tmps) = true
  · have hgs := hgd.1 hw
    rw [if_pos hw]
    refine ⟨fun _ _ => trivial, ?_⟩
    rw [semAt_eq _ _ _ hnd, H (allL_of (gprops_sound hok.agr hgs (fun _ _ _ => trivial))) E a w hok hgs, Oper.uponIn_value]
    exact go _ _ (fun _ => rfl) (fun hn => absurd hgs hn) (Below.refl _ _)
  · have hgs := hgd.2 (by simpa using hw)
    rw [if_neg hw]
    exact ⟨fun _ _ => trivial, go _ _ (fun hy => absurd hy hgs) (fun _ => rfl) (Below.refl _ _)⟩

/-- a guarded operation on two values -/
theorem xl_gbin {C : Cx} {all : List Oper} {o : Oper} {r : List Oper} {Q : Post} {st : St} {u : Im} (v : Value) {g : Gd} {d t ut : Nat} {b : BinOp} {x y : Operand} {vx vy : Value}
    (ho : o.op = .binOp b t x y ut) (hg : guardOf all st o = some g) (hd : o.dst = some d) (hfr : fresh C.N st d g = true) (hx : opd st g x = some (.v vx)) (hy : opd st g y = some (.v vy))
    (hrun1 : ∀ w, (eqGuard b t x y vx vy).run C.P w = .ok () w) (hrun : allL (gprops st g) → ∀ w, (binOp b t vx vy).run C.P w = .ok v w)
    (K : XL C all r Q (st.put d g (.v v)) u) : XL C all (o :: r) Q st u := by
  refine xl_gval v hg hd (fun c hc => by rw [ho] at hc; cases hc) hfr (fun hp E a w hok hgs => ?_) K
  obtain ⟨e1, _⟩ := opd_sound hok.agr hgs hx
  obtain ⟨e2, _⟩ := opd_sound hok.agr hgs hy
  simp only [SV.den] at e1 e2
  have h1 := hrun1 w
  have h2 := hrun hp w
  unfold execOp
  rw [ho]
  simp only [e1, e2]
  simp [h1, h2, Result.andThen]
end Go.GV
namespace Go.Proofs.Ytdonomneofdhfaa
open Go.GV Go.RowKit

set_option maxRecDepth 100000 in
theorem or32 : ∀ n : Nat, n < 256 → ((n ||| 32 = 101 ↔ n = 101 ∨ n = 69) ∧ (n ||| 32 = 112 ↔ n = 112 ∨ n = 80)) := by decide
theorem or32_iff {c m : Int} (h0 : 0 ≤ c) (h1 : c ≤ 255) (hm : m = 101 ∨ m = 112) : bits .or .u8 c 32 = m ↔ c = m ∨ c = m - 32 := by
  obtain ⟨n, rfl⟩ := Int.eq_ofNat_of_zero_le h0
  have h2 := u8_or_nat n 32 (by omega) (by omega)
  have h3 := or32 n (by omega)
  rw [show ((32 : Nat) : Int) = 32 from rfl] at h2
  rw [h2]
  generalize n ||| 32 = k at h3
  rcases hm with rfl | rfl <;> omega

def sgnL : List Int → Nat
  | [] => 0
  | d :: _ => if (decide (d = 43) || decide (d = 45)) = true then 1 else 0
/-- how long an exponent is, and whether it is whole -/
def expL (m : Int) : List Int → Nat × Bool
  | [] => (0, true)
  | c :: r => if (decide (c = m) || decide (c = m - 32)) = true then (1 + sgnL r + runB 10 (r.drop (sgnL r)), decide (0 < runB 10 (r.drop (sgnL r)))) else (0, true)

set_option maxRecDepth 100000 in
theorem exponent_any (s : ByteArray) (m : Int) (hm : m = 101 ∨ m = 112) (w : World) (hs : s.size ≤ 140737488355328) :
    Calls Try.prog 125 #[.string s, .int .u8 m] w (PureP w fun v _ => v = .tuple #[.int .i64 (expL m (bl s)).1, .bool (expL m (bl s)).2]) := by
  have hne : s ≠ ⟨#[]⟩ → 0 < s.size := fun hn => by
    rcases Nat.eq_zero_or_pos s.size with h0 | h0
    · exact absurd (ByteArray.size_eq_zero_iff.1 h0) hn
    · exact h0
  have hbt := bt_range s 0
  obtain ⟨N, hN⟩ : ∃ N, N = expL m (bl s) := ⟨_, rfl⟩
  rw [← hN]
  refine x_fun tt_ok Try.func125 rfl rfl [] 0 [.v (.string s), .v (.int .u8 m)] rfl rfl rfl rfl (fun b hb => by cases hb) ?_
  refine x_vc tt_ok ?_
  refine And.intro (fun _ => Int.le_refl 0) ?_
  refine And.intro (fun h => ?_) ?_
  · have := hne (of_decide_eq_false h); omega
  refine xl_gbin (.int .u8 (bits .or .u8 (bt s 0) 32)) rfl rfl rfl rfl rfl rfl (fun w => rfl) (fun _ w => rfl) ?_
  have hor := or32_iff hbt.1 hbt.2 hm
  generalize bits .or .u8 (bt s 0) 32 = q at hor ⊢
  refine xl_go tt_ok ?_
  refine x_if (fun h => ?_) (fun h => ?_)
  · have h : (decide (s = ⟨#[]⟩) || decide (q ≠ m)) = true := h
    have e : N = (0, true) := by
      rw [hN]
      simp only [Bool.or_eq_true, decide_eq_true_eq] at h
      rcases h with h | h
      · rw [h]; rfl
      · by_cases hz : s = ⟨#[]⟩
        · rw [hz]; rfl
        · have := hne hz
          rw [← tl_zero, tl_cons (by omega) (by omega), expL, if_neg]
          simp only [Bool.or_eq_true, decide_eq_true_eq]
          rw [← hor]; exact h
    rw [e]
    exact fin1 (fun _ _ => rfl)
  · have h : (decide (s = ⟨#[]⟩) || decide (q ≠ m)) = false := h
    simp only [Bool.or_eq_false_iff, decide_eq_false_iff_not, Classical.not_not] at h
    have hz := hne h.1
    rw [← tl_zero, tl_cons (by omega) (by omega), expL, if_pos (by simp only [Bool.or_eq_true, decide_eq_true_eq]; exact hor.1 h.2)] at hN
    simp only [Int.zero_add] at hN
    have hdr : ∀ k : Nat, (tl s 1).drop k = tl s (1 + k) := fun k => by
      unfold tl
      rw [List.drop_drop, show (1 + (k : Int)).toNat = (1 : Int).toNat + k by omega]
    rw [hdr] at hN
    have hsg : sgnL (tl s 1) = if (decide (1 < (s.size : Int)) && (decide (bt s 1 = 43) || decide (bt s 1 = 45))) = true then 1 else 0 := by
      by_cases h1 : 1 < (s.size : Int)
      · rw [tl_cons (by omega) h1, decide_eq_true h1, Bool.true_and]; rfl
      · rw [tl_nil (by omega), decide_eq_false h1, Bool.false_and]; rfl
    repeat (refine And.intro ?_ ?_; first | omega | (simp only [Lay.d_n]; omega) | (simp only [decide_eq_true_eq, decide_eq_false_iff_not, Bool.or_eq_false_iff, Bool.and_eq_true, Bool.or_eq_true, Bool.and_eq_false_iff, Bool.not_eq_true', Bool.not_eq_false', Lay.d_n]; omega) | (simp only [decide_eq_true_eq, decide_eq_false_iff_not, Bool.or_eq_false_iff, Bool.and_eq_true, Bool.or_eq_true, Bool.and_eq_false_iff, Bool.not_eq_true', Bool.not_eq_false']; omega))
    refine x_if (fun h3 => ?_) (fun h3 => ?_)
    · have h3 : (decide (1 < (s.size : Int)) && (decide (bt s 1 = 43) || decide (bt s 1 = 45))) = true := h3
      rw [if_pos h3] at hsg
      rw [hsg] at hN
      simp only [Bool.and_eq_true, decide_eq_true_eq] at h3
      have hrl := runB_le 10 (tl s (1 + ((1 : Nat) : Int)))
      rw [tl_len] at hrl
      repeat (refine And.intro ?_ ?_; first | omega | (simp only [Lay.d_n]; omega) | (simp only [decide_eq_true_eq, decide_eq_false_iff_not, Bool.or_eq_false_iff, Bool.and_eq_true, Bool.or_eq_true, Bool.and_eq_false_iff, Bool.not_eq_true', Bool.not_eq_false', Lay.d_n]; omega) | (simp only [decide_eq_true_eq, decide_eq_false_iff_not, Bool.or_eq_false_iff, Bool.and_eq_true, Bool.or_eq_true, Bool.and_eq_false_iff, Bool.not_eq_true', Bool.not_eq_false']; omega))
      refine xl_call0 (.int .i64 (runB 10 (tl s (1 + ((1 : Nat) : Int))))) rfl rfl rfl rfl fn109 rfl rfl (fun E w F _ => by
        have := run_any (sub s 2 s.size) 10 w (by have := sub_size (s := s) (a := 2) (b := s.size) (by omega) (by omega) (by omega); omega)
        rw [bl_rest s (by omega) (by omega)] at this
        exact this) ?_
      refine xl_go tt_ok ?_
      repeat (refine And.intro ?_ ?_; first | omega | (simp only [Lay.d_n]; omega) | (simp only [decide_eq_true_eq, decide_eq_false_iff_not, Bool.or_eq_false_iff, Bool.and_eq_true, Bool.or_eq_true, Bool.and_eq_false_iff, Bool.not_eq_true', Bool.not_eq_false', Lay.d_n]; omega) | (simp only [decide_eq_true_eq, decide_eq_false_iff_not, Bool.or_eq_false_iff, Bool.and_eq_true, Bool.or_eq_true, Bool.and_eq_false_iff, Bool.not_eq_true', Bool.not_eq_false']; omega))
      rw [hN]
      refine fin1 (fun _ _ => ?_)
      generalize runB 10 (tl s (1 + ((1 : Nat) : Int))) = n
      show Value.tuple #[.int .i64 (1 + 1 + (n : Int)), .bool (decide ((0 : Int) < n))] = .tuple #[.int .i64 ((1 + 1 + n : Nat) : Int), .bool (decide (0 < n))]
      rw [decide_eq_decide.2 (show (0 : Int) < n ↔ 0 < n by omega), show ((1 + 1 + n : Nat) : Int) = 1 + 1 + (n : Int) by omega]
    · have h3 : (decide (1 < (s.size : Int)) && (decide (bt s 1 = 43) || decide (bt s 1 = 45))) = false := h3
      rw [if_neg (by rw [h3]; simp)] at hsg
      rw [hsg] at hN
      have hrl := runB_le 10 (tl s (1 + ((0 : Nat) : Int)))
      rw [tl_len] at hrl
      repeat (refine And.intro ?_ ?_; first | omega | (simp only [Lay.d_n]; omega) | (simp only [decide_eq_true_eq, decide_eq_false_iff_not, Bool.or_eq_false_iff, Bool.and_eq_true, Bool.or_eq_true, Bool.and_eq_false_iff, Bool.not_eq_true', Bool.not_eq_false', Lay.d_n]; omega) | (simp only [decide_eq_true_eq, decide_eq_false_iff_not, Bool.or_eq_false_iff, Bool.and_eq_true, Bool.or_eq_true, Bool.and_eq_false_iff, Bool.not_eq_true', Bool.not_eq_false']; omega))
      refine xl_call0 (.int .i64 (runB 10 (tl s (1 + ((0 : Nat) : Int))))) rfl rfl rfl rfl fn109 rfl rfl (fun E w F _ => by
        have := run_any (sub s 1 s.size) 10 w (by have := sub_size (s := s) (a := 1) (b := s.size) (by omega) (by omega) (by omega); omega)
        rw [bl_rest s (by omega) (by omega)] at this
        exact this) ?_
      refine xl_go tt_ok ?_
      repeat (refine And.intro ?_ ?_; first | omega | (simp only [Lay.d_n]; omega) | (simp only [decide_eq_true_eq, decide_eq_false_iff_not, Bool.or_eq_false_iff, Bool.and_eq_true, Bool.or_eq_true, Bool.and_eq_false_iff, Bool.not_eq_true', Bool.not_eq_false', Lay.d_n]; omega) | (simp only [decide_eq_true_eq, decide_eq_false_iff_not, Bool.or_eq_false_iff, Bool.and_eq_true, Bool.or_eq_true, Bool.and_eq_false_iff, Bool.not_eq_true', Bool.not_eq_false']; omega))
      rw [hN]
      refine fin1 (fun _ _ => ?_)
      generalize runB 10 (tl s (1 + ((0 : Nat) : Int))) = n
      show Value.tuple #[.int .i64 (1 + (n : Int)), .bool (decide ((0 : Int) < n))] = .tuple #[.int .i64 ((1 + 0 + n : Nat) : Int), .bool (decide (0 < n))]
      rw [decide_eq_decide.2 (show (0 : Int) < n ↔ 0 < n by omega), show ((1 + 0 + n : Nat) : Int) = 1 + (n : Int) by omega]
end Go.Proofs.Ytdonomneofdhfaa
