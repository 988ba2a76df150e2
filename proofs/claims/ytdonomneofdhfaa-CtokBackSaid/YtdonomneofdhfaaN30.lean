/- CtokBack: the plain law. -/
import Derived.Test.YtdonomneofdhfaaN29
namespace Go.Proofs.Ytdonomneofdhfaa
open Go.GV Go.RowKit

def chL (d : Nat) : Int := if d < 10 then 48 + d else 87 + d
theorem hexS_ch : ∀ d : Nat, d < 16 → bl (hexS d) = [chL d] ∧ dg (chL d) = d := by decide
theorem wL_step (f n b : Nat) (hb : 2 ≤ b) (hb2 : b ≤ 16) : bl (wrB (f + 1) n b) = if n < b then [chL n] else bl (wrB f (n / b) b) ++ [chL (n % b)] := by
  have hmod : n % b < b := Nat.mod_lt _ (by omega)
  simp only [wrB]
  split
  · exact (hexS_ch n (by omega)).1
  · rw [bl_append, (hexS_ch (n % b) (by omega)).1]

theorem valF_snoc (b : Int) (c : Int) : ∀ (L : List Int) (v : Int), valF b v (L ++ [c]) = match valF b v L with
    | some a => if a * b + dg c < 18446744073709551616 then some (a * b + dg c) else none
    | none => none
  | [], v => rfl
  | x :: L, v => by
    simp only [List.cons_append, valF]
    split
    · exact valF_snoc b c L _
    · rfl

structure WrOk (b n : Nat) (L : List Int) : Prop where
  dig : ∀ c ∈ L, dg c < b ∧ 0 ≤ dg c
  val : valF b 0 L = some (n : Int)
  head : ∃ d r, L = chL d :: r ∧ d < b ∧ (1 ≤ n → 1 ≤ d)

theorem wr_ok (b : Nat) (hb : 2 ≤ b) (hb2 : b ≤ 16) : ∀ (f n : Nat), n < 2 ^ f → n < 18446744073709551616 → WrOk b n (bl (wrB (f + 1) n b)) := by
  intro f
  have one : ∀ n : Nat, n < b → n < 18446744073709551616 → WrOk b n [chL n] := fun n h h2 => by
    have := (hexS_ch n (by omega)).2
    refine ⟨fun c hc => ?_, ?_, n, [], rfl, h, fun h => h⟩
    · rw [List.mem_singleton.1 hc, this]; omega
    · simp only [valF, this]
      rw [if_pos (by omega)]
      simp
  induction f with
  | zero =>
    intro n hn hn2
    have h0 : n = 0 := by simp at hn; exact hn
    subst h0
    rw [wL_step 0 0 b hb hb2, if_pos (by omega)]
    exact one 0 (by omega) (by omega)
  | succ f ih =>
    intro n hn hn2
    rw [wL_step (f + 1) n b hb hb2]
    split
    · rename_i h; exact one n h hn2
    · rename_i h
      have hmod : n % b < b := Nat.mod_lt _ (by omega)
      have hdiv : n / b < 2 ^ f := by
        rw [Nat.div_lt_iff_lt_mul (by omega)]
        have : 2 ^ (f + 1) ≤ 2 ^ f * b := by rw [Nat.pow_succ]; exact Nat.mul_le_mul_left _ hb
        omega
      have hdl : n / b ≤ n := Nat.div_le_self _ _
      have hpos : 1 ≤ n / b := (Nat.one_le_div_iff (by omega)).2 (by omega)
      have hdm : n / b * b + n % b = n := Nat.div_add_mod' n b
      obtain ⟨h1, h2, d, r, h3, h4, h5⟩ := ih (n / b) hdiv (by omega)
      have hc := (hexS_ch (n % b) (by omega)).2
      refine ⟨fun c hcm => ?_, ?_, d, r ++ [chL (n % b)], by rw [h3]; rfl, h4, fun _ => h5 hpos⟩
      · rcases List.mem_append.1 hcm with hcm | hcm
        · exact h1 c hcm
        · rw [List.mem_singleton.1 hcm, hc]; omega
      · rw [valF_snoc, h2]
        show (if _ then _ else _) = _
        have : ((n / b : Nat) : Int) * (b : Int) + ((n % b : Nat) : Int) = n := by rw [← Int.natCast_mul, ← Int.natCast_add, hdm]
        rw [hc, this, if_pos (by omega)]

theorem runB_all (b : Int) : ∀ (D R : List Int), (∀ c ∈ D, dg c < b) → (∀ c r, R = c :: r → ¬ dg c < b) → runB b (D ++ R) = D.length
  | [], [], _, _ => rfl
  | [], c :: r, _, h => by
    show runB b (c :: r) = 0
    rw [runB, if_neg (h c r rfl)]
  | c :: D, R, h1, h2 => by
    rw [List.cons_append, runB, if_pos (h1 c (List.mem_cons_self ..)), runB_all b D R (fun x hx => h1 x (List.mem_cons_of_mem _ hx)) h2]; rfl

/-- an integer constant in its parts -/
theorem intC_of {s rB : ByteArray} {pre D : List Int} {b v : Int} (hbl : bl s = pre ++ (D ++ bl rB)) (hbase : baseT s = b) (hat : atT s = pre.length) (hD : ∀ c ∈ D, dg c < b) (hne : D ≠ [])
    (hR : ∀ c r, bl rB = c :: r → ¬ dg c < b) (hv : valF b 0 D = some v) :
    intC s = if (!sufO rB || (decide (b = 10) && decide (9223372036854775807 < v) && !sufU rB)) = true then none else some (v, sufU rB || decide (9223372036854775807 < v)) := by
  have ht : tl s (atT s) = D ++ bl rB := by
    unfold tl
    rw [hbl, hat]
    simp
  have hn : nT s = D.length := by
    unfold nT
    rw [hbase, ht]
    exact runB_all b D (bl rB) hD hR
  have hnl := nT_le s
  have hatr := atT_range s
  have hr : sub s (atT s + nT s) s.size = rB := by
    refine bl_inj ?_
    rw [bl_rest s (by omega) (by omega), ← tl_drop s hatr.1, ht, hn]
    simp
  have hlen : 0 < D.length := List.length_pos_iff.2 hne
  unfold intC
  rw [if_neg (by omega), hr, hbase, ht, hn, List.take_left' rfl, hv]

theorem hexT_bl {s : ByteArray} {c d : Int} {r : List Int} (h : bl s = c :: d :: r) : hexT s = (decide (c = 48) && (decide (d = 120) || decide (d = 88))) := by
  have hl := congrArg List.length h
  rw [bl_len] at hl
  simp only [List.length_cons] at hl
  have e0 := tl_cons (s := s) (i := 0) (by omega) (by omega)
  have e1 := tl_cons (s := s) (i := 1) (by omega) (by omega)
  rw [tl_zero, h, Int.zero_add, e1] at e0
  obtain ⟨a1, a2⟩ := List.cons.inj e0
  obtain ⟨a3, _⟩ := List.cons.inj a2
  unfold hexT
  rw [decide_eq_true (by omega), ← a1, ← a3, Bool.true_and]
theorem hexT_one {s : ByteArray} {c : Int} (h : bl s = [c]) : hexT s = false := by
  have hl := congrArg List.length h
  rw [bl_len] at hl
  have hl : s.size = 1 := hl
  unfold hexT
  rw [decide_eq_false (by omega)]; rfl
theorem bt_zero {s : ByteArray} {c : Int} {r : List Int} (h : bl s = c :: r) : bt s 0 = c ∧ s ≠ ⟨#[]⟩ := by
  have hl := congrArg List.length h
  rw [bl_len] at hl
  simp only [List.length_cons] at hl
  have e0 := tl_cons (s := s) (i := 0) (by omega) (by omega)
  rw [tl_zero, h] at e0
  refine ⟨(List.cons.inj e0).1.symm, fun e => ?_⟩
  rw [e] at hl
  have hl : (0 : Nat) = r.length + 1 := hl
  omega

theorem ch_lt {d : Nat} (h : d < 10) : chL d ≠ 120 ∧ chL d ≠ 88 := by unfold chL; rw [if_pos h]; omega
theorem dg_ch {c : Int} {b : Int} (hb : b ≤ 10) (h : dg c < b) : c ≠ 120 ∧ c ≠ 88 := by
  constructor
  · intro e; subst e; have : dg 120 = 16 := rfl; omega
  · intro e; subst e; have : dg 88 = 16 := rfl; omega

/-- base 10 or 8, out of the first character -/
theorem base_low {s : ByteArray} {c : Int} {r : List Int} (h : bl s = c :: r) (hx : ∀ d q, r = d :: q → d ≠ 120 ∧ d ≠ 88) : baseT s = (if c = 48 then 8 else 10) ∧ atT s = 0 := by
  have hh : hexT s = false := by
    cases r with
    | nil => exact hexT_one h
    | cons d q =>
      obtain ⟨h1, h2⟩ := hx d q rfl
      rw [hexT_bl h, decide_eq_false h1, decide_eq_false h2, Bool.or_self, Bool.and_false]
  obtain ⟨b1, b2⟩ := bt_zero h
  constructor
  · unfold baseT
    rw [if_neg (by rw [hh]; simp), decide_eq_true b2, b1, Bool.true_and]
    simp only [decide_eq_true_eq]
  · unfold atT
    rw [if_neg (by rw [hh]; simp)]

def ten (n : Nat) : ByteArray := wrB 65 n 10
def eight (n : Nat) : ByteArray := (⟨#[48]⟩ : ByteArray) ++ wrB 65 n 8
def hexa (n : Nat) : ByteArray := (⟨#[48, 120]⟩ : ByteArray) ++ wrB 65 n 16
def hexU (n : Nat) : ByteArray := ((⟨#[48, 88]⟩ : ByteArray) ++ wrB 65 n 16) ++ (⟨#[76, 76, 85]⟩ : ByteArray)
def uB : ByteArray := ⟨#[117]⟩
def great (n : Nat) : Bool := decide (9223372036854775807 < (n : Int))

theorem ten_int (n : Nat) (hn : n < 18446744073709551616) (rB : ByteArray) (hR : bl rB = [] ∨ ∃ q, bl rB = 117 :: q) (ho : sufO rB = true) :
    intC (ten n ++ rB) = if (great n && !sufU rB) = true then none else some ((n : Int), sufU rB || great n) := by
  obtain ⟨h1, h2, d, r, h3, h4, h5⟩ := wr_ok 10 (by omega) (by omega) 64 n (by omega) hn
  have hbl : bl (ten n ++ rB) = [] ++ (bl (wrB 65 n 10) ++ bl rB) := by rw [bl_append]; rfl
  have hRd : ∀ c r, bl rB = c :: r → c = 117 := fun c r e => by
    rcases hR with h | ⟨q, h⟩
    · rw [h] at e; cases e
    · rw [h] at e; injection e with e1 _; exact e1.symm
  have hx : ∀ a q, r ++ bl rB = a :: q → a ≠ 120 ∧ a ≠ 88 := fun a q e => by
    cases r with
    | nil =>
      have := hRd a q (by simpa using e)
      omega
    | cons x t =>
      injection e with e1 _
      subst e1
      have := h1 x (by rw [h3]; simp)
      exact dg_ch (b := 10) (by omega) (by omega)
  have hb := base_low (s := ten n ++ rB) (c := chL d) (r := r ++ bl rB) (by rw [hbl, h3]; rfl) hx
  have hgr : ∀ v : Int, v = n → decide (9223372036854775807 < v) = great n := fun v h => by rw [h]; rfl
  by_cases hz : n = 0
  · have hd0 : chL d = 48 := by
      have e := wL_step 64 n 10 (by omega) (by omega)
      rw [if_pos (by omega), h3] at e
      injection e with e1 _
      rw [e1, hz]; rfl
    rw [if_pos hd0] at hb
    have hD : bl (wrB 65 n 10) = [48] := by
      have e := wL_step 64 n 10 (by omega) (by omega)
      rw [if_pos (by omega)] at e
      rw [e, hz]; rfl
    rw [intC_of hbl hb.1 hb.2 (by rw [hD]; intro c hc; rw [List.mem_singleton.1 hc]; decide) (by rw [hD]; simp) (fun c q e => by rw [hRd c q e]; decide) (v := 0) (by rw [hD]; rfl), ho]
    subst hz
    simp [great]
  · have hd1 := h5 (by omega)
    have hne : chL d ≠ 48 := by unfold chL; rw [if_pos h4]; omega
    rw [if_neg hne] at hb
    rw [intC_of hbl hb.1 hb.2 (fun c hc => (h1 c hc).1) (by rw [h3]; simp) (fun c q e => by rw [hRd c q e]; decide) h2, ho, hgr _ rfl]
    simp

theorem eight_int (n : Nat) (hn : n < 18446744073709551616) : intC (eight n) = some ((n : Int), great n) := by
  obtain ⟨h1, h2, d, r, h3, h4, h5⟩ := wr_ok 8 (by omega) (by omega) 64 n (by omega) hn
  have hbl : bl (eight n) = [] ++ ((48 :: bl (wrB 65 n 8)) ++ bl (⟨#[]⟩ : ByteArray)) := by
    unfold eight
    rw [bl_append]
    show [48] ++ bl (wrB 65 n 8) = 48 :: bl (wrB 65 n 8) ++ []
    simp
  have hb := base_low (s := eight n) (c := 48) (r := bl (wrB 65 n 8)) (by rw [hbl]; simp [bl]) (fun a q e => by
    have := h1 a (by rw [e]; simp)
    exact dg_ch (b := 8) (by omega) (by omega))
  rw [if_pos rfl] at hb
  have hv : valF 8 0 (48 :: bl (wrB 65 n 8)) = some (n : Int) := by
    rw [valF, show dg 48 = 0 from rfl]
    exact h2
  rw [intC_of hbl hb.1 hb.2 (fun c hc => by
    rcases List.mem_cons.1 hc with rfl | hc
    · decide
    · exact (h1 c hc).1) (by simp) (fun c q e => by cases e) hv]
  rfl

theorem hex_int (n : Nat) (hn : n < 18446744073709551616) (x : UInt8) (hx : x = 120 ∨ x = 88) (rB : ByteArray) (hR : ∀ c r, bl rB = c :: r → ¬ dg c < 16) (ho : sufO rB = true) :
    intC (((⟨#[48, x]⟩ : ByteArray) ++ wrB 65 n 16) ++ rB) = some ((n : Int), sufU rB || great n) := by
  obtain ⟨h1, h2, d, r, h3, h4, h5⟩ := wr_ok 16 (by omega) (by omega) 64 n (by omega) hn
  have hbl : bl (((⟨#[48, x]⟩ : ByteArray) ++ wrB 65 n 16) ++ rB) = [48, (x.toNat : Int)] ++ (bl (wrB 65 n 16) ++ bl rB) := by
    rw [bl_append, bl_append, List.append_assoc]; rfl
  have hh : hexT (((⟨#[48, x]⟩ : ByteArray) ++ wrB 65 n 16) ++ rB) = true := by
    rw [hexT_bl (c := 48) (d := (x.toNat : Int)) (r := bl (wrB 65 n 16) ++ bl rB) hbl]
    rcases hx with rfl | rfl <;> rfl
  have hb : baseT (((⟨#[48, x]⟩ : ByteArray) ++ wrB 65 n 16) ++ rB) = 16 := by unfold baseT; rw [if_pos hh]
  have ha : atT (((⟨#[48, x]⟩ : ByteArray) ++ wrB 65 n 16) ++ rB) = 2 := by unfold atT; rw [if_pos hh]
  rw [intC_of hbl hb ha (fun c hc => (h1 c hc).1) (by rw [h3]; simp) hR h2, ho]
  simp [great]
end Go.Proofs.Ytdonomneofdhfaa
