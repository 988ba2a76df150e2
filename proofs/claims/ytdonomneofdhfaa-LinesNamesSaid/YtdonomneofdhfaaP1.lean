/- The parts of a text, one after the other. -/
import Derived.Test.YtdonomneofdhfaaS2
namespace Go.Proofs.Ytdonomneofdhfaa
open Go.GV Go.RowKit

structure Part where
  b : Int
  pos : Int
  len : Int
  sp : Bool

def Part.val (p : Part) : Value := .agg #[.int .u8 p.b, .int .i64 p.pos, .int .i64 p.len, .bool p.sp]

def triB (s : ByteArray) (i : Int) : Bool := decide (i + 2 < s.size) && decide (bt s i = 63) && decide (bt s (i + 1) = 63) && isThird (bt s (i + 2))
def chB (s : ByteArray) (i : Int) : Int := if triB s i then third (bt s (i + 2)) else bt s i
def chN (s : ByteArray) (i : Int) : Int := if triB s i then 3 else 1
def spl (s : ByteArray) (i : Int) : Bool := decide (chB s i = 92) && decide (i + chN s i < s.size) && decide (bt s (i + chN s i) = 10)
def partP (s : ByteArray) (i : Int) : Part := if spl s i then ⟨0, i, chN s i + 1, true⟩ else ⟨chB s i, i, chN s i, false⟩

set_option maxRecDepth 100000 in
theorem partAt_any (s : ByteArray) (i : Int) (h0 : 0 ≤ i) (h1 : i < s.size) (hs : s.size ≤ 140737488355328) (w : World) :
    Calls Try.prog 157 #[.string s, .int .i64 i] w (PureP w fun v _ => v = (partP s i).val) := by
  refine x_fun tt_ok Try.func157 rfl rfl [] 0 [.v (.string s), .v (.int .i64 i)] rfl rfl rfl rfl (fun b hb => by cases hb) ?_
  refine x_vc tt_ok ?_
  repeat (refine And.intro ?_ ?_; first | omega | (simp <;> omega))
  refine x_if (fun h => ?_) (fun h => ?_)
  · have h' := h
    simp only [Bool.and_eq_true, decide_eq_true_eq] at h
    repeat (refine And.intro ?_ ?_; first | omega | (simp <;> omega))
    refine xl_call0 (.tuple #[.int .u8 (third (bt s (i + 2))), .bool (isThird (bt s (i + 2)))]) rfl rfl rfl rfl fn141 rfl rfl (fun E w F _ => third_any _ w) ?_
    refine xl_go tt_ok ?_
    refine x_if (fun h2 => ?_) (fun h2 => ?_)
    · have ht : triB s i = true := by unfold triB; rw [h', h2]; rfl
      have hc : chB s i = third (bt s (i + 2)) := by simp [chB, ht]
      have hn : chN s i = 3 := by simp [chN, ht]
      repeat (refine And.intro ?_ ?_; first | omega | (simp <;> omega))
      refine x_if (fun h3 => ?_) (fun h3 => ?_)
      · have hs3 : spl s i = true := by unfold spl; rw [hc, hn]; exact h3
        repeat (refine And.intro ?_ ?_; first | omega | (simp <;> omega))
        refine fin1 (fun _ _ => ?_)
        rw [partP, if_pos hs3, hn]; rfl
      · have hs3 : spl s i = false := by unfold spl; rw [hc, hn]; exact h3
        repeat (refine And.intro ?_ ?_; first | omega | (simp <;> omega))
        refine fin1 (fun _ _ => ?_)
        rw [partP, if_neg (by rw [hs3]; simp), hn, hc]; rfl
    · have ht : triB s i = false := by unfold triB; rw [h', h2]; rfl
      have hc : chB s i = bt s i := by simp [chB, ht]
      have hn : chN s i = 1 := by simp [chN, ht]
      repeat (refine And.intro ?_ ?_; first | omega | (simp <;> omega))
      refine x_if (fun h3 => ?_) (fun h3 => ?_)
      · have hs3 : spl s i = true := by unfold spl; rw [hc, hn]; exact h3
        repeat (refine And.intro ?_ ?_; first | omega | (simp <;> omega))
        refine fin1 (fun _ _ => ?_)
        rw [partP, if_pos hs3, hn]; rfl
      · have hs3 : spl s i = false := by unfold spl; rw [hc, hn]; exact h3
        repeat (refine And.intro ?_ ?_; first | omega | (simp <;> omega))
        refine fin1 (fun _ _ => ?_)
        rw [partP, if_neg (by rw [hs3]; simp), hn, hc]; rfl
  · have ht : triB s i = false := by unfold triB; rw [h]; rfl
    have hc : chB s i = bt s i := by simp [chB, ht]
    have hn : chN s i = 1 := by simp [chN, ht]
    repeat (refine And.intro ?_ ?_; first | omega | (simp <;> omega))
    refine x_if (fun h3 => ?_) (fun h3 => ?_)
    · have hs3 : spl s i = true := by unfold spl; rw [hc, hn]; exact h3
      repeat (refine And.intro ?_ ?_; first | omega | (simp <;> omega))
      refine fin1 (fun _ _ => ?_)
      rw [partP, if_pos hs3, hn]; rfl
    · have hs3 : spl s i = false := by unfold spl; rw [hc, hn]; exact h3
      repeat (refine And.intro ?_ ?_; first | omega | (simp <;> omega))
      refine fin1 (fun _ _ => ?_)
      rw [partP, if_neg (by rw [hs3]; simp), hn, hc]; rfl

theorem partP_pos (s : ByteArray) (i : Int) : (partP s i).pos = i := by unfold partP; split <;> rfl
theorem partP_len (s : ByteArray) {i : Int} (h0 : 0 ≤ i) (h1 : i < s.size) : 1 ≤ (partP s i).len ∧ i + (partP s i).len ≤ s.size := by
  have hn : 1 ≤ chN s i ∧ i + chN s i ≤ s.size := by
    unfold chN
    split
    · rename_i h
      unfold triB at h
      simp only [Bool.and_eq_true, decide_eq_true_eq] at h
      omega
    · omega
  unfold partP
  split
  · rename_i h
    unfold spl at h
    simp only [Bool.and_eq_true, decide_eq_true_eq] at h
    exact ⟨by show 1 ≤ chN s i + 1; omega, by show i + (chN s i + 1) ≤ _; omega⟩
  · exact hn

set_option maxRecDepth 100000 in
theorem end_any (p : Part) (w : World) (h0 : 0 ≤ p.pos) (h1 : 0 ≤ p.len) (h2 : p.pos + p.len ≤ 9223372036854775807) :
    Calls Try.prog 155 #[p.val] w (PureP w fun v _ => v = .int .i64 (p.pos + p.len)) := by
  refine x_fun tt_ok Try.func155 rfl rfl [] 0 [.v (.agg #[.int .u8 p.b, .int .i64 p.pos, .int .i64 p.len, .bool p.sp])] rfl rfl rfl rfl (fun b hb => by cases hb) ?_
  refine x_vc tt_ok ?_
  repeat (refine And.intro ?_ ?_; first | omega | (simp <;> omega))
  exact fin1 (fun _ _ => rfl)

def partsF (s : ByteArray) : Nat → Int → List Part
  | 0, _ => []
  | n + 1, i => if i < s.size then partP s i :: partsF s n (i + (partP s i).len) else []
def partsV (s : ByteArray) : List Part := partsF s s.size 0

theorem partsF_step (s : ByteArray) {n : Nat} {i : Int} (h : i < s.size) (hn : s.size - i ≤ n) (h0 : 0 ≤ i) : ∃ m, partsF s n i = partP s i :: partsF s m (i + (partP s i).len) ∧ s.size - (i + (partP s i).len) ≤ m := by
  cases n with
  | zero => omega
  | succ m =>
    refine ⟨m, by simp only [partsF]; rw [if_pos h], ?_⟩
    have := (partP_len s h0 h).1
    omega

theorem partsF_end (s : ByteArray) {n : Nat} {i : Int} (h : ¬ i < s.size) : partsF s n i = [] := by
  cases n with
  | zero => rfl
  | succ m => simp only [partsF]; rw [if_neg h]

def yieldV (l : Nat) : Value := .func (.yield l) #[] #[]

set_option maxRecDepth 100000 in
theorem parts_iter (s : ByteArray) (b : Nat) (u0 : Im) (hb : u0.h b = some (.cells #[.string s] 9 (0, 0))) (hs : s.size ≤ 140737488355328) :
    Iter Try.prog 156 #[.pointer (some ⟨b, 0, none⟩)] ((partsV s).map Part.val) u0 := by
  refine x_iter tt_ok Try.func156 rfl rfl [(.slice (some ⟨b, 0, none⟩) 1 1, ⟨1, [fun _ => .string s]⟩)] [.e 1 1 0 0] (boxEnv b) (fun j x hj => ?_) rfl rfl (fun x hx => ?_) (fun x hx => ?_) (fun l Y Z u hu hR => ?_)
  · match j, hj with
    | 0, hj => cases hj; rfl
    | j + 1, hj => simp at hj
  · simp only [List.mem_singleton] at hx
    subst hx
    exact ⟨by simp, _, 1, 1, rfl, Int.le_refl _, by omega⟩
  · simp only [List.mem_singleton] at hx
    subst hx
    exact SlAt.box1 hb
  refine x_vc tt_ok ?_
  refine x_loop (σ := Nat × Int) (fun (k, i) => ⟨[(3, .v (.int .i64 i)), (0, .v (.func (.yield l) #[] #[])), (1, .e 1 1 0 0)], [], [(0, .gen (Y k).hp), (1, .sl ⟨1, [fun _ => .string s]⟩)], 2⟩)
    (fun (k, i) _ => 0 ≤ i ∧ i ≤ s.size ∧ ∃ n pre, pre.length = k ∧ partsV s = pre ++ partsF s n i ∧ s.size - i ≤ n) (fun (_, i) => (s.size - i).toNat) (fun (_, _) => Nat.le_refl _) (0, 0) [] (.of rfl rfl rfl rfl rfl rfl)
    ⟨by omega, by omega, s.size, [], rfl, rfl, by omega⟩ ?_
  rintro ⟨k, i⟩ u2 hu2 ⟨g1, g2, n, pre, g3, g4, g5⟩
  refine x_vc tt_ok ?_
  repeat (refine And.intro ?_ ?_; first | omega | (simp <;> omega))
  refine x_if (fun h => ?_) (fun h => ?_)
  · have h2 : i < s.size := of_decide_eq_true h
    obtain ⟨hl1, hl2⟩ := partP_len s g1 h2
    obtain ⟨m, e1, e2⟩ := partsF_step s h2 g5 g1
    have hx : ((partsV s).map Part.val)[k]? = some (partP s i).val := by
      rw [List.getElem?_map, g4, e1, List.getElem?_append_right (by omega), g3, Nat.sub_self]; rfl
    refine xl_call0 (partP s i).val rfl rfl rfl rfl fn157 rfl rfl (fun E w F _ => partAt_any s i g1 h2 hs w) ?_
    refine xl_go tt_ok ?_
    refine xl_yield (kY := 0) rfl hR rfl rfl rfl rfl rfl rfl rfl rfl hx ?_ ?_
    · refine xl_go tt_ok ?_
      refine x_iff rfl ?_
      repeat (refine And.intro ?_ ?_; first | omega | (simp <;> omega))
      refine xl_call0 (.int .i64 ((partP s i).pos + (partP s i).len)) rfl rfl rfl rfl fn155 rfl rfl (fun E w F _ => end_any (partP s i) w (by rw [partP_pos]; omega) (by omega) (by rw [partP_pos]; omega)) ?_
      refine xl_go tt_ok ?_
      rw [partP_pos]
      refine again (k + 1, i + (partP s i).len) [] (.of rfl rfl rfl rfl rfl rfl) ⟨by omega, by omega, m, pre ++ [partP s i], by rw [List.length_append, g3]; rfl, by rw [g4, e1]; simp, e2⟩ (by simp only; omega)
    · refine xl_go tt_ok ?_
      refine x_ift rfl ?_
      exact .inr rfl
  · have h2 : ¬ i < s.size := of_decide_eq_false h
    rw [partsF_end s h2, List.append_nil] at g4
    have hk : ((partsV s).map Part.val).length = k := by rw [List.length_map, g4, g3]
    exact .inl (by rw [hk]; rfl)
end Go.Proofs.Ytdonomneofdhfaa
