/- The document's tokens: punctuators. -/
import Derived.Test.YtdonomneofdhfaaE9
namespace Go.Proofs.Ytdonomneofdhfaa
open Go.GV Go.RowKit

set_option maxRecDepth 100000 in
def punT : ByteArray := ⟨#[32, 91, 32, 93, 32, 40, 32, 41, 32, 123, 32, 125, 32, 46, 32, 45, 62, 32, 43, 43, 32, 45, 45, 32, 38, 32, 42, 32, 43, 32, 45, 32, 126, 32, 33, 32, 47, 32, 37, 32, 60, 60, 32, 62, 62, 32, 60, 32, 62, 32, 60, 61, 32, 62, 61, 32, 61, 61, 32, 33, 61, 32, 94, 32, 124, 32, 38, 38, 32, 124, 124, 32, 63, 32, 58, 32, 59, 32, 46, 46, 46, 32, 61, 32, 42, 61, 32, 47, 61, 32, 37, 61, 32, 43, 61, 32, 45, 61, 32, 60, 60, 61, 32, 62, 62, 61, 32, 38, 61, 32, 94, 61, 32, 124, 61, 32, 44, 32, 35, 32, 35, 35, 32, 60, 58, 32, 58, 62, 32, 60, 37, 32, 37, 62, 32, 37, 58, 32, 37, 58, 37, 58, 32]⟩
set_option maxRecDepth 100000 in
def punI : Lx.Bs := [32, 91, 32, 93, 32, 40, 32, 41, 32, 123, 32, 125, 32, 46, 32, 45, 62, 32, 43, 43, 32, 45, 45, 32, 38, 32, 42, 32, 43, 32, 45, 32, 126, 32, 33, 32, 47, 32, 37, 32, 60, 60, 32, 62, 62, 32, 60, 32, 62, 32, 60, 61, 32, 62, 61, 32, 61, 61, 32, 33, 61, 32, 94, 32, 124, 32, 38, 38, 32, 124, 124, 32, 63, 32, 58, 32, 59, 32, 46, 46, 46, 32, 61, 32, 42, 61, 32, 47, 61, 32, 37, 61, 32, 43, 61, 32, 45, 61, 32, 60, 60, 61, 32, 62, 62, 61, 32, 38, 61, 32, 94, 61, 32, 124, 61, 32, 44, 32, 35, 32, 35, 35, 32, 60, 58, 32, 58, 62, 32, 60, 37, 32, 37, 62, 32, 37, 58, 32, 37, 58, 37, 58, 32]
set_option maxRecDepth 100000 in
theorem punI_eq : bl punT = punI := by kernel_rfl
set_option maxRecDepth 100000 in
theorem punT_size : punT.size = 143 := rfl

def winB (t : Lx.Bs) (j : Nat) : Bool := decide ((punI.drop j).take (t.length + 2) = 32 :: t ++ [32])
def midB (n j : Nat) : Lx.Bs := (punI.drop (j + 1)).take n
theorem win_there : (Lx.punS.all fun t => (List.range (144 - (t.length + 2))).any fun j => winB t j) = true := by kernel_rfl
theorem win_only : ((List.range 144).all fun j => [1, 2, 3, 4].all fun n => !(decide ((punI.drop j).take (n + 2) = 32 :: midB n j ++ [32]) && (midB n j).all fun c => !decide (c = 32)) || Lx.isPun (midB n j)) = true := by kernel_rfl

theorem isPun_win {t : Lx.Bs} (h1 : 1 ≤ t.length) (h4 : t.length ≤ 4) (hb : ∀ c ∈ t, c ≠ 32) : Lx.isPun t = true ↔ ∃ j, j + (t.length + 2) ≤ 143 ∧ (punI.drop j).take (t.length + 2) = 32 :: t ++ [32] := by
  constructor
  · intro h
    have := List.all_eq_true.1 win_there t (Lx.isPun_mem.1 h)
    obtain ⟨j, hj, hw⟩ := List.any_eq_true.1 this
    exact ⟨j, by have := List.mem_range.1 hj; omega, of_decide_eq_true hw⟩
  · rintro ⟨j, hj, hw⟩
    have h := List.all_eq_true.1 (List.all_eq_true.1 win_only j (List.mem_range.2 (by omega))) t.length (by simp; omega)
    have hm : midB t.length j = t := by
      unfold midB
      have e := congrArg (fun l => (l.drop 1).take t.length) hw
      simp only [List.cons_append, List.drop_one, List.tail_cons, List.take_left'] at e
      rw [← List.drop_one, List.drop_take, List.drop_drop, List.take_take] at e
      rw [show min t.length (t.length + 2 - 1) = t.length by omega] at e
      exact e
    rw [hm, decide_eq_true hw] at h
    have ha : (t.all fun c => !decide (c = 32)) = true := by
      rw [List.all_eq_true]; intro c hc; simp [hb c hc]
    rw [ha] at h
    simpa using h

theorem isPun_len {t : Lx.Bs} (h : Lx.isPun t = true) : 1 ≤ t.length ∧ t.length ≤ 4 := (Lx.pun_facts t (Lx.isPun_mem.1 h)).1
theorem isPun_32 {t : Lx.Bs} (h : Lx.isPun t = true) : ∀ c ∈ t, c ≠ 32 := by
  intro c hc h2
  have := List.all_eq_true.1 (Lx.pun_facts t (Lx.isPun_mem.1 h)).2.1 c hc
  subst h2
  simp [Lx.noPun, Lx.white] at this

theorem isPun_sub (s : ByteArray) (h1 : 1 ≤ s.size) (h4 : s.size ≤ 4) (hb : ∀ c ∈ bl s, c ≠ 32) : Lx.isPun (bl s) = true ↔
    ∃ j : Int, 0 ≤ j ∧ j + ((⟨#[32]⟩ ++ s ++ ⟨#[32]⟩ : ByteArray).size : Int) ≤ 143 ∧ sub punT j (j + ((⟨#[32]⟩ ++ s ++ ⟨#[32]⟩ : ByteArray).size : Int)) = ⟨#[32]⟩ ++ s ++ ⟨#[32]⟩ := by
  have hq : bl (⟨#[32]⟩ ++ s ++ ⟨#[32]⟩) = 32 :: bl s ++ [32] := by rw [bl_append, bl_append]; rfl
  have hqs : ((⟨#[32]⟩ ++ s ++ ⟨#[32]⟩ : ByteArray).size : Int) = s.size + 2 := by
    have := congrArg List.length hq
    rw [bl_len] at this
    simp only [List.length_append, List.length_cons, List.length_nil, bl_len] at this
    omega
  rw [isPun_win (by rw [bl_len]; exact h1) (by rw [bl_len]; exact h4) hb, hqs, bl_len]
  have key : ∀ j : Nat, j + (s.size + 2) ≤ 143 → (bl (sub punT (j : Int) ((j : Int) + ((s.size : Int) + 2))) = (punI.drop j).take (s.size + 2)) := by
    intro j hj
    rw [bl_sub punT (by omega) (by omega) (by rw [punT_size]; omega), tl, punI_eq]
    congr 1; omega
  constructor
  · rintro ⟨j, hj, hw⟩
    refine ⟨j, by omega, by omega, bl_inj ?_⟩
    rw [key j hj, hw, hq]
  · rintro ⟨j, h0, hj, hw⟩
    refine ⟨j.toNat, by omega, ?_⟩
    have e : ((j.toNat : Nat) : Int) = j := by omega
    rw [← key j.toNat (by omega), e, hw, hq]

set_option maxRecDepth 100000 in
theorem isPunct_any (s : ByteArray) (hz : s.size ≤ 140737488355000) (w : World) : Calls Try.prog 173 #[.string s] w (PureP w fun v _ => v = .bool (Lx.isPun (bl s))) := by
  have hqs : ((⟨#[32]⟩ ++ s ++ ⟨#[32]⟩ : ByteArray).size : Int) = s.size + 2 := by
    rw [ByteArray.size_append, ByteArray.size_append]
    show (((1 + s.size + 1 : Nat)) : Int) = _
    omega
  have hP := isPun_sub s
  obtain ⟨N, hN⟩ : ∃ N, N = Lx.isPun (bl s) := ⟨_, rfl⟩
  have hlen : N = true → 1 ≤ s.size ∧ s.size ≤ 4 := fun h => by rw [← bl_len]; exact isPun_len (hN ▸ h)
  have h32 : N = true → ∀ c ∈ bl s, c ≠ 32 := fun h => isPun_32 (hN ▸ h)
  rw [← hN] at hP ⊢
  clear hN
  have hF : (¬ N = true) → N = false := fun h => by simpa using h
  refine x_fun tt_ok Try.func173 rfl rfl [] 0 [.v (.string s)] rfl rfl rfl rfl (fun b hb => by cases hb) ?_
  refine x_vc tt_ok ?_
  refine And.intro (by show 1 + s.size ≤ _; omega) ?_
  refine And.intro (by rw [ByteArray.size_append]; show 1 + s.size + 1 ≤ _; omega) ?_
  refine x_if (fun h => ?_) (fun h => ?_)
  · have h' : (decide ((s.size : Int) = 0) || decide ((4 : Int) < s.size)) = true := h
    have e : N = false := hF (fun hn => by
      have := hlen hn
      rw [decide_eq_false (by omega), decide_eq_false (by omega)] at h'; cases h')
    rw [e]
    exact fin1 (fun _ _ => rfl)
  · have h' : (decide ((s.size : Int) = 0) || decide ((4 : Int) < s.size)) = false := h
    obtain ⟨q1, q2⟩ := Bool.or_eq_false_iff.1 h'
    have q1 := of_decide_eq_false q1
    have q2 := of_decide_eq_false q2
    clear h h'
    generalize hq : (⟨#[32]⟩ ++ s ++ ⟨#[32]⟩ : ByteArray) = q at hqs hP ⊢
    refine x_loop (σ := Int) (fun k => ⟨[(4, .v (.int .i64 k)), (3, .v (.string q)), (0, .v (.string s))], [], [], 0⟩)
      (fun k _ => 0 ≤ k ∧ k ≤ s.size ∧ ((∀ c ∈ tl s k, c ≠ 32) → ∀ c ∈ bl s, c ≠ 32)) (fun k => (s.size - k).toNat) (fun _ => Nat.le_refl _) 0 [] (.of rfl rfl rfl rfl rfl rfl)
      ⟨by omega, by omega, fun h => h⟩ ?_
    rintro k u hu ⟨g1, g2, g3⟩
    refine x_vc tt_ok ?_
    refine x_if (fun h => ?_) (fun h => ?_)
    · have h2 : k < s.size := of_decide_eq_true h
      repeat (refine And.intro ?_ ?_; first | omega | (simp only [Lay.d_n]; omega) | (simp only [decide_eq_true_eq, decide_eq_false_iff_not, Bool.or_eq_false_iff, Bool.and_eq_true, Bool.or_eq_true, Bool.and_eq_false_iff, Bool.not_eq_true', Bool.not_eq_false', Lay.d_n]; omega) | (simp only [decide_eq_true_eq, decide_eq_false_iff_not, Bool.or_eq_false_iff, Bool.and_eq_true, Bool.or_eq_true, Bool.and_eq_false_iff, Bool.not_eq_true', Bool.not_eq_false']; omega))
      refine x_if (fun h3 => ?_) (fun h3 => ?_)
      · have e : N = false := hF (fun hn => by
          refine h32 hn (bt s k) ?_ (of_decide_eq_true h3)
          have := bl_get s (n := k.toNat) (by omega)
          rw [show ((k.toNat : Nat) : Int) = k by omega] at this
          exact List.mem_of_getElem? this)
        rw [e]
        exact fin1 (fun _ _ => rfl)
      · repeat (refine And.intro ?_ ?_; first | omega | (simp only [Lay.d_n]; omega) | (simp only [decide_eq_true_eq, decide_eq_false_iff_not, Bool.or_eq_false_iff, Bool.and_eq_true, Bool.or_eq_true, Bool.and_eq_false_iff, Bool.not_eq_true', Bool.not_eq_false', Lay.d_n]; omega) | (simp only [decide_eq_true_eq, decide_eq_false_iff_not, Bool.or_eq_false_iff, Bool.and_eq_true, Bool.or_eq_true, Bool.and_eq_false_iff, Bool.not_eq_true', Bool.not_eq_false']; omega))
        refine again (k + 1) [] (.of rfl rfl rfl rfl rfl rfl) ⟨by omega, by omega, fun hc => g3 (fun c hc2 => ?_)⟩ (by omega)
        rw [tl_cons g1 h2] at hc2
        rcases List.mem_cons.1 hc2 with rfl | hc2
        · exact of_decide_eq_false h3
        · exact hc c hc2
    · have h2 : ¬ k < (s.size : Int) := of_decide_eq_false h
      have hb : ∀ c ∈ bl s, c ≠ 32 := g3 (by rw [tl_nil (by omega)]; intro c hc; cases hc)
      have hP := hP (by omega) (by omega) hb
      clear g3 h32 hlen hb
      refine x_loop (σ := Int) (fun k => ⟨[(5, .v (.int .i64 k)), (3, .v (.string q))], [], [], 0⟩)
        (fun k _ => 0 ≤ k ∧ k ≤ 143 ∧ (N = true ↔ ∃ j : Int, k ≤ j ∧ j + (q.size : Int) ≤ 143 ∧ sub punT j (j + (q.size : Int)) = q)) (fun k => (143 - k).toNat) (fun _ => Nat.le_refl _) 0 [] (.of rfl rfl rfl rfl rfl rfl)
        ⟨by omega, by omega, hP⟩ ?_
      rintro k u2 hu2 ⟨g1, g2, g3⟩
      refine x_vc tt_ok ?_
      repeat (refine And.intro ?_ ?_; first | omega | (simp only [Lay.d_n]; omega) | (simp only [decide_eq_true_eq, decide_eq_false_iff_not, Bool.or_eq_false_iff, Bool.and_eq_true, Bool.or_eq_true, Bool.and_eq_false_iff, Bool.not_eq_true', Bool.not_eq_false', Lay.d_n]; omega) | (simp only [decide_eq_true_eq, decide_eq_false_iff_not, Bool.or_eq_false_iff, Bool.and_eq_true, Bool.or_eq_true, Bool.and_eq_false_iff, Bool.not_eq_true', Bool.not_eq_false']; omega))
      refine x_if (fun h3 => ?_) (fun h3 => ?_)
      · have h3 : k + (q.size : Int) ≤ 143 := of_decide_eq_true h3
        repeat (refine And.intro ?_ ?_; first | omega | (show k + (q.size : Int) ≤ ((143 : Nat) : Int); omega))
        refine x_if (fun h4 => ?_) (fun h4 => ?_)
        · have h5 : sub punT k (k + (q.size : Int)) = q := of_decide_eq_true h4
          rw [g3.2 ⟨k, Int.le_refl _, h3, h5⟩]
          exact fin1 (fun _ _ => rfl)
        · have h5 : ¬ sub punT k (k + (q.size : Int)) = q := of_decide_eq_false h4
          repeat (refine And.intro ?_ ?_; first | omega | (simp only [Lay.d_n]; omega) | (simp only [decide_eq_true_eq, decide_eq_false_iff_not, Bool.or_eq_false_iff, Bool.and_eq_true, Bool.or_eq_true, Bool.and_eq_false_iff, Bool.not_eq_true', Bool.not_eq_false', Lay.d_n]; omega) | (simp only [decide_eq_true_eq, decide_eq_false_iff_not, Bool.or_eq_false_iff, Bool.and_eq_true, Bool.or_eq_true, Bool.and_eq_false_iff, Bool.not_eq_true', Bool.not_eq_false']; omega))
          refine again (k + 1) [] (.of rfl rfl rfl rfl rfl rfl) ⟨by omega, by omega, g3.trans ⟨?_, ?_⟩⟩ (by omega)
          · rintro ⟨j, j1, j2, j3⟩
            refine ⟨j, ?_, j2, j3⟩
            rcases Int.lt_or_eq_of_le j1 with h6 | h6
            · omega
            · subst h6; exact absurd j3 h5
          · rintro ⟨j, j1, j2, j3⟩
            exact ⟨j, by omega, j2, j3⟩
      · have h3 : ¬ k + (q.size : Int) ≤ 143 := of_decide_eq_false h3
        have e : N = false := hF (fun hn => by
          obtain ⟨j, j1, j2, j3⟩ := g3.1 hn
          omega)
        rw [e]
        exact fin1 (fun _ _ => rfl)
end Go.Proofs.Ytdonomneofdhfaa
