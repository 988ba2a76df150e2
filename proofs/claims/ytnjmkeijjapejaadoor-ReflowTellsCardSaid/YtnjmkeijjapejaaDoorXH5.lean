/- The statement of ReflowTells, out of its walk: for any input the law answers true, and the input stays. -/
import Derived.Test.YtnjmkeijjapejaaDoorXH4
import Derived.Test.YtnjmkeijjapejaaDoorCards
import Derived.ProofKit
import Derived.OpenShut
import Derived.ShutString
import Derived.ChangeOld
import Derived.Below
import Derived.SizedLaws
import Derived.HandedShaped
import Derived.Handed
import Derived.Lay
import Derived.LaidLaws
import Derived.LaidMore
import Derived.Test.YtnjmkeijjapejaaDoorRows
import Derived.Test.YtnjmkeijjapejaaDoorTie
import Derived.SevenTiedAt
set_option linter.unusedSimpArgs false
set_option linter.unusedVariables false
namespace Go.Proofs.YtnjmkeijjapejaaDoor
open Go.GV Go.RowKit
def ParAt (u : Im) (x : Value) (R : Par) : Prop := ∃ V : List SlV, V.length = R.length ∧ SlAt u x (slY.d V) ∧ ∀ (i : Nat) p, R[i]? = some p → SlAt u (V.getD i ⟨none, 0, 0⟩).val (strY.d p)
theorem takeP_next {A B : Par} {i : Nat} {x y : List ByteArray} (h : A.take i = B.take i) (ha : A[i]? = some x) (hb : B[i]? = some y) (e : x = y) : A.take (i + 1) = B.take (i + 1) := by
  rw [take_get ha, take_get hb, h, e]
set_option maxRecDepth 100000 in
theorem same_any (A B : Par) (x y : Value) (w : World) (hx : ParAt (im w) x A) (hy : ParAt (im w) y B) :
    Calls Tryd.prog 22 #[x, y] w (PureP w fun v _ => v = .bool (decide (A = B))) := by
  obtain ⟨VA, a1, a2, a3⟩ := hx
  obtain ⟨VB, b1, b2, b3⟩ := hy
  have hAl : ((VA.length : Nat) : Int) ≤ 9223372036854775807 := by
    obtain ⟨_, c, _, h1, h2, _⟩ := a2
    have : (slY.d VA).n ≤ maxLen := Nat.le_trans h1 h2
    rw [Lay.d_n] at this
    simp only [maxLen] at this; omega
  refine x_fun tt_ok Tryd.func22 rfl rfl [(x, slY.d VA), (y, slY.d VB)] 2 [.r 0, .r 1] rfl rfl rfl rfl (fun b hb => ?_) ?_
  · simp only [List.mem_cons, List.mem_nil_iff, or_false] at hb
    rcases hb with rfl | rfl
    · exact a2
    · exact b2
  refine x_vc tt_ok ?_
  refine x_if (fun h => ?_) (fun h => ?_)
  · have h : ((VA.length : Nat) : Int) ≠ VB.length := of_decide_eq_true h
    exact fin1 (fun _ _ => by rw [decide_eq_false (fun e => h (by rw [a1, b1, e]))]; rfl)
  · have h : VA.length = VB.length := by have := of_decide_eq_false h; simp only [ne_eq, Decidable.not_not] at this; exact_mod_cast this
    refine x_loop (σ := Nat) (fun i => ⟨[(5, .v (.int .i64 (i : Int))), (0, .r 0), (1, .r 1)], [], [(0, .sl (slY.d VA)), (1, .sl (slY.d VB))], 2⟩)
      (fun i _ => i ≤ VA.length ∧ A.take i = B.take i) (fun i => VA.length - i) (fun _ => Nat.le_refl _) 0 [] (.of rfl rfl rfl rfl rfl rfl) ⟨Nat.zero_le _, rfl⟩ ?_
    rintro i u2 hu2 ⟨g1, g2⟩
    refine x_vc tt_ok ?_
    refine x_if (fun h2 => ?_) (fun h2 => ?_)
    · have h2 : ((i : Nat) : Int) < VA.length := of_decide_eq_true h2
      have hB : ((i : Nat) : Int) < VB.length := by rw [← h]; exact h2
      obtain ⟨p, hp⟩ : ∃ p, A[i]? = some p := ⟨_, List.getElem?_eq_getElem (by omega)⟩
      obtain ⟨q, hq⟩ : ∃ q, B[i]? = some q := ⟨_, List.getElem?_eq_getElem (by omega)⟩
      have hp2 := a3 i p hp
      have hq2 := b3 i q hq
      refine x_draw mix (by kernel_rfl) (xd_go tt_ok ?_)
      repeat (refine And.intro ?_ ?_; first | omega | (simp only [Lay.d_n]; omega) | (simp only [decide_eq_true_eq, decide_eq_false_iff_not, Bool.or_eq_false_iff, Bool.and_eq_true, Bool.or_eq_true, Bool.and_eq_false_iff, Bool.not_eq_true', Bool.not_eq_false', Lay.d_n]; omega) | (simp only [decide_eq_true_eq, decide_eq_false_iff_not, Bool.or_eq_false_iff, Bool.and_eq_true, Bool.or_eq_true, Bool.and_eq_false_iff, Bool.not_eq_true', Bool.not_eq_false']; omega) | (simp only [decide_eq_true_eq, decide_eq_false_iff_not, Bool.or_eq_false_iff]; simp only [Lay.d_n]; omega))
      refine xd_call0 (.bool (decide (p = q))) rfl rfl rfl rfl fn18 rfl rfl (fun _ E w' F hs => sameTexts_any p q _ _ w' ((hp2.le hu2).imm hs.imm) ((hq2.le hu2).imm hs.imm)) ?_
      refine xd_go tt_ok ?_
      refine x_if (fun h3 => ?_) (fun h3 => ?_)
      · have h3 : (!decide (p = q)) = true := h3
        simp only [Bool.not_eq_true', decide_eq_false_iff_not] at h3
        exact fin1 (fun _ _ => by rw [decide_eq_false (fun e => h3 (by rw [e, hq] at hp; exact (Option.some.inj hp).symm))]; rfl)
      · have h3 : (!decide (p = q)) = false := h3
        simp only [Bool.not_eq_false', decide_eq_true_eq] at h3
        repeat (refine And.intro ?_ ?_; first | omega | (simp only [Lay.d_n]; omega) | (simp only [decide_eq_true_eq, decide_eq_false_iff_not, Bool.or_eq_false_iff, Bool.and_eq_true, Bool.or_eq_true, Bool.and_eq_false_iff, Bool.not_eq_true', Bool.not_eq_false', Lay.d_n]; omega) | (simp only [decide_eq_true_eq, decide_eq_false_iff_not, Bool.or_eq_false_iff, Bool.and_eq_true, Bool.or_eq_true, Bool.and_eq_false_iff, Bool.not_eq_true', Bool.not_eq_false']; omega) | (simp only [decide_eq_true_eq, decide_eq_false_iff_not, Bool.or_eq_false_iff]; simp only [Lay.d_n]; omega))
        exact again (i + 1) [] (.of rfl rfl rfl rfl rfl rfl) ⟨by omega, takeP_next g2 hp hq h3⟩ (by omega)
    · have h2 : ¬ ((i : Nat) : Int) < VA.length := of_decide_eq_false h2
      have e : A = B := by rw [List.take_of_length_le (by omega), List.take_of_length_le (by omega)] at g2; exact g2
      exact fin1 (fun _ _ => by rw [decide_eq_true e]; rfl)
end Go.Proofs.YtnjmkeijjapejaaDoor
namespace Go.Proofs.YtnjmkeijjapejaaDoor
open Go.GV Go.RowKit
theorem dropWhile_drop {l : List Int} : l.dropWhile whB = l.drop (l.takeWhile whB).length := by
  induction l with
  | nil => rfl
  | cons c r ih =>
    rw [List.dropWhile_cons, List.takeWhile_cons]
    split
    · rw [List.length_cons, List.drop_succ_cons]; exact ih
    · rfl
theorem bl_trim (s : ByteArray) : bl (trimP s) = (bl s).dropWhile whB := by
  have hle : leadN s 0 ≤ s.size := by
    unfold leadN
    have := (List.takeWhile_sublist whB (l := (bl s).drop 0)).length_le
    rw [List.length_drop, bl_len] at this
    omega
  rw [trimP_eq, bl_rest s (by omega) (by omega), dropWhile_drop]
  unfold tl leadN
  rw [Int.toNat_natCast, Nat.zero_add, List.drop_zero]
theorem bl_cons {s : ByteArray} (h : 0 < s.size) : bl s = bt s 0 :: bl (sub s 1 s.size) := by
  rw [bl_rest s (by decide) (by omega)]
  unfold tl
  have h1 := drop_get (bl_get s (n := 0) h)
  rw [List.drop_zero] at h1
  exact h1
theorem trim_white {s : ByteArray} (h : 0 < s.size) (hw : whB (bt s 0) = true) : trimP s = trimP (sub s 1 s.size) := by
  refine bl_inj ?_
  rw [bl_trim, bl_trim, bl_cons h, List.dropWhile_cons, if_pos hw]
theorem trim_done {s : ByteArray} (h : s.size = 0 ∨ whB (bt s 0) = false) : trimP s = s := by
  refine bl_inj ?_
  rw [bl_trim]
  rcases Nat.eq_zero_or_pos s.size with h0 | h0
  · have e : bl s = [] := List.eq_nil_of_length_eq_zero (by rw [bl_len]; exact h0)
    rw [e]; rfl
  · rcases h with h | h
    · omega
    · rw [bl_cons h0, List.dropWhile_cons, if_neg (by rw [h]; decide)]
def starD (s : ByteArray) : Bool := (decide ((0 : Int) < s.size) && decide (bt s 0 = 42)) && (decide ((s.size : Int) = 1) || whB (bt s 1))
theorem starD_eq (s : ByteArray) : starD s = starC s := by
  have hone : s = ⟨#[42]⟩ ↔ s.size = 1 ∧ bt s 0 = 42 := by
    constructor
    · intro h; subst h; exact ⟨rfl, rfl⟩
    · rintro ⟨h1, h2⟩
      refine bl_inj ?_
      have e : bl (sub s 1 s.size) = [] := List.eq_nil_of_length_eq_zero (by
        have := sub_size (s := s) (a := 1) (b := s.size) (by decide) (by omega) (Int.le_refl _)
        rw [bl_len]; omega)
      rw [bl_cons (by omega), h2, e]; rfl
  rw [Bool.eq_iff_iff]
  simp only [starD, starC, Bool.and_eq_true, Bool.or_eq_true, decide_eq_true_eq, hone]
  constructor
  · rintro ⟨⟨h1, h2⟩, h3 | h3⟩
    · exact .inl ⟨by omega, h2⟩
    · by_cases h4 : s.size = 1
      · exact .inl ⟨h4, h2⟩
      · exact .inr ⟨⟨by omega, h2⟩, h3⟩
  · rintro (⟨h1, h2⟩ | ⟨⟨h1, h2⟩, h3⟩)
    · exact ⟨⟨by omega, h2⟩, .inl (by omega)⟩
    · exact ⟨⟨by omega, h2⟩, .inr h3⟩
end Go.Proofs.YtnjmkeijjapejaaDoor
namespace Go.Proofs.YtnjmkeijjapejaaDoor
open Go.GV Go.RowKit
set_option maxHeartbeats 1000000 in
set_option maxRecDepth 100000 in
theorem docWords_any (s : ByteArray) (w : World) (hb : blockP s = true) (hs : s.size ≤ 5000) :
    Calls Tryd.prog 20 #[.string s] w (PureP w (ParsR (parP (insP s).1))) := by
  obtain ⟨_, _, h4⟩ := blockP_form hb
  have hin : (insP s).1 = sub s 2 (s.size - 2) := by rw [insP, if_pos hb]
  have hin5 : (insP s).1.size ≤ 5000 := by rw [hin]; exact Nat.le_trans (sub_leP _ _ _) hs
  have hsp := splitP_le (insP s).1
  have hrow : ∀ i ln, (splitP (insP s).1)[i]? = some ln → (wsOf (insP s).1)[i]? = some (wordsP (lineP i ln)) ∧ (lineP i ln).size ≤ 5000 ∧ ln.size ≤ 5000 := fun i ln h => by
    have h1 : (linesP (insP s).1)[i]? = some (lineP i ln) := by rw [linesP, List.getElem?_mapIdx, h]; rfl
    refine ⟨by rw [wsOf, List.getElem?_map, h1]; rfl, Nat.le_trans (linesP_mem _ _ (List.mem_of_getElem? h1)) hin5, Nat.le_trans (splitB_mem nlB 0 _ _ ln (List.mem_of_getElem? h)) hin5⟩
  refine x_fun tt_ok Tryd.func20 rfl rfl [] 0 [.v (.string s)] rfl rfl rfl rfl (fun b hb => by cases hb) ?_
  refine x_vc tt_ok ?_
  repeat (refine And.intro ?_ ?_; first | omega | (simp only [Lay.d_n]; omega) | (simp only [decide_eq_true_eq, decide_eq_false_iff_not, Bool.or_eq_false_iff, Bool.and_eq_true, Bool.or_eq_true, Bool.and_eq_false_iff, Bool.not_eq_true', Bool.not_eq_false', Lay.d_n]; omega) | (simp only [decide_eq_true_eq, decide_eq_false_iff_not, Bool.or_eq_false_iff, Bool.and_eq_true, Bool.or_eq_true, Bool.and_eq_false_iff, Bool.not_eq_true', Bool.not_eq_false']; omega) | (simp only [decide_eq_true_eq, decide_eq_false_iff_not, Bool.or_eq_false_iff]; simp only [Lay.d_n]; omega))
  refine xl_callO 9 (strY.d (splitP (insP s).1)) rfl rfl rfl rfl fn40 rfl rfl (fun E w F _ => by
    have := dlines_any (sub s 2 (s.size - 2)) w (by rw [← hin]; omega)
    rw [dlines_eq, ← hin] at this
    rw [← hin]
    exact this) ?_
  refine xl_go tt_ok ?_
  refine x_nil 4 23 slY rfl ?_
  refine x_nil 5 9 strY rfl ?_
  refine x_star0 0 ?_
  refine x_loop (σ := Nat × List SlV × Par × List ByteArray) (fun (i, V, out, now) => ⟨[(6, .v (.int .i64 (i : Int))), (3, .r 0), (4, .r 4), (5, .r 5)], [],
      [(0, .row 9 (strY.d (splitP (insP s).1))), (4, .row 23 (slY.d V)), (5, .row 9 (strY.d now)), (3, .gen (starHp (itemsP V out)))], 6⟩)
    (fun (i, V, out, now) _ => i ≤ (splitP (insP s).1).length ∧ V.length = out.length ∧ ((wsOf (insP s).1).take i).foldl docStep ([], []) = (out, now) ∧ now.length ≤ i * 5001 ∧ out.length ≤ i) (fun (i, _, _, _) => (splitP (insP s).1).length - i) (fun _ => of_decide_eq_true rfl) (0, [], [], []) [(4, some 1), (5, some 2)] (.of rfl rfl rfl rfl rfl rfl)
    ⟨Nat.zero_le _, rfl, rfl, Nat.le_refl _, Nat.le_refl _⟩ ?_
  rintro ⟨i, V, out, now⟩ u2 hu2 ⟨g1, g2, g3, g4, g5⟩
  refine x_vc tt_ok ?_
  refine x_if (fun h => ?_) (fun h => ?_)
  · have h : (i : Int) < (splitP (insP s).1).length := of_decide_eq_true h
    obtain ⟨ln, hln⟩ : ∃ ln, (splitP (insP s).1)[i]? = some ln := ⟨_, List.getElem?_eq_getElem (by omega)⟩
    obtain ⟨hk, hln5, hln6⟩ := hrow i ln hln
    have hlnd : (splitP (insP s).1).getD ((i : Nat) : Int).toNat strY.dft = ln := by rw [Int.toNat_natCast]; exact getD_ofP hln
    repeat (refine And.intro ?_ ?_; first | omega | (simp only [Lay.d_n]; omega) | (simp only [decide_eq_true_eq, decide_eq_false_iff_not, Bool.or_eq_false_iff, Bool.and_eq_true, Bool.or_eq_true, Bool.and_eq_false_iff, Bool.not_eq_true', Bool.not_eq_false', Lay.d_n]; omega) | (simp only [decide_eq_true_eq, decide_eq_false_iff_not, Bool.or_eq_false_iff, Bool.and_eq_true, Bool.or_eq_true, Bool.and_eq_false_iff, Bool.not_eq_true', Bool.not_eq_false']; omega) | (simp only [decide_eq_true_eq, decide_eq_false_iff_not, Bool.or_eq_false_iff]; simp only [Lay.d_n]; omega))
    refine x_loop (σ := ByteArray) (fun z => ⟨[(7, .v (.string z)), (6, .v (.int .i64 (i : Int))), (3, .r 0), (4, .r 4), (5, .r 5)], [],
        [(0, .row 9 (strY.d (splitP (insP s).1))), (4, .row 23 (slY.d V)), (5, .row 9 (strY.d now)), (3, .gen (starHp (itemsP V out)))], 6⟩)
      (fun z _ => z.size ≤ 5000 ∧ (i = 0 → z = ln) ∧ (0 < i → trimP z = trimP ln)) (fun z => z.size) (fun _ => Nat.le_refl _) ln [] (by rw [← hlnd]; exact .of rfl rfl rfl rfl rfl rfl) ⟨hln6, fun _ => rfl, fun _ => rfl⟩ ?_
    rintro z u3 hu3 ⟨k1, k2, k3⟩
    have hb0 := bt_range z 0
    have hb1 := bt_range z 1
    refine x_vc tt_ok ?_
    repeat (refine And.intro ?_ ?_; first | omega | (simp only [Lay.d_n]; omega) | (simp only [decide_eq_true_eq, decide_eq_false_iff_not, Bool.or_eq_false_iff, Bool.and_eq_true, Bool.or_eq_true, Bool.and_eq_false_iff, Bool.not_eq_true', Bool.not_eq_false', Lay.d_n]; omega) | (simp only [decide_eq_true_eq, decide_eq_false_iff_not, Bool.or_eq_false_iff, Bool.and_eq_true, Bool.or_eq_true, Bool.and_eq_false_iff, Bool.not_eq_true', Bool.not_eq_false']; omega) | (simp only [decide_eq_true_eq, decide_eq_false_iff_not, Bool.or_eq_false_iff]; simp only [Lay.d_n]; omega))
    refine xl_gcall0 (.bool (whB (bt z 0))) rfl rfl rfl rfl fn44 rfl rfl (fun _ E w F _ => whD_any _ w) ?_
    refine xl_go tt_ok ?_
    refine x_if (fun h2 => ?_) (fun h2 => ?_)
    · have h2 : ((decide ((0 : Int) < (i : Int)) && decide ((0 : Int) < z.size)) && whB (bt z 0)) = true := h2
      simp only [Bool.and_eq_true, decide_eq_true_eq] at h2
      obtain ⟨⟨c1, c2⟩, c3⟩ := h2
      have hsz : ((sub z 1 z.size).size : Int) = z.size - 1 := sub_size (by decide) (by omega) (Int.le_refl _)
      repeat (refine And.intro ?_ ?_; first | omega | (simp only [Lay.d_n]; omega) | (simp only [decide_eq_true_eq, decide_eq_false_iff_not, Bool.or_eq_false_iff, Bool.and_eq_true, Bool.or_eq_true, Bool.and_eq_false_iff, Bool.not_eq_true', Bool.not_eq_false', Lay.d_n]; omega) | (simp only [decide_eq_true_eq, decide_eq_false_iff_not, Bool.or_eq_false_iff, Bool.and_eq_true, Bool.or_eq_true, Bool.and_eq_false_iff, Bool.not_eq_true', Bool.not_eq_false']; omega) | (simp only [decide_eq_true_eq, decide_eq_false_iff_not, Bool.or_eq_false_iff]; simp only [Lay.d_n]; omega))
      refine again (sub z 1 z.size) [] (.of rfl rfl rfl rfl rfl rfl) ⟨by omega, fun h => by omega, fun h => by rw [← trim_white (by omega) c3]; exact k3 h⟩ (by omega)
    · have h2 : ((decide ((0 : Int) < (i : Int)) && decide ((0 : Int) < z.size)) && whB (bt z 0)) = false := h2
      have hz : z = if i = 0 then ln else trimP ln := by
        by_cases hi : i = 0
        · rw [if_pos hi]; exact k2 hi
        · rw [if_neg hi, ← k3 (by omega)]
          symm
          refine trim_done ?_
          rw [decide_eq_true (by omega), Bool.true_and] at h2
          by_cases hz0 : z.size = 0
          · exact .inl hz0
          · rw [decide_eq_true (by omega), Bool.true_and] at h2
            exact .inr h2
      repeat (refine And.intro ?_ ?_; first | omega | (simp only [Lay.d_n]; omega) | (simp only [decide_eq_true_eq, decide_eq_false_iff_not, Bool.or_eq_false_iff, Bool.and_eq_true, Bool.or_eq_true, Bool.and_eq_false_iff, Bool.not_eq_true', Bool.not_eq_false', Lay.d_n]; omega) | (simp only [decide_eq_true_eq, decide_eq_false_iff_not, Bool.or_eq_false_iff, Bool.and_eq_true, Bool.or_eq_true, Bool.and_eq_false_iff, Bool.not_eq_true', Bool.not_eq_false']; omega) | (simp only [decide_eq_true_eq, decide_eq_false_iff_not, Bool.or_eq_false_iff]; simp only [Lay.d_n]; omega))
      refine xl_gcall0 (.bool (whB (bt z 1))) rfl rfl rfl rfl fn44 rfl rfl (fun _ E w F _ => whD_any _ w) ?_
      refine xl_go tt_ok ?_
      refine x_if (fun h5 => ?_) (fun h5 => ?_)
      · have h5 : (((decide ((0 : Int) < (i : Int)) && decide ((0 : Int) < z.size)) && decide (bt z 0 = 42)) && (decide ((z.size : Int) = 1) || whB (bt z 1))) = true := h5
        have h6 : 0 < i ∧ starC z = true := by
          rw [Bool.and_assoc, Bool.and_assoc, Bool.and_eq_true] at h5
          refine ⟨by have := of_decide_eq_true h5.1; omega, ?_⟩
          rw [← starD_eq, starD, Bool.and_assoc]; exact h5.2
        have hz0 : 0 < z.size := by
          simp only [Bool.and_eq_true, decide_eq_true_eq] at h5
          omega
        repeat (refine And.intro ?_ ?_; first | omega | (simp only [Lay.d_n]; omega) | (simp only [decide_eq_true_eq, decide_eq_false_iff_not, Bool.or_eq_false_iff, Bool.and_eq_true, Bool.or_eq_true, Bool.and_eq_false_iff, Bool.not_eq_true', Bool.not_eq_false', Lay.d_n]; omega) | (simp only [decide_eq_true_eq, decide_eq_false_iff_not, Bool.or_eq_false_iff, Bool.and_eq_true, Bool.or_eq_true, Bool.and_eq_false_iff, Bool.not_eq_true', Bool.not_eq_false']; omega) | (simp only [decide_eq_true_eq, decide_eq_false_iff_not, Bool.or_eq_false_iff]; simp only [Lay.d_n]; omega))
        have hzl : (sub z 1 z.size) = lineP i ln := by rw [lineP, if_neg (by omega), starP]; rw [if_neg (by omega)] at hz; rw [← hz, if_pos h6.2]
        have hw9 : ((sub z 1 z.size) : ByteArray).size ≤ 5000 := by rw [hzl]; exact hln5
        have hwl := wordsP_len ((sub z 1 z.size) : ByteArray)
        have hwk : (wsOf (insP s).1)[i]? = some (wordsP ((sub z 1 z.size) : ByteArray)) := by rw [hzl]; exact hk
        have next : ((wsOf (insP s).1).take (i + 1)).foldl docStep ([], []) = docStep (out, now) (wordsP ((sub z 1 z.size) : ByteArray)) := by
          rw [take_get hwk, List.foldl_append, g3]; rfl
        refine xl_callO 9 (strY.d (wordsP ((sub z 1 z.size) : ByteArray))) rfl rfl rfl rfl fn45 rfl rfl (fun E w F _ => dwords_any _ w (by omega)) ?_
        generalize wordsP ((sub z 1 z.size) : ByteArray) = ws at hwl hwk next
        refine xl_go tt_ok ?_
        refine x_if (fun h8 => ?_) (fun h8 => ?_)
        · have h8 : (decide (((ws.length : Nat) : Int) = 0) && decide ((0 : Int) < ((now.length : Nat) : Int))) = true := h8
          simp only [Bool.and_eq_true, decide_eq_true_eq] at h8
          have e1 : ws = [] := List.eq_nil_of_length_eq_zero (by omega)
          have e2 : now ≠ [] := List.length_pos_iff.1 (by omega)
          subst e1
          have hst : docStep (out, now) [] = (out ++ [now], []) := by simp [docStep, e2]
          refine xl_parkN 5 3 rfl rfl (fun A' c' => ?_)
          refine xl_push tt_ok slY V ⟨A', (strY.d now).n, c'⟩ 24 (cs := [.slice A' (strY.d now).n c']) rfl rfl rfl rfl rfl rfl rfl rfl rfl rfl rfl rfl (by kernel_rfl) rfl rfl rfl rfl rfl (fun n hn => by cases hn; decide) rfl rfl rfl (by omega) (by omega) ?_
          refine xl_go tt_ok ?_
          refine xl_nil 77 9 strY rfl ?_
          refine xl_append tt_ok strY [] [] 16 rfl rfl rfl rfl rfl rfl rfl rfl (by kernel_rfl) rfl rfl rfl (fun E w F hs => hs.rowAt (k := 6) rfl) strOne1 rfl (by decide) (by decide) ?_
          refine xl_go tt_ok ?_
          repeat (refine And.intro ?_ ?_; first | omega | (simp only [Lay.d_n]; omega) | (simp only [decide_eq_true_eq, decide_eq_false_iff_not, Bool.or_eq_false_iff, Bool.and_eq_true, Bool.or_eq_true, Bool.and_eq_false_iff, Bool.not_eq_true', Bool.not_eq_false', Lay.d_n]; omega) | (simp only [decide_eq_true_eq, decide_eq_false_iff_not, Bool.or_eq_false_iff, Bool.and_eq_true, Bool.or_eq_true, Bool.and_eq_false_iff, Bool.not_eq_true', Bool.not_eq_false']; omega) | (simp only [decide_eq_true_eq, decide_eq_false_iff_not, Bool.or_eq_false_iff]; simp only [Lay.d_n]; omega))
          have e3 := itemsP_push g2 ⟨A', (strY.d now).n, c'⟩ now
          refine again (i + 1, V ++ [⟨A', (strY.d now).n, c'⟩], out ++ [now], []) [(4, some 7), (5, some 9)] ?_ ⟨by omega, by simp [g2], by rw [next, hst], Nat.zero_le _, by simp; omega⟩ (by show (splitP (insP s).1).length - (i + 1) < (splitP (insP s).1).length - i; omega)
          simp only [e3]
          exact .of rfl rfl rfl rfl rfl rfl
        · have h8 : (decide (((ws.length : Nat) : Int) = 0) && decide ((0 : Int) < ((now.length : Nat) : Int))) = false := h8
          have hst : docStep (out, now) ws = (out, now ++ ws) := by
            unfold docStep
            have hc : ¬ (ws = [] ∧ now ≠ []) := fun hh => by
              have h9 := List.length_pos_iff.2 hh.2
              have h10 : ((ws.length : Nat) : Int) = 0 := by rw [hh.1]; rfl
              rw [decide_eq_true h10, decide_eq_true (by omega)] at h8
              cases h8
            simp only [hc, if_false]
          refine xl_append tt_ok strY now ws 16 rfl rfl rfl rfl rfl rfl rfl rfl (by kernel_rfl) rfl rfl rfl (fun E w F hs => hs.rowAt (k := 6) rfl) strOne1 rfl (by omega) (by omega) ?_
          refine xl_go tt_ok ?_
          repeat (refine And.intro ?_ ?_; first | omega | (simp only [Lay.d_n]; omega) | (simp only [decide_eq_true_eq, decide_eq_false_iff_not, Bool.or_eq_false_iff, Bool.and_eq_true, Bool.or_eq_true, Bool.and_eq_false_iff, Bool.not_eq_true', Bool.not_eq_false', Lay.d_n]; omega) | (simp only [decide_eq_true_eq, decide_eq_false_iff_not, Bool.or_eq_false_iff, Bool.and_eq_true, Bool.or_eq_true, Bool.and_eq_false_iff, Bool.not_eq_true', Bool.not_eq_false']; omega) | (simp only [decide_eq_true_eq, decide_eq_false_iff_not, Bool.or_eq_false_iff]; simp only [Lay.d_n]; omega))
          refine again (i + 1, V, out, now ++ ws) [(5, some 7)] (.of rfl rfl rfl rfl rfl rfl) ⟨by omega, g2, by rw [next, hst], by rw [List.length_append]; omega, by omega⟩ (by show (splitP (insP s).1).length - (i + 1) < (splitP (insP s).1).length - i; omega)
      · have h5 : (((decide ((0 : Int) < (i : Int)) && decide ((0 : Int) < z.size)) && decide (bt z 0 = 42)) && (decide ((z.size : Int) = 1) || whB (bt z 1))) = false := h5
        have hzl0 : z = lineP i ln := by
          by_cases hi : i = 0
          · rw [lineP, if_pos hi]; exact k2 hi
          · rw [if_neg hi] at hz
            rw [lineP, if_neg hi, starP, ← hz]
            rw [Bool.and_assoc, Bool.and_assoc, decide_eq_true (by omega), Bool.true_and, ← Bool.and_assoc] at h5
            have h6 : starC z = false := by rw [← starD_eq, starD]; exact h5
            rw [if_neg (by rw [h6]; decide)]
        have hzl : z = lineP i ln := hzl0
        have hw9 : (z : ByteArray).size ≤ 5000 := by rw [hzl]; exact hln5
        have hwl := wordsP_len (z : ByteArray)
        have hwk : (wsOf (insP s).1)[i]? = some (wordsP (z : ByteArray)) := by rw [hzl]; exact hk
        have next : ((wsOf (insP s).1).take (i + 1)).foldl docStep ([], []) = docStep (out, now) (wordsP (z : ByteArray)) := by
          rw [take_get hwk, List.foldl_append, g3]; rfl
        refine xl_callO 9 (strY.d (wordsP (z : ByteArray))) rfl rfl rfl rfl fn45 rfl rfl (fun E w F _ => dwords_any _ w (by omega)) ?_
        generalize wordsP (z : ByteArray) = ws at hwl hwk next
        refine xl_go tt_ok ?_
        refine x_if (fun h8 => ?_) (fun h8 => ?_)
        · have h8 : (decide (((ws.length : Nat) : Int) = 0) && decide ((0 : Int) < ((now.length : Nat) : Int))) = true := h8
          simp only [Bool.and_eq_true, decide_eq_true_eq] at h8
          have e1 : ws = [] := List.eq_nil_of_length_eq_zero (by omega)
          have e2 : now ≠ [] := List.length_pos_iff.1 (by omega)
          subst e1
          have hst : docStep (out, now) [] = (out ++ [now], []) := by simp [docStep, e2]
          refine xl_parkN 5 3 rfl rfl (fun A' c' => ?_)
          refine xl_push tt_ok slY V ⟨A', (strY.d now).n, c'⟩ 24 (cs := [.slice A' (strY.d now).n c']) rfl rfl rfl rfl rfl rfl rfl rfl rfl rfl rfl rfl (by kernel_rfl) rfl rfl rfl rfl rfl (fun n hn => by cases hn; decide) rfl rfl rfl (by omega) (by omega) ?_
          refine xl_go tt_ok ?_
          refine xl_nil 77 9 strY rfl ?_
          refine xl_append tt_ok strY [] [] 16 rfl rfl rfl rfl rfl rfl rfl rfl (by kernel_rfl) rfl rfl rfl (fun E w F hs => hs.rowAt (k := 6) rfl) strOne1 rfl (by decide) (by decide) ?_
          refine xl_go tt_ok ?_
          repeat (refine And.intro ?_ ?_; first | omega | (simp only [Lay.d_n]; omega) | (simp only [decide_eq_true_eq, decide_eq_false_iff_not, Bool.or_eq_false_iff, Bool.and_eq_true, Bool.or_eq_true, Bool.and_eq_false_iff, Bool.not_eq_true', Bool.not_eq_false', Lay.d_n]; omega) | (simp only [decide_eq_true_eq, decide_eq_false_iff_not, Bool.or_eq_false_iff, Bool.and_eq_true, Bool.or_eq_true, Bool.and_eq_false_iff, Bool.not_eq_true', Bool.not_eq_false']; omega) | (simp only [decide_eq_true_eq, decide_eq_false_iff_not, Bool.or_eq_false_iff]; simp only [Lay.d_n]; omega))
          have e3 := itemsP_push g2 ⟨A', (strY.d now).n, c'⟩ now
          refine again (i + 1, V ++ [⟨A', (strY.d now).n, c'⟩], out ++ [now], []) [(4, some 7), (5, some 9)] ?_ ⟨by omega, by simp [g2], by rw [next, hst], Nat.zero_le _, by simp; omega⟩ (by show (splitP (insP s).1).length - (i + 1) < (splitP (insP s).1).length - i; omega)
          simp only [e3]
          exact .of rfl rfl rfl rfl rfl rfl
        · have h8 : (decide (((ws.length : Nat) : Int) = 0) && decide ((0 : Int) < ((now.length : Nat) : Int))) = false := h8
          have hst : docStep (out, now) ws = (out, now ++ ws) := by
            unfold docStep
            have hc : ¬ (ws = [] ∧ now ≠ []) := fun hh => by
              have h9 := List.length_pos_iff.2 hh.2
              have h10 : ((ws.length : Nat) : Int) = 0 := by rw [hh.1]; rfl
              rw [decide_eq_true h10, decide_eq_true (by omega)] at h8
              cases h8
            simp only [hc, if_false]
          refine xl_append tt_ok strY now ws 16 rfl rfl rfl rfl rfl rfl rfl rfl (by kernel_rfl) rfl rfl rfl (fun E w F hs => hs.rowAt (k := 6) rfl) strOne1 rfl (by omega) (by omega) ?_
          refine xl_go tt_ok ?_
          repeat (refine And.intro ?_ ?_; first | omega | (simp only [Lay.d_n]; omega) | (simp only [decide_eq_true_eq, decide_eq_false_iff_not, Bool.or_eq_false_iff, Bool.and_eq_true, Bool.or_eq_true, Bool.and_eq_false_iff, Bool.not_eq_true', Bool.not_eq_false', Lay.d_n]; omega) | (simp only [decide_eq_true_eq, decide_eq_false_iff_not, Bool.or_eq_false_iff, Bool.and_eq_true, Bool.or_eq_true, Bool.and_eq_false_iff, Bool.not_eq_true', Bool.not_eq_false']; omega) | (simp only [decide_eq_true_eq, decide_eq_false_iff_not, Bool.or_eq_false_iff]; simp only [Lay.d_n]; omega))
          refine again (i + 1, V, out, now ++ ws) [(5, some 7)] (.of rfl rfl rfl rfl rfl rfl) ⟨by omega, g2, by rw [next, hst], by rw [List.length_append]; omega, by omega⟩ (by show (splitP (insP s).1).length - (i + 1) < (splitP (insP s).1).length - i; omega)
  · have h : ¬ (i : Int) < (splitP (insP s).1).length := of_decide_eq_false h
    have hwl0 : (wsOf (insP s).1).length = (splitP (insP s).1).length := by rw [wsOf, List.length_map, linesP_len]
    rw [List.take_of_length_le (by omega)] at g3
    have hR : parP (insP s).1 = docEnd (out, now) := by rw [parP_doc, g3]
    rw [hR]
    refine x_if (fun h2 => ?_) (fun h2 => ?_)
    · have h2 : (0 : Int) < ((now.length : Nat) : Int) := of_decide_eq_true h2
      have hne : now ≠ [] := List.length_pos_iff.1 (by omega)
      have hd : docEnd (out, now) = out ++ [now] := by simp [docEnd, hne]
      rw [hd]
      refine xl_parkN 5 3 rfl rfl (fun A' c' => ?_)
      refine xl_push tt_ok slY V ⟨A', (strY.d now).n, c'⟩ 24 (cs := [.slice A' (strY.d now).n c']) rfl rfl rfl rfl rfl rfl rfl rfl rfl rfl rfl rfl (by kernel_rfl) rfl rfl rfl rfl rfl (fun n hn => by cases hn; decide) rfl rfl rfl (by omega) (by omega) ?_
      refine xl_go tt_ok ?_
      have e3 := itemsP_push g2 ⟨A', (strY.d now).n, c'⟩ now
      refine finStarO (k := 6) (ks := 3) rfl rfl (fun A2 c2 => ⟨(A2, c2, V ++ [⟨A', (strY.d now).n, c'⟩]), fun E hE => ?_, ?_, by simp [g2]⟩)
      · show E 6 = _
        rw [hE, Lay.d_n]
        simp [g2]
      · show itemsP (V ++ [⟨A', (strY.d now).n, c'⟩]) (out ++ [now]) ++ [(⟨.slice A2 (out ++ [now]).length c2, 23, slY.d (V ++ [⟨A', (strY.d now).n, c'⟩])⟩ : SI)] = _
        have e4 : (out ++ [now]).length = (slY.d (V ++ [⟨A', (strY.d now).n, c'⟩])).n := by rw [Lay.d_n]; simp [g2]
        rw [e3, e4]
        rfl
    · have h2 : ¬ (0 : Int) < ((now.length : Nat) : Int) := of_decide_eq_false h2
      have he : now = [] := List.eq_nil_of_length_eq_zero (by omega)
      have hd : docEnd (out, now) = out := by simp [docEnd, he]
      rw [hd]
      refine finStarO (k := 4) (ks := 3) rfl rfl (fun A2 c2 => ⟨(A2, c2, V), fun E hE => ?_, ?_, g2⟩)
      · show E 4 = _
        rw [hE, Lay.d_n, g2]
      · rw [Lay.d_n, g2]
end Go.Proofs.YtnjmkeijjapejaaDoor
namespace Go.Proofs.YtnjmkeijjapejaaDoor
open Go.GV Go.RowKit
theorem bySum_drop : ∀ (p : List ByteArray) (i : Nat), bySum (p.drop i) ≤ bySum p
  | [], i => by simp
  | y :: r, 0 => Nat.le_refl _
  | y :: r, i + 1 => by
    have e2 : bySum (y :: r) = y.size + 4 + bySum r := rfl
    have := bySum_drop r i
    rw [List.drop_succ_cons]; omega
theorem insP_snd (s : ByteArray) : (insP s).2 = blockP s := by
  unfold insP
  cases h : blockP s <;> simp
set_option maxHeartbeats 1000000 in
set_option maxRecDepth 100000 in
theorem docFill_any (s : ByteArray) (ind col : Int) (w : World) (hg : Glob (im w)) (hs : s.size ≤ 5000) :
    Calls Tryd.prog 17 #[.string s, .int .i64 ind, .int .i64 col] w (PureP w (OwnT 9 (strY.d (fillsP s ind col).1) [.int .i64 (fillsP s ind col).2])) := by
  have hS := small_of hs
  have hz := hS.size
  refine x_fun tt_ok Tryd.func17 rfl rfl [] 0 [.v (.string s), .v (.int .i64 ind), .v (.int .i64 col)] rfl rfl rfl rfl (fun b hb => by cases hb) ?_
  refine x_vc tt_ok ?_
  refine xl_call0 (.bool (blockP s)) rfl rfl rfl rfl fn19 rfl rfl (fun E w F hs => dblock_any s w hz) ?_
  refine xl_go tt_ok ?_
  refine x_if (fun h => ?_) (fun h => ?_)
  · have h : badF s ind col = true := by unfold badF; rw [insP_snd]; exact h
    rw [fillsP, if_pos h]
    exact finO2n strY
  · have h : badF s ind col = false := by unfold badF; rw [insP_snd]; exact h
    have hv : blockP s = true ∧ 0 ≤ ind ∧ ind ≤ 256 ∧ 1 ≤ col ∧ col ≤ 4096 := by
      simp only [badF, Bool.or_eq_false_iff, Bool.not_eq_false', decide_eq_false_iff_not, insP_snd] at h
      exact ⟨h.1.1.1.1, by omega, by omega, by omega, by omega⟩
    rw [fillsP, if_neg (by rw [h]; decide)]
    refine xl_call0 (.bool (keptB (insP s).1)) rfl rfl rfl rfl fn21 rfl rfl (fun E w F _ => dkept_any s w hv.1 (by omega)) ?_
    refine xl_go tt_ok ?_
    refine x_if (fun h2 => ?_) (fun h2 => ?_)
    · have h2 : keptB (insP s).1 = true := h2
      rw [if_pos h2]
      refine xl_callO 9 (strY.d (splitP s)) rfl rfl rfl rfl fn40 rfl rfl (fun E w F hs' => by
        have := dlines_any s w (by omega)
        rw [dlines_eq] at this
        exact this) ?_
      refine xl_go tt_ok ?_
      exact finO2 (k := 0) rfl
    · have h2 : keptB (insP s).1 = false := h2
      rw [if_neg (by rw [h2]; decide)]
      generalize hR : parP (insP s).1 = R
      have hRne : ∀ p ∈ R, p ≠ [] := by rw [← hR]; exact parP_ne _
      have hpar : ∀ p ∈ R, bySum p ≤ 1000000000000 := by rw [← hR]; exact hS.par
      have hnum : R.length + szR R ≤ 100000000000 := by rw [← hR]; exact hS.num
      refine xl_callStar (σ := Option Addr × Nat × List SlV) (fun s => .slice s.1 R.length s.2.1) (fun s => itemsP s.2.2 R ++ [⟨.slice s.1 R.length s.2.1, 23, slY.d s.2.2⟩]) (fun s => s.2.2.length = R.length) rfl rfl rfl rfl fn20 rfl rfl (fun E w F hs' => by
        have := docWords_any s w hv.1 hs
        rw [hR] at this
        exact this) (fun ⟨A, cc, V⟩ hVR => ?_)
      have hVR : V.length = R.length := hVR
      refine xl_freezeStar 0 (sl := itemsP V R ++ [(⟨.slice A R.length cc, 23, slY.d V⟩ : SI)]) rfl (fun u1 hu1 hfr => ?_)
      have hOut : SlAt u1 (.slice A R.length cc) (slY.d V) := (hfr _ (List.mem_append_right _ (List.mem_singleton.2 rfl))).1
      have hIn : ∀ (i : Nat) p, R[i]? = some p → SlAt u1 (V.getD i ⟨none, 0, 0⟩).val (strY.d p) := fun i p hp => by
        have hil : i < R.length := (List.getElem?_eq_some_iff.1 hp).1
        have := hfr _ (List.mem_append_left _ (List.mem_of_getElem? (itemsP_get (V := V) (R := R) (i := i) (by omega) hil)))
        rw [getD_ofP hp] at this
        exact this.1
      refine xl_go tt_ok ?_
      refine x_if (fun h3 => ?_) (fun h3 => ?_)
      · have h3 : ((R.length : Nat) : Int) = 0 := of_decide_eq_true h3
        rw [if_pos (List.eq_nil_of_length_eq_zero (by omega))]
        refine xl_build tt_ok strY [emB] [_] rfl rfl rfl rfl rfl rfl rfl rfl rfl rfl rfl rfl rfl rfl rfl ?_
        refine xl_go tt_ok ?_
        exact finO2 (k := 1) rfl
      · have h3 : ¬ ((R.length : Nat) : Int) = 0 := of_decide_eq_false h3
        rw [if_neg (fun hh => h3 (by rw [hh]; rfl))]
        have hVl : ((slY.d V).n : Int) = R.length := by rw [Lay.d_n, hVR]
        have hp0 : R[0]? = some (R.getD 0 []) := by rw [List.getD_eq_getElem?_getD, List.getElem?_eq_getElem (by omega)]; rfl
        have hin0 := hIn 0 _ hp0
        have hb0 := hpar _ (List.mem_of_getElem? hp0)
        have hj0 := join_size (R.getD 0 [])
        have hrow0 : (oneRow (R.getD 0 [])).size = (joinT (R.getD 0 []) blB).size + 6 := by
          rw [oneRow, ByteArray.size_append, ByteArray.size_append, show bgB.size = 3 from rfl, show eoB.size = 3 from rfl]; omega
        refine xl_slG 48 rfl hOut ?_
        refine xl_go tt_ok ?_
        repeat (refine And.intro ?_ ?_; first | omega | (simp only [Lay.d_n]; omega) | (simp only [decide_eq_true_eq, decide_eq_false_iff_not, Bool.or_eq_false_iff, Bool.and_eq_true, Bool.or_eq_true, Bool.and_eq_false_iff, Bool.not_eq_true', Bool.not_eq_false', Lay.d_n]; omega) | (simp only [decide_eq_true_eq, decide_eq_false_iff_not, Bool.or_eq_false_iff, Bool.and_eq_true, Bool.or_eq_true, Bool.and_eq_false_iff, Bool.not_eq_true', Bool.not_eq_false']; omega) | (simp only [decide_eq_true_eq, decide_eq_false_iff_not, Bool.or_eq_false_iff]; simp only [Lay.d_n]; omega))
        refine xl_gcall0 (.string (joinT (R.getD 0 []) blB)) rfl rfl rfl rfl fn41 rfl rfl (fun _ E w F hs' => joined_any _ _ w (hin0.imm hs'.imm) hb0) ?_
        refine xl_go tt_ok ?_
        repeat (refine And.intro ?_ ?_; first | omega | (simp only [Lay.d_n]; omega) | (simp only [decide_eq_true_eq, decide_eq_false_iff_not, Bool.or_eq_false_iff, Bool.and_eq_true, Bool.or_eq_true, Bool.and_eq_false_iff, Bool.not_eq_true', Bool.not_eq_false', Lay.d_n]; omega) | (simp only [decide_eq_true_eq, decide_eq_false_iff_not, Bool.or_eq_false_iff, Bool.and_eq_true, Bool.or_eq_true, Bool.and_eq_false_iff, Bool.not_eq_true', Bool.not_eq_false']; omega) | (simp only [decide_eq_true_eq, decide_eq_false_iff_not, Bool.or_eq_false_iff]; simp only [Lay.d_n]; omega))
        refine x_if (fun h5 => ?_) (fun h5 => ?_)
        · have h5 : (decide (((R.length : Nat) : Int) = 1) && decide (ind + (joinT (R.getD 0 []) blB).size + 6 ≤ col)) = true := h5
          simp only [Bool.and_eq_true, decide_eq_true_eq] at h5
          rw [if_pos ⟨by omega, by rw [hrow0]; omega⟩]
          refine xl_sl 58 rfl hOut ?_
          refine xl_go tt_ok ?_
          repeat (refine And.intro ?_ ?_; first | omega | (simp only [Lay.d_n]; omega) | (simp only [decide_eq_true_eq, decide_eq_false_iff_not, Bool.or_eq_false_iff, Bool.and_eq_true, Bool.or_eq_true, Bool.and_eq_false_iff, Bool.not_eq_true', Bool.not_eq_false', Lay.d_n]; omega) | (simp only [decide_eq_true_eq, decide_eq_false_iff_not, Bool.or_eq_false_iff, Bool.and_eq_true, Bool.or_eq_true, Bool.and_eq_false_iff, Bool.not_eq_true', Bool.not_eq_false']; omega) | (simp only [decide_eq_true_eq, decide_eq_false_iff_not, Bool.or_eq_false_iff]; simp only [Lay.d_n]; omega))
          refine xl_call0 (.string (joinT (R.getD 0 []) blB)) rfl rfl rfl rfl fn41 rfl rfl (fun E w F hs' => joined_any _ _ w (hin0.imm hs'.imm) hb0) ?_
          refine xl_go tt_ok ?_
          have hc1 : (⟨#[47, 42, 32]⟩ : ByteArray).size = 3 := rfl
          have hc2 : (⟨#[32, 42, 47]⟩ : ByteArray).size = 3 := rfl
          have hc3 : ((⟨#[47, 42, 32]⟩ : ByteArray) ++ joinT (R.getD 0 []) blB).size = 3 + (joinT (R.getD 0 []) blB).size := by rw [ByteArray.size_append]; rfl
          repeat (refine And.intro ?_ ?_; first | omega | (simp only [Lay.d_n]; omega) | (simp only [decide_eq_true_eq, decide_eq_false_iff_not, Bool.or_eq_false_iff, Bool.and_eq_true, Bool.or_eq_true, Bool.and_eq_false_iff, Bool.not_eq_true', Bool.not_eq_false', Lay.d_n]; omega) | (simp only [decide_eq_true_eq, decide_eq_false_iff_not, Bool.or_eq_false_iff, Bool.and_eq_true, Bool.or_eq_true, Bool.and_eq_false_iff, Bool.not_eq_true', Bool.not_eq_false']; omega) | (simp only [decide_eq_true_eq, decide_eq_false_iff_not, Bool.or_eq_false_iff]; simp only [Lay.d_n]; omega))
          refine xl_build tt_ok strY [oneRow (R.getD 0 [])] [_] rfl rfl rfl rfl rfl rfl rfl rfl rfl rfl rfl rfl rfl rfl rfl ?_
          refine xl_go tt_ok ?_
          exact finO2 (k := 3) rfl
        · have h5 : (decide (((R.length : Nat) : Int) = 1) && decide (ind + (joinT (R.getD 0 []) blB).size + 6 ≤ col)) = false := h5
          rw [if_neg (fun hh => by
            have e9 := hh.2
            rw [hrow0] at e9
            rw [decide_eq_true (by omega), decide_eq_true (by omega)] at h5
            cases h5)]
          refine x_nil 9 9 strY rfl ?_
          refine x_sl 8 rfl hOut ?_
          refine x_loop (σ := Nat × List ByteArray) (fun (i, done) => ⟨[(10, .v (.int .i64 (i : Int))), (9, .r 4), (8, .r 3), (1, .v (.int .i64 ind)), (2, .v (.int .i64 col))], [],
              [(4, .row 9 (strY.d done)), (3, .sl (slY.d V))], 5⟩)
            (fun (i, done) _ => i ≤ R.length ∧ done = rowsF (col - ind) true (R.take i)) (fun (i, _) => R.length - i) (fun _ => of_decide_eq_true rfl) (0, []) [(4, some 2)] (.of rfl rfl rfl rfl rfl rfl) ⟨Nat.zero_le _, rfl⟩ ?_
          rintro ⟨i, done⟩ u3 hu3 ⟨g1, g2⟩
          have hdl : done.length ≤ 100000000000 := by
            have e1 := rowsF_len (col - ind) (R.take i) true
            have e2 := szR_take R i
            have e3 : (R.take i).length ≤ R.length := by rw [List.length_take]; omega
            rw [g2]; omega
          refine x_vc tt_ok ?_
          refine x_if (fun h6 => ?_) (fun h6 => ?_)
          · have h6 : (i : Int) < (R.length : Int) := by have := of_decide_eq_true h6; omega
            obtain ⟨p, hp⟩ : ∃ p, R[i]? = some p := ⟨_, List.getElem?_eq_getElem (by omega)⟩
            have hnext := take_rows0 (col - ind) hp
            have hpm := List.mem_of_getElem? hp
            have hpb := hpar p hpm
            have hin3 := (hIn i p hp).le hu3
            obtain ⟨Ai, ci, hval, hin4⟩ : ∃ Ai ci, (V.getD ((i : Nat) : Int).toNat ⟨none, 0, 0⟩).val = .slice Ai p.length ci ∧ SlAt u3 (.slice Ai p.length ci) (strY.d p) := by
              obtain ⟨Ai, ci, h7, h8⟩ := id hin3
              rw [Int.toNat_natCast]
              rw [h7] at hin3
              exact ⟨Ai, ci, h7, hin3⟩
            have hVi : ((i : Nat) : Int) < (slY.d V).n := by rw [Lay.d_n, hVR]; exact h6
            refine x_if (fun h7 => ?_) (fun h7 => ?_)
            · have h7 : (0 : Int) < (i : Int) := of_decide_eq_true h7
              rw [if_neg (by omega), ← g2, ← List.append_assoc] at hnext
              have hD0 : (done ++ [stB]) ++ fillP (if done ++ [stB] = [] then bgB else ltB) p (col - ind) = rowsF (col - ind) true (R.take (i + 1)) := by
                rw [hnext, if_neg (by simp)]
                cases i with
                | zero => omega
                | succ i => rfl
              have hD1 : (done ++ [stB]).length = done.length + 1 := by simp
              refine xl_push tt_ok strY done stB 16 (cs := [.string stB]) rfl rfl rfl rfl rfl rfl rfl rfl rfl rfl rfl rfl (by kernel_rfl) rfl rfl rfl rfl rfl (fun n hn => by cases hn; decide) rfl rfl rfl (by omega) (by omega) ?_
              refine xl_go tt_ok ?_
              repeat (refine And.intro ?_ ?_; first | omega | (simp only [Lay.d_n]; omega) | (simp only [decide_eq_true_eq, decide_eq_false_iff_not, Bool.or_eq_false_iff, Bool.and_eq_true, Bool.or_eq_true, Bool.and_eq_false_iff, Bool.not_eq_true', Bool.not_eq_false', Lay.d_n]; omega) | (simp only [decide_eq_true_eq, decide_eq_false_iff_not, Bool.or_eq_false_iff, Bool.and_eq_true, Bool.or_eq_true, Bool.and_eq_false_iff, Bool.not_eq_true', Bool.not_eq_false']; omega) | (simp only [decide_eq_true_eq, decide_eq_false_iff_not, Bool.or_eq_false_iff]; simp only [Lay.d_n]; omega))
              refine x_loop (σ := List ByteArray × Option Addr × Nat × List ByteArray) (fun (rest, A', c', D) => ⟨[(11, .v (.slice A' rest.length c')), (10, .v (.int .i64 (i : Int))), (9, .r 10), (8, .r 3), (1, .v (.int .i64 ind)), (2, .v (.int .i64 col))], [],
                  [(10, .row 9 (strY.d D)), (3, .sl (slY.d V))], 11⟩)
                (fun (rest, A', c', D) u => SlAt u (.slice A' rest.length c') (strY.d rest) ∧ bySum rest ≤ 1000000000000 ∧ D.length + rest.length ≤ 300000000000 ∧ D ++ fillP (if D = [] then bgB else ltB) rest (col - ind) = rowsF (col - ind) true (R.take (i + 1))) (fun (rest, _, _, _) => rest.length) (fun _ => of_decide_eq_true rfl) (p, Ai, ci, (done ++ [stB])) [(10, some 5)] (by simp only [← hval]; exact .of rfl rfl rfl rfl rfl rfl) ⟨hin4, hpb, by have := getP_len p hpm; omega, hD0⟩ ?_
              rintro ⟨rest, A', c', D⟩ u5 hu5 ⟨k1, k2, k3, k4⟩
              refine x_vc tt_ok ?_
              refine x_if (fun h8 => ?_) (fun h8 => ?_)
              · have h8 : (0 : Int) < ((rest.length : Nat) : Int) := of_decide_eq_true h8
                have hrne : rest ≠ [] := List.length_pos_iff.1 (by omega)
                obtain ⟨m1, m2⟩ := manyN_pos (col - ind - 3) hrne
                have hfm := fillP_many (col - ind) (if D = [] then bgB else ltB) (by split <;> rfl) hrne
                rw [hfm] at k4
                refine xl_call0 (.int .i64 (manyN (col - ind - 3) rest)) rfl rfl rfl rfl fn42 rfl rfl (fun E w F hs' => many_any rest _ ind col w (k1.imm hs'.imm) k2 ⟨hv.2.1, hv.2.2.1⟩ hrne) ?_
                generalize manyN (col - ind - 3) rest = m at m1 m2 k4
                have hc9 : rest.length ≤ c' := by
                  obtain ⟨_, c2, he, hle, _⟩ := id k1
                  cases he
                  exact hle
                have hpt := partV_slAt (Y := strY) (L := rest) (l := 0) (h := m) k1 (Nat.zero_le _) m2
                have hbt := bySum_take rest m
                have hbd : bySum (rest.drop m) ≤ bySum rest := bySum_drop rest m
                have hjm := join_size (rest.take m)
                refine xl_go tt_ok ?_
                refine x_if (fun h9 => ?_) (fun h9 => ?_)
                · have h9 : ((D.length : Nat) : Int) = 0 := of_decide_eq_true h9
                  have eb : (if D = [] then bgB else ltB) = bgB := if_pos (List.eq_nil_of_length_eq_zero (by omega))
                  rw [eb, List.append_cons] at k4
                  refine xl_gtoE tt_ok (A := A') (n := rest.length) (c := c') (h := ((m : Nat) : Int)) rfl rfl rfl rfl rfl rfl rfl rfl rfl (fun _ => by omega) ?_
                  refine xl_go tt_ok ?_
                  refine xl_call0 (.string (joinT (rest.take m) blB)) rfl rfl rfl rfl fn41 rfl rfl (fun E w F hs' => joined_any (rest.take m) _ w (hpt.imm hs'.imm) (by omega)) ?_
                  refine xl_go tt_ok ?_
                  have hcs : (bgB : ByteArray).size = 3 := rfl
                  have hcz : ((bgB : ByteArray) ++ joinT (rest.take m) blB).size = 3 + (joinT (rest.take m) blB).size := by rw [ByteArray.size_append]; rfl
                  have hcr : (⟨#[47, 42, 32]⟩ : ByteArray).size = 3 := rfl
                  repeat (refine And.intro ?_ ?_; first | omega | (simp only [Lay.d_n]; omega) | (simp only [decide_eq_true_eq, decide_eq_false_iff_not, Bool.or_eq_false_iff, Bool.and_eq_true, Bool.or_eq_true, Bool.and_eq_false_iff, Bool.not_eq_true', Bool.not_eq_false', Lay.d_n]; omega) | (simp only [decide_eq_true_eq, decide_eq_false_iff_not, Bool.or_eq_false_iff, Bool.and_eq_true, Bool.or_eq_true, Bool.and_eq_false_iff, Bool.not_eq_true', Bool.not_eq_false']; omega) | (simp only [decide_eq_true_eq, decide_eq_false_iff_not, Bool.or_eq_false_iff]; simp only [Lay.d_n]; omega))
                  refine xl_push tt_ok strY D (bgB ++ joinT (rest.take m) blB) 16 (cs := [.string (bgB ++ joinT (rest.take m) blB)]) rfl rfl rfl rfl rfl rfl rfl rfl rfl rfl rfl rfl (by kernel_rfl) rfl rfl rfl rfl rfl (fun n hn => by cases hn; decide) rfl rfl rfl (by omega) (by omega) ?_
                  refine xl_go tt_ok ?_
                  refine xl_from tt_ok strY rest rfl rfl rfl rfl rfl rfl rfl rfl rfl rfl (fun E w F hs' => k1) (by omega) (by omega) (fun A2 c2 hA2 => ?_)
                  refine xl_go tt_ok ?_
                  have e7 : (rest.drop m).length = rest.length - ((m : Nat) : Int).toNat := by simp
                  refine again (rest.drop m, A2, c2, D ++ [bgB ++ joinT (rest.take m) blB]) [(10, some 11)] (by simp only [e7]; exact .of rfl rfl rfl rfl rfl rfl) ⟨by rw [e7]; exact hA2, by omega, by rw [List.length_append, List.length_drop]; simp; omega, by rw [if_neg (by simp)]; exact k4⟩ (by show (rest.drop m).length < rest.length; rw [List.length_drop]; omega)
                · have h9 : ¬ ((D.length : Nat) : Int) = 0 := of_decide_eq_false h9
                  have eb : (if D = [] then bgB else ltB) = ltB := if_neg (fun hh => h9 (by rw [hh]; rfl))
                  rw [eb, List.append_cons] at k4
                  refine xl_gtoE tt_ok (A := A') (n := rest.length) (c := c') (h := ((m : Nat) : Int)) rfl rfl rfl rfl rfl rfl rfl rfl rfl (fun _ => by omega) ?_
                  refine xl_go tt_ok ?_
                  refine xl_call0 (.string (joinT (rest.take m) blB)) rfl rfl rfl rfl fn41 rfl rfl (fun E w F hs' => joined_any (rest.take m) _ w (hpt.imm hs'.imm) (by omega)) ?_
                  refine xl_go tt_ok ?_
                  have hcs : (ltB : ByteArray).size = 3 := rfl
                  have hcz : ((ltB : ByteArray) ++ joinT (rest.take m) blB).size = 3 + (joinT (rest.take m) blB).size := by rw [ByteArray.size_append]; rfl
                  have hcr : (⟨#[32, 42, 32]⟩ : ByteArray).size = 3 := rfl
                  repeat (refine And.intro ?_ ?_; first | omega | (simp only [Lay.d_n]; omega) | (simp only [decide_eq_true_eq, decide_eq_false_iff_not, Bool.or_eq_false_iff, Bool.and_eq_true, Bool.or_eq_true, Bool.and_eq_false_iff, Bool.not_eq_true', Bool.not_eq_false', Lay.d_n]; omega) | (simp only [decide_eq_true_eq, decide_eq_false_iff_not, Bool.or_eq_false_iff, Bool.and_eq_true, Bool.or_eq_true, Bool.and_eq_false_iff, Bool.not_eq_true', Bool.not_eq_false']; omega) | (simp only [decide_eq_true_eq, decide_eq_false_iff_not, Bool.or_eq_false_iff]; simp only [Lay.d_n]; omega))
                  refine xl_push tt_ok strY D (ltB ++ joinT (rest.take m) blB) 16 (cs := [.string (ltB ++ joinT (rest.take m) blB)]) rfl rfl rfl rfl rfl rfl rfl rfl rfl rfl rfl rfl (by kernel_rfl) rfl rfl rfl rfl rfl (fun n hn => by cases hn; decide) rfl rfl rfl (by omega) (by omega) ?_
                  refine xl_go tt_ok ?_
                  refine xl_from tt_ok strY rest rfl rfl rfl rfl rfl rfl rfl rfl rfl rfl (fun E w F hs' => k1) (by omega) (by omega) (fun A2 c2 hA2 => ?_)
                  refine xl_go tt_ok ?_
                  have e7 : (rest.drop m).length = rest.length - ((m : Nat) : Int).toNat := by simp
                  refine again (rest.drop m, A2, c2, D ++ [ltB ++ joinT (rest.take m) blB]) [(10, some 11)] (by simp only [e7]; exact .of rfl rfl rfl rfl rfl rfl) ⟨by rw [e7]; exact hA2, by omega, by rw [List.length_append, List.length_drop]; simp; omega, by rw [if_neg (by simp)]; exact k4⟩ (by show (rest.drop m).length < rest.length; rw [List.length_drop]; omega)
              · have h8 : ¬ (0 : Int) < ((rest.length : Nat) : Int) := of_decide_eq_false h8
                have er : rest = [] := List.eq_nil_of_length_eq_zero (by omega)
                subst er
                rw [show fillP (if D = [] then bgB else ltB) [] (col - ind) = [] from rfl, List.append_nil] at k4
                repeat (refine And.intro ?_ ?_; first | omega | (simp only [Lay.d_n]; omega) | (simp only [decide_eq_true_eq, decide_eq_false_iff_not, Bool.or_eq_false_iff, Bool.and_eq_true, Bool.or_eq_true, Bool.and_eq_false_iff, Bool.not_eq_true', Bool.not_eq_false', Lay.d_n]; omega) | (simp only [decide_eq_true_eq, decide_eq_false_iff_not, Bool.or_eq_false_iff, Bool.and_eq_true, Bool.or_eq_true, Bool.and_eq_false_iff, Bool.not_eq_true', Bool.not_eq_false']; omega) | (simp only [decide_eq_true_eq, decide_eq_false_iff_not, Bool.or_eq_false_iff]; simp only [Lay.d_n]; omega))
                refine again (i + 1, D) [(4, some 10)] (.of rfl rfl rfl rfl rfl rfl) ⟨by omega, k4⟩ (by show R.length - (i + 1) < R.length - i; omega)
            · have h7 : ¬ (0 : Int) < (i : Int) := of_decide_eq_false h7
              have ei : i = 0 := by omega
              subst ei
              have hd0 : done = [] := g2
              subst hd0
              have hD0 : ([] : List ByteArray) ++ fillP (if ([] : List ByteArray) = [] then bgB else ltB) p (col - ind) = rowsF (col - ind) true (R.take (0 + 1)) := by
                rw [hnext]; rfl
              have hD1 : ([] : List ByteArray).length = 0 := rfl
              repeat (refine And.intro ?_ ?_; first | omega | (simp only [Lay.d_n]; omega) | (simp only [decide_eq_true_eq, decide_eq_false_iff_not, Bool.or_eq_false_iff, Bool.and_eq_true, Bool.or_eq_true, Bool.and_eq_false_iff, Bool.not_eq_true', Bool.not_eq_false', Lay.d_n]; omega) | (simp only [decide_eq_true_eq, decide_eq_false_iff_not, Bool.or_eq_false_iff, Bool.and_eq_true, Bool.or_eq_true, Bool.and_eq_false_iff, Bool.not_eq_true', Bool.not_eq_false']; omega) | (simp only [decide_eq_true_eq, decide_eq_false_iff_not, Bool.or_eq_false_iff]; simp only [Lay.d_n]; omega))
              refine x_loop (σ := List ByteArray × Option Addr × Nat × List ByteArray) (fun (rest, A', c', D) => ⟨[(11, .v (.slice A' rest.length c')), (10, .v (.int .i64 ((0 : Nat) : Int))), (9, .r 10), (8, .r 3), (1, .v (.int .i64 ind)), (2, .v (.int .i64 col))], [],
                  [(10, .row 9 (strY.d D)), (3, .sl (slY.d V))], 11⟩)
                (fun (rest, A', c', D) u => SlAt u (.slice A' rest.length c') (strY.d rest) ∧ bySum rest ≤ 1000000000000 ∧ D.length + rest.length ≤ 300000000000 ∧ D ++ fillP (if D = [] then bgB else ltB) rest (col - ind) = rowsF (col - ind) true (R.take (0 + 1))) (fun (rest, _, _, _) => rest.length) (fun _ => of_decide_eq_true rfl) (p, Ai, ci, []) [(10, some 4)] (by simp only [← hval]; exact .of rfl rfl rfl rfl rfl rfl) ⟨hin4, hpb, by have := getP_len p hpm; omega, hD0⟩ ?_
              rintro ⟨rest, A', c', D⟩ u5 hu5 ⟨k1, k2, k3, k4⟩
              refine x_vc tt_ok ?_
              refine x_if (fun h8 => ?_) (fun h8 => ?_)
              · have h8 : (0 : Int) < ((rest.length : Nat) : Int) := of_decide_eq_true h8
                have hrne : rest ≠ [] := List.length_pos_iff.1 (by omega)
                obtain ⟨m1, m2⟩ := manyN_pos (col - ind - 3) hrne
                have hfm := fillP_many (col - ind) (if D = [] then bgB else ltB) (by split <;> rfl) hrne
                rw [hfm] at k4
                refine xl_call0 (.int .i64 (manyN (col - ind - 3) rest)) rfl rfl rfl rfl fn42 rfl rfl (fun E w F hs' => many_any rest _ ind col w (k1.imm hs'.imm) k2 ⟨hv.2.1, hv.2.2.1⟩ hrne) ?_
                generalize manyN (col - ind - 3) rest = m at m1 m2 k4
                have hc9 : rest.length ≤ c' := by
                  obtain ⟨_, c2, he, hle, _⟩ := id k1
                  cases he
                  exact hle
                have hpt := partV_slAt (Y := strY) (L := rest) (l := 0) (h := m) k1 (Nat.zero_le _) m2
                have hbt := bySum_take rest m
                have hbd : bySum (rest.drop m) ≤ bySum rest := bySum_drop rest m
                have hjm := join_size (rest.take m)
                refine xl_go tt_ok ?_
                refine x_if (fun h9 => ?_) (fun h9 => ?_)
                · have h9 : ((D.length : Nat) : Int) = 0 := of_decide_eq_true h9
                  have eb : (if D = [] then bgB else ltB) = bgB := if_pos (List.eq_nil_of_length_eq_zero (by omega))
                  rw [eb, List.append_cons] at k4
                  refine xl_gtoE tt_ok (A := A') (n := rest.length) (c := c') (h := ((m : Nat) : Int)) rfl rfl rfl rfl rfl rfl rfl rfl rfl (fun _ => by omega) ?_
                  refine xl_go tt_ok ?_
                  refine xl_call0 (.string (joinT (rest.take m) blB)) rfl rfl rfl rfl fn41 rfl rfl (fun E w F hs' => joined_any (rest.take m) _ w (hpt.imm hs'.imm) (by omega)) ?_
                  refine xl_go tt_ok ?_
                  have hcs : (bgB : ByteArray).size = 3 := rfl
                  have hcz : ((bgB : ByteArray) ++ joinT (rest.take m) blB).size = 3 + (joinT (rest.take m) blB).size := by rw [ByteArray.size_append]; rfl
                  have hcr : (⟨#[47, 42, 32]⟩ : ByteArray).size = 3 := rfl
                  repeat (refine And.intro ?_ ?_; first | omega | (simp only [Lay.d_n]; omega) | (simp only [decide_eq_true_eq, decide_eq_false_iff_not, Bool.or_eq_false_iff, Bool.and_eq_true, Bool.or_eq_true, Bool.and_eq_false_iff, Bool.not_eq_true', Bool.not_eq_false', Lay.d_n]; omega) | (simp only [decide_eq_true_eq, decide_eq_false_iff_not, Bool.or_eq_false_iff, Bool.and_eq_true, Bool.or_eq_true, Bool.and_eq_false_iff, Bool.not_eq_true', Bool.not_eq_false']; omega) | (simp only [decide_eq_true_eq, decide_eq_false_iff_not, Bool.or_eq_false_iff]; simp only [Lay.d_n]; omega))
                  refine xl_push tt_ok strY D (bgB ++ joinT (rest.take m) blB) 16 (cs := [.string (bgB ++ joinT (rest.take m) blB)]) rfl rfl rfl rfl rfl rfl rfl rfl rfl rfl rfl rfl (by kernel_rfl) rfl rfl rfl rfl rfl (fun n hn => by cases hn; decide) rfl rfl rfl (by omega) (by omega) ?_
                  refine xl_go tt_ok ?_
                  refine xl_from tt_ok strY rest rfl rfl rfl rfl rfl rfl rfl rfl rfl rfl (fun E w F hs' => k1) (by omega) (by omega) (fun A2 c2 hA2 => ?_)
                  refine xl_go tt_ok ?_
                  have e7 : (rest.drop m).length = rest.length - ((m : Nat) : Int).toNat := by simp
                  refine again (rest.drop m, A2, c2, D ++ [bgB ++ joinT (rest.take m) blB]) [(10, some 11)] (by simp only [e7]; exact .of rfl rfl rfl rfl rfl rfl) ⟨by rw [e7]; exact hA2, by omega, by rw [List.length_append, List.length_drop]; simp; omega, by rw [if_neg (by simp)]; exact k4⟩ (by show (rest.drop m).length < rest.length; rw [List.length_drop]; omega)
                · have h9 : ¬ ((D.length : Nat) : Int) = 0 := of_decide_eq_false h9
                  have eb : (if D = [] then bgB else ltB) = ltB := if_neg (fun hh => h9 (by rw [hh]; rfl))
                  rw [eb, List.append_cons] at k4
                  refine xl_gtoE tt_ok (A := A') (n := rest.length) (c := c') (h := ((m : Nat) : Int)) rfl rfl rfl rfl rfl rfl rfl rfl rfl (fun _ => by omega) ?_
                  refine xl_go tt_ok ?_
                  refine xl_call0 (.string (joinT (rest.take m) blB)) rfl rfl rfl rfl fn41 rfl rfl (fun E w F hs' => joined_any (rest.take m) _ w (hpt.imm hs'.imm) (by omega)) ?_
                  refine xl_go tt_ok ?_
                  have hcs : (ltB : ByteArray).size = 3 := rfl
                  have hcz : ((ltB : ByteArray) ++ joinT (rest.take m) blB).size = 3 + (joinT (rest.take m) blB).size := by rw [ByteArray.size_append]; rfl
                  have hcr : (⟨#[32, 42, 32]⟩ : ByteArray).size = 3 := rfl
                  repeat (refine And.intro ?_ ?_; first | omega | (simp only [Lay.d_n]; omega) | (simp only [decide_eq_true_eq, decide_eq_false_iff_not, Bool.or_eq_false_iff, Bool.and_eq_true, Bool.or_eq_true, Bool.and_eq_false_iff, Bool.not_eq_true', Bool.not_eq_false', Lay.d_n]; omega) | (simp only [decide_eq_true_eq, decide_eq_false_iff_not, Bool.or_eq_false_iff, Bool.and_eq_true, Bool.or_eq_true, Bool.and_eq_false_iff, Bool.not_eq_true', Bool.not_eq_false']; omega) | (simp only [decide_eq_true_eq, decide_eq_false_iff_not, Bool.or_eq_false_iff]; simp only [Lay.d_n]; omega))
                  refine xl_push tt_ok strY D (ltB ++ joinT (rest.take m) blB) 16 (cs := [.string (ltB ++ joinT (rest.take m) blB)]) rfl rfl rfl rfl rfl rfl rfl rfl rfl rfl rfl rfl (by kernel_rfl) rfl rfl rfl rfl rfl (fun n hn => by cases hn; decide) rfl rfl rfl (by omega) (by omega) ?_
                  refine xl_go tt_ok ?_
                  refine xl_from tt_ok strY rest rfl rfl rfl rfl rfl rfl rfl rfl rfl rfl (fun E w F hs' => k1) (by omega) (by omega) (fun A2 c2 hA2 => ?_)
                  refine xl_go tt_ok ?_
                  have e7 : (rest.drop m).length = rest.length - ((m : Nat) : Int).toNat := by simp
                  refine again (rest.drop m, A2, c2, D ++ [ltB ++ joinT (rest.take m) blB]) [(10, some 11)] (by simp only [e7]; exact .of rfl rfl rfl rfl rfl rfl) ⟨by rw [e7]; exact hA2, by omega, by rw [List.length_append, List.length_drop]; simp; omega, by rw [if_neg (by simp)]; exact k4⟩ (by show (rest.drop m).length < rest.length; rw [List.length_drop]; omega)
              · have h8 : ¬ (0 : Int) < ((rest.length : Nat) : Int) := of_decide_eq_false h8
                have er : rest = [] := List.eq_nil_of_length_eq_zero (by omega)
                subst er
                rw [show fillP (if D = [] then bgB else ltB) [] (col - ind) = [] from rfl, List.append_nil] at k4
                repeat (refine And.intro ?_ ?_; first | omega | (simp only [Lay.d_n]; omega) | (simp only [decide_eq_true_eq, decide_eq_false_iff_not, Bool.or_eq_false_iff, Bool.and_eq_true, Bool.or_eq_true, Bool.and_eq_false_iff, Bool.not_eq_true', Bool.not_eq_false', Lay.d_n]; omega) | (simp only [decide_eq_true_eq, decide_eq_false_iff_not, Bool.or_eq_false_iff, Bool.and_eq_true, Bool.or_eq_true, Bool.and_eq_false_iff, Bool.not_eq_true', Bool.not_eq_false']; omega) | (simp only [decide_eq_true_eq, decide_eq_false_iff_not, Bool.or_eq_false_iff]; simp only [Lay.d_n]; omega))
                refine again (0 + 1, D) [(4, some 10)] (.of rfl rfl rfl rfl rfl rfl) ⟨by omega, k4⟩ (by show R.length - (0 + 1) < R.length - 0; omega)
          · have h6 : ¬ (i : Int) < (R.length : Int) := by have := of_decide_eq_false h6; omega
            have ei : i = R.length := by omega
            subst ei
            rw [List.take_length] at g2
            rw [← g2]
            refine xl_push tt_ok strY done eoB 16 (cs := [.string eoB]) rfl rfl rfl rfl rfl rfl rfl rfl rfl rfl rfl rfl (by kernel_rfl) rfl rfl rfl rfl rfl (fun n hn => by cases hn; decide) rfl rfl rfl (by omega) (by omega) ?_
            refine xl_go tt_ok ?_
            exact finO2 (k := 5) rfl
end Go.Proofs.YtnjmkeijjapejaaDoor
namespace Go.Proofs.YtnjmkeijjapejaaDoor
open Go.GV Go.RowKit
end Go.Proofs.YtnjmkeijjapejaaDoor
namespace Go.Proofs.YtnjmkeijjapejaaDoor
open Go.GV Go.RowKit
set_option maxRecDepth 100000 in
theorem words_bad (s : ByteArray) (w : World) (hg : Glob (im w)) (hz : s.size ≤ 4294967280) (h : (insP s).2 = false) :
    Calls Tryd.prog 16 #[.string s] w (PureP w fun v _ => v = .tuple #[.slice none 0 0, .int .i64 2]) := by
  refine x_fun tt_ok Tryd.func16 rfl rfl [] 0 [.v (.string s)] rfl rfl rfl rfl (fun b hb => by cases hb) ?_
  refine x_vc tt_ok ?_
  refine xl_call0 (.tuple #[.string (insP s).1, .bool (insP s).2]) rfl rfl rfl rfl fn34 rfl rfl (fun E w F hs => inside_any s hz w (hg.imm hs.imm)) ?_
  refine xl_go tt_ok ?_
  refine x_ift (by show (!(insP s).2) = true; rw [h]; rfl) ?_
  exact fin1 (fun _ _ => rfl)
end Go.Proofs.YtnjmkeijjapejaaDoor
namespace Go.Proofs.YtnjmkeijjapejaaDoor
open Go.GV Go.RowKit
set_option maxHeartbeats 1000000 in
set_option maxRecDepth 100000 in
theorem tells_bad (s : ByteArray) (ind col : Int) (w : World) (hg : Glob (im w)) (hb : blockP s = false) : Calls Tryd.prog 4 #[.string s, .int .i64 ind, .int .i64 col] w (PureP w fun v _ => v = .bool true) := by
  refine x_fun tt_ok Tryd.func4 rfl rfl [] 0 [.v (.string s), .v (.int .i64 ind), .v (.int .i64 col)] rfl rfl rfl rfl (fun b hb => by cases hb) ?_
  refine x_vc tt_ok ?_
  refine x_if (fun h => ?_) (fun h => ?_)
  · exact fin1 (fun _ _ => rfl)
  · have h : ¬ (3000 : Int) < s.size := of_decide_eq_false h
    have hs : s.size ≤ 5000 := by omega
    have hS := small_of hs
    have hi2 : (insP s).2 = false := by rw [insP_snd]; exact hb
    have e1 : (Value.tuple #[.bool ((insP s).2 && keptB (insP s).1), .int .i64 (if (insP s).2 then 0 else 2)]) = .tuple #[.bool false, .int .i64 2] := by rw [hi2]; rfl
    refine xl_call0 (.tuple #[.bool false, .int .i64 2]) rfl rfl rfl rfl fn13 rfl rfl (fun E w F hs' => by
      have h9 := keptX_any s w (hg.imm hs'.imm) hS.size
      rw [e1] at h9
      exact h9) ?_
    refine xl_go tt_ok ?_
    refine xl_call0 (.tuple #[.slice none 0 0, .int .i64 2]) rfl rfl rfl rfl fn16 rfl rfl (fun E w F hs' => words_bad s w (hg.imm hs'.imm) hS.size hi2) ?_
    refine xl_go tt_ok ?_
    refine xl_callO2 9 (strY.d (fillsP s ind col).1) [.int .i64 (fillsP s ind col).2] rfl rfl rfl rfl fn12 rfl rfl (fun E w F hs' => fills_any s ind col w (hg.imm hs'.imm) hS) ?_
    refine xl_go tt_ok ?_
    refine xl_callO2 9 (strY.d (fillsP s ind col).1) [.int .i64 (fillsP s ind col).2] rfl rfl rfl rfl fn17 rfl rfl (fun E w F hs' => docFill_any s ind col w (hg.imm hs'.imm) hs) ?_
    refine xl_go tt_ok ?_
    refine xl_call0 (.bool true) rfl rfl rfl rfl fn18 rfl rfl (fun E w F hs' => by
      have h9 := sameTexts_any (fillsP s ind col).1 (fillsP s ind col).1 _ _ w (hs'.rowAt (k := 0) rfl) (hs'.rowAt (k := 1) rfl)
      rw [decide_eq_true rfl] at h9
      exact h9) ?_
    refine xl_go tt_ok ?_
    refine x_if (fun h2 => ?_) (fun h2 => ?_)
    · have h2 : (!true || decide ((fillsP s ind col).2 ≠ (fillsP s ind col).2)) = true := h2
      simp at h2
    · refine xl_call0 (.bool false) rfl rfl rfl rfl fn19 rfl rfl (fun E w F hs' => by
        have h9 := dblock_any s w hS.size
        rw [hb] at h9
        exact h9) ?_
      refine xl_go tt_ok ?_
      refine x_ift rfl ?_
      repeat (refine And.intro ?_ ?_; first | omega | (simp only [Lay.d_n]; omega) | (simp only [decide_eq_true_eq, decide_eq_false_iff_not, Bool.or_eq_false_iff, Bool.and_eq_true, Bool.or_eq_true, Bool.and_eq_false_iff, Bool.not_eq_true', Bool.not_eq_false', Lay.d_n]; omega) | (simp only [decide_eq_true_eq, decide_eq_false_iff_not, Bool.or_eq_false_iff, Bool.and_eq_true, Bool.or_eq_true, Bool.and_eq_false_iff, Bool.not_eq_true', Bool.not_eq_false']; omega) | (simp only [decide_eq_true_eq, decide_eq_false_iff_not, Bool.or_eq_false_iff]; simp only [Lay.d_n]; omega))
      exact fin1 (fun _ _ => rfl)
end Go.Proofs.YtnjmkeijjapejaaDoor
namespace Go.Proofs.YtnjmkeijjapejaaDoor
open Go.GV Go.RowKit
theorem SI.slAt {w : World} {p : SI} (h : p.own w) : SlAt (im w) p.x p.D :=
  (ownAt_of (lo := 0) h (fun _ _ => Nat.zero_le _)).slAt.sub (cut_sub 0 _)
theorem parAt_star {E : Env} {ow : GV.Own} {nx : Nat} {u : Im} {df : List Deferred} {w : World} {F : Nat → Nat → Prop} (hs : Sat E ow nx u df w F) {k : Nat} {V : List SlV} {R : Par} {A : Option Addr} {c : Nat}
    (hk : GV.look ow k = some (.gen (starHp (itemsP V R ++ [⟨.slice A R.length c, 23, slY.d V⟩])))) (hV : V.length = R.length) : ParAt (im w) (.slice A R.length c) R := by
  obtain ⟨h1, _, _⟩ := hs.holds k _ hk
  refine ⟨V, hV, SI.slAt (h1 _ (List.mem_append_right _ (List.mem_singleton.2 rfl))), fun i p hp => ?_⟩
  have hil : i < R.length := (List.getElem?_eq_some_iff.1 hp).1
  have := SI.slAt (h1 _ (List.mem_append_left _ (List.mem_of_getElem? (itemsP_get (V := V) (R := R) (i := i) (by omega) hil))))
  rw [getD_ofP hp] at this
  exact this
end Go.Proofs.YtnjmkeijjapejaaDoor
namespace Go.Proofs.YtnjmkeijjapejaaDoor
open Go.GV Go.RowKit
def moreB : ByteArray := ⟨#[109, 111, 114, 101]⟩
def woB : ByteArray := ⟨#[119, 114, 105, 116, 116, 101, 110, 32, 111, 118, 101, 114]⟩
set_option maxHeartbeats 2000000 in
set_option maxRecDepth 100000 in
theorem tells_good (s : ByteArray) (ind col : Int) (w : World) (hg : Glob (im w)) (hb : blockP s = true) : Calls Tryd.prog 4 #[.string s, .int .i64 ind, .int .i64 col] w (PureP w fun v _ => v = .bool true) := by
  refine x_fun tt_ok Tryd.func4 rfl rfl [] 0 [.v (.string s), .v (.int .i64 ind), .v (.int .i64 col)] rfl rfl rfl rfl (fun b hb => by cases hb) ?_
  refine x_vc tt_ok ?_
  refine x_if (fun h => ?_) (fun h => ?_)
  · exact fin1 (fun _ _ => rfl)
  · have h : ¬ (3000 : Int) < s.size := of_decide_eq_false h
    have hs : s.size ≤ 5000 := by omega
    have hS := small_of hs
    have hi2 : (insP s).2 = true := by rw [insP_snd]; exact hb
    have e1 : (Value.tuple #[.bool ((insP s).2 && keptB (insP s).1), .int .i64 (if (insP s).2 then 0 else 2)]) = .tuple #[.bool (keptB (insP s).1), .int .i64 0] := by rw [hi2]; rfl
    refine xl_call0 (.tuple #[.bool (keptB (insP s).1), .int .i64 0]) rfl rfl rfl rfl fn13 rfl rfl (fun E w F hs' => by
      have h9 := keptX_any s w (hg.imm hs'.imm) hS.size
      rw [e1] at h9
      exact h9) ?_
    refine xl_go tt_ok ?_
    have hW : ∀ w, Glob (im w) → Calls Tryd.prog 16 #[.string s] w (PureP w (StarR (fun t : Option Addr × Nat × List SlV => .tuple #[.slice t.1 (parP (insP s).1).length t.2.1, .int .i64 0]) (fun t => itemsP t.2.2 (parP (insP s).1) ++ [(⟨.slice t.1 (parP (insP s).1).length t.2.1, 23, slY.d t.2.2⟩ : SI)]) (fun t => t.2.2.length = (parP (insP s).1).length))) := fun w hg => words_good s w hg hS hi2
    have hD : ∀ w, Calls Tryd.prog 20 #[.string s] w (PureP w (ParsR (parP (insP s).1))) := fun w => docWords_any s w hb hs
    have hnum : szR (parP (insP s).1) ≤ 100000000000 := by have := hS.num; omega
    have hnum2 : (parP (insP s).1).length ≤ 100000000000 := by have := hS.num; omega
    generalize parP (insP s).1 = R at hW hD hnum hnum2
    refine xl_callStar (σ := Option Addr × Nat × List SlV) (fun t => .tuple #[.slice t.1 R.length t.2.1, .int .i64 0]) (fun t => itemsP t.2.2 R ++ [(⟨.slice t.1 R.length t.2.1, 23, slY.d t.2.2⟩ : SI)]) (fun t => t.2.2.length = R.length) rfl rfl rfl rfl fn16 rfl rfl (fun E w F hs' => hW w (hg.imm hs'.imm)) (fun ⟨A, c, V⟩ hV => ?_)
    have hV : V.length = R.length := hV
    refine xl_go tt_ok ?_
    refine xl_callO2 9 (strY.d (fillsP s ind col).1) [.int .i64 (fillsP s ind col).2] rfl rfl rfl rfl fn12 rfl rfl (fun E w F hs' => fills_any s ind col w (hg.imm hs'.imm) hS) ?_
    refine xl_go tt_ok ?_
    refine xl_callO2 9 (strY.d (fillsP s ind col).1) [.int .i64 (fillsP s ind col).2] rfl rfl rfl rfl fn17 rfl rfl (fun E w F hs' => docFill_any s ind col w (hg.imm hs'.imm) hs) ?_
    refine xl_go tt_ok ?_
    refine xl_call0 (.bool true) rfl rfl rfl rfl fn18 rfl rfl (fun E w F hs' => by
      have h9 := sameTexts_any (fillsP s ind col).1 (fillsP s ind col).1 _ _ w (hs'.rowAt (k := 1) rfl) (hs'.rowAt (k := 2) rfl)
      rw [decide_eq_true rfl] at h9
      exact h9) ?_
    refine xl_go tt_ok ?_
    refine x_if (fun h2 => ?_) (fun h2 => ?_)
    · have h2 : (!true || decide ((fillsP s ind col).2 ≠ (fillsP s ind col).2)) = true := h2
      simp at h2
    · refine xl_call0 (.bool true) rfl rfl rfl rfl fn19 rfl rfl (fun E w F hs' => by
        have h9 := dblock_any s w hS.size
        rw [hb] at h9
        exact h9) ?_
      refine xl_go tt_ok ?_
      refine x_iff rfl ?_
      refine xl_callStar (σ := Option Addr × Nat × List SlV) (fun t => .slice t.1 R.length t.2.1) (fun t => itemsP t.2.2 R ++ [(⟨.slice t.1 R.length t.2.1, 23, slY.d t.2.2⟩ : SI)]) (fun t => t.2.2.length = R.length) rfl rfl rfl rfl fn20 rfl rfl (fun E w F hs' => hD w) (fun ⟨A2, c2, V2⟩ hV2 => ?_)
      have hV2 : V2.length = R.length := hV2
      refine xl_freezeStar 3 (sl := itemsP V2 R ++ [(⟨.slice A2 R.length c2, 23, slY.d V2⟩ : SI)]) rfl (fun u1 hu1 hfr => ?_)
      have hOut : SlAt u1 (.slice A2 R.length c2) (slY.d V2) := (hfr _ (List.mem_append_right _ (List.mem_singleton.2 rfl))).1
      have hIn : ∀ (i : Nat) p, R[i]? = some p → SlAt u1 (V2.getD i ⟨none, 0, 0⟩).val (strY.d p) := fun i p hp => by
        have hil : i < R.length := (List.getElem?_eq_some_iff.1 hp).1
        have := hfr _ (List.mem_append_left _ (List.mem_of_getElem? (itemsP_get (V := V2) (R := R) (i := i) (by omega) hil)))
        rw [getD_ofP hp] at this
        exact this.1
      refine xl_go tt_ok ?_
      refine xl_gcall0 (.bool (keptB (insP s).1)) rfl rfl rfl rfl fn21 rfl rfl (fun _ E w F _ => dkept_any s w hb (by omega)) ?_
      refine xl_go tt_ok ?_
      refine xl_gcall0 (.bool true) rfl rfl rfl rfl fn22 rfl rfl (fun _ E w F hs' => by
        have h9 := same_any R R (.slice A R.length c) (.slice A2 R.length c2) w (parAt_star hs' (k := 0) rfl hV) ⟨V2, hV2, hOut.imm hs'.imm, fun i p hp => (hIn i p hp).imm hs'.imm⟩
        rw [decide_eq_true rfl] at h9
        exact h9) ?_
      refine xl_go tt_ok ?_
      have hflen := fills_len (ind := ind) (col := col) hS hs
      refine x_if (fun h5 => ?_) (fun h5 => ?_)
      · simp at h5
      · refine x_loop (σ := Nat × List ByteArray) (fun (i, L) => ⟨[(16, .v (.int .i64 (i : Int))), (0, .v (.string s)), (1, .v (.int .i64 ind)), (2, .v (.int .i64 col)), (9, .v (.slice A R.length c)), (11, .r 1), (13, .r 2), (15, .v (.slice A2 R.length c2))], [],
            [(0, .gen (starHp (itemsP V R ++ [(⟨.slice A R.length c, 23, slY.d V⟩ : SI)]))), (1, .row 9 (strY.d L)), (2, .row 9 (strY.d (fillsP s ind col).1))], 4⟩)
          (fun (i, L) _ => i ≤ L.length ∧ L.length = (fillsP s ind col).1.length) (fun (i, L) => (fillsP s ind col).1.length - i) (fun _ => of_decide_eq_true rfl) (0, (fillsP s ind col).1) [] (.of rfl rfl rfl rfl rfl rfl) ⟨Nat.zero_le _, rfl⟩ ?_
        rintro ⟨i, L⟩ u5 hu5 ⟨g1, g2⟩
        refine x_vc tt_ok ?_
        refine x_if (fun h6 => ?_) (fun h6 => ?_)
        · have h6 : (i : Int) < ((L.length : Nat) : Int) := of_decide_eq_true h6
          repeat (refine And.intro ?_ ?_; first | omega | (simp only [Lay.d_n]; omega) | (simp only [decide_eq_true_eq, decide_eq_false_iff_not, Bool.or_eq_false_iff, Bool.and_eq_true, Bool.or_eq_true, Bool.and_eq_false_iff, Bool.not_eq_true', Bool.not_eq_false', Lay.d_n]; omega) | (simp only [decide_eq_true_eq, decide_eq_false_iff_not, Bool.or_eq_false_iff, Bool.and_eq_true, Bool.or_eq_true, Bool.and_eq_false_iff, Bool.not_eq_true', Bool.not_eq_false']; omega) | (simp only [decide_eq_true_eq, decide_eq_false_iff_not, Bool.or_eq_false_iff]; simp only [Lay.d_n]; omega))
          refine xl_set tt_ok (cs := [.string woB]) strY L woB rfl rfl rfl rfl rfl rfl rfl (by omega) (by omega) rfl rfl (Nat.le_refl 1) rfl ?_
          refine xl_go tt_ok ?_
          repeat (refine And.intro ?_ ?_; first | omega | (simp only [Lay.d_n]; omega) | (simp only [decide_eq_true_eq, decide_eq_false_iff_not, Bool.or_eq_false_iff, Bool.and_eq_true, Bool.or_eq_true, Bool.and_eq_false_iff, Bool.not_eq_true', Bool.not_eq_false', Lay.d_n]; omega) | (simp only [decide_eq_true_eq, decide_eq_false_iff_not, Bool.or_eq_false_iff, Bool.and_eq_true, Bool.or_eq_true, Bool.and_eq_false_iff, Bool.not_eq_true', Bool.not_eq_false']; omega) | (simp only [decide_eq_true_eq, decide_eq_false_iff_not, Bool.or_eq_false_iff]; simp only [Lay.d_n]; omega))
          exact again (i + 1, L.set ((i : Nat) : Int).toNat woB) [] (.of rfl rfl rfl rfl rfl rfl) ⟨by rw [List.length_set]; omega, by rw [List.length_set]; exact g2⟩ (by show (fillsP s ind col).1.length - (i + 1) < (fillsP s ind col).1.length - i; omega)
        · have hitem : (itemsP V R ++ [(⟨.slice A R.length c, 23, slY.d V⟩ : SI)])[R.length]? = some ⟨.slice A R.length c, 23, slY.d V⟩ := by
            rw [List.getElem?_append_right (by rw [itemsP_len hV]; exact Nat.le_refl _), itemsP_len hV, Nat.sub_self]; rfl
          have hset : (itemsP V R ++ [(⟨.slice A R.length c, 23, slY.d V⟩ : SI)]).set R.length SI.hole = itemsP V R ++ [SI.hole] := by
            rw [List.set_append_right _ _ (by rw [itemsP_len hV]; exact Nat.le_refl _), itemsP_len hV, Nat.sub_self]; rfl
          refine x_sl 15 rfl (hOut.le (hu5)) ?_
          refine x_unpark 9 0 R.length rfl rfl hitem ?_
          refine x_loop (σ := Nat × List SlV × Par) (fun (i, V', R') => ⟨[(17, .v (.int .i64 (i : Int))), (0, .v (.string s)), (1, .v (.int .i64 ind)), (2, .v (.int .i64 col)), (9, .r 5), (13, .r 2), (15, .r 4)], [],
              [(4, .sl (slY.d V2)), (5, .row 23 (slY.d V')), (0, .gen (starHp (itemsP V' R' ++ [SI.hole]))), (2, .row 9 (strY.d (fillsP s ind col).1))], 6⟩)
            (fun (i, V', R') _ => i ≤ R.length ∧ V'.length = R.length ∧ R'.length = R.length ∧ ∀ j, i ≤ j → R'[j]? = R[j]?) (fun (i, _, _) => R.length - i) (fun _ => of_decide_eq_true rfl) (0, V, R) [] (by simp only [hset]; exact .of rfl rfl rfl rfl rfl rfl) ⟨Nat.zero_le _, hV, rfl, fun _ _ => rfl⟩ ?_
          rintro ⟨j, V', R'⟩ u6 hu6 ⟨k1, k2, k3, k4⟩
          have hg6 : Glob u6 := ((hg.sub hu1.sub).sub hu5.sub).sub hu6.sub
          refine x_vc tt_ok ?_
          refine x_if (fun h7 => ?_) (fun h7 => ?_)
          · have h7 : ((j : Nat) : Int) < ((V'.length : Nat) : Int) := of_decide_eq_true h7
            obtain ⟨p, hp⟩ : ∃ p, R[j]? = some p := ⟨_, List.getElem?_eq_getElem (by omega)⟩
            have hp' : R'[j]? = some p := by rw [k4 j (Nat.le_refl _)]; exact hp
            have hpl : p.length ≤ szR R := getP_len p (List.mem_of_getElem? hp)
            have hszR : szR R ≤ 100000000000 := hnum
            have hVR' : V'.length = R'.length := by omega
            have hget : (itemsP V' R' ++ [SI.hole])[((j : Nat) : Int).toNat]? = some ⟨(V'.getD ((j : Nat) : Int).toNat ⟨none, 0, 0⟩).val, 9, strY.d p⟩ := by
              rw [Int.toNat_natCast, List.getElem?_append_left (by rw [itemsP_len hVR']; omega), itemsP_get (by omega) (by omega), getD_ofP hp']
            repeat (refine And.intro ?_ ?_; first | omega | (simp only [Lay.d_n]; omega) | (simp only [decide_eq_true_eq, decide_eq_false_iff_not, Bool.or_eq_false_iff, Bool.and_eq_true, Bool.or_eq_true, Bool.and_eq_false_iff, Bool.not_eq_true', Bool.not_eq_false', Lay.d_n]; omega) | (simp only [decide_eq_true_eq, decide_eq_false_iff_not, Bool.or_eq_false_iff, Bool.and_eq_true, Bool.or_eq_true, Bool.and_eq_false_iff, Bool.not_eq_true', Bool.not_eq_false']; omega) | (simp only [decide_eq_true_eq, decide_eq_false_iff_not, Bool.or_eq_false_iff]; simp only [Lay.d_n]; omega))
            refine xl_unpark 113 0 ((j : Nat) : Int).toNat rfl rfl hget ?_
            refine xl_push tt_ok strY p moreB 16 (cs := [.string moreB]) rfl rfl rfl rfl rfl rfl rfl rfl rfl rfl rfl rfl (by kernel_rfl) rfl rfl rfl rfl rfl (fun n hn => by cases hn; decide) rfl rfl rfl (by omega) (by omega) ?_
            refine xl_go tt_ok ?_
            repeat (refine And.intro ?_ ?_; first | omega | (simp only [Lay.d_n]; omega) | (simp only [decide_eq_true_eq, decide_eq_false_iff_not, Bool.or_eq_false_iff, Bool.and_eq_true, Bool.or_eq_true, Bool.and_eq_false_iff, Bool.not_eq_true', Bool.not_eq_false', Lay.d_n]; omega) | (simp only [decide_eq_true_eq, decide_eq_false_iff_not, Bool.or_eq_false_iff, Bool.and_eq_true, Bool.or_eq_true, Bool.and_eq_false_iff, Bool.not_eq_true', Bool.not_eq_false']; omega) | (simp only [decide_eq_true_eq, decide_eq_false_iff_not, Bool.or_eq_false_iff]; simp only [Lay.d_n]; omega))
            refine xl_park 7 0 ((j : Nat) : Int).toNat rfl rfl (List.getElem?_set_self (by rw [List.length_append, itemsP_len hVR']; simp; omega)) rfl (fun A' c' => ?_)
            refine xl_set tt_ok (cs := [.slice A' (strY.d (p ++ [moreB])).n c']) slY V' ⟨A', (strY.d (p ++ [moreB])).n, c'⟩ rfl rfl rfl rfl rfl rfl rfl (by omega) (by omega) rfl rfl (Nat.le_refl 1) rfl ?_
            refine xl_go tt_ok ?_
            obtain ⟨J, hJ⟩ : ∃ J, J = ((j : Nat) : Int).toNat := ⟨_, rfl⟩
            obtain ⟨v, hv⟩ : ∃ v : SlV, v = ⟨A', (strY.d (p ++ [moreB])).n, c'⟩ := ⟨_, rfl⟩
            have hJl : J < R'.length := by omega
            have hJv : (V'.set J v).getD J ⟨none, 0, 0⟩ = v := getD_ofP (List.getElem?_set_self (by omega))
            have hJs : ∀ X : List ByteArray, (itemsP (V'.set J v) (R'.set J X) ++ [SI.hole])[J]? = some ⟨((V'.set J v).getD J ⟨none, 0, 0⟩).val, 9, strY.d X⟩ := fun X => by
              rw [List.getElem?_append_left (by rw [itemsP_len (by simp; omega)]; simp; omega), itemsP_get (by simp; omega) (by simp; omega), getD_ofP (L := R'.set J X) (List.getElem?_set_self hJl)]
            have hstar : ((itemsP V' R' ++ [SI.hole]).set J SI.hole).set J ⟨.slice A' (strY.d (p ++ [moreB])).n c', 9, strY.d (p ++ [moreB])⟩ = itemsP (V'.set J v) (R'.set J (p ++ [moreB])) ++ [SI.hole] := by
              rw [List.set_set, List.set_append_left _ _ (by rw [itemsP_len hVR']; exact hJl), itemsP_set, hv]; rfl
            have hnext : ∀ (X : List ByteArray) (k : Nat), (itemsP (V'.set J v) (R'.set J X) ++ [SI.hole]).set J ⟨((V'.set J v).getD J ⟨none, 0, 0⟩).val, 9, strY.d (X.set ((k : Nat) : Int).toNat woB)⟩ = itemsP (V'.set J v) (R'.set J (X.set ((k : Nat) : Int).toNat woB)) ++ [SI.hole] := fun X k => by
              rw [List.set_append_left _ _ (by rw [itemsP_len (by simp; omega)]; simp; omega), hJv, ← itemsP_set, List.set_set, List.set_set]
            have hvn : v.n = p.length + 1 := by rw [hv]; simp [Lay.d_n]
            refine x_loop (σ := Nat × List ByteArray) (fun (k, X) => ⟨[(18, .v (.int .i64 (k : Int))), (17, .v (.int .i64 (j : Int))), (0, .v (.string s)), (1, .v (.int .i64 ind)), (2, .v (.int .i64 col)), (9, .r 5), (13, .r 2), (15, .r 4)], [],
                [(4, .sl (slY.d V2)), (5, .row 23 (slY.d (V'.set J v))), (0, .gen (starHp (itemsP (V'.set J v) (R'.set J X) ++ [SI.hole]))), (2, .row 9 (strY.d (fillsP s ind col).1))], 8⟩)
              (fun (k, X) _ => k ≤ X.length ∧ X.length = p.length + 1) (fun (k, X) => p.length + 1 - k) (fun _ => of_decide_eq_true rfl) (0, p ++ [moreB]) [] (by simp only [← hJ, ← hv, hstar]; exact .of rfl rfl rfl rfl rfl rfl) ⟨Nat.zero_le _, by simp⟩ ?_
            rintro ⟨k, X⟩ u7 hu7 ⟨q1, q2⟩
            have hjJ : ((j : Nat) : Int) < (slY.d (V'.set J v)).n := by rw [Lay.d_n, List.length_set]; exact h7
            refine x_vc tt_ok ?_
            repeat (refine And.intro ?_ ?_; first | omega | (simp only [Lay.d_n]; omega) | (simp only [decide_eq_true_eq, decide_eq_false_iff_not, Bool.or_eq_false_iff, Bool.and_eq_true, Bool.or_eq_true, Bool.and_eq_false_iff, Bool.not_eq_true', Bool.not_eq_false', Lay.d_n]; omega) | (simp only [decide_eq_true_eq, decide_eq_false_iff_not, Bool.or_eq_false_iff, Bool.and_eq_true, Bool.or_eq_true, Bool.and_eq_false_iff, Bool.not_eq_true', Bool.not_eq_false']; omega) | (simp only [decide_eq_true_eq, decide_eq_false_iff_not, Bool.or_eq_false_iff]; simp only [Lay.d_n]; omega))
            have hJn : ((V'.set J v).getD ((j : Nat) : Int).toNat slY.dft).n = p.length + 1 := by rw [← hJ]; show ((V'.set J v).getD J ⟨none, 0, 0⟩).n = _; rw [hJv, hvn]
            refine x_if (fun h8 => ?_) (fun h8 => ?_)
            · have h8 : ((k : Nat) : Int) < (((V'.set J v).getD ((j : Nat) : Int).toNat slY.dft).n : Nat) := of_decide_eq_true h8
              rw [hJn] at h8
              repeat (refine And.intro ?_ ?_; first | omega | (simp only [Lay.d_n]; omega) | (simp only [decide_eq_true_eq, decide_eq_false_iff_not, Bool.or_eq_false_iff, Bool.and_eq_true, Bool.or_eq_true, Bool.and_eq_false_iff, Bool.not_eq_true', Bool.not_eq_false', Lay.d_n]; omega) | (simp only [decide_eq_true_eq, decide_eq_false_iff_not, Bool.or_eq_false_iff, Bool.and_eq_true, Bool.or_eq_true, Bool.and_eq_false_iff, Bool.not_eq_true', Bool.not_eq_false']; omega) | (simp only [decide_eq_true_eq, decide_eq_false_iff_not, Bool.or_eq_false_iff]; simp only [Lay.d_n]; omega))
              refine xl_setStar tt_ok strY X woB 0 J (cs := [.string woB]) (px := ((V'.set J v).getD J ⟨none, 0, 0⟩).val) rfl rfl rfl rfl rfl rfl rfl rfl rfl rfl rfl (by rw [hJ]; rfl) rfl (hJs X) rfl (by omega) (by omega) rfl rfl (Nat.le_refl 1) (fun t ht => by cases ht) rfl rfl rfl ?_
              refine xl_go tt_ok ?_
              repeat (refine And.intro ?_ ?_; first | omega | (simp only [Lay.d_n]; omega) | (simp only [decide_eq_true_eq, decide_eq_false_iff_not, Bool.or_eq_false_iff, Bool.and_eq_true, Bool.or_eq_true, Bool.and_eq_false_iff, Bool.not_eq_true', Bool.not_eq_false', Lay.d_n]; omega) | (simp only [decide_eq_true_eq, decide_eq_false_iff_not, Bool.or_eq_false_iff, Bool.and_eq_true, Bool.or_eq_true, Bool.and_eq_false_iff, Bool.not_eq_true', Bool.not_eq_false']; omega) | (simp only [decide_eq_true_eq, decide_eq_false_iff_not, Bool.or_eq_false_iff]; simp only [Lay.d_n]; omega))
              refine again (k + 1, X.set ((k : Nat) : Int).toNat woB) [] (by simp only [hnext]; exact .of rfl rfl rfl rfl rfl rfl) ⟨by rw [List.length_set]; omega, by rw [List.length_set]; exact q2⟩ (by show p.length + 1 - (k + 1) < p.length + 1 - k; omega)
            · have hV2n : ((slY.d V2).n : Int) = R.length := by rw [Lay.d_n, hV2]
              have hVn : ((slY.d (V'.set J v)).n : Int) = R.length := by rw [Lay.d_n, List.length_set, k2]
              have hVn' : (V'.set J v).length = R.length := by rw [List.length_set, k2]
              refine x_draw mix (by kernel_rfl) (xd_go tt_ok ?_)
              repeat (refine And.intro ?_ ?_; first | omega | (simp only [Lay.d_n]; omega) | (simp only [decide_eq_true_eq, decide_eq_false_iff_not, Bool.or_eq_false_iff, Bool.and_eq_true, Bool.or_eq_true, Bool.and_eq_false_iff, Bool.not_eq_true', Bool.not_eq_false', Lay.d_n]; omega) | (simp only [decide_eq_true_eq, decide_eq_false_iff_not, Bool.or_eq_false_iff, Bool.and_eq_true, Bool.or_eq_true, Bool.and_eq_false_iff, Bool.not_eq_true', Bool.not_eq_false']; omega) | (simp only [decide_eq_true_eq, decide_eq_false_iff_not, Bool.or_eq_false_iff]; simp only [Lay.d_n]; omega))
              refine xd_call0 (.bool true) rfl rfl rfl rfl fn18 rfl rfl (fun hgd E w F hs' => by
                have h9 : ((j : Nat) : Int) + 1 < (slY.d (V'.set J v)).n := of_decide_eq_true hgd.1
                obtain ⟨p2, hp2⟩ : ∃ p2, R[j + 1]? = some p2 := ⟨_, List.getElem?_eq_getElem (by omega)⟩
                have hq := ((((hIn (j + 1) p2 hp2).le hu5).le hu6).le hu7).imm hs'.imm
                obtain ⟨st1, _, _⟩ := hs'.holds 0 _ rfl
                have hi := SI.slAt (st1 _ (List.mem_append_left _ (List.mem_of_getElem? (itemsP_get (V := V'.set J v) (R := R'.set J X) (i := j + 1) (by rw [List.length_set]; omega) (by rw [List.length_set]; omega)))))
                have hR2 : (R'.set J X).getD (j + 1) [] = p2 := getD_ofP (by rw [List.getElem?_set_ne (by omega), k4 (j + 1) (by omega)]; exact hp2)
                rw [hR2] at hi
                have h10 := sameTexts_any p2 p2 _ _ w hi hq
                rw [decide_eq_true rfl] at h10
                have e1 : (((j : Nat) : Int) + 1).toNat = j + 1 := by omega
                show Calls Tryd.prog 18 #[((V'.set J v).getD (((j : Nat) : Int) + 1).toNat ⟨none, 0, 0⟩).val, (V2.getD (((j : Nat) : Int) + 1).toNat ⟨none, 0, 0⟩).val] w _
                rw [e1]
                exact h10) ?_
              refine xd_go tt_ok ?_
              repeat (refine And.intro ?_ ?_; first | omega | (simp only [Lay.d_n]; omega) | (simp only [decide_eq_true_eq, decide_eq_false_iff_not, Bool.or_eq_false_iff, Bool.and_eq_true, Bool.or_eq_true, Bool.and_eq_false_iff, Bool.not_eq_true', Bool.not_eq_false', Lay.d_n]; omega) | (simp only [decide_eq_true_eq, decide_eq_false_iff_not, Bool.or_eq_false_iff, Bool.and_eq_true, Bool.or_eq_true, Bool.and_eq_false_iff, Bool.not_eq_true', Bool.not_eq_false']; omega) | (simp only [decide_eq_true_eq, decide_eq_false_iff_not, Bool.or_eq_false_iff]; simp only [Lay.d_n]; omega))
              refine x_if (fun h9 => ?_) (fun h9 => ?_)
              · have h9 : (decide (((j : Nat) : Int) + 1 < (slY.d (V'.set J v)).n) && !true) = true := h9
                simp at h9
              · repeat (refine And.intro ?_ ?_; first | omega | (simp only [Lay.d_n]; omega) | (simp only [decide_eq_true_eq, decide_eq_false_iff_not, Bool.or_eq_false_iff, Bool.and_eq_true, Bool.or_eq_true, Bool.and_eq_false_iff, Bool.not_eq_true', Bool.not_eq_false', Lay.d_n]; omega) | (simp only [decide_eq_true_eq, decide_eq_false_iff_not, Bool.or_eq_false_iff, Bool.and_eq_true, Bool.or_eq_true, Bool.and_eq_false_iff, Bool.not_eq_true', Bool.not_eq_false']; omega) | (simp only [decide_eq_true_eq, decide_eq_false_iff_not, Bool.or_eq_false_iff]; simp only [Lay.d_n]; omega))
                exact again (j + 1, V'.set J v, R'.set J X) [] (.of rfl rfl rfl rfl rfl rfl) ⟨by omega, by rw [List.length_set]; exact k2, by rw [List.length_set]; exact k3, fun i hi => by rw [List.getElem?_set_ne (by omega), k4 i (by omega)]⟩ (by show R.length - (j + 1) < R.length - j; omega)
          · refine xl_callO2 9 (strY.d (fillsP s ind col).1) [.int .i64 (fillsP s ind col).2] rfl rfl rfl rfl fn12 rfl rfl (fun E w F hs' => fills_any s ind col w (hg6.imm hs'.imm) hS) ?_
            refine xl_go tt_ok ?_
            refine xl_call0 (.bool true) rfl rfl rfl rfl fn18 rfl rfl (fun E w F hs' => by
              have h9 := sameTexts_any (fillsP s ind col).1 (fillsP s ind col).1 _ _ w (hs'.rowAt (k := 6) rfl) (hs'.rowAt (k := 2) rfl)
              rw [decide_eq_true rfl] at h9
              exact h9) ?_
            refine xl_go tt_ok ?_
            exact fin1 (fun _ _ => rfl)
end Go.Proofs.YtnjmkeijjapejaaDoor
namespace Go.Proofs.YtnjmkeijjapejaaDoor
open Go.GV Go.RowKit
theorem reflowTells_any (s : ByteArray) (ind col : Int) (w : World) (hg : Glob (im w)) : Calls Tryd.prog 4 #[.string s, .int .i64 ind, .int .i64 col] w (PureP w fun v _ => v = .bool true) := by
  cases hb : blockP s with
  | false => exact tells_bad s ind col w hg hb
  | true => exact tells_good s ind col w hg hb
end Go.Proofs.YtnjmkeijjapejaaDoor
namespace Go.Proofs.YtnjmkeijjapejaaDoor
open Go.ChangeShapes Go.WideShapes Go.ChangeAt Go.RowKit Go.GV
theorem returnsInHanded_and_shapedR {H : Type} {enc : TypeId × Value → H} {a : Assume} {C : Checked} {os : Os} {f : FuncId} {fn : Func} {s : ChangeSpec} {conds : List PathCond} {apart fresh handsOn again : Bool} {X : World → Array Value → Prop}
    (hX : ∀ (w w' : World) (args : Array Value), w.heap = w'.heap → X w args → X w' args)
    (own : ownKnob C.prog.godebug = none) (started : os.Started) (noInit : C.prog.inits.idxOf? f = none) (hfn : C.prog.funcs[f]? = some fn)
    (witness : ∃ (w : World) (tape : Tape) (i : Input), w.os = os ∧ (w.forCall tape i).Shaped C.prog ∧ i.vars = [] ∧ Input.okWide C.prog (w.forCall tape i) .any w.heap.size f i ∧
      ((s.pre enc C.prog fn conds apart (w.forCall tape i).memory i.args ∧ X (w.forCall tape i).memory i.args) ∧ sizedMet enc C.prog fn (OpenSpec.ofChange s) apart (w.forCall tape i).memory i.args) ∧ a.holds C.prog (lone (Frame.enter C.prog f i.args .normal) [] (w.forCall tape i)))
    (contract : ∀ (W : World) (base : Nat) (args : Array Value) (ds gs : List (DataW H)) (before : List MemPlace),
      (∀ (j : Nat) t v, fn.params[j]? = some t → args[j]? = some v → Value.okWide C.prog W .any base t v) →
      DataW.Whole enc C.prog fn.params.toList s.vars apart W args.toList ds gs before →
      conds.all (PathCond.test C.prog ⟨fn.params.toList, ds, s.plain.varTypes C.prog, gs⟩) = true →
      (DataW.weightsEach C.prog (fn.params.toList ++ s.plain.varTypes C.prog) (ds ++ gs)).all (· ≤ reachBytes) = true → X W args → W.ShapedOpen C.prog →
      a.holds C.prog (lone (Frame.enter C.prog f args .normal) [] W) →
      Calls C.prog f args W fun e W' => ∃ v, e = .returned v ∧ s.post enc C.prog fn apart fresh handsOn again W args v W') :
    ReturnsInHanded a C os f .any (fun w args => (s.pre enc C.prog fn conds apart w args ∧ X w args) ∧ sizedMet enc C.prog fn (OpenSpec.ofChange s) apart w args) (s.post enc C.prog fn apart fresh handsOn again) := by
  refine returnsInHanded_of_calls own started noInit witness ?_
  intro w tape i _ hsh _ hok hpre hholds
  obtain ⟨_, _, _, fn', hfn', _, _, _, _, hval⟩ := hok
  have e : fn' = fn := Option.some.inj (hfn'.symm.trans hfn)
  subst e
  obtain ⟨⟨⟨ds, gs, before, hw, hc⟩, hx⟩, hz⟩ := hpre
  have hw' := DataW.Whole.of_heap (w' := w.forCall tape i) (by rfl) hw
  refine (contract (w.forCall tape i) w.heap.size i.args ds gs before hval hw' hc (hz.weights hw) (hX _ _ _ (by rfl) hx) hsh hholds).mono fun e W' ⟨v, he, hp⟩ => ?_
  subst he
  exact ChangeSpec.post_blind hp
def lstR : List (String × DataW Unit) := [("unicode/utf8.acceptRanges", Rows.laid_unicode_utf8_acceptRanges), ("unicode/utf8.first", Rows.laid_unicode_utf8_first)]
theorem lstRB (os : Os) : (World.laidAll Tryd.prog os lstR).os = os := World.laidAll_os _ _ _
theorem metR (os : Os) (args : Array Value) : laidMetH Tryd.prog lstR ((World.laidAll Tryd.prog os lstR).forCall (fun _ _ => 0) ⟨#[], args, []⟩).memory := by
  rw [MakeChecks.laidMetH_plain _ _ _ (by kernel_rfl)]
  exact laidMet_laidAll args (by kernel_rfl) (by kernel_rfl)
end Go.Proofs.YtnjmkeijjapejaaDoor
namespace Go.Proofs.YtnjmkeijjapejaaDoor
open Go.ChangeShapes Go.WideShapes Go.ChangeAt Go.RowKit Go.GV
theorem own : ownKnob Tryd.prog.godebug = none := by kernel_rfl
theorem laidOut : laidOutB Tryd.prog = true := by kernel_rfl
theorem fMaps : mapsRowed Tryd.prog = true := by kernel_rfl
theorem fHeard : Tryd.prog.stopsHeard = true := by kernel_rfl
theorem fEnter : Tryd.prog.mayEnter = true := by kernel_rfl
theorem fLifts : (Rows.condNamesRow.lifted == Tryd.prog.liftsFinal) = true := by kernel_rfl
theorem fMake : (Tryd.prog.make == some Rows.condNamesRow.make) = true := by kernel_rfl
theorem jmk {a0 a1 a2 a3 a4 a5 a6 a7 a8 a9 a10 a11 a12 a13 a14 a15 a16 a17 a18 a19 a20 a21 a22 a23 a24 a25 a26 a27 a28 a29 a30 a31 : Bool} (h0 : a0 = true) (h1 : a1 = true) (h2 : a2 = true) (h3 : a3 = true) (h4 : a4 = true) (h5 : a5 = true) (h6 : a6 = true) (h7 : a7 = true) (h8 : a8 = true) (h9 : a9 = true) (h10 : a10 = true) (h11 : a11 = true) (h12 : a12 = true) (h13 : a13 = true) (h14 : a14 = true) (h15 : a15 = true) (h16 : a16 = true) (h17 : a17 = true) (h18 : a18 = true) (h19 : a19 = true) (h20 : a20 = true) (h21 : a21 = true) (h22 : a22 = true) (h23 : a23 = true) (h24 : a24 = true) (h25 : a25 = true) (h26 : a26 = true) (h27 : a27 = true) (h28 : a28 = true) (h29 : a29 = true) (h30 : a30 = true) (h31 : a31 = true) :
    (a0 && a1 && a2 && a3 && a4 && a5 && a6 && a7 && a8 && a9 && a10 && a11 && a12 && a13 && a14 && a15 && a16 && a17 && a18 && a19 && a20 && a21 && a22 && a23 && a24 && a25 && a26 && a27 && a28 && a29 && a30 && a31) = true := by simp only [h0, h1, h2, h3, h4, h5, h6, h7, h8, h9, h10, h11, h12, h13, h14, h15, h16, h17, h18, h19, h20, h21, h22, h23, h24, h25, h26, h27, h28, h29, h30, h31, Bool.and_self]
end Go.Proofs.YtnjmkeijjapejaaDoor
namespace Go.Proofs.YtnjmkeijjapejaaDoor
open Go.ChangeShapes Go.WideShapes Go.ChangeAt Go.RowKit Go.GV
set_option maxRecDepth 100000 in
theorem liftedReflowTells (os : Os) (started : os.Started) (H : Type) (enc : TypeId × Value → H) :
    ReturnsInHanded {} Tryd.checked os 4 .any (fun w args => (Rows.reflowTellsSpec.pre enc Tryd.prog Tryd.f4 [] false w args ∧ laidMetH Tryd.prog lstR w) ∧ sizedMet enc Tryd.prog Tryd.f4 (OpenSpec.ofChange Rows.reflowTellsSpec) false w args)
      (Rows.reflowTellsSpec.post enc Tryd.prog Tryd.f4 false true false false) := by
  refine returnsInHanded_and_shapedR (C := Tryd.checked) (X := fun w _ => laidMetH Tryd.prog lstR w) (fun _ _ _ hh h => h.of_heap hh) own started (by kernel_rfl) Tryd.func4
    (ChangeSpec.witness_at (enc := enc) (C := Tryd.checked) (os := os) (X := fun w _ => laidMetH Tryd.prog lstR w) false (World.laidAll Tryd.prog os lstR) #[.string ⟨#[]⟩, .int .i64 0, .int .i64 0] 8 (lstRB os) (by kernel_rfl) (by kernel_rfl) (by kernel_rfl) (by kernel_rfl) (by kernel_rfl) (metR os _)) ?_
  intro W base args ds gs before hval0 hW hcnd hz hL hsh _
  have hval : ∀ (j : Nat) t v, Tryd.f4.params[j]? = some t → args[j]? = some v → Value.okWide Tryd.prog W .any base t v := hval0
  have hW' := hW
  obtain ⟨p, q, hA0, hV, rfl, hfz, hnd⟩ := hW
  have hA : DataW.TrodAll enc Tryd.prog W 0 (fun _ => true) true Tryd.f4.params.toList args.toList ds p := hA0
  rw [Tryd.params4] at hA hval hz
  obtain ⟨v0, vs0, d0, ds0, p0, q0, hargs, rfl, rfl, h0, r0⟩ := trodAll_cons hA
  obtain ⟨v1, vs1, d1, ds1, p1, q1, rfl, rfl, rfl, h1, r1⟩ := trodAll_cons r0
  obtain ⟨v2, vs2, d2, ds2, p2, q2, rfl, rfl, rfl, h2, r2⟩ := trodAll_cons r1
  obtain ⟨rfl, rfl, rfl⟩ := trodAll_nil r2
  obtain rfl : args = #[v0, v1, v2] := by cases args; simp_all
  obtain ⟨rfl, rfl⟩ := trodVars_none hV
  obtain ⟨x0, rfl⟩ := okWide_string Tryd.underlying9 (hval 0 9 v0 rfl rfl)
  obtain ⟨x1, rfl⟩ := okWide_int Tryd.underlying3 (hval 1 3 v1 rfl rfl)
  obtain ⟨x2, rfl⟩ := okWide_int Tryd.underlying3 (hval 2 3 v2 rfl rfl)
  have lt0 : ∀ x ∈ p0, x.block < W.heap.size := by obtain ⟨m, hm⟩ := h0; exact DataW.trod_lt m _ _ _ hm
  have lt1 : ∀ x ∈ p1, x.block < W.heap.size := by obtain ⟨m, hm⟩ := h1; exact DataW.trod_lt m _ _ _ hm
  have lt2 : ∀ x ∈ p2, x.block < W.heap.size := by obtain ⟨m, hm⟩ := h2; exact DataW.trod_lt m _ _ _ hm
  have hg : Glob (im W) := Tryd.laysM143.s1_3 W hsh
  clear hA0 hval0
  refine (reflowTells_any x0 x1 x2 W hg).mono fun e W' ⟨v, he, bel, hv⟩ => ?_
  subst he hv
  exact ⟨_, rfl, _, _, _, [], _, [], hW', trodAll_mk1 (shut_bool Tryd.underlying4 _), (trodAll_cons_mk (Below.trod laidOut (by kernel_rfl) (of_decide_eq_true (by kernel_rfl)) h0 bel lt0) (trodAll_cons_mk (Below.trod laidOut (by kernel_rfl) (of_decide_eq_true (by kernel_rfl)) h1 bel lt1) (trodAll_cons_mk (Below.trod laidOut (by kernel_rfl) (of_decide_eq_true (by kernel_rfl)) h2 bel lt2) trodAll_mk0))), rfl, bel.frame _, fun h => by cases h⟩
theorem c94 : (Rows.reflowTellsRow.inPlace == Tryd.prog.inPlace 4) = true := by kernel_rfl
theorem c104 : (Rows.reflowTellsRow.unfollowed == Tryd.prog.unfollowed 4) = true := by kernel_rfl
theorem c114 : (Rows.reflowTellsRow.recurses == Tryd.prog.recurses 4) = true := by kernel_rfl
theorem c124 : (Rows.reflowTellsRow.named == Tryd.prog.varsNamed 4) = true := by kernel_rfl
theorem closed4 : joinedFacts Tryd.prog 4 Tryd.f4 Rows.reflowTellsSpec Rows.reflowTellsRow = true :=
  jmk (by kernel_rfl) laidOut fMaps (by kernel_rfl) (by kernel_rfl) (by kernel_rfl) (by kernel_rfl) (by kernel_rfl) (by kernel_rfl) c94 c104 c114 c124 (by kernel_rfl) (by kernel_rfl) (by kernel_rfl) (by kernel_rfl) (by kernel_rfl) (by kernel_rfl) (by kernel_rfl) (by kernel_rfl) (by kernel_rfl) (by kernel_rfl) (by kernel_rfl) fHeard fEnter fLifts fMake (by kernel_rfl) (by kernel_rfl) (by kernel_rfl) (by kernel_rfl)
theorem named4 : Tryd.prog.funcNamed Rows.reflowTellsRow.func = some 4 := by kernel_rfl
theorem inst4 : Tryd.f4.isInstance Tryd.prog Rows.reflowTellsRow.origin Rows.reflowTellsRow.targs := of_decide_eq_true (by kernel_rfl)
theorem wrap4 : Tryd.f4.isWrapper Tryd.prog Rows.reflowTellsRow.wrapper Rows.reflowTellsRow.mainSum := by unfold Func.isWrapper; first | (rw [if_pos (by decide +kernel)]; kernel_rfl) | (rw [if_neg (by decide +kernel)]; exact ⟨rfl, rfl⟩)
theorem over4 : Rows.reflowTellsRow.holds Tryd.pinned (OpenSpec.ofChange Rows.reflowTellsSpec) :=
  OpenClaim.holds_of_wide 4 Tryd.f4 rfl rfl rfl rfl rfl rfl rfl ⟨rfl, rfl, rfl, rfl, rfl⟩ rfl rfl rfl rfl rfl named4 Tryd.func4 closed4 inst4 wrap4
    (fun os started H enc _ => liftedReflowTells os started H enc)
theorem reflowTells_card : Rows.ReflowTellsCardSaid :=
  Claim7.holds_tied_plain_at .later [] [.data, .pinned] true (true, "d2dc3549195bd91c3a6331492cf9cdda0f904da0e8c74265c77afa656643e87b") false
    over4 (fun _ h => by cases h) (by kernel_rfl) (fun _ h => by cases h) reflowTells_row_tie rfl ⟨rfl, rfl⟩ (by kernel_rfl) rfl
    (fun f fn hf hfn => by
      obtain rfl : f = 4 := Option.some.inj (named4.symm.trans hf) |>.symm
      obtain rfl : fn = Tryd.f4 := (Option.some.inj (Tryd.func4.symm.trans hfn)).symm
      exact ⟨by kernel_rfl, fun j t ht => by
        rw [Tryd.params4] at ht
        have hm := Array.mem_of_getElem? ht
        simp at hm
        rcases hm with rfl | rfl
        · exact (show Tryd.prog.wantsStandIn 9 = false by kernel_rfl)
        · exact (show Tryd.prog.wantsStandIn 3 = false by kernel_rfl)⟩)
    (by kernel_rfl)
#print axioms reflowTells_card
end Go.Proofs.YtnjmkeijjapejaaDoor
