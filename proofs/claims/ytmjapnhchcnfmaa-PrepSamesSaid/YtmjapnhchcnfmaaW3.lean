/- The statement of PrepSames, out of its walk. -/
import Derived.Test.YtmjapnhchcnfmaaW2
import Derived.Test.YtmjapnhchcnfmaaRows
import Derived.ProofKit
import Derived.OpenShut
import Derived.ShutString
import Derived.ChangeOld
import Derived.Below
namespace Go.Proofs.Ytmjapnhchcnfmaa
open Go.ChangeShapes Go.WideShapes Go.ChangeAt Go.RowKit Go.GV

theorem own : ownKnob Try.prog.godebug = none := by kernel_rfl
theorem laidOut : laidOutB Try.prog = true := by kernel_rfl

section
variable {H : Type} {enc : TypeId × Value → H} {w : World}

theorem open_texts {x : Value} (h : Tr enc Try.prog w 23 [x]) : ∃ A n c, x = .slice A n c ∧ n ≤ 9223372036854775807 ∧ SlAt (im w) x (txs n fun i => vStr (cellAt (im w) x 1 i 0)) := by
  obtain ⟨A, n, c, h1, h2, h3, h4⟩ := h.slice Try.underlying23 (by kernel_rfl : _ = 1)
  refine ⟨A, n, c, h1, h2, h3.ext rfl rfl fun i hi j f f' hf hf' => ?_⟩
  match j, hf, hf' with
  | 0, hf, hf' =>
    cases hf; cases hf'
    obtain ⟨s, hs, _⟩ := (h4 i (by omega) (by simp [dataAt] at hi; omega)).str Try.underlying9
    simp only [List.range_succ_eq_map, List.range_zero, List.map_cons, List.map_nil, List.cons.injEq, and_true] at hs
    simp only [hs, vStr]
  | j + 1, hf, hf' => simp at hf'

def ptOf (u : Im) (x : Value) : PT :=
  { n := vN x, k := fun i => vInt (cellAt u x 4 i 0), t := fun i => vStr (cellAt u x 4 i 1), sp := fun i => vBool (cellAt u x 4 i 2),
    pa := fun i => vA (cellAt u x 4 i 3), pn := fun i => vN (cellAt u x 4 i 3), pc := fun i => vC (cellAt u x 4 i 3),
    pt := fun i j => vStr (cellAt u (cellAt u x 4 i 3) 1 j 0) }

theorem open_ptoks {x : Value} (h : Tr enc Try.prog w 24 [x]) : PTat (im w) x (ptOf (im w) x) := by
  obtain ⟨A, n, c, h1, h2, h3, h4⟩ := h.slice Try.underlying24 (by kernel_rfl : _ = 4)
  have hn : vN x = n := by rw [h1]; rfl
  have cell : ∀ i : Int, 0 ≤ i → i < n → (∃ k, cellAt (im w) x 4 i 0 = .int .i64 k) ∧ (∃ s, cellAt (im w) x 4 i 1 = .string s) ∧ (∃ b, cellAt (im w) x 4 i 2 = .bool b) ∧ Tr enc Try.prog w 23 [cellAt (im w) x 4 i 3] := by
    intro i hi1 hi2
    obtain ⟨_, hf⟩ := (h4 i hi1 hi2).strct Try.underlying36 (by kernel_rfl)
    obtain ⟨k, hk, _⟩ := (hf 0 _ _ rfl rfl).int Try.underlying3
    obtain ⟨s, hs, _⟩ := (hf 1 _ _ rfl rfl).str Try.underlying9
    obtain ⟨b, hb⟩ := (hf 2 _ _ rfl rfl).bool Try.underlying4
    exact ⟨⟨k, by simpa using hk⟩, ⟨s, by simpa using hs⟩, ⟨b, by simpa using hb⟩, hf 3 _ _ rfl rfl⟩
  refine ⟨?_, ?_, ?_⟩
  · refine h3.ext hn.symm rfl fun i hi j f f' hf hf' => ?_
    have hi' : i < n := hi
    obtain ⟨⟨k, hk⟩, ⟨s, hs⟩, ⟨b, hb⟩, hp⟩ := cell i (by omega) (by omega)
    obtain ⟨A', n', c', hx, _, _⟩ := open_texts hp
    match j, hf, hf' with
    | 0, hf, hf' => cases hf; cases hf'; simp only [ptOf, hk, vInt]
    | 1, hf, hf' => cases hf; cases hf'; simp only [ptOf, hs, vStr]
    | 2, hf, hf' => cases hf; cases hf'; simp only [ptOf, hb, vBool]
    | 3, hf, hf' => cases hf; cases hf'; simp only [ptOf, PT.v, hx, vA, vN, vC]
    | j + 4, hf, hf' => simp at hf'
  · intro i h5 h6
    have h6' : i < n := by rw [← hn]; exact h6
    obtain ⟨_, _, _, hp⟩ := cell i h5 h6'
    obtain ⟨A', n', c', hx, h7, h8⟩ := open_texts hp
    have e : (ptOf (im w) x).v i = cellAt (im w) x 4 i 3 := by simp only [ptOf, PT.v, hx, vA, vN, vC]
    have e2 : (ptOf (im w) x).pn i = n' := by simp only [ptOf, hx, vN]
    rw [e, e2]
    exact ⟨h8, h7⟩
  · show vN x ≤ _
    rw [hn]; exact h2
end

/-! ### The row -/
set_option maxRecDepth 100000 in
theorem lifted (os : Os) (started : os.Started) (H : Type) (enc : TypeId × Value → H) :
    ReturnsInHanded {} Try.checked os 7 .any (Rows.prepSamesSpec.pre6 enc Try.prog Try.f7 Rows.prepSamesRow.domain false) (Rows.prepSamesSpec.post enc Try.prog Try.f7 false true false false) := by
  refine returnsInHanded_of_change (C := Try.checked) own started (by kernel_rfl) Try.func7
    (ChangeSpec.witness6 (enc := enc) (C := Try.checked) false ⟨#[], #[.slice none 0 0, .slice none 0 0], []⟩ 8 (by kernel_rfl) (by kernel_rfl) (by kernel_rfl) (by kernel_rfl)) ?_
  intro W base args ds gs before hval0 hW hcnd _
  have hval : ∀ (j : Nat) t v, Try.f7.params[j]? = some t → args[j]? = some v → Value.okWide Try.prog W .any base t v := hval0
  have hW' := hW
  obtain ⟨p, q, hA0, hV, rfl, hfz, hnd⟩ := hW
  have hA : DataW.TrodAll enc Try.prog W 0 (fun _ => true) true Try.f7.params.toList args.toList ds p := hA0
  rw [Try.params7] at hA hval
  obtain ⟨v0, vs0, d0, ds0, p0, q0, hargs, rfl, rfl, h0, r0⟩ := trodAll_cons hA
  obtain ⟨v1, vs1, d1, ds1, p1, q1, rfl, rfl, rfl, h1, r1⟩ := trodAll_cons r0
  obtain ⟨rfl, rfl, rfl⟩ := trodAll_nil r1
  obtain rfl : args = #[v0, v1] := by cases args; simp_all
  obtain ⟨rfl, rfl⟩ := trodVars_none hV
  obtain ⟨a0, len0, cap0, e0⟩ := okWide_slice Try.underlying24 (hval 0 24 v0 rfl rfl)
  obtain ⟨a1, len1, cap1, e1⟩ := okWide_slice Try.underlying24 (hval 1 24 v1 rfl rfl)
  have lt0 : ∀ x ∈ p0, x.block < W.heap.size := by obtain ⟨m, hm⟩ := h0; exact DataW.trod_lt m _ _ _ hm
  have lt1 : ∀ x ∈ p1, x.block < W.heap.size := by obtain ⟨m, hm⟩ := h1; exact DataW.trod_lt m _ _ _ hm
  have t0 : Tr enc Try.prog W 24 [v0] := by obtain ⟨m, hm⟩ := h0; rw [e0] at hm ⊢; exact ⟨m, _, hm⟩
  have t1 : Tr enc Try.prog W 24 [v1] := by obtain ⟨m, hm⟩ := h1; rw [e1] at hm ⊢; exact ⟨m, _, hm⟩
  clear hA0 hval0
  refine (prepSames_any _ _ v0 v1 W (open_ptoks t0) (open_ptoks t1)).mono fun e W' ⟨v, he, bel, hv⟩ => ?_
  subst he hv
  exact ⟨_, rfl, _, _, _, [], _, [], hW', trodAll_mk1 (shut_bool Try.underlying4 _), (trodAll_cons_mk (Below.trod laidOut (by kernel_rfl) (of_decide_eq_true (by kernel_rfl)) h0 bel lt0) (trodAll_cons_mk (Below.trod laidOut (by kernel_rfl) (of_decide_eq_true (by kernel_rfl)) h1 bel lt1) trodAll_mk0)), rfl, bel.frame _, fun h => by cases h⟩

theorem over : Rows.prepSamesRow.holds Try.pinned (OpenSpec.ofChange Rows.prepSamesSpec) :=
  OpenClaim.holds_of_wide 7 Try.f7 rfl rfl rfl rfl rfl rfl rfl ⟨rfl, rfl, rfl, rfl, rfl⟩ rfl rfl rfl rfl rfl (by kernel_rfl) Try.func7 (by kernel_rfl)
    (of_decide_eq_true (by kernel_rfl)) (by unfold Func.isWrapper; first | (rw [if_pos (by decide +kernel)]; kernel_rfl) | (rw [if_neg (by decide +kernel)]; exact ⟨rfl, rfl⟩))
    (fun os started H enc _ => lifted os started H enc)

theorem prepSames_proved : Rows.PrepSamesSaid := over
#print axioms prepSames_proved
end Go.Proofs.Ytmjapnhchcnfmaa
