/- Phases with several last operations (generic). -/
import Derived.Test.YtdonomneofdhfaaGZ
namespace Go.GV
open Go.RowKit

def sucZ (md : Region.Mode) (ops : Array Oper) (Z : List Nat) : List Nat → Bool
  | [] => true
  | i :: r => (Z.contains i || r.any fun j => ((ops[j]?).map (·.after.any fun e => Region.binds md e && decide (e.on = i))).getD false) && sucZ md ops Z r
theorem sucZ_all {md : Region.Mode} {ops : Array Oper} {Z : List Nat} {L : Array Bool} (hz : ∀ z ∈ Z, L.getD z false = true) : ∀ (l : List Nat), sucZ md ops Z l = true →
    (∀ j ∈ l, L.getD j false = true → ∀ o, ops[j]? = some o → ∀ e ∈ o.after, Region.binds md e = true → L.getD e.on false = true) → ∀ i ∈ l, L.getD i false = true
  | [], _, _, i, hi => by cases hi
  | p :: r, h, hD, i, hi => by
    simp only [sucZ, Bool.and_eq_true, Bool.or_eq_true, List.contains_iff_mem, List.any_eq_true] at h
    have ih := sucZ_all hz r h.2 (fun j hj => hD j (List.mem_cons_of_mem _ hj))
    rcases List.mem_cons.1 hi with rfl | hi
    · rcases h.1 with h1 | ⟨j, hj, h1⟩
      · exact hz _ h1
      · cases ho : ops[j]? with
        | none => rw [ho] at h1; cases h1
        | some o =>
          rw [ho] at h1
          simp only [Option.map_some, Option.getD_some] at h1
          obtain ⟨e, he, h2⟩ := Array.any_eq_true'.1 h1
          simp only [Bool.and_eq_true, decide_eq_true_eq] at h2
          have := hD j (List.mem_cons_of_mem _ hj) (ih j hj) o ho e he h2.1
          rw [h2.2] at this; exact this
    · exact ih i hi

/-- what is ready between lies in the phase -/
theorem Mid.inside1 {md : Region.Mode} {ops : Array Oper} {L0 L : Array Bool} {l : List Nat} {z i0 : Nat} (h : Mid md ops L0 l L) (hl : ∀ i ∈ l, i < L0.size) (hzL : L.getD z false = false)
    (ho : outL md ops (marks L0 l) z i0 = true) {i : Nat} (hi : i ∈ Region.ready md ops L) : i = i0 ∨ i ∈ l := by
  obtain ⟨h1, o, hoi, h2⟩ := Go.mem_ready.1 hi
  have hout := List.all_eq_true.1 ho i (List.mem_range.2 (Array.getElem?_eq_some_iff.1 hoi).1)
  simp only [Bool.or_eq_true, decide_eq_true_eq] at hout
  rcases hout with (hout | hout) | hout
  · rw [marks_getD l L0 i true hl] at hout
    by_cases hil : i ∈ l
    · exact .inr hil
    · rw [if_neg hil] at hout
      exfalso
      have e := h.lo i hil
      by_cases hsz : i < L0.size
      · have e1 : L0.getD i true = L0.getD i false := by simp [Array.getD, hsz]
        have e2 : L.getD i true = L.getD i false := by
          have : i < L.size := by rw [h.sz]; exact hsz
          simp [Array.getD, this]
        rw [e1, ← e, ← e2, h1] at hout; cases hout
      · have : ¬ i < L.size := by rw [h.sz]; exact hsz
        simp [Array.getD, this] at h1
  · exact .inl hout
  · rw [hoi] at hout
    simp only [Option.map_some, Option.getD_some] at hout
    obtain ⟨e, he, h3⟩ := Array.any_eq_true'.1 hout
    simp only [Bool.and_eq_true, Bool.or_eq_true, decide_eq_true_eq, Bool.not_eq_true'] at h3
    have h4 := h2 e he h3.1
    rcases h3.2 with h5 | h5
    · rw [h5, hzL] at h4; cases h4
    · rw [marks_getD l L0 _ false hl] at h5
      split at h5
      · cases h5
      · rename_i hn; rw [h.lo _ hn, h5] at h4; cases h4

theorem phaseB_midZ {md : Region.Mode} {ops : Array Oper} {L0 : Array Bool} {l : List Nat} (hl : ∀ i ∈ l, i < L0.size) (hnd : l.Nodup) (hins : ∀ (k : Nat) (L : Array Bool), Mid md ops L0 l L → unl L l = k + 1 → ∀ i ∈ Region.ready md ops L, i ∈ l) (hx : lexO md ops l L0 = true) : ∀ (k : Nat) (L : Array Bool), Mid md ops L0 l L → unl L l = k → phaseB md ops (marks L0 l) k L = true
  | 0, L, h, hk => by
    rw [phaseB]; exact decide_eq_true (h.last hl hk)
  | k + 1, L, h, hk => by
    rw [phaseB, Bool.and_eq_true, List.all_eq_true]
    constructor
    · have hsp : ∀ (post pre : List Nat), l = pre ++ post → (∀ i ∈ pre, L.getD i false = true) → unl L post ≠ 0 → ∃ i, i ∈ Region.ready md ops L := by
        intro post
        induction post with
        | nil => intro pre _ _ hne; exact absurd rfl hne
        | cons p post ih =>
          intro pre e hpre hne
          cases hp : L.getD p false with
          | true =>
            refine ih (pre ++ [p]) (by rw [e]; simp) (fun i hi => ?_) ?_
            · rcases List.mem_append.1 hi with hi | hi
              · exact hpre i hi
              · rw [List.mem_singleton.1 hi]; exact hp
            · intro h0
              apply hne
              rw [unl_zero] at h0 ⊢
              intro i hi
              rcases List.mem_cons.1 hi with rfl | hi
              · exact hp
              · exact h0 i hi
          | false =>
            have hr := lexO_split pre p post L0 (e ▸ hx)
            obtain ⟨h1, o, hop, h2⟩ := Go.mem_ready.1 hr
            have hps : p < L.size := by rw [h.sz]; exact hl p (by rw [e]; simp)
            refine ⟨p, Go.mem_ready.2 ⟨by simpa [Array.getD, hps] using hp, o, hop, fun e' he hb => ?_⟩⟩
            have h3 := h2 e' he hb
            rw [marks_getD pre L0 _ false (fun i hi => hl i (by rw [e]; simp [hi]))] at h3
            by_cases hm : e'.on ∈ pre
            · exact hpre _ hm
            · rw [if_neg hm] at h3
              by_cases hml : e'.on ∈ l
              · exfalso
                have hr2 := List.append_of_mem hml
                obtain ⟨a, c, ha⟩ := hr2
                have hra := lexO_split a e'.on c L0 (ha ▸ hx)
                have := ready_un hra
                rw [marks_getD a L0 _ false (fun i hi => hl i (by rw [ha]; simp [hi]))] at this
                split at this
                · cases this
                · rw [h3] at this; cases this
              · rw [h.lo _ hml]; exact h3
      obtain ⟨i, hi⟩ := hsp l [] rfl (fun i hi => by cases hi) (by rw [hk]; omega)
      cases hrr : Region.ready md ops L with
      | nil => rw [hrr] at hi; cases hi
      | cons a b => rfl
    · intro i hi
      have hil := hins k L h hk i hi
      have := unl_set (ready_lt hi) (ready_un hi) l hnd hil
      exact phaseB_midZ hl hnd hins hx k _ (h.set hil hi (ready_lt hi)) (by omega)

/-- a phase, by a check that is linear in the edges: Z are its last operations -/
theorem phaseB_ofZ {md : Region.Mode} {ops : Array Oper} {L0 : Array Bool} {l : List Nat} (Z : List Nat) (hc : (freshL L0 l && decide l.Nodup && sucZ md ops Z l && Z.all (fun z => outL md ops (marks L0 l) z ops.size) && lexO md ops l L0) = true) :
    phaseB md ops (marks L0 l) l.length L0 = true := by
  simp only [Bool.and_eq_true, decide_eq_true_eq, List.all_eq_true] at hc
  obtain ⟨⟨⟨⟨h1, h2⟩, h4⟩, h5⟩, h6⟩ := hc
  obtain ⟨m1, m2, m3⟩ := Mid.start (md := md) (ops := ops) h1
  refine phaseB_midZ m3 h2 (fun k L hM hk i hi => ?_) h6 _ _ m1 m2
  have hz : ∃ z ∈ Z, L.getD z false = false := Classical.byContradiction fun hn => by
    have hall : ∀ z ∈ Z, L.getD z false = true := fun z hz => by
      cases hzz : L.getD z false with
      | true => rfl
      | false => exact absurd ⟨z, hz, hzz⟩ hn
    rw [unl_zero.2 (sucZ_all hall l h4 hM.dn)] at hk
    omega
  obtain ⟨z, hzZ, hzL⟩ := hz
  rcases hM.inside1 m3 hzL (h5 z hzZ) hi with h7 | h7
  · have hlt := (Array.getElem?_eq_some_iff.1 (Go.mem_ready.1 hi).2.choose_spec.1).1
    omega
  · exact h7
end Go.GV
