/- Generic theorems, fourth part: a phase of a drawn region, in any order, by a check that goes through its edges once. -/
import Derived.Test.YtdonomneofdhfaaGX
namespace Go.GV
open Go.RowKit

theorem getD_set (L : Array Bool) (i j : Nat) (d : Bool) : (L.setIfInBounds i true).getD j d = if i = j ∧ i < L.size then true else L.getD j d := by
  simp only [Array.getD_eq_getD_getElem?, Array.getElem?_setIfInBounds]
  by_cases h : i = j
  · subst h
    by_cases h2 : i < L.size
    · simp [h2]
    · simp [h2]
  · simp [h]
theorem getD_ne {L : Array Bool} {i j : Nat} {d : Bool} (h : ¬ i = j) : (L.setIfInBounds i true).getD j d = L.getD j d := by
  rw [getD_set]; simp [h]
theorem getD_eq {L : Array Bool} {i : Nat} {d : Bool} (h : i < L.size) : (L.setIfInBounds i true).getD i d = true := by
  rw [getD_set]; simp [h]
theorem marks_size : ∀ (l : List Nat) (L : Array Bool), (marks L l).size = L.size
  | [], _ => rfl
  | i :: r, L => by rw [marks, marks_size r]; simp
theorem marks_getD : ∀ (l : List Nat) (L : Array Bool) (j : Nat) (d : Bool), (∀ i ∈ l, i < L.size) → (marks L l).getD j d = if j ∈ l then true else L.getD j d
  | [], _, _, _, _ => by simp [marks]
  | i :: r, L, j, d, h => by
    rw [marks, marks_getD r _ j d (fun x hx => by simpa using h x (List.mem_cons_of_mem _ hx)), getD_set]
    have hi := h i (List.mem_cons_self ..)
    by_cases h1 : j ∈ r
    · simp [h1]
    · by_cases h2 : i = j
      · subst h2; simp [h1, hi]
      · have : ¬ j = i := fun h => h2 h.symm
        simp [h1, h2, this]

/-- each is ready in its turn -/
def lexO (md : Region.Mode) (ops : Array Oper) : List Nat → Array Bool → Bool
  | [], _ => true
  | i :: r, L => (Region.ready md ops L).contains i && lexO md ops r (L.setIfInBounds i true)
/-- each but the last one has one behind it in the list that waits for it -/
def sucL (md : Region.Mode) (ops : Array Oper) (z : Nat) : List Nat → Bool
  | [] => true
  | i :: r => (decide (i = z) || r.any fun j => ((ops[j]?).map (·.after.any fun e => Region.binds md e && decide (e.on = i))).getD false) && sucL md ops z r
/-- whatever lies outside waits for the last one, or for another one outside -/
def outL (md : Region.Mode) (ops : Array Oper) (T : Array Bool) (z i0 : Nat) : Bool :=
  (List.range ops.size).all fun j => T.getD j true || decide (j = i0) || ((ops[j]?).map (·.after.any fun e => Region.binds md e && (decide (e.on = z) || !T.getD e.on false))).getD true

theorem lexO_split {md : Region.Mode} {ops : Array Oper} : ∀ (pre : List Nat) (i : Nat) (post : List Nat) (L : Array Bool), lexO md ops (pre ++ i :: post) L = true → i ∈ Region.ready md ops (marks L pre)
  | [], i, post, L, h => by
    simp only [List.nil_append, lexO, Bool.and_eq_true, List.contains_iff_mem] at h
    exact h.1
  | p :: pre, i, post, L, h => by
    simp only [List.cons_append, lexO, Bool.and_eq_true] at h
    exact lexO_split pre i post _ h.2

theorem sucL_all {md : Region.Mode} {ops : Array Oper} {z : Nat} {L : Array Bool} (hz : L.getD z false = true) : ∀ (l : List Nat), sucL md ops z l = true →
    (∀ j ∈ l, L.getD j false = true → ∀ o, ops[j]? = some o → ∀ e ∈ o.after, Region.binds md e = true → L.getD e.on false = true) → ∀ i ∈ l, L.getD i false = true
  | [], _, _, i, hi => by cases hi
  | p :: r, h, hD, i, hi => by
    simp only [sucL, Bool.and_eq_true, Bool.or_eq_true, decide_eq_true_eq, List.any_eq_true] at h
    have ih := sucL_all hz r h.2 (fun j hj => hD j (List.mem_cons_of_mem _ hj))
    rcases List.mem_cons.1 hi with rfl | hi
    · rcases h.1 with h1 | ⟨j, hj, h1⟩
      · rw [h1]; exact hz
      · cases ho : ops[j]? with
        | none => rw [ho] at h1; cases h1
        | some o =>
          rw [ho] at h1
          simp only [Option.map_some, Option.getD_some] at h1
          obtain ⟨e, he, h2⟩ := Array.any_eq_true'.1 h1
          simp only [Bool.and_eq_true, decide_eq_true_eq] at h2
          have := hD j (List.mem_cons_of_mem _ hj) (ih j hj) o ho e he h2.1
          rw [h2.2] at this; exact this
    · exact ih i hi

/-- between the begin and the end of a phase -/
structure Mid (md : Region.Mode) (ops : Array Oper) (L0 : Array Bool) (l : List Nat) (L : Array Bool) : Prop where
  sz : L.size = L0.size
  lo : ∀ i, i ∉ l → L.getD i false = L0.getD i false
  dn : ∀ j ∈ l, L.getD j false = true → ∀ o, ops[j]? = some o → ∀ e ∈ o.after, Region.binds md e = true → L.getD e.on false = true

def unl (L : Array Bool) (l : List Nat) : Nat := (l.filter fun i => !L.getD i false).length

theorem unl_set {L : Array Bool} {i : Nat} (hi : i < L.size) (h : L.getD i false = false) : ∀ (l : List Nat), l.Nodup → i ∈ l → unl (L.setIfInBounds i true) l + 1 = unl L l
  | [], _, hm => by cases hm
  | p :: r, hnd, hm => by
    have hn := List.nodup_cons.1 hnd
    by_cases hp : p = i
    · subst hp
      have e : r.filter (fun j => !(L.setIfInBounds p true).getD j false) = r.filter (fun j => !L.getD j false) := by
        refine List.filter_congr fun j hj => ?_
        exact congrArg _ (getD_ne (fun h => hn.1 (h ▸ hj)))
      unfold unl
      rw [List.filter_cons, List.filter_cons, e, getD_eq hi, h]
      simp
    · have hm : i ∈ r := by
        rcases List.mem_cons.1 hm with h | h
        · exact absurd h.symm hp
        · exact h
      have ih := unl_set hi h r hn.2 hm
      unfold unl at ih ⊢
      rw [List.filter_cons, List.filter_cons, getD_ne (fun h => hp h.symm)]
      split
      · simp only [List.length_cons]; omega
      · exact ih
theorem unl_zero {L : Array Bool} : ∀ {l : List Nat}, unl L l = 0 ↔ ∀ i ∈ l, L.getD i false = true := by
  intro l
  unfold unl
  rw [List.length_eq_zero_iff, List.filter_eq_nil_iff]
  simp

theorem Mid.set {md : Region.Mode} {ops : Array Oper} {L0 L : Array Bool} {l : List Nat} (h : Mid md ops L0 l L) {i : Nat} (hi : i ∈ l) (hr : i ∈ Region.ready md ops L) (hsz : i < L.size) : Mid md ops L0 l (L.setIfInBounds i true) := by
  obtain ⟨h1, o, ho, h2⟩ := Go.mem_ready.1 hr
  refine ⟨by rw [Array.size_setIfInBounds]; exact h.sz, fun j hj => ?_, fun j hj hl o' ho' e he hb => ?_⟩
  · rw [getD_ne (fun hh : i = j => hj (hh ▸ hi))]; exact h.lo j hj
  · rw [getD_set]
    split
    · rfl
    · by_cases hji : i = j
      · subst hji
        rw [ho] at ho'; cases ho'
        exact h2 e he hb
      · rw [getD_ne hji] at hl
        exact h.dn j hj hl o' ho' e he hb

theorem Mid.last {md : Region.Mode} {ops : Array Oper} {L0 L : Array Bool} {l : List Nat} (h : Mid md ops L0 l L) (hl : ∀ i ∈ l, i < L0.size) (h0 : unl L l = 0) : L = marks L0 l := by
  have ha := unl_zero.1 h0
  refine Array.ext (by rw [marks_size, h.sz]) fun i h1 h2 => ?_
  have e1 : L.getD i false = L[i] := by simp [Array.getD, h1]
  have e2 : (marks L0 l).getD i false = (marks L0 l)[i] := by simp [Array.getD, h2]
  rw [← e1, ← e2, marks_getD l L0 i false hl]
  by_cases hi : i ∈ l
  · rw [if_pos hi]; exact ha i hi
  · rw [if_neg hi]; exact h.lo i hi

/-- what is ready between lies in the phase -/
theorem Mid.inside {md : Region.Mode} {ops : Array Oper} {L0 L : Array Bool} {l : List Nat} {z i0 k : Nat} (h : Mid md ops L0 l L) (hl : ∀ i ∈ l, i < L0.size) (hz : z ∈ l) (hs : sucL md ops z l = true)
    (ho : outL md ops (marks L0 l) z i0 = true) (hk : unl L l = k + 1) {i : Nat} (hi : i ∈ Region.ready md ops L) : i = i0 ∨ i ∈ l := by
  obtain ⟨h1, o, hoi, h2⟩ := Go.mem_ready.1 hi
  have hzL : L.getD z false = false := by
    cases hzz : L.getD z false with
    | false => rfl
    | true => rw [unl_zero.2 (sucL_all hzz l hs h.dn)] at hk; omega
  have hout := List.all_eq_true.1 ho i (List.mem_range.2 (Array.getElem?_eq_some_iff.1 hoi).1)
  simp only [Bool.or_eq_true, decide_eq_true_eq] at hout
  rcases hout with (hout | hout) | hout
  · rw [marks_getD l L0 i true hl] at hout
    by_cases hil : i ∈ l
    · exact .inr hil
    · rw [if_neg hil] at hout
      exfalso
      have e := h.lo i hil
      by_cases hsz : i < L0.size
      · have e1 : L0.getD i true = L0.getD i false := by simp [Array.getD, hsz]
        have e2 : L.getD i true = L.getD i false := by
          have : i < L.size := by rw [h.sz]; exact hsz
          simp [Array.getD, this]
        rw [e1, ← e, ← e2, h1] at hout; cases hout
      · have : ¬ i < L.size := by rw [h.sz]; exact hsz
        simp [Array.getD, this] at h1
  · exact .inl hout
  · rw [hoi] at hout
    simp only [Option.map_some, Option.getD_some] at hout
    obtain ⟨e, he, h3⟩ := Array.any_eq_true'.1 hout
    simp only [Bool.and_eq_true, Bool.or_eq_true, decide_eq_true_eq, Bool.not_eq_true'] at h3
    have h4 := h2 e he h3.1
    rcases h3.2 with h5 | h5
    · rw [h5, hzL] at h4; cases h4
    · rw [marks_getD l L0 _ false hl] at h5
      split at h5
      · cases h5
      · rename_i hn; rw [h.lo _ hn, h5] at h4; cases h4

theorem ready_lt {md : Region.Mode} {ops : Array Oper} {L : Array Bool} {i : Nat} (h : i ∈ Region.ready md ops L) : i < L.size := by
  obtain ⟨h1, _⟩ := Go.mem_ready.1 h
  rcases Nat.lt_or_ge i L.size with h2 | h2
  · exact h2
  · have : ¬ i < L.size := by omega
    simp [Array.getD, this] at h1
theorem ready_un {md : Region.Mode} {ops : Array Oper} {L : Array Bool} {i : Nat} (h : i ∈ Region.ready md ops L) : L.getD i false = false := by
  have hlt := ready_lt h
  obtain ⟨h1, _⟩ := Go.mem_ready.1 h
  simpa [Array.getD, hlt] using h1

theorem phaseX_mid {md : Region.Mode} {ops : Array Oper} {L0 : Array Bool} {l : List Nat} {z i0 : Nat} (hl : ∀ i ∈ l, i < L0.size) (hnd : l.Nodup) (hz : z ∈ l) (hs : sucL md ops z l = true)
    (ho : outL md ops (marks L0 l) z i0 = true) : ∀ (k : Nat) (L : Array Bool), Mid md ops L0 l L → unl L l = k → phaseX md ops i0 (marks L0 l) k L = true
  | 0, L, h, hk => by
    rw [phaseX]; exact decide_eq_true (h.last hl hk)
  | k + 1, L, h, hk => by
    rw [phaseX, List.all_eq_true]
    intro i hi
    rcases h.inside hl hz hs ho hk hi with rfl | hil
    · simp
    · have := unl_set (ready_lt hi) (ready_un hi) l hnd hil
      rw [phaseX_mid hl hnd hz hs ho k _ (h.set hil hi (ready_lt hi)) (by omega)]; simp

theorem phaseB_mid {md : Region.Mode} {ops : Array Oper} {L0 : Array Bool} {l : List Nat} {z : Nat} (hl : ∀ i ∈ l, i < L0.size) (hnd : l.Nodup) (hz : z ∈ l) (hs : sucL md ops z l = true)
    (ho : outL md ops (marks L0 l) z ops.size = true) (hx : lexO md ops l L0 = true) : ∀ (k : Nat) (L : Array Bool), Mid md ops L0 l L → unl L l = k → phaseB md ops (marks L0 l) k L = true
  | 0, L, h, hk => by
    rw [phaseB]; exact decide_eq_true (h.last hl hk)
  | k + 1, L, h, hk => by
    rw [phaseB, Bool.and_eq_true, List.all_eq_true]
    constructor
    · have hsp : ∀ (post pre : List Nat), l = pre ++ post → (∀ i ∈ pre, L.getD i false = true) → unl L post ≠ 0 → ∃ i, i ∈ Region.ready md ops L := by
        intro post
        induction post with
        | nil => intro pre _ _ hne; exact absurd rfl hne
        | cons p post ih =>
          intro pre e hpre hne
          cases hp : L.getD p false with
          | true =>
            refine ih (pre ++ [p]) (by rw [e]; simp) (fun i hi => ?_) ?_
            · rcases List.mem_append.1 hi with hi | hi
              · exact hpre i hi
              · rw [List.mem_singleton.1 hi]; exact hp
            · intro h0
              apply hne
              rw [unl_zero] at h0 ⊢
              intro i hi
              rcases List.mem_cons.1 hi with rfl | hi
              · exact hp
              · exact h0 i hi
          | false =>
            have hr := lexO_split pre p post L0 (e ▸ hx)
            obtain ⟨h1, o, hop, h2⟩ := Go.mem_ready.1 hr
            have hps : p < L.size := by rw [h.sz]; exact hl p (by rw [e]; simp)
            refine ⟨p, Go.mem_ready.2 ⟨by simpa [Array.getD, hps] using hp, o, hop, fun e' he hb => ?_⟩⟩
            have h3 := h2 e' he hb
            rw [marks_getD pre L0 _ false (fun i hi => hl i (by rw [e]; simp [hi]))] at h3
            by_cases hm : e'.on ∈ pre
            · exact hpre _ hm
            · rw [if_neg hm] at h3
              by_cases hml : e'.on ∈ l
              · exfalso
                have hr2 := List.append_of_mem hml
                obtain ⟨a, c, ha⟩ := hr2
                have hra := lexO_split a e'.on c L0 (ha ▸ hx)
                have := ready_un hra
                rw [marks_getD a L0 _ false (fun i hi => hl i (by rw [ha]; simp [hi]))] at this
                split at this
                · cases this
                · rw [h3] at this; cases this
              · rw [h.lo _ hml]; exact h3
      obtain ⟨i, hi⟩ := hsp l [] rfl (fun i hi => by cases hi) (by rw [hk]; omega)
      cases hrr : Region.ready md ops L with
      | nil => rw [hrr] at hi; cases hi
      | cons a b => rfl
    · intro i hi
      rcases h.inside hl hz hs ho hk hi with rfl | hil
      · have hlt := (Array.getElem?_eq_some_iff.1 (Go.mem_ready.1 hi).2.choose_spec.1).1
        omega
      · have := unl_set (ready_lt hi) (ready_un hi) l hnd hil
        exact phaseB_mid hl hnd hz hs ho hx k _ (h.set hil hi (ready_lt hi)) (by omega)

/-- at the begin of a phase -/
def freshL (L0 : Array Bool) (l : List Nat) : Bool := l.all fun i => decide (i < L0.size) && !L0.getD i false
theorem Mid.start {md : Region.Mode} {ops : Array Oper} {L0 : Array Bool} {l : List Nat} (h : freshL L0 l = true) : Mid md ops L0 l L0 ∧ unl L0 l = l.length ∧ ∀ i ∈ l, i < L0.size := by
  have h := List.all_eq_true.1 h
  simp only [Bool.and_eq_true, decide_eq_true_eq, Bool.not_eq_true'] at h
  refine ⟨⟨rfl, fun _ _ => rfl, fun j hj hl => by rw [(h j hj).2] at hl; cases hl⟩, ?_, fun i hi => (h i hi).1⟩
  unfold unl
  rw [List.filter_eq_self.2 (fun i hi => by rw [(h i hi).2]; rfl)]

theorem phaseX_of {md : Region.Mode} {ops : Array Oper} {L0 : Array Bool} {l : List Nat} (z : Nat) {i0 : Nat} (hc : (freshL L0 l && decide l.Nodup && l.contains z && sucL md ops z l && outL md ops (marks L0 l) z i0) = true) :
    phaseX md ops i0 (marks L0 l) l.length L0 = true := by
  simp only [Bool.and_eq_true, decide_eq_true_eq, List.contains_iff_mem] at hc
  obtain ⟨⟨⟨⟨h1, h2⟩, h3⟩, h4⟩, h5⟩ := hc
  obtain ⟨m1, m2, m3⟩ := Mid.start (md := md) (ops := ops) h1
  exact phaseX_mid m3 h2 h3 h4 h5 _ _ m1 m2
theorem phaseB_of {md : Region.Mode} {ops : Array Oper} {L0 : Array Bool} {l : List Nat} (z : Nat) (hc : (freshL L0 l && decide l.Nodup && l.contains z && sucL md ops z l && outL md ops (marks L0 l) z ops.size && lexO md ops l L0) = true) :
    phaseB md ops (marks L0 l) l.length L0 = true := by
  simp only [Bool.and_eq_true, decide_eq_true_eq, List.contains_iff_mem] at hc
  obtain ⟨⟨⟨⟨⟨h1, h2⟩, h3⟩, h4⟩, h5⟩, h6⟩ := hc
  obtain ⟨m1, m2, m3⟩ := Mid.start (md := md) (ops := ops) h1
  exact phaseB_mid m3 h2 h3 h4 h5 h6 _ _ m1 m2
theorem xa_late2 {T : TT} {C : Cx} (hT : TOk C.P T) {ops : Array Oper} {Q : Post} {st : St} {u : Im} {fuel n d0 : Nat} {listed : Array Bool} {o0 : Oper} (i0 z : Nat) (l : List Nat) (hn : n = l.length + (fuel + 1))
    (ho : ops.toList[i0]? = some o0) (hd : o0.dst = some d0)
    (hsel : Region.noSelect ops = true) (ha : hasAll ops.toList (i0 :: l) = true) (hl : lexL .any ops (i0 :: l) listed = true) (hb : (freshL (listed.setIfInBounds i0 true) l && decide l.Nodup && l.contains z && sucL .any ops z l && outL .any ops (marks (listed.setIfInBounds i0 true) l) z ops.size && lexO .any ops l (listed.setIfInBounds i0 true)) = true)
    (hx : (freshL listed l && decide l.Nodup && l.contains z && sucL .any ops z l && outL .any ops (marks listed l) z i0) = true)
    (h : XD C ops.toList (opsAt ops.toList (i0 :: l)) (fun st => st.gk = [] ∧ XA C ops fuel (marks listed (i0 :: l)) Q st u ∧ XA C ops (fuel + 1) (marks listed l) Q ⟨forget d0 st.kn, [], st.ow, st.nx⟩ u) st u) : XA C ops n listed Q st u :=
  xa_late hT i0 l hn ho hd hsel ha hl (phaseB_of z hb) (phaseX_of z hx) h
end Go.GV
