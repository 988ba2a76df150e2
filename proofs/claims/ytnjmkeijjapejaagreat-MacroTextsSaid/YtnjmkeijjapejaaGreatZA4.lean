/- Part 4 of the lemmas behind the claim: GY, GZ, GB, GC, GF, U2, GL, GE, U3, GH, U4, U5, U9, U10, H2, GJ, U13, GK, X3, S3, W3, X1. -/
import Derived.Test.YtnjmkeijjapejaaGreatZA3
import Derived.Maps.OwnSet
import Derived.Carry
import Derived.Shelf.Strings.OnBuilder
import Derived.Test.YtnjmkeijjapejaaGreatProg
set_option linter.unusedSimpArgs false
set_option linter.unusedVariables false
namespace Go.GV
open Go.RowKit
theorem getD_set (L : Array Bool) (i j : Nat) (d : Bool) : (L.setIfInBounds i true).getD j d = if i = j ∧ i < L.size then true else L.getD j d := by
  simp only [Array.getD_eq_getD_getElem?, Array.getElem?_setIfInBounds]
  by_cases h : i = j
  · subst h
    by_cases h2 : i < L.size
    · simp [h2]
    · simp [h2]
  · simp [h]
theorem getD_ne {L : Array Bool} {i j : Nat} {d : Bool} (h : ¬ i = j) : (L.setIfInBounds i true).getD j d = L.getD j d := by
  rw [getD_set]; simp [h]
theorem getD_eq {L : Array Bool} {i : Nat} {d : Bool} (h : i < L.size) : (L.setIfInBounds i true).getD i d = true := by
  rw [getD_set]; simp [h]
theorem marks_size : ∀ (l : List Nat) (L : Array Bool), (marks L l).size = L.size
  | [], _ => rfl
  | i :: r, L => by rw [marks, marks_size r]; simp
theorem marks_getD : ∀ (l : List Nat) (L : Array Bool) (j : Nat) (d : Bool), (∀ i ∈ l, i < L.size) → (marks L l).getD j d = if j ∈ l then true else L.getD j d
  | [], _, _, _, _ => by simp [marks]
  | i :: r, L, j, d, h => by
    rw [marks, marks_getD r _ j d (fun x hx => by simpa using h x (List.mem_cons_of_mem _ hx)), getD_set]
    have hi := h i (List.mem_cons_self ..)
    by_cases h1 : j ∈ r
    · simp [h1]
    · by_cases h2 : i = j
      · subst h2; simp [h1, hi]
      · have : ¬ j = i := fun h => h2 h.symm
        simp [h1, h2, this]
def lexO (md : Region.Mode) (ops : Array Oper) : List Nat → Array Bool → Bool
  | [], _ => true
  | i :: r, L => (Region.ready md ops L).contains i && lexO md ops r (L.setIfInBounds i true)
def sucL (md : Region.Mode) (ops : Array Oper) (z : Nat) : List Nat → Bool
  | [] => true
  | i :: r => (decide (i = z) || r.any fun j => ((ops[j]?).map (·.after.any fun e => Region.binds md e && decide (e.on = i))).getD false) && sucL md ops z r
def outL (md : Region.Mode) (ops : Array Oper) (T : Array Bool) (z i0 : Nat) : Bool :=
  (List.range ops.size).all fun j => T.getD j true || decide (j = i0) || ((ops[j]?).map (·.after.any fun e => Region.binds md e && (decide (e.on = z) || !T.getD e.on false))).getD true
theorem lexO_split {md : Region.Mode} {ops : Array Oper} : ∀ (pre : List Nat) (i : Nat) (post : List Nat) (L : Array Bool), lexO md ops (pre ++ i :: post) L = true → i ∈ Region.ready md ops (marks L pre)
  | [], i, post, L, h => by
    simp only [List.nil_append, lexO, Bool.and_eq_true, List.contains_iff_mem] at h
    exact h.1
  | p :: pre, i, post, L, h => by
    simp only [List.cons_append, lexO, Bool.and_eq_true] at h
    exact lexO_split pre i post _ h.2
theorem sucL_all {md : Region.Mode} {ops : Array Oper} {z : Nat} {L : Array Bool} (hz : L.getD z false = true) : ∀ (l : List Nat), sucL md ops z l = true →
    (∀ j ∈ l, L.getD j false = true → ∀ o, ops[j]? = some o → ∀ e ∈ o.after, Region.binds md e = true → L.getD e.on false = true) → ∀ i ∈ l, L.getD i false = true
  | [], _, _, i, hi => by cases hi
  | p :: r, h, hD, i, hi => by
    simp only [sucL, Bool.and_eq_true, Bool.or_eq_true, decide_eq_true_eq, List.any_eq_true] at h
    have ih := sucL_all hz r h.2 (fun j hj => hD j (List.mem_cons_of_mem _ hj))
    rcases List.mem_cons.1 hi with rfl | hi
    · rcases h.1 with h1 | ⟨j, hj, h1⟩
      · rw [h1]; exact hz
      · cases ho : ops[j]? with
        | none => rw [ho] at h1; cases h1
        | some o =>
          rw [ho] at h1
          simp only [Option.map_some, Option.getD_some] at h1
          obtain ⟨e, he, h2⟩ := Array.any_eq_true'.1 h1
          simp only [Bool.and_eq_true, decide_eq_true_eq] at h2
          have := hD j (List.mem_cons_of_mem _ hj) (ih j hj) o ho e he h2.1
          rw [h2.2] at this; exact this
    · exact ih i hi
structure Mid (md : Region.Mode) (ops : Array Oper) (L0 : Array Bool) (l : List Nat) (L : Array Bool) : Prop where
  sz : L.size = L0.size
  lo : ∀ i, i ∉ l → L.getD i false = L0.getD i false
  dn : ∀ j ∈ l, L.getD j false = true → ∀ o, ops[j]? = some o → ∀ e ∈ o.after, Region.binds md e = true → L.getD e.on false = true
def unl (L : Array Bool) (l : List Nat) : Nat := (l.filter fun i => !L.getD i false).length
theorem unl_set {L : Array Bool} {i : Nat} (hi : i < L.size) (h : L.getD i false = false) : ∀ (l : List Nat), l.Nodup → i ∈ l → unl (L.setIfInBounds i true) l + 1 = unl L l
  | [], _, hm => by cases hm
  | p :: r, hnd, hm => by
    have hn := List.nodup_cons.1 hnd
    by_cases hp : p = i
    · subst hp
      have e : r.filter (fun j => !(L.setIfInBounds p true).getD j false) = r.filter (fun j => !L.getD j false) := by
        refine List.filter_congr fun j hj => ?_
        exact congrArg _ (getD_ne (fun h => hn.1 (h ▸ hj)))
      unfold unl
      rw [List.filter_cons, List.filter_cons, e, getD_eq hi, h]
      simp
    · have hm : i ∈ r := by
        rcases List.mem_cons.1 hm with h | h
        · exact absurd h.symm hp
        · exact h
      have ih := unl_set hi h r hn.2 hm
      unfold unl at ih ⊢
      rw [List.filter_cons, List.filter_cons, getD_ne (fun h => hp h.symm)]
      split
      · simp only [List.length_cons]; omega
      · exact ih
theorem unl_zero {L : Array Bool} : ∀ {l : List Nat}, unl L l = 0 ↔ ∀ i ∈ l, L.getD i false = true := by
  intro l
  unfold unl
  rw [List.length_eq_zero_iff, List.filter_eq_nil_iff]
  simp
theorem Mid.set {md : Region.Mode} {ops : Array Oper} {L0 L : Array Bool} {l : List Nat} (h : Mid md ops L0 l L) {i : Nat} (hi : i ∈ l) (hr : i ∈ Region.ready md ops L) (hsz : i < L.size) : Mid md ops L0 l (L.setIfInBounds i true) := by
  obtain ⟨h1, o, ho, h2⟩ := Go.mem_ready.1 hr
  refine ⟨by rw [Array.size_setIfInBounds]; exact h.sz, fun j hj => ?_, fun j hj hl o' ho' e he hb => ?_⟩
  · rw [getD_ne (fun hh : i = j => hj (hh ▸ hi))]; exact h.lo j hj
  · rw [getD_set]
    split
    · rfl
    · by_cases hji : i = j
      · subst hji
        rw [ho] at ho'; cases ho'
        exact h2 e he hb
      · rw [getD_ne hji] at hl
        exact h.dn j hj hl o' ho' e he hb
theorem Mid.last {md : Region.Mode} {ops : Array Oper} {L0 L : Array Bool} {l : List Nat} (h : Mid md ops L0 l L) (hl : ∀ i ∈ l, i < L0.size) (h0 : unl L l = 0) : L = marks L0 l := by
  have ha := unl_zero.1 h0
  refine Array.ext (by rw [marks_size, h.sz]) fun i h1 h2 => ?_
  have e1 : L.getD i false = L[i] := by simp [Array.getD, h1]
  have e2 : (marks L0 l).getD i false = (marks L0 l)[i] := by simp [Array.getD, h2]
  rw [← e1, ← e2, marks_getD l L0 i false hl]
  by_cases hi : i ∈ l
  · rw [if_pos hi]; exact ha i hi
  · rw [if_neg hi]; exact h.lo i hi
theorem Mid.inside {md : Region.Mode} {ops : Array Oper} {L0 L : Array Bool} {l : List Nat} {z i0 k : Nat} (h : Mid md ops L0 l L) (hl : ∀ i ∈ l, i < L0.size) (hz : z ∈ l) (hs : sucL md ops z l = true)
    (ho : outL md ops (marks L0 l) z i0 = true) (hk : unl L l = k + 1) {i : Nat} (hi : i ∈ Region.ready md ops L) : i = i0 ∨ i ∈ l := by
  obtain ⟨h1, o, hoi, h2⟩ := Go.mem_ready.1 hi
  have hzL : L.getD z false = false := by
    cases hzz : L.getD z false with
    | false => rfl
    | true => rw [unl_zero.2 (sucL_all hzz l hs h.dn)] at hk; omega
  have hout := List.all_eq_true.1 ho i (List.mem_range.2 (Array.getElem?_eq_some_iff.1 hoi).1)
  simp only [Bool.or_eq_true, decide_eq_true_eq] at hout
  rcases hout with (hout | hout) | hout
  · rw [marks_getD l L0 i true hl] at hout
    by_cases hil : i ∈ l
    · exact .inr hil
    · rw [if_neg hil] at hout
      exfalso
      have e := h.lo i hil
      by_cases hsz : i < L0.size
      · have e1 : L0.getD i true = L0.getD i false := by simp [Array.getD, hsz]
        have e2 : L.getD i true = L.getD i false := by
          have : i < L.size := by rw [h.sz]; exact hsz
          simp [Array.getD, this]
        rw [e1, ← e, ← e2, h1] at hout; cases hout
      · have : ¬ i < L.size := by rw [h.sz]; exact hsz
        simp [Array.getD, this] at h1
  · exact .inl hout
  · rw [hoi] at hout
    simp only [Option.map_some, Option.getD_some] at hout
    obtain ⟨e, he, h3⟩ := Array.any_eq_true'.1 hout
    simp only [Bool.and_eq_true, Bool.or_eq_true, decide_eq_true_eq, Bool.not_eq_true'] at h3
    have h4 := h2 e he h3.1
    rcases h3.2 with h5 | h5
    · rw [h5, hzL] at h4; cases h4
    · rw [marks_getD l L0 _ false hl] at h5
      split at h5
      · cases h5
      · rename_i hn; rw [h.lo _ hn, h5] at h4; cases h4
theorem ready_lt {md : Region.Mode} {ops : Array Oper} {L : Array Bool} {i : Nat} (h : i ∈ Region.ready md ops L) : i < L.size := by
  obtain ⟨h1, _⟩ := Go.mem_ready.1 h
  rcases Nat.lt_or_ge i L.size with h2 | h2
  · exact h2
  · have : ¬ i < L.size := by omega
    simp [Array.getD, this] at h1
theorem ready_un {md : Region.Mode} {ops : Array Oper} {L : Array Bool} {i : Nat} (h : i ∈ Region.ready md ops L) : L.getD i false = false := by
  have hlt := ready_lt h
  obtain ⟨h1, _⟩ := Go.mem_ready.1 h
  simpa [Array.getD, hlt] using h1
theorem phaseX_mid {md : Region.Mode} {ops : Array Oper} {L0 : Array Bool} {l : List Nat} {z i0 : Nat} (hl : ∀ i ∈ l, i < L0.size) (hnd : l.Nodup) (hz : z ∈ l) (hs : sucL md ops z l = true)
    (ho : outL md ops (marks L0 l) z i0 = true) : ∀ (k : Nat) (L : Array Bool), Mid md ops L0 l L → unl L l = k → phaseX md ops i0 (marks L0 l) k L = true
  | 0, L, h, hk => by
    rw [phaseX]; exact decide_eq_true (h.last hl hk)
  | k + 1, L, h, hk => by
    rw [phaseX, List.all_eq_true]
    intro i hi
    rcases h.inside hl hz hs ho hk hi with rfl | hil
    · simp
    · have := unl_set (ready_lt hi) (ready_un hi) l hnd hil
      rw [phaseX_mid hl hnd hz hs ho k _ (h.set hil hi (ready_lt hi)) (by omega)]; simp
theorem phaseB_mid {md : Region.Mode} {ops : Array Oper} {L0 : Array Bool} {l : List Nat} {z : Nat} (hl : ∀ i ∈ l, i < L0.size) (hnd : l.Nodup) (hz : z ∈ l) (hs : sucL md ops z l = true)
    (ho : outL md ops (marks L0 l) z ops.size = true) (hx : lexO md ops l L0 = true) : ∀ (k : Nat) (L : Array Bool), Mid md ops L0 l L → unl L l = k → phaseB md ops (marks L0 l) k L = true
  | 0, L, h, hk => by
    rw [phaseB]; exact decide_eq_true (h.last hl hk)
  | k + 1, L, h, hk => by
    rw [phaseB, Bool.and_eq_true, List.all_eq_true]
    constructor
    · have hsp : ∀ (post pre : List Nat), l = pre ++ post → (∀ i ∈ pre, L.getD i false = true) → unl L post ≠ 0 → ∃ i, i ∈ Region.ready md ops L := by
        intro post
        induction post with
        | nil => intro pre _ _ hne; exact absurd rfl hne
        | cons p post ih =>
          intro pre e hpre hne
          cases hp : L.getD p false with
          | true =>
            refine ih (pre ++ [p]) (by rw [e]; simp) (fun i hi => ?_) ?_
            · rcases List.mem_append.1 hi with hi | hi
              · exact hpre i hi
              · rw [List.mem_singleton.1 hi]; exact hp
            · intro h0
              apply hne
              rw [unl_zero] at h0 ⊢
              intro i hi
              rcases List.mem_cons.1 hi with rfl | hi
              · exact hp
              · exact h0 i hi
          | false =>
            have hr := lexO_split pre p post L0 (e ▸ hx)
            obtain ⟨h1, o, hop, h2⟩ := Go.mem_ready.1 hr
            have hps : p < L.size := by rw [h.sz]; exact hl p (by rw [e]; simp)
            refine ⟨p, Go.mem_ready.2 ⟨by simpa [Array.getD, hps] using hp, o, hop, fun e' he hb => ?_⟩⟩
            have h3 := h2 e' he hb
            rw [marks_getD pre L0 _ false (fun i hi => hl i (by rw [e]; simp [hi]))] at h3
            by_cases hm : e'.on ∈ pre
            · exact hpre _ hm
            · rw [if_neg hm] at h3
              by_cases hml : e'.on ∈ l
              · exfalso
                have hr2 := List.append_of_mem hml
                obtain ⟨a, c, ha⟩ := hr2
                have hra := lexO_split a e'.on c L0 (ha ▸ hx)
                have := ready_un hra
                rw [marks_getD a L0 _ false (fun i hi => hl i (by rw [ha]; simp [hi]))] at this
                split at this
                · cases this
                · rw [h3] at this; cases this
              · rw [h.lo _ hml]; exact h3
      obtain ⟨i, hi⟩ := hsp l [] rfl (fun i hi => by cases hi) (by rw [hk]; omega)
      cases hrr : Region.ready md ops L with
      | nil => rw [hrr] at hi; cases hi
      | cons a b => rfl
    · intro i hi
      rcases h.inside hl hz hs ho hk hi with rfl | hil
      · have hlt := (Array.getElem?_eq_some_iff.1 (Go.mem_ready.1 hi).2.choose_spec.1).1
        omega
      · have := unl_set (ready_lt hi) (ready_un hi) l hnd hil
        exact phaseB_mid hl hnd hz hs ho hx k _ (h.set hil hi (ready_lt hi)) (by omega)
def freshL (L0 : Array Bool) (l : List Nat) : Bool := l.all fun i => decide (i < L0.size) && !L0.getD i false
theorem Mid.start {md : Region.Mode} {ops : Array Oper} {L0 : Array Bool} {l : List Nat} (h : freshL L0 l = true) : Mid md ops L0 l L0 ∧ unl L0 l = l.length ∧ ∀ i ∈ l, i < L0.size := by
  have h := List.all_eq_true.1 h
  simp only [Bool.and_eq_true, decide_eq_true_eq, Bool.not_eq_true'] at h
  refine ⟨⟨rfl, fun _ _ => rfl, fun j hj hl => by rw [(h j hj).2] at hl; cases hl⟩, ?_, fun i hi => (h i hi).1⟩
  unfold unl
  rw [List.filter_eq_self.2 (fun i hi => by rw [(h i hi).2]; rfl)]
theorem phaseX_of {md : Region.Mode} {ops : Array Oper} {L0 : Array Bool} {l : List Nat} (z : Nat) {i0 : Nat} (hc : (freshL L0 l && decide l.Nodup && l.contains z && sucL md ops z l && outL md ops (marks L0 l) z i0) = true) :
    phaseX md ops i0 (marks L0 l) l.length L0 = true := by
  simp only [Bool.and_eq_true, decide_eq_true_eq, List.contains_iff_mem] at hc
  obtain ⟨⟨⟨⟨h1, h2⟩, h3⟩, h4⟩, h5⟩ := hc
  obtain ⟨m1, m2, m3⟩ := Mid.start (md := md) (ops := ops) h1
  exact phaseX_mid m3 h2 h3 h4 h5 _ _ m1 m2
theorem phaseB_of {md : Region.Mode} {ops : Array Oper} {L0 : Array Bool} {l : List Nat} (z : Nat) (hc : (freshL L0 l && decide l.Nodup && l.contains z && sucL md ops z l && outL md ops (marks L0 l) z ops.size && lexO md ops l L0) = true) :
    phaseB md ops (marks L0 l) l.length L0 = true := by
  simp only [Bool.and_eq_true, decide_eq_true_eq, List.contains_iff_mem] at hc
  obtain ⟨⟨⟨⟨⟨h1, h2⟩, h3⟩, h4⟩, h5⟩, h6⟩ := hc
  obtain ⟨m1, m2, m3⟩ := Mid.start (md := md) (ops := ops) h1
  exact phaseB_mid m3 h2 h3 h4 h5 h6 _ _ m1 m2
theorem xa_late2 {T : TT} {C : Cx} (hT : TOk C.P T) {ops : Array Oper} {Q : Post} {st : St} {u : Im} {fuel n d0 : Nat} {listed : Array Bool} {o0 : Oper} (i0 z : Nat) (l : List Nat) (hn : n = l.length + (fuel + 1))
    (ho : ops.toList[i0]? = some o0) (hd : o0.dst = some d0)
    (hsel : Region.noSelect ops = true) (ha : hasAll ops.toList (i0 :: l) = true) (hl : lexL .any ops (i0 :: l) listed = true) (hb : (freshL (listed.setIfInBounds i0 true) l && decide l.Nodup && l.contains z && sucL .any ops z l && outL .any ops (marks (listed.setIfInBounds i0 true) l) z ops.size && lexO .any ops l (listed.setIfInBounds i0 true)) = true)
    (hx : (freshL listed l && decide l.Nodup && l.contains z && sucL .any ops z l && outL .any ops (marks listed l) z i0) = true)
    (h : XD C ops.toList (opsAt ops.toList (i0 :: l)) (fun st => st.gk = [] ∧ XA C ops fuel (marks listed (i0 :: l)) Q st u ∧ XA C ops (fuel + 1) (marks listed l) Q ⟨forget d0 st.kn, [], st.ow, st.nx⟩ u) st u) : XA C ops n listed Q st u :=
  xa_late hT i0 l hn ho hd hsel ha hl (phaseB_of z hb) (phaseX_of z hx) h
end Go.GV
namespace Go.GV
open Go.RowKit
end Go.GV
namespace Go.GV
open Go.RowKit
theorem xl_slG {C : Cx} {all l : List Oper} {Q : Post} {kn : Kn} {gk : List (Nat × (Gd × SV))} {ow : Own} {nx : Nat} {u : Im} (d : Nat) {g : Gd} {x : Value} {D : Data} (hd : look gk d = some (g, .v x)) (hx : SlAt u x D)
    (h : XL C all l Q ⟨kn, (d, (g, .r nx)) :: gk, (nx, .sl D) :: ow, nx + 1⟩ u) : XL C all l Q ⟨kn, gk, ow, nx⟩ u := by
  unfold XL at h ⊢
  intro E a w hok
  obtain ⟨f, hsat⟩ := hok.sat
  have hE : ∀ k, k < nx → upd E nx x k = E k := fun k hk => upd_other _ _ (by omega)
  have hg := hok.agr.grow (E' := upd E nx x) (ow := (nx, .sl D) :: ow) (nx := nx + 1) hE (Nat.le_succ _)
  have hsat' : Sat (upd E nx x) ((nx, .sl D) :: ow) (nx + 1) u a.defers w (upd f nx (fun _ => False)) := by
    refine hsat.step (fun k => k = nx) hE (Nat.le_succ _) (Im.le.refl u) hsat.imm (Nat.le_refl _) (fun b _ _ => rfl) ?_ ?_ ?_ (fun b o ho => .inl ho)
    · intro k hk
      exact ⟨by rw [look_cons, if_neg (fun e => hk e.symm)], fun b => by rw [upd_other _ _ hk]⟩
    · rintro k rfl
      refine ⟨fun r hr => ?_, fun hr => ?_, fun b hb => ?_⟩
      · rw [look_cons, if_pos rfl] at hr
        cases hr
        refine ⟨⟨by rw [upd_same]; exact hx, fun y hy => by rw [upd_same] at hy; exact hy⟩, Nat.lt_succ_self _, trivial⟩
      · rw [look_cons, if_pos rfl] at hr; cases hr
      · rw [upd_same] at hb; exact hb.elim
    · intro k k' b hk hk' hne; subst hk hk'; exact absurd rfl hne
  obtain ⟨A, c, hv⟩ := hx.form
  have hd' := hok.agr.gk d g _ hd
  have := h (upd E nx x) a w ⟨⟨hg.size, fun t s h1 h2 => ?_, fun t g' s h1 => ?_, fun t s h2 => hg.klt t s h2, fun t g' s h1 hgs => ?_⟩, _, hsat'⟩
  · exact wpListIn_monoQ (fun e a w => SemQ.mono hE (Nat.le_succ _) (Im.le.refl u)) _ _ _ this
  · rw [look_cons] at h1
    split at h1
    · cases h1
    · exact hg.kn t s h1 h2
  · rw [look_cons] at h1
    split at h1
    · rename_i e1; subst e1; cases h1
      refine ⟨fun hgs => ?_, hd'.2⟩
      rw [hd'.1 hgs]
      simp only [SV.den, upd_same]
    · exact hg.gk t g' s h1
  · rw [look_cons] at h1
    split at h1
    · cases h1; exact ⟨Nat.lt_succ_self _, A, D.n, c, by rw [upd_same]; exact hv⟩
    · exact hg.glt t g' s h1 hgs
end Go.GV
namespace Go.GV
open Go.RowKit
theorem xl_eqv {C : Cx} {all l : List Oper} {Q : Post} {kn : Kn} {gk : List (Nat × (Gd × SV))} {ow : Own} {nx : Nat} {u : Im} (t : Nat) {v : Value} (v' : Value) (hk : look kn t = some (.v v)) (he : v = v')
    (h : XL C all l Q ⟨(t, .v v') :: kn, gk, ow, nx⟩ u) : XL C all l Q ⟨kn, gk, ow, nx⟩ u := by
  subst he
  unfold XL at h ⊢
  intro E a w hok
  refine h E a w ⟨⟨hok.agr.size, fun d s h1 h2 => ?_, hok.agr.gk, fun d s h2 => ?_, hok.agr.glt⟩, hok.sat⟩
  · rw [look_cons] at h2
    split at h2
    · rename_i e; subst e; cases h2; exact hok.agr.kn _ _ h1 hk
    · exact hok.agr.kn _ _ h1 h2
  · rw [look_cons] at h2
    split at h2
    · rename_i e; subst e; cases h2; exact hok.agr.klt _ _ hk
    · exact hok.agr.klt _ _ h2
end Go.GV
namespace Go.GV
open Go.RowKit
theorem xl_gsplit {C : Cx} {all : List Oper} {o : Oper} {r : List Oper} {Q : Post} {st : St} {u : Im} (t : Nat) (s : Value) {want b : Bool} {d : Nat} (hg : guardOf all st o = some [(t, want)]) (hd : o.dst = some d)
    (hfr : fresh C.N st d [(t, want)] = true) (h2 : look st.gk t = none) (h3 : look st.kn t = some (.v (.bool b)))
    (K1 : b = want → XL C all ({ o with guard := none } :: r) Q st u) (K2 : b ≠ want → XL C all r Q (st.put d [(t, want)] (.v s)) u) : XL C all (o :: r) Q st u := by
  by_cases hb : b = want
  · exact xl_sure t hg h2 h3 hb (K1 hb)
  · have K := K2 hb
    unfold XL at K ⊢
    intro E a w hok
    have hgd := guard_sound (all := all.toArray) hok.agr (by simpa using hg)
    have hng : ¬ gs a.tmps [(t, want)] := fun hh => by
      have h5 := hh (t, want) (List.mem_singleton.2 rfl)
      have h6 := hok.agr.kn t _ h2 h3
      simp only [SV.den] at h6
      rw [h6] at h5
      simp only [Option.some.injEq, Value.bool.injEq] at h5
      exact hb h5
    have hw : Region.wanted o (yielded all.toArray a.tmps) = false := by
      cases hw : Region.wanted o (yielded all.toArray a.tmps)
      · rfl
      · exact absurd (hgd.1 hw) hng
    have hput : Agr C.N E (st.put d [(t, want)] (.v s)) (a.tmps.setIfInBounds d undef) :=
      hok.agr.put hfr (fun _ => trivial) (fun hy => absurd hy hng) (fun _ => rfl) (fun hn => by cases hn)
    obtain ⟨fF, hsat⟩ := hok.sat
    have := K E (a.put o.dst undef) w ⟨by rw [hd]; exact hput, fF, by rw [hd]; exact hsat⟩
    unfold wpListIn
    rw [if_neg (by rw [hw]; simp)]
    exact ⟨fun _ _ => trivial, this⟩
theorem flatMap_replicateG {α : Type} {f : α → List Value} {z : α} : ∀ m : Nat, (List.replicate m z).flatMap f = (List.replicate m (f z)).flatten
  | 0 => rfl
  | m + 1 => by rw [List.replicate_succ, List.flatMap_cons, flatMap_replicateG m, List.replicate_succ, List.flatten_cons]
theorem madeCells_rep (z : Array Value) (n : Nat) (hz : z.size = n) (hn : 0 < n) (m : Nat) : (madeCells z (m * n)).toList = (List.replicate m z.toList).flatten := by
  have e : (List.replicate m z.toList).flatten = (List.replicate m z).flatMap Array.toList := (flatMap_replicateG m).symm
  rw [e]
  apply List.ext_getElem?
  intro i
  by_cases hi : i < m * n
  · have h1 := flatMap_get (m := n) (fun x : { x : Array Value // x.size = n } => x.1.toList) (fun x => by simp [x.2]) (List.replicate m ⟨z, hz⟩) (i / n) (i % n) ⟨z, hz⟩
      (by rw [List.getElem?_replicate, if_pos (Nat.div_lt_of_lt_mul (by rw [Nat.mul_comm]; exact hi))]) (Nat.mod_lt _ hn)
    have e2 : (List.replicate m (⟨z, hz⟩ : { x : Array Value // x.size = n })).flatMap (fun x => x.1.toList) = (List.replicate m z).flatMap Array.toList := by
      rw [flatMap_replicateG, flatMap_replicateG]
    rw [e2, Nat.mul_comm, Nat.div_add_mod] at h1
    rw [h1]
    have hm : i % n < z.size := by rw [hz]; exact Nat.mod_lt _ hn
    rw [Array.getElem?_toList, Array.getElem?_toList]
    simp [madeCells, hi, hz, Array.getElem?_eq_getElem hm, getElem!_pos z (i % n) hm]
  · rw [List.getElem?_eq_none (by rw [Array.length_toList, size_madeCells]; omega), List.getElem?_eq_none]
    rw [flatMap_replicateG]
    simp [hz]
    omega
theorem xl_makeG {α : Type} {T : TT} {C : Cx} (hT : TOk C.P T) {all : List Oper} {o : Oper} {r : List Oper} {Q : Post} {kn : Kn} {gk : List (Nat × (Gd × SV))} {ow : Own} {nx : Nat} {u : Im}
    (Y : Lay α) (z : α) (by' m : Nat) {t e d : Nat} {lv cv : Operand} {ti te : TI} {kl kc : IntKind} (ho : o.op = .makeSlice t lv cv) (hgd : o.guard = none) (hd : o.dst = some d)
    (hti : look T t = some ti) (hsh : ti.shp = .slice e) (hte : look T e = some te) (hsz : te.sz = Y.fs.length) (hpos : Nat.blt 0 te.sz = true) (hel : Y.el z = te.zero) (hby : (C.P.info? e).map (fun i => i.bytes) = some by')
    (hl : opd ⟨kn, gk, ow, nx⟩ [] lv = some (.v (.int kl (m : Int)))) (hc : opd ⟨kn, gk, ow, nx⟩ [] cv = some (.v (.int kc (m : Int)))) (hf : fresh C.N ⟨kn, gk, ow, nx⟩ d [] = true)
    (hb : by' * m ≤ 281474976710656) (hm : m ≤ 9223372036854775807)
    (K : XL C all r Q ⟨(d, .r nx) :: kn, gk, (nx, .row e (Y.d (List.replicate m z))) :: ow, nx + 1⟩ u) : XL C all (o :: r) Q ⟨kn, gk, ow, nx⟩ u := by
  unfold XL at K ⊢
  intro E a w hok
  obtain ⟨f, hsat⟩ := hok.sat
  have hgs : gs a.tmps [] := fun x hx => by cases hx
  have htik := hT _ _ hti
  have htek := hT _ _ hte
  obtain ⟨i, i1, i2, i3, i4⟩ := info_bytes htek hby
  obtain ⟨el, _⟩ := opd_sound hok.agr hgs hl
  obtain ⟨ec, _⟩ := opd_sound hok.agr hgs hc
  simp only [SV.den] at el ec
  have hb' : (i.bytes : Int) * (m : Int) ≤ 281474976710656 := by
    rw [i4]
    have h : ((by' * m : Nat) : Int) ≤ 281474976710656 := by omega
    rwa [Int.natCast_mul] at h
  have hr := run_make (P := C.P) w t e i te.zv (htik.isSlice hsh) i1 i3 kl kc (m : Int) (m : Int) (by omega) (Int.le_refl _) hb' (by omega)
  simp only [Int.toNat_natCast] at hr
  have hrun : (execOp a.eval o).run C.P w = .ok (.value (.slice (some ⟨w.heap.size, 0, none⟩) m m)) (w.alloc (.cells (madeCells te.zv.cells (m * i.size)) e)) := by
    simp only [execOp, ho, el, ec, Sem.run_bind, hr, Result.andThen_ok]
    rfl
  refine xl_wp hgd (fun c hc => by rw [ho] at hc; cases hc) hrun ?_
  rw [hd]
  have hgr := World.grownBy_alloc w (.cells (madeCells te.zv.cells (m * i.size)) e) none
  have hbel : Below w.heap.size w (w.alloc (.cells (madeCells te.zv.cells (m * i.size)) e)) := ⟨hgr.os, hgr.tape, hgr.output, hgr.size, fun b hb => hgr.block b hb (by simp)⟩
  have hpos' : 0 < te.sz := blt_lt hpos
  have hzc : te.zv.cells = te.zero.toArray := TI.zv_cells htek
  have hown := World.ownsRow_lit (e := e) (base := 0) (size := te.sz) w (madeCells te.zv.cells (m * i.size)) m (Nat.zero_le _) (by simpa [maxLen] using hm) (by rw [size_madeCells, i2])
  have hown' : (w.alloc (.cells (madeCells te.zv.cells (m * i.size)) e)).ownsRow 0 e (Y.d (List.replicate m z)).cs.length (.slice (some ⟨w.heap.size, 0, none⟩) m m) (Y.d (List.replicate m z)).n (Y.d (List.replicate m z)).flat := by
    have e1 : (Y.d (List.replicate m z)).cs.length = te.sz := by rw [Lay.cs_length, ← hsz]
    have e2 : (Y.d (List.replicate m z)).n = m := by rw [Lay.d_n, List.length_replicate]
    have e3 : (Y.d (List.replicate m z)).flat = (madeCells te.zv.cells (m * i.size)).toList := by
      rw [Lay.flat, hzc, i2, madeCells_rep te.zero.toArray te.sz (by simpa using htek.len) hpos' m, flatMap_replicateG m, hel]
    rw [e1, e2, e3]; exact hown
  have hv := ownAt_of (lo := w.heap.size) hown' (fun b hb => by cases hb; exact Nat.le_refl _)
  have hE : ∀ j, j < nx → upd E nx (.slice (some ⟨w.heap.size, 0, none⟩) m m) j = E j := fun j hj => upd_other _ _ (by omega)
  have hg := hok.agr.grow (E' := upd E nx (.slice (some ⟨w.heap.size, 0, none⟩) m m)) (ow := (nx, .row e (Y.d (List.replicate m z))) :: ow) (nx := nx + 1) hE (Nat.le_succ _)
  have hput := hg.put (g := []) (d := d) (s := .r nx) (x := .slice (some ⟨w.heap.size, 0, none⟩) m m) hf (fun _ => ⟨Nat.lt_succ_self _, _, _, _, upd_same _ _ _⟩) (fun _ => (by simp only [SV.den, upd_same])) (fun hn => absurd (fun x hx => (by cases hx)) hn) (fun _ => (by simp only [SV.den, upd_same]))
  have := K _ (a.put (some d) (.slice (some ⟨w.heap.size, 0, none⟩) m m)) _ ⟨⟨hput.size, hput.kn, hput.gk, hput.klt, hput.glt⟩, _, hsat.take hbel hv⟩
  exact wpListIn_monoQ (fun e a w => SemQ.mono hE (Nat.le_succ _) (Im.le.refl u)) _ _ _ this
def SV.frz (k : Nat) (x : Value) : SV → SV
  | .r j => match Nat.beq j k with
    | true => .v x
    | false => .r j
  | s => s
theorem SV.frz_den {k : Nat} {x : Value} {E : Env} (h : E k = x) (s : SV) : (s.frz k x).den E = s.den E := by
  cases s with
  | r j =>
    cases hj : Nat.beq j k with
    | true =>
      have e : j = k := Nat.eq_of_beq_eq_true hj
      subst e
      simp only [SV.frz, hj]; exact h.symm
    | false => simp only [SV.frz, hj]
  | _ => rfl
theorem SV.frz_lt {k n : Nat} {x : Value} {E : Env} {s : SV} (h : s.lt E n) : (s.frz k x).lt E n := by
  cases s with
  | r j =>
    cases hj : Nat.beq j k with
    | true => simp only [SV.frz, hj]; trivial
    | false => simp only [SV.frz, hj]; exact h
  | _ => exact h
theorem Sat.boxFrz {E : Env} {ow : Own} {nx : Nat} {u : Im} {df : List Deferred} {w : World} {f : Nat → Nat → Prop} (h : Sat E ow nx u df w f) {k kb t : Nat} {x : Value} {cs : List SV} (hx : E k = x) (hb : look ow kb = some (.box t cs)) :
    Sat E ((kb, .box t (cs.map (SV.frz k x))) :: ow) nx u df w f := by
  refine h.regroup (fun j => j = kb) (fun _ _ => rfl) (Nat.le_refl _) (fun j hj => ⟨by rw [look_cons, if_neg (Ne.symm hj)], fun _ => Iff.rfl⟩) ?_ (fun j j' b hj hj' hne => by subst hj hj'; exact absurd rfl hne)
  rintro j rfl
  refine ⟨fun r hr => ?_, fun hr => (by rw [look_cons, if_pos rfl] at hr; cases hr), fun b hb' => ⟨j, rfl, hb'⟩⟩
  rw [look_cons, if_pos rfl] at hr
  cases hr
  obtain ⟨b, h1, h2, h3⟩ := h.holds j _ hb
  obtain ⟨l1, l2⟩ := h.lt j _ hb
  refine ⟨⟨b, h1, h2, ?_⟩, l1, fun s hs => ?_⟩
  · rw [List.map_map, show (SV.den E ∘ SV.frz k x) = SV.den E from funext fun s => SV.frz_den hx s]; exact h3
  · obtain ⟨s0, hs0, rfl⟩ := List.mem_map.1 hs
    exact SV.frz_lt (l2 s0 hs0)
theorem Sat.parkB {E : Env} {ow : Own} {nx : Nat} {u : Im} {df : List Deferred} {w : World} {f : Nat → Nat → Prop} (h : Sat E ow nx u df w f) {k s kb : Nat} {e : TypeId} {D : Data} {sl : List SI} {t : Nat} {cs : List SV} {A : Option Addr} {c : Nat}
    (hk : look ow k = some (.row e D)) (hs : look ow s = some (.gen (starHp sl))) (hb : look ow kb = some (.box t cs)) (hv : E k = .slice A D.n c) :
    Sat E ((k, .emp) :: (s, .gen (starHp (sl ++ [⟨.slice A D.n c, e, D⟩]))) :: (kb, .box t (cs.map (SV.frz k (.slice A D.n c)))) :: ow) nx u df w (upd (upd f s (fun b => f s b ∨ f k b)) k (fun _ => False)) := by
  have n1 : kb ≠ k := fun hh => by rw [hh, hk] at hb; cases hb
  have n2 : kb ≠ s := fun hh => by rw [hh, hs] at hb; cases hb
  have n3 : s ≠ k := fun hh => by rw [← hh, hs] at hk; cases hk
  have h1 := h.boxFrz hv hb
  have h2 := (h1.starMore (s := s) (by rw [look_cons, if_neg n2]; exact hs)).park (k := k) (s := s) (i := sl.length) (q := SI.hole) (e := e) (D := D) (by rw [look_cons, if_neg n3, look_cons, if_neg n1]; exact hk) (by rw [look_cons, if_pos rfl]) (by simp) rfl
  rw [hv, set_at] at h2
  refine h2.regroup (fun _ => False) (fun _ _ => rfl) (Nat.le_refl _) (fun j _ => ⟨?_, fun _ => Iff.rfl⟩) (fun _ hh => hh.elim) (fun _ _ _ hh => hh.elim)
  simp only [look_cons]
  by_cases a1 : k = j
  · rw [if_pos a1, if_pos a1]
  · by_cases a2 : s = j
    · rw [if_neg a1, if_neg a1, if_pos a2, if_pos a2]
    · rw [if_neg a1, if_neg a1, if_neg a2, if_neg a2, if_neg a2]
theorem xl_parkB {C : Cx} {all l : List Oper} {Q : Post} {kn : Kn} {gk : List (Nat × (Gd × SV))} {ow : Own} {nx : Nat} {u : Im} (k s kb : Nat) {e : TypeId} {D : Data} {sl : List SI} {t : Nat} {cs : List SV}
    (hk : look ow k = some (.row e D)) (hs : look ow s = some (.gen (starHp sl))) (hb : look ow kb = some (.box t cs))
    (K : ∀ A c, XL C all l Q ⟨frz k (.slice A D.n c) kn, gk, (k, .emp) :: (s, .gen (starHp (sl ++ [⟨.slice A D.n c, e, D⟩]))) :: (kb, .box t (cs.map (SV.frz k (.slice A D.n c)))) :: ow, nx⟩ u) : XL C all l Q ⟨kn, gk, ow, nx⟩ u := by
  unfold XL at K ⊢
  intro E a w hok
  obtain ⟨f, hsat⟩ := hok.sat
  obtain ⟨A, c, hv⟩ := ownsRow_sl (hsat.holds k _ hk).1
  exact K A c E a w ⟨hok.agr.frz hv, _, hsat.parkB hk hs hb hv⟩
theorem x_parkB {C : Cx} {cc : Code} {Q : Post} {kn : Kn} {gk : List (Nat × (Gd × SV))} {ow : Own} {nx : Nat} {u : Im} (k s kb : Nat) {e : TypeId} {D : Data} {sl : List SI} {t : Nat} {cs : List SV}
    (hk : look ow k = some (.row e D)) (hs : look ow s = some (.gen (starHp sl))) (hb : look ow kb = some (.box t cs))
    (K : ∀ A c, X C cc Q ⟨frz k (.slice A D.n c) kn, gk, (k, .emp) :: (s, .gen (starHp (sl ++ [⟨.slice A D.n c, e, D⟩]))) :: (kb, .box t (cs.map (SV.frz k (.slice A D.n c)))) :: ow, nx⟩ u) : X C cc Q ⟨kn, gk, ow, nx⟩ u := by
  unfold X at K ⊢
  intro E a w hok
  obtain ⟨f, hsat⟩ := hok.sat
  obtain ⟨A, c, hv⟩ := ownsRow_sl (hsat.holds k _ hk).1
  exact K A c E a w ⟨hok.agr.frz hv, _, hsat.parkB hk hs hb hv⟩
end Go.GV
namespace Go.Proofs.YtnjmkeijjapejaaGreat
open Go.GV Go.RowKit
def Tok.val (t : Tok) : Value := .agg #[.int .i64 t.kind, .string t.text, .int .i64 t.lo, .int .i64 t.hi, .bool t.space]
def memB (s : ByteArray) (L : List ByteArray) : Bool := L.any fun x => decide (s = x)
theorem memB_iff {s : ByteArray} {L : List ByteArray} : memB s L = true ↔ s ∈ L := by
  unfold memB
  rw [List.any_eq_true]
  constructor
  · rintro ⟨x, hx, h⟩; rw [of_decide_eq_true h]; exact hx
  · intro h; exact ⟨s, h, decide_eq_true rfl⟩
theorem memB_false {s : ByteArray} {L : List ByteArray} : memB s L = false ↔ s ∉ L := by rw [← memB_iff, Bool.not_eq_true]
theorem pb_mem (s : ByteArray) (L : List ByteArray) : pb (s ∈ L) = memB s L := by
  by_cases h : s ∈ L
  · rw [pb_true h, memB_iff.2 h]
  · rw [pb_false h, memB_false.2 h]
def isT (t : Tok) (L : List ByteArray) : Bool := decide (t.kind = 5) && memB t.text L
set_option maxRecDepth 100000 in
theorem is_any (t : Tok) (L : List ByteArray) (x : Value) (w : World) (hx : SlAt (im w) x (strY.d L)) (hL : L.length ≤ 9223372036854775806) :
    Calls Tryz.prog 40 #[t.val, x] w (PureP w fun v _ => v = .bool (isT t L)) := by
  refine x_fun tt_ok Tryz.func40 rfl rfl [(x, strY.d L)] 1 [.v t.val, .r 0] rfl rfl rfl rfl (fun b hb => by simp at hb; subst hb; exact hx) ?_
  refine x_vc tt_ok ?_
  refine xl_gcall0 (.bool (pb (t.text ∈ L))) rfl rfl rfl rfl fn66 rfl rfl (fun _ E w F hs => containsS_any L t.text _ w (hs.slAt (k := 0) rfl) hL) ?_
  refine xl_go tt_ok ?_
  refine fin1 (fun _ _ => ?_)
  rw [pb_mem]; rfl
structure PV where
  kind : Int
  text : ByteArray
  space : Bool
  pa : Option Addr
  pn : Nat
  pc : Nat
def pv0 : PV := ⟨0, ⟨#[]⟩, false, none, 0, 0⟩
def pvY : Lay PV := ⟨[fun t => .int .i64 t.kind, fun t => .string t.text, fun t => .bool t.space, fun t => .slice t.pa t.pn t.pc], pv0⟩
def ofT (t : Tok) : PV := ⟨t.kind, t.text, t.space, none, 0, 0⟩
set_option maxRecDepth 100000 in
theorem of_any (L : List Tok) (x : Value) (w : World) (hx : SlAt (im w) x (tokY.d L)) (hL : L.length * 48 ≤ 140737488355328) :
    Calls Tryz.prog 43 #[x] w (PureP w fun v u => OwnAt u v 35 (pvY.d (L.map ofT))) := by
  refine x_fun tt_ok Tryz.func43 rfl rfl [(x, tokY.d L)] 1 [.r 0] rfl rfl rfl rfl (fun b hb => by simp at hb; subst hb; exact hx) ?_
  refine x_vc tt_ok ?_
  refine xl_makeG tt_ok pvY pv0 56 L.length rfl rfl rfl rfl rfl rfl rfl rfl rfl (by kernel_rfl) rfl rfl rfl (by omega) (by omega) ?_
  refine xl_go tt_ok ?_
  refine x_loop (σ := Int × List PV) (fun (i, M) => ⟨[(11, .v (.int .i64 i)), (10, .v (.int .i64 L.length)), (9, .r 0), (3, .r 1)], [], [(0, .sl (tokY.d L)), (1, .row 35 (pvY.d M))], 2⟩)
    (fun (i, M) _ => 0 ≤ i ∧ i ≤ L.length ∧ M.length = L.length ∧ M.take i.toNat = (L.take i.toNat).map ofT) (fun (i, _) => (L.length - i).toNat) (fun (_, _) => Nat.le_refl _) (0, List.replicate L.length pv0) [] (.of rfl rfl rfl rfl rfl rfl)
    ⟨by omega, by omega, by simp, by simp⟩ ?_
  rintro ⟨i, M⟩ u hu ⟨g1, g2, g3, g4⟩
  refine x_vc tt_ok ?_
  refine x_if (fun h => ?_) (fun h => ?_)
  · have h : i < L.length := of_decide_eq_true h
    repeat (refine And.intro ?_ ?_; first | omega | (simp only [Lay.d_n]; omega) | (simp only [decide_eq_true_eq, decide_eq_false_iff_not, Bool.or_eq_false_iff, Bool.and_eq_true, Bool.or_eq_true, Bool.and_eq_false_iff, Bool.not_eq_true', Bool.not_eq_false', Lay.d_n]; omega) | (simp only [decide_eq_true_eq, decide_eq_false_iff_not, Bool.or_eq_false_iff, Bool.and_eq_true, Bool.or_eq_true, Bool.and_eq_false_iff, Bool.not_eq_true', Bool.not_eq_false']; omega))
    refine xl_set tt_ok pvY M (ofT (L.getD i.toNat tok0)) (cs := [.int .i64 (L.getD i.toNat tok0).kind, .string (L.getD i.toNat tok0).text, .bool (L.getD i.toNat tok0).space, .slice none 0 0]) rfl rfl rfl rfl rfl rfl rfl (by omega) (by omega) rfl rfl (Nat.le_refl 4) rfl ?_
    refine xl_go tt_ok ?_
    repeat (refine And.intro ?_ ?_; first | omega | (simp only [Lay.d_n]; omega) | (simp only [decide_eq_true_eq, decide_eq_false_iff_not, Bool.or_eq_false_iff, Bool.and_eq_true, Bool.or_eq_true, Bool.and_eq_false_iff, Bool.not_eq_true', Bool.not_eq_false', Lay.d_n]; omega) | (simp only [decide_eq_true_eq, decide_eq_false_iff_not, Bool.or_eq_false_iff, Bool.and_eq_true, Bool.or_eq_true, Bool.and_eq_false_iff, Bool.not_eq_true', Bool.not_eq_false']; omega))
    refine again (i + 1, M.set i.toNat (ofT (L.getD i.toNat tok0))) [] (.of rfl rfl rfl rfl rfl rfl) ⟨by omega, by omega, by rw [List.length_set]; exact g3, ?_⟩ (by simp only; omega)
    rw [show (i + 1).toNat = i.toNat + 1 by omega, take_get (x := ofT (L.getD i.toNat tok0)) (List.getElem?_set_self (by omega)), List.take_set_of_le (Nat.le_refl _), g4,
      take_get (List.getElem?_eq_getElem (by omega)), List.map_append, List.getD_eq_getElem?_getD, List.getElem?_eq_getElem (by omega)]
    rfl
  · have h : ¬ i < L.length := of_decide_eq_false h
    have e : M = L.map ofT := by
      rw [List.take_of_length_le (by omega), List.take_of_length_le (by omega)] at g4
      exact g4
    rw [← e]
    exact finO (k := 1) rfl
end Go.Proofs.YtnjmkeijjapejaaGreat
namespace Go.GV
open Go.RowKit
theorem xl_gval {C : Cx} {all : List Oper} {o : Oper} {r : List Oper} {Q : Post} {st : St} {u : Im} (v : Value) {g : Gd} {d : Nat}
    (hg : guardOf all st o = some g) (hd : o.dst = some d) (hnd : ∀ c, o.op ≠ .defer c) (hfr : fresh C.N st d g = true)
    (H : allL (gprops st g) → ∀ E a w, Ok C E st u a w → gs a.tmps g → (execOp a.eval o).run C.P w = .ok (.value v) w)
    (K : XL C all r Q (st.put d g (.v v)) u) : XL C all (o :: r) Q st u := by
  unfold XL at K ⊢
  intro E a w hok
  have how : (st.put d g (.v v)).ow = st.ow := by cases g <;> rfl
  have hnx : (st.put d g (.v v)).nx = st.nx := by cases g <;> rfl
  have hgd := guard_sound (all := all.toArray) hok.agr (by simpa using hg)
  obtain ⟨fF, hsat⟩ := hok.sat
  have go : ∀ x w', (gs a.tmps g → x = v) → (¬ gs a.tmps g → x = undef) → Below w.heap.size w w' →
      wpListIn (FR C.ro) 0 C.P all.toArray (SemQ C E st.nx u Q) r (a.put o.dst x) w' := by
    intro x w' hx hnx' hbel
    have hput : Agr C.N E (st.put d g (.v v)) (a.tmps.setIfInBounds d x) :=
      hok.agr.put hfr (fun _ => trivial) hx hnx' (fun hn => by subst hn; exact hx (fun y hy => by cases hy))
    have := K E (a.put o.dst x) w' ⟨by rw [hd]; exact hput, fF, by rw [how, hnx, hd]; exact hsat.keep hbel⟩
    rwa [hnx] at this
  unfold wpListIn
  by_cases hw : Region.wanted o (yielded all.toArray a.tmps) = true
  · have hgs := hgd.1 hw
    rw [if_pos hw]
    refine ⟨fun _ _ => trivial, ?_⟩
    rw [semAt_eq _ _ _ hnd, H (allL_of (gprops_sound hok.agr hgs (fun _ _ _ => trivial))) E a w hok hgs, Oper.uponIn_value]
    exact go _ _ (fun _ => rfl) (fun hn => absurd hgs hn) (Below.refl _ _)
  · have hgs := hgd.2 (by simpa using hw)
    rw [if_neg hw]
    exact ⟨fun _ _ => trivial, go _ _ (fun hy => absurd hy hgs) (fun _ => rfl) (Below.refl _ _)⟩
end Go.GV
namespace Go.GV
open Go.RowKit Go.Maps
def mapHp (P : Program) (kt et : TypeId) (b n : Nat) (f : ByteArray → Int) : Hp where
  h := fun _ F w => (∀ x, F x ↔ x = b) ∧ ∃ D : DataW Unit, w.ownsMap P kt (plainElem P et) b n D ∧ ∀ s : ByteArray, D.atKey (.string s.data.toList) (.lit (.int .i64 0)) = .lit (.int .i64 (f s))
  loc := fun _ F w w' ⟨h1, D, ⟨es, clock, h2, h3⟩, h4⟩ hF _ _ => ⟨h1, D, ⟨es, clock, by rw [hF b ((h1 b).2 rfl)]; exact h2, h3⟩, h4⟩
  mono := fun _ _ _ _ h _ _ => h
  fin := fun _ F w ⟨h1, D, h2, _⟩ x hx => by rw [(h1 x).1 hx]; exact h2.lt
theorem keyOf_str {P : Program} {kt : TypeId} (hk : P.underlying kt = some .string) (s : ByteArray) (hs : s.size ≤ maxLen) : keyOf P kt (.string s) = some (.string s.data.toList) := by
  simp [keyOf, hk, mapKey, hs]
theorem xl_makeMap {C : Cx} {all : List Oper} {o : Oper} {r : List Oper} {Q : Post} {kn : Kn} {gk : List (Nat × (Gd × SV))} {ow : Own} {nx : Nat} {u : Im} {t d kt et : Nat} (ho : o.op = .makeMap t none) (hgd : o.guard = none) (hd : o.dst = some d)
    (hfr : fresh C.N ⟨kn, gk, ow, nx⟩ d [] = true)
    (K : ∀ b, XL C all r Q ⟨(d, .v (.map (some b))) :: kn, gk, (nx, .gen (mapHp C.P kt et b 0 (fun _ => 0))) :: ow, nx + 1⟩ u) : XL C all (o :: r) Q ⟨kn, gk, ow, nx⟩ u := by
  unfold XL at K ⊢
  intro E a w hok
  obtain ⟨f, hsat⟩ := hok.sat
  have hrun : (execOp a.eval o).run C.P w = .ok (.value (.map (some w.heap.size))) (w.alloc (.map #[] 0)) := by
    obtain ⟨dst, op, ty, pos, after, guard⟩ := o
    simp only at ho
    subst ho
    simp [execOp, run_makeMap]
  refine xl_wp hgd (fun c hc => by rw [ho] at hc; cases hc) hrun ?_
  rw [hd]
  have hz : (w.alloc (.map #[] 0)).heap.size = w.heap.size + 1 := World.size_alloc _ _
  have hold : ∀ b, b < w.heap.size → (w.alloc (.map #[] 0)).heap[b]? = w.heap[b]? := fun b hb => Below.heap_alloc _ _ _ hb
  have hnone : u.h w.heap.size = none := by
    cases ho : u.h w.heap.size with
    | none => rfl
    | some x => have := (Array.getElem?_eq_some_iff.1 (hsat.imm.h _ x ho)).1; omega
  have hs : Sat E ((nx, .gen (mapHp C.P kt et w.heap.size 0 (fun _ => 0))) :: ow) (nx + 1) u a.defers (w.alloc (.map #[] 0)) (upd f nx (fun b => b = w.heap.size)) := by
    refine hsat.step (fun k => k = nx) (fun _ _ => rfl) (Nat.le_succ _) (Im.le.refl u) ?_ (by omega) (fun b hb _ => hold b hb) ?_ ?_ ?_ (fun b o ho => .inl ho)
    · exact ⟨fun b o ho => by rw [hold b (Array.getElem?_eq_some_iff.1 (hsat.imm.h b o ho)).1]; exact hsat.imm.h b o ho, hsat.imm.os, hsat.imm.tape, hsat.imm.output, by have := hsat.imm.lo; omega⟩
    · intro k hk
      exact ⟨by rw [look_cons, if_neg (fun e => hk e.symm)], fun b => by rw [upd_other _ _ hk]⟩
    · rintro k rfl
      refine ⟨fun r hr => ?_, fun hn => ?_, fun b hb => ?_⟩
      · rw [look_cons, if_pos rfl] at hr
        cases hr
        refine ⟨⟨fun x => by rw [upd_same], .map [], World.ownsMap_made w C.P kt _, fun s => rfl⟩, Nat.lt_succ_self _, trivial⟩
      · rw [look_cons, if_pos rfl] at hn; cases hn
      · rw [upd_same] at hb
        exact ⟨.inr (by omega), by rw [hb]; exact hnone⟩
    · rintro k k' b rfl rfl hne
      exact absurd rfl hne
  have hg := hok.agr.grow (E' := E) (ow := (nx, .gen (mapHp C.P kt et w.heap.size 0 (fun _ => 0))) :: ow) (nx := nx + 1) (fun _ _ => rfl) (Nat.le_succ _)
  have hput := hg.put (d := d) (g := []) (s := .v (.map (some w.heap.size))) (x := .map (some w.heap.size)) hfr (fun _ => trivial) (fun _ => rfl) (fun hn => absurd (fun x hx => (by cases hx)) hn) (fun _ => rfl)
  have := K w.heap.size E (a.put (some d) (.map (some w.heap.size))) _ ⟨⟨hput.size, hput.kn, hput.gk, hput.klt, hput.glt⟩, _, hs⟩
  exact wpListIn_monoQ (fun e a w => SemQ.mono (fun _ _ => rfl) (Nat.le_succ _) (Im.le.refl u)) _ _ _ this
theorem xl_lookup {C : Cx} {all : List Oper} {o : Oper} {r : List Oper} {Q : Post} {st : St} {u : Im} {t d kt et k b n : Nat} {g : Gd} {f : ByteArray → Int} {m x : Operand} {s : ByteArray} (ho : o.op = .lookup t m x false) (hg : guardOf all st o = some g) (hd : o.dst = some d)
    (ht : C.P.underlying t = some (.map kt et)) (hkt : C.P.underlying kt = some .string) (het : C.P.underlying et = some (.int .i64)) (hfr : fresh C.N st d g = true)
    (hm : opd st g m = some (.v (.map (some b)))) (hx : opd st g x = some (.v (.string s))) (hs : s.size ≤ maxLen) (hk : look st.ow k = some (.gen (mapHp C.P kt et b n f)))
    (hz : ∀ w, (zeroValue et).run C.P w = .ok (.int .i64 0) w)
    (K : XL C all r Q (st.put d g (.v (.int .i64 (f s)))) u) : XL C all (o :: r) Q st u := by
  refine xl_gval (.int .i64 (f s)) hg hd (fun c hc => by rw [ho] at hc; cases hc) hfr (fun _ E a w hok hgs => ?_) K
  obtain ⟨F, hsat⟩ := hok.sat
  obtain ⟨_, D, h1, h2⟩ := hsat.holds k _ hk
  have e1 := (opd_sound hok.agr hgs hm).1
  have e2 := (opd_sound hok.agr hgs hx).1
  obtain ⟨c, hrun, hat, _⟩ := h1.lookup_int (string_keyed hkt) ht het (hz w) (keyOf_str hkt s hs)
  rw [h2 s] at hat
  have hc : c = f s := by injection hat with hat; injection hat with _ hat; exact hat.symm
  obtain ⟨dst, op, ty, pos, after, guard⟩ := o
  simp only at ho
  subst ho
  simp only [SV.den] at e1 e2
  simp [execOp, e1, e2, hrun, hc]
theorem xl_mapSet {C : Cx} {all : List Oper} {o : Oper} {r : List Oper} {Q : Post} {kn : Kn} {gk : List (Nat × (Gd × SV))} {ow : Own} {nx : Nat} {u : Im} {t kt et k b n : Nat} {f : ByteArray → Int} {m x v : Operand} {s : ByteArray} {c : Int}
    (ho : o.op = .mapUpdate t m x v ∨ o.op = .insert t m x v) (hgd : o.guard = none) (hd : o.dst = none)
    (ht : C.P.underlying t = some (.map kt et)) (hkt : C.P.underlying kt = some .string) (het : C.P.underlying et = some (.int .i64))
    (hm : opd ⟨kn, gk, ow, nx⟩ [] m = some (.v (.map (some b)))) (hx : opd ⟨kn, gk, ow, nx⟩ [] x = some (.v (.string s))) (hv : opd ⟨kn, gk, ow, nx⟩ [] v = some (.v (.int .i64 c))) (hs : s.size ≤ maxLen) (hc : (Lit.int .i64 c).wf = true)
    (hk : look ow k = some (.gen (mapHp C.P kt et b n f))) (hn : n < maxLen)
    (K : XL C all r Q ⟨kn, gk, (k, .gen (mapHp C.P kt et b (n + 1) (fun s' => if s' = s then c else f s'))) :: ow, nx⟩ u) : XL C all (o :: r) Q ⟨kn, gk, ow, nx⟩ u := by
  unfold XL at K ⊢
  intro E a w hok
  obtain ⟨F, hsat⟩ := hok.sat
  have hgs : gs a.tmps [] := fun x hx => by cases hx
  obtain ⟨hF, D, h1, h2⟩ := hsat.holds k _ hk
  have e1 := (opd_sound hok.agr hgs hm).1
  have e2 := (opd_sound hok.agr hgs hx).1
  have e3 := (opd_sound hok.agr hgs hv).1
  have hkey := keyOf_str hkt s hs
  obtain ⟨w', hrun0, hown, hgr⟩ := h1.update (string_keyed hkt) ht hn hkey (plainElem_int het hc)
  have hrun : (execOp a.eval o).run C.P w = .ok .skip w' := by
    obtain ⟨dst, op, ty, pos, after, guard⟩ := o
    simp only at ho
    simp only [SV.den] at e1 e2 e3
    rcases ho with ho | ho <;> subst ho <;> simp [execOp, e1, e2, e3, hrun0]
  have hD := h1.isMap
  have hkk : WideAt.IsKeyLit (.string s.data.toList) := by trivial
  have hat : ∀ s' : ByteArray, (D.put (.string s.data.toList) (.lit (.int .i64 c))).atKey (.string s'.data.toList) (.lit (.int .i64 0)) = .lit (.int .i64 (if s' = s then c else f s')) := fun s' => by
    by_cases e : s' = s
    · subst e; rw [if_pos rfl]; exact atKey_put_same hD hkk _ _
    · rw [if_neg e, atKey_put_other (fun h => e (by
        injection h with h
        have : s'.data = s.data := Array.toList_inj.1 h
        cases s'; cases s; simp_all))]
      exact h2 s'
  have hkl := (hsat.lt k _ hk).1
  have hkb : F k b := (hF b).2 rfl
  have hsat2 : Sat E ((k, .gen (mapHp C.P kt et b (n + 1) (fun s' => if s' = s then c else f s'))) :: ow) nx u a.defers w' F := by
    refine hsat.step (fun j => j = k) (fun _ _ => rfl) (Nat.le_refl _) (Im.le.refl u) ?_ hgr.size (fun b' hb' hne => hgr.block b' hb' (fun e => hne k rfl (by injection e with e; rw [e]; exact hkb))) ?_ ?_ ?_ (fun b o ho => .inl ho)
    · refine ⟨fun b' y hy => ?_, hgr.os.trans hsat.imm.os, hgr.tape.trans hsat.imm.tape, hgr.output.trans hsat.imm.output, Nat.le_trans hsat.imm.lo hgr.size⟩
      have hh := hsat.imm.h b' y hy
      rw [hgr.block b' (Array.getElem?_eq_some_iff.1 hh).1 (fun e => by injection e with e; rw [e, hsat.off k b hkb] at hy; cases hy)]
      exact hh
    · intro j hj
      exact ⟨by rw [look_cons, if_neg (Ne.symm hj)], fun b => Iff.rfl⟩
    · rintro j rfl
      refine ⟨fun r hr => ?_, fun hr => ?_, fun b hb => ?_⟩
      · rw [look_cons, if_pos rfl] at hr
        cases hr
        exact ⟨⟨hF, _, hown, hat⟩, hkl, trivial⟩
      · rw [look_cons, if_pos rfl] at hr; cases hr
      · exact ⟨.inl ⟨j, rfl, hb⟩, hsat.off j b hb⟩
    · intro j j' b hj hj' hne; subst hj hj'; exact absurd rfl hne
  unfold wpListIn
  rw [if_pos (by simp [Region.wanted, hgd])]
  refine ⟨fun _ _ => trivial, ?_⟩
  rw [semAt_eq _ _ _ (fun c hc => by rcases ho with ho | ho <;> rw [ho] at hc <;> cases hc), hrun, Oper.uponIn_skip, hd]
  exact K E a w' ⟨⟨hok.agr.size, hok.agr.kn, hok.agr.gk, hok.agr.klt, hok.agr.glt⟩, F, hsat2⟩
theorem xl_mapSetE {C : Cx} {all : List Oper} {o : Oper} {r : List Oper} {Q : Post} {kn : Kn} {gk : List (Nat × (Gd × SV))} {ow : Own} {nx : Nat} {u : Im} {t kt et k b n : Nat} {f : ByteArray → Int} {m x v : Operand} {s : ByteArray} {c : Int}
    (ho : o.op = .mapUpdate t m x v ∨ o.op = .insert t m x v) (hgd : o.guard = none) (hd : o.dst = none)
    (ht : C.P.underlying t = some (.map kt et)) (hkt : C.P.underlying kt = some .string) (het : C.P.underlying et = some (.int .i64))
    (hm : opd ⟨kn, gk, ow, nx⟩ [] m = some (.v (.map (some b)))) (hx : opd ⟨kn, gk, ow, nx⟩ [] x = some (.v (.string s))) (hv : opd ⟨kn, gk, ow, nx⟩ [] v = some (.v (.int .i64 c))) (hs : s.size ≤ maxLen) (hc : (Lit.int .i64 c).wf = true)
    (hk : look ow k = some (.gen (mapHp C.P kt et b n f))) (hn : n < maxLen) (f' : ByteArray → Int) (hf : (fun s' => if s' = s then c else f s') = f')
    (K : XL C all r Q ⟨kn, gk, (k, .gen (mapHp C.P kt et b (n + 1) f')) :: ow, nx⟩ u) : XL C all (o :: r) Q ⟨kn, gk, ow, nx⟩ u := by
  subst hf
  exact xl_mapSet ho hgd hd ht hkt het hm hx hv hs hc hk hn K
end Go.GV
namespace Go.Proofs.YtnjmkeijjapejaaGreat
open Go.GV Go.RowKit
def sRest : ByteArray := ⟨#[95, 95, 86, 65, 95, 65, 82, 71, 83, 95, 95]⟩
def hashes : List ByteArray := [⟨#[35, 35]⟩, ⟨#[37, 58, 37, 58]⟩]
def hash1 : List ByteArray := [⟨#[35]⟩, ⟨#[37, 58]⟩]
def vF (fn va : Bool) (P : List ByteArray) : List Tok → Bool
  | [] => true
  | t :: r => if (decide (t.kind = 1) && decide (t.text = sRest) && !va) = true then false
    else if (!fn || !isT t hash1) = true then vF fn va P r
    else match r with
      | [] => false
      | t2 :: _ => if (decide (t2.kind ≠ 1) || !(decide (t2.text = sRest) || memB t2.text P)) = true then false else vF fn va P r
def validB (fn va : Bool) (P : List ByteArray) (L : List Tok) : Bool :=
  match L with
  | [] => true
  | t :: r => if (isT t hashes || isT ((t :: r).getLastD tok0) hashes) = true then false else vF fn va P (t :: r)
def fM (P : List ByteArray) (i : Nat) : ByteArray → Int := fun s => if (decide (s = sRest) || memB s (P.take i)) = true then 1 else 0
theorem fM_zero (P : List ByteArray) : (fun s' : ByteArray => if s' = sRest then (1 : Int) else 0) = fM P 0 := by
  funext s
  unfold fM memB
  simp
theorem fM_next {P : List ByteArray} {i : Nat} {s : ByteArray} (h : P[i]? = some s) : (fun s' : ByteArray => if s' = s then (1 : Int) else fM P i s') = fM P (i + 1) := by
  funext s'
  unfold fM memB
  rw [take_get h, List.any_append]
  by_cases e : s' = s
  · subst e; simp
  · simp only [List.any_cons, List.any_nil, decide_eq_false e, Bool.or_false, if_neg e]
set_option maxRecDepth 100000 in
theorem valid_any (nm : ByteArray) (fn va : Bool) (P : List ByteArray) (pa ba : Option Addr) (pc bn bc : Nat) (L : List Tok) (x : Value) (w : World) (hx : SlAt (im w) x (tokY.d L)) (hp : SlAt (im w) (.slice pa P.length pc) (strY.d P))
    (hL : L.length * 48 ≤ 140737488355328) (hP : P.length * 16 ≤ 140737488355328) (zL : ∀ t ∈ L, t.text.size ≤ maxLen) (zP : ∀ s ∈ P, s.size ≤ maxLen) :
    Calls Tryz.prog 42 #[.agg #[.string nm, .bool fn, .slice pa P.length pc, .bool va, .slice ba bn bc], x] w (PureP w fun v _ => v = .bool (validB fn va P L)) := by
  have zT : ∀ i : Nat, (L.getD i tok0).text.size ≤ maxLen := fun i => by
    rw [List.getD_eq_getElem?_getD]
    cases hx : L[i]? with
    | none => decide
    | some t => exact zL t (List.mem_of_getElem? hx)
  refine x_fun tt_ok Tryz.func42 rfl rfl [(x, tokY.d L)] 1 [.v (.agg #[.string nm, .bool fn, .slice pa P.length pc, .bool va, .slice ba bn bc]), .r 0] rfl rfl rfl rfl (fun b hb => by simp at hb; subst hb; exact hx) ?_
  refine x_vc tt_ok ?_
  refine x_if (fun h => ?_) (fun h => ?_)
  · have h : (L.length : Int) = 0 := of_decide_eq_true h
    have : L = [] := List.eq_nil_of_length_eq_zero (by omega)
    subst this
    exact fin1 (fun _ _ => rfl)
  · have h : ¬ (L.length : Int) = 0 := of_decide_eq_false h
    have hv : validB fn va P L = if (isT (L.getD 0 tok0) hashes || isT (L.getD ((L.length : Int) - 1).toNat tok0) hashes) = true then false else vF fn va P L := by
      cases L with
      | nil => exact absurd rfl h
      | cons t r =>
        rw [show (((t :: r).length : Int) - 1).toNat = (t :: r).length - 1 by omega]
        simp [validB, List.getLastD_eq_getLast?, List.getLast?_eq_getElem?, List.getD_eq_getElem?_getD]
    repeat (refine And.intro ?_ ?_; first | omega | (simp only [Lay.d_n]; omega) | (simp only [decide_eq_true_eq, decide_eq_false_iff_not, Bool.or_eq_false_iff, Bool.and_eq_true, Bool.or_eq_true, Bool.and_eq_false_iff, Bool.not_eq_true', Bool.not_eq_false', Lay.d_n]; omega) | (simp only [decide_eq_true_eq, decide_eq_false_iff_not, Bool.or_eq_false_iff, Bool.and_eq_true, Bool.or_eq_true, Bool.and_eq_false_iff, Bool.not_eq_true', Bool.not_eq_false']; omega) | (simp only [decide_eq_true_eq, decide_eq_false_iff_not, Bool.or_eq_false_iff]; simp only [Lay.d_n]; omega))
    refine xl_build tt_ok strY hashes [_, _] rfl rfl rfl rfl rfl rfl rfl rfl rfl rfl rfl rfl rfl rfl rfl ?_
    refine xl_go tt_ok ?_
    refine xl_call0 (.bool (isT (L.getD 0 tok0) hashes)) rfl rfl rfl rfl fn40 rfl rfl (fun E w F hs => is_any (L.getD 0 tok0) hashes _ w (hs.rowAt (k := 2) rfl) (by decide)) ?_
    refine xl_go tt_ok ?_
    repeat (refine And.intro ?_ ?_; first | omega | (simp only [Lay.d_n]; omega) | (simp only [decide_eq_true_eq, decide_eq_false_iff_not, Bool.or_eq_false_iff, Bool.and_eq_true, Bool.or_eq_true, Bool.and_eq_false_iff, Bool.not_eq_true', Bool.not_eq_false', Lay.d_n]; omega) | (simp only [decide_eq_true_eq, decide_eq_false_iff_not, Bool.or_eq_false_iff, Bool.and_eq_true, Bool.or_eq_true, Bool.and_eq_false_iff, Bool.not_eq_true', Bool.not_eq_false']; omega) | (simp only [decide_eq_true_eq, decide_eq_false_iff_not, Bool.or_eq_false_iff]; simp only [Lay.d_n]; omega))
    refine xl_gsplit 18 (.bool false) rfl rfl rfl rfl rfl (fun hb => ?_) (fun hb => ?_)
    · refine xl_build tt_ok strY hashes [_, _] rfl rfl rfl rfl rfl rfl rfl rfl rfl rfl rfl rfl rfl rfl rfl ?_
      refine xl_go tt_ok ?_
      refine xl_gcall0 (.bool (isT (L.getD ((L.length : Int) - 1).toNat tok0) hashes)) rfl rfl rfl rfl fn40 rfl rfl (fun _ E w F hs => is_any (L.getD ((L.length : Int) - 1).toNat tok0) hashes _ w (hs.rowAt (k := 3) rfl) (by decide)) ?_
      refine xl_go tt_ok ?_
      refine x_if (fun h2 => ?_) (fun h2 => ?_)
      · have h2 : (isT (L.getD 0 tok0) hashes || isT (L.getD ((L.length : Int) - 1).toNat tok0) hashes) = true := h2
        refine fin1 (fun _ _ => ?_)
        rw [hv, if_pos h2]; rfl
      · have h2 : (isT (L.getD 0 tok0) hashes || isT (L.getD ((L.length : Int) - 1).toNat tok0) hashes) = false := h2
        rw [if_neg (by rw [h2]; simp)] at hv
        rw [hv]
        refine xl_makeMap (kt := 9) (et := 3) rfl rfl rfl rfl (fun b => ?_)
        refine xl_mapSetE (k := 4) (.inr rfl) rfl rfl Tryz.underlying120 Tryz.underlying9 Tryz.underlying3 rfl rfl rfl (by decide) (by decide) rfl (by decide) (fM P 0) (fM_zero P) ?_
        refine xl_go tt_ok ?_
        refine x_sl 31 rfl hp ?_
        refine x_loop (σ := Int) (fun i => ⟨[(33, .v (.int .i64 i)), (32, .v (.int .i64 P.length)), (31, .r 5), (5, .v (.map (some b))), (2, .p 1 0), (1, .r 0)], [],
            [(0, .sl (tokY.d L)), (1, .box 25 [.v (.string nm), .v (.bool fn), .v (.slice pa P.length pc), .v (.bool va), .v (.slice ba bn bc)]), (4, .gen (mapHp Tryz.prog 9 3 b (i.toNat + 1) (fM P i.toNat))), (5, .sl (strY.d P))], 6⟩)
          (fun i _ => 0 ≤ i ∧ i ≤ P.length) (fun i => (P.length - i).toNat) (fun _ => Nat.le_refl _) 0 [] (.of rfl rfl rfl rfl rfl rfl) ⟨by omega, by omega⟩ ?_
        rintro i u hu ⟨g1, g2⟩
        refine x_vc tt_ok ?_
        refine x_if (fun h3 => ?_) (fun h3 => ?_)
        · have h3 : i < P.length := of_decide_eq_true h3
          have hi : P[i.toNat]? = some (P.getD i.toNat strY.dft) := by rw [List.getD_eq_getElem?_getD, List.getElem?_eq_getElem (by omega)]; rfl
          repeat (refine And.intro ?_ ?_; first | omega | (simp only [Lay.d_n]; omega) | (simp only [decide_eq_true_eq, decide_eq_false_iff_not, Bool.or_eq_false_iff, Bool.and_eq_true, Bool.or_eq_true, Bool.and_eq_false_iff, Bool.not_eq_true', Bool.not_eq_false', Lay.d_n]; omega) | (simp only [decide_eq_true_eq, decide_eq_false_iff_not, Bool.or_eq_false_iff, Bool.and_eq_true, Bool.or_eq_true, Bool.and_eq_false_iff, Bool.not_eq_true', Bool.not_eq_false']; omega) | (simp only [decide_eq_true_eq, decide_eq_false_iff_not, Bool.or_eq_false_iff]; simp only [Lay.d_n]; omega))
          refine xl_mapSetE (k := 4) (.inl rfl) rfl rfl Tryz.underlying120 Tryz.underlying9 Tryz.underlying3 rfl rfl rfl (zP _ (List.mem_of_getElem? hi)) (by decide) rfl (by unfold maxLen; omega) (fM P (i.toNat + 1)) (fM_next hi) ?_
          refine xl_go tt_ok ?_
          repeat (refine And.intro ?_ ?_; first | omega | (simp only [Lay.d_n]; omega) | (simp only [decide_eq_true_eq, decide_eq_false_iff_not, Bool.or_eq_false_iff, Bool.and_eq_true, Bool.or_eq_true, Bool.and_eq_false_iff, Bool.not_eq_true', Bool.not_eq_false', Lay.d_n]; omega) | (simp only [decide_eq_true_eq, decide_eq_false_iff_not, Bool.or_eq_false_iff, Bool.and_eq_true, Bool.or_eq_true, Bool.and_eq_false_iff, Bool.not_eq_true', Bool.not_eq_false']; omega) | (simp only [decide_eq_true_eq, decide_eq_false_iff_not, Bool.or_eq_false_iff]; simp only [Lay.d_n]; omega))
          have e2 : (i + 1).toNat = i.toNat + 1 := by omega
          refine again (i + 1) [] ?_ ⟨by omega, by omega⟩ (by omega)
          simp only [e2]
          exact .of rfl rfl rfl rfl rfl rfl
        · have h3 : ¬ i < P.length := of_decide_eq_false h3
          obtain ⟨i0, hi0⟩ : ∃ i0, i0 = i.toNat := ⟨_, rfl⟩
          have e3 : i0 = P.length := by omega
          rw [← hi0]
          refine x_loop (σ := Int) (fun i => ⟨[(42, .v (.int .i64 i)), (41, .v (.int .i64 L.length)), (40, .r 0), (5, .v (.map (some b))), (2, .p 1 0), (1, .r 0)], [],
              [(0, .sl (tokY.d L)), (1, .box 25 [.v (.string nm), .v (.bool fn), .v (.slice pa P.length pc), .v (.bool va), .v (.slice ba bn bc)]), (4, .gen (mapHp Tryz.prog 9 3 b (i0 + 1) (fM P i0)))], 6⟩)
            (fun i _ => 0 ≤ i ∧ i ≤ L.length ∧ vF fn va P (L.drop i.toNat) = vF fn va P L) (fun i => (L.length - i).toNat) (fun _ => Nat.le_refl _) 0 [] (.of rfl rfl rfl rfl rfl rfl) ⟨by omega, by omega, rfl⟩ ?_
          rintro j u2 hu2 ⟨k1, k2, k3⟩
          refine x_vc tt_ok ?_
          refine x_if (fun h4 => ?_) (fun h4 => ?_)
          · have h4 : j < L.length := of_decide_eq_true h4
            have ej : (j + 1).toNat = j.toNat + 1 := by omega
            rw [drop_at (d := tok0) k1 h4, ej] at k3
            obtain ⟨t, ht⟩ : ∃ t, t = L.getD j.toNat tok0 := ⟨_, rfl⟩
            rw [← ht] at k3
            repeat (refine And.intro ?_ ?_; first | omega | (simp only [Lay.d_n]; omega) | (simp only [decide_eq_true_eq, decide_eq_false_iff_not, Bool.or_eq_false_iff, Bool.and_eq_true, Bool.or_eq_true, Bool.and_eq_false_iff, Bool.not_eq_true', Bool.not_eq_false', Lay.d_n]; omega) | (simp only [decide_eq_true_eq, decide_eq_false_iff_not, Bool.or_eq_false_iff, Bool.and_eq_true, Bool.or_eq_true, Bool.and_eq_false_iff, Bool.not_eq_true', Bool.not_eq_false']; omega) | (simp only [decide_eq_true_eq, decide_eq_false_iff_not, Bool.or_eq_false_iff]; simp only [Lay.d_n]; omega))
            refine x_if (fun h5 => ?_) (fun h5 => ?_)
            · have h5 : (decide ((L.getD j.toNat tok0).kind = 1) && decide ((L.getD j.toNat tok0).text = sRest) && !va) = true := h5
              rw [← ht] at h5
              simp only [vF, if_pos h5] at k3
              refine fin1 (fun _ _ => ?_)
              rw [← k3]; rfl
            · have h5 : (decide ((L.getD j.toNat tok0).kind = 1) && decide ((L.getD j.toNat tok0).text = sRest) && !va) = false := h5
              rw [← ht] at h5
              simp only [vF] at k3
              rw [if_neg (by rw [h5]; simp)] at k3
              refine xl_gsplit 63 (.bool false) rfl rfl rfl rfl rfl (fun hb2 => ?_) (fun hb2 => ?_)
              · refine xl_build tt_ok strY hash1 [_, _] rfl rfl rfl rfl rfl rfl rfl rfl rfl rfl rfl rfl rfl rfl rfl ?_
                refine xl_go tt_ok ?_
                refine xl_gcall0 (.bool (isT (L.getD j.toNat tok0) hash1)) rfl rfl rfl rfl fn40 rfl rfl (fun _ E w F hs => is_any (L.getD j.toNat tok0) hash1 _ w (hs.rowAt (k := 7) rfl) (by decide)) ?_
                refine xl_go tt_ok ?_
                repeat (refine And.intro ?_ ?_; first | omega | (simp only [Lay.d_n]; omega) | (simp only [decide_eq_true_eq, decide_eq_false_iff_not, Bool.or_eq_false_iff, Bool.and_eq_true, Bool.or_eq_true, Bool.and_eq_false_iff, Bool.not_eq_true', Bool.not_eq_false', Lay.d_n]; omega) | (simp only [decide_eq_true_eq, decide_eq_false_iff_not, Bool.or_eq_false_iff, Bool.and_eq_true, Bool.or_eq_true, Bool.and_eq_false_iff, Bool.not_eq_true', Bool.not_eq_false']; omega) | (simp only [decide_eq_true_eq, decide_eq_false_iff_not, Bool.or_eq_false_iff]; simp only [Lay.d_n]; omega))
                refine x_if (fun h6 => ?_) (fun h6 => ?_)
                · have h6 : (!fn || !isT (L.getD j.toNat tok0) hash1) = true := h6
                  rw [← ht] at h6
                  rw [if_pos h6] at k3
                  repeat (refine And.intro ?_ ?_; first | omega | (simp only [Lay.d_n]; omega) | (simp only [decide_eq_true_eq, decide_eq_false_iff_not, Bool.or_eq_false_iff, Bool.and_eq_true, Bool.or_eq_true, Bool.and_eq_false_iff, Bool.not_eq_true', Bool.not_eq_false', Lay.d_n]; omega) | (simp only [decide_eq_true_eq, decide_eq_false_iff_not, Bool.or_eq_false_iff, Bool.and_eq_true, Bool.or_eq_true, Bool.and_eq_false_iff, Bool.not_eq_true', Bool.not_eq_false']; omega) | (simp only [decide_eq_true_eq, decide_eq_false_iff_not, Bool.or_eq_false_iff]; simp only [Lay.d_n]; omega))
                  exact again (j + 1) [] (.of rfl rfl rfl rfl rfl rfl) ⟨by omega, by omega, by rw [ej]; exact k3⟩ (by omega)
                · have h6 : (!fn || !isT (L.getD j.toNat tok0) hash1) = false := h6
                  rw [← ht] at h6
                  rw [if_neg (by rw [h6]; simp)] at k3
                  repeat (refine And.intro ?_ ?_; first | omega | (simp only [Lay.d_n]; omega) | (simp only [decide_eq_true_eq, decide_eq_false_iff_not, Bool.or_eq_false_iff, Bool.and_eq_true, Bool.or_eq_true, Bool.and_eq_false_iff, Bool.not_eq_true', Bool.not_eq_false', Lay.d_n]; omega) | (simp only [decide_eq_true_eq, decide_eq_false_iff_not, Bool.or_eq_false_iff, Bool.and_eq_true, Bool.or_eq_true, Bool.and_eq_false_iff, Bool.not_eq_true', Bool.not_eq_false']; omega) | (simp only [decide_eq_true_eq, decide_eq_false_iff_not, Bool.or_eq_false_iff]; simp only [Lay.d_n]; omega))
                  repeat (refine And.intro ?_ ?_; first | omega | (simp only [Lay.d_n]; omega) | (simp only [decide_eq_true_eq, decide_eq_false_iff_not, Bool.or_eq_false_iff, Bool.and_eq_true, Bool.or_eq_true, Bool.and_eq_false_iff, Bool.not_eq_true', Bool.not_eq_false', Lay.d_n]; omega) | (simp only [decide_eq_true_eq, decide_eq_false_iff_not, Bool.or_eq_false_iff, Bool.and_eq_true, Bool.or_eq_true, Bool.and_eq_false_iff, Bool.not_eq_true', Bool.not_eq_false']; omega) | (simp only [decide_eq_true_eq, decide_eq_false_iff_not, Bool.or_eq_false_iff]; simp only [Lay.d_n]; omega))
                  refine xl_lookup (k := 4) (s := (L.getD (j + 1).toNat tok0).text) rfl rfl rfl Tryz.underlying120 Tryz.underlying9 Tryz.underlying3 rfl rfl rfl (zT _) rfl (fun w => run_zeroValue w tiok3) ?_
                  refine xl_go tt_ok ?_
                  repeat (refine And.intro ?_ ?_; first | omega | (simp only [Lay.d_n]; omega) | (simp only [decide_eq_true_eq, decide_eq_false_iff_not, Bool.or_eq_false_iff, Bool.and_eq_true, Bool.or_eq_true, Bool.and_eq_false_iff, Bool.not_eq_true', Bool.not_eq_false', Lay.d_n]; omega) | (simp only [decide_eq_true_eq, decide_eq_false_iff_not, Bool.or_eq_false_iff, Bool.and_eq_true, Bool.or_eq_true, Bool.and_eq_false_iff, Bool.not_eq_true', Bool.not_eq_false']; omega) | (simp only [decide_eq_true_eq, decide_eq_false_iff_not, Bool.or_eq_false_iff]; simp only [Lay.d_n]; omega))
                  have hnx : ∀ r : Bool, (match List.drop (j.toNat + 1) L with
                      | [] => false
                      | t2 :: _ => if (decide (t2.kind ≠ 1) || !(decide (t2.text = sRest) || memB t2.text P)) = true then false else vF fn va P (L.drop (j.toNat + 1))) = r →
                      if ((decide (j + 1 = (L.length : Int)) || decide ((L.getD (j + 1).toNat tok0).kind ≠ 1)) || decide (fM P i0 (L.getD (j + 1).toNat tok0).text = 0)) = true then r = false else r = vF fn va P (L.drop (j.toNat + 1)) := by
                    intro r hr
                    rw [← hr]
                    by_cases he : j + 1 = (L.length : Int)
                    · rw [decide_eq_true he, List.drop_eq_nil_of_le (by omega)]; simp
                    · have hd : L.drop (j.toNat + 1) = L.getD (j.toNat + 1) tok0 :: L.drop (j.toNat + 1 + 1) := by
                        have := drop_at (L := L) (d := tok0) (i := j + 1) (by omega) (by omega)
                        rw [ej] at this
                        rw [this, show (j + 1 + 1).toNat = j.toNat + 1 + 1 by omega]
                      have hf : decide (fM P i0 (L.getD (j + 1).toNat tok0).text = 0) = !(decide ((L.getD (j.toNat + 1) tok0).text = sRest) || memB (L.getD (j.toNat + 1) tok0).text P) := by
                        rw [ej, e3]
                        unfold fM
                        rw [List.take_length]
                        cases (decide ((L.getD (j.toNat + 1) tok0).text = sRest) || memB (L.getD (j.toNat + 1) tok0).text P) <;> rfl
                      rw [hf, decide_eq_false he, ej, Bool.false_or]
                      rw [hd]
                      simp only
                      by_cases hc : (decide ((L.getD (j.toNat + 1) tok0).kind ≠ 1) || !(decide ((L.getD (j.toNat + 1) tok0).text = sRest) || memB (L.getD (j.toNat + 1) tok0).text P)) = true
                      · rw [if_pos hc, if_pos hc]
                      · rw [if_neg hc, if_neg hc]
                  have k4 := hnx _ k3
                  refine x_if (fun h8 => ?_) (fun h8 => ?_)
                  · have h8 : ((decide (j + 1 = (L.length : Int)) || decide ((L.getD (j + 1).toNat tok0).kind ≠ 1)) || decide (fM P i0 (L.getD (j + 1).toNat tok0).text = 0)) = true := h8
                    rw [if_pos h8] at k4
                    refine fin1 (fun _ _ => ?_)
                    rw [k4]; rfl
                  · have h8 : ((decide (j + 1 = (L.length : Int)) || decide ((L.getD (j + 1).toNat tok0).kind ≠ 1)) || decide (fM P i0 (L.getD (j + 1).toNat tok0).text = 0)) = false := h8
                    rw [if_neg (by rw [h8]; simp)] at k4
                    repeat (refine And.intro ?_ ?_; first | omega | (simp only [Lay.d_n]; omega) | (simp only [decide_eq_true_eq, decide_eq_false_iff_not, Bool.or_eq_false_iff, Bool.and_eq_true, Bool.or_eq_true, Bool.and_eq_false_iff, Bool.not_eq_true', Bool.not_eq_false', Lay.d_n]; omega) | (simp only [decide_eq_true_eq, decide_eq_false_iff_not, Bool.or_eq_false_iff, Bool.and_eq_true, Bool.or_eq_true, Bool.and_eq_false_iff, Bool.not_eq_true', Bool.not_eq_false']; omega) | (simp only [decide_eq_true_eq, decide_eq_false_iff_not, Bool.or_eq_false_iff]; simp only [Lay.d_n]; omega))
                    exact again (j + 1) [] (.of rfl rfl rfl rfl rfl rfl) ⟨by omega, by omega, by rw [ej]; exact k4.symm⟩ (by omega)
              · have hb2 : (!fn) = true := by cases fn with
                  | true => exact absurd rfl hb2
                  | false => rfl
                refine xl_go tt_ok ?_
                refine xl_gcall0 (.bool false) rfl rfl rfl rfl fn40 rfl rfl (fun hg => by
                  have h7 : (!fn) = false := hg.1
                  rw [hb2] at h7; cases h7) ?_
                refine xl_go tt_ok ?_
                repeat (refine And.intro ?_ ?_; first | omega | (simp only [Lay.d_n]; omega) | (simp only [decide_eq_true_eq, decide_eq_false_iff_not, Bool.or_eq_false_iff, Bool.and_eq_true, Bool.or_eq_true, Bool.and_eq_false_iff, Bool.not_eq_true', Bool.not_eq_false', Lay.d_n]; omega) | (simp only [decide_eq_true_eq, decide_eq_false_iff_not, Bool.or_eq_false_iff, Bool.and_eq_true, Bool.or_eq_true, Bool.and_eq_false_iff, Bool.not_eq_true', Bool.not_eq_false']; omega) | (simp only [decide_eq_true_eq, decide_eq_false_iff_not, Bool.or_eq_false_iff]; simp only [Lay.d_n]; omega))
                refine x_ift ?_ ?_
                · show (!fn || !false) = true
                  rw [hb2]; rfl
                · rw [if_pos (by rw [hb2]; rfl)] at k3
                  repeat (refine And.intro ?_ ?_; first | omega | (simp only [Lay.d_n]; omega) | (simp only [decide_eq_true_eq, decide_eq_false_iff_not, Bool.or_eq_false_iff, Bool.and_eq_true, Bool.or_eq_true, Bool.and_eq_false_iff, Bool.not_eq_true', Bool.not_eq_false', Lay.d_n]; omega) | (simp only [decide_eq_true_eq, decide_eq_false_iff_not, Bool.or_eq_false_iff, Bool.and_eq_true, Bool.or_eq_true, Bool.and_eq_false_iff, Bool.not_eq_true', Bool.not_eq_false']; omega) | (simp only [decide_eq_true_eq, decide_eq_false_iff_not, Bool.or_eq_false_iff]; simp only [Lay.d_n]; omega))
                  exact again (j + 1) [] (.of rfl rfl rfl rfl rfl rfl) ⟨by omega, by omega, by rw [ej]; exact k3⟩ (by omega)
          · have h4 : ¬ j < L.length := of_decide_eq_false h4
            rw [List.drop_eq_nil_of_le (by omega)] at k3
            refine fin1 (fun _ _ => ?_)
            rw [← k3]; rfl
    · have hb : isT (L.getD 0 tok0) hashes = true := by simpa using hb
      rw [if_pos (by rw [hb]; rfl)] at hv
      refine xl_go tt_ok ?_
      refine xl_gcall0 (.bool false) rfl rfl rfl rfl fn40 rfl rfl (fun hg => by
        have h5 : isT (L.getD 0 tok0) hashes = false := hg.1
        rw [hb] at h5; cases h5) ?_
      refine xl_go tt_ok ?_
      refine x_ift ?_ ?_
      · show (isT (L.getD 0 tok0) hashes || false) = true
        rw [hb]; rfl
      · refine fin1 (fun _ _ => ?_)
        rw [hv]; rfl
end Go.Proofs.YtnjmkeijjapejaaGreat
namespace Go.GV
open Go.RowKit
theorem idx_any {C : Cx} {T : TT} {E : Env} {st : St} {u : Im} {a : Act} {w : World} {t : Nat} {x i : Operand} {s : SV} {side : List Prop} {sx si : Option SV} (hT : TOk C.P T) (hok : Ok C E st u a w)
    (hx : ∀ z, sx = some z → a.eval x = z.den E ∧ z.lt E st.nx) (hi : ∀ z, si = some z → a.eval i = z.den E) (he : effIndexAddr T st t sx si = .val s side) (hs : allP side) (w' : World) :
    (Instr.indexAt t (a.eval x) (a.eval i)).run C.P w' = .ok (s.den E) w' ∧ s.lt E st.nx := by
  unfold effIndexAddr at he
  split at he
  · rename_i k kk n ti hl
    split at he
    · rename_i e hd
      have main : ∀ te r D, look T e = some te → look st.ow k = some r → r.data = some D → 0 ≤ n → n < D.n →
          (Instr.indexAt t (a.eval x) (a.eval i)).run C.P w' = .ok ((SV.e k te.sz n 0).den E) w' ∧ (SV.e k te.sz n 0).lt E st.nx := by
        intro te r D hte hr hdat h0 h1
        obtain ⟨f, hsat⟩ := hok.sat
        obtain ⟨A, c, hv, hcell⟩ := keyed hsat hr hdat
        obtain ⟨ad, rfl, _⟩ := hcell (by omega)
        obtain ⟨e1, hk, _⟩ := hx _ rfl
        have e2 := hi _ rfl
        simp only [SV.den] at e1 e2
        refine ⟨?_, hk, ad, _, c, hv, h0, h1⟩
        have hu := (hT _ _ hl).isSlice hd
        rw [e1, e2, hv]
        simp only [Instr.indexAt, asIntOf, Sem.run_bind, Sem.run_pure, Result.andThen_ok, run_underlying hu]
        simp [h0, h1, run_sizeOf w' (hT _ _ hte), SV.den, elOf, hv]
      split at he
      · rename_i te D' D hte hr
        cases he
        exact main te _ D hte hr rfl hs.1 hs.2.1
      · rename_i te D hte hr
        cases he
        exact main te _ D hte hr rfl hs.1 hs.2.1
      · cases he
    · cases he
  · cases he
theorem xa_idx {C : Cx} {T : TT} (hT : TOk C.P T) {ops : Array Oper} {fuel : Nat} {listed : Array Bool} {Q : Post} {st : St} {u : Im} {d t : Nat} {o : Oper} {g : Gd} {s : SV} {side : List Prop} {xv iv : Operand} (i : Nat)
    (hsel : Region.noSelect ops = true) (hdf : noDefer ops = true) (hQ : ∀ c st u, Q (.panic c) st u → False) (ho : ops.toList[i]? = some o)
    (hr : (Region.ready .any ops listed).contains i = true) (hf : Region.free .any ops listed i = true) (hp : o.op = .indexAddr t xv iv)
    (hg : guardOf ops.toList st o = some g) (he : effIndexAddr T st t (opd st g xv) (opd st g iv) = .val s side) (hd : o.dst = some d) (hfr : fresh C.N st d g = true)
    (hside : allL (gprops st g) → allP side)
    (K : XA C ops fuel (listed.setIfInBounds i true) Q (st.put d g s) u) : XA C ops (fuel + 1) listed Q st u := by
  intro E a w hok
  have ho' : ops[i]? = some o := by simpa using ho
  have how : (st.put d g s).ow = st.ow := by cases g <;> rfl
  have hnx : (st.put d g s).nx = st.nx := by cases g <;> rfl
  have hgd := guard_sound (all := ops) hok.agr hg
  have hrun : gs a.tmps g → ∀ w', (execOp a.eval o).run C.P w' = .ok (.value (s.den E)) w' ∧ s.lt E st.nx := fun hgs w' => by
    obtain ⟨h1, h2⟩ := idx_any hT hok (x := xv) (i := iv) (fun z h => opd_sound hok.agr hgs h) (fun z h => (opd_sound hok.agr hgs h).1) he (hside (allL_of (gprops_sound hok.agr hgs (fun _ _ _ => trivial)))) w'
    refine ⟨?_, h2⟩
    simp only [execOp, hp]
    rw [Sem.run_bind, h1]; rfl
  have hpan : ∀ x c a w, SemQ C E st.nx u Q (.panic c) (Act.put a o.dst x) w → SemQ C E st.nx u Q (.panic c) a w := fun x c a w ⟨_, st', u', _, _, _, _, h5⟩ => (hQ _ _ _ h5).elim
  have go : ∀ x, (gs a.tmps g → x = s.den E) → (¬ gs a.tmps g → x = undef) → YW C.P ops o x a → wpAnyIn (FR C.ro) 0 C.P .any ops (SemQ C E st.nx u Q) (fuel + 1) listed a w := by
    intro x hx hnx' hy
    have hput : Agr C.N E (st.put d g s) (a.tmps.setIfInBounds d x) :=
      hok.agr.put hfr (fun hgs => (hrun hgs w).2) hx hnx' (fun hn => by subst hn; exact hx (fun y hy => by cases hy))
    refine wpAny_ahead ho' (Region.noSelect_spec hsel) (noDefer_spec hdf) (hpan x) fuel listed a w (Region.free_spec ho' hf) (by simpa using hr) hy ?_
    have := K E (a.put o.dst x) w ⟨by rw [hd]; exact hput, by rw [how, hnx, hd]; exact hok.sat⟩
    rwa [hnx] at this
  by_cases hw : Region.wanted o (yielded ops a.tmps) = true
  · have hgs := hgd.1 hw
    exact go _ (fun _ => rfl) (fun hn => absurd hgs hn) (.inl ⟨hw, (fun c hc => by rw [hp] at hc; cases hc), fun w => (hrun hgs w).1⟩)
  · have hgs := hgd.2 (by simpa using hw)
    exact go undef (fun hy => absurd hy hgs) (fun _ => rfl) (.inr ⟨by simpa using hw, rfl⟩)
abbrev Tbl := List (List Nat × List Nat)
def tblOk (ops : Array Oper) (L0 : Array Bool) (N : Nat) (T : Tbl) : Bool :=
  T.all fun x => decide (Region.ready .any ops (marks L0 x.1) = x.2) && (decide (x.1.length = N) || (!x.2.isEmpty && x.2.all fun i => (ops[i]?).isSome && T.any fun y => decide (y.1.length = x.1.length + 1) && decide (marks L0 y.1 = (marks L0 x.1).setIfInBounds i true)))
def owesI (C : Cx) (ops : Array Oper) (u : Im) (keep : Nat) (F : List Nat → St) (nx : List Nat → Nat → List Nat) (D : List Nat) : List Nat → Prop
  | [] => True
  | i :: r => (match ops[i]? with
    | some o => ∀ u', u.le u' → XL C ops.toList [o] (onlyN (Meet keep (fun _ : Unit => F (nx D i)) (fun _ _ => True))) (F D) u'
    | none => True) ∧ owesI C ops u keep F nx D r
def owes (C : Cx) (ops : Array Oper) (u : Im) (keep N : Nat) (F : List Nat → St) (nx : List Nat → Nat → List Nat) : Tbl → Prop
  | [] => True
  | (D, l) :: r => (match Nat.beq D.length N with
    | true => True
    | false => owesI C ops u keep F nx D l) ∧ owes C ops u keep N F nx r
theorem owesI_mem {C : Cx} {ops : Array Oper} {u : Im} {keep : Nat} {F : List Nat → St} {nx : List Nat → Nat → List Nat} {D : List Nat} : ∀ {l : List Nat}, owesI C ops u keep F nx D l → ∀ i ∈ l, ∀ o, ops[i]? = some o → ∀ u', u.le u' → XL C ops.toList [o] (onlyN (Meet keep (fun _ : Unit => F (nx D i)) (fun _ _ => True))) (F D) u'
  | [], _, i, hi, _, _ => by cases hi
  | j :: r, h, i, hi, o, ho => by
    rcases List.mem_cons.1 hi with rfl | hi
    · have h1 := h.1
      rw [ho] at h1
      exact h1
    · exact owesI_mem h.2 i hi o ho
theorem owes_mem {C : Cx} {ops : Array Oper} {u : Im} {keep N : Nat} {F : List Nat → St} {nx : List Nat → Nat → List Nat} : ∀ {T : Tbl}, owes C ops u keep N F nx T → ∀ x ∈ T, x.1.length ≠ N → owesI C ops u keep F nx x.1 x.2
  | [], _, x, hx, _ => by cases hx
  | (D, l) :: r, h, x, hx, hn => by
    rcases List.mem_cons.1 hx with rfl | hx
    · have h1 := h.1
      rw [show Nat.beq D.length N = false from by cases hb : Nat.beq D.length N with
        | true => exact absurd (Nat.eq_of_beq_eq_true hb) hn
        | false => rfl] at h1
      exact h1
    · exact owes_mem h.2 x hx hn
def nxOk (L0 : Array Bool) (N : Nat) (nx : List Nat → Nat → List Nat) (T : Tbl) : Bool :=
  T.all fun x => decide (x.1.length = N) || x.2.all fun i => T.any fun y => decide (y.1 = nx x.1 i) && decide (y.1.length = x.1.length + 1) && decide (marks L0 y.1 = (marks L0 x.1).setIfInBounds i true)
theorem xa_fam0 {C : Cx} {ops : Array Oper} {Q : Post} {u0 : Im} {fuel keep N : Nat} {L0 : Array Bool} (T : Tbl) (F : List Nat → St) (nx : List Nat → Nat → List Nat) (hT : tblOk ops L0 N T = true) (hx : nxOk L0 N nx T = true)
    (hkeep : ∀ D, keep ≤ (F D).nx) (ho : owes C ops u0 keep N F nx T) (hend : ∀ x ∈ T, x.1.length = N → ∀ u, u0.le u → XA C ops fuel (marks L0 x.1) Q (F x.1) u) :
    ∀ (k : Nat) (x : List Nat × List Nat) (u : Im), x ∈ T → x.1.length + k = N → u0.le u → ∀ E a w, Ok C E (F x.1) u a w →
      wpAnyIn (FR C.ro) 0 C.P .any ops (SemQ C E keep u Q) (k + fuel) (marks L0 x.1) a w
  | 0, x, u, hxT, hk, hu, E, a, w, hok => by
    have h := hend x hxT (by omega) u hu E a w hok
    rw [Nat.zero_add]
    exact wpAnyIn_post (fun e a w => SemQ.mono (fun _ _ => rfl) (hkeep _) (Im.le.refl u)) h
  | k + 1, x, u, hxT, hk, hu, E, a, w, hok => by
    have t1 := List.all_eq_true.1 hT x hxT
    have t2 := List.all_eq_true.1 hx x hxT
    rw [Bool.and_eq_true, decide_eq_true_eq, Bool.or_eq_true, decide_eq_true_eq, Bool.and_eq_true] at t1
    rw [Bool.or_eq_true, decide_eq_true_eq] at t2
    obtain ⟨r1, r2⟩ := t1
    have r3 := r2.resolve_left (by omega)
    have t3 := List.all_eq_true.1 (t2.resolve_left (by omega))
    have hne : x.2 ≠ [] := by
      intro h0
      rw [h0] at r3
      exact absurd r3.1 (by simp)
    rw [show k + 1 + fuel = (k + fuel) + 1 by omega]
    refine wpAnyIn_all r1 hne fun j hj => ?_
    have r4 := List.all_eq_true.1 r3.2 j hj
    rw [Bool.and_eq_true] at r4
    obtain ⟨o, hoj⟩ := Option.isSome_iff_exists.1 r4.1
    have h5 := t3 j hj
    rw [List.any_eq_true] at h5
    obtain ⟨y, hy, h6⟩ := h5
    simp only [Bool.and_eq_true, decide_eq_true_eq] at h6
    obtain ⟨⟨y1, y2⟩, y3⟩ := h6
    have h1 := owesI_mem (owes_mem ho x hxT (by omega)) j hj o hoj u hu
    unfold XL at h1
    have h2 := h1 E a w hok
    have key : wpOpIn (FR C.ro) 0 C.P ops (SemQ C E (F x.1).nx u (onlyN (Meet keep (fun _ : Unit => F (nx x.1 j)) (fun _ _ => True)))) j
        (fun a' w' => SemQ C E (F x.1).nx u (onlyN (Meet keep (fun _ : Unit => F (nx x.1 j)) (fun _ _ => True))) .normal a' w') a w := by
      unfold wpOpIn
      simp only [hoj]
      unfold wpListIn at h2
      simp only [wpListIn] at h2
      exact h2
    refine wpOpIn_post ?_ ?_ key
    · rintro e a' w' hne' ⟨E', st', u', h2, h3, h4, h5, h6⟩
      cases e with
      | normal => exact absurd rfl hne'
      | exit id => exact h6.elim
      | goto l => exact h6.elim
      | ret => exact h6.elim
      | panic c => exact h6.elim
      | outgrown => exact h6.elim
    · rintro a' w' ⟨E', st', u', h2, h3, h4, h5, h6⟩
      have h6 : Meet keep (fun _ : Unit => F (nx x.1 j)) (fun _ _ => True) st' u' := h6
      unfold Meet at h6
      obtain ⟨_, ρ, h7, _⟩ := h6
      obtain ⟨E2, q1, q2⟩ := h7.ok h5
      rw [← y1] at q2
      have ih := xa_fam0 T F nx hT hx hkeep ho hend k y u' hy (by omega) (hu.trans h4) E2 a' w' q2
      rw [← y3]
      refine wpAnyIn_post (fun e a w => SemQ.mono (fun j hj => ?_) (Nat.le_refl _) h4) ih
      rw [q1 j hj, h2 j (Nat.lt_of_lt_of_le hj (hkeep _))]
theorem xa_fam {C : Cx} {ops : Array Oper} {Q : Post} {st : St} {u : Im} {fuel n N : Nat} {L0 : Array Bool} (T : Tbl) (F : List Nat → St) (nx : List Nat → Nat → List Nat) (hn : n = N + fuel) (hT : tblOk ops L0 N T = true) (hx : nxOk L0 N nx T = true)
    (h0 : (T.any fun x => decide (x.1 = [])) = true) (ρ : Ren) (hsub : Sub st.nx ρ st (F [])) (hkeep : ∀ D, st.nx ≤ (F D).nx) (ho : owes C ops u st.nx N F nx T)
    (full : List Nat) (hfull : (T.all fun x => !decide (x.1.length = N) || decide (x.1 = full)) = true) (hend : ∀ u', u.le u' → XA C ops fuel (marks L0 full) Q (F full) u') : XA C ops n L0 Q st u := by
  subst hn
  intro E a w hok
  obtain ⟨E2, q1, q2⟩ := hsub.ok hok
  rw [List.any_eq_true] at h0
  obtain ⟨x, hxT, hx0⟩ := h0
  have hx0 : x.1 = [] := of_decide_eq_true hx0
  have hend' : ∀ x ∈ T, x.1.length = N → ∀ u', u.le u' → XA C ops fuel (marks L0 x.1) Q (F x.1) u' := fun x hx hl u' hu => by
    have := List.all_eq_true.1 hfull x hx
    rw [Bool.or_eq_true, decide_eq_true_eq] at this
    rw [this.resolve_left (by simp [hl])]
    exact hend u' hu
  have h := xa_fam0 T F nx hT hx hkeep ho hend' N x u hxT (by rw [hx0]; simp) (Im.le.refl u) E2 a w (by rw [hx0]; exact q2)
  rw [hx0] at h
  exact wpAnyIn_post (fun e a w => SemQ.mono q1 (Nat.le_refl _) (Im.le.refl u)) h
def selD {α : Type} (D : List Nat) : List (Nat × α) → List α
  | [] => []
  | (i, x) :: r => match elemB i D with
    | true => x :: selD D r
    | false => selD D r
def selN {α : Type} (D : List Nat) : List (Nat × α) → List α
  | [] => []
  | (i, x) :: r => match elemB i D with
    | true => selN D r
    | false => x :: selN D r
def first1 {α : Type} (D : List Nat) : List (Nat × α) → Option α
  | [] => none
  | (i, x) :: r => match elemB i D with
    | true => some x
    | false => first1 D r
def selO {α : Type} (D : List Nat) : List (Nat × List (Nat × α)) → List (Nat × α)
  | [] => []
  | (k, l) :: r => match first1 D l with
    | some x => (k, x) :: selO D r
    | none => selO D r
def insD (i : Nat) : List Nat → List Nat
  | [] => [i]
  | j :: r => match Nat.blt i j with
    | true => i :: j :: r
    | false => j :: insD i r
end Go.GV
namespace Go.Proofs.YtnjmkeijjapejaaGreat
open Go.GV Go.RowKit
def rpS : List ByteArray := [⟨#[41]⟩]
def commaS : List ByteArray := [⟨#[44]⟩]
def dotsS : List ByteArray := [⟨#[46, 46, 46]⟩]
structure PR where
  ps : List ByteArray
  va : Bool
  n : Int
  ok : Bool
def pF (P : List ByteArray) (i : Int) : List Tok → PR
  | t :: x :: r => if isT t dotsS = true then ⟨P, true, i + 2, isT x rpS⟩
    else if ((decide (t.kind ≠ 1) || decide (t.text = sRest)) || memB t.text P) = true then ⟨P, false, 0, false⟩
    else if isT x rpS = true then ⟨P ++ [t.text], false, i + 2, true⟩
    else if isT x commaS = true then pF (P ++ [t.text]) (i + 2) r
    else ⟨P ++ [t.text], false, 0, false⟩
  | _ => ⟨P, false, 0, false⟩
def paramsR (L : List Tok) : PR := if (decide (1 < L.length) && isT (L.getD 1 tok0) rpS) = true then ⟨[], false, 2, true⟩ else pF [] 1 (L.drop 1)
def fK (P : List ByteArray) : ByteArray → Int := fun s => if memB s P = true then 1 else 0
theorem fK_pos (P : List ByteArray) (s : ByteArray) : decide ((0 : Int) < fK P s) = memB s P := by
  unfold fK
  cases memB s P <;> rfl
theorem fK_next {P : List ByteArray} {s : ByteArray} : (fun s' : ByteArray => if s' = s then (1 : Int) else fK P s') = fK (P ++ [s]) := by
  funext s'
  unfold fK memB
  rw [List.any_append]
  by_cases e : s' = s
  · subst e; simp
  · simp only [List.any_cons, List.any_nil, decide_eq_false e, Bool.or_false, if_neg e]
def tbl90 : Tbl := [([], [3, 8, 9, 10]), ([3], [8, 9, 10]), ([8], [3, 9, 10]), ([9], [3, 8, 10]), ([10], [3, 8, 9]), ([3, 8], [9, 10]), ([3, 9], [8, 10]), ([3, 10], [8, 9]), ([8, 9], [3, 10]), ([8, 10], [3, 9]), ([9, 10], [3, 8]), ([3, 8, 9], [10]), ([3, 8, 10], [9]), ([3, 9, 10], [8, 11]), ([8, 9, 10], [3]), ([3, 8, 9, 10], [11]), ([3, 9, 10, 11], [8]), ([3, 8, 9, 10, 11], [12]), ([3, 8, 9, 10, 11, 12], [])]
def tbl90b : Tbl := [([], [2, 6]), ([2], [3, 6]), ([6], [2, 7]), ([2, 3], [4, 6]), ([2, 6], [3, 7]), ([6, 7], [2]), ([2, 3, 4], [6]), ([2, 3, 6], [4, 7]), ([2, 6, 7], [3]), ([2, 3, 4, 6], [7]), ([2, 3, 6, 7], [4]), ([2, 3, 4, 6, 7], [8])]
def tokC (t : Tok) : List SV := [.v (.int .i64 t.kind), .v (.string t.text), .v (.int .i64 t.lo), .v (.int .i64 t.hi), .v (.bool t.space)]
def mBox (nm : ByteArray) (va : Bool) (p : SV) : Rs := .box 25 [.v (.string nm), .v (.bool false), p, .v (.bool va), .v (.slice none 0 0)]
set_option maxHeartbeats 4000000 in
set_option maxRecDepth 100000 in
theorem params_sc (nm : ByteArray) (L : List Tok) (A : Option Addr) (c : Nat) (hL : L.length * 48 ≤ 140737488355328) (zL : ∀ t ∈ L, t.text.size ≤ maxLen) :
    SC Tryz.prog 41 (fun u => SlAt u (.slice A L.length c) (tokY.d L)) 2 [(0, mBox nm false (.r 1)), (1, .row 9 (strY.d []))] [.p 0 0, .v (.slice A L.length c)]
      (fun _ : Unit => ([(0, mBox nm (paramsR L).va (.r 2)), (2, .row 9 (strY.d (paramsR L).ps))], 3, .tuple #[.int .i64 (paramsR L).n, .bool (paramsR L).ok])) (fun _ => True) := by
  refine x_sc tt_ok Tryz.func41 rfl rfl rfl rfl (fun u hH => ?_)
  refine x_sl 1 rfl hH ?_
  refine x_vc tt_ok ?_
  repeat (refine And.intro ?_ ?_; first | omega | (simp only [Lay.d_n]; omega) | (simp only [decide_eq_true_eq, decide_eq_false_iff_not, Bool.or_eq_false_iff, Bool.and_eq_true, Bool.or_eq_true, Bool.and_eq_false_iff, Bool.not_eq_true', Bool.not_eq_false', Lay.d_n]; omega) | (simp only [decide_eq_true_eq, decide_eq_false_iff_not, Bool.or_eq_false_iff, Bool.and_eq_true, Bool.or_eq_true, Bool.and_eq_false_iff, Bool.not_eq_true', Bool.not_eq_false']; omega) | (simp only [decide_eq_true_eq, decide_eq_false_iff_not, Bool.or_eq_false_iff]; simp only [Lay.d_n]; omega))
  refine xl_gsplit 13 (.bool false) rfl rfl rfl rfl rfl (fun hb => ?_) (fun hb => ?_)
  · have hb : (1 : Int) < L.length := of_decide_eq_true hb
    have hR : paramsR L = if isT (L.getD 1 tok0) rpS = true then ⟨[], false, 2, true⟩ else pF [] 1 (L.drop 1) := by
      unfold paramsR
      rw [decide_eq_true (show 1 < L.length by omega), Bool.true_and]
    refine xl_build tt_ok strY rpS [_] rfl rfl rfl rfl rfl rfl rfl rfl rfl rfl rfl rfl rfl rfl rfl ?_
    refine xl_go tt_ok ?_
    refine xl_gcall0 (.bool (isT (L.getD 1 tok0) rpS)) rfl rfl rfl rfl fn40 rfl rfl (fun _ E w F hs => is_any (L.getD 1 tok0) rpS _ w (hs.rowAt (k := 3) rfl) (by decide)) ?_
    refine xl_go tt_ok ?_
    refine x_if (fun h2 => ?_) (fun h2 => ?_)
    · have h2 : (decide ((1 : Int) < L.length) && isT (L.getD 1 tok0) rpS) = true := h2
      rw [Bool.and_eq_true] at h2
      rw [if_pos h2.2] at hR
      rw [hR]
      exact ⟨(), [(2, some 1)], [_, _], rfl, rfl, .of rfl rfl rfl rfl rfl rfl, of_decide_eq_true rfl, trivial⟩
    · have h2 : (decide ((1 : Int) < L.length) && isT (L.getD 1 tok0) rpS) = false := h2
      rw [decide_eq_true hb, Bool.true_and] at h2
      rw [if_neg (by rw [h2]; simp)] at hR
      rw [hR]
      refine xl_makeMap (kt := 9) (et := 3) rfl rfl rfl rfl (fun b => ?_)
      refine xl_go tt_ok ?_
      obtain ⟨q, hq⟩ : ∃ q, q = pF [] 1 (L.drop 1) := ⟨_, rfl⟩
      rw [← hq]
      refine x_loop (σ := Int × Nat × List ByteArray) (fun (i, n, P) => ⟨[(7, .v (.int .i64 i)), (6, .v (.map (some b))), (1, .r 2), (0, .p 0 0)], [],
          [(0, mBox nm false (.r 5)), (2, .sl (tokY.d L)), (4, .gen (mapHp Tryz.prog 9 3 b n (fK P))), (5, .row 9 (strY.d P))], 6⟩)
        (fun (i, n, P) _ => 1 ≤ i ∧ i ≤ L.length ∧ P.length + 1 ≤ i ∧ n = P.length ∧ pF P i (L.drop i.toNat) = q) (fun (i, _) => (L.length - i).toNat) (fun (_, _, _) => by simp only; omega) (1, 0, []) [(5, some 1)] (.of rfl rfl rfl rfl rfl rfl)
        ⟨by omega, by omega, by simp, rfl, by rw [hq]; rfl⟩ ?_
      rintro ⟨i, n, P⟩ u2 hu2 ⟨g1, g2, g3, gn, g4⟩
      refine x_vc tt_ok ?_
      repeat (refine And.intro ?_ ?_; first | omega | (simp only [Lay.d_n]; omega) | (simp only [decide_eq_true_eq, decide_eq_false_iff_not, Bool.or_eq_false_iff, Bool.and_eq_true, Bool.or_eq_true, Bool.and_eq_false_iff, Bool.not_eq_true', Bool.not_eq_false', Lay.d_n]; omega) | (simp only [decide_eq_true_eq, decide_eq_false_iff_not, Bool.or_eq_false_iff, Bool.and_eq_true, Bool.or_eq_true, Bool.and_eq_false_iff, Bool.not_eq_true', Bool.not_eq_false']; omega) | (simp only [decide_eq_true_eq, decide_eq_false_iff_not, Bool.or_eq_false_iff]; simp only [Lay.d_n]; omega))
      refine x_if (fun h3 => ?_) (fun h3 => ?_)
      · have h3 : i + 1 < L.length := of_decide_eq_true h3
        refine x_via (σ := Unit) (fun _ => ⟨[(8, .p 6 0), (9, .p 7 0), (7, .v (.int .i64 i)), (6, .v (.map (some b))), (1, .r 2), (0, .p 0 0)], [],
            [(6, .box 82 (tokC (L.getD i.toNat tok0))), (7, .box 82 (tokC (L.getD (i + 1).toNat tok0))), (0, mBox nm false (.r 5)), (2, .sl (tokY.d L)), (4, .gen (mapHp Tryz.prog 9 3 b n (fK P))), (5, .row 9 (strY.d P))], 8⟩) (fun _ _ => True) (fun _ => by show 6 ≤ 8; omega) ?_ ?_
        · refine x_drawA mix ?_
          refine xa_pures tt_ok (fuel := 8) [0, 1, 4, 5, 6] rfl (by kernel_rfl) (by kernel_rfl) (fun _ _ _ hh => hh) (by kernel_rfl) (by kernel_rfl) ?_
          repeat (refine And.intro ?_ ?_; first | omega | (simp only [Lay.d_n]; omega) | (simp only [decide_eq_true_eq, decide_eq_false_iff_not, Bool.or_eq_false_iff, Bool.and_eq_true, Bool.or_eq_true, Bool.and_eq_false_iff, Bool.not_eq_true', Bool.not_eq_false', Lay.d_n]; omega) | (simp only [decide_eq_true_eq, decide_eq_false_iff_not, Bool.or_eq_false_iff, Bool.and_eq_true, Bool.or_eq_true, Bool.and_eq_false_iff, Bool.not_eq_true', Bool.not_eq_false']; omega) | (simp only [decide_eq_true_eq, decide_eq_false_iff_not, Bool.or_eq_false_iff]; simp only [Lay.d_n]; omega))
          refine xa_idx tt_ok (fuel := 7) 2 (by kernel_rfl) (by kernel_rfl) (fun _ _ _ hh => hh) rfl (by kernel_rfl) (by kernel_rfl) rfl rfl rfl rfl (by kernel_rfl) (fun _ => ?_) ?_
          · exact ⟨by omega, by show _ < (((tokY.d L).n : Nat) : Int); simp only [Lay.d_n]; omega, trivial⟩
          refine xa_idx tt_ok (fuel := 6) 7 (by kernel_rfl) (by kernel_rfl) (fun _ _ _ hh => hh) rfl (by kernel_rfl) (by kernel_rfl) rfl rfl rfl rfl (by kernel_rfl) (fun _ => ?_) ?_
          · exact ⟨by omega, by show _ < (((tokY.d L).n : Nat) : Int); simp only [Lay.d_n]; omega, trivial⟩
          refine xa_fam (fuel := 0) (N := 6) tbl90 (fun D => ⟨selD D [(3, (31, .v (L.getD i.toNat tok0).val)), (8, (36, .v (L.getD (i + 1).toNat tok0).val)), (9, (8, .p 6 0)), (10, (9, .p 7 0))] ++
              [(30, .e 2 5 i 0), (35, .e 2 5 (i + 1) 0), (7, .v (.int .i64 i)), (6, .v (.map (some b))), (1, .r 2), (0, .p 0 0)], [],
              selO D [(6, [(11, .box 82 (tokC (L.getD i.toNat tok0))), (9, .box 82 (tokC tok0))]), (7, [(12, .box 82 (tokC (L.getD (i + 1).toNat tok0))), (10, .box 82 (tokC tok0))])] ++
              [(0, mBox nm false (.r 5)), (2, .sl (tokY.d L)), (4, .gen (mapHp Tryz.prog 9 3 b n (fK P))), (5, .row 9 (strY.d P))], 8⟩) (fun D i => insD i D) rfl (by kernel_rfl) (by kernel_rfl) (by kernel_rfl) [] (.of rfl rfl rfl rfl rfl rfl) (fun _ => by show 6 ≤ 8; omega) ?_ [3, 8, 9, 10, 11, 12] (by kernel_rfl) (fun u3 hu3 => ?_)
          · repeat' (refine And.intro ?_ ?_)
            all_goals first | exact trivial | (intro u' hu'; refine xl_go tt_ok ?_; first | exact meet () [] (.of rfl rfl rfl rfl rfl rfl) trivial | exact meet () [(6, some 8)] (.of rfl rfl rfl rfl rfl rfl) trivial | exact meet () [(7, some 8)] (.of rfl rfl rfl rfl rfl rfl) trivial)
          · refine xa_done (by kernel_rfl) rfl ?_
            exact meet () [] (.of rfl rfl rfl rfl rfl rfl) trivial
        · rintro _ u4 hu4 _
          obtain ⟨t, ht⟩ : ∃ t, t = L.getD i.toNat tok0 := ⟨_, rfl⟩
          obtain ⟨x, hxx⟩ : ∃ x, x = L.getD (i + 1).toNat tok0 := ⟨_, rfl⟩
          have zt : t.text.size ≤ maxLen := by
            rw [ht, List.getD_eq_getElem?_getD, List.getElem?_eq_getElem (by omega)]
            exact zL _ (List.getElem_mem _)
          have hd : L.drop i.toNat = t :: x :: L.drop (i + 2).toNat := by
            have d1 := drop_at (L := L) (d := tok0) (i := i) (by omega) (by omega)
            have d2 := drop_at (L := L) (d := tok0) (i := i + 1) (by omega) (by omega)
            rw [d1, d2, ← ht, ← hxx, show (i + 1 + 1) = i + 2 by omega]
          rw [← ht, ← hxx]
          rw [hd] at g4
          have g5 : (if isT t dotsS = true then ⟨P, true, i + 2, isT x rpS⟩
            else if ((decide (t.kind ≠ 1) || decide (t.text = sRest)) || memB t.text P) = true then ⟨P, false, 0, false⟩
            else if isT x rpS = true then ⟨P ++ [t.text], false, i + 2, true⟩
            else if isT x commaS = true then pF (P ++ [t.text]) (i + 2) (L.drop (i + 2).toNat)
            else ⟨P ++ [t.text], false, 0, false⟩ : PR) = q := g4
          clear g4
          refine xl_build tt_ok strY dotsS [_] rfl rfl rfl rfl rfl rfl rfl rfl rfl rfl rfl rfl rfl rfl rfl ?_
          refine xl_go tt_ok ?_
          refine xl_call0 (.bool (isT t dotsS)) rfl rfl rfl rfl fn40 rfl rfl (fun E w F hs => is_any t dotsS _ w (hs.rowAt (k := 8) rfl) (by decide)) ?_
          refine xl_go tt_ok ?_
          refine x_if (fun h4 => ?_) (fun h4 => ?_)
          · have h4 : isT t dotsS = true := h4
            rw [if_pos h4] at g5
            repeat (refine And.intro ?_ ?_; first | omega | (simp only [Lay.d_n]; omega) | (simp only [decide_eq_true_eq, decide_eq_false_iff_not, Bool.or_eq_false_iff, Bool.and_eq_true, Bool.or_eq_true, Bool.and_eq_false_iff, Bool.not_eq_true', Bool.not_eq_false', Lay.d_n]; omega) | (simp only [decide_eq_true_eq, decide_eq_false_iff_not, Bool.or_eq_false_iff, Bool.and_eq_true, Bool.or_eq_true, Bool.and_eq_false_iff, Bool.not_eq_true', Bool.not_eq_false']; omega) | (simp only [decide_eq_true_eq, decide_eq_false_iff_not, Bool.or_eq_false_iff]; simp only [Lay.d_n]; omega))
            refine xl_build tt_ok strY rpS [_] rfl rfl rfl rfl rfl rfl rfl rfl rfl rfl rfl rfl rfl rfl rfl ?_
            refine xl_go tt_ok ?_
            refine xl_call0 (.bool (isT x rpS)) rfl rfl rfl rfl fn40 rfl rfl (fun E w F hs => is_any x rpS _ w (hs.rowAt (k := 9) rfl) (by decide)) ?_
            refine xl_go tt_ok ?_
            rw [← g5]
            exact ⟨(), [(2, some 5)], [_, _], rfl, rfl, .of rfl rfl rfl rfl rfl rfl, of_decide_eq_true rfl, trivial⟩
          · have h4 : isT t dotsS = false := h4
            rw [if_neg (by rw [h4]; simp)] at g5
            refine xl_lookup (k := 4) (s := t.text) rfl rfl rfl Tryz.underlying120 Tryz.underlying9 Tryz.underlying3 rfl rfl rfl zt rfl (fun w => run_zeroValue w tiok3) ?_
            refine xl_go tt_ok ?_
            refine x_if (fun h5 => ?_) (fun h5 => ?_)
            · have h5 : ((decide (t.kind ≠ 1) || decide (t.text = sRest)) || decide ((0 : Int) < fK P t.text)) = true := h5
              rw [fK_pos] at h5
              rw [if_pos h5] at g5
              rw [← g5]
              exact ⟨(), [(2, some 5)], [_, _], rfl, rfl, .of rfl rfl rfl rfl rfl rfl, of_decide_eq_true rfl, trivial⟩
            · have h5 : ((decide (t.kind ≠ 1) || decide (t.text = sRest)) || decide ((0 : Int) < fK P t.text)) = false := h5
              rw [fK_pos] at h5
              rw [if_neg (by rw [h5]; simp)] at g5
              refine xl_mapSetE (k := 4) (.inl rfl) rfl rfl Tryz.underlying120 Tryz.underlying9 Tryz.underlying3 rfl rfl rfl zt (by decide) rfl (by unfold maxLen; omega) (fK (P ++ [t.text])) fK_next ?_
              refine xl_go tt_ok ?_
              refine x_via (σ := Unit) (fun _ => ⟨[(9, .p 7 0), (7, .v (.int .i64 i)), (6, .v (.map (some b))), (1, .r 2), (0, .p 0 0)], [],
                  [(7, .box 82 (tokC x)), (0, mBox nm false (.r 10)), (2, .sl (tokY.d L)), (4, .gen (mapHp Tryz.prog 9 3 b (n + 1) (fK (P ++ [t.text])))), (10, .row 9 (strY.d (P ++ [t.text])))], 11⟩) (fun _ _ => True) (fun _ => by show 9 ≤ 11; omega) ?_ ?_
              · refine x_drawA mix ?_
                refine xa_pures tt_ok (fuel := 9) [0, 1, 5] rfl (by kernel_rfl) (by kernel_rfl) (fun _ _ _ hh => hh) (by kernel_rfl) (by kernel_rfl) ?_
                refine xa_fam (fuel := 4) (N := 5) tbl90b (fun D => ⟨selD D [(2, (70, .p 0 0)), (3, (71, .p 0 2)), (4, (72, .r 5)), (6, (74, .v (.string t.text))), (7, (75, .r 9))] ++
                    [(68, .p 0 0), (69, .p 0 0), (73, .p 6 1), (9, .p 7 0), (7, .v (.int .i64 i)), (6, .v (.map (some b))), (1, .r 2), (0, .p 0 0)], [],
                    selO D [(9, [(7, .row 9 (strY.d [t.text]))])] ++
                    [(6, .box 82 (tokC t)), (7, .box 82 (tokC x)), (0, mBox nm false (.r 5)), (2, .sl (tokY.d L)), (4, .gen (mapHp Tryz.prog 9 3 b (n + 1) (fK (P ++ [t.text])))), (5, .row 9 (strY.d P))], 10⟩) (fun D i => insD i D) rfl (by kernel_rfl) (by kernel_rfl) (by kernel_rfl) [] (.of rfl rfl rfl rfl rfl rfl) (fun _ => by show 9 ≤ 10; omega) ?_ [2, 3, 4, 6, 7] (by kernel_rfl) (fun u5 hu5 => ?_)
                · repeat' (refine And.intro ?_ ?_)
                  all_goals first | exact trivial | (intro u' hu'; refine xl_go tt_ok ?_; first | exact meet () [] (.of rfl rfl rfl rfl rfl rfl) trivial | (refine xl_build tt_ok strY [t.text] [_] rfl rfl rfl rfl rfl rfl rfl rfl rfl rfl rfl rfl rfl rfl rfl ?_; refine xl_end ?_; exact meet () [(9, some 10)] (.of rfl rfl rfl rfl rfl rfl) trivial))
                · refine xa_one 8 (by kernel_rfl) rfl ?_
                  refine xl_append tt_ok strY P [t.text] 16 rfl rfl rfl rfl rfl rfl rfl rfl (by kernel_rfl) rfl rfl rfl (fun E w F hs => hs.rowAt (k := 9) rfl) (by intro x y hy; rw [List.mem_singleton.1 hy]; rfl) rfl (by simp only [List.length_singleton]; omega) (by simp only [List.length_singleton]; omega) ?_
                  refine xl_end ?_
                  refine xa_chain (fuel := 0) [9, 10, 11] rfl rfl (by kernel_rfl) (xl_go tt_ok ?_)
                  refine xa_done (by kernel_rfl) rfl ?_
                  exact meet () [] (.of rfl rfl rfl rfl rfl rfl) trivial
              · rintro _ u5 hu5 _
                refine xl_build tt_ok strY rpS [_] rfl rfl rfl rfl rfl rfl rfl rfl rfl rfl rfl rfl rfl rfl rfl ?_
                refine xl_go tt_ok ?_
                refine xl_call0 (.bool (isT x rpS)) rfl rfl rfl rfl fn40 rfl rfl (fun E w F hs => is_any x rpS _ w (hs.rowAt (k := 11) rfl) (by decide)) ?_
                refine xl_go tt_ok ?_
                refine x_if (fun h6 => ?_) (fun h6 => ?_)
                · have h6 : isT x rpS = true := h6
                  rw [if_pos h6] at g5
                  repeat (refine And.intro ?_ ?_; first | omega | (simp only [Lay.d_n]; omega) | (simp only [decide_eq_true_eq, decide_eq_false_iff_not, Bool.or_eq_false_iff, Bool.and_eq_true, Bool.or_eq_true, Bool.and_eq_false_iff, Bool.not_eq_true', Bool.not_eq_false', Lay.d_n]; omega) | (simp only [decide_eq_true_eq, decide_eq_false_iff_not, Bool.or_eq_false_iff, Bool.and_eq_true, Bool.or_eq_true, Bool.and_eq_false_iff, Bool.not_eq_true', Bool.not_eq_false']; omega) | (simp only [decide_eq_true_eq, decide_eq_false_iff_not, Bool.or_eq_false_iff]; simp only [Lay.d_n]; omega))
                  rw [← g5]
                  exact ⟨(), [(2, some 10)], [_, _], rfl, rfl, .of rfl rfl rfl rfl rfl rfl, of_decide_eq_true rfl, trivial⟩
                · have h6 : isT x rpS = false := h6
                  rw [if_neg (by rw [h6]; simp)] at g5
                  refine xl_build tt_ok strY commaS [_] rfl rfl rfl rfl rfl rfl rfl rfl rfl rfl rfl rfl rfl rfl rfl ?_
                  refine xl_go tt_ok ?_
                  refine xl_call0 (.bool (isT x commaS)) rfl rfl rfl rfl fn40 rfl rfl (fun E w F hs => is_any x commaS _ w (hs.rowAt (k := 12) rfl) (by decide)) ?_
                  refine xl_go tt_ok ?_
                  refine x_if (fun h7 => ?_) (fun h7 => ?_)
                  · have h7 : isT x commaS = true := h7
                    rw [if_pos h7] at g5
                    repeat (refine And.intro ?_ ?_; first | omega | (simp only [Lay.d_n]; omega) | (simp only [decide_eq_true_eq, decide_eq_false_iff_not, Bool.or_eq_false_iff, Bool.and_eq_true, Bool.or_eq_true, Bool.and_eq_false_iff, Bool.not_eq_true', Bool.not_eq_false', Lay.d_n]; omega) | (simp only [decide_eq_true_eq, decide_eq_false_iff_not, Bool.or_eq_false_iff, Bool.and_eq_true, Bool.or_eq_true, Bool.and_eq_false_iff, Bool.not_eq_true', Bool.not_eq_false']; omega) | (simp only [decide_eq_true_eq, decide_eq_false_iff_not, Bool.or_eq_false_iff]; simp only [Lay.d_n]; omega))
                    exact again (i + 2, n + 1, P ++ [t.text]) [(5, some 10)] (.of rfl rfl rfl rfl rfl rfl) ⟨by omega, by omega, by simp; omega, by simp [gn], g5⟩ (by simp only; omega)
                  · have h7 : isT x commaS = false := h7
                    rw [if_neg (by rw [h7]; simp)] at g5
                    rw [← g5]
                    exact ⟨(), [(2, some 10)], [_, _], rfl, rfl, .of rfl rfl rfl rfl rfl rfl, of_decide_eq_true rfl, trivial⟩
      · have h3 : ¬ i + 1 < L.length := of_decide_eq_false h3
        have hn : pF P i (L.drop i.toNat) = ⟨P, false, 0, false⟩ := by
          cases hd : L.drop i.toNat with
          | nil => rfl
          | cons t r =>
            cases r with
            | nil => rfl
            | cons x r =>
              have := congrArg List.length hd
              simp only [List.length_drop, List.length_cons] at this
              omega
        rw [hn] at g4
        rw [← g4]
        exact ⟨(), [(2, some 5)], [_, _], rfl, rfl, .of rfl rfl rfl rfl rfl rfl, of_decide_eq_true rfl, trivial⟩
  · have hb : ¬ (1 : Int) < L.length := fun h => hb (decide_eq_true h)
    have hR : paramsR L = ⟨[], false, 0, false⟩ := by
      unfold paramsR
      rw [decide_eq_false (show ¬ 1 < L.length by omega), Bool.false_and, List.drop_eq_nil_of_le (by omega)]
      rfl
    rw [hR]
    refine xl_go tt_ok ?_
    refine xl_gcall0 (.bool false) rfl rfl rfl rfl fn40 rfl rfl (fun hg => absurd (of_decide_eq_true hg.1) hb) ?_
    refine xl_go tt_ok ?_
    refine x_iff ?_ ?_
    · show (decide ((1 : Int) < L.length) && false) = false
      rw [Bool.and_false]
    · refine xl_makeMap (kt := 9) (et := 3) rfl rfl rfl rfl (fun b => ?_)
      refine xl_go tt_ok ?_
      refine x_loop (σ := Unit) (fun _ => ⟨[(7, .v (.int .i64 1)), (1, .r 2)], [], [(0, mBox nm false (.r 1)), (1, .row 9 (strY.d [])), (2, .sl (tokY.d L))], 4⟩)
        (fun _ _ => True) (fun _ => 0) (fun _ => Nat.le_refl _) () [] (.of rfl rfl rfl rfl rfl rfl) trivial ?_
      rintro _ u2 hu2 _
      refine x_vc tt_ok ?_
      repeat (refine And.intro ?_ ?_; first | omega | (simp only [Lay.d_n]; omega) | (simp only [decide_eq_true_eq, decide_eq_false_iff_not, Bool.or_eq_false_iff, Bool.and_eq_true, Bool.or_eq_true, Bool.and_eq_false_iff, Bool.not_eq_true', Bool.not_eq_false', Lay.d_n]; omega) | (simp only [decide_eq_true_eq, decide_eq_false_iff_not, Bool.or_eq_false_iff, Bool.and_eq_true, Bool.or_eq_true, Bool.and_eq_false_iff, Bool.not_eq_true', Bool.not_eq_false']; omega) | (simp only [decide_eq_true_eq, decide_eq_false_iff_not, Bool.or_eq_false_iff]; simp only [Lay.d_n]; omega))
      refine x_iff (decide_eq_false (show ¬ (1 : Int) + 1 < L.length by omega)) ?_
      exact ⟨(), [(2, some 1)], [_, _], rfl, rfl, .of rfl rfl rfl rfl rfl rfl, of_decide_eq_true rfl, trivial⟩
end Go.Proofs.YtnjmkeijjapejaaGreat
namespace Go.Proofs.YtnjmkeijjapejaaGreat
open Go.GV Go.RowKit
structure MT where
  name : ByteArray
  fn : Bool
  ps : List ByteArray
  va : Bool
  body : List PV
def m0 : MT := ⟨⟨#[]⟩, false, [], false, []⟩
abbrev MA := Option Addr × Nat × Option Addr × Nat
def mVal (m : MT) (s : MA) : Value := .agg #[.string m.name, .bool m.fn, .slice s.1 m.ps.length s.2.1, .bool m.va, .slice s.2.2.1 m.body.length s.2.2.2]
def mStar (m : MT) (s : MA) : List SI := [⟨.slice s.1 m.ps.length s.2.1, 9, strY.d m.ps⟩, ⟨.slice s.2.2.1 m.body.length s.2.2.2, 35, pvY.d m.body⟩]
def fixS : List PV → List PV
  | [] => []
  | t :: r => { t with space := false } :: r
def lpS : List ByteArray := [⟨#[40]⟩]
def resB (s : ByteArray) : Bool := decide (s = ⟨#[100, 101, 102, 105, 110, 101, 100]⟩) || decide (s = ⟨#[95, 95, 86, 65, 95, 65, 82, 71, 83, 95, 95]⟩) || decide (s = ⟨#[95, 95, 76, 73, 78, 69, 95, 95]⟩) || decide (s = ⟨#[95, 80, 114, 97, 103, 109, 97]⟩)
def defB (nm : ByteArray) (fn : Bool) (ps : List ByteArray) (va : Bool) (l : List Tok) : MT × Int :=
  if validB fn va ps l = true then (⟨nm, fn, ps, va, fixS (l.map ofT)⟩, 0) else (m0, 50)
def defR (L : List Tok) : MT × Int :=
  if ((decide ((L.length : Int) = 0) || decide ((L.getD 0 tok0).kind ≠ 1)) || resB (L.getD 0 tok0).text) = true then (m0, 50)
  else if (decide ((0 : Int) < (L.drop 1).length) && !((L.drop 1).getD 0 tok0).space) = true then
    if isT ((L.drop 1).getD 0 tok0) lpS = true then
      if (paramsR (L.drop 1)).ok = true then defB (L.getD 0 tok0).text true (paramsR (L.drop 1)).ps (paramsR (L.drop 1)).va ((L.drop 1).drop (paramsR (L.drop 1)).n.toNat) else (m0, 50)
    else (m0, 50)
  else defB (L.getD 0 tok0).text false [] false (L.drop 1)
theorem mStar_nil : ∀ u, NestAt u (mStar m0 (none, 0, none, 0)) := fun u => by
  constructor
  · intro p hp
    simp only [mStar, List.mem_cons, List.not_mem_nil, or_false] at hp
    rcases hp with rfl | rfl <;> exact .inl ⟨rfl, rfl⟩
  · simp only [mStar, starDis, List.pairwise_cons, List.mem_singleton, List.not_mem_nil, false_imp_iff, implies_true, List.Pairwise.nil, and_self, and_true]
    rintro q rfl b hb
    cases hb
def DefR (r : MT × Int) : Value → Im → Prop := StarR (fun s : MA => .tuple #[mVal r.1 s, .int .i64 r.2]) (fun s => mStar r.1 s) (fun _ => True)
theorem defNo (u : Im) : DefR (m0, 50) (.tuple #[mVal m0 (none, 0, none, 0), .int .i64 50]) u := ⟨(none, 0, none, 0), rfl, mStar_nil u, trivial⟩
theorem pF_le : ∀ (n : Nat) (l : List Tok) (P : List ByteArray) (i : Int), l.length ≤ n → 0 ≤ i → (pF P i l).ps.length ≤ P.length + l.length ∧ 0 ≤ (pF P i l).n ∧ (pF P i l).n ≤ i + l.length ∧ ∀ s ∈ (pF P i l).ps, s ∈ P ∨ ∃ t ∈ l, s = t.text
  | _, [], P, i, _, h0 => ⟨by simp [pF], by simp [pF], by simp [pF]; omega, fun s hs => .inl hs⟩
  | _, [t], P, i, _, h0 => ⟨by simp [pF], by simp [pF], by simp [pF]; omega, fun s hs => .inl hs⟩
  | 0, t :: x :: r, P, i, h, h0 => by simp at h
  | n + 1, t :: x :: r, P, i, h, h0 => by
    simp only [List.length_cons] at h
    have ih := pF_le n r (P ++ [t.text]) (i + 2) (by omega) (by omega)
    have one : ∀ s ∈ P ++ [t.text], s ∈ P ∨ ∃ t' ∈ t :: x :: r, s = t'.text := fun s hs => by
      rcases List.mem_append.1 hs with hs | hs
      · exact .inl hs
      · exact .inr ⟨t, List.mem_cons_self .., List.mem_singleton.1 hs⟩
    unfold pF
    split
    · exact ⟨by simp only; omega, by simp only; omega, by simp only [List.length_cons]; omega, fun s hs => .inl hs⟩
    · split
      · exact ⟨by simp only; omega, by simp only; omega, by simp only [List.length_cons]; omega, fun s hs => .inl hs⟩
      · split
        · exact ⟨by simp only [List.length_append, List.length_cons, List.length_nil]; omega, by simp only; omega, by simp only [List.length_cons]; omega, one⟩
        · split
          · refine ⟨?_, ih.2.1, ?_, fun s hs => ?_⟩
            · have := ih.1
              simp only [List.length_append, List.length_cons, List.length_nil] at this ⊢
              omega
            · have := ih.2.2.1
              simp only [List.length_cons]
              omega
            · rcases ih.2.2.2 s hs with hs | ⟨t', ht', e⟩
              · exact one s hs
              · exact .inr ⟨t', List.mem_cons_of_mem _ (List.mem_cons_of_mem _ ht'), e⟩
          · exact ⟨by simp only [List.length_append, List.length_cons, List.length_nil]; omega, by simp only; omega, by simp only [List.length_cons]; omega, one⟩
theorem paramsR_le (L : List Tok) (hL : 1 ≤ L.length) : (paramsR L).ps.length ≤ L.length ∧ 0 ≤ (paramsR L).n ∧ (paramsR L).n ≤ L.length ∧ ∀ s ∈ (paramsR L).ps, ∃ t ∈ L, s = t.text := by
  unfold paramsR
  split
  · rename_i h
    rw [Bool.and_eq_true, decide_eq_true_eq] at h
    exact ⟨by simp, by simp, by simp only; omega, fun s hs => by cases hs⟩
  · have := pF_le _ (L.drop 1) [] 1 (Nat.le_refl _) (by omega)
    simp only [List.length_drop, List.length_nil] at this
    refine ⟨by omega, this.2.1, by omega, fun s hs => ?_⟩
    rcases this.2.2.2 s hs with h | ⟨t, ht, e⟩
    · cases h
    · exact ⟨t, List.mem_of_mem_drop ht, e⟩
def tbl29 : Tbl := [([], [1, 6, 7]), ([1], [2, 6, 7]), ([6], [1, 7]), ([7], [1, 6]), ([1, 2], [3, 6, 7]), ([1, 6], [2, 7]), ([1, 7], [2, 6]), ([6, 7], [1]), ([1, 2, 3], [4, 6, 7]), ([1, 2, 6], [3, 7]), ([1, 2, 7], [3, 6]), ([1, 6, 7], [2]), ([1, 2, 3, 4], [6, 7]), ([1, 2, 3, 6], [4, 7]), ([1, 2, 3, 7], [4, 6]), ([1, 2, 6, 7], [3]), ([1, 2, 3, 4, 6], [7]), ([1, 2, 3, 4, 7], [6, 8]), ([1, 2, 3, 6, 7], [4]), ([1, 2, 3, 4, 6, 7], [8]), ([1, 2, 3, 4, 7, 8], [6]), ([1, 2, 3, 4, 6, 7, 8], [9]), ([1, 2, 3, 4, 6, 7, 8, 9], [])]
set_option maxHeartbeats 4000000 in
set_option maxRecDepth 100000 in
theorem define_any (L : List Tok) (A : Option Addr) (c : Nat) (w : World) (hx : SlAt (im w) (.slice A L.length c) (tokY.d L)) (hL : L.length * 48 ≤ 140737488355328) (zL : ∀ t ∈ L, t.text.size ≤ maxLen) :
    Calls Tryz.prog 15 #[.slice A L.length c] w (PureP w (DefR (defR L))) := by
  refine x_fun tt_ok Tryz.func15 rfl rfl [] 0 [.v (.slice A L.length c)] rfl rfl rfl rfl (fun b hb => by cases hb) ?_
  refine x_seq (x_vc tt_ok ?_)
  refine x_seq (x_vc tt_ok ?_)
  refine xl_slG 11 rfl hx ?_
  refine xl_go tt_ok ?_
  repeat (refine And.intro ?_ ?_; first | omega | (simp only [Lay.d_n]; omega) | (simp only [decide_eq_true_eq, decide_eq_false_iff_not, Bool.or_eq_false_iff, Bool.and_eq_true, Bool.or_eq_true, Bool.and_eq_false_iff, Bool.not_eq_true', Bool.not_eq_false', Lay.d_n]; omega) | (simp only [decide_eq_true_eq, decide_eq_false_iff_not, Bool.or_eq_false_iff, Bool.and_eq_true, Bool.or_eq_true, Bool.and_eq_false_iff, Bool.not_eq_true', Bool.not_eq_false']; omega) | (simp only [decide_eq_true_eq, decide_eq_false_iff_not, Bool.or_eq_false_iff]; simp only [Lay.d_n]; omega))
  refine xl_slG 18 rfl hx ?_
  refine xl_go tt_ok ?_
  repeat (refine And.intro ?_ ?_; first | omega | (simp only [Lay.d_n]; omega) | (simp only [decide_eq_true_eq, decide_eq_false_iff_not, Bool.or_eq_false_iff, Bool.and_eq_true, Bool.or_eq_true, Bool.and_eq_false_iff, Bool.not_eq_true', Bool.not_eq_false', Lay.d_n]; omega) | (simp only [decide_eq_true_eq, decide_eq_false_iff_not, Bool.or_eq_false_iff, Bool.and_eq_true, Bool.or_eq_true, Bool.and_eq_false_iff, Bool.not_eq_true', Bool.not_eq_false']; omega) | (simp only [decide_eq_true_eq, decide_eq_false_iff_not, Bool.or_eq_false_iff]; simp only [Lay.d_n]; omega))
  refine xl_gcall0 (.bool (resB (L.getD 0 tok0).text)) rfl rfl rfl rfl fn39 rfl rfl (fun _ E w F hs => reserved_any _ w) ?_
  refine xl_go tt_ok ?_
  refine x_if (fun h => ?_) (fun h => ?_)
  · have h : ((decide ((L.length : Int) = 0) || decide ((L.getD 0 tok0).kind ≠ 1)) || resB (L.getD 0 tok0).text) = true := h
    have e : defR L = (m0, 50) := by unfold defR; rw [if_pos h]
    rw [e]
    exact finP (fun E w' F hs hu => defNo _)
  · have h : ((decide ((L.length : Int) = 0) || decide ((L.getD 0 tok0).kind ≠ 1)) || resB (L.getD 0 tok0).text) = false := h
    have e : defR L = if (decide ((0 : Int) < (L.drop 1).length) && !((L.drop 1).getD 0 tok0).space) = true then
        if isT ((L.drop 1).getD 0 tok0) lpS = true then
          if (paramsR (L.drop 1)).ok = true then defB (L.getD 0 tok0).text true (paramsR (L.drop 1)).ps (paramsR (L.drop 1)).va ((L.drop 1).drop (paramsR (L.drop 1)).n.toNat) else (m0, 50)
        else (m0, 50)
      else defB (L.getD 0 tok0).text false [] false (L.drop 1) := by
      unfold defR; rw [if_neg (by rw [h]; simp)]
    rw [e]
    have hpos : (0 : Int) < L.length := by
      simp only [Bool.or_eq_false_iff, decide_eq_false_iff_not] at h
      omega
    obtain ⟨A1, c1, hA1⟩ : ∃ A1 c1, partV 5 A c 1 L.length = .slice A1 (L.drop 1).length c1 := ⟨_, _, by unfold partV; rw [List.length_drop]⟩
    have hx1 : SlAt (im w) (.slice A1 (L.drop 1).length c1) (tokY.d (L.drop 1)) := by
      have := partV_slAt hx (l := 1) (h := L.length) (by omega) (Nat.le_refl _)
      rw [List.take_length] at this
      rw [← hA1]; exact this
    have zL1 : ∀ t ∈ L.drop 1, t.text.size ≤ maxLen := fun t ht => zL t (List.mem_of_mem_drop ht)
    obtain ⟨R, hR⟩ : ∃ R, R = L.drop 1 := ⟨_, rfl⟩
    have hRl : R.length + 1 = L.length := by rw [hR, List.length_drop]; omega
    rw [← hR] at hA1 hx1 zL1 ⊢
    have hA2 : partV ti82.sz A c (1 : Int).toNat L.length = .slice A1 R.length c1 := hA1
    refine x_seq ?_
    refine x_via (σ := Unit) (fun _ => ⟨[(4, .p 3 0), (2, .p 0 0), (0, .v (.slice A1 R.length c1))], [],
      [(0, .box 25 [.v (.string ⟨#[]⟩), .v (.bool false), .v (.slice none 0 0), .v (.bool false), .v (.slice none 0 0)]), (3, mBox (L.getD 0 tok0).text false (.v (.slice none 0 0)))], 4⟩) (fun _ _ => True) (fun _ => by show 3 ≤ 4; omega) ?_ ?_
    · refine x_drawA mix ?_
      refine xa_pures tt_ok (fuel := 8) [0, 5] rfl (by kernel_rfl) (by kernel_rfl) (fun _ _ _ hh => hh) (by kernel_rfl) (by kernel_rfl) ?_
      refine xa_fam (fuel := 0) (N := 8) tbl29 (fun D => ⟨selD D [(9, (0, .v (.slice A1 R.length c1))), (1, (26, .e 4 5 0 0)), (2, (27, .e 4 5 0 1)), (3, (28, .v (.string (L.getD 0 tok0).text))), (4, (29, .v (mVal ⟨(L.getD 0 tok0).text, false, [], false, []⟩ (none, 0, none, 0)))), (6, (31, .v (.slice A1 R.length c1))), (7, (4, .p 3 0))] ++
          selN D [(1, (25, .v (.slice A L.length c)))] ++ [(30, .v (.slice A L.length c)), (2, .p 0 0)], [],
          selO D [(3, [(8, mBox (L.getD 0 tok0).text false (.v (.slice none 0 0))), (7, .box 25 [.v (.string ⟨#[]⟩), .v (.bool false), .v (.slice none 0 0), .v (.bool false), .v (.slice none 0 0)])]), (4, [(1, .sl (tokY.d L))])] ++
          [(0, .box 25 [.v (.string ⟨#[]⟩), .v (.bool false), .v (.slice none 0 0), .v (.bool false), .v (.slice none 0 0)])], 5⟩) (fun D i => insD i D) rfl (by kernel_rfl) (by kernel_rfl) (by kernel_rfl) [] (.of rfl rfl rfl rfl rfl rfl) (fun _ => by show 3 ≤ 5; omega) ?_ [1, 2, 3, 4, 6, 7, 8, 9] (by kernel_rfl) (fun u3 hu3 => ?_)
      · repeat' (refine And.intro ?_ ?_)
        all_goals first | exact trivial | (intro u' hu'; first | (refine xl_go tt_ok ?_; first | exact meet () [] (.of rfl rfl rfl rfl rfl rfl) trivial | exact meet () [(3, some 5)] (.of rfl rfl rfl rfl rfl rfl) trivial) | (refine xl_fromE tt_ok rfl rfl rfl rfl rfl rfl rfl rfl rfl (by omega) (by omega) ?_; refine xl_end ?_; rw [hA2]; exact meet () [] (.of rfl rfl rfl rfl rfl rfl) trivial) | (refine xl_sl 25 rfl (hx.le hu') ?_; refine xl_go tt_ok ?_; (repeat (refine And.intro (by first | omega | (simp only [Lay.d_n]; omega)) ?_)); exact meet () [(4, some 5)] (.of rfl rfl rfl rfl rfl rfl) trivial))
      · refine xa_done (by kernel_rfl) rfl ?_
        exact meet () [] (.of rfl rfl rfl rfl rfl rfl) trivial
    · rintro _ u4 hu4 _
      clear hx hA1 hA2 h e
      generalize (L.getD 0 tok0).text = nm
      clear hR hpos
      obtain ⟨res, hres⟩ : ∃ res, res = (if (decide ((0 : Int) < R.length) && !(R.getD 0 tok0).space) = true then
            if isT (R.getD 0 tok0) lpS = true then
              if (paramsR R).ok = true then defB nm true (paramsR R).ps (paramsR R).va (R.drop (paramsR R).n.toNat) else (m0, 50)
            else (m0, 50)
          else defB nm false [] false R) := ⟨_, rfl⟩
      rw [← hres]
      refine x_nilCell 3 9 strY [.v (.string nm), .v (.bool false)] [.v (.bool false), .v (.slice none 0 0)] rfl ?_
      refine x_cut (σ := Bool × Bool × List ByteArray × List Tok × Option Addr × Nat) (fun (fn, va, ps, l, A2, c2) => ⟨[(4, .p 3 0), (2, .p 0 0), (0, .v (.slice A2 l.length c2))], [],
          [(0, .box 25 [.v (.string ⟨#[]⟩), .v (.bool false), .v (.slice none 0 0), .v (.bool false), .v (.slice none 0 0)]), (3, .box 25 [.v (.string nm), .v (.bool fn), .r 5, .v (.bool va), .v (.slice none 0 0)]), (5, .row 9 (strY.d ps))], 6⟩)
        (fun (fn, va, ps, l, A2, c2) u => SlAt u (.slice A2 l.length c2) (tokY.d l) ∧ l.length ≤ R.length ∧ ps.length ≤ R.length ∧ (∀ t ∈ l, t.text.size ≤ maxLen) ∧ (∀ s ∈ ps, s.size ≤ maxLen) ∧
          res = defB nm fn ps va l) (fun (_, _, _, _, _, _) => by show 5 ≤ 6; omega) ?_ ?_
      · refine x_vc tt_ok ?_
        refine xl_slG 36 rfl (hx1.le hu4) ?_
        refine xl_go tt_ok ?_
        repeat (refine And.intro ?_ ?_; first | omega | (simp only [Lay.d_n]; omega) | (simp only [decide_eq_true_eq, decide_eq_false_iff_not, Bool.or_eq_false_iff, Bool.and_eq_true, Bool.or_eq_true, Bool.and_eq_false_iff, Bool.not_eq_true', Bool.not_eq_false', Lay.d_n]; omega) | (simp only [decide_eq_true_eq, decide_eq_false_iff_not, Bool.or_eq_false_iff, Bool.and_eq_true, Bool.or_eq_true, Bool.and_eq_false_iff, Bool.not_eq_true', Bool.not_eq_false']; omega) | (simp only [decide_eq_true_eq, decide_eq_false_iff_not, Bool.or_eq_false_iff]; simp only [Lay.d_n]; omega))
        refine x_if (fun h => ?_) (fun h => ?_)
        · have h : (decide ((0 : Int) < R.length) && !(R.getD 0 tok0).space) = true := h
          rw [if_pos h] at hres
          have hRp : 1 ≤ R.length := by
            rw [Bool.and_eq_true, decide_eq_true_eq] at h
            omega
          refine xl_sl 42 rfl (hx1.le hu4) ?_
          refine xl_go tt_ok ?_
          repeat (refine And.intro ?_ ?_; first | omega | (simp only [Lay.d_n]; omega) | (simp only [decide_eq_true_eq, decide_eq_false_iff_not, Bool.or_eq_false_iff, Bool.and_eq_true, Bool.or_eq_true, Bool.and_eq_false_iff, Bool.not_eq_true', Bool.not_eq_false', Lay.d_n]; omega) | (simp only [decide_eq_true_eq, decide_eq_false_iff_not, Bool.or_eq_false_iff, Bool.and_eq_true, Bool.or_eq_true, Bool.and_eq_false_iff, Bool.not_eq_true', Bool.not_eq_false']; omega) | (simp only [decide_eq_true_eq, decide_eq_false_iff_not, Bool.or_eq_false_iff]; simp only [Lay.d_n]; omega))
          refine xl_build tt_ok strY lpS [_] rfl rfl rfl rfl rfl rfl rfl rfl rfl rfl rfl rfl rfl rfl rfl ?_
          refine xl_go tt_ok ?_
          refine xl_call0 (.bool (isT (R.getD 0 tok0) lpS)) rfl rfl rfl rfl fn40 rfl rfl (fun E w F hs => is_any (R.getD 0 tok0) lpS _ w (hs.rowAt (k := 7) rfl) (by decide)) ?_
          refine xl_go tt_ok ?_
          refine x_if (fun h2 => ?_) (fun h2 => ?_)
          · have h2 : (!isT (R.getD 0 tok0) lpS) = true := h2
            rw [if_neg (by intro h3; rw [h3] at h2; cases h2)] at hres
            rw [hres]
            exact finP (fun E w' F hs hu => defNo _)
          · have h2 : isT (R.getD 0 tok0) lpS = true := by
              have h2 : (!isT (R.getD 0 tok0) lpS) = false := h2
              simpa using h2
            rw [if_pos h2] at hres
            obtain ⟨z1, z2, z3, z4⟩ := paramsR_le R hRp
            refine xl_callSC (params_sc nm R A1 c1 (by omega) zL1) (fun u u' h hs => hs.sub h) (hx1.le hu4) [3, 4] rfl rfl rfl rfl fn41 rfl rfl rfl rfl rfl rfl rfl (fun _ => rfl) (fun _ u6 hu6 _ => ?_)
            refine xl_go tt_ok ?_
            refine x_if (fun h3 => ?_) (fun h3 => ?_)
            · have h3 : (!(paramsR R).ok) = true := h3
              rw [if_neg (by intro h4; rw [h4] at h3; cases h3)] at hres
              rw [hres]
              exact finP (fun E w' F hs hu => defNo _)
            · have h3 : (paramsR R).ok = true := by
                have h3 : (!(paramsR R).ok) = false := h3
                simpa using h3
              rw [if_pos h3] at hres
              obtain ⟨q, hq⟩ : ∃ q, q = paramsR R := ⟨_, rfl⟩
              rw [← hq] at hres z1 z2 z3 z4 ⊢
              obtain ⟨A2, c2, hA2⟩ : ∃ A2 c2, partV ti82.sz A1 c1 q.n.toNat R.length = .slice A2 (R.drop q.n.toNat).length c2 := ⟨_, _, by unfold partV; rw [List.length_drop]⟩
              have hx2 : SlAt u6 (.slice A2 (R.drop q.n.toNat).length c2) (tokY.d (R.drop q.n.toNat)) := by
                have := partV_slAt ((hx1.le hu4).le hu6) (l := q.n.toNat) (h := R.length) (by omega) (Nat.le_refl _)
                rw [List.take_length] at this
                rw [← hA2]; exact this
              refine x_drawA mix ?_
              refine xa_pures tt_ok (fuel := 3) [0, 1, 3] rfl (by kernel_rfl) (by kernel_rfl) (fun _ _ _ hh => hh) (by kernel_rfl) (by kernel_rfl) ?_
              refine xa_two 2 4 (by kernel_rfl) rfl rfl ?_ ?_
              · refine xl_fromE tt_ok rfl rfl rfl rfl rfl rfl rfl rfl rfl (by omega) (by omega) ?_
                rw [hA2]
                refine xl_end ?_
                refine xa_chain (fuel := 0) [4, 5] rfl rfl (by kernel_rfl) (xl_go tt_ok ?_)
                refine xa_done (by kernel_rfl) rfl ?_
                exact meet (true, q.va, q.ps, R.drop q.n.toNat, A2, c2) [(5, some 8)] (.of rfl rfl rfl rfl rfl rfl) ⟨hx2, by rw [List.length_drop]; omega, z1, fun t ht => zL1 t (List.mem_of_mem_drop ht), fun s hs => (by obtain ⟨t, ht, e⟩ := z4 s hs; rw [e]; exact zL1 t ht), hres⟩
              · refine xl_go tt_ok ?_
                refine xa_one 2 (by kernel_rfl) rfl ?_
                refine xl_fromE tt_ok rfl rfl rfl rfl rfl rfl rfl rfl rfl (by omega) (by omega) ?_
                rw [hA2]
                refine xl_end ?_
                refine xa_one 5 (by kernel_rfl) rfl (xl_go tt_ok ?_)
                refine xa_done (by kernel_rfl) rfl ?_
                exact meet (true, q.va, q.ps, R.drop q.n.toNat, A2, c2) [(5, some 8)] (.of rfl rfl rfl rfl rfl rfl) ⟨hx2, by rw [List.length_drop]; omega, z1, fun t ht => zL1 t (List.mem_of_mem_drop ht), fun s hs => (by obtain ⟨t, ht, e⟩ := z4 s hs; rw [e]; exact zL1 t ht), hres⟩
        · have h : (decide ((0 : Int) < R.length) && !(R.getD 0 tok0).space) = false := h
          rw [if_neg (by rw [h]; simp)] at hres
          exact meet (false, false, [], R, A1, c1) [(5, some 4)] (.of rfl rfl rfl rfl rfl rfl) ⟨hx1.le hu4, Nat.le_refl _, Nat.zero_le _, zL1, fun s hs => (by cases hs), hres⟩
      · rintro ⟨fn, va, ps, l, A2, c2⟩ u5 hu5 ⟨k1, k2, k3, k4, k5, k6⟩
        rw [k6]
        clear k6 hres hx1
        refine x_star0 0 ?_
        refine x_parkB 5 6 3 rfl rfl rfl (fun pa pc => ?_)
        refine x_vc tt_ok ?_
        refine xl_call0 (.bool (validB fn va ps l)) rfl rfl rfl rfl fn42 rfl rfl (fun E w F hs => valid_any nm fn va ps pa none pc 0 0 l _ w (k1.imm hs.imm) (hs.starAt (s := 6) (i := 0) rfl rfl) (by omega) (by omega) k4 k5) ?_
        refine xl_go tt_ok ?_
        refine x_if (fun h => ?_) (fun h => ?_)
        · have h : (!validB fn va ps l) = true := h
          have e : defB nm fn ps va l = (m0, 50) := by
            unfold defB
            rw [if_neg (by intro h3; rw [h3] at h; cases h)]
          rw [e]
          exact finP (fun E w' F hs hu => defNo _)
        · have h : validB fn va ps l = true := by
            have h : (!validB fn va ps l) = false := h
            simpa using h
          have e : defB nm fn ps va l = (⟨nm, fn, ps, va, fixS (l.map ofT)⟩, 0) := by unfold defB; rw [if_pos h]
          rw [e]
          refine xl_callO 35 (pvY.d (l.map ofT)) rfl rfl rfl rfl fn43 rfl rfl (fun E w F hs => of_any l _ w (k1.imm hs.imm) (by omega)) ?_
          have hml : (l.map ofT).length = l.length := by rw [List.length_map]
          generalize l.map ofT = M at hml
          refine xl_go tt_ok ?_
          cases M with
          | nil =>
            refine x_iff rfl ?_
            refine xl_parkB 7 6 3 rfl rfl rfl (fun ba bc => ?_)
            refine xl_go tt_ok ?_
            exact finStar (k := 6) (pa, pc, ba, bc) rfl (fun _ => rfl) trivial
          | cons t r =>
            refine x_ift (decide_eq_true (by show (0 : Int) < ((r.length + 1 : Nat) : Int); omega)) ?_
            refine And.intro (by omega) ?_
            refine And.intro (by show (0 : Int) < ((r.length + 1 : Nat) : Int); omega) ?_
            refine xl_set tt_ok (i := 0) (off := 2) pvY (t :: r) { t with space := false } (cs := [.bool false]) rfl rfl rfl rfl rfl rfl rfl (by omega) (by simp only [List.length_cons]; omega) rfl rfl (by decide) rfl ?_
            refine xl_go tt_ok ?_
            refine xl_parkB 7 6 3 rfl rfl rfl (fun ba bc => ?_)
            refine xl_go tt_ok ?_
            exact finStar (k := 6) (pa, pc, ba, bc) rfl (fun _ => rfl) trivial
end Go.Proofs.YtnjmkeijjapejaaGreat
namespace Go.Proofs.YtnjmkeijjapejaaGreat
open Go.GV Go.RowKit
theorem eq_take_step {α : Type} {L M : List α} {i : Nat} (d : α) (hl : L.length = M.length) (hi : i < L.length) (h : L.take i = M.take i) : L.take (i + 1) = M.take (i + 1) ↔ L.getD i d = M.getD i d := by
  rw [take_get (List.getElem?_eq_getElem hi), take_get (List.getElem?_eq_getElem (show i < M.length by omega)), h, List.append_cancel_left_eq]
  simp [List.getD_eq_getElem?_getD, List.getElem?_eq_getElem hi, List.getElem?_eq_getElem (show i < M.length by omega)]
theorem ne_of_get {α : Type} {L M : List α} {i : Nat} {d : α} (h : L.getD i d ≠ M.getD i d) : L ≠ M := fun e => h (by rw [e])
set_option maxRecDepth 100000 in
theorem sameTexts_any (L M : List ByteArray) (x y : Value) (w : World) (hx : SlAt (im w) x (strY.d L)) (hy : SlAt (im w) y (strY.d M)) (hL : L.length ≤ 9223372036854775806) :
    Calls Tryz.prog 26 #[x, y] w (PureP w fun v _ => v = .bool (decide (L = M))) := by
  refine x_fun tt_ok Tryz.func26 rfl rfl [(x, strY.d L), (y, strY.d M)] 2 [.r 0, .r 1] rfl rfl rfl rfl (fun b hb => by simp at hb; rcases hb with rfl | rfl <;> assumption) ?_
  refine x_vc tt_ok ?_
  refine x_if (fun h => ?_) (fun h => ?_)
  · have h : (L.length : Int) ≠ M.length := of_decide_eq_true h
    refine fin1 (fun _ _ => ?_)
    rw [decide_eq_false (fun e => h (by rw [e]))]; rfl
  · have h : (L.length : Int) = M.length := Classical.not_not.1 (of_decide_eq_false h)
    refine x_loop (σ := Int) (fun i => ⟨[(5, .v (.int .i64 i)), (1, .r 1), (0, .r 0)], [], [(0, .sl (strY.d L)), (1, .sl (strY.d M))], 2⟩)
      (fun i _ => 0 ≤ i ∧ i ≤ L.length ∧ L.take i.toNat = M.take i.toNat) (fun i => (L.length - i).toNat) (fun _ => Nat.le_refl _) 0 [] (.of rfl rfl rfl rfl rfl rfl) ⟨by omega, by omega, rfl⟩ ?_
    rintro i u hu ⟨g1, g2, g3⟩
    refine x_vc tt_ok ?_
    refine x_if (fun h2 => ?_) (fun h2 => ?_)
    · have h2 : i < L.length := of_decide_eq_true h2
      refine x_draw mix (by kernel_rfl) (xd_go tt_ok ?_)
      repeat (refine And.intro ?_ ?_; first | omega | (simp only [Lay.d_n]; omega) | (simp only [decide_eq_true_eq, decide_eq_false_iff_not, Bool.or_eq_false_iff, Bool.and_eq_true, Bool.or_eq_true, Bool.and_eq_false_iff, Bool.not_eq_true', Bool.not_eq_false', Lay.d_n]; omega) | (simp only [decide_eq_true_eq, decide_eq_false_iff_not, Bool.or_eq_false_iff, Bool.and_eq_true, Bool.or_eq_true, Bool.and_eq_false_iff, Bool.not_eq_true', Bool.not_eq_false']; omega) | (simp only [decide_eq_true_eq, decide_eq_false_iff_not, Bool.or_eq_false_iff]; simp only [Lay.d_n]; omega))
      refine x_if (fun h3 => ?_) (fun h3 => ?_)
      · have h3 : L.getD i.toNat ⟨#[]⟩ ≠ M.getD i.toNat ⟨#[]⟩ := of_decide_eq_true h3
        refine fin1 (fun _ _ => ?_)
        rw [decide_eq_false (ne_of_get h3)]; rfl
      · have h3 : L.getD i.toNat ⟨#[]⟩ = M.getD i.toNat ⟨#[]⟩ := Classical.not_not.1 (of_decide_eq_false h3)
        repeat (refine And.intro ?_ ?_; first | omega | (simp only [Lay.d_n]; omega) | (simp only [decide_eq_true_eq, decide_eq_false_iff_not, Bool.or_eq_false_iff, Bool.and_eq_true, Bool.or_eq_true, Bool.and_eq_false_iff, Bool.not_eq_true', Bool.not_eq_false', Lay.d_n]; omega) | (simp only [decide_eq_true_eq, decide_eq_false_iff_not, Bool.or_eq_false_iff, Bool.and_eq_true, Bool.or_eq_true, Bool.and_eq_false_iff, Bool.not_eq_true', Bool.not_eq_false']; omega) | (simp only [decide_eq_true_eq, decide_eq_false_iff_not, Bool.or_eq_false_iff]; simp only [Lay.d_n]; omega))
        refine again (i + 1) [] (.of rfl rfl rfl rfl rfl rfl) ⟨by omega, by omega, ?_⟩ (by omega)
        rw [show (i + 1).toNat = i.toNat + 1 by omega]
        exact (eq_take_step _ (by omega) (by omega) g3).2 h3
    · have h2 : ¬ i < L.length := of_decide_eq_false h2
      rw [List.take_of_length_le (by omega), List.take_of_length_le (by omega)] at g3
      refine fin1 (fun _ _ => ?_)
      rw [decide_eq_true g3]; rfl
set_option maxRecDepth 100000 in
theorem equalS_any (L M : List ByteArray) (x y : Value) (w : World) (hx : SlAt (im w) x (strY.d L)) (hy : SlAt (im w) y (strY.d M)) (hL : L.length ≤ 9223372036854775806) :
    Calls Tryz.prog 23 #[x, y] w (PureP w fun v _ => v = .bool (decide (L = M))) := by
  refine x_fun tt_ok Tryz.func23 rfl rfl [(x, strY.d L), (y, strY.d M)] 2 [.r 0, .r 1] rfl rfl rfl rfl (fun b hb => by simp at hb; rcases hb with rfl | rfl <;> assumption) ?_
  refine x_vc tt_ok ?_
  refine x_if (fun h => ?_) (fun h => ?_)
  · have h : (L.length : Int) ≠ M.length := of_decide_eq_true h
    refine fin1 (fun _ _ => ?_)
    rw [decide_eq_false (fun e => h (by rw [e]))]; rfl
  · have h : (L.length : Int) = M.length := Classical.not_not.1 (of_decide_eq_false h)
    refine x_loop (σ := Int) (fun i => ⟨[(13, .v (.int .i64 i)), (12, .v (.int .i64 L.length)), (1, .r 1), (0, .r 0)], [], [(0, .sl (strY.d L)), (1, .sl (strY.d M))], 2⟩)
      (fun i _ => 0 ≤ i ∧ i ≤ L.length ∧ L.take i.toNat = M.take i.toNat) (fun i => (L.length - i).toNat) (fun _ => Nat.le_refl _) 0 [] (.of rfl rfl rfl rfl rfl rfl) ⟨by omega, by omega, rfl⟩ ?_
    rintro i u hu ⟨g1, g2, g3⟩
    refine x_vc tt_ok ?_
    refine x_if (fun h2 => ?_) (fun h2 => ?_)
    · have h2 : i < L.length := of_decide_eq_true h2
      refine x_draw mix (by kernel_rfl) (xd_go tt_ok ?_)
      repeat (refine And.intro ?_ ?_; first | omega | (simp only [Lay.d_n]; omega) | (simp only [decide_eq_true_eq, decide_eq_false_iff_not, Bool.or_eq_false_iff, Bool.and_eq_true, Bool.or_eq_true, Bool.and_eq_false_iff, Bool.not_eq_true', Bool.not_eq_false', Lay.d_n]; omega) | (simp only [decide_eq_true_eq, decide_eq_false_iff_not, Bool.or_eq_false_iff, Bool.and_eq_true, Bool.or_eq_true, Bool.and_eq_false_iff, Bool.not_eq_true', Bool.not_eq_false']; omega) | (simp only [decide_eq_true_eq, decide_eq_false_iff_not, Bool.or_eq_false_iff]; simp only [Lay.d_n]; omega))
      refine x_if (fun h3 => ?_) (fun h3 => ?_)
      · have h3 : L.getD i.toNat ⟨#[]⟩ ≠ M.getD i.toNat ⟨#[]⟩ := of_decide_eq_true h3
        refine fin1 (fun _ _ => ?_)
        rw [decide_eq_false (ne_of_get h3)]; rfl
      · have h3 : L.getD i.toNat ⟨#[]⟩ = M.getD i.toNat ⟨#[]⟩ := Classical.not_not.1 (of_decide_eq_false h3)
        repeat (refine And.intro ?_ ?_; first | omega | (simp only [Lay.d_n]; omega) | (simp only [decide_eq_true_eq, decide_eq_false_iff_not, Bool.or_eq_false_iff, Bool.and_eq_true, Bool.or_eq_true, Bool.and_eq_false_iff, Bool.not_eq_true', Bool.not_eq_false', Lay.d_n]; omega) | (simp only [decide_eq_true_eq, decide_eq_false_iff_not, Bool.or_eq_false_iff, Bool.and_eq_true, Bool.or_eq_true, Bool.and_eq_false_iff, Bool.not_eq_true', Bool.not_eq_false']; omega) | (simp only [decide_eq_true_eq, decide_eq_false_iff_not, Bool.or_eq_false_iff]; simp only [Lay.d_n]; omega))
        refine again (i + 1) [] (.of rfl rfl rfl rfl rfl rfl) ⟨by omega, by omega, ?_⟩ (by omega)
        rw [show (i + 1).toNat = i.toNat + 1 by omega]
        exact (eq_take_step _ (by omega) (by omega) g3).2 h3
    · have h2 : ¬ i < L.length := of_decide_eq_false h2
      rw [List.take_of_length_le (by omega), List.take_of_length_le (by omega)] at g3
      refine fin1 (fun _ _ => ?_)
      rw [decide_eq_true g3]; rfl
structure PK where
  kind : Int
  text : ByteArray
  space : Bool
  parts : List ByteArray
  deriving DecidableEq
def pk0 : PK := ⟨0, ⟨#[]⟩, false, []⟩
def PK.of (t : PV) (p : List ByteArray) : PK := ⟨t.kind, t.text, t.space, p⟩
def keysOf (L : List PV) (T : List (List ByteArray)) : List PK := List.zipWith PK.of L T
def PV.prt (t : PV) : Value := .slice t.pa t.pn t.pc
def PartsAt (u : Im) (L : List PV) (T : List (List ByteArray)) : Prop := L.length = T.length ∧ ∀ i, i < L.length → SlAt u (L.getD i pv0).prt (strY.d (T.getD i []))
def prtSm (T : List (List ByteArray)) : Prop := ∀ i : Nat, (T.getD i []).length ≤ 9223372036854775806
theorem keys_len {L : List PV} {T : List (List ByteArray)} (h : L.length = T.length) : (keysOf L T).length = L.length := by
  unfold keysOf
  rw [List.length_zipWith]; omega
theorem keys_get {L : List PV} {T : List (List ByteArray)} (h : L.length = T.length) {i : Nat} (hi : i < L.length) : (keysOf L T).getD i pk0 = PK.of (L.getD i pv0) (T.getD i []) := by
  unfold keysOf
  simp [List.getD_eq_getElem?_getD, List.getElem?_zipWith, List.getElem?_eq_getElem hi, List.getElem?_eq_getElem (show i < T.length by omega)]
theorem pk_ne (t t' : PV) (p p' : List ByteArray) : (((decide (t.kind ≠ t'.kind) || decide (t.text ≠ t'.text)) || decide (t.space ≠ t'.space)) || !decide (p = p')) = decide (PK.of t p ≠ PK.of t' p') := by
  unfold PK.of
  simp only [ne_eq, PK.mk.injEq]
  by_cases e1 : t.kind = t'.kind <;> by_cases e2 : t.text = t'.text <;> by_cases e3 : t.space = t'.space <;> by_cases e4 : p = p' <;> simp [e1, e2, e3, e4]
theorem pk_eq (t t' : PV) (p p' : List ByteArray) : (((decide (t.kind = t'.kind) && decide (t.text = t'.text)) && decide (t.space = t'.space)) && decide (p = p')) = decide (PK.of t p = PK.of t' p') := by
  unfold PK.of
  simp only [PK.mk.injEq]
  by_cases e1 : t.kind = t'.kind <;> by_cases e2 : t.text = t'.text <;> by_cases e3 : t.space = t'.space <;> by_cases e4 : p = p' <;> simp [e1, e2, e3, e4]
set_option maxHeartbeats 1000000 in
set_option maxRecDepth 100000 in
theorem sameToks_any (L M : List PV) (T S : List (List ByteArray)) (x y : Value) (w : World) (hx : SlAt (im w) x (pvY.d L)) (hy : SlAt (im w) y (pvY.d M)) (hT : PartsAt (im w) L T) (hS : PartsAt (im w) M S) (zT : prtSm T)
    (hL : L.length ≤ 9223372036854775806) : Calls Tryz.prog 27 #[x, y] w (PureP w fun v _ => v = .bool (decide (keysOf L T = keysOf M S))) := by
  refine x_fun tt_ok Tryz.func27 rfl rfl [(x, pvY.d L), (y, pvY.d M)] 2 [.r 0, .r 1] rfl rfl rfl rfl (fun b hb => by simp at hb; rcases hb with rfl | rfl <;> assumption) ?_
  refine x_vc tt_ok ?_
  have kl := keys_len hT.1
  have km := keys_len hS.1
  refine x_if (fun h => ?_) (fun h => ?_)
  · have h : (L.length : Int) ≠ M.length := of_decide_eq_true h
    refine fin1 (fun _ _ => ?_)
    rw [decide_eq_false (fun e => h (by rw [← kl, ← km, e]))]; rfl
  · have h : (L.length : Int) = M.length := Classical.not_not.1 (of_decide_eq_false h)
    refine x_loop (σ := Int) (fun i => ⟨[(5, .v (.int .i64 i)), (1, .r 1), (0, .r 0)], [], [(0, .sl (pvY.d L)), (1, .sl (pvY.d M))], 2⟩)
      (fun i _ => 0 ≤ i ∧ i ≤ L.length ∧ (keysOf L T).take i.toNat = (keysOf M S).take i.toNat) (fun i => (L.length - i).toNat) (fun _ => Nat.le_refl _) 0 [] (.of rfl rfl rfl rfl rfl rfl) ⟨by omega, by omega, rfl⟩ ?_
    rintro i u hu ⟨g1, g2, g3⟩
    refine x_vc tt_ok ?_
    refine x_if (fun h2 => ?_) (fun h2 => ?_)
    · have h2 : i < L.length := of_decide_eq_true h2
      have gl := keys_get hT.1 (i := i.toNat) (by omega)
      have gm := keys_get hS.1 (i := i.toNat) (by omega)
      refine x_draw mix (by kernel_rfl) (xd_go tt_ok ?_)
      repeat (refine And.intro ?_ ?_; first | omega | (simp only [Lay.d_n]; omega) | (simp only [decide_eq_true_eq, decide_eq_false_iff_not, Bool.or_eq_false_iff, Bool.and_eq_true, Bool.or_eq_true, Bool.and_eq_false_iff, Bool.not_eq_true', Bool.not_eq_false', Lay.d_n]; omega) | (simp only [decide_eq_true_eq, decide_eq_false_iff_not, Bool.or_eq_false_iff, Bool.and_eq_true, Bool.or_eq_true, Bool.and_eq_false_iff, Bool.not_eq_true', Bool.not_eq_false']; omega) | (simp only [decide_eq_true_eq, decide_eq_false_iff_not, Bool.or_eq_false_iff]; simp only [Lay.d_n]; omega))
      refine xd_call0 (.bool (decide (T.getD i.toNat [] = S.getD i.toNat []))) rfl rfl rfl rfl fn26 rfl rfl
        (fun _ E w F hs => sameTexts_any _ _ _ _ w (((hT.2 i.toNat (by omega)).le hu).imm hs.imm) (((hS.2 i.toNat (by omega)).le hu).imm hs.imm) (zT _)) ?_
      refine xd_go tt_ok ?_
      have hc : (((decide ((L.getD i.toNat pv0).kind ≠ (M.getD i.toNat pv0).kind) || decide ((L.getD i.toNat pv0).text ≠ (M.getD i.toNat pv0).text)) || decide ((L.getD i.toNat pv0).space ≠ (M.getD i.toNat pv0).space)) || !decide (T.getD i.toNat [] = S.getD i.toNat [])) =
          decide ((keysOf L T).getD i.toNat pk0 ≠ (keysOf M S).getD i.toNat pk0) := by
        rw [gl, gm]
        exact pk_ne _ _ _ _
      refine x_if (fun h3 => ?_) (fun h3 => ?_)
      · have h3 : (((decide ((L.getD i.toNat pv0).kind ≠ (M.getD i.toNat pv0).kind) || decide ((L.getD i.toNat pv0).text ≠ (M.getD i.toNat pv0).text)) || decide ((L.getD i.toNat pv0).space ≠ (M.getD i.toNat pv0).space)) || !decide (T.getD i.toNat [] = S.getD i.toNat [])) = true := h3
        rw [hc] at h3
        refine fin1 (fun _ _ => ?_)
        rw [decide_eq_false (ne_of_get (of_decide_eq_true h3))]; rfl
      · have h3 : (((decide ((L.getD i.toNat pv0).kind ≠ (M.getD i.toNat pv0).kind) || decide ((L.getD i.toNat pv0).text ≠ (M.getD i.toNat pv0).text)) || decide ((L.getD i.toNat pv0).space ≠ (M.getD i.toNat pv0).space)) || !decide (T.getD i.toNat [] = S.getD i.toNat [])) = false := h3
        rw [hc] at h3
        repeat (refine And.intro ?_ ?_; first | omega | (simp only [Lay.d_n]; omega) | (simp only [decide_eq_true_eq, decide_eq_false_iff_not, Bool.or_eq_false_iff, Bool.and_eq_true, Bool.or_eq_true, Bool.and_eq_false_iff, Bool.not_eq_true', Bool.not_eq_false', Lay.d_n]; omega) | (simp only [decide_eq_true_eq, decide_eq_false_iff_not, Bool.or_eq_false_iff, Bool.and_eq_true, Bool.or_eq_true, Bool.and_eq_false_iff, Bool.not_eq_true', Bool.not_eq_false']; omega) | (simp only [decide_eq_true_eq, decide_eq_false_iff_not, Bool.or_eq_false_iff]; simp only [Lay.d_n]; omega))
        refine again (i + 1) [] (.of rfl rfl rfl rfl rfl rfl) ⟨by omega, by omega, ?_⟩ (by omega)
        rw [show (i + 1).toNat = i.toNat + 1 by omega]
        exact (eq_take_step _ (by omega) (by omega) g3).2 (Classical.not_not.1 (of_decide_eq_false h3))
    · have h2 : ¬ i < L.length := of_decide_eq_false h2
      rw [List.take_of_length_le (by omega), List.take_of_length_le (by omega)] at g3
      refine fin1 (fun _ _ => ?_)
      rw [decide_eq_true g3]; rfl
def PV.val (t : PV) : Value := .agg #[.int .i64 t.kind, .string t.text, .bool t.space, t.prt]
set_option maxRecDepth 100000 in
theorem same1_any (t t' : PV) (p p' : List ByteArray) (w : World) (hp : SlAt (im w) t.prt (strY.d p)) (hp' : SlAt (im w) t'.prt (strY.d p')) (hz : p.length ≤ 9223372036854775806) :
    Calls Tryz.prog 25 #[t.val, t'.val] w (PureP w fun v _ => v = .bool (decide (PK.of t p = PK.of t' p'))) := by
  refine x_fun tt_ok Tryz.func25 rfl rfl [] 0 [.v t.val, .v t'.val] rfl rfl rfl rfl (fun b hb => by cases hb) ?_
  refine x_vc tt_ok ?_
  refine xl_gcall0 (.bool (decide (p = p'))) rfl rfl rfl rfl fn23 rfl rfl (fun _ E w F hs => equalS_any p p' _ _ w (hp.imm hs.imm) (hp'.imm hs.imm) hz) ?_
  refine xl_go tt_ok ?_
  refine fin1 (fun _ _ => ?_)
  rw [← pk_eq]; rfl
end Go.Proofs.YtnjmkeijjapejaaGreat
namespace Go.Proofs.YtnjmkeijjapejaaGreat
open Go.GV Go.RowKit
set_option maxHeartbeats 1000000 in
set_option maxRecDepth 100000 in
theorem equalF_any (L M : List PV) (T S : List (List ByteArray)) (x y : Value) (w : World) (hx : SlAt (im w) x (pvY.d L)) (hy : SlAt (im w) y (pvY.d M)) (hT : PartsAt (im w) L T) (hS : PartsAt (im w) M S) (zT : prtSm T)
    (hL : L.length ≤ 9223372036854775806) : Calls Tryz.prog 24 #[x, y, .func (.func 25) #[] #[]] w (PureP w fun v _ => v = .bool (decide (keysOf L T = keysOf M S))) := by
  refine x_fun tt_ok Tryz.func24 rfl rfl [(x, pvY.d L), (y, pvY.d M)] 2 [.r 0, .r 1, .v (.func (.func 25) #[] #[])] rfl rfl rfl rfl (fun b hb => by simp at hb; rcases hb with rfl | rfl <;> assumption) ?_
  refine x_vc tt_ok ?_
  have kl := keys_len hT.1
  have km := keys_len hS.1
  refine x_if (fun h => ?_) (fun h => ?_)
  · have h : (L.length : Int) ≠ M.length := of_decide_eq_true h
    refine fin1 (fun _ _ => ?_)
    rw [decide_eq_false (fun e => h (by rw [← kl, ← km, e]))]; rfl
  · have h : (L.length : Int) = M.length := Classical.not_not.1 (of_decide_eq_false h)
    refine x_loop (σ := Int) (fun i => ⟨[(17, .v (.int .i64 i)), (16, .v (.int .i64 L.length)), (15, .r 0), (2, .v (.func (.func 25) #[] #[])), (1, .r 1)], [], [(0, .sl (pvY.d L)), (1, .sl (pvY.d M))], 2⟩)
      (fun i _ => 0 ≤ i ∧ i ≤ L.length ∧ (keysOf L T).take i.toNat = (keysOf M S).take i.toNat) (fun i => (L.length - i).toNat) (fun _ => Nat.le_refl _) 0 [] (.of rfl rfl rfl rfl rfl rfl) ⟨by omega, by omega, rfl⟩ ?_
    rintro i u hu ⟨g1, g2, g3⟩
    refine x_vc tt_ok ?_
    refine x_if (fun h2 => ?_) (fun h2 => ?_)
    · have h2 : i < L.length := of_decide_eq_true h2
      have gl := keys_get hT.1 (i := i.toNat) (by omega)
      have gm := keys_get hS.1 (i := i.toNat) (by omega)
      repeat (refine And.intro ?_ ?_; first | omega | (simp only [Lay.d_n]; omega) | (simp only [decide_eq_true_eq, decide_eq_false_iff_not, Bool.or_eq_false_iff, Bool.and_eq_true, Bool.or_eq_true, Bool.and_eq_false_iff, Bool.not_eq_true', Bool.not_eq_false', Lay.d_n]; omega) | (simp only [decide_eq_true_eq, decide_eq_false_iff_not, Bool.or_eq_false_iff, Bool.and_eq_true, Bool.or_eq_true, Bool.and_eq_false_iff, Bool.not_eq_true', Bool.not_eq_false']; omega) | (simp only [decide_eq_true_eq, decide_eq_false_iff_not, Bool.or_eq_false_iff]; simp only [Lay.d_n]; omega))
      refine xl_call0 (.bool (decide (PK.of (L.getD i.toNat pv0) (T.getD i.toNat []) = PK.of (M.getD i.toNat pv0) (S.getD i.toNat [])))) rfl rfl rfl rfl fn25 rfl rfl
        (fun E w F hs => same1_any (L.getD i.toNat pv0) (M.getD i.toNat pv0) _ _ w (((hT.2 i.toNat (by omega)).le hu).imm hs.imm) (((hS.2 i.toNat (by omega)).le hu).imm hs.imm) (zT _)) ?_
      refine xl_go tt_ok ?_
      rw [← gl, ← gm]
      refine x_if (fun h3 => ?_) (fun h3 => ?_)
      · have h3 : (!decide ((keysOf L T).getD i.toNat pk0 = (keysOf M S).getD i.toNat pk0)) = true := h3
        have h4 : (keysOf L T).getD i.toNat pk0 ≠ (keysOf M S).getD i.toNat pk0 := by
          rw [Bool.not_eq_true', decide_eq_false_iff_not] at h3; exact h3
        refine fin1 (fun _ _ => ?_)
        rw [decide_eq_false (ne_of_get h4)]; rfl
      · have h3 : (!decide ((keysOf L T).getD i.toNat pk0 = (keysOf M S).getD i.toNat pk0)) = false := h3
        have h4 : (keysOf L T).getD i.toNat pk0 = (keysOf M S).getD i.toNat pk0 := by
          rw [Bool.not_eq_false', decide_eq_true_eq] at h3; exact h3
        repeat (refine And.intro ?_ ?_; first | omega | (simp only [Lay.d_n]; omega) | (simp only [decide_eq_true_eq, decide_eq_false_iff_not, Bool.or_eq_false_iff, Bool.and_eq_true, Bool.or_eq_true, Bool.and_eq_false_iff, Bool.not_eq_true', Bool.not_eq_false', Lay.d_n]; omega) | (simp only [decide_eq_true_eq, decide_eq_false_iff_not, Bool.or_eq_false_iff, Bool.and_eq_true, Bool.or_eq_true, Bool.and_eq_false_iff, Bool.not_eq_true', Bool.not_eq_false']; omega) | (simp only [decide_eq_true_eq, decide_eq_false_iff_not, Bool.or_eq_false_iff]; simp only [Lay.d_n]; omega))
        refine again (i + 1) [] (.of rfl rfl rfl rfl rfl rfl) ⟨by omega, by omega, ?_⟩ (by omega)
        rw [show (i + 1).toNat = i.toNat + 1 by omega]
        exact (eq_take_step _ (by omega) (by omega) g3).2 h4
    · have h2 : ¬ i < L.length := of_decide_eq_false h2
      rw [List.take_of_length_le (by omega), List.take_of_length_le (by omega)] at g3
      refine fin1 (fun _ _ => ?_)
      rw [decide_eq_true g3]; rfl
def mSame (a b : MT) (T S : List (List ByteArray)) : Bool := (((decide (a.name = b.name) && decide (a.fn = b.fn)) && decide (a.va = b.va)) && decide (a.ps = b.ps)) && decide (keysOf a.body T = keysOf b.body S)
structure MAt (u : Im) (m : MT) (T : List (List ByteArray)) (s : MA) : Prop where
  ps : SlAt u (.slice s.1 m.ps.length s.2.1) (strY.d m.ps)
  body : SlAt u (.slice s.2.2.1 m.body.length s.2.2.2) (pvY.d m.body)
  parts : PartsAt u m.body T
  z1 : m.ps.length ≤ 9223372036854775806
  z2 : m.body.length ≤ 9223372036854775806
  z3 : prtSm T
theorem PartsAt.imm {u : Im} {L : List PV} {T : List (List ByteArray)} {w : World} (h : PartsAt u L T) (hi : Imm u w) : PartsAt (im w) L T := ⟨h.1, fun i hi' => (h.2 i hi').imm hi⟩
theorem PartsAt.sub {u u' : Im} {L : List PV} {T : List (List ByteArray)} (h : PartsAt u L T) (hi : u.sub u') : PartsAt u' L T := ⟨h.1, fun i hi' => (h.2 i hi').sub hi⟩
theorem MAt.imm {u : Im} {m : MT} {T : List (List ByteArray)} {s : MA} {w : World} (h : MAt u m T s) (hi : Imm u w) : MAt (im w) m T s := ⟨h.ps.imm hi, h.body.imm hi, h.parts.imm hi, h.z1, h.z2, h.z3⟩
theorem MAt.le {u u' : Im} {m : MT} {T : List (List ByteArray)} {s : MA} (h : MAt u m T s) (hi : u.le u') : MAt u' m T s := ⟨h.ps.le hi, h.body.le hi, h.parts.sub hi.sub, h.z1, h.z2, h.z3⟩
set_option maxRecDepth 100000 in
theorem refSame_any (a b : MT) (T S : List (List ByteArray)) (s s' : MA) (w : World) (ha : MAt (im w) a T s) (hb : MAt (im w) b S s') :
    Calls Tryz.prog 9 #[mVal a s, mVal b s'] w (PureP w fun v _ => v = .bool (mSame a b T S)) := by
  refine x_fun tt_ok Tryz.func9 rfl rfl [] 0 [.v (mVal a s), .v (mVal b s')] rfl rfl rfl rfl (fun b hb => by cases hb) ?_
  refine x_vc tt_ok ?_
  refine xl_gcall0 (.bool (decide (a.ps = b.ps))) rfl rfl rfl rfl fn26 rfl rfl (fun _ E w F hs => sameTexts_any a.ps b.ps _ _ w (ha.ps.imm hs.imm) (hb.ps.imm hs.imm) ha.z1) ?_
  refine xl_go tt_ok ?_
  refine xl_gcall0 (.bool (decide (keysOf a.body T = keysOf b.body S))) rfl rfl rfl rfl fn27 rfl rfl (fun _ E w F hs => sameToks_any a.body b.body T S _ _ w (ha.body.imm hs.imm) (hb.body.imm hs.imm) (ha.parts.imm hs.imm) (hb.parts.imm hs.imm) ha.z3 ha.z2) ?_
  refine xl_go tt_ok ?_
  exact fin1 (fun _ _ => rfl)
set_option maxRecDepth 100000 in
theorem macroSame_any (a b : MT) (T S : List (List ByteArray)) (s s' : MA) (w : World) (ha : MAt (im w) a T s) (hb : MAt (im w) b S s') :
    Calls Tryz.prog 8 #[mVal a s, mVal b s'] w (PureP w fun v _ => v = .bool (mSame a b T S)) := by
  refine x_fun tt_ok Tryz.func8 rfl rfl [] 0 [.v (mVal a s), .v (mVal b s')] rfl rfl rfl rfl (fun b hb => by cases hb) ?_
  refine x_vc tt_ok ?_
  refine xl_gcall0 (.bool (decide (a.ps = b.ps))) rfl rfl rfl rfl fn23 rfl rfl (fun _ E w F hs => equalS_any a.ps b.ps _ _ w (ha.ps.imm hs.imm) (hb.ps.imm hs.imm) ha.z1) ?_
  refine xl_go tt_ok ?_
  refine xl_gcall0 (.bool (decide (keysOf a.body T = keysOf b.body S))) rfl rfl rfl rfl fn24 rfl rfl (fun _ E w F hs => equalF_any a.body b.body T S _ _ w (ha.body.imm hs.imm) (hb.body.imm hs.imm) (ha.parts.imm hs.imm) (hb.parts.imm hs.imm) ha.z3 ha.z2) ?_
  refine xl_go tt_ok ?_
  exact fin1 (fun _ _ => rfl)
end Go.Proofs.YtnjmkeijjapejaaGreat
namespace Go.Proofs
open Go.Shelf
def Tryz.lays156_ren : Go.Shelf.Ren := ⟨fun | 156 => 33 | 165 => 58 | 166 => 30 | 169 => 32 | 240 => 56 | 241 => 75 | 276 => 74 | 277 => 87 | n => n, fun | 31 => 22 | 9 => 9 | 3 => 3 | 4 => 4 | 0 => 0 | 20 => 20 | 72 => 61 | 76 => 66 | 70 => 58 | 37 => 59 | 75 => 63 | 127 => 107 | 164 => 127 | 5 => 5 | 80 => 69 | n => n, fun | n => n⟩
theorem Tryz.lays156 : Go.Proofs.Lays.n156 Tryz.prog Tryz.lays156_ren := {
  mixed := by kernel_rfl
  f156 := Tryz.func33.trans (congrArg some (by kernel_rfl))
  f165 := Tryz.func58.trans (congrArg some (by kernel_rfl))
  f166 := Tryz.func30.trans (congrArg some (by kernel_rfl))
  f169 := Tryz.func32.trans (congrArg some (by kernel_rfl))
  f240 := Tryz.func56.trans (congrArg some (by kernel_rfl))
  f241 := Tryz.func75.trans (congrArg some (by kernel_rfl))
  f276 := Tryz.func74.trans (congrArg some (by kernel_rfl))
  f277 := Tryz.func87.trans (congrArg some (by kernel_rfl))
  t0 := Tryz.underlying0
  a0 := Tryz.isAgg0
  z0 := Tryz.sizeOf0
  v0 := Tryz.zeroValue0
  t3 := Tryz.underlying3
  a3 := Tryz.isAgg3
  z3 := Tryz.sizeOf3
  v3 := Tryz.zeroValue3
  t4 := Tryz.underlying4
  a4 := Tryz.isAgg4
  z4 := Tryz.sizeOf4
  v4 := Tryz.zeroValue4
  t9 := Tryz.underlying9
  a9 := Tryz.isAgg9
  z9 := Tryz.sizeOf9
  v9 := Tryz.zeroValue9
  t20 := Tryz.underlying20
  a20 := Tryz.isAgg20
  z20 := Tryz.sizeOf20
  v20 := Tryz.zeroValue20
  t31 := Tryz.underlying22
  a31 := Tryz.isAgg22
  z31 := Tryz.sizeOf22
  v31 := Tryz.zeroValue22
  t37 := Tryz.underlying59
  a37 := Tryz.isAgg59
  z37 := Tryz.sizeOf59
  v37 := Tryz.zeroValue59
  t70 := Tryz.underlying58
  a70 := Tryz.isAgg58
  z70 := Tryz.sizeOf58
  v70 := Tryz.zeroValue58
  t72 := Tryz.underlying61
  a72 := Tryz.isAgg61
  z72 := Tryz.sizeOf61
  v72 := Tryz.zeroValue61
  t75 := Tryz.underlying63
  a75 := Tryz.isAgg63
  z75 := Tryz.sizeOf63
  v75 := Tryz.zeroValue63
  t76 := Tryz.underlying66
  a76 := Tryz.isAgg66
  z76 := Tryz.sizeOf66
  v76 := Tryz.zeroValue66
  t127 := Tryz.underlying107
  a127 := Tryz.isAgg107
  z127 := Tryz.sizeOf107
  v127 := Tryz.zeroValue107
  t164 := Tryz.underlying127
  a164 := Tryz.isAgg127
  z164 := Tryz.sizeOf127
  v164 := Tryz.zeroValue127 }
theorem Tryz.Builder_Extra_156 : Builder.Extra Tryz.prog Tryz.lays156_ren := {
  sizeBuilder := by kernel_rfl
  liesBuilder := by kernel_rfl
  t5 := Tryz.underlying5
  a5 := Tryz.isAgg5
  z5 := Tryz.sizeOf5
  v5 := Tryz.zeroValue5
  infoByte := by kernel_rfl
  cellsByte := by kernel_rfl
  sizeByte := by kernel_rfl
  neB5 := by decide }
open Go.RowKit in
theorem Tryz.strings_Join_none (a : Option Addr) (c : Nat) (sep : ByteArray) (w : World) :
    Calls Tryz.prog 33 #[.slice a 0 c, .string sep] w fun e w' => e = .returned (.string ⟨#[]⟩) ∧ w' = w := Any.strings_Join_none Tryz.lays156 Tryz.Builder_Extra_156 a c sep w
open Go.RowKit in
theorem Tryz.strings_Join (bk o c : Nat) (xs : List ByteArray) (sep : ByteArray) (w : World) (hcells : ∀ (j : Nat) x, xs[j]? = some x → w.cell? ⟨bk, o + j, none⟩ = some (.string x)) (hbk : bk < w.heap.size) (hN : xs.length ≤ 140737488355328) (hcap : xs.length ≤ c) (hlen : (Lib.join (xs.map (·.data.toList)) sep.data.toList).length ≤ 140737488355328) :
    Calls Tryz.prog 33 #[.slice (some ⟨bk, o, none⟩) xs.length c, .string sep] w fun e w' => e = .returned (.string ⟨(Lib.join (xs.map (·.data.toList)) sep.data.toList).toArray⟩) ∧ Below w.heap.size w w' := Any.strings_Join Tryz.lays156 Tryz.Builder_Extra_156 bk o c xs sep w hcells hbk hN hcap hlen
end Go.Proofs
namespace Go.GV
open Go.RowKit
theorem xl_nilCell {α : Type} {C : Cx} {all l : List Oper} {Q : Post} {kn : Kn} {gk : List (Nat × (Gd × SV))} {ow : Own} {nx : Nat} {u : Im} (k e : Nat) (Y : Lay α) {t : Nat} (cs ds : List SV) (hk : look ow k = some (.box t (cs ++ .v (.slice none 0 0) :: ds)))
    (h : XL C all l Q ⟨kn, gk, (nx, .row e (Y.d [])) :: (k, .box t (cs ++ .r nx :: ds)) :: ow, nx + 1⟩ u) : XL C all l Q ⟨kn, gk, ow, nx⟩ u := by
  unfold XL at h ⊢
  intro E a w hok
  obtain ⟨f, hsat⟩ := hok.sat
  have hE : ∀ k, k < nx → upd E nx (.slice none 0 0) k = E k := fun k hk => upd_other _ _ (by omega)
  have hs1 := hsat.nil e Y
  have hkl : k < nx := (hsat.lt k _ hk).1
  have hkn : k ≠ nx := by omega
  have hold := hs1.holds k (.box t (cs ++ .v (.slice none 0 0) :: ds)) (by rw [look_cons, if_neg (fun e1 => hkn e1.symm)]; exact hk)
  have hltold := (hsat.lt k _ hk).2
  have hs2 : Sat (upd E nx (.slice none 0 0)) ((nx, .row e (Y.d [])) :: (k, .box t (cs ++ .r nx :: ds)) :: ow) (nx + 1) u a.defers w (upd f nx (fun _ => False)) := by
    refine ⟨fun j r hl => ?_, fun j hl b hb => ?_, hs1.apart, hs1.off, fun j r hl => ?_, hs1.imm, hs1.marks⟩
    · rw [look_cons] at hl
      split at hl
      · rename_i e1; exact hs1.holds j r (by rw [look_cons, if_pos e1]; exact hl)
      · rename_i e1
        rw [look_cons] at hl
        split at hl
        · rename_i e2
          subst e2
          cases hl
          obtain ⟨b, q1, q2, q3⟩ := hold
          refine ⟨b, q1, q2, ?_⟩
          rw [q3]
          simp [SV.den, upd_same]
        · exact hs1.holds j r (by rw [look_cons, if_neg e1]; exact hl)
    · refine hs1.non j ?_ b hb
      rw [look_cons] at hl ⊢
      split at hl
      · cases hl
      · rename_i e1
        rw [if_neg e1]
        rw [look_cons] at hl
        split at hl
        · cases hl
        · exact hl
    · rw [look_cons] at hl
      split at hl
      · rename_i e1; exact hs1.lt j r (by rw [look_cons, if_pos e1]; exact hl)
      · rename_i e1
        rw [look_cons] at hl
        split at hl
        · rename_i e2
          subst e2
          cases hl
          refine ⟨by omega, fun x hx => ?_⟩
          have hx' := List.mem_append.1 hx
          rcases hx' with hx' | hx'
          · exact SV.lt_mono hE (Nat.le_succ _) (hltold x (List.mem_append_left _ hx'))
          · rcases List.mem_cons.1 hx' with rfl | hx'
            · exact ⟨Nat.lt_succ_self _, none, 0, 0, upd_same _ _ _⟩
            · exact SV.lt_mono hE (Nat.le_succ _) (hltold x (List.mem_append_right _ (List.mem_cons_of_mem _ hx')))
        · exact hs1.lt j r (by rw [look_cons, if_neg e1]; exact hl)
  have hg := hok.agr.grow (E' := upd E nx (.slice none 0 0)) (ow := (nx, .row e (Y.d [])) :: (k, .box t (cs ++ .r nx :: ds)) :: ow) (nx := nx + 1) hE (Nat.le_succ _)
  have := h (upd E nx (.slice none 0 0)) a w ⟨hg, _, hs2⟩
  exact wpListIn_monoQ (fun e a w => SemQ.mono hE (Nat.le_succ _) (Im.le.refl u)) _ _ _ this
theorem xl_gcallF {C : Cx} {all : List Oper} {o : Oper} {r : List Oper} {Q : Post} {kn : Kn} {gk : List (Nat × (Gd × SV))} {ow : Own} {nx : Nat} {u : Im} {c : Call} (v : Value) {y : Nat × Bool} {g : Gd} {f d : Nat}
    (ho : o.op = .call c) (hg : guardOf all ⟨kn, gk, ow, nx⟩ o = some (y :: g)) (hd : o.dst = some d)
    (hc : callee ⟨kn, gk, ow, nx⟩ c = some f) (hfn : Fn1 C.P f) {ss : List SV} (hargs : argsOf ⟨kn, gk, ow, nx⟩ (y :: g) c.args.toList = some ss) (hfr : fresh C.N ⟨kn, gk, ow, nx⟩ d (y :: g) = true)
    (H : ∀ E w F, Sat E ow nx u [] w F → Calls C.P f (ss.map (SV.den E)).toArray w (PureP w fun x _ => x = v))
    (K : XL C all r Q ⟨kn, (d, (y :: g, .v v)) :: gk, ow, nx⟩ u) : XL C all (o :: r) Q ⟨kn, gk, ow, nx⟩ u :=
  xl_gcall0 (st := ⟨kn, gk, ow, nx⟩) v ho hg hd hc hfn hargs hfr (fun _ => H) K
end Go.GV
namespace Go.Proofs.YtnjmkeijjapejaaGreat
open Go.GV Go.RowKit
def joinT (L : List ByteArray) (sep : ByteArray) : ByteArray := ⟨(Lib.join (L.map (·.data.toList)) sep.data.toList).toArray⟩
theorem joinT_size (L : List ByteArray) (sep : ByteArray) : (joinT L sep).size = (Lib.join (L.map (·.data.toList)) sep.data.toList).length := by
  show (joinT L sep).data.size = _
  simp [joinT]
theorem join_any (L : List ByteArray) (x : Value) (sep : ByteArray) (w : World) (hx : SlAt (im w) x (strY.d L)) (hL : L.length ≤ 140737488355328) (hz : (joinT L sep).size ≤ 140737488355328) :
    Calls Tryz.prog 33 #[x, .string sep] w (PureP w fun v _ => v = .string (joinT L sep)) := by
  obtain ⟨A, c, rfl, h2, h3, h4⟩ := hx
  by_cases h0 : L.length = 0
  · have hl : L = [] := List.eq_nil_of_length_eq_zero h0
    subst hl
    refine (Tryz.strings_Join_none A c sep w).mono fun e w' ⟨h5, h6⟩ => ?_
    subst h6
    exact ⟨_, h5, Below.refl _ _, rfl⟩
  · obtain ⟨ad, rfl, h6⟩ := h4 (by show 0 < L.length; omega)
    have hcell : ∀ (j : Nat) x, L[j]? = some x → (im w).cell? (ad.add j) = some (.string x) := by
      intro j x hj
      have hjl : j < L.length := (List.getElem?_eq_some_iff.1 hj).1
      have := h6 j hjl 0 _ rfl
      have e1 : L.getD (j : Int).toNat (⟨#[]⟩ : ByteArray) = x := by
        rw [List.getD_eq_getElem?_getD, Int.toNat_natCast, hj]; rfl
      have e2 : j * (strY.d L).cs.length + 0 = j := by show j * 1 + 0 = j; omega
      rw [e2] at this
      rw [this]
      show some (Value.string (L.getD (j : Int).toNat ⟨#[]⟩)) = _
      rw [e1]
    obtain ⟨bk, o, sp⟩ := ad
    have h7 := hcell 0 (L.getD 0 ⟨#[]⟩) (by rw [List.getD_eq_getElem?_getD, List.getElem?_eq_getElem (by omega)]; rfl)
    have hsp : sp = none := by
      cases sp with
      | none => rfl
      | some q =>
        exfalso
        unfold Addr.add at h7
        rw [if_pos rfl] at h7
        unfold Im.cell? at h7
        split at h7
        · simp at h7
        · cases h7
    subst hsp
    have hbk : bk < w.heap.size := by
      unfold Im.cell? Addr.add at h7
      rw [if_pos rfl] at h7
      split at h7
      · rename_i h8
        exact (Array.getElem?_eq_some_iff.1 h8).1
      · cases h7
    refine (Tryz.strings_Join bk o c L sep w (fun j x hj => ?_) hbk hL (by exact h2) (by rw [← joinT_size]; exact hz)).mono fun e w' ⟨h5, h8⟩ => ⟨_, h5, h8, rfl⟩
    have h9 := hcell j x hj
    rw [← h9]
    show w.cell? _ = w.cell? _
    congr 1
    unfold Addr.add
    by_cases hj0 : j = 0
    · subst hj0; rfl
    · rw [if_neg (by simpa using hj0)]
def strL (s : ByteArray) : List UInt8 := s.data.toList
theorem strL_len (s : ByteArray) : (strL s).length = s.size := by
  show s.data.toList.length = s.data.size
  simp
def defB8 : ByteArray := ⟨#[35, 100, 101, 102, 105, 110, 101, 32]⟩
def comB : ByteArray := ⟨#[44]⟩
def dotB : ByteArray := ⟨#[46, 46, 46]⟩
def parA (m : MT) : List UInt8 := [40] ++ strL (joinT m.ps comB)
def parB (m : MT) : List UInt8 := if m.va && decide (0 < m.ps.length) then [44] else []
def parC (m : MT) : List UInt8 := if m.va then strL dotB else []
def parL (m : MT) : List UInt8 := if m.fn then parA m ++ parB m ++ parC m ++ [41] else []
def headL (m : MT) : List UInt8 := strL defB8 ++ strL m.name ++ parL m
def ptL (i : Nat) (t : PV) : List UInt8 := (if decide (i = 0) || t.space then [32] else []) ++ strL t.text
def bodyUp (B : List PV) : Nat → List UInt8
  | 0 => []
  | i + 1 => bodyUp B i ++ ptL i (B.getD i pv0)
def lineL (m : MT) : List UInt8 := headL m ++ bodyUp m.body m.body.length ++ [10]
def lineT (m : MT) : ByteArray := ⟨(lineL m).toArray⟩
theorem bodyUp_le (B : List PV) : ∀ {i j : Nat}, i ≤ j → (bodyUp B i).length ≤ (bodyUp B j).length := by
  intro i j h
  induction h with
  | refl => exact Nat.le_refl _
  | step _ ih => rw [bodyUp, List.length_append]; omega
set_option maxHeartbeats 2000000 in
set_option maxRecDepth 100000 in
theorem line_any (m : MT) (s : MA) (w : World) (hp : SlAt (im w) (.slice s.1 m.ps.length s.2.1) (strY.d m.ps)) (hb : SlAt (im w) (.slice s.2.2.1 m.body.length s.2.2.2) (pvY.d m.body)) (hn : m.ps.length ≤ 140737488355328)
    (hz : (lineL m).length ≤ 140737488355328) : Calls Tryz.prog 12 #[mVal m s] w (PureP w fun v _ => v = .string (lineT m)) := by
  have z1 : 8 + m.name.size + (parL m).length + (bodyUp m.body m.body.length).length + 1 ≤ 140737488355328 := by
    have := hz
    unfold lineL headL at this
    simp only [List.length_append, strL_len, List.length_singleton] at this
    rw [show defB8.size = 8 by rfl] at this
    omega
  obtain ⟨nm, fn, ps, va, B⟩ := m
  simp only at hp hb hn z1
  have hBn : B.length ≤ 9223372036854775807 := by
    obtain ⟨_, _, _, k2, k3, _⟩ := hb
    exact Nat.le_trans k2 k3
  obtain ⟨HL, hHL⟩ : ∃ x, x = headL ⟨nm, fn, ps, va, B⟩ := ⟨_, rfl⟩
  have hLine : lineT ⟨nm, fn, ps, va, B⟩ = ⟨(HL ++ bodyUp B B.length ++ [10]).toArray⟩ := by rw [hHL]; rfl
  have zH : HL.length + (bodyUp B B.length).length + 1 ≤ 140737488355328 := by
    rw [hHL]; unfold headL
    simp only [List.length_append, strL_len]
    rw [show defB8.size = 8 by rfl]
    omega
  refine x_fun tt_ok Tryz.func12 rfl rfl [] 0 [.v (mVal ⟨nm, fn, ps, va, B⟩ s)] rfl rfl rfl rfl (fun b hb => by cases hb) ?_
  refine x_vc tt_ok ?_
  refine xl_nilCell 1 5 byteY [.v (.pointer none)] [] rfl ?_
  refine xl_callSC (writeString_sc false [] defB8 (by show 0 + 8 ≤ _; omega)) (fun _ _ _ _ => trivial) trivial [1, 2] rfl rfl rfl rfl fn30 rfl rfl rfl rfl rfl rfl rfl (fun _ => rfl) (fun _ u1 hu1 _ => ?_)
  refine xl_go tt_ok ?_
  refine xl_callSC (writeString_sc true (strL defB8) nm (by rw [strL_len]; show 8 + nm.size ≤ _; omega)) (fun _ _ _ _ => trivial) trivial [1, 3] rfl rfl rfl rfl fn30 rfl rfl rfl rfl rfl rfl rfl (fun _ => rfl) (fun _ u2 hu2 _ => ?_)
  refine xl_go tt_ok ?_
  refine x_if (fun h => ?_) (fun h => ?_)
  · have h : fn = true := h
    subst h
    obtain ⟨J, hJ⟩ : ∃ x, x = joinT ps comB := ⟨_, rfl⟩
    have zp : (parL ⟨nm, true, ps, va, B⟩).length = 1 + J.size + (parB ⟨nm, true, ps, va, B⟩).length + (parC ⟨nm, true, ps, va, B⟩).length + 1 := by
      rw [hJ]; unfold parL parA; simp only [if_true, List.length_append, strL_len, List.length_singleton]
    have zJ := strL_len J
    obtain ⟨P0, hP0⟩ : ∃ x, x = strL defB8 ++ strL nm := ⟨_, rfl⟩
    have zP0 : P0.length = 8 + nm.size := by rw [hP0, List.length_append, strL_len, strL_len]; rfl
    have hHL2 : HL = P0 ++ [40] ++ strL J ++ parB ⟨nm, true, ps, va, B⟩ ++ parC ⟨nm, true, ps, va, B⟩ ++ [41] := by
      rw [hHL, hP0, hJ, headL, parL, if_pos rfl, parA]; simp
    have e0 : strL defB8 ++ nm.data.toList = P0 := by rw [hP0]; rfl
    simp only [e0]
    refine xl_callSC (writeByte_sc true P0 40 (by omega)) (fun _ _ _ _ => trivial) trivial [1, 4] rfl rfl rfl rfl fn28 rfl rfl rfl rfl rfl rfl rfl (fun _ => rfl) (fun _ u3 hu3 _ => ?_)
    refine xl_go tt_ok ?_
    refine xl_call0 (.string J) rfl rfl rfl rfl fn33 rfl rfl (fun E w' F hs => by rw [hJ]; exact join_any ps _ comB w' ((hp.le (hu1.trans (hu2.trans hu3))).imm hs.imm) hn (by rw [← hJ]; omega)) ?_
    refine xl_go tt_ok ?_
    refine xl_callSC (writeString_sc true (P0 ++ [40]) J (by simp only [List.length_append, List.length_singleton]; omega)) (fun _ _ _ _ => trivial) trivial [1, 5] rfl rfl rfl rfl fn30 rfl rfl rfl rfl rfl rfl rfl (fun _ => rfl) (fun _ u4 hu4 _ => ?_)
    refine xl_go tt_ok ?_
    obtain ⟨P1, hP1⟩ : ∃ x, x = P0 ++ [40] ++ strL J := ⟨_, rfl⟩
    have zP1 : P1.length = P0.length + 1 + J.size := by rw [hP1, List.length_append, List.length_append, strL_len]; rfl
    rw [← hP1] at hHL2
    have e1 : P0 ++ [40] ++ J.data.toList = P1 := by rw [hP1]; rfl
    simp only [e1]
    refine x_if (fun h => ?_) (fun h => ?_)
    · have h : (va && decide ((0 : Int) < ps.length)) = true := h
      rw [Bool.and_eq_true, decide_eq_true_eq] at h
      obtain ⟨hv, hl⟩ := h
      subst hv
      have hB : parB ⟨nm, true, ps, true, B⟩ = [44] := by unfold parB; rw [if_pos (by simp; omega)]
      have hC : parC ⟨nm, true, ps, true, B⟩ = strL dotB := rfl
      rw [hB, hC] at hHL2 zp
      simp only [List.length_singleton, show (strL dotB).length = 3 by rfl] at zp
      refine xl_callSC (writeByte_sc true P1 44 (by omega)) (fun _ _ _ _ => trivial) trivial [1, 6] rfl rfl rfl rfl fn28 rfl rfl rfl rfl rfl rfl rfl (fun _ => rfl) (fun _ u5 hu5 _ => ?_)
      refine xl_go tt_ok ?_
      refine x_ift rfl ?_
      refine xl_callSC (writeString_sc true (P1 ++ [44]) dotB (by simp only [List.length_append, List.length_singleton, show dotB.size = 3 by rfl]; omega)) (fun _ _ _ _ => trivial) trivial [1, 7] rfl rfl rfl rfl fn30 rfl rfl rfl rfl rfl rfl rfl (fun _ => rfl) (fun _ u6 hu6 _ => ?_)
      refine xl_go tt_ok ?_
      refine xl_callSC (writeByte_sc true (P1 ++ [44] ++ strL dotB) 41 (by simp only [List.length_append, List.length_singleton, show (strL dotB).length = 3 by rfl]; omega)) (fun _ _ _ _ => trivial) trivial [1, 8] rfl rfl rfl rfl fn28 rfl rfl rfl rfl rfl rfl rfl (fun _ => rfl) (fun _ u7 hu7 _ => ?_)
      refine xl_go tt_ok ?_
      have hle : (im w).le u7 := hu1.trans (hu2.trans (hu3.trans (hu4.trans (hu5.trans (hu6.trans hu7)))))
      rw [← hHL2]
      refine x_vc tt_ok ?_
      refine x_sl 31 rfl (hb.le (by first | exact hu1.trans hu2 | exact hle)) ?_
      refine x_loop (σ := Int × List UInt8) (fun (i, L) => ⟨[(33, .v (.int .i64 i)), (32, .v (.int .i64 (B.length : Int))), (31, .r 21), (3, .p 1 0)], [], [(1, .box 61 [.p 1 0, .r 20]), (20, .row 5 (byteY.d L)), (21, .sl (pvY.d B))], 22⟩)
        (fun (i, L) _ => 0 ≤ i ∧ i ≤ B.length ∧ L = HL ++ bodyUp B i.toNat) (fun (i, _) => ((B.length : Int) - i).toNat) (fun (_, _) => of_decide_eq_true rfl) (0, HL) [(21, some 10), (20, some 9)] (.of rfl rfl rfl rfl rfl rfl) ⟨by omega, by omega, by simp [bodyUp]⟩ ?_
      rintro ⟨i, L⟩ u8 hu8 ⟨g1, g2, g3⟩
      have hlen : L.length = HL.length + (bodyUp B i.toNat).length := by
        rw [g3, List.length_append]
      refine x_vc tt_ok ?_
      refine x_if (fun h4 => ?_) (fun h4 => ?_)
      · have h5 : i < B.length := of_decide_eq_true h4
        have hle2 := bodyUp_le B (show i.toNat + 1 ≤ B.length by omega)
        have hst : bodyUp B (i + 1).toNat = bodyUp B i.toNat ++ ptL i.toNat (B.getD i.toNat pv0) := by
          rw [show (i + 1).toNat = i.toNat + 1 by omega, bodyUp]
        rw [bodyUp, List.length_append, ptL, List.length_append, strL_len] at hle2
        repeat (refine And.intro ?_ ?_; first | omega | (simp only [Lay.d_n]; omega) | (simp only [decide_eq_true_eq, decide_eq_false_iff_not, Bool.or_eq_false_iff, Bool.and_eq_true, Bool.or_eq_true, Bool.and_eq_false_iff, Bool.not_eq_true', Bool.not_eq_false', Lay.d_n]; omega) | (simp only [decide_eq_true_eq, decide_eq_false_iff_not, Bool.or_eq_false_iff, Bool.and_eq_true, Bool.or_eq_true, Bool.and_eq_false_iff, Bool.not_eq_true', Bool.not_eq_false']; omega) | (simp only [decide_eq_true_eq, decide_eq_false_iff_not, Bool.or_eq_false_iff]; simp only [Lay.d_n]; omega))
        refine x_if (fun h6 => ?_) (fun h6 => ?_)
        · have h6' : (decide (i.toNat = 0) || (B.getD i.toNat pv0).space) = true := by
            have h6 : (decide (i = 0) || (B.getD i.toNat pv0).space) = true := h6
            rw [show decide (i.toNat = 0) = decide (i = 0) by (congr 1; exact propext ⟨fun h => by omega, fun h => by omega⟩)]; exact h6
          rw [if_pos h6', List.length_singleton] at hle2
          refine xl_callSC (writeByte_sc true L 32 (by omega)) (fun _ _ _ _ => trivial) trivial [1, 20] rfl rfl rfl rfl fn28 rfl rfl rfl rfl rfl rfl rfl (fun _ => rfl) (fun _ u9 hu9 _ => ?_)
          refine xl_go tt_ok ?_
          refine xl_callSC (writeString_sc true (L ++ [32]) (B.getD i.toNat pv0).text (by rw [List.length_append, List.length_singleton]; omega)) (fun _ _ _ _ => trivial) trivial [1, 23] rfl rfl rfl rfl fn30 rfl rfl rfl rfl rfl rfl rfl (fun _ => rfl) (fun _ u10 hu10 _ => ?_)
          refine xl_go tt_ok ?_
          repeat (refine And.intro ?_ ?_; first | omega | (simp only [Lay.d_n]; omega) | (simp only [decide_eq_true_eq, decide_eq_false_iff_not, Bool.or_eq_false_iff, Bool.and_eq_true, Bool.or_eq_true, Bool.and_eq_false_iff, Bool.not_eq_true', Bool.not_eq_false', Lay.d_n]; omega) | (simp only [decide_eq_true_eq, decide_eq_false_iff_not, Bool.or_eq_false_iff, Bool.and_eq_true, Bool.or_eq_true, Bool.and_eq_false_iff, Bool.not_eq_true', Bool.not_eq_false']; omega) | (simp only [decide_eq_true_eq, decide_eq_false_iff_not, Bool.or_eq_false_iff]; simp only [Lay.d_n]; omega))
          exact again (i + 1, _) [(20, some 24)] (.of rfl rfl rfl rfl rfl rfl) ⟨by omega, by omega, by rw [hst, g3, ptL, if_pos h6']; simp [strL]⟩ (by simp only; omega)
        · have h6' : (decide (i.toNat = 0) || (B.getD i.toNat pv0).space) = false := by
            have h6 : (decide (i = 0) || (B.getD i.toNat pv0).space) = false := h6
            rw [show decide (i.toNat = 0) = decide (i = 0) by (congr 1; exact propext ⟨fun h => by omega, fun h => by omega⟩)]; exact h6
          rw [if_neg (by rw [h6']; simp)] at hle2
          refine xl_callSC (writeString_sc true L (B.getD i.toNat pv0).text (by simp only [List.length_nil] at hle2; omega)) (fun _ _ _ _ => trivial) trivial [1, 20] rfl rfl rfl rfl fn30 rfl rfl rfl rfl rfl rfl rfl (fun _ => rfl) (fun _ u10 hu10 _ => ?_)
          refine xl_go tt_ok ?_
          repeat (refine And.intro ?_ ?_; first | omega | (simp only [Lay.d_n]; omega) | (simp only [decide_eq_true_eq, decide_eq_false_iff_not, Bool.or_eq_false_iff, Bool.and_eq_true, Bool.or_eq_true, Bool.and_eq_false_iff, Bool.not_eq_true', Bool.not_eq_false', Lay.d_n]; omega) | (simp only [decide_eq_true_eq, decide_eq_false_iff_not, Bool.or_eq_false_iff, Bool.and_eq_true, Bool.or_eq_true, Bool.and_eq_false_iff, Bool.not_eq_true', Bool.not_eq_false']; omega) | (simp only [decide_eq_true_eq, decide_eq_false_iff_not, Bool.or_eq_false_iff]; simp only [Lay.d_n]; omega))
          exact again (i + 1, _) [(20, some 23)] (.of rfl rfl rfl rfl rfl rfl) ⟨by omega, by omega, by rw [hst, g3, ptL, if_neg (by rw [h6']; simp)]; simp [strL]⟩ (by simp only; omega)
      · have h5 : ¬ i < B.length := of_decide_eq_false h4
        have hi : i.toNat = B.length := by omega
        rw [hi] at g3 hlen
        refine xl_callSC (writeByte_sc true L 10 (by omega)) (fun _ _ _ _ => trivial) trivial [1, 20] rfl rfl rfl rfl fn28 rfl rfl rfl rfl rfl rfl rfl (fun _ => rfl) (fun _ u9 hu9 _ => ?_)
        refine xl_go tt_ok ?_
        refine xl_callSC (string_sc true (L ++ [10]) (by simp)) (fun _ _ _ _ => trivial) trivial [1, 22] rfl rfl rfl rfl fn32 rfl rfl rfl rfl rfl rfl rfl (fun _ => rfl) (fun _ u10 hu10 _ => ?_)
        refine xl_go tt_ok ?_
        refine fin1 (fun _ _ => ?_)
        rw [hLine, ← g3]; rfl
    · have h : (va && decide ((0 : Int) < ps.length)) = false := h
      have hB : parB ⟨nm, true, ps, va, B⟩ = [] := by
        unfold parB
        rw [if_neg]
        rw [show (decide (0 < ps.length)) = decide ((0 : Int) < ps.length) by (congr 1; exact propext ⟨fun h => by omega, fun h => by omega⟩), h]
        simp
      refine x_if (fun h2 => ?_) (fun h2 => ?_)
      · have h2 : va = true := h2
        subst h2
        have hC : parC ⟨nm, true, ps, true, B⟩ = strL dotB := rfl
        rw [hB, hC, List.append_nil] at hHL2
        rw [hB, hC] at zp
        simp only [List.length_nil, show (strL dotB).length = 3 by rfl] at zp
        refine xl_callSC (writeString_sc true P1 dotB (by simp only [show dotB.size = 3 by rfl]; omega)) (fun _ _ _ _ => trivial) trivial [1, 6] rfl rfl rfl rfl fn30 rfl rfl rfl rfl rfl rfl rfl (fun _ => rfl) (fun _ u6 hu6 _ => ?_)
        refine xl_go tt_ok ?_
        refine xl_callSC (writeByte_sc true (P1 ++ strL dotB) 41 (by simp only [List.length_append, show (strL dotB).length = 3 by rfl]; omega)) (fun _ _ _ _ => trivial) trivial [1, 7] rfl rfl rfl rfl fn28 rfl rfl rfl rfl rfl rfl rfl (fun _ => rfl) (fun _ u7 hu7 _ => ?_)
        refine xl_go tt_ok ?_
        have hle : (im w).le u7 := hu1.trans (hu2.trans (hu3.trans (hu4.trans (hu6.trans hu7))))
        rw [← hHL2]
        refine x_vc tt_ok ?_
        refine x_sl 31 rfl (hb.le (by first | exact hu1.trans hu2 | exact hle)) ?_
        refine x_loop (σ := Int × List UInt8) (fun (i, L) => ⟨[(33, .v (.int .i64 i)), (32, .v (.int .i64 (B.length : Int))), (31, .r 21), (3, .p 1 0)], [], [(1, .box 61 [.p 1 0, .r 20]), (20, .row 5 (byteY.d L)), (21, .sl (pvY.d B))], 22⟩)
          (fun (i, L) _ => 0 ≤ i ∧ i ≤ B.length ∧ L = HL ++ bodyUp B i.toNat) (fun (i, _) => ((B.length : Int) - i).toNat) (fun (_, _) => of_decide_eq_true rfl) (0, HL) [(21, some 9), (20, some 8)] (.of rfl rfl rfl rfl rfl rfl) ⟨by omega, by omega, by simp [bodyUp]⟩ ?_
        rintro ⟨i, L⟩ u8 hu8 ⟨g1, g2, g3⟩
        have hlen : L.length = HL.length + (bodyUp B i.toNat).length := by
          rw [g3, List.length_append]
        refine x_vc tt_ok ?_
        refine x_if (fun h4 => ?_) (fun h4 => ?_)
        · have h5 : i < B.length := of_decide_eq_true h4
          have hle2 := bodyUp_le B (show i.toNat + 1 ≤ B.length by omega)
          have hst : bodyUp B (i + 1).toNat = bodyUp B i.toNat ++ ptL i.toNat (B.getD i.toNat pv0) := by
            rw [show (i + 1).toNat = i.toNat + 1 by omega, bodyUp]
          rw [bodyUp, List.length_append, ptL, List.length_append, strL_len] at hle2
          repeat (refine And.intro ?_ ?_; first | omega | (simp only [Lay.d_n]; omega) | (simp only [decide_eq_true_eq, decide_eq_false_iff_not, Bool.or_eq_false_iff, Bool.and_eq_true, Bool.or_eq_true, Bool.and_eq_false_iff, Bool.not_eq_true', Bool.not_eq_false', Lay.d_n]; omega) | (simp only [decide_eq_true_eq, decide_eq_false_iff_not, Bool.or_eq_false_iff, Bool.and_eq_true, Bool.or_eq_true, Bool.and_eq_false_iff, Bool.not_eq_true', Bool.not_eq_false']; omega) | (simp only [decide_eq_true_eq, decide_eq_false_iff_not, Bool.or_eq_false_iff]; simp only [Lay.d_n]; omega))
          refine x_if (fun h6 => ?_) (fun h6 => ?_)
          · have h6' : (decide (i.toNat = 0) || (B.getD i.toNat pv0).space) = true := by
              have h6 : (decide (i = 0) || (B.getD i.toNat pv0).space) = true := h6
              rw [show decide (i.toNat = 0) = decide (i = 0) by (congr 1; exact propext ⟨fun h => by omega, fun h => by omega⟩)]; exact h6
            rw [if_pos h6', List.length_singleton] at hle2
            refine xl_callSC (writeByte_sc true L 32 (by omega)) (fun _ _ _ _ => trivial) trivial [1, 20] rfl rfl rfl rfl fn28 rfl rfl rfl rfl rfl rfl rfl (fun _ => rfl) (fun _ u9 hu9 _ => ?_)
            refine xl_go tt_ok ?_
            refine xl_callSC (writeString_sc true (L ++ [32]) (B.getD i.toNat pv0).text (by rw [List.length_append, List.length_singleton]; omega)) (fun _ _ _ _ => trivial) trivial [1, 23] rfl rfl rfl rfl fn30 rfl rfl rfl rfl rfl rfl rfl (fun _ => rfl) (fun _ u10 hu10 _ => ?_)
            refine xl_go tt_ok ?_
            repeat (refine And.intro ?_ ?_; first | omega | (simp only [Lay.d_n]; omega) | (simp only [decide_eq_true_eq, decide_eq_false_iff_not, Bool.or_eq_false_iff, Bool.and_eq_true, Bool.or_eq_true, Bool.and_eq_false_iff, Bool.not_eq_true', Bool.not_eq_false', Lay.d_n]; omega) | (simp only [decide_eq_true_eq, decide_eq_false_iff_not, Bool.or_eq_false_iff, Bool.and_eq_true, Bool.or_eq_true, Bool.and_eq_false_iff, Bool.not_eq_true', Bool.not_eq_false']; omega) | (simp only [decide_eq_true_eq, decide_eq_false_iff_not, Bool.or_eq_false_iff]; simp only [Lay.d_n]; omega))
            exact again (i + 1, _) [(20, some 24)] (.of rfl rfl rfl rfl rfl rfl) ⟨by omega, by omega, by rw [hst, g3, ptL, if_pos h6']; simp [strL]⟩ (by simp only; omega)
          · have h6' : (decide (i.toNat = 0) || (B.getD i.toNat pv0).space) = false := by
              have h6 : (decide (i = 0) || (B.getD i.toNat pv0).space) = false := h6
              rw [show decide (i.toNat = 0) = decide (i = 0) by (congr 1; exact propext ⟨fun h => by omega, fun h => by omega⟩)]; exact h6
            rw [if_neg (by rw [h6']; simp)] at hle2
            refine xl_callSC (writeString_sc true L (B.getD i.toNat pv0).text (by simp only [List.length_nil] at hle2; omega)) (fun _ _ _ _ => trivial) trivial [1, 20] rfl rfl rfl rfl fn30 rfl rfl rfl rfl rfl rfl rfl (fun _ => rfl) (fun _ u10 hu10 _ => ?_)
            refine xl_go tt_ok ?_
            repeat (refine And.intro ?_ ?_; first | omega | (simp only [Lay.d_n]; omega) | (simp only [decide_eq_true_eq, decide_eq_false_iff_not, Bool.or_eq_false_iff, Bool.and_eq_true, Bool.or_eq_true, Bool.and_eq_false_iff, Bool.not_eq_true', Bool.not_eq_false', Lay.d_n]; omega) | (simp only [decide_eq_true_eq, decide_eq_false_iff_not, Bool.or_eq_false_iff, Bool.and_eq_true, Bool.or_eq_true, Bool.and_eq_false_iff, Bool.not_eq_true', Bool.not_eq_false']; omega) | (simp only [decide_eq_true_eq, decide_eq_false_iff_not, Bool.or_eq_false_iff]; simp only [Lay.d_n]; omega))
            exact again (i + 1, _) [(20, some 23)] (.of rfl rfl rfl rfl rfl rfl) ⟨by omega, by omega, by rw [hst, g3, ptL, if_neg (by rw [h6']; simp)]; simp [strL]⟩ (by simp only; omega)
        · have h5 : ¬ i < B.length := of_decide_eq_false h4
          have hi : i.toNat = B.length := by omega
          rw [hi] at g3 hlen
          refine xl_callSC (writeByte_sc true L 10 (by omega)) (fun _ _ _ _ => trivial) trivial [1, 20] rfl rfl rfl rfl fn28 rfl rfl rfl rfl rfl rfl rfl (fun _ => rfl) (fun _ u9 hu9 _ => ?_)
          refine xl_go tt_ok ?_
          refine xl_callSC (string_sc true (L ++ [10]) (by simp)) (fun _ _ _ _ => trivial) trivial [1, 22] rfl rfl rfl rfl fn32 rfl rfl rfl rfl rfl rfl rfl (fun _ => rfl) (fun _ u10 hu10 _ => ?_)
          refine xl_go tt_ok ?_
          refine fin1 (fun _ _ => ?_)
          rw [hLine, ← g3]; rfl
      · have h2 : va = false := h2
        subst h2
        have hC : parC ⟨nm, true, ps, false, B⟩ = [] := rfl
        rw [hB, hC, List.append_nil, List.append_nil] at hHL2
        rw [hB, hC] at zp
        simp only [List.length_nil] at zp
        refine xl_callSC (writeByte_sc true P1 41 (by omega)) (fun _ _ _ _ => trivial) trivial [1, 6] rfl rfl rfl rfl fn28 rfl rfl rfl rfl rfl rfl rfl (fun _ => rfl) (fun _ u7 hu7 _ => ?_)
        refine xl_go tt_ok ?_
        have hle : (im w).le u7 := hu1.trans (hu2.trans (hu3.trans (hu4.trans hu7)))
        rw [← hHL2]
        refine x_vc tt_ok ?_
        refine x_sl 31 rfl (hb.le (by first | exact hu1.trans hu2 | exact hle)) ?_
        refine x_loop (σ := Int × List UInt8) (fun (i, L) => ⟨[(33, .v (.int .i64 i)), (32, .v (.int .i64 (B.length : Int))), (31, .r 21), (3, .p 1 0)], [], [(1, .box 61 [.p 1 0, .r 20]), (20, .row 5 (byteY.d L)), (21, .sl (pvY.d B))], 22⟩)
          (fun (i, L) _ => 0 ≤ i ∧ i ≤ B.length ∧ L = HL ++ bodyUp B i.toNat) (fun (i, _) => ((B.length : Int) - i).toNat) (fun (_, _) => of_decide_eq_true rfl) (0, HL) [(21, some 8), (20, some 7)] (.of rfl rfl rfl rfl rfl rfl) ⟨by omega, by omega, by simp [bodyUp]⟩ ?_
        rintro ⟨i, L⟩ u8 hu8 ⟨g1, g2, g3⟩
        have hlen : L.length = HL.length + (bodyUp B i.toNat).length := by
          rw [g3, List.length_append]
        refine x_vc tt_ok ?_
        refine x_if (fun h4 => ?_) (fun h4 => ?_)
        · have h5 : i < B.length := of_decide_eq_true h4
          have hle2 := bodyUp_le B (show i.toNat + 1 ≤ B.length by omega)
          have hst : bodyUp B (i + 1).toNat = bodyUp B i.toNat ++ ptL i.toNat (B.getD i.toNat pv0) := by
            rw [show (i + 1).toNat = i.toNat + 1 by omega, bodyUp]
          rw [bodyUp, List.length_append, ptL, List.length_append, strL_len] at hle2
          repeat (refine And.intro ?_ ?_; first | omega | (simp only [Lay.d_n]; omega) | (simp only [decide_eq_true_eq, decide_eq_false_iff_not, Bool.or_eq_false_iff, Bool.and_eq_true, Bool.or_eq_true, Bool.and_eq_false_iff, Bool.not_eq_true', Bool.not_eq_false', Lay.d_n]; omega) | (simp only [decide_eq_true_eq, decide_eq_false_iff_not, Bool.or_eq_false_iff, Bool.and_eq_true, Bool.or_eq_true, Bool.and_eq_false_iff, Bool.not_eq_true', Bool.not_eq_false']; omega) | (simp only [decide_eq_true_eq, decide_eq_false_iff_not, Bool.or_eq_false_iff]; simp only [Lay.d_n]; omega))
          refine x_if (fun h6 => ?_) (fun h6 => ?_)
          · have h6' : (decide (i.toNat = 0) || (B.getD i.toNat pv0).space) = true := by
              have h6 : (decide (i = 0) || (B.getD i.toNat pv0).space) = true := h6
              rw [show decide (i.toNat = 0) = decide (i = 0) by (congr 1; exact propext ⟨fun h => by omega, fun h => by omega⟩)]; exact h6
            rw [if_pos h6', List.length_singleton] at hle2
            refine xl_callSC (writeByte_sc true L 32 (by omega)) (fun _ _ _ _ => trivial) trivial [1, 20] rfl rfl rfl rfl fn28 rfl rfl rfl rfl rfl rfl rfl (fun _ => rfl) (fun _ u9 hu9 _ => ?_)
            refine xl_go tt_ok ?_
            refine xl_callSC (writeString_sc true (L ++ [32]) (B.getD i.toNat pv0).text (by rw [List.length_append, List.length_singleton]; omega)) (fun _ _ _ _ => trivial) trivial [1, 23] rfl rfl rfl rfl fn30 rfl rfl rfl rfl rfl rfl rfl (fun _ => rfl) (fun _ u10 hu10 _ => ?_)
            refine xl_go tt_ok ?_
            repeat (refine And.intro ?_ ?_; first | omega | (simp only [Lay.d_n]; omega) | (simp only [decide_eq_true_eq, decide_eq_false_iff_not, Bool.or_eq_false_iff, Bool.and_eq_true, Bool.or_eq_true, Bool.and_eq_false_iff, Bool.not_eq_true', Bool.not_eq_false', Lay.d_n]; omega) | (simp only [decide_eq_true_eq, decide_eq_false_iff_not, Bool.or_eq_false_iff, Bool.and_eq_true, Bool.or_eq_true, Bool.and_eq_false_iff, Bool.not_eq_true', Bool.not_eq_false']; omega) | (simp only [decide_eq_true_eq, decide_eq_false_iff_not, Bool.or_eq_false_iff]; simp only [Lay.d_n]; omega))
            exact again (i + 1, _) [(20, some 24)] (.of rfl rfl rfl rfl rfl rfl) ⟨by omega, by omega, by rw [hst, g3, ptL, if_pos h6']; simp [strL]⟩ (by simp only; omega)
          · have h6' : (decide (i.toNat = 0) || (B.getD i.toNat pv0).space) = false := by
              have h6 : (decide (i = 0) || (B.getD i.toNat pv0).space) = false := h6
              rw [show decide (i.toNat = 0) = decide (i = 0) by (congr 1; exact propext ⟨fun h => by omega, fun h => by omega⟩)]; exact h6
            rw [if_neg (by rw [h6']; simp)] at hle2
            refine xl_callSC (writeString_sc true L (B.getD i.toNat pv0).text (by simp only [List.length_nil] at hle2; omega)) (fun _ _ _ _ => trivial) trivial [1, 20] rfl rfl rfl rfl fn30 rfl rfl rfl rfl rfl rfl rfl (fun _ => rfl) (fun _ u10 hu10 _ => ?_)
            refine xl_go tt_ok ?_
            repeat (refine And.intro ?_ ?_; first | omega | (simp only [Lay.d_n]; omega) | (simp only [decide_eq_true_eq, decide_eq_false_iff_not, Bool.or_eq_false_iff, Bool.and_eq_true, Bool.or_eq_true, Bool.and_eq_false_iff, Bool.not_eq_true', Bool.not_eq_false', Lay.d_n]; omega) | (simp only [decide_eq_true_eq, decide_eq_false_iff_not, Bool.or_eq_false_iff, Bool.and_eq_true, Bool.or_eq_true, Bool.and_eq_false_iff, Bool.not_eq_true', Bool.not_eq_false']; omega) | (simp only [decide_eq_true_eq, decide_eq_false_iff_not, Bool.or_eq_false_iff]; simp only [Lay.d_n]; omega))
            exact again (i + 1, _) [(20, some 23)] (.of rfl rfl rfl rfl rfl rfl) ⟨by omega, by omega, by rw [hst, g3, ptL, if_neg (by rw [h6']; simp)]; simp [strL]⟩ (by simp only; omega)
        · have h5 : ¬ i < B.length := of_decide_eq_false h4
          have hi : i.toNat = B.length := by omega
          rw [hi] at g3 hlen
          refine xl_callSC (writeByte_sc true L 10 (by omega)) (fun _ _ _ _ => trivial) trivial [1, 20] rfl rfl rfl rfl fn28 rfl rfl rfl rfl rfl rfl rfl (fun _ => rfl) (fun _ u9 hu9 _ => ?_)
          refine xl_go tt_ok ?_
          refine xl_callSC (string_sc true (L ++ [10]) (by simp)) (fun _ _ _ _ => trivial) trivial [1, 22] rfl rfl rfl rfl fn32 rfl rfl rfl rfl rfl rfl rfl (fun _ => rfl) (fun _ u10 hu10 _ => ?_)
          refine xl_go tt_ok ?_
          refine fin1 (fun _ _ => ?_)
          rw [hLine, ← g3]; rfl
  · have h : fn = false := h
    subst h
    refine x_vc tt_ok ?_
    refine x_sl 31 rfl (hb.le (by first | exact hu1.trans hu2 | exact hle)) ?_
    refine x_loop (σ := Int × List UInt8) (fun (i, L) => ⟨[(33, .v (.int .i64 i)), (32, .v (.int .i64 (B.length : Int))), (31, .r 21), (3, .p 1 0)], [], [(1, .box 61 [.p 1 0, .r 20]), (20, .row 5 (byteY.d L)), (21, .sl (pvY.d B))], 22⟩)
      (fun (i, L) _ => 0 ≤ i ∧ i ≤ B.length ∧ L = HL ++ bodyUp B i.toNat) (fun (i, _) => ((B.length : Int) - i).toNat) (fun (_, _) => of_decide_eq_true rfl) (0, strL defB8 ++ strL nm) [(21, some 5), (20, some 4)] (.of rfl rfl rfl rfl rfl rfl) ⟨by omega, by omega, by rw [hHL]; simp [headL, parL, bodyUp]⟩ ?_
    rintro ⟨i, L⟩ u8 hu8 ⟨g1, g2, g3⟩
    have hlen : L.length = HL.length + (bodyUp B i.toNat).length := by
      rw [g3, List.length_append]
    refine x_vc tt_ok ?_
    refine x_if (fun h4 => ?_) (fun h4 => ?_)
    · have h5 : i < B.length := of_decide_eq_true h4
      have hle2 := bodyUp_le B (show i.toNat + 1 ≤ B.length by omega)
      have hst : bodyUp B (i + 1).toNat = bodyUp B i.toNat ++ ptL i.toNat (B.getD i.toNat pv0) := by
        rw [show (i + 1).toNat = i.toNat + 1 by omega, bodyUp]
      rw [bodyUp, List.length_append, ptL, List.length_append, strL_len] at hle2
      repeat (refine And.intro ?_ ?_; first | omega | (simp only [Lay.d_n]; omega) | (simp only [decide_eq_true_eq, decide_eq_false_iff_not, Bool.or_eq_false_iff, Bool.and_eq_true, Bool.or_eq_true, Bool.and_eq_false_iff, Bool.not_eq_true', Bool.not_eq_false', Lay.d_n]; omega) | (simp only [decide_eq_true_eq, decide_eq_false_iff_not, Bool.or_eq_false_iff, Bool.and_eq_true, Bool.or_eq_true, Bool.and_eq_false_iff, Bool.not_eq_true', Bool.not_eq_false']; omega) | (simp only [decide_eq_true_eq, decide_eq_false_iff_not, Bool.or_eq_false_iff]; simp only [Lay.d_n]; omega))
      refine x_if (fun h6 => ?_) (fun h6 => ?_)
      · have h6' : (decide (i.toNat = 0) || (B.getD i.toNat pv0).space) = true := by
          have h6 : (decide (i = 0) || (B.getD i.toNat pv0).space) = true := h6
          rw [show decide (i.toNat = 0) = decide (i = 0) by (congr 1; exact propext ⟨fun h => by omega, fun h => by omega⟩)]; exact h6
        rw [if_pos h6', List.length_singleton] at hle2
        refine xl_callSC (writeByte_sc true L 32 (by omega)) (fun _ _ _ _ => trivial) trivial [1, 20] rfl rfl rfl rfl fn28 rfl rfl rfl rfl rfl rfl rfl (fun _ => rfl) (fun _ u9 hu9 _ => ?_)
        refine xl_go tt_ok ?_
        refine xl_callSC (writeString_sc true (L ++ [32]) (B.getD i.toNat pv0).text (by rw [List.length_append, List.length_singleton]; omega)) (fun _ _ _ _ => trivial) trivial [1, 23] rfl rfl rfl rfl fn30 rfl rfl rfl rfl rfl rfl rfl (fun _ => rfl) (fun _ u10 hu10 _ => ?_)
        refine xl_go tt_ok ?_
        repeat (refine And.intro ?_ ?_; first | omega | (simp only [Lay.d_n]; omega) | (simp only [decide_eq_true_eq, decide_eq_false_iff_not, Bool.or_eq_false_iff, Bool.and_eq_true, Bool.or_eq_true, Bool.and_eq_false_iff, Bool.not_eq_true', Bool.not_eq_false', Lay.d_n]; omega) | (simp only [decide_eq_true_eq, decide_eq_false_iff_not, Bool.or_eq_false_iff, Bool.and_eq_true, Bool.or_eq_true, Bool.and_eq_false_iff, Bool.not_eq_true', Bool.not_eq_false']; omega) | (simp only [decide_eq_true_eq, decide_eq_false_iff_not, Bool.or_eq_false_iff]; simp only [Lay.d_n]; omega))
        exact again (i + 1, _) [(20, some 24)] (.of rfl rfl rfl rfl rfl rfl) ⟨by omega, by omega, by rw [hst, g3, ptL, if_pos h6']; simp [strL]⟩ (by simp only; omega)
      · have h6' : (decide (i.toNat = 0) || (B.getD i.toNat pv0).space) = false := by
          have h6 : (decide (i = 0) || (B.getD i.toNat pv0).space) = false := h6
          rw [show decide (i.toNat = 0) = decide (i = 0) by (congr 1; exact propext ⟨fun h => by omega, fun h => by omega⟩)]; exact h6
        rw [if_neg (by rw [h6']; simp)] at hle2
        refine xl_callSC (writeString_sc true L (B.getD i.toNat pv0).text (by simp only [List.length_nil] at hle2; omega)) (fun _ _ _ _ => trivial) trivial [1, 20] rfl rfl rfl rfl fn30 rfl rfl rfl rfl rfl rfl rfl (fun _ => rfl) (fun _ u10 hu10 _ => ?_)
        refine xl_go tt_ok ?_
        repeat (refine And.intro ?_ ?_; first | omega | (simp only [Lay.d_n]; omega) | (simp only [decide_eq_true_eq, decide_eq_false_iff_not, Bool.or_eq_false_iff, Bool.and_eq_true, Bool.or_eq_true, Bool.and_eq_false_iff, Bool.not_eq_true', Bool.not_eq_false', Lay.d_n]; omega) | (simp only [decide_eq_true_eq, decide_eq_false_iff_not, Bool.or_eq_false_iff, Bool.and_eq_true, Bool.or_eq_true, Bool.and_eq_false_iff, Bool.not_eq_true', Bool.not_eq_false']; omega) | (simp only [decide_eq_true_eq, decide_eq_false_iff_not, Bool.or_eq_false_iff]; simp only [Lay.d_n]; omega))
        exact again (i + 1, _) [(20, some 23)] (.of rfl rfl rfl rfl rfl rfl) ⟨by omega, by omega, by rw [hst, g3, ptL, if_neg (by rw [h6']; simp)]; simp [strL]⟩ (by simp only; omega)
    · have h5 : ¬ i < B.length := of_decide_eq_false h4
      have hi : i.toNat = B.length := by omega
      rw [hi] at g3 hlen
      refine xl_callSC (writeByte_sc true L 10 (by omega)) (fun _ _ _ _ => trivial) trivial [1, 20] rfl rfl rfl rfl fn28 rfl rfl rfl rfl rfl rfl rfl (fun _ => rfl) (fun _ u9 hu9 _ => ?_)
      refine xl_go tt_ok ?_
      refine xl_callSC (string_sc true (L ++ [10]) (by simp)) (fun _ _ _ _ => trivial) trivial [1, 22] rfl rfl rfl rfl fn32 rfl rfl rfl rfl rfl rfl rfl (fun _ => rfl) (fun _ u10 hu10 _ => ?_)
      refine xl_go tt_ok ?_
      refine fin1 (fun _ _ => ?_)
      rw [hLine, ← g3]; rfl
end Go.Proofs.YtnjmkeijjapejaaGreat
namespace Go.GV
open Go.RowKit
theorem x_slCell {C : Cx} {cc : Code} {Q : Post} {kn : Kn} {gk : List (Nat × (Gd × SV))} {ow : Own} {nx : Nat} {u : Im} (k : Nat) {x : Value} {D : Data} {t : Nat} (cs ds : List SV) (hk : look ow k = some (.box t (cs ++ .v x :: ds))) (hx : SlAt u x D)
    (h : X C cc Q ⟨kn, gk, (nx, .sl D) :: (k, .box t (cs ++ .r nx :: ds)) :: ow, nx + 1⟩ u) : X C cc Q ⟨kn, gk, ow, nx⟩ u := by
  unfold X at h ⊢
  intro E a w hok
  obtain ⟨f, hsat⟩ := hok.sat
  have hE : ∀ k, k < nx → upd E nx x k = E k := fun k hk => upd_other _ _ (by omega)
  have hs1 : Sat (upd E nx x) ((nx, .sl D) :: ow) (nx + 1) u a.defers w (upd f nx (fun _ => False)) := by
    refine hsat.step (fun k => k = nx) hE (Nat.le_succ _) (Im.le.refl u) hsat.imm (Nat.le_refl _) (fun b _ _ => rfl) ?_ ?_ ?_ (fun b o ho => .inl ho)
    · intro k hk
      exact ⟨by rw [look_cons, if_neg (fun e => hk e.symm)], fun b => by rw [upd_other _ _ hk]⟩
    · rintro k rfl
      refine ⟨fun r hr => ?_, fun hr => ?_, fun b hb => ?_⟩
      · rw [look_cons, if_pos rfl] at hr
        cases hr
        refine ⟨⟨by rw [upd_same]; exact hx, fun y hy => by rw [upd_same] at hy; exact hy⟩, Nat.lt_succ_self _, trivial⟩
      · rw [look_cons, if_pos rfl] at hr; cases hr
      · rw [upd_same] at hb; exact hb.elim
    · intro k k' b hk hk' hne; subst hk hk'; exact absurd rfl hne
  obtain ⟨A, c, hv⟩ := hx.form
  have hkl : k < nx := (hsat.lt k _ hk).1
  have hkn : k ≠ nx := by omega
  have hold := hs1.holds k (.box t (cs ++ .v x :: ds)) (by rw [look_cons, if_neg (fun e1 => hkn e1.symm)]; exact hk)
  have hltold := (hsat.lt k _ hk).2
  have hs2 : Sat (upd E nx x) ((nx, .sl D) :: (k, .box t (cs ++ .r nx :: ds)) :: ow) (nx + 1) u a.defers w (upd f nx (fun _ => False)) := by
    refine ⟨fun j r hl => ?_, fun j hl b hb => ?_, hs1.apart, hs1.off, fun j r hl => ?_, hs1.imm, hs1.marks⟩
    · rw [look_cons] at hl
      split at hl
      · rename_i e1; exact hs1.holds j r (by rw [look_cons, if_pos e1]; exact hl)
      · rename_i e1
        rw [look_cons] at hl
        split at hl
        · rename_i e2
          subst e2
          cases hl
          obtain ⟨b, q1, q2, q3⟩ := hold
          refine ⟨b, q1, q2, ?_⟩
          rw [q3]
          simp [SV.den, upd_same]
        · exact hs1.holds j r (by rw [look_cons, if_neg e1]; exact hl)
    · refine hs1.non j ?_ b hb
      rw [look_cons] at hl ⊢
      split at hl
      · cases hl
      · rename_i e1
        rw [if_neg e1]
        rw [look_cons] at hl
        split at hl
        · cases hl
        · exact hl
    · rw [look_cons] at hl
      split at hl
      · rename_i e1; exact hs1.lt j r (by rw [look_cons, if_pos e1]; exact hl)
      · rename_i e1
        rw [look_cons] at hl
        split at hl
        · rename_i e2
          subst e2
          cases hl
          refine ⟨by omega, fun y hy => ?_⟩
          have hy' := List.mem_append.1 hy
          rcases hy' with hy' | hy'
          · exact SV.lt_mono hE (Nat.le_succ _) (hltold y (List.mem_append_left _ hy'))
          · rcases List.mem_cons.1 hy' with rfl | hy'
            · exact ⟨Nat.lt_succ_self _, A, D.n, c, by rw [upd_same]; exact hv⟩
            · exact SV.lt_mono hE (Nat.le_succ _) (hltold y (List.mem_append_right _ (List.mem_cons_of_mem _ hy')))
        · exact hs1.lt j r (by rw [look_cons, if_neg e1]; exact hl)
  have hg := hok.agr.grow (E' := upd E nx x) (ow := (nx, .sl D) :: (k, .box t (cs ++ .r nx :: ds)) :: ow) (nx := nx + 1) hE (Nat.le_succ _)
  have := h (upd E nx x) a w ⟨hg, _, hs2⟩
  exact Go.wpIn_mono this fun e a w => SemQ.mono hE (Nat.le_succ _) (Im.le.refl u)
theorem xd_min {C : Cx} {all : List Oper} {o : Oper} {r : List Oper} {Q : St → Prop} {st : St} {u : Im} {d : Nat} {x y : Operand} {ts : Array TypeId} {k k' : IntKind} {m n : Int} (q : Int) (hq : (if n < m then n else m) = q)
    (ho : o.op = .call { callee := .builtin .min, args := #[x, y], argTypes := ts }) (hgd : o.guard = none) (hd : o.dst = some d) (hfr : fresh C.N st d [] = true)
    (hx : opd st [] x = some (.v (.int k m))) (hy : opd st [] y = some (.v (.int k' n)))
    (K : XD C all r Q (st.put d [] (.v (.int k q))) u) : XD C all (o :: r) Q st u := by
  subst hq
  refine xd_sv (.v (.int k (if n < m then n else m))) hgd hd (fun c' hc' => by rw [ho] at hc'; cases hc') hfr (fun E a w hok => ?_) K
  have hgs : gs a.tmps [] := fun x hx => by cases hx
  obtain ⟨e1, _⟩ := opd_sound hok.agr hgs hx
  obtain ⟨e2, _⟩ := opd_sound hok.agr hgs hy
  simp only [SV.den] at e1 e2
  have hm := run_min_int2 (P := C.P) (w := w) ts o.type k k' m n
  refine ⟨?_, trivial⟩
  simp only [execOp, ho, resolve]
  simp [invoke, builtin, e1, e2, hm, SV.den]
end Go.GV
namespace Go.Proofs.YtnjmkeijjapejaaGreat
open Go.GV Go.RowKit
theorem strL_app (a b : ByteArray) : strL (a ++ b) = strL a ++ strL b := by
  unfold strL
  rw [ByteArray.data_append, Array.toList_append]
theorem strL_inj {a b : ByteArray} (h : strL a = strL b) : a = b := by
  cases a; cases b
  congr 1
  exact Array.toList_inj.1 h
def joinUp (ps : List ByteArray) : Nat → List UInt8
  | 0 => []
  | i + 1 => joinUp ps i ++ (if 0 < i then [44] else []) ++ strL (ps.getD i ⟨#[]⟩)
theorem joinTail_snoc (sep : List UInt8) (r : List (List UInt8)) (x : List UInt8) : Lib.joinTail sep (r ++ [x]) = Lib.joinTail sep r ++ (sep ++ x) := by
  unfold Lib.joinTail
  simp
theorem joinUp_take (ps : List ByteArray) : ∀ i, i ≤ ps.length → joinUp ps i = Lib.join ((ps.take i).map (·.data.toList)) [44]
  | 0, _ => rfl
  | i + 1, h => by
    have ih := joinUp_take ps i (by omega)
    have e : ps.take (i + 1) = ps.take i ++ [ps.getD i ⟨#[]⟩] := by
      rw [List.take_succ_eq_append_getElem (by omega), List.getD_eq_getElem?_getD, List.getElem?_eq_getElem (by omega)]; rfl
    rw [joinUp, ih, e, List.map_append, List.map_singleton]
    cases hp : ps.take i with
    | nil =>
      have h0 : i = 0 := by
        have := congrArg List.length hp
        rw [List.length_take, List.length_nil] at this; omega
      subst h0
      rw [List.map_nil, List.nil_append, Lib.join_one, if_neg (by omega)]
      rfl
    | cons x r =>
      have h0 : 0 < i := by
        have := congrArg List.length hp
        rw [List.length_take, List.length_cons] at this; omega
      rw [if_pos h0, List.map_cons, List.cons_append, Lib.join_cons, Lib.join_cons, joinTail_snoc]
      simp [strL]
theorem joinUp_all (ps : List ByteArray) : joinUp ps ps.length = strL (joinT ps comB) := by
  rw [joinUp_take ps _ (Nat.le_refl _), List.take_length]
  rfl
theorem joinUp_le (ps : List ByteArray) : ∀ {i j : Nat}, i ≤ j → (joinUp ps i).length ≤ (joinUp ps j).length := by
  intro i j h
  induction h with
  | refl => exact Nat.le_refl _
  | step _ ih => rw [joinUp, List.length_append, List.length_append]; omega
set_option maxHeartbeats 2000000 in
set_option maxRecDepth 100000 in
theorem refLine_any (m : MT) (s : MA) (w : World) (hp : SlAt (im w) (.slice s.1 m.ps.length s.2.1) (strY.d m.ps)) (hb : SlAt (im w) (.slice s.2.2.1 m.body.length s.2.2.2) (pvY.d m.body))
    (hz : (lineL m).length ≤ 140737488355328) : Calls Tryz.prog 18 #[mVal m s] w (PureP w fun v _ => v = .string (lineT m)) := by
  have z1 : 8 + m.name.size + (parL m).length + (bodyUp m.body m.body.length).length + 1 ≤ 140737488355328 := by
    have := hz
    unfold lineL headL at this
    simp only [List.length_append, strL_len, List.length_singleton] at this
    rw [show defB8.size = 8 by rfl] at this
    omega
  have hfin : ∀ b : ByteArray, strL b = headL m ++ bodyUp m.body m.body.length → b ++ ⟨#[10]⟩ = lineT m := fun b hb => by
    apply strL_inj
    rw [strL_app, hb]
    rfl
  have hhl : (headL m).length = 8 + m.name.size + (parL m).length := by
    unfold headL
    rw [List.length_append, List.length_append, strL_len, strL_len]
    rfl
  obtain ⟨nm, fn, ps, va, B⟩ := m
  simp only at hp hb z1 hfin hhl
  have hBn : B.length ≤ 9223372036854775807 := by
    obtain ⟨_, _, _, k2, k3, _⟩ := hb
    exact Nat.le_trans k2 k3
  have hPn : ps.length ≤ 9223372036854775807 := by
    obtain ⟨_, _, _, k2, k3, _⟩ := hp
    exact Nat.le_trans k2 k3
  refine x_fun tt_ok Tryz.func18 rfl rfl [] 0 [.v (mVal ⟨nm, fn, ps, va, B⟩ s)] rfl rfl rfl rfl (fun b hb => by cases hb) ?_
  refine x_seq ?_
  refine x_vc tt_ok ?_
  refine x_slCell 0 [.v (.string nm), .v (.bool fn)] [.v (.bool va), .v (.slice s.2.2.1 B.length s.2.2.2)] rfl hp ?_
  refine x_slCell 0 [.v (.string nm), .v (.bool fn), .r 1, .v (.bool va)] [] rfl hb ?_
  refine x_seq ?_
  refine x_vc tt_ok ?_
  refine And.intro (by show 8 + nm.size ≤ _; omega) ?_
  refine x_cut (σ := ByteArray) (fun b => ⟨[(3, .v (.string b)), (1, .p 0 0)], [], [(0, .box 25 [.v (.string nm), .v (.bool fn), .r 1, .v (.bool va), .r 2]), (1, .sl (strY.d ps)), (2, .sl (pvY.d B))], 3⟩)
    (fun b _ => strL b = headL ⟨nm, fn, ps, va, B⟩) (fun _ => Nat.le_refl 3) ?_ ?_
  · refine x_vc tt_ok ?_
    refine x_if (fun h => ?_) (fun h => ?_)
    · have h : fn = true := h
      subst h
      have zpl : (parL ⟨nm, true, ps, va, B⟩).length = 1 + (joinUp ps ps.length).length + (parB ⟨nm, true, ps, va, B⟩).length + (parC ⟨nm, true, ps, va, B⟩).length + 1 := by
        rw [joinUp_all]; unfold parL parA; simp only [if_true, List.length_append, strL_len, List.length_singleton]
      have hd8 : strL (⟨#[35, 100, 101, 102, 105, 110, 101, 32]⟩ : ByteArray) = strL defB8 := rfl
      obtain ⟨P0, hP0⟩ : ∃ x, x = strL defB8 ++ strL nm := ⟨_, rfl⟩
      have zP0 : P0.length = 8 + nm.size := by rw [hP0, List.length_append, strL_len, strL_len]; rfl
      have hsz : ∀ b : ByteArray, b.size = (strL b).length := fun b => (strL_len b).symm
      refine And.intro (by rw [ByteArray.size_append]; show 8 + nm.size + 1 ≤ _; omega) ?_
      refine x_loop (σ := Int × ByteArray) (fun (i, b) => ⟨[(4, .v (.int .i64 i)), (3, .v (.string b)), (1, .p 0 0)], [], [(0, .box 25 [.v (.string nm), .v (.bool true), .r 1, .v (.bool va), .r 2]), (1, .sl (strY.d ps)), (2, .sl (pvY.d B))], 3⟩)
        (fun (i, b) _ => 0 ≤ i ∧ i ≤ ps.length ∧ strL b = P0 ++ [40] ++ joinUp ps i.toNat) (fun (i, _) => ((ps.length : Int) - i).toNat) (fun (_, _) => Nat.le_refl 3) (0, _) [] (.of rfl rfl rfl rfl rfl rfl) ⟨by omega, by omega, ?_⟩ ?_
      · rw [strL_app, strL_app, hP0, hd8]
        show _ = strL defB8 ++ strL nm ++ [40] ++ []
        rw [List.append_nil]
        rfl
      rintro ⟨i, b⟩ u hu ⟨g1, g2, g3⟩
      have hlb : b.size = P0.length + 1 + (joinUp ps i.toNat).length := by rw [hsz, g3, List.length_append, List.length_append]; rfl
      have hle := joinUp_le ps (show i.toNat ≤ ps.length by omega)
      refine x_vc tt_ok ?_
      refine x_if (fun h => ?_) (fun h => ?_)
      · have h : i < ps.length := of_decide_eq_true h
        have hle2 := joinUp_le ps (show i.toNat + 1 ≤ ps.length by omega)
        have hst : joinUp ps (i + 1).toNat = joinUp ps i.toNat ++ (if 0 < i.toNat then [44] else []) ++ strL (ps.getD i.toNat ⟨#[]⟩) := by
          rw [show (i + 1).toNat = i.toNat + 1 by omega, joinUp]
        rw [show i.toNat + 1 = (i + 1).toNat by omega, hst, List.length_append, List.length_append, strL_len] at hle2
        refine x_if (fun h1 => ?_) (fun h1 => ?_)
        · have h1 : 0 < i := of_decide_eq_true h1
          rw [if_pos (by omega)] at hst hle2
          refine And.intro (by show b.size + 1 ≤ _; omega) ?_
          repeat (refine And.intro ?_ ?_; first | omega | (simp only [Lay.d_n]; omega) | (simp only [decide_eq_true_eq, decide_eq_false_iff_not, Bool.or_eq_false_iff, Bool.and_eq_true, Bool.or_eq_true, Bool.and_eq_false_iff, Bool.not_eq_true', Bool.not_eq_false', Lay.d_n]; omega) | (simp only [decide_eq_true_eq, decide_eq_false_iff_not, Bool.or_eq_false_iff, Bool.and_eq_true, Bool.or_eq_true, Bool.and_eq_false_iff, Bool.not_eq_true', Bool.not_eq_false']; omega) | (simp only [decide_eq_true_eq, decide_eq_false_iff_not, Bool.or_eq_false_iff]; simp only [Lay.d_n]; omega))
          refine And.intro (by rw [ByteArray.size_append]; show b.size + 1 + (ps.getD i.toNat ⟨#[]⟩).size ≤ _; simp only [List.length_singleton] at hle2; omega) ?_
          repeat (refine And.intro ?_ ?_; first | omega | (simp only [Lay.d_n]; omega) | (simp only [decide_eq_true_eq, decide_eq_false_iff_not, Bool.or_eq_false_iff, Bool.and_eq_true, Bool.or_eq_true, Bool.and_eq_false_iff, Bool.not_eq_true', Bool.not_eq_false', Lay.d_n]; omega) | (simp only [decide_eq_true_eq, decide_eq_false_iff_not, Bool.or_eq_false_iff, Bool.and_eq_true, Bool.or_eq_true, Bool.and_eq_false_iff, Bool.not_eq_true', Bool.not_eq_false']; omega) | (simp only [decide_eq_true_eq, decide_eq_false_iff_not, Bool.or_eq_false_iff]; simp only [Lay.d_n]; omega))
          refine again (i + 1, _) [] (.of rfl rfl rfl rfl rfl rfl) ⟨by omega, by omega, ?_⟩ (by simp only; omega)
          rw [hst, strL_app, strL_app, g3]
          simp only [List.append_assoc]
          rfl
        · have h1 : ¬ 0 < i := of_decide_eq_false h1
          rw [if_neg (by omega)] at hst hle2
          repeat (refine And.intro ?_ ?_; first | omega | (simp only [Lay.d_n]; omega) | (simp only [decide_eq_true_eq, decide_eq_false_iff_not, Bool.or_eq_false_iff, Bool.and_eq_true, Bool.or_eq_true, Bool.and_eq_false_iff, Bool.not_eq_true', Bool.not_eq_false', Lay.d_n]; omega) | (simp only [decide_eq_true_eq, decide_eq_false_iff_not, Bool.or_eq_false_iff, Bool.and_eq_true, Bool.or_eq_true, Bool.and_eq_false_iff, Bool.not_eq_true', Bool.not_eq_false']; omega) | (simp only [decide_eq_true_eq, decide_eq_false_iff_not, Bool.or_eq_false_iff]; simp only [Lay.d_n]; omega))
          refine And.intro (by show b.size + (ps.getD i.toNat ⟨#[]⟩).size ≤ _; simp only [List.length_nil] at hle2; omega) ?_
          repeat (refine And.intro ?_ ?_; first | omega | (simp only [Lay.d_n]; omega) | (simp only [decide_eq_true_eq, decide_eq_false_iff_not, Bool.or_eq_false_iff, Bool.and_eq_true, Bool.or_eq_true, Bool.and_eq_false_iff, Bool.not_eq_true', Bool.not_eq_false', Lay.d_n]; omega) | (simp only [decide_eq_true_eq, decide_eq_false_iff_not, Bool.or_eq_false_iff, Bool.and_eq_true, Bool.or_eq_true, Bool.and_eq_false_iff, Bool.not_eq_true', Bool.not_eq_false']; omega) | (simp only [decide_eq_true_eq, decide_eq_false_iff_not, Bool.or_eq_false_iff]; simp only [Lay.d_n]; omega))
          refine again (i + 1, _) [] (.of rfl rfl rfl rfl rfl rfl) ⟨by omega, by omega, ?_⟩ (by simp only; omega)
          rw [hst, strL_app, g3]
          simp only [List.append_assoc, List.nil_append]
          rfl
      · have h : ¬ i < ps.length := of_decide_eq_false h
        rw [show i.toNat = ps.length by omega] at g3 hlb
        have hHL2 : headL ⟨nm, true, ps, va, B⟩ = P0 ++ [40] ++ joinUp ps ps.length ++ parB ⟨nm, true, ps, va, B⟩ ++ parC ⟨nm, true, ps, va, B⟩ ++ [41] := by
          rw [hP0, joinUp_all, headL, parL, if_pos rfl, parA]; simp
        refine x_if (fun h1 => ?_) (fun h1 => ?_)
        · have h1 : (va && decide ((0 : Int) < ps.length)) = true := h1
          rw [Bool.and_eq_true, decide_eq_true_eq] at h1
          obtain ⟨hv, hl⟩ := h1
          subst hv
          have hB : parB ⟨nm, true, ps, true, B⟩ = [44] := by unfold parB; rw [if_pos (by simp; omega)]
          have hC : parC ⟨nm, true, ps, true, B⟩ = strL dotB := rfl
          rw [hB, hC] at hHL2 zpl
          simp only [List.length_singleton, show (strL dotB).length = 3 by rfl] at zpl
          refine And.intro (by show b.size + 1 ≤ _; omega) ?_
          refine x_ift rfl ?_
          refine And.intro (by rw [ByteArray.size_append]; show b.size + 1 + 3 ≤ _; omega) ?_
          refine And.intro (by rw [ByteArray.size_append, ByteArray.size_append]; show b.size + 1 + 3 + 1 ≤ _; omega) ?_
          refine meet _ [] (.of rfl rfl rfl rfl rfl rfl) ?_
          rw [strL_app, strL_app, strL_app, g3, hHL2]
          simp only [List.append_assoc]
          rfl
        · have h1 : (va && decide ((0 : Int) < ps.length)) = false := h1
          have hB : parB ⟨nm, true, ps, va, B⟩ = [] := by
            unfold parB
            simp only
            rw [if_neg]
            rw [show decide (0 < ps.length) = decide ((0 : Int) < ps.length) by simp, h1]
            simp
          rw [hB] at hHL2 zpl
          refine x_if (fun h2 => ?_) (fun h2 => ?_)
          · have h2 : va = true := h2
            subst h2
            have hC : parC ⟨nm, true, ps, true, B⟩ = strL dotB := rfl
            rw [hC] at hHL2 zpl
            simp only [List.length_nil, show (strL dotB).length = 3 by rfl] at zpl
            refine And.intro (by show b.size + 3 ≤ _; omega) ?_
            refine And.intro (by rw [ByteArray.size_append]; show b.size + 3 + 1 ≤ _; omega) ?_
            refine meet _ [] (.of rfl rfl rfl rfl rfl rfl) ?_
            rw [strL_app, strL_app, g3, hHL2]
            simp only [List.append_assoc, List.nil_append]
            rfl
          · have h2 : va = false := h2
            subst h2
            have hC : parC ⟨nm, true, ps, false, B⟩ = [] := rfl
            rw [hC] at hHL2 zpl
            refine And.intro (by show b.size + 1 ≤ _; simp only [List.length_nil] at zpl; omega) ?_
            refine meet _ [] (.of rfl rfl rfl rfl rfl rfl) ?_
            rw [strL_app, g3, hHL2]
            simp only [List.append_assoc, List.nil_append]
            rfl
    · have h : fn = false := h
      subst h
      refine meet _ [] (.of rfl rfl rfl rfl rfl rfl) ?_
      rw [strL_app]
      unfold headL parL
      simp only [Bool.false_eq_true, if_false, List.append_nil]
      rfl
  · intro b0 u hu hb0
    replace hb0 : strL b0 = headL ⟨nm, fn, ps, va, B⟩ := hb0
    refine x_vc tt_ok ?_
    refine x_loop (σ := Int × ByteArray) (fun (i, b) => ⟨[(5, .v (.int .i64 i)), (3, .v (.string b)), (1, .p 0 0)], [], [(0, .box 25 [.v (.string nm), .v (.bool fn), .r 1, .v (.bool va), .r 2]), (1, .sl (strY.d ps)), (2, .sl (pvY.d B))], 3⟩)
      (fun (i, b) _ => 0 ≤ i ∧ i ≤ B.length ∧ strL b = headL ⟨nm, fn, ps, va, B⟩ ++ bodyUp B i.toNat) (fun (i, _) => ((B.length : Int) - i).toNat) (fun (_, _) => Nat.le_refl 3) (0, b0) [] (.of rfl rfl rfl rfl rfl rfl) ⟨by omega, by omega, by rw [hb0]; simp [bodyUp]⟩ ?_
    rintro ⟨i, b⟩ u2 hu2 ⟨g1, g2, g3⟩
    have hlb : b.size = (headL ⟨nm, fn, ps, va, B⟩).length + (bodyUp B i.toNat).length := by rw [← strL_len, g3, List.length_append]
    have hle := bodyUp_le B (show i.toNat ≤ B.length by omega)
    refine x_vc tt_ok ?_
    refine x_if (fun h => ?_) (fun h => ?_)
    · have h : i < B.length := of_decide_eq_true h
      have hle2 := bodyUp_le B (show i.toNat + 1 ≤ B.length by omega)
      have hst : bodyUp B (i + 1).toNat = bodyUp B i.toNat ++ ptL i.toNat (B.getD i.toNat pv0) := by
        rw [show (i + 1).toNat = i.toNat + 1 by omega, bodyUp]
      rw [show i.toNat + 1 = (i + 1).toNat by omega, hst, List.length_append] at hle2
      repeat (refine And.intro ?_ ?_; first | omega | (simp only [Lay.d_n]; omega) | (simp only [decide_eq_true_eq, decide_eq_false_iff_not, Bool.or_eq_false_iff, Bool.and_eq_true, Bool.or_eq_true, Bool.and_eq_false_iff, Bool.not_eq_true', Bool.not_eq_false', Lay.d_n]; omega) | (simp only [decide_eq_true_eq, decide_eq_false_iff_not, Bool.or_eq_false_iff, Bool.and_eq_true, Bool.or_eq_true, Bool.and_eq_false_iff, Bool.not_eq_true', Bool.not_eq_false']; omega) | (simp only [decide_eq_true_eq, decide_eq_false_iff_not, Bool.or_eq_false_iff]; simp only [Lay.d_n]; omega))
      refine x_if (fun h1 => ?_) (fun h1 => ?_)
      · have h1 : (decide (i = 0) || (B.getD i.toNat pv0).space) = true := h1
        have hpt : ptL i.toNat (B.getD i.toNat pv0) = [32] ++ strL (B.getD i.toNat pv0).text := by
          unfold ptL
          rw [if_pos]
          rw [Bool.or_eq_true, decide_eq_true_eq] at h1 ⊢
          rcases h1 with h1 | h1
          · exact .inl (by omega)
          · exact .inr h1
        rw [hpt] at hst hle2
        rw [List.length_append, strL_len, List.length_singleton] at hle2
        refine And.intro (by show b.size + 1 ≤ _; omega) ?_
        repeat (refine And.intro ?_ ?_; first | omega | (simp only [Lay.d_n]; omega) | (simp only [decide_eq_true_eq, decide_eq_false_iff_not, Bool.or_eq_false_iff, Bool.and_eq_true, Bool.or_eq_true, Bool.and_eq_false_iff, Bool.not_eq_true', Bool.not_eq_false', Lay.d_n]; omega) | (simp only [decide_eq_true_eq, decide_eq_false_iff_not, Bool.or_eq_false_iff, Bool.and_eq_true, Bool.or_eq_true, Bool.and_eq_false_iff, Bool.not_eq_true', Bool.not_eq_false']; omega) | (simp only [decide_eq_true_eq, decide_eq_false_iff_not, Bool.or_eq_false_iff]; simp only [Lay.d_n]; omega))
        refine And.intro (by rw [ByteArray.size_append]; show b.size + 1 + (B.getD i.toNat pv0).text.size ≤ _; omega) ?_
        repeat (refine And.intro ?_ ?_; first | omega | (simp only [Lay.d_n]; omega) | (simp only [decide_eq_true_eq, decide_eq_false_iff_not, Bool.or_eq_false_iff, Bool.and_eq_true, Bool.or_eq_true, Bool.and_eq_false_iff, Bool.not_eq_true', Bool.not_eq_false', Lay.d_n]; omega) | (simp only [decide_eq_true_eq, decide_eq_false_iff_not, Bool.or_eq_false_iff, Bool.and_eq_true, Bool.or_eq_true, Bool.and_eq_false_iff, Bool.not_eq_true', Bool.not_eq_false']; omega) | (simp only [decide_eq_true_eq, decide_eq_false_iff_not, Bool.or_eq_false_iff]; simp only [Lay.d_n]; omega))
        refine again (i + 1, _) [] (.of rfl rfl rfl rfl rfl rfl) ⟨by omega, by omega, ?_⟩ (by simp only; omega)
        rw [hst, strL_app, strL_app, g3]
        simp only [List.append_assoc]
        rfl
      · have h1 : (decide (i = 0) || (B.getD i.toNat pv0).space) = false := h1
        have hpt : ptL i.toNat (B.getD i.toNat pv0) = strL (B.getD i.toNat pv0).text := by
          unfold ptL
          rw [if_neg]
          · rfl
          · rw [Bool.or_eq_false_iff, decide_eq_false_iff_not] at h1
            rw [Bool.or_eq_true, decide_eq_true_eq]
            rintro (h2 | h2)
            · omega
            · rw [h1.2] at h2; cases h2
        rw [hpt] at hst hle2
        rw [strL_len] at hle2
        repeat (refine And.intro ?_ ?_; first | omega | (simp only [Lay.d_n]; omega) | (simp only [decide_eq_true_eq, decide_eq_false_iff_not, Bool.or_eq_false_iff, Bool.and_eq_true, Bool.or_eq_true, Bool.and_eq_false_iff, Bool.not_eq_true', Bool.not_eq_false', Lay.d_n]; omega) | (simp only [decide_eq_true_eq, decide_eq_false_iff_not, Bool.or_eq_false_iff, Bool.and_eq_true, Bool.or_eq_true, Bool.and_eq_false_iff, Bool.not_eq_true', Bool.not_eq_false']; omega) | (simp only [decide_eq_true_eq, decide_eq_false_iff_not, Bool.or_eq_false_iff]; simp only [Lay.d_n]; omega))
        refine And.intro (by show b.size + (B.getD i.toNat pv0).text.size ≤ _; omega) ?_
        repeat (refine And.intro ?_ ?_; first | omega | (simp only [Lay.d_n]; omega) | (simp only [decide_eq_true_eq, decide_eq_false_iff_not, Bool.or_eq_false_iff, Bool.and_eq_true, Bool.or_eq_true, Bool.and_eq_false_iff, Bool.not_eq_true', Bool.not_eq_false', Lay.d_n]; omega) | (simp only [decide_eq_true_eq, decide_eq_false_iff_not, Bool.or_eq_false_iff, Bool.and_eq_true, Bool.or_eq_true, Bool.and_eq_false_iff, Bool.not_eq_true', Bool.not_eq_false']; omega) | (simp only [decide_eq_true_eq, decide_eq_false_iff_not, Bool.or_eq_false_iff]; simp only [Lay.d_n]; omega))
        refine again (i + 1, _) [] (.of rfl rfl rfl rfl rfl rfl) ⟨by omega, by omega, ?_⟩ (by simp only; omega)
        rw [hst, strL_app, g3]
        simp only [List.append_assoc]
        rfl
    · have h : ¬ i < B.length := of_decide_eq_false h
      rw [show i.toNat = B.length by omega] at g3 hlb
      refine And.intro (by show b.size + 1 ≤ _; omega) ?_
      exact fin1 (fun _ _ => by show Value.string (b ++ _) = _; rw [← hfin b g3])
end Go.Proofs.YtnjmkeijjapejaaGreat
namespace Go.Proofs.YtnjmkeijjapejaaGreat
open Go.GV Go.RowKit
def byteAt (s : ByteArray) (i : Int) : UInt8 := s.data.toList.getD i.toNat 0
def spellAt (s : ByteArray) (i : Int) : List UInt8 := byteAt s i :: (if parted s i = true then [92, 10] else [])
def spellUp (s : ByteArray) : Nat → List UInt8
  | 0 => []
  | k + 1 => spellUp s k ++ spellAt s k
theorem spellUp_len (s : ByteArray) : ∀ k, k ≤ (spellUp s k).length ∧ (spellUp s k).length ≤ 3 * k
  | 0 => ⟨Nat.le_refl _, Nat.le_refl _⟩
  | k + 1 => by
    obtain ⟨h1, h2⟩ := spellUp_len s k
    have h3 : 1 ≤ (spellAt s k).length ∧ (spellAt s k).length ≤ 3 := by
      unfold spellAt
      split <;> simp
    simp only [spellUp, List.length_append]
    omega
theorem spellUp_succ (s : ByteArray) {i : Int} (h : 0 ≤ i) : spellUp s (i + 1).toNat = spellUp s i.toNat ++ spellAt s i := by
  have e : (i + 1).toNat = i.toNat + 1 := by omega
  rw [e]
  simp only [spellUp]
  congr 2
  omega
def ends (s : ByteArray) : Bool := decide (s = ⟨#[]⟩) || decide (bt s ((s.size : Int) - 1) = 10)
def spellS (s : ByteArray) : ByteArray :=
  if 65536 < s.size then ⟨#[]⟩ else if ends s = false then ⟨#[]⟩ else if 65536 < (spellUp s s.size).length then ⟨#[]⟩ else ⟨(spellUp s s.size).toArray⟩
def spellE (s : ByteArray) : Int :=
  if 65536 < s.size then 3 else if ends s = false then 10 else if 65536 < (spellUp s s.size).length then 3 else 0
theorem size_empty {s : ByteArray} : s = ⟨#[]⟩ ↔ s.size = 0 := ByteArray.size_eq_zero_iff.symm
set_option maxRecDepth 100000 in
theorem spell_any (s : ByteArray) (w : World) (hs : s.size ≤ 9223372036854775807) : Calls Tryz.prog 11 #[.string s] w (PureP w fun v _ => v = .tuple #[.string (spellS s), .int .i64 (spellE s)]) := by
  refine x_fun tt_ok Tryz.func11 rfl rfl [] 0 [.v (.string s)] rfl rfl rfl rfl (fun b hb => by cases hb) ?_
  refine x_vc tt_ok ?_
  refine x_if (fun h => ?_) (fun h => ?_)
  · have h' : 65536 < (s.size : Int) := of_decide_eq_true h
    refine fin1 (fun _ _ => ?_)
    rw [show spellS s = ⟨#[]⟩ by unfold spellS; rw [if_pos (by omega)], show spellE s = 3 by unfold spellE; rw [if_pos (by omega)]]
    rfl
  have h' : ¬ 65536 < (s.size : Int) := of_decide_eq_false h
  have hn : ¬ 65536 < s.size := by omega
  have hse := @size_empty s
  repeat (refine And.intro ?_ ?_; first | omega | (simp only [Lay.d_n]; omega) | (simp only [decide_eq_true_eq, ne_eq, hse, decide_eq_false_iff_not, Bool.or_eq_false_iff, Bool.and_eq_true, Bool.or_eq_true, Bool.and_eq_false_iff, Bool.not_eq_true', Bool.not_eq_false']; omega))
  refine x_if (fun h2 => ?_) (fun h2 => ?_)
  · have h3 : (decide (s ≠ ⟨#[]⟩) && decide (bt s ((s.size : Int) - 1) ≠ 10)) = true := h2
    rw [Bool.and_eq_true, decide_eq_true_eq, decide_eq_true_eq] at h3
    have he : ends s = false := by unfold ends; rw [decide_eq_false h3.1, decide_eq_false h3.2]; rfl
    refine fin1 (fun _ _ => ?_)
    rw [show spellS s = ⟨#[]⟩ by unfold spellS; rw [if_neg hn, if_pos he], show spellE s = 10 by unfold spellE; rw [if_neg hn, if_pos he]]
    rfl
  have h3 : (decide (s ≠ ⟨#[]⟩) && decide (bt s ((s.size : Int) - 1) ≠ 10)) = false := h2
  have he : ends s = true := by
    rw [Bool.and_eq_false_iff, decide_eq_false_iff_not, decide_eq_false_iff_not, Classical.not_not, Classical.not_not] at h3
    unfold ends
    rcases h3 with h3 | h3
    · rw [decide_eq_true h3]; rfl
    · rw [decide_eq_true h3]; simp
  have hne : ¬ ends s = false := by rw [he]; simp
  by_cases h0 : s.size = 0
  · have hss : spellS s = ⟨#[]⟩ := by
      unfold spellS
      rw [if_neg hn, if_neg hne, h0, if_neg (show ¬ 65536 < (spellUp s 0).length from by simp [spellUp])]; rfl
    have hee : spellE s = 0 := by
      unfold spellE
      rw [if_neg hn, if_neg hne, h0, if_neg (show ¬ 65536 < (spellUp s 0).length from by simp [spellUp])]
    refine x_loop (σ := Unit) (fun _ => ⟨[(21, .v (.int .i64 0)), (20, .v (.int .i64 (s.size : Int))), (4, .p 0 0)], [], [(0, .box 61 [.v (.pointer none), .v (.slice none 0 0)])], 1⟩)
      (fun _ _ => True) (fun _ => 0) (fun _ => Nat.le_refl _) () [] (.of rfl rfl rfl rfl rfl rfl) trivial ?_
    rintro _ u hu _
    refine x_vc tt_ok ?_
    refine x_iff (by rw [h0]; rfl) ?_
    refine xl_callSC lenNil_sc (fun _ _ _ _ => trivial) trivial [0] rfl rfl rfl rfl fn31 rfl rfl rfl rfl rfl rfl rfl (fun _ => rfl) (fun _ u1 hu1 _ => ?_)
    refine xl_go tt_ok ?_
    refine x_iff rfl ?_
    refine xl_callSC stringNil_sc (fun _ _ _ _ => trivial) trivial [0] rfl rfl rfl rfl fn32 rfl rfl rfl rfl rfl rfl rfl (fun _ => rfl) (fun _ u2 hu2 _ => ?_)
    refine xl_go tt_ok ?_
    refine fin1 (fun _ _ => ?_)
    rw [hss, hee]; rfl
  · refine x_nilCell 0 5 byteY [.v (.pointer none)] [] rfl ?_
    refine x_loop (σ := Int × Bool × List UInt8) (fun (i, us, L) => ⟨[(21, .v (.int .i64 i)), (20, .v (.int .i64 (s.size : Int))), (4, .p 0 0), (0, .v (.string s))], [], [(0, .box 61 [bAddr us, .r 2]), (2, .row 5 (byteY.d L))], 3⟩)
      (fun (i, _, L) _ => 0 ≤ i ∧ i ≤ s.size ∧ L = spellUp s i.toNat) (fun (i, _, _) => ((s.size : Int) - i).toNat) (fun (_, _, _) => by simp only; omega) (0, false, []) [(2, some 1)] (.of rfl rfl rfl rfl rfl rfl) ⟨by omega, by omega, rfl⟩ ?_
    rintro ⟨i, us, L⟩ u hu ⟨g1, g2, g3⟩
    have hlen := spellUp_len s i.toNat
    rw [← g3] at hlen
    refine x_vc tt_ok ?_
    refine x_if (fun h4 => ?_) (fun h4 => ?_)
    · have h5 : i < s.size := of_decide_eq_true h4
      have hsu := spellUp_succ s g1
      rw [← g3] at hsu
      repeat (refine And.intro ?_ ?_; first | omega | (simp only [Lay.d_n]; omega) | (simp only [decide_eq_true_eq, decide_eq_false_iff_not, Bool.or_eq_false_iff, Bool.and_eq_true, Bool.or_eq_true, Bool.and_eq_false_iff, Bool.not_eq_true', Bool.not_eq_false']; omega))
      refine xl_callSC (writeByte_sc us L (byteAt s i) (by omega)) (fun _ _ _ _ => trivial) trivial [0, 2] rfl rfl rfl rfl fn28 rfl rfl rfl rfl rfl (by cases us <;> rfl) (by cases us <;> rfl) (fun _ => rfl) (fun _ u1 hu1 _ => ?_)
      refine xl_go tt_ok ?_
      refine xl_call0 (.bool (parted s i)) rfl rfl rfl rfl fn29 rfl rfl (fun E w F hs => parted_any s i w g1 h5 (by omega)) ?_
      refine xl_go tt_ok ?_
      refine x_if (fun h6 => ?_) (fun h6 => ?_)
      · have e : spellUp s (i + 1).toNat = (L ++ [byteAt s i]) ++ [92, 10] := by
          rw [hsu, spellAt, if_pos h6]; simp
        refine xl_callSC (writeString_sc true (L ++ [byteAt s i]) ⟨#[92, 10]⟩ (by rw [List.length_append]; show L.length + 1 + 2 ≤ _; omega)) (fun _ _ _ _ => trivial) trivial [0, 3] rfl rfl rfl rfl fn30 rfl rfl rfl rfl rfl rfl rfl (fun _ => rfl) (fun _ u2 hu2 _ => ?_)
        refine xl_go tt_ok ?_
        repeat (refine And.intro ?_ ?_; first | omega | (simp only [Lay.d_n]; omega) | (simp only [decide_eq_true_eq, decide_eq_false_iff_not, Bool.or_eq_false_iff, Bool.and_eq_true, Bool.or_eq_true, Bool.and_eq_false_iff, Bool.not_eq_true', Bool.not_eq_false']; omega))
        exact again (i + 1, true, _) [(2, some 4)] (.of rfl rfl rfl rfl rfl rfl) ⟨by omega, by omega, e.symm⟩ (by simp only; omega)
      · have e : spellUp s (i + 1).toNat = L ++ [byteAt s i] := by
          rw [hsu, spellAt, if_neg (by rw [h6]; simp)]
        repeat (refine And.intro ?_ ?_; first | omega | (simp only [Lay.d_n]; omega) | (simp only [decide_eq_true_eq, decide_eq_false_iff_not, Bool.or_eq_false_iff, Bool.and_eq_true, Bool.or_eq_true, Bool.and_eq_false_iff, Bool.not_eq_true', Bool.not_eq_false']; omega))
        exact again (i + 1, true, _) [(2, some 3)] (.of rfl rfl rfl rfl rfl rfl) ⟨by omega, by omega, e.symm⟩ (by simp only; omega)
    · have h5 : ¬ i < s.size := of_decide_eq_false h4
      have hi : i.toNat = s.size := by omega
      rw [hi] at g3 hlen
      have hL : L ≠ [] := fun h => h0 (Nat.le_zero.1 (by have := hlen.1; rw [h] at this; exact this))
      refine xl_callSC (len_sc us L) (fun _ _ _ _ => trivial) trivial [0, 2] rfl rfl rfl rfl fn31 rfl rfl rfl rfl rfl (by cases us <;> rfl) (by cases us <;> rfl) (fun _ => by cases us <;> rfl) (fun _ u1 hu1 _ => ?_)
      refine xl_go tt_ok ?_
      refine x_if (fun h6 => ?_) (fun h6 => ?_)
      · have h7 : 65536 < (L.length : Int) := of_decide_eq_true h6
        refine fin1 (fun _ _ => ?_)
        rw [show spellS s = ⟨#[]⟩ by unfold spellS; rw [if_neg hn, if_neg hne, ← g3, if_pos (by omega)], show spellE s = 3 by unfold spellE; rw [if_neg hn, if_neg hne, ← g3, if_pos (by omega)]]
        rfl
      · have h7 : ¬ 65536 < (L.length : Int) := of_decide_eq_false h6
        refine xl_callSC (string_sc us L hL) (fun _ _ _ _ => trivial) trivial [0, 2] rfl rfl rfl rfl fn32 rfl rfl rfl rfl rfl (by cases us <;> rfl) (by cases us <;> rfl) (fun _ => rfl) (fun _ u2 hu2 _ => ?_)
        refine xl_go tt_ok ?_
        refine fin1 (fun _ _ => ?_)
        rw [show spellS s = ⟨L.toArray⟩ by unfold spellS; rw [if_neg hn, if_neg hne, ← g3, if_neg (by omega)], show spellE s = 0 by unfold spellE; rw [if_neg hn, if_neg hne, ← g3, if_neg (by omega)]]
        rfl
theorem ends_ref (s : ByteArray) : ends s = !(decide (0 < (s.size : Int)) && decide (bt s ((s.size : Int) - 1) ≠ 10)) := by
  unfold ends
  by_cases h : s.size = 0
  · rw [decide_eq_true (size_empty.2 h), decide_eq_false (show ¬ 0 < (s.size : Int) by omega)]; rfl
  · rw [decide_eq_false (fun h' => h (size_empty.1 h')), decide_eq_true (show 0 < (s.size : Int) by omega)]
    by_cases h2 : bt s ((s.size : Int) - 1) = 10
    · rw [decide_eq_true h2, decide_eq_false (fun h3 => h3 h2)]; rfl
    · rw [decide_eq_false h2, decide_eq_true h2]; rfl
end Go.Proofs.YtnjmkeijjapejaaGreat
namespace Go.Proofs.YtnjmkeijjapejaaGreat
open Go.GV Go.RowKit
structure Spn where
  pos : Int
  fin : Int
def spanY : Lay Spn := ⟨[fun c => .int .i64 c.pos, fun c => .int .i64 c.fin], ⟨0, 0⟩⟩
def spnsL : List Part → List Spn
  | [] => []
  | p :: r => if p.sp then ⟨p.pos, p.pos + p.len⟩ :: spnsL r else spnsL r
theorem spnsL_append (a b : List Part) : spnsL (a ++ b) = spnsL a ++ spnsL b := by
  induction a with
  | nil => rfl
  | cons p a ih => simp only [List.cons_append, spnsL]; split <;> simp [ih]
theorem spnsL_len (L : List Part) : (spnsL L).length ≤ L.length := by
  induction L with
  | nil => exact Nat.le_refl _
  | cons p a ih => simp only [spnsL]; split <;> simp <;> omega
def splicesOf (s : ByteArray) : List Spn := if checkE s = 0 then spnsL (partsV s) else []
def bytesL : List Part → List UInt8
  | [] => []
  | p :: r => if p.sp then bytesL r else UInt8.ofNat p.b.toNat :: bytesL r
theorem u8_back {b : Int} (h0 : 0 ≤ b) (h1 : b ≤ 255) : ((UInt8.ofNat b.toNat).toNat : Int) = b := by
  rw [UInt8.toNat_ofNat']
  have : b.toNat % 2 ^ 8 = b.toNat := Nat.mod_eq_of_lt (by omega)
  rw [this]; omega
def logicalOf (s : ByteArray) : ByteArray := if checkE s = 0 then ⟨(bytesL (partsV s)).toArray⟩ else ⟨#[]⟩
def Part.shift (n : Int) (p : Part) : Part := ⟨p.b, p.pos + n, p.len, p.sp⟩
theorem chN_pos (s : ByteArray) (i : Int) : chN s i = 1 ∨ chN s i = 3 := by unfold chN; split <;> simp
theorem partsF_fuel (s : ByteArray) : ∀ (n m : Nat) (i : Int), 0 ≤ i → s.size - i ≤ n → s.size - i ≤ m → partsF s n i = partsF s m i
  | 0, m, i, _, h1, _ => by rw [partsF_end s (n := m) (by omega)]; rfl
  | n + 1, 0, i, _, _, h2 => by rw [partsF_end s (by omega)]; rfl
  | n + 1, m + 1, i, h0, h1, h2 => by
    simp only [partsF]
    split
    · rename_i h
      have := partP_len s h0 h
      rw [partsF_fuel s n m _ (by omega) (by omega) (by omega)]
    · rfl
def partsAt (s : ByteArray) (i : Int) : List Part := partsF s s.size i
theorem partsAt_eq {s : ByteArray} {i : Int} (h0 : 0 ≤ i) (h : i < s.size) : partsAt s i = partP s i :: partsAt s (i + (partP s i).len) := by
  have hl := partP_len s h0 h
  obtain ⟨m, e1, e2⟩ := partsF_step s h (n := s.size) (by omega) h0
  unfold partsAt
  rw [e1, partsF_fuel s m s.size _ (by omega) e2 (by omega)]
theorem partsAt_end {s : ByteArray} {i : Int} (h : ¬ i < s.size) : partsAt s i = [] := partsF_end s h
theorem parts_split {s : ByteArray} : ∀ (pre : List Part) (i : Int) (rest : List Part), 0 ≤ i → i ≤ s.size → partsAt s i = pre ++ rest →
    ∃ q, i ≤ q ∧ q ≤ s.size ∧ rest = partsAt s q ∧ (∀ s' : ByteArray, q ≤ s'.size → (∀ j, 0 ≤ j → j < q → j + (partP s j).len ≤ q → partP s' j = partP s j) → partsAt s' i = pre ++ partsAt s' q) ∧ ∀ p ∈ pre, p.pos + p.len ≤ q
  | [], i, rest, _, h1, h => ⟨i, Int.le_refl _, h1, by rw [h]; rfl, fun _ _ _ => rfl, fun p hp => by cases hp⟩
  | p :: pre, i, rest, h0, h1, h => by
    by_cases hi : i < s.size
    · rw [partsAt_eq h0 hi] at h
      have hl := partP_len s h0 hi
      simp only [List.cons_append, List.cons.injEq] at h
      obtain ⟨q, k1, k2, k3, k4, k5⟩ := parts_split pre (i + (partP s i).len) rest (by omega) hl.2 h.2
      refine ⟨q, by omega, k2, k3, fun s' hs' H => ?_, fun x hx => ?_⟩
      · rw [partsAt_eq h0 (by omega), H i h0 (by omega) k1, k4 s' hs' H, h.1]; rfl
      · rcases List.mem_cons.1 hx with rfl | hx
        · rw [← h.1, partP_pos]; exact k1
        · exact k5 x hx
    · rw [partsAt_end hi] at h; cases h
theorem third_ne10 (c : Int) : third c ≠ 10 := by unfold third; (repeat' split) <;> decide
theorem partP_char {s : ByteArray} {i : Int} (h : (partP s i).sp = false) : spl s i = false ∧ partP s i = ⟨chB s i, i, chN s i, false⟩ := by
  unfold partP at h ⊢
  split
  · rename_i hs; rw [if_pos hs] at h; cases h
  · rename_i hs; exact ⟨by simpa using hs, rfl⟩
theorem isThird10 : isThird 10 = false := by decide
theorem isThird92 : isThird 92 = false := by decide
theorem spl_false_of {s : ByteArray} {i : Int} (h : chB s i = 92 → i + chN s i < s.size → bt s (i + chN s i) = 10 → False) : spl s i = false := by
  unfold spl
  cases hb : (decide (chB s i = 92) && decide (i + chN s i < s.size) && decide (bt s (i + chN s i) = 10))
  · rfl
  · rw [Bool.and_eq_true, Bool.and_eq_true, decide_eq_true_eq, decide_eq_true_eq, decide_eq_true_eq] at hb
    exact (h hb.1.1 hb.1.2 hb.2).elim
theorem partP_len_eq (s : ByteArray) (i : Int) : (partP s i).len = chN s i + (if spl s i then 1 else 0) := by
  unfold partP; split
  · rfl
  · simp
theorem checkL_skip {n : Int} {a b : List Part} (h : ∀ p ∈ a, p.pos + p.len ≠ n) : checkL n (a ++ b) = checkL n b := by
  induction a with
  | nil => rfl
  | cons p a ih =>
    simp only [List.cons_append, checkL]
    rw [if_neg (h p (List.mem_cons_self ..)), ih (fun q hq => h q (List.mem_cons_of_mem _ hq))]
theorem checkE_of {s : ByteArray} (h : s.size ≤ 65536) : checkE s = checkL s.size (partsV s) := by rw [checkE, if_neg (by omega)]
theorem ltB {s : ByteArray} {i : Int} (h : triB s i = true) : i + 2 < s.size ∧ bt s i = 63 ∧ bt s (i + 1) = 63 ∧ isThird (bt s (i + 2)) = true := by
  unfold triB at h
  simp only [Bool.and_eq_true, decide_eq_true_eq] at h
  exact ⟨h.1.1.1, h.1.1.2, h.1.2, h.2⟩
def tailF (l : ByteArray) : Nat → Nat → List UInt8
  | 0, _ => []
  | n + 1, k => spellAt l k ++ tailF l n (k + 1)
theorem spellUp_add (l : ByteArray) : ∀ n k : Nat, spellUp l (k + n) = spellUp l k ++ tailF l n k
  | 0, k => by simp [tailF]
  | n + 1, k => by
    rw [show k + (n + 1) = (k + 1) + n by omega, spellUp_add l n (k + 1)]
    simp only [spellUp, tailF, List.append_assoc]
def spelt (l : ByteArray) : ByteArray := ⟨(spellUp l l.size).toArray⟩
def posOf (l : ByteArray) (k : Nat) : Nat := (spellUp l k).length
theorem spelt_size (l : ByteArray) : (spelt l).size = posOf l l.size := by
  show ((spellUp l l.size).toArray).size = _
  rw [List.size_toArray]; rfl
theorem bt_spelt (l : ByteArray) {k : Nat} (hk : k ≤ l.size) (j : Nat) : bt (spelt l) ((posOf l k : Int) + j) = (((tailF l (l.size - k) k).getD j 0).toNat : Int) := by
  unfold bt
  have e : spellUp l l.size = spellUp l k ++ tailF l (l.size - k) k := by rw [← spellUp_add]; congr 1; omega
  have hn : ((posOf l k : Int) + j).toNat = posOf l k + j := by omega
  rw [hn]
  show ((((spellUp l l.size).toArray.toList).getD _ _).toNat : Int) = _
  rw [List.toList_toArray, e, List.getD_eq_getElem?_getD, List.getD_eq_getElem?_getD, List.getElem?_append_right (by unfold posOf; omega)]
  rw [show posOf l k + j - (spellUp l k).length = j by unfold posOf; omega]
theorem tail_step (l : ByteArray) {k : Nat} (hk : k < l.size) : tailF l (l.size - k) k = spellAt l k ++ tailF l (l.size - (k + 1)) (k + 1) := by
  rw [show l.size - k = (l.size - (k + 1)) + 1 by omega]; rfl
theorem byteAt_bt (l : ByteArray) (i : Int) : ((byteAt l i).toNat : Int) = bt l i := rfl
theorem posOf_succ (l : ByteArray) (k : Nat) : posOf l (k + 1) = posOf l k + (if parted l k = true then 3 else 1) := by
  unfold posOf
  simp only [spellUp, List.length_append, spellAt]
  split <;> simp
theorem sp_at0 (l : ByteArray) {k : Nat} (hk : k < l.size) : bt (spelt l) (posOf l k) = bt l k := by
  have := bt_spelt l (k := k) (by omega) 0
  rw [tail_step l hk, spellAt] at this
  simpa [byteAt_bt] using this
theorem sp_at1 (l : ByteArray) {k : Nat} (hk : k < l.size) (hp : parted l k = true) : bt (spelt l) (posOf l k + 1) = 92 ∧ bt (spelt l) (posOf l k + 2) = 10 := by
  have h1 := bt_spelt l (k := k) (by omega) 1
  have h2 := bt_spelt l (k := k) (by omega) 2
  rw [tail_step l hk, spellAt, if_pos hp] at h1 h2
  exact ⟨h1, h2⟩
theorem posOf_lt (l : ByteArray) {k : Nat} (hk : k < l.size) : posOf l k < (spelt l).size := by
  rw [spelt_size]
  have : ∀ n, posOf l k ≤ posOf l (k + n) := fun n => by
    induction n with
    | zero => exact Nat.le_refl _
    | succ n ih => rw [← Nat.add_assoc, posOf_succ]; split <;> omega
  have h2 := this (l.size - (k + 1))
  have h3 := posOf_succ l (k + (l.size - (k + 1)))
  rw [show k + (l.size - (k + 1)) + 1 = l.size by omega] at h3
  split at h3 <;> omega
theorem posOf_le (l : ByteArray) {k : Nat} (hk : k ≤ l.size) : posOf l k ≤ (spelt l).size := by
  rcases Nat.lt_or_ge k l.size with h | h
  · exact Nat.le_of_lt (posOf_lt l h)
  · rw [show k = l.size by omega, spelt_size]; exact Nat.le_refl _
theorem parted_tri {l : ByteArray} {k : Int} (h : isTri l k = true) : parted l k = true := by unfold parted; rw [h]; simp
theorem parted_bs {l : ByteArray} {k : Int} (h0 : k + 1 < l.size) (h1 : bt l k = 92) (h2 : bt l (k + 1) = 10) : parted l k = true := by
  unfold parted; rw [decide_eq_true h0, decide_eq_true h1, decide_eq_true h2]; rfl
theorem sp_char (l : ByteArray) {k : Nat} (hk : k < l.size) : partP (spelt l) (posOf l k) = ⟨bt l k, posOf l k, 1, false⟩ := by
  have e0 := sp_at0 l hk
  have hs := posOf_succ l k
  have ht : triB (spelt l) (posOf l k) = false := by
    cases ht : triB (spelt l) (posOf l k)
    · rfl
    · exfalso
      obtain ⟨t1, t2, t3, t4⟩ := ltB ht
      cases hp : parted l k
      · rw [hp, if_neg (by simp)] at hs
        have hk1 : k + 1 < l.size := by
          rcases Nat.lt_or_ge (k + 1) l.size with h | h
          · exact h
          · have := spelt_size l; rw [show l.size = k + 1 by omega] at this; omega
        have e1 := sp_at0 l hk1
        rw [hs] at e1
        rw [show ((posOf l k + 1 : Nat) : Int) = (posOf l k : Int) + 1 by omega, t3] at e1
        cases hp1 : parted l ((k + 1 : Nat) : Int)
        · have hs1 := posOf_succ l (k + 1)
          rw [hp1, if_neg (by simp)] at hs1
          have hk2 : k + 2 < l.size := by
            rcases Nat.lt_or_ge (k + 2) l.size with h | h
            · exact h
            · have := spelt_size l; rw [show l.size = k + 1 + 1 by omega] at this; omega
          have e2 := sp_at0 l hk2
          rw [show posOf l (k + 2) = posOf l k + 2 by rw [show k + 2 = k + 1 + 1 by omega]; omega] at e2
          rw [show ((posOf l k + 2 : Nat) : Int) = (posOf l k : Int) + 2 by omega] at e2
          have : isTri l k = true := by
            unfold isTri
            rw [decide_eq_true (show (k : Int) + 3 ≤ l.size by omega), ← e0, t2, show (k : Int) + 1 = ((k + 1 : Nat) : Int) by omega, ← e1, show (k : Int) + 2 = ((k + 2 : Nat) : Int) by omega, ← e2, t4]; rfl
          rw [parted_tri this] at hp; cases hp
        · have := (sp_at1 l hk1 hp1).1
          rw [hs, show (((posOf l k + 1 : Nat) : Int) + 1) = (posOf l k : Int) + 2 by omega] at this
          rw [this, isThird92] at t4; cases t4
      · have := (sp_at1 l hk hp).1
        rw [this] at t3; cases t3
  have hN : chN (spelt l) (posOf l k) = 1 := by rw [chN, if_neg (by rw [ht]; simp)]
  have hB : chB (spelt l) (posOf l k) = bt l k := by rw [chB, if_neg (by rw [ht]; simp), e0]
  have hS : spl (spelt l) (posOf l k) = false := by
    refine spl_false_of fun h1 h2 h3 => ?_
    rw [hB] at h1
    rw [hN] at h2 h3
    cases hp : parted l k
    · rw [hp, if_neg (by simp)] at hs
      have hk1 : k + 1 < l.size := by
        rcases Nat.lt_or_ge (k + 1) l.size with h | h
        · exact h
        · have := spelt_size l; rw [show l.size = k + 1 by omega] at this; omega
      have e1 := sp_at0 l hk1
      rw [hs, show ((posOf l k + 1 : Nat) : Int) = (posOf l k : Int) + 1 by omega, h3] at e1
      rw [parted_bs (l := l) (k := k) (by omega) h1 (by rw [show (k : Int) + 1 = ((k + 1 : Nat) : Int) by omega]; exact e1.symm)] at hp; cases hp
    · rw [(sp_at1 l hk hp).1] at h3; cases h3
  rw [partP, if_neg (by rw [hS]; simp), hB, hN]
theorem sp_splice (l : ByteArray) {k : Nat} (hk : k < l.size) (hp : parted l k = true) : partP (spelt l) ((posOf l k : Int) + 1) = ⟨0, (posOf l k : Int) + 1, 2, true⟩ := by
  obtain ⟨e1, e2⟩ := sp_at1 l hk hp
  have hs := posOf_succ l k
  rw [hp, if_pos rfl] at hs
  have hle := posOf_le l (k := k + 1) (by omega)
  have ht : triB (spelt l) ((posOf l k : Int) + 1) = false := by unfold triB; rw [e1]; simp
  have hN : chN (spelt l) ((posOf l k : Int) + 1) = 1 := by rw [chN, if_neg (by rw [ht]; simp)]
  have hS : spl (spelt l) ((posOf l k : Int) + 1) = true := by
    unfold spl
    rw [hN, chB, if_neg (by rw [ht]; simp), e1, show (posOf l k : Int) + 1 + 1 = (posOf l k : Int) + 2 by omega, e2, decide_eq_true (show (posOf l k : Int) + 2 < (spelt l).size by omega)]; rfl
  rw [partP, if_pos hS, hN]; rfl
theorem sp_parts (l : ByteArray) {k : Nat} (hk : k < l.size) :
    partsAt (spelt l) (posOf l k) = ⟨bt l k, posOf l k, 1, false⟩ :: (if parted l k = true then [⟨0, (posOf l k : Int) + 1, 2, true⟩] else []) ++ partsAt (spelt l) (posOf l (k + 1)) := by
  have hlt := posOf_lt l hk
  have hs := posOf_succ l k
  rw [partsAt_eq (by omega) (by omega), sp_char l hk]
  show _ :: partsAt (spelt l) ((posOf l k : Int) + 1) = _
  by_cases hp : parted l k = true
  · rw [if_pos hp] at hs
    have hle := posOf_le l (k := k + 1) (by omega)
    rw [if_pos hp, partsAt_eq (by omega) (by omega), sp_splice l hk hp, hs]
    show _ :: _ :: partsAt (spelt l) ((posOf l k : Int) + 1 + 2) = _
    rw [show (posOf l k : Int) + 1 + 2 = ((posOf l k + 3 : Nat) : Int) by omega]; rfl
  · rw [if_neg hp] at hs
    rw [if_neg hp, hs, show ((posOf l k + 1 : Nat) : Int) = (posOf l k : Int) + 1 by omega]; rfl
theorem sp_all (l : ByteArray) (hnl : l.size ≠ 0 → bt l ((l.size : Int) - 1) = 10) : ∀ (n k : Nat), l.size - k = n → k ≤ l.size →
    bytesL (partsAt (spelt l) (posOf l k)) = l.data.toList.drop k ∧ (spelt l).size - posOf l k = (l.size - k) + 2 * (spnsL (partsAt (spelt l) (posOf l k))).length ∧ checkL (spelt l).size (partsAt (spelt l) (posOf l k)) = 0
  | 0, k, hn, hk => by
    have hk' : k = l.size := by omega
    subst hk'
    have hl : l.data.toList.length = l.size := by simp
    rw [partsAt_end (by rw [spelt_size]; omega), List.drop_eq_nil_of_le (by omega), spelt_size]
    refine ⟨rfl, ?_, rfl⟩
    simp [spnsL]
  | n + 1, k, hn, hk => by
    have hk' : k < l.size := by omega
    obtain ⟨h1, h2, h3⟩ := sp_all l hnl n (k + 1) (by omega) (by omega)
    have hs := posOf_succ l k
    have hle := posOf_le l (k := k + 1) (by omega)
    have hl : l.data.toList.length = l.size := by simp
    have hd : l.data.toList.drop k = byteAt l k :: l.data.toList.drop (k + 1) := by
      rw [List.drop_eq_getElem_cons (by omega)]
      congr 1
      unfold byteAt
      rw [List.getD_eq_getElem?_getD, show ((k : Int)).toNat = k by omega, List.getElem?_eq_getElem (by omega)]; rfl
    have hb : UInt8.ofNat (bt l k).toNat = byteAt l k := by
      rw [← byteAt_bt]; simp
    rw [sp_parts l hk', hd]
    have hlast : k + 1 = l.size → bt l k = 10 ∧ ¬ parted l k = true := fun h => by
      have e := hnl (by omega)
      rw [show (l.size : Int) - 1 = k by omega] at e
      refine ⟨e, fun hp => ?_⟩
      unfold parted isTri at hp
      rw [decide_eq_false (show ¬ (k : Int) + 1 < l.size by omega), decide_eq_false (show ¬ (k : Int) + 3 ≤ l.size by omega)] at hp
      cases hp
    have hend : posOf l (k + 1) = (spelt l).size → k + 1 = l.size := fun h => by
      rcases Nat.lt_or_ge (k + 1) l.size with h' | h'
      · have := posOf_lt l h'; omega
      · omega
    by_cases hp : parted l k = true
    · rw [if_pos hp] at hs
      rw [if_pos hp]
      simp only [List.cons_append, List.nil_append, bytesL, spnsL, checkL, List.length_cons]
      refine ⟨?_, ?_, ?_⟩
      · rw [if_neg (by simp), if_pos trivial, hb, h1]
      · rw [if_neg (by simp), if_pos trivial, List.length_cons]; omega
      · rw [if_neg (by omega), if_neg (fun h => (hlast (hend (by omega))).2 hp), h3]
    · rw [if_neg hp] at hs
      rw [if_neg hp]
      simp only [List.cons_append, List.nil_append, bytesL, spnsL, checkL]
      refine ⟨?_, ?_, ?_⟩
      · rw [if_neg (by simp), hb, h1]
      · rw [if_neg (by simp)]; omega
      · by_cases he : (posOf l k : Int) + 1 = (spelt l).size
        · rw [if_pos he, (hlast (hend (by omega))).1]; rfl
        · rw [if_neg he, h3]
theorem spell_law (l : ByteArray) (h : spellE l = 0) : checkE (spellS l) = 0 ∧ logicalOf (spellS l) = l ∧ ((spellS l).size : Int) = l.size + 2 * (splicesOf (spellS l)).length := by
  have h' := h
  unfold spellE at h'
  split at h'
  · cases h'
  · rename_i k1
    split at h'
    · cases h'
    · rename_i k2
      split at h'
      · cases h'
      · rename_i k3
        have es : spellS l = spelt l := by unfold spellS; rw [if_neg k1, if_neg k2, if_neg k3]; rfl
        have hnl : l.size ≠ 0 → bt l ((l.size : Int) - 1) = 10 := fun h0 => by
          unfold ends at k2
          rw [decide_eq_false (fun e => h0 (size_empty.1 e))] at k2
          simpa using k2
        obtain ⟨p1, p2, p3⟩ := sp_all l hnl l.size 0 rfl (by omega)
        have ez := spelt_size l
        have hz : (spelt l).size ≤ 65536 := by rw [ez]; unfold posOf; omega
        have e0 : partsAt (spelt l) (posOf l 0) = partsV (spelt l) := rfl
        rw [e0] at p1 p2 p3
        have hc : checkE (spelt l) = 0 := by rw [checkE_of hz]; exact p3
        rw [es]
        refine ⟨hc, ?_, ?_⟩
        · rw [logicalOf, if_pos hc, p1]; simp
        · rw [splicesOf, if_pos hc]
          have : posOf l 0 = 0 := rfl
          omega
end Go.Proofs.YtnjmkeijjapejaaGreat
namespace Go.Proofs.YtnjmkeijjapejaaGreat.Ph
open Go.GV Go.RowKit
set_option maxRecDepth 100000 in
theorem refThird_any (c : Int) (w : World) : Calls Tryz.prog 67 #[.int .u8 c] w (PureP w fun v _ => v = .tuple #[.int .u8 (third c), .bool (isThird c)]) := by
  refine x_fun tt_ok Tryz.func67 rfl rfl [] 0 [.v (.int .u8 c)] rfl rfl rfl rfl (fun b hb => by cases hb) ?_
  refine x_vc tt_ok ?_
  iterate 9
    refine x_if (fun h => ?_) (fun h => ?_)
    · have h := of_decide_eq_true h
      subst h
      refine fin1 (fun _ _ => rfl)
  refine fin1 (fun _ _ => ?_)
  simp only [decide_eq_true_eq, decide_eq_false_iff_not] at *
  have : third c = 0 := by unfold third; simp [*]
  simp only [isThird, this]
  rfl
set_option maxRecDepth 100000 in
theorem tri_any (s : ByteArray) (i : Int) (w : World) (h0 : 0 ≤ i) (h1 : i ≤ s.size) (hs : s.size ≤ 140737488355328) :
    Calls Tryz.prog 45 #[.string s, .int .i64 i] w (PureP w fun v _ => v = .tuple #[.int .u8 (triV s i), .bool (isTri s i)]) := by
  refine x_fun tt_ok Tryz.func45 rfl rfl [] 0 [.v (.string s), .v (.int .i64 i)] rfl rfl rfl rfl (fun b hb => by cases hb) ?_
  refine x_vc tt_ok ?_
  repeat (refine And.intro ?_ ?_; first | omega | (simp only [decide_eq_true_eq, decide_eq_false_iff_not, Bool.or_eq_false_iff, Bool.and_eq_true, Bool.or_eq_true, Bool.and_eq_false_iff, Bool.not_eq_true', Bool.not_eq_false']; omega))
  refine x_if (fun h => ?_) (fun h => ?_)
  · have h' : ((decide ((s.size : Int) < i + 3) || decide (bt s i ≠ 63)) || decide (bt s (i + 1) ≠ 63)) = true := h
    have e : isTri s i = false := by
      rw [Bool.or_eq_true, Bool.or_eq_true, decide_eq_true_eq, decide_eq_true_eq, decide_eq_true_eq] at h'
      unfold isTri
      rcases h' with (h' | h') | h'
      · rw [decide_eq_false (by omega)]; rfl
      · rw [decide_eq_false h']; simp
      · rw [decide_eq_false h']; simp
    refine fin1 (fun _ _ => ?_)
    rw [e, show triV s i = 0 by simp [triV, e]]
    rfl
  · have h' : ((decide ((s.size : Int) < i + 3) || decide (bt s i ≠ 63)) || decide (bt s (i + 1) ≠ 63)) = false := h
    rw [Bool.or_eq_false_iff, Bool.or_eq_false_iff, decide_eq_false_iff_not, decide_eq_false_iff_not, decide_eq_false_iff_not, Classical.not_not, Classical.not_not] at h'
    have e : isTri s i = isThird (bt s (i + 2)) := by
      unfold isTri
      rw [decide_eq_true (by omega), decide_eq_true h'.1.2, decide_eq_true h'.2]; rfl
    have e2 : triV s i = third (bt s (i + 2)) := by
      unfold triV
      rw [e]
      unfold isThird
      by_cases h3 : third (bt s (i + 2)) = 0
      · rw [h3]; rfl
      · rw [decide_eq_true h3]; rfl
    repeat (refine And.intro ?_ ?_; first | omega | (simp only [decide_eq_true_eq, decide_eq_false_iff_not, Bool.or_eq_false_iff, Bool.and_eq_true, Bool.or_eq_true, Bool.and_eq_false_iff, Bool.not_eq_true', Bool.not_eq_false']; omega))
    refine xl_call0 (.tuple #[.int .u8 (third (bt s (i + 2))), .bool (isThird (bt s (i + 2)))]) rfl rfl rfl rfl fn67 rfl rfl (fun E w F hs => refThird_any _ w) ?_
    refine xl_go tt_ok ?_
    refine fin1 (fun _ _ => ?_)
    rw [e, e2]
    rfl
set_option maxRecDepth 100000 in
theorem refSpell_any (s : ByteArray) (w : World) (hs : s.size ≤ 9223372036854775807) : Calls Tryz.prog 17 #[.string s] w (PureP w fun v _ => v = .tuple #[.string (spellS s), .int .i64 (spellE s)]) := by
  refine x_fun tt_ok Tryz.func17 rfl rfl [] 0 [.v (.string s)] rfl rfl rfl rfl (fun b hb => by cases hb) ?_
  refine x_vc tt_ok ?_
  refine x_if (fun h => ?_) (fun h => ?_)
  · have h' : 65536 < (s.size : Int) := of_decide_eq_true h
    refine fin1 (fun _ _ => ?_)
    rw [show spellS s = ⟨#[]⟩ by unfold spellS; rw [if_pos (by omega)], show spellE s = 3 by unfold spellE; rw [if_pos (by omega)]]
    rfl
  have h' : ¬ 65536 < (s.size : Int) := of_decide_eq_false h
  have hn : ¬ 65536 < s.size := by omega
  repeat (refine And.intro ?_ ?_; first | omega | (simp only [Lay.d_n]; omega) | (simp only [decide_eq_true_eq, decide_eq_false_iff_not, Bool.or_eq_false_iff, Bool.and_eq_true, Bool.or_eq_true, Bool.and_eq_false_iff, Bool.not_eq_true', Bool.not_eq_false']; omega))
  refine x_if (fun h2 => ?_) (fun h2 => ?_)
  · have h3 : (decide (0 < (s.size : Int)) && decide (bt s ((s.size : Int) - 1) ≠ 10)) = true := h2
    have he : ends s = false := by rw [ends_ref, h3]; rfl
    refine fin1 (fun _ _ => ?_)
    rw [show spellS s = ⟨#[]⟩ by unfold spellS; rw [if_neg hn, if_pos he], show spellE s = 10 by unfold spellE; rw [if_neg hn, if_pos he]]
    rfl
  have h3 : (decide (0 < (s.size : Int)) && decide (bt s ((s.size : Int) - 1) ≠ 10)) = false := h2
  have he : ends s = true := by rw [ends_ref, h3]; rfl
  have hne : ¬ ends s = false := by rw [he]; simp
  refine x_nil 4 5 byteY rfl ?_
  refine x_loop (σ := Int × List UInt8) (fun (i, L) => ⟨[(5, .v (.int .i64 i)), (4, .r 1), (0, .v (.string s))], [], [(1, .row 5 (byteY.d L))], 2⟩)
    (fun (i, L) _ => 0 ≤ i ∧ i ≤ s.size ∧ L = spellUp s i.toNat) (fun (i, _) => ((s.size : Int) - i).toNat) (fun (_, _) => by simp only; omega) (0, []) [(1, some 0)] (.of rfl rfl rfl rfl rfl rfl) ⟨by omega, by omega, rfl⟩ ?_
  rintro ⟨i, L⟩ u hu ⟨g1, g2, g3⟩
  have hlen := spellUp_len s i.toNat
  rw [← g3] at hlen
  refine x_vc tt_ok ?_
  refine x_if (fun h4 => ?_) (fun h4 => ?_)
  · have h5 : i < s.size := of_decide_eq_true h4
    have hsu := spellUp_succ s g1
    rw [← g3] at hsu
    repeat (refine And.intro ?_ ?_; first | omega | (simp only [Lay.d_n]; omega) | (simp only [decide_eq_true_eq, decide_eq_false_iff_not, Bool.or_eq_false_iff, Bool.and_eq_true, Bool.or_eq_true, Bool.and_eq_false_iff, Bool.not_eq_true', Bool.not_eq_false']; omega))
    refine xl_push tt_ok byteY L (byteAt s i) 1 (cs := [.int .u8 ((byteAt s i).toNat : Int)]) rfl rfl rfl rfl rfl rfl rfl rfl rfl rfl rfl rfl (by kernel_rfl) rfl rfl rfl rfl rfl (fun n hn => by cases hn; decide) rfl rfl rfl (by first | omega | (simp; omega)) (by first | omega | (simp; omega)) ?_
    refine xl_go tt_ok ?_
    refine xl_call0 (.tuple #[.int .u8 (triV s i), .bool (isTri s i)]) rfl rfl rfl rfl fn45 rfl rfl (fun E w F hs => tri_any s i w g1 g2 (by omega)) ?_
    refine xl_go tt_ok ?_
    repeat (refine And.intro ?_ ?_; first | omega | (simp only [Lay.d_n]; omega) | (simp only [decide_eq_true_eq, decide_eq_false_iff_not, Bool.or_eq_false_iff, Bool.and_eq_true, Bool.or_eq_true, Bool.and_eq_false_iff, Bool.not_eq_true', Bool.not_eq_false']; omega))
    have hp : (isTri s i || (decide (i + 1 < s.size) && decide (bt s i = 92) && decide (bt s (i + 1) = 10))) = parted s i := by
      unfold parted
      rw [Bool.or_comm, Bool.and_assoc]
    refine x_if (fun h6 => ?_) (fun h6 => ?_)
    · have h6' : parted s i = true := hp.symm.trans h6
      have e : spellUp s (i + 1).toNat = (L ++ [byteAt s i]) ++ [92, 10] := by
        rw [hsu, spellAt, if_pos h6']; simp
      refine xl_build tt_ok byteY [92, 10] [.const (.int .u8 92), .const (.int .u8 10)] rfl rfl rfl rfl rfl rfl rfl rfl rfl rfl rfl rfl rfl rfl rfl ?_
      refine xl_go tt_ok ?_
      refine xl_append tt_ok byteY (L ++ [byteAt s i]) [92, 10] 1 rfl rfl rfl rfl rfl rfl rfl rfl (by kernel_rfl) rfl rfl rfl (fun E w F hs => hs.rowAt (k := 3) rfl) (fun x y hy => by simp [Lay.el] at hy; subst hy; rfl) rfl (by simp; omega) (by simp; omega) ?_
      refine xl_go tt_ok ?_
      repeat (refine And.intro ?_ ?_; first | omega | (simp only [Lay.d_n]; omega) | (simp only [decide_eq_true_eq, decide_eq_false_iff_not, Bool.or_eq_false_iff, Bool.and_eq_true, Bool.or_eq_true, Bool.and_eq_false_iff, Bool.not_eq_true', Bool.not_eq_false']; omega))
      exact again (i + 1, _) [(1, some 4)] (.of rfl rfl rfl rfl rfl rfl) ⟨by omega, by omega, e.symm⟩ (by simp only; omega)
    · have h6' : parted s i = false := hp.symm.trans h6
      have e : spellUp s (i + 1).toNat = L ++ [byteAt s i] := by
        rw [hsu, spellAt, if_neg (by rw [h6']; simp)]
      repeat (refine And.intro ?_ ?_; first | omega | (simp only [Lay.d_n]; omega) | (simp only [decide_eq_true_eq, decide_eq_false_iff_not, Bool.or_eq_false_iff, Bool.and_eq_true, Bool.or_eq_true, Bool.and_eq_false_iff, Bool.not_eq_true', Bool.not_eq_false']; omega))
      exact again (i + 1, _) [(1, some 2)] (.of rfl rfl rfl rfl rfl rfl) ⟨by omega, by omega, e.symm⟩ (by simp only; omega)
  · have h5 : ¬ i < s.size := of_decide_eq_false h4
    have hi : i.toNat = s.size := by omega
    rw [hi] at g3 hlen
    refine x_if (fun h6 => ?_) (fun h6 => ?_)
    · have h7 : 65536 < (L.length : Int) := of_decide_eq_true h6
      refine fin1 (fun _ _ => ?_)
      rw [show spellS s = ⟨#[]⟩ by unfold spellS; rw [if_neg hn, if_neg hne, ← g3, if_pos (by omega)], show spellE s = 3 by unfold spellE; rw [if_neg hn, if_neg hne, ← g3, if_pos (by omega)]]
      rfl
    · have h7 : ¬ 65536 < (L.length : Int) := of_decide_eq_false h6
      refine xl_bytesStr L rfl rfl rfl rfl Tryz.underlying59 Tryz.underlying5 Tryz.underlying9 rfl (fun E w F hs => hs.rowAt (k := 1) rfl) ?_
      refine xl_go tt_ok ?_
      refine fin1 (fun _ _ => ?_)
      rw [show spellS s = ⟨L.toArray⟩ by unfold spellS; rw [if_neg hn, if_neg hne, ← g3, if_neg (by omega)], show spellE s = 0 by unfold spellE; rw [if_neg hn, if_neg hne, ← g3, if_neg (by omega)]]
      rfl
theorem third_range (c : Int) : 0 ≤ third c ∧ third c ≤ 255 := by unfold third; (repeat' split) <;> omega
theorem chB_range (s : ByteArray) (i : Int) : 0 ≤ chB s i ∧ chB s i ≤ 255 := by
  unfold chB
  split
  · exact third_range _
  · exact bt_range s i
theorem partP_b (s : ByteArray) (i : Int) : 0 ≤ (partP s i).b ∧ (partP s i).b ≤ 255 := by
  unfold partP
  split
  · exact ⟨Int.le_refl _, by show (0 : Int) ≤ 255; decide⟩
  · exact chB_range s i
def Chr.shift (n : Int) (c : Chr) : Chr := ⟨c.b, c.pos + n, c.len⟩
theorem charsOf_len {s : ByteArray} : (charsOf s).length ≤ s.size := by
  unfold charsOf
  split
  · exact Nat.le_trans (chrsL_len _) (partsV_len s)
  · simp
theorem chrsL_mem {L : List Part} {c : Chr} (h : c ∈ chrsL L) : ∃ p ∈ L, p.sp = false ∧ c = ⟨p.b, p.pos, p.len⟩ := by
  induction L with
  | nil => cases h
  | cons q L ih =>
    simp only [chrsL] at h
    split at h
    · obtain ⟨p, h1, h2⟩ := ih h
      exact ⟨p, List.mem_cons_of_mem _ h1, h2⟩
    · rename_i hq
      rcases List.mem_cons.1 h with rfl | h
      · exact ⟨q, List.mem_cons_self .., by simpa using hq, rfl⟩
      · obtain ⟨p, h1, h2⟩ := ih h
        exact ⟨p, List.mem_cons_of_mem _ h1, h2⟩
theorem charsOf_pos {s : ByteArray} (i : Nat) : 0 ≤ ((charsOf s).getD i charY.dft).pos ∧ ((charsOf s).getD i charY.dft).pos ≤ s.size := by
  rw [List.getD_eq_getElem?_getD]
  cases h : (charsOf s)[i]? with
  | none => exact ⟨Int.le_refl _, by show (0 : Int) ≤ _; omega⟩
  | some c =>
    have hc := List.mem_of_getElem? h
    unfold charsOf at hc
    split at hc
    · obtain ⟨p, hp, _, rfl⟩ := chrsL_mem hc
      obtain ⟨q0, q1, _⟩ := partsV_mem hp
      exact ⟨q0, by show p.pos ≤ _; omega⟩
    · cases hc
theorem cov_char {s : ByteArray} {i : Int} (h : (partP s i).sp = false) :
    ((partP s i).len = 3 ∧ i + 2 < s.size ∧ bt s i = 63 ∧ bt s (i + 1) = 63 ∧ isThird (bt s (i + 2)) = true ∧ (partP s i).b = third (bt s (i + 2))) ∨ ((partP s i).len = 1 ∧ (partP s i).b = bt s i) := by
  obtain ⟨h1, h2⟩ := partP_char h
  rw [h2]
  by_cases ht : triB s i = true
  · obtain ⟨a, b, c, d⟩ := ltB ht
    exact .inl ⟨by show chN s i = 3; rw [chN, if_pos ht], a, b, c, d, by show chB s i = _; rw [chB, if_pos ht]⟩
  · exact .inr ⟨by show chN s i = 1; rw [chN, if_neg ht], by show chB s i = _; rw [chB, if_neg ht]⟩
theorem dec_lt {a b x : Int} (h : a = b + 1) : decide (a ≤ x) = decide (b < x) := by
  by_cases k : a ≤ x
  · rw [decide_eq_true k, decide_eq_true (by omega)]
  · rw [decide_eq_false k, decide_eq_false (by omega)]
theorem isTri_triB (s : ByteArray) (i : Int) : isTri s i = triB s i := by
  unfold isTri triB
  rw [dec_lt (show i + 3 = i + 2 + 1 by omega)]
  cases decide (i + 2 < (s.size : Int)) <;> cases decide (bt s i = 63) <;> cases decide (bt s (i + 1) = 63) <;> rfl
def spN (s : ByteArray) (i : Int) : Int := if spl s i then chN s i + 1 else 0
set_option maxRecDepth 100000 in
theorem refSplice_any (s : ByteArray) (i : Int) (w : World) (h0 : 0 ≤ i) (h1 : i < s.size) (hs : s.size ≤ 140737488355328) :
    Calls Tryz.prog 85 #[.string s, .int .i64 i] w (PureP w fun v _ => v = .int .i64 (spN s i)) := by
  refine x_fun tt_ok Tryz.func85 rfl rfl [] 0 [.v (.string s), .v (.int .i64 i)] rfl rfl rfl rfl (fun b hb => by cases hb) ?_
  refine x_vc tt_ok ?_
  repeat (refine And.intro ?_ ?_; first | omega | (simp only [decide_eq_true_eq, decide_eq_false_iff_not, Bool.or_eq_false_iff, Bool.and_eq_true, Bool.or_eq_true, Bool.and_eq_false_iff, Bool.not_eq_true', Bool.not_eq_false']; omega))
  refine x_if (fun h => ?_) (fun h => ?_)
  · have h' : ((decide (i + 2 ≤ (s.size : Int)) && decide (bt s i = 92)) && decide (bt s (i + 1) = 10)) = true := h
    simp only [Bool.and_eq_true, decide_eq_true_eq] at h'
    have ht : triB s i = false := by
      cases ht : triB s i
      · rfl
      · unfold triB at ht; simp only [Bool.and_eq_true, decide_eq_true_eq] at ht; omega
    have hN : chN s i = 1 := by rw [chN, if_neg (by rw [ht]; simp)]
    have hS : spl s i = true := by
      unfold spl
      rw [chB, if_neg (by rw [ht]; simp), hN, decide_eq_true h'.1.2, decide_eq_true h'.2, decide_eq_true (show i + 1 < (s.size : Int) by omega)]; rfl
    refine fin1 (fun _ _ => ?_)
    rw [spN, if_pos hS, hN]; rfl
  · have h' : ((decide (i + 2 ≤ (s.size : Int)) && decide (bt s i = 92)) && decide (bt s (i + 1) = 10)) = false := h
    refine xl_call0 (.tuple #[.int .u8 (triV s i), .bool (isTri s i)]) rfl rfl rfl rfl fn45 rfl rfl (fun E w F hs => tri_any s i w h0 (by omega) (by omega)) ?_
    refine xl_go tt_ok ?_
    repeat (refine And.intro ?_ ?_; first | omega | (simp only [decide_eq_true_eq, decide_eq_false_iff_not, Bool.or_eq_false_iff, Bool.and_eq_true, Bool.or_eq_true, Bool.and_eq_false_iff, Bool.not_eq_true', Bool.not_eq_false']; omega))
    have key : ((isTri s i && decide (triV s i = 92)) && decide (i + 4 ≤ (s.size : Int)) && decide (bt s (i + 3) = 10)) = spl s i ∧ (spl s i = true → chN s i = 3) := by
      unfold triV
      rw [isTri_triB]
      cases ht : triB s i
      · rw [if_neg (by simp)]
        have : spl s i = false := by
          unfold spl
          rw [chB, chN, if_neg (by rw [ht]; simp), if_neg (by rw [ht]; simp)]
          cases hb : (decide (bt s i = 92) && decide (i + 1 < (s.size : Int)) && decide (bt s (i + 1) = 10))
          · rfl
          · simp only [Bool.and_eq_true, decide_eq_true_eq] at hb
            rw [decide_eq_true (show i + 2 ≤ (s.size : Int) by omega), decide_eq_true hb.1.1, decide_eq_true hb.2] at h'
            cases h'
        rw [this]
        exact ⟨rfl, fun h => by cases h⟩
      · rw [if_pos rfl]
        have hN : chN s i = 3 := by rw [chN, if_pos ht]
        have hB : chB s i = third (bt s (i + 2)) := by rw [chB, if_pos ht]
        refine ⟨?_, fun _ => hN⟩
        unfold spl
        rw [hN, hB]
        rw [dec_lt (show i + 4 = i + 3 + 1 by omega)]
        rfl
    refine x_if (fun h2 => ?_) (fun h2 => ?_)
    · have h2 : spl s i = true := key.1.symm.trans h2
      refine fin1 (fun _ _ => ?_)
      rw [spN, if_pos h2, key.2 h2]; rfl
    · have h2 : spl s i = false := key.1.symm.trans h2
      refine fin1 (fun _ _ => ?_)
      rw [spN, if_neg (by rw [h2]; simp)]; rfl
def lastSp (L : List Part) : Bool := match L.getLast? with
  | some p => p.sp
  | none => false
theorem lastSp_snoc (L : List Part) (p : Part) : lastSp (L ++ [p]) = p.sp := by unfold lastSp; rw [List.getLast?_concat]
def BothV (s : ByteArray) (v : Value) (u : Im) : Prop :=
  ∃ x y, v = .tuple #[x, y, .bool (lastSp (partsV s))] ∧ SlAt u x (charY.d (chrsL (partsV s))) ∧ SlAt u y (spanY.d (spnsL (partsV s)))
set_option maxRecDepth 100000 in
theorem both_any (s : ByteArray) (w : World) (hs : s.size ≤ 65536) : Calls Tryz.prog 69 #[.string s] w (PureP w (BothV s)) := by
  refine x_fun tt_ok Tryz.func69 rfl rfl [] 0 [.v (.string s)] rfl rfl rfl rfl (fun b hb => by cases hb) ?_
  refine x_vc tt_ok ?_
  refine x_nil 5 75 charY rfl ?_
  refine x_nil 6 138 spanY rfl ?_
  refine x_loop (σ := Int × Bool × List Part × List Chr × List Spn) (fun (i, b, _, L, M) => ⟨[(8, .v (.int .i64 i)), (7, .v (.bool b)), (6, .r 3), (5, .r 2), (0, .v (.string s))], [], [(3, .row 138 (spanY.d M)), (2, .row 75 (charY.d L))], 4⟩)
    (fun (i, b, pre, L, M) _ => 0 ≤ i ∧ i ≤ s.size ∧ pre.length ≤ i ∧ partsV s = pre ++ partsAt s i ∧ L = chrsL pre ∧ M = spnsL pre ∧ b = lastSp pre) (fun (i, _) => (s.size - i).toNat) (fun (_, _) => by simp only; omega) (0, false, [], [], []) [(2, some 0), (3, some 1)] (.of rfl rfl rfl rfl rfl rfl)
    ⟨by omega, by omega, by simp, rfl, rfl, rfl, rfl⟩ ?_
  rintro ⟨i, b, pre, L, M⟩ u hu ⟨g1, g2, g3, g4, g5, g6, g7⟩
  have hL := chrsL_len pre
  have hM := spnsL_len pre
  rw [← g5] at hL
  rw [← g6] at hM
  refine x_vc tt_ok ?_
  refine x_if (fun h => ?_) (fun h => ?_)
  · have h2 : i < s.size := of_decide_eq_true h
    obtain ⟨hl1, hl2⟩ := partP_len s g1 h2
    rw [partsAt_eq g1 h2] at g4
    have e0 : (partP s i).len = chN s i + (if spl s i then 1 else 0) := partP_len_eq s i
    have hp := chN_pos s i
    have hLs := lastSp_snoc pre (partP s i)
    have g4' : partsV s = (pre ++ [partP s i]) ++ partsAt s (i + (partP s i).len) := by rw [g4]; simp
    have gl : ((pre ++ [partP s i]).length : Int) ≤ i + (partP s i).len := by rw [List.length_append]; simp; omega
    refine xl_call0 (.int .i64 (spN s i)) rfl rfl rfl rfl fn85 rfl rfl (fun E w F h => refSplice_any s i w g1 h2 (by omega)) ?_
    refine xl_go tt_ok ?_
    refine x_if (fun h3 => ?_) (fun h3 => ?_)
    · have hsp : spl s i = true := by
        cases hsp : spl s i
        · have h4 : 0 < spN s i := of_decide_eq_true h3
          rw [spN, if_neg (by rw [hsp]; simp)] at h4; omega
        · rfl
      have hps : (partP s i).sp = true := by rw [partP, if_pos hsp]
      have hN : spN s i = (partP s i).len := by rw [spN, if_pos hsp, e0, if_pos hsp]
      have c1 : chrsL (pre ++ [partP s i]) = L := by rw [chrsL_append, ← g5]; simp [chrsL, hps]
      have c2 : spnsL (pre ++ [partP s i]) = M ++ [⟨i, i + (partP s i).len⟩] := by rw [spnsL_append, ← g6]; simp [spnsL, hps, partP_pos]
      rw [hps] at hLs
      rw [hN]
      repeat (refine And.intro ?_ ?_; first | omega | (simp only [decide_eq_true_eq, decide_eq_false_iff_not, Bool.or_eq_false_iff, Bool.and_eq_true, Bool.or_eq_true, Bool.and_eq_false_iff, Bool.not_eq_true', Bool.not_eq_false']; omega))
      refine xl_push tt_ok spanY M ⟨i, i + (partP s i).len⟩ 16 rfl rfl rfl rfl rfl rfl rfl rfl rfl rfl rfl rfl (by kernel_rfl) rfl rfl rfl rfl rfl (fun n hn => by cases hn; decide) rfl rfl rfl (by omega) (by omega) ?_
      refine xl_go tt_ok ?_
      repeat (refine And.intro ?_ ?_; first | omega | (simp only [decide_eq_true_eq, decide_eq_false_iff_not, Bool.or_eq_false_iff, Bool.and_eq_true, Bool.or_eq_true, Bool.and_eq_false_iff, Bool.not_eq_true', Bool.not_eq_false']; omega))
      exact again (i + (partP s i).len, decide (0 < (partP s i).len), pre ++ [partP s i], L, _) [(3, some 4)] (.of rfl rfl rfl rfl rfl rfl) ⟨by omega, by omega, gl, g4', c1.symm, c2.symm, by rw [hLs, decide_eq_true (by omega)]⟩ (by simp only; omega)
    · have hsp : spl s i = false := by
        cases hsp : spl s i
        · rfl
        · have h4 : ¬ 0 < spN s i := of_decide_eq_false h3
          rw [spN, if_pos hsp] at h4; omega
      have hps : partP s i = ⟨chB s i, i, chN s i, false⟩ := by rw [partP, if_neg (by rw [hsp]; simp)]
      have hN0 : spN s i = 0 := by rw [spN, if_neg (by rw [hsp]; simp)]
      have c1 : chrsL (pre ++ [partP s i]) = L ++ [⟨chB s i, i, chN s i⟩] := by rw [chrsL_append, ← g5, hps]; rfl
      have c2 : spnsL (pre ++ [partP s i]) = M := by rw [spnsL_append, ← g6, hps]; simp [spnsL]
      have hlen : (partP s i).len = chN s i := by rw [hps]
      rw [hps] at hLs
      refine xl_call0 (.tuple #[.int .u8 (triV s i), .bool (isTri s i)]) rfl rfl rfl rfl fn45 rfl rfl (fun E w F hs => tri_any s i w g1 (by omega) (by omega)) ?_
      refine xl_go tt_ok ?_
      rw [isTri_triB]
      refine x_if (fun h4 => ?_) (fun h4 => ?_)
      · have ht : triB s i = false := by simpa using h4
        have eN : chN s i = 1 := by rw [chN, if_neg (by rw [ht]; simp)]
        have eB : chB s i = bt s i := by rw [chB, if_neg (by rw [ht]; simp)]
        rw [eN, eB] at c1
        repeat (refine And.intro ?_ ?_; first | omega | (simp only [decide_eq_true_eq, decide_eq_false_iff_not, Bool.or_eq_false_iff, Bool.and_eq_true, Bool.or_eq_true, Bool.and_eq_false_iff, Bool.not_eq_true', Bool.not_eq_false']; omega))
        refine xl_push tt_ok charY L ⟨bt s i, i, 1⟩ 24 rfl rfl rfl rfl rfl rfl rfl rfl rfl rfl rfl rfl (by kernel_rfl) rfl rfl rfl rfl rfl (fun n hn => by cases hn; decide) rfl rfl rfl (by omega) (by omega) ?_
        refine xl_go tt_ok ?_
        repeat (refine And.intro ?_ ?_; first | omega | (simp only [decide_eq_true_eq, decide_eq_false_iff_not, Bool.or_eq_false_iff, Bool.and_eq_true, Bool.or_eq_true, Bool.and_eq_false_iff, Bool.not_eq_true', Bool.not_eq_false']; omega))
        exact again (i + 1, decide (0 < spN s i), pre ++ [partP s i], _, M) [(2, some 4)] (.of rfl rfl rfl rfl rfl rfl) ⟨by omega, by omega, by omega, by rw [g4', hlen, eN], c1.symm, c2.symm, by rw [hps, hLs, decide_eq_false (by omega)]⟩ (by simp only; omega)
      · have ht : triB s i = true := by simpa using h4
        have eN : chN s i = 3 := by rw [chN, if_pos ht]
        have eB : chB s i = triV s i := by rw [chB, if_pos ht, triV, isTri_triB, if_pos ht]
        rw [eN, eB] at c1
        repeat (refine And.intro ?_ ?_; first | omega | (simp only [decide_eq_true_eq, decide_eq_false_iff_not, Bool.or_eq_false_iff, Bool.and_eq_true, Bool.or_eq_true, Bool.and_eq_false_iff, Bool.not_eq_true', Bool.not_eq_false']; omega))
        refine xl_push tt_ok charY L ⟨triV s i, i, 3⟩ 24 rfl rfl rfl rfl rfl rfl rfl rfl rfl rfl rfl rfl (by kernel_rfl) rfl rfl rfl rfl rfl (fun n hn => by cases hn; decide) rfl rfl rfl (by omega) (by omega) ?_
        refine xl_go tt_ok ?_
        repeat (refine And.intro ?_ ?_; first | omega | (simp only [decide_eq_true_eq, decide_eq_false_iff_not, Bool.or_eq_false_iff, Bool.and_eq_true, Bool.or_eq_true, Bool.and_eq_false_iff, Bool.not_eq_true', Bool.not_eq_false']; omega))
        exact again (i + 3, decide (0 < spN s i), pre ++ [partP s i], _, M) [(2, some 4)] (.of rfl rfl rfl rfl rfl rfl) ⟨by omega, by omega, by omega, by rw [g4', hlen, eN], c1.symm, c2.symm, by rw [hps, hLs, decide_eq_false (by omega)]⟩ (by simp only; omega)
  · have h2 : ¬ i < s.size := of_decide_eq_false h
    rw [partsAt_end h2, List.append_nil] at g4
    rw [← g4] at g5 g6 g7
    subst g5 g6 g7
    exact finP (fun E w' F hs hu => ⟨_, _, rfl, (hs.rowOwn (k := 2) rfl hu).slAt, (hs.rowOwn (k := 3) rfl hu).slAt⟩)
theorem snoc_cases {α : Type} (L : List α) : L = [] ∨ ∃ M x, L = M ++ [x] := by
  rcases List.eq_nil_or_concat L with h | ⟨M, x, h⟩
  · exact .inl h
  · exact .inr ⟨M, x, by rw [h, List.concat_eq_append]⟩
theorem checkE_ref (s : ByteArray) (hs : s.size ≤ 65536) : checkE s = if 0 < s.size ∧ (lastSp (partsV s) = true ∨ bt s ((s.size : Int) - 1) ≠ 10) then 10 else 0 := by
  rw [checkE_of hs]
  rcases snoc_cases (partsV s) with h | ⟨pre, p, h⟩
  · rw [h]
    by_cases h0 : 0 < s.size
    · exfalso
      have := partsAt_eq (s := s) (i := 0) (Int.le_refl _) (by omega)
      rw [show partsAt s 0 = partsV s from rfl, h] at this
      cases this
    · rw [if_neg (fun hh => h0 hh.1)]; rfl
  · obtain ⟨q, k1, k2, k3, _, k5⟩ := parts_split (s := s) pre 0 [p] (Int.le_refl _) (by omega) h
    have hq : q < s.size := by
      by_cases hq : q < s.size
      · exact hq
      · rw [partsAt_end hq] at k3; cases k3
    have hl := partP_len s k1 hq
    rw [partsAt_eq k1 hq, List.cons.injEq] at k3
    obtain ⟨rfl, k4⟩ := k3
    have hend : q + (partP s q).len = s.size := by
      by_cases hh : q + (partP s q).len < s.size
      · rw [partsAt_eq (by omega) hh] at k4; cases k4
      · omega
    rw [h, checkL_skip (fun x hx => by have := k5 x hx; omega), lastSp_snoc]
    simp only [checkL]
    rw [if_pos (by rw [partP_pos]; exact hend)]
    cases hsp : (partP s q).sp
    · have hb : (partP s q).b ≠ 10 ↔ bt s ((s.size : Int) - 1) ≠ 10 := by
        rcases cov_char hsp with ⟨c1, c2, c3, c4, c5, c6⟩ | ⟨c1, c2⟩
        · rw [c6]
          rw [show (s.size : Int) - 1 = q + 2 by omega]
          refine ⟨fun _ h10 => ?_, fun _ => third_ne10 _⟩
          rw [h10, isThird10] at c5; cases c5
        · rw [c2, show (s.size : Int) - 1 = q by omega]
      by_cases h10 : (partP s q).b = 10
      · rw [if_neg (by simp [h10]), if_neg]
        rintro ⟨_, h2 | h2⟩
        · cases h2
        · exact hb.2 h2 h10
      · rw [if_pos (by simp [h10]), if_pos ⟨by omega, .inr (hb.1 h10)⟩]
    · rw [Bool.true_or, if_pos rfl, if_pos ⟨by omega, .inl rfl⟩]
set_option maxRecDepth 100000 in
theorem refCheck_any (s : ByteArray) (w : World) (hs : s.size ≤ 9223372036854775807) : Calls Tryz.prog 68 #[.string s] w (PureP w fun v _ => v = .int .i64 (checkE s)) := by
  refine x_fun tt_ok Tryz.func68 rfl rfl [] 0 [.v (.string s)] rfl rfl rfl rfl (fun b hb => by cases hb) ?_
  refine x_vc tt_ok ?_
  refine x_if (fun h => ?_) (fun h => ?_)
  · have h := of_decide_eq_true h
    refine fin1 (fun _ _ => ?_)
    rw [checkE, if_pos (by omega)]; rfl
  · have h := of_decide_eq_false h
    refine xl_call _ rfl rfl rfl rfl fn69 rfl rfl (fun E w F _ => both_any s w (by omega)) (fun v u1 u2 hu2 hs2 hv => ?_)
    obtain ⟨x, y, rfl, hx, hy⟩ := hv
    refine xl_go tt_ok ?_
    repeat (refine And.intro ?_ ?_; first | omega | (simp only [decide_eq_true_eq, decide_eq_false_iff_not, Bool.or_eq_false_iff, Bool.and_eq_true, Bool.or_eq_true, Bool.and_eq_false_iff, Bool.not_eq_true', Bool.not_eq_false']; omega))
    have e := checkE_ref s (by omega)
    refine x_if (fun h2 => ?_) (fun h2 => ?_)
    · have h2 : (decide (0 < (s.size : Int)) && (lastSp (partsV s) || decide (bt s ((s.size : Int) - 1) ≠ 10))) = true := h2
      simp only [Bool.and_eq_true, Bool.or_eq_true, decide_eq_true_eq] at h2
      refine fin1 (fun _ _ => ?_)
      rw [e, if_pos ⟨by omega, h2.2⟩]; rfl
    · have h2 : (decide (0 < (s.size : Int)) && (lastSp (partsV s) || decide (bt s ((s.size : Int) - 1) ≠ 10))) = false := h2
      refine fin1 (fun _ _ => ?_)
      rw [e, if_neg]; · rfl
      rintro ⟨k1, k2⟩
      rw [decide_eq_true (show 0 < (s.size : Int) by omega)] at h2
      rcases k2 with k2 | k2
      · rw [k2] at h2; cases h2
      · rw [decide_eq_true k2] at h2; simp at h2
def SlT {α : Type} (Y : Lay α) (L : List α) (e : Int) (v : Value) (u : Im) : Prop := ∃ x, v = .tuple #[x, .int .i64 e] ∧ SlAt u x (Y.d L)
theorem SlAt.none {α : Type} (Y : Lay α) (u : Im) : SlAt u (.slice none 0 0) (Y.d []) := ⟨_, 0, rfl, Nat.zero_le _, by decide, fun h => by cases h⟩
set_option maxRecDepth 100000 in
theorem refChars_any (s : ByteArray) (w : World) (hs : s.size ≤ 9223372036854775807) : Calls Tryz.prog 46 #[.string s] w (PureP w (SlT charY (charsOf s) (checkE s))) := by
  refine x_fun tt_ok Tryz.func46 rfl rfl [] 0 [.v (.string s)] rfl rfl rfl rfl (fun b hb => by cases hb) ?_
  refine x_vc tt_ok ?_
  refine xl_call0 (.int .i64 (checkE s)) rfl rfl rfl rfl fn68 rfl rfl (fun E w F _ => refCheck_any s w hs) ?_
  refine xl_go tt_ok ?_
  refine x_if (fun h => ?_) (fun h => ?_)
  · have h := of_decide_eq_true h
    rw [charsOf, if_neg h]
    exact finP (fun E w' F hs hu => ⟨_, rfl, SlAt.none charY _⟩)
  · have h : checkE s = 0 := Classical.not_not.1 (of_decide_eq_false h)
    have hsz := checkE_size h
    refine xl_call _ rfl rfl rfl rfl fn69 rfl rfl (fun E w F _ => both_any s w (by omega)) (fun v u1 u2 hu2 hs2 hv => ?_)
    obtain ⟨x, y, rfl, hx, hy⟩ := hv
    refine xl_go tt_ok ?_
    rw [charsOf, if_pos h, h]
    exact finP (fun E w' F hs hu => ⟨_, rfl, (hx.sub hs2).sub (hs.imm.cutLe _)⟩)
theorem bytes_chrs (L : List Part) : (chrsL L).map (fun c => UInt8.ofNat c.b.toNat) = bytesL L := by
  induction L with
  | nil => rfl
  | cons p L ih => simp only [chrsL, bytesL]; split <;> simp [ih]
theorem charsOf_b {s : ByteArray} {c : Chr} (h : c ∈ charsOf s) : 0 ≤ c.b ∧ c.b ≤ 255 := by
  unfold charsOf at h
  split at h
  · obtain ⟨p, hp, _, rfl⟩ := chrsL_mem h
    obtain ⟨_, _, _, _, q4⟩ := partsV_mem hp
    rw [q4]
    exact partP_b s p.pos
  · cases h
def chrB (c : Chr) : UInt8 := UInt8.ofNat c.b.toNat
theorem logical_chrs (s : ByteArray) : logicalOf s = ⟨((charsOf s).map chrB).toArray⟩ := by
  unfold logicalOf charsOf
  split
  · rw [show (chrsL (partsV s)).map chrB = bytesL (partsV s) from bytes_chrs _]
  · rfl
theorem take_snoc {α : Type} {L : List α} {i : Int} {d : α} (h0 : 0 ≤ i) (h1 : i < L.length) : L.take (i + 1).toNat = L.take i.toNat ++ [L.getD i.toNat d] := by
  have hk : i.toNat < L.length := by omega
  rw [show (i + 1).toNat = i.toNat + 1 by omega, ← List.take_append_getElem hk, List.getD_eq_getElem?_getD, List.getElem?_eq_getElem hk]; rfl
set_option maxRecDepth 100000 in
theorem refLogical_any (s : ByteArray) (w : World) (hs : s.size ≤ 140737488355328) : Calls Tryz.prog 47 #[.string s] w (PureP w fun v _ => v = .tuple #[.string (logicalOf s), .int .i64 (checkE s)]) := by
  refine x_fun tt_ok Tryz.func47 rfl rfl [] 0 [.v (.string s)] rfl rfl rfl rfl (fun b hb => by cases hb) ?_
  refine x_vc tt_ok ?_
  refine xl_call _ rfl rfl rfl rfl fn46 rfl rfl (fun E w F _ => refChars_any s w (by omega)) (fun v u1 u2 hu2 hs2 hv => ?_)
  obtain ⟨x, rfl, hx⟩ := hv
  obtain ⟨A, c, rfl⟩ := hx.form
  refine xl_go tt_ok ?_
  have la := @charsOf_len s
  refine x_nil 6 5 byteY rfl ?_
  refine x_sl 4 rfl (hx.sub hs2).uncut ?_
  refine x_loop (σ := Int × List UInt8) (fun (i, L) => ⟨[(7, .v (.int .i64 i)), (6, .r 2), (5, .v (.int .i64 (checkE s))), (4, .r 1)], [], [(2, .row 5 (byteY.d L)), (1, .sl (charY.d (charsOf s)))], 3⟩)
    (fun (i, L) _ => 0 ≤ i ∧ i ≤ (charsOf s).length ∧ L = ((charsOf s).take i.toNat).map chrB) (fun (i, _) => ((charsOf s).length - i).toNat) (fun (_, _) => by simp only; omega) (0, []) [(2, some 0)] (.of rfl rfl rfl rfl rfl rfl) ⟨by omega, by omega, rfl⟩ ?_
  rintro ⟨i, L⟩ u hu ⟨g1, g2, g3⟩
  have hLl : L.length ≤ i := by rw [g3, List.length_map, List.length_take]; omega
  refine x_vc tt_ok ?_
  refine x_if (fun h => ?_) (fun h => ?_)
  · have h2 : i < (charsOf s).length := of_decide_eq_true h
    have hk : i.toNat < (charsOf s).length := by omega
    have hb := charsOf_b (s := s) (c := (charsOf s).getD i.toNat charY.dft) (by rw [List.getD_eq_getElem?_getD, List.getElem?_eq_getElem hk]; exact List.getElem_mem hk)
    have hbk : ((chrB ((charsOf s).getD i.toNat charY.dft)).toNat : Int) = ((charsOf s).getD i.toNat charY.dft).b := u8_back hb.1 hb.2
    have e : ((charsOf s).take (i + 1).toNat).map chrB = L ++ [chrB ((charsOf s).getD i.toNat charY.dft)] := by
      rw [take_snoc (d := charY.dft) g1 h2, List.map_append, ← g3]; rfl
    repeat (refine And.intro ?_ ?_; first | omega | (simp only [Lay.d_n]; omega) | (simp only [decide_eq_true_eq, decide_eq_false_iff_not, Bool.or_eq_false_iff, Bool.and_eq_true, Bool.or_eq_true, Bool.and_eq_false_iff, Bool.not_eq_true', Bool.not_eq_false']; omega))
    refine xl_push tt_ok byteY L (chrB ((charsOf s).getD i.toNat charY.dft)) 1 (cs := [.int .u8 ((charsOf s).getD i.toNat charY.dft).b]) rfl rfl rfl rfl rfl rfl rfl rfl rfl rfl rfl rfl (by kernel_rfl) rfl rfl
      (by show [Value.int .u8 _] = _; rw [hbk]) rfl rfl (fun n hn => by cases hn; decide) rfl rfl rfl (by omega) (by omega) ?_
    refine xl_go tt_ok ?_
    repeat (refine And.intro ?_ ?_; first | omega | (simp only [Lay.d_n]; omega) | (simp only [decide_eq_true_eq, decide_eq_false_iff_not, Bool.or_eq_false_iff, Bool.and_eq_true, Bool.or_eq_true, Bool.and_eq_false_iff, Bool.not_eq_true', Bool.not_eq_false']; omega))
    exact again (i + 1, _) [(2, some 3)] (.of rfl rfl rfl rfl rfl rfl) ⟨by omega, by omega, e.symm⟩ (by simp only; omega)
  · have h2 : ¬ i < (charsOf s).length := of_decide_eq_false h
    rw [List.take_of_length_le (by omega)] at g3
    refine xl_bytesStr L rfl rfl rfl rfl Tryz.underlying59 Tryz.underlying5 Tryz.underlying9 rfl (fun E w F hs => hs.rowAt (k := 2) rfl) ?_
    refine xl_go tt_ok ?_
    refine fin1 (fun _ _ => ?_)
    rw [logical_chrs, ← g3]; rfl
end Go.Proofs.YtnjmkeijjapejaaGreat.Ph
