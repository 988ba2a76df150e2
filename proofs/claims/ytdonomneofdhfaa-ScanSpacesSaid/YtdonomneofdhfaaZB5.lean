/- The statement of ScanSpaces, out of its walk: for any input the law answers true, and the input stays. -/
import Derived.Test.YtdonomneofdhfaaZB4
import Derived.Test.YtdonomneofdhfaaRows
import Derived.ProofKit
import Derived.OpenShut
import Derived.ShutString
import Derived.ChangeOld
import Derived.Below
import Derived.SizedLaws
import Derived.HandedShaped
set_option linter.unusedSimpArgs false
set_option linter.unusedVariables false
namespace Go.GV
open Go.RowKit
theorem getD_set (L : Array Bool) (i j : Nat) (d : Bool) : (L.setIfInBounds i true).getD j d = if i = j ∧ i < L.size then true else L.getD j d := by
  simp only [Array.getD_eq_getD_getElem?, Array.getElem?_setIfInBounds]
  by_cases h : i = j
  · subst h
    by_cases h2 : i < L.size
    · simp [h2]
    · simp [h2]
  · simp [h]
theorem getD_ne {L : Array Bool} {i j : Nat} {d : Bool} (h : ¬ i = j) : (L.setIfInBounds i true).getD j d = L.getD j d := by
  rw [getD_set]; simp [h]
theorem getD_eq {L : Array Bool} {i : Nat} {d : Bool} (h : i < L.size) : (L.setIfInBounds i true).getD i d = true := by
  rw [getD_set]; simp [h]
theorem marks_size : ∀ (l : List Nat) (L : Array Bool), (marks L l).size = L.size
  | [], _ => rfl
  | i :: r, L => by rw [marks, marks_size r]; simp
theorem marks_getD : ∀ (l : List Nat) (L : Array Bool) (j : Nat) (d : Bool), (∀ i ∈ l, i < L.size) → (marks L l).getD j d = if j ∈ l then true else L.getD j d
  | [], _, _, _, _ => by simp [marks]
  | i :: r, L, j, d, h => by
    rw [marks, marks_getD r _ j d (fun x hx => by simpa using h x (List.mem_cons_of_mem _ hx)), getD_set]
    have hi := h i (List.mem_cons_self ..)
    by_cases h1 : j ∈ r
    · simp [h1]
    · by_cases h2 : i = j
      · subst h2; simp [h1, hi]
      · have : ¬ j = i := fun h => h2 h.symm
        simp [h1, h2, this]
def lexO (md : Region.Mode) (ops : Array Oper) : List Nat → Array Bool → Bool
  | [], _ => true
  | i :: r, L => (Region.ready md ops L).contains i && lexO md ops r (L.setIfInBounds i true)
def sucL (md : Region.Mode) (ops : Array Oper) (z : Nat) : List Nat → Bool
  | [] => true
  | i :: r => (decide (i = z) || r.any fun j => ((ops[j]?).map (·.after.any fun e => Region.binds md e && decide (e.on = i))).getD false) && sucL md ops z r
def outL (md : Region.Mode) (ops : Array Oper) (T : Array Bool) (z i0 : Nat) : Bool :=
  (List.range ops.size).all fun j => T.getD j true || decide (j = i0) || ((ops[j]?).map (·.after.any fun e => Region.binds md e && (decide (e.on = z) || !T.getD e.on false))).getD true
theorem lexO_split {md : Region.Mode} {ops : Array Oper} : ∀ (pre : List Nat) (i : Nat) (post : List Nat) (L : Array Bool), lexO md ops (pre ++ i :: post) L = true → i ∈ Region.ready md ops (marks L pre)
  | [], i, post, L, h => by
    simp only [List.nil_append, lexO, Bool.and_eq_true, List.contains_iff_mem] at h
    exact h.1
  | p :: pre, i, post, L, h => by
    simp only [List.cons_append, lexO, Bool.and_eq_true] at h
    exact lexO_split pre i post _ h.2
theorem sucL_all {md : Region.Mode} {ops : Array Oper} {z : Nat} {L : Array Bool} (hz : L.getD z false = true) : ∀ (l : List Nat), sucL md ops z l = true →
    (∀ j ∈ l, L.getD j false = true → ∀ o, ops[j]? = some o → ∀ e ∈ o.after, Region.binds md e = true → L.getD e.on false = true) → ∀ i ∈ l, L.getD i false = true
  | [], _, _, i, hi => by cases hi
  | p :: r, h, hD, i, hi => by
    simp only [sucL, Bool.and_eq_true, Bool.or_eq_true, decide_eq_true_eq, List.any_eq_true] at h
    have ih := sucL_all hz r h.2 (fun j hj => hD j (List.mem_cons_of_mem _ hj))
    rcases List.mem_cons.1 hi with rfl | hi
    · rcases h.1 with h1 | ⟨j, hj, h1⟩
      · rw [h1]; exact hz
      · cases ho : ops[j]? with
        | none => rw [ho] at h1; cases h1
        | some o =>
          rw [ho] at h1
          simp only [Option.map_some, Option.getD_some] at h1
          obtain ⟨e, he, h2⟩ := Array.any_eq_true'.1 h1
          simp only [Bool.and_eq_true, decide_eq_true_eq] at h2
          have := hD j (List.mem_cons_of_mem _ hj) (ih j hj) o ho e he h2.1
          rw [h2.2] at this; exact this
    · exact ih i hi
structure Mid (md : Region.Mode) (ops : Array Oper) (L0 : Array Bool) (l : List Nat) (L : Array Bool) : Prop where
  sz : L.size = L0.size
  lo : ∀ i, i ∉ l → L.getD i false = L0.getD i false
  dn : ∀ j ∈ l, L.getD j false = true → ∀ o, ops[j]? = some o → ∀ e ∈ o.after, Region.binds md e = true → L.getD e.on false = true
def unl (L : Array Bool) (l : List Nat) : Nat := (l.filter fun i => !L.getD i false).length
theorem unl_set {L : Array Bool} {i : Nat} (hi : i < L.size) (h : L.getD i false = false) : ∀ (l : List Nat), l.Nodup → i ∈ l → unl (L.setIfInBounds i true) l + 1 = unl L l
  | [], _, hm => by cases hm
  | p :: r, hnd, hm => by
    have hn := List.nodup_cons.1 hnd
    by_cases hp : p = i
    · subst hp
      have e : r.filter (fun j => !(L.setIfInBounds p true).getD j false) = r.filter (fun j => !L.getD j false) := by
        refine List.filter_congr fun j hj => ?_
        exact congrArg _ (getD_ne (fun h => hn.1 (h ▸ hj)))
      unfold unl
      rw [List.filter_cons, List.filter_cons, e, getD_eq hi, h]
      simp
    · have hm : i ∈ r := by
        rcases List.mem_cons.1 hm with h | h
        · exact absurd h.symm hp
        · exact h
      have ih := unl_set hi h r hn.2 hm
      unfold unl at ih ⊢
      rw [List.filter_cons, List.filter_cons, getD_ne (fun h => hp h.symm)]
      split
      · simp only [List.length_cons]; omega
      · exact ih
theorem unl_zero {L : Array Bool} : ∀ {l : List Nat}, unl L l = 0 ↔ ∀ i ∈ l, L.getD i false = true := by
  intro l
  unfold unl
  rw [List.length_eq_zero_iff, List.filter_eq_nil_iff]
  simp
theorem Mid.set {md : Region.Mode} {ops : Array Oper} {L0 L : Array Bool} {l : List Nat} (h : Mid md ops L0 l L) {i : Nat} (hi : i ∈ l) (hr : i ∈ Region.ready md ops L) (hsz : i < L.size) : Mid md ops L0 l (L.setIfInBounds i true) := by
  obtain ⟨h1, o, ho, h2⟩ := Go.mem_ready.1 hr
  refine ⟨by rw [Array.size_setIfInBounds]; exact h.sz, fun j hj => ?_, fun j hj hl o' ho' e he hb => ?_⟩
  · rw [getD_ne (fun hh : i = j => hj (hh ▸ hi))]; exact h.lo j hj
  · rw [getD_set]
    split
    · rfl
    · by_cases hji : i = j
      · subst hji
        rw [ho] at ho'; cases ho'
        exact h2 e he hb
      · rw [getD_ne hji] at hl
        exact h.dn j hj hl o' ho' e he hb
theorem Mid.last {md : Region.Mode} {ops : Array Oper} {L0 L : Array Bool} {l : List Nat} (h : Mid md ops L0 l L) (hl : ∀ i ∈ l, i < L0.size) (h0 : unl L l = 0) : L = marks L0 l := by
  have ha := unl_zero.1 h0
  refine Array.ext (by rw [marks_size, h.sz]) fun i h1 h2 => ?_
  have e1 : L.getD i false = L[i] := by simp [Array.getD, h1]
  have e2 : (marks L0 l).getD i false = (marks L0 l)[i] := by simp [Array.getD, h2]
  rw [← e1, ← e2, marks_getD l L0 i false hl]
  by_cases hi : i ∈ l
  · rw [if_pos hi]; exact ha i hi
  · rw [if_neg hi]; exact h.lo i hi
theorem Mid.inside {md : Region.Mode} {ops : Array Oper} {L0 L : Array Bool} {l : List Nat} {z i0 k : Nat} (h : Mid md ops L0 l L) (hl : ∀ i ∈ l, i < L0.size) (hz : z ∈ l) (hs : sucL md ops z l = true)
    (ho : outL md ops (marks L0 l) z i0 = true) (hk : unl L l = k + 1) {i : Nat} (hi : i ∈ Region.ready md ops L) : i = i0 ∨ i ∈ l := by
  obtain ⟨h1, o, hoi, h2⟩ := Go.mem_ready.1 hi
  have hzL : L.getD z false = false := by
    cases hzz : L.getD z false with
    | false => rfl
    | true => rw [unl_zero.2 (sucL_all hzz l hs h.dn)] at hk; omega
  have hout := List.all_eq_true.1 ho i (List.mem_range.2 (Array.getElem?_eq_some_iff.1 hoi).1)
  simp only [Bool.or_eq_true, decide_eq_true_eq] at hout
  rcases hout with (hout | hout) | hout
  · rw [marks_getD l L0 i true hl] at hout
    by_cases hil : i ∈ l
    · exact .inr hil
    · rw [if_neg hil] at hout
      exfalso
      have e := h.lo i hil
      by_cases hsz : i < L0.size
      · have e1 : L0.getD i true = L0.getD i false := by simp [Array.getD, hsz]
        have e2 : L.getD i true = L.getD i false := by
          have : i < L.size := by rw [h.sz]; exact hsz
          simp [Array.getD, this]
        rw [e1, ← e, ← e2, h1] at hout; cases hout
      · have : ¬ i < L.size := by rw [h.sz]; exact hsz
        simp [Array.getD, this] at h1
  · exact .inl hout
  · rw [hoi] at hout
    simp only [Option.map_some, Option.getD_some] at hout
    obtain ⟨e, he, h3⟩ := Array.any_eq_true'.1 hout
    simp only [Bool.and_eq_true, Bool.or_eq_true, decide_eq_true_eq, Bool.not_eq_true'] at h3
    have h4 := h2 e he h3.1
    rcases h3.2 with h5 | h5
    · rw [h5, hzL] at h4; cases h4
    · rw [marks_getD l L0 _ false hl] at h5
      split at h5
      · cases h5
      · rename_i hn; rw [h.lo _ hn, h5] at h4; cases h4
theorem ready_lt {md : Region.Mode} {ops : Array Oper} {L : Array Bool} {i : Nat} (h : i ∈ Region.ready md ops L) : i < L.size := by
  obtain ⟨h1, _⟩ := Go.mem_ready.1 h
  rcases Nat.lt_or_ge i L.size with h2 | h2
  · exact h2
  · have : ¬ i < L.size := by omega
    simp [Array.getD, this] at h1
theorem ready_un {md : Region.Mode} {ops : Array Oper} {L : Array Bool} {i : Nat} (h : i ∈ Region.ready md ops L) : L.getD i false = false := by
  have hlt := ready_lt h
  obtain ⟨h1, _⟩ := Go.mem_ready.1 h
  simpa [Array.getD, hlt] using h1
theorem phaseX_mid {md : Region.Mode} {ops : Array Oper} {L0 : Array Bool} {l : List Nat} {z i0 : Nat} (hl : ∀ i ∈ l, i < L0.size) (hnd : l.Nodup) (hz : z ∈ l) (hs : sucL md ops z l = true)
    (ho : outL md ops (marks L0 l) z i0 = true) : ∀ (k : Nat) (L : Array Bool), Mid md ops L0 l L → unl L l = k → phaseX md ops i0 (marks L0 l) k L = true
  | 0, L, h, hk => by
    rw [phaseX]; exact decide_eq_true (h.last hl hk)
  | k + 1, L, h, hk => by
    rw [phaseX, List.all_eq_true]
    intro i hi
    rcases h.inside hl hz hs ho hk hi with rfl | hil
    · simp
    · have := unl_set (ready_lt hi) (ready_un hi) l hnd hil
      rw [phaseX_mid hl hnd hz hs ho k _ (h.set hil hi (ready_lt hi)) (by omega)]; simp
theorem phaseB_mid {md : Region.Mode} {ops : Array Oper} {L0 : Array Bool} {l : List Nat} {z : Nat} (hl : ∀ i ∈ l, i < L0.size) (hnd : l.Nodup) (hz : z ∈ l) (hs : sucL md ops z l = true)
    (ho : outL md ops (marks L0 l) z ops.size = true) (hx : lexO md ops l L0 = true) : ∀ (k : Nat) (L : Array Bool), Mid md ops L0 l L → unl L l = k → phaseB md ops (marks L0 l) k L = true
  | 0, L, h, hk => by
    rw [phaseB]; exact decide_eq_true (h.last hl hk)
  | k + 1, L, h, hk => by
    rw [phaseB, Bool.and_eq_true, List.all_eq_true]
    constructor
    · have hsp : ∀ (post pre : List Nat), l = pre ++ post → (∀ i ∈ pre, L.getD i false = true) → unl L post ≠ 0 → ∃ i, i ∈ Region.ready md ops L := by
        intro post
        induction post with
        | nil => intro pre _ _ hne; exact absurd rfl hne
        | cons p post ih =>
          intro pre e hpre hne
          cases hp : L.getD p false with
          | true =>
            refine ih (pre ++ [p]) (by rw [e]; simp) (fun i hi => ?_) ?_
            · rcases List.mem_append.1 hi with hi | hi
              · exact hpre i hi
              · rw [List.mem_singleton.1 hi]; exact hp
            · intro h0
              apply hne
              rw [unl_zero] at h0 ⊢
              intro i hi
              rcases List.mem_cons.1 hi with rfl | hi
              · exact hp
              · exact h0 i hi
          | false =>
            have hr := lexO_split pre p post L0 (e ▸ hx)
            obtain ⟨h1, o, hop, h2⟩ := Go.mem_ready.1 hr
            have hps : p < L.size := by rw [h.sz]; exact hl p (by rw [e]; simp)
            refine ⟨p, Go.mem_ready.2 ⟨by simpa [Array.getD, hps] using hp, o, hop, fun e' he hb => ?_⟩⟩
            have h3 := h2 e' he hb
            rw [marks_getD pre L0 _ false (fun i hi => hl i (by rw [e]; simp [hi]))] at h3
            by_cases hm : e'.on ∈ pre
            · exact hpre _ hm
            · rw [if_neg hm] at h3
              by_cases hml : e'.on ∈ l
              · exfalso
                have hr2 := List.append_of_mem hml
                obtain ⟨a, c, ha⟩ := hr2
                have hra := lexO_split a e'.on c L0 (ha ▸ hx)
                have := ready_un hra
                rw [marks_getD a L0 _ false (fun i hi => hl i (by rw [ha]; simp [hi]))] at this
                split at this
                · cases this
                · rw [h3] at this; cases this
              · rw [h.lo _ hml]; exact h3
      obtain ⟨i, hi⟩ := hsp l [] rfl (fun i hi => by cases hi) (by rw [hk]; omega)
      cases hrr : Region.ready md ops L with
      | nil => rw [hrr] at hi; cases hi
      | cons a b => rfl
    · intro i hi
      rcases h.inside hl hz hs ho hk hi with rfl | hil
      · have hlt := (Array.getElem?_eq_some_iff.1 (Go.mem_ready.1 hi).2.choose_spec.1).1
        omega
      · have := unl_set (ready_lt hi) (ready_un hi) l hnd hil
        exact phaseB_mid hl hnd hz hs ho hx k _ (h.set hil hi (ready_lt hi)) (by omega)
def freshL (L0 : Array Bool) (l : List Nat) : Bool := l.all fun i => decide (i < L0.size) && !L0.getD i false
theorem Mid.start {md : Region.Mode} {ops : Array Oper} {L0 : Array Bool} {l : List Nat} (h : freshL L0 l = true) : Mid md ops L0 l L0 ∧ unl L0 l = l.length ∧ ∀ i ∈ l, i < L0.size := by
  have h := List.all_eq_true.1 h
  simp only [Bool.and_eq_true, decide_eq_true_eq, Bool.not_eq_true'] at h
  refine ⟨⟨rfl, fun _ _ => rfl, fun j hj hl => by rw [(h j hj).2] at hl; cases hl⟩, ?_, fun i hi => (h i hi).1⟩
  unfold unl
  rw [List.filter_eq_self.2 (fun i hi => by rw [(h i hi).2]; rfl)]
theorem phaseX_of {md : Region.Mode} {ops : Array Oper} {L0 : Array Bool} {l : List Nat} (z : Nat) {i0 : Nat} (hc : (freshL L0 l && decide l.Nodup && l.contains z && sucL md ops z l && outL md ops (marks L0 l) z i0) = true) :
    phaseX md ops i0 (marks L0 l) l.length L0 = true := by
  simp only [Bool.and_eq_true, decide_eq_true_eq, List.contains_iff_mem] at hc
  obtain ⟨⟨⟨⟨h1, h2⟩, h3⟩, h4⟩, h5⟩ := hc
  obtain ⟨m1, m2, m3⟩ := Mid.start (md := md) (ops := ops) h1
  exact phaseX_mid m3 h2 h3 h4 h5 _ _ m1 m2
theorem phaseB_of {md : Region.Mode} {ops : Array Oper} {L0 : Array Bool} {l : List Nat} (z : Nat) (hc : (freshL L0 l && decide l.Nodup && l.contains z && sucL md ops z l && outL md ops (marks L0 l) z ops.size && lexO md ops l L0) = true) :
    phaseB md ops (marks L0 l) l.length L0 = true := by
  simp only [Bool.and_eq_true, decide_eq_true_eq, List.contains_iff_mem] at hc
  obtain ⟨⟨⟨⟨⟨h1, h2⟩, h3⟩, h4⟩, h5⟩, h6⟩ := hc
  obtain ⟨m1, m2, m3⟩ := Mid.start (md := md) (ops := ops) h1
  exact phaseB_mid m3 h2 h3 h4 h5 h6 _ _ m1 m2
theorem xa_late2 {T : TT} {C : Cx} (hT : TOk C.P T) {ops : Array Oper} {Q : Post} {st : St} {u : Im} {fuel n d0 : Nat} {listed : Array Bool} {o0 : Oper} (i0 z : Nat) (l : List Nat) (hn : n = l.length + (fuel + 1))
    (ho : ops.toList[i0]? = some o0) (hd : o0.dst = some d0)
    (hsel : Region.noSelect ops = true) (ha : hasAll ops.toList (i0 :: l) = true) (hl : lexL .any ops (i0 :: l) listed = true) (hb : (freshL (listed.setIfInBounds i0 true) l && decide l.Nodup && l.contains z && sucL .any ops z l && outL .any ops (marks (listed.setIfInBounds i0 true) l) z ops.size && lexO .any ops l (listed.setIfInBounds i0 true)) = true)
    (hx : (freshL listed l && decide l.Nodup && l.contains z && sucL .any ops z l && outL .any ops (marks listed l) z i0) = true)
    (h : XD C ops.toList (opsAt ops.toList (i0 :: l)) (fun st => st.gk = [] ∧ XA C ops fuel (marks listed (i0 :: l)) Q st u ∧ XA C ops (fuel + 1) (marks listed l) Q ⟨forget d0 st.kn, [], st.ow, st.nx⟩ u) st u) : XA C ops n listed Q st u :=
  xa_late hT i0 l hn ho hd hsel ha hl (phaseB_of z hb) (phaseX_of z hx) h
end Go.GV
namespace Go.Proofs.Ytdonomneofdhfaa
open Go.GV Go.RowKit
noncomputable def pb (p : Prop) : Bool := @decide p (Classical.propDecidable p)
theorem pb_iff {p : Prop} : pb p = true ↔ p := by unfold pb; exact @decide_eq_true_iff p (Classical.propDecidable p)
theorem pb_true {p : Prop} (h : p) : pb p = true := pb_iff.2 h
theorem pb_false {p : Prop} (h : ¬ p) : pb p = false := by
  cases hb : pb p with
  | false => rfl
  | true => exact absurd (pb_iff.1 hb) h
structure Tok where
  kind : Int
  text : ByteArray
  lo : Int
  hi : Int
  space : Bool
def tok0 : Tok := ⟨0, ⟨#[]⟩, 0, 0, false⟩
abbrev tokY : Lay Tok := ⟨[fun t => .int .i64 t.kind, fun t => .string t.text, fun t => .int .i64 t.lo, fun t => .int .i64 t.hi, fun t => .bool t.space], tok0⟩
def gone (t : Tok) : Bool := decide (t.kind = 8) || decide (t.kind = 9)
def bareFrom (dr : Bool) : List Tok → List Tok
  | [] => []
  | t :: r => if gone t then bareFrom true r else { t with space := t.space || dr } :: bareFrom false r
theorem drop_at {α : Type} {L : List α} {i : Int} {d : α} (h0 : 0 ≤ i) (h : i < L.length) : L.drop i.toNat = L.getD i.toNat d :: L.drop (i + 1).toNat := by
  have hl : i.toNat < L.length := by omega
  rw [List.drop_eq_getElem_cons hl, show (i + 1).toNat = i.toNat + 1 by omega, List.getD_eq_getElem?_getD, List.getElem?_eq_getElem hl]; rfl
theorem bareFrom_le (dr : Bool) (L : List Tok) : (bareFrom dr L).length ≤ L.length := by
  induction L generalizing dr with
  | nil => simp [bareFrom]
  | cons t r ih =>
    simp only [bareFrom]
    split
    · have := ih true; simp; omega
    · have := ih false; simp; omega
set_option maxRecDepth 100000 in
theorem bare_any (L : List Tok) (x : Value) (w : World) (hx : SlAt (im w) x (tokY.d L)) (hL : L.length * 48 ≤ 140737488355328) :
    Calls Try.prog 46 #[x] w (PureP w fun v u => OwnAt u v 31 (tokY.d (bareFrom false L))) := by
  refine x_fun tt_ok Try.func46 rfl rfl [(x, tokY.d L)] 1 [.r 0] rfl rfl rfl rfl (fun b hb => by simp at hb; subst hb; exact hx) ?_
  refine x_vc tt_ok ?_
  refine x_nil 3 31 tokY rfl ?_
  refine x_loop (σ := Int × Bool × List Tok) (fun (i, dr, out) => ⟨[(9, .v (.int .i64 i)), (8, .v (.int .i64 L.length)), (7, .r 0), (4, .v (.bool dr)), (3, .r 2)], [], [(0, .sl (tokY.d L)), (2, .row 31 (tokY.d out))], 3⟩)
    (fun (i, dr, out) _ => 0 ≤ i ∧ i ≤ L.length ∧ out.length ≤ i ∧ out ++ bareFrom dr (L.drop i.toNat) = bareFrom false L) (fun (i, _, _) => (L.length - i).toNat) (fun (_, _, _) => by simp only; omega) (0, false, []) [(2, some 1)] (.of rfl rfl rfl rfl rfl rfl)
    ⟨by omega, by simp, by simp, by simp⟩ ?_
  rintro ⟨i, dr, out⟩ u hu ⟨g1, g2, g3, g4⟩
  refine x_vc tt_ok ?_
  refine x_if (fun h => ?_) (fun h => ?_)
  · have h2 : i < L.length := by simpa using h
    rw [drop_at (d := tok0) g1 h2] at g4
    repeat (refine And.intro ?_ ?_; first | omega | (simp [Lay.d] <;> omega))
    refine x_if (fun h3 => ?_) (fun h3 => ?_)
    · have h4 : gone (L.getD i.toNat tok0) = true := h3
      repeat (refine And.intro ?_ ?_; first | omega | (simp [Lay.d] <;> omega))
      refine again (i + 1, true, out) [] (.of rfl rfl rfl rfl rfl rfl) ⟨by omega, by omega, by omega, ?_⟩ (by simp only; omega)
      simpa only [bareFrom, h4, if_true] using g4
    · have h4 : gone (L.getD i.toNat tok0) = false := h3
      simp only [bareFrom, h4, Bool.false_eq_true, if_false] at g4
      refine xl_push tt_ok tokY out { L.getD i.toNat tok0 with space := (L.getD i.toNat tok0).space || dr } 48 rfl rfl rfl rfl rfl rfl rfl rfl rfl rfl rfl rfl (by kernel_rfl) rfl rfl rfl rfl rfl (fun n hn => by cases hn; decide) rfl rfl rfl (by omega) (by omega) ?_
      refine xl_go tt_ok ?_
      repeat (refine And.intro ?_ ?_; first | omega | (simp [Lay.d] <;> omega))
      refine again (i + 1, false, out ++ [{ L.getD i.toNat tok0 with space := (L.getD i.toNat tok0).space || dr }]) [(2, some 4)] (.of rfl rfl rfl rfl rfl rfl) ⟨by omega, by omega, by simp; omega, ?_⟩ (by simp only; omega)
      rw [List.append_assoc]
      exact g4
  · have h2 : i = L.length := by simp at h; omega
    have e : L.drop i.toNat = [] := List.drop_eq_nil_of_le (by omega)
    rw [e] at g4
    simp only [bareFrom, List.append_nil] at g4
    subst g4
    exact finO rfl
end Go.Proofs.Ytdonomneofdhfaa
namespace Go.Proofs.Ytdonomneofdhfaa
open Go.GV Go.RowKit
theorem tokN (L : List Tok) : (tokY.d L).n = L.length := rfl
def pg (L : List Tok) (i : Int) : Bool := decide (0 < i) && (decide ((L.getD (i - 1).toNat tok0).kind = 8) || decide ((L.getD (i - 1).toNat tok0).kind = 9))
theorem pg_succ (L : List Tok) {i : Int} (h : 0 ≤ i) : pg L (i + 1) = gone (L.getD i.toNat tok0) := by
  unfold pg gone
  rw [show i + 1 - 1 = i by omega]
  simp; omega
set_option maxRecDepth 100000 in
theorem refBare_any (L : List Tok) (x : Value) (w : World) (hx : SlAt (im w) x (tokY.d L)) (hL : L.length * 48 ≤ 140737488355328) :
    Calls Try.prog 86 #[x] w (PureP w fun v u => OwnAt u v 31 (tokY.d (bareFrom false L))) := by
  refine x_fun tt_ok Try.func86 rfl rfl [(x, tokY.d L)] 1 [.r 0] rfl rfl rfl rfl (fun b hb => by simp at hb; subst hb; exact hx) ?_
  refine x_vc tt_ok ?_
  refine x_nil 3 31 tokY rfl ?_
  refine x_loop (σ := Int × List Tok) (fun (i, out) => ⟨[(4, .v (.int .i64 i)), (0, .r 0), (3, .r 2)], [], [(0, .sl (tokY.d L)), (2, .row 31 (tokY.d out))], 3⟩)
    (fun (i, out) _ => 0 ≤ i ∧ i ≤ L.length ∧ out.length ≤ i ∧ out ++ bareFrom (pg L i) (L.drop i.toNat) = bareFrom false L) (fun (i, _) => (L.length - i).toNat) (fun (_, _) => by simp only; omega) (0, []) [(2, some 1)] (.of rfl rfl rfl rfl rfl rfl)
    ⟨by omega, by simp, by simp, by simp [pg]⟩ ?_
  rintro ⟨i, out⟩ u hu ⟨g1, g2, g3, g4⟩
  refine x_vc tt_ok ?_
  refine x_if (fun h => ?_) (fun h => ?_)
  · have h2 : i < L.length := of_decide_eq_true h
    rw [drop_at (d := tok0) g1 h2] at g4
    have hpg := pg_succ L g1
    repeat (refine And.intro ?_ ?_; first | omega | (simp [Lay.d] <;> omega))
    refine x_if (fun h3 => ?_) (fun h3 => ?_)
    · have h4 : gone (L.getD i.toNat tok0) = true := h3
      repeat (refine And.intro ?_ ?_; first | omega | (simp [Lay.d] <;> omega))
      refine again (i + 1, out) [] (.of rfl rfl rfl rfl rfl rfl) ⟨by omega, by omega, by omega, ?_⟩ (by simp only; omega)
      rw [hpg, h4]
      simpa only [bareFrom, h4, if_true] using g4
    · have h4 : gone (L.getD i.toNat tok0) = false := h3
      simp only [bareFrom, h4, Bool.false_eq_true, if_false] at g4
      repeat (refine And.intro ?_ ?_; first | omega | (simp [Lay.d] <;> omega))
      refine x_if (fun h5 => ?_) (fun h5 => ?_)
      · have h6 : pg L i = true := h5
        rw [h6, Bool.or_true] at g4
        refine xl_push tt_ok tokY out { L.getD i.toNat tok0 with space := true } 48 rfl rfl rfl rfl rfl rfl rfl rfl rfl rfl rfl rfl (by kernel_rfl) rfl rfl rfl rfl rfl (fun n hn => by cases hn; decide) rfl rfl rfl (by omega) (by omega) ?_
        refine xl_go tt_ok ?_
        repeat (refine And.intro ?_ ?_; first | omega | (simp [Lay.d] <;> omega))
        refine again (i + 1, out ++ [{ L.getD i.toNat tok0 with space := true }]) [(2, some 4)] (.of rfl rfl rfl rfl rfl rfl) ⟨by omega, by omega, by simp; omega, ?_⟩ (by simp only; omega)
        rw [hpg, h4, List.append_assoc]
        exact g4
      · have h6 : pg L i = false := h5
        rw [h6, Bool.or_false] at g4
        refine xl_push tt_ok tokY out (L.getD i.toNat tok0) 48 rfl rfl rfl rfl rfl rfl rfl rfl rfl rfl rfl rfl (by kernel_rfl) rfl rfl rfl rfl rfl (fun n hn => by cases hn; decide) rfl rfl rfl (by omega) (by omega) ?_
        refine xl_go tt_ok ?_
        repeat (refine And.intro ?_ ?_; first | omega | (simp [Lay.d] <;> omega))
        refine again (i + 1, out ++ [L.getD i.toNat tok0]) [(2, some 4)] (.of rfl rfl rfl rfl rfl rfl) ⟨by omega, by omega, by simp; omega, ?_⟩ (by simp only; omega)
        rw [hpg, h4, List.append_assoc]
        exact g4
  · have h2 : i = L.length := by
      have h3 : ¬ (i < (L.length : Int)) := of_decide_eq_false h
      omega
    have e : L.drop i.toNat = [] := List.drop_eq_nil_of_le (by omega)
    rw [e] at g4
    simp only [bareFrom, List.append_nil] at g4
    subst g4
    exact finO rfl
theorem tokEq {a b : Tok} : (decide (a.kind = b.kind) && (decide (a.text = b.text) && (decide (a.lo = b.lo) && (decide (a.hi = b.hi) && (decide (a.space = b.space) && true))))) = true ↔ a = b := by
  cases a; cases b; simp
theorem take_one {α : Type} {L M : List α} {i : Int} {d : α} (h0 : 0 ≤ i) (hl : i < L.length) (hm : i < M.length) (h : L.take i.toNat = M.take i.toNat) (he : L.getD i.toNat d = M.getD i.toNat d) : L.take (i + 1).toNat = M.take (i + 1).toNat := by
  have e : (i + 1).toNat = i.toNat + 1 := by omega
  have h1 : i.toNat < L.length := by omega
  have h2 : i.toNat < M.length := by omega
  rw [e, List.take_succ_eq_append_getElem h1, List.take_succ_eq_append_getElem h2, h]
  rw [List.getD_eq_getElem?_getD, List.getD_eq_getElem?_getD, List.getElem?_eq_getElem h1, List.getElem?_eq_getElem h2] at he
  simp at he
  rw [he]
set_option maxRecDepth 100000 in
theorem same_any (L M : List Tok) (x y : Value) (w : World) (hx : SlAt (im w) x (tokY.d L)) (hy : SlAt (im w) y (tokY.d M)) (hL : L.length ≤ 9223372036854775807) :
    Calls Try.prog 28 #[x, y] w (PureP w fun v _ => v = .bool (pb (L = M))) := by
  refine x_fun tt_ok Try.func28 rfl rfl [(x, tokY.d L), (y, tokY.d M)] 2 [.r 0, .r 1] rfl rfl rfl rfl (fun b hb => by simp at hb; rcases hb with rfl | rfl <;> assumption) ?_
  refine x_vc tt_ok ?_
  refine x_if (fun h => ?_) (fun h => ?_)
  · refine fin1 (fun _ _ => ?_)
    have h' : ¬ ((L.length : Int) = M.length) := of_decide_eq_true h
    rw [pb_false (fun hh => h' (by rw [hh]))]; rfl
  · have h' : ¬ ¬ ((L.length : Int) = M.length) := of_decide_eq_false h
    have hl : L.length = M.length := by omega
    refine x_loop (σ := Int) (fun i => ⟨[(5, .v (.int .i64 i)), (0, .r 0), (1, .r 1)], [], [(0, .sl (tokY.d L)), (1, .sl (tokY.d M))], 2⟩)
      (fun i _ => 0 ≤ i ∧ i ≤ L.length ∧ L.take i.toNat = M.take i.toNat) (fun i => (L.length - i).toNat) (fun _ => Nat.le_refl _) 0 [] (.of rfl rfl rfl rfl rfl rfl) ⟨by omega, by omega, by simp⟩ ?_
    rintro i u hu ⟨g1, g2, g3⟩
    refine x_vc tt_ok ?_
    refine x_if (fun h => ?_) (fun h => ?_)
    · have h2 : i < L.length := of_decide_eq_true h
      refine x_draw mix (by kernel_rfl) (xd_go tt_ok ?_)
      repeat (refine And.intro ?_ ?_; first | omega | (simp [Lay.d] <;> omega))
      refine x_if (fun h3 => ?_) (fun h3 => ?_)
      · refine fin1 (fun _ _ => ?_)
        have h4 : ¬ L.getD i.toNat tok0 = M.getD i.toNat tok0 := fun hh => by
          have := tokEq.2 hh
          rw [Bool.not_eq_true'] at h3
          exact absurd (h3.symm.trans this) (by simp)
        rw [pb_false (fun hh => h4 (by rw [hh]))]; rfl
      · have h4 : L.getD i.toNat tok0 = M.getD i.toNat tok0 := tokEq.1 (by rw [Bool.not_eq_false'] at h3; exact h3)
        repeat (refine And.intro ?_ ?_; first | omega | (simp [Lay.d] <;> omega))
        refine again (i + 1) [] (.of rfl rfl rfl rfl rfl rfl) ⟨by omega, by omega, ?_⟩ (by omega)
        exact take_one g1 h2 (by omega) g3 h4
    · have h2 : i = L.length := by
        have h3 : ¬ (i < (L.length : Int)) := of_decide_eq_false h
        omega
      refine fin1 (fun _ _ => ?_)
      rw [List.take_of_length_le (by omega), List.take_of_length_le (by omega)] at g3
      rw [pb_true g3]; rfl
end Go.Proofs.Ytdonomneofdhfaa
namespace Go.Proofs.Ytdonomneofdhfaa
open Go.GV Go.RowKit
theorem tokOne : ∀ x : Tok, ∀ y ∈ tokY.el x, oneB y = true := by
  intro x y hy
  simp [Lay.el] at hy
  rcases hy with rfl | rfl | rfl | rfl | rfl <;> rfl
structure RowV where
  dir : Bool
  name : ByteArray
  ta : Option Addr
  tn : Nat
  tc : Nat
def row0 : RowV := ⟨false, ⟨#[]⟩, none, 0, 0⟩
abbrev rowY : Lay RowV := ⟨[fun r => .bool r.dir, fun r => .string r.name, fun r => .slice r.ta r.tn r.tc], row0⟩
def RowV.toks (r : RowV) : Value := .slice r.ta r.tn r.tc
def RowV.key (r : RowV) : Bool × ByteArray := (r.dir, r.name)
def ToksAt (u : Im) (L : List RowV) (T : List (List Tok)) : Prop := L.length = T.length ∧ ∀ i : Nat, i < L.length → SlAt u (L.getD i row0).toks (tokY.d (T.getD i []))
theorem ToksAt.sub {u u' : Im} {L : List RowV} {T : List (List Tok)} (h : ToksAt u L T) (hu : u.sub u') : ToksAt u' L T := ⟨h.1, fun i hi => (h.2 i hi).sub hu⟩
theorem ToksAt.push {u : Im} {L : List RowV} {T : List (List Tok)} {r : RowV} {t : List Tok} (h : ToksAt u L T) (hr : SlAt u r.toks (tokY.d t)) : ToksAt u (L ++ [r]) (T ++ [t]) := by
  refine ⟨by simp [h.1], fun i hi => ?_⟩
  simp only [List.length_append, List.length_cons, List.length_nil] at hi
  simp only [List.getD_eq_getElem?_getD]
  rcases Nat.lt_or_ge i L.length with hlt | hge
  · rw [List.getElem?_append_left hlt, List.getElem?_append_left (by rw [← h.1]; exact hlt)]
    have := h.2 i hlt
    simpa only [List.getD_eq_getElem?_getD] using this
  · have e : i = L.length := by omega
    have e2 : i = T.length := by rw [← h.1]; exact e
    rw [show (L ++ [r])[i]? = some r by subst e; simp, show (T ++ [t])[i]? = some t by subst e2; simp]
    exact hr
theorem take_succ_getD {α : Type} {L : List α} {i : Int} {d : α} (h0 : 0 ≤ i) (hl : i < L.length) : L.take (i + 1).toNat = L.take i.toNat ++ [L.getD i.toNat d] := by
  have e : (i + 1).toNat = i.toNat + 1 := by omega
  have h1 : i.toNat < L.length := by omega
  rw [e, List.take_succ_eq_append_getElem h1, List.getD_eq_getElem?_getD, List.getElem?_eq_getElem h1]
  rfl
end Go.Proofs.Ytdonomneofdhfaa
namespace Go.Proofs.Ytdonomneofdhfaa
open Go.GV Go.RowKit
abbrev sIf : ByteArray := ⟨#[105, 102]⟩
abbrev sIfdef : ByteArray := ⟨#[105, 102, 100, 101, 102]⟩
abbrev sIfndef : ByteArray := ⟨#[105, 102, 110, 100, 101, 102]⟩
abbrev sElif : ByteArray := ⟨#[101, 108, 105, 102]⟩
abbrev sElse : ByteArray := ⟨#[101, 108, 115, 101]⟩
abbrev sEndif : ByteArray := ⟨#[101, 110, 100, 105, 102]⟩
def turnN (n : ByteArray) : Int :=
  if n = sIf then 1 else if n = sIfdef then 1 else if n = sIfndef then 1 else if n = sElif then 2 else if n = sElse then 3 else if n = sEndif then 4 else 0
def turnV (r : RowV) : Int := if r.dir = true then turnN r.name else 0
end Go.Proofs.Ytdonomneofdhfaa
namespace Go.Proofs.Ytdonomneofdhfaa
open Go.GV Go.RowKit
abbrev intY : Lay Int := ⟨[fun i => .int .i64 i], 0⟩
abbrev boolY : Lay Bool := ⟨[fun b => .bool b], false⟩
def bad (last : List Int) (k : Int) : Bool := decide ((last.length : Int) = 0) || (decide (k < 4) && decide (last.getD ((last.length : Int) - 1).toNat 0 = 3))
def stepR (last : List Int) (k : Int) : Option (List Int × Int) :=
  if 1 < k then
    if bad last k = true then none
    else some (if k = 4 then (last.set ((last.length : Int) - 1).toNat k).take ((last.length : Int) - 1).toNat else last.set ((last.length : Int) - 1).toNat k, (last.length : Int) - 1)
  else some (if k = 1 then last ++ [1] else last, last.length)
def depthsFrom (last out : List Int) : List RowV → Option (List Int)
  | [] => if 0 < last.length then none else some out
  | r :: rest => match stepR last (turnV r) with
    | none => none
    | some (last', d) => depthsFrom last' (out ++ [d]) rest
def dOut (L : List RowV) : List Int := (depthsFrom [] [] L).getD []
def dErr (L : List RowV) : Int := if (depthsFrom [] [] L).isNone then 81 else 0
end Go.Proofs.Ytdonomneofdhfaa
namespace Go.Proofs.Ytdonomneofdhfaa
open Go.GV Go.RowKit
def is3 (k : Int) : Bool := decide (k = 3)
theorem bad_is3 (last : List Int) {k : Int} (hk : k < 4) : bad last k = (decide (((last.map is3).length : Int) = 0) || (last.map is3).getD (((last.map is3).length : Int) - 1).toNat false) := by
  unfold bad
  rw [List.length_map]
  by_cases h : last.length = 0
  · have : decide ((last.length : Int) = 0) = true := decide_eq_true (by omega)
    rw [this]; rfl
  · have h1 : ((last.length : Int) - 1).toNat < last.length := by omega
    have h2 : decide (k < 4) = true := decide_eq_true hk
    rw [h2, Bool.true_and]
    congr 1
    simp only [List.getD_eq_getElem?_getD, List.getElem?_map, List.getElem?_eq_getElem h1, Option.map_some, Option.getD_some, is3]
set_option maxRecDepth 100000 in
theorem depths_any (L : List RowV) (x : Value) (w : World) (hx : SlAt (im w) x (rowY.d L)) (hL : L.length * 48 ≤ 140737488355328) :
    Calls Try.prog 49 #[x] w (PureP w (OwnT 3 (intY.d (dOut L)) [.int .i64 (dErr L)])) := by
  refine x_fun tt_ok Try.func49 rfl rfl [(x, rowY.d L)] 1 [.r 0] rfl rfl rfl rfl (fun b hb => by simp at hb; subst hb; exact hx) ?_
  refine x_vc tt_ok ?_
  refine xl_make0 tt_ok intY 8 L.length rfl rfl rfl rfl rfl rfl rfl (by kernel_rfl) rfl rfl rfl (by omega) (by omega) ?_
  refine xl_go tt_ok ?_
  refine x_nil 5 4 boolY rfl ?_
  refine x_loop (σ := Int × List Int × List Bool) (fun (i, out, en) => ⟨[(15, .v (.int .i64 i)), (14, .v (.int .i64 L.length)), (13, .r 0), (0, .r 0), (4, .r 3), (5, .r 4)], [], [(0, .sl (rowY.d L)), (3, .row 3 (intY.d out)), (4, .row 4 (boolY.d en))], 5⟩)
    (fun (i, out, en) _ => 0 ≤ i ∧ i ≤ L.length ∧ out.length = i ∧ ∃ last : List Int, en = last.map is3 ∧ last.length ≤ i ∧ depthsFrom last out (L.drop i.toNat) = depthsFrom [] [] L) (fun (i, _, _) => (L.length - i).toNat) (fun (_, _, _) => by simp only; omega) (0, [], []) [(3, some 1), (4, some 2)] (.of rfl rfl rfl rfl rfl rfl)
    ⟨by omega, by simp, by simp, [], rfl, by simp, by simp⟩ ?_
  rintro ⟨i, out, en⟩ u hu ⟨g1, g2, g3, last, g4, g5, g6⟩
  have hen : en.length = last.length := by rw [g4, List.length_map]
  refine x_vc tt_ok ?_
  refine x_if (fun h => ?_) (fun h => ?_)
  · have h2 : i < L.length := of_decide_eq_true h
    rw [drop_at (d := row0) g1 h2] at g6
    simp only [depthsFrom] at g6
    repeat (refine And.intro ?_ ?_; first | omega | (simp only [decide_eq_true_eq, decide_eq_false_iff_not]; simp only [Lay.d_n]; omega) | (simp [Lay.d] <;> omega))
    refine x_if (fun hd => ?_) (fun hd => ?_)
    · have hd' : (L.getD i.toNat row0).dir = true := hd
      have hk : turnV (L.getD i.toNat row0) = turnN (L.getD i.toNat row0).name := by simp only [turnV]; rw [if_pos hd']
      rw [hk] at g6
      clear hk
      refine x_if (fun h1 => x_ift h1 ?o1) (fun h1 => x_if (fun h2 => x_ift h2 ?o2) (fun h2 => x_if (fun h3 => ?o3) (fun h3 => x_if (fun h4 => x_ift h4 ?e1) (fun h4 =>
        x_if (fun h5 => ?e2) (fun h5 => x_if (fun h6 => ?f1) (fun h6 => ?n1))))))
      case o1 | o2 | o3 =>
        have hk : turnN (L.getD i.toNat row0).name = 1 := by
          simp only [decide_eq_true_eq, decide_eq_false_iff_not] at *
          simp only [turnN]
          simp_all
        rw [hk] at g6
        have e : stepR last 1 = some (last ++ [1], (last.length : Int)) := by simp [stepR]
        rw [e] at g6
        simp only at g6
        refine xl_push tt_ok boolY en false 1 (cs := [.bool false]) rfl rfl rfl rfl rfl rfl rfl rfl rfl rfl rfl rfl (by kernel_rfl) rfl rfl rfl rfl rfl (fun n hn => by cases hn; decide) rfl rfl rfl (by first | omega | (simp; omega)) (by first | omega | (simp; omega)) ?_
        refine xl_go tt_ok ?_
        refine xl_push tt_ok intY out (en.length : Int) 8 (cs := [.int .i64 (en.length : Int)]) rfl rfl rfl rfl rfl rfl rfl rfl rfl rfl rfl rfl (by kernel_rfl) rfl rfl rfl rfl rfl (fun n hn => by cases hn; decide) rfl rfl rfl (by first | omega | (simp; omega)) (by first | omega | (simp; omega)) ?_
        refine xl_go tt_ok ?_
        repeat (refine And.intro ?_ ?_; first | omega | (simp only [decide_eq_true_eq, decide_eq_false_iff_not]; simp only [Lay.d_n]; omega) | (simp [Lay.d] <;> omega))
        refine again (i + 1, _, _) [(3, some 7), (4, some 6)] (.of rfl rfl rfl rfl rfl rfl) ⟨by omega, by omega, by simp; omega, last ++ [1], by rw [g4]; simp [is3], by simp; omega, ?_⟩ (by simp only; omega)
        rw [hen]
        exact g6
      case n1 =>
        have hk : turnN (L.getD i.toNat row0).name = 0 := by
          simp only [decide_eq_true_eq, decide_eq_false_iff_not] at *
          simp only [turnN]
          simp_all
        rw [hk] at g6
        have e : stepR last 0 = some (last, (last.length : Int)) := by simp [stepR]
        rw [e] at g6
        simp only at g6
        refine xl_push tt_ok intY out (en.length : Int) 8 (cs := [.int .i64 (en.length : Int)]) rfl rfl rfl rfl rfl rfl rfl rfl rfl rfl rfl rfl (by kernel_rfl) rfl rfl rfl rfl rfl (fun n hn => by cases hn; decide) rfl rfl rfl (by first | omega | (simp; omega)) (by first | omega | (simp; omega)) ?_
        refine xl_go tt_ok ?_
        repeat (refine And.intro ?_ ?_; first | omega | (simp only [decide_eq_true_eq, decide_eq_false_iff_not]; simp only [Lay.d_n]; omega) | (simp [Lay.d] <;> omega))
        refine again (i + 1, _, _) [(3, some 6)] (.of rfl rfl rfl rfl rfl rfl) ⟨by omega, by omega, by simp; omega, last, g4, by omega, ?_⟩ (by simp only; omega)
        rw [hen]
        exact g6
      case e1 =>
        have hk : turnN (L.getD i.toNat row0).name = 2 := by
          simp only [decide_eq_true_eq, decide_eq_false_iff_not] at *
          simp only [turnN]
          simp_all
        rw [hk] at g6
        have hv : decide ((L.getD i.toNat row0).name = sElse) = is3 2 := by
          simp only [decide_eq_true_eq, decide_eq_false_iff_not] at *
          simp_all [is3]
        have hb := bad_is3 last (k := 2) (by omega)
        rw [← g4] at hb
        repeat (refine And.intro ?_ ?_; first | omega | (simp only [decide_eq_true_eq, decide_eq_false_iff_not]; simp only [Lay.d_n]; omega) | (simp [Lay.d] <;> omega))
        refine x_if (fun h7 => ?_) (fun h7 => ?_)
        · have e : stepR last 2 = none := by simp only [stepR]; rw [if_pos (by omega), if_pos (hb.trans h7)]
          rw [e] at g6
          simp only at g6
          have e1 : dOut L = [] := by simp only [dOut, ← g6]; rfl
          have e2 : dErr L = 81 := by simp only [dErr, ← g6]; rfl
          rw [e1, e2]
          exact finO2n intY
        · have h8 : bad last 2 = false := hb.trans h7
          have h9 : 0 < last.length := by
            simp only [bad, Bool.or_eq_false_iff, decide_eq_false_iff_not] at h8
            omega
          have e : stepR last 2 = some (last.set ((last.length : Int) - 1).toNat 2, (last.length : Int) - 1) := by
            simp only [stepR]; rw [if_pos (by omega), if_neg (by rw [h8]; simp), if_neg (by omega)]
          rw [e] at g6
          simp only at g6
          repeat (refine And.intro ?_ ?_; first | omega | (simp only [decide_eq_true_eq, decide_eq_false_iff_not]; simp only [Lay.d_n]; omega) | (simp [Lay.d] <;> omega))
          refine xl_set tt_ok boolY en (decide ((L.getD i.toNat row0).name = sElse)) (cs := [.bool (decide ((L.getD i.toNat row0).name = sElse))]) rfl rfl rfl rfl rfl rfl rfl (by simp only [Lay.d_n]; omega) (by simp only [Lay.d_n]; omega) rfl rfl (by simp) rfl ?_
          refine xl_go tt_ok ?_
          repeat (refine And.intro ?_ ?_; first | omega | (simp only [decide_eq_true_eq, decide_eq_false_iff_not]; simp only [Lay.d_n]; omega) | (simp [Lay.d] <;> omega))
          refine xl_push tt_ok intY out ((en.length : Int) - 1) 8 (cs := [.int .i64 ((en.length : Int) - 1)]) rfl rfl rfl rfl rfl rfl rfl rfl rfl rfl rfl rfl (by kernel_rfl) rfl rfl rfl rfl rfl (fun n hn => by cases hn; decide) rfl rfl rfl (by first | omega | (simp; omega)) (by first | omega | (simp; omega)) ?_
          refine xl_go tt_ok ?_
          repeat (refine And.intro ?_ ?_; first | omega | (simp only [decide_eq_true_eq, decide_eq_false_iff_not]; simp only [Lay.d_n]; omega) | (simp [Lay.d] <;> omega))
          refine again (i + 1, _, _) [(3, some 6)] (.of rfl rfl rfl rfl rfl rfl) ⟨by omega, by omega, by simp; omega, last.set ((last.length : Int) - 1).toNat 2, ?_, by simp; omega, ?_⟩ (by simp only; omega)
          · rw [hv, g4]
            simp only [Lay.d_n, List.length_map, List.map_set]
          · rw [hen]
            exact g6
      case e2 =>
        have hk : turnN (L.getD i.toNat row0).name = 3 := by
          simp only [decide_eq_true_eq, decide_eq_false_iff_not] at *
          simp only [turnN]
          simp_all
        rw [hk] at g6
        have hv : decide ((L.getD i.toNat row0).name = sElse) = is3 3 := by
          simp only [decide_eq_true_eq, decide_eq_false_iff_not] at *
          simp_all [is3]
        have hb := bad_is3 last (k := 3) (by omega)
        rw [← g4] at hb
        repeat (refine And.intro ?_ ?_; first | omega | (simp only [decide_eq_true_eq, decide_eq_false_iff_not]; simp only [Lay.d_n]; omega) | (simp [Lay.d] <;> omega))
        refine x_if (fun h7 => ?_) (fun h7 => ?_)
        · have e : stepR last 3 = none := by simp only [stepR]; rw [if_pos (by omega), if_pos (hb.trans h7)]
          rw [e] at g6
          simp only at g6
          have e1 : dOut L = [] := by simp only [dOut, ← g6]; rfl
          have e2 : dErr L = 81 := by simp only [dErr, ← g6]; rfl
          rw [e1, e2]
          exact finO2n intY
        · have h8 : bad last 3 = false := hb.trans h7
          have h9 : 0 < last.length := by
            simp only [bad, Bool.or_eq_false_iff, decide_eq_false_iff_not] at h8
            omega
          have e : stepR last 3 = some (last.set ((last.length : Int) - 1).toNat 3, (last.length : Int) - 1) := by
            simp only [stepR]; rw [if_pos (by omega), if_neg (by rw [h8]; simp), if_neg (by omega)]
          rw [e] at g6
          simp only at g6
          repeat (refine And.intro ?_ ?_; first | omega | (simp only [decide_eq_true_eq, decide_eq_false_iff_not]; simp only [Lay.d_n]; omega) | (simp [Lay.d] <;> omega))
          refine xl_set tt_ok boolY en (decide ((L.getD i.toNat row0).name = sElse)) (cs := [.bool (decide ((L.getD i.toNat row0).name = sElse))]) rfl rfl rfl rfl rfl rfl rfl (by simp only [Lay.d_n]; omega) (by simp only [Lay.d_n]; omega) rfl rfl (by simp) rfl ?_
          refine xl_go tt_ok ?_
          repeat (refine And.intro ?_ ?_; first | omega | (simp only [decide_eq_true_eq, decide_eq_false_iff_not]; simp only [Lay.d_n]; omega) | (simp [Lay.d] <;> omega))
          refine xl_push tt_ok intY out ((en.length : Int) - 1) 8 (cs := [.int .i64 ((en.length : Int) - 1)]) rfl rfl rfl rfl rfl rfl rfl rfl rfl rfl rfl rfl (by kernel_rfl) rfl rfl rfl rfl rfl (fun n hn => by cases hn; decide) rfl rfl rfl (by first | omega | (simp; omega)) (by first | omega | (simp; omega)) ?_
          refine xl_go tt_ok ?_
          repeat (refine And.intro ?_ ?_; first | omega | (simp only [decide_eq_true_eq, decide_eq_false_iff_not]; simp only [Lay.d_n]; omega) | (simp [Lay.d] <;> omega))
          refine again (i + 1, _, _) [(3, some 6)] (.of rfl rfl rfl rfl rfl rfl) ⟨by omega, by omega, by simp; omega, last.set ((last.length : Int) - 1).toNat 3, ?_, by simp; omega, ?_⟩ (by simp only; omega)
          · rw [hv, g4]
            simp only [Lay.d_n, List.length_map, List.map_set]
          · rw [hen]
            exact g6
      case f1 =>
        have hk : turnN (L.getD i.toNat row0).name = 4 := by
          simp only [decide_eq_true_eq, decide_eq_false_iff_not] at *
          simp only [turnN]
          simp_all
        rw [hk] at g6
        refine x_if (fun h7 => ?_) (fun h7 => ?_)
        · have h8 : (en.length : Int) = 0 := of_decide_eq_true h7
          have hb : bad last 4 = true := by unfold bad; rw [decide_eq_true (show (last.length : Int) = 0 by omega)]; rfl
          have e : stepR last 4 = none := by simp only [stepR]; rw [if_pos (by omega), if_pos hb]
          rw [e] at g6
          simp only at g6
          have e1 : dOut L = [] := by simp only [dOut, ← g6]; rfl
          have e2 : dErr L = 81 := by simp only [dErr, ← g6]; rfl
          rw [e1, e2]
          exact finO2n intY
        · have h8 : ¬ (en.length : Int) = 0 := of_decide_eq_false h7
          have hb : bad last 4 = false := by unfold bad; rw [decide_eq_false (show ¬ (last.length : Int) = 0 by omega)]; rfl
          have e : stepR last 4 = some ((last.set ((last.length : Int) - 1).toNat 4).take ((last.length : Int) - 1).toNat, (last.length : Int) - 1) := by
            simp only [stepR]; rw [if_pos (by omega), if_neg (by rw [hb]; simp), if_pos trivial]
          rw [e] at g6
          simp only at g6
          repeat (refine And.intro ?_ ?_; first | omega | (simp only [decide_eq_true_eq, decide_eq_false_iff_not]; simp only [Lay.d_n]; omega) | (simp [Lay.d] <;> omega))
          refine xl_cutTo tt_ok boolY en rfl rfl rfl rfl rfl rfl rfl rfl rfl rfl (by simp only [Lay.d_n]; omega) (by simp only [Lay.d_n]; omega) ?_
          refine xl_go tt_ok ?_
          refine xl_push tt_ok intY out ((en.length : Int) - 1) 8 (cs := [.int .i64 ((en.length : Int) - 1)]) rfl rfl rfl rfl rfl rfl rfl rfl rfl rfl rfl rfl (by kernel_rfl) rfl rfl rfl rfl rfl (fun n hn => by cases hn; decide) rfl rfl rfl (by first | omega | (simp; omega)) (by first | omega | (simp; omega)) ?_
          refine xl_go tt_ok ?_
          repeat (refine And.intro ?_ ?_; first | omega | (simp only [decide_eq_true_eq, decide_eq_false_iff_not]; simp only [Lay.d_n]; omega) | (simp [Lay.d] <;> omega))
          refine again (i + 1, _, _) [(3, some 7), (4, some 6)] (.of rfl rfl rfl rfl rfl rfl) ⟨by omega, by omega, by simp; omega, (last.set ((last.length : Int) - 1).toNat 4).take ((last.length : Int) - 1).toNat, ?_, by simp; omega, ?_⟩ (by simp only; omega)
          · rw [List.take_set_of_le (Nat.le_refl _), g4]
            simp only [Lay.d_n, List.length_map, List.map_take]
          · rw [hen]
            exact g6
    · have hd' : (L.getD i.toNat row0).dir = false := hd
      have hk : turnV (L.getD i.toNat row0) = 0 := by simp only [turnV]; rw [hd']; rfl
      rw [hk] at g6
      have e : stepR last 0 = some (last, (last.length : Int)) := by simp [stepR]
      rw [e] at g6
      simp only at g6
      repeat' refine x_iff (by decide) ?_
      refine xl_push tt_ok intY out (en.length : Int) 8 (cs := [.int .i64 (en.length : Int)]) rfl rfl rfl rfl rfl rfl rfl rfl rfl rfl rfl rfl (by kernel_rfl) rfl rfl rfl rfl rfl (fun n hn => by cases hn; decide) rfl rfl rfl (by omega) (by omega) ?_
      refine xl_go tt_ok ?_
      repeat (refine And.intro ?_ ?_; first | omega | (simp only [decide_eq_true_eq, decide_eq_false_iff_not]; simp only [Lay.d_n]; omega) | (simp [Lay.d] <;> omega))
      refine again (i + 1, _, _) [(3, some 6)] (.of rfl rfl rfl rfl rfl rfl) ⟨by omega, by omega, by simp; omega, last, g4, by omega, ?_⟩ (by simp only; omega)
      rw [hen]
      exact g6
  · have h2 : i = L.length := by
      have h3 : ¬ (i < (L.length : Int)) := of_decide_eq_false h
      omega
    have e : L.drop i.toNat = [] := List.drop_eq_nil_of_le (by omega)
    rw [e] at g6
    simp only [depthsFrom] at g6
    refine x_if (fun h6 => ?_) (fun h6 => ?_)
    · have h7 : 0 < (en.length : Int) := of_decide_eq_true h6
      rw [if_pos (by omega)] at g6
      have e1 : dOut L = [] := by simp only [dOut, ← g6]; rfl
      have e2 : dErr L = 81 := by simp only [dErr, ← g6]; rfl
      rw [e1, e2]
      exact finO2n intY
    · have h7 : ¬ 0 < (en.length : Int) := of_decide_eq_false h6
      rw [if_neg (by omega)] at g6
      have e1 : dOut L = out := by simp only [dOut, ← g6]; rfl
      have e2 : dErr L = 0 := by simp only [dErr, ← g6]; rfl
      rw [e1, e2]
      exact finO2 rfl
end Go.Proofs.Ytdonomneofdhfaa
namespace Go.Proofs.Ytdonomneofdhfaa
open Go.GV Go.RowKit
theorem key_at {L M : List RowV} (h : L.map RowV.key = M.map RowV.key) (i : Nat) : (L.getD i row0).dir = (M.getD i row0).dir ∧ (L.getD i row0).name = (M.getD i row0).name := by
  have h1 : (L.map RowV.key).getD i row0.key = (M.map RowV.key).getD i row0.key := by rw [h]
  simp only [List.getD_eq_getElem?_getD, List.getElem?_map] at h1 ⊢
  have e : ∀ o : Option RowV, (o.map RowV.key).getD row0.key = (o.getD row0).key := fun o => by cases o <;> rfl
  rw [e, e] at h1
  simpa [RowV.key] using h1
theorem same_refl (L : List Tok) (x y : Value) (w : World) (hx : SlAt (im w) x (tokY.d L)) (hy : SlAt (im w) y (tokY.d L)) (hL : L.length ≤ 9223372036854775807) :
    Calls Try.prog 28 #[x, y] w (PureP w fun v _ => v = .bool true) := by
  have := same_any L L x y w hx hy hL
  rwa [pb_true rfl] at this
set_option maxRecDepth 100000 in
theorem sameRows_any (L M : List RowV) (T : List (List Tok)) (x y : Value) (w : World) (hx : SlAt (im w) x (rowY.d L)) (hy : SlAt (im w) y (rowY.d M)) (hT : ToksAt (im w) L T) (hS : ToksAt (im w) M T)
    (hk : L.map RowV.key = M.map RowV.key) (hL : L.length ≤ 9223372036854775807) (hTL : ∀ i : Nat, (T.getD i []).length ≤ 9223372036854775807) :
    Calls Try.prog 25 #[x, y] w (PureP w fun v _ => v = .bool true) := by
  have hl : L.length = M.length := by rw [hT.1, hS.1]
  refine x_fun tt_ok Try.func25 rfl rfl [(x, rowY.d L), (y, rowY.d M)] 2 [.r 0, .r 1] rfl rfl rfl rfl (fun b hb => by simp at hb; rcases hb with rfl | rfl <;> assumption) ?_
  refine x_vc tt_ok ?_
  refine x_iff (by simp [Lay.d_n, hl]) ?_
  refine x_loop (σ := Int) (fun i => ⟨[(5, .v (.int .i64 i)), (0, .r 0), (1, .r 1)], [], [(0, .sl (rowY.d L)), (1, .sl (rowY.d M))], 2⟩)
    (fun i _ => 0 ≤ i ∧ i ≤ L.length) (fun i => (L.length - i).toNat) (fun _ => Nat.le_refl _) 0 [] (.of rfl rfl rfl rfl rfl rfl) ⟨by omega, by omega⟩ ?_
  rintro i u hu ⟨g1, g2⟩
  refine x_vc tt_ok ?_
  refine x_if (fun h => ?_) (fun h => ?_)
  · have h2 : i < L.length := of_decide_eq_true h
    obtain ⟨k1, k2⟩ := key_at hk i.toNat
    refine x_draw mix (by kernel_rfl) (xd_go tt_ok ?_)
    repeat (refine And.intro ?_ ?_; first | omega | (simp [Lay.d] <;> omega))
    refine xd_call0 (.bool true) rfl rfl rfl rfl fn28 rfl rfl
      (fun _ E w F hs => same_refl _ _ _ w (((hT.2 i.toNat (by omega)).le hu).imm hs.imm) (((hS.2 i.toNat (by omega)).le hu).imm hs.imm) (hTL _)) ?_
    refine xd_go tt_ok ?_
    refine x_draw mix (by kernel_rfl) (xd_go tt_ok ?_)
    repeat (refine And.intro ?_ ?_; first | omega | (simp only [decide_eq_true_eq, decide_eq_false_iff_not]; simp only [Lay.d_n]; omega) | (simp [Lay.d] <;> omega))
    refine x_if (fun h3 => ?_) (fun h3 => ?_)
    · rw [show (L.getD i.toNat rowY.dft).dir = (M.getD i.toNat rowY.dft).dir from k1, show (L.getD i.toNat rowY.dft).name = (M.getD i.toNat rowY.dft).name from k2] at h3
      simp at h3
    · repeat (refine And.intro ?_ ?_; first | omega | (simp only [decide_eq_true_eq, decide_eq_false_iff_not]; simp only [Lay.d_n]; omega) | (simp [Lay.d] <;> omega))
      exact again (i + 1) [] (.of rfl rfl rfl rfl rfl rfl) ⟨by omega, by omega⟩ (by omega)
  · exact fin1 (fun _ _ => rfl)
theorem turn_key {r r' : RowV} (h : r.key = r'.key) : turnV r = turnV r' := by
  simp only [RowV.key, Prod.mk.injEq] at h
  simp only [turnV, h.1, h.2]
theorem depths_key : ∀ {L L' : List RowV} (last out : List Int), L.map RowV.key = L'.map RowV.key → depthsFrom last out L = depthsFrom last out L'
  | [], [], _, _, _ => rfl
  | [], _ :: _, _, _, h => by simp at h
  | _ :: _, [], _, _, h => by simp at h
  | r :: L, r' :: L', last, out, h => by
    simp only [List.map_cons, List.cons.injEq] at h
    simp only [depthsFrom, turn_key h.1]
    split
    · rfl
    · exact depths_key _ _ h.2
theorem dOut_length : ∀ (L : List RowV) (last out o : List Int), depthsFrom last out L = some o → o.length = out.length + L.length
  | [], last, out, o, h => by
    simp only [depthsFrom] at h
    split at h
    · cases h
    · cases h; simp
  | r :: L, last, out, o, h => by
    simp only [depthsFrom] at h
    split at h
    · cases h
    · have := dOut_length L _ _ _ h
      simp at this ⊢
      omega
theorem dOut_le (L : List RowV) : (dOut L).length ≤ L.length := by
  unfold dOut
  cases h : depthsFrom [] [] L with
  | none => simp
  | some o => have := dOut_length L [] [] o h; simp at this ⊢; omega
end Go.Proofs.Ytdonomneofdhfaa
namespace Go.Proofs.Ytdonomneofdhfaa
open Go.GV Go.RowKit
def saysV (r : RowV) (t : List Tok) : List Tok :=
  if r.dir = true then (bareFrom false t).drop (if r.name = ⟨#[]⟩ then 1 else 2) else bareFrom false t
theorem pureSl {w : World} {e : TypeId} {D : GV.Data} {E : Ending} {w' : World} (h : PureP w (fun v u => OwnAt u v e D) E w') : PureP w (fun v u => SlAt u v D) E w' := by
  obtain ⟨v, h1, h2, h3⟩ := h
  exact ⟨v, h1, h2, h3.slAt⟩
theorem bare_sl (L : List Tok) (x : Value) (w : World) (hx : SlAt (im w) x (tokY.d L)) (hL : L.length * 48 ≤ 140737488355328) :
    Calls Try.prog 46 #[x] w (PureP w fun v u => SlAt u v (tokY.d (bareFrom false L))) := (bare_any L x w hx hL).mono fun _ _ => pureSl
theorem refBare_sl (L : List Tok) (x : Value) (w : World) (hx : SlAt (im w) x (tokY.d L)) (hL : L.length * 48 ≤ 140737488355328) :
    Calls Try.prog 86 #[x] w (PureP w fun v u => SlAt u v (tokY.d (bareFrom false L))) := (refBare_any L x w hx hL).mono fun _ _ => pureSl
set_option maxRecDepth 100000 in
theorem clone_any (L : List Tok) (x : Value) (w : World) (hx : SlAt (im w) x (tokY.d L)) (hL : L.length * 48 ≤ 140737488355328) :
    Calls Try.prog 85 #[x] w (PureP w fun v u => SlAt u v (tokY.d L)) := by
  refine x_fun tt_ok Try.func85 rfl rfl [(x, tokY.d L)] 1 [.r 0] rfl rfl rfl rfl (fun b hb => by simp at hb; subst hb; exact hx) ?_
  refine x_vc tt_ok ?_
  refine xl_eqnil tt_ok rfl rfl rfl rfl rfl rfl rfl (fun E w F hs => hs.slAt (k := 0) rfl) (fun b hb => ?_)
  refine xl_go tt_ok ?_
  refine x_if (fun h => ?_) (fun h => ?_)
  · have h0 : L = [] := List.eq_nil_of_length_eq_zero (hb h)
    subst h0
    exact finP fun _ _ _ hs _ => ⟨none, 0, rfl, Nat.le_refl _, by decide, fun hn => absurd hn (Nat.lt_irrefl 0)⟩
  · refine xl_empty tt_ok tokY rfl rfl rfl rfl rfl rfl rfl ?_
    refine xl_go tt_ok ?_
    refine xl_append tt_ok tokY [] L 48 rfl rfl rfl rfl rfl rfl rfl rfl (by kernel_rfl) rfl rfl rfl (fun E w F hs => hs.slAt (k := 0) rfl) tokOne rfl (by simp; omega) (by simp; omega) ?_
    refine xl_go tt_ok ?_
    exact finP fun E w' F hs hu' => (hs.rowOwn (k := 2) (D := tokY.d L) rfl hu').slAt
set_option maxRecDepth 100000 in
theorem says_any (r : RowV) (t : List Tok) (w : World) (hx : SlAt (im w) r.toks (tokY.d t)) (hL : t.length * 48 ≤ 140737488355328) :
    Calls Try.prog 26 #[.agg #[.bool r.dir, .string r.name, .slice r.ta r.tn r.tc]] w (PureP w fun v u => SlAt u v (tokY.d (saysV r t))) := by
  have hb := bareFrom_le false t
  refine x_fun tt_ok Try.func26 rfl rfl [] 0 [.v (.agg #[.bool r.dir, .string r.name, .slice r.ta r.tn r.tc])] rfl rfl rfl rfl (fun b hb => by cases hb) ?_
  refine x_vc tt_ok ?_
  refine xl_callV (tokY.d (bareFrom false t)) rfl rfl rfl rfl fn46 rfl rfl (fun E w F hs => bare_sl t _ w (hx.imm hs.imm) hL) (fun A c u hu hb1 => ?_)
  refine xl_go tt_ok ?_
  refine x_if (fun h => ?_) (fun h => ?_)
  · have h' : r.dir = false := by simpa using h
    have e : saysV r t = bareFrom false t := by simp [saysV, h']
    rw [e]
    exact finS hb1
  · have h' : r.dir = true := by simpa using h
    have key : ∀ k : Nat, (k = if r.name = ⟨#[]⟩ then 1 else 2) → saysV r t = (bareFrom false t).drop (if ((bareFrom false t).length : Int) < (k : Int) then ((bareFrom false t).length : Int) else (k : Int)).toNat := by
      intro k hk
      simp only [saysV, h', if_true, ← hk]
      split
      · rw [List.drop_eq_nil_of_le (by omega), List.drop_eq_nil_of_le (by omega)]
      · rfl
    refine x_if (fun h2 => ?_) (fun h2 => ?_)
    · have h2' : ¬ r.name = ⟨#[]⟩ := of_decide_eq_true h2
      have e := key 2 (by rw [if_neg h2'])
      refine xl_min rfl rfl rfl rfl rfl rfl ?_
      refine xl_go tt_ok ?_
      refine xl_from tt_ok tokY (bareFrom false t) rfl rfl rfl rfl rfl rfl rfl rfl rfl rfl (fun E w F hs => hb1) ?_ ?_ (fun A2 c2 hb2 => ?_)
      · show (0 : Int) ≤ if ((bareFrom false t).length : Int) < 2 then ((bareFrom false t).length : Int) else 2
        split <;> omega
      · show (if ((bareFrom false t).length : Int) < 2 then ((bareFrom false t).length : Int) else 2) ≤ ((bareFrom false t).length : Int)
        split <;> omega
      refine xl_go tt_ok ?_
      refine xl_callV (tokY.d (saysV r t)) rfl rfl rfl rfl fn85 rfl rfl (fun E w F hs => by rw [e]; exact clone_any _ _ w (hb2.uncut.imm hs.imm) (by rw [List.length_drop]; omega)) (fun A3 c3 u3 hu3 hb3 => ?_)
      refine xl_go tt_ok ?_
      exact finS (by rw [hu.lo] at hb3; exact hb3)
    · have h2' : r.name = ⟨#[]⟩ := by
        have : ¬ ¬ r.name = ⟨#[]⟩ := of_decide_eq_false h2
        exact Classical.not_not.1 this
      have e := key 1 (by rw [if_pos h2'])
      refine xl_min rfl rfl rfl rfl rfl rfl ?_
      refine xl_go tt_ok ?_
      refine xl_from tt_ok tokY (bareFrom false t) rfl rfl rfl rfl rfl rfl rfl rfl rfl rfl (fun E w F hs => hb1) ?_ ?_ (fun A2 c2 hb2 => ?_)
      · show (0 : Int) ≤ if ((bareFrom false t).length : Int) < 1 then ((bareFrom false t).length : Int) else 1
        split <;> omega
      · show (if ((bareFrom false t).length : Int) < 1 then ((bareFrom false t).length : Int) else 1) ≤ ((bareFrom false t).length : Int)
        split <;> omega
      refine xl_go tt_ok ?_
      refine xl_callV (tokY.d (saysV r t)) rfl rfl rfl rfl fn85 rfl rfl (fun E w F hs => by rw [e]; exact clone_any _ _ w (hb2.uncut.imm hs.imm) (by rw [List.length_drop]; omega)) (fun A3 c3 u3 hu3 hb3 => ?_)
      refine xl_go tt_ok ?_
      exact finS (by rw [hu.lo] at hb3; exact hb3)
set_option maxRecDepth 100000 in
theorem refSays_any (r : RowV) (t : List Tok) (w : World) (hx : SlAt (im w) r.toks (tokY.d t)) (hL : t.length * 48 ≤ 140737488355328) :
    Calls Try.prog 27 #[.agg #[.bool r.dir, .string r.name, .slice r.ta r.tn r.tc]] w (PureP w fun v u => SlAt u v (tokY.d (saysV r t))) := by
  have hb := bareFrom_le false t
  refine x_fun tt_ok Try.func27 rfl rfl [] 0 [.v (.agg #[.bool r.dir, .string r.name, .slice r.ta r.tn r.tc])] rfl rfl rfl rfl (fun b hb => by cases hb) ?_
  refine x_vc tt_ok ?_
  refine xl_callV (tokY.d (bareFrom false t)) rfl rfl rfl rfl fn86 rfl rfl (fun E w F hs => refBare_sl t _ w (hx.imm hs.imm) hL) (fun A c u hu hb1 => ?_)
  refine xl_go tt_ok ?_
  generalize hB : bareFrom false t = B at hb1 hb ⊢
  refine x_if (fun h => ?_) (fun h => ?_)
  · have h1 : (r.dir && decide (0 < (B.length : Int))) = true := h
    rw [Bool.and_eq_true, decide_eq_true_eq] at h1
    refine xl_from tt_ok tokY B rfl rfl rfl rfl rfl rfl rfl rfl rfl rfl (fun E w F hs => hb1) (by omega) (by omega) (fun A2 c2 hb2 => ?_)
    refine xl_go tt_ok ?_
    refine x_if (fun h2 => ?_) (fun h2 => ?_)
    · have h3 : (decide (0 < (r.name.size : Int)) && decide (0 < ((B.length - (1 : Int).toNat : Nat) : Int))) = true := h2
      rw [Bool.and_eq_true, decide_eq_true_eq, decide_eq_true_eq] at h3
      refine xl_from tt_ok tokY (B.drop 1) rfl rfl rfl rfl rfl rfl rfl rfl rfl rfl (fun E w F hs => hb2) (by omega) (by simp; omega) (fun A3 c3 hb3 => ?_)
      refine xl_go tt_ok ?_
      have e : saysV r t = (B.drop 1).drop (1 : Int).toNat := by
        have hn : ¬ r.name = ⟨#[]⟩ := fun hn => by
          rw [hn] at h3
          have h0 : (⟨#[]⟩ : ByteArray).size = 0 := rfl
          omega
        simp [saysV, h1.1, hB, hn]
      rw [e]
      exact finS hb3
    · have h3 : (decide (0 < (r.name.size : Int)) && decide (0 < ((B.length - (1 : Int).toNat : Nat) : Int))) = false := h2
      have e : saysV r t = B.drop (1 : Int).toNat := by
        rw [Bool.and_eq_false_iff, decide_eq_false_iff_not, decide_eq_false_iff_not] at h3
        simp only [saysV, h1.1, hB, if_true]
        rcases h3 with h3 | h3
        · have hn : r.name = ⟨#[]⟩ := by
            have : r.name.size = 0 := by omega
            exact ByteArray.size_eq_zero_iff.1 this
          rw [if_pos hn]; rfl
        · split
          · rfl
          · rw [List.drop_eq_nil_of_le (by omega), List.drop_eq_nil_of_le (by omega)]
      rw [e]
      exact finS hb2
  · have h1 : (r.dir && decide (0 < (B.length : Int))) = false := h
    have e : saysV r t = B := by
      rw [Bool.and_eq_false_iff, decide_eq_false_iff_not] at h1
      simp only [saysV, hB]
      rcases h1 with h1 | h1
      · rw [h1]; rfl
      · have : B = [] := List.eq_nil_of_length_eq_zero (by omega)
        subst this; simp
    rw [e]
    exact finS hb1
def tokEqB (s : Bool) (a b : Tok) : Bool := decide (a.kind = b.kind) && (decide (a.text = b.text) && (decide ((s && a.space) = (s && b.space)) && true))
def eqFrom (sp : Bool) : Bool → List Tok → List Tok → Bool
  | first, a :: x, b :: y => tokEqB (sp && !first) a b && eqFrom sp false x y
  | _, [], [] => true
  | _, _, _ => false
def eqToks (sp : Bool) (L M : List Tok) : Bool := eqFrom sp true L M
theorem eqFrom_len (sp : Bool) : ∀ (f : Bool) (L M : List Tok), L.length ≠ M.length → eqFrom sp f L M = false
  | _, [], [], h => absurd rfl h
  | _, [], _ :: _, _ => rfl
  | _, _ :: _, [], _ => rfl
  | f, a :: x, b :: y, h => by
    simp only [eqFrom]
    rw [eqFrom_len sp false x y (fun e => h (by simp [e])), Bool.and_false]
set_option maxRecDepth 100000 in
theorem lsame_any (sp : Bool) (L M : List Tok) (x y : Value) (w : World) (hx : SlAt (im w) x (tokY.d L)) (hy : SlAt (im w) y (tokY.d M)) (hL : L.length ≤ 9223372036854775807) :
    Calls Try.prog 123 #[x, y, .bool sp] w (PureP w fun v _ => v = .bool (eqToks sp L M)) := by
  refine x_fun tt_ok Try.func123 rfl rfl [(x, tokY.d L), (y, tokY.d M)] 2 [.r 0, .r 1, .v (.bool sp)] rfl rfl rfl rfl (fun b hb => by simp at hb; rcases hb with rfl | rfl <;> assumption) ?_
  refine x_vc tt_ok ?_
  refine x_if (fun h => ?_) (fun h => ?_)
  · refine fin1 (fun _ _ => ?_)
    have h' : ¬ ((L.length : Int) = M.length) := of_decide_eq_true h
    rw [eqToks, eqFrom_len _ _ _ _ (by omega)]; rfl
  · have h' : ¬ ¬ ((L.length : Int) = M.length) := of_decide_eq_false h
    have hl : L.length = M.length := by omega
    refine x_loop (σ := Int) (fun i => ⟨[(17, .v (.int .i64 i)), (16, .v (.int .i64 L.length)), (15, .r 0), (0, .r 0), (1, .r 1), (2, .v (.bool sp))], [], [(0, .sl (tokY.d L)), (1, .sl (tokY.d M))], 2⟩)
      (fun i _ => 0 ≤ i ∧ i ≤ L.length ∧ eqFrom sp (!decide (0 < i)) (L.drop i.toNat) (M.drop i.toNat) = eqToks sp L M) (fun i => (L.length - i).toNat) (fun _ => Nat.le_refl _) 0 [] (.of rfl rfl rfl rfl rfl rfl) ⟨by omega, by omega, by simp [eqToks]⟩ ?_
    rintro i u hu ⟨g1, g2, g3⟩
    refine x_vc tt_ok ?_
    refine x_if (fun h => ?_) (fun h => ?_)
    · have h2 : i < L.length := of_decide_eq_true h
      rw [drop_at (d := tok0) g1 h2, drop_at (d := tok0) g1 (by omega : i < M.length)] at g3
      simp only [eqFrom] at g3
      repeat (refine And.intro ?_ ?_; first | omega | (simp [Lay.d] <;> omega))
      refine x_draw mix (by kernel_rfl) (xd_go tt_ok ?_)
      repeat (refine And.intro ?_ ?_; first | omega | (simp only [decide_eq_true_eq, decide_eq_false_iff_not]; simp only [Lay.d_n]; omega) | (simp [Lay.d] <;> omega))
      have e : tokEqB (sp && !!decide (0 < i)) (L.getD i.toNat tok0) (M.getD i.toNat tok0) =
          (decide ((L.getD i.toNat tok0).kind = (M.getD i.toNat tok0).kind) && (decide ((L.getD i.toNat tok0).text = (M.getD i.toNat tok0).text) &&
            (decide ((sp && decide (0 < i) && (L.getD i.toNat tok0).space) = (sp && decide (0 < i) && (M.getD i.toNat tok0).space)) && true))) := by
        rw [Bool.not_not]; rfl
      rw [e] at g3
      refine x_if (fun h3 => ?_) (fun h3 => ?_)
      · rw [Bool.not_eq_true'] at h3
        refine fin1 (fun _ _ => ?_)
        rw [← g3]
        have h4 := h3
        show Value.bool false = _
        rw [show (decide ((L.getD i.toNat tok0).kind = (M.getD i.toNat tok0).kind) && (decide ((L.getD i.toNat tok0).text = (M.getD i.toNat tok0).text) &&
            (decide ((sp && decide (0 < i) && (L.getD i.toNat tok0).space) = (sp && decide (0 < i) && (M.getD i.toNat tok0).space)) && true))) = false from h3]
        rfl
      · rw [Bool.not_eq_false'] at h3
        rw [show (decide ((L.getD i.toNat tok0).kind = (M.getD i.toNat tok0).kind) && (decide ((L.getD i.toNat tok0).text = (M.getD i.toNat tok0).text) &&
            (decide ((sp && decide (0 < i) && (L.getD i.toNat tok0).space) = (sp && decide (0 < i) && (M.getD i.toNat tok0).space)) && true))) = true from h3, Bool.true_and] at g3
        repeat (refine And.intro ?_ ?_; first | omega | (simp [Lay.d] <;> omega))
        refine again (i + 1) [] (.of rfl rfl rfl rfl rfl rfl) ⟨by omega, by omega, ?_⟩ (by omega)
        rw [show (!decide (0 < i + 1)) = false by simp; omega]
        exact g3
    · have h2 : i = L.length := by
        have h3 : ¬ (i < (L.length : Int)) := of_decide_eq_false h
        omega
      refine fin1 (fun _ _ => ?_)
      rw [List.drop_eq_nil_of_le (by omega), List.drop_eq_nil_of_le (by omega)] at g3
      simp only [eqFrom] at g3
      rw [← g3]; rfl
end Go.Proofs.Ytdonomneofdhfaa
namespace Go.Proofs.Ytdonomneofdhfaa
open Go.GV Go.RowKit
def byC (c : Chr) : UInt8 := UInt8.ofNat c.b.toNat
def logB (s : ByteArray) : ByteArray := ⟨((charsOf s).map byC).toArray⟩
def errK : List Lx.Tk → Int
  | [] => 0
  | t :: r => if t.err ≠ 0 then t.err else errK r
def tks (C : List Chr) (l : ByteArray) : Int → List Lx.Tk → List Tok
  | _, [] => []
  | n, t :: r => ⟨t.kind, sub l t.lo t.hi, (C.getD t.lo charY.dft).pos, (C.getD ((t.hi : Int) - 1).toNat charY.dft).pos + (C.getD ((t.hi : Int) - 1).toNat charY.dft).len, decide (n < t.lo)⟩ :: tks C l t.hi r
def scanE (s : ByteArray) : Int := if checkE s ≠ 0 then checkE s else errK (itsOf (logB s))
def scanT (s : ByteArray) : List Tok := if scanE s = 0 then tks (charsOf s) (logB s) 0 (itsOf (logB s)) else []
theorem logB_size (s : ByteArray) : (logB s).size = (charsOf s).length := by
  show (((charsOf s).map byC).toArray).size = _
  simp
theorem third_range (c : Int) : 0 ≤ third c ∧ third c ≤ 255 := by
  unfold third
  (repeat' split) <;> (constructor <;> omega)
theorem partP_b (s : ByteArray) (i : Int) : 0 ≤ (partP s i).b ∧ (partP s i).b ≤ 255 := by
  unfold partP
  split
  · exact ⟨Int.le_refl _, by show (0 : Int) ≤ 255; decide⟩
  · show 0 ≤ chB s i ∧ chB s i ≤ 255
    unfold chB
    split
    · exact third_range _
    · exact bt_range s i
theorem partsF_b (s : ByteArray) : ∀ (n : Nat) (i : Int), ∀ p ∈ partsF s n i, 0 ≤ p.b ∧ p.b ≤ 255
  | 0, _, p, hp => by cases hp
  | n + 1, i, p, hp => by
    rw [partsF] at hp
    split at hp
    · rcases List.mem_cons.1 hp with rfl | hp
      · exact partP_b s i
      · exact partsF_b s n _ p hp
    · cases hp
theorem chrsL_b : ∀ (L : List Part), (∀ p ∈ L, 0 ≤ p.b ∧ p.b ≤ 255) → ∀ c ∈ chrsL L, 0 ≤ c.b ∧ c.b ≤ 255
  | [], _, c, hc => by cases hc
  | p :: r, h, c, hc => by
    rw [chrsL] at hc
    split at hc
    · exact chrsL_b r (fun p hp => h p (List.mem_cons_of_mem _ hp)) c hc
    · rcases List.mem_cons.1 hc with rfl | hc
      · exact h p (List.mem_cons_self ..)
      · exact chrsL_b r (fun p hp => h p (List.mem_cons_of_mem _ hp)) c hc
theorem charsOf_b {s : ByteArray} {c : Chr} (h : c ∈ charsOf s) : 0 ≤ c.b ∧ c.b ≤ 255 := by
  unfold charsOf at h
  split at h
  · exact chrsL_b _ (partsF_b s _ _) c h
  · cases h
theorem chrsL_mem : ∀ (L : List Part) (c : Chr), c ∈ chrsL L → ∃ p ∈ L, c = ⟨p.b, p.pos, p.len⟩
  | [], c, hc => by cases hc
  | p :: r, c, hc => by
    rw [chrsL] at hc
    split at hc
    · obtain ⟨q, hq, e⟩ := chrsL_mem r c hc
      exact ⟨q, List.mem_cons_of_mem _ hq, e⟩
    · rcases List.mem_cons.1 hc with rfl | hc
      · exact ⟨p, List.mem_cons_self .., rfl⟩
      · obtain ⟨q, hq, e⟩ := chrsL_mem r c hc
        exact ⟨q, List.mem_cons_of_mem _ hq, e⟩
theorem charsOf_pos {s : ByteArray} {c : Chr} (h : c ∈ charsOf s) : 0 ≤ c.pos ∧ 1 ≤ c.len ∧ c.pos + c.len ≤ s.size := by
  unfold charsOf at h
  split at h
  · obtain ⟨p, hp, rfl⟩ := chrsL_mem _ c h
    have := partsV_mem hp
    exact ⟨this.1, this.2.2.1, this.2.2.2.1⟩
  · cases h
theorem byC_nat {c : Chr} (h : 0 ≤ c.b ∧ c.b ≤ 255) : ((byC c).toNat : Int) = c.b := by
  unfold byC
  rw [UInt8.toNat_ofNat']
  omega
set_option maxRecDepth 100000 in
theorem scan_any (s : ByteArray) (w : World) (hs : s.size ≤ 9223372036854775807) (hg : Glob (im w)) : Calls Try.prog 41 #[.string s] w (PureP w (OwnT 31 (tokY.d (scanT s)) [.int .i64 (scanE s)])) := by
  refine x_fun tt_ok Try.func41 rfl rfl [] 0 [.v (.string s)] rfl rfl rfl rfl (fun b hb => by cases hb) ?_
  refine x_vc tt_ok ?_
  refine xl_callO2 136 (charY.d (charsOf s)) [.int .i64 (checkE s)] rfl rfl rfl rfl fn102 rfl rfl (fun E w F _ => chars_any s w hs) ?_
  refine xl_go tt_ok ?_
  refine x_if (fun h => ?_) (fun h => ?_)
  · have h := of_decide_eq_true h
    have e1 : scanE s = checkE s := by rw [scanE, if_pos h]
    have e2 : scanT s = [] := by rw [scanT, e1, if_neg h]
    rw [e1, e2]
    exact finO2n tokY
  · have h : checkE s = 0 := Classical.not_not.1 (of_decide_eq_false h)
    have hsz := checkE_size h
    have e1 : scanE s = errK (itsOf (logB s)) := by rw [scanE, if_neg (by simpa using h)]
    have hcl : (charsOf s).length ≤ 65536 := by
      have h2 : charsOf s = chrsL (partsV s) := by rw [charsOf, if_pos h]
      rw [h2]
      exact Nat.le_trans (chrsL_len _) (Nat.le_trans (partsV_len s) hsz)
    obtain ⟨C, hC⟩ : ∃ C, C = charsOf s := ⟨_, rfl⟩
    have hl : logB s = ⟨(C.map byC).toArray⟩ := by rw [hC]; rfl
    have hCb : ∀ c ∈ C, 0 ≤ c.b ∧ c.b ≤ 255 := fun c hc => charsOf_b (hC ▸ hc)
    have hCp : ∀ c ∈ C, 0 ≤ c.pos ∧ 1 ≤ c.len ∧ c.pos + c.len ≤ s.size := fun c hc => charsOf_pos (hC ▸ hc)
    have e2 : scanT s = if scanE s = 0 then tks C (logB s) 0 (itsOf (logB s)) else [] := by rw [hC]; rfl
    have hls := logB_size s
    rw [← hC] at hcl hls ⊢
    clear hC
    refine xl_makeN tt_ok byteY (0 : UInt8) (.int .u8 0) 1 C.length rfl rfl rfl rfl rfl rfl rfl rfl rfl rfl (by kernel_rfl) rfl rfl rfl (by omega) (by omega) ?_
    refine xl_go tt_ok ?_
    refine x_loop (σ := Int × List UInt8) (fun (k, L) => ⟨[(28, .v (.int .i64 k)), (27, .v (.int .i64 C.length)), (26, .r 2), (6, .r 4), (4, .p 3 0), (3, .p 1 0), (2, .p 0 0)], [],
        [(0, .box 22 [.v (.slice none 0 0)]), (1, .box 37 [.v (.int .i64 0)]), (2, .row 136 (charY.d C)), (3, .box 132 [.r 2]), (4, .row 5 (byteY.d L))], 5⟩)
      (fun (k, L) _ => 0 ≤ k ∧ k ≤ C.length ∧ L.length = C.length ∧ L.take k.toNat = (C.take k.toNat).map byC) (fun (k, _) => (C.length - k).toNat) (fun (_, _) => Nat.le_refl _) (0, List.replicate C.length 0) [] (.of rfl rfl rfl rfl rfl rfl)
      ⟨by omega, by omega, by simp, by simp⟩ ?_
    rintro ⟨k, L⟩ u hu ⟨g1, g2, g3, g4⟩
    refine x_vc tt_ok ?_
    refine x_if (fun h3 => ?_) (fun h3 => ?_)
    · have h3 : k < C.length := of_decide_eq_true h3
      have hkl : k.toNat < C.length := by omega
      have hm : C.getD k.toNat charY.dft ∈ C := by
        rw [List.getD_eq_getElem?_getD, List.getElem?_eq_getElem hkl]; exact List.getElem_mem _
      have hbn := byC_nat (hCb _ hm)
      repeat (refine And.intro ?_ ?_; first | omega | (simp only [Lay.d_n]; omega) | (simp only [decide_eq_true_eq, decide_eq_false_iff_not, Bool.or_eq_false_iff, Bool.and_eq_true, Bool.or_eq_true, Bool.and_eq_false_iff, Bool.not_eq_true', Bool.not_eq_false', Lay.d_n]; omega) | (simp only [decide_eq_true_eq, decide_eq_false_iff_not, Bool.or_eq_false_iff, Bool.and_eq_true, Bool.or_eq_true, Bool.and_eq_false_iff, Bool.not_eq_true', Bool.not_eq_false']; omega))
      refine xl_set tt_ok byteY L (byC (C.getD k.toNat charY.dft)) (cs := [.int .u8 (C.getD k.toNat charY.dft).b]) rfl rfl rfl rfl rfl rfl rfl g1 (by rw [g3]; exact h3) rfl rfl (Nat.le_refl 1) (by show [Value.int .u8 ((byC (C.getD k.toNat charY.dft)).toNat : Int)] = [Value.int .u8 (C.getD k.toNat charY.dft).b]; rw [hbn]) ?_
      refine xl_go tt_ok ?_
      repeat (refine And.intro ?_ ?_; first | omega | (simp only [Lay.d_n]; omega) | (simp only [decide_eq_true_eq, decide_eq_false_iff_not, Bool.or_eq_false_iff, Bool.and_eq_true, Bool.or_eq_true, Bool.and_eq_false_iff, Bool.not_eq_true', Bool.not_eq_false', Lay.d_n]; omega) | (simp only [decide_eq_true_eq, decide_eq_false_iff_not, Bool.or_eq_false_iff, Bool.and_eq_true, Bool.or_eq_true, Bool.and_eq_false_iff, Bool.not_eq_true', Bool.not_eq_false']; omega))
      refine again (k + 1, L.set k.toNat (byC (C.getD k.toNat charY.dft))) [] (.of rfl rfl rfl rfl rfl rfl) ⟨by omega, by omega, by rw [List.length_set]; exact g3, ?_⟩ (by simp only; omega)
      have hk : k.toNat < L.length := by omega
      rw [show (k + 1).toNat = k.toNat + 1 by omega, ← List.take_append_getElem (by rw [List.length_set]; exact hk), List.getElem_set_self, List.take_set_of_le (Nat.le_refl _), g4, ← List.take_append_getElem hkl, List.map_append]
      simp only [List.map_cons, List.map_nil, List.getD_eq_getElem?_getD, List.getElem?_eq_getElem hkl, Option.getD_some]
    · have h3 : ¬ k < C.length := of_decide_eq_false h3
      have hL : L = C.map byC := by
        rw [show k.toNat = C.length by omega, List.take_of_length_le (by omega), List.take_length] at g4; exact g4
      subst hL
      refine xl_bytesStr (C.map byC) rfl rfl rfl rfl Try.underlying61 Try.underlying5 Try.underlying9 rfl (fun E w F hs => hs.rowAt (k := 4) rfl) ?_
      rw [← hl]
      refine xl_go tt_ok ?_
      clear g4 g3
      generalize logB s = l at hls e1 e2 hl ⊢
      refine xl_call _ rfl rfl rfl rfl fn100 rfl rfl (fun E w F _ => itemsFn_any l w) (fun v u1 u2 hu2 hs2 hv => ?_)
      obtain ⟨bk, rfl, hbk⟩ := hv
      have hb2 := of_sub_cut hs2 hbk
      have hg2 : Glob u2 := (hg.sub hu.sub).sub hu2.sub
      refine xl_go tt_ok ?_
      refine x_nilCell 6 31 tokY [] [] rfl ?_
      refine x_range2 (σ := List Tok × Int) (τ := Int) rfl fn130 (items_iter l bk u2 hb2 hg2 (by omega)) [(11, .p 7 0), (10, .p 6 0), (9, .p 5 0), (4, .p 3 0), (3, .p 1 0), (2, .p 0 0)]
        (fun (T, n) => [(0, .box 22 [.v (.slice none 0 0)]), (1, .box 37 [.v (.int .i64 0)]), (2, .row 136 (charY.d C)), (3, .box 132 [.r 2]), (5, .box 9 [.v (.string l)]), (6, .box 22 [.r 10]), (7, .box 3 [.v (.int .i64 n)]), (10, .row 31 (tokY.d T))]) (fun _ => 11)
        (fun k (T, n) _ => T.length ≤ k ∧ errK (itsOf l) = errK ((itsOf l).drop k) ∧ tks C l 0 (itsOf l) = T ++ tks C l n ((itsOf l).drop k))
        (fun v => [(0, .box 22 [.v (.slice none 0 0)]), (1, .box 37 [.v (.int .i64 v)])]) (fun _ => 11)
        (fun v e _ => e = .ret ∧ errK (itsOf l) = v ∧ v ≠ 0) ([], 0) [(10, some 8)] (.of rfl rfl rfl rfl rfl rfl) ⟨Nat.le_refl _, rfl, rfl⟩ rfl
        (fun _ => rfl) (fun _ => rfl) (fun _ => by decide) (fun _ => by decide) rfl rfl (fun lb k x s' u3 Fr Fr' hx hu3 hgr => ?_) (fun s' u3 hu3 hgr => ?_) (fun v e u3 hu3 hgr => ?_)
      · obtain ⟨T, n⟩ := s'
        obtain ⟨g0, g1, g2⟩ := hgr
        rw [List.getElem?_map] at hx
        obtain ⟨t, ht, rfl⟩ := Option.map_eq_some_iff.1 hx
        rw [drop_get ht] at g1 g2
        have hm := its_mem (List.mem_of_getElem? ht)
        have hlen := its_len l
        have hk : k < (itsOf l).length := (List.getElem?_eq_some_iff.1 ht).1
        refine x_vc tt_ok ?_
        refine ⟨rfl, rfl, x_vc tt_ok ?_⟩
        refine x_if (fun h4 => ?_) (fun h4 => ?_)
        · have h4 := of_decide_eq_true h4
          rw [errK, if_pos h4] at g1
          exact ⟨t.err, [], .of rfl rfl rfl rfl rfl rfl, rfl, g1, h4⟩
        · have h4 : t.err = 0 := Classical.not_not.1 (of_decide_eq_false h4)
          rw [errK, if_neg (by simpa using h4)] at g1
          rw [tks] at g2
          have hm : t.lo < t.hi ∧ t.hi ≤ l.size := by
            rcases hm with hm | hm
            · exact absurd h4 hm
            · exact hm.2
          have q1 : (C.getD t.lo charY.dft) ∈ C := by
            rw [List.getD_eq_getElem?_getD, List.getElem?_eq_getElem (by omega : t.lo < C.length)]; exact List.getElem_mem _
          have q2 : (C.getD ((t.hi : Int) - 1).toNat charY.dft) ∈ C := by
            rw [List.getD_eq_getElem?_getD, List.getElem?_eq_getElem (by omega : ((t.hi : Int) - 1).toNat < C.length)]; exact List.getElem_mem _
          have q1 := hCp _ q1
          have q2 := hCp _ q2
          have next : (T ++ [(⟨t.kind, sub l t.lo t.hi, (C.getD t.lo charY.dft).pos, (C.getD ((t.hi : Int) - 1).toNat charY.dft).pos + (C.getD ((t.hi : Int) - 1).toNat charY.dft).len, decide (n < t.lo)⟩ : Tok)]).length ≤ k + 1 ∧ errK (itsOf l) = errK ((itsOf l).drop (k + 1)) ∧ tks C l 0 (itsOf l) = (T ++ [(⟨t.kind, sub l t.lo t.hi, (C.getD t.lo charY.dft).pos, (C.getD ((t.hi : Int) - 1).toNat charY.dft).pos + (C.getD ((t.hi : Int) - 1).toNat charY.dft).len, decide (n < t.lo)⟩ : Tok)]) ++ tks C l t.hi ((itsOf l).drop (k + 1)) :=
            ⟨by rw [List.length_append]; simp only [List.length_singleton]; omega, g1, by rw [g2, List.append_assoc]; rfl⟩
          repeat (refine And.intro ?_ ?_; first | omega | (simp only [Lay.d_n]; omega) | (simp only [decide_eq_true_eq, decide_eq_false_iff_not, Bool.or_eq_false_iff, Bool.and_eq_true, Bool.or_eq_true, Bool.and_eq_false_iff, Bool.not_eq_true', Bool.not_eq_false', Lay.d_n]; omega) | (simp only [decide_eq_true_eq, decide_eq_false_iff_not, Bool.or_eq_false_iff, Bool.and_eq_true, Bool.or_eq_true, Bool.and_eq_false_iff, Bool.not_eq_true', Bool.not_eq_false']; omega))
          refine x_drawA mix ?_
          refine xa_pures tt_ok (fuel := 21) [1, 4, 6, 10, 15, 17, 20] rfl (by kernel_rfl) (by kernel_rfl) (fun _ _ _ hh => hh) (by kernel_rfl) (by kernel_rfl) ?_
          refine xa_late2 tt_ok (fuel := 3) 0 24 [2, 3, 5, 7, 8, 9, 11, 12, 13, 14, 16, 18, 19, 21, 22, 23, 24] rfl rfl rfl (by kernel_rfl) (by kernel_rfl) (by kernel_rfl) (by kernel_rfl) (by kernel_rfl) (xd_go tt_ok ?_)
          repeat (refine And.intro ?_ ?_; first | omega | (simp only [Lay.d_n]; omega) | (simp only [decide_eq_true_eq, decide_eq_false_iff_not, Bool.or_eq_false_iff, Bool.and_eq_true, Bool.or_eq_true, Bool.and_eq_false_iff, Bool.not_eq_true', Bool.not_eq_false', Lay.d_n]; omega) | (simp only [decide_eq_true_eq, decide_eq_false_iff_not, Bool.or_eq_false_iff, Bool.and_eq_true, Bool.or_eq_true, Bool.and_eq_false_iff, Bool.not_eq_true', Bool.not_eq_false']; omega))
          refine ⟨rfl, ?_, ?_⟩
          · refine xa_chain (fuel := 1) [25, 26] rfl rfl (by kernel_rfl) ?_
            refine xl_push tt_ok tokY T (⟨t.kind, sub l t.lo t.hi, (C.getD t.lo charY.dft).pos, (C.getD ((t.hi : Int) - 1).toNat charY.dft).pos + (C.getD ((t.hi : Int) - 1).toNat charY.dft).len, decide (n < t.lo)⟩ : Tok) 48 rfl rfl rfl rfl rfl rfl rfl rfl rfl rfl rfl rfl (by kernel_rfl) rfl rfl rfl rfl rfl (fun n hn => by cases hn; decide) rfl rfl rfl (by omega) (by omega) ?_
            refine xl_end ?_
            refine xa_one 27 (by kernel_rfl) rfl (xl_go tt_ok ?_)
            refine xa_done (by kernel_rfl) rfl ?_
            exact ⟨(T ++ [(⟨t.kind, sub l t.lo t.hi, (C.getD t.lo charY.dft).pos, (C.getD ((t.hi : Int) - 1).toNat charY.dft).pos + (C.getD ((t.hi : Int) - 1).toNat charY.dft).len, decide (n < t.lo)⟩ : Tok)], (t.hi : Int)), [(10, some 13)], .of rfl rfl rfl rfl rfl rfl, next⟩
          · refine xa_two 0 25 (by kernel_rfl) rfl rfl (xl_go tt_ok ?_) ?_
            · refine xa_chain (fuel := 1) [25, 26] rfl rfl (by kernel_rfl) ?_
              refine xl_push tt_ok tokY T (⟨t.kind, sub l t.lo t.hi, (C.getD t.lo charY.dft).pos, (C.getD ((t.hi : Int) - 1).toNat charY.dft).pos + (C.getD ((t.hi : Int) - 1).toNat charY.dft).len, decide (n < t.lo)⟩ : Tok) 48 rfl rfl rfl rfl rfl rfl rfl rfl rfl rfl rfl rfl (by kernel_rfl) rfl rfl rfl rfl rfl (fun n hn => by cases hn; decide) rfl rfl rfl (by omega) (by omega) ?_
              refine xl_end ?_
              refine xa_one 27 (by kernel_rfl) rfl (xl_go tt_ok ?_)
              refine xa_done (by kernel_rfl) rfl ?_
              exact ⟨(T ++ [(⟨t.kind, sub l t.lo t.hi, (C.getD t.lo charY.dft).pos, (C.getD ((t.hi : Int) - 1).toNat charY.dft).pos + (C.getD ((t.hi : Int) - 1).toNat charY.dft).len, decide (n < t.lo)⟩ : Tok)], (t.hi : Int)), [(10, some 13)], .of rfl rfl rfl rfl rfl rfl, next⟩
            · refine xl_build tt_ok tokY [(⟨t.kind, sub l t.lo t.hi, (C.getD t.lo charY.dft).pos, (C.getD ((t.hi : Int) - 1).toNat charY.dft).pos + (C.getD ((t.hi : Int) - 1).toNat charY.dft).len, decide (n < t.lo)⟩ : Tok)] [_] rfl rfl rfl rfl rfl rfl rfl rfl rfl rfl rfl rfl rfl rfl rfl ?_
              refine xl_end ?_
              refine xa_one 0 (by kernel_rfl) rfl (xl_go tt_ok ?_)
              refine xa_one 26 (by kernel_rfl) rfl ?_
              refine xl_append tt_ok tokY T [(⟨t.kind, sub l t.lo t.hi, (C.getD t.lo charY.dft).pos, (C.getD ((t.hi : Int) - 1).toNat charY.dft).pos + (C.getD ((t.hi : Int) - 1).toNat charY.dft).len, decide (n < t.lo)⟩ : Tok)] 48 rfl rfl rfl rfl rfl rfl rfl rfl (by kernel_rfl) rfl rfl rfl (fun E w F hs => hs.rowAt (k := 13) rfl) tokOne rfl (by simp only [List.length_singleton]; omega) (by simp only [List.length_singleton]; omega) ?_
              refine xl_end ?_
              refine xa_one 27 (by kernel_rfl) rfl (xl_go tt_ok ?_)
              refine xa_done (by kernel_rfl) rfl ?_
              exact ⟨(T ++ [(⟨t.kind, sub l t.lo t.hi, (C.getD t.lo charY.dft).pos, (C.getD ((t.hi : Int) - 1).toNat charY.dft).pos + (C.getD ((t.hi : Int) - 1).toNat charY.dft).len, decide (n < t.lo)⟩ : Tok)], (t.hi : Int)), [(10, some 14)], .of rfl rfl rfl rfl rfl rfl, next⟩
      · obtain ⟨T, n⟩ := s'
        obtain ⟨g0, g1, g2⟩ := hgr
        rw [List.length_map, List.drop_length] at g1 g2
        have e3 : scanE s = 0 := by rw [e1, g1]; rfl
        have e4 : scanT s = T := by rw [e2, if_pos e3, g2]; simp [tks]
        rw [e3, e4]
        exact finO2 (k := 10) rfl
      · obtain ⟨rfl, g1, g2⟩ := hgr
        have e3 : scanE s = v := by rw [e1, g1]
        have e4 : scanT s = [] := by rw [e2, e3, if_neg g2]
        rw [e3, e4]
        exact finO2n tokY
end Go.Proofs.Ytdonomneofdhfaa
namespace Go.Proofs.Ytdonomneofdhfaa
open Go.GV Go.RowKit
theorem isWord_cons (c : Int) (r : Lx.Bs) : Lx.isWord (c :: r) = (Lx.letter c && r.all Lx.alnum) := rfl
set_option maxRecDepth 100000 in
theorem isWord_any (s : ByteArray) (hz : s.size ≤ 140737488355328) (w : World) : Calls Try.prog 170 #[.string s] w (PureP w fun v _ => v = .bool (Lx.isWord (bl s))) := by
  obtain ⟨N, hN⟩ : ∃ N, N = Lx.isWord (bl s) := ⟨_, rfl⟩
  rw [← hN]
  refine x_fun tt_ok Try.func170 rfl rfl [] 0 [.v (.string s)] rfl rfl rfl rfl (fun b hb => by cases hb) ?_
  refine x_vc tt_ok ?_
  refine x_loop (σ := Int) (fun k => ⟨[(3, .v (.int .i64 k)), (0, .v (.string s))], [], [], 0⟩)
    (fun k _ => 0 ≤ k ∧ k ≤ s.size ∧ (0 < k → N = (tl s k).all Lx.alnum)) (fun k => (s.size - k).toNat) (fun _ => Nat.le_refl _) 0 [] (.of rfl rfl rfl rfl rfl rfl)
    ⟨by omega, by omega, fun h => absurd h (by omega)⟩ ?_
  rintro k u hu ⟨g1, g2, g3⟩
  refine x_vc tt_ok ?_
  refine x_if (fun h => ?_) (fun h => ?_)
  · have h2 : k < s.size := of_decide_eq_true h
    repeat (refine And.intro ?_ ?_; first | omega | (simp only [Lay.d_n]; omega) | (simp only [decide_eq_true_eq, decide_eq_false_iff_not, Bool.or_eq_false_iff, Bool.and_eq_true, Bool.or_eq_true, Bool.and_eq_false_iff, Bool.not_eq_true', Bool.not_eq_false', Lay.d_n]; omega) | (simp only [decide_eq_true_eq, decide_eq_false_iff_not, Bool.or_eq_false_iff, Bool.and_eq_true, Bool.or_eq_true, Bool.and_eq_false_iff, Bool.not_eq_true', Bool.not_eq_false']; omega))
    refine xl_call0 (.bool (Lx.letter (bt s k))) rfl rfl rfl rfl fn181 rfl rfl (fun E w F _ => letterR_any _ w) ?_
    refine xl_go tt_ok ?_
    repeat (refine And.intro ?_ ?_; first | omega | (simp only [Lay.d_n]; omega) | (simp only [decide_eq_true_eq, decide_eq_false_iff_not, Bool.or_eq_false_iff, Bool.and_eq_true, Bool.or_eq_true, Bool.and_eq_false_iff, Bool.not_eq_true', Bool.not_eq_false', Lay.d_n]; omega) | (simp only [decide_eq_true_eq, decide_eq_false_iff_not, Bool.or_eq_false_iff, Bool.and_eq_true, Bool.or_eq_true, Bool.and_eq_false_iff, Bool.not_eq_true', Bool.not_eq_false']; omega))
    refine xl_gcall0 (.bool (Lx.digit (bt s k))) rfl rfl rfl rfl fn182 rfl rfl (fun _ E w F _ => digitR_any _ w) ?_
    refine xl_go tt_ok ?_
    have key : N = if k = 0 then (Lx.letter (bt s k) && (tl s (k + 1)).all Lx.alnum) else (Lx.alnum (bt s k) && (tl s (k + 1)).all Lx.alnum) := by
      by_cases hk : k = 0
      · subst hk
        rw [if_pos rfl, hN, ← tl_zero, tl_cons (by omega) h2]; rfl
      · rw [if_neg hk, g3 (by omega), tl_cons g1 h2]; rfl
    refine x_if (fun h3 => ?_) (fun h3 => ?_)
    · have h3' : (!Lx.letter (bt s k) && (decide (k = 0) || !Lx.digit (bt s k))) = true := h3
      have e : N = false := by
        rw [key]
        obtain ⟨q1, q2⟩ := Bool.and_eq_true_iff.1 h3'
        rw [Bool.not_eq_true'] at q1
        by_cases hk : k = 0
        · rw [if_pos hk, q1]; rfl
        · rw [decide_eq_false hk, Bool.false_or, Bool.not_eq_true'] at q2
          rw [if_neg hk]; unfold Lx.alnum; rw [q1, q2]; rfl
      rw [e]
      exact fin1 (fun _ _ => rfl)
    · have h3' : (!Lx.letter (bt s k) && (decide (k = 0) || !Lx.digit (bt s k))) = false := h3
      repeat (refine And.intro ?_ ?_; first | omega | (simp only [Lay.d_n]; omega) | (simp only [decide_eq_true_eq, decide_eq_false_iff_not, Bool.or_eq_false_iff, Bool.and_eq_true, Bool.or_eq_true, Bool.and_eq_false_iff, Bool.not_eq_true', Bool.not_eq_false', Lay.d_n]; omega) | (simp only [decide_eq_true_eq, decide_eq_false_iff_not, Bool.or_eq_false_iff, Bool.and_eq_true, Bool.or_eq_true, Bool.and_eq_false_iff, Bool.not_eq_true', Bool.not_eq_false']; omega))
      refine again (k + 1) [] (.of rfl rfl rfl rfl rfl rfl) ⟨by omega, by omega, fun _ => ?_⟩ (by omega)
      rw [key]
      cases hl : Lx.letter (bt s k) with
      | true => unfold Lx.alnum; rw [hl]; simp
      | false =>
        rw [hl] at h3'
        simp only [Bool.not_false, Bool.true_and, Bool.or_eq_false_iff, decide_eq_false_iff_not, Bool.not_eq_false'] at h3'
        rw [if_neg h3'.1]; unfold Lx.alnum; rw [hl, h3'.2]; rfl
  · have h2 : ¬ k < (s.size : Int) := of_decide_eq_false h
    have e : N = decide (0 < (s.size : Int)) := by
      by_cases h0 : (0 : Int) < s.size
      · rw [g3 (by omega), tl_nil (by omega), decide_eq_true h0]; rfl
      · rw [hN, ← tl_zero, tl_nil (by omega), decide_eq_false h0]; rfl
    rw [e]
    exact fin1 (fun _ _ => rfl)
theorem pieces_cons (q c : Int) (r : Lx.Bs) : Lx.pieces q (c :: r) = if (decide (c = q) || decide (c = 10)) = true then false else if c = 92 then
    (match r with
      | [] => false
      | d :: r' => if d = 10 then false else Lx.pieces q r') else Lx.pieces q r := by
  cases r with
  | nil =>
    simp only [Lx.pieces]
    cases (decide (c = q) || decide (c = 10)) with
    | true => rfl
    | false => by_cases h : c = 92 <;> simp [h]
  | cons d r =>
    simp only [Lx.pieces]
    cases (decide (c = q) || decide (c = 10)) with
    | true => rfl
    | false =>
      by_cases h : c = 92
      · by_cases h2 : d = 10 <;> simp [h, h2]
      · simp [h]
set_option maxRecDepth 100000 in
theorem pieces_any (s : ByteArray) (q : Int) (hz : s.size ≤ 140737488355328) (w : World) : Calls Try.prog 185 #[.string s, .int .u8 q] w (PureP w fun v _ => v = .bool (Lx.pieces q (bl s))) := by
  obtain ⟨N, hN⟩ : ∃ N, N = Lx.pieces q (bl s) := ⟨_, rfl⟩
  rw [← hN]
  refine x_fun tt_ok Try.func185 rfl rfl [] 0 [.v (.string s), .v (.int .u8 q)] rfl rfl rfl rfl (fun b hb => by cases hb) ?_
  refine x_vc tt_ok ?_
  refine x_loop (σ := Int) (fun k => ⟨[(5, .v (.int .i64 k)), (1, .v (.int .u8 q)), (0, .v (.string s))], [], [], 0⟩)
    (fun k _ => 0 ≤ k ∧ k ≤ s.size ∧ N = Lx.pieces q (tl s k)) (fun k => (s.size - k).toNat) (fun _ => Nat.le_refl _) 0 [] (.of rfl rfl rfl rfl rfl rfl)
    ⟨by omega, by omega, hN⟩ ?_
  rintro k u hu ⟨g1, g2, g3⟩
  refine x_vc tt_ok ?_
  refine x_if (fun h => ?_) (fun h => ?_)
  · have h2 : k < s.size := of_decide_eq_true h
    rw [tl_cons g1 h2, pieces_cons] at g3
    repeat (refine And.intro ?_ ?_; first | omega | (simp only [Lay.d_n]; omega) | (simp only [decide_eq_true_eq, decide_eq_false_iff_not, Bool.or_eq_false_iff, Bool.and_eq_true, Bool.or_eq_true, Bool.and_eq_false_iff, Bool.not_eq_true', Bool.not_eq_false', Lay.d_n]; omega) | (simp only [decide_eq_true_eq, decide_eq_false_iff_not, Bool.or_eq_false_iff, Bool.and_eq_true, Bool.or_eq_true, Bool.and_eq_false_iff, Bool.not_eq_true', Bool.not_eq_false']; omega))
    refine x_if (fun h3 => ?_) (fun h3 => ?_)
    · rw [if_pos h3] at g3
      rw [g3]
      exact fin1 (fun _ _ => rfl)
    · rw [if_neg (fun h => Bool.noConfusion (h.symm.trans h3))] at g3
      repeat (refine And.intro ?_ ?_; first | omega | (simp only [Lay.d_n]; omega) | (simp only [decide_eq_true_eq, decide_eq_false_iff_not, Bool.or_eq_false_iff, Bool.and_eq_true, Bool.or_eq_true, Bool.and_eq_false_iff, Bool.not_eq_true', Bool.not_eq_false', Lay.d_n]; omega) | (simp only [decide_eq_true_eq, decide_eq_false_iff_not, Bool.or_eq_false_iff, Bool.and_eq_true, Bool.or_eq_true, Bool.and_eq_false_iff, Bool.not_eq_true', Bool.not_eq_false']; omega))
      refine x_if (fun h4 => ?_) (fun h4 => ?_)
      · rw [if_pos (of_decide_eq_true h4)] at g3
        repeat (refine And.intro ?_ ?_; first | omega | (simp only [Lay.d_n]; omega) | (simp only [decide_eq_true_eq, decide_eq_false_iff_not, Bool.or_eq_false_iff, Bool.and_eq_true, Bool.or_eq_true, Bool.and_eq_false_iff, Bool.not_eq_true', Bool.not_eq_false', Lay.d_n]; omega) | (simp only [decide_eq_true_eq, decide_eq_false_iff_not, Bool.or_eq_false_iff, Bool.and_eq_true, Bool.or_eq_true, Bool.and_eq_false_iff, Bool.not_eq_true', Bool.not_eq_false']; omega))
        refine x_if (fun h5 => ?_) (fun h5 => ?_)
        · have h5' : (decide (k + 1 = (s.size : Int)) || decide (bt s (k + 1) = 10)) = true := h5
          have e : N = false := by
            rw [g3]
            by_cases h6 : k + 1 < s.size
            · rw [decide_eq_false (by omega), Bool.false_or] at h5'
              rw [tl_cons (by omega) h6]
              exact if_pos (of_decide_eq_true h5')
            · rw [tl_nil (by omega)]
          rw [e]
          exact fin1 (fun _ _ => rfl)
        · have h5' : (decide (k + 1 = (s.size : Int)) || decide (bt s (k + 1) = 10)) = false := h5
          obtain ⟨q1, q2⟩ := Bool.or_eq_false_iff.1 h5'
          have q1 := of_decide_eq_false q1
          rw [tl_cons (by omega) (by omega)] at g3
          simp only at g3
          rw [if_neg (of_decide_eq_false q2)] at g3
          repeat (refine And.intro ?_ ?_; first | omega | (simp only [Lay.d_n]; omega) | (simp only [decide_eq_true_eq, decide_eq_false_iff_not, Bool.or_eq_false_iff, Bool.and_eq_true, Bool.or_eq_true, Bool.and_eq_false_iff, Bool.not_eq_true', Bool.not_eq_false', Lay.d_n]; omega) | (simp only [decide_eq_true_eq, decide_eq_false_iff_not, Bool.or_eq_false_iff, Bool.and_eq_true, Bool.or_eq_true, Bool.and_eq_false_iff, Bool.not_eq_true', Bool.not_eq_false']; omega))
          exact again (k + 1 + 1) [] (.of rfl rfl rfl rfl rfl rfl) ⟨by omega, by omega, g3⟩ (by omega)
      · rw [if_neg (of_decide_eq_false h4)] at g3
        repeat (refine And.intro ?_ ?_; first | omega | (simp only [Lay.d_n]; omega) | (simp only [decide_eq_true_eq, decide_eq_false_iff_not, Bool.or_eq_false_iff, Bool.and_eq_true, Bool.or_eq_true, Bool.and_eq_false_iff, Bool.not_eq_true', Bool.not_eq_false', Lay.d_n]; omega) | (simp only [decide_eq_true_eq, decide_eq_false_iff_not, Bool.or_eq_false_iff, Bool.and_eq_true, Bool.or_eq_true, Bool.and_eq_false_iff, Bool.not_eq_true', Bool.not_eq_false']; omega))
        exact again (k + 1) [] (.of rfl rfl rfl rfl rfl rfl) ⟨by omega, by omega, g3⟩ (by omega)
  · have h2 : ¬ k < (s.size : Int) := of_decide_eq_false h
    rw [tl_nil (by omega)] at g3
    rw [g3]
    exact fin1 (fun _ _ => rfl)
theorem allP_snoc : ∀ (l : Lx.Bs) (a c : Int), Lx.allP a (l ++ [c]) = (Lx.allP a l && Lx.okp ((a :: l).getLast (by simp)) c)
  | [], a, c => by simp [Lx.allP]
  | b :: r, a, c => by
    simp only [List.cons_append, Lx.allP, allP_snoc r b c, Bool.and_assoc]
    rfl
theorem isNum_snoc {l : Lx.Bs} (h : l ≠ []) (h2 : l ≠ [46]) (c : Int) : Lx.isNum (l ++ [c]) = (Lx.isNum l && Lx.okp (l.getLast h) c) := by
  match l, h, h2 with
  | [a], _, h2 =>
    have ha : ¬ a = 46 := fun h => h2 (by rw [h])
    simp only [List.cons_append, List.nil_append, Lx.isNum, Lx.allP, List.getLast_singleton, Bool.and_true, decide_eq_false ha]
    cases Lx.digit a <;> rfl
  | a :: d :: r, _, _ =>
    simp only [List.cons_append, Lx.isNum]
    cases Lx.digit a with
    | true =>
      have := allP_snoc (d :: r) a c
      rw [List.cons_append] at this
      exact this
    | false =>
      cases decide (a = 46) with
      | true =>
        simp only [allP_snoc r d c]
        rw [Bool.and_assoc]; rfl
      | false => rfl
theorem sign_okc {c : Int} (h : Lx.sign c = true) : Lx.okc c = false := by
  unfold Lx.sign at h
  simp only [Bool.or_eq_true, decide_eq_true_eq] at h
  rcases h with rfl | rfl <;> rfl
theorem expo_digit {c : Int} (h : Lx.expo c = true) : Lx.digit c = false := by
  unfold Lx.expo at h
  simp only [Bool.or_eq_true, decide_eq_true_eq] at h
  rcases h with ((rfl | rfl) | rfl) | rfl <;> rfl
theorem snocS (s : ByteArray) {k : Int} (h0 : 0 ≤ k) (h : k < s.size) : bl (sub s 0 (k + 1)) = bl (sub s 0 k) ++ [bt s k] := by
  have hl : k.toNat < (bl s).length := by rw [bl_len]; omega
  rw [bl_sub s (Int.le_refl _) (by omega) (by omega), bl_sub s (Int.le_refl _) (by omega) (by omega), tl_zero, Int.sub_zero, Int.sub_zero, show (k + 1).toNat = k.toNat + 1 by omega]
  have h2 := bl_get s (n := k.toNat) (by omega)
  rw [show ((k.toNat : Nat) : Int) = k by omega] at h2
  rw [List.getElem?_eq_getElem hl] at h2
  rw [← Option.some.inj h2]
  exact (List.take_append_getElem hl).symm
theorem wholeS (s : ByteArray) : bl (sub s 0 s.size) = bl s := bl_rest s (Int.le_refl _) (by omega)
theorem isNum_step (s : ByteArray) (h2 : 2 ≤ s.size) (hx : ¬ (s.size = 2 ∧ bt s 0 = 46)) : Lx.isNum (bl s) =
    if Lx.sign (bt s ((s.size : Int) - 1)) = true then (decide (2 < (s.size : Int)) && Lx.expo (bt s ((s.size : Int) - 2)) && Lx.isNum (bl (sub s 0 ((s.size : Int) - 2))))
    else (Lx.okc (bt s ((s.size : Int) - 1)) && Lx.isNum (bl (sub s 0 ((s.size : Int) - 1)))) := by
  have e1 := snocS s (k := (s.size : Int) - 1) (by omega) (by omega)
  have e2 := snocS s (k := (s.size : Int) - 2) (by omega) (by omega)
  rw [show (s.size : Int) - 1 + 1 = s.size by omega, wholeS] at e1
  rw [show (s.size : Int) - 2 + 1 = (s.size : Int) - 1 by omega] at e2
  have hp : (bl (sub s 0 ((s.size : Int) - 2))).length = s.size - 2 := by
    rw [bl_sub s (Int.le_refl _) (by omega) (by omega), List.length_take, tl_len]; omega
  have hp0 : s.size = 2 → bt s ((s.size : Int) - 2) = bt s 0 := fun h => by rw [h]; rfl
  have hp46 : bl (sub s 0 ((s.size : Int) - 2)) = [46] → Lx.isNum (bl (sub s 0 ((s.size : Int) - 2))) = false := fun h => by rw [h]; rfl
  generalize bl (sub s 0 ((s.size : Int) - 2)) = p at e2 hp hp46 ⊢
  generalize bt s ((s.size : Int) - 2) = a at e2 hp0 ⊢
  generalize bt s ((s.size : Int) - 1) = c at e1 ⊢
  have hm46 : bl (sub s 0 ((s.size : Int) - 1)) ≠ [46] := by
    rw [e2]
    intro h
    cases p with
    | nil =>
      simp only [List.length_nil] at hp
      have h3 : s.size = 2 := by omega
      simp only [List.nil_append, List.cons.injEq, and_true] at h
      exact hx ⟨h3, (hp0 h3).symm.trans h⟩
    | cons x r => simp at h
  rw [e1, isNum_snoc (by rw [e2]; simp) hm46]
  have hlast : ∀ h, (bl (sub s 0 ((s.size : Int) - 1))).getLast h = a := fun h => by simp only [e2, List.getLast_append, List.getLast_singleton]; simp
  rw [hlast]
  by_cases hs : Lx.sign c = true
  · rw [if_pos hs]
    unfold Lx.okp
    rw [sign_okc hs, hs, Bool.false_or, Bool.true_and]
    cases ha : Lx.expo a with
    | false => simp
    | true =>
      rw [Bool.and_true, Bool.and_true, e2]
      cases p with
      | nil =>
        simp only [List.length_nil] at hp
        rw [decide_eq_false (by omega), Bool.false_and]
        show Lx.isNum [a] = false
        simp only [Lx.isNum, expo_digit ha]
        split
        · simp_all
        · rfl
      | cons x r =>
        simp only [List.length_cons] at hp
        rw [decide_eq_true (by omega), Bool.true_and]
        by_cases h46 : x :: r = [46]
        · rw [hp46 h46, h46]
          simp [Lx.isNum, Lx.digit, Lx.allP]
          have := expo_digit ha
          unfold Lx.digit at this
          simpa using this
        · rw [isNum_snoc (by simp) h46, expo_okc ha, Bool.and_true]
  · rw [if_neg hs]
    have hs : Lx.sign c = false := by simpa using hs
    unfold Lx.okp
    rw [hs, Bool.false_and, Bool.or_false, Bool.and_comm]
set_option maxRecDepth 100000 in
theorem isNumN_any (n : Nat) : ∀ (s : ByteArray), s.size = n → s.size ≤ 140737488355328 → ∀ w : World, Calls Try.prog 171 #[.string s] w (PureP w fun v _ => v = .bool (Lx.isNum (bl s))) := by
  induction n using Nat.strongRecOn with
  | _ n ih =>
    intro s hn hz w
    obtain ⟨N, hN⟩ : ∃ N, N = Lx.isNum (bl s) := ⟨_, rfl⟩
    rw [← hN]
    refine x_fun tt_ok Try.func171 rfl rfl [] 0 [.v (.string s)] rfl rfl rfl rfl (fun b hb => by cases hb) ?_
    refine x_vc tt_ok ?_
    refine x_if (fun h => ?_) (fun h => ?_)
    · have h0 : (s.size : Int) = 0 := of_decide_eq_true h
      have e : N = false := by rw [hN, ← tl_zero, tl_nil (by omega)]; rfl
      rw [e]
      exact fin1 (fun _ _ => rfl)
    · have h0 : ¬ (s.size : Int) = 0 := of_decide_eq_false h
      refine x_if (fun h1 => ?_) (fun h1 => ?_)
      · have h1 : (s.size : Int) = 1 := of_decide_eq_true h1
        repeat (refine And.intro ?_ ?_; first | omega | (simp only [Lay.d_n]; omega) | (simp only [decide_eq_true_eq, decide_eq_false_iff_not, Bool.or_eq_false_iff, Bool.and_eq_true, Bool.or_eq_true, Bool.and_eq_false_iff, Bool.not_eq_true', Bool.not_eq_false', Lay.d_n]; omega) | (simp only [decide_eq_true_eq, decide_eq_false_iff_not, Bool.or_eq_false_iff, Bool.and_eq_true, Bool.or_eq_true, Bool.and_eq_false_iff, Bool.not_eq_true', Bool.not_eq_false']; omega))
        refine xl_call0 (.bool (Lx.digit (bt s 0))) rfl rfl rfl rfl fn182 rfl rfl (fun E w F _ => digitR_any _ w) ?_
        refine xl_go tt_ok ?_
        have e : N = Lx.digit (bt s 0) := by
          rw [hN, ← tl_zero, tl_cons (by omega) (by omega), tl_nil (by omega)]
          simp only [Lx.isNum, Lx.allP]
          cases Lx.digit (bt s 0) with
          | true => rfl
          | false => cases decide (bt s 0 = 46) <;> rfl
        rw [e]
        exact fin1 (fun _ _ => rfl)
      · have h1 : ¬ (s.size : Int) = 1 := of_decide_eq_false h1
        repeat (refine And.intro ?_ ?_; first | omega | (simp only [Lay.d_n]; omega) | (simp only [decide_eq_true_eq, decide_eq_false_iff_not, Bool.or_eq_false_iff, Bool.and_eq_true, Bool.or_eq_true, Bool.and_eq_false_iff, Bool.not_eq_true', Bool.not_eq_false', Lay.d_n]; omega) | (simp only [decide_eq_true_eq, decide_eq_false_iff_not, Bool.or_eq_false_iff, Bool.and_eq_true, Bool.or_eq_true, Bool.and_eq_false_iff, Bool.not_eq_true', Bool.not_eq_false']; omega))
        refine x_if (fun h2 => ?_) (fun h2 => ?_)
        · obtain ⟨q1, q2⟩ := Bool.and_eq_true_iff.1 h2
          have q1 : (s.size : Int) = 2 := of_decide_eq_true q1
          have q2 : bt s 0 = 46 := of_decide_eq_true q2
          repeat (refine And.intro ?_ ?_; first | omega | (simp only [Lay.d_n]; omega) | (simp only [decide_eq_true_eq, decide_eq_false_iff_not, Bool.or_eq_false_iff, Bool.and_eq_true, Bool.or_eq_true, Bool.and_eq_false_iff, Bool.not_eq_true', Bool.not_eq_false', Lay.d_n]; omega) | (simp only [decide_eq_true_eq, decide_eq_false_iff_not, Bool.or_eq_false_iff, Bool.and_eq_true, Bool.or_eq_true, Bool.and_eq_false_iff, Bool.not_eq_true', Bool.not_eq_false']; omega))
          refine xl_call0 (.bool (Lx.digit (bt s 1))) rfl rfl rfl rfl fn182 rfl rfl (fun E w F _ => digitR_any _ w) ?_
          refine xl_go tt_ok ?_
          have e : N = Lx.digit (bt s 1) := by
            rw [hN, ← tl_zero, tl_cons (by omega) (by omega), tl_cons (by omega) (by omega), tl_nil (by omega), q2]
            simp [Lx.isNum, Lx.allP, show Lx.digit 46 = false from rfl]
          rw [e]
          exact fin1 (fun _ _ => rfl)
        · have hx : ¬ (s.size = 2 ∧ bt s 0 = 46) := by
            rintro ⟨q1, q2⟩
            have h2' : (decide ((s.size : Int) = 2) && decide (bt s 0 = 46)) = false := h2
            rw [decide_eq_true (by omega), decide_eq_true q2] at h2'; cases h2'
          have key := isNum_step s (by omega) hx
          rw [← hN] at key
          repeat (refine And.intro ?_ ?_; first | omega | (simp only [Lay.d_n]; omega) | (simp only [decide_eq_true_eq, decide_eq_false_iff_not, Bool.or_eq_false_iff, Bool.and_eq_true, Bool.or_eq_true, Bool.and_eq_false_iff, Bool.not_eq_true', Bool.not_eq_false', Lay.d_n]; omega) | (simp only [decide_eq_true_eq, decide_eq_false_iff_not, Bool.or_eq_false_iff, Bool.and_eq_true, Bool.or_eq_true, Bool.and_eq_false_iff, Bool.not_eq_true', Bool.not_eq_false']; omega))
          refine xl_call0 (.bool (Lx.sign (bt s ((s.size : Int) - 1)))) rfl rfl rfl rfl fn183 rfl rfl (fun E w F _ => sign_any _ w) ?_
          refine xl_go tt_ok ?_
          refine x_if (fun h3 => ?_) (fun h3 => ?_)
          · rw [if_pos h3] at key
            repeat (refine And.intro ?_ ?_; first | omega | (simp only [Lay.d_n]; omega) | (simp only [decide_eq_true_eq, decide_eq_false_iff_not, Bool.or_eq_false_iff, Bool.and_eq_true, Bool.or_eq_true, Bool.and_eq_false_iff, Bool.not_eq_true', Bool.not_eq_false', Lay.d_n]; omega) | (simp only [decide_eq_true_eq, decide_eq_false_iff_not, Bool.or_eq_false_iff, Bool.and_eq_true, Bool.or_eq_true, Bool.and_eq_false_iff, Bool.not_eq_true', Bool.not_eq_false']; omega))
            refine xl_gcall0 (.bool (Lx.expo (bt s ((s.size : Int) - 2)))) rfl rfl rfl rfl fn184 rfl rfl (fun _ E w F _ => expo_any _ w) ?_
            refine xl_go tt_ok ?_
            repeat (refine And.intro ?_ ?_; first | omega | (simp only [Lay.d_n]; omega) | (simp only [decide_eq_true_eq, decide_eq_false_iff_not, Bool.or_eq_false_iff, Bool.and_eq_true, Bool.or_eq_true, Bool.and_eq_false_iff, Bool.not_eq_true', Bool.not_eq_false', Lay.d_n]; omega) | (simp only [decide_eq_true_eq, decide_eq_false_iff_not, Bool.or_eq_false_iff, Bool.and_eq_true, Bool.or_eq_true, Bool.and_eq_false_iff, Bool.not_eq_true', Bool.not_eq_false']; omega))
            have hz2 : ((sub s 0 ((s.size : Int) - 2)).size : Int) = s.size - 2 - 0 := sub_size (Int.le_refl _) (by omega) (by omega)
            refine xl_gcall0 (.bool (Lx.isNum (bl (sub s 0 ((s.size : Int) - 2))))) rfl rfl rfl rfl fn171 rfl rfl (fun _ E w F _ => ih (sub s 0 ((s.size : Int) - 2)).size (by omega) _ rfl (by omega) w) ?_
            refine xl_go tt_ok ?_
            rw [key]
            exact fin1 (fun _ _ => rfl)
          · rw [if_neg (by rw [h3]; simp)] at key
            repeat (refine And.intro ?_ ?_; first | omega | (simp only [Lay.d_n]; omega) | (simp only [decide_eq_true_eq, decide_eq_false_iff_not, Bool.or_eq_false_iff, Bool.and_eq_true, Bool.or_eq_true, Bool.and_eq_false_iff, Bool.not_eq_true', Bool.not_eq_false', Lay.d_n]; omega) | (simp only [decide_eq_true_eq, decide_eq_false_iff_not, Bool.or_eq_false_iff, Bool.and_eq_true, Bool.or_eq_true, Bool.and_eq_false_iff, Bool.not_eq_true', Bool.not_eq_false']; omega))
            refine xl_call0 (.bool (Lx.digit (bt s ((s.size : Int) - 1)))) rfl rfl rfl rfl fn182 rfl rfl (fun E w F _ => digitR_any _ w) ?_
            refine xl_go tt_ok ?_
            refine xl_gcall0 (.bool (Lx.letter (bt s ((s.size : Int) - 1)))) rfl rfl rfl rfl fn181 rfl rfl (fun _ E w F _ => letterR_any _ w) ?_
            refine xl_go tt_ok ?_
            repeat (refine And.intro ?_ ?_; first | omega | (simp only [Lay.d_n]; omega) | (simp only [decide_eq_true_eq, decide_eq_false_iff_not, Bool.or_eq_false_iff, Bool.and_eq_true, Bool.or_eq_true, Bool.and_eq_false_iff, Bool.not_eq_true', Bool.not_eq_false', Lay.d_n]; omega) | (simp only [decide_eq_true_eq, decide_eq_false_iff_not, Bool.or_eq_false_iff, Bool.and_eq_true, Bool.or_eq_true, Bool.and_eq_false_iff, Bool.not_eq_true', Bool.not_eq_false']; omega))
            have hz2 : ((sub s 0 ((s.size : Int) - 1)).size : Int) = s.size - 1 - 0 := sub_size (Int.le_refl _) (by omega) (by omega)
            refine xl_gcall0 (.bool (Lx.isNum (bl (sub s 0 ((s.size : Int) - 1))))) rfl rfl rfl rfl fn171 rfl rfl (fun _ E w F _ => ih (sub s 0 ((s.size : Int) - 1)).size (by omega) _ rfl (by omega) w) ?_
            refine xl_go tt_ok ?_
            have e : Lx.okc (bt s ((s.size : Int) - 1)) = ((Lx.digit (bt s ((s.size : Int) - 1)) || Lx.letter (bt s ((s.size : Int) - 1))) || decide (bt s ((s.size : Int) - 1) = 46)) := by
              unfold Lx.okc Lx.alnum
              rw [Bool.or_comm (Lx.letter _)]
            rw [key, e]
            exact fin1 (fun _ _ => rfl)
theorem isNum_any (s : ByteArray) (hz : s.size ≤ 140737488355328) (w : World) : Calls Try.prog 171 #[.string s] w (PureP w fun v _ => v = .bool (Lx.isNum (bl s))) := isNumN_any _ s rfl hz w
end Go.Proofs.Ytdonomneofdhfaa
namespace Go.Proofs.Ytdonomneofdhfaa
open Go.GV Go.RowKit
theorem bl_append (a b : ByteArray) : bl (a ++ b) = bl a ++ bl b := by
  unfold bl
  rw [ByteArray.data_append, Array.toList_append, List.map_append]
def fuP (a b : ByteArray) : Bool × Int := match Lx.oneL (bl a), Lx.oneL (bl b) with
  | some _, some _ => (Lx.fz (bl a) (bl b), 0)
  | _, _ => (false, 2)
theorem oneP_some {s : ByteArray} (h : (oneP s).2 = true) : Lx.oneL (bl s) = some (oneP s).1 := by
  unfold oneP at h ⊢
  split at h
  · assumption
  · cases h
theorem oneP_none {s : ByteArray} (h : (oneP s).2 = false) : Lx.oneL (bl s) = none := by
  unfold oneP at h
  split at h
  · cases h
  · assumption
set_option maxRecDepth 100000 in
theorem fuses_any (a b : ByteArray) (hz : a.size + b.size ≤ 4294967280) (w : World) (hg : Glob (im w)) :
    Calls Try.prog 38 #[.string a, .string b] w (PureP w fun v _ => v = .tuple #[.bool (fuP a b).1, .int .i64 (fuP a b).2]) := by
  have hF : (oneP a).2 = true → (oneP b).2 = true → fuP a b = (Lx.fuseG (oneP a).1 (oneP b).1 a.size b.size 0 (itsOf (a ++ b)), 0) := by
    intro h1 h2
    unfold fuP
    rw [oneP_some h1, oneP_some h2]
    simp only
    unfold itsOf
    rw [bl_append, ← Lx.fuseG_eq (oneP_some h1) (oneP_some h2), bl_len, bl_len]
  have hF0 : (oneP a).2 = false ∨ (oneP b).2 = false → fuP a b = (false, 2) := by
    intro h
    unfold fuP
    rcases h with h | h
    · rw [oneP_none h]
    · rw [oneP_none h]
      cases Lx.oneL (bl a) <;> rfl
  generalize fuP a b = N at hF hF0 ⊢
  refine x_fun tt_ok Try.func38 rfl rfl [] 0 [.v (.string a), .v (.string b)] rfl rfl rfl rfl (fun b hb => by cases hb) ?_
  refine x_vc tt_ok ?_
  refine xl_call0 (.tuple #[.int .i64 (oneP a).1, .bool (oneP a).2]) rfl rfl rfl rfl fn36 rfl rfl (fun E w F hs => one_any a (by omega) w (hg.imm hs.imm)) ?_
  refine xl_go tt_ok ?_
  refine x_if (fun h => ?_) (fun h => ?_)
  · have h' : (oneP a).2 = false := by simpa using h
    rw [hF0 (.inl h')]
    exact fin1 (fun _ _ => rfl)
  · have ha : (oneP a).2 = true := by simpa using h
    refine xl_call0 (.tuple #[.int .i64 (oneP b).1, .bool (oneP b).2]) rfl rfl rfl rfl fn36 rfl rfl (fun E w F hs => one_any b (by omega) w (hg.imm hs.imm)) ?_
    refine xl_go tt_ok ?_
    refine x_if (fun h2 => ?_) (fun h2 => ?_)
    · have h' : (oneP b).2 = false := by simpa using h2
      rw [hF0 (.inr h')]
      exact fin1 (fun _ _ => rfl)
    · have hb : (oneP b).2 = true := by simpa using h2
      have hE := hF ha hb
      clear hF hF0 h h2
      generalize (oneP a).1 = ka at hE ⊢
      generalize (oneP b).1 = kb at hE ⊢
      repeat (refine And.intro ?_ ?_; first | omega | (simp only [Lay.d_n]; omega) | (simp only [decide_eq_true_eq, decide_eq_false_iff_not, Bool.or_eq_false_iff, Bool.and_eq_true, Bool.or_eq_true, Bool.and_eq_false_iff, Bool.not_eq_true', Bool.not_eq_false', Lay.d_n]; omega) | (simp only [decide_eq_true_eq, decide_eq_false_iff_not, Bool.or_eq_false_iff, Bool.and_eq_true, Bool.or_eq_true, Bool.and_eq_false_iff, Bool.not_eq_true', Bool.not_eq_false']; omega))
      refine xl_call _ rfl rfl rfl rfl fn100 rfl rfl (fun E w F _ => itemsFn_any (a ++ b) w) (fun v u1 u2 hu2 hs2 hv => ?_)
      obtain ⟨bk, rfl, hbk⟩ := hv
      have hb2 := of_sub_cut hs2 hbk
      have hg2 : Glob u2 := hg.sub hu2.sub
      refine xl_go tt_ok ?_
      refine x_range2 (σ := Nat) (τ := Unit) rfl fn130 (items_iter (a ++ b) bk u2 hb2 hg2 (by rw [ByteArray.size_append]; omega))
        [(9, .p 6 0), (8, .p 5 0), (6, .p 4 0), (5, .p 3 0), (4, .p 2 0), (3, .p 1 0), (2, .p 0 0)]
        (fun c => [(0, .box 9 [.v (.string a)]), (1, .box 9 [.v (.string b)]), (2, .box 4 [.v (.bool false)]), (3, .box 37 [.v (.int .i64 0)]), (4, .box 3 [.v (.int .i64 ka)]), (5, .box 3 [.v (.int .i64 kb)]), (6, .box 3 [.v (.int .i64 c)])]) (fun _ => 8)
        (fun k c _ => c ≤ 2 ∧ Lx.fuseG ka kb a.size b.size 0 (itsOf (a ++ b)) = Lx.fuseG ka kb a.size b.size c ((itsOf (a ++ b)).drop k))
        (fun _ => [(2, .box 4 [.v (.bool true)]), (3, .box 37 [.v (.int .i64 0)])]) (fun _ => 8)
        (fun _ e _ => e = .ret ∧ Lx.fuseG ka kb a.size b.size 0 (itsOf (a ++ b)) = true) 0 [] (.of rfl rfl rfl rfl rfl rfl) ⟨by omega, rfl⟩ rfl
        (fun _ => rfl) (fun _ => rfl) (fun _ => by decide) (fun _ => by decide) rfl rfl (fun l k x c u3 Fr Fr' hx hu3 hg => ?_) (fun c u3 hu3 hg => ?_) (fun _ e u3 hu3 hg => ?_)
      · obtain ⟨g0, g1⟩ := hg
        rw [List.getElem?_map] at hx
        obtain ⟨t, ht, rfl⟩ := Option.map_eq_some_iff.1 hx
        rw [drop_get ht, Lx.fuseG] at g1
        refine x_vc tt_ok ?_
        refine ⟨rfl, rfl, x_vc tt_ok ?_⟩
        refine x_if (fun h => ?_) (fun h => ?_)
        · rw [if_pos (of_decide_eq_true h)] at g1
          exact ⟨(), [], .of rfl rfl rfl rfl rfl rfl, rfl, g1⟩
        · rw [if_neg (of_decide_eq_false h)] at g1
          refine x_if (fun h1 => ?_) (fun h1 => ?_)
          · have h1' := h1
            simp only [Bool.and_eq_true, decide_eq_true_eq, and_true] at h1'
            obtain ⟨q1, q2, q3, q4⟩ := h1'
            obtain rfl : c = 0 := by omega
            rw [if_pos ⟨rfl, q2, by omega, by omega⟩] at g1
            repeat (refine And.intro ?_ ?_; first | omega | (simp only [Lay.d_n]; omega) | (simp only [decide_eq_true_eq, decide_eq_false_iff_not, Bool.or_eq_false_iff, Bool.and_eq_true, Bool.or_eq_true, Bool.and_eq_false_iff, Bool.not_eq_true', Bool.not_eq_false', Lay.d_n]; omega) | (simp only [decide_eq_true_eq, decide_eq_false_iff_not, Bool.or_eq_false_iff, Bool.and_eq_true, Bool.or_eq_true, Bool.and_eq_false_iff, Bool.not_eq_true', Bool.not_eq_false']; omega))
            exact ⟨1, [], .of rfl rfl rfl rfl rfl rfl, by omega, g1⟩
          · have hn : ¬ (c = 0 ∧ t.kind = ka ∧ t.lo = 0 ∧ t.hi = a.size) := by
              rintro ⟨q1, q2, q3, q4⟩
              rw [decide_eq_true (by omega), decide_eq_true q2, decide_eq_true (by omega), decide_eq_true (by omega)] at h1
              cases h1
            rw [if_neg hn] at g1
            repeat (refine And.intro ?_ ?_; first | omega | (simp only [Lay.d_n]; omega) | (simp only [decide_eq_true_eq, decide_eq_false_iff_not, Bool.or_eq_false_iff, Bool.and_eq_true, Bool.or_eq_true, Bool.and_eq_false_iff, Bool.not_eq_true', Bool.not_eq_false', Lay.d_n]; omega) | (simp only [decide_eq_true_eq, decide_eq_false_iff_not, Bool.or_eq_false_iff, Bool.and_eq_true, Bool.or_eq_true, Bool.and_eq_false_iff, Bool.not_eq_true', Bool.not_eq_false']; omega))
            refine x_if (fun h2 => ?_) (fun h2 => ?_)
            · have h2' := h2
              simp only [Bool.and_eq_true, decide_eq_true_eq, and_true] at h2'
              obtain ⟨q1, q2, q3, q4⟩ := h2'
              obtain rfl : c = 1 := by omega
              rw [if_pos ⟨rfl, q2, by omega, by omega⟩] at g1
              repeat (refine And.intro ?_ ?_; first | omega | (simp only [Lay.d_n]; omega) | (simp only [decide_eq_true_eq, decide_eq_false_iff_not, Bool.or_eq_false_iff, Bool.and_eq_true, Bool.or_eq_true, Bool.and_eq_false_iff, Bool.not_eq_true', Bool.not_eq_false', Lay.d_n]; omega) | (simp only [decide_eq_true_eq, decide_eq_false_iff_not, Bool.or_eq_false_iff, Bool.and_eq_true, Bool.or_eq_true, Bool.and_eq_false_iff, Bool.not_eq_true', Bool.not_eq_false']; omega))
              exact ⟨2, [], .of rfl rfl rfl rfl rfl rfl, by omega, g1⟩
            · have hn : ¬ (c = 1 ∧ t.kind = kb ∧ t.lo = a.size ∧ t.hi = a.size + b.size) := by
                rintro ⟨q1, q2, q3, q4⟩
                rw [decide_eq_true (by omega), decide_eq_true q2, decide_eq_true (by omega), decide_eq_true (by omega)] at h2
                cases h2
              rw [if_neg hn] at g1
              exact ⟨(), [], .of rfl rfl rfl rfl rfl rfl, rfl, g1⟩
      · obtain ⟨g0, g1⟩ := hg
        rw [List.length_map, List.drop_length, Lx.fuseG] at g1
        rw [g1] at hE
        rw [hE]
        refine fin1 (fun _ _ => ?_)
        show Value.tuple #[.bool (decide ((c : Int) ≠ 2)), .int .i64 0] = _
        rw [show decide ((c : Int) ≠ 2) = decide (c ≠ 2) by rw [decide_eq_decide]; omega]
      · obtain ⟨rfl, g1⟩ := hg
        rw [hE, g1]
        exact fin1 (fun _ _ => rfl)
end Go.Proofs.Ytdonomneofdhfaa
namespace Go.Proofs.Ytdonomneofdhfaa
open Go.GV Go.RowKit
set_option maxRecDepth 100000 in
def punT : ByteArray := ⟨#[32, 91, 32, 93, 32, 40, 32, 41, 32, 123, 32, 125, 32, 46, 32, 45, 62, 32, 43, 43, 32, 45, 45, 32, 38, 32, 42, 32, 43, 32, 45, 32, 126, 32, 33, 32, 47, 32, 37, 32, 60, 60, 32, 62, 62, 32, 60, 32, 62, 32, 60, 61, 32, 62, 61, 32, 61, 61, 32, 33, 61, 32, 94, 32, 124, 32, 38, 38, 32, 124, 124, 32, 63, 32, 58, 32, 59, 32, 46, 46, 46, 32, 61, 32, 42, 61, 32, 47, 61, 32, 37, 61, 32, 43, 61, 32, 45, 61, 32, 60, 60, 61, 32, 62, 62, 61, 32, 38, 61, 32, 94, 61, 32, 124, 61, 32, 44, 32, 35, 32, 35, 35, 32, 60, 58, 32, 58, 62, 32, 60, 37, 32, 37, 62, 32, 37, 58, 32, 37, 58, 37, 58, 32]⟩
set_option maxRecDepth 100000 in
def punI : Lx.Bs := [32, 91, 32, 93, 32, 40, 32, 41, 32, 123, 32, 125, 32, 46, 32, 45, 62, 32, 43, 43, 32, 45, 45, 32, 38, 32, 42, 32, 43, 32, 45, 32, 126, 32, 33, 32, 47, 32, 37, 32, 60, 60, 32, 62, 62, 32, 60, 32, 62, 32, 60, 61, 32, 62, 61, 32, 61, 61, 32, 33, 61, 32, 94, 32, 124, 32, 38, 38, 32, 124, 124, 32, 63, 32, 58, 32, 59, 32, 46, 46, 46, 32, 61, 32, 42, 61, 32, 47, 61, 32, 37, 61, 32, 43, 61, 32, 45, 61, 32, 60, 60, 61, 32, 62, 62, 61, 32, 38, 61, 32, 94, 61, 32, 124, 61, 32, 44, 32, 35, 32, 35, 35, 32, 60, 58, 32, 58, 62, 32, 60, 37, 32, 37, 62, 32, 37, 58, 32, 37, 58, 37, 58, 32]
set_option maxRecDepth 100000 in
theorem punI_eq : bl punT = punI := by kernel_rfl
set_option maxRecDepth 100000 in
theorem punT_size : punT.size = 143 := rfl
def winB (t : Lx.Bs) (j : Nat) : Bool := decide ((punI.drop j).take (t.length + 2) = 32 :: t ++ [32])
def midB (n j : Nat) : Lx.Bs := (punI.drop (j + 1)).take n
theorem win_there : (Lx.punS.all fun t => (List.range (144 - (t.length + 2))).any fun j => winB t j) = true := by kernel_rfl
theorem win_only : ((List.range 144).all fun j => [1, 2, 3, 4].all fun n => !(decide ((punI.drop j).take (n + 2) = 32 :: midB n j ++ [32]) && (midB n j).all fun c => !decide (c = 32)) || Lx.isPun (midB n j)) = true := by kernel_rfl
theorem isPun_win {t : Lx.Bs} (h1 : 1 ≤ t.length) (h4 : t.length ≤ 4) (hb : ∀ c ∈ t, c ≠ 32) : Lx.isPun t = true ↔ ∃ j, j + (t.length + 2) ≤ 143 ∧ (punI.drop j).take (t.length + 2) = 32 :: t ++ [32] := by
  constructor
  · intro h
    have := List.all_eq_true.1 win_there t (Lx.isPun_mem.1 h)
    obtain ⟨j, hj, hw⟩ := List.any_eq_true.1 this
    exact ⟨j, by have := List.mem_range.1 hj; omega, of_decide_eq_true hw⟩
  · rintro ⟨j, hj, hw⟩
    have h := List.all_eq_true.1 (List.all_eq_true.1 win_only j (List.mem_range.2 (by omega))) t.length (by simp; omega)
    have hm : midB t.length j = t := by
      unfold midB
      have e := congrArg (fun l => (l.drop 1).take t.length) hw
      simp only [List.cons_append, List.drop_one, List.tail_cons, List.take_left'] at e
      rw [← List.drop_one, List.drop_take, List.drop_drop, List.take_take] at e
      rw [show min t.length (t.length + 2 - 1) = t.length by omega] at e
      exact e
    rw [hm, decide_eq_true hw] at h
    have ha : (t.all fun c => !decide (c = 32)) = true := by
      rw [List.all_eq_true]; intro c hc; simp [hb c hc]
    rw [ha] at h
    simpa using h
theorem isPun_len {t : Lx.Bs} (h : Lx.isPun t = true) : 1 ≤ t.length ∧ t.length ≤ 4 := (Lx.pun_facts t (Lx.isPun_mem.1 h)).1
theorem isPun_32 {t : Lx.Bs} (h : Lx.isPun t = true) : ∀ c ∈ t, c ≠ 32 := by
  intro c hc h2
  have := List.all_eq_true.1 (Lx.pun_facts t (Lx.isPun_mem.1 h)).2.1 c hc
  subst h2
  simp [Lx.noPun, Lx.white] at this
theorem isPun_sub (s : ByteArray) (h1 : 1 ≤ s.size) (h4 : s.size ≤ 4) (hb : ∀ c ∈ bl s, c ≠ 32) : Lx.isPun (bl s) = true ↔
    ∃ j : Int, 0 ≤ j ∧ j + ((⟨#[32]⟩ ++ s ++ ⟨#[32]⟩ : ByteArray).size : Int) ≤ 143 ∧ sub punT j (j + ((⟨#[32]⟩ ++ s ++ ⟨#[32]⟩ : ByteArray).size : Int)) = ⟨#[32]⟩ ++ s ++ ⟨#[32]⟩ := by
  have hq : bl (⟨#[32]⟩ ++ s ++ ⟨#[32]⟩) = 32 :: bl s ++ [32] := by rw [bl_append, bl_append]; rfl
  have hqs : ((⟨#[32]⟩ ++ s ++ ⟨#[32]⟩ : ByteArray).size : Int) = s.size + 2 := by
    have := congrArg List.length hq
    rw [bl_len] at this
    simp only [List.length_append, List.length_cons, List.length_nil, bl_len] at this
    omega
  rw [isPun_win (by rw [bl_len]; exact h1) (by rw [bl_len]; exact h4) hb, hqs, bl_len]
  have key : ∀ j : Nat, j + (s.size + 2) ≤ 143 → (bl (sub punT (j : Int) ((j : Int) + ((s.size : Int) + 2))) = (punI.drop j).take (s.size + 2)) := by
    intro j hj
    rw [bl_sub punT (by omega) (by omega) (by rw [punT_size]; omega), tl, punI_eq]
    congr 1; omega
  constructor
  · rintro ⟨j, hj, hw⟩
    refine ⟨j, by omega, by omega, bl_inj ?_⟩
    rw [key j hj, hw, hq]
  · rintro ⟨j, h0, hj, hw⟩
    refine ⟨j.toNat, by omega, ?_⟩
    have e : ((j.toNat : Nat) : Int) = j := by omega
    rw [← key j.toNat (by omega), e, hw, hq]
set_option maxRecDepth 100000 in
theorem isPunct_any (s : ByteArray) (hz : s.size ≤ 140737488355000) (w : World) : Calls Try.prog 173 #[.string s] w (PureP w fun v _ => v = .bool (Lx.isPun (bl s))) := by
  have hqs : ((⟨#[32]⟩ ++ s ++ ⟨#[32]⟩ : ByteArray).size : Int) = s.size + 2 := by
    rw [ByteArray.size_append, ByteArray.size_append]
    show (((1 + s.size + 1 : Nat)) : Int) = _
    omega
  have hP := isPun_sub s
  obtain ⟨N, hN⟩ : ∃ N, N = Lx.isPun (bl s) := ⟨_, rfl⟩
  have hlen : N = true → 1 ≤ s.size ∧ s.size ≤ 4 := fun h => by rw [← bl_len]; exact isPun_len (hN ▸ h)
  have h32 : N = true → ∀ c ∈ bl s, c ≠ 32 := fun h => isPun_32 (hN ▸ h)
  rw [← hN] at hP ⊢
  clear hN
  have hF : (¬ N = true) → N = false := fun h => by simpa using h
  refine x_fun tt_ok Try.func173 rfl rfl [] 0 [.v (.string s)] rfl rfl rfl rfl (fun b hb => by cases hb) ?_
  refine x_vc tt_ok ?_
  refine And.intro (by show 1 + s.size ≤ _; omega) ?_
  refine And.intro (by rw [ByteArray.size_append]; show 1 + s.size + 1 ≤ _; omega) ?_
  refine x_if (fun h => ?_) (fun h => ?_)
  · have h' : (decide ((s.size : Int) = 0) || decide ((4 : Int) < s.size)) = true := h
    have e : N = false := hF (fun hn => by
      have := hlen hn
      rw [decide_eq_false (by omega), decide_eq_false (by omega)] at h'; cases h')
    rw [e]
    exact fin1 (fun _ _ => rfl)
  · have h' : (decide ((s.size : Int) = 0) || decide ((4 : Int) < s.size)) = false := h
    obtain ⟨q1, q2⟩ := Bool.or_eq_false_iff.1 h'
    have q1 := of_decide_eq_false q1
    have q2 := of_decide_eq_false q2
    clear h h'
    generalize hq : (⟨#[32]⟩ ++ s ++ ⟨#[32]⟩ : ByteArray) = q at hqs hP ⊢
    refine x_loop (σ := Int) (fun k => ⟨[(4, .v (.int .i64 k)), (3, .v (.string q)), (0, .v (.string s))], [], [], 0⟩)
      (fun k _ => 0 ≤ k ∧ k ≤ s.size ∧ ((∀ c ∈ tl s k, c ≠ 32) → ∀ c ∈ bl s, c ≠ 32)) (fun k => (s.size - k).toNat) (fun _ => Nat.le_refl _) 0 [] (.of rfl rfl rfl rfl rfl rfl)
      ⟨by omega, by omega, fun h => h⟩ ?_
    rintro k u hu ⟨g1, g2, g3⟩
    refine x_vc tt_ok ?_
    refine x_if (fun h => ?_) (fun h => ?_)
    · have h2 : k < s.size := of_decide_eq_true h
      repeat (refine And.intro ?_ ?_; first | omega | (simp only [Lay.d_n]; omega) | (simp only [decide_eq_true_eq, decide_eq_false_iff_not, Bool.or_eq_false_iff, Bool.and_eq_true, Bool.or_eq_true, Bool.and_eq_false_iff, Bool.not_eq_true', Bool.not_eq_false', Lay.d_n]; omega) | (simp only [decide_eq_true_eq, decide_eq_false_iff_not, Bool.or_eq_false_iff, Bool.and_eq_true, Bool.or_eq_true, Bool.and_eq_false_iff, Bool.not_eq_true', Bool.not_eq_false']; omega))
      refine x_if (fun h3 => ?_) (fun h3 => ?_)
      · have e : N = false := hF (fun hn => by
          refine h32 hn (bt s k) ?_ (of_decide_eq_true h3)
          have := bl_get s (n := k.toNat) (by omega)
          rw [show ((k.toNat : Nat) : Int) = k by omega] at this
          exact List.mem_of_getElem? this)
        rw [e]
        exact fin1 (fun _ _ => rfl)
      · repeat (refine And.intro ?_ ?_; first | omega | (simp only [Lay.d_n]; omega) | (simp only [decide_eq_true_eq, decide_eq_false_iff_not, Bool.or_eq_false_iff, Bool.and_eq_true, Bool.or_eq_true, Bool.and_eq_false_iff, Bool.not_eq_true', Bool.not_eq_false', Lay.d_n]; omega) | (simp only [decide_eq_true_eq, decide_eq_false_iff_not, Bool.or_eq_false_iff, Bool.and_eq_true, Bool.or_eq_true, Bool.and_eq_false_iff, Bool.not_eq_true', Bool.not_eq_false']; omega))
        refine again (k + 1) [] (.of rfl rfl rfl rfl rfl rfl) ⟨by omega, by omega, fun hc => g3 (fun c hc2 => ?_)⟩ (by omega)
        rw [tl_cons g1 h2] at hc2
        rcases List.mem_cons.1 hc2 with rfl | hc2
        · exact of_decide_eq_false h3
        · exact hc c hc2
    · have h2 : ¬ k < (s.size : Int) := of_decide_eq_false h
      have hb : ∀ c ∈ bl s, c ≠ 32 := g3 (by rw [tl_nil (by omega)]; intro c hc; cases hc)
      have hP := hP (by omega) (by omega) hb
      clear g3 h32 hlen hb
      refine x_loop (σ := Int) (fun k => ⟨[(5, .v (.int .i64 k)), (3, .v (.string q))], [], [], 0⟩)
        (fun k _ => 0 ≤ k ∧ k ≤ 143 ∧ (N = true ↔ ∃ j : Int, k ≤ j ∧ j + (q.size : Int) ≤ 143 ∧ sub punT j (j + (q.size : Int)) = q)) (fun k => (143 - k).toNat) (fun _ => Nat.le_refl _) 0 [] (.of rfl rfl rfl rfl rfl rfl)
        ⟨by omega, by omega, hP⟩ ?_
      rintro k u2 hu2 ⟨g1, g2, g3⟩
      refine x_vc tt_ok ?_
      repeat (refine And.intro ?_ ?_; first | omega | (simp only [Lay.d_n]; omega) | (simp only [decide_eq_true_eq, decide_eq_false_iff_not, Bool.or_eq_false_iff, Bool.and_eq_true, Bool.or_eq_true, Bool.and_eq_false_iff, Bool.not_eq_true', Bool.not_eq_false', Lay.d_n]; omega) | (simp only [decide_eq_true_eq, decide_eq_false_iff_not, Bool.or_eq_false_iff, Bool.and_eq_true, Bool.or_eq_true, Bool.and_eq_false_iff, Bool.not_eq_true', Bool.not_eq_false']; omega))
      refine x_if (fun h3 => ?_) (fun h3 => ?_)
      · have h3 : k + (q.size : Int) ≤ 143 := of_decide_eq_true h3
        repeat (refine And.intro ?_ ?_; first | omega | (show k + (q.size : Int) ≤ ((143 : Nat) : Int); omega))
        refine x_if (fun h4 => ?_) (fun h4 => ?_)
        · have h5 : sub punT k (k + (q.size : Int)) = q := of_decide_eq_true h4
          rw [g3.2 ⟨k, Int.le_refl _, h3, h5⟩]
          exact fin1 (fun _ _ => rfl)
        · have h5 : ¬ sub punT k (k + (q.size : Int)) = q := of_decide_eq_false h4
          repeat (refine And.intro ?_ ?_; first | omega | (simp only [Lay.d_n]; omega) | (simp only [decide_eq_true_eq, decide_eq_false_iff_not, Bool.or_eq_false_iff, Bool.and_eq_true, Bool.or_eq_true, Bool.and_eq_false_iff, Bool.not_eq_true', Bool.not_eq_false', Lay.d_n]; omega) | (simp only [decide_eq_true_eq, decide_eq_false_iff_not, Bool.or_eq_false_iff, Bool.and_eq_true, Bool.or_eq_true, Bool.and_eq_false_iff, Bool.not_eq_true', Bool.not_eq_false']; omega))
          refine again (k + 1) [] (.of rfl rfl rfl rfl rfl rfl) ⟨by omega, by omega, g3.trans ⟨?_, ?_⟩⟩ (by omega)
          · rintro ⟨j, j1, j2, j3⟩
            refine ⟨j, ?_, j2, j3⟩
            rcases Int.lt_or_eq_of_le j1 with h6 | h6
            · omega
            · subst h6; exact absurd j3 h5
          · rintro ⟨j, j1, j2, j3⟩
            exact ⟨j, by omega, j2, j3⟩
      · have h3 : ¬ k + (q.size : Int) ≤ 143 := of_decide_eq_false h3
        have e : N = false := hF (fun hn => by
          obtain ⟨j, j1, j2, j3⟩ := g3.1 hn
          omega)
        rw [e]
        exact fin1 (fun _ _ => rfl)
end Go.Proofs.Ytdonomneofdhfaa
namespace Go.Proofs.Ytdonomneofdhfaa
open Go.GV Go.RowKit
def strY : Lay ByteArray := ⟨[fun s => .string s], ⟨#[]⟩⟩
theorem sub_le (s : ByteArray) (a b : Int) : (sub s a b).size ≤ s.size := by
  unfold sub
  rw [ByteArray.size_extract]; omega
def litB (q : Int) (p s : ByteArray) : Bool :=
  decide ((p.size : Int) + 2 ≤ s.size) && decide (sub s 0 p.size = p) && decide (bt s p.size = q) && decide (bt s ((s.size : Int) - 1) = q) && Lx.pieces q (bl (sub s ((p.size : Int) + 1) ((s.size : Int) - 1)))
theorem litB_eq (q : Int) (p s : ByteArray) : litB q p s = Lx.litAt q (bl p) (bl s) := by
  unfold litB Lx.litAt
  rw [bl_len, bl_len]
  by_cases h : p.size + 2 ≤ s.size
  · have e1 : decide (sub s 0 p.size = p) = decide ((bl s).take p.size = bl p) := by
      rw [bl_eq, bl_sub s (by omega) (by omega) (by omega), tl_zero, Int.sub_zero, Int.toNat_natCast]
    have e2 : decide (bt s p.size = q) = decide ((bl s)[p.size]? = some q) := by
      rw [bl_get s (by omega)]; simp
    have e3 : decide (bt s ((s.size : Int) - 1) = q) = decide ((bl s)[s.size - 1]? = some q) := by
      rw [bl_get s (by omega)]
      rw [show ((s.size - 1 : Nat) : Int) = (s.size : Int) - 1 by omega]; simp
    have e4 : bl (sub s ((p.size : Int) + 1) ((s.size : Int) - 1)) = ((bl s).take (s.size - 1)).drop (p.size + 1) := by
      rw [bl_sub s (by omega) (by omega) (by omega), tl, List.drop_take]
      congr 1
      omega
    rw [e1, e2, e3, e4, decide_eq_true (by omega : (p.size : Int) + 2 ≤ s.size), decide_eq_true h]
    simp only [Bool.true_and, Bool.and_assoc]
  · rw [decide_eq_false h, decide_eq_false (by omega)]
    simp
theorem isLit_cons (q : Int) (p : ByteArray) (ps : List ByteArray) (s : ByteArray) : Lx.isLit q (bl p :: ps.map bl) (bl s) =
    if litB q p s = true then (decide (q = 34) || decide ((p.size : Int) + 2 < s.size)) else Lx.isLit q (ps.map bl) (bl s) := by
  rw [litB_eq]
  simp only [Lx.isLit]
  cases Lx.litAt q (bl p) (bl s) with
  | true =>
    simp only [if_true]
    rw [bl_len, bl_len]
    congr 1
    rw [decide_eq_decide]; omega
  | false => rfl
set_option maxRecDepth 100000 in
theorem isLit_any (s : ByteArray) (q : Int) (ps : List ByteArray) (x : Value) (w : World) (hx : SlAt (im w) x (strY.d ps)) (hps : ∀ p ∈ ps, p.size ≤ 2) (hl : ps.length ≤ 10) (hz : s.size ≤ 140737488355328) :
    Calls Try.prog 172 #[.string s, .int .u8 q, x] w (PureP w fun v _ => v = .bool (Lx.isLit q (ps.map bl) (bl s))) := by
  obtain ⟨N, hN⟩ : ∃ N, N = Lx.isLit q (ps.map bl) (bl s) := ⟨_, rfl⟩
  rw [← hN]
  refine x_fun tt_ok Try.func172 rfl rfl [(x, strY.d ps)] 1 [.v (.string s), .v (.int .u8 q), .r 0] rfl rfl rfl rfl (fun b hb => by simp at hb; subst hb; exact hx) ?_
  refine x_vc tt_ok ?_
  refine x_loop (σ := Int) (fun k => ⟨[(7, .v (.int .i64 k)), (2, .r 0), (1, .v (.int .u8 q)), (0, .v (.string s))], [], [(0, .sl (strY.d ps))], 1⟩)
    (fun k _ => 0 ≤ k ∧ k ≤ ps.length ∧ N = Lx.isLit q ((ps.drop k.toNat).map bl) (bl s)) (fun k => (ps.length - k).toNat) (fun _ => Nat.le_refl 1) 0 [] (.of rfl rfl rfl rfl rfl rfl)
    ⟨by omega, by omega, hN⟩ ?_
  rintro k u hu ⟨g1, g2, g3⟩
  refine x_vc tt_ok ?_
  refine x_if (fun h => ?_) (fun h => ?_)
  · have h2 : k < ps.length := of_decide_eq_true h
    have hd : ps.drop k.toNat = ps.getD k.toNat strY.dft :: ps.drop (k + 1).toNat := by
      rw [show (k + 1).toNat = k.toNat + 1 by omega, List.getD_eq_getElem?_getD, List.getElem?_eq_getElem (by omega : k.toNat < ps.length)]
      exact List.drop_eq_getElem_cons _
    have hp2 : (ps.getD k.toNat strY.dft).size ≤ 2 := by
      refine hps _ ?_
      rw [List.getD_eq_getElem?_getD, List.getElem?_eq_getElem (by omega : k.toNat < ps.length)]
      exact List.getElem_mem _
    rw [hd, List.map_cons, isLit_cons] at g3
    repeat (refine And.intro ?_ ?_; first | omega | (simp only [Lay.d_n]; omega) | (simp only [decide_eq_true_eq, decide_eq_false_iff_not, Bool.or_eq_false_iff, Bool.and_eq_true, Bool.or_eq_true, Bool.and_eq_false_iff, Bool.not_eq_true', Bool.not_eq_false', Lay.d_n]; omega) | (simp only [decide_eq_true_eq, decide_eq_false_iff_not, Bool.or_eq_false_iff, Bool.and_eq_true, Bool.or_eq_true, Bool.and_eq_false_iff, Bool.not_eq_true', Bool.not_eq_false']; omega))
    refine x_draw mix (by kernel_rfl) (xd_go tt_ok ?_)
    repeat (refine And.intro ?_ ?_; first | omega | (simp only [Lay.d_n]; omega) | (simp only [decide_eq_true_eq, decide_eq_false_iff_not, Bool.or_eq_false_iff, Bool.and_eq_true, Bool.or_eq_true, Bool.and_eq_false_iff, Bool.not_eq_true', Bool.not_eq_false', Lay.d_n]; omega) | (simp only [decide_eq_true_eq, decide_eq_false_iff_not, Bool.or_eq_false_iff, Bool.and_eq_true, Bool.or_eq_true, Bool.and_eq_false_iff, Bool.not_eq_true', Bool.not_eq_false']; omega))
    refine xd_call0 (.bool (Lx.pieces q (bl (sub s (((ps.getD k.toNat strY.dft).size : Int) + 1) ((s.size : Int) - 1))))) rfl rfl rfl rfl fn185 rfl rfl
      (fun _ E w F _ => pieces_any _ q (by have := sub_le s (((ps.getD k.toNat strY.dft).size : Int) + 1) ((s.size : Int) - 1); omega) w) ?_
    refine xd_go tt_ok ?_
    refine x_if (fun h3 => ?_) (fun h3 => ?_)
    · have h3' : litB q (ps.getD k.toNat strY.dft) s = true := h3
      rw [if_pos h3'] at g3
      repeat (refine And.intro ?_ ?_; first | omega | (simp only [Lay.d_n]; omega) | (simp only [decide_eq_true_eq, decide_eq_false_iff_not, Bool.or_eq_false_iff, Bool.and_eq_true, Bool.or_eq_true, Bool.and_eq_false_iff, Bool.not_eq_true', Bool.not_eq_false', Lay.d_n]; omega) | (simp only [decide_eq_true_eq, decide_eq_false_iff_not, Bool.or_eq_false_iff, Bool.and_eq_true, Bool.or_eq_true, Bool.and_eq_false_iff, Bool.not_eq_true', Bool.not_eq_false']; omega))
      rw [g3]
      exact fin1 (fun _ _ => rfl)
    · have h3' : litB q (ps.getD k.toNat strY.dft) s = false := h3
      rw [if_neg (by rw [h3']; simp)] at g3
      repeat (refine And.intro ?_ ?_; first | omega | (simp only [Lay.d_n]; omega) | (simp only [decide_eq_true_eq, decide_eq_false_iff_not, Bool.or_eq_false_iff, Bool.and_eq_true, Bool.or_eq_true, Bool.and_eq_false_iff, Bool.not_eq_true', Bool.not_eq_false', Lay.d_n]; omega) | (simp only [decide_eq_true_eq, decide_eq_false_iff_not, Bool.or_eq_false_iff, Bool.and_eq_true, Bool.or_eq_true, Bool.and_eq_false_iff, Bool.not_eq_true', Bool.not_eq_false']; omega))
      exact again (k + 1) [] (.of rfl rfl rfl rfl rfl rfl) ⟨by omega, by omega, g3⟩ (by omega)
  · have h2 : ¬ k < (ps.length : Int) := of_decide_eq_false h
    rw [List.drop_eq_nil_of_le (by omega)] at g3
    rw [g3]
    exact fin1 (fun _ _ => rfl)
theorem kindR_eq (s : ByteArray) : Lx.kindR (bl s) = if decide (s = ⟨#[10]⟩) = true then 9 else if Lx.isWord (bl s) = true then 1 else if Lx.isNum (bl s) = true then 2
    else if Lx.isLit 39 ([⟨#[]⟩, ⟨#[117]⟩, ⟨#[85]⟩, ⟨#[76]⟩].map bl) (bl s) = true then 3 else if Lx.isLit 34 ([⟨#[]⟩, ⟨#[117, 56]⟩, ⟨#[117]⟩, ⟨#[85]⟩, ⟨#[76]⟩].map bl) (bl s) = true then 4
    else if Lx.isPun (bl s) = true then 5 else 0 := by
  rw [bl_eq]
  have e : bl ⟨#[10]⟩ = [10] := rfl
  rw [e]
  unfold Lx.kindR
  simp only [decide_eq_true_eq]
  rfl
set_option maxRecDepth 100000 in
theorem kind_any (s : ByteArray) (hz : s.size ≤ 140737488355000) (w : World) : Calls Try.prog 154 #[.string s] w (PureP w fun v _ => v = .int .i64 (Lx.kindR (bl s))) := by
  have hz' : s.size ≤ 140737488355328 := by omega
  rw [kindR_eq]
  refine x_fun tt_ok Try.func154 rfl rfl [] 0 [.v (.string s)] rfl rfl rfl rfl (fun b hb => by cases hb) ?_
  refine x_vc tt_ok ?_
  refine x_if (fun h => ?_) (fun h => ?_)
  · rw [if_pos h]
    exact fin1 (fun _ _ => rfl)
  rw [if_neg (fun h2 => Bool.noConfusion (h2.symm.trans h))]
  refine xl_call0 (.bool (Lx.isWord (bl s))) rfl rfl rfl rfl fn170 rfl rfl (fun E w F _ => isWord_any s hz' w) ?_
  refine xl_go tt_ok ?_
  refine x_if (fun h => ?_) (fun h => ?_)
  · rw [if_pos h]
    exact fin1 (fun _ _ => rfl)
  rw [if_neg (fun h2 => Bool.noConfusion (h2.symm.trans h))]
  refine xl_call0 (.bool (Lx.isNum (bl s))) rfl rfl rfl rfl fn171 rfl rfl (fun E w F _ => isNum_any s hz' w) ?_
  refine xl_go tt_ok ?_
  refine x_if (fun h => ?_) (fun h => ?_)
  · rw [if_pos h]
    exact fin1 (fun _ _ => rfl)
  rw [if_neg (fun h2 => Bool.noConfusion (h2.symm.trans h))]
  refine xl_build tt_ok strY [⟨#[]⟩, ⟨#[117]⟩, ⟨#[85]⟩, ⟨#[76]⟩] [_, _, _, _] rfl rfl rfl rfl rfl rfl rfl rfl rfl rfl rfl rfl rfl rfl rfl ?_
  refine xl_go tt_ok ?_
  refine xl_call0 (.bool (Lx.isLit 39 ([⟨#[]⟩, ⟨#[117]⟩, ⟨#[85]⟩, ⟨#[76]⟩].map bl) (bl s))) rfl rfl rfl rfl fn172 rfl rfl (fun E w F hs => isLit_any s 39 _ _ w (hs.rowAt (k := 0) rfl) (by decide) (by decide) hz') ?_
  refine xl_go tt_ok ?_
  refine x_if (fun h => ?_) (fun h => ?_)
  · rw [if_pos h]
    exact fin1 (fun _ _ => rfl)
  rw [if_neg (fun h2 => Bool.noConfusion (h2.symm.trans h))]
  refine xl_build tt_ok strY [⟨#[]⟩, ⟨#[117, 56]⟩, ⟨#[117]⟩, ⟨#[85]⟩, ⟨#[76]⟩] [_, _, _, _, _] rfl rfl rfl rfl rfl rfl rfl rfl rfl rfl rfl rfl rfl rfl rfl ?_
  refine xl_go tt_ok ?_
  refine xl_call0 (.bool (Lx.isLit 34 ([⟨#[]⟩, ⟨#[117, 56]⟩, ⟨#[117]⟩, ⟨#[85]⟩, ⟨#[76]⟩].map bl) (bl s))) rfl rfl rfl rfl fn172 rfl rfl (fun E w F hs => isLit_any s 34 _ _ w (hs.rowAt (k := 1) rfl) (by decide) (by decide) hz') ?_
  refine xl_go tt_ok ?_
  refine x_if (fun h => ?_) (fun h => ?_)
  · rw [if_pos h]
    exact fin1 (fun _ _ => rfl)
  rw [if_neg (fun h2 => Bool.noConfusion (h2.symm.trans h))]
  refine xl_call0 (.bool (Lx.isPun (bl s))) rfl rfl rfl rfl fn173 rfl rfl (fun E w F _ => isPunct_any s hz w) ?_
  refine xl_go tt_ok ?_
  refine x_if (fun h => ?_) (fun h => ?_)
  · rw [if_pos h]
    exact fin1 (fun _ _ => rfl)
  · rw [if_neg (fun h2 => Bool.noConfusion (h2.symm.trans h))]
    exact fin1 (fun _ _ => rfl)
end Go.Proofs.Ytdonomneofdhfaa
namespace Go.Proofs.Ytdonomneofdhfaa
open Go.GV Go.RowKit
def okT (T : List Tok) (W : List ByteArray) (K : ByteArray) (i : Nat) : Bool := decide ((T.getD i tok0).text = W.getD i strY.dft) && decide ((T.getD i tok0).kind = bt K i - 48)
def textsB (s : ByteArray) (W : List ByteArray) (K : ByteArray) : Bool :=
  decide (scanE s = 0) && decide ((scanT s).length = W.length) && decide ((scanT s).length = K.size) && (List.range (scanT s).length).all (okT (scanT s) W K)
set_option maxRecDepth 100000 in
theorem texts_any (s : ByteArray) (W : List ByteArray) (K : ByteArray) (x : Value) (w : World) (hx : SlAt (im w) x (strY.d W)) (hs : s.size ≤ 9223372036854775807) (hK : K.size ≤ 1000) (hg : Glob (im w)) :
    Calls Try.prog 43 #[.string s, x, .string K] w (PureP w fun v _ => v = .bool (textsB s W K)) := by
  obtain ⟨N, hN⟩ : ∃ N, N = textsB s W K := ⟨_, rfl⟩
  rw [← hN]
  have hF : (¬ N = true) → N = false := fun h => by simpa using h
  refine x_fun tt_ok Try.func43 rfl rfl [(x, strY.d W)] 1 [.v (.string s), .r 0, .v (.string K)] rfl rfl rfl rfl (fun b hb => by simp at hb; subst hb; exact hx) ?_
  refine x_vc tt_ok ?_
  refine xl_callO2 31 (tokY.d (scanT s)) [.int .i64 (scanE s)] rfl rfl rfl rfl fn41 rfl rfl (fun E w F hs' => scan_any s w hs (hg.imm hs'.imm)) ?_
  refine xl_go tt_ok ?_
  refine x_if (fun h => ?_) (fun h => ?_)
  · have h' : ((decide (scanE s ≠ 0) || decide (((scanT s).length : Int) ≠ (W.length : Int))) || decide (((scanT s).length : Int) ≠ (K.size : Int))) = true := h
    have e : N = false := hF (fun hn => by
      rw [hN] at hn
      unfold textsB at hn
      simp only [Bool.and_eq_true, decide_eq_true_eq] at hn
      obtain ⟨⟨⟨a1, a2⟩, a3⟩, _⟩ := hn
      rw [decide_eq_false (by simpa using a1), decide_eq_false (by simp [a2]), decide_eq_false (by rw [a3]; simp)] at h'
      cases h')
    rw [e]
    exact fin1 (fun _ _ => rfl)
  · have h' : ((decide (scanE s ≠ 0) || decide (((scanT s).length : Int) ≠ (W.length : Int))) || decide (((scanT s).length : Int) ≠ (K.size : Int))) = false := h
    simp only [Bool.or_eq_false_iff, decide_eq_false_iff_not, Classical.not_not] at h'
    obtain ⟨⟨a1, a2⟩, a3⟩ := h'
    have hall : N = true ↔ ∀ i : Nat, i < (scanT s).length → okT (scanT s) W K i = true := by
      rw [hN]
      unfold textsB
      rw [decide_eq_true a1, decide_eq_true (by omega : (scanT s).length = W.length), decide_eq_true (by omega : (scanT s).length = K.size)]
      simp [List.all_eq_true]
    refine x_loop (σ := Int) (fun k => ⟨[(9, .v (.int .i64 k)), (7, .r 1), (2, .v (.string K)), (1, .r 0)], [], [(1, .row 31 (tokY.d (scanT s))), (0, .sl (strY.d W))], 2⟩)
      (fun k _ => 0 ≤ k ∧ k ≤ (scanT s).length ∧ (N = true ↔ ∀ i : Nat, k ≤ (i : Int) → i < (scanT s).length → okT (scanT s) W K i = true)) (fun k => ((scanT s).length - k).toNat) (fun _ => Nat.le_refl 2) 0 [] (.of rfl rfl rfl rfl rfl rfl)
      ⟨by omega, by omega, hall.trans ⟨fun h i _ hi => h i hi, fun h i hi => h i (by omega) hi⟩⟩ ?_
    clear hall h hN
    generalize scanT s = T at a2 a3 ⊢
    rintro k u hu ⟨g1, g2, g3⟩
    refine x_vc tt_ok ?_
    refine x_if (fun h3 => ?_) (fun h3 => ?_)
    · have h3 : k < T.length := of_decide_eq_true h3
      have hbt := bt_range K k
      refine x_draw mix (by kernel_rfl) (xd_go tt_ok ?_)
      repeat (refine And.intro ?_ ?_; first | omega | (simp only [Lay.d_n]; omega) | (simp only [decide_eq_true_eq, decide_eq_false_iff_not, Bool.or_eq_false_iff, Bool.and_eq_true, Bool.or_eq_true, Bool.and_eq_false_iff, Bool.not_eq_true', Bool.not_eq_false', Lay.d_n]; omega) | (simp only [decide_eq_true_eq, decide_eq_false_iff_not, Bool.or_eq_false_iff, Bool.and_eq_true, Bool.or_eq_true, Bool.and_eq_false_iff, Bool.not_eq_true', Bool.not_eq_false']; omega))
      have hok : okT T W K k.toNat = !(decide ((T.getD k.toNat tokY.dft).text ≠ W.getD k.toNat strY.dft) || decide ((T.getD k.toNat tokY.dft).kind ≠ bt K k - 48)) := by
        unfold okT
        rw [show ((k.toNat : Nat) : Int) = k by omega]
        show (decide ((T.getD k.toNat tokY.dft).text = _) && decide ((T.getD k.toNat tokY.dft).kind = _)) = _
        by_cases b1 : (T.getD k.toNat tokY.dft).text = W.getD k.toNat strY.dft
        · by_cases b2 : (T.getD k.toNat tokY.dft).kind = bt K k - 48
          · simp [b1, b2]
          · simp [b1, b2]
        · simp [b1]
      refine x_if (fun h4 => ?_) (fun h4 => ?_)
      · have h4' : (decide ((T.getD k.toNat tokY.dft).text ≠ W.getD k.toNat strY.dft) || decide ((T.getD k.toNat tokY.dft).kind ≠ bt K k - 48)) = true := h4
        rw [h4'] at hok
        have e : N = false := hF (fun hn => by
          have := g3.1 hn k.toNat (by omega) (by omega)
          rw [hok] at this; cases this)
        rw [e]
        exact fin1 (fun _ _ => rfl)
      · have h4' : (decide ((T.getD k.toNat tokY.dft).text ≠ W.getD k.toNat strY.dft) || decide ((T.getD k.toNat tokY.dft).kind ≠ bt K k - 48)) = false := h4
        rw [h4'] at hok
        have next : N = true ↔ ∀ i : Nat, k + 1 ≤ (i : Int) → i < T.length → okT T W K i = true := by
          refine g3.trans ⟨fun h i h1 h2 => h i (by omega) h2, fun h i h1 h2 => ?_⟩
          by_cases hi : k + 1 ≤ (i : Int)
          · exact h i hi h2
          · have : i = k.toNat := by omega
            rw [this]; exact hok
        repeat (refine And.intro ?_ ?_; first | omega | (simp only [Lay.d_n]; omega) | (simp only [decide_eq_true_eq, decide_eq_false_iff_not, Bool.or_eq_false_iff, Bool.and_eq_true, Bool.or_eq_true, Bool.and_eq_false_iff, Bool.not_eq_true', Bool.not_eq_false', Lay.d_n]; omega) | (simp only [decide_eq_true_eq, decide_eq_false_iff_not, Bool.or_eq_false_iff, Bool.and_eq_true, Bool.or_eq_true, Bool.and_eq_false_iff, Bool.not_eq_true', Bool.not_eq_false']; omega))
        exact again (k + 1) [] (.of rfl rfl rfl rfl rfl rfl) ⟨by omega, by omega, next⟩ (by omega)
    · have h3 : ¬ k < (T.length : Int) := of_decide_eq_false h3
      have e : N = true := g3.2 (fun i h1 h2 => by omega)
      rw [e]
      exact fin1 (fun _ _ => rfl)
set_option maxRecDepth 100000 in
theorem ex_ab : textsB ⟨#[97, 43, 43, 43, 98, 10]⟩ [⟨#[97]⟩, ⟨#[43, 43]⟩, ⟨#[43]⟩, ⟨#[98]⟩, ⟨#[10]⟩] ⟨#[49, 53, 53, 49, 57]⟩ = true := by kernel_rfl
set_option maxRecDepth 100000 in
theorem scanAlive_any (w : World) (hg : Glob (im w)) : Calls Try.prog 40 #[] w (PureP w fun v _ => v = .bool true) := by
  refine x_fun tt_ok Try.func40 rfl rfl [] 0 [] rfl rfl rfl rfl (fun b hb => by cases hb) ?_
  refine x_vc tt_ok ?_
  refine xl_build tt_ok strY [⟨#[97]⟩, ⟨#[43, 43]⟩, ⟨#[43]⟩, ⟨#[98]⟩, ⟨#[10]⟩] [_, _, _, _, _] rfl rfl rfl rfl rfl rfl rfl rfl rfl rfl rfl rfl rfl rfl rfl ?_
  refine xl_go tt_ok ?_
  refine xl_call0 (.bool true) rfl rfl rfl rfl fn43 rfl rfl (fun E w F hs => by rw [← ex_ab]; exact texts_any _ _ _ _ w (hs.rowAt (k := 0) rfl) (by decide) (by decide) (hg.imm hs.imm)) ?_
  refine xl_go tt_ok ?_
  exact fin1 (fun _ _ => rfl)
end Go.Proofs.Ytdonomneofdhfaa
namespace Go.Proofs.Ytdonomneofdhfaa
open Go.GV Go.RowKit
def Stands (s : ByteArray) (t : Lx.Tk) : Prop := t.err ≠ 0 ∨ (t.err = 0 ∧ ∃ st, Lx.white (bt s t.lo) = false ∧ itm s st t.lo = ⟨t.kind, t.hi - t.lo, 0⟩ ∧ t.lo < t.hi ∧ t.hi ≤ s.size)
theorem itA_stands (s : ByteArray) : ∀ (n : Nat) (st i : Int), 0 ≤ i → (s.size : Int) - i ≤ n → ∀ t ∈ itA s st i, Stands s t
  | 0, st, i, h0, hn, t, ht => by rw [itA_nil (by omega)] at ht; cases ht
  | n + 1, st, i, h0, hn, t, ht => by
    by_cases hi : i < s.size
    · rw [itA_cons h0 hi] at ht
      by_cases hw : Lx.white (bt s i) = true
      · rw [if_pos hw] at ht
        exact itA_stands s n st (i + 1) (by omega) (by omega) t ht
      · rw [if_neg hw] at ht
        by_cases he : (itm s st i).err = 0
        · rw [if_neg (by simpa using he)] at ht
          obtain ⟨m1, m2⟩ := itm_le h0 hi he
          rcases List.mem_cons.1 ht with rfl | ht
          · have e : ((i.toNat : Nat) : Int) = i := by omega
            refine .inr ⟨rfl, st, ?_, ?_, by show i.toNat < i.toNat + _; omega, by show i.toNat + _ ≤ _; omega⟩
            · show Lx.white (bt s (i.toNat : Nat)) = false
              rw [e]; simpa using hw
            · show itm s st (i.toNat : Nat) = ⟨(itm s st i).kind, i.toNat + (itm s st i).len - i.toNat, 0⟩
              rw [e, show i.toNat + (itm s st i).len - i.toNat = (itm s st i).len by omega]
              cases hx : itm s st i with
              | mk a b c => rw [hx] at he; simp only at he; rw [he]
          · exact itA_stands s n _ _ (by omega) (by omega) t ht
        · rw [if_pos he] at ht
          rw [List.mem_singleton.1 ht]
          exact .inl he
    · rw [itA_nil (by omega)] at ht; cases ht
theorem its_stands {s : ByteArray} {t : Lx.Tk} (h : t ∈ itsOf s) : Stands s t := by
  rw [← itA_zero] at h
  exact itA_stands s s.size 0 0 (Int.le_refl _) (by omega) t h
theorem chain_next : ∀ {xs : List Lx.Tk} {i n k : Nat} {a b : Lx.Tk}, Lx.chain i n xs → xs[k]? = some a → xs[k + 1]? = some b → b.err = 0 → a.err = 0 ∧ a.hi ≤ b.lo
  | [], _, _, _, _, _, _, h, _, _ => by simp at h
  | x :: r, i, n, k, a, b, hc, h1, h2, hb => by
    rcases hc with ⟨c1, c2, c3, c4, c5⟩ | ⟨c1, c2⟩
    · cases k with
      | zero =>
        simp only [List.getElem?_cons_zero, Option.some.injEq] at h1
        subst h1
        simp only [List.getElem?_cons_succ] at h2
        refine ⟨c1, ?_⟩
        rcases chain_mem c5 b (List.mem_of_getElem? h2) with h | h
        · exact absurd hb h
        · exact h.2.1
      | succ k =>
        simp only [List.getElem?_cons_succ] at h1 h2
        exact chain_next c5 h1 h2 hb
    · subst c2; simp at h2
theorem tks_len (C : List Chr) (l : ByteArray) : ∀ (xs : List Lx.Tk) (n : Int), (tks C l n xs).length = xs.length
  | [], _ => rfl
  | x :: r, n => by rw [tks, List.length_cons, tks_len C l r, List.length_cons]
theorem tks_get (C : List Chr) (l : ByteArray) : ∀ (xs : List Lx.Tk) (n : Int) (k : Nat) (t : Lx.Tk), xs[k]? = some t →
    ∃ tok, (tks C l n xs)[k]? = some tok ∧ tok.kind = t.kind ∧ tok.text = sub l t.lo t.hi ∧ (∀ p, 0 < k → xs[k - 1]? = some p → tok.space = decide (p.hi < t.lo))
  | [], _, _, _, h => by simp at h
  | x :: r, n, 0, t, h => by
    simp only [List.getElem?_cons_zero, Option.some.injEq] at h
    subst h
    exact ⟨_, rfl, rfl, rfl, fun p h => absurd h (by omega)⟩
  | x :: r, n, k + 1, t, h => by
    simp only [List.getElem?_cons_succ] at h
    obtain ⟨tok, h1, h2, h3, h4⟩ := tks_get C l r x.hi k t h
    refine ⟨tok, by rw [tks, List.getElem?_cons_succ]; exact h1, h2, h3, fun p _ hp => ?_⟩
    cases k with
    | zero =>
      simp only [Nat.zero_add, Nat.sub_self, List.getElem?_cons_zero, Option.some.injEq] at hp
      subst hp
      cases r with
      | nil => simp at h
      | cons y r =>
        simp only [List.getElem?_cons_zero, Option.some.injEq] at h
        subst h
        rw [tks] at h1
        simp only [List.getElem?_cons_zero, Option.some.injEq] at h1
        rw [← h1]
        simp only
        rw [decide_eq_decide]; omega
    | succ k =>
      refine h4 p (by omega) ?_
      simp only [Nat.add_sub_cancel, List.getElem?_cons_succ] at hp ⊢
      exact hp
theorem munch {l : ByteArray} {a b : Lx.Tk} (ha : Stands l a) (hb : Stands l b) (ea : a.err = 0) (eb : b.err = 0) (hab : a.hi = b.lo) (ka : a.kind ≠ 7) (kb : b.kind ≠ 7) :
    fuP (sub l a.lo a.hi) (sub l b.lo b.hi) = (false, 0) := by
  rcases ha with ha | ⟨_, st, wa, ia, la, na⟩
  · exact absurd ea ha
  rcases hb with hb | ⟨_, su, wb, ib, lb, nb⟩
  · exact absurd eb hb
  have one : ∀ (st : Int) (t : Lx.Tk), Lx.white (bt l t.lo) = false → itm l st t.lo = ⟨t.kind, t.hi - t.lo, 0⟩ → t.lo < t.hi → t.hi ≤ l.size → t.kind ≠ 7 →
      Lx.oneL (bl (sub l t.lo t.hi)) = some t.kind ∧ Lx.itemP false (tl l t.lo) = ⟨t.kind, t.hi - t.lo, 0⟩ ∧ bl (sub l t.lo t.hi) = (tl l t.lo).take (t.hi - t.lo) := by
    intro st t h1 h2 h3 h4 h5
    have hbl : bl (sub l t.lo t.hi) = (tl l t.lo).take (t.hi - t.lo) := by
      rw [bl_sub l (by omega) (by omega) (by omega)]; congr 1; omega
    unfold itm at h2
    have hcons := tl_cons (s := l) (i := (t.lo : Int)) (by omega) (by omega)
    have e1 := Lx.one_of_item (hdr := decide (st = 2)) (c := bt l t.lo) (r := tl l ((t.lo : Int) + 1)) h1 (by rw [← hcons, h2]) (by rw [← hcons, h2]; exact h5)
    rw [← hcons, h2] at e1
    refine ⟨by rw [hbl]; exact e1, ?_, hbl⟩
    rw [Lx.itemP_hdr (hdr := decide (st = 2)) (by rw [h2]; exact h5), h2]
  obtain ⟨a1, a2, a3⟩ := one st a wa ia la na ka
  obtain ⟨b1, b2, b3⟩ := one su b wb ib lb nb kb
  unfold fuP
  rw [a1, b1]
  simp only [Prod.mk.injEq, and_true]
  have hj : bl (sub l a.lo a.hi) ++ bl (sub l b.lo b.hi) = (tl l a.lo).take (b.hi - a.lo) := by
    rw [a3, b3, ← hab, show ((a.hi : Nat) : Int) = (a.lo : Int) + ((a.hi - a.lo : Nat) : Int) by omega, ← tl_tl l (by omega), show b.hi - a.lo = (a.hi - a.lo) + (b.hi - a.hi) by omega, List.take_add]
  have ht := Lx.itemP_take (l := tl l a.lo) (n := b.hi - a.lo) (by rw [tl_cons (by omega) (by omega)]; simp) (by rw [a2]) (by rw [a2]; show a.hi - a.lo ≤ _; omega)
  unfold Lx.fz
  rw [hj, ht, a2]
  have hlen : (bl (sub l a.lo a.hi)).length = a.hi - a.lo := by
    rw [a3, List.length_take, tl_len]; omega
  rw [hlen]
  simp
end Go.Proofs.Ytdonomneofdhfaa
namespace Go.Proofs.Ytdonomneofdhfaa
open Go.GV Go.RowKit
theorem errK_zero : ∀ {xs : List Lx.Tk}, errK xs = 0 → ∀ t ∈ xs, t.err = 0
  | [], _, t, ht => by cases ht
  | x :: r, h, t, ht => by
    rw [errK] at h
    by_cases hx : x.err = 0
    · rw [if_neg (by simpa using hx)] at h
      rcases List.mem_cons.1 ht with rfl | ht
      · exact hx
      · exact errK_zero h t ht
    · rw [if_pos hx] at h; exact absurd h hx
theorem scanE_zero {s : ByteArray} (h : scanE s = 0) : checkE s = 0 ∧ errK (itsOf (logB s)) = 0 ∧ scanT s = tks (charsOf s) (logB s) 0 (itsOf (logB s)) ∧ (logB s).size ≤ 65536 := by
  have hc : checkE s = 0 := by
    unfold scanE at h
    split at h
    · rename_i h2; exact absurd h h2
    · rename_i h2; exact Classical.not_not.1 h2
  refine ⟨hc, ?_, ?_, ?_⟩
  · unfold scanE at h
    rw [if_neg (by simpa using hc)] at h; exact h
  · rw [scanT, if_pos h]
  · rw [logB_size]
    have h2 : charsOf s = chrsL (partsV s) := by rw [charsOf, if_pos hc]
    rw [h2]
    exact Nat.le_trans (chrsL_len _) (Nat.le_trans (partsV_len s) (checkE_size hc))
theorem getD_of {α : Type} {L : List α} {i : Nat} {x d : α} (h : L[i]? = some x) : L.getD i d = x := by
  rw [List.getD_eq_getElem?_getD, h]; rfl
theorem scan_munch {s : ByteArray} (h : scanE s = 0) {k : Nat} (hk : k + 1 < (scanT s).length) (h1 : ((scanT s).getD (k + 1) tok0).space = false) (h2 : ((scanT s).getD (k + 1) tok0).kind ≠ 7) (h3 : ((scanT s).getD k tok0).kind ≠ 7) :
    fuP ((scanT s).getD k tok0).text ((scanT s).getD (k + 1) tok0).text = (false, 0) ∧ ((scanT s).getD k tok0).text.size ≤ 65536 ∧ ((scanT s).getD (k + 1) tok0).text.size ≤ 65536 := by
  obtain ⟨e1, e2, e3, e4⟩ := scanE_zero h
  rw [e3] at hk h1 h2 h3 ⊢
  rw [tks_len] at hk
  obtain ⟨a, ha⟩ : ∃ a, (itsOf (logB s))[k]? = some a := ⟨_, List.getElem?_eq_getElem (by omega)⟩
  obtain ⟨b, hb⟩ : ∃ b, (itsOf (logB s))[k + 1]? = some b := ⟨_, List.getElem?_eq_getElem hk⟩
  obtain ⟨ta, a1, a2, a3, _⟩ := tks_get (charsOf s) (logB s) _ 0 k a ha
  obtain ⟨tb, b1, b2, b3, b4⟩ := tks_get (charsOf s) (logB s) _ 0 (k + 1) b hb
  rw [getD_of b1] at h1 h2 ⊢
  rw [getD_of a1] at h3 ⊢
  have b4 := b4 a (by omega) ha
  have ea := errK_zero e2 a (List.mem_of_getElem? ha)
  have eb := errK_zero e2 b (List.mem_of_getElem? hb)
  have hn := chain_next (Lx.itemsF_chain (bl (logB s)).length 0 0 (bl (logB s))) ha hb eb
  rw [b4] at h1
  have hab : a.hi = b.lo := by
    have := of_decide_eq_false h1
    have := hn.2
    omega
  rw [a3, b3]
  have s1 := sub_le (logB s) a.lo a.hi
  have s2 := sub_le (logB s) b.lo b.hi
  exact ⟨munch (its_stands (List.mem_of_getElem? ha)) (its_stands (List.mem_of_getElem? hb)) ea eb hab (by rw [← a2]; exact h3) (by rw [← b2]; exact h2), by omega, by omega⟩
theorem scanT_len (s : ByteArray) : (scanT s).length ≤ 65537 := by
  by_cases h : scanE s = 0
  · obtain ⟨_, _, e3, e4⟩ := scanE_zero h
    rw [e3, tks_len]
    have := its_len (logB s)
    omega
  · rw [scanT, if_neg h]; simp
set_option maxRecDepth 100000 in
theorem scanMunch_any (s : ByteArray) (w : World) (hs : s.size ≤ 9223372036854775807) (hg : Glob (im w)) : Calls Try.prog 7 #[.string s] w (PureP w fun v _ => v = .bool true) := by
  refine x_fun tt_ok Try.func7 rfl rfl [] 0 [.v (.string s)] rfl rfl rfl rfl (fun b hb => by cases hb) ?_
  refine x_vc tt_ok ?_
  refine xl_call0 (.bool true) rfl rfl rfl rfl fn40 rfl rfl (fun E w F hs => scanAlive_any w (hg.imm hs.imm)) ?_
  refine xl_go tt_ok ?_
  refine xl_callO2 31 (tokY.d (scanT s)) [.int .i64 (scanE s)] rfl rfl rfl rfl fn41 rfl rfl (fun E w F hs' => scan_any s w hs (hg.imm hs'.imm)) ?_
  refine xl_go tt_ok ?_
  refine x_if (fun h => ?_) (fun h => ?_)
  · exact fin1 (fun _ _ => rfl)
  · have h' : (decide (scanE s ≠ 0) || !true) = false := h
    have he : scanE s = 0 := by simpa using h'
    have hlen := scanT_len s
    have key := fun (k : Nat) => scan_munch he (k := k)
    clear h h'
    generalize scanT s = T at hlen key ⊢
    refine x_loop (σ := Int) (fun k => ⟨[(6, .v (.int .i64 k)), (4, .r 0), (3, .v (.bool true))], [], [(0, .row 31 (tokY.d T))], 1⟩)
      (fun k _ => 1 ≤ k ∧ k ≤ (T.length : Int) + 1) (fun k => ((T.length : Int) + 1 - k).toNat) (fun _ => Nat.le_refl 1) 1 [] (.of rfl rfl rfl rfl rfl rfl)
      ⟨by omega, by omega⟩ ?_
    rintro k u hu ⟨g1, g2⟩
    refine x_vc tt_ok ?_
    refine x_if (fun h3 => ?_) (fun h3 => ?_)
    · have h3 : k < T.length := of_decide_eq_true h3
      have ek : k.toNat = (k - 1).toNat + 1 := by omega
      repeat (refine And.intro ?_ ?_; first | omega | (simp only [Lay.d_n]; omega) | (simp only [decide_eq_true_eq, decide_eq_false_iff_not, Bool.or_eq_false_iff, Bool.and_eq_true, Bool.or_eq_true, Bool.and_eq_false_iff, Bool.not_eq_true', Bool.not_eq_false', Lay.d_n]; omega) | (simp only [decide_eq_true_eq, decide_eq_false_iff_not, Bool.or_eq_false_iff, Bool.and_eq_true, Bool.or_eq_true, Bool.and_eq_false_iff, Bool.not_eq_true', Bool.not_eq_false']; omega))
      refine x_if (fun h4 => ?_) (fun h4 => ?_)
      · repeat (refine And.intro ?_ ?_; first | omega | (simp only [Lay.d_n]; omega) | (simp only [decide_eq_true_eq, decide_eq_false_iff_not, Bool.or_eq_false_iff, Bool.and_eq_true, Bool.or_eq_true, Bool.and_eq_false_iff, Bool.not_eq_true', Bool.not_eq_false', Lay.d_n]; omega) | (simp only [decide_eq_true_eq, decide_eq_false_iff_not, Bool.or_eq_false_iff, Bool.and_eq_true, Bool.or_eq_true, Bool.and_eq_false_iff, Bool.not_eq_true', Bool.not_eq_false']; omega))
        exact again (k + 1) [] (.of rfl rfl rfl rfl rfl rfl) ⟨by omega, by omega⟩ (by omega)
      · have h4' : ((T.getD k.toNat tok0).space || decide ((T.getD k.toNat tok0).kind = 7) || decide ((T.getD (k - 1).toNat tok0).kind = 7)) = false := h4
        simp only [Bool.or_eq_false_iff, decide_eq_false_iff_not] at h4'
        obtain ⟨⟨b1, b2⟩, b3⟩ := h4'
        have hm := key (k - 1).toNat (by omega) (by rw [← ek]; exact b1) (by rw [← ek]; exact b2) b3
        rw [← ek] at hm
        refine x_draw mix (by kernel_rfl) (xd_go tt_ok ?_)
        repeat (refine And.intro ?_ ?_; first | omega | (simp only [Lay.d_n]; omega) | (simp only [decide_eq_true_eq, decide_eq_false_iff_not, Bool.or_eq_false_iff, Bool.and_eq_true, Bool.or_eq_true, Bool.and_eq_false_iff, Bool.not_eq_true', Bool.not_eq_false', Lay.d_n]; omega) | (simp only [decide_eq_true_eq, decide_eq_false_iff_not, Bool.or_eq_false_iff, Bool.and_eq_true, Bool.or_eq_true, Bool.and_eq_false_iff, Bool.not_eq_true', Bool.not_eq_false']; omega))
        refine xd_call0 (.tuple #[.bool false, .int .i64 0]) rfl rfl rfl rfl fn38 rfl rfl (fun _ E w F hs' => by
          have h5 := fuses_any (T.getD (k - 1).toNat tok0).text (T.getD k.toNat tok0).text (by omega) w (((hg.sub hu.sub)).imm hs'.imm)
          rw [hm.1] at h5
          exact h5) ?_
        refine xd_go tt_ok ?_
        refine x_iff rfl ?_
        repeat (refine And.intro ?_ ?_; first | omega | (simp only [Lay.d_n]; omega) | (simp only [decide_eq_true_eq, decide_eq_false_iff_not, Bool.or_eq_false_iff, Bool.and_eq_true, Bool.or_eq_true, Bool.and_eq_false_iff, Bool.not_eq_true', Bool.not_eq_false', Lay.d_n]; omega) | (simp only [decide_eq_true_eq, decide_eq_false_iff_not, Bool.or_eq_false_iff, Bool.and_eq_true, Bool.or_eq_true, Bool.and_eq_false_iff, Bool.not_eq_true', Bool.not_eq_false']; omega))
        exact again (k + 1) [] (.of rfl rfl rfl rfl rfl rfl) ⟨by omega, by omega⟩ (by omega)
    · exact fin1 (fun _ _ => rfl)
end Go.Proofs.Ytdonomneofdhfaa
namespace Go.Proofs.Ytdonomneofdhfaa
open Go.GV Go.RowKit
def kt (t : Tok) : Int × Lx.Bs := (t.kind, bl t.text)
def lexB (l : Lx.Bs) : List (Int × Lx.Bs) := Lx.lexF l.length 0 l
def okB (l : Lx.Bs) : Prop := Lx.okF l.length 0 l
def lgc (s : ByteArray) : Lx.Bs := (charsOf s).map (·.b)
theorem bl_lgc (s : ByteArray) : bl (logB s) = lgc s := by
  unfold bl logB lgc
  simp only [List.map_map]
  refine List.map_congr_left fun c hc => ?_
  exact byC_nat (charsOf_b hc)
theorem lgc_len (s : ByteArray) : (lgc s).length ≤ s.size := by
  unfold lgc charsOf
  rw [List.length_map]
  split
  · exact Nat.le_trans (chrsL_len _) (partsV_len s)
  · exact Nat.zero_le _
theorem bl_ext (s : ByteArray) (a b : Nat) : bl (sub s a b) = ((bl s).take b).drop a := by
  unfold bl sub
  rw [ByteArray.data_extract, Array.toList_extract, List.extract_eq_take_drop, List.map_take, List.map_drop, List.drop_take]
  simp
theorem kt_tks (C : List Chr) (l : ByteArray) : ∀ (xs : List Lx.Tk) (n : Int), (tks C l n xs).map kt = xs.map fun t => (t.kind, ((bl l).take t.hi).drop t.lo)
  | [], _ => rfl
  | t :: r, n => by
    simp only [tks, List.map_cons]
    rw [kt_tks C l r]
    simp only [kt, bl_ext]
theorem errK_of : ∀ {xs : List Lx.Tk}, (∀ t ∈ xs, t.err = 0) → errK xs = 0
  | [], _ => rfl
  | x :: r, h => by
    rw [errK, if_neg (by simpa using h x (List.mem_cons_self ..))]
    exact errK_of fun t ht => h t (List.mem_cons_of_mem _ ht)
theorem its_lex {s : ByteArray} (h : okB (lgc s)) : (itsOf (logB s)).map (fun t => (t.kind, ((bl (logB s)).take t.hi).drop t.lo)) = lexB (lgc s) := by
  have := Lx.lexF_items (lgc s) (lgc s).length 0 0 h
  rw [List.drop_zero] at this
  unfold itsOf Lx.itemsL
  rw [bl_lgc]
  exact this
theorem scan_lex {s : ByteArray} (h : scanE s = 0) : checkE s = 0 ∧ okB (lgc s) ∧ (scanT s).map kt = lexB (lgc s) := by
  obtain ⟨e1, e2, e3, e4⟩ := scanE_zero h
  have ho : okB (lgc s) := by
    refine (Lx.okF_items _ _ 0 _).1 ?_
    have := errK_zero e2
    unfold itsOf Lx.itemsL at this
    rwa [bl_lgc] at this
  refine ⟨e1, ho, ?_⟩
  rw [e3, kt_tks, its_lex ho]
theorem scan_of {s : ByteArray} (hc : checkE s = 0) (ho : okB (lgc s)) : scanE s = 0 ∧ (scanT s).map kt = lexB (lgc s) := by
  have he : scanE s = 0 := by
    rw [scanE, if_neg (by simpa using hc)]
    refine errK_of ?_
    have := (Lx.okF_items _ _ 0 _).2 ho
    unfold itsOf Lx.itemsL
    rw [bl_lgc]
    exact this
  exact ⟨he, (scan_lex he).2.2⟩
theorem chars_last (s : ByteArray) : ∀ (n : Nat) (i : Int), 0 ≤ i → i < s.size → s.size - i ≤ n → checkL s.size (partsF s n i) = 0 → ∃ c, (chrsL (partsF s n i)).getLast? = some c ∧ c.b = 10
  | 0, i, _, h1, h2, _ => by omega
  | n + 1, i, h0, h1, h2, hc => by
    have hl := partP_len s h0 h1
    simp only [partsF] at hc ⊢
    rw [if_pos h1] at hc ⊢
    simp only [checkL, partP_pos] at hc
    by_cases h3 : i + (partP s i).len < s.size
    · rw [if_neg (by omega)] at hc
      obtain ⟨c, hx, hb⟩ := chars_last s n _ (by omega) h3 (by omega) hc
      refine ⟨c, ?_, hb⟩
      simp only [chrsL]
      split
      · exact hx
      · cases hy : chrsL (partsF s n (i + (partP s i).len)) with
        | nil => rw [hy] at hx; cases hx
        | cons y ys => rw [hy] at hx; rw [List.getLast?_cons_cons]; exact hx
    · rw [if_pos (by omega)] at hc
      have hsp : (partP s i).sp = false := by
        cases hs : (partP s i).sp
        · rfl
        · rw [hs] at hc; cases hc
      have hb : (partP s i).b = 10 := by
        by_cases hb : (partP s i).b = 10
        · exact hb
        · rw [hsp, if_pos (by simp [hb])] at hc; cases hc
      rw [partsF_end s (by omega)]
      simp only [chrsL]
      rw [if_neg (by rw [hsp]; simp)]
      exact ⟨_, rfl, hb⟩
theorem lgc_last {s : ByteArray} (hc : checkE s = 0) (h0 : s.size ≠ 0) : (lgc s).getLast? = some 10 := by
  have hsz := checkE_size hc
  have e : charsOf s = chrsL (partsF s s.size 0) := by rw [charsOf, if_pos hc]; rfl
  have hc' : checkL s.size (partsF s s.size 0) = 0 := by rw [checkE_of hsz] at hc; exact hc
  obtain ⟨c, hx, hb⟩ := chars_last s s.size 0 (Int.le_refl _) (by omega) (by omega) hc'
  unfold lgc
  rw [List.getLast?_map, e, hx]
  simp [hb]
theorem lgc_nil {s : ByteArray} (h0 : s.size = 0) : lgc s = [] := List.length_eq_zero_iff.1 (by have := lgc_len s; omega)
theorem lgc_app {a b : ByteArray} (ea : checkE a = 0) (eb : checkE b = 0) (hl : a.size + b.size ≤ 65536) : checkE (a ++ b) = 0 ∧ lgc (a ++ b) = lgc a ++ lgc b := by
  obtain ⟨h1, h2⟩ := parts_law a b ea eb hl
  refine ⟨h1, ?_⟩
  unfold lgc charsOf
  rw [if_pos h1, if_pos ea, if_pos eb, h2, List.map_append, List.map_map]
  rfl
theorem scan_app {a b : ByteArray} (ea : scanE a = 0) (eb : scanE b = 0) (hl : a.size + b.size ≤ 65536) :
    scanE (a ++ b) = 0 ∧ (scanT (a ++ b)).map kt = (scanT a ++ scanT b).map kt ∧ (scanT a = [] ∨ ∃ t, (scanT a).getLast? = some t ∧ t.kind = 9) := by
  obtain ⟨a1, a2, a3⟩ := scan_lex ea
  obtain ⟨b1, b2, b3⟩ := scan_lex eb
  obtain ⟨c1, c2⟩ := lgc_app a1 b1 hl
  by_cases h0 : a.size = 0
  · have hn := lgc_nil h0
    have hT : scanT a = [] := by
      rw [hn] at a3
      exact List.map_eq_nil_iff.1 a3
    rw [hn, List.nil_append] at c2
    rw [← c2] at b2 b3
    obtain ⟨d1, d2⟩ := scan_of c1 b2
    exact ⟨d1, by rw [d2, hT, List.nil_append, b3], .inl hT⟩
  · have hla := lgc_last a1 h0
    obtain ⟨e1, e2, t, e3, e4⟩ := Lx.lexF_app (lgc a).length (lgc a) (lgc b) 0 (lgc (a ++ b)).length hla (Nat.le_refl _) (by rw [c2]; exact Nat.le_refl _) a2
    obtain ⟨d1, d2⟩ := scan_of c1 (by unfold okB; rw [c2] at e2 ⊢; exact e2.2 b2)
    refine ⟨d1, ?_, .inr ?_⟩
    · rw [d2, List.map_append, a3, b3]
      unfold lexB
      rw [c2] at e1 ⊢
      exact e1
    · have e5 : ((scanT a).map kt).getLast? = some t := by rw [a3]; exact e3
      rw [List.getLast?_map] at e5
      cases hx : (scanT a).getLast? with
      | none => rw [hx] at e5; cases e5
      | some x =>
        rw [hx] at e5
        simp only [Option.map_some, Option.some.injEq] at e5
        exact ⟨x, rfl, by rw [← e4, ← e5]; rfl⟩
end Go.Proofs.Ytdonomneofdhfaa
namespace Go.Proofs.Ytdonomneofdhfaa
open Go.GV Go.RowKit
def spT (t : Tok) : List UInt8 := (if t.kind = 9 then [] else [32]) ++ t.text.data.toList
def spL : List Tok → List UInt8
  | [] => []
  | t :: r => t.text.data.toList ++ r.flatMap spT
theorem spL_snoc {L : List Tok} (t : Tok) : spL (L ++ [t]) = spL L ++ (if L ≠ [] ∧ t.kind ≠ 9 then [32] else []) ++ t.text.data.toList := by
  cases L with
  | nil => simp [spL]
  | cons x r =>
    simp only [List.cons_append, spL, List.flatMap_append, List.flatMap_cons, List.flatMap_nil, List.append_nil, spT]
    by_cases h : t.kind = 9
    · rw [if_pos h, if_neg (fun hh => hh.2 h)]; simp
    · rw [if_neg h, if_pos ⟨by simp, h⟩]; simp
def spB (s : ByteArray) : ByteArray := ⟨(spL (scanT s)).toArray⟩
theorem spL_join : ∀ L : List Tok, (spL L).map (fun b : UInt8 => (b.toNat : Int)) = Lx.join0 (L.map kt)
  | [] => rfl
  | t :: r => by
    have e : ∀ r : List Tok, (r.flatMap spT).map (fun b : UInt8 => (b.toNat : Int)) = Lx.joinR (r.map kt) := fun r => by
      induction r with
      | nil => rfl
      | cons t r ih =>
        simp only [List.flatMap_cons, List.map_append, ih, List.map_cons, Lx.joinR, spT, kt]
        by_cases h : t.kind = 9
        · rw [if_pos h, if_pos h]; rfl
        · rw [if_neg h, if_neg h]; rfl
    simp only [spL, List.map_append, e, List.map_cons, Lx.join0]
    rfl
theorem bl_spB (s : ByteArray) : bl (spB s) = Lx.join0 ((scanT s).map kt) := by
  unfold bl spB
  rw [List.toList_toArray]
  exact spL_join _
def ptL : Lx.Bs → Bool
  | c :: d :: r => (decide (c = 92) && decide (d = 10)) || (decide (c = 63) && (decide (d = 63) && (match r with
    | x :: _ => isThird x
    | [] => false)))
  | _ => false
def spN : Lx.Bs → Nat
  | [] => 0
  | c :: r => (if ptL (c :: r) = true then 3 else 1) + spN r
def nb (l : Lx.Bs) : Nat := (l.filter (fun c => !decide (c = 32))).length
theorem nb_cons {c : Int} {l : Lx.Bs} (h : c ≠ 32) : nb (c :: l) = nb l + 1 := by
  unfold nb
  rw [List.filter_cons_of_pos (by simpa using h)]; rfl
theorem nb_le (c : Int) (l : Lx.Bs) : nb l ≤ nb (c :: l) := by
  unfold nb
  by_cases h : c = 32
  · rw [List.filter_cons_of_neg (by simpa using h)]; exact Nat.le_refl _
  · rw [List.filter_cons_of_pos (by simpa using h)]; simp
theorem isThird63 : isThird 63 = false := by decide
theorem spN_le : ∀ l : Lx.Bs, spN l ≤ l.length + nb l
  | [] => Nat.zero_le _
  | [c] => by
    have : ptL [c] = false := rfl
    simp only [spN, this]
    simp
  | c :: d :: r => by
    have h1 := spN_le (d :: r)
    have h2 := spN_le r
    have h3 := nb_le c (d :: r)
    simp only [spN, List.length_cons] at h1 ⊢
    by_cases hp : ptL (c :: d :: r) = true
    · have hcd : c ≠ 32 ∧ d ≠ 32 ∧ ptL (d :: r) = false := by
        unfold ptL at hp
        simp only [Bool.or_eq_true, Bool.and_eq_true, decide_eq_true_eq] at hp
        rcases hp with ⟨q1, q2⟩ | ⟨q1, q2, q3⟩
        · subst q1 q2
          refine ⟨by decide, by decide, ?_⟩
          cases r <;> rfl
        · subst q1 q2
          refine ⟨by decide, by decide, ?_⟩
          cases r with
          | nil => rfl
          | cons x r =>
            have q3 : isThird x = true := q3
            unfold ptL
            have : x ≠ 63 := by rintro rfl; rw [isThird63] at q3; cases q3
            simp [this]
      rw [if_pos hp, if_neg (by rw [hcd.2.2]; simp), nb_cons hcd.1, nb_cons hcd.2.1]
      omega
    · rw [if_neg hp]
      omega
theorem parted_pt (s : ByteArray) {k : Nat} (hk : k < s.size) : parted s k = ptL ((bl s).drop k) := by
  have hg : ∀ j, j < s.size → (bl s)[j]? = some (bt s j) := fun j hj => bl_get s hj
  have d0 : (bl s).drop k = bt s k :: (bl s).drop (k + 1) := Lx.drop_cons_of (hg k hk)
  unfold parted isTri
  rw [d0]
  by_cases h1 : k + 1 < s.size
  · have d1 : (bl s).drop (k + 1) = bt s (k + 1 : Nat) :: (bl s).drop (k + 2) := Lx.drop_cons_of (hg (k + 1) h1)
    rw [d1, decide_eq_true (show (k : Int) + 1 < s.size by omega), Bool.true_and]
    unfold ptL
    by_cases h2 : k + 2 < s.size
    · have d2 : (bl s).drop (k + 2) = bt s (k + 2 : Nat) :: (bl s).drop (k + 3) := Lx.drop_cons_of (hg (k + 2) h2)
      rw [d2, decide_eq_true (show (k : Int) + 3 ≤ s.size by omega), Bool.true_and]
      rfl
    · have d2 : (bl s).drop (k + 2) = [] := List.drop_eq_nil_of_le (by rw [bl_len]; omega)
      rw [d2, decide_eq_false (show ¬ (k : Int) + 3 ≤ s.size by omega)]
      simp
  · have d1 : (bl s).drop (k + 1) = [] := List.drop_eq_nil_of_le (by rw [bl_len]; omega)
    rw [d1, decide_eq_false (show ¬ (k : Int) + 1 < s.size by omega), decide_eq_false (show ¬ (k : Int) + 3 ≤ s.size by omega)]
    rfl
theorem spellUp_spN (s : ByteArray) : ∀ k, k ≤ s.size → (spellUp s k).length + spN ((bl s).drop k) = spN (bl s)
  | 0, _ => by simp [spellUp]
  | k + 1, h => by
    have ih := spellUp_spN s k (by omega)
    have d0 : (bl s).drop k = bt s k :: (bl s).drop (k + 1) := Lx.drop_cons_of (bl_get s (by omega))
    have hp := parted_pt s (k := k) (by omega)
    rw [d0] at ih hp
    simp only [spN, ← hp] at ih
    simp only [spellUp, List.length_append, spellAt, List.length_cons]
    rw [← ih]
    split <;> simp <;> omega
theorem join0_le (ts : List (Int × Lx.Bs)) : (Lx.join0 ts).length ≤ (Lx.joinR ts).length ∧ nb (Lx.join0 ts) ≤ nb (Lx.joinR ts) := by
  cases ts with
  | nil => exact ⟨Nat.le_refl _, Nat.le_refl _⟩
  | cons t r =>
    simp only [Lx.join0, Lx.joinR]
    split
    · exact ⟨Nat.le_refl _, Nat.le_refl _⟩
    · rw [List.cons_append]
      exact ⟨by simp, nb_le _ _⟩
theorem nl_text : ∀ (n : Nat) (st : Int) (l : Lx.Bs), ∀ t ∈ Lx.lexF n st l, t.1 = 9 → t.2 = [10]
  | 0, _, _, t, h, _ => by cases h
  | n + 1, _, [], t, h, _ => by cases h
  | n + 1, st, c :: r, t, h, h9 => by
    simp only [Lx.lexF] at h
    split at h
    · exact nl_text n st r t h h9
    · split at h
      · cases h
      · rcases List.mem_cons.1 h with rfl | h
        · obtain ⟨h1, h2⟩ := Lx.item_nl h9
          simp only at h2 ⊢
          rw [List.head?_cons, Option.some.injEq] at h1
          rw [h2, h1]; rfl
        · exact nl_text n _ _ t h h9
theorem joinR_last : ∀ ts : List (Int × Lx.Bs), ts.getLast? = some (9, [10]) → (Lx.joinR ts).getLast? = some 10
  | [], h => by cases h
  | [t], h => by
    simp at h
    subst h
    rfl
  | t :: u :: r, h => by
    rw [List.getLast?_cons_cons] at h
    have ih := joinR_last (u :: r) h
    rw [Lx.joinR, List.getLast?_append, ih]; rfl
theorem join0_last {ts : List (Int × Lx.Bs)} (h : ts.getLast? = some (9, [10])) : (Lx.join0 ts).getLast? = some 10 := by
  match ts, h with
  | [t], h =>
    simp at h
    subst h
    rfl
  | t :: u :: r, h =>
    rw [List.getLast?_cons_cons] at h
    rw [Lx.join0, List.getLast?_append, joinR_last (u :: r) h]; rfl
theorem bytes_chrs : ∀ L : List Part, (∀ p ∈ L, 0 ≤ p.b ∧ p.b ≤ 255) → (bytesL L).map (fun b : UInt8 => (b.toNat : Int)) = (chrsL L).map (·.b)
  | [], _ => rfl
  | p :: r, h => by
    have ih := bytes_chrs r (fun q hq => h q (List.mem_cons_of_mem _ hq))
    simp only [bytesL, chrsL]
    split
    · exact ih
    · have := h p (List.mem_cons_self ..)
      simp only [List.map_cons, ih]
      rw [u8_back this.1 this.2]
theorem lgc_logical {s : ByteArray} (hc : checkE s = 0) : lgc s = bl (logicalOf s) := by
  unfold lgc charsOf logicalOf bl
  rw [if_pos hc, if_pos hc, List.toList_toArray]
  exact (bytes_chrs _ (partsF_b s _ _)).symm
theorem spaces_law {s : ByteArray} (hs : scanE s = 0) (hl : s.size ≤ 20000) :
    (spL (scanT s)).length ≤ 40000 ∧ spellE (spB s) = 0 ∧ scanE (spellS (spB s)) = 0 ∧ (scanT (spellS (spB s))).map kt = (scanT s).map kt := by
  obtain ⟨a1, a2, a3⟩ := scan_lex hs
  have hlg := lgc_len s
  have eb : bl (spB s) = Lx.join0 (lexB (lgc s)) := by rw [bl_spB, a3]
  have b1 := Lx.joinR_len (lexB (lgc s))
  have b2 := Lx.joinR_nb (lexB (lgc s))
  have b3 := Lx.lexF_len (lgc s).length 0 (lgc s)
  have b4 := join0_le (lexB (lgc s))
  have hlen : (spB s).size ≤ 40000 := by
    rw [← bl_len, eb]
    unfold lexB at *
    omega
  have hsz : (spL (scanT s)).length = (spB s).size := by
    show _ = ((spL (scanT s)).toArray).size
    simp
  have hup := spellUp_spN (spB s) (spB s).size (Nat.le_refl _)
  rw [List.drop_eq_nil_of_le (by rw [bl_len]; exact Nat.le_refl _)] at hup
  have hle := spN_le (bl (spB s))
  have hsp : (spellUp (spB s) (spB s).size).length ≤ 65536 := by
    have : nb (bl (spB s)) ≤ 20000 := by
      rw [eb]
      unfold lexB nb at *
      omega
    have h0 : spN [] = 0 := rfl
    rw [bl_len] at hle
    omega
  have hend : ends (spB s) = true := by
    unfold ends
    by_cases h0 : s.size = 0
    · have hn := lgc_nil h0
      have : bl (spB s) = [] := by rw [eb, hn]; rfl
      have h2 : (spB s).size = 0 := by rw [← bl_len, this]; rfl
      rw [decide_eq_true (size_empty.2 h2)]; rfl
    · have hla := lgc_last a1 h0
      obtain ⟨_, _, t, e3, e4⟩ := Lx.lexF_app (lgc s).length (lgc s) [] 0 (lgc s).length hla (Nat.le_refl _) (by simp) a2
      have ht : t = (9, [10]) := Prod.ext e4 (nl_text _ _ _ t (List.mem_of_getLast? e3) e4)
      rw [ht] at e3
      have h1 : (bl (spB s)).getLast? = some 10 := by rw [eb]; exact join0_last e3
      rw [List.getLast?_eq_getElem?, bl_len] at h1
      have hpos : (spB s).size ≠ 0 := by
        intro hz
        have : bl (spB s) = [] := List.length_eq_zero_iff.1 (by rw [bl_len]; exact hz)
        rw [this] at h1; cases h1
      rw [bl_get (spB s) (by omega), Option.some.injEq] at h1
      rw [show ((spB s).size : Int) - 1 = (((spB s).size - 1 : Nat) : Int) by omega, h1]
      simp
  have hE : spellE (spB s) = 0 := by
    unfold spellE
    rw [if_neg (by omega), if_neg (by rw [hend]; simp), if_neg (by omega)]
  obtain ⟨c1, c2, _⟩ := spell_law (spB s) hE
  have hlc : lgc (spellS (spB s)) = bl (spB s) := by rw [lgc_logical c1, c2]
  obtain ⟨d1, d2⟩ := Lx.lexF_join0 (lgc s).length 0 (lgc s) (bl (spB s)).length (Nat.le_refl _) a2 (by rw [eb]; exact Nat.le_refl _)
  obtain ⟨f1, f2⟩ := scan_of c1 (by
    unfold okB
    rw [hlc]
    have : Lx.join0 (Lx.lexF (lgc s).length 0 (lgc s)) = bl (spB s) := eb.symm
    rw [this] at d2
    exact d2)
  refine ⟨by omega, hE, f1, ?_⟩
  rw [f2, a3]
  unfold lexB
  rw [hlc]
  have : Lx.join0 (Lx.lexF (lgc s).length 0 (lgc s)) = bl (spB s) := eb.symm
  rw [this] at d1
  exact d1
end Go.Proofs.Ytdonomneofdhfaa
namespace Go.GV
open Go.RowKit
theorem xl_want {C : Cx} {all r : List Oper} {o oj : Oper} {Q : Post} {st : St} {u : Im} {j t : Nat} {b : Bool} (hg : o.guard = some (j, b)) (hj : all[j]? = some oj) (hd : oj.dst = some t)
    (hk : look st.kn t = some (.v (.bool b))) (hn : look st.gk t = none) (h : XL C all ({ o with guard := none } :: r) Q st u) : XL C all (o :: r) Q st u := by
  unfold XL at h ⊢
  intro E a w hok
  have h1 := h E a w hok
  have hgo : guardOf all st o = some [(t, b)] := by
    unfold guardOf
    rw [hg]
    simp only [hj, hd, hn, hk]
  have hgd := guard_sound (all := all.toArray) hok.agr (by simpa using hgo)
  have hw : Region.wanted o (yielded all.toArray a.tmps) = true := by
    cases hw : Region.wanted o (yielded all.toArray a.tmps) with
    | true => rfl
    | false =>
      refine absurd ?_ (hgd.2 hw)
      intro x hx
      rw [List.mem_singleton.1 hx]
      exact hok.agr.kn t _ hn hk
  unfold wpListIn at h1 ⊢
  rw [if_pos hw]
  rw [if_pos (by rfl)] at h1
  exact h1
end Go.GV
namespace Go.Proofs.Ytdonomneofdhfaa
open Go.GV Go.RowKit
theorem spL_take (T : List Tok) (k : Nat) : (spL (T.take k)).length ≤ (spL T).length := by
  conv => rhs; rw [← List.take_append_drop k T]
  cases h : T.take k with
  | nil => exact Nat.zero_le _
  | cons t r =>
    simp only [List.cons_append, spL, List.length_append, List.flatMap_append]
    omega
set_option maxRecDepth 100000 in
theorem scanSpaces_any (s : ByteArray) (w : World) (hs : s.size ≤ 9223372036854775807) (hg : Glob (im w)) :
    Calls Try.prog 9 #[.string s] w (PureP w fun v _ => v = .bool true) := by
  have hlt := scanT_len s
  refine x_fun tt_ok Try.func9 rfl rfl [] 0 [.v (.string s)] rfl rfl rfl rfl (fun b hb => by cases hb) ?_
  refine x_vc tt_ok ?_
  refine xl_call0 (.bool true) rfl rfl rfl rfl fn40 rfl rfl (fun E w F hs => scanAlive_any w (hg.imm hs.imm)) ?_
  refine xl_go tt_ok ?_
  refine xl_callO2 31 (tokY.d (scanT s)) [.int .i64 (scanE s)] rfl rfl rfl rfl fn41 rfl rfl (fun E w F hs' => scan_any s w hs (hg.imm hs'.imm)) ?_
  refine xl_go tt_ok ?_
  refine x_if (fun h => ?_) (fun h => ?_)
  · exact fin1 (fun _ _ => rfl)
  · replace h : ((decide (scanE s ≠ 0) || decide (20000 < (s.size : Int))) || !true) = false := h
    simp only [Bool.or_eq_false_iff, decide_eq_false_iff_not, Classical.not_not] at h
    obtain ⟨⟨he, hl⟩, _⟩ := h
    obtain ⟨l1, l2, l3, l4⟩ := spaces_law he (by omega)
    have hbz : (spB s).size = (spL (scanT s)).length := by
      show ((spL (scanT s)).toArray).size = _
      simp
    obtain ⟨T, hT⟩ : ∃ T, T = scanT s := ⟨_, rfl⟩
    have hbb : spB s = ⟨(spL T).toArray⟩ := by rw [hT]; rfl
    rw [← hT] at hlt l1 l4 hbz ⊢
    refine x_nil 6 5 byteY rfl ?_
    refine x_loop (σ := Int × List UInt8) (fun (k, L) => ⟨[(7, .v (.int .i64 k)), (6, .r 2), (4, .r 0), (3, .v (.bool true))], [], [(0, .row 31 (tokY.d T)), (2, .row 5 (byteY.d L))], 3⟩)
      (fun (k, L) _ => 0 ≤ k ∧ k ≤ T.length ∧ L = spL (T.take k.toNat)) (fun (k, _) => (T.length - k).toNat) (fun (_, _) => by simp only; omega) (0, []) [(2, some 1)] (.of rfl rfl rfl rfl rfl rfl)
      ⟨by omega, by omega, rfl⟩ ?_
    rintro ⟨k, L⟩ u hu ⟨g1, g2, g3⟩
    refine x_vc tt_ok ?_
    refine x_if (fun h => ?_) (fun h => ?_)
    · have h : k < T.length := of_decide_eq_true h
      have hsn : spL (T.take (k.toNat + 1)) = L ++ (if T.take k.toNat ≠ [] ∧ (T.getD k.toNat tok0).kind ≠ 9 then [32] else []) ++ (T.getD k.toNat tok0).text.data.toList := by
        rw [take_get (List.getElem?_eq_getElem (by omega)), spL_snoc, ← g3, List.getD_eq_getElem?_getD, List.getElem?_eq_getElem (by omega)]; rfl
      have hne : T.take k.toNat ≠ [] ↔ 0 < k := by
        rw [← List.length_pos_iff, List.length_take]; omega
      have hle := spL_take T (k.toNat + 1)
      rw [hsn, List.length_append, List.length_append] at hle
      have htz : (T.getD k.toNat tok0).text.data.toList.length = (T.getD k.toNat tok0).text.size := by simp
      repeat (refine And.intro ?_ ?_; first | omega | (simp only [Lay.d_n]; omega) | (simp only [decide_eq_true_eq, decide_eq_false_iff_not, Bool.or_eq_false_iff, Bool.and_eq_true, Bool.or_eq_true, Bool.and_eq_false_iff, Bool.not_eq_true', Bool.not_eq_false', Lay.d_n]; omega) | (simp only [decide_eq_true_eq, decide_eq_false_iff_not, Bool.or_eq_false_iff, Bool.and_eq_true, Bool.or_eq_true, Bool.and_eq_false_iff, Bool.not_eq_true', Bool.not_eq_false']; omega))
      refine x_if (fun h2 => ?_) (fun h2 => ?_)
      · replace h2 : (decide (0 < k) && decide ((T.getD k.toNat tok0).kind ≠ 9)) = true := h2
        rw [Bool.and_eq_true, decide_eq_true_eq, decide_eq_true_eq] at h2
        rw [if_pos ⟨hne.2 h2.1, h2.2⟩] at hsn hle
        simp only [List.length_singleton] at hle
        refine xl_push tt_ok byteY L 32 1 (cs := [.int .u8 32]) rfl rfl rfl rfl rfl rfl rfl rfl rfl rfl rfl rfl (by kernel_rfl) rfl rfl rfl rfl rfl (fun n hn => by cases hn; decide) rfl rfl rfl (by omega) (by omega) ?_
        refine xl_go tt_ok ?_
        repeat (refine And.intro ?_ ?_; first | omega | (simp only [Lay.d_n]; omega) | (simp only [decide_eq_true_eq, decide_eq_false_iff_not, Bool.or_eq_false_iff, Bool.and_eq_true, Bool.or_eq_true, Bool.and_eq_false_iff, Bool.not_eq_true', Bool.not_eq_false', Lay.d_n]; omega) | (simp only [decide_eq_true_eq, decide_eq_false_iff_not, Bool.or_eq_false_iff, Bool.and_eq_true, Bool.or_eq_true, Bool.and_eq_false_iff, Bool.not_eq_true', Bool.not_eq_false']; omega))
        refine xl_appStr tt_ok (L ++ [32]) rfl rfl rfl rfl rfl rfl rfl (by kernel_rfl) rfl rfl rfl rfl (by rw [List.length_append]; simp only [List.length_singleton]; show _ + (T.getD k.toNat tok0).text.size ≤ _; omega) ?_
        refine xl_go tt_ok ?_
        repeat (refine And.intro ?_ ?_; first | omega | (simp only [Lay.d_n]; omega) | (simp only [decide_eq_true_eq, decide_eq_false_iff_not, Bool.or_eq_false_iff, Bool.and_eq_true, Bool.or_eq_true, Bool.and_eq_false_iff, Bool.not_eq_true', Bool.not_eq_false', Lay.d_n]; omega) | (simp only [decide_eq_true_eq, decide_eq_false_iff_not, Bool.or_eq_false_iff, Bool.and_eq_true, Bool.or_eq_true, Bool.and_eq_false_iff, Bool.not_eq_true', Bool.not_eq_false']; omega))
        refine again (k + 1, L ++ [32] ++ (T.getD k.toNat tok0).text.data.toList) [(2, some 4)] (.of rfl rfl rfl rfl rfl rfl) ⟨by omega, by omega, ?_⟩ (by simp only; omega)
        rw [show (k + 1).toNat = k.toNat + 1 by omega, hsn]
      · replace h2 : (decide (0 < k) && decide ((T.getD k.toNat tok0).kind ≠ 9)) = false := h2
        rw [if_neg (fun hh => by
          rw [hne] at hh
          rw [decide_eq_true hh.1, decide_eq_true hh.2] at h2; cases h2)] at hsn hle
        repeat (refine And.intro ?_ ?_; first | omega | (simp only [Lay.d_n]; omega) | (simp only [decide_eq_true_eq, decide_eq_false_iff_not, Bool.or_eq_false_iff, Bool.and_eq_true, Bool.or_eq_true, Bool.and_eq_false_iff, Bool.not_eq_true', Bool.not_eq_false', Lay.d_n]; omega) | (simp only [decide_eq_true_eq, decide_eq_false_iff_not, Bool.or_eq_false_iff, Bool.and_eq_true, Bool.or_eq_true, Bool.and_eq_false_iff, Bool.not_eq_true', Bool.not_eq_false']; omega))
        refine xl_appStr tt_ok L rfl rfl rfl rfl rfl rfl rfl (by kernel_rfl) rfl rfl rfl rfl (by show _ + (T.getD k.toNat tok0).text.size ≤ _; omega) ?_
        refine xl_go tt_ok ?_
        repeat (refine And.intro ?_ ?_; first | omega | (simp only [Lay.d_n]; omega) | (simp only [decide_eq_true_eq, decide_eq_false_iff_not, Bool.or_eq_false_iff, Bool.and_eq_true, Bool.or_eq_true, Bool.and_eq_false_iff, Bool.not_eq_true', Bool.not_eq_false', Lay.d_n]; omega) | (simp only [decide_eq_true_eq, decide_eq_false_iff_not, Bool.or_eq_false_iff, Bool.and_eq_true, Bool.or_eq_true, Bool.and_eq_false_iff, Bool.not_eq_true', Bool.not_eq_false']; omega))
        refine again (k + 1, L ++ (T.getD k.toNat tok0).text.data.toList) [(2, some 3)] (.of rfl rfl rfl rfl rfl rfl) ⟨by omega, by omega, ?_⟩ (by simp only; omega)
        rw [show (k + 1).toNat = k.toNat + 1 by omega, hsn]
        simp
    · have h : ¬ k < T.length := of_decide_eq_false h
      rw [List.take_of_length_le (by omega)] at g3
      subst g3
      refine xl_bytesStr (spL T) rfl rfl rfl rfl Try.underlying61 Try.underlying5 Try.underlying9 rfl (fun E w F hs => hs.rowAt (k := 2) rfl) ?_
      refine xl_call0 (.tuple #[.string (spellS (spB s)), .int .i64 0]) rfl rfl rfl rfl fn47 rfl rfl (fun E w F _ => by
        have := spell_any (spB s) w (by omega)
        rw [l2] at this
        rw [hbb] at this ⊢
        exact this) ?_
      refine xl_go tt_ok ?_
      refine xl_callO2 31 (tokY.d (scanT (spellS (spB s)))) [.int .i64 (scanE (spellS (spB s)))] rfl rfl rfl rfl fn41 rfl rfl (fun E w F hs' => scan_any (spellS (spB s)) w (by
        have : (spellS (spB s)).size ≤ 65536 := by
          have := checkE_size (scanE_zero l3).1
          exact this
        omega) ((hg.sub hu.sub).imm hs'.imm)) ?_
      rw [l3]
      obtain ⟨M, hM⟩ : ∃ M, M = scanT (spellS (spB s)) := ⟨_, rfl⟩
      rw [← hM] at l4 ⊢
      have hML : M.length = T.length := by have := congrArg List.length l4; simpa using this
      refine xl_go tt_ok ?_
      repeat (refine And.intro ?_ ?_; first | omega | (simp only [Lay.d_n]; omega) | (simp only [decide_eq_true_eq, decide_eq_false_iff_not, Bool.or_eq_false_iff, Bool.and_eq_true, Bool.or_eq_true, Bool.and_eq_false_iff, Bool.not_eq_true', Bool.not_eq_false', Lay.d_n]; omega) | (simp only [decide_eq_true_eq, decide_eq_false_iff_not, Bool.or_eq_false_iff, Bool.and_eq_true, Bool.or_eq_true, Bool.and_eq_false_iff, Bool.not_eq_true', Bool.not_eq_false']; omega))
      refine x_iff ?_ ?_
      · show ((decide ((0 : Int) ≠ 0) || decide ((0 : Int) ≠ 0)) || decide ((M.length : Int) ≠ T.length)) = false
        rw [hML]; simp
      · refine x_loop (σ := Int) (fun i => ⟨[(12, .v (.int .i64 i)), (10, .r 3), (4, .r 0), (3, .v (.bool true))], [], [(0, .row 31 (tokY.d T)), (3, .row 31 (tokY.d M))], 4⟩)
          (fun i _ => 0 ≤ i ∧ i ≤ T.length) (fun i => (T.length - i).toNat) (fun _ => Nat.le_refl _) 0 [] (.of rfl rfl rfl rfl rfl rfl) ⟨by omega, by omega⟩ ?_
        rintro i u3 hu3 ⟨k1, k2⟩
        refine x_vc tt_ok ?_
        refine x_if (fun h2 => ?_) (fun h2 => ?_)
        · have h2 : i < T.length := of_decide_eq_true h2
          have hk : (M.getD i.toNat tok0).kind = (T.getD i.toNat tok0).kind ∧ (M.getD i.toNat tok0).text = (T.getD i.toNat tok0).text := by
            have h5 := congrArg (fun l => l[i.toNat]?) l4
            simp only [List.getElem?_map, List.getElem?_eq_getElem (show i.toNat < M.length by omega), List.getElem?_eq_getElem (show i.toNat < T.length by omega), Option.map_some, Option.some.injEq] at h5
            simp only [List.getD_eq_getElem?_getD, List.getElem?_eq_getElem (show i.toNat < M.length by omega), List.getElem?_eq_getElem (show i.toNat < T.length by omega), Option.getD_some]
            simp only [kt, Prod.mk.injEq] at h5
            exact ⟨h5.1, bl_inj h5.2⟩
          refine x_draw mix (by kernel_rfl) (xd_go tt_ok ?_)
          repeat (refine And.intro ?_ ?_; first | omega | (simp only [Lay.d_n]; omega) | (simp only [decide_eq_true_eq, decide_eq_false_iff_not, Bool.or_eq_false_iff, Bool.and_eq_true, Bool.or_eq_true, Bool.and_eq_false_iff, Bool.not_eq_true', Bool.not_eq_false', Lay.d_n]; omega) | (simp only [decide_eq_true_eq, decide_eq_false_iff_not, Bool.or_eq_false_iff, Bool.and_eq_true, Bool.or_eq_true, Bool.and_eq_false_iff, Bool.not_eq_true', Bool.not_eq_false']; omega))
          refine x_iff ?_ ?_
          · show (decide ((M.getD i.toNat tok0).kind ≠ (T.getD i.toNat tok0).kind) || decide ((M.getD i.toNat tok0).text ≠ (T.getD i.toNat tok0).text)) = false
            rw [hk.1, hk.2]; simp
          · repeat (refine And.intro ?_ ?_; first | omega | (simp only [Lay.d_n]; omega) | (simp only [decide_eq_true_eq, decide_eq_false_iff_not, Bool.or_eq_false_iff, Bool.and_eq_true, Bool.or_eq_true, Bool.and_eq_false_iff, Bool.not_eq_true', Bool.not_eq_false', Lay.d_n]; omega) | (simp only [decide_eq_true_eq, decide_eq_false_iff_not, Bool.or_eq_false_iff, Bool.and_eq_true, Bool.or_eq_true, Bool.and_eq_false_iff, Bool.not_eq_true', Bool.not_eq_false']; omega))
            exact again (i + 1) [] (.of rfl rfl rfl rfl rfl rfl) ⟨by omega, by omega⟩ (by omega)
        · exact fin1 (fun _ _ => rfl)
end Go.Proofs.Ytdonomneofdhfaa
namespace Go.Proofs.Ytdonomneofdhfaa
open Go.ChangeShapes Go.WideShapes Go.ChangeAt Go.RowKit Go.GV
theorem own : ownKnob Try.prog.godebug = none := by kernel_rfl
theorem laidOut : laidOutB Try.prog = true := by kernel_rfl
theorem fMaps : mapsRowed Try.prog = true := by kernel_rfl
theorem fHeard : Try.prog.stopsHeard = true := by kernel_rfl
theorem fEnter : Try.prog.mayEnter = true := by kernel_rfl
theorem fLifts : (Rows.linesTellsRow.lifted == Try.prog.liftsFinal) = true := by kernel_rfl
theorem fMake : (Try.prog.make == some Rows.linesTellsRow.make) = true := by kernel_rfl
theorem jmk {a0 a1 a2 a3 a4 a5 a6 a7 a8 a9 a10 a11 a12 a13 a14 a15 a16 a17 a18 a19 a20 a21 a22 a23 a24 a25 a26 a27 a28 a29 a30 a31 : Bool} (h0 : a0 = true) (h1 : a1 = true) (h2 : a2 = true) (h3 : a3 = true) (h4 : a4 = true) (h5 : a5 = true) (h6 : a6 = true) (h7 : a7 = true) (h8 : a8 = true) (h9 : a9 = true) (h10 : a10 = true) (h11 : a11 = true) (h12 : a12 = true) (h13 : a13 = true) (h14 : a14 = true) (h15 : a15 = true) (h16 : a16 = true) (h17 : a17 = true) (h18 : a18 = true) (h19 : a19 = true) (h20 : a20 = true) (h21 : a21 = true) (h22 : a22 = true) (h23 : a23 = true) (h24 : a24 = true) (h25 : a25 = true) (h26 : a26 = true) (h27 : a27 = true) (h28 : a28 = true) (h29 : a29 = true) (h30 : a30 = true) (h31 : a31 = true) :
    (a0 && a1 && a2 && a3 && a4 && a5 && a6 && a7 && a8 && a9 && a10 && a11 && a12 && a13 && a14 && a15 && a16 && a17 && a18 && a19 && a20 && a21 && a22 && a23 && a24 && a25 && a26 && a27 && a28 && a29 && a30 && a31) = true := by simp only [h0, h1, h2, h3, h4, h5, h6, h7, h8, h9, h10, h11, h12, h13, h14, h15, h16, h17, h18, h19, h20, h21, h22, h23, h24, h25, h26, h27, h28, h29, h30, h31, Bool.and_self]
end Go.Proofs.Ytdonomneofdhfaa
namespace Go.Proofs.Ytdonomneofdhfaa
open Go.ChangeShapes Go.WideShapes Go.ChangeAt Go.RowKit Go.GV
set_option maxRecDepth 100000 in
theorem lifted (os : Os) (started : os.Started) (H : Type) (enc : TypeId × Value → H) :
    ReturnsInHanded {} Try.checked os 9 .any (Rows.scanSpacesSpec.pre6 enc Try.prog Try.f9 Rows.scanSpacesRow.domain false) (Rows.scanSpacesSpec.post enc Try.prog Try.f9 false true false false) := by
  refine returnsInHanded_of_change_shaped (C := Try.checked) own started (by kernel_rfl) Try.func9
    (ChangeSpec.witness6 (enc := enc) (C := Try.checked) false ⟨#[], #[.string ⟨#[]⟩], []⟩ 8 (by kernel_rfl) (by kernel_rfl) (by kernel_rfl) (by kernel_rfl)) ?_
  intro W base args ds gs before hval0 hW hcnd hz hsh _
  have hval : ∀ (j : Nat) t v, Try.f9.params[j]? = some t → args[j]? = some v → Value.okWide Try.prog W .any base t v := hval0
  have hW' := hW
  obtain ⟨p, q, hA0, hV, rfl, hfz, hnd⟩ := hW
  have hA : DataW.TrodAll enc Try.prog W 0 (fun _ => true) true Try.f9.params.toList args.toList ds p := hA0
  rw [Try.params9] at hA hval hz
  obtain ⟨v0, vs0, d0, ds0, p0, q0, hargs, rfl, rfl, h0, r0⟩ := trodAll_cons hA
  obtain ⟨rfl, rfl, rfl⟩ := trodAll_nil r0
  obtain rfl : args = #[v0] := by cases args; simp_all
  obtain ⟨rfl, rfl⟩ := trodVars_none hV
  obtain ⟨x0, rfl⟩ := okWide_string Try.underlying9 (hval 0 9 v0 rfl rfl)
  have lt0 : ∀ x ∈ p0, x.block < W.heap.size := by obtain ⟨m, hm⟩ := h0; exact DataW.trod_lt m _ _ _ hm
  have hg : Glob (im W) := Try.laysM143.s1_3 W hsh
  have hx0 : x0.size ≤ 9223372036854775807 := by
    obtain ⟨m, hm⟩ := h0
    obtain ⟨s, e1, _, e2⟩ := DataW.trod_string Try.underlying9 hm
    simp only [Value.cells, List.cons.injEq, and_true, Value.string.injEq] at e1
    subst e1
    exact e2
  clear hA0 hval0
  refine (scanSpaces_any x0 W hx0 hg).mono fun e W' ⟨v, he, bel, hv⟩ => ?_
  subst he hv
  exact ⟨_, rfl, _, _, _, [], _, [], hW', trodAll_mk1 (shut_bool Try.underlying4 _), (trodAll_cons_mk (Below.trod laidOut (by kernel_rfl) (of_decide_eq_true (by kernel_rfl)) h0 bel lt0) trodAll_mk0), rfl, bel.frame _, fun h => by cases h⟩
theorem c9 : (Rows.scanSpacesRow.inPlace == Try.prog.inPlace 9) = true := by kernel_rfl
theorem c10 : (Rows.scanSpacesRow.unfollowed == Try.prog.unfollowed 9) = true := by kernel_rfl
theorem c11 : (Rows.scanSpacesRow.recurses == Try.prog.recurses 9) = true := by kernel_rfl
theorem c12 : (Rows.scanSpacesRow.named == Try.prog.varsNamed 9) = true := by kernel_rfl
theorem closed : joinedFacts Try.prog 9 Try.f9 Rows.scanSpacesSpec Rows.scanSpacesRow = true :=
  jmk (by kernel_rfl) laidOut fMaps (by kernel_rfl) (by kernel_rfl) (by kernel_rfl) (by kernel_rfl) (by kernel_rfl) (by kernel_rfl) c9 c10 c11 c12 (by kernel_rfl) (by kernel_rfl) (by kernel_rfl) (by kernel_rfl) (by kernel_rfl) (by kernel_rfl) (by kernel_rfl) (by kernel_rfl) (by kernel_rfl) (by kernel_rfl) (by kernel_rfl) fHeard fEnter fLifts fMake (by kernel_rfl) (by kernel_rfl) (by kernel_rfl) (by kernel_rfl)
theorem named : Try.prog.funcNamed Rows.scanSpacesRow.func = some 9 := by kernel_rfl
theorem inst : Try.f9.isInstance Try.prog Rows.scanSpacesRow.origin Rows.scanSpacesRow.targs := of_decide_eq_true (by kernel_rfl)
theorem wrap : Try.f9.isWrapper Try.prog Rows.scanSpacesRow.wrapper Rows.scanSpacesRow.mainSum := by unfold Func.isWrapper; first | (rw [if_pos (by decide +kernel)]; kernel_rfl) | (rw [if_neg (by decide +kernel)]; exact ⟨rfl, rfl⟩)
theorem over : Rows.scanSpacesRow.holds Try.pinned (OpenSpec.ofChange Rows.scanSpacesSpec) :=
  OpenClaim.holds_of_wide 9 Try.f9 rfl rfl rfl rfl rfl rfl rfl ⟨rfl, rfl, rfl, rfl, rfl⟩ rfl rfl rfl rfl rfl named Try.func9 closed inst wrap
    (fun os started H enc _ => lifted os started H enc)
theorem scanSpaces_proved : Rows.ScanSpacesSaid := over
#print axioms scanSpaces_proved
end Go.Proofs.Ytdonomneofdhfaa
