/- Generic theorems, sixth part: a new variable at any time while a drawn region reads. -/
import Derived.Test.YtdonomneofdhfaaGZ
namespace Go.GV
open Go.RowKit

section any
variable {ro : Option Nat} {P : Program} {ops : Array Oper} {md : Region.Mode} {Y : Oper → Value → Act → Prop}

/-- what holds of an operation hangs on what it looks at alone -/
def Looks (ops : Array Oper) (Y : Oper → Value → Act → Prop) : Prop :=
  ∀ o v a a', execOp a'.eval o = execOp a.eval o → Region.wanted o (yielded ops a'.tmps) = Region.wanted o (yielded ops a.tmps) → Y o v a → Y o v a'

def opY (ops : Array Oper) (Y : Oper → Value → Act → Prop) (i : Nat) (K : Act → Prop) (a : Act) : Prop :=
  match ops[i]? with
  | none => K a
  | some o => ∃ v, Y o v a ∧ K (a.put o.dst v)

theorem opY_mono {i : Nat} {a : Act} {K K' : Act → Prop} (h : ∀ a, K a → K' a) (hh : opY ops Y i K a) : opY ops Y i K' a := by
  unfold opY at *
  split
  · exact h _ (by simpa [*] using hh)
  · rename_i o ho
    simp only [ho] at hh
    obtain ⟨v, h1, h2⟩ := hh
    exact ⟨v, h1, h _ h2⟩

theorem opY_of {i : Nat} {o : Oper} {v : Value} {a : Act} (hi : ops[i]? = some o) (hy : Y o v a) {K : Act → Prop} (h : K (a.put o.dst v)) : opY ops Y i K a := by
  unfold opY
  simp only [hi]
  exact ⟨v, hy, h⟩

theorem opY_put (hY : Looks ops Y) {j : Nat} {oi oj : Oper} {v : Value} (hj : ops[j]? = some oj) (hap : oi.apart ops oj = true)
    (hsi : ∀ cs b, oi.op ≠ .select cs b) (hsj : ∀ cs b, oj.op ≠ .select cs b) {K : Act → Prop} {a : Act}
    (hy : Y oi v a) (h : opY ops Y j K (a.put oi.dst v)) :
    opY ops Y j (fun a' => Y oi v a' ∧ K (a'.put oi.dst v)) a := by
  obtain ⟨h1, h2, h3⟩ := Oper.apart_spec hap
  unfold opY at *
  simp only [hj] at *
  obtain ⟨x, hx, hK⟩ := h
  refine ⟨x, hY _ _ _ _ (execOp_put oj hsj a oi.dst v h1).symm (wanted_put oj a oi.dst v h1).symm hx, ?_, ?_⟩
  · exact hY _ _ _ _ (execOp_put oi hsi a oj.dst x h3) (wanted_put oi a oj.dst x h3) hy
  · rw [← Act.put_comm a v x h2]; exact hK

/-- the other way: what was done without a temporary is done with it -/
theorem opY_put' (hY : Looks ops Y) {j : Nat} {oi oj : Oper} {v : Value} (hj : ops[j]? = some oj) (hap : oi.apart ops oj = true)
    (hsj : ∀ cs b, oj.op ≠ .select cs b) {K K' : Act → Prop} {a : Act} (hK : ∀ a, K a → K' (a.put oi.dst v)) (h : opY ops Y j K a) : opY ops Y j K' (a.put oi.dst v) := by
  obtain ⟨h1, h2, h3⟩ := Oper.apart_spec hap
  unfold opY at *
  simp only [hj] at *
  obtain ⟨x, hx, h4⟩ := h
  refine ⟨x, hY _ _ _ _ (execOp_put oj hsj a oi.dst v h1) (wanted_put oj a oi.dst v h1) hx, ?_⟩
  rw [Act.put_comm a v x h2]
  exact hK _ h4

def anyY (md : Region.Mode) (ops : Array Oper) (Y : Oper → Value → Act → Prop) (Q : Act → Prop) : Nat → Array Bool → Act → Prop
  | 0, _, a => Q a
  | k + 1, listed, a => ∀ i ∈ Region.ready md ops listed, opY ops Y i (anyY md ops Y Q k (listed.setIfInBounds i true)) a

theorem anyY_first (hY : Looks ops Y) {target : Array Bool} {Q : Act → Prop} {i : Nat} {oi : Oper} {v : Value} (hi : ops[i]? = some oi) (hsel : ∀ (j : Nat) (o : Oper) cs b, ops[j]? = some o → o.op ≠ .select cs b) :
    ∀ (k : Nat) (listed : Array Bool) (a : Act),
      (∀ j oj, ops[j]? = some oj → j ≠ i → listed.getD j true = false → (∀ e ∈ oj.after, Region.binds md e = true → e.on ≠ i) → oi.apart ops oj = true) →
      i ∈ Region.ready md ops listed → phaseB md ops target (k + 1) listed = true → Y oi v a →
      anyY md ops Y Q k (listed.setIfInBounds i true) (a.put oi.dst v) → anyY md ops Y Q (k + 1) listed a := by
  intro k
  induction k with
  | zero =>
    intro listed a _ hr hb hy H j hj
    by_cases hji : j = i
    · subst hji; exact opY_of hi hy H
    · simp only [phaseB, Bool.and_eq_true, List.all_eq_true, decide_eq_true_eq] at hb
      have e1 := hb.2 i hr
      have e2 := hb.2 j hj
      have h1 := (mem_ready.1 hj).1
      have h2 : (listed.setIfInBounds i true).getD j true = false := by rw [getD_set_ne true (Ne.symm hji)]; exact h1
      rw [e1, ← e2, set_getD_self] at h2
      cases h2
  | succ k ih =>
    intro listed a hfree hr hb hy H j hj
    by_cases hji : j = i
    · subst hji; exact opY_of hi hy H
    · have h1 := H j (ready_mono hj hji)
      obtain ⟨hjun, oj, hoj, hall⟩ := mem_ready.1 hj
      have hnot : ∀ e ∈ oj.after, Region.binds md e = true → e.on ≠ i := fun e he hb heq => by
        have h1 := hall e he hb
        have h0 := (mem_ready.1 hr).1
        rw [heq] at h1
        rcases Nat.lt_or_ge i listed.size with h' | h'
        · simp [h'] at h0 h1; rw [h0] at h1; cases h1
        · simp [Array.getElem?_eq_none h'] at h1
      have h2 := opY_put hY hoj (hfree j oj hoj hji hjun hnot) (fun cs b => hsel i oi cs b hi) (fun cs b => hsel j oj cs b hoj) hy h1
      have hfree' : ∀ k ok, ops[k]? = some ok → k ≠ i → (listed.setIfInBounds j true).getD k true = false →
          (∀ e ∈ ok.after, Region.binds md e = true → e.on ≠ i) → oi.apart ops ok = true := fun k ok hk hki hun hno => by
        refine hfree k ok hk hki ?_ hno
        by_cases hjk : j = k
        · subst hjk; exact hjun
        · rw [getD_set_ne true hjk] at hun; exact hun
      have hb' : phaseB md ops target (k + 1) (listed.setIfInBounds j true) = true := by
        rw [phaseB, Bool.and_eq_true, List.all_eq_true] at hb
        exact hb.2 j hj
      refine opY_mono (fun a' h3 => ih (listed.setIfInBounds j true) a' hfree' (ready_mono hr (Ne.symm hji)) hb' h3.1 ?_) h2
      rw [Array.setIfInBounds_comm _ _ hji]
      exact h3.2

def stillY (Y : Oper → Value → Act → Prop) (Q : Act → Prop) : List Oper → Act → Prop
  | [], a => Q a
  | o :: r, a => ∃ v, Y o v a ∧ stillY Y Q r (a.put o.dst v)

theorem anyY_lex (hY : Looks ops Y) {Q : Act → Prop} {target : Array Bool} (hs : Region.noSelect ops = true) :
    ∀ (l : List Nat) (listed : Array Bool) (a : Act), hasAll ops.toList l = true → lexL md ops l listed = true → phaseB md ops target l.length listed = true →
      stillY Y Q (opsAt ops.toList l) a → anyY md ops Y Q l.length listed a
  | [], _, _, _, _, _, h => h
  | i :: l, listed, a, ha, hl, hb, h => by
    simp only [hasAll, Bool.and_eq_true] at ha
    simp only [lexL, Bool.and_eq_true] at hl
    obtain ⟨o, ho⟩ := Option.isSome_iff_exists.1 ha.1
    simp only [opsAt, ho] at h
    obtain ⟨v, hy, hK⟩ := h
    have ho' : ops[i]? = some o := by simpa using ho
    have hr : i ∈ Region.ready md ops listed := by simpa using hl.1.1
    have hb2 : phaseB md ops target l.length (listed.setIfInBounds i true) = true := by
      have hb1 := hb
      simp only [List.length_cons, phaseB, Bool.and_eq_true, List.all_eq_true] at hb1
      exact hb1.2 i hr
    exact anyY_first hY ho' (Region.noSelect_spec hs) l.length listed a (Region.free_spec ho' hl.1.2) hr hb hy
      (anyY_lex hY hs l _ _ ha.2 hl.2 hb2 hK)

def phaseA (md : Region.Mode) (ops : Array Oper) (o0 : Oper) (target : Array Bool) : Nat → Array Bool → Bool
  | 0, listed => decide (listed = target)
  | k + 1, listed => !(Region.ready md ops listed).isEmpty && (Region.ready md ops listed).all fun i => (match ops[i]? with
    | some oj => o0.apart ops oj
    | none => true) && phaseA md ops o0 target k (listed.setIfInBounds i true)

theorem phaseA_B {o0 : Oper} {target : Array Bool} : ∀ (k : Nat) (listed : Array Bool), phaseA md ops o0 target k listed = true → phaseB md ops target k listed = true
  | 0, _, h => h
  | k + 1, listed, h => by
    simp only [phaseA, Bool.and_eq_true, List.all_eq_true] at h
    simp only [phaseB, Bool.and_eq_true, List.all_eq_true]
    exact ⟨h.1, fun i hi => phaseA_B k _ (h.2 i hi).2⟩

/-- a temporary more does nothing to a phase that does not look at it -/
theorem anyY_put (hY : Looks ops Y) {Q : Act → Prop} {target : Array Bool} {o0 : Oper} {v : Value} (hsel : ∀ (j : Nat) (o : Oper) cs b, ops[j]? = some o → o.op ≠ .select cs b) :
    ∀ (k : Nat) (listed : Array Bool) (a : Act), phaseA md ops o0 target k listed = true → anyY md ops Y Q k listed a → anyY md ops Y (fun a' => ∃ a2, Q a2 ∧ a' = a2.put o0.dst v) k listed (a.put o0.dst v)
  | 0, _, a, _, h => ⟨a, h, rfl⟩
  | k + 1, listed, a, hb, h => by
    intro j hj
    simp only [phaseA, Bool.and_eq_true, List.all_eq_true] at hb
    have hb1 := hb.2 j hj
    have h1 := h j hj
    obtain ⟨_, oj, hoj, _⟩ := mem_ready.1 hj
    rw [hoj] at hb1
    exact opY_put' hY hoj hb1.1 (fun cs b => hsel j oj cs b hoj) (fun a' h2 => anyY_put hY hsel k _ a' hb1.2 h2) h1

theorem opI_of_opY {Inv : World → Prop} (hYI : ∀ o v a, Y o v a → YI ro P ops Inv o v a) {i : Nat} {K : Act → Prop} {a : Act} (h : opY ops Y i K a) : opI ro P ops Inv i K a := by
  unfold opY at h
  unfold opI
  split at h
  · rename_i ho; simp only [ho]; exact h
  · rename_i o ho
    obtain ⟨v, h1, h2⟩ := h
    simp only [ho]
    exact ⟨v, hYI _ _ _ h1, h2⟩

theorem wpAny_of_anyY {Inv : World → Prop} (hYI : ∀ o v a, Y o v a → YI ro P ops Inv o v a) {target : Array Bool} {fuel : Nat} {Q : Act → Prop} {Q' : Exit → Act → World → Prop} (hQ : ∀ a w, Q a → Inv w → wpAnyIn (FR ro) 0 P md ops Q' fuel target a w) :
    ∀ (k : Nat) (listed : Array Bool) (a : Act) (w : World), Inv w → phaseB md ops target k listed = true → anyY md ops Y Q k listed a → wpAnyIn (FR ro) 0 P md ops Q' (k + fuel) listed a w
  | 0, listed, a, w, hw, hb, h => by
    have : listed = target := by simpa [phaseB] using hb
    subst this
    rw [Nat.zero_add]
    exact hQ _ _ h hw
  | k + 1, listed, a, w, hw, hb, h => by
    simp only [phaseB, Bool.and_eq_true, List.all_eq_true, Bool.not_eq_true', List.isEmpty_eq_false_iff] at hb
    rw [show k + 1 + fuel = (k + fuel) + 1 by omega]
    refine ⟨fun h0 => absurd h0 hb.1, fun i hi => wpOpIn_of_opI (Inv := Inv) (fun a' w' hk hi' => ?_) hw (opI_of_opY hYI (h i hi))⟩
    exact wpAny_of_anyY hYI hQ k _ a' w' hi' (hb.2 i hi) hk

/-- an operation that makes something new, at any time in a phase of reads -/
theorem wpAny_alloc (hY : Looks ops Y) {Inv : World → Prop} {Inv' : Nat → World → Prop} {val : Nat → Value} {okb : Nat → Prop} {t1 t2 : Array Bool} {fuel : Nat} {Q : Act → Prop} {Q' : Exit → Act → World → Prop} {i0 : Nat} {o0 : Oper}
    (hsel : ∀ (j : Nat) (o : Oper) cs b, ops[j]? = some o → o.op ≠ .select cs b)
    (hYI : ∀ o v a, Y o v a → YI ro P ops Inv o v a)
    (hA : ∀ (a : Act) (w : World) (K : Act → World → Prop), Inv w → (∀ p w', okb p → Inv' p w' → (∀ o v a, Y o v a → YI ro P ops (Inv' p) o v a) → K (a.put o0.dst (val p)) w') → wpOpIn (FR ro) 0 P ops Q' i0 K a w)
    (hQ2 : ∀ a w, Q a → Inv w → wpAnyIn (FR ro) 0 P md ops Q' (1 + fuel) t2 a w)
    (hQ : ∀ p a w, okb p → Q a → Inv' p w → wpAnyIn (FR ro) 0 P md ops Q' fuel t1 (a.put o0.dst (val p)) w) :
    ∀ (k : Nat) (listed : Array Bool) (a : Act) (w : World), Inv w → i0 ∈ Region.ready md ops listed → phaseX md ops i0 t2 k listed = true → phaseA md ops o0 t1 k (listed.setIfInBounds i0 true) = true →
      anyY md ops Y Q k (listed.setIfInBounds i0 true) a → wpAnyIn (FR ro) 0 P md ops Q' (k + (1 + fuel)) listed a w := by
  intro k
  induction k with
  | zero =>
    intro listed a w hw hr hx hb H
    have e2 : listed = t2 := by simpa [phaseX] using hx
    subst e2
    rw [Nat.zero_add]
    exact hQ2 a w H hw
  | succ k ih =>
    intro listed a w hw hr hx hb H
    rw [show k + 1 + (1 + fuel) = (k + (1 + fuel)) + 1 by omega]
    refine ⟨fun h => (by rw [h] at hr; cases hr), fun j hj => ?_⟩
    by_cases hji : j = i0
    · subst hji
      refine hA a w _ hw fun p w' hok hi' hYp => ?_
      have := wpAny_of_anyY (fuel := fuel) (Inv := Inv' p) hYp (target := t1) (Q := fun a' => ∃ a2, Q a2 ∧ a' = a2.put o0.dst (val p)) (Q' := Q') (md := md) (fun a' w2 ⟨a2, h1, h2⟩ h3 => by rw [h2]; exact hQ p a2 w2 hok h1 h3)
        (k + 1) _ (a.put o0.dst (val p)) w' hi' (phaseA_B _ _ hb) (anyY_put hY hsel _ _ _ hb H)
      rw [show k + (1 + fuel) = k + 1 + fuel by omega]
      exact this
    · have h1 := H j (ready_mono hj hji)
      have hx' : phaseX md ops i0 t2 k (listed.setIfInBounds j true) = true := by
        rw [phaseX, List.all_eq_true] at hx
        have := hx j hj
        rw [Bool.or_eq_true] at this
        rcases this with h | h
        · exact absurd (Nat.eq_of_beq_eq_true h) hji
        · exact h
      have hb' : phaseA md ops o0 t1 k ((listed.setIfInBounds j true).setIfInBounds i0 true) = true := by
        simp only [phaseA, Bool.and_eq_true, List.all_eq_true] at hb
        have := (hb.2 j (ready_mono hj hji)).2
        rwa [Array.setIfInBounds_comm _ _ hji]
      refine wpOpIn_of_opI (Inv := Inv) (fun a' w' hk hi' => ?_) hw (opI_of_opY hYI h1)
      refine ih (listed.setIfInBounds j true) a' w' hi' (ready_mono hr (Ne.symm hji)) hx' hb' ?_
      rw [Array.setIfInBounds_comm _ _ hji]
      exact hk
end any

/-! ### What is known of memory may grow meanwhile -/
abbrev YS (C : Cx) (all : Array Oper) (E : Env) (ow : Own) (nx : Nat) (u : Im) (df : List Deferred) : Oper → Value → Act → Prop :=
  fun o v a => ∀ u', u.le u' → YI C.ro C.P all (fun w => ∃ f, Sat E ow nx u' df w f) o v a

theorem looks_YS {C : Cx} {all : Array Oper} {E : Env} {ow : Own} {nx : Nat} {u : Im} {df : List Deferred} : Looks all (YS C all E ow nx u df) :=
  fun _ _ _ _ he hw h u' hu => (h u' hu).of_same he hw

def XS (C : Cx) (all : List Oper) (todo : List Oper) (Q : St → Prop) (st : St) (u : Im) : Prop :=
  ∀ E a w0, Ok C E st u a w0 → stillY (YS C all.toArray E st.ow st.nx u a.defers)
    (fun a' => a'.defers = a.defers ∧ ∃ st', st'.ow = st.ow ∧ st'.nx = st.nx ∧ Agr C.N E st' a'.tmps ∧ Q st') todo a

theorem xs_step {C : Cx} {all : List Oper} {o : Oper} {r : List Oper} {Q : St → Prop} {st : St} {u : Im} {g : Gd} {d : Nat} {s : SV}
    (hg : guardOf all st o = some g) (hd : o.dst = some d) (hf : fresh C.N st d g = true) (hnd : ∀ c, o.op ≠ .defer c)
    (hlt0 : ∀ E a w, Ok C E st u a w → gs a.tmps g → s.lt E st.nx)
    (hrun : ∀ u', u.le u' → ∀ E a w, Ok C E st u' a w → gs a.tmps g → upI C.ro C.P (fun w => ∃ f, Sat E st.ow st.nx u' a.defers w f) (s.den E) ((execOp a.eval o).run C.P w))
    (K : XS C all r Q (st.put d g s) u) : XS C all (o :: r) Q st u := by
  intro E a w0 hok
  have how : (st.put d g s).ow = st.ow := by cases g <;> rfl
  have hnx : (st.put d g s).nx = st.nx := by cases g <;> rfl
  have hgd := guard_sound (all := all.toArray) hok.agr (by simpa using hg)
  have go : ∀ x, (gs a.tmps g → x = s.den E) → (¬ gs a.tmps g → x = undef) → YS C all.toArray E st.ow st.nx u a.defers o x a →
      stillY (YS C all.toArray E st.ow st.nx u a.defers) (fun a' => a'.defers = a.defers ∧ ∃ st', st'.ow = st.ow ∧ st'.nx = st.nx ∧ Agr C.N E st' a'.tmps ∧ Q st') (o :: r) a := by
    intro x hx hnx' hy
    refine ⟨x, hy, ?_⟩
    have hput : Agr C.N E (st.put d g s) (a.tmps.setIfInBounds d x) :=
      hok.agr.put hf (hlt0 E a w0 hok) hx hnx' (fun hn => by subst hn; exact hx (fun y hy => by cases hy))
    have := K E (a.put o.dst x) w0 ⟨by rw [hd]; exact hput, by rw [how, hnx, hd]; exact hok.sat⟩
    rw [how, hnx, hd] at this
    rw [hd]
    exact this
  by_cases hw : Region.wanted o (yielded all.toArray a.tmps) = true
  · have hgs := hgd.1 hw
    exact go _ (fun _ => rfl) (fun hn => absurd hgs hn) (fun u' hu => .inl ⟨hw, hnd, fun w hi => hrun u' hu E a w ⟨hok.agr, hi⟩ hgs⟩)
  · have hgs := hgd.2 (by simpa using hw)
    exact go undef (fun hy => absurd hy hgs) (fun _ => rfl) (fun _ _ => .inr ⟨by simpa using hw, rfl⟩)

theorem xs_sound {C : Cx} {T : TT} (hT : TOk C.P T) {all : List Oper} {Q : St → Prop} {u : Im} {S : List Oper → St → Prop}
    (hS : ∀ l st, S l st → XS C all l Q st u) :
    ∀ (todo : List Oper) (st : St), xd T C.N all Q S todo st → XS C all todo Q st u := by
  intro todo
  induction todo with
  | nil =>
    intro st h
    unfold xd at h
    split at h
    · rename_i hg
      intro E a w hok
      exact ⟨rfl, st.shut, rfl, rfl, hok.agr.shut hg, h⟩
    · exact hS _ _ h
  | cons o r ih =>
    intro st h
    unfold xd at h
    split at h
    · exact hS _ _ h
    · rename_i g hg
      split at h
      · rename_i s side he
        split at h
        · rename_i d hd
          split at h
          · rename_i hf
            rw [St.putK_eq] at h
            have main : ∀ u' E a w, Ok C E st u' a w → gs a.tmps g → (execOp a.eval o).run C.P w = .ok (.value (s.den E)) w ∧ s.lt E st.nx := fun u' E a w hok hgs =>
              eff_sound hT hok hgs he ((sides_split h).2 (gprops_sound hok.agr hgs (fun _ _ _ => trivial)))
            refine xs_step hg hd hf (notDefer_of_val he) (fun E a w hok hgs => (main u E a w hok hgs).2) (fun u' _ E a w hok hgs => ?_) (ih _ (sides_split h).1)
            rw [(main u' E a w hok hgs).1]
            exact ⟨rfl, hok.sat⟩
          · exact hS _ _ h
        · exact hS _ _ h
      · exact hS _ _ h

theorem xs_go {T : TT} {C : Cx} (hT : TOk C.P T) {all l : List Oper} {Q : St → Prop} {st : St} {u : Im}
    (h : st.force fun st => xd T C.N all Q (fun l st => XS C all l Q st u) l st) : XS C all l Q st u :=
  xs_sound hT (fun _ _ h => h) _ _ (by rw [St.force_eq] at h; exact h)

/-- a call in such a region, guarded or not, whose answer is v -/
theorem xs_call0 {C : Cx} {all : List Oper} {o : Oper} {r : List Oper} {Q : St → Prop} {st : St} {u : Im} {c : Call} (v : Value) {g : Gd} {f d : Nat}
    (ho : o.op = .call c) (hg : guardOf all st o = some g) (hd : o.dst = some d)
    (hc : callee st c = some f) (hfn : Fn1 C.P f) {ss : List SV} (hargs : argsOf st g c.args.toList = some ss) (hfr : fresh C.N st d g = true)
    (H : allL (gprops st g) → ∀ u', u.le u' → ∀ E w F, Sat E st.ow st.nx u' [] w F → Calls C.P f (ss.map (SV.den E)).toArray w (PureP w fun x _ => x = v))
    (K : XS C all r Q (st.put d g (.v v)) u) : XS C all (o :: r) Q st u := by
  refine xs_step (s := .v v) hg hd hfr (fun c' hc' => by rw [ho] at hc'; cases hc') (fun _ _ _ _ _ => trivial) (fun u' hu E a w hok hgs => ?_) K
  rw [call_runG ho hc hfn hargs hok hgs]
  obtain ⟨fF, hsat⟩ := hok.sat
  refine (calls_in (H (allL_of (gprops_sound hok.agr hgs (fun _ _ _ => trivial))) u' hu E w fF hsat.unmarked)).mono ?_
  rintro e w' ⟨x, rfl, hbel, rfl⟩
  exact ⟨rfl, fF, hsat.keep hbel⟩

def Rs.tame : Rs → Bool
  | .box _ _ => true
  | .row _ _ => true
  | .sl _ => true
  | .emp => true
  | .gen _ => false

/-- what was known of a block becomes a variable of ours -/
theorem Sat.melt {E : Env} {ow : Own} {nx : Nat} {u : Im} {df : List Deferred} {w0 w : World} {f0 f : Nat → Nat → Prop} {p t : Nat} {cs : List SV}
    (h0 : Sat E ow nx u df w0 f0) (hp : u.h p = none) (htame : ∀ k r, look ow k = some r → r.tame = true) (hlt : ∀ x ∈ cs, x.lt E nx)
    (h : Sat E ow nx { u with h := fun b => if b = p then some (.cells (cs.map (SV.den E)).toArray t (0, 0)) else u.h b } df w f) :
    Sat (upd E nx (.pointer (some ⟨p, 0, none⟩))) ((nx, .box t cs) :: ow) (nx + 1) u df w (upd f nx (fun b => b = p)) := by
  have hE : ∀ k, k < nx → upd E nx (.pointer (some ⟨p, 0, none⟩)) k = E k := fun k hk => upd_other _ _ (by omega)
  have hpp : w.heap[p]? = some (.cells (cs.map (SV.den E)).toArray t (0, 0)) := h.imm.h p _ (by simp)
  have hfp : ∀ k, ¬ f k p := fun k hk => by have := h.off k p hk; simp at this
  have hlim : Imm u w := ⟨fun b o hb => h.imm.h b o (by
    show (if b = p then _ else u.h b) = _
    rw [if_neg (fun e => by rw [e, hp] at hb; cases hb)]; exact hb), h.imm.os, h.imm.tape, h.imm.output, h.imm.lo⟩
  have hoff : ∀ k b, f k b → u.h b = none := fun k b hk => by
    have := h.off k b hk
    have hne : b ≠ p := fun e => hfp k (e ▸ hk)
    simpa [hne] using this
  have hs : Sat E ow nx u df w f := by
    refine ⟨fun k r hk => ?_, h.non, h.apart, hoff, h.lt, hlim, ?_⟩
    · have h1 := h.holds k r hk
      have h2 := htame k r hk
      cases r with
      | box t cs => exact h1
      | row e D => exact h1
      | sl D => exact ⟨(h0.holds k _ hk).1, h1.2⟩
      | gen A => cases h2
      | emp => exact h1
    · obtain ⟨ds, e1, e2, e3⟩ := h.marks
      refine ⟨ds, e1, e2, fun d hd => ?_⟩
      obtain ⟨g1, g2, g3⟩ := e3 d hd
      refine ⟨g1, ?_, g3⟩
      have hne : d ≠ p := fun e => by rw [e] at g2; simp at g2
      simpa [hne] using g2
  refine ⟨fun k r hk => ?_, fun k hk b hb => ?_, fun k k' b hne h1 h2 => ?_, fun k b hb => ?_, fun k r hk => ?_, hlim, ?_⟩
  · rw [look_cons] at hk
    split at hk
    · rename_i e; subst e; cases hk
      refine ⟨p, upd_same _ _ _, fun x => by rw [upd_same], ?_⟩
      rw [hpp]
      congr 3
      exact List.map_congr_left fun s hs => (SV.den_congr hE (hlt s hs)).symm
    · rename_i e
      rw [upd_other _ _ (Ne.symm e)]
      obtain ⟨g1, g2⟩ := hs.lt k r hk
      exact Rs.holds_congr hE g1 g2 (hs.holds k r hk)
  · rw [look_cons] at hk
    split at hk
    · cases hk
    · rename_i e
      rw [upd_other _ _ (Ne.symm e)] at hb
      exact hs.non k hk b hb
  · by_cases e : k = nx
    · subst e
      rw [upd_same] at h1
      rw [upd_other _ _ (Ne.symm hne)] at h2
      exact hfp k' (h1 ▸ h2)
    · rw [upd_other _ _ e] at h1
      by_cases e' : k' = nx
      · subst e'
        rw [upd_same] at h2
        exact hfp k (h2 ▸ h1)
      · rw [upd_other _ _ e'] at h2
        exact hs.apart k k' b hne h1 h2
  · by_cases e : k = nx
    · subst e; rw [upd_same] at hb; rw [hb]; exact hp
    · rw [upd_other _ _ e] at hb; exact hs.off k b hb
  · rw [look_cons] at hk
    split at hk
    · rename_i e; subst e; cases hk
      exact ⟨Nat.lt_succ_self _, fun s hs => SV.lt_mono hE (Nat.le_succ _) (hlt s hs)⟩
    · obtain ⟨g1, g2⟩ := hs.lt k r hk
      exact ⟨by omega, Rs.lt_mono hE (Nat.le_succ _) g2⟩
  · obtain ⟨ds, e1, e2, e3⟩ := h.marks
    refine ⟨ds, e1, e2, fun d hd => ?_⟩
    obtain ⟨g1, g2, g3⟩ := e3 d hd
    have hne : d ≠ p := fun e => by rw [e] at g2; simp at g2
    refine ⟨g1, by simpa [hne] using g2, fun k hk => ?_⟩
    by_cases e : k = nx
    · subst e; rw [upd_same] at hk; exact hne hk
    · rw [upd_other _ _ e] at hk; exact g3 k hk

abbrev Im.with (u : Im) (p : Nat) (o : Obj) : Im := { u with h := fun b => if b = p then some o else u.h b }

theorem Im.le_with {u : Im} {p : Nat} {o : Obj} (hp : u.h p = none) : u.le (u.with p o) :=
  ⟨fun b x hb => by
    show (if b = p then _ else u.h b) = _
    rw [if_neg (fun e => by rw [e, hp] at hb; cases hb)]; exact hb, rfl, rfl, rfl, rfl⟩

theorem Sat.withNew {E : Env} {ow : Own} {nx : Nat} {u : Im} {df : List Deferred} {w : World} {f : Nat → Nat → Prop} (h : Sat E ow nx u df w f) (x : Obj) :
    u.h w.heap.size = none ∧ Sat E ow nx (u.with w.heap.size x) df (w.alloc x) f := by
  have hn : u.h w.heap.size = none := by
    cases ho : u.h w.heap.size with
    | none => rfl
    | some y => have := (Array.getElem?_eq_some_iff.1 (h.imm.h _ y ho)).1; omega
  have hz : (w.alloc x).heap.size = w.heap.size + 1 := World.size_alloc _ _
  have hold : ∀ b, b < w.heap.size → (w.alloc x).heap[b]? = w.heap[b]? := fun b hb => Below.heap_alloc _ _ _ hb
  refine ⟨hn, h.step (fun _ => False) (fun _ _ => rfl) (Nat.le_refl _) (Im.le_with hn) ?_ (by omega) (fun b hb _ => hold b hb) (fun _ _ => ⟨rfl, fun _ => Iff.rfl⟩) (fun _ hk => hk.elim) (fun _ _ _ hk => hk.elim) (fun b o ho => ?_)⟩
  · refine ⟨fun b o ho => ?_, h.imm.os, h.imm.tape, h.imm.output, by have := h.imm.lo; show u.lo ≤ _; omega⟩
    have ho : (if b = w.heap.size then some x else u.h b) = some o := ho
    split at ho
    · rename_i e; cases ho; rw [e]; exact heap_alloc_new w x
    · rw [hold b (Array.getElem?_eq_some_iff.1 (h.imm.h b o ho)).1]; exact h.imm.h b o ho
  · have ho : (if b = w.heap.size then some x else u.h b) = some o := ho
    split at ho
    · rename_i e; right; omega
    · exact .inl ho

/-- a new variable of ours, at any time while the region reads -/
theorem xa_alloc {T : TT} {C : Cx} (hT : TOk C.P T) {ops : Array Oper} {Q : Post} {st : St} {u : Im} {fuel n d0 t : Nat} {ti : TI} {listed : Array Bool} {o0 : Oper} (i0 : Nat) (l : List Nat) (hn : n = l.length + (1 + fuel))
    (ho : ops.toList[i0]? = some o0) (hop : o0.op = .alloc t) (hgd : o0.guard = none) (hd : o0.dst = some d0) (hti : look T t = some ti)
    (hsel : Region.noSelect ops = true) (ha : hasAll ops.toList l = true) (hl : lexL .any ops l (listed.setIfInBounds i0 true) = true)
    (hr : (Region.ready .any ops listed).contains i0 = true)
    (hb : phaseA .any ops o0 (marks listed (i0 :: l)) l.length (listed.setIfInBounds i0 true) = true) (hx : phaseX .any ops i0 (marks listed l) l.length listed = true)
    (htame : st.ow.all (fun x => x.2.tame) = true)
    (h : XS C ops.toList (opsAt ops.toList l) (fun st' => fresh C.N st' d0 [] = true ∧ XA C ops fuel (marks listed (i0 :: l)) Q ⟨(d0, .p st.nx 0) :: st'.kn, st'.gk, (st.nx, .box t (ti.zero.map .v)) :: st.ow, st.nx + 1⟩ u ∧ XA C ops (1 + fuel) (marks listed l) Q st' u) st u) : XA C ops n listed Q st u := by
  subst hn
  intro E a w hok
  obtain ⟨f0, hsat0⟩ := hok.sat
  unfold XS at h
  have h1 := h E a w hok
  simp only [Array.toArray_toList] at h1
  have hti' := hT _ _ hti
  have ho' : ops[i0]? = some o0 := by simpa using ho
  have hcs : ∀ x ∈ (ti.zero.map SV.v), x.lt E st.nx := fun x hx => by
    simp only [List.mem_map] at hx; obtain ⟨y, _, rfl⟩ := hx; trivial
  have htm : ∀ k r, look st.ow k = some r → r.tame = true := fun k r hk => by
    have := List.all_eq_true.1 htame (k, r)
    refine this ?_
    clear this h h1 hok hsat0 htame
    generalize st.ow = ow at hk
    induction ow with
    | nil => cases hk
    | cons y ow ih =>
      obtain ⟨k', r'⟩ := y
      rw [look_cons] at hk
      split at hk
      · rename_i e; subst e; cases hk; exact List.mem_cons_self ..
      · exact List.mem_cons_of_mem _ (ih hk)
  let ob : Obj := .cells ((ti.zero.map SV.v).map (SV.den E)).toArray t (0, 0)
  refine wpAny_alloc looks_YS (Y := YS C ops E st.ow st.nx u a.defers) (Inv := fun w => ∃ f, Sat E st.ow st.nx u a.defers w f) (t1 := marks listed (i0 :: l)) (t2 := marks listed l)
    (Inv' := fun b w' => ∃ f, Sat E st.ow st.nx (u.with b ob) a.defers w' f) (val := fun b => .pointer (some ⟨b, 0, none⟩)) (okb := fun b => u.h b = none)
    (Region.noSelect_spec hsel) (fun o v a h => h u (Im.le.refl u)) ?_ ?_ ?_ l.length listed a w ⟨f0, hsat0⟩ (by simpa using hr) hx hb
    (anyY_lex looks_YS hsel l _ _ ha hl (phaseA_B _ _ hb) h1)
  · intro a1 w1 K hw1 hK
    obtain ⟨f1, hs1⟩ := hw1
    obtain ⟨e1, e2⟩ := hs1.withNew ob
    have hrun : (execOp a1.eval o0).run C.P w1 = .ok (.value (.pointer (some ⟨w1.heap.size, 0, none⟩))) (w1.alloc ob) := by
      obtain ⟨dst, op, ty, pos, after, guard⟩ := o0
      simp only at hop
      subst hop
      simp [execOp, Instr.alloc, run_zeroValue w1 hti', run_newVar, ob, TI.zv_cells hti', Function.comp_def, SV.den]
    have hw : Region.wanted o0 (yielded ops a1.tmps) = true := by
      unfold Region.wanted; rw [hgd]
    have key : wpOpIn (FR C.ro) 0 C.P ops (SemQ C E st.nx u Q) i0 K a1 w1 := by
      unfold wpOpIn
      simp only [ho']
      rw [if_pos hw]
      refine ⟨fun _ _ => trivial, ?_⟩
      rw [semAt_eq _ _ _ (fun c hc => by rw [hop] at hc; cases hc), hrun]
      exact hK w1.heap.size _ e1 ⟨f1, e2⟩ (fun o v a h => h _ (Im.le_with e1))
    exact key
  · rintro a1 w1 ⟨h2, st', h3, h4, h5, _, _, h7⟩ hi
    have := h7 E a1 w1 ⟨h5, by rw [h3, h4, h2]; exact hi⟩
    rwa [h4] at this
  · rintro b a1 w1 hub ⟨h2, st', h3, h4, h5, h6, h7, _⟩ ⟨f1, hs1⟩
    have hs2 := hsat0.melt hub htm hcs hs1
    have hE : ∀ j, j < st.nx → upd E st.nx (.pointer (some ⟨b, 0, none⟩)) j = E j := fun j hj => upd_other _ _ (by omega)
    have hg := h5.grow (E' := upd E st.nx (.pointer (some ⟨b, 0, none⟩))) (ow := (st.nx, .box t (ti.zero.map .v)) :: st.ow) (nx := st.nx + 1) (by rw [h4]; exact hE) (by rw [h4]; exact Nat.le_succ _)
    have hput := hg.put (d := d0) (g := []) (s := .p st.nx 0) (x := .pointer (some ⟨b, 0, none⟩)) h6 (fun _ => ⟨Nat.lt_succ_self _, _, upd_same _ _ _⟩) (fun _ => by simp [SV.den, ptrOf, upd_same]) (fun hn => absurd (fun x hx => (by cases hx)) hn)
      (fun _ => by simp [SV.den, ptrOf, upd_same])
    rw [hd]
    have := h7 (upd E st.nx (.pointer (some ⟨b, 0, none⟩))) (a1.put (some d0) (.pointer (some ⟨b, 0, none⟩))) w1 ⟨⟨hput.size, hput.kn, hput.gk, hput.klt, hput.glt⟩, _, by
      show Sat _ _ _ _ a1.defers _ _
      rw [h2]; exact hs2⟩
    exact wpAnyIn_post (fun e a w => SemQ.mono hE (Nat.le_succ _) (Im.le.refl u)) this
end Go.GV
