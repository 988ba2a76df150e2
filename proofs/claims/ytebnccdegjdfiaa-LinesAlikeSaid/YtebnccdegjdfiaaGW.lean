/- Generic theorems, second part: regions that write in an order that is drawn, and what else the walks need. -/
import Derived.Test.YtebnccdegjdfiaaGV
import Derived.SizedLaws
namespace Go.GV
open Go.RowKit

/-! ## Drawn regions that write -/
def pureOp : Op → Bool
  | .move _ => true
  | .assign _ => true
  | .binOp _ _ _ _ _ => true
  | .unOp _ _ _ => true
  | .extract _ _ => true
  | .field _ _ _ => true
  | .fieldAddr _ _ _ => true
  | _ => false

theorem eff_pure {C : Cx} {T : TT} {E : Env} {st : St} {a : Act} {g : Gd} (hT : TOk C.P T) {o : Oper} {s : SV} {side : List Prop}
    (hx : ∀ (x : Operand) z, opd st g x = some z → a.eval x = z.den E ∧ z.lt E st.nx) (hp : pureOp o.op = true)
    (he : eff T st g o.op = .val s side) (hs : allP side) (w : World) : (execOp a.eval o).run C.P w = .ok (.value (s.den E)) w ∧ s.lt E st.nx := by
  have hx1 : ∀ (x : Operand) z, opd st g x = some z → a.eval x = z.den E := fun x z h => (hx x z h).1
  obtain ⟨dst, op, ty, pos, after, guard⟩ := o
  simp only at he hp
  cases op <;> simp only [pureOp] at hp <;> try (cases hp; done)
  case move x =>
    simp only [eff] at he
    split at he
    · rename_i s' hx'
      cases he
      obtain ⟨h1, h2⟩ := hx _ _ hx'
      exact ⟨by simp [execOp, h1], h2⟩
    · cases he
  case assign x =>
    simp only [eff] at he
    split at he
    · rename_i s' hx'
      cases he
      obtain ⟨h1, h2⟩ := hx _ _ hx'
      exact ⟨by simp [execOp, h1], h2⟩
    · cases he
  case binOp op t x y t' =>
    simp only [eff] at he
    obtain ⟨h1, h2⟩ := bin_sound (w := w) hT (hx1 _) (hx1 _) he hs
    refine ⟨?_, h2 _⟩
    simp only [execOp]
    rw [Sem.run_bind, h1]; rfl
  case unOp op t x =>
    simp only [eff] at he
    obtain ⟨h1, h2⟩ := un_sound (C := C) (w := w) (hx1 _) he hs
    refine ⟨?_, h2 _⟩
    simp only [execOp]
    rw [Sem.run_bind, h1]; rfl
  case extract x i =>
    simp only [eff] at he
    obtain ⟨h1, h2⟩ := extract_sound (C := C) (st := st) (w := w) (hx _) he
    refine ⟨?_, h2⟩
    simp only [execOp]
    rw [Sem.run_bind, h1]; rfl
  case field t x f =>
    simp only [eff] at he
    obtain ⟨h1, h2⟩ := field_sound (w := w) hT (hx1 _) he
    refine ⟨?_, h2 _⟩
    simp only [execOp]
    rw [Sem.run_bind, h1]; rfl
  case fieldAddr t x f =>
    simp only [eff] at he
    obtain ⟨h1, h2⟩ := fieldAddr_sound (w := w) hT (hx _) he
    refine ⟨?_, h2⟩
    simp only [execOp]
    rw [Sem.run_bind, h1]; rfl

def marks (listed : Array Bool) : List Nat → Array Bool
  | [] => listed
  | i :: r => marks (listed.setIfInBounds i true) r

/-- each of these is ready in its turn, and free -/
def lexL (md : Region.Mode) (ops : Array Oper) : List Nat → Array Bool → Bool
  | [], _ => true
  | i :: r, listed => (Region.ready md ops listed).contains i && Region.free md ops listed i && lexL md ops r (listed.setIfInBounds i true)

def opsAt (ops : List Oper) : List Nat → List Oper
  | [] => []
  | i :: r => match ops[i]? with
    | some o => o :: opsAt ops r
    | none => []

def noDefer (ops : Array Oper) : Bool := ops.all fun o => match o.op with | .defer _ => false | _ => true
theorem noDefer_spec {ops : Array Oper} (h : noDefer ops = true) (j : Nat) (o : Oper) (ho : ops[j]? = some o) (c : Call) : o.op ≠ .defer c := by
  intro heq
  have := Array.all_eq_true_iff_forall_mem.1 h o (Array.mem_of_getElem? ho)
  simp [heq] at this

theorem op_put' {ro : Option Nat} {P : Program} {ops : Array Oper} {Q : Exit → Act → World → Prop} {j : Nat} {oi oj : Oper} {v : Value} (hj : ops[j]? = some oj) (hap : oi.apart ops oj = true)
    (hsi : ∀ cs b, oi.op ≠ .select cs b) (hsj : ∀ cs b, oj.op ≠ .select cs b) (hdj : ∀ c, oj.op ≠ .defer c)
    (hQ : ∀ c a w, Q (.panic c) (a.put oi.dst v) w → Q (.panic c) a w) {K : Act → World → Prop} {a : Act} {w : World}
    (hy : YW P ops oi v a) (h : wpOpIn (FR ro) 0 P ops Q j K (a.put oi.dst v) w) :
    wpOpIn (FR ro) 0 P ops Q j (fun a' w' => YW P ops oi v a' ∧ K (a'.put oi.dst v) w') a w := by
  obtain ⟨h1, h2, h3⟩ := Oper.apart_spec hap
  have keep : ∀ (a : Act), YW P ops oi v a → ∀ u, YW P ops oi v (a.put oj.dst u) := fun a hy u =>
    hy.of_same (execOp_put oi hsi a oj.dst u h3) (wanted_put oi a oj.dst u h3)
  unfold wpOpIn at *
  simp only [hj] at *
  rw [wanted_put oj a oi.dst v h1] at h
  split
  · rename_i hw
    rw [if_pos hw] at h
    refine ⟨fun _ _ => trivial, ?_⟩
    have h := h.2
    rw [semAt_eq _ _ _ hdj, execOp_put oj hsj a oi.dst v h1] at h
    rw [semAt_eq _ _ _ hdj]
    generalize (execOp a.eval oj).run P w = r at *
    cases r with
    | ok x w' =>
      cases x <;> simp only [Oper.uponIn] at h ⊢
      case value u => exact ⟨keep a hy u, by rw [← Act.put_comm a v u h2]; exact h⟩
      case skip => exact ⟨keep a hy _, by rw [← Act.put_comm a v undef h2]; exact h⟩
      case defer d =>
        refine ⟨keep { a with defers := d :: a.defers } (hy.of_same rfl rfl) _, ?_⟩
        rw [← Act.put_comm _ v undef h2, ← Act.put_defers]
        exact h
      case enter f args =>
        refine ⟨h.1, CallsIn.mono h.2 fun e w'' he => ?_⟩
        cases e with
        | returned u => exact ⟨keep a hy u, by rw [← Act.put_comm a v u h2]; exact he⟩
        | panicked c => exact hQ _ _ _ he
        | outgrown => exact he
      case row row args => exact ⟨h.1, RowsIn.mono h.2 fun u w'' he => ⟨keep a hy u, by rw [← Act.put_comm a v u h2]; exact he⟩⟩
      case round l f tmps assign body =>
        refine ⟨h.1, RoundIn.mono h.2 fun e w'' he => ?_⟩
        cases e with
        | returned u => exact ⟨keep a hy u, by rw [← Act.put_comm a v u h2]; exact he⟩
        | panicked c => exact hQ _ _ _ he
        | outgrown => exact he
    | halt x w' =>
      cases x <;> simp only [Oper.uponIn] at h ⊢
      case panic u => exact hQ _ _ _ h
  · rename_i hw
    rw [if_neg hw] at h
    exact ⟨fun _ _ => trivial, keep a hy _, by rw [← Act.put_comm a v undef h2]; exact h.2⟩


theorem wpOpIn_post {ro : Option Nat} {P : Program} {ops : Array Oper} {Q Q' : Exit → Act → World → Prop} {K K' : Act → World → Prop} (h : ∀ e a w, e ≠ .normal → Q e a w → Q' e a w) (hK : ∀ a w, K a w → K' a w)
    {i : Nat} {a : Act} {w : World} (hh : wpOpIn (FR ro) 0 P ops Q i K a w) : wpOpIn (FR ro) 0 P ops Q' i K' a w := by
  unfold wpOpIn at hh ⊢
  split
  · rename_i ho; simp only [ho] at hh; exact hK _ _ hh
  · rename_i o ho
    simp only [ho] at hh
    split
    · rename_i hw
      rw [if_pos hw] at hh
      obtain ⟨h1, h2⟩ := hh
      refine ⟨h1, ?_⟩
      generalize (o.semAt (FR ro).round a.eval).run P w = res at h2 ⊢
      have hlet : LetsOut Q → LetsOut Q' := fun ⟨a, w, hq⟩ => ⟨a, w, h _ _ _ (by simp) hq⟩
      cases res with
      | ok nx w' =>
        cases nx <;> simp only [Oper.uponIn] at h2 ⊢ <;> first
          | exact hK _ _ h2
          | exact ⟨h2.1, CallsIn.mono h2.2 (fun e w'' he => by cases e <;> first | exact hK _ _ he | exact h _ _ _ (by simp) he | exact hlet he)⟩
          | exact ⟨h2.1, RowsIn.mono h2.2 (fun _ _ he => hK _ _ he)⟩
          | exact ⟨h2.1, RoundIn.mono h2.2 (fun e w'' he => by cases e <;> first | exact hK _ _ he | exact h _ _ _ (by simp) he | exact hlet he)⟩
          | exact h2
      | halt x w' => cases x <;> simp only [Oper.uponIn] at h2 ⊢ <;> first | exact h _ _ _ (by simp) h2 | exact h2
    · rename_i hw
      rw [if_neg hw] at hh
      exact ⟨hh.1, hK _ _ hh.2⟩

theorem wpAnyIn_post {ro : Option Nat} {P : Program} {md : Region.Mode} {ops : Array Oper} {Q Q' : Exit → Act → World → Prop} (h : ∀ e a w, Q e a w → Q' e a w) :
    ∀ {fuel : Nat} {listed : Array Bool} {a : Act} {w : World}, wpAnyIn (FR ro) 0 P md ops Q fuel listed a w → wpAnyIn (FR ro) 0 P md ops Q' fuel listed a w
  | 0, _, _, _, hh => ⟨hh.1, h _ _ _ hh.2⟩
  | _ + 1, _, _, _, hh => ⟨fun h0 => h _ _ _ (hh.1 h0), fun i hi => wpOpIn_post (fun e a w _ => h e a w) (fun _ _ hk => wpAnyIn_post h hk) (hh.2 i hi)⟩

/-- an operation that hangs on no world goes first -/
theorem wpAny_ahead {ro : Option Nat} {P : Program} {md : Region.Mode} {ops : Array Oper} {Q : Exit → Act → World → Prop} {i : Nat} {oi : Oper} {v : Value} (hi : ops[i]? = some oi)
    (hsel : ∀ (j : Nat) (o : Oper) cs b, ops[j]? = some o → o.op ≠ .select cs b) (hdef : ∀ (j : Nat) (o : Oper), ops[j]? = some o → ∀ c, o.op ≠ .defer c)
    (hQ : ∀ c a w, Q (.panic c) (a.put oi.dst v) w → Q (.panic c) a w) :
    ∀ (fuel : Nat) (listed : Array Bool) (a : Act) (w : World),
      (∀ j oj, ops[j]? = some oj → j ≠ i → listed.getD j true = false → (∀ e ∈ oj.after, Region.binds md e = true → e.on ≠ i) → oi.apart ops oj = true) →
      i ∈ Region.ready md ops listed → YW P ops oi v a →
      wpAnyIn (FR ro) 0 P md ops Q fuel (listed.setIfInBounds i true) (a.put oi.dst v) w → wpAnyIn (FR ro) 0 P md ops Q (fuel + 1) listed a w := by
  intro fuel
  induction fuel with
  | zero =>
    intro listed a w _ hr hy H
    refine ⟨fun h => (by rw [h] at hr; cases hr), fun j hj => ?_⟩
    by_cases hji : j = i
    · subst hji; exact hy.op hi H
    · have := ready_mono hj hji
      rw [H.1] at this
      cases this
  | succ fuel ih =>
    intro listed a w hfree hr hy H
    refine ⟨fun h => (by rw [h] at hr; cases hr), fun j hj => ?_⟩
    by_cases hji : j = i
    · subst hji; exact hy.op hi H
    · have h1 := H.2 j (ready_mono hj hji)
      obtain ⟨hjun, oj, hoj, hall⟩ := mem_ready.1 hj
      have hnot : ∀ e ∈ oj.after, Region.binds md e = true → e.on ≠ i := fun e he hb heq => by
        have h1 := hall e he hb
        have h0 := (mem_ready.1 hr).1
        rw [heq] at h1
        rcases Nat.lt_or_ge i listed.size with h' | h'
        · simp [h'] at h0 h1; rw [h0] at h1; cases h1
        · simp [Array.getElem?_eq_none h'] at h1
      have h2 := op_put' hoj (hfree j oj hoj hji hjun hnot) (fun cs b => hsel i oi cs b hi) (fun cs b => hsel j oj cs b hoj) (hdef j oj hoj) hQ hy h1
      have hfree' : ∀ k ok, ops[k]? = some ok → k ≠ i → (listed.setIfInBounds j true).getD k true = false →
          (∀ e ∈ ok.after, Region.binds md e = true → e.on ≠ i) → oi.apart ops ok = true := fun k ok hk hki hun hno => by
        refine hfree k ok hk hki ?_ hno
        by_cases hjk : j = k
        · subst hjk; exact hjun
        · rw [getD_set_ne true hjk] at hun; exact hun
      refine wpOpIn_mono (fun a' w' h3 => ih (listed.setIfInBounds j true) a' w' hfree' (ready_mono hr (Ne.symm hji)) h3.1 ?_) h2
      rw [Array.setIfInBounds_comm _ _ hji]
      exact h3.2

/-- a drawn region, some of whose operations are done -/
def XA (C : Cx) (ops : Array Oper) (fuel : Nat) (listed : Array Bool) (Q : Post) (st : St) (u : Im) : Prop :=
  ∀ E a w, Ok C E st u a w → wpAnyIn (FR C.ro) 0 C.P .any ops (SemQ C E st.nx u Q) fuel listed a w

theorem x_drawA {C : Cx} {id : Nat} {ops : Array Oper} {Q : Post} {st : St} {u : Im} (hm : C.P.follows .mixedOrders = true)
    (h : XA C ops ops.size (Array.replicate ops.size false) Q st u) : X C (.region id ops true) Q st u := by
  unfold X
  intro E a w hok
  obtain ⟨f, hsat⟩ := hok.sat
  exact wpIn_region_any hm (h E a _ ⟨hok.agr, f, hsat.drawn⟩)

theorem xa_done {C : Cx} {ops : Array Oper} {fuel : Nat} {listed : Array Bool} {Q : Post} {st : St} {u : Im} (hr : Region.ready .any ops listed = [])
    (hg : gkOk st.kn st.gk = true) (h : Q .normal st.shut u) : XA C ops fuel listed Q st u := by
  intro E a w hok
  exact wpAnyIn_done hr ⟨E, st.shut, u, fun _ _ => rfl, Nat.le_refl _, Im.le.refl u, ⟨hok.agr.shut hg, hok.sat⟩, h⟩ fuel

theorem xl_end {C : Cx} {all : List Oper} {Q : Post} {st : St} {u : Im} (h : Q .normal st u) : XL C all [] Q st u := by
  unfold XL
  intro E a w hok
  exact ⟨E, st, u, fun _ _ => rfl, Nat.le_refl _, Im.le.refl u, hok, h⟩

/-- the one operation that is ready -/
theorem xa_one {C : Cx} {ops : Array Oper} {fuel : Nat} {listed : Array Bool} {Q : Post} {st : St} {u : Im} (i : Nat) {o : Oper} (hr : Region.ready .any ops listed = [i])
    (ho : ops.toList[i]? = some o) (h : XL C ops.toList [o] (thn (XA C ops fuel (listed.setIfInBounds i true) Q) Q) st u) : XA C ops (fuel + 1) listed Q st u := by
  intro E a w hok
  refine wpAnyIn_all hr (by simp) fun j hj => ?_
  have : j = i := by simpa using hj
  subst this
  unfold XL at h
  have h1 := h E a w hok
  have ho' : ops[j]? = some o := by simpa using ho
  have key : wpOpIn (FR C.ro) 0 C.P ops (SemQ C E st.nx u (thn (XA C ops fuel (listed.setIfInBounds j true) Q) Q)) j
      (fun a' w' => SemQ C E st.nx u (thn (XA C ops fuel (listed.setIfInBounds j true) Q) Q) .normal a' w') a w := by
    unfold wpOpIn
    simp only [ho']
    unfold wpListIn at h1
    simp only [wpListIn] at h1
    exact h1
  refine wpOpIn_post ?_ ?_ key
  · rintro e a' w' hne ⟨E', st', u', h2, h3, h4, h5, h6⟩
    cases e with
    | normal => exact absurd rfl hne
    | exit id => exact ⟨E', st', u', h2, h3, h4, h5, h6⟩
    | goto l => exact ⟨E', st', u', h2, h3, h4, h5, h6⟩
    | ret => exact ⟨E', st', u', h2, h3, h4, h5, h6⟩
    | panic c => exact ⟨E', st', u', h2, h3, h4, h5, h6⟩
    | outgrown => exact ⟨E', st', u', h2, h3, h4, h5, h6⟩
  · rintro a' w' ⟨E', st', u', h2, h3, h4, h5, h6⟩
    exact wpAnyIn_post (fun e a w => SemQ.mono h2 h3 h4) (h6 E' a' w' h5)

/-- one operation that hangs on no world, ahead of all that are ready -/
theorem xa_pure {C : Cx} {T : TT} (hT : TOk C.P T) {ops : Array Oper} {fuel : Nat} {listed : Array Bool} {Q : Post} {st : St} {u : Im} {i d : Nat} {o : Oper} {g : Gd} {s : SV} {side : List Prop}
    (hsel : Region.noSelect ops = true) (hdf : noDefer ops = true) (hQ : ∀ c st u, Q (.panic c) st u → False) (ho : ops.toList[i]? = some o)
    (hr : (Region.ready .any ops listed).contains i = true) (hf : Region.free .any ops listed i = true) (hp : pureOp o.op = true)
    (hg : guardOf ops.toList st o = some g) (he : eff T st g o.op = .val s side) (hd : o.dst = some d) (hfr : fresh C.N st d g = true)
    (hside : (∀ p ∈ gprops st g, p) → allP side)
    (K : XA C ops fuel (listed.setIfInBounds i true) Q (st.put d g s) u) : XA C ops (fuel + 1) listed Q st u := by
  intro E a w hok
  have ho' : ops[i]? = some o := by simpa using ho
  have how : (st.put d g s).ow = st.ow := by cases g <;> rfl
  have hnx : (st.put d g s).nx = st.nx := by cases g <;> rfl
  have hgd := guard_sound (all := ops) hok.agr hg
  have hrun : gs a.tmps g → ∀ w, (execOp a.eval o).run C.P w = .ok (.value (s.den E)) w ∧ s.lt E st.nx := fun hgs w =>
    eff_pure (C := C) hT (fun x z h => opd_sound hok.agr hgs h) hp he (hside (gprops_sound hok.agr hgs (fun _ _ _ => trivial))) w
  have hpan : ∀ x c a w, SemQ C E st.nx u Q (.panic c) (Act.put a o.dst x) w → SemQ C E st.nx u Q (.panic c) a w := fun x c a w ⟨_, st', u', _, _, _, _, h5⟩ => (hQ _ _ _ h5).elim
  have go : ∀ x, (gs a.tmps g → x = s.den E) → (¬ gs a.tmps g → x = undef) → YW C.P ops o x a → wpAnyIn (FR C.ro) 0 C.P .any ops (SemQ C E st.nx u Q) (fuel + 1) listed a w := by
    intro x hx hnx' hy
    have hput : Agr C.N E (st.put d g s) (a.tmps.setIfInBounds d x) :=
      hok.agr.put hfr (fun hgs => (hrun hgs w).2) hx hnx' (fun hn => by subst hn; exact hx (fun y hy => by cases hy))
    refine wpAny_ahead ho' (Region.noSelect_spec hsel) (noDefer_spec hdf) (hpan x) fuel listed a w (Region.free_spec ho' hf) (by simpa using hr) hy ?_
    have := K E (a.put o.dst x) w ⟨by rw [hd]; exact hput, by rw [how, hnx, hd]; exact hok.sat⟩
    rwa [hnx] at this
  by_cases hw : Region.wanted o (yielded ops a.tmps) = true
  · have hgs := hgd.1 hw
    exact go _ (fun _ => rfl) (fun hn => absurd hgs hn) (.inl ⟨hw, notDefer_of_val he, fun w => (hrun hgs w).1⟩)
  · have hgs := hgd.2 (by simpa using hw)
    exact go undef (fun hy => absurd hy hgs) (fun _ => rfl) (.inr ⟨by simpa using hw, rfl⟩)

/-- pure operations, one after the other -/
def xap (T : TT) (N : Nat) (all : List Oper) (K : St → Prop) : List Oper → St → Prop
  | [], st => K st
  | o :: r, st => match pureOp o.op with
    | false => False
    | true => match guardOf all st o with
      | none => False
      | some g => match eff T st g o.op with
        | .val s side => match o.dst with
          | some d => match fresh N st d g with
            | true => sides (gprops st g) side (st.putK d g s (xap T N all K r))
            | false => False
          | none => False
        | .stuck => False

def hasAll (ops : List Oper) : List Nat → Bool
  | [] => true
  | i :: r => ops[i]?.isSome && hasAll ops r

theorem xa_pures0 {T : TT} {C : Cx} (hT : TOk C.P T) {ops : Array Oper} {Q : Post} {u : Im} (hsel : Region.noSelect ops = true) (hdf : noDefer ops = true)
    (hQ : ∀ c st u, Q (.panic c) st u → False) {fuel : Nat} : ∀ (l : List Nat) (listed : Array Bool) (st : St), hasAll ops.toList l = true → lexL .any ops l listed = true →
      xap T C.N ops.toList (fun st => XA C ops fuel (marks listed l) Q st u) (opsAt ops.toList l) st → XA C ops (fuel + l.length) listed Q st u
  | [], _, _, _, _, h => h
  | i :: l, listed, st, ha, hl, h => by
    simp only [hasAll, Bool.and_eq_true] at ha
    simp only [lexL, Bool.and_eq_true] at hl
    obtain ⟨o, ho⟩ := Option.isSome_iff_exists.1 ha.1
    simp only [opsAt, ho] at h
    unfold xap at h
    split at h
    · exact h.elim
    · rename_i hp
      split at h
      · exact h.elim
      · rename_i g hg
        split at h
        · rename_i s side he
          split at h
          · rename_i d hd
            split at h
            · rename_i hf
              rw [St.putK_eq] at h
              have h1 := sides_split h
              exact xa_pure hT hsel hdf hQ ho hl.1.1 hl.1.2 hp hg he hd hf h1.2 (xa_pures0 hT hsel hdf hQ l _ _ ha.2 hl.2 h1.1)
            · exact h.elim
          · exact h.elim
        · exact h.elim

/-- operations that hang on no world, ahead of the others -/
theorem xa_pures {T : TT} {C : Cx} (hT : TOk C.P T) {ops : Array Oper} {Q : Post} {st : St} {u : Im} {fuel n : Nat} {listed : Array Bool} (l : List Nat) (hn : n = fuel + l.length)
    (hsel : Region.noSelect ops = true) (hdf : noDefer ops = true) (hQ : ∀ c st u, Q (.panic c) st u → False) (ha : hasAll ops.toList l = true) (hl : lexL .any ops l listed = true)
    (h : st.force fun st => xap T C.N ops.toList (fun st => XA C ops fuel (marks listed l) Q st u) (opsAt ops.toList l) st) : XA C ops n listed Q st u := by
  subst hn
  rw [St.force_eq] at h
  exact xa_pures0 hT hsel hdf hQ l listed st ha hl h

theorem anyP_lex {ro : Option Nat} {P : Program} {ops : Array Oper} {Inv : World → Prop} {md : Region.Mode} {Q : Act → Prop} {target : Array Bool} (hs : Region.noSelect ops = true) :
    ∀ (l : List Nat) (listed : Array Bool) (a : Act), hasAll ops.toList l = true → lexL md ops l listed = true → phaseB md ops target l.length listed = true →
      stillI ro P ops Inv Q (opsAt ops.toList l) a → anyP ro P md ops Inv Q l.length listed a
  | [], _, _, _, _, _, h => h
  | i :: l, listed, a, ha, hl, hb, h => by
    simp only [hasAll, Bool.and_eq_true] at ha
    simp only [lexL, Bool.and_eq_true] at hl
    obtain ⟨o, ho⟩ := Option.isSome_iff_exists.1 ha.1
    simp only [opsAt, ho] at h
    obtain ⟨v, hy, hK⟩ := h
    have ho' : ops[i]? = some o := by simpa using ho
    have hr : i ∈ Region.ready md ops listed := by simpa using hl.1.1
    have hb2 : phaseB md ops target l.length (listed.setIfInBounds i true) = true := by
      have hb1 := hb
      simp only [List.length_cons, phaseB, Bool.and_eq_true, List.all_eq_true] at hb1
      exact hb1.2 i hr
    exact anyP_first ho' (Region.noSelect_spec hs) l.length listed a (Region.free_spec ho' hl.1.2) hr hb hy
      (anyP_lex hs l _ _ ha.2 hl.2 hb2 hK)

/-- a phase of operations that only read -/
theorem xa_phase {T : TT} {C : Cx} (hT : TOk C.P T) {ops : Array Oper} {Q : Post} {st : St} {u : Im} {fuel n : Nat} {listed : Array Bool} (l : List Nat) (hn : n = l.length + fuel)
    (hsel : Region.noSelect ops = true) (ha : hasAll ops.toList l = true) (hl : lexL .any ops l listed = true) (hb : phaseB .any ops (marks listed l) l.length listed = true)
    (h : XD C ops.toList (opsAt ops.toList l) (fun st => XA C ops fuel (marks listed l) Q st u) st u) : XA C ops n listed Q st u := by
  subst hn
  intro E a w hok
  obtain ⟨f, hsat⟩ := hok.sat
  unfold XD at h
  have h1 := h E a w hok
  simp only [Array.toArray_toList] at h1
  refine wpAny_of_anyP (Inv := fun w => ∃ f, Sat E st.ow st.nx u a.defers w f) (target := marks listed l) ?_ l.length listed a w ⟨f, hsat⟩ hb (anyP_lex hsel l listed a ha hl hb h1)
  rintro a' w' ⟨h2, st', h3, h4, h5, h6⟩ hi
  have := h6 E a' w' ⟨h5, by rw [h3, h4, h2]; exact hi⟩
  rwa [h4] at this

/-! ## Nil, and freezing, inside a region -/
theorem xl_nil {α : Type} {C : Cx} {all l : List Oper} {Q : Post} {kn : Kn} {ow : Own} {nx : Nat} {u : Im} (d e : Nat) (Y : Lay α) (hd : look kn d = some (.v (.slice none 0 0)))
    (h : XL C all l Q ⟨(d, .r nx) :: kn, [], (nx, .row e (Y.d [])) :: ow, nx + 1⟩ u) : XL C all l Q ⟨kn, [], ow, nx⟩ u := by
  unfold XL at h ⊢
  intro E a w hok
  obtain ⟨f, hsat⟩ := hok.sat
  have hE : ∀ k, k < nx → upd E nx (.slice none 0 0) k = E k := fun k hk => upd_other _ _ (by omega)
  have hg := hok.agr.grow (E' := upd E nx (.slice none 0 0)) (ow := (nx, .row e (Y.d [])) :: ow) (nx := nx + 1) hE (Nat.le_succ _)
  have := h (upd E nx (.slice none 0 0)) a w ⟨⟨hg.size, fun t s h1 h2 => ?_, fun t g s h1 => (by cases h1), fun t s h2 => ?_, fun t g s h1 => (by cases h1)⟩, _, hsat.nil e Y⟩
  · exact wpListIn_monoQ (fun e a w => SemQ.mono hE (Nat.le_succ _) (Im.le.refl u)) _ _ _ this
  · rw [look_cons] at h2
    split at h2
    · rename_i e1; subst e1; cases h2
      rw [hok.agr.kn _ _ rfl hd]
      simp only [SV.den, upd_same]
    · exact hg.kn t s h1 h2
  · rw [look_cons] at h2
    split at h2
    · cases h2; exact ⟨Nat.lt_succ_self _, none, 0, 0, upd_same _ _ _⟩
    · exact hg.klt t s h2

theorem xl_freezeN {C : Cx} {all l : List Oper} {Q : Post} {kn : Kn} {gk : List (Nat × (Gd × SV))} {ow : Own} {nx : Nat} {u : Im} (k : Nat) {e : TypeId} {D : Data} (hk : look ow k = some (.row e D))
    (K : ∀ A c u', u.le u' → SlAt u' (.slice A D.n c) D → (∀ ad, A = some ad → u.h ad.block = none) → XL C all l Q ⟨frz k (.slice A D.n c) kn, gk, (k, .emp) :: ow, nx⟩ u') : XL C all l Q ⟨kn, gk, ow, nx⟩ u := by
  unfold XL at K ⊢
  intro E a w hok
  obtain ⟨f, hsat⟩ := hok.sat
  obtain ⟨u', hu, hsl, hsat'⟩ := hsat.freeze hk
  obtain ⟨A, c, hv⟩ := hsl.form
  have hoff : ∀ ad, A = some ad → u.h ad.block = none := fun ad had =>
    hsat.off k _ (((hsat.holds k _ hk).2 _).2 (by rw [hv, had]; rfl))
  have := K A c u' hu (hv ▸ hsl) hoff E a w ⟨hok.agr.frz hv, _, hsat'⟩
  exact wpListIn_monoQ (fun e a w => SemQ.mono (fun _ _ => rfl) (Nat.le_refl _) hu) _ _ _ this

theorem x_freezeN {C : Cx} {cc : Code} {Q : Post} {kn : Kn} {gk : List (Nat × (Gd × SV))} {ow : Own} {nx : Nat} {u : Im} (k : Nat) {e : TypeId} {D : Data} (hk : look ow k = some (.row e D))
    (K : ∀ A c u', u.le u' → SlAt u' (.slice A D.n c) D → (∀ ad, A = some ad → u.h ad.block = none) → X C cc Q ⟨frz k (.slice A D.n c) kn, gk, (k, .emp) :: ow, nx⟩ u') : X C cc Q ⟨kn, gk, ow, nx⟩ u := by
  unfold X at K ⊢
  intro E a w hok
  obtain ⟨f, hsat⟩ := hok.sat
  obtain ⟨u', hu, hsl, hsat'⟩ := hsat.freeze hk
  obtain ⟨A, c, hv⟩ := hsl.form
  have hoff : ∀ ad, A = some ad → u.h ad.block = none := fun ad had =>
    hsat.off k _ (((hsat.holds k _ hk).2 _).2 (by rw [hv, had]; rfl))
  have := K A c u' hu (hv ▸ hsl) hoff E a w ⟨hok.agr.frz hv, _, hsat'⟩
  exact Go.wpIn_mono this (fun e a w => SemQ.mono (fun _ _ => rfl) (Nat.le_refl _) hu)

theorem add_block (a : Addr) (n : Nat) : (a.add n).block = a.block := by
  unfold Addr.add; split <;> rfl

theorem SlAt.cutOf {u : Im} {A : Option Addr} {n c lo : Nat} {D : Data} (h : SlAt u (.slice A n c) D) (hA : ∀ ad, A = some ad → lo ≤ ad.block) : SlAt (cut lo u) (.slice A n c) D := by
  obtain ⟨A', c', h1, h2, h3, h4⟩ := h
  cases h1
  refine ⟨A, c, rfl, h2, h3, fun hn => ?_⟩
  obtain ⟨ad, h5, h6⟩ := h4 hn
  refine ⟨ad, h5, fun i hi j f hf => ?_⟩
  have := h6 i hi j f hf
  unfold Im.cell? at this ⊢
  have hb := add_block ad (i * D.cs.length + j)
  simp only [cut]
  rw [if_neg (by rw [hb]; have := hA ad h5; omega)]
  exact this

theorem SlAt.newer {u u' : Im} {w0 : World} {A : Option Addr} {n c : Nat} {D : Data} (h : SlAt u' (.slice A n c) D) (hA : ∀ ad, A = some ad → u.h ad.block = none) (hu : (im w0).le u) :
    SlAt (cut w0.heap.size u') (.slice A n c) D := h.cutOf fun ad had => by
  rcases Nat.lt_or_ge ad.block w0.heap.size with hlt | hge
  · have h1 := hu.h ad.block _ (Array.getElem?_eq_getElem hlt)
    rw [hA ad had] at h1; cases h1
  · exact hge

theorem SlAt.keep {u u' : Im} {lo : Nat} {v : Value} {D : Data} (h : SlAt (cut lo u) v D) (hu : u.le u') : SlAt (cut lo u') v D := h.sub (hu.cut lo)
theorem SlAt.le {u u' : Im} {v : Value} {D : Data} (h : SlAt u v D) (hu : u.le u') : SlAt u' v D := h.sub hu.sub
theorem SlAt.uncut {u : Im} {lo : Nat} {v : Value} {D : Data} (h : SlAt (cut lo u) v D) : SlAt u v D := h.sub (cut_sub lo u)

/-- what a walk knows of memory is so at its end -/
theorem Imm.cutLe {u : Im} {w : World} (h : Imm u w) (lo : Nat) : (cut lo u).sub (cut lo (im w)) := ⟨fun b o hb => by
  simp only [cut] at hb ⊢
  split at hb
  · cases hb
  · rename_i hn; rw [if_neg hn]; exact h.h b o hb⟩

/-! ## Ways that are known -/
theorem x_ift {b : Bool} {p q : Prop} (h : b = true) (hp : p) : Ways b p q := x_if (fun _ => hp) (fun h' => by rw [h] at h'; cases h')
theorem x_iff {b : Bool} {p q : Prop} (h : b = false) (hq : q) : Ways b p q := x_if (fun h' => by rw [h] at h'; cases h') (fun _ => hq)

/-! ## What comes in, with its sizes -/
section openingZ
variable {H : Type} {enc : TypeId × Value → H} {P : Program} {w : World}

def TrZ (enc : TypeId × Value → H) (P : Program) (w : World) (t : TypeId) (cs : List Value) : Prop :=
  ∃ fuel x, DataW.trod enc P w 0 (fun _ => true) true fuel t cs = some x ∧ ∀ k ∈ x.1.weights P t, k ≤ reachBytes

theorem TrZ.tr {t : TypeId} {cs : List Value} (h : TrZ enc P w t cs) : Tr enc P w t cs := by
  obtain ⟨f, x, h1, _⟩ := h
  exact ⟨f, x, h1⟩

theorem reach_le {k : Nat} (h : k ≤ reachBytes) : k ≤ 140737488355328 := by
  have : reachBytes < 2 ^ 47 := reachBytes_lt
  omega

theorem TrZ.str {t : TypeId} {cs : List Value} (ht : P.underlying t = some .string) (h : TrZ enc P w t cs) : ∃ s : ByteArray, cs = [.string s] ∧ s.size ≤ 140737488355328 := by
  obtain ⟨f, x, h, hz⟩ := h
  obtain ⟨s, h1, h3, h2⟩ := DataW.trod_string ht h
  refine ⟨s, h1, reach_le (hz s.size ?_)⟩
  rw [h3]
  simp [DataW.weights]

theorem TrZ.strct {t : TypeId} {cs : List Value} {fs : Array Field} (ht : P.underlying t = some (.struct fs)) (h1 : Go.Deep.oneCellFields P fs = true) (h : TrZ enc P w t cs) :
    cs.length = P.cellsOf t ∧ ∀ (j : Nat) (f : Field) (x : Value), fs[j]? = some f → cs[j]? = some x → TrZ enc P w f.type [x] := by
  obtain ⟨fu, y, h, hz⟩ := h
  obtain ⟨xs, n, _, hy, hl, hxl, hf⟩ := DataW.trod_struct ht h
  refine ⟨hl, fun j f x hj hx => ?_⟩
  obtain ⟨ho, hk⟩ := Go.Deep.hone_of h1 j f hj
  have h2 := hf j f hj
  have hjl : j < fs.size := (Array.getElem?_eq_some_iff.1 hj).1
  have hxs : xs[j]? = some (xs[j]'(by omega)) := List.getElem?_eq_getElem (by omega)
  rw [ho, hk, hxs] at h2
  have e : (cs.drop j).take 1 = [x] := by
    obtain ⟨hjc, hxe⟩ := List.getElem?_eq_some_iff.1 hx
    rw [List.drop_eq_getElem_cons hjc, hxe]; rfl
  rw [e] at h2
  refine ⟨n, _, h2, fun k hk2 => hz k ?_⟩
  rw [hy]
  simp only [DataW.weights, ht]
  exact DataW.weights_mem_each (j := j) (by rw [List.getElem?_map, Array.getElem?_toList, hj]; rfl) (by rw [List.getElem?_map, hxs]; rfl) k hk2

theorem weightsAll_mem {e : TypeId} {d : DataW H} {k : Nat} (hk : k ∈ d.weights P e) : ∀ {l : List (DataW H)}, d ∈ l → k ∈ DataW.weightsAll P e l
  | x :: r, h => by
    simp only [DataW.weightsAll, List.mem_append]
    rcases List.mem_cons.1 h with rfl | h
    · exact .inl hk
    · exact .inr (weightsAll_mem hk h)

theorem TrZ.slice {t e : TypeId} {x : Value} {m : Nat} (ht : P.underlying t = some (.slice e)) (hm : P.cellsOf e = m) (h : TrZ enc P w t [x]) :
    ∃ A n c, x = .slice A n c ∧ n ≤ 9223372036854775807 ∧ n * P.bytesOf e ≤ 140737488355328 ∧ SlAt (im w) x (dataAt (im w) x m n) ∧ ∀ i : Int, 0 ≤ i → i < n → TrZ enc P w e ((List.range m).map (cellAt (im w) x m i)) := by
  obtain ⟨A, n, c, h1, h2, h3, _⟩ := h.tr.slice ht hm
  obtain ⟨fu, y, h, hz⟩ := h
  rcases Go.Deep.open_slice ht h with ⟨e1, _⟩ | ⟨a, len, cap, k, n', D, Pl, e1, _, hl, hc, hk, hy, hi⟩
  · rw [h1] at e1
    cases e1
    exact ⟨none, 0, 0, h1, by omega, by omega, h3, fun i h1 h2 => by omega⟩
  · rw [h1] at e1
    cases e1
    have hlk : n ≤ k := by rw [hk]; split <;> omega
    have hwt : y.1.weights P t = ((List.range n).map D).length.add (((List.range (k - n)).map fun j => D (n + j)).length) * P.bytesOf e :: (DataW.weightsAll P e ((List.range n).map D) ++ DataW.weightsAll P e ((List.range (k - n)).map fun j => D (n + j))) := by
      rw [hy]; simp [DataW.weights, ht]
    refine ⟨_, n, c, h1, h2, ?_, h3, ?_⟩
    · have := reach_le (hz _ (by rw [hwt]; exact List.mem_cons_self ..))
      refine Nat.le_trans (Nat.mul_le_mul_right _ ?_) this
      simp only [List.length_map, List.length_range]
      exact Nat.le_add_right _ _
    · intro i g1 g2
      obtain ⟨i, rfl⟩ : ∃ k : Nat, i = k := ⟨i.toNat, by omega⟩
      obtain ⟨cs', hcs, ht'⟩ := hi i (by omega)
      refine ⟨n', (D i, Pl i), ?_, fun q hq => hz q ?_⟩
      · rw [← ht']
        congr 1
        rw [hm] at hcs
        obtain ⟨_, hcl, hat⟩ := World.cells?_some hcs
        apply List.ext_getElem?
        intro j
        by_cases hj : j < m
        · rw [List.getElem?_map, List.getElem?_range hj, Option.map_some]
          have h4 := hat j hj
          rw [Go.GV.add_add'] at h4
          rw [← h4, h1]
          have hsome : cs'[j]? = some (cs'[j]'(by omega)) := List.getElem?_eq_getElem (by omega)
          rw [hsome] at h4
          have e2 : (im w).cell? (a.add (i * m + j)) = w.cell? (a.add (i * m + j)) := rfl
          simp only [cellAt, Int.toNat_natCast, e2, h4, Option.getD_some]
        · rw [List.getElem?_eq_none (by simp; omega), List.getElem?_eq_none (by omega)]
      · rw [hwt]
        refine List.mem_cons_of_mem _ (List.mem_append_left _ (weightsAll_mem hq ?_))
        exact List.mem_map.2 ⟨i, List.mem_range.2 (by omega), rfl⟩

theorem TrZ.of {ts : List TypeId} {ds : List (DataW H)} (hz : (DataW.weightsEach P ts ds).all (· ≤ reachBytes) = true) {j : Nat} {t : TypeId} {v : Value} {d : DataW H} {p : List MemPlace}
    (ht : ts[j]? = some t) (hd : ds[j]? = some d) (h : DataW.Trod enc P w 0 (fun _ => true) true t v d p) : TrZ enc P w t v.cells.toList := by
  obtain ⟨fuel, hf⟩ := h
  refine ⟨fuel, _, hf, fun k hk => ?_⟩
  have := List.all_eq_true.1 hz k (DataW.weights_mem_each ht hd k hk)
  simpa using this
end openingZ

/-! ## Operations that give one value -/
theorem xl_valE {C : Cx} {all : List Oper} {o : Oper} {r : List Oper} {Q : Post} {kn : Kn} {gk : List (Nat × (Gd × SV))} {ow : Own} {nx : Nat} {u : Im} (R : Value → Prop) {d : Nat}
    (hgd : o.guard = none) (hd : o.dst = some d) (hnd : ∀ c, o.op ≠ .defer c) (hfr : fresh C.N ⟨kn, gk, ow, nx⟩ d [] = true)
    (H : ∀ E a w, Ok C E ⟨kn, gk, ow, nx⟩ u a w → ∃ v, (execOp a.eval o).run C.P w = .ok (.value v) w ∧ R v)
    (K : ∀ v, R v → XL C all r Q ⟨(d, .v v) :: kn, gk, ow, nx⟩ u) : XL C all (o :: r) Q ⟨kn, gk, ow, nx⟩ u := by
  unfold XL at K ⊢
  intro E a w hok
  obtain ⟨v, hrun, hR⟩ := H E a w hok
  refine xl_wp hgd hnd hrun ?_
  rw [hd]
  have hput : Agr C.N E (St.put ⟨kn, gk, ow, nx⟩ d [] (.v v)) (a.tmps.setIfInBounds d v) :=
    hok.agr.put (g := []) hfr (fun _ => trivial) (fun _ => rfl) (fun hn => absurd (fun x hx => (by cases hx)) hn) (fun _ => rfl)
  exact K v hR E (a.put (some d) v) w ⟨⟨hput.size, hput.kn, hput.gk, hput.klt, hput.glt⟩, hok.sat⟩

theorem xl_val {C : Cx} {all : List Oper} {o : Oper} {r : List Oper} {Q : Post} {kn : Kn} {gk : List (Nat × (Gd × SV))} {ow : Own} {nx : Nat} {u : Im} (v : Value) {d : Nat}
    (hgd : o.guard = none) (hd : o.dst = some d) (hnd : ∀ c, o.op ≠ .defer c) (hfr : fresh C.N ⟨kn, gk, ow, nx⟩ d [] = true)
    (H : ∀ E a w, Ok C E ⟨kn, gk, ow, nx⟩ u a w → (execOp a.eval o).run C.P w = .ok (.value v) w)
    (K : XL C all r Q ⟨(d, .v v) :: kn, gk, ow, nx⟩ u) : XL C all (o :: r) Q ⟨kn, gk, ow, nx⟩ u :=
  xl_valE (fun x => x = v) hgd hd hnd hfr (fun E a w hok => ⟨v, H E a w hok, rfl⟩) (fun x hx => by subst hx; exact K)

/-- the smaller one of two numbers -/
theorem xl_min {C : Cx} {all : List Oper} {o : Oper} {r : List Oper} {Q : Post} {kn : Kn} {gk : List (Nat × (Gd × SV))} {ow : Own} {nx : Nat} {u : Im} {d : Nat} {x y : Operand} {ts : Array TypeId} {k k' : IntKind} {m n : Int}
    (ho : o.op = .call { callee := .builtin .min, args := #[x, y], argTypes := ts }) (hgd : o.guard = none) (hd : o.dst = some d) (hfr : fresh C.N ⟨kn, gk, ow, nx⟩ d [] = true)
    (hx : opd ⟨kn, gk, ow, nx⟩ [] x = some (.v (.int k m))) (hy : opd ⟨kn, gk, ow, nx⟩ [] y = some (.v (.int k' n)))
    (K : XL C all r Q ⟨(d, .v (.int k (if n < m then n else m))) :: kn, gk, ow, nx⟩ u) : XL C all (o :: r) Q ⟨kn, gk, ow, nx⟩ u := by
  refine xl_val _ hgd hd (fun c hc => by rw [ho] at hc; cases hc) hfr (fun E a w hok => ?_) K
  have hgs : gs a.tmps [] := fun x hx => by cases hx
  obtain ⟨e1, _⟩ := opd_sound hok.agr hgs hx
  obtain ⟨e2, _⟩ := opd_sound hok.agr hgs hy
  simp only [SV.den] at e1 e2
  have hm := run_min_int2 (P := C.P) (w := w) ts o.type k k' m n
  simp only [execOp, ho, resolve]
  simp [invoke, builtin, e1, e2, hm]

/-- a slice that is there, by its key -/
theorem Sat.slU {E : Env} {o : Own} {nx : Nat} {u : Im} {df : List Deferred} {w : World} {f : Nat → Nat → Prop} (h : Sat E o nx u df w f) {k : Nat} {D : Data} (hl : look o k = some (.sl D)) : SlAt u (E k) D :=
  (h.holds k _ hl).1

/-- is a slice nil? -/
theorem xl_eqnil {T : TT} {C : Cx} (hT : TOk C.P T) {all : List Oper} {o : Oper} {r : List Oper} {Q : Post} {kn : Kn} {gk : List (Nat × (Gd × SV))} {ow : Own} {nx : Nat} {u : Im} {d t t' e : Nat} {x : Operand} {ti : TI} {z : SV} {D : Data}
    (ho : o.op = .binOp .eql t x (.const (.slice none 0 0)) t') (hgd : o.guard = none) (hd : o.dst = some d) (hfr : fresh C.N ⟨kn, gk, ow, nx⟩ d [] = true)
    (hti : look T t = some ti) (hsh : ti.shp = .slice e) (hx : opd ⟨kn, gk, ow, nx⟩ [] x = some z) (hz : ∀ E w F, Sat E ow nx u [] w F → SlAt (im w) (z.den E) D)
    (K : ∀ b, (b = true → D.n = 0) → XL C all r Q ⟨(d, .v (.bool b)) :: kn, gk, ow, nx⟩ u) : XL C all (o :: r) Q ⟨kn, gk, ow, nx⟩ u := by
  refine xl_valE (fun v => ∃ b : Bool, v = .bool b ∧ (b = true → D.n = 0)) hgd hd (fun c hc => by rw [ho] at hc; cases hc) hfr (fun E a w hok => ?_) (fun v hv => by
    obtain ⟨b, rfl, hb⟩ := hv
    exact K b hb)
  have hgs : gs a.tmps [] := fun x hx => by cases hx
  obtain ⟨f, hsat⟩ := hok.sat
  obtain ⟨e1, _⟩ := opd_sound hok.agr hgs hx
  obtain ⟨A, c, h1, h2, h3, h4⟩ := hz E w f hsat.unmarked
  have hu := (hT _ _ hti).isSlice hsh
  refine ⟨.bool A.isNone, ?_, _, rfl, fun hb => ?_⟩
  · have hm := Lib.run_eql_slice_nil (P := C.P) w t e A D.n c 0 0 hu
    simp only [execOp, ho]
    rw [e1, h1]
    have e2 : a.eval (.const (.slice none 0 0)) = .slice none 0 0 := rfl
    rw [e2]
    simp [eqGuard, hm]
  · cases A with
    | none =>
      rcases Nat.eq_zero_or_pos D.n with h0 | h0
      · exact h0
      · obtain ⟨ad, h5, _⟩ := h4 h0
        cases h5
    | some ad => cases hb

theorem SlAt.drop {α : Type} {Y : Lay α} {L : List α} {v0 : Im} {A : Option Addr} {n c l : Nat} (h : SlAt v0 (.slice A n c) (Y.d L)) (hl : l ≤ L.length) :
    SlAt v0 (sliced A l n c Y.fs.length) (Y.d (L.drop l)) := by
  obtain ⟨A', c', h1, h2, h3, h4⟩ := h
  cases h1
  rw [Lay.d_n] at h2
  refine ⟨if c = l then A else A.map (·.add (l * Y.fs.length)), c - l, by simp only [sliced, Lay.d_n, List.length_drop], by rw [Lay.d_n, List.length_drop]; omega, by omega, fun hn => ?_⟩
  rw [Lay.d_n, List.length_drop] at hn
  obtain ⟨ad, h5, h6⟩ := h4 (by rw [Lay.d_n]; omega)
  subst h5
  rw [if_neg (by omega)]
  refine ⟨ad.add (l * Y.fs.length), rfl, fun i hi j f hf => ?_⟩
  rw [Lay.d_n, List.length_drop] at hi
  simp only [Lay.d, List.getElem?_map] at hf
  cases hfj : Y.fs[j]? with
  | none => rw [hfj] at hf; cases hf
  | some g =>
    rw [hfj] at hf
    simp only [Option.map_some, Option.some.injEq] at hf
    subst hf
    have := h6 (l + i) (by rw [Lay.d_n]; omega) j (fun i => g (L.getD i.toNat Y.dft)) (by simp [Lay.d, hfj])
    rw [Lay.cs_length] at this
    rw [Lay.cs_length, Go.GV.add_add']
    have e : l * Y.fs.length + (i * Y.fs.length + j) = (l + i) * Y.fs.length + j := by rw [Nat.add_mul]; omega
    rw [e, this]
    simp only [Int.toNat_natCast, List.getD_eq_getElem?_getD, List.getElem?_drop]

theorem SlAt.take {α : Type} {Y : Lay α} {L : List α} {v0 : Im} {A : Option Addr} {n c h : Nat} (hs : SlAt v0 (.slice A n c) (Y.d L)) (hh : h ≤ L.length) : SlAt v0 (.slice A h c) (Y.d (L.take h)) := by
  obtain ⟨A', c', h1, h2, h3, h4⟩ := hs
  cases h1
  rw [Lay.d_n] at h2
  have hl : (L.take h).length = h := by rw [List.length_take]; omega
  refine ⟨A, c, by rw [Lay.d_n, hl], by rw [Lay.d_n, hl]; omega, h3, fun hn => ?_⟩
  rw [Lay.d_n, hl] at hn
  obtain ⟨ad, h5, h6⟩ := h4 (by rw [Lay.d_n]; omega)
  refine ⟨ad, h5, fun i hi j f hf => ?_⟩
  rw [Lay.d_n, hl] at hi
  simp only [Lay.d, List.getElem?_map] at hf
  cases hfj : Y.fs[j]? with
  | none => rw [hfj] at hf; cases hf
  | some g =>
    rw [hfj] at hf
    simp only [Option.map_some, Option.some.injEq] at hf
    subst hf
    have := h6 i (by rw [Lay.d_n]; omega) j (fun i => g (L.getD i.toNat Y.dft)) (by simp [Lay.d, hfj])
    rw [Lay.cs_length] at this ⊢
    rw [this]
    simp [List.getD_eq_getElem?_getD, List.getElem?_take, hi]

/-- x[lo:] of a slice that stays -/
theorem xl_from {α : Type} {T : TT} {C : Cx} (hT : TOk C.P T) {all : List Oper} {o : Oper} {r : List Oper} {Q : Post} {kn : Kn} {gk : List (Nat × (Gd × SV))} {ow : Own} {nx : Nat} {u : Im}
    (Y : Lay α) (L : List α) {t e d : Nat} {sv lv : Operand} {ti te : TI} {kl : IntKind} {l : Int} {z : SV} {v0 : Im} (ho : o.op = .slice t sv (some lv) none none) (hgd : o.guard = none) (hd : o.dst = some d)
    (hti : look T t = some ti) (hsh : ti.shp = .slice e) (hte : look T e = some te) (hsz : te.sz = Y.fs.length)
    (hs : opd ⟨kn, gk, ow, nx⟩ [] sv = some z) (hll : opd ⟨kn, gk, ow, nx⟩ [] lv = some (.v (.int kl l))) (hf : fresh C.N ⟨kn, gk, ow, nx⟩ d [] = true)
    (hz : ∀ E w F, Sat E ow nx u [] w F → SlAt v0 (z.den E) (Y.d L)) (h0 : 0 ≤ l) (h1 : l ≤ L.length)
    (K : ∀ A c, SlAt v0 (.slice A (L.length - l.toNat) c) (Y.d (L.drop l.toNat)) → XL C all r Q ⟨(d, .v (.slice A (L.length - l.toNat) c)) :: kn, gk, ow, nx⟩ u) : XL C all (o :: r) Q ⟨kn, gk, ow, nx⟩ u := by
  refine xl_valE (fun v => ∃ A c, v = .slice A (L.length - l.toNat) c ∧ SlAt v0 (.slice A (L.length - l.toNat) c) (Y.d (L.drop l.toNat))) hgd hd (fun c hc => by rw [ho] at hc; cases hc) hf (fun E a w hok => ?_) (fun v hv => by
    obtain ⟨A, c, rfl, hb⟩ := hv
    exact K A c hb)
  have hgs : gs a.tmps [] := fun x hx => by cases hx
  obtain ⟨f, hsat⟩ := hok.sat
  have hu := (hT _ _ hti).isSlice hsh
  have hel : C.P.elem t = e := by simp [Program.elem, hu]
  have htek := hT _ _ hte
  obtain ⟨es, _⟩ := opd_sound hok.agr hgs hs
  obtain ⟨el, _⟩ := opd_sound hok.agr hgs hll
  simp only [SV.den] at el
  have hsl := hz E w f hsat.unmarked
  obtain ⟨A, c, hv⟩ := hsl.form
  rw [Lay.d_n] at hv
  rw [hv] at hsl
  have hdr := hsl.drop (l := l.toNat) (by omega)
  refine ⟨_, ?_, _, _, rfl, hdr⟩
  have := run_slice_l (P := C.P) w t A L.length c (by rw [hel]; exact hu) kl l h0 h1
  simp only [execOp, ho, Option.map_none, Option.map_some, es, hv, el]
  rw [Sem.run_bind, run_sliceAt_slice w t _ _ _ _ (by rw [hel]; exact hu), this, hel, run_sizeOf w htek, hsz]
  simp [Result.andThen, sliced]

/-- x[lo:hi] of a slice that stays -/
theorem xl_sub {α : Type} {T : TT} {C : Cx} (hT : TOk C.P T) {all : List Oper} {o : Oper} {r : List Oper} {Q : Post} {kn : Kn} {gk : List (Nat × (Gd × SV))} {ow : Own} {nx : Nat} {u : Im}
    (Y : Lay α) (L : List α) {t e d : Nat} {sv lv hv : Operand} {ti te : TI} {kl kh : IntKind} {l h : Int} {z : SV} {v0 : Im} (ho : o.op = .slice t sv (some lv) (some hv) none) (hgd : o.guard = none) (hd : o.dst = some d)
    (hti : look T t = some ti) (hsh : ti.shp = .slice e) (hte : look T e = some te) (hsz : te.sz = Y.fs.length)
    (hs : opd ⟨kn, gk, ow, nx⟩ [] sv = some z) (hll : opd ⟨kn, gk, ow, nx⟩ [] lv = some (.v (.int kl l))) (hhh : opd ⟨kn, gk, ow, nx⟩ [] hv = some (.v (.int kh h))) (hf : fresh C.N ⟨kn, gk, ow, nx⟩ d [] = true)
    (hz : ∀ E w F, Sat E ow nx u [] w F → SlAt v0 (z.den E) (Y.d L)) (h0 : 0 ≤ l) (h1 : l ≤ h) (h2 : h ≤ L.length)
    (K : ∀ A c, SlAt v0 (.slice A (h.toNat - l.toNat) c) (Y.d ((L.take h.toNat).drop l.toNat)) → XL C all r Q ⟨(d, .v (.slice A (h.toNat - l.toNat) c)) :: kn, gk, ow, nx⟩ u) : XL C all (o :: r) Q ⟨kn, gk, ow, nx⟩ u := by
  refine xl_valE (fun v => ∃ A c, v = .slice A (h.toNat - l.toNat) c ∧ SlAt v0 (.slice A (h.toNat - l.toNat) c) (Y.d ((L.take h.toNat).drop l.toNat))) hgd hd (fun c hc => by rw [ho] at hc; cases hc) hf (fun E a w hok => ?_) (fun v hv => by
    obtain ⟨A, c, rfl, hb⟩ := hv
    exact K A c hb)
  have hgs : gs a.tmps [] := fun x hx => by cases hx
  obtain ⟨f, hsat⟩ := hok.sat
  have hu := (hT _ _ hti).isSlice hsh
  have hel : C.P.elem t = e := by simp [Program.elem, hu]
  have htek := hT _ _ hte
  obtain ⟨es, _⟩ := opd_sound hok.agr hgs hs
  obtain ⟨el, _⟩ := opd_sound hok.agr hgs hll
  obtain ⟨eh, _⟩ := opd_sound hok.agr hgs hhh
  simp only [SV.den] at el eh
  have hsl := hz E w f hsat.unmarked
  obtain ⟨A, c, hv⟩ := hsl.form
  rw [Lay.d_n] at hv
  rw [hv] at hsl
  have hcap : L.length ≤ c := by
    obtain ⟨A', c', q1, q2, _⟩ := hsl
    cases q1; exact q2
  have hlh : (L.take h.toNat).length = h.toNat := by rw [List.length_take]; omega
  have hdr := (hsl.take (h := h.toNat) (by omega)).drop (l := l.toNat) (by omega)
  refine ⟨_, ?_, _, _, rfl, hdr⟩
  have := run_slice_lh (P := C.P) w t A L.length c (by rw [hel]; exact hu) kl kh l h h0 h1 (by omega)
  simp only [execOp, ho, Option.map_none, Option.map_some, es, hv, el, eh]
  rw [Sem.run_bind, run_sliceAt_slice w t _ _ _ _ (by rw [hel]; exact hu), this, hel, run_sizeOf w htek, hsz]
  simp [Result.andThen, sliced]

/-- a slice that lies in a slot, by a key of its own -/
theorem xl_sl {C : Cx} {all l : List Oper} {Q : Post} {kn : Kn} {ow : Own} {nx : Nat} {u : Im} (d : Nat) {x : Value} {D : Data} (hd : look kn d = some (.v x)) (hx : SlAt u x D)
    (h : XL C all l Q ⟨(d, .r nx) :: kn, [], (nx, .sl D) :: ow, nx + 1⟩ u) : XL C all l Q ⟨kn, [], ow, nx⟩ u := by
  unfold XL at h ⊢
  intro E a w hok
  obtain ⟨f, hsat⟩ := hok.sat
  have hE : ∀ k, k < nx → upd E nx x k = E k := fun k hk => upd_other _ _ (by omega)
  have hg := hok.agr.grow (E' := upd E nx x) (ow := (nx, .sl D) :: ow) (nx := nx + 1) hE (Nat.le_succ _)
  have hsat' : Sat (upd E nx x) ((nx, .sl D) :: ow) (nx + 1) u a.defers w (upd f nx (fun _ => False)) := by
    refine hsat.step (fun k => k = nx) hE (Nat.le_succ _) (Im.le.refl u) hsat.imm (Nat.le_refl _) (fun b _ _ => rfl) ?_ ?_ ?_ (fun b o ho => .inl ho)
    · intro k hk
      exact ⟨by rw [look_cons, if_neg (fun e => hk e.symm)], fun b => by rw [upd_other _ _ hk]⟩
    · rintro k rfl
      refine ⟨fun r hr => ?_, fun hr => ?_, fun b hb => ?_⟩
      · rw [look_cons, if_pos rfl] at hr
        cases hr
        refine ⟨⟨by rw [upd_same]; exact hx, fun y hy => by rw [upd_same] at hy; exact hy⟩, Nat.lt_succ_self _, trivial⟩
      · rw [look_cons, if_pos rfl] at hr; cases hr
      · rw [upd_same] at hb; exact hb.elim
    · intro k k' b hk hk' hne; subst hk hk'; exact absurd rfl hne
  obtain ⟨A, c, hv⟩ := hx.form
  have := h (upd E nx x) a w ⟨⟨hg.size, fun t s h1 h2 => ?_, fun t g s h1 => (by cases h1), fun t s h2 => ?_, fun t g s h1 => (by cases h1)⟩, _, hsat'⟩
  · exact wpListIn_monoQ (fun e a w => SemQ.mono hE (Nat.le_succ _) (Im.le.refl u)) _ _ _ this
  · rw [look_cons] at h2
    split at h2
    · rename_i e1; subst e1; cases h2
      rw [hok.agr.kn _ _ rfl hd]
      simp only [SV.den, upd_same]
    · exact hg.kn t s h1 h2
  · rw [look_cons] at h2
    split at h2
    · cases h2; exact ⟨Nat.lt_succ_self _, A, D.n, c, by rw [upd_same]; exact hv⟩
    · exact hg.klt t s h2

/-- a call whose answer is a slice that is new -/
theorem xl_callV {C : Cx} {all : List Oper} {o : Oper} {r : List Oper} {Q : Post} {kn : Kn} {gk : List (Nat × (Gd × SV))} {ow : Own} {nx : Nat} {u : Im} {c : Call} (D : Data) (ho : o.op = .call c) (hgd : o.guard = none) {f d : Nat} (hd : o.dst = some d)
    (hc : callee ⟨kn, gk, ow, nx⟩ c = some f) (hfn : Fn1 C.P f) {ss : List SV} (hargs : argsOf ⟨kn, gk, ow, nx⟩ [] c.args.toList = some ss) (hfr : fresh C.N ⟨kn, gk, ow, nx⟩ d [] = true)
    (H : ∀ E w F, Sat E ow nx u [] w F → Calls C.P f (ss.map (SV.den E)).toArray w (PureP w fun v u => SlAt u v D))
    (K : ∀ A c u', u.le u' → SlAt (cut u.lo u') (.slice A D.n c) D → XL C all r Q ⟨(d, .v (.slice A D.n c)) :: kn, gk, ow, nx⟩ u') :
    XL C all (o :: r) Q ⟨kn, gk, ow, nx⟩ u :=
  xl_call (fun v u => SlAt u v D) ho hgd hd hc hfn hargs hfr H fun v u1 u' hu hu1 hR => by
    obtain ⟨A, cc, rfl⟩ := hR.form
    exact K A cc u' hu (hR.sub hu1)

/-- a function that hands back a slice -/
theorem finS {w0 : World} {ow : Own} {nx : Nat} {u : Im} {x : Value} {D : Data} (h : SlAt (cut w0.heap.size u) x D) : Done w0 (fun v u => SlAt u v D) [.v x] ow nx u :=
  finP fun _ _ _ hs _ => h.sub (hs.imm.cutLe _)

theorem x_sl {C : Cx} {cc : Code} {Q : Post} {kn : Kn} {ow : Own} {nx : Nat} {u : Im} (d : Nat) {x : Value} {D : Data} (hd : look kn d = some (.v x)) (hx : SlAt u x D)
    (h : X C cc Q ⟨(d, .r nx) :: kn, [], (nx, .sl D) :: ow, nx + 1⟩ u) : X C cc Q ⟨kn, [], ow, nx⟩ u := by
  unfold X at h ⊢
  intro E a w hok
  obtain ⟨f, hsat⟩ := hok.sat
  have hE : ∀ k, k < nx → upd E nx x k = E k := fun k hk => upd_other _ _ (by omega)
  have hg := hok.agr.grow (E' := upd E nx x) (ow := (nx, .sl D) :: ow) (nx := nx + 1) hE (Nat.le_succ _)
  have hsat' : Sat (upd E nx x) ((nx, .sl D) :: ow) (nx + 1) u a.defers w (upd f nx (fun _ => False)) := by
    refine hsat.step (fun k => k = nx) hE (Nat.le_succ _) (Im.le.refl u) hsat.imm (Nat.le_refl _) (fun b _ _ => rfl) ?_ ?_ ?_ (fun b o ho => .inl ho)
    · intro k hk
      exact ⟨by rw [look_cons, if_neg (fun e => hk e.symm)], fun b => by rw [upd_other _ _ hk]⟩
    · rintro k rfl
      refine ⟨fun r hr => ?_, fun hr => ?_, fun b hb => ?_⟩
      · rw [look_cons, if_pos rfl] at hr
        cases hr
        refine ⟨⟨by rw [upd_same]; exact hx, fun y hy => by rw [upd_same] at hy; exact hy⟩, Nat.lt_succ_self _, trivial⟩
      · rw [look_cons, if_pos rfl] at hr; cases hr
      · rw [upd_same] at hb; exact hb.elim
    · intro k k' b hk hk' hne; subst hk hk'; exact absurd rfl hne
  obtain ⟨A, c, hv⟩ := hx.form
  have := h (upd E nx x) a w ⟨⟨hg.size, fun t s h1 h2 => ?_, fun t g s h1 => (by cases h1), fun t s h2 => ?_, fun t g s h1 => (by cases h1)⟩, _, hsat'⟩
  · exact Go.wpIn_mono this (fun e a w => SemQ.mono hE (Nat.le_succ _) (Im.le.refl u))
  · rw [look_cons] at h2
    split at h2
    · rename_i e1; subst e1; cases h2
      rw [hok.agr.kn _ _ rfl hd]
      simp only [SV.den, upd_same]
    · exact hg.kn t s h1 h2
  · rw [look_cons] at h2
    split at h2
    · cases h2; exact ⟨Nat.lt_succ_self _, A, D.n, c, by rw [upd_same]; exact hv⟩
    · exact hg.klt t s h2

/-- a guarded call whose answer is a slice that is new, of which only the length is asked -/
theorem xl_gcallN {C : Cx} {all : List Oper} {o : Oper} {r : List Oper} {Q : Post} {st : St} {u : Im} {c : Call} (D : Data) {g : Gd} {f d : Nat}
    (ho : o.op = .call c) (hg : guardOf all st o = some g) (hd : o.dst = some d)
    (hc : callee st c = some f) (hfn : Fn1 C.P f) {ss : List SV} (hargs : argsOf st g c.args.toList = some ss) (hfr : fresh C.N st d g = true)
    (H : allL (gprops st g) → ∀ E w F, Sat E st.ow st.nx u [] w F → Calls C.P f (ss.map (SV.den E)).toArray w (PureP w fun v u => SlAt u v D))
    (K : ∀ A c u', u.le u' → XL C all r Q (st.put d g (.v (.slice A D.n c))) u') : XL C all (o :: r) Q st u := by
  unfold XL at K ⊢
  intro E a w hok
  have hgd := guard_sound (all := all.toArray) hok.agr (by simpa using hg)
  obtain ⟨fF, hsat⟩ := hok.sat
  have go : ∀ A cc u' x w' f', u.le u' → Sat E st.ow st.nx u' a.defers w' f' → (gs a.tmps g → x = .slice A D.n cc) → (¬ gs a.tmps g → x = undef) →
      wpListIn (FR C.ro) 0 C.P all.toArray (SemQ C E st.nx u Q) r (a.put o.dst x) w' := by
    intro A cc u' x w' f' hu hs hx hnx'
    have how : (st.put d g (.v (.slice A D.n cc))).ow = st.ow := by cases g <;> rfl
    have hnx : (st.put d g (.v (.slice A D.n cc))).nx = st.nx := by cases g <;> rfl
    have hput : Agr C.N E (st.put d g (.v (.slice A D.n cc))) (a.tmps.setIfInBounds d x) :=
      hok.agr.put hfr (fun _ => trivial) hx hnx' (fun hn => by subst hn; exact hx (fun y hy => by cases hy))
    have := K A cc u' hu E (a.put o.dst x) w' ⟨by rw [hd]; exact hput, f', by rw [how, hnx, hd]; exact hs⟩
    rw [hnx] at this
    exact wpListIn_monoQ (fun e a w => SemQ.mono (fun _ _ => rfl) (Nat.le_refl _) hu) _ _ _ this
  unfold wpListIn
  by_cases hw : Region.wanted o (yielded all.toArray a.tmps) = true
  · have hgs := hgd.1 hw
    rw [if_pos hw]
    refine ⟨fun _ _ => trivial, ?_⟩
    rw [semAt_eq _ _ _ (fun c' hc' => by rw [ho] at hc'; cases hc'), call_runG ho hc hfn hargs hok hgs, Oper.uponIn_enter]
    have hall := allL_of (gprops_sound hok.agr hgs (fun _ _ _ => trivial))
    refine ⟨fun h => (by cases h), (calls_in (H hall E w fF hsat.unmarked)).mono ?_⟩
    rintro e w' ⟨x, rfl, hbel, hR⟩
    obtain ⟨u', hu, hsat', hsub⟩ := hsat.grow hbel
    obtain ⟨A, cc, rfl⟩ := hR.form
    exact go A cc u' _ w' fF hu hsat' (fun _ => rfl) (fun hn => absurd hgs hn)
  · have hgs := hgd.2 (by simpa using hw)
    rw [if_neg hw]
    exact ⟨fun _ _ => trivial, go none 0 u _ w fF (Im.le.refl u) hsat (fun hy => absurd hy hgs) (fun _ => rfl)⟩

end Go.GV
