/- Part 2 of the lemmas behind the claim: GW, GX, Ty, S1. -/
import Derived.Test.YtnjmkeijjapejaaDoorXI1
import Derived.SizedLaws
import Derived.Lib.Builder
import Derived.Lib.AppendStr
import Derived.Lib.UnsafeStr
import Derived.Laws.Pointers
import Derived.Laws.IdiomStrings
import Derived.Laws.BytesArg
import Derived.Laws.MakeOwn
import Derived.Laws.OwnMore
import Derived.Test.YtnjmkeijjapejaaDoorProg
import Derived.KernelRfl
import Derived.Laws.Externs
set_option linter.unusedSimpArgs false
set_option linter.unusedVariables false
namespace Go.GV
open Go.RowKit
def pureOp : Op → Bool
  | .move _ => true
  | .assign _ => true
  | .binOp _ _ _ _ _ => true
  | .unOp _ _ _ => true
  | .extract _ _ => true
  | .field _ _ _ => true
  | .fieldAddr _ _ _ => true
  | _ => false
theorem eff_pure {C : Cx} {T : TT} {E : Env} {st : St} {a : Act} {g : Gd} (hT : TOk C.P T) {o : Oper} {s : SV} {side : List Prop}
    (hx : ∀ (x : Operand) z, opd st g x = some z → a.eval x = z.den E ∧ z.lt E st.nx) (hp : pureOp o.op = true)
    (he : eff T st g o.op = .val s side) (hs : allP side) (w : World) : (execOp a.eval o).run C.P w = .ok (.value (s.den E)) w ∧ s.lt E st.nx := by
  have hx1 : ∀ (x : Operand) z, opd st g x = some z → a.eval x = z.den E := fun x z h => (hx x z h).1
  obtain ⟨dst, op, ty, pos, after, guard⟩ := o
  simp only at he hp
  cases op <;> simp only [pureOp] at hp <;> try (cases hp; done)
  case move x =>
    simp only [eff] at he
    split at he
    · rename_i s' hx'
      cases he
      obtain ⟨h1, h2⟩ := hx _ _ hx'
      exact ⟨by simp [execOp, h1], h2⟩
    · cases he
  case assign x =>
    simp only [eff] at he
    split at he
    · rename_i s' hx'
      cases he
      obtain ⟨h1, h2⟩ := hx _ _ hx'
      exact ⟨by simp [execOp, h1], h2⟩
    · cases he
  case binOp op t x y t' =>
    simp only [eff] at he
    obtain ⟨h1, h2⟩ := bin_sound (w := w) hT (hx1 _) (hx1 _) he hs
    refine ⟨?_, h2 _⟩
    simp only [execOp]
    rw [Sem.run_bind, h1]; rfl
  case unOp op t x =>
    simp only [eff] at he
    obtain ⟨h1, h2⟩ := un_sound (C := C) (w := w) (hx1 _) he hs
    refine ⟨?_, h2 _⟩
    simp only [execOp]
    rw [Sem.run_bind, h1]; rfl
  case extract x i =>
    simp only [eff] at he
    obtain ⟨h1, h2⟩ := extract_sound (C := C) (st := st) (w := w) (hx _) he
    refine ⟨?_, h2⟩
    simp only [execOp]
    rw [Sem.run_bind, h1]; rfl
  case field t x f =>
    simp only [eff] at he
    obtain ⟨h1, h2⟩ := field_sound (w := w) hT (hx1 _) he
    refine ⟨?_, h2 _⟩
    simp only [execOp]
    rw [Sem.run_bind, h1]; rfl
  case fieldAddr t x f =>
    simp only [eff] at he
    obtain ⟨h1, h2⟩ := fieldAddr_sound (w := w) hT (hx _) he
    refine ⟨?_, h2⟩
    simp only [execOp]
    rw [Sem.run_bind, h1]; rfl
def marks (listed : Array Bool) : List Nat → Array Bool
  | [] => listed
  | i :: r => marks (listed.setIfInBounds i true) r
def lexL (md : Region.Mode) (ops : Array Oper) : List Nat → Array Bool → Bool
  | [], _ => true
  | i :: r, listed => (Region.ready md ops listed).contains i && Region.free md ops listed i && lexL md ops r (listed.setIfInBounds i true)
def opsAt (ops : List Oper) : List Nat → List Oper
  | [] => []
  | i :: r => match ops[i]? with
    | some o => o :: opsAt ops r
    | none => []
def noDefer (ops : Array Oper) : Bool := ops.all fun o => match o.op with | .defer _ => false | _ => true
theorem noDefer_spec {ops : Array Oper} (h : noDefer ops = true) (j : Nat) (o : Oper) (ho : ops[j]? = some o) (c : Call) : o.op ≠ .defer c := by
  intro heq
  have := Array.all_eq_true_iff_forall_mem.1 h o (Array.mem_of_getElem? ho)
  simp [heq] at this
theorem op_put' {ro : Option Nat} {P : Program} {ops : Array Oper} {Q : Exit → Act → World → Prop} {j : Nat} {oi oj : Oper} {v : Value} (hj : ops[j]? = some oj) (hap : oi.apart ops oj = true)
    (hsi : ∀ cs b, oi.op ≠ .select cs b) (hsj : ∀ cs b, oj.op ≠ .select cs b) (hdj : ∀ c, oj.op ≠ .defer c)
    (hQ : ∀ c a w, Q (.panic c) (a.put oi.dst v) w → Q (.panic c) a w) {K : Act → World → Prop} {a : Act} {w : World}
    (hy : YW P ops oi v a) (h : wpOpIn (FR ro) 0 P ops Q j K (a.put oi.dst v) w) :
    wpOpIn (FR ro) 0 P ops Q j (fun a' w' => YW P ops oi v a' ∧ K (a'.put oi.dst v) w') a w := by
  obtain ⟨h1, h2, h3⟩ := Oper.apart_spec hap
  have keep : ∀ (a : Act), YW P ops oi v a → ∀ u, YW P ops oi v (a.put oj.dst u) := fun a hy u =>
    hy.of_same (execOp_put oi hsi a oj.dst u h3) (wanted_put oi a oj.dst u h3)
  unfold wpOpIn at *
  simp only [hj] at *
  rw [wanted_put oj a oi.dst v h1] at h
  split
  · rename_i hw
    rw [if_pos hw] at h
    refine ⟨fun _ _ => trivial, ?_⟩
    have h := h.2
    rw [semAt_eq _ _ _ hdj, execOp_put oj hsj a oi.dst v h1] at h
    rw [semAt_eq _ _ _ hdj]
    generalize (execOp a.eval oj).run P w = r at *
    cases r with
    | ok x w' =>
      cases x <;> simp only [Oper.uponIn] at h ⊢
      case value u => exact ⟨keep a hy u, by rw [← Act.put_comm a v u h2]; exact h⟩
      case skip => exact ⟨keep a hy _, by rw [← Act.put_comm a v undef h2]; exact h⟩
      case defer d =>
        refine ⟨keep { a with defers := d :: a.defers } (hy.of_same rfl rfl) _, ?_⟩
        rw [← Act.put_comm _ v undef h2, ← Act.put_defers]
        exact h
      case enter f args =>
        refine ⟨h.1, CallsIn.mono h.2 fun e w'' he => ?_⟩
        cases e with
        | returned u => exact ⟨keep a hy u, by rw [← Act.put_comm a v u h2]; exact he⟩
        | panicked c => exact hQ _ _ _ he
        | outgrown => exact he
      case row row args => exact ⟨h.1, RowsIn.mono h.2 fun u w'' he => ⟨keep a hy u, by rw [← Act.put_comm a v u h2]; exact he⟩⟩
      case round l f tmps assign body =>
        refine ⟨h.1, RoundIn.mono h.2 fun e w'' he => ?_⟩
        cases e with
        | returned u => exact ⟨keep a hy u, by rw [← Act.put_comm a v u h2]; exact he⟩
        | panicked c => exact hQ _ _ _ he
        | outgrown => exact he
    | halt x w' =>
      cases x <;> simp only [Oper.uponIn] at h ⊢
      case panic u => exact hQ _ _ _ h
  · rename_i hw
    rw [if_neg hw] at h
    exact ⟨fun _ _ => trivial, keep a hy _, by rw [← Act.put_comm a v undef h2]; exact h.2⟩
theorem wpOpIn_post {ro : Option Nat} {P : Program} {ops : Array Oper} {Q Q' : Exit → Act → World → Prop} {K K' : Act → World → Prop} (h : ∀ e a w, e ≠ .normal → Q e a w → Q' e a w) (hK : ∀ a w, K a w → K' a w)
    {i : Nat} {a : Act} {w : World} (hh : wpOpIn (FR ro) 0 P ops Q i K a w) : wpOpIn (FR ro) 0 P ops Q' i K' a w := by
  unfold wpOpIn at hh ⊢
  split
  · rename_i ho; simp only [ho] at hh; exact hK _ _ hh
  · rename_i o ho
    simp only [ho] at hh
    split
    · rename_i hw
      rw [if_pos hw] at hh
      obtain ⟨h1, h2⟩ := hh
      refine ⟨h1, ?_⟩
      generalize (o.semAt (FR ro).round a.eval).run P w = res at h2 ⊢
      have hlet : LetsOut Q → LetsOut Q' := fun ⟨a, w, hq⟩ => ⟨a, w, h _ _ _ (by simp) hq⟩
      cases res with
      | ok nx w' =>
        cases nx <;> simp only [Oper.uponIn] at h2 ⊢ <;> first
          | exact hK _ _ h2
          | exact ⟨h2.1, CallsIn.mono h2.2 (fun e w'' he => by cases e <;> first | exact hK _ _ he | exact h _ _ _ (by simp) he | exact hlet he)⟩
          | exact ⟨h2.1, RowsIn.mono h2.2 (fun _ _ he => hK _ _ he)⟩
          | exact ⟨h2.1, RoundIn.mono h2.2 (fun e w'' he => by cases e <;> first | exact hK _ _ he | exact h _ _ _ (by simp) he | exact hlet he)⟩
          | exact h2
      | halt x w' => cases x <;> simp only [Oper.uponIn] at h2 ⊢ <;> first | exact h _ _ _ (by simp) h2 | exact h2
    · rename_i hw
      rw [if_neg hw] at hh
      exact ⟨hh.1, hK _ _ hh.2⟩
theorem wpAnyIn_post {ro : Option Nat} {P : Program} {md : Region.Mode} {ops : Array Oper} {Q Q' : Exit → Act → World → Prop} (h : ∀ e a w, Q e a w → Q' e a w) :
    ∀ {fuel : Nat} {listed : Array Bool} {a : Act} {w : World}, wpAnyIn (FR ro) 0 P md ops Q fuel listed a w → wpAnyIn (FR ro) 0 P md ops Q' fuel listed a w
  | 0, _, _, _, hh => ⟨hh.1, h _ _ _ hh.2⟩
  | _ + 1, _, _, _, hh => ⟨fun h0 => h _ _ _ (hh.1 h0), fun i hi => wpOpIn_post (fun e a w _ => h e a w) (fun _ _ hk => wpAnyIn_post h hk) (hh.2 i hi)⟩
theorem wpAny_ahead {ro : Option Nat} {P : Program} {md : Region.Mode} {ops : Array Oper} {Q : Exit → Act → World → Prop} {i : Nat} {oi : Oper} {v : Value} (hi : ops[i]? = some oi)
    (hsel : ∀ (j : Nat) (o : Oper) cs b, ops[j]? = some o → o.op ≠ .select cs b) (hdef : ∀ (j : Nat) (o : Oper), ops[j]? = some o → ∀ c, o.op ≠ .defer c)
    (hQ : ∀ c a w, Q (.panic c) (a.put oi.dst v) w → Q (.panic c) a w) :
    ∀ (fuel : Nat) (listed : Array Bool) (a : Act) (w : World),
      (∀ j oj, ops[j]? = some oj → j ≠ i → listed.getD j true = false → (∀ e ∈ oj.after, Region.binds md e = true → e.on ≠ i) → oi.apart ops oj = true) →
      i ∈ Region.ready md ops listed → YW P ops oi v a →
      wpAnyIn (FR ro) 0 P md ops Q fuel (listed.setIfInBounds i true) (a.put oi.dst v) w → wpAnyIn (FR ro) 0 P md ops Q (fuel + 1) listed a w := by
  intro fuel
  induction fuel with
  | zero =>
    intro listed a w _ hr hy H
    refine ⟨fun h => (by rw [h] at hr; cases hr), fun j hj => ?_⟩
    by_cases hji : j = i
    · subst hji; exact hy.op hi H
    · have := ready_mono hj hji
      rw [H.1] at this
      cases this
  | succ fuel ih =>
    intro listed a w hfree hr hy H
    refine ⟨fun h => (by rw [h] at hr; cases hr), fun j hj => ?_⟩
    by_cases hji : j = i
    · subst hji; exact hy.op hi H
    · have h1 := H.2 j (ready_mono hj hji)
      obtain ⟨hjun, oj, hoj, hall⟩ := mem_ready.1 hj
      have hnot : ∀ e ∈ oj.after, Region.binds md e = true → e.on ≠ i := fun e he hb heq => by
        have h1 := hall e he hb
        have h0 := (mem_ready.1 hr).1
        rw [heq] at h1
        rcases Nat.lt_or_ge i listed.size with h' | h'
        · simp [h'] at h0 h1; rw [h0] at h1; cases h1
        · simp [Array.getElem?_eq_none h'] at h1
      have h2 := op_put' hoj (hfree j oj hoj hji hjun hnot) (fun cs b => hsel i oi cs b hi) (fun cs b => hsel j oj cs b hoj) (hdef j oj hoj) hQ hy h1
      have hfree' : ∀ k ok, ops[k]? = some ok → k ≠ i → (listed.setIfInBounds j true).getD k true = false →
          (∀ e ∈ ok.after, Region.binds md e = true → e.on ≠ i) → oi.apart ops ok = true := fun k ok hk hki hun hno => by
        refine hfree k ok hk hki ?_ hno
        by_cases hjk : j = k
        · subst hjk; exact hjun
        · rw [getD_set_ne true hjk] at hun; exact hun
      refine wpOpIn_mono (fun a' w' h3 => ih (listed.setIfInBounds j true) a' w' hfree' (ready_mono hr (Ne.symm hji)) h3.1 ?_) h2
      rw [Array.setIfInBounds_comm _ _ hji]
      exact h3.2
def XA (C : Cx) (ops : Array Oper) (fuel : Nat) (listed : Array Bool) (Q : Post) (st : St) (u : Im) : Prop :=
  ∀ E a w, Ok C E st u a w → wpAnyIn (FR C.ro) 0 C.P .any ops (SemQ C E st.nx u Q) fuel listed a w
theorem x_drawA {C : Cx} {id : Nat} {ops : Array Oper} {Q : Post} {st : St} {u : Im} (hm : C.P.follows .mixedOrders = true)
    (h : XA C ops ops.size (Array.replicate ops.size false) Q st u) : X C (.region id ops true) Q st u := by
  unfold X
  intro E a w hok
  obtain ⟨f, hsat⟩ := hok.sat
  exact wpIn_region_any hm (h E a _ ⟨hok.agr, f, hsat.drawn⟩)
theorem xa_done {C : Cx} {ops : Array Oper} {fuel : Nat} {listed : Array Bool} {Q : Post} {st : St} {u : Im} (hr : Region.ready .any ops listed = [])
    (hg : gkOk st.kn st.gk = true) (h : Q .normal st.shut u) : XA C ops fuel listed Q st u := by
  intro E a w hok
  exact wpAnyIn_done hr ⟨E, st.shut, u, fun _ _ => rfl, Nat.le_refl _, Im.le.refl u, ⟨hok.agr.shut hg, hok.sat⟩, h⟩ fuel
theorem xl_end {C : Cx} {all : List Oper} {Q : Post} {st : St} {u : Im} (h : Q .normal st u) : XL C all [] Q st u := by
  unfold XL
  intro E a w hok
  exact ⟨E, st, u, fun _ _ => rfl, Nat.le_refl _, Im.le.refl u, hok, h⟩
theorem xa_one {C : Cx} {ops : Array Oper} {fuel : Nat} {listed : Array Bool} {Q : Post} {st : St} {u : Im} (i : Nat) {o : Oper} (hr : Region.ready .any ops listed = [i])
    (ho : ops.toList[i]? = some o) (h : XL C ops.toList [o] (thn (XA C ops fuel (listed.setIfInBounds i true) Q) Q) st u) : XA C ops (fuel + 1) listed Q st u := by
  intro E a w hok
  refine wpAnyIn_all hr (by simp) fun j hj => ?_
  have : j = i := by simpa using hj
  subst this
  unfold XL at h
  have h1 := h E a w hok
  have ho' : ops[j]? = some o := by simpa using ho
  have key : wpOpIn (FR C.ro) 0 C.P ops (SemQ C E st.nx u (thn (XA C ops fuel (listed.setIfInBounds j true) Q) Q)) j
      (fun a' w' => SemQ C E st.nx u (thn (XA C ops fuel (listed.setIfInBounds j true) Q) Q) .normal a' w') a w := by
    unfold wpOpIn
    simp only [ho']
    unfold wpListIn at h1
    simp only [wpListIn] at h1
    exact h1
  refine wpOpIn_post ?_ ?_ key
  · rintro e a' w' hne ⟨E', st', u', h2, h3, h4, h5, h6⟩
    cases e with
    | normal => exact absurd rfl hne
    | exit id => exact ⟨E', st', u', h2, h3, h4, h5, h6⟩
    | goto l => exact ⟨E', st', u', h2, h3, h4, h5, h6⟩
    | ret => exact ⟨E', st', u', h2, h3, h4, h5, h6⟩
    | panic c => exact ⟨E', st', u', h2, h3, h4, h5, h6⟩
    | outgrown => exact ⟨E', st', u', h2, h3, h4, h5, h6⟩
  · rintro a' w' ⟨E', st', u', h2, h3, h4, h5, h6⟩
    exact wpAnyIn_post (fun e a w => SemQ.mono h2 h3 h4) (h6 E' a' w' h5)
theorem xa_pure {C : Cx} {T : TT} (hT : TOk C.P T) {ops : Array Oper} {fuel : Nat} {listed : Array Bool} {Q : Post} {st : St} {u : Im} {i d : Nat} {o : Oper} {g : Gd} {s : SV} {side : List Prop}
    (hsel : Region.noSelect ops = true) (hdf : noDefer ops = true) (hQ : ∀ c st u, Q (.panic c) st u → False) (ho : ops.toList[i]? = some o)
    (hr : (Region.ready .any ops listed).contains i = true) (hf : Region.free .any ops listed i = true) (hp : pureOp o.op = true)
    (hg : guardOf ops.toList st o = some g) (he : eff T st g o.op = .val s side) (hd : o.dst = some d) (hfr : fresh C.N st d g = true)
    (hside : (∀ p ∈ gprops st g, p) → allP side)
    (K : XA C ops fuel (listed.setIfInBounds i true) Q (st.put d g s) u) : XA C ops (fuel + 1) listed Q st u := by
  intro E a w hok
  have ho' : ops[i]? = some o := by simpa using ho
  have how : (st.put d g s).ow = st.ow := by cases g <;> rfl
  have hnx : (st.put d g s).nx = st.nx := by cases g <;> rfl
  have hgd := guard_sound (all := ops) hok.agr hg
  have hrun : gs a.tmps g → ∀ w, (execOp a.eval o).run C.P w = .ok (.value (s.den E)) w ∧ s.lt E st.nx := fun hgs w =>
    eff_pure (C := C) hT (fun x z h => opd_sound hok.agr hgs h) hp he (hside (gprops_sound hok.agr hgs (fun _ _ _ => trivial))) w
  have hpan : ∀ x c a w, SemQ C E st.nx u Q (.panic c) (Act.put a o.dst x) w → SemQ C E st.nx u Q (.panic c) a w := fun x c a w ⟨_, st', u', _, _, _, _, h5⟩ => (hQ _ _ _ h5).elim
  have go : ∀ x, (gs a.tmps g → x = s.den E) → (¬ gs a.tmps g → x = undef) → YW C.P ops o x a → wpAnyIn (FR C.ro) 0 C.P .any ops (SemQ C E st.nx u Q) (fuel + 1) listed a w := by
    intro x hx hnx' hy
    have hput : Agr C.N E (st.put d g s) (a.tmps.setIfInBounds d x) :=
      hok.agr.put hfr (fun hgs => (hrun hgs w).2) hx hnx' (fun hn => by subst hn; exact hx (fun y hy => by cases hy))
    refine wpAny_ahead ho' (Region.noSelect_spec hsel) (noDefer_spec hdf) (hpan x) fuel listed a w (Region.free_spec ho' hf) (by simpa using hr) hy ?_
    have := K E (a.put o.dst x) w ⟨by rw [hd]; exact hput, by rw [how, hnx, hd]; exact hok.sat⟩
    rwa [hnx] at this
  by_cases hw : Region.wanted o (yielded ops a.tmps) = true
  · have hgs := hgd.1 hw
    exact go _ (fun _ => rfl) (fun hn => absurd hgs hn) (.inl ⟨hw, notDefer_of_val he, fun w => (hrun hgs w).1⟩)
  · have hgs := hgd.2 (by simpa using hw)
    exact go undef (fun hy => absurd hy hgs) (fun _ => rfl) (.inr ⟨by simpa using hw, rfl⟩)
def xap (T : TT) (N : Nat) (all : List Oper) (K : St → Prop) : List Oper → St → Prop
  | [], st => K st
  | o :: r, st => match pureOp o.op with
    | false => False
    | true => match guardOf all st o with
      | none => False
      | some g => match eff T st g o.op with
        | .val s side => match o.dst with
          | some d => match fresh N st d g with
            | true => sides (gprops st g) side (st.putK d g s (xap T N all K r))
            | false => False
          | none => False
        | .stuck => False
def hasAll (ops : List Oper) : List Nat → Bool
  | [] => true
  | i :: r => ops[i]?.isSome && hasAll ops r
theorem xa_pures0 {T : TT} {C : Cx} (hT : TOk C.P T) {ops : Array Oper} {Q : Post} {u : Im} (hsel : Region.noSelect ops = true) (hdf : noDefer ops = true)
    (hQ : ∀ c st u, Q (.panic c) st u → False) {fuel : Nat} : ∀ (l : List Nat) (listed : Array Bool) (st : St), hasAll ops.toList l = true → lexL .any ops l listed = true →
      xap T C.N ops.toList (fun st => XA C ops fuel (marks listed l) Q st u) (opsAt ops.toList l) st → XA C ops (fuel + l.length) listed Q st u
  | [], _, _, _, _, h => h
  | i :: l, listed, st, ha, hl, h => by
    simp only [hasAll, Bool.and_eq_true] at ha
    simp only [lexL, Bool.and_eq_true] at hl
    obtain ⟨o, ho⟩ := Option.isSome_iff_exists.1 ha.1
    simp only [opsAt, ho] at h
    unfold xap at h
    split at h
    · exact h.elim
    · rename_i hp
      split at h
      · exact h.elim
      · rename_i g hg
        split at h
        · rename_i s side he
          split at h
          · rename_i d hd
            split at h
            · rename_i hf
              rw [St.putK_eq] at h
              have h1 := sides_split h
              exact xa_pure hT hsel hdf hQ ho hl.1.1 hl.1.2 hp hg he hd hf h1.2 (xa_pures0 hT hsel hdf hQ l _ _ ha.2 hl.2 h1.1)
            · exact h.elim
          · exact h.elim
        · exact h.elim
theorem xa_pures {T : TT} {C : Cx} (hT : TOk C.P T) {ops : Array Oper} {Q : Post} {st : St} {u : Im} {fuel n : Nat} {listed : Array Bool} (l : List Nat) (hn : n = fuel + l.length)
    (hsel : Region.noSelect ops = true) (hdf : noDefer ops = true) (hQ : ∀ c st u, Q (.panic c) st u → False) (ha : hasAll ops.toList l = true) (hl : lexL .any ops l listed = true)
    (h : st.force fun st => xap T C.N ops.toList (fun st => XA C ops fuel (marks listed l) Q st u) (opsAt ops.toList l) st) : XA C ops n listed Q st u := by
  subst hn
  rw [St.force_eq] at h
  exact xa_pures0 hT hsel hdf hQ l listed st ha hl h
theorem anyP_lex {ro : Option Nat} {P : Program} {ops : Array Oper} {Inv : World → Prop} {md : Region.Mode} {Q : Act → Prop} {target : Array Bool} (hs : Region.noSelect ops = true) :
    ∀ (l : List Nat) (listed : Array Bool) (a : Act), hasAll ops.toList l = true → lexL md ops l listed = true → phaseB md ops target l.length listed = true →
      stillI ro P ops Inv Q (opsAt ops.toList l) a → anyP ro P md ops Inv Q l.length listed a
  | [], _, _, _, _, _, h => h
  | i :: l, listed, a, ha, hl, hb, h => by
    simp only [hasAll, Bool.and_eq_true] at ha
    simp only [lexL, Bool.and_eq_true] at hl
    obtain ⟨o, ho⟩ := Option.isSome_iff_exists.1 ha.1
    simp only [opsAt, ho] at h
    obtain ⟨v, hy, hK⟩ := h
    have ho' : ops[i]? = some o := by simpa using ho
    have hr : i ∈ Region.ready md ops listed := by simpa using hl.1.1
    have hb2 : phaseB md ops target l.length (listed.setIfInBounds i true) = true := by
      have hb1 := hb
      simp only [List.length_cons, phaseB, Bool.and_eq_true, List.all_eq_true] at hb1
      exact hb1.2 i hr
    exact anyP_first ho' (Region.noSelect_spec hs) l.length listed a (Region.free_spec ho' hl.1.2) hr hb hy
      (anyP_lex hs l _ _ ha.2 hl.2 hb2 hK)
theorem xa_phase {T : TT} {C : Cx} (hT : TOk C.P T) {ops : Array Oper} {Q : Post} {st : St} {u : Im} {fuel n : Nat} {listed : Array Bool} (l : List Nat) (hn : n = l.length + fuel)
    (hsel : Region.noSelect ops = true) (ha : hasAll ops.toList l = true) (hl : lexL .any ops l listed = true) (hb : phaseB .any ops (marks listed l) l.length listed = true)
    (h : XD C ops.toList (opsAt ops.toList l) (fun st => XA C ops fuel (marks listed l) Q st u) st u) : XA C ops n listed Q st u := by
  subst hn
  intro E a w hok
  obtain ⟨f, hsat⟩ := hok.sat
  unfold XD at h
  have h1 := h E a w hok
  simp only [Array.toArray_toList] at h1
  refine wpAny_of_anyP (Inv := fun w => ∃ f, Sat E st.ow st.nx u a.defers w f) (target := marks listed l) ?_ l.length listed a w ⟨f, hsat⟩ hb (anyP_lex hsel l listed a ha hl hb h1)
  rintro a' w' ⟨h2, st', h3, h4, h5, h6⟩ hi
  have := h6 E a' w' ⟨h5, by rw [h3, h4, h2]; exact hi⟩
  rwa [h4] at this
theorem SlAt.keep {u u' : Im} {lo : Nat} {v : Value} {D : Data} (h : SlAt (cut lo u) v D) (hu : u.le u') : SlAt (cut lo u') v D := h.sub (hu.cut lo)
theorem SlAt.le {u u' : Im} {v : Value} {D : Data} (h : SlAt u v D) (hu : u.le u') : SlAt u' v D := h.sub hu.sub
theorem x_ift {b : Bool} {p q : Prop} (h : b = true) (hp : p) : Ways b p q := x_if (fun _ => hp) (fun h' => by rw [h] at h'; cases h')
theorem x_iff {b : Bool} {p q : Prop} (h : b = false) (hq : q) : Ways b p q := x_if (fun h' => by rw [h] at h'; cases h') (fun _ => hq)
section openingZ
variable {H : Type} {enc : TypeId × Value → H} {P : Program} {w : World}
def TrZ (enc : TypeId × Value → H) (P : Program) (w : World) (t : TypeId) (cs : List Value) : Prop :=
  ∃ fuel x, DataW.trod enc P w 0 (fun _ => true) true fuel t cs = some x ∧ ∀ k ∈ x.1.weights P t, k ≤ reachBytes
theorem TrZ.tr {t : TypeId} {cs : List Value} (h : TrZ enc P w t cs) : Tr enc P w t cs := by
  obtain ⟨f, x, h1, _⟩ := h
  exact ⟨f, x, h1⟩
theorem reach_le {k : Nat} (h : k ≤ reachBytes) : k ≤ 140737488355328 := by
  have : reachBytes < 2 ^ 47 := reachBytes_lt
  omega
theorem TrZ.str {t : TypeId} {cs : List Value} (ht : P.underlying t = some .string) (h : TrZ enc P w t cs) : ∃ s : ByteArray, cs = [.string s] ∧ s.size ≤ 140737488355328 := by
  obtain ⟨f, x, h, hz⟩ := h
  obtain ⟨s, h1, h3, h2⟩ := DataW.trod_string ht h
  refine ⟨s, h1, reach_le (hz s.size ?_)⟩
  rw [h3]
  simp [DataW.weights]
theorem TrZ.strct {t : TypeId} {cs : List Value} {fs : Array Field} (ht : P.underlying t = some (.struct fs)) (h1 : Go.Deep.oneCellFields P fs = true) (h : TrZ enc P w t cs) :
    cs.length = P.cellsOf t ∧ ∀ (j : Nat) (f : Field) (x : Value), fs[j]? = some f → cs[j]? = some x → TrZ enc P w f.type [x] := by
  obtain ⟨fu, y, h, hz⟩ := h
  obtain ⟨xs, n, _, hy, hl, hxl, hf⟩ := DataW.trod_struct ht h
  refine ⟨hl, fun j f x hj hx => ?_⟩
  obtain ⟨ho, hk⟩ := Go.Deep.hone_of h1 j f hj
  have h2 := hf j f hj
  have hjl : j < fs.size := (Array.getElem?_eq_some_iff.1 hj).1
  have hxs : xs[j]? = some (xs[j]'(by omega)) := List.getElem?_eq_getElem (by omega)
  rw [ho, hk, hxs] at h2
  have e : (cs.drop j).take 1 = [x] := by
    obtain ⟨hjc, hxe⟩ := List.getElem?_eq_some_iff.1 hx
    rw [List.drop_eq_getElem_cons hjc, hxe]; rfl
  rw [e] at h2
  refine ⟨n, _, h2, fun k hk2 => hz k ?_⟩
  rw [hy]
  simp only [DataW.weights, ht]
  exact DataW.weights_mem_each (j := j) (by rw [List.getElem?_map, Array.getElem?_toList, hj]; rfl) (by rw [List.getElem?_map, hxs]; rfl) k hk2
theorem weightsAll_mem {e : TypeId} {d : DataW H} {k : Nat} (hk : k ∈ d.weights P e) : ∀ {l : List (DataW H)}, d ∈ l → k ∈ DataW.weightsAll P e l
  | x :: r, h => by
    simp only [DataW.weightsAll, List.mem_append]
    rcases List.mem_cons.1 h with rfl | h
    · exact .inl hk
    · exact .inr (weightsAll_mem hk h)
theorem TrZ.slice {t e : TypeId} {x : Value} {m : Nat} (ht : P.underlying t = some (.slice e)) (hm : P.cellsOf e = m) (h : TrZ enc P w t [x]) :
    ∃ A n c, x = .slice A n c ∧ n ≤ 9223372036854775807 ∧ n * P.bytesOf e ≤ 140737488355328 ∧ SlAt (im w) x (dataAt (im w) x m n) ∧ ∀ i : Int, 0 ≤ i → i < n → TrZ enc P w e ((List.range m).map (cellAt (im w) x m i)) := by
  obtain ⟨A, n, c, h1, h2, h3, _⟩ := h.tr.slice ht hm
  obtain ⟨fu, y, h, hz⟩ := h
  rcases Go.Deep.open_slice ht h with ⟨e1, _⟩ | ⟨a, len, cap, k, n', D, Pl, e1, _, hl, hc, hk, hy, hi⟩
  · rw [h1] at e1
    cases e1
    exact ⟨none, 0, 0, h1, by omega, by omega, h3, fun i h1 h2 => by omega⟩
  · rw [h1] at e1
    cases e1
    have hlk : n ≤ k := by rw [hk]; split <;> omega
    have hwt : y.1.weights P t = ((List.range n).map D).length.add (((List.range (k - n)).map fun j => D (n + j)).length) * P.bytesOf e :: (DataW.weightsAll P e ((List.range n).map D) ++ DataW.weightsAll P e ((List.range (k - n)).map fun j => D (n + j))) := by
      rw [hy]; simp [DataW.weights, ht]
    refine ⟨_, n, c, h1, h2, ?_, h3, ?_⟩
    · have := reach_le (hz _ (by rw [hwt]; exact List.mem_cons_self ..))
      refine Nat.le_trans (Nat.mul_le_mul_right _ ?_) this
      simp only [List.length_map, List.length_range]
      exact Nat.le_add_right _ _
    · intro i g1 g2
      obtain ⟨i, rfl⟩ : ∃ k : Nat, i = k := ⟨i.toNat, by omega⟩
      obtain ⟨cs', hcs, ht'⟩ := hi i (by omega)
      refine ⟨n', (D i, Pl i), ?_, fun q hq => hz q ?_⟩
      · rw [← ht']
        congr 1
        rw [hm] at hcs
        obtain ⟨_, hcl, hat⟩ := World.cells?_some hcs
        apply List.ext_getElem?
        intro j
        by_cases hj : j < m
        · rw [List.getElem?_map, List.getElem?_range hj, Option.map_some]
          have h4 := hat j hj
          rw [Go.GV.add_add'] at h4
          rw [← h4, h1]
          have hsome : cs'[j]? = some (cs'[j]'(by omega)) := List.getElem?_eq_getElem (by omega)
          rw [hsome] at h4
          have e2 : (im w).cell? (a.add (i * m + j)) = w.cell? (a.add (i * m + j)) := rfl
          simp only [cellAt, Int.toNat_natCast, e2, h4, Option.getD_some]
        · rw [List.getElem?_eq_none (by simp; omega), List.getElem?_eq_none (by omega)]
      · rw [hwt]
        refine List.mem_cons_of_mem _ (List.mem_append_left _ (weightsAll_mem hq ?_))
        exact List.mem_map.2 ⟨i, List.mem_range.2 (by omega), rfl⟩
theorem TrZ.of {ts : List TypeId} {ds : List (DataW H)} (hz : (DataW.weightsEach P ts ds).all (· ≤ reachBytes) = true) {j : Nat} {t : TypeId} {v : Value} {d : DataW H} {p : List MemPlace}
    (ht : ts[j]? = some t) (hd : ds[j]? = some d) (h : DataW.Trod enc P w 0 (fun _ => true) true t v d p) : TrZ enc P w t v.cells.toList := by
  obtain ⟨fuel, hf⟩ := h
  refine ⟨fuel, _, hf, fun k hk => ?_⟩
  have := List.all_eq_true.1 hz k (DataW.weights_mem_each ht hd k hk)
  simpa using this
end openingZ
theorem xl_valE {C : Cx} {all : List Oper} {o : Oper} {r : List Oper} {Q : Post} {kn : Kn} {gk : List (Nat × (Gd × SV))} {ow : Own} {nx : Nat} {u : Im} (R : Value → Prop) {d : Nat}
    (hgd : o.guard = none) (hd : o.dst = some d) (hnd : ∀ c, o.op ≠ .defer c) (hfr : fresh C.N ⟨kn, gk, ow, nx⟩ d [] = true)
    (H : ∀ E a w, Ok C E ⟨kn, gk, ow, nx⟩ u a w → ∃ v, (execOp a.eval o).run C.P w = .ok (.value v) w ∧ R v)
    (K : ∀ v, R v → XL C all r Q ⟨(d, .v v) :: kn, gk, ow, nx⟩ u) : XL C all (o :: r) Q ⟨kn, gk, ow, nx⟩ u := by
  unfold XL at K ⊢
  intro E a w hok
  obtain ⟨v, hrun, hR⟩ := H E a w hok
  refine xl_wp hgd hnd hrun ?_
  rw [hd]
  have hput : Agr C.N E (St.put ⟨kn, gk, ow, nx⟩ d [] (.v v)) (a.tmps.setIfInBounds d v) :=
    hok.agr.put (g := []) hfr (fun _ => trivial) (fun _ => rfl) (fun hn => absurd (fun x hx => (by cases hx)) hn) (fun _ => rfl)
  exact K v hR E (a.put (some d) v) w ⟨⟨hput.size, hput.kn, hput.gk, hput.klt, hput.glt⟩, hok.sat⟩
theorem xl_val {C : Cx} {all : List Oper} {o : Oper} {r : List Oper} {Q : Post} {kn : Kn} {gk : List (Nat × (Gd × SV))} {ow : Own} {nx : Nat} {u : Im} (v : Value) {d : Nat}
    (hgd : o.guard = none) (hd : o.dst = some d) (hnd : ∀ c, o.op ≠ .defer c) (hfr : fresh C.N ⟨kn, gk, ow, nx⟩ d [] = true)
    (H : ∀ E a w, Ok C E ⟨kn, gk, ow, nx⟩ u a w → (execOp a.eval o).run C.P w = .ok (.value v) w)
    (K : XL C all r Q ⟨(d, .v v) :: kn, gk, ow, nx⟩ u) : XL C all (o :: r) Q ⟨kn, gk, ow, nx⟩ u :=
  xl_valE (fun x => x = v) hgd hd hnd hfr (fun E a w hok => ⟨v, H E a w hok, rfl⟩) (fun x hx => by subst hx; exact K)
theorem xl_min {C : Cx} {all : List Oper} {o : Oper} {r : List Oper} {Q : Post} {kn : Kn} {gk : List (Nat × (Gd × SV))} {ow : Own} {nx : Nat} {u : Im} {d : Nat} {x y : Operand} {ts : Array TypeId} {k k' : IntKind} {m n : Int}
    (ho : o.op = .call { callee := .builtin .min, args := #[x, y], argTypes := ts }) (hgd : o.guard = none) (hd : o.dst = some d) (hfr : fresh C.N ⟨kn, gk, ow, nx⟩ d [] = true)
    (hx : opd ⟨kn, gk, ow, nx⟩ [] x = some (.v (.int k m))) (hy : opd ⟨kn, gk, ow, nx⟩ [] y = some (.v (.int k' n)))
    (K : XL C all r Q ⟨(d, .v (.int k (if n < m then n else m))) :: kn, gk, ow, nx⟩ u) : XL C all (o :: r) Q ⟨kn, gk, ow, nx⟩ u := by
  refine xl_val _ hgd hd (fun c hc => by rw [ho] at hc; cases hc) hfr (fun E a w hok => ?_) K
  have hgs : gs a.tmps [] := fun x hx => by cases hx
  obtain ⟨e1, _⟩ := opd_sound hok.agr hgs hx
  obtain ⟨e2, _⟩ := opd_sound hok.agr hgs hy
  simp only [SV.den] at e1 e2
  have hm := run_min_int2 (P := C.P) (w := w) ts o.type k k' m n
  simp only [execOp, ho, resolve]
  simp [invoke, builtin, e1, e2, hm]
theorem SlAt.drop {α : Type} {Y : Lay α} {L : List α} {v0 : Im} {A : Option Addr} {n c l : Nat} (h : SlAt v0 (.slice A n c) (Y.d L)) (hl : l ≤ L.length) :
    SlAt v0 (sliced A l n c Y.fs.length) (Y.d (L.drop l)) := by
  obtain ⟨A', c', h1, h2, h3, h4⟩ := h
  cases h1
  rw [Lay.d_n] at h2
  refine ⟨if c = l then A else A.map (·.add (l * Y.fs.length)), c - l, by simp only [sliced, Lay.d_n, List.length_drop], by rw [Lay.d_n, List.length_drop]; omega, by omega, fun hn => ?_⟩
  rw [Lay.d_n, List.length_drop] at hn
  obtain ⟨ad, h5, h6⟩ := h4 (by rw [Lay.d_n]; omega)
  subst h5
  rw [if_neg (by omega)]
  refine ⟨ad.add (l * Y.fs.length), rfl, fun i hi j f hf => ?_⟩
  rw [Lay.d_n, List.length_drop] at hi
  simp only [Lay.d, List.getElem?_map] at hf
  cases hfj : Y.fs[j]? with
  | none => rw [hfj] at hf; cases hf
  | some g =>
    rw [hfj] at hf
    simp only [Option.map_some, Option.some.injEq] at hf
    subst hf
    have := h6 (l + i) (by rw [Lay.d_n]; omega) j (fun i => g (L.getD i.toNat Y.dft)) (by simp [Lay.d, hfj])
    rw [Lay.cs_length] at this
    rw [Lay.cs_length, Go.GV.add_add']
    have e : l * Y.fs.length + (i * Y.fs.length + j) = (l + i) * Y.fs.length + j := by rw [Nat.add_mul]; omega
    rw [e, this]
    simp only [Int.toNat_natCast, List.getD_eq_getElem?_getD, List.getElem?_drop]
theorem SlAt.take {α : Type} {Y : Lay α} {L : List α} {v0 : Im} {A : Option Addr} {n c h : Nat} (hs : SlAt v0 (.slice A n c) (Y.d L)) (hh : h ≤ L.length) : SlAt v0 (.slice A h c) (Y.d (L.take h)) := by
  obtain ⟨A', c', h1, h2, h3, h4⟩ := hs
  cases h1
  rw [Lay.d_n] at h2
  have hl : (L.take h).length = h := by rw [List.length_take]; omega
  refine ⟨A, c, by rw [Lay.d_n, hl], by rw [Lay.d_n, hl]; omega, h3, fun hn => ?_⟩
  rw [Lay.d_n, hl] at hn
  obtain ⟨ad, h5, h6⟩ := h4 (by rw [Lay.d_n]; omega)
  refine ⟨ad, h5, fun i hi j f hf => ?_⟩
  rw [Lay.d_n, hl] at hi
  simp only [Lay.d, List.getElem?_map] at hf
  cases hfj : Y.fs[j]? with
  | none => rw [hfj] at hf; cases hf
  | some g =>
    rw [hfj] at hf
    simp only [Option.map_some, Option.some.injEq] at hf
    subst hf
    have := h6 i (by rw [Lay.d_n]; omega) j (fun i => g (L.getD i.toNat Y.dft)) (by simp [Lay.d, hfj])
    rw [Lay.cs_length] at this ⊢
    rw [this]
    simp [List.getD_eq_getElem?_getD, List.getElem?_take, hi]
theorem xl_from {α : Type} {T : TT} {C : Cx} (hT : TOk C.P T) {all : List Oper} {o : Oper} {r : List Oper} {Q : Post} {kn : Kn} {gk : List (Nat × (Gd × SV))} {ow : Own} {nx : Nat} {u : Im}
    (Y : Lay α) (L : List α) {t e d : Nat} {sv lv : Operand} {ti te : TI} {kl : IntKind} {l : Int} {z : SV} {v0 : Im} (ho : o.op = .slice t sv (some lv) none none) (hgd : o.guard = none) (hd : o.dst = some d)
    (hti : look T t = some ti) (hsh : ti.shp = .slice e) (hte : look T e = some te) (hsz : te.sz = Y.fs.length)
    (hs : opd ⟨kn, gk, ow, nx⟩ [] sv = some z) (hll : opd ⟨kn, gk, ow, nx⟩ [] lv = some (.v (.int kl l))) (hf : fresh C.N ⟨kn, gk, ow, nx⟩ d [] = true)
    (hz : ∀ E w F, Sat E ow nx u [] w F → SlAt v0 (z.den E) (Y.d L)) (h0 : 0 ≤ l) (h1 : l ≤ L.length)
    (K : ∀ A c, SlAt v0 (.slice A (L.length - l.toNat) c) (Y.d (L.drop l.toNat)) → XL C all r Q ⟨(d, .v (.slice A (L.length - l.toNat) c)) :: kn, gk, ow, nx⟩ u) : XL C all (o :: r) Q ⟨kn, gk, ow, nx⟩ u := by
  refine xl_valE (fun v => ∃ A c, v = .slice A (L.length - l.toNat) c ∧ SlAt v0 (.slice A (L.length - l.toNat) c) (Y.d (L.drop l.toNat))) hgd hd (fun c hc => by rw [ho] at hc; cases hc) hf (fun E a w hok => ?_) (fun v hv => by
    obtain ⟨A, c, rfl, hb⟩ := hv
    exact K A c hb)
  have hgs : gs a.tmps [] := fun x hx => by cases hx
  obtain ⟨f, hsat⟩ := hok.sat
  have hu := (hT _ _ hti).isSlice hsh
  have hel : C.P.elem t = e := by simp [Program.elem, hu]
  have htek := hT _ _ hte
  obtain ⟨es, _⟩ := opd_sound hok.agr hgs hs
  obtain ⟨el, _⟩ := opd_sound hok.agr hgs hll
  simp only [SV.den] at el
  have hsl := hz E w f hsat.unmarked
  obtain ⟨A, c, hv⟩ := hsl.form
  rw [Lay.d_n] at hv
  rw [hv] at hsl
  have hdr := hsl.drop (l := l.toNat) (by omega)
  refine ⟨_, ?_, _, _, rfl, hdr⟩
  have := run_slice_l (P := C.P) w t A L.length c (by rw [hel]; exact hu) kl l h0 h1
  simp only [execOp, ho, Option.map_none, Option.map_some, es, hv, el]
  rw [Sem.run_bind, run_sliceAt_slice w t _ _ _ _ (by rw [hel]; exact hu), this, hel, run_sizeOf w htek, hsz]
  simp [Result.andThen, sliced]
theorem xl_sl {C : Cx} {all l : List Oper} {Q : Post} {kn : Kn} {ow : Own} {nx : Nat} {u : Im} (d : Nat) {x : Value} {D : Data} (hd : look kn d = some (.v x)) (hx : SlAt u x D)
    (h : XL C all l Q ⟨(d, .r nx) :: kn, [], (nx, .sl D) :: ow, nx + 1⟩ u) : XL C all l Q ⟨kn, [], ow, nx⟩ u := by
  unfold XL at h ⊢
  intro E a w hok
  obtain ⟨f, hsat⟩ := hok.sat
  have hE : ∀ k, k < nx → upd E nx x k = E k := fun k hk => upd_other _ _ (by omega)
  have hg := hok.agr.grow (E' := upd E nx x) (ow := (nx, .sl D) :: ow) (nx := nx + 1) hE (Nat.le_succ _)
  have hsat' : Sat (upd E nx x) ((nx, .sl D) :: ow) (nx + 1) u a.defers w (upd f nx (fun _ => False)) := by
    refine hsat.step (fun k => k = nx) hE (Nat.le_succ _) (Im.le.refl u) hsat.imm (Nat.le_refl _) (fun b _ _ => rfl) ?_ ?_ ?_ (fun b o ho => .inl ho)
    · intro k hk
      exact ⟨by rw [look_cons, if_neg (fun e => hk e.symm)], fun b => by rw [upd_other _ _ hk]⟩
    · rintro k rfl
      refine ⟨fun r hr => ?_, fun hr => ?_, fun b hb => ?_⟩
      · rw [look_cons, if_pos rfl] at hr
        cases hr
        refine ⟨⟨by rw [upd_same]; exact hx, fun y hy => by rw [upd_same] at hy; exact hy⟩, Nat.lt_succ_self _, trivial⟩
      · rw [look_cons, if_pos rfl] at hr; cases hr
      · rw [upd_same] at hb; exact hb.elim
    · intro k k' b hk hk' hne; subst hk hk'; exact absurd rfl hne
  obtain ⟨A, c, hv⟩ := hx.form
  have := h (upd E nx x) a w ⟨⟨hg.size, fun t s h1 h2 => ?_, fun t g s h1 => (by cases h1), fun t s h2 => ?_, fun t g s h1 => (by cases h1)⟩, _, hsat'⟩
  · exact wpListIn_monoQ (fun e a w => SemQ.mono hE (Nat.le_succ _) (Im.le.refl u)) _ _ _ this
  · rw [look_cons] at h2
    split at h2
    · rename_i e1; subst e1; cases h2
      rw [hok.agr.kn _ _ rfl hd]
      simp only [SV.den, upd_same]
    · exact hg.kn t s h1 h2
  · rw [look_cons] at h2
    split at h2
    · cases h2; exact ⟨Nat.lt_succ_self _, A, D.n, c, by rw [upd_same]; exact hv⟩
    · exact hg.klt t s h2
theorem x_sl {C : Cx} {cc : Code} {Q : Post} {kn : Kn} {ow : Own} {nx : Nat} {u : Im} (d : Nat) {x : Value} {D : Data} (hd : look kn d = some (.v x)) (hx : SlAt u x D)
    (h : X C cc Q ⟨(d, .r nx) :: kn, [], (nx, .sl D) :: ow, nx + 1⟩ u) : X C cc Q ⟨kn, [], ow, nx⟩ u := by
  unfold X at h ⊢
  intro E a w hok
  obtain ⟨f, hsat⟩ := hok.sat
  have hE : ∀ k, k < nx → upd E nx x k = E k := fun k hk => upd_other _ _ (by omega)
  have hg := hok.agr.grow (E' := upd E nx x) (ow := (nx, .sl D) :: ow) (nx := nx + 1) hE (Nat.le_succ _)
  have hsat' : Sat (upd E nx x) ((nx, .sl D) :: ow) (nx + 1) u a.defers w (upd f nx (fun _ => False)) := by
    refine hsat.step (fun k => k = nx) hE (Nat.le_succ _) (Im.le.refl u) hsat.imm (Nat.le_refl _) (fun b _ _ => rfl) ?_ ?_ ?_ (fun b o ho => .inl ho)
    · intro k hk
      exact ⟨by rw [look_cons, if_neg (fun e => hk e.symm)], fun b => by rw [upd_other _ _ hk]⟩
    · rintro k rfl
      refine ⟨fun r hr => ?_, fun hr => ?_, fun b hb => ?_⟩
      · rw [look_cons, if_pos rfl] at hr
        cases hr
        refine ⟨⟨by rw [upd_same]; exact hx, fun y hy => by rw [upd_same] at hy; exact hy⟩, Nat.lt_succ_self _, trivial⟩
      · rw [look_cons, if_pos rfl] at hr; cases hr
      · rw [upd_same] at hb; exact hb.elim
    · intro k k' b hk hk' hne; subst hk hk'; exact absurd rfl hne
  obtain ⟨A, c, hv⟩ := hx.form
  have := h (upd E nx x) a w ⟨⟨hg.size, fun t s h1 h2 => ?_, fun t g s h1 => (by cases h1), fun t s h2 => ?_, fun t g s h1 => (by cases h1)⟩, _, hsat'⟩
  · exact Go.wpIn_mono this (fun e a w => SemQ.mono hE (Nat.le_succ _) (Im.le.refl u))
  · rw [look_cons] at h2
    split at h2
    · rename_i e1; subst e1; cases h2
      rw [hok.agr.kn _ _ rfl hd]
      simp only [SV.den, upd_same]
    · exact hg.kn t s h1 h2
  · rw [look_cons] at h2
    split at h2
    · cases h2; exact ⟨Nat.lt_succ_self _, A, D.n, c, by rw [upd_same]; exact hv⟩
    · exact hg.klt t s h2
def SV.mapK (m : Nat → Nat) : SV → SV
  | .v x => .v x
  | .p k off => .p (m k) off
  | .r k => .r (m k)
  | .e k sz i off => .e (m k) sz i off
  | .clo f ks => .clo f (ks.map m)
  | .tup l => .tup (l.map fun x => match x with
    | .inl y => .inl y
    | .inr k => .inr (m k))
def SV.inN (n : Nat) : SV → Bool
  | .v _ => true
  | .p k _ => Nat.blt k n
  | .r k => Nat.blt k n
  | .e k _ _ _ => Nat.blt k n
  | .clo _ ks => ks.all fun k => Nat.blt k n
  | .tup l => l.all fun x => match x with
    | .inl _ => true
    | .inr k => Nat.blt k n
theorem SV.mapK_den (m : Nat → Nat) (E : Env) (s : SV) : (s.mapK m).den E = s.den (fun k => E (m k)) := by
  cases s with
  | v x => rfl
  | p k off => rfl
  | r k => rfl
  | e k sz i off => rfl
  | clo f ks =>
    simp only [mapK, den, List.map_map]
    rfl
  | tup l =>
    simp only [mapK, den, List.map_map]
    congr 2
    refine List.map_congr_left fun x _ => ?_
    cases x <;> rfl
theorem SV.mapK_lt {m : Nat → Nat} {E E' : Env} {n n' : Nat} (hE : ∀ k, k < n → E' (m k) = E k) (hm : ∀ k, k < n → m k < n') {s : SV} (h : s.lt E n) : (s.mapK m).lt E' n' := by
  cases s with
  | v x => trivial
  | p k off => exact ⟨hm k h.1, by obtain ⟨a, ha⟩ := h.2; exact ⟨a, by rw [hE k h.1]; exact ha⟩⟩
  | r k => exact ⟨hm k h.1, by obtain ⟨A, l, c, ha⟩ := h.2; exact ⟨A, l, c, by rw [hE k h.1]; exact ha⟩⟩
  | e k sz i off => exact ⟨hm k h.1, by obtain ⟨A, l, c, ha, hb⟩ := h.2; exact ⟨A, l, c, by rw [hE k h.1]; exact ha, hb⟩⟩
  | clo f ks =>
    intro k hk
    obtain ⟨j, hj, rfl⟩ := List.mem_map.1 hk
    obtain ⟨h1, a, ha⟩ := h j hj
    exact ⟨hm j h1, a, by rw [hE j h1]; exact ha⟩
  | tup l =>
    intro k hk
    obtain ⟨x, hx, e⟩ := List.mem_map.1 hk
    cases x with
    | inl v => cases e
    | inr j =>
      cases e
      obtain ⟨h1, A, l, c, ha⟩ := h j hx
      exact ⟨hm j h1, A, l, c, by rw [hE j h1]; exact ha⟩
theorem SV.lt_of_mapK {m : Nat → Nat} {E : Env} {n N : Nat} {s : SV} (hi : s.inN n = true) (h : (s.mapK m).lt E N) : s.lt (fun k => E (m k)) n := by
  cases s with
  | v x => trivial
  | p k off => exact ⟨blt_lt hi, h.2⟩
  | r k => exact ⟨blt_lt hi, h.2⟩
  | e k sz i off => exact ⟨blt_lt hi, h.2⟩
  | clo f ks =>
    intro k hk
    simp only [inN, List.all_eq_true] at hi
    exact ⟨blt_lt (hi k hk), (h (m k) (List.mem_map_of_mem hk)).2⟩
  | tup l =>
    intro k hk
    simp only [inN, List.all_eq_true] at hi
    exact ⟨blt_lt (hi _ hk), (h (m k) (List.mem_map.2 ⟨_, hk, rfl⟩)).2⟩
def Rs.mapK (m : Nat → Nat) : Rs → Rs
  | .box t cs => .box t (cs.map (SV.mapK m))
  | r => r
def Rs.inN (n : Nat) : Rs → Bool
  | .box _ cs => cs.all (SV.inN n)
  | _ => true
def Rs.plain : Rs → Bool
  | .box _ _ => true
  | .row _ _ => true
  | .emp => true
  | _ => false
def mpK (ρ : List Nat) (n nx j : Nat) : Nat :=
  match Nat.blt j n with
  | true => ρ.getD j 0
  | false => nx + (j - n)
def mergeOw (ρ : List Nat) (n nx : Nat) (o' o : Own) : Own :=
  o'.map (fun x => (mpK ρ n nx x.1, x.2.mapK (mpK ρ n nx))) ++ (ρ.map (fun k => (k, Rs.emp)) ++ o)
def SC {σ : Type} (P : Program) (f : Nat) (H : Im → Prop) (n : Nat) (ow : Own) (args : List SV) (post : σ → Own × Nat × Value) (G : σ → Prop) : Prop :=
  ∀ E w F u, H u → Sat E ow n u [] w F → Calls P f (args.map (SV.den E)).toArray w fun e w' =>
    ∃ s E' F' u', (∀ k, k < n → E' k = E k) ∧ n ≤ (post s).2.1 ∧ u.le u' ∧ e = .returned (post s).2.2 ∧ Sat E' (post s).1 (post s).2.1 u' [] w' F' ∧ G s
theorem look_append {α : Type} : ∀ {l r : List (Nat × α)} {k : Nat}, look (l ++ r) k = match look l k with
    | some x => some x
    | none => look r k
  | [], r, k => rfl
  | (d, x) :: l, r, k => by
    rw [List.cons_append, look_cons, look_cons]
    split
    · rfl
    · exact look_append
theorem look_map {α β : Type} {m : Nat → Nat} {g : α → β} {j : Nat} : ∀ {l : List (Nat × α)}, (∀ x ∈ l, m x.1 = m j → x.1 = j) → look (l.map fun x => (m x.1, g x.2)) (m j) = (look l j).map g
  | [], _ => rfl
  | (d, x) :: l, h => by
    rw [List.map_cons, look_cons, look_cons]
    by_cases e : d = j
    · subst e; rw [if_pos rfl, if_pos rfl]; rfl
    · rw [if_neg e, if_neg (fun e' => e (h (d, x) (List.mem_cons_self ..) e'))]
      exact look_map fun y hy => h y (List.mem_cons_of_mem _ hy)
theorem look_map_none {α β : Type} {m : Nat → Nat} {g : α → β} {k : Nat} : ∀ {l : List (Nat × α)}, (∀ x ∈ l, m x.1 ≠ k) → look (l.map fun x => (m x.1, g x.2)) k = none
  | [], _ => rfl
  | (d, x) :: l, h => by
    rw [List.map_cons, look_cons, if_neg (h (d, x) (List.mem_cons_self ..))]
    exact look_map_none fun y hy => h y (List.mem_cons_of_mem _ hy)
theorem look_emps : ∀ {ρ : List Nat} {k : Nat}, (k ∈ ρ → look (ρ.map fun k => (k, Rs.emp)) k = some .emp) ∧ (k ∉ ρ → look (ρ.map fun k => (k, Rs.emp)) k = none)
  | [], k => ⟨fun h => (by cases h), fun _ => rfl⟩
  | d :: ρ, k => by
    rw [List.map_cons, look_cons]
    obtain ⟨h1, h2⟩ := look_emps (ρ := ρ) (k := k)
    by_cases e : d = k
    · rw [if_pos e]; exact ⟨fun _ => rfl, fun h => absurd (e ▸ List.mem_cons_self ..) h⟩
    · rw [if_neg e]
      exact ⟨fun h => h1 ((List.mem_cons.1 h).resolve_left (fun e' => e e'.symm)), fun h => h2 (fun h' => h (List.mem_cons_of_mem _ h'))⟩
theorem look_of_mem {α : Type} : ∀ {l : List (Nat × α)} {x : Nat × α}, x ∈ l → ∃ y, look l x.1 = some y
  | (d, z) :: l, x, h => by
    rw [look_cons]
    by_cases e : d = x.1
    · exact ⟨z, by rw [if_pos e]⟩
    · rw [if_neg e]
      rcases List.mem_cons.1 h with rfl | h
      · exact absurd rfl e
      · exact look_of_mem h
theorem apartB_inj' : ∀ {ρ : List Nat}, apartB ρ = true → ∀ i j, i < ρ.length → j < ρ.length → ρ.getD i 0 = ρ.getD j 0 → i = j
  | [], _, i, _, h, _, _ => by cases h
  | x :: r, hh, i, j, hi, hj, e => by
    unfold apartB at hh
    split at hh
    · cases hh
    · rename_i hx
      have hx' := elemB_mem hx
      cases i with
      | zero =>
        cases j with
        | zero => rfl
        | succ j =>
          simp only [List.getD_cons_zero, List.getD_cons_succ] at e
          have hj' : j < r.length := by simpa using hj
          exact absurd (by rw [e, List.getD_eq_getElem?_getD, List.getElem?_eq_getElem hj']; exact List.getElem_mem hj') hx'
      | succ i =>
        have hi' : i < r.length := by simpa using hi
        cases j with
        | zero =>
          simp only [List.getD_cons_zero, List.getD_cons_succ] at e
          exact absurd (by rw [← e, List.getD_eq_getElem?_getD, List.getElem?_eq_getElem hi']; exact List.getElem_mem hi') hx'
        | succ j =>
          simp only [List.getD_cons_succ] at e
          rw [apartB_inj' hh i j hi' (by simpa using hj) e]
theorem Rs.mapK_holds {m : Nat → Nat} {E E' : Env} {k n : Nat} {F F' : Nat → Prop} {u u' : Im} {w : World} {r : Rs} (hp : r.plain = true) (hE : ∀ j, j < n → E' (m j) = E j) (hk : k < n) (hF : ∀ b, F' b ↔ F b)
    (hl : r.lt E n) (h : r.holds E k F u w) : (r.mapK m).holds E' (m k) F' u' w := by
  cases r with
  | box t cs =>
    obtain ⟨b, h1, h2, h3⟩ := h
    refine ⟨b, by rw [hE k hk]; exact h1, fun x => (hF x).trans (h2 x), ?_⟩
    rw [h3, List.map_map]
    congr 3
    refine List.map_congr_left fun s hs => ?_
    simp only [Function.comp]
    rw [SV.mapK_den]
    exact (SV.den_congr (fun j hj => hE j hj) (hl s hs)).symm
  | row e D => exact ⟨by rw [hE k hk]; exact h.1, fun x => (hF x).trans (by rw [hE k hk]; exact h.2 x)⟩
  | sl D => cases hp
  | gen A => cases hp
  | emp => exact fun x hx => h x ((hF x).1 hx)
theorem Rs.holds_mapK {m : Nat → Nat} {E : Env} {k n N : Nat} {F F' : Nat → Prop} {u u' : Im} {w : World} {r : Rs} (hp : r.plain = true) (hi : r.inN n = true) (hF : ∀ b, F' b ↔ F b) (hl : (r.mapK m).lt E N)
    (h : (r.mapK m).holds E (m k) F u w) : r.holds (fun j => E (m j)) k F' u' w ∧ r.lt (fun j => E (m j)) n := by
  cases r with
  | box t cs =>
    obtain ⟨b, h1, h2, h3⟩ := h
    simp only [inN, List.all_eq_true] at hi
    refine ⟨⟨b, h1, fun x => (hF x).trans (h2 x), ?_⟩, fun s hs => SV.lt_of_mapK (hi s hs) (hl _ (List.mem_map_of_mem hs))⟩
    rw [h3, List.map_map]
    congr 3
    exact List.map_congr_left fun s _ => by simp only [Function.comp]; rw [SV.mapK_den]
  | row e D => exact ⟨⟨h.1, fun x => (hF x).trans (h.2 x)⟩, trivial⟩
  | sl D => cases hp
  | gen A => cases hp
  | emp => exact ⟨fun x hx => h x ((hF x).1 hx), trivial⟩
theorem SC.use {σ : Type} {P : Program} {f : Nat} {H : Im → Prop} {n : Nat} {ow0 : Own} {cargs : List SV} {post : σ → Own × Nat × Value} {G : σ → Prop} (hsc : SC P f H n ow0 cargs post G)
    (hmono : ∀ u u', Im.sub u u' → H u → H u') {ρ : List Nat} {E : Env} {ow : Own} {nx : Nat} {u : Im} {df : List Deferred} {w : World} {F : Nat → Nat → Prop} (hH : H u) (hs : Sat E ow nx u df w F)
    (hρ : ρ.length = n) (hρ1 : ρ.all (fun k => Nat.blt k nx) = true) (hρ2 : apartB ρ = true)
    (hp1 : ow0.all (fun x => Nat.blt x.1 n && (x.2.inN n && x.2.plain)) = true) (hp2 : ow0.map (fun x => look ow (mpK ρ n nx x.1)) = ow0.map (fun x => some (x.2.mapK (mpK ρ n nx))))
    (hpost : ∀ s, (post s).1.all (fun x => x.2.plain) = true) :
    Calls P f ((cargs.map (SV.mapK (mpK ρ n nx))).map (SV.den E)).toArray w fun e w' =>
      ∃ s E' F' u', (∀ k, k < nx → E' k = E k) ∧ u.le u' ∧ e = .returned (post s).2.2 ∧ G s ∧ Sat E' (mergeOw ρ n nx (post s).1 ow) (nx + ((post s).2.1 - n)) u' df w' F' := by
  classical
  subst hρ
  let m := mpK ρ ρ.length nx
  have hmlt : ∀ j, j < ρ.length → m j = ρ.getD j 0 ∧ m j < nx := fun j hj => by
    have e : m j = ρ.getD j 0 := by
      show mpK ρ ρ.length nx j = _
      unfold mpK
      have : Nat.blt j ρ.length = true := Nat.ble_eq_true_of_le hj
      rw [this]
    refine ⟨e, ?_⟩
    rw [e, List.getD_eq_getElem?_getD, List.getElem?_eq_getElem hj]
    exact blt_lt (List.all_eq_true.1 hρ1 _ (List.getElem_mem hj))
  have hmge : ∀ j, ρ.length ≤ j → m j = nx + (j - ρ.length) := fun j hj => by
    show mpK ρ ρ.length nx j = _
    unfold mpK
    cases hb : Nat.blt j ρ.length with
    | true => have := blt_lt hb; omega
    | false => rfl
  have hinj : ∀ i j, m i = m j → i = j := fun i j e => by
    rcases Nat.lt_or_ge i ρ.length with hi | hi
    · rcases Nat.lt_or_ge j ρ.length with hj | hj
      · rw [(hmlt i hi).1, (hmlt j hj).1] at e
        exact apartB_inj' hρ2 i j hi hj e
      · have := (hmlt i hi).2; rw [e, hmge j hj] at this; omega
    · rcases Nat.lt_or_ge j ρ.length with hj | hj
      · have := (hmlt j hj).2; rw [← e, hmge i hi] at this; omega
      · rw [hmge i hi, hmge j hj] at e; omega
  have hmem : ∀ j, j < ρ.length → m j ∈ ρ := fun j hj => by
    rw [(hmlt j hj).1, List.getD_eq_getElem?_getD, List.getElem?_eq_getElem hj]; exact List.getElem_mem hj
  have hρm : ∀ k, k ∈ ρ → ∃ j, j < ρ.length ∧ m j = k := fun k hk => by
    obtain ⟨j, hj, e⟩ := List.mem_iff_getElem.1 hk
    exact ⟨j, hj, by rw [(hmlt j hj).1, List.getD_eq_getElem?_getD, List.getElem?_eq_getElem hj]; exact e⟩
  have hpre : ∀ j r, look ow0 j = some r → j < ρ.length ∧ r.inN ρ.length = true ∧ r.plain = true ∧ look ow (m j) = some (r.mapK m) := fun j r hl => by
    have hm := look_mem hl
    have h1 := List.all_eq_true.1 hp1 _ hm
    simp only [Bool.and_eq_true] at h1
    refine ⟨blt_lt h1.1, h1.2.1, h1.2.2, ?_⟩
    have : ∀ l : Own, l.map (fun x => look ow (mpK ρ ρ.length nx x.1)) = l.map (fun x => some (x.2.mapK (mpK ρ ρ.length nx))) → ∀ x ∈ l, look ow (m x.1) = some (x.2.mapK m) := by
      intro l
      induction l with
      | nil => intro _ x hx; cases hx
      | cons y l ih =>
        intro h x hx
        simp only [List.map_cons, List.cons.injEq] at h
        rcases List.mem_cons.1 hx with rfl | hx
        · exact h.1
        · exact ih h.2 x hx
    exact this _ hp2 _ hm
  let Ec : Env := fun j => E (m j)
  let Fc : Nat → Nat → Prop := fun j b => (∃ r, look ow0 j = some r) ∧ F (m j) b
  let uc : Im := { h := fun b => if ∃ j, Fc j b then none else w.heap[b]?, os := w.os, tape := w.tape, output := w.output, lo := w.heap.size }
  have hsub : u.sub uc := ⟨fun b o hb => by
    show (if ∃ j, Fc j b then none else w.heap[b]?) = some o
    rw [if_neg (fun ⟨j, _, hj⟩ => by rw [hs.off _ b hj] at hb; cases hb)]
    exact hs.imm.h b o hb⟩
  have huc : ∀ b, (¬ ∃ j, Fc j b) → uc.h b = w.heap[b]? := fun b hb => by
    show (if ∃ j, Fc j b then none else w.heap[b]?) = _
    rw [if_neg hb]
  have hsat : Sat Ec ow0 ρ.length uc [] w Fc := by
    refine ⟨fun j r hl => ?_, fun j hl b hb => ?_, fun j j' b hne h1 h2 => hs.apart _ _ b (fun e => hne (hinj _ _ e)) h1.2 h2.2, fun j b hb => ?_, fun j r hl => ?_, ⟨fun b o hb => ?_, rfl, rfl, rfl, Nat.le_refl _⟩, [], rfl, List.nodup_nil, fun d hd => by cases hd⟩
    · obtain ⟨h1, h2, h3, h4⟩ := hpre j r hl
      exact (Rs.holds_mapK h3 h2 (fun b => ⟨fun h => h.2, fun h => ⟨⟨r, hl⟩, h⟩⟩) (hs.lt _ _ h4).2 (hs.holds _ _ h4)).1
    · obtain ⟨r, hr⟩ := hb.1; rw [hl] at hr; cases hr
    · show (if ∃ j, Fc j b then none else w.heap[b]?) = none
      rw [if_pos ⟨j, hb⟩]
    · obtain ⟨h1, h2, h3, h4⟩ := hpre j r hl
      exact ⟨h1, (Rs.holds_mapK (u' := uc) (F' := F (m j)) h3 h2 (fun b => Iff.rfl) (hs.lt _ _ h4).2 (hs.holds _ _ h4)).2⟩
    · have : (if ∃ j, Fc j b then none else w.heap[b]?) = some o := hb
      split at this
      · cases this
      · exact this
  have hargs : (cargs.map (SV.mapK (mpK ρ ρ.length nx))).map (SV.den E) = cargs.map (SV.den Ec) := by
    rw [List.map_map]
    exact List.map_congr_left fun s _ => SV.mapK_den _ E s
  rw [hargs]
  refine (hsc Ec w Fc uc (hmono _ _ hsub hH) hsat).mono ?_
  rintro e w' ⟨s, E', F', uc', hE', hn, hu', he, hsat', hG⟩
  have hlt' : ∀ x ∈ (post s).1, x.1 < (post s).2.1 := fun x hx => by
    obtain ⟨y, hy⟩ := look_of_mem hx
    exact (hsat'.lt _ _ hy).1
  have hplain : ∀ j r, look (post s).1 j = some r → r.plain = true := fun j r hl => List.all_eq_true.1 (hpost s) _ (look_mem hl)
  let E'' : Env := fun k => if k < nx then E k else E' (ρ.length + (k - nx))
  have hEm : ∀ j, j < (post s).2.1 → E'' (m j) = E' j := fun j _ => by
    rcases Nat.lt_or_ge j ρ.length with hj | hj
    · show (if m j < nx then E (m j) else _) = _
      rw [if_pos (hmlt j hj).2, hE' j hj]
    · show (if m j < nx then _ else E' (ρ.length + (m j - nx))) = _
      rw [hmge j hj, if_neg (by omega)]
      congr 1; omega
  have hsz : w.heap.size ≤ w'.heap.size := by
    have h1 := hsat'.imm.lo
    rw [hu'.lo] at h1
    exact h1
  have hframe : ∀ b, b < w.heap.size → (¬ ∃ j, Fc j b) → w'.heap[b]? = w.heap[b]? := fun b hb hn => by
    have h1 : uc.h b = some (w.heap[b]'hb) := by rw [huc b hn]; exact Array.getElem?_eq_getElem hb
    rw [hsat'.imm.h b _ (hu'.h b _ h1), Array.getElem?_eq_getElem hb]
  let F'' : Nat → Nat → Prop := fun k b => (∃ j, j < (post s).2.1 ∧ m j = k ∧ F' j b) ∨ ((∀ j, j < (post s).2.1 → m j ≠ k) ∧ F k b)
  have hF''m : ∀ j, j < (post s).2.1 → ∀ b, F'' (m j) b ↔ F' j b := fun j hj b => by
    constructor
    · rintro (⟨i, hi, e, h⟩ | ⟨h, _⟩)
      · rw [← hinj _ _ e]; exact h
      · exact absurd rfl (h j hj)
    · exact fun h => .inl ⟨j, hj, rfl, h⟩
  let u'' : Im := { h := fun b => if b < w.heap.size then u.h b else uc'.h b, os := u.os, tape := u.tape, output := u.output, lo := u.lo }
  have hult : ∀ b o, u.h b = some o → b < w.heap.size := fun b o ho => (Array.getElem?_eq_some_iff.1 (hs.imm.h b o ho)).1
  have hle'' : u.le u'' := ⟨fun b o ho => by
    show (if b < w.heap.size then u.h b else uc'.h b) = some o
    rw [if_pos (hult b o ho)]; exact ho, rfl, rfl, rfl, rfl⟩
  have himm'' : Imm u'' w' := by
    refine ⟨fun b o ho => ?_, ?_, ?_, ?_, Nat.le_trans hs.imm.lo hsz⟩
    · have ho' : (if b < w.heap.size then u.h b else uc'.h b) = some o := ho
      split at ho'
      · rename_i hb
        rw [hframe b hb (fun ⟨j, _, hj⟩ => by rw [hs.off _ b hj] at ho'; cases ho')]
        exact hs.imm.h b o ho'
      · exact hsat'.imm.h b o ho'
    · exact (hsat'.imm.os.trans hu'.os).trans hs.imm.os
    · exact (hsat'.imm.tape.trans hu'.tape).trans hs.imm.tape
    · exact (hsat'.imm.output.trans hu'.output).trans hs.imm.output
  have hnewk : ∀ k, nx ≤ k → look ow k = none := fun k hk => by
    cases hl : look ow k with
    | none => rfl
    | some r => have := (hs.lt k r hl).1; omega
  have hlookm : ∀ j, look (mergeOw ρ ρ.length nx (post s).1 ow) (m j) = match look (post s).1 j with
      | some r => some (r.mapK m)
      | none => look (ρ.map (fun k => (k, Rs.emp)) ++ ow) (m j) := fun j => by
    unfold mergeOw
    rw [look_append]
    have := look_map (m := m) (g := Rs.mapK m) (j := j) (l := (post s).1) (fun x _ e => hinj _ _ e)
    rw [show look ((post s).1.map fun x => (mpK ρ ρ.length nx x.1, x.2.mapK (mpK ρ ρ.length nx))) (m j) = _ from this]
    cases look (post s).1 j <;> rfl
  refine ⟨s, E'', F'', u'', fun k hk => if_pos hk, hle'', he, hG, ?_⟩
  refine hs.step (fun k => ∃ j, j < (post s).2.1 ∧ m j = k) (fun k hk => if_pos hk) (Nat.le_add_right _ _) hle'' himm'' hsz ?_ ?_ ?_ ?_ ?_
  · intro b hb hno
    refine hframe b hb ?_
    rintro ⟨j, ⟨r, hr⟩, hj⟩
    exact hno (m j) ⟨j, by have := (hpre j r hr).1; omega, rfl⟩ hj
  · intro k hk
    have hk' : ∀ j, j < (post s).2.1 → m j ≠ k := fun j hj e => hk ⟨j, hj, e⟩
    refine ⟨?_, fun b => ⟨?_, fun h => .inr ⟨hk', h⟩⟩⟩
    · unfold mergeOw
      rw [look_append, look_append]
      have h1 : look ((post s).1.map fun x => (mpK ρ ρ.length nx x.1, x.2.mapK (mpK ρ ρ.length nx))) k = none := look_map_none (m := m) (fun x hx => hk' x.1 (hlt' x hx))
      rw [h1]
      simp only
      rw [look_emps.2 (fun hm => by obtain ⟨j, hj, e⟩ := hρm k hm; exact hk' j (by omega) e)]
    · rintro (⟨j, hj, e, _⟩ | ⟨_, h⟩)
      · exact absurd e (hk' j hj)
      · exact h
  · rintro k ⟨j, hj, rfl⟩
    refine ⟨fun r hl => ?_, fun hl b hb => ?_, fun b hb => ?_⟩
    · rw [hlookm j] at hl
      have hmj : m j < nx + ((post s).2.1 - ρ.length) := by
        rcases Nat.lt_or_ge j ρ.length with h1 | h1
        · have := (hmlt j h1).2; omega
        · rw [hmge j h1]; omega
      cases hl0 : look (post s).1 j with
      | some r0 =>
        rw [hl0] at hl
        simp only [Option.some.injEq] at hl
        subst hl
        have hlr := (hsat'.lt _ _ hl0).2
        refine ⟨Rs.mapK_holds (hplain _ _ hl0) hEm hj (hF''m j hj) hlr (hsat'.holds _ _ hl0), hmj, ?_⟩
        cases r0 with
        | box t cs =>
          intro x hx
          obtain ⟨y, hy, rfl⟩ := List.mem_map.1 hx
          refine SV.mapK_lt hEm (fun i hi => ?_) (hlr y hy)
          rcases Nat.lt_or_ge i ρ.length with h1 | h1
          · have := (hmlt i h1).2; show m i < _; omega
          · show m i < _; rw [hmge i h1]; omega
        | row e D => trivial
        | sl D => trivial
        | gen A => trivial
        | emp => trivial
      | none =>
        rw [hl0] at hl
        simp only at hl
        rw [look_append] at hl
        rcases Nat.lt_or_ge j ρ.length with h1 | h1
        · rw [look_emps.1 (hmem j h1)] at hl
          simp only [Option.some.injEq] at hl
          subst hl
          exact ⟨fun x hx => hsat'.non j hl0 x ((hF''m j hj x).1 hx), hmj, trivial⟩
        · rw [look_emps.2 (fun hm => by have := blt_lt (List.all_eq_true.1 hρ1 _ hm); rw [hmge j h1] at this; omega)] at hl
          simp only at hl
          rw [hnewk _ (by rw [hmge j h1]; omega)] at hl
          cases hl
    · have hb' := (hF''m j hj b).1 hb
      rw [hlookm j] at hl
      cases hl0 : look (post s).1 j with
      | some r0 => rw [hl0] at hl; cases hl
      | none => exact hsat'.non j hl0 b hb'
    · have hb' := (hF''m j hj b).1 hb
      have hoff := hsat'.off j b hb'
      rcases Nat.lt_or_ge b w.heap.size with hlt | hge
      · have hex : ∃ j, Fc j b := by
          refine Classical.byContradiction fun hno => ?_
          have h1 : uc.h b = some (w.heap[b]'hlt) := by rw [huc b hno]; exact Array.getElem?_eq_getElem hlt
          rw [hu'.h b _ h1] at hoff; cases hoff
        obtain ⟨i, ⟨r, hr⟩, hi⟩ := hex
        refine ⟨.inl ⟨m i, ⟨i, by have := (hpre i r hr).1; omega, rfl⟩, hi⟩, ?_⟩
        show (if b < w.heap.size then u.h b else uc'.h b) = none
        rw [if_pos hlt]; exact hs.off _ b hi
      · refine ⟨.inr hge, ?_⟩
        show (if b < w.heap.size then u.h b else uc'.h b) = none
        rw [if_neg (by omega)]; exact hoff
  · rintro k k' b ⟨j, hj, rfl⟩ ⟨j', hj', rfl⟩ hne h1 h2
    exact hsat'.apart j j' b (fun e => hne (by rw [e])) ((hF''m j hj b).1 h1) ((hF''m j' hj' b).1 h2)
  · intro b o ho
    have ho' : (if b < w.heap.size then u.h b else uc'.h b) = some o := ho
    split at ho'
    · exact .inl ho'
    · exact .inr (by omega)
theorem xl_callSC {σ : Type} {C : Cx} {all : List Oper} {o : Oper} {r : List Oper} {Q : Post} {kn : Kn} {gk : List (Nat × (Gd × SV))} {ow : Own} {nx : Nat} {u : Im} {c : Call}
    {f n : Nat} {H : Im → Prop} {ow0 : Own} {cargs : List SV} {post : σ → Own × Nat × Value} {G : σ → Prop} (hsc : SC C.P f H n ow0 cargs post G) (hmono : ∀ u u', Im.sub u u' → H u → H u') (hH : H u) (ρ : List Nat)
    {d : Nat} (ho : o.op = .call c) (hgd : o.guard = none) (hd : o.dst = some d) (hc : callee ⟨kn, gk, ow, nx⟩ c = some f) (hfn : Fn1 C.P f)
    (hargs : argsOf ⟨kn, gk, ow, nx⟩ [] c.args.toList = some (cargs.map (SV.mapK (mpK ρ n nx)))) (hfr : fresh C.N ⟨kn, gk, ow, nx⟩ d [] = true)
    (hρ : ρ.length = n) (hρ1 : ρ.all (fun k => Nat.blt k nx) = true) (hρ2 : apartB ρ = true)
    (hp1 : ow0.all (fun x => Nat.blt x.1 n && (x.2.inN n && x.2.plain)) = true) (hp2 : ow0.map (fun x => look ow (mpK ρ n nx x.1)) = ow0.map (fun x => some (x.2.mapK (mpK ρ n nx))))
    (hpost : ∀ s, (post s).1.all (fun x => x.2.plain) = true)
    (K : ∀ s u', u.le u' → G s → XL C all r Q ⟨(d, .v (post s).2.2) :: kn, gk, mergeOw ρ n nx (post s).1 ow, nx + ((post s).2.1 - n)⟩ u') :
    XL C all (o :: r) Q ⟨kn, gk, ow, nx⟩ u := by
  unfold XL at K ⊢
  intro E a w hok
  obtain ⟨fF, hsat⟩ := hok.sat
  have hgs : gs a.tmps [] := fun x hx => by cases hx
  have hg : guardOf all ⟨kn, gk, ow, nx⟩ o = some [] := by unfold guardOf; rw [hgd]
  have hgd' := guard_sound (all := all.toArray) hok.agr (by simpa using hg)
  have hw : Region.wanted o (yielded all.toArray a.tmps) = true := by
    cases hb : Region.wanted o (yielded all.toArray a.tmps) with
    | true => rfl
    | false => exact absurd hgs (hgd'.2 hb)
  unfold wpListIn
  rw [if_pos hw]
  refine ⟨fun _ _ => trivial, ?_⟩
  rw [semAt_eq _ _ _ (fun c' hc' => by rw [ho] at hc'; cases hc'), call_runG ho hc hfn hargs hok hgs, Oper.uponIn_enter]
  refine ⟨fun h => (by cases h), (calls_in (hsc.use hmono hH hsat hρ hρ1 hρ2 hp1 hp2 hpost)).mono ?_⟩
  rintro e w' ⟨s, E', F', u', hE', hu, rfl, hG, hs'⟩
  have hnx : nx ≤ nx + ((post s).2.1 - n) := Nat.le_add_right _ _
  have hgr := hok.agr.grow (E' := E') (ow := mergeOw ρ n nx (post s).1 ow) (nx := nx + ((post s).2.1 - n)) hE' hnx
  have hput : Agr C.N E' (St.put ⟨kn, gk, mergeOw ρ n nx (post s).1 ow, nx + ((post s).2.1 - n)⟩ d [] (.v (post s).2.2)) (a.tmps.setIfInBounds d (post s).2.2) :=
    hgr.put (g := []) hfr (fun _ => trivial) (fun _ => rfl) (fun hn => absurd (fun x hx => (by cases hx)) hn) (fun _ => rfl)
  have := K s u' hu hG E' (a.put (some d) (post s).2.2) w' ⟨⟨hput.size, hput.kn, hput.gk, hput.klt, hput.glt⟩, F', hs'⟩
  rw [hd]
  exact wpListIn_monoQ (fun e a w => SemQ.mono hE' hnx hu) _ _ _ this
def argLt (ow : Own) (n : Nat) : SV → Bool
  | .v _ => true
  | .p k _ => match Nat.blt k n, look ow k with
    | true, some (.box _ _) => true
    | _, _ => false
  | .r k => match Nat.blt k n, look ow k with
    | true, some (.row _ _) => true
    | _, _ => false
  | _ => false
def SCend {σ : Type} (n : Nat) (post : σ → Own × Nat × Value) (G : σ → Prop) (l : List SV) (st : St) : Prop :=
  ∃ s ρ vs, l = vs.map SV.v ∧ tupV vs = (post s).2.2 ∧ Sub n ρ ⟨[], [], st.ow, st.nx⟩ ⟨[], [], (post s).1, (post s).2.1⟩ ∧ n ≤ (post s).2.1 ∧ G s
theorem x_sc {σ : Type} {T : TT} {P : Program} (hT : TOk P T) {f N : Nat} {fn : Func} {c : Code} (hf : P.funcs[f]? = some fn) (hb : fn.body = some c) (hN : fn.ntmps = N)
    {H : Im → Prop} {n : Nat} {ow : Own} {args : List SV} {post : σ → Own × Nat × Value} {G : σ → Prop} (hle : Nat.ble args.length N = true) (hargs : args.all (argLt ow n) = true)
    (h : ∀ u, H u → X ⟨P, none, N⟩ c (FinQ T fn.results.toList fun l st _ => SCend n post G l st) ⟨knOf 0 args, [], ow, n⟩ u) : SC P f H n ow args post G := by
  intro E w F u hH hsat
  refine (callsIn_wide (n := 0)).1 (callsIn_of_wp_marks hf hb trivial ?_ rfl)
  have hle' : args.length ≤ N := Nat.le_of_ble_eq_true hle
  have hlt : ∀ s ∈ args, s.lt E n := fun s hs => by
    have h1 := List.all_eq_true.1 hargs s hs
    cases s with
    | v x => trivial
    | p k off =>
      simp only [argLt] at h1
      split at h1
      · rename_i t cs hk hl
        obtain ⟨b, hb, _⟩ := hsat.holds k _ hl
        exact ⟨blt_lt hk, _, hb⟩
      · cases h1
    | r k =>
      simp only [argLt] at h1
      split at h1
      · rename_i e D hk hl
        obtain ⟨A, c, hv⟩ := ownsRow_sl (hsat.holds k _ hl).1
        exact ⟨blt_lt hk, A, _, c, hv⟩
      · cases h1
    | e k sz i off => cases h1
    | clo f ks => cases h1
    | tup l => cases h1
  have hagr : Agr N E ⟨knOf 0 args, [], ow, n⟩ ((args.map (SV.den E)).toArray ++ Array.replicate (fn.ntmps - ((args.map (SV.den E)).toArray).size) undef) := by
    refine ⟨?_, ?_, fun d g s h => (by cases h), ?_, fun d g s h => (by cases h)⟩
    · rw [hN]; simp; omega
    · intro d s _ h2
      have h3 := (knOf_look h2).2
      rw [Nat.sub_zero] at h3
      have hd : d < args.length := (List.getElem?_eq_some_iff.1 h3).1
      rw [Array.getElem?_append_left (by simpa using hd)]
      simp [h3]
    · intro d s h2
      have h3 := (knOf_look h2).2
      exact hlt s (List.mem_of_getElem? h3)
  have hX := h u hH
  unfold X at hX
  refine Go.wpIn_mono (hX E { tmps := (args.map (SV.den E)).toArray ++ Array.replicate (fn.ntmps - ((args.map (SV.den E)).toArray).size) undef, defers := [] } w ⟨hagr, _, hsat⟩) ?_
  rintro e a' w' ⟨E', st', u', h1, h2, h3, hok', h5⟩
  obtain ⟨F', hs⟩ := hok'.sat
  have fin : ∀ l, resV T st' fn.results.toList = some l → SCend n post G l st' →
      LeavesInM (FR none) 0 P fn a'.tmps (fun e w' => ∃ s E' F' u', (∀ k, k < n → E' k = E k) ∧ n ≤ (post s).2.1 ∧ u.le u' ∧ e = .returned (post s).2.2 ∧ Sat E' (post s).1 (post s).2.1 u' [] w' F' ∧ G s) a'.defers .returning w' := by
    rintro l hl ⟨s, ρ, vs, rfl, hv, hsub, hn, hG⟩
    obtain ⟨ds, hds, _⟩ := hs.marks
    rw [hds] at hs ⊢
    refine leaves (C := ⟨P, none, N⟩) hT hok'.agr hl (fun w'' hw => ?_) ds w' hs
    have hok0 : Ok ⟨P, none, 0⟩ E' ⟨[], [], st'.ow, st'.nx⟩ u' { tmps := #[], defers := [] } w'' :=
      ⟨⟨rfl, fun d s _ h => (by cases h), fun d g s h => (by cases h), fun d s h => (by cases h), fun d g s h => (by cases h)⟩, F', hw⟩
    obtain ⟨E3, hE3, hok3⟩ := hsub.ok hok0
    obtain ⟨F3, hs3⟩ := hok3.sat
    refine ⟨s, E3, F3, u', fun k hk => (hE3 k hk).trans (h1 k hk), hn, h3, ?_, hs3, hG⟩
    rw [← hv, List.map_map]
    congr 2
    exact (List.map_congr_left fun x _ => rfl).trans (List.map_id _)
  cases e with
  | normal =>
    simp only [FinQ] at h5
    split at h5
    · rename_i l hl; exact fin l hl h5
    · exact h5.elim
  | ret =>
    simp only [FinQ] at h5
    split at h5
    · rename_i l hl; exact fin l hl h5
    · exact h5.elim
  | exit id => exact h5.elim
  | goto l => exact h5.elim
  | panic c => exact h5.elim
  | outgrown => exact h5.elim
theorem x_nilCell {α : Type} {C : Cx} {cc : Code} {Q : Post} {kn : Kn} {gk : List (Nat × (Gd × SV))} {ow : Own} {nx : Nat} {u : Im} (k e : Nat) (Y : Lay α) {t : Nat} (cs ds : List SV) (hk : look ow k = some (.box t (cs ++ .v (.slice none 0 0) :: ds)))
    (h : X C cc Q ⟨kn, gk, (nx, .row e (Y.d [])) :: (k, .box t (cs ++ .r nx :: ds)) :: ow, nx + 1⟩ u) : X C cc Q ⟨kn, gk, ow, nx⟩ u := by
  unfold X at h ⊢
  intro E a w hok
  obtain ⟨f, hsat⟩ := hok.sat
  have hE : ∀ k, k < nx → upd E nx (.slice none 0 0) k = E k := fun k hk => upd_other _ _ (by omega)
  have hs1 := hsat.nil e Y
  have hkl : k < nx := (hsat.lt k _ hk).1
  have hkn : k ≠ nx := by omega
  have hold := hs1.holds k (.box t (cs ++ .v (.slice none 0 0) :: ds)) (by rw [look_cons, if_neg (fun e1 => hkn e1.symm)]; exact hk)
  have hltold := (hsat.lt k _ hk).2
  have hs2 : Sat (upd E nx (.slice none 0 0)) ((nx, .row e (Y.d [])) :: (k, .box t (cs ++ .r nx :: ds)) :: ow) (nx + 1) u a.defers w (upd f nx (fun _ => False)) := by
    refine ⟨fun j r hl => ?_, fun j hl b hb => ?_, hs1.apart, hs1.off, fun j r hl => ?_, hs1.imm, hs1.marks⟩
    · rw [look_cons] at hl
      split at hl
      · rename_i e1; exact hs1.holds j r (by rw [look_cons, if_pos e1]; exact hl)
      · rename_i e1
        rw [look_cons] at hl
        split at hl
        · rename_i e2
          subst e2
          cases hl
          obtain ⟨b, q1, q2, q3⟩ := hold
          refine ⟨b, q1, q2, ?_⟩
          rw [q3]
          simp [SV.den, upd_same]
        · exact hs1.holds j r (by rw [look_cons, if_neg e1]; exact hl)
    · refine hs1.non j ?_ b hb
      rw [look_cons] at hl ⊢
      split at hl
      · cases hl
      · rename_i e1
        rw [if_neg e1]
        rw [look_cons] at hl
        split at hl
        · cases hl
        · exact hl
    · rw [look_cons] at hl
      split at hl
      · rename_i e1; exact hs1.lt j r (by rw [look_cons, if_pos e1]; exact hl)
      · rename_i e1
        rw [look_cons] at hl
        split at hl
        · rename_i e2
          subst e2
          cases hl
          refine ⟨by omega, fun x hx => ?_⟩
          have hx' := List.mem_append.1 hx
          rcases hx' with hx' | hx'
          · exact SV.lt_mono hE (Nat.le_succ _) (hltold x (List.mem_append_left _ hx'))
          · rcases List.mem_cons.1 hx' with rfl | hx'
            · exact ⟨Nat.lt_succ_self _, none, 0, 0, upd_same _ _ _⟩
            · exact SV.lt_mono hE (Nat.le_succ _) (hltold x (List.mem_append_right _ (List.mem_cons_of_mem _ hx')))
        · exact hs1.lt j r (by rw [look_cons, if_neg e1]; exact hl)
  have hg := hok.agr.grow (E' := upd E nx (.slice none 0 0)) (ow := (nx, .row e (Y.d [])) :: (k, .box t (cs ++ .r nx :: ds)) :: ow) (nx := nx + 1) hE (Nat.le_succ _)
  have := h (upd E nx (.slice none 0 0)) a w ⟨hg, _, hs2⟩
  exact Go.wpIn_mono this fun e a w => SemQ.mono hE (Nat.le_succ _) (Im.le.refl u)
abbrev byteY : Lay UInt8 := ⟨[fun b => .int .u8 b.toNat], 0⟩
theorem byteY_flat (L : List UInt8) : (byteY.d L).flat = Lib.byteCells L := by
  rw [Lay.flat]
  induction L with
  | nil => rfl
  | cons x r ih =>
    rw [List.flatMap_cons, ih]
    rfl
theorem xl_sv {C : Cx} {all : List Oper} {o : Oper} {r : List Oper} {Q : Post} {kn : Kn} {gk : List (Nat × (Gd × SV))} {ow : Own} {nx : Nat} {u : Im} (s : SV) {d : Nat}
    (hgd : o.guard = none) (hd : o.dst = some d) (hnd : ∀ c, o.op ≠ .defer c) (hfr : fresh C.N ⟨kn, gk, ow, nx⟩ d [] = true)
    (H : ∀ E a w, Ok C E ⟨kn, gk, ow, nx⟩ u a w → (execOp a.eval o).run C.P w = .ok (.value (s.den E)) w ∧ s.lt E nx)
    (K : XL C all r Q ⟨(d, s) :: kn, gk, ow, nx⟩ u) : XL C all (o :: r) Q ⟨kn, gk, ow, nx⟩ u := by
  unfold XL at K ⊢
  intro E a w hok
  obtain ⟨hrun, hlt⟩ := H E a w hok
  refine xl_wp hgd hnd hrun ?_
  rw [hd]
  have hput : Agr C.N E (St.put ⟨kn, gk, ow, nx⟩ d [] s) (a.tmps.setIfInBounds d (s.den E)) :=
    hok.agr.put (g := []) hfr (fun _ => hlt) (fun _ => rfl) (fun hn => absurd (fun x hx => (by cases hx)) hn) (fun _ => rfl)
  exact K E (a.put (some d) (s.den E)) w ⟨⟨hput.size, hput.kn, hput.gk, hput.klt, hput.glt⟩, hok.sat⟩
theorem xl_eqpNil {C : Cx} {all : List Oper} {o : Oper} {r : List Oper} {Q : Post} {kn : Kn} {gk : List (Nat × (Gd × SV))} {ow : Own} {nx : Nat} {u : Im} {d t t' : Nat} {x : Operand}
    (ho : o.op = .binOp .eql t x (.const (.pointer none)) t') (hgd : o.guard = none) (hd : o.dst = some d) (hfr : fresh C.N ⟨kn, gk, ow, nx⟩ d [] = true)
    (ht : C.P.underlying t = some (.pointer (C.P.pointee t))) (hx : opd ⟨kn, gk, ow, nx⟩ [] x = some (.v (.pointer none)))
    (K : XL C all r Q ⟨(d, .v (.bool true)) :: kn, gk, ow, nx⟩ u) : XL C all (o :: r) Q ⟨kn, gk, ow, nx⟩ u := by
  refine xl_val (.bool true) hgd hd (fun c hc => by rw [ho] at hc; cases hc) hfr (fun E a w hok => ?_) K
  have hgs : gs a.tmps [] := fun x hx => by cases hx
  obtain ⟨e1, _⟩ := opd_sound hok.agr hgs hx
  simp only [SV.den] at e1
  have e2 : a.eval (.const (.pointer none)) = .pointer none := rfl
  simp only [execOp, ho]
  rw [e1, e2]
  have := run_eql_pointer_nil (P := C.P) (w := w) t none ht
  simp [eqGuard, this]
theorem xl_eqpSome {C : Cx} {all : List Oper} {o : Oper} {r : List Oper} {Q : Post} {kn : Kn} {gk : List (Nat × (Gd × SV))} {ow : Own} {nx : Nat} {u : Im} {d t t' k off : Nat} {x : Operand}
    (ho : o.op = .binOp .eql t x (.const (.pointer none)) t') (hgd : o.guard = none) (hd : o.dst = some d) (hfr : fresh C.N ⟨kn, gk, ow, nx⟩ d [] = true)
    (ht : C.P.underlying t = some (.pointer (C.P.pointee t))) (hx : opd ⟨kn, gk, ow, nx⟩ [] x = some (.p k off))
    (K : XL C all r Q ⟨(d, .v (.bool false)) :: kn, gk, ow, nx⟩ u) : XL C all (o :: r) Q ⟨kn, gk, ow, nx⟩ u := by
  refine xl_val (.bool false) hgd hd (fun c hc => by rw [ho] at hc; cases hc) hfr (fun E a w hok => ?_) K
  have hgs : gs a.tmps [] := fun x hx => by cases hx
  obtain ⟨e1, _, ad, h2⟩ := opd_sound hok.agr hgs hx
  simp only [SV.den, ptrOf, h2] at e1
  have e2 : a.eval (.const (.pointer none)) = .pointer none := rfl
  simp only [execOp, ho]
  rw [e1, e2]
  have := run_eql_pointer_nil (P := C.P) (w := w) t (some ⟨ad.block, off, none⟩) ht
  simp [eqGuard, this]
theorem xl_neqSelf {C : Cx} {all : List Oper} {o : Oper} {r : List Oper} {Q : Post} {kn : Kn} {gk : List (Nat × (Gd × SV))} {ow : Own} {nx : Nat} {u : Im} {d t t' te k off : Nat} {x y : Operand}
    (ho : o.op = .binOp .neq t x y t') (hgd : o.guard = none) (hd : o.dst = some d) (hfr : fresh C.N ⟨kn, gk, ow, nx⟩ d [] = true)
    (ht : C.P.underlying t = some (.pointer te)) (hi : (C.P.info? te).isSome = true) (hx : opd ⟨kn, gk, ow, nx⟩ [] x = some (.p k off)) (hy : opd ⟨kn, gk, ow, nx⟩ [] y = some (.p k off))
    (K : XL C all r Q ⟨(d, .v (.bool false)) :: kn, gk, ow, nx⟩ u) : XL C all (o :: r) Q ⟨kn, gk, ow, nx⟩ u := by
  refine xl_val (.bool false) hgd hd (fun c hc => by rw [ho] at hc; cases hc) hfr (fun E a w hok => ?_) K
  have hgs : gs a.tmps [] := fun x hx => by cases hx
  obtain ⟨e1, _, ad, h2⟩ := opd_sound hok.agr hgs hx
  obtain ⟨e3, _⟩ := opd_sound hok.agr hgs hy
  simp only [SV.den, ptrOf, h2] at e1 e3
  obtain ⟨j, hj⟩ := Option.isSome_iff_exists.1 hi
  simp only [execOp, ho]
  rw [e1, e3]
  have := Lib.run_neq_ptr_same (P := C.P) w ⟨ad.block, off, none⟩ ht hj
  simp [eqGuard, this]
theorem xl_toUnsafe {C : Cx} {all : List Oper} {o : Oper} {r : List Oper} {Q : Post} {kn : Kn} {gk : List (Nat × (Gd × SV))} {ow : Own} {nx : Nat} {u : Im} {d src dst t k : Nat} {x : Operand} {cs : List SV}
    (ho : o.op = .convert src dst x) (hgd : o.guard = none) (hd : o.dst = some d) (hfr : fresh C.N ⟨kn, gk, ow, nx⟩ d [] = true)
    (hs : C.P.underlying src = some (.pointer t)) (hds : C.P.underlying dst = some .unsafePointer) (hi : ((C.P.info? t).map fun j => decide (j.size = 0)) = some false)
    (hx : opd ⟨kn, gk, ow, nx⟩ [] x = some (.p k 0)) (hk : look ow k = some (.box t cs)) (hl : Nat.blt 0 cs.length = true)
    (K : XL C all r Q ⟨(d, .p k 0) :: kn, gk, ow, nx⟩ u) : XL C all (o :: r) Q ⟨kn, gk, ow, nx⟩ u := by
  refine xl_sv (.p k 0) hgd hd (fun c hc => by rw [ho] at hc; cases hc) hfr (fun E a w hok => ?_) K
  have hgs : gs a.tmps [] := fun x hx => by cases hx
  obtain ⟨e1, hlt⟩ := opd_sound hok.agr hgs hx
  obtain ⟨f, hsat⟩ := hok.sat
  obtain ⟨b, h1, _, h3⟩ := hsat.holds k _ hk
  refine ⟨?_, hlt⟩
  have hden : (SV.p k 0).den E = .pointer (some ⟨b, 0, none⟩) := by simp only [SV.den, ptrOf, h1]
  rw [hden] at e1 ⊢
  cases hj : C.P.info? t with
  | none => rw [hj] at hi; cases hi
  | some j =>
    rw [hj] at hi
    have hj0 : j.size ≠ 0 := by simpa using hi
    have := Lib.run_to_unsafe (P := C.P) w ⟨b, 0, none⟩ hs hds hj hj0 (cells := cs.length) (e := t) (by simp [World.shape?, h3]) (blt_lt hl)
    simp only [execOp, ho]
    rw [e1, Sem.run_bind, this]; rfl
theorem xl_fromUnsafe {C : Cx} {all : List Oper} {o : Oper} {r : List Oper} {Q : Post} {kn : Kn} {gk : List (Nat × (Gd × SV))} {ow : Own} {nx : Nat} {u : Im} {d src dst t k n : Nat} {x : Operand} {cs : List SV}
    (ho : o.op = .convert src dst x) (hgd : o.guard = none) (hd : o.dst = some d) (hfr : fresh C.N ⟨kn, gk, ow, nx⟩ d [] = true)
    (hs : C.P.underlying src = some .unsafePointer) (hds : C.P.underlying dst = some (.pointer t)) (hi : (C.P.info? t).isSome = true)
    (hx : opd ⟨kn, gk, ow, nx⟩ [] x = some (.p k 0)) (hk : look ow k = some (.box t cs)) (hn : cs.length = n) (hl : liesAt C.P C.P.depth t (n / C.P.cellsOf t) 0 t 1 = true)
    (K : XL C all r Q ⟨(d, .p k 0) :: kn, gk, ow, nx⟩ u) : XL C all (o :: r) Q ⟨kn, gk, ow, nx⟩ u := by
  refine xl_sv (.p k 0) hgd hd (fun c hc => by rw [ho] at hc; cases hc) hfr (fun E a w hok => ?_) K
  have hgs : gs a.tmps [] := fun x hx => by cases hx
  obtain ⟨e1, hlt⟩ := opd_sound hok.agr hgs hx
  obtain ⟨f, hsat⟩ := hok.sat
  obtain ⟨b, h1, _, h3⟩ := hsat.holds k _ hk
  refine ⟨?_, hlt⟩
  have hden : (SV.p k 0).den E = .pointer (some ⟨b, 0, none⟩) := by simp only [SV.den, ptrOf, h1]
  rw [hden] at e1 ⊢
  obtain ⟨j, hj⟩ := Option.isSome_iff_exists.1 hi
  have := Lib.run_from_unsafe (P := C.P) w ⟨b, 0, none⟩ hs hds hj (cells := n) (e := t) (by simp [World.shape?, h3, hn]) hl
  simp only [execOp, ho]
  rw [e1, Sem.run_bind, this]; rfl
theorem xl_extern1 {C : Cx} {all : List Oper} {o : Oper} {r : List Oper} {Q : Post} {kn : Kn} {gk : List (Nat × (Gd × SV))} {ow : Own} {nx : Nat} {u : Im} {c : Call} {f d : Nat} {s : SV}
    (ho : o.op = .call c) (hgd : o.guard = none) (hd : o.dst = some d) (hfr : fresh C.N ⟨kn, gk, ow, nx⟩ d [] = true) (hc : c.callee = .value (.func f))
    (hrun : ∀ x w, (callFunc f #[x]).run C.P w = .ok (.value x) w) (hargs : argsOf ⟨kn, gk, ow, nx⟩ [] c.args.toList = some [s])
    (K : XL C all r Q ⟨(d, s) :: kn, gk, ow, nx⟩ u) : XL C all (o :: r) Q ⟨kn, gk, ow, nx⟩ u := by
  refine xl_sv s hgd hd (fun c' hc' => by rw [ho] at hc'; cases hc') hfr (fun E a w hok => ?_) K
  have hgs : gs a.tmps [] := fun x hx => by cases hx
  obtain ⟨e1, e2⟩ := argsOf_sound hok.agr hgs hargs
  refine ⟨?_, e2 s (List.mem_cons_self ..)⟩
  have e3 : c.args.map a.eval = #[s.den E] := by
    apply Array.ext'
    simpa using e1
  have e4 : a.eval (.func f) = .func (.func f) #[] #[] := rfl
  simp [execOp, ho, resolve, hc, e4, Deferred.ofValue, invoke, e3, hrun]
theorem xl_appStr {T : TT} {C : Cx} (hT : TOk C.P T) {all : List Oper} {o : Oper} {r : List Oper} {Q : Post} {kn : Kn} {gk : List (Nat × (Gd × SV))} {ow : Own} {nx : Nat} {u : Im}
    (L : List UInt8) {t ut e d k : Nat} {sv xv : Operand} {ti tu : TI} {s : ByteArray} (ho : o.op = .call { callee := .builtin .append, args := #[sv, xv], argTypes := #[t, ut] }) (hgd : o.guard = none) (hd : o.dst = some d)
    (hti : look T t = some ti) (hsh : ti.shp = .slice e) (htu : look T ut = some tu) (hshu : tu.shp = .str) (hi : (C.P.info? e).map (fun i => (i.zero, i.size, i.bytes)) = some (some (.int .u8 0), 1, 1))
    (hs : opd ⟨kn, gk, ow, nx⟩ [] sv = some (.r k)) (hk : look ow k = some (.row e (byteY.d L))) (hz : opd ⟨kn, gk, ow, nx⟩ [] xv = some (.v (.string s))) (hf : fresh C.N ⟨kn, gk, ow, nx⟩ d [] = true)
    (hb : L.length + s.size ≤ 140737488355328)
    (K : XL C all r Q ⟨(d, .r nx) :: kn, gk, (nx, .row e (byteY.d (L ++ s.data.toList))) :: (k, .emp) :: ow, nx + 1⟩ u) : XL C all (o :: r) Q ⟨kn, gk, ow, nx⟩ u := by
  unfold XL at K ⊢
  intro E a w hok
  obtain ⟨f, hsat⟩ := hok.sat
  have hgs : gs a.tmps [] := fun x hx => by cases hx
  obtain ⟨es, _⟩ := opd_sound hok.agr hgs hs
  obtain ⟨ez, _⟩ := opd_sound hok.agr hgs hz
  have es' : a.eval sv = E k := es
  simp only [SV.den] at ez
  have hut := (hT _ _ hti).isSlice hsh
  have huu := (hT _ _ htu).isStr hshu
  obtain ⟨i, hi1, hi2, hi3, hi4⟩ := info_parts hi
  have hrow := (hsat.holds k _ hk).1
  rw [Lay.cs_length, Lay.d_n, byteY_flat] at hrow
  have hrow' : w.ownsRow 0 e 1 (E k) L.length (Lib.byteCells L) := hrow
  have hmax : maxLen = 9223372036854775807 := by decide
  obtain ⟨v', w', hrun, hown, hgr, hnil⟩ := Lib.run_append_own_string (P := C.P) w 0 t ut o.type e i hut huu hi1 hi2 hi3 hi4 (E k) L.length _ hrow' s (by rw [hmax]; omega) hb (Nat.zero_le _)
  have hat : v'.ownBlock = (E k).ownBlock ∨ ∃ b, v'.ownBlock = some b ∧ w.heap.size ≤ b := by
    rcases hrow'.2 with ⟨hv, hn⟩ | ⟨g, cap, cur, hv, _, hg, hnc, hcm, hcs, htake⟩
    · by_cases hm : s.size = 0
      · rw [(hnil.2 ⟨hv, hm⟩), hv]; exact .inl rfl
      · have hr := run_append_nil_string (P := C.P) w t ut o.type e i (.int .u8 0) hut huu hi1 hi2 s (by omega) (by omega) (by rw [hi4]; omega)
        rw [hv, hr] at hrun
        cases hrun
        exact .inr ⟨_, rfl, Nat.le_refl _⟩
    · by_cases hroom : L.length + s.size ≤ cap
      · have hr := Lib.run_append_room_string (P := C.P) w t ut o.type e i hut huu hi1 hi3 g L.length cap cur hg s hroom (by rw [Nat.mul_one] at hcs; omega)
        rw [hv, hr] at hrun
        cases hrun
        rw [hv]; exact .inl rfl
      · have hr := Lib.run_append_grow_string (P := C.P) w t ut o.type e i (.int .u8 0) hut huu hi1 hi2 ⟨g, 0, none⟩ L.length cap (Lib.byteCells L) (by rw [hi3]; simpa using hrow'.1) (hrow'.cells (g := g) (by rw [hv]; rfl)) s (by omega) (by omega)
          (by rw [hi4]; exact growslice_fits (by omega) (by omega))
        rw [hv, hr] at hrun
        cases hrun
        exact .inr ⟨_, rfl, Nat.le_refl _⟩
  have hrun2' : (execOp a.eval o).run C.P w = .ok (.value v') w' := by
    simp only [execOp, ho, resolve, invoke, builtin, List.map_toArray, List.map_cons, List.map_nil, es', ez]
    simp [hrun, Result.andThen]
  refine xl_wp hgd (fun c hc => by rw [ho] at hc; cases hc) hrun2' ?_
  rw [hd]
  have hflat : (byteY.d (L ++ s.data.toList)).flat = Lib.byteCells L ++ Lib.strCells s := by rw [byteY_flat, Lib.byteCells_append, Lib.strCells_eq]
  have hD : (byteY.d (L ++ s.data.toList)).n = L.length + s.size := by rw [Lay.d_n, List.length_append]; rfl
  have hown' : w'.ownsRow 0 e (byteY.d (L ++ s.data.toList)).cs.length v' (byteY.d (L ++ s.data.toList)).n (byteY.d (L ++ s.data.toList)).flat := by
    rw [Lay.cs_length, hD, hflat]; exact hown
  have hsat2 := hsat.app (D' := byteY.d (L ++ s.data.toList)) hk hown' hgr hat
  have hE : ∀ j, j < nx → upd E nx v' j = E j := fun j hj => upd_other _ _ (by omega)
  have hg := hok.agr.grow (E' := upd E nx v') (ow := (nx, .row e (byteY.d (L ++ s.data.toList))) :: (k, .emp) :: ow) (nx := nx + 1) hE (Nat.le_succ _)
  have hput2 : Agr C.N (upd E nx v') (St.put ⟨kn, gk, (nx, .row e (byteY.d (L ++ s.data.toList))) :: (k, .emp) :: ow, nx + 1⟩ d [] (.r nx)) (a.tmps.setIfInBounds d v') := by
    refine hg.put (g := []) hf (fun _ => ⟨Nat.lt_succ_self _, ?_⟩) (fun _ => ?_) (fun hn => absurd (fun x hx => (by cases hx)) hn) (fun _ => ?_)
    · obtain ⟨A, c, hv⟩ := ownsRow_sl hown
      exact ⟨A, _, c, by rw [upd_same]; exact hv⟩
    · simp only [SV.den, upd_same]
    · simp only [SV.den, upd_same]
  have := K (upd E nx v') (a.put (some d) v') w' ⟨⟨hput2.size, hput2.kn, hput2.gk, hput2.klt, hput2.glt⟩, _, hsat2⟩
  exact wpListIn_monoQ (fun e a w => SemQ.mono hE (Nat.le_succ _) (Im.le.refl u)) _ _ _ this
theorem xd_sv {C : Cx} {all : List Oper} {o : Oper} {r : List Oper} {Q : St → Prop} {st : St} {u : Im} (s : SV) {d : Nat}
    (hgd : o.guard = none) (hd : o.dst = some d) (hnd : ∀ c, o.op ≠ .defer c) (hfr : fresh C.N st d [] = true)
    (H : ∀ E a w, Ok C E st u a w → (execOp a.eval o).run C.P w = .ok (.value (s.den E)) w ∧ s.lt E st.nx)
    (K : XD C all r Q (st.put d [] s) u) : XD C all (o :: r) Q st u := by
  refine xd_step (g := []) (s := s) (by unfold guardOf; rw [hgd]) hd hfr hnd (fun E a w hok _ => ?_) K
  obtain ⟨h1, h2⟩ := H E a w hok
  refine ⟨h2, ?_⟩
  rw [h1]
  exact ⟨rfl, hok.sat⟩
theorem xd_sdRow {α : Type} {C : Cx} {all : List Oper} {o : Oper} {r : List Oper} {Q : St → Prop} {st : St} {u : Im} (Y : Lay α) (L : List α) {d k e : Nat} {x : Operand} {ts : Array TypeId}
    (ho : o.op = .call { callee := .builtin .unsafeSliceData, args := #[x], argTypes := ts }) (hgd : o.guard = none) (hd : o.dst = some d) (hfr : fresh C.N st d [] = true)
    (hx : opd st [] x = some (.r k)) (hk : look st.ow k = some (.row e (Y.d L))) (hL : L ≠ [])
    (K : XD C all r Q (st.put d [] (.e k 1 0 0)) u) : XD C all (o :: r) Q st u := by
  refine xd_sv (.e k 1 0 0) hgd hd (fun c' hc' => by rw [ho] at hc'; cases hc') hfr (fun E a w hok => ?_) K
  have hgs : gs a.tmps [] := fun x hx => by cases hx
  obtain ⟨e1, hlt, _⟩ := opd_sound hok.agr hgs hx
  obtain ⟨f, hsat⟩ := hok.sat
  have hrow := (hsat.holds k _ hk).1
  rw [Lay.d_n] at hrow
  have h0 : L.length ≠ 0 := fun h => hL (List.eq_nil_of_length_eq_zero h)
  rcases hrow.2 with ⟨_, hn⟩ | ⟨g, cap, cur, hv, _, hg, hnc, hcm, hcs, htake⟩
  · exact absurd hn h0
  · have e1' : a.eval x = E k := e1
    rw [hv] at e1'
    have hden : (SV.e k 1 0 0).den E = .pointer (some ⟨g, 0, none⟩) := by
      simp only [SV.den, elOf, hv]
      rfl
    have hm := Lib.run_unsafeSliceData_row (P := C.P) w ts o.type ⟨g, 0, none⟩ L.length cap (by omega)
    refine ⟨?_, hlt, _, _, _, hv, Int.le_refl _, by omega⟩
    rw [hden]
    simp only [execOp, ho, resolve]
    simp [invoke, builtin, e1', hm]
theorem xl_usRow {C : Cx} {all : List Oper} {o : Oper} {r : List Oper} {Q : Post} {kn : Kn} {gk : List (Nat × (Gd × SV))} {ow : Own} {nx : Nat} {u : Im} (L : List UInt8) {d pt it e k : Nat} {x y : Operand}
    (ho : o.op = .call { callee := .builtin .unsafeString, args := #[x, y], argTypes := #[pt, it] }) (hgd : o.guard = none) (hd : o.dst = some d) (hfr : fresh C.N ⟨kn, gk, ow, nx⟩ d [] = true)
    (hx : opd ⟨kn, gk, ow, nx⟩ [] x = some (.e k 1 0 0)) (hy : opd ⟨kn, gk, ow, nx⟩ [] y = some (.v (.int .i64 (L.length : Int)))) (hk : look ow k = some (.row e (byteY.d L))) (hL : L ≠ [])
    (hp : C.P.underlying pt = some (.pointer e)) (hc : C.P.cellsOf e = 1)
    (K : XL C all r Q ⟨(d, .v (.string ⟨L.toArray⟩)) :: kn, gk, (k, .emp) :: ow, nx⟩ u) : XL C all (o :: r) Q ⟨kn, gk, ow, nx⟩ u := by
  unfold XL at K ⊢
  intro E a w hok
  have hgs : gs a.tmps [] := fun x hx => by cases hx
  obtain ⟨e1, _⟩ := opd_sound hok.agr hgs hx
  obtain ⟨e2, _⟩ := opd_sound hok.agr hgs hy
  obtain ⟨f, hsat⟩ := hok.sat
  obtain ⟨hrow, hF⟩ := hsat.holds k _ hk
  rw [Lay.cs_length, Lay.d_n, byteY_flat] at hrow
  have hrow' : w.ownsRow 0 e 1 (E k) L.length (Lib.byteCells L) := hrow
  have h0 : L.length ≠ 0 := fun h => hL (List.eq_nil_of_length_eq_zero h)
  rcases hrow'.2 with ⟨_, hn⟩ | ⟨g, cap, cur, hv, _, hg, hnc, hcm, hcs, htake⟩
  · exact absurd hn h0
  · have hden : (SV.e k 1 0 0).den E = .pointer (some ⟨g, 0, none⟩) := by
      simp only [SV.den, elOf, hv]
      rfl
    rw [hden] at e1
    simp only [SV.den] at e2
    have hmax : maxLen = 9223372036854775807 := by decide
    have hrun := Lib.run_unsafeString_row (P := C.P) w pt it o.type e hp hc g cur.size (by simp [World.shape?, hg]) L hL (by omega) (by omega) (fun j x hx => by
      exact hrow'.cells (g := g) (by rw [hv]; rfl) j (.int .u8 x.toNat) (by simp [Lib.byteCells, hx]))
    have hrun2 : (execOp a.eval o).run C.P w = .ok (.value (.string ⟨L.toArray⟩)) (w.freeze ⟨g, 0, none⟩ L.length) := by
      simp only [execOp, ho, resolve]
      simp [invoke, builtin, e1, e2, hrun]
    refine xl_wp hgd (fun c hc => by rw [ho] at hc; cases hc) hrun2 ?_
    rw [hd]
    obtain ⟨F, hfz⟩ : ∃ F : Obj → Obj, w.freeze ⟨g, 0, none⟩ L.length = { w with heap := w.heap.modify g F } := by
      unfold World.freeze
      rw [if_neg h0]
      exact ⟨_, rfl⟩
    have hother : ∀ b, b ≠ g → (w.freeze ⟨g, 0, none⟩ L.length).heap[b]? = w.heap[b]? := fun b hb => by
      rw [hfz]
      simp [Array.getElem?_modify, Ne.symm hb]
    have hsz : (w.freeze ⟨g, 0, none⟩ L.length).heap.size = w.heap.size := by rw [hfz]; simp
    have hgF : f k g := (hF g).2 (by rw [hv]; rfl)
    have himm : Imm u (w.freeze ⟨g, 0, none⟩ L.length) :=
      ⟨fun b x hb => by rw [hother b (fun e => by subst e; rw [hsat.off k b hgF] at hb; cases hb)]; exact hsat.imm.h b x hb, by rw [hfz]; exact hsat.imm.os, by rw [hfz]; exact hsat.imm.tape, by rw [hfz]; exact hsat.imm.output, by rw [hsz]; exact hsat.imm.lo⟩
    have hsat2 : Sat E ((k, .emp) :: ow) nx u a.defers (w.freeze ⟨g, 0, none⟩ L.length) (upd f k (fun _ => False)) := by
      refine hsat.step (fun j => j = k) (fun _ _ => rfl) (Nat.le_refl _) (Im.le.refl u) himm (Nat.le_of_eq hsz.symm) (fun b _ hno => hother b (fun e => hno k rfl (e ▸ hgF))) ?_ ?_ ?_ (fun b o ho => .inl ho)
      · intro j hj
        exact ⟨by rw [look_cons, if_neg (Ne.symm hj)], fun b => by rw [upd_other _ _ hj]⟩
      · rintro j rfl
        refine ⟨fun r hr => ?_, fun hr => ?_, fun b hb => ?_⟩
        · rw [look_cons, if_pos rfl] at hr
          cases hr
          exact ⟨fun x hx => by rw [upd_same] at hx; exact hx, (hsat.lt _ _ hk).1, trivial⟩
        · rw [look_cons, if_pos rfl] at hr; cases hr
        · rw [upd_same] at hb; exact hb.elim
      · intro j j' b hj hj' hne; subst hj hj'; exact absurd rfl hne
    have hput : Agr C.N E (St.put ⟨kn, gk, (k, .emp) :: ow, nx⟩ d [] (.v (.string ⟨L.toArray⟩))) (a.tmps.setIfInBounds d (.string ⟨L.toArray⟩)) := by
      have h1 : Agr C.N E ⟨kn, gk, (k, .emp) :: ow, nx⟩ a.tmps := ⟨hok.agr.size, hok.agr.kn, hok.agr.gk, hok.agr.klt, hok.agr.glt⟩
      exact h1.put (g := []) hfr (fun _ => trivial) (fun _ => rfl) (fun hn => absurd (fun x hx => (by cases hx)) hn) (fun _ => rfl)
    exact K E (a.put (some d) _) _ ⟨⟨hput.size, hput.kn, hput.gk, hput.klt, hput.glt⟩, _, hsat2⟩
theorem xl_build {α : Type} {T : TT} {C : Cx} (hT : TOk C.P T) {all : List Oper} {o : Oper} {r : List Oper} {Q : Post} {kn : Kn} {gk : List (Nat × (Gd × SV))} {ow : Own} {nx : Nat} {u : Im}
    (Y : Lay α) (L : List α) (xs : List Operand) {t e d n : Nat} {parts : Array (Nat × Operand)} {zs : List SV} {ti te : TI} (ho : o.op = .buildSlice t n parts) (hgd : o.guard = none) (hd : o.dst = some d)
    (hti : look T t = some ti) (hsh : ti.shp = .slice e) (hte : look T e = some te) (hsz : te.sz = Y.fs.length) (hpos : Nat.blt 0 te.sz = true) (hn : n = L.length) (hL : Nat.blt 0 n = true) (hsm : Nat.ble (n * te.sz) 1000000 = true)
    (hparts : parts.toList = (xs.zipIdx 0).map fun x => (x.2, x.1)) (hzs : argsOf ⟨kn, gk, ow, nx⟩ [] xs = some zs) (hcs : zs.map (cellsOf te) = L.map (fun x => some ((Y.el x).map .v)))
    (hf : fresh C.N ⟨kn, gk, ow, nx⟩ d [] = true)
    (K : XL C all r Q ⟨(d, .r nx) :: kn, gk, (nx, .row e (Y.d L)) :: ow, nx + 1⟩ u) : XL C all (o :: r) Q ⟨kn, gk, ow, nx⟩ u := by
  unfold XL at K ⊢
  intro E a w hok
  obtain ⟨f, hsat⟩ := hok.sat
  have hgs : gs a.tmps [] := fun x hx => by cases hx
  have htik := hT _ _ hti
  have htek := hT _ _ hte
  obtain ⟨i, i1, i2, i3⟩ := htek.get
  have hpos' := blt_lt hpos
  obtain ⟨e1, e2⟩ := argsOf_sound hok.agr hgs hzs
  have hcells : ∀ (zs : List SV) (L : List α), zs.map (cellsOf te) = L.map (fun x => some ((Y.el x).map .v)) → (∀ s ∈ zs, s.lt E nx) →
      (∀ v ∈ zs.map (SV.den E), v.cells.size = te.sz) ∧ (zs.map (SV.den E)).flatMap (fun v => v.cells.toList) = L.flatMap Y.el ∧ zs.length = L.length := by
    intro zs
    induction zs with
    | nil =>
      intro L h _
      cases L with
      | nil => exact ⟨fun v hv => absurd hv (by simp), rfl, rfl⟩
      | cons x L => simp at h
    | cons s zs ih =>
      intro L h hl
      cases L with
      | nil => simp at h
      | cons x L =>
        simp only [List.map_cons, List.cons.injEq] at h
        obtain ⟨c1, _, c3, _⟩ := cellsOf_spec htek h.1 (hl s (List.mem_cons_self ..))
        obtain ⟨h1, h2, h3⟩ := ih L h.2 (fun s hs => hl s (List.mem_cons_of_mem _ hs))
        have c3' : (s.den E).cells = (Y.el x).toArray := by rw [c3, List.map_map]; simp [Function.comp_def, SV.den]
        refine ⟨fun v hv => ?_, ?_, by simp [h3]⟩
        · rw [List.map_cons] at hv
          rcases List.mem_cons.1 hv with rfl | hv
          · rw [c3']; simp only [List.size_toArray]; rw [Lay.el_length, hsz]
          · exact h1 v hv
        · simp only [List.map_cons, List.flatMap_cons, h2, c3']
  obtain ⟨hc1, hc2, hc3⟩ := hcells zs L hcs e2
  have hparts' : (parts.map fun x => (x.1, a.eval x.2)).toList = ((zs.map (SV.den E)).zipIdx 0).map fun x => (x.2, x.1) := by
    rw [Array.toList_map, hparts, ← e1, List.zipIdx_map]
    simp [Function.comp_def]
  have hn0 : 0 < n := blt_lt hL
  have hnsz : n * te.sz ≤ 1000000 := Nat.le_of_ble_eq_true hsm
  have hnp : 0 < n * te.sz := Nat.mul_pos hn0 hpos'
  have hflat : (Y.d L).flat = (zs.map (SV.den E)).flatMap fun v => v.cells.toList := by rw [Lay.flat, hc2]
  have hrun0 := run_buildSlice (P := C.P) w t e n (parts.map fun x => (x.1, a.eval x.2)) ((zs.map (SV.den E)).flatMap fun v => v.cells.toList).toArray i te.zv (htik.isSlice hsh) i1 i3 (by rw [i2]; omega) (by rw [i2]; omega) (by
    rw [hparts', i2]
    exact Great.fill_whole hpos' _ _ hc1 (by simp [hc3, hn]))
  have hrun : (execOp a.eval o).run C.P w = .ok (.value (.slice (some ⟨w.heap.size, 0, none⟩) n n)) (w.alloc (.cells (Y.d L).flat.toArray e)) := by
    rw [hflat]
    simp only [execOp, ho]
    rw [Sem.run_bind, hrun0]; rfl
  refine xl_wp hgd (fun c hc => by rw [ho] at hc; cases hc) hrun ?_
  rw [hd]
  have hbel : Below w.heap.size w (w.alloc (.cells (Y.d L).flat.toArray e)) := ⟨rfl, rfl, rfl, by rw [World.size_alloc]; omega, fun b hb => Below.heap_alloc _ _ _ hb⟩
  have hfl : (Y.d L).flat.length = n * (Y.d L).cs.length := by rw [Lay.flat_length, Lay.cs_length, hn]
  have hmax : n ≤ maxLen := by
    have : n * 1 ≤ n * te.sz := Nat.mul_le_mul_left _ hpos'
    have : maxLen = 9223372036854775807 := by decide
    omega
  have hown : (w.alloc (.cells (Y.d L).flat.toArray e)).ownsRow 0 e (Y.d L).cs.length (.slice (some ⟨w.heap.size, 0, none⟩) n n) (Y.d L).n (Y.d L).flat :=
    ⟨GV.flat_length _, .inr ⟨w.heap.size, n, (Y.d L).flat.toArray, by rw [Lay.d_n, hn], Nat.zero_le _, heap_alloc_new w _, by rw [Lay.d_n]; omega, hmax, by simpa using hfl, by
      rw [Lay.d_n, ← hn]
      simp only [← hfl]
      exact List.take_length ..⟩⟩
  have hv := ownAt_of (lo := w.heap.size) hown (fun b hb => by cases hb; exact Nat.le_refl _)
  have hE : ∀ j, j < nx → upd E nx (.slice (some ⟨w.heap.size, 0, none⟩) n n) j = E j := fun j hj => upd_other _ _ (by omega)
  have hg := hok.agr.grow (E' := upd E nx (.slice (some ⟨w.heap.size, 0, none⟩) n n)) (ow := (nx, .row e (Y.d L)) :: ow) (nx := nx + 1) hE (Nat.le_succ _)
  have hput := hg.put (g := []) (d := d) (s := .r nx) (x := .slice (some ⟨w.heap.size, 0, none⟩) n n) hf (fun _ => ⟨Nat.lt_succ_self _, _, _, _, upd_same _ _ _⟩) (fun _ => (by simp only [SV.den, upd_same])) (fun hn => absurd (fun x hx => (by cases hx)) hn) (fun _ => (by simp only [SV.den, upd_same]))
  have := K _ (a.put (some d) (.slice (some ⟨w.heap.size, 0, none⟩) n n)) _ ⟨⟨hput.size, hput.kn, hput.gk, hput.klt, hput.glt⟩, _, hsat.take hbel hv⟩
  exact wpListIn_monoQ (fun e a w => SemQ.mono hE (Nat.le_succ _) (Im.le.refl u)) _ _ _ this
structure Step (w : World) (F : Nat → Prop) (w' : World) (F' : Nat → Prop) : Prop where
  os : w'.os = w.os
  tape : w'.tape = w.tape
  output : w'.output = w.output
  size : w.heap.size ≤ w'.heap.size
  same : ∀ b, b < w.heap.size → ¬ F b → w'.heap[b]? = w.heap[b]?
  foot : ∀ b, F' b → F b ∨ w.heap.size ≤ b
def YieldTo (P : Program) (l : Nat) (x : Value) (w : World) (R : Ending → World → Prop) : Prop :=
  ∃ f tmps assign body, (Instr.yield l #[x]).run P w = .ok (.round l f tmps assign body) w ∧ RoundIn (FR none) 0 P l f tmps assign body w R
structure Im.ext (u u' : Im) : Prop where
  h : ∀ b o, u.h b = some o → u'.h b = some o
  os : u'.os = u.os
  tape : u'.tape = u.tape
  output : u'.output = u.output
  lo : u.lo ≤ u'.lo
theorem Im.le.ext {u u' : Im} (h : u.le u') : u.ext u' := ⟨h.h, h.os, h.tape, h.output, Nat.le_of_eq h.lo.symm⟩
theorem Im.ext.trans {a b c : Im} (h : a.ext b) (k : b.ext c) : a.ext c :=
  ⟨fun x o hx => k.h x o (h.h x o hx), k.os.trans h.os, k.tape.trans h.tape, k.output.trans h.output, Nat.le_trans h.lo k.lo⟩
theorem Im.ext.sub {u u' : Im} (h : u.ext u') : u.sub u' := ⟨h.h⟩
theorem Imm.of_ext {u u' : Im} {w : World} (h : Imm u' w) (hu : u.ext u') : Imm u w :=
  ⟨fun b o hb => h.h b o (hu.h b o hb), h.os.trans hu.os, h.tape.trans hu.tape, h.output.trans hu.output, Nat.le_trans hu.lo h.lo⟩
structure Wp (u0 : Im) where
  h : (Nat → Prop) → World → Prop
  loc : ∀ F w w', h F w → (∀ b, F b → w'.heap[b]? = w.heap[b]?) → Imm u0 w' → w.heap.size ≤ w'.heap.size → h F w'
  fin : ∀ F w, h F w → ∀ b, F b → b < w.heap.size
def Wp.hp {u0 : Im} (Y : Wp u0) : Hp where
  h := fun u F w => Y.h F w ∧ u0.ext u
  loc := fun _ F w w' hY hF hi hz => ⟨Y.loc F w w' hY.1 hF (hi.of_ext hY.2) hz, hY.2⟩
  mono := fun _ _ _ _ hY hu _ => ⟨hY.1, hY.2.trans hu.ext⟩
  fin := fun _ F w hY b hb => Y.fin F w hY.1 b hb
def Rounds (P : Program) (l : Nat) {u0 : Im} (Y : Nat → Wp u0) (Z : Wp u0) (xs : List Value) : Prop :=
  ∀ k x w F, xs[k]? = some x → Imm u0 w → (Y k).h F w → (∀ b, F b → u0.h b = none) →
    YieldTo P l x w fun e w' => ∃ F', Step w F w' F' ∧ ((e = .returned (.bool true) ∧ (Y (k + 1)).h F' w') ∨ (e = .returned (.bool false) ∧ Z.h F' w'))
def Iter (P : Program) (gf : Nat) (caps : Array Value) (xs : List Value) (u0 : Im) : Prop :=
  ∀ l (Y : Nat → Wp u0) (Z : Wp u0) w F, Rounds P l Y Z xs → Imm u0 w → (Y 0).h F w → (∀ b, F b → u0.h b = none) →
    Calls P gf (#[.func (.yield l) #[] #[]] ++ caps) w fun e w' => ∃ v F', e = .returned v ∧ Step w F w' F' ∧ ((Y xs.length).h F' w' ∨ Z.h F' w')
theorem Imm.of_step {u : Im} {w w' : World} {F F' : Nat → Prop} (h : Imm u w) (hs : Step w F w' F') (hoff : ∀ b, F b → u.h b = none) : Imm u w' := by
  refine ⟨fun b o hb => ?_, hs.os.trans h.os, hs.tape.trans h.tape, hs.output.trans h.output, Nat.le_trans h.lo hs.size⟩
  have hlt : b < w.heap.size := (Array.getElem?_eq_some_iff.1 (h.h b o hb)).1
  rw [hs.same b hlt (fun hF => by rw [hoff b hF] at hb; cases hb)]
  exact h.h b o hb
theorem xl_yield {C : Cx} (hro : C.ro = none) {all : List Oper} {o : Oper} {r : List Oper} {Q : Post} {kn : Kn} {gk : List (Nat × (Gd × SV))} {ow : Own} {nx : Nat} {u u0 : Im} {c : Call} {l kY k d : Nat} {Y : Nat → Wp u0} {Z : Wp u0} {xs : List Value} {x : Value} {fo : Operand}
    (hR : Rounds C.P l Y Z xs) (ho : o.op = .call c) (hgd : o.guard = none) (hd : o.dst = some d) (hc : c.callee = .value fo) (hfo : opd ⟨kn, gk, ow, nx⟩ [] fo = some (.v (.func (.yield l) #[] #[])))
    (hargs : argsOf ⟨kn, gk, ow, nx⟩ [] c.args.toList = some [.v x]) (hfr : fresh C.N ⟨kn, gk, ow, nx⟩ d [] = true) (hY : look ow kY = some (.gen (Y k).hp)) (hx : xs[k]? = some x)
    (K1 : XL C all r Q ⟨(d, .v (.bool true)) :: kn, gk, (kY, .gen (Y (k + 1)).hp) :: ow, nx⟩ u)
    (K2 : XL C all r Q ⟨(d, .v (.bool false)) :: kn, gk, (kY, .gen Z.hp) :: ow, nx⟩ u) : XL C all (o :: r) Q ⟨kn, gk, ow, nx⟩ u := by
  obtain ⟨P, ro, N⟩ := C
  simp only at hro
  subst hro
  unfold XL
  intro E a w hok
  obtain ⟨f, hsat⟩ := hok.sat
  have hgs : gs a.tmps [] := fun x hx => by cases hx
  obtain ⟨ef, _⟩ := opd_sound hok.agr hgs hfo
  obtain ⟨ea, _⟩ := argsOf_sound hok.agr hgs hargs
  simp only [SV.den] at ef
  obtain ⟨hYw, hext⟩ : (Y k).hp.h u (f kY) w := hsat.holds kY _ hY
  have hoff0 : ∀ b, f kY b → u0.h b = none := fun b hb => by
    cases h0 : u0.h b with
    | none => rfl
    | some o => have h1 := hext.h b o h0; rw [hsat.off kY b hb] at h1; cases h1
  obtain ⟨fn, tmps, asg, body, hrun, hround⟩ := hR k x w (f kY) hx (hsat.imm.of_ext hext) hYw hoff0
  have ea' : c.args.map a.eval = #[x] := by
    apply Array.ext'
    simpa [SV.den] using ea
  have hrun2 : (execOp a.eval o).run P w = .ok (.round l fn tmps asg body) w := by
    simp only [execOp, ho]
    simp [resolve, hc, ef, Deferred.ofValue, invoke, ea', hrun]
  unfold wpListIn
  rw [if_pos (by simp [Region.wanted, hgd])]
  refine ⟨fun _ _ => trivial, ?_⟩
  rw [semAt_eq _ _ _ (fun c' hc' => by rw [ho] at hc'; cases hc'), hrun2, Oper.uponIn_round]
  refine ⟨fun h => (by cases h), RoundIn.mono hround ?_⟩
  rintro e w' ⟨F', hst, hh⟩
  have himm : Imm u w' := hsat.imm.of_step hst (fun b hb => hsat.off kY b hb)
  have main : ∀ (b : Bool) (A : Hp), A.h u F' w' → (XL ⟨P, none, N⟩ all r Q ⟨(d, .v (.bool b)) :: kn, gk, (kY, .gen A) :: ow, nx⟩ u) →
      wpListIn (FR none) 0 P all.toArray (SemQ ⟨P, none, N⟩ E nx u Q) r (a.put o.dst (.bool b)) w' := by
    intro b A hA K
    unfold XL at K
    have hs2 : Sat E ((kY, .gen A) :: ow) nx u a.defers w' (upd f kY F') := by
      refine hsat.step (fun j => j = kY) (fun _ _ => rfl) (Nat.le_refl _) (Im.le.refl u) himm hst.size (fun b hb hno => hst.same b hb (hno kY rfl)) ?_ ?_ ?_ (fun b o ho => .inl ho)
      · intro j hj
        exact ⟨by rw [look_cons, if_neg (Ne.symm hj)], fun b => by rw [upd_other _ _ hj]⟩
      · rintro j rfl
        refine ⟨fun r hr => ?_, fun hr => ?_, fun b hb => ?_⟩
        · rw [look_cons, if_pos rfl] at hr
          cases hr
          refine ⟨?_, (hsat.lt _ _ hY).1, trivial⟩
          simp only [Rs.holds, upd_same]; exact hA
        · rw [look_cons, if_pos rfl] at hr; cases hr
        · rw [upd_same] at hb
          refine ⟨(hst.foot b hb).imp (fun h => ⟨j, rfl, h⟩) id, ?_⟩
          rcases hst.foot b hb with h | h
          · exact hsat.off j b h
          · cases hub : u.h b with
            | none => rfl
            | some o => have := (Array.getElem?_eq_some_iff.1 (hsat.imm.h b o hub)).1; omega
      · intro j j' b hj hj' hne; subst hj hj'; exact absurd rfl hne
    have hag : Agr N E ⟨kn, gk, (kY, .gen A) :: ow, nx⟩ a.tmps := ⟨hok.agr.size, hok.agr.kn, hok.agr.gk, hok.agr.klt, hok.agr.glt⟩
    have hput := hag.put (g := []) (d := d) (s := .v (.bool b)) (x := .bool b) hfr (fun _ => trivial) (fun _ => rfl) (fun hn => absurd (fun x hx => (by cases hx)) hn) (fun _ => rfl)
    rw [hd]
    exact K E (a.put (some d) (.bool b)) w' ⟨⟨hput.size, hput.kn, hput.gk, hput.klt, hput.glt⟩, _, hs2⟩
  rcases hh with ⟨rfl, hA⟩ | ⟨rfl, hA⟩
  · exact main true (Y (k + 1)).hp ⟨hA, hext⟩ K1
  · exact main false Z.hp ⟨hA, hext⟩ K2
theorem x_iter {T : TT} {P : Program} (hT : TOk P T) {gf N : Nat} {fn : Func} {c : Code} (hf : P.funcs[gf]? = some fn) (hb : fn.body = some c) (hN : fn.ntmps = N)
    {caps : Array Value} {xs : List Value} {u0 : Im} (bs : List (Value × Data)) (ss : List SV) (E : Env) (hE : ∀ j (b : Value × Data), bs[j]? = some b → E (j + 1) = b.1)
    (hcaps : caps = (ss.map (SV.den E)).toArray) (hle : Nat.ble (ss.length + 1) N = true) (hss : ∀ s ∈ ss, s.lt E (bs.length + 1)) (hbs : ∀ b ∈ bs, SlAt u0 b.1 b.2)
    (h : ∀ l (Y : Nat → Wp u0) (Z : Wp u0) u, u0.ext u → Rounds P l Y Z xs → X ⟨P, none, N⟩ c (FinQ T fn.results.toList fun _ st _ => look st.ow 0 = some (.gen (Y xs.length).hp) ∨ look st.ow 0 = some (.gen Z.hp))
      ⟨knOf 0 (.v (.func (.yield l) #[] #[]) :: ss), [], (0, .gen (Y 0).hp) :: ownOf 1 bs, bs.length + 1⟩ u) : Iter P gf caps xs u0 := by
  classical
  intro l Y Z w F hR himm hY0 hoff
  let v : Im := { h := fun b => if F b then none else w.heap[b]?, os := w.os, tape := w.tape, output := w.output, lo := w.heap.size }
  have hv : ∀ b, ¬ F b → v.h b = w.heap[b]? := fun b hb => by show (if F b then none else w.heap[b]?) = _; rw [if_neg hb]
  have hvF : ∀ b, F b → v.h b = none := fun b hb => by show (if F b then none else w.heap[b]?) = _; rw [if_pos hb]
  have huv : u0.ext v := ⟨fun b o ho => by rw [hv b (fun hF => by rw [hoff b hF] at ho; cases ho)]; exact himm.h b o ho, himm.os, himm.tape, himm.output, himm.lo⟩
  have himmv : Imm v w := ⟨fun b o ho => by
    by_cases hb : F b
    · rw [hvF b hb] at ho; cases ho
    · rw [hv b hb] at ho; exact ho, rfl, rfl, rfl, Nat.le_refl _⟩
  have hsat : Sat E ((0, .gen (Y 0).hp) :: ownOf 1 bs) (bs.length + 1) v [] w (fun k b => k = 0 ∧ F b) := by
    have hol : ∀ k r, look (ownOf 1 bs) k = some r → ∃ j b, k = j + 1 ∧ bs[j]? = some b ∧ r = .sl b.2 := fun k r hl => by
      obtain ⟨h1, b, h2, h3⟩ := ownOf_look hl
      exact ⟨k - 1, b, by omega, h2, h3⟩
    refine ⟨fun k r hl => ?_, fun k hl b hb => ?_, fun k k' b hne h1 h2 => hne (h1.1.trans h2.1.symm), fun k b hb => hvF b hb.2, fun k r hl => ?_, himmv, [], rfl, List.nodup_nil, fun d hd => by cases hd⟩
    · rw [look_cons] at hl
      split at hl
      · rename_i e; subst e; cases hl
        have : (fun b => (0 : Nat) = 0 ∧ F b) = F := funext fun b => propext ⟨fun h => h.2, fun h => ⟨rfl, h⟩⟩
        show (Y 0).hp.h v (fun b => (0 : Nat) = 0 ∧ F b) w
        rw [this]
        exact ⟨hY0, huv⟩
      · rename_i e
        obtain ⟨j, b, rfl, hj, rfl⟩ := hol k r hl
        refine ⟨?_, fun x hx => e hx.1.symm⟩
        rw [hE j b hj]
        exact (hbs b (List.mem_of_getElem? hj)).sub huv.sub
    · obtain ⟨rfl, _⟩ := hb
      rw [look_cons, if_pos rfl] at hl; cases hl
    · rw [look_cons] at hl
      split at hl
      · rename_i e; subst e; cases hl; exact ⟨Nat.succ_pos _, trivial⟩
      · obtain ⟨j, b, rfl, hj, rfl⟩ := hol k r hl
        exact ⟨Nat.succ_lt_succ (List.getElem?_eq_some_iff.1 hj).1, trivial⟩
  refine (callsIn_wide (n := 0)).1 (callsIn_of_wp_marks hf hb trivial ?_ rfl)
  have hle' : ss.length + 1 ≤ N := Nat.le_of_ble_eq_true hle
  have hargs : (#[.func (.yield l) #[] #[]] ++ caps : Array Value) = ((SV.v (.func (.yield l) #[] #[]) :: ss).map (SV.den E)).toArray := by
    rw [hcaps]
    apply Array.ext'
    simp [SV.den]
  rw [hargs]
  have hlt : ∀ s ∈ (SV.v (.func (.yield l) #[] #[]) :: ss), s.lt E (bs.length + 1) := fun s hs => by
    rcases List.mem_cons.1 hs with rfl | hs
    · trivial
    · exact hss s hs
  have hagr : Agr N E ⟨knOf 0 (SV.v (.func (.yield l) #[] #[]) :: ss), [], (0, .gen (Y 0).hp) :: ownOf 1 bs, bs.length + 1⟩ (((SV.v (.func (.yield l) #[] #[]) :: ss).map (SV.den E)).toArray ++ Array.replicate (fn.ntmps - (((SV.v (.func (.yield l) #[] #[]) :: ss).map (SV.den E)).toArray).size) undef) := by
    refine ⟨?_, ?_, fun d g s h => (by cases h), ?_, fun d g s h => (by cases h)⟩
    · rw [hN]; simp; omega
    · intro d s _ h2
      have h3 := (knOf_look h2).2
      rw [Nat.sub_zero] at h3
      have hd : d < (SV.v (.func (.yield l) #[] #[]) :: ss).length := (List.getElem?_eq_some_iff.1 h3).1
      rw [Array.getElem?_append_left (by simpa using hd)]
      simp only [List.getElem?_toArray, List.getElem?_map, h3, Option.map_some]
    · intro d s h2
      exact hlt s (List.mem_of_getElem? (knOf_look h2).2)
  have hX := h l Y Z v huv hR
  unfold X at hX
  refine Go.wpIn_mono (hX E { tmps := ((SV.v (.func (.yield l) #[] #[]) :: ss).map (SV.den E)).toArray ++ Array.replicate (fn.ntmps - (((SV.v (.func (.yield l) #[] #[]) :: ss).map (SV.den E)).toArray).size) undef, defers := [] } w ⟨hagr, _, hsat⟩) ?_
  rintro e a' w' ⟨E', st', u', h1, h2, h3, hok', h5⟩
  obtain ⟨f', hs⟩ := hok'.sat
  have fin : ∀ lr, resV T st' fn.results.toList = some lr → (look st'.ow 0 = some (.gen (Y xs.length).hp) ∨ look st'.ow 0 = some (.gen Z.hp)) →
      LeavesInM (FR none) 0 P fn a'.tmps (fun e w' => ∃ v F', e = .returned v ∧ Step w F w' F' ∧ ((Y xs.length).h F' w' ∨ Z.h F' w')) a'.defers .returning w' := by
    intro lr hl hA
    obtain ⟨ds, hds, _⟩ := hs.marks
    rw [hds] at hs ⊢
    refine leaves (C := ⟨P, none, N⟩) hT hok'.agr hl (fun w'' hw => ?_) ds w' hs
    refine ⟨_, f' 0, rfl, ⟨hw.imm.os.trans h3.os, hw.imm.tape.trans h3.tape, hw.imm.output.trans h3.output, by have := hw.imm.lo; rw [h3.lo] at this; exact this, fun b hb hF => ?_, fun b hb => ?_⟩, ?_⟩
    · have h1 : v.h b = some (w.heap[b]'hb) := by rw [hv b hF]; exact Array.getElem?_eq_getElem hb
      rw [hw.imm.h b _ (h3.h b _ h1), Array.getElem?_eq_getElem hb]
    · by_cases hF : F b
      · exact .inl hF
      · rcases Nat.lt_or_ge b w.heap.size with hlt | hge
        · have h1 : v.h b = some (w.heap[b]'hlt) := by rw [hv b hF]; exact Array.getElem?_eq_getElem hlt
          have h2 := h3.h b _ h1
          rw [hw.off 0 b hb] at h2; cases h2
        · exact .inr hge
    · rcases hA with hA | hA
      · exact .inl (hw.holds 0 _ hA).1
      · exact .inr (hw.holds 0 _ hA).1
  cases e with
  | normal =>
    simp only [FinQ] at h5
    split at h5
    · rename_i l hl; exact fin l hl h5
    · exact h5.elim
  | ret =>
    simp only [FinQ] at h5
    split at h5
    · rename_i l hl; exact fin l hl h5
    · exact h5.elim
  | exit id => exact h5.elim
  | goto l => exact h5.elim
  | panic c => exact h5.elim
  | outgrown => exact h5.elim
theorem Sat.local {E : Env} {o : Own} {nx : Nat} {u : Im} {df : List Deferred} {w w' : World} {f : Nat → Nat → Prop} (h : Sat E o nx u df w f) (hw : ∀ k b, f k b → w'.heap[b]? = w.heap[b]?) (hi : Imm u w') (hz : w.heap.size ≤ w'.heap.size) : Sat E o nx u [] w' f :=
  ⟨fun k r hl => Rs.holds_local (hw k) hi hz (h.holds k r hl), h.non, h.apart, h.off, h.lt, hi, [], rfl, List.nodup_nil, fun d hd => by cases hd⟩
theorem Sat.dropK {E : Env} {o : Own} {nx kf : Nat} {r0 : Rs} {u : Im} {df : List Deferred} {w : World} {f : Nat → Nat → Prop} (h : Sat E ((kf, r0) :: o) nx u df w f) (hfree : look o kf = none) : Sat E o nx u df w (fun k b => k ≠ kf ∧ f k b) := by
  have hl' : ∀ k, k ≠ kf → look ((kf, r0) :: o) k = look o k := fun k hk => by rw [look_cons, if_neg (Ne.symm hk)]
  have hne : ∀ k r, look o k = some r → k ≠ kf := fun k r hl e => by subst e; rw [hfree] at hl; cases hl
  refine ⟨fun k r hl => ?_, fun k hl b hb => h.non k (by rw [hl' k hb.1]; exact hl) b hb.2, fun k k' b hne h1 h2 => h.apart k k' b hne h1.2 h2.2, fun k b hb => h.off k b hb.2, fun k r hl => h.lt k r (by rw [hl' k (hne k r hl)]; exact hl), h.imm, ?_⟩
  · have hk := hne k r hl
    have : (fun b => k ≠ kf ∧ f k b) = f k := funext fun b => propext ⟨fun h => h.2, fun h => ⟨hk, h⟩⟩
    rw [this]
    exact h.holds k r (by rw [hl' k hk]; exact hl)
  · obtain ⟨ds, h1, h2, h3⟩ := h.marks
    exact ⟨ds, h1, h2, fun d hd => ⟨(h3 d hd).1, (h3 d hd).2.1, fun k hk => (h3 d hd).2.2 k hk.2⟩⟩
def frameHp (S : Nat → Prop) (o : Nat → Option Obj) (n : Nat) : Hp where
  h := fun _ F w => (∀ b, F b ↔ S b) ∧ n ≤ w.heap.size ∧ ∀ b, S b → w.heap[b]? = o b ∧ b < w.heap.size
  loc := fun _ F w w' ⟨h1, h0, h2⟩ hF _ hz => ⟨h1, Nat.le_trans h0 hz, fun b hb => ⟨(hF b ((h1 b).2 hb)).trans (h2 b hb).1, Nat.lt_of_lt_of_le (h2 b hb).2 hz⟩⟩
  mono := fun _ _ _ _ h _ _ => h
  fin := fun _ F w ⟨h1, _, h2⟩ b hb => (h2 b ((h1 b).1 hb)).2
structure InL (keep : Nat) (E0 : Env) (ue : Im) (l : Nat) (rec : Loop) (ms : List Nat) (ow : Own) (nx : Nat) (G : Im → Prop) (F : Nat → Prop) (w : World) (E : Env) (f : Nat → Nat → Prop) (uc : Im) : Prop where
  g : G uc
  le : ue.le uc
  env : ∀ j, j < keep → E j = E0 j
  sat : Sat E ow nx uc [] w f
  loop : w.heap[l]? = some (.loop rec)
  ml : ∀ d ∈ ms, w.heap[d]? = some (.deferred (some [])) ∧ uc.h d = none ∧ (∀ k, ¬ f k d) ∧ F d
  lu : uc.h l = none
  lf : ∀ k, ¬ f k l
  lF : F l
  cov : ∀ b o, uc.h b = some o → ue.h b = some o ∨ F b
  fF : ∀ k b, f k b → F b
  fin : ∀ b, F b → b < w.heap.size
theorem InL.loc {keep : Nat} {E0 : Env} {ue : Im} {l : Nat} {rec : Loop} {ms : List Nat} {ow : Own} {nx : Nat} {G : Im → Prop} {F : Nat → Prop} {w w' : World} {E : Env} {f : Nat → Nat → Prop} {uc : Im} (h : InL keep E0 ue l rec ms ow nx G F w E f uc)
    (hF : ∀ b, F b → w'.heap[b]? = w.heap[b]?) (hi : Imm ue w') (hz : w.heap.size ≤ w'.heap.size) : InL keep E0 ue l rec ms ow nx G F w' E f uc := by
  have hi' : Imm uc w' := ⟨fun b o ho => by
    rcases h.cov b o ho with h1 | h1
    · exact hi.h b o h1
    · rw [hF b h1]; exact h.sat.imm.h b o ho, hi.os.trans h.le.os.symm, hi.tape.trans h.le.tape.symm, hi.output.trans h.le.output.symm, by rw [h.le.lo]; exact hi.lo⟩
  exact ⟨h.g, h.le, h.env, h.sat.local (fun k b hb => hF b (h.fF k b hb)) hi' hz, (hF l h.lF).trans h.loop, fun d hd => ⟨(hF d (h.ml d hd).2.2.2).trans (h.ml d hd).1, (h.ml d hd).2⟩, h.lu, h.lf, h.lF, h.cov, h.fF,
    fun b hb => Nat.lt_of_lt_of_le (h.fin b hb) hz⟩
def inW (keep : Nat) (E0 : Env) (ue : Im) (l : Nat) (ms : List Nat) {σ : Type} (rec : σ → Loop) (ow : σ → Own) (nx : σ → Nat) (G : σ → Im → Prop) : Wp ue where
  h := fun F w => ∃ s E f uc, InL keep E0 ue l (rec s) ms (ow s) (nx s) (G s) F w E f uc
  loc := fun _ _ _ ⟨s, E, f, uc, h⟩ hF hi hz => ⟨s, E, f, uc, h.loc hF hi hz⟩
  fin := fun _ _ ⟨_, _, _, _, h⟩ => h.fin
theorem round_end {keep : Nat} {E0 E : Env} {ue uc u3 : Im} {l : Nat} {rec rec' : Loop} {ms : List Nat} {ow ow3 : Own} {nx nx3 : Nat} {G G3 : Im → Prop} {F : Nat → Prop} {w w3 : World} {f f4 : Nat → Nat → Prop} {E4 : Env}
    (hin : InL keep E0 ue l rec ms ow nx G F w E f uc) (himm : Imm ue w) (hu : uc.le u3) (hE : ∀ j, j < keep → E4 j = E0 j) {o2 : Nat → Option Obj}
    (ho2 : ∀ b, b ≠ l → (b < w.heap.size ∧ (∀ k, ¬ f k b) ∧ uc.h b = none) → o2 b = w.heap[b]?)
    (hs : Sat E4 ((keep, .gen (frameHp (fun b => b < w.heap.size ∧ (∀ k, ¬ f k b) ∧ uc.h b = none) o2 w.heap.size)) :: ow3) nx3 u3 [] w3 f4) (hfree : look ow3 keep = none) (hg : G3 u3) :
    ∃ F', Step w F (w3.putObj l (.loop rec')) F' ∧ ∃ f5, InL keep E0 ue l rec' ms ow3 nx3 G3 F' (w3.putObj l (.loop rec')) E4 f5 u3 := by
  obtain ⟨hS, hn, hfr⟩ := hs.holds keep _ (by rw [look_cons, if_pos rfl])
  have hlS : l < w.heap.size ∧ (∀ k, ¬ f k l) ∧ uc.h l = none := ⟨(Array.getElem?_eq_some_iff.1 hin.loop).1, hin.lf, hin.lu⟩
  have hl3 : l < w3.heap.size := (hfr l hlS).2
  have hoffS : ∀ b, (b < w.heap.size ∧ (∀ k, ¬ f k b) ∧ uc.h b = none) → u3.h b = none := fun b hb => hs.off keep b ((hS b).2 hb)
  have hapS : ∀ j b, j ≠ keep → f4 j b → ¬ (b < w.heap.size ∧ (∀ k, ¬ f k b) ∧ uc.h b = none) := fun j b hj h1 h2 => hs.apart j keep b hj h1 ((hS b).2 h2)
  have hsz : (w3.putObj l (.loop rec')).heap.size = w3.heap.size := by simp [World.putObj]
  have hoth : ∀ b, b ≠ l → (w3.putObj l (.loop rec')).heap[b]? = w3.heap[b]? := fun b hb => World.putObj_heap_other hb
  have hu3l : u3.h l = none := hoffS l hlS
  have himm4 : Imm u3 (w3.putObj l (.loop rec')) := ⟨fun b o hb => by rw [hoth b (fun e => by subst e; rw [hu3l] at hb; cases hb)]; exact hs.imm.h b o hb, hs.imm.os, hs.imm.tape, hs.imm.output, by rw [hsz]; exact hs.imm.lo⟩
  have hsd := hs.dropK hfree
  have hs4 := hsd.local (w' := w3.putObj l (.loop rec')) (fun k b hb => hoth b (fun e => by subst e; exact hapS k b hb.1 hb.2 hlS)) himm4 (Nat.le_of_eq hsz.symm)
  have hdl : ∀ d ∈ ms, d ≠ l := fun d hd e => by
    have h1 := (hin.ml d hd).1
    rw [e, hin.loop] at h1; cases h1
  have hdS : ∀ d ∈ ms, d < w.heap.size ∧ (∀ k, ¬ f k d) ∧ uc.h d = none := fun d hd => by
    obtain ⟨h1, h2, h3, _⟩ := hin.ml d hd
    exact ⟨(Array.getElem?_eq_some_iff.1 h1).1, h3, h2⟩
  refine ⟨fun b => (∃ j, j ≠ keep ∧ f4 j b) ∨ b = l ∨ b ∈ ms ∨ ((∃ o, u3.h b = some o) ∧ ue.h b = none), ⟨?_, ?_, ?_, ?_, ?_, ?_⟩, fun k b => k ≠ keep ∧ f4 k b, ⟨hg, hin.le.trans hu, hE, hs4, World.putObj_heap_same hl3, ?_, hu3l, ?_, .inr (.inl rfl), ?_, fun k b hb => .inl ⟨k, hb⟩, ?_⟩⟩
  · exact (hs.imm.os.trans (hu.os.trans hin.le.os)).trans himm.os.symm
  · exact (hs.imm.tape.trans (hu.tape.trans hin.le.tape)).trans himm.tape.symm
  · exact (hs.imm.output.trans (hu.output.trans hin.le.output)).trans himm.output.symm
  · rw [hsz]; exact hn
  · intro b hb hF
    have hbl : b ≠ l := fun e => hF (e ▸ hin.lF)
    rw [hoth b hbl]
    cases hub : uc.h b with
    | some o => rw [hs.imm.h b o (hu.h b o hub), hin.sat.imm.h b o hub]
    | none =>
      have hSb : b < w.heap.size ∧ (∀ k, ¬ f k b) ∧ uc.h b = none := ⟨hb, fun k hk => hF (hin.fF k b hk), hub⟩
      rw [(hfr b hSb).1, ho2 b hbl hSb]
  · rintro b (⟨j, hj, hb⟩ | rfl | hb | ⟨⟨o, ho⟩, hb⟩)
    · rcases Nat.lt_or_ge b w.heap.size with hlt | hge
      · refine .inl (Classical.byContradiction fun hF => hapS j b hj hb ⟨hlt, fun k hk => hF (hin.fF k b hk), ?_⟩)
        cases hub : uc.h b with
        | none => rfl
        | some o => have h1 := hu.h b o hub; rw [hs.off j b hb] at h1; cases h1
      · exact .inr hge
    · exact .inl hin.lF
    · exact .inl (hin.ml b hb).2.2.2
    · rcases Nat.lt_or_ge b w.heap.size with hlt | hge
      · refine .inl (Classical.byContradiction fun hF => ?_)
        have hnS : ¬ (b < w.heap.size ∧ (∀ k, ¬ f k b) ∧ uc.h b = none) := fun hSb => by rw [hoffS b hSb] at ho; cases ho
        refine hnS ⟨hlt, fun k hk => hF (hin.fF k b hk), ?_⟩
        cases hub : uc.h b with
        | none => rfl
        | some o' =>
          rcases hin.cov b o' hub with h1 | h1
          · rw [hb] at h1; cases h1
          · exact absurd h1 hF
      · exact .inr hge
  · intro d hd
    have h1 := hdS d hd
    refine ⟨?_, hoffS d h1, fun k hk => hapS k d hk.1 hk.2 h1, .inr (.inr (.inl hd))⟩
    rw [hoth d (hdl d hd), (hfr d h1).1, ho2 d (hdl d hd) h1]
    exact (hin.ml d hd).1
  · exact fun k hk => hapS k l hk.1 hk.2 hlS
  · intro b o ho
    cases hb : ue.h b with
    | none => exact .inr (.inr (.inr (.inr ⟨⟨o, ho⟩, rfl⟩)))
    | some o' =>
      have := (hin.le.trans hu).h b o' hb
      rw [ho] at this
      exact .inl this.symm
  · rintro b (⟨j, hj, hb⟩ | rfl | hb | ⟨⟨o, ho⟩, hb⟩)
    · rw [hsz]; exact hs.fin hb
    · rw [hsz]; exact hl3
    · rw [hsz]; exact (hfr b (hdS b hb)).2
    · rw [hsz]; exact (Array.getElem?_eq_some_iff.1 (hs.imm.h b o ho)).1
theorem SV.lt_in {E : Env} {n n' : Nat} {s : SV} (hi : s.inN n' = true) (h : s.lt E n) : s.lt E n' := by
  cases s with
  | v x => trivial
  | p k off => exact ⟨blt_lt hi, h.2⟩
  | r k => exact ⟨blt_lt hi, h.2⟩
  | e k sz i off => exact ⟨blt_lt hi, h.2⟩
  | clo f ks =>
    simp only [inN, List.all_eq_true] at hi
    exact fun k hk => ⟨blt_lt (hi k hk), (h k hk).2⟩
  | tup l =>
    simp only [inN, List.all_eq_true] at hi
    exact fun k hk => ⟨blt_lt (hi _ hk), (h k hk).2⟩
theorem Agr.keepE {N : Nat} {E E0 : Env} {kn : Kn} {ow ow' : Own} {n n' keep : Nat} {tm : Array Value} (h : Agr N E0 ⟨kn, [], ow, n⟩ tm) (hk : kn.all (fun x => x.2.inN keep) = true) (hE : ∀ j, j < keep → E j = E0 j) (hn : keep ≤ n') :
    Agr N E ⟨kn, [], ow', n'⟩ tm := by
  have hlt : ∀ d s, look kn d = some s → s.lt E0 keep := fun d s hl => SV.lt_in (List.all_eq_true.1 hk _ (look_mem hl)) (h.klt d s hl)
  refine ⟨h.size, fun d s _ hl => ?_, fun d g s hl => (by cases hl), fun d s hl => SV.lt_mono hE hn (hlt d s hl), fun d g s hl => (by cases hl)⟩
  rw [h.kn d s rfl hl, SV.den_congr hE (hlt d s hl)]
def jmp : Exit → Option Code
  | .ret => some .ret
  | .exit id => some (.exit id)
  | .goto t => some (.goto t)
  | _ => none
def onlyN (K : St → Im → Prop) : Post := fun e st u =>
  match e with
  | .normal => K st u
  | _ => False
def RQ {σ τ : Type} (keep : Nat) (hdo : σ → Own) (hdn : σ → Nat) (G : σ → Im → Prop) (hxo : τ → Own) (hxn : τ → Nat) (GX : τ → Exit → Im → Prop) (Fr : Hp) : Post := fun e st u =>
  match e with
  | .normal => ∃ s ρ, Sub (keep + 1) ρ ⟨[], [], st.ow, st.nx⟩ ⟨[], [], (keep, .gen Fr) :: hdo s, hdn s⟩ ∧ G s u
  | .panic _ => False
  | .outgrown => False
  | e => ∃ t ρ, Sub (keep + 1) ρ ⟨[], [], st.ow, st.nx⟩ ⟨[], [], (keep, .gen Fr) :: hxo t, hxn t⟩ ∧ GX t e u
def recL (fn : Nat) (tm : Array Value) (p : Nat) (asg body : Code) (D : Nat) (st : LoopState) (pe : Option Code) : Loop :=
  { state := st, pending := pe, fn, tmps := tm, params := #[p], assign := asg, body, defers := D }
theorem Sub.sat {keep : Nat} {ρ : Ren} {ow ow' : Own} {nx nx' : Nat} (h : Sub keep ρ ⟨[], [], ow, nx⟩ ⟨[], [], ow', nx'⟩) {E : Env} {u : Im} {df : List Deferred} {w : World} {f : Nat → Nat → Prop} (hs : Sat E ow nx u df w f) :
    ∃ E' f', (∀ k, k < keep → E' k = E k) ∧ Sat E' ow' nx' u df w f' := by
  have hok0 : Ok ⟨default, none, 0⟩ E ⟨[], [], ow, nx⟩ u { tmps := #[], defers := df } w :=
    ⟨⟨rfl, fun d s _ h => (by cases h), fun d g s h => (by cases h), fun d s h => (by cases h), fun d g s h => (by cases h)⟩, f, hs⟩
  obtain ⟨E3, hE3, hok3⟩ := h.ok hok0
  obtain ⟨F3, hs3⟩ := hok3.sat
  exact ⟨E3, F3, hE3, hs3⟩
theorem X.run {C : Cx} {c : Code} {Q : Post} {st : St} {u : Im} (h : X C c Q st u) {E : Env} {a : Act} {w : World} (hok : Ok C E st u a w) : c.wpIn (FR C.ro) 0 C.P (SemQ C E st.nx u Q) a w := by
  unfold X at h
  exact h E a w hok
theorem Sat.boxNew {E : Env} {o : Own} {nx : Nat} {u : Im} {df : List Deferred} {w w0 : World} {f : Nat → Nat → Prop} (h : Sat E o nx u df w f) {k : Nat} {t : TypeId} {cs : List SV} (hk : look o k = some (.box t cs)) (hu : (im w0).le u) :
    ∃ b, E k = .pointer (some ⟨b, 0, none⟩) ∧ (cut w0.heap.size (im w)).h b = some (.cells (cs.map (SV.den E)).toArray t (0, 0)) := by
  obtain ⟨b, h1, h2, h3⟩ := h.holds k _ hk
  refine ⟨b, h1, ?_⟩
  have h4 := h.off k b ((h2 b).2 rfl)
  simp only [cut, im]
  rcases Nat.lt_or_ge b w0.heap.size with hlt | hge
  · have : (im w0).h b = some w0.heap[b] := Array.getElem?_eq_getElem hlt
    rw [hu.h _ _ this] at h4; cases h4
  · rw [if_neg (by omega)]; exact h3
theorem SlAt.box1 {u : Im} {b : Nat} {x : Value} {t : TypeId} {fr : Nat × Nat} (h : u.h b = some (.cells #[x] t fr)) : SlAt u (.slice (some ⟨b, 0, none⟩) 1 1) ⟨1, [fun _ => x]⟩ := by
  refine ⟨_, 1, rfl, Nat.le_refl _, by decide, fun _ => ⟨_, rfl, fun i hi j f hf => ?_⟩⟩
  have hi0 : i = 0 := by
    have : i < 1 := hi
    omega
  subst hi0
  match j, hf with
  | 0, hf =>
    cases hf
    show u.cell? ⟨b, 0, none⟩ = some x
    unfold Im.cell?
    rw [h]
    rfl
  | j + 1, hf => simp at hf
def boxEnv (b : Nat) : Env := fun k => if k = 1 then .slice (some ⟨b, 0, none⟩) 1 1 else undef
def chainB (ops : Array Oper) : List Nat → Array Bool → Bool
  | [], _ => true
  | i :: r, listed => decide (Region.ready .any ops listed = [i]) && chainB ops r (listed.setIfInBounds i true)
theorem wpAny_chain {ro : Option Nat} {P : Program} {ops : Array Oper} {Q Q' : Exit → Act → World → Prop} (h : ∀ e a w, e ≠ .normal → Q' e a w → Q e a w) {fuel : Nat} : ∀ (l : List Nat) (listed : Array Bool),
    hasAll ops.toList l = true → chainB ops l listed = true → (∀ a w, Q' .normal a w → wpAnyIn (FR ro) 0 P .any ops Q fuel (marks listed l) a w) →
    ∀ a w, wpListIn (FR ro) 0 P ops Q' (opsAt ops.toList l) a w → wpAnyIn (FR ro) 0 P .any ops Q (fuel + l.length) listed a w
  | [], _, _, _, hk, a, w, hw => hk a w (by simpa [opsAt, wpListIn] using hw)
  | i :: r, listed, ha, hc, hk, a, w, hw => by
    simp only [hasAll, Bool.and_eq_true] at ha
    simp only [chainB, Bool.and_eq_true, decide_eq_true_eq] at hc
    obtain ⟨o, ho⟩ := Option.isSome_iff_exists.1 ha.1
    have ho' : ops[i]? = some o := by simpa using ho
    refine wpAnyIn_all hc.1 (by simp) fun j hj => ?_
    have : j = i := by simpa using hj
    subst this
    have key : wpOpIn (FR ro) 0 P ops Q' j (wpListIn (FR ro) 0 P ops Q' (opsAt ops.toList r)) a w := by
      unfold wpOpIn
      simp only [ho']
      simp only [opsAt, ho] at hw
      unfold wpListIn at hw
      exact hw
    exact wpOpIn_post h (fun a' w' hw' => wpAny_chain h r _ ha.2 hc.2 hk a' w' hw') key
theorem xa_chain {C : Cx} {ops : Array Oper} {fuel n : Nat} {listed : Array Bool} {Q : Post} {st : St} {u : Im} (l : List Nat) (hn : n = l.length + fuel) (ha : hasAll ops.toList l = true) (hl : chainB ops l listed = true)
    (h : XL C ops.toList (opsAt ops.toList l) (thn (XA C ops fuel (marks listed l) Q) Q) st u) : XA C ops n listed Q st u := by
  subst hn
  intro E a w hok
  unfold XL at h
  rw [Nat.add_comm]
  have h1 := h E a w hok
  refine wpAny_chain (Q' := SemQ C E st.nx u (thn (XA C ops fuel (marks listed l) Q) Q)) ?_ l listed ha hl ?_ a w h1
  · rintro e a' w' hne ⟨E', st', u', h2, h3, h4, h5, h6⟩
    cases e with
    | normal => exact absurd rfl hne
    | exit id => exact ⟨E', st', u', h2, h3, h4, h5, h6⟩
    | goto l => exact ⟨E', st', u', h2, h3, h4, h5, h6⟩
    | ret => exact ⟨E', st', u', h2, h3, h4, h5, h6⟩
    | panic c => exact ⟨E', st', u', h2, h3, h4, h5, h6⟩
    | outgrown => exact ⟨E', st', u', h2, h3, h4, h5, h6⟩
  · rintro a' w' ⟨E', st', u', h2, h3, h4, h5, h6⟩
    exact wpAnyIn_post (fun e a w => SemQ.mono h2 h3 h4) (h6 E' a' w' h5)
end Go.GV
namespace Go.GV
open Go.RowKit
structure SI where
  x : Value
  e : TypeId
  D : Data
def SI.hole : SI := ⟨.slice none 0 0, 0, ⟨0, []⟩⟩
def SI.own (w : World) (p : SI) : Prop := w.ownsRow 0 p.e p.D.cs.length p.x p.D.n p.D.flat
def SI.dis (p q : SI) : Prop := ∀ b, p.x.ownBlock = some b → ¬ q.x.ownBlock = some b
theorem SI.dis_symm {p q : SI} (h : p.dis q) : q.dis p := fun b h1 h2 => h b h2 h1
def starF (l : List SI) (b : Nat) : Prop := ∃ p ∈ l, p.x.ownBlock = some b
def starDis (l : List SI) : Prop := l.Pairwise SI.dis
theorem SI.hole_own (w : World) : SI.hole.own w := ⟨rfl, .inl ⟨rfl, rfl⟩⟩
theorem hole_none : SI.hole.x.ownBlock = none := rfl
def starHp (l : List SI) : Hp where
  h := fun _ F w => (∀ p ∈ l, p.own w) ∧ starDis l ∧ ∀ b, F b ↔ starF l b
  loc := fun _ F w w' ⟨h1, h2, h3⟩ hF _ _ => ⟨fun p hp => ownsRow_local (h1 p hp) fun b hb => hF b ((h3 b).2 ⟨p, hp, hb⟩), h2, h3⟩
  mono := fun _ _ _ _ h _ _ => h
  fin := fun _ F w ⟨h1, _, h3⟩ b hb => by
    obtain ⟨p, hp, hb'⟩ := (h3 b).1 hb
    exact ((h1 p hp).lt b hb').2
theorem list_at {α : Type} {l : List α} {i : Nat} {p : α} (h : l[i]? = some p) : ∃ l1 l2, l = l1 ++ p :: l2 ∧ l1.length = i := by
  obtain ⟨hi, h2⟩ := List.getElem?_eq_some_iff.1 h
  refine ⟨l.take i, l.drop (i + 1), ?_, by rw [List.length_take]; omega⟩
  rw [← h2, List.getElem_cons_drop, List.take_append_drop]
theorem set_at {α : Type} {l1 l2 : List α} {p q : α} : (l1 ++ p :: l2).set l1.length q = l1 ++ q :: l2 := by
  rw [List.set_append_right _ _ (Nat.le_refl _), Nat.sub_self]; rfl
theorem starDis_at {l1 l2 : List SI} {p : SI} : starDis (l1 ++ p :: l2) ↔ starDis (l1 ++ l2) ∧ ∀ q ∈ l1 ++ l2, p.dis q := by
  unfold starDis
  simp only [List.pairwise_append, List.pairwise_cons, List.mem_cons, List.mem_append]
  constructor
  · rintro ⟨h1, ⟨h2, h3⟩, h4⟩
    refine ⟨⟨h1, h3, fun a ha b hb => h4 a ha b (.inr hb)⟩, fun q hq => ?_⟩
    rcases hq with hq | hq
    · exact SI.dis_symm (h4 q hq p (.inl rfl))
    · exact h2 q hq
  · rintro ⟨⟨h1, h2, h3⟩, h4⟩
    refine ⟨h1, ⟨fun q hq => h4 q (.inr hq), h2⟩, fun a ha b hb => ?_⟩
    rcases hb with rfl | hb
    · exact SI.dis_symm (h4 a (.inl ha))
    · exact h3 a ha b hb
theorem starF_at {l1 l2 : List SI} {p : SI} {b : Nat} : starF (l1 ++ p :: l2) b ↔ p.x.ownBlock = some b ∨ starF (l1 ++ l2) b := by
  unfold starF
  simp only [List.mem_append, List.mem_cons]
  constructor
  · rintro ⟨q, h | rfl | h, hb⟩
    · exact .inr ⟨q, .inl h, hb⟩
    · exact .inl hb
    · exact .inr ⟨q, .inr h, hb⟩
  · rintro (h | ⟨q, h | h, hb⟩)
    · exact ⟨p, .inr (.inl rfl), h⟩
    · exact ⟨q, .inl h, hb⟩
    · exact ⟨q, .inr (.inr h), hb⟩
theorem Sat.regroup {E E' : Env} {o o' : Own} {nx nx' : Nat} {u : Im} {df : List Deferred} {w : World} {f f' : Nat → Nat → Prop} (h : Sat E o nx u df w f)
    (ch : Nat → Prop) (hE : ∀ k, k < nx → E' k = E k) (hnx : nx ≤ nx')
    (hsame : ∀ k, ¬ ch k → (look o' k = look o k ∧ ∀ b, f' k b ↔ f k b))
    (hnew : ∀ k, ch k → (∀ r, look o' k = some r → r.holds E' k (f' k) u w ∧ k < nx' ∧ r.lt E' nx') ∧ (look o' k = none → ∀ b, ¬ f' k b) ∧ (∀ b, f' k b → ∃ k0, ch k0 ∧ f k0 b))
    (hapart : ∀ k k' b, ch k → ch k' → k ≠ k' → f' k b → ¬ f' k' b) : Sat E' o' nx' u df w f' := by
  refine h.step ch hE hnx (Im.le.refl u) h.imm (Nat.le_refl _) (fun b _ _ => rfl) hsame (fun k hk => ?_) hapart (fun b o ho => .inl ho)
  obtain ⟨h1, h2, h3⟩ := hnew k hk
  refine ⟨h1, h2, fun b hb => ?_⟩
  obtain ⟨k0, hk0, hf⟩ := h3 b hb
  exact ⟨.inl ⟨k0, hk0, hf⟩, h.off k0 b hf⟩
theorem Sat.star0 {E : Env} {o : Own} {nx : Nat} {u : Im} {df : List Deferred} {w : World} {f : Nat → Nat → Prop} (h : Sat E o nx u df w f) (n : Nat) :
    Sat E ((nx, .gen (starHp (List.replicate n SI.hole))) :: o) (nx + 1) u df w (upd f nx (fun _ => False)) := by
  have hrep : ∀ p ∈ List.replicate n SI.hole, p = SI.hole := fun p hp => (List.mem_replicate.1 hp).2
  refine h.regroup (fun k => k = nx) (fun _ _ => rfl) (Nat.le_succ _) ?_ ?_ ?_
  · intro k hk
    exact ⟨by rw [look_cons, if_neg (fun e => hk e.symm)], fun b => by rw [upd_other _ _ hk]⟩
  · rintro k rfl
    refine ⟨fun r hr => ?_, fun hr => ?_, fun b hb => ?_⟩
    · rw [look_cons, if_pos rfl] at hr
      cases hr
      refine ⟨⟨fun p hp => by rw [hrep p hp]; exact SI.hole_own w, ?_, fun b => ?_⟩, Nat.lt_succ_self _, trivial⟩
      · exact List.pairwise_replicate.2 (.inr fun b hb => by cases hb)
      · rw [upd_same]
        refine ⟨fun hh => hh.elim, fun ⟨p, hp, hb⟩ => ?_⟩
        rw [hrep p hp] at hb; cases hb
    · rw [look_cons, if_pos rfl] at hr; cases hr
    · rw [upd_same] at hb; exact hb.elim
  · intro k k' b hk hk' hne; subst hk hk'; exact absurd rfl hne
theorem Sat.park {E : Env} {o : Own} {nx : Nat} {u : Im} {df : List Deferred} {w : World} {f : Nat → Nat → Prop} (h : Sat E o nx u df w f) {k s i : Nat} {e : TypeId} {D : Data} {l : List SI} {q : SI}
    (hk : look o k = some (.row e D)) (hs : look o s = some (.gen (starHp l))) (hi : l[i]? = some q) (hq : q.x.ownBlock = none) :
    Sat E ((k, .emp) :: (s, .gen (starHp (l.set i ⟨E k, e, D⟩))) :: o) nx u df w (upd (upd f s (fun b => f s b ∨ f k b)) k (fun _ => False)) := by
  have hne : k ≠ s := fun hh => by rw [hh, hs] at hk; cases hk
  obtain ⟨hrow, hF⟩ := h.holds k _ hk
  obtain ⟨h1, h2, h3⟩ := h.holds s _ hs
  obtain ⟨l1, l2, rfl, hl⟩ := list_at hi
  subst hl
  rw [set_at]
  rw [starDis_at] at h2
  have hap : ∀ b, (E k).ownBlock = some b → ¬ starF (l1 ++ l2) b := fun b hb hst =>
    h.apart k s b hne ((hF b).2 hb) ((h3 b).2 (starF_at.2 (.inr hst)))
  refine h.regroup (fun j => j = k ∨ j = s) (fun _ _ => rfl) (Nat.le_refl _) ?_ ?_ ?_
  · intro j hj
    have e1 : ¬ k = j := fun hh => hj (.inl hh.symm)
    have e2 : ¬ s = j := fun hh => hj (.inr hh.symm)
    refine ⟨by rw [look_cons, if_neg e1, look_cons, if_neg e2], fun b => ?_⟩
    rw [upd_other _ _ (Ne.symm e1), upd_other _ _ (Ne.symm e2)]
  · rintro j (rfl | rfl)
    · refine ⟨fun r hr => ?_, fun hr => ?_, fun b hb => ?_⟩
      · rw [look_cons, if_pos rfl] at hr
        cases hr
        exact ⟨fun b hb => by rw [upd_same] at hb; exact hb, (h.lt j _ hk).1, trivial⟩
      · rw [look_cons, if_pos rfl] at hr; cases hr
      · rw [upd_same] at hb; exact hb.elim
    · refine ⟨fun r hr => ?_, fun hr => ?_, fun b hb => ?_⟩
      · rw [look_cons, if_neg hne, look_cons, if_pos rfl] at hr
        cases hr
        refine ⟨⟨fun p hp => ?_, ?_, fun b => ?_⟩, (h.lt j _ hs).1, trivial⟩
        · rcases List.mem_append.1 hp with hp | hp
          · exact h1 p (List.mem_append_left _ hp)
          · rcases List.mem_cons.1 hp with rfl | hp
            · exact hrow
            · exact h1 p (List.mem_append_right _ (List.mem_cons_of_mem _ hp))
        · rw [starDis_at]
          exact ⟨h2.1, fun q' hq' b hb hb' => hap b hb ⟨q', hq', hb'⟩⟩
        · rw [upd_other _ _ (Ne.symm hne), upd_same, starF_at, h3, starF_at, hq]
          simp only [reduceCtorEq, false_or, hF]
          exact Or.comm
      · rw [look_cons, if_neg hne, look_cons, if_pos rfl] at hr; cases hr
      · rw [upd_other _ _ (Ne.symm hne), upd_same] at hb
        rcases hb with hb | hb
        · exact ⟨j, .inr rfl, hb⟩
        · exact ⟨k, .inl rfl, hb⟩
  · intro j j' b hj hj' hjne hb hb'
    rcases hj with rfl | rfl
    · rw [upd_same] at hb; exact hb
    · rcases hj' with rfl | rfl
      · rw [upd_same] at hb'; exact hb'
      · exact hjne rfl
theorem Sat.unpark {E : Env} {o : Own} {nx : Nat} {u : Im} {df : List Deferred} {w : World} {f : Nat → Nat → Prop} (h : Sat E o nx u df w f) {s i : Nat} {l : List SI} {p : SI}
    (hs : look o s = some (.gen (starHp l))) (hi : l[i]? = some p) :
    Sat (upd E nx p.x) ((nx, .row p.e p.D) :: (s, .gen (starHp (l.set i SI.hole))) :: o) (nx + 1) u df w (upd (upd f s (fun b => f s b ∧ ¬ p.x.ownBlock = some b)) nx (fun b => p.x.ownBlock = some b)) := by
  have hsl := (h.lt s _ hs).1
  have hne : nx ≠ s := fun hh => by omega
  obtain ⟨h1, h2, h3⟩ := h.holds s _ hs
  obtain ⟨l1, l2, rfl, hl⟩ := list_at hi
  subst hl
  rw [set_at]
  rw [starDis_at] at h2
  have hp : p ∈ l1 ++ p :: l2 := by simp
  have hE : ∀ j, j < nx → upd E nx p.x j = E j := fun j hj => upd_other _ _ (by omega)
  refine h.regroup (fun j => j = nx ∨ j = s) hE (Nat.le_succ _) ?_ ?_ ?_
  · intro j hj
    have e1 : ¬ nx = j := fun hh => hj (.inl hh.symm)
    have e2 : ¬ s = j := fun hh => hj (.inr hh.symm)
    refine ⟨by rw [look_cons, if_neg e1, look_cons, if_neg e2], fun b => ?_⟩
    rw [upd_other _ _ (Ne.symm e1), upd_other _ _ (Ne.symm e2)]
  · rintro j (rfl | rfl)
    · refine ⟨fun r hr => ?_, fun hr => ?_, fun b hb => ?_⟩
      · rw [look_cons, if_pos rfl] at hr
        cases hr
        refine ⟨⟨?_, fun b => ?_⟩, Nat.lt_succ_self _, trivial⟩
        · rw [upd_same]; exact h1 p hp
        · rw [upd_same, upd_same]
      · rw [look_cons, if_pos rfl] at hr; cases hr
      · rw [upd_same] at hb
        exact ⟨s, .inr rfl, (h3 b).2 ⟨p, hp, hb⟩⟩
    · refine ⟨fun r hr => ?_, fun hr => ?_, fun b hb => ?_⟩
      · rw [look_cons, if_neg hne, look_cons, if_pos rfl] at hr
        cases hr
        refine ⟨⟨fun q hq => ?_, ?_, fun b => ?_⟩, Nat.lt_succ_of_lt hsl, trivial⟩
        · rcases List.mem_append.1 hq with hq | hq
          · exact h1 q (List.mem_append_left _ hq)
          · rcases List.mem_cons.1 hq with rfl | hq
            · exact SI.hole_own w
            · exact h1 q (List.mem_append_right _ (List.mem_cons_of_mem _ hq))
        · rw [starDis_at]
          exact ⟨h2.1, fun q' hq' b hb => by cases hb⟩
        · rw [upd_other _ _ (Ne.symm hne), upd_same, starF_at, h3, starF_at, hole_none]
          simp only [reduceCtorEq, false_or]
          constructor
          · rintro ⟨h4 | h4, h5⟩
            · exact absurd h4 h5
            · exact h4
          · rintro h4
            refine ⟨.inr h4, fun h5 => ?_⟩
            obtain ⟨q, hq, hb⟩ := h4
            exact h2.2 q hq b h5 hb
      · rw [look_cons, if_neg hne, look_cons, if_pos rfl] at hr; cases hr
      · rw [upd_other _ _ (Ne.symm hne), upd_same] at hb
        exact ⟨j, .inr rfl, hb.1⟩
  · intro j j' b hj hj' hjne hb hb'
    rcases hj with rfl | rfl
    · rcases hj' with rfl | rfl
      · exact hjne rfl
      · rw [upd_same] at hb
        rw [upd_other _ _ (Ne.symm hne), upd_same] at hb'
        exact hb'.2 hb
    · rcases hj' with rfl | rfl
      · rw [upd_same] at hb'
        rw [upd_other _ _ (Ne.symm hne), upd_same] at hb
        exact hb.2 hb'
      · exact hjne rfl
theorem Sat.freezeStar {E : Env} {o : Own} {nx : Nat} {u : Im} {df : List Deferred} {w : World} {f : Nat → Nat → Prop} (h : Sat E o nx u df w f) {k : Nat} {l : List SI} (hk : look o k = some (.gen (starHp l))) :
    ∃ u', u.le u' ∧ (∀ p ∈ l, SlAt u' p.x p.D ∧ ∀ b, p.x.ownBlock = some b → u.h b = none) ∧ Sat E ((k, .emp) :: o) nx u' df w (upd f k (fun _ => False)) := by
  classical
  obtain ⟨hrow, hdis, hF⟩ := h.holds k _ hk
  have hle : u.le { u with h := fun b => if starF l b then w.heap[b]? else u.h b } := by
    refine ⟨fun b x hx => ?_, rfl, rfl, rfl, rfl⟩
    simp only
    split
    · rename_i hb; rw [h.off k b ((hF b).2 hb)] at hx; cases hx
    · exact hx
  have himm : Imm { u with h := fun b => if starF l b then w.heap[b]? else u.h b } w := by
    refine ⟨fun b x hx => ?_, h.imm.os, h.imm.tape, h.imm.output, h.imm.lo⟩
    simp only at hx
    split at hx
    · exact hx
    · exact h.imm.h b x hx
  refine ⟨{ u with h := fun b => if starF l b then w.heap[b]? else u.h b }, hle, fun p hp => ⟨?_, fun b hb => h.off k b ((hF b).2 ⟨p, hp, hb⟩)⟩, ?_⟩
  · have h1 := ownAt_of (lo := 0) (hrow p hp) (fun _ _ => Nat.zero_le _)
    have : OwnAt { u with h := fun b => if starF l b then w.heap[b]? else u.h b } p.x p.e p.D := by
      rcases h1 with h1 | ⟨g, cap, cur, h1, h2, h3⟩
      · exact .inl h1
      · refine .inr ⟨g, cap, cur, h1, ?_, h3⟩
        simp only [cut, im, Nat.not_lt_zero, if_false] at h2
        simp only
        rw [if_pos ⟨p, hp, by rw [h1]; rfl⟩]; exact h2
    exact this.slAt
  · have hoth : ∀ j, j ≠ k → ∀ b, f j b → (if starF l b then w.heap[b]? else u.h b) = none := fun j hj b hb => by
      rw [if_neg (fun hh => h.apart j k b hj hb ((hF b).2 hh))]; exact h.off j b hb
    refine ⟨fun j r hr => ?_, fun j hr b hb => ?_, fun j j' b hne h1 => ?_, fun j b hb => ?_, fun j r hr => ?_, himm, ?_⟩
    · rw [look_cons] at hr
      split at hr
      · rename_i e1; subst e1; cases hr; exact fun x hx => by rw [upd_same] at hx; exact hx
      · rename_i e1
        rw [upd_other _ _ (Ne.symm e1)]
        exact Rs.holds_mono hle himm (h.holds j r hr)
    · rw [look_cons] at hr
      split at hr
      · cases hr
      · rename_i e1
        rw [upd_other _ _ (Ne.symm e1)] at hb
        exact h.non j hr b hb
    · by_cases hj : j = k
      · subst hj; rw [upd_same] at h1; exact h1.elim
      · rw [upd_other _ _ hj] at h1
        by_cases hj' : j' = k
        · subst hj'; rw [upd_same]; exact id
        · rw [upd_other _ _ hj']; exact h.apart j j' b hne h1
    · by_cases hj : j = k
      · subst hj; rw [upd_same] at hb; exact hb.elim
      · rw [upd_other _ _ hj] at hb; exact hoth j hj b hb
    · rw [look_cons] at hr
      split at hr
      · rename_i e1; subst e1; cases hr; exact ⟨(h.lt k _ hk).1, trivial⟩
      · exact h.lt j r hr
    · obtain ⟨ds, h1, h2, h3⟩ := h.marks
      refine ⟨ds, h1, h2, fun d hd => ?_⟩
      obtain ⟨h4, h5, h6⟩ := h3 d hd
      refine ⟨h4, ?_, fun j hj => ?_⟩
      · simp only
        rw [if_neg (fun hh => h6 k ((hF d).2 hh))]; exact h5
      · by_cases hjk : j = k
        · subst hjk; rw [upd_same] at hj; exact hj
        · rw [upd_other _ _ hjk] at hj; exact h6 j hj
theorem x_star0 {C : Cx} {cc : Code} {Q : Post} {kn : Kn} {gk : List (Nat × (Gd × SV))} {ow : Own} {nx : Nat} {u : Im} (n : Nat)
    (K : X C cc Q ⟨kn, gk, (nx, .gen (starHp (List.replicate n SI.hole))) :: ow, nx + 1⟩ u) : X C cc Q ⟨kn, gk, ow, nx⟩ u := by
  unfold X at K ⊢
  intro E a w hok
  obtain ⟨f, hsat⟩ := hok.sat
  have hg := hok.agr.grow (E' := E) (ow := (nx, .gen (starHp (List.replicate n SI.hole))) :: ow) (nx := nx + 1) (fun _ _ => rfl) (Nat.le_succ _)
  have := K E a w ⟨hg, _, hsat.star0 n⟩
  exact Go.wpIn_mono this (fun e a w => SemQ.mono (fun _ _ => rfl) (Nat.le_succ _) (Im.le.refl u))
theorem xl_park {C : Cx} {all l : List Oper} {Q : Post} {kn : Kn} {gk : List (Nat × (Gd × SV))} {ow : Own} {nx : Nat} {u : Im} (k s i : Nat) {e : TypeId} {D : Data} {sl : List SI} {q : SI}
    (hk : look ow k = some (.row e D)) (hs : look ow s = some (.gen (starHp sl))) (hi : sl[i]? = some q) (hq : q.x.ownBlock = none)
    (K : ∀ A c, XL C all l Q ⟨frz k (.slice A D.n c) kn, gk, (k, .emp) :: (s, .gen (starHp (sl.set i ⟨.slice A D.n c, e, D⟩))) :: ow, nx⟩ u) : XL C all l Q ⟨kn, gk, ow, nx⟩ u := by
  unfold XL at K ⊢
  intro E a w hok
  obtain ⟨f, hsat⟩ := hok.sat
  obtain ⟨A, c, hv⟩ := ownsRow_sl (hsat.holds k _ hk).1
  have h2 := hsat.park hk hs hi hq
  rw [hv] at h2
  exact K A c E a w ⟨hok.agr.frz hv, _, h2⟩
theorem Agr.unpark {N : Nat} {E : Env} {kn : Kn} {ow ow' : Own} {nx d : Nat} {tm : Array Value} (h : Agr N E ⟨kn, [], ow, nx⟩ tm) {p : SI} {w : World} (hp : p.own w) (hd : look kn d = some (.v p.x)) :
    Agr N (upd E nx p.x) ⟨(d, .r nx) :: kn, [], ow', nx + 1⟩ tm := by
  have hE : ∀ j, j < nx → upd E nx p.x j = E j := fun j hj => upd_other _ _ (by omega)
  have hg := h.grow (E' := upd E nx p.x) (ow := ow') (nx := nx + 1) hE (Nat.le_succ _)
  refine ⟨hg.size, fun t s h1 h2 => ?_, fun t g s h1 => (by cases h1), fun t s h2 => ?_, fun t g s h1 => (by cases h1)⟩
  · rw [look_cons] at h2
    split at h2
    · rename_i e1; subst e1; cases h2
      rw [h.kn _ _ rfl hd]
      simp only [SV.den, upd_same]
    · exact hg.kn t s h1 h2
  · rw [look_cons] at h2
    split at h2
    · cases h2
      obtain ⟨A, c, hv⟩ := ownsRow_sl hp
      exact ⟨Nat.lt_succ_self _, A, _, c, by rw [upd_same]; exact hv⟩
    · exact hg.klt t s h2
theorem xl_unpark {C : Cx} {all l : List Oper} {Q : Post} {kn : Kn} {ow : Own} {nx : Nat} {u : Im} (d s i : Nat) {sl : List SI} {p : SI}
    (hd : look kn d = some (.v p.x)) (hs : look ow s = some (.gen (starHp sl))) (hi : sl[i]? = some p)
    (K : XL C all l Q ⟨(d, .r nx) :: kn, [], (nx, .row p.e p.D) :: (s, .gen (starHp (sl.set i SI.hole))) :: ow, nx + 1⟩ u) : XL C all l Q ⟨kn, [], ow, nx⟩ u := by
  unfold XL at K ⊢
  intro E a w hok
  obtain ⟨f, hsat⟩ := hok.sat
  have hp := (hsat.holds s _ hs).1 p (List.mem_of_getElem? hi)
  have hE : ∀ j, j < nx → upd E nx p.x j = E j := fun j hj => upd_other _ _ (by omega)
  have := K (upd E nx p.x) a w ⟨hok.agr.unpark hp hd, _, hsat.unpark hs hi⟩
  exact wpListIn_monoQ (fun e a w => SemQ.mono hE (Nat.le_succ _) (Im.le.refl u)) _ _ _ this
theorem xl_freezeStar {C : Cx} {all l : List Oper} {Q : Post} {kn : Kn} {gk : List (Nat × (Gd × SV))} {ow : Own} {nx : Nat} {u : Im} (s : Nat) {sl : List SI} (hs : look ow s = some (.gen (starHp sl)))
    (K : ∀ u', u.le u' → (∀ p ∈ sl, SlAt u' p.x p.D ∧ ∀ b, p.x.ownBlock = some b → u.h b = none) → XL C all l Q ⟨kn, gk, (s, .emp) :: ow, nx⟩ u') : XL C all l Q ⟨kn, gk, ow, nx⟩ u := by
  unfold XL at K ⊢
  intro E a w hok
  obtain ⟨f, hsat⟩ := hok.sat
  obtain ⟨u', hu, hsl, hsat'⟩ := hsat.freezeStar hs
  have := K u' hu hsl E a w ⟨⟨hok.agr.size, hok.agr.kn, hok.agr.gk, hok.agr.klt, hok.agr.glt⟩, _, hsat'⟩
  exact wpListIn_monoQ (fun e a w => SemQ.mono (fun _ _ => rfl) (Nat.le_refl _) hu) _ _ _ this
def NestAt (u : Im) (l : List SI) : Prop := (∀ p ∈ l, OwnAt u p.x p.e p.D) ∧ starDis l
def StarR {σ : Type} (val : σ → Value) (l : σ → List SI) (G : σ → Prop) (v : Value) (u : Im) : Prop := ∃ s, v = val s ∧ NestAt u (l s) ∧ G s
theorem finStar {σ : Type} {w0 : World} {ow : Own} {nx : Nat} {u : Im} {k : Nat} {val : σ → Value} {l : σ → List SI} {G : σ → Prop} {vs : List SV} (s : σ) (hk : look ow k = some (.gen (starHp (l s))))
    (hv : ∀ E, tupV (vs.map (SV.den E)) = val s) (hG : G s) : Done w0 (StarR val l G) vs ow nx u :=
  finP fun E w' F hs hu => by
    obtain ⟨h1, h2, h3⟩ := hs.holds k _ hk
    refine ⟨s, hv E, ⟨fun p hp => ownAt_of (h1 p hp) fun b hb => ?_, h2⟩, hG⟩
    have h4 := hs.off k b ((h3 b).2 ⟨p, hp, hb⟩)
    rcases Nat.lt_or_ge b w0.heap.size with hlt | hge
    · have : (im w0).h b = some w0.heap[b] := Array.getElem?_eq_getElem hlt
      rw [hu.h _ _ this] at h4; cases h4
    · exact hge
theorem Sat.takeStar {E : Env} {o : Own} {nx : Nat} {u : Im} {df : List Deferred} {w w' : World} {f : Nat → Nat → Prop} (h : Sat E o nx u df w f) (hb : Below w.heap.size w w') {l : List SI} (hv : NestAt (cut w.heap.size (im w')) l) :
    Sat E ((nx, .gen (starHp l)) :: o) (nx + 1) u df w' (upd f nx (starF l)) := by
  have hlt : ∀ b x, u.h b = some x → b < w.heap.size := fun b x hx => (Array.getElem?_eq_some_iff.1 (h.imm.h b x hx)).1
  have hlo : ∀ b, starF l b → w.heap.size ≤ b := fun b ⟨p, hp, hb⟩ => (hv.1 p hp).owns.2 b hb
  refine h.step (fun j => j = nx) (fun _ _ => rfl) (Nat.le_succ _) (Im.le.refl u) ?_ hb.size (fun b hb' _ => hb.block b hb') ?_ ?_ ?_ (fun b o ho => .inl ho)
  · exact ⟨fun b x hx => by rw [hb.block b (hlt b x hx)]; exact h.imm.h b x hx, hb.os.trans h.imm.os, hb.tape.trans h.imm.tape, hb.output.trans h.imm.output, Nat.le_trans h.imm.lo hb.size⟩
  · intro k hk
    exact ⟨by rw [look_cons, if_neg (Ne.symm hk)], fun b => by rw [upd_other _ _ hk]⟩
  · rintro k rfl
    refine ⟨fun r hr => ?_, fun hr => ?_, fun b hb' => ?_⟩
    · rw [look_cons, if_pos rfl] at hr
      cases hr
      refine ⟨⟨fun p hp => (hv.1 p hp).owns.1, hv.2, fun b => by rw [upd_same]⟩, Nat.lt_succ_self _, trivial⟩
    · rw [look_cons, if_pos rfl] at hr; cases hr
    · rw [upd_same] at hb'
      refine ⟨.inr (hlo b hb'), ?_⟩
      cases ho : u.h b with
      | none => rfl
      | some x => have := hlt b x ho; have := hlo b hb'; omega
  · intro k k' b hk hk' hne; subst hk hk'; exact absurd rfl hne
theorem xl_callStar {σ : Type} {C : Cx} {all : List Oper} {o : Oper} {r : List Oper} {Q : Post} {kn : Kn} {gk : List (Nat × (Gd × SV))} {ow : Own} {nx : Nat} {u : Im} {c : Call} (val : σ → Value) (l : σ → List SI) (G : σ → Prop)
    (ho : o.op = .call c) (hgd : o.guard = none) {f d : Nat} (hd : o.dst = some d)
    (hc : callee ⟨kn, gk, ow, nx⟩ c = some f) (hfn : Fn1 C.P f) {ss : List SV} (hargs : argsOf ⟨kn, gk, ow, nx⟩ [] c.args.toList = some ss) (hfr : fresh C.N ⟨kn, gk, ow, nx⟩ d [] = true)
    (H : ∀ E w F, Sat E ow nx u [] w F → Calls C.P f (ss.map (SV.den E)).toArray w (PureP w (StarR val l G)))
    (K : ∀ s, G s → XL C all r Q ⟨(d, .v (val s)) :: kn, gk, (nx, .gen (starHp (l s))) :: ow, nx + 1⟩ u) :
    XL C all (o :: r) Q ⟨kn, gk, ow, nx⟩ u := by
  unfold XL at K ⊢
  intro E a w hok
  obtain ⟨fF, hsat⟩ := hok.sat
  refine call_core _ ho hgd hc hfn hargs H hok hsat fun v w' hbel hR => ?_
  obtain ⟨s, rfl, hN, hG⟩ := hR
  have hg := hok.agr.grow (E' := E) (ow := (nx, .gen (starHp (l s))) :: ow) (nx := nx + 1) (fun _ _ => rfl) (Nat.le_succ _)
  have hput : Agr C.N E (St.put ⟨kn, gk, (nx, .gen (starHp (l s))) :: ow, nx + 1⟩ d [] (.v (val s))) (a.tmps.setIfInBounds d (val s)) :=
    hg.put (g := []) hfr (fun _ => trivial) (fun _ => rfl) (fun hn => absurd (fun x hx => (by cases hx)) hn) (fun _ => rfl)
  rw [hd]
  have := K s hG E (a.put (some d) (val s)) w' ⟨⟨hput.size, hput.kn, hput.gk, hput.klt, hput.glt⟩, _, hsat.takeStar hbel hN⟩
  exact wpListIn_monoQ (fun e a w => SemQ.mono (fun _ _ => rfl) (Nat.le_succ _) (Im.le.refl u)) _ _ _ this
def YieldTo2 (P : Program) (l : Nat) (x y : Value) (w : World) (R : Ending → World → Prop) : Prop :=
  ∃ f tmps assign body, (Instr.yield l #[x, y]).run P w = .ok (.round l f tmps assign body) w ∧ RoundIn (FR none) 0 P l f tmps assign body w R
def Rounds2 (P : Program) (l : Nat) {u0 : Im} (Y : Nat → Wp u0) (Z : Wp u0) (xs : List (Value × Value)) : Prop :=
  ∀ k x w F, xs[k]? = some x → Imm u0 w → (Y k).h F w → (∀ b, F b → u0.h b = none) →
    YieldTo2 P l x.1 x.2 w fun e w' => ∃ F', Step w F w' F' ∧ ((e = .returned (.bool true) ∧ (Y (k + 1)).h F' w') ∨ (e = .returned (.bool false) ∧ Z.h F' w'))
def Iter2 (P : Program) (gf : Nat) (caps : Array Value) (xs : List (Value × Value)) (u0 : Im) : Prop :=
  ∀ l (Y : Nat → Wp u0) (Z : Wp u0) w F, Rounds2 P l Y Z xs → Imm u0 w → (Y 0).h F w → (∀ b, F b → u0.h b = none) →
    Calls P gf (#[.func (.yield l) #[] #[]] ++ caps) w fun e w' => ∃ v F', e = .returned v ∧ Step w F w' F' ∧ ((Y xs.length).h F' w' ∨ Z.h F' w')
theorem xl_yield2 {C : Cx} (hro : C.ro = none) {all : List Oper} {o : Oper} {r : List Oper} {Q : Post} {kn : Kn} {gk : List (Nat × (Gd × SV))} {ow : Own} {nx : Nat} {u u0 : Im} {c : Call} {l kY k d : Nat} {Y : Nat → Wp u0} {Z : Wp u0} {xs : List (Value × Value)} {x y : Value} {fo : Operand}
    (hR : Rounds2 C.P l Y Z xs) (ho : o.op = .call c) (hgd : o.guard = none) (hd : o.dst = some d) (hc : c.callee = .value fo) (hfo : opd ⟨kn, gk, ow, nx⟩ [] fo = some (.v (.func (.yield l) #[] #[])))
    (hargs : argsOf ⟨kn, gk, ow, nx⟩ [] c.args.toList = some [.v x, .v y]) (hfr : fresh C.N ⟨kn, gk, ow, nx⟩ d [] = true) (hY : look ow kY = some (.gen (Y k).hp)) (hx : xs[k]? = some (x, y))
    (K1 : XL C all r Q ⟨(d, .v (.bool true)) :: kn, gk, (kY, .gen (Y (k + 1)).hp) :: ow, nx⟩ u)
    (K2 : XL C all r Q ⟨(d, .v (.bool false)) :: kn, gk, (kY, .gen Z.hp) :: ow, nx⟩ u) : XL C all (o :: r) Q ⟨kn, gk, ow, nx⟩ u := by
  obtain ⟨P, ro, N⟩ := C
  simp only at hro
  subst hro
  unfold XL
  intro E a w hok
  obtain ⟨f, hsat⟩ := hok.sat
  have hgs : gs a.tmps [] := fun x hx => by cases hx
  obtain ⟨ef, _⟩ := opd_sound hok.agr hgs hfo
  obtain ⟨ea, _⟩ := argsOf_sound hok.agr hgs hargs
  simp only [SV.den] at ef
  obtain ⟨hYw, hext⟩ : (Y k).hp.h u (f kY) w := hsat.holds kY _ hY
  have hoff0 : ∀ b, f kY b → u0.h b = none := fun b hb => by
    cases h0 : u0.h b with
    | none => rfl
    | some o => have h1 := hext.h b o h0; rw [hsat.off kY b hb] at h1; cases h1
  obtain ⟨fn, tmps, asg, body, hrun, hround⟩ := hR k (x, y) w (f kY) hx (hsat.imm.of_ext hext) hYw hoff0
  have ea' : c.args.map a.eval = #[x, y] := by
    apply Array.ext'
    simpa [SV.den] using ea
  have hrun2 : (execOp a.eval o).run P w = .ok (.round l fn tmps asg body) w := by
    simp only [execOp, ho]
    simp [resolve, hc, ef, Deferred.ofValue, invoke, ea', hrun]
  unfold wpListIn
  rw [if_pos (by simp [Region.wanted, hgd])]
  refine ⟨fun _ _ => trivial, ?_⟩
  rw [semAt_eq _ _ _ (fun c' hc' => by rw [ho] at hc'; cases hc'), hrun2, Oper.uponIn_round]
  refine ⟨fun h => (by cases h), RoundIn.mono hround ?_⟩
  rintro e w' ⟨F', hst, hh⟩
  have himm : Imm u w' := hsat.imm.of_step hst (fun b hb => hsat.off kY b hb)
  have main : ∀ (b : Bool) (A : Hp), A.h u F' w' → (XL ⟨P, none, N⟩ all r Q ⟨(d, .v (.bool b)) :: kn, gk, (kY, .gen A) :: ow, nx⟩ u) →
      wpListIn (FR none) 0 P all.toArray (SemQ ⟨P, none, N⟩ E nx u Q) r (a.put o.dst (.bool b)) w' := by
    intro b A hA K
    unfold XL at K
    have hs2 : Sat E ((kY, .gen A) :: ow) nx u a.defers w' (upd f kY F') := by
      refine hsat.step (fun j => j = kY) (fun _ _ => rfl) (Nat.le_refl _) (Im.le.refl u) himm hst.size (fun b hb hno => hst.same b hb (hno kY rfl)) ?_ ?_ ?_ (fun b o ho => .inl ho)
      · intro j hj
        exact ⟨by rw [look_cons, if_neg (Ne.symm hj)], fun b => by rw [upd_other _ _ hj]⟩
      · rintro j rfl
        refine ⟨fun r hr => ?_, fun hr => ?_, fun b hb => ?_⟩
        · rw [look_cons, if_pos rfl] at hr
          cases hr
          refine ⟨?_, (hsat.lt _ _ hY).1, trivial⟩
          simp only [Rs.holds, upd_same]; exact hA
        · rw [look_cons, if_pos rfl] at hr; cases hr
        · rw [upd_same] at hb
          refine ⟨(hst.foot b hb).imp (fun h => ⟨j, rfl, h⟩) id, ?_⟩
          rcases hst.foot b hb with h | h
          · exact hsat.off j b h
          · cases hub : u.h b with
            | none => rfl
            | some o => have := (Array.getElem?_eq_some_iff.1 (hsat.imm.h b o hub)).1; omega
      · intro j j' b hj hj' hne; subst hj hj'; exact absurd rfl hne
    have hag : Agr N E ⟨kn, gk, (kY, .gen A) :: ow, nx⟩ a.tmps := ⟨hok.agr.size, hok.agr.kn, hok.agr.gk, hok.agr.klt, hok.agr.glt⟩
    have hput := hag.put (g := []) (d := d) (s := .v (.bool b)) (x := .bool b) hfr (fun _ => trivial) (fun _ => rfl) (fun hn => absurd (fun x hx => (by cases hx)) hn) (fun _ => rfl)
    rw [hd]
    exact K E (a.put (some d) (.bool b)) w' ⟨⟨hput.size, hput.kn, hput.gk, hput.klt, hput.glt⟩, _, hs2⟩
  rcases hh with ⟨rfl, hA⟩ | ⟨rfl, hA⟩
  · exact main true (Y (k + 1)).hp ⟨hA, hext⟩ K1
  · exact main false Z.hp ⟨hA, hext⟩ K2
theorem x_iter2 {T : TT} {P : Program} (hT : TOk P T) {gf N : Nat} {fn : Func} {c : Code} (hf : P.funcs[gf]? = some fn) (hb : fn.body = some c) (hN : fn.ntmps = N)
    {caps : Array Value} {xs : List (Value × Value)} {u0 : Im} (bs : List (Value × Data)) (ss : List SV) (E : Env) (hE : ∀ j (b : Value × Data), bs[j]? = some b → E (j + 1) = b.1)
    (hcaps : caps = (ss.map (SV.den E)).toArray) (hle : Nat.ble (ss.length + 1) N = true) (hss : ∀ s ∈ ss, s.lt E (bs.length + 1)) (hbs : ∀ b ∈ bs, SlAt u0 b.1 b.2)
    (h : ∀ l (Y : Nat → Wp u0) (Z : Wp u0) u, u0.ext u → Rounds2 P l Y Z xs → X ⟨P, none, N⟩ c (FinQ T fn.results.toList fun _ st _ => look st.ow 0 = some (.gen (Y xs.length).hp) ∨ look st.ow 0 = some (.gen Z.hp))
      ⟨knOf 0 (.v (.func (.yield l) #[] #[]) :: ss), [], (0, .gen (Y 0).hp) :: ownOf 1 bs, bs.length + 1⟩ u) : Iter2 P gf caps xs u0 := by
  classical
  intro l Y Z w F hR himm hY0 hoff
  let v : Im := { h := fun b => if F b then none else w.heap[b]?, os := w.os, tape := w.tape, output := w.output, lo := w.heap.size }
  have hv : ∀ b, ¬ F b → v.h b = w.heap[b]? := fun b hb => by show (if F b then none else w.heap[b]?) = _; rw [if_neg hb]
  have hvF : ∀ b, F b → v.h b = none := fun b hb => by show (if F b then none else w.heap[b]?) = _; rw [if_pos hb]
  have huv : u0.ext v := ⟨fun b o ho => by rw [hv b (fun hF => by rw [hoff b hF] at ho; cases ho)]; exact himm.h b o ho, himm.os, himm.tape, himm.output, himm.lo⟩
  have himmv : Imm v w := ⟨fun b o ho => by
    by_cases hb : F b
    · rw [hvF b hb] at ho; cases ho
    · rw [hv b hb] at ho; exact ho, rfl, rfl, rfl, Nat.le_refl _⟩
  have hsat : Sat E ((0, .gen (Y 0).hp) :: ownOf 1 bs) (bs.length + 1) v [] w (fun k b => k = 0 ∧ F b) := by
    have hol : ∀ k r, look (ownOf 1 bs) k = some r → ∃ j b, k = j + 1 ∧ bs[j]? = some b ∧ r = .sl b.2 := fun k r hl => by
      obtain ⟨h1, b, h2, h3⟩ := ownOf_look hl
      exact ⟨k - 1, b, by omega, h2, h3⟩
    refine ⟨fun k r hl => ?_, fun k hl b hb => ?_, fun k k' b hne h1 h2 => hne (h1.1.trans h2.1.symm), fun k b hb => hvF b hb.2, fun k r hl => ?_, himmv, [], rfl, List.nodup_nil, fun d hd => by cases hd⟩
    · rw [look_cons] at hl
      split at hl
      · rename_i e; subst e; cases hl
        have : (fun b => (0 : Nat) = 0 ∧ F b) = F := funext fun b => propext ⟨fun h => h.2, fun h => ⟨rfl, h⟩⟩
        show (Y 0).hp.h v (fun b => (0 : Nat) = 0 ∧ F b) w
        rw [this]
        exact ⟨hY0, huv⟩
      · rename_i e
        obtain ⟨j, b, rfl, hj, rfl⟩ := hol k r hl
        refine ⟨?_, fun x hx => e hx.1.symm⟩
        rw [hE j b hj]
        exact (hbs b (List.mem_of_getElem? hj)).sub huv.sub
    · obtain ⟨rfl, _⟩ := hb
      rw [look_cons, if_pos rfl] at hl; cases hl
    · rw [look_cons] at hl
      split at hl
      · rename_i e; subst e; cases hl; exact ⟨Nat.succ_pos _, trivial⟩
      · obtain ⟨j, b, rfl, hj, rfl⟩ := hol k r hl
        exact ⟨Nat.succ_lt_succ (List.getElem?_eq_some_iff.1 hj).1, trivial⟩
  refine (callsIn_wide (n := 0)).1 (callsIn_of_wp_marks hf hb trivial ?_ rfl)
  have hle' : ss.length + 1 ≤ N := Nat.le_of_ble_eq_true hle
  have hargs : (#[.func (.yield l) #[] #[]] ++ caps : Array Value) = ((SV.v (.func (.yield l) #[] #[]) :: ss).map (SV.den E)).toArray := by
    rw [hcaps]
    apply Array.ext'
    simp [SV.den]
  rw [hargs]
  have hlt : ∀ s ∈ (SV.v (.func (.yield l) #[] #[]) :: ss), s.lt E (bs.length + 1) := fun s hs => by
    rcases List.mem_cons.1 hs with rfl | hs
    · trivial
    · exact hss s hs
  have hagr : Agr N E ⟨knOf 0 (SV.v (.func (.yield l) #[] #[]) :: ss), [], (0, .gen (Y 0).hp) :: ownOf 1 bs, bs.length + 1⟩ (((SV.v (.func (.yield l) #[] #[]) :: ss).map (SV.den E)).toArray ++ Array.replicate (fn.ntmps - (((SV.v (.func (.yield l) #[] #[]) :: ss).map (SV.den E)).toArray).size) undef) := by
    refine ⟨?_, ?_, fun d g s h => (by cases h), ?_, fun d g s h => (by cases h)⟩
    · rw [hN]; simp; omega
    · intro d s _ h2
      have h3 := (knOf_look h2).2
      rw [Nat.sub_zero] at h3
      have hd : d < (SV.v (.func (.yield l) #[] #[]) :: ss).length := (List.getElem?_eq_some_iff.1 h3).1
      rw [Array.getElem?_append_left (by simpa using hd)]
      simp only [List.getElem?_toArray, List.getElem?_map, h3, Option.map_some]
    · intro d s h2
      exact hlt s (List.mem_of_getElem? (knOf_look h2).2)
  have hX := h l Y Z v huv hR
  unfold X at hX
  refine Go.wpIn_mono (hX E { tmps := ((SV.v (.func (.yield l) #[] #[]) :: ss).map (SV.den E)).toArray ++ Array.replicate (fn.ntmps - (((SV.v (.func (.yield l) #[] #[]) :: ss).map (SV.den E)).toArray).size) undef, defers := [] } w ⟨hagr, _, hsat⟩) ?_
  rintro e a' w' ⟨E', st', u', h1, h2, h3, hok', h5⟩
  obtain ⟨f', hs⟩ := hok'.sat
  have fin : ∀ lr, resV T st' fn.results.toList = some lr → (look st'.ow 0 = some (.gen (Y xs.length).hp) ∨ look st'.ow 0 = some (.gen Z.hp)) →
      LeavesInM (FR none) 0 P fn a'.tmps (fun e w' => ∃ v F', e = .returned v ∧ Step w F w' F' ∧ ((Y xs.length).h F' w' ∨ Z.h F' w')) a'.defers .returning w' := by
    intro lr hl hA
    obtain ⟨ds, hds, _⟩ := hs.marks
    rw [hds] at hs ⊢
    refine leaves (C := ⟨P, none, N⟩) hT hok'.agr hl (fun w'' hw => ?_) ds w' hs
    refine ⟨_, f' 0, rfl, ⟨hw.imm.os.trans h3.os, hw.imm.tape.trans h3.tape, hw.imm.output.trans h3.output, by have := hw.imm.lo; rw [h3.lo] at this; exact this, fun b hb hF => ?_, fun b hb => ?_⟩, ?_⟩
    · have h1 : v.h b = some (w.heap[b]'hb) := by rw [hv b hF]; exact Array.getElem?_eq_getElem hb
      rw [hw.imm.h b _ (h3.h b _ h1), Array.getElem?_eq_getElem hb]
    · by_cases hF : F b
      · exact .inl hF
      · rcases Nat.lt_or_ge b w.heap.size with hlt | hge
        · have h1 : v.h b = some (w.heap[b]'hlt) := by rw [hv b hF]; exact Array.getElem?_eq_getElem hlt
          have h2 := h3.h b _ h1
          rw [hw.off 0 b hb] at h2; cases h2
        · exact .inr hge
    · rcases hA with hA | hA
      · exact .inl (hw.holds 0 _ hA).1
      · exact .inr (hw.holds 0 _ hA).1
  cases e with
  | normal =>
    simp only [FinQ] at h5
    split at h5
    · rename_i l hl; exact fin l hl h5
    · exact h5.elim
  | ret =>
    simp only [FinQ] at h5
    split at h5
    · rename_i l hl; exact fin l hl h5
    · exact h5.elim
  | exit id => exact h5.elim
  | goto l => exact h5.elim
  | panic c => exact h5.elim
  | outgrown => exact h5.elim
def recL2 (fn : Nat) (tm : Array Value) (p q : Nat) (asg body : Code) (D : Nat) (st : LoopState) (pe : Option Code) : Loop :=
  { state := st, pending := pe, fn, tmps := tm, params := #[p, q], assign := asg, body, defers := D }
theorem rounds_of2 {σ τ : Type} {P : Program} {N l keep : Nat} {ue : Im} {E0 : Env} {tm : Array Value} {kn : Kn} {ow0 : Own} {n0 : Nat} (hagr : Agr N E0 ⟨kn, [], ow0, n0⟩ tm) (hkn : kn.all (fun x => x.2.inN keep) = true)
    (ms : List Nat) (fn p q : Nat) (asg body : Code) (D : Nat) (hdo : σ → Own) (hdn : σ → Nat) (G : Nat → σ → Im → Prop) (hxo : τ → Own) (hxn : τ → Nat) (GX : τ → Exit → Im → Prop)
    (hfree : ∀ s, look (hdo s) keep = none) (hfreex : ∀ t, look (hxo t) keep = none) (hnx : ∀ s, keep < hdn s) (hp : p < N) (hq : q < N) {xs : List (Value × Value)}
    (hround : ∀ k x s u' (Fr Fr' : Hp), xs[k]? = some x → ue.le u' → G k s u' →
      X ⟨P, some l, N⟩ asg (onlyN fun st1 u1 => st1.gk = [] ∧ look st1.ow keep = some (.gen Fr) ∧ X ⟨P, some l, N⟩ body (RQ keep hdo hdn (G (k + 1)) hxo hxn GX Fr') ⟨st1.kn, [], (keep, .gen Fr') :: st1.ow, st1.nx⟩ u1)
        ⟨(q, .v x.2) :: (p, .v x.1) :: kn, [], (keep, .gen Fr) :: hdo s, hdn s⟩ u') :
    Rounds2 P l (fun k => inW keep E0 ue l ms (fun _ : σ => recL2 fn tm p q asg body D .ready none) hdo hdn (G k))
      (inW keep E0 ue l ms (fun t : τ × Code => recL2 fn tm p q asg body D .done (some t.2)) (fun t => hxo t.1) (fun t => hxn t.1) (fun t u => ∃ e, jmp e = some t.2 ∧ GX t.1 e u)) xs := by
  rintro k x w F hx himm ⟨s, E, f, uc, hin⟩ hoff
  refine ⟨fn, (tm.setIfInBounds p x.1).setIfInBounds q x.2, asg, body, ?_, roundIn_of_wpIn trivial ?_⟩
  · have := run_yield (P := P) (args := #[x.1, x.2]) hin.loop rfl
    rw [this]
    simp [recL2]
  let S : Nat → Prop := fun b => b < w.heap.size ∧ (∀ k, ¬ f k b) ∧ uc.h b = none
  have hlS : S l := ⟨(Array.getElem?_eq_some_iff.1 hin.loop).1, hin.lf, hin.lu⟩
  let Fr : Hp := frameHp S (fun b => w.heap[b]?) w.heap.size
  have hfk : ∀ b, ¬ f keep b := hin.sat.non keep (hfree s)
  have hsat : Sat E ((keep, .gen Fr) :: hdo s) (hdn s) uc [] w (upd f keep S) := by
    refine ⟨fun j r hl => ?_, fun j hl b hb => ?_, fun j j' b hne h1 h2 => ?_, fun j b hb => ?_, fun j r hl => ?_, hin.sat.imm, [], rfl, List.nodup_nil, fun d hd => by cases hd⟩
    · rw [look_cons] at hl
      split at hl
      · rename_i e; subst e; cases hl
        simp only [Rs.holds, upd_same]
        exact ⟨fun b => Iff.rfl, Nat.le_refl _, fun b hb => ⟨rfl, hb.1⟩⟩
      · rename_i e
        rw [upd_other _ _ (Ne.symm e)]
        exact hin.sat.holds j r hl
    · rw [look_cons] at hl
      split at hl
      · cases hl
      · rename_i e
        rw [upd_other _ _ (Ne.symm e)] at hb
        exact hin.sat.non j hl b hb
    · by_cases e : j = keep
      · subst e
        rw [upd_same] at h1
        rw [upd_other _ _ (Ne.symm hne)] at h2
        exact h1.2.1 j' h2
      · rw [upd_other _ _ e] at h1
        by_cases e' : j' = keep
        · subst e'
          rw [upd_same] at h2
          exact h2.2.1 j h1
        · rw [upd_other _ _ e'] at h2
          exact hin.sat.apart j j' b hne h1 h2
    · by_cases e : j = keep
      · subst e; rw [upd_same] at hb; exact hb.2.2
      · rw [upd_other _ _ e] at hb; exact hin.sat.off j b hb
    · rw [look_cons] at hl
      split at hl
      · rename_i e; subst e; cases hl; exact ⟨hnx s, trivial⟩
      · exact hin.sat.lt j r hl
  have hA0 : Agr N E ⟨kn, [], (keep, .gen Fr) :: hdo s, hdn s⟩ tm := hagr.keepE hkn hin.env (Nat.le_of_lt (hnx s))
  have hA : Agr N E ⟨(q, .v x.2) :: (p, .v x.1) :: kn, [], (keep, .gen Fr) :: hdo s, hdn s⟩ ((tm.setIfInBounds p x.1).setIfInBounds q x.2) := by
    have hsz := hA0.size
    refine ⟨by simpa using hsz, fun d sv _ hl => ?_, fun d g s h => (by cases h), fun d sv hl => ?_, fun d g s h => (by cases h)⟩
    · rw [look_cons] at hl
      split at hl
      · rename_i e; subst e; cases hl
        simp only [SV.den]
        rw [Array.getElem?_setIfInBounds, if_pos rfl, if_pos (by simp; omega)]
      · rename_i e
        rw [Array.getElem?_setIfInBounds_ne e]
        rw [look_cons] at hl
        split at hl
        · rename_i e; subst e; cases hl
          simp only [SV.den]
          rw [Array.getElem?_setIfInBounds, if_pos rfl, if_pos (by omega)]
        · rename_i e
          rw [Array.getElem?_setIfInBounds_ne e]
          exact hA0.kn d sv rfl hl
    · rw [look_cons] at hl
      split at hl
      · cases hl; trivial
      · rw [look_cons] at hl
        split at hl
        · cases hl; trivial
        · exact hA0.klt d sv hl
  let ldone : Loop := recL2 fn tm p q asg body D .busy none
  have hX1 : ∀ Fr' : Hp, (asg.wpIn (FR (some l)) 0 P (SemQ ⟨P, some l, N⟩ E (hdn s) uc (onlyN fun st1 u1 => st1.gk = [] ∧ look st1.ow keep = some (.gen Fr) ∧ X ⟨P, some l, N⟩ body (RQ keep hdo hdn (G (k + 1)) hxo hxn GX Fr') ⟨st1.kn, [], (keep, .gen Fr') :: st1.ow, st1.nx⟩ u1))
      { tmps := (tm.setIfInBounds p x.1).setIfInBounds q x.2, defers := [] } w) := fun Fr' => by
    exact (hround k x s uc Fr Fr' hx hin.le hin.g).run (C := ⟨P, some l, N⟩) (a := { tmps := (tm.setIfInBounds p x.1).setIfInBounds q x.2, defers := [] }) ⟨hA, _, hsat⟩
  let o2 : Nat → Option Obj := fun b => if b = l then some (.loop ldone) else w.heap[b]?
  let Fr2 : Hp := frameHp S o2 w.heap.size
  refine Go.wpIn_mono (hX1 Fr2) ?_
  rintro e a1 w1 ⟨E1, st1, u1, hE1, hn1, hu1, hok1, h5⟩
  cases e with
  | exit id => exact h5.elim
  | goto t => exact h5.elim
  | ret => exact h5.elim
  | panic c => exact h5.elim
  | outgrown => exact h5.elim
  | normal =>
    obtain ⟨hgk, hlk, hX2⟩ := h5
    obtain ⟨f1, hs1⟩ := hok1.sat
    obtain ⟨hS1, hsz1, hfr1⟩ := hs1.holds keep _ hlk
    have hl1 : w1.heap[l]? = some (.loop (recL2 fn tm p q asg body D .ready none)) := (hfr1 l hlS).1.trans hin.loop
    have hl1lt := (hfr1 l hlS).2
    refine ⟨w1.putObj l (.loop ldone), ?_, ?_⟩
    · have := run_beginRound (P := P) hl1 rfl
      rw [this]; rfl
    have hoth : ∀ b, b ≠ l → (w1.putObj l (.loop ldone)).heap[b]? = w1.heap[b]? := fun b hb => World.putObj_heap_other hb
    have hsz2 : (w1.putObj l (.loop ldone)).heap.size = w1.heap.size := by simp [World.putObj]
    have hu1l : u1.h l = none := hs1.off keep l ((hS1 l).2 hlS)
    have himm2 : Imm u1 (w1.putObj l (.loop ldone)) := ⟨fun b o hb => by rw [hoth b (fun e => by subst e; rw [hu1l] at hb; cases hb)]; exact hs1.imm.h b o hb, hs1.imm.os, hs1.imm.tape, hs1.imm.output, by rw [hsz2]; exact hs1.imm.lo⟩
    have hs2 : Sat E1 ((keep, .gen Fr2) :: st1.ow) st1.nx u1 a1.defers (w1.putObj l (.loop ldone)) f1 := by
      refine hs1.step (fun j => j = keep) (fun _ _ => rfl) (Nat.le_refl _) (Im.le.refl u1) himm2 (Nat.le_of_eq hsz2.symm) (fun b _ hno => hoth b (fun e => hno keep rfl ((hS1 b).2 (e ▸ hlS)))) ?_ ?_ ?_ (fun b o ho => .inl ho)
      · intro j hj
        exact ⟨by rw [look_cons, if_neg (Ne.symm hj)], fun b => Iff.rfl⟩
      · rintro j rfl
        refine ⟨fun r hr => ?_, fun hr => ?_, fun b hb => ⟨.inl ⟨j, rfl, hb⟩, hs1.off j b hb⟩⟩
        · rw [look_cons, if_pos rfl] at hr
          cases hr
          refine ⟨⟨hS1, by rw [hsz2]; exact hsz1, fun b hb => ?_⟩, (hs1.lt _ _ hlk).1, trivial⟩
          by_cases e : b = l
          · subst e
            refine ⟨?_, by rw [hsz2]; exact hl1lt⟩
            show _ = (if b = b then _ else _)
            rw [if_pos rfl]; exact World.putObj_heap_same hl1lt
          · refine ⟨?_, by rw [hsz2]; exact (hfr1 b hb).2⟩
            show _ = (if b = l then _ else _)
            rw [if_neg e, hoth b e]; exact (hfr1 b hb).1
        · rw [look_cons, if_pos rfl] at hr; cases hr
      · intro j j' b hj hj' hne; subst hj hj'; exact absurd rfl hne
    have hag2 : Agr N E1 ⟨st1.kn, [], (keep, .gen Fr2) :: st1.ow, st1.nx⟩ a1.tmps :=
      ⟨hok1.agr.size, fun d s _ hl => hok1.agr.kn d s (by rw [hgk]; rfl) hl, fun d g s h => (by cases h), hok1.agr.klt, fun d g s h => (by cases h)⟩
    refine Go.wpIn_mono (hX2.run (C := ⟨P, some l, N⟩) ⟨hag2, _, hs2⟩) ?_
    rintro e a3 w3 ⟨E3, st3, u3, hE3, hn3, hu3, hok3, h6⟩
    obtain ⟨f3, hs3⟩ := hok3.sat
    have hs3' : Sat E3 st3.ow st3.nx u3 [] w3 f3 := ⟨hs3.holds, hs3.non, hs3.apart, hs3.off, hs3.lt, hs3.imm, [], rfl, List.nodup_nil, fun d hd => by cases hd⟩
    have hko : keep < hdn s := hnx s
    have hn1' : hdn s ≤ st1.nx := hn1
    have ho2 : ∀ b, b ≠ l → S b → o2 b = w.heap[b]? := fun b hb _ => by
      show (if b = l then _ else _) = _
      rw [if_neg hb]
    have fin : ∀ (ow3 : Own) (nx3 : Nat) (G3 : Im → Prop) (ρ : Ren) (rec' : Loop), Sub (keep + 1) ρ ⟨[], [], st3.ow, st3.nx⟩ ⟨[], [], (keep, .gen Fr2) :: ow3, nx3⟩ → look ow3 keep = none → G3 u3 →
        w3.heap[l]? = some (.loop ldone) ∧ ∃ F', Step w F (w3.putObj l (.loop rec')) F' ∧ ∃ E4 f5, InL keep E0 ue l rec' ms ow3 nx3 G3 F' (w3.putObj l (.loop rec')) E4 f5 u3 := by
      intro ow3 nx3 G3 ρ rec' hsub hfr hg
      obtain ⟨E4, f4, hE4, hs4⟩ := hsub.sat hs3'
      obtain ⟨_, _, hfr4⟩ := hs4.holds keep _ (by rw [look_cons, if_pos rfl])
      have hl3 : w3.heap[l]? = some (.loop ldone) := by
        rw [(hfr4 l hlS).1]
        show (if l = l then _ else _) = _
        rw [if_pos rfl]
      obtain ⟨F', hst, f5, hI⟩ := round_end (rec' := rec') hin himm (hu1.trans hu3) (fun j hj => by
        rw [hE4 j (by omega), hE3 j (by show j < st1.nx; omega), hE1 j (by omega), hin.env j hj]) ho2 hs4 hfr hg
      exact ⟨hl3, F', hst, E4, f5, hI⟩
    have stop : ∀ (e : Exit) (cj : Code), jmp e = some cj → (∃ t ρ, Sub (keep + 1) ρ ⟨[], [], st3.ow, st3.nx⟩ ⟨[], [], (keep, .gen Fr2) :: hxo t, hxn t⟩ ∧ GX t e u3) →
        ∃ v w', (Instr.endRound l (some cj)).run P w3 = .ok v w' ∧ ∃ F', Step w F w' F' ∧ ((Ending.returned v = .returned (.bool true) ∧
          (inW keep E0 ue l ms (fun _ : σ => recL2 fn tm p q asg body D .ready none) hdo hdn (G (k + 1))).h F' w') ∨ (Ending.returned v = .returned (.bool false) ∧
          (inW keep E0 ue l ms (fun t : τ × Code => recL2 fn tm p q asg body D .done (some t.2)) (fun t => hxo t.1) (fun t => hxn t.1) (fun t u => ∃ e, jmp e = some t.2 ∧ GX t.1 e u)).h F' w')) := by
      rintro e cj hj ⟨t, ρ, hsub, hg⟩
      obtain ⟨hl3, F', hst, E4, f5, hI⟩ := fin (hxo t) (hxn t) (fun u => ∃ e, jmp e = some cj ∧ GX t e u) ρ (recL2 fn tm p q asg body D .done (some cj)) hsub (hfreex t) ⟨e, hj, hg⟩
      exact ⟨_, _, run_endRound (P := P) (some cj) hl3, F', hst, .inr ⟨rfl, (t, cj), E4, f5, u3, hI⟩⟩
    cases e with
    | normal =>
      obtain ⟨s', ρ, hsub, hg⟩ := h6
      obtain ⟨hl3, F', hst, E4, f5, hI⟩ := fin (hdo s') (hdn s') (G (k + 1) s') ρ (recL2 fn tm p q asg body D .ready none) hsub (hfree s') hg
      exact ⟨_, _, run_endRound (P := P) none hl3, F', hst, .inl ⟨rfl, s', E4, f5, u3, hI⟩⟩
    | ret => exact stop .ret _ rfl h6
    | exit id => exact stop (.exit id) _ rfl h6
    | goto t => exact stop (.goto t) _ rfl h6
    | panic c => exact h6.elim
    | outgrown => exact h6.elim
theorem x_range2 {σ τ : Type} {P : Program} {N : Nat} {g : Operand} {p q : Nat} {asg body : Code} {Q : Post} {kn : Kn} {ow : Own} {nx : Nat} {u : Im} {gf : Nat} {caps : Array Value} {xs : List (Value × Value)}
    (hg : opd ⟨kn, [], ow, nx⟩ [] g = some (.v (.func (.func gf) #[] caps))) (hfn : Fn1 P gf) (hit : Iter2 P gf caps xs u)
    (kn' : Kn) (hdo : σ → Own) (hdn : σ → Nat) (G : Nat → σ → Im → Prop) (hxo : τ → Own) (hxn : τ → Nat) (GX : τ → Exit → Im → Prop) (s0 : σ) (ρ0 : Ren)
    (h0 : Sub nx ρ0 ⟨kn, [], ow, nx⟩ ⟨kn', [], hdo s0, hdn s0⟩) (g0 : G 0 s0 u) (hkn : kn'.all (fun x => x.2.inN nx) = true)
    (hfree : ∀ s, look (hdo s) nx = none) (hfreex : ∀ t, look (hxo t) nx = none) (hnx : ∀ s, nx < hdn s) (hnxx : ∀ t, nx ≤ hxn t) (hp : Nat.blt p N = true) (hpq : Nat.blt q N = true)
    (hround : ∀ l k x s u' (Fr Fr' : Hp), xs[k]? = some x → u.le u' → G k s u' →
      X ⟨P, some l, N⟩ asg (onlyN fun st1 u1 => st1.gk = [] ∧ look st1.ow nx = some (.gen Fr) ∧ X ⟨P, some l, N⟩ body (RQ nx hdo hdn (G (k + 1)) hxo hxn GX Fr') ⟨st1.kn, [], (nx, .gen Fr') :: st1.ow, st1.nx⟩ u1)
        ⟨(q, .v x.2) :: (p, .v x.1) :: kn', [], (nx, .gen Fr) :: hdo s, hdn s⟩ u')
    (hdone : ∀ s u', u.le u' → G xs.length s u' → Q .normal ⟨kn', [], hdo s, hdn s⟩ u')
    (hstop : ∀ t e u', u.le u' → GX t e u' → Q e ⟨kn', [], hxo t, hxn t⟩ u') : X ⟨P, none, N⟩ (.rangeFunc g #[p, q] asg body) Q ⟨kn, [], ow, nx⟩ u := by
  unfold X
  intro E a w hok
  obtain ⟨E1, hE1, hok1⟩ := h0.ok hok
  obtain ⟨f0, hs0⟩ := hok1.sat
  have hagr := hok1.agr
  have hgs : gs a.tmps [] := fun x hx => by cases hx
  obtain ⟨eg, _⟩ := opd_sound hok.agr hgs hg
  simp only [SV.den] at eg
  obtain ⟨ds, hds, hnd, hm⟩ := hs0.marks
  refine wpIn_rangeFunc ?_
  intro fn _
  obtain ⟨D, hD⟩ : ∃ D, D = w.heap.size := ⟨_, rfl⟩
  obtain ⟨l, hl⟩ : ∃ l, l = w.heap.size + 1 := ⟨_, rfl⟩
  obtain ⟨W1, hW1⟩ : ∃ W1, W1 = (w.alloc (.deferred (some []))).alloc (.loop (recL2 fn a.tmps p q asg body D .ready none)) := ⟨_, rfl⟩
  have hsz : W1.heap.size = w.heap.size + 2 := by rw [hW1, World.size_alloc, World.size_alloc]
  have hold : ∀ b, b < w.heap.size → W1.heap[b]? = w.heap[b]? := fun b hb => by
    rw [hW1, Below.heap_alloc _ _ _ (by rw [World.size_alloc]; omega), Below.heap_alloc _ _ _ hb]
  have hl1 : W1.heap[l]? = some (.loop (recL2 fn a.tmps p q asg body D .ready none)) := by
    have := heap_alloc_new (w.alloc (.deferred (some []))) (.loop (recL2 fn a.tmps p q asg body D .ready none))
    rw [World.size_alloc] at this
    rw [hW1, hl]; exact this
  have hD1 : W1.heap[D]? = some (.deferred (some [])) := by
    rw [hW1, hD, Below.heap_alloc _ _ _ (by rw [World.size_alloc]; omega)]
    exact heap_alloc_new w _
  have hult : ∀ b o, u.h b = some o → b < w.heap.size := fun b o ho => (Array.getElem?_eq_some_iff.1 (hs0.imm.h b o ho)).1
  have hflt : ∀ k b, f0 k b → b < w.heap.size := fun k b hb => hs0.fin hb
  have himm1 : Imm u W1 := ⟨fun b o ho => (hold b (hult b o ho)).trans (hs0.imm.h b o ho), by rw [hW1]; exact hs0.imm.os, by rw [hW1]; exact hs0.imm.tape, by rw [hW1]; exact hs0.imm.output, by rw [hsz]; exact Nat.le_trans hs0.imm.lo (by omega)⟩
  have hdlt : ∀ d ∈ ds, d < w.heap.size := fun d hd => (Array.getElem?_eq_some_iff.1 (hm d hd).1).1
  have hnone : ∀ b, w.heap.size ≤ b → u.h b = none := fun b hb => by
    cases ho : u.h b with
    | none => rfl
    | some o => have := hult b o ho; omega
  let F0 : Nat → Prop := fun b => (∃ j, f0 j b) ∨ b = l ∨ b ∈ D :: ds
  have hin0 : InL nx E1 u l (recL2 fn a.tmps p q asg body D .ready none) (D :: ds) (hdo s0) (hdn s0) (G 0 s0) F0 W1 E1 f0 u := by
    refine ⟨g0, Im.le.refl u, fun _ _ => rfl, hs0.local (fun k b hb => hold b (hflt k b hb)) himm1 (by omega), hl1, fun d hd => ?_, hnone l (by omega), fun k hk => by have := hflt k l hk; omega, .inr (.inl rfl), fun b o ho => .inl ho, fun k b hb => .inl ⟨k, hb⟩, ?_⟩
    · rcases List.mem_cons.1 hd with rfl | hd'
      · exact ⟨hD1, hnone _ (by omega), fun k hk => by have := hflt k _ hk; omega, .inr (.inr hd)⟩
      · obtain ⟨h1, h2, h3⟩ := hm d hd'
        exact ⟨(hold d (hdlt d hd')).trans h1, h2, h3, .inr (.inr hd)⟩
    · rintro b (⟨j, hb⟩ | rfl | hb)
      · have := hflt j b hb; omega
      · omega
      · rcases List.mem_cons.1 hb with rfl | hb
        · omega
        · have := hdlt b hb; omega
  have hoff0 : ∀ b, F0 b → u.h b = none := by
    rintro b (⟨j, hb⟩ | rfl | hb)
    · exact hs0.off j b hb
    · exact hnone _ (by omega)
    · rcases List.mem_cons.1 hb with rfl | hb
      · exact hnone _ (by omega)
      · exact (hm b hb).2.1
  have hR := rounds_of2 (P := P) (N := N) (l := l) (keep := nx) (ue := u) (E0 := E1) (tm := a.tmps) (kn := kn') hagr hkn (D :: ds) fn p q asg body D hdo hdn G hxo hxn GX hfree hfreex hnx (blt_lt hp) (blt_lt hpq) (xs := xs) (fun k x s u' Fr Fr' => hround l k x s u' Fr Fr')
  have hnd' : (D :: ds).Nodup := List.nodup_cons.2 ⟨fun h => by have := hdlt D h; omega, hnd⟩
  refine ⟨l, [{ target := .collected D, args := #[] }], W1, { target := .fn (.func gf) caps, args := #[.func (.yield l) #[] #[]] }, W1, gf, #[.func (.yield l) #[] #[]] ++ caps, W1, ?_, ?_, fun _ _ => trivial, ?_, fun h => (by cases h), ?_⟩
  · have := run_enterLoop_outer (P := P) (w := w) fn a.tmps #[p, q] asg body
    rw [hW1, hl, hD]; exact this
  · simp only [resolve, eg]
    simp [go_sem]
  · simp [invoke, go_sem, hfn.run]
  · refine (calls_in (hit l _ _ W1 F0 hR himm1 ⟨s0, E1, f0, u, hin0⟩ hoff0)).mono ?_
    have fin : ∀ {rec : Loop} {ow' : Own} {nx' : Nat} {G' : Im → Prop} {F' : Nat → Prop} {w3 : World} {E' : Env} {f' : Nat → Nat → Prop} {uc : Im} (o : Obj), InL nx E1 u l rec (D :: ds) ow' nx' G' F' w3 E' f' uc → nx ≤ nx' →
        Ok ⟨P, none, N⟩ E' ⟨kn', [], ow', nx'⟩ uc { a with defers := [{ target := .collected D, args := #[] }] ++ a.defers } (w3.putObj l o) := by
      intro rec ow' nx' G' F' w3 E' f' uc o hI hn
      have hoth : ∀ b, b ≠ l → (w3.putObj l o).heap[b]? = w3.heap[b]? := fun b hb => World.putObj_heap_other hb
      have hsz3 : (w3.putObj l o).heap.size = w3.heap.size := by simp [World.putObj]
      have himm : Imm uc (w3.putObj l o) := ⟨fun b x hb => by rw [hoth b (fun e => by subst e; rw [hI.lu] at hb; cases hb)]; exact hI.sat.imm.h b x hb, hI.sat.imm.os, hI.sat.imm.tape, hI.sat.imm.output, by rw [hsz3]; exact hI.sat.imm.lo⟩
      have hs4 := hI.sat.local (w' := w3.putObj l o) (fun k b hb => hoth b (fun e => by subst e; exact hI.lf k hb)) himm (Nat.le_of_eq hsz3.symm)
      refine ⟨hagr.keepE hkn hI.env hn, f', hs4.holds, hs4.non, hs4.apart, hs4.off, hs4.lt, hs4.imm, D :: ds, ?_, hnd', fun d hd => ?_⟩
      · rw [hds]; rfl
      · obtain ⟨h1, h2, h3, _⟩ := hI.ml d hd
        refine ⟨?_, h2, h3⟩
        rw [hoth d (fun e => by rw [e, hI.loop] at h1; cases h1)]
        exact h1
    rintro e w3 ⟨v, F', rfl, hst, hY | hZ⟩
    · obtain ⟨s, E', f', uc, hI⟩ := hY
      refine ⟨none, _, run_endLoop (P := P) hI.loop (by simp [recL2]), ?_⟩
      exact ⟨E', _, uc, fun k hk => (hI.env k hk).trans (hE1 k hk), Nat.le_of_lt (hnx s), hI.le, fin _ hI (Nat.le_of_lt (hnx s)), hdone s uc hI.le hI.g⟩
    · obtain ⟨⟨t, cj⟩, E', f', uc, hI⟩ := hZ
      refine ⟨some cj, _, run_endLoop (P := P) hI.loop (by simp [recL2]), ?_⟩
      obtain ⟨e, hj, hgx⟩ := hI.g
      have hq : SemQ ⟨P, none, N⟩ E nx u Q e { a with defers := [{ target := .collected D, args := #[] }] ++ a.defers } (w3.putObj l (.loop { recL2 fn a.tmps p q asg body D .done (some cj) with state := .exhausted })) :=
        ⟨E', _, uc, fun k hk => (hI.env k hk).trans (hE1 k hk), hnxx t, hI.le, fin _ hI (hnxx t), hstop t e uc hI.le hgx⟩
      show cj.wpIn (FR none) 0 P (SemQ ⟨P, none, N⟩ E nx u Q) _ _
      cases e with
      | ret => cases hj; exact wpIn_ret hq
      | exit id => cases hj; exact wpIn_exit hq
      | goto t => cases hj; exact wpIn_goto hq
      | normal => cases hj
      | panic c => cases hj
      | outgrown => cases hj
theorem x_via {C : Cx} {x : Code} {Q : Post} {st : St} {u : Im} {σ : Type} (hd : σ → St) (G : σ → Im → Prop) (hnx : ∀ s, st.nx ≤ (hd s).nx)
    (hx : X C x (onlyN (Meet st.nx hd G)) st u) (hy : ∀ s u', u.le u' → G s u' → Q .normal (hd s) u') : X C x Q st u := by
  unfold X at hx ⊢
  intro E a w hok
  refine Go.wpIn_mono (hx E a w hok) fun e a' w' hh => ?_
  obtain ⟨E2, st2, u2, h1, h2, h3, h4, h5⟩ := hh
  cases e with
  | normal =>
    simp only [onlyN] at h5
    unfold Meet at h5
    obtain ⟨s, ρ, h6, h7⟩ := h5
    obtain ⟨E3, hE3, hok3⟩ := h6.ok h4
    exact ⟨E3, hd s, u2, fun k hk => (hE3 k hk).trans (h1 k hk), hnx s, h3, hok3, hy s u2 h3 h7⟩
  | exit id => exact h5.elim
  | goto l => exact h5.elim
  | ret => exact h5.elim
  | panic ch => exact h5.elim
  | outgrown => exact h5.elim
theorem finStarO {σ : Type} {w0 : World} {ow : Own} {nx : Nat} {u : Im} {k ks : Nat} {e : TypeId} {D : Data} {l0 : List SI} {val : σ → Value} {l : σ → List SI} {G : σ → Prop} {vs : List SV} (hk : look ow k = some (.row e D)) (hks : look ow ks = some (.gen (starHp l0)))
    (H : ∀ A c, ∃ s, (∀ E : Env, E k = .slice A D.n c → tupV (vs.map (SV.den E)) = val s) ∧ l s = l0 ++ [⟨.slice A D.n c, e, D⟩] ∧ G s) : Done w0 (StarR val l G) vs ow nx u :=
  finP fun E w' F hs hu => by
    obtain ⟨h1, h2, h3⟩ := hs.holds ks _ hks
    obtain ⟨r1, r2⟩ := hs.holds k _ hk
    obtain ⟨A, c, hv⟩ := ownsRow_sl r1
    obtain ⟨s, q1, q2, q3⟩ := H A c
    have hne : k ≠ ks := fun hh => by rw [hh, hks] at hk; cases hk
    have new : ∀ j b, F j b → w0.heap.size ≤ b := fun j b hb => by
      have h4 := hs.off j b hb
      rcases Nat.lt_or_ge b w0.heap.size with hlt | hge
      · have : (im w0).h b = some w0.heap[b] := Array.getElem?_eq_getElem hlt
        rw [hu.h _ _ this] at h4; cases h4
      · exact hge
    refine ⟨s, q1 E hv, ?_, q3⟩
    rw [q2]
    refine ⟨fun p hp => ?_, ?_⟩
    · rcases List.mem_append.1 hp with hp | hp
      · exact ownAt_of (h1 p hp) fun b hb => new ks b ((h3 b).2 ⟨p, hp, hb⟩)
      · rw [List.mem_singleton.1 hp]
        exact ownAt_of (hv ▸ r1) fun b hb => new k b ((r2 b).2 (by rw [hv]; exact hb))
    · rw [starDis_at, List.append_nil]
      exact ⟨h2, fun q hq b hb hb' => hs.apart k ks b hne ((r2 b).2 (by rw [hv]; exact hb)) ((h3 b).2 ⟨q, hq, hb'⟩)⟩
section
variable {H : Type} {enc : TypeId × Value → H} {P : Program} {w : World}
theorem TrZ.bytes {t e : TypeId} {A : Option Addr} {n c : Nat} (ht : P.underlying t = some (.slice e)) (h : TrZ enc P w t [.slice A n c]) : n * P.bytesOf e ≤ 140737488351232 := by
  obtain ⟨fu, y, h, hz⟩ := h
  rcases Go.Deep.open_slice ht h with ⟨e1, _⟩ | ⟨a, len, cap, k, n', D, Pl, e1, _, hl, hc, hk, hy, hi⟩
  · cases e1; simp
  · cases e1
    have hlk : n ≤ k := by rw [hk]; split <;> omega
    have hwt : y.1.weights P t = ((List.range n).map D).length.add (((List.range (k - n)).map fun j => D (n + j)).length) * P.bytesOf e :: (DataW.weightsAll P e ((List.range n).map D) ++ DataW.weightsAll P e ((List.range (k - n)).map fun j => D (n + j))) := by
      rw [hy]; simp [DataW.weights, ht]
    have h9 := hz _ (by rw [hwt]; exact List.mem_cons_self ..)
    refine Nat.le_trans (Nat.mul_le_mul_right _ ?_) h9
    simp only [List.length_map, List.length_range]
    exact Nat.le_add_right _ _
end
end Go.GV
namespace Go.Proofs.YtnjmkeijjapejaaDoor
open Go.GV
def ti2 : TI := ⟨1, [.int .i64 0], .int .i64, false⟩
theorem tiok2 : TIok Tryd.prog 2 ti2 := ⟨⟨_, Tryd.underlying2, rfl⟩, by kernel_rfl, rfl, fun _ => ⟨rfl, rfl⟩, fun h => (by cases h)⟩
def ti3 : TI := ⟨1, [.int .i64 0], .int .i64, false⟩
theorem tiok3 : TIok Tryd.prog 3 ti3 := ⟨⟨_, Tryd.underlying3, rfl⟩, by kernel_rfl, rfl, fun _ => ⟨rfl, rfl⟩, fun h => (by cases h)⟩
def ti4 : TI := ⟨1, [.bool false], .bool, false⟩
theorem tiok4 : TIok Tryd.prog 4 ti4 := ⟨⟨_, Tryd.underlying4, rfl⟩, by kernel_rfl, rfl, fun _ => ⟨rfl, rfl⟩, fun h => (by cases h)⟩
def ti5 : TI := ⟨1, [.int .u8 0], .int .u8, false⟩
theorem tiok5 : TIok Tryd.prog 5 ti5 := ⟨⟨_, Tryd.underlying5, rfl⟩, by kernel_rfl, rfl, fun _ => ⟨rfl, rfl⟩, fun h => (by cases h)⟩
def ti6 : TI := ⟨1, [.int .u8 0], .int .u8, false⟩
theorem tiok6 : TIok Tryd.prog 6 ti6 := ⟨⟨_, Tryd.underlying6, rfl⟩, by kernel_rfl, rfl, fun _ => ⟨rfl, rfl⟩, fun h => (by cases h)⟩
def ti9 : TI := ⟨1, [.string ⟨#[]⟩], .str, false⟩
theorem tiok9 : TIok Tryd.prog 9 ti9 := ⟨⟨_, Tryd.underlying9, rfl⟩, by kernel_rfl, rfl, fun _ => ⟨rfl, rfl⟩, fun h => (by cases h)⟩
def ti10 : TI := ⟨1, [.string ⟨#[]⟩], .str, false⟩
theorem tiok10 : TIok Tryd.prog 10 ti10 := ⟨⟨_, Tryd.underlying10, rfl⟩, by kernel_rfl, rfl, fun _ => ⟨rfl, rfl⟩, fun h => (by cases h)⟩
def ti11 : TI := ⟨1, [.string ⟨#[]⟩], .str, false⟩
theorem tiok11 : TIok Tryd.prog 11 ti11 := ⟨⟨_, Tryd.underlying11, rfl⟩, by kernel_rfl, rfl, fun _ => ⟨rfl, rfl⟩, fun h => (by cases h)⟩
def ti24 : TI := ⟨1, [.int .i64 0], .int .i64, false⟩
theorem tiok24 : TIok Tryd.prog 24 ti24 := ⟨⟨_, Tryd.underlying24, rfl⟩, by kernel_rfl, rfl, fun _ => ⟨rfl, rfl⟩, fun h => (by cases h)⟩
def ti210 : TI := ⟨1, [.int .u8 0], .int .u8, false⟩
theorem tiok210 : TIok Tryd.prog 210 ti210 := ⟨⟨_, Tryd.underlying210, rfl⟩, by kernel_rfl, rfl, fun _ => ⟨rfl, rfl⟩, fun h => (by cases h)⟩
def ti211 : TI := ⟨1, [.int .u8 0], .int .u8, false⟩
theorem tiok211 : TIok Tryd.prog 211 ti211 := ⟨⟨_, Tryd.underlying211, rfl⟩, by kernel_rfl, rfl, fun _ => ⟨rfl, rfl⟩, fun h => (by cases h)⟩
def ti7 : TI := ⟨4, [.int .i64 0, .int .i64 0, .bool false, .int .u8 0], .strct [(0, 2), (1, 3), (2, 4), (3, 6)], false⟩
theorem tiok7 : TIok Tryd.prog 7 ti7 := ⟨⟨_, Tryd.underlying7, _, rfl, rfl⟩, by kernel_rfl, rfl, fun h => (by cases h), fun h => (by cases h)⟩
def ti8 : TI := ⟨4, [.int .i64 0, .int .i64 0, .bool false, .int .u8 0], .strct [(0, 2), (1, 3), (2, 4), (3, 6)], false⟩
theorem tiok8 : TIok Tryd.prog 8 ti8 := ⟨⟨_, Tryd.underlying8, _, rfl, rfl⟩, by kernel_rfl, rfl, fun h => (by cases h), fun h => (by cases h)⟩
def ti13 : TI := ⟨2, [.string ⟨#[]⟩, .int .u64 0], .strct [(0, 9), (1, 12)], false⟩
theorem tiok13 : TIok Tryd.prog 13 ti13 := ⟨⟨_, Tryd.underlying13, _, rfl, rfl⟩, by kernel_rfl, rfl, fun h => (by cases h), fun h => (by cases h)⟩
def ti14 : TI := ⟨2, [.string ⟨#[]⟩, .int .u64 0], .strct [(0, 9), (1, 12)], false⟩
theorem tiok14 : TIok Tryd.prog 14 ti14 := ⟨⟨_, Tryd.underlying14, _, rfl, rfl⟩, by kernel_rfl, rfl, fun h => (by cases h), fun h => (by cases h)⟩
def ti18 : TI := ⟨1, [.pointer none], .strct [(0, 17)], false⟩
theorem tiok18 : TIok Tryd.prog 18 ti18 := ⟨⟨_, Tryd.underlying18, _, rfl, rfl⟩, by kernel_rfl, rfl, fun h => (by cases h), fun h => (by cases h)⟩
def ti19 : TI := ⟨1, [.pointer none], .strct [(0, 17)], false⟩
theorem tiok19 : TIok Tryd.prog 19 ti19 := ⟨⟨_, Tryd.underlying19, _, rfl, rfl⟩, by kernel_rfl, rfl, fun h => (by cases h), fun h => (by cases h)⟩
def ti23 : TI := ⟨1, [.slice none 0 0], .slice 9, false⟩
theorem tiok23 : TIok Tryd.prog 23 ti23 := ⟨⟨_, Tryd.underlying23, rfl⟩, by kernel_rfl, rfl, fun _ => ⟨rfl, rfl⟩, fun h => (by cases h)⟩
def ti31 : TI := ⟨1, [.slice none 0 0], .slice 23, false⟩
theorem tiok31 : TIok Tryd.prog 31 ti31 := ⟨⟨_, Tryd.underlying31, rfl⟩, by kernel_rfl, rfl, fun _ => ⟨rfl, rfl⟩, fun h => (by cases h)⟩
def ti41 : TI := ⟨1, [.slice none 0 0], .slice 52, false⟩
theorem tiok41 : TIok Tryd.prog 41 ti41 := ⟨⟨_, Tryd.underlying41, rfl⟩, by kernel_rfl, rfl, fun _ => ⟨rfl, rfl⟩, fun h => (by cases h)⟩
def ti47 : TI := ⟨1, [.slice none 0 0], .slice 41, false⟩
theorem tiok47 : TIok Tryd.prog 47 ti47 := ⟨⟨_, Tryd.underlying47, rfl⟩, by kernel_rfl, rfl, fun _ => ⟨rfl, rfl⟩, fun h => (by cases h)⟩
def ti51 : TI := ⟨4, [.int .i64 0, .string ⟨#[]⟩, .bool false, .slice none 0 0], .strct [(0, 3), (1, 9), (2, 4), (3, 23)], false⟩
theorem tiok51 : TIok Tryd.prog 51 ti51 := ⟨⟨_, Tryd.underlying51, _, rfl, rfl⟩, by kernel_rfl, rfl, fun h => (by cases h), fun h => (by cases h)⟩
def ti52 : TI := ⟨4, [.int .i64 0, .string ⟨#[]⟩, .bool false, .slice none 0 0], .strct [(0, 3), (1, 9), (2, 4), (3, 23)], false⟩
theorem tiok52 : TIok Tryd.prog 52 ti52 := ⟨⟨_, Tryd.underlying52, _, rfl, rfl⟩, by kernel_rfl, rfl, fun h => (by cases h), fun h => (by cases h)⟩
def ti69 : TI := ⟨1, [.slice none 0 0], .slice 73, false⟩
theorem tiok69 : TIok Tryd.prog 69 ti69 := ⟨⟨_, Tryd.underlying69, rfl⟩, by kernel_rfl, rfl, fun _ => ⟨rfl, rfl⟩, fun h => (by cases h)⟩
def ti70 : TI := ⟨2, [.int .u64 0, .bool false], .strct [(0, 43), (1, 4)], true⟩
theorem tiok70 : TIok Tryd.prog 70 ti70 := ⟨⟨_, Tryd.underlying70, _, rfl, rfl⟩, by kernel_rfl, rfl, fun h => (by cases h), fun _ => ⟨by kernel_rfl, by kernel_rfl, by kernel_rfl⟩⟩
def ti71 : TI := ⟨2, [.int .u64 0, .bool false], .strct [(0, 43), (1, 4)], true⟩
theorem tiok71 : TIok Tryd.prog 71 ti71 := ⟨⟨_, Tryd.underlying71, _, rfl, rfl⟩, by kernel_rfl, rfl, fun h => (by cases h), fun _ => ⟨by kernel_rfl, by kernel_rfl, by kernel_rfl⟩⟩
def ti72 : TI := ⟨4, [.bool false, .int .u64 0, .bool false, .string ⟨#[]⟩], .strct [(0, 4), (1, 71), (3, 9)], true⟩
theorem tiok72 : TIok Tryd.prog 72 ti72 := ⟨⟨_, Tryd.underlying72, _, rfl, rfl⟩, by kernel_rfl, rfl, fun h => (by cases h), fun _ => ⟨by kernel_rfl, by kernel_rfl, by kernel_rfl⟩⟩
def ti73 : TI := ⟨4, [.bool false, .int .u64 0, .bool false, .string ⟨#[]⟩], .strct [(0, 4), (1, 71), (3, 9)], true⟩
theorem tiok73 : TIok Tryd.prog 73 ti73 := ⟨⟨_, Tryd.underlying73, _, rfl, rfl⟩, by kernel_rfl, rfl, fun h => (by cases h), fun _ => ⟨by kernel_rfl, by kernel_rfl, by kernel_rfl⟩⟩
def ti76 : TI := ⟨3, [.slice none 0 0, .int .i64 0, .int .i64 0], .strct [(0, 69), (1, 3), (2, 24)], false⟩
theorem tiok76 : TIok Tryd.prog 76 ti76 := ⟨⟨_, Tryd.underlying76, _, rfl, rfl⟩, by kernel_rfl, rfl, fun h => (by cases h), fun h => (by cases h)⟩
def ti77 : TI := ⟨3, [.slice none 0 0, .int .i64 0, .int .i64 0], .strct [(0, 69), (1, 3), (2, 24)], false⟩
theorem tiok77 : TIok Tryd.prog 77 ti77 := ⟨⟨_, Tryd.underlying77, _, rfl, rfl⟩, by kernel_rfl, rfl, fun h => (by cases h), fun h => (by cases h)⟩
def ti79 : TI := ⟨1, [.slice none 0 0], .slice 105, false⟩
theorem tiok79 : TIok Tryd.prog 79 ti79 := ⟨⟨_, Tryd.underlying79, rfl⟩, by kernel_rfl, rfl, fun _ => ⟨rfl, rfl⟩, fun h => (by cases h)⟩
def ti91 : TI := ⟨1, [.slice none 0 0], .slice 5, false⟩
theorem tiok91 : TIok Tryd.prog 91 ti91 := ⟨⟨_, Tryd.underlying91, rfl⟩, by kernel_rfl, rfl, fun _ => ⟨rfl, rfl⟩, fun h => (by cases h)⟩
def ti92 : TI := ⟨2, [.pointer none, .slice none 0 0], .strct [(0, 90), (1, 91)], false⟩
theorem tiok92 : TIok Tryd.prog 92 ti92 := ⟨⟨_, Tryd.underlying92, _, rfl, rfl⟩, by kernel_rfl, rfl, fun h => (by cases h), fun h => (by cases h)⟩
def ti93 : TI := ⟨2, [.pointer none, .slice none 0 0], .strct [(0, 90), (1, 91)], false⟩
theorem tiok93 : TIok Tryd.prog 93 ti93 := ⟨⟨_, Tryd.underlying93, _, rfl, rfl⟩, by kernel_rfl, rfl, fun h => (by cases h), fun h => (by cases h)⟩
def ti104 : TI := ⟨5, [.int .i64 0, .string ⟨#[]⟩, .int .i64 0, .int .i64 0, .bool false], .strct [(0, 3), (1, 9), (2, 3), (3, 3), (4, 4)], true⟩
theorem tiok104 : TIok Tryd.prog 104 ti104 := ⟨⟨_, Tryd.underlying104, _, rfl, rfl⟩, by kernel_rfl, rfl, fun h => (by cases h), fun _ => ⟨by kernel_rfl, by kernel_rfl, by kernel_rfl⟩⟩
def ti105 : TI := ⟨5, [.int .i64 0, .string ⟨#[]⟩, .int .i64 0, .int .i64 0, .bool false], .strct [(0, 3), (1, 9), (2, 3), (3, 3), (4, 4)], true⟩
theorem tiok105 : TIok Tryd.prog 105 ti105 := ⟨⟨_, Tryd.underlying105, _, rfl, rfl⟩, by kernel_rfl, rfl, fun h => (by cases h), fun _ => ⟨by kernel_rfl, by kernel_rfl, by kernel_rfl⟩⟩
def ti106 : TI := ⟨2, [.int .i64 0, .string ⟨#[]⟩], .strct [(0, 3), (1, 9)], true⟩
theorem tiok106 : TIok Tryd.prog 106 ti106 := ⟨⟨_, Tryd.underlying106, _, rfl, rfl⟩, by kernel_rfl, rfl, fun h => (by cases h), fun _ => ⟨by kernel_rfl, by kernel_rfl, by kernel_rfl⟩⟩
def ti107 : TI := ⟨2, [.int .i64 0, .string ⟨#[]⟩], .strct [(0, 3), (1, 9)], true⟩
theorem tiok107 : TIok Tryd.prog 107 ti107 := ⟨⟨_, Tryd.underlying107, _, rfl, rfl⟩, by kernel_rfl, rfl, fun h => (by cases h), fun _ => ⟨by kernel_rfl, by kernel_rfl, by kernel_rfl⟩⟩
def ti113 : TI := ⟨1, [.slice none 0 0], .slice 156, false⟩
theorem tiok113 : TIok Tryd.prog 113 ti113 := ⟨⟨_, Tryd.underlying113, rfl⟩, by kernel_rfl, rfl, fun _ => ⟨rfl, rfl⟩, fun h => (by cases h)⟩
def ti114 : TI := ⟨4, [.slice none 0 0, .int .i64 0, .int .i64 0, .bool false], .strct [(0, 113), (1, 3), (2, 3), (3, 4)], false⟩
theorem tiok114 : TIok Tryd.prog 114 ti114 := ⟨⟨_, Tryd.underlying114, _, rfl, rfl⟩, by kernel_rfl, rfl, fun h => (by cases h), fun h => (by cases h)⟩
def ti115 : TI := ⟨4, [.slice none 0 0, .int .i64 0, .int .i64 0, .bool false], .strct [(0, 113), (1, 3), (2, 3), (3, 4)], false⟩
theorem tiok115 : TIok Tryd.prog 115 ti115 := ⟨⟨_, Tryd.underlying115, _, rfl, rfl⟩, by kernel_rfl, rfl, fun h => (by cases h), fun h => (by cases h)⟩
def ti119 : TI := ⟨1, [.slice none 0 0], .slice 123, false⟩
theorem tiok119 : TIok Tryd.prog 119 ti119 := ⟨⟨_, Tryd.underlying119, rfl⟩, by kernel_rfl, rfl, fun _ => ⟨rfl, rfl⟩, fun h => (by cases h)⟩
def ti122 : TI := ⟨3, [.int .u8 0, .int .i64 0, .int .i64 0], .strct [(0, 5), (1, 3), (2, 3)], true⟩
theorem tiok122 : TIok Tryd.prog 122 ti122 := ⟨⟨_, Tryd.underlying122, _, rfl, rfl⟩, by kernel_rfl, rfl, fun h => (by cases h), fun _ => ⟨by kernel_rfl, by kernel_rfl, by kernel_rfl⟩⟩
def ti123 : TI := ⟨3, [.int .u8 0, .int .i64 0, .int .i64 0], .strct [(0, 5), (1, 3), (2, 3)], true⟩
theorem tiok123 : TIok Tryd.prog 123 ti123 := ⟨⟨_, Tryd.underlying123, _, rfl, rfl⟩, by kernel_rfl, rfl, fun h => (by cases h), fun _ => ⟨by kernel_rfl, by kernel_rfl, by kernel_rfl⟩⟩
def ti127 : TI := ⟨3, [.int .i64 0, .int .i64 0, .int .i64 0], .strct [(0, 3), (1, 3), (2, 3)], true⟩
theorem tiok127 : TIok Tryd.prog 127 ti127 := ⟨⟨_, Tryd.underlying127, _, rfl, rfl⟩, by kernel_rfl, rfl, fun h => (by cases h), fun _ => ⟨by kernel_rfl, by kernel_rfl, by kernel_rfl⟩⟩
def ti128 : TI := ⟨3, [.int .i64 0, .int .i64 0, .int .i64 0], .strct [(0, 3), (1, 3), (2, 3)], true⟩
theorem tiok128 : TIok Tryd.prog 128 ti128 := ⟨⟨_, Tryd.underlying128, _, rfl, rfl⟩, by kernel_rfl, rfl, fun h => (by cases h), fun _ => ⟨by kernel_rfl, by kernel_rfl, by kernel_rfl⟩⟩
def ti136 : TI := ⟨1, [.slice none 0 0], .slice 2, false⟩
theorem tiok136 : TIok Tryd.prog 136 ti136 := ⟨⟨_, Tryd.underlying136, rfl⟩, by kernel_rfl, rfl, fun _ => ⟨rfl, rfl⟩, fun h => (by cases h)⟩
def ti155 : TI := ⟨4, [.bool false, .int .i64 0, .bool false, .int .i64 0], .strct [(0, 4), (1, 3), (2, 4), (3, 3)], true⟩
theorem tiok155 : TIok Tryd.prog 155 ti155 := ⟨⟨_, Tryd.underlying155, _, rfl, rfl⟩, by kernel_rfl, rfl, fun h => (by cases h), fun _ => ⟨by kernel_rfl, by kernel_rfl, by kernel_rfl⟩⟩
def ti156 : TI := ⟨4, [.bool false, .int .i64 0, .bool false, .int .i64 0], .strct [(0, 4), (1, 3), (2, 4), (3, 3)], true⟩
theorem tiok156 : TIok Tryd.prog 156 ti156 := ⟨⟨_, Tryd.underlying156, _, rfl, rfl⟩, by kernel_rfl, rfl, fun h => (by cases h), fun _ => ⟨by kernel_rfl, by kernel_rfl, by kernel_rfl⟩⟩
def ti164 : TI := ⟨4, [.int .u8 0, .int .i64 0, .int .i64 0, .bool false], .strct [(0, 123), (3, 4)], true⟩
theorem tiok164 : TIok Tryd.prog 164 ti164 := ⟨⟨_, Tryd.underlying164, _, rfl, rfl⟩, by kernel_rfl, rfl, fun h => (by cases h), fun _ => ⟨by kernel_rfl, by kernel_rfl, by kernel_rfl⟩⟩
def ti165 : TI := ⟨4, [.int .u8 0, .int .i64 0, .int .i64 0, .bool false], .strct [(0, 123), (3, 4)], true⟩
theorem tiok165 : TIok Tryd.prog 165 ti165 := ⟨⟨_, Tryd.underlying165, _, rfl, rfl⟩, by kernel_rfl, rfl, fun h => (by cases h), fun _ => ⟨by kernel_rfl, by kernel_rfl, by kernel_rfl⟩⟩
def ti182 : TI := ⟨2, [.string ⟨#[]⟩, .int .i64 0], .strct [(0, 9), (1, 3)], true⟩
theorem tiok182 : TIok Tryd.prog 182 ti182 := ⟨⟨_, Tryd.underlying182, _, rfl, rfl⟩, by kernel_rfl, rfl, fun h => (by cases h), fun _ => ⟨by kernel_rfl, by kernel_rfl, by kernel_rfl⟩⟩
def ti198 : TI := ⟨2, [.int .u8 0, .int .u8 0], .strct [(0, 5), (1, 5)], true⟩
theorem tiok198 : TIok Tryd.prog 198 ti198 := ⟨⟨_, Tryd.underlying198, _, rfl, rfl⟩, by kernel_rfl, rfl, fun h => (by cases h), fun _ => ⟨by kernel_rfl, by kernel_rfl, by kernel_rfl⟩⟩
def ti199 : TI := ⟨2, [.int .u8 0, .int .u8 0], .strct [(0, 5), (1, 5)], true⟩
theorem tiok199 : TIok Tryd.prog 199 ti199 := ⟨⟨_, Tryd.underlying199, _, rfl, rfl⟩, by kernel_rfl, rfl, fun h => (by cases h), fun _ => ⟨by kernel_rfl, by kernel_rfl, by kernel_rfl⟩⟩
def ti205 : TI := ⟨4, [.pointer none, .pointer none, .pointer none, .string ⟨#[]⟩], .strct [(0, 17), (1, 17), (2, 17), (3, 9)], false⟩
theorem tiok205 : TIok Tryd.prog 205 ti205 := ⟨⟨_, Tryd.underlying205, _, rfl, rfl⟩, by kernel_rfl, rfl, fun h => (by cases h), fun h => (by cases h)⟩
def ti206 : TI := ⟨4, [.pointer none, .pointer none, .pointer none, .string ⟨#[]⟩], .strct [(0, 17), (1, 17), (2, 17), (3, 9)], false⟩
theorem tiok206 : TIok Tryd.prog 206 ti206 := ⟨⟨_, Tryd.underlying206, _, rfl, rfl⟩, by kernel_rfl, rfl, fun h => (by cases h), fun h => (by cases h)⟩
def ti215 : TI := ⟨11, [.int .u64 0, .int .u64 0, .int .u32 0, .int .u8 0, .int .u8 0, .int .u8 0, .int .u8 0, .nilFunc, .pointer none, .int .i32 0, .int .i32 0], .strct [(0, 12), (1, 12), (2, 201), (3, 210), (4, 5), (5, 5), (6, 211), (7, 212), (8, 133), (9, 213), (10, 214)], false⟩
theorem tiok215 : TIok Tryd.prog 215 ti215 := ⟨⟨_, Tryd.underlying215, _, rfl, rfl⟩, by kernel_rfl, rfl, fun h => (by cases h), fun h => (by cases h)⟩
def ti216 : TI := ⟨11, [.int .u64 0, .int .u64 0, .int .u32 0, .int .u8 0, .int .u8 0, .int .u8 0, .int .u8 0, .nilFunc, .pointer none, .int .i32 0, .int .i32 0], .strct [(0, 12), (1, 12), (2, 201), (3, 210), (4, 5), (5, 5), (6, 211), (7, 212), (8, 133), (9, 213), (10, 214)], false⟩
theorem tiok216 : TIok Tryd.prog 216 ti216 := ⟨⟨_, Tryd.underlying216, _, rfl, rfl⟩, by kernel_rfl, rfl, fun h => (by cases h), fun h => (by cases h)⟩
def ti1 : TI := ⟨1, [.nilFunc], .other, false⟩
theorem tiok1 : TIok Tryd.prog 1 ti1 := ⟨⟨_, Tryd.underlying1, fun _ h => (by cases h), fun _ _ h => (by cases h)⟩, by kernel_rfl, rfl, fun _ => ⟨rfl, rfl⟩, fun h => (by cases h)⟩
def ti12 : TI := ⟨1, [.int .u64 0], .int .u64, false⟩
theorem tiok12 : TIok Tryd.prog 12 ti12 := ⟨⟨_, Tryd.underlying12, rfl⟩, by kernel_rfl, rfl, fun _ => ⟨rfl, rfl⟩, fun h => (by cases h)⟩
def ti15 : TI := ⟨1, [.pointer none], .other, false⟩
theorem tiok15 : TIok Tryd.prog 15 ti15 := ⟨⟨_, Tryd.underlying15, fun _ h => (by cases h), fun _ _ h => (by cases h)⟩, by kernel_rfl, rfl, fun _ => ⟨rfl, rfl⟩, fun h => (by cases h)⟩
def ti16 : TI := ⟨1, [.pointer none], .other, false⟩
theorem tiok16 : TIok Tryd.prog 16 ti16 := ⟨⟨_, Tryd.underlying16, fun _ h => (by cases h), fun _ _ h => (by cases h)⟩, by kernel_rfl, rfl, fun _ => ⟨rfl, rfl⟩, fun h => (by cases h)⟩
def ti17 : TI := ⟨1, [.pointer none], .other, false⟩
theorem tiok17 : TIok Tryd.prog 17 ti17 := ⟨⟨_, Tryd.underlying17, fun _ h => (by cases h), fun _ _ h => (by cases h)⟩, by kernel_rfl, rfl, fun _ => ⟨rfl, rfl⟩, fun h => (by cases h)⟩
def ti20 : TI := ⟨1, [.nilIface], .other, false⟩
theorem tiok20 : TIok Tryd.prog 20 ti20 := ⟨⟨_, Tryd.underlying20, fun _ h => (by cases h), fun _ _ h => (by cases h)⟩, by kernel_rfl, rfl, fun _ => ⟨rfl, rfl⟩, fun h => (by cases h)⟩
def ti21 : TI := ⟨1, [.int .i32 0], .int .i32, false⟩
theorem tiok21 : TIok Tryd.prog 21 ti21 := ⟨⟨_, Tryd.underlying21, rfl⟩, by kernel_rfl, rfl, fun _ => ⟨rfl, rfl⟩, fun h => (by cases h)⟩
def ti22 : TI := ⟨1, [.nilFunc], .other, false⟩
theorem tiok22 : TIok Tryd.prog 22 ti22 := ⟨⟨_, Tryd.underlying22, fun _ h => (by cases h), fun _ _ h => (by cases h)⟩, by kernel_rfl, rfl, fun _ => ⟨rfl, rfl⟩, fun h => (by cases h)⟩
def ti26 : TI := ⟨1, [.nilFunc], .other, false⟩
theorem tiok26 : TIok Tryd.prog 26 ti26 := ⟨⟨_, Tryd.underlying26, fun _ h => (by cases h), fun _ _ h => (by cases h)⟩, by kernel_rfl, rfl, fun _ => ⟨rfl, rfl⟩, fun h => (by cases h)⟩
def ti28 : TI := ⟨1, [.nilFunc], .other, false⟩
theorem tiok28 : TIok Tryd.prog 28 ti28 := ⟨⟨_, Tryd.underlying28, fun _ h => (by cases h), fun _ _ h => (by cases h)⟩, by kernel_rfl, rfl, fun _ => ⟨rfl, rfl⟩, fun h => (by cases h)⟩
def ti29 : TI := ⟨1, [.nilFunc], .other, false⟩
theorem tiok29 : TIok Tryd.prog 29 ti29 := ⟨⟨_, Tryd.underlying29, fun _ h => (by cases h), fun _ _ h => (by cases h)⟩, by kernel_rfl, rfl, fun _ => ⟨rfl, rfl⟩, fun h => (by cases h)⟩
def ti30 : TI := ⟨1, [.nilFunc], .other, false⟩
theorem tiok30 : TIok Tryd.prog 30 ti30 := ⟨⟨_, Tryd.underlying30, fun _ h => (by cases h), fun _ _ h => (by cases h)⟩, by kernel_rfl, rfl, fun _ => ⟨rfl, rfl⟩, fun h => (by cases h)⟩
def ti33 : TI := ⟨1, [.nilFunc], .other, false⟩
theorem tiok33 : TIok Tryd.prog 33 ti33 := ⟨⟨_, Tryd.underlying33, fun _ h => (by cases h), fun _ _ h => (by cases h)⟩, by kernel_rfl, rfl, fun _ => ⟨rfl, rfl⟩, fun h => (by cases h)⟩
def ti35 : TI := ⟨1, [.nilFunc], .other, false⟩
theorem tiok35 : TIok Tryd.prog 35 ti35 := ⟨⟨_, Tryd.underlying35, fun _ h => (by cases h), fun _ _ h => (by cases h)⟩, by kernel_rfl, rfl, fun _ => ⟨rfl, rfl⟩, fun h => (by cases h)⟩
def ti36 : TI := ⟨1, [.nilFunc], .other, false⟩
theorem tiok36 : TIok Tryd.prog 36 ti36 := ⟨⟨_, Tryd.underlying36, fun _ h => (by cases h), fun _ _ h => (by cases h)⟩, by kernel_rfl, rfl, fun _ => ⟨rfl, rfl⟩, fun h => (by cases h)⟩
def ti37 : TI := ⟨1, [.nilFunc], .other, false⟩
theorem tiok37 : TIok Tryd.prog 37 ti37 := ⟨⟨_, Tryd.underlying37, fun _ h => (by cases h), fun _ _ h => (by cases h)⟩, by kernel_rfl, rfl, fun _ => ⟨rfl, rfl⟩, fun h => (by cases h)⟩
def ti38 : TI := ⟨1, [.nilFunc], .other, false⟩
theorem tiok38 : TIok Tryd.prog 38 ti38 := ⟨⟨_, Tryd.underlying38, fun _ h => (by cases h), fun _ _ h => (by cases h)⟩, by kernel_rfl, rfl, fun _ => ⟨rfl, rfl⟩, fun h => (by cases h)⟩
def ti39 : TI := ⟨1, [.nilFunc], .other, false⟩
theorem tiok39 : TIok Tryd.prog 39 ti39 := ⟨⟨_, Tryd.underlying39, fun _ h => (by cases h), fun _ _ h => (by cases h)⟩, by kernel_rfl, rfl, fun _ => ⟨rfl, rfl⟩, fun h => (by cases h)⟩
def ti40 : TI := ⟨1, [.nilFunc], .other, false⟩
theorem tiok40 : TIok Tryd.prog 40 ti40 := ⟨⟨_, Tryd.underlying40, fun _ h => (by cases h), fun _ _ h => (by cases h)⟩, by kernel_rfl, rfl, fun _ => ⟨rfl, rfl⟩, fun h => (by cases h)⟩
def ti42 : TI := ⟨1, [.nilFunc], .other, false⟩
theorem tiok42 : TIok Tryd.prog 42 ti42 := ⟨⟨_, Tryd.underlying42, fun _ h => (by cases h), fun _ _ h => (by cases h)⟩, by kernel_rfl, rfl, fun _ => ⟨rfl, rfl⟩, fun h => (by cases h)⟩
def ti43 : TI := ⟨1, [.int .u64 0], .int .u64, false⟩
theorem tiok43 : TIok Tryd.prog 43 ti43 := ⟨⟨_, Tryd.underlying43, rfl⟩, by kernel_rfl, rfl, fun _ => ⟨rfl, rfl⟩, fun h => (by cases h)⟩
def ti45 : TI := ⟨1, [.nilFunc], .other, false⟩
theorem tiok45 : TIok Tryd.prog 45 ti45 := ⟨⟨_, Tryd.underlying45, fun _ h => (by cases h), fun _ _ h => (by cases h)⟩, by kernel_rfl, rfl, fun _ => ⟨rfl, rfl⟩, fun h => (by cases h)⟩
def ti46 : TI := ⟨1, [.nilFunc], .other, false⟩
theorem tiok46 : TIok Tryd.prog 46 ti46 := ⟨⟨_, Tryd.underlying46, fun _ h => (by cases h), fun _ _ h => (by cases h)⟩, by kernel_rfl, rfl, fun _ => ⟨rfl, rfl⟩, fun h => (by cases h)⟩
def ti48 : TI := ⟨1, [.nilFunc], .other, false⟩
theorem tiok48 : TIok Tryd.prog 48 ti48 := ⟨⟨_, Tryd.underlying48, fun _ h => (by cases h), fun _ _ h => (by cases h)⟩, by kernel_rfl, rfl, fun _ => ⟨rfl, rfl⟩, fun h => (by cases h)⟩
def ti49 : TI := ⟨1, [.nilFunc], .other, false⟩
theorem tiok49 : TIok Tryd.prog 49 ti49 := ⟨⟨_, Tryd.underlying49, fun _ h => (by cases h), fun _ _ h => (by cases h)⟩, by kernel_rfl, rfl, fun _ => ⟨rfl, rfl⟩, fun h => (by cases h)⟩
def ti50 : TI := ⟨1, [.nilFunc], .other, false⟩
theorem tiok50 : TIok Tryd.prog 50 ti50 := ⟨⟨_, Tryd.underlying50, fun _ h => (by cases h), fun _ _ h => (by cases h)⟩, by kernel_rfl, rfl, fun _ => ⟨rfl, rfl⟩, fun h => (by cases h)⟩
def ti53 : TI := ⟨1, [.nilFunc], .other, false⟩
theorem tiok53 : TIok Tryd.prog 53 ti53 := ⟨⟨_, Tryd.underlying53, fun _ h => (by cases h), fun _ _ h => (by cases h)⟩, by kernel_rfl, rfl, fun _ => ⟨rfl, rfl⟩, fun h => (by cases h)⟩
def ti54 : TI := ⟨1, [.nilFunc], .other, false⟩
theorem tiok54 : TIok Tryd.prog 54 ti54 := ⟨⟨_, Tryd.underlying54, fun _ h => (by cases h), fun _ _ h => (by cases h)⟩, by kernel_rfl, rfl, fun _ => ⟨rfl, rfl⟩, fun h => (by cases h)⟩
def ti55 : TI := ⟨1, [.nilFunc], .other, false⟩
theorem tiok55 : TIok Tryd.prog 55 ti55 := ⟨⟨_, Tryd.underlying55, fun _ h => (by cases h), fun _ _ h => (by cases h)⟩, by kernel_rfl, rfl, fun _ => ⟨rfl, rfl⟩, fun h => (by cases h)⟩
def ti56 : TI := ⟨1, [.nilFunc], .other, false⟩
theorem tiok56 : TIok Tryd.prog 56 ti56 := ⟨⟨_, Tryd.underlying56, fun _ h => (by cases h), fun _ _ h => (by cases h)⟩, by kernel_rfl, rfl, fun _ => ⟨rfl, rfl⟩, fun h => (by cases h)⟩
def ti57 : TI := ⟨1, [.nilFunc], .other, false⟩
theorem tiok57 : TIok Tryd.prog 57 ti57 := ⟨⟨_, Tryd.underlying57, fun _ h => (by cases h), fun _ _ h => (by cases h)⟩, by kernel_rfl, rfl, fun _ => ⟨rfl, rfl⟩, fun h => (by cases h)⟩
def ti59 : TI := ⟨1, [.nilFunc], .other, false⟩
theorem tiok59 : TIok Tryd.prog 59 ti59 := ⟨⟨_, Tryd.underlying59, fun _ h => (by cases h), fun _ _ h => (by cases h)⟩, by kernel_rfl, rfl, fun _ => ⟨rfl, rfl⟩, fun h => (by cases h)⟩
def ti60 : TI := ⟨1, [.nilFunc], .other, false⟩
theorem tiok60 : TIok Tryd.prog 60 ti60 := ⟨⟨_, Tryd.underlying60, fun _ h => (by cases h), fun _ _ h => (by cases h)⟩, by kernel_rfl, rfl, fun _ => ⟨rfl, rfl⟩, fun h => (by cases h)⟩
def ti61 : TI := ⟨1, [.nilFunc], .other, false⟩
theorem tiok61 : TIok Tryd.prog 61 ti61 := ⟨⟨_, Tryd.underlying61, fun _ h => (by cases h), fun _ _ h => (by cases h)⟩, by kernel_rfl, rfl, fun _ => ⟨rfl, rfl⟩, fun h => (by cases h)⟩
def ti62 : TI := ⟨1, [.nilFunc], .other, false⟩
theorem tiok62 : TIok Tryd.prog 62 ti62 := ⟨⟨_, Tryd.underlying62, fun _ h => (by cases h), fun _ _ h => (by cases h)⟩, by kernel_rfl, rfl, fun _ => ⟨rfl, rfl⟩, fun h => (by cases h)⟩
def ti63 : TI := ⟨1, [.nilFunc], .other, false⟩
theorem tiok63 : TIok Tryd.prog 63 ti63 := ⟨⟨_, Tryd.underlying63, fun _ h => (by cases h), fun _ _ h => (by cases h)⟩, by kernel_rfl, rfl, fun _ => ⟨rfl, rfl⟩, fun h => (by cases h)⟩
def ti64 : TI := ⟨1, [.nilFunc], .other, false⟩
theorem tiok64 : TIok Tryd.prog 64 ti64 := ⟨⟨_, Tryd.underlying64, fun _ h => (by cases h), fun _ _ h => (by cases h)⟩, by kernel_rfl, rfl, fun _ => ⟨rfl, rfl⟩, fun h => (by cases h)⟩
def ti65 : TI := ⟨1, [.nilFunc], .other, false⟩
theorem tiok65 : TIok Tryd.prog 65 ti65 := ⟨⟨_, Tryd.underlying65, fun _ h => (by cases h), fun _ _ h => (by cases h)⟩, by kernel_rfl, rfl, fun _ => ⟨rfl, rfl⟩, fun h => (by cases h)⟩
def ti67 : TI := ⟨1, [.nilFunc], .other, false⟩
theorem tiok67 : TIok Tryd.prog 67 ti67 := ⟨⟨_, Tryd.underlying67, fun _ h => (by cases h), fun _ _ h => (by cases h)⟩, by kernel_rfl, rfl, fun _ => ⟨rfl, rfl⟩, fun h => (by cases h)⟩
def ti68 : TI := ⟨1, [.nilFunc], .other, false⟩
theorem tiok68 : TIok Tryd.prog 68 ti68 := ⟨⟨_, Tryd.underlying68, fun _ h => (by cases h), fun _ _ h => (by cases h)⟩, by kernel_rfl, rfl, fun _ => ⟨rfl, rfl⟩, fun h => (by cases h)⟩
def ti74 : TI := ⟨1, [.nilFunc], .other, false⟩
theorem tiok74 : TIok Tryd.prog 74 ti74 := ⟨⟨_, Tryd.underlying74, fun _ h => (by cases h), fun _ _ h => (by cases h)⟩, by kernel_rfl, rfl, fun _ => ⟨rfl, rfl⟩, fun h => (by cases h)⟩
def ti75 : TI := ⟨1, [.nilFunc], .other, false⟩
theorem tiok75 : TIok Tryd.prog 75 ti75 := ⟨⟨_, Tryd.underlying75, fun _ h => (by cases h), fun _ _ h => (by cases h)⟩, by kernel_rfl, rfl, fun _ => ⟨rfl, rfl⟩, fun h => (by cases h)⟩
def ti78 : TI := ⟨1, [.nilFunc], .other, false⟩
theorem tiok78 : TIok Tryd.prog 78 ti78 := ⟨⟨_, Tryd.underlying78, fun _ h => (by cases h), fun _ _ h => (by cases h)⟩, by kernel_rfl, rfl, fun _ => ⟨rfl, rfl⟩, fun h => (by cases h)⟩
def ti81 : TI := ⟨1, [.nilFunc], .other, false⟩
theorem tiok81 : TIok Tryd.prog 81 ti81 := ⟨⟨_, Tryd.underlying81, fun _ h => (by cases h), fun _ _ h => (by cases h)⟩, by kernel_rfl, rfl, fun _ => ⟨rfl, rfl⟩, fun h => (by cases h)⟩
def ti82 : TI := ⟨1, [.nilFunc], .other, false⟩
theorem tiok82 : TIok Tryd.prog 82 ti82 := ⟨⟨_, Tryd.underlying82, fun _ h => (by cases h), fun _ _ h => (by cases h)⟩, by kernel_rfl, rfl, fun _ => ⟨rfl, rfl⟩, fun h => (by cases h)⟩
def ti83 : TI := ⟨1, [.nilFunc], .other, false⟩
theorem tiok83 : TIok Tryd.prog 83 ti83 := ⟨⟨_, Tryd.underlying83, fun _ h => (by cases h), fun _ _ h => (by cases h)⟩, by kernel_rfl, rfl, fun _ => ⟨rfl, rfl⟩, fun h => (by cases h)⟩
def ti84 : TI := ⟨1, [.nilFunc], .other, false⟩
theorem tiok84 : TIok Tryd.prog 84 ti84 := ⟨⟨_, Tryd.underlying84, fun _ h => (by cases h), fun _ _ h => (by cases h)⟩, by kernel_rfl, rfl, fun _ => ⟨rfl, rfl⟩, fun h => (by cases h)⟩
def ti85 : TI := ⟨1, [.nilFunc], .other, false⟩
theorem tiok85 : TIok Tryd.prog 85 ti85 := ⟨⟨_, Tryd.underlying85, fun _ h => (by cases h), fun _ _ h => (by cases h)⟩, by kernel_rfl, rfl, fun _ => ⟨rfl, rfl⟩, fun h => (by cases h)⟩
def ti86 : TI := ⟨1, [.nilFunc], .other, false⟩
theorem tiok86 : TIok Tryd.prog 86 ti86 := ⟨⟨_, Tryd.underlying86, fun _ h => (by cases h), fun _ _ h => (by cases h)⟩, by kernel_rfl, rfl, fun _ => ⟨rfl, rfl⟩, fun h => (by cases h)⟩
def ti87 : TI := ⟨1, [.nilFunc], .other, false⟩
theorem tiok87 : TIok Tryd.prog 87 ti87 := ⟨⟨_, Tryd.underlying87, fun _ h => (by cases h), fun _ _ h => (by cases h)⟩, by kernel_rfl, rfl, fun _ => ⟨rfl, rfl⟩, fun h => (by cases h)⟩
def ti88 : TI := ⟨1, [.nilFunc], .other, false⟩
theorem tiok88 : TIok Tryd.prog 88 ti88 := ⟨⟨_, Tryd.underlying88, fun _ h => (by cases h), fun _ _ h => (by cases h)⟩, by kernel_rfl, rfl, fun _ => ⟨rfl, rfl⟩, fun h => (by cases h)⟩
def ti89 : TI := ⟨1, [.nilFunc], .other, false⟩
theorem tiok89 : TIok Tryd.prog 89 ti89 := ⟨⟨_, Tryd.underlying89, fun _ h => (by cases h), fun _ _ h => (by cases h)⟩, by kernel_rfl, rfl, fun _ => ⟨rfl, rfl⟩, fun h => (by cases h)⟩
def ti90 : TI := ⟨1, [.pointer none], .other, false⟩
theorem tiok90 : TIok Tryd.prog 90 ti90 := ⟨⟨_, Tryd.underlying90, fun _ h => (by cases h), fun _ _ h => (by cases h)⟩, by kernel_rfl, rfl, fun _ => ⟨rfl, rfl⟩, fun h => (by cases h)⟩
def ti94 : TI := ⟨1, [.nilFunc], .other, false⟩
theorem tiok94 : TIok Tryd.prog 94 ti94 := ⟨⟨_, Tryd.underlying94, fun _ h => (by cases h), fun _ _ h => (by cases h)⟩, by kernel_rfl, rfl, fun _ => ⟨rfl, rfl⟩, fun h => (by cases h)⟩
def ti95 : TI := ⟨1, [.nilIface], .other, false⟩
theorem tiok95 : TIok Tryd.prog 95 ti95 := ⟨⟨_, Tryd.underlying95, fun _ h => (by cases h), fun _ _ h => (by cases h)⟩, by kernel_rfl, rfl, fun _ => ⟨rfl, rfl⟩, fun h => (by cases h)⟩
def ti96 : TI := ⟨1, [.nilIface], .other, false⟩
theorem tiok96 : TIok Tryd.prog 96 ti96 := ⟨⟨_, Tryd.underlying96, fun _ h => (by cases h), fun _ _ h => (by cases h)⟩, by kernel_rfl, rfl, fun _ => ⟨rfl, rfl⟩, fun h => (by cases h)⟩
def ti98 : TI := ⟨1, [.nilFunc], .other, false⟩
theorem tiok98 : TIok Tryd.prog 98 ti98 := ⟨⟨_, Tryd.underlying98, fun _ h => (by cases h), fun _ _ h => (by cases h)⟩, by kernel_rfl, rfl, fun _ => ⟨rfl, rfl⟩, fun h => (by cases h)⟩
def ti99 : TI := ⟨1, [.nilFunc], .other, false⟩
theorem tiok99 : TIok Tryd.prog 99 ti99 := ⟨⟨_, Tryd.underlying99, fun _ h => (by cases h), fun _ _ h => (by cases h)⟩, by kernel_rfl, rfl, fun _ => ⟨rfl, rfl⟩, fun h => (by cases h)⟩
def ti100 : TI := ⟨1, [.nilFunc], .other, false⟩
theorem tiok100 : TIok Tryd.prog 100 ti100 := ⟨⟨_, Tryd.underlying100, fun _ h => (by cases h), fun _ _ h => (by cases h)⟩, by kernel_rfl, rfl, fun _ => ⟨rfl, rfl⟩, fun h => (by cases h)⟩
def ti101 : TI := ⟨1, [.nilFunc], .other, false⟩
theorem tiok101 : TIok Tryd.prog 101 ti101 := ⟨⟨_, Tryd.underlying101, fun _ h => (by cases h), fun _ _ h => (by cases h)⟩, by kernel_rfl, rfl, fun _ => ⟨rfl, rfl⟩, fun h => (by cases h)⟩
def ti103 : TI := ⟨1, [.nilFunc], .other, false⟩
theorem tiok103 : TIok Tryd.prog 103 ti103 := ⟨⟨_, Tryd.underlying103, fun _ h => (by cases h), fun _ _ h => (by cases h)⟩, by kernel_rfl, rfl, fun _ => ⟨rfl, rfl⟩, fun h => (by cases h)⟩
def ti109 : TI := ⟨1, [.nilFunc], .other, false⟩
theorem tiok109 : TIok Tryd.prog 109 ti109 := ⟨⟨_, Tryd.underlying109, fun _ h => (by cases h), fun _ _ h => (by cases h)⟩, by kernel_rfl, rfl, fun _ => ⟨rfl, rfl⟩, fun h => (by cases h)⟩
def ti110 : TI := ⟨1, [.nilFunc], .other, false⟩
theorem tiok110 : TIok Tryd.prog 110 ti110 := ⟨⟨_, Tryd.underlying110, fun _ h => (by cases h), fun _ _ h => (by cases h)⟩, by kernel_rfl, rfl, fun _ => ⟨rfl, rfl⟩, fun h => (by cases h)⟩
def ti112 : TI := ⟨1, [.nilFunc], .other, false⟩
theorem tiok112 : TIok Tryd.prog 112 ti112 := ⟨⟨_, Tryd.underlying112, fun _ h => (by cases h), fun _ _ h => (by cases h)⟩, by kernel_rfl, rfl, fun _ => ⟨rfl, rfl⟩, fun h => (by cases h)⟩
def ti116 : TI := ⟨1, [.nilFunc], .other, false⟩
theorem tiok116 : TIok Tryd.prog 116 ti116 := ⟨⟨_, Tryd.underlying116, fun _ h => (by cases h), fun _ _ h => (by cases h)⟩, by kernel_rfl, rfl, fun _ => ⟨rfl, rfl⟩, fun h => (by cases h)⟩
def ti117 : TI := ⟨1, [.pointer none], .other, false⟩
theorem tiok117 : TIok Tryd.prog 117 ti117 := ⟨⟨_, Tryd.underlying117, fun _ h => (by cases h), fun _ _ h => (by cases h)⟩, by kernel_rfl, rfl, fun _ => ⟨rfl, rfl⟩, fun h => (by cases h)⟩
def ti118 : TI := ⟨1, [.nilFunc], .other, false⟩
theorem tiok118 : TIok Tryd.prog 118 ti118 := ⟨⟨_, Tryd.underlying118, fun _ h => (by cases h), fun _ _ h => (by cases h)⟩, by kernel_rfl, rfl, fun _ => ⟨rfl, rfl⟩, fun h => (by cases h)⟩
def ti121 : TI := ⟨1, [.nilFunc], .other, false⟩
theorem tiok121 : TIok Tryd.prog 121 ti121 := ⟨⟨_, Tryd.underlying121, fun _ h => (by cases h), fun _ _ h => (by cases h)⟩, by kernel_rfl, rfl, fun _ => ⟨rfl, rfl⟩, fun h => (by cases h)⟩
def ti124 : TI := ⟨1, [.nilFunc], .other, false⟩
theorem tiok124 : TIok Tryd.prog 124 ti124 := ⟨⟨_, Tryd.underlying124, fun _ h => (by cases h), fun _ _ h => (by cases h)⟩, by kernel_rfl, rfl, fun _ => ⟨rfl, rfl⟩, fun h => (by cases h)⟩
def ti125 : TI := ⟨1, [.nilFunc], .other, false⟩
theorem tiok125 : TIok Tryd.prog 125 ti125 := ⟨⟨_, Tryd.underlying125, fun _ h => (by cases h), fun _ _ h => (by cases h)⟩, by kernel_rfl, rfl, fun _ => ⟨rfl, rfl⟩, fun h => (by cases h)⟩
def ti126 : TI := ⟨1, [.nilFunc], .other, false⟩
theorem tiok126 : TIok Tryd.prog 126 ti126 := ⟨⟨_, Tryd.underlying126, fun _ h => (by cases h), fun _ _ h => (by cases h)⟩, by kernel_rfl, rfl, fun _ => ⟨rfl, rfl⟩, fun h => (by cases h)⟩
def ti129 : TI := ⟨1, [.nilFunc], .other, false⟩
theorem tiok129 : TIok Tryd.prog 129 ti129 := ⟨⟨_, Tryd.underlying129, fun _ h => (by cases h), fun _ _ h => (by cases h)⟩, by kernel_rfl, rfl, fun _ => ⟨rfl, rfl⟩, fun h => (by cases h)⟩
def ti130 : TI := ⟨1, [.nilFunc], .other, false⟩
theorem tiok130 : TIok Tryd.prog 130 ti130 := ⟨⟨_, Tryd.underlying130, fun _ h => (by cases h), fun _ _ h => (by cases h)⟩, by kernel_rfl, rfl, fun _ => ⟨rfl, rfl⟩, fun h => (by cases h)⟩
def ti131 : TI := ⟨1, [.nilFunc], .other, false⟩
theorem tiok131 : TIok Tryd.prog 131 ti131 := ⟨⟨_, Tryd.underlying131, fun _ h => (by cases h), fun _ _ h => (by cases h)⟩, by kernel_rfl, rfl, fun _ => ⟨rfl, rfl⟩, fun h => (by cases h)⟩
def ti132 : TI := ⟨1, [.nilFunc], .other, false⟩
theorem tiok132 : TIok Tryd.prog 132 ti132 := ⟨⟨_, Tryd.underlying132, fun _ h => (by cases h), fun _ _ h => (by cases h)⟩, by kernel_rfl, rfl, fun _ => ⟨rfl, rfl⟩, fun h => (by cases h)⟩
def ti133 : TI := ⟨1, [.pointer none], .other, false⟩
theorem tiok133 : TIok Tryd.prog 133 ti133 := ⟨⟨_, Tryd.underlying133, fun _ h => (by cases h), fun _ _ h => (by cases h)⟩, by kernel_rfl, rfl, fun _ => ⟨rfl, rfl⟩, fun h => (by cases h)⟩
def ti135 : TI := ⟨1, [.nilFunc], .other, false⟩
theorem tiok135 : TIok Tryd.prog 135 ti135 := ⟨⟨_, Tryd.underlying135, fun _ h => (by cases h), fun _ _ h => (by cases h)⟩, by kernel_rfl, rfl, fun _ => ⟨rfl, rfl⟩, fun h => (by cases h)⟩
def ti138 : TI := ⟨1, [.nilFunc], .other, false⟩
theorem tiok138 : TIok Tryd.prog 138 ti138 := ⟨⟨_, Tryd.underlying138, fun _ h => (by cases h), fun _ _ h => (by cases h)⟩, by kernel_rfl, rfl, fun _ => ⟨rfl, rfl⟩, fun h => (by cases h)⟩
def ti139 : TI := ⟨1, [.nilFunc], .other, false⟩
theorem tiok139 : TIok Tryd.prog 139 ti139 := ⟨⟨_, Tryd.underlying139, fun _ h => (by cases h), fun _ _ h => (by cases h)⟩, by kernel_rfl, rfl, fun _ => ⟨rfl, rfl⟩, fun h => (by cases h)⟩
def ti140 : TI := ⟨1, [.nilFunc], .other, false⟩
theorem tiok140 : TIok Tryd.prog 140 ti140 := ⟨⟨_, Tryd.underlying140, fun _ h => (by cases h), fun _ _ h => (by cases h)⟩, by kernel_rfl, rfl, fun _ => ⟨rfl, rfl⟩, fun h => (by cases h)⟩
def ti141 : TI := ⟨1, [.nilFunc], .other, false⟩
theorem tiok141 : TIok Tryd.prog 141 ti141 := ⟨⟨_, Tryd.underlying141, fun _ h => (by cases h), fun _ _ h => (by cases h)⟩, by kernel_rfl, rfl, fun _ => ⟨rfl, rfl⟩, fun h => (by cases h)⟩
def ti142 : TI := ⟨1, [.nilFunc], .other, false⟩
theorem tiok142 : TIok Tryd.prog 142 ti142 := ⟨⟨_, Tryd.underlying142, fun _ h => (by cases h), fun _ _ h => (by cases h)⟩, by kernel_rfl, rfl, fun _ => ⟨rfl, rfl⟩, fun h => (by cases h)⟩
def ti144 : TI := ⟨1, [.nilFunc], .other, false⟩
theorem tiok144 : TIok Tryd.prog 144 ti144 := ⟨⟨_, Tryd.underlying144, fun _ h => (by cases h), fun _ _ h => (by cases h)⟩, by kernel_rfl, rfl, fun _ => ⟨rfl, rfl⟩, fun h => (by cases h)⟩
def ti145 : TI := ⟨1, [.nilFunc], .other, false⟩
theorem tiok145 : TIok Tryd.prog 145 ti145 := ⟨⟨_, Tryd.underlying145, fun _ h => (by cases h), fun _ _ h => (by cases h)⟩, by kernel_rfl, rfl, fun _ => ⟨rfl, rfl⟩, fun h => (by cases h)⟩
def ti147 : TI := ⟨1, [.nilFunc], .other, false⟩
theorem tiok147 : TIok Tryd.prog 147 ti147 := ⟨⟨_, Tryd.underlying147, fun _ h => (by cases h), fun _ _ h => (by cases h)⟩, by kernel_rfl, rfl, fun _ => ⟨rfl, rfl⟩, fun h => (by cases h)⟩
def ti148 : TI := ⟨1, [.nilFunc], .other, false⟩
theorem tiok148 : TIok Tryd.prog 148 ti148 := ⟨⟨_, Tryd.underlying148, fun _ h => (by cases h), fun _ _ h => (by cases h)⟩, by kernel_rfl, rfl, fun _ => ⟨rfl, rfl⟩, fun h => (by cases h)⟩
def ti149 : TI := ⟨1, [.nilFunc], .other, false⟩
theorem tiok149 : TIok Tryd.prog 149 ti149 := ⟨⟨_, Tryd.underlying149, fun _ h => (by cases h), fun _ _ h => (by cases h)⟩, by kernel_rfl, rfl, fun _ => ⟨rfl, rfl⟩, fun h => (by cases h)⟩
def ti150 : TI := ⟨1, [.nilFunc], .other, false⟩
theorem tiok150 : TIok Tryd.prog 150 ti150 := ⟨⟨_, Tryd.underlying150, fun _ h => (by cases h), fun _ _ h => (by cases h)⟩, by kernel_rfl, rfl, fun _ => ⟨rfl, rfl⟩, fun h => (by cases h)⟩
def ti151 : TI := ⟨1, [.nilFunc], .other, false⟩
theorem tiok151 : TIok Tryd.prog 151 ti151 := ⟨⟨_, Tryd.underlying151, fun _ h => (by cases h), fun _ _ h => (by cases h)⟩, by kernel_rfl, rfl, fun _ => ⟨rfl, rfl⟩, fun h => (by cases h)⟩
def ti152 : TI := ⟨1, [.nilFunc], .other, false⟩
theorem tiok152 : TIok Tryd.prog 152 ti152 := ⟨⟨_, Tryd.underlying152, fun _ h => (by cases h), fun _ _ h => (by cases h)⟩, by kernel_rfl, rfl, fun _ => ⟨rfl, rfl⟩, fun h => (by cases h)⟩
def ti153 : TI := ⟨1, [.int .u64 0], .int .u64, false⟩
theorem tiok153 : TIok Tryd.prog 153 ti153 := ⟨⟨_, Tryd.underlying153, rfl⟩, by kernel_rfl, rfl, fun _ => ⟨rfl, rfl⟩, fun h => (by cases h)⟩
def ti154 : TI := ⟨1, [.pointer none], .other, false⟩
theorem tiok154 : TIok Tryd.prog 154 ti154 := ⟨⟨_, Tryd.underlying154, fun _ h => (by cases h), fun _ _ h => (by cases h)⟩, by kernel_rfl, rfl, fun _ => ⟨rfl, rfl⟩, fun h => (by cases h)⟩
def ti157 : TI := ⟨1, [.pointer none], .other, false⟩
theorem tiok157 : TIok Tryd.prog 157 ti157 := ⟨⟨_, Tryd.underlying157, fun _ h => (by cases h), fun _ _ h => (by cases h)⟩, by kernel_rfl, rfl, fun _ => ⟨rfl, rfl⟩, fun h => (by cases h)⟩
def ti158 : TI := ⟨1, [.nilFunc], .other, false⟩
theorem tiok158 : TIok Tryd.prog 158 ti158 := ⟨⟨_, Tryd.underlying158, fun _ h => (by cases h), fun _ _ h => (by cases h)⟩, by kernel_rfl, rfl, fun _ => ⟨rfl, rfl⟩, fun h => (by cases h)⟩
def ti159 : TI := ⟨1, [.nilFunc], .other, false⟩
theorem tiok159 : TIok Tryd.prog 159 ti159 := ⟨⟨_, Tryd.underlying159, fun _ h => (by cases h), fun _ _ h => (by cases h)⟩, by kernel_rfl, rfl, fun _ => ⟨rfl, rfl⟩, fun h => (by cases h)⟩
def ti160 : TI := ⟨1, [.nilFunc], .other, false⟩
theorem tiok160 : TIok Tryd.prog 160 ti160 := ⟨⟨_, Tryd.underlying160, fun _ h => (by cases h), fun _ _ h => (by cases h)⟩, by kernel_rfl, rfl, fun _ => ⟨rfl, rfl⟩, fun h => (by cases h)⟩
def ti161 : TI := ⟨1, [.nilFunc], .other, false⟩
theorem tiok161 : TIok Tryd.prog 161 ti161 := ⟨⟨_, Tryd.underlying161, fun _ h => (by cases h), fun _ _ h => (by cases h)⟩, by kernel_rfl, rfl, fun _ => ⟨rfl, rfl⟩, fun h => (by cases h)⟩
def ti162 : TI := ⟨1, [.nilFunc], .other, false⟩
theorem tiok162 : TIok Tryd.prog 162 ti162 := ⟨⟨_, Tryd.underlying162, fun _ h => (by cases h), fun _ _ h => (by cases h)⟩, by kernel_rfl, rfl, fun _ => ⟨rfl, rfl⟩, fun h => (by cases h)⟩
def ti163 : TI := ⟨1, [.nilFunc], .other, false⟩
theorem tiok163 : TIok Tryd.prog 163 ti163 := ⟨⟨_, Tryd.underlying163, fun _ h => (by cases h), fun _ _ h => (by cases h)⟩, by kernel_rfl, rfl, fun _ => ⟨rfl, rfl⟩, fun h => (by cases h)⟩
def ti166 : TI := ⟨1, [.nilFunc], .other, false⟩
theorem tiok166 : TIok Tryd.prog 166 ti166 := ⟨⟨_, Tryd.underlying166, fun _ h => (by cases h), fun _ _ h => (by cases h)⟩, by kernel_rfl, rfl, fun _ => ⟨rfl, rfl⟩, fun h => (by cases h)⟩
def ti168 : TI := ⟨1, [.nilFunc], .other, false⟩
theorem tiok168 : TIok Tryd.prog 168 ti168 := ⟨⟨_, Tryd.underlying168, fun _ h => (by cases h), fun _ _ h => (by cases h)⟩, by kernel_rfl, rfl, fun _ => ⟨rfl, rfl⟩, fun h => (by cases h)⟩
def ti169 : TI := ⟨1, [.nilFunc], .other, false⟩
theorem tiok169 : TIok Tryd.prog 169 ti169 := ⟨⟨_, Tryd.underlying169, fun _ h => (by cases h), fun _ _ h => (by cases h)⟩, by kernel_rfl, rfl, fun _ => ⟨rfl, rfl⟩, fun h => (by cases h)⟩
def ti171 : TI := ⟨1, [.nilFunc], .other, false⟩
theorem tiok171 : TIok Tryd.prog 171 ti171 := ⟨⟨_, Tryd.underlying171, fun _ h => (by cases h), fun _ _ h => (by cases h)⟩, by kernel_rfl, rfl, fun _ => ⟨rfl, rfl⟩, fun h => (by cases h)⟩
def ti172 : TI := ⟨1, [.nilFunc], .other, false⟩
theorem tiok172 : TIok Tryd.prog 172 ti172 := ⟨⟨_, Tryd.underlying172, fun _ h => (by cases h), fun _ _ h => (by cases h)⟩, by kernel_rfl, rfl, fun _ => ⟨rfl, rfl⟩, fun h => (by cases h)⟩
def ti173 : TI := ⟨1, [.pointer none], .other, false⟩
theorem tiok173 : TIok Tryd.prog 173 ti173 := ⟨⟨_, Tryd.underlying173, fun _ h => (by cases h), fun _ _ h => (by cases h)⟩, by kernel_rfl, rfl, fun _ => ⟨rfl, rfl⟩, fun h => (by cases h)⟩
def ti174 : TI := ⟨1, [.nilFunc], .other, false⟩
theorem tiok174 : TIok Tryd.prog 174 ti174 := ⟨⟨_, Tryd.underlying174, fun _ h => (by cases h), fun _ _ h => (by cases h)⟩, by kernel_rfl, rfl, fun _ => ⟨rfl, rfl⟩, fun h => (by cases h)⟩
def ti175 : TI := ⟨1, [.nilFunc], .other, false⟩
theorem tiok175 : TIok Tryd.prog 175 ti175 := ⟨⟨_, Tryd.underlying175, fun _ h => (by cases h), fun _ _ h => (by cases h)⟩, by kernel_rfl, rfl, fun _ => ⟨rfl, rfl⟩, fun h => (by cases h)⟩
def ti176 : TI := ⟨1, [.nilFunc], .other, false⟩
theorem tiok176 : TIok Tryd.prog 176 ti176 := ⟨⟨_, Tryd.underlying176, fun _ h => (by cases h), fun _ _ h => (by cases h)⟩, by kernel_rfl, rfl, fun _ => ⟨rfl, rfl⟩, fun h => (by cases h)⟩
def ti177 : TI := ⟨1, [.nilFunc], .other, false⟩
theorem tiok177 : TIok Tryd.prog 177 ti177 := ⟨⟨_, Tryd.underlying177, fun _ h => (by cases h), fun _ _ h => (by cases h)⟩, by kernel_rfl, rfl, fun _ => ⟨rfl, rfl⟩, fun h => (by cases h)⟩
def ti178 : TI := ⟨1, [.nilFunc], .other, false⟩
theorem tiok178 : TIok Tryd.prog 178 ti178 := ⟨⟨_, Tryd.underlying178, fun _ h => (by cases h), fun _ _ h => (by cases h)⟩, by kernel_rfl, rfl, fun _ => ⟨rfl, rfl⟩, fun h => (by cases h)⟩
def ti179 : TI := ⟨1, [.nilFunc], .other, false⟩
theorem tiok179 : TIok Tryd.prog 179 ti179 := ⟨⟨_, Tryd.underlying179, fun _ h => (by cases h), fun _ _ h => (by cases h)⟩, by kernel_rfl, rfl, fun _ => ⟨rfl, rfl⟩, fun h => (by cases h)⟩
def ti181 : TI := ⟨1, [.nilFunc], .other, false⟩
theorem tiok181 : TIok Tryd.prog 181 ti181 := ⟨⟨_, Tryd.underlying181, fun _ h => (by cases h), fun _ _ h => (by cases h)⟩, by kernel_rfl, rfl, fun _ => ⟨rfl, rfl⟩, fun h => (by cases h)⟩
def ti183 : TI := ⟨36, [.string ⟨#[]⟩, .int .i64 0, .string ⟨#[]⟩, .int .i64 0, .string ⟨#[]⟩, .int .i64 0, .string ⟨#[]⟩, .int .i64 0, .string ⟨#[]⟩, .int .i64 0, .string ⟨#[]⟩, .int .i64 0, .string ⟨#[]⟩, .int .i64 0, .string ⟨#[]⟩, .int .i64 0, .string ⟨#[]⟩, .int .i64 0, .string ⟨#[]⟩, .int .i64 0, .string ⟨#[]⟩, .int .i64 0, .string ⟨#[]⟩, .int .i64 0, .string ⟨#[]⟩, .int .i64 0, .string ⟨#[]⟩, .int .i64 0, .string ⟨#[]⟩, .int .i64 0, .string ⟨#[]⟩, .int .i64 0, .string ⟨#[]⟩, .int .i64 0, .string ⟨#[]⟩, .int .i64 0], .arr 18 182, false⟩
theorem tiok183 : TIok Tryd.prog 183 ti183 := ⟨⟨_, Tryd.underlying183, rfl⟩, by kernel_rfl, rfl, fun h => (by cases h), fun h => (by cases h)⟩
def ti184 : TI := ⟨1, [.nilFunc], .other, false⟩
theorem tiok184 : TIok Tryd.prog 184 ti184 := ⟨⟨_, Tryd.underlying184, fun _ h => (by cases h), fun _ _ h => (by cases h)⟩, by kernel_rfl, rfl, fun _ => ⟨rfl, rfl⟩, fun h => (by cases h)⟩
def ti185 : TI := ⟨1, [.nilFunc], .other, false⟩
theorem tiok185 : TIok Tryd.prog 185 ti185 := ⟨⟨_, Tryd.underlying185, fun _ h => (by cases h), fun _ _ h => (by cases h)⟩, by kernel_rfl, rfl, fun _ => ⟨rfl, rfl⟩, fun h => (by cases h)⟩
def ti186 : TI := ⟨1, [.nilFunc], .other, false⟩
theorem tiok186 : TIok Tryd.prog 186 ti186 := ⟨⟨_, Tryd.underlying186, fun _ h => (by cases h), fun _ _ h => (by cases h)⟩, by kernel_rfl, rfl, fun _ => ⟨rfl, rfl⟩, fun h => (by cases h)⟩
def ti187 : TI := ⟨1, [.nilFunc], .other, false⟩
theorem tiok187 : TIok Tryd.prog 187 ti187 := ⟨⟨_, Tryd.underlying187, fun _ h => (by cases h), fun _ _ h => (by cases h)⟩, by kernel_rfl, rfl, fun _ => ⟨rfl, rfl⟩, fun h => (by cases h)⟩
def ti188 : TI := ⟨1, [.nilFunc], .other, false⟩
theorem tiok188 : TIok Tryd.prog 188 ti188 := ⟨⟨_, Tryd.underlying188, fun _ h => (by cases h), fun _ _ h => (by cases h)⟩, by kernel_rfl, rfl, fun _ => ⟨rfl, rfl⟩, fun h => (by cases h)⟩
def ti189 : TI := ⟨1, [.nilFunc], .other, false⟩
theorem tiok189 : TIok Tryd.prog 189 ti189 := ⟨⟨_, Tryd.underlying189, fun _ h => (by cases h), fun _ _ h => (by cases h)⟩, by kernel_rfl, rfl, fun _ => ⟨rfl, rfl⟩, fun h => (by cases h)⟩
def ti190 : TI := ⟨1, [.nilFunc], .other, false⟩
theorem tiok190 : TIok Tryd.prog 190 ti190 := ⟨⟨_, Tryd.underlying190, fun _ h => (by cases h), fun _ _ h => (by cases h)⟩, by kernel_rfl, rfl, fun _ => ⟨rfl, rfl⟩, fun h => (by cases h)⟩
def ti191 : TI := ⟨1, [.nilFunc], .other, false⟩
theorem tiok191 : TIok Tryd.prog 191 ti191 := ⟨⟨_, Tryd.underlying191, fun _ h => (by cases h), fun _ _ h => (by cases h)⟩, by kernel_rfl, rfl, fun _ => ⟨rfl, rfl⟩, fun h => (by cases h)⟩
def ti192 : TI := ⟨1, [.nilFunc], .other, false⟩
theorem tiok192 : TIok Tryd.prog 192 ti192 := ⟨⟨_, Tryd.underlying192, fun _ h => (by cases h), fun _ _ h => (by cases h)⟩, by kernel_rfl, rfl, fun _ => ⟨rfl, rfl⟩, fun h => (by cases h)⟩
def ti193 : TI := ⟨1, [.nilFunc], .other, false⟩
theorem tiok193 : TIok Tryd.prog 193 ti193 := ⟨⟨_, Tryd.underlying193, fun _ h => (by cases h), fun _ _ h => (by cases h)⟩, by kernel_rfl, rfl, fun _ => ⟨rfl, rfl⟩, fun h => (by cases h)⟩
def ti195 : TI := ⟨1, [.nilFunc], .other, false⟩
theorem tiok195 : TIok Tryd.prog 195 ti195 := ⟨⟨_, Tryd.underlying195, fun _ h => (by cases h), fun _ _ h => (by cases h)⟩, by kernel_rfl, rfl, fun _ => ⟨rfl, rfl⟩, fun h => (by cases h)⟩
def ti196 : TI := ⟨1, [.nilFunc], .other, false⟩
theorem tiok196 : TIok Tryd.prog 196 ti196 := ⟨⟨_, Tryd.underlying196, fun _ h => (by cases h), fun _ _ h => (by cases h)⟩, by kernel_rfl, rfl, fun _ => ⟨rfl, rfl⟩, fun h => (by cases h)⟩
def ti200 : TI := ⟨32, [.int .u8 0, .int .u8 0, .int .u8 0, .int .u8 0, .int .u8 0, .int .u8 0, .int .u8 0, .int .u8 0, .int .u8 0, .int .u8 0, .int .u8 0, .int .u8 0, .int .u8 0, .int .u8 0, .int .u8 0, .int .u8 0, .int .u8 0, .int .u8 0, .int .u8 0, .int .u8 0, .int .u8 0, .int .u8 0, .int .u8 0, .int .u8 0, .int .u8 0, .int .u8 0, .int .u8 0, .int .u8 0, .int .u8 0, .int .u8 0, .int .u8 0, .int .u8 0], .arr 16 199, false⟩
theorem tiok200 : TIok Tryd.prog 200 ti200 := ⟨⟨_, Tryd.underlying200, rfl⟩, by kernel_rfl, rfl, fun h => (by cases h), fun h => (by cases h)⟩
def ti201 : TI := ⟨1, [.int .u32 0], .int .u32, false⟩
theorem tiok201 : TIok Tryd.prog 201 ti201 := ⟨⟨_, Tryd.underlying201, rfl⟩, by kernel_rfl, rfl, fun _ => ⟨rfl, rfl⟩, fun h => (by cases h)⟩
def ti203 : TI := ⟨1, [.nilFunc], .other, false⟩
theorem tiok203 : TIok Tryd.prog 203 ti203 := ⟨⟨_, Tryd.underlying203, fun _ h => (by cases h), fun _ _ h => (by cases h)⟩, by kernel_rfl, rfl, fun _ => ⟨rfl, rfl⟩, fun h => (by cases h)⟩
def ti204 : TI := ⟨1, [.nilFunc], .other, false⟩
theorem tiok204 : TIok Tryd.prog 204 ti204 := ⟨⟨_, Tryd.underlying204, fun _ h => (by cases h), fun _ _ h => (by cases h)⟩, by kernel_rfl, rfl, fun _ => ⟨rfl, rfl⟩, fun h => (by cases h)⟩
def ti212 : TI := ⟨1, [.nilFunc], .other, false⟩
theorem tiok212 : TIok Tryd.prog 212 ti212 := ⟨⟨_, Tryd.underlying212, fun _ h => (by cases h), fun _ _ h => (by cases h)⟩, by kernel_rfl, rfl, fun _ => ⟨rfl, rfl⟩, fun h => (by cases h)⟩
def ti213 : TI := ⟨1, [.int .i32 0], .int .i32, false⟩
theorem tiok213 : TIok Tryd.prog 213 ti213 := ⟨⟨_, Tryd.underlying213, rfl⟩, by kernel_rfl, rfl, fun _ => ⟨rfl, rfl⟩, fun h => (by cases h)⟩
def ti214 : TI := ⟨1, [.int .i32 0], .int .i32, false⟩
theorem tiok214 : TIok Tryd.prog 214 ti214 := ⟨⟨_, Tryd.underlying214, rfl⟩, by kernel_rfl, rfl, fun _ => ⟨rfl, rfl⟩, fun h => (by cases h)⟩
def tt : TT := [(2, ti2), (3, ti3), (4, ti4), (5, ti5), (6, ti6), (9, ti9), (10, ti10), (11, ti11), (24, ti24), (210, ti210), (211, ti211), (7, ti7), (8, ti8), (13, ti13), (14, ti14), (18, ti18), (19, ti19), (23, ti23), (31, ti31), (41, ti41), (47, ti47), (51, ti51), (52, ti52), (69, ti69), (70, ti70), (71, ti71), (72, ti72), (73, ti73), (76, ti76), (77, ti77), (79, ti79), (91, ti91), (92, ti92), (93, ti93), (104, ti104), (105, ti105), (106, ti106), (107, ti107), (113, ti113), (114, ti114), (115, ti115), (119, ti119), (122, ti122), (123, ti123), (127, ti127), (128, ti128), (136, ti136), (155, ti155), (156, ti156), (164, ti164), (165, ti165), (182, ti182), (198, ti198), (199, ti199), (205, ti205), (206, ti206), (215, ti215), (216, ti216), (1, ti1), (12, ti12), (15, ti15), (16, ti16), (17, ti17), (20, ti20), (21, ti21), (22, ti22), (26, ti26), (28, ti28), (29, ti29), (30, ti30), (33, ti33), (35, ti35), (36, ti36), (37, ti37), (38, ti38), (39, ti39), (40, ti40), (42, ti42), (43, ti43), (45, ti45), (46, ti46), (48, ti48), (49, ti49), (50, ti50), (53, ti53), (54, ti54), (55, ti55), (56, ti56), (57, ti57), (59, ti59), (60, ti60), (61, ti61), (62, ti62), (63, ti63), (64, ti64), (65, ti65), (67, ti67), (68, ti68), (74, ti74), (75, ti75), (78, ti78), (81, ti81), (82, ti82), (83, ti83), (84, ti84), (85, ti85), (86, ti86), (87, ti87), (88, ti88), (89, ti89), (90, ti90), (94, ti94), (95, ti95), (96, ti96), (98, ti98), (99, ti99), (100, ti100), (101, ti101), (103, ti103), (109, ti109), (110, ti110), (112, ti112), (116, ti116), (117, ti117), (118, ti118), (121, ti121), (124, ti124), (125, ti125), (126, ti126), (129, ti129), (130, ti130), (131, ti131), (132, ti132), (133, ti133), (135, ti135), (138, ti138), (139, ti139), (140, ti140), (141, ti141), (142, ti142), (144, ti144), (145, ti145), (147, ti147), (148, ti148), (149, ti149), (150, ti150), (151, ti151), (152, ti152), (153, ti153), (154, ti154), (157, ti157), (158, ti158), (159, ti159), (160, ti160), (161, ti161), (162, ti162), (163, ti163), (166, ti166), (168, ti168), (169, ti169), (171, ti171), (172, ti172), (173, ti173), (174, ti174), (175, ti175), (176, ti176), (177, ti177), (178, ti178), (179, ti179), (181, ti181), (183, ti183), (184, ti184), (185, ti185), (186, ti186), (187, ti187), (188, ti188), (189, ti189), (190, ti190), (191, ti191), (192, ti192), (193, ti193), (195, ti195), (196, ti196), (200, ti200), (201, ti201), (203, ti203), (204, ti204), (212, ti212), (213, ti213), (214, ti214)]
theorem tt_ok : TOk Tryd.prog tt := TOk.cons tiok2 (TOk.cons tiok3 (TOk.cons tiok4 (TOk.cons tiok5 (TOk.cons tiok6 (TOk.cons tiok9 (TOk.cons tiok10 (TOk.cons tiok11 (TOk.cons tiok24 (TOk.cons tiok210 (TOk.cons tiok211 (TOk.cons tiok7 (TOk.cons tiok8 (TOk.cons tiok13 (TOk.cons tiok14 (TOk.cons tiok18 (TOk.cons tiok19 (TOk.cons tiok23 (TOk.cons tiok31 (TOk.cons tiok41 (TOk.cons tiok47 (TOk.cons tiok51 (TOk.cons tiok52 (TOk.cons tiok69 (TOk.cons tiok70 (TOk.cons tiok71 (TOk.cons tiok72 (TOk.cons tiok73 (TOk.cons tiok76 (TOk.cons tiok77 (TOk.cons tiok79 (TOk.cons tiok91 (TOk.cons tiok92 (TOk.cons tiok93 (TOk.cons tiok104 (TOk.cons tiok105 (TOk.cons tiok106 (TOk.cons tiok107 (TOk.cons tiok113 (TOk.cons tiok114 (TOk.cons tiok115 (TOk.cons tiok119 (TOk.cons tiok122 (TOk.cons tiok123 (TOk.cons tiok127 (TOk.cons tiok128 (TOk.cons tiok136 (TOk.cons tiok155 (TOk.cons tiok156 (TOk.cons tiok164 (TOk.cons tiok165 (TOk.cons tiok182 (TOk.cons tiok198 (TOk.cons tiok199 (TOk.cons tiok205 (TOk.cons tiok206 (TOk.cons tiok215 (TOk.cons tiok216 (TOk.cons tiok1 (TOk.cons tiok12 (TOk.cons tiok15 (TOk.cons tiok16 (TOk.cons tiok17 (TOk.cons tiok20 (TOk.cons tiok21 (TOk.cons tiok22 (TOk.cons tiok26 (TOk.cons tiok28 (TOk.cons tiok29 (TOk.cons tiok30 (TOk.cons tiok33 (TOk.cons tiok35 (TOk.cons tiok36 (TOk.cons tiok37 (TOk.cons tiok38 (TOk.cons tiok39 (TOk.cons tiok40 (TOk.cons tiok42 (TOk.cons tiok43 (TOk.cons tiok45 (TOk.cons tiok46 (TOk.cons tiok48 (TOk.cons tiok49 (TOk.cons tiok50 (TOk.cons tiok53 (TOk.cons tiok54 (TOk.cons tiok55 (TOk.cons tiok56 (TOk.cons tiok57 (TOk.cons tiok59 (TOk.cons tiok60 (TOk.cons tiok61 (TOk.cons tiok62 (TOk.cons tiok63 (TOk.cons tiok64 (TOk.cons tiok65 (TOk.cons tiok67 (TOk.cons tiok68 (TOk.cons tiok74 (TOk.cons tiok75 (TOk.cons tiok78 (TOk.cons tiok81 (TOk.cons tiok82 (TOk.cons tiok83 (TOk.cons tiok84 (TOk.cons tiok85 (TOk.cons tiok86 (TOk.cons tiok87 (TOk.cons tiok88 (TOk.cons tiok89 (TOk.cons tiok90 (TOk.cons tiok94 (TOk.cons tiok95 (TOk.cons tiok96 (TOk.cons tiok98 (TOk.cons tiok99 (TOk.cons tiok100 (TOk.cons tiok101 (TOk.cons tiok103 (TOk.cons tiok109 (TOk.cons tiok110 (TOk.cons tiok112 (TOk.cons tiok116 (TOk.cons tiok117 (TOk.cons tiok118 (TOk.cons tiok121 (TOk.cons tiok124 (TOk.cons tiok125 (TOk.cons tiok126 (TOk.cons tiok129 (TOk.cons tiok130 (TOk.cons tiok131 (TOk.cons tiok132 (TOk.cons tiok133 (TOk.cons tiok135 (TOk.cons tiok138 (TOk.cons tiok139 (TOk.cons tiok140 (TOk.cons tiok141 (TOk.cons tiok142 (TOk.cons tiok144 (TOk.cons tiok145 (TOk.cons tiok147 (TOk.cons tiok148 (TOk.cons tiok149 (TOk.cons tiok150 (TOk.cons tiok151 (TOk.cons tiok152 (TOk.cons tiok153 (TOk.cons tiok154 (TOk.cons tiok157 (TOk.cons tiok158 (TOk.cons tiok159 (TOk.cons tiok160 (TOk.cons tiok161 (TOk.cons tiok162 (TOk.cons tiok163 (TOk.cons tiok166 (TOk.cons tiok168 (TOk.cons tiok169 (TOk.cons tiok171 (TOk.cons tiok172 (TOk.cons tiok173 (TOk.cons tiok174 (TOk.cons tiok175 (TOk.cons tiok176 (TOk.cons tiok177 (TOk.cons tiok178 (TOk.cons tiok179 (TOk.cons tiok181 (TOk.cons tiok183 (TOk.cons tiok184 (TOk.cons tiok185 (TOk.cons tiok186 (TOk.cons tiok187 (TOk.cons tiok188 (TOk.cons tiok189 (TOk.cons tiok190 (TOk.cons tiok191 (TOk.cons tiok192 (TOk.cons tiok193 (TOk.cons tiok195 (TOk.cons tiok196 (TOk.cons tiok200 (TOk.cons tiok201 (TOk.cons tiok203 (TOk.cons tiok204 (TOk.cons tiok212 (TOk.cons tiok213 (TOk.cons tiok214 (TOk.nil _))))))))))))))))))))))))))))))))))))))))))))))))))))))))))))))))))))))))))))))))))))))))))))))))))))))))))))))))))))))))))))))))))))))))))))))))))))))))))))))))))))))))))))))))))))))))))))))
theorem fn11 : Fn1 Tryd.prog 11 := ⟨fun a w => run_callFunc Tryd.func11 rfl (by kernel_rfl) a w⟩
theorem fn12 : Fn1 Tryd.prog 12 := ⟨fun a w => run_callFunc Tryd.func12 rfl (by kernel_rfl) a w⟩
theorem fn13 : Fn1 Tryd.prog 13 := ⟨fun a w => run_callFunc Tryd.func13 rfl (by kernel_rfl) a w⟩
theorem fn16 : Fn1 Tryd.prog 16 := ⟨fun a w => run_callFunc Tryd.func16 rfl (by kernel_rfl) a w⟩
theorem fn18 : Fn1 Tryd.prog 18 := ⟨fun a w => run_callFunc Tryd.func18 rfl (by kernel_rfl) a w⟩
theorem fn22 : Fn1 Tryd.prog 22 := ⟨fun a w => run_callFunc Tryd.func22 rfl (by kernel_rfl) a w⟩
theorem fn23 : Fn1 Tryd.prog 23 := ⟨fun a w => run_callFunc Tryd.func23 rfl (by kernel_rfl) a w⟩
theorem fn34 : Fn1 Tryd.prog 34 := ⟨fun a w => run_callFunc Tryd.func34 rfl (by kernel_rfl) a w⟩
theorem fn35 : Fn1 Tryd.prog 35 := ⟨fun a w => run_callFunc Tryd.func35 rfl (by kernel_rfl) a w⟩
theorem fn36 : Fn1 Tryd.prog 36 := ⟨fun a w => run_callFunc Tryd.func36 rfl (by kernel_rfl) a w⟩
theorem fn37 : Fn1 Tryd.prog 37 := ⟨fun a w => run_callFunc Tryd.func37 rfl (by kernel_rfl) a w⟩
theorem fn38 : Fn1 Tryd.prog 38 := ⟨fun a w => run_callFunc Tryd.func38 rfl (by kernel_rfl) a w⟩
theorem fn39 : Fn1 Tryd.prog 39 := ⟨fun a w => run_callFunc Tryd.func39 rfl (by kernel_rfl) a w⟩
theorem fn53 : Fn1 Tryd.prog 53 := ⟨fun a w => run_callFunc Tryd.func53 rfl (by kernel_rfl) a w⟩
theorem fn54 : Fn1 Tryd.prog 54 := ⟨fun a w => run_callFunc Tryd.func54 rfl (by kernel_rfl) a w⟩
theorem fn56 : Fn1 Tryd.prog 56 := ⟨fun a w => run_callFunc Tryd.func56 rfl (by kernel_rfl) a w⟩
theorem fn57 : Fn1 Tryd.prog 57 := ⟨fun a w => run_callFunc Tryd.func57 rfl (by kernel_rfl) a w⟩
theorem fn58 : Fn1 Tryd.prog 58 := ⟨fun a w => run_callFunc Tryd.func58 rfl (by kernel_rfl) a w⟩
theorem fn60 : Fn1 Tryd.prog 60 := ⟨fun a w => run_callFunc Tryd.func60 rfl (by kernel_rfl) a w⟩
theorem fn61 : Fn1 Tryd.prog 61 := ⟨fun a w => run_callFunc Tryd.func61 rfl (by kernel_rfl) a w⟩
theorem fn62 : Fn1 Tryd.prog 62 := ⟨fun a w => run_callFunc Tryd.func62 rfl (by kernel_rfl) a w⟩
theorem fn63 : Fn1 Tryd.prog 63 := ⟨fun a w => run_callFunc Tryd.func63 rfl (by kernel_rfl) a w⟩
theorem fn64 : Fn1 Tryd.prog 64 := ⟨fun a w => run_callFunc Tryd.func64 rfl (by kernel_rfl) a w⟩
theorem fn74 : Fn1 Tryd.prog 74 := ⟨fun a w => run_callFunc Tryd.func74 rfl (by kernel_rfl) a w⟩
theorem fn75 : Fn1 Tryd.prog 75 := ⟨fun a w => run_callFunc Tryd.func75 rfl (by kernel_rfl) a w⟩
theorem fn78 : Fn1 Tryd.prog 78 := ⟨fun a w => run_callFunc Tryd.func78 rfl (by kernel_rfl) a w⟩
theorem fn79 : Fn1 Tryd.prog 79 := ⟨fun a w => run_callFunc Tryd.func79 rfl (by kernel_rfl) a w⟩
theorem fn80 : Fn1 Tryd.prog 80 := ⟨fun a w => run_callFunc Tryd.func80 rfl (by kernel_rfl) a w⟩
theorem fn81 : Fn1 Tryd.prog 81 := ⟨fun a w => run_callFunc Tryd.func81 rfl (by kernel_rfl) a w⟩
theorem fn82 : Fn1 Tryd.prog 82 := ⟨fun a w => run_callFunc Tryd.func82 rfl (by kernel_rfl) a w⟩
theorem fn83 : Fn1 Tryd.prog 83 := ⟨fun a w => run_callFunc Tryd.func83 rfl (by kernel_rfl) a w⟩
theorem fn84 : Fn1 Tryd.prog 84 := ⟨fun a w => run_callFunc Tryd.func84 rfl (by kernel_rfl) a w⟩
theorem fn100 : Fn1 Tryd.prog 100 := ⟨fun a w => run_callFunc Tryd.func100 rfl (by kernel_rfl) a w⟩
theorem fn110 : Fn1 Tryd.prog 110 := ⟨fun a w => run_callFunc Tryd.func110 rfl (by kernel_rfl) a w⟩
theorem fn111 : Fn1 Tryd.prog 111 := ⟨fun a w => run_callFunc Tryd.func111 rfl (by kernel_rfl) a w⟩
theorem fn112 : Fn1 Tryd.prog 112 := ⟨fun a w => run_callFunc Tryd.func112 rfl (by kernel_rfl) a w⟩
theorem fn113 : Fn1 Tryd.prog 113 := ⟨fun a w => run_callFunc Tryd.func113 rfl (by kernel_rfl) a w⟩
theorem fn134 : Fn1 Tryd.prog 134 := ⟨fun a w => run_callFunc Tryd.func134 rfl (by kernel_rfl) a w⟩
theorem fn135 : Fn1 Tryd.prog 135 := ⟨fun a w => run_callFunc Tryd.func135 rfl (by kernel_rfl) a w⟩
theorem fn149 : Fn1 Tryd.prog 149 := ⟨fun a w => run_callFunc Tryd.func149 rfl (by kernel_rfl) a w⟩
theorem fn150 : Fn1 Tryd.prog 150 := ⟨fun a w => run_callFunc Tryd.func150 rfl (by kernel_rfl) a w⟩
theorem fn151 : Fn1 Tryd.prog 151 := ⟨fun a w => run_callFunc Tryd.func151 rfl (by kernel_rfl) a w⟩
theorem fn152 : Fn1 Tryd.prog 152 := ⟨fun a w => run_callFunc Tryd.func152 rfl (by kernel_rfl) a w⟩
theorem fn159 : Fn1 Tryd.prog 159 := ⟨fun a w => run_callFunc Tryd.func159 rfl (by kernel_rfl) a w⟩
theorem fn160 : Fn1 Tryd.prog 160 := ⟨fun a w => run_callFunc Tryd.func160 rfl (by kernel_rfl) a w⟩
theorem fn161 : Fn1 Tryd.prog 161 := ⟨fun a w => run_callFunc Tryd.func161 rfl (by kernel_rfl) a w⟩
end Go.Proofs.YtnjmkeijjapejaaDoor
namespace Go.Proofs.YtnjmkeijjapejaaDoor
open Go.GV Go.RowKit
theorem mix : Tryd.prog.follows .mixedOrders = true := by kernel_rfl
theorem noEscape_run (x : Value) (w : World) : (callFunc 119 #[x]).run Tryd.prog w = .ok (.value x) w := by
  rw [run_callFunc_extern Tryd.func119 (by kernel_rfl) (by kernel_rfl) (by kernel_rfl) (e := Extern.AbiNoEscape.same) (by kernel_rfl)]
  rfl
def bAddr (used : Bool) : SV := match used with
  | true => .p 0 0
  | false => .v (.pointer none)
set_option maxRecDepth 100000 in
theorem copyCheck_sc (used : Bool) (L : List UInt8) : SC Tryd.prog 84 (fun _ => True) 2 [(0, .box 93 [bAddr used, .r 1]), (1, .row 5 (byteY.d L))] [.p 0 0] (fun _ : Unit => ([(0, .box 93 [.p 0 0, .r 1]), (1, .row 5 (byteY.d L))], 2, .tuple #[])) (fun _ => True) := by
  refine x_sc tt_ok Tryd.func84 rfl rfl rfl (by cases used <;> rfl) (fun u _ => ?_)
  cases used
  · refine x_vc tt_ok ?_
    refine xl_eqpNil rfl rfl rfl rfl (by kernel_rfl) rfl ?_
    refine xl_go tt_ok ?_
    refine x_ift rfl ?_
    refine xl_toUnsafe rfl rfl rfl rfl Tryd.underlying90 Tryd.underlying173 (by kernel_rfl) rfl rfl rfl ?_
    refine xl_go tt_ok ?_
    refine xl_extern1 rfl rfl rfl rfl rfl noEscape_run rfl ?_
    refine xl_go tt_ok ?_
    refine xl_fromUnsafe (n := 2) rfl rfl rfl rfl Tryd.underlying173 Tryd.underlying90 (by kernel_rfl) rfl rfl rfl (by kernel_rfl) ?_
    refine xl_go tt_ok ?_
    exact ⟨(), [], [], rfl, rfl, .of rfl rfl rfl rfl rfl rfl, of_decide_eq_true rfl, trivial⟩
  · refine x_vc tt_ok ?_
    refine xl_eqpSome rfl rfl rfl rfl (by kernel_rfl) rfl ?_
    refine xl_go tt_ok ?_
    refine x_iff rfl ?_
    refine xl_neqSelf rfl rfl rfl rfl Tryd.underlying90 (by kernel_rfl) rfl rfl ?_
    refine xl_go tt_ok ?_
    refine x_iff rfl ?_
    exact ⟨(), [], [], rfl, rfl, .of rfl rfl rfl rfl rfl rfl, of_decide_eq_true rfl, trivial⟩
set_option maxRecDepth 100000 in
theorem writeByte_sc (used : Bool) (L : List UInt8) (x : UInt8) (hL : L.length + 1 ≤ 140737488355328) :
    SC Tryd.prog 63 (fun _ => True) 2 [(0, .box 93 [bAddr used, .r 1]), (1, .row 5 (byteY.d L))] [.p 0 0, .v (.int .u8 (x.toNat : Int))]
      (fun _ : Unit => ([(0, .box 93 [.p 0 0, .r 2]), (2, .row 5 (byteY.d (L ++ [x])))], 3, .nilIface)) (fun _ => True) := by
  refine x_sc tt_ok Tryd.func63 rfl rfl rfl (by cases used <;> rfl) (fun u _ => ?_)
  refine x_vc tt_ok ?_
  refine xl_callSC (copyCheck_sc used L) (fun _ _ _ _ => trivial) trivial [0, 1] rfl rfl rfl rfl fn84 rfl rfl rfl rfl rfl (by cases used <;> rfl) (by cases used <;> rfl) (fun _ => rfl) (fun _ u1 hu1 _ => ?_)
  refine xl_go tt_ok ?_
  refine xl_push tt_ok byteY L x 1 (cs := [.int .u8 (x.toNat : Int)]) rfl rfl rfl rfl rfl rfl rfl rfl rfl rfl rfl rfl (by kernel_rfl) rfl rfl rfl rfl rfl (fun n hn => by cases hn; decide) rfl rfl rfl (by omega) (by omega) ?_
  refine xl_go tt_ok ?_
  exact ⟨(), [], [_], rfl, rfl, .of rfl rfl rfl rfl rfl rfl, of_decide_eq_true rfl, trivial⟩
set_option maxRecDepth 100000 in
theorem writeString_sc (used : Bool) (L : List UInt8) (x : ByteArray) (hL : L.length + x.size ≤ 140737488355328) :
    SC Tryd.prog 60 (fun _ => True) 2 [(0, .box 93 [bAddr used, .r 1]), (1, .row 5 (byteY.d L))] [.p 0 0, .v (.string x)]
      (fun _ : Unit => ([(0, .box 93 [.p 0 0, .r 2]), (2, .row 5 (byteY.d (L ++ x.data.toList)))], 3, .tuple #[.int .i64 x.size, .nilIface])) (fun _ => True) := by
  refine x_sc tt_ok Tryd.func60 rfl rfl rfl (by cases used <;> rfl) (fun u _ => ?_)
  refine x_vc tt_ok ?_
  refine xl_callSC (copyCheck_sc used L) (fun _ _ _ _ => trivial) trivial [0, 1] rfl rfl rfl rfl fn84 rfl rfl rfl rfl rfl (by cases used <;> rfl) (by cases used <;> rfl) (fun _ => rfl) (fun _ u1 hu1 _ => ?_)
  refine xl_go tt_ok ?_
  refine xl_appStr tt_ok L rfl rfl rfl rfl rfl rfl rfl (by kernel_rfl) rfl rfl rfl rfl hL ?_
  refine xl_go tt_ok ?_
  exact ⟨(), [], [_, _], rfl, rfl, .of rfl rfl rfl rfl rfl rfl, of_decide_eq_true rfl, trivial⟩
set_option maxRecDepth 100000 in
theorem len_sc (used : Bool) (L : List UInt8) : SC Tryd.prog 62 (fun _ => True) 2 [(0, .box 93 [bAddr used, .r 1]), (1, .row 5 (byteY.d L))] [.p 0 0]
      (fun _ : Unit => ([(0, .box 93 [bAddr used, .r 1]), (1, .row 5 (byteY.d L))], 2, .int .i64 L.length)) (fun _ => True) := by
  refine x_sc tt_ok Tryd.func62 rfl rfl rfl (by cases used <;> rfl) (fun u _ => ?_)
  refine x_vc tt_ok ?_
  cases used
  · exact ⟨(), [], [_], rfl, rfl, .of rfl rfl rfl rfl rfl rfl, of_decide_eq_true rfl, trivial⟩
  · exact ⟨(), [], [_], rfl, rfl, .of rfl rfl rfl rfl rfl rfl, of_decide_eq_true rfl, trivial⟩
end Go.Proofs.YtnjmkeijjapejaaDoor
