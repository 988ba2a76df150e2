/- Iterators that have captured boxes of their own (generic). -/
import Derived.Test.YtdonomneofdhfaaN11
namespace Go.GV
open Go.RowKit

/-- the function gf, that has captured boxes with these contents, yields xs, one after the other; the boxes are its own -/
def IterC (P : Program) (gf : Nat) (bx : List (TypeId × Value)) (xs : List Value) (u0 : Im) : Prop :=
  ∀ (bl : List Nat) (l : Nat) (Y : Nat → Wp u0) (Z : Wp u0) (w : World) (F : Nat → Prop), Rounds P l Y Z xs → Imm u0 w → (Y 0).h F w → (∀ b, F b → u0.h b = none) →
    bl.Nodup → bl.length = bx.length → (∀ j b : Nat, bl[j]? = some b → ¬ F b ∧ u0.h b = none ∧ ∃ p : TypeId × Value, bx[j]? = some p ∧ w.heap[b]? = some (.cells #[p.2] p.1 (0, 0))) →
    Calls P gf (#[.func (.yield l) #[] #[]] ++ (bl.map fun b => Value.pointer (some ⟨b, 0, none⟩)).toArray) w fun e w' => ∃ v F', e = .returned v ∧ ((Y xs.length).h F' w' ∨ Z.h F' w')

/-- boxes under the keys from k on -/
def ownBx : Nat → List (TypeId × Value) → Own
  | _, [] => []
  | k, p :: r => (k, .box p.1 [.v p.2]) :: ownBx (k + 1) r
theorem ownBx_look : ∀ {k : Nat} {bs : List (TypeId × Value)} {j : Nat} {r : Rs}, look (ownBx k bs) j = some r → k ≤ j ∧ ∃ p, bs[j - k]? = some p ∧ r = .box p.1 [.v p.2]
  | k, [], j, r, h => by cases h
  | k, p :: t, j, r, h => by
    simp only [ownBx] at h
    rw [look_cons] at h
    split at h
    · rename_i e; subst e; cases h; exact ⟨Nat.le_refl _, p, by simp, rfl⟩
    · obtain ⟨h1, q, h2, h3⟩ := ownBx_look h
      refine ⟨by omega, q, ?_, h3⟩
      rw [show j - k = (j - (k + 1)) + 1 by omega, List.getElem?_cons_succ]; exact h2
theorem ownBx_none : ∀ {k : Nat} {bs : List (TypeId × Value)} {j : Nat}, look (ownBx k bs) j = none → j < k ∨ k + bs.length ≤ j
  | k, [], j, h => by simp; omega
  | k, p :: t, j, h => by
    simp only [ownBx] at h
    rw [look_cons] at h
    split at h
    · cases h
    · have := ownBx_none h
      simp only [List.length_cons]; omega

def ptrsFrom (n : Nat) : List SV := (List.range n).map fun j => .p (j + 1) 0

/-- an iterator's contract, out of its body's walk: the boxes lie under the keys 1, 2 .. -/
theorem x_iterC {T : TT} {P : Program} (hT : TOk P T) {gf N : Nat} {fn : Func} {c : Code} (hf : P.funcs[gf]? = some fn) (hb : fn.body = some c) (hN : fn.ntmps = N)
    {bx : List (TypeId × Value)} {xs : List Value} {u0 : Im} (hle : Nat.ble (bx.length + 1) N = true)
    (h : ∀ l (Y : Nat → Wp u0) (Z : Wp u0) u, u0.ext u → Rounds P l Y Z xs → X ⟨P, none, N⟩ c (FinQ T fn.results.toList fun _ st _ => look st.ow 0 = some (.gen (Y xs.length).hp) ∨ look st.ow 0 = some (.gen Z.hp))
      ⟨knOf 0 (.v (.func (.yield l) #[] #[]) :: ptrsFrom bx.length), [], (0, .gen (Y 0).hp) :: ownBx 1 bx, bx.length + 1⟩ u) : IterC P gf bx xs u0 := by
  classical
  intro bl l Y Z w F hR himm hY0 hoff hnd hlen hbs
  let E : Env := fun k => match bl[k - 1]? with | some b => .pointer (some ⟨b, 0, none⟩) | none => undef
  have hE : ∀ j b, bl[j]? = some b → E (j + 1) = .pointer (some ⟨b, 0, none⟩) := fun j b hj => by
    show (match bl[j + 1 - 1]? with | some b => _ | none => _) = _
    rw [Nat.add_sub_cancel, hj]
  -- all but F and the boxes is known to stay
  let v : Im := { h := fun b => if F b ∨ b ∈ bl then none else w.heap[b]?, os := w.os, tape := w.tape, output := w.output, lo := w.heap.size }
  have hv : ∀ b, ¬ F b → b ∉ bl → v.h b = w.heap[b]? := fun b hb hb2 => by show (if F b ∨ b ∈ bl then none else w.heap[b]?) = _; rw [if_neg (fun hh => hh.elim hb hb2)]
  have hvF : ∀ b, F b ∨ b ∈ bl → v.h b = none := fun b hb => by show (if F b ∨ b ∈ bl then none else w.heap[b]?) = _; rw [if_pos hb]
  have hbu : ∀ b ∈ bl, ¬ F b ∧ u0.h b = none := fun b hb => by
    obtain ⟨j, hj⟩ := List.getElem?_of_mem hb
    exact ⟨(hbs j b hj).1, (hbs j b hj).2.1⟩
  have huv : u0.ext v := ⟨fun b o ho => by rw [hv b (fun hF => by rw [hoff b hF] at ho; cases ho) (fun hF => by rw [(hbu b hF).2] at ho; cases ho)]; exact himm.h b o ho, himm.os, himm.tape, himm.output, himm.lo⟩
  have himmv : Imm v w := ⟨fun b o ho => by
    by_cases hb : F b ∨ b ∈ bl
    · rw [hvF b hb] at ho; cases ho
    · rw [hv b (fun h => hb (.inl h)) (fun h => hb (.inr h))] at ho; exact ho, rfl, rfl, rfl, Nat.le_refl _⟩
  let f : Nat → Nat → Prop := fun k b => (k = 0 ∧ F b) ∨ ∃ j, k = j + 1 ∧ bl[j]? = some b
  have hf0 : f 0 = F := funext fun b => propext ⟨fun h => by
    rcases h with h | ⟨j, h, _⟩
    · exact h.2
    · omega, fun h => .inl ⟨rfl, h⟩⟩
  have hsat : Sat E ((0, .gen (Y 0).hp) :: ownBx 1 bx) (bx.length + 1) v [] w f := by
    refine ⟨fun k r hl => ?_, fun k hl b hb => ?_, fun k k' b hne h1 h2 => ?_, fun k b hb => ?_, fun k r hl => ?_, himmv, [], rfl, List.nodup_nil, fun d hd => by cases hd⟩
    · rw [look_cons] at hl
      split at hl
      · rename_i e; subst e; cases hl
        show (Y 0).hp.h v (f 0) w
        rw [hf0]
        exact ⟨hY0, huv⟩
      · obtain ⟨h1, p, h2, rfl⟩ := ownBx_look hl
        have h3 : k - 1 < bl.length := by rw [hlen]; exact (List.getElem?_eq_some_iff.1 h2).1
        have h4 := List.getElem?_eq_getElem h3
        obtain ⟨q1, q2, q, q3, q4⟩ := hbs (k - 1) _ h4
        rw [h2] at q3; cases q3
        refine ⟨bl[k - 1], ?_, fun x => ⟨fun hx => ?_, fun hx => ?_⟩, ?_⟩
        · have := hE (k - 1) _ h4
          rw [show k - 1 + 1 = k by omega] at this; exact this
        · rcases hx with hx | ⟨j, hj, hx⟩
          · omega
          · have h7 : bl[k - 1]? = some x := by rw [hj]; simpa using hx
            exact Option.some.inj (h7.symm.trans h4)
        · subst hx
          exact .inr ⟨k - 1, by omega, h4⟩
        · simpa [SV.den] using q4
    · rw [look_cons] at hl
      split at hl
      · cases hl
      · rename_i e
        rcases hb with hb | ⟨j, rfl, hb⟩
        · exact e hb.1.symm
        · have h1 := ownBx_none hl
          have h2 := (List.getElem?_eq_some_iff.1 hb).1
          omega
    · rcases h1 with h1 | ⟨j, rfl, h1⟩
      · rcases h2 with h2 | ⟨j, rfl, h2⟩
        · exact hne (h1.1.trans h2.1.symm)
        · exact (hbs j b h2).1 h1.2
      · rcases h2 with h2 | ⟨i, rfl, h2⟩
        · exact (hbs j b h1).1 h2.2
        · obtain ⟨a1, a2⟩ := List.getElem?_eq_some_iff.1 h1
          obtain ⟨b1, b2⟩ := List.getElem?_eq_some_iff.1 h2
          have := (List.getElem?_inj a1 hnd).1 (h1.trans h2.symm)
          omega
    · rcases hb with hb | ⟨j, _, hb⟩
      · exact hvF b (.inl hb.2)
      · exact hvF b (.inr (List.mem_of_getElem? hb))
    · rw [look_cons] at hl
      split at hl
      · rename_i e; subst e; cases hl; exact ⟨Nat.succ_pos _, trivial⟩
      · obtain ⟨h1, p, h2, rfl⟩ := ownBx_look hl
        have := (List.getElem?_eq_some_iff.1 h2).1
        exact ⟨by omega, fun s hs => by rw [List.mem_singleton.1 hs]; trivial⟩
  refine (callsIn_wide (n := 0)).1 (callsIn_of_wp_marks hf hb trivial ?_ rfl)
  have hle' : bx.length + 1 ≤ N := Nat.le_of_ble_eq_true hle
  have hpl : (ptrsFrom bx.length).length = bx.length := by simp [ptrsFrom]
  have hargs : (#[.func (.yield l) #[] #[]] ++ (bl.map fun b => Value.pointer (some ⟨b, 0, none⟩)).toArray : Array Value) = ((SV.v (.func (.yield l) #[] #[]) :: ptrsFrom bx.length).map (SV.den E)).toArray := by
    apply Array.ext'
    simp only [List.map_cons, SV.den, Array.toList_append]
    show _ :: (bl.map fun b => Value.pointer (some ⟨b, 0, none⟩)) = _ :: (ptrsFrom bx.length).map (SV.den E)
    congr 1
    refine List.ext_getElem (by simp [ptrsFrom, hlen]) fun j h1 h2 => ?_
    have h3 : j < bl.length := by simpa using h1
    have h4 := hE j _ (List.getElem?_eq_getElem h3)
    simp [ptrsFrom, SV.den, ptrOf, h4]
  rw [hargs]
  have hlt : ∀ s ∈ (SV.v (.func (.yield l) #[] #[]) :: ptrsFrom bx.length), s.lt E (bx.length + 1) := fun s hs => by
    rcases List.mem_cons.1 hs with rfl | hs
    · trivial
    · obtain ⟨j, hj, rfl⟩ := List.mem_map.1 hs
      have h1 : j < bx.length := List.mem_range.1 hj
      have h3 : j < bl.length := by omega
      exact ⟨by omega, _, hE j _ (List.getElem?_eq_getElem h3)⟩
  have hagr : Agr N E ⟨knOf 0 (SV.v (.func (.yield l) #[] #[]) :: ptrsFrom bx.length), [], (0, .gen (Y 0).hp) :: ownBx 1 bx, bx.length + 1⟩ (((SV.v (.func (.yield l) #[] #[]) :: ptrsFrom bx.length).map (SV.den E)).toArray ++ Array.replicate (fn.ntmps - (((SV.v (.func (.yield l) #[] #[]) :: ptrsFrom bx.length).map (SV.den E)).toArray).size) undef) := by
    refine ⟨?_, ?_, fun d g s h => (by cases h), ?_, fun d g s h => (by cases h)⟩
    · rw [hN]; simp [hpl]; omega
    · intro d s _ h2
      have h3 := (knOf_look h2).2
      rw [Nat.sub_zero] at h3
      have hd : d < (SV.v (.func (.yield l) #[] #[]) :: ptrsFrom bx.length).length := (List.getElem?_eq_some_iff.1 h3).1
      rw [Array.getElem?_append_left (by simpa using hd)]
      simp only [List.getElem?_toArray, List.getElem?_map, h3, Option.map_some]
    · intro d s h2
      exact hlt s (List.mem_of_getElem? (knOf_look h2).2)
  have hX := h l Y Z v huv hR
  unfold X at hX
  refine Go.wpIn_mono (hX E { tmps := ((SV.v (.func (.yield l) #[] #[]) :: ptrsFrom bx.length).map (SV.den E)).toArray ++ Array.replicate (fn.ntmps - (((SV.v (.func (.yield l) #[] #[]) :: ptrsFrom bx.length).map (SV.den E)).toArray).size) undef, defers := [] } w ⟨hagr, _, hsat⟩) ?_
  rintro e a' w' ⟨E', st', u', h1, h2, h3, hok', h5⟩
  obtain ⟨f', hs⟩ := hok'.sat
  have fin : ∀ lr, resV T st' fn.results.toList = some lr → (look st'.ow 0 = some (.gen (Y xs.length).hp) ∨ look st'.ow 0 = some (.gen Z.hp)) →
      LeavesInM (FR none) 0 P fn a'.tmps (fun e w' => ∃ v F', e = .returned v ∧ ((Y xs.length).h F' w' ∨ Z.h F' w')) a'.defers .returning w' := by
    intro lr hl hA
    obtain ⟨ds, hds, _⟩ := hs.marks
    rw [hds] at hs ⊢
    refine leaves (C := ⟨P, none, N⟩) hT hok'.agr hl (fun w'' hw => ?_) ds w' hs
    refine ⟨_, f' 0, rfl, ?_⟩
    rcases hA with hA | hA
    · exact .inl (hw.holds 0 _ hA).1
    · exact .inr (hw.holds 0 _ hA).1
  cases e with
  | normal =>
    simp only [FinQ] at h5
    split at h5
    · rename_i l hl; exact fin l hl h5
    · exact h5.elim
  | ret =>
    simp only [FinQ] at h5
    split at h5
    · rename_i l hl; exact fin l hl h5
    · exact h5.elim
  | exit id => exact h5.elim
  | goto l => exact h5.elim
  | panic c => exact h5.elim
  | outgrown => exact h5.elim

/-- boxes under these keys -/
def ownKs : List Nat → List (TypeId × Value) → Own
  | k :: ks, p :: r => (k, .box p.1 [.v p.2]) :: ownKs ks r
  | _, _ => []

theorem Sat.dropBoxes {E : Env} {o : Own} {nx : Nat} {u : Im} {df : List Deferred} {w : World} : ∀ {ks : List Nat} {bx : List (TypeId × Value)} {f : Nat → Nat → Prop}, Sat E (ownKs ks bx ++ o) nx u df w f →
    (∀ k ∈ ks, look o k = none) → ks.Nodup → ks.length = bx.length →
    ∃ (bl : List Nat) (f' : Nat → Nat → Prop), Sat E o nx u df w f' ∧ (∀ j c, f' j c → f j c) ∧ bl.Nodup ∧ bl.length = bx.length ∧
      (∀ j b : Nat, bl[j]? = some b → (∀ k, ¬ f' k b) ∧ u.h b = none ∧ (∃ k, ks[j]? = some k ∧ f k b ∧ E k = .pointer (some ⟨b, 0, none⟩)) ∧ ∃ p : TypeId × Value, bx[j]? = some p ∧ w.heap[b]? = some (.cells #[p.2] p.1 (0, 0)))
  | [], [], f, h, _, _, _ => ⟨[], f, h, fun _ _ h => h, List.nodup_nil, rfl, fun j b hj => by simp at hj⟩
  | [], _ :: _, _, _, _, _, h => by cases h
  | _ :: _, [], _, _, _, _, h => by cases h
  | k :: ks, p :: bx, f, h, hfr, hnd, hl => by
    have hl' : ks.length = bx.length := by simpa using hl
    obtain ⟨hk, hnd'⟩ := List.nodup_cons.1 hnd
    have hfree : look (ownKs ks bx ++ o) k = none := by
      have : ∀ {ks : List Nat} {bx : List (TypeId × Value)}, k ∉ ks → look o k = none → look (ownKs ks bx ++ o) k = none := by
        intro ks
        induction ks with
        | nil => intro bx _ h2; exact h2
        | cons a r ih =>
          intro bx h1 h2
          cases bx with
          | nil => exact h2
          | cons q t =>
            show look ((a, _) :: (ownKs r t ++ o)) k = none
            rw [look_cons, if_neg (fun e : a = k => h1 (by rw [e]; exact List.mem_cons_self ..))]
            exact ih (fun h => h1 (List.mem_cons_of_mem _ h)) h2
      exact this hk (hfr k (List.mem_cons_self ..))
    obtain ⟨b, hE, hF, hw⟩ := h.holds k (.box p.1 [.v p.2]) (by show look ((k, _) :: (ownKs ks bx ++ o)) k = _; rw [look_cons, if_pos rfl])
    have hs1 : Sat E (ownKs ks bx ++ o) nx u df w (fun j c => j ≠ k ∧ f j c) := Sat.dropK h hfree
    obtain ⟨bl, f', hs2, hsub, hn2, hl2, hb2⟩ := hs1.dropBoxes (fun j hj => hfr j (List.mem_cons_of_mem _ hj)) hnd' hl'
    have hkb : f k b := (hF b).2 rfl
    refine ⟨b :: bl, f', hs2, fun j c hj => (hsub j c hj).2, List.nodup_cons.2 ⟨fun hb => ?_, hn2⟩, by simp [hl2], fun j c hj => ?_⟩
    · obtain ⟨j, hj⟩ := List.getElem?_of_mem hb
      obtain ⟨_, _, ⟨k', _, hk', _⟩, _⟩ := hb2 j b hj
      exact h.apart k' k b hk'.1 hk'.2 hkb
    · cases j with
      | zero =>
        simp only [List.getElem?_cons_zero, Option.some.injEq] at hj
        subst hj
        exact ⟨fun j hj => h.apart j k b (hsub j b hj).1 (hsub j b hj).2 hkb, h.off k b hkb, ⟨k, rfl, hkb, hE⟩, p, rfl, by simpa [SV.den] using hw⟩
      | succ j =>
        rw [List.getElem?_cons_succ] at hj
        obtain ⟨h1, h2, ⟨k', h3, h4, h5⟩, h6⟩ := hb2 j c hj
        exact ⟨h1, h2, ⟨k', by rw [List.getElem?_cons_succ]; exact h3, h4.2, h5⟩, h6⟩

/-- the keys are there, each once, and not among the others -/
def ksB (nx : Nat) : List Nat → Own → Bool
  | [], _ => true
  | k :: r, o => Nat.blt k nx && (r.all (fun j => !(Nat.beq k j)) && ((look o k).isNone && ksB nx r o))
theorem ksB_ok {nx : Nat} {o : Own} : ∀ {ks : List Nat}, ksB nx ks o = true → ks.Nodup ∧ (∀ k ∈ ks, k < nx) ∧ ∀ k ∈ ks, look o k = none
  | [], _ => ⟨List.nodup_nil, fun k hk => (by cases hk), fun k hk => (by cases hk)⟩
  | k :: r, h => by
    simp only [ksB, Bool.and_eq_true] at h
    obtain ⟨h1, h2, h3, h4⟩ := h
    obtain ⟨i1, i2, i3⟩ := ksB_ok h4
    refine ⟨List.nodup_cons.2 ⟨fun hk => ?_, i1⟩, fun j hj => ?_, fun j hj => ?_⟩
    · have := List.all_eq_true.1 h2 k hk
      rw [Nat.beq_refl] at this
      cases this
    · rcases List.mem_cons.1 hj with rfl | hj
      · exact blt_lt h1
      · exact i2 j hj
    · rcases List.mem_cons.1 hj with rfl | hj
      · exact Option.isNone_iff_eq_none.1 h3
      · exact i3 j hj

/-- a range over a function that has captured boxes of its own; the boxes are gone behind it -/
theorem x_rangeC {σ τ : Type} {P : Program} {N : Nat} {g : Operand} {p : Nat} {asg body : Code} {Q : Post} {kn : Kn} {ow : Own} {nx : Nat} {u : Im} {gf : Nat} {ks : List Nat} {bx : List (TypeId × Value)} {xs : List Value}
    (hg : opd ⟨kn, [], ow, nx⟩ [] g = some (.clo gf ks)) (hfn : Fn1 P gf) (hit : IterC P gf bx xs u)
    (kn' : Kn) (hdo : σ → Own) (hdn : σ → Nat) (G : Nat → σ → Im → Prop) (hxo : τ → Own) (hxn : τ → Nat) (GX : τ → Exit → Im → Prop) (s0 : σ) (ρ0 : Ren)
    (h0 : Sub nx ρ0 ⟨kn, [], ow, nx⟩ ⟨kn', [], ownKs ks bx ++ hdo s0, hdn s0⟩) (g0 : G 0 s0 u) (hkn : kn'.all (fun x => x.2.inN nx) = true)
    (hkb : ksB nx ks (hdo s0) = true) (hkl : ks.length = bx.length)
    (hfree : ∀ s, look (hdo s) nx = none) (hfreex : ∀ t, look (hxo t) nx = none) (hnx : ∀ s, nx < hdn s) (hnxx : ∀ t, nx ≤ hxn t) (hp : Nat.blt p N = true)
    (hround : ∀ l k x s u' (Fr Fr' : Hp), xs[k]? = some x → u.le u' → G k s u' →
      X ⟨P, some l, N⟩ asg (onlyN fun st1 u1 => st1.gk = [] ∧ look st1.ow nx = some (.gen Fr) ∧ X ⟨P, some l, N⟩ body (RQ nx hdo hdn (G (k + 1)) hxo hxn GX Fr') ⟨st1.kn, [], (nx, .gen Fr') :: st1.ow, st1.nx⟩ u1)
        ⟨(p, .v x) :: kn', [], (nx, .gen Fr) :: hdo s, hdn s⟩ u')
    (hdone : ∀ s u', u.le u' → G xs.length s u' → Q .normal ⟨kn', [], hdo s, hdn s⟩ u')
    (hstop : ∀ t e u', u.le u' → GX t e u' → Q e ⟨kn', [], hxo t, hxn t⟩ u') : X ⟨P, none, N⟩ (.rangeFunc g #[p] asg body) Q ⟨kn, [], ow, nx⟩ u := by
  obtain ⟨hks, hknx, hfr0⟩ := ksB_ok hkb
  unfold X
  intro E a w hok
  obtain ⟨E1, hE1, hok1⟩ := h0.ok hok
  obtain ⟨f1, hs1⟩ := hok1.sat
  obtain ⟨bl, f0, hs0, _, hbn, hbl, hbs⟩ := hs1.dropBoxes (fun k hk => hfr0 k hk) hks hkl
  have hagr := hok1.agr
  have hgs : gs a.tmps [] := fun x hx => by cases hx
  obtain ⟨eg, _⟩ := opd_sound hok.agr hgs hg
  simp only [SV.den] at eg
  have hcaps : (ks.map fun k => ptrOf E k 0) = bl.map fun b => Value.pointer (some ⟨b, 0, none⟩) := by
    refine List.ext_getElem (by rw [List.length_map, List.length_map, hkl, hbl]) fun j h1 h2 => ?_
    rw [List.getElem_map, List.getElem_map]
    have h3 : j < bl.length := by simpa using h2
    obtain ⟨_, _, ⟨k, hk, _, hE⟩, _⟩ := hbs j bl[j] (List.getElem?_eq_getElem h3)
    have h4 : j < ks.length := by simpa using h1
    rw [List.getElem?_eq_getElem h4] at hk
    cases hk
    have h5 := hE1 ks[j] (hknx _ (List.getElem_mem h4))
    unfold ptrOf
    rw [← h5, hE]
  rw [hcaps] at eg
  obtain ⟨ds, hds, hnd, hm⟩ := hs0.marks
  refine wpIn_rangeFunc ?_
  intro fn _
  obtain ⟨D, hD⟩ : ∃ D, D = w.heap.size := ⟨_, rfl⟩
  obtain ⟨l, hl⟩ : ∃ l, l = w.heap.size + 1 := ⟨_, rfl⟩
  obtain ⟨W1, hW1⟩ : ∃ W1, W1 = (w.alloc (.deferred (some []))).alloc (.loop (recL fn a.tmps p asg body D .ready none)) := ⟨_, rfl⟩
  have hsz : W1.heap.size = w.heap.size + 2 := by rw [hW1, World.size_alloc, World.size_alloc]
  have hold : ∀ b, b < w.heap.size → W1.heap[b]? = w.heap[b]? := fun b hb => by
    rw [hW1, Below.heap_alloc _ _ _ (by rw [World.size_alloc]; omega), Below.heap_alloc _ _ _ hb]
  have hl1 : W1.heap[l]? = some (.loop (recL fn a.tmps p asg body D .ready none)) := by
    have := heap_alloc_new (w.alloc (.deferred (some []))) (.loop (recL fn a.tmps p asg body D .ready none))
    rw [World.size_alloc] at this
    rw [hW1, hl]; exact this
  have hD1 : W1.heap[D]? = some (.deferred (some [])) := by
    rw [hW1, hD, Below.heap_alloc _ _ _ (by rw [World.size_alloc]; omega)]
    exact heap_alloc_new w _
  have hult : ∀ b o, u.h b = some o → b < w.heap.size := fun b o ho => (Array.getElem?_eq_some_iff.1 (hs0.imm.h b o ho)).1
  have hflt : ∀ k b, f0 k b → b < w.heap.size := fun k b hb => hs0.fin hb
  have himm1 : Imm u W1 := ⟨fun b o ho => (hold b (hult b o ho)).trans (hs0.imm.h b o ho), by rw [hW1]; exact hs0.imm.os, by rw [hW1]; exact hs0.imm.tape, by rw [hW1]; exact hs0.imm.output, by rw [hsz]; exact Nat.le_trans hs0.imm.lo (by omega)⟩
  have hdlt : ∀ d ∈ ds, d < w.heap.size := fun d hd => (Array.getElem?_eq_some_iff.1 (hm d hd).1).1
  have hblt : ∀ b ∈ bl, b < w.heap.size := fun b hb => by
    obtain ⟨j, hj⟩ := List.getElem?_of_mem hb
    obtain ⟨_, _, _, p, _, h3⟩ := hbs j b hj
    exact (Array.getElem?_eq_some_iff.1 h3).1
  have hnone : ∀ b, w.heap.size ≤ b → u.h b = none := fun b hb => by
    cases ho : u.h b with
    | none => rfl
    | some o => have := hult b o ho; omega
  let F0 : Nat → Prop := fun b => (∃ j, f0 j b) ∨ b = l ∨ b ∈ D :: ds
  have hin0 : InL nx E1 u l (recL fn a.tmps p asg body D .ready none) (D :: ds) (hdo s0) (hdn s0) (G 0 s0) F0 W1 E1 f0 u := by
    refine ⟨g0, Im.le.refl u, fun _ _ => rfl, hs0.local (fun k b hb => hold b (hflt k b hb)) himm1 (by omega), hl1, fun d hd => ?_, hnone l (by omega), fun k hk => by have := hflt k l hk; omega, .inr (.inl rfl), fun b o ho => .inl ho, fun k b hb => .inl ⟨k, hb⟩, ?_⟩
    · rcases List.mem_cons.1 hd with rfl | hd'
      · exact ⟨hD1, hnone _ (by omega), fun k hk => by have := hflt k _ hk; omega, .inr (.inr hd)⟩
      · obtain ⟨h1, h2, h3⟩ := hm d hd'
        exact ⟨(hold d (hdlt d hd')).trans h1, h2, h3, .inr (.inr hd)⟩
    · rintro b (⟨j, hb⟩ | rfl | hb)
      · have := hflt j b hb; omega
      · omega
      · rcases List.mem_cons.1 hb with rfl | hb
        · omega
        · have := hdlt b hb; omega
  have hoff0 : ∀ b, F0 b → u.h b = none := by
    rintro b (⟨j, hb⟩ | rfl | hb)
    · exact hs0.off j b hb
    · exact hnone _ (by omega)
    · rcases List.mem_cons.1 hb with rfl | hb
      · exact hnone _ (by omega)
      · exact (hm b hb).2.1
  have hbF : ∀ j b : Nat, bl[j]? = some b → ¬ F0 b ∧ u.h b = none ∧ ∃ p : TypeId × Value, bx[j]? = some p ∧ W1.heap[b]? = some (.cells #[p.2] p.1 (0, 0)) := fun j b hj => by
    obtain ⟨h1, h2, _, p, h3, h4⟩ := hbs j b hj
    have hlt := hblt b (List.mem_of_getElem? hj)
    refine ⟨?_, h2, p, h3, (hold b hlt).trans h4⟩
    rintro (⟨k, hk⟩ | rfl | hb)
    · exact h1 k hk
    · omega
    · rcases List.mem_cons.1 hb with rfl | hb
      · omega
      · rw [(hm b hb).1] at h4; cases h4
  have hR := rounds_of (P := P) (N := N) (l := l) (keep := nx) (ue := u) (E0 := E1) (tm := a.tmps) (kn := kn') hagr hkn (D :: ds) fn p asg body D hdo hdn G hxo hxn GX hfree hfreex hnx (blt_lt hp) (xs := xs) (fun k x s u' Fr Fr' => hround l k x s u' Fr Fr')
  have hnd' : (D :: ds).Nodup := List.nodup_cons.2 ⟨fun h => by have := hdlt D h; omega, hnd⟩
  refine ⟨l, [{ target := .collected D, args := #[] }], W1, { target := .fn (.func gf) (bl.map fun b => Value.pointer (some ⟨b, 0, none⟩)).toArray, args := #[.func (.yield l) #[] #[]] }, W1, gf, #[.func (.yield l) #[] #[]] ++ (bl.map fun b => Value.pointer (some ⟨b, 0, none⟩)).toArray, W1, ?_, ?_, fun _ _ => trivial, ?_, fun h => (by cases h), ?_⟩
  · have := run_enterLoop_outer (P := P) (w := w) fn a.tmps #[p] asg body
    rw [hW1, hl, hD]; exact this
  · simp only [resolve, eg]
    simp [go_sem]
  · simp [invoke, go_sem, hfn.run]
  · refine (calls_in (hit bl l _ _ W1 F0 hR himm1 ⟨s0, E1, f0, u, hin0⟩ hoff0 hbn hbl hbF)).mono ?_
    -- behind the loop
    have fin : ∀ {rec : Loop} {ow' : Own} {nx' : Nat} {G' : Im → Prop} {F' : Nat → Prop} {w3 : World} {E' : Env} {f' : Nat → Nat → Prop} {uc : Im} (o : Obj), InL nx E1 u l rec (D :: ds) ow' nx' G' F' w3 E' f' uc → nx ≤ nx' →
        Ok ⟨P, none, N⟩ E' ⟨kn', [], ow', nx'⟩ uc { a with defers := [{ target := .collected D, args := #[] }] ++ a.defers } (w3.putObj l o) := by
      intro rec ow' nx' G' F' w3 E' f' uc o hI hn
      have hoth : ∀ b, b ≠ l → (w3.putObj l o).heap[b]? = w3.heap[b]? := fun b hb => World.putObj_heap_other hb
      have hsz3 : (w3.putObj l o).heap.size = w3.heap.size := by simp [World.putObj]
      have himm : Imm uc (w3.putObj l o) := ⟨fun b x hb => by rw [hoth b (fun e => by subst e; rw [hI.lu] at hb; cases hb)]; exact hI.sat.imm.h b x hb, hI.sat.imm.os, hI.sat.imm.tape, hI.sat.imm.output, by rw [hsz3]; exact hI.sat.imm.lo⟩
      have hs4 := hI.sat.local (w' := w3.putObj l o) (fun k b hb => hoth b (fun e => by subst e; exact hI.lf k hb)) himm (Nat.le_of_eq hsz3.symm)
      refine ⟨hagr.keepE hkn hI.env hn, f', hs4.holds, hs4.non, hs4.apart, hs4.off, hs4.lt, hs4.imm, D :: ds, ?_, hnd', fun d hd => ?_⟩
      · rw [hds]; rfl
      · obtain ⟨h1, h2, h3, _⟩ := hI.ml d hd
        refine ⟨?_, h2, h3⟩
        rw [hoth d (fun e => by rw [e, hI.loop] at h1; cases h1)]
        exact h1
    rintro e w3 ⟨v, F', rfl, hY | hZ⟩
    · obtain ⟨s, E', f', uc, hI⟩ := hY
      refine ⟨none, _, run_endLoop (P := P) hI.loop (by simp [recL]), ?_⟩
      exact ⟨E', _, uc, fun k hk => (hI.env k hk).trans (hE1 k hk), Nat.le_of_lt (hnx s), hI.le, fin _ hI (Nat.le_of_lt (hnx s)), hdone s uc hI.le hI.g⟩
    · obtain ⟨⟨t, cj⟩, E', f', uc, hI⟩ := hZ
      refine ⟨some cj, _, run_endLoop (P := P) hI.loop (by simp [recL]), ?_⟩
      obtain ⟨e, hj, hgx⟩ := hI.g
      have hq : SemQ ⟨P, none, N⟩ E nx u Q e { a with defers := [{ target := .collected D, args := #[] }] ++ a.defers } (w3.putObj l (.loop { recL fn a.tmps p asg body D .done (some cj) with state := .exhausted })) :=
        ⟨E', _, uc, fun k hk => (hI.env k hk).trans (hE1 k hk), hnxx t, hI.le, fin _ hI (hnxx t), hstop t e uc hI.le hgx⟩
      show cj.wpIn (FR none) 0 P (SemQ ⟨P, none, N⟩ E nx u Q) _ _
      cases e with
      | ret => cases hj; exact wpIn_ret hq
      | exit id => cases hj; exact wpIn_exit hq
      | goto t => cases hj; exact wpIn_goto hq
      | normal => cases hj
      | panic c => cases hj
      | outgrown => cases hj

/-! ### A call whose answer is a function that has captured new boxes -/
def ownAdd : Nat → List (TypeId × Value) → Own → Own
  | _, [], o => o
  | k, p :: r, o => ownAdd (k + 1) r ((k, .box p.1 [.v p.2]) :: o)
def keysFrom : Nat → Nat → List Nat
  | _, 0 => []
  | k, n + 1 => k :: keysFrom (k + 1) n

/-- a function that has captured boxes with these contents -/
def CloAt (u : Im) (v : Value) (gf : Nat) (bx : List (TypeId × Value)) : Prop :=
  ∃ bl : List Nat, v = .func (.func gf) #[] (bl.map fun b => Value.pointer (some ⟨b, 0, none⟩)).toArray ∧ bl.Nodup ∧ bl.length = bx.length ∧
    ∀ j b : Nat, bl[j]? = some b → ∃ p : TypeId × Value, bx[j]? = some p ∧ u.h b = some (.cells #[p.2] p.1 (0, 0))

theorem Sat.addBoxes {u : Im} {df : List Deferred} {w : World} : ∀ {bx : List (TypeId × Value)} {bl : List Nat} {E : Env} {o : Own} {nx : Nat} {f : Nat → Nat → Prop}, Sat E o nx u df w f → bl.Nodup → bl.length = bx.length →
    (∀ j b : Nat, bl[j]? = some b → (∀ k, ¬ f k b) ∧ u.h b = none ∧ ∃ p : TypeId × Value, bx[j]? = some p ∧ w.heap[b]? = some (.cells #[p.2] p.1 (0, 0))) →
    ∃ (E' : Env) (f' : Nat → Nat → Prop), (∀ k, k < nx → E' k = E k) ∧ (keysFrom nx bx.length).map E' = bl.map (fun b => Value.pointer (some ⟨b, 0, none⟩)) ∧ Sat E' (ownAdd nx bx o) (nx + bx.length) u df w f'
  | [], bl, E, o, nx, f, h, _, hl, _ => by
    have : bl = [] := List.eq_nil_of_length_eq_zero hl
    subst this
    exact ⟨E, f, fun _ _ => rfl, rfl, h⟩
  | p :: bx, [], E, o, nx, f, h, _, hl, _ => by cases hl
  | p :: bx, b :: bl, E, o, nx, f, h, hnd, hl, hb => by
    obtain ⟨hbn, hnd'⟩ := List.nodup_cons.1 hnd
    obtain ⟨hf, hu, q, hq, hw⟩ := hb 0 b rfl
    cases hq
    have hE : ∀ k, k < nx → upd E nx (.pointer (some ⟨b, 0, none⟩)) k = E k := fun k hk => upd_other _ _ (by omega)
    have hnone : look o nx = none := by
      cases hl : look o nx with
      | none => rfl
      | some r => have := (h.lt nx r hl).1; omega
    have hs : Sat (upd E nx (.pointer (some ⟨b, 0, none⟩))) ((nx, .box p.1 [.v p.2]) :: o) (nx + 1) u df w (upd f nx (fun c => c = b)) := by
      refine ⟨fun k r hl => ?_, fun k hl c hc => ?_, fun k k' c hne h1 h2 => ?_, fun k c hc => ?_, fun k r hl => ?_, h.imm, ?_⟩
      · rw [look_cons] at hl
        split at hl
        · rename_i e; subst e; cases hl
          refine ⟨b, upd_same .., fun x => by rw [upd_same], by simpa [SV.den] using hw⟩
        · rename_i e
          obtain ⟨h1, h2⟩ := h.lt k r hl
          rw [upd_other _ _ (by omega)]
          exact Rs.holds_congr hE h1 h2 (h.holds k r hl)
      · rw [look_cons] at hl
        split at hl
        · cases hl
        · rename_i e
          rw [upd_other _ _ (Ne.symm e)] at hc
          exact h.non k hl c hc
      · by_cases e : k = nx
        · subst e
          rw [upd_same] at h1
          rw [upd_other _ _ (Ne.symm hne)] at h2
          subst h1
          exact hf k' h2
        · rw [upd_other _ _ e] at h1
          by_cases e' : k' = nx
          · subst e'
            rw [upd_same] at h2
            subst h2
            exact hf k h1
          · rw [upd_other _ _ e'] at h2
            exact h.apart k k' c hne h1 h2
      · by_cases e : k = nx
        · subst e; rw [upd_same] at hc; subst hc; exact hu
        · rw [upd_other _ _ e] at hc; exact h.off k c hc
      · rw [look_cons] at hl
        split at hl
        · rename_i e; subst e; cases hl
          exact ⟨Nat.lt_succ_self _, fun s hs => by rw [List.mem_singleton.1 hs]; trivial⟩
        · obtain ⟨h1, h2⟩ := h.lt k r hl
          exact ⟨by omega, Rs.lt_mono hE (Nat.le_succ _) h2⟩
      · obtain ⟨ds, h1, h2, h3⟩ := h.marks
        refine ⟨ds, h1, h2, fun d hd => ⟨(h3 d hd).1, (h3 d hd).2.1, fun k hk => ?_⟩⟩
        by_cases e : k = nx
        · subst e; rw [upd_same] at hk; subst hk
          rw [(h3 d hd).1] at hw; cases hw
        · rw [upd_other _ _ e] at hk; exact (h3 d hd).2.2 k hk
    obtain ⟨E', f', h1, h2, h3⟩ := hs.addBoxes (bx := bx) (bl := bl) hnd' (by simpa using hl) (fun j c hj => by
      obtain ⟨a1, a2, a3⟩ := hb (j + 1) c (by rw [List.getElem?_cons_succ]; exact hj)
      rw [List.getElem?_cons_succ] at a3
      refine ⟨fun k hk => ?_, a2, a3⟩
      by_cases e : k = nx
      · subst e; rw [upd_same] at hk; subst hk
        exact hbn (List.mem_of_getElem? hj)
      · rw [upd_other _ _ e] at hk; exact a1 k hk)
    refine ⟨E', f', fun k hk => (h1 k (by omega)).trans (hE k hk), ?_, by rw [show nx + (p :: bx).length = nx + 1 + bx.length by simp; omega]; exact h3⟩
    show E' nx :: (keysFrom (nx + 1) bx.length).map E' = _ :: _
    rw [h2, h1 nx (by omega), upd_same]

theorem keysFrom_mem : ∀ {n k j : Nat}, j ∈ keysFrom k n → k ≤ j ∧ j < k + n
  | 0, k, j, h => by cases h
  | n + 1, k, j, h => by
    rcases List.mem_cons.1 h with rfl | h
    · omega
    · have := keysFrom_mem h; omega

/-- a call whose answer is a function with boxes of its own -/
theorem xl_callClo {C : Cx} {all : List Oper} {o : Oper} {r : List Oper} {Q : Post} {kn : Kn} {gk : List (Nat × (Gd × SV))} {ow : Own} {nx : Nat} {u : Im} {c : Call} (gf : Nat) (bx : List (TypeId × Value)) (ks : List Nat) (n : Nat) (hks : keysFrom nx bx.length = ks) (hn : nx + bx.length = n) (ho : o.op = .call c) (hgd : o.guard = none) {f d : Nat} (hd : o.dst = some d)
    (hc : callee ⟨kn, gk, ow, nx⟩ c = some f) (hfn : Fn1 C.P f) {ss : List SV} (hargs : argsOf ⟨kn, gk, ow, nx⟩ [] c.args.toList = some ss) (hfr : fresh C.N ⟨kn, gk, ow, nx⟩ d [] = true)
    (H : ∀ E w F, Sat E ow nx u [] w F → Calls C.P f (ss.map (SV.den E)).toArray w (PureP w fun v u => CloAt u v gf bx))
    (K : XL C all r Q ⟨(d, .clo gf ks) :: kn, gk, ownAdd nx bx ow, n⟩ u) :
    XL C all (o :: r) Q ⟨kn, gk, ow, nx⟩ u := by
  subst hks hn
  unfold XL at K ⊢
  intro E a w hok
  obtain ⟨fF, hsat⟩ := hok.sat
  refine call_core _ ho hgd hc hfn hargs H hok hsat fun v w' hbel hR => ?_
  obtain ⟨bl, rfl, hnd, hlen, hbs⟩ := hR
  have hk := hsat.keep hbel
  have hnew : ∀ b o, (cut w.heap.size (im w')).h b = some o → w.heap.size ≤ b ∧ w'.heap[b]? = some o := fun b o hb => by
    simp only [cut] at hb
    split at hb
    · cases hb
    · rename_i h1; exact ⟨Nat.le_of_not_lt h1, hb⟩
  obtain ⟨E', f', hE, hmap, hsat'⟩ := hk.addBoxes hnd hlen (fun j b hj => by
    obtain ⟨p, h1, h2⟩ := hbs j b hj
    obtain ⟨h3, h4⟩ := hnew b _ h2
    refine ⟨fun k hkb => ?_, ?_, p, h1, h4⟩
    · have := hsat.fin hkb; omega
    · cases hub : u.h b with
      | none => rfl
      | some o => have := (Array.getElem?_eq_some_iff.1 (hsat.imm.h b o hub)).1; omega)
  have hg := hok.agr.grow (E' := E') (ow := ownAdd nx bx ow) (nx := nx + bx.length) hE (Nat.le_add_right _ _)
  have hden : (SV.clo gf (keysFrom nx bx.length)).den E' = .func (.func gf) #[] (bl.map fun b => Value.pointer (some ⟨b, 0, none⟩)).toArray := by
    simp only [SV.den]
    congr 2
    rw [← hmap]
    refine List.map_congr_left fun k hk => ?_
    have : E' k ∈ bl.map fun b => Value.pointer (some ⟨b, 0, none⟩) := by rw [← hmap]; exact List.mem_map_of_mem hk
    obtain ⟨b, _, hb⟩ := List.mem_map.1 this
    unfold ptrOf
    rw [← hb]
  have hput : Agr C.N E' (St.put ⟨kn, gk, ownAdd nx bx ow, nx + bx.length⟩ d [] (.clo gf (keysFrom nx bx.length))) (a.tmps.setIfInBounds d (.func (.func gf) #[] (bl.map fun b => Value.pointer (some ⟨b, 0, none⟩)).toArray)) := by
    refine hg.put (g := []) hfr (fun _ k hk => ?_) (fun _ => hden.symm) (fun hn => absurd (fun x hx => (by cases hx)) hn) (fun _ => hden.symm)
    have h1 := keysFrom_mem hk
    have : E' k ∈ bl.map fun b => Value.pointer (some ⟨b, 0, none⟩) := by rw [← hmap]; exact List.mem_map_of_mem hk
    obtain ⟨b, _, hb⟩ := List.mem_map.1 this
    exact ⟨by show k < nx + bx.length; omega, _, hb.symm⟩
  rw [hd]
  have := K E' (a.put (some d) _) w' ⟨⟨hput.size, hput.kn, hput.gk, hput.klt, hput.glt⟩, _, hsat'⟩
  exact wpListIn_monoQ (fun e a w => SemQ.mono hE (Nat.le_add_right _ _) (Im.le.refl u)) _ _ _ this
end Go.GV
