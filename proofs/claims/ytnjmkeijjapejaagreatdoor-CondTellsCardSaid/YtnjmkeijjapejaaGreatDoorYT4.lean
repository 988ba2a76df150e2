/- Part 4 of the lemmas behind the claim: GO, GI, Q13, GZ, GA, GJ, Q14, Q7, Q8, Q9, Q10, Q15, Q11, Q12, K, E1, S2, P1, P2, P3, E2, E3, E4, E5, H, E6. -/
import Derived.Test.YtnjmkeijjapejaaGreatDoorYT3
import Derived.Laws.Small
import Derived.Shelf.Small.Strs
import Derived.Shelf.Strings.Search3
import Derived.Shelf.LaysM
import Derived.Test.YtnjmkeijjapejaaGreatDoorProg
set_option linter.unusedSimpArgs false
set_option linter.unusedVariables false
namespace Go.GV
open Go.RowKit
def pureN : Op → Bool
  | .nilCheck _ => true
  | o => pureOp o
theorem eff_pureN {C : Cx} {T : TT} {E : Env} {st : St} {a : Act} {g : Gd} (hT : TOk C.P T) {o : Oper} {s : SV} {side : List Prop}
    (hx : ∀ (x : Operand) z, opd st g x = some z → a.eval x = z.den E ∧ z.lt E st.nx) (hp : pureN o.op = true)
    (he : eff T st g o.op = .val s side) (hs : allP side) (w : World) : (execOp a.eval o).run C.P w = .ok (.value (s.den E)) w ∧ s.lt E st.nx := by
  by_cases hp2 : pureOp o.op = true
  · exact eff_pure hT hx hp2 he hs w
  · cases ho : o.op with
    | nilCheck x =>
      rw [ho] at he
      simp only [eff] at he
      exact nil_sound ho (fun z hz => hx x z hz) he
    | _ => rw [ho] at hp hp2; first | exact absurd hp hp2 | cases hp
theorem xa_pureN {C : Cx} {T : TT} (hT : TOk C.P T) {ops : Array Oper} {fuel : Nat} {listed : Array Bool} {Q : Post} {st : St} {u : Im} {i d : Nat} {o : Oper} {g : Gd} {s : SV} {side : List Prop}
    (hsel : Region.noSelect ops = true) (hdf : noDefer ops = true) (hQ : ∀ c st u, Q (.panic c) st u → False) (ho : ops.toList[i]? = some o)
    (hr : (Region.ready .any ops listed).contains i = true) (hf : Region.free .any ops listed i = true) (hp : pureN o.op = true)
    (hg : guardOf ops.toList st o = some g) (he : eff T st g o.op = .val s side) (hd : o.dst = some d) (hfr : fresh C.N st d g = true)
    (hside : (∀ p ∈ gprops st g, p) → allP side)
    (K : XA C ops fuel (listed.setIfInBounds i true) Q (st.put d g s) u) : XA C ops (fuel + 1) listed Q st u := by
  intro E a w hok
  have ho' : ops[i]? = some o := by simpa using ho
  have how : (st.put d g s).ow = st.ow := by cases g <;> rfl
  have hnx : (st.put d g s).nx = st.nx := by cases g <;> rfl
  have hgd := guard_sound (all := ops) hok.agr hg
  have hrun : gs a.tmps g → ∀ w, (execOp a.eval o).run C.P w = .ok (.value (s.den E)) w ∧ s.lt E st.nx := fun hgs w =>
    eff_pureN (C := C) hT (fun x z h => opd_sound hok.agr hgs h) hp he (hside (gprops_sound hok.agr hgs (fun _ _ _ => trivial))) w
  have hpan : ∀ x c a w, SemQ C E st.nx u Q (.panic c) (Act.put a o.dst x) w → SemQ C E st.nx u Q (.panic c) a w := fun x c a w ⟨_, st', u', _, _, _, _, h5⟩ => (hQ _ _ _ h5).elim
  have go : ∀ x, (gs a.tmps g → x = s.den E) → (¬ gs a.tmps g → x = undef) → YW C.P ops o x a → wpAnyIn (FR C.ro) 0 C.P .any ops (SemQ C E st.nx u Q) (fuel + 1) listed a w := by
    intro x hx hnx' hy
    have hput : Agr C.N E (st.put d g s) (a.tmps.setIfInBounds d x) :=
      hok.agr.put hfr (fun hgs => (hrun hgs w).2) hx hnx' (fun hn => by subst hn; exact hx (fun y hy => by cases hy))
    refine wpAny_ahead ho' (Region.noSelect_spec hsel) (noDefer_spec hdf) (hpan x) fuel listed a w (Region.free_spec ho' hf) (by simpa using hr) hy ?_
    have := K E (a.put o.dst x) w ⟨by rw [hd]; exact hput, by rw [how, hnx, hd]; exact hok.sat⟩
    rwa [hnx] at this
  by_cases hw : Region.wanted o (yielded ops a.tmps) = true
  · have hgs := hgd.1 hw
    exact go _ (fun _ => rfl) (fun hn => absurd hgs hn) (.inl ⟨hw, notDefer_of_val he, fun w => (hrun hgs w).1⟩)
  · have hgs := hgd.2 (by simpa using hw)
    exact go undef (fun hy => absurd hy hgs) (fun _ => rfl) (.inr ⟨by simpa using hw, rfl⟩)
def xapN (T : TT) (N : Nat) (all : List Oper) (K : St → Prop) : List Oper → St → Prop
  | [], st => K st
  | o :: r, st => match pureN o.op with
    | false => False
    | true => match guardOf all st o with
      | none => False
      | some g => match eff T st g o.op with
        | .val s side => match o.dst with
          | some d => match fresh N st d g with
            | true => sides (gprops st g) side (st.putK d g s (xapN T N all K r))
            | false => False
          | none => False
        | .stuck => False
theorem xa_puresN0 {T : TT} {C : Cx} (hT : TOk C.P T) {ops : Array Oper} {Q : Post} {u : Im} (hsel : Region.noSelect ops = true) (hdf : noDefer ops = true)
    (hQ : ∀ c st u, Q (.panic c) st u → False) {fuel : Nat} : ∀ (l : List Nat) (listed : Array Bool) (st : St), hasAll ops.toList l = true → lexL .any ops l listed = true →
      xapN T C.N ops.toList (fun st => XA C ops fuel (marks listed l) Q st u) (opsAt ops.toList l) st → XA C ops (fuel + l.length) listed Q st u
  | [], _, _, _, _, h => h
  | i :: l, listed, st, ha, hl, h => by
    simp only [hasAll, Bool.and_eq_true] at ha
    simp only [lexL, Bool.and_eq_true] at hl
    obtain ⟨o, ho⟩ := Option.isSome_iff_exists.1 ha.1
    simp only [opsAt, ho] at h
    unfold xapN at h
    split at h
    · exact h.elim
    · rename_i hp
      split at h
      · exact h.elim
      · rename_i g hg
        split at h
        · rename_i s side he
          split at h
          · rename_i d hd
            split at h
            · rename_i hf
              rw [St.putK_eq] at h
              have h1 := sides_split h
              exact xa_pureN hT hsel hdf hQ ho hl.1.1 hl.1.2 hp hg he hd hf h1.2 (xa_puresN0 hT hsel hdf hQ l _ _ ha.2 hl.2 h1.1)
            · exact h.elim
          · exact h.elim
        · exact h.elim
theorem xa_puresN {T : TT} {C : Cx} (hT : TOk C.P T) {ops : Array Oper} {Q : Post} {st : St} {u : Im} {fuel n : Nat} {listed : Array Bool} (l : List Nat) (hn : n = fuel + l.length)
    (hsel : Region.noSelect ops = true) (hdf : noDefer ops = true) (hQ : ∀ c st u, Q (.panic c) st u → False) (ha : hasAll ops.toList l = true) (hl : lexL .any ops l listed = true)
    (h : st.force fun st => xapN T C.N ops.toList (fun st => XA C ops fuel (marks listed l) Q st u) (opsAt ops.toList l) st) : XA C ops n listed Q st u := by
  subst hn
  rw [St.force_eq] at h
  exact xa_puresN0 hT hsel hdf hQ l listed st ha hl h
theorem xa_each {C : Cx} {ops : Array Oper} {fuel : Nat} {listed : Array Bool} {Q : Post} {st : St} {u : Im} (l : List Nat) (hr : Region.ready .any ops listed = l) (hne : l ≠ [])
    (h : ∀ k ∈ l, ∃ o, ops.toList[k]? = some o ∧ XL C ops.toList [o] (thn (XA C ops fuel (listed.setIfInBounds k true) Q) Q) st u) : XA C ops (fuel + 1) listed Q st u := by
  have main : ∀ (k : Nat) (o : Oper), ops.toList[k]? = some o → XL C ops.toList [o] (thn (XA C ops fuel (listed.setIfInBounds k true) Q) Q) st u → ∀ E a w, Ok C E st u a w →
      wpOpIn (FR C.ro) 0 C.P ops (SemQ C E st.nx u Q) k (wpAnyIn (FR C.ro) 0 C.P .any ops (SemQ C E st.nx u Q) fuel (listed.setIfInBounds k true)) a w := by
    intro k o ho h E a w hok
    unfold XL at h
    have h1 := h E a w hok
    have ho' : ops[k]? = some o := by simpa using ho
    have key : wpOpIn (FR C.ro) 0 C.P ops (SemQ C E st.nx u (thn (XA C ops fuel (listed.setIfInBounds k true) Q) Q)) k
        (fun a' w' => SemQ C E st.nx u (thn (XA C ops fuel (listed.setIfInBounds k true) Q) Q) .normal a' w') a w := by
      unfold wpOpIn
      simp only [ho']
      unfold wpListIn at h1
      simp only [wpListIn] at h1
      exact h1
    refine wpOpIn_post ?_ ?_ key
    · rintro e a' w' hne ⟨E', st', u', h2, h3, h4, h5, h6⟩
      cases e with
      | normal => exact absurd rfl hne
      | exit id => exact ⟨E', st', u', h2, h3, h4, h5, h6⟩
      | goto l => exact ⟨E', st', u', h2, h3, h4, h5, h6⟩
      | ret => exact ⟨E', st', u', h2, h3, h4, h5, h6⟩
      | panic c => exact ⟨E', st', u', h2, h3, h4, h5, h6⟩
      | outgrown => exact ⟨E', st', u', h2, h3, h4, h5, h6⟩
    · rintro a' w' ⟨E', st', u', h2, h3, h4, h5, h6⟩
      exact wpAnyIn_post (fun e a w => SemQ.mono h2 h3 h4) (h6 E' a' w' h5)
  intro E a w hok
  refine wpAnyIn_all hr hne fun k hk => ?_
  obtain ⟨o, ho, h1⟩ := h k hk
  exact main k o ho h1 E a w hok
theorem xa_three {C : Cx} {ops : Array Oper} {fuel : Nat} {listed : Array Bool} {Q : Post} {st : St} {u : Im} (i j k : Nat) {oi oj ok : Oper} (hr : Region.ready .any ops listed = [i, j, k])
    (hi : ops.toList[i]? = some oi) (hj : ops.toList[j]? = some oj) (hk : ops.toList[k]? = some ok) (h1 : XL C ops.toList [oi] (thn (XA C ops fuel (listed.setIfInBounds i true) Q) Q) st u)
    (h2 : XL C ops.toList [oj] (thn (XA C ops fuel (listed.setIfInBounds j true) Q) Q) st u) (h3 : XL C ops.toList [ok] (thn (XA C ops fuel (listed.setIfInBounds k true) Q) Q) st u) : XA C ops (fuel + 1) listed Q st u := by
  refine xa_each [i, j, k] hr (by simp) fun x hx => ?_
  simp only [List.mem_cons, List.not_mem_nil, or_false] at hx
  rcases hx with rfl | rfl | rfl
  · exact ⟨_, hi, h1⟩
  · exact ⟨_, hj, h2⟩
  · exact ⟨_, hk, h3⟩
theorem xl_max {C : Cx} {all : List Oper} {o : Oper} {r : List Oper} {Q : Post} {kn : Kn} {gk : List (Nat × (Gd × SV))} {ow : Own} {nx : Nat} {u : Im} {d : Nat} {x y : Operand} {ts : Array TypeId} {k k' : IntKind} {m n : Int} (q : Int) (hq : (if n > m then n else m) = q)
    (ho : o.op = .call { callee := .builtin .max, args := #[x, y], argTypes := ts }) (hgd : o.guard = none) (hd : o.dst = some d) (hfr : fresh C.N ⟨kn, gk, ow, nx⟩ d [] = true)
    (hx : opd ⟨kn, gk, ow, nx⟩ [] x = some (.v (.int k m))) (hy : opd ⟨kn, gk, ow, nx⟩ [] y = some (.v (.int k' n)))
    (K : XL C all r Q ⟨(d, .v (.int k q)) :: kn, gk, ow, nx⟩ u) : XL C all (o :: r) Q ⟨kn, gk, ow, nx⟩ u := by
  subst hq
  refine xl_val _ hgd hd (fun c hc => by rw [ho] at hc; cases hc) hfr (fun E a w hok => ?_) K
  have hgs : gs a.tmps [] := fun x hx => by cases hx
  obtain ⟨e1, _⟩ := opd_sound hok.agr hgs hx
  obtain ⟨e2, _⟩ := opd_sound hok.agr hgs hy
  simp only [SV.den] at e1 e2
  have hm := run_max_int2 (P := C.P) (w := w) ts o.type k k' m n
  simp only [execOp, ho, resolve]
  simp [invoke, builtin, e1, e2, hm]
theorem xd_max {C : Cx} {all : List Oper} {o : Oper} {r : List Oper} {Q : St → Prop} {st : St} {u : Im} {d : Nat} {x y : Operand} {ts : Array TypeId} {k k' : IntKind} {m n : Int} (q : Int) (hq : (if n > m then n else m) = q)
    (ho : o.op = .call { callee := .builtin .max, args := #[x, y], argTypes := ts }) (hgd : o.guard = none) (hd : o.dst = some d) (hfr : fresh C.N st d [] = true)
    (hx : opd st [] x = some (.v (.int k m))) (hy : opd st [] y = some (.v (.int k' n)))
    (K : XD C all r Q (st.put d [] (.v (.int k q))) u) : XD C all (o :: r) Q st u := by
  subst hq
  refine xd_sv (.v (.int k (if n > m then n else m))) hgd hd (fun c' hc' => by rw [ho] at hc'; cases hc') hfr (fun E a w hok => ?_) K
  have hgs : gs a.tmps [] := fun x hx => by cases hx
  obtain ⟨e1, _⟩ := opd_sound hok.agr hgs hx
  obtain ⟨e2, _⟩ := opd_sound hok.agr hgs hy
  simp only [SV.den] at e1 e2
  have hm := run_max_int2 (P := C.P) (w := w) ts o.type k k' m n
  refine ⟨?_, trivial⟩
  simp only [execOp, ho, resolve]
  simp [invoke, builtin, e1, e2, hm, SV.den]
end Go.GV
namespace Go.GV
open Go.RowKit
end Go.GV
namespace Go.Cd
def potS : List En → Int
  | [] => 0
  | e :: r => 1 + e.pf + e.dp + potS r
def nnS : List En → Prop
  | [] => True
  | e :: r => 0 ≤ e.pf ∧ 0 ≤ e.dp ∧ nnS r
theorem potS_len : ∀ {S : List En}, nnS S → (S.length : Int) ≤ potS S
  | [], _ => Int.le_refl _
  | e :: r, h => by have := potS_len h.2.2; have := h.1; have := h.2.1; simp only [potS, List.length_cons]; omega
theorem settle_pot : ∀ {S : List En} {d : Int}, nnS S → 0 ≤ d → nnS (settle S d).1 ∧ 0 ≤ (settle S d).2 ∧ potS (settle S d).1 + (settle S d).2 ≤ potS S + d
  | [], d, _, h0 => ⟨trivial, h0, Int.le_refl _⟩
  | e :: r, d, h, h0 => by
    unfold settle
    split
    · obtain ⟨h1, h2, h3⟩ := h
      obtain ⟨k1, k2, k3⟩ := settle_pot (S := r) (d := 1 + max e.dp d) h3 (by omega)
      refine ⟨k1, k2, ?_⟩
      simp only [potS]
      omega
    · exact ⟨h, h0, Int.le_refl _⟩
def nnM (m : Me) : Prop := nnS m.st ∧ 0 ≤ m.pf ∧ 0 ≤ m.dp
def potM (m : Me) : Int := potS m.st + m.pf + m.dp
end Go.Cd
namespace Go.Proofs.YtnjmkeijjapejaaGreatDoor
open Go.GV Go.RowKit
def enY : Lay Cd.En := ⟨[fun e => .bool e.ch, fun e => .int .i64 e.pf, fun e => .bool e.se, fun e => .int .i64 e.dp], ⟨false, 0, false, 0⟩⟩
def mtK (k : Nat) (R : List Cd.En) (p d : Int) (a : Bool) : GV.Own := [(0, .box 64 [.r k, .v (.int .i64 p), .v (.int .i64 d), .v (.bool a)]), (k, .row 103 (enY.d R))]
def mtO (m : Cd.Me) : GV.Own := mtK 1 m.st.reverse m.pf m.dp m.af
def mtP (m : Cd.Me) : GV.Own := mtK 2 m.st.reverse m.pf m.dp m.af
theorem max_gt (a b : Int) : (if b > a then b else a) = max a b := by omega
set_option maxRecDepth 100000 in
theorem operand_sc (R : List Cd.En) (p d : Int) (a : Bool) (x : Int) : SC Tryz.prog 44 (fun _ => True) 2 (mtK 1 R p d a) [.p 0 0, .v (.int .i64 x)] (fun _ : Unit => (mtK 2 R 0 (max d x) true, 3, .tuple #[])) (fun _ => True) := by
  refine x_sc tt_ok Tryz.func44 rfl rfl rfl rfl (fun u _ => ?_)
  refine x_vc tt_ok ?_
  refine xl_max (max d x) (max_gt _ _) rfl rfl rfl rfl rfl rfl ?_
  refine xl_go tt_ok ?_
  exact ⟨(), [(2, some 1)], [], rfl, rfl, .of rfl rfl rfl rfl rfl rfl, of_decide_eq_true rfl, trivial⟩
theorem rev_split {R : List Cd.En} (h : 0 < R.length) : R.reverse = R.getD ((R.length : Int) - 1).toNat enY.dft :: (R.take ((R.length : Int) - 1).toNat).reverse := by
  have e : ((R.length : Int) - 1).toNat = R.length - 1 := by omega
  rw [e]
  have h1 : R = R.take (R.length - 1) ++ [R.getD (R.length - 1) enY.dft] := by
    have h2 : R.length - 1 < R.length := by omega
    rw [List.getD_eq_getElem?_getD, List.getElem?_eq_getElem h2, Option.getD_some]
    have h3 := List.take_append_getElem h2
    rw [h3, List.take_of_length_le (by omega)]
  have h4 := congrArg List.reverse h1
  rw [List.reverse_append, List.reverse_singleton] at h4
  exact h4
set_option maxHeartbeats 2000000 in
set_option maxRecDepth 100000 in
theorem settle_sc (m : Cd.Me) (hn : Cd.nnM m) (hp : Cd.potM m ≤ 1000000000) : SC Tryz.prog 20 (fun _ => True) 2 (mtO m) [.p 0 0] (fun _ : Unit => (mtP ⟨(Cd.settle m.st m.dp).1, m.pf, (Cd.settle m.st m.dp).2, m.af⟩, 3, .tuple #[])) (fun _ => True) := by
  obtain ⟨n1, n2, n3⟩ := hn
  unfold Cd.potM at hp
  refine x_sc tt_ok Tryz.func20 rfl rfl rfl rfl (fun u _ => ?_)
  obtain ⟨R, hR⟩ : ∃ R, R = m.st.reverse := ⟨_, rfl⟩
  have hS : m.st = R.reverse := by rw [hR, List.reverse_reverse]
  obtain ⟨D, hD⟩ : ∃ D, D = Cd.settle m.st m.dp := ⟨_, rfl⟩
  unfold mtO mtP
  rw [← hR, ← hD]
  have hlen := Cd.potS_len n1
  rw [hS, List.length_reverse, ← hS] at hlen
  refine x_vc tt_ok ?_
  repeat (refine And.intro ?_ ?_; first | omega | (simp only [Lay.d_n]; omega))
  refine x_loop (σ := List Cd.En × Int × Int) (fun (R, d, j) => ⟨[(2, .v (.int .i64 j)), (0, .p 0 0)], [], mtK 2 R m.pf d m.af, 3⟩)
    (fun (R, d, j) _ => Cd.settle R.reverse d = D ∧ Cd.nnS R.reverse ∧ 0 ≤ d ∧ Cd.potS R.reverse + d ≤ 1000000000 ∧ j = (R.length : Int) - 1) (fun (R, _, _) => R.length) (fun (_, _, _) => Nat.le_succ 2) (R, m.dp, (R.length : Int) - 1) [(2, some 1)] (.of rfl rfl rfl rfl rfl rfl)
    ⟨by rw [hD, hS], by rw [← hS]; exact n1, n3, by rw [← hS]; omega, rfl⟩ ?_
  rintro ⟨R, d, j⟩ u2 hu2 ⟨g1, g2, g3, g4, rfl⟩
  have hlen2 := Cd.potS_len g2
  rw [List.length_reverse] at hlen2
  have hlR : (R.length : Int) ≤ 1000000000 := by omega
  refine x_seq (x_seq (x_vc tt_ok ?_))
  repeat (refine And.intro ?_ ?_; first | omega | (simp only [Lay.d_n]; omega) | (simp only [decide_eq_true_eq, decide_eq_false_iff_not, Bool.or_eq_false_iff, Bool.and_eq_true, Bool.or_eq_true, Bool.and_eq_false_iff, Bool.not_eq_true', Bool.not_eq_false', Lay.d_n]; omega) | (simp only [decide_eq_true_eq, decide_eq_false_iff_not, Bool.or_eq_false_iff, Bool.and_eq_true, Bool.or_eq_true, Bool.and_eq_false_iff, Bool.not_eq_true', Bool.not_eq_false']; omega) | (simp only [decide_eq_true_eq, decide_eq_false_iff_not, Bool.or_eq_false_iff]; simp only [Lay.d_n]; omega))
  refine x_cond rfl (fun h => ?_) (fun h => ?_)
  · have h : ((decide (0 ≤ (R.length : Int) - 1) && (R.getD ((R.length : Int) - 1).toNat enY.dft).ch) && (R.getD ((R.length : Int) - 1).toNat enY.dft).se) = true := h
    simp only [Bool.and_eq_true, decide_eq_true_eq] at h
    obtain ⟨⟨h1, h2⟩, h3⟩ := h
    have hR1 : 0 < R.length := by omega
    obtain ⟨e, he⟩ : ∃ e, e = R.getD ((R.length : Int) - 1).toNat enY.dft := ⟨_, rfl⟩
    have hsp := rev_split hR1
    rw [← he] at h2 h3 hsp
    rw [hsp] at g1 g2 g4
    obtain ⟨k1, k2, k3⟩ := g2
    simp only [Cd.potS] at g4
    have hst : Cd.settle (e :: (R.take ((R.length : Int) - 1).toNat).reverse) d = Cd.settle (R.take ((R.length : Int) - 1).toNat).reverse (1 + max e.dp d) := by
      rw [Cd.settle, h2, h3]; rfl
    rw [hst] at g1
    have hpl := Cd.potS_len k3
    refine x_vc tt_ok ?_
    refine x_seq ?_
    refine x_block ?_
    refine x_seq ?_
    refine x_via (σ := Unit) (fun _ => ⟨[(2, .v (.int .i64 ((R.length : Int) - 1))), (0, .p 0 0)], [], mtK 2 R m.pf (1 + max (R.getD ((R.length : Int) - 1).toNat enY.dft).dp d) m.af, 3⟩) (fun _ _ => True) (fun _ => Nat.le_refl 3) ?_ ?_
    · refine x_drawA mix ?_
      refine xa_puresN tt_ok (fuel := 10) [0, 1, 2, 3, 5, 9, 10, 11] rfl (by kernel_rfl) (by kernel_rfl) (fun _ _ _ hh => hh) (by kernel_rfl) (by kernel_rfl) ?_
      refine xa_phase tt_ok (fuel := 3) [4, 6, 7, 8, 12, 13, 14] rfl (by kernel_rfl) (by kernel_rfl) (by kernel_rfl) (phaseB_of 14 (by kernel_rfl)) ?_
      refine xd_go tt_ok ?_
      repeat (refine And.intro ?_ ?_; first | omega | (simp only [Lay.d_n]; omega))
      have he' : (R.getD ((R.length : Int) - 1).toNat enY.dft).dp = e.dp := by rw [he]
      refine xd_max (max (R.getD ((R.length : Int) - 1).toNat enY.dft).dp d) (max_gt _ _) rfl rfl rfl rfl rfl rfl ?_
      refine xd_go tt_ok ?_
      repeat (refine And.intro ?_ ?_; first | omega | (simp only [Lay.d_n]; omega))
      refine xa_chain (fuel := 0) [15, 16, 17] rfl (by kernel_rfl) (by kernel_rfl) ?_
      refine xl_go tt_ok ?_
      refine xa_done (by kernel_rfl) rfl ?_
      exact meet () [] (.of rfl rfl rfl rfl rfl rfl) trivial
    rintro _ u3 hu3 _
    rw [← he]
    refine x_vc tt_ok ?_
    refine xl_cutTo tt_ok enY R rfl rfl rfl rfl rfl rfl rfl rfl rfl rfl (by omega) (by omega) ?_
    refine xl_go tt_ok ?_
    refine x_vc tt_ok ?_
    repeat (refine And.intro ?_ ?_; first | omega | (simp only [Lay.d_n]; omega))
    have hln : (((R.take ((R.length : Int) - 1).toNat).length : Nat) : Int) = (R.length : Int) - 1 := by rw [List.length_take]; omega
    refine again (R.take ((R.length : Int) - 1).toNat, 1 + max e.dp d, (R.length : Int) - 1 - 1) [(2, some 3)] (.of rfl rfl rfl rfl rfl rfl) ⟨g1, k3, by omega, by omega, by omega⟩ (by simp only; omega)
  · have h : ((decide (0 ≤ (R.length : Int) - 1) && (R.getD ((R.length : Int) - 1).toNat enY.dft).ch) && (R.getD ((R.length : Int) - 1).toNat enY.dft).se) = false := h
    have hst : Cd.settle R.reverse d = (R.reverse, d) := by
      by_cases hR1 : 0 < R.length
      · have hsp := rev_split hR1
        rw [hsp, Cd.settle]
        rw [decide_eq_true (show 0 ≤ (R.length : Int) - 1 by omega), Bool.true_and] at h
        rw [h]; rfl
      · have : R = [] := List.length_eq_zero_iff.1 (by omega)
        rw [this]; rfl
    rw [hst] at g1
    rw [← g1]
    have hS' : R = (R.reverse, d).1.reverse := by rw [List.reverse_reverse]
    refine x_vc tt_ok ?_
    rw [← hS']
    exact ⟨(), [], [], rfl, rfl, .of rfl rfl rfl rfl rfl rfl, of_decide_eq_true rfl, trivial⟩
end Go.Proofs.YtnjmkeijjapejaaGreatDoor
namespace Go.GV
open Go.RowKit
end Go.GV
namespace Go.GV
open Go.RowKit
section any
variable {ro : Option Nat} {P : Program} {ops : Array Oper} {md : Region.Mode} {Y : Oper → Value → Act → Prop}
def Looks (ops : Array Oper) (Y : Oper → Value → Act → Prop) : Prop :=
  ∀ o v a a', execOp a'.eval o = execOp a.eval o → Region.wanted o (yielded ops a'.tmps) = Region.wanted o (yielded ops a.tmps) → Y o v a → Y o v a'
def opY (ops : Array Oper) (Y : Oper → Value → Act → Prop) (i : Nat) (K : Act → Prop) (a : Act) : Prop :=
  match ops[i]? with
  | none => K a
  | some o => ∃ v, Y o v a ∧ K (a.put o.dst v)
theorem opY_mono {i : Nat} {a : Act} {K K' : Act → Prop} (h : ∀ a, K a → K' a) (hh : opY ops Y i K a) : opY ops Y i K' a := by
  unfold opY at *
  split
  · exact h _ (by simpa [*] using hh)
  · rename_i o ho
    simp only [ho] at hh
    obtain ⟨v, h1, h2⟩ := hh
    exact ⟨v, h1, h _ h2⟩
theorem opY_of {i : Nat} {o : Oper} {v : Value} {a : Act} (hi : ops[i]? = some o) (hy : Y o v a) {K : Act → Prop} (h : K (a.put o.dst v)) : opY ops Y i K a := by
  unfold opY
  simp only [hi]
  exact ⟨v, hy, h⟩
theorem opY_put (hY : Looks ops Y) {j : Nat} {oi oj : Oper} {v : Value} (hj : ops[j]? = some oj) (hap : oi.apart ops oj = true)
    (hsi : ∀ cs b, oi.op ≠ .select cs b) (hsj : ∀ cs b, oj.op ≠ .select cs b) {K : Act → Prop} {a : Act}
    (hy : Y oi v a) (h : opY ops Y j K (a.put oi.dst v)) :
    opY ops Y j (fun a' => Y oi v a' ∧ K (a'.put oi.dst v)) a := by
  obtain ⟨h1, h2, h3⟩ := Oper.apart_spec hap
  unfold opY at *
  simp only [hj] at *
  obtain ⟨x, hx, hK⟩ := h
  refine ⟨x, hY _ _ _ _ (execOp_put oj hsj a oi.dst v h1).symm (wanted_put oj a oi.dst v h1).symm hx, ?_, ?_⟩
  · exact hY _ _ _ _ (execOp_put oi hsi a oj.dst x h3) (wanted_put oi a oj.dst x h3) hy
  · rw [← Act.put_comm a v x h2]; exact hK
theorem opY_put' (hY : Looks ops Y) {j : Nat} {oi oj : Oper} {v : Value} (hj : ops[j]? = some oj) (hap : oi.apart ops oj = true)
    (hsj : ∀ cs b, oj.op ≠ .select cs b) {K K' : Act → Prop} {a : Act} (hK : ∀ a, K a → K' (a.put oi.dst v)) (h : opY ops Y j K a) : opY ops Y j K' (a.put oi.dst v) := by
  obtain ⟨h1, h2, h3⟩ := Oper.apart_spec hap
  unfold opY at *
  simp only [hj] at *
  obtain ⟨x, hx, h4⟩ := h
  refine ⟨x, hY _ _ _ _ (execOp_put oj hsj a oi.dst v h1) (wanted_put oj a oi.dst v h1) hx, ?_⟩
  rw [Act.put_comm a v x h2]
  exact hK _ h4
def anyY (md : Region.Mode) (ops : Array Oper) (Y : Oper → Value → Act → Prop) (Q : Act → Prop) : Nat → Array Bool → Act → Prop
  | 0, _, a => Q a
  | k + 1, listed, a => ∀ i ∈ Region.ready md ops listed, opY ops Y i (anyY md ops Y Q k (listed.setIfInBounds i true)) a
theorem anyY_first (hY : Looks ops Y) {target : Array Bool} {Q : Act → Prop} {i : Nat} {oi : Oper} {v : Value} (hi : ops[i]? = some oi) (hsel : ∀ (j : Nat) (o : Oper) cs b, ops[j]? = some o → o.op ≠ .select cs b) :
    ∀ (k : Nat) (listed : Array Bool) (a : Act),
      (∀ j oj, ops[j]? = some oj → j ≠ i → listed.getD j true = false → (∀ e ∈ oj.after, Region.binds md e = true → e.on ≠ i) → oi.apart ops oj = true) →
      i ∈ Region.ready md ops listed → phaseB md ops target (k + 1) listed = true → Y oi v a →
      anyY md ops Y Q k (listed.setIfInBounds i true) (a.put oi.dst v) → anyY md ops Y Q (k + 1) listed a := by
  intro k
  induction k with
  | zero =>
    intro listed a _ hr hb hy H j hj
    by_cases hji : j = i
    · subst hji; exact opY_of hi hy H
    · simp only [phaseB, Bool.and_eq_true, List.all_eq_true, decide_eq_true_eq] at hb
      have e1 := hb.2 i hr
      have e2 := hb.2 j hj
      have h1 := (mem_ready.1 hj).1
      have h2 : (listed.setIfInBounds i true).getD j true = false := by rw [getD_set_ne true (Ne.symm hji)]; exact h1
      rw [e1, ← e2, set_getD_self] at h2
      cases h2
  | succ k ih =>
    intro listed a hfree hr hb hy H j hj
    by_cases hji : j = i
    · subst hji; exact opY_of hi hy H
    · have h1 := H j (ready_mono hj hji)
      obtain ⟨hjun, oj, hoj, hall⟩ := mem_ready.1 hj
      have hnot : ∀ e ∈ oj.after, Region.binds md e = true → e.on ≠ i := fun e he hb heq => by
        have h1 := hall e he hb
        have h0 := (mem_ready.1 hr).1
        rw [heq] at h1
        rcases Nat.lt_or_ge i listed.size with h' | h'
        · simp [h'] at h0 h1; rw [h0] at h1; cases h1
        · simp [Array.getElem?_eq_none h'] at h1
      have h2 := opY_put hY hoj (hfree j oj hoj hji hjun hnot) (fun cs b => hsel i oi cs b hi) (fun cs b => hsel j oj cs b hoj) hy h1
      have hfree' : ∀ k ok, ops[k]? = some ok → k ≠ i → (listed.setIfInBounds j true).getD k true = false →
          (∀ e ∈ ok.after, Region.binds md e = true → e.on ≠ i) → oi.apart ops ok = true := fun k ok hk hki hun hno => by
        refine hfree k ok hk hki ?_ hno
        by_cases hjk : j = k
        · subst hjk; exact hjun
        · rw [getD_set_ne true hjk] at hun; exact hun
      have hb' : phaseB md ops target (k + 1) (listed.setIfInBounds j true) = true := by
        rw [phaseB, Bool.and_eq_true, List.all_eq_true] at hb
        exact hb.2 j hj
      refine opY_mono (fun a' h3 => ih (listed.setIfInBounds j true) a' hfree' (ready_mono hr (Ne.symm hji)) hb' h3.1 ?_) h2
      rw [Array.setIfInBounds_comm _ _ hji]
      exact h3.2
def stillY (Y : Oper → Value → Act → Prop) (Q : Act → Prop) : List Oper → Act → Prop
  | [], a => Q a
  | o :: r, a => ∃ v, Y o v a ∧ stillY Y Q r (a.put o.dst v)
theorem anyY_lex (hY : Looks ops Y) {Q : Act → Prop} {target : Array Bool} (hs : Region.noSelect ops = true) :
    ∀ (l : List Nat) (listed : Array Bool) (a : Act), hasAll ops.toList l = true → lexL md ops l listed = true → phaseB md ops target l.length listed = true →
      stillY Y Q (opsAt ops.toList l) a → anyY md ops Y Q l.length listed a
  | [], _, _, _, _, _, h => h
  | i :: l, listed, a, ha, hl, hb, h => by
    simp only [hasAll, Bool.and_eq_true] at ha
    simp only [lexL, Bool.and_eq_true] at hl
    obtain ⟨o, ho⟩ := Option.isSome_iff_exists.1 ha.1
    simp only [opsAt, ho] at h
    obtain ⟨v, hy, hK⟩ := h
    have ho' : ops[i]? = some o := by simpa using ho
    have hr : i ∈ Region.ready md ops listed := by simpa using hl.1.1
    have hb2 : phaseB md ops target l.length (listed.setIfInBounds i true) = true := by
      have hb1 := hb
      simp only [List.length_cons, phaseB, Bool.and_eq_true, List.all_eq_true] at hb1
      exact hb1.2 i hr
    exact anyY_first hY ho' (Region.noSelect_spec hs) l.length listed a (Region.free_spec ho' hl.1.2) hr hb hy
      (anyY_lex hY hs l _ _ ha.2 hl.2 hb2 hK)
def phaseA (md : Region.Mode) (ops : Array Oper) (o0 : Oper) (target : Array Bool) : Nat → Array Bool → Bool
  | 0, listed => decide (listed = target)
  | k + 1, listed => !(Region.ready md ops listed).isEmpty && (Region.ready md ops listed).all fun i => (match ops[i]? with
    | some oj => o0.apart ops oj
    | none => true) && phaseA md ops o0 target k (listed.setIfInBounds i true)
theorem phaseA_B {o0 : Oper} {target : Array Bool} : ∀ (k : Nat) (listed : Array Bool), phaseA md ops o0 target k listed = true → phaseB md ops target k listed = true
  | 0, _, h => h
  | k + 1, listed, h => by
    simp only [phaseA, Bool.and_eq_true, List.all_eq_true] at h
    simp only [phaseB, Bool.and_eq_true, List.all_eq_true]
    exact ⟨h.1, fun i hi => phaseA_B k _ (h.2 i hi).2⟩
theorem anyY_put (hY : Looks ops Y) {Q : Act → Prop} {target : Array Bool} {o0 : Oper} {v : Value} (hsel : ∀ (j : Nat) (o : Oper) cs b, ops[j]? = some o → o.op ≠ .select cs b) :
    ∀ (k : Nat) (listed : Array Bool) (a : Act), phaseA md ops o0 target k listed = true → anyY md ops Y Q k listed a → anyY md ops Y (fun a' => ∃ a2, Q a2 ∧ a' = a2.put o0.dst v) k listed (a.put o0.dst v)
  | 0, _, a, _, h => ⟨a, h, rfl⟩
  | k + 1, listed, a, hb, h => by
    intro j hj
    simp only [phaseA, Bool.and_eq_true, List.all_eq_true] at hb
    have hb1 := hb.2 j hj
    have h1 := h j hj
    obtain ⟨_, oj, hoj, _⟩ := mem_ready.1 hj
    rw [hoj] at hb1
    exact opY_put' hY hoj hb1.1 (fun cs b => hsel j oj cs b hoj) (fun a' h2 => anyY_put hY hsel k _ a' hb1.2 h2) h1
theorem opI_of_opY {Inv : World → Prop} (hYI : ∀ o v a, Y o v a → YI ro P ops Inv o v a) {i : Nat} {K : Act → Prop} {a : Act} (h : opY ops Y i K a) : opI ro P ops Inv i K a := by
  unfold opY at h
  unfold opI
  split at h
  · rename_i ho; simp only [ho]; exact h
  · rename_i o ho
    obtain ⟨v, h1, h2⟩ := h
    simp only [ho]
    exact ⟨v, hYI _ _ _ h1, h2⟩
theorem wpAny_of_anyY {Inv : World → Prop} (hYI : ∀ o v a, Y o v a → YI ro P ops Inv o v a) {target : Array Bool} {fuel : Nat} {Q : Act → Prop} {Q' : Exit → Act → World → Prop} (hQ : ∀ a w, Q a → Inv w → wpAnyIn (FR ro) 0 P md ops Q' fuel target a w) :
    ∀ (k : Nat) (listed : Array Bool) (a : Act) (w : World), Inv w → phaseB md ops target k listed = true → anyY md ops Y Q k listed a → wpAnyIn (FR ro) 0 P md ops Q' (k + fuel) listed a w
  | 0, listed, a, w, hw, hb, h => by
    have : listed = target := by simpa [phaseB] using hb
    subst this
    rw [Nat.zero_add]
    exact hQ _ _ h hw
  | k + 1, listed, a, w, hw, hb, h => by
    simp only [phaseB, Bool.and_eq_true, List.all_eq_true, Bool.not_eq_true', List.isEmpty_eq_false_iff] at hb
    rw [show k + 1 + fuel = (k + fuel) + 1 by omega]
    refine ⟨fun h0 => absurd h0 hb.1, fun i hi => wpOpIn_of_opI (Inv := Inv) (fun a' w' hk hi' => ?_) hw (opI_of_opY hYI (h i hi))⟩
    exact wpAny_of_anyY hYI hQ k _ a' w' hi' (hb.2 i hi) hk
theorem wpAny_alloc (hY : Looks ops Y) {Inv : World → Prop} {Inv' : Nat → World → Prop} {val : Nat → Value} {okb : Nat → Prop} {t1 t2 : Array Bool} {fuel : Nat} {Q : Act → Prop} {Q' : Exit → Act → World → Prop} {i0 : Nat} {o0 : Oper}
    (hsel : ∀ (j : Nat) (o : Oper) cs b, ops[j]? = some o → o.op ≠ .select cs b)
    (hYI : ∀ o v a, Y o v a → YI ro P ops Inv o v a)
    (hA : ∀ (a : Act) (w : World) (K : Act → World → Prop), Inv w → (∀ p w', okb p → Inv' p w' → (∀ o v a, Y o v a → YI ro P ops (Inv' p) o v a) → K (a.put o0.dst (val p)) w') → wpOpIn (FR ro) 0 P ops Q' i0 K a w)
    (hQ2 : ∀ a w, Q a → Inv w → wpAnyIn (FR ro) 0 P md ops Q' (1 + fuel) t2 a w)
    (hQ : ∀ p a w, okb p → Q a → Inv' p w → wpAnyIn (FR ro) 0 P md ops Q' fuel t1 (a.put o0.dst (val p)) w) :
    ∀ (k : Nat) (listed : Array Bool) (a : Act) (w : World), Inv w → i0 ∈ Region.ready md ops listed → phaseX md ops i0 t2 k listed = true → phaseA md ops o0 t1 k (listed.setIfInBounds i0 true) = true →
      anyY md ops Y Q k (listed.setIfInBounds i0 true) a → wpAnyIn (FR ro) 0 P md ops Q' (k + (1 + fuel)) listed a w := by
  intro k
  induction k with
  | zero =>
    intro listed a w hw hr hx hb H
    have e2 : listed = t2 := by simpa [phaseX] using hx
    subst e2
    rw [Nat.zero_add]
    exact hQ2 a w H hw
  | succ k ih =>
    intro listed a w hw hr hx hb H
    rw [show k + 1 + (1 + fuel) = (k + (1 + fuel)) + 1 by omega]
    refine ⟨fun h => (by rw [h] at hr; cases hr), fun j hj => ?_⟩
    by_cases hji : j = i0
    · subst hji
      refine hA a w _ hw fun p w' hok hi' hYp => ?_
      have := wpAny_of_anyY (fuel := fuel) (Inv := Inv' p) hYp (target := t1) (Q := fun a' => ∃ a2, Q a2 ∧ a' = a2.put o0.dst (val p)) (Q' := Q') (md := md) (fun a' w2 ⟨a2, h1, h2⟩ h3 => by rw [h2]; exact hQ p a2 w2 hok h1 h3)
        (k + 1) _ (a.put o0.dst (val p)) w' hi' (phaseA_B _ _ hb) (anyY_put hY hsel _ _ _ hb H)
      rw [show k + (1 + fuel) = k + 1 + fuel by omega]
      exact this
    · have h1 := H j (ready_mono hj hji)
      have hx' : phaseX md ops i0 t2 k (listed.setIfInBounds j true) = true := by
        rw [phaseX, List.all_eq_true] at hx
        have := hx j hj
        rw [Bool.or_eq_true] at this
        rcases this with h | h
        · exact absurd (Nat.eq_of_beq_eq_true h) hji
        · exact h
      have hb' : phaseA md ops o0 t1 k ((listed.setIfInBounds j true).setIfInBounds i0 true) = true := by
        simp only [phaseA, Bool.and_eq_true, List.all_eq_true] at hb
        have := (hb.2 j (ready_mono hj hji)).2
        rwa [Array.setIfInBounds_comm _ _ hji]
      refine wpOpIn_of_opI (Inv := Inv) (fun a' w' hk hi' => ?_) hw (opI_of_opY hYI h1)
      refine ih (listed.setIfInBounds j true) a' w' hi' (ready_mono hr (Ne.symm hji)) hx' hb' ?_
      rw [Array.setIfInBounds_comm _ _ hji]
      exact hk
end any
abbrev YS (C : Cx) (all : Array Oper) (E : Env) (ow : Own) (nx : Nat) (u : Im) (df : List Deferred) : Oper → Value → Act → Prop :=
  fun o v a => ∀ u', u.le u' → YI C.ro C.P all (fun w => ∃ f, Sat E ow nx u' df w f) o v a
theorem looks_YS {C : Cx} {all : Array Oper} {E : Env} {ow : Own} {nx : Nat} {u : Im} {df : List Deferred} : Looks all (YS C all E ow nx u df) :=
  fun _ _ _ _ he hw h u' hu => (h u' hu).of_same he hw
def XS (C : Cx) (all : List Oper) (todo : List Oper) (Q : St → Prop) (st : St) (u : Im) : Prop :=
  ∀ E a w0, Ok C E st u a w0 → stillY (YS C all.toArray E st.ow st.nx u a.defers)
    (fun a' => a'.defers = a.defers ∧ ∃ st', st'.ow = st.ow ∧ st'.nx = st.nx ∧ Agr C.N E st' a'.tmps ∧ Q st') todo a
theorem xs_step {C : Cx} {all : List Oper} {o : Oper} {r : List Oper} {Q : St → Prop} {st : St} {u : Im} {g : Gd} {d : Nat} {s : SV}
    (hg : guardOf all st o = some g) (hd : o.dst = some d) (hf : fresh C.N st d g = true) (hnd : ∀ c, o.op ≠ .defer c)
    (hlt0 : ∀ E a w, Ok C E st u a w → gs a.tmps g → s.lt E st.nx)
    (hrun : ∀ u', u.le u' → ∀ E a w, Ok C E st u' a w → gs a.tmps g → upI C.ro C.P (fun w => ∃ f, Sat E st.ow st.nx u' a.defers w f) (s.den E) ((execOp a.eval o).run C.P w))
    (K : XS C all r Q (st.put d g s) u) : XS C all (o :: r) Q st u := by
  intro E a w0 hok
  have how : (st.put d g s).ow = st.ow := by cases g <;> rfl
  have hnx : (st.put d g s).nx = st.nx := by cases g <;> rfl
  have hgd := guard_sound (all := all.toArray) hok.agr (by simpa using hg)
  have go : ∀ x, (gs a.tmps g → x = s.den E) → (¬ gs a.tmps g → x = undef) → YS C all.toArray E st.ow st.nx u a.defers o x a →
      stillY (YS C all.toArray E st.ow st.nx u a.defers) (fun a' => a'.defers = a.defers ∧ ∃ st', st'.ow = st.ow ∧ st'.nx = st.nx ∧ Agr C.N E st' a'.tmps ∧ Q st') (o :: r) a := by
    intro x hx hnx' hy
    refine ⟨x, hy, ?_⟩
    have hput : Agr C.N E (st.put d g s) (a.tmps.setIfInBounds d x) :=
      hok.agr.put hf (hlt0 E a w0 hok) hx hnx' (fun hn => by subst hn; exact hx (fun y hy => by cases hy))
    have := K E (a.put o.dst x) w0 ⟨by rw [hd]; exact hput, by rw [how, hnx, hd]; exact hok.sat⟩
    rw [how, hnx, hd] at this
    rw [hd]
    exact this
  by_cases hw : Region.wanted o (yielded all.toArray a.tmps) = true
  · have hgs := hgd.1 hw
    exact go _ (fun _ => rfl) (fun hn => absurd hgs hn) (fun u' hu => .inl ⟨hw, hnd, fun w hi => hrun u' hu E a w ⟨hok.agr, hi⟩ hgs⟩)
  · have hgs := hgd.2 (by simpa using hw)
    exact go undef (fun hy => absurd hy hgs) (fun _ => rfl) (fun _ _ => .inr ⟨by simpa using hw, rfl⟩)
theorem xs_sound {C : Cx} {T : TT} (hT : TOk C.P T) {all : List Oper} {Q : St → Prop} {u : Im} {S : List Oper → St → Prop}
    (hS : ∀ l st, S l st → XS C all l Q st u) :
    ∀ (todo : List Oper) (st : St), xd T C.N all Q S todo st → XS C all todo Q st u := by
  intro todo
  induction todo with
  | nil =>
    intro st h
    unfold xd at h
    split at h
    · rename_i hg
      intro E a w hok
      exact ⟨rfl, st.shut, rfl, rfl, hok.agr.shut hg, h⟩
    · exact hS _ _ h
  | cons o r ih =>
    intro st h
    unfold xd at h
    split at h
    · exact hS _ _ h
    · rename_i g hg
      split at h
      · rename_i s side he
        split at h
        · rename_i d hd
          split at h
          · rename_i hf
            rw [St.putK_eq] at h
            have main : ∀ u' E a w, Ok C E st u' a w → gs a.tmps g → (execOp a.eval o).run C.P w = .ok (.value (s.den E)) w ∧ s.lt E st.nx := fun u' E a w hok hgs =>
              eff_sound hT hok hgs he ((sides_split h).2 (gprops_sound hok.agr hgs (fun _ _ _ => trivial)))
            refine xs_step hg hd hf (notDefer_of_val he) (fun E a w hok hgs => (main u E a w hok hgs).2) (fun u' _ E a w hok hgs => ?_) (ih _ (sides_split h).1)
            rw [(main u' E a w hok hgs).1]
            exact ⟨rfl, hok.sat⟩
          · exact hS _ _ h
        · exact hS _ _ h
      · exact hS _ _ h
theorem xs_go {T : TT} {C : Cx} (hT : TOk C.P T) {all l : List Oper} {Q : St → Prop} {st : St} {u : Im}
    (h : st.force fun st => xd T C.N all Q (fun l st => XS C all l Q st u) l st) : XS C all l Q st u :=
  xs_sound hT (fun _ _ h => h) _ _ (by rw [St.force_eq] at h; exact h)
theorem xs_call0 {C : Cx} {all : List Oper} {o : Oper} {r : List Oper} {Q : St → Prop} {st : St} {u : Im} {c : Call} (v : Value) {g : Gd} {f d : Nat}
    (ho : o.op = .call c) (hg : guardOf all st o = some g) (hd : o.dst = some d)
    (hc : callee st c = some f) (hfn : Fn1 C.P f) {ss : List SV} (hargs : argsOf st g c.args.toList = some ss) (hfr : fresh C.N st d g = true)
    (H : allL (gprops st g) → ∀ u', u.le u' → ∀ E w F, Sat E st.ow st.nx u' [] w F → Calls C.P f (ss.map (SV.den E)).toArray w (PureP w fun x _ => x = v))
    (K : XS C all r Q (st.put d g (.v v)) u) : XS C all (o :: r) Q st u := by
  refine xs_step (s := .v v) hg hd hfr (fun c' hc' => by rw [ho] at hc'; cases hc') (fun _ _ _ _ _ => trivial) (fun u' hu E a w hok hgs => ?_) K
  rw [call_runG ho hc hfn hargs hok hgs]
  obtain ⟨fF, hsat⟩ := hok.sat
  refine (calls_in (H (allL_of (gprops_sound hok.agr hgs (fun _ _ _ => trivial))) u' hu E w fF hsat.unmarked)).mono ?_
  rintro e w' ⟨x, rfl, hbel, rfl⟩
  exact ⟨rfl, fF, hsat.keep hbel⟩
def Rs.tame : Rs → Bool
  | .box _ _ => true
  | .row _ _ => true
  | .sl _ => true
  | .emp => true
  | .gen _ => false
theorem Sat.melt {E : Env} {ow : Own} {nx : Nat} {u : Im} {df : List Deferred} {w0 w : World} {f0 f : Nat → Nat → Prop} {p t : Nat} {cs : List SV}
    (h0 : Sat E ow nx u df w0 f0) (hp : u.h p = none) (htame : ∀ k r, look ow k = some r → r.tame = true) (hlt : ∀ x ∈ cs, x.lt E nx)
    (h : Sat E ow nx { u with h := fun b => if b = p then some (.cells (cs.map (SV.den E)).toArray t (0, 0)) else u.h b } df w f) :
    Sat (upd E nx (.pointer (some ⟨p, 0, none⟩))) ((nx, .box t cs) :: ow) (nx + 1) u df w (upd f nx (fun b => b = p)) := by
  have hE : ∀ k, k < nx → upd E nx (.pointer (some ⟨p, 0, none⟩)) k = E k := fun k hk => upd_other _ _ (by omega)
  have hpp : w.heap[p]? = some (.cells (cs.map (SV.den E)).toArray t (0, 0)) := h.imm.h p _ (by simp)
  have hfp : ∀ k, ¬ f k p := fun k hk => by have := h.off k p hk; simp at this
  have hlim : Imm u w := ⟨fun b o hb => h.imm.h b o (by
    show (if b = p then _ else u.h b) = _
    rw [if_neg (fun e => by rw [e, hp] at hb; cases hb)]; exact hb), h.imm.os, h.imm.tape, h.imm.output, h.imm.lo⟩
  have hoff : ∀ k b, f k b → u.h b = none := fun k b hk => by
    have := h.off k b hk
    have hne : b ≠ p := fun e => hfp k (e ▸ hk)
    simpa [hne] using this
  have hs : Sat E ow nx u df w f := by
    refine ⟨fun k r hk => ?_, h.non, h.apart, hoff, h.lt, hlim, ?_⟩
    · have h1 := h.holds k r hk
      have h2 := htame k r hk
      cases r with
      | box t cs => exact h1
      | row e D => exact h1
      | sl D => exact ⟨(h0.holds k _ hk).1, h1.2⟩
      | gen A => cases h2
      | emp => exact h1
    · obtain ⟨ds, e1, e2, e3⟩ := h.marks
      refine ⟨ds, e1, e2, fun d hd => ?_⟩
      obtain ⟨g1, g2, g3⟩ := e3 d hd
      refine ⟨g1, ?_, g3⟩
      have hne : d ≠ p := fun e => by rw [e] at g2; simp at g2
      simpa [hne] using g2
  refine ⟨fun k r hk => ?_, fun k hk b hb => ?_, fun k k' b hne h1 h2 => ?_, fun k b hb => ?_, fun k r hk => ?_, hlim, ?_⟩
  · rw [look_cons] at hk
    split at hk
    · rename_i e; subst e; cases hk
      refine ⟨p, upd_same _ _ _, fun x => by rw [upd_same], ?_⟩
      rw [hpp]
      congr 3
      exact List.map_congr_left fun s hs => (SV.den_congr hE (hlt s hs)).symm
    · rename_i e
      rw [upd_other _ _ (Ne.symm e)]
      obtain ⟨g1, g2⟩ := hs.lt k r hk
      exact Rs.holds_congr hE g1 g2 (hs.holds k r hk)
  · rw [look_cons] at hk
    split at hk
    · cases hk
    · rename_i e
      rw [upd_other _ _ (Ne.symm e)] at hb
      exact hs.non k hk b hb
  · by_cases e : k = nx
    · subst e
      rw [upd_same] at h1
      rw [upd_other _ _ (Ne.symm hne)] at h2
      exact hfp k' (h1 ▸ h2)
    · rw [upd_other _ _ e] at h1
      by_cases e' : k' = nx
      · subst e'
        rw [upd_same] at h2
        exact hfp k (h2 ▸ h1)
      · rw [upd_other _ _ e'] at h2
        exact hs.apart k k' b hne h1 h2
  · by_cases e : k = nx
    · subst e; rw [upd_same] at hb; rw [hb]; exact hp
    · rw [upd_other _ _ e] at hb; exact hs.off k b hb
  · rw [look_cons] at hk
    split at hk
    · rename_i e; subst e; cases hk
      exact ⟨Nat.lt_succ_self _, fun s hs => SV.lt_mono hE (Nat.le_succ _) (hlt s hs)⟩
    · obtain ⟨g1, g2⟩ := hs.lt k r hk
      exact ⟨by omega, Rs.lt_mono hE (Nat.le_succ _) g2⟩
  · obtain ⟨ds, e1, e2, e3⟩ := h.marks
    refine ⟨ds, e1, e2, fun d hd => ?_⟩
    obtain ⟨g1, g2, g3⟩ := e3 d hd
    have hne : d ≠ p := fun e => by rw [e] at g2; simp at g2
    refine ⟨g1, by simpa [hne] using g2, fun k hk => ?_⟩
    by_cases e : k = nx
    · subst e; rw [upd_same] at hk; exact hne hk
    · rw [upd_other _ _ e] at hk; exact g3 k hk
abbrev Im.with (u : Im) (p : Nat) (o : Obj) : Im := { u with h := fun b => if b = p then some o else u.h b }
theorem Im.le_with {u : Im} {p : Nat} {o : Obj} (hp : u.h p = none) : u.le (u.with p o) :=
  ⟨fun b x hb => by
    show (if b = p then _ else u.h b) = _
    rw [if_neg (fun e => by rw [e, hp] at hb; cases hb)]; exact hb, rfl, rfl, rfl, rfl⟩
theorem Sat.withNew {E : Env} {ow : Own} {nx : Nat} {u : Im} {df : List Deferred} {w : World} {f : Nat → Nat → Prop} (h : Sat E ow nx u df w f) (x : Obj) :
    u.h w.heap.size = none ∧ Sat E ow nx (u.with w.heap.size x) df (w.alloc x) f := by
  have hn : u.h w.heap.size = none := by
    cases ho : u.h w.heap.size with
    | none => rfl
    | some y => have := (Array.getElem?_eq_some_iff.1 (h.imm.h _ y ho)).1; omega
  have hz : (w.alloc x).heap.size = w.heap.size + 1 := World.size_alloc _ _
  have hold : ∀ b, b < w.heap.size → (w.alloc x).heap[b]? = w.heap[b]? := fun b hb => Below.heap_alloc _ _ _ hb
  refine ⟨hn, h.step (fun _ => False) (fun _ _ => rfl) (Nat.le_refl _) (Im.le_with hn) ?_ (by omega) (fun b hb _ => hold b hb) (fun _ _ => ⟨rfl, fun _ => Iff.rfl⟩) (fun _ hk => hk.elim) (fun _ _ _ hk => hk.elim) (fun b o ho => ?_)⟩
  · refine ⟨fun b o ho => ?_, h.imm.os, h.imm.tape, h.imm.output, by have := h.imm.lo; show u.lo ≤ _; omega⟩
    have ho : (if b = w.heap.size then some x else u.h b) = some o := ho
    split at ho
    · rename_i e; cases ho; rw [e]; exact heap_alloc_new w x
    · rw [hold b (Array.getElem?_eq_some_iff.1 (h.imm.h b o ho)).1]; exact h.imm.h b o ho
  · have ho : (if b = w.heap.size then some x else u.h b) = some o := ho
    split at ho
    · rename_i e; right; omega
    · exact .inl ho
theorem xa_alloc {T : TT} {C : Cx} (hT : TOk C.P T) {ops : Array Oper} {Q : Post} {st : St} {u : Im} {fuel n d0 t : Nat} {ti : TI} {listed : Array Bool} {o0 : Oper} (i0 : Nat) (l : List Nat) (hn : n = l.length + (1 + fuel))
    (ho : ops.toList[i0]? = some o0) (hop : o0.op = .alloc t) (hgd : o0.guard = none) (hd : o0.dst = some d0) (hti : look T t = some ti)
    (hsel : Region.noSelect ops = true) (ha : hasAll ops.toList l = true) (hl : lexL .any ops l (listed.setIfInBounds i0 true) = true)
    (hr : (Region.ready .any ops listed).contains i0 = true)
    (hb : phaseA .any ops o0 (marks listed (i0 :: l)) l.length (listed.setIfInBounds i0 true) = true) (hx : phaseX .any ops i0 (marks listed l) l.length listed = true)
    (htame : st.ow.all (fun x => x.2.tame) = true)
    (h : XS C ops.toList (opsAt ops.toList l) (fun st' => fresh C.N st' d0 [] = true ∧ XA C ops fuel (marks listed (i0 :: l)) Q ⟨(d0, .p st.nx 0) :: st'.kn, st'.gk, (st.nx, .box t (ti.zero.map .v)) :: st.ow, st.nx + 1⟩ u ∧ XA C ops (1 + fuel) (marks listed l) Q st' u) st u) : XA C ops n listed Q st u := by
  subst hn
  intro E a w hok
  obtain ⟨f0, hsat0⟩ := hok.sat
  unfold XS at h
  have h1 := h E a w hok
  simp only [Array.toArray_toList] at h1
  have hti' := hT _ _ hti
  have ho' : ops[i0]? = some o0 := by simpa using ho
  have hcs : ∀ x ∈ (ti.zero.map SV.v), x.lt E st.nx := fun x hx => by
    simp only [List.mem_map] at hx; obtain ⟨y, _, rfl⟩ := hx; trivial
  have htm : ∀ k r, look st.ow k = some r → r.tame = true := fun k r hk => by
    have := List.all_eq_true.1 htame (k, r)
    refine this ?_
    clear this h h1 hok hsat0 htame
    generalize st.ow = ow at hk
    induction ow with
    | nil => cases hk
    | cons y ow ih =>
      obtain ⟨k', r'⟩ := y
      rw [look_cons] at hk
      split at hk
      · rename_i e; subst e; cases hk; exact List.mem_cons_self ..
      · exact List.mem_cons_of_mem _ (ih hk)
  let ob : Obj := .cells ((ti.zero.map SV.v).map (SV.den E)).toArray t (0, 0)
  refine wpAny_alloc looks_YS (Y := YS C ops E st.ow st.nx u a.defers) (Inv := fun w => ∃ f, Sat E st.ow st.nx u a.defers w f) (t1 := marks listed (i0 :: l)) (t2 := marks listed l)
    (Inv' := fun b w' => ∃ f, Sat E st.ow st.nx (u.with b ob) a.defers w' f) (val := fun b => .pointer (some ⟨b, 0, none⟩)) (okb := fun b => u.h b = none)
    (Region.noSelect_spec hsel) (fun o v a h => h u (Im.le.refl u)) ?_ ?_ ?_ l.length listed a w ⟨f0, hsat0⟩ (by simpa using hr) hx hb
    (anyY_lex looks_YS hsel l _ _ ha hl (phaseA_B _ _ hb) h1)
  · intro a1 w1 K hw1 hK
    obtain ⟨f1, hs1⟩ := hw1
    obtain ⟨e1, e2⟩ := hs1.withNew ob
    have hrun : (execOp a1.eval o0).run C.P w1 = .ok (.value (.pointer (some ⟨w1.heap.size, 0, none⟩))) (w1.alloc ob) := by
      obtain ⟨dst, op, ty, pos, after, guard⟩ := o0
      simp only at hop
      subst hop
      simp [execOp, Instr.alloc, run_zeroValue w1 hti', run_newVar, ob, TI.zv_cells hti', Function.comp_def, SV.den]
    have hw : Region.wanted o0 (yielded ops a1.tmps) = true := by
      unfold Region.wanted; rw [hgd]
    have key : wpOpIn (FR C.ro) 0 C.P ops (SemQ C E st.nx u Q) i0 K a1 w1 := by
      unfold wpOpIn
      simp only [ho']
      rw [if_pos hw]
      refine ⟨fun _ _ => trivial, ?_⟩
      rw [semAt_eq _ _ _ (fun c hc => by rw [hop] at hc; cases hc), hrun]
      exact hK w1.heap.size _ e1 ⟨f1, e2⟩ (fun o v a h => h _ (Im.le_with e1))
    exact key
  · rintro a1 w1 ⟨h2, st', h3, h4, h5, _, _, h7⟩ hi
    have := h7 E a1 w1 ⟨h5, by rw [h3, h4, h2]; exact hi⟩
    rwa [h4] at this
  · rintro b a1 w1 hub ⟨h2, st', h3, h4, h5, h6, h7, _⟩ ⟨f1, hs1⟩
    have hs2 := hsat0.melt hub htm hcs hs1
    have hE : ∀ j, j < st.nx → upd E st.nx (.pointer (some ⟨b, 0, none⟩)) j = E j := fun j hj => upd_other _ _ (by omega)
    have hg := h5.grow (E' := upd E st.nx (.pointer (some ⟨b, 0, none⟩))) (ow := (st.nx, .box t (ti.zero.map .v)) :: st.ow) (nx := st.nx + 1) (by rw [h4]; exact hE) (by rw [h4]; exact Nat.le_succ _)
    have hput := hg.put (d := d0) (g := []) (s := .p st.nx 0) (x := .pointer (some ⟨b, 0, none⟩)) h6 (fun _ => ⟨Nat.lt_succ_self _, _, upd_same _ _ _⟩) (fun _ => by simp [SV.den, ptrOf, upd_same]) (fun hn => absurd (fun x hx => (by cases hx)) hn)
      (fun _ => by simp [SV.den, ptrOf, upd_same])
    rw [hd]
    have := h7 (upd E st.nx (.pointer (some ⟨b, 0, none⟩))) (a1.put (some d0) (.pointer (some ⟨b, 0, none⟩))) w1 ⟨⟨hput.size, hput.kn, hput.gk, hput.klt, hput.glt⟩, _, by
      show Sat _ _ _ _ a1.defers _ _
      rw [h2]; exact hs2⟩
    exact wpAnyIn_post (fun e a w => SemQ.mono hE (Nat.le_succ _) (Im.le.refl u)) this
end Go.GV
namespace Go.GV
open Go.RowKit
theorem xl_gcallF {C : Cx} {all : List Oper} {o : Oper} {r : List Oper} {Q : Post} {kn : Kn} {gk : List (Nat × (Gd × SV))} {ow : Own} {nx : Nat} {u : Im} {c : Call} (v : Value) {y : Nat × Bool} {g : Gd} {f d : Nat}
    (ho : o.op = .call c) (hg : guardOf all ⟨kn, gk, ow, nx⟩ o = some (y :: g)) (hd : o.dst = some d)
    (hc : callee ⟨kn, gk, ow, nx⟩ c = some f) (hfn : Fn1 C.P f) {ss : List SV} (hargs : argsOf ⟨kn, gk, ow, nx⟩ (y :: g) c.args.toList = some ss) (hfr : fresh C.N ⟨kn, gk, ow, nx⟩ d (y :: g) = true)
    (H : ∀ E w F, Sat E ow nx u [] w F → Calls C.P f (ss.map (SV.den E)).toArray w (PureP w fun x _ => x = v))
    (K : XL C all r Q ⟨kn, (d, (y :: g, .v v)) :: gk, ow, nx⟩ u) : XL C all (o :: r) Q ⟨kn, gk, ow, nx⟩ u :=
  xl_gcall0 (st := ⟨kn, gk, ow, nx⟩) v ho hg hd hc hfn hargs hfr (fun _ => H) K
end Go.GV
namespace Go.Cd
theorem step_pot {m m' : Me} {t : Tk} (hn : nnM m) (h : step m t = some m') : nnM m' ∧ potM m' ≤ potM m + 1 := by
  obtain ⟨S, p, d, a⟩ := m
  obtain ⟨n1, n2, n3⟩ := hn
  obtain ⟨k1, k2, k3⟩ := settle_pot n1 n3
  simp only at n1 n2 n3 k1 k2 k3
  unfold step at h
  unfold nnM potM
  simp only at h ⊢
  split at h
  · split at h
    · simp only [Option.some.injEq] at h; subst h
      exact ⟨⟨n1, Int.le_refl _, by simp only; omega⟩, by simp only; omega⟩
    split at h
    · simp only [Option.some.injEq] at h; subst h
      exact ⟨⟨n1, by simp only; omega, n3⟩, by simp only; omega⟩
    split at h
    · simp only [Option.some.injEq] at h; subst h
      exact ⟨⟨⟨n2, n3, n1⟩, Int.le_refl _, Int.le_refl _⟩, by simp only [potS]; omega⟩
    · cases h
  split at h
  · simp only [Option.some.injEq] at h; subst h
    exact ⟨⟨⟨Int.le_refl _, n3, n1⟩, n2, Int.le_refl _⟩, by simp only [potS]; omega⟩
  split at h
  · split at h
    · rename_i e r d' he
      rw [he] at k1 k2 k3
      simp only [potS] at k3
      obtain ⟨k4, k5, k6⟩ := k1
      split at h
      · simp only [Option.some.injEq] at h; subst h
        exact ⟨⟨⟨k4, by simp only; omega, k6⟩, n2, Int.le_refl _⟩, by simp only [potS]; omega⟩
      · cases h
    · cases h
  split at h
  · split at h
    · rename_i e r d' he
      rw [he] at k1 k2 k3
      simp only [potS] at k3
      obtain ⟨k4, k5, k6⟩ := k1
      split at h
      · cases h
      · simp only [Option.some.injEq] at h; subst h
        exact ⟨⟨k6, Int.le_refl _, by simp only; omega⟩, by simp only; omega⟩
    · cases h
  split at h
  · cases h
  · simp only [Option.some.injEq] at h; subst h
    exact ⟨⟨n1, n2, n3⟩, by simp only; omega⟩
theorem op_of {t : Tk} {s : ByteArray} (h : opT t = s) (hs : s ≠ ⟨#[]⟩) : t = .op s := by
  cases t with
  | num v u => exact absurd h.symm hs
  | op x => have h : x = s := h; rw [h]
theorem step_clN {S l : List En} {p d d' : Int} {t : Tk} (h : opT t = cl) (hs : settle S d = (l, d')) (hl : l = [] ∨ ∃ e r, l = e :: r ∧ e.ch = false) : step ⟨S, p, d, true⟩ t = none := by
  rw [op_of h (by decide), step_cl, hs]
  rcases hl with rfl | ⟨e, r, rfl, hc⟩
  · rfl
  · simp only [hc, Bool.false_eq_true, if_false]
theorem step_clS {S r : List En} {e : En} {p d d' : Int} {t : Tk} (h : opT t = cl) (hs : settle S d = (e :: r, d')) (hc : e.ch = true) : step ⟨S, p, d, true⟩ t = some ⟨⟨e.ch, e.pf, true, max e.dp d'⟩ :: r, p, 0, false⟩ := by
  rw [op_of h (by decide), step_cl, hs]
  simp only [hc, if_true]
theorem step_rpN {S l : List En} {p d d' : Int} {t : Tk} (h : opT t = rp) (hs : settle S d = (l, d')) (hl : l = [] ∨ ∃ e r, l = e :: r ∧ e.ch = true) : step ⟨S, p, d, true⟩ t = none := by
  rw [op_of h (by decide), step_rp, hs]
  rcases hl with rfl | ⟨e, r, rfl, hc⟩
  · rfl
  · simp only [hc, if_true]
theorem step_rpS {S r : List En} {e : En} {p d d' : Int} {t : Tk} (h : opT t = rp) (hs : settle S d = (e :: r, d')) (hc : e.ch = false) : step ⟨S, p, d, true⟩ t = some ⟨r, 0, max e.dp (d' + 1 + e.pf), true⟩ := by
  rw [op_of h (by decide), step_rp, hs]
  simp only [hc, Bool.false_eq_true, if_false]
end Go.Cd
namespace Go.Proofs.YtnjmkeijjapejaaGreatDoor
open Go.GV Go.RowKit
def ptV (t : Cd.Tk) : Value := .agg #[.bool (Cd.isNum t), .int .u64 (Cd.vT t), .bool (Cd.uT t), .string (Cd.opT t)]
theorem set_top {R : List Cd.En} (h : 0 < R.length) (x : Cd.En) : R.set ((R.length : Int) - 1).toNat x = (x :: (R.take ((R.length : Int) - 1).toNat).reverse).reverse := by
  have e : ((R.length : Int) - 1).toNat = R.length - 1 := by omega
  rw [e, List.reverse_cons, List.reverse_reverse, List.set_eq_take_append_cons_drop, if_pos (by omega), show R.length - 1 + 1 = R.length by omega, List.drop_length]
theorem getD_set_self {R : List Cd.En} {i : Nat} {x y : Cd.En} (h : i < R.length) : (R.set i x).getD i y = x := by
  rw [List.getD_eq_getElem?_getD, List.getElem?_set_self h]; rfl
theorem enOne : ∀ x, ∀ y ∈ enY.el x, oneB y = true := by
  intro x y hy
  simp [Lay.el, enY] at hy
  rcases hy with rfl | rfl | rfl | rfl <;> rfl
set_option maxHeartbeats 4000000 in
set_option maxRecDepth 100000 in
theorem step_sc (m : Cd.Me) (t : Cd.Tk) (hn : Cd.nnM m) (hp : Cd.potM m ≤ 100000000) : SC Tryz.prog 19 OpG 2 (mtO m) [.p 0 0, .v (ptV t)]
    (fun s : Cd.Me × List Cd.En => (mtK 2 s.2 s.1.pf s.1.dp s.1.af, 3, .bool (Cd.step m t).isSome)) (fun s => s.2 = s.1.st.reverse ∧ (Cd.step m t = some s.1 ∨ Cd.step m t = none)) := by
  have hset0 := settle_sc m hn (by omega)
  have hpt := Cd.settle_pot hn.1 hn.2.2
  obtain ⟨n1, n2, n3⟩ := hn
  have hlen := Cd.potS_len n1
  unfold Cd.potM at hp
  obtain ⟨S, p, d, a⟩ := m
  simp only at n1 n2 n3 hlen hp hpt
  obtain ⟨S', d', hsd⟩ : ∃ S' d', Cd.settle S d = (S', d') := ⟨_, _, rfl⟩
  have hset : SC Tryz.prog 20 (fun _ => True) 2 (mtO ⟨S, p, d, a⟩) [.p 0 0] (fun _ : Unit => (mtK 2 S'.reverse p d' a, 3, .tuple #[])) (fun _ => True) := by
    have h := hset0
    simp only [hsd] at h
    exact h
  rw [hsd] at hpt
  simp only at hpt
  obtain ⟨q1, q2, q3⟩ := hpt
  have hlen' := Cd.potS_len q1
  clear hset0
  obtain ⟨R, hR⟩ : ∃ R, R = S'.reverse := ⟨_, rfl⟩
  have hS' : S' = R.reverse := by rw [hR, List.reverse_reverse]
  rw [← hR] at hset
  rw [hS'] at hsd q1 q3 hlen'
  rw [List.length_reverse] at hlen'
  have hlR : (R.length : Int) ≤ 100000000 := by omega
  clear hR hS'
  refine x_sc tt_ok Tryz.func19 rfl rfl rfl rfl (fun u hO => ?_)
  refine x_vc tt_ok ?_
  refine x_if (fun h1 => ?_) (fun h1 => ?_)
  · have h1 : (!a) = true := h1
    have ha : a = false := by simpa using h1
    subst ha
    refine x_if (fun h2 => ?_) (fun h2 => ?_)
    · have h2 : Cd.isNum t = true := h2
      have e : Cd.step ⟨S, p, d, false⟩ t = some ⟨S, 0, max d (1 + p), true⟩ := by simp [Cd.step, h2]
      rw [e]
      repeat (refine And.intro ?_ ?_; first | omega | (simp only [Lay.d_n]; omega))
      refine xl_callSC (operand_sc S.reverse p d false (1 + p)) (fun _ _ _ _ => trivial) trivial [0, 1] rfl rfl rfl rfl fn44 rfl rfl rfl rfl rfl rfl rfl (fun _ => rfl) (fun _ u1 hu1 _ => ?_)
      refine xl_go tt_ok ?_
      exact ⟨(⟨S, 0, max d (1 + p), true⟩, S.reverse), [(2, some 3)], [_], rfl, rfl, .of rfl rfl rfl rfl rfl rfl, of_decide_eq_true rfl, rfl, .inl rfl⟩
    have h2 : Cd.isNum t = false := h2
    refine x_if (fun h3 => ?_) (fun h3 => ?_)
    · have h3 : Cd.isPre (Cd.opT t) = true := h3
      have e : Cd.step ⟨S, p, d, false⟩ t = some ⟨S, p + 1, d, false⟩ := by simp [Cd.step, h2, h3]
      rw [e]
      repeat (refine And.intro ?_ ?_; first | omega | (simp only [Lay.d_n]; omega))
      exact ⟨(⟨S, p + 1, d, false⟩, S.reverse), [(2, some 1)], [_], rfl, rfl, .of rfl rfl rfl rfl rfl rfl, of_decide_eq_true rfl, rfl, .inl rfl⟩
    have h3 : Cd.isPre (Cd.opT t) = false := h3
    refine x_if (fun h4 => ?_) (fun h4 => ?_)
    · have h4 : Cd.opT t = Cd.lp := of_decide_eq_true h4
      have e : Cd.step ⟨S, p, d, false⟩ t = some ⟨⟨false, p, false, d⟩ :: S, 0, 0, false⟩ := by simp [Cd.step, h2, h4, Cd.pre_lp]
      rw [e]
      refine x_via (σ := Unit) (fun _ => ⟨[(0, .p 0 0)], [], mtK 7 (S.reverse ++ [⟨false, p, false, d⟩]) p d false, 8⟩) (fun _ _ => True) (fun _ => by show 3 ≤ 8; omega) ?_ ?_
      · refine x_drawA mix ?_
        refine xa_puresN tt_ok (fuel := 9) [0, 1, 2, 3, 5, 6, 7, 9, 10, 11] rfl (by kernel_rfl) (by kernel_rfl) (fun _ _ _ hh => hh) (by kernel_rfl) (by kernel_rfl) ?_
        refine xa_late2 tt_ok (fuel := 5) 4 13 [8, 12, 13] rfl rfl rfl (by kernel_rfl) (by kernel_rfl) (by kernel_rfl) (by kernel_rfl) (by kernel_rfl) (xd_go tt_ok ?_)
        refine ⟨rfl, ?_, ?_⟩
        · refine xa_chain (fuel := 0) [14, 15, 16, 17, 18] rfl rfl (by kernel_rfl) ?_
          refine xl_push tt_ok enY S.reverse ⟨false, p, false, d⟩ 32 (cs := [.bool false, .int .i64 p, .bool false, .int .i64 d]) rfl rfl rfl rfl rfl rfl rfl rfl rfl rfl rfl rfl (by kernel_rfl) rfl rfl rfl rfl rfl (fun n hn => by cases hn; decide) rfl rfl rfl (by rw [List.length_reverse]; omega) (by rw [List.length_reverse]; omega) ?_
          refine xl_go tt_ok ?_
          refine xa_done (by kernel_rfl) rfl ?_
          exact meet () [(7, some 3)] (.of rfl rfl rfl rfl rfl rfl) trivial
        · refine xa_two 4 14 (by kernel_rfl) rfl rfl (xl_go tt_ok ?_) ?_
          · refine xa_chain (fuel := 0) [14, 15, 16, 17, 18] rfl rfl (by kernel_rfl) ?_
            refine xl_push tt_ok enY S.reverse ⟨false, p, false, d⟩ 32 (cs := [.bool false, .int .i64 p, .bool false, .int .i64 d]) rfl rfl rfl rfl rfl rfl rfl rfl rfl rfl rfl rfl (by kernel_rfl) rfl rfl rfl rfl rfl (fun n hn => by cases hn; decide) rfl rfl rfl (by rw [List.length_reverse]; omega) (by rw [List.length_reverse]; omega) ?_
            refine xl_go tt_ok ?_
            refine xa_done (by kernel_rfl) rfl ?_
            exact meet () [(7, some 3)] (.of rfl rfl rfl rfl rfl rfl) trivial
          · refine xl_build tt_ok enY [(⟨false, p, false, d⟩ : Cd.En)] [_] rfl rfl rfl rfl rfl rfl rfl rfl rfl rfl rfl rfl rfl rfl rfl ?_
            refine xl_end ?_
            refine xa_chain (fuel := 0) [4, 15, 16, 17, 18] rfl rfl (by kernel_rfl) (xl_go tt_ok ?_)
            refine xl_append tt_ok enY S.reverse [(⟨false, p, false, d⟩ : Cd.En)] 32 rfl rfl rfl rfl rfl rfl rfl rfl (by kernel_rfl) rfl rfl rfl (fun E w F hs => hs.rowAt (k := 3) rfl) enOne rfl (by rw [List.length_reverse, List.length_singleton]; omega) (by rw [List.length_reverse, List.length_singleton]; omega) ?_
            refine xl_go tt_ok ?_
            refine xa_done (by kernel_rfl) rfl ?_
            exact meet () [(7, some 4)] (.of rfl rfl rfl rfl rfl rfl) trivial
      rintro _ u3 hu3 _
      exact ⟨(⟨⟨false, p, false, d⟩ :: S, 0, 0, false⟩, S.reverse ++ [⟨false, p, false, d⟩]), [(2, some 7)], [_], rfl, rfl, .of rfl rfl rfl rfl rfl rfl, of_decide_eq_true rfl, List.reverse_cons.symm, .inl rfl⟩
    · have h4 : ¬ Cd.opT t = Cd.lp := of_decide_eq_false h4
      have e : Cd.step ⟨S, p, d, false⟩ t = none := by simp [Cd.step, h2, h3, h4]
      rw [e]
      exact ⟨(⟨S, p, d, false⟩, S.reverse), [(2, some 1)], [_], rfl, rfl, .of rfl rfl rfl rfl rfl rfl, of_decide_eq_true rfl, rfl, .inr rfl⟩
  have h1 : (!a) = false := h1
  have ha : a = true := by simpa using h1
  subst ha
  refine x_if (fun h2 => ?_) (fun h2 => ?_)
  · have h2 : Cd.opT t = Cd.qm := of_decide_eq_true h2
    have e : Cd.step ⟨S, p, d, true⟩ t = some ⟨⟨true, 0, false, d⟩ :: S, p, 0, false⟩ := by simp [Cd.step, h2]
    rw [e]
    refine x_via (σ := Unit) (fun _ => ⟨[(0, .p 0 0)], [], mtK 7 (S.reverse ++ [⟨true, 0, false, d⟩]) p d true, 8⟩) (fun _ _ => True) (fun _ => by show 3 ≤ 8; omega) ?_ ?_
    · refine x_drawA mix ?_
      refine xa_puresN tt_ok (fuel := 8) [0, 1, 2, 3, 5, 6, 7] rfl (by kernel_rfl) (by kernel_rfl) (fun _ _ _ hh => hh) (by kernel_rfl) (by kernel_rfl) ?_
      refine xa_late2 tt_ok (fuel := 5) 4 9 [8, 9] rfl rfl rfl (by kernel_rfl) (by kernel_rfl) (by kernel_rfl) (by kernel_rfl) (by kernel_rfl) (xd_go tt_ok ?_)
      refine ⟨rfl, ?_, ?_⟩
      · refine xa_chain (fuel := 0) [10, 11, 12, 13, 14] rfl rfl (by kernel_rfl) ?_
        refine xl_push tt_ok enY S.reverse ⟨true, 0, false, d⟩ 32 (cs := [.bool true, .int .i64 0, .bool false, .int .i64 d]) rfl rfl rfl rfl rfl rfl rfl rfl rfl rfl rfl rfl (by kernel_rfl) rfl rfl rfl rfl rfl (fun n hn => by cases hn; decide) rfl rfl rfl (by rw [List.length_reverse]; omega) (by rw [List.length_reverse]; omega) ?_
        refine xl_go tt_ok ?_
        refine xa_done (by kernel_rfl) rfl ?_
        exact meet () [(7, some 3)] (.of rfl rfl rfl rfl rfl rfl) trivial
      · refine xa_two 4 10 (by kernel_rfl) rfl rfl (xl_go tt_ok ?_) ?_
        · refine xa_chain (fuel := 0) [10, 11, 12, 13, 14] rfl rfl (by kernel_rfl) ?_
          refine xl_push tt_ok enY S.reverse ⟨true, 0, false, d⟩ 32 (cs := [.bool true, .int .i64 0, .bool false, .int .i64 d]) rfl rfl rfl rfl rfl rfl rfl rfl rfl rfl rfl rfl (by kernel_rfl) rfl rfl rfl rfl rfl (fun n hn => by cases hn; decide) rfl rfl rfl (by rw [List.length_reverse]; omega) (by rw [List.length_reverse]; omega) ?_
          refine xl_go tt_ok ?_
          refine xa_done (by kernel_rfl) rfl ?_
          exact meet () [(7, some 3)] (.of rfl rfl rfl rfl rfl rfl) trivial
        · refine xl_build tt_ok enY [(⟨true, 0, false, d⟩ : Cd.En)] [_] rfl rfl rfl rfl rfl rfl rfl rfl rfl rfl rfl rfl rfl rfl rfl ?_
          refine xl_end ?_
          refine xa_chain (fuel := 0) [4, 11, 12, 13, 14] rfl rfl (by kernel_rfl) (xl_go tt_ok ?_)
          refine xl_append tt_ok enY S.reverse [(⟨true, 0, false, d⟩ : Cd.En)] 32 rfl rfl rfl rfl rfl rfl rfl rfl (by kernel_rfl) rfl rfl rfl (fun E w F hs => hs.rowAt (k := 3) rfl) enOne rfl (by rw [List.length_reverse, List.length_singleton]; omega) (by rw [List.length_reverse, List.length_singleton]; omega) ?_
          refine xl_go tt_ok ?_
          refine xa_done (by kernel_rfl) rfl ?_
          exact meet () [(7, some 4)] (.of rfl rfl rfl rfl rfl rfl) trivial
    rintro _ u3 hu3 _
    exact ⟨(⟨⟨true, 0, false, d⟩ :: S, p, 0, false⟩, S.reverse ++ [⟨true, 0, false, d⟩]), [(2, some 7)], [_], rfl, rfl, .of rfl rfl rfl rfl rfl rfl, of_decide_eq_true rfl, List.reverse_cons.symm, .inl rfl⟩
  have h2 : ¬ Cd.opT t = Cd.qm := of_decide_eq_false h2
  refine x_if (fun h3 => ?_) (fun h3 => ?_)
  · have h3 : Cd.opT t = Cd.cl := of_decide_eq_true h3
    refine xl_callSC hset (fun _ _ _ _ => trivial) trivial [0, 1] rfl rfl rfl rfl fn20 rfl rfl rfl rfl rfl rfl rfl (fun _ => rfl) (fun _ u1 hu1 _ => ?_)
    refine xl_go tt_ok ?_
    repeat (refine And.intro ?_ ?_; first | omega | (simp only [Lay.d_n]; omega) | (simp only [decide_eq_true_eq, decide_eq_false_iff_not, Bool.or_eq_false_iff, Bool.and_eq_true, Bool.or_eq_true, Bool.and_eq_false_iff, Bool.not_eq_true', Bool.not_eq_false', Lay.d_n]; omega) | (simp only [decide_eq_true_eq, decide_eq_false_iff_not, Bool.or_eq_false_iff, Bool.and_eq_true, Bool.or_eq_true, Bool.and_eq_false_iff, Bool.not_eq_true', Bool.not_eq_false']; omega) | (simp only [decide_eq_true_eq, decide_eq_false_iff_not, Bool.or_eq_false_iff]; simp only [Lay.d_n]; omega))
    refine x_if (fun h5 => ?_) (fun h5 => ?_)
    · have h5 : (decide ((R.length : Int) - 1 < 0) || !(R.getD ((R.length : Int) - 1).toNat enY.dft).ch) = true := h5
      have e : Cd.step ⟨S, p, d, true⟩ t = none := by
        refine Cd.step_clN h3 hsd ?_
        by_cases hR1 : 0 < R.length
        · rw [decide_eq_false (by omega), Bool.false_or] at h5
          exact .inr ⟨_, _, rev_split hR1, by simpa using h5⟩
        · exact .inl (by rw [List.length_eq_zero_iff.1 (by omega : R.length = 0)]; rfl)
      rw [e]
      exact ⟨(⟨R.reverse, p, d', true⟩, R), [(2, some 3)], [_], rfl, rfl, .of rfl rfl rfl rfl rfl rfl, of_decide_eq_true rfl, (List.reverse_reverse _).symm, .inr rfl⟩
    have h5 : (decide ((R.length : Int) - 1 < 0) || !(R.getD ((R.length : Int) - 1).toNat enY.dft).ch) = false := h5
    simp only [Bool.or_eq_false_iff, decide_eq_false_iff_not] at h5
    obtain ⟨h6, h7⟩ := h5
    have hR1 : 0 < R.length := by omega
    have hsp := rev_split hR1
    obtain ⟨e, he⟩ : ∃ e, e = R.getD ((R.length : Int) - 1).toNat enY.dft := ⟨_, rfl⟩
    rw [← he] at h7 hsp
    have h7 : e.ch = true := by simpa using h7
    rw [hsp] at hsd
    rw [Cd.step_clS h3 hsd h7]
    repeat (refine And.intro ?_ ?_; first | omega | (simp only [Lay.d_n]; omega))
    refine x_via (σ := Unit) (fun _ => ⟨[(0, .p 0 0)], [], mtK 7 ((R.set ((R.length : Int) - 1).toNat { (R.getD ((R.length : Int) - 1).toNat enY.dft) with se := true }).set ((R.length : Int) - 1).toNat ⟨(R.getD ((R.length : Int) - 1).toNat enY.dft).ch, (R.getD ((R.length : Int) - 1).toNat enY.dft).pf, true, max (R.getD ((R.length : Int) - 1).toNat enY.dft).dp d'⟩) p d' true, 8⟩) (fun _ _ => True) (fun _ => by show 4 ≤ 8; omega) ?_ ?_
    · refine x_drawA mix ?_
      refine xa_puresN tt_ok (fuel := 9) [0, 1, 2, 3, 4, 6, 7, 8] rfl (by kernel_rfl) (by kernel_rfl) (fun _ _ _ hh => hh) (by kernel_rfl) (by kernel_rfl) ?_
      refine xa_phase tt_ok (fuel := 7) [5, 9] rfl (by kernel_rfl) (by kernel_rfl) (by kernel_rfl) (by kernel_rfl) ?_
      refine xd_go tt_ok ?_
      repeat (refine And.intro ?_ ?_; first | omega | (simp only [Lay.d_n]; omega))
      refine xa_puresN tt_ok (fuel := 5) [11, 12] rfl (by kernel_rfl) (by kernel_rfl) (fun _ _ _ hh => hh) (by kernel_rfl) (by kernel_rfl) ?_
      refine xa_two 10 13 (by kernel_rfl) rfl rfl ?_ ?_
      · refine xl_max (max (R.getD ((R.length : Int) - 1).toNat enY.dft).dp d') (max_gt _ _) rfl rfl rfl rfl rfl rfl ?_
        refine xl_end ?_
        refine xa_chain (fuel := 0) [13, 14, 15, 16] rfl (by kernel_rfl) (by kernel_rfl) ?_
        refine xl_set tt_ok (off := 2) enY R { (R.getD ((R.length : Int) - 1).toNat enY.dft) with se := true } (cs := [.bool true]) rfl rfl rfl rfl rfl rfl rfl (by simp only [Lay.d_n]; omega) (by simp only [Lay.d_n]; omega) rfl rfl (by decide) rfl ?_
        refine xl_go tt_ok ?_
        refine xl_set tt_ok (off := 3) enY _ ⟨(R.getD ((R.length : Int) - 1).toNat enY.dft).ch, (R.getD ((R.length : Int) - 1).toNat enY.dft).pf, true, max (R.getD ((R.length : Int) - 1).toNat enY.dft).dp d'⟩ (cs := [.int .i64 (max (R.getD ((R.length : Int) - 1).toNat enY.dft).dp d')]) rfl rfl rfl rfl rfl rfl rfl (by simp only [Lay.d_n]; omega) (by rw [List.length_set]; simp only [Lay.d_n]; omega) rfl rfl (Nat.le_refl 4) (by rw [getD_set_self (by simp only [Lay.d_n]; omega)]; rfl) ?_
        refine xl_go tt_ok ?_
        refine xa_done (by kernel_rfl) rfl ?_
        exact meet () [(7, some 3)] (.of rfl rfl rfl rfl rfl rfl) trivial
      · refine xl_set tt_ok (off := 2) enY R { (R.getD ((R.length : Int) - 1).toNat enY.dft) with se := true } (cs := [.bool true]) rfl rfl rfl rfl rfl rfl rfl (by simp only [Lay.d_n]; omega) (by simp only [Lay.d_n]; omega) rfl rfl (by decide) rfl ?_
        refine xl_end ?_
        refine xa_chain (fuel := 0) [10, 14, 15, 16] rfl (by kernel_rfl) (by kernel_rfl) ?_
        refine xl_max (max (R.getD ((R.length : Int) - 1).toNat enY.dft).dp d') (max_gt _ _) rfl rfl rfl rfl rfl rfl ?_
        refine xl_go tt_ok ?_
        refine xl_set tt_ok (off := 3) enY _ ⟨(R.getD ((R.length : Int) - 1).toNat enY.dft).ch, (R.getD ((R.length : Int) - 1).toNat enY.dft).pf, true, max (R.getD ((R.length : Int) - 1).toNat enY.dft).dp d'⟩ (cs := [.int .i64 (max (R.getD ((R.length : Int) - 1).toNat enY.dft).dp d')]) rfl rfl rfl rfl rfl rfl rfl (by simp only [Lay.d_n]; omega) (by rw [List.length_set]; simp only [Lay.d_n]; omega) rfl rfl (Nat.le_refl 4) (by rw [getD_set_self (by simp only [Lay.d_n]; omega)]; rfl) ?_
        refine xl_go tt_ok ?_
        refine xa_done (by kernel_rfl) rfl ?_
        exact meet () [(7, some 3)] (.of rfl rfl rfl rfl rfl rfl) trivial
    rintro _ u3 hu3 _
    rw [List.set_set, set_top hR1, ← he]
    exact ⟨(⟨⟨e.ch, e.pf, true, max e.dp d'⟩ :: (R.take ((R.length : Int) - 1).toNat).reverse, p, 0, false⟩, _), [(2, some 7)], [_], rfl, rfl, .of rfl rfl rfl rfl rfl rfl, of_decide_eq_true rfl, rfl, .inl rfl⟩
  have h3 : ¬ Cd.opT t = Cd.cl := of_decide_eq_false h3
  refine x_if (fun h4 => ?_) (fun h4 => ?_)
  · have h4 : Cd.opT t = Cd.rp := of_decide_eq_true h4
    refine xl_callSC hset (fun _ _ _ _ => trivial) trivial [0, 1] rfl rfl rfl rfl fn20 rfl rfl rfl rfl rfl rfl rfl (fun _ => rfl) (fun _ u1 hu1 _ => ?_)
    refine xl_go tt_ok ?_
    repeat (refine And.intro ?_ ?_; first | omega | (simp only [Lay.d_n]; omega) | (simp only [decide_eq_true_eq, decide_eq_false_iff_not, Bool.or_eq_false_iff, Bool.and_eq_true, Bool.or_eq_true, Bool.and_eq_false_iff, Bool.not_eq_true', Bool.not_eq_false', Lay.d_n]; omega) | (simp only [decide_eq_true_eq, decide_eq_false_iff_not, Bool.or_eq_false_iff, Bool.and_eq_true, Bool.or_eq_true, Bool.and_eq_false_iff, Bool.not_eq_true', Bool.not_eq_false']; omega) | (simp only [decide_eq_true_eq, decide_eq_false_iff_not, Bool.or_eq_false_iff]; simp only [Lay.d_n]; omega))
    refine x_if (fun h5 => ?_) (fun h5 => ?_)
    · have h5 : (decide ((R.length : Int) - 1 < 0) || (R.getD ((R.length : Int) - 1).toNat enY.dft).ch) = true := h5
      have e : Cd.step ⟨S, p, d, true⟩ t = none := by
        refine Cd.step_rpN h4 hsd ?_
        by_cases hR1 : 0 < R.length
        · rw [decide_eq_false (by omega), Bool.false_or] at h5
          exact .inr ⟨_, _, rev_split hR1, h5⟩
        · exact .inl (by rw [List.length_eq_zero_iff.1 (by omega : R.length = 0)]; rfl)
      rw [e]
      exact ⟨(⟨R.reverse, p, d', true⟩, R), [(2, some 3)], [_], rfl, rfl, .of rfl rfl rfl rfl rfl rfl, of_decide_eq_true rfl, (List.reverse_reverse _).symm, .inr rfl⟩
    have h5 : (decide ((R.length : Int) - 1 < 0) || (R.getD ((R.length : Int) - 1).toNat enY.dft).ch) = false := h5
    simp only [Bool.or_eq_false_iff, decide_eq_false_iff_not] at h5
    obtain ⟨h6, h7⟩ := h5
    have hR1 : 0 < R.length := by omega
    have hsp := rev_split hR1
    obtain ⟨e, he⟩ : ∃ e, e = R.getD ((R.length : Int) - 1).toNat enY.dft := ⟨_, rfl⟩
    rw [← he] at h7 hsp
    rw [hsp] at hsd q1 q3
    rw [Cd.step_rpS h4 hsd h7]
    obtain ⟨k1, k2, k3⟩ := q1
    simp only [Cd.potS] at q3
    have hpl := Cd.potS_len k3
    refine x_via (σ := Unit) (fun _ => ⟨[(9, .v (.int .i64 d')), (8, .p 6 0), (7, .v (.int .i64 ((R.length : Int) - 1))), (0, .p 0 0)], [], (6, .box 103 [.v (.bool (R.getD ((R.length : Int) - 1).toNat enY.dft).ch), .v (.int .i64 (R.getD ((R.length : Int) - 1).toNat enY.dft).pf), .v (.bool (R.getD ((R.length : Int) - 1).toNat enY.dft).se), .v (.int .i64 (R.getD ((R.length : Int) - 1).toNat enY.dft).dp)]) :: mtK 7 R p d' true, 8⟩) (fun _ _ => True) (fun _ => by show 4 ≤ 8; omega) ?_ ?_
    · refine x_drawA mix ?_
      refine xa_puresN tt_ok (fuel := 7) [0, 1, 2, 4, 7, 8, 9] rfl (by kernel_rfl) (by kernel_rfl) (fun _ _ _ hh => hh) (by kernel_rfl) (by kernel_rfl) ?_
      refine xa_three 3 10 11 (by kernel_rfl) rfl rfl rfl (xl_go tt_ok ?_) (xl_go tt_ok ?_) (xl_go tt_ok ?_)
      · refine xa_three 5 10 11 (by kernel_rfl) rfl rfl rfl (xl_go tt_ok ?_) (xl_go tt_ok ?_) (xl_go tt_ok ?_)
        · repeat (refine And.intro ?_ ?_; first | omega | (simp only [Lay.d_n]; omega))
          refine xa_three 6 10 11 (by kernel_rfl) rfl rfl rfl (xl_go tt_ok ?_) (xl_go tt_ok ?_) (xl_go tt_ok ?_)
          · refine xa_two 10 11 (by kernel_rfl) rfl rfl (xl_go tt_ok ?_) (xl_go tt_ok ?_)
            · refine xa_chain (fuel := 0) [11, 12, 13] rfl (by kernel_rfl) (by kernel_rfl) (xl_go tt_ok ?_)
              refine xa_done (by kernel_rfl) rfl ?_
              exact meet () [(7, some 3), (6, some 4)] (.of rfl rfl rfl rfl rfl rfl) trivial
            · refine xa_two 10 12 (by kernel_rfl) rfl rfl (xl_go tt_ok ?_) (xl_go tt_ok ?_)
              · refine xa_chain (fuel := 0) [12, 13] rfl (by kernel_rfl) (by kernel_rfl) (xl_go tt_ok ?_)
                refine xa_done (by kernel_rfl) rfl ?_
                exact meet () [(7, some 3), (6, some 4)] (.of rfl rfl rfl rfl rfl rfl) trivial
              · refine xa_chain (fuel := 0) [10, 13] rfl (by kernel_rfl) (by kernel_rfl) (xl_go tt_ok ?_)
                refine xa_done (by kernel_rfl) rfl ?_
                exact meet () [(7, some 3), (6, some 4)] (.of rfl rfl rfl rfl rfl rfl) trivial
          · refine xa_two 6 11 (by kernel_rfl) rfl rfl (xl_go tt_ok ?_) (xl_go tt_ok ?_)
            · refine xa_chain (fuel := 0) [11, 12, 13] rfl (by kernel_rfl) (by kernel_rfl) (xl_go tt_ok ?_)
              refine xa_done (by kernel_rfl) rfl ?_
              exact meet () [(7, some 3), (6, some 4)] (.of rfl rfl rfl rfl rfl rfl) trivial
            · refine xa_chain (fuel := 0) [6, 12, 13] rfl (by kernel_rfl) (by kernel_rfl) (xl_go tt_ok ?_)
              refine xa_done (by kernel_rfl) rfl ?_
              exact meet () [(7, some 3), (6, some 4)] (.of rfl rfl rfl rfl rfl rfl) trivial
          · refine xa_two 6 10 (by kernel_rfl) rfl rfl (xl_go tt_ok ?_) (xl_go tt_ok ?_)
            · refine xa_two 10 12 (by kernel_rfl) rfl rfl (xl_go tt_ok ?_) (xl_go tt_ok ?_)
              · refine xa_chain (fuel := 0) [12, 13] rfl (by kernel_rfl) (by kernel_rfl) (xl_go tt_ok ?_)
                refine xa_done (by kernel_rfl) rfl ?_
                exact meet () [(7, some 3), (6, some 4)] (.of rfl rfl rfl rfl rfl rfl) trivial
              · refine xa_chain (fuel := 0) [10, 13] rfl (by kernel_rfl) (by kernel_rfl) (xl_go tt_ok ?_)
                refine xa_done (by kernel_rfl) rfl ?_
                exact meet () [(7, some 3), (6, some 4)] (.of rfl rfl rfl rfl rfl rfl) trivial
            · refine xa_chain (fuel := 0) [6, 12, 13] rfl (by kernel_rfl) (by kernel_rfl) (xl_go tt_ok ?_)
              refine xa_done (by kernel_rfl) rfl ?_
              exact meet () [(7, some 3), (6, some 4)] (.of rfl rfl rfl rfl rfl rfl) trivial
        · refine xa_two 5 11 (by kernel_rfl) rfl rfl (xl_go tt_ok ?_) (xl_go tt_ok ?_)
          · repeat (refine And.intro ?_ ?_; first | omega | (simp only [Lay.d_n]; omega))
            refine xa_two 6 11 (by kernel_rfl) rfl rfl (xl_go tt_ok ?_) (xl_go tt_ok ?_)
            · refine xa_chain (fuel := 0) [11, 12, 13] rfl (by kernel_rfl) (by kernel_rfl) (xl_go tt_ok ?_)
              refine xa_done (by kernel_rfl) rfl ?_
              exact meet () [(7, some 3), (6, some 4)] (.of rfl rfl rfl rfl rfl rfl) trivial
            · refine xa_chain (fuel := 0) [6, 12, 13] rfl (by kernel_rfl) (by kernel_rfl) (xl_go tt_ok ?_)
              refine xa_done (by kernel_rfl) rfl ?_
              exact meet () [(7, some 3), (6, some 4)] (.of rfl rfl rfl rfl rfl rfl) trivial
          · refine xa_chain (fuel := 0) [5, 6, 12, 13] rfl (by kernel_rfl) (by kernel_rfl) (xl_go tt_ok ?_)
            repeat (refine And.intro ?_ ?_; first | omega | (simp only [Lay.d_n]; omega))
            refine xa_done (by kernel_rfl) rfl ?_
            exact meet () [(7, some 3), (6, some 4)] (.of rfl rfl rfl rfl rfl rfl) trivial
        · refine xa_two 5 10 (by kernel_rfl) rfl rfl (xl_go tt_ok ?_) (xl_go tt_ok ?_)
          · repeat (refine And.intro ?_ ?_; first | omega | (simp only [Lay.d_n]; omega))
            refine xa_two 6 10 (by kernel_rfl) rfl rfl (xl_go tt_ok ?_) (xl_go tt_ok ?_)
            · refine xa_two 10 12 (by kernel_rfl) rfl rfl (xl_go tt_ok ?_) (xl_go tt_ok ?_)
              · refine xa_chain (fuel := 0) [12, 13] rfl (by kernel_rfl) (by kernel_rfl) (xl_go tt_ok ?_)
                refine xa_done (by kernel_rfl) rfl ?_
                exact meet () [(7, some 3), (6, some 4)] (.of rfl rfl rfl rfl rfl rfl) trivial
              · refine xa_chain (fuel := 0) [10, 13] rfl (by kernel_rfl) (by kernel_rfl) (xl_go tt_ok ?_)
                refine xa_done (by kernel_rfl) rfl ?_
                exact meet () [(7, some 3), (6, some 4)] (.of rfl rfl rfl rfl rfl rfl) trivial
            · refine xa_chain (fuel := 0) [6, 12, 13] rfl (by kernel_rfl) (by kernel_rfl) (xl_go tt_ok ?_)
              refine xa_done (by kernel_rfl) rfl ?_
              exact meet () [(7, some 3), (6, some 4)] (.of rfl rfl rfl rfl rfl rfl) trivial
          · refine xa_chain (fuel := 0) [5, 6, 12, 13] rfl (by kernel_rfl) (by kernel_rfl) (xl_go tt_ok ?_)
            repeat (refine And.intro ?_ ?_; first | omega | (simp only [Lay.d_n]; omega))
            refine xa_done (by kernel_rfl) rfl ?_
            exact meet () [(7, some 3), (6, some 4)] (.of rfl rfl rfl rfl rfl rfl) trivial
      · refine xa_two 3 11 (by kernel_rfl) rfl rfl (xl_go tt_ok ?_) (xl_go tt_ok ?_)
        · refine xa_two 5 11 (by kernel_rfl) rfl rfl (xl_go tt_ok ?_) (xl_go tt_ok ?_)
          · repeat (refine And.intro ?_ ?_; first | omega | (simp only [Lay.d_n]; omega))
            refine xa_two 6 11 (by kernel_rfl) rfl rfl (xl_go tt_ok ?_) (xl_go tt_ok ?_)
            · refine xa_chain (fuel := 0) [11, 12, 13] rfl (by kernel_rfl) (by kernel_rfl) (xl_go tt_ok ?_)
              refine xa_done (by kernel_rfl) rfl ?_
              exact meet () [(7, some 3), (6, some 4)] (.of rfl rfl rfl rfl rfl rfl) trivial
            · refine xa_chain (fuel := 0) [6, 12, 13] rfl (by kernel_rfl) (by kernel_rfl) (xl_go tt_ok ?_)
              refine xa_done (by kernel_rfl) rfl ?_
              exact meet () [(7, some 3), (6, some 4)] (.of rfl rfl rfl rfl rfl rfl) trivial
          · refine xa_chain (fuel := 0) [5, 6, 12, 13] rfl (by kernel_rfl) (by kernel_rfl) (xl_go tt_ok ?_)
            repeat (refine And.intro ?_ ?_; first | omega | (simp only [Lay.d_n]; omega))
            refine xa_done (by kernel_rfl) rfl ?_
            exact meet () [(7, some 3), (6, some 4)] (.of rfl rfl rfl rfl rfl rfl) trivial
        · refine xa_chain (fuel := 0) [3, 5, 6, 12, 13] rfl (by kernel_rfl) (by kernel_rfl) (xl_go tt_ok ?_)
          repeat (refine And.intro ?_ ?_; first | omega | (simp only [Lay.d_n]; omega))
          refine xa_done (by kernel_rfl) rfl ?_
          exact meet () [(7, some 3), (6, some 4)] (.of rfl rfl rfl rfl rfl rfl) trivial
      · refine xa_two 3 10 (by kernel_rfl) rfl rfl (xl_go tt_ok ?_) (xl_go tt_ok ?_)
        · refine xa_two 5 10 (by kernel_rfl) rfl rfl (xl_go tt_ok ?_) (xl_go tt_ok ?_)
          · repeat (refine And.intro ?_ ?_; first | omega | (simp only [Lay.d_n]; omega))
            refine xa_two 6 10 (by kernel_rfl) rfl rfl (xl_go tt_ok ?_) (xl_go tt_ok ?_)
            · refine xa_two 10 12 (by kernel_rfl) rfl rfl (xl_go tt_ok ?_) (xl_go tt_ok ?_)
              · refine xa_chain (fuel := 0) [12, 13] rfl (by kernel_rfl) (by kernel_rfl) (xl_go tt_ok ?_)
                refine xa_done (by kernel_rfl) rfl ?_
                exact meet () [(7, some 3), (6, some 4)] (.of rfl rfl rfl rfl rfl rfl) trivial
              · refine xa_chain (fuel := 0) [10, 13] rfl (by kernel_rfl) (by kernel_rfl) (xl_go tt_ok ?_)
                refine xa_done (by kernel_rfl) rfl ?_
                exact meet () [(7, some 3), (6, some 4)] (.of rfl rfl rfl rfl rfl rfl) trivial
            · refine xa_chain (fuel := 0) [6, 12, 13] rfl (by kernel_rfl) (by kernel_rfl) (xl_go tt_ok ?_)
              refine xa_done (by kernel_rfl) rfl ?_
              exact meet () [(7, some 3), (6, some 4)] (.of rfl rfl rfl rfl rfl rfl) trivial
          · refine xa_chain (fuel := 0) [5, 6, 12, 13] rfl (by kernel_rfl) (by kernel_rfl) (xl_go tt_ok ?_)
            repeat (refine And.intro ?_ ?_; first | omega | (simp only [Lay.d_n]; omega))
            refine xa_done (by kernel_rfl) rfl ?_
            exact meet () [(7, some 3), (6, some 4)] (.of rfl rfl rfl rfl rfl rfl) trivial
        · refine xa_chain (fuel := 0) [3, 5, 6, 12, 13] rfl (by kernel_rfl) (by kernel_rfl) (xl_go tt_ok ?_)
          repeat (refine And.intro ?_ ?_; first | omega | (simp only [Lay.d_n]; omega))
          refine xa_done (by kernel_rfl) rfl ?_
          exact meet () [(7, some 3), (6, some 4)] (.of rfl rfl rfl rfl rfl rfl) trivial
    rintro _ u3 hu3 _
    rw [← he]
    refine xl_cutTo tt_ok enY R rfl rfl rfl rfl rfl rfl rfl rfl rfl rfl (by omega) (by omega) ?_
    refine xl_go tt_ok ?_
    repeat (refine And.intro ?_ ?_; first | omega | (simp only [Lay.d_n]; omega))
    refine xl_callSC (operand_sc (R.take ((R.length : Int) - 1).toNat) p e.dp true (d' + 1 + e.pf)) (fun _ _ _ _ => trivial) trivial [0, 8] rfl rfl rfl rfl fn44 rfl rfl rfl rfl rfl rfl rfl (fun _ => rfl) (fun _ u4 hu4 _ => ?_)
    refine xl_go tt_ok ?_
    exact ⟨(⟨(R.take ((R.length : Int) - 1).toNat).reverse, 0, max e.dp (d' + 1 + e.pf), true⟩, R.take ((R.length : Int) - 1).toNat), [(2, some 9)], [_], rfl, rfl, .of rfl rfl rfl rfl rfl rfl, of_decide_eq_true rfl, (List.reverse_reverse _).symm, .inl rfl⟩
  have h4 : ¬ Cd.opT t = Cd.rp := of_decide_eq_false h4
  have hm : Cd.step ⟨S, p, d, true⟩ t = if (Cd.isNum t || decide (Cd.lev (Cd.opT t) = 0)) = true then none else some ⟨S, p, d, false⟩ := by
    unfold Cd.step
    simp only [Bool.true_eq_false, if_false]
    rw [if_neg h2, if_neg h3, if_neg h4]
  rw [hm]
  refine xl_gcallF (.int .i64 (Cd.lev (Cd.opT t))) rfl rfl rfl rfl fn45 rfl rfl (fun E w F hs => level_any _ w (hO.imm hs.imm)) ?_
  refine xl_go tt_ok ?_
  refine x_if (fun h5 => ?_) (fun h5 => ?_)
  · have h5 : (Cd.isNum t || decide (Cd.lev (Cd.opT t) = 0)) = true := h5
    rw [if_pos h5]
    exact ⟨(⟨S, p, d, true⟩, S.reverse), [(2, some 1)], [_], rfl, rfl, .of rfl rfl rfl rfl rfl rfl, of_decide_eq_true rfl, rfl, .inr rfl⟩
  · have h5 : (Cd.isNum t || decide (Cd.lev (Cd.opT t) = 0)) = false := h5
    rw [if_neg (by rw [h5]; simp)]
    exact ⟨(⟨S, p, d, false⟩, S.reverse), [(2, some 1)], [_], rfl, rfl, .of rfl rfl rfl rfl rfl rfl, of_decide_eq_true rfl, rfl, .inl rfl⟩
end Go.Proofs.YtnjmkeijjapejaaGreatDoor
namespace Go.Proofs.YtnjmkeijjapejaaGreatDoor
open Go.GV Go.RowKit
def nmV (x : Cd.Nm) : Value := .agg #[.int .u64 x.b, .bool x.u]
set_option maxRecDepth 100000 in
theorem divide_sc (L : List Cd.Tk) (i fl a b : Int) (op : ByteArray) (u live : Bool) (ha : Cd.rg a) (hb : Cd.rg b) : SC Tryz.prog 68 (fun _ => True) 2 (rdO L i fl) [.p 0 0, .v (.string op), .v (.int .u64 a), .v (.int .u64 b), .v (.bool u), .v (.bool live)]
    (fun _ : Unit => (rdO L i (Cd.divP op a b u live fl).2, 2, nmV (Cd.divP op a b u live fl).1)) (fun _ => True) := by
  have ha' := ha
  have hb' := hb
  unfold Cd.rg at ha' hb'
  have hsa := Cd.s64_rg ha
  have hsb := Cd.s64_rg hb
  unfold Cd.divP
  refine x_sc tt_ok Tryz.func68 rfl rfl rfl rfl (fun u0 _ => ?_)
  refine x_seq (x_vc tt_ok ?_)
  refine x_seq (x_vc tt_ok ?_)
  refine x_if (fun h => ?_) (fun h => ?_)
  · have h := of_decide_eq_true h
    rw [if_pos h]
    refine xl_callSC (fail_sc L i fl 71 live) (fun _ _ _ _ => trivial) trivial [0, 1] rfl rfl rfl rfl fn87 rfl rfl rfl rfl rfl rfl rfl (fun _ => rfl) (fun _ u1 hu1 _ => ?_)
    refine xl_go tt_ok ?_
    exact ⟨(), [], [_], rfl, rfl, .of rfl rfl rfl rfl rfl rfl, of_decide_eq_true rfl, trivial⟩
  have h0 : b ≠ 0 := of_decide_eq_false h
  rw [if_neg h0]
  clear h
  have hb0 : Cd.s64 b ≠ 0 := by
    unfold Cd.s64
    split <;> omega
  refine x_seq ?_
  refine x_region ?_
  refine xl_eff tt_ok rfl rfl rfl rfl trivial ?_
  refine xl_convI tt_ok (.int .i64 (Cd.s64 a)) rfl rfl rfl rfl rfl rfl rfl rfl rfl (by rw [wrap_s64 ha]) ?_
  refine xl_eff tt_ok rfl rfl rfl rfl trivial ?_
  refine xl_convI tt_ok (.int .i64 (Cd.s64 b)) rfl rfl rfl rfl rfl rfl rfl rfl rfl (by rw [wrap_s64 hb]) ?_
  refine xl_go tt_ok ?_
  refine x_seq ?_
  refine x_block ?_
  refine x_seq (x_vc tt_ok ?_)
  refine x_cond rfl (fun h => ?_) (fun h => ?_)
  · have h : (u && decide (op = ⟨#[47]⟩)) = true := h
    rw [if_pos h]
    have e1 := Int.ediv_nonneg ha'.1 hb'.1
    have e2 := Int.ediv_le_self b ha'.1
    refine x_vc tt_ok ?_
    repeat (refine And.intro ?_ ?_; first | omega | (simp only [Lay.d_n]; omega))
    exact ⟨(), [], [_], rfl, rfl, .of rfl rfl rfl rfl rfl rfl, of_decide_eq_true rfl, trivial⟩
  have h1 : ¬ (u && decide (op = ⟨#[47]⟩)) = true := fun hh => Bool.noConfusion (h.symm.trans hh)
  rw [if_neg h1]
  refine x_seq (x_vc tt_ok ?_)
  refine x_cond rfl (fun h => ?_) (fun h => ?_)
  · have h : u = true := h
    rw [if_pos h]
    refine x_vc tt_ok ?_
    repeat (refine And.intro ?_ ?_; first | omega | (simp only [Lay.d_n]; omega))
    exact ⟨(), [], [_], rfl, rfl, .of rfl rfl rfl rfl rfl rfl, of_decide_eq_true rfl, trivial⟩
  have h : u = false := h
  subst h
  rw [if_neg (show ¬ false = true by simp)]
  refine x_seq (x_vc tt_ok ?_)
  refine x_cond rfl (fun h => ?_) (fun h => ?_)
  · have h : ((decide (Cd.s64 a = -9223372036854775808) && decide (Cd.s64 b = -1)) && decide (op = ⟨#[47]⟩)) = true := h
    simp only [Bool.and_eq_true, decide_eq_true_eq] at h
    rw [if_pos ⟨h.1.1, h.1.2, h.2⟩]
    refine x_vc tt_ok ?_
    exact ⟨(), [], [_], rfl, rfl, .of rfl rfl rfl rfl rfl rfl, of_decide_eq_true rfl, trivial⟩
  have h : ((decide (Cd.s64 a = -9223372036854775808) && decide (Cd.s64 b = -1)) && decide (op = ⟨#[47]⟩)) = false := h
  rw [if_neg (fun hh => by rw [hh.1, hh.2.1, hh.2.2] at h; simp at h)]
  refine x_seq (x_vc tt_ok ?_)
  refine x_cond rfl (fun h2 => ?_) (fun h2 => ?_)
  · have h2 : (decide (Cd.s64 b = -1) && decide (op = ⟨#[37]⟩)) = true := h2
    simp only [Bool.and_eq_true, decide_eq_true_eq] at h2
    rw [if_pos h2]
    refine x_vc tt_ok ?_
    exact ⟨(), [], [_], rfl, rfl, .of rfl rfl rfl rfl rfl rfl, of_decide_eq_true rfl, trivial⟩
  have h2 : (decide (Cd.s64 b = -1) && decide (op = ⟨#[37]⟩)) = false := h2
  rw [if_neg (fun hh => by rw [hh.1, hh.2] at h2; simp at h2)]
  refine x_seq (x_vc tt_ok ?_)
  refine x_cond rfl (fun h3 => ?_) (fun h3 => ?_)
  · have h3 := of_decide_eq_true h3
    rw [if_pos h3]
    refine x_seq ?_
    refine x_region ?_
    refine xl_eff tt_ok rfl rfl rfl rfl trivial ?_
    refine xl_eff tt_ok rfl rfl rfl rfl trivial ?_
    refine xl_bin (.int .i64 (IntKind.i64.wrap ((Cd.s64 a).tdiv (Cd.s64 b)))) rfl rfl rfl rfl rfl rfl (fun w => rfl) (fun w => run_quo64 hb0) ?_
    refine xl_convI tt_ok (.int .u64 (Cd.wr ((Cd.s64 a).tdiv (Cd.s64 b)))) rfl rfl rfl rfl rfl rfl rfl rfl rfl (by rw [wrap_both]) ?_
    refine xl_go tt_ok ?_
    refine x_vc tt_ok ?_
    exact ⟨(), [], [_], rfl, rfl, .of rfl rfl rfl rfl rfl rfl, of_decide_eq_true rfl, trivial⟩
  have h3 := of_decide_eq_false h3
  rw [if_neg h3]
  refine x_vc tt_ok ?_
  refine x_seq ?_
  refine x_region ?_
  refine xl_eff tt_ok rfl rfl rfl rfl trivial ?_
  refine xl_eff tt_ok rfl rfl rfl rfl trivial ?_
  refine xl_bin (.int .i64 ((Cd.s64 a).tmod (Cd.s64 b))) rfl rfl rfl rfl rfl rfl (fun w => rfl) (fun w => run_rem64 hb0) ?_
  refine xl_convI tt_ok (.int .u64 (Cd.wr ((Cd.s64 a).tmod (Cd.s64 b)))) rfl rfl rfl rfl rfl rfl rfl rfl rfl (by rw [wrap_wr]) ?_
  refine xl_go tt_ok ?_
  refine x_vc tt_ok ?_
  exact ⟨(), [], [_], rfl, rfl, .of rfl rfl rfl rfl rfl rfl, of_decide_eq_true rfl, trivial⟩
set_option maxRecDepth 100000 in
theorem shift_sc (L : List Cd.Tk) (i fl : Int) (op : ByteArray) (a b : Cd.Nm) (live : Bool) (ha : Cd.rg a.b) (hb : Cd.rg b.b) : SC Tryz.prog 69 (fun _ => True) 2 (rdO L i fl) [.p 0 0, .v (.string op), .v (nmV a), .v (nmV b), .v (.bool live)]
    (fun _ : Unit => (rdO L i (Cd.shiP op a b live fl).2, 2, nmV (Cd.shiP op a b live fl).1)) (fun _ => True) := by
  obtain ⟨a, au⟩ := a
  obtain ⟨b, bu⟩ := b
  have ha' := ha
  have hb' := hb
  unfold Cd.rg at ha' hb'
  have hsa := Cd.s64_rg ha
  unfold Cd.shiP
  refine x_sc tt_ok Tryz.func69 rfl rfl rfl rfl (fun u0 _ => ?_)
  refine x_seq (x_vc tt_ok ?_)
  refine x_seq (x_vc tt_ok ?_)
  refine x_if (fun h => ?_) (fun h => ?_)
  · have h : 63 < b := of_decide_eq_true h
    rw [if_pos h]
    refine xl_callSC (fail_sc L i fl 70 live) (fun _ _ _ _ => trivial) trivial [0, 1] rfl rfl rfl rfl fn87 rfl rfl rfl rfl rfl rfl rfl (fun _ => rfl) (fun _ u1 hu1 _ => ?_)
    refine xl_go tt_ok ?_
    exact ⟨(), [], [_], rfl, rfl, .of rfl rfl rfl rfl rfl rfl, of_decide_eq_true rfl, trivial⟩
  have h : ¬ 63 < b := of_decide_eq_false h
  rw [if_neg h]
  have hb1 : 0 ≤ b := hb'.1
  have hb2 : b ≤ 63 := by omega
  refine x_seq ?_
  refine x_vc tt_ok ?_
  refine x_if (fun h2 => ?_) (fun h2 => ?_)
  · have h2 := of_decide_eq_true h2
    rw [if_pos h2]
    refine xl_bin (.int .u64 (Cd.wr (a * 2 ^ b.toNat))) rfl rfl rfl rfl rfl rfl (fun w => rfl) (fun w => run_shl64 hb1 hb2) ?_
    refine xl_go tt_ok ?_
    exact ⟨(), [], [_], rfl, rfl, .of rfl rfl rfl rfl rfl rfl, of_decide_eq_true rfl, trivial⟩
  have h2 := of_decide_eq_false h2
  rw [if_neg h2]
  refine x_if (fun h3 => ?_) (fun h3 => ?_)
  · have h3 : au = true := h3
    rw [if_pos h3]
    refine xl_bin (.int .u64 (a / 2 ^ b.toNat)) rfl rfl rfl rfl rfl rfl (fun w => rfl) (fun w => run_shr64 hb1 hb2) ?_
    refine xl_go tt_ok ?_
    exact ⟨(), [], [_], rfl, rfl, .of rfl rfl rfl rfl rfl rfl, of_decide_eq_true rfl, trivial⟩
  have h3 : au = false := h3
  subst h3
  rw [if_neg (by simp)]
  refine x_seq ?_
  refine x_region ?_
  refine xl_eff tt_ok rfl rfl rfl rfl (by trivial) ?_
  refine xl_eff tt_ok rfl rfl rfl rfl (by trivial) ?_
  refine xl_convI tt_ok (.int .i64 (Cd.s64 a)) rfl rfl rfl rfl rfl rfl rfl rfl rfl (by rw [wrap_s64 ha]) ?_
  refine xl_eff tt_ok rfl rfl rfl rfl (by trivial) ?_
  refine xl_eff tt_ok rfl rfl rfl rfl (by trivial) ?_
  refine xl_bin (.int .i64 (Cd.s64 a / 2 ^ b.toNat)) rfl rfl rfl rfl rfl rfl (fun w => rfl) (fun w => run_sar64 hb1 hb2) ?_
  refine xl_convI tt_ok (.int .u64 (Cd.wr (Cd.s64 a / 2 ^ b.toNat))) rfl rfl rfl rfl rfl rfl rfl rfl rfl (by rw [wrap_wr]) ?_
  refine xl_go tt_ok ?_
  refine x_vc tt_ok ?_
  exact ⟨(), [], [_], rfl, rfl, .of rfl rfl rfl rfl rfl rfl, of_decide_eq_true rfl, trivial⟩
end Go.Proofs.YtnjmkeijjapejaaGreatDoor
namespace Go.Proofs.YtnjmkeijjapejaaGreatDoor
open Go.GV Go.RowKit
set_option maxHeartbeats 2000000 in
set_option maxRecDepth 100000 in
theorem apply_sc (L : List Cd.Tk) (i fl : Int) (op : ByteArray) (a b : Cd.Nm) (live : Bool) (ha : Cd.rg a.b) (hb : Cd.rg b.b) : SC Tryz.prog 48 (fun _ => True) 2 (rdO L i fl) [.p 0 0, .v (.string op), .v (nmV a), .v (nmV b), .v (.bool live)]
    (fun _ : Unit => (rdO L i (Cd.applyP op a b live fl).2, 2, nmV (Cd.applyP op a b live fl).1)) (fun _ => True) := by
  obtain ⟨a, au⟩ := a
  obtain ⟨b, bu⟩ := b
  unfold Cd.applyP
  refine x_sc tt_ok Tryz.func48 rfl rfl rfl rfl (fun u0 _ => ?_)
  refine x_seq (x_vc tt_ok ?_)
  refine x_seq (x_vc tt_ok ?_)
  refine x_seq ?_
  refine x_seq (x_vc tt_ok ?_)
  refine x_block ?_
  refine x_seq (x_vc tt_ok ?_)
  refine x_cond rfl (fun h => ?_) (fun h => ?_)
  · rw [if_pos (of_decide_eq_true h)]
    refine x_vc tt_ok ?_
    refine xl_bin (.int .u64 (Cd.orI a b)) rfl rfl rfl rfl rfl rfl (fun w => rfl) (fun w => run_or ha hb) ?_
    refine xl_go tt_ok ?_
    exact ⟨(), [], [_], rfl, rfl, .of rfl rfl rfl rfl rfl rfl, of_decide_eq_true rfl, trivial⟩
  rw [if_neg (of_decide_eq_false h)]
  refine x_seq (x_vc tt_ok ?_)
  refine x_cond rfl (fun h => ?_) (fun h => ?_)
  · rw [if_pos (of_decide_eq_true h)]
    refine x_vc tt_ok ?_
    refine xl_bin (.int .u64 (Cd.xorI a b)) rfl rfl rfl rfl rfl rfl (fun w => rfl) (fun w => run_xor ha hb) ?_
    refine xl_go tt_ok ?_
    exact ⟨(), [], [_], rfl, rfl, .of rfl rfl rfl rfl rfl rfl, of_decide_eq_true rfl, trivial⟩
  rw [if_neg (of_decide_eq_false h)]
  refine x_seq (x_vc tt_ok ?_)
  refine x_cond rfl (fun h => ?_) (fun h => ?_)
  · rw [if_pos (of_decide_eq_true h)]
    refine x_vc tt_ok ?_
    refine xl_bin (.int .u64 (Cd.andI a b)) rfl rfl rfl rfl rfl rfl (fun w => rfl) (fun w => run_and ha hb) ?_
    refine xl_go tt_ok ?_
    exact ⟨(), [], [_], rfl, rfl, .of rfl rfl rfl rfl rfl rfl, of_decide_eq_true rfl, trivial⟩
  rw [if_neg (of_decide_eq_false h)]
  refine x_seq (x_vc tt_ok ?_)
  refine x_cond rfl (fun h => ?_) (fun h => ?_)
  · rw [if_pos (show op = Cd.plB from of_decide_eq_true h)]
    refine x_seq (x_region ?_)
    refine xl_eff tt_ok rfl rfl rfl rfl (by trivial) ?_
    refine xl_eff tt_ok rfl rfl rfl rfl (by trivial) ?_
    refine xl_eff tt_ok rfl rfl rfl rfl (by trivial) ?_
    refine xl_eff tt_ok rfl rfl rfl rfl (by trivial) ?_
    refine xl_bin (.int .u64 (Cd.wr (a + b))) rfl rfl rfl rfl rfl rfl (fun w => rfl) (fun w => run_plus64 a b) ?_
    refine xl_go tt_ok ?_
    refine x_vc tt_ok ?_
    exact ⟨(), [], [_], rfl, rfl, .of rfl rfl rfl rfl rfl rfl, of_decide_eq_true rfl, trivial⟩
  rw [if_neg (show ¬ op = Cd.plB from of_decide_eq_false h)]
  refine x_seq (x_vc tt_ok ?_)
  refine x_cond rfl (fun h => ?_) (fun h => ?_)
  · rw [if_pos (show op = Cd.miB from of_decide_eq_true h)]
    refine x_seq (x_region ?_)
    refine xl_eff tt_ok rfl rfl rfl rfl (by trivial) ?_
    refine xl_eff tt_ok rfl rfl rfl rfl (by trivial) ?_
    refine xl_eff tt_ok rfl rfl rfl rfl (by trivial) ?_
    refine xl_eff tt_ok rfl rfl rfl rfl (by trivial) ?_
    refine xl_bin (.int .u64 (Cd.wr (a - b))) rfl rfl rfl rfl rfl rfl (fun w => rfl) (fun w => run_minus64 a b) ?_
    refine xl_go tt_ok ?_
    refine x_vc tt_ok ?_
    exact ⟨(), [], [_], rfl, rfl, .of rfl rfl rfl rfl rfl rfl, of_decide_eq_true rfl, trivial⟩
  rw [if_neg (show ¬ op = Cd.miB from of_decide_eq_false h)]
  refine x_seq (x_vc tt_ok ?_)
  refine x_cond rfl (fun h => ?_) (fun h => ?_)
  · rw [if_pos (of_decide_eq_true h)]
    refine x_seq (x_region ?_)
    refine xl_eff tt_ok rfl rfl rfl rfl (by trivial) ?_
    refine xl_eff tt_ok rfl rfl rfl rfl (by trivial) ?_
    refine xl_eff tt_ok rfl rfl rfl rfl (by trivial) ?_
    refine xl_eff tt_ok rfl rfl rfl rfl (by trivial) ?_
    refine xl_bin (.int .u64 (Cd.wr (a * b))) rfl rfl rfl rfl rfl rfl (fun w => rfl) (fun w => run_times64 a b) ?_
    refine xl_go tt_ok ?_
    refine x_vc tt_ok ?_
    exact ⟨(), [], [_], rfl, rfl, .of rfl rfl rfl rfl rfl rfl, of_decide_eq_true rfl, trivial⟩
  rw [if_neg (of_decide_eq_false h)]
  refine x_cut (σ := Bool) (fun bb => ⟨[(73, .v (.bool bb)), (18, .v (.string op)), (11, .v (.bool (au || bu))), (10, .p 4 0), (8, .p 3 0), (7, .p 2 0), (0, .p 0 0), (1, .v (.string op)), (4, .v (.bool live))], [],
    [(4, .box 39 [.v (.int .u64 0), .v (.bool false)]), (3, .box 39 [.v (.int .u64 b), .v (.bool bu)]), (2, .box 39 [.v (.int .u64 a), .v (.bool au)]), (0, .box 46 [.r 1, .v (.int .i64 i), .v (.int .i64 fl)]), (1, .row 41 (ptY.d L))], 5⟩)
    (fun bb _ => bb = (decide (op = ⟨#[47]⟩) || decide (op = ⟨#[37]⟩))) (fun _ => Nat.le_refl 5) ?_ ?_
  · refine x_vc tt_ok ?_
    refine x_if (fun h => ?_) (fun h => ?_)
    · refine meet (decide (op = ⟨#[47]⟩)) [] (.of rfl rfl rfl rfl rfl rfl) ?_
      have h := of_decide_eq_true h
      rw [decide_eq_true h]; rfl
    · refine meet (decide (op = ⟨#[37]⟩)) [] (.of rfl rfl rfl rfl rfl rfl) ?_
      have h := of_decide_eq_false h
      rw [decide_eq_false h]; rfl
  rintro bb u1 hu1 hbb
  refine x_cond rfl (fun h => ?_) (fun h => ?_)
  · have h : bb = true := h
    rw [hbb, Bool.or_eq_true, decide_eq_true_eq, decide_eq_true_eq] at h
    rw [if_pos h]
    refine x_vc tt_ok ?_
    refine xl_callSC (divide_sc L i fl a b op (au || bu) live ha hb) (fun _ _ _ _ => trivial) trivial [0, 1] rfl rfl rfl rfl fn68 rfl rfl rfl rfl rfl rfl rfl (fun _ => rfl) (fun _ u1 hu1 _ => ?_)
    refine xl_go tt_ok ?_
    exact ⟨(), [], [_], rfl, rfl, .of rfl rfl rfl rfl rfl rfl, of_decide_eq_true rfl, trivial⟩
  have h : bb = false := h
  rw [hbb, Bool.or_eq_false_iff, decide_eq_false_iff_not, decide_eq_false_iff_not] at h
  rw [if_neg (fun hh => hh.elim h.1 h.2)]
  refine x_cut (σ := Bool) (fun bb => ⟨[(85, .v (.bool bb)), (18, .v (.string op)), (11, .v (.bool (au || bu))), (10, .p 4 0), (8, .p 3 0), (7, .p 2 0), (0, .p 0 0), (1, .v (.string op)), (4, .v (.bool live))], [],
    [(4, .box 39 [.v (.int .u64 0), .v (.bool false)]), (3, .box 39 [.v (.int .u64 b), .v (.bool bu)]), (2, .box 39 [.v (.int .u64 a), .v (.bool au)]), (0, .box 46 [.r 1, .v (.int .i64 i), .v (.int .i64 fl)]), (1, .row 41 (ptY.d L))], 5⟩)
    (fun bb _ => bb = (decide (op = ⟨#[60, 60]⟩) || decide (op = ⟨#[62, 62]⟩))) (fun _ => Nat.le_refl 5) ?_ ?_
  · refine x_vc tt_ok ?_
    refine x_if (fun h => ?_) (fun h => ?_)
    · refine meet (decide (op = ⟨#[60, 60]⟩)) [] (.of rfl rfl rfl rfl rfl rfl) ?_
      have h := of_decide_eq_true h
      rw [decide_eq_true h]; rfl
    · refine meet (decide (op = ⟨#[62, 62]⟩)) [] (.of rfl rfl rfl rfl rfl rfl) ?_
      have h := of_decide_eq_false h
      rw [decide_eq_false h]; rfl
  rintro bc u2 hu2 hbc
  refine x_cond rfl (fun h2 => ?_) (fun h2 => ?_)
  · have h2 : bc = true := h2
    rw [hbc, Bool.or_eq_true, decide_eq_true_eq, decide_eq_true_eq] at h2
    rw [if_pos h2]
    refine x_vc tt_ok ?_
    refine xl_callSC (shift_sc L i fl op ⟨a, au⟩ ⟨b, bu⟩ live ha hb) (fun _ _ _ _ => trivial) trivial [0, 1] rfl rfl rfl rfl fn69 rfl rfl rfl rfl rfl rfl rfl (fun _ => rfl) (fun _ u1 hu1 _ => ?_)
    refine xl_go tt_ok ?_
    exact ⟨(), [], [_], rfl, rfl, .of rfl rfl rfl rfl rfl rfl, of_decide_eq_true rfl, trivial⟩
  have h2 : bc = false := h2
  rw [hbc, Bool.or_eq_false_iff, decide_eq_false_iff_not, decide_eq_false_iff_not] at h2
  rw [if_neg (fun hh => hh.elim h2.1 h2.2)]
  refine x_vc tt_ok ?_
  refine x_vc tt_ok ?_
  refine xl_call0 (.bool (Cd.cmpP op a b (au || bu))) rfl rfl rfl rfl fn70 rfl rfl (fun E w F _ => compare_any op a b (au || bu) ha hb w) ?_
  refine xl_go tt_ok ?_
  refine xl_call0 (.int .u64 (Cd.truth (Cd.cmpP op a b (au || bu)))) rfl rfl rfl rfl fn47 rfl rfl (fun E w F _ => truth_any _ w) ?_
  refine xl_go tt_ok ?_
  exact ⟨(), [], [_], rfl, rfl, .of rfl rfl rfl rfl rfl rfl, of_decide_eq_true rfl, trivial⟩
end Go.Proofs.YtnjmkeijjapejaaGreatDoor
namespace Go.Cd
theorem rg_div {op : ByteArray} {a b : Int} {u live : Bool} {fl : Int} (ha : rg a) (hb : rg b) : rg (divP op a b u live fl).1.b := by
  unfold divP
  split; · exact rg0
  rename_i hb0
  unfold rg at ha hb
  split; · exact ⟨Int.ediv_nonneg ha.1 hb.1, Int.lt_of_le_of_lt (Int.ediv_le_self _ ha.1) ha.2⟩
  split; · exact ⟨Int.emod_nonneg _ hb0, Int.lt_trans (Int.emod_lt_of_pos _ (by omega)) hb.2⟩
  split; · exact ha
  split; · exact rg0
  split <;> exact rg_wr _
theorem rg_shi {op : ByteArray} {a b : Nm} {live : Bool} {fl : Int} (ha : rg a.b) : rg (shiP op a b live fl).1.b := by
  unfold shiP
  split; · exact rg0
  split; · exact rg_wr _
  unfold rg at ha
  split
  · have hp : (0 : Int) ≤ 2 ^ b.b.toNat := Int.le_of_lt (Int.pow_pos (by decide))
    exact ⟨Int.ediv_nonneg ha.1 hp, Int.lt_of_le_of_lt (Int.ediv_le_self _ ha.1) ha.2⟩
  · exact rg_wr _
theorem rg_apply {op : ByteArray} {a b : Nm} {live : Bool} {fl : Int} (ha : rg a.b) (hb : rg b.b) : rg (applyP op a b live fl).1.b := by
  unfold applyP
  simp only
  split; · exact rg_or ha hb
  split; · exact rg_xor ha hb
  split; · exact rg_and ha hb
  split; · exact rg_wr _
  split; · exact rg_wr _
  split; · exact rg_wr _
  split; · exact rg_div ha hb
  split; · exact rg_shi ha
  exact rg_truth _
theorem rg_preP {s : ByteArray} {v : Nm} (h : rg v.b) : rg (preP s v).b := by
  unfold preP
  split; · exact rg_wr _
  split; · unfold rg at h ⊢; simp only; omega
  split; · exact rg_truth _
  exact h
theorem nums.sub {a b : List Tk} (h : nums b) (hs : a <:+ b) : nums a := fun t ht => h t (hs.subset ht)
theorem rd_out : ∀ f : Nat,
    (∀ l live fl x r fl', nums l → choR f l live fl = some (x, r, fl') → rg x.b ∧ r <:+ l) ∧
    (∀ n l live fl x r fl', nums l → binR f n l live fl = some (x, r, fl') → rg x.b ∧ r <:+ l) ∧
    (∀ n y l live fl x r fl', nums l → rg y.b → lopR f n y l live fl = some (x, r, fl') → rg x.b ∧ r <:+ l) ∧
    (∀ l live fl x r fl', nums l → preR f l live fl = some (x, r, fl') → rg x.b ∧ r <:+ l)
  | 0 => ⟨fun l live fl x r fl' _ h => by simp [choR] at h, fun n l live fl x r fl' _ h => by simp [binR] at h, fun n y l live fl x r fl' _ _ h => by simp [lopR] at h, fun l live fl x r fl' _ h => by simp [preR] at h⟩
  | f + 1 => by
    obtain ⟨hC, hB, hL, hP⟩ := rd_out f
    have hdrop : ∀ {a b : List Tk}, a <:+ b.drop 1 → a <:+ b := fun h => h.trans (List.drop_suffix 1 _)
    refine ⟨?_, ?_, ?_, ?_⟩
    · intro l live fl x r fl' hn h
      simp only [choR] at h
      split at h
      · cases h
      rename_i c l1 f1 h1
      obtain ⟨a1, a2⟩ := hB 1 l live fl c l1 f1 hn h1
      split at h
      · split at h
        · cases h
        rename_i a l2 f2 h2
        obtain ⟨b1, b2⟩ := hC _ _ _ _ _ _ (hn.sub (hdrop (a := l1.drop 1) (List.suffix_refl _) |>.trans a2)) h2
        have b3 : l2 <:+ l := (hdrop b2).trans a2
        split at h
        · split at h
          · cases h
          rename_i b l3 f3 h3
          obtain ⟨c1, c2⟩ := hC _ _ _ _ _ _ (hn.sub (hdrop (a := l2.drop 1) (List.suffix_refl _) |>.trans b3)) h3
          cases h
          refine ⟨?_, (hdrop c2).trans b3⟩
          simp only
          split
          · exact b1
          · exact c1
        · cases h
      · cases h
        exact ⟨a1, a2⟩
    · intro n l live fl x r fl' hn h
      simp only [binR] at h
      split at h
      · exact hP _ _ _ _ _ _ hn h
      · split at h
        · cases h
        rename_i y l1 f1 h1
        obtain ⟨a1, a2⟩ := hB _ _ _ _ _ _ _ hn h1
        obtain ⟨b1, b2⟩ := hL _ _ _ _ _ _ _ _ (hn.sub a2) a1 h
        exact ⟨b1, b2.trans a2⟩
    · intro n y l live fl x r fl' hn hy h
      simp only [lopR] at h
      split at h
      · cases h
        exact ⟨hy, List.suffix_refl _⟩
      split at h
      · split at h
        · cases h
        rename_i z l1 f1 h1
        obtain ⟨a1, a2⟩ := hB _ _ _ _ _ _ _ (hn.sub (List.drop_suffix 1 _)) h1
        have a3 := hdrop a2
        obtain ⟨b1, b2⟩ := hL _ _ _ _ _ _ _ _ (hn.sub a3) (by simp only; split <;> exact rg_truth _) h
        exact ⟨b1, b2.trans a3⟩
      · split at h
        · cases h
        rename_i z l1 f1 h1
        obtain ⟨a1, a2⟩ := hB _ _ _ _ _ _ _ (hn.sub (List.drop_suffix 1 _)) h1
        have a3 := hdrop a2
        obtain ⟨b1, b2⟩ := hL _ _ _ _ _ _ _ _ (hn.sub a3) (rg_apply hy a1) h
        exact ⟨b1, b2.trans a3⟩
    · intro l live fl x r fl' hn h
      simp only [preR] at h
      split at h
      · cases h
      rename_i t l1
      have hl1 : l1 <:+ (t :: l1) := List.suffix_cons _ _
      split at h
      · cases h
        exact ⟨hn t (List.mem_cons_self ..), hl1⟩
      split at h
      · split at h
        · cases h
        rename_i v l2 f2 h2
        obtain ⟨a1, a2⟩ := hC _ _ _ _ _ _ (hn.sub hl1) h2
        split at h
        · cases h
          exact ⟨a1, (List.drop_suffix 1 _).trans (a2.trans hl1)⟩
        · cases h
      · split at h
        · cases h
        rename_i v l2 f2 h2
        obtain ⟨a1, a2⟩ := hP _ _ _ _ _ _ (hn.sub hl1) h2
        cases h
        exact ⟨rg_preP a1, a2.trans hl1⟩
theorem sfx_drop {L r : List Tk} (h : r <:+ L) : r = L.drop (L.length - r.length) ∧ r.length ≤ L.length := ⟨List.suffix_iff_eq_drop.1 h, h.length_le⟩
end Go.Cd
namespace Go.Proofs.YtnjmkeijjapejaaGreatDoor
open Go.GV Go.RowKit
theorem hd_at (L : List Cd.Tk) (i : Nat) : Cd.opHd (L.drop i) = if i < L.length then Cd.opT (L.getD i ptY.dft) else ⟨#[]⟩ := by
  split
  · rename_i h
    rw [List.drop_eq_getElem_cons h, List.getD_eq_getElem?_getD, List.getElem?_eq_getElem h]
    rfl
  · rename_i h
    rw [List.drop_eq_nil_of_le (by omega)]
    rfl
set_option maxRecDepth 100000 in
theorem op_sc (L : List Cd.Tk) (i fl : Int) (h0 : 0 ≤ i) : SC Tryz.prog 22 (fun _ => True) 2 (rdO L i fl) [.p 0 0] (fun _ : Unit => (rdO L i fl, 2, .string (Cd.opHd (L.drop i.toNat)))) (fun _ => True) := by
  refine x_sc tt_ok Tryz.func22 rfl rfl rfl rfl (fun u0 _ => ?_)
  refine x_vc tt_ok ?_
  refine x_draw mix (by kernel_rfl) (xd_go tt_ok ?_)
  rw [hd_at]
  refine x_if (fun h => ?_) (fun h => ?_)
  · have h : i < L.length := of_decide_eq_true h
    rw [if_pos (by omega)]
    refine x_draw mix (by kernel_rfl) (xd_go tt_ok ?_)
    repeat (refine And.intro ?_ ?_; first | omega | (simp only [Lay.d_n]; omega))
    exact ⟨(), [], [_], rfl, rfl, .of rfl rfl rfl rfl rfl rfl, of_decide_eq_true rfl, trivial⟩
  · have h : ¬ i < L.length := of_decide_eq_false h
    rw [if_neg (by omega)]
    exact ⟨(), [], [_], rfl, rfl, .of rfl rfl rfl rfl rfl rfl, of_decide_eq_true rfl, trivial⟩
def ChoC (f : Nat) : Prop := ∀ (L : List Cd.Tk) (i fl : Int) (live : Bool) (x : Cd.Nm) (r : List Cd.Tk) (fl' : Int), Cd.nums L → L.length ≤ 1000000 → 0 ≤ i → i ≤ L.length → Cd.choR f (L.drop i.toNat) live fl = some (x, r, fl') →
  SC Tryz.prog 12 OpG 2 (rdO L i fl) [.p 0 0, .v (.bool live)] (fun _ : Unit => (rdO L ((L.length : Int) - r.length) fl', 2, nmV x)) (fun _ => True)
def BinC (f : Nat) : Prop := ∀ (n : Int) (L : List Cd.Tk) (i fl : Int) (live : Bool) (x : Cd.Nm) (r : List Cd.Tk) (fl' : Int), 1 ≤ n → n ≤ 11 → Cd.nums L → L.length ≤ 1000000 → 0 ≤ i → i ≤ L.length → Cd.binR f n (L.drop i.toNat) live fl = some (x, r, fl') →
  SC Tryz.prog 21 OpG 2 (rdO L i fl) [.p 0 0, .v (.int .i64 n), .v (.bool live)] (fun _ : Unit => (rdO L ((L.length : Int) - r.length) fl', 2, nmV x)) (fun _ => True)
def PreC (f : Nat) : Prop := ∀ (L : List Cd.Tk) (i fl : Int) (live : Bool) (x : Cd.Nm) (r : List Cd.Tk) (fl' : Int), Cd.nums L → L.length ≤ 1000000 → 0 ≤ i → i ≤ L.length → Cd.preR f (L.drop i.toNat) live fl = some (x, r, fl') →
  SC Tryz.prog 46 OpG 2 (rdO L i fl) [.p 0 0, .v (.bool live)] (fun _ : Unit => (rdO L ((L.length : Int) - r.length) fl', 2, nmV x)) (fun _ => True)
theorem opMono : ∀ u u' : Im, Im.sub u u' → OpG u → OpG u' := fun _ _ hs h => h.sub hs
theorem at_sfx {L r : List Cd.Tk} {i : Int} (h0 : 0 ≤ i) (h : r <:+ L.drop i.toNat) : 0 ≤ (L.length : Int) - r.length ∧ (L.length : Int) - r.length ≤ L.length ∧ r = L.drop ((L.length : Int) - r.length).toNat := by
  obtain ⟨e1, e2⟩ := Cd.sfx_drop (h.trans (List.drop_suffix _ _))
  refine ⟨by omega, by omega, ?_⟩
  rw [show ((L.length : Int) - r.length).toNat = L.length - r.length by omega]
  exact e1
set_option maxHeartbeats 2000000 in
set_option maxRecDepth 100000 in
theorem pre_step (f : Nat) (hC : ChoC f) (hP : PreC f) : PreC (f + 1) := by
  intro L i fl live x r fl' hn hl h0 hi h
  simp only [Cd.preR] at h
  have hd : i.toNat < L.length := by
    refine Nat.lt_of_not_le fun hh => ?_
    rw [List.drop_eq_nil_of_le hh] at h
    cases h
  have hdc : L.drop i.toNat = L.getD i.toNat ptY.dft :: L.drop (i + 1).toNat := by
    rw [List.drop_eq_getElem_cons hd, List.getD_eq_getElem?_getD, List.getElem?_eq_getElem hd, show (i + 1).toNat = i.toNat + 1 by omega]
    rfl
  rw [hdc] at h
  simp only at h
  have hlt : i < L.length := by omega
  refine x_sc tt_ok Tryz.func46 rfl rfl rfl rfl (fun u0 hO => ?_)
  refine x_seq (x_vc tt_ok ?_)
  refine x_seq ?_
  refine x_via (σ := Unit) (fun _ => ⟨[(5, .p 3 0), (4, .p 2 0), (0, .p 0 0), (1, .v (.bool live))], [],
    [(3, .box 41 [.v (.bool (Cd.isNum (L.getD i.toNat ptY.dft))), .v (.int .u64 (Cd.vT (L.getD i.toNat ptY.dft))), .v (.bool (Cd.uT (L.getD i.toNat ptY.dft))), .v (.string (Cd.opT (L.getD i.toNat ptY.dft)))]), (2, .box 39 [.v (.int .u64 0), .v (.bool false)]),
      (0, .box 46 [.r 1, .v (.int .i64 i), .v (.int .i64 fl)]), (1, .row 41 (ptY.d L))], 4⟩) (fun _ _ => True) (fun _ => by show 3 ≤ 4; omega) ?_ ?_
  · refine x_drawA mix ?_
    refine xa_alloc tt_ok (fuel := 1) 10 [0, 1, 2, 3, 4, 5, 6, 7, 8, 9] rfl rfl rfl rfl rfl rfl (by kernel_rfl) (by kernel_rfl) (by kernel_rfl) (by kernel_rfl) (by kernel_rfl) (by kernel_rfl) rfl ?_
    refine xs_go tt_ok ?_
    repeat (refine And.intro ?_ ?_; first | omega | (simp only [Lay.d_n]; omega))
    refine ⟨rfl, ?_, ?_⟩
    · refine xa_chain (fuel := 0) [11] rfl (by kernel_rfl) (by kernel_rfl) ?_
      refine xl_go tt_ok ?_
      refine xa_done (by kernel_rfl) rfl ?_
      exact meet () [] (.of rfl rfl rfl rfl rfl rfl) trivial
    · refine xa_chain (fuel := 0) [10, 11] rfl (by kernel_rfl) (by kernel_rfl) ?_
      refine xl_go tt_ok ?_
      refine xa_done (by kernel_rfl) rfl ?_
      exact meet () [] (.of rfl rfl rfl rfl rfl rfl) trivial
  rintro _ u1 hu1 _
  have hO1 : OpG u1 := hO.sub hu1.sub
  have hl1 : ((L.length : Int) - (L.drop (i + 1).toNat).length) = i + 1 := by rw [List.length_drop]; omega
  refine x_seq (x_vc tt_ok ?_)
  repeat (refine And.intro ?_ ?_; first | omega | (simp only [Lay.d_n]; omega))
  refine x_seq (x_vc tt_ok ?_)
  refine x_if (fun h1 => ?_) (fun h1 => ?_)
  · have h1 : Cd.isNum (L.getD i.toNat ptY.dft) = true := h1
    rw [if_pos h1] at h
    simp only [Option.some.injEq, Prod.mk.injEq] at h
    obtain ⟨rfl, rfl, rfl⟩ := h
    rw [hl1]
    exact ⟨(), [], [_], rfl, rfl, .of rfl rfl rfl rfl rfl rfl, of_decide_eq_true rfl, trivial⟩
  have h1 : Cd.isNum (L.getD i.toNat ptY.dft) = false := h1
  rw [if_neg (by rw [h1]; simp)] at h
  refine x_seq (x_vc tt_ok ?_)
  refine x_if (fun h2 => ?_) (fun h2 => ?_)
  · have h2 : Cd.opT (L.getD i.toNat ptY.dft) = Cd.lp := of_decide_eq_true h2
    rw [if_pos h2] at h
    cases hc : Cd.choR f (L.drop (i + 1).toNat) live fl with
    | none => rw [hc] at h; cases h
    | some q =>
      obtain ⟨v, l2, f2⟩ := q
      rw [hc] at h
      simp only at h
      split at h
      · rename_i hrp
        simp only [Option.some.injEq, Prod.mk.injEq] at h
        obtain ⟨rfl, rfl, rfl⟩ := h
        have hs := ((Cd.rd_out f).1 _ _ _ _ _ _ (hn.sub (List.drop_suffix _ _)) hc).2
        obtain ⟨p1, p2, p3⟩ := at_sfx (by omega : 0 ≤ i + 1) hs
        have hl2 : ((L.length : Int) - (l2.drop 1).length) = (L.length : Int) - l2.length + 1 := by
          have hne : l2 ≠ [] := fun hh => by rw [hh] at hrp; exact absurd hrp (by decide)
          have := List.length_pos_iff.2 hne
          rw [List.length_drop]; omega
        rw [hl2]
        refine xl_callSC (hC L (i + 1) fl live v l2 f2 hn hl (by omega) (by omega) hc) opMono hO1 [0, 1] rfl rfl rfl rfl fn12 rfl rfl rfl rfl rfl rfl rfl (fun _ => rfl) (fun _ u2 hu2 _ => ?_)
        refine xl_go tt_ok ?_
        repeat (refine And.intro ?_ ?_; first | omega | (simp only [Lay.d_n]; omega))
        exact ⟨(), [], [_], rfl, rfl, .of rfl rfl rfl rfl rfl rfl, of_decide_eq_true rfl, trivial⟩
      · cases h
  have h2 : ¬ Cd.opT (L.getD i.toNat ptY.dft) = Cd.lp := of_decide_eq_false h2
  rw [if_neg h2] at h
  obtain ⟨o, ho⟩ : ∃ o, o = Cd.opT (L.getD i.toNat ptY.dft) := ⟨_, rfl⟩
  cases hc : Cd.preR f (L.drop (i + 1).toNat) live fl with
  | none => rw [hc] at h; cases h
  | some q =>
    obtain ⟨v, l2, f2⟩ := q
    rw [hc] at h
    simp only [Option.some.injEq, Prod.mk.injEq] at h
    obtain ⟨rfl, rfl, rfl⟩ := h
    obtain ⟨hrg, hs⟩ := (Cd.rd_out f).2.2.2 _ _ _ _ _ _ (hn.sub (List.drop_suffix _ _)) hc
    obtain ⟨p1, p2, p3⟩ := at_sfx (by omega : 0 ≤ i + 1) hs
    rw [← ho]
    obtain ⟨v, vu⟩ := v
    have hrg' : Cd.rg v := hrg
    refine x_seq (x_vc tt_ok ?_)
    refine xl_callSC (hP L (i + 1) fl live ⟨v, vu⟩ l2 f2 hn hl (by omega) (by omega) hc) opMono hO1 [0, 1] rfl rfl rfl rfl fn46 rfl rfl rfl rfl rfl rfl rfl (fun _ => rfl) (fun _ u2 hu2 _ => ?_)
    refine xl_go tt_ok ?_
    refine x_seq ?_
    refine x_seq (x_vc tt_ok ?_)
    refine x_block ?_
    unfold Cd.preP
    refine x_seq (x_vc tt_ok ?_)
    refine x_cond rfl (fun h => ?_) (fun h => ?_)
    · rw [if_pos (show o = Cd.miB from of_decide_eq_true h)]
      refine x_region ?_
      refine xl_eff tt_ok rfl rfl rfl rfl (by trivial) ?_
      refine xl_eff tt_ok rfl rfl rfl rfl (by trivial) ?_
      refine xl_un (.int .u64 (Cd.wr (-v))) rfl rfl rfl rfl rfl (fun w => run_neg64 v) ?_
      refine xl_go tt_ok ?_
      refine x_vc tt_ok ?_
      exact ⟨(), [], [_], rfl, rfl, .of rfl rfl rfl rfl rfl rfl, of_decide_eq_true rfl, trivial⟩
    rw [if_neg (show ¬ o = Cd.miB from of_decide_eq_false h)]
    refine x_seq (x_vc tt_ok ?_)
    refine x_cond rfl (fun h => ?_) (fun h => ?_)
    · rw [if_pos (show o = Cd.tiB from of_decide_eq_true h)]
      refine x_vc tt_ok ?_
      refine xl_un (.int .u64 (18446744073709551615 - v)) rfl rfl rfl rfl rfl (fun w => run_not64 hrg') ?_
      refine xl_go tt_ok ?_
      refine x_vc tt_ok ?_
      exact ⟨(), [], [_], rfl, rfl, .of rfl rfl rfl rfl rfl rfl, of_decide_eq_true rfl, trivial⟩
    rw [if_neg (show ¬ o = Cd.tiB from of_decide_eq_false h)]
    refine x_seq (x_vc tt_ok ?_)
    refine x_cond rfl (fun h => ?_) (fun h => ?_)
    · rw [if_pos (show o = Cd.noB from of_decide_eq_true h)]
      refine x_vc tt_ok ?_
      refine xl_call0 (.int .u64 (Cd.truth (decide (v = 0)))) rfl rfl rfl rfl fn47 rfl rfl (fun E w F _ => truth_any _ w) ?_
      refine xl_go tt_ok ?_
      refine x_vc tt_ok ?_
      exact ⟨(), [], [_], rfl, rfl, .of rfl rfl rfl rfl rfl rfl, of_decide_eq_true rfl, trivial⟩
    rw [if_neg (show ¬ o = Cd.noB from of_decide_eq_false h)]
    refine x_vc tt_ok ?_
    refine x_vc tt_ok ?_
    exact ⟨(), [], [_], rfl, rfl, .of rfl rfl rfl rfl rfl rfl, of_decide_eq_true rfl, trivial⟩
end Go.Proofs.YtnjmkeijjapejaaGreatDoor
namespace Go.Cd
def meaV (l : List Tk) : Int × Bool :=
  match runM m0 l with
  | some m => if m.af = true then ((settle m.st m.dp).2, decide ((settle m.st m.dp).1 = [])) else (0, false)
  | none => (0, false)
theorem mea_measure (l : List Tk) : measure l = if (meaV l).2 = true then some (meaV l).1 else none := by
  unfold measure meaV
  cases runM m0 l with
  | none => rfl
  | some m =>
    simp only
    split
    · obtain ⟨a, b⟩ := settle m.st m.dp
      cases a with
      | nil => rfl
      | cons x y => rfl
    · rfl
end Go.Cd
namespace Go.Proofs.YtnjmkeijjapejaaGreatDoor
open Go.GV Go.RowKit
set_option maxHeartbeats 2000000 in
set_option maxRecDepth 100000 in
theorem measure_any (L : List Cd.Tk) (x : Value) (w : World) (hx : SlAt (im w) x (ptY.d L)) (hO : OpG (im w)) (hl : L.length ≤ 1000000) :
    Calls Tryz.prog 11 #[x] w (PureP w fun v _ => v = .tuple #[.int .i64 (Cd.meaV L).1, .bool (Cd.meaV L).2]) := by
  obtain ⟨V, hV⟩ : ∃ V, V = Cd.meaV L := ⟨_, rfl⟩
  rw [← hV]
  have hbad : Cd.runM Cd.m0 L = none → V = (0, false) := fun h => by rw [hV, Cd.meaV, h]
  have hoff : ∀ m, Cd.runM Cd.m0 L = some m → m.af = false → V = (0, false) := fun m h h2 => by rw [hV, Cd.meaV, h]; simp only [h2, Bool.false_eq_true, if_false]
  have hend : ∀ m, Cd.runM Cd.m0 L = some m → m.af = true → V = ((Cd.settle m.st m.dp).2, decide ((Cd.settle m.st m.dp).1 = [])) := fun m h h2 => by rw [hV, Cd.meaV, h]; simp only [h2, if_true]
  clear hV
  refine x_fun tt_ok Tryz.func11 rfl rfl [] 0 [.v x] rfl rfl rfl rfl (fun b hb => by cases hb) ?_
  refine x_sl 0 rfl hx ?_
  refine x_vc tt_ok ?_
  refine x_nilCell 1 103 enY [] [.v (.int .i64 0), .v (.int .i64 0), .v (.bool false)] rfl ?_
  refine x_loop (σ := Cd.Me × Int) (fun (m, i) => ⟨[(9, .v (.int .i64 i)), (8, .v (.int .i64 (L.length : Int))), (7, .r 0), (4, .p 1 0)], [],
      [(1, .box 64 [.r 21, .v (.int .i64 m.pf), .v (.int .i64 m.dp), .v (.bool m.af)]), (21, .row 103 (enY.d m.st.reverse)), (0, .sl (ptY.d L))], 22⟩)
    (fun (m, i) _ => 0 ≤ i ∧ i ≤ L.length ∧ Cd.nnM m ∧ Cd.potM m ≤ i ∧ Cd.runM m (L.drop i.toNat) = Cd.runM Cd.m0 L) (fun (_, i) => ((L.length : Int) - i).toNat) (fun (_, _) => of_decide_eq_true rfl) (Cd.m0, 0) [(21, some 2)] (.of rfl rfl rfl rfl rfl rfl)
    ⟨by omega, by omega, ⟨trivial, Int.le_refl _, Int.le_refl _⟩, Int.le_refl _, rfl⟩ ?_
  rintro ⟨m, i⟩ u2 hu2 ⟨g1, g2, g3, g4, g5⟩
  refine x_vc tt_ok ?_
  refine x_if (fun h1 => ?_) (fun h1 => ?_)
  · have h1 : i < L.length := of_decide_eq_true h1
    have hd : L.drop i.toNat = L.getD i.toNat ptY.dft :: L.drop (i + 1).toNat := by
      rw [List.drop_eq_getElem_cons (by omega : i.toNat < L.length), List.getD_eq_getElem?_getD, List.getElem?_eq_getElem (by omega : i.toNat < L.length), show (i + 1).toNat = i.toNat + 1 by omega]
      rfl
    rw [hd, Cd.runM] at g5
    repeat (refine And.intro ?_ ?_; first | omega | (simp only [Lay.d_n]; omega))
    refine xl_callSC (step_sc m (L.getD i.toNat ptY.dft) g3 (by omega)) opMono (hO.sub hu2.sub) [1, 21] rfl rfl rfl rfl fn19 rfl rfl rfl rfl rfl rfl rfl (fun _ => rfl) (fun s u3 hu3 hs => ?_)
    obtain ⟨m', R'⟩ := s
    obtain ⟨hs1, hs2⟩ := hs
    replace hs1 : R' = m'.st.reverse := hs1
    subst hs1
    refine xl_go tt_ok ?_
    refine x_if (fun h2 => ?_) (fun h2 => ?_)
    · have h2 : (!(Cd.step m (L.getD i.toNat ptY.dft)).isSome) = true := h2
      have hn : Cd.step m (L.getD i.toNat ptY.dft) = none := by
        cases hc : Cd.step m (L.getD i.toNat ptY.dft) with
        | none => rfl
        | some y => rw [hc] at h2; cases h2
      rw [hn] at g5
      rw [hbad g5.symm]
      exact fin1 (fun _ _ => rfl)
    · have h2 : (!(Cd.step m (L.getD i.toNat ptY.dft)).isSome) = false := h2
      rcases hs2 with hs2 | hs2
      · rw [hs2] at g5
        obtain ⟨k1, k2⟩ := Cd.step_pot g3 hs2
        repeat (refine And.intro ?_ ?_; first | omega | (simp only [Lay.d_n]; omega))
        exact again (m', i + 1) [(21, some 23)] (.of rfl rfl rfl rfl rfl rfl) ⟨by omega, by omega, k1, Int.le_trans k2 (by omega), g5⟩ (by simp only; omega)
      · rw [hs2] at h2; cases h2
  · have h1 : ¬ i < L.length := of_decide_eq_false h1
    rw [List.drop_eq_nil_of_le (by omega), Cd.runM] at g5
    refine x_if (fun h2 => ?_) (fun h2 => ?_)
    · have h2 : (!m.af) = true := h2
      rw [hoff m g5.symm (by simpa using h2)]
      exact fin1 (fun _ _ => rfl)
    · have h2 : (!m.af) = false := h2
      have h2 : m.af = true := by simpa using h2
      have hle : decide ((Cd.settle m.st m.dp).1 = []) = decide ((((Cd.settle m.st m.dp).1.reverse.length : Nat) : Int) = 0) := by
        rw [List.length_reverse]
        cases (Cd.settle m.st m.dp).1 with
        | nil => rfl
        | cons a b => rw [decide_eq_false (by simp), decide_eq_false (by simp only [List.length_cons]; omega)]
      rw [hend m g5.symm h2, hle]
      refine xl_callSC (settle_sc m g3 (by omega)) (fun _ _ _ _ => trivial) trivial [1, 21] rfl rfl rfl rfl fn20 rfl rfl rfl rfl rfl rfl rfl (fun _ => rfl) (fun _ u3 hu3 _ => ?_)
      refine xl_go tt_ok ?_
      refine x_draw mix (by kernel_rfl) (xd_go tt_ok ?_)
      exact fin1 (fun _ _ => rfl)
end Go.Proofs.YtnjmkeijjapejaaGreatDoor
namespace Go.Proofs.YtnjmkeijjapejaaGreatDoor
open Go.GV Go.RowKit
set_option maxHeartbeats 2000000 in
set_option maxRecDepth 100000 in
theorem cho_step (f : Nat) (hB : BinC f) (hC : ChoC f) : ChoC (f + 1) := by
  intro L i fl live x r fl' hn hl h0 hi h
  simp only [Cd.choR] at h
  cases hb : Cd.binR f 1 (L.drop i.toNat) live fl with
  | none => rw [hb] at h; cases h
  | some q =>
  obtain ⟨c, l1, f1⟩ := q
  rw [hb] at h
  simp only at h
  have hsb := ((Cd.rd_out f).2.1 1 _ _ _ _ _ _ (hn.sub (List.drop_suffix _ _)) hb).2
  obtain ⟨p1, p2, p3⟩ := at_sfx h0 hsb
  obtain ⟨i1, hi1⟩ : ∃ i1, i1 = (L.length : Int) - l1.length := ⟨_, rfl⟩
  have hbin := hB 1 L i fl live c l1 f1 (by omega) (by omega) hn hl h0 hi hb
  rw [← hi1] at p1 p2 p3 hbin
  obtain ⟨c, cu⟩ := c
  refine x_sc tt_ok Tryz.func12 rfl rfl rfl rfl (fun u0 hO => ?_)
  refine x_vc tt_ok ?_
  refine xl_callSC hbin opMono hO [0, 1] rfl rfl rfl rfl fn21 rfl rfl rfl rfl rfl rfl rfl (fun _ => rfl) (fun _ u1 hu1 _ => ?_)
  refine xl_go tt_ok ?_
  refine xl_callSC (op_sc L i1 f1 p1) (fun _ _ _ _ => trivial) trivial [0, 1] rfl rfl rfl rfl fn22 rfl rfl rfl rfl rfl rfl rfl (fun _ => rfl) (fun _ u2 hu2 _ => ?_)
  refine xl_go tt_ok ?_
  rw [← p3]
  have hO2 : OpG u2 := hO.sub (hu1.trans hu2).sub
  refine x_if (fun h1 => ?_) (fun h1 => ?_)
  · have h1 : Cd.opHd l1 ≠ Cd.qm := of_decide_eq_true h1
    rw [if_neg h1] at h
    simp only [Option.some.injEq, Prod.mk.injEq] at h
    obtain ⟨rfl, rfl, rfl⟩ := h
    rw [← hi1]
    exact ⟨(), [], [_], rfl, rfl, .of rfl rfl rfl rfl rfl rfl, of_decide_eq_true rfl, trivial⟩
  have h1 : Cd.opHd l1 = Cd.qm := Classical.not_not.1 (of_decide_eq_false h1)
  rw [if_pos h1] at h
  have hi1l : i1 + 1 ≤ L.length := by
    have hne : l1 ≠ [] := fun hh => by rw [hh] at h1; exact absurd h1 (by decide)
    have := List.length_pos_iff.2 hne
    omega
  have hd1 : l1.drop 1 = L.drop (i1 + 1).toNat := by
    rw [p3, List.drop_drop, show (i1 + 1).toNat = i1.toNat + 1 by omega]
  rw [hd1] at h
  cases hca : Cd.choR f (L.drop (i1 + 1).toNat) (live && decide (c ≠ 0)) f1 with
  | none => rw [hca] at h; cases h
  | some q =>
  obtain ⟨a, l2, f2⟩ := q
  rw [hca] at h
  simp only at h
  have hsa := ((Cd.rd_out f).1 _ _ _ _ _ _ (hn.sub (List.drop_suffix _ _)) hca).2
  obtain ⟨q1, q2, q3⟩ := at_sfx (by omega : 0 ≤ i1 + 1) hsa
  have hcha := hC L (i1 + 1) f1 (live && decide (c ≠ 0)) a l2 f2 hn hl (by omega) hi1l hca
  obtain ⟨i2, hi2⟩ : ∃ i2, i2 = (L.length : Int) - l2.length := ⟨_, rfl⟩
  rw [← hi2] at q1 q2 q3 hcha
  split at h
  · rename_i h2
    have hi2l : i2 + 1 ≤ L.length := by
      have hne : l2 ≠ [] := fun hh => by rw [hh] at h2; exact absurd h2 (by decide)
      have := List.length_pos_iff.2 hne
      omega
    have hd2 : l2.drop 1 = L.drop (i2 + 1).toNat := by
      rw [q3, List.drop_drop, show (i2 + 1).toNat = i2.toNat + 1 by omega]
    rw [hd2] at h
    cases hcb : Cd.choR f (L.drop (i2 + 1).toNat) (live && decide (c = 0)) f2 with
    | none => rw [hcb] at h; cases h
    | some q =>
    obtain ⟨b, l3, f3⟩ := q
    rw [hcb] at h
    simp only [Option.some.injEq, Prod.mk.injEq] at h
    obtain ⟨rfl, rfl, rfl⟩ := h
    have hchb := hC L (i2 + 1) f2 (live && decide (c = 0)) b l3 f3 hn hl (by omega) hi2l hcb
    obtain ⟨a, au⟩ := a
    obtain ⟨b, bu⟩ := b
    repeat (refine And.intro ?_ ?_; first | omega | (simp only [Lay.d_n]; omega))
    refine xl_callSC hcha opMono hO2 [0, 1] rfl rfl rfl rfl fn12 rfl rfl rfl rfl rfl rfl rfl (fun _ => rfl) (fun _ u3 hu3 _ => ?_)
    refine xl_go tt_ok ?_
    repeat (refine And.intro ?_ ?_; first | omega | (simp only [Lay.d_n]; omega))
    refine xl_callSC hchb opMono (hO2.sub hu3.sub) [0, 1] rfl rfl rfl rfl fn12 rfl rfl rfl rfl rfl rfl rfl (fun _ => rfl) (fun _ u4 hu4 _ => ?_)
    refine xl_go tt_ok ?_
    refine x_if (fun h3 => ?_) (fun h3 => ?_)
    · have h3 : c ≠ 0 := of_decide_eq_true h3
      simp only [if_pos h3]
      exact ⟨(), [], [_], rfl, rfl, .of rfl rfl rfl rfl rfl rfl, of_decide_eq_true rfl, trivial⟩
    · have h3 : ¬ c ≠ 0 := of_decide_eq_false h3
      simp only [if_neg h3]
      exact ⟨(), [], [_], rfl, rfl, .of rfl rfl rfl rfl rfl rfl, of_decide_eq_true rfl, trivial⟩
  · cases h
end Go.Proofs.YtnjmkeijjapejaaGreatDoor
namespace Go.Proofs.YtnjmkeijjapejaaGreatDoor
open Go.GV Go.RowKit
set_option maxHeartbeats 4000000 in
set_option maxRecDepth 100000 in
theorem bin_step (f : Nat) (hB : ∀ g, g ≤ f → BinC g) (hP : PreC f) : BinC (f + 1) := by
  intro n L i0 fl live x r fl' hn1 hn11 hn hl h0 hi h
  simp only [Cd.binR] at h
  refine x_sc tt_ok Tryz.func21 rfl rfl rfl rfl (fun u0 hO => ?_)
  refine x_vc tt_ok ?_
  refine x_if (fun h1 => ?_) (fun h1 => ?_)
  · have h1 : n = 11 := of_decide_eq_true h1
    rw [if_pos h1] at h
    refine xl_callSC (hP L i0 fl live x r fl' hn hl h0 hi h) opMono hO [0, 1] rfl rfl rfl rfl fn46 rfl rfl rfl rfl rfl rfl rfl (fun _ => rfl) (fun _ u1 hu1 _ => ?_)
    refine xl_go tt_ok ?_
    exact ⟨(), [], [_], rfl, rfl, .of rfl rfl rfl rfl rfl rfl, of_decide_eq_true rfl, trivial⟩
  have h1 : ¬ n = 11 := of_decide_eq_false h1
  rw [if_neg h1] at h
  repeat (refine And.intro ?_ ?_; first | omega | (simp only [Lay.d_n]; omega))
  cases hb : Cd.binR f (n + 1) (L.drop i0.toNat) live fl with
  | none => rw [hb] at h; cases h
  | some q =>
  obtain ⟨x0, l1, f1⟩ := q
  rw [hb] at h
  simp only at h
  obtain ⟨hx0, hsb⟩ := (Cd.rd_out f).2.1 _ _ _ _ _ _ _ (hn.sub (List.drop_suffix _ _)) hb
  obtain ⟨p1, p2, p3⟩ := at_sfx h0 hsb
  have hbin := hB f (Nat.le_refl _) (n + 1) L i0 fl live x0 l1 f1 (by omega) (by omega) hn hl h0 hi hb
  obtain ⟨i1, hi1⟩ : ∃ i1, i1 = (L.length : Int) - l1.length := ⟨_, rfl⟩
  rw [← hi1] at p1 p2 p3 hbin
  rw [p3] at h
  obtain ⟨x0, xu⟩ := x0
  refine xl_callSC hbin opMono hO [0, 1] rfl rfl rfl rfl fn21 rfl rfl rfl rfl rfl rfl rfl (fun _ => rfl) (fun _ u1 hu1 _ => ?_)
  refine xl_go tt_ok ?_
  have hO1 : OpG u1 := hO.sub hu1.sub
  refine x_loop (σ := Cd.Nm × Int × Int × Nat) (fun (y, i, fi, g) => ⟨[(7, .p 3 0), (6, .p 2 0), (2, .v (.bool live)), (1, .v (.int .i64 n)), (0, .p 0 0)], [],
      [(3, .box 39 [.v (.int .u64 y.b), .v (.bool y.u)]), (2, .box 39 [.v (.int .u64 0), .v (.bool false)]), (0, .box 46 [.r 1, .v (.int .i64 i), .v (.int .i64 fi)]), (1, .row 41 (ptY.d L))], 4⟩)
    (fun (y, i, fi, g) _ => 0 ≤ i ∧ i ≤ L.length ∧ Cd.rg y.b ∧ g ≤ f ∧ Cd.lopR g n y (L.drop i.toNat) live fi = some (x, r, fl')) (fun (_, _, _, g) => g) (fun (_, _, _, _) => Nat.le_refl 4) (⟨x0, xu⟩, i1, f1, f) [] (.of rfl rfl rfl rfl rfl rfl)
    ⟨p1, p2, hx0, Nat.le_refl _, h⟩ ?_
  rintro ⟨y, i, fi, g⟩ u2 hu2 ⟨g1, g2, g3, g4, g5⟩
  obtain ⟨y, yu⟩ := y
  have g3' : Cd.rg y := g3
  cases g with
  | zero => simp [Cd.lopR] at g5
  | succ g =>
  simp only [Cd.lopR] at g5
  obtain ⟨o, ho⟩ : ∃ o, o = Cd.opHd (L.drop i.toNat) := ⟨_, rfl⟩
  rw [← ho] at g5
  refine x_vc tt_ok ?_
  refine xl_callSC (op_sc L i fi g1) (fun _ _ _ _ => trivial) trivial [0, 1] rfl rfl rfl rfl fn22 rfl rfl rfl rfl rfl rfl rfl (fun _ => rfl) (fun _ u3 hu3 _ => ?_)
  rw [← ho]
  refine xl_go tt_ok ?_
  have hOc : OpG u3 := hO1.sub (hu2.trans hu3).sub
  refine xl_call0 (.int .i64 (Cd.lev o)) rfl rfl rfl rfl fn45 rfl rfl (fun E w F hs => level_any o w (hOc.imm hs.imm)) ?_
  refine xl_go tt_ok ?_
  refine x_if (fun h3 => ?_) (fun h3 => ?_)
  · have h3 : Cd.lev o ≠ n := of_decide_eq_true h3
    rw [if_pos h3] at g5
    simp only [Option.some.injEq, Prod.mk.injEq] at g5
    obtain ⟨rfl, rfl, rfl⟩ := g5
    have hpos : ((L.length : Int) - (L.drop i.toNat).length) = i := by rw [List.length_drop]; omega
    rw [hpos]
    exact ⟨(), [], [_], rfl, rfl, .of rfl rfl rfl rfl rfl rfl, of_decide_eq_true rfl, trivial⟩
  have h3 : Cd.lev o = n := Classical.not_not.1 (of_decide_eq_false h3)
  rw [if_neg (fun hh => hh h3)] at g5
  have hil : i + 1 ≤ L.length := by
    refine Decidable.byContradiction fun hh => ?_
    rw [hd_at, if_neg (by omega)] at ho
    rw [ho] at h3
    have := Cd.lev_empty
    omega
  rw [List.drop_drop, show i.toNat + 1 = (i + 1).toNat by omega] at g5
  repeat (refine And.intro ?_ ?_; first | omega | (simp only [Lay.d_n]; omega))
  refine x_if (fun h4 => ?_) (fun h4 => ?_)
  · have hz : o = ⟨#[38, 38]⟩ ∨ o = ⟨#[124, 124]⟩ := .inl (of_decide_eq_true h4)
    refine x_ift h4 ?_
    rw [if_pos hz] at g5
    cases hcb : Cd.binR g (n + 1) (L.drop (i + 1).toNat) (live && Cd.lazyU o ⟨y, yu⟩) fi with
    | none => rw [hcb] at g5; cases g5
    | some q =>
    obtain ⟨z, l2, f2⟩ := q
    rw [hcb] at g5
    simp only at g5
    obtain ⟨hz1, hz2⟩ := (Cd.rd_out g).2.1 _ _ _ _ _ _ _ (hn.sub (List.drop_suffix _ _)) hcb
    obtain ⟨q1, q2, q3⟩ := at_sfx (by omega : 0 ≤ i + 1) hz2
    have hbz := hB g (by omega) (n + 1) L (i + 1) fi (live && Cd.lazyU o ⟨y, yu⟩) z l2 f2 (by omega) (by omega) hn hl (by omega) hil hcb
    obtain ⟨i2, hi2⟩ : ∃ i2, i2 = (L.length : Int) - l2.length := ⟨_, rfl⟩
    rw [← hi2] at q1 q2 q3 hbz
    obtain ⟨z, zu⟩ := z
    repeat (refine And.intro ?_ ?_; first | omega | (simp only [Lay.d_n]; omega))
    refine xl_callSC hbz opMono hOc [0, 1] rfl rfl rfl rfl fn21 rfl rfl rfl rfl rfl rfl rfl (fun _ => rfl) (fun _ u6 hu6 _ => ?_)
    refine xl_go tt_ok ?_
    refine x_if (fun h6 => ?_) (fun h6 => ?_)
    · have h6 : Cd.lazyU o ⟨y, yu⟩ = true := h6
      refine xl_call0 (.int .u64 (Cd.truth (decide (z ≠ 0)))) rfl rfl rfl rfl fn47 rfl rfl (fun E w F _ => truth_any _ w) ?_
      refine xl_go tt_ok ?_
      refine again (⟨Cd.truth (decide (z ≠ 0)), false⟩, i2, f2, g) [] (.of rfl rfl rfl rfl rfl rfl) ⟨q1, q2, Cd.rg_truth _, by omega, ?_⟩ (by show g < g + 1; omega)
      rw [h6, if_pos rfl] at g5
      rw [← q3]; exact g5
    · have h6 : Cd.lazyU o ⟨y, yu⟩ = false := h6
      refine xl_call0 (.int .u64 (Cd.truth (decide (o = ⟨#[124, 124]⟩)))) rfl rfl rfl rfl fn47 rfl rfl (fun E w F _ => truth_any _ w) ?_
      refine xl_go tt_ok ?_
      refine again (⟨Cd.truth (decide (o = ⟨#[124, 124]⟩)), false⟩, i2, f2, g) [] (.of rfl rfl rfl rfl rfl rfl) ⟨q1, q2, Cd.rg_truth _, by omega, ?_⟩ (by show g < g + 1; omega)
      rw [h6, if_neg (by simp)] at g5
      rw [← q3]; exact g5
  refine x_if (fun h5 => ?_) (fun h5 => ?_)
  · have hz : o = ⟨#[38, 38]⟩ ∨ o = ⟨#[124, 124]⟩ := .inr (of_decide_eq_true h5)
    rw [if_pos hz] at g5
    cases hcb : Cd.binR g (n + 1) (L.drop (i + 1).toNat) (live && Cd.lazyU o ⟨y, yu⟩) fi with
    | none => rw [hcb] at g5; cases g5
    | some q =>
    obtain ⟨z, l2, f2⟩ := q
    rw [hcb] at g5
    simp only at g5
    obtain ⟨hz1, hz2⟩ := (Cd.rd_out g).2.1 _ _ _ _ _ _ _ (hn.sub (List.drop_suffix _ _)) hcb
    obtain ⟨q1, q2, q3⟩ := at_sfx (by omega : 0 ≤ i + 1) hz2
    have hbz := hB g (by omega) (n + 1) L (i + 1) fi (live && Cd.lazyU o ⟨y, yu⟩) z l2 f2 (by omega) (by omega) hn hl (by omega) hil hcb
    obtain ⟨i2, hi2⟩ : ∃ i2, i2 = (L.length : Int) - l2.length := ⟨_, rfl⟩
    rw [← hi2] at q1 q2 q3 hbz
    obtain ⟨z, zu⟩ := z
    repeat (refine And.intro ?_ ?_; first | omega | (simp only [Lay.d_n]; omega))
    refine xl_callSC hbz opMono hOc [0, 1] rfl rfl rfl rfl fn21 rfl rfl rfl rfl rfl rfl rfl (fun _ => rfl) (fun _ u6 hu6 _ => ?_)
    refine xl_go tt_ok ?_
    refine x_if (fun h6 => ?_) (fun h6 => ?_)
    · have h6 : Cd.lazyU o ⟨y, yu⟩ = true := h6
      refine xl_call0 (.int .u64 (Cd.truth (decide (z ≠ 0)))) rfl rfl rfl rfl fn47 rfl rfl (fun E w F _ => truth_any _ w) ?_
      refine xl_go tt_ok ?_
      refine again (⟨Cd.truth (decide (z ≠ 0)), false⟩, i2, f2, g) [] (.of rfl rfl rfl rfl rfl rfl) ⟨q1, q2, Cd.rg_truth _, by omega, ?_⟩ (by show g < g + 1; omega)
      rw [h6, if_pos rfl] at g5
      rw [← q3]; exact g5
    · have h6 : Cd.lazyU o ⟨y, yu⟩ = false := h6
      refine xl_call0 (.int .u64 (Cd.truth (decide (o = ⟨#[124, 124]⟩)))) rfl rfl rfl rfl fn47 rfl rfl (fun E w F _ => truth_any _ w) ?_
      refine xl_go tt_ok ?_
      refine again (⟨Cd.truth (decide (o = ⟨#[124, 124]⟩)), false⟩, i2, f2, g) [] (.of rfl rfl rfl rfl rfl rfl) ⟨q1, q2, Cd.rg_truth _, by omega, ?_⟩ (by show g < g + 1; omega)
      rw [h6, if_neg (by simp)] at g5
      rw [← q3]; exact g5
  have h4 : ¬ o = ⟨#[38, 38]⟩ := of_decide_eq_false h4
  have h5 : ¬ o = ⟨#[124, 124]⟩ := of_decide_eq_false h5
  rw [if_neg (fun hh => hh.elim h4 h5)] at g5
  cases hcb : Cd.binR g (n + 1) (L.drop (i + 1).toNat) live fi with
  | none => rw [hcb] at g5; cases g5
  | some q =>
  obtain ⟨z, l2, f2⟩ := q
  rw [hcb] at g5
  simp only at g5
  obtain ⟨hz1, hz2⟩ := (Cd.rd_out g).2.1 _ _ _ _ _ _ _ (hn.sub (List.drop_suffix _ _)) hcb
  obtain ⟨q1, q2, q3⟩ := at_sfx (by omega : 0 ≤ i + 1) hz2
  have hbz := hB g (by omega) (n + 1) L (i + 1) fi live z l2 f2 (by omega) (by omega) hn hl (by omega) hil hcb
  obtain ⟨i2, hi2⟩ : ∃ i2, i2 = (L.length : Int) - l2.length := ⟨_, rfl⟩
  rw [← hi2] at q1 q2 q3 hbz
  obtain ⟨z, zu⟩ := z
  repeat (refine And.intro ?_ ?_; first | omega | (simp only [Lay.d_n]; omega))
  refine xl_callSC hbz opMono hOc [0, 1] rfl rfl rfl rfl fn21 rfl rfl rfl rfl rfl rfl rfl (fun _ => rfl) (fun _ u6 hu6 _ => ?_)
  refine xl_go tt_ok ?_
  refine xl_callSC (apply_sc L i2 f2 o ⟨y, yu⟩ ⟨z, zu⟩ live g3 hz1) (fun _ _ _ _ => trivial) trivial [0, 1] rfl rfl rfl rfl fn48 rfl rfl rfl rfl rfl rfl rfl (fun _ => rfl) (fun _ u7 hu7 _ => ?_)
  refine xl_go tt_ok ?_
  refine again ((Cd.applyP o ⟨y, yu⟩ ⟨z, zu⟩ live f2).1, i2, (Cd.applyP o ⟨y, yu⟩ ⟨z, zu⟩ live f2).2, g) [] (.of rfl rfl rfl rfl rfl rfl) ⟨q1, q2, Cd.rg_apply g3 hz1, by omega, ?_⟩ (by show g < g + 1; omega)
  rw [← q3]; exact g5
theorem read_all : ∀ f : Nat, ∀ g, g ≤ f → ChoC g ∧ BinC g ∧ PreC g
  | 0, g, hg => by
    obtain rfl : g = 0 := by omega
    exact ⟨fun L i fl live x r fl' _ _ _ _ h => by simp [Cd.choR] at h, fun n L i fl live x r fl' _ _ _ _ _ _ h => by simp [Cd.binR] at h, fun L i fl live x r fl' _ _ _ _ h => by simp [Cd.preR] at h⟩
  | f + 1, g, hg => by
    have ih := read_all f
    by_cases hgf : g ≤ f
    · exact ih g hgf
    · obtain rfl : g = f + 1 := by omega
      have hf := ih f (Nat.le_refl _)
      exact ⟨cho_step f hf.2.1 hf.1, bin_step f (fun g hg => (ih g hg).2.1) hf.2.2, pre_step f hf.1 hf.2.2⟩
end Go.Proofs.YtnjmkeijjapejaaGreatDoor
namespace Go.Lx
abbrev Bs := List Int
def letter (c : Int) : Bool := (decide (97 ≤ c) && decide (c ≤ 122)) || (decide (65 ≤ c) && decide (c ≤ 90)) || decide (c = 95)
def digit (c : Int) : Bool := decide (48 ≤ c) && decide (c ≤ 57)
def white (c : Int) : Bool := decide (c = 32) || decide (c = 9) || decide (c = 11) || decide (c = 12)
def sign (c : Int) : Bool := decide (c = 43) || decide (c = 45)
def expo (c : Int) : Bool := decide (c = 101) || decide (c = 69) || decide (c = 112) || decide (c = 80)
def alnum (c : Int) : Bool := letter c || digit c
def okc (c : Int) : Bool := alnum c || decide (c = 46)
def run (p : Int → Bool) : Bs → Nat
  | [] => 0
  | c :: r => match p c with
    | true => run p r + 1
    | false => 0
def wordN : Bs → Nat
  | [] => 0
  | c :: r => match letter c with
    | true => run alnum r + 1
    | false => 0
def isWord : Bs → Bool
  | [] => false
  | c :: r => letter c && r.all alnum
theorem all_take_run (p : Int → Bool) : ∀ (l : Bs) (m : Nat), m ≤ l.length → ((l.take m).all p = true ↔ m ≤ run p l)
  | [], m, h => by simp at h; subst h; simp [run]
  | c :: r, 0, _ => by simp
  | c :: r, m + 1, h => by
    simp only [List.length_cons, Nat.add_le_add_iff_right] at h
    have ih := all_take_run p r m h
    simp only [List.take_succ_cons, List.all_cons, run, Bool.and_eq_true]
    cases hp : p c with
    | true => simp [ih]
    | false => simp
theorem run_le (p : Int → Bool) : ∀ l : Bs, run p l ≤ l.length
  | [] => Nat.le_refl _
  | c :: r => by
    have := run_le p r
    simp only [run, List.length_cons]
    split <;> omega
theorem isWord_take {l : Bs} {m : Nat} (h : m ≤ l.length) : isWord (l.take m) = true ↔ 1 ≤ m ∧ m ≤ wordN l := by
  cases l with
  | nil => simp at h; subst h; simp [isWord]
  | cons c r =>
    cases m with
    | zero => simp [isWord]
    | succ m =>
      simp only [List.length_cons, Nat.add_le_add_iff_right] at h
      simp only [List.take_succ_cons, isWord, wordN, Bool.and_eq_true, all_take_run alnum r m h]
      cases letter c with
      | true => simp
      | false => simp
theorem wordN_le (l : Bs) : wordN l ≤ l.length := by
  cases l with
  | nil => exact Nat.le_refl _
  | cons c r =>
    have := run_le alnum r
    simp only [wordN, List.length_cons]
    split <;> omega
def okp (a b : Int) : Bool := okc b || (sign b && expo a)
def runP : Int → Bs → Nat
  | _, [] => 0
  | a, b :: r => match okp a b with
    | true => runP b r + 1
    | false => 0
def allP : Int → Bs → Bool
  | _, [] => true
  | a, b :: r => okp a b && allP b r
theorem allP_take : ∀ (l : Bs) (a : Int) (m : Nat), m ≤ l.length → (allP a (l.take m) = true ↔ m ≤ runP a l)
  | [], a, m, h => by simp at h; subst h; simp [runP, allP]
  | c :: r, a, 0, _ => by simp [allP]
  | c :: r, a, m + 1, h => by
    simp only [List.length_cons, Nat.add_le_add_iff_right] at h
    have ih := allP_take r c m h
    simp only [List.take_succ_cons, allP, runP, Bool.and_eq_true]
    cases okp a c with
    | true => simp [ih]
    | false => simp
theorem runP_le : ∀ (l : Bs) (a : Int), runP a l ≤ l.length
  | [], _ => Nat.le_refl _
  | c :: r, a => by
    have := runP_le r c
    simp only [runP, List.length_cons]
    split <;> omega
def numN : Bs → Nat
  | [] => 0
  | c :: r => match digit c with
    | true => runP c r + 1
    | false => match decide (c = 46), r with
      | true, d :: r' => match digit d with
        | true => runP d r' + 2
        | false => 0
      | _, _ => 0
def isNum : Bs → Bool
  | [] => false
  | c :: r => match digit c with
    | true => allP c r
    | false => match decide (c = 46), r with
      | true, d :: r' => digit d && allP d r'
      | _, _ => false
def numS : Bs → Nat
  | [] => 0
  | c :: _ => match digit c with
    | true => 1
    | false => 2
theorem numN_le (l : Bs) : numN l ≤ l.length := by
  match l with
  | [] => exact Nat.le_refl _
  | [c] =>
    simp only [numN, runP, List.length_cons, List.length_nil]
    cases digit c with
    | true => simp
    | false => cases decide (c = 46) <;> simp
  | c :: d :: r =>
    have h1 := runP_le (d :: r) c
    have h2 := runP_le r d
    simp only [List.length_cons] at h1 ⊢
    simp only [numN]
    cases digit c with
    | true => simp only; omega
    | false =>
      cases decide (c = 46) with
      | false => simp
      | true =>
        show (match digit d with
          | true => runP d r + 2
          | false => 0) ≤ _
        split
        · show runP d r + 2 ≤ r.length + 1 + 1
          omega
        · exact Nat.zero_le _
theorem isNum_take {l : Bs} {m : Nat} (h : m ≤ l.length) : isNum (l.take m) = true ↔ 0 < numN l ∧ numS l ≤ m ∧ m ≤ numN l := by
  match l, m, h with
  | [], m, h => simp at h; subst h; simp [isNum, numN]
  | c :: r, 0, _ =>
    simp only [List.take_zero, isNum, numS]
    constructor
    · intro h; cases h
    · rintro ⟨_, h, _⟩; split at h <;> omega
  | [c], m + 1, h =>
    simp at h; subst h
    simp only [List.take_succ_cons, List.take_zero, isNum, numN, numS, allP, runP]
    cases digit c with
    | true => simp
    | false => cases decide (c = 46) <;> simp
  | c :: d :: r, 1, h =>
    simp only [List.take_succ_cons, List.take_zero, isNum, numN, numS, allP]
    cases hd : digit c with
    | true => simp
    | false =>
      cases decide (c = 46) with
      | true => cases digit d <;> simp
      | false => simp
  | c :: d :: r, m + 2, h =>
    simp only [List.length_cons, Nat.add_le_add_iff_right] at h
    have h1 := allP_take (d :: r) c (m + 1) (by simp; omega)
    have h2 := allP_take r d m h
    simp only [List.take_succ_cons] at h1 ⊢
    simp only [isNum, numN, numS]
    cases digit c with
    | true => simp only [h1]; omega
    | false =>
      cases decide (c = 46) with
      | true =>
        simp only
        cases digit d with
        | true => simp only [Bool.true_and, h2]; omega
        | false => simp
      | false => simp
def bodyN (q : Int) : Bs → Nat
  | [] => 0
  | [c] => match decide (c = q) && decide (c ≠ 10) with
    | true => 1
    | false => 0
  | c :: d :: r => match decide (c = 10) with
    | true => 0
    | false => match decide (c = q) with
      | true => 1
      | false => match decide (c = 92) with
        | true => match decide (d = 10), bodyN q r with
          | false, n + 1 => n + 3
          | _, _ => 0
        | false => match bodyN q (d :: r) with
          | 0 => 0
          | n + 1 => n + 2
def pieces (q : Int) : Bs → Bool
  | [] => true
  | [c] => !(decide (c = q) || decide (c = 10)) && !decide (c = 92)
  | c :: d :: r => match decide (c = q) || decide (c = 10) with
    | true => false
    | false => match decide (c = 92) with
      | true => !decide (d = 10) && pieces q r
      | false => pieces q (d :: r)
theorem bodyN_le (q : Int) : ∀ l : Bs, bodyN q l ≤ l.length
  | [] => Nat.le_refl _
  | [c] => by
    simp only [bodyN, List.length_cons, List.length_nil]
    split <;> omega
  | c :: d :: r => by
    have h1 := bodyN_le q r
    have h2 := bodyN_le q (d :: r)
    simp only [List.length_cons] at h2 ⊢
    unfold bodyN
    split
    · omega
    · split
      · omega
      · split
        · split <;> omega
        · split <;> omega
theorem body_take (q : Int) (hq : q ≠ 92) (hq2 : q ≠ 10) : ∀ (l : Bs) (m : Nat), m < l.length → ((pieces q (l.take m) = true ∧ l[m]? = some q) ↔ bodyN q l = m + 1)
  | [], m, h => by simp at h
  | [c], m, h => by
    simp at h; subst h
    simp only [List.take_zero, pieces, bodyN, List.getElem?_cons_zero, Option.some.injEq, true_and]
    by_cases hc : c = q
    · subst hc; simp [hq2]
    · simp [hc]
  | c :: d :: r, 0, h => by
    simp only [List.take_zero, pieces, bodyN, List.getElem?_cons_zero, Option.some.injEq, true_and, Nat.zero_add]
    by_cases h10 : c = 10
    · subst h10
      simp only [decide_true]
      constructor
      · intro hh; exact absurd hh.symm hq2
      · intro hh; cases hh
    · rw [decide_eq_false h10]
      by_cases hc : c = q
      · subst hc; simp
      · rw [decide_eq_false hc]
        constructor
        · intro hh; exact absurd hh hc
        · intro hh
          simp only at hh
          split at hh
          · split at hh <;> omega
          · split at hh <;> omega
  | c :: d :: r, 1, h => by
    simp only [List.take_succ_cons, List.take_zero, pieces, List.getElem?_cons_succ, List.getElem?_cons_zero, Option.some.injEq]
    have ih := body_take q hq hq2 (d :: r) 0 (by simp)
    simp only [List.take_zero, pieces, List.getElem?_cons_zero, Option.some.injEq, true_and, Nat.zero_add] at ih
    unfold bodyN
    by_cases h10 : c = 10
    · subst h10; simp
    · rw [decide_eq_false h10]
      by_cases hc : c = q
      · subst hc; simp
      · rw [decide_eq_false hc]
        by_cases h92 : c = 92
        · rw [decide_eq_true h92]
          simp only [Bool.or_self, Bool.not_false, Bool.not_true, Bool.and_false, Bool.false_eq_true, false_and, false_iff]
          split <;> omega
        · rw [decide_eq_false h92]
          simp only [Bool.or_self, Bool.not_false, Bool.and_self, true_and, ih]
          split <;> omega
  | c :: d :: r, m + 2, h => by
    simp only [List.length_cons, Nat.add_lt_add_iff_right] at h
    have ih1 := body_take q hq hq2 (d :: r) (m + 1) (by simp; omega)
    simp only [List.take_succ_cons, List.getElem?_cons_succ] at ih1 ⊢
    unfold bodyN
    cases m with
    | zero =>
      have ih2 := body_take q hq hq2 r 0 h
      simp only [List.take_zero, pieces, true_and] at ih1 ih2 ⊢
      by_cases h10 : c = 10
      · subst h10; simp
      · rw [decide_eq_false h10]
        by_cases hc : c = q
        · subst hc; simp
        · rw [decide_eq_false hc]
          by_cases h92 : c = 92
          · rw [decide_eq_true h92]
            simp only [Bool.or_self, Bool.and_true]
            by_cases hd : d = 10
            · rw [decide_eq_true hd]; simp
            · rw [decide_eq_false hd]
              simp only [Bool.not_false, true_and, ih2]
              split
              · rename_i n _ hn; rw [hn]; omega
              · rename_i hn
                constructor
                · intro h5; exact absurd h5 (by intro h6; exact hn _ rfl h6)
                · intro h5; cases h5
          · rw [decide_eq_false h92]
            simp only [Bool.or_self, ih1]
            split <;> omega
    | succ m =>
      have ih2 := body_take q hq hq2 r (m + 1) h
      simp only [pieces]
      by_cases h10 : c = 10
      · subst h10; simp
      · rw [decide_eq_false h10]
        by_cases hc : c = q
        · subst hc; simp
        · rw [decide_eq_false hc]
          by_cases h92 : c = 92
          · rw [decide_eq_true h92]
            simp only [Bool.or_self]
            by_cases hd : d = 10
            · rw [decide_eq_true hd]; simp
            · rw [decide_eq_false hd]
              simp only [Bool.not_false, Bool.true_and, ih2]
              split
              · rename_i n _ hn; rw [hn]; omega
              · rename_i hn
                constructor
                · intro h5; exact absurd h5 (by intro h6; exact hn _ rfl h6)
                · intro h5; cases h5
          · rw [decide_eq_false h92]
            simp only [Bool.or_self]
            rw [ih1]
            split <;> omega
def punS : List Bs := [[91], [93], [40], [41], [123], [125], [46], [45, 62], [43, 43], [45, 45], [38], [42], [43], [45], [126], [33], [47], [37], [60, 60], [62, 62], [60], [62], [60, 61], [62, 61], [61, 61], [33, 61], [94], [124], [38, 38], [124, 124], [63], [58], [59], [46, 46, 46], [61], [42, 61], [47, 61], [37, 61], [43, 61], [45, 61], [60, 60, 61], [62, 62, 61], [38, 61], [94, 61], [124, 61], [44], [35], [35, 35], [60, 58], [58, 62], [60, 37], [37, 62], [37, 58], [37, 58, 37, 58]]
def isPun (t : Bs) : Bool := punS.contains t
def punDown : Nat → Bs → Nat
  | 0, _ => 0
  | n + 1, l => match isPun (l.take (n + 1)) with
    | true => n + 1
    | false => punDown n l
def punN (l : Bs) : Nat := punDown (min 4 l.length) l
def quoteB (c : Int) : Bool := decide (c = 39) || decide (c = 34)
def noPun (c : Int) : Bool := alnum c || quoteB c || decide (c = 10) || white c || decide (c = 92)
theorem pun_facts : ∀ t ∈ punS, (1 ≤ t.length ∧ t.length ≤ 4) ∧ t.all (fun c => !noPun c) = true ∧ (t.head? = some 46 → t.length = 1 ∨ t[1]? = some 46) := by decide
theorem isPun_mem {t : Bs} : isPun t = true ↔ t ∈ punS := by unfold isPun; simp
theorem punDown_le : ∀ (n : Nat) (l : Bs), punDown n l ≤ n
  | 0, _ => Nat.le_refl _
  | n + 1, l => by
    have := punDown_le n l
    simp only [punDown]; split <;> omega
theorem punDown_is : ∀ (n : Nat) (l : Bs), 0 < punDown n l → isPun (l.take (punDown n l)) = true
  | 0, _, h => by cases h
  | n + 1, l, h => by
    have ih := punDown_is n l
    simp only [punDown] at h ⊢
    split
    · assumption
    · rename_i hh; rw [hh] at h; exact ih h
theorem punDown_max : ∀ (n : Nat) (l : Bs) (m : Nat), m ≤ n → isPun (l.take m) = true → m ≤ punDown n l
  | 0, _, m, h, _ => h
  | n + 1, l, m, h, hp => by
    simp only [punDown]
    split
    · exact h
    · rename_i hh
      have hne : m ≠ n + 1 := fun e => by subst e; rw [hp] at hh; cases hh
      exact punDown_max n l m (by omega) hp
theorem punN_is {l : Bs} (h : 0 < punN l) : isPun (l.take (punN l)) = true := punDown_is _ l h
theorem punN_le (l : Bs) : punN l ≤ l.length := Nat.le_trans (punDown_le _ l) (Nat.min_le_right ..)
theorem punN_max {l : Bs} {m : Nat} (hm : m ≤ l.length) (h : isPun (l.take m) = true) : m ≤ punN l := by
  refine punDown_max _ l m ?_ h
  have := (pun_facts _ (isPun_mem.1 h)).1
  rw [List.length_take] at this
  omega
def prefN : Bs → Nat
  | [] => 0
  | c :: r => match decide (c = 117) && decide (r.head? = some 56) && decide (r[1]? = some 34) with
    | true => 2
    | false => match decide (c = 117) || decide (c = 85) || decide (c = 76) with
      | true => 1
      | false => 0
def litQ (l : Bs) : Int × Nat :=
  match l.drop (prefN l) with
  | [] => (0, 0)
  | q :: r =>
    if q = 34 then (match bodyN 34 r with
      | 0 => (0, 0)
      | n + 1 => (4, prefN l + 1 + (n + 1)))
    else if q = 39 then (match bodyN 39 r with
      | 0 => (0, 0)
      | 1 => (0, 0)
      | n + 2 => (3, prefN l + 1 + (n + 2)))
    else (0, 0)
def litAt (q : Int) (p t : Bs) : Bool :=
  decide (p.length + 2 ≤ t.length) && (decide (t.take p.length = p) && (decide (t[p.length]? = some q) && (decide (t[t.length - 1]? = some q) && pieces q ((t.take (t.length - 1)).drop (p.length + 1)))))
def isLit (q : Int) : List Bs → Bs → Bool
  | [], _ => false
  | p :: ps, t => match litAt q p t with
    | true => decide (q = 34) || decide (p.length + 2 < t.length)
    | false => isLit q ps t
def pre39 : List Bs := [[], [117], [85], [76]]
def pre34 : List Bs := [[], [117, 56], [117], [85], [76]]
def kindR (t : Bs) : Int :=
  if t = [10] then 9 else if isWord t then 1 else if isNum t then 2 else if isLit 39 pre39 t then 3 else if isLit 34 pre34 t then 4 else if isPun t then 5 else 0
theorem litAt_take {q : Int} {p l : Bs} {m : Nat} (hm : m ≤ l.length) (hq : q ≠ 92) (hq2 : q ≠ 10) :
    litAt q p (l.take m) = true ↔ l.take p.length = p ∧ l[p.length]? = some q ∧ 0 < bodyN q (l.drop (p.length + 1)) ∧ m = p.length + 1 + bodyN q (l.drop (p.length + 1)) := by
  have hl : (l.take m).length = m := by rw [List.length_take]; omega
  unfold litAt
  simp only [Bool.and_eq_true, decide_eq_true_eq, hl]
  constructor
  · rintro ⟨h1, h2, h3, h4, h5⟩
    rw [List.take_take, Nat.min_eq_left (by omega)] at h2
    rw [List.getElem?_take, if_pos (by omega)] at h3 h4
    have e : ((l.take m).take (m - 1)).drop (p.length + 1) = (l.drop (p.length + 1)).take (m - p.length - 2) := by
      rw [List.take_take, Nat.min_eq_left (by omega), List.drop_take]
      congr 1; omega
    rw [e] at h5
    have e2 : (l.drop (p.length + 1))[m - p.length - 2]? = some q := by
      rw [List.getElem?_drop, ← h4]; congr 1; omega
    have := (body_take q hq hq2 (l.drop (p.length + 1)) (m - p.length - 2) (by rw [List.length_drop]; omega)).1 ⟨h5, e2⟩
    exact ⟨h2, h3, by omega, by omega⟩
  · rintro ⟨h1, h2, h3, h4⟩
    have hb := bodyN_le q (l.drop (p.length + 1))
    rw [List.length_drop] at hb
    have := (body_take q hq hq2 (l.drop (p.length + 1)) (m - p.length - 2) (by rw [List.length_drop]; omega)).2 (by omega)
    refine ⟨by omega, ?_, ?_, ?_, ?_⟩
    · rw [List.take_take, Nat.min_eq_left (by omega)]; exact h1
    · rw [List.getElem?_take, if_pos (by omega)]; exact h2
    · rw [List.getElem?_take, if_pos (by omega), ← this.2, List.getElem?_drop]; congr 1; omega
    · have e : ((l.take m).take (m - 1)).drop (p.length + 1) = (l.drop (p.length + 1)).take (m - p.length - 2) := by
        rw [List.take_take, Nat.min_eq_left (by omega), List.drop_take]
        congr 1; omega
      rw [e]; exact this.1
theorem quote_getD {q c : Int} (h : q = 39 ∨ q = 34) (e : c = q) : quoteB c = true := by subst e; rcases h with rfl | rfl <;> rfl
theorem pref_of {q : Int} (hq : q = 39 ∨ q = 34) {p l : Bs} (hp : p ∈ pre34) (hp2 : p = [117, 56] → q = 34) (h1 : l.take p.length = p) (h2 : l[p.length]? = some q) : prefN l = p.length := by
  simp only [pre34, List.mem_cons, List.not_mem_nil, or_false] at hp
  match l, h1, h2 with
  | [], h1, h2 => simp at h2
  | c :: r, h1, h2 =>
    rcases hp with rfl | rfl | rfl | rfl | rfl
    · simp only [List.length_nil, List.getElem?_cons_zero, Option.some.injEq] at h2
      subst h2
      rcases hq with rfl | rfl <;> rfl
    · match r, h1, h2 with
      | [], h1, h2 => simp at h2
      | [d], h1, h2 => simp at h2
      | d :: e :: r, h1, h2 =>
        have := hp2 rfl
        subst this
        have e2 : e = 34 := by simpa using h2
        have e1 : c = 117 ∧ d = 56 := by simpa using h1
        rw [e2, e1.1, e1.2]; rfl
    all_goals
      simp only [List.length_cons, List.length_nil, Nat.zero_add, List.take_succ_cons, List.take_zero, List.cons.injEq, and_true] at h1
      subst h1
      simp only [List.length_cons, List.length_nil, Nat.zero_add, List.getElem?_cons_succ] at h2
      have h3 : ¬ r.head? = some 56 := by
        intro hh
        rw [List.head?_eq_getElem?, h2] at hh
        rcases hq with rfl | rfl <;> cases hh
      simp [prefN, h3]
theorem pref_mem (l : Bs) : ∃ p ∈ pre34, p.length = prefN l ∧ (∀ q, l[prefN l]? = some q → (q = 39 ∨ q = 34) → l.take (prefN l) = p ∧ (p = [117, 56] → q = 34)) := by
  match l with
  | [] => exact ⟨[], by simp [pre34], rfl, fun q h => by simp [prefN] at h⟩
  | c :: r =>
    simp only [prefN]
    split
    · rename_i h
      simp only [Bool.and_eq_true, decide_eq_true_eq] at h
      obtain ⟨⟨rfl, h2⟩, h3⟩ := h
      match r, h2, h3 with
      | [], h2, _ => simp at h2
      | [d], _, h3 => simp at h3
      | d :: e :: r, h2, h3 =>
        simp at h2 h3
        subst h2 h3
        refine ⟨[117, 56], by simp [pre34], rfl, fun q h hq => ⟨rfl, fun _ => ?_⟩⟩
        simp at h; exact h.symm
    · split
      · rename_i h
        simp only [Bool.or_eq_true, decide_eq_true_eq] at h
        refine ⟨[c], ?_, rfl, fun q _ _ => ⟨rfl, fun e => by cases e⟩⟩
        rcases h with (rfl | rfl) | rfl <;> simp [pre34]
      · exact ⟨[], by simp [pre34], rfl, fun q _ _ => ⟨rfl, fun e => by cases e⟩⟩
theorem isLit_take {q : Int} (hq : q = 39 ∨ q = 34) {l : Bs} {m : Nat} (hm : m ≤ l.length) : ∀ {ps : List Bs}, (∀ p ∈ ps, p ∈ pre34 ∧ (p = [117, 56] → q = 34)) →
    (isLit q ps (l.take m) = true ↔ (∃ p ∈ ps, l.take p.length = p ∧ p.length = prefN l) ∧ l[prefN l]? = some q ∧ 0 < bodyN q (l.drop (prefN l + 1)) ∧ m = prefN l + 1 + bodyN q (l.drop (prefN l + 1)) ∧ (q = 34 ∨ 1 < bodyN q (l.drop (prefN l + 1))))
  | [], _ => by simp [isLit]
  | p :: ps, hps => by
    have hq1 : q ≠ 92 := by rcases hq with rfl | rfl <;> decide
    have hq2 : q ≠ 10 := by rcases hq with rfl | rfl <;> decide
    have ih := isLit_take hq hm (ps := ps) (fun p' hp' => hps p' (List.mem_cons_of_mem _ hp'))
    have hl : (l.take m).length = m := by rw [List.length_take]; omega
    simp only [isLit]
    split
    · rename_i h
      rw [litAt_take hm hq1 hq2] at h
      obtain ⟨h1, h2, h3, h4⟩ := h
      obtain ⟨hp, hp2⟩ := hps p (List.mem_cons_self ..)
      have e := pref_of hq hp hp2 h1 h2
      rw [e]
      simp only [Bool.or_eq_true, decide_eq_true_eq, hl]
      constructor
      · intro h5
        refine ⟨⟨p, List.mem_cons_self .., h1, rfl⟩, h2, h3, h4, ?_⟩
        rcases h5 with h5 | h5
        · exact .inl h5
        · right; omega
      · rintro ⟨_, _, _, _, h5⟩
        rcases h5 with h5 | h5
        · exact .inl h5
        · right; omega
    · rename_i h
      rw [ih]
      constructor
      · rintro ⟨⟨p', hp', h1⟩, h2⟩
        exact ⟨⟨p', List.mem_cons_of_mem _ hp', h1⟩, h2⟩
      · rintro ⟨⟨p', hp', h1, h2⟩, h3⟩
        rcases List.mem_cons.1 hp' with rfl | hp'
        · exfalso
          rw [← h2] at h3
          have := (litAt_take (p := p') hm hq1 hq2).2 ⟨h1, h3.1, h3.2.1, h3.2.2.1⟩
          rw [this] at h; cases h
        · exact ⟨⟨p', hp', h1, h2⟩, h3⟩
theorem drop_cons_of {l : Bs} {k : Nat} {q : Int} (h : l[k]? = some q) : l.drop k = q :: l.drop (k + 1) := by
  obtain ⟨hk, rfl⟩ := List.getElem?_eq_some_iff.1 h
  exact List.drop_eq_getElem_cons hk
theorem drop_nil_of {l : Bs} {k : Nat} (h : l[k]? = none) : l.drop k = [] := List.drop_eq_nil_of_le (List.getElem?_eq_none_iff.1 h)
theorem lit39_take {l : Bs} {m : Nat} (hm : m ≤ l.length) : isLit 39 pre39 (l.take m) = true ↔ (litQ l).1 = 3 ∧ m = (litQ l).2 := by
  rw [isLit_take (.inl rfl) hm (by decide)]
  unfold litQ
  cases hd : l[prefN l]? with
  | none => rw [drop_nil_of hd]; simp
  | some q =>
    rw [drop_cons_of hd]
    simp only [Option.some.injEq]
    by_cases h34 : q = 34
    · subst h34
      simp only [if_true]
      constructor
      · rintro ⟨_, h, _⟩; cases h
      · rintro ⟨h, _⟩; split at h <;> cases h
    · rw [if_neg h34]
      by_cases h39 : q = 39
      · subst h39
        rw [if_pos rfl]
        constructor
        · rintro ⟨_, _, h1, h2, h3⟩
          have h3 : 1 < bodyN 39 (l.drop (prefN l + 1)) := by
            rcases h3 with h3 | h3
            · cases h3
            · exact h3
          split
          · omega
          · omega
          · rename_i n hn; exact ⟨rfl, by omega⟩
        · rintro ⟨h1, h2⟩
          split at h1
          · cases h1
          · cases h1
          · rename_i n hn
            rw [hn] at h2 ⊢
            simp only at h2
            obtain ⟨p, hp, e, hh⟩ := pref_mem l
            obtain ⟨e1, e2⟩ := hh 39 hd (.inl rfl)
            refine ⟨⟨p, ?_, by rw [e]; exact e1, e⟩, rfl, by omega, by omega, .inr (by omega)⟩
            simp only [pre34, List.mem_cons, List.not_mem_nil, or_false] at hp
            simp only [pre39, List.mem_cons, List.not_mem_nil, or_false]
            rcases hp with rfl | rfl | rfl | rfl | rfl
            · simp
            · have := e2 rfl; cases this
            · simp
            · simp
            · simp
      · rw [if_neg h39]
        constructor
        · rintro ⟨_, h, _⟩; exact absurd h h39
        · rintro ⟨h, _⟩; cases h
theorem lit34_take {l : Bs} {m : Nat} (hm : m ≤ l.length) : isLit 34 pre34 (l.take m) = true ↔ (litQ l).1 = 4 ∧ m = (litQ l).2 := by
  rw [isLit_take (.inr rfl) hm (by decide)]
  unfold litQ
  cases hd : l[prefN l]? with
  | none => rw [drop_nil_of hd]; simp
  | some q =>
    rw [drop_cons_of hd]
    simp only [Option.some.injEq]
    by_cases h34 : q = 34
    · subst h34
      simp only [if_true]
      constructor
      · rintro ⟨_, _, h1, h2, h3⟩
        split
        · omega
        · rename_i n hn; exact ⟨rfl, by omega⟩
      · rintro ⟨h1, h2⟩
        split at h1
        · cases h1
        · rename_i n hn
          rw [hn] at h2 ⊢
          simp only at h2
          obtain ⟨p, hp, e, hh⟩ := pref_mem l
          obtain ⟨e1, e2⟩ := hh 34 hd (.inr rfl)
          exact ⟨⟨p, hp, by rw [e]; exact e1, e⟩, by simp, by omega, by omega, by simp⟩
    · rw [if_neg h34]
      constructor
      · rintro ⟨_, h, _⟩; exact absurd h h34
      · rintro ⟨h, _⟩
        split at h
        · split at h <;> cases h
        · cases h
theorem litQ_facts (l : Bs) : ((litQ l).1 = 0 ∧ (litQ l).2 = 0) ∨ (((litQ l).1 = 3 ∨ (litQ l).1 = 4) ∧ 2 ≤ (litQ l).2 ∧ (litQ l).2 ≤ l.length ∧ prefN l + 2 ≤ (litQ l).2 ∧ ∃ q, (q = 39 ∨ q = 34) ∧ l[prefN l]? = some q) := by
  unfold litQ
  cases hd : l[prefN l]? with
  | none => rw [drop_nil_of hd]; exact .inl ⟨rfl, rfl⟩
  | some q =>
    rw [drop_cons_of hd]
    have hk := (List.getElem?_eq_some_iff.1 hd).1
    have hb := bodyN_le q (l.drop (prefN l + 1))
    rw [List.length_drop] at hb
    by_cases h34 : q = 34
    · subst h34
      simp only [if_true]
      split
      · exact .inl ⟨rfl, rfl⟩
      · rename_i n hn
        exact .inr ⟨.inr rfl, by show 2 ≤ prefN l + 1 + (n + 1); omega, by show prefN l + 1 + (n + 1) ≤ _; omega, by show _ ≤ prefN l + 1 + (n + 1); omega, 34, .inr rfl, rfl⟩
    · simp only [if_neg h34]
      by_cases h39 : q = 39
      · subst h39
        simp only [if_true]
        split
        · exact .inl ⟨rfl, rfl⟩
        · exact .inl ⟨rfl, rfl⟩
        · rename_i n hn
          exact .inr ⟨.inl rfl, by show 2 ≤ prefN l + 1 + (n + 2); omega, by show prefN l + 1 + (n + 2) ≤ _; omega, by show _ ≤ prefN l + 1 + (n + 2); omega, 39, .inl rfl, rfl⟩
      · simp only [if_neg h39]
        exact .inl (by simp)
def bestL (l : Bs) : Int × Nat :=
  if 0 < (litQ l).2 then litQ l else if 0 < wordN l then (1, wordN l) else if 0 < numN l then (2, numN l) else if 0 < punN l then (5, punN l) else (0, 0)
def bestG (l : Bs) : Int × Nat :=
  let a := if 0 < (litQ l).2 then litQ l else (0, 0)
  let b := if a.2 < wordN l then (1, wordN l) else a
  let c := if b.2 < numN l then (2, numN l) else b
  if c.2 < punN l then (5, punN l) else c
theorem letter_cases {c : Int} (h : letter c = true) : (97 ≤ c ∧ c ≤ 122) ∨ (65 ≤ c ∧ c ≤ 90) ∨ c = 95 := by
  unfold letter at h
  simp only [Bool.or_eq_true, Bool.and_eq_true, decide_eq_true_eq] at h
  omega
theorem digit_cases {c : Int} (h : digit c = true) : 48 ≤ c ∧ c ≤ 57 := by
  unfold digit at h
  simpa only [Bool.and_eq_true, decide_eq_true_eq] using h
theorem wordN_head {l : Bs} (h : 0 < wordN l) : ∃ c r, l = c :: r ∧ letter c = true := by
  cases l with
  | nil => cases h
  | cons c r =>
    cases hc : letter c with
    | true => exact ⟨c, r, rfl, hc⟩
    | false => simp [wordN, hc] at h
theorem numN_head {l : Bs} (h : 0 < numN l) : ∃ c r, l = c :: r ∧ (digit c = true ∨ (c = 46 ∧ ∃ d r', r = d :: r' ∧ digit d = true ∧ 2 ≤ numN l)) := by
  cases l with
  | nil => cases h
  | cons c r =>
    refine ⟨c, r, rfl, ?_⟩
    cases hc : digit c with
    | true => exact .inl rfl
    | false =>
      right
      simp only [numN, hc] at h ⊢
      by_cases h46 : c = 46
      · rw [decide_eq_true h46] at h ⊢
        cases r with
        | nil => cases h
        | cons d r' =>
          simp only at h ⊢
          cases hd : digit d with
          | true => exact ⟨h46, d, r', rfl, hd, by simp⟩
          | false => rw [hd] at h; cases h
      · rw [decide_eq_false h46] at h
        simp at h
theorem punN_head {l : Bs} (h : 0 < punN l) : ∃ c r, l = c :: r ∧ noPun c = false ∧ (c = 46 → punN l = 1 ∨ r.head? = some 46) := by
  have h1 := punN_is h
  have h2 := pun_facts _ (isPun_mem.1 h1)
  cases l with
  | nil => simp at h2
  | cons c r =>
    obtain ⟨k, hk⟩ : ∃ k, punN (c :: r) = k + 1 := ⟨punN (c :: r) - 1, by omega⟩
    have hle := punN_le (c :: r)
    rw [hk] at h1 h2 hle ⊢
    simp only [List.length_cons, Nat.add_le_add_iff_right] at hle
    simp only [List.take_succ_cons, List.all_cons, Bool.and_eq_true, Bool.not_eq_true', List.head?_cons, Option.some.injEq, List.length_cons, List.length_take, List.getElem?_cons_succ] at h2
    refine ⟨c, r, rfl, h2.2.1.1, fun hc => ?_⟩
    rcases h2.2.2 hc with h3 | h3
    · left; omega
    · right
      rw [List.getElem?_take] at h3
      split at h3
      · rw [List.head?_eq_getElem?]; exact h3
      · cases h3
theorem prefN_head (c : Int) (r : Bs) : prefN (c :: r) = 0 ∨ ((c = 117 ∨ c = 85 ∨ c = 76) ∧ prefN (c :: r) ≤ 2 ∧ 1 ≤ prefN (c :: r)) := by
  simp only [prefN]
  split
  · rename_i h
    simp only [Bool.and_eq_true, decide_eq_true_eq] at h
    exact .inr ⟨.inl h.1.1, Nat.le_refl _, by omega⟩
  · split
    · rename_i h
      simp only [Bool.or_eq_true, decide_eq_true_eq] at h
      refine .inr ⟨?_, by omega, Nat.le_refl _⟩
      rcases h with (h | h) | h
      · exact .inl h
      · exact .inr (.inl h)
      · exact .inr (.inr h)
    · exact .inl rfl
theorem lit_head {l : Bs} (h : 0 < (litQ l).2) : ∃ c r, l = c :: r ∧ (quoteB c = true ∨ c = 117 ∨ c = 85 ∨ c = 76) := by
  rcases litQ_facts l with ⟨_, h0⟩ | ⟨_, _, _, _, q, hq, hl⟩
  · omega
  · cases l with
    | nil => simp at hl
    | cons c r =>
      refine ⟨c, r, rfl, ?_⟩
      rcases prefN_head c r with h1 | ⟨h1, _⟩
      · rw [h1] at hl
        simp at hl
        exact .inl (quote_getD hq hl)
      · exact .inr h1
theorem noPun_quote {c : Int} (h : quoteB c = true) : noPun c = true := by unfold noPun; rw [h]; simp
theorem noPun_letter {c : Int} (h : letter c = true) : noPun c = true := by unfold noPun alnum; rw [h]; simp
theorem noPun_digit {c : Int} (h : digit c = true) : noPun c = true := by unfold noPun alnum; rw [h]; simp
theorem quote_cases {c : Int} (h : quoteB c = true) : c = 39 ∨ c = 34 := by
  unfold quoteB at h
  simpa only [Bool.or_eq_true, decide_eq_true_eq] using h
theorem lit_num {l : Bs} (h : 0 < (litQ l).2) : numN l = 0 := by
  obtain ⟨c, r, rfl, hc⟩ := lit_head h
  rcases Nat.eq_zero_or_pos (numN (c :: r)) with h0 | h0
  · exact h0
  · obtain ⟨c', r', e, h1⟩ := numN_head h0
    cases e
    exfalso
    have hcc : c = 39 ∨ c = 34 ∨ c = 117 ∨ c = 85 ∨ c = 76 := by
      rcases hc with hc | hc
      · rcases quote_cases hc with hc | hc
        · exact .inl hc
        · exact .inr (.inl hc)
      · exact .inr (.inr hc)
    rcases h1 with h1 | ⟨h1, _⟩
    · have := digit_cases h1; omega
    · omega
theorem lit_pun {l : Bs} (h : 0 < (litQ l).2) : punN l = 0 := by
  obtain ⟨c, r, rfl, hc⟩ := lit_head h
  rcases Nat.eq_zero_or_pos (punN (c :: r)) with h0 | h0
  · exact h0
  · obtain ⟨c', r', e, h1, _⟩ := punN_head h0
    cases e
    exfalso
    have : noPun c = true := by
      rcases hc with hc | hc
      · exact noPun_quote hc
      · apply noPun_letter
        unfold letter
        simp only [Bool.or_eq_true, Bool.and_eq_true, decide_eq_true_eq]
        omega
    rw [this] at h1; cases h1
theorem word_num {l : Bs} (h : 0 < wordN l) : numN l = 0 := by
  obtain ⟨c, r, rfl, hc⟩ := wordN_head h
  rcases Nat.eq_zero_or_pos (numN (c :: r)) with h0 | h0
  · exact h0
  · obtain ⟨c', r', e, h1⟩ := numN_head h0
    cases e
    exfalso
    have := letter_cases hc
    rcases h1 with h1 | ⟨h1, _⟩
    · have := digit_cases h1; omega
    · omega
theorem word_pun {l : Bs} (h : 0 < wordN l) : punN l = 0 := by
  obtain ⟨c, r, rfl, hc⟩ := wordN_head h
  rcases Nat.eq_zero_or_pos (punN (c :: r)) with h0 | h0
  · exact h0
  · obtain ⟨c', r', e, h1, _⟩ := punN_head h0
    cases e
    rw [noPun_letter hc] at h1; cases h1
theorem num_pun {l : Bs} (h : 0 < numN l) : punN l < numN l := by
  obtain ⟨c, r, rfl, h1⟩ := numN_head h
  rcases Nat.eq_zero_or_pos (punN (c :: r)) with h0 | h0
  · omega
  · obtain ⟨c', r', e, h2, h3⟩ := punN_head h0
    cases e
    rcases h1 with h1 | ⟨h1, d, r', rfl, hd, h5⟩
    · rw [noPun_digit h1] at h2; cases h2
    · rcases h3 h1 with h4 | h4
      · omega
      · simp at h4
        subst h4
        cases hd
theorem lit_word {l : Bs} (h : 0 < (litQ l).2) : wordN l < (litQ l).2 := by
  rcases litQ_facts l with ⟨_, h0⟩ | ⟨_, h2, h3, h4, q, hq, hl⟩
  · omega
  · rcases Nat.lt_or_ge (prefN l) (wordN l) with hlt | hge
    · exfalso
      have := (isWord_take (l := l) (m := prefN l + 1) (by have := (List.getElem?_eq_some_iff.1 hl).1; omega)).2 ⟨by omega, hlt⟩
      have hk := (List.getElem?_eq_some_iff.1 hl).1
      have hm : q ∈ l.take (prefN l + 1) := by
        rw [List.take_add_one, hl]; simp
      have hall : ∀ x ∈ l.take (prefN l + 1), alnum x = true := by
        intro x hx
        cases l with
        | nil => simp at hx
        | cons c r =>
          simp only [List.take_succ_cons, isWord, Bool.and_eq_true, List.all_eq_true] at this hx
          rcases List.mem_cons.1 hx with rfl | hx
          · unfold alnum; rw [this.1]; rfl
          · exact this.2 x hx
      have := hall q hm
      rcases hq with rfl | rfl <;> cases this
    · omega
theorem bestG_eq (l : Bs) : bestG l = bestL l := by
  unfold bestG bestL
  by_cases h1 : 0 < (litQ l).2
  · have a1 := lit_num h1
    have a2 := lit_pun h1
    have a3 := lit_word h1
    simp only [if_pos h1, if_neg (show ¬ (litQ l).2 < wordN l by omega), a1, a2, Nat.not_lt_zero, if_false]
  · simp only [if_neg h1]
    by_cases h2 : 0 < wordN l
    · have a1 := word_num h2
      have a2 := word_pun h2
      simp only [if_pos h2, a1, a2, Nat.not_lt_zero, if_false]
    · simp only [if_neg h2]
      by_cases h3 : 0 < numN l
      · have := num_pun h3
        simp only [if_pos h3, if_neg (show ¬ numN l < punN l by omega)]
      · simp only [if_neg h3]
theorem bestL_le (l : Bs) : (bestL l).2 ≤ l.length := by
  unfold bestL
  have h1 := wordN_le l
  have h2 := numN_le l
  have h3 := punN_le l
  split
  · rcases litQ_facts l with ⟨_, h0⟩ | ⟨_, h2, h3, _⟩ <;> omega
  · split
    · exact h1
    · split
      · exact h2
      · split
        · exact h3
        · exact Nat.zero_le _
theorem bestL_zero (l : Bs) : (bestL l).1 = 0 ↔ (bestL l).2 = 0 := by
  unfold bestL
  split
  · rename_i h
    rcases litQ_facts l with ⟨_, h0⟩ | ⟨h1, h2, _⟩
    · omega
    · constructor
      · intro h3; rw [h3] at h1; omega
      · intro h3; omega
  · split
    · simp; omega
    · split
      · simp; omega
      · split
        · simp; omega
        · simp
theorem kindR_take {l : Bs} {m : Nat} (hm : m ≤ l.length) (hl : l.head? ≠ some 10) :
    (∀ k, kindR (l.take m) = k → k ≠ 0 → 0 < m ∧ m ≤ (bestL l).2) ∧ (0 < m → m = (bestL l).2 → kindR (l.take m) = (bestL l).1) := by
  have hno : ¬ l.take m = [10] := by
    intro h
    apply hl
    cases l with
    | nil => simp at h
    | cons c r =>
      cases m with
      | zero => simp at h
      | succ m => simp at h; rw [h.1]; rfl
  have w := isWord_take hm
  have n := isNum_take hm
  have q3 := lit39_take hm
  have q4 := lit34_take hm
  have pm := punN_max hm
  have lf := litQ_facts l
  unfold kindR
  rw [if_neg hno]
  constructor
  · intro k hk hk0
    unfold bestL
    split at hk
    · rename_i h
      have h1 := w.1 h
      split
      · have := lit_word (by assumption : 0 < (litQ l).2); omega
      · rw [if_pos (by omega)]; exact h1
    · split at hk
      · rename_i h
        have h1 := n.1 h
        have h2 : numS l ≥ 1 := by
          cases l with
          | nil => simp [numN] at h1
          | cons c r => simp only [numS]; split <;> omega
        split
        · have := lit_num (by assumption : 0 < (litQ l).2); omega
        · split
          · have := word_num (by assumption : 0 < wordN l); omega
          · rw [if_pos h1.1]; exact ⟨by omega, h1.2.2⟩
      · split at hk
        · rename_i h
          obtain ⟨h1, h2⟩ := q3.1 h
          have : 0 < (litQ l).2 := by rcases lf with ⟨h0, _⟩ | ⟨_, h0, _⟩ <;> omega
          rw [if_pos this]; exact ⟨by omega, by omega⟩
        · split at hk
          · rename_i h
            obtain ⟨h1, h2⟩ := q4.1 h
            have : 0 < (litQ l).2 := by rcases lf with ⟨h0, _⟩ | ⟨_, h0, _⟩ <;> omega
            rw [if_pos this]; exact ⟨by omega, by omega⟩
          · split at hk
            · rename_i h
              have h1 := pm h
              have h2 := (pun_facts _ (isPun_mem.1 h)).1
              rw [List.length_take] at h2
              split
              · have := lit_pun (by assumption : 0 < (litQ l).2); omega
              · split
                · have := word_pun (by assumption : 0 < wordN l); omega
                · split
                  · have := num_pun (by assumption : 0 < numN l); exact ⟨by omega, by show m ≤ numN l; omega⟩
                  · rw [if_pos (by omega)]; exact ⟨by omega, h1⟩
            · exact absurd hk.symm hk0
  · intro h0 e
    unfold bestL at e ⊢
    by_cases c1 : 0 < (litQ l).2
    · rw [if_pos c1] at e ⊢
      have a1 := lit_word c1
      have a2 := lit_num c1
      rw [if_neg (fun h => by have := w.1 h; omega), if_neg (fun h => by have := n.1 h; omega)]
      rcases lf with ⟨_, h⟩ | ⟨h, _⟩
      · omega
      · rcases h with h | h
        · rw [if_pos (q3.2 ⟨h, e⟩), h]
        · rw [if_neg (fun h' => by have := (q3.1 h').1; omega), if_pos (q4.2 ⟨h, e⟩), h]
    · rw [if_neg c1] at e ⊢
      by_cases c2 : 0 < wordN l
      · rw [if_pos c2] at e ⊢
        rw [if_pos (w.2 ⟨by omega, by have : m = wordN l := e; omega⟩)]
      · rw [if_neg c2] at e ⊢
        rw [if_neg (fun h => by have := w.1 h; omega)]
        by_cases c3 : 0 < numN l
        · rw [if_pos c3] at e ⊢
          have e : m = numN l := e
          rw [if_pos (n.2 ⟨c3, ?_, by omega⟩)]
          obtain ⟨c, r, rfl, h1⟩ := numN_head c3
          simp only [numS]
          split
          · omega
          · rename_i hd
            rcases h1 with h1 | ⟨_, _, _, _, _, h5⟩
            · rw [h1] at hd; cases hd
            · omega
        · rw [if_neg c3] at e ⊢
          rw [if_neg (fun h => by have := (n.1 h).1; omega)]
          have hq0 : (litQ l).2 = 0 := by omega
          rw [if_neg (fun h => by have := (q3.1 h).2; omega), if_neg (fun h => by have := (q4.1 h).2; omega)]
          by_cases c4 : 0 < punN l
          · rw [if_pos c4] at e ⊢
            have e : m = punN l := e
            rw [if_pos (by rw [e]; exact punN_is c4)]
          · rw [if_neg c4] at e
            have e : m = 0 := e
            omega
def downR : Nat → Bs → Int × Nat
  | 0, _ => (0, 0)
  | n + 1, l => if 0 < kindR (l.take (n + 1)) then (kindR (l.take (n + 1)), n + 1) else downR n l
theorem kindR_pos (t : Bs) : 0 ≤ kindR t := by
  unfold kindR
  (repeat' split) <;> decide
theorem downR_eq {l : Bs} (hl : l.head? ≠ some 10) : ∀ {n : Nat}, n ≤ l.length → (bestL l).2 ≤ n → downR n l = bestL l
  | 0, _, h => by
    have h0 : (bestL l).2 = 0 := by omega
    have h1 := (bestL_zero l).2 h0
    simp only [downR]
    rw [← h1, ← h0]
  | n + 1, hn, h => by
    obtain ⟨k1, k2⟩ := kindR_take hn hl
    simp only [downR]
    by_cases e : n + 1 = (bestL l).2
    · have := k2 (by omega) e
      have hb : (bestL l).1 ≠ 0 := fun hh => by have := (bestL_zero l).1 hh; omega
      have hp := kindR_pos (l.take (n + 1))
      rw [if_pos (by omega), this, e]
    · have hk : kindR (l.take (n + 1)) = 0 := by
        by_cases hk : kindR (l.take (n + 1)) = 0
        · exact hk
        · have := k1 _ rfl hk; omega
      rw [if_neg (by omega)]
      exact downR_eq hl (by omega) (by omega)
def hdrGo (close : Int) : Bs → Nat
  | [] => 0
  | c :: r => match decide (c = 10) with
    | true => 0
    | false => match decide (c = close) with
      | true => 1
      | false => match hdrGo close r with
        | 0 => 0
        | n + 1 => n + 2
def hdrN : Bs → Nat
  | [] => 0
  | c :: r =>
    if c = 60 then (match hdrGo 62 r with
      | 0 => 0
      | n + 1 => n + 2)
    else if c = 34 then (match hdrGo 34 r with
      | 0 => 0
      | n + 1 => n + 2)
    else 0
def endC : Bs → Nat
  | [] => 0
  | [_] => 0
  | a :: b :: r => match decide (a = 42) && decide (b = 47) with
    | true => 2
    | false => match endC (b :: r) with
      | 0 => 0
      | n + 1 => n + 2
def notNl (c : Int) : Bool := !decide (c = 10)
structure Item where
  kind : Int
  len : Nat
  err : Int
  deriving DecidableEq
def isOpen (l : Bs) : Bool := decide (l.take 2 = [47, 42])
def isLine (l : Bs) : Bool := decide (l.take 2 = [47, 47])
def qHead : Bs → Bool
  | c :: _ => quoteB c
  | [] => false
def itemP (hdr : Bool) (l : Bs) : Item :=
  if hdr = true ∧ 0 < hdrN l then ⟨7, hdrN l, 0⟩
  else if isOpen l = true then (match endC (l.drop 2) with
    | 0 => ⟨0, 0, 20⟩
    | n + 1 => ⟨8, n + 3, 0⟩)
  else if isLine l = true then ⟨8, run notNl l, 0⟩
  else if l.head? = some 10 then ⟨9, 1, 0⟩
  else if (bestL l).1 ≠ 0 then ⟨(bestL l).1, (bestL l).2, 0⟩
  else if qHead l = true then ⟨0, 0, 21⟩
  else ⟨6, 1, 0⟩
theorem hdrGo_le (q : Int) : ∀ l : Bs, hdrGo q l ≤ l.length
  | [] => Nat.le_refl _
  | c :: r => by
    have := hdrGo_le q r
    simp only [hdrGo, List.length_cons]
    split
    · omega
    · split
      · omega
      · split <;> omega
theorem hdrN_le (l : Bs) : hdrN l ≤ l.length := by
  cases l with
  | nil => exact Nat.le_refl _
  | cons c r =>
    have h1 := hdrGo_le 62 r
    have h2 := hdrGo_le 34 r
    simp only [hdrN, List.length_cons]
    split
    · split <;> omega
    · split
      · split <;> omega
      · omega
theorem endC_le : ∀ l : Bs, endC l ≤ l.length
  | [] => Nat.le_refl _
  | [_] => Nat.zero_le _
  | a :: b :: r => by
    have := endC_le (b :: r)
    simp only [List.length_cons] at this ⊢
    simp only [endC]
    split
    · omega
    · split <;> omega
theorem itemP_le (hdr : Bool) {l : Bs} (hl : l ≠ []) : (itemP hdr l).len ≤ l.length ∧ ((itemP hdr l).err = 0 → 1 ≤ (itemP hdr l).len) := by
  have hpos : 1 ≤ l.length := by
    cases l with
    | nil => exact absurd rfl hl
    | cons => simp
  unfold itemP
  split
  · rename_i h; exact ⟨hdrN_le l, fun _ => h.2⟩
  · split
    · rename_i h
      have h1 := endC_le (l.drop 2)
      rw [List.length_drop] at h1
      split
      · exact ⟨Nat.zero_le _, fun h => by cases h⟩
      · rename_i n hn
        exact ⟨by show n + 3 ≤ _; omega, fun _ => by show 1 ≤ n + 3; omega⟩
    · split
      · rename_i h
        refine ⟨run_le _ l, fun _ => ?_⟩
        simp only [isLine, decide_eq_true_eq] at h
        match l, h with
        | a :: b :: r, h =>
          simp at h
          obtain ⟨rfl, rfl⟩ := h
          simp [run, notNl]
        | [a], h => simp at h
      · split
        · exact ⟨hpos, fun _ => Nat.le_refl _⟩
        · split
          · rename_i h
            refine ⟨bestL_le l, fun _ => ?_⟩
            have : (bestL l).2 ≠ 0 := fun hh => h ((bestL_zero l).2 hh)
            show 1 ≤ (bestL l).2
            omega
          · split
            · exact ⟨Nat.zero_le _, fun h => by cases h⟩
            · exact ⟨hpos, fun _ => Nat.le_refl _⟩
def after (st kind : Int) (t : Bs) : Int :=
  if kind = 8 then st else if kind = 9 then 0
  else if st = 0 ∧ kind = 5 ∧ (t = [35] ∨ t = [37, 58]) then 1
  else if st = 1 ∧ kind = 1 ∧ t = [105, 110, 99, 108, 117, 100, 101] then 2 else 3
structure Tk where
  kind : Int
  lo : Nat
  hi : Nat
  err : Int
  deriving DecidableEq
def itemsF : Nat → Int → Nat → Bs → List Tk
  | 0, _, _, _ => []
  | _ + 1, _, _, [] => []
  | n + 1, st, i, c :: r =>
    match white c with
    | true => itemsF n st (i + 1) r
    | false =>
      if (itemP (decide (st = 2)) (c :: r)).err ≠ 0 then [⟨0, 0, 0, (itemP (decide (st = 2)) (c :: r)).err⟩]
      else ⟨(itemP (decide (st = 2)) (c :: r)).kind, i, i + (itemP (decide (st = 2)) (c :: r)).len, 0⟩ ::
        itemsF n (after st (itemP (decide (st = 2)) (c :: r)).kind ((c :: r).take (itemP (decide (st = 2)) (c :: r)).len)) (i + (itemP (decide (st = 2)) (c :: r)).len) ((c :: r).drop (itemP (decide (st = 2)) (c :: r)).len)
def itemsL (l : Bs) : List Tk := itemsF l.length 0 0 l
theorem itemsF_fuel : ∀ (n m : Nat) (st : Int) (i : Nat) (l : Bs), l.length ≤ n → l.length ≤ m → itemsF n st i l = itemsF m st i l
  | 0, 0, _, _, _, _, _ => rfl
  | 0, m + 1, _, _, l, h, _ => by
    have : l = [] := List.eq_nil_of_length_eq_zero (by omega)
    subst this; rfl
  | n + 1, 0, _, _, l, _, h => by
    have : l = [] := List.eq_nil_of_length_eq_zero (by omega)
    subst this; rfl
  | n + 1, m + 1, st, i, [], _, _ => rfl
  | n + 1, m + 1, st, i, c :: r, h1, h2 => by
    simp only [List.length_cons] at h1 h2
    simp only [itemsF]
    split
    · exact itemsF_fuel n m _ _ r (by omega) (by omega)
    · split
      · rfl
      · rename_i h
        have hle := itemP_le (decide (st = 2)) (l := c :: r) (by simp)
        have h3 := hle.2 (by simpa using h)
        rw [itemsF_fuel n m _ _ _ (by rw [List.length_drop, List.length_cons]; omega) (by rw [List.length_drop, List.length_cons]; omega)]
def chain : Nat → Nat → List Tk → Prop
  | i, n, [] => i ≤ n
  | i, n, t :: r => (t.err = 0 ∧ i ≤ t.lo ∧ t.lo < t.hi ∧ t.hi ≤ n ∧ chain t.hi n r) ∨ (t.err ≠ 0 ∧ r = [])
theorem chain_weaken : ∀ {xs : List Tk} {i j n : Nat}, j ≤ i → chain i n xs → chain j n xs
  | [], _, _, _, h, hc => Nat.le_trans h hc
  | _ :: _, _, _, _, h, hc => by
    rcases hc with ⟨h1, h2, h3⟩ | h1
    · exact .inl ⟨h1, by omega, h3⟩
    · exact .inr h1
theorem itemsF_chain : ∀ (n : Nat) (st : Int) (i : Nat) (l : Bs), chain i (i + l.length) (itemsF n st i l)
  | 0, _, i, l => Nat.le_add_right ..
  | n + 1, st, i, [] => Nat.le_refl _
  | n + 1, st, i, c :: r => by
    simp only [itemsF]
    split
    · have := itemsF_chain n st (i + 1) r
      rw [List.length_cons, show i + (r.length + 1) = i + 1 + r.length by omega]
      exact chain_weaken (Nat.le_succ i) this
    · split
      · rename_i h
        exact .inr ⟨h, rfl⟩
      · rename_i h
        have hle := itemP_le (decide (st = 2)) (l := c :: r) (by simp)
        have h3 := hle.2 (by simpa using h)
        have := itemsF_chain n (after st (itemP (decide (st = 2)) (c :: r)).kind ((c :: r).take (itemP (decide (st = 2)) (c :: r)).len)) (i + (itemP (decide (st = 2)) (c :: r)).len) ((c :: r).drop (itemP (decide (st = 2)) (c :: r)).len)
        rw [List.length_drop, show i + (itemP (decide (st = 2)) (c :: r)).len + ((c :: r).length - (itemP (decide (st = 2)) (c :: r)).len) = i + (c :: r).length by omega] at this
        exact .inl ⟨rfl, Nat.le_refl _, by show i < i + _; omega, by show i + _ ≤ _; omega, this⟩
theorem run_take (p : Int → Bool) : ∀ (l : Bs) (n : Nat), run p l ≤ n → run p (l.take n) = run p l
  | [], n, _ => by simp
  | c :: r, 0, h => by
    simp only [run] at h ⊢
    cases hc : p c with
    | true => rw [hc] at h; simp at h
    | false => rfl
  | c :: r, n + 1, h => by
    simp only [List.take_succ_cons, run] at h ⊢
    cases hc : p c with
    | true => rw [hc] at h; simp at h; simp only [run_take p r n h]
    | false => rfl
theorem head_take {l : Bs} {n : Nat} (hn : 0 < n) : (l.take n).head? = l.head? := by
  cases l with
  | nil => simp
  | cons c r =>
    cases n with
    | zero => omega
    | succ n => rfl
theorem bestL_take {l : Bs} {n : Nat} (hl : l.head? ≠ some 10) (hn : (bestL l).2 ≤ n) (hn0 : 0 < n) : bestL (l.take n) = bestL l := by
  rcases Nat.lt_or_ge l.length n with hlt | hge
  · rw [List.take_of_length_le (by omega)]
  have hl' : (l.take n).head? ≠ some 10 := by rw [head_take hn0]; exact hl
  have hlen : (l.take n).length = n := by rw [List.length_take]; omega
  obtain ⟨k1, k2⟩ := kindR_take (l := l) (m := (bestL l).2) (bestL_le l) hl
  obtain ⟨j1, j2⟩ := kindR_take (l := l.take n) (m := (bestL (l.take n)).2) (bestL_le _) hl'
  have e1 : (l.take n).take (bestL l).2 = l.take (bestL l).2 := by rw [List.take_take, Nat.min_eq_left hn]
  have hle := bestL_le (l.take n)
  rw [hlen] at hle
  have e2 : (l.take n).take (bestL (l.take n)).2 = l.take (bestL (l.take n)).2 := by rw [List.take_take, Nat.min_eq_left hle]
  have a1 : (bestL l).2 ≤ (bestL (l.take n)).2 := by
    rcases Nat.eq_zero_or_pos (bestL l).2 with h0 | h0
    · omega
    · have hk := k2 h0 rfl
      have hb : (bestL l).1 ≠ 0 := fun hh => by have := (bestL_zero l).1 hh; omega
      exact ((kindR_take (l := l.take n) (m := (bestL l).2) (by omega) hl').1 _ rfl (by rw [e1, hk]; exact hb)).2
  have a2 : (bestL (l.take n)).2 ≤ (bestL l).2 := by
    rcases Nat.eq_zero_or_pos (bestL (l.take n)).2 with h0 | h0
    · omega
    · have hk := j2 h0 rfl
      rw [e2] at hk
      have hb : (bestL (l.take n)).1 ≠ 0 := fun hh => by have := (bestL_zero (l.take n)).1 hh; omega
      exact ((kindR_take (l := l) (m := (bestL (l.take n)).2) (by omega) hl).1 _ rfl (by rw [hk]; exact hb)).2
  have e : (bestL (l.take n)).2 = (bestL l).2 := by omega
  rcases Nat.eq_zero_or_pos (bestL l).2 with h0 | h0
  · exact Prod.ext (by rw [(bestL_zero l).2 h0, (bestL_zero (l.take n)).2 (by omega)]) e
  · have hk := k2 h0 rfl
    have hk2 := j2 (by omega) rfl
    rw [e2, e, hk] at hk2
    exact Prod.ext hk2.symm e
theorem endC_take : ∀ (l : Bs) (n : Nat), 0 < endC l → endC l ≤ n → endC (l.take n) = endC l
  | [], _, h, _ => by cases h
  | [_], _, h, _ => by cases h
  | a :: b :: r, n, h, hn => by
    have hle : 2 ≤ endC (a :: b :: r) := by
      simp only [endC] at h ⊢
      split
      · omega
      · split
        · rename_i h1 _ h2; rw [h1] at h; simp only [h2] at h; omega
        · omega
    obtain ⟨k, rfl⟩ : ∃ k, n = k + 2 := ⟨n - 2, by omega⟩
    simp only [List.take_succ_cons]
    simp only [endC] at h hn ⊢
    cases hc : (decide (a = 42) && decide (b = 47)) with
    | true => rfl
    | false =>
      rw [hc] at h hn
      simp only at h hn ⊢
      have e : (b :: r).take (k + 1) = b :: r.take k := rfl
      rw [← e]
      rcases Nat.eq_zero_or_pos (endC (b :: r)) with h0 | h0
      · rw [h0] at h; cases h
      · have := endC_take (b :: r) (k + 1) h0 (by
          cases hm : endC (b :: r) with
          | zero => omega
          | succ m => rw [hm] at hn; simp only at hn; omega)
        rw [this]
theorem take2_take {l : Bs} {n : Nat} (hn : 2 ≤ n) : (l.take n).take 2 = l.take 2 := by rw [List.take_take, Nat.min_eq_left hn]
theorem itemP_take {l : Bs} {n : Nat} (hl : l ≠ []) (he : (itemP false l).err = 0) (hn : (itemP false l).len ≤ n) : itemP false (l.take n) = itemP false l := by
  have h1 := (itemP_le false hl).2 he
  have hn0 : 0 < n := by omega
  rcases Nat.lt_or_ge l.length n with hlt | hge
  · rw [List.take_of_length_le (by omega)]
  have hlen : (l.take n).length = n := by rw [List.length_take]; omega
  have hhead : (l.take n).head? = l.head? := head_take hn0
  by_cases ho : isOpen l = true
  · have e : itemP false l = (match endC (l.drop 2) with
      | 0 => ⟨0, 0, 20⟩
      | n + 1 => ⟨8, n + 3, 0⟩) := by
      unfold itemP; rw [if_neg (by simp), if_pos ho]
    rw [e] at he hn ⊢
    cases hm : endC (l.drop 2) with
    | zero => rw [hm] at he; cases he
    | succ m =>
      rw [hm] at hn
      have hn : m + 3 ≤ n := hn
      have ho' : isOpen (l.take n) = true := by
        unfold isOpen at ho ⊢; rw [take2_take (by omega)]; exact ho
      unfold itemP
      rw [if_neg (by simp), if_pos ho', List.drop_take, endC_take _ _ (by omega) (by omega), hm]
  · by_cases hs : isLine l = true
    · have e : itemP false l = ⟨8, run notNl l, 0⟩ := by
        unfold itemP; rw [if_neg (by simp), if_neg ho, if_pos hs]
      rw [e] at hn ⊢
      have hn : run notNl l ≤ n := hn
      have hr : 2 ≤ run notNl l := by
        simp only [isLine, decide_eq_true_eq] at hs
        match l, hs with
        | a :: b :: r, h =>
          simp at h
          obtain ⟨rfl, rfl⟩ := h
          simp [run, notNl]
        | [a], h => simp at h
        | [], h => simp at h
      have ho' : ¬ isOpen (l.take n) = true := by
        unfold isOpen at ho ⊢; rw [take2_take (by omega)]; exact ho
      have hs' : isLine (l.take n) = true := by
        unfold isLine at hs ⊢; rw [take2_take (by omega)]; exact hs
      unfold itemP
      rw [if_neg (by simp), if_neg ho', if_pos hs', run_take _ _ _ hn]
    · -- neither: no shorter text is one
      have two : ∀ x : Bs, x.length = 2 → (l.take n).take 2 = x → l.take 2 = x := by
        intro x hx hh
        rcases Nat.lt_or_ge n 2 with h2 | h2
        · rw [List.take_take, Nat.min_eq_right (by omega)] at hh
          have : x.length = n := by rw [← hh, hlen]
          omega
        · rw [take2_take h2] at hh; exact hh
      have ho' : ¬ isOpen (l.take n) = true := fun hh => ho (by
        unfold isOpen at hh ⊢
        rw [decide_eq_true_eq] at hh ⊢
        exact two _ rfl hh)
      have hs' : ¬ isLine (l.take n) = true := fun hh => hs (by
        unfold isLine at hh ⊢
        rw [decide_eq_true_eq] at hh ⊢
        exact two _ rfl hh)
      by_cases hnl : l.head? = some 10
      · unfold itemP
        rw [if_neg (by simp), if_neg ho', if_neg hs', if_pos (by rw [hhead]; exact hnl), if_neg (by simp), if_neg ho, if_neg hs, if_pos hnl]
      · have hb : (bestL l).2 ≤ n := by
          by_cases hb : (bestL l).1 ≠ 0
          · have e : itemP false l = ⟨(bestL l).1, (bestL l).2, 0⟩ := by
              unfold itemP; rw [if_neg (by simp), if_neg ho, if_neg hs, if_neg hnl, if_pos hb]
            rw [e] at hn; exact hn
          · have := (bestL_zero l).1 (by simpa using hb); omega
        have hq : qHead (l.take n) = qHead l := by
          cases l with
          | nil => exact absurd rfl hl
          | cons c r =>
            obtain ⟨k, rfl⟩ : ∃ k, n = k + 1 := ⟨n - 1, by omega⟩
            rfl
        unfold itemP
        rw [if_neg (show ¬ (false = true ∧ 0 < hdrN (l.take n)) by simp), if_neg ho', if_neg hs', if_neg (by rw [hhead]; exact hnl), bestL_take hnl hb hn0, hq, if_neg (show ¬ (false = true ∧ 0 < hdrN l) by simp), if_neg ho, if_neg hs, if_neg hnl]
theorem itemP_hdr {hdr : Bool} {l : Bs} (h : (itemP hdr l).kind ≠ 7) : itemP false l = itemP hdr l := by
  unfold itemP at h ⊢
  by_cases hh : hdr = true ∧ 0 < hdrN l
  · rw [if_pos hh] at h; exact absurd rfl h
  · rw [if_neg hh, if_neg (by simp)]
def oneL (l : Bs) : Option Int :=
  match itemsL l with
  | [t] => if t.err = 0 ∧ t.hi - t.lo = l.length then some t.kind else none
  | _ => none
theorem oneL_iff {l : Bs} {k : Int} : oneL l = some k ↔ ∃ c r, l = c :: r ∧ white c = false ∧ itemP false l = ⟨k, l.length, 0⟩ := by
  unfold oneL itemsL
  constructor
  · intro h
    cases l with
    | nil => simp [itemsF] at h
    | cons c r =>
      simp only [List.length_cons, itemsF] at h
      cases hw : white c with
      | true =>
        rw [hw] at h
        simp only at h
        have hc := itemsF_chain r.length 0 (0 + 1) r
        split at h
        · rename_i t ht
          rw [ht] at hc
          split at h
          · rename_i h1
            rcases hc with ⟨_, h2, h3, h4, h5⟩ | ⟨h2, _⟩
            · omega
            · exact absurd h1.1 h2
          · cases h
        · cases h
      | false =>
        rw [hw] at h
        simp only [show decide ((0 : Int) = 2) = false from rfl] at h
        have hle := itemP_le false (l := c :: r) (by simp)
        by_cases he : (itemP false (c :: r)).err = 0
        · rw [if_neg (by simpa using he)] at h
          split at h
          · rename_i t ht
            rw [List.cons.injEq] at ht
            obtain ⟨rfl, _⟩ := ht
            split at h
            · rename_i h1
              simp only [Nat.zero_add, Nat.sub_zero] at h1
              cases h
              refine ⟨c, r, rfl, hw, ?_⟩
              generalize hg : itemP false (c :: r) = it at *
              cases it
              simp only at he h1 ⊢
              rw [he, h1.2]
              rfl
            · cases h
          · cases h
        · rw [if_pos he] at h
          simp only at h
          rw [if_neg (fun hh => he hh.1)] at h
          cases h
  · rintro ⟨c, r, rfl, hw, hi⟩
    simp only [List.length_cons, itemsF, hw, show decide ((0 : Int) = 2) = false from rfl, hi]
    rw [if_neg (by simp)]
    rw [List.drop_eq_nil_of_le (by simp)]
    have : ∀ n st i, itemsF n st i [] = [] := fun n st i => by cases n <;> rfl
    rw [this]
    simp
theorem one_of_item {hdr : Bool} {c : Int} {r : Bs} (hw : white c = false) (he : (itemP hdr (c :: r)).err = 0) (hk : (itemP hdr (c :: r)).kind ≠ 7) :
    oneL ((c :: r).take (itemP hdr (c :: r)).len) = some (itemP hdr (c :: r)).kind := by
  have e := itemP_hdr hk
  rw [← e] at he hk ⊢
  have hle := itemP_le false (l := c :: r) (by simp)
  have h1 := hle.2 he
  obtain ⟨m, hm⟩ : ∃ m, (itemP false (c :: r)).len = m + 1 := ⟨(itemP false (c :: r)).len - 1, by omega⟩
  have ht := itemP_take (l := c :: r) (n := (itemP false (c :: r)).len) (by simp) he (Nat.le_refl _)
  rw [oneL_iff]
  refine ⟨c, r.take m, by rw [hm]; rfl, hw, ?_⟩
  rw [ht, List.length_take, Nat.min_eq_left hle.1]
  generalize itemP false (c :: r) = it at he ⊢
  cases it
  simp only at he ⊢
  rw [he]
theorem alnum_nl {c : Int} (h : alnum c = true) : notNl c = true := by
  unfold notNl
  rw [Bool.not_eq_true', decide_eq_false_iff_not]
  rintro rfl
  cases h
theorem okp_nl {a b : Int} (h : okp a b = true) : notNl b = true := by
  unfold notNl
  rw [Bool.not_eq_true', decide_eq_false_iff_not]
  rintro rfl
  simp [okp, okc, alnum, letter, digit, sign] at h
theorem noPun_nl {c : Int} (h : noPun c = false) : notNl c = true := by
  unfold notNl
  rw [Bool.not_eq_true', decide_eq_false_iff_not]
  rintro rfl
  cases h
theorem allP_nl : ∀ (l : Bs) (a : Int), allP a l = true → l.all notNl = true
  | [], _, _ => rfl
  | b :: r, a, h => by
    simp only [allP, Bool.and_eq_true] at h
    simp only [List.all_cons, okp_nl h.1, allP_nl r b h.2, Bool.and_self]
theorem digit_nl {c : Int} (h : digit c = true) : notNl c = true := alnum_nl (by unfold alnum; rw [h]; simp)
theorem isNum_nl : ∀ {t : Bs}, isNum t = true → t.all notNl = true
  | [], _ => rfl
  | c :: r, h => by
    simp only [isNum] at h
    simp only [List.all_cons, Bool.and_eq_true]
    cases hc : digit c with
    | true =>
      rw [hc] at h
      exact ⟨digit_nl hc, allP_nl r c h⟩
    | false =>
      rw [hc] at h
      by_cases h46 : c = 46
      · subst h46
        cases r with
        | nil => cases h
        | cons d r' =>
          simp only [decide_true, Bool.and_eq_true] at h
          simp only [List.all_cons, Bool.and_eq_true]
          exact ⟨rfl, digit_nl h.1, allP_nl r' d h.2⟩
      · rw [decide_eq_false h46] at h
        simp at h
theorem isWord_nl {t : Bs} (h : isWord t = true) : t.all notNl = true := by
  cases t with
  | nil => rfl
  | cons c r =>
    simp only [isWord, Bool.and_eq_true, List.all_eq_true] at h
    simp only [List.all_cons, Bool.and_eq_true, List.all_eq_true]
    exact ⟨alnum_nl (by unfold alnum; rw [h.1]; rfl), fun x hx => alnum_nl (h.2 x hx)⟩
theorem isPun_nl {t : Bs} (h : isPun t = true) : t.all notNl = true := by
  have := (pun_facts t (isPun_mem.1 h)).2.1
  simp only [List.all_eq_true, Bool.not_eq_true'] at this ⊢
  exact fun x hx => noPun_nl (this x hx)
theorem pieces_nl (q : Int) : ∀ {t : Bs}, pieces q t = true → t.all notNl = true
  | [], _ => rfl
  | [c], h => by
    simp only [pieces, Bool.and_eq_true, Bool.not_eq_true', Bool.or_eq_false_iff] at h
    simp [notNl]
    simpa using h.1.2
  | c :: d :: r, h => by
    simp only [pieces] at h
    cases hc : (decide (c = q) || decide (c = 10)) with
    | true => rw [hc] at h; cases h
    | false =>
      rw [hc] at h
      simp only at h
      rw [Bool.or_eq_false_iff, decide_eq_false_iff_not, decide_eq_false_iff_not] at hc
      by_cases h92 : c = 92
      · rw [decide_eq_true h92] at h
        simp only [Bool.and_eq_true, Bool.not_eq_true', decide_eq_false_iff_not] at h
        have ih := pieces_nl q (t := r) h.2
        simp only [List.all_cons, Bool.and_eq_true, notNl, Bool.not_eq_true', decide_eq_false_iff_not]
        exact ⟨hc.2, h.1, ih⟩
      · rw [decide_eq_false h92] at h
        simp only at h
        have ih := pieces_nl q (t := d :: r) h
        rw [List.all_cons, ih, Bool.and_true]
        unfold notNl
        rw [decide_eq_false hc.2]; rfl
theorem isLit_nl {q : Int} (hq : q = 39 ∨ q = 34) : ∀ {ps : List Bs} {t : Bs}, (∀ p ∈ ps, p.all notNl = true) → isLit q ps t = true → t.all notNl = true
  | [], _, _, h => by cases h
  | p :: ps, t, hp, h => by
    simp only [isLit] at h
    cases hc : litAt q p t with
    | false => rw [hc] at h; exact isLit_nl hq (fun x hx => hp x (List.mem_cons_of_mem _ hx)) h
    | true =>
      unfold litAt at hc
      simp only [Bool.and_eq_true, decide_eq_true_eq] at hc
      obtain ⟨h1, h2, h3, h4, h5⟩ := hc
      have hqn : notNl q = true := by rcases hq with rfl | rfl <;> rfl
      have e1 : t = t.take (t.length - 1) ++ [q] := by
        have h6 : t.length - 1 < t.length := by omega
        have h7 := List.take_append_getElem (l := t) (i := t.length - 1) h6
        rw [List.getElem?_eq_getElem h6, Option.some.injEq] at h4
        rw [h4, show t.length - 1 + 1 = t.length by omega, List.take_length] at h7
        exact h7.symm
      have e2 : t.take (t.length - 1) = p ++ q :: (t.take (t.length - 1)).drop (p.length + 1) := by
        have h6 : (t.take (t.length - 1))[p.length]? = some q := by rw [List.getElem?_take, if_pos (by omega)]; exact h3
        have h7 := List.take_append_drop p.length (t.take (t.length - 1))
        rw [drop_cons_of h6, List.take_take, Nat.min_eq_left (by omega), h2] at h7
        exact h7.symm
      rw [e1, List.all_append, e2, List.all_append, List.all_cons, hp p (List.mem_cons_self ..), hqn, pieces_nl q h5]
      simp [hqn]
theorem best_nl {l : Bs} (hl : l.head? ≠ some 10) : (bestL l).2 ≤ run notNl l := by
  rcases Nat.eq_zero_or_pos (bestL l).2 with h0 | h0
  · omega
  rw [← all_take_run notNl l _ (bestL_le l)]
  have hk := (kindR_take (bestL_le l) hl).2 h0 rfl
  have hb : (bestL l).1 ≠ 0 := fun hh => by have := (bestL_zero l).1 hh; omega
  rw [← hk] at hb
  unfold kindR at hb
  split at hb
  · rename_i h
    exfalso
    apply hl
    cases l with
    | nil => simp at h
    | cons c r =>
      obtain ⟨m, hm⟩ : ∃ m, (bestL (c :: r)).2 = m + 1 := ⟨(bestL (c :: r)).2 - 1, by omega⟩
      rw [hm] at h
      simp at h
      rw [h.1]; rfl
  · split at hb
    · rename_i h; exact isWord_nl h
    · split at hb
      · rename_i h; exact isNum_nl h
      · split at hb
        · rename_i h; exact isLit_nl (.inl rfl) (by decide) h
        · split at hb
          · rename_i h; exact isLit_nl (.inr rfl) (by decide) h
          · split at hb
            · rename_i h; exact isPun_nl h
            · exact absurd rfl hb
def longR (l : Bs) : Int × Nat :=
  if run notNl l = 0 then (9, 1)
  else if (downR (run notNl l) l).1 ≠ 0 then downR (run notNl l) l
  else if qHead l = true then (0, 0) else (6, 1)
def remR (l : Bs) : Int :=
  if isOpen l = true then (match endC (l.drop 2) with
    | 0 => -1
    | n + 1 => (n + 3 : Int))
  else if isLine l = true then (run notNl l : Int) else 0
def itemR (hdr : Bool) (l : Bs) : Item :=
  let n0 : Int := if hdr = true then (hdrN l : Int) else 0
  if n0 ≠ 0 then ⟨7, n0.toNat, 0⟩
  else if remR l < 0 then ⟨0, 0, 20⟩
  else if remR l ≠ 0 then ⟨8, (remR l).toNat, 0⟩
  else if (longR l).2 = 0 then ⟨0, 0, 21⟩ else ⟨(longR l).1, (longR l).2, 0⟩
theorem run_zero {l : Bs} (hl : l ≠ []) : run notNl l = 0 ↔ l.head? = some 10 := by
  cases l with
  | nil => exact absurd rfl hl
  | cons c r =>
    simp only [run, List.head?_cons, Option.some.injEq]
    by_cases h : c = 10
    · subst h; simp [notNl]
    · simp [notNl, h]
theorem itemR_eq (hdr : Bool) {l : Bs} (hl : l ≠ []) : itemR hdr l = itemP hdr l := by
  unfold itemR itemP
  by_cases h1 : hdr = true ∧ 0 < hdrN l
  · simp only [if_pos h1.1, if_pos h1]
    rw [if_pos (by omega)]
    simp
  · have hn0 : (if hdr = true then (hdrN l : Int) else 0) = 0 := by
      split
      · rename_i h; have : ¬ 0 < hdrN l := fun hh => h1 ⟨h, hh⟩; omega
      · rfl
    simp only [hn0, if_neg h1, ne_eq, not_true_eq_false, if_false]
    by_cases h2 : isOpen l = true
    · unfold remR
      simp only [if_pos h2]
      cases hm : endC (l.drop 2) with
      | zero => simp
      | succ n =>
        simp only
        rw [if_neg (by omega), if_pos (by omega)]
        congr 1
    · by_cases h3 : isLine l = true
      · unfold remR
        simp only [if_neg h2, if_pos h3]
        have hr : run notNl l ≠ 0 := by
          rw [Ne, run_zero hl]
          intro h4
          simp only [isLine, decide_eq_true_eq] at h3
          cases l with
          | nil => exact hl rfl
          | cons c r => simp at h4 h3; omega
        rw [if_neg (by omega), if_pos (by omega)]
        simp
      · have hr : remR l = 0 := by unfold remR; rw [if_neg h2, if_neg h3]
        simp only [hr, if_neg h2, if_neg h3]
        simp only [Int.lt_irrefl, if_false, not_true_eq_false]
        unfold longR
        by_cases h4 : l.head? = some 10
        · rw [if_pos ((run_zero hl).2 h4), if_pos h4]; rfl
        · have hd := downR_eq h4 (run_le notNl l) (best_nl h4)
          rw [if_neg (fun hh => h4 ((run_zero hl).1 hh)), if_neg h4, hd]
          by_cases h5 : (bestL l).1 = 0
          · simp only [h5, ne_eq, not_true_eq_false, if_false]
            by_cases h6 : qHead l = true
            · simp only [if_pos h6, if_true]
            · simp only [if_neg h6]
              rfl
          · have : (bestL l).2 ≠ 0 := fun hh => h5 ((bestL_zero l).2 hh)
            simp only [ne_eq, h5, not_false_eq_true, if_true, this, if_false]
def oneG (n : Nat) : Int × Nat → List Tk → Int × Nat
  | s, [] => s
  | s, t :: r => if t.err ≠ 0 ∨ t.hi - t.lo ≠ n then (s.1, 0) else oneG n (t.kind, s.2 + 1) r
theorem itemsF_nil (n : Nat) (st : Int) (i : Nat) : itemsF n st i [] = [] := by cases n <;> rfl
theorem one_bad {l : Bs} {t : Tk} {r : List Tk} (hx : itemsL l = t :: r) (hne : t.err ≠ 0 ∨ t.hi - t.lo ≠ l.length) : oneL l = none ∧ oneG l.length (0, 0) (itemsL l) = (0, 0) := by
  unfold oneL
  rw [hx]
  constructor
  · split
    · rename_i t' ht
      rw [List.cons.injEq] at ht
      obtain ⟨rfl, _⟩ := ht
      rw [if_neg (fun hh => hne.elim (fun h => h hh.1) (fun h => h hh.2))]
    · rfl
  · simp only [oneG]
    rw [if_pos hne]
theorem oneG_eq (l : Bs) : oneL l = if (oneG l.length (0, 0) (itemsL l)).2 = 1 then some (oneG l.length (0, 0) (itemsL l)).1 else none := by
  cases l with
  | nil => rfl
  | cons c r =>
    cases hw : white c with
    | true =>
      have e : itemsL (c :: r) = itemsF r.length 0 1 r := by
        unfold itemsL; simp only [List.length_cons, itemsF, hw, Nat.zero_add]
      have hc := itemsF_chain r.length 0 1 r
      cases hx : itemsF r.length 0 1 r with
      | nil => unfold oneL; rw [e, hx]; rfl
      | cons t q =>
        rw [hx] at hc e
        have hne : t.err ≠ 0 ∨ t.hi - t.lo ≠ (c :: r).length := by
          rcases hc with ⟨h1, h2, h3, h4, _⟩ | ⟨h1, _⟩
          · right; simp only [List.length_cons]; omega
          · exact .inl h1
        obtain ⟨e1, e2⟩ := one_bad e hne
        rw [e1, e2]; rfl
    | false =>
      have e : itemsL (c :: r) = if (itemP false (c :: r)).err ≠ 0 then [⟨0, 0, 0, (itemP false (c :: r)).err⟩]
          else ⟨(itemP false (c :: r)).kind, 0, 0 + (itemP false (c :: r)).len, 0⟩ ::
            itemsF r.length (after 0 (itemP false (c :: r)).kind ((c :: r).take (itemP false (c :: r)).len)) (0 + (itemP false (c :: r)).len) ((c :: r).drop (itemP false (c :: r)).len) := by
        unfold itemsL
        simp only [List.length_cons, itemsF, hw, show decide ((0 : Int) = 2) = false from rfl]
      by_cases he : (itemP false (c :: r)).err = 0
      · rw [if_neg (by simpa using he)] at e
        by_cases hn : (itemP false (c :: r)).len = (c :: r).length
        · rw [hn, List.drop_eq_nil_of_le (Nat.le_refl _), itemsF_nil] at e
          unfold oneL
          rw [e]
          simp [oneG]
        · obtain ⟨e1, e2⟩ := one_bad e (.inr (by simpa using hn))
          rw [e1, e2]; rfl
      · rw [if_pos he] at e
        obtain ⟨e1, e2⟩ := one_bad e (.inl he)
        rw [e1, e2]; rfl
end Go.Lx
namespace Go.Proofs.YtnjmkeijjapejaaGreatDoor
open Go.GV Go.RowKit
def bl (s : ByteArray) : Lx.Bs := s.data.toList.map fun b => (b.toNat : Int)
def tl (s : ByteArray) (i : Int) : Lx.Bs := (bl s).drop i.toNat
theorem bl_len (s : ByteArray) : (bl s).length = s.size := by rw [bl, List.length_map, Array.length_toList]; rfl
theorem tl_len (s : ByteArray) (i : Int) : (tl s i).length = s.size - i.toNat := by rw [tl, List.length_drop, bl_len]
theorem bl_get (s : ByteArray) {n : Nat} (h : n < s.size) : (bl s)[n]? = some (bt s n) := by
  unfold bl bt
  have h' : n < s.data.toList.length := by rw [Array.length_toList]; exact h
  simp only [List.getElem?_map, List.getD_eq_getElem?_getD, Int.toNat_natCast, List.getElem?_eq_getElem h', Option.map_some, Option.getD_some]
theorem tl_cons {s : ByteArray} {i : Int} (h0 : 0 ≤ i) (h : i < s.size) : tl s i = bt s i :: tl s (i + 1) := by
  have hl : i.toNat < (bl s).length := by rw [bl_len]; omega
  unfold tl
  rw [List.drop_eq_getElem_cons hl, show (i + 1).toNat = i.toNat + 1 by omega]
  have h2 := bl_get s (n := i.toNat) (by omega)
  rw [List.getElem?_eq_getElem hl] at h2
  rw [Option.some.inj h2]
  rfl
theorem tl_nil {s : ByteArray} {i : Int} (h : s.size ≤ i) : tl s i = [] := List.drop_eq_nil_of_le (by rw [bl_len]; omega)
theorem tl_zero (s : ByteArray) : tl s 0 = bl s := rfl
theorem white_any (c : Int) (w : World) : Calls Tryz.prog 81 #[.int .u8 c] w (PureP w fun v _ => v = .bool (Lx.white c)) := by
  refine x_fun tt_ok Tryz.func81 rfl rfl [] 0 [.v (.int .u8 c)] rfl rfl rfl rfl (fun b hb => by cases hb) ?_
  refine x_vc tt_ok ?_
  exact fin1 (fun _ _ => rfl)
theorem letter_or (c : Int) : (decide (c = 95) || decide (97 ≤ c) && decide (c ≤ 122) || decide (65 ≤ c) && decide (c ≤ 90)) = Lx.letter c := by
  unfold Lx.letter; rw [Bool.or_assoc, Bool.or_comm]
theorem letter_any (c : Int) (w : World) : Calls Tryz.prog 113 #[.int .u8 c] w (PureP w fun v _ => v = .bool (Lx.letter c)) := by
  refine x_fun tt_ok Tryz.func113 rfl rfl [] 0 [.v (.int .u8 c)] rfl rfl rfl rfl (fun b hb => by cases hb) ?_
  refine x_vc tt_ok ?_
  exact fin1 (fun _ _ => rfl)
theorem digit_any (c : Int) (w : World) : Calls Tryz.prog 114 #[.int .u8 c] w (PureP w fun v _ => v = .bool (Lx.digit c)) := by
  refine x_fun tt_ok Tryz.func114 rfl rfl [] 0 [.v (.int .u8 c)] rfl rfl rfl rfl (fun b hb => by cases hb) ?_
  refine x_vc tt_ok ?_
  exact fin1 (fun _ _ => rfl)
theorem letterR_any (c : Int) (w : World) : Calls Tryz.prog 116 #[.int .u8 c] w (PureP w fun v _ => v = .bool (Lx.letter c)) := by
  refine x_fun tt_ok Tryz.func116 rfl rfl [] 0 [.v (.int .u8 c)] rfl rfl rfl rfl (fun b hb => by cases hb) ?_
  refine x_vc tt_ok ?_
  exact fin1 (fun _ _ => congrArg Value.bool (letter_or c))
theorem digitR_any (c : Int) (w : World) : Calls Tryz.prog 117 #[.int .u8 c] w (PureP w fun v _ => v = .bool (Lx.digit c)) := by
  refine x_fun tt_ok Tryz.func117 rfl rfl [] 0 [.v (.int .u8 c)] rfl rfl rfl rfl (fun b hb => by cases hb) ?_
  refine x_vc tt_ok ?_
  exact fin1 (fun _ _ => rfl)
theorem sign_any (c : Int) (w : World) : Calls Tryz.prog 118 #[.int .u8 c] w (PureP w fun v _ => v = .bool (Lx.sign c)) := by
  refine x_fun tt_ok Tryz.func118 rfl rfl [] 0 [.v (.int .u8 c)] rfl rfl rfl rfl (fun b hb => by cases hb) ?_
  refine x_vc tt_ok ?_
  exact fin1 (fun _ _ => rfl)
theorem expo_any (c : Int) (w : World) : Calls Tryz.prog 119 #[.int .u8 c] w (PureP w fun v _ => v = .bool (Lx.expo c)) := by
  refine x_fun tt_ok Tryz.func119 rfl rfl [] 0 [.v (.int .u8 c)] rfl rfl rfl rfl (fun b hb => by cases hb) ?_
  refine x_vc tt_ok ?_
  exact fin1 (fun _ _ => rfl)
theorem hdrGo_pos (q : Int) (c : Int) (r : Lx.Bs) : Lx.hdrGo q (c :: r) = if c = 10 then 0 else if c = q then 1 else if Lx.hdrGo q r = 0 then 0 else Lx.hdrGo q r + 1 := by
  simp only [Lx.hdrGo]
  by_cases h1 : c = 10
  · simp [h1]
  · by_cases h2 : c = q
    · subst h2; simp [h1]
    · simp only [h1, h2, decide_false, if_false]
      cases Lx.hdrGo q r <;> simp
def atE (k : Int) (n : Nat) : Int := if n = 0 then 0 else k + n
theorem atE_one (k : Int) : atE k 1 = k + 1 := rfl
theorem atE_up (k : Int) (n : Nat) : atE k (if n = 0 then 0 else n + 1) = atE (k + 1) n := by
  unfold atE
  by_cases h : n = 0
  · simp [h]
  · simp [h]; omega
def hdrE (s : ByteArray) (i : Int) : Int := atE i (Lx.hdrN (tl s i))
theorem hdrE_eq {s : ByteArray} {i : Int} (h0 : 0 ≤ i) (h1 : i < s.size) : hdrE s i =
    if bt s i = 60 then atE (i + 1) (Lx.hdrGo 62 (tl s (i + 1)))
    else if bt s i = 34 then atE (i + 1) (Lx.hdrGo 34 (tl s (i + 1))) else 0 := by
  have e : ∀ n : Nat, atE i (match n with | 0 => 0 | n + 1 => n + 2 : Nat) = atE (i + 1) n := by
    intro n
    rw [← atE_up]; congr 1
    cases n <;> simp
  unfold hdrE
  rw [tl_cons h0 h1]
  simp only [Lx.hdrN]
  split
  · exact e _
  · split
    · exact e _
    · rfl
set_option maxRecDepth 100000 in
theorem hdr_any (s : ByteArray) (i : Int) (h0 : 0 ≤ i) (h1 : i < s.size) (hz : s.size ≤ 140737488355328) (w : World) :
    Calls Tryz.prog 95 #[.string s, .int .i64 i] w (PureP w fun v _ => v = .int .i64 (hdrE s i)) := by
  refine x_fun tt_ok Tryz.func95 rfl rfl [] 0 [.v (.string s), .v (.int .i64 i)] rfl rfl rfl rfl (fun b hb => by cases hb) ?_
  refine x_seq ?_
  refine x_vc tt_ok ?_
  refine x_seq ?_
  refine x_vc tt_ok ?_
  repeat (refine And.intro ?_ ?_; first | omega | (simp only [Lay.d_n]; omega))
  have hE := hdrE_eq h0 h1
  refine x_cut (σ := Int) (fun q => ⟨[(5, .v (.int .u8 q)), (1, .v (.int .i64 i)), (0, .v (.string s))], [], [], 0⟩)
    (fun q _ => hdrE s i = atE (i + 1) (Lx.hdrGo q (tl s (i + 1)))) (fun _ => Nat.le_refl _) ?_ ?_
  · refine x_vc tt_ok ?_
    refine x_if (fun h => ?_) (fun h => ?_)
    · rw [if_pos (of_decide_eq_true h)] at hE
      exact meet 62 [] (.of rfl rfl rfl rfl rfl rfl) hE
    · rw [if_neg (of_decide_eq_false h)] at hE
      refine x_if (fun h => ?_) (fun h => ?_)
      · have h34 := of_decide_eq_true h
        rw [if_pos h34, ← h34] at hE
        exact meet (bt s i) [] (.of rfl rfl rfl rfl rfl rfl) hE
      · rw [if_neg (of_decide_eq_false h)] at hE
        rw [hE]
        exact fin1 (fun _ _ => rfl)
  · rintro q u hu g
    clear hE
    refine x_vc tt_ok ?_
    repeat (refine And.intro ?_ ?_; first | omega | (simp only [Lay.d_n]; omega))
    refine x_loop (σ := Int) (fun k => ⟨[(6, .v (.int .i64 k)), (5, .v (.int .u8 q)), (0, .v (.string s))], [], [], 0⟩)
      (fun k _ => 0 ≤ k ∧ k ≤ s.size ∧ hdrE s i = atE k (Lx.hdrGo q (tl s k))) (fun k => (s.size - k).toNat) (fun _ => Nat.le_refl _) (i + 1) [] (.of rfl rfl rfl rfl rfl rfl)
      ⟨by omega, by omega, g⟩ ?_
    rintro k u2 hu2 ⟨g1, g2, g3⟩
    refine x_vc tt_ok ?_
    repeat (refine And.intro ?_ ?_; first | omega | (simp only [decide_eq_true_eq, decide_eq_false_iff_not, Bool.or_eq_false_iff, Lay.d_n]; omega))
    refine x_if (fun h => ?_) (fun h => ?_)
    · obtain ⟨ha, hb⟩ := Bool.and_eq_true_iff.1 h
      have h2 : k < s.size := of_decide_eq_true ha
      have h3 : ¬ bt s k = 10 := of_decide_eq_true hb
      rw [tl_cons g1 h2, hdrGo_pos, if_neg h3] at g3
      repeat (refine And.intro ?_ ?_; first | omega | (simp only [Lay.d_n]; omega))
      refine x_if (fun h5 => ?_) (fun h5 => ?_)
      · rw [if_pos (of_decide_eq_true h5)] at g3
        repeat (refine And.intro ?_ ?_; first | omega | (simp only [Lay.d_n]; omega))
        rw [g3]
        exact fin1 (fun _ _ => rfl)
      · repeat (refine And.intro ?_ ?_; first | omega | (simp only [Lay.d_n]; omega))
        rw [if_neg (of_decide_eq_false h5), atE_up] at g3
        exact again (k + 1) [] (.of rfl rfl rfl rfl rfl rfl) ⟨by omega, by omega, g3⟩ (by omega)
    · have g4 : hdrE s i = 0 := by
        rw [g3]
        by_cases h2 : k < s.size
        · have hb : bt s k = 10 := by
            have h3 : decide (bt s k ≠ 10) = false := by
              have ha : decide (k < (s.size : Int)) = true := decide_eq_true h2
              have h' : (decide (k < (s.size : Int)) && decide (bt s k ≠ 10)) = false := h
              rw [ha, Bool.true_and] at h'; exact h'
            exact Classical.not_not.1 (of_decide_eq_false h3)
          rw [tl_cons g1 h2, hdrGo_pos, if_pos hb]; rfl
        · rw [tl_nil (by omega)]; rfl
      rw [g4]
      exact fin1 (fun _ _ => rfl)
end Go.Proofs.YtnjmkeijjapejaaGreatDoor
namespace Go.Proofs.YtnjmkeijjapejaaGreatDoor
open Go.GV Go.RowKit
end Go.Proofs.YtnjmkeijjapejaaGreatDoor
namespace Go.Proofs.YtnjmkeijjapejaaGreatDoor
open Go.GV Go.RowKit
structure Part where
  b : Int
  pos : Int
  len : Int
  sp : Bool
def Part.val (p : Part) : Value := .agg #[.int .u8 p.b, .int .i64 p.pos, .int .i64 p.len, .bool p.sp]
end Go.Proofs.YtnjmkeijjapejaaGreatDoor
namespace Go.Proofs.YtnjmkeijjapejaaGreatDoor
open Go.GV Go.RowKit
theorem drop_get {α : Type} {L : List α} {k : Nat} {x : α} (h : L[k]? = some x) : L.drop k = x :: L.drop (k + 1) := by
  obtain ⟨hk, rfl⟩ := List.getElem?_eq_some_iff.1 h
  exact List.drop_eq_getElem_cons hk
end Go.Proofs.YtnjmkeijjapejaaGreatDoor
namespace Go.Proofs.YtnjmkeijjapejaaGreatDoor
open Go.GV Go.RowKit
structure Chr where
  b : Int
  pos : Int
  len : Int
theorem take_get {α : Type} {L : List α} {k : Nat} {x : α} (h : L[k]? = some x) : L.take (k + 1) = L.take k ++ [x] := by
  obtain ⟨hk, rfl⟩ := List.getElem?_eq_some_iff.1 h
  exact (List.take_append_getElem hk).symm
theorem of_sub_cut {u1 u2 : Im} {n : Nat} (h : u1.sub (cut n u2)) {b : Nat} {o : Obj} (hb : u1.h b = some o) : u2.h b = some o := by
  have h9 := h.h _ _ hb
  simp only [cut] at h9
  split at h9
  · cases h9
  · exact h9
end Go.Proofs.YtnjmkeijjapejaaGreatDoor
namespace Go.Proofs.YtnjmkeijjapejaaGreatDoor
open Go.GV Go.RowKit
theorem run_cons (p : Int → Bool) (c : Int) (r : Lx.Bs) : Lx.run p (c :: r) = if p c = true then Lx.run p r + 1 else 0 := by
  simp only [Lx.run]
  cases p c <;> simp
theorem runP_cons (a c : Int) (r : Lx.Bs) : Lx.runP a (c :: r) = if Lx.okp a c = true then Lx.runP c r + 1 else 0 := by
  simp only [Lx.runP]
  cases Lx.okp a c <;> simp
def wordE (s : ByteArray) (i : Int) : Int := atE i (Lx.wordN (tl s i))
theorem wordE_eq {s : ByteArray} {i : Int} (h0 : 0 ≤ i) (h1 : i < s.size) : wordE s i = if Lx.letter (bt s i) = true then i + 1 + Lx.run Lx.alnum (tl s (i + 1)) else 0 := by
  unfold wordE
  rw [tl_cons h0 h1]
  simp only [Lx.wordN]
  cases Lx.letter (bt s i) with
  | true => simp [atE]; omega
  | false => rfl
set_option maxRecDepth 100000 in
theorem word_any (s : ByteArray) (i : Int) (h0 : 0 ≤ i) (h1 : i < s.size) (hz : s.size ≤ 140737488355328) (w : World) :
    Calls Tryz.prog 103 #[.string s, .int .i64 i] w (PureP w fun v _ => v = .int .i64 (wordE s i)) := by
  have hE := wordE_eq h0 h1
  refine x_fun tt_ok Tryz.func103 rfl rfl [] 0 [.v (.string s), .v (.int .i64 i)] rfl rfl rfl rfl (fun b hb => by cases hb) ?_
  refine x_vc tt_ok ?_
  repeat (refine And.intro ?_ ?_; first | omega | (simp only [Lay.d_n]; omega))
  refine xl_call0 (.bool (Lx.letter (bt s i))) rfl rfl rfl rfl fn113 rfl rfl (fun E w F _ => letter_any _ w) ?_
  refine xl_go tt_ok ?_
  refine x_if (fun h => ?_) (fun h => ?_)
  · have h' : Lx.letter (bt s i) = false := by simpa using h
    rw [if_neg (by rw [h']; simp)] at hE
    rw [hE]
    exact fin1 (fun _ _ => rfl)
  · have h' : Lx.letter (bt s i) = true := by simpa using h
    rw [if_pos h'] at hE
    repeat (refine And.intro ?_ ?_; first | omega | (simp only [Lay.d_n]; omega))
    refine x_loop (σ := Int) (fun k => ⟨[(5, .v (.int .i64 k)), (0, .v (.string s))], [], [], 0⟩)
      (fun k _ => 0 ≤ k ∧ k ≤ s.size ∧ wordE s i = k + Lx.run Lx.alnum (tl s k)) (fun k => (s.size - k).toNat) (fun _ => Nat.le_refl _) (i + 1) [] (.of rfl rfl rfl rfl rfl rfl)
      ⟨by omega, by omega, hE⟩ ?_
    rintro k u2 hu2 ⟨g1, g2, g3⟩
    refine x_vc tt_ok ?_
    repeat (refine And.intro ?_ ?_; first | omega | (simp only [decide_eq_true_eq, decide_eq_false_iff_not, Bool.or_eq_false_iff, Lay.d_n]; omega))
    refine xl_gcall0 (.bool (Lx.letter (bt s k))) rfl rfl rfl rfl fn113 rfl rfl (fun _ E w F _ => letter_any _ w) ?_
    refine xl_go tt_ok ?_
    repeat (refine And.intro ?_ ?_; first | omega | (simp only [decide_eq_true_eq, decide_eq_false_iff_not, Bool.or_eq_false_iff, Lay.d_n]; omega))
    refine xl_gcall0 (.bool (Lx.digit (bt s k))) rfl rfl rfl rfl fn114 rfl rfl (fun _ E w F _ => digit_any _ w) ?_
    refine xl_go tt_ok ?_
    refine x_if (fun h => ?_) (fun h => ?_)
    · obtain ⟨ha, hb⟩ := Bool.and_eq_true_iff.1 h
      have h2 : k < s.size := of_decide_eq_true ha
      have h3 : Lx.alnum (bt s k) = true := hb
      rw [tl_cons g1 h2, run_cons, if_pos h3] at g3
      repeat (refine And.intro ?_ ?_; first | omega | (simp only [Lay.d_n]; omega))
      exact again (k + 1) [] (.of rfl rfl rfl rfl rfl rfl) ⟨by omega, by omega, by omega⟩ (by omega)
    · have g4 : wordE s i = k := by
        rw [g3]
        by_cases h2 : k < s.size
        · have h' : (decide (k < (s.size : Int)) && Lx.alnum (bt s k)) = false := h
          rw [decide_eq_true h2, Bool.true_and] at h'
          rw [tl_cons g1 h2, run_cons, if_neg (by rw [h']; simp)]; omega
        · rw [tl_nil (by omega)]; simp [Lx.run]
      rw [g4]
      exact fin1 (fun _ _ => rfl)
def numE (s : ByteArray) (i : Int) : Int := atE i (Lx.numN (tl s i))
theorem numE_eq {s : ByteArray} {i : Int} (h0 : 0 ≤ i) (h1 : i < s.size) : numE s i =
    if bt s i = 46 then (if i + 1 < s.size ∧ Lx.digit (bt s (i + 1)) = true then i + 1 + 1 + Lx.runP (bt s (i + 1)) (tl s (i + 1 + 1)) else 0)
    else if Lx.digit (bt s i) = true then i + 1 + Lx.runP (bt s i) (tl s (i + 1)) else 0 := by
  unfold numE
  rw [tl_cons h0 h1]
  by_cases h46 : bt s i = 46
  · rw [if_pos h46]
    have hd : Lx.digit (bt s i) = false := by rw [h46]; rfl
    by_cases h2 : i + 1 < s.size
    · rw [tl_cons (by omega) h2]
      simp only [Lx.numN, hd, decide_eq_true h46]
      cases hd2 : Lx.digit (bt s (i + 1)) with
      | true => simp [atE, h2]; omega
      | false => simp [atE]
    · rw [tl_nil (by omega)]
      simp only [Lx.numN, hd]
      simp [atE, h2]
  · rw [if_neg h46]
    simp only [Lx.numN]
    cases hd : Lx.digit (bt s i) with
    | true => simp [atE]; omega
    | false => simp [atE, h46]
theorem expo_okc {c : Int} (h : Lx.expo c = true) (a : Int) : Lx.okp a c = true := by
  unfold Lx.expo at h
  simp only [Bool.or_eq_true, decide_eq_true_eq] at h
  unfold Lx.okp Lx.okc Lx.alnum Lx.letter
  rcases h with ((rfl | rfl) | rfl) | rfl <;> simp
theorem sign_expo {c : Int} (h : Lx.sign c = true) : Lx.expo c = false := by
  unfold Lx.sign at h
  simp only [Bool.or_eq_true, decide_eq_true_eq] at h
  rcases h with rfl | rfl <;> rfl
theorem digit_expo {c : Int} (h : Lx.digit c = true) : Lx.expo c = false := by
  unfold Lx.digit at h
  simp only [Bool.and_eq_true, decide_eq_true_eq] at h
  unfold Lx.expo
  rw [decide_eq_false (by omega), decide_eq_false (by omega), decide_eq_false (by omega), decide_eq_false (by omega)]; rfl
set_option maxRecDepth 100000 in
theorem num_any (s : ByteArray) (i : Int) (h0 : 0 ≤ i) (h1 : i < s.size) (hz : s.size ≤ 140737488355328) (w : World) :
    Calls Tryz.prog 104 #[.string s, .int .i64 i] w (PureP w fun v _ => v = .int .i64 (numE s i)) := by
  have hE := numE_eq h0 h1
  obtain ⟨N, hN⟩ : ∃ N, N = numE s i := ⟨_, rfl⟩
  rw [← hN] at hE ⊢
  refine x_fun tt_ok Tryz.func104 rfl rfl [] 0 [.v (.string s), .v (.int .i64 i)] rfl rfl rfl rfl (fun b hb => by cases hb) ?_
  refine x_vc tt_ok ?_
  repeat (refine And.intro ?_ ?_; first | omega | (simp only [Lay.d_n]; omega))
  refine x_if (fun h => ?_) (fun h => ?_)
  · have h46 : bt s i = 46 := of_decide_eq_true h
    rw [if_pos h46] at hE
    repeat (refine And.intro ?_ ?_; first | omega | (simp only [Lay.d_n]; omega))
    obtain ⟨j, hj⟩ : ∃ j, j = i + 1 := ⟨_, rfl⟩
    rw [← hj] at hE ⊢
    repeat (refine And.intro ?_ ?_; first | omega | (simp only [decide_eq_true_eq, decide_eq_false_iff_not, Bool.or_eq_false_iff, Lay.d_n]; omega))
    refine xl_gcall0 (.bool (Lx.digit (bt s j))) rfl rfl rfl rfl fn114 rfl rfl (fun _ E w F _ => digit_any _ w) ?_
    refine xl_go tt_ok ?_
    refine x_if (fun h => ?_) (fun h => ?_)
    · have hn : ¬ (j < (s.size : Int) ∧ Lx.digit (bt s j) = true) := by
        rintro ⟨ha, hb⟩
        have h' : (decide (j = (s.size : Int)) || !Lx.digit (bt s j)) = true := h
        rw [hb, decide_eq_false (by omega)] at h'
        cases h'
      rw [if_neg hn] at hE
      rw [hE]
      exact fin1 (fun _ _ => rfl)
    · have h' : (decide (j = (s.size : Int)) || !Lx.digit (bt s j)) = false := h
      obtain ⟨ha, hb⟩ := Bool.or_eq_false_iff.1 h'
      have ha' := of_decide_eq_false ha
      have hb' : Lx.digit (bt s j) = true := by simpa using hb
      rw [if_pos ⟨by omega, hb'⟩] at hE
      repeat (refine And.intro ?_ ?_; first | omega | (simp only [Lay.d_n]; omega))
      refine x_loop (σ := Int) (fun k => ⟨[(5, .v (.int .i64 k)), (0, .v (.string s))], [], [], 0⟩)
        (fun k _ => 1 ≤ k ∧ k ≤ s.size ∧ N = k + Lx.runP (bt s (k - 1)) (tl s k) ∧ (k < s.size → (Lx.expo (bt s (k - 1)) && Lx.sign (bt s k)) = false))
        (fun k => (s.size - k).toNat) (fun _ => Nat.le_refl _) (j + 1) [] (.of rfl rfl rfl rfl rfl rfl)
        ⟨by omega, by omega, by rw [show j + 1 - 1 = j by omega]; exact hE, fun _ => by rw [show j + 1 - 1 = j by omega, digit_expo hb']; rfl⟩ ?_
      clear hE
      rintro k u2 hu2 ⟨g1, g2, g3, g4⟩
      refine x_vc tt_ok ?_
      repeat (refine And.intro ?_ ?_; first | omega | (simp only [Lay.d_n]; omega))
      refine x_if (fun h5 => ?_) (fun h5 => ?_)
      · have h2 : k < s.size := of_decide_eq_true h5
        have g4 := g4 h2
        rw [tl_cons (by omega) h2, runP_cons] at g3
        repeat (refine And.intro ?_ ?_; first | omega | (simp only [Lay.d_n]; omega) | (simp only [decide_eq_true_eq, decide_eq_false_iff_not, Bool.or_eq_false_iff, Bool.and_eq_true, Bool.or_eq_true, Bool.and_eq_false_iff, Bool.not_eq_true', Bool.not_eq_false', Lay.d_n]; omega) | (simp only [decide_eq_true_eq, decide_eq_false_iff_not, Bool.or_eq_false_iff, Bool.and_eq_true, Bool.or_eq_true, Bool.and_eq_false_iff, Bool.not_eq_true', Bool.not_eq_false']; omega))
        refine x_if (fun h6 => ?_) (fun h6 => ?_)
        · have h6' : (Lx.expo (bt s k) && decide (k + 1 < (s.size : Int)) && Lx.sign (bt s (k + 1))) = true := h6
          obtain ⟨h7, h8⟩ := Bool.and_eq_true_iff.1 h6'
          obtain ⟨h9, h10⟩ := Bool.and_eq_true_iff.1 h7
          have h11 := of_decide_eq_true h10
          rw [if_pos (expo_okc h9 _), tl_cons (by omega) h11, runP_cons, if_pos (by unfold Lx.okp; rw [h8, h9]; simp)] at g3
          repeat (refine And.intro ?_ ?_; first | omega | (simp only [Lay.d_n]; omega))
          exact again (k + 2) [] (.of rfl rfl rfl rfl rfl rfl) ⟨by omega, by omega, by rw [show k + 2 - 1 = k + 1 by omega, show k + 2 = k + 1 + 1 by omega]; omega,
            fun _ => by rw [show k + 2 - 1 = k + 1 by omega, sign_expo h8]; rfl⟩ (by omega)
        · have h6' : (Lx.expo (bt s k) && decide (k + 1 < (s.size : Int)) && Lx.sign (bt s (k + 1))) = false := h6
          have next : Lx.okc (bt s k) = true → 1 ≤ k + 1 ∧ k + 1 ≤ s.size ∧ N = k + 1 + Lx.runP (bt s (k + 1 - 1)) (tl s (k + 1)) ∧ (k + 1 < s.size → (Lx.expo (bt s (k + 1 - 1)) && Lx.sign (bt s (k + 1))) = false) := by
            intro hc
            rw [if_pos (by unfold Lx.okp; rw [hc]; rfl)] at g3
            rw [show k + 1 - 1 = k by omega]
            refine ⟨by omega, by omega, by omega, fun h12 => ?_⟩
            rw [decide_eq_true h12, Bool.and_true] at h6'
            exact h6'
          refine xl_call0 (.bool (Lx.digit (bt s k))) rfl rfl rfl rfl fn114 rfl rfl (fun E w F _ => digit_any _ w) ?_
          refine xl_go tt_ok ?_
          refine x_if (fun h7 => ?_) (fun h7 => ?_)
          · refine x_ift h7 ?_
            repeat (refine And.intro ?_ ?_; first | omega | (simp only [Lay.d_n]; omega))
            exact again (k + 1) [] (.of rfl rfl rfl rfl rfl rfl) (next (by unfold Lx.okc Lx.alnum; rw [h7]; simp)) (by omega)
          · refine xl_call0 (.bool (Lx.letter (bt s k))) rfl rfl rfl rfl fn113 rfl rfl (fun E w F _ => letter_any _ w) ?_
            refine xl_go tt_ok ?_
            refine x_if (fun h8 => ?_) (fun h8 => ?_)
            · refine x_ift h8 ?_
              repeat (refine And.intro ?_ ?_; first | omega | (simp only [Lay.d_n]; omega))
              exact again (k + 1) [] (.of rfl rfl rfl rfl rfl rfl) (next (by unfold Lx.okc Lx.alnum; rw [h8]; simp)) (by omega)
            · refine x_if (fun h9 => ?_) (fun h9 => ?_)
              · repeat (refine And.intro ?_ ?_; first | omega | (simp only [Lay.d_n]; omega))
                exact again (k + 1) [] (.of rfl rfl rfl rfl rfl rfl) (next (by unfold Lx.okc Lx.alnum; rw [h9]; simp)) (by omega)
              · have hc : Lx.okp (bt s (k - 1)) (bt s k) = false := by
                  unfold Lx.okp Lx.okc Lx.alnum
                  rw [h7, h8, h9, Bool.and_comm (Lx.sign _), g4]; rfl
                rw [if_neg (by rw [hc]; simp)] at g3
                have e : N = k := by rw [g3]; simp
                rw [e]
                exact fin1 (fun _ _ => rfl)
      · have h2 : ¬ k < (s.size : Int) := of_decide_eq_false h5
        rw [tl_nil (by omega)] at g3
        have e : N = k := by rw [g3]; simp [Lx.runP]
        rw [e]
        exact fin1 (fun _ _ => rfl)
  · have h46 : ¬ bt s i = 46 := of_decide_eq_false h
    rw [if_neg h46] at hE
    have hE : N = if i < s.size ∧ Lx.digit (bt s i) = true then i + 1 + Lx.runP (bt s i) (tl s (i + 1)) else 0 := by
      rw [hE]; simp [h1]
    obtain ⟨j, hj⟩ : ∃ j, j = i := ⟨_, rfl⟩
    have hE : N = if j < s.size ∧ Lx.digit (bt s j) = true then j + 1 + Lx.runP (bt s j) (tl s (j + 1)) else 0 := by rw [hj]; exact hE
    rw [← hj]
    repeat (refine And.intro ?_ ?_; first | omega | (simp only [Lay.d_n]; omega))
    refine xl_gcall0 (.bool (Lx.digit (bt s j))) rfl rfl rfl rfl fn114 rfl rfl (fun _ E w F _ => digit_any _ w) ?_
    refine xl_go tt_ok ?_
    refine x_if (fun h => ?_) (fun h => ?_)
    · have hn : ¬ (j < (s.size : Int) ∧ Lx.digit (bt s j) = true) := by
        rintro ⟨ha, hb⟩
        have h' : (decide (j = (s.size : Int)) || !Lx.digit (bt s j)) = true := h
        rw [hb, decide_eq_false (by omega)] at h'
        cases h'
      rw [if_neg hn] at hE
      rw [hE]
      exact fin1 (fun _ _ => rfl)
    · have h' : (decide (j = (s.size : Int)) || !Lx.digit (bt s j)) = false := h
      obtain ⟨ha, hb⟩ := Bool.or_eq_false_iff.1 h'
      have ha' := of_decide_eq_false ha
      have hb' : Lx.digit (bt s j) = true := by simpa using hb
      rw [if_pos ⟨by omega, hb'⟩] at hE
      repeat (refine And.intro ?_ ?_; first | omega | (simp only [Lay.d_n]; omega))
      refine x_loop (σ := Int) (fun k => ⟨[(5, .v (.int .i64 k)), (0, .v (.string s))], [], [], 0⟩)
        (fun k _ => 1 ≤ k ∧ k ≤ s.size ∧ N = k + Lx.runP (bt s (k - 1)) (tl s k) ∧ (k < s.size → (Lx.expo (bt s (k - 1)) && Lx.sign (bt s k)) = false))
        (fun k => (s.size - k).toNat) (fun _ => Nat.le_refl _) (j + 1) [] (.of rfl rfl rfl rfl rfl rfl)
        ⟨by omega, by omega, by rw [show j + 1 - 1 = j by omega]; exact hE, fun _ => by rw [show j + 1 - 1 = j by omega, digit_expo hb']; rfl⟩ ?_
      clear hE
      rintro k u2 hu2 ⟨g1, g2, g3, g4⟩
      refine x_vc tt_ok ?_
      repeat (refine And.intro ?_ ?_; first | omega | (simp only [Lay.d_n]; omega))
      refine x_if (fun h5 => ?_) (fun h5 => ?_)
      · have h2 : k < s.size := of_decide_eq_true h5
        have g4 := g4 h2
        rw [tl_cons (by omega) h2, runP_cons] at g3
        repeat (refine And.intro ?_ ?_; first | omega | (simp only [Lay.d_n]; omega) | (simp only [decide_eq_true_eq, decide_eq_false_iff_not, Bool.or_eq_false_iff, Bool.and_eq_true, Bool.or_eq_true, Bool.and_eq_false_iff, Bool.not_eq_true', Bool.not_eq_false', Lay.d_n]; omega) | (simp only [decide_eq_true_eq, decide_eq_false_iff_not, Bool.or_eq_false_iff, Bool.and_eq_true, Bool.or_eq_true, Bool.and_eq_false_iff, Bool.not_eq_true', Bool.not_eq_false']; omega))
        refine x_if (fun h6 => ?_) (fun h6 => ?_)
        · have h6' : (Lx.expo (bt s k) && decide (k + 1 < (s.size : Int)) && Lx.sign (bt s (k + 1))) = true := h6
          obtain ⟨h7, h8⟩ := Bool.and_eq_true_iff.1 h6'
          obtain ⟨h9, h10⟩ := Bool.and_eq_true_iff.1 h7
          have h11 := of_decide_eq_true h10
          rw [if_pos (expo_okc h9 _), tl_cons (by omega) h11, runP_cons, if_pos (by unfold Lx.okp; rw [h8, h9]; simp)] at g3
          repeat (refine And.intro ?_ ?_; first | omega | (simp only [Lay.d_n]; omega))
          exact again (k + 2) [] (.of rfl rfl rfl rfl rfl rfl) ⟨by omega, by omega, by rw [show k + 2 - 1 = k + 1 by omega, show k + 2 = k + 1 + 1 by omega]; omega,
            fun _ => by rw [show k + 2 - 1 = k + 1 by omega, sign_expo h8]; rfl⟩ (by omega)
        · have h6' : (Lx.expo (bt s k) && decide (k + 1 < (s.size : Int)) && Lx.sign (bt s (k + 1))) = false := h6
          have next : Lx.okc (bt s k) = true → 1 ≤ k + 1 ∧ k + 1 ≤ s.size ∧ N = k + 1 + Lx.runP (bt s (k + 1 - 1)) (tl s (k + 1)) ∧ (k + 1 < s.size → (Lx.expo (bt s (k + 1 - 1)) && Lx.sign (bt s (k + 1))) = false) := by
            intro hc
            rw [if_pos (by unfold Lx.okp; rw [hc]; rfl)] at g3
            rw [show k + 1 - 1 = k by omega]
            refine ⟨by omega, by omega, by omega, fun h12 => ?_⟩
            rw [decide_eq_true h12, Bool.and_true] at h6'
            exact h6'
          refine xl_call0 (.bool (Lx.digit (bt s k))) rfl rfl rfl rfl fn114 rfl rfl (fun E w F _ => digit_any _ w) ?_
          refine xl_go tt_ok ?_
          refine x_if (fun h7 => ?_) (fun h7 => ?_)
          · refine x_ift h7 ?_
            repeat (refine And.intro ?_ ?_; first | omega | (simp only [Lay.d_n]; omega))
            exact again (k + 1) [] (.of rfl rfl rfl rfl rfl rfl) (next (by unfold Lx.okc Lx.alnum; rw [h7]; simp)) (by omega)
          · refine xl_call0 (.bool (Lx.letter (bt s k))) rfl rfl rfl rfl fn113 rfl rfl (fun E w F _ => letter_any _ w) ?_
            refine xl_go tt_ok ?_
            refine x_if (fun h8 => ?_) (fun h8 => ?_)
            · refine x_ift h8 ?_
              repeat (refine And.intro ?_ ?_; first | omega | (simp only [Lay.d_n]; omega))
              exact again (k + 1) [] (.of rfl rfl rfl rfl rfl rfl) (next (by unfold Lx.okc Lx.alnum; rw [h8]; simp)) (by omega)
            · refine x_if (fun h9 => ?_) (fun h9 => ?_)
              · repeat (refine And.intro ?_ ?_; first | omega | (simp only [Lay.d_n]; omega))
                exact again (k + 1) [] (.of rfl rfl rfl rfl rfl rfl) (next (by unfold Lx.okc Lx.alnum; rw [h9]; simp)) (by omega)
              · have hc : Lx.okp (bt s (k - 1)) (bt s k) = false := by
                  unfold Lx.okp Lx.okc Lx.alnum
                  rw [h7, h8, h9, Bool.and_comm (Lx.sign _), g4]; rfl
                rw [if_neg (by rw [hc]; simp)] at g3
                have e : N = k := by rw [g3]; simp
                rw [e]
                exact fin1 (fun _ _ => rfl)
      · have h2 : ¬ k < (s.size : Int) := of_decide_eq_false h5
        rw [tl_nil (by omega)] at g3
        have e : N = k := by rw [g3]; simp [Lx.runP]
        rw [e]
        exact fin1 (fun _ _ => rfl)
end Go.Proofs.YtnjmkeijjapejaaGreatDoor
namespace Go.Proofs.YtnjmkeijjapejaaGreatDoor
open Go.GV Go.RowKit
theorem bl_sub (s : ByteArray) {a b : Int} (h0 : 0 ≤ a) (h1 : a ≤ b) (h2 : b ≤ s.size) : bl (sub s a b) = (tl s a).take (b - a).toNat := by
  unfold bl sub tl bl
  rw [ByteArray.data_extract, Array.toList_extract, List.extract_eq_take_drop, List.map_take, List.map_drop, show b.toNat - a.toNat = (b - a).toNat by omega]
theorem bl_rest (s : ByteArray) {a : Int} (h0 : 0 ≤ a) (h1 : a ≤ s.size) : bl (sub s a s.size) = tl s a := by
  rw [bl_sub s h0 h1 (Int.le_refl _), List.take_of_length_le (by rw [tl_len]; omega)]
theorem bl_inj {a b : ByteArray} (h : bl a = bl b) : a = b := by
  have h2 : a.data.toList = b.data.toList := by
    unfold bl at h
    refine List.map_inj_right (f := fun b : UInt8 => (b.toNat : Int)) (fun x y hxy => ?_) |>.1 h
    exact UInt8.toNat_inj.1 (Int.ofNat.inj hxy)
  cases a; cases b
  simp only [ByteArray.mk.injEq]
  exact Array.toList_inj.1 h2
theorem bl_eq {a b : ByteArray} : decide (a = b) = decide (bl a = bl b) := by
  by_cases h : a = b
  · subst h; simp
  · rw [decide_eq_false h, decide_eq_false (fun h2 => h (bl_inj h2))]
def hasP (a b : ByteArray) : Bool := decide ((b.size : Int) ≤ a.size) && decide (sub a 0 b.size = b)
theorem hasP_bl (a b : ByteArray) : hasP a b = decide ((bl a).take b.size = bl b) := by
  unfold hasP
  by_cases h : (b.size : Int) ≤ a.size
  · rw [decide_eq_true h, Bool.true_and, bl_eq, bl_sub a (by omega) (by omega) h, tl_zero, Int.sub_zero, Int.toNat_natCast]
  · rw [decide_eq_false h, Bool.false_and]
    refine (decide_eq_false (fun h2 => h ?_)).symm
    have := congrArg List.length h2
    rw [List.length_take, bl_len, bl_len] at this
    omega
set_option maxRecDepth 100000 in
theorem hasPL_any (a b : ByteArray) (w : World) : Calls Tryz.prog 100 #[.string a, .string b] w (PureP w fun v _ => v = .bool (hasP a b)) := by
  refine x_fun tt_ok Tryz.func100 rfl rfl [] 0 [.v (.string a), .v (.string b)] rfl rfl rfl rfl (fun b hb => by cases hb) ?_
  refine x_vc tt_ok ?_
  repeat (refine And.intro ?_ ?_; first | omega | (simp only [decide_eq_true_eq, decide_eq_false_iff_not, Bool.or_eq_false_iff, Lay.d_n]; omega))
  exact fin1 (fun _ _ => rfl)
theorem hasP_any (a b : ByteArray) (w : World) : Calls Tryz.prog 96 #[.string a, .string b] w (PureP w fun v _ => v = .bool (hasP a b)) := by
  refine x_fun tt_ok Tryz.func96 rfl rfl [] 0 [.v (.string a), .v (.string b)] rfl rfl rfl rfl (fun b hb => by cases hb) ?_
  refine x_vc tt_ok ?_
  refine xl_call0 (.bool (hasP a b)) rfl rfl rfl rfl fn100 rfl rfl (fun E w F _ => hasPL_any _ _ w) ?_
  refine xl_go tt_ok ?_
  exact fin1 (fun _ _ => rfl)
def litE (s : ByteArray) (i : Int) : Int × Int := ((Lx.litQ (tl s i)).1, atE i (Lx.litQ (tl s i)).2)
def lE (q st e : Int) : Int × Int := if e = 0 then (0, 0) else if q = 34 then (4, e) else if e = st + 1 then (0, 0) else (3, e)
theorem tl_tl (s : ByteArray) {i : Int} (h0 : 0 ≤ i) (n : Nat) : (tl s i).drop n = tl s (i + n) := by
  unfold tl
  rw [List.drop_drop]; congr 1; omega
theorem litE_eq {s : ByteArray} {i : Int} (h0 : 0 ≤ i) {j : Int} (hj : j = i + Lx.prefN (tl s i)) : litE s i =
    if j < s.size ∧ (bt s j = 34 ∨ bt s j = 39) then lE (bt s j) (j + 1) (atE (j + 1) (Lx.bodyN (bt s j) (tl s (j + 1)))) else (0, 0) := by
  unfold litE Lx.litQ
  rw [tl_tl s h0, ← hj]
  by_cases h2 : j < s.size
  · rw [tl_cons (by omega) h2]
    simp only [h2, true_and]
    by_cases h34 : bt s j = 34
    · rw [if_pos h34, if_pos (.inl h34)]
      cases hb : Lx.bodyN 34 (tl s (j + 1)) with
      | zero => simp [h34, hb, atE, lE]
      | succ n =>
        simp [h34, hb, atE, lE]
        rw [if_neg (by omega)]
        simp only [Prod.mk.injEq, true_and]; omega
    · rw [if_neg h34]
      by_cases h39 : bt s j = 39
      · rw [if_pos h39, if_pos (.inr h39)]
        cases hb : Lx.bodyN 39 (tl s (j + 1)) with
        | zero => simp [h39, hb, atE, lE]
        | succ n =>
          cases n with
          | zero => simp [h39, hb, atE, lE]
          | succ n =>
            simp [h39, hb, atE, lE]
            rw [if_neg (by omega), if_neg (by omega)]
            simp only [Prod.mk.injEq, true_and]; omega
      · rw [if_neg h39, if_neg (by simp [h34, h39])]; rfl
  · rw [tl_nil (by omega), if_neg (by simp [h2])]; rfl
theorem bodyN_cons (q c : Int) (r : Lx.Bs) : Lx.bodyN q (c :: r) = if c = 10 then 0 else if c = q then 1 else if c = 92 then
    (match r with
      | [] => 0
      | d :: r' => if d = 10 then 0 else if Lx.bodyN q r' = 0 then 0 else Lx.bodyN q r' + 1 + 1)
    else if Lx.bodyN q r = 0 then 0 else Lx.bodyN q r + 1 := by
  cases r with
  | nil =>
    simp only [Lx.bodyN]
    by_cases h1 : c = 10
    · simp [h1]
    · by_cases h2 : c = q
      · subst h2; simp [h1]
      · simp [h1, h2]
  | cons d r =>
    simp only [Lx.bodyN]
    by_cases h1 : c = 10
    · simp [h1]
    · by_cases h2 : c = q
      · subst h2; simp [h1]
      · by_cases h3 : c = 92
        · subst h3
          simp only [h1, h2, decide_false, if_false, decide_true, if_true]
          by_cases h4 : d = 10
          · simp [h4]
          · simp only [h4, decide_false, if_false]
            cases Lx.bodyN q r <;> simp
        · simp only [h1, h2, h3, decide_false, if_false]
          cases Lx.bodyN q (d :: r) <;> simp
theorem atE_up2 (k : Int) (n : Nat) : atE k (if n = 0 then 0 else n + 1 + 1) = atE (k + 2) n := by
  unfold atE
  by_cases h : n = 0
  · simp [h]
  · simp [h]; omega
theorem prefN_eq {s : ByteArray} {i : Int} (h0 : 0 ≤ i) (h1 : i < s.size) : Lx.prefN (tl s i) =
    if hasP (sub s i s.size) ⟨#[117, 56, 34]⟩ = true then 2 else if (decide (bt s i = 117) || (decide (bt s i = 85) || decide (bt s i = 76))) = true then 1 else 0 := by
  rw [hasP_bl, bl_rest s h0 (by omega), tl_cons h0 h1]
  have e : decide (List.take (ByteArray.mk #[117, 56, 34]).size (bt s i :: tl s (i + 1)) = bl ⟨#[117, 56, 34]⟩) =
      (decide (bt s i = 117) && decide ((tl s (i + 1)).head? = some 56) && decide ((tl s (i + 1))[1]? = some 34)) := by
    show decide ((bt s i :: tl s (i + 1)).take 3 = [117, 56, 34]) = _
    match tl s (i + 1) with
    | [] => simp
    | [d] => simp
    | d :: e :: r => simp [Bool.and_assoc]
  rw [e]
  simp only [Lx.prefN]
  cases (decide (bt s i = 117) && decide ((tl s (i + 1)).head? = some 56) && decide ((tl s (i + 1))[1]? = some 34)) with
  | true => simp
  | false =>
    simp only [Bool.false_eq_true, if_false, ← Bool.or_assoc]
    cases (decide (bt s i = 117) || decide (bt s i = 85) || decide (bt s i = 76)) <;> simp
theorem prefN_len (l : Lx.Bs) : Lx.prefN l ≤ l.length := by
  cases l with
  | nil => exact Nat.le_refl _
  | cons c r =>
    simp only [Lx.prefN, List.length_cons]
    split
    · rename_i h
      simp only [Bool.and_eq_true, decide_eq_true_eq] at h
      cases r with
      | nil => simp at h
      | cons d r => simp
    · split <;> omega
set_option maxRecDepth 100000 in
theorem lit_any (s : ByteArray) (i : Int) (h0 : 0 ≤ i) (h1 : i < s.size) (hz : s.size ≤ 140737488355328) (w : World) :
    Calls Tryz.prog 102 #[.string s, .int .i64 i] w (PureP w fun v _ => v = .tuple #[.int .i64 (litE s i).1, .int .i64 (litE s i).2]) := by
  have hP := prefN_eq h0 h1
  refine x_fun tt_ok Tryz.func102 rfl rfl [] 0 [.v (.string s), .v (.int .i64 i)] rfl rfl rfl rfl (fun b hb => by cases hb) ?_
  refine x_seq ?_
  refine x_vc tt_ok ?_
  refine x_seq ?_
  refine x_vc tt_ok ?_
  refine x_cut (σ := Int) (fun j => ⟨[(6, .v (.int .i64 j)), (0, .v (.string s))], [], [], 0⟩)
    (fun j _ => j = i + Lx.prefN (tl s i)) (fun _ => Nat.le_refl _) ?_ ?_
  · refine x_vc tt_ok ?_
    repeat (refine And.intro ?_ ?_; first | omega | (simp only [Lay.d_n]; omega))
    refine xl_call0 (.bool (hasP (sub s i s.size) ⟨#[117, 56, 34]⟩)) rfl rfl rfl rfl fn96 rfl rfl (fun E w F _ => hasP_any _ _ w) ?_
    refine xl_go tt_ok ?_
    refine x_if (fun h => ?_) (fun h => ?_)
    · rw [if_pos h] at hP
      repeat (refine And.intro ?_ ?_; first | omega | (simp only [Lay.d_n]; omega))
      exact meet (i + 2) [] (.of rfl rfl rfl rfl rfl rfl) (by rw [hP]; rfl)
    · rw [if_neg (by rw [h]; simp)] at hP
      repeat (refine And.intro ?_ ?_; first | omega | (simp only [Lay.d_n]; omega))
      refine x_if (fun h2 => ?_) (fun h2 => ?_)
      · rw [h2, if_pos (by simp)] at hP
        refine x_ift h2 ?_
        repeat (refine And.intro ?_ ?_; first | omega | (simp only [Lay.d_n]; omega))
        exact meet (i + 1) [] (.of rfl rfl rfl rfl rfl rfl) (by rw [hP]; rfl)
      · repeat (refine And.intro ?_ ?_; first | omega | (simp only [Lay.d_n]; omega))
        refine x_if (fun h3 => ?_) (fun h3 => ?_)
        · rw [h2, h3, if_pos (by simp)] at hP
          refine x_ift h3 ?_
          repeat (refine And.intro ?_ ?_; first | omega | (simp only [Lay.d_n]; omega))
          exact meet (i + 1) [] (.of rfl rfl rfl rfl rfl rfl) (by rw [hP]; rfl)
        · repeat (refine And.intro ?_ ?_; first | omega | (simp only [Lay.d_n]; omega))
          refine x_if (fun h4 => ?_) (fun h4 => ?_)
          · rw [h2, h3, h4, if_pos (by simp)] at hP
            repeat (refine And.intro ?_ ?_; first | omega | (simp only [Lay.d_n]; omega))
            exact meet (i + 1) [] (.of rfl rfl rfl rfl rfl rfl) (by rw [hP]; rfl)
          · rw [h2, h3, h4, if_neg (by simp)] at hP
            exact meet i [] (.of rfl rfl rfl rfl rfl rfl) (by rw [hP]; exact (Int.add_zero _).symm)
  · rintro j u hu hj
    have hE := litE_eq h0 hj
    have hj0 : 0 ≤ j := by omega
    have hjl : j ≤ s.size := by
      have := prefN_len (tl s i)
      rw [tl_len] at this
      omega
    clear hP hj
    obtain ⟨N, hN⟩ : ∃ N, N = litE s i := ⟨_, rfl⟩
    rw [← hN] at hE ⊢
    refine x_vc tt_ok ?_
    repeat (refine And.intro ?_ ?_; first | omega | (simp only [decide_eq_true_eq, decide_eq_false_iff_not, Bool.or_eq_false_iff, Lay.d_n]; omega))
    refine x_if (fun h => ?_) (fun h => ?_)
    · have hn : ¬ (j < (s.size : Int) ∧ (bt s j = 34 ∨ bt s j = 39)) := by
        rintro ⟨ha, hb⟩
        have h' : (decide (j = (s.size : Int)) || (decide (bt s j ≠ 39) && decide (bt s j ≠ 34))) = true := h
        rw [decide_eq_false (by omega)] at h'
        simp only [Bool.false_or, Bool.and_eq_true, decide_eq_true_eq] at h'
        omega
      rw [if_neg hn] at hE
      rw [hE]
      exact fin1 (fun _ _ => rfl)
    · have h' : (decide (j = (s.size : Int)) || (decide (bt s j ≠ 39) && decide (bt s j ≠ 34))) = false := h
      obtain ⟨ha, hb⟩ := Bool.or_eq_false_iff.1 h'
      have ha' := of_decide_eq_false ha
      have hq : bt s j = 34 ∨ bt s j = 39 := by
        by_cases h39 : bt s j = 39
        · exact .inr h39
        · rw [decide_eq_true h39, Bool.true_and] at hb
          exact .inl (Classical.not_not.1 (of_decide_eq_false hb))
      rw [if_pos ⟨by omega, hq⟩] at hE
      clear hb h h' ha
      refine x_draw mix (by kernel_rfl) (xd_go tt_ok ?_)
      repeat (refine And.intro ?_ ?_; first | omega | (simp only [Lay.d_n]; omega))
      refine x_vc tt_ok ?_
      generalize bt s j = q at hE hq ⊢
      refine x_loop (σ := Int) (fun k => ⟨[(8, .v (.int .u8 q)), (7, .v (.int .i64 (j + 1))), (6, .v (.int .i64 k)), (0, .v (.string s))], [], [], 0⟩)
        (fun k _ => j + 1 ≤ k ∧ k ≤ s.size ∧ N = lE q (j + 1) (atE k (Lx.bodyN q (tl s k)))) (fun k => (s.size - k).toNat) (fun _ => Nat.le_refl _) (j + 1) [] (.of rfl rfl rfl rfl rfl rfl)
        ⟨by omega, by omega, hE⟩ ?_
      clear hE
      rintro k u2 hu2 ⟨g1, g2, g3⟩
      refine x_vc tt_ok ?_
      repeat (refine And.intro ?_ ?_; first | omega | (simp only [decide_eq_true_eq, decide_eq_false_iff_not, Bool.or_eq_false_iff, Lay.d_n]; omega))
      refine x_if (fun h => ?_) (fun h => ?_)
      · obtain ⟨hc, hb⟩ := Bool.and_eq_true_iff.1 h
        have h2 : k < s.size := of_decide_eq_true hc
        have h3 : ¬ bt s k = 10 := of_decide_eq_true hb
        rw [tl_cons (by omega) h2, bodyN_cons, if_neg h3] at g3
        repeat (refine And.intro ?_ ?_; first | omega | (simp only [Lay.d_n]; omega))
        refine x_if (fun h5 => ?_) (fun h5 => ?_)
        · obtain ⟨h6, h7⟩ := Bool.and_eq_true_iff.1 h5
          have h6 : bt s k = q := of_decide_eq_true h6
          have h7 : q = 34 := of_decide_eq_true h7
          rw [if_pos h6, atE_one, lE, if_neg (by omega), if_pos h7] at g3
          repeat (refine And.intro ?_ ?_; first | omega | (simp only [Lay.d_n]; omega))
          rw [g3]
          exact fin1 (fun _ _ => rfl)
        · repeat (refine And.intro ?_ ?_; first | omega | (simp only [Lay.d_n]; omega))
          refine x_if (fun h8 => ?_) (fun h8 => ?_)
          · obtain ⟨h6, h7⟩ := Bool.and_eq_true_iff.1 h8
            have h6' : bt s k = q := of_decide_eq_true h6
            have h9 : j + 1 < k := of_decide_eq_true h7
            have h10 : ¬ q = 34 := fun h => by
              have h5' : (decide (bt s k = q) && decide (q = 34)) = false := h5
              rw [h6, decide_eq_true h] at h5'; cases h5'
            rw [if_pos h6', atE_one, lE, if_neg (by omega), if_neg h10, if_neg (by omega)] at g3
            repeat (refine And.intro ?_ ?_; first | omega | (simp only [Lay.d_n]; omega))
            rw [g3]
            exact fin1 (fun _ _ => rfl)
          · repeat (refine And.intro ?_ ?_; first | omega | (simp only [Lay.d_n]; omega))
            refine x_if (fun h11 => ?_) (fun h11 => ?_)
            · have h6' : bt s k = q := of_decide_eq_true h11
              have h10 : ¬ q = 34 := fun h => by
                have h5' : (decide (bt s k = q) && decide (q = 34)) = false := h5
                rw [h11, decide_eq_true h] at h5'; cases h5'
              have h12 : ¬ j + 1 < k := fun h => by
                have h8' : (decide (bt s k = q) && decide (j + 1 < k)) = false := h8
                rw [h11, decide_eq_true h] at h8'; cases h8'
              rw [if_pos h6', atE_one, lE, if_neg (by omega), if_neg h10, if_pos (by omega)] at g3
              rw [g3]
              exact fin1 (fun _ _ => rfl)
            · rw [if_neg (of_decide_eq_false h11)] at g3
              repeat (refine And.intro ?_ ?_; first | omega | (simp only [Lay.d_n]; omega) | (simp only [decide_eq_true_eq, decide_eq_false_iff_not, Bool.or_eq_false_iff, Bool.and_eq_true, Bool.or_eq_true, Bool.and_eq_false_iff, Bool.not_eq_true', Bool.not_eq_false', Lay.d_n]; omega) | (simp only [decide_eq_true_eq, decide_eq_false_iff_not, Bool.or_eq_false_iff, Bool.and_eq_true, Bool.or_eq_true, Bool.and_eq_false_iff, Bool.not_eq_true', Bool.not_eq_false']; omega))
              refine x_if (fun h12 => ?_) (fun h12 => ?_)
              · have h12' : (decide (bt s k = 92) && decide (k + 1 < (s.size : Int)) && decide (bt s (k + 1) ≠ 10)) = true := h12
                obtain ⟨h13, h14⟩ := Bool.and_eq_true_iff.1 h12'
                obtain ⟨h15, h16⟩ := Bool.and_eq_true_iff.1 h13
                have h16' := of_decide_eq_true h16
                rw [if_pos (of_decide_eq_true h15), tl_cons (by omega) h16'] at g3
                simp only at g3
                rw [if_neg (of_decide_eq_true h14), atE_up2] at g3
                repeat (refine And.intro ?_ ?_; first | omega | (simp only [Lay.d_n]; omega))
                refine again (k + 1 + 1) [] (.of rfl rfl rfl rfl rfl rfl) ⟨by omega, by omega, ?_⟩ (by omega)
                rw [show k + 1 + 1 = k + 2 by omega] at g3 ⊢
                exact g3
              · repeat (refine And.intro ?_ ?_; first | omega | (simp only [Lay.d_n]; omega))
                refine x_if (fun h17 => ?_) (fun h17 => ?_)
                · have h92 := of_decide_eq_true h17
                  rw [if_pos h92] at g3
                  have h12' : (decide (bt s k = 92) && decide (k + 1 < (s.size : Int)) && decide (bt s (k + 1) ≠ 10)) = false := h12
                  rw [h17, Bool.true_and] at h12'
                  have e : N = (0, 0) := by
                    rw [g3]
                    by_cases h18 : k + 1 < s.size
                    · rw [decide_eq_true h18, Bool.true_and] at h12'
                      rw [tl_cons (by omega) h18]
                      simp only
                      rw [if_pos (Classical.not_not.1 (of_decide_eq_false h12'))]; rfl
                    · rw [tl_nil (by omega)]; rfl
                  rw [e]
                  exact fin1 (fun _ _ => rfl)
                · rw [if_neg (of_decide_eq_false h17), atE_up] at g3
                  repeat (refine And.intro ?_ ?_; first | omega | (simp only [Lay.d_n]; omega))
                  exact again (k + 1) [] (.of rfl rfl rfl rfl rfl rfl) ⟨by omega, by omega, g3⟩ (by omega)
      · have e : N = (0, 0) := by
          rw [g3]
          by_cases h2 : k < s.size
          · have h' : (decide (k < (s.size : Int)) && decide (bt s k ≠ 10)) = false := h
            rw [decide_eq_true h2, Bool.true_and] at h'
            rw [tl_cons (by omega) h2, bodyN_cons, if_pos (Classical.not_not.1 (of_decide_eq_false h'))]; rfl
          · rw [tl_nil (by omega)]; rfl
        rw [e]
        exact fin1 (fun _ _ => rfl)
end Go.Proofs.YtnjmkeijjapejaaGreatDoor
namespace Go.Proofs.YtnjmkeijjapejaaGreatDoor
open Go.GV Go.RowKit
def orL : List ByteArray → ByteArray → Bool
  | [], _ => false
  | t :: r, s => decide (s = t) || orL r s
theorem orL_t {b : Bool} {s t : ByteArray} {r : List ByteArray} (e : b = orL (t :: r) s) (h : decide (s = t) = true) : b = true := by rw [e, orL, h]; rfl
theorem orL_f {b : Bool} {s t : ByteArray} {r : List ByteArray} (e : b = orL (t :: r) s) (h : decide (s = t) = false) : b = orL r s := by rw [e, orL, h]; rfl
theorem orL_map (s : ByteArray) : ∀ ls : List ByteArray, (ls.map bl).contains (bl s) = orL ls s
  | [] => rfl
  | t :: r => by
    rw [List.map_cons, List.contains_cons, orL_map s r, orL, bl_eq]
    congr 1
    rw [Bool.eq_iff_iff]; simp
def punA : List ByteArray := [⟨#[91]⟩, ⟨#[93]⟩, ⟨#[40]⟩, ⟨#[41]⟩, ⟨#[123]⟩, ⟨#[125]⟩, ⟨#[46]⟩, ⟨#[45, 62]⟩, ⟨#[43, 43]⟩, ⟨#[45, 45]⟩, ⟨#[38]⟩, ⟨#[42]⟩, ⟨#[43]⟩, ⟨#[45]⟩, ⟨#[126]⟩, ⟨#[33]⟩, ⟨#[47]⟩, ⟨#[37]⟩, ⟨#[60, 60]⟩, ⟨#[62, 62]⟩, ⟨#[60]⟩, ⟨#[62]⟩, ⟨#[60, 61]⟩, ⟨#[62, 61]⟩, ⟨#[61, 61]⟩, ⟨#[33, 61]⟩, ⟨#[94]⟩, ⟨#[124]⟩, ⟨#[38, 38]⟩, ⟨#[124, 124]⟩, ⟨#[63]⟩, ⟨#[58]⟩, ⟨#[59]⟩, ⟨#[46, 46, 46]⟩, ⟨#[61]⟩, ⟨#[42, 61]⟩, ⟨#[47, 61]⟩, ⟨#[37, 61]⟩, ⟨#[43, 61]⟩, ⟨#[45, 61]⟩, ⟨#[60, 60, 61]⟩, ⟨#[62, 62, 61]⟩, ⟨#[38, 61]⟩, ⟨#[94, 61]⟩, ⟨#[124, 61]⟩, ⟨#[44]⟩, ⟨#[35]⟩, ⟨#[35, 35]⟩, ⟨#[60, 58]⟩, ⟨#[58, 62]⟩, ⟨#[60, 37]⟩, ⟨#[37, 62]⟩, ⟨#[37, 58]⟩, ⟨#[37, 58, 37, 58]⟩]
theorem punA_eq : Lx.punS = punA.map bl := by decide
theorem isPun_or (s : ByteArray) : Lx.isPun (bl s) = orL punA s := by
  unfold Lx.isPun
  rw [punA_eq]; exact orL_map s _
set_option maxRecDepth 100000 in
theorem punct_any (s : ByteArray) (w : World) : Calls Tryz.prog 115 #[.string s] w (PureP w fun v _ => v = .bool (Lx.isPun (bl s))) := by
  have e := isPun_or s
  generalize Lx.isPun (bl s) = b at e ⊢
  unfold punA at e
  refine x_fun tt_ok Tryz.func115 rfl rfl [] 0 [.v (.string s)] rfl rfl rfl rfl (fun b hb => by cases hb) ?_
  refine x_vc tt_ok ?_
  refine x_if (fun h => ?_) (fun h => ?_)
  · refine x_ift h ?_
    rw [orL_t e h]
    exact fin1 (fun _ _ => rfl)
  replace e := orL_f e h
  clear h
  refine x_if (fun h => ?_) (fun h => ?_)
  · refine x_ift h ?_
    rw [orL_t e h]
    exact fin1 (fun _ _ => rfl)
  replace e := orL_f e h
  clear h
  refine x_if (fun h => ?_) (fun h => ?_)
  · refine x_ift h ?_
    rw [orL_t e h]
    exact fin1 (fun _ _ => rfl)
  replace e := orL_f e h
  clear h
  refine x_if (fun h => ?_) (fun h => ?_)
  · refine x_ift h ?_
    rw [orL_t e h]
    exact fin1 (fun _ _ => rfl)
  replace e := orL_f e h
  clear h
  refine x_if (fun h => ?_) (fun h => ?_)
  · refine x_ift h ?_
    rw [orL_t e h]
    exact fin1 (fun _ _ => rfl)
  replace e := orL_f e h
  clear h
  refine x_if (fun h => ?_) (fun h => ?_)
  · refine x_ift h ?_
    rw [orL_t e h]
    exact fin1 (fun _ _ => rfl)
  replace e := orL_f e h
  clear h
  refine x_if (fun h => ?_) (fun h => ?_)
  · refine x_ift h ?_
    rw [orL_t e h]
    exact fin1 (fun _ _ => rfl)
  replace e := orL_f e h
  clear h
  refine x_if (fun h => ?_) (fun h => ?_)
  · refine x_ift h ?_
    rw [orL_t e h]
    exact fin1 (fun _ _ => rfl)
  replace e := orL_f e h
  clear h
  refine x_if (fun h => ?_) (fun h => ?_)
  · refine x_ift h ?_
    rw [orL_t e h]
    exact fin1 (fun _ _ => rfl)
  replace e := orL_f e h
  clear h
  refine x_if (fun h => ?_) (fun h => ?_)
  · refine x_ift h ?_
    rw [orL_t e h]
    exact fin1 (fun _ _ => rfl)
  replace e := orL_f e h
  clear h
  refine x_if (fun h => ?_) (fun h => ?_)
  · refine x_ift h ?_
    rw [orL_t e h]
    exact fin1 (fun _ _ => rfl)
  replace e := orL_f e h
  clear h
  refine x_if (fun h => ?_) (fun h => ?_)
  · refine x_ift h ?_
    rw [orL_t e h]
    exact fin1 (fun _ _ => rfl)
  replace e := orL_f e h
  clear h
  refine x_if (fun h => ?_) (fun h => ?_)
  · refine x_ift h ?_
    rw [orL_t e h]
    exact fin1 (fun _ _ => rfl)
  replace e := orL_f e h
  clear h
  refine x_if (fun h => ?_) (fun h => ?_)
  · refine x_ift h ?_
    rw [orL_t e h]
    exact fin1 (fun _ _ => rfl)
  replace e := orL_f e h
  clear h
  refine x_if (fun h => ?_) (fun h => ?_)
  · refine x_ift h ?_
    rw [orL_t e h]
    exact fin1 (fun _ _ => rfl)
  replace e := orL_f e h
  clear h
  refine x_if (fun h => ?_) (fun h => ?_)
  · refine x_ift h ?_
    rw [orL_t e h]
    exact fin1 (fun _ _ => rfl)
  replace e := orL_f e h
  clear h
  refine x_if (fun h => ?_) (fun h => ?_)
  · refine x_ift h ?_
    rw [orL_t e h]
    exact fin1 (fun _ _ => rfl)
  replace e := orL_f e h
  clear h
  refine x_if (fun h => ?_) (fun h => ?_)
  · refine x_ift h ?_
    rw [orL_t e h]
    exact fin1 (fun _ _ => rfl)
  replace e := orL_f e h
  clear h
  refine x_if (fun h => ?_) (fun h => ?_)
  · refine x_ift h ?_
    rw [orL_t e h]
    exact fin1 (fun _ _ => rfl)
  replace e := orL_f e h
  clear h
  refine x_if (fun h => ?_) (fun h => ?_)
  · refine x_ift h ?_
    rw [orL_t e h]
    exact fin1 (fun _ _ => rfl)
  replace e := orL_f e h
  clear h
  refine x_if (fun h => ?_) (fun h => ?_)
  · refine x_ift h ?_
    rw [orL_t e h]
    exact fin1 (fun _ _ => rfl)
  replace e := orL_f e h
  clear h
  refine x_if (fun h => ?_) (fun h => ?_)
  · refine x_ift h ?_
    rw [orL_t e h]
    exact fin1 (fun _ _ => rfl)
  replace e := orL_f e h
  clear h
  refine x_if (fun h => ?_) (fun h => ?_)
  · refine x_ift h ?_
    rw [orL_t e h]
    exact fin1 (fun _ _ => rfl)
  replace e := orL_f e h
  clear h
  refine x_if (fun h => ?_) (fun h => ?_)
  · refine x_ift h ?_
    rw [orL_t e h]
    exact fin1 (fun _ _ => rfl)
  replace e := orL_f e h
  clear h
  refine x_if (fun h => ?_) (fun h => ?_)
  · refine x_ift h ?_
    rw [orL_t e h]
    exact fin1 (fun _ _ => rfl)
  replace e := orL_f e h
  clear h
  refine x_if (fun h => ?_) (fun h => ?_)
  · refine x_ift h ?_
    rw [orL_t e h]
    exact fin1 (fun _ _ => rfl)
  replace e := orL_f e h
  clear h
  refine x_if (fun h => ?_) (fun h => ?_)
  · refine x_ift h ?_
    rw [orL_t e h]
    exact fin1 (fun _ _ => rfl)
  replace e := orL_f e h
  clear h
  refine x_if (fun h => ?_) (fun h => ?_)
  · refine x_ift h ?_
    rw [orL_t e h]
    exact fin1 (fun _ _ => rfl)
  replace e := orL_f e h
  clear h
  refine x_if (fun h => ?_) (fun h => ?_)
  · refine x_ift h ?_
    rw [orL_t e h]
    exact fin1 (fun _ _ => rfl)
  replace e := orL_f e h
  clear h
  refine x_if (fun h => ?_) (fun h => ?_)
  · refine x_ift h ?_
    rw [orL_t e h]
    exact fin1 (fun _ _ => rfl)
  replace e := orL_f e h
  clear h
  refine x_if (fun h => ?_) (fun h => ?_)
  · refine x_ift h ?_
    rw [orL_t e h]
    exact fin1 (fun _ _ => rfl)
  replace e := orL_f e h
  clear h
  refine x_if (fun h => ?_) (fun h => ?_)
  · refine x_ift h ?_
    rw [orL_t e h]
    exact fin1 (fun _ _ => rfl)
  replace e := orL_f e h
  clear h
  refine x_if (fun h => ?_) (fun h => ?_)
  · refine x_ift h ?_
    rw [orL_t e h]
    exact fin1 (fun _ _ => rfl)
  replace e := orL_f e h
  clear h
  refine x_if (fun h => ?_) (fun h => ?_)
  · refine x_ift h ?_
    rw [orL_t e h]
    exact fin1 (fun _ _ => rfl)
  replace e := orL_f e h
  clear h
  refine x_if (fun h => ?_) (fun h => ?_)
  · refine x_ift h ?_
    rw [orL_t e h]
    exact fin1 (fun _ _ => rfl)
  replace e := orL_f e h
  clear h
  refine x_if (fun h => ?_) (fun h => ?_)
  · refine x_ift h ?_
    rw [orL_t e h]
    exact fin1 (fun _ _ => rfl)
  replace e := orL_f e h
  clear h
  refine x_if (fun h => ?_) (fun h => ?_)
  · refine x_ift h ?_
    rw [orL_t e h]
    exact fin1 (fun _ _ => rfl)
  replace e := orL_f e h
  clear h
  refine x_if (fun h => ?_) (fun h => ?_)
  · refine x_ift h ?_
    rw [orL_t e h]
    exact fin1 (fun _ _ => rfl)
  replace e := orL_f e h
  clear h
  refine x_if (fun h => ?_) (fun h => ?_)
  · refine x_ift h ?_
    rw [orL_t e h]
    exact fin1 (fun _ _ => rfl)
  replace e := orL_f e h
  clear h
  refine x_if (fun h => ?_) (fun h => ?_)
  · refine x_ift h ?_
    rw [orL_t e h]
    exact fin1 (fun _ _ => rfl)
  replace e := orL_f e h
  clear h
  refine x_if (fun h => ?_) (fun h => ?_)
  · refine x_ift h ?_
    rw [orL_t e h]
    exact fin1 (fun _ _ => rfl)
  replace e := orL_f e h
  clear h
  refine x_if (fun h => ?_) (fun h => ?_)
  · refine x_ift h ?_
    rw [orL_t e h]
    exact fin1 (fun _ _ => rfl)
  replace e := orL_f e h
  clear h
  refine x_if (fun h => ?_) (fun h => ?_)
  · refine x_ift h ?_
    rw [orL_t e h]
    exact fin1 (fun _ _ => rfl)
  replace e := orL_f e h
  clear h
  refine x_if (fun h => ?_) (fun h => ?_)
  · refine x_ift h ?_
    rw [orL_t e h]
    exact fin1 (fun _ _ => rfl)
  replace e := orL_f e h
  clear h
  refine x_if (fun h => ?_) (fun h => ?_)
  · refine x_ift h ?_
    rw [orL_t e h]
    exact fin1 (fun _ _ => rfl)
  replace e := orL_f e h
  clear h
  refine x_if (fun h => ?_) (fun h => ?_)
  · refine x_ift h ?_
    rw [orL_t e h]
    exact fin1 (fun _ _ => rfl)
  replace e := orL_f e h
  clear h
  refine x_if (fun h => ?_) (fun h => ?_)
  · refine x_ift h ?_
    rw [orL_t e h]
    exact fin1 (fun _ _ => rfl)
  replace e := orL_f e h
  clear h
  refine x_if (fun h => ?_) (fun h => ?_)
  · refine x_ift h ?_
    rw [orL_t e h]
    exact fin1 (fun _ _ => rfl)
  replace e := orL_f e h
  clear h
  refine x_if (fun h => ?_) (fun h => ?_)
  · refine x_ift h ?_
    rw [orL_t e h]
    exact fin1 (fun _ _ => rfl)
  replace e := orL_f e h
  clear h
  refine x_if (fun h => ?_) (fun h => ?_)
  · refine x_ift h ?_
    rw [orL_t e h]
    exact fin1 (fun _ _ => rfl)
  replace e := orL_f e h
  clear h
  refine x_if (fun h => ?_) (fun h => ?_)
  · refine x_ift h ?_
    rw [orL_t e h]
    exact fin1 (fun _ _ => rfl)
  replace e := orL_f e h
  clear h
  refine x_if (fun h => ?_) (fun h => ?_)
  · refine x_ift h ?_
    rw [orL_t e h]
    exact fin1 (fun _ _ => rfl)
  replace e := orL_f e h
  clear h
  refine x_if (fun h => ?_) (fun h => ?_)
  · refine x_ift h ?_
    rw [orL_t e h]
    exact fin1 (fun _ _ => rfl)
  replace e := orL_f e h
  clear h
  refine x_if (fun h => ?_) (fun h => ?_)
  · rw [orL_t e h]
    exact fin1 (fun _ _ => rfl)
  · rw [orL_f e h]
    exact fin1 (fun _ _ => rfl)
end Go.Proofs.YtnjmkeijjapejaaGreatDoor
namespace Go.Proofs.YtnjmkeijjapejaaGreatDoor
open Go.GV Go.RowKit
def punE (s : ByteArray) (i : Int) : Int := atE i (Lx.punN (tl s i))
theorem bl_part (s : ByteArray) {i n : Int} (h0 : 0 ≤ i) (hn : 0 ≤ n) (h : i + n ≤ s.size) : bl (sub s i (i + n)) = (tl s i).take n.toNat := by
  rw [bl_sub s h0 (by omega) h]; congr 1; omega
set_option maxRecDepth 100000 in
theorem pun_any (s : ByteArray) (i : Int) (h0 : 0 ≤ i) (h1 : i < s.size) (hz : s.size ≤ 140737488355328) (w : World) :
    Calls Tryz.prog 105 #[.string s, .int .i64 i] w (PureP w fun v _ => v = .int .i64 (punE s i)) := by
  refine x_fun tt_ok Tryz.func105 rfl rfl [] 0 [.v (.string s), .v (.int .i64 i)] rfl rfl rfl rfl (fun b hb => by cases hb) ?_
  refine x_vc tt_ok ?_
  repeat (refine And.intro ?_ ?_; first | omega | (simp only [Lay.d_n]; omega))
  refine xl_min rfl rfl rfl rfl rfl rfl ?_
  have hm : (if (s.size : Int) - i < 4 then (s.size : Int) - i else 4) = ((min 4 (tl s i).length : Nat) : Int) := by
    rw [tl_len]; split <;> omega
  rw [hm]
  refine xl_go tt_ok ?_
  have hl : (tl s i).length = s.size - i.toNat := tl_len s i
  refine x_loop (σ := Nat) (fun n => ⟨[(5, .v (.int .i64 n)), (1, .v (.int .i64 i)), (0, .v (.string s))], [], [], 0⟩)
    (fun n _ => n ≤ (tl s i).length ∧ punE s i = atE i (Lx.punDown n (tl s i))) (fun n => n) (fun _ => Nat.le_refl _) (min 4 (tl s i).length) [] (.of rfl rfl rfl rfl rfl rfl)
    ⟨Nat.min_le_right .., rfl⟩ ?_
  rintro n u hu ⟨g1, g2⟩
  refine x_vc tt_ok ?_
  refine x_if (fun h => ?_) (fun h => ?_)
  · have h2 : 0 < (n : Int) := of_decide_eq_true h
    obtain ⟨m, rfl⟩ : ∃ m, n = m + 1 := ⟨n - 1, by omega⟩
    repeat (refine And.intro ?_ ?_; first | omega | (simp only [Lay.d_n]; omega))
    refine xl_call0 (.bool (Lx.isPun ((tl s i).take (m + 1)))) rfl rfl rfl rfl fn115 rfl rfl (fun E w F _ => by
      have := punct_any (sub s i (i + ((m + 1 : Nat) : Int))) w
      rw [bl_part s h0 (by omega) (by omega), Int.toNat_natCast] at this; exact this) ?_
    refine xl_go tt_ok ?_
    refine x_if (fun h3 => ?_) (fun h3 => ?_)
    · simp only [Lx.punDown, h3] at g2
      repeat (refine And.intro ?_ ?_; first | omega | (simp only [Lay.d_n]; omega))
      have e : punE s i = i + ((m + 1 : Nat) : Int) := g2
      rw [e]
      exact fin1 (fun _ _ => rfl)
    · simp only [Lx.punDown, h3] at g2
      repeat (refine And.intro ?_ ?_; first | omega | (simp only [Lay.d_n]; omega))
      rw [show ((m + 1 : Nat) : Int) - 1 = (m : Int) by omega]
      exact again m [] (.of rfl rfl rfl rfl rfl rfl) ⟨by omega, g2⟩ (by omega)
  · have h2 : ¬ 0 < (n : Int) := of_decide_eq_false h
    obtain rfl : n = 0 := by omega
    have e : punE s i = 0 := g2
    rw [e]
    exact fin1 (fun _ _ => rfl)
def itV (i : Int) (t : Lx.Item) : Value := if t.err = 0 then .tuple #[.agg #[.int .i64 t.kind, .int .i64 i, .int .i64 (i + t.len)], .int .i64 0]
  else .tuple #[.agg #[.int .i64 0, .int .i64 0, .int .i64 0], .int .i64 t.err]
def longL (l : Lx.Bs) : Lx.Item :=
  if l.head? = some 10 then ⟨9, 1, 0⟩
  else if (Lx.bestL l).1 ≠ 0 then ⟨(Lx.bestL l).1, (Lx.bestL l).2, 0⟩
  else if Lx.qHead l = true then ⟨0, 0, 21⟩
  else ⟨6, 1, 0⟩
theorem atE_lt {i : Int} (h0 : 0 ≤ i) (n m : Nat) : decide (i + (m : Int) < atE i n) = decide (m < n) := by
  unfold atE
  by_cases h : n = 0
  · subst h; simp; omega
  · rw [if_neg h]
    by_cases h2 : m < n
    · rw [decide_eq_true h2, decide_eq_true (by omega)]
    · rw [decide_eq_false h2, decide_eq_false (by omega)]
def stp (k : Int) (n : Nat) (b : Int × Nat) : Int × Nat := if b.2 < n then (k, n) else b
theorem bestG_stp (l : Lx.Bs) : Lx.bestL l = stp 5 (Lx.punN l) (stp 2 (Lx.numN l) (stp 1 (Lx.wordN l) (stp (Lx.litQ l).1 (Lx.litQ l).2 (0, 0)))) := by
  rw [← Lx.bestG_eq]; rfl
theorem stp_t {i : Int} {n m : Nat} {k k0 : Int} (h0 : 0 ≤ i) (h : decide (i + (m : Int) < atE i n) = true) : ∃ n' : Nat, atE i n = i + n' ∧ (k, n') = stp k n (k0, m) := by
  rw [atE_lt h0] at h
  have h := of_decide_eq_true h
  exact ⟨n, by rw [atE, if_neg (by omega)], by rw [stp, if_pos h]⟩
theorem stp_f {i : Int} {n m : Nat} {k k0 : Int} (h0 : 0 ≤ i) (h : decide (i + (m : Int) < atE i n) = false) : (k0, m) = stp k n (k0, m) := by
  rw [atE_lt h0] at h
  rw [stp, if_neg (of_decide_eq_false h)]
set_option maxRecDepth 100000 in
theorem long_any (s : ByteArray) (i : Int) (h0 : 0 ≤ i) (h1 : i < s.size) (hz : s.size ≤ 140737488355328) (w : World) :
    Calls Tryz.prog 98 #[.string s, .int .i64 i] w (PureP w fun v _ => v = itV i (longL (tl s i))) := by
  have hT : tl s i = bt s i :: tl s (i + 1) := tl_cons h0 h1
  refine x_fun tt_ok Tryz.func98 rfl rfl [] 0 [.v (.string s), .v (.int .i64 i)] rfl rfl rfl rfl (fun b hb => by cases hb) ?_
  refine x_seq ?_
  refine x_vc tt_ok ?_
  refine x_seq ?_
  refine x_vc tt_ok ?_
  repeat (refine And.intro ?_ ?_; first | omega | (simp only [Lay.d_n]; omega))
  refine x_seq ?_
  refine x_vc tt_ok ?_
  refine x_if (fun h => ?_) (fun h => ?_)
  · have h10 := of_decide_eq_true h
    repeat (refine And.intro ?_ ?_; first | omega | (simp only [Lay.d_n]; omega))
    have e : itV i (longL (tl s i)) = .tuple #[.agg #[.int .i64 9, .int .i64 i, .int .i64 (i + 1)], .int .i64 0] := by
      unfold longL; rw [hT, h10]; rfl
    rw [e]
    exact fin1 (fun _ _ => rfl)
  · have h10 := of_decide_eq_false h
    clear h
    refine x_seq ?_
    refine x_vc tt_ok ?_
    repeat (refine And.intro ?_ ?_; first | omega | (simp only [Lay.d_n]; omega))
    refine x_cut (σ := Int × Int) (fun b => ⟨[(7, .p 1 0), (6, .v (.int .u8 (bt s i))), (4, .p 0 0), (1, .v (.int .i64 i)), (0, .v (.string s))], [],
        [(1, .box 120 [.v (.int .i64 b.1), .v (.int .i64 i), .v (.int .i64 b.2)]), (0, .box 120 [.v (.int .i64 0), .v (.int .i64 0), .v (.int .i64 0)])], 2⟩)
      (fun b _ => ∃ n : Nat, b.2 = i + n ∧ (b.1, n) = (stp (Lx.litQ (tl s i)).1 (Lx.litQ (tl s i)).2 (0, 0))) (fun _ => Nat.le_refl 2) ?_ ?_
    · refine x_vc tt_ok ?_
      refine xl_call0 (.tuple #[.int .i64 (litE s i).1, .int .i64 (litE s i).2]) rfl rfl rfl rfl fn102 rfl rfl (fun E w F _ => lit_any s i h0 h1 hz w) ?_
      refine xl_go tt_ok ?_
      refine x_if (fun h => ?_) (fun h => ?_)
      · have h' : decide (i + ((0 : Nat) : Int) < atE i (Lx.litQ (tl s i)).2) = true := by rw [show i + ((0 : Nat) : Int) = i by omega]; exact h
        obtain ⟨n, h2, h3⟩ := stp_t (k := (litE s i).1) (k0 := 0) h0 h'
        repeat (refine And.intro ?_ ?_; first | omega | (simp only [Lay.d_n]; omega))
        exact meet ((litE s i).1, (litE s i).2) [] (.of rfl rfl rfl rfl rfl rfl) ⟨n, h2, h3⟩
      · have h' : decide (i + ((0 : Nat) : Int) < atE i (Lx.litQ (tl s i)).2) = false := by rw [show i + ((0 : Nat) : Int) = i by omega]; exact h
        exact meet (0, i) [] (.of rfl rfl rfl rfl rfl rfl) ⟨0, by simp, stp_f h0 h'⟩
    · rintro ⟨kd, ed⟩ u1 hu1 ⟨n0, e0, hb⟩
      replace e0 : ed = i + (n0 : Int) := e0
      subst e0
      replace hb : (kd, n0) = (stp (Lx.litQ (tl s i)).1 (Lx.litQ (tl s i)).2 (0, 0)) := hb
      refine x_cut (σ := Int × Int) (fun b => ⟨[(7, .p 1 0), (6, .v (.int .u8 (bt s i))), (4, .p 0 0), (1, .v (.int .i64 i)), (0, .v (.string s))], [],
          [(1, .box 120 [.v (.int .i64 b.1), .v (.int .i64 i), .v (.int .i64 b.2)]), (0, .box 120 [.v (.int .i64 0), .v (.int .i64 0), .v (.int .i64 0)])], 2⟩)
        (fun b _ => ∃ n : Nat, b.2 = i + n ∧ (b.1, n) = (stp 1 (Lx.wordN (tl s i)) (stp (Lx.litQ (tl s i)).1 (Lx.litQ (tl s i)).2 (0, 0)))) (fun _ => Nat.le_refl 2) ?_ ?_
      · refine x_vc tt_ok ?_
        refine xl_call0 (.int .i64 (wordE s i)) rfl rfl rfl rfl fn103 rfl rfl (fun E w F _ => word_any s i h0 h1 hz w) ?_
        refine xl_go tt_ok ?_
        refine x_if (fun h => ?_) (fun h => ?_)
        · obtain ⟨n, h2, h3⟩ := stp_t (k := 1) (k0 := kd) h0 h
          rw [hb] at h3
          repeat (refine And.intro ?_ ?_; first | omega | (simp only [Lay.d_n]; omega))
          exact meet (1, (wordE s i)) [] (.of rfl rfl rfl rfl rfl rfl) ⟨n, h2, h3⟩
        · have h3 := stp_f (k := 1) (k0 := kd) h0 h
          exact meet (kd, i + (n0 : Int)) [] (.of rfl rfl rfl rfl rfl rfl) ⟨n0, rfl, h3.trans (by rw [hb])⟩
      · rintro ⟨kd, ed⟩ u2 hu2 ⟨n0, e0, hb⟩
        replace e0 : ed = i + (n0 : Int) := e0
        subst e0
        replace hb : (kd, n0) = (stp 1 (Lx.wordN (tl s i)) (stp (Lx.litQ (tl s i)).1 (Lx.litQ (tl s i)).2 (0, 0))) := hb
        refine x_cut (σ := Int × Int) (fun b => ⟨[(7, .p 1 0), (6, .v (.int .u8 (bt s i))), (4, .p 0 0), (1, .v (.int .i64 i)), (0, .v (.string s))], [],
            [(1, .box 120 [.v (.int .i64 b.1), .v (.int .i64 i), .v (.int .i64 b.2)]), (0, .box 120 [.v (.int .i64 0), .v (.int .i64 0), .v (.int .i64 0)])], 2⟩)
          (fun b _ => ∃ n : Nat, b.2 = i + n ∧ (b.1, n) = (stp 2 (Lx.numN (tl s i)) (stp 1 (Lx.wordN (tl s i)) (stp (Lx.litQ (tl s i)).1 (Lx.litQ (tl s i)).2 (0, 0))))) (fun _ => Nat.le_refl 2) ?_ ?_
        · refine x_vc tt_ok ?_
          refine xl_call0 (.int .i64 (numE s i)) rfl rfl rfl rfl fn104 rfl rfl (fun E w F _ => num_any s i h0 h1 hz w) ?_
          refine xl_go tt_ok ?_
          refine x_if (fun h => ?_) (fun h => ?_)
          · obtain ⟨n, h2, h3⟩ := stp_t (k := 2) (k0 := kd) h0 h
            rw [hb] at h3
            repeat (refine And.intro ?_ ?_; first | omega | (simp only [Lay.d_n]; omega))
            exact meet (2, (numE s i)) [] (.of rfl rfl rfl rfl rfl rfl) ⟨n, h2, h3⟩
          · have h3 := stp_f (k := 2) (k0 := kd) h0 h
            exact meet (kd, i + (n0 : Int)) [] (.of rfl rfl rfl rfl rfl rfl) ⟨n0, rfl, h3.trans (by rw [hb])⟩
        · rintro ⟨kd, ed⟩ u3 hu3 ⟨n0, e0, hb⟩
          replace e0 : ed = i + (n0 : Int) := e0
          subst e0
          replace hb : (kd, n0) = (stp 2 (Lx.numN (tl s i)) (stp 1 (Lx.wordN (tl s i)) (stp (Lx.litQ (tl s i)).1 (Lx.litQ (tl s i)).2 (0, 0)))) := hb
          refine x_cut (σ := Int × Int) (fun b => ⟨[(7, .p 1 0), (6, .v (.int .u8 (bt s i))), (4, .p 0 0), (1, .v (.int .i64 i)), (0, .v (.string s))], [],
              [(1, .box 120 [.v (.int .i64 b.1), .v (.int .i64 i), .v (.int .i64 b.2)]), (0, .box 120 [.v (.int .i64 0), .v (.int .i64 0), .v (.int .i64 0)])], 2⟩)
            (fun b _ => ∃ n : Nat, b.2 = i + n ∧ (b.1, n) = (stp 5 (Lx.punN (tl s i)) (stp 2 (Lx.numN (tl s i)) (stp 1 (Lx.wordN (tl s i)) (stp (Lx.litQ (tl s i)).1 (Lx.litQ (tl s i)).2 (0, 0)))))) (fun _ => Nat.le_refl 2) ?_ ?_
          · refine x_vc tt_ok ?_
            refine xl_call0 (.int .i64 (punE s i)) rfl rfl rfl rfl fn105 rfl rfl (fun E w F _ => pun_any s i h0 h1 hz w) ?_
            refine xl_go tt_ok ?_
            refine x_if (fun h => ?_) (fun h => ?_)
            · obtain ⟨n, h2, h3⟩ := stp_t (k := 5) (k0 := kd) h0 h
              rw [hb] at h3
              repeat (refine And.intro ?_ ?_; first | omega | (simp only [Lay.d_n]; omega))
              exact meet (5, (punE s i)) [] (.of rfl rfl rfl rfl rfl rfl) ⟨n, h2, h3⟩
            · have h3 := stp_f (k := 5) (k0 := kd) h0 h
              exact meet (kd, i + (n0 : Int)) [] (.of rfl rfl rfl rfl rfl rfl) ⟨n0, rfl, h3.trans (by rw [hb])⟩
          · rintro ⟨kd, ed⟩ u4 hu4 ⟨n0, e0, hb⟩
            replace e0 : ed = i + (n0 : Int) := e0
            subst e0
            replace hb : (kd, n0) = (stp 5 (Lx.punN (tl s i)) (stp 2 (Lx.numN (tl s i)) (stp 1 (Lx.wordN (tl s i)) (stp (Lx.litQ (tl s i)).1 (Lx.litQ (tl s i)).2 (0, 0))))) := hb
            rw [← bestG_stp] at hb
            have q1 : (Lx.bestL (tl s i)).1 = kd := by rw [← hb]
            have q2 : (Lx.bestL (tl s i)).2 = n0 := by rw [← hb]
            have hL : longL (tl s i) = if kd ≠ 0 then ⟨kd, n0, 0⟩ else if Lx.qHead (tl s i) = true then ⟨0, 0, 21⟩ else ⟨6, 1, 0⟩ := by
              unfold longL; rw [q1, q2, hT, List.head?_cons, if_neg (by simpa using h10)]
            rw [hT] at hL
            rw [hT, hL]
            refine x_vc tt_ok ?_
            refine x_if (fun h => ?_) (fun h => ?_)
            · rw [if_pos (of_decide_eq_true h)]
              exact fin1 (fun _ _ => rfl)
            · rw [if_neg (of_decide_eq_false h)]
              refine x_if (fun h2 => ?_) (fun h2 => ?_)
              · have h2' : Lx.qHead (bt s i :: tl s (i + 1)) = true := h2
                rw [if_pos h2']
                exact fin1 (fun _ _ => rfl)
              · have h2' : Lx.qHead (bt s i :: tl s (i + 1)) = false := h2
                rw [if_neg (by rw [h2']; simp)]
                repeat (refine And.intro ?_ ?_; first | omega | (simp only [Lay.d_n]; omega))
                exact fin1 (fun _ _ => rfl)
end Go.Proofs.YtnjmkeijjapejaaGreatDoor
namespace Go.Proofs
open Go.Shelf
def Tryz.lays137_ren : Go.Shelf.Ren := ⟨fun | 137 => 41 | 217 => 65 | 266 => 84 | n => n, fun | 9 => 9 | 5 => 5 | 3 => 3 | n => n, fun | n => n⟩
theorem Tryz.lays137 : Go.Proofs.Lays.n137 Tryz.prog Tryz.lays137_ren := {
  mixed := by kernel_rfl
  f137 := Tryz.func41.trans (congrArg some (by kernel_rfl))
  f217 := Tryz.func65.trans (congrArg some (by kernel_rfl))
  f266 := Tryz.func84.trans (congrArg some (by kernel_rfl))
  t3 := Tryz.underlying3
  a3 := Tryz.isAgg3
  z3 := Tryz.sizeOf3
  v3 := Tryz.zeroValue3
  t5 := Tryz.underlying5
  a5 := Tryz.isAgg5
  z5 := Tryz.sizeOf5
  v5 := Tryz.zeroValue5
  t9 := Tryz.underlying9
  a9 := Tryz.isAgg9
  z9 := Tryz.sizeOf9
  v9 := Tryz.zeroValue9 }
open Go.RowKit in
theorem Tryz.strings_IndexByte (s : ByteArray) (c : Int) (w : World) :
    Calls Tryz.prog 41 #[.string s, .int .u8 c] w fun e w' => e = .returned (.int .i64 (Lib.indexByte s.data.toList c.toNat.toUInt8)) ∧ w' = w := Any.strings_IndexByte Tryz.lays137 s c w
def Tryz.lays143_ren : Go.Shelf.Ren := ⟨fun | 143 => 97 | 219 => 101 | 217 => 65 | 225 => 110 | 224 => 111 | 267 => 112 | 266 => 84 | 314 => 121 | n => n, fun | 9 => 9 | 3 => 3 | 4 => 4 | 5 => 5 | 46 => 99 | 146 => 157 | 51 => 156 | n => n, fun | 1 => 1 | n => n⟩
theorem Tryz.lays143 : Go.Proofs.Lays.n143 Tryz.prog Tryz.lays143_ren := {
  mixed := by kernel_rfl
  f143 := Tryz.func97.trans (congrArg some (by kernel_rfl))
  f217 := Tryz.func65.trans (congrArg some (by kernel_rfl))
  f219 := Tryz.func101.trans (congrArg some (by kernel_rfl))
  f224 := Tryz.func111.trans (congrArg some (by kernel_rfl))
  f225 := Tryz.func110.trans (congrArg some (by kernel_rfl))
  f266 := Tryz.func84.trans (congrArg some (by kernel_rfl))
  f267 := Tryz.func112.trans (congrArg some (by kernel_rfl))
  f314 := Tryz.func121.trans (congrArg some (by kernel_rfl))
  t3 := Tryz.underlying3
  a3 := Tryz.isAgg3
  z3 := Tryz.sizeOf3
  v3 := Tryz.zeroValue3
  t4 := Tryz.underlying4
  a4 := Tryz.isAgg4
  z4 := Tryz.sizeOf4
  v4 := Tryz.zeroValue4
  t5 := Tryz.underlying5
  a5 := Tryz.isAgg5
  z5 := Tryz.sizeOf5
  v5 := Tryz.zeroValue5
  t9 := Tryz.underlying9
  a9 := Tryz.isAgg9
  z9 := Tryz.sizeOf9
  v9 := Tryz.zeroValue9
  t46 := Tryz.underlying99
  a46 := Tryz.isAgg99
  z46 := Tryz.sizeOf99
  v46 := Tryz.zeroValue99
  t51 := Tryz.underlying156
  a51 := Tryz.isAgg156
  z51 := Tryz.sizeOf156
  v51 := Tryz.zeroValue156
  t146 := Tryz.underlying157
  a146 := Tryz.isAgg157
  z146 := Tryz.sizeOf157
  v146 := Tryz.zeroValue157
  g1 := by kernel_rfl }
open Go.RowKit Go.Lib in
theorem Tryz.strings_Index (s sub : ByteArray) (m : Int) (w : World) (hs : s.size < 4294967281) (hm : w.cell? ⟨1, 0, none⟩ = some (.int .i64 m)) :
    Calls Tryz.prog 97 #[.string s, .string sub] w fun e w' => e = .returned (.int .i64 (Lib.index s.data.toList sub.data.toList)) ∧ w' = w := Any.strings_Index Tryz.lays143 s sub m w hs hm
def Tryz.laysM143_ren : Go.Shelf.Ren := ⟨fun | 143 => 97 | 219 => 101 | 217 => 65 | 225 => 110 | 224 => 111 | 267 => 112 | 266 => 84 | 314 => 121 | n => n, fun | 9 => 9 | 3 => 3 | 4 => 4 | 5 => 5 | 46 => 99 | 146 => 157 | 51 => 156 | n => n, fun | 1 => 1 | n => n⟩
theorem Tryz.laysM143 : Go.Proofs.LaysM.n143 Tryz.prog Tryz.laysM143_ren := {
  mixed := by kernel_rfl
  f143 := Tryz.func97.trans (congrArg some (by kernel_rfl))
  f217 := Tryz.func65.trans (congrArg some (by kernel_rfl))
  f219 := Tryz.func101.trans (congrArg some (by kernel_rfl))
  f224 := Tryz.func111.trans (congrArg some (by kernel_rfl))
  f225 := Tryz.func110.trans (congrArg some (by kernel_rfl))
  f266 := Tryz.func84.trans (congrArg some (by kernel_rfl))
  f267 := Tryz.func112.trans (congrArg some (by kernel_rfl))
  f314 := Tryz.func121.trans (congrArg some (by kernel_rfl))
  t3 := Tryz.underlying3
  a3 := Tryz.isAgg3
  z3 := Tryz.sizeOf3
  v3 := Tryz.zeroValue3
  t4 := Tryz.underlying4
  a4 := Tryz.isAgg4
  z4 := Tryz.sizeOf4
  v4 := Tryz.zeroValue4
  t5 := Tryz.underlying5
  a5 := Tryz.isAgg5
  z5 := Tryz.sizeOf5
  v5 := Tryz.zeroValue5
  t9 := Tryz.underlying9
  a9 := Tryz.isAgg9
  z9 := Tryz.sizeOf9
  v9 := Tryz.zeroValue9
  t46 := Tryz.underlying99
  a46 := Tryz.isAgg99
  z46 := Tryz.sizeOf99
  v46 := Tryz.zeroValue99
  t51 := Tryz.underlying156
  a51 := Tryz.isAgg156
  z51 := Tryz.sizeOf156
  v51 := Tryz.zeroValue156
  t146 := Tryz.underlying157
  a146 := Tryz.isAgg157
  z146 := Tryz.sizeOf157
  v146 := Tryz.zeroValue157
  g1 := by kernel_rfl
  i3 := by kernel_rfl
  i4 := by kernel_rfl
  i5 := by kernel_rfl
  i9 := by kernel_rfl
  i46 := by kernel_rfl
  i51 := by kernel_rfl
  i146 := by kernel_rfl
  m1 := by kernel_rfl
  s1_3 := fun w h => Go.Proofs.cell_of_shapedOpen_int (zero := #[.int .i64 0]) (t := 3) h (of_decide_eq_true (by kernel_rfl)) (by kernel_rfl) rfl (by kernel_rfl) (by kernel_rfl) Tryz.underlying3 }
end Go.Proofs
namespace Go.Proofs.YtnjmkeijjapejaaGreatDoor
open Go.GV Go.RowKit
def Glob (u : Im) : Prop := ∃ m, u.cell? ⟨1, 0, none⟩ = some (.int .i64 m)
theorem Glob.sub {u u' : Im} (h : Glob u) (hu : u.sub u') : Glob u' := by
  obtain ⟨m, h⟩ := h
  exact ⟨m, hu.cell h⟩
theorem Glob.imm {u : Im} {w : World} (h : Glob u) (hw : Imm u w) : Glob (im w) := h.sub ⟨fun b o hb => hw.h b o hb⟩
theorem pure_of {f : Nat} {args : Array Value} {w : World} {v : Value} (h : Calls Tryz.prog f args w fun e w' => e = .returned v ∧ w' = w) : Calls Tryz.prog f args w (PureP w fun x _ => x = v) := by
  refine h.mono ?_
  rintro e w' ⟨rfl, rfl⟩
  exact ⟨v, rfl, Below.refl _ _, rfl⟩
theorem index_open : ∀ l : List UInt8, (Lib.index l [42, 47] = -1 ∧ Lx.endC (l.map fun b => (b.toNat : Int)) = 0) ∨ (∃ n : Nat, Lib.index l [42, 47] = n ∧ Lx.endC (l.map fun b => (b.toNat : Int)) = n + 2)
  | [] => .inl ⟨rfl, rfl⟩
  | [a] => by
    left
    refine ⟨?_, rfl⟩
    have : ([42, 47] : List UInt8).isPrefixOf [a] = false := by
      simp [List.isPrefixOf]
    rw [Lib.index, this]; rfl
  | a :: b :: r => by
    have ih := index_open (b :: r)
    have e : ([42, 47] : List UInt8).isPrefixOf (a :: b :: r) = (decide ((a.toNat : Int) = 42) && decide ((b.toNat : Int) = 47)) := by
      have q : ∀ (x : UInt8) (k : UInt8), (k == x) = decide ((x.toNat : Int) = (k.toNat : Int)) := fun x k => by
        rw [Bool.eq_iff_iff]
        simp only [beq_iff_eq, decide_eq_true_eq]
        constructor
        · rintro rfl; rfl
        · intro h; exact (UInt8.toNat_inj.1 (Int.ofNat.inj h)).symm
      simp only [List.isPrefixOf, Bool.and_true]
      rw [q, q]; rfl
    rw [Lib.index, e]
    simp only [List.map_cons, Lx.endC]
    cases (decide ((a.toNat : Int) = 42) && decide ((b.toNat : Int) = 47)) with
    | true => exact .inr ⟨0, rfl, rfl⟩
    | false =>
      simp only [Bool.false_eq_true, if_false]
      simp only [List.map_cons] at ih
      rcases ih with ⟨h1, h2⟩ | ⟨n, h1, h2⟩
      · left
        rw [h1, h2]; exact ⟨rfl, rfl⟩
      · right
        refine ⟨n + 1, ?_, by rw [h2]⟩
        rw [h1]
        have : ((n : Int) == -1) = false := by simp
        rw [this]; simp
theorem indexByte_nl : ∀ l : List UInt8, (if Lib.indexByte l 10 < 0 then (l.length : Int) else Lib.indexByte l 10) = (Lx.run Lx.notNl (l.map fun b => (b.toNat : Int)) : Int)
  | [] => rfl
  | b :: r => by
    have ih := indexByte_nl r
    have hge := Lib.indexByte_ge r 10
    rw [Lib.indexByte, List.map_cons, run_cons]
    by_cases h : b = 10
    · subst h; rfl
    · have h1 : (b == 10) = false := by simpa using h
      have h2 : Lx.notNl (b.toNat : Int) = true := by
        unfold Lx.notNl
        rw [Bool.not_eq_true', decide_eq_false_iff_not]
        intro h3
        exact h (UInt8.toNat_inj.1 (Int.ofNat.inj h3))
      rw [h1, if_pos h2]
      simp only [Bool.false_eq_true, if_false, List.length_cons]
      by_cases h3 : Lib.indexByte r 10 = -1
      · rw [h3] at ih ⊢
        simp only [beq_self_eq_true, if_true] at ih ⊢
        rw [if_pos (by omega)] at ih ⊢
        omega
      · have h4 : (Lib.indexByte r 10 == -1) = false := by simpa using h3
        rw [h4]
        simp only [Bool.false_eq_true, if_false]
        rw [if_neg (by omega)] at ih ⊢
        omega
theorem isOpen_eq {s : ByteArray} {i : Int} (h0 : 0 ≤ i) (h1 : i ≤ s.size) : hasP (sub s i s.size) ⟨#[47, 42]⟩ = Lx.isOpen (tl s i) := by
  rw [hasP_bl, bl_rest s h0 h1]; rfl
theorem isLine_eq {s : ByteArray} {i : Int} (h0 : 0 ≤ i) (h1 : i ≤ s.size) : hasP (sub s i s.size) ⟨#[47, 47]⟩ = Lx.isLine (tl s i) := by
  rw [hasP_bl, bl_rest s h0 h1]; rfl
theorem isOpen_len {s : ByteArray} {i : Int} (h0 : 0 ≤ i) (h : Lx.isOpen (tl s i) = true) : i + 2 ≤ s.size := by
  have h := of_decide_eq_true h
  have := congrArg List.length h
  rw [List.length_take, tl_len] at this
  simp only [List.length_cons, List.length_nil] at this
  omega
theorem itemP_eq (hdr : Bool) (l : Lx.Bs) : Lx.itemP hdr l = if hdr = true ∧ 0 < Lx.hdrN l then ⟨7, Lx.hdrN l, 0⟩
    else if Lx.isOpen l = true then (match Lx.endC (l.drop 2) with
      | 0 => ⟨0, 0, 20⟩
      | n + 1 => ⟨8, n + 3, 0⟩)
    else if Lx.isLine l = true then ⟨8, Lx.run Lx.notNl l, 0⟩ else longL l := rfl
set_option maxRecDepth 100000 in
theorem item_any (s : ByteArray) (i : Int) (hdr : Bool) (h0 : 0 ≤ i) (h1 : i < s.size) (hz : s.size ≤ 4294967280) (w : World) (hg : Glob (im w)) :
    Calls Tryz.prog 82 #[.string s, .int .i64 i, .bool hdr] w (PureP w fun v _ => v = itV i (Lx.itemP hdr (tl s i))) := by
  have hz' : s.size ≤ 140737488355328 := by omega
  rw [itemP_eq]
  refine x_fun tt_ok Tryz.func82 rfl rfl [] 0 [.v (.string s), .v (.int .i64 i), .v (.bool hdr)] rfl rfl rfl rfl (fun b hb => by cases hb) ?_
  refine x_seq ?_
  refine x_vc tt_ok ?_
  refine x_cut (σ := Unit) (fun _ => ⟨[(6, .p 0 0), (1, .v (.int .i64 i)), (0, .v (.string s))], [],
      [(0, .box 120 [.v (.int .i64 0), .v (.int .i64 0), .v (.int .i64 0)])], 1⟩)
    (fun _ _ => ¬ (hdr = true ∧ 0 < Lx.hdrN (tl s i))) (fun _ => Nat.le_refl 1) ?_ ?_
  · refine x_vc tt_ok ?_
    refine x_if (fun h => ?_) (fun h => ?_)
    · refine xl_call0 (.int .i64 (hdrE s i)) rfl rfl rfl rfl fn95 rfl rfl (fun E w F _ => hdr_any s i h0 h1 hz' w) ?_
      refine xl_go tt_ok ?_
      refine x_if (fun h2 => ?_) (fun h2 => ?_)
      · have h3 : 0 < hdrE s i := of_decide_eq_true h2
        have h4 : 0 < Lx.hdrN (tl s i) := by
          unfold hdrE atE at h3
          split at h3 <;> omega
        rw [if_pos ⟨h, h4⟩]
        have e : hdrE s i = i + Lx.hdrN (tl s i) := by unfold hdrE atE; rw [if_neg (by omega)]
        rw [e]
        exact fin1 (fun _ _ => rfl)
      · have h3 : ¬ 0 < hdrE s i := of_decide_eq_false h2
        refine meet () [] (.of rfl rfl rfl rfl rfl rfl) ?_
        rintro ⟨_, h4⟩
        unfold hdrE atE at h3
        rw [if_neg (by omega)] at h3
        omega
    · exact meet () [] (.of rfl rfl rfl rfl rfl rfl) (fun ⟨h5, _⟩ => by rw [h] at h5; cases h5)
  · rintro _ u hu hn
    rw [if_neg hn]
    clear hn
    have hgu : Glob u := hg.sub hu.sub
    refine x_vc tt_ok ?_
    repeat (refine And.intro ?_ ?_; first | omega | (simp only [Lay.d_n]; omega))
    refine xl_call0 (.bool (Lx.isOpen (tl s i))) rfl rfl rfl rfl fn96 rfl rfl (fun E w F _ => by rw [← isOpen_eq h0 (by omega)]; exact hasP_any _ _ w) ?_
    refine xl_go tt_ok ?_
    refine x_if (fun h => ?_) (fun h => ?_)
    · rw [if_pos h]
      have hl := isOpen_len h0 h
      have hd : (tl s i).drop 2 = bl (sub s (i + 2) s.size) := by
        rw [tl_tl s h0, bl_rest s (by omega) (by omega)]; rfl
      rw [hd]
      repeat (refine And.intro ?_ ?_; first | omega | (simp only [Lay.d_n]; omega))
      have hi := index_open (sub s (i + 2) s.size).data.toList
      refine xl_call0 (.int .i64 (Lib.index (sub s (i + 2) s.size).data.toList [42, 47])) rfl rfl rfl rfl fn97 rfl rfl (fun E w F hs => by
        obtain ⟨m, hm⟩ := hgu.imm hs.imm
        refine pure_of (Tryz.strings_Index _ _ m w ?_ hm)
        have : ((sub s (i + 2) s.size).size : Int) = s.size - (i + 2) := sub_size (by omega) (by omega) (Int.le_refl _)
        omega) ?_
      refine xl_go tt_ok ?_
      have hbl : Lx.endC (bl (sub s (i + 2) s.size)) = Lx.endC ((sub s (i + 2) s.size).data.toList.map fun b => (b.toNat : Int)) := rfl
      rcases hi with ⟨e1, e2⟩ | ⟨n, e1, e2⟩
      · rw [e1, hbl, e2]
        refine x_ift rfl ?_
        exact fin1 (fun _ _ => rfl)
      · have hn := Lx.endC_le ((sub s (i + 2) s.size).data.toList.map fun b => (b.toNat : Int))
        rw [e2, List.length_map, Array.length_toList] at hn
        have hsz : ((sub s (i + 2) s.size).size : Int) = s.size - (i + 2) := sub_size (by omega) (by omega) (Int.le_refl _)
        have hsz2 : (sub s (i + 2) s.size).data.size = (sub s (i + 2) s.size).size := rfl
        rw [e1, hbl, e2]
        refine x_iff (decide_eq_false (by omega)) ?_
        repeat (refine And.intro ?_ ?_; first | omega | (simp only [Lay.d_n]; omega))
        refine fin1 (fun _ _ => ?_)
        show Value.tuple #[.agg #[.int .i64 8, .int .i64 i, .int .i64 (i + 2 + (n : Int) + 2)], .int .i64 0] = Value.tuple #[.agg #[.int .i64 8, .int .i64 i, .int .i64 (i + ((n + 1 + 3 : Nat) : Int))], .int .i64 0]
        rw [show i + 2 + (n : Int) + 2 = i + ((n + 1 + 3 : Nat) : Int) by omega]
    · rw [if_neg (by rw [h]; simp)]
      repeat (refine And.intro ?_ ?_; first | omega | (simp only [Lay.d_n]; omega))
      refine xl_call0 (.bool (Lx.isLine (tl s i))) rfl rfl rfl rfl fn96 rfl rfl (fun E w F _ => by rw [← isLine_eq h0 (by omega)]; exact hasP_any _ _ w) ?_
      refine xl_go tt_ok ?_
      refine x_if (fun h2 => ?_) (fun h2 => ?_)
      · rw [if_pos h2]
        repeat (refine And.intro ?_ ?_; first | omega | (simp only [Lay.d_n]; omega))
        have hi := indexByte_nl (sub s i s.size).data.toList
        have hsz : ((sub s i s.size).size : Int) = s.size - i := sub_size h0 (by omega) (Int.le_refl _)
        have hsz2 : ((sub s i s.size).data.toList.length : Int) = s.size - i := by rw [Array.length_toList]; exact hsz
        have hrun : (Lx.run Lx.notNl (tl s i) : Int) = (Lx.run Lx.notNl ((sub s i s.size).data.toList.map fun b => (b.toNat : Int)) : Int) := by
          rw [← bl_rest s h0 (by omega)]; rfl
        rw [← hrun, hsz2] at hi
        refine xl_call0 (.int .i64 (Lib.indexByte (sub s i s.size).data.toList 10)) rfl rfl rfl rfl fn41 rfl rfl (fun E w F hs => pure_of (Tryz.strings_IndexByte _ 10 w)) ?_
        refine xl_go tt_ok ?_
        obtain ⟨x, hx⟩ : ∃ x, x = Lib.indexByte (sub s i s.size).data.toList 10 := ⟨_, rfl⟩
        have hge := Lib.indexByte_ge (sub s i s.size).data.toList 10
        have hrl := Lx.run_le Lx.notNl (tl s i)
        rw [tl_len] at hrl
        rw [← hx] at hi hge ⊢
        have e : ∀ y : Int, y = (Lx.run Lx.notNl (tl s i) : Int) → itV i ⟨8, Lx.run Lx.notNl (tl s i), 0⟩ = Value.tuple #[.agg #[.int .i64 8, .int .i64 i, .int .i64 (i + y)], .int .i64 0] := by
          rintro y rfl; rfl
        refine x_if (fun h3 => ?_) (fun h3 => ?_)
        · rw [if_pos (of_decide_eq_true h3)] at hi
          repeat (refine And.intro ?_ ?_; first | omega | (simp only [Lay.d_n]; omega))
          rw [e _ hi]
          exact fin1 (fun _ _ => rfl)
        · rw [if_neg (of_decide_eq_false h3)] at hi
          repeat (refine And.intro ?_ ?_; first | omega | (simp only [Lay.d_n]; omega))
          rw [e _ hi]
          exact fin1 (fun _ _ => rfl)
      · rw [if_neg (by rw [h2]; simp)]
        by_cases he : (longL (tl s i)).err = 0
        · have hv : itV i (longL (tl s i)) = .tuple #[.agg #[.int .i64 (longL (tl s i)).kind, .int .i64 i, .int .i64 (i + (longL (tl s i)).len)], .int .i64 0] := if_pos he
          rw [hv]
          refine xl_call0 (.tuple #[.agg #[.int .i64 (longL (tl s i)).kind, .int .i64 i, .int .i64 (i + (longL (tl s i)).len)], .int .i64 0]) rfl rfl rfl rfl fn98 rfl rfl (fun E w F _ => by rw [← hv]; exact long_any s i h0 h1 hz' w) ?_
          refine xl_go tt_ok ?_
          exact fin1 (fun _ _ => rfl)
        · have hv : itV i (longL (tl s i)) = .tuple #[.agg #[.int .i64 0, .int .i64 0, .int .i64 0], .int .i64 (longL (tl s i)).err] := if_neg he
          rw [hv]
          refine xl_call0 (.tuple #[.agg #[.int .i64 0, .int .i64 0, .int .i64 0], .int .i64 (longL (tl s i)).err]) rfl rfl rfl rfl fn98 rfl rfl (fun E w F _ => by rw [← hv]; exact long_any s i h0 h1 hz' w) ?_
          refine xl_go tt_ok ?_
          exact fin1 (fun _ _ => rfl)
end Go.Proofs.YtnjmkeijjapejaaGreatDoor
