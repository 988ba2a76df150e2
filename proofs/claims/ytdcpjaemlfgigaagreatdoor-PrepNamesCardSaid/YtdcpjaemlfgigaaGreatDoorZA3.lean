/- The statement of PrepNames, out of its walk: for any input the law answers true, and the input stays. -/
import Derived.Test.YtdcpjaemlfgigaaGreatDoorZA2
import Derived.Laws.Externs
import Derived.Below
import Derived.Test.YtdcpjaemlfgigaaGreatDoorCards
import Derived.ProofKit
import Derived.OpenShut
import Derived.ShutString
import Derived.ChangeOld
import Derived.SizedLaws
import Derived.HandedShaped
import Derived.Handed
import Derived.Lay
import Derived.LaidLaws
import Derived.LaidMore
import Derived.Test.YtdcpjaemlfgigaaGreatDoorRows
import Derived.Test.YtdcpjaemlfgigaaGreatDoorTie
import Derived.SevenTiedAt
set_option linter.unusedSimpArgs false
set_option linter.unusedVariables false
set_option linter.constructorNameAsVariable false
namespace Go.CE
open Go.GV (TI Shp TIok FR oneB noGo)
open Go.RowKit
set_option linter.constructorNameAsVariable false
set_option linter.unusedSimpArgs false
set_option linter.unusedVariables false
def Lst (listed : Array Bool) (i : Nat) : Prop := listed.getD i false = true
theorem lst_set {listed : Array Bool} {i j : Nat} : Lst (listed.setIfInBounds i true) j ↔ Lst listed j ∨ (j = i ∧ i < listed.size) := by
  unfold Lst
  simp only [Array.getD_eq_getD_getElem?, Array.getElem?_setIfInBounds]
  by_cases h : i = j
  · subst h
    by_cases hi : i < listed.size
    · simp [hi]
    · simp [hi]
  · simp [h, Ne.symm h]
theorem unl {listed : Array Bool} {i : Nat} : listed.getD i true = false ↔ i < listed.size ∧ ¬ Lst listed i := by
  unfold Lst
  simp only [Array.getD_eq_getD_getElem?]
  by_cases hi : i < listed.size
  · simp [hi]
  · simp [hi]
section
variable (P : Program) (r : Option Pos) (N : Nat) (ops : Array Oper) (tz : T AV) (hz : H) (nz : Pos) (m0 : Mp) (h0 : H) (nx0 : Pos) (w0 : World) (df : List Deferred) (ro : Option Nat)
structure Sim (listed : Array Bool) (late : List Lt) (rest : List En) (ps : List Pd) (t : T AV) (h : H) (nx : Pos) (tA : T AV) (m : Mp) (a : Act) (w : World) : Prop where
  size : listed.size = ops.size
  clo : Closed ops (Lst listed)
  un : ∀ e ∈ late.map (·.e) ++ rest, ¬ Lst listed e.i
  cov : ∀ i, i < ops.size → ¬ Lst listed i → ∃ e ∈ late.map (·.e) ++ rest, e.i = i
  ent : ∀ e ∈ late.map (·.e) ++ rest, EntOK ops e
  dn : ∀ e ∈ late.map (·.e) ++ rest, ∀ j, bit e.m j = true → j < ops.size ∧ j ≠ e.i
  pw : (late.map (·.e) ++ rest).Pairwise Rel
  tr : Tr P r N ops.toList rest ps t h nx tz hz nz
  M : Mem m h nx w
  T0 : TR m N tA a.tmps
  dfs : a.defers = df
  R : RR m r ro
  lt : ∀ l ∈ late, LtOK P N ops.toList nx0 ps h nx m l
  ids : late.Pairwise fun x y => ∀ id, x.id? = some id → y.id? ≠ some id
  vals : LOK (fun d => T.get und tA (posN (d + 1))) late t
  ext : Ext m0 h0 nx0 w0 m h nx0 w
  nle : nx0.toN ≤ nx.toN
end
section
variable {P : Program} {r : Option Pos} {N : Nat} {ops : Array Oper} {tz : T AV} {hz : H} {nz : Pos} {m0 : Mp} {h0 : H} {nx0 : Pos} {w0 : World} {df : List Deferred} {ro : Option Nat}
  {listed : Array Bool} {late : List Lt} {rest : List En} {ps : List Pd} {t : T AV} {h : H} {nx : Pos} {tA : T AV} {m : Mp} {a : Act} {w : World}
theorem Sim.free (S : Sim P r N ops tz hz nz m0 h0 nx0 w0 df ro listed late rest ps t h nx tA m a w) {e : En} (he : EntOK ops e) (hr : e.i ∈ Region.ready .any ops listed) {f : En} (hf : f ∈ late.map (·.e) ++ rest) (hne : f.i ≠ e.i) : bit e.m f.i = false := by
  cases hb : bit e.m f.i with
  | false => rfl
  | true =>
    exfalso
    obtain ⟨h1, o, ho, hall⟩ := mem_ready.1 hr
    have hcl : Closed ops (fun j => Lst listed j ∨ j = e.i) := fun i o' hi ho' ed hed hbd => by
      rcases hi with hi | rfl
      · exact .inl (S.clo i o' hi ho' ed hed hbd)
      · rw [ho] at ho'; cases ho'
        exact .inl (hall ed (by simpa using hed) (by rw [← bindsA_eq]; exact hbd))
    rcases he.mask _ hcl (.inr rfl) f.i hb with h2 | h2
    · exact S.un f hf h2
    · exact hne h2
theorem Tr.head {e : En} {l : List En} (hT : Tr P r N ops.toList (e :: l) ps t h nx tz hz nz) (hx : e.x = false) (S : Sim P r N ops tz hz nz m0 h0 nx0 w0 df ro listed late (e :: l) ps t h nx tA m a w) :
    ∃ (l' : Lt) (ps' : List Pd) (t' : T AV) (h' : H) (nx' : Pos), l'.e = e ∧ Sim P r N ops tz hz nz m0 h0 nx0 w0 df ro listed (late ++ [l']) l ps' t' h' nx' tA m a w := by
  have hmap : ∀ l' : Lt, l'.e = e → (late ++ [l']).map (·.e) ++ l = late.map (·.e) ++ e :: l := fun l' hl' => by simp [hl']
  have build : ∀ (l' : Lt) (ps' : List Pd) (h' : H) (nx' : Pos), l'.e = e → l'.tt = t → Tr P r N ops.toList l ps' (pt e.o.dst l'.v t) h' nx' tz hz nz → Mem m h' nx' w → (∀ x ∈ late ++ [l'], LtOK P N ops.toList nx0 ps' h' nx' m x) →
      (∀ x ∈ late, ∀ id, x.id? = some id → l'.id? ≠ some id) → Ext m0 h0 nx0 w0 m h' nx0 w → nx0.toN ≤ nx'.toN →
      ∃ (l' : Lt) (ps' : List Pd) (t' : T AV) (h' : H) (nx' : Pos), l'.e = e ∧ Sim P r N ops tz hz nz m0 h0 nx0 w0 df ro listed (late ++ [l']) l ps' t' h' nx' tA m a w := fun l' ps' h' nx' h1 ht h2 h3 h4 h5 h6 h7 => by
    refine ⟨l', ps', _, h', nx', h1, ⟨S.size, S.clo, ?_, ?_, ?_, ?_, ?_, h2, h3, S.T0, S.dfs, S.R, h4, ?_, ?_, h6, h7⟩⟩
    · rw [hmap l' h1]; exact S.un
    · rw [hmap l' h1]; exact S.cov
    · rw [hmap l' h1]; exact S.ent
    · rw [hmap l' h1]; exact S.dn
    · rw [hmap l' h1]; exact S.pw
    · rw [List.pairwise_append]
      exact ⟨S.ids, List.pairwise_singleton .., fun x hx y hy => by rw [List.mem_singleton] at hy; subst hy; exact h5 x hx⟩
    · have := LOK.snoc (e := e) (v := l'.v) (kd := l'.kd) S.vals
      have e1 : (⟨e, t, l'.v, l'.kd⟩ : Lt) = l' := by cases l'; simp only at h1 ht; subst h1 ht; rfl
      rw [e1] at this
      exact this
  have snoc : ∀ {l' : Lt} {p : Lt → Prop}, (∀ x ∈ late, p x) → p l' → ∀ x ∈ late ++ [l'], p x := fun h1 h2 x hx => by
    rcases List.mem_append.1 hx with hx | hx
    · exact h1 x hx
    · rw [List.mem_singleton] at hx; subst hx; exact h2
  have noid : ∀ (l' : Lt), l'.id? = none → ∀ x ∈ late, ∀ id, x.id? = some id → l'.id? ≠ some id := fun l' hl x _ id _ => by rw [hl]; simp
  cases hT with
  | no hw hd next => exact build ⟨e, t, und, .no⟩ ps h nx rfl rfl next S.M (snoc S.lt ⟨hd, hw, rfl⟩) (noid _ rfl) S.ext S.nle
  | p v hx hw hd hdf hS next => exact build ⟨e, t, v, .p⟩ ps h nx rfl rfl next S.M (snoc S.lt ⟨hd, hw, hdf, hS⟩) (noid _ rfl) S.ext S.nle
  | r v hx hw hd hdf hS next =>
    refine build ⟨e, t, v, .r⟩ _ h nx rfl rfl next S.M (snoc (fun x hx => ?_) ⟨hd, hw, hdf, hS, List.mem_cons_self ..⟩) (noid _ rfl) S.ext S.nle
    obtain ⟨h1, h2⟩ := S.lt x hx
    refine ⟨h1, ?_⟩
    cases hk : x.kd with
    | no => rw [hk] at h2; exact h2
    | p => rw [hk] at h2; exact h2
    | r => rw [hk] at h2; exact ⟨h2.1, h2.2.1, h2.2.2.1, List.mem_cons_of_mem _ h2.2.2.2⟩
    | a id ob => rw [hk] at h2; exact h2
  | a v ob hx hw hd hdf hdead hS next =>
    obtain ⟨M', E'⟩ := S.M.virt S.nle ob
    refine build ⟨e, t, v, .a nx ob⟩ ps (hs h nx ob) (suc nx) rfl rfl next M' (snoc (fun x hx => ?_) ⟨hd, hw, hdf, hS, S.M.ids, by rw [hg_hs, if_pos rfl], by rw [suc_toN]; omega, S.nle⟩) (fun x hx id hid c => ?_) (S.ext.trans E') (by rw [suc_toN]; have := S.nle; omega)
    · obtain ⟨h1, h2⟩ := S.lt x hx
      refine ⟨h1, ?_⟩
      cases hk : x.kd with
      | no => rw [hk] at h2; exact h2
      | p => rw [hk] at h2; exact h2
      | r => rw [hk] at h2; exact ⟨h2.1, h2.2.1, h2.2.2.1.virt hdead ob, h2.2.2.2⟩
      | a id ob' =>
        rw [hk] at h2
        obtain ⟨g1, g2, g3, g4, g5, g6, g7⟩ := h2
        exact ⟨g1, g2, g3, g4, by rw [hg_hs_ne (fun c => by subst c; omega)]; exact g5, by rw [suc_toN]; omega, g7⟩
    · have hnx : nx = id := by simpa [Lt.id?] using c
      subst hnx
      obtain ⟨_, h2⟩ := S.lt x hx
      unfold Lt.id? at hid
      cases hk : x.kd with
      | a id ob' =>
        rw [hk] at h2 hid
        cases hid
        have := h2.2.2.2.2.2.1
        omega
      | _ => rw [hk] at hid; cases hid
  | x v hx2 _ _ _ _ _ => rw [hx] at hx2; cases hx2
theorem Sim.step (S : Sim P r N ops tz hz nz m0 h0 nx0 w0 df ro listed late rest ps t h nx tA m a w) {e : En} {late' : List Lt} {rest' : List En} {ps' : List Pd} {t' : T AV} {h' : H} {nx' : Pos} {tA' : T AV} {m' : Mp} {a' : Act} {w' : World}
    (hr : e.i ∈ Region.ready .any ops listed) (heq : ∃ p q, late.map (·.e) ++ rest = p ++ e :: q ∧ late'.map (·.e) ++ rest' = p ++ q)
    (tr : Tr P r N ops.toList rest' ps' t' h' nx' tz hz nz) (M : Mem m' h' nx' w') (T0 : TR m' N tA' a'.tmps) (dfs : a'.defers = df) (R : RR m' r ro) (lt : ∀ l ∈ late', LtOK P N ops.toList nx0 ps' h' nx' m' l)
    (ids : late'.Pairwise fun x y => ∀ id, x.id? = some id → y.id? ≠ some id) (vals : LOK (fun d => T.get und tA' (posN (d + 1))) late' t') (ext : Ext m0 h0 nx0 w0 m' h' nx0 w') (nle : nx0.toN ≤ nx'.toN) :
    Sim P r N ops tz hz nz m0 h0 nx0 w0 df ro (listed.setIfInBounds e.i true) late' rest' ps' t' h' nx' tA' m' a' w' := by
  obtain ⟨p, q, e1, e2⟩ := heq
  obtain ⟨h1, o, ho, hall⟩ := mem_ready.1 hr
  have hi : e.i < listed.size := (unl.1 h1).1
  have hpw := S.pw
  rw [e1] at hpw
  have hne : ∀ f ∈ p ++ q, f.i ≠ e.i := fun f hf => by
    rw [List.pairwise_append] at hpw
    obtain ⟨_, h2, h3⟩ := hpw
    rcases List.mem_append.1 hf with hf | hf
    · exact (h3 f hf e (List.mem_cons_self ..)).1
    · exact ((List.pairwise_cons.1 h2).1 f hf).1.symm
  have sub : ∀ f ∈ p ++ q, f ∈ late.map (·.e) ++ rest := fun f hf => by
    rw [e1]
    rcases List.mem_append.1 hf with hf | hf
    · exact List.mem_append_left _ hf
    · exact List.mem_append_right _ (List.mem_cons_of_mem _ hf)
  refine ⟨by simp [S.size], fun i o' hi' ho' ed hed hbd => ?_, fun f hf => ?_, fun i hi' hn => ?_, fun f hf => S.ent f (sub f (e2 ▸ hf)), fun f hf => S.dn f (sub f (e2 ▸ hf)), ?_, tr, M, T0, dfs, R, lt, ids, vals, ext, nle⟩
  · rcases lst_set.1 hi' with h2 | ⟨rfl, _⟩
    · exact lst_set.2 (.inl (S.clo i o' h2 ho' ed hed hbd))
    · rw [ho] at ho'; cases ho'
      exact lst_set.2 (.inl (hall ed (by simpa using hed) (by rw [← bindsA_eq]; exact hbd)))
  · rw [e2] at hf
    intro hl
    rcases lst_set.1 hl with h2 | ⟨h2, _⟩
    · exact S.un f (sub f hf) h2
    · exact hne f hf h2
  · have hn1 : ¬ Lst listed i := fun c => hn (lst_set.2 (.inl c))
    have hn2 : i ≠ e.i := fun c => hn (lst_set.2 (.inr ⟨c, hi⟩))
    obtain ⟨f, hf, hfi⟩ := S.cov i hi' hn1
    rw [e1] at hf
    refine ⟨f, ?_, hfi⟩
    rw [e2]
    rcases List.mem_append.1 hf with hf | hf
    · exact List.mem_append_left _ hf
    · rcases List.mem_cons.1 hf with rfl | hf
      · exact absurd hfi.symm hn2
      · exact List.mem_append_right _ hf
  · rw [e2]
    rw [List.pairwise_append] at hpw ⊢
    obtain ⟨h1, h2, h3⟩ := hpw
    exact ⟨h1, (List.pairwise_cons.1 h2).2, fun x hx y hy => h3 x hx y (List.mem_cons_of_mem _ hy)⟩
theorem pt_fun (tA : T AV) (d : Option Nat) (v : AV) : (fun i => if d = some i then v else T.get und tA (posN (i + 1))) = fun i => T.get und (pt d v tA) (posN (i + 1)) := by
  funext i; rw [pt_get]
theorem Sim.noclash (S : Sim P r N ops tz hz nz m0 h0 nx0 w0 df ro listed late rest ps t h nx tA m a w) {e : En} {p q : List En} (heq : late.map (·.e) ++ rest = p ++ e :: q) (hr : e.i ∈ Region.ready .any ops listed) {f : En} (hf : f ∈ p) : f.x = false ∧ clash f e = false := by
  have hpw := S.pw
  rw [heq, List.pairwise_append] at hpw
  have hrel := hpw.2.2 f hf e (List.mem_cons_self ..)
  have he : e ∈ late.map (·.e) ++ rest := by rw [heq]; simp
  have hf' : f ∈ late.map (·.e) ++ rest := by rw [heq]; simp [hf]
  rcases hrel.2.2 with h1 | h1
  · rw [S.free (S.ent e he) hr hf' hrel.1] at h1; cases h1
  · exact h1
theorem Sim.lateOp {pre post : List Lt} {l : Lt} {Q : Exit → Act → World → Prop} {K : Act → World → Prop} (hN : N ≤ 1000) (S : Sim P r N ops tz hz nz m0 h0 nx0 w0 df ro listed (pre ++ l :: post) rest ps t h nx tA m a w) (hr : l.e.i ∈ Region.ready .any ops listed)
    (hK : ∀ tA' m' a' w', Sim P r N ops tz hz nz m0 h0 nx0 w0 df ro (listed.setIfInBounds l.e.i true) (pre ++ post) rest ps t h nx tA' m' a' w' → K a' w') : wpOpIn (FR ro) 0 P ops Q l.e.i K a w := by
  have heq : (pre ++ l :: post).map (·.e) ++ rest = pre.map (·.e) ++ l.e :: (post.map (·.e) ++ rest) := by simp
  have heq2 : (pre ++ post).map (·.e) ++ rest = pre.map (·.e) ++ (post.map (·.e) ++ rest) := by simp
  have hel : l.e ∈ (pre ++ l :: post).map (·.e) ++ rest := by rw [heq]; simp
  have hE := S.ent l.e hel
  have hnc : ∀ l' ∈ pre, clash l'.e l.e = false := fun l' hl' => (S.noclash heq hr (List.mem_map.2 ⟨l', hl', rfl⟩)).2
  obtain ⟨hv1, hv2⟩ := LOK.take S.vals hnc
  have TM : TR m N (mkd l.tt l.e) a.tmps := S.T0.msk hN hv1
  obtain ⟨hd, hl⟩ := S.lt l (by simp)
  have hsub : ∀ x ∈ pre ++ post, x ∈ pre ++ l :: post := fun x hx => by
    rcases List.mem_append.1 hx with hx | hx
    · exact List.mem_append_left _ hx
    · exact List.mem_append_right _ (List.mem_cons_of_mem _ hx)
  have hids : (pre ++ post).Pairwise fun x y => ∀ id, x.id? = some id → y.id? ≠ some id := by
    have := S.ids
    rw [List.pairwise_append] at this ⊢
    obtain ⟨h1, h2, h3⟩ := this
    exact ⟨h1, (List.pairwise_cons.1 h2).2, fun x hx y hy => h3 x hx y (List.mem_cons_of_mem _ hy)⟩
  have go : ∀ (m' : Mp) (cv : Value) (w' : World), Mem m' h nx w' → m.le m' → VR m' l.v cv → Ext m h nx0 w m' h nx0 w' → (∀ x ∈ pre ++ post, LtOK P N ops.toList nx0 ps h nx m' x) → K (a.put l.e.o.dst cv) w' := fun m' cv w' M' hle hv E' hlt => by
    refine hK (pt l.e.o.dst l.v tA) m' _ w' (S.step hr ⟨_, _, heq, heq2⟩ S.tr M' ((S.T0.mono hle).put hd hv) ((put_defers _ _ _).trans S.dfs) (S.R.mono hle) hlt hids ?_ (S.ext.trans E') S.nle)
    rw [← pt_fun]
    exact hv2
  have hwt : ∀ b, wt ops.toList l.e.o.guard l.tt = some b → Region.wanted l.e.o (yielded ops a.tmps) = b := fun b hb => wt_ok (by rw [wt_mkd hE]; exact hb) TM
  unfold wpOpIn
  rw [hE.get]
  cases hk : l.kd with
  | no =>
    rw [hk] at hl
    obtain ⟨h1, h2⟩ := hl
    simp only [hwt _ h1, Bool.false_eq_true, if_false]
    exact ⟨fun _ _ => trivial, go m undef w S.M (.refl m) (by rw [h2]; exact und_ok m) (.refl m h nx0 w) fun x hx => S.lt x (hsub x hx)⟩
  | p =>
    rw [hk] at hl
    obtain ⟨h1, h2, h3⟩ := hl
    simp only [hwt _ h1, if_true]
    obtain ⟨cv, h4, h5⟩ := h3 m N a TM
    refine ⟨fun _ _ => trivial, ?_⟩
    show l.e.o.uponIn (FR ro) 0 P a K Q ((l.e.o.semAt ro a.eval).run P w)
    rw [semAt_eq ro _ h2, h5 w]
    exact go m cv w S.M (.refl m) h4 (.refl m h nx0 w) fun x hx => S.lt x (hsub x hx)
  | r =>
    rw [hk] at hl
    obtain ⟨h1, h2, h3, _⟩ := hl
    simp only [hwt _ h1, if_true]
    obtain ⟨cv, h4, h5⟩ := h3 m N a nx w S.M TM
    refine ⟨fun _ _ => trivial, ?_⟩
    show l.e.o.uponIn (FR ro) 0 P a K Q ((l.e.o.semAt ro a.eval).run P w)
    rw [semAt_eq ro _ h2, h5]
    exact go m cv w S.M (.refl m) h4 (.refl m h nx0 w) fun x hx => S.lt x (hsub x hx)
  | a id ob =>
    rw [hk] at hl
    obtain ⟨h1, h2, h3, h4, h5, h6, h7⟩ := hl
    simp only [hwt _ h1, if_true]
    obtain ⟨cv, obj, lo, g1, g2, g3, g4, g5⟩ := h3.2 m N a w TM h4
    refine ⟨fun _ _ => trivial, ?_⟩
    show l.e.o.uponIn (FR ro) 0 P a K Q ((l.e.o.semAt ro a.eval).run P w)
    rw [semAt_eq ro _ h2, g3]
    obtain ⟨M', E'⟩ := S.M.real h4 h6 h7 h5 h3.1 g1 g2 g5
    refine go _ cv _ M' (le_upd h4) g4 E' fun x hx => ?_
    obtain ⟨y1, y2⟩ := S.lt x (hsub x hx)
    refine ⟨y1, ?_⟩
    have hidne : ∀ id', x.id? = some id' → id' ≠ id := fun id' hid' c => by
      subst c
      have hlid : l.id? = some id' := by unfold Lt.id?; rw [hk]
      have := S.ids
      rw [List.pairwise_append] at this
      obtain ⟨_, p2, p3⟩ := this
      rcases List.mem_append.1 hx with hx | hx
      · exact p3 x hx l (List.mem_cons_self ..) id' hid' hlid
      · exact (List.pairwise_cons.1 p2).1 x hx id' hlid hid'
    cases hkx : x.kd with
    | no => rw [hkx] at y2; exact y2
    | p => rw [hkx] at y2; exact y2
    | r => rw [hkx] at y2; exact y2
    | a id' ob' =>
      rw [hkx] at y2
      obtain ⟨z1, z2, z3, z4, z5⟩ := y2
      exact ⟨z1, z2, z3, by rw [upd_ne (hidne id' (by unfold Lt.id?; rw [hkx]))]; exact z4, z5⟩
theorem Sim.turn {e : En} {l : List En} {Q : Exit → Act → World → Prop} {K : Act → World → Prop} (hN : N ≤ 1000) (hx : e.x = true) (S : Sim P r N ops tz hz nz m0 h0 nx0 w0 df ro listed late (e :: l) ps t h nx tA m a w) (hr : e.i ∈ Region.ready .any ops listed)
    (hK : ∀ ps' t' h' nx' tA' m' a' w', Sim P r N ops tz hz nz m0 h0 nx0 w0 df ro (listed.setIfInBounds e.i true) late l ps' t' h' nx' tA' m' a' w' → K a' w') : wpOpIn (FR ro) 0 P ops Q e.i K a w := by
  have heq : late.map (·.e) ++ e :: l = late.map (·.e) ++ e :: l := rfl
  have hel : e ∈ late.map (·.e) ++ e :: l := by simp
  have hE := S.ent e hel
  have hnc : ∀ l' ∈ late, clash l'.e e = false := fun l' hl' => (S.noclash heq hr (List.mem_map.2 ⟨l', hl', rfl⟩)).2
  have hfree : ∀ l' ∈ late, bit e.m l'.e.i = false := fun l' hl' => by
    refine S.free hE hr (List.mem_append_left _ (List.mem_map.2 ⟨l', hl', rfl⟩)) ?_
    have hpw := S.pw
    rw [List.pairwise_append] at hpw
    exact (hpw.2.2 l'.e (List.mem_map.2 ⟨l', hl', rfl⟩) e (List.mem_cons_self ..)).1
  have vals : ∀ v, (∀ d ∈ e.ts, T.get und t (posN (d + 1)) = T.get und tA (posN (d + 1))) ∧ LOK (fun d => T.get und (pt e.o.dst v tA) (posN (d + 1))) late (pt e.o.dst v t) := fun v => by
    have := LOK.take (l := ⟨e, t, v, .no⟩) (post := []) (LOK.snoc (e := e) (v := v) (kd := .no) S.vals) hnc
    refine ⟨this.1, ?_⟩
    have h2 := this.2
    rw [List.append_nil] at h2
    rw [← pt_fun]
    exact h2
  have TM : TR m N (mkd t e) a.tmps := S.T0.msk hN (vals und).1
  have hwt : ∀ b, wt ops.toList e.o.guard t = some b → Region.wanted e.o (yielded ops a.tmps) = b := fun b hb => wt_ok (by rw [wt_mkd hE]; exact hb) TM
  unfold wpOpIn
  rw [hE.get]
  cases S.tr with
  | no hw hd next =>
    simp only [hwt _ hw, Bool.false_eq_true, if_false]
    exact ⟨fun _ _ => trivial, hK _ _ _ _ (pt e.o.dst und tA) m _ w (S.step hr ⟨_, _, heq, rfl⟩ next S.M (S.T0.put hd (und_ok m)) ((put_defers _ _ _).trans S.dfs) S.R S.lt S.ids (vals und).2 S.ext S.nle)⟩
  | p v hx2 _ _ _ _ _ => rw [hx] at hx2; cases hx2
  | r v hx2 _ _ _ _ _ => rw [hx] at hx2; cases hx2
  | a v ob hx2 _ _ _ _ _ _ => rw [hx] at hx2; cases hx2
  | x v _ hw hd hS hps next =>
    simp only [hwt _ hw, if_true]
    refine hS m N a w ro K Q S.M TM S.R fun cv m' w' hv M' E' => ?_
    refine hK _ _ _ _ (pt e.o.dst v tA) m' _ w' (S.step hr ⟨_, _, heq, rfl⟩ next M' ((S.T0.mono E'.le).put hd hv) ((put_defers _ _ _).trans S.dfs) (S.R.mono E'.le) (fun x hx => ?_) S.ids (vals v).2 (S.ext.trans (E'.base S.nle)) (Nat.le_trans S.nle E'.nle))
    obtain ⟨y1, y2⟩ := S.lt x hx
    refine ⟨y1, ?_⟩
    cases hkx : x.kd with
    | no => rw [hkx] at y2; exact y2
    | p => rw [hkx] at y2; exact y2
    | r =>
      rw [hkx] at y2
      obtain ⟨z1, z2, z3, z4⟩ := y2
      rcases hps _ z4 with h1 | ⟨h1, h2⟩
      · have := hfree x hx
        have h1' : bit e.m x.e.i = true := h1
        rw [this] at h1'; cases h1'
      · exact ⟨z1, z2, h2, h1⟩
    | a id ob =>
      rw [hkx] at y2
      obtain ⟨z1, z2, z3, z4, z5, z6, z7⟩ := y2
      obtain ⟨v1, v2⟩ := E'.virt id z6 z4
      exact ⟨z1, z2, z3, v1, v2.trans z5, Nat.lt_of_lt_of_le z6 E'.nle, z7⟩
theorem Sim.aside {e : En} {r2 : List En} : ∀ {r1 : List En} {late : List Lt} {ps : List Pd} {t : T AV} {h : H} {nx : Pos}, (∀ f ∈ r1, f.x = false) → Sim P r N ops tz hz nz m0 h0 nx0 w0 df ro listed late (r1 ++ e :: r2) ps t h nx tA m a w →
    ∃ late' ps' t' h' nx', late'.length = late.length + r1.length ∧ Sim P r N ops tz hz nz m0 h0 nx0 w0 df ro listed late' (e :: r2) ps' t' h' nx' tA m a w
  | [], late, ps, t, h, nx, _, S => ⟨late, ps, t, h, nx, rfl, S⟩
  | f :: r1, late, ps, t, h, nx, hx, S => by
    obtain ⟨l', ps', t', h', nx', _, S'⟩ := Tr.head S.tr (hx f (List.mem_cons_self ..)) S
    obtain ⟨late2, ps2, t2, h2, nx2, hlen, S2⟩ := Sim.aside (fun g hg => hx g (List.mem_cons_of_mem _ hg)) S'
    exact ⟨late2, ps2, t2, h2, nx2, by rw [hlen]; simp; omega, S2⟩
theorem sim_any {Q : Exit → Act → World → Prop} (hN : N ≤ 1000) (hQ : ∀ m a w, Mem m hz nz w → TR m N tz a.tmps → a.defers = df → Ext m0 h0 nx0 w0 m hz nz w → Q .normal a w) :
    ∀ (fuel : Nat) {listed : Array Bool} {late : List Lt} {rest : List En} {ps : List Pd} {t : T AV} {h : H} {nx : Pos} {tA : T AV} {m : Mp} {a : Act} {w : World},
    Sim P r N ops tz hz nz m0 h0 nx0 w0 df ro listed late rest ps t h nx tA m a w → late.length + rest.length ≤ fuel → wpAnyIn (FR ro) 0 P .any ops Q fuel listed a w := by
  have done : ∀ {listed : Array Bool} {ps : List Pd} {t : T AV} {h : H} {nx : Pos} {tA : T AV} {m : Mp} {a : Act} {w : World}, Sim P r N ops tz hz nz m0 h0 nx0 w0 df ro listed [] [] ps t h nx tA m a w → Q .normal a w := fun S => by
    have hT := S.tr
    have hv := S.vals
    cases hT with
    | nil => exact hQ _ _ _ S.M ⟨S.T0.size, S.T0.glob, fun i => by rw [hv i]; exact S.T0.get i⟩ S.dfs (S.ext.top S.nle)
  intro fuel
  induction fuel with
  | zero =>
    intro listed late rest ps t h nx tA m a w S hf
    have h1 : late = [] := List.length_eq_zero_iff.1 (by omega)
    have h2 : rest = [] := List.length_eq_zero_iff.1 (by omega)
    subst h1 h2
    refine ⟨?_, done S⟩
    refine List.eq_nil_iff_forall_not_mem.2 fun i hi => ?_
    obtain ⟨g1, g2⟩ := unl.1 (mem_ready.1 hi).1
    obtain ⟨e, he, _⟩ := S.cov i (by rw [← S.size]; exact g1) g2
    cases he
  | succ fuel ih =>
    intro listed late rest ps t h nx tA m a w S hf
    refine ⟨fun hnil => ?_, fun i hi => ?_⟩
    · cases hall : late.map (·.e) ++ rest with
      | nil =>
        obtain ⟨h1, h2⟩ := List.append_eq_nil_iff.1 hall
        have h1' : late = [] := List.map_eq_nil_iff.1 h1
        subst h1' h2
        exact done S
      | cons e es =>
        exfalso
        have he : e ∈ late.map (·.e) ++ rest := by rw [hall]; exact List.mem_cons_self ..
        have hE := S.ent e he
        have hlt : e.i < ops.size := (Array.getElem?_eq_some_iff.1 hE.get).1
        have hready : e.i ∈ Region.ready .any ops listed := by
          refine mem_ready.2 ⟨unl.2 ⟨by rw [S.size]; exact hlt, S.un e he⟩, e.o, hE.get, fun ed hed hb => ?_⟩
          have hbit := hE.edge ed (by simpa using hed) (by rw [bindsA_eq]; exact hb)
          obtain ⟨g1, g2⟩ := S.dn e he _ hbit
          by_cases hl : Lst listed ed.on
          · exact hl
          · exfalso
            obtain ⟨f, hf', hfi⟩ := S.cov _ g1 hl
            rw [hall] at hf'
            rcases List.mem_cons.1 hf' with rfl | hf'
            · exact g2 hfi.symm
            · have hpw := S.pw
              rw [hall] at hpw
              have := ((List.pairwise_cons.1 hpw).1 f hf').2.1
              rw [hfi, hbit] at this; cases this
        rw [hnil] at hready; cases hready
    · obtain ⟨g1, g2⟩ := unl.1 (mem_ready.1 hi).1
      obtain ⟨e, he, rfl⟩ := S.cov i (by rw [← S.size]; exact g1) g2
      rcases List.mem_append.1 he with he | he
      · obtain ⟨l, hl, rfl⟩ := List.mem_map.1 he
        obtain ⟨pre, post, rfl⟩ := List.append_of_mem hl
        refine Sim.lateOp hN S hi fun tA' m' a' w' S' => ih S' ?_
        simp only [List.length_append, List.length_cons] at hf ⊢
        omega
      · obtain ⟨r1, r2, rfl⟩ := List.append_of_mem he
        have hx : ∀ f ∈ r1, f.x = false := fun f hf' => (S.noclash (p := late.map (·.e) ++ r1) (q := r2) (by simp) hi (List.mem_append_right _ hf')).1
        obtain ⟨late', ps', t', h', nx', hlen, S'⟩ := Sim.aside hx S
        simp only [List.length_append, List.length_cons] at hf
        cases hex : e.x with
        | true =>
          refine Sim.turn hN hex S' hi fun ps2 t2 h2 nx2 tA2 m2 a2 w2 S2 => ih S2 ?_
          omega
        | false =>
          obtain ⟨l', ps2, t2, h2, nx2, rfl, S2⟩ := Tr.head S'.tr hex S'
          refine Sim.lateOp (post := []) hN S2 hi fun tA' m' a' w' S3 => ih S3 ?_
          simp only [List.append_nil]
          omega
end
section
variable {P : Program} {g : G} {ih : CallF}
theorem draw_ok (hG : GOK P g) (hU : UOK P g) (hih : CallOK P ih) : DrawOK P g ih := fun r N id ops t h nx k he => by
  have he' : fB (Nat.ble N 1000) (fullK 10 fun f => planK g ops.toList fun l => evDraw g ih N ops.toList f l [] t h nx k) false = true := he
  obtain ⟨h1, h2⟩ := fB_t he'
  have hN := Nat.le_of_ble_eq_true h1
  rw [fullK_eq] at h2
  obtain ⟨L, h3, hP⟩ := planK_inv h2
  obtain ⟨t', h', nx', hk, hT⟩ := evDraw_tr hG hU r hih h3
  refine ⟨t', h', nx', hk, fun m a w ro Q M T0 R K => wpIn_region_any hG.mix ?_⟩
  have hrep : ∀ i, ¬ Lst (Array.replicate ops.size false) i := fun i hi => by
    unfold Lst at hi
    rw [Array.getD_eq_getD_getElem?, Array.getElem?_replicate] at hi
    split at hi <;> simp at hi
  have hS : Sim P r N ops t' h' nx' m h nx w a.defers ro (Array.replicate ops.size false) [] L [] t h nx t m a (drew w) := by
    refine ⟨by simp, fun i o hi => ?_, fun e he hl => ?_, fun i hi _ => ?_, hP.ent, hP.dn, hP.pw, hT, M.dr, T0, rfl, R, fun l hl => (by cases hl), .nil, fun d => rfl, (Ext.refl m h nx (drew w)).dr, Nat.le_refl _⟩
    · exact absurd hi (hrep i)
    · exact hrep _ hl
    · obtain ⟨e, he, hei⟩ := hP.cov i hi
      exact ⟨e, by simpa using he, hei⟩
  refine sim_any hN (fun m2 a2 w2 M2 T2 D2 E2 => K m2 a2 w2 M2 T2 D2 E2) ops.size hS ?_
  have hnd : (L.map (·.i)).Nodup := by
    unfold List.Nodup
    rw [List.pairwise_map]
    exact hP.pw.imp fun h => h.1
  have := nodup_le ops.size (L.map (·.i)) hnd (fun x hx => by
    obtain ⟨e, he, rfl⟩ := List.mem_map.1 hx
    exact (Array.getElem?_eq_some_iff.1 (hP.ent e he).get).1)
  simpa using this
theorem call_ok (hG : GOK P g) (hU : UOK P g) (hX : XOK P) (n : Nat) : CallOK P (callN g n) := callN_ok hG hU hX (fun _ h => draw_ok hG hU h) n
end
end Go.CE
namespace Go.CE
open Go.GV (TI Shp TIok)
set_option linter.constructorNameAsVariable false
noncomputable def tl {α : Type} : T (Option α) → (Nat → Nat) → List (Nat × α) → List (Nat × α)
  | .e, _, acc => acc
  | .n l v r, f, acc => match v with
    | some x => (f 1 - 1, x) :: tl l (fun n => f (2 * n)) (tl r (fun n => f (2 * n + 1)) acc)
    | none => tl l (fun n => f (2 * n)) (tl r (fun n => f (2 * n + 1)) acc)
theorem tl_acc {α : Type} {x : Nat × α} : ∀ {t : T (Option α)} {f : Nat → Nat} {acc : List (Nat × α)}, x ∈ acc → x ∈ tl t f acc
  | .e, _, _, h => h
  | .n l v r, f, acc, h => by
    have h1 := tl_acc (t := l) (f := fun n => f (2 * n)) (tl_acc (t := r) (f := fun n => f (2 * n + 1)) h)
    unfold tl
    cases v with
    | none => exact h1
    | some y => exact List.mem_cons_of_mem _ h1
theorem tl_mem {α : Type} {x : α} : ∀ {t : T (Option α)} {f : Nat → Nat} {acc : List (Nat × α)} {p : Pos}, T.get none t p = some x → (f p.toN - 1, x) ∈ tl t f acc
  | .e, f, acc, p, h => by rw [get_e] at h; cases h
  | .n l v r, f, acc, .h, h => by
    have h' : v = some x := h
    subst h'
    unfold tl
    exact List.mem_cons_self ..
  | .n l v r, f, acc, .o p, h => by
    have h1 := tl_mem (t := l) (f := fun n => f (2 * n)) (acc := tl r (fun n => f (2 * n + 1)) acc) (p := p) h
    unfold tl
    cases v with
    | none => exact h1
    | some y => exact List.mem_cons_of_mem _ h1
  | .n l v r, f, acc, .i p, h => by
    have h1 := tl_acc (t := l) (f := fun n => f (2 * n)) (tl_mem (t := r) (f := fun n => f (2 * n + 1)) (acc := acc) (p := p) h)
    unfold tl
    cases v with
    | none => exact h1
    | some y => exact List.mem_cons_of_mem _ h1
theorem tl_get {α : Type} {t : T (Option α)} {q : Nat → α → Prop} {L : List (Nat × α)} (hL : tl t (fun n => n) [] = L) (h : ∀ x ∈ L, q x.1 x.2) (i : Nat) (x : α) (hg : T.get none t (posN (i + 1)) = some x) : q i x := by
  have := tl_mem (f := fun n => n) (acc := []) hg
  rw [hL] at this
  have := h _ this
  rw [posN_toN (by omega)] at this
  exact this
theorem allC {α : Type} {p : α → Prop} {a : α} {l : List α} (h : p a) (k : ∀ x ∈ l, p x) : ∀ x ∈ a :: l, p x := fun x hx => by
  rcases List.mem_cons.1 hx with rfl | hx
  · exact h
  · exact k x hx
theorem allN {α : Type} {p : α → Prop} : ∀ x ∈ ([] : List α), p x := fun x hx => by cases hx
theorem allB {α : Type} {p : α → Prop} {l : List α} (b : α → Bool) (hb : ∀ x, b x = true → p x) (h : l.all b = true) : ∀ x ∈ l, p x := fun x hx => hb x (List.all_eq_true.1 h x hx)
def mpB (P : Program) (x : Nat × (Nat × Nat)) : Bool := (match P.underlying x.1 with
  | some (.map k e) => k == x.2.1 && e == x.2.2
  | _ => false) && (match P.underlying x.2.1 with
  | some .string => true
  | _ => false)
theorem mpB_ok {P : Program} (x : Nat × (Nat × Nat)) (h : mpB P x = true) : ∀ k e, x.2 = (k, e) → P.underlying x.1 = some (.map k e) ∧ P.underlying k = some .string := fun k e he => by
  obtain ⟨t, k', e'⟩ := x
  simp only [Prod.mk.injEq] at he
  obtain ⟨rfl, rfl⟩ := he
  unfold mpB at h
  rw [Bool.and_eq_true] at h
  obtain ⟨h1, h2⟩ := h
  simp only at h1 h2 ⊢
  refine ⟨?_, ?_⟩
  · split at h1
    · rename_i a b hu
      rw [Bool.and_eq_true] at h1
      have e1 := eq_of_beq h1.1
      have e2 := eq_of_beq h1.2
      subst e1 e2
      exact hu
    · cases h1
  · split at h2
    · assumption
    · cases h2
def ptB (P : Program) (x : Nat × Nat) : Bool := (match P.underlying x.1 with
  | some (.pointer e) => e == x.2
  | _ => false) && (match P.info? x.2 with
  | some i => i.size != 0
  | none => false)
theorem ptB_ok {P : Program} (x : Nat × Nat) (h : ptB P x = true) : P.underlying x.1 = some (.pointer x.2) ∧ ∃ i, P.info? x.2 = some i ∧ i.size ≠ 0 := by
  obtain ⟨t, e⟩ := x
  unfold ptB at h
  rw [Bool.and_eq_true] at h
  obtain ⟨h1, h2⟩ := h
  simp only at h1 h2 ⊢
  refine ⟨?_, ?_⟩
  · split at h1
    · rename_i a hu
      have e1 := eq_of_beq h1
      subst e1
      exact hu
    · cases h1
  · split at h2
    · rename_i i hi
      exact ⟨i, hi, by simpa using h2⟩
    · cases h2
def btB (P : Program) (x : Nat × Nat) : Bool := match P.info? x.1 with
  | some i => i.bytes == x.2
  | none => false
theorem btB_ok {P : Program} (x : Nat × Nat) (h : btB P x = true) : ∃ i, P.info? x.1 = some i ∧ i.bytes = x.2 := by
  unfold btB at h
  split at h
  · rename_i i hi
    exact ⟨i, hi, eq_of_beq h⟩
  · cases h
def cmB (P : Program) (x : Nat × Nat) : Bool := !(P.stoodInHeld x.1) && (!(P.eqGuardType P.depth x.1) && (P.fieldsOf x.1).toList.all (fun f => f.name != "_"))
theorem cmB_ok {P : Program} (x : Nat × Nat) (h : cmB P x = true) : P.stoodInHeld x.1 = false ∧ P.eqGuardType P.depth x.1 = false ∧ (P.fieldsOf x.1).toList.all (fun f => f.name != "_") = true := by
  unfold cmB at h
  rw [Bool.and_eq_true, Bool.and_eq_true] at h
  exact ⟨by simpa using h.1, by simpa using h.2.1, h.2.2⟩
def usB (P : Program) (x : Nat × Nat) : Bool := match P.underlying x.1 with
  | some .unsafePointer => true
  | _ => false
theorem usB_ok {P : Program} (x : Nat × Nat) (h : usB P x = true) : P.underlying x.1 = some .unsafePointer := by
  unfold usB at h
  split at h
  · assumption
  · cases h
theorem xok {P : Program} {f79 f147 : Func} (a1 : P.funcs[79]? = some f79) (a2 : (f79.name == "runtime.NumGoroutine") = false) (a3 : f79.body.isNone = true) (a4 : Extern.findNext f79 = none) (a5 : Extern.find f79 = some Extern.AbiNoEscape.same)
    (b1 : P.funcs[147]? = some f147) (b2 : (f147.name == "runtime.NumGoroutine") = false) (b3 : f147.body.isNone = true) (b4 : Extern.findNext f147 = none) (b5 : Extern.find f147 = some add64Entry) : XOK P := by
  refine ⟨fun x w => ?_, fun a b c w hc => ?_⟩
  · rw [run_callFunc_extern a1 a2 a3 a4 a5]
    rfl
  · rw [run_callFunc_extern b1 b2 b3 b4 b5]
    have := run_add64 (P := P) (a : Int) (b : Int) (c : Int) (Int.natCast_nonneg a) (Int.natCast_nonneg b) (Int.natCast_nonneg c) (by omega) w
    rw [show (Value.int .u64 (Int.ofNat a)) = Value.int .u64 (a : Int) from rfl, show (Value.int .u64 (Int.ofNat b)) = Value.int .u64 (b : Int) from rfl, show (Value.int .u64 (Int.ofNat c)) = Value.int .u64 (c : Int) from rfl, this]
    rfl
end Go.CE
namespace Go.Proofs.YtdcpjaemlfgigaaGreatDoor
open Go Go.CE Go.GV
set_option maxRecDepth 100000
noncomputable def gtyL : List (Nat × TI) := [(1, ti1), (3, ti3), (7, ti7), (15, ti15), (31, ti31), (63, ti63), (127, ti127), (255, ti255), (191, ti191), (95, ti95), (159, ti159), (287, ti287), (47, ti47), (79, ti79), (271, ti271), (207, ti207), (111, ti111), (175, ti175), (303, ti303), (239, ti239), (23, ti23), (39, ti39), (135, ti135), (103, ti103), (167, ti167), (295, ti295), (231, ti231), (151, ti151), (279, ti279), (215, ti215), (119, ti119), (183, ti183), (311, ti311), (247, ti247), (11, ti11), (19, ti19), (35, ti35), (67, ti67), (259, ti259), (195, ti195), (99, ti99), (163, ti163), (291, ti291), (227, ti227), (51, ti51), (83, ti83), (147, ti147), (275, ti275), (211, ti211), (115, ti115), (179, ti179), (307, ti307), (243, ti243), (27, ti27), (75, ti75), (139, ti139), (267, ti267), (203, ti203), (171, ti171), (299, ti299), (235, ti235), (91, ti91), (155, ti155), (283, ti283), (219, ti219), (123, ti123), (187, ti187), (251, ti251), (5, ti5), (9, ti9), (17, ti17), (33, ti33), (65, ti65), (129, ti129), (257, ti257), (193, ti193), (97, ti97), (161, ti161), (289, ti289), (225, ti225), (49, ti49), (81, ti81), (145, ti145), (273, ti273), (209, ti209), (177, ti177), (241, ti241), (25, ti25), (41, ti41), (73, ti73), (137, ti137), (265, ti265), (201, ti201), (105, ti105), (169, ti169), (297, ti297), (233, ti233), (57, ti57), (89, ti89), (281, ti281), (217, ti217), (121, ti121), (185, ti185), (313, ti313), (249, ti249), (13, ti13), (21, ti21), (37, ti37), (69, ti69), (133, ti133), (261, ti261), (197, ti197), (101, ti101), (165, ti165), (293, ti293), (229, ti229), (53, ti53), (85, ti85), (149, ti149), (277, ti277), (213, ti213), (117, ti117), (309, ti309), (245, ti245), (29, ti29), (45, ti45), (77, ti77), (141, ti141), (269, ti269), (205, ti205), (109, ti109), (173, ti173), (301, ti301), (237, ti237), (61, ti61), (157, ti157), (285, ti285), (221, ti221), (125, ti125), (189, ti189), (253, ti253), (2, ti2), (4, ti4), (8, ti8), (16, ti16), (32, ti32), (64, ti64), (128, ti128), (256, ti256), (192, ti192), (96, ti96), (160, ti160), (288, ti288), (224, ti224), (48, ti48), (80, ti80), (144, ti144), (272, ti272), (208, ti208), (112, ti112), (176, ti176), (240, ti240), (24, ti24), (40, ti40), (72, ti72), (136, ti136), (264, ti264), (200, ti200), (104, ti104), (168, ti168), (296, ti296), (232, ti232), (56, ti56), (88, ti88), (152, ti152), (280, ti280), (216, ti216), (120, ti120), (184, ti184), (312, ti312), (248, ti248), (12, ti12), (20, ti20), (36, ti36), (68, ti68), (132, ti132), (196, ti196), (100, ti100), (164, ti164), (292, ti292), (228, ti228), (52, ti52), (84, ti84), (148, ti148), (276, ti276), (116, ti116), (180, ti180), (308, ti308), (244, ti244), (28, ti28), (76, ti76), (140, ti140), (268, ti268), (204, ti204), (108, ti108), (172, ti172), (300, ti300), (236, ti236), (60, ti60), (92, ti92), (156, ti156), (284, ti284), (124, ti124), (188, ti188), (252, ti252), (6, ti6), (10, ti10), (18, ti18), (34, ti34), (66, ti66), (130, ti130), (258, ti258), (194, ti194), (98, ti98), (162, ti162), (226, ti226), (50, ti50), (82, ti82), (146, ti146), (274, ti274), (210, ti210), (114, ti114), (178, ti178), (242, ti242), (26, ti26), (42, ti42), (74, ti74), (138, ti138), (266, ti266), (202, ti202), (106, ti106), (170, ti170), (298, ti298), (58, ti58), (90, ti90), (154, ti154), (282, ti282), (218, ti218), (122, ti122), (186, ti186), (250, ti250), (14, ti14), (22, ti22), (38, ti38), (70, ti70), (134, ti134), (262, ti262), (198, ti198), (102, ti102), (166, ti166), (294, ti294), (230, ti230), (54, ti54), (86, ti86), (150, ti150), (214, ti214), (118, ti118), (182, ti182), (310, ti310), (246, ti246), (46, ti46), (142, ti142), (270, ti270), (206, ti206), (110, ti110), (174, ti174), (302, ti302), (238, ti238), (62, ti62), (94, ti94), (158, ti158), (286, ti286), (222, ti222), (126, ti126), (190, ti190)]
theorem gty_l : tl gty (fun n => n) [] = gtyL := by kernel_rfl
noncomputable def gmpL : List (Nat × (Nat × Nat)) := [(39, (9, 35)), (40, (9, 3)), (178, (9, 204))]
theorem gmp_l : tl gmp (fun n => n) [] = gmpL := by kernel_rfl
noncomputable def gptL : List (Nat × Nat) := [(15, 303), (47, 68), (175, 241), (115, 35), (17, 313), (65, 42), (273, 272), (201, 180), (169, 174), (121, 70), (133, 5), (229, 195), (109, 63), (285, 246), (125, 123), (80, 82), (204, 208), (284, 244), (202, 177), (270, 227)]
theorem gpt_l : tl gpt (fun n => n) [] = gptL := by kernel_rfl
noncomputable def gbtL : List (Nat × Nat) := [(1, 8), (3, 8), (7, 24), (15, 8), (31, 8), (63, 48), (127, 8), (255, 8), (191, 40), (95, 24), (159, 8), (287, 8), (47, 8), (79, 8), (271, 32), (207, 136), (111, 8), (175, 8), (303, 40), (239, 8), (23, 32), (39, 8), (135, 8), (103, 48), (167, 8), (295, 8), (231, 8), (151, 8), (279, 8), (215, 8), (119, 8), (183, 8), (311, 4), (247, 72), (11, 16), (19, 8), (35, 80), (67, 56), (259, 8), (195, 40), (99, 8), (163, 8), (291, 8), (227, 48), (51, 56), (83, 16), (147, 8), (275, 8), (211, 48), (115, 8), (179, 24), (307, 1), (243, 112), (27, 8), (75, 8), (139, 32), (267, 8), (203, 8), (171, 16), (299, 8), (235, 8), (91, 8), (155, 8), (283, 24), (219, 24), (123, 3), (187, 24), (251, 8), (5, 1), (9, 16), (17, 8), (33, 24), (65, 8), (129, 8), (257, 8), (193, 8), (97, 8), (161, 8), (289, 8), (225, 24), (49, 24), (81, 32), (145, 8), (273, 8), (209, 24), (177, 64), (241, 24), (25, 8), (41, 104), (73, 8), (137, 8), (265, 8), (201, 8), (105, 8), (169, 8), (297, 8), (233, 8), (57, 24), (89, 8), (281, 8), (217, 8), (121, 8), (185, 32), (313, 48), (249, 8), (13, 24), (21, 4), (37, 8), (69, 24), (133, 8), (261, 8), (197, 8), (101, 24), (165, 8), (293, 432), (229, 8), (53, 8), (85, 8), (149, 8), (277, 4), (213, 8), (117, 8), (309, 8), (245, 48), (29, 24), (45, 8), (77, 24), (141, 8), (269, 8), (205, 8), (109, 8), (173, 40), (301, 8), (237, 8), (61, 8), (157, 8), (285, 8), (221, 8), (125, 8), (189, 16), (253, 24), (2, 8), (4, 1), (8, 24), (16, 8), (32, 8), (64, 8), (128, 8), (256, 8), (192, 8), (96, 24), (160, 8), (288, 8), (224, 8), (48, 8), (80, 8), (144, 8), (272, 32), (208, 136), (112, 8), (176, 64), (240, 24), (24, 24), (40, 8), (72, 8), (136, 8), (264, 8), (200, 8), (104, 8), (168, 8), (296, 8), (232, 8), (56, 8), (88, 8), (152, 8), (280, 8), (216, 8), (120, 8), (184, 32), (312, 48), (248, 72), (12, 8), (20, 16), (36, 24), (68, 56), (132, 8), (196, 8), (100, 24), (164, 8), (292, 24), (228, 8), (52, 8), (84, 16), (148, 8), (276, 8), (116, 8), (180, 24), (308, 1), (244, 112), (28, 8), (76, 8), (140, 32), (268, 8), (204, 8), (108, 8), (172, 16), (300, 8), (236, 8), (60, 8), (92, 24), (156, 8), (284, 8), (124, 8), (188, 16), (252, 8), (6, 1), (10, 16), (18, 8), (34, 80), (66, 24), (130, 24), (258, 8), (194, 40), (98, 8), (162, 8), (226, 48), (50, 56), (82, 32), (146, 8), (274, 8), (210, 48), (114, 8), (178, 8), (242, 24), (26, 8), (42, 104), (74, 8), (138, 8), (266, 8), (202, 8), (106, 8), (170, 24), (298, 8), (58, 8), (90, 8), (154, 8), (282, 8), (218, 24), (122, 3), (186, 8), (250, 8), (14, 24), (22, 32), (38, 24), (70, 24), (134, 8), (262, 8), (198, 8), (102, 48), (166, 8), (294, 8), (230, 8), (54, 24), (86, 8), (150, 8), (214, 8), (118, 8), (182, 8), (310, 4), (246, 48), (46, 8), (142, 8), (270, 8), (206, 24), (110, 8), (174, 40), (302, 40), (238, 24), (62, 48), (94, 8), (158, 8), (286, 8), (222, 8), (126, 8), (190, 40)]
theorem gbt_l : tl gbt (fun n => n) [] = gbtL := by kernel_rfl
noncomputable def gcmL : List (Nat × Nat) := [(172, 0)]
theorem gcm_l : tl gcm (fun n => n) [] = gcmL := by kernel_rfl
noncomputable def gusL : List (Nat × Nat) := [(159, 0)]
theorem gus_l : tl gus (fun n => n) [] = gusL := by kernel_rfl
noncomputable def gfnL : List (Nat × Func) := [(3, Tryz.f3), (7, Tryz.f7), (15, Tryz.f15), (31, Tryz.f31), (63, Tryz.f63), (127, Tryz.f127), (95, Tryz.f95), (159, Tryz.f159), (47, Tryz.f47), (79, Tryz.f79), (143, Tryz.f143), (111, Tryz.f111), (175, Tryz.f175), (23, Tryz.f23), (39, Tryz.f39), (71, Tryz.f71), (135, Tryz.f135), (103, Tryz.f103), (167, Tryz.f167), (55, Tryz.f55), (87, Tryz.f87), (151, Tryz.f151), (119, Tryz.f119), (11, Tryz.f11), (19, Tryz.f19), (35, Tryz.f35), (67, Tryz.f67), (131, Tryz.f131), (99, Tryz.f99), (163, Tryz.f163), (51, Tryz.f51), (83, Tryz.f83), (147, Tryz.f147), (115, Tryz.f115), (27, Tryz.f27), (43, Tryz.f43), (75, Tryz.f75), (139, Tryz.f139), (107, Tryz.f107), (171, Tryz.f171), (59, Tryz.f59), (91, Tryz.f91), (155, Tryz.f155), (123, Tryz.f123), (5, Tryz.f5), (9, Tryz.f9), (17, Tryz.f17), (33, Tryz.f33), (65, Tryz.f65), (129, Tryz.f129), (97, Tryz.f97), (161, Tryz.f161), (49, Tryz.f49), (81, Tryz.f81), (145, Tryz.f145), (113, Tryz.f113), (25, Tryz.f25), (41, Tryz.f41), (73, Tryz.f73), (137, Tryz.f137), (105, Tryz.f105), (169, Tryz.f169), (57, Tryz.f57), (89, Tryz.f89), (153, Tryz.f153), (121, Tryz.f121), (13, Tryz.f13), (21, Tryz.f21), (37, Tryz.f37), (69, Tryz.f69), (133, Tryz.f133), (101, Tryz.f101), (165, Tryz.f165), (53, Tryz.f53), (85, Tryz.f85), (149, Tryz.f149), (117, Tryz.f117), (29, Tryz.f29), (45, Tryz.f45), (77, Tryz.f77), (141, Tryz.f141), (109, Tryz.f109), (173, Tryz.f173), (61, Tryz.f61), (93, Tryz.f93), (157, Tryz.f157), (125, Tryz.f125), (4, Tryz.f4), (8, Tryz.f8), (16, Tryz.f16), (32, Tryz.f32), (64, Tryz.f64), (128, Tryz.f128), (96, Tryz.f96), (160, Tryz.f160), (48, Tryz.f48), (80, Tryz.f80), (144, Tryz.f144), (112, Tryz.f112), (24, Tryz.f24), (40, Tryz.f40), (72, Tryz.f72), (136, Tryz.f136), (104, Tryz.f104), (168, Tryz.f168), (56, Tryz.f56), (88, Tryz.f88), (152, Tryz.f152), (120, Tryz.f120), (12, Tryz.f12), (20, Tryz.f20), (36, Tryz.f36), (68, Tryz.f68), (132, Tryz.f132), (100, Tryz.f100), (164, Tryz.f164), (52, Tryz.f52), (84, Tryz.f84), (148, Tryz.f148), (116, Tryz.f116), (28, Tryz.f28), (44, Tryz.f44), (76, Tryz.f76), (140, Tryz.f140), (108, Tryz.f108), (172, Tryz.f172), (60, Tryz.f60), (92, Tryz.f92), (156, Tryz.f156), (124, Tryz.f124), (6, Tryz.f6), (10, Tryz.f10), (18, Tryz.f18), (34, Tryz.f34), (66, Tryz.f66), (130, Tryz.f130), (98, Tryz.f98), (162, Tryz.f162), (50, Tryz.f50), (82, Tryz.f82), (146, Tryz.f146), (114, Tryz.f114), (26, Tryz.f26), (42, Tryz.f42), (74, Tryz.f74), (138, Tryz.f138), (106, Tryz.f106), (170, Tryz.f170), (58, Tryz.f58), (90, Tryz.f90), (154, Tryz.f154), (122, Tryz.f122), (14, Tryz.f14), (22, Tryz.f22), (38, Tryz.f38), (70, Tryz.f70), (134, Tryz.f134), (102, Tryz.f102), (166, Tryz.f166), (54, Tryz.f54), (86, Tryz.f86), (150, Tryz.f150), (118, Tryz.f118), (30, Tryz.f30), (46, Tryz.f46), (78, Tryz.f78), (142, Tryz.f142), (110, Tryz.f110), (174, Tryz.f174), (62, Tryz.f62), (94, Tryz.f94), (158, Tryz.f158), (126, Tryz.f126)]
theorem gfn_l : tl gfn (fun n => n) [] = gfnL := by kernel_rfl
def PT (x : Nat × TI) : Prop := TIok Tryz.prog x.1 x.2
def PF (x : Nat × Func) : Prop := Tryz.prog.funcs[x.1]? = some x.2 ∧ (x.2.name == "runtime.NumGoroutine") = false
theorem gty_a7 : ∀ x ∈ [(158, ti158), (286, ti286), (222, ti222), (126, ti126), (190, ti190)], PT x := (allC (p := PT) (show PT (158, ti158) from tiok158) (allC (p := PT) (show PT (286, ti286) from tiok286) (allC (p := PT) (show PT (222, ti222) from tiok222) (allC (p := PT) (show PT (126, ti126) from tiok126) (allC (p := PT) (show PT (190, ti190) from tiok190) allN)))))
theorem gty_a6 : ∀ x ∈ [(106, ti106), (170, ti170), (298, ti298), (58, ti58), (90, ti90), (154, ti154), (282, ti282), (218, ti218), (122, ti122), (186, ti186), (250, ti250), (14, ti14), (22, ti22), (38, ti38), (70, ti70), (134, ti134), (262, ti262), (198, ti198), (102, ti102), (166, ti166), (294, ti294), (230, ti230), (54, ti54), (86, ti86), (150, ti150), (214, ti214), (118, ti118), (182, ti182), (310, ti310), (246, ti246), (46, ti46), (142, ti142), (270, ti270), (206, ti206), (110, ti110), (174, ti174), (302, ti302), (238, ti238), (62, ti62), (94, ti94), (158, ti158), (286, ti286), (222, ti222), (126, ti126), (190, ti190)], PT x := (allC (p := PT) (show PT (106, ti106) from tiok106) (allC (p := PT) (show PT (170, ti170) from tiok170) (allC (p := PT) (show PT (298, ti298) from tiok298) (allC (p := PT) (show PT (58, ti58) from tiok58) (allC (p := PT) (show PT (90, ti90) from tiok90) (allC (p := PT) (show PT (154, ti154) from tiok154) (allC (p := PT) (show PT (282, ti282) from tiok282) (allC (p := PT) (show PT (218, ti218) from tiok218) (allC (p := PT) (show PT (122, ti122) from tiok122) (allC (p := PT) (show PT (186, ti186) from tiok186) (allC (p := PT) (show PT (250, ti250) from tiok250) (allC (p := PT) (show PT (14, ti14) from tiok14) (allC (p := PT) (show PT (22, ti22) from tiok22) (allC (p := PT) (show PT (38, ti38) from tiok38) (allC (p := PT) (show PT (70, ti70) from tiok70) (allC (p := PT) (show PT (134, ti134) from tiok134) (allC (p := PT) (show PT (262, ti262) from tiok262) (allC (p := PT) (show PT (198, ti198) from tiok198) (allC (p := PT) (show PT (102, ti102) from tiok102) (allC (p := PT) (show PT (166, ti166) from tiok166) (allC (p := PT) (show PT (294, ti294) from tiok294) (allC (p := PT) (show PT (230, ti230) from tiok230) (allC (p := PT) (show PT (54, ti54) from tiok54) (allC (p := PT) (show PT (86, ti86) from tiok86) (allC (p := PT) (show PT (150, ti150) from tiok150) (allC (p := PT) (show PT (214, ti214) from tiok214) (allC (p := PT) (show PT (118, ti118) from tiok118) (allC (p := PT) (show PT (182, ti182) from tiok182) (allC (p := PT) (show PT (310, ti310) from tiok310) (allC (p := PT) (show PT (246, ti246) from tiok246) (allC (p := PT) (show PT (46, ti46) from tiok46) (allC (p := PT) (show PT (142, ti142) from tiok142) (allC (p := PT) (show PT (270, ti270) from tiok270) (allC (p := PT) (show PT (206, ti206) from tiok206) (allC (p := PT) (show PT (110, ti110) from tiok110) (allC (p := PT) (show PT (174, ti174) from tiok174) (allC (p := PT) (show PT (302, ti302) from tiok302) (allC (p := PT) (show PT (238, ti238) from tiok238) (allC (p := PT) (show PT (62, ti62) from tiok62) (allC (p := PT) (show PT (94, ti94) from tiok94) gty_a7))))))))))))))))))))))))))))))))))))))))
theorem gty_a5 : ∀ x ∈ [(76, ti76), (140, ti140), (268, ti268), (204, ti204), (108, ti108), (172, ti172), (300, ti300), (236, ti236), (60, ti60), (92, ti92), (156, ti156), (284, ti284), (124, ti124), (188, ti188), (252, ti252), (6, ti6), (10, ti10), (18, ti18), (34, ti34), (66, ti66), (130, ti130), (258, ti258), (194, ti194), (98, ti98), (162, ti162), (226, ti226), (50, ti50), (82, ti82), (146, ti146), (274, ti274), (210, ti210), (114, ti114), (178, ti178), (242, ti242), (26, ti26), (42, ti42), (74, ti74), (138, ti138), (266, ti266), (202, ti202), (106, ti106), (170, ti170), (298, ti298), (58, ti58), (90, ti90), (154, ti154), (282, ti282), (218, ti218), (122, ti122), (186, ti186), (250, ti250), (14, ti14), (22, ti22), (38, ti38), (70, ti70), (134, ti134), (262, ti262), (198, ti198), (102, ti102), (166, ti166), (294, ti294), (230, ti230), (54, ti54), (86, ti86), (150, ti150), (214, ti214), (118, ti118), (182, ti182), (310, ti310), (246, ti246), (46, ti46), (142, ti142), (270, ti270), (206, ti206), (110, ti110), (174, ti174), (302, ti302), (238, ti238), (62, ti62), (94, ti94), (158, ti158), (286, ti286), (222, ti222), (126, ti126), (190, ti190)], PT x := (allC (p := PT) (show PT (76, ti76) from tiok76) (allC (p := PT) (show PT (140, ti140) from tiok140) (allC (p := PT) (show PT (268, ti268) from tiok268) (allC (p := PT) (show PT (204, ti204) from tiok204) (allC (p := PT) (show PT (108, ti108) from tiok108) (allC (p := PT) (show PT (172, ti172) from tiok172) (allC (p := PT) (show PT (300, ti300) from tiok300) (allC (p := PT) (show PT (236, ti236) from tiok236) (allC (p := PT) (show PT (60, ti60) from tiok60) (allC (p := PT) (show PT (92, ti92) from tiok92) (allC (p := PT) (show PT (156, ti156) from tiok156) (allC (p := PT) (show PT (284, ti284) from tiok284) (allC (p := PT) (show PT (124, ti124) from tiok124) (allC (p := PT) (show PT (188, ti188) from tiok188) (allC (p := PT) (show PT (252, ti252) from tiok252) (allC (p := PT) (show PT (6, ti6) from tiok6) (allC (p := PT) (show PT (10, ti10) from tiok10) (allC (p := PT) (show PT (18, ti18) from tiok18) (allC (p := PT) (show PT (34, ti34) from tiok34) (allC (p := PT) (show PT (66, ti66) from tiok66) (allC (p := PT) (show PT (130, ti130) from tiok130) (allC (p := PT) (show PT (258, ti258) from tiok258) (allC (p := PT) (show PT (194, ti194) from tiok194) (allC (p := PT) (show PT (98, ti98) from tiok98) (allC (p := PT) (show PT (162, ti162) from tiok162) (allC (p := PT) (show PT (226, ti226) from tiok226) (allC (p := PT) (show PT (50, ti50) from tiok50) (allC (p := PT) (show PT (82, ti82) from tiok82) (allC (p := PT) (show PT (146, ti146) from tiok146) (allC (p := PT) (show PT (274, ti274) from tiok274) (allC (p := PT) (show PT (210, ti210) from tiok210) (allC (p := PT) (show PT (114, ti114) from tiok114) (allC (p := PT) (show PT (178, ti178) from tiok178) (allC (p := PT) (show PT (242, ti242) from tiok242) (allC (p := PT) (show PT (26, ti26) from tiok26) (allC (p := PT) (show PT (42, ti42) from tiok42) (allC (p := PT) (show PT (74, ti74) from tiok74) (allC (p := PT) (show PT (138, ti138) from tiok138) (allC (p := PT) (show PT (266, ti266) from tiok266) (allC (p := PT) (show PT (202, ti202) from tiok202) gty_a6))))))))))))))))))))))))))))))))))))))))
theorem gty_a4 : ∀ x ∈ [(176, ti176), (240, ti240), (24, ti24), (40, ti40), (72, ti72), (136, ti136), (264, ti264), (200, ti200), (104, ti104), (168, ti168), (296, ti296), (232, ti232), (56, ti56), (88, ti88), (152, ti152), (280, ti280), (216, ti216), (120, ti120), (184, ti184), (312, ti312), (248, ti248), (12, ti12), (20, ti20), (36, ti36), (68, ti68), (132, ti132), (196, ti196), (100, ti100), (164, ti164), (292, ti292), (228, ti228), (52, ti52), (84, ti84), (148, ti148), (276, ti276), (116, ti116), (180, ti180), (308, ti308), (244, ti244), (28, ti28), (76, ti76), (140, ti140), (268, ti268), (204, ti204), (108, ti108), (172, ti172), (300, ti300), (236, ti236), (60, ti60), (92, ti92), (156, ti156), (284, ti284), (124, ti124), (188, ti188), (252, ti252), (6, ti6), (10, ti10), (18, ti18), (34, ti34), (66, ti66), (130, ti130), (258, ti258), (194, ti194), (98, ti98), (162, ti162), (226, ti226), (50, ti50), (82, ti82), (146, ti146), (274, ti274), (210, ti210), (114, ti114), (178, ti178), (242, ti242), (26, ti26), (42, ti42), (74, ti74), (138, ti138), (266, ti266), (202, ti202), (106, ti106), (170, ti170), (298, ti298), (58, ti58), (90, ti90), (154, ti154), (282, ti282), (218, ti218), (122, ti122), (186, ti186), (250, ti250), (14, ti14), (22, ti22), (38, ti38), (70, ti70), (134, ti134), (262, ti262), (198, ti198), (102, ti102), (166, ti166), (294, ti294), (230, ti230), (54, ti54), (86, ti86), (150, ti150), (214, ti214), (118, ti118), (182, ti182), (310, ti310), (246, ti246), (46, ti46), (142, ti142), (270, ti270), (206, ti206), (110, ti110), (174, ti174), (302, ti302), (238, ti238), (62, ti62), (94, ti94), (158, ti158), (286, ti286), (222, ti222), (126, ti126), (190, ti190)], PT x := (allC (p := PT) (show PT (176, ti176) from tiok176) (allC (p := PT) (show PT (240, ti240) from tiok240) (allC (p := PT) (show PT (24, ti24) from tiok24) (allC (p := PT) (show PT (40, ti40) from tiok40) (allC (p := PT) (show PT (72, ti72) from tiok72) (allC (p := PT) (show PT (136, ti136) from tiok136) (allC (p := PT) (show PT (264, ti264) from tiok264) (allC (p := PT) (show PT (200, ti200) from tiok200) (allC (p := PT) (show PT (104, ti104) from tiok104) (allC (p := PT) (show PT (168, ti168) from tiok168) (allC (p := PT) (show PT (296, ti296) from tiok296) (allC (p := PT) (show PT (232, ti232) from tiok232) (allC (p := PT) (show PT (56, ti56) from tiok56) (allC (p := PT) (show PT (88, ti88) from tiok88) (allC (p := PT) (show PT (152, ti152) from tiok152) (allC (p := PT) (show PT (280, ti280) from tiok280) (allC (p := PT) (show PT (216, ti216) from tiok216) (allC (p := PT) (show PT (120, ti120) from tiok120) (allC (p := PT) (show PT (184, ti184) from tiok184) (allC (p := PT) (show PT (312, ti312) from tiok312) (allC (p := PT) (show PT (248, ti248) from tiok248) (allC (p := PT) (show PT (12, ti12) from tiok12) (allC (p := PT) (show PT (20, ti20) from tiok20) (allC (p := PT) (show PT (36, ti36) from tiok36) (allC (p := PT) (show PT (68, ti68) from tiok68) (allC (p := PT) (show PT (132, ti132) from tiok132) (allC (p := PT) (show PT (196, ti196) from tiok196) (allC (p := PT) (show PT (100, ti100) from tiok100) (allC (p := PT) (show PT (164, ti164) from tiok164) (allC (p := PT) (show PT (292, ti292) from tiok292) (allC (p := PT) (show PT (228, ti228) from tiok228) (allC (p := PT) (show PT (52, ti52) from tiok52) (allC (p := PT) (show PT (84, ti84) from tiok84) (allC (p := PT) (show PT (148, ti148) from tiok148) (allC (p := PT) (show PT (276, ti276) from tiok276) (allC (p := PT) (show PT (116, ti116) from tiok116) (allC (p := PT) (show PT (180, ti180) from tiok180) (allC (p := PT) (show PT (308, ti308) from tiok308) (allC (p := PT) (show PT (244, ti244) from tiok244) (allC (p := PT) (show PT (28, ti28) from tiok28) gty_a5))))))))))))))))))))))))))))))))))))))))
theorem gty_a3 : ∀ x ∈ [(213, ti213), (117, ti117), (309, ti309), (245, ti245), (29, ti29), (45, ti45), (77, ti77), (141, ti141), (269, ti269), (205, ti205), (109, ti109), (173, ti173), (301, ti301), (237, ti237), (61, ti61), (157, ti157), (285, ti285), (221, ti221), (125, ti125), (189, ti189), (253, ti253), (2, ti2), (4, ti4), (8, ti8), (16, ti16), (32, ti32), (64, ti64), (128, ti128), (256, ti256), (192, ti192), (96, ti96), (160, ti160), (288, ti288), (224, ti224), (48, ti48), (80, ti80), (144, ti144), (272, ti272), (208, ti208), (112, ti112), (176, ti176), (240, ti240), (24, ti24), (40, ti40), (72, ti72), (136, ti136), (264, ti264), (200, ti200), (104, ti104), (168, ti168), (296, ti296), (232, ti232), (56, ti56), (88, ti88), (152, ti152), (280, ti280), (216, ti216), (120, ti120), (184, ti184), (312, ti312), (248, ti248), (12, ti12), (20, ti20), (36, ti36), (68, ti68), (132, ti132), (196, ti196), (100, ti100), (164, ti164), (292, ti292), (228, ti228), (52, ti52), (84, ti84), (148, ti148), (276, ti276), (116, ti116), (180, ti180), (308, ti308), (244, ti244), (28, ti28), (76, ti76), (140, ti140), (268, ti268), (204, ti204), (108, ti108), (172, ti172), (300, ti300), (236, ti236), (60, ti60), (92, ti92), (156, ti156), (284, ti284), (124, ti124), (188, ti188), (252, ti252), (6, ti6), (10, ti10), (18, ti18), (34, ti34), (66, ti66), (130, ti130), (258, ti258), (194, ti194), (98, ti98), (162, ti162), (226, ti226), (50, ti50), (82, ti82), (146, ti146), (274, ti274), (210, ti210), (114, ti114), (178, ti178), (242, ti242), (26, ti26), (42, ti42), (74, ti74), (138, ti138), (266, ti266), (202, ti202), (106, ti106), (170, ti170), (298, ti298), (58, ti58), (90, ti90), (154, ti154), (282, ti282), (218, ti218), (122, ti122), (186, ti186), (250, ti250), (14, ti14), (22, ti22), (38, ti38), (70, ti70), (134, ti134), (262, ti262), (198, ti198), (102, ti102), (166, ti166), (294, ti294), (230, ti230), (54, ti54), (86, ti86), (150, ti150), (214, ti214), (118, ti118), (182, ti182), (310, ti310), (246, ti246), (46, ti46), (142, ti142), (270, ti270), (206, ti206), (110, ti110), (174, ti174), (302, ti302), (238, ti238), (62, ti62), (94, ti94), (158, ti158), (286, ti286), (222, ti222), (126, ti126), (190, ti190)], PT x := (allC (p := PT) (show PT (213, ti213) from tiok213) (allC (p := PT) (show PT (117, ti117) from tiok117) (allC (p := PT) (show PT (309, ti309) from tiok309) (allC (p := PT) (show PT (245, ti245) from tiok245) (allC (p := PT) (show PT (29, ti29) from tiok29) (allC (p := PT) (show PT (45, ti45) from tiok45) (allC (p := PT) (show PT (77, ti77) from tiok77) (allC (p := PT) (show PT (141, ti141) from tiok141) (allC (p := PT) (show PT (269, ti269) from tiok269) (allC (p := PT) (show PT (205, ti205) from tiok205) (allC (p := PT) (show PT (109, ti109) from tiok109) (allC (p := PT) (show PT (173, ti173) from tiok173) (allC (p := PT) (show PT (301, ti301) from tiok301) (allC (p := PT) (show PT (237, ti237) from tiok237) (allC (p := PT) (show PT (61, ti61) from tiok61) (allC (p := PT) (show PT (157, ti157) from tiok157) (allC (p := PT) (show PT (285, ti285) from tiok285) (allC (p := PT) (show PT (221, ti221) from tiok221) (allC (p := PT) (show PT (125, ti125) from tiok125) (allC (p := PT) (show PT (189, ti189) from tiok189) (allC (p := PT) (show PT (253, ti253) from tiok253) (allC (p := PT) (show PT (2, ti2) from tiok2) (allC (p := PT) (show PT (4, ti4) from tiok4) (allC (p := PT) (show PT (8, ti8) from tiok8) (allC (p := PT) (show PT (16, ti16) from tiok16) (allC (p := PT) (show PT (32, ti32) from tiok32) (allC (p := PT) (show PT (64, ti64) from tiok64) (allC (p := PT) (show PT (128, ti128) from tiok128) (allC (p := PT) (show PT (256, ti256) from tiok256) (allC (p := PT) (show PT (192, ti192) from tiok192) (allC (p := PT) (show PT (96, ti96) from tiok96) (allC (p := PT) (show PT (160, ti160) from tiok160) (allC (p := PT) (show PT (288, ti288) from tiok288) (allC (p := PT) (show PT (224, ti224) from tiok224) (allC (p := PT) (show PT (48, ti48) from tiok48) (allC (p := PT) (show PT (80, ti80) from tiok80) (allC (p := PT) (show PT (144, ti144) from tiok144) (allC (p := PT) (show PT (272, ti272) from tiok272) (allC (p := PT) (show PT (208, ti208) from tiok208) (allC (p := PT) (show PT (112, ti112) from tiok112) gty_a4))))))))))))))))))))))))))))))))))))))))
theorem gty_a2 : ∀ x ∈ [(49, ti49), (81, ti81), (145, ti145), (273, ti273), (209, ti209), (177, ti177), (241, ti241), (25, ti25), (41, ti41), (73, ti73), (137, ti137), (265, ti265), (201, ti201), (105, ti105), (169, ti169), (297, ti297), (233, ti233), (57, ti57), (89, ti89), (281, ti281), (217, ti217), (121, ti121), (185, ti185), (313, ti313), (249, ti249), (13, ti13), (21, ti21), (37, ti37), (69, ti69), (133, ti133), (261, ti261), (197, ti197), (101, ti101), (165, ti165), (293, ti293), (229, ti229), (53, ti53), (85, ti85), (149, ti149), (277, ti277), (213, ti213), (117, ti117), (309, ti309), (245, ti245), (29, ti29), (45, ti45), (77, ti77), (141, ti141), (269, ti269), (205, ti205), (109, ti109), (173, ti173), (301, ti301), (237, ti237), (61, ti61), (157, ti157), (285, ti285), (221, ti221), (125, ti125), (189, ti189), (253, ti253), (2, ti2), (4, ti4), (8, ti8), (16, ti16), (32, ti32), (64, ti64), (128, ti128), (256, ti256), (192, ti192), (96, ti96), (160, ti160), (288, ti288), (224, ti224), (48, ti48), (80, ti80), (144, ti144), (272, ti272), (208, ti208), (112, ti112), (176, ti176), (240, ti240), (24, ti24), (40, ti40), (72, ti72), (136, ti136), (264, ti264), (200, ti200), (104, ti104), (168, ti168), (296, ti296), (232, ti232), (56, ti56), (88, ti88), (152, ti152), (280, ti280), (216, ti216), (120, ti120), (184, ti184), (312, ti312), (248, ti248), (12, ti12), (20, ti20), (36, ti36), (68, ti68), (132, ti132), (196, ti196), (100, ti100), (164, ti164), (292, ti292), (228, ti228), (52, ti52), (84, ti84), (148, ti148), (276, ti276), (116, ti116), (180, ti180), (308, ti308), (244, ti244), (28, ti28), (76, ti76), (140, ti140), (268, ti268), (204, ti204), (108, ti108), (172, ti172), (300, ti300), (236, ti236), (60, ti60), (92, ti92), (156, ti156), (284, ti284), (124, ti124), (188, ti188), (252, ti252), (6, ti6), (10, ti10), (18, ti18), (34, ti34), (66, ti66), (130, ti130), (258, ti258), (194, ti194), (98, ti98), (162, ti162), (226, ti226), (50, ti50), (82, ti82), (146, ti146), (274, ti274), (210, ti210), (114, ti114), (178, ti178), (242, ti242), (26, ti26), (42, ti42), (74, ti74), (138, ti138), (266, ti266), (202, ti202), (106, ti106), (170, ti170), (298, ti298), (58, ti58), (90, ti90), (154, ti154), (282, ti282), (218, ti218), (122, ti122), (186, ti186), (250, ti250), (14, ti14), (22, ti22), (38, ti38), (70, ti70), (134, ti134), (262, ti262), (198, ti198), (102, ti102), (166, ti166), (294, ti294), (230, ti230), (54, ti54), (86, ti86), (150, ti150), (214, ti214), (118, ti118), (182, ti182), (310, ti310), (246, ti246), (46, ti46), (142, ti142), (270, ti270), (206, ti206), (110, ti110), (174, ti174), (302, ti302), (238, ti238), (62, ti62), (94, ti94), (158, ti158), (286, ti286), (222, ti222), (126, ti126), (190, ti190)], PT x := (allC (p := PT) (show PT (49, ti49) from tiok49) (allC (p := PT) (show PT (81, ti81) from tiok81) (allC (p := PT) (show PT (145, ti145) from tiok145) (allC (p := PT) (show PT (273, ti273) from tiok273) (allC (p := PT) (show PT (209, ti209) from tiok209) (allC (p := PT) (show PT (177, ti177) from tiok177) (allC (p := PT) (show PT (241, ti241) from tiok241) (allC (p := PT) (show PT (25, ti25) from tiok25) (allC (p := PT) (show PT (41, ti41) from tiok41) (allC (p := PT) (show PT (73, ti73) from tiok73) (allC (p := PT) (show PT (137, ti137) from tiok137) (allC (p := PT) (show PT (265, ti265) from tiok265) (allC (p := PT) (show PT (201, ti201) from tiok201) (allC (p := PT) (show PT (105, ti105) from tiok105) (allC (p := PT) (show PT (169, ti169) from tiok169) (allC (p := PT) (show PT (297, ti297) from tiok297) (allC (p := PT) (show PT (233, ti233) from tiok233) (allC (p := PT) (show PT (57, ti57) from tiok57) (allC (p := PT) (show PT (89, ti89) from tiok89) (allC (p := PT) (show PT (281, ti281) from tiok281) (allC (p := PT) (show PT (217, ti217) from tiok217) (allC (p := PT) (show PT (121, ti121) from tiok121) (allC (p := PT) (show PT (185, ti185) from tiok185) (allC (p := PT) (show PT (313, ti313) from tiok313) (allC (p := PT) (show PT (249, ti249) from tiok249) (allC (p := PT) (show PT (13, ti13) from tiok13) (allC (p := PT) (show PT (21, ti21) from tiok21) (allC (p := PT) (show PT (37, ti37) from tiok37) (allC (p := PT) (show PT (69, ti69) from tiok69) (allC (p := PT) (show PT (133, ti133) from tiok133) (allC (p := PT) (show PT (261, ti261) from tiok261) (allC (p := PT) (show PT (197, ti197) from tiok197) (allC (p := PT) (show PT (101, ti101) from tiok101) (allC (p := PT) (show PT (165, ti165) from tiok165) (allC (p := PT) (show PT (293, ti293) from tiok293) (allC (p := PT) (show PT (229, ti229) from tiok229) (allC (p := PT) (show PT (53, ti53) from tiok53) (allC (p := PT) (show PT (85, ti85) from tiok85) (allC (p := PT) (show PT (149, ti149) from tiok149) (allC (p := PT) (show PT (277, ti277) from tiok277) gty_a3))))))))))))))))))))))))))))))))))))))))
theorem gty_a1 : ∀ x ∈ [(99, ti99), (163, ti163), (291, ti291), (227, ti227), (51, ti51), (83, ti83), (147, ti147), (275, ti275), (211, ti211), (115, ti115), (179, ti179), (307, ti307), (243, ti243), (27, ti27), (75, ti75), (139, ti139), (267, ti267), (203, ti203), (171, ti171), (299, ti299), (235, ti235), (91, ti91), (155, ti155), (283, ti283), (219, ti219), (123, ti123), (187, ti187), (251, ti251), (5, ti5), (9, ti9), (17, ti17), (33, ti33), (65, ti65), (129, ti129), (257, ti257), (193, ti193), (97, ti97), (161, ti161), (289, ti289), (225, ti225), (49, ti49), (81, ti81), (145, ti145), (273, ti273), (209, ti209), (177, ti177), (241, ti241), (25, ti25), (41, ti41), (73, ti73), (137, ti137), (265, ti265), (201, ti201), (105, ti105), (169, ti169), (297, ti297), (233, ti233), (57, ti57), (89, ti89), (281, ti281), (217, ti217), (121, ti121), (185, ti185), (313, ti313), (249, ti249), (13, ti13), (21, ti21), (37, ti37), (69, ti69), (133, ti133), (261, ti261), (197, ti197), (101, ti101), (165, ti165), (293, ti293), (229, ti229), (53, ti53), (85, ti85), (149, ti149), (277, ti277), (213, ti213), (117, ti117), (309, ti309), (245, ti245), (29, ti29), (45, ti45), (77, ti77), (141, ti141), (269, ti269), (205, ti205), (109, ti109), (173, ti173), (301, ti301), (237, ti237), (61, ti61), (157, ti157), (285, ti285), (221, ti221), (125, ti125), (189, ti189), (253, ti253), (2, ti2), (4, ti4), (8, ti8), (16, ti16), (32, ti32), (64, ti64), (128, ti128), (256, ti256), (192, ti192), (96, ti96), (160, ti160), (288, ti288), (224, ti224), (48, ti48), (80, ti80), (144, ti144), (272, ti272), (208, ti208), (112, ti112), (176, ti176), (240, ti240), (24, ti24), (40, ti40), (72, ti72), (136, ti136), (264, ti264), (200, ti200), (104, ti104), (168, ti168), (296, ti296), (232, ti232), (56, ti56), (88, ti88), (152, ti152), (280, ti280), (216, ti216), (120, ti120), (184, ti184), (312, ti312), (248, ti248), (12, ti12), (20, ti20), (36, ti36), (68, ti68), (132, ti132), (196, ti196), (100, ti100), (164, ti164), (292, ti292), (228, ti228), (52, ti52), (84, ti84), (148, ti148), (276, ti276), (116, ti116), (180, ti180), (308, ti308), (244, ti244), (28, ti28), (76, ti76), (140, ti140), (268, ti268), (204, ti204), (108, ti108), (172, ti172), (300, ti300), (236, ti236), (60, ti60), (92, ti92), (156, ti156), (284, ti284), (124, ti124), (188, ti188), (252, ti252), (6, ti6), (10, ti10), (18, ti18), (34, ti34), (66, ti66), (130, ti130), (258, ti258), (194, ti194), (98, ti98), (162, ti162), (226, ti226), (50, ti50), (82, ti82), (146, ti146), (274, ti274), (210, ti210), (114, ti114), (178, ti178), (242, ti242), (26, ti26), (42, ti42), (74, ti74), (138, ti138), (266, ti266), (202, ti202), (106, ti106), (170, ti170), (298, ti298), (58, ti58), (90, ti90), (154, ti154), (282, ti282), (218, ti218), (122, ti122), (186, ti186), (250, ti250), (14, ti14), (22, ti22), (38, ti38), (70, ti70), (134, ti134), (262, ti262), (198, ti198), (102, ti102), (166, ti166), (294, ti294), (230, ti230), (54, ti54), (86, ti86), (150, ti150), (214, ti214), (118, ti118), (182, ti182), (310, ti310), (246, ti246), (46, ti46), (142, ti142), (270, ti270), (206, ti206), (110, ti110), (174, ti174), (302, ti302), (238, ti238), (62, ti62), (94, ti94), (158, ti158), (286, ti286), (222, ti222), (126, ti126), (190, ti190)], PT x := (allC (p := PT) (show PT (99, ti99) from tiok99) (allC (p := PT) (show PT (163, ti163) from tiok163) (allC (p := PT) (show PT (291, ti291) from tiok291) (allC (p := PT) (show PT (227, ti227) from tiok227) (allC (p := PT) (show PT (51, ti51) from tiok51) (allC (p := PT) (show PT (83, ti83) from tiok83) (allC (p := PT) (show PT (147, ti147) from tiok147) (allC (p := PT) (show PT (275, ti275) from tiok275) (allC (p := PT) (show PT (211, ti211) from tiok211) (allC (p := PT) (show PT (115, ti115) from tiok115) (allC (p := PT) (show PT (179, ti179) from tiok179) (allC (p := PT) (show PT (307, ti307) from tiok307) (allC (p := PT) (show PT (243, ti243) from tiok243) (allC (p := PT) (show PT (27, ti27) from tiok27) (allC (p := PT) (show PT (75, ti75) from tiok75) (allC (p := PT) (show PT (139, ti139) from tiok139) (allC (p := PT) (show PT (267, ti267) from tiok267) (allC (p := PT) (show PT (203, ti203) from tiok203) (allC (p := PT) (show PT (171, ti171) from tiok171) (allC (p := PT) (show PT (299, ti299) from tiok299) (allC (p := PT) (show PT (235, ti235) from tiok235) (allC (p := PT) (show PT (91, ti91) from tiok91) (allC (p := PT) (show PT (155, ti155) from tiok155) (allC (p := PT) (show PT (283, ti283) from tiok283) (allC (p := PT) (show PT (219, ti219) from tiok219) (allC (p := PT) (show PT (123, ti123) from tiok123) (allC (p := PT) (show PT (187, ti187) from tiok187) (allC (p := PT) (show PT (251, ti251) from tiok251) (allC (p := PT) (show PT (5, ti5) from tiok5) (allC (p := PT) (show PT (9, ti9) from tiok9) (allC (p := PT) (show PT (17, ti17) from tiok17) (allC (p := PT) (show PT (33, ti33) from tiok33) (allC (p := PT) (show PT (65, ti65) from tiok65) (allC (p := PT) (show PT (129, ti129) from tiok129) (allC (p := PT) (show PT (257, ti257) from tiok257) (allC (p := PT) (show PT (193, ti193) from tiok193) (allC (p := PT) (show PT (97, ti97) from tiok97) (allC (p := PT) (show PT (161, ti161) from tiok161) (allC (p := PT) (show PT (289, ti289) from tiok289) (allC (p := PT) (show PT (225, ti225) from tiok225) gty_a2))))))))))))))))))))))))))))))))))))))))
theorem gty_a0 : ∀ x ∈ [(1, ti1), (3, ti3), (7, ti7), (15, ti15), (31, ti31), (63, ti63), (127, ti127), (255, ti255), (191, ti191), (95, ti95), (159, ti159), (287, ti287), (47, ti47), (79, ti79), (271, ti271), (207, ti207), (111, ti111), (175, ti175), (303, ti303), (239, ti239), (23, ti23), (39, ti39), (135, ti135), (103, ti103), (167, ti167), (295, ti295), (231, ti231), (151, ti151), (279, ti279), (215, ti215), (119, ti119), (183, ti183), (311, ti311), (247, ti247), (11, ti11), (19, ti19), (35, ti35), (67, ti67), (259, ti259), (195, ti195), (99, ti99), (163, ti163), (291, ti291), (227, ti227), (51, ti51), (83, ti83), (147, ti147), (275, ti275), (211, ti211), (115, ti115), (179, ti179), (307, ti307), (243, ti243), (27, ti27), (75, ti75), (139, ti139), (267, ti267), (203, ti203), (171, ti171), (299, ti299), (235, ti235), (91, ti91), (155, ti155), (283, ti283), (219, ti219), (123, ti123), (187, ti187), (251, ti251), (5, ti5), (9, ti9), (17, ti17), (33, ti33), (65, ti65), (129, ti129), (257, ti257), (193, ti193), (97, ti97), (161, ti161), (289, ti289), (225, ti225), (49, ti49), (81, ti81), (145, ti145), (273, ti273), (209, ti209), (177, ti177), (241, ti241), (25, ti25), (41, ti41), (73, ti73), (137, ti137), (265, ti265), (201, ti201), (105, ti105), (169, ti169), (297, ti297), (233, ti233), (57, ti57), (89, ti89), (281, ti281), (217, ti217), (121, ti121), (185, ti185), (313, ti313), (249, ti249), (13, ti13), (21, ti21), (37, ti37), (69, ti69), (133, ti133), (261, ti261), (197, ti197), (101, ti101), (165, ti165), (293, ti293), (229, ti229), (53, ti53), (85, ti85), (149, ti149), (277, ti277), (213, ti213), (117, ti117), (309, ti309), (245, ti245), (29, ti29), (45, ti45), (77, ti77), (141, ti141), (269, ti269), (205, ti205), (109, ti109), (173, ti173), (301, ti301), (237, ti237), (61, ti61), (157, ti157), (285, ti285), (221, ti221), (125, ti125), (189, ti189), (253, ti253), (2, ti2), (4, ti4), (8, ti8), (16, ti16), (32, ti32), (64, ti64), (128, ti128), (256, ti256), (192, ti192), (96, ti96), (160, ti160), (288, ti288), (224, ti224), (48, ti48), (80, ti80), (144, ti144), (272, ti272), (208, ti208), (112, ti112), (176, ti176), (240, ti240), (24, ti24), (40, ti40), (72, ti72), (136, ti136), (264, ti264), (200, ti200), (104, ti104), (168, ti168), (296, ti296), (232, ti232), (56, ti56), (88, ti88), (152, ti152), (280, ti280), (216, ti216), (120, ti120), (184, ti184), (312, ti312), (248, ti248), (12, ti12), (20, ti20), (36, ti36), (68, ti68), (132, ti132), (196, ti196), (100, ti100), (164, ti164), (292, ti292), (228, ti228), (52, ti52), (84, ti84), (148, ti148), (276, ti276), (116, ti116), (180, ti180), (308, ti308), (244, ti244), (28, ti28), (76, ti76), (140, ti140), (268, ti268), (204, ti204), (108, ti108), (172, ti172), (300, ti300), (236, ti236), (60, ti60), (92, ti92), (156, ti156), (284, ti284), (124, ti124), (188, ti188), (252, ti252), (6, ti6), (10, ti10), (18, ti18), (34, ti34), (66, ti66), (130, ti130), (258, ti258), (194, ti194), (98, ti98), (162, ti162), (226, ti226), (50, ti50), (82, ti82), (146, ti146), (274, ti274), (210, ti210), (114, ti114), (178, ti178), (242, ti242), (26, ti26), (42, ti42), (74, ti74), (138, ti138), (266, ti266), (202, ti202), (106, ti106), (170, ti170), (298, ti298), (58, ti58), (90, ti90), (154, ti154), (282, ti282), (218, ti218), (122, ti122), (186, ti186), (250, ti250), (14, ti14), (22, ti22), (38, ti38), (70, ti70), (134, ti134), (262, ti262), (198, ti198), (102, ti102), (166, ti166), (294, ti294), (230, ti230), (54, ti54), (86, ti86), (150, ti150), (214, ti214), (118, ti118), (182, ti182), (310, ti310), (246, ti246), (46, ti46), (142, ti142), (270, ti270), (206, ti206), (110, ti110), (174, ti174), (302, ti302), (238, ti238), (62, ti62), (94, ti94), (158, ti158), (286, ti286), (222, ti222), (126, ti126), (190, ti190)], PT x := (allC (p := PT) (show PT (1, ti1) from tiok1) (allC (p := PT) (show PT (3, ti3) from tiok3) (allC (p := PT) (show PT (7, ti7) from tiok7) (allC (p := PT) (show PT (15, ti15) from tiok15) (allC (p := PT) (show PT (31, ti31) from tiok31) (allC (p := PT) (show PT (63, ti63) from tiok63) (allC (p := PT) (show PT (127, ti127) from tiok127) (allC (p := PT) (show PT (255, ti255) from tiok255) (allC (p := PT) (show PT (191, ti191) from tiok191) (allC (p := PT) (show PT (95, ti95) from tiok95) (allC (p := PT) (show PT (159, ti159) from tiok159) (allC (p := PT) (show PT (287, ti287) from tiok287) (allC (p := PT) (show PT (47, ti47) from tiok47) (allC (p := PT) (show PT (79, ti79) from tiok79) (allC (p := PT) (show PT (271, ti271) from tiok271) (allC (p := PT) (show PT (207, ti207) from tiok207) (allC (p := PT) (show PT (111, ti111) from tiok111) (allC (p := PT) (show PT (175, ti175) from tiok175) (allC (p := PT) (show PT (303, ti303) from tiok303) (allC (p := PT) (show PT (239, ti239) from tiok239) (allC (p := PT) (show PT (23, ti23) from tiok23) (allC (p := PT) (show PT (39, ti39) from tiok39) (allC (p := PT) (show PT (135, ti135) from tiok135) (allC (p := PT) (show PT (103, ti103) from tiok103) (allC (p := PT) (show PT (167, ti167) from tiok167) (allC (p := PT) (show PT (295, ti295) from tiok295) (allC (p := PT) (show PT (231, ti231) from tiok231) (allC (p := PT) (show PT (151, ti151) from tiok151) (allC (p := PT) (show PT (279, ti279) from tiok279) (allC (p := PT) (show PT (215, ti215) from tiok215) (allC (p := PT) (show PT (119, ti119) from tiok119) (allC (p := PT) (show PT (183, ti183) from tiok183) (allC (p := PT) (show PT (311, ti311) from tiok311) (allC (p := PT) (show PT (247, ti247) from tiok247) (allC (p := PT) (show PT (11, ti11) from tiok11) (allC (p := PT) (show PT (19, ti19) from tiok19) (allC (p := PT) (show PT (35, ti35) from tiok35) (allC (p := PT) (show PT (67, ti67) from tiok67) (allC (p := PT) (show PT (259, ti259) from tiok259) (allC (p := PT) (show PT (195, ti195) from tiok195) gty_a1))))))))))))))))))))))))))))))))))))))))
theorem gty_a : ∀ x ∈ gtyL, PT x := gty_a0
theorem gfn_a4 : ∀ x ∈ [(86, Tryz.f86), (150, Tryz.f150), (118, Tryz.f118), (30, Tryz.f30), (46, Tryz.f46), (78, Tryz.f78), (142, Tryz.f142), (110, Tryz.f110), (174, Tryz.f174), (62, Tryz.f62), (94, Tryz.f94), (158, Tryz.f158), (126, Tryz.f126)], PF x := (allC (p := PF) (show PF (86, Tryz.f86) from ⟨Tryz.func86, by kernel_rfl⟩) (allC (p := PF) (show PF (150, Tryz.f150) from ⟨Tryz.func150, by kernel_rfl⟩) (allC (p := PF) (show PF (118, Tryz.f118) from ⟨Tryz.func118, by kernel_rfl⟩) (allC (p := PF) (show PF (30, Tryz.f30) from ⟨Tryz.func30, by kernel_rfl⟩) (allC (p := PF) (show PF (46, Tryz.f46) from ⟨Tryz.func46, by kernel_rfl⟩) (allC (p := PF) (show PF (78, Tryz.f78) from ⟨Tryz.func78, by kernel_rfl⟩) (allC (p := PF) (show PF (142, Tryz.f142) from ⟨Tryz.func142, by kernel_rfl⟩) (allC (p := PF) (show PF (110, Tryz.f110) from ⟨Tryz.func110, by kernel_rfl⟩) (allC (p := PF) (show PF (174, Tryz.f174) from ⟨Tryz.func174, by kernel_rfl⟩) (allC (p := PF) (show PF (62, Tryz.f62) from ⟨Tryz.func62, by kernel_rfl⟩) (allC (p := PF) (show PF (94, Tryz.f94) from ⟨Tryz.func94, by kernel_rfl⟩) (allC (p := PF) (show PF (158, Tryz.f158) from ⟨Tryz.func158, by kernel_rfl⟩) (allC (p := PF) (show PF (126, Tryz.f126) from ⟨Tryz.func126, by kernel_rfl⟩) allN)))))))))))))
theorem gfn_a3 : ∀ x ∈ [(28, Tryz.f28), (44, Tryz.f44), (76, Tryz.f76), (140, Tryz.f140), (108, Tryz.f108), (172, Tryz.f172), (60, Tryz.f60), (92, Tryz.f92), (156, Tryz.f156), (124, Tryz.f124), (6, Tryz.f6), (10, Tryz.f10), (18, Tryz.f18), (34, Tryz.f34), (66, Tryz.f66), (130, Tryz.f130), (98, Tryz.f98), (162, Tryz.f162), (50, Tryz.f50), (82, Tryz.f82), (146, Tryz.f146), (114, Tryz.f114), (26, Tryz.f26), (42, Tryz.f42), (74, Tryz.f74), (138, Tryz.f138), (106, Tryz.f106), (170, Tryz.f170), (58, Tryz.f58), (90, Tryz.f90), (154, Tryz.f154), (122, Tryz.f122), (14, Tryz.f14), (22, Tryz.f22), (38, Tryz.f38), (70, Tryz.f70), (134, Tryz.f134), (102, Tryz.f102), (166, Tryz.f166), (54, Tryz.f54), (86, Tryz.f86), (150, Tryz.f150), (118, Tryz.f118), (30, Tryz.f30), (46, Tryz.f46), (78, Tryz.f78), (142, Tryz.f142), (110, Tryz.f110), (174, Tryz.f174), (62, Tryz.f62), (94, Tryz.f94), (158, Tryz.f158), (126, Tryz.f126)], PF x := (allC (p := PF) (show PF (28, Tryz.f28) from ⟨Tryz.func28, by kernel_rfl⟩) (allC (p := PF) (show PF (44, Tryz.f44) from ⟨Tryz.func44, by kernel_rfl⟩) (allC (p := PF) (show PF (76, Tryz.f76) from ⟨Tryz.func76, by kernel_rfl⟩) (allC (p := PF) (show PF (140, Tryz.f140) from ⟨Tryz.func140, by kernel_rfl⟩) (allC (p := PF) (show PF (108, Tryz.f108) from ⟨Tryz.func108, by kernel_rfl⟩) (allC (p := PF) (show PF (172, Tryz.f172) from ⟨Tryz.func172, by kernel_rfl⟩) (allC (p := PF) (show PF (60, Tryz.f60) from ⟨Tryz.func60, by kernel_rfl⟩) (allC (p := PF) (show PF (92, Tryz.f92) from ⟨Tryz.func92, by kernel_rfl⟩) (allC (p := PF) (show PF (156, Tryz.f156) from ⟨Tryz.func156, by kernel_rfl⟩) (allC (p := PF) (show PF (124, Tryz.f124) from ⟨Tryz.func124, by kernel_rfl⟩) (allC (p := PF) (show PF (6, Tryz.f6) from ⟨Tryz.func6, by kernel_rfl⟩) (allC (p := PF) (show PF (10, Tryz.f10) from ⟨Tryz.func10, by kernel_rfl⟩) (allC (p := PF) (show PF (18, Tryz.f18) from ⟨Tryz.func18, by kernel_rfl⟩) (allC (p := PF) (show PF (34, Tryz.f34) from ⟨Tryz.func34, by kernel_rfl⟩) (allC (p := PF) (show PF (66, Tryz.f66) from ⟨Tryz.func66, by kernel_rfl⟩) (allC (p := PF) (show PF (130, Tryz.f130) from ⟨Tryz.func130, by kernel_rfl⟩) (allC (p := PF) (show PF (98, Tryz.f98) from ⟨Tryz.func98, by kernel_rfl⟩) (allC (p := PF) (show PF (162, Tryz.f162) from ⟨Tryz.func162, by kernel_rfl⟩) (allC (p := PF) (show PF (50, Tryz.f50) from ⟨Tryz.func50, by kernel_rfl⟩) (allC (p := PF) (show PF (82, Tryz.f82) from ⟨Tryz.func82, by kernel_rfl⟩) (allC (p := PF) (show PF (146, Tryz.f146) from ⟨Tryz.func146, by kernel_rfl⟩) (allC (p := PF) (show PF (114, Tryz.f114) from ⟨Tryz.func114, by kernel_rfl⟩) (allC (p := PF) (show PF (26, Tryz.f26) from ⟨Tryz.func26, by kernel_rfl⟩) (allC (p := PF) (show PF (42, Tryz.f42) from ⟨Tryz.func42, by kernel_rfl⟩) (allC (p := PF) (show PF (74, Tryz.f74) from ⟨Tryz.func74, by kernel_rfl⟩) (allC (p := PF) (show PF (138, Tryz.f138) from ⟨Tryz.func138, by kernel_rfl⟩) (allC (p := PF) (show PF (106, Tryz.f106) from ⟨Tryz.func106, by kernel_rfl⟩) (allC (p := PF) (show PF (170, Tryz.f170) from ⟨Tryz.func170, by kernel_rfl⟩) (allC (p := PF) (show PF (58, Tryz.f58) from ⟨Tryz.func58, by kernel_rfl⟩) (allC (p := PF) (show PF (90, Tryz.f90) from ⟨Tryz.func90, by kernel_rfl⟩) (allC (p := PF) (show PF (154, Tryz.f154) from ⟨Tryz.func154, by kernel_rfl⟩) (allC (p := PF) (show PF (122, Tryz.f122) from ⟨Tryz.func122, by kernel_rfl⟩) (allC (p := PF) (show PF (14, Tryz.f14) from ⟨Tryz.func14, by kernel_rfl⟩) (allC (p := PF) (show PF (22, Tryz.f22) from ⟨Tryz.func22, by kernel_rfl⟩) (allC (p := PF) (show PF (38, Tryz.f38) from ⟨Tryz.func38, by kernel_rfl⟩) (allC (p := PF) (show PF (70, Tryz.f70) from ⟨Tryz.func70, by kernel_rfl⟩) (allC (p := PF) (show PF (134, Tryz.f134) from ⟨Tryz.func134, by kernel_rfl⟩) (allC (p := PF) (show PF (102, Tryz.f102) from ⟨Tryz.func102, by kernel_rfl⟩) (allC (p := PF) (show PF (166, Tryz.f166) from ⟨Tryz.func166, by kernel_rfl⟩) (allC (p := PF) (show PF (54, Tryz.f54) from ⟨Tryz.func54, by kernel_rfl⟩) gfn_a4))))))))))))))))))))))))))))))))))))))))
theorem gfn_a2 : ∀ x ∈ [(141, Tryz.f141), (109, Tryz.f109), (173, Tryz.f173), (61, Tryz.f61), (93, Tryz.f93), (157, Tryz.f157), (125, Tryz.f125), (4, Tryz.f4), (8, Tryz.f8), (16, Tryz.f16), (32, Tryz.f32), (64, Tryz.f64), (128, Tryz.f128), (96, Tryz.f96), (160, Tryz.f160), (48, Tryz.f48), (80, Tryz.f80), (144, Tryz.f144), (112, Tryz.f112), (24, Tryz.f24), (40, Tryz.f40), (72, Tryz.f72), (136, Tryz.f136), (104, Tryz.f104), (168, Tryz.f168), (56, Tryz.f56), (88, Tryz.f88), (152, Tryz.f152), (120, Tryz.f120), (12, Tryz.f12), (20, Tryz.f20), (36, Tryz.f36), (68, Tryz.f68), (132, Tryz.f132), (100, Tryz.f100), (164, Tryz.f164), (52, Tryz.f52), (84, Tryz.f84), (148, Tryz.f148), (116, Tryz.f116), (28, Tryz.f28), (44, Tryz.f44), (76, Tryz.f76), (140, Tryz.f140), (108, Tryz.f108), (172, Tryz.f172), (60, Tryz.f60), (92, Tryz.f92), (156, Tryz.f156), (124, Tryz.f124), (6, Tryz.f6), (10, Tryz.f10), (18, Tryz.f18), (34, Tryz.f34), (66, Tryz.f66), (130, Tryz.f130), (98, Tryz.f98), (162, Tryz.f162), (50, Tryz.f50), (82, Tryz.f82), (146, Tryz.f146), (114, Tryz.f114), (26, Tryz.f26), (42, Tryz.f42), (74, Tryz.f74), (138, Tryz.f138), (106, Tryz.f106), (170, Tryz.f170), (58, Tryz.f58), (90, Tryz.f90), (154, Tryz.f154), (122, Tryz.f122), (14, Tryz.f14), (22, Tryz.f22), (38, Tryz.f38), (70, Tryz.f70), (134, Tryz.f134), (102, Tryz.f102), (166, Tryz.f166), (54, Tryz.f54), (86, Tryz.f86), (150, Tryz.f150), (118, Tryz.f118), (30, Tryz.f30), (46, Tryz.f46), (78, Tryz.f78), (142, Tryz.f142), (110, Tryz.f110), (174, Tryz.f174), (62, Tryz.f62), (94, Tryz.f94), (158, Tryz.f158), (126, Tryz.f126)], PF x := (allC (p := PF) (show PF (141, Tryz.f141) from ⟨Tryz.func141, by kernel_rfl⟩) (allC (p := PF) (show PF (109, Tryz.f109) from ⟨Tryz.func109, by kernel_rfl⟩) (allC (p := PF) (show PF (173, Tryz.f173) from ⟨Tryz.func173, by kernel_rfl⟩) (allC (p := PF) (show PF (61, Tryz.f61) from ⟨Tryz.func61, by kernel_rfl⟩) (allC (p := PF) (show PF (93, Tryz.f93) from ⟨Tryz.func93, by kernel_rfl⟩) (allC (p := PF) (show PF (157, Tryz.f157) from ⟨Tryz.func157, by kernel_rfl⟩) (allC (p := PF) (show PF (125, Tryz.f125) from ⟨Tryz.func125, by kernel_rfl⟩) (allC (p := PF) (show PF (4, Tryz.f4) from ⟨Tryz.func4, by kernel_rfl⟩) (allC (p := PF) (show PF (8, Tryz.f8) from ⟨Tryz.func8, by kernel_rfl⟩) (allC (p := PF) (show PF (16, Tryz.f16) from ⟨Tryz.func16, by kernel_rfl⟩) (allC (p := PF) (show PF (32, Tryz.f32) from ⟨Tryz.func32, by kernel_rfl⟩) (allC (p := PF) (show PF (64, Tryz.f64) from ⟨Tryz.func64, by kernel_rfl⟩) (allC (p := PF) (show PF (128, Tryz.f128) from ⟨Tryz.func128, by kernel_rfl⟩) (allC (p := PF) (show PF (96, Tryz.f96) from ⟨Tryz.func96, by kernel_rfl⟩) (allC (p := PF) (show PF (160, Tryz.f160) from ⟨Tryz.func160, by kernel_rfl⟩) (allC (p := PF) (show PF (48, Tryz.f48) from ⟨Tryz.func48, by kernel_rfl⟩) (allC (p := PF) (show PF (80, Tryz.f80) from ⟨Tryz.func80, by kernel_rfl⟩) (allC (p := PF) (show PF (144, Tryz.f144) from ⟨Tryz.func144, by kernel_rfl⟩) (allC (p := PF) (show PF (112, Tryz.f112) from ⟨Tryz.func112, by kernel_rfl⟩) (allC (p := PF) (show PF (24, Tryz.f24) from ⟨Tryz.func24, by kernel_rfl⟩) (allC (p := PF) (show PF (40, Tryz.f40) from ⟨Tryz.func40, by kernel_rfl⟩) (allC (p := PF) (show PF (72, Tryz.f72) from ⟨Tryz.func72, by kernel_rfl⟩) (allC (p := PF) (show PF (136, Tryz.f136) from ⟨Tryz.func136, by kernel_rfl⟩) (allC (p := PF) (show PF (104, Tryz.f104) from ⟨Tryz.func104, by kernel_rfl⟩) (allC (p := PF) (show PF (168, Tryz.f168) from ⟨Tryz.func168, by kernel_rfl⟩) (allC (p := PF) (show PF (56, Tryz.f56) from ⟨Tryz.func56, by kernel_rfl⟩) (allC (p := PF) (show PF (88, Tryz.f88) from ⟨Tryz.func88, by kernel_rfl⟩) (allC (p := PF) (show PF (152, Tryz.f152) from ⟨Tryz.func152, by kernel_rfl⟩) (allC (p := PF) (show PF (120, Tryz.f120) from ⟨Tryz.func120, by kernel_rfl⟩) (allC (p := PF) (show PF (12, Tryz.f12) from ⟨Tryz.func12, by kernel_rfl⟩) (allC (p := PF) (show PF (20, Tryz.f20) from ⟨Tryz.func20, by kernel_rfl⟩) (allC (p := PF) (show PF (36, Tryz.f36) from ⟨Tryz.func36, by kernel_rfl⟩) (allC (p := PF) (show PF (68, Tryz.f68) from ⟨Tryz.func68, by kernel_rfl⟩) (allC (p := PF) (show PF (132, Tryz.f132) from ⟨Tryz.func132, by kernel_rfl⟩) (allC (p := PF) (show PF (100, Tryz.f100) from ⟨Tryz.func100, by kernel_rfl⟩) (allC (p := PF) (show PF (164, Tryz.f164) from ⟨Tryz.func164, by kernel_rfl⟩) (allC (p := PF) (show PF (52, Tryz.f52) from ⟨Tryz.func52, by kernel_rfl⟩) (allC (p := PF) (show PF (84, Tryz.f84) from ⟨Tryz.func84, by kernel_rfl⟩) (allC (p := PF) (show PF (148, Tryz.f148) from ⟨Tryz.func148, by kernel_rfl⟩) (allC (p := PF) (show PF (116, Tryz.f116) from ⟨Tryz.func116, by kernel_rfl⟩) gfn_a3))))))))))))))))))))))))))))))))))))))))
theorem gfn_a1 : ∀ x ∈ [(59, Tryz.f59), (91, Tryz.f91), (155, Tryz.f155), (123, Tryz.f123), (5, Tryz.f5), (9, Tryz.f9), (17, Tryz.f17), (33, Tryz.f33), (65, Tryz.f65), (129, Tryz.f129), (97, Tryz.f97), (161, Tryz.f161), (49, Tryz.f49), (81, Tryz.f81), (145, Tryz.f145), (113, Tryz.f113), (25, Tryz.f25), (41, Tryz.f41), (73, Tryz.f73), (137, Tryz.f137), (105, Tryz.f105), (169, Tryz.f169), (57, Tryz.f57), (89, Tryz.f89), (153, Tryz.f153), (121, Tryz.f121), (13, Tryz.f13), (21, Tryz.f21), (37, Tryz.f37), (69, Tryz.f69), (133, Tryz.f133), (101, Tryz.f101), (165, Tryz.f165), (53, Tryz.f53), (85, Tryz.f85), (149, Tryz.f149), (117, Tryz.f117), (29, Tryz.f29), (45, Tryz.f45), (77, Tryz.f77), (141, Tryz.f141), (109, Tryz.f109), (173, Tryz.f173), (61, Tryz.f61), (93, Tryz.f93), (157, Tryz.f157), (125, Tryz.f125), (4, Tryz.f4), (8, Tryz.f8), (16, Tryz.f16), (32, Tryz.f32), (64, Tryz.f64), (128, Tryz.f128), (96, Tryz.f96), (160, Tryz.f160), (48, Tryz.f48), (80, Tryz.f80), (144, Tryz.f144), (112, Tryz.f112), (24, Tryz.f24), (40, Tryz.f40), (72, Tryz.f72), (136, Tryz.f136), (104, Tryz.f104), (168, Tryz.f168), (56, Tryz.f56), (88, Tryz.f88), (152, Tryz.f152), (120, Tryz.f120), (12, Tryz.f12), (20, Tryz.f20), (36, Tryz.f36), (68, Tryz.f68), (132, Tryz.f132), (100, Tryz.f100), (164, Tryz.f164), (52, Tryz.f52), (84, Tryz.f84), (148, Tryz.f148), (116, Tryz.f116), (28, Tryz.f28), (44, Tryz.f44), (76, Tryz.f76), (140, Tryz.f140), (108, Tryz.f108), (172, Tryz.f172), (60, Tryz.f60), (92, Tryz.f92), (156, Tryz.f156), (124, Tryz.f124), (6, Tryz.f6), (10, Tryz.f10), (18, Tryz.f18), (34, Tryz.f34), (66, Tryz.f66), (130, Tryz.f130), (98, Tryz.f98), (162, Tryz.f162), (50, Tryz.f50), (82, Tryz.f82), (146, Tryz.f146), (114, Tryz.f114), (26, Tryz.f26), (42, Tryz.f42), (74, Tryz.f74), (138, Tryz.f138), (106, Tryz.f106), (170, Tryz.f170), (58, Tryz.f58), (90, Tryz.f90), (154, Tryz.f154), (122, Tryz.f122), (14, Tryz.f14), (22, Tryz.f22), (38, Tryz.f38), (70, Tryz.f70), (134, Tryz.f134), (102, Tryz.f102), (166, Tryz.f166), (54, Tryz.f54), (86, Tryz.f86), (150, Tryz.f150), (118, Tryz.f118), (30, Tryz.f30), (46, Tryz.f46), (78, Tryz.f78), (142, Tryz.f142), (110, Tryz.f110), (174, Tryz.f174), (62, Tryz.f62), (94, Tryz.f94), (158, Tryz.f158), (126, Tryz.f126)], PF x := (allC (p := PF) (show PF (59, Tryz.f59) from ⟨Tryz.func59, by kernel_rfl⟩) (allC (p := PF) (show PF (91, Tryz.f91) from ⟨Tryz.func91, by kernel_rfl⟩) (allC (p := PF) (show PF (155, Tryz.f155) from ⟨Tryz.func155, by kernel_rfl⟩) (allC (p := PF) (show PF (123, Tryz.f123) from ⟨Tryz.func123, by kernel_rfl⟩) (allC (p := PF) (show PF (5, Tryz.f5) from ⟨Tryz.func5, by kernel_rfl⟩) (allC (p := PF) (show PF (9, Tryz.f9) from ⟨Tryz.func9, by kernel_rfl⟩) (allC (p := PF) (show PF (17, Tryz.f17) from ⟨Tryz.func17, by kernel_rfl⟩) (allC (p := PF) (show PF (33, Tryz.f33) from ⟨Tryz.func33, by kernel_rfl⟩) (allC (p := PF) (show PF (65, Tryz.f65) from ⟨Tryz.func65, by kernel_rfl⟩) (allC (p := PF) (show PF (129, Tryz.f129) from ⟨Tryz.func129, by kernel_rfl⟩) (allC (p := PF) (show PF (97, Tryz.f97) from ⟨Tryz.func97, by kernel_rfl⟩) (allC (p := PF) (show PF (161, Tryz.f161) from ⟨Tryz.func161, by kernel_rfl⟩) (allC (p := PF) (show PF (49, Tryz.f49) from ⟨Tryz.func49, by kernel_rfl⟩) (allC (p := PF) (show PF (81, Tryz.f81) from ⟨Tryz.func81, by kernel_rfl⟩) (allC (p := PF) (show PF (145, Tryz.f145) from ⟨Tryz.func145, by kernel_rfl⟩) (allC (p := PF) (show PF (113, Tryz.f113) from ⟨Tryz.func113, by kernel_rfl⟩) (allC (p := PF) (show PF (25, Tryz.f25) from ⟨Tryz.func25, by kernel_rfl⟩) (allC (p := PF) (show PF (41, Tryz.f41) from ⟨Tryz.func41, by kernel_rfl⟩) (allC (p := PF) (show PF (73, Tryz.f73) from ⟨Tryz.func73, by kernel_rfl⟩) (allC (p := PF) (show PF (137, Tryz.f137) from ⟨Tryz.func137, by kernel_rfl⟩) (allC (p := PF) (show PF (105, Tryz.f105) from ⟨Tryz.func105, by kernel_rfl⟩) (allC (p := PF) (show PF (169, Tryz.f169) from ⟨Tryz.func169, by kernel_rfl⟩) (allC (p := PF) (show PF (57, Tryz.f57) from ⟨Tryz.func57, by kernel_rfl⟩) (allC (p := PF) (show PF (89, Tryz.f89) from ⟨Tryz.func89, by kernel_rfl⟩) (allC (p := PF) (show PF (153, Tryz.f153) from ⟨Tryz.func153, by kernel_rfl⟩) (allC (p := PF) (show PF (121, Tryz.f121) from ⟨Tryz.func121, by kernel_rfl⟩) (allC (p := PF) (show PF (13, Tryz.f13) from ⟨Tryz.func13, by kernel_rfl⟩) (allC (p := PF) (show PF (21, Tryz.f21) from ⟨Tryz.func21, by kernel_rfl⟩) (allC (p := PF) (show PF (37, Tryz.f37) from ⟨Tryz.func37, by kernel_rfl⟩) (allC (p := PF) (show PF (69, Tryz.f69) from ⟨Tryz.func69, by kernel_rfl⟩) (allC (p := PF) (show PF (133, Tryz.f133) from ⟨Tryz.func133, by kernel_rfl⟩) (allC (p := PF) (show PF (101, Tryz.f101) from ⟨Tryz.func101, by kernel_rfl⟩) (allC (p := PF) (show PF (165, Tryz.f165) from ⟨Tryz.func165, by kernel_rfl⟩) (allC (p := PF) (show PF (53, Tryz.f53) from ⟨Tryz.func53, by kernel_rfl⟩) (allC (p := PF) (show PF (85, Tryz.f85) from ⟨Tryz.func85, by kernel_rfl⟩) (allC (p := PF) (show PF (149, Tryz.f149) from ⟨Tryz.func149, by kernel_rfl⟩) (allC (p := PF) (show PF (117, Tryz.f117) from ⟨Tryz.func117, by kernel_rfl⟩) (allC (p := PF) (show PF (29, Tryz.f29) from ⟨Tryz.func29, by kernel_rfl⟩) (allC (p := PF) (show PF (45, Tryz.f45) from ⟨Tryz.func45, by kernel_rfl⟩) (allC (p := PF) (show PF (77, Tryz.f77) from ⟨Tryz.func77, by kernel_rfl⟩) gfn_a2))))))))))))))))))))))))))))))))))))))))
theorem gfn_a0 : ∀ x ∈ [(3, Tryz.f3), (7, Tryz.f7), (15, Tryz.f15), (31, Tryz.f31), (63, Tryz.f63), (127, Tryz.f127), (95, Tryz.f95), (159, Tryz.f159), (47, Tryz.f47), (79, Tryz.f79), (143, Tryz.f143), (111, Tryz.f111), (175, Tryz.f175), (23, Tryz.f23), (39, Tryz.f39), (71, Tryz.f71), (135, Tryz.f135), (103, Tryz.f103), (167, Tryz.f167), (55, Tryz.f55), (87, Tryz.f87), (151, Tryz.f151), (119, Tryz.f119), (11, Tryz.f11), (19, Tryz.f19), (35, Tryz.f35), (67, Tryz.f67), (131, Tryz.f131), (99, Tryz.f99), (163, Tryz.f163), (51, Tryz.f51), (83, Tryz.f83), (147, Tryz.f147), (115, Tryz.f115), (27, Tryz.f27), (43, Tryz.f43), (75, Tryz.f75), (139, Tryz.f139), (107, Tryz.f107), (171, Tryz.f171), (59, Tryz.f59), (91, Tryz.f91), (155, Tryz.f155), (123, Tryz.f123), (5, Tryz.f5), (9, Tryz.f9), (17, Tryz.f17), (33, Tryz.f33), (65, Tryz.f65), (129, Tryz.f129), (97, Tryz.f97), (161, Tryz.f161), (49, Tryz.f49), (81, Tryz.f81), (145, Tryz.f145), (113, Tryz.f113), (25, Tryz.f25), (41, Tryz.f41), (73, Tryz.f73), (137, Tryz.f137), (105, Tryz.f105), (169, Tryz.f169), (57, Tryz.f57), (89, Tryz.f89), (153, Tryz.f153), (121, Tryz.f121), (13, Tryz.f13), (21, Tryz.f21), (37, Tryz.f37), (69, Tryz.f69), (133, Tryz.f133), (101, Tryz.f101), (165, Tryz.f165), (53, Tryz.f53), (85, Tryz.f85), (149, Tryz.f149), (117, Tryz.f117), (29, Tryz.f29), (45, Tryz.f45), (77, Tryz.f77), (141, Tryz.f141), (109, Tryz.f109), (173, Tryz.f173), (61, Tryz.f61), (93, Tryz.f93), (157, Tryz.f157), (125, Tryz.f125), (4, Tryz.f4), (8, Tryz.f8), (16, Tryz.f16), (32, Tryz.f32), (64, Tryz.f64), (128, Tryz.f128), (96, Tryz.f96), (160, Tryz.f160), (48, Tryz.f48), (80, Tryz.f80), (144, Tryz.f144), (112, Tryz.f112), (24, Tryz.f24), (40, Tryz.f40), (72, Tryz.f72), (136, Tryz.f136), (104, Tryz.f104), (168, Tryz.f168), (56, Tryz.f56), (88, Tryz.f88), (152, Tryz.f152), (120, Tryz.f120), (12, Tryz.f12), (20, Tryz.f20), (36, Tryz.f36), (68, Tryz.f68), (132, Tryz.f132), (100, Tryz.f100), (164, Tryz.f164), (52, Tryz.f52), (84, Tryz.f84), (148, Tryz.f148), (116, Tryz.f116), (28, Tryz.f28), (44, Tryz.f44), (76, Tryz.f76), (140, Tryz.f140), (108, Tryz.f108), (172, Tryz.f172), (60, Tryz.f60), (92, Tryz.f92), (156, Tryz.f156), (124, Tryz.f124), (6, Tryz.f6), (10, Tryz.f10), (18, Tryz.f18), (34, Tryz.f34), (66, Tryz.f66), (130, Tryz.f130), (98, Tryz.f98), (162, Tryz.f162), (50, Tryz.f50), (82, Tryz.f82), (146, Tryz.f146), (114, Tryz.f114), (26, Tryz.f26), (42, Tryz.f42), (74, Tryz.f74), (138, Tryz.f138), (106, Tryz.f106), (170, Tryz.f170), (58, Tryz.f58), (90, Tryz.f90), (154, Tryz.f154), (122, Tryz.f122), (14, Tryz.f14), (22, Tryz.f22), (38, Tryz.f38), (70, Tryz.f70), (134, Tryz.f134), (102, Tryz.f102), (166, Tryz.f166), (54, Tryz.f54), (86, Tryz.f86), (150, Tryz.f150), (118, Tryz.f118), (30, Tryz.f30), (46, Tryz.f46), (78, Tryz.f78), (142, Tryz.f142), (110, Tryz.f110), (174, Tryz.f174), (62, Tryz.f62), (94, Tryz.f94), (158, Tryz.f158), (126, Tryz.f126)], PF x := (allC (p := PF) (show PF (3, Tryz.f3) from ⟨Tryz.func3, by kernel_rfl⟩) (allC (p := PF) (show PF (7, Tryz.f7) from ⟨Tryz.func7, by kernel_rfl⟩) (allC (p := PF) (show PF (15, Tryz.f15) from ⟨Tryz.func15, by kernel_rfl⟩) (allC (p := PF) (show PF (31, Tryz.f31) from ⟨Tryz.func31, by kernel_rfl⟩) (allC (p := PF) (show PF (63, Tryz.f63) from ⟨Tryz.func63, by kernel_rfl⟩) (allC (p := PF) (show PF (127, Tryz.f127) from ⟨Tryz.func127, by kernel_rfl⟩) (allC (p := PF) (show PF (95, Tryz.f95) from ⟨Tryz.func95, by kernel_rfl⟩) (allC (p := PF) (show PF (159, Tryz.f159) from ⟨Tryz.func159, by kernel_rfl⟩) (allC (p := PF) (show PF (47, Tryz.f47) from ⟨Tryz.func47, by kernel_rfl⟩) (allC (p := PF) (show PF (79, Tryz.f79) from ⟨Tryz.func79, by kernel_rfl⟩) (allC (p := PF) (show PF (143, Tryz.f143) from ⟨Tryz.func143, by kernel_rfl⟩) (allC (p := PF) (show PF (111, Tryz.f111) from ⟨Tryz.func111, by kernel_rfl⟩) (allC (p := PF) (show PF (175, Tryz.f175) from ⟨Tryz.func175, by kernel_rfl⟩) (allC (p := PF) (show PF (23, Tryz.f23) from ⟨Tryz.func23, by kernel_rfl⟩) (allC (p := PF) (show PF (39, Tryz.f39) from ⟨Tryz.func39, by kernel_rfl⟩) (allC (p := PF) (show PF (71, Tryz.f71) from ⟨Tryz.func71, by kernel_rfl⟩) (allC (p := PF) (show PF (135, Tryz.f135) from ⟨Tryz.func135, by kernel_rfl⟩) (allC (p := PF) (show PF (103, Tryz.f103) from ⟨Tryz.func103, by kernel_rfl⟩) (allC (p := PF) (show PF (167, Tryz.f167) from ⟨Tryz.func167, by kernel_rfl⟩) (allC (p := PF) (show PF (55, Tryz.f55) from ⟨Tryz.func55, by kernel_rfl⟩) (allC (p := PF) (show PF (87, Tryz.f87) from ⟨Tryz.func87, by kernel_rfl⟩) (allC (p := PF) (show PF (151, Tryz.f151) from ⟨Tryz.func151, by kernel_rfl⟩) (allC (p := PF) (show PF (119, Tryz.f119) from ⟨Tryz.func119, by kernel_rfl⟩) (allC (p := PF) (show PF (11, Tryz.f11) from ⟨Tryz.func11, by kernel_rfl⟩) (allC (p := PF) (show PF (19, Tryz.f19) from ⟨Tryz.func19, by kernel_rfl⟩) (allC (p := PF) (show PF (35, Tryz.f35) from ⟨Tryz.func35, by kernel_rfl⟩) (allC (p := PF) (show PF (67, Tryz.f67) from ⟨Tryz.func67, by kernel_rfl⟩) (allC (p := PF) (show PF (131, Tryz.f131) from ⟨Tryz.func131, by kernel_rfl⟩) (allC (p := PF) (show PF (99, Tryz.f99) from ⟨Tryz.func99, by kernel_rfl⟩) (allC (p := PF) (show PF (163, Tryz.f163) from ⟨Tryz.func163, by kernel_rfl⟩) (allC (p := PF) (show PF (51, Tryz.f51) from ⟨Tryz.func51, by kernel_rfl⟩) (allC (p := PF) (show PF (83, Tryz.f83) from ⟨Tryz.func83, by kernel_rfl⟩) (allC (p := PF) (show PF (147, Tryz.f147) from ⟨Tryz.func147, by kernel_rfl⟩) (allC (p := PF) (show PF (115, Tryz.f115) from ⟨Tryz.func115, by kernel_rfl⟩) (allC (p := PF) (show PF (27, Tryz.f27) from ⟨Tryz.func27, by kernel_rfl⟩) (allC (p := PF) (show PF (43, Tryz.f43) from ⟨Tryz.func43, by kernel_rfl⟩) (allC (p := PF) (show PF (75, Tryz.f75) from ⟨Tryz.func75, by kernel_rfl⟩) (allC (p := PF) (show PF (139, Tryz.f139) from ⟨Tryz.func139, by kernel_rfl⟩) (allC (p := PF) (show PF (107, Tryz.f107) from ⟨Tryz.func107, by kernel_rfl⟩) (allC (p := PF) (show PF (171, Tryz.f171) from ⟨Tryz.func171, by kernel_rfl⟩) gfn_a1))))))))))))))))))))))))))))))))))))))))
theorem gfn_a : ∀ x ∈ gfnL, PF x := gfn_a0
theorem gmp_b : gmpL.all (mpB Tryz.prog) = true := by kernel_rfl
theorem gpt_b : gptL.all (ptB Tryz.prog) = true := by kernel_rfl
theorem gbt_b : gbtL.all (btB Tryz.prog) = true := by kernel_rfl
theorem gcm_b : gcmL.all (cmB Tryz.prog) = true := by kernel_rfl
theorem gus_b : gusL.all (usB Tryz.prog) = true := by kernel_rfl
theorem gok : GOK Tryz.prog gg where
  ty := fun t ti h => tl_get (q := fun i x => TIok Tryz.prog i x) gty_l gty_a t ti h
  mp := fun t k e h => tl_get (q := fun i x => ∀ k e, x = (k, e) → Tryz.prog.underlying i = some (.map k e) ∧ Tryz.prog.underlying k = some .string) gmp_l (allB _ mpB_ok gmp_b) t (k, e) h k e rfl
  pt := fun t e h => tl_get (q := fun i x => Tryz.prog.underlying i = some (.pointer x) ∧ ∃ j, Tryz.prog.info? x = some j ∧ j.size ≠ 0) gpt_l (allB _ ptB_ok gpt_b) t e h
  bt := fun t b h => tl_get (q := fun i x => ∃ j, Tryz.prog.info? i = some j ∧ j.bytes = x) gbt_l (allB _ btB_ok gbt_b) t b h
  cm := fun t b h => tl_get (q := fun i _ => Tryz.prog.stoodInHeld i = false ∧ Tryz.prog.eqGuardType Tryz.prog.depth i = false ∧ (Tryz.prog.fieldsOf i).toList.all (fun f => f.name != "_") = true) gcm_l (allB _ cmB_ok gcm_b) t b h
  fn := fun f fn h => tl_get (q := fun i x => Tryz.prog.funcs[i]? = some x ∧ (x.name == "runtime.NumGoroutine") = false) gfn_l gfn_a f fn h
  mix := by kernel_rfl
theorem uok : UOK Tryz.prog gg := fun t b h => tl_get (q := fun i _ => Tryz.prog.underlying i = some .unsafePointer) gus_l (allB _ usB_ok gus_b) t b h
theorem xok' : XOK Tryz.prog := xok Tryz.func79 (by kernel_rfl) (by kernel_rfl) (by kernel_rfl) (by kernel_rfl) Tryz.func147 (by kernel_rfl) (by kernel_rfl) (by kernel_rfl) (by kernel_rfl)
end Go.Proofs.YtdcpjaemlfgigaaGreatDoor
namespace Go.Proofs.YtdcpjaemlfgigaaGreatDoor
open Go Go.CE Go.GV Go.RowKit
set_option maxRecDepth 100000
def isT (v : AV) (_ : H) (_ : Pos) : Bool := match v with
  | .b true => true
  | _ => false
def ops0 : List AV := [.s [124,124], .i .i64 1, .s [38,38], .i .i64 2, .s [124], .i .i64 3, .s [94], .i .i64 4, .s [38], .i .i64 5, .s [61,61], .i .i64 6, .s [33,61], .i .i64 6, .s [60], .i .i64 7, .s [62], .i .i64 7, .s [60,61], .i .i64 7, .s [62,61], .i .i64 7, .s [60,60], .i .i64 8, .s [62,62], .i .i64 8, .s [43], .i .i64 9, .s [45], .i .i64 9, .s [42], .i .i64 10, .s [47], .i .i64 10, .s [37], .i .i64 10]
noncomputable def startK (k : H → Pos → Bool) : Bool := wrL ops0 .e 0 fun cs => hset .e (posN 2) (.cells 36 cs 0 true 293) fun h => k h (.i .h)
noncomputable def ran : Bool := startK fun h nx => callN gg 10000 (.fn 3 []) [] h nx isT
theorem names_run (hrun : ran = true) (W : World) {cs : Array Value} (hW : W.heap[1]? = some (.cells cs 293)) (hsz : cs.size = 36) (hcs : VL (fun _ => none) ops0 cs.toList) :
    Calls Tryz.prog 3 #[] W fun e W' => ∃ v, e = .returned v ∧ Below W.heap.size W W' ∧ v = .bool true := by
  unfold ran startK at hrun
  rw [wrL_eq, hset_eq] at hrun
  let m : Mp := fun j => if j = posN 2 then some ⟨1, 0, 36⟩ else none
  have hm : m (posN 2) = some ⟨1, 0, 36⟩ := by simp [m]
  have hmo : ∀ {j l}, m j = some l → j = posN 2 ∧ l = ⟨1, 0, 36⟩ := fun {j l} h => by
    by_cases hj : j = posN 2
    · subst hj; rw [hm] at h; cases h; exact ⟨rfl, rfl⟩
    · simp [m, hj] at h
  have hlt : 1 < W.heap.size := (Array.getElem?_eq_some_iff.1 hW).1
  have hro : isRo (hg (hs .e (posN 2) (.cells 36 (wl ops0 .e 0) 0 true 293)) (posN 2)) := by rw [hg_hs, if_pos rfl]; trivial
  have M : Mem m (hs .e (posN 2) (.cells 36 (wl ops0 .e 0) 0 true 293)) (.i .h) W := by
    refine ⟨fun id l h => ?_, fun i j k l hi hj _ => .inl ((hmo hi).1.trans (hmo hj).1.symm), fun id l h => ?_, fun id l h => ?_, fun id l h => ?_⟩
    · obtain ⟨rfl, rfl⟩ := hmo h
      rw [hg_hs, if_pos rfl]
      refine ⟨cs, (0, 0), hW, hsz, Nat.le_of_eq hsz.symm, fun i hi => ?_, fun c => by cases c⟩
      have hlen : ops0.length = 36 := rfl
      rw [wl_get, if_pos ⟨Nat.zero_le _, by omega⟩, Nat.sub_zero, Nat.zero_add, List.getD_eq_getElem?_getD, List.getElem?_eq_getElem (by omega)]
      obtain ⟨v, h1, h2⟩ := hcs.get (i := i) (a := ops0[i]) (by rw [List.getElem?_eq_getElem (by omega)]; rfl)
      exact ⟨v, by simpa using h1, h2.mono (fun _ _ h => by cases h)⟩
    · obtain ⟨rfl, rfl⟩ := hmo h; decide
    · obtain ⟨rfl, rfl⟩ := hmo h; exact hlt
    · obtain ⟨rfl, rfl⟩ := hmo h; rfl
  obtain ⟨v, h', nx', hk, hS⟩ := call_ok gok uok xok' 10000 _ _ _ _ _ hrun
  have hv : v = .b true := by
    unfold isT at hk
    split at hk
    · rfl
    · cases hk
  subst hv
  obtain ⟨d, h1, h2, h3⟩ := hS m W (.func (.func 3) #[] #[]) [] 36 M hm (VR.fnL (.nil m)) (.nil m)
  cases h1
  obtain ⟨args, h3⟩ := h3 3 [] rfl (by decide) (by decide)
  have h4 : (invoke (.fn (.func 3) #[]) (#[] ++ #[])).run Tryz.prog W = .ok (.enter 3 #[]) W := run_callFunc_enter (fn := Tryz.f3) Tryz.func3 (by kernel_rfl) rfl _ _
  have h5 : (invoke (.fn (.func 3) #[]) (#[] ++ #[])).run Tryz.prog W = .ok (.enter 3 args) W := h3
  have h6 := h2
  have h7 : Upon Tryz.prog (Fin m (hs .e (posN 2) (.cells 36 (wl ops0 .e 0) 0 true 293)) (.i .h) W (.b true) h' nx') ((invoke (.fn (.func 3) #[]) (#[] ++ #[])).run Tryz.prog W) := h2
  rw [h4] at h7
  refine (CallsIn.calls (F := FR none) (n := 0) (CallsIn.mono h7 fun e W' he => ?_) (fun _ => by simp [Fence.room]))
  cases e with
  | panicked _ => exact he.elim
  | outgrown => exact he.elim
  | returned cv =>
    obtain ⟨m', e1, e2, e3⟩ := he
    refine ⟨cv, rfl, ⟨e3.os, e3.tape, e3.output, e3.size, fun k hk => e3.old k hk fun id l hl _ => ?_⟩, e1.b_inv⟩
    obtain ⟨rfl, rfl⟩ := hmo hl
    exact hro
theorem glob1 {W : World} (h : W.ShapedOpen Tryz.prog) : ∃ cs, W.heap[1]? = some (.cells cs 293) ∧ cs.size = 36 := by
  have h0 : (((begin Tryz.prog (fun _ _ => 0) default).world.heap[1]?).bind Obj.row?).map (fun x => (x.1.size, x.2)) = some (36, 293) := by kernel_rfl
  cases hx : ((begin Tryz.prog (fun _ _ => 0) default).world.heap[1]?).bind Obj.row? with
  | none => rw [hx] at h0; cases h0
  | some x =>
    obtain ⟨z, t⟩ := x
    rw [hx] at h0
    simp only [Option.map_some, Option.some.injEq, Prod.mk.injEq] at h0
    obtain ⟨h1, rfl⟩ := h0
    obtain ⟨cs, h2, h3, _⟩ := h.1 1 z 293 (of_decide_eq_true (by kernel_rfl)) hx
    exact ⟨cs, h2, h3.trans h1⟩
end Go.Proofs.YtdcpjaemlfgigaaGreatDoor
namespace Go.Proofs.YtdcpjaemlfgigaaGreatDoor
set_option maxHeartbeats 0 in
theorem ran_true : ran = true := by kernel_rfl
end Go.Proofs.YtdcpjaemlfgigaaGreatDoor
namespace Go.Proofs.YtdcpjaemlfgigaaGreatDoor
open Go.ChangeShapes Go.WideShapes Go.ChangeAt Go.RowKit Go.GV Go.CE
theorem returnsInHanded_and_shaped {H : Type} {enc : TypeId × Value → H} {a : Assume} {C : Checked} {os : Os} {f : FuncId} {fn : Func} {s : ChangeSpec} {conds : List PathCond} {apart fresh handsOn again : Bool} {X : World → Array Value → Prop}
    (hX : ∀ (w w' : World) (args : Array Value), w.heap = w'.heap → X w args → X w' args)
    (own : ownKnob C.prog.godebug = none) (started : os.Started) (noInit : C.prog.inits.idxOf? f = none) (hfn : C.prog.funcs[f]? = some fn)
    (witness : ∃ (w : World) (tape : Tape) (i : Input), w.os = os ∧ (w.forCall tape i).Shaped C.prog ∧ i.vars = [] ∧ Input.okWide C.prog (w.forCall tape i) .any w.heap.size f i ∧
      ((s.pre enc C.prog fn conds apart (w.forCall tape i).memory i.args ∧ X (w.forCall tape i).memory i.args) ∧ sizedMet enc C.prog fn (OpenSpec.ofChange s) apart (w.forCall tape i).memory i.args) ∧ a.holds C.prog (lone (Frame.enter C.prog f i.args .normal) [] (w.forCall tape i)))
    (contract : ∀ (W : World) (base : Nat) (args : Array Value) (ds gs : List (DataW H)) (before : List MemPlace),
      (∀ (j : Nat) t v, fn.params[j]? = some t → args[j]? = some v → Value.okWide C.prog W .any base t v) →
      DataW.Whole enc C.prog fn.params.toList s.vars apart W args.toList ds gs before →
      conds.all (PathCond.test C.prog ⟨fn.params.toList, ds, s.plain.varTypes C.prog, gs⟩) = true →
      (DataW.weightsEach C.prog (fn.params.toList ++ s.plain.varTypes C.prog) (ds ++ gs)).all (· ≤ reachBytes) = true → X W args → W.ShapedOpen C.prog →
      a.holds C.prog (lone (Frame.enter C.prog f args .normal) [] W) →
      Calls C.prog f args W fun e W' => ∃ v, e = .returned v ∧ s.post enc C.prog fn apart fresh handsOn again W args v W') :
    ReturnsInHanded a C os f .any (fun w args => (s.pre enc C.prog fn conds apart w args ∧ X w args) ∧ sizedMet enc C.prog fn (OpenSpec.ofChange s) apart w args) (s.post enc C.prog fn apart fresh handsOn again) := by
  refine returnsInHanded_of_calls own started noInit witness ?_
  intro w tape i _ hsh _ hok hpre hholds
  obtain ⟨_, _, _, fn', hfn', _, _, _, _, hval⟩ := hok
  have e : fn' = fn := Option.some.inj (hfn'.symm.trans hfn)
  subst e
  obtain ⟨⟨⟨ds, gs, before, hw, hc⟩, hx⟩, hz⟩ := hpre
  have hw' := DataW.Whole.of_heap (w' := w.forCall tape i) (by rfl) hw
  refine (contract (w.forCall tape i) w.heap.size i.args ds gs before hval hw' hc (hz.weights hw) (hX _ _ _ (by rfl) hx) hsh hholds).mono fun e W' ⟨v, he, hp⟩ => ?_
  subst he
  exact ChangeSpec.post_blind hp
def lst : List (String × DataW Unit) := [("reglet/cond.operators", Rows.laid_reglet_cond_operators)]
theorem gOps : Tryz.prog.globalNamed "reglet/cond.operators" = some 1 := by kernel_rfl
theorem lstB (os : Os) : (World.laidAll Tryz.prog os lst).os = os := World.laidAll_os _ _ _
theorem met (os : Os) (args : Array Value) : laidMetH Tryz.prog lst ((World.laidAll Tryz.prog os lst).forCall (fun _ _ => 0) ⟨#[], args, []⟩).memory := by
  rw [MakeChecks.laidMetH_plain _ _ _ (by kernel_rfl)]
  exact laidMet_laidAll args (by kernel_rfl) (by kernel_rfl)
set_option maxRecDepth 100000 in
theorem pair_of {H : Type} {enc : TypeId × Value → H} {W : World} {b : Nat} {sp : Nat → Bool} {hd : Bool} {m : Nat} {cs : List Value} {x : DataW H × List MemPlace} (h : DataW.trod enc Tryz.prog W b sp hd m 292 cs = some x) :
    ∃ (s : ByteArray) (n : Int), cs = [.string s, .int .i64 n] ∧ x.1 = .agg [.lit (.string s.data.toList), .lit (.int .i64 n)] := by
  obtain ⟨xs, k, _, hx, hl, hxl, hf⟩ := DataW.trod_struct Tryz.underlying292 h
  have c292 : Tryz.prog.cellsOf 292 = 2 := by kernel_rfl
  have c9 : Tryz.prog.cellsOf 9 = 1 := by kernel_rfl
  have c3 : Tryz.prog.cellsOf 3 = 1 := by kernel_rfl
  rw [c292] at hl
  have h0 := hf 0 _ rfl
  have h1 := hf 1 _ rfl
  change DataW.trod enc Tryz.prog W b sp hd k 9 ((cs.drop 0).take (Tryz.prog.cellsOf 9)) = xs[0]? at h0
  change DataW.trod enc Tryz.prog W b sp hd k 3 ((cs.drop 1).take (Tryz.prog.cellsOf 3)) = xs[1]? at h1
  rw [c9] at h0
  rw [c3] at h1
  match xs, hxl, cs, hl, h0, h1, hx with
  | [x0, x1], _, [a, c], _, h0, h1, hx =>
    obtain ⟨s, e1, e2, _⟩ := DataW.trod_string Tryz.underlying9 (show DataW.trod _ Tryz.prog W b sp hd k 9 _ = some x0 from h0)
    obtain ⟨n, e3, e4, _⟩ := DataW.trod_int Tryz.underlying3 (show DataW.trod _ Tryz.prog W b sp hd k 3 _ = some x1 from h1)
    have e1 : [a] = [Value.string s] := e1
    have e3 : [c] = [Value.int .i64 n] := e3
    cases e1; cases e3
    refine ⟨s, n, rfl, ?_⟩
    rw [hx, e2, e4]; rfl
def opsN : List (List Nat × Int) := [([124,124], 1), ([38,38], 2), ([124], 3), ([94], 4), ([38], 5), ([61,61], 6), ([33,61], 6), ([60], 7), ([62], 7), ([60,61], 7), ([62,61], 7), ([60,60], 8), ([62,62], 8), ([43], 9), ([45], 9), ([42], 10), ([47], 10), ([37], 10)]
def opD (p : List Nat × Int) : DataW Unit := .agg [.lit (.string (p.1.map UInt8.ofNat)), .lit (.int .i64 p.2)]
theorem laid_ops : (Rows.laid_reglet_cond_operators : DataW Unit) = .agg (opsN.map opD) := rfl
theorem ops0_get : ∀ i : Fin 18, ops0[2 * i.1]? = (opsN[i.1]?).map (fun p => .s ((p.1.map UInt8.ofNat).map UInt8.toNat)) ∧ ops0[2 * i.1 + 1]? = (opsN[i.1]?).map (fun p => .i .i64 p.2) := by
  intro ⟨i, hi⟩
  match i, hi with
  | 0, _ | 1, _ | 2, _ | 3, _ | 4, _ | 5, _ | 6, _ | 7, _ | 8, _ | 9, _ | 10, _ | 11, _ | 12, _ | 13, _ | 14, _ | 15, _ | 16, _ | 17, _ => exact ⟨rfl, rfl⟩
  | n + 18, h => omega
theorem ops_of_laid {W : World} (h : laidMetH Tryz.prog lst W) {cs : Array Value} (hW : W.heap[1]? = some (.cells cs 293)) (hsz : cs.size = 36) : VL (fun _ => none) ops0 cs.toList := by
  rw [MakeChecks.laidMetH_plain _ _ _ (by kernel_rfl)] at h
  obtain ⟨ps, ⟨g0, t0, cs0, f0, p0, q0, hg0, ht0, hv0, hd0, _, _⟩, _, _⟩ := h
  obtain rfl := Option.some.inj (gOps.symm.trans hg0)
  have tOps : (Tryz.prog.globals[1]?).map (·.type) = some 293 := by kernel_rfl
  obtain rfl := Option.some.inj (tOps.symm.trans ht0)
  have hcs : cs0 = cs := by
    unfold World.var? at hv0
    rw [gOps] at hv0
    simp only [Option.bind_some, hW] at hv0
    exact (Option.some.inj hv0).symm
  subst hcs
  rw [laid_ops] at hd0
  obtain ⟨xs, m1, _, hx1, hlen, hn, hel⟩ := DataW.trod_array Tryz.underlying293 hd0
  have c292 : Tryz.prog.cellsOf 292 = 2 := by kernel_rfl
  simp only [Prod.mk.injEq, DataW.agg.injEq] at hx1
  have key : ∀ i, i < 18 → ∀ p, opsN[i]? = some p → cs0.toList[i * 2]? = some (.string ⟨(p.1.map UInt8.ofNat).toArray⟩) ∧ cs0.toList[i * 2 + 1]? = some (.int .i64 p.2) := fun i hi p hp => by
    have h1 := hel i hi
    rw [c292] at h1
    have hxi : i < xs.length := by omega
    rw [List.getElem?_eq_getElem hxi] at h1
    obtain ⟨s, n, e1, e2⟩ := pair_of h1
    have h2 : (opsN.map opD)[i]? = (xs.map (·.1))[i]? := by rw [hx1.1]
    rw [List.getElem?_map, List.getElem?_map, List.getElem?_eq_getElem hxi, hp] at h2
    simp only [Option.map_some, Option.some.injEq] at h2
    rw [e2] at h2
    unfold opD at h2
    simp only [DataW.agg.injEq, List.cons.injEq, DataW.lit.injEq, Lit.string.injEq, Lit.int.injEq, and_true, true_and] at h2
    obtain ⟨k1, k2⟩ := h2
    have d0 : cs0.toList[i * 2]? = some (.string s) := by
      have := congrArg (fun l => l[0]?) e1
      simpa [List.getElem?_take, List.getElem?_drop] using this
    have d1 : cs0.toList[i * 2 + 1]? = some (.int .i64 n) := by
      have := congrArg (fun l => l[1]?) e1
      simpa [List.getElem?_take, List.getElem?_drop] using this
    have hs : s = ⟨(p.1.map UInt8.ofNat).toArray⟩ := by
      obtain ⟨⟨l⟩⟩ := s
      have k1 : p.1.map UInt8.ofNat = l := k1
      rw [← k1]
    exact ⟨by rw [d0, hs], by rw [d1, ← k2]⟩
  have hlen36 : cs0.toList.length = 36 := by rw [Array.length_toList, hsz]
  refine ⟨hlen36.symm ▸ rfl, fun j a v ha hv => ?_⟩
  have hj : j < 36 := by
    have := (List.getElem?_eq_some_iff.1 hv).1
    rw [Array.length_toList, hsz] at this; exact this
  obtain ⟨i, hi⟩ : ∃ i, i = j / 2 := ⟨_, rfl⟩
  have hi18 : i < 18 := by omega
  obtain ⟨o1, o2⟩ := ops0_get ⟨i, hi18⟩
  have hlt : i < opsN.length := hi18
  obtain ⟨p, hp⟩ : ∃ p, opsN[i]? = some p := ⟨_, List.getElem?_eq_getElem hlt⟩
  obtain ⟨c1, c2⟩ := key i hi18 p hp
  simp only [hp, Option.map_some] at o1 o2
  rcases Nat.mod_two_eq_zero_or_one j with h0 | h0
  · obtain rfl : j = 2 * i := by omega
    rw [o1] at ha
    rw [show 2 * i = i * 2 by omega, c1] at hv
    cases ha; cases hv
    have := VR.s (m := fun _ => none) ⟨(p.1.map UInt8.ofNat).toArray⟩
    rw [strL_eq] at this
    exact this
  · obtain rfl : j = 2 * i + 1 := by omega
    rw [o2] at ha
    rw [show 2 * i + 1 = i * 2 + 1 by omega, c2] at hv
    cases ha; cases hv
    exact .i _ _
end Go.Proofs.YtdcpjaemlfgigaaGreatDoor
namespace Go.Proofs.YtdcpjaemlfgigaaGreatDoor
open Go.ChangeShapes Go.WideShapes Go.ChangeAt Go.RowKit Go.GV Go.CE
theorem own : ownKnob Tryz.prog.godebug = none := by kernel_rfl
theorem laidOut : laidOutB Tryz.prog = true := by kernel_rfl
theorem fMaps : mapsRowed Tryz.prog = true := by kernel_rfl
theorem fHeard : Tryz.prog.stopsHeard = true := by kernel_rfl
theorem fEnter : Tryz.prog.mayEnter = true := by kernel_rfl
theorem fLifts : (Rows.prepNamesRow.lifted == Tryz.prog.liftsFinal) = true := by kernel_rfl
theorem fMake : (Tryz.prog.make == some Rows.prepNamesRow.make) = true := by kernel_rfl
theorem jmk {a0 a1 a2 a3 a4 a5 a6 a7 a8 a9 a10 a11 a12 a13 a14 a15 a16 a17 a18 a19 a20 a21 a22 a23 a24 a25 a26 a27 a28 a29 a30 a31 : Bool} (h0 : a0 = true) (h1 : a1 = true) (h2 : a2 = true) (h3 : a3 = true) (h4 : a4 = true) (h5 : a5 = true) (h6 : a6 = true) (h7 : a7 = true) (h8 : a8 = true) (h9 : a9 = true) (h10 : a10 = true) (h11 : a11 = true) (h12 : a12 = true) (h13 : a13 = true) (h14 : a14 = true) (h15 : a15 = true) (h16 : a16 = true) (h17 : a17 = true) (h18 : a18 = true) (h19 : a19 = true) (h20 : a20 = true) (h21 : a21 = true) (h22 : a22 = true) (h23 : a23 = true) (h24 : a24 = true) (h25 : a25 = true) (h26 : a26 = true) (h27 : a27 = true) (h28 : a28 = true) (h29 : a29 = true) (h30 : a30 = true) (h31 : a31 = true) :
    (a0 && a1 && a2 && a3 && a4 && a5 && a6 && a7 && a8 && a9 && a10 && a11 && a12 && a13 && a14 && a15 && a16 && a17 && a18 && a19 && a20 && a21 && a22 && a23 && a24 && a25 && a26 && a27 && a28 && a29 && a30 && a31) = true := by simp only [h0, h1, h2, h3, h4, h5, h6, h7, h8, h9, h10, h11, h12, h13, h14, h15, h16, h17, h18, h19, h20, h21, h22, h23, h24, h25, h26, h27, h28, h29, h30, h31, Bool.and_self]
set_option maxRecDepth 100000 in
theorem lifted (os : Os) (started : os.Started) (H : Type) (enc : TypeId × Value → H) :
    ReturnsInHanded {} Tryz.checked os 3 .any (fun w args => (Rows.prepNamesSpec.pre enc Tryz.prog Tryz.f3 [] false w args ∧ laidMetH Tryz.prog lst w) ∧ sizedMet enc Tryz.prog Tryz.f3 (OpenSpec.ofChange Rows.prepNamesSpec) false w args)
      (Rows.prepNamesSpec.post enc Tryz.prog Tryz.f3 false true false false) := by
  refine returnsInHanded_and_shaped (C := Tryz.checked) (X := fun w _ => laidMetH Tryz.prog lst w) (fun _ _ _ hh h => h.of_heap hh) own started (by kernel_rfl) Tryz.func3
    (ChangeSpec.witness_at (enc := enc) (C := Tryz.checked) (os := os) (X := fun w _ => laidMetH Tryz.prog lst w) false (World.laidAll Tryz.prog os lst) #[] 3 (lstB os) (by kernel_rfl) (by kernel_rfl) (by kernel_rfl) (by kernel_rfl) (by kernel_rfl) (met os _)) ?_
  intro W base args ds gs before hval0 hW hcnd hz hL hsh _
  have hval : ∀ (j : Nat) t v, Tryz.f3.params[j]? = some t → args[j]? = some v → Value.okWide Tryz.prog W .any base t v := hval0
  have hW' := hW
  obtain ⟨p, q, hA0, hV, rfl, hfz, hnd⟩ := hW
  have hA : DataW.TrodAll enc Tryz.prog W 0 (fun _ => true) true Tryz.f3.params.toList args.toList ds p := hA0
  rw [Tryz.params3] at hA hval hz
  obtain ⟨hargs, rfl, rfl⟩ := trodAll_nil hA
  obtain rfl : args = #[] := by cases args; simp_all
  obtain ⟨rfl, rfl⟩ := trodVars_none hV
  obtain ⟨cs, hW1, hsz⟩ := glob1 hsh
  have hO := ops_of_laid hL hW1 hsz
  clear hA0 hval0
  refine (names_run ran_true W hW1 hsz hO).mono fun e W' ⟨v, he, bel, hv⟩ => ?_
  subst he hv
  exact ⟨_, rfl, _, _, _, [], _, [], hW', trodAll_mk1 (shut_bool Tryz.underlying4 _), trodAll_mk0, rfl, bel.frame _, fun h => by cases h⟩
theorem c9 : (Rows.prepNamesRow.inPlace == Tryz.prog.inPlace 3) = true := by kernel_rfl
theorem c10 : (Rows.prepNamesRow.unfollowed == Tryz.prog.unfollowed 3) = true := by kernel_rfl
theorem c11 : (Rows.prepNamesRow.recurses == Tryz.prog.recurses 3) = true := by kernel_rfl
theorem c12 : (Rows.prepNamesRow.named == Tryz.prog.varsNamed 3) = true := by kernel_rfl
theorem closed : joinedFacts Tryz.prog 3 Tryz.f3 Rows.prepNamesSpec Rows.prepNamesRow = true :=
  jmk (by kernel_rfl) laidOut fMaps (by kernel_rfl) (by kernel_rfl) (by kernel_rfl) (by kernel_rfl) (by kernel_rfl) (by kernel_rfl) c9 c10 c11 c12 (by kernel_rfl) (by kernel_rfl) (by kernel_rfl) (by kernel_rfl) (by kernel_rfl) (by kernel_rfl) (by kernel_rfl) (by kernel_rfl) (by kernel_rfl) (by kernel_rfl) (by kernel_rfl) fHeard fEnter fLifts fMake (by kernel_rfl) (by kernel_rfl) (by kernel_rfl) (by kernel_rfl)
theorem named : Tryz.prog.funcNamed Rows.prepNamesRow.func = some 3 := by kernel_rfl
theorem inst : Tryz.f3.isInstance Tryz.prog Rows.prepNamesRow.origin Rows.prepNamesRow.targs := of_decide_eq_true (by kernel_rfl)
theorem wrap : Tryz.f3.isWrapper Tryz.prog Rows.prepNamesRow.wrapper Rows.prepNamesRow.mainSum := by unfold Func.isWrapper; first | (rw [if_pos (by decide +kernel)]; kernel_rfl) | (rw [if_neg (by decide +kernel)]; exact ⟨rfl, rfl⟩)
theorem over : Rows.prepNamesRow.holds Tryz.pinned (OpenSpec.ofChange Rows.prepNamesSpec) :=
  OpenClaim.holds_of_wide 3 Tryz.f3 rfl rfl rfl rfl rfl rfl rfl ⟨rfl, rfl, rfl, rfl, rfl⟩ rfl rfl rfl rfl rfl named Tryz.func3 closed inst wrap
    (fun os started H enc _ => lifted os started H enc)
theorem prepNames_card : Rows.PrepNamesCardSaid :=
  Claim7.holds_tied_plain_at .later [] [.data] true (true, "8b9022eb4eece8ba0c84f8af0c9d88996d44ca945232ba9194cf00debbc8d886") false
    over (fun _ h => by cases h) (by kernel_rfl) (fun _ h => by cases h) prepNames_row_tie rfl ⟨rfl, rfl⟩ (by kernel_rfl) rfl
    (fun f fn hf hfn => by
      obtain rfl : f = 3 := Option.some.inj (named.symm.trans hf) |>.symm
      obtain rfl : fn = Tryz.f3 := (Option.some.inj (Tryz.func3.symm.trans hfn)).symm
      exact ⟨by kernel_rfl, fun j t ht => by
        rw [Tryz.params3] at ht
        simp at ht⟩)
    (by kernel_rfl)
#print axioms prepNames_card
end Go.Proofs.YtdcpjaemlfgigaaGreatDoor
