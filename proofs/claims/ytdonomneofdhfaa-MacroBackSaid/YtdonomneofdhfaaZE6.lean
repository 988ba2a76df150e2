/- The statement of MacroBack, out of its walk: for any input the law answers true, and the input stays. -/
import Derived.Test.YtdonomneofdhfaaZE5
import Derived.Test.YtdonomneofdhfaaRows
import Derived.ProofKit
import Derived.OpenShut
import Derived.ShutString
import Derived.ChangeOld
import Derived.Below
import Derived.SizedLaws
import Derived.HandedShaped
set_option linter.unusedSimpArgs false
set_option linter.unusedVariables false
namespace Go.Proofs.Ytdonomneofdhfaa
open Go.GV Go.RowKit
section
variable {H : Type} {enc : TypeId × Value → H} {w : World}
def strsAt (u : Im) (x : Value) : List ByteArray := (List.range (vN x)).map fun i : Nat => vStr (cellAt u x 1 i 0)
theorem strsAt_len (u : Im) (x : Value) : (strsAt u x).length = vN x := by simp [strsAt]
theorem strsAt_getD (u : Im) (x : Value) {i : Nat} (h : i < vN x) : (strsAt u x).getD i ⟨#[]⟩ = vStr (cellAt u x 1 i 0) := by
  rw [List.getD_eq_getElem?_getD]
  simp [strsAt, h]
theorem open_strs {x : Value} (h : TrZ enc Try.prog w 33 [x]) : ∃ A n c, x = .slice A n c ∧ SlAt (im w) x (strY.d (strsAt (im w) x)) ∧ n ≤ 140737488355328 := by
  obtain ⟨A, n, c, h1, h2, hz, h3, h4⟩ := h.slice Try.underlying33 (by kernel_rfl : _ = 1)
  have hn : vN x = n := by rw [h1]; rfl
  have hb : Try.prog.bytesOf 9 = 16 := by kernel_rfl
  rw [hb] at hz
  refine ⟨A, n, c, h1, ?_, by omega⟩
  refine h3.ext (by simp [dataAt, Lay.d, strsAt, hn]) rfl fun i hi j f f' hf hf' => ?_
  have hi' : i < n := hi
  obtain ⟨s, e1, _⟩ := (h4 i (by omega) (by omega)).str Try.underlying9
  have e1 : cellAt (im w) x 1 (i : Int) 0 = .string s := by simpa using e1
  have hg : (strsAt (im w) x).getD (i : Int).toNat ⟨#[]⟩ = vStr (cellAt (im w) x 1 i 0) := strsAt_getD (im w) x (i := i) (by omega)
  match j, hf, hf' with
  | 0, hf, hf' =>
    cases hf; cases hf'
    show cellAt (im w) x 1 (i : Int) 0 = .string ((strsAt (im w) x).getD (i : Int).toNat ⟨#[]⟩)
    rw [hg, e1, vStr]
  | j + 1, hf, hf' => simp [Lay.d, strY] at hf'
def ptAt (u : Im) (x : Value) (i : Int) : PV := ⟨vInt (cellAt u x 4 i 0), vStr (cellAt u x 4 i 1), vBool (cellAt u x 4 i 2), vA (cellAt u x 4 i 3), vN (cellAt u x 4 i 3), vC (cellAt u x 4 i 3)⟩
def ptsAt (u : Im) (x : Value) : List PV := (List.range (vN x)).map fun i : Nat => ptAt u x i
def prtsAt (u : Im) (x : Value) : List (List ByteArray) := (List.range (vN x)).map fun i : Nat => strsAt u (cellAt u x 4 i 3)
theorem ptsAt_len (u : Im) (x : Value) : (ptsAt u x).length = vN x := by simp [ptsAt]
theorem ptsAt_getD (u : Im) (x : Value) {i : Nat} (h : i < vN x) : (ptsAt u x).getD i pv0 = ptAt u x i := by
  rw [List.getD_eq_getElem?_getD]
  simp [ptsAt, h]
theorem prtsAt_getD (u : Im) (x : Value) {i : Nat} (h : i < vN x) : (prtsAt u x).getD i [] = strsAt u (cellAt u x 4 i 3) := by
  rw [List.getD_eq_getElem?_getD]
  simp [prtsAt, h]
theorem open_pts {x : Value} (h : TrZ enc Try.prog w 34 [x]) : ∃ A n c, x = .slice A n c ∧ n ≤ 140737488355328 ∧ SlAt (im w) x (pvY.d (ptsAt (im w) x)) ∧ PartsAt (im w) (ptsAt (im w) x) (prtsAt (im w) x) ∧ prtSm (prtsAt (im w) x) ∧
    ∀ i, ((ptsAt (im w) x).getD i pv0).pn ≤ 140737488355328 := by
  obtain ⟨A, n, c, h1, h2, hz, h3, h4⟩ := h.slice Try.underlying34 (by kernel_rfl : _ = 4)
  have hn : vN x = n := by rw [h1]; rfl
  have hb : Try.prog.bytesOf 46 = 56 := by kernel_rfl
  rw [hb] at hz
  have cell : ∀ i : Nat, i < n → (∃ k, cellAt (im w) x 4 i 0 = .int .i64 k) ∧ (∃ s, cellAt (im w) x 4 i 1 = .string s) ∧ (∃ b, cellAt (im w) x 4 i 2 = .bool b) ∧ TrZ enc Try.prog w 33 [cellAt (im w) x 4 i 3] := by
    intro i hi
    obtain ⟨_, hc⟩ := (h4 i (by omega) (by omega)).strct Try.underlying46 (by kernel_rfl)
    obtain ⟨k0, e0, _⟩ := (hc 0 _ _ rfl rfl).tr.int Try.underlying3
    obtain ⟨k1, e1, _⟩ := (hc 1 _ _ rfl rfl).tr.str Try.underlying9
    obtain ⟨k2, e2⟩ := (hc 2 _ _ rfl rfl).tr.bool Try.underlying4
    exact ⟨⟨k0, by simpa using e0⟩, ⟨k1, by simpa using e1⟩, ⟨k2, by simpa using e2⟩, hc 3 _ _ rfl rfl⟩
  have hprt : ∀ i : Nat, i < n → (ptAt (im w) x i).prt = cellAt (im w) x 4 i 3 ∧ vN (cellAt (im w) x 4 i 3) ≤ 140737488355328 := fun i hi => by
    obtain ⟨_, _, _, hp⟩ := cell i hi
    obtain ⟨A', n', c', e, _, e3⟩ := open_strs hp
    refine ⟨?_, by rw [e]; exact e3⟩
    simp only [PV.prt, ptAt, e, vA, vN, vC]
  refine ⟨A, n, c, h1, by omega, ?_, ⟨by simp [ptsAt, prtsAt], fun i hi => ?_⟩, fun i => ?_, fun i => ?_⟩
  · refine h3.ext (by simp [dataAt, Lay.d, ptsAt, hn]) rfl fun i hi j f f' hf hf' => ?_
    have hi' : i < n := hi
    have hg : (ptsAt (im w) x).getD (i : Int).toNat pv0 = ptAt (im w) x i := ptsAt_getD (im w) x (i := i) (by omega)
    obtain ⟨⟨k, e0⟩, ⟨s, e1⟩, ⟨b, e2⟩, _⟩ := cell i hi'
    match j, hf, hf' with
    | 0, hf, hf' =>
      cases hf; cases hf'
      show cellAt (im w) x 4 i 0 = .int .i64 ((ptsAt (im w) x).getD (i : Int).toNat pv0).kind
      rw [hg]; simp only [ptAt, e0, vInt]
    | 1, hf, hf' =>
      cases hf; cases hf'
      show cellAt (im w) x 4 i 1 = .string ((ptsAt (im w) x).getD (i : Int).toNat pv0).text
      rw [hg]; simp only [ptAt, e1, vStr]
    | 2, hf, hf' =>
      cases hf; cases hf'
      show cellAt (im w) x 4 i 2 = .bool ((ptsAt (im w) x).getD (i : Int).toNat pv0).space
      rw [hg]; simp only [ptAt, e2, vBool]
    | 3, hf, hf' =>
      cases hf; cases hf'
      show cellAt (im w) x 4 i 3 = ((ptsAt (im w) x).getD (i : Int).toNat pv0).prt
      rw [hg, (hprt i hi').1]
    | j + 4, hf, hf' => simp [Lay.d, pvY] at hf'
  · rw [ptsAt_len, hn] at hi
    rw [ptsAt_getD _ _ (by omega), prtsAt_getD _ _ (by omega), (hprt i hi).1]
    obtain ⟨_, _, _, hp⟩ := cell i hi
    obtain ⟨_, _, _, _, e, _⟩ := open_strs hp
    exact e
  · rcases Nat.lt_or_ge i n with hi | hi
    · rw [prtsAt_getD _ _ (by omega), strsAt_len]
      have := (hprt i hi).2
      omega
    · rw [List.getD_eq_getElem?_getD, List.getElem?_eq_none (by simp [prtsAt]; omega)]
      exact Nat.zero_le _
  · rcases Nat.lt_or_ge i n with hi | hi
    · rw [ptsAt_getD _ _ (by omega)]
      exact (hprt i hi).2
    · rw [List.getD_eq_getElem?_getD, List.getElem?_eq_none (by simp [ptsAt]; omega)]
      exact Nat.zero_le _
theorem open_macro {cs : Array Value} (hs : cs.size = 5) (h : TrZ enc Try.prog w 36 cs.toList) : ∃ (m : MT) (T : List (List ByteArray)) (s : MA), Value.agg cs = mVal m s ∧ MAt (im w) m T s ∧ m.name.size ≤ 140737488355328 ∧ m.ps.length ≤ 140737488355328 ∧ (∀ i, (m.body.getD i pv0).pn ≤ 140737488355328) := by
  obtain ⟨c0, c1, c2, c3, c4, rfl⟩ : ∃ c0 c1 c2 c3 c4, cs = #[c0, c1, c2, c3, c4] := by
    obtain ⟨l⟩ := cs
    match l, hs with
    | [a, b, c, d, e], _ => exact ⟨a, b, c, d, e, rfl⟩
  obtain ⟨_, hc⟩ := h.strct Try.underlying36 (by kernel_rfl)
  obtain ⟨nm, e0, z0⟩ := (hc 0 _ _ rfl rfl).str Try.underlying9
  obtain ⟨fn, e1⟩ := (hc 1 _ _ rfl rfl).tr.bool Try.underlying4
  obtain ⟨A2, n2, k2, e2, s2, z2⟩ := open_strs (hc 2 _ _ rfl rfl)
  obtain ⟨va, e3⟩ := (hc 3 _ _ rfl rfl).tr.bool Try.underlying4
  obtain ⟨A4, n4, k4, e4, z4, s4, p4, q4, r4⟩ := open_pts (hc 4 _ _ rfl rfl)
  simp only [List.cons.injEq, and_true] at e0 e1 e3
  subst e0 e1 e3
  have l2 : (strsAt (im w) c2).length = n2 := by rw [strsAt_len, e2]; rfl
  have l4 : (ptsAt (im w) c4).length = n4 := by rw [ptsAt_len, e4]; rfl
  refine ⟨⟨nm, fn, strsAt (im w) c2, va, ptsAt (im w) c4⟩, prtsAt (im w) c4, (A2, k2, A4, k4), ?_, ⟨?_, ?_, p4, ?_, ?_, q4⟩, z0, ?_, r4⟩
  · unfold mVal
    simp only [l2, l4]
    rw [← e2, ← e4]
  · show SlAt _ (.slice A2 (strsAt (im w) c2).length k2) _
    rw [l2, ← e2]; exact s2
  · show SlAt _ (.slice A4 (ptsAt (im w) c4).length k4) _
    rw [l4, ← e4]; exact s4
  · simp only [l2]; omega
  · simp only [l4]; omega
  · simp only [l2]; omega
end
end Go.Proofs.Ytdonomneofdhfaa
namespace Go.Proofs.Ytdonomneofdhfaa
open Go.ChangeShapes Go.WideShapes Go.ChangeAt Go.RowKit Go.GV
theorem own : ownKnob Try.prog.godebug = none := by kernel_rfl
theorem laidOut : laidOutB Try.prog = true := by kernel_rfl
theorem fMaps : mapsRowed Try.prog = true := by kernel_rfl
theorem fHeard : Try.prog.stopsHeard = true := by kernel_rfl
theorem fEnter : Try.prog.mayEnter = true := by kernel_rfl
theorem fLifts : (Rows.linesTellsRow.lifted == Try.prog.liftsFinal) = true := by kernel_rfl
theorem fMake : (Try.prog.make == some Rows.linesTellsRow.make) = true := by kernel_rfl
theorem jmk {a0 a1 a2 a3 a4 a5 a6 a7 a8 a9 a10 a11 a12 a13 a14 a15 a16 a17 a18 a19 a20 a21 a22 a23 a24 a25 a26 a27 a28 a29 a30 a31 : Bool} (h0 : a0 = true) (h1 : a1 = true) (h2 : a2 = true) (h3 : a3 = true) (h4 : a4 = true) (h5 : a5 = true) (h6 : a6 = true) (h7 : a7 = true) (h8 : a8 = true) (h9 : a9 = true) (h10 : a10 = true) (h11 : a11 = true) (h12 : a12 = true) (h13 : a13 = true) (h14 : a14 = true) (h15 : a15 = true) (h16 : a16 = true) (h17 : a17 = true) (h18 : a18 = true) (h19 : a19 = true) (h20 : a20 = true) (h21 : a21 = true) (h22 : a22 = true) (h23 : a23 = true) (h24 : a24 = true) (h25 : a25 = true) (h26 : a26 = true) (h27 : a27 = true) (h28 : a28 = true) (h29 : a29 = true) (h30 : a30 = true) (h31 : a31 = true) :
    (a0 && a1 && a2 && a3 && a4 && a5 && a6 && a7 && a8 && a9 && a10 && a11 && a12 && a13 && a14 && a15 && a16 && a17 && a18 && a19 && a20 && a21 && a22 && a23 && a24 && a25 && a26 && a27 && a28 && a29 && a30 && a31) = true := by simp only [h0, h1, h2, h3, h4, h5, h6, h7, h8, h9, h10, h11, h12, h13, h14, h15, h16, h17, h18, h19, h20, h21, h22, h23, h24, h25, h26, h27, h28, h29, h30, h31, Bool.and_self]
end Go.Proofs.Ytdonomneofdhfaa
namespace Go.Proofs.Ytdonomneofdhfaa
open Go.ChangeShapes Go.WideShapes Go.ChangeAt Go.RowKit Go.GV
set_option maxRecDepth 100000 in
theorem lifted (os : Os) (started : os.Started) (H : Type) (enc : TypeId × Value → H) :
    ReturnsInHanded {} Try.checked os 22 .any (Rows.macroBackSpec.pre6 enc Try.prog Try.f22 Rows.macroBackRow.domain false) (Rows.macroBackSpec.post enc Try.prog Try.f22 false true false false) := by
  refine returnsInHanded_of_change_shaped (C := Try.checked) own started (by kernel_rfl) Try.func22
    (ChangeSpec.witness6 (enc := enc) (C := Try.checked) false ⟨#[], #[.agg #[.string ⟨#[]⟩, .bool false, .slice none 0 0, .bool false, .slice none 0 0]], []⟩ 8 (by kernel_rfl) (by kernel_rfl) (by kernel_rfl) (by kernel_rfl)) ?_
  intro W base args ds gs before hval0 hW hcnd hz hsh _
  have hval : ∀ (j : Nat) t v, Try.f22.params[j]? = some t → args[j]? = some v → Value.okWide Try.prog W .any base t v := hval0
  have hW' := hW
  obtain ⟨p, q, hA0, hV, rfl, hfz, hnd⟩ := hW
  have hA : DataW.TrodAll enc Try.prog W 0 (fun _ => true) true Try.f22.params.toList args.toList ds p := hA0
  rw [Try.params22] at hA hval hz
  obtain ⟨v0, vs0, d0, ds0, p0, q0, hargs, rfl, rfl, h0, r0⟩ := trodAll_cons hA
  obtain ⟨rfl, rfl, rfl⟩ := trodAll_nil r0
  obtain rfl : args = #[v0] := by cases args; simp_all
  obtain ⟨rfl, rfl⟩ := trodVars_none hV
  obtain ⟨x0, rfl, hs0⟩ := okWide_struct Try.underlying36 (hval 0 36 v0 rfl rfl)
  have lt0 : ∀ x ∈ p0, x.block < W.heap.size := by obtain ⟨m, hm⟩ := h0; exact DataW.trod_lt m _ _ _ hm
  have hg : Glob (im W) := Try.laysM143.s1_3 W hsh
  have hc0 : x0.size = 5 := hs0.trans (by kernel_rfl)
  have hT0 : TrZ enc Try.prog W 36 x0.toList := TrZ.of (j := 0) hz rfl rfl h0
  obtain ⟨m, T, s, em, hm, n1, n2, n3⟩ := open_macro hc0 hT0
  have key : Calls Try.prog 22 #[.agg x0] W (PureP W fun v _ => v = .bool true) := by
    rw [em]; exact macroBack_any m T s W hm n1 n3 hg
  clear hA0 hval0
  refine (key).mono fun e W' ⟨v, he, bel, hv⟩ => ?_
  subst he hv
  exact ⟨_, rfl, _, _, _, [], _, [], hW', trodAll_mk1 (shut_bool Try.underlying4 _), (trodAll_cons_mk (Below.trod laidOut (by kernel_rfl) (of_decide_eq_true (by kernel_rfl)) h0 bel lt0) trodAll_mk0), rfl, bel.frame _, fun h => by cases h⟩
theorem c9 : (Rows.macroBackRow.inPlace == Try.prog.inPlace 22) = true := by kernel_rfl
theorem c10 : (Rows.macroBackRow.unfollowed == Try.prog.unfollowed 22) = true := by kernel_rfl
theorem c11 : (Rows.macroBackRow.recurses == Try.prog.recurses 22) = true := by kernel_rfl
theorem c12 : (Rows.macroBackRow.named == Try.prog.varsNamed 22) = true := by kernel_rfl
theorem closed : joinedFacts Try.prog 22 Try.f22 Rows.macroBackSpec Rows.macroBackRow = true :=
  jmk (by kernel_rfl) laidOut fMaps (by kernel_rfl) (by kernel_rfl) (by kernel_rfl) (by kernel_rfl) (by kernel_rfl) (by kernel_rfl) c9 c10 c11 c12 (by kernel_rfl) (by kernel_rfl) (by kernel_rfl) (by kernel_rfl) (by kernel_rfl) (by kernel_rfl) (by kernel_rfl) (by kernel_rfl) (by kernel_rfl) (by kernel_rfl) (by kernel_rfl) fHeard fEnter fLifts fMake (by kernel_rfl) (by kernel_rfl) (by kernel_rfl) (by kernel_rfl)
theorem named : Try.prog.funcNamed Rows.macroBackRow.func = some 22 := by kernel_rfl
theorem inst : Try.f22.isInstance Try.prog Rows.macroBackRow.origin Rows.macroBackRow.targs := of_decide_eq_true (by kernel_rfl)
theorem wrap : Try.f22.isWrapper Try.prog Rows.macroBackRow.wrapper Rows.macroBackRow.mainSum := by unfold Func.isWrapper; first | (rw [if_pos (by decide +kernel)]; kernel_rfl) | (rw [if_neg (by decide +kernel)]; exact ⟨rfl, rfl⟩)
theorem over : Rows.macroBackRow.holds Try.pinned (OpenSpec.ofChange Rows.macroBackSpec) :=
  OpenClaim.holds_of_wide 22 Try.f22 rfl rfl rfl rfl rfl rfl rfl ⟨rfl, rfl, rfl, rfl, rfl⟩ rfl rfl rfl rfl rfl named Try.func22 closed inst wrap
    (fun os started H enc _ => lifted os started H enc)
theorem macroBack_proved : Rows.MacroBackSaid := over
#print axioms macroBack_proved
end Go.Proofs.Ytdonomneofdhfaa
