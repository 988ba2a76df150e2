/- The statement of ReflowBack, out of its walk: for any input the law answers true, and the input stays. -/
import Derived.Test.YtnjmkeijjapejaaDoorXI3
import Derived.Lib.IndexLaws
import Derived.Lib.CountLaws
import Derived.Test.YtnjmkeijjapejaaDoorCards
import Derived.ProofKit
import Derived.OpenShut
import Derived.ShutString
import Derived.ChangeOld
import Derived.Below
import Derived.SizedLaws
import Derived.HandedShaped
import Derived.Handed
import Derived.Lay
import Derived.LaidLaws
import Derived.LaidMore
import Derived.Test.YtnjmkeijjapejaaDoorRows
import Derived.Test.YtnjmkeijjapejaaDoorTie
import Derived.SevenTiedAt
set_option linter.unusedSimpArgs false
set_option linter.unusedVariables false
namespace Go.Proofs.YtnjmkeijjapejaaDoor
open Go.GV Go.RowKit
abbrev Par := List (List ByteArray)
def opn (st : Par × Bool) : Par := if st.2 then st.1 else st.1 ++ [[]]
def addW (st : Par × Bool) (y : ByteArray) : Par × Bool := ((opn st).set ((opn st).length - 1) ((opn st).getD ((opn st).length - 1) [] ++ [y]), true)
def parLine (st : Par × Bool) (ws : List ByteArray) : Par × Bool := if ws = [] then (st.1, false) else ws.foldl addW st
def wsOf (s : ByteArray) : List (List ByteArray) := (linesP s).map wordsP
def parP (s : ByteArray) : Par := ((wsOf s).foldl parLine ([], false)).1
def szR (R : Par) : Nat := (R.map List.length).sum
theorem sumSet : ∀ (l : List Nat) (i : Nat) (a : Nat), i < l.length → (l.set i a).sum + l.getD i 0 = l.sum + a
  | [], i, a, h => by simp at h
  | x :: l, 0, a, h => by simp; omega
  | x :: l, i + 1, a, h => by
    simp only [List.length_cons, Nat.add_lt_add_iff_right] at h
    have := sumSet l i a h
    simp only [List.set_cons_succ, List.sum_cons, List.getD_cons_succ]
    omega
theorem opn_ok (st : Par × Bool) (h : st.2 = true → st.1 ≠ []) : szR (opn st) = szR st.1 ∧ 0 < (opn st).length ∧ (opn st).length ≤ st.1.length + 1 := by
  unfold opn
  split
  · rename_i hb
    exact ⟨rfl, List.length_pos_iff.2 (h hb), Nat.le_succ _⟩
  · exact ⟨by simp [szR], by simp, by simp⟩
theorem addW_ok (st : Par × Bool) (y : ByteArray) (h : st.2 = true → st.1 ≠ []) (hl : st.1.length ≤ szR st.1) : szR (addW st y).1 = szR st.1 + 1 ∧ (addW st y).1 ≠ [] ∧ (addW st y).1.length ≤ szR (addW st y).1 := by
  obtain ⟨h1, h2, h3⟩ := opn_ok st h
  have e : szR (addW st y).1 = szR st.1 + 1 := by
    unfold szR addW
    simp only [List.map_set]
    have := sumSet ((opn st).map List.length) ((opn st).length - 1) ((opn st).getD ((opn st).length - 1) [] ++ [y]).length (by simp; omega)
    have e2 : ((opn st).map List.length).getD ((opn st).length - 1) 0 = ((opn st).getD ((opn st).length - 1) []).length := by
      simp [List.getD_eq_getElem?_getD, List.getElem?_eq_getElem (show (opn st).length - 1 < (opn st).length by omega)]
    rw [e2, List.length_append] at this
    unfold szR at h1
    simp only [List.length_singleton] at this
    simp only [List.length_append, List.length_singleton]
    omega
  refine ⟨e, ?_, ?_⟩
  · intro hh
    have := congrArg List.length hh
    simp only [addW, List.length_set, List.length_nil] at this
    omega
  · rw [e]
    simp only [addW, List.length_set]
    omega
theorem getD_sz {R : Par} {i : Nat} (h : i < R.length) : (R.getD i []).length ≤ szR R := by
  unfold szR
  induction R generalizing i with
  | nil => simp at h
  | cons r R ih =>
    cases i with
    | zero => simp
    | succ i =>
      simp only [List.length_cons, Nat.add_lt_add_iff_right] at h
      have := ih h
      simp only [List.getD_cons_succ, List.map_cons, List.sum_cons]
      omega
structure SlV where
  a : Option Addr
  n : Nat
  c : Nat
def SlV.val (v : SlV) : Value := .slice v.a v.n v.c
def slY : Lay SlV := ⟨[fun v => .slice v.a v.n v.c], ⟨none, 0, 0⟩⟩
def itemsP (V : List SlV) (R : Par) : List SI := List.zipWith (fun v r => ⟨v.val, 9, strY.d r⟩) V R
theorem itemsP_set {V : List SlV} {R : Par} {i : Nat} {v : SlV} {r : List ByteArray} : itemsP (V.set i v) (R.set i r) = (itemsP V R).set i ⟨v.val, 9, strY.d r⟩ := by
  unfold itemsP
  refine List.ext_getElem? fun j => ?_
  simp only [List.getElem?_zipWith, List.getElem?_set, List.length_zipWith]
  by_cases h : i = j
  · subst h
    simp only [if_true]
    by_cases h1 : i < V.length
    · by_cases h2 : i < R.length
      · rw [if_pos h1, if_pos h2, if_pos (by omega)]
      · rw [if_pos h1, if_neg h2, if_neg (by omega)]
    · rw [if_neg h1, if_neg (show ¬ i < min V.length R.length by omega)]
  · simp only [if_neg h]
theorem itemsP_push {V : List SlV} {R : Par} (h : V.length = R.length) (v : SlV) (r : List ByteArray) : itemsP (V ++ [v]) (R ++ [r]) = itemsP V R ++ [⟨v.val, 9, strY.d r⟩] := by
  unfold itemsP
  rw [List.zipWith_append h]; rfl
theorem itemsP_get {V : List SlV} {R : Par} {i : Nat} (h1 : i < V.length) (h2 : i < R.length) : (itemsP V R)[i]? = some ⟨(V.getD i ⟨none, 0, 0⟩).val, 9, strY.d (R.getD i [])⟩ := by
  unfold itemsP
  rw [List.getElem?_zipWith, List.getElem?_eq_getElem h1, List.getElem?_eq_getElem h2]
  simp [List.getD_eq_getElem?_getD, List.getElem?_eq_getElem h1, List.getElem?_eq_getElem h2]
theorem itemsP_len {V : List SlV} {R : Par} (h : V.length = R.length) : (itemsP V R).length = R.length := by simp [itemsP, h]
def ParsR (R : Par) : Value → Im → Prop := StarR (fun s : Option Addr × Nat × List SlV => .slice s.1 R.length s.2.1) (fun s => itemsP s.2.2 R ++ [⟨.slice s.1 R.length s.2.1, 23, slY.d s.2.2⟩]) (fun s => s.2.2.length = R.length)
theorem strOne1 : ∀ x : ByteArray, ∀ y ∈ strY.el x, oneB y = true := by
  intro x y hy
  simp [Lay.el, strY] at hy
  subst hy; rfl
def tblP : Tbl := [([], [0, 2, 7]), ([0], [2, 7]), ([2], [0, 4, 7]), ([7], [0, 2, 8]), ([0, 2], [4, 7]), ([0, 7], [2, 8]), ([2, 4], [0, 5, 7]), ([2, 7], [0, 4, 8]), ([7, 8], [0, 2]), ([0, 2, 4], [5, 7]), ([0, 2, 7], [4, 8]), ([0, 7, 8], [2]), ([2, 4, 5], [0, 7]), ([2, 4, 7], [0, 5, 8]), ([2, 7, 8], [0, 4]), ([0, 2, 4, 5], [7]), ([0, 2, 4, 7], [5, 8]), ([0, 2, 7, 8], [4]), ([2, 4, 5, 7], [0, 8]), ([2, 4, 7, 8], [0, 5]), ([0, 2, 4, 5, 7], [8]), ([0, 2, 4, 7, 8], [5]), ([2, 4, 5, 7, 8], [0, 9]), ([0, 2, 4, 5, 7, 8], [9]), ([2, 4, 5, 7, 8, 9], [0]), ([0, 2, 4, 5, 7, 8, 9], [10])]
set_option maxHeartbeats 4000000 in
set_option maxRecDepth 100000 in
theorem paragraphs_any (s : ByteArray) (w : World) (hg : Glob (im w)) (hs : s.size < 4294967281) (hT : ((wsOf s).map List.length).sum * 24 + 100 ≤ 140737488355328)
    (hl : ∀ x ∈ linesP s, x.size ≤ 281474976710656 ∧ ∀ y ∈ wordsP x, y.size ≤ 281474976710656) : Calls Tryd.prog 37 #[.string s] w (PureP w (ParsR (parP s))) := by
  refine x_fun tt_ok Tryd.func37 rfl rfl [] 0 [.v (.string s)] rfl rfl rfl rfl (fun b hb => by cases hb) ?_
  refine x_vc tt_ok ?_
  refine xl_call _ rfl rfl rfl rfl fn56 rfl rfl (fun E w F _ => linesFn_any s w) (fun v u1 u2 hu2 hs2 hv => ?_)
  obtain ⟨b, rfl, hb⟩ := hv
  have hb2 := of_sub_cut hs2 hb
  have hg2 : Glob u2 := hg.sub hu2.sub
  refine xl_go tt_ok ?_
  refine x_nilCell 0 23 slY [] [] rfl ?_
  refine x_star0 0 ?_
  refine x_rangeO (σ := Bool × List SlV × Par) (τ := Empty) rfl fn79 (lines_iter s b u2 hb2 hg2 hs) [(3, .p 0 0), (4, .p 1 0)]
    (fun (one, V, R) => [(0, .box 31 [.r 5]), (1, .box 4 [.v (.bool one)]), (5, .row 23 (slY.d V)), (3, .gen (starHp (itemsP V R)))]) (fun _ => 6)
    (fun k (one, V, R) _ => ((wsOf s).take k).foldl parLine ([], false) = (R, one) ∧ V.length = R.length ∧ szR R = (((wsOf s).take k).map List.length).sum ∧ (one = true → R ≠ []) ∧ R.length ≤ szR R)
    (fun _ => []) (fun _ => 6) (fun _ e _ => False) (false, [], []) [(5, some 2)] (.of rfl rfl rfl rfl rfl rfl) ⟨rfl, rfl, rfl, (fun h => by cases h), Nat.le_refl _⟩ rfl
    (fun _ => rfl) (fun _ => rfl) (fun _ => by decide) (fun _ => by decide) rfl (fun l k x st u3 Fr Fr' hFr hx hu3 hgs => ?_) (fun st u3 hu3 hgs => ?_) (fun _ e u3 hu3 hgs => hgs.elim)
  · obtain ⟨one, V, R⟩ := st
    obtain ⟨g1, g2, g3, g4, g5⟩ := hgs
    rw [List.getElem?_map] at hx
    obtain ⟨ln, hln, rfl⟩ := Option.map_eq_some_iff.1 hx
    have hk : (wsOf s)[k]? = some (wordsP ln) := by rw [wsOf, List.getElem?_map, hln]; rfl
    obtain ⟨hl1, hl2⟩ := hl ln (List.mem_of_getElem? hln)
    have hsum : szR R + (wordsP ln).length ≤ ((wsOf s).map List.length).sum := by
      rw [g3]
      have h2 := congrArg (fun l => (l.map List.length).sum) (List.take_append_drop k (wsOf s))
      simp only [List.map_append, List.sum_append] at h2
      rw [show (wsOf s).drop k = wordsP ln :: (wsOf s).drop (k + 1) from drop_get hk] at h2
      simp only [List.map_cons, List.sum_cons] at h2
      omega
    have next : ((wsOf s).take (k + 1)).foldl parLine ([], false) = parLine (R, one) (wordsP ln) := by
      rw [take_get hk, List.foldl_append, g1]; rfl
    have nsum : (((wsOf s).take (k + 1)).map List.length).sum = szR R + (wordsP ln).length := by
      rw [take_get hk, List.map_append, List.sum_append, ← g3]; simp
    refine x_vc tt_ok ?_
    refine ⟨rfl, rfl, x_vc tt_ok ?_⟩
    refine xl_call _ rfl rfl rfl rfl fn57 rfl rfl (fun E w F _ => wordsFn_any ln w) (fun v u4 u5 hu5 hs5 hv => ?_)
    obtain ⟨b2, rfl, hb3⟩ := hv
    have hb4 := of_sub_cut hs5 hb3
    refine xl_go tt_ok ?_
    refine x_rangeN (kF := 4) (FrO := Fr') (σ := Bool × Bool × List SlV × Par) (τ := Empty) rfl hFr rfl fn82 (words_iter ln b2 u5 hb4 (by omega)) [(3, .p 0 0), (4, .p 1 0), (6, .p 6 0)]
      (fun (on, em, V, R) => [(0, .box 31 [.r 8]), (1, .box 4 [.v (.bool on)]), (6, .box 4 [.v (.bool em)]), (8, .row 23 (slY.d V)), (3, .gen (starHp (itemsP V R))), (4, .gen Fr')]) (fun _ => 9)
      (fun j (on, em, V', R') _ => ((wordsP ln).take j).foldl addW (R, one) = (R', on) ∧ V'.length = R'.length ∧ szR R' = szR R + j ∧ (on = true → R' ≠ []) ∧ R'.length ≤ szR R' ∧ em = decide (j = 0) ∧ (0 < j → on = true))
      (fun _ => []) (fun _ => 9) (fun _ e _ => False) (one, true, V, R) [(8, some 5)] (.of rfl rfl rfl rfl rfl rfl) ⟨rfl, g2, rfl, g4, g5, rfl, (fun h => by omega)⟩ rfl
      (fun _ => rfl) (fun _ => rfl) (fun _ => by show 7 < 9; decide) (fun _ => by show 7 ≤ 9; decide) rfl (fun l2 j y st u6 FrI FrI' hFrI hy hu6 hgs2 => ?_) (fun st u6 hu6 hgs2 => ?_) (fun _ e u6 hu6 hgs2 => hgs2.elim)
    · obtain ⟨on, em, V1, R1⟩ := st
      obtain ⟨i1, i2, i3, i4, i5, i6, i7⟩ := hgs2
      rw [List.getElem?_map] at hy
      obtain ⟨wd, hwd, rfl⟩ := Option.map_eq_some_iff.1 hy
      have hjl : j < (wordsP ln).length := (List.getElem?_eq_some_iff.1 hwd).1
      have hws := hl2 wd (List.mem_of_getElem? hwd)
      have nextW : ((wordsP ln).take (j + 1)).foldl addW (R, one) = addW (R1, on) wd := by
        rw [take_get hwd, List.foldl_append, i1]; rfl
      have hadd := addW_ok (R1, on) wd i4 i5
      have hopn := opn_ok (R1, on) i4
      refine x_vc tt_ok ?_
      refine ⟨rfl, rfl, ?_⟩
      refine x_block (x_seq ?_)
      refine x_via (σ := List SlV × Par) (fun (V2, R2) => ⟨[(7, .v (.string wd)), (3, .p 0 0), (4, .p 1 0), (6, .p 6 0)], [],
        [(7, .gen FrI'), (0, .box 31 [.r 9]), (1, .box 4 [.v (.bool on)]), (6, .box 4 [.v (.bool em)]), (9, .row 23 (slY.d V2)), (3, .gen (starHp (itemsP V2 R2))), (4, .gen Fr')], 10⟩)
        (fun (V2, R2) _ => V2.length = R2.length ∧ R2 = opn (R1, on)) (fun _ => by show 9 ≤ 10; decide) ?_ ?_
      · refine x_vc tt_ok ?_
        refine x_if (fun h1 => ?_) (fun h1 => ?_)
        · have h1 : (em && !on) = true := h1
          have hon : on = false := by simp only [Bool.and_eq_true, Bool.not_eq_true'] at h1; exact h1.2
          subst hon
          have i5' : V1.length ≤ szR R1 := by rw [i2]; exact i5
          refine xl_push tt_ok slY V1 ⟨none, 0, 0⟩ 24 (cs := [.slice none 0 0]) rfl rfl rfl rfl rfl rfl rfl rfl rfl rfl rfl rfl (by kernel_rfl) rfl rfl rfl rfl rfl (fun n hn => by cases hn; decide) rfl rfl rfl (by omega) (by omega) ?_
          refine xl_starNil 3 9 strY rfl ?_
          refine xl_go tt_ok ?_
          have e := itemsP_push i2 ⟨none, 0, 0⟩ []
          refine meet (V1 ++ [⟨none, 0, 0⟩], R1 ++ [[]]) [] ?_ ⟨by simp [i2], rfl⟩
          simp only [e]
          exact .of rfl rfl rfl rfl rfl rfl
        · have h1 : (em && !on) = false := h1
          have hon : on = true := by
            cases on with
            | true => rfl
            | false =>
              have : em = false := by simpa using h1
              rw [i6] at this
              have := i7 (by have := of_decide_eq_false this; omega)
              exact this
          subst hon
          exact meet (V1, R1) [(9, some 8)] (.of rfl rfl rfl rfl rfl rfl) ⟨i2, rfl⟩
      · rintro ⟨V2, R2⟩ u7 hu7 ⟨k1, k2⟩
        refine x_vc tt_ok ?_
        have hR2 : 0 < R2.length := by rw [k2]; exact hopn.2.1
        have hsz2 : szR R2 = szR R1 := by rw [k2]; exact hopn.1
        have hi : (((V2.length : Nat) : Int) - 1).toNat < V2.length := by omega
        have hi2 : (((V2.length : Nat) : Int) - 1).toNat < R2.length := by omega
        have hei : (((V2.length : Nat) : Int) - 1).toNat = R2.length - 1 := by omega
        have hgd := getD_sz hi2
        have hub : V2.length ≤ szR R1 + 1 := by rw [k1, k2]; have := hopn.2.2; simp only at this; omega
        repeat (refine And.intro ?_ ?_; first | omega | (simp only [Lay.d_n]; omega) | (simp only [decide_eq_true_eq, decide_eq_false_iff_not, Bool.or_eq_false_iff, Bool.and_eq_true, Bool.or_eq_true, Bool.and_eq_false_iff, Bool.not_eq_true', Bool.not_eq_false', Lay.d_n]; omega) | (simp only [decide_eq_true_eq, decide_eq_false_iff_not, Bool.or_eq_false_iff, Bool.and_eq_true, Bool.or_eq_true, Bool.and_eq_false_iff, Bool.not_eq_true', Bool.not_eq_false']; omega) | (simp only [decide_eq_true_eq, decide_eq_false_iff_not, Bool.or_eq_false_iff]; simp only [Lay.d_n]; omega))
        refine x_drawA mix ?_
        refine xa_pures tt_ok (fuel := 9) [1, 3, 6] rfl (by kernel_rfl) (by kernel_rfl) (fun _ _ _ hh => hh) (by kernel_rfl) (by kernel_rfl) ?_
        refine xa_fam (fuel := 2) (N := 7) tblP (fun D => ⟨selO D [(31, [(9, .r 11), (5, .v (V2.getD (((V2.length : Nat) : Int) - 1).toNat ⟨none, 0, 0⟩).val)])] ++ (selD D [(0, (26, .r 9)), (2, (28, .r 9)), (4, (30, .e 9 1 (((V2.length : Nat) : Int) - 1) 0)), (7, (33, .v (.string wd))), (8, (34, .r 10)), (9, (35, .r 12))] ++
            [(27, .v (.int .i64 (((V2.length : Nat) : Int) - 1))), (29, .v (.int .i64 (((V2.length : Nat) : Int) - 1))), (32, .v (.string wd)), (3, .p 0 0), (4, .p 1 0), (6, .p 6 0)]), [],
            selO D [(10, [(8, .row 9 (strY.d [wd]))]), (11, [(9, .emp)]), (12, [(9, .row 9 (strY.d (R2.getD (((V2.length : Nat) : Int) - 1).toNat [] ++ [wd])))]), (3, [(9, .gen (starHp ((itemsP V2 R2).set (((V2.length : Nat) : Int) - 1).toNat SI.hole)))])] ++
            [(7, .gen FrI'), (0, .box 31 [.r 9]), (1, .box 4 [.v (.bool true)]), (6, .box 4 [.v (.bool false)]), (9, .row 23 (slY.d V2)), (4, .gen Fr')] ++ selN D [(9, (3, .gen (starHp (itemsP V2 R2))))], 13⟩) (fun D i => insD i D) rfl (by kernel_rfl) (by kernel_rfl) (by kernel_rfl) [] (.of rfl rfl rfl rfl rfl rfl) (fun _ => by show 10 ≤ 13; omega) ?_ [0, 2, 4, 5, 7, 8, 9] (by kernel_rfl) (fun u8 hu8 => ?_)
        · skip
          refine And.intro (And.intro ?_ (And.intro ?_ (And.intro ?_ (trivial)))) (And.intro (And.intro ?_ (And.intro ?_ (trivial))) (And.intro (And.intro ?_ (And.intro ?_ (And.intro ?_ (trivial)))) (And.intro (And.intro ?_ (And.intro ?_ (And.intro ?_ (trivial)))) (And.intro (And.intro ?_ (And.intro ?_ (trivial))) (And.intro (And.intro ?_ (And.intro ?_ (trivial))) (And.intro (And.intro ?_ (And.intro ?_ (And.intro ?_ (trivial)))) (And.intro (And.intro ?_ (And.intro ?_ (And.intro ?_ (trivial)))) (And.intro (And.intro ?_ (And.intro ?_ (trivial))) (And.intro (And.intro ?_ (And.intro ?_ (trivial))) (And.intro (And.intro ?_ (And.intro ?_ (trivial))) (And.intro (And.intro ?_ (trivial)) (And.intro (And.intro ?_ (And.intro ?_ (trivial))) (And.intro (And.intro ?_ (And.intro ?_ (And.intro ?_ (trivial)))) (And.intro (And.intro ?_ (And.intro ?_ (trivial))) (And.intro (And.intro ?_ (trivial)) (And.intro (And.intro ?_ (And.intro ?_ (trivial))) (And.intro (And.intro ?_ (trivial)) (And.intro (And.intro ?_ (And.intro ?_ (trivial))) (And.intro (And.intro ?_ (And.intro ?_ (trivial))) (And.intro (And.intro ?_ (trivial)) (And.intro (And.intro ?_ (trivial)) (And.intro (And.intro ?_ (And.intro ?_ (trivial))) (And.intro (And.intro ?_ (trivial)) (And.intro (And.intro ?_ (trivial)) (And.intro trivial (trivial))))))))))))))))))))))))))
          · intro u' hu'; refine xl_go tt_ok ?_; exact meet () [] (.of rfl rfl rfl rfl rfl rfl) trivial
          · intro u' hu'; refine xl_go tt_ok ?_; exact meet () [] (.of rfl rfl rfl rfl rfl rfl) trivial
          · intro u' hu'; refine xl_call0 (.string wd) rfl rfl rfl rfl fn58 rfl rfl (fun E w F _ => clone_any wd w hws) ?_; refine xl_go tt_ok ?_; exact meet () [] (.of rfl rfl rfl rfl rfl rfl) trivial
          · intro u' hu'; refine xl_go tt_ok ?_; exact meet () [] (.of rfl rfl rfl rfl rfl rfl) trivial
          · intro u' hu'; refine xl_call0 (.string wd) rfl rfl rfl rfl fn58 rfl rfl (fun E w F _ => clone_any wd w hws) ?_; refine xl_go tt_ok ?_; exact meet () [] (.of rfl rfl rfl rfl rfl rfl) trivial
          · intro u' hu'; refine xl_go tt_ok ?_; exact meet () [] (.of rfl rfl rfl rfl rfl rfl) trivial
          · intro u' hu'; refine xl_go tt_ok ?_; refine And.intro (by omega) (And.intro (by simp only [Lay.d_n]; omega) ?_); exact meet () [] (.of rfl rfl rfl rfl rfl rfl) trivial
          · intro u' hu'; refine xl_call0 (.string wd) rfl rfl rfl rfl fn58 rfl rfl (fun E w F _ => clone_any wd w hws) ?_; refine xl_go tt_ok ?_; exact meet () [] (.of rfl rfl rfl rfl rfl rfl) trivial
          · intro u' hu'; refine xl_go tt_ok ?_; exact meet () [] (.of rfl rfl rfl rfl rfl rfl) trivial
          · intro u' hu'; refine xl_go tt_ok ?_; exact meet () [] (.of rfl rfl rfl rfl rfl rfl) trivial
          · intro u' hu'; refine xl_build tt_ok strY [wd] [_] rfl rfl rfl rfl rfl rfl rfl rfl rfl rfl rfl rfl rfl rfl rfl ?_; refine xl_end ?_; exact meet () [(10, some 13)] (.of rfl rfl rfl rfl rfl rfl) trivial
          · intro u' hu'; refine xl_go tt_ok ?_; refine And.intro (by omega) (And.intro (by simp only [Lay.d_n]; omega) ?_); exact meet () [] (.of rfl rfl rfl rfl rfl rfl) trivial
          · intro u' hu'; refine xl_call0 (.string wd) rfl rfl rfl rfl fn58 rfl rfl (fun E w F _ => clone_any wd w hws) ?_; refine xl_go tt_ok ?_; exact meet () [] (.of rfl rfl rfl rfl rfl rfl) trivial
          · intro u' hu'; refine xl_go tt_ok ?_; exact meet () [] (.of rfl rfl rfl rfl rfl rfl) trivial
          · intro u' hu'; refine xl_build tt_ok strY [wd] [_] rfl rfl rfl rfl rfl rfl rfl rfl rfl rfl rfl rfl rfl rfl rfl ?_; refine xl_end ?_; exact meet () [(10, some 13)] (.of rfl rfl rfl rfl rfl rfl) trivial
          · intro u' hu'; refine xl_go tt_ok ?_; exact meet () [] (.of rfl rfl rfl rfl rfl rfl) trivial
          · intro u' hu'; refine xl_go tt_ok ?_; exact meet () [] (.of rfl rfl rfl rfl rfl rfl) trivial
          · intro u' hu'; refine xl_call0 (.string wd) rfl rfl rfl rfl fn58 rfl rfl (fun E w F _ => clone_any wd w hws) ?_; refine xl_go tt_ok ?_; exact meet () [] (.of rfl rfl rfl rfl rfl rfl) trivial
          · intro u' hu'; refine xl_go tt_ok ?_; exact meet () [] (.of rfl rfl rfl rfl rfl rfl) trivial
          · intro u' hu'; refine xl_go tt_ok ?_; refine And.intro (by omega) (And.intro (by simp only [Lay.d_n]; omega) ?_); exact meet () [] (.of rfl rfl rfl rfl rfl rfl) trivial
          · intro u' hu'; refine xl_build tt_ok strY [wd] [_] rfl rfl rfl rfl rfl rfl rfl rfl rfl rfl rfl rfl rfl rfl rfl ?_; refine xl_end ?_; exact meet () [(10, some 13)] (.of rfl rfl rfl rfl rfl rfl) trivial
          · intro u' hu'; refine xl_go tt_ok ?_; exact meet () [] (.of rfl rfl rfl rfl rfl rfl) trivial
          · intro u' hu'; refine xl_go tt_ok ?_; exact meet () [] (.of rfl rfl rfl rfl rfl rfl) trivial
          · intro u' hu'; refine xl_go tt_ok ?_; exact meet () [] (.of rfl rfl rfl rfl rfl rfl) trivial
          · intro u' hu'; refine xl_call0 (.string wd) rfl rfl rfl rfl fn58 rfl rfl (fun E w F _ => clone_any wd w hws) ?_; refine xl_go tt_ok ?_; exact meet () [] (.of rfl rfl rfl rfl rfl rfl) trivial
          · intro u' hu'; refine xl_go tt_ok ?_; refine And.intro (by omega) (And.intro (by simp only [Lay.d_n]; omega) ?_); exact meet () [] (.of rfl rfl rfl rfl rfl rfl) trivial
          · intro u' hu'; refine xl_build tt_ok strY [wd] [_] rfl rfl rfl rfl rfl rfl rfl rfl rfl rfl rfl rfl rfl rfl rfl ?_; refine xl_end ?_; exact meet () [(10, some 13)] (.of rfl rfl rfl rfl rfl rfl) trivial
          · intro u' hu'; refine xl_go tt_ok ?_; exact meet () [] (.of rfl rfl rfl rfl rfl rfl) trivial
          · intro u' hu'; refine xl_go tt_ok ?_; exact meet () [] (.of rfl rfl rfl rfl rfl rfl) trivial
          · intro u' hu'; refine xl_call0 (.string wd) rfl rfl rfl rfl fn58 rfl rfl (fun E w F _ => clone_any wd w hws) ?_; refine xl_go tt_ok ?_; exact meet () [] (.of rfl rfl rfl rfl rfl rfl) trivial
          · intro u' hu'; refine xl_go tt_ok ?_; exact meet () [] (.of rfl rfl rfl rfl rfl rfl) trivial
          · intro u' hu'; refine xl_go tt_ok ?_; exact meet () [] (.of rfl rfl rfl rfl rfl rfl) trivial
          · intro u' hu'; refine xl_build tt_ok strY [wd] [_] rfl rfl rfl rfl rfl rfl rfl rfl rfl rfl rfl rfl rfl rfl rfl ?_; refine xl_end ?_; exact meet () [(10, some 13)] (.of rfl rfl rfl rfl rfl rfl) trivial
          · intro u' hu'; refine xl_go tt_ok ?_; exact meet () [] (.of rfl rfl rfl rfl rfl rfl) trivial
          · intro u' hu'; refine xl_go tt_ok ?_; refine And.intro (by omega) (And.intro (by simp only [Lay.d_n]; omega) ?_); exact meet () [] (.of rfl rfl rfl rfl rfl rfl) trivial
          · intro u' hu'; refine xl_call0 (.string wd) rfl rfl rfl rfl fn58 rfl rfl (fun E w F _ => clone_any wd w hws) ?_; refine xl_go tt_ok ?_; exact meet () [] (.of rfl rfl rfl rfl rfl rfl) trivial
          · intro u' hu'; refine xl_go tt_ok ?_; exact meet () [] (.of rfl rfl rfl rfl rfl rfl) trivial
          · intro u' hu'; refine xl_build tt_ok strY [wd] [_] rfl rfl rfl rfl rfl rfl rfl rfl rfl rfl rfl rfl rfl rfl rfl ?_; refine xl_end ?_; exact meet () [(10, some 13)] (.of rfl rfl rfl rfl rfl rfl) trivial
          · intro u' hu'; refine xl_go tt_ok ?_; refine And.intro (by omega) (And.intro (by simp only [Lay.d_n]; omega) ?_); exact meet () [] (.of rfl rfl rfl rfl rfl rfl) trivial
          · intro u' hu'; refine xl_go tt_ok ?_; exact meet () [] (.of rfl rfl rfl rfl rfl rfl) trivial
          · intro u' hu'; refine xl_build tt_ok strY [wd] [_] rfl rfl rfl rfl rfl rfl rfl rfl rfl rfl rfl rfl rfl rfl rfl ?_; refine xl_end ?_; exact meet () [(10, some 13)] (.of rfl rfl rfl rfl rfl rfl) trivial
          · intro u' hu'; refine xl_go tt_ok ?_; exact meet () [] (.of rfl rfl rfl rfl rfl rfl) trivial
          · intro u' hu'; refine xl_go tt_ok ?_; exact meet () [] (.of rfl rfl rfl rfl rfl rfl) trivial
          · intro u' hu'; refine xl_build tt_ok strY [wd] [_] rfl rfl rfl rfl rfl rfl rfl rfl rfl rfl rfl rfl rfl rfl rfl ?_; refine xl_end ?_; exact meet () [(10, some 13)] (.of rfl rfl rfl rfl rfl rfl) trivial
          · intro u' hu'; refine xl_go tt_ok ?_; exact meet () [] (.of rfl rfl rfl rfl rfl rfl) trivial
          · intro u' hu'; refine xl_go tt_ok ?_; exact meet () [] (.of rfl rfl rfl rfl rfl rfl) trivial
          · intro u' hu'; refine xl_unpark 31 3 (((V2.length : Nat) : Int) - 1).toNat rfl rfl (itemsP_get hi hi2) ?_; refine xl_append tt_ok strY (R2.getD (((V2.length : Nat) : Int) - 1).toNat []) [wd] 16 rfl rfl rfl rfl rfl rfl rfl rfl (by kernel_rfl) rfl rfl rfl (fun E w F hs => hs.rowAt (k := 10) rfl) strOne1 rfl (by simp only [List.length_singleton]; omega) (by simp only [List.length_singleton]; omega) ?_; refine xl_end ?_; exact meet () [(11, some 13), (12, some 14)] (.of rfl rfl rfl rfl rfl rfl) trivial
          · intro u' hu'; refine xl_unpark 31 3 (((V2.length : Nat) : Int) - 1).toNat rfl rfl (itemsP_get hi hi2) ?_; refine xl_append tt_ok strY (R2.getD (((V2.length : Nat) : Int) - 1).toNat []) [wd] 16 rfl rfl rfl rfl rfl rfl rfl rfl (by kernel_rfl) rfl rfl rfl (fun E w F hs => hs.rowAt (k := 10) rfl) strOne1 rfl (by simp only [List.length_singleton]; omega) (by simp only [List.length_singleton]; omega) ?_; refine xl_end ?_; exact meet () [(11, some 13), (12, some 14)] (.of rfl rfl rfl rfl rfl rfl) trivial
          · intro u' hu'; refine xl_go tt_ok ?_; exact meet () [] (.of rfl rfl rfl rfl rfl rfl) trivial
        · refine xa_chain (fuel := 0) [10, 11] rfl rfl (by kernel_rfl) ?_
          refine xl_go tt_ok ?_
          refine And.intro (by omega) (And.intro (by simp only [Lay.d_n]; omega) ?_)
          refine xl_park 12 3 (((V2.length : Nat) : Int) - 1).toNat rfl rfl (List.getElem?_set_self (by rw [itemsP_len k1]; omega)) rfl (fun A' c' => ?_)
          refine xl_set tt_ok (cs := [.slice A' (strY.d (R2.getD (((V2.length : Nat) : Int) - 1).toNat [] ++ [wd])).n c']) slY V2 ⟨A', (strY.d (R2.getD (((V2.length : Nat) : Int) - 1).toNat [] ++ [wd])).n, c'⟩ rfl rfl rfl rfl rfl rfl rfl (by omega) (by omega) rfl rfl (Nat.le_refl 1) rfl ?_
          refine xl_go tt_ok ?_
          refine xa_done (by kernel_rfl) rfl ?_
          rw [List.set_set]
          have e := itemsP_set (V := V2) (R := R2) (i := (((V2.length : Nat) : Int) - 1).toNat) (v := ⟨A', (strY.d (R2.getD (((V2.length : Nat) : Int) - 1).toNat [] ++ [wd])).n, c'⟩) (r := R2.getD (((V2.length : Nat) : Int) - 1).toNat [] ++ [wd])
          refine ⟨(true, false, V2.set (((V2.length : Nat) : Int) - 1).toNat ⟨A', (strY.d (R2.getD (((V2.length : Nat) : Int) - 1).toNat [] ++ [wd])).n, c'⟩, R2.set (((V2.length : Nat) : Int) - 1).toNat (R2.getD (((V2.length : Nat) : Int) - 1).toNat [] ++ [wd])), [(8, some 9)], ?_, ?_⟩
          · simp only [e]
            exact .of rfl rfl rfl rfl rfl rfl
          · rw [hei, k2]
            refine ⟨nextW, by simp [k1, k2], ?_, fun _ => hadd.2.1, hadd.2.2, ?_, fun _ => rfl⟩
            · have := hadd.1
              simp only at this
              rw [← Nat.add_assoc, ← i3]; exact this
            · exact (decide_eq_false (by omega)).symm
    · obtain ⟨on, em, V', R'⟩ := st
      obtain ⟨i1, i2, i3, i4, i5, i6, i7⟩ := hgs2
      rw [List.length_map] at i1 i3 i6 i7
      rw [List.take_length] at i1
      refine x_if (fun h => ?_) (fun h => ?_)
      · have h : em = true := h
        subst h
        have e0 : wordsP ln = [] := List.eq_nil_of_length_eq_zero (of_decide_eq_true i6.symm)
        rw [e0] at i1 i3 next nsum
        simp only [List.foldl_nil, Prod.mk.injEq] at i1
        obtain ⟨rfl, rfl⟩ := i1
        refine ⟨(false, V', R), [(5, some 8)], .of rfl rfl rfl rfl rfl rfl, by rw [next, parLine, if_pos rfl], i2, by rw [nsum]; simp, (fun h => by cases h), i5⟩
      · have h : em = false := h
        subst h
        have e0 : wordsP ln ≠ [] := fun e => by rw [e] at i6; simp at i6
        have hon : on = true := i7 (List.length_pos_iff.2 e0)
        subst hon
        refine ⟨(true, V', R'), [(5, some 8)], .of rfl rfl rfl rfl rfl rfl, by rw [next, parLine, if_neg e0, i1], i2, by rw [nsum, i3], i4, i5⟩
  · obtain ⟨one, V, R⟩ := st
    obtain ⟨g1, g2, g3, g4, g5⟩ := hgs
    have e1 : ((linesP s).map Value.string).length = (wsOf s).length := by simp [wsOf]
    rw [e1, List.take_length] at g1
    have hR : R = parP s := by rw [parP, g1]
    subst hR
    refine finStarO (k := 5) (ks := 3) rfl rfl (fun A' c' => ⟨(A', c', V), fun E hE => ?_, ?_, g2⟩)
    · show E 5 = _
      rw [hE, Lay.d_n, g2]
    · rw [Lay.d_n, g2]
end Go.Proofs.YtnjmkeijjapejaaDoor
namespace Go.Proofs.YtnjmkeijjapejaaDoor
open Go.GV Go.RowKit
set_option maxRecDepth 100000 in
theorem hasPx_any (a b : ByteArray) (w : World) : Calls Tryd.prog 53 #[.string a, .string b] w (PureP w fun v _ => v = .bool (hasP a b)) := by
  refine x_fun tt_ok Tryd.func53 rfl rfl [] 0 [.v (.string a), .v (.string b)] rfl rfl rfl rfl (fun b hb => by cases hb) ?_
  refine x_vc tt_ok ?_
  refine xl_call0 (.bool (hasP a b)) rfl rfl rfl rfl fn75 rfl rfl (fun E w F _ => hasPL_any a b w) ?_
  refine xl_go tt_ok ?_
  exact fin1 (fun _ _ => rfl)
def opB : ByteArray := ⟨#[47, 42]⟩
def blockP (s : ByteArray) : Bool := hasP s opB && ((oneP s).2 && decide ((oneP s).1 = 8))
def insP (s : ByteArray) : ByteArray × Bool := if blockP s then (sub s 2 (s.size - 2), true) else (⟨#[]⟩, false)
theorem endC_two : ∀ l : Lx.Bs, Lx.endC l = 0 ∨ 2 ≤ Lx.endC l
  | [] => .inl rfl
  | [_] => .inl rfl
  | a :: b :: r => by
    have := endC_two (b :: r)
    simp only [Lx.endC]
    split
    · exact .inr (Nat.le_refl _)
    · split
      · exact .inl rfl
      · rename_i h; rw [h] at this; omega
theorem blockP_form {s : ByteArray} (h : blockP s = true) : (bl s).take 2 = [47, 42] ∧ Lx.endC ((bl s).drop 2) + 2 = s.size ∧ 4 ≤ s.size := by
  simp only [blockP, Bool.and_eq_true, decide_eq_true_eq] at h
  obtain ⟨h1, h2, h3⟩ := h
  have ho : (bl s).take 2 = [47, 42] := by
    rw [hasP_bl] at h1
    exact of_decide_eq_true h1
  have hL := oneP_some h2
  rw [h3, Lx.oneL_iff] at hL
  obtain ⟨c, r, _, _, hi⟩ := hL
  have hio : Lx.isOpen (bl s) = true := by unfold Lx.isOpen; exact decide_eq_true ho
  unfold Lx.itemP at hi
  rw [if_neg (by simp), if_pos hio] at hi
  have h2 := endC_two ((bl s).drop 2)
  have hbl := bl_len s
  split at hi
  · have := congrArg Lx.Item.kind hi
    simp at this
  · rename_i n hn
    have := congrArg Lx.Item.len hi
    simp only at this
    rw [hn] at h2 ⊢
    refine ⟨ho, ?_, ?_⟩ <;> omega
set_option maxRecDepth 100000 in
theorem inside_any (s : ByteArray) (hz : s.size ≤ 4294967280) (w : World) (hg : Glob (im w)) :
    Calls Tryd.prog 34 #[.string s] w (PureP w fun v _ => v = .tuple #[.string (insP s).1, .bool (insP s).2]) := by
  have hf := blockP_form (s := s)
  refine x_fun tt_ok Tryd.func34 rfl rfl [] 0 [.v (.string s)] rfl rfl rfl rfl (fun b hb => by cases hb) ?_
  refine x_vc tt_ok ?_
  refine xl_call0 (.bool (hasP s opB)) rfl rfl rfl rfl fn53 rfl rfl (fun E w F _ => hasPx_any s opB w) ?_
  refine xl_go tt_ok ?_
  cases h1 : hasP s opB with
  | false =>
    refine x_ift rfl ?_
    exact fin1 (fun _ _ => by rw [show insP s = (⟨#[]⟩, false) by simp [insP, blockP, h1]]; rfl)
  | true =>
    refine x_iff rfl ?_
    refine xl_call0 (.tuple #[.int .i64 (oneP s).1, .bool (oneP s).2]) rfl rfl rfl rfl fn54 rfl rfl (fun E w F hs => one_any s hz w (hg.imm hs.imm)) ?_
    refine xl_go tt_ok ?_
    refine x_if (fun h => ?_) (fun h => ?_)
    · have h : (!(oneP s).2 || decide ((oneP s).1 ≠ 8)) = true := h
      exact fin1 (fun _ _ => by
        have : blockP s = false := by
          rw [blockP, h1, Bool.true_and]
          revert h
          cases (oneP s).2 <;> simp
        rw [show insP s = (⟨#[]⟩, false) by simp [insP, this]]; rfl)
    · have h : (!(oneP s).2 || decide ((oneP s).1 ≠ 8)) = false := h
      have hb : blockP s = true := by
        rw [blockP, h1, Bool.true_and]
        revert h
        cases (oneP s).2 <;> simp
      have h4 := (hf hb).2.2
      repeat (refine And.intro ?_ ?_; first | omega | (simp only [Lay.d_n]; omega) | (simp only [decide_eq_true_eq, decide_eq_false_iff_not, Bool.or_eq_false_iff, Bool.and_eq_true, Bool.or_eq_true, Bool.and_eq_false_iff, Bool.not_eq_true', Bool.not_eq_false', Lay.d_n]; omega) | (simp only [decide_eq_true_eq, decide_eq_false_iff_not, Bool.or_eq_false_iff, Bool.and_eq_true, Bool.or_eq_true, Bool.and_eq_false_iff, Bool.not_eq_true', Bool.not_eq_false']; omega) | (simp only [decide_eq_true_eq, decide_eq_false_iff_not, Bool.or_eq_false_iff]; simp only [Lay.d_n]; omega))
      exact fin1 (fun _ _ => by rw [insP, if_pos hb]; rfl)
def keptB (s : ByteArray) : Bool := decide (s ≠ ⟨#[]⟩) && ((decide (bt s 0 = 42) || decide (bt s 0 = 33)) || decide (bt s 0 = 45))
theorem ne_size {s : ByteArray} (h : s ≠ ⟨#[]⟩) : 0 < s.size := by
  rcases Nat.eq_zero_or_pos s.size with h0 | h0
  · refine absurd (bl_inj (a := s) (b := ⟨#[]⟩) ?_) h
    exact (List.eq_nil_of_length_eq_zero (by rw [bl_len, h0])).trans rfl
  · exact h0
set_option maxRecDepth 100000 in
theorem kept_any (s : ByteArray) (w : World) : Calls Tryd.prog 35 #[.string s] w (PureP w fun v _ => v = .bool (keptB s)) := by
  have hne := ne_size (s := s)
  refine x_fun tt_ok Tryd.func35 rfl rfl [] 0 [.v (.string s)] rfl rfl rfl rfl (fun b hb => by cases hb) ?_
  refine x_vc tt_ok ?_
  by_cases h : s = ⟨#[]⟩
  · have e : decide (s ≠ ⟨#[]⟩) = false := decide_eq_false (fun hh => hh h)
    subst h
    repeat (refine And.intro ?_ ?_; first | exact fun hh => absurd hh (by rw [e]; decide) | exact fun _ hh => absurd hh (by rw [e]; decide) | exact fun _ _ hh => absurd hh (by rw [e]; decide) | exact fun _ _ _ hh => absurd hh (by rw [e]; decide))
    exact fin1 (fun _ _ => rfl)
  · have := hne h
    repeat (refine And.intro ?_ ?_; first | omega | (simp only [Lay.d_n]; omega) | (simp only [decide_eq_true_eq, decide_eq_false_iff_not, Bool.or_eq_false_iff, Bool.and_eq_true, Bool.or_eq_true, Bool.and_eq_false_iff, Bool.not_eq_true', Bool.not_eq_false', Lay.d_n]; omega) | (simp only [decide_eq_true_eq, decide_eq_false_iff_not, Bool.or_eq_false_iff, Bool.and_eq_true, Bool.or_eq_true, Bool.and_eq_false_iff, Bool.not_eq_true', Bool.not_eq_false']; omega) | (simp only [decide_eq_true_eq, decide_eq_false_iff_not, Bool.or_eq_false_iff]; simp only [Lay.d_n]; omega))
    exact fin1 (fun _ _ => rfl)
end Go.Proofs.YtnjmkeijjapejaaDoor
namespace Go.GV
open Go.RowKit
def SCR {σ : Type} (P : Program) (f : Nat) (H : Im → Prop) (n : Nat) (ow : Own) (args : List SV) (post : σ → Own × Nat × Nat) (G : σ → Prop) : Prop :=
  ∀ E w F u, H u → Sat E ow n u [] w F → Calls P f (args.map (SV.den E)).toArray w fun e w' =>
    ∃ s E' F' u', (∀ k, k < n → E' k = E k) ∧ n ≤ (post s).2.1 ∧ u.le u' ∧ (e = .returned (E' (post s).2.2) ∧ (post s).2.2 < (post s).2.1 ∧ ∃ A N c, E' (post s).2.2 = .slice A N c) ∧ Sat E' (post s).1 (post s).2.1 u' [] w' F' ∧ G s
theorem SCR.use {σ : Type} {P : Program} {f : Nat} {H : Im → Prop} {n : Nat} {ow0 : Own} {cargs : List SV} {post : σ → Own × Nat × Nat} {G : σ → Prop} (hsc : SCR P f H n ow0 cargs post G)
    (hmono : ∀ u u', Im.sub u u' → H u → H u') {ρ : List Nat} {E : Env} {ow : Own} {nx : Nat} {u : Im} {df : List Deferred} {w : World} {F : Nat → Nat → Prop} (hH : H u) (hs : Sat E ow nx u df w F)
    (hρ : ρ.length = n) (hρ1 : ρ.all (fun k => Nat.blt k nx) = true) (hρ2 : apartB ρ = true)
    (hp1 : ow0.all (fun x => Nat.blt x.1 n && (x.2.inN n && x.2.plain)) = true) (hp2 : ow0.map (fun x => look ow (mpK ρ n nx x.1)) = ow0.map (fun x => some (x.2.mapK (mpK ρ n nx))))
    (hpost : ∀ s, (post s).1.all (fun x => x.2.plain) = true) :
    Calls P f ((cargs.map (SV.mapK (mpK ρ n nx))).map (SV.den E)).toArray w fun e w' =>
      ∃ s E' F' u', (∀ k, k < nx → E' k = E k) ∧ u.le u' ∧ (e = .returned (E' (mpK ρ n nx (post s).2.2)) ∧ mpK ρ n nx (post s).2.2 < nx + ((post s).2.1 - n) ∧ ∃ A N c, E' (mpK ρ n nx (post s).2.2) = .slice A N c) ∧ G s ∧ Sat E' (mergeOw ρ n nx (post s).1 ow) (nx + ((post s).2.1 - n)) u' df w' F' := by
  classical
  subst hρ
  let m := mpK ρ ρ.length nx
  have hmlt : ∀ j, j < ρ.length → m j = ρ.getD j 0 ∧ m j < nx := fun j hj => by
    have e : m j = ρ.getD j 0 := by
      show mpK ρ ρ.length nx j = _
      unfold mpK
      have : Nat.blt j ρ.length = true := Nat.ble_eq_true_of_le hj
      rw [this]
    refine ⟨e, ?_⟩
    rw [e, List.getD_eq_getElem?_getD, List.getElem?_eq_getElem hj]
    exact blt_lt (List.all_eq_true.1 hρ1 _ (List.getElem_mem hj))
  have hmge : ∀ j, ρ.length ≤ j → m j = nx + (j - ρ.length) := fun j hj => by
    show mpK ρ ρ.length nx j = _
    unfold mpK
    cases hb : Nat.blt j ρ.length with
    | true => have := blt_lt hb; omega
    | false => rfl
  have hinj : ∀ i j, m i = m j → i = j := fun i j e => by
    rcases Nat.lt_or_ge i ρ.length with hi | hi
    · rcases Nat.lt_or_ge j ρ.length with hj | hj
      · rw [(hmlt i hi).1, (hmlt j hj).1] at e
        exact apartB_inj' hρ2 i j hi hj e
      · have := (hmlt i hi).2; rw [e, hmge j hj] at this; omega
    · rcases Nat.lt_or_ge j ρ.length with hj | hj
      · have := (hmlt j hj).2; rw [← e, hmge i hi] at this; omega
      · rw [hmge i hi, hmge j hj] at e; omega
  have hmem : ∀ j, j < ρ.length → m j ∈ ρ := fun j hj => by
    rw [(hmlt j hj).1, List.getD_eq_getElem?_getD, List.getElem?_eq_getElem hj]; exact List.getElem_mem hj
  have hρm : ∀ k, k ∈ ρ → ∃ j, j < ρ.length ∧ m j = k := fun k hk => by
    obtain ⟨j, hj, e⟩ := List.mem_iff_getElem.1 hk
    exact ⟨j, hj, by rw [(hmlt j hj).1, List.getD_eq_getElem?_getD, List.getElem?_eq_getElem hj]; exact e⟩
  have hpre : ∀ j r, look ow0 j = some r → j < ρ.length ∧ r.inN ρ.length = true ∧ r.plain = true ∧ look ow (m j) = some (r.mapK m) := fun j r hl => by
    have hm := look_mem hl
    have h1 := List.all_eq_true.1 hp1 _ hm
    simp only [Bool.and_eq_true] at h1
    refine ⟨blt_lt h1.1, h1.2.1, h1.2.2, ?_⟩
    have : ∀ l : Own, l.map (fun x => look ow (mpK ρ ρ.length nx x.1)) = l.map (fun x => some (x.2.mapK (mpK ρ ρ.length nx))) → ∀ x ∈ l, look ow (m x.1) = some (x.2.mapK m) := by
      intro l
      induction l with
      | nil => intro _ x hx; cases hx
      | cons y l ih =>
        intro h x hx
        simp only [List.map_cons, List.cons.injEq] at h
        rcases List.mem_cons.1 hx with rfl | hx
        · exact h.1
        · exact ih h.2 x hx
    exact this _ hp2 _ hm
  let Ec : Env := fun j => E (m j)
  let Fc : Nat → Nat → Prop := fun j b => (∃ r, look ow0 j = some r) ∧ F (m j) b
  let uc : Im := { h := fun b => if ∃ j, Fc j b then none else w.heap[b]?, os := w.os, tape := w.tape, output := w.output, lo := w.heap.size }
  have hsub : u.sub uc := ⟨fun b o hb => by
    show (if ∃ j, Fc j b then none else w.heap[b]?) = some o
    rw [if_neg (fun ⟨j, _, hj⟩ => by rw [hs.off _ b hj] at hb; cases hb)]
    exact hs.imm.h b o hb⟩
  have huc : ∀ b, (¬ ∃ j, Fc j b) → uc.h b = w.heap[b]? := fun b hb => by
    show (if ∃ j, Fc j b then none else w.heap[b]?) = _
    rw [if_neg hb]
  have hsat : Sat Ec ow0 ρ.length uc [] w Fc := by
    refine ⟨fun j r hl => ?_, fun j hl b hb => ?_, fun j j' b hne h1 h2 => hs.apart _ _ b (fun e => hne (hinj _ _ e)) h1.2 h2.2, fun j b hb => ?_, fun j r hl => ?_, ⟨fun b o hb => ?_, rfl, rfl, rfl, Nat.le_refl _⟩, [], rfl, List.nodup_nil, fun d hd => by cases hd⟩
    · obtain ⟨h1, h2, h3, h4⟩ := hpre j r hl
      exact (Rs.holds_mapK h3 h2 (fun b => ⟨fun h => h.2, fun h => ⟨⟨r, hl⟩, h⟩⟩) (hs.lt _ _ h4).2 (hs.holds _ _ h4)).1
    · obtain ⟨r, hr⟩ := hb.1; rw [hl] at hr; cases hr
    · show (if ∃ j, Fc j b then none else w.heap[b]?) = none
      rw [if_pos ⟨j, hb⟩]
    · obtain ⟨h1, h2, h3, h4⟩ := hpre j r hl
      exact ⟨h1, (Rs.holds_mapK (u' := uc) (F' := F (m j)) h3 h2 (fun b => Iff.rfl) (hs.lt _ _ h4).2 (hs.holds _ _ h4)).2⟩
    · have : (if ∃ j, Fc j b then none else w.heap[b]?) = some o := hb
      split at this
      · cases this
      · exact this
  have hargs : (cargs.map (SV.mapK (mpK ρ ρ.length nx))).map (SV.den E) = cargs.map (SV.den Ec) := by
    rw [List.map_map]
    exact List.map_congr_left fun s _ => SV.mapK_den _ E s
  rw [hargs]
  refine (hsc Ec w Fc uc (hmono _ _ hsub hH) hsat).mono ?_
  rintro e w' ⟨s, E', F', uc', hE', hn, hu', he, hsat', hG⟩
  have hlt' : ∀ x ∈ (post s).1, x.1 < (post s).2.1 := fun x hx => by
    obtain ⟨y, hy⟩ := look_of_mem hx
    exact (hsat'.lt _ _ hy).1
  have hplain : ∀ j r, look (post s).1 j = some r → r.plain = true := fun j r hl => List.all_eq_true.1 (hpost s) _ (look_mem hl)
  let E'' : Env := fun k => if k < nx then E k else E' (ρ.length + (k - nx))
  have hEm : ∀ j, j < (post s).2.1 → E'' (m j) = E' j := fun j _ => by
    rcases Nat.lt_or_ge j ρ.length with hj | hj
    · show (if m j < nx then E (m j) else _) = _
      rw [if_pos (hmlt j hj).2, hE' j hj]
    · show (if m j < nx then _ else E' (ρ.length + (m j - nx))) = _
      rw [hmge j hj, if_neg (by omega)]
      congr 1; omega
  have hsz : w.heap.size ≤ w'.heap.size := by
    have h1 := hsat'.imm.lo
    rw [hu'.lo] at h1
    exact h1
  have hframe : ∀ b, b < w.heap.size → (¬ ∃ j, Fc j b) → w'.heap[b]? = w.heap[b]? := fun b hb hn => by
    have h1 : uc.h b = some (w.heap[b]'hb) := by rw [huc b hn]; exact Array.getElem?_eq_getElem hb
    rw [hsat'.imm.h b _ (hu'.h b _ h1), Array.getElem?_eq_getElem hb]
  let F'' : Nat → Nat → Prop := fun k b => (∃ j, j < (post s).2.1 ∧ m j = k ∧ F' j b) ∨ ((∀ j, j < (post s).2.1 → m j ≠ k) ∧ F k b)
  have hF''m : ∀ j, j < (post s).2.1 → ∀ b, F'' (m j) b ↔ F' j b := fun j hj b => by
    constructor
    · rintro (⟨i, hi, e, h⟩ | ⟨h, _⟩)
      · rw [← hinj _ _ e]; exact h
      · exact absurd rfl (h j hj)
    · exact fun h => .inl ⟨j, hj, rfl, h⟩
  let u'' : Im := { h := fun b => if b < w.heap.size then u.h b else uc'.h b, os := u.os, tape := u.tape, output := u.output, lo := u.lo }
  have hult : ∀ b o, u.h b = some o → b < w.heap.size := fun b o ho => (Array.getElem?_eq_some_iff.1 (hs.imm.h b o ho)).1
  have hle'' : u.le u'' := ⟨fun b o ho => by
    show (if b < w.heap.size then u.h b else uc'.h b) = some o
    rw [if_pos (hult b o ho)]; exact ho, rfl, rfl, rfl, rfl⟩
  have himm'' : Imm u'' w' := by
    refine ⟨fun b o ho => ?_, ?_, ?_, ?_, Nat.le_trans hs.imm.lo hsz⟩
    · have ho' : (if b < w.heap.size then u.h b else uc'.h b) = some o := ho
      split at ho'
      · rename_i hb
        rw [hframe b hb (fun ⟨j, _, hj⟩ => by rw [hs.off _ b hj] at ho'; cases ho')]
        exact hs.imm.h b o ho'
      · exact hsat'.imm.h b o ho'
    · exact (hsat'.imm.os.trans hu'.os).trans hs.imm.os
    · exact (hsat'.imm.tape.trans hu'.tape).trans hs.imm.tape
    · exact (hsat'.imm.output.trans hu'.output).trans hs.imm.output
  have hnewk : ∀ k, nx ≤ k → look ow k = none := fun k hk => by
    cases hl : look ow k with
    | none => rfl
    | some r => have := (hs.lt k r hl).1; omega
  have hlookm : ∀ j, look (mergeOw ρ ρ.length nx (post s).1 ow) (m j) = match look (post s).1 j with
      | some r => some (r.mapK m)
      | none => look (ρ.map (fun k => (k, Rs.emp)) ++ ow) (m j) := fun j => by
    unfold mergeOw
    rw [look_append]
    have := look_map (m := m) (g := Rs.mapK m) (j := j) (l := (post s).1) (fun x _ e => hinj _ _ e)
    rw [show look ((post s).1.map fun x => (mpK ρ ρ.length nx x.1, x.2.mapK (mpK ρ ρ.length nx))) (m j) = _ from this]
    cases look (post s).1 j <;> rfl
  obtain ⟨he1, he2, he3⟩ := he
  have hk2 : m (post s).2.2 < nx + ((post s).2.1 - ρ.length) := by
    rcases Nat.lt_or_ge (post s).2.2 ρ.length with h1 | h1
    · have := (hmlt _ h1).2; omega
    · rw [hmge _ h1]; omega
  refine ⟨s, E'', F'', u'', fun k hk => if_pos hk, hle'', ⟨by rw [he1]; exact congrArg _ (hEm _ he2).symm, hk2, by rw [show E'' (mpK ρ ρ.length nx (post s).2.2) = _ from hEm _ he2]; exact he3⟩, hG, ?_⟩
  refine hs.step (fun k => ∃ j, j < (post s).2.1 ∧ m j = k) (fun k hk => if_pos hk) (Nat.le_add_right _ _) hle'' himm'' hsz ?_ ?_ ?_ ?_ ?_
  · intro b hb hno
    refine hframe b hb ?_
    rintro ⟨j, ⟨r, hr⟩, hj⟩
    exact hno (m j) ⟨j, by have := (hpre j r hr).1; omega, rfl⟩ hj
  · intro k hk
    have hk' : ∀ j, j < (post s).2.1 → m j ≠ k := fun j hj e => hk ⟨j, hj, e⟩
    refine ⟨?_, fun b => ⟨?_, fun h => .inr ⟨hk', h⟩⟩⟩
    · unfold mergeOw
      rw [look_append, look_append]
      have h1 : look ((post s).1.map fun x => (mpK ρ ρ.length nx x.1, x.2.mapK (mpK ρ ρ.length nx))) k = none := look_map_none (m := m) (fun x hx => hk' x.1 (hlt' x hx))
      rw [h1]
      simp only
      rw [look_emps.2 (fun hm => by obtain ⟨j, hj, e⟩ := hρm k hm; exact hk' j (by omega) e)]
    · rintro (⟨j, hj, e, _⟩ | ⟨_, h⟩)
      · exact absurd e (hk' j hj)
      · exact h
  · rintro k ⟨j, hj, rfl⟩
    refine ⟨fun r hl => ?_, fun hl b hb => ?_, fun b hb => ?_⟩
    · rw [hlookm j] at hl
      have hmj : m j < nx + ((post s).2.1 - ρ.length) := by
        rcases Nat.lt_or_ge j ρ.length with h1 | h1
        · have := (hmlt j h1).2; omega
        · rw [hmge j h1]; omega
      cases hl0 : look (post s).1 j with
      | some r0 =>
        rw [hl0] at hl
        simp only [Option.some.injEq] at hl
        subst hl
        have hlr := (hsat'.lt _ _ hl0).2
        refine ⟨Rs.mapK_holds (hplain _ _ hl0) hEm hj (hF''m j hj) hlr (hsat'.holds _ _ hl0), hmj, ?_⟩
        cases r0 with
        | box t cs =>
          intro x hx
          obtain ⟨y, hy, rfl⟩ := List.mem_map.1 hx
          refine SV.mapK_lt hEm (fun i hi => ?_) (hlr y hy)
          rcases Nat.lt_or_ge i ρ.length with h1 | h1
          · have := (hmlt i h1).2; show m i < _; omega
          · show m i < _; rw [hmge i h1]; omega
        | row e D => trivial
        | sl D => trivial
        | gen A => trivial
        | emp => trivial
      | none =>
        rw [hl0] at hl
        simp only at hl
        rw [look_append] at hl
        rcases Nat.lt_or_ge j ρ.length with h1 | h1
        · rw [look_emps.1 (hmem j h1)] at hl
          simp only [Option.some.injEq] at hl
          subst hl
          exact ⟨fun x hx => hsat'.non j hl0 x ((hF''m j hj x).1 hx), hmj, trivial⟩
        · rw [look_emps.2 (fun hm => by have := blt_lt (List.all_eq_true.1 hρ1 _ hm); rw [hmge j h1] at this; omega)] at hl
          simp only at hl
          rw [hnewk _ (by rw [hmge j h1]; omega)] at hl
          cases hl
    · have hb' := (hF''m j hj b).1 hb
      rw [hlookm j] at hl
      cases hl0 : look (post s).1 j with
      | some r0 => rw [hl0] at hl; cases hl
      | none => exact hsat'.non j hl0 b hb'
    · have hb' := (hF''m j hj b).1 hb
      have hoff := hsat'.off j b hb'
      rcases Nat.lt_or_ge b w.heap.size with hlt | hge
      · have hex : ∃ j, Fc j b := by
          refine Classical.byContradiction fun hno => ?_
          have h1 : uc.h b = some (w.heap[b]'hlt) := by rw [huc b hno]; exact Array.getElem?_eq_getElem hlt
          rw [hu'.h b _ h1] at hoff; cases hoff
        obtain ⟨i, ⟨r, hr⟩, hi⟩ := hex
        refine ⟨.inl ⟨m i, ⟨i, by have := (hpre i r hr).1; omega, rfl⟩, hi⟩, ?_⟩
        show (if b < w.heap.size then u.h b else uc'.h b) = none
        rw [if_pos hlt]; exact hs.off _ b hi
      · refine ⟨.inr hge, ?_⟩
        show (if b < w.heap.size then u.h b else uc'.h b) = none
        rw [if_neg (by omega)]; exact hoff
  · rintro k k' b ⟨j, hj, rfl⟩ ⟨j', hj', rfl⟩ hne h1 h2
    exact hsat'.apart j j' b (fun e => hne (by rw [e])) ((hF''m j hj b).1 h1) ((hF''m j' hj' b).1 h2)
  · intro b o ho
    have ho' : (if b < w.heap.size then u.h b else uc'.h b) = some o := ho
    split at ho'
    · exact .inl ho'
    · exact .inr (by omega)
theorem xl_callSCR {σ : Type} {C : Cx} {all : List Oper} {o : Oper} {r : List Oper} {Q : Post} {kn : Kn} {gk : List (Nat × (Gd × SV))} {ow : Own} {nx : Nat} {u : Im} {c : Call}
    {f n : Nat} {H : Im → Prop} {ow0 : Own} {cargs : List SV} {post : σ → Own × Nat × Nat} {G : σ → Prop} (hsc : SCR C.P f H n ow0 cargs post G) (hmono : ∀ u u', Im.sub u u' → H u → H u') (hH : H u) (ρ : List Nat)
    {d : Nat} (ho : o.op = .call c) (hgd : o.guard = none) (hd : o.dst = some d) (hc : callee ⟨kn, gk, ow, nx⟩ c = some f) (hfn : Fn1 C.P f)
    (hargs : argsOf ⟨kn, gk, ow, nx⟩ [] c.args.toList = some (cargs.map (SV.mapK (mpK ρ n nx)))) (hfr : fresh C.N ⟨kn, gk, ow, nx⟩ d [] = true)
    (hρ : ρ.length = n) (hρ1 : ρ.all (fun k => Nat.blt k nx) = true) (hρ2 : apartB ρ = true)
    (hp1 : ow0.all (fun x => Nat.blt x.1 n && (x.2.inN n && x.2.plain)) = true) (hp2 : ow0.map (fun x => look ow (mpK ρ n nx x.1)) = ow0.map (fun x => some (x.2.mapK (mpK ρ n nx))))
    (hpost : ∀ s, (post s).1.all (fun x => x.2.plain) = true)
    (K : ∀ s u', u.le u' → G s → XL C all r Q ⟨(d, .r (mpK ρ n nx (post s).2.2)) :: kn, gk, mergeOw ρ n nx (post s).1 ow, nx + ((post s).2.1 - n)⟩ u') :
    XL C all (o :: r) Q ⟨kn, gk, ow, nx⟩ u := by
  unfold XL at K ⊢
  intro E a w hok
  obtain ⟨fF, hsat⟩ := hok.sat
  have hgs : gs a.tmps [] := fun x hx => by cases hx
  have hg : guardOf all ⟨kn, gk, ow, nx⟩ o = some [] := by unfold guardOf; rw [hgd]
  have hgd' := guard_sound (all := all.toArray) hok.agr (by simpa using hg)
  have hw : Region.wanted o (yielded all.toArray a.tmps) = true := by
    cases hb : Region.wanted o (yielded all.toArray a.tmps) with
    | true => rfl
    | false => exact absurd hgs (hgd'.2 hb)
  unfold wpListIn
  rw [if_pos hw]
  refine ⟨fun _ _ => trivial, ?_⟩
  rw [semAt_eq _ _ _ (fun c' hc' => by rw [ho] at hc'; cases hc'), call_runG ho hc hfn hargs hok hgs, Oper.uponIn_enter]
  refine ⟨fun h => (by cases h), (calls_in (hsc.use hmono hH hsat hρ hρ1 hρ2 hp1 hp2 hpost)).mono ?_⟩
  rintro e w' ⟨s, E', F', u', hE', hu, ⟨rfl, hk1, hk2⟩, hG, hs'⟩
  have hnx : nx ≤ nx + ((post s).2.1 - n) := Nat.le_add_right _ _
  have hgr := hok.agr.grow (E' := E') (ow := mergeOw ρ n nx (post s).1 ow) (nx := nx + ((post s).2.1 - n)) hE' hnx
  have hput : Agr C.N E' (St.put ⟨kn, gk, mergeOw ρ n nx (post s).1 ow, nx + ((post s).2.1 - n)⟩ d [] (.r (mpK ρ n nx (post s).2.2))) (a.tmps.setIfInBounds d (E' (mpK ρ n nx (post s).2.2))) :=
    hgr.put (g := []) hfr (fun _ => ⟨hk1, hk2⟩) (fun _ => rfl) (fun hn => absurd (fun x hx => (by cases hx)) hn) (fun _ => rfl)
  have := K s u' hu hG E' (a.put (some d) (E' (mpK ρ n nx (post s).2.2))) w' ⟨⟨hput.size, hput.kn, hput.gk, hput.klt, hput.glt⟩, F', hs'⟩
  rw [hd]
  exact wpListIn_monoQ (fun e a w => SemQ.mono hE' hnx hu) _ _ _ this
def SCRend {σ : Type} (n : Nat) (post : σ → Own × Nat × Nat) (G : σ → Prop) (l : List SV) (st : St) : Prop :=
  ∃ s ρ k0, l = [.r k0] ∧ Sub n ρ ⟨[(0, .r k0)], [], st.ow, st.nx⟩ ⟨[(0, .r (post s).2.2)], [], (post s).1, (post s).2.1⟩ ∧ k0 < st.nx ∧ (∃ e D, look st.ow k0 = some (.row e D)) ∧ n ≤ (post s).2.1 ∧ G s
theorem x_scr {σ : Type} {T : TT} {P : Program} (hT : TOk P T) {f N : Nat} {fn : Func} {c : Code} (hf : P.funcs[f]? = some fn) (hb : fn.body = some c) (hN : fn.ntmps = N)
    {H : Im → Prop} {n : Nat} {ow : Own} {args : List SV} {post : σ → Own × Nat × Nat} {G : σ → Prop} (hle : Nat.ble args.length N = true) (hargs : args.all (argLt ow n) = true)
    (h : ∀ u, H u → X ⟨P, none, N⟩ c (FinQ T fn.results.toList fun l st _ => SCRend n post G l st) ⟨knOf 0 args, [], ow, n⟩ u) : SCR P f H n ow args post G := by
  intro E w F u hH hsat
  refine (callsIn_wide (n := 0)).1 (callsIn_of_wp_marks hf hb trivial ?_ rfl)
  have hle' : args.length ≤ N := Nat.le_of_ble_eq_true hle
  have hlt : ∀ s ∈ args, s.lt E n := fun s hs => by
    have h1 := List.all_eq_true.1 hargs s hs
    cases s with
    | v x => trivial
    | p k off =>
      simp only [argLt] at h1
      split at h1
      · rename_i t cs hk hl
        obtain ⟨b, hb, _⟩ := hsat.holds k _ hl
        exact ⟨blt_lt hk, _, hb⟩
      · cases h1
    | r k =>
      simp only [argLt] at h1
      split at h1
      · rename_i e D hk hl
        obtain ⟨A, c, hv⟩ := ownsRow_sl (hsat.holds k _ hl).1
        exact ⟨blt_lt hk, A, _, c, hv⟩
      · cases h1
    | e k sz i off => cases h1
    | clo f ks => cases h1
    | tup l => cases h1
  have hagr : Agr N E ⟨knOf 0 args, [], ow, n⟩ ((args.map (SV.den E)).toArray ++ Array.replicate (fn.ntmps - ((args.map (SV.den E)).toArray).size) undef) := by
    refine ⟨?_, ?_, fun d g s h => (by cases h), ?_, fun d g s h => (by cases h)⟩
    · rw [hN]; simp; omega
    · intro d s _ h2
      have h3 := (knOf_look h2).2
      rw [Nat.sub_zero] at h3
      have hd : d < args.length := (List.getElem?_eq_some_iff.1 h3).1
      rw [Array.getElem?_append_left (by simpa using hd)]
      simp [h3]
    · intro d s h2
      have h3 := (knOf_look h2).2
      exact hlt s (List.mem_of_getElem? h3)
  have hX := h u hH
  unfold X at hX
  refine Go.wpIn_mono (hX E { tmps := (args.map (SV.den E)).toArray ++ Array.replicate (fn.ntmps - ((args.map (SV.den E)).toArray).size) undef, defers := [] } w ⟨hagr, _, hsat⟩) ?_
  rintro e a' w' ⟨E', st', u', h1, h2, h3, hok', h5⟩
  obtain ⟨F', hs⟩ := hok'.sat
  have fin : ∀ l, resV T st' fn.results.toList = some l → SCRend n post G l st' →
      LeavesInM (FR none) 0 P fn a'.tmps (fun e w' => ∃ s E' F' u', (∀ k, k < n → E' k = E k) ∧ n ≤ (post s).2.1 ∧ u.le u' ∧ (e = .returned (E' (post s).2.2) ∧ (post s).2.2 < (post s).2.1 ∧ ∃ A N c, E' (post s).2.2 = .slice A N c) ∧ Sat E' (post s).1 (post s).2.1 u' [] w' F' ∧ G s) a'.defers .returning w' := by
    rintro l hl ⟨s, ρ, k0, rfl, hsub, hk0, ⟨e0, D0, hrow⟩, hn, hG⟩
    obtain ⟨ds, hds, _⟩ := hs.marks
    rw [hds] at hs ⊢
    refine leaves (C := ⟨P, none, N⟩) hT hok'.agr hl (fun w'' hw => ?_) ds w' hs
    obtain ⟨A0, c0, hv0⟩ := ownsRow_sl (hs.holds k0 _ hrow).1
    have hok0 : Ok ⟨P, none, 1⟩ E' ⟨[(0, .r k0)], [], st'.ow, st'.nx⟩ u' { tmps := #[E' k0], defers := [] } w'' := by
      refine ⟨⟨rfl, fun d s _ h => ?_, fun d g s h => (by cases h), fun d s h => ?_, fun d g s h => (by cases h)⟩, F', hw⟩
      · rw [look_cons] at h
        split at h
        · rename_i hd; subst hd; cases h; rfl
        · cases h
      · rw [look_cons] at h
        split at h
        · cases h; exact ⟨hk0, A0, _, c0, hv0⟩
        · cases h
    obtain ⟨E3, hE3, hok3⟩ := hsub.ok hok0
    obtain ⟨F3, hs3⟩ := hok3.sat
    have h7 := hok3.agr.kn 0 _ rfl (by rw [look_cons, if_pos rfl])
    have h8 := hok3.agr.klt 0 _ (by rw [look_cons, if_pos rfl])
    have h9 : E3 (post s).2.2 = E' k0 := by
      simp only [SV.den] at h7
      simpa using h7.symm
    refine ⟨s, E3, F3, u', fun k hk => (hE3 k hk).trans (h1 k hk), hn, h3, ⟨?_, h8.1, h8.2⟩, hs3, hG⟩
    rw [h9]
    rfl
  cases e with
  | normal =>
    simp only [FinQ] at h5
    split at h5
    · rename_i l hl; exact fin l hl h5
    · exact h5.elim
  | ret =>
    simp only [FinQ] at h5
    split at h5
    · rename_i l hl; exact fin l hl h5
    · exact h5.elim
  | exit id => exact h5.elim
  | goto l => exact h5.elim
  | panic c => exact h5.elim
  | outgrown => exact h5.elim
end Go.GV
namespace Go.Proofs.YtnjmkeijjapejaaDoor
open Go.GV Go.RowKit
set_option maxRecDepth 100000 in
theorem stringK_sc (used : Bool) (L : List UInt8) (hL : L ≠ []) : SC Tryd.prog 61 (fun _ => True) 2 [(0, .box 93 [bAddr used, .r 1]), (1, .row 5 (byteY.d L))] [.p 0 0]
      (fun _ : Unit => ([(0, .box 93 [bAddr used, .r 1]), (1, .emp)], 2, .string ⟨L.toArray⟩)) (fun _ => True) := by
  refine x_sc tt_ok Tryd.func61 rfl rfl rfl (by cases used <;> rfl) (fun u _ => ?_)
  refine x_vc tt_ok ?_
  refine x_drawA mix ?_
  refine xa_phase tt_ok (fuel := 2) [0, 1, 2, 3, 4, 5, 6, 7, 8, 9] rfl (by kernel_rfl) (by kernel_rfl) (by kernel_rfl) (by kernel_rfl) (xd_go tt_ok ?_)
  refine xd_sdRow byteY L rfl rfl rfl rfl rfl rfl hL (xd_go tt_ok ?_)
  refine xa_one 10 (by kernel_rfl) rfl ?_
  refine xl_usRow L rfl rfl rfl rfl rfl rfl rfl hL Tryd.underlying133 (by kernel_rfl) (xl_go tt_ok ?_)
  refine xa_one 11 (by kernel_rfl) rfl (xl_go tt_ok ?_)
  refine xa_done (by kernel_rfl) rfl ?_
  cases used
  · exact ⟨(), [], [_], rfl, rfl, .of rfl rfl rfl rfl rfl rfl, of_decide_eq_true rfl, trivial⟩
  · exact ⟨(), [], [_], rfl, rfl, .of rfl rfl rfl rfl rfl rfl, of_decide_eq_true rfl, trivial⟩
set_option maxRecDepth 100000 in
theorem reset_sc : SC Tryd.prog 64 (fun _ => True) 2 [(0, .box 93 [.p 0 0, .r 1]), (1, .emp)] [.p 0 0]
      (fun _ : Unit => ([(0, .box 93 [.v (.pointer none), .v (.slice none 0 0)])], 2, .tuple #[])) (fun _ => True) := by
  refine x_sc tt_ok Tryd.func64 rfl rfl rfl rfl (fun u _ => ?_)
  refine x_vc tt_ok ?_
  exact ⟨(), [], [], rfl, rfl, .of rfl rfl rfl rfl rfl rfl, of_decide_eq_true rfl, trivial⟩
def fillF (room : Int) : List ByteArray → List UInt8 → List ByteArray
  | [], cur => [⟨cur.toArray⟩]
  | y :: r, cur => if (cur.length : Int) + 1 + y.size ≤ room then fillF room r (cur ++ 32 :: y.data.toList) else ⟨cur.toArray⟩ :: fillF room r (32 :: 42 :: 32 :: y.data.toList)
def fillP (lead : ByteArray) (l : List ByteArray) (room : Int) : List ByteArray := match l with
  | [] => []
  | y :: r => fillF room r (lead.data.toList ++ y.data.toList)
def bySum (l : List ByteArray) : Nat := (l.map (fun y => y.size + 4)).sum
theorem fillF_len (room : Int) : ∀ (l : List ByteArray) (cur : List UInt8), (fillF room l cur).length ≤ l.length + 1
  | [], cur => Nat.le_refl _
  | y :: r, cur => by
    unfold fillF
    split
    · have := fillF_len room r (cur ++ 32 :: y.data.toList)
      simp only [List.length_cons]; omega
    · have := fillF_len room r (32 :: 42 :: 32 :: y.data.toList)
      simp only [List.length_cons]; omega
end Go.Proofs.YtnjmkeijjapejaaDoor
namespace Go.GV
open Go.RowKit
theorem xl_nilCell {α : Type} {C : Cx} {all l : List Oper} {Q : Post} {kn : Kn} {gk : List (Nat × (Gd × SV))} {ow : Own} {nx : Nat} {u : Im} (k e : Nat) (Y : Lay α) {t : Nat} (cs ds : List SV) (hk : look ow k = some (.box t (cs ++ .v (.slice none 0 0) :: ds)))
    (h : XL C all l Q ⟨kn, gk, (nx, .row e (Y.d [])) :: (k, .box t (cs ++ .r nx :: ds)) :: ow, nx + 1⟩ u) : XL C all l Q ⟨kn, gk, ow, nx⟩ u := by
  unfold XL at h ⊢
  intro E a w hok
  obtain ⟨f, hsat⟩ := hok.sat
  have hE : ∀ k, k < nx → upd E nx (.slice none 0 0) k = E k := fun k hk => upd_other _ _ (by omega)
  have hs1 := hsat.nil e Y
  have hkl : k < nx := (hsat.lt k _ hk).1
  have hkn : k ≠ nx := by omega
  have hold := hs1.holds k (.box t (cs ++ .v (.slice none 0 0) :: ds)) (by rw [look_cons, if_neg (fun e1 => hkn e1.symm)]; exact hk)
  have hltold := (hsat.lt k _ hk).2
  have hs2 : Sat (upd E nx (.slice none 0 0)) ((nx, .row e (Y.d [])) :: (k, .box t (cs ++ .r nx :: ds)) :: ow) (nx + 1) u a.defers w (upd f nx (fun _ => False)) := by
    refine ⟨fun j r hl => ?_, fun j hl b hb => ?_, hs1.apart, hs1.off, fun j r hl => ?_, hs1.imm, hs1.marks⟩
    · rw [look_cons] at hl
      split at hl
      · rename_i e1; exact hs1.holds j r (by rw [look_cons, if_pos e1]; exact hl)
      · rename_i e1
        rw [look_cons] at hl
        split at hl
        · rename_i e2
          subst e2
          cases hl
          obtain ⟨b, q1, q2, q3⟩ := hold
          refine ⟨b, q1, q2, ?_⟩
          rw [q3]
          simp [SV.den, upd_same]
        · exact hs1.holds j r (by rw [look_cons, if_neg e1]; exact hl)
    · refine hs1.non j ?_ b hb
      rw [look_cons] at hl ⊢
      split at hl
      · cases hl
      · rename_i e1
        rw [if_neg e1]
        rw [look_cons] at hl
        split at hl
        · cases hl
        · exact hl
    · rw [look_cons] at hl
      split at hl
      · rename_i e1; exact hs1.lt j r (by rw [look_cons, if_pos e1]; exact hl)
      · rename_i e1
        rw [look_cons] at hl
        split at hl
        · rename_i e2
          subst e2
          cases hl
          refine ⟨by omega, fun x hx => ?_⟩
          have hx' := List.mem_append.1 hx
          rcases hx' with hx' | hx'
          · exact SV.lt_mono hE (Nat.le_succ _) (hltold x (List.mem_append_left _ hx'))
          · rcases List.mem_cons.1 hx' with rfl | hx'
            · exact ⟨Nat.lt_succ_self _, none, 0, 0, upd_same _ _ _⟩
            · exact SV.lt_mono hE (Nat.le_succ _) (hltold x (List.mem_append_right _ (List.mem_cons_of_mem _ hx')))
        · exact hs1.lt j r (by rw [look_cons, if_neg e1]; exact hl)
  have hg := hok.agr.grow (E' := upd E nx (.slice none 0 0)) (ow := (nx, .row e (Y.d [])) :: (k, .box t (cs ++ .r nx :: ds)) :: ow) (nx := nx + 1) hE (Nat.le_succ _)
  have := h (upd E nx (.slice none 0 0)) a w ⟨hg, _, hs2⟩
  exact wpListIn_monoQ (fun e a w => SemQ.mono hE (Nat.le_succ _) (Im.le.refl u)) _ _ _ this
end Go.GV
namespace Go.Proofs.YtnjmkeijjapejaaDoor
open Go.GV Go.RowKit
set_option maxRecDepth 100000 in
theorem fill_scr (L l : List ByteArray) (lead : ByteArray) (A : Option Addr) (c : Nat) (room : Int) (hl : l ≠ []) (hlead : lead.size ≤ 3 ∧ 1 ≤ lead.size) (hsz : bySum l ≤ 1000000000000) (hL : L.length ≤ 1000000000000) :
    SCR Tryd.prog 39 (fun u => SlAt u (.slice A l.length c) (strY.d l)) 1 [(0, .row 9 (strY.d L))] [.r 0, .v (.string lead), .v (.slice A l.length c), .v (.int .i64 room)]
      (fun _ : Unit => ([(1, .row 9 (strY.d (L ++ fillP lead l room)))], 2, 1)) (fun _ => True) := by
  refine x_scr tt_ok Tryd.func39 rfl rfl rfl rfl (fun u hu => ?_)
  refine x_vc tt_ok ?_
  obtain ⟨y0, l', rfl⟩ : ∃ y0 l', l = y0 :: l' := by
    cases l with
    | nil => exact absurd rfl hl
    | cons y0 l' => exact ⟨y0, l', rfl⟩
  have hy0 : y0.size ≤ 1000000000000 := by simp only [bySum, List.map_cons, List.sum_cons] at hsz; omega
  have hlsz : lead.data.toList.length = lead.size := Array.length_toList
  have hysz : ∀ y : ByteArray, y.data.toList.length = y.size := fun _ => Array.length_toList
  have hn0 : 0 < (y0 :: l').length := by simp
  refine xl_nilCell 1 5 byteY [.v (.pointer none)] [] rfl ?_
  refine xl_callSC (writeString_sc false [] lead (by simp only [List.length_nil]; omega)) (fun _ _ _ _ => trivial) trivial [1, 2] rfl rfl rfl rfl fn60 rfl rfl rfl rfl rfl rfl rfl (fun _ => rfl) (fun _ u1 hu1 _ => ?_)
  refine xl_go tt_ok ?_
  have hu2 := hu.le hu1
  refine xl_sl 14 rfl hu2 ?_
  refine xl_go tt_ok ?_
  repeat (refine And.intro ?_ ?_; first | omega | (simp only [Lay.d_n]; omega) | (simp only [decide_eq_true_eq, decide_eq_false_iff_not, Bool.or_eq_false_iff, Bool.and_eq_true, Bool.or_eq_true, Bool.and_eq_false_iff, Bool.not_eq_true', Bool.not_eq_false', Lay.d_n]; omega) | (simp only [decide_eq_true_eq, decide_eq_false_iff_not, Bool.or_eq_false_iff, Bool.and_eq_true, Bool.or_eq_true, Bool.and_eq_false_iff, Bool.not_eq_true', Bool.not_eq_false']; omega) | (simp only [decide_eq_true_eq, decide_eq_false_iff_not, Bool.or_eq_false_iff]; simp only [Lay.d_n]; omega))
  refine xl_callSC (writeString_sc true ([] ++ lead.data.toList) y0 (by simp only [List.nil_append]; omega)) (fun _ _ _ _ => trivial) trivial [1, 3] rfl rfl rfl rfl fn60 rfl rfl rfl rfl rfl rfl rfl (fun _ => rfl) (fun _ u2 hu2' _ => ?_)
  refine xl_go tt_ok ?_
  refine xl_from tt_ok strY (y0 :: l') rfl rfl rfl rfl rfl rfl rfl rfl rfl rfl (fun E w F hs => (hu2.le hu2')) (by decide) (by omega) (fun A' c' hA' => ?_)
  refine xl_sl 19 rfl hA' ?_
  refine xl_go tt_ok ?_
  refine x_loop (σ := Nat × List ByteArray × List UInt8) (fun (k, done, cur) => ⟨[(21, .v (.int .i64 (k : Int))), (20, .v (.int .i64 (l'.length : Int))), (19, .r 6), (9, .p 1 0), (3, .v (.int .i64 room)), (0, .r 7)], [],
      [(7, .row 9 (strY.d (L ++ done))), (1, .box 93 [.p 1 0, .r 8]), (8, .row 5 (byteY.d cur)), (6, .sl (strY.d l'))], 9⟩)
    (fun (k, done, cur) _ => k ≤ l'.length ∧ done.length ≤ k ∧ cur ≠ [] ∧ cur.length + bySum (l'.drop k) ≤ 1000000000000 ∧ fillP lead (y0 :: l') room = done ++ fillF room (l'.drop k) cur) (fun (k, _, _) => l'.length - k) (fun _ => by show 7 ≤ 9; decide) (0, [], lead.data.toList ++ y0.data.toList) [(7, some 0), (8, some 5)] ?_
    ⟨Nat.zero_le _, Nat.le_refl _, ?_, ?_, rfl⟩ ?_
  · simp only [List.append_nil]
    exact .of rfl rfl rfl rfl rfl rfl
  · intro h
    have e : (lead.data.toList ++ y0.data.toList).length = 0 := congrArg List.length h
    rw [List.length_append, hlsz] at e
    omega
  · show (lead.data.toList ++ y0.data.toList).length + bySum l' ≤ 1000000000000
    rw [List.length_append, hlsz, hysz]
    have : bySum (y0 :: l') = y0.size + 4 + bySum l' := rfl
    omega
  rintro ⟨k, done, cur⟩ u3 hu3 ⟨g1, g2, g3, g4, g5⟩
  have hdl : (L ++ done).length = L.length + done.length := List.length_append
  have hl'' : l'.length ≤ 1000000000000 := by
    have : ∀ l : List ByteArray, l.length ≤ bySum l := fun l => by
      induction l with
      | nil => exact Nat.le_refl _
      | cons y l ih => simp only [bySum, List.map_cons, List.sum_cons, List.length_cons] at ih ⊢; omega
    have := this (y0 :: l')
    simp only [List.length_cons] at this
    omega
  refine x_vc tt_ok ?_
  refine x_if (fun h => ?_) (fun h => ?_)
  · have h : (k : Int) < (l'.length : Int) := of_decide_eq_true h
    have hkl : k < l'.length := by omega
    repeat (refine And.intro ?_ ?_; first | omega | (simp only [Lay.d_n]; omega) | (simp only [decide_eq_true_eq, decide_eq_false_iff_not, Bool.or_eq_false_iff, Bool.and_eq_true, Bool.or_eq_true, Bool.and_eq_false_iff, Bool.not_eq_true', Bool.not_eq_false', Lay.d_n]; omega) | (simp only [decide_eq_true_eq, decide_eq_false_iff_not, Bool.or_eq_false_iff, Bool.and_eq_true, Bool.or_eq_true, Bool.and_eq_false_iff, Bool.not_eq_true', Bool.not_eq_false']; omega) | (simp only [decide_eq_true_eq, decide_eq_false_iff_not, Bool.or_eq_false_iff]; simp only [Lay.d_n]; omega))
    refine xl_callSC (len_sc true cur) (fun _ _ _ _ => trivial) trivial [1, 8] rfl rfl rfl rfl fn62 rfl rfl rfl rfl rfl rfl rfl (fun _ => rfl) (fun _ u4 hu4 _ => ?_)
    refine xl_go tt_ok ?_
    obtain ⟨y, hy⟩ : ∃ y, l'[k]? = some y := ⟨_, List.getElem?_eq_getElem hkl⟩
    have hyd : l'.getD ((k : Nat) : Int).toNat strY.dft = y := by rw [Int.toNat_natCast, List.getD_eq_getElem?_getD, hy]; rfl
    rw [drop_get hy] at g4 g5
    rw [fillF] at g5
    simp only [bySum, List.map_cons, List.sum_cons] at g4
    have g4' : cur.length + (y.size + 4 + bySum (l'.drop (k + 1))) ≤ 1000000000000 := g4
    have hys : (l'.getD ((k : Nat) : Int).toNat strY.dft).size ≤ 1000000000000 := by rw [hyd]; omega
    repeat (refine And.intro ?_ ?_; first | omega | (simp only [Lay.d_n]; omega) | (simp only [decide_eq_true_eq, decide_eq_false_iff_not, Bool.or_eq_false_iff, Bool.and_eq_true, Bool.or_eq_true, Bool.and_eq_false_iff, Bool.not_eq_true', Bool.not_eq_false', Lay.d_n]; omega) | (simp only [decide_eq_true_eq, decide_eq_false_iff_not, Bool.or_eq_false_iff, Bool.and_eq_true, Bool.or_eq_true, Bool.and_eq_false_iff, Bool.not_eq_true', Bool.not_eq_false']; omega) | (simp only [decide_eq_true_eq, decide_eq_false_iff_not, Bool.or_eq_false_iff]; simp only [Lay.d_n]; omega))
    refine x_if (fun h2 => ?_) (fun h2 => ?_)
    · have h2 : (cur.length : Int) + 1 + y.size ≤ room := by have := of_decide_eq_true h2; simpa only [hyd] using this
      rw [if_pos h2] at g5
      refine xl_callSC (writeByte_sc true cur 32 (by omega)) (fun _ _ _ _ => trivial) trivial [1, 8] rfl rfl rfl rfl fn63 rfl rfl rfl rfl rfl rfl rfl (fun _ => rfl) (fun _ u5 hu5 _ => ?_)
      refine xl_go tt_ok ?_
      refine xl_callSC (writeString_sc true (cur ++ [32]) y (by rw [List.length_append]; show cur.length + 1 + y.size ≤ _; omega)) (fun _ _ _ _ => trivial) trivial [1, 9] rfl rfl rfl rfl fn60 (congrArg (fun z => some [SV.p 1 0, SV.v (.string z)]) hyd) rfl rfl rfl rfl rfl rfl (fun _ => rfl) (fun _ u6 hu6 _ => ?_)
      refine xl_go tt_ok ?_
      repeat (refine And.intro ?_ ?_; first | omega | (simp only [Lay.d_n]; omega) | (simp only [decide_eq_true_eq, decide_eq_false_iff_not, Bool.or_eq_false_iff, Bool.and_eq_true, Bool.or_eq_true, Bool.and_eq_false_iff, Bool.not_eq_true', Bool.not_eq_false', Lay.d_n]; omega) | (simp only [decide_eq_true_eq, decide_eq_false_iff_not, Bool.or_eq_false_iff, Bool.and_eq_true, Bool.or_eq_true, Bool.and_eq_false_iff, Bool.not_eq_true', Bool.not_eq_false']; omega) | (simp only [decide_eq_true_eq, decide_eq_false_iff_not, Bool.or_eq_false_iff]; simp only [Lay.d_n]; omega))
      refine again (k + 1, done, cur ++ 32 :: y.data.toList) [(8, some 10)] ?_ ⟨hkl, by omega, by simp, ?_, g5⟩ (by show l'.length - (k + 1) < l'.length - k; omega)
      · rw [show cur ++ 32 :: y.data.toList = cur ++ [32] ++ y.data.toList by simp]
        exact .of rfl rfl rfl rfl rfl rfl
      · show (cur ++ 32 :: y.data.toList).length + bySum (l'.drop (k + 1)) ≤ _
        rw [List.length_append, List.length_cons, hysz]; omega
    · have h2 : ¬ (cur.length : Int) + 1 + y.size ≤ room := by have := of_decide_eq_false h2; simpa only [hyd] using this
      rw [if_neg h2] at g5
      refine xl_callSC (stringK_sc true cur g3) (fun _ _ _ _ => trivial) trivial [1, 8] rfl rfl rfl rfl fn61 rfl rfl rfl rfl rfl rfl rfl (fun _ => rfl) (fun _ u5 hu5 _ => ?_)
      refine xl_go tt_ok ?_
      refine xl_push tt_ok strY (L ++ done) ⟨cur.toArray⟩ 16 (cs := [.string ⟨cur.toArray⟩]) rfl rfl rfl rfl rfl rfl rfl rfl rfl rfl rfl rfl (by kernel_rfl) rfl rfl rfl rfl rfl (fun n hn => by cases hn; decide) rfl rfl rfl (by omega) (by omega) ?_
      refine xl_go tt_ok ?_
      refine xl_callSC reset_sc (fun _ _ _ _ => trivial) trivial [1, 8] rfl rfl rfl rfl fn64 rfl rfl rfl rfl rfl rfl rfl (fun _ => rfl) (fun _ u6 hu6 _ => ?_)
      refine xl_go tt_ok ?_
      refine xl_nilCell 1 5 byteY [.v (.pointer none)] [] rfl ?_
      refine xl_callSC (writeString_sc false [] ⟨#[32, 42, 32]⟩ (by decide)) (fun _ _ _ _ => trivial) trivial [1, 10] rfl rfl rfl rfl fn60 rfl rfl rfl rfl rfl rfl rfl (fun _ => rfl) (fun _ u7 hu7 _ => ?_)
      refine xl_go tt_ok ?_
      refine xl_callSC (writeString_sc true [32, 42, 32] y (by show 3 + y.size ≤ _; omega)) (fun _ _ _ _ => trivial) trivial [1, 11] rfl rfl rfl rfl fn60 (congrArg (fun z => some [SV.p 1 0, SV.v (.string z)]) hyd) rfl rfl rfl rfl rfl rfl (fun _ => rfl) (fun _ u8 hu8 _ => ?_)
      refine xl_go tt_ok ?_
      repeat (refine And.intro ?_ ?_; first | omega | (simp only [Lay.d_n]; omega) | (simp only [decide_eq_true_eq, decide_eq_false_iff_not, Bool.or_eq_false_iff, Bool.and_eq_true, Bool.or_eq_true, Bool.and_eq_false_iff, Bool.not_eq_true', Bool.not_eq_false', Lay.d_n]; omega) | (simp only [decide_eq_true_eq, decide_eq_false_iff_not, Bool.or_eq_false_iff, Bool.and_eq_true, Bool.or_eq_true, Bool.and_eq_false_iff, Bool.not_eq_true', Bool.not_eq_false']; omega) | (simp only [decide_eq_true_eq, decide_eq_false_iff_not, Bool.or_eq_false_iff]; simp only [Lay.d_n]; omega))
      refine again (k + 1, done ++ [⟨cur.toArray⟩], 32 :: 42 :: 32 :: y.data.toList) [(7, some 9), (8, some 12)] ?_ ⟨hkl, by simp; omega, by simp, ?_, by rw [g5, List.append_assoc]; rfl⟩ (by show l'.length - (k + 1) < l'.length - k; omega)
      · simp only [← List.append_assoc]
        exact .of rfl rfl rfl rfl rfl rfl
      · show (32 :: 42 :: 32 :: y.data.toList).length + bySum (l'.drop (k + 1)) ≤ 1000000000000
        simp only [List.length_cons, hysz]; omega
  · have h : ¬ (k : Int) < (l'.length : Int) := of_decide_eq_false h
    have ek : k = l'.length := by omega
    subst ek
    rw [List.drop_length, fillF] at g5
    refine xl_callSC (stringK_sc true cur g3) (fun _ _ _ _ => trivial) trivial [1, 8] rfl rfl rfl rfl fn61 rfl rfl rfl rfl rfl rfl rfl (fun _ => rfl) (fun _ u5 hu5 _ => ?_)
    refine xl_go tt_ok ?_
    refine xl_push tt_ok strY (L ++ done) ⟨cur.toArray⟩ 16 (cs := [.string ⟨cur.toArray⟩]) rfl rfl rfl rfl rfl rfl rfl rfl rfl rfl rfl rfl (by kernel_rfl) rfl rfl rfl rfl rfl (fun n hn => by cases hn; decide) rfl rfl rfl (by omega) (by omega) ?_
    refine xl_go tt_ok ?_
    refine ⟨(), [(1, some 9)], 9, rfl, ?_, of_decide_eq_true rfl, ⟨_, _, rfl⟩, of_decide_eq_true rfl, trivial⟩
    rw [g5, ← List.append_assoc]
    exact .of rfl rfl rfl rfl rfl rfl
end Go.Proofs.YtnjmkeijjapejaaDoor
namespace Go.Proofs.YtnjmkeijjapejaaDoor
open Go.GV Go.RowKit
def joinT (L : List ByteArray) (sep : ByteArray) : ByteArray := ⟨(Lib.join (L.map (·.data.toList)) sep.data.toList).toArray⟩
theorem joinT_size (L : List ByteArray) (sep : ByteArray) : (joinT L sep).size = (Lib.join (L.map (·.data.toList)) sep.data.toList).length := by
  show (joinT L sep).data.size = _
  simp [joinT]
theorem join_any (L : List ByteArray) (x : Value) (sep : ByteArray) (w : World) (hx : SlAt (im w) x (strY.d L)) (hL : L.length ≤ 140737488355328) (hz : (joinT L sep).size ≤ 140737488355328) :
    Calls Tryd.prog 38 #[x, .string sep] w (PureP w fun v _ => v = .string (joinT L sep)) := by
  obtain ⟨A, c, rfl, h2, h3, h4⟩ := hx
  by_cases h0 : L.length = 0
  · have hl : L = [] := List.eq_nil_of_length_eq_zero h0
    subst hl
    refine (Tryd.strings_Join_none A c sep w).mono fun e w' ⟨h5, h6⟩ => ?_
    subst h6
    exact ⟨_, h5, Below.refl _ _, rfl⟩
  · obtain ⟨ad, rfl, h6⟩ := h4 (by show 0 < L.length; omega)
    have hcell : ∀ (j : Nat) x, L[j]? = some x → (im w).cell? (ad.add j) = some (.string x) := by
      intro j x hj
      have hjl : j < L.length := (List.getElem?_eq_some_iff.1 hj).1
      have := h6 j hjl 0 _ rfl
      have e1 : L.getD (j : Int).toNat (⟨#[]⟩ : ByteArray) = x := by
        rw [List.getD_eq_getElem?_getD, Int.toNat_natCast, hj]; rfl
      have e2 : j * (strY.d L).cs.length + 0 = j := by show j * 1 + 0 = j; omega
      rw [e2] at this
      rw [this]
      show some (Value.string (L.getD (j : Int).toNat ⟨#[]⟩)) = _
      rw [e1]
    obtain ⟨bk, o, sp⟩ := ad
    have h7 := hcell 0 (L.getD 0 ⟨#[]⟩) (by rw [List.getD_eq_getElem?_getD, List.getElem?_eq_getElem (by omega)]; rfl)
    have hsp : sp = none := by
      cases sp with
      | none => rfl
      | some q =>
        exfalso
        unfold Addr.add at h7
        rw [if_pos rfl] at h7
        unfold Im.cell? at h7
        split at h7
        · simp at h7
        · cases h7
    subst hsp
    have hbk : bk < w.heap.size := by
      unfold Im.cell? Addr.add at h7
      rw [if_pos rfl] at h7
      split at h7
      · rename_i h8
        exact (Array.getElem?_eq_some_iff.1 h8).1
      · cases h7
    refine (Tryd.strings_Join bk o c L sep w (fun j x hj => ?_) hbk hL (by exact h2) (by rw [← joinT_size]; exact hz)).mono fun e w' ⟨h5, h8⟩ => ⟨_, h5, h8, rfl⟩
    have h9 := hcell j x hj
    rw [← h9]
    show w.cell? _ = w.cell? _
    congr 1
    unfold Addr.add
    by_cases hj0 : j = 0
    · subst hj0; rfl
    · rw [if_neg (by simpa using hj0)]
def blB : ByteArray := ⟨#[32]⟩
def bgB : ByteArray := ⟨#[47, 42, 32]⟩
def ltB : ByteArray := ⟨#[32, 42, 32]⟩
def eoB : ByteArray := ⟨#[32, 42, 47]⟩
def emB : ByteArray := ⟨#[47, 42, 32, 42, 47]⟩
def stB : ByteArray := ⟨#[32, 42]⟩
def oneRow (p : List ByteArray) : ByteArray := bgB ++ joinT p blB ++ eoB
def badF (s : ByteArray) (ind col : Int) : Bool := (((!(insP s).2 || decide (ind < 0)) || decide (256 < ind)) || decide (col < 1)) || decide (4096 < col)
def rowsF (room : Int) : Bool → Par → List ByteArray
  | _, [] => []
  | first, p :: r => (if first then [] else [stB]) ++ (fillP (if first then bgB else ltB) p room ++ rowsF room false r)
def fillsP (s : ByteArray) (ind col : Int) : List ByteArray × Int :=
  if badF s ind col then ([], 2)
  else if keptB (insP s).1 then (splitP s, 0)
  else if parP (insP s).1 = [] then ([emB], 0)
  else if (parP (insP s).1).length = 1 ∧ ((oneRow ((parP (insP s).1).getD 0 [])).size : Int) ≤ col - ind then ([oneRow ((parP (insP s).1).getD 0 [])], 0)
  else (rowsF (col - ind) true (parP (insP s).1) ++ [eoB], 0)
structure SmallP (s : ByteArray) : Prop where
  size : s.size ≤ 4294967280
  isize : (insP s).1.size < 4294967281
  tot : ((wsOf (insP s).1).map List.length).sum * 24 + 100 ≤ 140737488355328
  lin : ∀ x ∈ linesP (insP s).1, x.size ≤ 281474976710656 ∧ ∀ y ∈ wordsP x, y.size ≤ 281474976710656
  par : ∀ p ∈ parP (insP s).1, bySum p ≤ 1000000000000
  num : (parP (insP s).1).length + szR (parP (insP s).1) ≤ 100000000000
theorem addW_ne {st : Par × Bool} {y : ByteArray} (h : ∀ p ∈ st.1, p ≠ []) : ∀ p ∈ (addW st y).1, p ≠ [] := by
  intro p hp
  unfold addW at hp
  simp only at hp
  rw [List.mem_iff_getElem?] at hp
  obtain ⟨i, hi⟩ := hp
  rw [List.getElem?_set] at hi
  split at hi
  · split at hi
    · cases hi; simp
    · cases hi
  · rename_i hne
    unfold opn at hi hne
    split at hi
    · exact h p (List.mem_of_getElem? hi)
    · rename_i hb
      rw [if_neg hb] at hne
      simp only [List.length_append, List.length_singleton, Nat.add_sub_cancel] at hne
      rcases Nat.lt_or_ge i st.1.length with h1 | h1
      · rw [List.getElem?_append_left h1] at hi
        exact h p (List.mem_of_getElem? hi)
      · have := (List.getElem?_eq_some_iff.1 hi).1
        simp at this
        omega
theorem foldW_ne : ∀ (ws : List ByteArray) (st : Par × Bool), (∀ p ∈ st.1, p ≠ []) → ∀ p ∈ (ws.foldl addW st).1, p ≠ []
  | [], _, h => h
  | y :: r, st, h => foldW_ne r (addW st y) (addW_ne h)
theorem parP_ne (s : ByteArray) : ∀ p ∈ parP s, p ≠ [] := by
  have : ∀ (L : List (List ByteArray)) (st : Par × Bool), (∀ p ∈ st.1, p ≠ []) → ∀ p ∈ (L.foldl parLine st).1, p ≠ [] := by
    intro L
    induction L with
    | nil => exact fun st h => h
    | cons x L ih =>
      intro st h
      refine ih _ ?_
      unfold parLine
      split
      · exact h
      · exact foldW_ne x st h
  exact this _ _ (fun p hp => by cases hp)
theorem fillP_len (lead : ByteArray) (p : List ByteArray) (room : Int) : (fillP lead p room).length ≤ p.length := by
  unfold fillP
  split
  · exact Nat.le_refl _
  · rename_i y r
    have := fillF_len room r (lead.data.toList ++ y.data.toList)
    simp only [List.length_cons]; exact this
theorem join_size : ∀ p : List ByteArray, (joinT p blB).size ≤ bySum p
  | [] => Nat.zero_le _
  | y :: r => by
    rw [joinT_size, List.map_cons, Lib.join_cons, List.length_append]
    have : ∀ r : List ByteArray, (Lib.joinTail blB.data.toList (r.map (·.data.toList))).length ≤ bySum r := by
      intro r
      induction r with
      | nil => exact Nat.le_refl _
      | cons z r ih =>
        simp only [Lib.joinTail, List.map_cons, List.flatten_cons, List.length_append, bySum, List.sum_cons] at ih ⊢
        have e : z.data.toList.length = z.size := Array.length_toList
        have e2 : blB.data.toList.length = 1 := rfl
        omega
    have h1 := this r
    have e : y.data.toList.length = y.size := Array.length_toList
    have e3 : bySum (y :: r) = y.size + 4 + bySum r := rfl
    omega
theorem take_rows (room : Int) : ∀ (R : Par) (first : Bool) (i : Nat) (p : List ByteArray), R[i]? = some p → rowsF room first (R.take (i + 1)) = rowsF room first (R.take i) ++ ((if (first && decide (i = 0)) then [] else [stB]) ++ fillP (if (first && decide (i = 0)) then bgB else ltB) p room)
  | [], _, _, _, h => by simp at h
  | q :: R, first, 0, p, h => by
    simp only [List.getElem?_cons_zero, Option.some.injEq] at h
    subst h
    cases first <;> simp [rowsF]
  | q :: R, first, i + 1, p, h => by
    simp only [List.getElem?_cons_succ] at h
    have := take_rows room R false i p h
    simp only [List.take_succ_cons, rowsF, this, Bool.false_and, Bool.false_eq_true, if_false]
    rw [show decide (i + 1 = 0) = false from rfl, Bool.and_false]
    simp [List.append_assoc]
def leadF : Nat → ByteArray
  | 0 => bgB
  | _ + 1 => ltB
theorem leadF_size : ∀ i : Nat, (leadF i).size ≤ 3 ∧ 1 ≤ (leadF i).size
  | 0 => by show bgB.size ≤ 3 ∧ 1 ≤ bgB.size; decide
  | _ + 1 => by show ltB.size ≤ 3 ∧ 1 ≤ ltB.size; decide
theorem rowsF_len (room : Int) : ∀ (R : Par) (f : Bool), (rowsF room f R).length ≤ R.length + szR R
  | [], _ => Nat.zero_le _
  | p :: R, f => by
    have h1 := rowsF_len room R false
    have h2 := fillP_len (if f then bgB else ltB) p room
    have h3 : szR (p :: R) = p.length + szR R := rfl
    simp only [rowsF, List.length_append, List.length_cons]
    have h4 : (if f = true then ([] : List ByteArray) else [stB]).length ≤ 1 := by cases f <;> simp
    omega
theorem szR_take : ∀ (R : Par) (i : Nat), szR (R.take i) ≤ szR R
  | [], i => by simp
  | p :: R, 0 => Nat.zero_le _
  | p :: R, i + 1 => by
    have := szR_take R i
    have h3 : szR (p :: R) = p.length + szR R := rfl
    have h4 : szR ((p :: R).take (i + 1)) = p.length + szR (R.take i) := rfl
    omega
theorem take_rows0 (room : Int) {R : Par} {i : Nat} {p : List ByteArray} (h : R[i]? = some p) : rowsF room true (R.take (i + 1)) = rowsF room true (R.take i) ++ ((if i = 0 then [] else [stB]) ++ fillP (leadF i) p room) := by
  rw [take_rows room R true i p h]
  cases i with
  | zero => rfl
  | succ i => rfl
theorem getD_ofP {α : Type} {L : List α} {i : Nat} {x d : α} (h : L[i]? = some x) : L.getD i d = x := by
  rw [List.getD_eq_getElem?_getD, h]; rfl
set_option maxRecDepth 100000 in
theorem keptX_any (s : ByteArray) (w : World) (hg : Glob (im w)) (hz : s.size ≤ 4294967280) :
    Calls Tryd.prog 13 #[.string s] w (PureP w fun v _ => v = .tuple #[.bool ((insP s).2 && keptB (insP s).1), .int .i64 (if (insP s).2 then 0 else 2)]) := by
  refine x_fun tt_ok Tryd.func13 rfl rfl [] 0 [.v (.string s)] rfl rfl rfl rfl (fun b hb => by cases hb) ?_
  refine x_vc tt_ok ?_
  refine xl_call0 (.tuple #[.string (insP s).1, .bool (insP s).2]) rfl rfl rfl rfl fn34 rfl rfl (fun E w F hs => inside_any s hz w (hg.imm hs.imm)) ?_
  generalize insP s = q
  obtain ⟨a, b⟩ := q
  cases b
  · refine xl_go tt_ok ?_
    refine x_ift rfl ?_
    exact fin1 (fun _ _ => rfl)
  · refine xl_go tt_ok ?_
    refine x_iff rfl ?_
    refine xl_call0 (.bool (keptB a)) rfl rfl rfl rfl fn35 rfl rfl (fun E w F _ => kept_any a w) ?_
    refine xl_go tt_ok ?_
    exact fin1 (fun _ _ => by simp only [Bool.true_and, if_true]; rfl)
set_option maxHeartbeats 1000000 in
set_option maxRecDepth 100000 in
theorem fills_any (s : ByteArray) (ind col : Int) (w : World) (hg : Glob (im w)) (hS : SmallP s) :
    Calls Tryd.prog 12 #[.string s, .int .i64 ind, .int .i64 col] w (PureP w (OwnT 9 (strY.d (fillsP s ind col).1) [.int .i64 (fillsP s ind col).2])) := by
  have hz := hS.size
  refine x_fun tt_ok Tryd.func12 rfl rfl [] 0 [.v (.string s), .v (.int .i64 ind), .v (.int .i64 col)] rfl rfl rfl rfl (fun b hb => by cases hb) ?_
  refine x_vc tt_ok ?_
  refine xl_call0 (.tuple #[.string (insP s).1, .bool (insP s).2]) rfl rfl rfl rfl fn34 rfl rfl (fun E w F hs => inside_any s hz w (hg.imm hs.imm)) ?_
  refine xl_go tt_ok ?_
  refine x_if (fun h => ?_) (fun h => ?_)
  · have h : badF s ind col = true := h
    rw [fillsP, if_pos h]
    exact finO2n strY
  · have h : badF s ind col = false := h
    have hv : (insP s).2 = true ∧ 0 ≤ ind ∧ ind ≤ 256 ∧ 1 ≤ col ∧ col ≤ 4096 := by
      simp only [badF, Bool.or_eq_false_iff, Bool.not_eq_false', decide_eq_false_iff_not] at h
      exact ⟨h.1.1.1.1, by omega, by omega, by omega, by omega⟩
    rw [fillsP, if_neg (by rw [h]; decide)]
    refine xl_call0 (.bool (keptB (insP s).1)) rfl rfl rfl rfl fn35 rfl rfl (fun E w F _ => kept_any (insP s).1 w) ?_
    refine xl_go tt_ok ?_
    refine x_if (fun h2 => ?_) (fun h2 => ?_)
    · have h2 : keptB (insP s).1 = true := h2
      rw [if_pos h2]
      refine xl_callO 9 (strY.d (splitP s)) rfl rfl rfl rfl fn36 rfl rfl (fun E w F hs' => split_own s w (by omega) (hg.imm hs'.imm)) ?_
      refine xl_go tt_ok ?_
      exact finO2 (k := 0) rfl
    · have h2 : keptB (insP s).1 = false := h2
      rw [if_neg (by rw [h2]; decide)]
      generalize hR : parP (insP s).1 = R
      have hRne : ∀ p ∈ R, p ≠ [] := by rw [← hR]; exact parP_ne _
      have hpar : ∀ p ∈ R, bySum p ≤ 1000000000000 := by rw [← hR]; exact hS.par
      have hnum : R.length + szR R ≤ 100000000000 := by rw [← hR]; exact hS.num
      refine xl_callStar (σ := Option Addr × Nat × List SlV) (fun s => .slice s.1 R.length s.2.1) (fun s => itemsP s.2.2 R ++ [⟨.slice s.1 R.length s.2.1, 23, slY.d s.2.2⟩]) (fun s => s.2.2.length = R.length) rfl rfl rfl rfl fn37 rfl rfl (fun E w F hs' => by
        have := paragraphs_any (insP s).1 w (hg.imm hs'.imm) hS.isize hS.tot hS.lin
        rw [hR] at this
        exact this) (fun ⟨A, cc, V⟩ hVR => ?_)
      have hVR : V.length = R.length := hVR
      refine xl_freezeStar 0 (sl := itemsP V R ++ [(⟨.slice A R.length cc, 23, slY.d V⟩ : SI)]) rfl (fun u1 hu1 hfr => ?_)
      have hOut : SlAt u1 (.slice A R.length cc) (slY.d V) := (hfr _ (List.mem_append_right _ (List.mem_singleton.2 rfl))).1
      have hIn : ∀ (i : Nat) p, R[i]? = some p → SlAt u1 (V.getD i ⟨none, 0, 0⟩).val (strY.d p) := fun i p hp => by
        have hil : i < R.length := (List.getElem?_eq_some_iff.1 hp).1
        have := hfr _ (List.mem_append_left _ (List.mem_of_getElem? (itemsP_get (V := V) (R := R) (i := i) (by omega) hil)))
        rw [getD_ofP hp] at this
        exact this.1
      refine xl_go tt_ok ?_
      refine x_if (fun h3 => ?_) (fun h3 => ?_)
      · have h3 : ((R.length : Nat) : Int) = 0 := of_decide_eq_true h3
        rw [if_pos (List.eq_nil_of_length_eq_zero (by omega))]
        refine xl_build tt_ok strY [emB] [_] rfl rfl rfl rfl rfl rfl rfl rfl rfl rfl rfl rfl rfl rfl rfl ?_
        refine xl_go tt_ok ?_
        exact finO2 (k := 1) rfl
      · have h3 : ¬ ((R.length : Nat) : Int) = 0 := of_decide_eq_false h3
        rw [if_neg (fun hh => h3 (by rw [hh]; rfl))]
        have hVl : ((slY.d V).n : Int) = R.length := by rw [Lay.d_n, hVR]
        repeat (refine And.intro ?_ ?_; first | omega | (simp only [Lay.d_n]; omega) | (simp only [decide_eq_true_eq, decide_eq_false_iff_not, Bool.or_eq_false_iff, Bool.and_eq_true, Bool.or_eq_true, Bool.and_eq_false_iff, Bool.not_eq_true', Bool.not_eq_false', Lay.d_n]; omega) | (simp only [decide_eq_true_eq, decide_eq_false_iff_not, Bool.or_eq_false_iff, Bool.and_eq_true, Bool.or_eq_true, Bool.and_eq_false_iff, Bool.not_eq_true', Bool.not_eq_false']; omega) | (simp only [decide_eq_true_eq, decide_eq_false_iff_not, Bool.or_eq_false_iff]; simp only [Lay.d_n]; omega))
        refine x_if (fun h4 => ?_) (fun h4 => ?_)
        · have h4 : R.length = 1 := by have := of_decide_eq_true h4; omega
          have hp0 : R[0]? = some (R.getD 0 []) := by rw [List.getD_eq_getElem?_getD, List.getElem?_eq_getElem (by omega)]; rfl
          have hin0 := hIn 0 _ hp0
          have hb0 := hpar _ (List.mem_of_getElem? hp0)
          have hj0 := join_size (R.getD 0 [])
          have hn0 : (R.getD 0 []).length ≤ szR R := getD_sz (by omega)
          refine xl_sl 56 rfl hOut ?_
          refine xl_go tt_ok ?_
          repeat (refine And.intro ?_ ?_; first | omega | (simp only [Lay.d_n]; omega) | (simp only [decide_eq_true_eq, decide_eq_false_iff_not, Bool.or_eq_false_iff, Bool.and_eq_true, Bool.or_eq_true, Bool.and_eq_false_iff, Bool.not_eq_true', Bool.not_eq_false', Lay.d_n]; omega) | (simp only [decide_eq_true_eq, decide_eq_false_iff_not, Bool.or_eq_false_iff, Bool.and_eq_true, Bool.or_eq_true, Bool.and_eq_false_iff, Bool.not_eq_true', Bool.not_eq_false']; omega) | (simp only [decide_eq_true_eq, decide_eq_false_iff_not, Bool.or_eq_false_iff]; simp only [Lay.d_n]; omega))
          refine xl_call0 (.string (joinT (R.getD 0 []) blB)) rfl rfl rfl rfl fn38 rfl rfl (fun E w F hs' => join_any _ _ blB w (hin0.imm hs'.imm) (by omega) (by omega)) ?_
          refine xl_go tt_ok ?_
          have hc1 : (⟨#[47, 42, 32]⟩ : ByteArray).size = 3 := rfl
          have hc2 : (⟨#[32, 42, 47]⟩ : ByteArray).size = 3 := rfl
          have hc3 : ((⟨#[47, 42, 32]⟩ : ByteArray) ++ joinT (R.getD 0 []) blB).size = 3 + (joinT (R.getD 0 []) blB).size := by rw [ByteArray.size_append]; rfl
          have hc4 : ((⟨#[47, 42, 32]⟩ : ByteArray) ++ joinT (R.getD 0 []) blB ++ ⟨#[32, 42, 47]⟩).size = 3 + (joinT (R.getD 0 []) blB).size + 3 := by rw [ByteArray.size_append, hc3]; rfl
          repeat (refine And.intro ?_ ?_; first | omega | (simp only [Lay.d_n]; omega) | (simp only [decide_eq_true_eq, decide_eq_false_iff_not, Bool.or_eq_false_iff, Bool.and_eq_true, Bool.or_eq_true, Bool.and_eq_false_iff, Bool.not_eq_true', Bool.not_eq_false', Lay.d_n]; omega) | (simp only [decide_eq_true_eq, decide_eq_false_iff_not, Bool.or_eq_false_iff, Bool.and_eq_true, Bool.or_eq_true, Bool.and_eq_false_iff, Bool.not_eq_true', Bool.not_eq_false']; omega) | (simp only [decide_eq_true_eq, decide_eq_false_iff_not, Bool.or_eq_false_iff]; simp only [Lay.d_n]; omega))
          refine x_if (fun h5 => ?_) (fun h5 => ?_)
          · have h5 : ((oneRow (R.getD 0 [])).size : Int) ≤ col - ind := of_decide_eq_true h5
            rw [if_pos ⟨h4, h5⟩]
            refine xl_build tt_ok strY [oneRow (R.getD 0 [])] [_] rfl rfl rfl rfl rfl rfl rfl rfl rfl rfl rfl rfl rfl rfl rfl ?_
            refine xl_go tt_ok ?_
            exact finO2 (k := 2) rfl
          · have h5 : ¬ ((oneRow (R.getD 0 [])).size : Int) ≤ col - ind := of_decide_eq_false h5
            rw [if_neg (fun hh => h5 hh.2)]
            refine x_nil 13 9 strY rfl ?_
            refine x_sl 68 rfl hOut ?_
            refine x_loop (σ := Nat × List ByteArray) (fun (i, done) => ⟨[(70, .v (.int .i64 (i : Int))), (69, .v (.int .i64 (R.length : Int))), (68, .r 8), (14, .v (.string (leadF i))), (13, .r 9), (11, .v (.int .i64 (col - ind)))], [],
                [(9, .row 9 (strY.d done)), (8, .sl (slY.d V))], 10⟩)
              (fun (i, done) _ => i ≤ R.length ∧ done = rowsF (col - ind) true (R.take i)) (fun (i, _) => R.length - i) (fun _ => of_decide_eq_true rfl) (0, []) [(9, some 2), (8, some 3)] (.of rfl rfl rfl rfl rfl rfl) ⟨Nat.zero_le _, rfl⟩ ?_
            rintro ⟨i, done⟩ u3 hu3 ⟨g1, g2⟩
            have hdl : done.length ≤ 200000000000 := by
              have e1 := rowsF_len (col - ind) (R.take i) true
              have e2 := szR_take R i
              have e3 : (R.take i).length ≤ R.length := by rw [List.length_take]; omega
              rw [g2]; omega
            refine x_vc tt_ok ?_
            refine x_if (fun h6 => ?_) (fun h6 => ?_)
            · have h6 : (i : Int) < (R.length : Int) := of_decide_eq_true h6
              have hil : i < R.length := by omega
              obtain ⟨p, hp⟩ : ∃ p, R[i]? = some p := ⟨_, List.getElem?_eq_getElem hil⟩
              have hnext := take_rows0 (col - ind) hp
              have hpm := List.mem_of_getElem? hp
              have hpb := hpar p hpm
              have hin3 := (hIn i p hp).le hu3
              obtain ⟨Ai, ci, hval, hin4⟩ : ∃ Ai ci, (V.getD ((i : Nat) : Int).toNat ⟨none, 0, 0⟩).val = .slice Ai p.length ci ∧ SlAt u3 (.slice Ai p.length ci) (strY.d p) := by
                obtain ⟨Ai, ci, h7, h8⟩ := id hin3
                rw [Int.toNat_natCast]
                rw [h7] at hin3
                exact ⟨Ai, ci, h7, hin3⟩
              have hVi : ((i : Nat) : Int) < (slY.d V).n := by rw [Lay.d_n, hVR]; exact h6
              have hpb2 : bySum p ≤ 1000000000000 := by omega
              repeat (refine And.intro ?_ ?_; first | omega | (simp only [Lay.d_n]; omega) | (simp only [decide_eq_true_eq, decide_eq_false_iff_not, Bool.or_eq_false_iff, Bool.and_eq_true, Bool.or_eq_true, Bool.and_eq_false_iff, Bool.not_eq_true', Bool.not_eq_false', Lay.d_n]; omega) | (simp only [decide_eq_true_eq, decide_eq_false_iff_not, Bool.or_eq_false_iff, Bool.and_eq_true, Bool.or_eq_true, Bool.and_eq_false_iff, Bool.not_eq_true', Bool.not_eq_false']; omega) | (simp only [decide_eq_true_eq, decide_eq_false_iff_not, Bool.or_eq_false_iff]; simp only [Lay.d_n]; omega))
              refine x_if (fun h7 => ?_) (fun h7 => ?_)
              · have h7 : (0 : Int) < (i : Int) := of_decide_eq_true h7
                rw [if_neg (by omega)] at hnext
                refine xl_push tt_ok strY done stB 16 (cs := [.string stB]) rfl rfl rfl rfl rfl rfl rfl rfl rfl rfl rfl rfl (by kernel_rfl) rfl rfl rfl rfl rfl (fun n hn => by cases hn; decide) rfl rfl rfl (by omega) (by omega) ?_
                refine xl_go tt_ok ?_
                refine xl_callSCR (fill_scr (done ++ [stB]) p (leadF i) Ai ci (col - ind) (hRne p hpm) (leadF_size i) hpb2 (by rw [List.length_append]; show done.length + 1 ≤ _; omega)) (fun u u' hu h => h.sub hu) hin4 [10] rfl rfl rfl rfl fn39
                  (congrArg (fun z => some [SV.r 10, SV.v (.string (leadF i)), SV.v z, SV.v (.int .i64 (col - ind))]) hval) rfl rfl rfl rfl rfl rfl (fun _ => rfl) (fun _ u4 hu4 _ => ?_)
                refine xl_go tt_ok ?_
                repeat (refine And.intro ?_ ?_; first | omega | (simp only [Lay.d_n]; omega) | (simp only [decide_eq_true_eq, decide_eq_false_iff_not, Bool.or_eq_false_iff, Bool.and_eq_true, Bool.or_eq_true, Bool.and_eq_false_iff, Bool.not_eq_true', Bool.not_eq_false', Lay.d_n]; omega) | (simp only [decide_eq_true_eq, decide_eq_false_iff_not, Bool.or_eq_false_iff, Bool.and_eq_true, Bool.or_eq_true, Bool.and_eq_false_iff, Bool.not_eq_true', Bool.not_eq_false']; omega) | (simp only [decide_eq_true_eq, decide_eq_false_iff_not, Bool.or_eq_false_iff]; simp only [Lay.d_n]; omega))
                refine again (i + 1, done ++ [stB] ++ fillP (leadF i) p (col - ind)) [(9, some 11)] (.of rfl rfl rfl rfl rfl rfl) ⟨hil, by rw [hnext, ← g2, List.append_assoc]⟩ (by show R.length - (i + 1) < R.length - i; omega)
              · have h7 : ¬ (0 : Int) < (i : Int) := of_decide_eq_false h7
                have ei : i = 0 := by omega
                subst ei
                rw [if_pos rfl] at hnext
                refine xl_callSCR (fill_scr done p bgB Ai ci (col - ind) (hRne p hpm) (leadF_size 0) hpb2 (by omega)) (fun u u' hu h => h.sub hu) hin4 [9] rfl rfl rfl rfl fn39
                  (congrArg (fun z => some [SV.r 9, SV.v (.string bgB), SV.v z, SV.v (.int .i64 (col - ind))]) hval) rfl rfl rfl rfl rfl rfl (fun _ => rfl) (fun _ u4 hu4 _ => ?_)
                refine xl_go tt_ok ?_
                repeat (refine And.intro ?_ ?_; first | omega | (simp only [Lay.d_n]; omega) | (simp only [decide_eq_true_eq, decide_eq_false_iff_not, Bool.or_eq_false_iff, Bool.and_eq_true, Bool.or_eq_true, Bool.and_eq_false_iff, Bool.not_eq_true', Bool.not_eq_false', Lay.d_n]; omega) | (simp only [decide_eq_true_eq, decide_eq_false_iff_not, Bool.or_eq_false_iff, Bool.and_eq_true, Bool.or_eq_true, Bool.and_eq_false_iff, Bool.not_eq_true', Bool.not_eq_false']; omega) | (simp only [decide_eq_true_eq, decide_eq_false_iff_not, Bool.or_eq_false_iff]; simp only [Lay.d_n]; omega))
                refine again (0 + 1, done ++ fillP bgB p (col - ind)) [(9, some 10)] (.of rfl rfl rfl rfl rfl rfl) ⟨hil, by rw [hnext, ← g2]; rfl⟩ (by show R.length - (0 + 1) < R.length - 0; omega)
            · have h6 : ¬ (i : Int) < (R.length : Int) := of_decide_eq_false h6
              have ei : i = R.length := by omega
              subst ei
              rw [List.take_length] at g2
              rw [← g2]
              refine xl_push tt_ok strY done eoB 16 (cs := [.string eoB]) rfl rfl rfl rfl rfl rfl rfl rfl rfl rfl rfl rfl (by kernel_rfl) rfl rfl rfl rfl rfl (fun n hn => by cases hn; decide) rfl rfl rfl (by omega) (by omega) ?_
              refine xl_go tt_ok ?_
              exact finO2 (k := 10) rfl
        · have h4 : ¬ R.length = 1 := by have := of_decide_eq_false h4; omega
          rw [if_neg (fun hh => h4 hh.1)]
          refine x_nil 13 9 strY rfl ?_
          refine x_sl 68 rfl hOut ?_
          refine x_loop (σ := Nat × List ByteArray) (fun (i, done) => ⟨[(70, .v (.int .i64 (i : Int))), (69, .v (.int .i64 (R.length : Int))), (68, .r 8), (14, .v (.string (leadF i))), (13, .r 9), (11, .v (.int .i64 (col - ind)))], [],
              [(9, .row 9 (strY.d done)), (8, .sl (slY.d V))], 10⟩)
            (fun (i, done) _ => i ≤ R.length ∧ done = rowsF (col - ind) true (R.take i)) (fun (i, _) => R.length - i) (fun _ => of_decide_eq_true rfl) (0, []) [(9, some 1), (8, some 2)] (.of rfl rfl rfl rfl rfl rfl) ⟨Nat.zero_le _, rfl⟩ ?_
          rintro ⟨i, done⟩ u3 hu3 ⟨g1, g2⟩
          have hdl : done.length ≤ 200000000000 := by
            have e1 := rowsF_len (col - ind) (R.take i) true
            have e2 := szR_take R i
            have e3 : (R.take i).length ≤ R.length := by rw [List.length_take]; omega
            rw [g2]; omega
          refine x_vc tt_ok ?_
          refine x_if (fun h6 => ?_) (fun h6 => ?_)
          · have h6 : (i : Int) < (R.length : Int) := of_decide_eq_true h6
            have hil : i < R.length := by omega
            obtain ⟨p, hp⟩ : ∃ p, R[i]? = some p := ⟨_, List.getElem?_eq_getElem hil⟩
            have hnext := take_rows0 (col - ind) hp
            have hpm := List.mem_of_getElem? hp
            have hpb := hpar p hpm
            have hin3 := (hIn i p hp).le hu3
            obtain ⟨Ai, ci, hval, hin4⟩ : ∃ Ai ci, (V.getD ((i : Nat) : Int).toNat ⟨none, 0, 0⟩).val = .slice Ai p.length ci ∧ SlAt u3 (.slice Ai p.length ci) (strY.d p) := by
              obtain ⟨Ai, ci, h7, h8⟩ := id hin3
              rw [Int.toNat_natCast]
              rw [h7] at hin3
              exact ⟨Ai, ci, h7, hin3⟩
            have hVi : ((i : Nat) : Int) < (slY.d V).n := by rw [Lay.d_n, hVR]; exact h6
            have hpb2 : bySum p ≤ 1000000000000 := by omega
            repeat (refine And.intro ?_ ?_; first | omega | (simp only [Lay.d_n]; omega) | (simp only [decide_eq_true_eq, decide_eq_false_iff_not, Bool.or_eq_false_iff, Bool.and_eq_true, Bool.or_eq_true, Bool.and_eq_false_iff, Bool.not_eq_true', Bool.not_eq_false', Lay.d_n]; omega) | (simp only [decide_eq_true_eq, decide_eq_false_iff_not, Bool.or_eq_false_iff, Bool.and_eq_true, Bool.or_eq_true, Bool.and_eq_false_iff, Bool.not_eq_true', Bool.not_eq_false']; omega) | (simp only [decide_eq_true_eq, decide_eq_false_iff_not, Bool.or_eq_false_iff]; simp only [Lay.d_n]; omega))
            refine x_if (fun h7 => ?_) (fun h7 => ?_)
            · have h7 : (0 : Int) < (i : Int) := of_decide_eq_true h7
              rw [if_neg (by omega)] at hnext
              refine xl_push tt_ok strY done stB 16 (cs := [.string stB]) rfl rfl rfl rfl rfl rfl rfl rfl rfl rfl rfl rfl (by kernel_rfl) rfl rfl rfl rfl rfl (fun n hn => by cases hn; decide) rfl rfl rfl (by omega) (by omega) ?_
              refine xl_go tt_ok ?_
              refine xl_callSCR (fill_scr (done ++ [stB]) p (leadF i) Ai ci (col - ind) (hRne p hpm) (leadF_size i) hpb2 (by rw [List.length_append]; show done.length + 1 ≤ _; omega)) (fun u u' hu h => h.sub hu) hin4 [10] rfl rfl rfl rfl fn39
                (congrArg (fun z => some [SV.r 10, SV.v (.string (leadF i)), SV.v z, SV.v (.int .i64 (col - ind))]) hval) rfl rfl rfl rfl rfl rfl (fun _ => rfl) (fun _ u4 hu4 _ => ?_)
              refine xl_go tt_ok ?_
              repeat (refine And.intro ?_ ?_; first | omega | (simp only [Lay.d_n]; omega) | (simp only [decide_eq_true_eq, decide_eq_false_iff_not, Bool.or_eq_false_iff, Bool.and_eq_true, Bool.or_eq_true, Bool.and_eq_false_iff, Bool.not_eq_true', Bool.not_eq_false', Lay.d_n]; omega) | (simp only [decide_eq_true_eq, decide_eq_false_iff_not, Bool.or_eq_false_iff, Bool.and_eq_true, Bool.or_eq_true, Bool.and_eq_false_iff, Bool.not_eq_true', Bool.not_eq_false']; omega) | (simp only [decide_eq_true_eq, decide_eq_false_iff_not, Bool.or_eq_false_iff]; simp only [Lay.d_n]; omega))
              refine again (i + 1, done ++ [stB] ++ fillP (leadF i) p (col - ind)) [(9, some 11)] (.of rfl rfl rfl rfl rfl rfl) ⟨hil, by rw [hnext, ← g2, List.append_assoc]⟩ (by show R.length - (i + 1) < R.length - i; omega)
            · have h7 : ¬ (0 : Int) < (i : Int) := of_decide_eq_false h7
              have ei : i = 0 := by omega
              subst ei
              rw [if_pos rfl] at hnext
              refine xl_callSCR (fill_scr done p bgB Ai ci (col - ind) (hRne p hpm) (leadF_size 0) hpb2 (by omega)) (fun u u' hu h => h.sub hu) hin4 [9] rfl rfl rfl rfl fn39
                (congrArg (fun z => some [SV.r 9, SV.v (.string bgB), SV.v z, SV.v (.int .i64 (col - ind))]) hval) rfl rfl rfl rfl rfl rfl (fun _ => rfl) (fun _ u4 hu4 _ => ?_)
              refine xl_go tt_ok ?_
              repeat (refine And.intro ?_ ?_; first | omega | (simp only [Lay.d_n]; omega) | (simp only [decide_eq_true_eq, decide_eq_false_iff_not, Bool.or_eq_false_iff, Bool.and_eq_true, Bool.or_eq_true, Bool.and_eq_false_iff, Bool.not_eq_true', Bool.not_eq_false', Lay.d_n]; omega) | (simp only [decide_eq_true_eq, decide_eq_false_iff_not, Bool.or_eq_false_iff, Bool.and_eq_true, Bool.or_eq_true, Bool.and_eq_false_iff, Bool.not_eq_true', Bool.not_eq_false']; omega) | (simp only [decide_eq_true_eq, decide_eq_false_iff_not, Bool.or_eq_false_iff]; simp only [Lay.d_n]; omega))
              refine again (0 + 1, done ++ fillP bgB p (col - ind)) [(9, some 10)] (.of rfl rfl rfl rfl rfl rfl) ⟨hil, by rw [hnext, ← g2]; rfl⟩ (by show R.length - (0 + 1) < R.length - 0; omega)
          · have h6 : ¬ (i : Int) < (R.length : Int) := of_decide_eq_false h6
            have ei : i = R.length := by omega
            subst ei
            rw [List.take_length] at g2
            rw [← g2]
            refine xl_push tt_ok strY done eoB 16 (cs := [.string eoB]) rfl rfl rfl rfl rfl rfl rfl rfl rfl rfl rfl rfl (by kernel_rfl) rfl rfl rfl rfl rfl (fun n hn => by cases hn; decide) rfl rfl rfl (by omega) (by omega) ?_
            refine xl_go tt_ok ?_
            exact finO2 (k := 10) rfl
end Go.Proofs.YtnjmkeijjapejaaDoor
namespace Go.Proofs.YtnjmkeijjapejaaDoor
open Go.GV Go.RowKit
theorem sub_leP (s : ByteArray) (a b : Int) : (sub s a b).size ≤ s.size := by
  unfold sub
  rw [ByteArray.size_extract]; omega
theorem wsF_len (s : ByteArray) : ∀ (l : List Int) (fr : Int) (i : Nat), (wsF s fr i l).length ≤ l.length + 1
  | [], fr, i => by
    unfold wsF
    split <;> simp
  | c :: r, fr, i => by
    have h1 := wsF_len s r (-1) (i + 1)
    have h2 := wsF_len s r (if fr < 0 then (i : Int) else fr) (i + 1)
    unfold wsF
    split
    · split
      · simp only [List.length_cons]; omega
      · simp only [List.length_cons]; omega
    · simp only [List.length_cons]; omega
theorem wsF_mem (s : ByteArray) : ∀ (l : List Int) (fr : Int) (i : Nat), ∀ y ∈ wsF s fr i l, y.size ≤ s.size
  | [], fr, i, y, hy => by
    unfold wsF at hy
    split at hy
    · rw [List.mem_singleton.1 hy]; exact sub_leP _ _ _
    · cases hy
  | c :: r, fr, i, y, hy => by
    unfold wsF at hy
    split at hy
    · split at hy
      · rcases List.mem_cons.1 hy with rfl | hy
        · exact sub_leP _ _ _
        · exact wsF_mem s r _ _ y hy
      · exact wsF_mem s r _ _ y hy
    · exact wsF_mem s r _ _ y hy
theorem wordsP_len (s : ByteArray) : (wordsP s).length ≤ s.size + 1 := by
  have := wsF_len s (bl s) (-1) 0
  rw [bl_len] at this; exact this
theorem splitB_mem (sep : ByteArray) (save : Nat) : ∀ (k : Nat) (s : ByteArray), ∀ x ∈ Lib.splitB sep save k s, x.size ≤ s.size
  | 0, s, x, hx => by
    rw [Lib.splitB_zero, List.mem_singleton] at hx
    rw [hx]; exact Nat.le_refl _
  | k + 1, s, x, hx => by
    unfold Lib.splitB at hx
    split at hx
    · rw [List.mem_singleton] at hx; rw [hx]; exact Nat.le_refl _
    · rcases List.mem_cons.1 hx with rfl | hx
      · rw [ByteArray.size_extract]; omega
      · have := splitB_mem sep save k _ x hx
        rw [ByteArray.size_extract] at this; omega
theorem trimP_size (s : ByteArray) : (trimP s).size ≤ s.size := by
  unfold trimP Lib.trimLeftF
  split
  · exact Nat.zero_le _
  · rw [ByteArray.size_extract]; omega
theorem starP_size (s : ByteArray) : (starP s).size ≤ s.size := by
  unfold starP
  split
  · exact sub_leP _ _ _
  · exact Nat.le_refl _
theorem linesP_mem (s : ByteArray) : ∀ x ∈ linesP s, x.size ≤ s.size := by
  intro x hx
  unfold linesP at hx
  rw [List.mem_mapIdx] at hx
  obtain ⟨i, hi, rfl⟩ := hx
  have h1 := splitB_mem nlB 0 _ s _ (List.getElem_mem hi)
  unfold lineP
  split
  · exact h1
  · exact Nat.le_trans (starP_size _) (Nat.le_trans (trimP_size _) h1)
theorem sum_le_mul : ∀ (l : List Nat) (M : Nat), (∀ x ∈ l, x ≤ M) → l.sum ≤ l.length * M
  | [], M, _ => by simp
  | x :: l, M, h => by
    have h1 := sum_le_mul l M (fun y hy => h y (List.mem_cons_of_mem _ hy))
    have h2 := h x List.mem_cons_self
    simp only [List.sum_cons, List.length_cons, Nat.succ_mul]
    omega
theorem wsOf_sum (s : ByteArray) : ((wsOf s).map List.length).sum ≤ (s.size + 1) * (s.size + 1) := by
  have h1 := sum_le_mul ((wsOf s).map List.length) (s.size + 1) (fun x hx => by
    rw [List.mem_map] at hx
    obtain ⟨ws, hws, rfl⟩ := hx
    unfold wsOf at hws
    rw [List.mem_map] at hws
    obtain ⟨ln, hln, rfl⟩ := hws
    have := wordsP_len ln
    have := linesP_mem s ln hln
    omega)
  have h2 : ((wsOf s).map List.length).length ≤ s.size + 1 := by
    rw [List.length_map, wsOf, List.length_map, linesP_len]; exact splitP_le s
  exact Nat.le_trans h1 (Nat.mul_le_mul_right _ h2)
theorem foldW_ok : ∀ (ws : List ByteArray) (st : Par × Bool), (st.2 = true → st.1 ≠ []) → st.1.length ≤ szR st.1 → szR (ws.foldl addW st).1 = szR st.1 + ws.length ∧ ((ws.foldl addW st).2 = true → (ws.foldl addW st).1 ≠ []) ∧ (ws.foldl addW st).1.length ≤ szR (ws.foldl addW st).1
  | [], st, h1, h2 => ⟨rfl, h1, h2⟩
  | y :: r, st, h1, h2 => by
    obtain ⟨a1, a2, a3⟩ := addW_ok st y h1 h2
    obtain ⟨b1, b2, b3⟩ := foldW_ok r (addW st y) (fun _ => a2) a3
    exact ⟨by rw [List.foldl_cons, b1, a1, List.length_cons]; omega, b2, b3⟩
theorem foldL_ok : ∀ (L : List (List ByteArray)) (st : Par × Bool), (st.2 = true → st.1 ≠ []) → st.1.length ≤ szR st.1 → szR (L.foldl parLine st).1 = szR st.1 + (L.map List.length).sum ∧ (L.foldl parLine st).1.length ≤ szR (L.foldl parLine st).1
  | [], st, h1, h2 => ⟨rfl, h2⟩
  | x :: L, st, h1, h2 => by
    have key : szR (parLine st x).1 = szR st.1 + x.length ∧ ((parLine st x).2 = true → (parLine st x).1 ≠ []) ∧ (parLine st x).1.length ≤ szR (parLine st x).1 := by
      unfold parLine
      split
      · rename_i hx
        subst hx
        exact ⟨rfl, (fun h => by cases h), h2⟩
      · exact foldW_ok x st h1 h2
    obtain ⟨b1, b2⟩ := foldL_ok L (parLine st x) key.2.1 key.2.2
    exact ⟨by rw [List.foldl_cons, b1, key.1, List.map_cons, List.sum_cons]; omega, b2⟩
theorem addW_mem {Q : ByteArray → Prop} {st : Par × Bool} {y : ByteArray} (h : ∀ p ∈ st.1, ∀ z ∈ p, Q z) (hy : Q y) : ∀ p ∈ (addW st y).1, ∀ z ∈ p, Q z := by
  have ho : ∀ p ∈ opn st, ∀ z ∈ p, Q z := by
    intro p hp
    unfold opn at hp
    split at hp
    · exact h p hp
    · rcases List.mem_append.1 hp with hp | hp
      · exact h p hp
      · rw [List.mem_singleton.1 hp]; intro z hz; cases hz
  intro p hp z hz
  unfold addW at hp
  simp only at hp
  rcases List.mem_or_eq_of_mem_set hp with hp | hp
  · exact ho p hp z hz
  · subst hp
    rcases List.mem_append.1 hz with hz | hz
    · rw [List.getD_eq_getElem?_getD] at hz
      cases hg : (opn st)[(opn st).length - 1]? with
      | none => rw [hg] at hz; cases hz
      | some q => rw [hg] at hz; exact ho q (List.mem_of_getElem? hg) z hz
    · rw [List.mem_singleton.1 hz]; exact hy
theorem foldW_mem {Q : ByteArray → Prop} : ∀ (ws : List ByteArray) (st : Par × Bool), (∀ p ∈ st.1, ∀ z ∈ p, Q z) → (∀ y ∈ ws, Q y) → ∀ p ∈ (ws.foldl addW st).1, ∀ z ∈ p, Q z
  | [], _, h, _ => h
  | y :: r, st, h, hy => foldW_mem r (addW st y) (addW_mem h (hy y List.mem_cons_self)) (fun z hz => hy z (List.mem_cons_of_mem _ hz))
theorem parP_mem {Q : ByteArray → Prop} {s : ByteArray} (h : ∀ x ∈ linesP s, ∀ y ∈ wordsP x, Q y) : ∀ p ∈ parP s, ∀ z ∈ p, Q z := by
  have : ∀ (L : List (List ByteArray)) (st : Par × Bool), (∀ p ∈ st.1, ∀ z ∈ p, Q z) → (∀ ws ∈ L, ∀ y ∈ ws, Q y) → ∀ p ∈ (L.foldl parLine st).1, ∀ z ∈ p, Q z := by
    intro L
    induction L with
    | nil => exact fun st h _ => h
    | cons x L ih =>
      intro st h hx
      refine ih _ ?_ (fun ws hws => hx ws (List.mem_cons_of_mem _ hws))
      unfold parLine
      split
      · exact h
      · exact foldW_mem x st h (hx x List.mem_cons_self)
  refine this _ _ (fun p hp => by cases hp) (fun ws hws => ?_)
  unfold wsOf at hws
  rw [List.mem_map] at hws
  obtain ⟨x, hx, rfl⟩ := hws
  exact h x hx
theorem getP_len {R : Par} : ∀ p ∈ R, p.length ≤ szR R := by
  intro p hp
  obtain ⟨i, hi⟩ := List.mem_iff_getElem?.1 hp
  have := getD_sz (R := R) (i := i) (List.getElem?_eq_some_iff.1 hi).1
  rw [getD_ofP hi] at this; exact this
theorem small_of {s : ByteArray} (h : s.size ≤ 5000) : SmallP s := by
  have hi : (insP s).1.size ≤ 5000 := by
    unfold insP
    split
    · exact Nat.le_trans (sub_leP _ _ _) h
    · exact Nat.zero_le _
  have hl : ∀ x ∈ linesP (insP s).1, x.size ≤ 5000 := fun x hx => Nat.le_trans (linesP_mem _ x hx) hi
  have hw : ∀ x ∈ linesP (insP s).1, ∀ y ∈ wordsP x, y.size ≤ 5000 := fun x hx y hy => Nat.le_trans (wsF_mem x _ _ _ y hy) (hl x hx)
  have ht : ((wsOf (insP s).1).map List.length).sum ≤ 25010001 := Nat.le_trans (wsOf_sum _) (Nat.le_trans (Nat.mul_le_mul (Nat.succ_le_succ hi) (Nat.succ_le_succ hi)) (by decide))
  obtain ⟨h1, h2⟩ := foldL_ok (wsOf (insP s).1) ([], false) (fun h => by cases h) (Nat.le_refl _)
  have hz : szR (parP (insP s).1) ≤ 25010001 := by
    unfold parP; rw [h1]; show 0 + _ ≤ _; omega
  have hz2 : (parP (insP s).1).length ≤ 25010001 := by
    have : (parP (insP s).1).length ≤ szR (parP (insP s).1) := h2
    omega
  refine ⟨by omega, by omega, by omega, fun x hx => ⟨by have := hl x hx; omega, fun y hy => by have := hw x hx y hy; omega⟩, fun p hp => ?_, by omega⟩
  have h3 := getP_len p hp
  have h4 := sum_le_mul (p.map (fun y => y.size + 4)) 5004 (fun x hx => by
    rw [List.mem_map] at hx
    obtain ⟨y, hy, rfl⟩ := hx
    have := parP_mem (Q := fun y => y.size ≤ 5000) hw p hp y hy
    have this : y.size ≤ 5000 := this
    omega)
  rw [List.length_map] at h4
  unfold bySum
  omega
end Go.Proofs.YtnjmkeijjapejaaDoor
namespace Go.Proofs.YtnjmkeijjapejaaDoor
open Go.GV Go.RowKit
theorem take_eq_next {A B : List ByteArray} {i : Nat} {x y : ByteArray} (h : A.take i = B.take i) (ha : A[i]? = some x) (hb : B[i]? = some y) (e : x = y) : A.take (i + 1) = B.take (i + 1) := by
  rw [take_get ha, take_get hb, h, e]
set_option maxRecDepth 100000 in
theorem sameTexts_any (A B : List ByteArray) (x y : Value) (w : World) (hx : SlAt (im w) x (strY.d A)) (hy : SlAt (im w) y (strY.d B)) :
    Calls Tryd.prog 18 #[x, y] w (PureP w fun v _ => v = .bool (decide (A = B))) := by
  have hAl : ((A.length : Nat) : Int) ≤ 9223372036854775807 := by
    obtain ⟨_, c, _, h1, h2, _⟩ := hx
    have : (strY.d A).n ≤ maxLen := Nat.le_trans h1 h2
    rw [Lay.d_n] at this
    simp only [maxLen] at this; omega
  refine x_fun tt_ok Tryd.func18 rfl rfl [(x, strY.d A), (y, strY.d B)] 2 [.r 0, .r 1] rfl rfl rfl rfl (fun b hb => ?_) ?_
  · simp only [List.mem_cons, List.mem_nil_iff, or_false] at hb
    rcases hb with rfl | rfl
    · exact hx
    · exact hy
  refine x_vc tt_ok ?_
  refine x_if (fun h => ?_) (fun h => ?_)
  · have h : ((A.length : Nat) : Int) ≠ B.length := of_decide_eq_true h
    exact fin1 (fun _ _ => by rw [decide_eq_false (fun e => h (by rw [e]))]; rfl)
  · have h : A.length = B.length := by have := of_decide_eq_false h; simp only [ne_eq, Decidable.not_not] at this; exact_mod_cast this
    refine x_loop (σ := Nat) (fun i => ⟨[(5, .v (.int .i64 (i : Int))), (0, .r 0), (1, .r 1)], [], [(0, .sl (strY.d A)), (1, .sl (strY.d B))], 2⟩)
      (fun i _ => i ≤ A.length ∧ A.take i = B.take i) (fun i => A.length - i) (fun _ => Nat.le_refl _) 0 [] (.of rfl rfl rfl rfl rfl rfl) ⟨Nat.zero_le _, rfl⟩ ?_
    rintro i u2 hu2 ⟨g1, g2⟩
    refine x_vc tt_ok ?_
    refine x_if (fun h2 => ?_) (fun h2 => ?_)
    · have h2 : ((i : Nat) : Int) < A.length := of_decide_eq_true h2
      have hB : ((i : Nat) : Int) < B.length := by rw [← h]; exact h2
      obtain ⟨a, ha⟩ : ∃ a, A[i]? = some a := ⟨_, List.getElem?_eq_getElem (by omega)⟩
      obtain ⟨b, hb⟩ : ∃ b, B[i]? = some b := ⟨_, List.getElem?_eq_getElem (by omega)⟩
      refine x_draw mix (by kernel_rfl) (xd_go tt_ok ?_)
      repeat (refine And.intro ?_ ?_; first | omega | (simp only [Lay.d_n]; omega) | (simp only [decide_eq_true_eq, decide_eq_false_iff_not, Bool.or_eq_false_iff, Bool.and_eq_true, Bool.or_eq_true, Bool.and_eq_false_iff, Bool.not_eq_true', Bool.not_eq_false', Lay.d_n]; omega) | (simp only [decide_eq_true_eq, decide_eq_false_iff_not, Bool.or_eq_false_iff, Bool.and_eq_true, Bool.or_eq_true, Bool.and_eq_false_iff, Bool.not_eq_true', Bool.not_eq_false']; omega) | (simp only [decide_eq_true_eq, decide_eq_false_iff_not, Bool.or_eq_false_iff]; simp only [Lay.d_n]; omega))
      refine x_if (fun h3 => ?_) (fun h3 => ?_)
      · have h3 : A.getD ((i : Nat) : Int).toNat ⟨#[]⟩ ≠ B.getD ((i : Nat) : Int).toNat ⟨#[]⟩ := of_decide_eq_true h3
        exact fin1 (fun _ _ => by rw [decide_eq_false (fun e => h3 (by rw [e]))]; rfl)
      · have h3 : A.getD ((i : Nat) : Int).toNat ⟨#[]⟩ = B.getD ((i : Nat) : Int).toNat ⟨#[]⟩ := Classical.not_not.1 (of_decide_eq_false h3)
        rw [Int.toNat_natCast, getD_ofP ha, getD_ofP hb] at h3
        repeat (refine And.intro ?_ ?_; first | omega | (simp only [Lay.d_n]; omega) | (simp only [decide_eq_true_eq, decide_eq_false_iff_not, Bool.or_eq_false_iff, Bool.and_eq_true, Bool.or_eq_true, Bool.and_eq_false_iff, Bool.not_eq_true', Bool.not_eq_false', Lay.d_n]; omega) | (simp only [decide_eq_true_eq, decide_eq_false_iff_not, Bool.or_eq_false_iff, Bool.and_eq_true, Bool.or_eq_true, Bool.and_eq_false_iff, Bool.not_eq_true', Bool.not_eq_false']; omega) | (simp only [decide_eq_true_eq, decide_eq_false_iff_not, Bool.or_eq_false_iff]; simp only [Lay.d_n]; omega))
        exact again (i + 1) [] (.of rfl rfl rfl rfl rfl rfl) ⟨by omega, take_eq_next g2 ha hb h3⟩ (by omega)
    · have h2 : ¬ ((i : Nat) : Int) < A.length := of_decide_eq_false h2
      have e : A = B := by rw [List.take_of_length_le (by omega), List.take_of_length_le (by omega)] at g2; exact g2
      exact fin1 (fun _ _ => by rw [decide_eq_true e]; rfl)
def blankN (s : ByteArray) : Nat := ((bl s).drop 3).countP (fun c => decide (c = 32))
def firstN (s : ByteArray) : Nat := (((bl s).drop 3).takeWhile (fun c => decide (c ≠ 32))).length
set_option maxRecDepth 100000 in
theorem are_any (t : ByteArray) (W : List ByteArray) (x : Value) (w : World) (hg : Glob (im w)) (ht : t.size ≤ 5000) (hx : SlAt (im w) x (strY.d W)) :
    Calls Tryd.prog 23 #[.string t, x] w (PureP w fun v _ => v = .bool (decide ((fillsP t 0 12).2 = 0) && decide ((fillsP t 0 12).1 = W))) := by
  refine x_fun tt_ok Tryd.func23 rfl rfl [(x, strY.d W)] 1 [.v (.string t), .r 0] rfl rfl rfl rfl (fun b hb => ?_) ?_
  · rw [List.mem_singleton.1 hb]; exact hx
  refine x_vc tt_ok ?_
  refine xl_callO2 9 (strY.d (fillsP t 0 12).1) [.int .i64 (fillsP t 0 12).2] rfl rfl rfl rfl fn12 rfl rfl (fun E w F hs => fills_any t 0 12 w (hg.imm hs.imm) (small_of ht)) ?_
  refine xl_go tt_ok ?_
  refine xl_gcall0 (.bool (decide ((fillsP t 0 12).1 = W))) rfl rfl rfl rfl fn18 rfl rfl (fun _ E w F hs => sameTexts_any _ _ _ _ w (hs.rowAt (k := 1) rfl) (hs.slAt (k := 0) rfl)) ?_
  refine xl_go tt_ok ?_
  exact fin1 (fun _ _ => rfl)
def exB : ByteArray := ⟨#[47, 42, 32, 111, 110, 101, 32, 116, 119, 111, 32, 116, 104, 114, 101, 101, 32, 42, 47]⟩
def exW : List ByteArray := [⟨#[47, 42, 32, 111, 110, 101, 32, 116, 119, 111]⟩, ⟨#[32, 42, 32, 116, 104, 114, 101, 101]⟩, ⟨#[32, 42, 47]⟩]
set_option maxRecDepth 100000 in
theorem alive_any (w : World) (hg : Glob (im w)) (hex : fillsP exB 0 12 = (exW, 0)) : Calls Tryd.prog 11 #[] w (PureP w fun v _ => v = .bool true) := by
  refine x_fun tt_ok Tryd.func11 rfl rfl [] 0 [] rfl rfl rfl rfl (fun b hb => by cases hb) ?_
  refine x_vc tt_ok ?_
  refine xl_build tt_ok strY exW [_, _, _] rfl rfl rfl rfl rfl rfl rfl rfl rfl rfl rfl rfl rfl rfl rfl ?_
  refine xl_call0 (.bool true) rfl rfl rfl rfl fn23 rfl rfl (fun E w F hs => by
    have := are_any exB exW _ w (hg.imm hs.imm) (by decide) (hs.rowAt (k := 0) rfl)
    rw [hex] at this
    have h9 : Calls Tryd.prog 23 #[.string exB, E 0] w (PureP w fun v _ => v = .bool true) := by simpa using this
    exact h9) ?_
  refine xl_go tt_ok ?_
  exact fin1 (fun _ _ => rfl)
end Go.Proofs.YtnjmkeijjapejaaDoor
namespace Go.Proofs.YtnjmkeijjapejaaDoor
open Go.GV Go.RowKit
def okR (room : Int) (x : ByteArray) : Prop := 3 < x.size → 0 < blankN x → (x.size : Int) ≤ room
def okP (room : Int) (x y : ByteArray) : Prop := 3 < x.size → 3 < y.size → room < (x.size : Int) + 1 + firstN y
def Good (room : Int) : List ByteArray → Prop
  | [] => True
  | [x] => okR room x
  | x :: y :: t => okR room x ∧ okP room x y ∧ Good room (y :: t)
theorem Good.head {room : Int} {x : ByteArray} {t : List ByteArray} (h : Good room (x :: t)) : okR room x := by
  cases t with
  | nil => exact h
  | cons y t => exact h.1
theorem Good.tail {room : Int} {x : ByteArray} {t : List ByteArray} (h : Good room (x :: t)) : Good room t := by
  cases t with
  | nil => trivial
  | cons y t => exact h.2.2
theorem Good.app {room : Int} {s : ByteArray} {b : List ByteArray} (hs : s.size ≤ 3) (hb : Good room (s :: b)) : ∀ a : List ByteArray, Good room a → Good room (a ++ s :: b)
  | [], _ => hb
  | [x], h => ⟨h, fun _ h3 => by omega, hb⟩
  | x :: y :: t, h => ⟨h.1, h.2.1, Good.app hs hb (y :: t) h.2.2⟩
theorem Good.at {room : Int} : ∀ {L : List ByteArray} (_ : Good room L) {i : Nat} {x : ByteArray}, L[i]? = some x → okR room x ∧ ∀ y, L[i + 1]? = some y → okP room x y
  | [], _, i, x, hx => by simp at hx
  | [z], h, 0, x, hx => by
    simp only [List.getElem?_cons_zero, Option.some.injEq] at hx
    subst hx
    exact ⟨h, fun y hy => by simp at hy⟩
  | [z], h, i + 1, x, hx => by simp at hx
  | z :: y' :: t, h, 0, x, hx => by
    simp only [List.getElem?_cons_zero, Option.some.injEq] at hx
    subst hx
    refine ⟨h.1, fun y hy => ?_⟩
    simp only [List.getElem?_cons_succ, List.getElem?_cons_zero, Option.some.injEq] at hy
    subst hy
    exact h.2.1
  | z :: y' :: t, h, i + 1, x, hx => by
    simp only [List.getElem?_cons_succ] at hx ⊢
    exact Good.at h.2.2 hx
def cB (cur : List UInt8) : List Int := cur.map (fun b => (b.toNat : Int))
theorem bl_cB (cur : List UInt8) : bl ⟨cur.toArray⟩ = cB cur := by simp [bl, cB]
theorem bl_y (y : ByteArray) : cB y.data.toList = bl y := rfl
theorem size_cB (cur : List UInt8) : (⟨cur.toArray⟩ : ByteArray).size = cur.length := by
  show cur.toArray.size = _
  simp
theorem cB_app (a b : List UInt8) : cB (a ++ b) = cB a ++ cB b := List.map_append
theorem fillF_size (room : Int) : ∀ (ws : List ByteArray) (cur : List UInt8), ∀ x ∈ fillF room ws cur, x.size ≤ cur.length + bySum ws
  | [], cur, x, hx => by
    rw [fillF, List.mem_singleton] at hx
    rw [hx, size_cB]; exact Nat.le_add_right _ _
  | y :: r, cur, x, hx => by
    have hysz : y.data.toList.length = y.size := Array.length_toList
    have e : bySum (y :: r) = y.size + 4 + bySum r := rfl
    unfold fillF at hx
    split at hx
    · have := fillF_size room r _ x hx
      rw [List.length_append, List.length_cons, hysz] at this
      omega
    · rcases List.mem_cons.1 hx with rfl | hx
      · rw [size_cB]; omega
      · have := fillF_size room r _ x hx
        simp only [List.length_cons, hysz] at this
        omega
theorem fillP_size (room : Int) (lead : ByteArray) (hl : lead.size = 3) (p : List ByteArray) : ∀ x ∈ fillP lead p room, x.size ≤ 3 + bySum p := by
  intro x hx
  unfold fillP at hx
  split at hx
  · cases hx
  · rename_i y r
    have hysz : y.data.toList.length = y.size := Array.length_toList
    have hlsz : lead.data.toList.length = 3 := by rw [← hl]; exact Array.length_toList
    have e : bySum (y :: r) = y.size + 4 + bySum r := rfl
    have := fillF_size room r _ x hx
    rw [List.length_append] at this
    omega
theorem rowsF_size (room : Int) (M : Nat) : ∀ (R : Par) (f : Bool), (∀ p ∈ R, bySum p ≤ M) → ∀ x ∈ rowsF room f R, x.size ≤ 3 + M
  | [], _, _, x, hx => by cases hx
  | p :: R, f, h, x, hx => by
    unfold rowsF at hx
    rcases List.mem_append.1 hx with hx | hx
    · cases f
      · rw [if_neg (by decide), List.mem_singleton] at hx
        rw [hx, show stB.size = 2 from rfl]; omega
      · cases hx
    · rcases List.mem_append.1 hx with hx | hx
      · have := fillP_size room _ (by cases f <;> rfl) p x hx
        have := h p List.mem_cons_self
        omega
      · exact rowsF_size room M R false (fun q hq => h q (List.mem_cons_of_mem _ hq)) x hx
theorem fills_dom {s : ByteArray} {ind col : Int} (h : (fillsP s ind col).2 = 0) : 0 ≤ ind ∧ ind ≤ 256 ∧ 1 ≤ col ∧ col ≤ 4096 ∧ (insP s).2 = true := by
  unfold fillsP at h
  split at h
  · cases h
  · rename_i hb
    have hb : badF s ind col = false := by simpa using hb
    simp only [badF, Bool.or_eq_false_iff, Bool.not_eq_false', decide_eq_false_iff_not] at hb
    exact ⟨by omega, by omega, by omega, by omega, hb.1.1.1.1⟩
end Go.Proofs.YtnjmkeijjapejaaDoor
namespace Go.Proofs.YtnjmkeijjapejaaDoor
open Go.GV Go.RowKit
end Go.Proofs.YtnjmkeijjapejaaDoor
namespace Go.Proofs.YtnjmkeijjapejaaDoor
open Go.GV Go.RowKit
theorem joinT_data (L : List ByteArray) (sep : ByteArray) : (joinT L sep).data.toList = Lib.join (L.map (·.data.toList)) sep.data.toList := by simp [joinT]
end Go.Proofs.YtnjmkeijjapejaaDoor
namespace Go.Proofs.YtnjmkeijjapejaaDoor
open Go.GV Go.RowKit
end Go.Proofs.YtnjmkeijjapejaaDoor
namespace Go.Proofs.YtnjmkeijjapejaaDoor
open Go.GV Go.RowKit
end Go.Proofs.YtnjmkeijjapejaaDoor
namespace Go.Proofs.YtnjmkeijjapejaaDoor
open Go.GV Go.RowKit
structure Tok where
  kind : Int
  text : ByteArray
  lo : Int
  hi : Int
  space : Bool
end Go.Proofs.YtnjmkeijjapejaaDoor
namespace Go.Proofs.YtnjmkeijjapejaaDoor
open Go.GV Go.RowKit
abbrev hashW (x : ByteArray) : Prop := x = ⟨#[35]⟩ ∨ x = ⟨#[37, 58]⟩
def inclW : ByteArray := ⟨#[105, 110, 99, 108, 117, 100, 101]⟩
def Rel : List ByteArray → Int → Prop
  | [], st => st = 0
  | [x], st => (hashW x ∧ st = 1) ∨ (¬ hashW x ∧ st = 3)
  | [x, y], st => (hashW x ∧ y = inclW ∧ st = 2) ∨ (¬ (hashW x ∧ y = inclW) ∧ st = 3)
  | _ :: _ :: _ :: _, st => st = 3
def hdrW (W : List ByteArray) : Bool := decide ((W.length : Int) = 2) && (decide (W.getD 0 ⟨#[]⟩ = ⟨#[35]⟩) || decide (W.getD 0 ⟨#[]⟩ = ⟨#[37, 58]⟩)) && decide (W.getD 1 ⟨#[]⟩ = ⟨#[105, 110, 99, 108, 117, 100, 101]⟩)
theorem Rel.hdr {W : List ByteArray} {st : Int} (h : Rel W st) : hdrW W = decide (st = 2) := by
  match W, h with
  | [], h => have h : st = 0 := h; subst h; rfl
  | [x], h =>
    have : ¬ st = 2 := by rcases h with h | h <;> omega
    rw [decide_eq_false this]; rfl
  | [x, y], h =>
    rcases h with ⟨h1, h2, h3⟩ | ⟨h1, h2⟩
    · subst h3; subst h2
      rcases h1 with rfl | rfl <;> rfl
    · subst h2
      cases hh : hdrW [x, y] with
      | false => rfl
      | true =>
        refine absurd ?_ h1
        simp only [hdrW, Bool.and_eq_true, Bool.or_eq_true, decide_eq_true_eq] at hh
        exact ⟨hh.1.2, hh.2⟩
  | x :: y :: z :: r, h =>
    have h : st = 3 := h
    subst h
    unfold hdrW
    rw [decide_eq_false (by simp only [List.length_cons]; omega)]; rfl
theorem bestL_seven (l : Lx.Bs) : (Lx.bestL l).1 ≠ 7 := by
  unfold Lx.bestL
  have h := Lx.litQ_facts l
  split
  · rcases h with h | h
    · omega
    · rcases h.1 with h | h <;> omega
  · split
    · show (1 : Int) ≠ 7; decide
    · split
      · show (2 : Int) ≠ 7; decide
      · split
        · show (5 : Int) ≠ 7; decide
        · show (0 : Int) ≠ 7; decide
theorem hdrN_head {c : Int} {r : Lx.Bs} (h : 0 < Lx.hdrN (c :: r)) : c = 60 ∨ c = 34 := by
  simp only [Lx.hdrN] at h
  by_cases h1 : c = 60
  · exact .inl h1
  · rw [if_neg h1] at h
    by_cases h2 : c = 34
    · exact .inr h2
    · rw [if_neg h2] at h; omega
theorem item_seven {hdr : Bool} {c : Int} {r : Lx.Bs} (h : (Lx.itemP hdr (c :: r)).kind = 7) : c = 60 ∨ c = 34 := by
  rw [itemP_eq] at h
  split at h
  · rename_i h1; exact hdrN_head h1.2
  · split at h
    · split at h <;> simp at h
    · split at h
      · simp at h
      · unfold longL at h
        split at h
        · simp at h
        · split at h
          · exact absurd h (bestL_seven _)
          · split at h <;> simp at h
theorem one_hash : Lx.oneL [35] = some 5 := by decide
theorem one_hash2 : Lx.oneL [37, 58] = some 5 := by decide
theorem one_incl : Lx.oneL [105, 110, 99, 108, 117, 100, 101] = some 1 := by decide
theorem itm_one {s : ByteArray} {st i : Int} (h0 : 0 ≤ i) (h : i < s.size) (hw : Lx.white (bt s i) = false) (he : (itm s st i).err = 0) {t : Lx.Bs} (ht : (tl s i).take (itm s st i).len = t) {k c : Int}
    (hk : Lx.oneL t = some k) (hc : t.head? = some c) (hc1 : c ≠ 60) (hc2 : c ≠ 34) : (itm s st i).kind = k := by
  unfold itm at he ht ⊢
  have h1 := Lx.itemP_le (decide (st = 2)) (l := tl s i) (by rw [tl_cons h0 h]; simp)
  have h2 := h1.2 he
  rw [tl_cons h0 h] at he ht h2 ⊢
  have hb : bt s i = c := by
    rw [← ht, Lx.head_take (by omega)] at hc
    exact Option.some.inj hc
  have h7 : (Lx.itemP (decide (st = 2)) (bt s i :: tl s (i + 1))).kind ≠ 7 := fun h7 => by
    rcases item_seven h7 with h7 | h7
    · exact hc1 (hb.symm.trans h7)
    · exact hc2 (hb.symm.trans h7)
  have := Lx.one_of_item hw he h7
  rw [ht, hk] at this
  exact (Option.some.inj this).symm
theorem Rel.step {s : ByteArray} {W : List ByteArray} {st i : Int} (h : Rel W st) (h0 : 0 ≤ i) (hi : i < s.size) (hw : Lx.white (bt s i) = false) (he : (itm s st i).err = 0) (h8 : (itm s st i).kind ≠ 8) (h9 : (itm s st i).kind ≠ 9) :
    Rel (W ++ [sub s i (i + (itm s st i).len)]) (Lx.after st (itm s st i).kind ((tl s i).take (itm s st i).len)) := by
  obtain ⟨m1, m2⟩ := itm_le h0 hi he
  have hb : bl (sub s i (i + (itm s st i).len)) = (tl s i).take (itm s st i).len := by rw [bl_part s h0 (by omega) m2, Int.toNat_natCast]
  have k1 : hashW (sub s i (i + (itm s st i).len)) → (itm s st i).kind = 5 := by
    rintro (h | h)
    · exact itm_one h0 hi hw he (t := [35]) (by rw [← hb, h]; rfl) one_hash rfl (by decide) (by decide)
    · exact itm_one h0 hi hw he (t := [37, 58]) (by rw [← hb, h]; rfl) one_hash2 rfl (by decide) (by decide)
  have k2 : sub s i (i + (itm s st i).len) = inclW → (itm s st i).kind = 1 := fun h =>
    itm_one h0 hi hw he (t := [105, 110, 99, 108, 117, 100, 101]) (by rw [← hb, h]; rfl) one_incl rfl (by decide) (by decide)
  have t1 : ((tl s i).take (itm s st i).len = [35] ∨ (tl s i).take (itm s st i).len = [37, 58]) ↔ hashW (sub s i (i + (itm s st i).len)) := by
    rw [← hb]
    unfold hashW
    constructor
    · rintro (h | h)
      · exact .inl (bl_inj h)
      · exact .inr (bl_inj h)
    · rintro (h | h)
      · exact .inl (by rw [h]; rfl)
      · exact .inr (by rw [h]; rfl)
  have t2 : (tl s i).take (itm s st i).len = [105, 110, 99, 108, 117, 100, 101] ↔ sub s i (i + (itm s st i).len) = inclW := by
    rw [← hb]
    exact ⟨fun h => bl_inj h, fun h => by rw [h]; rfl⟩
  have ea : Lx.after st (itm s st i).kind ((tl s i).take (itm s st i).len) = if st = 0 ∧ (itm s st i).kind = 5 ∧ hashW (sub s i (i + (itm s st i).len)) then 1
      else if st = 1 ∧ (itm s st i).kind = 1 ∧ sub s i (i + (itm s st i).len) = inclW then 2 else 3 := by
    unfold Lx.after
    rw [if_neg h8, if_neg h9]
    simp only [t1, t2]
  rw [ea]
  generalize sub s i (i + (itm s st i).len) = t at k1 k2 ⊢
  match W, h with
  | [], h =>
    have h : st = 0 := h
    subst h
    by_cases hh : hashW t
    · rw [if_pos ⟨rfl, k1 hh, hh⟩]; exact .inl ⟨hh, rfl⟩
    · rw [if_neg (fun h => hh h.2.2), if_neg (fun h => by omega)]; exact .inr ⟨hh, rfl⟩
  | [x], h =>
    rcases h with ⟨h1, h2⟩ | ⟨h1, h2⟩
    · rw [if_neg (fun h => by omega)]
      by_cases hh : t = inclW
      · rw [if_pos ⟨h2, k2 hh, hh⟩]; exact .inl ⟨h1, hh, rfl⟩
      · rw [if_neg (fun h => hh h.2.2)]; exact .inr ⟨fun h => hh h.2, rfl⟩
    · rw [if_neg (fun h => by omega), if_neg (fun h => by omega)]
      exact .inr ⟨fun h => h1 h.1, rfl⟩
  | [x, y], h =>
    have : st = 2 ∨ st = 3 := by
      rcases h with h | h
      · exact .inl h.2.2
      · exact .inr h.2
    rw [if_neg (fun h => by omega), if_neg (fun h => by omega)]
    rfl
  | x :: y :: z :: r, h =>
    have h : st = 3 := h
    rw [if_neg (fun h => by omega), if_neg (fun h => by omega)]
    rfl
end Go.Proofs.YtnjmkeijjapejaaDoor
namespace Go.Proofs.YtnjmkeijjapejaaDoor
open Go.GV Go.RowKit
end Go.Proofs.YtnjmkeijjapejaaDoor
namespace Go.Proofs.YtnjmkeijjapejaaDoor
open Go.GV Go.RowKit
end Go.Proofs.YtnjmkeijjapejaaDoor
namespace Go.Proofs.YtnjmkeijjapejaaDoor
open Go.GV Go.RowKit
set_option maxRecDepth 100000 in
theorem words_good (s : ByteArray) (w : World) (hg : Glob (im w)) (hS : SmallP s) (h : (insP s).2 = true) :
    Calls Tryd.prog 16 #[.string s] w (PureP w (StarR (fun t : Option Addr × Nat × List SlV => .tuple #[.slice t.1 (parP (insP s).1).length t.2.1, .int .i64 0]) (fun t => itemsP t.2.2 (parP (insP s).1) ++ [(⟨.slice t.1 (parP (insP s).1).length t.2.1, 23, slY.d t.2.2⟩ : SI)]) (fun t => t.2.2.length = (parP (insP s).1).length))) := by
  refine x_fun tt_ok Tryd.func16 rfl rfl [] 0 [.v (.string s)] rfl rfl rfl rfl (fun b hb => by cases hb) ?_
  refine x_vc tt_ok ?_
  refine xl_call0 (.tuple #[.string (insP s).1, .bool (insP s).2]) rfl rfl rfl rfl fn34 rfl rfl (fun E w F hs => inside_any s hS.size w (hg.imm hs.imm)) ?_
  refine xl_go tt_ok ?_
  refine x_iff (by show (!(insP s).2) = false; rw [h]; rfl) ?_
  refine xl_callStar (σ := Option Addr × Nat × List SlV) (fun t => .slice t.1 (parP (insP s).1).length t.2.1) (fun t => itemsP t.2.2 (parP (insP s).1) ++ [(⟨.slice t.1 (parP (insP s).1).length t.2.1, 23, slY.d t.2.2⟩ : SI)]) (fun t => t.2.2.length = (parP (insP s).1).length) rfl rfl rfl rfl fn37 rfl rfl (fun E w F hs' => paragraphs_any (insP s).1 w (hg.imm hs'.imm) hS.isize hS.tot hS.lin) (fun t ht => ?_)
  refine xl_go tt_ok ?_
  exact finStar (k := 0) t rfl (fun _ => rfl) ht
end Go.Proofs.YtnjmkeijjapejaaDoor
namespace Go.Proofs.YtnjmkeijjapejaaDoor
open Go.GV Go.RowKit
def docStep (st : Par × List ByteArray) (ws : List ByteArray) : Par × List ByteArray :=
  ((if ws = [] ∧ st.2 ≠ [] then st.1 ++ [st.2] else st.1), (if ws = [] ∧ st.2 ≠ [] then [] else st.2) ++ ws)
def docEnd (st : Par × List ByteArray) : Par := if st.2 = [] then st.1 else st.1 ++ [st.2]
theorem addW_last (R : Par) (now : List ByteArray) (y : ByteArray) : addW (R ++ [now], true) y = (R ++ [now ++ [y]], true) := by
  unfold addW opn
  simp only [if_true, List.length_append, List.length_singleton, Nat.add_sub_cancel, Prod.mk.injEq, and_true]
  rw [List.getD_eq_getElem?_getD, List.getElem?_append_right (Nat.le_refl _), Nat.sub_self]
  rw [List.set_append_right _ _ (Nat.le_refl _), Nat.sub_self]
  rfl
theorem addW_new (R : Par) (y : ByteArray) : addW (R, false) y = (R ++ [[y]], true) := by
  have := addW_last R [] y
  unfold addW opn at this ⊢
  simp
theorem foldW_last : ∀ (ws : List ByteArray) (R : Par) (now : List ByteArray), ws.foldl addW (R ++ [now], true) = (R ++ [now ++ ws], true)
  | [], R, now => by simp
  | y :: r, R, now => by
    rw [List.foldl_cons, addW_last, foldW_last r R (now ++ [y]), List.append_assoc]; rfl
theorem docStep_ok (out : Par) (now ws : List ByteArray) : parLine (docEnd (out, now), decide (now ≠ [])) ws = (docEnd (docStep (out, now) ws), decide ((docStep (out, now) ws).2 ≠ [])) := by
  unfold parLine docStep docEnd
  by_cases hw : ws = []
  · subst hw
    by_cases hn : now = []
    · subst hn; simp
    · simp [hn]
  · rw [if_neg hw]
    by_cases hn : now = []
    · subst hn
      cases ws with
      | nil => exact absurd rfl hw
      | cons y r =>
        have h1 := foldW_last r out [y]
        simp only [ne_eq, not_true, and_false, if_false, if_true, decide_false, List.nil_append, reduceCtorEq, not_false_eq_true, decide_true]
        rw [List.foldl_cons, addW_new, h1]
        rfl
    · have h1 := foldW_last ws out now
      simp [hn, hw, h1]
theorem docFold_ok : ∀ (L : List (List ByteArray)) (st : Par × List ByteArray), L.foldl parLine (docEnd st, decide (st.2 ≠ [])) = (docEnd (L.foldl docStep st), decide ((L.foldl docStep st).2 ≠ []))
  | [], _ => rfl
  | ws :: L, (out, now) => by
    rw [List.foldl_cons, docStep_ok, docFold_ok L (docStep (out, now) ws)]; rfl
theorem parP_doc (s : ByteArray) : parP s = docEnd ((wsOf s).foldl docStep ([], [])) := by
  have := docFold_ok (wsOf s) ([], [])
  unfold parP
  have e : (docEnd (([], []) : Par × List ByteArray), decide ((([], []) : Par × List ByteArray).2 ≠ [])) = (([], false) : Par × Bool) := rfl
  rw [e] at this
  rw [this]
def leadN (s : ByteArray) (pos : Nat) : Nat := pos + (((bl s).drop pos).takeWhile whB).length
theorem leadN_step {s : ByteArray} {pos : Nat} (h : pos < s.size) : leadN s pos = if whB (bt s pos) then leadN s (pos + 1) else pos := by
  unfold leadN
  rw [drop_get (bl_get s h), List.takeWhile_cons]
  split
  · simp only [List.length_cons]; omega
  · rfl
theorem leadN_end {s : ByteArray} {pos : Nat} (h : s.size ≤ pos) : leadN s pos = pos := by
  unfold leadN
  rw [List.drop_of_length_le (by rw [bl_len]; exact h)]; rfl
theorem idx_white (s : ByteArray) : ∀ (f pos : Nat), s.size ≤ pos + f → pos ≤ s.size → Lib.idxFuncFrom (fun c : Nat => whB (c : Int)) false s f pos = if leadN s pos = s.size then -1 else (leadN s pos : Int)
  | 0, pos, h, hp => by
    have e : pos = s.size := by omega
    subst e
    rw [leadN_end (Nat.le_refl _), if_pos rfl]; rfl
  | f + 1, pos, h, hp => by
    unfold Lib.idxFuncFrom
    by_cases hps : pos < s.size
    · obtain ⟨d1, d2, d3, d4, _⟩ := dec_spec s hps
      rw [if_pos hps, leadN_step hps]
      cases hw : whB ((Utf8.decode s pos).1 : Int) with
      | true =>
        obtain ⟨e1, e2⟩ := d3 hw
        rw [e2, hw, e1, if_neg (by decide), idx_white s f (pos + 1) (by omega) (by omega)]
        rfl
      | false =>
        have h0 := d4 hw pos (Nat.le_refl _) (by omega)
        rw [h0]
        simp only [if_true, Bool.false_eq_true, if_false]
        rw [if_neg (by omega)]
    · rw [if_neg hps, leadN_end (by omega), if_pos (by omega)]
theorem trimP_eq (s : ByteArray) : trimP s = sub s (leadN s 0) s.size := by
  have h1 := idx_white s s.size 0 (by omega) (Nat.zero_le _)
  have hle : leadN s 0 ≤ s.size := by
    unfold leadN
    have := (List.takeWhile_sublist whB (l := (bl s).drop 0)).length_le
    rw [List.length_drop, bl_len] at this
    omega
  unfold trimP Lib.trimLeftF Lib.idxFunc
  rw [h1]
  by_cases he : leadN s 0 = s.size
  · rw [if_pos he, if_pos rfl, he]
    refine bl_inj ?_
    symm
    exact (List.eq_nil_of_length_eq_zero (by rw [bl_len]; have := sub_size (s := s) (a := s.size) (b := s.size) (by omega) (Int.le_refl _) (Int.le_refl _); omega)).trans rfl
  · rw [if_neg he, if_neg (by omega)]
    unfold sub
    congr 1
end Go.Proofs.YtnjmkeijjapejaaDoor
namespace Go.Proofs.YtnjmkeijjapejaaDoor
open Go.GV Go.RowKit
def preH (p : List UInt8) : List (List UInt8) → List (List UInt8)
  | [] => [p]
  | h :: t => (p ++ h) :: t
def pcsU : List UInt8 → List (List UInt8)
  | [] => [[]]
  | b :: l => if b = 10 then [] :: pcsU l else preH [b] (pcsU l)
theorem index_cons (b : UInt8) (l : List UInt8) : Lib.index (b :: l) [10] = if b = 10 then 0 else if Lib.index l [10] = -1 then -1 else Lib.index l [10] + 1 := by
  rw [show Lib.index (b :: l) [10] = (if [10].isPrefixOf (b :: l) = true then 0 else if (Lib.index l [10] == -1) = true then -1 else Lib.index l [10] + 1) from rfl]
  by_cases hb : b = 10
  · subst hb; simp
  · rw [if_neg hb, if_neg (by simp [Ne.symm hb])]
    by_cases h : Lib.index l [10] = -1
    · simp [h]
    · rw [if_neg (by simpa using h), if_neg h]
theorem splitK_succ (k : Nat) (s : List UInt8) : Lib.splitK [10] 0 (k + 1) s = if (Lib.index s [10] == -1) = true then [s] else s.take ((Lib.index s [10]).toNat + 0) :: Lib.splitK [10] 0 k (s.drop ((Lib.index s [10]).toNat + 1)) := rfl
theorem splitK_ne {b : UInt8} (hb : b ≠ 10) : ∀ (k : Nat) (l : List UInt8), Lib.splitK [10] 0 k (b :: l) = preH [b] (Lib.splitK [10] 0 k l)
  | 0, l => rfl
  | k + 1, l => by
    rw [splitK_succ, splitK_succ, index_cons, if_neg hb]
    by_cases h : Lib.index l [10] = -1
    · simp [h, preH]
    · have hge := Lib.index_ge l [10]
      obtain ⟨i, hi⟩ : ∃ i : Nat, Lib.index l [10] = i := ⟨(Lib.index l [10]).toNat, by omega⟩
      rw [if_neg h, hi]
      have e1 : ¬ (((i : Int) + 1 == -1) = true) := by rw [beq_iff_eq]; omega
      have e2 : ¬ (((i : Int) == -1) = true) := by rw [beq_iff_eq]; omega
      rw [if_neg e1, if_neg e2]
      have e3 : ((i : Int) + 1).toNat = i + 1 := by omega
      have e4 : ((i : Int)).toNat = i := by omega
      rw [e3, e4]
      simp [preH]
theorem splitK_nl (k : Nat) (l : List UInt8) : Lib.splitK [10] 0 (k + 1) (10 :: l) = [] :: Lib.splitK [10] 0 k l := by
  rw [splitK_succ, index_cons, if_pos rfl]
  simp
theorem split_pcs : ∀ l : List UInt8, Lib.splitK [10] 0 (Lib.count l [10]) l = pcsU l
  | [] => rfl
  | b :: l => by
    unfold pcsU
    by_cases hb : b = 10
    · subst hb
      rw [Lib.count_cons_eq, Nat.add_comm, splitK_nl, split_pcs l, if_pos rfl]
    · rw [Lib.count_cons_ne b 10 l hb, splitK_ne hb, split_pcs l, if_neg hb]
theorem pcsU_ne : ∀ l, pcsU l ≠ []
  | [] => by simp [pcsU]
  | b :: l => by
    unfold pcsU
    split
    · simp
    · unfold preH; split <;> simp
end Go.Proofs.YtnjmkeijjapejaaDoor
namespace Go.Proofs.YtnjmkeijjapejaaDoor
open Go.GV Go.RowKit
end Go.Proofs.YtnjmkeijjapejaaDoor
namespace Go.GV
open Go.RowKit
end Go.GV
namespace Go.Proofs.YtnjmkeijjapejaaDoor
open Go.GV Go.RowKit
end Go.Proofs.YtnjmkeijjapejaaDoor
namespace Go.Proofs.YtnjmkeijjapejaaDoor
open Go.GV Go.RowKit
def ParAt (u : Im) (x : Value) (R : Par) : Prop := ∃ V : List SlV, V.length = R.length ∧ SlAt u x (slY.d V) ∧ ∀ (i : Nat) p, R[i]? = some p → SlAt u (V.getD i ⟨none, 0, 0⟩).val (strY.d p)
theorem takeP_next {A B : Par} {i : Nat} {x y : List ByteArray} (h : A.take i = B.take i) (ha : A[i]? = some x) (hb : B[i]? = some y) (e : x = y) : A.take (i + 1) = B.take (i + 1) := by
  rw [take_get ha, take_get hb, h, e]
set_option maxRecDepth 100000 in
theorem same_any (A B : Par) (x y : Value) (w : World) (hx : ParAt (im w) x A) (hy : ParAt (im w) y B) :
    Calls Tryd.prog 22 #[x, y] w (PureP w fun v _ => v = .bool (decide (A = B))) := by
  obtain ⟨VA, a1, a2, a3⟩ := hx
  obtain ⟨VB, b1, b2, b3⟩ := hy
  have hAl : ((VA.length : Nat) : Int) ≤ 9223372036854775807 := by
    obtain ⟨_, c, _, h1, h2, _⟩ := a2
    have : (slY.d VA).n ≤ maxLen := Nat.le_trans h1 h2
    rw [Lay.d_n] at this
    simp only [maxLen] at this; omega
  refine x_fun tt_ok Tryd.func22 rfl rfl [(x, slY.d VA), (y, slY.d VB)] 2 [.r 0, .r 1] rfl rfl rfl rfl (fun b hb => ?_) ?_
  · simp only [List.mem_cons, List.mem_nil_iff, or_false] at hb
    rcases hb with rfl | rfl
    · exact a2
    · exact b2
  refine x_vc tt_ok ?_
  refine x_if (fun h => ?_) (fun h => ?_)
  · have h : ((VA.length : Nat) : Int) ≠ VB.length := of_decide_eq_true h
    exact fin1 (fun _ _ => by rw [decide_eq_false (fun e => h (by rw [a1, b1, e]))]; rfl)
  · have h : VA.length = VB.length := by have := of_decide_eq_false h; simp only [ne_eq, Decidable.not_not] at this; exact_mod_cast this
    refine x_loop (σ := Nat) (fun i => ⟨[(5, .v (.int .i64 (i : Int))), (0, .r 0), (1, .r 1)], [], [(0, .sl (slY.d VA)), (1, .sl (slY.d VB))], 2⟩)
      (fun i _ => i ≤ VA.length ∧ A.take i = B.take i) (fun i => VA.length - i) (fun _ => Nat.le_refl _) 0 [] (.of rfl rfl rfl rfl rfl rfl) ⟨Nat.zero_le _, rfl⟩ ?_
    rintro i u2 hu2 ⟨g1, g2⟩
    refine x_vc tt_ok ?_
    refine x_if (fun h2 => ?_) (fun h2 => ?_)
    · have h2 : ((i : Nat) : Int) < VA.length := of_decide_eq_true h2
      have hB : ((i : Nat) : Int) < VB.length := by rw [← h]; exact h2
      obtain ⟨p, hp⟩ : ∃ p, A[i]? = some p := ⟨_, List.getElem?_eq_getElem (by omega)⟩
      obtain ⟨q, hq⟩ : ∃ q, B[i]? = some q := ⟨_, List.getElem?_eq_getElem (by omega)⟩
      have hp2 := a3 i p hp
      have hq2 := b3 i q hq
      refine x_draw mix (by kernel_rfl) (xd_go tt_ok ?_)
      repeat (refine And.intro ?_ ?_; first | omega | (simp only [Lay.d_n]; omega) | (simp only [decide_eq_true_eq, decide_eq_false_iff_not, Bool.or_eq_false_iff, Bool.and_eq_true, Bool.or_eq_true, Bool.and_eq_false_iff, Bool.not_eq_true', Bool.not_eq_false', Lay.d_n]; omega) | (simp only [decide_eq_true_eq, decide_eq_false_iff_not, Bool.or_eq_false_iff, Bool.and_eq_true, Bool.or_eq_true, Bool.and_eq_false_iff, Bool.not_eq_true', Bool.not_eq_false']; omega) | (simp only [decide_eq_true_eq, decide_eq_false_iff_not, Bool.or_eq_false_iff]; simp only [Lay.d_n]; omega))
      refine xd_call0 (.bool (decide (p = q))) rfl rfl rfl rfl fn18 rfl rfl (fun _ E w' F hs => sameTexts_any p q _ _ w' ((hp2.le hu2).imm hs.imm) ((hq2.le hu2).imm hs.imm)) ?_
      refine xd_go tt_ok ?_
      refine x_if (fun h3 => ?_) (fun h3 => ?_)
      · have h3 : (!decide (p = q)) = true := h3
        simp only [Bool.not_eq_true', decide_eq_false_iff_not] at h3
        exact fin1 (fun _ _ => by rw [decide_eq_false (fun e => h3 (by rw [e, hq] at hp; exact (Option.some.inj hp).symm))]; rfl)
      · have h3 : (!decide (p = q)) = false := h3
        simp only [Bool.not_eq_false', decide_eq_true_eq] at h3
        repeat (refine And.intro ?_ ?_; first | omega | (simp only [Lay.d_n]; omega) | (simp only [decide_eq_true_eq, decide_eq_false_iff_not, Bool.or_eq_false_iff, Bool.and_eq_true, Bool.or_eq_true, Bool.and_eq_false_iff, Bool.not_eq_true', Bool.not_eq_false', Lay.d_n]; omega) | (simp only [decide_eq_true_eq, decide_eq_false_iff_not, Bool.or_eq_false_iff, Bool.and_eq_true, Bool.or_eq_true, Bool.and_eq_false_iff, Bool.not_eq_true', Bool.not_eq_false']; omega) | (simp only [decide_eq_true_eq, decide_eq_false_iff_not, Bool.or_eq_false_iff]; simp only [Lay.d_n]; omega))
        exact again (i + 1) [] (.of rfl rfl rfl rfl rfl rfl) ⟨by omega, takeP_next g2 hp hq h3⟩ (by omega)
    · have h2 : ¬ ((i : Nat) : Int) < VA.length := of_decide_eq_false h2
      have e : A = B := by rw [List.take_of_length_le (by omega), List.take_of_length_le (by omega)] at g2; exact g2
      exact fin1 (fun _ _ => by rw [decide_eq_true e]; rfl)
end Go.Proofs.YtnjmkeijjapejaaDoor
namespace Go.Proofs.YtnjmkeijjapejaaDoor
open Go.GV Go.RowKit
theorem dropWhile_drop {l : List Int} : l.dropWhile whB = l.drop (l.takeWhile whB).length := by
  induction l with
  | nil => rfl
  | cons c r ih =>
    rw [List.dropWhile_cons, List.takeWhile_cons]
    split
    · rw [List.length_cons, List.drop_succ_cons]; exact ih
    · rfl
theorem bl_trim (s : ByteArray) : bl (trimP s) = (bl s).dropWhile whB := by
  have hle : leadN s 0 ≤ s.size := by
    unfold leadN
    have := (List.takeWhile_sublist whB (l := (bl s).drop 0)).length_le
    rw [List.length_drop, bl_len] at this
    omega
  rw [trimP_eq, bl_rest s (by omega) (by omega), dropWhile_drop]
  unfold tl leadN
  rw [Int.toNat_natCast, Nat.zero_add, List.drop_zero]
theorem bl_cons {s : ByteArray} (h : 0 < s.size) : bl s = bt s 0 :: bl (sub s 1 s.size) := by
  rw [bl_rest s (by decide) (by omega)]
  unfold tl
  have h1 := drop_get (bl_get s (n := 0) h)
  rw [List.drop_zero] at h1
  exact h1
def starD (s : ByteArray) : Bool := (decide ((0 : Int) < s.size) && decide (bt s 0 = 42)) && (decide ((s.size : Int) = 1) || whB (bt s 1))
theorem starD_eq (s : ByteArray) : starD s = starC s := by
  have hone : s = ⟨#[42]⟩ ↔ s.size = 1 ∧ bt s 0 = 42 := by
    constructor
    · intro h; subst h; exact ⟨rfl, rfl⟩
    · rintro ⟨h1, h2⟩
      refine bl_inj ?_
      have e : bl (sub s 1 s.size) = [] := List.eq_nil_of_length_eq_zero (by
        have := sub_size (s := s) (a := 1) (b := s.size) (by decide) (by omega) (Int.le_refl _)
        rw [bl_len]; omega)
      rw [bl_cons (by omega), h2, e]; rfl
  rw [Bool.eq_iff_iff]
  simp only [starD, starC, Bool.and_eq_true, Bool.or_eq_true, decide_eq_true_eq, hone]
  constructor
  · rintro ⟨⟨h1, h2⟩, h3 | h3⟩
    · exact .inl ⟨by omega, h2⟩
    · by_cases h4 : s.size = 1
      · exact .inl ⟨h4, h2⟩
      · exact .inr ⟨⟨by omega, h2⟩, h3⟩
  · rintro (⟨h1, h2⟩ | ⟨⟨h1, h2⟩, h3⟩)
    · exact ⟨⟨by omega, h2⟩, .inl (by omega)⟩
    · exact ⟨⟨by omega, h2⟩, .inr h3⟩
end Go.Proofs.YtnjmkeijjapejaaDoor
namespace Go.Proofs.YtnjmkeijjapejaaDoor
open Go.GV Go.RowKit
end Go.Proofs.YtnjmkeijjapejaaDoor
namespace Go.Proofs.YtnjmkeijjapejaaDoor
open Go.GV Go.RowKit
theorem insP_snd (s : ByteArray) : (insP s).2 = blockP s := by
  unfold insP
  cases h : blockP s <;> simp
end Go.Proofs.YtnjmkeijjapejaaDoor
namespace Go.Proofs.YtnjmkeijjapejaaDoor
open Go.GV Go.RowKit
theorem ex_ok : fillsP exB 0 12 = (exW, 0) := by kernel_rfl
end Go.Proofs.YtnjmkeijjapejaaDoor
namespace Go.Proofs.YtnjmkeijjapejaaDoor
open Go.GV Go.RowKit
end Go.Proofs.YtnjmkeijjapejaaDoor
namespace Go.Proofs.YtnjmkeijjapejaaDoor
open Go.GV Go.RowKit
end Go.Proofs.YtnjmkeijjapejaaDoor
namespace Go.Proofs.YtnjmkeijjapejaaDoor
open Go.GV Go.RowKit
theorem SI.slAt {w : World} {p : SI} (h : p.own w) : SlAt (im w) p.x p.D :=
  (ownAt_of (lo := 0) h (fun _ _ => Nat.zero_le _)).slAt.sub (cut_sub 0 _)
theorem parAt_star {E : Env} {ow : GV.Own} {nx : Nat} {u : Im} {df : List Deferred} {w : World} {F : Nat → Nat → Prop} (hs : Sat E ow nx u df w F) {k : Nat} {V : List SlV} {R : Par} {A : Option Addr} {c : Nat}
    (hk : GV.look ow k = some (.gen (starHp (itemsP V R ++ [⟨.slice A R.length c, 23, slY.d V⟩])))) (hV : V.length = R.length) : ParAt (im w) (.slice A R.length c) R := by
  obtain ⟨h1, _, _⟩ := hs.holds k _ hk
  refine ⟨V, hV, SI.slAt (h1 _ (List.mem_append_right _ (List.mem_singleton.2 rfl))), fun i p hp => ?_⟩
  have hil : i < R.length := (List.getElem?_eq_some_iff.1 hp).1
  have := SI.slAt (h1 _ (List.mem_append_left _ (List.mem_of_getElem? (itemsP_get (V := V) (R := R) (i := i) (by omega) hil))))
  rw [getD_ofP hp] at this
  exact this
end Go.Proofs.YtnjmkeijjapejaaDoor
namespace Go.Proofs.YtnjmkeijjapejaaDoor
open Go.GV Go.RowKit
def wB : Lx.Bs → Lx.Bs → List Lx.Bs
  | acc, [] => if acc = [] then [] else [acc]
  | acc, c :: l => if whB c then (if acc = [] then wB [] l else acc :: wB [] l) else wB (acc ++ [c]) l
theorem sub_snoc (s : ByteArray) {a : Int} {i : Nat} (h0 : 0 ≤ a) (h1 : a ≤ i) (h : i < s.size) : bl (sub s a ((i : Int) + 1)) = bl (sub s a i) ++ [bt s i] := by
  rw [bl_sub s h0 (by omega) (by omega), bl_sub s h0 h1 (by omega)]
  have e : ((i : Int) + 1 - a).toNat = ((i : Int) - a).toNat + 1 := by omega
  rw [e]
  refine take_get ?_
  unfold tl
  rw [List.getElem?_drop, show a.toNat + ((i : Int) - a).toNat = i by omega]
  exact bl_get s h
theorem sub_same (s : ByteArray) {i : Nat} (h : i ≤ s.size) : bl (sub s i i) = [] := by
  rw [bl_sub s (by omega) (Int.le_refl _) (by omega), show ((i : Int) - i).toNat = 0 by omega]; rfl
theorem sub_pos (s : ByteArray) {a : Int} {i : Nat} (h0 : 0 ≤ a) (h1 : a < i) (h : i ≤ s.size) : bl (sub s a i) ≠ [] := by
  intro e
  have := congrArg List.length e
  rw [bl_sub s h0 (by omega) (by omega), List.length_take, tl_len] at this
  simp only [List.length_nil] at this
  omega
theorem wsF_wB (s : ByteArray) : ∀ (n : Nat) (fr : Int) (i : Nat), s.size - i = n → i ≤ s.size → (0 ≤ fr → fr < i) →
    (wsF s fr i ((bl s).drop i)).map bl = wB (if 0 ≤ fr then bl (sub s fr i) else []) ((bl s).drop i)
  | 0, fr, i, hn, hi, hf => by
    have e : i = s.size := by omega
    subst e
    rw [List.drop_of_length_le (by rw [bl_len]; exact Nat.le_refl _), wsF, wB]
    by_cases h : 0 ≤ fr
    · rw [if_pos h, if_pos h, if_neg (sub_pos s h (hf h) hi)]; rfl
    · rw [if_neg h, if_neg h]; rfl
  | n + 1, fr, i, hn, hi, hf => by
    have hil : i < s.size := by omega
    rw [wsF_one s fr hil, drop_get (bl_get s hil), wB]
    by_cases hw : whB (bt s i) = true
    · rw [if_pos hw, if_pos hw]
      have ih := wsF_wB s n (-1) (i + 1) (by omega) (by omega) (fun h => by omega)
      rw [if_neg (by omega)] at ih
      by_cases h : 0 ≤ fr
      · rw [if_pos h, if_pos h, if_neg (sub_pos s h (hf h) hi), List.map_cons, ih]
      · rw [if_neg h, if_neg h, if_pos rfl, ih]
    · rw [if_neg hw, if_neg hw]
      have ih := wsF_wB s n (if fr < 0 then (i : Int) else fr) (i + 1) (by omega) (by omega) (fun h => by split <;> omega)
      rw [ih]
      by_cases h : 0 ≤ fr
      · rw [if_neg (show ¬ fr < 0 by omega), if_pos h, if_pos h, show ((i + 1 : Nat) : Int) = (i : Int) + 1 by omega, sub_snoc s h (by have := hf h; omega) hil]
      · rw [if_pos (show fr < 0 by omega), if_neg h, if_pos (by omega), show ((i + 1 : Nat) : Int) = (i : Int) + 1 by omega, sub_snoc s (by omega) (Int.le_refl _) hil, sub_same s hi]
theorem words_wB (s : ByteArray) : (wordsP s).map bl = wB [] (bl s) := by
  have := wsF_wB s s.size (-1) 0 (by omega) (Nat.zero_le _) (fun h => by omega)
  rw [if_neg (by omega)] at this
  exact this
theorem wB_ok : ∀ (l acc : Lx.Bs), (∀ c ∈ acc, whB c = false) → ∀ y ∈ wB acc l, y ≠ [] ∧ (∀ c ∈ y, whB c = false) ∧ y <:+: acc ++ l
  | [], acc, ha, y, hy => by
    unfold wB at hy
    split at hy
    · cases hy
    · rename_i h
      rw [List.mem_singleton.1 hy]
      exact ⟨h, ha, [], [], by simp⟩
  | c :: l, acc, ha, y, hy => by
    unfold wB at hy
    split at hy
    · rename_i hw
      have step : y ∈ wB [] l → y ≠ [] ∧ (∀ c ∈ y, whB c = false) ∧ y <:+: acc ++ c :: l := fun hy => by
        obtain ⟨h1, h2, a, b, h3⟩ := wB_ok l [] (fun d hd => by cases hd) y hy
        exact ⟨h1, h2, acc ++ c :: a, b, by rw [← List.nil_append l, ← h3]; simp⟩
      split at hy
      · exact step hy
      · rename_i h
        rcases List.mem_cons.1 hy with hy | hy
        · rw [hy]; exact ⟨h, ha, [], c :: l, by simp⟩
        · exact step hy
    · rename_i hw
      obtain ⟨h1, h2, h3⟩ := wB_ok l (acc ++ [c]) (fun d hd => by
        rcases List.mem_append.1 hd with hd | hd
        · exact ha d hd
        · rw [List.mem_singleton.1 hd]; simpa using hw) y hy
      exact ⟨h1, h2, by rwa [List.append_assoc] at h3⟩
theorem wB_sum : ∀ (l acc : Lx.Bs), ((wB acc l).map (fun y => y.length + 1)).sum ≤ acc.length + l.length + 1
  | [], acc => by
    unfold wB
    split <;> simp
  | c :: l, acc => by
    have h1 := wB_sum l []
    have h2 := wB_sum l (acc ++ [c])
    simp only [List.length_nil, List.length_append, List.length_singleton] at h1 h2
    unfold wB
    split
    · split
      · simp only [List.length_cons]; omega
      · simp only [List.map_cons, List.sum_cons, List.length_cons]; omega
    · simp only [List.length_cons]; omega
def spB : List Lx.Bs → Lx.Bs
  | [] => []
  | y :: r => 32 :: (y ++ spB r)
theorem spB_app : ∀ (a b : List Lx.Bs), spB (a ++ b) = spB a ++ spB b
  | [], b => rfl
  | y :: a, b => by simp [spB, spB_app a b]
theorem wB_word : ∀ (y acc l : Lx.Bs), (∀ c ∈ y, whB c = false) → wB acc (y ++ l) = wB (acc ++ y) l
  | [], acc, l, _ => by simp
  | c :: y, acc, l, h => by
    rw [List.cons_append, wB, if_neg (by rw [h c List.mem_cons_self]; decide), wB_word y _ l (fun d hd => h d (List.mem_cons_of_mem _ hd))]
    simp
theorem wB_sp (t : Lx.Bs) (ht : ∀ acc, wB acc t = if acc = [] then [] else [acc]) : ∀ (ws : List Lx.Bs), (∀ y ∈ ws, y ≠ [] ∧ ∀ c ∈ y, whB c = false) → ∀ acc, wB acc (spB ws ++ t) = (if acc = [] then [] else [acc]) ++ ws
  | [], _, acc => by rw [spB, List.nil_append, ht, List.append_nil]
  | y :: r, h, acc => by
    have ih := wB_sp t ht r (fun z hz => h z (List.mem_cons_of_mem _ hz))
    obtain ⟨h1, h2⟩ := h y List.mem_cons_self
    rw [spB, List.cons_append, List.append_assoc, wB, if_pos (by decide), wB_word y [] _ h2, List.nil_append, ih, if_neg h1]
    split
    · rfl
    · rfl
theorem wB_end (acc : Lx.Bs) : wB acc [] = if acc = [] then [] else [acc] := by rw [wB]
theorem wB_end1 (acc : Lx.Bs) : wB acc [32] = if acc = [] then [] else [acc] := by
  rw [wB, if_pos (by decide)]
  split <;> simp [wB]
def preB (c : Int) : List Lx.Bs → List Lx.Bs
  | [] => [[c]]
  | h :: t => (c :: h) :: t
def pcB : Lx.Bs → List Lx.Bs
  | [] => [[]]
  | c :: l => if c = 10 then [] :: pcB l else preB c (pcB l)
theorem pcB_ne : ∀ l, pcB l ≠ []
  | [] => by simp [pcB]
  | c :: l => by
    unfold pcB
    split
    · simp
    · cases pcB l <;> simp [preB]
theorem pcU_pcB : ∀ l : List UInt8, (pcsU l).map cB = pcB (cB l)
  | [] => rfl
  | b :: l => by
    have ih := pcU_pcB l
    have e : cB (b :: l) = (b.toNat : Int) :: cB l := rfl
    rw [e, pcsU, pcB]
    by_cases h : b = 10
    · subst h
      rw [if_pos rfl, if_pos (by decide), List.map_cons, ih]; rfl
    · rw [if_neg h, if_neg (fun hh => h (UInt8.toNat_inj.1 (by show _ = 10; omega))), ← ih]
      cases hp : pcsU l with
      | nil => exact absurd hp (pcsU_ne l)
      | cons x t => rfl
theorem split_pcB (s : ByteArray) : (splitP s).map bl = pcB (bl s) := by
  have h2 : (splitP s).map (·.data.toList) = pcsU s.data.toList := by
    unfold splitP
    rw [Lib.splitB_data]
    exact split_pcs s.data.toList
  have : (splitP s).map bl = ((splitP s).map (·.data.toList)).map cB := by
    rw [List.map_map]; rfl
  rw [this, h2, pcU_pcB]; rfl
theorem pcB_pre : ∀ (l h : Lx.Bs) (t : List Lx.Bs), pcB l = h :: t → h <+: l
  | [], h, t, e => by
    simp only [pcB, List.cons.injEq] at e
    rw [← e.1]; exact List.nil_prefix
  | c :: l, h, t, e => by
    unfold pcB at e
    split at e
    · simp only [List.cons.injEq] at e
      rw [← e.1]; exact List.nil_prefix
    · cases hp : pcB l with
      | nil => exact absurd hp (pcB_ne l)
      | cons x r =>
        rw [hp] at e
        simp only [preB, List.cons.injEq] at e
        rw [← e.1]
        obtain ⟨b, hb⟩ := pcB_pre l x r hp
        exact ⟨b, by rw [List.cons_append, hb]⟩
theorem pcB_ok : ∀ (l : Lx.Bs), ∀ x ∈ pcB l, (∀ c ∈ x, c ≠ 10) ∧ x <:+: l
  | [], x, hx => by
    rw [pcB, List.mem_singleton] at hx
    rw [hx]; exact ⟨fun c hc => (by cases hc), List.infix_refl _⟩
  | c :: l, x, hx => by
    have up : x ∈ pcB l → (∀ c ∈ x, c ≠ 10) ∧ x <:+: c :: l := fun h => by
      obtain ⟨h1, h2⟩ := pcB_ok l x h
      obtain ⟨a, b, h3⟩ := h2
      exact ⟨h1, c :: a, b, by rw [← h3]; rfl⟩
    unfold pcB at hx
    split at hx
    · rcases List.mem_cons.1 hx with hx | hx
      · rw [hx]; exact ⟨fun c hc => (by cases hc), ⟨[], c :: l, rfl⟩⟩
      · exact up hx
    · rename_i hc
      cases hp : pcB l with
      | nil => exact absurd hp (pcB_ne l)
      | cons h t =>
        rw [hp, preB] at hx
        rcases List.mem_cons.1 hx with hx | hx
        · rw [hx]
          obtain ⟨b, hb⟩ := pcB_pre l h t hp
          have := (pcB_ok l h (by rw [hp]; exact List.mem_cons_self)).1
          refine ⟨fun d hd => ?_, [], b, by rw [List.nil_append, List.cons_append, hb]⟩
          rcases List.mem_cons.1 hd with hd | hd
          · rw [hd]; exact hc
          · exact this d hd
        · exact up (by rw [hp]; exact List.mem_cons_of_mem _ hx)
theorem pcB_sum : ∀ l : Lx.Bs, ((pcB l).map (fun x => x.length + 1)).sum = l.length + 1
  | [] => rfl
  | c :: l => by
    have ih := pcB_sum l
    unfold pcB
    split
    · simp only [List.map_cons, List.sum_cons, List.length_nil, List.length_cons]; omega
    · cases hp : pcB l with
      | nil => exact absurd hp (pcB_ne l)
      | cons h t =>
        rw [hp] at ih
        simp only [preB, List.map_cons, List.sum_cons, List.length_cons] at ih ⊢
        omega
def jB (sp : Lx.Bs) : List Lx.Bs → Lx.Bs
  | [] => []
  | x :: r => 10 :: (sp ++ x ++ jB sp r)
theorem jB_app (sp : Lx.Bs) : ∀ (a b : List Lx.Bs), jB sp (a ++ b) = jB sp a ++ jB sp b
  | [], b => rfl
  | y :: a, b => by simp [jB, jB_app sp a b]
theorem pcB_line : ∀ (x l : Lx.Bs), (∀ c ∈ x, c ≠ 10) → pcB (x ++ 10 :: l) = x :: pcB l
  | [], l, _ => by rw [List.nil_append, pcB, if_pos rfl]
  | c :: x, l, h => by
    rw [List.cons_append, pcB, if_neg (h c List.mem_cons_self), pcB_line x l (fun d hd => h d (List.mem_cons_of_mem _ hd))]; rfl
theorem pcB_one : ∀ (x : Lx.Bs), (∀ c ∈ x, c ≠ 10) → pcB x = [x]
  | [], _ => rfl
  | c :: x, h => by
    rw [pcB, if_neg (h c List.mem_cons_self), pcB_one x (fun d hd => h d (List.mem_cons_of_mem _ hd))]; rfl
theorem pcB_j (sp : Lx.Bs) (hsp : ∀ c ∈ sp, c ≠ 10) : ∀ (r : List Lx.Bs) (x : Lx.Bs), (∀ c ∈ x, c ≠ 10) → (∀ y ∈ r, ∀ c ∈ y, c ≠ 10) → pcB (x ++ jB sp r) = x :: r.map (sp ++ ·)
  | [], x, h, _ => by rw [jB, List.append_nil, pcB_one x h]; rfl
  | y :: r, x, h, hr => by
    rw [jB, pcB_line x _ h, List.append_assoc, ← List.append_assoc, pcB_j sp hsp r (sp ++ y) (fun c hc => by
      rcases List.mem_append.1 hc with hc | hc
      · exact hsp c hc
      · exact hr y List.mem_cons_self c hc) (fun z hz => hr z (List.mem_cons_of_mem _ hz))]
    rfl
def starB : Lx.Bs → Lx.Bs
  | [] => []
  | [c] => if c = 42 then [] else [c]
  | c :: d :: r => if c = 42 ∧ whB d = true then d :: r else c :: d :: r
def restB (l : Lx.Bs) : Lx.Bs := starB (l.dropWhile whB)
def linesB (l : Lx.Bs) : List Lx.Bs := match pcB l with
  | [] => []
  | x :: r => x :: r.map restB
theorem bl_star (s : ByteArray) : bl (starP s) = starB (bl s) := by
  have hz := bl_len s
  unfold starP
  rw [← starD_eq]
  have hd : (bl s).drop 1 = bl (sub s 1 s.size) ∨ s.size = 0 := by
    rcases Nat.eq_zero_or_pos s.size with h | h
    · exact .inr h
    · exact .inl (by rw [bl_rest s (by decide) (by omega)]; rfl)
  cases hb : bl s with
  | nil =>
    rw [hb] at hz
    have h0 : s.size = 0 := by simpa using hz.symm
    have e : starD s = false := by unfold starD; rw [h0]; rfl
    rw [e, if_neg (by decide), hb]; rfl
  | cons c l =>
    have h0 := bl_get s (n := 0) (by rw [← hz, hb]; exact Nat.succ_pos _)
    rw [hb] at h0 hd hz
    simp only [List.getElem?_cons_zero, Option.some.injEq] at h0
    have hd : l = bl (sub s 1 s.size) := by
      rcases hd with hd | hd
      · exact hd
      · rw [hd] at hz; simp at hz
    cases l with
    | nil =>
      have h1 : s.size = 1 := by simpa using hz.symm
      have e : starD s = decide (c = 42) := by
        unfold starD
        rw [h1, h0]; simp
      rw [e]
      by_cases h : c = 42
      · rw [if_pos (by simpa using h), ← hd, starB, if_pos h]
      · rw [if_neg (by simpa using h), hb, starB, if_neg h]
    | cons d r =>
      have h1 := bl_get s (n := 1) (by rw [← hz]; simp)
      rw [hb] at h1
      simp only [List.getElem?_cons_succ, List.getElem?_cons_zero, Option.some.injEq] at h1
      have h2 : 2 ≤ s.size := by rw [← hz]; simp
      have e : starD s = (decide (c = 42) && whB d) := by
        unfold starD
        rw [h0, h1]
        have e1 : decide ((0 : Int) < s.size) = true := decide_eq_true (by omega)
        have e2 : decide ((s.size : Int) = 1) = false := decide_eq_false (by omega)
        rw [e1, e2]; simp
      rw [e]
      by_cases h : c = 42 ∧ whB d = true
      · rw [if_pos (by simp [h.1, h.2]), ← hd, starB, if_pos h]
      · rw [if_neg (by simpa using h), hb, starB, if_neg h]
theorem lines_B (s : ByteArray) : (linesP s).map bl = linesB (bl s) := by
  have h := split_pcB s
  unfold linesP linesB
  rw [← h]
  cases splitP s with
  | nil => rfl
  | cons x r =>
    simp only [List.mapIdx_cons, List.map_cons]
    have e : lineP 0 x = x := rfl
    rw [e]
    congr 1
    refine List.ext_getElem? (fun k => ?_)
    simp only [List.getElem?_map, List.getElem?_mapIdx, Option.map_map]
    congr 1
    funext a
    show bl (if k + 1 = 0 then a else starP (trimP a)) = _
    rw [if_neg (by omega), bl_star, bl_trim]; rfl
theorem starB_suf : ∀ l : Lx.Bs, starB l <:+ l
  | [] => List.suffix_refl _
  | [c] => by
    by_cases h : c = 42
    · rw [starB, if_pos h]; exact List.nil_suffix
    · rw [starB, if_neg h]; exact List.suffix_refl _
  | c :: d :: r => by
    by_cases h : c = 42 ∧ whB d = true
    · rw [starB, if_pos h]; exact ⟨[c], rfl⟩
    · rw [starB, if_neg h]; exact List.suffix_refl _
theorem restB_suf (l : Lx.Bs) : restB l <:+ l := (starB_suf _).trans (List.dropWhile_suffix _)
theorem linesB_ok {l x : Lx.Bs} (h : x ∈ linesB l) : (∀ c ∈ x, c ≠ 10) ∧ x <:+: l := by
  unfold linesB at h
  have ok := pcB_ok l
  cases hp : pcB l with
  | nil => exact absurd hp (pcB_ne l)
  | cons y r =>
    rw [hp] at h ok
    rcases List.mem_cons.1 h with h | h
    · rw [h]; exact ok y List.mem_cons_self
    · rw [List.mem_map] at h
      obtain ⟨z, hz, rfl⟩ := h
      obtain ⟨h1, h2⟩ := ok z (List.mem_cons_of_mem _ hz)
      exact ⟨fun c hc => h1 c ((restB_suf z).subset hc), (restB_suf z).isInfix.trans h2⟩
theorem linesB_sum (l : Lx.Bs) : ((linesB l).map (fun x => x.length + 1)).sum ≤ l.length + 1 := by
  have h := pcB_sum l
  unfold linesB
  cases hp : pcB l with
  | nil => exact absurd hp (pcB_ne l)
  | cons y r =>
    rw [hp] at h
    simp only [List.map_cons, List.sum_cons, List.map_map] at h ⊢
    have : ∀ r : List Lx.Bs, (r.map ((fun x : Lx.Bs => x.length + 1) ∘ restB)).sum ≤ (r.map (fun x => x.length + 1)).sum := by
      intro r
      induction r with
      | nil => exact Nat.le_refl _
      | cons z r ih =>
        have h1 := (restB_suf z).length_le
        simp only [List.map_cons, List.sum_cons, Function.comp_apply]
        omega
    have := this r
    omega
theorem endC_two2 (a b : Int) (r : Lx.Bs) : Lx.endC (a :: b :: r) = 0 ↔ ¬ (a = 42 ∧ b = 47) ∧ Lx.endC (b :: r) = 0 := by
  simp only [Lx.endC]
  by_cases h : a = 42 ∧ b = 47
  · rw [show (decide (a = 42) && decide (b = 47)) = true by simp [h.1, h.2]]
    simp [h.1, h.2]
  · rw [show (decide (a = 42) && decide (b = 47)) = false by simpa using h]
    simp only [h, not_false_eq_true, true_and]
    cases Lx.endC (b :: r) <;> simp
theorem endC_tail {a : Int} {r : Lx.Bs} (h : Lx.endC (a :: r) = 0) : Lx.endC r = 0 := by
  cases r with
  | nil => rfl
  | cons b r => exact ((endC_two2 a b r).1 h).2
theorem endC_app0 : ∀ (a b : Lx.Bs), Lx.endC (a ++ b) = 0 → Lx.endC a = 0 ∧ Lx.endC b = 0
  | [], b, h => ⟨rfl, h⟩
  | [x], b, h => ⟨rfl, endC_tail h⟩
  | x :: y :: a, b, h => by
    have h' := (endC_two2 x y (a ++ b)).1 h
    have ih := endC_app0 (y :: a) b h'.2
    exact ⟨(endC_two2 x y a).2 ⟨h'.1, ih.1⟩, ih.2⟩
theorem endC_infix {x l : Lx.Bs} (h : Lx.endC l = 0) (hx : x <:+: l) : Lx.endC x = 0 := by
  obtain ⟨a, b, rfl⟩ := hx
  exact (endC_app0 a x (endC_app0 (a ++ x) b h).1).2
theorem endC_sep {c : Int} (h1 : c ≠ 42) (h2 : c ≠ 47) : ∀ (a b : Lx.Bs), Lx.endC a = 0 → Lx.endC b = 0 → Lx.endC (a ++ c :: b) = 0
  | [], b, _, hb => by
    cases b with
    | nil => rfl
    | cons d b => exact (endC_two2 c d b).2 ⟨fun h => h1 h.1, hb⟩
  | [x], b, _, hb => (endC_two2 x c b).2 ⟨fun h => h2 h.2, endC_sep h1 h2 [] b rfl hb⟩
  | x :: y :: a, b, ha, hb => by
    have h' := (endC_two2 x y a).1 ha
    exact (endC_two2 x y (a ++ c :: b)).2 ⟨h'.1, endC_sep h1 h2 (y :: a) b h'.2 hb⟩
theorem endC_sp : ∀ (ws : List Lx.Bs) (pre : Lx.Bs), Lx.endC pre = 0 → (∀ y ∈ ws, Lx.endC y = 0) → Lx.endC (pre ++ spB ws) = 0
  | [], pre, h, _ => by rw [spB, List.append_nil]; exact h
  | y :: r, pre, h, hw => endC_sep (by decide) (by decide) _ _ h (endC_sp r y (hw y List.mem_cons_self) (fun z hz => hw z (List.mem_cons_of_mem _ hz)))
theorem endC_blanks : ∀ (sp x : Lx.Bs), (∀ c ∈ sp, c = 32) → Lx.endC x = 0 → Lx.endC (sp ++ x) = 0
  | [], x, _, h => h
  | c :: sp, x, hs, h => by
    have hc := hs c List.mem_cons_self
    subst hc
    exact endC_sep (by decide) (by decide) [] _ rfl (endC_blanks sp x (fun d hd => hs d (List.mem_cons_of_mem _ hd)) h)
theorem endC_j (sp : Lx.Bs) (hs : ∀ c ∈ sp, c = 32) : ∀ (r : List Lx.Bs) (pre : Lx.Bs), Lx.endC pre = 0 → (∀ y ∈ r, Lx.endC y = 0) → Lx.endC (pre ++ jB sp r) = 0
  | [], pre, h, _ => by rw [jB, List.append_nil]; exact h
  | y :: r, pre, h, hr => endC_sep (by decide) (by decide) _ _ h (endC_j sp hs r (sp ++ y) (endC_blanks sp y hs (hr y List.mem_cons_self)) (fun z hz => hr z (List.mem_cons_of_mem _ hz)))
theorem endC_end : ∀ b : Lx.Bs, Lx.endC b = 0 → Lx.endC (b ++ [32, 42, 47]) = b.length + 3
  | [], _ => rfl
  | [a], _ => by
    show Lx.endC (a :: 32 :: [42, 47]) = _
    simp [Lx.endC]
  | a :: b :: r, h => by
    have h' := (endC_two2 a b r).1 h
    have ih := endC_end (b :: r) h'.2
    have e : (decide (a = 42) && decide (b = 47)) = false := by simpa using h'.1
    show Lx.endC (a :: b :: (r ++ [32, 42, 47])) = _
    have ih' : Lx.endC (b :: (r ++ [32, 42, 47])) = (b :: r).length + 3 := ih
    simp only [Lx.endC, e, ih', List.length_cons]
theorem endC_cut : ∀ (l : Lx.Bs) (k : Nat), k < Lx.endC l → Lx.endC (l.take k) = 0
  | [], k, h => by simp [Lx.endC] at h
  | [a], k, h => by simp [Lx.endC] at h
  | a :: b :: r, 0, h => rfl
  | a :: b :: r, 1, h => rfl
  | a :: b :: r, k + 2, h => by
    have hab : ¬ (a = 42 ∧ b = 47) := by
      intro hh
      simp only [Lx.endC, show (decide (a = 42) && decide (b = 47)) = true by simp [hh.1, hh.2]] at h
      omega
    have h2 : k + 1 < Lx.endC (b :: r) := by
      simp only [Lx.endC, show (decide (a = 42) && decide (b = 47)) = false by simpa using hab] at h
      cases hm : Lx.endC (b :: r) with
      | zero => rw [hm] at h; simp at h
      | succ m => rw [hm] at h; simp only at h; omega
    have ih := endC_cut (b :: r) (k + 1) h2
    exact (endC_two2 a b (r.take k)).2 ⟨hab, ih⟩
end Go.Proofs.YtnjmkeijjapejaaDoor
namespace Go.Proofs.YtnjmkeijjapejaaDoor
open Go.GV Go.RowKit
def wordOk (y : ByteArray) : Prop := bl y ≠ [] ∧ (∀ c ∈ bl y, whB c = false) ∧ (∀ c ∈ bl y, c ≠ 10) ∧ Lx.endC (bl y) = 0
theorem par_ok (s : ByteArray) (he : Lx.endC (bl s) = 0) : ∀ p ∈ parP s, ∀ y ∈ p, wordOk y := by
  refine parP_mem (fun x hx y hy => ?_)
  have hx' : bl x ∈ linesB (bl s) := by rw [← lines_B]; exact List.mem_map_of_mem hx
  have hy' : bl y ∈ wB [] (bl x) := by rw [← words_wB]; exact List.mem_map_of_mem hy
  obtain ⟨a1, a2⟩ := linesB_ok hx'
  obtain ⟨b1, b2, b3⟩ := wB_ok _ _ (fun c hc => by cases hc) _ hy'
  rw [List.nil_append] at b3
  exact ⟨b1, b2, fun c hc => a1 c (b3.subset hc), endC_infix he (b3.trans a2)⟩
theorem docFold_flat : ∀ (L : List (List ByteArray)) (st : Par × List ByteArray), (docEnd (L.foldl docStep st)).flatten = st.1.flatten ++ st.2 ++ L.flatten
  | [], (out, now) => by
    unfold docEnd
    by_cases h : now = []
    · rw [List.foldl_nil, if_pos h]; simp [h]
    · rw [List.foldl_nil, if_neg h]; simp
  | ws :: L, (out, now) => by
    rw [List.foldl_cons, docFold_flat L]
    unfold docStep
    by_cases h : ws = [] ∧ now ≠ []
    · rw [if_pos h, if_pos h, h.1]; simp
    · rw [if_neg h, if_neg h]; simp
theorem parP_flat (s : ByteArray) : (parP s).flatten = (wsOf s).flatten := by
  rw [parP_doc, docFold_flat]; simp
theorem wsOf_B (s : ByteArray) : (wsOf s).map (List.map bl) = (linesB (bl s)).map (wB []) := by
  rw [← lines_B, wsOf, List.map_map, List.map_map]
  congr 1
  funext x
  exact words_wB x
theorem ws_inj {A B : List (List ByteArray)} (h : A.map (List.map bl) = B.map (List.map bl)) : A = B :=
  (List.map_inj_right (f := List.map bl) (fun _ _ e => (List.map_inj_right (f := bl) (fun _ _ e => bl_inj e)).1 e)).1 h
theorem sum_flat (f : ByteArray → Nat) : ∀ L : List (List ByteArray), (L.flatten.map f).sum = (L.map (fun p => (p.map f).sum)).sum
  | [] => rfl
  | p :: L => by rw [List.flatten_cons, List.map_append, List.sum_append, sum_flat f L]; rfl
theorem par_sum (s : ByteArray) : ((parP s).flatten.map (fun y => y.size + 1)).sum ≤ s.size + 1 := by
  rw [parP_flat, sum_flat]
  have h1 : ∀ L : List Lx.Bs, (L.map (fun x => ((wB [] x).map (fun y => y.length + 1)).sum)).sum ≤ (L.map (fun x => x.length + 1)).sum := by
    intro L
    induction L with
    | nil => exact Nat.le_refl _
    | cons x L ih =>
      have := wB_sum x []
      simp only [List.map_cons, List.sum_cons, List.length_nil] at this ⊢
      omega
  have h2 := linesB_sum (bl s)
  have h3 := h1 (linesB (bl s))
  have e : (wsOf s).map (fun p => (p.map (fun y => y.size + 1)).sum) = (linesB (bl s)).map (fun x => ((wB [] x).map (fun y => y.length + 1)).sum) := by
    have e1 : (wsOf s).map (fun p => (p.map (fun y => y.size + 1)).sum) = ((wsOf s).map (List.map bl)).map (fun p => (p.map (fun y => y.length + 1)).sum) := by
      rw [List.map_map]
      congr 1
      funext p
      simp only [Function.comp_apply, List.map_map]
      congr 2
      funext y
      simp only [Function.comp_apply, bl_len]
    rw [e1, wsOf_B, List.map_map]; rfl
  rw [e]
  rw [bl_len] at h2
  omega
theorem by_sum (p : List ByteArray) : bySum p ≤ 4 * (p.map (fun y => y.size + 1)).sum := by
  induction p with
  | nil => exact Nat.le_refl _
  | cons y p ih =>
    simp only [bySum, List.map_cons, List.sum_cons] at ih ⊢
    omega
theorem len_sum (p : List ByteArray) : p.length ≤ (p.map (fun y => y.size + 1)).sum := by
  induction p with
  | nil => exact Nat.le_refl _
  | cons y p ih =>
    simp only [List.map_cons, List.sum_cons, List.length_cons] at ih ⊢
    omega
theorem sum_mem (f : List ByteArray → Nat) : ∀ (L : List (List ByteArray)) (p : List ByteArray), p ∈ L → f p ≤ (L.map f).sum
  | q :: L, p, h => by
    rw [List.map_cons, List.sum_cons]
    rcases List.mem_cons.1 h with rfl | h
    · omega
    · have := sum_mem f L p h
      omega
theorem par_by {s : ByteArray} {p : List ByteArray} (h : p ∈ parP s) : bySum p ≤ 4 * (s.size + 1) := by
  have h1 := par_sum s
  rw [sum_flat] at h1
  have h2 := sum_mem (fun p => (p.map (fun y : ByteArray => y.size + 1)).sum) (parP s) p h
  have h3 := by_sum p
  omega
theorem par_szR (s : ByteArray) : szR (parP s) ≤ s.size + 1 := by
  have h1 := par_sum s
  have h2 := len_sum (parP s).flatten
  have e : szR (parP s) = (parP s).flatten.length := by rw [szR, List.length_flatten]
  omega
theorem par_len (s : ByteArray) : (parP s).length ≤ s.size + 1 := by
  obtain ⟨_, h2⟩ := foldL_ok (wsOf s) ([], false) (fun h => by cases h) (Nat.le_refl _)
  have h2 : (parP s).length ≤ szR (parP s) := h2
  have := par_szR s
  omega
theorem ins_size (s : ByteArray) : (insP s).1.size ≤ s.size := by
  unfold insP
  split
  · exact sub_leP _ _ _
  · exact Nat.zero_le _
theorem small_gen {s : ByteArray} (h : s.size ≤ 1000000000) : SmallP s := by
  have hi := ins_size s
  have hl : ∀ x ∈ linesP (insP s).1, x.size ≤ 1000000000 := fun x hx => Nat.le_trans (linesP_mem _ x hx) (by omega)
  have hz := par_szR (insP s).1
  have ht : ((wsOf (insP s).1).map List.length).sum = szR (parP (insP s).1) := by
    have e : szR (parP (insP s).1) = (parP (insP s).1).flatten.length := by rw [szR, List.length_flatten]
    rw [e, parP_flat, List.length_flatten]
  refine ⟨by omega, by omega, by omega, fun x hx => ⟨by have := hl x hx; omega, fun y hy => ?_⟩, fun p hp => ?_, ?_⟩
  · have h1 := wsF_mem x _ _ _ y hy
    have := hl x hx
    omega
  · have := par_by hp
    omega
  · have := par_len (insP s).1
    omega
theorem ins_end {s : ByteArray} (h : blockP s = true) : Lx.endC (bl (insP s).1) = 0 := by
  obtain ⟨h1, h2, h3⟩ := blockP_form h
  rw [insP, if_pos h]
  show Lx.endC (bl (sub s 2 ((s.size : Int) - 2))) = 0
  rw [bl_sub s (by decide) (by omega) (by omega)]
  exact endC_cut _ _ (by show _ < Lx.endC ((bl s).drop 2); omega)
theorem block_of {S : ByteArray} {B : Lx.Bs} (hS : bl S = [47, 42] ++ (B ++ [32, 42, 47])) (he : Lx.endC B = 0) : blockP S = true ∧ bl (insP S).1 = B ++ [32] := by
  have hz : S.size = B.length + 5 := by
    rw [← bl_len, hS]; simp
  have hb : blockP S = true := by
    have h1 : hasP S opB = true := by
      rw [hasP_bl]
      exact decide_eq_true (by rw [hS]; rfl)
    have h2 : Lx.oneL (bl S) = some 8 := by
      rw [Lx.oneL_iff]
      refine ⟨47, 42 :: (B ++ [32, 42, 47]), hS, by decide, ?_⟩
      rw [hS]
      unfold Lx.itemP
      rw [if_neg (by simp), if_pos (show Lx.isOpen ([47, 42] ++ (B ++ [32, 42, 47])) = true by unfold Lx.isOpen; exact decide_eq_true rfl)]
      have e : ([47, 42] ++ (B ++ [32, 42, 47])).drop 2 = B ++ [32, 42, 47] := rfl
      rw [e, endC_end B he]
      simp
    have h3 : oneP S = (8, true) := by unfold oneP; rw [h2]
    rw [blockP, h1, h3]; rfl
  refine ⟨hb, ?_⟩
  rw [insP, if_pos hb]
  show bl (sub S 2 ((S.size : Int) - 2)) = _
  rw [bl_sub S (by decide) (by omega) (by omega), tl, hS]
  show List.take _ (B ++ [32, 42, 47]) = _
  rw [show (((S.size : Int) - 2) - 2).toNat = (B ++ [32]).length by simp; omega, show B ++ [32, 42, 47] = (B ++ [32]) ++ [42, 47] by simp]
  exact List.take_left
theorem kept_no {s : ByteArray} {B : Lx.Bs} (h : bl s = 32 :: B) : keptB s = false := by
  have hz : 0 < s.size := by rw [← bl_len, h]; simp
  have := bl_get s (n := 0) hz
  rw [h] at this
  simp only [List.getElem?_cons_zero, Option.some.injEq] at this
  unfold keptB
  rw [show bt s 0 = 32 from this.symm]
  simp
def rowB (g : List ByteArray) : Lx.Bs := [32, 42] ++ spB (g.map bl)
theorem cur_B (cur : List UInt8) (y : ByteArray) : cB (cur ++ 32 :: y.data.toList) = cB cur ++ (32 :: bl y) := by
  rw [cB_app]; rfl
theorem fillF_grp (room : Int) : ∀ (ws : List ByteArray) (cur : List UInt8) (lead : Lx.Bs) (g : List ByteArray), cB cur = lead ++ spB (g.map bl) → g ≠ [] →
    ∃ (g1 : List ByteArray) (gs : List (List ByteArray)), (fillF room ws cur).map bl = (lead ++ spB (g1.map bl)) :: gs.map rowB ∧ (∀ h ∈ gs, h ≠ []) ∧ g1 ≠ [] ∧ g1 ++ gs.flatten = g ++ ws
  | [], cur, lead, g, h, hg => ⟨g, [], by rw [fillF, List.map_cons, bl_cB, h]; rfl, fun _ hh => (by cases hh), hg, by simp⟩
  | y :: r, cur, lead, g, h, hg => by
    unfold fillF
    split
    · obtain ⟨g1, gs, a1, a2, a3, a4⟩ := fillF_grp room r (cur ++ 32 :: y.data.toList) lead (g ++ [y]) (by
        rw [cur_B, h, List.map_append, spB_app]; simp [spB]) (by simp)
      exact ⟨g1, gs, a1, a2, a3, by rw [a4]; simp⟩
    · obtain ⟨g1, gs, a1, a2, a3, a4⟩ := fillF_grp room r (32 :: 42 :: 32 :: y.data.toList) [32, 42] [y] (by
        have e := cur_B [32, 42] y
        rw [show [32, 42] ++ 32 :: y.data.toList = 32 :: 42 :: 32 :: y.data.toList from rfl] at e
        rw [e]; simp [spB, cB]) (by simp)
      refine ⟨g, g1 :: gs, ?_, fun x hx => ?_, hg, ?_⟩
      · rw [List.map_cons, bl_cB, h, a1]; rfl
      · rcases List.mem_cons.1 hx with rfl | hx
        · exact a3
        · exact a2 x hx
      · rw [List.flatten_cons, a4]; simp
theorem fillP_grp (room : Int) {lead : ByteArray} {lb : Lx.Bs} (hl : bl lead = lb ++ [32]) {p : List ByteArray} (hp : p ≠ []) :
    ∃ (g1 : List ByteArray) (gs : List (List ByteArray)), (fillP lead p room).map bl = (lb ++ spB (g1.map bl)) :: gs.map rowB ∧ (∀ h ∈ gs, h ≠ []) ∧ g1 ≠ [] ∧ g1 ++ gs.flatten = p := by
  cases p with
  | nil => exact absurd rfl hp
  | cons y r =>
    obtain ⟨g1, gs, a1, a2, a3, a4⟩ := fillF_grp room r (lead.data.toList ++ y.data.toList) lb [y] (by
      rw [cB_app, bl_y, bl_y, hl]; simp [spB]) (by simp)
    exact ⟨g1, gs, a1, a2, a3, by rw [a4]; rfl⟩
theorem step_grp : ∀ (gs : List (List ByteArray)) (out : Par) (now : List ByteArray), (∀ h ∈ gs, h ≠ []) → gs.foldl docStep (out, now) = (out, now ++ gs.flatten)
  | [], out, now, _ => by simp
  | g :: gs, out, now, h => by
    have hg := h g List.mem_cons_self
    have e : docStep (out, now) g = (out, now ++ g) := by
      unfold docStep
      rw [if_neg (fun hh => hg hh.1), if_neg (fun hh => hg hh.1)]
    rw [List.foldl_cons, e, step_grp gs _ _ (fun x hx => h x (List.mem_cons_of_mem _ hx))]
    simp
theorem step_nil (out : Par) (now : List ByteArray) : docStep (out, now) [] = (docEnd (out, now), []) := by
  unfold docStep docEnd
  by_cases h : now = []
  · simp [h]
  · simp [h]
theorem end_nil (O : Par) : docEnd (O, []) = O := by unfold docEnd; rw [if_pos rfl]
theorem end_one (O : Par) {p : List ByteArray} (h : p ≠ []) : docEnd (O, p) = O ++ [p] := by unfold docEnd; rw [if_neg h]
theorem rowsF_grp (room : Int) : ∀ R : Par, (∀ p ∈ R, p ≠ []) → ∃ gs : List (List ByteArray), (rowsF room false R).map bl = gs.map rowB ∧ gs.flatten = R.flatten ∧ ∀ out now, docEnd (gs.foldl docStep (out, now)) = docEnd (out, now) ++ R
  | [], _ => ⟨[], rfl, rfl, fun out now => by simp⟩
  | p :: R, h => by
    have hp := h p List.mem_cons_self
    obtain ⟨gs, a1, a2, a3⟩ := rowsF_grp room R (fun q hq => h q (List.mem_cons_of_mem _ hq))
    obtain ⟨g1, g2, b1, b2, b3, b4⟩ := fillP_grp room (lead := ltB) (lb := [32, 42]) rfl hp
    refine ⟨[] :: (g1 :: g2 ++ gs), ?_, ?_, fun out now => ?_⟩
    · have e : bl stB = rowB [] := rfl
      simp only [rowsF, Bool.false_eq_true, if_false, List.map_append, List.map_cons, List.map_nil, b1, a1, e]
      rfl
    · simp only [List.flatten_cons, List.nil_append, List.flatten_append, ← b4, a2]
    · have e : (g1 :: g2).foldl docStep (docEnd (out, now), []) = (docEnd (out, now), p) := by
        rw [step_grp _ _ _ (fun x hx => by
          rcases List.mem_cons.1 hx with rfl | hx
          · exact b3
          · exact b2 x hx), List.flatten_cons, b4, List.nil_append]
      rw [List.foldl_cons, step_nil, List.foldl_append, e, a3, end_one _ hp, List.append_assoc]; rfl
theorem rowsT_grp (room : Int) (p : List ByteArray) (R : Par) (h : ∀ q ∈ p :: R, q ≠ []) : ∃ (g0 : List ByteArray) (gs : List (List ByteArray)), g0 ≠ [] ∧ (rowsF room true (p :: R)).map bl = ([47, 42] ++ spB (g0.map bl)) :: gs.map rowB ∧ g0 ++ gs.flatten = (p :: R).flatten ∧
    docEnd ((g0 :: gs).foldl docStep ([], [])) = p :: R := by
  have hp := h p List.mem_cons_self
  obtain ⟨gs, a1, a2, a3⟩ := rowsF_grp room R (fun q hq => h q (List.mem_cons_of_mem _ hq))
  obtain ⟨g1, g2, b1, b2, b3, b4⟩ := fillP_grp room (lead := bgB) (lb := [47, 42]) rfl hp
  refine ⟨g1, g2 ++ gs, b3, ?_, ?_, ?_⟩
  · simp only [rowsF, if_true, List.nil_append, List.map_append, b1, a1, List.cons_append]
  · rw [List.flatten_append, ← List.append_assoc, b4, a2]; rfl
  · have e : (g1 :: g2).foldl docStep (([] : Par), []) = ([], p) := by
      rw [step_grp _ _ _ (fun x hx => by
        rcases List.mem_cons.1 hx with rfl | hx
        · exact b3
        · exact b2 x hx), List.flatten_cons, b4, List.nil_append]
    rw [← List.cons_append, List.foldl_append, e, a3, end_one _ hp]; rfl
theorem tail_B : ∀ r : List ByteArray, (Lib.joinTail blB.data.toList (r.map (·.data.toList))).map (fun b => (b.toNat : Int)) = spB (r.map bl)
  | [] => rfl
  | y :: r => by
    have ih := tail_B r
    simp only [Lib.joinTail, List.map_cons, List.flatten_cons, List.map_append, spB] at ih ⊢
    rw [ih]; rfl
theorem oneRow_B {p : List ByteArray} (h : p ≠ []) : bl (oneRow p) = [47, 42] ++ (spB (p.map bl) ++ [32, 42, 47]) := by
  cases p with
  | nil => exact absurd rfl h
  | cons y r =>
    have e : bl (joinT (y :: r) blB) = bl y ++ spB (r.map bl) := by
      have h1 := tail_B r
      show (joinT (y :: r) blB).data.toList.map (fun b => (b.toNat : Int)) = _
      rw [joinT_data, List.map_cons, Lib.join_cons, List.map_append, h1]; rfl
    rw [oneRow, bl_append, bl_append, e, show bl bgB = [47, 42] ++ [32] from rfl, show bl eoB = [32, 42, 47] from rfl]
    simp [spB]
def hdJ (sp : Lx.Bs) : List Lx.Bs → Lx.Bs
  | [] => []
  | x :: r => x ++ jB sp r
theorem hdJ_snoc (sp : Lx.Bs) {L : List Lx.Bs} (h : L ≠ []) (x : Lx.Bs) : hdJ sp (L ++ [x]) = hdJ sp L ++ 10 :: (sp ++ x) := by
  cases L with
  | nil => exact absurd rfl h
  | cons y r => simp [hdJ, jB_app, jB]
theorem hdJ_pc : ∀ l : Lx.Bs, hdJ [] (pcB l) = l
  | [] => rfl
  | c :: l => by
    have ih := hdJ_pc l
    unfold pcB
    cases hp : pcB l with
    | nil => exact absurd hp (pcB_ne l)
    | cons h t =>
      rw [hp] at ih
      simp only [hdJ] at ih
      split
      · rename_i hc
        subst hc
        simp [hdJ, jB, ih]
      · simp [preB, hdJ, ih]
theorem jB_size (sp : Lx.Bs) (M : Nat) : ∀ L : List Lx.Bs, (∀ x ∈ L, x.length ≤ M) → (jB sp L).length ≤ L.length * (M + 1 + sp.length)
  | [], _ => Nat.zero_le _
  | x :: r, h => by
    have h1 := jB_size sp M r (fun y hy => h y (List.mem_cons_of_mem _ hy))
    have h2 := h x List.mem_cons_self
    simp only [jB, List.length_cons, List.length_append, Nat.succ_mul]
    omega
theorem hdJ_size (sp : Lx.Bs) (M : Nat) (L : List Lx.Bs) (h : ∀ x ∈ L, x.length ≤ M) : (hdJ sp L).length ≤ L.length * (M + 1 + sp.length) := by
  cases L with
  | nil => exact Nat.zero_le _
  | cons x r =>
    have h1 := jB_size sp M r (fun y hy => h y (List.mem_cons_of_mem _ hy))
    have h2 := h x List.mem_cons_self
    simp only [hdJ, List.length_cons, List.length_append, Nat.succ_mul]
    omega
theorem no10_sp : ∀ ws : List ByteArray, (∀ y ∈ ws, wordOk y) → ∀ c ∈ spB (ws.map bl), c ≠ 10
  | [], _, c, hc => by cases hc
  | y :: r, h, c, hc => by
    rw [List.map_cons, spB] at hc
    rcases List.mem_cons.1 hc with rfl | hc
    · decide
    · rcases List.mem_append.1 hc with hc | hc
      · exact (h y List.mem_cons_self).2.2.1 c hc
      · exact no10_sp r (fun z hz => h z (List.mem_cons_of_mem _ hz)) c hc
theorem endC_words (ws : List ByteArray) (h : ∀ y ∈ ws, wordOk y) : ∀ z ∈ ws.map bl, Lx.endC z = 0 := by
  intro z hz
  rw [List.mem_map] at hz
  obtain ⟨y, hy, rfl⟩ := hz
  exact (h y hy).2.2.2
theorem good_words (ws : List ByteArray) (h : ∀ y ∈ ws, wordOk y) : ∀ z ∈ ws.map bl, z ≠ [] ∧ ∀ c ∈ z, whB c = false := by
  intro z hz
  rw [List.mem_map] at hz
  obtain ⟨y, hy, rfl⟩ := hz
  exact ⟨(h y hy).1, (h y hy).2.1⟩
theorem wB_words (ws : List ByteArray) (h : ∀ y ∈ ws, wordOk y) : wB [] (spB (ws.map bl)) = ws.map bl := by
  have := wB_sp [] wB_end (ws.map bl) (good_words ws h) []
  rw [List.append_nil] at this
  rw [this]; rfl
theorem drop_blanks : ∀ (sp l : Lx.Bs), (∀ c ∈ sp, c = 32) → (sp ++ l).dropWhile whB = l.dropWhile whB
  | [], l, _ => rfl
  | c :: sp, l, h => by
    have hc := h c List.mem_cons_self
    subst hc
    rw [List.cons_append, List.dropWhile_cons, if_pos (by decide), drop_blanks sp l (fun d hd => h d (List.mem_cons_of_mem _ hd))]
theorem rest_row (sp : Lx.Bs) (hs : ∀ c ∈ sp, c = 32) (g : List ByteArray) : restB (sp ++ rowB g) = spB (g.map bl) := by
  unfold restB rowB
  rw [drop_blanks sp _ hs]
  have e : ([32, 42] ++ spB (g.map bl)).dropWhile whB = 42 :: spB (g.map bl) := by
    show List.dropWhile whB (32 :: 42 :: spB (g.map bl)) = _
    rw [List.dropWhile_cons, if_pos (by decide), List.dropWhile_cons, if_neg (by decide)]
  rw [e]
  cases g with
  | nil => rfl
  | cons y r => rw [List.map_cons, spB, starB, if_pos ⟨rfl, by decide⟩]
theorem rest_end (sp : Lx.Bs) (hs : ∀ c ∈ sp, c = 32) : restB (sp ++ [32]) = [] := by
  unfold restB
  rw [drop_blanks sp _ hs]; rfl
theorem back_par {t S : ByteArray} {ind col : Int} (h0 : (fillsP t ind col).2 = 0) (hk : keptB (insP t).1 = false) (hS : bl S = hdJ (List.replicate ind.toNat 32) ((fillsP t ind col).1.map bl)) :
    blockP S = true ∧ keptB (insP S).1 = false ∧ parP (insP S).1 = parP (insP t).1 := by
  obtain ⟨_, _, _, _, d5⟩ := fills_dom h0
  have hbt : blockP t = true := by rw [← insP_snd]; exact d5
  have hw := par_ok (insP t).1 (ins_end hbt)
  have hne := parP_ne (insP t).1
  have hsp : ∀ c ∈ List.replicate ind.toNat (32 : Int), c = 32 := fun c hc => List.eq_of_mem_replicate hc
  generalize List.replicate ind.toNat (32 : Int) = sp at hS hsp
  unfold fillsP at h0 hS
  split at h0
  · cases h0
  · rename_i hbad
    rw [if_neg hbad, hk, if_neg (by decide)] at hS
    generalize parP (insP t).1 = R at hS hw hne ⊢
    have fin : ∀ (B : Lx.Bs) (G : List (List ByteArray)), bl S = [47, 42] ++ (B ++ [32, 42, 47]) → Lx.endC B = 0 → (∃ B', B ++ [32] = 32 :: B') → (linesB (B ++ [32])).map (wB []) = G.map (List.map bl) → docEnd (G.foldl docStep ([], [])) = R →
        blockP S = true ∧ keptB (insP S).1 = false ∧ parP (insP S).1 = R := by
      intro B G h1 h2 ⟨B', h3⟩ h4 h5
      obtain ⟨a1, a2⟩ := block_of h1 h2
      refine ⟨a1, kept_no (a2.trans h3), ?_⟩
      rw [parP_doc, ws_inj ((wsOf_B (insP S).1).trans (by rw [a2, h4])), h5]
    by_cases hR : R = []
    · rw [if_pos hR] at hS
      refine fin [] [[]] (by rw [hS]; rfl) rfl ⟨[], rfl⟩ (by rfl) (by rw [hR]; rfl)
    · rw [if_neg hR] at hS
      by_cases h1 : R.length = 1 ∧ ((oneRow (R.getD 0 [])).size : Int) ≤ col - ind
      · rw [if_pos h1] at hS
        obtain ⟨p, rfl⟩ : ∃ p, R = [p] := by
          cases R with
          | nil => exact absurd rfl hR
          | cons p r =>
            cases r with
            | nil => exact ⟨p, rfl⟩
            | cons q r => simp at h1
        have hp := hne p List.mem_cons_self
        have hpw := hw p List.mem_cons_self
        have hS : bl S = bl (oneRow p) := by rw [hS]; simp [hdJ, jB]
        refine fin (spB (p.map bl)) [p] (by rw [hS, oneRow_B hp]) (endC_sp _ [] rfl (endC_words p hpw)) ?_ ?_ ?_
        · cases p with
          | nil => exact absurd rfl hp
          | cons y r => exact ⟨_, rfl⟩
        · unfold linesB
          rw [pcB_one _ (fun c hc => by
            rcases List.mem_append.1 hc with hc | hc
            · exact no10_sp p hpw c hc
            · rw [List.mem_singleton.1 hc]; decide)]
          simp only [List.map_nil, List.map_cons]
          rw [wB_sp [32] wB_end1 _ (good_words p hpw)]; rfl
        · rw [step_grp [p] [] [] (fun x hx => by rw [List.mem_singleton.1 hx]; exact hp)]
          simp only [List.flatten_cons, List.flatten_nil, List.append_nil, List.nil_append]
          rw [end_one _ hp]; rfl
      · rw [if_neg h1] at hS
        cases R with
        | nil => exact absurd rfl hR
        | cons p R =>
          obtain ⟨g0, gs, a0, a1, a2, a3⟩ := rowsT_grp (col - ind) p R hne
          have hall : ∀ y ∈ g0 ++ gs.flatten, wordOk y := fun y hy => by
            rw [a2, List.mem_flatten] at hy
            obtain ⟨q, hq, hy⟩ := hy
            exact hw q hq y hy
          have hw0 : ∀ y ∈ g0, wordOk y := fun y hy => hall y (List.mem_append_left _ hy)
          have hws : ∀ g ∈ gs, ∀ y ∈ g, wordOk y := fun g hg y hy => hall y (List.mem_append_right _ (List.mem_flatten.2 ⟨g, hg, hy⟩))
          have hS : bl S = [47, 42] ++ (spB (g0.map bl) ++ jB sp (gs.map rowB ++ [[32, 42, 47]])) := by
            rw [hS]
            simp only [List.map_append, a1, List.map_cons, List.map_nil, show bl eoB = [32, 42, 47] from rfl]
            simp [hdJ]
          have hrow : ∀ x ∈ gs.map rowB, Lx.endC x = 0 ∧ ∀ c ∈ x, c ≠ 10 := fun x hx => by
            rw [List.mem_map] at hx
            obtain ⟨g, hg, rfl⟩ := hx
            refine ⟨endC_sp _ [32, 42] rfl (endC_words g (hws g hg)), fun c hc => ?_⟩
            rcases List.mem_append.1 hc with hc | hc
            · intro e; subst e; exact absurd hc (by decide)
            · exact no10_sp g (hws g hg) c hc
          refine fin (spB (g0.map bl) ++ jB sp (gs.map rowB) ++ 10 :: sp) (g0 :: gs ++ [[]]) ?_ ?_ ?_ ?_ ?_
          · rw [hS, jB_app]; simp [jB]
          · refine endC_sep (by decide) (by decide) _ _ (endC_j sp hsp _ _ (endC_sp _ [] rfl (endC_words g0 hw0)) (fun x hx => (hrow x hx).1)) ?_
            have := endC_blanks sp [] hsp rfl
            rwa [List.append_nil] at this
          · cases g0 with
            | nil => exact absurd rfl a0
            | cons y r => exact ⟨_, rfl⟩
          · have e : spB (g0.map bl) ++ jB sp (gs.map rowB) ++ 10 :: sp ++ [32] = spB (g0.map bl) ++ jB sp (gs.map rowB ++ [[32]]) := by
              rw [jB_app]; simp [jB]
            rw [e]
            unfold linesB
            rw [pcB_j sp (fun c hc => by rw [hsp c hc]; decide) _ _ (no10_sp g0 hw0) (fun y hy => by
              rcases List.mem_append.1 hy with hy | hy
              · exact (hrow y hy).2
              · rw [List.mem_singleton.1 hy]; decide)]
            simp only [List.map_append, List.map_cons, List.map_nil, rest_end sp hsp, wB_words g0 hw0, List.map_map, List.cons_append]
            congr 2
            · refine List.map_congr_left (fun g hg => ?_)
              simp only [Function.comp_apply, rest_row sp hsp, wB_words g (hws g hg)]
          · have e2 : ∀ st : Par × List ByteArray, docEnd (docStep st []) = docEnd st := fun (out, now) => by rw [step_nil, end_nil]
            rw [List.foldl_append, List.foldl_cons, List.foldl_nil, e2, a3]
theorem back_law {t S : ByteArray} {ind col : Int} (h0 : (fillsP t ind col).2 = 0) (hk : keptB (insP t).1 = false) (hS : bl S = hdJ (List.replicate ind.toNat 32) ((fillsP t ind col).1.map bl)) :
    (insP S).2 = true ∧ parP (insP S).1 = parP (insP t).1 ∧ fillsP S ind col = fillsP t ind col := by
  obtain ⟨a1, a2, a3⟩ := back_par h0 hk hS
  obtain ⟨_, _, _, _, d5⟩ := fills_dom h0
  have e2 : (insP S).2 = true := by rw [insP_snd]; exact a1
  refine ⟨e2, a3, ?_⟩
  have eb : badF S ind col = badF t ind col := by unfold badF; rw [e2, d5]
  unfold fillsP
  rw [eb, a2, hk, a3]
  rfl
theorem back_kept {t S : ByteArray} {ind col : Int} (h0 : (fillsP t ind col).2 = 0) (hk : keptB (insP t).1 = true) (hS : bl S = hdJ [] ((fillsP t ind col).1.map bl)) : S = t := by
  refine bl_inj ?_
  rw [hS]
  unfold fillsP at h0 ⊢
  split at h0
  · cases h0
  · rename_i hb
    rw [if_neg hb, hk, if_pos rfl, split_pcB, hdJ_pc]
theorem back_rows {t : ByteArray} {ind col : Int} (ht : t.size ≤ 5000) : (fillsP t ind col).1.length ≤ 20000 ∧ ∀ x ∈ (fillsP t ind col).1, x.size ≤ 30000 := by
  have hi := ins_size t
  have hz := par_szR (insP t).1
  have hl := par_len (insP t).1
  have hp : ∀ p ∈ parP (insP t).1, bySum p ≤ 20004 := fun p hp => by have := par_by hp; omega
  unfold fillsP
  split
  · exact ⟨Nat.zero_le _, fun x hx => by cases hx⟩
  · split
    · have := splitP_le t
      exact ⟨by show (splitP t).length ≤ _; omega, fun x hx => by have := splitB_mem nlB 0 _ t x hx; omega⟩
    · split
      · refine ⟨by decide, fun x hx => ?_⟩
        rw [List.mem_singleton] at hx
        rw [hx]; decide
      · split
        · rename_i h1
          refine ⟨by show 1 ≤ 20000; decide, fun x hx => ?_⟩
          rw [List.mem_singleton] at hx
          have hp0 : (parP (insP t).1)[0]? = some ((parP (insP t).1).getD 0 []) := by rw [List.getD_eq_getElem?_getD, List.getElem?_eq_getElem (by omega)]; rfl
          have h2 := hp _ (List.mem_of_getElem? hp0)
          have h3 := join_size ((parP (insP t).1).getD 0 [])
          rw [hx, oneRow, ByteArray.size_append, ByteArray.size_append, show bgB.size = 3 from rfl, show eoB.size = 3 from rfl]
          omega
        · refine ⟨?_, fun x hx => ?_⟩
          · show (rowsF (col - ind) true (parP (insP t).1) ++ [eoB]).length ≤ _
            have h1 := rowsF_len (col - ind) (parP (insP t).1) true
            rw [List.length_append, List.length_singleton]
            omega
          · rcases List.mem_append.1 hx with hx | hx
            · have := rowsF_size _ _ _ _ hp x hx
              omega
            · rw [List.mem_singleton] at hx
              rw [hx, show eoB.size = 3 from rfl]; omega
end Go.Proofs.YtnjmkeijjapejaaDoor
namespace Go.Proofs.YtnjmkeijjapejaaDoor
open Go.GV Go.RowKit
theorem fills_two {s : ByteArray} {ind col : Int} : ((fillsP s ind col).2 = 0 ∨ fillsP s ind col = ([], 2)) := by
  unfold fillsP
  split
  · exact .inr rfl
  · split
    · exact .inl rfl
    · split
      · exact .inl rfl
      · split
        · exact .inl rfl
        · exact .inl rfl
def spK (kp : Bool) (ind : Int) : Lx.Bs := if kp then [] else List.replicate ind.toNat 32
theorem spK_len (kp : Bool) {ind : Int} (h : ind ≤ 256) : (spK kp ind).length ≤ 256 := by
  unfold spK
  split
  · exact Nat.zero_le _
  · rw [List.length_replicate]; omega
set_option maxHeartbeats 2000000 in
set_option maxRecDepth 100000 in
theorem reflowBack_any (s : ByteArray) (ind col : Int) (w : World) (hg : Glob (im w)) : Calls Tryd.prog 6 #[.string s, .int .i64 ind, .int .i64 col] w (PureP w fun v _ => v = .bool true) := by
  refine x_fun tt_ok Tryd.func6 rfl rfl [] 0 [.v (.string s), .v (.int .i64 ind), .v (.int .i64 col)] rfl rfl rfl rfl (fun b hb => by cases hb) ?_
  refine x_vc tt_ok ?_
  refine xl_call0 (.bool true) rfl rfl rfl rfl fn11 rfl rfl (fun E w F hs => alive_any w (hg.imm hs.imm) ex_ok) ?_
  refine xl_go tt_ok ?_
  refine x_if (fun h => ?_) (fun h => ?_)
  · exact fin1 (fun _ _ => rfl)
  · have h : (decide ((5000 : Int) < s.size) || !true) = false := h
    have hs : s.size ≤ 5000 := by simp at h; omega
    have hS := small_of hs
    obtain ⟨hrn, hrz⟩ := back_rows (ind := ind) (col := col) hs
    refine xl_callO2 9 (strY.d (fillsP s ind col).1) [.int .i64 (fillsP s ind col).2] rfl rfl rfl rfl fn12 rfl rfl (fun E w F hs' => fills_any s ind col w (hg.imm hs'.imm) hS) ?_
    refine xl_go tt_ok ?_
    refine x_if (fun h2 => ?_) (fun h2 => ?_)
    · have h2 : decide ((fillsP s ind col).2 ≠ 0) = true := h2
      rcases fills_two (s := s) (ind := ind) (col := col) with h3 | h3
      · rw [h3] at h2; simp at h2
      · rw [h3]
        repeat (refine And.intro ?_ ?_; first | omega | (simp only [Lay.d_n]; omega) | (simp only [decide_eq_true_eq, decide_eq_false_iff_not, Bool.or_eq_false_iff, Bool.and_eq_true, Bool.or_eq_true, Bool.and_eq_false_iff, Bool.not_eq_true', Bool.not_eq_false', Lay.d_n]; omega) | (simp only [decide_eq_true_eq, decide_eq_false_iff_not, Bool.or_eq_false_iff, Bool.and_eq_true, Bool.or_eq_true, Bool.and_eq_false_iff, Bool.not_eq_true', Bool.not_eq_false']; omega) | (simp only [decide_eq_true_eq, decide_eq_false_iff_not, Bool.or_eq_false_iff]; simp only [Lay.d_n]; omega))
        exact fin1 (fun _ _ => rfl)
    · have h2 : decide ((fillsP s ind col).2 ≠ 0) = false := h2
      have h0 : (fillsP s ind col).2 = 0 := by simpa using h2
      obtain ⟨d1, d2, d3, d4, d5⟩ := fills_dom h0
      have e1 : (Value.tuple #[.bool ((insP s).2 && keptB (insP s).1), .int .i64 (if (insP s).2 then 0 else 2)]) = .tuple #[.bool (keptB (insP s).1), .int .i64 0] := by rw [d5]; rfl
      refine xl_call0 (.tuple #[.bool (keptB (insP s).1), .int .i64 0]) rfl rfl rfl rfl fn13 rfl rfl (fun E w F hs' => by
        have h9 := keptX_any s w (hg.imm hs'.imm) hS.size
        rw [e1] at h9
        exact h9) ?_
      refine xl_go tt_ok ?_
      have hsl := spK_len (keptB (insP s).1) d2
      have hbk : ∀ S : ByteArray, bl S = hdJ (spK (keptB (insP s).1) ind) ((fillsP s ind col).1.map bl) → (insP S).2 = true ∧ parP (insP S).1 = parP (insP s).1 ∧ fillsP S ind col = fillsP s ind col ∧ (keptB (insP s).1 = true → S = s) := by
        intro S hSb
        cases hk : keptB (insP s).1 with
        | false =>
          rw [hk] at hSb
          obtain ⟨a1, a2, a3⟩ := back_law h0 hk hSb
          exact ⟨a1, a2, a3, fun h => by cases h⟩
        | true =>
          rw [hk] at hSb
          have := back_kept h0 hk hSb
          subst this
          exact ⟨d5, rfl, rfl, fun _ => rfl⟩
      generalize keptB (insP s).1 = kp at hsl hbk ⊢
      have hfl : ∀ w, Glob (im w) → ∀ S : ByteArray, S.size ≤ 1000000000 → fillsP S ind col = fillsP s ind col → Calls Tryd.prog 12 #[.string S, .int .i64 ind, .int .i64 col] w (PureP w (OwnT 9 (strY.d (fillsP s ind col).1) [.int .i64 0])) := by
        intro w hg S hz he
        have := fills_any S ind col w hg (small_gen hz)
        rw [he, h0] at this
        exact this
      rw [h0]
      generalize (fillsP s ind col).1 = L at hrn hrz hbk hfl ⊢
      refine x_loop (σ := Nat × ByteArray) (fun (i, x) => ⟨[(13, .v (.int .i64 (i : Int))), (12, .v (.string x)), (0, .v (.string s)), (1, .v (.int .i64 ind)), (2, .v (.int .i64 col)), (7, .v (.bool true)), (8, .r 0), (10, .v (.bool kp))], [],
          [(0, .row 9 (strY.d L))], 1⟩)
        (fun (i, x) _ => i ≤ L.length ∧ bl x = hdJ (spK kp ind) ((L.take i).map bl)) (fun (i, _) => L.length - i) (fun _ => of_decide_eq_true rfl) (0, ⟨#[]⟩) [] (.of rfl rfl rfl rfl rfl rfl) ⟨Nat.zero_le _, rfl⟩ ?_
      rintro ⟨i, x⟩ u5 hu5 ⟨g1, g2⟩
      refine x_vc tt_ok ?_
      refine x_if (fun h6 => ?_) (fun h6 => ?_)
      · have h6 : (i : Int) < ((L.length : Nat) : Int) := of_decide_eq_true h6
        have hxz : x.size ≤ 700000000 := by
          have e1 := hdJ_size (spK kp ind) 30000 ((L.take i).map bl) (fun z hz => by
            rw [List.mem_map] at hz
            obtain ⟨y, hy, rfl⟩ := hz
            rw [bl_len]; exact hrz y (List.mem_of_mem_take hy))
          rw [← g2, bl_len, List.length_map, List.length_take] at e1
          have e2 : min i L.length * (30000 + 1 + (spK kp ind).length) ≤ 20000 * (30000 + 1 + 256) := Nat.mul_le_mul (by omega) (by omega)
          omega
        have hc1 : (⟨#[10]⟩ : ByteArray).size = 1 := rfl
        have hc2 : (⟨#[32]⟩ : ByteArray).size = 1 := rfl
        have hx1 : (x ++ ⟨#[10]⟩).size = x.size + 1 := by rw [ByteArray.size_append]; rfl
        refine x_if (fun h7 => ?_) (fun h7 => ?_)
        · have h7 : (0 : Int) < (i : Int) := of_decide_eq_true h7
          repeat (refine And.intro ?_ ?_; first | omega | (simp only [Lay.d_n]; omega) | (simp only [decide_eq_true_eq, decide_eq_false_iff_not, Bool.or_eq_false_iff, Bool.and_eq_true, Bool.or_eq_true, Bool.and_eq_false_iff, Bool.not_eq_true', Bool.not_eq_false', Lay.d_n]; omega) | (simp only [decide_eq_true_eq, decide_eq_false_iff_not, Bool.or_eq_false_iff, Bool.and_eq_true, Bool.or_eq_true, Bool.and_eq_false_iff, Bool.not_eq_true', Bool.not_eq_false']; omega) | (simp only [decide_eq_true_eq, decide_eq_false_iff_not, Bool.or_eq_false_iff]; simp only [Lay.d_n]; omega))
          have g3 : (x ++ ⟨#[10]⟩) = if i = 0 then x else x ++ ⟨#[10]⟩ := by rw [if_neg (by omega)]
          have hy0 : (x ++ ⟨#[10]⟩).size ≤ 700000001 := by omega
          refine x_loop (σ := Nat × ByteArray) (fun (k, z) => ⟨[(14, .v (.int .i64 (k : Int))), (13, .v (.int .i64 (i : Int))), (12, .v (.string z)), (0, .v (.string s)), (1, .v (.int .i64 ind)), (2, .v (.int .i64 col)), (7, .v (.bool true)), (8, .r 0), (10, .v (.bool kp))], [],
              [(0, .row 9 (strY.d L))], 1⟩)
            (fun (k, z) _ => k ≤ ind.toNat ∧ (0 < k → 0 < i ∧ kp = false) ∧ bl z = bl (x ++ ⟨#[10]⟩) ++ List.replicate k 32) (fun (k, _) => ind.toNat - k) (fun _ => of_decide_eq_true rfl) (0, x ++ ⟨#[10]⟩) [] (.of rfl rfl rfl rfl rfl rfl) ⟨Nat.zero_le _, fun h => by omega, by simp⟩ ?_
          rintro ⟨k, z⟩ u7 hu7 ⟨k1, k2, k3⟩
          have hzz : z.size ≤ 700000300 := by
            have e1 := congrArg List.length k3
            rw [List.length_append, bl_len, bl_len, List.length_replicate] at e1
            omega
          refine x_vc tt_ok ?_
          repeat (refine And.intro ?_ ?_; first | omega | (simp only [Lay.d_n]; omega) | (simp only [decide_eq_true_eq, decide_eq_false_iff_not, Bool.or_eq_false_iff, Bool.and_eq_true, Bool.or_eq_true, Bool.and_eq_false_iff, Bool.not_eq_true', Bool.not_eq_false', Lay.d_n]; omega) | (simp only [decide_eq_true_eq, decide_eq_false_iff_not, Bool.or_eq_false_iff, Bool.and_eq_true, Bool.or_eq_true, Bool.and_eq_false_iff, Bool.not_eq_true', Bool.not_eq_false']; omega) | (simp only [decide_eq_true_eq, decide_eq_false_iff_not, Bool.or_eq_false_iff]; simp only [Lay.d_n]; omega))
          refine x_if (fun h8 => ?_) (fun h8 => ?_)
          · have h8 : ((decide ((k : Int) < ind) && decide ((0 : Int) < (i : Int))) && !kp) = true := h8
            simp only [Bool.and_eq_true, decide_eq_true_eq, Bool.not_eq_true'] at h8
            obtain ⟨⟨h9, h10⟩, h11⟩ := h8
            repeat (refine And.intro ?_ ?_; first | omega | (simp only [Lay.d_n]; omega) | (simp only [decide_eq_true_eq, decide_eq_false_iff_not, Bool.or_eq_false_iff, Bool.and_eq_true, Bool.or_eq_true, Bool.and_eq_false_iff, Bool.not_eq_true', Bool.not_eq_false', Lay.d_n]; omega) | (simp only [decide_eq_true_eq, decide_eq_false_iff_not, Bool.or_eq_false_iff, Bool.and_eq_true, Bool.or_eq_true, Bool.and_eq_false_iff, Bool.not_eq_true', Bool.not_eq_false']; omega) | (simp only [decide_eq_true_eq, decide_eq_false_iff_not, Bool.or_eq_false_iff]; simp only [Lay.d_n]; omega))
            exact again (k + 1, z ++ ⟨#[32]⟩) [] (.of rfl rfl rfl rfl rfl rfl) ⟨by omega, fun _ => ⟨by omega, h11⟩, by
              rw [bl_append, k3, List.append_assoc, List.replicate_succ']; rfl⟩ (by show ind.toNat - (k + 1) < ind.toNat - k; omega)
          · have h8 : ((decide ((k : Int) < ind) && decide ((0 : Int) < (i : Int))) && !kp) = false := h8
            obtain ⟨y, hy⟩ : ∃ y, L[i]? = some y := ⟨_, List.getElem?_eq_getElem (by omega)⟩
            have hyd : L.getD ((i : Nat) : Int).toNat strY.dft = y := by rw [Int.toNat_natCast]; exact getD_ofP hy
            have hys : (L.getD ((i : Nat) : Int).toNat strY.dft).size ≤ 30000 := by rw [hyd]; exact hrz y (List.mem_of_getElem? hy)
            have hfin : bl (z ++ L.getD ((i : Nat) : Int).toNat strY.dft) = hdJ (spK kp ind) ((L.take (i + 1)).map bl) := by
              rw [bl_append, hyd, take_get hy, List.map_append, List.map_cons, List.map_nil, k3, g3]
              by_cases hi0 : i = 0
              · subst hi0
                have hk0 : k = 0 := by
                  rcases Nat.eq_zero_or_pos k with hk | hk
                  · exact hk
                  · exact absurd (k2 hk).1 (by decide)
                subst hk0
                rw [if_pos rfl, g2]
                simp [hdJ, jB]
              · have hne : (L.take i).map bl ≠ [] := fun hh => by
                  have e0 := congrArg List.length hh
                  rw [List.length_map, List.length_take, List.length_nil] at e0
                  omega
                have hsp : List.replicate k 32 = spK kp ind := by
                  cases hk : kp with
                  | true =>
                    have hk0 : k = 0 := by
                      rcases Nat.eq_zero_or_pos k with hk' | hk'
                      · exact hk'
                      · exact absurd (hk ▸ (k2 hk').2) (by decide)
                    rw [hk0]; rfl
                  | false =>
                    rw [hk] at h8
                    have h12 : ¬ (k : Int) < ind := fun h12 => by
                      rw [decide_eq_true h12, decide_eq_true (show (0 : Int) < (i : Int) by omega)] at h8
                      exact absurd h8 (by decide)
                    rw [show k = ind.toNat by omega]; rfl
                rw [hdJ_snoc _ hne, if_neg hi0, bl_append, g2, hsp]
                simp only [List.append_assoc]
                rfl
            repeat (refine And.intro ?_ ?_; first | omega | (simp only [Lay.d_n]; omega) | (simp only [decide_eq_true_eq, decide_eq_false_iff_not, Bool.or_eq_false_iff, Bool.and_eq_true, Bool.or_eq_true, Bool.and_eq_false_iff, Bool.not_eq_true', Bool.not_eq_false', Lay.d_n]; omega) | (simp only [decide_eq_true_eq, decide_eq_false_iff_not, Bool.or_eq_false_iff, Bool.and_eq_true, Bool.or_eq_true, Bool.and_eq_false_iff, Bool.not_eq_true', Bool.not_eq_false']; omega) | (simp only [decide_eq_true_eq, decide_eq_false_iff_not, Bool.or_eq_false_iff]; simp only [Lay.d_n]; omega))
            exact again (i + 1, z ++ L.getD ((i : Nat) : Int).toNat strY.dft) [] (.of rfl rfl rfl rfl rfl rfl) ⟨by omega, hfin⟩ (by show L.length - (i + 1) < L.length - i; omega)
        · have h7 : ¬ (0 : Int) < (i : Int) := of_decide_eq_false h7
          have g3 : x = if i = 0 then x else x ++ ⟨#[10]⟩ := by rw [if_pos (by omega)]
          have hy0 : (x).size ≤ 700000001 := by omega
          refine x_loop (σ := Nat × ByteArray) (fun (k, z) => ⟨[(14, .v (.int .i64 (k : Int))), (13, .v (.int .i64 (i : Int))), (12, .v (.string z)), (0, .v (.string s)), (1, .v (.int .i64 ind)), (2, .v (.int .i64 col)), (7, .v (.bool true)), (8, .r 0), (10, .v (.bool kp))], [],
              [(0, .row 9 (strY.d L))], 1⟩)
            (fun (k, z) _ => k ≤ ind.toNat ∧ (0 < k → 0 < i ∧ kp = false) ∧ bl z = bl (x) ++ List.replicate k 32) (fun (k, _) => ind.toNat - k) (fun _ => of_decide_eq_true rfl) (0, x) [] (.of rfl rfl rfl rfl rfl rfl) ⟨Nat.zero_le _, fun h => by omega, by simp⟩ ?_
          rintro ⟨k, z⟩ u7 hu7 ⟨k1, k2, k3⟩
          have hzz : z.size ≤ 700000300 := by
            have e1 := congrArg List.length k3
            rw [List.length_append, bl_len, bl_len, List.length_replicate] at e1
            omega
          refine x_vc tt_ok ?_
          repeat (refine And.intro ?_ ?_; first | omega | (simp only [Lay.d_n]; omega) | (simp only [decide_eq_true_eq, decide_eq_false_iff_not, Bool.or_eq_false_iff, Bool.and_eq_true, Bool.or_eq_true, Bool.and_eq_false_iff, Bool.not_eq_true', Bool.not_eq_false', Lay.d_n]; omega) | (simp only [decide_eq_true_eq, decide_eq_false_iff_not, Bool.or_eq_false_iff, Bool.and_eq_true, Bool.or_eq_true, Bool.and_eq_false_iff, Bool.not_eq_true', Bool.not_eq_false']; omega) | (simp only [decide_eq_true_eq, decide_eq_false_iff_not, Bool.or_eq_false_iff]; simp only [Lay.d_n]; omega))
          refine x_if (fun h8 => ?_) (fun h8 => ?_)
          · have h8 : ((decide ((k : Int) < ind) && decide ((0 : Int) < (i : Int))) && !kp) = true := h8
            simp only [Bool.and_eq_true, decide_eq_true_eq, Bool.not_eq_true'] at h8
            obtain ⟨⟨h9, h10⟩, h11⟩ := h8
            repeat (refine And.intro ?_ ?_; first | omega | (simp only [Lay.d_n]; omega) | (simp only [decide_eq_true_eq, decide_eq_false_iff_not, Bool.or_eq_false_iff, Bool.and_eq_true, Bool.or_eq_true, Bool.and_eq_false_iff, Bool.not_eq_true', Bool.not_eq_false', Lay.d_n]; omega) | (simp only [decide_eq_true_eq, decide_eq_false_iff_not, Bool.or_eq_false_iff, Bool.and_eq_true, Bool.or_eq_true, Bool.and_eq_false_iff, Bool.not_eq_true', Bool.not_eq_false']; omega) | (simp only [decide_eq_true_eq, decide_eq_false_iff_not, Bool.or_eq_false_iff]; simp only [Lay.d_n]; omega))
            exact again (k + 1, z ++ ⟨#[32]⟩) [] (.of rfl rfl rfl rfl rfl rfl) ⟨by omega, fun _ => ⟨by omega, h11⟩, by
              rw [bl_append, k3, List.append_assoc, List.replicate_succ']; rfl⟩ (by show ind.toNat - (k + 1) < ind.toNat - k; omega)
          · have h8 : ((decide ((k : Int) < ind) && decide ((0 : Int) < (i : Int))) && !kp) = false := h8
            obtain ⟨y, hy⟩ : ∃ y, L[i]? = some y := ⟨_, List.getElem?_eq_getElem (by omega)⟩
            have hyd : L.getD ((i : Nat) : Int).toNat strY.dft = y := by rw [Int.toNat_natCast]; exact getD_ofP hy
            have hys : (L.getD ((i : Nat) : Int).toNat strY.dft).size ≤ 30000 := by rw [hyd]; exact hrz y (List.mem_of_getElem? hy)
            have hfin : bl (z ++ L.getD ((i : Nat) : Int).toNat strY.dft) = hdJ (spK kp ind) ((L.take (i + 1)).map bl) := by
              rw [bl_append, hyd, take_get hy, List.map_append, List.map_cons, List.map_nil, k3, g3]
              by_cases hi0 : i = 0
              · subst hi0
                have hk0 : k = 0 := by
                  rcases Nat.eq_zero_or_pos k with hk | hk
                  · exact hk
                  · exact absurd (k2 hk).1 (by decide)
                subst hk0
                rw [if_pos rfl, g2]
                simp [hdJ, jB]
              · have hne : (L.take i).map bl ≠ [] := fun hh => by
                  have e0 := congrArg List.length hh
                  rw [List.length_map, List.length_take, List.length_nil] at e0
                  omega
                have hsp : List.replicate k 32 = spK kp ind := by
                  cases hk : kp with
                  | true =>
                    have hk0 : k = 0 := by
                      rcases Nat.eq_zero_or_pos k with hk' | hk'
                      · exact hk'
                      · exact absurd (hk ▸ (k2 hk').2) (by decide)
                    rw [hk0]; rfl
                  | false =>
                    rw [hk] at h8
                    have h12 : ¬ (k : Int) < ind := fun h12 => by
                      rw [decide_eq_true h12, decide_eq_true (show (0 : Int) < (i : Int) by omega)] at h8
                      exact absurd h8 (by decide)
                    rw [show k = ind.toNat by omega]; rfl
                rw [hdJ_snoc _ hne, if_neg hi0, bl_append, g2, hsp]
                simp only [List.append_assoc]
                rfl
            repeat (refine And.intro ?_ ?_; first | omega | (simp only [Lay.d_n]; omega) | (simp only [decide_eq_true_eq, decide_eq_false_iff_not, Bool.or_eq_false_iff, Bool.and_eq_true, Bool.or_eq_true, Bool.and_eq_false_iff, Bool.not_eq_true', Bool.not_eq_false', Lay.d_n]; omega) | (simp only [decide_eq_true_eq, decide_eq_false_iff_not, Bool.or_eq_false_iff, Bool.and_eq_true, Bool.or_eq_true, Bool.and_eq_false_iff, Bool.not_eq_true', Bool.not_eq_false']; omega) | (simp only [decide_eq_true_eq, decide_eq_false_iff_not, Bool.or_eq_false_iff]; simp only [Lay.d_n]; omega))
            exact again (i + 1, z ++ L.getD ((i : Nat) : Int).toNat strY.dft) [] (.of rfl rfl rfl rfl rfl rfl) ⟨by omega, hfin⟩ (by show L.length - (i + 1) < L.length - i; omega)
      · have h6 : ¬ (i : Int) < ((L.length : Nat) : Int) := of_decide_eq_false h6
        have hg5 : Glob u5 := hg.sub hu5.sub
        have hxe : bl x = hdJ (spK kp ind) (L.map bl) := by rw [g2, List.take_of_length_le (by omega)]
        obtain ⟨b1, b2, b3, b4⟩ := hbk x hxe
        have hxz : x.size ≤ 700000000 := by
          have e1 := hdJ_size (spK kp ind) 30000 (L.map bl) (fun z hz => by
            rw [List.mem_map] at hz
            obtain ⟨y, hy, rfl⟩ := hz
            rw [bl_len]; exact hrz y hy)
          rw [← hxe, bl_len, List.length_map] at e1
          have e2 : L.length * (30000 + 1 + (spK kp ind).length) ≤ 20000 * (30000 + 1 + 256) := Nat.mul_le_mul (by omega) (by omega)
          omega
        have hW : ∀ w, Glob (im w) → Calls Tryd.prog 16 #[.string s] w (PureP w (StarR (fun t : Option Addr × Nat × List SlV => .tuple #[.slice t.1 (parP (insP s).1).length t.2.1, .int .i64 0]) (fun t => itemsP t.2.2 (parP (insP s).1) ++ [(⟨.slice t.1 (parP (insP s).1).length t.2.1, 23, slY.d t.2.2⟩ : SI)]) (fun t => t.2.2.length = (parP (insP s).1).length))) := fun w hg => words_good s w hg hS d5
        have hW2 : ∀ w, Glob (im w) → Calls Tryd.prog 16 #[.string x] w (PureP w (StarR (fun t : Option Addr × Nat × List SlV => .tuple #[.slice t.1 (parP (insP s).1).length t.2.1, .int .i64 0]) (fun t => itemsP t.2.2 (parP (insP s).1) ++ [(⟨.slice t.1 (parP (insP s).1).length t.2.1, 23, slY.d t.2.2⟩ : SI)]) (fun t => t.2.2.length = (parP (insP s).1).length))) := fun w hg => by
          have h9 := words_good x w hg (small_gen (by omega)) b1
          rw [b2] at h9
          exact h9
        have hnum2 : (parP (insP s).1).length ≤ 100000000000 := by have := hS.num; omega
        generalize parP (insP s).1 = R at hW hW2 hnum2
        refine xl_callStar (σ := Option Addr × Nat × List SlV) (fun t => .tuple #[.slice t.1 R.length t.2.1, .int .i64 0]) (fun t => itemsP t.2.2 R ++ [(⟨.slice t.1 R.length t.2.1, 23, slY.d t.2.2⟩ : SI)]) (fun t => t.2.2.length = R.length) rfl rfl rfl rfl fn16 rfl rfl (fun E w F hs' => hW w (hg5.imm hs'.imm)) (fun ⟨A, c, V⟩ hV => ?_)
        have hV : V.length = R.length := hV
        refine xl_go tt_ok ?_
        refine xl_callStar (σ := Option Addr × Nat × List SlV) (fun t => .tuple #[.slice t.1 R.length t.2.1, .int .i64 0]) (fun t => itemsP t.2.2 R ++ [(⟨.slice t.1 R.length t.2.1, 23, slY.d t.2.2⟩ : SI)]) (fun t => t.2.2.length = R.length) rfl rfl rfl rfl fn16 rfl rfl (fun E w F hs' => hW2 w (hg5.imm hs'.imm)) (fun ⟨A2, c2, V2⟩ hV2 => ?_)
        have hV2 : V2.length = R.length := hV2
        refine xl_go tt_ok ?_
        refine xl_callO2 9 (strY.d L) [.int .i64 0] rfl rfl rfl rfl fn12 rfl rfl (fun E w F hs' => hfl w (hg5.imm hs'.imm) x (by omega) b3) ?_
        refine xl_go tt_ok ?_
        refine xl_gcall0 (.bool true) rfl rfl rfl rfl fn22 rfl rfl (fun _ E w F hs' => by
          have h9 := same_any R R (.slice A R.length c) (.slice A2 R.length c2) w (parAt_star hs' (k := 1) rfl hV) (parAt_star hs' (k := 2) rfl hV2)
          rw [decide_eq_true rfl] at h9
          exact h9) ?_
        refine xl_go tt_ok ?_
        refine xl_gcall0 (.bool true) rfl rfl rfl rfl fn18 rfl rfl (fun _ E w F hs' => by
          have h9 := sameTexts_any L L _ _ w (hs'.rowAt (k := 0) rfl) (hs'.rowAt (k := 3) rfl)
          rw [decide_eq_true rfl] at h9
          exact h9) ?_
        refine xl_go tt_ok ?_
        exact fin1 (fun _ _ => by
          have e : (!kp || decide (x = s)) = true := by
            cases hk : kp with
            | false => rfl
            | true => rw [decide_eq_true (b4 hk)]; rfl
          show Value.bool (true && (!kp || decide (x = s))) = _
          rw [e]; rfl)
end Go.Proofs.YtnjmkeijjapejaaDoor
namespace Go.Proofs.YtnjmkeijjapejaaDoor
open Go.ChangeShapes Go.WideShapes Go.ChangeAt Go.RowKit Go.GV
theorem returnsInHanded_and_shapedR {H : Type} {enc : TypeId × Value → H} {a : Assume} {C : Checked} {os : Os} {f : FuncId} {fn : Func} {s : ChangeSpec} {conds : List PathCond} {apart fresh handsOn again : Bool} {X : World → Array Value → Prop}
    (hX : ∀ (w w' : World) (args : Array Value), w.heap = w'.heap → X w args → X w' args)
    (own : ownKnob C.prog.godebug = none) (started : os.Started) (noInit : C.prog.inits.idxOf? f = none) (hfn : C.prog.funcs[f]? = some fn)
    (witness : ∃ (w : World) (tape : Tape) (i : Input), w.os = os ∧ (w.forCall tape i).Shaped C.prog ∧ i.vars = [] ∧ Input.okWide C.prog (w.forCall tape i) .any w.heap.size f i ∧
      ((s.pre enc C.prog fn conds apart (w.forCall tape i).memory i.args ∧ X (w.forCall tape i).memory i.args) ∧ sizedMet enc C.prog fn (OpenSpec.ofChange s) apart (w.forCall tape i).memory i.args) ∧ a.holds C.prog (lone (Frame.enter C.prog f i.args .normal) [] (w.forCall tape i)))
    (contract : ∀ (W : World) (base : Nat) (args : Array Value) (ds gs : List (DataW H)) (before : List MemPlace),
      (∀ (j : Nat) t v, fn.params[j]? = some t → args[j]? = some v → Value.okWide C.prog W .any base t v) →
      DataW.Whole enc C.prog fn.params.toList s.vars apart W args.toList ds gs before →
      conds.all (PathCond.test C.prog ⟨fn.params.toList, ds, s.plain.varTypes C.prog, gs⟩) = true →
      (DataW.weightsEach C.prog (fn.params.toList ++ s.plain.varTypes C.prog) (ds ++ gs)).all (· ≤ reachBytes) = true → X W args → W.ShapedOpen C.prog →
      a.holds C.prog (lone (Frame.enter C.prog f args .normal) [] W) →
      Calls C.prog f args W fun e W' => ∃ v, e = .returned v ∧ s.post enc C.prog fn apart fresh handsOn again W args v W') :
    ReturnsInHanded a C os f .any (fun w args => (s.pre enc C.prog fn conds apart w args ∧ X w args) ∧ sizedMet enc C.prog fn (OpenSpec.ofChange s) apart w args) (s.post enc C.prog fn apart fresh handsOn again) := by
  refine returnsInHanded_of_calls own started noInit witness ?_
  intro w tape i _ hsh _ hok hpre hholds
  obtain ⟨_, _, _, fn', hfn', _, _, _, _, hval⟩ := hok
  have e : fn' = fn := Option.some.inj (hfn'.symm.trans hfn)
  subst e
  obtain ⟨⟨⟨ds, gs, before, hw, hc⟩, hx⟩, hz⟩ := hpre
  have hw' := DataW.Whole.of_heap (w' := w.forCall tape i) (by rfl) hw
  refine (contract (w.forCall tape i) w.heap.size i.args ds gs before hval hw' hc (hz.weights hw) (hX _ _ _ (by rfl) hx) hsh hholds).mono fun e W' ⟨v, he, hp⟩ => ?_
  subst he
  exact ChangeSpec.post_blind hp
def lstR : List (String × DataW Unit) := [("unicode/utf8.acceptRanges", Rows.laid_unicode_utf8_acceptRanges), ("unicode/utf8.first", Rows.laid_unicode_utf8_first)]
theorem lstRB (os : Os) : (World.laidAll Tryd.prog os lstR).os = os := World.laidAll_os _ _ _
theorem metR (os : Os) (args : Array Value) : laidMetH Tryd.prog lstR ((World.laidAll Tryd.prog os lstR).forCall (fun _ _ => 0) ⟨#[], args, []⟩).memory := by
  rw [MakeChecks.laidMetH_plain _ _ _ (by kernel_rfl)]
  exact laidMet_laidAll args (by kernel_rfl) (by kernel_rfl)
end Go.Proofs.YtnjmkeijjapejaaDoor
namespace Go.Proofs.YtnjmkeijjapejaaDoor
open Go.ChangeShapes Go.WideShapes Go.ChangeAt Go.RowKit Go.GV
theorem own : ownKnob Tryd.prog.godebug = none := by kernel_rfl
theorem laidOut : laidOutB Tryd.prog = true := by kernel_rfl
theorem fMaps : mapsRowed Tryd.prog = true := by kernel_rfl
theorem fHeard : Tryd.prog.stopsHeard = true := by kernel_rfl
theorem fEnter : Tryd.prog.mayEnter = true := by kernel_rfl
theorem fLifts : (Rows.condNamesRow.lifted == Tryd.prog.liftsFinal) = true := by kernel_rfl
theorem fMake : (Tryd.prog.make == some Rows.condNamesRow.make) = true := by kernel_rfl
theorem jmk {a0 a1 a2 a3 a4 a5 a6 a7 a8 a9 a10 a11 a12 a13 a14 a15 a16 a17 a18 a19 a20 a21 a22 a23 a24 a25 a26 a27 a28 a29 a30 a31 : Bool} (h0 : a0 = true) (h1 : a1 = true) (h2 : a2 = true) (h3 : a3 = true) (h4 : a4 = true) (h5 : a5 = true) (h6 : a6 = true) (h7 : a7 = true) (h8 : a8 = true) (h9 : a9 = true) (h10 : a10 = true) (h11 : a11 = true) (h12 : a12 = true) (h13 : a13 = true) (h14 : a14 = true) (h15 : a15 = true) (h16 : a16 = true) (h17 : a17 = true) (h18 : a18 = true) (h19 : a19 = true) (h20 : a20 = true) (h21 : a21 = true) (h22 : a22 = true) (h23 : a23 = true) (h24 : a24 = true) (h25 : a25 = true) (h26 : a26 = true) (h27 : a27 = true) (h28 : a28 = true) (h29 : a29 = true) (h30 : a30 = true) (h31 : a31 = true) :
    (a0 && a1 && a2 && a3 && a4 && a5 && a6 && a7 && a8 && a9 && a10 && a11 && a12 && a13 && a14 && a15 && a16 && a17 && a18 && a19 && a20 && a21 && a22 && a23 && a24 && a25 && a26 && a27 && a28 && a29 && a30 && a31) = true := by simp only [h0, h1, h2, h3, h4, h5, h6, h7, h8, h9, h10, h11, h12, h13, h14, h15, h16, h17, h18, h19, h20, h21, h22, h23, h24, h25, h26, h27, h28, h29, h30, h31, Bool.and_self]
end Go.Proofs.YtnjmkeijjapejaaDoor
namespace Go.Proofs.YtnjmkeijjapejaaDoor
open Go.ChangeShapes Go.WideShapes Go.ChangeAt Go.RowKit Go.GV
set_option maxRecDepth 100000 in
theorem liftedReflowBack (os : Os) (started : os.Started) (H : Type) (enc : TypeId × Value → H) :
    ReturnsInHanded {} Tryd.checked os 6 .any (fun w args => (Rows.reflowBackSpec.pre enc Tryd.prog Tryd.f6 [] false w args ∧ laidMetH Tryd.prog lstR w) ∧ sizedMet enc Tryd.prog Tryd.f6 (OpenSpec.ofChange Rows.reflowBackSpec) false w args)
      (Rows.reflowBackSpec.post enc Tryd.prog Tryd.f6 false true false false) := by
  refine returnsInHanded_and_shapedR (C := Tryd.checked) (X := fun w _ => laidMetH Tryd.prog lstR w) (fun _ _ _ hh h => h.of_heap hh) own started (by kernel_rfl) Tryd.func6
    (ChangeSpec.witness_at (enc := enc) (C := Tryd.checked) (os := os) (X := fun w _ => laidMetH Tryd.prog lstR w) false (World.laidAll Tryd.prog os lstR) #[.string ⟨#[]⟩, .int .i64 0, .int .i64 0] 8 (lstRB os) (by kernel_rfl) (by kernel_rfl) (by kernel_rfl) (by kernel_rfl) (by kernel_rfl) (metR os _)) ?_
  intro W base args ds gs before hval0 hW hcnd hz hL hsh _
  have hval : ∀ (j : Nat) t v, Tryd.f6.params[j]? = some t → args[j]? = some v → Value.okWide Tryd.prog W .any base t v := hval0
  have hW' := hW
  obtain ⟨p, q, hA0, hV, rfl, hfz, hnd⟩ := hW
  have hA : DataW.TrodAll enc Tryd.prog W 0 (fun _ => true) true Tryd.f6.params.toList args.toList ds p := hA0
  rw [Tryd.params6] at hA hval hz
  obtain ⟨v0, vs0, d0, ds0, p0, q0, hargs, rfl, rfl, h0, r0⟩ := trodAll_cons hA
  obtain ⟨v1, vs1, d1, ds1, p1, q1, rfl, rfl, rfl, h1, r1⟩ := trodAll_cons r0
  obtain ⟨v2, vs2, d2, ds2, p2, q2, rfl, rfl, rfl, h2, r2⟩ := trodAll_cons r1
  obtain ⟨rfl, rfl, rfl⟩ := trodAll_nil r2
  obtain rfl : args = #[v0, v1, v2] := by cases args; simp_all
  obtain ⟨rfl, rfl⟩ := trodVars_none hV
  obtain ⟨x0, rfl⟩ := okWide_string Tryd.underlying9 (hval 0 9 v0 rfl rfl)
  obtain ⟨x1, rfl⟩ := okWide_int Tryd.underlying3 (hval 1 3 v1 rfl rfl)
  obtain ⟨x2, rfl⟩ := okWide_int Tryd.underlying3 (hval 2 3 v2 rfl rfl)
  have lt0 : ∀ x ∈ p0, x.block < W.heap.size := by obtain ⟨m, hm⟩ := h0; exact DataW.trod_lt m _ _ _ hm
  have lt1 : ∀ x ∈ p1, x.block < W.heap.size := by obtain ⟨m, hm⟩ := h1; exact DataW.trod_lt m _ _ _ hm
  have lt2 : ∀ x ∈ p2, x.block < W.heap.size := by obtain ⟨m, hm⟩ := h2; exact DataW.trod_lt m _ _ _ hm
  have hg : Glob (im W) := Tryd.laysM143.s1_3 W hsh
  clear hA0 hval0
  refine (reflowBack_any x0 x1 x2 W hg).mono fun e W' ⟨v, he, bel, hv⟩ => ?_
  subst he hv
  exact ⟨_, rfl, _, _, _, [], _, [], hW', trodAll_mk1 (shut_bool Tryd.underlying4 _), (trodAll_cons_mk (Below.trod laidOut (by kernel_rfl) (of_decide_eq_true (by kernel_rfl)) h0 bel lt0) (trodAll_cons_mk (Below.trod laidOut (by kernel_rfl) (of_decide_eq_true (by kernel_rfl)) h1 bel lt1) (trodAll_cons_mk (Below.trod laidOut (by kernel_rfl) (of_decide_eq_true (by kernel_rfl)) h2 bel lt2) trodAll_mk0))), rfl, bel.frame _, fun h => by cases h⟩
theorem c96 : (Rows.reflowBackRow.inPlace == Tryd.prog.inPlace 6) = true := by kernel_rfl
theorem c106 : (Rows.reflowBackRow.unfollowed == Tryd.prog.unfollowed 6) = true := by kernel_rfl
theorem c116 : (Rows.reflowBackRow.recurses == Tryd.prog.recurses 6) = true := by kernel_rfl
theorem c126 : (Rows.reflowBackRow.named == Tryd.prog.varsNamed 6) = true := by kernel_rfl
theorem closed6 : joinedFacts Tryd.prog 6 Tryd.f6 Rows.reflowBackSpec Rows.reflowBackRow = true :=
  jmk (by kernel_rfl) laidOut fMaps (by kernel_rfl) (by kernel_rfl) (by kernel_rfl) (by kernel_rfl) (by kernel_rfl) (by kernel_rfl) c96 c106 c116 c126 (by kernel_rfl) (by kernel_rfl) (by kernel_rfl) (by kernel_rfl) (by kernel_rfl) (by kernel_rfl) (by kernel_rfl) (by kernel_rfl) (by kernel_rfl) (by kernel_rfl) (by kernel_rfl) fHeard fEnter fLifts fMake (by kernel_rfl) (by kernel_rfl) (by kernel_rfl) (by kernel_rfl)
theorem named6 : Tryd.prog.funcNamed Rows.reflowBackRow.func = some 6 := by kernel_rfl
theorem inst6 : Tryd.f6.isInstance Tryd.prog Rows.reflowBackRow.origin Rows.reflowBackRow.targs := of_decide_eq_true (by kernel_rfl)
theorem wrap6 : Tryd.f6.isWrapper Tryd.prog Rows.reflowBackRow.wrapper Rows.reflowBackRow.mainSum := by unfold Func.isWrapper; first | (rw [if_pos (by decide +kernel)]; kernel_rfl) | (rw [if_neg (by decide +kernel)]; exact ⟨rfl, rfl⟩)
theorem over6 : Rows.reflowBackRow.holds Tryd.pinned (OpenSpec.ofChange Rows.reflowBackSpec) :=
  OpenClaim.holds_of_wide 6 Tryd.f6 rfl rfl rfl rfl rfl rfl rfl ⟨rfl, rfl, rfl, rfl, rfl⟩ rfl rfl rfl rfl rfl named6 Tryd.func6 closed6 inst6 wrap6
    (fun os started H enc _ => liftedReflowBack os started H enc)
theorem reflowBack_card : Rows.ReflowBackCardSaid :=
  Claim7.holds_tied_plain_at .later [] [.data, .pinned] true (true, "d2dc3549195bd91c3a6331492cf9cdda0f904da0e8c74265c77afa656643e87b") false
    over6 (fun _ h => by cases h) (by kernel_rfl) (fun _ h => by cases h) reflowBack_row_tie rfl ⟨rfl, rfl⟩ (by kernel_rfl) rfl
    (fun f fn hf hfn => by
      obtain rfl : f = 6 := Option.some.inj (named6.symm.trans hf) |>.symm
      obtain rfl : fn = Tryd.f6 := (Option.some.inj (Tryd.func6.symm.trans hfn)).symm
      exact ⟨by kernel_rfl, fun j t ht => by
        rw [Tryd.params6] at ht
        have hm := Array.mem_of_getElem? ht
        simp at hm
        rcases hm with rfl | rfl
        · exact (show Tryd.prog.wantsStandIn 9 = false by kernel_rfl)
        · exact (show Tryd.prog.wantsStandIn 3 = false by kernel_rfl)⟩)
    (by kernel_rfl)
#print axioms reflowBack_card
end Go.Proofs.YtnjmkeijjapejaaDoor
