/- The statement of MacroTexts, out of its walk: for any input the law answers true, and the input stays. -/
import Derived.Test.YtnjmkeijjapejaaGreatZA5
import Derived.Test.YtnjmkeijjapejaaGreatRows
import Derived.ProofKit
import Derived.OpenShut
import Derived.ShutString
import Derived.ChangeOld
import Derived.Below
import Derived.SizedLaws
import Derived.HandedShaped
set_option linter.unusedSimpArgs false
set_option linter.unusedVariables false
namespace Go.Proofs.YtnjmkeijjapejaaGreat
open Go.GV Go.RowKit
def sameK (a b : PV) : Prop := a.kind = b.kind ∧ a.text = b.text ∧ a.space = b.space
def itemsP (T : List (List ByteArray)) : Nat → List PV → List SI
  | _, [] => []
  | j, b :: B => ⟨b.prt, 9, strY.d (T.getD j [])⟩ :: itemsP T (j + 1) B
theorem itemsP_push (T : List (List ByteArray)) (b : PV) : ∀ (B : List PV) (j : Nat), itemsP T j (B ++ [b]) = itemsP T j B ++ [⟨b.prt, 9, strY.d (T.getD (j + B.length) [])⟩]
  | [], j => rfl
  | x :: B, j => by
    rw [List.cons_append, itemsP, itemsP, itemsP_push T b B (j + 1), List.length_cons, show j + 1 + B.length = j + (B.length + 1) by omega]
    rfl
theorem itemsP_mem (T : List (List ByteArray)) : ∀ (B : List PV) (j i : Nat), i < B.length → (⟨(B.getD i pv0).prt, 9, strY.d (T.getD (j + i) [])⟩ : SI) ∈ itemsP T j B
  | [], j, i, h => absurd h (Nat.not_lt_zero _)
  | x :: B, j, 0, h => List.mem_cons_self ..
  | x :: B, j, i + 1, h => by
    have := itemsP_mem T B (j + 1) i (by simpa using h)
    rw [show j + 1 + i = j + (i + 1) by omega] at this
    exact List.mem_cons_of_mem _ this
def twG (L : List PV) (s : Option Addr × Nat × List PV) : Prop := s.2.2.length = L.length ∧ ∀ j, j < L.length → sameK (s.2.2.getD j pv0) (L.getD j pv0)
def TwR (L : List PV) (T : List (List ByteArray)) : Value → Im → Prop :=
  StarR (fun s : Option Addr × Nat × List PV => .slice s.1 L.length s.2.1) (fun s => itemsP T 0 s.2.2 ++ [⟨.slice s.1 L.length s.2.1, 35, pvY.d s.2.2⟩]) (twG L)
set_option maxHeartbeats 2000000 in
set_option maxRecDepth 100000 in
theorem twinToks_any (L : List PV) (T : List (List ByteArray)) (A : Option Addr) (c : Nat) (w : World) (hx : SlAt (im w) (.slice A L.length c) (pvY.d L)) (hp : PartsAt (im w) L T) (hL : L.length * 56 ≤ 140737488355328)
    (hT : ∀ j, (T.getD j []).length * 16 ≤ 140737488355328) : Calls Tryz.prog 10 #[.slice A L.length c] w (PureP w (TwR L T)) := by
  refine x_fun tt_ok Tryz.func10 rfl rfl [(.slice A L.length c, pvY.d L)] 1 [.r 0] rfl rfl rfl rfl (fun b hb => by simp at hb; subst hb; exact hx) ?_
  refine x_vc tt_ok ?_
  refine x_nil 3 35 pvY rfl ?_
  refine x_star0 0 ?_
  refine x_loop (σ := Int × List PV) (fun (i, B) => ⟨[(4, .v (.int .i64 i)), (3, .r 3), (0, .r 0)], [], [(3, .row 35 (pvY.d B)), (2, .gen (starHp (itemsP T 0 B))), (0, .sl (pvY.d L))], 4⟩)
    (fun (i, B) u => 0 ≤ i ∧ i ≤ L.length ∧ (B.length : Int) = i ∧ (∀ j : Nat, (j : Int) < i → sameK (B.getD j pv0) (L.getD j pv0)))
    (fun (i, _) => (L.length - i).toNat) (fun (_, _) => by simp only; omega) (0, []) [(3, some 1)] (.of rfl rfl rfl rfl rfl rfl) ⟨by omega, by omega, rfl, fun j hj => by omega⟩ ?_
  rintro ⟨i, B⟩ u hu ⟨g1, g2, g3, g4⟩
  refine x_vc tt_ok ?_
  refine x_if (fun h => ?_) (fun h => ?_)
  · have h : i < L.length := of_decide_eq_true h
    repeat (refine And.intro ?_ ?_; first | omega | (simp only [Lay.d_n]; omega) | (simp only [decide_eq_true_eq, decide_eq_false_iff_not, Bool.or_eq_false_iff, Bool.and_eq_true, Bool.or_eq_true, Bool.and_eq_false_iff, Bool.not_eq_true', Bool.not_eq_false', Lay.d_n]; omega) | (simp only [decide_eq_true_eq, decide_eq_false_iff_not, Bool.or_eq_false_iff, Bool.and_eq_true, Bool.or_eq_true, Bool.and_eq_false_iff, Bool.not_eq_true', Bool.not_eq_false']; omega) | (simp only [decide_eq_true_eq, decide_eq_false_iff_not, Bool.or_eq_false_iff]; simp only [Lay.d_n]; omega))
    have hpi := hp.2 i.toNat (by omega)
    have hTi := hT i.toNat
    refine x_nilCell 4 9 strY [.v (.int .i64 (L.getD i.toNat pv0).kind), .v (.string (L.getD i.toNat pv0).text), .v (.bool (L.getD i.toNat pv0).space)] [] rfl ?_
    refine x_drawA mix ?_
    refine xa_phase tt_ok (fuel := 3) [0, 1, 2, 3, 4, 5, 6] rfl (by kernel_rfl) (by kernel_rfl) (by kernel_rfl) (by kernel_rfl) (xd_go tt_ok ?_)
    repeat (refine And.intro ?_ ?_; first | omega | (simp only [Lay.d_n]; omega) | (simp only [decide_eq_true_eq, decide_eq_false_iff_not, Bool.or_eq_false_iff, Bool.and_eq_true, Bool.or_eq_true, Bool.and_eq_false_iff, Bool.not_eq_true', Bool.not_eq_false', Lay.d_n]; omega) | (simp only [decide_eq_true_eq, decide_eq_false_iff_not, Bool.or_eq_false_iff, Bool.and_eq_true, Bool.or_eq_true, Bool.and_eq_false_iff, Bool.not_eq_true', Bool.not_eq_false']; omega) | (simp only [decide_eq_true_eq, decide_eq_false_iff_not, Bool.or_eq_false_iff]; simp only [Lay.d_n]; omega))
    refine xa_chain (fuel := 0) [7, 8, 9] rfl rfl (by kernel_rfl) ?_
    refine xl_append tt_ok strY [] (T.getD i.toNat []) 16 rfl rfl rfl rfl rfl rfl rfl rfl (by kernel_rfl) rfl rfl rfl (fun E w F hs => (hpi.le hu).imm hs.imm) (fun x y hy => by cases List.mem_singleton.1 hy; rfl) rfl (by simp only [List.length_nil]; omega) (by simp only [List.length_nil]; omega) ?_
    refine xl_go tt_ok ?_
    refine xa_done (by kernel_rfl) rfl ?_
    refine xl_parkB 6 2 4 rfl rfl rfl (fun pa pc => ?_)
    refine xl_go tt_ok ?_
    obtain ⟨b, hb⟩ : ∃ b : PV, b = ⟨(L.getD i.toNat pv0).kind, (L.getD i.toNat pv0).text, (L.getD i.toNat pv0).space, pa, (T.getD i.toNat []).length, pc⟩ := ⟨_, rfl⟩
    refine xl_build tt_ok pvY [⟨(L.getD i.toNat pv0).kind, (L.getD i.toNat pv0).text, (L.getD i.toNat pv0).space, pa, (T.getD i.toNat []).length, pc⟩] [_] rfl rfl rfl rfl rfl rfl rfl rfl rfl rfl rfl rfl rfl rfl rfl ?_
    rw [← hb]
    refine xl_append tt_ok pvY B [b] 56 rfl rfl rfl rfl rfl rfl rfl rfl (by kernel_rfl) rfl rfl rfl (fun E w F hs => hs.rowAt (k := 7) rfl) (fun x y hy => by
      simp only [Lay.el, pvY, List.map_cons, List.map_nil, List.mem_cons, List.not_mem_nil, or_false] at hy
      rcases hy with rfl | rfl | rfl | rfl <;> rfl) rfl (by simp only [List.length_singleton]; omega) (by simp only [List.length_singleton]; omega) ?_
    refine xl_go tt_ok ?_
    repeat (refine And.intro ?_ ?_; first | omega | (simp only [Lay.d_n]; omega) | (simp only [decide_eq_true_eq, decide_eq_false_iff_not, Bool.or_eq_false_iff, Bool.and_eq_true, Bool.or_eq_true, Bool.and_eq_false_iff, Bool.not_eq_true', Bool.not_eq_false', Lay.d_n]; omega) | (simp only [decide_eq_true_eq, decide_eq_false_iff_not, Bool.or_eq_false_iff, Bool.and_eq_true, Bool.or_eq_true, Bool.and_eq_false_iff, Bool.not_eq_true', Bool.not_eq_false']; omega) | (simp only [decide_eq_true_eq, decide_eq_false_iff_not, Bool.or_eq_false_iff]; simp only [Lay.d_n]; omega))
    have hi2 : itemsP T 0 (B ++ [b]) = itemsP T 0 B ++ [⟨.slice pa (strY.d ([] ++ T.getD i.toNat [])).n pc, 9, strY.d ([] ++ T.getD i.toNat [])⟩] := by
      rw [itemsP_push, Nat.zero_add, show B.length = i.toNat by omega, hb]
      rfl
    rw [← hi2]
    refine again (i + 1, B ++ [b]) [(3, some 8)] (.of rfl rfl rfl rfl rfl rfl) ⟨by omega, by omega, by rw [List.length_append, List.length_singleton]; omega, fun j hj => ?_⟩ (by simp only; omega)
    rcases Nat.lt_or_ge j B.length with hjl | hjl
    · rw [List.getD_eq_getElem?_getD, List.getElem?_append_left hjl, ← List.getD_eq_getElem?_getD]
      exact g4 j (by omega)
    · have hj2 : j = B.length := by omega
      rw [List.getD_eq_getElem?_getD, List.getElem?_append_right (by omega), hj2, Nat.sub_self, show B.length = i.toNat by omega]
      show sameK b _
      rw [hb]
      exact ⟨rfl, rfl, rfl⟩
  · have h : ¬ i < L.length := of_decide_eq_false h
    refine finStarO (k := 3) (ks := 2) rfl rfl (fun A' c' => ⟨(A', c', B), fun E hE => ?_, ?_, by show B.length = L.length; omega, fun j hj => g4 j (by omega)⟩)
    · show E 3 = _
      rw [hE, Lay.d_n, show B.length = L.length by omega]
    · show _ = itemsP T 0 B ++ [⟨.slice A' B.length c', 35, pvY.d B⟩]
      rw [show B.length = L.length by omega]
def twM (m : MT) (B : List PV) : MT := ⟨m.name, m.fn, m.ps, m.va, B⟩
def TwMR (m : MT) (T : List (List ByteArray)) : Value → Im → Prop :=
  StarR (fun s : MA × List PV => mVal (twM m s.2) s.1) (fun s => itemsP T 0 s.2 ++ [⟨.slice s.1.2.2.1 s.2.length s.1.2.2.2, 35, pvY.d s.2⟩] ++ [⟨.slice s.1.1 m.ps.length s.1.2.1, 9, strY.d m.ps⟩]) (fun s => twG m.body (none, 0, s.2))
set_option maxHeartbeats 2000000 in
set_option maxRecDepth 100000 in
theorem twin_any (m : MT) (T : List (List ByteArray)) (s : MA) (w : World) (hm : MAt (im w) m T s) (hP : m.ps.length * 16 ≤ 140737488355328) (hL : m.body.length * 56 ≤ 140737488355328)
    (hT : ∀ j, (T.getD j []).length * 16 ≤ 140737488355328) : Calls Tryz.prog 5 #[mVal m s] w (PureP w (TwMR m T)) := by
  obtain ⟨nm, fn, ps, va, L⟩ := m
  have hp := hm.ps
  have hb := hm.body
  have hpt := hm.parts
  simp only at hp hb hpt hP hL
  refine x_fun tt_ok Tryz.func5 rfl rfl [] 0 [.v (mVal ⟨nm, fn, ps, va, L⟩ s)] rfl rfl rfl rfl (fun b hb => by cases hb) ?_
  refine x_vc tt_ok ?_
  refine xl_nil 7 9 strY rfl ?_
  refine xl_append tt_ok strY [] ps 16 rfl rfl rfl rfl rfl rfl rfl rfl (by kernel_rfl) rfl rfl rfl (fun E w F hs => hp.imm hs.imm) (fun x y hy => by cases List.mem_singleton.1 hy; rfl) rfl (by simp only [List.length_nil]; omega) (by simp only [List.length_nil]; omega) ?_
  refine xl_go tt_ok ?_
  refine xl_callStar (fun s : Option Addr × Nat × List PV => .slice s.1 L.length s.2.1) (fun s => itemsP T 0 s.2.2 ++ [(⟨.slice s.1 L.length s.2.1, 35, pvY.d s.2.2⟩ : SI)]) (twG L) rfl rfl rfl rfl fn10 rfl rfl
    (fun E w F hs => twinToks_any L T _ _ w (hb.imm hs.imm) (hpt.imm hs.imm) hL hT) (fun sb hG => ?_)
  obtain ⟨ba, bc, B⟩ := sb
  refine xl_go tt_ok ?_
  refine xl_parkB 4 5 2 rfl rfl rfl (fun pa pc => ?_)
  refine xl_go tt_ok ?_
  have hBL : B.length = L.length := hG.1
  refine finStar (k := 5) ((pa, pc, ba, bc), B) ?_ (fun E => ?_) hG
  · show some (Rs.gen (starHp (itemsP T 0 B ++ [⟨.slice ba L.length bc, 35, pvY.d B⟩] ++ [⟨.slice pa ps.length pc, 9, strY.d ps⟩]))) = some (Rs.gen (starHp (itemsP T 0 B ++ [⟨.slice ba B.length bc, 35, pvY.d B⟩] ++ [⟨.slice pa ps.length pc, 9, strY.d ps⟩])))
    rw [hBL]
  · show Value.agg #[.string nm, .bool fn, .slice pa ps.length pc, .bool va, .slice ba L.length bc] = Value.agg #[.string nm, .bool fn, .slice pa ps.length pc, .bool va, .slice ba B.length bc]
    rw [hBL]
end Go.Proofs.YtnjmkeijjapejaaGreat
namespace Go.Proofs.YtnjmkeijjapejaaGreat
open Go.GV Go.RowKit
def capZ (n : Int) : Int := if (3000 : Int) < n then 3000 else n
def grP (ps : List ByteArray) : Nat → Int
  | 0 => 0
  | i + 1 => grP ps i + (1 + capZ ((ps.getD i ⟨#[]⟩).size : Int))
def grB (B : List PV) : Nat → Int
  | 0 => 0
  | i + 1 => grB B i + (1 + capZ ((B.getD i pv0).text.size : Int) + ((B.getD i pv0).pn : Int))
def grN (m : MT) : Int := (m.name.size : Int) + grP m.ps (min m.ps.length 300) + grB m.body (min m.body.length 300)
def greatB (m : MT) : Bool := decide (2000 < grN m) || decide (200 < (m.ps.length : Int)) || decide (200 < (m.body.length : Int))
theorem capZ_b {n : Int} (h : 0 ≤ n) : 0 ≤ capZ n ∧ capZ n ≤ 3000 ∧ capZ n ≤ n := by
  unfold capZ; split <;> omega
theorem grP_b (ps : List ByteArray) : ∀ i, 0 ≤ grP ps i ∧ grP ps i ≤ 3001 * i
  | 0 => ⟨Int.le_refl _, by simp [grP]⟩
  | i + 1 => by
    have ih := grP_b ps i
    have hc := capZ_b (n := ((ps.getD i ⟨#[]⟩).size : Int)) (by omega)
    unfold grP
    constructor
    · omega
    · push_cast; omega
theorem grB_b (B : List PV) (hz : ∀ i, (B.getD i pv0).pn ≤ 140737488355328) : ∀ i, 0 ≤ grB B i ∧ grB B i ≤ 140737488358329 * i
  | 0 => ⟨Int.le_refl _, by simp [grB]⟩
  | i + 1 => by
    have ih := grB_b B hz i
    have hc := capZ_b (n := ((B.getD i pv0).text.size : Int)) (by omega)
    have hz := hz i
    unfold grB
    constructor
    · omega
    · push_cast; omega
set_option maxHeartbeats 2000000 in
set_option maxRecDepth 100000 in
theorem great_any (m : MT) (s : MA) (w : World) (hp : SlAt (im w) (.slice s.1 m.ps.length s.2.1) (strY.d m.ps)) (hb : SlAt (im w) (.slice s.2.2.1 m.body.length s.2.2.2) (pvY.d m.body)) (hn : m.name.size ≤ 140737488355328)
    (hz : ∀ i, (m.body.getD i pv0).pn ≤ 140737488355328) : Calls Tryz.prog 4 #[mVal m s] w (PureP w fun v _ => v = .bool (greatB m)) := by
  unfold greatB grN
  obtain ⟨nm, fn, ps, va, B⟩ := m
  simp only at hp hb hn hz ⊢
  have hgP := grP_b ps
  have hgB := grB_b B hz
  refine x_fun tt_ok Tryz.func4 rfl rfl [] 0 [.v (mVal ⟨nm, fn, ps, va, B⟩ s)] rfl rfl rfl rfl (fun b hb => by cases hb) ?_
  refine x_vc tt_ok ?_
  refine x_slCell 0 [.v (.string nm), .v (.bool fn)] [.v (.bool va), .v (.slice s.2.2.1 B.length s.2.2.2)] rfl hp ?_
  refine x_slCell 0 [.v (.string nm), .v (.bool fn), .r 1, .v (.bool va)] [] rfl hb ?_
  refine x_loop (σ := Int × Int) (fun (i, v) => ⟨[(4, .v (.int .i64 i)), (3, .v (.int .i64 v)), (1, .p 0 0)], [], [(0, .box 25 [.v (.string nm), .v (.bool fn), .r 1, .v (.bool va), .r 2]), (1, .sl (strY.d ps)), (2, .sl (pvY.d B))], 3⟩)
    (fun (i, v) _ => 0 ≤ i ∧ i ≤ ps.length ∧ i ≤ 300 ∧ v = nm.size + grP ps i.toNat) (fun (i, _) => ((ps.length : Int) - i).toNat) (fun (_, _) => Nat.le_refl 3) (0, nm.size) [] (.of rfl rfl rfl rfl rfl rfl) ⟨by omega, by omega, by omega, by simp [grP]⟩ ?_
  rintro ⟨i, v⟩ u hu ⟨g1, g2, g3, g4⟩
  have hgi := hgP i.toNat
  refine x_vc tt_ok ?_
  refine x_if (fun h => ?_) (fun h => ?_)
  · have h : (decide (i < (ps.length : Int)) && decide (i < 300)) = true := h
    rw [Bool.and_eq_true, decide_eq_true_eq, decide_eq_true_eq] at h
    have hc := capZ_b (n := ((ps.getD i.toNat ⟨#[]⟩).size : Int)) (by omega)
    have hst : grP ps (i + 1).toNat = grP ps i.toNat + (1 + capZ ((ps.getD i.toNat ⟨#[]⟩).size : Int)) := by
      rw [show (i + 1).toNat = i.toNat + 1 by omega, grP]
    repeat (refine And.intro ?_ ?_; first | omega | (simp only [Lay.d_n]; omega) | (simp only [decide_eq_true_eq, decide_eq_false_iff_not, Bool.or_eq_false_iff, Bool.and_eq_true, Bool.or_eq_true, Bool.and_eq_false_iff, Bool.not_eq_true', Bool.not_eq_false', Lay.d_n]; omega) | (simp only [decide_eq_true_eq, decide_eq_false_iff_not, Bool.or_eq_false_iff, Bool.and_eq_true, Bool.or_eq_true, Bool.and_eq_false_iff, Bool.not_eq_true', Bool.not_eq_false']; omega) | (simp only [decide_eq_true_eq, decide_eq_false_iff_not, Bool.or_eq_false_iff]; simp only [Lay.d_n]; omega))
    refine xl_min rfl rfl rfl rfl rfl rfl ?_
    refine xl_eqv 28 (.int .i64 (capZ ((ps.getD i.toNat ⟨#[]⟩).size : Int))) rfl rfl ?_
    refine xl_go tt_ok ?_
    repeat (refine And.intro ?_ ?_; first | omega | (simp only [Lay.d_n]; omega) | (simp only [decide_eq_true_eq, decide_eq_false_iff_not, Bool.or_eq_false_iff, Bool.and_eq_true, Bool.or_eq_true, Bool.and_eq_false_iff, Bool.not_eq_true', Bool.not_eq_false', Lay.d_n]; omega) | (simp only [decide_eq_true_eq, decide_eq_false_iff_not, Bool.or_eq_false_iff, Bool.and_eq_true, Bool.or_eq_true, Bool.and_eq_false_iff, Bool.not_eq_true', Bool.not_eq_false']; omega) | (simp only [decide_eq_true_eq, decide_eq_false_iff_not, Bool.or_eq_false_iff]; simp only [Lay.d_n]; omega))
    exact again (i + 1, v + 1 + capZ ((ps.getD i.toNat ⟨#[]⟩).size : Int)) [] (.of rfl rfl rfl rfl rfl rfl) ⟨by omega, by omega, by omega, by rw [hst, g4]; omega⟩ (by simp only; omega)
  · have h : (decide (i < (ps.length : Int)) && decide (i < 300)) = false := h
    rw [Bool.and_eq_false_iff, decide_eq_false_iff_not, decide_eq_false_iff_not] at h
    have hi : i.toNat = min ps.length 300 := by omega
    rw [hi] at g4 hgi
    obtain ⟨n0, hn0⟩ : ∃ n0, n0 = (nm.size : Int) + grP ps (min ps.length 300) := ⟨_, rfl⟩
    rw [← hn0] at g4 ⊢
    have hn1 : 0 ≤ n0 ∧ n0 ≤ 140737488355328 + 3001 * 300 := by
      have : min ps.length 300 ≤ 300 := Nat.min_le_right _ _
      omega
    subst g4
    refine x_vc tt_ok ?_
    refine x_loop (σ := Int × Int) (fun (i, v) => ⟨[(5, .v (.int .i64 i)), (3, .v (.int .i64 v)), (1, .p 0 0)], [], [(0, .box 25 [.v (.string nm), .v (.bool fn), .r 1, .v (.bool va), .r 2]), (1, .sl (strY.d ps)), (2, .sl (pvY.d B))], 3⟩)
      (fun (i, x) _ => 0 ≤ i ∧ i ≤ B.length ∧ i ≤ 300 ∧ x = v + grB B i.toNat) (fun (i, _) => ((B.length : Int) - i).toNat) (fun (_, _) => Nat.le_refl 3) (0, v) [] (.of rfl rfl rfl rfl rfl rfl) ⟨by omega, by omega, by omega, by simp [grB]⟩ ?_
    clear hi hgi g1 g2 g3 h
    rintro ⟨j, v2⟩ u2 hu2 ⟨g1, g2, g3, g4⟩
    have hgj := hgB j.toNat
    refine x_vc tt_ok ?_
    refine x_if (fun h => ?_) (fun h => ?_)
    · have h : (decide (j < (B.length : Int)) && decide (j < 300)) = true := h
      rw [Bool.and_eq_true, decide_eq_true_eq, decide_eq_true_eq] at h
      have hc := capZ_b (n := ((B.getD j.toNat pv0).text.size : Int)) (by omega)
      have hzj : (B.getD j.toNat pvY.dft).pn ≤ 140737488355328 := hz j.toNat
      have hst : grB B (j + 1).toNat = grB B j.toNat + (1 + capZ ((B.getD j.toNat pv0).text.size : Int) + ((B.getD j.toNat pv0).pn : Int)) := by
        rw [show (j + 1).toNat = j.toNat + 1 by omega, grB]
      refine x_drawA mix ?_
      refine xa_phase tt_ok (fuel := 1) [0, 1, 2, 3, 4, 5, 6, 7, 8, 9, 10, 11, 12, 13, 14, 15, 16, 17, 18] rfl (by kernel_rfl) (by kernel_rfl) (by kernel_rfl) (phaseB_of 18 (by kernel_rfl)) ?_
      refine xd_go tt_ok ?_
      repeat (refine And.intro ?_ ?_; first | omega | (simp only [Lay.d_n]; omega) | (simp only [decide_eq_true_eq, decide_eq_false_iff_not, Bool.or_eq_false_iff, Bool.and_eq_true, Bool.or_eq_true, Bool.and_eq_false_iff, Bool.not_eq_true', Bool.not_eq_false', Lay.d_n]; omega) | (simp only [decide_eq_true_eq, decide_eq_false_iff_not, Bool.or_eq_false_iff, Bool.and_eq_true, Bool.or_eq_true, Bool.and_eq_false_iff, Bool.not_eq_true', Bool.not_eq_false']; omega) | (simp only [decide_eq_true_eq, decide_eq_false_iff_not, Bool.or_eq_false_iff]; simp only [Lay.d_n]; omega))
      refine xd_min (capZ ((B.getD j.toNat pv0).text.size : Int)) rfl rfl rfl rfl rfl rfl rfl ?_
      refine xd_go tt_ok ?_
      repeat (refine And.intro ?_ ?_; first | omega | (simp only [Lay.d_n]; omega) | (simp only [decide_eq_true_eq, decide_eq_false_iff_not, Bool.or_eq_false_iff, Bool.and_eq_true, Bool.or_eq_true, Bool.and_eq_false_iff, Bool.not_eq_true', Bool.not_eq_false', Lay.d_n]; omega) | (simp only [decide_eq_true_eq, decide_eq_false_iff_not, Bool.or_eq_false_iff, Bool.and_eq_true, Bool.or_eq_true, Bool.and_eq_false_iff, Bool.not_eq_true', Bool.not_eq_false']; omega) | (simp only [decide_eq_true_eq, decide_eq_false_iff_not, Bool.or_eq_false_iff]; simp only [Lay.d_n]; omega))
      refine xa_one 19 (by kernel_rfl) rfl (xl_go tt_ok ?_)
      refine xa_done (by kernel_rfl) rfl ?_
      repeat (refine And.intro ?_ ?_; first | omega | (simp only [Lay.d_n]; omega) | (simp only [decide_eq_true_eq, decide_eq_false_iff_not, Bool.or_eq_false_iff, Bool.and_eq_true, Bool.or_eq_true, Bool.and_eq_false_iff, Bool.not_eq_true', Bool.not_eq_false', Lay.d_n]; omega) | (simp only [decide_eq_true_eq, decide_eq_false_iff_not, Bool.or_eq_false_iff, Bool.and_eq_true, Bool.or_eq_true, Bool.and_eq_false_iff, Bool.not_eq_true', Bool.not_eq_false']; omega) | (simp only [decide_eq_true_eq, decide_eq_false_iff_not, Bool.or_eq_false_iff]; simp only [Lay.d_n]; omega))
      exact again (j + 1, v2 + 1 + capZ ((B.getD j.toNat pv0).text.size : Int) + ((B.getD j.toNat pv0).pn : Int)) [] (.of rfl rfl rfl rfl rfl rfl) ⟨by omega, by omega, by omega, by rw [hst, g4]; omega⟩ (by simp only; omega)
    · have h : (decide (j < (B.length : Int)) && decide (j < 300)) = false := h
      rw [Bool.and_eq_false_iff, decide_eq_false_iff_not, decide_eq_false_iff_not] at h
      have hi : j.toNat = min B.length 300 := by omega
      rw [hi] at g4
      refine fin1 (fun _ _ => ?_)
      rw [← g4]
      rfl
end Go.Proofs.YtnjmkeijjapejaaGreat
namespace Go.Proofs.YtnjmkeijjapejaaGreat
open Go.GV Go.RowKit
def szL : List ByteArray → Nat
  | [] => 0
  | x :: r => 1 + x.size + szL r
theorem szL_append : ∀ (L M : List ByteArray), szL (L ++ M) = szL L + szL M
  | [], M => by simp [szL]
  | x :: r, M => by rw [List.cons_append, szL, szL, szL_append r M]; omega
theorem szL_take {ps : List ByteArray} {i : Nat} (h : i < ps.length) : szL (ps.take (i + 1)) = szL (ps.take i) + (1 + (ps.getD i ⟨#[]⟩).size) := by
  rw [take_get (List.getElem?_eq_getElem h), szL_append]
  rw [List.getD_eq_getElem?_getD, List.getElem?_eq_getElem h]
  simp [szL]
theorem capZ_eq {n : Int} (h : capZ n ≤ 2000) : n = capZ n := by
  unfold capZ at *; split at h <;> split <;> omega
theorem grP_sz {ps : List ByteArray} : ∀ {i : Nat}, i ≤ ps.length → grP ps i ≤ 2000 → (szL (ps.take i) : Int) = grP ps i
  | 0, _, _ => by simp [szL, grP]
  | i + 1, h, h2 => by
    have hc := capZ_b (n := ((ps.getD i ⟨#[]⟩).size : Int)) (by omega)
    have hb := grP_b ps i
    rw [grP] at h2 ⊢
    have ih := grP_sz (ps := ps) (i := i) (by omega) (by omega)
    have he := capZ_eq (n := ((ps.getD i ⟨#[]⟩).size : Int)) (by omega)
    rw [szL_take (by omega)]
    push_cast
    omega
theorem ptL_len (i : Nat) (t : PV) : (ptL i t).length ≤ 1 + t.text.size := by
  unfold ptL
  rw [List.length_append, strL_len]
  split <;> simp
theorem grB_sz {B : List PV} (hz : ∀ i, (B.getD i pv0).pn ≤ 140737488355328) : ∀ {i : Nat}, grB B i ≤ 2000 → ((bodyUp B i).length : Int) ≤ grB B i
  | 0, _ => by simp [bodyUp, grB]
  | i + 1, h2 => by
    have hc := capZ_b (n := ((B.getD i pv0).text.size : Int)) (by omega)
    have hb := grB_b B hz i
    rw [grB] at h2 ⊢
    have ih := grB_sz hz (i := i) (by omega)
    have he := capZ_eq (n := ((B.getD i pv0).text.size : Int)) (by omega)
    have hp := ptL_len i (B.getD i pv0)
    rw [bodyUp, List.length_append]
    push_cast
    omega
theorem joinTail_len : ∀ r : List ByteArray, (Lib.joinTail [44] (r.map (·.data.toList))).length = szL r
  | [] => rfl
  | x :: r => by
    have ih := joinTail_len r
    unfold Lib.joinTail at ih ⊢
    rw [List.map_cons, List.map_cons, List.flatten_cons, List.length_append, ih, szL]
    simp
    omega
theorem joinT_le (ps : List ByteArray) : (joinT ps comB).size ≤ szL ps := by
  rw [joinT_size]
  cases ps with
  | nil => simp [Lib.join_nil]
  | cons x r =>
    rw [List.map_cons, Lib.join_cons, List.length_append]
    have := joinTail_len r
    rw [show comB.data.toList = [44] by rfl, this, szL]
    simp
theorem great_line {m : MT} (hz : ∀ i, (m.body.getD i pv0).pn ≤ 140737488355328) (h : greatB m = false) : (lineL m).length ≤ 3000 ∧ m.ps.length ≤ 200 ∧ m.body.length ≤ 200 := by
  unfold greatB at h
  rw [Bool.or_eq_false_iff, Bool.or_eq_false_iff, decide_eq_false_iff_not, decide_eq_false_iff_not, decide_eq_false_iff_not] at h
  obtain ⟨⟨h1, h2⟩, h3⟩ := h
  unfold grN at h1
  rw [Nat.min_eq_left (by omega), Nat.min_eq_left (by omega)] at h1
  have b1 := grP_b m.ps m.ps.length
  have b2 := grB_b m.body hz m.body.length
  have e1 := grP_sz (ps := m.ps) (Nat.le_refl _) (by omega)
  have e2 := grB_sz hz (i := m.body.length) (by omega)
  rw [List.take_length] at e1
  have j1 := joinT_le m.ps
  have p1 : (parL m).length ≤ 6 + (joinT m.ps comB).size := by
    unfold parL
    split
    · unfold parA parB parC
      simp only [List.length_append, strL_len, List.length_singleton]
      have d1 : (if (m.va && decide (0 < m.ps.length)) = true then ([44] : List UInt8) else []).length ≤ 1 := by split <;> simp
      have d2 : (if m.va = true then strL dotB else []).length ≤ 3 := by
        split
        · exact Nat.le_of_eq rfl
        · simp
      omega
    · simp
  refine ⟨?_, by omega, by omega⟩
  unfold lineL headL
  simp only [List.length_append, strL_len, List.length_singleton]
  rw [show defB8.size = 8 by rfl]
  omega
end Go.Proofs.YtnjmkeijjapejaaGreat
namespace Go.Proofs.YtnjmkeijjapejaaGreat
open Go.GV Go.RowKit
theorem bodyUp_congr {B C : List PV} : ∀ {i : Nat}, (∀ j, j < i → (B.getD j pv0).space = (C.getD j pv0).space ∧ (B.getD j pv0).text = (C.getD j pv0).text) → bodyUp B i = bodyUp C i
  | 0, _ => rfl
  | i + 1, h => by
    have h1 := h i (Nat.lt_succ_self i)
    rw [bodyUp, bodyUp, bodyUp_congr (fun j hj => h j (Nat.lt_succ_of_lt hj)), ptL, ptL, h1.1, h1.2]
theorem line_same {a b : MT} {T S : List (List ByteArray)} (ha : a.body.length = T.length) (hb : b.body.length = S.length) (h : mSame a b T S = true) : lineL a = lineL b := by
  unfold mSame at h
  simp only [Bool.and_eq_true, decide_eq_true_eq] at h
  obtain ⟨⟨⟨⟨h1, h2⟩, h3⟩, h4⟩, h5⟩ := h
  have hl : a.body.length = b.body.length := by
    rw [← keys_len ha, ← keys_len hb, h5]
  have hu : bodyUp a.body a.body.length = bodyUp b.body b.body.length := by
    rw [← hl]
    refine bodyUp_congr fun j hj => ?_
    have k1 := keys_get ha hj
    have k2 := keys_get hb (hl ▸ hj)
    rw [h5, k2] at k1
    injection k1 with k3 k4 k5 k6
    exact ⟨k5.symm, k4.symm⟩
  unfold lineL headL parL parA parB parC
  rw [h1, h2, h3, h4, hu]
end Go.Proofs.YtnjmkeijjapejaaGreat
namespace Go.Proofs.YtnjmkeijjapejaaGreat
open Go.GV Go.RowKit
theorem keys_same {L B : List PV} (T : List (List ByteArray)) (hl : B.length = L.length) (h : ∀ j, j < L.length → sameK (B.getD j pv0) (L.getD j pv0)) : keysOf B T = keysOf L T := by
  unfold keysOf
  refine List.ext_getElem? fun i => ?_
  rw [List.getElem?_zipWith, List.getElem?_zipWith]
  rcases Nat.lt_or_ge i L.length with hi | hi
  · rw [List.getElem?_eq_getElem hi, List.getElem?_eq_getElem (show i < B.length by omega)]
    have := h i hi
    rw [List.getD_eq_getElem?_getD, List.getD_eq_getElem?_getD, List.getElem?_eq_getElem hi, List.getElem?_eq_getElem (show i < B.length by omega)] at this
    simp only [Option.getD_some] at this
    cases T[i]? with
    | none => rfl
    | some p =>
      simp only [PK.of]
      rw [this.1, this.2.1, this.2.2]
  · rw [List.getElem?_eq_none hi, List.getElem?_eq_none (show B.length ≤ i by omega)]
theorem mSame_twin {m : MT} {B : List PV} (T : List (List ByteArray)) (hl : B.length = m.body.length) (h : ∀ j, j < m.body.length → sameK (B.getD j pv0) (m.body.getD j pv0)) (o : MT) (S : List (List ByteArray)) :
    mSame (twM m B) o T S = mSame m o T S ∧ mSame o (twM m B) S T = mSame o m S T := by
  unfold mSame twM
  simp only
  rw [keys_same T hl h]
  exact ⟨rfl, rfl⟩
theorem grB_pn (B : List PV) : ∀ k i : Nat, i < k → ((B.getD i pv0).pn : Int) ≤ grB B k ∧ 0 ≤ grB B k
  | 0, i, h => absurd h (Nat.not_lt_zero _)
  | k + 1, i, h => by
    have hc := (capZ_b (n := ((B.getD k pv0).text.size : Int)) (by omega)).1
    have h0 : 0 ≤ grB B k := by
      cases k with
      | zero => exact Int.le_refl _
      | succ k => exact (grB_pn B (k + 1) 0 (by omega)).2
    rw [grB]
    rcases Nat.lt_or_ge i k with hi | hi
    · have := (grB_pn B k i hi).1
      omega
    · have : i = k := by omega
      subst this
      omega
theorem great_pn {m : MT} (h : greatB m = false) {i : Nat} (hi : i < m.body.length) : (m.body.getD i pv0).pn ≤ 2000 := by
  unfold greatB at h
  simp only [Bool.or_eq_false_iff, decide_eq_false_iff_not] at h
  obtain ⟨⟨h1, h2⟩, h3⟩ := h
  have hk := (grB_pn m.body m.body.length i hi).1
  have hp := (grP_b m.ps (min m.ps.length 300)).1
  unfold grN at h1
  rw [show min m.body.length 300 = m.body.length by omega] at h1
  omega
theorem prt_len {u : Im} {L : List PV} {T : List (List ByteArray)} (h : PartsAt u L T) {i : Nat} (hi : i < L.length) : (T.getD i []).length = (L.getD i pv0).pn := by
  obtain ⟨A, c, e, _⟩ := h.2 i hi
  unfold PV.prt at e
  injection e with _ e _
  rw [Lay.d_n] at e
  exact e.symm
set_option maxHeartbeats 4000000 in
set_option maxRecDepth 100000 in
theorem macroTexts_any (m o : MT) (Tm To : List (List ByteArray)) (sm so : MA) (w : World) (hm : MAt (im w) m Tm sm) (ho : MAt (im w) o To so) (n1 : m.name.size ≤ 140737488355328) (n2 : o.name.size ≤ 140737488355328)
    (z1 : ∀ i, (m.body.getD i pv0).pn ≤ 140737488355328) (z2 : ∀ i, (o.body.getD i pv0).pn ≤ 140737488355328) (hg : Glob (im w)) :
    Calls Tryz.prog 3 #[mVal m sm, mVal o so] w (PureP w fun v _ => v = .bool true) := by
  refine x_fun tt_ok Tryz.func3 rfl rfl [] 0 [.v (mVal m sm), .v (mVal o so)] rfl rfl rfl rfl (fun b hb => by cases hb) ?_
  refine x_vc tt_ok ?_
  refine xl_call0 (.bool (greatB m)) rfl rfl rfl rfl fn4 rfl rfl (fun E w' F hs => great_any m sm w' (hm.ps.imm hs.imm) (hm.body.imm hs.imm) n1 z1) ?_
  refine xl_go tt_ok ?_
  refine xl_gcall0 (.bool (greatB o)) rfl rfl rfl rfl fn4 rfl rfl (fun _ E w' F hs => great_any o so w' (ho.ps.imm hs.imm) (ho.body.imm hs.imm) n2 z2) ?_
  refine xl_go tt_ok ?_
  refine x_if (fun h => ?_) (fun h => ?_)
  · exact fin1 (fun _ _ => rfl)
  have h : (greatB m || greatB o) = false := h
  rw [Bool.or_eq_false_iff] at h
  obtain ⟨l1, l2, l3⟩ := great_line z1 h.1
  obtain ⟨k1, k2, k3⟩ := great_line z2 h.2
  have hpn : ∀ j, (Tm.getD j []).length * 16 ≤ 140737488355328 := fun j => by
    rcases Nat.lt_or_ge j m.body.length with hj | hj
    · rw [prt_len hm.parts hj]
      have := great_pn h.1 hj
      omega
    · rw [List.getD_eq_getElem?_getD, List.getElem?_eq_none (by rw [← hm.parts.1]; exact hj)]
      exact Nat.zero_le _
  clear h
  refine xl_callStar (fun s : MA × List PV => mVal (twM m s.2) s.1) (fun s => itemsP Tm 0 s.2 ++ [(⟨.slice s.1.2.2.1 s.2.length s.1.2.2.2, 35, pvY.d s.2⟩ : SI)] ++ [(⟨.slice s.1.1 m.ps.length s.1.2.1, 9, strY.d m.ps⟩ : SI)]) (fun s => twG m.body (none, 0, s.2)) rfl rfl rfl rfl fn5 rfl rfl
    (fun E w' F hs => twin_any m Tm sm w' (hm.imm hs.imm) (by omega) (by omega) hpn) (fun sb hG => ?_)
  obtain ⟨s1, B⟩ := sb
  have hBl : B.length = m.body.length := hG.1
  have hBk : ∀ j, j < m.body.length → sameK (B.getD j pv0) (m.body.getD j pv0) := hG.2
  refine xl_freezeStar 2 (sl := itemsP Tm 0 B ++ [(⟨.slice s1.2.2.1 B.length s1.2.2.2, 35, pvY.d B⟩ : SI)] ++ [(⟨.slice s1.1 m.ps.length s1.2.1, 9, strY.d m.ps⟩ : SI)]) rfl (fun u1 hu1 hfr => ?_)
  have hown : MAt u1 (twM m B) Tm s1 := by
    refine ⟨(hfr _ (List.mem_append_right _ (List.mem_singleton.2 rfl))).1, (hfr _ (List.mem_append_left _ (List.mem_append_right _ (List.mem_singleton.2 rfl)))).1, ⟨?_, fun i hi => ?_⟩, by show m.ps.length ≤ _; omega, by show B.length ≤ _; omega, hm.z3⟩
    · show B.length = _
      rw [hBl]; exact hm.parts.1
    · have hi' : i < B.length := hi
      have := (hfr _ (List.mem_append_left _ (List.mem_append_left _ (itemsP_mem Tm B 0 i hi')))).1
      rw [Nat.zero_add] at this
      exact this
  refine xl_go tt_ok ?_
  have hmm : mSame (twM m B) m Tm Tm = true := by rw [(mSame_twin Tm hBl hBk m Tm).1]; exact mSame_refl _ _
  have hll : lineL (twM m B) = lineL m := line_same hown.parts.1 hm.parts.1 hmm
  have hlt : lineT (twM m B) = lineT m := by unfold lineT; rw [hll]
  have htx : textR (twM m B) Tm = textR m Tm := by
    unfold textR
    rw [hlt, (mSame_twin Tm hBl hBk _ _).2]
  obtain ⟨q, hq⟩ : ∃ q, q = textR m Tm := ⟨_, rfl⟩
  refine xl_call0 (.tuple #[.string q.1, .int .i64 q.2]) rfl rfl rfl rfl fn6 rfl rfl (fun E w' F hs => by
    rw [hq, ← htx]
    exact text_any (twM m B) Tm s1 w' (hown.imm hs.imm) (by show m.ps.length ≤ _; omega) (by rw [hll]; omega) (hg.imm ⟨fun b o hb => hs.imm.h b o (hu1.h b o hb), hs.imm.os.trans hu1.os, hs.imm.tape.trans hu1.tape, hs.imm.output.trans hu1.output, by have := hs.imm.lo; rw [hu1.lo] at this; exact this⟩)) ?_
  refine xl_go tt_ok ?_
  refine xl_call0 (.tuple #[.string q.1, .int .i64 q.2]) rfl rfl rfl rfl fn7 rfl rfl (fun E w' F hs => by
    rw [hq]
    exact refText_any m Tm sm w' ((hm.le hu1).imm hs.imm) (by omega)) ?_
  refine xl_go tt_ok ?_
  refine x_draw mix (by kernel_rfl) (xd_go tt_ok ?_)
  have hm1 := hm.le hu1
  have ho1 := ho.le hu1
  refine xd_call0 (.bool (mSame m o Tm To)) rfl rfl rfl rfl fn8 rfl rfl (fun _ E w' F hs => by
    have := macroSame_any (twM m B) o Tm To s1 so w' (hown.imm hs.imm) (ho1.imm hs.imm)
    rw [(mSame_twin Tm hBl hBk o To).1] at this
    exact this) ?_
  refine xd_go tt_ok ?_
  refine xd_call0 (.bool (mSame m o Tm To)) rfl rfl rfl rfl fn9 rfl rfl (fun _ E w' F hs => refSame_any m o Tm To sm so w' (hm1.imm hs.imm) (ho1.imm hs.imm)) ?_
  refine xd_go tt_ok ?_
  refine xd_call0 (.bool true) rfl rfl rfl rfl fn8 rfl rfl (fun _ E w' F hs => by
    have := macroSame_any (twM m B) m Tm Tm s1 sm w' (hown.imm hs.imm) (hm1.imm hs.imm)
    rw [hmm] at this
    exact this) ?_
  refine xd_go tt_ok ?_
  refine xd_call0 (.bool true) rfl rfl rfl rfl fn9 rfl rfl (fun _ E w' F hs => by
    have := refSame_any (twM m B) m Tm Tm s1 sm w' (hown.imm hs.imm) (hm1.imm hs.imm)
    rw [hmm] at this
    exact this) ?_
  refine xd_go tt_ok ?_
  refine fin1 (fun _ _ => ?_)
  show Value.bool ((((decide (q.1 = q.1) && decide (q.2 = q.2)) && decide (mSame m o Tm To = mSame m o Tm To)) && true) && true) = .bool true
  simp
end Go.Proofs.YtnjmkeijjapejaaGreat
namespace Go.Proofs.YtnjmkeijjapejaaGreat
open Go.GV Go.RowKit
section
variable {H : Type} {enc : TypeId × Value → H} {w : World}
def rowAt (u : Im) (x : Value) (i : Int) : RowV :=
  ⟨vBool (cellAt u x 3 i 0), vStr (cellAt u x 3 i 1), vA (cellAt u x 3 i 2), vN (cellAt u x 3 i 2), vC (cellAt u x 3 i 2)⟩
end
end Go.Proofs.YtnjmkeijjapejaaGreat
namespace Go.Proofs.YtnjmkeijjapejaaGreat
open Go.GV Go.RowKit
section
variable {H : Type} {enc : TypeId × Value → H} {w : World}
def strsAt (u : Im) (x : Value) : List ByteArray := (List.range (vN x)).map fun i : Nat => vStr (cellAt u x 1 i 0)
theorem strsAt_len (u : Im) (x : Value) : (strsAt u x).length = vN x := by simp [strsAt]
theorem strsAt_getD (u : Im) (x : Value) {i : Nat} (h : i < vN x) : (strsAt u x).getD i ⟨#[]⟩ = vStr (cellAt u x 1 i 0) := by
  rw [List.getD_eq_getElem?_getD]
  simp [strsAt, h]
theorem open_strs {x : Value} (h : TrZ enc Tryz.prog w 22 [x]) : ∃ A n c, x = .slice A n c ∧ SlAt (im w) x (strY.d (strsAt (im w) x)) ∧ n ≤ 140737488355328 := by
  obtain ⟨A, n, c, h1, h2, hz, h3, h4⟩ := h.slice Tryz.underlying22 (by kernel_rfl : _ = 1)
  have hn : vN x = n := by rw [h1]; rfl
  have hb : Tryz.prog.bytesOf 9 = 16 := by kernel_rfl
  rw [hb] at hz
  refine ⟨A, n, c, h1, ?_, by omega⟩
  refine h3.ext (by simp [dataAt, Lay.d, strsAt, hn]) rfl fun i hi j f f' hf hf' => ?_
  have hi' : i < n := hi
  obtain ⟨s, e1, _⟩ := (h4 i (by omega) (by omega)).str Tryz.underlying9
  have e1 : cellAt (im w) x 1 (i : Int) 0 = .string s := by simpa using e1
  have hg : (strsAt (im w) x).getD (i : Int).toNat ⟨#[]⟩ = vStr (cellAt (im w) x 1 i 0) := strsAt_getD (im w) x (i := i) (by omega)
  match j, hf, hf' with
  | 0, hf, hf' =>
    cases hf; cases hf'
    show cellAt (im w) x 1 (i : Int) 0 = .string ((strsAt (im w) x).getD (i : Int).toNat ⟨#[]⟩)
    rw [hg, e1, vStr]
  | j + 1, hf, hf' => simp [Lay.d, strY] at hf'
def ptAt (u : Im) (x : Value) (i : Int) : PV := ⟨vInt (cellAt u x 4 i 0), vStr (cellAt u x 4 i 1), vBool (cellAt u x 4 i 2), vA (cellAt u x 4 i 3), vN (cellAt u x 4 i 3), vC (cellAt u x 4 i 3)⟩
def ptsAt (u : Im) (x : Value) : List PV := (List.range (vN x)).map fun i : Nat => ptAt u x i
def prtsAt (u : Im) (x : Value) : List (List ByteArray) := (List.range (vN x)).map fun i : Nat => strsAt u (cellAt u x 4 i 3)
theorem ptsAt_len (u : Im) (x : Value) : (ptsAt u x).length = vN x := by simp [ptsAt]
theorem ptsAt_getD (u : Im) (x : Value) {i : Nat} (h : i < vN x) : (ptsAt u x).getD i pv0 = ptAt u x i := by
  rw [List.getD_eq_getElem?_getD]
  simp [ptsAt, h]
theorem prtsAt_getD (u : Im) (x : Value) {i : Nat} (h : i < vN x) : (prtsAt u x).getD i [] = strsAt u (cellAt u x 4 i 3) := by
  rw [List.getD_eq_getElem?_getD]
  simp [prtsAt, h]
theorem open_pts {x : Value} (h : TrZ enc Tryz.prog w 23 [x]) : ∃ A n c, x = .slice A n c ∧ n ≤ 140737488355328 ∧ SlAt (im w) x (pvY.d (ptsAt (im w) x)) ∧ PartsAt (im w) (ptsAt (im w) x) (prtsAt (im w) x) ∧ prtSm (prtsAt (im w) x) ∧
    ∀ i, ((ptsAt (im w) x).getD i pv0).pn ≤ 140737488355328 := by
  obtain ⟨A, n, c, h1, h2, hz, h3, h4⟩ := h.slice Tryz.underlying23 (by kernel_rfl : _ = 4)
  have hn : vN x = n := by rw [h1]; rfl
  have hb : Tryz.prog.bytesOf 35 = 56 := by kernel_rfl
  rw [hb] at hz
  have cell : ∀ i : Nat, i < n → (∃ k, cellAt (im w) x 4 i 0 = .int .i64 k) ∧ (∃ s, cellAt (im w) x 4 i 1 = .string s) ∧ (∃ b, cellAt (im w) x 4 i 2 = .bool b) ∧ TrZ enc Tryz.prog w 22 [cellAt (im w) x 4 i 3] := by
    intro i hi
    obtain ⟨_, hc⟩ := (h4 i (by omega) (by omega)).strct Tryz.underlying35 (by kernel_rfl)
    obtain ⟨k0, e0, _⟩ := (hc 0 _ _ rfl rfl).tr.int Tryz.underlying3
    obtain ⟨k1, e1, _⟩ := (hc 1 _ _ rfl rfl).tr.str Tryz.underlying9
    obtain ⟨k2, e2⟩ := (hc 2 _ _ rfl rfl).tr.bool Tryz.underlying4
    exact ⟨⟨k0, by simpa using e0⟩, ⟨k1, by simpa using e1⟩, ⟨k2, by simpa using e2⟩, hc 3 _ _ rfl rfl⟩
  have hprt : ∀ i : Nat, i < n → (ptAt (im w) x i).prt = cellAt (im w) x 4 i 3 ∧ vN (cellAt (im w) x 4 i 3) ≤ 140737488355328 := fun i hi => by
    obtain ⟨_, _, _, hp⟩ := cell i hi
    obtain ⟨A', n', c', e, _, e3⟩ := open_strs hp
    refine ⟨?_, by rw [e]; exact e3⟩
    simp only [PV.prt, ptAt, e, vA, vN, vC]
  refine ⟨A, n, c, h1, by omega, ?_, ⟨by simp [ptsAt, prtsAt], fun i hi => ?_⟩, fun i => ?_, fun i => ?_⟩
  · refine h3.ext (by simp [dataAt, Lay.d, ptsAt, hn]) rfl fun i hi j f f' hf hf' => ?_
    have hi' : i < n := hi
    have hg : (ptsAt (im w) x).getD (i : Int).toNat pv0 = ptAt (im w) x i := ptsAt_getD (im w) x (i := i) (by omega)
    obtain ⟨⟨k, e0⟩, ⟨s, e1⟩, ⟨b, e2⟩, _⟩ := cell i hi'
    match j, hf, hf' with
    | 0, hf, hf' =>
      cases hf; cases hf'
      show cellAt (im w) x 4 i 0 = .int .i64 ((ptsAt (im w) x).getD (i : Int).toNat pv0).kind
      rw [hg]; simp only [ptAt, e0, vInt]
    | 1, hf, hf' =>
      cases hf; cases hf'
      show cellAt (im w) x 4 i 1 = .string ((ptsAt (im w) x).getD (i : Int).toNat pv0).text
      rw [hg]; simp only [ptAt, e1, vStr]
    | 2, hf, hf' =>
      cases hf; cases hf'
      show cellAt (im w) x 4 i 2 = .bool ((ptsAt (im w) x).getD (i : Int).toNat pv0).space
      rw [hg]; simp only [ptAt, e2, vBool]
    | 3, hf, hf' =>
      cases hf; cases hf'
      show cellAt (im w) x 4 i 3 = ((ptsAt (im w) x).getD (i : Int).toNat pv0).prt
      rw [hg, (hprt i hi').1]
    | j + 4, hf, hf' => simp [Lay.d, pvY] at hf'
  · rw [ptsAt_len, hn] at hi
    rw [ptsAt_getD _ _ (by omega), prtsAt_getD _ _ (by omega), (hprt i hi).1]
    obtain ⟨_, _, _, hp⟩ := cell i hi
    obtain ⟨_, _, _, _, e, _⟩ := open_strs hp
    exact e
  · rcases Nat.lt_or_ge i n with hi | hi
    · rw [prtsAt_getD _ _ (by omega), strsAt_len]
      have := (hprt i hi).2
      omega
    · rw [List.getD_eq_getElem?_getD, List.getElem?_eq_none (by simp [prtsAt]; omega)]
      exact Nat.zero_le _
  · rcases Nat.lt_or_ge i n with hi | hi
    · rw [ptsAt_getD _ _ (by omega)]
      exact (hprt i hi).2
    · rw [List.getD_eq_getElem?_getD, List.getElem?_eq_none (by simp [ptsAt]; omega)]
      exact Nat.zero_le _
theorem open_macro {cs : Array Value} (hs : cs.size = 5) (h : TrZ enc Tryz.prog w 25 cs.toList) : ∃ (m : MT) (T : List (List ByteArray)) (s : MA), Value.agg cs = mVal m s ∧ MAt (im w) m T s ∧ m.name.size ≤ 140737488355328 ∧ m.ps.length ≤ 140737488355328 ∧ (∀ i, (m.body.getD i pv0).pn ≤ 140737488355328) := by
  obtain ⟨c0, c1, c2, c3, c4, rfl⟩ : ∃ c0 c1 c2 c3 c4, cs = #[c0, c1, c2, c3, c4] := by
    obtain ⟨l⟩ := cs
    match l, hs with
    | [a, b, c, d, e], _ => exact ⟨a, b, c, d, e, rfl⟩
  obtain ⟨_, hc⟩ := h.strct Tryz.underlying25 (by kernel_rfl)
  obtain ⟨nm, e0, z0⟩ := (hc 0 _ _ rfl rfl).str Tryz.underlying9
  obtain ⟨fn, e1⟩ := (hc 1 _ _ rfl rfl).tr.bool Tryz.underlying4
  obtain ⟨A2, n2, k2, e2, s2, z2⟩ := open_strs (hc 2 _ _ rfl rfl)
  obtain ⟨va, e3⟩ := (hc 3 _ _ rfl rfl).tr.bool Tryz.underlying4
  obtain ⟨A4, n4, k4, e4, z4, s4, p4, q4, r4⟩ := open_pts (hc 4 _ _ rfl rfl)
  simp only [List.cons.injEq, and_true] at e0 e1 e3
  subst e0 e1 e3
  have l2 : (strsAt (im w) c2).length = n2 := by rw [strsAt_len, e2]; rfl
  have l4 : (ptsAt (im w) c4).length = n4 := by rw [ptsAt_len, e4]; rfl
  refine ⟨⟨nm, fn, strsAt (im w) c2, va, ptsAt (im w) c4⟩, prtsAt (im w) c4, (A2, k2, A4, k4), ?_, ⟨?_, ?_, p4, ?_, ?_, q4⟩, z0, ?_, r4⟩
  · unfold mVal
    simp only [l2, l4]
    rw [← e2, ← e4]
  · show SlAt _ (.slice A2 (strsAt (im w) c2).length k2) _
    rw [l2, ← e2]; exact s2
  · show SlAt _ (.slice A4 (ptsAt (im w) c4).length k4) _
    rw [l4, ← e4]; exact s4
  · simp only [l2]; omega
  · simp only [l4]; omega
  · simp only [l2]; omega
end
end Go.Proofs.YtnjmkeijjapejaaGreat
namespace Go.Proofs.YtnjmkeijjapejaaGreat
open Go.ChangeShapes Go.WideShapes Go.ChangeAt Go.RowKit Go.GV
theorem own : ownKnob Tryz.prog.godebug = none := by kernel_rfl
theorem laidOut : laidOutB Tryz.prog = true := by kernel_rfl
theorem fMaps : mapsRowed Tryz.prog = true := by kernel_rfl
theorem fHeard : Tryz.prog.stopsHeard = true := by kernel_rfl
theorem fEnter : Tryz.prog.mayEnter = true := by kernel_rfl
theorem fLifts : (Rows.macroTextsRow.lifted == Tryz.prog.liftsFinal) = true := by kernel_rfl
theorem fMake : (Tryz.prog.make == some Rows.macroTextsRow.make) = true := by kernel_rfl
theorem jmk {a0 a1 a2 a3 a4 a5 a6 a7 a8 a9 a10 a11 a12 a13 a14 a15 a16 a17 a18 a19 a20 a21 a22 a23 a24 a25 a26 a27 a28 a29 a30 a31 : Bool} (h0 : a0 = true) (h1 : a1 = true) (h2 : a2 = true) (h3 : a3 = true) (h4 : a4 = true) (h5 : a5 = true) (h6 : a6 = true) (h7 : a7 = true) (h8 : a8 = true) (h9 : a9 = true) (h10 : a10 = true) (h11 : a11 = true) (h12 : a12 = true) (h13 : a13 = true) (h14 : a14 = true) (h15 : a15 = true) (h16 : a16 = true) (h17 : a17 = true) (h18 : a18 = true) (h19 : a19 = true) (h20 : a20 = true) (h21 : a21 = true) (h22 : a22 = true) (h23 : a23 = true) (h24 : a24 = true) (h25 : a25 = true) (h26 : a26 = true) (h27 : a27 = true) (h28 : a28 = true) (h29 : a29 = true) (h30 : a30 = true) (h31 : a31 = true) :
    (a0 && a1 && a2 && a3 && a4 && a5 && a6 && a7 && a8 && a9 && a10 && a11 && a12 && a13 && a14 && a15 && a16 && a17 && a18 && a19 && a20 && a21 && a22 && a23 && a24 && a25 && a26 && a27 && a28 && a29 && a30 && a31) = true := by simp only [h0, h1, h2, h3, h4, h5, h6, h7, h8, h9, h10, h11, h12, h13, h14, h15, h16, h17, h18, h19, h20, h21, h22, h23, h24, h25, h26, h27, h28, h29, h30, h31, Bool.and_self]
end Go.Proofs.YtnjmkeijjapejaaGreat
namespace Go.Proofs.YtnjmkeijjapejaaGreat
open Go.ChangeShapes Go.WideShapes Go.ChangeAt Go.RowKit Go.GV
set_option maxRecDepth 100000 in
theorem lifted (os : Os) (started : os.Started) (H : Type) (enc : TypeId × Value → H) :
    ReturnsInHanded {} Tryz.checked os 3 .any (Rows.macroTextsSpec.pre6 enc Tryz.prog Tryz.f3 Rows.macroTextsRow.domain false) (Rows.macroTextsSpec.post enc Tryz.prog Tryz.f3 false true false false) := by
  refine returnsInHanded_of_change_shaped (C := Tryz.checked) own started (by kernel_rfl) Tryz.func3
    (ChangeSpec.witness6 (enc := enc) (C := Tryz.checked) false ⟨#[], #[.agg #[.string ⟨#[]⟩, .bool false, .slice none 0 0, .bool false, .slice none 0 0], .agg #[.string ⟨#[]⟩, .bool false, .slice none 0 0, .bool false, .slice none 0 0]], []⟩ 8 (by kernel_rfl) (by kernel_rfl) (by kernel_rfl) (by kernel_rfl)) ?_
  intro W base args ds gs before hval0 hW hcnd hz hsh _
  have hval : ∀ (j : Nat) t v, Tryz.f3.params[j]? = some t → args[j]? = some v → Value.okWide Tryz.prog W .any base t v := hval0
  have hW' := hW
  obtain ⟨p, q, hA0, hV, rfl, hfz, hnd⟩ := hW
  have hA : DataW.TrodAll enc Tryz.prog W 0 (fun _ => true) true Tryz.f3.params.toList args.toList ds p := hA0
  rw [Tryz.params3] at hA hval hz
  obtain ⟨v0, vs0, d0, ds0, p0, q0, hargs, rfl, rfl, h0, r0⟩ := trodAll_cons hA
  obtain ⟨v1, vs1, d1, ds1, p1, q1, rfl, rfl, rfl, h1, r1⟩ := trodAll_cons r0
  obtain ⟨rfl, rfl, rfl⟩ := trodAll_nil r1
  obtain rfl : args = #[v0, v1] := by cases args; simp_all
  obtain ⟨rfl, rfl⟩ := trodVars_none hV
  obtain ⟨x0, rfl, hs0⟩ := okWide_struct Tryz.underlying25 (hval 0 25 v0 rfl rfl)
  obtain ⟨x1, rfl, hs1⟩ := okWide_struct Tryz.underlying25 (hval 1 25 v1 rfl rfl)
  have lt0 : ∀ x ∈ p0, x.block < W.heap.size := by obtain ⟨m, hm⟩ := h0; exact DataW.trod_lt m _ _ _ hm
  have lt1 : ∀ x ∈ p1, x.block < W.heap.size := by obtain ⟨m, hm⟩ := h1; exact DataW.trod_lt m _ _ _ hm
  have hg : Glob (im W) := Tryz.laysM143.s1_3 W hsh
  have hc0 : x0.size = 5 := hs0.trans (by kernel_rfl)
  have hT0 : TrZ enc Tryz.prog W 25 x0.toList := TrZ.of (j := 0) hz rfl rfl h0
  have hc1 : x1.size = 5 := hs1.trans (by kernel_rfl)
  have hT1 : TrZ enc Tryz.prog W 25 x1.toList := TrZ.of (j := 1) hz rfl rfl h1
  obtain ⟨m, T, s, em, hm, n1, n2, n3⟩ := open_macro hc0 hT0
  obtain ⟨o, To, so, eo, ho, o1, o2, o3⟩ := open_macro hc1 hT1
  have key : Calls Tryz.prog 3 #[.agg x0, .agg x1] W (PureP W fun v _ => v = .bool true) := by
    rw [em, eo]; exact macroTexts_any m o T To s so W hm ho n1 o1 n3 o3 hg
  clear hA0 hval0
  refine (key).mono fun e W' ⟨v, he, bel, hv⟩ => ?_
  subst he hv
  exact ⟨_, rfl, _, _, _, [], _, [], hW', trodAll_mk1 (shut_bool Tryz.underlying4 _), (trodAll_cons_mk (Below.trod laidOut (by kernel_rfl) (of_decide_eq_true (by kernel_rfl)) h0 bel lt0) (trodAll_cons_mk (Below.trod laidOut (by kernel_rfl) (of_decide_eq_true (by kernel_rfl)) h1 bel lt1) trodAll_mk0)), rfl, bel.frame _, fun h => by cases h⟩
theorem c9 : (Rows.macroTextsRow.inPlace == Tryz.prog.inPlace 3) = true := by kernel_rfl
theorem c10 : (Rows.macroTextsRow.unfollowed == Tryz.prog.unfollowed 3) = true := by kernel_rfl
theorem c11 : (Rows.macroTextsRow.recurses == Tryz.prog.recurses 3) = true := by kernel_rfl
theorem c12 : (Rows.macroTextsRow.named == Tryz.prog.varsNamed 3) = true := by kernel_rfl
theorem closed : joinedFacts Tryz.prog 3 Tryz.f3 Rows.macroTextsSpec Rows.macroTextsRow = true :=
  jmk (by kernel_rfl) laidOut fMaps (by kernel_rfl) (by kernel_rfl) (by kernel_rfl) (by kernel_rfl) (by kernel_rfl) (by kernel_rfl) c9 c10 c11 c12 (by kernel_rfl) (by kernel_rfl) (by kernel_rfl) (by kernel_rfl) (by kernel_rfl) (by kernel_rfl) (by kernel_rfl) (by kernel_rfl) (by kernel_rfl) (by kernel_rfl) (by kernel_rfl) fHeard fEnter fLifts fMake (by kernel_rfl) (by kernel_rfl) (by kernel_rfl) (by kernel_rfl)
theorem named : Tryz.prog.funcNamed Rows.macroTextsRow.func = some 3 := by kernel_rfl
theorem inst : Tryz.f3.isInstance Tryz.prog Rows.macroTextsRow.origin Rows.macroTextsRow.targs := of_decide_eq_true (by kernel_rfl)
theorem wrap : Tryz.f3.isWrapper Tryz.prog Rows.macroTextsRow.wrapper Rows.macroTextsRow.mainSum := by unfold Func.isWrapper; first | (rw [if_pos (by decide +kernel)]; kernel_rfl) | (rw [if_neg (by decide +kernel)]; exact ⟨rfl, rfl⟩)
theorem over : Rows.macroTextsRow.holds Tryz.pinned (OpenSpec.ofChange Rows.macroTextsSpec) :=
  OpenClaim.holds_of_wide 3 Tryz.f3 rfl rfl rfl rfl rfl rfl rfl ⟨rfl, rfl, rfl, rfl, rfl⟩ rfl rfl rfl rfl rfl named Tryz.func3 closed inst wrap
    (fun os started H enc _ => lifted os started H enc)
theorem macroTexts_proved : Rows.MacroTextsSaid := over
#print axioms macroTexts_proved
end Go.Proofs.YtnjmkeijjapejaaGreat
