/- The law's own function: whether two lists of rows say the same is the document's. -/
import Derived.Test.YtebnccdegjdfiaaA3
namespace Go.Proofs.Ytebnccdegjdfiaa
open Go.GV Go.RowKit

theorem zip_getD {L : List RowV} {T : List (List Tok)} (h : L.length = T.length) (i : Nat) : (L.zip T).getD i it0 = (L.getD i row0, T.getD i []) := by
  simp only [List.getD_eq_getElem?_getD]
  rcases Nat.lt_or_ge i L.length with hi | hi
  · rw [List.getElem?_eq_getElem (by rw [List.length_zip]; omega), List.getElem_zip, List.getElem?_eq_getElem hi, List.getElem?_eq_getElem (by omega)]; rfl
  · rw [List.getElem?_eq_none (by rw [List.length_zip]; omega), List.getElem?_eq_none hi, List.getElem?_eq_none (by omega)]; rfl

theorem zip_length {L : List RowV} {T : List (List Tok)} (h : L.length = T.length) : (L.zip T).length = L.length := by rw [List.length_zip]; omega

theorem slZip {u : Im} {x : Value} {L : List RowV} {T : List (List Tok)} (hx : SlAt u x (rowY.d L)) (h : L.length = T.length) : SlAt u x (itY.d (L.zip T)) := by
  refine hx.ext (by rw [Lay.d_n, Lay.d_n, zip_length h]) rfl fun i hi j f f' hf hf' => ?_
  have e := zip_getD h (i : Int).toNat
  match j, hf, hf' with
  | 0, hf, hf' =>
    cases hf; cases hf'
    show Value.bool (L.getD (i : Int).toNat row0).dir = .bool ((L.zip T).getD (i : Int).toNat it0).1.dir
    rw [e]
  | 1, hf, hf' =>
    cases hf; cases hf'
    show Value.string (L.getD (i : Int).toNat row0).name = .string ((L.zip T).getD (i : Int).toNat it0).1.name
    rw [e]
  | 2, hf, hf' =>
    cases hf; cases hf'
    show (L.getD (i : Int).toNat row0).toks = ((L.zip T).getD (i : Int).toNat it0).1.toks
    rw [e]
  | j + 3, hf, hf' => simp [Lay.d] at hf'

theorem ToksAt.zip {u : Im} {L : List RowV} {T : List (List Tok)} (h : ToksAt u L T) : ItAt u (L.zip T) := fun i hi => by
  rw [zip_length h.1] at hi
  rw [zip_getD h.1]
  exact h.2 i hi

theorem ItSm.zip {L : List RowV} {T : List (List Tok)} (h : L.length = T.length) (hz : ∀ i : Nat, (T.getD i []).length * 48 ≤ 140737488355328) : ItSm (L.zip T) := fun i => by
  rw [zip_getD h]; exact hz i

/-- what counts of an item -/
def same1 (p q : It) : Prop := p.1.key = q.1.key ∧ p.2 = q.2
theorem says_same {p q : It} (h : same1 p q) : says p = says q := by
  obtain ⟨h1, h2⟩ := h
  simp only [RowV.key, Prod.mk.injEq] at h1
  simp only [says, saysV, h1.1, h1.2, h2]
theorem blank_same {p q : It} (h : same1 p q) : blank p = blank q := by
  obtain ⟨h1, h2⟩ := h
  simp only [RowV.key, Prod.mk.injEq] at h1
  simp only [blank, h1.1, h2]
theorem rel_same {k : Bool} {p q p' q' : It} (h : same1 p q) (h' : same1 p' q') : relR k p p' = relR k q q' := by
  have a := says_same h
  have b := says_same h'
  obtain ⟨h1, h2⟩ := h
  obtain ⟨h3, h4⟩ := h'
  simp only [RowV.key, Prod.mk.injEq] at h1 h3
  simp only [relR, h1.1, h1.2, h3.1, h3.2, a, b]

def sameL : List It → List It → Prop
  | p :: I, q :: J => same1 p q ∧ sameL I J
  | [], [] => True
  | _, _ => False

theorem sameL_nb : ∀ {I J : List It}, sameL I J → sameL (nb I) (nb J)
  | [], [], _ => trivial
  | [], _ :: _, h => h.elim
  | _ :: _, [], h => h.elim
  | p :: I, q :: J, h => by
    have e := blank_same h.1
    cases hb : blank p with
    | true => rw [nb_blank hb, nb_blank (e ▸ hb)]; exact sameL_nb h.2
    | false => rw [nb_not hb, nb_not (e ▸ hb)]; exact ⟨h.1, sameL_nb h.2⟩

theorem sameL_all2 {k : Bool} : ∀ {I J I' J' : List It}, sameL I J → sameL I' J' → all2 (relR k) I I' = all2 (relR k) J J'
  | [], [], [], [], _, _ => rfl
  | [], [], _ :: _, _ :: _, _, _ => rfl
  | _ :: _, _ :: _, [], [], _, _ => rfl
  | _ :: _, _ :: _, _ :: _, _ :: _, h, h' => by
    simp only [all2, rel_same h.1 h'.1, sameL_all2 h.2 h'.2]
  | [], _ :: _, _, _, h, _ => h.elim
  | _ :: _, [], _, _, h, _ => h.elim
  | [], [], [], _ :: _, _, h => h.elim
  | [], [], _ :: _, [], _, h => h.elim
  | _ :: _, _ :: _, [], _ :: _, _, h => h.elim
  | _ :: _, _ :: _, _ :: _, [], _, h => h.elim

theorem alike_same {k : Bool} {I J I' J' : List It} (h : sameL I J) (h' : sameL I' J') : alikeV k I I' = alikeV k J J' := sameL_all2 (sameL_nb h) (sameL_nb h')

theorem sameL_zip : ∀ {L L' : List RowV} {T : List (List Tok)}, L.map RowV.key = L'.map RowV.key → sameL (L.zip T) (L'.zip T)
  | [], [], _, _ => trivial
  | [], _ :: _, _, h => by simp at h
  | _ :: _, [], _, h => by simp at h
  | _ :: _, _ :: _, [], _ => trivial
  | r :: L, r' :: L', t :: T, h => by
    simp only [List.map_cons, List.cons.injEq] at h
    exact ⟨⟨h.1, rfl⟩, sameL_zip h.2⟩

theorem sameL_refl : ∀ I : List It, sameL I I
  | [] => trivial
  | _ :: I => ⟨⟨rfl, rfl⟩, sameL_refl I⟩

theorem eqFrom_refl (sp : Bool) : ∀ (f : Bool) (L : List Tok), eqFrom sp f L L = true
  | _, [] => rfl
  | f, a :: x => by
    simp only [eqFrom, eqFrom_refl sp false x, Bool.and_true, tokEqB, decide_true]

theorem all2_refl {k : Bool} : ∀ I : List It, all2 (relR k) I I = true
  | [] => rfl
  | p :: I => by
    simp only [all2, relR, decide_true, Bool.true_and, eqToks, eqFrom_refl, all2_refl I]

theorem alike_refl (k : Bool) (I : List It) : alikeV k I I = true := all2_refl _

set_option maxRecDepth 100000 in
theorem linesAlike_any (keep : Bool) (L M : List RowV) (T S : List (List Tok)) (x y : Value) (w : World) (hx : SlAt (im w) x (rowY.d L)) (hy : SlAt (im w) y (rowY.d M)) (hT : ToksAt (im w) L T) (hS : ToksAt (im w) M S)
    (hL : L.length * 48 ≤ 140737488355328) (hM : M.length * 48 ≤ 140737488355328)
    (zT : ∀ i : Nat, (T.getD i []).length * 48 ≤ 140737488355328) (zS : ∀ i : Nat, (S.getD i []).length * 48 ≤ 140737488355328) :
    Calls Try.prog 5 #[x, y, .bool keep] w (PureP w fun v _ => v = .bool true) := by
  refine x_fun tt_ok Try.func5 rfl rfl [(x, rowY.d L), (y, rowY.d M)] 2 [.r 0, .r 1, .v (.bool keep)] rfl rfl rfl rfl (fun b hb => by simp at hb; rcases hb with rfl | rfl <;> assumption) ?_
  refine x_vc tt_ok ?_
  refine xl_call (fun v u => ∃ L', SlAt u v (rowY.d L') ∧ ToksAt u L' T ∧ L'.map RowV.key = L.map RowV.key) rfl rfl rfl rfl fn18 rfl rfl
    (fun E w F hs => twin_any L T _ w (hs.slAt (k := 0) rfl) (hT.sub ⟨fun b o hb => hs.imm.h b o hb⟩) hL zT) ?_
  rintro v u1 u hu hu1 ⟨L', e1, e2, e3⟩
  have hsub : u1.sub u := hu1.trans (cut_sub _ u)
  refine xl_go tt_ok ?_
  refine xl_call (fun v u => ∃ L', SlAt u v (rowY.d L') ∧ ToksAt u L' S ∧ L'.map RowV.key = M.map RowV.key) rfl rfl rfl rfl fn18 rfl rfl
    (fun E w F hs => twin_any M S _ w (hs.slAt (k := 1) rfl) ((hS.sub hu.sub).sub ⟨fun b o hb => hs.imm.h b o hb⟩) hM zS) ?_
  rintro v2 u2 u3 hu2 hu3 ⟨M', f1, f2, f3⟩
  have hsub2 : u2.sub u3 := hu3.trans (cut_sub _ u3)
  have e1' := (e1.sub hsub).le hu2
  have e2' := (e2.sub hsub).sub hu2.sub
  have f1' := f1.sub hsub2
  have f2' := f2.sub hsub2
  have hw := hu.trans hu2
  have hT' := hT.sub hw.sub
  have hS' := hS.sub hw.sub
  have im' : ∀ {E w F}, Sat E [(0, .sl (rowY.d L)), (1, .sl (rowY.d M))] 2 u3 [] w F → u3.sub (im w) := fun hs => ⟨fun b o hb => hs.imm.h b o hb⟩
  have hlL : L'.length = L.length := by rw [hT.1, e2.1]
  have hlM : M'.length = M.length := by rw [hS.1, f2.1]
  have a1 : alikeV keep (L'.zip T) (M'.zip S) = alikeV keep (L.zip T) (M.zip S) := alike_same (sameL_zip e3) (sameL_zip f3)
  have a2 : alikeV keep (L'.zip T) (L.zip T) = true := by
    rw [alike_same (sameL_zip e3) (sameL_refl _)]; exact alike_refl _ _
  have zL := zip_length hT.1
  have zM := zip_length hS.1
  have zL' := zip_length e2.1
  have zM' := zip_length f2.1
  refine xl_go tt_ok ?_
  refine xl_call0 (.bool (alikeV keep (L.zip T) (M.zip S))) rfl rfl rfl rfl fn23 rfl rfl (fun E w F hs => by
    rw [← a1]
    exact alike_any keep (L'.zip T) (M'.zip S) _ _ w (slZip (e1'.imm hs.imm) e2.1) (slZip (f1'.imm hs.imm) f2.1) (e2'.zip.sub (im' hs)) (f2'.zip.sub (im' hs)) (.zip e2.1 zT) (.zip f2.1 zS) (by omega) (by omega)) ?_
  refine xl_go tt_ok ?_
  refine xl_call0 (.bool true) rfl rfl rfl rfl fn23 rfl rfl (fun E w F hs => by
    rw [← a2]
    exact alike_any keep (L'.zip T) (L.zip T) _ _ w (slZip (e1'.imm hs.imm) e2.1) (slZip (hs.slAt (k := 0) rfl) hT.1) (e2'.zip.sub (im' hs)) (hT'.zip.sub (im' hs)) (.zip e2.1 zT) (.zip hT.1 zT) (by omega) (by omega)) ?_
  refine xl_go tt_ok ?_
  refine xl_call0 (.bool (alikeV keep (L.zip T) (M.zip S))) rfl rfl rfl rfl fn24 rfl rfl (fun E w F hs =>
    refAlike_any keep (L.zip T) (M.zip S) _ _ w (slZip (hs.slAt (k := 0) rfl) hT.1) (slZip (hs.slAt (k := 1) rfl) hS.1) (hT'.zip.sub (im' hs)) (hS'.zip.sub (im' hs)) (.zip hT.1 zT) (.zip hS.1 zS) (by omega) (by omega)) ?_
  refine xl_go tt_ok ?_
  refine xl_gcall0 (.bool true) rfl rfl rfl rfl fn22 rfl rfl (fun _ E w F hs => sameRows_any L' L T _ _ w (e1'.imm hs.imm) (hs.slAt (k := 0) rfl) (e2'.sub (im' hs)) (hT'.sub (im' hs)) e3 (by omega) (fun i => by have := zT i; omega)) ?_
  refine xl_go tt_ok ?_
  refine xl_gcall0 (.bool true) rfl rfl rfl rfl fn22 rfl rfl (fun _ E w F hs => sameRows_any M' M S _ _ w (f1'.imm hs.imm) (hs.slAt (k := 1) rfl) (f2'.sub (im' hs)) (hS'.sub (im' hs)) f3 (by omega) (fun i => by have := zS i; omega)) ?_
  refine xl_go tt_ok ?_
  refine fin1 (fun _ _ => ?_)
  show Value.bool (decide (alikeV keep (L.zip T) (M.zip S) = alikeV keep (L.zip T) (M.zip S)) && true && true && true) = _
  simp
end Go.Proofs.Ytebnccdegjdfiaa
