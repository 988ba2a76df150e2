/- The examples of the chapter on lines: what they ask. -/
import Derived.Test.YtdonomneofdhfaaJ2
import Derived.Test.YtdonomneofdhfaaA2
import Derived.Test.YtdonomneofdhfaaGC
namespace Go.Proofs.Ytdonomneofdhfaa
open Go.GV Go.RowKit

theorem zip_getD {L : List RowV} {T : List (List Tok)} (h : L.length = T.length) (i : Nat) : (L.zip T).getD i it0 = (L.getD i row0, T.getD i []) := by
  simp only [List.getD_eq_getElem?_getD]
  rcases Nat.lt_or_ge i L.length with hi | hi
  · rw [List.getElem?_eq_getElem (by rw [List.length_zip]; omega), List.getElem_zip, List.getElem?_eq_getElem hi, List.getElem?_eq_getElem (by omega)]; rfl
  · rw [List.getElem?_eq_none (by rw [List.length_zip]; omega), List.getElem?_eq_none hi, List.getElem?_eq_none (by omega)]; rfl

theorem zip_length {L : List RowV} {T : List (List Tok)} (h : L.length = T.length) : (L.zip T).length = L.length := by rw [List.length_zip]; omega

theorem slZip {u : Im} {x : Value} {L : List RowV} {T : List (List Tok)} (hx : SlAt u x (rowY.d L)) (h : L.length = T.length) : SlAt u x (itY.d (L.zip T)) := by
  refine hx.ext (by rw [Lay.d_n, Lay.d_n, zip_length h]) rfl fun i hi j f f' hf hf' => ?_
  have e := zip_getD h (i : Int).toNat
  match j, hf, hf' with
  | 0, hf, hf' =>
    cases hf; cases hf'
    show Value.bool (L.getD (i : Int).toNat row0).dir = .bool ((L.zip T).getD (i : Int).toNat it0).1.dir
    rw [e]
  | 1, hf, hf' =>
    cases hf; cases hf'
    show Value.string (L.getD (i : Int).toNat row0).name = .string ((L.zip T).getD (i : Int).toNat it0).1.name
    rw [e]
  | 2, hf, hf' =>
    cases hf; cases hf'
    show (L.getD (i : Int).toNat row0).toks = ((L.zip T).getD (i : Int).toNat it0).1.toks
    rw [e]
  | j + 3, hf, hf' => simp [Lay.d] at hf'

theorem ToksAt.zip {u : Im} {L : List RowV} {T : List (List Tok)} (h : ToksAt u L T) : ItAt u (L.zip T) := fun i hi => by
  rw [zip_length h.1] at hi
  rw [zip_getD h.1]
  exact h.2 i hi

theorem ItSm.zip {L : List RowV} {T : List (List Tok)} (h : L.length = T.length) (hz : ∀ i : Nat, (T.getD i []).length * 48 ≤ 140737488355328) : ItSm (L.zip T) := fun i => by
  rw [zip_getD h]; exact hz i

/-- what counts of an item -/
def same1 (p q : It) : Prop := p.1.key = q.1.key ∧ p.2 = q.2
theorem says_same {p q : It} (h : same1 p q) : says p = says q := by
  obtain ⟨h1, h2⟩ := h
  simp only [RowV.key, Prod.mk.injEq] at h1
  simp only [says, saysV, h1.1, h1.2, h2]
theorem blank_same {p q : It} (h : same1 p q) : blank p = blank q := by
  obtain ⟨h1, h2⟩ := h
  simp only [RowV.key, Prod.mk.injEq] at h1
  simp only [blank, h1.1, h2]
theorem rel_same {k : Bool} {p q p' q' : It} (h : same1 p q) (h' : same1 p' q') : relR k p p' = relR k q q' := by
  have a := says_same h
  have b := says_same h'
  obtain ⟨h1, h2⟩ := h
  obtain ⟨h3, h4⟩ := h'
  simp only [RowV.key, Prod.mk.injEq] at h1 h3
  simp only [relR, h1.1, h1.2, h3.1, h3.2, a, b]

def sameL : List It → List It → Prop
  | p :: I, q :: J => same1 p q ∧ sameL I J
  | [], [] => True
  | _, _ => False

theorem sameL_nb : ∀ {I J : List It}, sameL I J → sameL (nb I) (nb J)
  | [], [], _ => trivial
  | [], _ :: _, h => h.elim
  | _ :: _, [], h => h.elim
  | p :: I, q :: J, h => by
    have e := blank_same h.1
    cases hb : blank p with
    | true => rw [nb_blank hb, nb_blank (e ▸ hb)]; exact sameL_nb h.2
    | false => rw [nb_not hb, nb_not (e ▸ hb)]; exact ⟨h.1, sameL_nb h.2⟩

theorem sameL_all2 {k : Bool} : ∀ {I J I' J' : List It}, sameL I J → sameL I' J' → all2 (relR k) I I' = all2 (relR k) J J'
  | [], [], [], [], _, _ => rfl
  | [], [], _ :: _, _ :: _, _, _ => rfl
  | _ :: _, _ :: _, [], [], _, _ => rfl
  | _ :: _, _ :: _, _ :: _, _ :: _, h, h' => by
    simp only [all2, rel_same h.1 h'.1, sameL_all2 h.2 h'.2]
  | [], _ :: _, _, _, h, _ => h.elim
  | _ :: _, [], _, _, h, _ => h.elim
  | [], [], [], _ :: _, _, h => h.elim
  | [], [], _ :: _, [], _, h => h.elim
  | _ :: _, _ :: _, [], _ :: _, _, h => h.elim
  | _ :: _, _ :: _, _ :: _, [], _, h => h.elim

theorem alike_same {k : Bool} {I J I' J' : List It} (h : sameL I J) (h' : sameL I' J') : alikeV k I I' = alikeV k J J' := sameL_all2 (sameL_nb h) (sameL_nb h')

theorem sameL_zip : ∀ {L L' : List RowV} {T : List (List Tok)}, L.map RowV.key = L'.map RowV.key → sameL (L.zip T) (L'.zip T)
  | [], [], _, _ => trivial
  | [], _ :: _, _, h => by simp at h
  | _ :: _, [], _, h => by simp at h
  | _ :: _, _ :: _, [], _ => trivial
  | r :: L, r' :: L', t :: T, h => by
    simp only [List.map_cons, List.cons.injEq] at h
    exact ⟨⟨h.1, rfl⟩, sameL_zip h.2⟩

/-- rows by what counts of them -/
def rowV (r : RowT) : RowV := ⟨r.dir, r.name, none, 0, 0⟩
def itT (R : List RowT) : List It := (R.map rowV).zip (R.map RowT.ts)
def alikeT (keep : Bool) (R S : List RowT) : Bool := alikeV keep (itT R) (itT S)
theorem rowV_key (R : List RowT) : (R.map rowV).map RowV.key = R.map RowT.key := by rw [List.map_map]; rfl
theorem alikeT_of {V W : List RowV} {R S : List RowT} (keep : Bool) (hV : V.map RowV.key = R.map RowT.key) (hW : W.map RowV.key = S.map RowT.key) :
    alikeV keep (V.zip (R.map RowT.ts)) (W.zip (S.map RowT.ts)) = alikeT keep R S :=
  alike_same (sameL_zip (hV.trans (rowV_key R).symm)) (sameL_zip (hW.trans (rowV_key S).symm))

theorem alikeRows_any (keep : Bool) (V W : List RowV) (R S : List RowT) (x y : Value) (w : World) (hx : SlAt (im w) x (rowY.d V)) (hy : SlAt (im w) y (rowY.d W)) (hT : ToksAt (im w) V (R.map RowT.ts)) (hS : ToksAt (im w) W (S.map RowT.ts))
    (hV : V.map RowV.key = R.map RowT.key) (hW : W.map RowV.key = S.map RowT.key) (zR : ∀ i : Nat, ((R.map RowT.ts).getD i []).length * 48 ≤ 140737488355328) (zS : ∀ i : Nat, ((S.map RowT.ts).getD i []).length * 48 ≤ 140737488355328)
    (lR : R.length ≤ 9223372036854775806) (lS : S.length ≤ 9223372036854775806) :
    Calls Try.prog 60 #[x, y, .bool keep] w (PureP w fun v _ => v = .bool (alikeT keep R S)) := by
  rw [← alikeT_of keep hV hW]
  have h1 : V.length = R.length := by have := hT.1; simpa using this
  have h2 : W.length = S.length := by have := hS.1; simpa using this
  exact alike_any keep _ _ x y w (slZip hx hT.1) (slZip hy hS.1) hT.zip hS.zip (ItSm.zip hT.1 zR) (ItSm.zip hS.1 zS) (by rw [zip_length hT.1]; omega) (by rw [zip_length hS.1]; omega)

/-- do the rows of a text nest so? -/
def nestsB (s want : ByteArray) : Bool :=
  let V := (rowsOf (scanT s)).map rowV
  if dErr V = 0 then decide (((dOut V).length : Int) = want.size) && (List.range (dOut V).length).all fun j => decide ((dOut V).getD j 0 = bt want j - 48)
  else decide (want = ⟨#[]⟩) && decide (dErr V = 81) && decide (((dOut V).length : Int) = 0)
end Go.Proofs.Ytdonomneofdhfaa
