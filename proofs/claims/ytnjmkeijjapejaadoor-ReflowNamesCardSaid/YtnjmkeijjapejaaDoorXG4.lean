/- The statement of ReflowNames, out of its walk: for any input the law answers true, and the input stays. -/
import Derived.Test.YtnjmkeijjapejaaDoorXG3
import Derived.Test.YtnjmkeijjapejaaDoorCards
import Derived.ProofKit
import Derived.OpenShut
import Derived.ShutString
import Derived.ChangeOld
import Derived.Below
import Derived.SizedLaws
import Derived.HandedShaped
import Derived.Handed
import Derived.Lay
import Derived.LaidLaws
import Derived.LaidMore
import Derived.Test.YtnjmkeijjapejaaDoorRows
import Derived.Test.YtnjmkeijjapejaaDoorTie
import Derived.SevenTiedAt
set_option linter.unusedSimpArgs false
set_option linter.unusedVariables false
namespace Go.Proofs.YtnjmkeijjapejaaDoor
open Go.GV Go.RowKit
def joinT (L : List ByteArray) (sep : ByteArray) : ByteArray := ⟨(Lib.join (L.map (·.data.toList)) sep.data.toList).toArray⟩
theorem joinT_size (L : List ByteArray) (sep : ByteArray) : (joinT L sep).size = (Lib.join (L.map (·.data.toList)) sep.data.toList).length := by
  show (joinT L sep).data.size = _
  simp [joinT]
theorem join_any (L : List ByteArray) (x : Value) (sep : ByteArray) (w : World) (hx : SlAt (im w) x (strY.d L)) (hL : L.length ≤ 140737488355328) (hz : (joinT L sep).size ≤ 140737488355328) :
    Calls Tryd.prog 38 #[x, .string sep] w (PureP w fun v _ => v = .string (joinT L sep)) := by
  obtain ⟨A, c, rfl, h2, h3, h4⟩ := hx
  by_cases h0 : L.length = 0
  · have hl : L = [] := List.eq_nil_of_length_eq_zero h0
    subst hl
    refine (Tryd.strings_Join_none A c sep w).mono fun e w' ⟨h5, h6⟩ => ?_
    subst h6
    exact ⟨_, h5, Below.refl _ _, rfl⟩
  · obtain ⟨ad, rfl, h6⟩ := h4 (by show 0 < L.length; omega)
    have hcell : ∀ (j : Nat) x, L[j]? = some x → (im w).cell? (ad.add j) = some (.string x) := by
      intro j x hj
      have hjl : j < L.length := (List.getElem?_eq_some_iff.1 hj).1
      have := h6 j hjl 0 _ rfl
      have e1 : L.getD (j : Int).toNat (⟨#[]⟩ : ByteArray) = x := by
        rw [List.getD_eq_getElem?_getD, Int.toNat_natCast, hj]; rfl
      have e2 : j * (strY.d L).cs.length + 0 = j := by show j * 1 + 0 = j; omega
      rw [e2] at this
      rw [this]
      show some (Value.string (L.getD (j : Int).toNat ⟨#[]⟩)) = _
      rw [e1]
    obtain ⟨bk, o, sp⟩ := ad
    have h7 := hcell 0 (L.getD 0 ⟨#[]⟩) (by rw [List.getD_eq_getElem?_getD, List.getElem?_eq_getElem (by omega)]; rfl)
    have hsp : sp = none := by
      cases sp with
      | none => rfl
      | some q =>
        exfalso
        unfold Addr.add at h7
        rw [if_pos rfl] at h7
        unfold Im.cell? at h7
        split at h7
        · simp at h7
        · cases h7
    subst hsp
    have hbk : bk < w.heap.size := by
      unfold Im.cell? Addr.add at h7
      rw [if_pos rfl] at h7
      split at h7
      · rename_i h8
        exact (Array.getElem?_eq_some_iff.1 h8).1
      · cases h7
    refine (Tryd.strings_Join bk o c L sep w (fun j x hj => ?_) hbk hL (by exact h2) (by rw [← joinT_size]; exact hz)).mono fun e w' ⟨h5, h8⟩ => ⟨_, h5, h8, rfl⟩
    have h9 := hcell j x hj
    rw [← h9]
    show w.cell? _ = w.cell? _
    congr 1
    unfold Addr.add
    by_cases hj0 : j = 0
    · subst hj0; rfl
    · rw [if_neg (by simpa using hj0)]
def blB : ByteArray := ⟨#[32]⟩
def bgB : ByteArray := ⟨#[47, 42, 32]⟩
def ltB : ByteArray := ⟨#[32, 42, 32]⟩
def eoB : ByteArray := ⟨#[32, 42, 47]⟩
def emB : ByteArray := ⟨#[47, 42, 32, 42, 47]⟩
def stB : ByteArray := ⟨#[32, 42]⟩
def oneRow (p : List ByteArray) : ByteArray := bgB ++ joinT p blB ++ eoB
def badF (s : ByteArray) (ind col : Int) : Bool := (((!(insP s).2 || decide (ind < 0)) || decide (256 < ind)) || decide (col < 1)) || decide (4096 < col)
def rowsF (room : Int) : Bool → Par → List ByteArray
  | _, [] => []
  | first, p :: r => (if first then [] else [stB]) ++ (fillP (if first then bgB else ltB) p room ++ rowsF room false r)
def fillsP (s : ByteArray) (ind col : Int) : List ByteArray × Int :=
  if badF s ind col then ([], 2)
  else if keptB (insP s).1 then (splitP s, 0)
  else if parP (insP s).1 = [] then ([emB], 0)
  else if (parP (insP s).1).length = 1 ∧ ((oneRow ((parP (insP s).1).getD 0 [])).size : Int) ≤ col - ind then ([oneRow ((parP (insP s).1).getD 0 [])], 0)
  else (rowsF (col - ind) true (parP (insP s).1) ++ [eoB], 0)
structure SmallP (s : ByteArray) : Prop where
  size : s.size ≤ 4294967280
  isize : (insP s).1.size < 4294967281
  tot : ((wsOf (insP s).1).map List.length).sum * 24 + 100 ≤ 140737488355328
  lin : ∀ x ∈ linesP (insP s).1, x.size ≤ 281474976710656 ∧ ∀ y ∈ wordsP x, y.size ≤ 281474976710656
  par : ∀ p ∈ parP (insP s).1, bySum p ≤ 1000000000000
  num : (parP (insP s).1).length + szR (parP (insP s).1) ≤ 100000000000
theorem addW_ne {st : Par × Bool} {y : ByteArray} (h : ∀ p ∈ st.1, p ≠ []) : ∀ p ∈ (addW st y).1, p ≠ [] := by
  intro p hp
  unfold addW at hp
  simp only at hp
  rw [List.mem_iff_getElem?] at hp
  obtain ⟨i, hi⟩ := hp
  rw [List.getElem?_set] at hi
  split at hi
  · split at hi
    · cases hi; simp
    · cases hi
  · rename_i hne
    unfold opn at hi hne
    split at hi
    · exact h p (List.mem_of_getElem? hi)
    · rename_i hb
      rw [if_neg hb] at hne
      simp only [List.length_append, List.length_singleton, Nat.add_sub_cancel] at hne
      rcases Nat.lt_or_ge i st.1.length with h1 | h1
      · rw [List.getElem?_append_left h1] at hi
        exact h p (List.mem_of_getElem? hi)
      · have := (List.getElem?_eq_some_iff.1 hi).1
        simp at this
        omega
theorem foldW_ne : ∀ (ws : List ByteArray) (st : Par × Bool), (∀ p ∈ st.1, p ≠ []) → ∀ p ∈ (ws.foldl addW st).1, p ≠ []
  | [], _, h => h
  | y :: r, st, h => foldW_ne r (addW st y) (addW_ne h)
theorem parP_ne (s : ByteArray) : ∀ p ∈ parP s, p ≠ [] := by
  have : ∀ (L : List (List ByteArray)) (st : Par × Bool), (∀ p ∈ st.1, p ≠ []) → ∀ p ∈ (L.foldl parLine st).1, p ≠ [] := by
    intro L
    induction L with
    | nil => exact fun st h => h
    | cons x L ih =>
      intro st h
      refine ih _ ?_
      unfold parLine
      split
      · exact h
      · exact foldW_ne x st h
  exact this _ _ (fun p hp => by cases hp)
theorem fillP_len (lead : ByteArray) (p : List ByteArray) (room : Int) : (fillP lead p room).length ≤ p.length := by
  unfold fillP
  split
  · exact Nat.le_refl _
  · rename_i y r
    have := fillF_len room r (lead.data.toList ++ y.data.toList)
    simp only [List.length_cons]; exact this
theorem join_size : ∀ p : List ByteArray, (joinT p blB).size ≤ bySum p
  | [] => Nat.zero_le _
  | y :: r => by
    rw [joinT_size, List.map_cons, Lib.join_cons, List.length_append]
    have : ∀ r : List ByteArray, (Lib.joinTail blB.data.toList (r.map (·.data.toList))).length ≤ bySum r := by
      intro r
      induction r with
      | nil => exact Nat.le_refl _
      | cons z r ih =>
        simp only [Lib.joinTail, List.map_cons, List.flatten_cons, List.length_append, bySum, List.sum_cons] at ih ⊢
        have e : z.data.toList.length = z.size := Array.length_toList
        have e2 : blB.data.toList.length = 1 := rfl
        omega
    have h1 := this r
    have e : y.data.toList.length = y.size := Array.length_toList
    have e3 : bySum (y :: r) = y.size + 4 + bySum r := rfl
    omega
theorem take_rows (room : Int) : ∀ (R : Par) (first : Bool) (i : Nat) (p : List ByteArray), R[i]? = some p → rowsF room first (R.take (i + 1)) = rowsF room first (R.take i) ++ ((if (first && decide (i = 0)) then [] else [stB]) ++ fillP (if (first && decide (i = 0)) then bgB else ltB) p room)
  | [], _, _, _, h => by simp at h
  | q :: R, first, 0, p, h => by
    simp only [List.getElem?_cons_zero, Option.some.injEq] at h
    subst h
    cases first <;> simp [rowsF]
  | q :: R, first, i + 1, p, h => by
    simp only [List.getElem?_cons_succ] at h
    have := take_rows room R false i p h
    simp only [List.take_succ_cons, rowsF, this, Bool.false_and, Bool.false_eq_true, if_false]
    rw [show decide (i + 1 = 0) = false from rfl, Bool.and_false]
    simp [List.append_assoc]
def leadF : Nat → ByteArray
  | 0 => bgB
  | _ + 1 => ltB
theorem leadF_size : ∀ i : Nat, (leadF i).size ≤ 3 ∧ 1 ≤ (leadF i).size
  | 0 => by show bgB.size ≤ 3 ∧ 1 ≤ bgB.size; decide
  | _ + 1 => by show ltB.size ≤ 3 ∧ 1 ≤ ltB.size; decide
theorem rowsF_len (room : Int) : ∀ (R : Par) (f : Bool), (rowsF room f R).length ≤ R.length + szR R
  | [], _ => Nat.zero_le _
  | p :: R, f => by
    have h1 := rowsF_len room R false
    have h2 := fillP_len (if f then bgB else ltB) p room
    have h3 : szR (p :: R) = p.length + szR R := rfl
    simp only [rowsF, List.length_append, List.length_cons]
    have h4 : (if f = true then ([] : List ByteArray) else [stB]).length ≤ 1 := by cases f <;> simp
    omega
theorem szR_take : ∀ (R : Par) (i : Nat), szR (R.take i) ≤ szR R
  | [], i => by simp
  | p :: R, 0 => Nat.zero_le _
  | p :: R, i + 1 => by
    have := szR_take R i
    have h3 : szR (p :: R) = p.length + szR R := rfl
    have h4 : szR ((p :: R).take (i + 1)) = p.length + szR (R.take i) := rfl
    omega
theorem take_rows0 (room : Int) {R : Par} {i : Nat} {p : List ByteArray} (h : R[i]? = some p) : rowsF room true (R.take (i + 1)) = rowsF room true (R.take i) ++ ((if i = 0 then [] else [stB]) ++ fillP (leadF i) p room) := by
  rw [take_rows room R true i p h]
  cases i with
  | zero => rfl
  | succ i => rfl
theorem getD_ofP {α : Type} {L : List α} {i : Nat} {x d : α} (h : L[i]? = some x) : L.getD i d = x := by
  rw [List.getD_eq_getElem?_getD, h]; rfl
set_option maxRecDepth 100000 in
theorem keptX_any (s : ByteArray) (w : World) (hg : Glob (im w)) (hz : s.size ≤ 4294967280) :
    Calls Tryd.prog 13 #[.string s] w (PureP w fun v _ => v = .tuple #[.bool ((insP s).2 && keptB (insP s).1), .int .i64 (if (insP s).2 then 0 else 2)]) := by
  refine x_fun tt_ok Tryd.func13 rfl rfl [] 0 [.v (.string s)] rfl rfl rfl rfl (fun b hb => by cases hb) ?_
  refine x_vc tt_ok ?_
  refine xl_call0 (.tuple #[.string (insP s).1, .bool (insP s).2]) rfl rfl rfl rfl fn34 rfl rfl (fun E w F hs => inside_any s hz w (hg.imm hs.imm)) ?_
  generalize insP s = q
  obtain ⟨a, b⟩ := q
  cases b
  · refine xl_go tt_ok ?_
    refine x_ift rfl ?_
    exact fin1 (fun _ _ => rfl)
  · refine xl_go tt_ok ?_
    refine x_iff rfl ?_
    refine xl_call0 (.bool (keptB a)) rfl rfl rfl rfl fn35 rfl rfl (fun E w F _ => kept_any a w) ?_
    refine xl_go tt_ok ?_
    exact fin1 (fun _ _ => by simp only [Bool.true_and, if_true]; rfl)
set_option maxHeartbeats 1000000 in
set_option maxRecDepth 100000 in
theorem fills_any (s : ByteArray) (ind col : Int) (w : World) (hg : Glob (im w)) (hS : SmallP s) :
    Calls Tryd.prog 12 #[.string s, .int .i64 ind, .int .i64 col] w (PureP w (OwnT 9 (strY.d (fillsP s ind col).1) [.int .i64 (fillsP s ind col).2])) := by
  have hz := hS.size
  refine x_fun tt_ok Tryd.func12 rfl rfl [] 0 [.v (.string s), .v (.int .i64 ind), .v (.int .i64 col)] rfl rfl rfl rfl (fun b hb => by cases hb) ?_
  refine x_vc tt_ok ?_
  refine xl_call0 (.tuple #[.string (insP s).1, .bool (insP s).2]) rfl rfl rfl rfl fn34 rfl rfl (fun E w F hs => inside_any s hz w (hg.imm hs.imm)) ?_
  refine xl_go tt_ok ?_
  refine x_if (fun h => ?_) (fun h => ?_)
  · have h : badF s ind col = true := h
    rw [fillsP, if_pos h]
    exact finO2n strY
  · have h : badF s ind col = false := h
    have hv : (insP s).2 = true ∧ 0 ≤ ind ∧ ind ≤ 256 ∧ 1 ≤ col ∧ col ≤ 4096 := by
      simp only [badF, Bool.or_eq_false_iff, Bool.not_eq_false', decide_eq_false_iff_not] at h
      exact ⟨h.1.1.1.1, by omega, by omega, by omega, by omega⟩
    rw [fillsP, if_neg (by rw [h]; decide)]
    refine xl_call0 (.bool (keptB (insP s).1)) rfl rfl rfl rfl fn35 rfl rfl (fun E w F _ => kept_any (insP s).1 w) ?_
    refine xl_go tt_ok ?_
    refine x_if (fun h2 => ?_) (fun h2 => ?_)
    · have h2 : keptB (insP s).1 = true := h2
      rw [if_pos h2]
      refine xl_callO 9 (strY.d (splitP s)) rfl rfl rfl rfl fn36 rfl rfl (fun E w F hs' => split_own s w (by omega) (hg.imm hs'.imm)) ?_
      refine xl_go tt_ok ?_
      exact finO2 (k := 0) rfl
    · have h2 : keptB (insP s).1 = false := h2
      rw [if_neg (by rw [h2]; decide)]
      generalize hR : parP (insP s).1 = R
      have hRne : ∀ p ∈ R, p ≠ [] := by rw [← hR]; exact parP_ne _
      have hpar : ∀ p ∈ R, bySum p ≤ 1000000000000 := by rw [← hR]; exact hS.par
      have hnum : R.length + szR R ≤ 100000000000 := by rw [← hR]; exact hS.num
      refine xl_callStar (σ := Option Addr × Nat × List SlV) (fun s => .slice s.1 R.length s.2.1) (fun s => itemsP s.2.2 R ++ [⟨.slice s.1 R.length s.2.1, 23, slY.d s.2.2⟩]) (fun s => s.2.2.length = R.length) rfl rfl rfl rfl fn37 rfl rfl (fun E w F hs' => by
        have := paragraphs_any (insP s).1 w (hg.imm hs'.imm) hS.isize hS.tot hS.lin
        rw [hR] at this
        exact this) (fun ⟨A, cc, V⟩ hVR => ?_)
      have hVR : V.length = R.length := hVR
      refine xl_freezeStar 0 (sl := itemsP V R ++ [(⟨.slice A R.length cc, 23, slY.d V⟩ : SI)]) rfl (fun u1 hu1 hfr => ?_)
      have hOut : SlAt u1 (.slice A R.length cc) (slY.d V) := (hfr _ (List.mem_append_right _ (List.mem_singleton.2 rfl))).1
      have hIn : ∀ (i : Nat) p, R[i]? = some p → SlAt u1 (V.getD i ⟨none, 0, 0⟩).val (strY.d p) := fun i p hp => by
        have hil : i < R.length := (List.getElem?_eq_some_iff.1 hp).1
        have := hfr _ (List.mem_append_left _ (List.mem_of_getElem? (itemsP_get (V := V) (R := R) (i := i) (by omega) hil)))
        rw [getD_ofP hp] at this
        exact this.1
      refine xl_go tt_ok ?_
      refine x_if (fun h3 => ?_) (fun h3 => ?_)
      · have h3 : ((R.length : Nat) : Int) = 0 := of_decide_eq_true h3
        rw [if_pos (List.eq_nil_of_length_eq_zero (by omega))]
        refine xl_build tt_ok strY [emB] [_] rfl rfl rfl rfl rfl rfl rfl rfl rfl rfl rfl rfl rfl rfl rfl ?_
        refine xl_go tt_ok ?_
        exact finO2 (k := 1) rfl
      · have h3 : ¬ ((R.length : Nat) : Int) = 0 := of_decide_eq_false h3
        rw [if_neg (fun hh => h3 (by rw [hh]; rfl))]
        have hVl : ((slY.d V).n : Int) = R.length := by rw [Lay.d_n, hVR]
        repeat (refine And.intro ?_ ?_; first | omega | (simp only [Lay.d_n]; omega) | (simp only [decide_eq_true_eq, decide_eq_false_iff_not, Bool.or_eq_false_iff, Bool.and_eq_true, Bool.or_eq_true, Bool.and_eq_false_iff, Bool.not_eq_true', Bool.not_eq_false', Lay.d_n]; omega) | (simp only [decide_eq_true_eq, decide_eq_false_iff_not, Bool.or_eq_false_iff, Bool.and_eq_true, Bool.or_eq_true, Bool.and_eq_false_iff, Bool.not_eq_true', Bool.not_eq_false']; omega) | (simp only [decide_eq_true_eq, decide_eq_false_iff_not, Bool.or_eq_false_iff]; simp only [Lay.d_n]; omega))
        refine x_if (fun h4 => ?_) (fun h4 => ?_)
        · have h4 : R.length = 1 := by have := of_decide_eq_true h4; omega
          have hp0 : R[0]? = some (R.getD 0 []) := by rw [List.getD_eq_getElem?_getD, List.getElem?_eq_getElem (by omega)]; rfl
          have hin0 := hIn 0 _ hp0
          have hb0 := hpar _ (List.mem_of_getElem? hp0)
          have hj0 := join_size (R.getD 0 [])
          have hn0 : (R.getD 0 []).length ≤ szR R := getD_sz (by omega)
          refine xl_sl 56 rfl hOut ?_
          refine xl_go tt_ok ?_
          repeat (refine And.intro ?_ ?_; first | omega | (simp only [Lay.d_n]; omega) | (simp only [decide_eq_true_eq, decide_eq_false_iff_not, Bool.or_eq_false_iff, Bool.and_eq_true, Bool.or_eq_true, Bool.and_eq_false_iff, Bool.not_eq_true', Bool.not_eq_false', Lay.d_n]; omega) | (simp only [decide_eq_true_eq, decide_eq_false_iff_not, Bool.or_eq_false_iff, Bool.and_eq_true, Bool.or_eq_true, Bool.and_eq_false_iff, Bool.not_eq_true', Bool.not_eq_false']; omega) | (simp only [decide_eq_true_eq, decide_eq_false_iff_not, Bool.or_eq_false_iff]; simp only [Lay.d_n]; omega))
          refine xl_call0 (.string (joinT (R.getD 0 []) blB)) rfl rfl rfl rfl fn38 rfl rfl (fun E w F hs' => join_any _ _ blB w (hin0.imm hs'.imm) (by omega) (by omega)) ?_
          refine xl_go tt_ok ?_
          have hc1 : (⟨#[47, 42, 32]⟩ : ByteArray).size = 3 := rfl
          have hc2 : (⟨#[32, 42, 47]⟩ : ByteArray).size = 3 := rfl
          have hc3 : ((⟨#[47, 42, 32]⟩ : ByteArray) ++ joinT (R.getD 0 []) blB).size = 3 + (joinT (R.getD 0 []) blB).size := by rw [ByteArray.size_append]; rfl
          have hc4 : ((⟨#[47, 42, 32]⟩ : ByteArray) ++ joinT (R.getD 0 []) blB ++ ⟨#[32, 42, 47]⟩).size = 3 + (joinT (R.getD 0 []) blB).size + 3 := by rw [ByteArray.size_append, hc3]; rfl
          repeat (refine And.intro ?_ ?_; first | omega | (simp only [Lay.d_n]; omega) | (simp only [decide_eq_true_eq, decide_eq_false_iff_not, Bool.or_eq_false_iff, Bool.and_eq_true, Bool.or_eq_true, Bool.and_eq_false_iff, Bool.not_eq_true', Bool.not_eq_false', Lay.d_n]; omega) | (simp only [decide_eq_true_eq, decide_eq_false_iff_not, Bool.or_eq_false_iff, Bool.and_eq_true, Bool.or_eq_true, Bool.and_eq_false_iff, Bool.not_eq_true', Bool.not_eq_false']; omega) | (simp only [decide_eq_true_eq, decide_eq_false_iff_not, Bool.or_eq_false_iff]; simp only [Lay.d_n]; omega))
          refine x_if (fun h5 => ?_) (fun h5 => ?_)
          · have h5 : ((oneRow (R.getD 0 [])).size : Int) ≤ col - ind := of_decide_eq_true h5
            rw [if_pos ⟨h4, h5⟩]
            refine xl_build tt_ok strY [oneRow (R.getD 0 [])] [_] rfl rfl rfl rfl rfl rfl rfl rfl rfl rfl rfl rfl rfl rfl rfl ?_
            refine xl_go tt_ok ?_
            exact finO2 (k := 2) rfl
          · have h5 : ¬ ((oneRow (R.getD 0 [])).size : Int) ≤ col - ind := of_decide_eq_false h5
            rw [if_neg (fun hh => h5 hh.2)]
            refine x_nil 13 9 strY rfl ?_
            refine x_sl 68 rfl hOut ?_
            refine x_loop (σ := Nat × List ByteArray) (fun (i, done) => ⟨[(70, .v (.int .i64 (i : Int))), (69, .v (.int .i64 (R.length : Int))), (68, .r 8), (14, .v (.string (leadF i))), (13, .r 9), (11, .v (.int .i64 (col - ind)))], [],
                [(9, .row 9 (strY.d done)), (8, .sl (slY.d V))], 10⟩)
              (fun (i, done) _ => i ≤ R.length ∧ done = rowsF (col - ind) true (R.take i)) (fun (i, _) => R.length - i) (fun _ => of_decide_eq_true rfl) (0, []) [(9, some 2), (8, some 3)] (.of rfl rfl rfl rfl rfl rfl) ⟨Nat.zero_le _, rfl⟩ ?_
            rintro ⟨i, done⟩ u3 hu3 ⟨g1, g2⟩
            have hdl : done.length ≤ 200000000000 := by
              have e1 := rowsF_len (col - ind) (R.take i) true
              have e2 := szR_take R i
              have e3 : (R.take i).length ≤ R.length := by rw [List.length_take]; omega
              rw [g2]; omega
            refine x_vc tt_ok ?_
            refine x_if (fun h6 => ?_) (fun h6 => ?_)
            · have h6 : (i : Int) < (R.length : Int) := of_decide_eq_true h6
              have hil : i < R.length := by omega
              obtain ⟨p, hp⟩ : ∃ p, R[i]? = some p := ⟨_, List.getElem?_eq_getElem hil⟩
              have hnext := take_rows0 (col - ind) hp
              have hpm := List.mem_of_getElem? hp
              have hpb := hpar p hpm
              have hin3 := (hIn i p hp).le hu3
              obtain ⟨Ai, ci, hval, hin4⟩ : ∃ Ai ci, (V.getD ((i : Nat) : Int).toNat ⟨none, 0, 0⟩).val = .slice Ai p.length ci ∧ SlAt u3 (.slice Ai p.length ci) (strY.d p) := by
                obtain ⟨Ai, ci, h7, h8⟩ := id hin3
                rw [Int.toNat_natCast]
                rw [h7] at hin3
                exact ⟨Ai, ci, h7, hin3⟩
              have hVi : ((i : Nat) : Int) < (slY.d V).n := by rw [Lay.d_n, hVR]; exact h6
              have hpb2 : bySum p ≤ 1000000000000 := by omega
              repeat (refine And.intro ?_ ?_; first | omega | (simp only [Lay.d_n]; omega) | (simp only [decide_eq_true_eq, decide_eq_false_iff_not, Bool.or_eq_false_iff, Bool.and_eq_true, Bool.or_eq_true, Bool.and_eq_false_iff, Bool.not_eq_true', Bool.not_eq_false', Lay.d_n]; omega) | (simp only [decide_eq_true_eq, decide_eq_false_iff_not, Bool.or_eq_false_iff, Bool.and_eq_true, Bool.or_eq_true, Bool.and_eq_false_iff, Bool.not_eq_true', Bool.not_eq_false']; omega) | (simp only [decide_eq_true_eq, decide_eq_false_iff_not, Bool.or_eq_false_iff]; simp only [Lay.d_n]; omega))
              refine x_if (fun h7 => ?_) (fun h7 => ?_)
              · have h7 : (0 : Int) < (i : Int) := of_decide_eq_true h7
                rw [if_neg (by omega)] at hnext
                refine xl_push tt_ok strY done stB 16 (cs := [.string stB]) rfl rfl rfl rfl rfl rfl rfl rfl rfl rfl rfl rfl (by kernel_rfl) rfl rfl rfl rfl rfl (fun n hn => by cases hn; decide) rfl rfl rfl (by omega) (by omega) ?_
                refine xl_go tt_ok ?_
                refine xl_callSCR (fill_scr (done ++ [stB]) p (leadF i) Ai ci (col - ind) (hRne p hpm) (leadF_size i) hpb2 (by rw [List.length_append]; show done.length + 1 ≤ _; omega)) (fun u u' hu h => h.sub hu) hin4 [10] rfl rfl rfl rfl fn39
                  (congrArg (fun z => some [SV.r 10, SV.v (.string (leadF i)), SV.v z, SV.v (.int .i64 (col - ind))]) hval) rfl rfl rfl rfl rfl rfl (fun _ => rfl) (fun _ u4 hu4 _ => ?_)
                refine xl_go tt_ok ?_
                repeat (refine And.intro ?_ ?_; first | omega | (simp only [Lay.d_n]; omega) | (simp only [decide_eq_true_eq, decide_eq_false_iff_not, Bool.or_eq_false_iff, Bool.and_eq_true, Bool.or_eq_true, Bool.and_eq_false_iff, Bool.not_eq_true', Bool.not_eq_false', Lay.d_n]; omega) | (simp only [decide_eq_true_eq, decide_eq_false_iff_not, Bool.or_eq_false_iff, Bool.and_eq_true, Bool.or_eq_true, Bool.and_eq_false_iff, Bool.not_eq_true', Bool.not_eq_false']; omega) | (simp only [decide_eq_true_eq, decide_eq_false_iff_not, Bool.or_eq_false_iff]; simp only [Lay.d_n]; omega))
                refine again (i + 1, done ++ [stB] ++ fillP (leadF i) p (col - ind)) [(9, some 11)] (.of rfl rfl rfl rfl rfl rfl) ⟨hil, by rw [hnext, ← g2, List.append_assoc]⟩ (by show R.length - (i + 1) < R.length - i; omega)
              · have h7 : ¬ (0 : Int) < (i : Int) := of_decide_eq_false h7
                have ei : i = 0 := by omega
                subst ei
                rw [if_pos rfl] at hnext
                refine xl_callSCR (fill_scr done p bgB Ai ci (col - ind) (hRne p hpm) (leadF_size 0) hpb2 (by omega)) (fun u u' hu h => h.sub hu) hin4 [9] rfl rfl rfl rfl fn39
                  (congrArg (fun z => some [SV.r 9, SV.v (.string bgB), SV.v z, SV.v (.int .i64 (col - ind))]) hval) rfl rfl rfl rfl rfl rfl (fun _ => rfl) (fun _ u4 hu4 _ => ?_)
                refine xl_go tt_ok ?_
                repeat (refine And.intro ?_ ?_; first | omega | (simp only [Lay.d_n]; omega) | (simp only [decide_eq_true_eq, decide_eq_false_iff_not, Bool.or_eq_false_iff, Bool.and_eq_true, Bool.or_eq_true, Bool.and_eq_false_iff, Bool.not_eq_true', Bool.not_eq_false', Lay.d_n]; omega) | (simp only [decide_eq_true_eq, decide_eq_false_iff_not, Bool.or_eq_false_iff, Bool.and_eq_true, Bool.or_eq_true, Bool.and_eq_false_iff, Bool.not_eq_true', Bool.not_eq_false']; omega) | (simp only [decide_eq_true_eq, decide_eq_false_iff_not, Bool.or_eq_false_iff]; simp only [Lay.d_n]; omega))
                refine again (0 + 1, done ++ fillP bgB p (col - ind)) [(9, some 10)] (.of rfl rfl rfl rfl rfl rfl) ⟨hil, by rw [hnext, ← g2]; rfl⟩ (by show R.length - (0 + 1) < R.length - 0; omega)
            · have h6 : ¬ (i : Int) < (R.length : Int) := of_decide_eq_false h6
              have ei : i = R.length := by omega
              subst ei
              rw [List.take_length] at g2
              rw [← g2]
              refine xl_push tt_ok strY done eoB 16 (cs := [.string eoB]) rfl rfl rfl rfl rfl rfl rfl rfl rfl rfl rfl rfl (by kernel_rfl) rfl rfl rfl rfl rfl (fun n hn => by cases hn; decide) rfl rfl rfl (by omega) (by omega) ?_
              refine xl_go tt_ok ?_
              exact finO2 (k := 10) rfl
        · have h4 : ¬ R.length = 1 := by have := of_decide_eq_false h4; omega
          rw [if_neg (fun hh => h4 hh.1)]
          refine x_nil 13 9 strY rfl ?_
          refine x_sl 68 rfl hOut ?_
          refine x_loop (σ := Nat × List ByteArray) (fun (i, done) => ⟨[(70, .v (.int .i64 (i : Int))), (69, .v (.int .i64 (R.length : Int))), (68, .r 8), (14, .v (.string (leadF i))), (13, .r 9), (11, .v (.int .i64 (col - ind)))], [],
              [(9, .row 9 (strY.d done)), (8, .sl (slY.d V))], 10⟩)
            (fun (i, done) _ => i ≤ R.length ∧ done = rowsF (col - ind) true (R.take i)) (fun (i, _) => R.length - i) (fun _ => of_decide_eq_true rfl) (0, []) [(9, some 1), (8, some 2)] (.of rfl rfl rfl rfl rfl rfl) ⟨Nat.zero_le _, rfl⟩ ?_
          rintro ⟨i, done⟩ u3 hu3 ⟨g1, g2⟩
          have hdl : done.length ≤ 200000000000 := by
            have e1 := rowsF_len (col - ind) (R.take i) true
            have e2 := szR_take R i
            have e3 : (R.take i).length ≤ R.length := by rw [List.length_take]; omega
            rw [g2]; omega
          refine x_vc tt_ok ?_
          refine x_if (fun h6 => ?_) (fun h6 => ?_)
          · have h6 : (i : Int) < (R.length : Int) := of_decide_eq_true h6
            have hil : i < R.length := by omega
            obtain ⟨p, hp⟩ : ∃ p, R[i]? = some p := ⟨_, List.getElem?_eq_getElem hil⟩
            have hnext := take_rows0 (col - ind) hp
            have hpm := List.mem_of_getElem? hp
            have hpb := hpar p hpm
            have hin3 := (hIn i p hp).le hu3
            obtain ⟨Ai, ci, hval, hin4⟩ : ∃ Ai ci, (V.getD ((i : Nat) : Int).toNat ⟨none, 0, 0⟩).val = .slice Ai p.length ci ∧ SlAt u3 (.slice Ai p.length ci) (strY.d p) := by
              obtain ⟨Ai, ci, h7, h8⟩ := id hin3
              rw [Int.toNat_natCast]
              rw [h7] at hin3
              exact ⟨Ai, ci, h7, hin3⟩
            have hVi : ((i : Nat) : Int) < (slY.d V).n := by rw [Lay.d_n, hVR]; exact h6
            have hpb2 : bySum p ≤ 1000000000000 := by omega
            repeat (refine And.intro ?_ ?_; first | omega | (simp only [Lay.d_n]; omega) | (simp only [decide_eq_true_eq, decide_eq_false_iff_not, Bool.or_eq_false_iff, Bool.and_eq_true, Bool.or_eq_true, Bool.and_eq_false_iff, Bool.not_eq_true', Bool.not_eq_false', Lay.d_n]; omega) | (simp only [decide_eq_true_eq, decide_eq_false_iff_not, Bool.or_eq_false_iff, Bool.and_eq_true, Bool.or_eq_true, Bool.and_eq_false_iff, Bool.not_eq_true', Bool.not_eq_false']; omega) | (simp only [decide_eq_true_eq, decide_eq_false_iff_not, Bool.or_eq_false_iff]; simp only [Lay.d_n]; omega))
            refine x_if (fun h7 => ?_) (fun h7 => ?_)
            · have h7 : (0 : Int) < (i : Int) := of_decide_eq_true h7
              rw [if_neg (by omega)] at hnext
              refine xl_push tt_ok strY done stB 16 (cs := [.string stB]) rfl rfl rfl rfl rfl rfl rfl rfl rfl rfl rfl rfl (by kernel_rfl) rfl rfl rfl rfl rfl (fun n hn => by cases hn; decide) rfl rfl rfl (by omega) (by omega) ?_
              refine xl_go tt_ok ?_
              refine xl_callSCR (fill_scr (done ++ [stB]) p (leadF i) Ai ci (col - ind) (hRne p hpm) (leadF_size i) hpb2 (by rw [List.length_append]; show done.length + 1 ≤ _; omega)) (fun u u' hu h => h.sub hu) hin4 [10] rfl rfl rfl rfl fn39
                (congrArg (fun z => some [SV.r 10, SV.v (.string (leadF i)), SV.v z, SV.v (.int .i64 (col - ind))]) hval) rfl rfl rfl rfl rfl rfl (fun _ => rfl) (fun _ u4 hu4 _ => ?_)
              refine xl_go tt_ok ?_
              repeat (refine And.intro ?_ ?_; first | omega | (simp only [Lay.d_n]; omega) | (simp only [decide_eq_true_eq, decide_eq_false_iff_not, Bool.or_eq_false_iff, Bool.and_eq_true, Bool.or_eq_true, Bool.and_eq_false_iff, Bool.not_eq_true', Bool.not_eq_false', Lay.d_n]; omega) | (simp only [decide_eq_true_eq, decide_eq_false_iff_not, Bool.or_eq_false_iff, Bool.and_eq_true, Bool.or_eq_true, Bool.and_eq_false_iff, Bool.not_eq_true', Bool.not_eq_false']; omega) | (simp only [decide_eq_true_eq, decide_eq_false_iff_not, Bool.or_eq_false_iff]; simp only [Lay.d_n]; omega))
              refine again (i + 1, done ++ [stB] ++ fillP (leadF i) p (col - ind)) [(9, some 11)] (.of rfl rfl rfl rfl rfl rfl) ⟨hil, by rw [hnext, ← g2, List.append_assoc]⟩ (by show R.length - (i + 1) < R.length - i; omega)
            · have h7 : ¬ (0 : Int) < (i : Int) := of_decide_eq_false h7
              have ei : i = 0 := by omega
              subst ei
              rw [if_pos rfl] at hnext
              refine xl_callSCR (fill_scr done p bgB Ai ci (col - ind) (hRne p hpm) (leadF_size 0) hpb2 (by omega)) (fun u u' hu h => h.sub hu) hin4 [9] rfl rfl rfl rfl fn39
                (congrArg (fun z => some [SV.r 9, SV.v (.string bgB), SV.v z, SV.v (.int .i64 (col - ind))]) hval) rfl rfl rfl rfl rfl rfl (fun _ => rfl) (fun _ u4 hu4 _ => ?_)
              refine xl_go tt_ok ?_
              repeat (refine And.intro ?_ ?_; first | omega | (simp only [Lay.d_n]; omega) | (simp only [decide_eq_true_eq, decide_eq_false_iff_not, Bool.or_eq_false_iff, Bool.and_eq_true, Bool.or_eq_true, Bool.and_eq_false_iff, Bool.not_eq_true', Bool.not_eq_false', Lay.d_n]; omega) | (simp only [decide_eq_true_eq, decide_eq_false_iff_not, Bool.or_eq_false_iff, Bool.and_eq_true, Bool.or_eq_true, Bool.and_eq_false_iff, Bool.not_eq_true', Bool.not_eq_false']; omega) | (simp only [decide_eq_true_eq, decide_eq_false_iff_not, Bool.or_eq_false_iff]; simp only [Lay.d_n]; omega))
              refine again (0 + 1, done ++ fillP bgB p (col - ind)) [(9, some 10)] (.of rfl rfl rfl rfl rfl rfl) ⟨hil, by rw [hnext, ← g2]; rfl⟩ (by show R.length - (0 + 1) < R.length - 0; omega)
          · have h6 : ¬ (i : Int) < (R.length : Int) := of_decide_eq_false h6
            have ei : i = R.length := by omega
            subst ei
            rw [List.take_length] at g2
            rw [← g2]
            refine xl_push tt_ok strY done eoB 16 (cs := [.string eoB]) rfl rfl rfl rfl rfl rfl rfl rfl rfl rfl rfl rfl (by kernel_rfl) rfl rfl rfl rfl rfl (fun n hn => by cases hn; decide) rfl rfl rfl (by omega) (by omega) ?_
            refine xl_go tt_ok ?_
            exact finO2 (k := 10) rfl
end Go.Proofs.YtnjmkeijjapejaaDoor
namespace Go.Proofs.YtnjmkeijjapejaaDoor
open Go.GV Go.RowKit
theorem sub_leP (s : ByteArray) (a b : Int) : (sub s a b).size ≤ s.size := by
  unfold sub
  rw [ByteArray.size_extract]; omega
theorem wsF_len (s : ByteArray) : ∀ (l : List Int) (fr : Int) (i : Nat), (wsF s fr i l).length ≤ l.length + 1
  | [], fr, i => by
    unfold wsF
    split <;> simp
  | c :: r, fr, i => by
    have h1 := wsF_len s r (-1) (i + 1)
    have h2 := wsF_len s r (if fr < 0 then (i : Int) else fr) (i + 1)
    unfold wsF
    split
    · split
      · simp only [List.length_cons]; omega
      · simp only [List.length_cons]; omega
    · simp only [List.length_cons]; omega
theorem wsF_mem (s : ByteArray) : ∀ (l : List Int) (fr : Int) (i : Nat), ∀ y ∈ wsF s fr i l, y.size ≤ s.size
  | [], fr, i, y, hy => by
    unfold wsF at hy
    split at hy
    · rw [List.mem_singleton.1 hy]; exact sub_leP _ _ _
    · cases hy
  | c :: r, fr, i, y, hy => by
    unfold wsF at hy
    split at hy
    · split at hy
      · rcases List.mem_cons.1 hy with rfl | hy
        · exact sub_leP _ _ _
        · exact wsF_mem s r _ _ y hy
      · exact wsF_mem s r _ _ y hy
    · exact wsF_mem s r _ _ y hy
theorem wordsP_len (s : ByteArray) : (wordsP s).length ≤ s.size + 1 := by
  have := wsF_len s (bl s) (-1) 0
  rw [bl_len] at this; exact this
theorem splitB_mem (sep : ByteArray) (save : Nat) : ∀ (k : Nat) (s : ByteArray), ∀ x ∈ Lib.splitB sep save k s, x.size ≤ s.size
  | 0, s, x, hx => by
    rw [Lib.splitB_zero, List.mem_singleton] at hx
    rw [hx]; exact Nat.le_refl _
  | k + 1, s, x, hx => by
    unfold Lib.splitB at hx
    split at hx
    · rw [List.mem_singleton] at hx; rw [hx]; exact Nat.le_refl _
    · rcases List.mem_cons.1 hx with rfl | hx
      · rw [ByteArray.size_extract]; omega
      · have := splitB_mem sep save k _ x hx
        rw [ByteArray.size_extract] at this; omega
theorem trimP_size (s : ByteArray) : (trimP s).size ≤ s.size := by
  unfold trimP Lib.trimLeftF
  split
  · exact Nat.zero_le _
  · rw [ByteArray.size_extract]; omega
theorem starP_size (s : ByteArray) : (starP s).size ≤ s.size := by
  unfold starP
  split
  · exact sub_leP _ _ _
  · exact Nat.le_refl _
theorem linesP_mem (s : ByteArray) : ∀ x ∈ linesP s, x.size ≤ s.size := by
  intro x hx
  unfold linesP at hx
  rw [List.mem_mapIdx] at hx
  obtain ⟨i, hi, rfl⟩ := hx
  have h1 := splitB_mem nlB 0 _ s _ (List.getElem_mem hi)
  unfold lineP
  split
  · exact h1
  · exact Nat.le_trans (starP_size _) (Nat.le_trans (trimP_size _) h1)
theorem sum_le_mul : ∀ (l : List Nat) (M : Nat), (∀ x ∈ l, x ≤ M) → l.sum ≤ l.length * M
  | [], M, _ => by simp
  | x :: l, M, h => by
    have h1 := sum_le_mul l M (fun y hy => h y (List.mem_cons_of_mem _ hy))
    have h2 := h x List.mem_cons_self
    simp only [List.sum_cons, List.length_cons, Nat.succ_mul]
    omega
theorem wsOf_sum (s : ByteArray) : ((wsOf s).map List.length).sum ≤ (s.size + 1) * (s.size + 1) := by
  have h1 := sum_le_mul ((wsOf s).map List.length) (s.size + 1) (fun x hx => by
    rw [List.mem_map] at hx
    obtain ⟨ws, hws, rfl⟩ := hx
    unfold wsOf at hws
    rw [List.mem_map] at hws
    obtain ⟨ln, hln, rfl⟩ := hws
    have := wordsP_len ln
    have := linesP_mem s ln hln
    omega)
  have h2 : ((wsOf s).map List.length).length ≤ s.size + 1 := by
    rw [List.length_map, wsOf, List.length_map, linesP_len]; exact splitP_le s
  exact Nat.le_trans h1 (Nat.mul_le_mul_right _ h2)
theorem foldW_ok : ∀ (ws : List ByteArray) (st : Par × Bool), (st.2 = true → st.1 ≠ []) → st.1.length ≤ szR st.1 → szR (ws.foldl addW st).1 = szR st.1 + ws.length ∧ ((ws.foldl addW st).2 = true → (ws.foldl addW st).1 ≠ []) ∧ (ws.foldl addW st).1.length ≤ szR (ws.foldl addW st).1
  | [], st, h1, h2 => ⟨rfl, h1, h2⟩
  | y :: r, st, h1, h2 => by
    obtain ⟨a1, a2, a3⟩ := addW_ok st y h1 h2
    obtain ⟨b1, b2, b3⟩ := foldW_ok r (addW st y) (fun _ => a2) a3
    exact ⟨by rw [List.foldl_cons, b1, a1, List.length_cons]; omega, b2, b3⟩
theorem foldL_ok : ∀ (L : List (List ByteArray)) (st : Par × Bool), (st.2 = true → st.1 ≠ []) → st.1.length ≤ szR st.1 → szR (L.foldl parLine st).1 = szR st.1 + (L.map List.length).sum ∧ (L.foldl parLine st).1.length ≤ szR (L.foldl parLine st).1
  | [], st, h1, h2 => ⟨rfl, h2⟩
  | x :: L, st, h1, h2 => by
    have key : szR (parLine st x).1 = szR st.1 + x.length ∧ ((parLine st x).2 = true → (parLine st x).1 ≠ []) ∧ (parLine st x).1.length ≤ szR (parLine st x).1 := by
      unfold parLine
      split
      · rename_i hx
        subst hx
        exact ⟨rfl, (fun h => by cases h), h2⟩
      · exact foldW_ok x st h1 h2
    obtain ⟨b1, b2⟩ := foldL_ok L (parLine st x) key.2.1 key.2.2
    exact ⟨by rw [List.foldl_cons, b1, key.1, List.map_cons, List.sum_cons]; omega, b2⟩
theorem addW_mem {Q : ByteArray → Prop} {st : Par × Bool} {y : ByteArray} (h : ∀ p ∈ st.1, ∀ z ∈ p, Q z) (hy : Q y) : ∀ p ∈ (addW st y).1, ∀ z ∈ p, Q z := by
  have ho : ∀ p ∈ opn st, ∀ z ∈ p, Q z := by
    intro p hp
    unfold opn at hp
    split at hp
    · exact h p hp
    · rcases List.mem_append.1 hp with hp | hp
      · exact h p hp
      · rw [List.mem_singleton.1 hp]; intro z hz; cases hz
  intro p hp z hz
  unfold addW at hp
  simp only at hp
  rcases List.mem_or_eq_of_mem_set hp with hp | hp
  · exact ho p hp z hz
  · subst hp
    rcases List.mem_append.1 hz with hz | hz
    · rw [List.getD_eq_getElem?_getD] at hz
      cases hg : (opn st)[(opn st).length - 1]? with
      | none => rw [hg] at hz; cases hz
      | some q => rw [hg] at hz; exact ho q (List.mem_of_getElem? hg) z hz
    · rw [List.mem_singleton.1 hz]; exact hy
theorem foldW_mem {Q : ByteArray → Prop} : ∀ (ws : List ByteArray) (st : Par × Bool), (∀ p ∈ st.1, ∀ z ∈ p, Q z) → (∀ y ∈ ws, Q y) → ∀ p ∈ (ws.foldl addW st).1, ∀ z ∈ p, Q z
  | [], _, h, _ => h
  | y :: r, st, h, hy => foldW_mem r (addW st y) (addW_mem h (hy y List.mem_cons_self)) (fun z hz => hy z (List.mem_cons_of_mem _ hz))
theorem parP_mem {Q : ByteArray → Prop} {s : ByteArray} (h : ∀ x ∈ linesP s, ∀ y ∈ wordsP x, Q y) : ∀ p ∈ parP s, ∀ z ∈ p, Q z := by
  have : ∀ (L : List (List ByteArray)) (st : Par × Bool), (∀ p ∈ st.1, ∀ z ∈ p, Q z) → (∀ ws ∈ L, ∀ y ∈ ws, Q y) → ∀ p ∈ (L.foldl parLine st).1, ∀ z ∈ p, Q z := by
    intro L
    induction L with
    | nil => exact fun st h _ => h
    | cons x L ih =>
      intro st h hx
      refine ih _ ?_ (fun ws hws => hx ws (List.mem_cons_of_mem _ hws))
      unfold parLine
      split
      · exact h
      · exact foldW_mem x st h (hx x List.mem_cons_self)
  refine this _ _ (fun p hp => by cases hp) (fun ws hws => ?_)
  unfold wsOf at hws
  rw [List.mem_map] at hws
  obtain ⟨x, hx, rfl⟩ := hws
  exact h x hx
theorem getP_len {R : Par} : ∀ p ∈ R, p.length ≤ szR R := by
  intro p hp
  obtain ⟨i, hi⟩ := List.mem_iff_getElem?.1 hp
  have := getD_sz (R := R) (i := i) (List.getElem?_eq_some_iff.1 hi).1
  rw [getD_ofP hi] at this; exact this
theorem small_of {s : ByteArray} (h : s.size ≤ 5000) : SmallP s := by
  have hi : (insP s).1.size ≤ 5000 := by
    unfold insP
    split
    · exact Nat.le_trans (sub_leP _ _ _) h
    · exact Nat.zero_le _
  have hl : ∀ x ∈ linesP (insP s).1, x.size ≤ 5000 := fun x hx => Nat.le_trans (linesP_mem _ x hx) hi
  have hw : ∀ x ∈ linesP (insP s).1, ∀ y ∈ wordsP x, y.size ≤ 5000 := fun x hx y hy => Nat.le_trans (wsF_mem x _ _ _ y hy) (hl x hx)
  have ht : ((wsOf (insP s).1).map List.length).sum ≤ 25010001 := Nat.le_trans (wsOf_sum _) (Nat.le_trans (Nat.mul_le_mul (Nat.succ_le_succ hi) (Nat.succ_le_succ hi)) (by decide))
  obtain ⟨h1, h2⟩ := foldL_ok (wsOf (insP s).1) ([], false) (fun h => by cases h) (Nat.le_refl _)
  have hz : szR (parP (insP s).1) ≤ 25010001 := by
    unfold parP; rw [h1]; show 0 + _ ≤ _; omega
  have hz2 : (parP (insP s).1).length ≤ 25010001 := by
    have : (parP (insP s).1).length ≤ szR (parP (insP s).1) := h2
    omega
  refine ⟨by omega, by omega, by omega, fun x hx => ⟨by have := hl x hx; omega, fun y hy => by have := hw x hx y hy; omega⟩, fun p hp => ?_, by omega⟩
  have h3 := getP_len p hp
  have h4 := sum_le_mul (p.map (fun y => y.size + 4)) 5004 (fun x hx => by
    rw [List.mem_map] at hx
    obtain ⟨y, hy, rfl⟩ := hx
    have := parP_mem (Q := fun y => y.size ≤ 5000) hw p hp y hy
    have this : y.size ≤ 5000 := this
    omega)
  rw [List.length_map] at h4
  unfold bySum
  omega
end Go.Proofs.YtnjmkeijjapejaaDoor
namespace Go.Proofs.YtnjmkeijjapejaaDoor
open Go.GV Go.RowKit
theorem take_eq_next {A B : List ByteArray} {i : Nat} {x y : ByteArray} (h : A.take i = B.take i) (ha : A[i]? = some x) (hb : B[i]? = some y) (e : x = y) : A.take (i + 1) = B.take (i + 1) := by
  rw [take_get ha, take_get hb, h, e]
set_option maxRecDepth 100000 in
theorem sameTexts_any (A B : List ByteArray) (x y : Value) (w : World) (hx : SlAt (im w) x (strY.d A)) (hy : SlAt (im w) y (strY.d B)) :
    Calls Tryd.prog 18 #[x, y] w (PureP w fun v _ => v = .bool (decide (A = B))) := by
  have hAl : ((A.length : Nat) : Int) ≤ 9223372036854775807 := by
    obtain ⟨_, c, _, h1, h2, _⟩ := hx
    have : (strY.d A).n ≤ maxLen := Nat.le_trans h1 h2
    rw [Lay.d_n] at this
    simp only [maxLen] at this; omega
  refine x_fun tt_ok Tryd.func18 rfl rfl [(x, strY.d A), (y, strY.d B)] 2 [.r 0, .r 1] rfl rfl rfl rfl (fun b hb => ?_) ?_
  · simp only [List.mem_cons, List.mem_nil_iff, or_false] at hb
    rcases hb with rfl | rfl
    · exact hx
    · exact hy
  refine x_vc tt_ok ?_
  refine x_if (fun h => ?_) (fun h => ?_)
  · have h : ((A.length : Nat) : Int) ≠ B.length := of_decide_eq_true h
    exact fin1 (fun _ _ => by rw [decide_eq_false (fun e => h (by rw [e]))]; rfl)
  · have h : A.length = B.length := by have := of_decide_eq_false h; simp only [ne_eq, Decidable.not_not] at this; exact_mod_cast this
    refine x_loop (σ := Nat) (fun i => ⟨[(5, .v (.int .i64 (i : Int))), (0, .r 0), (1, .r 1)], [], [(0, .sl (strY.d A)), (1, .sl (strY.d B))], 2⟩)
      (fun i _ => i ≤ A.length ∧ A.take i = B.take i) (fun i => A.length - i) (fun _ => Nat.le_refl _) 0 [] (.of rfl rfl rfl rfl rfl rfl) ⟨Nat.zero_le _, rfl⟩ ?_
    rintro i u2 hu2 ⟨g1, g2⟩
    refine x_vc tt_ok ?_
    refine x_if (fun h2 => ?_) (fun h2 => ?_)
    · have h2 : ((i : Nat) : Int) < A.length := of_decide_eq_true h2
      have hB : ((i : Nat) : Int) < B.length := by rw [← h]; exact h2
      obtain ⟨a, ha⟩ : ∃ a, A[i]? = some a := ⟨_, List.getElem?_eq_getElem (by omega)⟩
      obtain ⟨b, hb⟩ : ∃ b, B[i]? = some b := ⟨_, List.getElem?_eq_getElem (by omega)⟩
      refine x_draw mix (by kernel_rfl) (xd_go tt_ok ?_)
      repeat (refine And.intro ?_ ?_; first | omega | (simp only [Lay.d_n]; omega) | (simp only [decide_eq_true_eq, decide_eq_false_iff_not, Bool.or_eq_false_iff, Bool.and_eq_true, Bool.or_eq_true, Bool.and_eq_false_iff, Bool.not_eq_true', Bool.not_eq_false', Lay.d_n]; omega) | (simp only [decide_eq_true_eq, decide_eq_false_iff_not, Bool.or_eq_false_iff, Bool.and_eq_true, Bool.or_eq_true, Bool.and_eq_false_iff, Bool.not_eq_true', Bool.not_eq_false']; omega) | (simp only [decide_eq_true_eq, decide_eq_false_iff_not, Bool.or_eq_false_iff]; simp only [Lay.d_n]; omega))
      refine x_if (fun h3 => ?_) (fun h3 => ?_)
      · have h3 : A.getD ((i : Nat) : Int).toNat ⟨#[]⟩ ≠ B.getD ((i : Nat) : Int).toNat ⟨#[]⟩ := of_decide_eq_true h3
        exact fin1 (fun _ _ => by rw [decide_eq_false (fun e => h3 (by rw [e]))]; rfl)
      · have h3 : A.getD ((i : Nat) : Int).toNat ⟨#[]⟩ = B.getD ((i : Nat) : Int).toNat ⟨#[]⟩ := Classical.not_not.1 (of_decide_eq_false h3)
        rw [Int.toNat_natCast, getD_ofP ha, getD_ofP hb] at h3
        repeat (refine And.intro ?_ ?_; first | omega | (simp only [Lay.d_n]; omega) | (simp only [decide_eq_true_eq, decide_eq_false_iff_not, Bool.or_eq_false_iff, Bool.and_eq_true, Bool.or_eq_true, Bool.and_eq_false_iff, Bool.not_eq_true', Bool.not_eq_false', Lay.d_n]; omega) | (simp only [decide_eq_true_eq, decide_eq_false_iff_not, Bool.or_eq_false_iff, Bool.and_eq_true, Bool.or_eq_true, Bool.and_eq_false_iff, Bool.not_eq_true', Bool.not_eq_false']; omega) | (simp only [decide_eq_true_eq, decide_eq_false_iff_not, Bool.or_eq_false_iff]; simp only [Lay.d_n]; omega))
        exact again (i + 1) [] (.of rfl rfl rfl rfl rfl rfl) ⟨by omega, take_eq_next g2 ha hb h3⟩ (by omega)
    · have h2 : ¬ ((i : Nat) : Int) < A.length := of_decide_eq_false h2
      have e : A = B := by rw [List.take_of_length_le (by omega), List.take_of_length_le (by omega)] at g2; exact g2
      exact fin1 (fun _ _ => by rw [decide_eq_true e]; rfl)
def blankN (s : ByteArray) : Nat := ((bl s).drop 3).countP (fun c => decide (c = 32))
def firstN (s : ByteArray) : Nat := (((bl s).drop 3).takeWhile (fun c => decide (c ≠ 32))).length
set_option maxRecDepth 100000 in
theorem are_any (t : ByteArray) (W : List ByteArray) (x : Value) (w : World) (hg : Glob (im w)) (ht : t.size ≤ 5000) (hx : SlAt (im w) x (strY.d W)) :
    Calls Tryd.prog 23 #[.string t, x] w (PureP w fun v _ => v = .bool (decide ((fillsP t 0 12).2 = 0) && decide ((fillsP t 0 12).1 = W))) := by
  refine x_fun tt_ok Tryd.func23 rfl rfl [(x, strY.d W)] 1 [.v (.string t), .r 0] rfl rfl rfl rfl (fun b hb => ?_) ?_
  · rw [List.mem_singleton.1 hb]; exact hx
  refine x_vc tt_ok ?_
  refine xl_callO2 9 (strY.d (fillsP t 0 12).1) [.int .i64 (fillsP t 0 12).2] rfl rfl rfl rfl fn12 rfl rfl (fun E w F hs => fills_any t 0 12 w (hg.imm hs.imm) (small_of ht)) ?_
  refine xl_go tt_ok ?_
  refine xl_gcall0 (.bool (decide ((fillsP t 0 12).1 = W))) rfl rfl rfl rfl fn18 rfl rfl (fun _ E w F hs => sameTexts_any _ _ _ _ w (hs.rowAt (k := 1) rfl) (hs.slAt (k := 0) rfl)) ?_
  refine xl_go tt_ok ?_
  exact fin1 (fun _ _ => rfl)
def exB : ByteArray := ⟨#[47, 42, 32, 111, 110, 101, 32, 116, 119, 111, 32, 116, 104, 114, 101, 101, 32, 42, 47]⟩
def exW : List ByteArray := [⟨#[47, 42, 32, 111, 110, 101, 32, 116, 119, 111]⟩, ⟨#[32, 42, 32, 116, 104, 114, 101, 101]⟩, ⟨#[32, 42, 47]⟩]
set_option maxRecDepth 100000 in
theorem alive_any (w : World) (hg : Glob (im w)) (hex : fillsP exB 0 12 = (exW, 0)) : Calls Tryd.prog 11 #[] w (PureP w fun v _ => v = .bool true) := by
  refine x_fun tt_ok Tryd.func11 rfl rfl [] 0 [] rfl rfl rfl rfl (fun b hb => by cases hb) ?_
  refine x_vc tt_ok ?_
  refine xl_build tt_ok strY exW [_, _, _] rfl rfl rfl rfl rfl rfl rfl rfl rfl rfl rfl rfl rfl rfl rfl ?_
  refine xl_call0 (.bool true) rfl rfl rfl rfl fn23 rfl rfl (fun E w F hs => by
    have := are_any exB exW _ w (hg.imm hs.imm) (by decide) (hs.rowAt (k := 0) rfl)
    rw [hex] at this
    have h9 : Calls Tryd.prog 23 #[.string exB, E 0] w (PureP w fun v _ => v = .bool true) := by simpa using this
    exact h9) ?_
  refine xl_go tt_ok ?_
  exact fin1 (fun _ _ => rfl)
end Go.Proofs.YtnjmkeijjapejaaDoor
namespace Go.Proofs.YtnjmkeijjapejaaDoor
open Go.GV Go.RowKit
def okR (room : Int) (x : ByteArray) : Prop := 3 < x.size → 0 < blankN x → (x.size : Int) ≤ room
def okP (room : Int) (x y : ByteArray) : Prop := 3 < x.size → 3 < y.size → room < (x.size : Int) + 1 + firstN y
def Good (room : Int) : List ByteArray → Prop
  | [] => True
  | [x] => okR room x
  | x :: y :: t => okR room x ∧ okP room x y ∧ Good room (y :: t)
theorem Good.head {room : Int} {x : ByteArray} {t : List ByteArray} (h : Good room (x :: t)) : okR room x := by
  cases t with
  | nil => exact h
  | cons y t => exact h.1
theorem Good.tail {room : Int} {x : ByteArray} {t : List ByteArray} (h : Good room (x :: t)) : Good room t := by
  cases t with
  | nil => trivial
  | cons y t => exact h.2.2
theorem Good.app {room : Int} {s : ByteArray} {b : List ByteArray} (hs : s.size ≤ 3) (hb : Good room (s :: b)) : ∀ a : List ByteArray, Good room a → Good room (a ++ s :: b)
  | [], _ => hb
  | [x], h => ⟨h, fun _ h3 => by omega, hb⟩
  | x :: y :: t, h => ⟨h.1, h.2.1, Good.app hs hb (y :: t) h.2.2⟩
theorem Good.at {room : Int} : ∀ {L : List ByteArray} (_ : Good room L) {i : Nat} {x : ByteArray}, L[i]? = some x → okR room x ∧ ∀ y, L[i + 1]? = some y → okP room x y
  | [], _, i, x, hx => by simp at hx
  | [z], h, 0, x, hx => by
    simp only [List.getElem?_cons_zero, Option.some.injEq] at hx
    subst hx
    exact ⟨h, fun y hy => by simp at hy⟩
  | [z], h, i + 1, x, hx => by simp at hx
  | z :: y' :: t, h, 0, x, hx => by
    simp only [List.getElem?_cons_zero, Option.some.injEq] at hx
    subst hx
    refine ⟨h.1, fun y hy => ?_⟩
    simp only [List.getElem?_cons_succ, List.getElem?_cons_zero, Option.some.injEq] at hy
    subst hy
    exact h.2.1
  | z :: y' :: t, h, i + 1, x, hx => by
    simp only [List.getElem?_cons_succ] at hx ⊢
    exact Good.at h.2.2 hx
end Go.Proofs.YtnjmkeijjapejaaDoor
namespace Go.Proofs.YtnjmkeijjapejaaDoor
open Go.GV Go.RowKit
theorem ex_ok : fillsP exB 0 12 = (exW, 0) := by kernel_rfl
end Go.Proofs.YtnjmkeijjapejaaDoor
namespace Go.Proofs.YtnjmkeijjapejaaDoor
open Go.GV Go.RowKit
theorem are_true (t : ByteArray) (W : List ByteArray) (x : Value) (w : World) (hg : Glob (im w)) (ht : t.size ≤ 5000) (hx : SlAt (im w) x (strY.d W)) (hex : fillsP t 0 12 = (W, 0)) :
    Calls Tryd.prog 23 #[.string t, x] w (PureP w fun v _ => v = .bool true) := by
  have := are_any t W x w hg ht hx
  rw [hex] at this
  simpa using this
theorem fills_is (t : ByteArray) (a b : Int) (L : List ByteArray) (e : Int) (w : World) (hg : Glob (im w)) (ht : t.size ≤ 5000) (hex : fillsP t a b = (L, e)) :
    Calls Tryd.prog 12 #[.string t, .int .i64 a, .int .i64 b] w (PureP w (OwnT 9 (strY.d L) [.int .i64 e])) := by
  have := fills_any t a b w hg (small_of ht)
  rw [hex] at this
  exact this
set_option maxRecDepth 100000 in
theorem words_bad (s : ByteArray) (w : World) (hg : Glob (im w)) (hz : s.size ≤ 4294967280) (h : (insP s).2 = false) :
    Calls Tryd.prog 16 #[.string s] w (PureP w fun v _ => v = .tuple #[.slice none 0 0, .int .i64 2]) := by
  refine x_fun tt_ok Tryd.func16 rfl rfl [] 0 [.v (.string s)] rfl rfl rfl rfl (fun b hb => by cases hb) ?_
  refine x_vc tt_ok ?_
  refine xl_call0 (.tuple #[.string (insP s).1, .bool (insP s).2]) rfl rfl rfl rfl fn34 rfl rfl (fun E w F hs => inside_any s hz w (hg.imm hs.imm)) ?_
  refine xl_go tt_ok ?_
  refine x_ift (by show (!(insP s).2) = true; rw [h]; rfl) ?_
  exact fin1 (fun _ _ => rfl)
theorem nm_a0 : fillsP ⟨#[47, 42, 97, 42, 47]⟩ 0 12 = ([(⟨#[47, 42, 32, 97, 32, 42, 47]⟩ : ByteArray)], 0) := by kernel_rfl
theorem nm_a1 : fillsP ⟨#[47, 42, 42, 47]⟩ 0 12 = ([(⟨#[47, 42, 32, 42, 47]⟩ : ByteArray)], 0) := by kernel_rfl
theorem nm_a2 : fillsP ⟨#[47, 42, 10, 32, 42, 32, 42, 47]⟩ 0 12 = ([(⟨#[47, 42, 32, 42, 47]⟩ : ByteArray)], 0) := by kernel_rfl
theorem nm_a3 : fillsP ⟨#[47, 42, 97, 10, 32, 42, 32, 98, 10, 10, 32, 42, 32, 42, 32, 99, 42, 47]⟩ 0 12 = ([(⟨#[47, 42, 32, 97, 32, 98]⟩ : ByteArray), (⟨#[32, 42]⟩ : ByteArray), (⟨#[32, 42, 32, 42, 32, 99]⟩ : ByteArray), (⟨#[32, 42, 47]⟩ : ByteArray)], 0) := by kernel_rfl
theorem nm_a4 : fillsP ⟨#[47, 42, 45, 120, 10, 32, 121, 32, 42, 47]⟩ 0 12 = ([(⟨#[47, 42, 45, 120]⟩ : ByteArray), (⟨#[32, 121, 32, 42, 47]⟩ : ByteArray)], 0) := by kernel_rfl
theorem nm_a5 : fillsP ⟨#[47, 42, 97, 98, 99, 100, 101, 102, 103, 104, 105, 106, 107, 108, 32, 109, 42, 47]⟩ 0 12 = ([(⟨#[47, 42, 32, 97, 98, 99, 100, 101, 102, 103, 104, 105, 106, 107, 108]⟩ : ByteArray), (⟨#[32, 42, 32, 109]⟩ : ByteArray), (⟨#[32, 42, 47]⟩ : ByteArray)], 0) := by kernel_rfl
theorem nm_f0 : fillsP ⟨#[47, 47, 32, 97]⟩ 0 12 = ([], 2) := by kernel_rfl
theorem nm_f1 : fillsP ⟨#[47, 42, 97, 42, 47]⟩ (-1) 12 = ([], 2) := by kernel_rfl
theorem nm_f2 : fillsP ⟨#[47, 42, 97, 42, 47]⟩ 257 12 = ([], 2) := by kernel_rfl
theorem nm_f3 : fillsP ⟨#[47, 42, 97, 42, 47]⟩ 0 0 = ([], 2) := by kernel_rfl
theorem nm_f4 : fillsP ⟨#[47, 42, 97, 42, 47]⟩ 0 4097 = ([], 2) := by kernel_rfl
theorem nm_f5 : fillsP ⟨#[47, 42, 97, 42, 47, 32, 42, 47]⟩ 0 12 = ([], 2) := by kernel_rfl
theorem nm_l : fillsP ⟨#[47, 42, 97, 32, 98, 42, 47]⟩ 4 12 = ([(⟨#[47, 42, 32, 97, 32, 98]⟩ : ByteArray), (⟨#[32, 42, 47]⟩ : ByteArray)], 0) := by kernel_rfl
theorem nm_k1 : Value.tuple #[.bool ((insP ⟨#[47, 42, 42, 32, 97, 42, 47]⟩).2 && keptB (insP ⟨#[47, 42, 42, 32, 97, 42, 47]⟩).1), .int .i64 (if (insP ⟨#[47, 42, 42, 32, 97, 42, 47]⟩).2 then 0 else 2)] = .tuple #[.bool true, .int .i64 0] := by kernel_rfl
theorem nm_k2 : Value.tuple #[.bool ((insP ⟨#[47, 42, 32, 42, 32, 97, 42, 47]⟩).2 && keptB (insP ⟨#[47, 42, 32, 42, 32, 97, 42, 47]⟩).1), .int .i64 (if (insP ⟨#[47, 42, 32, 42, 32, 97, 42, 47]⟩).2 then 0 else 2)] = .tuple #[.bool false, .int .i64 0] := by kernel_rfl
theorem nm_w : (insP ⟨#[47, 42]⟩).2 = false := by kernel_rfl
set_option maxHeartbeats 2000000 in
set_option maxRecDepth 100000 in
theorem reflowNames_any (w : World) (hg : Glob (im w)) : Calls Tryd.prog 5 #[] w (PureP w fun v _ => v = .bool true) := by
  refine x_fun tt_ok Tryd.func5 rfl rfl [] 0 [] rfl rfl rfl rfl (fun b hb => by cases hb) ?_
  refine x_vc tt_ok ?_
  refine xl_call0 (.bool true) rfl rfl rfl rfl fn11 rfl rfl (fun E w F hs => alive_any w (hg.imm hs.imm) ex_ok) ?_
  refine xl_go tt_ok ?_
  refine xl_want rfl rfl rfl rfl rfl ?_
  refine xl_build tt_ok strY [(⟨#[47, 42, 32, 97, 32, 42, 47]⟩ : ByteArray)] [_] rfl rfl rfl rfl rfl rfl rfl rfl rfl rfl rfl rfl rfl rfl rfl ?_
  refine xl_want rfl rfl rfl rfl rfl ?_
  refine xl_call0 (.bool true) rfl rfl rfl rfl fn23 rfl rfl (fun E w F hs => are_true ⟨#[47, 42, 97, 42, 47]⟩ [(⟨#[47, 42, 32, 97, 32, 42, 47]⟩ : ByteArray)] _ w (hg.imm hs.imm) (by decide) (hs.rowAt (k := 0) rfl) nm_a0) ?_
  refine xl_go tt_ok ?_
  refine xl_want rfl rfl rfl rfl rfl ?_
  refine xl_build tt_ok strY [(⟨#[47, 42, 32, 42, 47]⟩ : ByteArray)] [_] rfl rfl rfl rfl rfl rfl rfl rfl rfl rfl rfl rfl rfl rfl rfl ?_
  refine xl_want rfl rfl rfl rfl rfl ?_
  refine xl_call0 (.bool true) rfl rfl rfl rfl fn23 rfl rfl (fun E w F hs => are_true ⟨#[47, 42, 42, 47]⟩ [(⟨#[47, 42, 32, 42, 47]⟩ : ByteArray)] _ w (hg.imm hs.imm) (by decide) (hs.rowAt (k := 1) rfl) nm_a1) ?_
  refine xl_go tt_ok ?_
  refine xl_want rfl rfl rfl rfl rfl ?_
  refine xl_build tt_ok strY [(⟨#[47, 42, 32, 42, 47]⟩ : ByteArray)] [_] rfl rfl rfl rfl rfl rfl rfl rfl rfl rfl rfl rfl rfl rfl rfl ?_
  refine xl_want rfl rfl rfl rfl rfl ?_
  refine xl_call0 (.bool true) rfl rfl rfl rfl fn23 rfl rfl (fun E w F hs => are_true ⟨#[47, 42, 10, 32, 42, 32, 42, 47]⟩ [(⟨#[47, 42, 32, 42, 47]⟩ : ByteArray)] _ w (hg.imm hs.imm) (by decide) (hs.rowAt (k := 2) rfl) nm_a2) ?_
  refine xl_go tt_ok ?_
  refine xl_want rfl rfl rfl rfl rfl ?_
  refine xl_build tt_ok strY [(⟨#[47, 42, 32, 97, 32, 98]⟩ : ByteArray), (⟨#[32, 42]⟩ : ByteArray), (⟨#[32, 42, 32, 42, 32, 99]⟩ : ByteArray), (⟨#[32, 42, 47]⟩ : ByteArray)] [_, _, _, _] rfl rfl rfl rfl rfl rfl rfl rfl rfl rfl rfl rfl rfl rfl rfl ?_
  refine xl_want rfl rfl rfl rfl rfl ?_
  refine xl_call0 (.bool true) rfl rfl rfl rfl fn23 rfl rfl (fun E w F hs => are_true ⟨#[47, 42, 97, 10, 32, 42, 32, 98, 10, 10, 32, 42, 32, 42, 32, 99, 42, 47]⟩ [(⟨#[47, 42, 32, 97, 32, 98]⟩ : ByteArray), (⟨#[32, 42]⟩ : ByteArray), (⟨#[32, 42, 32, 42, 32, 99]⟩ : ByteArray), (⟨#[32, 42, 47]⟩ : ByteArray)] _ w (hg.imm hs.imm) (by decide) (hs.rowAt (k := 3) rfl) nm_a3) ?_
  refine xl_go tt_ok ?_
  refine xl_want rfl rfl rfl rfl rfl ?_
  refine xl_build tt_ok strY [(⟨#[47, 42, 45, 120]⟩ : ByteArray), (⟨#[32, 121, 32, 42, 47]⟩ : ByteArray)] [_, _] rfl rfl rfl rfl rfl rfl rfl rfl rfl rfl rfl rfl rfl rfl rfl ?_
  refine xl_want rfl rfl rfl rfl rfl ?_
  refine xl_call0 (.bool true) rfl rfl rfl rfl fn23 rfl rfl (fun E w F hs => are_true ⟨#[47, 42, 45, 120, 10, 32, 121, 32, 42, 47]⟩ [(⟨#[47, 42, 45, 120]⟩ : ByteArray), (⟨#[32, 121, 32, 42, 47]⟩ : ByteArray)] _ w (hg.imm hs.imm) (by decide) (hs.rowAt (k := 4) rfl) nm_a4) ?_
  refine xl_go tt_ok ?_
  refine xl_want rfl rfl rfl rfl rfl ?_
  refine xl_build tt_ok strY [(⟨#[47, 42, 32, 97, 98, 99, 100, 101, 102, 103, 104, 105, 106, 107, 108]⟩ : ByteArray), (⟨#[32, 42, 32, 109]⟩ : ByteArray), (⟨#[32, 42, 47]⟩ : ByteArray)] [_, _, _] rfl rfl rfl rfl rfl rfl rfl rfl rfl rfl rfl rfl rfl rfl rfl ?_
  refine xl_want rfl rfl rfl rfl rfl ?_
  refine xl_call0 (.bool true) rfl rfl rfl rfl fn23 rfl rfl (fun E w F hs => are_true ⟨#[47, 42, 97, 98, 99, 100, 101, 102, 103, 104, 105, 106, 107, 108, 32, 109, 42, 47]⟩ [(⟨#[47, 42, 32, 97, 98, 99, 100, 101, 102, 103, 104, 105, 106, 107, 108]⟩ : ByteArray), (⟨#[32, 42, 32, 109]⟩ : ByteArray), (⟨#[32, 42, 47]⟩ : ByteArray)] _ w (hg.imm hs.imm) (by decide) (hs.rowAt (k := 5) rfl) nm_a5) ?_
  refine xl_go tt_ok ?_
  refine xl_callO2 9 (strY.d []) [.int .i64 2] rfl rfl rfl rfl fn12 rfl rfl (fun E w F hs => fills_is ⟨#[47, 47, 32, 97]⟩ 0 12 [] 2 w (hg.imm hs.imm) (by decide) nm_f0) ?_
  refine xl_go tt_ok ?_
  refine xl_callO2 9 (strY.d []) [.int .i64 2] rfl rfl rfl rfl fn12 rfl rfl (fun E w F hs => fills_is ⟨#[47, 42, 97, 42, 47]⟩ (-1) 12 [] 2 w (hg.imm hs.imm) (by decide) nm_f1) ?_
  refine xl_go tt_ok ?_
  refine xl_callO2 9 (strY.d []) [.int .i64 2] rfl rfl rfl rfl fn12 rfl rfl (fun E w F hs => fills_is ⟨#[47, 42, 97, 42, 47]⟩ 257 12 [] 2 w (hg.imm hs.imm) (by decide) nm_f2) ?_
  refine xl_go tt_ok ?_
  refine xl_callO2 9 (strY.d []) [.int .i64 2] rfl rfl rfl rfl fn12 rfl rfl (fun E w F hs => fills_is ⟨#[47, 42, 97, 42, 47]⟩ 0 0 [] 2 w (hg.imm hs.imm) (by decide) nm_f3) ?_
  refine xl_go tt_ok ?_
  refine xl_callO2 9 (strY.d []) [.int .i64 2] rfl rfl rfl rfl fn12 rfl rfl (fun E w F hs => fills_is ⟨#[47, 42, 97, 42, 47]⟩ 0 4097 [] 2 w (hg.imm hs.imm) (by decide) nm_f4) ?_
  refine xl_go tt_ok ?_
  refine xl_callO2 9 (strY.d []) [.int .i64 2] rfl rfl rfl rfl fn12 rfl rfl (fun E w F hs => fills_is ⟨#[47, 42, 97, 42, 47, 32, 42, 47]⟩ 0 12 [] 2 w (hg.imm hs.imm) (by decide) nm_f5) ?_
  refine xl_go tt_ok ?_
  refine xl_call0 (.tuple #[.bool true, .int .i64 0]) rfl rfl rfl rfl fn13 rfl rfl (fun E w F hs => by
    have h9 := keptX_any ⟨#[47, 42, 42, 32, 97, 42, 47]⟩ w (hg.imm hs.imm) (by decide)
    rw [nm_k1] at h9
    exact h9) ?_
  refine xl_go tt_ok ?_
  refine xl_call0 (.tuple #[.bool false, .int .i64 0]) rfl rfl rfl rfl fn13 rfl rfl (fun E w F hs => by
    have h9 := keptX_any ⟨#[47, 42, 32, 42, 32, 97, 42, 47]⟩ w (hg.imm hs.imm) (by decide)
    rw [nm_k2] at h9
    exact h9) ?_
  refine xl_go tt_ok ?_
  refine xl_call0 (.tuple #[.slice none 0 0, .int .i64 2]) rfl rfl rfl rfl fn16 rfl rfl (fun E w F hs => words_bad ⟨#[47, 42]⟩ w (hg.imm hs.imm) (by decide) nm_w) ?_
  refine xl_go tt_ok ?_
  refine xl_callO2 9 (strY.d [(⟨#[47, 42, 32, 97, 32, 98]⟩ : ByteArray), (⟨#[32, 42, 47]⟩ : ByteArray)]) [.int .i64 0] rfl rfl rfl rfl fn12 rfl rfl (fun E w F hs => fills_is ⟨#[47, 42, 97, 32, 98, 42, 47]⟩ 4 12 _ 0 w (hg.imm hs.imm) (by decide) nm_l) ?_
  refine xl_go tt_ok ?_
  repeat (refine And.intro ?_ ?_; first | omega | (simp only [Lay.d_n]; omega) | (simp only [decide_eq_true_eq, decide_eq_false_iff_not, Bool.or_eq_false_iff, Bool.and_eq_true, Bool.or_eq_true, Bool.and_eq_false_iff, Bool.not_eq_true', Bool.not_eq_false', Lay.d_n]; omega) | (simp only [decide_eq_true_eq, decide_eq_false_iff_not, Bool.or_eq_false_iff, Bool.and_eq_true, Bool.or_eq_true, Bool.and_eq_false_iff, Bool.not_eq_true', Bool.not_eq_false']; omega) | (simp only [decide_eq_true_eq, decide_eq_false_iff_not, Bool.or_eq_false_iff]; simp only [Lay.d_n]; omega))
  exact fin1 (fun _ _ => rfl)
end Go.Proofs.YtnjmkeijjapejaaDoor
namespace Go.Proofs.YtnjmkeijjapejaaDoor
open Go.ChangeShapes Go.WideShapes Go.ChangeAt Go.RowKit Go.GV
theorem returnsInHanded_and_shapedR {H : Type} {enc : TypeId × Value → H} {a : Assume} {C : Checked} {os : Os} {f : FuncId} {fn : Func} {s : ChangeSpec} {conds : List PathCond} {apart fresh handsOn again : Bool} {X : World → Array Value → Prop}
    (hX : ∀ (w w' : World) (args : Array Value), w.heap = w'.heap → X w args → X w' args)
    (own : ownKnob C.prog.godebug = none) (started : os.Started) (noInit : C.prog.inits.idxOf? f = none) (hfn : C.prog.funcs[f]? = some fn)
    (witness : ∃ (w : World) (tape : Tape) (i : Input), w.os = os ∧ (w.forCall tape i).Shaped C.prog ∧ i.vars = [] ∧ Input.okWide C.prog (w.forCall tape i) .any w.heap.size f i ∧
      ((s.pre enc C.prog fn conds apart (w.forCall tape i).memory i.args ∧ X (w.forCall tape i).memory i.args) ∧ sizedMet enc C.prog fn (OpenSpec.ofChange s) apart (w.forCall tape i).memory i.args) ∧ a.holds C.prog (lone (Frame.enter C.prog f i.args .normal) [] (w.forCall tape i)))
    (contract : ∀ (W : World) (base : Nat) (args : Array Value) (ds gs : List (DataW H)) (before : List MemPlace),
      (∀ (j : Nat) t v, fn.params[j]? = some t → args[j]? = some v → Value.okWide C.prog W .any base t v) →
      DataW.Whole enc C.prog fn.params.toList s.vars apart W args.toList ds gs before →
      conds.all (PathCond.test C.prog ⟨fn.params.toList, ds, s.plain.varTypes C.prog, gs⟩) = true →
      (DataW.weightsEach C.prog (fn.params.toList ++ s.plain.varTypes C.prog) (ds ++ gs)).all (· ≤ reachBytes) = true → X W args → W.ShapedOpen C.prog →
      a.holds C.prog (lone (Frame.enter C.prog f args .normal) [] W) →
      Calls C.prog f args W fun e W' => ∃ v, e = .returned v ∧ s.post enc C.prog fn apart fresh handsOn again W args v W') :
    ReturnsInHanded a C os f .any (fun w args => (s.pre enc C.prog fn conds apart w args ∧ X w args) ∧ sizedMet enc C.prog fn (OpenSpec.ofChange s) apart w args) (s.post enc C.prog fn apart fresh handsOn again) := by
  refine returnsInHanded_of_calls own started noInit witness ?_
  intro w tape i _ hsh _ hok hpre hholds
  obtain ⟨_, _, _, fn', hfn', _, _, _, _, hval⟩ := hok
  have e : fn' = fn := Option.some.inj (hfn'.symm.trans hfn)
  subst e
  obtain ⟨⟨⟨ds, gs, before, hw, hc⟩, hx⟩, hz⟩ := hpre
  have hw' := DataW.Whole.of_heap (w' := w.forCall tape i) (by rfl) hw
  refine (contract (w.forCall tape i) w.heap.size i.args ds gs before hval hw' hc (hz.weights hw) (hX _ _ _ (by rfl) hx) hsh hholds).mono fun e W' ⟨v, he, hp⟩ => ?_
  subst he
  exact ChangeSpec.post_blind hp
def lstR : List (String × DataW Unit) := [("unicode/utf8.acceptRanges", Rows.laid_unicode_utf8_acceptRanges), ("unicode/utf8.first", Rows.laid_unicode_utf8_first)]
theorem lstRB (os : Os) : (World.laidAll Tryd.prog os lstR).os = os := World.laidAll_os _ _ _
theorem metR (os : Os) (args : Array Value) : laidMetH Tryd.prog lstR ((World.laidAll Tryd.prog os lstR).forCall (fun _ _ => 0) ⟨#[], args, []⟩).memory := by
  rw [MakeChecks.laidMetH_plain _ _ _ (by kernel_rfl)]
  exact laidMet_laidAll args (by kernel_rfl) (by kernel_rfl)
end Go.Proofs.YtnjmkeijjapejaaDoor
namespace Go.Proofs.YtnjmkeijjapejaaDoor
open Go.ChangeShapes Go.WideShapes Go.ChangeAt Go.RowKit Go.GV
theorem own : ownKnob Tryd.prog.godebug = none := by kernel_rfl
theorem laidOut : laidOutB Tryd.prog = true := by kernel_rfl
theorem fMaps : mapsRowed Tryd.prog = true := by kernel_rfl
theorem fHeard : Tryd.prog.stopsHeard = true := by kernel_rfl
theorem fEnter : Tryd.prog.mayEnter = true := by kernel_rfl
theorem fLifts : (Rows.condNamesRow.lifted == Tryd.prog.liftsFinal) = true := by kernel_rfl
theorem fMake : (Tryd.prog.make == some Rows.condNamesRow.make) = true := by kernel_rfl
theorem jmk {a0 a1 a2 a3 a4 a5 a6 a7 a8 a9 a10 a11 a12 a13 a14 a15 a16 a17 a18 a19 a20 a21 a22 a23 a24 a25 a26 a27 a28 a29 a30 a31 : Bool} (h0 : a0 = true) (h1 : a1 = true) (h2 : a2 = true) (h3 : a3 = true) (h4 : a4 = true) (h5 : a5 = true) (h6 : a6 = true) (h7 : a7 = true) (h8 : a8 = true) (h9 : a9 = true) (h10 : a10 = true) (h11 : a11 = true) (h12 : a12 = true) (h13 : a13 = true) (h14 : a14 = true) (h15 : a15 = true) (h16 : a16 = true) (h17 : a17 = true) (h18 : a18 = true) (h19 : a19 = true) (h20 : a20 = true) (h21 : a21 = true) (h22 : a22 = true) (h23 : a23 = true) (h24 : a24 = true) (h25 : a25 = true) (h26 : a26 = true) (h27 : a27 = true) (h28 : a28 = true) (h29 : a29 = true) (h30 : a30 = true) (h31 : a31 = true) :
    (a0 && a1 && a2 && a3 && a4 && a5 && a6 && a7 && a8 && a9 && a10 && a11 && a12 && a13 && a14 && a15 && a16 && a17 && a18 && a19 && a20 && a21 && a22 && a23 && a24 && a25 && a26 && a27 && a28 && a29 && a30 && a31) = true := by simp only [h0, h1, h2, h3, h4, h5, h6, h7, h8, h9, h10, h11, h12, h13, h14, h15, h16, h17, h18, h19, h20, h21, h22, h23, h24, h25, h26, h27, h28, h29, h30, h31, Bool.and_self]
end Go.Proofs.YtnjmkeijjapejaaDoor
namespace Go.Proofs.YtnjmkeijjapejaaDoor
open Go.ChangeShapes Go.WideShapes Go.ChangeAt Go.RowKit Go.GV
set_option maxRecDepth 100000 in
theorem liftedReflowNames (os : Os) (started : os.Started) (H : Type) (enc : TypeId × Value → H) :
    ReturnsInHanded {} Tryd.checked os 5 .any (fun w args => (Rows.reflowNamesSpec.pre enc Tryd.prog Tryd.f5 [] false w args ∧ laidMetH Tryd.prog lstR w) ∧ sizedMet enc Tryd.prog Tryd.f5 (OpenSpec.ofChange Rows.reflowNamesSpec) false w args)
      (Rows.reflowNamesSpec.post enc Tryd.prog Tryd.f5 false true false false) := by
  refine returnsInHanded_and_shapedR (C := Tryd.checked) (X := fun w _ => laidMetH Tryd.prog lstR w) (fun _ _ _ hh h => h.of_heap hh) own started (by kernel_rfl) Tryd.func5
    (ChangeSpec.witness_at (enc := enc) (C := Tryd.checked) (os := os) (X := fun w _ => laidMetH Tryd.prog lstR w) false (World.laidAll Tryd.prog os lstR) #[] 8 (lstRB os) (by kernel_rfl) (by kernel_rfl) (by kernel_rfl) (by kernel_rfl) (by kernel_rfl) (metR os _)) ?_
  intro W base args ds gs before hval0 hW hcnd hz hL hsh _
  have hval : ∀ (j : Nat) t v, Tryd.f5.params[j]? = some t → args[j]? = some v → Value.okWide Tryd.prog W .any base t v := hval0
  have hW' := hW
  obtain ⟨p, q, hA0, hV, rfl, hfz, hnd⟩ := hW
  have hA : DataW.TrodAll enc Tryd.prog W 0 (fun _ => true) true Tryd.f5.params.toList args.toList ds p := hA0
  rw [Tryd.params5] at hA hval hz
  obtain ⟨hargs, rfl, rfl⟩ := trodAll_nil hA
  obtain rfl : args = #[] := by cases args; simp_all
  obtain ⟨rfl, rfl⟩ := trodVars_none hV
  have hg : Glob (im W) := Tryd.laysM143.s1_3 W hsh
  clear hA0 hval0
  refine (reflowNames_any W hg).mono fun e W' ⟨v, he, bel, hv⟩ => ?_
  subst he hv
  exact ⟨_, rfl, _, _, _, [], _, [], hW', trodAll_mk1 (shut_bool Tryd.underlying4 _), trodAll_mk0, rfl, bel.frame _, fun h => by cases h⟩
theorem c95 : (Rows.reflowNamesRow.inPlace == Tryd.prog.inPlace 5) = true := by kernel_rfl
theorem c105 : (Rows.reflowNamesRow.unfollowed == Tryd.prog.unfollowed 5) = true := by kernel_rfl
theorem c115 : (Rows.reflowNamesRow.recurses == Tryd.prog.recurses 5) = true := by kernel_rfl
theorem c125 : (Rows.reflowNamesRow.named == Tryd.prog.varsNamed 5) = true := by kernel_rfl
theorem closed5 : joinedFacts Tryd.prog 5 Tryd.f5 Rows.reflowNamesSpec Rows.reflowNamesRow = true :=
  jmk (by kernel_rfl) laidOut fMaps (by kernel_rfl) (by kernel_rfl) (by kernel_rfl) (by kernel_rfl) (by kernel_rfl) (by kernel_rfl) c95 c105 c115 c125 (by kernel_rfl) (by kernel_rfl) (by kernel_rfl) (by kernel_rfl) (by kernel_rfl) (by kernel_rfl) (by kernel_rfl) (by kernel_rfl) (by kernel_rfl) (by kernel_rfl) (by kernel_rfl) fHeard fEnter fLifts fMake (by kernel_rfl) (by kernel_rfl) (by kernel_rfl) (by kernel_rfl)
theorem named5 : Tryd.prog.funcNamed Rows.reflowNamesRow.func = some 5 := by kernel_rfl
theorem inst5 : Tryd.f5.isInstance Tryd.prog Rows.reflowNamesRow.origin Rows.reflowNamesRow.targs := of_decide_eq_true (by kernel_rfl)
theorem wrap5 : Tryd.f5.isWrapper Tryd.prog Rows.reflowNamesRow.wrapper Rows.reflowNamesRow.mainSum := by unfold Func.isWrapper; first | (rw [if_pos (by decide +kernel)]; kernel_rfl) | (rw [if_neg (by decide +kernel)]; exact ⟨rfl, rfl⟩)
theorem over5 : Rows.reflowNamesRow.holds Tryd.pinned (OpenSpec.ofChange Rows.reflowNamesSpec) :=
  OpenClaim.holds_of_wide 5 Tryd.f5 rfl rfl rfl rfl rfl rfl rfl ⟨rfl, rfl, rfl, rfl, rfl⟩ rfl rfl rfl rfl rfl named5 Tryd.func5 closed5 inst5 wrap5
    (fun os started H enc _ => liftedReflowNames os started H enc)
theorem reflowNames_card : Rows.ReflowNamesCardSaid :=
  Claim7.holds_tied_plain_at .later [] [.data, .pinned] true (true, "d2dc3549195bd91c3a6331492cf9cdda0f904da0e8c74265c77afa656643e87b") false
    over5 (fun _ h => by cases h) (by kernel_rfl) (fun _ h => by cases h) reflowNames_row_tie rfl ⟨rfl, rfl⟩ (by kernel_rfl) rfl
    (fun f fn hf hfn => by
      obtain rfl : f = 5 := Option.some.inj (named5.symm.trans hf) |>.symm
      obtain rfl : fn = Tryd.f5 := (Option.some.inj (Tryd.func5.symm.trans hfn)).symm
      exact ⟨by kernel_rfl, fun j t ht => by
        rw [Tryd.params5] at ht
        simp at ht⟩)
    (by kernel_rfl)
#print axioms reflowNames_card
end Go.Proofs.YtnjmkeijjapejaaDoor
