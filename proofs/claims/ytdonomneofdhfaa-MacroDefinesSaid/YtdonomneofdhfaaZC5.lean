/- The statement of MacroDefines, out of its walk: for any input the law answers true, and the input stays. -/
import Derived.Test.YtdonomneofdhfaaZC4
import Derived.Test.YtdonomneofdhfaaRows
import Derived.ProofKit
import Derived.OpenShut
import Derived.ShutString
import Derived.ChangeOld
import Derived.Below
import Derived.SizedLaws
set_option linter.unusedSimpArgs false
set_option linter.unusedVariables false
namespace Go.Proofs.Ytdonomneofdhfaa
open Go.GV Go.RowKit
def rpS : List ByteArray := [⟨#[41]⟩]
def commaS : List ByteArray := [⟨#[44]⟩]
def dotsS : List ByteArray := [⟨#[46, 46, 46]⟩]
structure PR where
  ps : List ByteArray
  va : Bool
  n : Int
  ok : Bool
def pF (P : List ByteArray) (i : Int) : List Tok → PR
  | t :: x :: r => if isT t dotsS = true then ⟨P, true, i + 2, isT x rpS⟩
    else if ((decide (t.kind ≠ 1) || decide (t.text = sRest)) || memB t.text P) = true then ⟨P, false, 0, false⟩
    else if isT x rpS = true then ⟨P ++ [t.text], false, i + 2, true⟩
    else if isT x commaS = true then pF (P ++ [t.text]) (i + 2) r
    else ⟨P ++ [t.text], false, 0, false⟩
  | _ => ⟨P, false, 0, false⟩
def paramsR (L : List Tok) : PR := if (decide (1 < L.length) && isT (L.getD 1 tok0) rpS) = true then ⟨[], false, 2, true⟩ else pF [] 1 (L.drop 1)
def fK (P : List ByteArray) : ByteArray → Int := fun s => if memB s P = true then 1 else 0
theorem fK_nil : (fun _ : ByteArray => (0 : Int)) = fK [] := rfl
theorem fK_pos (P : List ByteArray) (s : ByteArray) : decide ((0 : Int) < fK P s) = memB s P := by
  unfold fK
  cases memB s P <;> rfl
theorem fK_next {P : List ByteArray} {s : ByteArray} : (fun s' : ByteArray => if s' = s then (1 : Int) else fK P s') = fK (P ++ [s]) := by
  funext s'
  unfold fK memB
  rw [List.any_append]
  by_cases e : s' = s
  · subst e; simp
  · simp only [List.any_cons, List.any_nil, decide_eq_false e, Bool.or_false, if_neg e]
def tbl90 : Tbl := [([], [3, 8, 9, 10]), ([3], [8, 9, 10]), ([8], [3, 9, 10]), ([9], [3, 8, 10]), ([10], [3, 8, 9]), ([3, 8], [9, 10]), ([3, 9], [8, 10]), ([3, 10], [8, 9]), ([8, 9], [3, 10]), ([8, 10], [3, 9]), ([9, 10], [3, 8]), ([3, 8, 9], [10]), ([3, 8, 10], [9]), ([3, 9, 10], [8, 11]), ([8, 9, 10], [3]), ([3, 8, 9, 10], [11]), ([3, 9, 10, 11], [8]), ([3, 8, 9, 10, 11], [12]), ([3, 8, 9, 10, 11, 12], [])]
def tbl90b : Tbl := [([], [2, 6]), ([2], [3, 6]), ([6], [2, 7]), ([2, 3], [4, 6]), ([2, 6], [3, 7]), ([6, 7], [2]), ([2, 3, 4], [6]), ([2, 3, 6], [4, 7]), ([2, 6, 7], [3]), ([2, 3, 4, 6], [7]), ([2, 3, 6, 7], [4]), ([2, 3, 4, 6, 7], [8])]
def tokC (t : Tok) : List SV := [.v (.int .i64 t.kind), .v (.string t.text), .v (.int .i64 t.lo), .v (.int .i64 t.hi), .v (.bool t.space)]
def mBox (nm : ByteArray) (va : Bool) (p : SV) : Rs := .box 36 [.v (.string nm), .v (.bool false), p, .v (.bool va), .v (.slice none 0 0)]
set_option maxHeartbeats 4000000 in
set_option maxRecDepth 100000 in
theorem params_sc (nm : ByteArray) (L : List Tok) (A : Option Addr) (c : Nat) (hL : L.length * 48 ≤ 140737488355328) (zL : ∀ t ∈ L, t.text.size ≤ maxLen) :
    SC Try.prog 90 (fun u => SlAt u (.slice A L.length c) (tokY.d L)) 2 [(0, mBox nm false (.r 1)), (1, .row 9 (strY.d []))] [.p 0 0, .v (.slice A L.length c)]
      (fun _ : Unit => ([(0, mBox nm (paramsR L).va (.r 2)), (2, .row 9 (strY.d (paramsR L).ps))], 3, .tuple #[.int .i64 (paramsR L).n, .bool (paramsR L).ok])) (fun _ => True) := by
  refine x_sc tt_ok Try.func90 rfl rfl rfl rfl (fun u hH => ?_)
  refine x_sl 1 rfl hH ?_
  refine x_vc tt_ok ?_
  repeat (refine And.intro ?_ ?_; first | omega | (simp only [Lay.d_n]; omega) | (simp only [decide_eq_true_eq, decide_eq_false_iff_not, Bool.or_eq_false_iff, Bool.and_eq_true, Bool.or_eq_true, Bool.and_eq_false_iff, Bool.not_eq_true', Bool.not_eq_false', Lay.d_n]; omega) | (simp only [decide_eq_true_eq, decide_eq_false_iff_not, Bool.or_eq_false_iff, Bool.and_eq_true, Bool.or_eq_true, Bool.and_eq_false_iff, Bool.not_eq_true', Bool.not_eq_false']; omega) | (simp only [decide_eq_true_eq, decide_eq_false_iff_not, Bool.or_eq_false_iff]; simp only [Lay.d_n]; omega))
  refine xl_gsplit 13 (.bool false) rfl rfl rfl rfl rfl (fun hb => ?_) (fun hb => ?_)
  · have hb : (1 : Int) < L.length := of_decide_eq_true hb
    have hR : paramsR L = if isT (L.getD 1 tok0) rpS = true then ⟨[], false, 2, true⟩ else pF [] 1 (L.drop 1) := by
      unfold paramsR
      rw [decide_eq_true (show 1 < L.length by omega), Bool.true_and]
    refine xl_build tt_ok strY rpS [_] rfl rfl rfl rfl rfl rfl rfl rfl rfl rfl rfl rfl rfl rfl rfl ?_
    refine xl_go tt_ok ?_
    refine xl_gcall0 (.bool (isT (L.getD 1 tok0) rpS)) rfl rfl rfl rfl fn89 rfl rfl (fun _ E w F hs => is_any (L.getD 1 tok0) rpS _ w (hs.rowAt (k := 3) rfl) (by decide)) ?_
    refine xl_go tt_ok ?_
    refine x_if (fun h2 => ?_) (fun h2 => ?_)
    · have h2 : (decide ((1 : Int) < L.length) && isT (L.getD 1 tok0) rpS) = true := h2
      rw [Bool.and_eq_true] at h2
      rw [if_pos h2.2] at hR
      rw [hR]
      exact ⟨(), [(2, some 1)], [_, _], rfl, rfl, .of rfl rfl rfl rfl rfl rfl, of_decide_eq_true rfl, trivial⟩
    · have h2 : (decide ((1 : Int) < L.length) && isT (L.getD 1 tok0) rpS) = false := h2
      rw [decide_eq_true hb, Bool.true_and] at h2
      rw [if_neg (by rw [h2]; simp)] at hR
      rw [hR]
      refine xl_makeMap (kt := 9) (et := 3) rfl rfl rfl rfl (fun b => ?_)
      refine xl_go tt_ok ?_
      obtain ⟨q, hq⟩ : ∃ q, q = pF [] 1 (L.drop 1) := ⟨_, rfl⟩
      rw [← hq]
      refine x_loop (σ := Int × Nat × List ByteArray) (fun (i, n, P) => ⟨[(7, .v (.int .i64 i)), (6, .v (.map (some b))), (1, .r 2), (0, .p 0 0)], [],
          [(0, mBox nm false (.r 5)), (2, .sl (tokY.d L)), (4, .gen (mapHp Try.prog 9 3 b n (fK P))), (5, .row 9 (strY.d P))], 6⟩)
        (fun (i, n, P) _ => 1 ≤ i ∧ i ≤ L.length ∧ P.length + 1 ≤ i ∧ n = P.length ∧ pF P i (L.drop i.toNat) = q) (fun (i, _) => (L.length - i).toNat) (fun (_, _, _) => by simp only; omega) (1, 0, []) [(5, some 1)] (.of rfl rfl rfl rfl rfl rfl)
        ⟨by omega, by omega, by simp, rfl, by rw [hq]; rfl⟩ ?_
      rintro ⟨i, n, P⟩ u2 hu2 ⟨g1, g2, g3, gn, g4⟩
      refine x_vc tt_ok ?_
      repeat (refine And.intro ?_ ?_; first | omega | (simp only [Lay.d_n]; omega) | (simp only [decide_eq_true_eq, decide_eq_false_iff_not, Bool.or_eq_false_iff, Bool.and_eq_true, Bool.or_eq_true, Bool.and_eq_false_iff, Bool.not_eq_true', Bool.not_eq_false', Lay.d_n]; omega) | (simp only [decide_eq_true_eq, decide_eq_false_iff_not, Bool.or_eq_false_iff, Bool.and_eq_true, Bool.or_eq_true, Bool.and_eq_false_iff, Bool.not_eq_true', Bool.not_eq_false']; omega) | (simp only [decide_eq_true_eq, decide_eq_false_iff_not, Bool.or_eq_false_iff]; simp only [Lay.d_n]; omega))
      refine x_if (fun h3 => ?_) (fun h3 => ?_)
      · have h3 : i + 1 < L.length := of_decide_eq_true h3
        refine x_via (σ := Unit) (fun _ => ⟨[(8, .p 6 0), (9, .p 7 0), (7, .v (.int .i64 i)), (6, .v (.map (some b))), (1, .r 2), (0, .p 0 0)], [],
            [(6, .box 31 (tokC (L.getD i.toNat tok0))), (7, .box 31 (tokC (L.getD (i + 1).toNat tok0))), (0, mBox nm false (.r 5)), (2, .sl (tokY.d L)), (4, .gen (mapHp Try.prog 9 3 b n (fK P))), (5, .row 9 (strY.d P))], 8⟩) (fun _ _ => True) (fun _ => by show 6 ≤ 8; omega) ?_ ?_
        · refine x_drawA mix ?_
          refine xa_pures tt_ok (fuel := 8) [0, 1, 4, 5, 6] rfl (by kernel_rfl) (by kernel_rfl) (fun _ _ _ hh => hh) (by kernel_rfl) (by kernel_rfl) ?_
          repeat (refine And.intro ?_ ?_; first | omega | (simp only [Lay.d_n]; omega) | (simp only [decide_eq_true_eq, decide_eq_false_iff_not, Bool.or_eq_false_iff, Bool.and_eq_true, Bool.or_eq_true, Bool.and_eq_false_iff, Bool.not_eq_true', Bool.not_eq_false', Lay.d_n]; omega) | (simp only [decide_eq_true_eq, decide_eq_false_iff_not, Bool.or_eq_false_iff, Bool.and_eq_true, Bool.or_eq_true, Bool.and_eq_false_iff, Bool.not_eq_true', Bool.not_eq_false']; omega) | (simp only [decide_eq_true_eq, decide_eq_false_iff_not, Bool.or_eq_false_iff]; simp only [Lay.d_n]; omega))
          refine xa_idx tt_ok (fuel := 7) 2 (by kernel_rfl) (by kernel_rfl) (fun _ _ _ hh => hh) rfl (by kernel_rfl) (by kernel_rfl) rfl rfl rfl rfl (by kernel_rfl) (fun _ => ?_) ?_
          · exact ⟨by omega, by show _ < (((tokY.d L).n : Nat) : Int); simp only [Lay.d_n]; omega, trivial⟩
          refine xa_idx tt_ok (fuel := 6) 7 (by kernel_rfl) (by kernel_rfl) (fun _ _ _ hh => hh) rfl (by kernel_rfl) (by kernel_rfl) rfl rfl rfl rfl (by kernel_rfl) (fun _ => ?_) ?_
          · exact ⟨by omega, by show _ < (((tokY.d L).n : Nat) : Int); simp only [Lay.d_n]; omega, trivial⟩
          refine xa_fam (fuel := 0) (N := 6) tbl90 (fun D => ⟨selD D [(3, (31, .v (L.getD i.toNat tok0).val)), (8, (36, .v (L.getD (i + 1).toNat tok0).val)), (9, (8, .p 6 0)), (10, (9, .p 7 0))] ++
              [(30, .e 2 5 i 0), (35, .e 2 5 (i + 1) 0), (7, .v (.int .i64 i)), (6, .v (.map (some b))), (1, .r 2), (0, .p 0 0)], [],
              selO D [(6, [(11, .box 31 (tokC (L.getD i.toNat tok0))), (9, .box 31 (tokC tok0))]), (7, [(12, .box 31 (tokC (L.getD (i + 1).toNat tok0))), (10, .box 31 (tokC tok0))])] ++
              [(0, mBox nm false (.r 5)), (2, .sl (tokY.d L)), (4, .gen (mapHp Try.prog 9 3 b n (fK P))), (5, .row 9 (strY.d P))], 8⟩) (fun D i => insD i D) rfl (by kernel_rfl) (by kernel_rfl) (by kernel_rfl) [] (.of rfl rfl rfl rfl rfl rfl) (fun _ => by show 6 ≤ 8; omega) ?_ [3, 8, 9, 10, 11, 12] (by kernel_rfl) (fun u3 hu3 => ?_)
          · repeat' (refine And.intro ?_ ?_)
            all_goals first | exact trivial | (intro u' hu'; refine xl_go tt_ok ?_; first | exact meet () [] (.of rfl rfl rfl rfl rfl rfl) trivial | exact meet () [(6, some 8)] (.of rfl rfl rfl rfl rfl rfl) trivial | exact meet () [(7, some 8)] (.of rfl rfl rfl rfl rfl rfl) trivial)
          · refine xa_done (by kernel_rfl) rfl ?_
            exact meet () [] (.of rfl rfl rfl rfl rfl rfl) trivial
        · rintro _ u4 hu4 _
          obtain ⟨t, ht⟩ : ∃ t, t = L.getD i.toNat tok0 := ⟨_, rfl⟩
          obtain ⟨x, hxx⟩ : ∃ x, x = L.getD (i + 1).toNat tok0 := ⟨_, rfl⟩
          have zt : t.text.size ≤ maxLen := by
            rw [ht, List.getD_eq_getElem?_getD, List.getElem?_eq_getElem (by omega)]
            exact zL _ (List.getElem_mem _)
          have hd : L.drop i.toNat = t :: x :: L.drop (i + 2).toNat := by
            have d1 := drop_at (L := L) (d := tok0) (i := i) (by omega) (by omega)
            have d2 := drop_at (L := L) (d := tok0) (i := i + 1) (by omega) (by omega)
            rw [d1, d2, ← ht, ← hxx, show (i + 1 + 1) = i + 2 by omega]
          rw [← ht, ← hxx]
          rw [hd] at g4
          have g5 : (if isT t dotsS = true then ⟨P, true, i + 2, isT x rpS⟩
            else if ((decide (t.kind ≠ 1) || decide (t.text = sRest)) || memB t.text P) = true then ⟨P, false, 0, false⟩
            else if isT x rpS = true then ⟨P ++ [t.text], false, i + 2, true⟩
            else if isT x commaS = true then pF (P ++ [t.text]) (i + 2) (L.drop (i + 2).toNat)
            else ⟨P ++ [t.text], false, 0, false⟩ : PR) = q := g4
          clear g4
          refine xl_build tt_ok strY dotsS [_] rfl rfl rfl rfl rfl rfl rfl rfl rfl rfl rfl rfl rfl rfl rfl ?_
          refine xl_go tt_ok ?_
          refine xl_call0 (.bool (isT t dotsS)) rfl rfl rfl rfl fn89 rfl rfl (fun E w F hs => is_any t dotsS _ w (hs.rowAt (k := 8) rfl) (by decide)) ?_
          refine xl_go tt_ok ?_
          refine x_if (fun h4 => ?_) (fun h4 => ?_)
          · have h4 : isT t dotsS = true := h4
            rw [if_pos h4] at g5
            repeat (refine And.intro ?_ ?_; first | omega | (simp only [Lay.d_n]; omega) | (simp only [decide_eq_true_eq, decide_eq_false_iff_not, Bool.or_eq_false_iff, Bool.and_eq_true, Bool.or_eq_true, Bool.and_eq_false_iff, Bool.not_eq_true', Bool.not_eq_false', Lay.d_n]; omega) | (simp only [decide_eq_true_eq, decide_eq_false_iff_not, Bool.or_eq_false_iff, Bool.and_eq_true, Bool.or_eq_true, Bool.and_eq_false_iff, Bool.not_eq_true', Bool.not_eq_false']; omega) | (simp only [decide_eq_true_eq, decide_eq_false_iff_not, Bool.or_eq_false_iff]; simp only [Lay.d_n]; omega))
            refine xl_build tt_ok strY rpS [_] rfl rfl rfl rfl rfl rfl rfl rfl rfl rfl rfl rfl rfl rfl rfl ?_
            refine xl_go tt_ok ?_
            refine xl_call0 (.bool (isT x rpS)) rfl rfl rfl rfl fn89 rfl rfl (fun E w F hs => is_any x rpS _ w (hs.rowAt (k := 9) rfl) (by decide)) ?_
            refine xl_go tt_ok ?_
            rw [← g5]
            exact ⟨(), [(2, some 5)], [_, _], rfl, rfl, .of rfl rfl rfl rfl rfl rfl, of_decide_eq_true rfl, trivial⟩
          · have h4 : isT t dotsS = false := h4
            rw [if_neg (by rw [h4]; simp)] at g5
            refine xl_lookup (k := 4) (s := t.text) rfl rfl rfl Try.underlying174 Try.underlying9 Try.underlying3 rfl rfl rfl zt rfl (fun w => run_zeroValue w tiok3) ?_
            refine xl_go tt_ok ?_
            refine x_if (fun h5 => ?_) (fun h5 => ?_)
            · have h5 : ((decide (t.kind ≠ 1) || decide (t.text = sRest)) || decide ((0 : Int) < fK P t.text)) = true := h5
              rw [fK_pos] at h5
              rw [if_pos h5] at g5
              rw [← g5]
              exact ⟨(), [(2, some 5)], [_, _], rfl, rfl, .of rfl rfl rfl rfl rfl rfl, of_decide_eq_true rfl, trivial⟩
            · have h5 : ((decide (t.kind ≠ 1) || decide (t.text = sRest)) || decide ((0 : Int) < fK P t.text)) = false := h5
              rw [fK_pos] at h5
              rw [if_neg (by rw [h5]; simp)] at g5
              refine xl_mapSetE (k := 4) (.inl rfl) rfl rfl Try.underlying174 Try.underlying9 Try.underlying3 rfl rfl rfl zt (by decide) rfl (by unfold maxLen; omega) (fK (P ++ [t.text])) fK_next ?_
              refine xl_go tt_ok ?_
              refine x_via (σ := Unit) (fun _ => ⟨[(9, .p 7 0), (7, .v (.int .i64 i)), (6, .v (.map (some b))), (1, .r 2), (0, .p 0 0)], [],
                  [(7, .box 31 (tokC x)), (0, mBox nm false (.r 10)), (2, .sl (tokY.d L)), (4, .gen (mapHp Try.prog 9 3 b (n + 1) (fK (P ++ [t.text])))), (10, .row 9 (strY.d (P ++ [t.text])))], 11⟩) (fun _ _ => True) (fun _ => by show 9 ≤ 11; omega) ?_ ?_
              · refine x_drawA mix ?_
                refine xa_pures tt_ok (fuel := 9) [0, 1, 5] rfl (by kernel_rfl) (by kernel_rfl) (fun _ _ _ hh => hh) (by kernel_rfl) (by kernel_rfl) ?_
                refine xa_fam (fuel := 4) (N := 5) tbl90b (fun D => ⟨selD D [(2, (70, .p 0 0)), (3, (71, .p 0 2)), (4, (72, .r 5)), (6, (74, .v (.string t.text))), (7, (75, .r 9))] ++
                    [(68, .p 0 0), (69, .p 0 0), (73, .p 6 1), (9, .p 7 0), (7, .v (.int .i64 i)), (6, .v (.map (some b))), (1, .r 2), (0, .p 0 0)], [],
                    selO D [(9, [(7, .row 9 (strY.d [t.text]))])] ++
                    [(6, .box 31 (tokC t)), (7, .box 31 (tokC x)), (0, mBox nm false (.r 5)), (2, .sl (tokY.d L)), (4, .gen (mapHp Try.prog 9 3 b (n + 1) (fK (P ++ [t.text])))), (5, .row 9 (strY.d P))], 10⟩) (fun D i => insD i D) rfl (by kernel_rfl) (by kernel_rfl) (by kernel_rfl) [] (.of rfl rfl rfl rfl rfl rfl) (fun _ => by show 9 ≤ 10; omega) ?_ [2, 3, 4, 6, 7] (by kernel_rfl) (fun u5 hu5 => ?_)
                · repeat' (refine And.intro ?_ ?_)
                  all_goals first | exact trivial | (intro u' hu'; refine xl_go tt_ok ?_; first | exact meet () [] (.of rfl rfl rfl rfl rfl rfl) trivial | (refine xl_build tt_ok strY [t.text] [_] rfl rfl rfl rfl rfl rfl rfl rfl rfl rfl rfl rfl rfl rfl rfl ?_; refine xl_end ?_; exact meet () [(9, some 10)] (.of rfl rfl rfl rfl rfl rfl) trivial))
                · refine xa_one 8 (by kernel_rfl) rfl ?_
                  refine xl_append tt_ok strY P [t.text] 16 rfl rfl rfl rfl rfl rfl rfl rfl (by kernel_rfl) rfl rfl rfl (fun E w F hs => hs.rowAt (k := 9) rfl) (by intro x y hy; rw [List.mem_singleton.1 hy]; rfl) rfl (by simp only [List.length_singleton]; omega) (by simp only [List.length_singleton]; omega) ?_
                  refine xl_end ?_
                  refine xa_chain (fuel := 0) [9, 10, 11] rfl rfl (by kernel_rfl) (xl_go tt_ok ?_)
                  refine xa_done (by kernel_rfl) rfl ?_
                  exact meet () [] (.of rfl rfl rfl rfl rfl rfl) trivial
              · rintro _ u5 hu5 _
                refine xl_build tt_ok strY rpS [_] rfl rfl rfl rfl rfl rfl rfl rfl rfl rfl rfl rfl rfl rfl rfl ?_
                refine xl_go tt_ok ?_
                refine xl_call0 (.bool (isT x rpS)) rfl rfl rfl rfl fn89 rfl rfl (fun E w F hs => is_any x rpS _ w (hs.rowAt (k := 11) rfl) (by decide)) ?_
                refine xl_go tt_ok ?_
                refine x_if (fun h6 => ?_) (fun h6 => ?_)
                · have h6 : isT x rpS = true := h6
                  rw [if_pos h6] at g5
                  repeat (refine And.intro ?_ ?_; first | omega | (simp only [Lay.d_n]; omega) | (simp only [decide_eq_true_eq, decide_eq_false_iff_not, Bool.or_eq_false_iff, Bool.and_eq_true, Bool.or_eq_true, Bool.and_eq_false_iff, Bool.not_eq_true', Bool.not_eq_false', Lay.d_n]; omega) | (simp only [decide_eq_true_eq, decide_eq_false_iff_not, Bool.or_eq_false_iff, Bool.and_eq_true, Bool.or_eq_true, Bool.and_eq_false_iff, Bool.not_eq_true', Bool.not_eq_false']; omega) | (simp only [decide_eq_true_eq, decide_eq_false_iff_not, Bool.or_eq_false_iff]; simp only [Lay.d_n]; omega))
                  rw [← g5]
                  exact ⟨(), [(2, some 10)], [_, _], rfl, rfl, .of rfl rfl rfl rfl rfl rfl, of_decide_eq_true rfl, trivial⟩
                · have h6 : isT x rpS = false := h6
                  rw [if_neg (by rw [h6]; simp)] at g5
                  refine xl_build tt_ok strY commaS [_] rfl rfl rfl rfl rfl rfl rfl rfl rfl rfl rfl rfl rfl rfl rfl ?_
                  refine xl_go tt_ok ?_
                  refine xl_call0 (.bool (isT x commaS)) rfl rfl rfl rfl fn89 rfl rfl (fun E w F hs => is_any x commaS _ w (hs.rowAt (k := 12) rfl) (by decide)) ?_
                  refine xl_go tt_ok ?_
                  refine x_if (fun h7 => ?_) (fun h7 => ?_)
                  · have h7 : isT x commaS = true := h7
                    rw [if_pos h7] at g5
                    repeat (refine And.intro ?_ ?_; first | omega | (simp only [Lay.d_n]; omega) | (simp only [decide_eq_true_eq, decide_eq_false_iff_not, Bool.or_eq_false_iff, Bool.and_eq_true, Bool.or_eq_true, Bool.and_eq_false_iff, Bool.not_eq_true', Bool.not_eq_false', Lay.d_n]; omega) | (simp only [decide_eq_true_eq, decide_eq_false_iff_not, Bool.or_eq_false_iff, Bool.and_eq_true, Bool.or_eq_true, Bool.and_eq_false_iff, Bool.not_eq_true', Bool.not_eq_false']; omega) | (simp only [decide_eq_true_eq, decide_eq_false_iff_not, Bool.or_eq_false_iff]; simp only [Lay.d_n]; omega))
                    exact again (i + 2, n + 1, P ++ [t.text]) [(5, some 10)] (.of rfl rfl rfl rfl rfl rfl) ⟨by omega, by omega, by simp; omega, by simp [gn], g5⟩ (by simp only; omega)
                  · have h7 : isT x commaS = false := h7
                    rw [if_neg (by rw [h7]; simp)] at g5
                    rw [← g5]
                    exact ⟨(), [(2, some 10)], [_, _], rfl, rfl, .of rfl rfl rfl rfl rfl rfl, of_decide_eq_true rfl, trivial⟩
      · have h3 : ¬ i + 1 < L.length := of_decide_eq_false h3
        have hn : pF P i (L.drop i.toNat) = ⟨P, false, 0, false⟩ := by
          cases hd : L.drop i.toNat with
          | nil => rfl
          | cons t r =>
            cases r with
            | nil => rfl
            | cons x r =>
              have := congrArg List.length hd
              simp only [List.length_drop, List.length_cons] at this
              omega
        rw [hn] at g4
        rw [← g4]
        exact ⟨(), [(2, some 5)], [_, _], rfl, rfl, .of rfl rfl rfl rfl rfl rfl, of_decide_eq_true rfl, trivial⟩
  · have hb : ¬ (1 : Int) < L.length := fun h => hb (decide_eq_true h)
    have hR : paramsR L = ⟨[], false, 0, false⟩ := by
      unfold paramsR
      rw [decide_eq_false (show ¬ 1 < L.length by omega), Bool.false_and, List.drop_eq_nil_of_le (by omega)]
      rfl
    rw [hR]
    refine xl_go tt_ok ?_
    refine xl_gcall0 (.bool false) rfl rfl rfl rfl fn89 rfl rfl (fun hg => absurd (of_decide_eq_true hg.1) hb) ?_
    refine xl_go tt_ok ?_
    refine x_iff ?_ ?_
    · show (decide ((1 : Int) < L.length) && false) = false
      rw [Bool.and_false]
    · refine xl_makeMap (kt := 9) (et := 3) rfl rfl rfl rfl (fun b => ?_)
      refine xl_go tt_ok ?_
      refine x_loop (σ := Unit) (fun _ => ⟨[(7, .v (.int .i64 1)), (1, .r 2)], [], [(0, mBox nm false (.r 1)), (1, .row 9 (strY.d [])), (2, .sl (tokY.d L))], 4⟩)
        (fun _ _ => True) (fun _ => 0) (fun _ => Nat.le_refl _) () [] (.of rfl rfl rfl rfl rfl rfl) trivial ?_
      rintro _ u2 hu2 _
      refine x_vc tt_ok ?_
      repeat (refine And.intro ?_ ?_; first | omega | (simp only [Lay.d_n]; omega) | (simp only [decide_eq_true_eq, decide_eq_false_iff_not, Bool.or_eq_false_iff, Bool.and_eq_true, Bool.or_eq_true, Bool.and_eq_false_iff, Bool.not_eq_true', Bool.not_eq_false', Lay.d_n]; omega) | (simp only [decide_eq_true_eq, decide_eq_false_iff_not, Bool.or_eq_false_iff, Bool.and_eq_true, Bool.or_eq_true, Bool.and_eq_false_iff, Bool.not_eq_true', Bool.not_eq_false']; omega) | (simp only [decide_eq_true_eq, decide_eq_false_iff_not, Bool.or_eq_false_iff]; simp only [Lay.d_n]; omega))
      refine x_iff (decide_eq_false (show ¬ (1 : Int) + 1 < L.length by omega)) ?_
      exact ⟨(), [(2, some 1)], [_, _], rfl, rfl, .of rfl rfl rfl rfl rfl rfl, of_decide_eq_true rfl, trivial⟩
end Go.Proofs.Ytdonomneofdhfaa
namespace Go.Proofs.Ytdonomneofdhfaa
open Go.GV Go.RowKit
structure MT where
  name : ByteArray
  fn : Bool
  ps : List ByteArray
  va : Bool
  body : List PV
def m0 : MT := ⟨⟨#[]⟩, false, [], false, []⟩
abbrev MA := Option Addr × Nat × Option Addr × Nat
def mVal (m : MT) (s : MA) : Value := .agg #[.string m.name, .bool m.fn, .slice s.1 m.ps.length s.2.1, .bool m.va, .slice s.2.2.1 m.body.length s.2.2.2]
def mStar (m : MT) (s : MA) : List SI := [⟨.slice s.1 m.ps.length s.2.1, 9, strY.d m.ps⟩, ⟨.slice s.2.2.1 m.body.length s.2.2.2, 46, pvY.d m.body⟩]
def fixS : List PV → List PV
  | [] => []
  | t :: r => { t with space := false } :: r
def lpS : List ByteArray := [⟨#[40]⟩]
def resB (s : ByteArray) : Bool := decide (s = ⟨#[100, 101, 102, 105, 110, 101, 100]⟩) || decide (s = ⟨#[95, 95, 86, 65, 95, 65, 82, 71, 83, 95, 95]⟩) || decide (s = ⟨#[95, 95, 76, 73, 78, 69, 95, 95]⟩) || decide (s = ⟨#[95, 80, 114, 97, 103, 109, 97]⟩)
def defB (nm : ByteArray) (fn : Bool) (ps : List ByteArray) (va : Bool) (l : List Tok) : MT × Int :=
  if validB fn va ps l = true then (⟨nm, fn, ps, va, fixS (l.map ofT)⟩, 0) else (m0, 50)
def defR (L : List Tok) : MT × Int :=
  if ((decide ((L.length : Int) = 0) || decide ((L.getD 0 tok0).kind ≠ 1)) || resB (L.getD 0 tok0).text) = true then (m0, 50)
  else if (decide ((0 : Int) < (L.drop 1).length) && !((L.drop 1).getD 0 tok0).space) = true then
    if isT ((L.drop 1).getD 0 tok0) lpS = true then
      if (paramsR (L.drop 1)).ok = true then defB (L.getD 0 tok0).text true (paramsR (L.drop 1)).ps (paramsR (L.drop 1)).va ((L.drop 1).drop (paramsR (L.drop 1)).n.toNat) else (m0, 50)
    else (m0, 50)
  else defB (L.getD 0 tok0).text false [] false (L.drop 1)
theorem mStar_nil : ∀ u, NestAt u (mStar m0 (none, 0, none, 0)) := fun u => by
  constructor
  · intro p hp
    simp only [mStar, List.mem_cons, List.not_mem_nil, or_false] at hp
    rcases hp with rfl | rfl <;> exact .inl ⟨rfl, rfl⟩
  · simp only [mStar, starDis, List.pairwise_cons, List.mem_singleton, List.not_mem_nil, false_imp_iff, implies_true, List.Pairwise.nil, and_self, and_true]
    rintro q rfl b hb
    cases hb
def DefR (r : MT × Int) : Value → Im → Prop := StarR (fun s : MA => .tuple #[mVal r.1 s, .int .i64 r.2]) (fun s => mStar r.1 s) (fun _ => True)
theorem defNo (u : Im) : DefR (m0, 50) (.tuple #[mVal m0 (none, 0, none, 0), .int .i64 50]) u := ⟨(none, 0, none, 0), rfl, mStar_nil u, trivial⟩
theorem pF_le : ∀ (n : Nat) (l : List Tok) (P : List ByteArray) (i : Int), l.length ≤ n → 0 ≤ i → (pF P i l).ps.length ≤ P.length + l.length ∧ 0 ≤ (pF P i l).n ∧ (pF P i l).n ≤ i + l.length ∧ ∀ s ∈ (pF P i l).ps, s ∈ P ∨ ∃ t ∈ l, s = t.text
  | _, [], P, i, _, h0 => ⟨by simp [pF], by simp [pF], by simp [pF]; omega, fun s hs => .inl hs⟩
  | _, [t], P, i, _, h0 => ⟨by simp [pF], by simp [pF], by simp [pF]; omega, fun s hs => .inl hs⟩
  | 0, t :: x :: r, P, i, h, h0 => by simp at h
  | n + 1, t :: x :: r, P, i, h, h0 => by
    simp only [List.length_cons] at h
    have ih := pF_le n r (P ++ [t.text]) (i + 2) (by omega) (by omega)
    have one : ∀ s ∈ P ++ [t.text], s ∈ P ∨ ∃ t' ∈ t :: x :: r, s = t'.text := fun s hs => by
      rcases List.mem_append.1 hs with hs | hs
      · exact .inl hs
      · exact .inr ⟨t, List.mem_cons_self .., List.mem_singleton.1 hs⟩
    unfold pF
    split
    · exact ⟨by simp only; omega, by simp only; omega, by simp only [List.length_cons]; omega, fun s hs => .inl hs⟩
    · split
      · exact ⟨by simp only; omega, by simp only; omega, by simp only [List.length_cons]; omega, fun s hs => .inl hs⟩
      · split
        · exact ⟨by simp only [List.length_append, List.length_cons, List.length_nil]; omega, by simp only; omega, by simp only [List.length_cons]; omega, one⟩
        · split
          · refine ⟨?_, ih.2.1, ?_, fun s hs => ?_⟩
            · have := ih.1
              simp only [List.length_append, List.length_cons, List.length_nil] at this ⊢
              omega
            · have := ih.2.2.1
              simp only [List.length_cons]
              omega
            · rcases ih.2.2.2 s hs with hs | ⟨t', ht', e⟩
              · exact one s hs
              · exact .inr ⟨t', List.mem_cons_of_mem _ (List.mem_cons_of_mem _ ht'), e⟩
          · exact ⟨by simp only [List.length_append, List.length_cons, List.length_nil]; omega, by simp only; omega, by simp only [List.length_cons]; omega, one⟩
theorem paramsR_le (L : List Tok) (hL : 1 ≤ L.length) : (paramsR L).ps.length ≤ L.length ∧ 0 ≤ (paramsR L).n ∧ (paramsR L).n ≤ L.length ∧ ∀ s ∈ (paramsR L).ps, ∃ t ∈ L, s = t.text := by
  unfold paramsR
  split
  · rename_i h
    rw [Bool.and_eq_true, decide_eq_true_eq] at h
    exact ⟨by simp, by simp, by simp only; omega, fun s hs => by cases hs⟩
  · have := pF_le _ (L.drop 1) [] 1 (Nat.le_refl _) (by omega)
    simp only [List.length_drop, List.length_nil] at this
    refine ⟨by omega, this.2.1, by omega, fun s hs => ?_⟩
    rcases this.2.2.2 s hs with h | ⟨t, ht, e⟩
    · cases h
    · exact ⟨t, List.mem_of_mem_drop ht, e⟩
def tbl29 : Tbl := [([], [1, 6, 7]), ([1], [2, 6, 7]), ([6], [1, 7]), ([7], [1, 6]), ([1, 2], [3, 6, 7]), ([1, 6], [2, 7]), ([1, 7], [2, 6]), ([6, 7], [1]), ([1, 2, 3], [4, 6, 7]), ([1, 2, 6], [3, 7]), ([1, 2, 7], [3, 6]), ([1, 6, 7], [2]), ([1, 2, 3, 4], [6, 7]), ([1, 2, 3, 6], [4, 7]), ([1, 2, 3, 7], [4, 6]), ([1, 2, 6, 7], [3]), ([1, 2, 3, 4, 6], [7]), ([1, 2, 3, 4, 7], [6, 8]), ([1, 2, 3, 6, 7], [4]), ([1, 2, 3, 4, 6, 7], [8]), ([1, 2, 3, 4, 7, 8], [6]), ([1, 2, 3, 4, 6, 7, 8], [9]), ([1, 2, 3, 4, 6, 7, 8, 9], [])]
set_option maxHeartbeats 4000000 in
set_option maxRecDepth 100000 in
theorem define_any (L : List Tok) (A : Option Addr) (c : Nat) (w : World) (hx : SlAt (im w) (.slice A L.length c) (tokY.d L)) (hL : L.length * 48 ≤ 140737488355328) (zL : ∀ t ∈ L, t.text.size ≤ maxLen) :
    Calls Try.prog 29 #[.slice A L.length c] w (PureP w (DefR (defR L))) := by
  refine x_fun tt_ok Try.func29 rfl rfl [] 0 [.v (.slice A L.length c)] rfl rfl rfl rfl (fun b hb => by cases hb) ?_
  refine x_seq (x_vc tt_ok ?_)
  refine x_seq (x_vc tt_ok ?_)
  refine xl_slG 11 rfl hx ?_
  refine xl_go tt_ok ?_
  repeat (refine And.intro ?_ ?_; first | omega | (simp only [Lay.d_n]; omega) | (simp only [decide_eq_true_eq, decide_eq_false_iff_not, Bool.or_eq_false_iff, Bool.and_eq_true, Bool.or_eq_true, Bool.and_eq_false_iff, Bool.not_eq_true', Bool.not_eq_false', Lay.d_n]; omega) | (simp only [decide_eq_true_eq, decide_eq_false_iff_not, Bool.or_eq_false_iff, Bool.and_eq_true, Bool.or_eq_true, Bool.and_eq_false_iff, Bool.not_eq_true', Bool.not_eq_false']; omega) | (simp only [decide_eq_true_eq, decide_eq_false_iff_not, Bool.or_eq_false_iff]; simp only [Lay.d_n]; omega))
  refine xl_slG 18 rfl hx ?_
  refine xl_go tt_ok ?_
  repeat (refine And.intro ?_ ?_; first | omega | (simp only [Lay.d_n]; omega) | (simp only [decide_eq_true_eq, decide_eq_false_iff_not, Bool.or_eq_false_iff, Bool.and_eq_true, Bool.or_eq_true, Bool.and_eq_false_iff, Bool.not_eq_true', Bool.not_eq_false', Lay.d_n]; omega) | (simp only [decide_eq_true_eq, decide_eq_false_iff_not, Bool.or_eq_false_iff, Bool.and_eq_true, Bool.or_eq_true, Bool.and_eq_false_iff, Bool.not_eq_true', Bool.not_eq_false']; omega) | (simp only [decide_eq_true_eq, decide_eq_false_iff_not, Bool.or_eq_false_iff]; simp only [Lay.d_n]; omega))
  refine xl_gcall0 (.bool (resB (L.getD 0 tok0).text)) rfl rfl rfl rfl fn88 rfl rfl (fun _ E w F hs => reserved_any _ w) ?_
  refine xl_go tt_ok ?_
  refine x_if (fun h => ?_) (fun h => ?_)
  · have h : ((decide ((L.length : Int) = 0) || decide ((L.getD 0 tok0).kind ≠ 1)) || resB (L.getD 0 tok0).text) = true := h
    have e : defR L = (m0, 50) := by unfold defR; rw [if_pos h]
    rw [e]
    exact finP (fun E w' F hs hu => defNo _)
  · have h : ((decide ((L.length : Int) = 0) || decide ((L.getD 0 tok0).kind ≠ 1)) || resB (L.getD 0 tok0).text) = false := h
    have e : defR L = if (decide ((0 : Int) < (L.drop 1).length) && !((L.drop 1).getD 0 tok0).space) = true then
        if isT ((L.drop 1).getD 0 tok0) lpS = true then
          if (paramsR (L.drop 1)).ok = true then defB (L.getD 0 tok0).text true (paramsR (L.drop 1)).ps (paramsR (L.drop 1)).va ((L.drop 1).drop (paramsR (L.drop 1)).n.toNat) else (m0, 50)
        else (m0, 50)
      else defB (L.getD 0 tok0).text false [] false (L.drop 1) := by
      unfold defR; rw [if_neg (by rw [h]; simp)]
    rw [e]
    have hpos : (0 : Int) < L.length := by
      simp only [Bool.or_eq_false_iff, decide_eq_false_iff_not] at h
      omega
    obtain ⟨A1, c1, hA1⟩ : ∃ A1 c1, partV 5 A c 1 L.length = .slice A1 (L.drop 1).length c1 := ⟨_, _, by unfold partV; rw [List.length_drop]⟩
    have hx1 : SlAt (im w) (.slice A1 (L.drop 1).length c1) (tokY.d (L.drop 1)) := by
      have := partV_slAt hx (l := 1) (h := L.length) (by omega) (Nat.le_refl _)
      rw [List.take_length] at this
      rw [← hA1]; exact this
    have zL1 : ∀ t ∈ L.drop 1, t.text.size ≤ maxLen := fun t ht => zL t (List.mem_of_mem_drop ht)
    obtain ⟨R, hR⟩ : ∃ R, R = L.drop 1 := ⟨_, rfl⟩
    have hRl : R.length + 1 = L.length := by rw [hR, List.length_drop]; omega
    rw [← hR] at hA1 hx1 zL1 ⊢
    have hA2 : partV ti31.sz A c (1 : Int).toNat L.length = .slice A1 R.length c1 := hA1
    refine x_seq ?_
    refine x_via (σ := Unit) (fun _ => ⟨[(4, .p 3 0), (2, .p 0 0), (0, .v (.slice A1 R.length c1))], [],
      [(0, .box 36 [.v (.string ⟨#[]⟩), .v (.bool false), .v (.slice none 0 0), .v (.bool false), .v (.slice none 0 0)]), (3, mBox (L.getD 0 tok0).text false (.v (.slice none 0 0)))], 4⟩) (fun _ _ => True) (fun _ => by show 3 ≤ 4; omega) ?_ ?_
    · refine x_drawA mix ?_
      refine xa_pures tt_ok (fuel := 8) [0, 5] rfl (by kernel_rfl) (by kernel_rfl) (fun _ _ _ hh => hh) (by kernel_rfl) (by kernel_rfl) ?_
      refine xa_fam (fuel := 0) (N := 8) tbl29 (fun D => ⟨selD D [(9, (0, .v (.slice A1 R.length c1))), (1, (26, .e 4 5 0 0)), (2, (27, .e 4 5 0 1)), (3, (28, .v (.string (L.getD 0 tok0).text))), (4, (29, .v (mVal ⟨(L.getD 0 tok0).text, false, [], false, []⟩ (none, 0, none, 0)))), (6, (31, .v (.slice A1 R.length c1))), (7, (4, .p 3 0))] ++
          selN D [(1, (25, .v (.slice A L.length c)))] ++ [(30, .v (.slice A L.length c)), (2, .p 0 0)], [],
          selO D [(3, [(8, mBox (L.getD 0 tok0).text false (.v (.slice none 0 0))), (7, .box 36 [.v (.string ⟨#[]⟩), .v (.bool false), .v (.slice none 0 0), .v (.bool false), .v (.slice none 0 0)])]), (4, [(1, .sl (tokY.d L))])] ++
          [(0, .box 36 [.v (.string ⟨#[]⟩), .v (.bool false), .v (.slice none 0 0), .v (.bool false), .v (.slice none 0 0)])], 5⟩) (fun D i => insD i D) rfl (by kernel_rfl) (by kernel_rfl) (by kernel_rfl) [] (.of rfl rfl rfl rfl rfl rfl) (fun _ => by show 3 ≤ 5; omega) ?_ [1, 2, 3, 4, 6, 7, 8, 9] (by kernel_rfl) (fun u3 hu3 => ?_)
      · repeat' (refine And.intro ?_ ?_)
        all_goals first | exact trivial | (intro u' hu'; first | (refine xl_go tt_ok ?_; first | exact meet () [] (.of rfl rfl rfl rfl rfl rfl) trivial | exact meet () [(3, some 5)] (.of rfl rfl rfl rfl rfl rfl) trivial) | (refine xl_fromE tt_ok rfl rfl rfl rfl rfl rfl rfl rfl rfl (by omega) (by omega) ?_; refine xl_end ?_; rw [hA2]; exact meet () [] (.of rfl rfl rfl rfl rfl rfl) trivial) | (refine xl_sl 25 rfl (hx.le hu') ?_; refine xl_go tt_ok ?_; (repeat (refine And.intro (by first | omega | (simp only [Lay.d_n]; omega)) ?_)); exact meet () [(4, some 5)] (.of rfl rfl rfl rfl rfl rfl) trivial))
      · refine xa_done (by kernel_rfl) rfl ?_
        exact meet () [] (.of rfl rfl rfl rfl rfl rfl) trivial
    · rintro _ u4 hu4 _
      clear hx hA1 hA2 h e
      generalize (L.getD 0 tok0).text = nm
      clear hR hpos
      obtain ⟨res, hres⟩ : ∃ res, res = (if (decide ((0 : Int) < R.length) && !(R.getD 0 tok0).space) = true then
            if isT (R.getD 0 tok0) lpS = true then
              if (paramsR R).ok = true then defB nm true (paramsR R).ps (paramsR R).va (R.drop (paramsR R).n.toNat) else (m0, 50)
            else (m0, 50)
          else defB nm false [] false R) := ⟨_, rfl⟩
      rw [← hres]
      refine x_nilCell 3 9 strY [.v (.string nm), .v (.bool false)] [.v (.bool false), .v (.slice none 0 0)] rfl ?_
      refine x_cut (σ := Bool × Bool × List ByteArray × List Tok × Option Addr × Nat) (fun (fn, va, ps, l, A2, c2) => ⟨[(4, .p 3 0), (2, .p 0 0), (0, .v (.slice A2 l.length c2))], [],
          [(0, .box 36 [.v (.string ⟨#[]⟩), .v (.bool false), .v (.slice none 0 0), .v (.bool false), .v (.slice none 0 0)]), (3, .box 36 [.v (.string nm), .v (.bool fn), .r 5, .v (.bool va), .v (.slice none 0 0)]), (5, .row 9 (strY.d ps))], 6⟩)
        (fun (fn, va, ps, l, A2, c2) u => SlAt u (.slice A2 l.length c2) (tokY.d l) ∧ l.length ≤ R.length ∧ ps.length ≤ R.length ∧ (∀ t ∈ l, t.text.size ≤ maxLen) ∧ (∀ s ∈ ps, s.size ≤ maxLen) ∧
          res = defB nm fn ps va l) (fun (_, _, _, _, _, _) => by show 5 ≤ 6; omega) ?_ ?_
      · refine x_vc tt_ok ?_
        refine xl_slG 36 rfl (hx1.le hu4) ?_
        refine xl_go tt_ok ?_
        repeat (refine And.intro ?_ ?_; first | omega | (simp only [Lay.d_n]; omega) | (simp only [decide_eq_true_eq, decide_eq_false_iff_not, Bool.or_eq_false_iff, Bool.and_eq_true, Bool.or_eq_true, Bool.and_eq_false_iff, Bool.not_eq_true', Bool.not_eq_false', Lay.d_n]; omega) | (simp only [decide_eq_true_eq, decide_eq_false_iff_not, Bool.or_eq_false_iff, Bool.and_eq_true, Bool.or_eq_true, Bool.and_eq_false_iff, Bool.not_eq_true', Bool.not_eq_false']; omega) | (simp only [decide_eq_true_eq, decide_eq_false_iff_not, Bool.or_eq_false_iff]; simp only [Lay.d_n]; omega))
        refine x_if (fun h => ?_) (fun h => ?_)
        · have h : (decide ((0 : Int) < R.length) && !(R.getD 0 tok0).space) = true := h
          rw [if_pos h] at hres
          have hRp : 1 ≤ R.length := by
            rw [Bool.and_eq_true, decide_eq_true_eq] at h
            omega
          refine xl_sl 42 rfl (hx1.le hu4) ?_
          refine xl_go tt_ok ?_
          repeat (refine And.intro ?_ ?_; first | omega | (simp only [Lay.d_n]; omega) | (simp only [decide_eq_true_eq, decide_eq_false_iff_not, Bool.or_eq_false_iff, Bool.and_eq_true, Bool.or_eq_true, Bool.and_eq_false_iff, Bool.not_eq_true', Bool.not_eq_false', Lay.d_n]; omega) | (simp only [decide_eq_true_eq, decide_eq_false_iff_not, Bool.or_eq_false_iff, Bool.and_eq_true, Bool.or_eq_true, Bool.and_eq_false_iff, Bool.not_eq_true', Bool.not_eq_false']; omega) | (simp only [decide_eq_true_eq, decide_eq_false_iff_not, Bool.or_eq_false_iff]; simp only [Lay.d_n]; omega))
          refine xl_build tt_ok strY lpS [_] rfl rfl rfl rfl rfl rfl rfl rfl rfl rfl rfl rfl rfl rfl rfl ?_
          refine xl_go tt_ok ?_
          refine xl_call0 (.bool (isT (R.getD 0 tok0) lpS)) rfl rfl rfl rfl fn89 rfl rfl (fun E w F hs => is_any (R.getD 0 tok0) lpS _ w (hs.rowAt (k := 7) rfl) (by decide)) ?_
          refine xl_go tt_ok ?_
          refine x_if (fun h2 => ?_) (fun h2 => ?_)
          · have h2 : (!isT (R.getD 0 tok0) lpS) = true := h2
            rw [if_neg (by intro h3; rw [h3] at h2; cases h2)] at hres
            rw [hres]
            exact finP (fun E w' F hs hu => defNo _)
          · have h2 : isT (R.getD 0 tok0) lpS = true := by
              have h2 : (!isT (R.getD 0 tok0) lpS) = false := h2
              simpa using h2
            rw [if_pos h2] at hres
            obtain ⟨z1, z2, z3, z4⟩ := paramsR_le R hRp
            refine xl_callSC (params_sc nm R A1 c1 (by omega) zL1) (fun u u' h hs => hs.sub h) (hx1.le hu4) [3, 4] rfl rfl rfl rfl fn90 rfl rfl rfl rfl rfl rfl rfl (fun _ => rfl) (fun _ u6 hu6 _ => ?_)
            refine xl_go tt_ok ?_
            refine x_if (fun h3 => ?_) (fun h3 => ?_)
            · have h3 : (!(paramsR R).ok) = true := h3
              rw [if_neg (by intro h4; rw [h4] at h3; cases h3)] at hres
              rw [hres]
              exact finP (fun E w' F hs hu => defNo _)
            · have h3 : (paramsR R).ok = true := by
                have h3 : (!(paramsR R).ok) = false := h3
                simpa using h3
              rw [if_pos h3] at hres
              obtain ⟨q, hq⟩ : ∃ q, q = paramsR R := ⟨_, rfl⟩
              rw [← hq] at hres z1 z2 z3 z4 ⊢
              obtain ⟨A2, c2, hA2⟩ : ∃ A2 c2, partV ti31.sz A1 c1 q.n.toNat R.length = .slice A2 (R.drop q.n.toNat).length c2 := ⟨_, _, by unfold partV; rw [List.length_drop]⟩
              have hx2 : SlAt u6 (.slice A2 (R.drop q.n.toNat).length c2) (tokY.d (R.drop q.n.toNat)) := by
                have := partV_slAt ((hx1.le hu4).le hu6) (l := q.n.toNat) (h := R.length) (by omega) (Nat.le_refl _)
                rw [List.take_length] at this
                rw [← hA2]; exact this
              refine x_drawA mix ?_
              refine xa_pures tt_ok (fuel := 3) [0, 1, 3] rfl (by kernel_rfl) (by kernel_rfl) (fun _ _ _ hh => hh) (by kernel_rfl) (by kernel_rfl) ?_
              refine xa_two 2 4 (by kernel_rfl) rfl rfl ?_ ?_
              · refine xl_fromE tt_ok rfl rfl rfl rfl rfl rfl rfl rfl rfl (by omega) (by omega) ?_
                rw [hA2]
                refine xl_end ?_
                refine xa_chain (fuel := 0) [4, 5] rfl rfl (by kernel_rfl) (xl_go tt_ok ?_)
                refine xa_done (by kernel_rfl) rfl ?_
                exact meet (true, q.va, q.ps, R.drop q.n.toNat, A2, c2) [(5, some 8)] (.of rfl rfl rfl rfl rfl rfl) ⟨hx2, by rw [List.length_drop]; omega, z1, fun t ht => zL1 t (List.mem_of_mem_drop ht), fun s hs => (by obtain ⟨t, ht, e⟩ := z4 s hs; rw [e]; exact zL1 t ht), hres⟩
              · refine xl_go tt_ok ?_
                refine xa_one 2 (by kernel_rfl) rfl ?_
                refine xl_fromE tt_ok rfl rfl rfl rfl rfl rfl rfl rfl rfl (by omega) (by omega) ?_
                rw [hA2]
                refine xl_end ?_
                refine xa_one 5 (by kernel_rfl) rfl (xl_go tt_ok ?_)
                refine xa_done (by kernel_rfl) rfl ?_
                exact meet (true, q.va, q.ps, R.drop q.n.toNat, A2, c2) [(5, some 8)] (.of rfl rfl rfl rfl rfl rfl) ⟨hx2, by rw [List.length_drop]; omega, z1, fun t ht => zL1 t (List.mem_of_mem_drop ht), fun s hs => (by obtain ⟨t, ht, e⟩ := z4 s hs; rw [e]; exact zL1 t ht), hres⟩
        · have h : (decide ((0 : Int) < R.length) && !(R.getD 0 tok0).space) = false := h
          rw [if_neg (by rw [h]; simp)] at hres
          exact meet (false, false, [], R, A1, c1) [(5, some 4)] (.of rfl rfl rfl rfl rfl rfl) ⟨hx1.le hu4, Nat.le_refl _, Nat.zero_le _, zL1, fun s hs => (by cases hs), hres⟩
      · rintro ⟨fn, va, ps, l, A2, c2⟩ u5 hu5 ⟨k1, k2, k3, k4, k5, k6⟩
        rw [k6]
        clear k6 hres hx1
        refine x_star0 0 ?_
        refine x_parkB 5 6 3 rfl rfl rfl (fun pa pc => ?_)
        refine x_vc tt_ok ?_
        refine xl_call0 (.bool (validB fn va ps l)) rfl rfl rfl rfl fn91 rfl rfl (fun E w F hs => valid_any nm fn va ps pa none pc 0 0 l _ w (k1.imm hs.imm) (hs.starAt (s := 6) (i := 0) rfl rfl) (by omega) (by omega) k4 k5) ?_
        refine xl_go tt_ok ?_
        refine x_if (fun h => ?_) (fun h => ?_)
        · have h : (!validB fn va ps l) = true := h
          have e : defB nm fn ps va l = (m0, 50) := by
            unfold defB
            rw [if_neg (by intro h3; rw [h3] at h; cases h)]
          rw [e]
          exact finP (fun E w' F hs hu => defNo _)
        · have h : validB fn va ps l = true := by
            have h : (!validB fn va ps l) = false := h
            simpa using h
          have e : defB nm fn ps va l = (⟨nm, fn, ps, va, fixS (l.map ofT)⟩, 0) := by unfold defB; rw [if_pos h]
          rw [e]
          refine xl_callO 46 (pvY.d (l.map ofT)) rfl rfl rfl rfl fn31 rfl rfl (fun E w F hs => of_any l _ w (k1.imm hs.imm) (by omega)) ?_
          have hml : (l.map ofT).length = l.length := by rw [List.length_map]
          generalize l.map ofT = M at hml
          refine xl_go tt_ok ?_
          cases M with
          | nil =>
            refine x_iff rfl ?_
            refine xl_parkB 7 6 3 rfl rfl rfl (fun ba bc => ?_)
            refine xl_go tt_ok ?_
            exact finStar (k := 6) (pa, pc, ba, bc) rfl (fun _ => rfl) trivial
          | cons t r =>
            refine x_ift (decide_eq_true (by show (0 : Int) < ((r.length + 1 : Nat) : Int); omega)) ?_
            refine And.intro (by omega) ?_
            refine And.intro (by show (0 : Int) < ((r.length + 1 : Nat) : Int); omega) ?_
            refine xl_set tt_ok (i := 0) (off := 2) pvY (t :: r) { t with space := false } (cs := [.bool false]) rfl rfl rfl rfl rfl rfl rfl (by omega) (by simp only [List.length_cons]; omega) rfl rfl (by decide) rfl ?_
            refine xl_go tt_ok ?_
            refine xl_parkB 7 6 3 rfl rfl rfl (fun ba bc => ?_)
            refine xl_go tt_ok ?_
            exact finStar (k := 6) (pa, pc, ba, bc) rfl (fun _ => rfl) trivial
end Go.Proofs.Ytdonomneofdhfaa
namespace Go.Proofs.Ytdonomneofdhfaa
open Go.GV Go.RowKit
theorem memB_step {L : List ByteArray} {i : Nat} {s : ByteArray} (hi : i < L.length) : memB s (L.take (i + 1)) = (memB s (L.take i) || decide (s = L.getD i ⟨#[]⟩)) := by
  unfold memB
  rw [take_get (List.getElem?_eq_getElem hi), List.any_append, List.getD_eq_getElem?_getD, List.getElem?_eq_getElem hi]
  simp
set_option maxRecDepth 100000 in
theorem among_any (L : List ByteArray) (s : ByteArray) (x : Value) (w : World) (hx : SlAt (im w) x (strY.d L)) (hL : L.length ≤ 9223372036854775806) :
    Calls Try.prog 92 #[x, .string s] w (PureP w fun v _ => v = .bool (memB s L)) := by
  refine x_fun tt_ok Try.func92 rfl rfl [(x, strY.d L)] 1 [.r 0, .v (.string s)] rfl rfl rfl rfl (fun b hb => by simp at hb; subst hb; exact hx) ?_
  refine x_vc tt_ok ?_
  refine x_loop (σ := Int) (fun i => ⟨[(5, .v (.int .i64 i)), (1, .v (.string s)), (0, .r 0)], [], [(0, .sl (strY.d L))], 1⟩)
    (fun i _ => 0 ≤ i ∧ i ≤ L.length ∧ memB s (L.take i.toNat) = false) (fun i => (L.length - i).toNat) (fun _ => Nat.le_refl _) 0 [] (.of rfl rfl rfl rfl rfl rfl) ⟨by omega, by omega, rfl⟩ ?_
  rintro i u hu ⟨g1, g2, g3⟩
  refine x_vc tt_ok ?_
  refine x_if (fun h => ?_) (fun h => ?_)
  · have h : i < L.length := of_decide_eq_true h
    repeat (refine And.intro ?_ ?_; first | omega | (simp only [Lay.d_n]; omega) | (simp only [decide_eq_true_eq, decide_eq_false_iff_not, Bool.or_eq_false_iff, Bool.and_eq_true, Bool.or_eq_true, Bool.and_eq_false_iff, Bool.not_eq_true', Bool.not_eq_false', Lay.d_n]; omega) | (simp only [decide_eq_true_eq, decide_eq_false_iff_not, Bool.or_eq_false_iff, Bool.and_eq_true, Bool.or_eq_true, Bool.and_eq_false_iff, Bool.not_eq_true', Bool.not_eq_false']; omega) | (simp only [decide_eq_true_eq, decide_eq_false_iff_not, Bool.or_eq_false_iff]; simp only [Lay.d_n]; omega))
    have hst := memB_step (L := L) (i := i.toNat) (s := s) (by omega)
    rw [g3, Bool.false_or] at hst
    refine x_if (fun h2 => ?_) (fun h2 => ?_)
    · have h2 : L.getD i.toNat ⟨#[]⟩ = s := of_decide_eq_true h2
      refine fin1 (fun _ _ => ?_)
      have hm : memB s L = true := by
        rw [memB_iff, ← h2, List.getD_eq_getElem?_getD, List.getElem?_eq_getElem (by omega)]
        exact List.getElem_mem _
      rw [hm]; rfl
    · have h2 : ¬ L.getD i.toNat ⟨#[]⟩ = s := of_decide_eq_false h2
      repeat (refine And.intro ?_ ?_; first | omega | (simp only [Lay.d_n]; omega) | (simp only [decide_eq_true_eq, decide_eq_false_iff_not, Bool.or_eq_false_iff, Bool.and_eq_true, Bool.or_eq_true, Bool.and_eq_false_iff, Bool.not_eq_true', Bool.not_eq_false', Lay.d_n]; omega) | (simp only [decide_eq_true_eq, decide_eq_false_iff_not, Bool.or_eq_false_iff, Bool.and_eq_true, Bool.or_eq_true, Bool.and_eq_false_iff, Bool.not_eq_true', Bool.not_eq_false']; omega) | (simp only [decide_eq_true_eq, decide_eq_false_iff_not, Bool.or_eq_false_iff]; simp only [Lay.d_n]; omega))
      refine again (i + 1) [] (.of rfl rfl rfl rfl rfl rfl) ⟨by omega, by omega, ?_⟩ (by omega)
      rw [show (i + 1).toNat = i.toNat + 1 by omega, hst]
      exact decide_eq_false (Ne.symm h2)
  · have h : ¬ i < L.length := of_decide_eq_false h
    rw [List.take_of_length_le (by omega)] at g3
    refine fin1 (fun _ _ => ?_)
    rw [g3]; rfl
def atB (L : List Tok) (i : Int) (s : ByteArray) : Bool := decide (i < L.length) && decide ((L.getD i.toNat tok0).kind = 5) && decide ((L.getD i.toNat tok0).text = s)
theorem atB_isT {L : List Tok} {i : Int} (s : ByteArray) (h : i < L.length) : atB L i s = isT (L.getD i.toNat tok0) [s] := by
  unfold atB isT memB
  rw [decide_eq_true h]
  simp
theorem atB_end {L : List Tok} {i : Int} (s : ByteArray) (h : ¬ i < L.length) : atB L i s = false := by
  unfold atB
  rw [decide_eq_false h]; rfl
set_option maxRecDepth 100000 in
theorem at_any (L : List Tok) (i : Int) (s : ByteArray) (x : Value) (w : World) (hx : SlAt (im w) x (tokY.d L)) (h0 : 0 ≤ i) :
    Calls Try.prog 93 #[x, .int .i64 i, .string s] w (PureP w fun v _ => v = .bool (atB L i s)) := by
  refine x_fun tt_ok Try.func93 rfl rfl [(x, tokY.d L)] 1 [.r 0, .v (.int .i64 i), .v (.string s)] rfl rfl rfl rfl (fun b hb => by simp at hb; subst hb; exact hx) ?_
  refine x_vc tt_ok ?_
  repeat (refine And.intro ?_ ?_; first | omega | (simp only [Lay.d_n]; omega) | (simp only [decide_eq_true_eq, decide_eq_false_iff_not, Bool.or_eq_false_iff, Bool.and_eq_true, Bool.or_eq_true, Bool.and_eq_false_iff, Bool.not_eq_true', Bool.not_eq_false', Lay.d_n]; omega) | (simp only [decide_eq_true_eq, decide_eq_false_iff_not, Bool.or_eq_false_iff, Bool.and_eq_true, Bool.or_eq_true, Bool.and_eq_false_iff, Bool.not_eq_true', Bool.not_eq_false']; omega) | (simp only [decide_eq_true_eq, decide_eq_false_iff_not, Bool.or_eq_false_iff]; simp only [Lay.d_n]; omega))
  exact fin1 (fun _ _ => rfl)
theorem finO3 {w0 : World} {ow : GV.Own} {nx : Nat} {u : Im} {k : Nat} {e : TypeId} {D : GV.Data} {y z : Value} (hk : GV.look ow k = some (GV.Rs.row e D)) : Done w0 (OwnT e D [y, z]) [.r k, .v y, .v z] ow nx u :=
  finP fun _ _ _ hs hu => ⟨_, rfl, hs.rowOwn hk hu⟩
theorem finO3n {α : Type} {w0 : World} {ow : GV.Own} {nx : Nat} {u : Im} {e : TypeId} (Y : Lay α) {y z : Value} : Done w0 (OwnT e (Y.d []) [y, z]) [.v (.slice none 0 0), .v y, .v z] ow nx u :=
  finP fun _ _ _ _ _ => ⟨_, rfl, .inl ⟨rfl, rfl⟩⟩
def refP (q : PR) : List ByteArray × Bool × Int := if q.ok = true then (q.ps, q.va, q.n) else ([], false, -1)
def sDots : ByteArray := ⟨#[46, 46, 46]⟩
def sRp : ByteArray := ⟨#[41]⟩
def sComma : ByteArray := ⟨#[44]⟩
theorem pF_at {L : List Tok} {i : Int} (P : List ByteArray) (h0 : 0 ≤ i) (h : i < L.length) : refP (pF P i (L.drop i.toNat)) =
    if atB L i sDots = true then (if atB L (i + 1) sRp = true then (P, true, i + 2) else ([], false, -1))
    else if ((decide ((L.getD i.toNat tok0).kind ≠ 1) || decide ((L.getD i.toNat tok0).text = sRest)) || memB (L.getD i.toNat tok0).text P) = true then ([], false, -1)
    else if atB L (i + 1) sRp = true then (P ++ [(L.getD i.toNat tok0).text], false, i + 2)
    else if atB L (i + 1) sComma = true then refP (pF (P ++ [(L.getD i.toNat tok0).text]) (i + 2) (L.drop (i + 2).toNat))
    else ([], false, -1) := by
  rw [drop_at (d := tok0) h0 h, atB_isT sDots h]
  by_cases h1 : i + 1 < L.length
  · rw [drop_at (d := tok0) (by omega) h1, atB_isT sRp h1, atB_isT sComma h1, show (i + 1 + 1) = i + 2 by omega]
    generalize L.getD i.toNat tok0 = t
    generalize L.getD (i + 1).toNat tok0 = x
    generalize L.drop (i + 2).toNat = r
    show refP (if isT t [sDots] = true then ⟨P, true, i + 2, isT x [sRp]⟩
      else if ((decide (t.kind ≠ 1) || decide (t.text = sRest)) || memB t.text P) = true then ⟨P, false, 0, false⟩
      else if isT x [sRp] = true then ⟨P ++ [t.text], false, i + 2, true⟩
      else if isT x [sComma] = true then pF (P ++ [t.text]) (i + 2) r
      else ⟨P ++ [t.text], false, 0, false⟩) = _
    split
    · unfold refP; rfl
    · split
      · rfl
      · split
        · rfl
        · split
          · rfl
          · rfl
  · rw [List.drop_eq_nil_of_le (by omega), atB_end sRp h1, atB_end sComma h1]
    generalize L.getD i.toNat tok0 = t
    have e : refP (pF P i [t]) = ([], false, -1) := rfl
    rw [e]
    simp
set_option maxRecDepth 100000 in
theorem refParams_any (L : List Tok) (i0 : Int) (x : Value) (w : World) (hx : SlAt (im w) x (tokY.d L)) (h0 : 0 ≤ i0) (h1 : i0 ≤ L.length) (hL : L.length * 48 ≤ 140737488355328) (r : List ByteArray × Bool × Int)
    (hr : r = refP (if atB L i0 sRp = true then ⟨[], false, i0 + 1, true⟩ else pF [] i0 (L.drop i0.toNat))) :
    Calls Try.prog 94 #[x, .int .i64 i0] w (PureP w (OwnT 9 (strY.d r.1) [.bool r.2.1, .int .i64 r.2.2])) := by
  refine x_fun tt_ok Try.func94 rfl rfl [(x, tokY.d L)] 1 [.r 0, .v (.int .i64 i0)] rfl rfl rfl rfl (fun b hb => by simp at hb; subst hb; exact hx) ?_
  refine x_vc tt_ok ?_
  refine xl_call0 (.bool (atB L i0 sRp)) rfl rfl rfl rfl fn93 rfl rfl (fun E w F hs => at_any L i0 sRp _ w (hs.slAt (k := 0) rfl) h0) ?_
  refine xl_go tt_ok ?_
  refine x_if (fun h => ?_) (fun h => ?_)
  · have h : atB L i0 sRp = true := h
    repeat (refine And.intro ?_ ?_; first | omega | (simp only [Lay.d_n]; omega) | (simp only [decide_eq_true_eq, decide_eq_false_iff_not, Bool.or_eq_false_iff, Bool.and_eq_true, Bool.or_eq_true, Bool.and_eq_false_iff, Bool.not_eq_true', Bool.not_eq_false', Lay.d_n]; omega) | (simp only [decide_eq_true_eq, decide_eq_false_iff_not, Bool.or_eq_false_iff, Bool.and_eq_true, Bool.or_eq_true, Bool.and_eq_false_iff, Bool.not_eq_true', Bool.not_eq_false']; omega) | (simp only [decide_eq_true_eq, decide_eq_false_iff_not, Bool.or_eq_false_iff]; simp only [Lay.d_n]; omega))
    rw [if_pos h] at hr
    rw [hr]
    exact finO3n strY
  · have h : atB L i0 sRp = false := h
    rw [if_neg (by rw [h]; simp)] at hr
    refine x_nil 7 9 strY rfl ?_
    refine x_loop (σ := Int × List ByteArray) (fun (i, P) => ⟨[(7, .r 2), (1, .v (.int .i64 i)), (0, .r 0)], [], [(0, .sl (tokY.d L)), (2, .row 9 (strY.d P))], 3⟩)
      (fun (i, P) _ => 0 ≤ i ∧ P.length ≤ i ∧ i ≤ L.length + 2 ∧ refP (pF P i (L.drop i.toNat)) = r) (fun (i, _) => (L.length + 2 - i).toNat) (fun (_, _) => by simp only; omega) (i0, []) [(2, some 1)] (.of rfl rfl rfl rfl rfl rfl)
      ⟨by omega, by simp only [List.length_nil]; omega, by omega, hr.symm⟩ ?_
    rintro ⟨i, P⟩ u hu ⟨g1, g2, g3, g4⟩
    refine x_vc tt_ok ?_
    refine x_if (fun h2 => ?_) (fun h2 => ?_)
    · have h2 : i < L.length := of_decide_eq_true h2
      rw [pF_at P g1 h2] at g4
      refine xl_call0 (.bool (atB L i sDots)) rfl rfl rfl rfl fn93 rfl rfl (fun E w F hs => at_any L i sDots _ w (hs.slAt (k := 0) rfl) g1) ?_
      refine xl_go tt_ok ?_
      refine x_if (fun h3 => ?_) (fun h3 => ?_)
      · have h3 : atB L i sDots = true := h3
        rw [if_pos h3] at g4
        repeat (refine And.intro ?_ ?_; first | omega | (simp only [Lay.d_n]; omega) | (simp only [decide_eq_true_eq, decide_eq_false_iff_not, Bool.or_eq_false_iff, Bool.and_eq_true, Bool.or_eq_true, Bool.and_eq_false_iff, Bool.not_eq_true', Bool.not_eq_false', Lay.d_n]; omega) | (simp only [decide_eq_true_eq, decide_eq_false_iff_not, Bool.or_eq_false_iff, Bool.and_eq_true, Bool.or_eq_true, Bool.and_eq_false_iff, Bool.not_eq_true', Bool.not_eq_false']; omega) | (simp only [decide_eq_true_eq, decide_eq_false_iff_not, Bool.or_eq_false_iff]; simp only [Lay.d_n]; omega))
        refine xl_call0 (.bool (atB L (i + 1) sRp)) rfl rfl rfl rfl fn93 rfl rfl (fun E w F hs => at_any L (i + 1) sRp _ w (hs.slAt (k := 0) rfl) (by omega)) ?_
        refine xl_go tt_ok ?_
        refine x_if (fun h4 => ?_) (fun h4 => ?_)
        · have h4 : atB L (i + 1) sRp = true := h4
          rw [if_pos h4] at g4
          repeat (refine And.intro ?_ ?_; first | omega | (simp only [Lay.d_n]; omega) | (simp only [decide_eq_true_eq, decide_eq_false_iff_not, Bool.or_eq_false_iff, Bool.and_eq_true, Bool.or_eq_true, Bool.and_eq_false_iff, Bool.not_eq_true', Bool.not_eq_false', Lay.d_n]; omega) | (simp only [decide_eq_true_eq, decide_eq_false_iff_not, Bool.or_eq_false_iff, Bool.and_eq_true, Bool.or_eq_true, Bool.and_eq_false_iff, Bool.not_eq_true', Bool.not_eq_false']; omega) | (simp only [decide_eq_true_eq, decide_eq_false_iff_not, Bool.or_eq_false_iff]; simp only [Lay.d_n]; omega))
          rw [← g4]
          exact finO3 (k := 2) rfl
        · have h4 : atB L (i + 1) sRp = false := h4
          rw [if_neg (by rw [h4]; simp)] at g4
          rw [← g4]
          exact finO3n strY
      · have h3 : atB L i sDots = false := h3
        rw [if_neg (by rw [h3]; simp)] at g4
        repeat (refine And.intro ?_ ?_; first | omega | (simp only [Lay.d_n]; omega) | (simp only [decide_eq_true_eq, decide_eq_false_iff_not, Bool.or_eq_false_iff, Bool.and_eq_true, Bool.or_eq_true, Bool.and_eq_false_iff, Bool.not_eq_true', Bool.not_eq_false', Lay.d_n]; omega) | (simp only [decide_eq_true_eq, decide_eq_false_iff_not, Bool.or_eq_false_iff, Bool.and_eq_true, Bool.or_eq_true, Bool.and_eq_false_iff, Bool.not_eq_true', Bool.not_eq_false']; omega) | (simp only [decide_eq_true_eq, decide_eq_false_iff_not, Bool.or_eq_false_iff]; simp only [Lay.d_n]; omega))
        refine xl_gcall0 (.bool (memB (L.getD i.toNat tok0).text P)) rfl rfl rfl rfl fn92 rfl rfl (fun _ E w F hs => among_any P _ _ w (hs.rowAt (k := 2) rfl) (by omega)) ?_
        refine xl_go tt_ok ?_
        refine x_if (fun h4 => ?_) (fun h4 => ?_)
        · have h4 : ((decide ((L.getD i.toNat tok0).kind ≠ 1) || decide ((L.getD i.toNat tok0).text = sRest)) || memB (L.getD i.toNat tok0).text P) = true := h4
          rw [if_pos h4] at g4
          rw [← g4]
          exact finO3n strY
        · have h4 : ((decide ((L.getD i.toNat tok0).kind ≠ 1) || decide ((L.getD i.toNat tok0).text = sRest)) || memB (L.getD i.toNat tok0).text P) = false := h4
          rw [if_neg (by rw [h4]; simp)] at g4
          repeat (refine And.intro ?_ ?_; first | omega | (simp only [Lay.d_n]; omega) | (simp only [decide_eq_true_eq, decide_eq_false_iff_not, Bool.or_eq_false_iff, Bool.and_eq_true, Bool.or_eq_true, Bool.and_eq_false_iff, Bool.not_eq_true', Bool.not_eq_false', Lay.d_n]; omega) | (simp only [decide_eq_true_eq, decide_eq_false_iff_not, Bool.or_eq_false_iff, Bool.and_eq_true, Bool.or_eq_true, Bool.and_eq_false_iff, Bool.not_eq_true', Bool.not_eq_false']; omega) | (simp only [decide_eq_true_eq, decide_eq_false_iff_not, Bool.or_eq_false_iff]; simp only [Lay.d_n]; omega))
          refine xl_push tt_ok strY P (L.getD i.toNat tok0).text 16 (cs := [.string (L.getD i.toNat tok0).text]) rfl rfl rfl rfl rfl rfl rfl rfl rfl rfl rfl rfl (by kernel_rfl) rfl rfl rfl rfl rfl (fun n hn => by cases hn; decide) rfl rfl rfl (by omega) (by omega) ?_
          refine xl_go tt_ok ?_
          repeat (refine And.intro ?_ ?_; first | omega | (simp only [Lay.d_n]; omega) | (simp only [decide_eq_true_eq, decide_eq_false_iff_not, Bool.or_eq_false_iff, Bool.and_eq_true, Bool.or_eq_true, Bool.and_eq_false_iff, Bool.not_eq_true', Bool.not_eq_false', Lay.d_n]; omega) | (simp only [decide_eq_true_eq, decide_eq_false_iff_not, Bool.or_eq_false_iff, Bool.and_eq_true, Bool.or_eq_true, Bool.and_eq_false_iff, Bool.not_eq_true', Bool.not_eq_false']; omega) | (simp only [decide_eq_true_eq, decide_eq_false_iff_not, Bool.or_eq_false_iff]; simp only [Lay.d_n]; omega))
          refine xl_call0 (.bool (atB L (i + 1) sRp)) rfl rfl rfl rfl fn93 rfl rfl (fun E w F hs => at_any L (i + 1) sRp _ w (hs.slAt (k := 0) rfl) (by omega)) ?_
          refine xl_go tt_ok ?_
          refine x_if (fun h5 => ?_) (fun h5 => ?_)
          · have h5 : atB L (i + 1) sRp = true := h5
            rw [if_pos h5] at g4
            repeat (refine And.intro ?_ ?_; first | omega | (simp only [Lay.d_n]; omega) | (simp only [decide_eq_true_eq, decide_eq_false_iff_not, Bool.or_eq_false_iff, Bool.and_eq_true, Bool.or_eq_true, Bool.and_eq_false_iff, Bool.not_eq_true', Bool.not_eq_false', Lay.d_n]; omega) | (simp only [decide_eq_true_eq, decide_eq_false_iff_not, Bool.or_eq_false_iff, Bool.and_eq_true, Bool.or_eq_true, Bool.and_eq_false_iff, Bool.not_eq_true', Bool.not_eq_false']; omega) | (simp only [decide_eq_true_eq, decide_eq_false_iff_not, Bool.or_eq_false_iff]; simp only [Lay.d_n]; omega))
            rw [← g4]
            exact finO3 (k := 3) rfl
          · have h5 : atB L (i + 1) sRp = false := h5
            rw [if_neg (by rw [h5]; simp)] at g4
            repeat (refine And.intro ?_ ?_; first | omega | (simp only [Lay.d_n]; omega) | (simp only [decide_eq_true_eq, decide_eq_false_iff_not, Bool.or_eq_false_iff, Bool.and_eq_true, Bool.or_eq_true, Bool.and_eq_false_iff, Bool.not_eq_true', Bool.not_eq_false', Lay.d_n]; omega) | (simp only [decide_eq_true_eq, decide_eq_false_iff_not, Bool.or_eq_false_iff, Bool.and_eq_true, Bool.or_eq_true, Bool.and_eq_false_iff, Bool.not_eq_true', Bool.not_eq_false']; omega) | (simp only [decide_eq_true_eq, decide_eq_false_iff_not, Bool.or_eq_false_iff]; simp only [Lay.d_n]; omega))
            refine xl_call0 (.bool (atB L (i + 1) sComma)) rfl rfl rfl rfl fn93 rfl rfl (fun E w F hs => at_any L (i + 1) sComma _ w (hs.slAt (k := 0) rfl) (by omega)) ?_
            refine xl_go tt_ok ?_
            refine x_if (fun h6 => ?_) (fun h6 => ?_)
            · have h6 : (!atB L (i + 1) sComma) = true := h6
              rw [if_neg (by intro h7; rw [h7] at h6; cases h6)] at g4
              rw [← g4]
              exact finO3n strY
            · have h6 : atB L (i + 1) sComma = true := by
                have h6 : (!atB L (i + 1) sComma) = false := h6
                simpa using h6
              rw [if_pos h6] at g4
              repeat (refine And.intro ?_ ?_; first | omega | (simp only [Lay.d_n]; omega) | (simp only [decide_eq_true_eq, decide_eq_false_iff_not, Bool.or_eq_false_iff, Bool.and_eq_true, Bool.or_eq_true, Bool.and_eq_false_iff, Bool.not_eq_true', Bool.not_eq_false', Lay.d_n]; omega) | (simp only [decide_eq_true_eq, decide_eq_false_iff_not, Bool.or_eq_false_iff, Bool.and_eq_true, Bool.or_eq_true, Bool.and_eq_false_iff, Bool.not_eq_true', Bool.not_eq_false']; omega) | (simp only [decide_eq_true_eq, decide_eq_false_iff_not, Bool.or_eq_false_iff]; simp only [Lay.d_n]; omega))
              exact again (i + 2, P ++ [(L.getD i.toNat tok0).text]) [(2, some 3)] (.of rfl rfl rfl rfl rfl rfl) ⟨by omega, by simp only [List.length_append, List.length_singleton]; omega, by omega, g4⟩ (by simp only; omega)
    · have h2 : ¬ i < L.length := of_decide_eq_false h2
      rw [List.drop_eq_nil_of_le (by omega)] at g4
      have e : refP (pF P i []) = ([], false, -1) := rfl
      rw [e] at g4
      rw [← g4]
      exact finO3n strY
end Go.Proofs.Ytdonomneofdhfaa
namespace Go.GV
open Go.RowKit
theorem fit1 {n bytes : Nat} (hb : (n + 1) * bytes ≤ 211106232532992) (hs : bytes ≤ 1000) : Builtin.nextslicecap (n + 1) n * bytes ≤ 281474976710656 := by
  have h1 : n * bytes + bytes ≤ 211106232532992 := by rw [Nat.add_mul, Nat.one_mul] at hb; exact hb
  have h2 : Builtin.nextslicecap (n + 1) n ≤ n + n / 4 + 600 := by
    unfold Builtin.nextslicecap
    split
    · omega
    · split
      · omega
      · rw [growBy_four]
        repeat' split
        all_goals omega
  have h3 : (n + n / 4 + 600) * bytes = n * bytes + n / 4 * bytes + 600 * bytes := by rw [Nat.add_mul, Nat.add_mul]
  have h4 : 4 * (n / 4 * bytes) ≤ n * bytes := by
    rw [← Nat.mul_assoc]
    exact Nat.mul_le_mul_right _ (by omega)
  have h5 := Nat.mul_le_mul_right bytes h2
  omega
theorem appendFit {P : Program} (w : World) (base : Nat) (t ty e : TypeId) (i : TypeInfo) (z : Value) (size : Nat) (ht : P.underlying t = some (.slice e)) (hi : P.info? e = some i) (hz : i.zero = some z)
    (hsize : i.size = size) (hzs : z.cells.size = size) (hsz : 0 < size) (v : Value) (n : Nat) (xs : List Value) (hown : w.ownsRow base e size v n xs) (a : Addr) (m c : Nat) (news : List Value) (hl : news.length = m * size)
    (hnews : ∀ j u, news[j]? = some u → w.cell? (a.add j) = some u) (h1 : ∀ u ∈ news, u.oneCell' = true) (h63 : n + m ≤ maxLen) (h48 : (n + m) * i.bytes ≤ 281474976710656)
    (hfit : ∀ old, n ≤ old → old < n + m → Builtin.nextslicecap (n + m) old * i.bytes ≤ 281474976710656) (hbase : base ≤ w.heap.size) :
    ∃ v' w', (Builtin.append_ #[t, t] ty #[v, .slice (some a) m c]).run P w = .ok v' w' ∧ w'.ownsRow base e size v' (n + m) (xs ++ news) ∧ w.grownBy w' v.ownBlock ∧ (v'.ownBlock = v.ownBlock ∨ v'.ownBlock = some w.heap.size) := by
  subst hsize
  have hs63 : n + m ≤ 9223372036854775807 := by simp only [maxLen] at h63; omega
  have hall : (xs ++ news).length = (n + m) * i.size := by rw [List.length_append, hown.1, hl, Nat.add_mul]
  have fresh : ∀ old, old < n + m → ∀ row : Option Nat, ∃ cells : Array Value, cells = xs.toArray ++ news.toArray ++ Builtin.zeroCells z.cells (grownCap w (n + m) old e - (n + m)) ∧
      (w.drew.alloc (.cells cells e)).ownsRow base e i.size (.slice (some ⟨w.heap.size, 0, none⟩) (n + m) (grownCap w (n + m) old e)) (n + m) (xs ++ news) ∧ w.grownBy (w.drew.alloc (.cells cells e)) row := by
    intro old _ row
    have c1 := grownCap_ge w (n + m) old e
    have c2 := grownCap_le_maxLen w (n + m) old e h63
    refine ⟨_, rfl, ⟨hall, .inr ⟨w.heap.size, _, _, rfl, hbase, heap_alloc_new w.drew _, c1, c2, ?_, ?_⟩⟩, rfl, rfl, rfl, by simp, fun k hk _ => heap_alloc_old w.drew _ k hk⟩
    · rw [Array.size_append, size_zeroCells, hzs, Array.size_append, List.size_toArray, List.size_toArray, ← List.length_append, hall, ← Nat.add_mul]
      congr 1; omega
    · rw [Array.toList_append, Array.toList_append, List.toList_toArray, List.toList_toArray, ← hall]
      exact List.take_left
  rcases hown.2 with ⟨rfl, rfl⟩ | ⟨g, cap, cur, rfl, hbg, hg, hnc, hcm, hcs, htake⟩
  · obtain rfl : xs = [] := List.eq_nil_of_length_eq_zero (by simpa using hown.1)
    rcases Nat.eq_zero_or_pos m with rfl | hm
    · obtain rfl : news = [] := List.eq_nil_of_length_eq_zero (by simpa using hl)
      refine ⟨.slice none 0 0, w, ?_, World.ownsRow_nil w base e i.size, ⟨rfl, rfl, rfl, Nat.le_refl _, fun _ _ _ => rfl⟩, .inl rfl⟩
      simp [Builtin.append_, run_underlying ht, sizeOf, typeInfo, hi, Builtin.lenOf, Builtin.firstCells, loadCells, loadCellsFrom]
    · simp only [Nat.zero_add, List.nil_append] at *
      have hr := run_append_nil (P := P) w t ty e i z ht hi hz a m c news hl hnews hm (by omega) h48
      obtain ⟨cells, e1, q1, q2⟩ := fresh 0 hm (Value.ownBlock (.slice none 0 0))
      have e2 : news.toArray ++ Builtin.zeroCells z.cells (grownCap w m 0 e - m) = cells := by rw [e1]; simp
      rw [e2] at hr
      exact ⟨_, _, hr, q1, q2, .inr rfl⟩
  · by_cases hroom : n + m ≤ cap
    · have hf : n * i.size + news.length ≤ cur.size := by rw [hl, hcs, ← Nat.add_mul]; exact Nat.mul_le_mul_right _ hroom
      have hr := run_append_room (P := P) w t ty e i ht hi g n cap cur hg a m c news hl hnews h1 hroom hf
      refine ⟨_, _, hr, ⟨hall, .inr ⟨g, cap, _, rfl, hbg, setRow_heap w g cur _ e _ hg, hroom, hcm, ?_, ?_⟩⟩, ⟨rfl, rfl, rfl, by simp, fun k _ hk => setRow_other w g k _ (fun e => hk (by simp [Value.ownBlock, e]))⟩, .inl rfl⟩
      · simp only [List.size_toArray, List.length_append, List.length_take, List.length_drop, Array.length_toList]
        omega
      · rw [htake, ← hall]
        exact List.take_left
    · have hr := run_append_grow (P := P) w t ty e i z ht hi hz ⟨g, 0, none⟩ n cap xs hown.1 (hown.cells (g := g) rfl) a m c news hl hnews (by omega) (by omega) (hfit cap hnc (by omega))
      obtain ⟨cells, e1, q1, q2⟩ := fresh cap (by omega) (Value.ownBlock (.slice (some ⟨g, 0, none⟩) n cap))
      rw [← e1] at hr
      exact ⟨_, _, hr, q1, q2, .inr rfl⟩
theorem xl_append1 {α : Type} {T : TT} {C : Cx} (hT : TOk C.P T) {all : List Oper} {o2 : Oper} {r : List Oper} {Q : Post} {kn : Kn} {gk : List (Nat × (Gd × SV))} {ow : Own} {nx : Nat} {u : Im}
    (Y : Lay α) (L : List α) (m : α) (by' : Nat) {t e d2 k : Nat} {sv xv : Operand} {ti te : TI} {z : SV}
    (h2 : o2.op = .call { callee := .builtin .append, args := #[sv, xv], argTypes := #[t, t] }) (g2 : o2.guard = none) (hd2 : o2.dst = some d2)
    (hti : look T t = some ti) (hsh : ti.shp = .slice e) (hte : look T e = some te) (hsz : te.sz = Y.fs.length) (hpos : Nat.blt 0 te.sz = true)
    (hby : (C.P.info? e).map (fun i => i.bytes) = some by')
    (hs : opd ⟨kn, gk, ow, nx⟩ [] sv = some (.r k)) (hk : look ow k = some (.row e (Y.d L)))
    (hz : opd ⟨kn, gk, ow, nx⟩ [] xv = some z) (hx : ∀ E w F, Sat E ow nx u [] w F → SlAt (im w) (z.den E) (Y.d [m])) (hone : ∀ x, ∀ y ∈ Y.el x, oneB y = true)
    (hf2 : fresh C.N ⟨kn, gk, ow, nx⟩ d2 [] = true)
    (hb : (L.length + 1) * by' ≤ 211106232532992) (hsm : by' ≤ 1000) (hn : L.length + 1 ≤ 9223372036854775807)
    (K : XL C all r Q ⟨(d2, .r nx) :: kn, gk, (nx, .row e (Y.d (L ++ [m]))) :: (k, .emp) :: ow, nx + 1⟩ u) :
    XL C all (o2 :: r) Q ⟨kn, gk, ow, nx⟩ u := by
  unfold XL at K ⊢
  intro E a w hok
  obtain ⟨f, hsat⟩ := hok.sat
  have hgs : gs a.tmps [] := fun x hx => by cases hx
  have htik := hT _ _ hti
  have htek := hT _ _ hte
  have hpos' : 0 < te.sz := blt_lt hpos
  obtain ⟨es, _⟩ := opd_sound hok.agr hgs hs
  have es' : a.eval sv = E k := es
  obtain ⟨ez, _⟩ := opd_sound hok.agr hgs hz
  obtain ⟨A, c, hzv, hA0, hAc⟩ := (hx E w f hsat.unmarked).flat
  rw [hzv] at ez
  obtain ⟨i, i1, i2, i3, i4⟩ := info_bytes htek hby
  have hrow := (hsat.holds k _ hk).1
  rw [Lay.cs_length, Lay.d_n, ← hsz] at hrow
  have key : ∃ v' w', (Builtin.append_ #[t, t] o2.type #[E k, .slice A (Y.d [m]).n c]).run C.P w = .ok v' w' ∧ w'.ownsRow 0 e te.sz v' (L.length + 1) (Y.d (L ++ [m])).flat ∧ w.grownBy w' (E k).ownBlock ∧
      (v'.ownBlock = (E k).ownBlock ∨ v'.ownBlock = some w.heap.size) := by
    cases A with
    | none => exact absurd (hA0 rfl) (by simp [Lay.d])
    | some ad =>
      have h1 := appendFit (P := C.P) w 0 t o2.type e i te.zv te.sz (htik.isSlice hsh) i1 i3 i2
        (by rw [TI.zv_cells htek]; simpa using htek.len) hpos' (E k) L.length (Y.d L).flat hrow ad 1 c (Y.d [m]).flat (by rw [Lay.flat_length, hsz]; rfl) (hAc ad rfl)
        (fun y hy => by
          rw [Lay.flat, List.mem_flatMap] at hy
          obtain ⟨x, _, hy⟩ := hy
          exact oneB_cell' (hone x y hy))
        (by simpa [maxLen] using hn) (by rw [i4]; omega) (fun old ho1 ho2 => by
          have : old = L.length := by omega
          subst this
          rw [i4]; exact fit1 hb hsm) (Nat.zero_le _)
      obtain ⟨v', w', hrun2, hown, hgr, hat⟩ := h1
      rw [← Lay.app] at hown
      exact ⟨v', w', hrun2, hown, hgr, hat⟩
  obtain ⟨v', w', hrun2, hown, hgr, hat⟩ := key
  have hrun2' : (execOp a.eval o2).run C.P w = .ok (.value v') w' := by
    simp only [execOp, h2, resolve, invoke, builtin, List.map_toArray, List.map_cons, List.map_nil, es', ez]
    simp [hrun2, Result.andThen]
  refine xl_wp g2 (fun c hc => by rw [h2] at hc; cases hc) hrun2' ?_
  rw [hd2]
  have hD : (Y.d (L ++ [m])).n = L.length + 1 := by simp [Lay.d]
  have hsat2 := hsat.app (D' := Y.d (L ++ [m])) hk (by rw [Lay.cs_length, hD, ← hsz]; exact hown) hgr (hat.imp id fun hh => ⟨_, hh, Nat.le_refl _⟩)
  have hE : ∀ j, j < nx → upd E nx v' j = E j := fun j hj => upd_other _ _ (by omega)
  have hg := hok.agr.grow (E' := upd E nx v') (ow := (nx, .row e (Y.d (L ++ [m]))) :: (k, .emp) :: ow) (nx := nx + 1) hE (Nat.le_succ _)
  have hput2 : Agr C.N (upd E nx v') (St.put ⟨kn, gk, (nx, .row e (Y.d (L ++ [m]))) :: (k, .emp) :: ow, nx + 1⟩ d2 [] (.r nx)) (a.tmps.setIfInBounds d2 v') := by
    refine hg.put (g := []) hf2 (fun _ => ⟨Nat.lt_succ_self _, ?_⟩) (fun _ => ?_) (fun hn => absurd (fun x hx => (by cases hx)) hn) (fun _ => ?_)
    · obtain ⟨A, c, hv⟩ := ownsRow_sl hown
      exact ⟨A, _, c, by rw [upd_same]; exact hv⟩
    · simp only [SV.den, upd_same]
    · simp only [SV.den, upd_same]
  have := K (upd E nx v') (a.put (some d2) v') w' ⟨⟨hput2.size, hput2.kn, hput2.gk, hput2.klt, hput2.glt⟩, _, hsat2⟩
  exact wpListIn_monoQ (fun e a w => SemQ.mono hE (Nat.le_succ _) (Im.le.refl u)) _ _ _ this
end Go.GV
namespace Go.Proofs.Ytdonomneofdhfaa
open Go.GV Go.RowKit
def sHH : ByteArray := ⟨#[35, 35]⟩
def sPP : ByteArray := ⟨#[37, 58, 37, 58]⟩
def sH : ByteArray := ⟨#[35]⟩
def sP : ByteArray := ⟨#[37, 58]⟩
def mF (fn va : Bool) (P : List ByteArray) : Bool → List Tok → Bool
  | _, [] => true
  | first, t :: r => if ((isT t [sHH] || isT t [sPP]) && (first || r.isEmpty)) = true then false
    else if (decide (t.kind = 1) && decide (t.text = sRest) && !va) = true then false
    else if (!fn || (!isT t [sH] && !isT t [sP])) = true then mF fn va P false r
    else match r with
      | [] => false
      | t2 :: _ => if (decide (t2.kind ≠ 1) || (!memB t2.text P && decide (t2.text ≠ sRest))) = true then false else mF fn va P false r
theorem isT_two (t : Tok) (a b : ByteArray) : isT t [a, b] = (isT t [a] || isT t [b]) := by
  unfold isT memB
  simp only [List.any_cons, List.any_nil, Bool.or_false]
  cases decide (t.kind = 5) <;> simp
theorem mF_false (fn va : Bool) (P : List ByteArray) : ∀ L : List Tok, mF fn va P false L = ((L.isEmpty || !isT (L.getLastD tok0) hashes) && vF fn va P L)
  | [] => rfl
  | t :: r => by
    have ih := mF_false fn va P r
    have e1 : isT t hashes = (isT t [sHH] || isT t [sPP]) := isT_two t _ _
    have e2 : isT t hash1 = (isT t [sH] || isT t [sP]) := isT_two t _ _
    have hn : (!fn || (!isT t [sH] && !isT t [sP])) = (!fn || !isT t hash1) := by rw [e2, Bool.not_or]
    simp only [mF, vF, Bool.false_or]
    rw [hn, ← e1]
    by_cases h1 : (isT t hashes && r.isEmpty) = true
    · rw [if_pos h1]
      rw [Bool.and_eq_true, List.isEmpty_iff] at h1
      obtain ⟨k1, rfl⟩ := h1
      simp [k1]
    · rw [if_neg h1]
      by_cases h2 : (decide (t.kind = 1) && decide (t.text = sRest) && !va) = true
      · rw [if_pos h2, if_pos h2, Bool.and_false]
      · rw [if_neg h2, if_neg h2]
        have hlast : ((t :: r).isEmpty || !isT ((t :: r).getLastD tok0) hashes) = (r.isEmpty || !isT (r.getLastD tok0) hashes) := by
          cases r with
          | nil =>
            simp only [List.isEmpty_nil, Bool.and_true, Bool.not_eq_true] at h1
            simp [h1]
          | cons x r => simp
        rw [hlast]
        by_cases h3 : (!fn || !isT t hash1) = true
        · rw [if_pos h3, if_pos h3]; exact ih
        · rw [if_neg h3, if_neg h3]
          cases r with
          | nil => simp
          | cons t2 r =>
            simp only
            have e3 : (decide (t2.kind ≠ 1) || (!memB t2.text P && decide (t2.text ≠ sRest))) = (decide (t2.kind ≠ 1) || !(decide (t2.text = sRest) || memB t2.text P)) := by
              by_cases h4 : t2.text = sRest
              · simp [h4]
              · simp [h4]
            rw [e3]
            by_cases h4 : (decide (t2.kind ≠ 1) || !(decide (t2.text = sRest) || memB t2.text P)) = true
            · rw [if_pos h4, if_pos h4, Bool.and_false]
            · rw [if_neg h4, if_neg h4]; exact ih
theorem mF_true (fn va : Bool) (P : List ByteArray) (L : List Tok) : mF fn va P true L = validB fn va P L := by
  cases L with
  | nil => rfl
  | cons t r =>
    have e1 : isT t hashes = (isT t [sHH] || isT t [sPP]) := isT_two t _ _
    have hf := mF_false fn va P (t :: r)
    show _ = if (isT t hashes || isT ((t :: r).getLastD tok0) hashes) = true then false else vF fn va P (t :: r)
    by_cases h1 : isT t hashes = true
    · rw [if_pos (by rw [h1]; rfl)]
      simp only [mF, Bool.true_or, Bool.and_true]
      rw [if_pos (by rw [← e1]; exact h1)]
    · have h1' : isT t hashes = false := by simpa using h1
      have e : mF fn va P true (t :: r) = mF fn va P false (t :: r) := by
        simp only [mF]
        rw [← e1, h1']
        simp only [Bool.false_and]
      rw [e, hf, h1']
      simp only [List.isEmpty_cons, Bool.false_or]
      cases isT ((t :: r).getLastD tok0) hashes <;> simp
set_option maxHeartbeats 1000000 in
set_option maxRecDepth 100000 in
theorem may_any (nm : ByteArray) (fn va : Bool) (P : List ByteArray) (pa ba : Option Addr) (pc bn bc : Nat) (L : List Tok) (x : Value) (w : World) (hx : SlAt (im w) x (tokY.d L)) (hp : SlAt (im w) (.slice pa P.length pc) (strY.d P))
    (hL : L.length * 48 ≤ 140737488355328) (hP : P.length * 16 ≤ 140737488355328) :
    Calls Try.prog 95 #[.agg #[.string nm, .bool fn, .slice pa P.length pc, .bool va, .slice ba bn bc], x] w (PureP w fun v _ => v = .bool (validB fn va P L)) := by
  rw [← mF_true]
  refine x_fun tt_ok Try.func95 rfl rfl [(x, tokY.d L)] 1 [.v (.agg #[.string nm, .bool fn, .slice pa P.length pc, .bool va, .slice ba bn bc]), .r 0] rfl rfl rfl rfl (fun b hb => by simp at hb; subst hb; exact hx) ?_
  refine x_vc tt_ok ?_
  refine x_loop (σ := Int) (fun i => ⟨[(5, .v (.int .i64 i)), (2, .p 1 0), (1, .r 0)], [], [(0, .sl (tokY.d L)), (1, .box 36 [.v (.string nm), .v (.bool fn), .v (.slice pa P.length pc), .v (.bool va), .v (.slice ba bn bc)])], 2⟩)
    (fun i _ => 0 ≤ i ∧ i ≤ L.length ∧ mF fn va P (decide (i = 0)) (L.drop i.toNat) = mF fn va P true L) (fun i => (L.length - i).toNat) (fun _ => Nat.le_refl _) 0 [] (.of rfl rfl rfl rfl rfl rfl) ⟨by omega, by omega, rfl⟩ ?_
  rintro i u hu ⟨g1, g2, g3⟩
  refine x_vc tt_ok ?_
  refine x_if (fun h => ?_) (fun h => ?_)
  · have h : i < L.length := of_decide_eq_true h
    have ei : (i + 1).toNat = i.toNat + 1 := by omega
    have hi1 : decide (i + 1 = 0) = false := decide_eq_false (by omega)
    have hem : (L.drop (i + 1).toNat).isEmpty = decide (i + 1 = (L.length : Int)) := by
      by_cases h2 : i + 1 = (L.length : Int)
      · rw [decide_eq_true h2, List.drop_eq_nil_of_le (by omega)]; rfl
      · rw [decide_eq_false h2, drop_at (d := tok0) (by omega) (by omega)]; rfl
    rw [drop_at (d := tok0) g1 h] at g3
    obtain ⟨t, ht⟩ : ∃ t, t = L.getD i.toNat tok0 := ⟨_, rfl⟩
    rw [← ht] at g3
    simp only [mF, hem] at g3
    rw [ht, ← atB_isT sHH h, ← atB_isT sPP h, ← atB_isT sH h, ← atB_isT sP h] at g3
    refine xl_call0 (.bool (atB L i sHH)) rfl rfl rfl rfl fn93 rfl rfl (fun E w F hs => at_any L i sHH _ w (hs.slAt (k := 0) rfl) g1) ?_
    refine xl_go tt_ok ?_
    refine xl_gcall0 (.bool (atB L i sPP)) rfl rfl rfl rfl fn93 rfl rfl (fun _ E w F hs => at_any L i sPP _ w (hs.slAt (k := 0) rfl) g1) ?_
    refine xl_go tt_ok ?_
    repeat (refine And.intro ?_ ?_; first | omega | (simp only [Lay.d_n]; omega) | (simp only [decide_eq_true_eq, decide_eq_false_iff_not, Bool.or_eq_false_iff, Bool.and_eq_true, Bool.or_eq_true, Bool.and_eq_false_iff, Bool.not_eq_true', Bool.not_eq_false', Lay.d_n]; omega) | (simp only [decide_eq_true_eq, decide_eq_false_iff_not, Bool.or_eq_false_iff, Bool.and_eq_true, Bool.or_eq_true, Bool.and_eq_false_iff, Bool.not_eq_true', Bool.not_eq_false']; omega) | (simp only [decide_eq_true_eq, decide_eq_false_iff_not, Bool.or_eq_false_iff]; simp only [Lay.d_n]; omega))
    refine x_if (fun h2 => ?_) (fun h2 => ?_)
    · have h2 : ((atB L i sHH || atB L i sPP) && (decide (i = 0) || decide (i + 1 = (L.length : Int)))) = true := h2
      rw [if_pos h2] at g3
      refine fin1 (fun _ _ => ?_)
      rw [← g3]; rfl
    · have h2 : ((atB L i sHH || atB L i sPP) && (decide (i = 0) || decide (i + 1 = (L.length : Int)))) = false := h2
      rw [if_neg (by rw [h2]; simp)] at g3
      repeat (refine And.intro ?_ ?_; first | omega | (simp only [Lay.d_n]; omega) | (simp only [decide_eq_true_eq, decide_eq_false_iff_not, Bool.or_eq_false_iff, Bool.and_eq_true, Bool.or_eq_true, Bool.and_eq_false_iff, Bool.not_eq_true', Bool.not_eq_false', Lay.d_n]; omega) | (simp only [decide_eq_true_eq, decide_eq_false_iff_not, Bool.or_eq_false_iff, Bool.and_eq_true, Bool.or_eq_true, Bool.and_eq_false_iff, Bool.not_eq_true', Bool.not_eq_false']; omega) | (simp only [decide_eq_true_eq, decide_eq_false_iff_not, Bool.or_eq_false_iff]; simp only [Lay.d_n]; omega))
      refine x_if (fun h3 => ?_) (fun h3 => ?_)
      · have h3 : (decide ((L.getD i.toNat tok0).kind = 1) && decide ((L.getD i.toNat tok0).text = sRest) && !va) = true := h3
        rw [if_pos h3] at g3
        refine fin1 (fun _ _ => ?_)
        rw [← g3]; rfl
      · have h3 : (decide ((L.getD i.toNat tok0).kind = 1) && decide ((L.getD i.toNat tok0).text = sRest) && !va) = false := h3
        rw [if_neg (by rw [h3]; simp)] at g3
        refine xl_gcall0 (.bool (atB L i sH)) rfl rfl rfl rfl fn93 rfl rfl (fun _ E w F hs => at_any L i sH _ w (hs.slAt (k := 0) rfl) g1) ?_
        refine xl_go tt_ok ?_
        refine xl_gcall0 (.bool (atB L i sP)) rfl rfl rfl rfl fn93 rfl rfl (fun _ E w F hs => at_any L i sP _ w (hs.slAt (k := 0) rfl) g1) ?_
        refine xl_go tt_ok ?_
        refine x_if (fun h4 => ?_) (fun h4 => ?_)
        · have h4 : (!fn || (!atB L i sH && !atB L i sP)) = true := h4
          rw [if_pos h4] at g3
          repeat (refine And.intro ?_ ?_; first | omega | (simp only [Lay.d_n]; omega) | (simp only [decide_eq_true_eq, decide_eq_false_iff_not, Bool.or_eq_false_iff, Bool.and_eq_true, Bool.or_eq_true, Bool.and_eq_false_iff, Bool.not_eq_true', Bool.not_eq_false', Lay.d_n]; omega) | (simp only [decide_eq_true_eq, decide_eq_false_iff_not, Bool.or_eq_false_iff, Bool.and_eq_true, Bool.or_eq_true, Bool.and_eq_false_iff, Bool.not_eq_true', Bool.not_eq_false']; omega) | (simp only [decide_eq_true_eq, decide_eq_false_iff_not, Bool.or_eq_false_iff]; simp only [Lay.d_n]; omega))
          exact again (i + 1) [] (.of rfl rfl rfl rfl rfl rfl) ⟨by omega, by omega, by rw [hi1]; exact g3⟩ (by omega)
        · have h4 : (!fn || (!atB L i sH && !atB L i sP)) = false := h4
          rw [if_neg (by rw [h4]; simp)] at g3
          refine x_draw mix (by kernel_rfl) (xd_go tt_ok ?_)
          repeat (refine And.intro ?_ ?_; first | omega | (simp only [Lay.d_n]; omega) | (simp only [decide_eq_true_eq, decide_eq_false_iff_not, Bool.or_eq_false_iff, Bool.and_eq_true, Bool.or_eq_true, Bool.and_eq_false_iff, Bool.not_eq_true', Bool.not_eq_false', Lay.d_n]; omega) | (simp only [decide_eq_true_eq, decide_eq_false_iff_not, Bool.or_eq_false_iff, Bool.and_eq_true, Bool.or_eq_true, Bool.and_eq_false_iff, Bool.not_eq_true', Bool.not_eq_false']; omega) | (simp only [decide_eq_true_eq, decide_eq_false_iff_not, Bool.or_eq_false_iff]; simp only [Lay.d_n]; omega))
          refine xd_call0 (.bool (memB (L.getD (i + 1).toNat tok0).text P)) rfl rfl rfl rfl fn92 rfl rfl (fun _ E w F hs => among_any P _ _ w ((hp.le hu).imm hs.imm) (by omega)) ?_
          refine xd_go tt_ok ?_
          repeat (refine And.intro ?_ ?_; first | omega | (simp only [Lay.d_n]; omega) | (simp only [decide_eq_true_eq, decide_eq_false_iff_not, Bool.or_eq_false_iff, Bool.and_eq_true, Bool.or_eq_true, Bool.and_eq_false_iff, Bool.not_eq_true', Bool.not_eq_false', Lay.d_n]; omega) | (simp only [decide_eq_true_eq, decide_eq_false_iff_not, Bool.or_eq_false_iff, Bool.and_eq_true, Bool.or_eq_true, Bool.and_eq_false_iff, Bool.not_eq_true', Bool.not_eq_false']; omega) | (simp only [decide_eq_true_eq, decide_eq_false_iff_not, Bool.or_eq_false_iff]; simp only [Lay.d_n]; omega))
          have hnx : ∀ r : Bool, (match List.drop (i + 1).toNat L with
              | [] => false
              | t2 :: _ => if (decide (t2.kind ≠ 1) || (!memB t2.text P && decide (t2.text ≠ sRest))) = true then false else mF fn va P false (L.drop (i + 1).toNat)) = r →
              if ((decide (i + 1 = (L.length : Int)) || decide ((L.getD (i + 1).toNat tok0).kind ≠ 1)) || (!memB (L.getD (i + 1).toNat tok0).text P && decide ((L.getD (i + 1).toNat tok0).text ≠ sRest))) = true then r = false else r = mF fn va P false (L.drop (i + 1).toNat) := by
            intro r hr
            rw [← hr]
            by_cases he : i + 1 = (L.length : Int)
            · rw [decide_eq_true he, List.drop_eq_nil_of_le (by omega)]; simp
            · rw [decide_eq_false he, Bool.false_or]
              rw [drop_at (L := L) (d := tok0) (i := i + 1) (by omega) (by omega)]
              simp only
              by_cases hc : (decide ((L.getD (i + 1).toNat tok0).kind ≠ 1) || (!memB (L.getD (i + 1).toNat tok0).text P && decide ((L.getD (i + 1).toNat tok0).text ≠ sRest))) = true
              · rw [if_pos hc, if_pos hc]
              · rw [if_neg hc, if_neg hc]
          have k4 := hnx _ g3
          refine x_if (fun h8 => ?_) (fun h8 => ?_)
          · have h8 : ((decide (i + 1 = (L.length : Int)) || decide ((L.getD (i + 1).toNat tok0).kind ≠ 1)) || (!memB (L.getD (i + 1).toNat tok0).text P && decide ((L.getD (i + 1).toNat tok0).text ≠ sRest))) = true := h8
            rw [if_pos h8] at k4
            refine fin1 (fun _ _ => ?_)
            rw [k4]; rfl
          · have h8 : ((decide (i + 1 = (L.length : Int)) || decide ((L.getD (i + 1).toNat tok0).kind ≠ 1)) || (!memB (L.getD (i + 1).toNat tok0).text P && decide ((L.getD (i + 1).toNat tok0).text ≠ sRest))) = false := h8
            rw [if_neg (by rw [h8]; simp)] at k4
            repeat (refine And.intro ?_ ?_; first | omega | (simp only [Lay.d_n]; omega) | (simp only [decide_eq_true_eq, decide_eq_false_iff_not, Bool.or_eq_false_iff, Bool.and_eq_true, Bool.or_eq_true, Bool.and_eq_false_iff, Bool.not_eq_true', Bool.not_eq_false', Lay.d_n]; omega) | (simp only [decide_eq_true_eq, decide_eq_false_iff_not, Bool.or_eq_false_iff, Bool.and_eq_true, Bool.or_eq_true, Bool.and_eq_false_iff, Bool.not_eq_true', Bool.not_eq_false']; omega) | (simp only [decide_eq_true_eq, decide_eq_false_iff_not, Bool.or_eq_false_iff]; simp only [Lay.d_n]; omega))
            exact again (i + 1) [] (.of rfl rfl rfl rfl rfl rfl) ⟨by omega, by omega, by rw [hi1]; exact k4.symm⟩ (by omega)
  · have h : ¬ i < L.length := of_decide_eq_false h
    rw [List.drop_eq_nil_of_le (by omega)] at g3
    refine fin1 (fun _ _ => ?_)
    rw [← g3]; rfl
set_option maxRecDepth 100000 in
theorem refOf_any (L : List Tok) (x : Value) (w : World) (hx : SlAt (im w) x (tokY.d L)) (hL : L.length * 48 ≤ 140737488355328) :
    Calls Try.prog 35 #[x] w (PureP w fun v u => OwnAt u v 46 (pvY.d (L.map ofT))) := by
  refine x_fun tt_ok Try.func35 rfl rfl [(x, tokY.d L)] 1 [.r 0] rfl rfl rfl rfl (fun b hb => by simp at hb; subst hb; exact hx) ?_
  refine x_vc tt_ok ?_
  refine x_nil 3 46 pvY rfl ?_
  refine x_loop (σ := Int × List PV) (fun (i, M) => ⟨[(4, .v (.int .i64 i)), (3, .r 2), (0, .r 0)], [], [(0, .sl (tokY.d L)), (2, .row 46 (pvY.d M))], 3⟩)
    (fun (i, M) _ => 0 ≤ i ∧ i ≤ L.length ∧ M = (L.take i.toNat).map ofT) (fun (i, _) => (L.length - i).toNat) (fun (_, _) => by simp only; omega) (0, []) [(2, some 1)] (.of rfl rfl rfl rfl rfl rfl)
    ⟨by omega, by omega, rfl⟩ ?_
  rintro ⟨i, M⟩ u hu ⟨g1, g2, g3⟩
  refine x_vc tt_ok ?_
  refine x_if (fun h => ?_) (fun h => ?_)
  · have h : i < L.length := of_decide_eq_true h
    have hM : M.length = i.toNat := by rw [g3, List.length_map, List.length_take]; omega
    refine x_drawA mix ?_
    refine xa_pures tt_ok (fuel := 13) [0, 1, 2, 6, 7, 11, 12] rfl (by kernel_rfl) (by kernel_rfl) (fun _ _ _ hh => hh) (by kernel_rfl) (by kernel_rfl) ?_
    refine xa_phase tt_ok (fuel := 3) [3, 4, 5, 8, 9, 10, 13, 14, 15, 16] rfl (by kernel_rfl) (by kernel_rfl) (by kernel_rfl) (phaseB_of 16 (by kernel_rfl)) ?_
    refine xd_go tt_ok ?_
    repeat (refine And.intro ?_ ?_; first | omega | (simp only [Lay.d_n]; omega) | (simp only [decide_eq_true_eq, decide_eq_false_iff_not, Bool.or_eq_false_iff, Bool.and_eq_true, Bool.or_eq_true, Bool.and_eq_false_iff, Bool.not_eq_true', Bool.not_eq_false', Lay.d_n]; omega) | (simp only [decide_eq_true_eq, decide_eq_false_iff_not, Bool.or_eq_false_iff, Bool.and_eq_true, Bool.or_eq_true, Bool.and_eq_false_iff, Bool.not_eq_true', Bool.not_eq_false']; omega) | (simp only [decide_eq_true_eq, decide_eq_false_iff_not, Bool.or_eq_false_iff]; simp only [Lay.d_n]; omega))
    refine xa_one 17 (by kernel_rfl) rfl ?_
    refine xl_build tt_ok pvY [ofT (L.getD i.toNat tok0)] [_] rfl rfl rfl rfl rfl rfl rfl rfl rfl rfl rfl rfl rfl rfl rfl ?_
    refine xl_end ?_
    refine xa_one 18 (by kernel_rfl) rfl ?_
    refine xl_append1 tt_ok pvY M (ofT (L.getD i.toNat tok0)) 56 rfl rfl rfl rfl rfl rfl rfl rfl (by kernel_rfl) rfl rfl rfl (fun E w F hs => hs.rowAt (k := 3) rfl) (by intro x y hy; simp [Lay.el, pvY] at hy; rcases hy with rfl | rfl | rfl | rfl <;> rfl) rfl (by omega) (by decide) (by omega) ?_
    refine xl_end ?_
    refine xa_one 19 (by kernel_rfl) rfl (xl_go tt_ok ?_)
    refine xa_done (by kernel_rfl) rfl ?_
    repeat (refine And.intro ?_ ?_; first | omega | (simp only [Lay.d_n]; omega) | (simp only [decide_eq_true_eq, decide_eq_false_iff_not, Bool.or_eq_false_iff, Bool.and_eq_true, Bool.or_eq_true, Bool.and_eq_false_iff, Bool.not_eq_true', Bool.not_eq_false', Lay.d_n]; omega) | (simp only [decide_eq_true_eq, decide_eq_false_iff_not, Bool.or_eq_false_iff, Bool.and_eq_true, Bool.or_eq_true, Bool.and_eq_false_iff, Bool.not_eq_true', Bool.not_eq_false']; omega) | (simp only [decide_eq_true_eq, decide_eq_false_iff_not, Bool.or_eq_false_iff]; simp only [Lay.d_n]; omega))
    refine again (i + 1, M ++ [ofT (L.getD i.toNat tok0)]) [(2, some 4)] (.of rfl rfl rfl rfl rfl rfl) ⟨by omega, by omega, ?_⟩ (by simp only; omega)
    rw [show (i + 1).toNat = i.toNat + 1 by omega, take_get (List.getElem?_eq_getElem (by omega)), List.map_append, g3, List.getD_eq_getElem?_getD, List.getElem?_eq_getElem (by omega)]
    rfl
  · have h : ¬ i < L.length := of_decide_eq_false h
    rw [List.take_of_length_le (by omega)] at g3
    rw [← g3]
    exact finO (k := 2) rfl
end Go.Proofs.Ytdonomneofdhfaa
namespace Go.Proofs.Ytdonomneofdhfaa
open Go.GV Go.RowKit
def resS : List ByteArray := [⟨#[100, 101, 102, 105, 110, 101, 100]⟩, ⟨#[95, 95, 86, 65, 95, 65, 82, 71, 83, 95, 95]⟩, ⟨#[95, 95, 76, 73, 78, 69, 95, 95]⟩, ⟨#[95, 80, 114, 97, 103, 109, 97]⟩]
theorem resS_eq (s : ByteArray) : memB s resS = resB s := by
  unfold memB resS resB
  simp only [List.any_cons, List.any_nil, Bool.or_false, Bool.or_assoc]
def sLp : ByteArray := ⟨#[40]⟩
theorem pF_shift (k : Int) : ∀ (n : Nat) (l : List Tok) (P : List ByteArray) (i : Int), l.length ≤ n → (pF P (i + k) l).ps = (pF P i l).ps ∧ (pF P (i + k) l).va = (pF P i l).va ∧ (pF P (i + k) l).ok = (pF P i l).ok ∧ ((pF P i l).ok = true → (pF P (i + k) l).n = (pF P i l).n + k)
  | _, [], P, i, _ => ⟨rfl, rfl, rfl, fun h => by cases h⟩
  | _, [t], P, i, _ => ⟨rfl, rfl, rfl, fun h => by cases h⟩
  | 0, t :: x :: r, P, i, h => by simp at h
  | n + 1, t :: x :: r, P, i, h => by
    simp only [List.length_cons] at h
    have ih := pF_shift k n r (P ++ [t.text]) (i + 2) (by omega)
    rw [show i + 2 + k = i + k + 2 by omega] at ih
    unfold pF
    split
    · exact ⟨rfl, rfl, rfl, fun _ => by show i + k + 2 = i + 2 + k; omega⟩
    · split
      · exact ⟨rfl, rfl, rfl, fun h => by cases h⟩
      · split
        · exact ⟨rfl, rfl, rfl, fun _ => by show i + k + 2 = i + 2 + k; omega⟩
        · split
          · exact ih
          · exact ⟨rfl, rfl, rfl, fun h => by cases h⟩
theorem refP_params (L : List Tok) (hL : 2 ≤ L.length) : refP (if atB L 2 sRp = true then ⟨[], false, 2 + 1, true⟩ else pF [] 2 (L.drop (2 : Int).toNat)) =
    if (paramsR (L.drop 1)).ok = true then ((paramsR (L.drop 1)).ps, (paramsR (L.drop 1)).va, (paramsR (L.drop 1)).n + 1) else ([], false, -1) := by
  have hd : (L.drop 1).drop 1 = L.drop 2 := by rw [List.drop_drop]
  unfold paramsR
  rw [hd, show ((2 : Int)).toNat = 2 from rfl]
  by_cases h : 1 < (L.drop 1).length
  · have h3 : (2 : Int) < L.length := by rw [List.length_drop] at h; omega
    have hg : (L.drop 1).getD 1 tok0 = L.getD 2 tok0 := by simp [List.getD_eq_getElem?_getD, List.getElem?_drop]
    rw [atB_isT sRp h3, decide_eq_true h, Bool.true_and, hg]
    show refP (if isT (L.getD 2 tok0) rpS = true then _ else _) = _
    by_cases h4 : isT (L.getD 2 tok0) rpS = true
    · simp only [if_pos h4]; rfl
    · simp only [if_neg h4]
      obtain ⟨k1, k2, k3, k4⟩ := pF_shift 1 (L.drop 2).length (L.drop 2) [] 1 (Nat.le_refl _)
      rw [show (2 : Int) = 1 + 1 from rfl]
      unfold refP
      rw [k3]
      by_cases h5 : (pF [] 1 (L.drop 2)).ok = true
      · rw [if_pos h5, if_pos h5, k1, k2, k4 h5]
      · rw [if_neg h5, if_neg h5]
  · have h3 : ¬ (2 : Int) < L.length := by rw [List.length_drop] at h; omega
    have h4 : L.drop 2 = [] := List.drop_eq_nil_of_le (by omega)
    rw [atB_end sRp h3, decide_eq_false h, Bool.false_and, h4]
    rfl
def defC (L : List Tok) : Bool := (decide ((L.length : Int) = 0) || decide ((L.getD 0 tok0).kind ≠ 1)) || resB (L.getD 0 tok0).text
theorem defR_no {L : List Tok} (h : defC L = true) : defR L = (m0, 50) := by
  unfold defR
  exact if_pos h
theorem defR_yes {L : List Tok} (h : defC L = false) : (0 : Int) < L.length ∧ defR L = if (decide ((1 : Int) < L.length) && !(L.getD 1 tok0).space) = true then
      if atB L 1 sLp = true then
        if (paramsR (L.drop 1)).ok = true then defB (L.getD 0 tok0).text true (paramsR (L.drop 1)).ps (paramsR (L.drop 1)).va ((L.drop 1).drop (paramsR (L.drop 1)).n.toNat) else (m0, 50)
      else (m0, 50)
    else defB (L.getD 0 tok0).text false [] false (L.drop 1) := by
  have hpos : (0 : Int) < L.length := by
    unfold defC at h
    simp only [Bool.or_eq_false_iff, decide_eq_false_iff_not] at h
    omega
  refine ⟨hpos, ?_⟩
  unfold defR
  rw [if_neg (by unfold defC at h; rw [h]; simp)]
  have g1 : (L.drop 1).getD 0 tok0 = L.getD 1 tok0 := by simp [List.getD_eq_getElem?_getD, List.getElem?_drop]
  have g2 : decide ((0 : Int) < (L.drop 1).length) = decide ((1 : Int) < L.length) := by
    rw [List.length_drop]
    by_cases h : (1 : Int) < L.length
    · rw [decide_eq_true h, decide_eq_true (by omega)]
    · rw [decide_eq_false h, decide_eq_false (by omega)]
  rw [g1, g2]
  by_cases h3 : (decide ((1 : Int) < L.length) && !(L.getD 1 tok0).space) = true
  · rw [if_pos h3, if_pos h3]
    rw [Bool.and_eq_true, decide_eq_true_eq] at h3
    rw [atB_isT sLp h3.1]
    rfl
  · rw [if_neg h3, if_neg h3]
set_option maxHeartbeats 4000000 in
set_option maxRecDepth 100000 in
theorem refDefine_any (L : List Tok) (A : Option Addr) (c : Nat) (w : World) (hx : SlAt (im w) (.slice A L.length c) (tokY.d L)) (hL : L.length * 48 ≤ 140737488355328) :
    Calls Try.prog 30 #[.slice A L.length c] w (PureP w (DefR (defR L))) := by
  refine x_fun tt_ok Try.func30 rfl rfl [] 0 [.v (.slice A L.length c)] rfl rfl rfl rfl (fun b hb => by cases hb) ?_
  refine x_seq (x_vc tt_ok ?_)
  refine x_seq (x_vc tt_ok ?_)
  refine xl_slG 13 rfl hx ?_
  refine xl_go tt_ok ?_
  repeat (refine And.intro ?_ ?_; first | omega | (simp only [Lay.d_n]; omega) | (simp only [decide_eq_true_eq, decide_eq_false_iff_not, Bool.or_eq_false_iff, Bool.and_eq_true, Bool.or_eq_true, Bool.and_eq_false_iff, Bool.not_eq_true', Bool.not_eq_false', Lay.d_n]; omega) | (simp only [decide_eq_true_eq, decide_eq_false_iff_not, Bool.or_eq_false_iff, Bool.and_eq_true, Bool.or_eq_true, Bool.and_eq_false_iff, Bool.not_eq_true', Bool.not_eq_false']; omega) | (simp only [decide_eq_true_eq, decide_eq_false_iff_not, Bool.or_eq_false_iff]; simp only [Lay.d_n]; omega))
  refine xl_gsplit 19 (.bool false) rfl rfl rfl rfl rfl (fun hb => ?_) (fun hb => ?_)
  · refine xl_build tt_ok strY resS [_, _, _, _] rfl rfl rfl rfl rfl rfl rfl rfl rfl rfl rfl rfl rfl rfl rfl ?_
    refine xl_go tt_ok ?_
    refine xl_slG 21 rfl hx ?_
    refine xl_go tt_ok ?_
    repeat (refine And.intro ?_ ?_; first | omega | (simp only [Lay.d_n]; omega) | (simp only [decide_eq_true_eq, decide_eq_false_iff_not, Bool.or_eq_false_iff, Bool.and_eq_true, Bool.or_eq_true, Bool.and_eq_false_iff, Bool.not_eq_true', Bool.not_eq_false', Lay.d_n]; omega) | (simp only [decide_eq_true_eq, decide_eq_false_iff_not, Bool.or_eq_false_iff, Bool.and_eq_true, Bool.or_eq_true, Bool.and_eq_false_iff, Bool.not_eq_true', Bool.not_eq_false']; omega) | (simp only [decide_eq_true_eq, decide_eq_false_iff_not, Bool.or_eq_false_iff]; simp only [Lay.d_n]; omega))
    refine xl_gcall0 (.bool (resB (L.getD 0 tok0).text)) rfl rfl rfl rfl fn92 rfl rfl (fun _ E w F hs => by
      rw [← resS_eq]
      exact among_any resS _ _ w (hs.rowAt (k := 2) rfl) (by decide)) ?_
    refine xl_go tt_ok ?_
    refine x_if (fun h => ?_) (fun h => ?_)
    · have h : defC L = true := h
      rw [defR_no h]
      exact finP (fun E w' F hs hu => defNo _)
    · have h : defC L = false := h
      obtain ⟨hpos, e⟩ := defR_yes h
      rw [e]
      clear h e
      have rp := refP_params L
      have pl := paramsR_le (L.drop 1)
      refine x_seq (x_vc tt_ok ?_)
      refine xl_sl 28 rfl hx ?_
      refine xl_go tt_ok ?_
      repeat (refine And.intro ?_ ?_; first | omega | (simp only [Lay.d_n]; omega) | (simp only [decide_eq_true_eq, decide_eq_false_iff_not, Bool.or_eq_false_iff, Bool.and_eq_true, Bool.or_eq_true, Bool.and_eq_false_iff, Bool.not_eq_true', Bool.not_eq_false', Lay.d_n]; omega) | (simp only [decide_eq_true_eq, decide_eq_false_iff_not, Bool.or_eq_false_iff, Bool.and_eq_true, Bool.or_eq_true, Bool.and_eq_false_iff, Bool.not_eq_true', Bool.not_eq_false']; omega) | (simp only [decide_eq_true_eq, decide_eq_false_iff_not, Bool.or_eq_false_iff]; simp only [Lay.d_n]; omega))
      refine x_seq (x_vc tt_ok ?_)
      refine x_nilCell 5 9 strY [.v (.string (L.getD 0 tok0).text), .v (.bool false)] [.v (.bool false), .v (.slice none 0 0)] rfl ?_
      generalize hres : (if (decide ((1 : Int) < L.length) && !(L.getD 1 tok0).space) = true then
          if atB L 1 sLp = true then
            if (paramsR (L.drop 1)).ok = true then defB (L.getD 0 tok0).text true (paramsR (L.drop 1)).ps (paramsR (L.drop 1)).va ((L.drop 1).drop (paramsR (L.drop 1)).n.toNat) else (m0, 50)
          else (m0, 50)
        else defB (L.getD 0 tok0).text false [] false (L.drop 1)) = res
      refine x_cut (σ := Bool × Bool × List ByteArray × Int) (fun (fn, va, ps, k) => ⟨[(5, .v (.int .i64 k)), (4, .p 5 0), (2, .p 0 0), (0, .v (.slice A L.length c))], [],
          [(0, .box 36 [.v (.string ⟨#[]⟩), .v (.bool false), .v (.slice none 0 0), .v (.bool false), .v (.slice none 0 0)]), (5, .box 36 [.v (.string (L.getD 0 tok0).text), .v (.bool fn), .r 7, .v (.bool va), .v (.slice none 0 0)]), (7, .row 9 (strY.d ps))], 8⟩)
        (fun (fn, va, ps, k) u => 0 ≤ k ∧ k ≤ L.length ∧ ps.length ≤ L.length ∧ res = defB (L.getD 0 tok0).text fn ps va (L.drop k.toNat)) (fun (_, _, _, _) => by show 7 ≤ 8; omega) ?_ ?_
      · refine x_vc tt_ok ?_
        refine xl_slG 37 rfl hx ?_
        refine xl_go tt_ok ?_
        repeat (refine And.intro ?_ ?_; first | omega | (simp only [Lay.d_n]; omega) | (simp only [decide_eq_true_eq, decide_eq_false_iff_not, Bool.or_eq_false_iff, Bool.and_eq_true, Bool.or_eq_true, Bool.and_eq_false_iff, Bool.not_eq_true', Bool.not_eq_false', Lay.d_n]; omega) | (simp only [decide_eq_true_eq, decide_eq_false_iff_not, Bool.or_eq_false_iff, Bool.and_eq_true, Bool.or_eq_true, Bool.and_eq_false_iff, Bool.not_eq_true', Bool.not_eq_false']; omega) | (simp only [decide_eq_true_eq, decide_eq_false_iff_not, Bool.or_eq_false_iff]; simp only [Lay.d_n]; omega))
        refine x_if (fun h => ?_) (fun h => ?_)
        · have h : (decide ((1 : Int) < L.length) && !(L.getD 1 tok0).space) = true := h
          rw [if_pos h] at hres
          have hL2 : 2 ≤ L.length := by
            rw [Bool.and_eq_true, decide_eq_true_eq] at h
            omega
          obtain ⟨z1, z2, z3, _⟩ := pl (by rw [List.length_drop]; omega)
          refine xl_call0 (.bool (atB L 1 sLp)) rfl rfl rfl rfl fn93 rfl rfl (fun E w F hs => at_any L 1 sLp _ w (hx.imm hs.imm) (by omega)) ?_
          refine xl_go tt_ok ?_
          refine x_if (fun h2 => ?_) (fun h2 => ?_)
          · have h2 : (!atB L 1 sLp) = true := h2
            rw [if_neg (by intro h3; rw [h3] at h2; cases h2)] at hres
            rw [← hres]
            exact finP (fun E w' F hs hu => defNo _)
          · have h2 : atB L 1 sLp = true := by
              have h2 : (!atB L 1 sLp) = false := h2
              simpa using h2
            rw [if_pos h2] at hres
            obtain ⟨r, hr⟩ : ∃ r, r = refP (if atB L 2 sRp = true then ⟨[], false, 2 + 1, true⟩ else pF [] 2 (L.drop (2 : Int).toNat)) := ⟨_, rfl⟩
            have hr2 := hr
            rw [rp hL2] at hr2
            refine xl_callO2 9 (strY.d r.1) [.bool r.2.1, .int .i64 r.2.2] rfl rfl rfl rfl fn94 rfl rfl (fun E w F hs => refParams_any L 2 _ w (hx.imm hs.imm) (by omega) (by omega) (by omega) r hr) ?_
            clear hr
            refine xl_go tt_ok ?_
            by_cases h3 : (paramsR (L.drop 1)).ok = true
            · rw [if_pos h3] at hr2 hres
              subst hr2
              generalize paramsR (L.drop 1) = q at *
              refine x_iff (decide_eq_false (by show ¬ q.n + 1 < 0; omega)) ?_
              refine meet (true, q.va, q.ps, q.n + 1) [(7, some 8)] (.of rfl rfl rfl rfl rfl rfl) ⟨by omega, by rw [List.length_drop] at z3; omega, by rw [List.length_drop] at z1; omega, ?_⟩
              rw [← hres, show (q.n + 1).toNat = 1 + q.n.toNat by omega, List.drop_drop]
            · rw [if_neg h3] at hr2 hres
              subst hr2
              refine x_ift rfl ?_
              rw [← hres]
              exact finP (fun E w' F hs hu => defNo _)
        · have h : (decide ((1 : Int) < L.length) && !(L.getD 1 tok0).space) = false := h
          rw [if_neg (by rw [h]; simp)] at hres
          exact meet (false, false, [], 1) [(7, some 6)] (.of rfl rfl rfl rfl rfl rfl) ⟨by omega, by omega, Nat.zero_le _, hres.symm⟩
      · rintro ⟨fn, va, ps, k⟩ u5 hu5 ⟨k1, k2, k3, k6⟩
        rw [k6]
        clear k6 hres rp pl
        generalize (L.getD 0 tok0).text = nm
        obtain ⟨A2, c2, hA2⟩ : ∃ A2 c2, partV ti31.sz A c k.toNat L.length = .slice A2 (L.drop k.toNat).length c2 := ⟨_, _, by unfold partV; rw [List.length_drop]⟩
        have hx2 : SlAt (im w) (.slice A2 (L.drop k.toNat).length c2) (tokY.d (L.drop k.toNat)) := by
          have := partV_slAt hx (l := k.toNat) (h := L.length) (by omega) (Nat.le_refl _)
          rw [List.take_length] at this
          rw [← hA2]; exact this
        obtain ⟨l, hl⟩ : ∃ l, l = L.drop k.toNat := ⟨_, rfl⟩
        have hll : l.length ≤ L.length := by rw [hl, List.length_drop]; omega
        rw [← hl] at hA2 hx2 ⊢
        have hx5 : SlAt u5 (.slice A2 l.length c2) (tokY.d l) := hx2.le hu5
        refine x_star0 0 ?_
        refine x_parkB 7 8 5 rfl rfl rfl (fun pa pc => ?_)
        refine x_seq (x_seq ?_)
        refine x_via (σ := Unit) (fun _ => ⟨[(67, .v (.bool (!validB fn va ps l))), (5, .v (.int .i64 k)), (4, .p 5 0), (2, .p 0 0), (0, .v (.slice A L.length c))], [],
            [(0, .box 36 [.v (.string ⟨#[]⟩), .v (.bool false), .v (.slice none 0 0), .v (.bool false), .v (.slice none 0 0)]), (5, .box 36 [.v (.string nm), .v (.bool fn), .v (.slice pa ps.length pc), .v (.bool va), .v (.slice none 0 0)]),
             (8, .gen (starHp [⟨.slice pa ps.length pc, 9, strY.d ps⟩]))], 9⟩) (fun _ _ => True) (fun _ => by show 9 ≤ 9; omega) ?_ ?_
        · refine x_drawA mix ?_
          refine xa_pures tt_ok (fuel := 4) [1, 2] rfl (by kernel_rfl) (by kernel_rfl) (fun _ _ _ hh => hh) (by kernel_rfl) (by kernel_rfl) ?_
          refine xa_two 0 3 (by kernel_rfl) rfl rfl ?_ ?_
          · refine xl_go tt_ok ?_
            refine xa_one 3 (by kernel_rfl) rfl ?_
            refine xl_fromE tt_ok rfl rfl rfl rfl rfl rfl rfl rfl rfl (by omega) (by omega) ?_
            rw [hA2]
            refine xl_end ?_
            refine xa_one 4 (by kernel_rfl) rfl ?_
            refine xl_call0 (.bool (validB fn va ps l)) rfl rfl rfl rfl fn95 rfl rfl (fun E w F hs => may_any nm fn va ps pa none pc 0 0 l _ w (hx5.imm hs.imm) (hs.starAt (s := 8) (i := 0) rfl rfl) (by omega) (by omega)) ?_
            refine xl_end ?_
            refine xa_one 5 (by kernel_rfl) rfl (xl_go tt_ok ?_)
            refine xa_done (by kernel_rfl) rfl ?_
            exact meet () [] (.of rfl rfl rfl rfl rfl rfl) trivial
          · refine xl_fromE tt_ok rfl rfl rfl rfl rfl rfl rfl rfl rfl (by omega) (by omega) ?_
            rw [hA2]
            refine xl_end ?_
            refine xa_one 0 (by kernel_rfl) rfl (xl_go tt_ok ?_)
            refine xa_one 4 (by kernel_rfl) rfl ?_
            refine xl_call0 (.bool (validB fn va ps l)) rfl rfl rfl rfl fn95 rfl rfl (fun E w F hs => may_any nm fn va ps pa none pc 0 0 l _ w (hx5.imm hs.imm) (hs.starAt (s := 8) (i := 0) rfl rfl) (by omega) (by omega)) ?_
            refine xl_end ?_
            refine xa_one 5 (by kernel_rfl) rfl (xl_go tt_ok ?_)
            refine xa_done (by kernel_rfl) rfl ?_
            exact meet () [] (.of rfl rfl rfl rfl rfl rfl) trivial
        · rintro _ u6 hu6 _
          refine x_vc tt_ok ?_
          refine x_if (fun h => ?_) (fun h => ?_)
          · have h : (!validB fn va ps l) = true := h
            have e : defB nm fn ps va l = (m0, 50) := by
              unfold defB
              rw [if_neg (by intro h3; rw [h3] at h; cases h)]
            rw [e]
            exact finP (fun E w' F hs hu => defNo _)
          · have h : validB fn va ps l = true := by
              have h : (!validB fn va ps l) = false := h
              simpa using h
            have e : defB nm fn ps va l = (⟨nm, fn, ps, va, fixS (l.map ofT)⟩, 0) := by unfold defB; rw [if_pos h]
            rw [e]
            refine x_vc tt_ok ?_
            refine xl_fromE tt_ok rfl rfl rfl rfl rfl rfl rfl rfl rfl (by omega) (by omega) ?_
            rw [hA2]
            refine xl_go tt_ok ?_
            refine xl_callO 46 (pvY.d (l.map ofT)) rfl rfl rfl rfl fn35 rfl rfl (fun E w F hs => refOf_any l _ w ((hx5.le hu6).imm hs.imm) (by omega)) ?_
            have hml : (l.map ofT).length = l.length := by rw [List.length_map]
            generalize l.map ofT = M at hml
            refine xl_go tt_ok ?_
            cases M with
            | nil =>
              refine x_iff rfl ?_
              refine xl_parkB 9 8 5 rfl rfl rfl (fun ba bc => ?_)
              refine xl_go tt_ok ?_
              exact finStar (k := 8) (pa, pc, ba, bc) rfl (fun _ => rfl) trivial
            | cons t r =>
              refine x_ift (decide_eq_true (by show (0 : Int) < ((r.length + 1 : Nat) : Int); omega)) ?_
              refine And.intro (by omega) ?_
              refine And.intro (by show (0 : Int) < ((r.length + 1 : Nat) : Int); omega) ?_
              refine xl_set tt_ok (i := 0) (off := 2) pvY (t :: r) { t with space := false } (cs := [.bool false]) rfl rfl rfl rfl rfl rfl rfl (by omega) (by simp only [List.length_cons]; omega) rfl rfl (by decide) rfl ?_
              refine xl_go tt_ok ?_
              refine xl_parkB 9 8 5 rfl rfl rfl (fun ba bc => ?_)
              refine xl_go tt_ok ?_
              exact finStar (k := 8) (pa, pc, ba, bc) rfl (fun _ => rfl) trivial
  · have hb : (decide ((L.length : Int) = 0) || decide ((L.getD 0 tok0).kind ≠ 1)) = true := by
      have hb : ¬ (decide ((L.length : Int) = 0) || decide ((L.getD 0 tok0).kind ≠ 1)) = false := hb
      simpa only [Bool.not_eq_false] using hb
    refine xl_go tt_ok ?_
    refine xl_slG 21 rfl hx ?_
    refine xl_go tt_ok ?_
    repeat (refine And.intro ?_ ?_; first | omega | (simp only [Lay.d_n]; omega) | (simp only [decide_eq_true_eq, decide_eq_false_iff_not, Bool.or_eq_false_iff, Bool.and_eq_true, Bool.or_eq_true, Bool.and_eq_false_iff, Bool.not_eq_true', Bool.not_eq_false', Lay.d_n]; omega) | (simp only [decide_eq_true_eq, decide_eq_false_iff_not, Bool.or_eq_false_iff, Bool.and_eq_true, Bool.or_eq_true, Bool.and_eq_false_iff, Bool.not_eq_true', Bool.not_eq_false']; omega) | (simp only [decide_eq_true_eq, decide_eq_false_iff_not, Bool.or_eq_false_iff]; simp only [Lay.d_n]; omega))
    refine xl_gcall0 (.bool false) rfl rfl rfl rfl fn92 rfl rfl (fun hg => by
      have h7 : (decide ((L.length : Int) = 0) || decide ((L.getD 0 tok0).kind ≠ 1)) = false := hg.1
      rw [hb] at h7; cases h7) ?_
    refine xl_go tt_ok ?_
    refine x_ift ?_ ?_
    · show ((decide ((L.length : Int) = 0) || decide ((L.getD 0 tok0).kind ≠ 1)) || false) = true
      rw [hb]; rfl
    · have h : defC L = true := by unfold defC; rw [hb]; rfl
      rw [defR_no h]
      exact finP (fun E w' F hs hu => defNo _)
end Go.Proofs.Ytdonomneofdhfaa
namespace Go.Proofs.Ytdonomneofdhfaa
open Go.GV Go.RowKit
theorem eq_take_step {α : Type} {L M : List α} {i : Nat} (d : α) (hl : L.length = M.length) (hi : i < L.length) (h : L.take i = M.take i) : L.take (i + 1) = M.take (i + 1) ↔ L.getD i d = M.getD i d := by
  rw [take_get (List.getElem?_eq_getElem hi), take_get (List.getElem?_eq_getElem (show i < M.length by omega)), h, List.append_cancel_left_eq]
  simp [List.getD_eq_getElem?_getD, List.getElem?_eq_getElem hi, List.getElem?_eq_getElem (show i < M.length by omega)]
theorem ne_of_get {α : Type} {L M : List α} {i : Nat} {d : α} (h : L.getD i d ≠ M.getD i d) : L ≠ M := fun e => h (by rw [e])
set_option maxRecDepth 100000 in
theorem sameTexts_any (L M : List ByteArray) (x y : Value) (w : World) (hx : SlAt (im w) x (strY.d L)) (hy : SlAt (im w) y (strY.d M)) (hL : L.length ≤ 9223372036854775806) :
    Calls Try.prog 96 #[x, y] w (PureP w fun v _ => v = .bool (decide (L = M))) := by
  refine x_fun tt_ok Try.func96 rfl rfl [(x, strY.d L), (y, strY.d M)] 2 [.r 0, .r 1] rfl rfl rfl rfl (fun b hb => by simp at hb; rcases hb with rfl | rfl <;> assumption) ?_
  refine x_vc tt_ok ?_
  refine x_if (fun h => ?_) (fun h => ?_)
  · have h : (L.length : Int) ≠ M.length := of_decide_eq_true h
    refine fin1 (fun _ _ => ?_)
    rw [decide_eq_false (fun e => h (by rw [e]))]; rfl
  · have h : (L.length : Int) = M.length := Classical.not_not.1 (of_decide_eq_false h)
    refine x_loop (σ := Int) (fun i => ⟨[(5, .v (.int .i64 i)), (1, .r 1), (0, .r 0)], [], [(0, .sl (strY.d L)), (1, .sl (strY.d M))], 2⟩)
      (fun i _ => 0 ≤ i ∧ i ≤ L.length ∧ L.take i.toNat = M.take i.toNat) (fun i => (L.length - i).toNat) (fun _ => Nat.le_refl _) 0 [] (.of rfl rfl rfl rfl rfl rfl) ⟨by omega, by omega, rfl⟩ ?_
    rintro i u hu ⟨g1, g2, g3⟩
    refine x_vc tt_ok ?_
    refine x_if (fun h2 => ?_) (fun h2 => ?_)
    · have h2 : i < L.length := of_decide_eq_true h2
      refine x_draw mix (by kernel_rfl) (xd_go tt_ok ?_)
      repeat (refine And.intro ?_ ?_; first | omega | (simp only [Lay.d_n]; omega) | (simp only [decide_eq_true_eq, decide_eq_false_iff_not, Bool.or_eq_false_iff, Bool.and_eq_true, Bool.or_eq_true, Bool.and_eq_false_iff, Bool.not_eq_true', Bool.not_eq_false', Lay.d_n]; omega) | (simp only [decide_eq_true_eq, decide_eq_false_iff_not, Bool.or_eq_false_iff, Bool.and_eq_true, Bool.or_eq_true, Bool.and_eq_false_iff, Bool.not_eq_true', Bool.not_eq_false']; omega) | (simp only [decide_eq_true_eq, decide_eq_false_iff_not, Bool.or_eq_false_iff]; simp only [Lay.d_n]; omega))
      refine x_if (fun h3 => ?_) (fun h3 => ?_)
      · have h3 : L.getD i.toNat ⟨#[]⟩ ≠ M.getD i.toNat ⟨#[]⟩ := of_decide_eq_true h3
        refine fin1 (fun _ _ => ?_)
        rw [decide_eq_false (ne_of_get h3)]; rfl
      · have h3 : L.getD i.toNat ⟨#[]⟩ = M.getD i.toNat ⟨#[]⟩ := Classical.not_not.1 (of_decide_eq_false h3)
        repeat (refine And.intro ?_ ?_; first | omega | (simp only [Lay.d_n]; omega) | (simp only [decide_eq_true_eq, decide_eq_false_iff_not, Bool.or_eq_false_iff, Bool.and_eq_true, Bool.or_eq_true, Bool.and_eq_false_iff, Bool.not_eq_true', Bool.not_eq_false', Lay.d_n]; omega) | (simp only [decide_eq_true_eq, decide_eq_false_iff_not, Bool.or_eq_false_iff, Bool.and_eq_true, Bool.or_eq_true, Bool.and_eq_false_iff, Bool.not_eq_true', Bool.not_eq_false']; omega) | (simp only [decide_eq_true_eq, decide_eq_false_iff_not, Bool.or_eq_false_iff]; simp only [Lay.d_n]; omega))
        refine again (i + 1) [] (.of rfl rfl rfl rfl rfl rfl) ⟨by omega, by omega, ?_⟩ (by omega)
        rw [show (i + 1).toNat = i.toNat + 1 by omega]
        exact (eq_take_step _ (by omega) (by omega) g3).2 h3
    · have h2 : ¬ i < L.length := of_decide_eq_false h2
      rw [List.take_of_length_le (by omega), List.take_of_length_le (by omega)] at g3
      refine fin1 (fun _ _ => ?_)
      rw [decide_eq_true g3]; rfl
set_option maxRecDepth 100000 in
theorem equalS_any (L M : List ByteArray) (x y : Value) (w : World) (hx : SlAt (im w) x (strY.d L)) (hy : SlAt (im w) y (strY.d M)) (hL : L.length ≤ 9223372036854775806) :
    Calls Try.prog 97 #[x, y] w (PureP w fun v _ => v = .bool (decide (L = M))) := by
  refine x_fun tt_ok Try.func97 rfl rfl [(x, strY.d L), (y, strY.d M)] 2 [.r 0, .r 1] rfl rfl rfl rfl (fun b hb => by simp at hb; rcases hb with rfl | rfl <;> assumption) ?_
  refine x_vc tt_ok ?_
  refine x_if (fun h => ?_) (fun h => ?_)
  · have h : (L.length : Int) ≠ M.length := of_decide_eq_true h
    refine fin1 (fun _ _ => ?_)
    rw [decide_eq_false (fun e => h (by rw [e]))]; rfl
  · have h : (L.length : Int) = M.length := Classical.not_not.1 (of_decide_eq_false h)
    refine x_loop (σ := Int) (fun i => ⟨[(13, .v (.int .i64 i)), (12, .v (.int .i64 L.length)), (1, .r 1), (0, .r 0)], [], [(0, .sl (strY.d L)), (1, .sl (strY.d M))], 2⟩)
      (fun i _ => 0 ≤ i ∧ i ≤ L.length ∧ L.take i.toNat = M.take i.toNat) (fun i => (L.length - i).toNat) (fun _ => Nat.le_refl _) 0 [] (.of rfl rfl rfl rfl rfl rfl) ⟨by omega, by omega, rfl⟩ ?_
    rintro i u hu ⟨g1, g2, g3⟩
    refine x_vc tt_ok ?_
    refine x_if (fun h2 => ?_) (fun h2 => ?_)
    · have h2 : i < L.length := of_decide_eq_true h2
      refine x_draw mix (by kernel_rfl) (xd_go tt_ok ?_)
      repeat (refine And.intro ?_ ?_; first | omega | (simp only [Lay.d_n]; omega) | (simp only [decide_eq_true_eq, decide_eq_false_iff_not, Bool.or_eq_false_iff, Bool.and_eq_true, Bool.or_eq_true, Bool.and_eq_false_iff, Bool.not_eq_true', Bool.not_eq_false', Lay.d_n]; omega) | (simp only [decide_eq_true_eq, decide_eq_false_iff_not, Bool.or_eq_false_iff, Bool.and_eq_true, Bool.or_eq_true, Bool.and_eq_false_iff, Bool.not_eq_true', Bool.not_eq_false']; omega) | (simp only [decide_eq_true_eq, decide_eq_false_iff_not, Bool.or_eq_false_iff]; simp only [Lay.d_n]; omega))
      refine x_if (fun h3 => ?_) (fun h3 => ?_)
      · have h3 : L.getD i.toNat ⟨#[]⟩ ≠ M.getD i.toNat ⟨#[]⟩ := of_decide_eq_true h3
        refine fin1 (fun _ _ => ?_)
        rw [decide_eq_false (ne_of_get h3)]; rfl
      · have h3 : L.getD i.toNat ⟨#[]⟩ = M.getD i.toNat ⟨#[]⟩ := Classical.not_not.1 (of_decide_eq_false h3)
        repeat (refine And.intro ?_ ?_; first | omega | (simp only [Lay.d_n]; omega) | (simp only [decide_eq_true_eq, decide_eq_false_iff_not, Bool.or_eq_false_iff, Bool.and_eq_true, Bool.or_eq_true, Bool.and_eq_false_iff, Bool.not_eq_true', Bool.not_eq_false', Lay.d_n]; omega) | (simp only [decide_eq_true_eq, decide_eq_false_iff_not, Bool.or_eq_false_iff, Bool.and_eq_true, Bool.or_eq_true, Bool.and_eq_false_iff, Bool.not_eq_true', Bool.not_eq_false']; omega) | (simp only [decide_eq_true_eq, decide_eq_false_iff_not, Bool.or_eq_false_iff]; simp only [Lay.d_n]; omega))
        refine again (i + 1) [] (.of rfl rfl rfl rfl rfl rfl) ⟨by omega, by omega, ?_⟩ (by omega)
        rw [show (i + 1).toNat = i.toNat + 1 by omega]
        exact (eq_take_step _ (by omega) (by omega) g3).2 h3
    · have h2 : ¬ i < L.length := of_decide_eq_false h2
      rw [List.take_of_length_le (by omega), List.take_of_length_le (by omega)] at g3
      refine fin1 (fun _ _ => ?_)
      rw [decide_eq_true g3]; rfl
structure PK where
  kind : Int
  text : ByteArray
  space : Bool
  parts : List ByteArray
  deriving DecidableEq
def pk0 : PK := ⟨0, ⟨#[]⟩, false, []⟩
def PK.of (t : PV) (p : List ByteArray) : PK := ⟨t.kind, t.text, t.space, p⟩
def keysOf (L : List PV) (T : List (List ByteArray)) : List PK := List.zipWith PK.of L T
def PV.prt (t : PV) : Value := .slice t.pa t.pn t.pc
def PartsAt (u : Im) (L : List PV) (T : List (List ByteArray)) : Prop := L.length = T.length ∧ ∀ i, i < L.length → SlAt u (L.getD i pv0).prt (strY.d (T.getD i []))
def prtSm (T : List (List ByteArray)) : Prop := ∀ i : Nat, (T.getD i []).length ≤ 9223372036854775806
theorem keys_len {L : List PV} {T : List (List ByteArray)} (h : L.length = T.length) : (keysOf L T).length = L.length := by
  unfold keysOf
  rw [List.length_zipWith]; omega
theorem keys_get {L : List PV} {T : List (List ByteArray)} (h : L.length = T.length) {i : Nat} (hi : i < L.length) : (keysOf L T).getD i pk0 = PK.of (L.getD i pv0) (T.getD i []) := by
  unfold keysOf
  simp [List.getD_eq_getElem?_getD, List.getElem?_zipWith, List.getElem?_eq_getElem hi, List.getElem?_eq_getElem (show i < T.length by omega)]
theorem pk_ne (t t' : PV) (p p' : List ByteArray) : (((decide (t.kind ≠ t'.kind) || decide (t.text ≠ t'.text)) || decide (t.space ≠ t'.space)) || !decide (p = p')) = decide (PK.of t p ≠ PK.of t' p') := by
  unfold PK.of
  simp only [ne_eq, PK.mk.injEq]
  by_cases e1 : t.kind = t'.kind <;> by_cases e2 : t.text = t'.text <;> by_cases e3 : t.space = t'.space <;> by_cases e4 : p = p' <;> simp [e1, e2, e3, e4]
theorem pk_eq (t t' : PV) (p p' : List ByteArray) : (((decide (t.kind = t'.kind) && decide (t.text = t'.text)) && decide (t.space = t'.space)) && decide (p = p')) = decide (PK.of t p = PK.of t' p') := by
  unfold PK.of
  simp only [PK.mk.injEq]
  by_cases e1 : t.kind = t'.kind <;> by_cases e2 : t.text = t'.text <;> by_cases e3 : t.space = t'.space <;> by_cases e4 : p = p' <;> simp [e1, e2, e3, e4]
set_option maxHeartbeats 1000000 in
set_option maxRecDepth 100000 in
theorem sameToks_any (L M : List PV) (T S : List (List ByteArray)) (x y : Value) (w : World) (hx : SlAt (im w) x (pvY.d L)) (hy : SlAt (im w) y (pvY.d M)) (hT : PartsAt (im w) L T) (hS : PartsAt (im w) M S) (zT : prtSm T)
    (hL : L.length ≤ 9223372036854775806) : Calls Try.prog 34 #[x, y] w (PureP w fun v _ => v = .bool (decide (keysOf L T = keysOf M S))) := by
  refine x_fun tt_ok Try.func34 rfl rfl [(x, pvY.d L), (y, pvY.d M)] 2 [.r 0, .r 1] rfl rfl rfl rfl (fun b hb => by simp at hb; rcases hb with rfl | rfl <;> assumption) ?_
  refine x_vc tt_ok ?_
  have kl := keys_len hT.1
  have km := keys_len hS.1
  refine x_if (fun h => ?_) (fun h => ?_)
  · have h : (L.length : Int) ≠ M.length := of_decide_eq_true h
    refine fin1 (fun _ _ => ?_)
    rw [decide_eq_false (fun e => h (by rw [← kl, ← km, e]))]; rfl
  · have h : (L.length : Int) = M.length := Classical.not_not.1 (of_decide_eq_false h)
    refine x_loop (σ := Int) (fun i => ⟨[(5, .v (.int .i64 i)), (1, .r 1), (0, .r 0)], [], [(0, .sl (pvY.d L)), (1, .sl (pvY.d M))], 2⟩)
      (fun i _ => 0 ≤ i ∧ i ≤ L.length ∧ (keysOf L T).take i.toNat = (keysOf M S).take i.toNat) (fun i => (L.length - i).toNat) (fun _ => Nat.le_refl _) 0 [] (.of rfl rfl rfl rfl rfl rfl) ⟨by omega, by omega, rfl⟩ ?_
    rintro i u hu ⟨g1, g2, g3⟩
    refine x_vc tt_ok ?_
    refine x_if (fun h2 => ?_) (fun h2 => ?_)
    · have h2 : i < L.length := of_decide_eq_true h2
      have gl := keys_get hT.1 (i := i.toNat) (by omega)
      have gm := keys_get hS.1 (i := i.toNat) (by omega)
      refine x_draw mix (by kernel_rfl) (xd_go tt_ok ?_)
      repeat (refine And.intro ?_ ?_; first | omega | (simp only [Lay.d_n]; omega) | (simp only [decide_eq_true_eq, decide_eq_false_iff_not, Bool.or_eq_false_iff, Bool.and_eq_true, Bool.or_eq_true, Bool.and_eq_false_iff, Bool.not_eq_true', Bool.not_eq_false', Lay.d_n]; omega) | (simp only [decide_eq_true_eq, decide_eq_false_iff_not, Bool.or_eq_false_iff, Bool.and_eq_true, Bool.or_eq_true, Bool.and_eq_false_iff, Bool.not_eq_true', Bool.not_eq_false']; omega) | (simp only [decide_eq_true_eq, decide_eq_false_iff_not, Bool.or_eq_false_iff]; simp only [Lay.d_n]; omega))
      refine xd_call0 (.bool (decide (T.getD i.toNat [] = S.getD i.toNat []))) rfl rfl rfl rfl fn96 rfl rfl
        (fun _ E w F hs => sameTexts_any _ _ _ _ w (((hT.2 i.toNat (by omega)).le hu).imm hs.imm) (((hS.2 i.toNat (by omega)).le hu).imm hs.imm) (zT _)) ?_
      refine xd_go tt_ok ?_
      have hc : (((decide ((L.getD i.toNat pv0).kind ≠ (M.getD i.toNat pv0).kind) || decide ((L.getD i.toNat pv0).text ≠ (M.getD i.toNat pv0).text)) || decide ((L.getD i.toNat pv0).space ≠ (M.getD i.toNat pv0).space)) || !decide (T.getD i.toNat [] = S.getD i.toNat [])) =
          decide ((keysOf L T).getD i.toNat pk0 ≠ (keysOf M S).getD i.toNat pk0) := by
        rw [gl, gm]
        exact pk_ne _ _ _ _
      refine x_if (fun h3 => ?_) (fun h3 => ?_)
      · have h3 : (((decide ((L.getD i.toNat pv0).kind ≠ (M.getD i.toNat pv0).kind) || decide ((L.getD i.toNat pv0).text ≠ (M.getD i.toNat pv0).text)) || decide ((L.getD i.toNat pv0).space ≠ (M.getD i.toNat pv0).space)) || !decide (T.getD i.toNat [] = S.getD i.toNat [])) = true := h3
        rw [hc] at h3
        refine fin1 (fun _ _ => ?_)
        rw [decide_eq_false (ne_of_get (of_decide_eq_true h3))]; rfl
      · have h3 : (((decide ((L.getD i.toNat pv0).kind ≠ (M.getD i.toNat pv0).kind) || decide ((L.getD i.toNat pv0).text ≠ (M.getD i.toNat pv0).text)) || decide ((L.getD i.toNat pv0).space ≠ (M.getD i.toNat pv0).space)) || !decide (T.getD i.toNat [] = S.getD i.toNat [])) = false := h3
        rw [hc] at h3
        repeat (refine And.intro ?_ ?_; first | omega | (simp only [Lay.d_n]; omega) | (simp only [decide_eq_true_eq, decide_eq_false_iff_not, Bool.or_eq_false_iff, Bool.and_eq_true, Bool.or_eq_true, Bool.and_eq_false_iff, Bool.not_eq_true', Bool.not_eq_false', Lay.d_n]; omega) | (simp only [decide_eq_true_eq, decide_eq_false_iff_not, Bool.or_eq_false_iff, Bool.and_eq_true, Bool.or_eq_true, Bool.and_eq_false_iff, Bool.not_eq_true', Bool.not_eq_false']; omega) | (simp only [decide_eq_true_eq, decide_eq_false_iff_not, Bool.or_eq_false_iff]; simp only [Lay.d_n]; omega))
        refine again (i + 1) [] (.of rfl rfl rfl rfl rfl rfl) ⟨by omega, by omega, ?_⟩ (by omega)
        rw [show (i + 1).toNat = i.toNat + 1 by omega]
        exact (eq_take_step _ (by omega) (by omega) g3).2 (Classical.not_not.1 (of_decide_eq_false h3))
    · have h2 : ¬ i < L.length := of_decide_eq_false h2
      rw [List.take_of_length_le (by omega), List.take_of_length_le (by omega)] at g3
      refine fin1 (fun _ _ => ?_)
      rw [decide_eq_true g3]; rfl
def PV.val (t : PV) : Value := .agg #[.int .i64 t.kind, .string t.text, .bool t.space, t.prt]
set_option maxRecDepth 100000 in
theorem same1_any (t t' : PV) (p p' : List ByteArray) (w : World) (hp : SlAt (im w) t.prt (strY.d p)) (hp' : SlAt (im w) t'.prt (strY.d p')) (hz : p.length ≤ 9223372036854775806) :
    Calls Try.prog 99 #[t.val, t'.val] w (PureP w fun v _ => v = .bool (decide (PK.of t p = PK.of t' p'))) := by
  refine x_fun tt_ok Try.func99 rfl rfl [] 0 [.v t.val, .v t'.val] rfl rfl rfl rfl (fun b hb => by cases hb) ?_
  refine x_vc tt_ok ?_
  refine xl_gcall0 (.bool (decide (p = p'))) rfl rfl rfl rfl fn97 rfl rfl (fun _ E w F hs => equalS_any p p' _ _ w (hp.imm hs.imm) (hp'.imm hs.imm) hz) ?_
  refine xl_go tt_ok ?_
  refine fin1 (fun _ _ => ?_)
  rw [← pk_eq]; rfl
end Go.Proofs.Ytdonomneofdhfaa
namespace Go.Proofs.Ytdonomneofdhfaa
open Go.GV Go.RowKit
set_option maxHeartbeats 1000000 in
set_option maxRecDepth 100000 in
theorem equalF_any (L M : List PV) (T S : List (List ByteArray)) (x y : Value) (w : World) (hx : SlAt (im w) x (pvY.d L)) (hy : SlAt (im w) y (pvY.d M)) (hT : PartsAt (im w) L T) (hS : PartsAt (im w) M S) (zT : prtSm T)
    (hL : L.length ≤ 9223372036854775806) : Calls Try.prog 98 #[x, y, .func (.func 99) #[] #[]] w (PureP w fun v _ => v = .bool (decide (keysOf L T = keysOf M S))) := by
  refine x_fun tt_ok Try.func98 rfl rfl [(x, pvY.d L), (y, pvY.d M)] 2 [.r 0, .r 1, .v (.func (.func 99) #[] #[])] rfl rfl rfl rfl (fun b hb => by simp at hb; rcases hb with rfl | rfl <;> assumption) ?_
  refine x_vc tt_ok ?_
  have kl := keys_len hT.1
  have km := keys_len hS.1
  refine x_if (fun h => ?_) (fun h => ?_)
  · have h : (L.length : Int) ≠ M.length := of_decide_eq_true h
    refine fin1 (fun _ _ => ?_)
    rw [decide_eq_false (fun e => h (by rw [← kl, ← km, e]))]; rfl
  · have h : (L.length : Int) = M.length := Classical.not_not.1 (of_decide_eq_false h)
    refine x_loop (σ := Int) (fun i => ⟨[(17, .v (.int .i64 i)), (16, .v (.int .i64 L.length)), (15, .r 0), (2, .v (.func (.func 99) #[] #[])), (1, .r 1)], [], [(0, .sl (pvY.d L)), (1, .sl (pvY.d M))], 2⟩)
      (fun i _ => 0 ≤ i ∧ i ≤ L.length ∧ (keysOf L T).take i.toNat = (keysOf M S).take i.toNat) (fun i => (L.length - i).toNat) (fun _ => Nat.le_refl _) 0 [] (.of rfl rfl rfl rfl rfl rfl) ⟨by omega, by omega, rfl⟩ ?_
    rintro i u hu ⟨g1, g2, g3⟩
    refine x_vc tt_ok ?_
    refine x_if (fun h2 => ?_) (fun h2 => ?_)
    · have h2 : i < L.length := of_decide_eq_true h2
      have gl := keys_get hT.1 (i := i.toNat) (by omega)
      have gm := keys_get hS.1 (i := i.toNat) (by omega)
      repeat (refine And.intro ?_ ?_; first | omega | (simp only [Lay.d_n]; omega) | (simp only [decide_eq_true_eq, decide_eq_false_iff_not, Bool.or_eq_false_iff, Bool.and_eq_true, Bool.or_eq_true, Bool.and_eq_false_iff, Bool.not_eq_true', Bool.not_eq_false', Lay.d_n]; omega) | (simp only [decide_eq_true_eq, decide_eq_false_iff_not, Bool.or_eq_false_iff, Bool.and_eq_true, Bool.or_eq_true, Bool.and_eq_false_iff, Bool.not_eq_true', Bool.not_eq_false']; omega) | (simp only [decide_eq_true_eq, decide_eq_false_iff_not, Bool.or_eq_false_iff]; simp only [Lay.d_n]; omega))
      refine xl_call0 (.bool (decide (PK.of (L.getD i.toNat pv0) (T.getD i.toNat []) = PK.of (M.getD i.toNat pv0) (S.getD i.toNat [])))) rfl rfl rfl rfl fn99 rfl rfl
        (fun E w F hs => same1_any (L.getD i.toNat pv0) (M.getD i.toNat pv0) _ _ w (((hT.2 i.toNat (by omega)).le hu).imm hs.imm) (((hS.2 i.toNat (by omega)).le hu).imm hs.imm) (zT _)) ?_
      refine xl_go tt_ok ?_
      rw [← gl, ← gm]
      refine x_if (fun h3 => ?_) (fun h3 => ?_)
      · have h3 : (!decide ((keysOf L T).getD i.toNat pk0 = (keysOf M S).getD i.toNat pk0)) = true := h3
        have h4 : (keysOf L T).getD i.toNat pk0 ≠ (keysOf M S).getD i.toNat pk0 := by
          rw [Bool.not_eq_true', decide_eq_false_iff_not] at h3; exact h3
        refine fin1 (fun _ _ => ?_)
        rw [decide_eq_false (ne_of_get h4)]; rfl
      · have h3 : (!decide ((keysOf L T).getD i.toNat pk0 = (keysOf M S).getD i.toNat pk0)) = false := h3
        have h4 : (keysOf L T).getD i.toNat pk0 = (keysOf M S).getD i.toNat pk0 := by
          rw [Bool.not_eq_false', decide_eq_true_eq] at h3; exact h3
        repeat (refine And.intro ?_ ?_; first | omega | (simp only [Lay.d_n]; omega) | (simp only [decide_eq_true_eq, decide_eq_false_iff_not, Bool.or_eq_false_iff, Bool.and_eq_true, Bool.or_eq_true, Bool.and_eq_false_iff, Bool.not_eq_true', Bool.not_eq_false', Lay.d_n]; omega) | (simp only [decide_eq_true_eq, decide_eq_false_iff_not, Bool.or_eq_false_iff, Bool.and_eq_true, Bool.or_eq_true, Bool.and_eq_false_iff, Bool.not_eq_true', Bool.not_eq_false']; omega) | (simp only [decide_eq_true_eq, decide_eq_false_iff_not, Bool.or_eq_false_iff]; simp only [Lay.d_n]; omega))
        refine again (i + 1) [] (.of rfl rfl rfl rfl rfl rfl) ⟨by omega, by omega, ?_⟩ (by omega)
        rw [show (i + 1).toNat = i.toNat + 1 by omega]
        exact (eq_take_step _ (by omega) (by omega) g3).2 h4
    · have h2 : ¬ i < L.length := of_decide_eq_false h2
      rw [List.take_of_length_le (by omega), List.take_of_length_le (by omega)] at g3
      refine fin1 (fun _ _ => ?_)
      rw [decide_eq_true g3]; rfl
def mSame (a b : MT) (T S : List (List ByteArray)) : Bool := (((decide (a.name = b.name) && decide (a.fn = b.fn)) && decide (a.va = b.va)) && decide (a.ps = b.ps)) && decide (keysOf a.body T = keysOf b.body S)
structure MAt (u : Im) (m : MT) (T : List (List ByteArray)) (s : MA) : Prop where
  ps : SlAt u (.slice s.1 m.ps.length s.2.1) (strY.d m.ps)
  body : SlAt u (.slice s.2.2.1 m.body.length s.2.2.2) (pvY.d m.body)
  parts : PartsAt u m.body T
  z1 : m.ps.length ≤ 9223372036854775806
  z2 : m.body.length ≤ 9223372036854775806
  z3 : prtSm T
theorem PartsAt.imm {u : Im} {L : List PV} {T : List (List ByteArray)} {w : World} (h : PartsAt u L T) (hi : Imm u w) : PartsAt (im w) L T := ⟨h.1, fun i hi' => (h.2 i hi').imm hi⟩
theorem PartsAt.sub {u u' : Im} {L : List PV} {T : List (List ByteArray)} (h : PartsAt u L T) (hi : u.sub u') : PartsAt u' L T := ⟨h.1, fun i hi' => (h.2 i hi').sub hi⟩
theorem MAt.imm {u : Im} {m : MT} {T : List (List ByteArray)} {s : MA} {w : World} (h : MAt u m T s) (hi : Imm u w) : MAt (im w) m T s := ⟨h.ps.imm hi, h.body.imm hi, h.parts.imm hi, h.z1, h.z2, h.z3⟩
theorem MAt.le {u u' : Im} {m : MT} {T : List (List ByteArray)} {s : MA} (h : MAt u m T s) (hi : u.le u') : MAt u' m T s := ⟨h.ps.le hi, h.body.le hi, h.parts.sub hi.sub, h.z1, h.z2, h.z3⟩
set_option maxRecDepth 100000 in
theorem refSame_any (a b : MT) (T S : List (List ByteArray)) (s s' : MA) (w : World) (ha : MAt (im w) a T s) (hb : MAt (im w) b S s') :
    Calls Try.prog 32 #[mVal a s, mVal b s'] w (PureP w fun v _ => v = .bool (mSame a b T S)) := by
  refine x_fun tt_ok Try.func32 rfl rfl [] 0 [.v (mVal a s), .v (mVal b s')] rfl rfl rfl rfl (fun b hb => by cases hb) ?_
  refine x_vc tt_ok ?_
  refine xl_gcall0 (.bool (decide (a.ps = b.ps))) rfl rfl rfl rfl fn96 rfl rfl (fun _ E w F hs => sameTexts_any a.ps b.ps _ _ w (ha.ps.imm hs.imm) (hb.ps.imm hs.imm) ha.z1) ?_
  refine xl_go tt_ok ?_
  refine xl_gcall0 (.bool (decide (keysOf a.body T = keysOf b.body S))) rfl rfl rfl rfl fn34 rfl rfl (fun _ E w F hs => sameToks_any a.body b.body T S _ _ w (ha.body.imm hs.imm) (hb.body.imm hs.imm) (ha.parts.imm hs.imm) (hb.parts.imm hs.imm) ha.z3 ha.z2) ?_
  refine xl_go tt_ok ?_
  exact fin1 (fun _ _ => rfl)
set_option maxRecDepth 100000 in
theorem macroSame_any (a b : MT) (T S : List (List ByteArray)) (s s' : MA) (w : World) (ha : MAt (im w) a T s) (hb : MAt (im w) b S s') :
    Calls Try.prog 33 #[mVal a s, mVal b s'] w (PureP w fun v _ => v = .bool (mSame a b T S)) := by
  refine x_fun tt_ok Try.func33 rfl rfl [] 0 [.v (mVal a s), .v (mVal b s')] rfl rfl rfl rfl (fun b hb => by cases hb) ?_
  refine x_vc tt_ok ?_
  refine xl_gcall0 (.bool (decide (a.ps = b.ps))) rfl rfl rfl rfl fn97 rfl rfl (fun _ E w F hs => equalS_any a.ps b.ps _ _ w (ha.ps.imm hs.imm) (hb.ps.imm hs.imm) ha.z1) ?_
  refine xl_go tt_ok ?_
  refine xl_gcall0 (.bool (decide (keysOf a.body T = keysOf b.body S))) rfl rfl rfl rfl fn98 rfl rfl (fun _ E w F hs => equalF_any a.body b.body T S _ _ w (ha.body.imm hs.imm) (hb.body.imm hs.imm) (ha.parts.imm hs.imm) (hb.parts.imm hs.imm) ha.z3 ha.z2) ?_
  refine xl_go tt_ok ?_
  exact fin1 (fun _ _ => rfl)
end Go.Proofs.Ytdonomneofdhfaa
namespace Go.Proofs.Ytdonomneofdhfaa
open Go.GV Go.RowKit
abbrev sIf : ByteArray := ⟨#[105, 102]⟩
abbrev sIfdef : ByteArray := ⟨#[105, 102, 100, 101, 102]⟩
abbrev sIfndef : ByteArray := ⟨#[105, 102, 110, 100, 101, 102]⟩
abbrev sElif : ByteArray := ⟨#[101, 108, 105, 102]⟩
abbrev sElse : ByteArray := ⟨#[101, 108, 115, 101]⟩
abbrev sEndif : ByteArray := ⟨#[101, 110, 100, 105, 102]⟩
def turnN (n : ByteArray) : Int :=
  if n = sIf then 1 else if n = sIfdef then 1 else if n = sIfndef then 1 else if n = sElif then 2 else if n = sElse then 3 else if n = sEndif then 4 else 0
def turnV (r : RowV) : Int := if r.dir = true then turnN r.name else 0
end Go.Proofs.Ytdonomneofdhfaa
namespace Go.Proofs.Ytdonomneofdhfaa
open Go.GV Go.RowKit
abbrev intY : Lay Int := ⟨[fun i => .int .i64 i], 0⟩
abbrev boolY : Lay Bool := ⟨[fun b => .bool b], false⟩
def bad (last : List Int) (k : Int) : Bool := decide ((last.length : Int) = 0) || (decide (k < 4) && decide (last.getD ((last.length : Int) - 1).toNat 0 = 3))
def stepR (last : List Int) (k : Int) : Option (List Int × Int) :=
  if 1 < k then
    if bad last k = true then none
    else some (if k = 4 then (last.set ((last.length : Int) - 1).toNat k).take ((last.length : Int) - 1).toNat else last.set ((last.length : Int) - 1).toNat k, (last.length : Int) - 1)
  else some (if k = 1 then last ++ [1] else last, last.length)
def depthsFrom (last out : List Int) : List RowV → Option (List Int)
  | [] => if 0 < last.length then none else some out
  | r :: rest => match stepR last (turnV r) with
    | none => none
    | some (last', d) => depthsFrom last' (out ++ [d]) rest
def dOut (L : List RowV) : List Int := (depthsFrom [] [] L).getD []
def dErr (L : List RowV) : Int := if (depthsFrom [] [] L).isNone then 81 else 0
end Go.Proofs.Ytdonomneofdhfaa
namespace Go.Proofs.Ytdonomneofdhfaa
open Go.GV Go.RowKit
def is3 (k : Int) : Bool := decide (k = 3)
theorem bad_is3 (last : List Int) {k : Int} (hk : k < 4) : bad last k = (decide (((last.map is3).length : Int) = 0) || (last.map is3).getD (((last.map is3).length : Int) - 1).toNat false) := by
  unfold bad
  rw [List.length_map]
  by_cases h : last.length = 0
  · have : decide ((last.length : Int) = 0) = true := decide_eq_true (by omega)
    rw [this]; rfl
  · have h1 : ((last.length : Int) - 1).toNat < last.length := by omega
    have h2 : decide (k < 4) = true := decide_eq_true hk
    rw [h2, Bool.true_and]
    congr 1
    simp only [List.getD_eq_getElem?_getD, List.getElem?_map, List.getElem?_eq_getElem h1, Option.map_some, Option.getD_some, is3]
set_option maxRecDepth 100000 in
theorem depths_any (L : List RowV) (x : Value) (w : World) (hx : SlAt (im w) x (rowY.d L)) (hL : L.length * 48 ≤ 140737488355328) :
    Calls Try.prog 49 #[x] w (PureP w (OwnT 3 (intY.d (dOut L)) [.int .i64 (dErr L)])) := by
  refine x_fun tt_ok Try.func49 rfl rfl [(x, rowY.d L)] 1 [.r 0] rfl rfl rfl rfl (fun b hb => by simp at hb; subst hb; exact hx) ?_
  refine x_vc tt_ok ?_
  refine xl_make0 tt_ok intY 8 L.length rfl rfl rfl rfl rfl rfl rfl (by kernel_rfl) rfl rfl rfl (by omega) (by omega) ?_
  refine xl_go tt_ok ?_
  refine x_nil 5 4 boolY rfl ?_
  refine x_loop (σ := Int × List Int × List Bool) (fun (i, out, en) => ⟨[(15, .v (.int .i64 i)), (14, .v (.int .i64 L.length)), (13, .r 0), (0, .r 0), (4, .r 3), (5, .r 4)], [], [(0, .sl (rowY.d L)), (3, .row 3 (intY.d out)), (4, .row 4 (boolY.d en))], 5⟩)
    (fun (i, out, en) _ => 0 ≤ i ∧ i ≤ L.length ∧ out.length = i ∧ ∃ last : List Int, en = last.map is3 ∧ last.length ≤ i ∧ depthsFrom last out (L.drop i.toNat) = depthsFrom [] [] L) (fun (i, _, _) => (L.length - i).toNat) (fun (_, _, _) => by simp only; omega) (0, [], []) [(3, some 1), (4, some 2)] (.of rfl rfl rfl rfl rfl rfl)
    ⟨by omega, by simp, by simp, [], rfl, by simp, by simp⟩ ?_
  rintro ⟨i, out, en⟩ u hu ⟨g1, g2, g3, last, g4, g5, g6⟩
  have hen : en.length = last.length := by rw [g4, List.length_map]
  refine x_vc tt_ok ?_
  refine x_if (fun h => ?_) (fun h => ?_)
  · have h2 : i < L.length := of_decide_eq_true h
    rw [drop_at (d := row0) g1 h2] at g6
    simp only [depthsFrom] at g6
    repeat (refine And.intro ?_ ?_; first | omega | (simp only [decide_eq_true_eq, decide_eq_false_iff_not]; simp only [Lay.d_n]; omega) | (simp [Lay.d] <;> omega))
    refine x_if (fun hd => ?_) (fun hd => ?_)
    · have hd' : (L.getD i.toNat row0).dir = true := hd
      have hk : turnV (L.getD i.toNat row0) = turnN (L.getD i.toNat row0).name := by simp only [turnV]; rw [if_pos hd']
      rw [hk] at g6
      clear hk
      refine x_if (fun h1 => x_ift h1 ?o1) (fun h1 => x_if (fun h2 => x_ift h2 ?o2) (fun h2 => x_if (fun h3 => ?o3) (fun h3 => x_if (fun h4 => x_ift h4 ?e1) (fun h4 =>
        x_if (fun h5 => ?e2) (fun h5 => x_if (fun h6 => ?f1) (fun h6 => ?n1))))))
      case o1 | o2 | o3 =>
        have hk : turnN (L.getD i.toNat row0).name = 1 := by
          simp only [decide_eq_true_eq, decide_eq_false_iff_not] at *
          simp only [turnN]
          simp_all
        rw [hk] at g6
        have e : stepR last 1 = some (last ++ [1], (last.length : Int)) := by simp [stepR]
        rw [e] at g6
        simp only at g6
        refine xl_push tt_ok boolY en false 1 (cs := [.bool false]) rfl rfl rfl rfl rfl rfl rfl rfl rfl rfl rfl rfl (by kernel_rfl) rfl rfl rfl rfl rfl (fun n hn => by cases hn; decide) rfl rfl rfl (by first | omega | (simp; omega)) (by first | omega | (simp; omega)) ?_
        refine xl_go tt_ok ?_
        refine xl_push tt_ok intY out (en.length : Int) 8 (cs := [.int .i64 (en.length : Int)]) rfl rfl rfl rfl rfl rfl rfl rfl rfl rfl rfl rfl (by kernel_rfl) rfl rfl rfl rfl rfl (fun n hn => by cases hn; decide) rfl rfl rfl (by first | omega | (simp; omega)) (by first | omega | (simp; omega)) ?_
        refine xl_go tt_ok ?_
        repeat (refine And.intro ?_ ?_; first | omega | (simp only [decide_eq_true_eq, decide_eq_false_iff_not]; simp only [Lay.d_n]; omega) | (simp [Lay.d] <;> omega))
        refine again (i + 1, _, _) [(3, some 7), (4, some 6)] (.of rfl rfl rfl rfl rfl rfl) ⟨by omega, by omega, by simp; omega, last ++ [1], by rw [g4]; simp [is3], by simp; omega, ?_⟩ (by simp only; omega)
        rw [hen]
        exact g6
      case n1 =>
        have hk : turnN (L.getD i.toNat row0).name = 0 := by
          simp only [decide_eq_true_eq, decide_eq_false_iff_not] at *
          simp only [turnN]
          simp_all
        rw [hk] at g6
        have e : stepR last 0 = some (last, (last.length : Int)) := by simp [stepR]
        rw [e] at g6
        simp only at g6
        refine xl_push tt_ok intY out (en.length : Int) 8 (cs := [.int .i64 (en.length : Int)]) rfl rfl rfl rfl rfl rfl rfl rfl rfl rfl rfl rfl (by kernel_rfl) rfl rfl rfl rfl rfl (fun n hn => by cases hn; decide) rfl rfl rfl (by first | omega | (simp; omega)) (by first | omega | (simp; omega)) ?_
        refine xl_go tt_ok ?_
        repeat (refine And.intro ?_ ?_; first | omega | (simp only [decide_eq_true_eq, decide_eq_false_iff_not]; simp only [Lay.d_n]; omega) | (simp [Lay.d] <;> omega))
        refine again (i + 1, _, _) [(3, some 6)] (.of rfl rfl rfl rfl rfl rfl) ⟨by omega, by omega, by simp; omega, last, g4, by omega, ?_⟩ (by simp only; omega)
        rw [hen]
        exact g6
      case e1 =>
        have hk : turnN (L.getD i.toNat row0).name = 2 := by
          simp only [decide_eq_true_eq, decide_eq_false_iff_not] at *
          simp only [turnN]
          simp_all
        rw [hk] at g6
        have hv : decide ((L.getD i.toNat row0).name = sElse) = is3 2 := by
          simp only [decide_eq_true_eq, decide_eq_false_iff_not] at *
          simp_all [is3]
        have hb := bad_is3 last (k := 2) (by omega)
        rw [← g4] at hb
        repeat (refine And.intro ?_ ?_; first | omega | (simp only [decide_eq_true_eq, decide_eq_false_iff_not]; simp only [Lay.d_n]; omega) | (simp [Lay.d] <;> omega))
        refine x_if (fun h7 => ?_) (fun h7 => ?_)
        · have e : stepR last 2 = none := by simp only [stepR]; rw [if_pos (by omega), if_pos (hb.trans h7)]
          rw [e] at g6
          simp only at g6
          have e1 : dOut L = [] := by simp only [dOut, ← g6]; rfl
          have e2 : dErr L = 81 := by simp only [dErr, ← g6]; rfl
          rw [e1, e2]
          exact finO2n intY
        · have h8 : bad last 2 = false := hb.trans h7
          have h9 : 0 < last.length := by
            simp only [bad, Bool.or_eq_false_iff, decide_eq_false_iff_not] at h8
            omega
          have e : stepR last 2 = some (last.set ((last.length : Int) - 1).toNat 2, (last.length : Int) - 1) := by
            simp only [stepR]; rw [if_pos (by omega), if_neg (by rw [h8]; simp), if_neg (by omega)]
          rw [e] at g6
          simp only at g6
          repeat (refine And.intro ?_ ?_; first | omega | (simp only [decide_eq_true_eq, decide_eq_false_iff_not]; simp only [Lay.d_n]; omega) | (simp [Lay.d] <;> omega))
          refine xl_set tt_ok boolY en (decide ((L.getD i.toNat row0).name = sElse)) (cs := [.bool (decide ((L.getD i.toNat row0).name = sElse))]) rfl rfl rfl rfl rfl rfl rfl (by simp only [Lay.d_n]; omega) (by simp only [Lay.d_n]; omega) rfl rfl (by simp) rfl ?_
          refine xl_go tt_ok ?_
          repeat (refine And.intro ?_ ?_; first | omega | (simp only [decide_eq_true_eq, decide_eq_false_iff_not]; simp only [Lay.d_n]; omega) | (simp [Lay.d] <;> omega))
          refine xl_push tt_ok intY out ((en.length : Int) - 1) 8 (cs := [.int .i64 ((en.length : Int) - 1)]) rfl rfl rfl rfl rfl rfl rfl rfl rfl rfl rfl rfl (by kernel_rfl) rfl rfl rfl rfl rfl (fun n hn => by cases hn; decide) rfl rfl rfl (by first | omega | (simp; omega)) (by first | omega | (simp; omega)) ?_
          refine xl_go tt_ok ?_
          repeat (refine And.intro ?_ ?_; first | omega | (simp only [decide_eq_true_eq, decide_eq_false_iff_not]; simp only [Lay.d_n]; omega) | (simp [Lay.d] <;> omega))
          refine again (i + 1, _, _) [(3, some 6)] (.of rfl rfl rfl rfl rfl rfl) ⟨by omega, by omega, by simp; omega, last.set ((last.length : Int) - 1).toNat 2, ?_, by simp; omega, ?_⟩ (by simp only; omega)
          · rw [hv, g4]
            simp only [Lay.d_n, List.length_map, List.map_set]
          · rw [hen]
            exact g6
      case e2 =>
        have hk : turnN (L.getD i.toNat row0).name = 3 := by
          simp only [decide_eq_true_eq, decide_eq_false_iff_not] at *
          simp only [turnN]
          simp_all
        rw [hk] at g6
        have hv : decide ((L.getD i.toNat row0).name = sElse) = is3 3 := by
          simp only [decide_eq_true_eq, decide_eq_false_iff_not] at *
          simp_all [is3]
        have hb := bad_is3 last (k := 3) (by omega)
        rw [← g4] at hb
        repeat (refine And.intro ?_ ?_; first | omega | (simp only [decide_eq_true_eq, decide_eq_false_iff_not]; simp only [Lay.d_n]; omega) | (simp [Lay.d] <;> omega))
        refine x_if (fun h7 => ?_) (fun h7 => ?_)
        · have e : stepR last 3 = none := by simp only [stepR]; rw [if_pos (by omega), if_pos (hb.trans h7)]
          rw [e] at g6
          simp only at g6
          have e1 : dOut L = [] := by simp only [dOut, ← g6]; rfl
          have e2 : dErr L = 81 := by simp only [dErr, ← g6]; rfl
          rw [e1, e2]
          exact finO2n intY
        · have h8 : bad last 3 = false := hb.trans h7
          have h9 : 0 < last.length := by
            simp only [bad, Bool.or_eq_false_iff, decide_eq_false_iff_not] at h8
            omega
          have e : stepR last 3 = some (last.set ((last.length : Int) - 1).toNat 3, (last.length : Int) - 1) := by
            simp only [stepR]; rw [if_pos (by omega), if_neg (by rw [h8]; simp), if_neg (by omega)]
          rw [e] at g6
          simp only at g6
          repeat (refine And.intro ?_ ?_; first | omega | (simp only [decide_eq_true_eq, decide_eq_false_iff_not]; simp only [Lay.d_n]; omega) | (simp [Lay.d] <;> omega))
          refine xl_set tt_ok boolY en (decide ((L.getD i.toNat row0).name = sElse)) (cs := [.bool (decide ((L.getD i.toNat row0).name = sElse))]) rfl rfl rfl rfl rfl rfl rfl (by simp only [Lay.d_n]; omega) (by simp only [Lay.d_n]; omega) rfl rfl (by simp) rfl ?_
          refine xl_go tt_ok ?_
          repeat (refine And.intro ?_ ?_; first | omega | (simp only [decide_eq_true_eq, decide_eq_false_iff_not]; simp only [Lay.d_n]; omega) | (simp [Lay.d] <;> omega))
          refine xl_push tt_ok intY out ((en.length : Int) - 1) 8 (cs := [.int .i64 ((en.length : Int) - 1)]) rfl rfl rfl rfl rfl rfl rfl rfl rfl rfl rfl rfl (by kernel_rfl) rfl rfl rfl rfl rfl (fun n hn => by cases hn; decide) rfl rfl rfl (by first | omega | (simp; omega)) (by first | omega | (simp; omega)) ?_
          refine xl_go tt_ok ?_
          repeat (refine And.intro ?_ ?_; first | omega | (simp only [decide_eq_true_eq, decide_eq_false_iff_not]; simp only [Lay.d_n]; omega) | (simp [Lay.d] <;> omega))
          refine again (i + 1, _, _) [(3, some 6)] (.of rfl rfl rfl rfl rfl rfl) ⟨by omega, by omega, by simp; omega, last.set ((last.length : Int) - 1).toNat 3, ?_, by simp; omega, ?_⟩ (by simp only; omega)
          · rw [hv, g4]
            simp only [Lay.d_n, List.length_map, List.map_set]
          · rw [hen]
            exact g6
      case f1 =>
        have hk : turnN (L.getD i.toNat row0).name = 4 := by
          simp only [decide_eq_true_eq, decide_eq_false_iff_not] at *
          simp only [turnN]
          simp_all
        rw [hk] at g6
        refine x_if (fun h7 => ?_) (fun h7 => ?_)
        · have h8 : (en.length : Int) = 0 := of_decide_eq_true h7
          have hb : bad last 4 = true := by unfold bad; rw [decide_eq_true (show (last.length : Int) = 0 by omega)]; rfl
          have e : stepR last 4 = none := by simp only [stepR]; rw [if_pos (by omega), if_pos hb]
          rw [e] at g6
          simp only at g6
          have e1 : dOut L = [] := by simp only [dOut, ← g6]; rfl
          have e2 : dErr L = 81 := by simp only [dErr, ← g6]; rfl
          rw [e1, e2]
          exact finO2n intY
        · have h8 : ¬ (en.length : Int) = 0 := of_decide_eq_false h7
          have hb : bad last 4 = false := by unfold bad; rw [decide_eq_false (show ¬ (last.length : Int) = 0 by omega)]; rfl
          have e : stepR last 4 = some ((last.set ((last.length : Int) - 1).toNat 4).take ((last.length : Int) - 1).toNat, (last.length : Int) - 1) := by
            simp only [stepR]; rw [if_pos (by omega), if_neg (by rw [hb]; simp), if_pos trivial]
          rw [e] at g6
          simp only at g6
          repeat (refine And.intro ?_ ?_; first | omega | (simp only [decide_eq_true_eq, decide_eq_false_iff_not]; simp only [Lay.d_n]; omega) | (simp [Lay.d] <;> omega))
          refine xl_cutTo tt_ok boolY en rfl rfl rfl rfl rfl rfl rfl rfl rfl rfl (by simp only [Lay.d_n]; omega) (by simp only [Lay.d_n]; omega) ?_
          refine xl_go tt_ok ?_
          refine xl_push tt_ok intY out ((en.length : Int) - 1) 8 (cs := [.int .i64 ((en.length : Int) - 1)]) rfl rfl rfl rfl rfl rfl rfl rfl rfl rfl rfl rfl (by kernel_rfl) rfl rfl rfl rfl rfl (fun n hn => by cases hn; decide) rfl rfl rfl (by first | omega | (simp; omega)) (by first | omega | (simp; omega)) ?_
          refine xl_go tt_ok ?_
          repeat (refine And.intro ?_ ?_; first | omega | (simp only [decide_eq_true_eq, decide_eq_false_iff_not]; simp only [Lay.d_n]; omega) | (simp [Lay.d] <;> omega))
          refine again (i + 1, _, _) [(3, some 7), (4, some 6)] (.of rfl rfl rfl rfl rfl rfl) ⟨by omega, by omega, by simp; omega, (last.set ((last.length : Int) - 1).toNat 4).take ((last.length : Int) - 1).toNat, ?_, by simp; omega, ?_⟩ (by simp only; omega)
          · rw [List.take_set_of_le (Nat.le_refl _), g4]
            simp only [Lay.d_n, List.length_map, List.map_take]
          · rw [hen]
            exact g6
    · have hd' : (L.getD i.toNat row0).dir = false := hd
      have hk : turnV (L.getD i.toNat row0) = 0 := by simp only [turnV]; rw [hd']; rfl
      rw [hk] at g6
      have e : stepR last 0 = some (last, (last.length : Int)) := by simp [stepR]
      rw [e] at g6
      simp only at g6
      repeat' refine x_iff (by decide) ?_
      refine xl_push tt_ok intY out (en.length : Int) 8 (cs := [.int .i64 (en.length : Int)]) rfl rfl rfl rfl rfl rfl rfl rfl rfl rfl rfl rfl (by kernel_rfl) rfl rfl rfl rfl rfl (fun n hn => by cases hn; decide) rfl rfl rfl (by omega) (by omega) ?_
      refine xl_go tt_ok ?_
      repeat (refine And.intro ?_ ?_; first | omega | (simp only [decide_eq_true_eq, decide_eq_false_iff_not]; simp only [Lay.d_n]; omega) | (simp [Lay.d] <;> omega))
      refine again (i + 1, _, _) [(3, some 6)] (.of rfl rfl rfl rfl rfl rfl) ⟨by omega, by omega, by simp; omega, last, g4, by omega, ?_⟩ (by simp only; omega)
      rw [hen]
      exact g6
  · have h2 : i = L.length := by
      have h3 : ¬ (i < (L.length : Int)) := of_decide_eq_false h
      omega
    have e : L.drop i.toNat = [] := List.drop_eq_nil_of_le (by omega)
    rw [e] at g6
    simp only [depthsFrom] at g6
    refine x_if (fun h6 => ?_) (fun h6 => ?_)
    · have h7 : 0 < (en.length : Int) := of_decide_eq_true h6
      rw [if_pos (by omega)] at g6
      have e1 : dOut L = [] := by simp only [dOut, ← g6]; rfl
      have e2 : dErr L = 81 := by simp only [dErr, ← g6]; rfl
      rw [e1, e2]
      exact finO2n intY
    · have h7 : ¬ 0 < (en.length : Int) := of_decide_eq_false h6
      rw [if_neg (by omega)] at g6
      have e1 : dOut L = out := by simp only [dOut, ← g6]; rfl
      have e2 : dErr L = 0 := by simp only [dErr, ← g6]; rfl
      rw [e1, e2]
      exact finO2 rfl
end Go.Proofs.Ytdonomneofdhfaa
namespace Go.Proofs.Ytdonomneofdhfaa
open Go.GV Go.RowKit
theorem key_at {L M : List RowV} (h : L.map RowV.key = M.map RowV.key) (i : Nat) : (L.getD i row0).dir = (M.getD i row0).dir ∧ (L.getD i row0).name = (M.getD i row0).name := by
  have h1 : (L.map RowV.key).getD i row0.key = (M.map RowV.key).getD i row0.key := by rw [h]
  simp only [List.getD_eq_getElem?_getD, List.getElem?_map] at h1 ⊢
  have e : ∀ o : Option RowV, (o.map RowV.key).getD row0.key = (o.getD row0).key := fun o => by cases o <;> rfl
  rw [e, e] at h1
  simpa [RowV.key] using h1
theorem same_refl (L : List Tok) (x y : Value) (w : World) (hx : SlAt (im w) x (tokY.d L)) (hy : SlAt (im w) y (tokY.d L)) (hL : L.length ≤ 9223372036854775807) :
    Calls Try.prog 28 #[x, y] w (PureP w fun v _ => v = .bool true) := by
  have := same_any L L x y w hx hy hL
  rwa [pb_true rfl] at this
set_option maxRecDepth 100000 in
theorem sameRows_any (L M : List RowV) (T : List (List Tok)) (x y : Value) (w : World) (hx : SlAt (im w) x (rowY.d L)) (hy : SlAt (im w) y (rowY.d M)) (hT : ToksAt (im w) L T) (hS : ToksAt (im w) M T)
    (hk : L.map RowV.key = M.map RowV.key) (hL : L.length ≤ 9223372036854775807) (hTL : ∀ i : Nat, (T.getD i []).length ≤ 9223372036854775807) :
    Calls Try.prog 25 #[x, y] w (PureP w fun v _ => v = .bool true) := by
  have hl : L.length = M.length := by rw [hT.1, hS.1]
  refine x_fun tt_ok Try.func25 rfl rfl [(x, rowY.d L), (y, rowY.d M)] 2 [.r 0, .r 1] rfl rfl rfl rfl (fun b hb => by simp at hb; rcases hb with rfl | rfl <;> assumption) ?_
  refine x_vc tt_ok ?_
  refine x_iff (by simp [Lay.d_n, hl]) ?_
  refine x_loop (σ := Int) (fun i => ⟨[(5, .v (.int .i64 i)), (0, .r 0), (1, .r 1)], [], [(0, .sl (rowY.d L)), (1, .sl (rowY.d M))], 2⟩)
    (fun i _ => 0 ≤ i ∧ i ≤ L.length) (fun i => (L.length - i).toNat) (fun _ => Nat.le_refl _) 0 [] (.of rfl rfl rfl rfl rfl rfl) ⟨by omega, by omega⟩ ?_
  rintro i u hu ⟨g1, g2⟩
  refine x_vc tt_ok ?_
  refine x_if (fun h => ?_) (fun h => ?_)
  · have h2 : i < L.length := of_decide_eq_true h
    obtain ⟨k1, k2⟩ := key_at hk i.toNat
    refine x_draw mix (by kernel_rfl) (xd_go tt_ok ?_)
    repeat (refine And.intro ?_ ?_; first | omega | (simp [Lay.d] <;> omega))
    refine xd_call0 (.bool true) rfl rfl rfl rfl fn28 rfl rfl
      (fun _ E w F hs => same_refl _ _ _ w (((hT.2 i.toNat (by omega)).le hu).imm hs.imm) (((hS.2 i.toNat (by omega)).le hu).imm hs.imm) (hTL _)) ?_
    refine xd_go tt_ok ?_
    refine x_draw mix (by kernel_rfl) (xd_go tt_ok ?_)
    repeat (refine And.intro ?_ ?_; first | omega | (simp only [decide_eq_true_eq, decide_eq_false_iff_not]; simp only [Lay.d_n]; omega) | (simp [Lay.d] <;> omega))
    refine x_if (fun h3 => ?_) (fun h3 => ?_)
    · rw [show (L.getD i.toNat rowY.dft).dir = (M.getD i.toNat rowY.dft).dir from k1, show (L.getD i.toNat rowY.dft).name = (M.getD i.toNat rowY.dft).name from k2] at h3
      simp at h3
    · repeat (refine And.intro ?_ ?_; first | omega | (simp only [decide_eq_true_eq, decide_eq_false_iff_not]; simp only [Lay.d_n]; omega) | (simp [Lay.d] <;> omega))
      exact again (i + 1) [] (.of rfl rfl rfl rfl rfl rfl) ⟨by omega, by omega⟩ (by omega)
  · exact fin1 (fun _ _ => rfl)
theorem turn_key {r r' : RowV} (h : r.key = r'.key) : turnV r = turnV r' := by
  simp only [RowV.key, Prod.mk.injEq] at h
  simp only [turnV, h.1, h.2]
theorem depths_key : ∀ {L L' : List RowV} (last out : List Int), L.map RowV.key = L'.map RowV.key → depthsFrom last out L = depthsFrom last out L'
  | [], [], _, _, _ => rfl
  | [], _ :: _, _, _, h => by simp at h
  | _ :: _, [], _, _, h => by simp at h
  | r :: L, r' :: L', last, out, h => by
    simp only [List.map_cons, List.cons.injEq] at h
    simp only [depthsFrom, turn_key h.1]
    split
    · rfl
    · exact depths_key _ _ h.2
theorem dOut_length : ∀ (L : List RowV) (last out o : List Int), depthsFrom last out L = some o → o.length = out.length + L.length
  | [], last, out, o, h => by
    simp only [depthsFrom] at h
    split at h
    · cases h
    · cases h; simp
  | r :: L, last, out, o, h => by
    simp only [depthsFrom] at h
    split at h
    · cases h
    · have := dOut_length L _ _ _ h
      simp at this ⊢
      omega
theorem dOut_le (L : List RowV) : (dOut L).length ≤ L.length := by
  unfold dOut
  cases h : depthsFrom [] [] L with
  | none => simp
  | some o => have := dOut_length L [] [] o h; simp at this ⊢; omega
end Go.Proofs.Ytdonomneofdhfaa
namespace Go.GV
open Go.RowKit
theorem xl_useG {C : Cx} {all l : List Oper} {Q : Post} {kn : Kn} {gk : List (Nat × (Gd × SV))} {ow : Own} {nx : Nat} {u : Im} (t : Nat) {x : Nat} {b : Bool} {s : SV}
    (h1 : look gk t = some ([(x, b)], s)) (h2 : look gk x = none) (h3 : look kn x = some (.v (.bool b)))
    (h : XL C all l Q ⟨(t, s) :: kn, forgetG t gk, ow, nx⟩ u) : XL C all l Q ⟨kn, gk, ow, nx⟩ u := by
  unfold XL at h ⊢
  intro E a w hok
  have hg : gs a.tmps [(x, b)] := by
    intro y hy
    rw [List.mem_singleton.1 hy]
    exact hok.agr.kn x _ h2 h3
  have hf := look_forgetG (d := t) (gk := gk)
  refine h E a w ⟨⟨hok.agr.size, fun d s' k1 k2 => ?_, fun d g s' k1 => ?_, fun d s' k2 => ?_, fun d g s' k1 => ?_⟩, hok.sat⟩
  · rw [look_cons] at k2
    split at k2
    · rename_i e; subst e; cases k2; exact (hok.agr.gk _ _ _ h1).1 hg
    · rename_i e
      exact hok.agr.kn _ _ (by rw [← hf.2 d (fun e' => e e'.symm)]; exact k1) k2
  · by_cases e : d = t
    · subst e
      have k1 : look (forgetG d gk) d = some (g, s') := k1
      rw [hf.1] at k1; cases k1
    · exact hok.agr.gk _ _ _ (by rw [← hf.2 d e]; exact k1)
  · rw [look_cons] at k2
    split at k2
    · rename_i e; subst e; cases k2; exact hok.agr.glt _ _ _ h1 hg
    · exact hok.agr.klt _ _ k2
  · by_cases e : d = t
    · subst e
      have k1 : look (forgetG d gk) d = some (g, s') := k1
      rw [hf.1] at k1; cases k1
    · exact hok.agr.glt _ _ _ (by rw [← hf.2 d e]; exact k1)
end Go.GV
namespace Go.Proofs.Ytdonomneofdhfaa
open Go.GV Go.RowKit
theorem fixS_len : ∀ L : List PV, (fixS L).length = L.length
  | [] => rfl
  | _ :: _ => rfl
theorem fixS_prt {L : List PV} (h : ∀ t ∈ L, t.prt = .slice none 0 0) : ∀ t ∈ fixS L, t.prt = .slice none 0 0 := by
  cases L with
  | nil => intro t ht; cases ht
  | cons x r =>
    intro t ht
    rcases List.mem_cons.1 ht with rfl | ht
    · exact h x (List.mem_cons_self ..)
    · exact h t (List.mem_cons_of_mem _ ht)
theorem ofT_prt {L : List Tok} : ∀ t ∈ L.map ofT, t.prt = .slice none 0 0 := fun t ht => by
  obtain ⟨x, _, rfl⟩ := List.mem_map.1 ht
  rfl
structure MSm (m : MT) (n : Nat) : Prop where
  ps : m.ps.length ≤ n
  body : m.body.length ≤ n
  prt : ∀ t ∈ m.body, t.prt = .slice none 0 0
theorem m0_sm (n : Nat) : MSm m0 n := ⟨Nat.zero_le _, Nat.zero_le _, fun t ht => by cases ht⟩
theorem defB_sm {nm : ByteArray} {fn va : Bool} {ps : List ByteArray} {l : List Tok} {n : Nat} (h1 : ps.length ≤ n) (h2 : l.length ≤ n) : MSm (defB nm fn ps va l).1 n := by
  unfold defB
  split
  · exact ⟨h1, by rw [fixS_len, List.length_map]; exact h2, fixS_prt ofT_prt⟩
  · exact m0_sm n
theorem defR_sm (L : List Tok) : MSm (defR L).1 L.length := by
  unfold defR
  split
  · exact m0_sm _
  · split
    · rename_i h
      rw [Bool.and_eq_true, decide_eq_true_eq] at h
      have pl := paramsR_le (L.drop 1) (by omega)
      rw [List.length_drop] at pl
      split
      · split
        · exact defB_sm (by omega) (by rw [List.length_drop, List.length_drop]; omega)
        · exact m0_sm _
      · exact m0_sm _
    · exact defB_sm (Nat.zero_le _) (by rw [List.length_drop]; omega)
def noP (m : MT) : List (List ByteArray) := List.replicate m.body.length []
theorem nil_slAt (u : Im) : SlAt u (.slice none 0 0) (strY.d []) := ⟨none, 0, rfl, Nat.le_refl _, by decide, fun h => by cases h⟩
theorem noP_at {m : MT} {n : Nat} (h : MSm m n) (u : Im) : PartsAt u m.body (noP m) := by
  refine ⟨by simp [noP], fun i hi => ?_⟩
  have h1 := h.prt (m.body.getD i pv0) (by rw [List.getD_eq_getElem?_getD, List.getElem?_eq_getElem hi]; exact List.getElem_mem hi)
  rw [h1]
  have : (noP m).getD i [] = [] := by
    unfold noP
    simp [List.getD_eq_getElem?_getD, List.getElem?_replicate, hi]
  rw [this]
  exact nil_slAt u
theorem noP_sm (m : MT) : prtSm (noP m) := fun i => by
  unfold noP
  rw [List.getD_eq_getElem?_getD, List.getElem?_replicate]
  split <;> simp
theorem ofT_parts (L : List Tok) (u : Im) : PartsAt u (L.map ofT) (List.replicate L.length []) := by
  refine ⟨by simp, fun i hi => ?_⟩
  have h1 := ofT_prt (L := L) ((L.map ofT).getD i pv0) (by rw [List.getD_eq_getElem?_getD, List.getElem?_eq_getElem hi]; exact List.getElem_mem hi)
  rw [h1]
  rw [List.length_map] at hi
  have : (List.replicate L.length ([] : List ByteArray)).getD i [] = [] := by
    simp [List.getD_eq_getElem?_getD, List.getElem?_replicate, hi]
  rw [this]
  exact nil_slAt u
theorem rep_sm (n : Nat) : prtSm (List.replicate n []) := fun i => by
  rw [List.getD_eq_getElem?_getD, List.getElem?_replicate]
  split <;> simp
theorem mSame_refl (m : MT) (T : List (List ByteArray)) : mSame m m T T = true := by simp [mSame]
theorem star_at {E : Env} {o : GV.Own} {nx : Nat} {u : Im} {df : List Deferred} {w : World} {f : Nat → Nat → Prop} (h : Sat E o nx u df w f) {k : Nat} {m : MT} {s : MA} {n : Nat} (hk : GV.look o k = some (GV.Rs.gen (starHp (mStar m s)))) (hm : MSm m n) (hn : n ≤ 9223372036854775806) :
    MAt (im w) m (noP m) s :=
  ⟨h.starAt (i := 0) hk rfl, h.starAt (i := 1) hk rfl, noP_at hm _, Nat.le_trans hm.ps hn, Nat.le_trans hm.body hn, noP_sm m⟩
def wOver : ByteArray := ⟨#[119, 114, 105, 116, 116, 101, 110, 32, 111, 118, 101, 114]⟩
set_option maxHeartbeats 4000000 in
set_option maxRecDepth 100000 in
theorem macroDefines_any (L : List Tok) (A : Option Addr) (c : Nat) (w : World) (hx : SlAt (im w) (.slice A L.length c) (tokY.d L)) (hL : L.length * 48 ≤ 140737488355328) (zL : ∀ t ∈ L, t.text.size ≤ maxLen) :
    Calls Try.prog 4 #[.slice A L.length c] w (PureP w fun v _ => v = .bool true) := by
  obtain ⟨r, hr⟩ : ∃ r, r = defR L := ⟨_, rfl⟩
  have hsm : MSm r.1 L.length := by rw [hr]; exact defR_sm L
  refine x_fun tt_ok Try.func4 rfl rfl [(.slice A L.length c, tokY.d L)] 1 [.r 0] rfl rfl rfl rfl (fun b hb => by simp at hb; subst hb; exact hx) ?_
  refine x_vc tt_ok ?_
  refine xl_empty tt_ok tokY rfl rfl rfl rfl rfl rfl rfl ?_
  refine xl_go tt_ok ?_
  refine xl_append tt_ok tokY [] L 48 rfl rfl rfl rfl rfl rfl rfl rfl (by kernel_rfl) rfl rfl rfl (fun E w F hs => hs.slAt (k := 0) rfl) tokOne rfl (by simp; omega) (by simp; omega) ?_
  refine xl_go tt_ok ?_
  refine xl_callStar (fun s : MA => .tuple #[mVal r.1 s, .int .i64 r.2]) (fun s => mStar r.1 s) (fun _ => True) rfl rfl rfl rfl fn29 rfl rfl
    (fun E w F hs => by
      have h1 := hs.rowAt (k := 2) rfl
      obtain ⟨A, c, hv⟩ := h1.form
      show Calls Try.prog 29 #[E 2] w _
      rw [hv] at h1 ⊢
      rw [hr]
      exact define_any L A c w h1 (by omega) zL) (fun s _ => ?_)
  refine xl_go tt_ok ?_
  refine xl_callStar (fun s : MA => .tuple #[mVal r.1 s, .int .i64 r.2]) (fun s => mStar r.1 s) (fun _ => True) rfl rfl rfl rfl fn30 rfl rfl
    (fun E w F hs => by
      have h1 := hs.slAt (k := 0) rfl
      obtain ⟨A, c, hv⟩ := h1.form
      show Calls Try.prog 30 #[E 0] w _
      rw [hv] at h1 ⊢
      rw [hr]
      exact refDefine_any L A c w h1 (by omega)) (fun s' _ => ?_)
  refine xl_go tt_ok ?_
  refine xl_callO 46 (pvY.d (L.map ofT)) rfl rfl rfl rfl fn31 rfl rfl (fun E w F hs => of_any L _ w (hs.rowAt (k := 2) rfl) (by omega)) ?_
  refine xl_go tt_ok ?_
  have hz : L.length ≤ 9223372036854775806 := by omega
  refine x_via (σ := Unit) (fun _ => ⟨[(51, .v (.bool false)), (8, .r 7), (4, .p 4 0), (3, .r 2), (0, .r 0)], [],
      [(7, .row 46 (pvY.d (L.map ofT))), (4, .box 36 [.v (.string r.1.name), .v (.bool r.1.fn), .v (.slice s.1 r.1.ps.length s.2.1), .v (.bool r.1.va), .v (.slice s.2.2.1 r.1.body.length s.2.2.2)]), (3, .gen (starHp (mStar r.1 s))), (2, .row 31 (tokY.d L)), (0, .sl (tokY.d L))], 8⟩)
    (fun _ _ => True) (fun _ => by show 8 ≤ 8; omega) ?_ ?_
  · refine x_drawA mix ?_
    refine xa_phase tt_ok (fuel := 6) [0, 1, 2, 3, 4, 5, 6, 7, 8, 9, 10, 11, 12, 13, 14, 15, 16, 17, 18] rfl (by kernel_rfl) (by kernel_rfl) (by kernel_rfl) (phaseB_of 18 (by kernel_rfl)) ?_
    refine xd_go tt_ok ?_
    refine xd_call0 (.bool (mSame r.1 r.1 (noP r.1) (noP r.1))) rfl rfl rfl rfl fn32 rfl rfl (fun _ E w F hs => refSame_any r.1 r.1 _ _ s s' w (star_at hs (k := 3) rfl hsm hz) (star_at hs (k := 5) rfl hsm hz)) ?_
    refine xd_go tt_ok ?_
    refine xd_call0 (.bool (mSame r.1 r.1 (noP r.1) (noP r.1))) rfl rfl rfl rfl fn33 rfl rfl (fun _ E w F hs => macroSame_any r.1 r.1 _ _ s s' w (star_at hs (k := 3) rfl hsm hz) (star_at hs (k := 5) rfl hsm hz)) ?_
    refine xd_go tt_ok ?_
    refine xd_call0 (.bool (mSame r.1 r.1 (noP r.1) (noP r.1))) rfl rfl rfl rfl fn32 rfl rfl (fun _ E w F hs => refSame_any r.1 r.1 _ _ s s' w (star_at hs (k := 3) rfl hsm hz) (star_at hs (k := 5) rfl hsm hz)) ?_
    refine xd_go tt_ok ?_
    refine xa_pures tt_ok (fuel := 4) [19, 20] rfl (by kernel_rfl) (by kernel_rfl) (fun _ _ _ hh => hh) (by kernel_rfl) (by kernel_rfl) ?_
    refine xa_one 21 (by kernel_rfl) rfl ?_
    refine xl_eqv 45 (.bool false) rfl ?_ ?_
    · show Value.bool ((!mSame r.1 r.1 (noP r.1) (noP r.1) || decide (r.2 ≠ r.2)) || decide (mSame r.1 r.1 (noP r.1) (noP r.1) ≠ mSame r.1 r.1 (noP r.1) (noP r.1))) = .bool false
      rw [mSame_refl]; simp
    refine xl_useG 46 rfl rfl rfl ?_
    refine xl_useG 47 rfl rfl rfl ?_
    refine xl_dropG rfl ?_
    refine xl_want rfl rfl rfl rfl rfl ?_
    refine xl_callO 46 (pvY.d (L.map ofT)) rfl rfl rfl rfl fn35 rfl rfl (fun E w F hs => refOf_any L _ w (hs.slAt (k := 0) rfl) (by omega)) ?_
    refine xl_go tt_ok ?_
    refine xa_one 22 (by kernel_rfl) rfl ?_
    refine xl_want rfl rfl rfl rfl rfl ?_
    refine xl_call0 (.bool true) rfl rfl rfl rfl fn34 rfl rfl (fun E w F hs => by
      have h1 := hs.rowAt (k := 7) rfl
      have h2 := hs.rowAt (k := 8) rfl
      have := sameToks_any (L.map ofT) (L.map ofT) (List.replicate L.length []) (List.replicate L.length []) _ _ w h1 h2 (ofT_parts L _) (ofT_parts L _) (rep_sm _) (by rw [List.length_map]; omega)
      rw [decide_eq_true rfl] at this
      exact this) ?_
    refine xl_go tt_ok ?_
    refine xa_one 23 (by kernel_rfl) rfl ?_
    refine xl_want rfl rfl rfl rfl rfl ?_
    refine xl_go tt_ok ?_
    refine xa_one 24 (by kernel_rfl) rfl (xl_go tt_ok ?_)
    refine xa_done (by kernel_rfl) rfl ?_
    exact meet () [(8, none)] (.of rfl rfl rfl rfl rfl rfl) trivial
  · rintro _ u4 hu4 _
    refine x_iff rfl ?_
    refine x_vc tt_ok ?_
    have hps := hsm.ps
    have hbd := hsm.body
    refine x_loop (σ := Int × List ByteArray) (fun (i, M) => ⟨[(9, .v (.int .i64 i)), (8, .r 7), (4, .p 4 0), (3, .r 2), (0, .r 0)], [],
        [(7, .row 46 (pvY.d (L.map ofT))), (4, .box 36 [.v (.string r.1.name), .v (.bool r.1.fn), .v (.slice s.1 r.1.ps.length s.2.1), .v (.bool r.1.va), .v (.slice s.2.2.1 r.1.body.length s.2.2.2)]),
          (3, .gen (starHp [⟨.slice s.1 r.1.ps.length s.2.1, 9, strY.d M⟩, ⟨.slice s.2.2.1 r.1.body.length s.2.2.2, 46, pvY.d r.1.body⟩])), (2, .row 31 (tokY.d L)), (0, .sl (tokY.d L))], 8⟩)
      (fun (i, M) _ => 0 ≤ i ∧ i ≤ M.length ∧ M.length = r.1.ps.length) (fun (i, M) => (M.length - i).toNat) (fun (_, _) => Nat.le_refl 8) (0, r.1.ps) [] (.of rfl rfl rfl rfl rfl rfl) ⟨by omega, by omega, rfl⟩ ?_
    rintro ⟨i, M⟩ u5 hu5 ⟨g1, g2, g3⟩
    refine x_vc tt_ok ?_
    refine x_if (fun h => ?_) (fun h => ?_)
    · have h : i < (r.1.ps.length : Int) := of_decide_eq_true h
      refine xl_setStar tt_ok (cs := [.string wOver]) strY M wOver 3 0 rfl rfl rfl rfl rfl rfl rfl rfl rfl rfl rfl rfl rfl rfl rfl g1 (by omega) rfl rfl (Nat.le_refl 1) (fun t ht => by cases ht) rfl rfl rfl ?_
      refine xl_go tt_ok ?_
      repeat (refine And.intro ?_ ?_; first | omega | (simp only [Lay.d_n]; omega) | (simp only [decide_eq_true_eq, decide_eq_false_iff_not, Bool.or_eq_false_iff, Bool.and_eq_true, Bool.or_eq_true, Bool.and_eq_false_iff, Bool.not_eq_true', Bool.not_eq_false', Lay.d_n]; omega) | (simp only [decide_eq_true_eq, decide_eq_false_iff_not, Bool.or_eq_false_iff, Bool.and_eq_true, Bool.or_eq_true, Bool.and_eq_false_iff, Bool.not_eq_true', Bool.not_eq_false']; omega) | (simp only [decide_eq_true_eq, decide_eq_false_iff_not, Bool.or_eq_false_iff]; simp only [Lay.d_n]; omega))
      exact again (i + 1, M.set i.toNat wOver) [(8, none)] (.of rfl rfl rfl rfl rfl rfl) ⟨by omega, by simp only [List.length_set]; omega, by simp only [List.length_set]; omega⟩ (by simp only [List.length_set]; omega)
    · refine x_vc tt_ok ?_
      refine x_loop (σ := Int × List PV) (fun (i, B) => ⟨[(10, .v (.int .i64 i)), (8, .r 7), (4, .p 4 0), (3, .r 2), (0, .r 0)], [],
          [(7, .row 46 (pvY.d (L.map ofT))), (4, .box 36 [.v (.string r.1.name), .v (.bool r.1.fn), .v (.slice s.1 r.1.ps.length s.2.1), .v (.bool r.1.va), .v (.slice s.2.2.1 r.1.body.length s.2.2.2)]),
            (3, .gen (starHp [⟨.slice s.1 r.1.ps.length s.2.1, 9, strY.d M⟩, ⟨.slice s.2.2.1 r.1.body.length s.2.2.2, 46, pvY.d B⟩])), (2, .row 31 (tokY.d L)), (0, .sl (tokY.d L))], 8⟩)
        (fun (i, B) _ => 0 ≤ i ∧ i ≤ B.length ∧ B.length = r.1.body.length) (fun (i, B) => (B.length - i).toNat) (fun (_, _) => Nat.le_refl 8) (0, r.1.body) [] (.of rfl rfl rfl rfl rfl rfl) ⟨by omega, by omega, rfl⟩ ?_
      clear h g1 g2 g3 hu5
      rintro ⟨i, B⟩ u6 hu6 ⟨g1, g2, g3⟩
      refine x_vc tt_ok ?_
      refine x_if (fun h => ?_) (fun h => ?_)
      · have h : i < (r.1.body.length : Int) := of_decide_eq_true h
        refine xl_setStar tt_ok (cs := [.int .i64 0, .string wOver, .bool false, .slice none 0 0]) pvY B ⟨0, wOver, false, none, 0, 0⟩ 3 1 rfl rfl rfl rfl rfl rfl rfl rfl rfl rfl rfl rfl rfl rfl rfl g1 (by omega) rfl rfl (Nat.le_refl 4) (fun t ht => by cases ht; decide) rfl rfl rfl ?_
        refine xl_go tt_ok ?_
        repeat (refine And.intro ?_ ?_; first | omega | (simp only [Lay.d_n]; omega) | (simp only [decide_eq_true_eq, decide_eq_false_iff_not, Bool.or_eq_false_iff, Bool.and_eq_true, Bool.or_eq_true, Bool.and_eq_false_iff, Bool.not_eq_true', Bool.not_eq_false', Lay.d_n]; omega) | (simp only [decide_eq_true_eq, decide_eq_false_iff_not, Bool.or_eq_false_iff, Bool.and_eq_true, Bool.or_eq_true, Bool.and_eq_false_iff, Bool.not_eq_true', Bool.not_eq_false']; omega) | (simp only [decide_eq_true_eq, decide_eq_false_iff_not, Bool.or_eq_false_iff]; simp only [Lay.d_n]; omega))
        exact again (i + 1, B.set i.toNat ⟨0, wOver, false, none, 0, 0⟩) [(8, none)] (.of rfl rfl rfl rfl rfl rfl) ⟨by omega, by simp only [List.length_set]; omega, by simp only [List.length_set]; omega⟩ (by simp only [List.length_set]; omega)
      · refine x_vc tt_ok ?_
        refine x_loop (σ := Int × List PV) (fun (i, B) => ⟨[(11, .v (.int .i64 i)), (8, .r 7), (3, .r 2), (0, .r 0)], [],
            [(7, .row 46 (pvY.d B)), (2, .row 31 (tokY.d L)), (0, .sl (tokY.d L))], 8⟩)
          (fun (i, B) _ => 0 ≤ i ∧ i ≤ B.length ∧ B.length = L.length) (fun (i, B) => (B.length - i).toNat) (fun (_, _) => Nat.le_refl 8) (0, L.map ofT) [] (.of rfl rfl rfl rfl rfl rfl) ⟨by omega, by omega, by simp⟩ ?_
        clear h g1 g2 g3 hu6
        rintro ⟨i, B⟩ u7 hu7 ⟨g1, g2, g3⟩
        refine x_vc tt_ok ?_
        refine x_if (fun h => ?_) (fun h => ?_)
        · have h : i < (B.length : Int) := of_decide_eq_true h
          repeat (refine And.intro ?_ ?_; first | omega | (simp only [Lay.d_n]; omega))
          refine xl_set tt_ok (off := 1) pvY B { B.getD i.toNat pv0 with text := wOver } (cs := [.string wOver]) rfl rfl rfl rfl rfl rfl rfl g1 h rfl rfl (by decide) rfl ?_
          refine xl_go tt_ok ?_
          repeat (refine And.intro ?_ ?_; first | omega | (simp only [Lay.d_n]; omega))
          exact again (i + 1, B.set i.toNat { B.getD i.toNat pv0 with text := wOver }) [] (.of rfl rfl rfl rfl rfl rfl) ⟨by omega, by simp only [List.length_set]; omega, by simp only [List.length_set]; omega⟩ (by simp only [List.length_set]; omega)
        · refine xl_call0 (.bool true) rfl rfl rfl rfl fn28 rfl rfl (fun E w F hs => same_refl L _ _ w (hs.rowAt (k := 2) rfl) (hs.slAt (k := 0) rfl) (by omega)) ?_
          refine xl_go tt_ok ?_
          exact fin1 (fun _ _ => rfl)
end Go.Proofs.Ytdonomneofdhfaa
namespace Go.Proofs.Ytdonomneofdhfaa
open Go.GV Go.RowKit
section
variable {H : Type} {enc : TypeId × Value → H} {w : World}
def tokAt (u : Im) (x : Value) (i : Int) : Tok := ⟨vInt (cellAt u x 5 i 0), vStr (cellAt u x 5 i 1), vInt (cellAt u x 5 i 2), vInt (cellAt u x 5 i 3), vBool (cellAt u x 5 i 4)⟩
def toksAt (u : Im) (x : Value) : List Tok := (List.range (vN x)).map fun i : Nat => tokAt u x i
theorem toksAt_getD (u : Im) (x : Value) {i : Nat} (h : i < vN x) : (toksAt u x).getD i tok0 = tokAt u x i := by
  rw [List.getD_eq_getElem?_getD]
  simp [toksAt, h]
theorem open_toks {x : Value} (h : Tr enc Try.prog w 22 [x]) : SlAt (im w) x (tokY.d (toksAt (im w) x)) := by
  obtain ⟨A, n, c, h1, h2, h3, h4⟩ := h.slice Try.underlying22 (by kernel_rfl : _ = 5)
  have hn : vN x = n := by rw [h1]; rfl
  refine h3.ext (by simp [dataAt, Lay.d, toksAt, hn]) rfl fun i hi j f f' hf hf' => ?_
  have hi' : i < n := hi
  obtain ⟨_, hc⟩ := (h4 i (by omega) (by omega)).strct Try.underlying31 (by kernel_rfl)
  have hg := toksAt_getD (im w) x (i := i) (by omega)
  obtain ⟨k0, e0, _⟩ := (hc 0 _ _ rfl rfl).int Try.underlying3
  obtain ⟨k1, e1, _⟩ := (hc 1 _ _ rfl rfl).str Try.underlying9
  obtain ⟨k2, e2, _⟩ := (hc 2 _ _ rfl rfl).int Try.underlying3
  obtain ⟨k3, e3, _⟩ := (hc 3 _ _ rfl rfl).int Try.underlying3
  obtain ⟨k4, e4⟩ := (hc 4 _ _ rfl rfl).bool Try.underlying4
  simp only [List.cons.injEq, and_true] at e0 e1 e2 e3 e4
  have hg' : (toksAt (im w) x).getD (i : Int).toNat tok0 = tokAt (im w) x i := hg
  match j, hf, hf' with
  | 0, hf, hf' =>
    cases hf; cases hf'
    show cellAt (im w) x 5 i 0 = .int .i64 ((toksAt (im w) x).getD (i : Int).toNat tok0).kind
    rw [hg']; simp only [tokAt, e0, vInt]
  | 1, hf, hf' =>
    cases hf; cases hf'
    show cellAt (im w) x 5 i 1 = .string ((toksAt (im w) x).getD (i : Int).toNat tok0).text
    rw [hg']; simp only [tokAt, e1, vStr]
  | 2, hf, hf' =>
    cases hf; cases hf'
    show cellAt (im w) x 5 i 2 = .int .i64 ((toksAt (im w) x).getD (i : Int).toNat tok0).lo
    rw [hg']; simp only [tokAt, e2, vInt]
  | 3, hf, hf' =>
    cases hf; cases hf'
    show cellAt (im w) x 5 i 3 = .int .i64 ((toksAt (im w) x).getD (i : Int).toNat tok0).hi
    rw [hg']; simp only [tokAt, e3, vInt]
  | 4, hf, hf' =>
    cases hf; cases hf'
    show cellAt (im w) x 5 i 4 = .bool ((toksAt (im w) x).getD (i : Int).toNat tok0).space
    rw [hg']; simp only [tokAt, e4, vBool]
  | j + 5, hf, hf' => simp [Lay.d] at hf'
theorem toksAt_length (u : Im) (x : Value) : (toksAt u x).length = vN x := by simp [toksAt]
def rowAt (u : Im) (x : Value) (i : Int) : RowV :=
  ⟨vBool (cellAt u x 3 i 0), vStr (cellAt u x 3 i 1), vA (cellAt u x 3 i 2), vN (cellAt u x 3 i 2), vC (cellAt u x 3 i 2)⟩
def rowsAt (u : Im) (x : Value) : List RowV := (List.range (vN x)).map fun i : Nat => rowAt u x i
def rowToksAt (u : Im) (x : Value) : List (List Tok) := (List.range (vN x)).map fun i : Nat => toksAt u (cellAt u x 3 i 2)
theorem rowsAt_length (u : Im) (x : Value) : (rowsAt u x).length = vN x := by simp [rowsAt]
theorem rowsAt_getD (u : Im) (x : Value) {i : Nat} (h : i < vN x) : (rowsAt u x).getD i row0 = rowAt u x i := by
  rw [List.getD_eq_getElem?_getD]
  simp [rowsAt, h]
theorem rowToksAt_getD (u : Im) (x : Value) {i : Nat} (h : i < vN x) : (rowToksAt u x).getD i [] = toksAt u (cellAt u x 3 i 2) := by
  rw [List.getD_eq_getElem?_getD]
  simp [rowToksAt, h]
theorem open_toksZ {x : Value} (h : TrZ enc Try.prog w 22 [x]) : ∃ A n c, x = .slice A n c ∧ SlAt (im w) x (tokY.d (toksAt (im w) x)) ∧ n * 48 ≤ 140737488355328 := by
  obtain ⟨A, n, c, h1, _, h2, _, _⟩ := h.slice Try.underlying22 (by kernel_rfl : _ = 5)
  have hb : Try.prog.bytesOf 31 = 48 := by kernel_rfl
  rw [hb] at h2
  exact ⟨A, n, c, h1, open_toks h.tr, h2⟩
theorem open_rows {x : Value} (h : TrZ enc Try.prog w 23 [x]) : SlAt (im w) x (rowY.d (rowsAt (im w) x)) ∧ ToksAt (im w) (rowsAt (im w) x) (rowToksAt (im w) x) ∧
    (rowsAt (im w) x).length * 48 ≤ 140737488355328 ∧ ∀ i : Nat, ((rowToksAt (im w) x).getD i []).length * 48 ≤ 140737488355328 := by
  obtain ⟨A, n, c, h1, h2, hz, h3, h4⟩ := h.slice Try.underlying23 (by kernel_rfl : _ = 3)
  have hn : vN x = n := by rw [h1]; rfl
  have cell : ∀ i : Nat, i < n → (∃ b, cellAt (im w) x 3 i 0 = .bool b) ∧ (∃ s, cellAt (im w) x 3 i 1 = .string s) ∧ TrZ enc Try.prog w 22 [cellAt (im w) x 3 i 2] := by
    intro i hi
    obtain ⟨_, hc⟩ := (h4 i (by omega) (by omega)).strct Try.underlying28 (by kernel_rfl)
    obtain ⟨k0, e0⟩ := (hc 0 _ _ rfl rfl).tr.bool Try.underlying4
    obtain ⟨k1, e1, _⟩ := (hc 1 _ _ rfl rfl).tr.str Try.underlying9
    exact ⟨⟨k0, by simpa using e0⟩, ⟨k1, by simpa using e1⟩, hc 2 _ _ rfl rfl⟩
  have htok : ∀ i : Nat, i < n → (rowAt (im w) x i).toks = cellAt (im w) x 3 i 2 := fun i hi => by
    obtain ⟨_, _, hp⟩ := cell i hi
    obtain ⟨A', n', c', e, _⟩ := open_toksZ hp
    simp only [RowV.toks, rowAt, e, vA, vN, vC]
  refine ⟨?_, ⟨by simp [rowsAt, rowToksAt], fun i hi => ?_⟩, ?_, fun i => ?_⟩
  · refine h3.ext (by simp [dataAt, Lay.d, rowsAt, hn]) rfl fun i hi j f f' hf hf' => ?_
    have hi' : i < n := hi
    have hg : (rowsAt (im w) x).getD (i : Int).toNat row0 = rowAt (im w) x i := rowsAt_getD (im w) x (i := i) (by omega)
    obtain ⟨⟨b, hb⟩, ⟨s, hs⟩, hp⟩ := cell i hi'
    match j, hf, hf' with
    | 0, hf, hf' =>
      cases hf; cases hf'
      show cellAt (im w) x 3 i 0 = .bool ((rowsAt (im w) x).getD (i : Int).toNat row0).dir
      rw [hg]; simp only [rowAt, hb, vBool]
    | 1, hf, hf' =>
      cases hf; cases hf'
      show cellAt (im w) x 3 i 1 = .string ((rowsAt (im w) x).getD (i : Int).toNat row0).name
      rw [hg]; simp only [rowAt, hs, vStr]
    | 2, hf, hf' =>
      cases hf; cases hf'
      show cellAt (im w) x 3 i 2 = ((rowsAt (im w) x).getD (i : Int).toNat row0).toks
      rw [hg, htok i hi']
    | j + 3, hf, hf' => simp [Lay.d] at hf'
  · rw [rowsAt_length, hn] at hi
    rw [rowsAt_getD _ _ (by omega), rowToksAt_getD _ _ (by omega), htok i hi]
    obtain ⟨_, _, hp⟩ := cell i hi
    obtain ⟨A', n', c', e, e2, _⟩ := open_toksZ hp
    exact e2
  · rw [rowsAt_length, hn]
    have hb : Try.prog.bytesOf 28 = 48 := by kernel_rfl
    rw [hb] at hz
    exact hz
  · rcases Nat.lt_or_ge i n with hi | hi
    · obtain ⟨_, _, hp⟩ := cell i hi
      obtain ⟨A', n', c', e, e2, e3⟩ := open_toksZ hp
      rw [rowToksAt_getD _ _ (by omega), toksAt_length, e]
      exact e3
    · have : (rowToksAt (im w) x).getD i [] = [] := by
        rw [List.getD_eq_getElem?_getD, List.getElem?_eq_none (by simp [rowToksAt]; omega)]; rfl
      rw [this]; simp
end
end Go.Proofs.Ytdonomneofdhfaa
namespace Go.Proofs.Ytdonomneofdhfaa
open Go.GV Go.RowKit
theorem open_toksS {H : Type} {enc : TypeId × Value → H} {w : World} {x : Value} (h : TrZ enc Try.prog w 22 [x]) : ∀ t ∈ toksAt (im w) x, t.text.size ≤ 140737488355328 := by
  obtain ⟨A, n, c, h1, h2, hz, h3, h4⟩ := h.slice Try.underlying22 (by kernel_rfl : _ = 5)
  have hn : vN x = n := by rw [h1]; rfl
  intro t ht
  obtain ⟨i, hi, rfl⟩ := List.mem_map.1 ht
  have hi := List.mem_range.1 hi
  obtain ⟨_, hc⟩ := (h4 i (by omega) (by omega)).strct Try.underlying31 (by kernel_rfl)
  obtain ⟨s, e1, e2⟩ := (hc 1 _ _ rfl rfl).str Try.underlying9
  have e3 : cellAt (im w) x 5 (i : Int) 1 = .string s := by simpa using e1
  show (vStr (cellAt (im w) x 5 (i : Int) 1)).size ≤ _
  rw [e3]
  exact e2
end Go.Proofs.Ytdonomneofdhfaa
namespace Go.Proofs.Ytdonomneofdhfaa
open Go.ChangeShapes Go.WideShapes Go.ChangeAt Go.RowKit Go.GV
theorem own : ownKnob Try.prog.godebug = none := by kernel_rfl
theorem laidOut : laidOutB Try.prog = true := by kernel_rfl
theorem fMaps : mapsRowed Try.prog = true := by kernel_rfl
theorem fHeard : Try.prog.stopsHeard = true := by kernel_rfl
theorem fEnter : Try.prog.mayEnter = true := by kernel_rfl
theorem fLifts : (Rows.linesTellsRow.lifted == Try.prog.liftsFinal) = true := by kernel_rfl
theorem fMake : (Try.prog.make == some Rows.linesTellsRow.make) = true := by kernel_rfl
theorem jmk {a0 a1 a2 a3 a4 a5 a6 a7 a8 a9 a10 a11 a12 a13 a14 a15 a16 a17 a18 a19 a20 a21 a22 a23 a24 a25 a26 a27 a28 a29 a30 a31 : Bool} (h0 : a0 = true) (h1 : a1 = true) (h2 : a2 = true) (h3 : a3 = true) (h4 : a4 = true) (h5 : a5 = true) (h6 : a6 = true) (h7 : a7 = true) (h8 : a8 = true) (h9 : a9 = true) (h10 : a10 = true) (h11 : a11 = true) (h12 : a12 = true) (h13 : a13 = true) (h14 : a14 = true) (h15 : a15 = true) (h16 : a16 = true) (h17 : a17 = true) (h18 : a18 = true) (h19 : a19 = true) (h20 : a20 = true) (h21 : a21 = true) (h22 : a22 = true) (h23 : a23 = true) (h24 : a24 = true) (h25 : a25 = true) (h26 : a26 = true) (h27 : a27 = true) (h28 : a28 = true) (h29 : a29 = true) (h30 : a30 = true) (h31 : a31 = true) :
    (a0 && a1 && a2 && a3 && a4 && a5 && a6 && a7 && a8 && a9 && a10 && a11 && a12 && a13 && a14 && a15 && a16 && a17 && a18 && a19 && a20 && a21 && a22 && a23 && a24 && a25 && a26 && a27 && a28 && a29 && a30 && a31) = true := by simp only [h0, h1, h2, h3, h4, h5, h6, h7, h8, h9, h10, h11, h12, h13, h14, h15, h16, h17, h18, h19, h20, h21, h22, h23, h24, h25, h26, h27, h28, h29, h30, h31, Bool.and_self]
end Go.Proofs.Ytdonomneofdhfaa
namespace Go.Proofs.Ytdonomneofdhfaa
open Go.ChangeShapes Go.WideShapes Go.ChangeAt Go.RowKit Go.GV
set_option maxRecDepth 100000 in
theorem lifted (os : Os) (started : os.Started) (H : Type) (enc : TypeId × Value → H) :
    ReturnsInHanded {} Try.checked os 4 .any (Rows.macroDefinesSpec.pre6 enc Try.prog Try.f4 Rows.macroDefinesRow.domain false) (Rows.macroDefinesSpec.post enc Try.prog Try.f4 false true false false) := by
  refine returnsInHanded_of_change_sized (C := Try.checked) own started (by kernel_rfl) Try.func4
    (ChangeSpec.witness6 (enc := enc) (C := Try.checked) false ⟨#[], #[.slice none 0 0], []⟩ 8 (by kernel_rfl) (by kernel_rfl) (by kernel_rfl) (by kernel_rfl)) ?_
  intro W base args ds gs before hval0 hW hcnd hz _
  have hval : ∀ (j : Nat) t v, Try.f4.params[j]? = some t → args[j]? = some v → Value.okWide Try.prog W .any base t v := hval0
  have hW' := hW
  obtain ⟨p, q, hA0, hV, rfl, hfz, hnd⟩ := hW
  have hA : DataW.TrodAll enc Try.prog W 0 (fun _ => true) true Try.f4.params.toList args.toList ds p := hA0
  rw [Try.params4] at hA hval hz
  obtain ⟨v0, vs0, d0, ds0, p0, q0, hargs, rfl, rfl, h0, r0⟩ := trodAll_cons hA
  obtain ⟨rfl, rfl, rfl⟩ := trodAll_nil r0
  obtain rfl : args = #[v0] := by cases args; simp_all
  obtain ⟨rfl, rfl⟩ := trodVars_none hV
  obtain ⟨a0, len0, cap0, rfl⟩ := okWide_slice Try.underlying22 (hval 0 22 v0 rfl rfl)
  have lt0 : ∀ x ∈ p0, x.block < W.heap.size := by obtain ⟨m, hm⟩ := h0; exact DataW.trod_lt m _ _ _ hm
  obtain ⟨A', n', c', e', o1, o2⟩ := open_toksZ (TrZ.of (j := 0) hz rfl rfl h0)
  have o3 : len0 * Try.prog.bytesOf 31 ≤ 140737488351232 := (TrZ.of (j := 0) hz rfl rfl h0).bytes Try.underlying22
  rw [show Try.prog.bytesOf 31 = 48 by kernel_rfl] at o3
  have o4 := open_toksS (TrZ.of (j := 0) hz rfl rfl h0)
  have key : Calls Try.prog 4 #[.slice a0 len0 cap0] W (PureP W fun v _ => v = .bool true) := by
    have h := macroDefines_any (toksAt (im W) (.slice a0 len0 cap0)) a0 cap0 W
    rw [show (toksAt (im W) (.slice a0 len0 cap0)).length = len0 from toksAt_length _ _] at h
    exact h o1 (by omega) (fun t ht => Nat.le_trans (o4 t ht) (by decide))
  clear hA0 hval0
  refine (key).mono fun e W' ⟨v, he, bel, hv⟩ => ?_
  subst he hv
  exact ⟨_, rfl, _, _, _, [], _, [], hW', trodAll_mk1 (shut_bool Try.underlying4 _), (trodAll_cons_mk (Below.trod laidOut (by kernel_rfl) (of_decide_eq_true (by kernel_rfl)) h0 bel lt0) trodAll_mk0), rfl, bel.frame _, fun h => by cases h⟩
theorem c9 : (Rows.macroDefinesRow.inPlace == Try.prog.inPlace 4) = true := by kernel_rfl
theorem c10 : (Rows.macroDefinesRow.unfollowed == Try.prog.unfollowed 4) = true := by kernel_rfl
theorem c11 : (Rows.macroDefinesRow.recurses == Try.prog.recurses 4) = true := by kernel_rfl
theorem c12 : (Rows.macroDefinesRow.named == Try.prog.varsNamed 4) = true := by kernel_rfl
theorem closed : joinedFacts Try.prog 4 Try.f4 Rows.macroDefinesSpec Rows.macroDefinesRow = true :=
  jmk (by kernel_rfl) laidOut fMaps (by kernel_rfl) (by kernel_rfl) (by kernel_rfl) (by kernel_rfl) (by kernel_rfl) (by kernel_rfl) c9 c10 c11 c12 (by kernel_rfl) (by kernel_rfl) (by kernel_rfl) (by kernel_rfl) (by kernel_rfl) (by kernel_rfl) (by kernel_rfl) (by kernel_rfl) (by kernel_rfl) (by kernel_rfl) (by kernel_rfl) fHeard fEnter fLifts fMake (by kernel_rfl) (by kernel_rfl) (by kernel_rfl) (by kernel_rfl)
theorem named : Try.prog.funcNamed Rows.macroDefinesRow.func = some 4 := by kernel_rfl
theorem inst : Try.f4.isInstance Try.prog Rows.macroDefinesRow.origin Rows.macroDefinesRow.targs := of_decide_eq_true (by kernel_rfl)
theorem wrap : Try.f4.isWrapper Try.prog Rows.macroDefinesRow.wrapper Rows.macroDefinesRow.mainSum := by unfold Func.isWrapper; first | (rw [if_pos (by decide +kernel)]; kernel_rfl) | (rw [if_neg (by decide +kernel)]; exact ⟨rfl, rfl⟩)
theorem over : Rows.macroDefinesRow.holds Try.pinned (OpenSpec.ofChange Rows.macroDefinesSpec) :=
  OpenClaim.holds_of_wide 4 Try.f4 rfl rfl rfl rfl rfl rfl rfl ⟨rfl, rfl, rfl, rfl, rfl⟩ rfl rfl rfl rfl rfl named Try.func4 closed inst wrap
    (fun os started H enc _ => lifted os started H enc)
theorem macroDefines_proved : Rows.MacroDefinesSaid := over
#print axioms macroDefines_proved
end Go.Proofs.Ytdonomneofdhfaa
