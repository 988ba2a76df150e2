/- The statement of LinesWraps, out of its walk: for any input the law answers true, and the input stays. -/
import Derived.Test.YtdonomneofdhfaaZA5
import Derived.Test.YtdonomneofdhfaaRows
import Derived.ProofKit
import Derived.OpenShut
import Derived.ShutString
import Derived.ChangeOld
import Derived.Below
import Derived.SizedLaws
import Derived.HandedShaped
set_option linter.unusedSimpArgs false
set_option linter.unusedVariables false
namespace Go.Proofs.Ytdonomneofdhfaa
open Go.GV Go.RowKit
theorem kt_kind {t t' : Tok} (h : kt t = kt t') : t.kind = t'.kind ∧ t.text = t'.text := by
  simp only [kt, Prod.mk.injEq] at h
  exact ⟨h.1, bl_inj h.2⟩
theorem pcs_congr : ∀ (L M : List Tok) (f i : Nat), L.map kt = M.map kt → pcs f i L = pcs f i M
  | [], [], _, _, _ => rfl
  | [], _ :: _, _, _, h => by simp at h
  | _ :: _, [], _, _, h => by simp at h
  | t :: L, t' :: M, f, i, h => by
    simp only [List.map_cons, List.cons.injEq] at h
    simp only [pcs, (kt_kind h.1).1]
    rw [pcs_congr L M _ _ h.2, pcs_congr L M _ _ h.2]
theorem dirF_congr : ∀ (m : Bool) (L M : List Tok), L.map kt = M.map kt → dirF m L = dirF m M
  | _, [], [], _ => rfl
  | _, [], _ :: _, h => by simp at h
  | _, _ :: _, [], h => by simp at h
  | m, t :: L, t' :: M, h => by
    simp only [List.map_cons, List.cons.injEq] at h
    obtain ⟨k1, k2⟩ := kt_kind h.1
    have g : gone t = gone t' := by unfold gone; rw [k1]
    have n : noHash t = noHash t' := by unfold noHash; rw [k1, k2]
    simp only [dirF, g, n, k1, k2]
    rw [dirF_congr m L M h.2, dirF_congr true L M h.2]
theorem lines_congr {L M : List Tok} (h : L.map kt = M.map kt) : (linesOf L).map (List.map kt) = (linesOf M).map (List.map kt) := by
  unfold linesOf
  rw [pcs_congr L M 0 0 h]
  simp only [List.map_map]
  refine List.map_congr_left fun p _ => ?_
  simp only [Function.comp_apply, lnOf, List.map_drop, List.map_take, h]
theorem addLine_key {s s' : List RowT × Bool} {l l' : List Tok} (h1 : s.1.map RowT.key = s'.1.map RowT.key) (h2 : s.2 = s'.2) (h : l.map kt = l'.map kt) :
    (addLine s l).1.map RowT.key = (addLine s' l').1.map RowT.key ∧ (addLine s l).2 = (addLine s' l').2 := by
  have hd := dirF_congr false l l' h
  have set_key : ∀ (R : List RowT) (ts : List Tok), (R.set (R.length - 1) { R.getD (R.length - 1) rowT0 with ts := ts }).map RowT.key = R.map RowT.key := fun R ts => by
    rw [List.map_set]
    refine List.ext_getElem? fun j => ?_
    rw [List.getElem?_set]
    by_cases hj : R.length - 1 = j
    · subst hj
      rw [if_pos rfl]
      by_cases hl : R.length - 1 < R.length
      · rw [if_pos (by simpa using hl), List.getElem?_map, List.getElem?_eq_getElem hl, List.getD_eq_getElem?_getD, List.getElem?_eq_getElem hl]; rfl
      · rw [if_neg (by simpa using hl), List.getElem?_map, List.getElem?_eq_none (by omega)]; rfl
    · rw [if_neg hj]
  unfold addLine
  rw [← hd, ← h2]
  split
  · exact ⟨by rw [set_key, set_key, h1], rfl⟩
  · exact ⟨by rw [List.map_append, List.map_append, h1]; rfl, rfl⟩
theorem fold_key : ∀ (a b : List (List Tok)) (s s' : List RowT × Bool), a.map (List.map kt) = b.map (List.map kt) → s.1.map RowT.key = s'.1.map RowT.key → s.2 = s'.2 →
    (a.foldl addLine s).1.map RowT.key = (b.foldl addLine s').1.map RowT.key
  | [], [], _, _, _, h, _ => h
  | [], _ :: _, _, _, h, _, _ => by simp at h
  | _ :: _, [], _, _, h, _, _ => by simp at h
  | l :: a, l' :: b, s, s', h, h1, h2 => by
    simp only [List.map_cons, List.cons.injEq] at h
    have := addLine_key h1 h2 h.1
    exact fold_key a b _ _ h.2 this.1 this.2
theorem rows_congr {L M : List Tok} (h : L.map kt = M.map kt) : (rowsOf L).map RowT.key = (rowsOf M).map RowT.key :=
  fold_key _ _ _ _ (lines_congr h) rfl rfl
theorem pcs_app : ∀ (L M : List Tok) (f i : Nat) (t : Tok), L.getLast? = some t → t.kind = 9 → pcs f i (L ++ M) = pcs f i L ++ pcs (i + L.length) (i + L.length) M
  | [], _, _, _, _, h, _ => by cases h
  | x :: L, M, f, i, t, h, hk => by
    simp only [List.cons_append, pcs, List.length_cons]
    cases L with
    | nil =>
      simp at h
      subst h
      rw [if_pos hk, if_pos hk]
      simp [pcs]
    | cons y L =>
      rw [List.getLast?_cons_cons] at h
      split
      · rw [pcs_app (y :: L) M (i + 1) (i + 1) t h hk, List.cons_append]
        simp only [List.length_cons]
        rw [show i + 1 + (L.length + 1) = i + (L.length + 1 + 1) by omega]
      · rw [pcs_app (y :: L) M f (i + 1) t h hk]
        simp only [List.length_cons]
        rw [show i + 1 + (L.length + 1) = i + (L.length + 1 + 1) by omega]
theorem pcs_shift (k : Nat) : ∀ (M : List Tok) (f i : Nat), pcs (k + f) (k + i) M = (pcs f i M).map fun p => (k + p.1, k + p.2)
  | [], f, i => by
    simp only [pcs]
    by_cases h : f < i
    · rw [if_pos h, if_pos (by omega)]; rfl
    · rw [if_neg h, if_neg (by omega)]; rfl
  | t :: M, f, i => by
    simp only [pcs]
    split
    · rw [List.map_cons, ← pcs_shift k M, show k + (i + 1) = k + i + 1 by omega]
    · rw [show k + i + 1 = k + (i + 1) by omega, pcs_shift k M]
theorem linesOf_app {L M : List Tok} (h : L = [] ∨ ∃ t, L.getLast? = some t ∧ t.kind = 9) : linesOf (L ++ M) = linesOf L ++ linesOf M := by
  rcases h with rfl | ⟨t, h, hk⟩
  · rfl
  · unfold linesOf
    rw [pcs_app L M 0 0 t h hk, List.map_append]
    congr 1
    · refine List.map_congr_left fun p hp => ?_
      have := pcs_mem L 0 0 p (Nat.le_refl _) hp
      unfold lnOf
      rw [List.take_append_of_le_length (by omega)]
    · rw [Nat.zero_add, show pcs L.length L.length M = pcs (L.length + 0) (L.length + 0) M from rfl, pcs_shift, List.map_map]
      refine List.map_congr_left fun p _ => ?_
      simp only [Function.comp_apply, lnOf]
      rw [List.take_length_add_append, List.drop_length_add_append]
theorem fold_pre (P : List RowT) : ∀ (ls : List (List Tok)) (s : List RowT × Bool), (s.2 = true → s.1 ≠ []) → ls.foldl addLine (P ++ s.1, s.2) = (P ++ (ls.foldl addLine s).1, (ls.foldl addLine s).2)
  | [], _, _ => rfl
  | l :: ls, s, h => by
    have e : addLine (P ++ s.1, s.2) l = (P ++ (addLine s l).1, (addLine s l).2) := by
      unfold addLine
      simp only
      split
      · rename_i hc
        simp only [Bool.and_eq_true] at hc
        have hne := h hc.2
        have hpos : 0 < s.1.length := List.length_pos_iff.2 hne
        have e1 : (P ++ s.1).length - 1 = P.length + (s.1.length - 1) := by rw [List.length_append]; omega
        rw [e1, List.getD_eq_getElem?_getD (l := P ++ s.1), List.getElem?_append_right (by omega), List.set_append_right _ _ (by omega), show P.length + (s.1.length - 1) - P.length = s.1.length - 1 by omega, ← List.getD_eq_getElem?_getD]
      · simp only [List.append_assoc]
    rw [List.foldl_cons, List.foldl_cons, e]
    exact fold_pre P ls (addLine s l) (addLine_size s l h).2.1
theorem fold_run : ∀ (ls : List (List Tok)) (s : List RowT × Bool), (s.2 = true → s.1 ≠ []) → (ls.foldl addLine s).2 = true → (ls.foldl addLine s).1 ≠ []
  | [], _, h => h
  | l :: ls, s, h => fold_run ls (addLine s l) (addLine_size s l h).2.1
theorem rows_wrap {A X B : List Tok} {la lb : List Tok} {na nb : ByteArray} (hA : linesOf A = [la]) (hB : linesOf B = [lb]) (dA : dirF false la = (na, true)) (dB : dirF false lb = (nb, true))
    (tA : ∃ t, A.getLast? = some t ∧ t.kind = 9) (tX : X = [] ∨ ∃ t, X.getLast? = some t ∧ t.kind = 9) :
    (rowsOf (A ++ (X ++ B))).map RowT.key = (true, na) :: (rowsOf X).map RowT.key ++ [(true, nb)] := by
  unfold rowsOf
  rw [linesOf_app (.inr tA), linesOf_app tX, hA, hB, List.foldl_append, List.foldl_append]
  have e1 : [la].foldl addLine ([], false) = ([⟨true, na, la⟩] ++ (([], false) : List RowT × Bool).1, (([], false) : List RowT × Bool).2) := by
    simp only [List.foldl_cons, List.foldl_nil, addLine, dA]
    rfl
  rw [e1, fold_pre [⟨true, na, la⟩] (linesOf X) ([], false) (fun h => by cases h)]
  simp only [List.foldl_cons, List.foldl_nil, addLine, dB]
  simp [RowT.key]
theorem step_deep {last : List Int} {k : Int} {l' : List Int} {d : Int} (h : stepR last k = some (l', d)) : stepR (1 :: last) k = some (1 :: l', d + 1) := by
  unfold stepR at h ⊢
  by_cases h1 : 1 < k
  · rw [if_pos h1] at h ⊢
    by_cases hb : bad last k = true
    · rw [if_pos hb] at h; cases h
    · rw [if_neg hb] at h
      have hne : last.length ≠ 0 := by
        intro h0
        apply hb
        unfold bad
        rw [h0]; rfl
      have en : (((1 :: last).length : Int) - 1).toNat = ((last.length : Int) - 1).toNat + 1 := by simp only [List.length_cons]; omega
      have hb' : ¬ bad (1 :: last) k = true := by
        unfold bad at hb ⊢
        rw [en, List.getD_cons_succ]
        simp only [Bool.or_eq_true, not_or] at hb ⊢
        exact ⟨by simp only [List.length_cons, decide_eq_true_eq]; omega, hb.2⟩
      rw [if_neg hb', en]
      simp only [Option.some.injEq, Prod.mk.injEq] at h ⊢
      obtain ⟨h2, h3⟩ := h
      refine ⟨?_, by simp only [List.length_cons]; omega⟩
      rw [← h2]
      by_cases h4 : k = 4
      · rw [if_pos h4, if_pos h4, List.set_cons_succ, List.take_succ_cons]
      · rw [if_neg h4, if_neg h4, List.set_cons_succ]
  · rw [if_neg h1] at h ⊢
    simp only [Option.some.injEq, Prod.mk.injEq] at h ⊢
    obtain ⟨h2, h3⟩ := h
    refine ⟨?_, by simp only [List.length_cons]; omega⟩
    rw [← h2]
    split <;> rfl
theorem depths_deep {B : RowV} (hB : turnV B = 4) : ∀ (V : List RowV) (last out o out2 : List Int), depthsFrom last out V = some o →
    ∃ o', o = out ++ o' ∧ depthsFrom (1 :: last) out2 (V ++ [B]) = some (out2 ++ o'.map (· + 1) ++ [0])
  | [], last, out, o, out2, h => by
    simp only [depthsFrom] at h
    split at h
    · cases h
    · rename_i h0
      have h0 : last = [] := List.eq_nil_of_length_eq_zero (by omega)
      subst h0
      cases h
      refine ⟨[], by simp, ?_⟩
      simp only [List.nil_append, depthsFrom, hB]
      rw [show stepR [1] 4 = some ([], 0) from by decide]
      simp
  | r :: V, last, out, o, out2, h => by
    simp only [depthsFrom] at h
    cases hs : stepR last (turnV r) with
    | none => rw [hs] at h; cases h
    | some p =>
      obtain ⟨l', d⟩ := p
      rw [hs] at h
      simp only at h
      obtain ⟨o', h1, h2⟩ := depths_deep hB V l' (out ++ [d]) o (out2 ++ [d + 1]) h
      refine ⟨d :: o', by rw [h1]; simp, ?_⟩
      simp only [List.cons_append, depthsFrom, step_deep hs]
      rw [h2]
      simp
theorem depths_wrap {V W : List RowV} {A B : RowV} (hA : turnV A = 1) (hB : turnV B = 4) (hW : W.map RowV.key = (A :: (V ++ [B])).map RowV.key) (h0 : dErr V = 0) :
    dErr W = 0 ∧ dOut W = 0 :: ((dOut V).map (· + 1) ++ [0]) := by
  unfold dErr dOut at *
  rw [depths_key [] [] hW]
  cases hv : depthsFrom [] [] V with
  | none => rw [hv] at h0; cases h0
  | some o =>
    obtain ⟨o', h1, h2⟩ := depths_deep hB V [] [] o [0] hv
    rw [List.nil_append] at h1
    subst h1
    have e : depthsFrom [] [] (A :: (V ++ [B])) = depthsFrom [1] [0] (V ++ [B]) := by
      simp only [depthsFrom, hA]
      rfl
    rw [e, h2]
    exact ⟨rfl, by simp⟩
theorem step_bound {last : List Int} {k : Int} {l' : List Int} {d : Int} (h : stepR last k = some (l', d)) : -1 ≤ d ∧ d ≤ last.length ∧ l'.length ≤ last.length + 1 := by
  unfold stepR at h
  split at h
  · split at h
    · cases h
    · simp only [Option.some.injEq, Prod.mk.injEq] at h
      obtain ⟨h1, h2⟩ := h
      refine ⟨by omega, by omega, ?_⟩
      rw [← h1]
      split
      · rw [List.length_take, List.length_set]; omega
      · rw [List.length_set]; omega
  · simp only [Option.some.injEq, Prod.mk.injEq] at h
    obtain ⟨h1, h2⟩ := h
    refine ⟨by omega, by omega, ?_⟩
    rw [← h1]
    split
    · simp
    · omega
theorem depths_bound (N : Nat) : ∀ (L : List RowV) (last out o : List Int), (∀ x ∈ out, -1 ≤ x ∧ x ≤ N) → last.length + L.length ≤ N → depthsFrom last out L = some o → ∀ x ∈ o, -1 ≤ x ∧ x ≤ N
  | [], last, out, o, hb, _, h => by
    simp only [depthsFrom] at h
    split at h
    · cases h
    · cases h; exact hb
  | r :: L, last, out, o, hb, hl, h => by
    simp only [List.length_cons] at hl
    simp only [depthsFrom] at h
    cases hs : stepR last (turnV r) with
    | none => rw [hs] at h; cases h
    | some p =>
      obtain ⟨l', d⟩ := p
      rw [hs] at h
      have hd := step_bound hs
      refine depths_bound N L l' (out ++ [d]) o (fun x hx => ?_) (by omega) h
      rcases List.mem_append.1 hx with hx | hx
      · exact hb x hx
      · rw [List.mem_singleton.1 hx]; omega
theorem dOut_bound (V : List RowV) (i : Nat) : -1 ≤ (dOut V).getD i 0 ∧ (dOut V).getD i 0 ≤ V.length := by
  rw [List.getD_eq_getElem?_getD]
  cases hx : (dOut V)[i]? with
  | none => exact ⟨by decide, by simp⟩
  | some x =>
    have hm := List.mem_of_getElem? hx
    unfold dOut at hm
    cases hd : depthsFrom [] [] V with
    | none => rw [hd] at hm; cases hm
    | some o =>
      rw [hd] at hm
      exact depths_bound V.length V [] [] o (fun x hx => by cases hx) (by simp) hd x hm
def sA : ByteArray := ⟨#[35, 105, 102, 32, 49, 10]⟩
def sB : ByteArray := ⟨#[35, 101, 110, 100, 105, 102, 10]⟩
def toksA : List Tok := scanT sA
set_option maxRecDepth 100000 in
theorem exA : (decide (scanE sA = 0) && decide ((scanT sA).map (fun t => (t.kind, t.text)) = [(5, ⟨#[35]⟩), (1, ⟨#[105, 102]⟩), (2, ⟨#[49]⟩), (9, ⟨#[10]⟩)])) = true := by kernel_rfl
set_option maxRecDepth 100000 in
theorem exB : (decide (scanE sB = 0) && decide ((scanT sB).map (fun t => (t.kind, t.text)) = [(5, ⟨#[35]⟩), (1, ⟨#[101, 110, 100, 105, 102]⟩), (9, ⟨#[10]⟩)])) = true := by kernel_rfl
def mkT (p : Int × ByteArray) : Tok := ⟨p.1, p.2, 0, 0, false⟩
def lA : List Tok := [(5, ⟨#[35]⟩), (1, ⟨#[105, 102]⟩), (2, ⟨#[49]⟩), (9, ⟨#[10]⟩)].map mkT
def lB : List Tok := [(5, ⟨#[35]⟩), (1, ⟨#[101, 110, 100, 105, 102]⟩), (9, ⟨#[10]⟩)].map mkT
theorem kt_of {L : List Tok} {l : List (Int × ByteArray)} (h : L.map (fun t => (t.kind, t.text)) = l) : L.map kt = (l.map mkT).map kt := by
  rw [← h]; simp only [List.map_map]; rfl
def rowA : RowV := ⟨true, ⟨#[105, 102]⟩, none, 0, 0⟩
def rowB : RowV := ⟨true, ⟨#[101, 110, 100, 105, 102]⟩, none, 0, 0⟩
theorem wraps_law {s : ByteArray} (hs : scanE s = 0) (hl : s.size ≤ 20000) {V W : List RowV} (hV : V.map RowV.key = (rowsOf (scanT s)).map RowT.key)
    (hW : W.map RowV.key = (rowsOf (scanT (sA ++ s ++ sB))).map RowT.key) (h0 : dErr V = 0) : dErr W = 0 ∧ dOut W = 0 :: ((dOut V).map (· + 1) ++ [0]) := by
  have hA := exA
  have hB := exB
  rw [Bool.and_eq_true, decide_eq_true_eq, decide_eq_true_eq] at hA hB
  have zA : sA.size = 6 := rfl
  have zB : sB.size = 7 := rfl
  obtain ⟨a1, a2, _⟩ := scan_app (a := s) (b := sB) hs hB.1 (by omega)
  obtain ⟨_, _, tX⟩ := scan_app (a := s) (b := sB) hs hB.1 (by omega)
  obtain ⟨b1, b2, _⟩ := scan_app (a := sA) (b := s ++ sB) hA.1 a1 (by rw [ByteArray.size_append]; omega)
  have e : (scanT (sA ++ s ++ sB)).map kt = (lA ++ (scanT s ++ lB)).map kt := by
    rw [ByteArray.append_assoc, b2, List.map_append, a2, List.map_append, kt_of hA.2, kt_of hB.2, List.map_append, List.map_append]
    rfl
  rw [rows_congr e, rows_wrap (A := lA) (B := lB) (la := lA) (lb := lB) (na := ⟨#[105, 102]⟩) (nb := ⟨#[101, 110, 100, 105, 102]⟩) rfl rfl rfl rfl ⟨_, rfl, rfl⟩ tX, ← hV] at hW
  refine depths_wrap (A := rowA) (B := rowB) (by decide) (by decide) ?_ h0
  rw [hW, List.map_cons, List.map_append]
  rfl
end Go.Proofs.Ytdonomneofdhfaa
namespace Go.GV
open Go.RowKit
theorem xl_slG {C : Cx} {all l : List Oper} {Q : Post} {kn : Kn} {gk : List (Nat × (Gd × SV))} {ow : Own} {nx : Nat} {u : Im} (d : Nat) {g : Gd} {x : Value} {D : Data} (hd : look gk d = some (g, .v x)) (hx : SlAt u x D)
    (h : XL C all l Q ⟨kn, (d, (g, .r nx)) :: gk, (nx, .sl D) :: ow, nx + 1⟩ u) : XL C all l Q ⟨kn, gk, ow, nx⟩ u := by
  unfold XL at h ⊢
  intro E a w hok
  obtain ⟨f, hsat⟩ := hok.sat
  have hE : ∀ k, k < nx → upd E nx x k = E k := fun k hk => upd_other _ _ (by omega)
  have hg := hok.agr.grow (E' := upd E nx x) (ow := (nx, .sl D) :: ow) (nx := nx + 1) hE (Nat.le_succ _)
  have hsat' : Sat (upd E nx x) ((nx, .sl D) :: ow) (nx + 1) u a.defers w (upd f nx (fun _ => False)) := by
    refine hsat.step (fun k => k = nx) hE (Nat.le_succ _) (Im.le.refl u) hsat.imm (Nat.le_refl _) (fun b _ _ => rfl) ?_ ?_ ?_ (fun b o ho => .inl ho)
    · intro k hk
      exact ⟨by rw [look_cons, if_neg (fun e => hk e.symm)], fun b => by rw [upd_other _ _ hk]⟩
    · rintro k rfl
      refine ⟨fun r hr => ?_, fun hr => ?_, fun b hb => ?_⟩
      · rw [look_cons, if_pos rfl] at hr
        cases hr
        refine ⟨⟨by rw [upd_same]; exact hx, fun y hy => by rw [upd_same] at hy; exact hy⟩, Nat.lt_succ_self _, trivial⟩
      · rw [look_cons, if_pos rfl] at hr; cases hr
      · rw [upd_same] at hb; exact hb.elim
    · intro k k' b hk hk' hne; subst hk hk'; exact absurd rfl hne
  obtain ⟨A, c, hv⟩ := hx.form
  have hd' := hok.agr.gk d g _ hd
  have := h (upd E nx x) a w ⟨⟨hg.size, fun t s h1 h2 => ?_, fun t g' s h1 => ?_, fun t s h2 => hg.klt t s h2, fun t g' s h1 hgs => ?_⟩, _, hsat'⟩
  · exact wpListIn_monoQ (fun e a w => SemQ.mono hE (Nat.le_succ _) (Im.le.refl u)) _ _ _ this
  · rw [look_cons] at h1
    split at h1
    · cases h1
    · exact hg.kn t s h1 h2
  · rw [look_cons] at h1
    split at h1
    · rename_i e1; subst e1; cases h1
      refine ⟨fun hgs => ?_, hd'.2⟩
      rw [hd'.1 hgs]
      simp only [SV.den, upd_same]
    · exact hg.gk t g' s h1
  · rw [look_cons] at h1
    split at h1
    · cases h1; exact ⟨Nat.lt_succ_self _, A, D.n, c, by rw [upd_same]; exact hv⟩
    · exact hg.glt t g' s h1 hgs
end Go.GV
namespace Go.GV
open Go.RowKit
theorem xl_dropG {C : Cx} {all l : List Oper} {Q : Post} {kn : Kn} {gk : List (Nat × (Gd × SV))} {ow : Own} {nx : Nat} {u : Im} (hk : gk.all (fun x => (look kn x.1).isNone) = true)
    (h : XL C all l Q ⟨kn, [], ow, nx⟩ u) : XL C all l Q ⟨kn, gk, ow, nx⟩ u := by
  unfold XL at h ⊢
  intro E a w hok
  refine h E a w ⟨⟨hok.agr.size, fun d s _ hs => hok.agr.kn d s ?_ hs, fun d g s h => (by cases h), hok.agr.klt, fun d g s h => (by cases h)⟩, hok.sat⟩
  cases hl : look gk d with
  | none => rfl
  | some y =>
    have hm : (d, y) ∈ gk := by
      clear hok hk
      induction gk with
      | nil => cases hl
      | cons z gk ih =>
        obtain ⟨k', r'⟩ := z
        rw [look_cons] at hl
        split at hl
        · rename_i e; subst e; cases hl; exact List.mem_cons_self ..
        · exact List.mem_cons_of_mem _ (ih hl)
    have := List.all_eq_true.1 hk _ hm
    have hs' : look kn d = some s := hs
    simp only [hs'] at this
    cases this
theorem xl_eqv {C : Cx} {all l : List Oper} {Q : Post} {kn : Kn} {gk : List (Nat × (Gd × SV))} {ow : Own} {nx : Nat} {u : Im} (t : Nat) {v : Value} (v' : Value) (hk : look kn t = some (.v v)) (he : v = v')
    (h : XL C all l Q ⟨(t, .v v') :: kn, gk, ow, nx⟩ u) : XL C all l Q ⟨kn, gk, ow, nx⟩ u := by
  subst he
  unfold XL at h ⊢
  intro E a w hok
  refine h E a w ⟨⟨hok.agr.size, fun d s h1 h2 => ?_, hok.agr.gk, fun d s h2 => ?_, hok.agr.glt⟩, hok.sat⟩
  · rw [look_cons] at h2
    split at h2
    · rename_i e; subst e; cases h2; exact hok.agr.kn _ _ h1 hk
    · exact hok.agr.kn _ _ h1 h2
  · rw [look_cons] at h2
    split at h2
    · rename_i e; subst e; cases h2; exact hok.agr.klt _ _ hk
    · exact hok.agr.klt _ _ h2
end Go.GV
namespace Go.Proofs.Ytdonomneofdhfaa
open Go.GV Go.RowKit
theorem zip_getD {L : List RowV} {T : List (List Tok)} (h : L.length = T.length) (i : Nat) : (L.zip T).getD i it0 = (L.getD i row0, T.getD i []) := by
  simp only [List.getD_eq_getElem?_getD]
  rcases Nat.lt_or_ge i L.length with hi | hi
  · rw [List.getElem?_eq_getElem (by rw [List.length_zip]; omega), List.getElem_zip, List.getElem?_eq_getElem hi, List.getElem?_eq_getElem (by omega)]; rfl
  · rw [List.getElem?_eq_none (by rw [List.length_zip]; omega), List.getElem?_eq_none hi, List.getElem?_eq_none (by omega)]; rfl
theorem zip_length {L : List RowV} {T : List (List Tok)} (h : L.length = T.length) : (L.zip T).length = L.length := by rw [List.length_zip]; omega
theorem slZip {u : Im} {x : Value} {L : List RowV} {T : List (List Tok)} (hx : SlAt u x (rowY.d L)) (h : L.length = T.length) : SlAt u x (itY.d (L.zip T)) := by
  refine hx.ext (by rw [Lay.d_n, Lay.d_n, zip_length h]) rfl fun i hi j f f' hf hf' => ?_
  have e := zip_getD h (i : Int).toNat
  match j, hf, hf' with
  | 0, hf, hf' =>
    cases hf; cases hf'
    show Value.bool (L.getD (i : Int).toNat row0).dir = .bool ((L.zip T).getD (i : Int).toNat it0).1.dir
    rw [e]
  | 1, hf, hf' =>
    cases hf; cases hf'
    show Value.string (L.getD (i : Int).toNat row0).name = .string ((L.zip T).getD (i : Int).toNat it0).1.name
    rw [e]
  | 2, hf, hf' =>
    cases hf; cases hf'
    show (L.getD (i : Int).toNat row0).toks = ((L.zip T).getD (i : Int).toNat it0).1.toks
    rw [e]
  | j + 3, hf, hf' => simp [Lay.d] at hf'
theorem ToksAt.zip {u : Im} {L : List RowV} {T : List (List Tok)} (h : ToksAt u L T) : ItAt u (L.zip T) := fun i hi => by
  rw [zip_length h.1] at hi
  rw [zip_getD h.1]
  exact h.2 i hi
theorem ItSm.zip {L : List RowV} {T : List (List Tok)} (h : L.length = T.length) (hz : ∀ i : Nat, (T.getD i []).length * 48 ≤ 140737488355328) : ItSm (L.zip T) := fun i => by
  rw [zip_getD h]; exact hz i
def same1 (p q : It) : Prop := p.1.key = q.1.key ∧ p.2 = q.2
theorem says_same {p q : It} (h : same1 p q) : says p = says q := by
  obtain ⟨h1, h2⟩ := h
  simp only [RowV.key, Prod.mk.injEq] at h1
  simp only [says, saysV, h1.1, h1.2, h2]
theorem blank_same {p q : It} (h : same1 p q) : blank p = blank q := by
  obtain ⟨h1, h2⟩ := h
  simp only [RowV.key, Prod.mk.injEq] at h1
  simp only [blank, h1.1, h2]
theorem rel_same {k : Bool} {p q p' q' : It} (h : same1 p q) (h' : same1 p' q') : relR k p p' = relR k q q' := by
  have a := says_same h
  have b := says_same h'
  obtain ⟨h1, h2⟩ := h
  obtain ⟨h3, h4⟩ := h'
  simp only [RowV.key, Prod.mk.injEq] at h1 h3
  simp only [relR, h1.1, h1.2, h3.1, h3.2, a, b]
def sameL : List It → List It → Prop
  | p :: I, q :: J => same1 p q ∧ sameL I J
  | [], [] => True
  | _, _ => False
theorem sameL_nb : ∀ {I J : List It}, sameL I J → sameL (nb I) (nb J)
  | [], [], _ => trivial
  | [], _ :: _, h => h.elim
  | _ :: _, [], h => h.elim
  | p :: I, q :: J, h => by
    have e := blank_same h.1
    cases hb : blank p with
    | true => rw [nb_blank hb, nb_blank (e ▸ hb)]; exact sameL_nb h.2
    | false => rw [nb_not hb, nb_not (e ▸ hb)]; exact ⟨h.1, sameL_nb h.2⟩
theorem sameL_all2 {k : Bool} : ∀ {I J I' J' : List It}, sameL I J → sameL I' J' → all2 (relR k) I I' = all2 (relR k) J J'
  | [], [], [], [], _, _ => rfl
  | [], [], _ :: _, _ :: _, _, _ => rfl
  | _ :: _, _ :: _, [], [], _, _ => rfl
  | _ :: _, _ :: _, _ :: _, _ :: _, h, h' => by
    simp only [all2, rel_same h.1 h'.1, sameL_all2 h.2 h'.2]
  | [], _ :: _, _, _, h, _ => h.elim
  | _ :: _, [], _, _, h, _ => h.elim
  | [], [], [], _ :: _, _, h => h.elim
  | [], [], _ :: _, [], _, h => h.elim
  | _ :: _, _ :: _, [], _ :: _, _, h => h.elim
  | _ :: _, _ :: _, _ :: _, [], _, h => h.elim
theorem alike_same {k : Bool} {I J I' J' : List It} (h : sameL I J) (h' : sameL I' J') : alikeV k I I' = alikeV k J J' := sameL_all2 (sameL_nb h) (sameL_nb h')
theorem sameL_zip : ∀ {L L' : List RowV} {T : List (List Tok)}, L.map RowV.key = L'.map RowV.key → sameL (L.zip T) (L'.zip T)
  | [], [], _, _ => trivial
  | [], _ :: _, _, h => by simp at h
  | _ :: _, [], _, h => by simp at h
  | _ :: _, _ :: _, [], _ => trivial
  | r :: L, r' :: L', t :: T, h => by
    simp only [List.map_cons, List.cons.injEq] at h
    exact ⟨⟨h.1, rfl⟩, sameL_zip h.2⟩
def rowV (r : RowT) : RowV := ⟨r.dir, r.name, none, 0, 0⟩
def itT (R : List RowT) : List It := (R.map rowV).zip (R.map RowT.ts)
def alikeT (keep : Bool) (R S : List RowT) : Bool := alikeV keep (itT R) (itT S)
theorem rowV_key (R : List RowT) : (R.map rowV).map RowV.key = R.map RowT.key := by rw [List.map_map]; rfl
theorem alikeT_of {V W : List RowV} {R S : List RowT} (keep : Bool) (hV : V.map RowV.key = R.map RowT.key) (hW : W.map RowV.key = S.map RowT.key) :
    alikeV keep (V.zip (R.map RowT.ts)) (W.zip (S.map RowT.ts)) = alikeT keep R S :=
  alike_same (sameL_zip (hV.trans (rowV_key R).symm)) (sameL_zip (hW.trans (rowV_key S).symm))
theorem alikeRows_any (keep : Bool) (V W : List RowV) (R S : List RowT) (x y : Value) (w : World) (hx : SlAt (im w) x (rowY.d V)) (hy : SlAt (im w) y (rowY.d W)) (hT : ToksAt (im w) V (R.map RowT.ts)) (hS : ToksAt (im w) W (S.map RowT.ts))
    (hV : V.map RowV.key = R.map RowT.key) (hW : W.map RowV.key = S.map RowT.key) (zR : ∀ i : Nat, ((R.map RowT.ts).getD i []).length * 48 ≤ 140737488355328) (zS : ∀ i : Nat, ((S.map RowT.ts).getD i []).length * 48 ≤ 140737488355328)
    (lR : R.length ≤ 9223372036854775806) (lS : S.length ≤ 9223372036854775806) :
    Calls Try.prog 60 #[x, y, .bool keep] w (PureP w fun v _ => v = .bool (alikeT keep R S)) := by
  rw [← alikeT_of keep hV hW]
  have h1 : V.length = R.length := by have := hT.1; simpa using this
  have h2 : W.length = S.length := by have := hS.1; simpa using this
  exact alike_any keep _ _ x y w (slZip hx hT.1) (slZip hy hS.1) hT.zip hS.zip (ItSm.zip hT.1 zR) (ItSm.zip hS.1 zS) (by rw [zip_length hT.1]; omega) (by rw [zip_length hS.1]; omega)
def nestsB (s want : ByteArray) : Bool :=
  let V := (rowsOf (scanT s)).map rowV
  if dErr V = 0 then decide (((dOut V).length : Int) = want.size) && (List.range (dOut V).length).all fun j => decide ((dOut V).getD j 0 = bt want j - 48)
  else decide (want = ⟨#[]⟩) && decide (dErr V = 81) && decide (((dOut V).length : Int) = 0)
end Go.Proofs.Ytdonomneofdhfaa
namespace Go.Proofs.Ytdonomneofdhfaa
open Go.GV Go.RowKit
theorem xl_rows {ro : Option Nat} {N : Nat} {all : List Oper} {o : Oper} {r : List Oper} {Q : Post} {kn : Kn} {ow : GV.Own} {nx : Nat} {u : Im} {c : Call} (s : ByteArray) (R : List RowT) (hR : R = rowsOf (scanT s)) (hs : s.size ≤ 9223372036854775807) (hg : Glob u)
    (ho : o.op = .call c) (hgd : o.guard = none) {d : Nat} (hd : o.dst = some d)
    (hc : callee ⟨kn, [], ow, nx⟩ c = some 50) (hargs : argsOf ⟨kn, [], ow, nx⟩ [] c.args.toList = some [.v (.string s)]) (hfr : fresh N ⟨kn, [], ow, nx⟩ d [] = true)
    (K : ∀ A cc V u', u.le u' → V.map RowV.key = R.map RowT.key → ToksAt u' V (R.map RowT.ts) →
      XL ⟨Try.prog, ro, N⟩ all r Q ⟨(d, .r (nx + 1)) :: (d, .v (.slice A R.length cc)) :: kn, [], (nx + 1, .sl (rowY.d V)) :: (nx, .emp) :: (nx, .gen (starHp (itemsS V R ++ [(⟨.slice A R.length cc, 28, rowY.d V⟩ : SI)]))) :: ow, nx + 2⟩ u') :
    XL ⟨Try.prog, ro, N⟩ all (o :: r) Q ⟨kn, [], ow, nx⟩ u := by
  subst hR
  refine xl_callStar (fun (s' : Option Addr × Nat × List RowV) => .slice s'.1 (rowsOf (scanT s)).length s'.2.1) (fun s' => itemsS s'.2.2 (rowsOf (scanT s)) ++ [(⟨.slice s'.1 (rowsOf (scanT s)).length s'.2.1, 28, rowY.d s'.2.2⟩ : SI)]) (fun s' => s'.2.2.map RowV.key = (rowsOf (scanT s)).map RowT.key) ho hgd hd hc fn50 hargs hfr
    (fun E w F hs' => rowsText_any s w hs (hg.imm hs'.imm)) (fun s' hk => ?_)
  obtain ⟨A, cc, V⟩ := s'
  replace hk : V.map RowV.key = (rowsOf (scanT s)).map RowT.key := hk
  have hVR : V.length = (rowsOf (scanT s)).length := by have := congrArg List.length hk; simpa using this
  refine xl_freezeStar nx (sl := itemsS V (rowsOf (scanT s)) ++ [(⟨.slice A (rowsOf (scanT s)).length cc, 28, rowY.d V⟩ : SI)]) (by rw [look_cons, if_pos rfl]) (fun u1 hu1 hfr => ?_)
  refine xl_sl d (x := .slice A (rowsOf (scanT s)).length cc) (D := rowY.d V) (by rw [look_cons, if_pos rfl]) (hfr _ (List.mem_append_right _ (List.mem_singleton.2 rfl))).1 ?_
  exact K A cc V u1 hu1 hk (star_toks hVR (fun p hp => (hfr p (List.mem_append_left _ hp)).1))
theorem xl_gcallE {C : Cx} {all : List Oper} {o : Oper} {r : List Oper} {Q : Post} {kn : Kn} {gk : List (Nat × (Gd × SV))} {ow : GV.Own} {nx : Nat} {u : Im} {c : Call} (v : Value) {y : Nat × Bool} {g : Gd} {f d : Nat}
    (ho : o.op = .call c) (hg : guardOf all ⟨kn, gk, ow, nx⟩ o = some (y :: g)) (hd : o.dst = some d)
    (hc : callee ⟨kn, gk, ow, nx⟩ c = some f) (hfn : Fn1 C.P f) {ss : List SV} (hargs : argsOf ⟨kn, gk, ow, nx⟩ (y :: g) c.args.toList = some ss) (hfr : fresh C.N ⟨kn, gk, ow, nx⟩ d (y :: g) = true)
    (H : ∀ E w F, Sat E ow nx u [] w F → Calls C.P f (ss.map (SV.den E)).toArray w (PureP w fun x _ => x = v))
    (K : XL C all r Q ⟨kn, (d, (y :: g, .v v)) :: gk, ow, nx⟩ u) : XL C all (o :: r) Q ⟨kn, gk, ow, nx⟩ u :=
  xl_gcall0 (st := ⟨kn, gk, ow, nx⟩) v ho hg hd hc hfn hargs hfr (fun _ => H) K
theorem rows_len (s : ByteArray) : (rowsOf (scanT s)).length ≤ 65537 := by
  have h1 := (rowsOf_size (scanT s)).2
  have h2 := scanT_len s
  omega
set_option maxRecDepth 100000 in
theorem nests_any (s want : ByteArray) (w : World) (hs : s.size ≤ 9223372036854775807) (hw : want.size ≤ 9223372036854775807) (hg : Glob (im w)) (hB : nestsB s want = true) :
    Calls Try.prog 59 #[.string s, .string want] w (PureP w fun v _ => v = .bool true) := by
  obtain ⟨R, hR⟩ : ∃ R, R = rowsOf (scanT s) := ⟨_, rfl⟩
  have hl : R.length ≤ 65537 := by rw [hR]; exact rows_len s
  unfold nestsB at hB
  rw [← hR] at hB
  refine x_fun tt_ok Try.func59 rfl rfl [] 0 [.v (.string s), .v (.string want)] rfl rfl rfl rfl (fun b hb => by cases hb) ?_
  refine x_vc tt_ok ?_
  refine xl_rows s R hR hs hg rfl rfl rfl rfl rfl rfl (fun A cc V u1 hu1 hk hT => ?_)
  have hVR : V.length = R.length := by have := congrArg List.length hk; simpa using this
  obtain ⟨D, hD⟩ : ∃ D, D = dOut V := ⟨_, rfl⟩
  obtain ⟨z, hz⟩ : ∃ z, z = dErr V := ⟨_, rfl⟩
  have hdk := depths_key (L := V) (L' := R.map rowV) [] [] (hk.trans (rowV_key R).symm)
  have hDl : D.length ≤ V.length := by rw [hD]; exact dOut_le V
  have e1 : dOut (R.map rowV) = D := by rw [hD]; unfold dOut; rw [hdk]
  have e2 : dErr (R.map rowV) = z := by rw [hz]; unfold dErr; rw [hdk]
  simp only [e1, e2] at hB
  refine xl_callO2 3 (intY.d D) [.int .i64 z] rfl rfl rfl rfl fn49 rfl rfl (fun E w F hs' => by rw [hD, hz]; exact depths_any V _ w (hs'.slAt (k := 1) rfl) (by omega)) ?_
  refine xl_go tt_ok ?_
  refine x_if (fun h => ?_) (fun h => ?_)
  · have h : z ≠ 0 := of_decide_eq_true h
    rw [if_neg h] at hB
    refine fin1 (fun _ _ => ?_)
    exact congrArg Value.bool hB
  · have h : z = 0 := Classical.not_not.1 (of_decide_eq_false h)
    rw [if_pos h, Bool.and_eq_true, decide_eq_true_eq, List.all_eq_true] at hB
    obtain ⟨b1, b2⟩ := hB
    refine x_if (fun h2 => ?_) (fun h2 => ?_)
    · exact absurd b1 (of_decide_eq_true h2)
    · refine x_loop (σ := Int) (fun i => ⟨[(7, .v (.int .i64 i)), (5, .r 2), (1, .v (.string want))], [], [(2, .row 3 (intY.d D))], 3⟩)
        (fun i _ => 0 ≤ i ∧ i ≤ D.length) (fun i => (D.length - i).toNat) (fun _ => Nat.le_refl _) 0 [] (.of rfl rfl rfl rfl rfl rfl) ⟨by omega, by omega⟩ ?_
      rintro i u hu ⟨g1, g2⟩
      refine x_vc tt_ok ?_
      refine x_if (fun h3 => ?_) (fun h3 => ?_)
      · have h3 : i < D.length := of_decide_eq_true h3
        have h4 := b2 i.toNat (List.mem_range.2 (by omega))
        rw [decide_eq_true_eq, show ((i.toNat : Nat) : Int) = i by omega] at h4
        have h5 := bt_range want i
        refine x_draw mix (by kernel_rfl) (xd_go tt_ok ?_)
        repeat (refine And.intro ?_ ?_; first | omega | (simp only [Lay.d_n]; omega) | (simp only [decide_eq_true_eq, decide_eq_false_iff_not, Bool.or_eq_false_iff, Bool.and_eq_true, Bool.or_eq_true, Bool.and_eq_false_iff, Bool.not_eq_true', Bool.not_eq_false', Lay.d_n]; omega) | (simp only [decide_eq_true_eq, decide_eq_false_iff_not, Bool.or_eq_false_iff, Bool.and_eq_true, Bool.or_eq_true, Bool.and_eq_false_iff, Bool.not_eq_true', Bool.not_eq_false']; omega))
        refine x_if (fun h6 => ?_) (fun h6 => ?_)
        · exact absurd h4 (of_decide_eq_true h6)
        · repeat (refine And.intro ?_ ?_; first | omega | (simp only [Lay.d_n]; omega) | (simp only [decide_eq_true_eq, decide_eq_false_iff_not, Bool.or_eq_false_iff, Bool.and_eq_true, Bool.or_eq_true, Bool.and_eq_false_iff, Bool.not_eq_true', Bool.not_eq_false', Lay.d_n]; omega) | (simp only [decide_eq_true_eq, decide_eq_false_iff_not, Bool.or_eq_false_iff, Bool.and_eq_true, Bool.or_eq_true, Bool.and_eq_false_iff, Bool.not_eq_true', Bool.not_eq_false']; omega))
          exact again (i + 1) [] (.of rfl rfl rfl rfl rfl rfl) ⟨by omega, by omega⟩ (by omega)
      · exact fin1 (fun _ _ => rfl)
end Go.Proofs.Ytdonomneofdhfaa
namespace Go.Proofs.Ytdonomneofdhfaa
open Go.GV Go.RowKit
set_option maxRecDepth 100000 in
theorem linesWraps_any (s : ByteArray) (w : World) (hs : s.size ≤ 9223372036854775807) (hg : Glob (im w)) :
    Calls Try.prog 11 #[.string s] w (PureP w fun v _ => v = .bool true) := by
  have hlt := scanT_len s
  refine x_fun tt_ok Try.func11 rfl rfl [] 0 [.v (.string s)] rfl rfl rfl rfl (fun b hb => by cases hb) ?_
  refine x_vc tt_ok ?_
  refine xl_call0 (.bool true) rfl rfl rfl rfl fn48 rfl rfl (fun E w F hs => linesAlive_any w (hg.imm hs.imm)) ?_
  refine xl_go tt_ok ?_
  refine xl_callO2 31 (tokY.d (scanT s)) [.int .i64 (scanE s)] rfl rfl rfl rfl fn41 rfl rfl (fun E w F hs' => scan_any s w hs (hg.imm hs'.imm)) ?_
  refine xl_go tt_ok ?_
  refine x_if (fun h => ?_) (fun h => ?_)
  · exact fin1 (fun _ _ => rfl)
  · replace h : ((decide (scanE s ≠ 0) || decide (20000 < (s.size : Int))) || !true) = false := h
    simp only [Bool.or_eq_false_iff, decide_eq_false_iff_not, Classical.not_not] at h
    obtain ⟨⟨he, hl⟩, _⟩ := h
    obtain ⟨R, hR⟩ : ∃ R, R = rowsOf (scanT s) := ⟨_, rfl⟩
    have hRl : R.length ≤ 65537 := by rw [hR]; exact rows_len s
    refine xl_callStar (fun (s : Option Addr × Nat × List RowV) => .slice s.1 R.length s.2.1) (fun s => itemsS s.2.2 R ++ [(⟨.slice s.1 R.length s.2.1, 28, rowY.d s.2.2⟩ : SI)]) (fun s => s.2.2.map RowV.key = R.map RowT.key) rfl rfl rfl rfl fn23 rfl rfl
      (fun E w F hs => by
        have h1 := hs.rowAt (k := 0) rfl
        obtain ⟨A, c, hv⟩ := h1.form
        show Calls Try.prog 23 #[E 0] w _
        rw [hv] at h1 ⊢
        rw [hR]
        exact rows_any (scanT s) A c w h1 (by omega)) (fun s' hk => ?_)
    obtain ⟨A, c, V⟩ := s'
    replace hk : V.map RowV.key = R.map RowT.key := hk
    have hVR : V.length = R.length := by have := congrArg List.length hk; simpa using this
    refine xl_freezeStar 1 rfl (fun u1 hu1 hfr => ?_)
    have hxV : SlAt u1 (.slice A R.length c) (rowY.d V) := (hfr _ (List.mem_append_right _ (List.mem_singleton.2 rfl))).1
    refine xl_sl 31 rfl hxV ?_
    refine xl_go tt_ok ?_
    refine xl_callO2 3 (intY.d (dOut V)) [.int .i64 (dErr V)] rfl rfl rfl rfl fn49 rfl rfl (fun E w F hs' => depths_any V _ w (hs'.slAt (k := 2) rfl) (by omega)) ?_
    refine xl_go tt_ok ?_
    have zA : (⟨#[35, 105, 102, 32, 49, 10]⟩ : ByteArray).size = 6 := rfl
    have zB : (⟨#[35, 101, 110, 100, 105, 102, 10]⟩ : ByteArray).size = 7 := rfl
    have zAs := ByteArray.size_append (a := ⟨#[35, 105, 102, 32, 49, 10]⟩) (b := s)
    have zT := ByteArray.size_append (a := ⟨#[35, 105, 102, 32, 49, 10]⟩ ++ s) (b := ⟨#[35, 101, 110, 100, 105, 102, 10]⟩)
    refine And.intro (by omega) ?_
    refine And.intro (by omega) ?_
    obtain ⟨T, hT⟩ : ∃ T, T = rowsOf (scanT (sA ++ s ++ sB)) := ⟨_, rfl⟩
    have hTl : T.length ≤ 65537 := by rw [hT]; exact rows_len _
    refine xl_rows (sA ++ s ++ sB) T hT (by unfold sA sB; omega) (hg.imp fun m h => hu1.cell h) rfl rfl rfl rfl rfl rfl (fun A2 c2 V2 u2 hu2 hk2 hT2 => ?_)
    have hVT : V2.length = T.length := by have := congrArg List.length hk2; simpa using this
    have law : dErr V = 0 → dErr V2 = 0 ∧ dOut V2 = 0 :: ((dOut V).map (· + 1) ++ [0]) := wraps_law he (by omega) (hR ▸ hk) (hT ▸ hk2)
    refine xl_go tt_ok ?_
    refine xl_callO2 3 (intY.d (dOut V2)) [.int .i64 (dErr V2)] rfl rfl rfl rfl fn49 rfl rfl (fun E w F hs' => depths_any V2 _ w (hs'.slAt (k := 5) rfl) (by omega)) ?_
    refine xl_go tt_ok ?_
    have hDl : (dOut V).length ≤ V.length := dOut_le V
    have hD2l : (dOut V2).length ≤ V2.length := dOut_le V2
    have hDb := dOut_bound V
    have d0 : dErr V ≠ 0 → dErr V = 81 ∧ dOut V = [] := fun h => by
      unfold dErr dOut at *
      cases hd : depthsFrom [] [] V with
      | none => exact ⟨rfl, rfl⟩
      | some o => rw [hd] at h; exact absurd rfl h
    generalize dOut V = D at law hDl d0 hDb ⊢
    generalize dErr V = z at law d0 ⊢
    generalize dOut V2 = D2 at law hD2l ⊢
    generalize dErr V2 = z2 at law ⊢
    refine x_if (fun h => ?_) (fun h => ?_)
    · replace h : decide (z ≠ 0) = true := h
      obtain ⟨h1, h2⟩ := d0 (of_decide_eq_true h)
      refine fin1 (fun _ _ => ?_)
      rw [h1, h2]; rfl
    · have h : z = 0 := Classical.not_not.1 (of_decide_eq_false h)
      obtain ⟨l1, l2⟩ := law h
      have l3 : D2.length = D.length + 2 := by rw [l2]; simp
      have l4 : D2.getD 0 0 = 0 := by rw [l2]; rfl
      have l5 : D2.getD (D.length + 1) 0 = 0 := by
        rw [l2, List.getD_cons_succ, List.getD_eq_getElem?_getD, List.getElem?_append_right (by simp)]
        simp
      have l6 : ∀ j, j < D.length → D2.getD (j + 1) 0 = D.getD j 0 + 1 := fun j hj => by
        rw [l2, List.getD_cons_succ, List.getD_eq_getElem?_getD, List.getElem?_append_left (by simpa using hj), List.getElem?_map, List.getD_eq_getElem?_getD, List.getElem?_eq_getElem hj]
        rfl
      repeat (refine And.intro ?_ ?_; first | omega | (simp only [Lay.d_n]; omega) | (simp only [decide_eq_true_eq, decide_eq_false_iff_not, Bool.or_eq_false_iff, Bool.and_eq_true, Bool.or_eq_true, Bool.and_eq_false_iff, Bool.not_eq_true', Bool.not_eq_false', Lay.d_n]; omega) | (simp only [decide_eq_true_eq, decide_eq_false_iff_not, Bool.or_eq_false_iff, Bool.and_eq_true, Bool.or_eq_true, Bool.and_eq_false_iff, Bool.not_eq_true', Bool.not_eq_false']; omega))
      refine x_iff ?_ ?_
      · show (((decide (z2 ≠ 0) || decide ((D2.length : Int) ≠ D.length + 2)) || decide (D2.getD (0 : Int).toNat 0 ≠ 0)) || decide (D2.getD ((D2.length : Int) - 1).toNat 0 ≠ 0)) = false
        rw [l1, l3, show (((D.length + 2 : Nat) : Int) - 1).toNat = D.length + 1 by omega, l5, show (0 : Int).toNat = 0 from rfl, l4]
        simp
      · refine x_loop (σ := Int) (fun i => ⟨[(11, .v (.int .i64 i)), (9, .r 6), (7, .r 3), (3, .v (.bool true))], [], [(3, .row 3 (intY.d D)), (6, .row 3 (intY.d D2))], 7⟩)
          (fun i _ => 0 ≤ i ∧ i ≤ D.length) (fun i => (D.length - i).toNat) (fun _ => Nat.le_refl _) 0 [] (.of rfl rfl rfl rfl rfl rfl) ⟨by omega, by omega⟩ ?_
        rintro i u3 hu3 ⟨g1, g2⟩
        refine x_vc tt_ok ?_
        refine x_if (fun h2 => ?_) (fun h2 => ?_)
        · have h2 : i < D.length := of_decide_eq_true h2
          refine x_draw mix (by kernel_rfl) (xd_go tt_ok ?_)
          have h6 := l6 i.toNat (by omega)
          have h7 := hDb i.toNat
          repeat (refine And.intro ?_ ?_; first | omega | (simp only [Lay.d_n]; omega) | (simp only [decide_eq_true_eq, decide_eq_false_iff_not, Bool.or_eq_false_iff, Bool.and_eq_true, Bool.or_eq_true, Bool.and_eq_false_iff, Bool.not_eq_true', Bool.not_eq_false', Lay.d_n]; omega) | (simp only [decide_eq_true_eq, decide_eq_false_iff_not, Bool.or_eq_false_iff, Bool.and_eq_true, Bool.or_eq_true, Bool.and_eq_false_iff, Bool.not_eq_true', Bool.not_eq_false']; omega))
          refine x_iff ?_ ?_
          · show decide (D2.getD (i + 1).toNat 0 ≠ D.getD i.toNat 0 + 1) = false
            rw [show (i + 1).toNat = i.toNat + 1 by omega, h6]
            simp
          · repeat (refine And.intro ?_ ?_; first | omega | (simp only [Lay.d_n]; omega) | (simp only [decide_eq_true_eq, decide_eq_false_iff_not, Bool.or_eq_false_iff, Bool.and_eq_true, Bool.or_eq_true, Bool.and_eq_false_iff, Bool.not_eq_true', Bool.not_eq_false', Lay.d_n]; omega) | (simp only [decide_eq_true_eq, decide_eq_false_iff_not, Bool.or_eq_false_iff, Bool.and_eq_true, Bool.or_eq_true, Bool.and_eq_false_iff, Bool.not_eq_true', Bool.not_eq_false']; omega))
            exact again (i + 1) [] (.of rfl rfl rfl rfl rfl rfl) ⟨by omega, by omega⟩ (by omega)
        · exact fin1 (fun _ _ => rfl)
end Go.Proofs.Ytdonomneofdhfaa
namespace Go.Proofs.Ytdonomneofdhfaa
open Go.ChangeShapes Go.WideShapes Go.ChangeAt Go.RowKit Go.GV
theorem own : ownKnob Try.prog.godebug = none := by kernel_rfl
theorem laidOut : laidOutB Try.prog = true := by kernel_rfl
theorem fMaps : mapsRowed Try.prog = true := by kernel_rfl
theorem fHeard : Try.prog.stopsHeard = true := by kernel_rfl
theorem fEnter : Try.prog.mayEnter = true := by kernel_rfl
theorem fLifts : (Rows.linesTellsRow.lifted == Try.prog.liftsFinal) = true := by kernel_rfl
theorem fMake : (Try.prog.make == some Rows.linesTellsRow.make) = true := by kernel_rfl
theorem jmk {a0 a1 a2 a3 a4 a5 a6 a7 a8 a9 a10 a11 a12 a13 a14 a15 a16 a17 a18 a19 a20 a21 a22 a23 a24 a25 a26 a27 a28 a29 a30 a31 : Bool} (h0 : a0 = true) (h1 : a1 = true) (h2 : a2 = true) (h3 : a3 = true) (h4 : a4 = true) (h5 : a5 = true) (h6 : a6 = true) (h7 : a7 = true) (h8 : a8 = true) (h9 : a9 = true) (h10 : a10 = true) (h11 : a11 = true) (h12 : a12 = true) (h13 : a13 = true) (h14 : a14 = true) (h15 : a15 = true) (h16 : a16 = true) (h17 : a17 = true) (h18 : a18 = true) (h19 : a19 = true) (h20 : a20 = true) (h21 : a21 = true) (h22 : a22 = true) (h23 : a23 = true) (h24 : a24 = true) (h25 : a25 = true) (h26 : a26 = true) (h27 : a27 = true) (h28 : a28 = true) (h29 : a29 = true) (h30 : a30 = true) (h31 : a31 = true) :
    (a0 && a1 && a2 && a3 && a4 && a5 && a6 && a7 && a8 && a9 && a10 && a11 && a12 && a13 && a14 && a15 && a16 && a17 && a18 && a19 && a20 && a21 && a22 && a23 && a24 && a25 && a26 && a27 && a28 && a29 && a30 && a31) = true := by simp only [h0, h1, h2, h3, h4, h5, h6, h7, h8, h9, h10, h11, h12, h13, h14, h15, h16, h17, h18, h19, h20, h21, h22, h23, h24, h25, h26, h27, h28, h29, h30, h31, Bool.and_self]
end Go.Proofs.Ytdonomneofdhfaa
namespace Go.Proofs.Ytdonomneofdhfaa
open Go.ChangeShapes Go.WideShapes Go.ChangeAt Go.RowKit Go.GV
set_option maxRecDepth 100000 in
theorem lifted (os : Os) (started : os.Started) (H : Type) (enc : TypeId × Value → H) :
    ReturnsInHanded {} Try.checked os 11 .any (Rows.linesWrapsSpec.pre6 enc Try.prog Try.f11 Rows.linesWrapsRow.domain false) (Rows.linesWrapsSpec.post enc Try.prog Try.f11 false true false false) := by
  refine returnsInHanded_of_change_shaped (C := Try.checked) own started (by kernel_rfl) Try.func11
    (ChangeSpec.witness6 (enc := enc) (C := Try.checked) false ⟨#[], #[.string ⟨#[]⟩], []⟩ 8 (by kernel_rfl) (by kernel_rfl) (by kernel_rfl) (by kernel_rfl)) ?_
  intro W base args ds gs before hval0 hW hcnd hz hsh _
  have hval : ∀ (j : Nat) t v, Try.f11.params[j]? = some t → args[j]? = some v → Value.okWide Try.prog W .any base t v := hval0
  have hW' := hW
  obtain ⟨p, q, hA0, hV, rfl, hfz, hnd⟩ := hW
  have hA : DataW.TrodAll enc Try.prog W 0 (fun _ => true) true Try.f11.params.toList args.toList ds p := hA0
  rw [Try.params11] at hA hval hz
  obtain ⟨v0, vs0, d0, ds0, p0, q0, hargs, rfl, rfl, h0, r0⟩ := trodAll_cons hA
  obtain ⟨rfl, rfl, rfl⟩ := trodAll_nil r0
  obtain rfl : args = #[v0] := by cases args; simp_all
  obtain ⟨rfl, rfl⟩ := trodVars_none hV
  obtain ⟨x0, rfl⟩ := okWide_string Try.underlying9 (hval 0 9 v0 rfl rfl)
  have lt0 : ∀ x ∈ p0, x.block < W.heap.size := by obtain ⟨m, hm⟩ := h0; exact DataW.trod_lt m _ _ _ hm
  have hg : Glob (im W) := Try.laysM143.s1_3 W hsh
  have hx0 : x0.size ≤ 9223372036854775807 := by
    obtain ⟨m, hm⟩ := h0
    obtain ⟨s, e1, _, e2⟩ := DataW.trod_string Try.underlying9 hm
    simp only [Value.cells, List.cons.injEq, and_true, Value.string.injEq] at e1
    subst e1
    exact e2
  clear hA0 hval0
  refine (linesWraps_any x0 W hx0 hg).mono fun e W' ⟨v, he, bel, hv⟩ => ?_
  subst he hv
  exact ⟨_, rfl, _, _, _, [], _, [], hW', trodAll_mk1 (shut_bool Try.underlying4 _), (trodAll_cons_mk (Below.trod laidOut (by kernel_rfl) (of_decide_eq_true (by kernel_rfl)) h0 bel lt0) trodAll_mk0), rfl, bel.frame _, fun h => by cases h⟩
theorem c9 : (Rows.linesWrapsRow.inPlace == Try.prog.inPlace 11) = true := by kernel_rfl
theorem c10 : (Rows.linesWrapsRow.unfollowed == Try.prog.unfollowed 11) = true := by kernel_rfl
theorem c11 : (Rows.linesWrapsRow.recurses == Try.prog.recurses 11) = true := by kernel_rfl
theorem c12 : (Rows.linesWrapsRow.named == Try.prog.varsNamed 11) = true := by kernel_rfl
theorem closed : joinedFacts Try.prog 11 Try.f11 Rows.linesWrapsSpec Rows.linesWrapsRow = true :=
  jmk (by kernel_rfl) laidOut fMaps (by kernel_rfl) (by kernel_rfl) (by kernel_rfl) (by kernel_rfl) (by kernel_rfl) (by kernel_rfl) c9 c10 c11 c12 (by kernel_rfl) (by kernel_rfl) (by kernel_rfl) (by kernel_rfl) (by kernel_rfl) (by kernel_rfl) (by kernel_rfl) (by kernel_rfl) (by kernel_rfl) (by kernel_rfl) (by kernel_rfl) fHeard fEnter fLifts fMake (by kernel_rfl) (by kernel_rfl) (by kernel_rfl) (by kernel_rfl)
theorem named : Try.prog.funcNamed Rows.linesWrapsRow.func = some 11 := by kernel_rfl
theorem inst : Try.f11.isInstance Try.prog Rows.linesWrapsRow.origin Rows.linesWrapsRow.targs := of_decide_eq_true (by kernel_rfl)
theorem wrap : Try.f11.isWrapper Try.prog Rows.linesWrapsRow.wrapper Rows.linesWrapsRow.mainSum := by unfold Func.isWrapper; first | (rw [if_pos (by decide +kernel)]; kernel_rfl) | (rw [if_neg (by decide +kernel)]; exact ⟨rfl, rfl⟩)
theorem over : Rows.linesWrapsRow.holds Try.pinned (OpenSpec.ofChange Rows.linesWrapsSpec) :=
  OpenClaim.holds_of_wide 11 Try.f11 rfl rfl rfl rfl rfl rfl rfl ⟨rfl, rfl, rfl, rfl, rfl⟩ rfl rfl rfl rfl rfl named Try.func11 closed inst wrap
    (fun os started H enc _ => lifted os started H enc)
theorem linesWraps_proved : Rows.LinesWrapsSaid := over
#print axioms linesWraps_proved
end Go.Proofs.Ytdonomneofdhfaa
