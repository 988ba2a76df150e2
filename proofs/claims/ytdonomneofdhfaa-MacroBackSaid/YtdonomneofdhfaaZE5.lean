/- Part 5 of the lemmas behind the claim: U13, GK, U20, U21, L2, L3, L4, L5, A1, A2, C1, C2, C3, D1, T1, T2, T3, T4, J1, J2, U14, UB, S3, U15, U16, U17, U22, O1. -/
import Derived.Test.YtdonomneofdhfaaZE4
set_option linter.unusedSimpArgs false
set_option linter.unusedVariables false
namespace Go.Proofs.Ytdonomneofdhfaa
open Go.GV Go.RowKit
def joinT (L : List ByteArray) (sep : ByteArray) : ByteArray := ⟨(Lib.join (L.map (·.data.toList)) sep.data.toList).toArray⟩
theorem joinT_size (L : List ByteArray) (sep : ByteArray) : (joinT L sep).size = (Lib.join (L.map (·.data.toList)) sep.data.toList).length := by
  show (joinT L sep).data.size = _
  simp [joinT]
theorem join_any (L : List ByteArray) (x : Value) (sep : ByteArray) (w : World) (hx : SlAt (im w) x (strY.d L)) (hL : L.length ≤ 140737488355328) (hz : (joinT L sep).size ≤ 140737488355328) :
    Calls Try.prog 148 #[x, .string sep] w (PureP w fun v _ => v = .string (joinT L sep)) := by
  obtain ⟨A, c, rfl, h2, h3, h4⟩ := hx
  by_cases h0 : L.length = 0
  · have hl : L = [] := List.eq_nil_of_length_eq_zero h0
    subst hl
    refine (Try.strings_Join_none A c sep w).mono fun e w' ⟨h5, h6⟩ => ?_
    subst h6
    exact ⟨_, h5, Below.refl _ _, rfl⟩
  · obtain ⟨ad, rfl, h6⟩ := h4 (by show 0 < L.length; omega)
    have hcell : ∀ (j : Nat) x, L[j]? = some x → (im w).cell? (ad.add j) = some (.string x) := by
      intro j x hj
      have hjl : j < L.length := (List.getElem?_eq_some_iff.1 hj).1
      have := h6 j hjl 0 _ rfl
      have e1 : L.getD (j : Int).toNat (⟨#[]⟩ : ByteArray) = x := by
        rw [List.getD_eq_getElem?_getD, Int.toNat_natCast, hj]; rfl
      have e2 : j * (strY.d L).cs.length + 0 = j := by show j * 1 + 0 = j; omega
      rw [e2] at this
      rw [this]
      show some (Value.string (L.getD (j : Int).toNat ⟨#[]⟩)) = _
      rw [e1]
    obtain ⟨bk, o, sp⟩ := ad
    have h7 := hcell 0 (L.getD 0 ⟨#[]⟩) (by rw [List.getD_eq_getElem?_getD, List.getElem?_eq_getElem (by omega)]; rfl)
    have hsp : sp = none := by
      cases sp with
      | none => rfl
      | some q =>
        exfalso
        unfold Addr.add at h7
        rw [if_pos rfl] at h7
        unfold Im.cell? at h7
        split at h7
        · simp at h7
        · cases h7
    subst hsp
    have hbk : bk < w.heap.size := by
      unfold Im.cell? Addr.add at h7
      rw [if_pos rfl] at h7
      split at h7
      · rename_i h8
        exact (Array.getElem?_eq_some_iff.1 h8).1
      · cases h7
    refine (Try.strings_Join bk o c L sep w (fun j x hj => ?_) hbk hL (by exact h2) (by rw [← joinT_size]; exact hz)).mono fun e w' ⟨h5, h8⟩ => ⟨_, h5, h8, rfl⟩
    have h9 := hcell j x hj
    rw [← h9]
    show w.cell? _ = w.cell? _
    congr 1
    unfold Addr.add
    by_cases hj0 : j = 0
    · subst hj0; rfl
    · rw [if_neg (by simpa using hj0)]
def strL (s : ByteArray) : List UInt8 := s.data.toList
theorem strL_len (s : ByteArray) : (strL s).length = s.size := by
  show s.data.toList.length = s.data.size
  simp
def defB8 : ByteArray := ⟨#[35, 100, 101, 102, 105, 110, 101, 32]⟩
def comB : ByteArray := ⟨#[44]⟩
def dotB : ByteArray := ⟨#[46, 46, 46]⟩
def parA (m : MT) : List UInt8 := [40] ++ strL (joinT m.ps comB)
def parB (m : MT) : List UInt8 := if m.va && decide (0 < m.ps.length) then [44] else []
def parC (m : MT) : List UInt8 := if m.va then strL dotB else []
def parL (m : MT) : List UInt8 := if m.fn then parA m ++ parB m ++ parC m ++ [41] else []
def headL (m : MT) : List UInt8 := strL defB8 ++ strL m.name ++ parL m
def ptL (i : Nat) (t : PV) : List UInt8 := (if decide (i = 0) || t.space then [32] else []) ++ strL t.text
def bodyUp (B : List PV) : Nat → List UInt8
  | 0 => []
  | i + 1 => bodyUp B i ++ ptL i (B.getD i pv0)
def lineL (m : MT) : List UInt8 := headL m ++ bodyUp m.body m.body.length ++ [10]
def lineT (m : MT) : ByteArray := ⟨(lineL m).toArray⟩
theorem bodyUp_le (B : List PV) : ∀ {i j : Nat}, i ≤ j → (bodyUp B i).length ≤ (bodyUp B j).length := by
  intro i j h
  induction h with
  | refl => exact Nat.le_refl _
  | step _ ih => rw [bodyUp, List.length_append]; omega
set_option maxHeartbeats 2000000 in
set_option maxRecDepth 100000 in
theorem line_any (m : MT) (s : MA) (w : World) (hp : SlAt (im w) (.slice s.1 m.ps.length s.2.1) (strY.d m.ps)) (hb : SlAt (im w) (.slice s.2.2.1 m.body.length s.2.2.2) (pvY.d m.body)) (hn : m.ps.length ≤ 140737488355328)
    (hz : (lineL m).length ≤ 140737488355328) : Calls Try.prog 127 #[mVal m s] w (PureP w fun v _ => v = .string (lineT m)) := by
  have z1 : 8 + m.name.size + (parL m).length + (bodyUp m.body m.body.length).length + 1 ≤ 140737488355328 := by
    have := hz
    unfold lineL headL at this
    simp only [List.length_append, strL_len, List.length_singleton] at this
    rw [show defB8.size = 8 by rfl] at this
    omega
  obtain ⟨nm, fn, ps, va, B⟩ := m
  simp only at hp hb hn z1
  have hBn : B.length ≤ 9223372036854775807 := by
    obtain ⟨_, _, _, k2, k3, _⟩ := hb
    exact Nat.le_trans k2 k3
  obtain ⟨HL, hHL⟩ : ∃ x, x = headL ⟨nm, fn, ps, va, B⟩ := ⟨_, rfl⟩
  have hLine : lineT ⟨nm, fn, ps, va, B⟩ = ⟨(HL ++ bodyUp B B.length ++ [10]).toArray⟩ := by rw [hHL]; rfl
  have zH : HL.length + (bodyUp B B.length).length + 1 ≤ 140737488355328 := by
    rw [hHL]; unfold headL
    simp only [List.length_append, strL_len]
    rw [show defB8.size = 8 by rfl]
    omega
  refine x_fun tt_ok Try.func127 rfl rfl [] 0 [.v (mVal ⟨nm, fn, ps, va, B⟩ s)] rfl rfl rfl rfl (fun b hb => by cases hb) ?_
  refine x_vc tt_ok ?_
  refine xl_nilCell 1 5 byteY [.v (.pointer none)] [] rfl ?_
  refine xl_callSC (writeString_sc false [] defB8 (by show 0 + 8 ≤ _; omega)) (fun _ _ _ _ => trivial) trivial [1, 2] rfl rfl rfl rfl fn105 rfl rfl rfl rfl rfl rfl rfl (fun _ => rfl) (fun _ u1 hu1 _ => ?_)
  refine xl_go tt_ok ?_
  refine xl_callSC (writeString_sc true (strL defB8) nm (by rw [strL_len]; show 8 + nm.size ≤ _; omega)) (fun _ _ _ _ => trivial) trivial [1, 3] rfl rfl rfl rfl fn105 rfl rfl rfl rfl rfl rfl rfl (fun _ => rfl) (fun _ u2 hu2 _ => ?_)
  refine xl_go tt_ok ?_
  refine x_if (fun h => ?_) (fun h => ?_)
  · have h : fn = true := h
    subst h
    obtain ⟨J, hJ⟩ : ∃ x, x = joinT ps comB := ⟨_, rfl⟩
    have zp : (parL ⟨nm, true, ps, va, B⟩).length = 1 + J.size + (parB ⟨nm, true, ps, va, B⟩).length + (parC ⟨nm, true, ps, va, B⟩).length + 1 := by
      rw [hJ]; unfold parL parA; simp only [if_true, List.length_append, strL_len, List.length_singleton]
    have zJ := strL_len J
    obtain ⟨P0, hP0⟩ : ∃ x, x = strL defB8 ++ strL nm := ⟨_, rfl⟩
    have zP0 : P0.length = 8 + nm.size := by rw [hP0, List.length_append, strL_len, strL_len]; rfl
    have hHL2 : HL = P0 ++ [40] ++ strL J ++ parB ⟨nm, true, ps, va, B⟩ ++ parC ⟨nm, true, ps, va, B⟩ ++ [41] := by
      rw [hHL, hP0, hJ, headL, parL, if_pos rfl, parA]; simp
    have e0 : strL defB8 ++ nm.data.toList = P0 := by rw [hP0]; rfl
    simp only [e0]
    refine xl_callSC (writeByte_sc true P0 40 (by omega)) (fun _ _ _ _ => trivial) trivial [1, 4] rfl rfl rfl rfl fn103 rfl rfl rfl rfl rfl rfl rfl (fun _ => rfl) (fun _ u3 hu3 _ => ?_)
    refine xl_go tt_ok ?_
    refine xl_call0 (.string J) rfl rfl rfl rfl fn148 rfl rfl (fun E w' F hs => by rw [hJ]; exact join_any ps _ comB w' ((hp.le (hu1.trans (hu2.trans hu3))).imm hs.imm) hn (by rw [← hJ]; omega)) ?_
    refine xl_go tt_ok ?_
    refine xl_callSC (writeString_sc true (P0 ++ [40]) J (by simp only [List.length_append, List.length_singleton]; omega)) (fun _ _ _ _ => trivial) trivial [1, 5] rfl rfl rfl rfl fn105 rfl rfl rfl rfl rfl rfl rfl (fun _ => rfl) (fun _ u4 hu4 _ => ?_)
    refine xl_go tt_ok ?_
    obtain ⟨P1, hP1⟩ : ∃ x, x = P0 ++ [40] ++ strL J := ⟨_, rfl⟩
    have zP1 : P1.length = P0.length + 1 + J.size := by rw [hP1, List.length_append, List.length_append, strL_len]; rfl
    rw [← hP1] at hHL2
    have e1 : P0 ++ [40] ++ J.data.toList = P1 := by rw [hP1]; rfl
    simp only [e1]
    refine x_if (fun h => ?_) (fun h => ?_)
    · have h : (va && decide ((0 : Int) < ps.length)) = true := h
      rw [Bool.and_eq_true, decide_eq_true_eq] at h
      obtain ⟨hv, hl⟩ := h
      subst hv
      have hB : parB ⟨nm, true, ps, true, B⟩ = [44] := by unfold parB; rw [if_pos (by simp; omega)]
      have hC : parC ⟨nm, true, ps, true, B⟩ = strL dotB := rfl
      rw [hB, hC] at hHL2 zp
      simp only [List.length_singleton, show (strL dotB).length = 3 by rfl] at zp
      refine xl_callSC (writeByte_sc true P1 44 (by omega)) (fun _ _ _ _ => trivial) trivial [1, 6] rfl rfl rfl rfl fn103 rfl rfl rfl rfl rfl rfl rfl (fun _ => rfl) (fun _ u5 hu5 _ => ?_)
      refine xl_go tt_ok ?_
      refine x_ift rfl ?_
      refine xl_callSC (writeString_sc true (P1 ++ [44]) dotB (by simp only [List.length_append, List.length_singleton, show dotB.size = 3 by rfl]; omega)) (fun _ _ _ _ => trivial) trivial [1, 7] rfl rfl rfl rfl fn105 rfl rfl rfl rfl rfl rfl rfl (fun _ => rfl) (fun _ u6 hu6 _ => ?_)
      refine xl_go tt_ok ?_
      refine xl_callSC (writeByte_sc true (P1 ++ [44] ++ strL dotB) 41 (by simp only [List.length_append, List.length_singleton, show (strL dotB).length = 3 by rfl]; omega)) (fun _ _ _ _ => trivial) trivial [1, 8] rfl rfl rfl rfl fn103 rfl rfl rfl rfl rfl rfl rfl (fun _ => rfl) (fun _ u7 hu7 _ => ?_)
      refine xl_go tt_ok ?_
      have hle : (im w).le u7 := hu1.trans (hu2.trans (hu3.trans (hu4.trans (hu5.trans (hu6.trans hu7)))))
      rw [← hHL2]
      refine x_vc tt_ok ?_
      refine x_sl 31 rfl (hb.le (by first | exact hu1.trans hu2 | exact hle)) ?_
      refine x_loop (σ := Int × List UInt8) (fun (i, L) => ⟨[(33, .v (.int .i64 i)), (32, .v (.int .i64 (B.length : Int))), (31, .r 21), (3, .p 1 0)], [], [(1, .box 139 [.p 1 0, .r 20]), (20, .row 5 (byteY.d L)), (21, .sl (pvY.d B))], 22⟩)
        (fun (i, L) _ => 0 ≤ i ∧ i ≤ B.length ∧ L = HL ++ bodyUp B i.toNat) (fun (i, _) => ((B.length : Int) - i).toNat) (fun (_, _) => of_decide_eq_true rfl) (0, HL) [(21, some 10), (20, some 9)] (.of rfl rfl rfl rfl rfl rfl) ⟨by omega, by omega, by simp [bodyUp]⟩ ?_
      rintro ⟨i, L⟩ u8 hu8 ⟨g1, g2, g3⟩
      have hlen : L.length = HL.length + (bodyUp B i.toNat).length := by
        rw [g3, List.length_append]
      refine x_vc tt_ok ?_
      refine x_if (fun h4 => ?_) (fun h4 => ?_)
      · have h5 : i < B.length := of_decide_eq_true h4
        have hle2 := bodyUp_le B (show i.toNat + 1 ≤ B.length by omega)
        have hst : bodyUp B (i + 1).toNat = bodyUp B i.toNat ++ ptL i.toNat (B.getD i.toNat pv0) := by
          rw [show (i + 1).toNat = i.toNat + 1 by omega, bodyUp]
        rw [bodyUp, List.length_append, ptL, List.length_append, strL_len] at hle2
        repeat (refine And.intro ?_ ?_; first | omega | (simp only [Lay.d_n]; omega) | (simp only [decide_eq_true_eq, decide_eq_false_iff_not, Bool.or_eq_false_iff, Bool.and_eq_true, Bool.or_eq_true, Bool.and_eq_false_iff, Bool.not_eq_true', Bool.not_eq_false', Lay.d_n]; omega) | (simp only [decide_eq_true_eq, decide_eq_false_iff_not, Bool.or_eq_false_iff, Bool.and_eq_true, Bool.or_eq_true, Bool.and_eq_false_iff, Bool.not_eq_true', Bool.not_eq_false']; omega) | (simp only [decide_eq_true_eq, decide_eq_false_iff_not, Bool.or_eq_false_iff]; simp only [Lay.d_n]; omega))
        refine x_if (fun h6 => ?_) (fun h6 => ?_)
        · have h6' : (decide (i.toNat = 0) || (B.getD i.toNat pv0).space) = true := by
            have h6 : (decide (i = 0) || (B.getD i.toNat pv0).space) = true := h6
            rw [show decide (i.toNat = 0) = decide (i = 0) by (congr 1; exact propext ⟨fun h => by omega, fun h => by omega⟩)]; exact h6
          rw [if_pos h6', List.length_singleton] at hle2
          refine xl_callSC (writeByte_sc true L 32 (by omega)) (fun _ _ _ _ => trivial) trivial [1, 20] rfl rfl rfl rfl fn103 rfl rfl rfl rfl rfl rfl rfl (fun _ => rfl) (fun _ u9 hu9 _ => ?_)
          refine xl_go tt_ok ?_
          refine xl_callSC (writeString_sc true (L ++ [32]) (B.getD i.toNat pv0).text (by rw [List.length_append, List.length_singleton]; omega)) (fun _ _ _ _ => trivial) trivial [1, 23] rfl rfl rfl rfl fn105 rfl rfl rfl rfl rfl rfl rfl (fun _ => rfl) (fun _ u10 hu10 _ => ?_)
          refine xl_go tt_ok ?_
          repeat (refine And.intro ?_ ?_; first | omega | (simp only [Lay.d_n]; omega) | (simp only [decide_eq_true_eq, decide_eq_false_iff_not, Bool.or_eq_false_iff, Bool.and_eq_true, Bool.or_eq_true, Bool.and_eq_false_iff, Bool.not_eq_true', Bool.not_eq_false', Lay.d_n]; omega) | (simp only [decide_eq_true_eq, decide_eq_false_iff_not, Bool.or_eq_false_iff, Bool.and_eq_true, Bool.or_eq_true, Bool.and_eq_false_iff, Bool.not_eq_true', Bool.not_eq_false']; omega) | (simp only [decide_eq_true_eq, decide_eq_false_iff_not, Bool.or_eq_false_iff]; simp only [Lay.d_n]; omega))
          exact again (i + 1, _) [(20, some 24)] (.of rfl rfl rfl rfl rfl rfl) ⟨by omega, by omega, by rw [hst, g3, ptL, if_pos h6']; simp [strL]⟩ (by simp only; omega)
        · have h6' : (decide (i.toNat = 0) || (B.getD i.toNat pv0).space) = false := by
            have h6 : (decide (i = 0) || (B.getD i.toNat pv0).space) = false := h6
            rw [show decide (i.toNat = 0) = decide (i = 0) by (congr 1; exact propext ⟨fun h => by omega, fun h => by omega⟩)]; exact h6
          rw [if_neg (by rw [h6']; simp)] at hle2
          refine xl_callSC (writeString_sc true L (B.getD i.toNat pv0).text (by simp only [List.length_nil] at hle2; omega)) (fun _ _ _ _ => trivial) trivial [1, 20] rfl rfl rfl rfl fn105 rfl rfl rfl rfl rfl rfl rfl (fun _ => rfl) (fun _ u10 hu10 _ => ?_)
          refine xl_go tt_ok ?_
          repeat (refine And.intro ?_ ?_; first | omega | (simp only [Lay.d_n]; omega) | (simp only [decide_eq_true_eq, decide_eq_false_iff_not, Bool.or_eq_false_iff, Bool.and_eq_true, Bool.or_eq_true, Bool.and_eq_false_iff, Bool.not_eq_true', Bool.not_eq_false', Lay.d_n]; omega) | (simp only [decide_eq_true_eq, decide_eq_false_iff_not, Bool.or_eq_false_iff, Bool.and_eq_true, Bool.or_eq_true, Bool.and_eq_false_iff, Bool.not_eq_true', Bool.not_eq_false']; omega) | (simp only [decide_eq_true_eq, decide_eq_false_iff_not, Bool.or_eq_false_iff]; simp only [Lay.d_n]; omega))
          exact again (i + 1, _) [(20, some 23)] (.of rfl rfl rfl rfl rfl rfl) ⟨by omega, by omega, by rw [hst, g3, ptL, if_neg (by rw [h6']; simp)]; simp [strL]⟩ (by simp only; omega)
      · have h5 : ¬ i < B.length := of_decide_eq_false h4
        have hi : i.toNat = B.length := by omega
        rw [hi] at g3 hlen
        refine xl_callSC (writeByte_sc true L 10 (by omega)) (fun _ _ _ _ => trivial) trivial [1, 20] rfl rfl rfl rfl fn103 rfl rfl rfl rfl rfl rfl rfl (fun _ => rfl) (fun _ u9 hu9 _ => ?_)
        refine xl_go tt_ok ?_
        refine xl_callSC (string_sc true (L ++ [10]) (by simp)) (fun _ _ _ _ => trivial) trivial [1, 22] rfl rfl rfl rfl fn107 rfl rfl rfl rfl rfl rfl rfl (fun _ => rfl) (fun _ u10 hu10 _ => ?_)
        refine xl_go tt_ok ?_
        refine fin1 (fun _ _ => ?_)
        rw [hLine, ← g3]; rfl
    · have h : (va && decide ((0 : Int) < ps.length)) = false := h
      have hB : parB ⟨nm, true, ps, va, B⟩ = [] := by
        unfold parB
        rw [if_neg]
        rw [show (decide (0 < ps.length)) = decide ((0 : Int) < ps.length) by (congr 1; exact propext ⟨fun h => by omega, fun h => by omega⟩), h]
        simp
      refine x_if (fun h2 => ?_) (fun h2 => ?_)
      · have h2 : va = true := h2
        subst h2
        have hC : parC ⟨nm, true, ps, true, B⟩ = strL dotB := rfl
        rw [hB, hC, List.append_nil] at hHL2
        rw [hB, hC] at zp
        simp only [List.length_nil, show (strL dotB).length = 3 by rfl] at zp
        refine xl_callSC (writeString_sc true P1 dotB (by simp only [show dotB.size = 3 by rfl]; omega)) (fun _ _ _ _ => trivial) trivial [1, 6] rfl rfl rfl rfl fn105 rfl rfl rfl rfl rfl rfl rfl (fun _ => rfl) (fun _ u6 hu6 _ => ?_)
        refine xl_go tt_ok ?_
        refine xl_callSC (writeByte_sc true (P1 ++ strL dotB) 41 (by simp only [List.length_append, show (strL dotB).length = 3 by rfl]; omega)) (fun _ _ _ _ => trivial) trivial [1, 7] rfl rfl rfl rfl fn103 rfl rfl rfl rfl rfl rfl rfl (fun _ => rfl) (fun _ u7 hu7 _ => ?_)
        refine xl_go tt_ok ?_
        have hle : (im w).le u7 := hu1.trans (hu2.trans (hu3.trans (hu4.trans (hu6.trans hu7))))
        rw [← hHL2]
        refine x_vc tt_ok ?_
        refine x_sl 31 rfl (hb.le (by first | exact hu1.trans hu2 | exact hle)) ?_
        refine x_loop (σ := Int × List UInt8) (fun (i, L) => ⟨[(33, .v (.int .i64 i)), (32, .v (.int .i64 (B.length : Int))), (31, .r 21), (3, .p 1 0)], [], [(1, .box 139 [.p 1 0, .r 20]), (20, .row 5 (byteY.d L)), (21, .sl (pvY.d B))], 22⟩)
          (fun (i, L) _ => 0 ≤ i ∧ i ≤ B.length ∧ L = HL ++ bodyUp B i.toNat) (fun (i, _) => ((B.length : Int) - i).toNat) (fun (_, _) => of_decide_eq_true rfl) (0, HL) [(21, some 9), (20, some 8)] (.of rfl rfl rfl rfl rfl rfl) ⟨by omega, by omega, by simp [bodyUp]⟩ ?_
        rintro ⟨i, L⟩ u8 hu8 ⟨g1, g2, g3⟩
        have hlen : L.length = HL.length + (bodyUp B i.toNat).length := by
          rw [g3, List.length_append]
        refine x_vc tt_ok ?_
        refine x_if (fun h4 => ?_) (fun h4 => ?_)
        · have h5 : i < B.length := of_decide_eq_true h4
          have hle2 := bodyUp_le B (show i.toNat + 1 ≤ B.length by omega)
          have hst : bodyUp B (i + 1).toNat = bodyUp B i.toNat ++ ptL i.toNat (B.getD i.toNat pv0) := by
            rw [show (i + 1).toNat = i.toNat + 1 by omega, bodyUp]
          rw [bodyUp, List.length_append, ptL, List.length_append, strL_len] at hle2
          repeat (refine And.intro ?_ ?_; first | omega | (simp only [Lay.d_n]; omega) | (simp only [decide_eq_true_eq, decide_eq_false_iff_not, Bool.or_eq_false_iff, Bool.and_eq_true, Bool.or_eq_true, Bool.and_eq_false_iff, Bool.not_eq_true', Bool.not_eq_false', Lay.d_n]; omega) | (simp only [decide_eq_true_eq, decide_eq_false_iff_not, Bool.or_eq_false_iff, Bool.and_eq_true, Bool.or_eq_true, Bool.and_eq_false_iff, Bool.not_eq_true', Bool.not_eq_false']; omega) | (simp only [decide_eq_true_eq, decide_eq_false_iff_not, Bool.or_eq_false_iff]; simp only [Lay.d_n]; omega))
          refine x_if (fun h6 => ?_) (fun h6 => ?_)
          · have h6' : (decide (i.toNat = 0) || (B.getD i.toNat pv0).space) = true := by
              have h6 : (decide (i = 0) || (B.getD i.toNat pv0).space) = true := h6
              rw [show decide (i.toNat = 0) = decide (i = 0) by (congr 1; exact propext ⟨fun h => by omega, fun h => by omega⟩)]; exact h6
            rw [if_pos h6', List.length_singleton] at hle2
            refine xl_callSC (writeByte_sc true L 32 (by omega)) (fun _ _ _ _ => trivial) trivial [1, 20] rfl rfl rfl rfl fn103 rfl rfl rfl rfl rfl rfl rfl (fun _ => rfl) (fun _ u9 hu9 _ => ?_)
            refine xl_go tt_ok ?_
            refine xl_callSC (writeString_sc true (L ++ [32]) (B.getD i.toNat pv0).text (by rw [List.length_append, List.length_singleton]; omega)) (fun _ _ _ _ => trivial) trivial [1, 23] rfl rfl rfl rfl fn105 rfl rfl rfl rfl rfl rfl rfl (fun _ => rfl) (fun _ u10 hu10 _ => ?_)
            refine xl_go tt_ok ?_
            repeat (refine And.intro ?_ ?_; first | omega | (simp only [Lay.d_n]; omega) | (simp only [decide_eq_true_eq, decide_eq_false_iff_not, Bool.or_eq_false_iff, Bool.and_eq_true, Bool.or_eq_true, Bool.and_eq_false_iff, Bool.not_eq_true', Bool.not_eq_false', Lay.d_n]; omega) | (simp only [decide_eq_true_eq, decide_eq_false_iff_not, Bool.or_eq_false_iff, Bool.and_eq_true, Bool.or_eq_true, Bool.and_eq_false_iff, Bool.not_eq_true', Bool.not_eq_false']; omega) | (simp only [decide_eq_true_eq, decide_eq_false_iff_not, Bool.or_eq_false_iff]; simp only [Lay.d_n]; omega))
            exact again (i + 1, _) [(20, some 24)] (.of rfl rfl rfl rfl rfl rfl) ⟨by omega, by omega, by rw [hst, g3, ptL, if_pos h6']; simp [strL]⟩ (by simp only; omega)
          · have h6' : (decide (i.toNat = 0) || (B.getD i.toNat pv0).space) = false := by
              have h6 : (decide (i = 0) || (B.getD i.toNat pv0).space) = false := h6
              rw [show decide (i.toNat = 0) = decide (i = 0) by (congr 1; exact propext ⟨fun h => by omega, fun h => by omega⟩)]; exact h6
            rw [if_neg (by rw [h6']; simp)] at hle2
            refine xl_callSC (writeString_sc true L (B.getD i.toNat pv0).text (by simp only [List.length_nil] at hle2; omega)) (fun _ _ _ _ => trivial) trivial [1, 20] rfl rfl rfl rfl fn105 rfl rfl rfl rfl rfl rfl rfl (fun _ => rfl) (fun _ u10 hu10 _ => ?_)
            refine xl_go tt_ok ?_
            repeat (refine And.intro ?_ ?_; first | omega | (simp only [Lay.d_n]; omega) | (simp only [decide_eq_true_eq, decide_eq_false_iff_not, Bool.or_eq_false_iff, Bool.and_eq_true, Bool.or_eq_true, Bool.and_eq_false_iff, Bool.not_eq_true', Bool.not_eq_false', Lay.d_n]; omega) | (simp only [decide_eq_true_eq, decide_eq_false_iff_not, Bool.or_eq_false_iff, Bool.and_eq_true, Bool.or_eq_true, Bool.and_eq_false_iff, Bool.not_eq_true', Bool.not_eq_false']; omega) | (simp only [decide_eq_true_eq, decide_eq_false_iff_not, Bool.or_eq_false_iff]; simp only [Lay.d_n]; omega))
            exact again (i + 1, _) [(20, some 23)] (.of rfl rfl rfl rfl rfl rfl) ⟨by omega, by omega, by rw [hst, g3, ptL, if_neg (by rw [h6']; simp)]; simp [strL]⟩ (by simp only; omega)
        · have h5 : ¬ i < B.length := of_decide_eq_false h4
          have hi : i.toNat = B.length := by omega
          rw [hi] at g3 hlen
          refine xl_callSC (writeByte_sc true L 10 (by omega)) (fun _ _ _ _ => trivial) trivial [1, 20] rfl rfl rfl rfl fn103 rfl rfl rfl rfl rfl rfl rfl (fun _ => rfl) (fun _ u9 hu9 _ => ?_)
          refine xl_go tt_ok ?_
          refine xl_callSC (string_sc true (L ++ [10]) (by simp)) (fun _ _ _ _ => trivial) trivial [1, 22] rfl rfl rfl rfl fn107 rfl rfl rfl rfl rfl rfl rfl (fun _ => rfl) (fun _ u10 hu10 _ => ?_)
          refine xl_go tt_ok ?_
          refine fin1 (fun _ _ => ?_)
          rw [hLine, ← g3]; rfl
      · have h2 : va = false := h2
        subst h2
        have hC : parC ⟨nm, true, ps, false, B⟩ = [] := rfl
        rw [hB, hC, List.append_nil, List.append_nil] at hHL2
        rw [hB, hC] at zp
        simp only [List.length_nil] at zp
        refine xl_callSC (writeByte_sc true P1 41 (by omega)) (fun _ _ _ _ => trivial) trivial [1, 6] rfl rfl rfl rfl fn103 rfl rfl rfl rfl rfl rfl rfl (fun _ => rfl) (fun _ u7 hu7 _ => ?_)
        refine xl_go tt_ok ?_
        have hle : (im w).le u7 := hu1.trans (hu2.trans (hu3.trans (hu4.trans hu7)))
        rw [← hHL2]
        refine x_vc tt_ok ?_
        refine x_sl 31 rfl (hb.le (by first | exact hu1.trans hu2 | exact hle)) ?_
        refine x_loop (σ := Int × List UInt8) (fun (i, L) => ⟨[(33, .v (.int .i64 i)), (32, .v (.int .i64 (B.length : Int))), (31, .r 21), (3, .p 1 0)], [], [(1, .box 139 [.p 1 0, .r 20]), (20, .row 5 (byteY.d L)), (21, .sl (pvY.d B))], 22⟩)
          (fun (i, L) _ => 0 ≤ i ∧ i ≤ B.length ∧ L = HL ++ bodyUp B i.toNat) (fun (i, _) => ((B.length : Int) - i).toNat) (fun (_, _) => of_decide_eq_true rfl) (0, HL) [(21, some 8), (20, some 7)] (.of rfl rfl rfl rfl rfl rfl) ⟨by omega, by omega, by simp [bodyUp]⟩ ?_
        rintro ⟨i, L⟩ u8 hu8 ⟨g1, g2, g3⟩
        have hlen : L.length = HL.length + (bodyUp B i.toNat).length := by
          rw [g3, List.length_append]
        refine x_vc tt_ok ?_
        refine x_if (fun h4 => ?_) (fun h4 => ?_)
        · have h5 : i < B.length := of_decide_eq_true h4
          have hle2 := bodyUp_le B (show i.toNat + 1 ≤ B.length by omega)
          have hst : bodyUp B (i + 1).toNat = bodyUp B i.toNat ++ ptL i.toNat (B.getD i.toNat pv0) := by
            rw [show (i + 1).toNat = i.toNat + 1 by omega, bodyUp]
          rw [bodyUp, List.length_append, ptL, List.length_append, strL_len] at hle2
          repeat (refine And.intro ?_ ?_; first | omega | (simp only [Lay.d_n]; omega) | (simp only [decide_eq_true_eq, decide_eq_false_iff_not, Bool.or_eq_false_iff, Bool.and_eq_true, Bool.or_eq_true, Bool.and_eq_false_iff, Bool.not_eq_true', Bool.not_eq_false', Lay.d_n]; omega) | (simp only [decide_eq_true_eq, decide_eq_false_iff_not, Bool.or_eq_false_iff, Bool.and_eq_true, Bool.or_eq_true, Bool.and_eq_false_iff, Bool.not_eq_true', Bool.not_eq_false']; omega) | (simp only [decide_eq_true_eq, decide_eq_false_iff_not, Bool.or_eq_false_iff]; simp only [Lay.d_n]; omega))
          refine x_if (fun h6 => ?_) (fun h6 => ?_)
          · have h6' : (decide (i.toNat = 0) || (B.getD i.toNat pv0).space) = true := by
              have h6 : (decide (i = 0) || (B.getD i.toNat pv0).space) = true := h6
              rw [show decide (i.toNat = 0) = decide (i = 0) by (congr 1; exact propext ⟨fun h => by omega, fun h => by omega⟩)]; exact h6
            rw [if_pos h6', List.length_singleton] at hle2
            refine xl_callSC (writeByte_sc true L 32 (by omega)) (fun _ _ _ _ => trivial) trivial [1, 20] rfl rfl rfl rfl fn103 rfl rfl rfl rfl rfl rfl rfl (fun _ => rfl) (fun _ u9 hu9 _ => ?_)
            refine xl_go tt_ok ?_
            refine xl_callSC (writeString_sc true (L ++ [32]) (B.getD i.toNat pv0).text (by rw [List.length_append, List.length_singleton]; omega)) (fun _ _ _ _ => trivial) trivial [1, 23] rfl rfl rfl rfl fn105 rfl rfl rfl rfl rfl rfl rfl (fun _ => rfl) (fun _ u10 hu10 _ => ?_)
            refine xl_go tt_ok ?_
            repeat (refine And.intro ?_ ?_; first | omega | (simp only [Lay.d_n]; omega) | (simp only [decide_eq_true_eq, decide_eq_false_iff_not, Bool.or_eq_false_iff, Bool.and_eq_true, Bool.or_eq_true, Bool.and_eq_false_iff, Bool.not_eq_true', Bool.not_eq_false', Lay.d_n]; omega) | (simp only [decide_eq_true_eq, decide_eq_false_iff_not, Bool.or_eq_false_iff, Bool.and_eq_true, Bool.or_eq_true, Bool.and_eq_false_iff, Bool.not_eq_true', Bool.not_eq_false']; omega) | (simp only [decide_eq_true_eq, decide_eq_false_iff_not, Bool.or_eq_false_iff]; simp only [Lay.d_n]; omega))
            exact again (i + 1, _) [(20, some 24)] (.of rfl rfl rfl rfl rfl rfl) ⟨by omega, by omega, by rw [hst, g3, ptL, if_pos h6']; simp [strL]⟩ (by simp only; omega)
          · have h6' : (decide (i.toNat = 0) || (B.getD i.toNat pv0).space) = false := by
              have h6 : (decide (i = 0) || (B.getD i.toNat pv0).space) = false := h6
              rw [show decide (i.toNat = 0) = decide (i = 0) by (congr 1; exact propext ⟨fun h => by omega, fun h => by omega⟩)]; exact h6
            rw [if_neg (by rw [h6']; simp)] at hle2
            refine xl_callSC (writeString_sc true L (B.getD i.toNat pv0).text (by simp only [List.length_nil] at hle2; omega)) (fun _ _ _ _ => trivial) trivial [1, 20] rfl rfl rfl rfl fn105 rfl rfl rfl rfl rfl rfl rfl (fun _ => rfl) (fun _ u10 hu10 _ => ?_)
            refine xl_go tt_ok ?_
            repeat (refine And.intro ?_ ?_; first | omega | (simp only [Lay.d_n]; omega) | (simp only [decide_eq_true_eq, decide_eq_false_iff_not, Bool.or_eq_false_iff, Bool.and_eq_true, Bool.or_eq_true, Bool.and_eq_false_iff, Bool.not_eq_true', Bool.not_eq_false', Lay.d_n]; omega) | (simp only [decide_eq_true_eq, decide_eq_false_iff_not, Bool.or_eq_false_iff, Bool.and_eq_true, Bool.or_eq_true, Bool.and_eq_false_iff, Bool.not_eq_true', Bool.not_eq_false']; omega) | (simp only [decide_eq_true_eq, decide_eq_false_iff_not, Bool.or_eq_false_iff]; simp only [Lay.d_n]; omega))
            exact again (i + 1, _) [(20, some 23)] (.of rfl rfl rfl rfl rfl rfl) ⟨by omega, by omega, by rw [hst, g3, ptL, if_neg (by rw [h6']; simp)]; simp [strL]⟩ (by simp only; omega)
        · have h5 : ¬ i < B.length := of_decide_eq_false h4
          have hi : i.toNat = B.length := by omega
          rw [hi] at g3 hlen
          refine xl_callSC (writeByte_sc true L 10 (by omega)) (fun _ _ _ _ => trivial) trivial [1, 20] rfl rfl rfl rfl fn103 rfl rfl rfl rfl rfl rfl rfl (fun _ => rfl) (fun _ u9 hu9 _ => ?_)
          refine xl_go tt_ok ?_
          refine xl_callSC (string_sc true (L ++ [10]) (by simp)) (fun _ _ _ _ => trivial) trivial [1, 22] rfl rfl rfl rfl fn107 rfl rfl rfl rfl rfl rfl rfl (fun _ => rfl) (fun _ u10 hu10 _ => ?_)
          refine xl_go tt_ok ?_
          refine fin1 (fun _ _ => ?_)
          rw [hLine, ← g3]; rfl
  · have h : fn = false := h
    subst h
    refine x_vc tt_ok ?_
    refine x_sl 31 rfl (hb.le (by first | exact hu1.trans hu2 | exact hle)) ?_
    refine x_loop (σ := Int × List UInt8) (fun (i, L) => ⟨[(33, .v (.int .i64 i)), (32, .v (.int .i64 (B.length : Int))), (31, .r 21), (3, .p 1 0)], [], [(1, .box 139 [.p 1 0, .r 20]), (20, .row 5 (byteY.d L)), (21, .sl (pvY.d B))], 22⟩)
      (fun (i, L) _ => 0 ≤ i ∧ i ≤ B.length ∧ L = HL ++ bodyUp B i.toNat) (fun (i, _) => ((B.length : Int) - i).toNat) (fun (_, _) => of_decide_eq_true rfl) (0, strL defB8 ++ strL nm) [(21, some 5), (20, some 4)] (.of rfl rfl rfl rfl rfl rfl) ⟨by omega, by omega, by rw [hHL]; simp [headL, parL, bodyUp]⟩ ?_
    rintro ⟨i, L⟩ u8 hu8 ⟨g1, g2, g3⟩
    have hlen : L.length = HL.length + (bodyUp B i.toNat).length := by
      rw [g3, List.length_append]
    refine x_vc tt_ok ?_
    refine x_if (fun h4 => ?_) (fun h4 => ?_)
    · have h5 : i < B.length := of_decide_eq_true h4
      have hle2 := bodyUp_le B (show i.toNat + 1 ≤ B.length by omega)
      have hst : bodyUp B (i + 1).toNat = bodyUp B i.toNat ++ ptL i.toNat (B.getD i.toNat pv0) := by
        rw [show (i + 1).toNat = i.toNat + 1 by omega, bodyUp]
      rw [bodyUp, List.length_append, ptL, List.length_append, strL_len] at hle2
      repeat (refine And.intro ?_ ?_; first | omega | (simp only [Lay.d_n]; omega) | (simp only [decide_eq_true_eq, decide_eq_false_iff_not, Bool.or_eq_false_iff, Bool.and_eq_true, Bool.or_eq_true, Bool.and_eq_false_iff, Bool.not_eq_true', Bool.not_eq_false', Lay.d_n]; omega) | (simp only [decide_eq_true_eq, decide_eq_false_iff_not, Bool.or_eq_false_iff, Bool.and_eq_true, Bool.or_eq_true, Bool.and_eq_false_iff, Bool.not_eq_true', Bool.not_eq_false']; omega) | (simp only [decide_eq_true_eq, decide_eq_false_iff_not, Bool.or_eq_false_iff]; simp only [Lay.d_n]; omega))
      refine x_if (fun h6 => ?_) (fun h6 => ?_)
      · have h6' : (decide (i.toNat = 0) || (B.getD i.toNat pv0).space) = true := by
          have h6 : (decide (i = 0) || (B.getD i.toNat pv0).space) = true := h6
          rw [show decide (i.toNat = 0) = decide (i = 0) by (congr 1; exact propext ⟨fun h => by omega, fun h => by omega⟩)]; exact h6
        rw [if_pos h6', List.length_singleton] at hle2
        refine xl_callSC (writeByte_sc true L 32 (by omega)) (fun _ _ _ _ => trivial) trivial [1, 20] rfl rfl rfl rfl fn103 rfl rfl rfl rfl rfl rfl rfl (fun _ => rfl) (fun _ u9 hu9 _ => ?_)
        refine xl_go tt_ok ?_
        refine xl_callSC (writeString_sc true (L ++ [32]) (B.getD i.toNat pv0).text (by rw [List.length_append, List.length_singleton]; omega)) (fun _ _ _ _ => trivial) trivial [1, 23] rfl rfl rfl rfl fn105 rfl rfl rfl rfl rfl rfl rfl (fun _ => rfl) (fun _ u10 hu10 _ => ?_)
        refine xl_go tt_ok ?_
        repeat (refine And.intro ?_ ?_; first | omega | (simp only [Lay.d_n]; omega) | (simp only [decide_eq_true_eq, decide_eq_false_iff_not, Bool.or_eq_false_iff, Bool.and_eq_true, Bool.or_eq_true, Bool.and_eq_false_iff, Bool.not_eq_true', Bool.not_eq_false', Lay.d_n]; omega) | (simp only [decide_eq_true_eq, decide_eq_false_iff_not, Bool.or_eq_false_iff, Bool.and_eq_true, Bool.or_eq_true, Bool.and_eq_false_iff, Bool.not_eq_true', Bool.not_eq_false']; omega) | (simp only [decide_eq_true_eq, decide_eq_false_iff_not, Bool.or_eq_false_iff]; simp only [Lay.d_n]; omega))
        exact again (i + 1, _) [(20, some 24)] (.of rfl rfl rfl rfl rfl rfl) ⟨by omega, by omega, by rw [hst, g3, ptL, if_pos h6']; simp [strL]⟩ (by simp only; omega)
      · have h6' : (decide (i.toNat = 0) || (B.getD i.toNat pv0).space) = false := by
          have h6 : (decide (i = 0) || (B.getD i.toNat pv0).space) = false := h6
          rw [show decide (i.toNat = 0) = decide (i = 0) by (congr 1; exact propext ⟨fun h => by omega, fun h => by omega⟩)]; exact h6
        rw [if_neg (by rw [h6']; simp)] at hle2
        refine xl_callSC (writeString_sc true L (B.getD i.toNat pv0).text (by simp only [List.length_nil] at hle2; omega)) (fun _ _ _ _ => trivial) trivial [1, 20] rfl rfl rfl rfl fn105 rfl rfl rfl rfl rfl rfl rfl (fun _ => rfl) (fun _ u10 hu10 _ => ?_)
        refine xl_go tt_ok ?_
        repeat (refine And.intro ?_ ?_; first | omega | (simp only [Lay.d_n]; omega) | (simp only [decide_eq_true_eq, decide_eq_false_iff_not, Bool.or_eq_false_iff, Bool.and_eq_true, Bool.or_eq_true, Bool.and_eq_false_iff, Bool.not_eq_true', Bool.not_eq_false', Lay.d_n]; omega) | (simp only [decide_eq_true_eq, decide_eq_false_iff_not, Bool.or_eq_false_iff, Bool.and_eq_true, Bool.or_eq_true, Bool.and_eq_false_iff, Bool.not_eq_true', Bool.not_eq_false']; omega) | (simp only [decide_eq_true_eq, decide_eq_false_iff_not, Bool.or_eq_false_iff]; simp only [Lay.d_n]; omega))
        exact again (i + 1, _) [(20, some 23)] (.of rfl rfl rfl rfl rfl rfl) ⟨by omega, by omega, by rw [hst, g3, ptL, if_neg (by rw [h6']; simp)]; simp [strL]⟩ (by simp only; omega)
    · have h5 : ¬ i < B.length := of_decide_eq_false h4
      have hi : i.toNat = B.length := by omega
      rw [hi] at g3 hlen
      refine xl_callSC (writeByte_sc true L 10 (by omega)) (fun _ _ _ _ => trivial) trivial [1, 20] rfl rfl rfl rfl fn103 rfl rfl rfl rfl rfl rfl rfl (fun _ => rfl) (fun _ u9 hu9 _ => ?_)
      refine xl_go tt_ok ?_
      refine xl_callSC (string_sc true (L ++ [10]) (by simp)) (fun _ _ _ _ => trivial) trivial [1, 22] rfl rfl rfl rfl fn107 rfl rfl rfl rfl rfl rfl rfl (fun _ => rfl) (fun _ u10 hu10 _ => ?_)
      refine xl_go tt_ok ?_
      refine fin1 (fun _ _ => ?_)
      rw [hLine, ← g3]; rfl
end Go.Proofs.Ytdonomneofdhfaa
namespace Go.GV
open Go.RowKit
theorem x_slCell {C : Cx} {cc : Code} {Q : Post} {kn : Kn} {gk : List (Nat × (Gd × SV))} {ow : Own} {nx : Nat} {u : Im} (k : Nat) {x : Value} {D : Data} {t : Nat} (cs ds : List SV) (hk : look ow k = some (.box t (cs ++ .v x :: ds))) (hx : SlAt u x D)
    (h : X C cc Q ⟨kn, gk, (nx, .sl D) :: (k, .box t (cs ++ .r nx :: ds)) :: ow, nx + 1⟩ u) : X C cc Q ⟨kn, gk, ow, nx⟩ u := by
  unfold X at h ⊢
  intro E a w hok
  obtain ⟨f, hsat⟩ := hok.sat
  have hE : ∀ k, k < nx → upd E nx x k = E k := fun k hk => upd_other _ _ (by omega)
  have hs1 : Sat (upd E nx x) ((nx, .sl D) :: ow) (nx + 1) u a.defers w (upd f nx (fun _ => False)) := by
    refine hsat.step (fun k => k = nx) hE (Nat.le_succ _) (Im.le.refl u) hsat.imm (Nat.le_refl _) (fun b _ _ => rfl) ?_ ?_ ?_ (fun b o ho => .inl ho)
    · intro k hk
      exact ⟨by rw [look_cons, if_neg (fun e => hk e.symm)], fun b => by rw [upd_other _ _ hk]⟩
    · rintro k rfl
      refine ⟨fun r hr => ?_, fun hr => ?_, fun b hb => ?_⟩
      · rw [look_cons, if_pos rfl] at hr
        cases hr
        refine ⟨⟨by rw [upd_same]; exact hx, fun y hy => by rw [upd_same] at hy; exact hy⟩, Nat.lt_succ_self _, trivial⟩
      · rw [look_cons, if_pos rfl] at hr; cases hr
      · rw [upd_same] at hb; exact hb.elim
    · intro k k' b hk hk' hne; subst hk hk'; exact absurd rfl hne
  obtain ⟨A, c, hv⟩ := hx.form
  have hkl : k < nx := (hsat.lt k _ hk).1
  have hkn : k ≠ nx := by omega
  have hold := hs1.holds k (.box t (cs ++ .v x :: ds)) (by rw [look_cons, if_neg (fun e1 => hkn e1.symm)]; exact hk)
  have hltold := (hsat.lt k _ hk).2
  have hs2 : Sat (upd E nx x) ((nx, .sl D) :: (k, .box t (cs ++ .r nx :: ds)) :: ow) (nx + 1) u a.defers w (upd f nx (fun _ => False)) := by
    refine ⟨fun j r hl => ?_, fun j hl b hb => ?_, hs1.apart, hs1.off, fun j r hl => ?_, hs1.imm, hs1.marks⟩
    · rw [look_cons] at hl
      split at hl
      · rename_i e1; exact hs1.holds j r (by rw [look_cons, if_pos e1]; exact hl)
      · rename_i e1
        rw [look_cons] at hl
        split at hl
        · rename_i e2
          subst e2
          cases hl
          obtain ⟨b, q1, q2, q3⟩ := hold
          refine ⟨b, q1, q2, ?_⟩
          rw [q3]
          simp [SV.den, upd_same]
        · exact hs1.holds j r (by rw [look_cons, if_neg e1]; exact hl)
    · refine hs1.non j ?_ b hb
      rw [look_cons] at hl ⊢
      split at hl
      · cases hl
      · rename_i e1
        rw [if_neg e1]
        rw [look_cons] at hl
        split at hl
        · cases hl
        · exact hl
    · rw [look_cons] at hl
      split at hl
      · rename_i e1; exact hs1.lt j r (by rw [look_cons, if_pos e1]; exact hl)
      · rename_i e1
        rw [look_cons] at hl
        split at hl
        · rename_i e2
          subst e2
          cases hl
          refine ⟨by omega, fun y hy => ?_⟩
          have hy' := List.mem_append.1 hy
          rcases hy' with hy' | hy'
          · exact SV.lt_mono hE (Nat.le_succ _) (hltold y (List.mem_append_left _ hy'))
          · rcases List.mem_cons.1 hy' with rfl | hy'
            · exact ⟨Nat.lt_succ_self _, A, D.n, c, by rw [upd_same]; exact hv⟩
            · exact SV.lt_mono hE (Nat.le_succ _) (hltold y (List.mem_append_right _ (List.mem_cons_of_mem _ hy')))
        · exact hs1.lt j r (by rw [look_cons, if_neg e1]; exact hl)
  have hg := hok.agr.grow (E' := upd E nx x) (ow := (nx, .sl D) :: (k, .box t (cs ++ .r nx :: ds)) :: ow) (nx := nx + 1) hE (Nat.le_succ _)
  have := h (upd E nx x) a w ⟨hg, _, hs2⟩
  exact Go.wpIn_mono this fun e a w => SemQ.mono hE (Nat.le_succ _) (Im.le.refl u)
theorem xd_min {C : Cx} {all : List Oper} {o : Oper} {r : List Oper} {Q : St → Prop} {st : St} {u : Im} {d : Nat} {x y : Operand} {ts : Array TypeId} {k k' : IntKind} {m n : Int} (q : Int) (hq : (if n < m then n else m) = q)
    (ho : o.op = .call { callee := .builtin .min, args := #[x, y], argTypes := ts }) (hgd : o.guard = none) (hd : o.dst = some d) (hfr : fresh C.N st d [] = true)
    (hx : opd st [] x = some (.v (.int k m))) (hy : opd st [] y = some (.v (.int k' n)))
    (K : XD C all r Q (st.put d [] (.v (.int k q))) u) : XD C all (o :: r) Q st u := by
  subst hq
  refine xd_sv (.v (.int k (if n < m then n else m))) hgd hd (fun c' hc' => by rw [ho] at hc'; cases hc') hfr (fun E a w hok => ?_) K
  have hgs : gs a.tmps [] := fun x hx => by cases hx
  obtain ⟨e1, _⟩ := opd_sound hok.agr hgs hx
  obtain ⟨e2, _⟩ := opd_sound hok.agr hgs hy
  simp only [SV.den] at e1 e2
  have hm := run_min_int2 (P := C.P) (w := w) ts o.type k k' m n
  refine ⟨?_, trivial⟩
  simp only [execOp, ho, resolve]
  simp [invoke, builtin, e1, e2, hm, SV.den]
end Go.GV
namespace Go.Proofs.Ytdonomneofdhfaa
open Go.GV Go.RowKit
def capZ (n : Int) : Int := if (3000 : Int) < n then 3000 else n
def grP (ps : List ByteArray) : Nat → Int
  | 0 => 0
  | i + 1 => grP ps i + (1 + capZ ((ps.getD i ⟨#[]⟩).size : Int))
def grB (B : List PV) : Nat → Int
  | 0 => 0
  | i + 1 => grB B i + (1 + capZ ((B.getD i pv0).text.size : Int) + ((B.getD i pv0).pn : Int))
def grN (m : MT) : Int := (m.name.size : Int) + grP m.ps (min m.ps.length 300) + grB m.body (min m.body.length 300)
def greatB (m : MT) : Bool := decide (2000 < grN m) || decide (200 < (m.ps.length : Int)) || decide (200 < (m.body.length : Int))
theorem capZ_b {n : Int} (h : 0 ≤ n) : 0 ≤ capZ n ∧ capZ n ≤ 3000 ∧ capZ n ≤ n := by
  unfold capZ; split <;> omega
theorem grP_b (ps : List ByteArray) : ∀ i, 0 ≤ grP ps i ∧ grP ps i ≤ 3001 * i
  | 0 => ⟨Int.le_refl _, by simp [grP]⟩
  | i + 1 => by
    have ih := grP_b ps i
    have hc := capZ_b (n := ((ps.getD i ⟨#[]⟩).size : Int)) (by omega)
    unfold grP
    constructor
    · omega
    · push_cast; omega
theorem grB_b (B : List PV) (hz : ∀ i, (B.getD i pv0).pn ≤ 140737488355328) : ∀ i, 0 ≤ grB B i ∧ grB B i ≤ 140737488358329 * i
  | 0 => ⟨Int.le_refl _, by simp [grB]⟩
  | i + 1 => by
    have ih := grB_b B hz i
    have hc := capZ_b (n := ((B.getD i pv0).text.size : Int)) (by omega)
    have hz := hz i
    unfold grB
    constructor
    · omega
    · push_cast; omega
set_option maxHeartbeats 2000000 in
set_option maxRecDepth 100000 in
theorem great_any (m : MT) (s : MA) (w : World) (hp : SlAt (im w) (.slice s.1 m.ps.length s.2.1) (strY.d m.ps)) (hb : SlAt (im w) (.slice s.2.2.1 m.body.length s.2.2.2) (pvY.d m.body)) (hn : m.name.size ≤ 140737488355328)
    (hz : ∀ i, (m.body.getD i pv0).pn ≤ 140737488355328) : Calls Try.prog 82 #[mVal m s] w (PureP w fun v _ => v = .bool (greatB m)) := by
  unfold greatB grN
  obtain ⟨nm, fn, ps, va, B⟩ := m
  simp only at hp hb hn hz ⊢
  have hgP := grP_b ps
  have hgB := grB_b B hz
  refine x_fun tt_ok Try.func82 rfl rfl [] 0 [.v (mVal ⟨nm, fn, ps, va, B⟩ s)] rfl rfl rfl rfl (fun b hb => by cases hb) ?_
  refine x_vc tt_ok ?_
  refine x_slCell 0 [.v (.string nm), .v (.bool fn)] [.v (.bool va), .v (.slice s.2.2.1 B.length s.2.2.2)] rfl hp ?_
  refine x_slCell 0 [.v (.string nm), .v (.bool fn), .r 1, .v (.bool va)] [] rfl hb ?_
  refine x_loop (σ := Int × Int) (fun (i, v) => ⟨[(4, .v (.int .i64 i)), (3, .v (.int .i64 v)), (1, .p 0 0)], [], [(0, .box 36 [.v (.string nm), .v (.bool fn), .r 1, .v (.bool va), .r 2]), (1, .sl (strY.d ps)), (2, .sl (pvY.d B))], 3⟩)
    (fun (i, v) _ => 0 ≤ i ∧ i ≤ ps.length ∧ i ≤ 300 ∧ v = nm.size + grP ps i.toNat) (fun (i, _) => ((ps.length : Int) - i).toNat) (fun (_, _) => Nat.le_refl 3) (0, nm.size) [] (.of rfl rfl rfl rfl rfl rfl) ⟨by omega, by omega, by omega, by simp [grP]⟩ ?_
  rintro ⟨i, v⟩ u hu ⟨g1, g2, g3, g4⟩
  have hgi := hgP i.toNat
  refine x_vc tt_ok ?_
  refine x_if (fun h => ?_) (fun h => ?_)
  · have h : (decide (i < (ps.length : Int)) && decide (i < 300)) = true := h
    rw [Bool.and_eq_true, decide_eq_true_eq, decide_eq_true_eq] at h
    have hc := capZ_b (n := ((ps.getD i.toNat ⟨#[]⟩).size : Int)) (by omega)
    have hst : grP ps (i + 1).toNat = grP ps i.toNat + (1 + capZ ((ps.getD i.toNat ⟨#[]⟩).size : Int)) := by
      rw [show (i + 1).toNat = i.toNat + 1 by omega, grP]
    repeat (refine And.intro ?_ ?_; first | omega | (simp only [Lay.d_n]; omega) | (simp only [decide_eq_true_eq, decide_eq_false_iff_not, Bool.or_eq_false_iff, Bool.and_eq_true, Bool.or_eq_true, Bool.and_eq_false_iff, Bool.not_eq_true', Bool.not_eq_false', Lay.d_n]; omega) | (simp only [decide_eq_true_eq, decide_eq_false_iff_not, Bool.or_eq_false_iff, Bool.and_eq_true, Bool.or_eq_true, Bool.and_eq_false_iff, Bool.not_eq_true', Bool.not_eq_false']; omega) | (simp only [decide_eq_true_eq, decide_eq_false_iff_not, Bool.or_eq_false_iff]; simp only [Lay.d_n]; omega))
    refine xl_min rfl rfl rfl rfl rfl rfl ?_
    refine xl_eqv 28 (.int .i64 (capZ ((ps.getD i.toNat ⟨#[]⟩).size : Int))) rfl rfl ?_
    refine xl_go tt_ok ?_
    repeat (refine And.intro ?_ ?_; first | omega | (simp only [Lay.d_n]; omega) | (simp only [decide_eq_true_eq, decide_eq_false_iff_not, Bool.or_eq_false_iff, Bool.and_eq_true, Bool.or_eq_true, Bool.and_eq_false_iff, Bool.not_eq_true', Bool.not_eq_false', Lay.d_n]; omega) | (simp only [decide_eq_true_eq, decide_eq_false_iff_not, Bool.or_eq_false_iff, Bool.and_eq_true, Bool.or_eq_true, Bool.and_eq_false_iff, Bool.not_eq_true', Bool.not_eq_false']; omega) | (simp only [decide_eq_true_eq, decide_eq_false_iff_not, Bool.or_eq_false_iff]; simp only [Lay.d_n]; omega))
    exact again (i + 1, v + 1 + capZ ((ps.getD i.toNat ⟨#[]⟩).size : Int)) [] (.of rfl rfl rfl rfl rfl rfl) ⟨by omega, by omega, by omega, by rw [hst, g4]; omega⟩ (by simp only; omega)
  · have h : (decide (i < (ps.length : Int)) && decide (i < 300)) = false := h
    rw [Bool.and_eq_false_iff, decide_eq_false_iff_not, decide_eq_false_iff_not] at h
    have hi : i.toNat = min ps.length 300 := by omega
    rw [hi] at g4 hgi
    obtain ⟨n0, hn0⟩ : ∃ n0, n0 = (nm.size : Int) + grP ps (min ps.length 300) := ⟨_, rfl⟩
    rw [← hn0] at g4 ⊢
    have hn1 : 0 ≤ n0 ∧ n0 ≤ 140737488355328 + 3001 * 300 := by
      have : min ps.length 300 ≤ 300 := Nat.min_le_right _ _
      omega
    subst g4
    refine x_vc tt_ok ?_
    refine x_loop (σ := Int × Int) (fun (i, v) => ⟨[(5, .v (.int .i64 i)), (3, .v (.int .i64 v)), (1, .p 0 0)], [], [(0, .box 36 [.v (.string nm), .v (.bool fn), .r 1, .v (.bool va), .r 2]), (1, .sl (strY.d ps)), (2, .sl (pvY.d B))], 3⟩)
      (fun (i, x) _ => 0 ≤ i ∧ i ≤ B.length ∧ i ≤ 300 ∧ x = v + grB B i.toNat) (fun (i, _) => ((B.length : Int) - i).toNat) (fun (_, _) => Nat.le_refl 3) (0, v) [] (.of rfl rfl rfl rfl rfl rfl) ⟨by omega, by omega, by omega, by simp [grB]⟩ ?_
    clear hi hgi g1 g2 g3 h
    rintro ⟨j, v2⟩ u2 hu2 ⟨g1, g2, g3, g4⟩
    have hgj := hgB j.toNat
    refine x_vc tt_ok ?_
    refine x_if (fun h => ?_) (fun h => ?_)
    · have h : (decide (j < (B.length : Int)) && decide (j < 300)) = true := h
      rw [Bool.and_eq_true, decide_eq_true_eq, decide_eq_true_eq] at h
      have hc := capZ_b (n := ((B.getD j.toNat pv0).text.size : Int)) (by omega)
      have hzj : (B.getD j.toNat pvY.dft).pn ≤ 140737488355328 := hz j.toNat
      have hst : grB B (j + 1).toNat = grB B j.toNat + (1 + capZ ((B.getD j.toNat pv0).text.size : Int) + ((B.getD j.toNat pv0).pn : Int)) := by
        rw [show (j + 1).toNat = j.toNat + 1 by omega, grB]
      refine x_drawA mix ?_
      refine xa_phase tt_ok (fuel := 1) [0, 1, 2, 3, 4, 5, 6, 7, 8, 9, 10, 11, 12, 13, 14, 15, 16, 17, 18] rfl (by kernel_rfl) (by kernel_rfl) (by kernel_rfl) (phaseB_of 18 (by kernel_rfl)) ?_
      refine xd_go tt_ok ?_
      repeat (refine And.intro ?_ ?_; first | omega | (simp only [Lay.d_n]; omega) | (simp only [decide_eq_true_eq, decide_eq_false_iff_not, Bool.or_eq_false_iff, Bool.and_eq_true, Bool.or_eq_true, Bool.and_eq_false_iff, Bool.not_eq_true', Bool.not_eq_false', Lay.d_n]; omega) | (simp only [decide_eq_true_eq, decide_eq_false_iff_not, Bool.or_eq_false_iff, Bool.and_eq_true, Bool.or_eq_true, Bool.and_eq_false_iff, Bool.not_eq_true', Bool.not_eq_false']; omega) | (simp only [decide_eq_true_eq, decide_eq_false_iff_not, Bool.or_eq_false_iff]; simp only [Lay.d_n]; omega))
      refine xd_min (capZ ((B.getD j.toNat pv0).text.size : Int)) rfl rfl rfl rfl rfl rfl rfl ?_
      refine xd_go tt_ok ?_
      repeat (refine And.intro ?_ ?_; first | omega | (simp only [Lay.d_n]; omega) | (simp only [decide_eq_true_eq, decide_eq_false_iff_not, Bool.or_eq_false_iff, Bool.and_eq_true, Bool.or_eq_true, Bool.and_eq_false_iff, Bool.not_eq_true', Bool.not_eq_false', Lay.d_n]; omega) | (simp only [decide_eq_true_eq, decide_eq_false_iff_not, Bool.or_eq_false_iff, Bool.and_eq_true, Bool.or_eq_true, Bool.and_eq_false_iff, Bool.not_eq_true', Bool.not_eq_false']; omega) | (simp only [decide_eq_true_eq, decide_eq_false_iff_not, Bool.or_eq_false_iff]; simp only [Lay.d_n]; omega))
      refine xa_one 19 (by kernel_rfl) rfl (xl_go tt_ok ?_)
      refine xa_done (by kernel_rfl) rfl ?_
      repeat (refine And.intro ?_ ?_; first | omega | (simp only [Lay.d_n]; omega) | (simp only [decide_eq_true_eq, decide_eq_false_iff_not, Bool.or_eq_false_iff, Bool.and_eq_true, Bool.or_eq_true, Bool.and_eq_false_iff, Bool.not_eq_true', Bool.not_eq_false', Lay.d_n]; omega) | (simp only [decide_eq_true_eq, decide_eq_false_iff_not, Bool.or_eq_false_iff, Bool.and_eq_true, Bool.or_eq_true, Bool.and_eq_false_iff, Bool.not_eq_true', Bool.not_eq_false']; omega) | (simp only [decide_eq_true_eq, decide_eq_false_iff_not, Bool.or_eq_false_iff]; simp only [Lay.d_n]; omega))
      exact again (j + 1, v2 + 1 + capZ ((B.getD j.toNat pv0).text.size : Int) + ((B.getD j.toNat pv0).pn : Int)) [] (.of rfl rfl rfl rfl rfl rfl) ⟨by omega, by omega, by omega, by rw [hst, g4]; omega⟩ (by simp only; omega)
    · have h : (decide (j < (B.length : Int)) && decide (j < 300)) = false := h
      rw [Bool.and_eq_false_iff, decide_eq_false_iff_not, decide_eq_false_iff_not] at h
      have hi : j.toNat = min B.length 300 := by omega
      rw [hi] at g4
      refine fin1 (fun _ _ => ?_)
      rw [← g4]
      rfl
end Go.Proofs.Ytdonomneofdhfaa
namespace Go.Proofs.Ytdonomneofdhfaa
open Go.GV Go.RowKit
def szL : List ByteArray → Nat
  | [] => 0
  | x :: r => 1 + x.size + szL r
theorem szL_append : ∀ (L M : List ByteArray), szL (L ++ M) = szL L + szL M
  | [], M => by simp [szL]
  | x :: r, M => by rw [List.cons_append, szL, szL, szL_append r M]; omega
theorem szL_take {ps : List ByteArray} {i : Nat} (h : i < ps.length) : szL (ps.take (i + 1)) = szL (ps.take i) + (1 + (ps.getD i ⟨#[]⟩).size) := by
  rw [take_get (List.getElem?_eq_getElem h), szL_append]
  rw [List.getD_eq_getElem?_getD, List.getElem?_eq_getElem h]
  simp [szL]
theorem capZ_eq {n : Int} (h : capZ n ≤ 2000) : n = capZ n := by
  unfold capZ at *; split at h <;> split <;> omega
theorem grP_sz {ps : List ByteArray} : ∀ {i : Nat}, i ≤ ps.length → grP ps i ≤ 2000 → (szL (ps.take i) : Int) = grP ps i
  | 0, _, _ => by simp [szL, grP]
  | i + 1, h, h2 => by
    have hc := capZ_b (n := ((ps.getD i ⟨#[]⟩).size : Int)) (by omega)
    have hb := grP_b ps i
    rw [grP] at h2 ⊢
    have ih := grP_sz (ps := ps) (i := i) (by omega) (by omega)
    have he := capZ_eq (n := ((ps.getD i ⟨#[]⟩).size : Int)) (by omega)
    rw [szL_take (by omega)]
    push_cast
    omega
theorem ptL_len (i : Nat) (t : PV) : (ptL i t).length ≤ 1 + t.text.size := by
  unfold ptL
  rw [List.length_append, strL_len]
  split <;> simp
theorem grB_sz {B : List PV} (hz : ∀ i, (B.getD i pv0).pn ≤ 140737488355328) : ∀ {i : Nat}, grB B i ≤ 2000 → ((bodyUp B i).length : Int) ≤ grB B i
  | 0, _ => by simp [bodyUp, grB]
  | i + 1, h2 => by
    have hc := capZ_b (n := ((B.getD i pv0).text.size : Int)) (by omega)
    have hb := grB_b B hz i
    rw [grB] at h2 ⊢
    have ih := grB_sz hz (i := i) (by omega)
    have he := capZ_eq (n := ((B.getD i pv0).text.size : Int)) (by omega)
    have hp := ptL_len i (B.getD i pv0)
    rw [bodyUp, List.length_append]
    push_cast
    omega
theorem joinTail_len : ∀ r : List ByteArray, (Lib.joinTail [44] (r.map (·.data.toList))).length = szL r
  | [] => rfl
  | x :: r => by
    have ih := joinTail_len r
    unfold Lib.joinTail at ih ⊢
    rw [List.map_cons, List.map_cons, List.flatten_cons, List.length_append, ih, szL]
    simp
    omega
theorem joinT_le (ps : List ByteArray) : (joinT ps comB).size ≤ szL ps := by
  rw [joinT_size]
  cases ps with
  | nil => simp [Lib.join_nil]
  | cons x r =>
    rw [List.map_cons, Lib.join_cons, List.length_append]
    have := joinTail_len r
    rw [show comB.data.toList = [44] by rfl, this, szL]
    simp
theorem great_line {m : MT} (hz : ∀ i, (m.body.getD i pv0).pn ≤ 140737488355328) (h : greatB m = false) : (lineL m).length ≤ 3000 ∧ m.ps.length ≤ 200 ∧ m.body.length ≤ 200 := by
  unfold greatB at h
  rw [Bool.or_eq_false_iff, Bool.or_eq_false_iff, decide_eq_false_iff_not, decide_eq_false_iff_not, decide_eq_false_iff_not] at h
  obtain ⟨⟨h1, h2⟩, h3⟩ := h
  unfold grN at h1
  rw [Nat.min_eq_left (by omega), Nat.min_eq_left (by omega)] at h1
  have b1 := grP_b m.ps m.ps.length
  have b2 := grB_b m.body hz m.body.length
  have e1 := grP_sz (ps := m.ps) (Nat.le_refl _) (by omega)
  have e2 := grB_sz hz (i := m.body.length) (by omega)
  rw [List.take_length] at e1
  have j1 := joinT_le m.ps
  have p1 : (parL m).length ≤ 6 + (joinT m.ps comB).size := by
    unfold parL
    split
    · unfold parA parB parC
      simp only [List.length_append, strL_len, List.length_singleton]
      have d1 : (if (m.va && decide (0 < m.ps.length)) = true then ([44] : List UInt8) else []).length ≤ 1 := by split <;> simp
      have d2 : (if m.va = true then strL dotB else []).length ≤ 3 := by
        split
        · exact Nat.le_of_eq rfl
        · simp
      omega
    · simp
  refine ⟨?_, by omega, by omega⟩
  unfold lineL headL
  simp only [List.length_append, strL_len, List.length_singleton]
  rw [show defB8.size = 8 by rfl]
  omega
end Go.Proofs.Ytdonomneofdhfaa
namespace Go.Proofs.Ytdonomneofdhfaa
open Go.GV Go.RowKit
abbrev sIf : ByteArray := ⟨#[105, 102]⟩
abbrev sIfdef : ByteArray := ⟨#[105, 102, 100, 101, 102]⟩
abbrev sIfndef : ByteArray := ⟨#[105, 102, 110, 100, 101, 102]⟩
abbrev sElif : ByteArray := ⟨#[101, 108, 105, 102]⟩
abbrev sElse : ByteArray := ⟨#[101, 108, 115, 101]⟩
abbrev sEndif : ByteArray := ⟨#[101, 110, 100, 105, 102]⟩
def turnN (n : ByteArray) : Int :=
  if n = sIf then 1 else if n = sIfdef then 1 else if n = sIfndef then 1 else if n = sElif then 2 else if n = sElse then 3 else if n = sEndif then 4 else 0
def turnV (r : RowV) : Int := if r.dir = true then turnN r.name else 0
end Go.Proofs.Ytdonomneofdhfaa
namespace Go.Proofs.Ytdonomneofdhfaa
open Go.GV Go.RowKit
abbrev intY : Lay Int := ⟨[fun i => .int .i64 i], 0⟩
abbrev boolY : Lay Bool := ⟨[fun b => .bool b], false⟩
def bad (last : List Int) (k : Int) : Bool := decide ((last.length : Int) = 0) || (decide (k < 4) && decide (last.getD ((last.length : Int) - 1).toNat 0 = 3))
def stepR (last : List Int) (k : Int) : Option (List Int × Int) :=
  if 1 < k then
    if bad last k = true then none
    else some (if k = 4 then (last.set ((last.length : Int) - 1).toNat k).take ((last.length : Int) - 1).toNat else last.set ((last.length : Int) - 1).toNat k, (last.length : Int) - 1)
  else some (if k = 1 then last ++ [1] else last, last.length)
def depthsFrom (last out : List Int) : List RowV → Option (List Int)
  | [] => if 0 < last.length then none else some out
  | r :: rest => match stepR last (turnV r) with
    | none => none
    | some (last', d) => depthsFrom last' (out ++ [d]) rest
def dOut (L : List RowV) : List Int := (depthsFrom [] [] L).getD []
def dErr (L : List RowV) : Int := if (depthsFrom [] [] L).isNone then 81 else 0
end Go.Proofs.Ytdonomneofdhfaa
namespace Go.Proofs.Ytdonomneofdhfaa
open Go.GV Go.RowKit
def is3 (k : Int) : Bool := decide (k = 3)
theorem bad_is3 (last : List Int) {k : Int} (hk : k < 4) : bad last k = (decide (((last.map is3).length : Int) = 0) || (last.map is3).getD (((last.map is3).length : Int) - 1).toNat false) := by
  unfold bad
  rw [List.length_map]
  by_cases h : last.length = 0
  · have : decide ((last.length : Int) = 0) = true := decide_eq_true (by omega)
    rw [this]; rfl
  · have h1 : ((last.length : Int) - 1).toNat < last.length := by omega
    have h2 : decide (k < 4) = true := decide_eq_true hk
    rw [h2, Bool.true_and]
    congr 1
    simp only [List.getD_eq_getElem?_getD, List.getElem?_map, List.getElem?_eq_getElem h1, Option.map_some, Option.getD_some, is3]
set_option maxRecDepth 100000 in
theorem depths_any (L : List RowV) (x : Value) (w : World) (hx : SlAt (im w) x (rowY.d L)) (hL : L.length * 48 ≤ 140737488355328) :
    Calls Try.prog 49 #[x] w (PureP w (OwnT 3 (intY.d (dOut L)) [.int .i64 (dErr L)])) := by
  refine x_fun tt_ok Try.func49 rfl rfl [(x, rowY.d L)] 1 [.r 0] rfl rfl rfl rfl (fun b hb => by simp at hb; subst hb; exact hx) ?_
  refine x_vc tt_ok ?_
  refine xl_make0 tt_ok intY 8 L.length rfl rfl rfl rfl rfl rfl rfl (by kernel_rfl) rfl rfl rfl (by omega) (by omega) ?_
  refine xl_go tt_ok ?_
  refine x_nil 5 4 boolY rfl ?_
  refine x_loop (σ := Int × List Int × List Bool) (fun (i, out, en) => ⟨[(15, .v (.int .i64 i)), (14, .v (.int .i64 L.length)), (13, .r 0), (0, .r 0), (4, .r 3), (5, .r 4)], [], [(0, .sl (rowY.d L)), (3, .row 3 (intY.d out)), (4, .row 4 (boolY.d en))], 5⟩)
    (fun (i, out, en) _ => 0 ≤ i ∧ i ≤ L.length ∧ out.length = i ∧ ∃ last : List Int, en = last.map is3 ∧ last.length ≤ i ∧ depthsFrom last out (L.drop i.toNat) = depthsFrom [] [] L) (fun (i, _, _) => (L.length - i).toNat) (fun (_, _, _) => by simp only; omega) (0, [], []) [(3, some 1), (4, some 2)] (.of rfl rfl rfl rfl rfl rfl)
    ⟨by omega, by simp, by simp, [], rfl, by simp, by simp⟩ ?_
  rintro ⟨i, out, en⟩ u hu ⟨g1, g2, g3, last, g4, g5, g6⟩
  have hen : en.length = last.length := by rw [g4, List.length_map]
  refine x_vc tt_ok ?_
  refine x_if (fun h => ?_) (fun h => ?_)
  · have h2 : i < L.length := of_decide_eq_true h
    rw [drop_at (d := row0) g1 h2] at g6
    simp only [depthsFrom] at g6
    repeat (refine And.intro ?_ ?_; first | omega | (simp only [decide_eq_true_eq, decide_eq_false_iff_not]; simp only [Lay.d_n]; omega) | (simp [Lay.d] <;> omega))
    refine x_if (fun hd => ?_) (fun hd => ?_)
    · have hd' : (L.getD i.toNat row0).dir = true := hd
      have hk : turnV (L.getD i.toNat row0) = turnN (L.getD i.toNat row0).name := by simp only [turnV]; rw [if_pos hd']
      rw [hk] at g6
      clear hk
      refine x_if (fun h1 => x_ift h1 ?o1) (fun h1 => x_if (fun h2 => x_ift h2 ?o2) (fun h2 => x_if (fun h3 => ?o3) (fun h3 => x_if (fun h4 => x_ift h4 ?e1) (fun h4 =>
        x_if (fun h5 => ?e2) (fun h5 => x_if (fun h6 => ?f1) (fun h6 => ?n1))))))
      case o1 | o2 | o3 =>
        have hk : turnN (L.getD i.toNat row0).name = 1 := by
          simp only [decide_eq_true_eq, decide_eq_false_iff_not] at *
          simp only [turnN]
          simp_all
        rw [hk] at g6
        have e : stepR last 1 = some (last ++ [1], (last.length : Int)) := by simp [stepR]
        rw [e] at g6
        simp only at g6
        refine xl_push tt_ok boolY en false 1 (cs := [.bool false]) rfl rfl rfl rfl rfl rfl rfl rfl rfl rfl rfl rfl (by kernel_rfl) rfl rfl rfl rfl rfl (fun n hn => by cases hn; decide) rfl rfl rfl (by first | omega | (simp; omega)) (by first | omega | (simp; omega)) ?_
        refine xl_go tt_ok ?_
        refine xl_push tt_ok intY out (en.length : Int) 8 (cs := [.int .i64 (en.length : Int)]) rfl rfl rfl rfl rfl rfl rfl rfl rfl rfl rfl rfl (by kernel_rfl) rfl rfl rfl rfl rfl (fun n hn => by cases hn; decide) rfl rfl rfl (by first | omega | (simp; omega)) (by first | omega | (simp; omega)) ?_
        refine xl_go tt_ok ?_
        repeat (refine And.intro ?_ ?_; first | omega | (simp only [decide_eq_true_eq, decide_eq_false_iff_not]; simp only [Lay.d_n]; omega) | (simp [Lay.d] <;> omega))
        refine again (i + 1, _, _) [(3, some 7), (4, some 6)] (.of rfl rfl rfl rfl rfl rfl) ⟨by omega, by omega, by simp; omega, last ++ [1], by rw [g4]; simp [is3], by simp; omega, ?_⟩ (by simp only; omega)
        rw [hen]
        exact g6
      case n1 =>
        have hk : turnN (L.getD i.toNat row0).name = 0 := by
          simp only [decide_eq_true_eq, decide_eq_false_iff_not] at *
          simp only [turnN]
          simp_all
        rw [hk] at g6
        have e : stepR last 0 = some (last, (last.length : Int)) := by simp [stepR]
        rw [e] at g6
        simp only at g6
        refine xl_push tt_ok intY out (en.length : Int) 8 (cs := [.int .i64 (en.length : Int)]) rfl rfl rfl rfl rfl rfl rfl rfl rfl rfl rfl rfl (by kernel_rfl) rfl rfl rfl rfl rfl (fun n hn => by cases hn; decide) rfl rfl rfl (by first | omega | (simp; omega)) (by first | omega | (simp; omega)) ?_
        refine xl_go tt_ok ?_
        repeat (refine And.intro ?_ ?_; first | omega | (simp only [decide_eq_true_eq, decide_eq_false_iff_not]; simp only [Lay.d_n]; omega) | (simp [Lay.d] <;> omega))
        refine again (i + 1, _, _) [(3, some 6)] (.of rfl rfl rfl rfl rfl rfl) ⟨by omega, by omega, by simp; omega, last, g4, by omega, ?_⟩ (by simp only; omega)
        rw [hen]
        exact g6
      case e1 =>
        have hk : turnN (L.getD i.toNat row0).name = 2 := by
          simp only [decide_eq_true_eq, decide_eq_false_iff_not] at *
          simp only [turnN]
          simp_all
        rw [hk] at g6
        have hv : decide ((L.getD i.toNat row0).name = sElse) = is3 2 := by
          simp only [decide_eq_true_eq, decide_eq_false_iff_not] at *
          simp_all [is3]
        have hb := bad_is3 last (k := 2) (by omega)
        rw [← g4] at hb
        repeat (refine And.intro ?_ ?_; first | omega | (simp only [decide_eq_true_eq, decide_eq_false_iff_not]; simp only [Lay.d_n]; omega) | (simp [Lay.d] <;> omega))
        refine x_if (fun h7 => ?_) (fun h7 => ?_)
        · have e : stepR last 2 = none := by simp only [stepR]; rw [if_pos (by omega), if_pos (hb.trans h7)]
          rw [e] at g6
          simp only at g6
          have e1 : dOut L = [] := by simp only [dOut, ← g6]; rfl
          have e2 : dErr L = 81 := by simp only [dErr, ← g6]; rfl
          rw [e1, e2]
          exact finO2n intY
        · have h8 : bad last 2 = false := hb.trans h7
          have h9 : 0 < last.length := by
            simp only [bad, Bool.or_eq_false_iff, decide_eq_false_iff_not] at h8
            omega
          have e : stepR last 2 = some (last.set ((last.length : Int) - 1).toNat 2, (last.length : Int) - 1) := by
            simp only [stepR]; rw [if_pos (by omega), if_neg (by rw [h8]; simp), if_neg (by omega)]
          rw [e] at g6
          simp only at g6
          repeat (refine And.intro ?_ ?_; first | omega | (simp only [decide_eq_true_eq, decide_eq_false_iff_not]; simp only [Lay.d_n]; omega) | (simp [Lay.d] <;> omega))
          refine xl_set tt_ok boolY en (decide ((L.getD i.toNat row0).name = sElse)) (cs := [.bool (decide ((L.getD i.toNat row0).name = sElse))]) rfl rfl rfl rfl rfl rfl rfl (by simp only [Lay.d_n]; omega) (by simp only [Lay.d_n]; omega) rfl rfl (by simp) rfl ?_
          refine xl_go tt_ok ?_
          repeat (refine And.intro ?_ ?_; first | omega | (simp only [decide_eq_true_eq, decide_eq_false_iff_not]; simp only [Lay.d_n]; omega) | (simp [Lay.d] <;> omega))
          refine xl_push tt_ok intY out ((en.length : Int) - 1) 8 (cs := [.int .i64 ((en.length : Int) - 1)]) rfl rfl rfl rfl rfl rfl rfl rfl rfl rfl rfl rfl (by kernel_rfl) rfl rfl rfl rfl rfl (fun n hn => by cases hn; decide) rfl rfl rfl (by first | omega | (simp; omega)) (by first | omega | (simp; omega)) ?_
          refine xl_go tt_ok ?_
          repeat (refine And.intro ?_ ?_; first | omega | (simp only [decide_eq_true_eq, decide_eq_false_iff_not]; simp only [Lay.d_n]; omega) | (simp [Lay.d] <;> omega))
          refine again (i + 1, _, _) [(3, some 6)] (.of rfl rfl rfl rfl rfl rfl) ⟨by omega, by omega, by simp; omega, last.set ((last.length : Int) - 1).toNat 2, ?_, by simp; omega, ?_⟩ (by simp only; omega)
          · rw [hv, g4]
            simp only [Lay.d_n, List.length_map, List.map_set]
          · rw [hen]
            exact g6
      case e2 =>
        have hk : turnN (L.getD i.toNat row0).name = 3 := by
          simp only [decide_eq_true_eq, decide_eq_false_iff_not] at *
          simp only [turnN]
          simp_all
        rw [hk] at g6
        have hv : decide ((L.getD i.toNat row0).name = sElse) = is3 3 := by
          simp only [decide_eq_true_eq, decide_eq_false_iff_not] at *
          simp_all [is3]
        have hb := bad_is3 last (k := 3) (by omega)
        rw [← g4] at hb
        repeat (refine And.intro ?_ ?_; first | omega | (simp only [decide_eq_true_eq, decide_eq_false_iff_not]; simp only [Lay.d_n]; omega) | (simp [Lay.d] <;> omega))
        refine x_if (fun h7 => ?_) (fun h7 => ?_)
        · have e : stepR last 3 = none := by simp only [stepR]; rw [if_pos (by omega), if_pos (hb.trans h7)]
          rw [e] at g6
          simp only at g6
          have e1 : dOut L = [] := by simp only [dOut, ← g6]; rfl
          have e2 : dErr L = 81 := by simp only [dErr, ← g6]; rfl
          rw [e1, e2]
          exact finO2n intY
        · have h8 : bad last 3 = false := hb.trans h7
          have h9 : 0 < last.length := by
            simp only [bad, Bool.or_eq_false_iff, decide_eq_false_iff_not] at h8
            omega
          have e : stepR last 3 = some (last.set ((last.length : Int) - 1).toNat 3, (last.length : Int) - 1) := by
            simp only [stepR]; rw [if_pos (by omega), if_neg (by rw [h8]; simp), if_neg (by omega)]
          rw [e] at g6
          simp only at g6
          repeat (refine And.intro ?_ ?_; first | omega | (simp only [decide_eq_true_eq, decide_eq_false_iff_not]; simp only [Lay.d_n]; omega) | (simp [Lay.d] <;> omega))
          refine xl_set tt_ok boolY en (decide ((L.getD i.toNat row0).name = sElse)) (cs := [.bool (decide ((L.getD i.toNat row0).name = sElse))]) rfl rfl rfl rfl rfl rfl rfl (by simp only [Lay.d_n]; omega) (by simp only [Lay.d_n]; omega) rfl rfl (by simp) rfl ?_
          refine xl_go tt_ok ?_
          repeat (refine And.intro ?_ ?_; first | omega | (simp only [decide_eq_true_eq, decide_eq_false_iff_not]; simp only [Lay.d_n]; omega) | (simp [Lay.d] <;> omega))
          refine xl_push tt_ok intY out ((en.length : Int) - 1) 8 (cs := [.int .i64 ((en.length : Int) - 1)]) rfl rfl rfl rfl rfl rfl rfl rfl rfl rfl rfl rfl (by kernel_rfl) rfl rfl rfl rfl rfl (fun n hn => by cases hn; decide) rfl rfl rfl (by first | omega | (simp; omega)) (by first | omega | (simp; omega)) ?_
          refine xl_go tt_ok ?_
          repeat (refine And.intro ?_ ?_; first | omega | (simp only [decide_eq_true_eq, decide_eq_false_iff_not]; simp only [Lay.d_n]; omega) | (simp [Lay.d] <;> omega))
          refine again (i + 1, _, _) [(3, some 6)] (.of rfl rfl rfl rfl rfl rfl) ⟨by omega, by omega, by simp; omega, last.set ((last.length : Int) - 1).toNat 3, ?_, by simp; omega, ?_⟩ (by simp only; omega)
          · rw [hv, g4]
            simp only [Lay.d_n, List.length_map, List.map_set]
          · rw [hen]
            exact g6
      case f1 =>
        have hk : turnN (L.getD i.toNat row0).name = 4 := by
          simp only [decide_eq_true_eq, decide_eq_false_iff_not] at *
          simp only [turnN]
          simp_all
        rw [hk] at g6
        refine x_if (fun h7 => ?_) (fun h7 => ?_)
        · have h8 : (en.length : Int) = 0 := of_decide_eq_true h7
          have hb : bad last 4 = true := by unfold bad; rw [decide_eq_true (show (last.length : Int) = 0 by omega)]; rfl
          have e : stepR last 4 = none := by simp only [stepR]; rw [if_pos (by omega), if_pos hb]
          rw [e] at g6
          simp only at g6
          have e1 : dOut L = [] := by simp only [dOut, ← g6]; rfl
          have e2 : dErr L = 81 := by simp only [dErr, ← g6]; rfl
          rw [e1, e2]
          exact finO2n intY
        · have h8 : ¬ (en.length : Int) = 0 := of_decide_eq_false h7
          have hb : bad last 4 = false := by unfold bad; rw [decide_eq_false (show ¬ (last.length : Int) = 0 by omega)]; rfl
          have e : stepR last 4 = some ((last.set ((last.length : Int) - 1).toNat 4).take ((last.length : Int) - 1).toNat, (last.length : Int) - 1) := by
            simp only [stepR]; rw [if_pos (by omega), if_neg (by rw [hb]; simp), if_pos trivial]
          rw [e] at g6
          simp only at g6
          repeat (refine And.intro ?_ ?_; first | omega | (simp only [decide_eq_true_eq, decide_eq_false_iff_not]; simp only [Lay.d_n]; omega) | (simp [Lay.d] <;> omega))
          refine xl_cutTo tt_ok boolY en rfl rfl rfl rfl rfl rfl rfl rfl rfl rfl (by simp only [Lay.d_n]; omega) (by simp only [Lay.d_n]; omega) ?_
          refine xl_go tt_ok ?_
          refine xl_push tt_ok intY out ((en.length : Int) - 1) 8 (cs := [.int .i64 ((en.length : Int) - 1)]) rfl rfl rfl rfl rfl rfl rfl rfl rfl rfl rfl rfl (by kernel_rfl) rfl rfl rfl rfl rfl (fun n hn => by cases hn; decide) rfl rfl rfl (by first | omega | (simp; omega)) (by first | omega | (simp; omega)) ?_
          refine xl_go tt_ok ?_
          repeat (refine And.intro ?_ ?_; first | omega | (simp only [decide_eq_true_eq, decide_eq_false_iff_not]; simp only [Lay.d_n]; omega) | (simp [Lay.d] <;> omega))
          refine again (i + 1, _, _) [(3, some 7), (4, some 6)] (.of rfl rfl rfl rfl rfl rfl) ⟨by omega, by omega, by simp; omega, (last.set ((last.length : Int) - 1).toNat 4).take ((last.length : Int) - 1).toNat, ?_, by simp; omega, ?_⟩ (by simp only; omega)
          · rw [List.take_set_of_le (Nat.le_refl _), g4]
            simp only [Lay.d_n, List.length_map, List.map_take]
          · rw [hen]
            exact g6
    · have hd' : (L.getD i.toNat row0).dir = false := hd
      have hk : turnV (L.getD i.toNat row0) = 0 := by simp only [turnV]; rw [hd']; rfl
      rw [hk] at g6
      have e : stepR last 0 = some (last, (last.length : Int)) := by simp [stepR]
      rw [e] at g6
      simp only at g6
      repeat' refine x_iff (by decide) ?_
      refine xl_push tt_ok intY out (en.length : Int) 8 (cs := [.int .i64 (en.length : Int)]) rfl rfl rfl rfl rfl rfl rfl rfl rfl rfl rfl rfl (by kernel_rfl) rfl rfl rfl rfl rfl (fun n hn => by cases hn; decide) rfl rfl rfl (by omega) (by omega) ?_
      refine xl_go tt_ok ?_
      repeat (refine And.intro ?_ ?_; first | omega | (simp only [decide_eq_true_eq, decide_eq_false_iff_not]; simp only [Lay.d_n]; omega) | (simp [Lay.d] <;> omega))
      refine again (i + 1, _, _) [(3, some 6)] (.of rfl rfl rfl rfl rfl rfl) ⟨by omega, by omega, by simp; omega, last, g4, by omega, ?_⟩ (by simp only; omega)
      rw [hen]
      exact g6
  · have h2 : i = L.length := by
      have h3 : ¬ (i < (L.length : Int)) := of_decide_eq_false h
      omega
    have e : L.drop i.toNat = [] := List.drop_eq_nil_of_le (by omega)
    rw [e] at g6
    simp only [depthsFrom] at g6
    refine x_if (fun h6 => ?_) (fun h6 => ?_)
    · have h7 : 0 < (en.length : Int) := of_decide_eq_true h6
      rw [if_pos (by omega)] at g6
      have e1 : dOut L = [] := by simp only [dOut, ← g6]; rfl
      have e2 : dErr L = 81 := by simp only [dErr, ← g6]; rfl
      rw [e1, e2]
      exact finO2n intY
    · have h7 : ¬ 0 < (en.length : Int) := of_decide_eq_false h6
      rw [if_neg (by omega)] at g6
      have e1 : dOut L = out := by simp only [dOut, ← g6]; rfl
      have e2 : dErr L = 0 := by simp only [dErr, ← g6]; rfl
      rw [e1, e2]
      exact finO2 rfl
end Go.Proofs.Ytdonomneofdhfaa
namespace Go.Proofs.Ytdonomneofdhfaa
open Go.GV Go.RowKit
theorem key_at {L M : List RowV} (h : L.map RowV.key = M.map RowV.key) (i : Nat) : (L.getD i row0).dir = (M.getD i row0).dir ∧ (L.getD i row0).name = (M.getD i row0).name := by
  have h1 : (L.map RowV.key).getD i row0.key = (M.map RowV.key).getD i row0.key := by rw [h]
  simp only [List.getD_eq_getElem?_getD, List.getElem?_map] at h1 ⊢
  have e : ∀ o : Option RowV, (o.map RowV.key).getD row0.key = (o.getD row0).key := fun o => by cases o <;> rfl
  rw [e, e] at h1
  simpa [RowV.key] using h1
theorem same_refl (L : List Tok) (x y : Value) (w : World) (hx : SlAt (im w) x (tokY.d L)) (hy : SlAt (im w) y (tokY.d L)) (hL : L.length ≤ 9223372036854775807) :
    Calls Try.prog 28 #[x, y] w (PureP w fun v _ => v = .bool true) := by
  have := same_any L L x y w hx hy hL
  rwa [pb_true rfl] at this
set_option maxRecDepth 100000 in
theorem sameRows_any (L M : List RowV) (T : List (List Tok)) (x y : Value) (w : World) (hx : SlAt (im w) x (rowY.d L)) (hy : SlAt (im w) y (rowY.d M)) (hT : ToksAt (im w) L T) (hS : ToksAt (im w) M T)
    (hk : L.map RowV.key = M.map RowV.key) (hL : L.length ≤ 9223372036854775807) (hTL : ∀ i : Nat, (T.getD i []).length ≤ 9223372036854775807) :
    Calls Try.prog 25 #[x, y] w (PureP w fun v _ => v = .bool true) := by
  have hl : L.length = M.length := by rw [hT.1, hS.1]
  refine x_fun tt_ok Try.func25 rfl rfl [(x, rowY.d L), (y, rowY.d M)] 2 [.r 0, .r 1] rfl rfl rfl rfl (fun b hb => by simp at hb; rcases hb with rfl | rfl <;> assumption) ?_
  refine x_vc tt_ok ?_
  refine x_iff (by simp [Lay.d_n, hl]) ?_
  refine x_loop (σ := Int) (fun i => ⟨[(5, .v (.int .i64 i)), (0, .r 0), (1, .r 1)], [], [(0, .sl (rowY.d L)), (1, .sl (rowY.d M))], 2⟩)
    (fun i _ => 0 ≤ i ∧ i ≤ L.length) (fun i => (L.length - i).toNat) (fun _ => Nat.le_refl _) 0 [] (.of rfl rfl rfl rfl rfl rfl) ⟨by omega, by omega⟩ ?_
  rintro i u hu ⟨g1, g2⟩
  refine x_vc tt_ok ?_
  refine x_if (fun h => ?_) (fun h => ?_)
  · have h2 : i < L.length := of_decide_eq_true h
    obtain ⟨k1, k2⟩ := key_at hk i.toNat
    refine x_draw mix (by kernel_rfl) (xd_go tt_ok ?_)
    repeat (refine And.intro ?_ ?_; first | omega | (simp [Lay.d] <;> omega))
    refine xd_call0 (.bool true) rfl rfl rfl rfl fn28 rfl rfl
      (fun _ E w F hs => same_refl _ _ _ w (((hT.2 i.toNat (by omega)).le hu).imm hs.imm) (((hS.2 i.toNat (by omega)).le hu).imm hs.imm) (hTL _)) ?_
    refine xd_go tt_ok ?_
    refine x_draw mix (by kernel_rfl) (xd_go tt_ok ?_)
    repeat (refine And.intro ?_ ?_; first | omega | (simp only [decide_eq_true_eq, decide_eq_false_iff_not]; simp only [Lay.d_n]; omega) | (simp [Lay.d] <;> omega))
    refine x_if (fun h3 => ?_) (fun h3 => ?_)
    · rw [show (L.getD i.toNat rowY.dft).dir = (M.getD i.toNat rowY.dft).dir from k1, show (L.getD i.toNat rowY.dft).name = (M.getD i.toNat rowY.dft).name from k2] at h3
      simp at h3
    · repeat (refine And.intro ?_ ?_; first | omega | (simp only [decide_eq_true_eq, decide_eq_false_iff_not]; simp only [Lay.d_n]; omega) | (simp [Lay.d] <;> omega))
      exact again (i + 1) [] (.of rfl rfl rfl rfl rfl rfl) ⟨by omega, by omega⟩ (by omega)
  · exact fin1 (fun _ _ => rfl)
theorem turn_key {r r' : RowV} (h : r.key = r'.key) : turnV r = turnV r' := by
  simp only [RowV.key, Prod.mk.injEq] at h
  simp only [turnV, h.1, h.2]
theorem depths_key : ∀ {L L' : List RowV} (last out : List Int), L.map RowV.key = L'.map RowV.key → depthsFrom last out L = depthsFrom last out L'
  | [], [], _, _, _ => rfl
  | [], _ :: _, _, _, h => by simp at h
  | _ :: _, [], _, _, h => by simp at h
  | r :: L, r' :: L', last, out, h => by
    simp only [List.map_cons, List.cons.injEq] at h
    simp only [depthsFrom, turn_key h.1]
    split
    · rfl
    · exact depths_key _ _ h.2
theorem dOut_length : ∀ (L : List RowV) (last out o : List Int), depthsFrom last out L = some o → o.length = out.length + L.length
  | [], last, out, o, h => by
    simp only [depthsFrom] at h
    split at h
    · cases h
    · cases h; simp
  | r :: L, last, out, o, h => by
    simp only [depthsFrom] at h
    split at h
    · cases h
    · have := dOut_length L _ _ _ h
      simp at this ⊢
      omega
theorem dOut_le (L : List RowV) : (dOut L).length ≤ L.length := by
  unfold dOut
  cases h : depthsFrom [] [] L with
  | none => simp
  | some o => have := dOut_length L [] [] o h; simp at this ⊢; omega
end Go.Proofs.Ytdonomneofdhfaa
namespace Go.Proofs.Ytdonomneofdhfaa
open Go.GV Go.RowKit
def saysV (r : RowV) (t : List Tok) : List Tok :=
  if r.dir = true then (bareFrom false t).drop (if r.name = ⟨#[]⟩ then 1 else 2) else bareFrom false t
theorem pureSl {w : World} {e : TypeId} {D : GV.Data} {E : Ending} {w' : World} (h : PureP w (fun v u => OwnAt u v e D) E w') : PureP w (fun v u => SlAt u v D) E w' := by
  obtain ⟨v, h1, h2, h3⟩ := h
  exact ⟨v, h1, h2, h3.slAt⟩
theorem bare_sl (L : List Tok) (x : Value) (w : World) (hx : SlAt (im w) x (tokY.d L)) (hL : L.length * 48 ≤ 140737488355328) :
    Calls Try.prog 46 #[x] w (PureP w fun v u => SlAt u v (tokY.d (bareFrom false L))) := (bare_any L x w hx hL).mono fun _ _ => pureSl
theorem refBare_sl (L : List Tok) (x : Value) (w : World) (hx : SlAt (im w) x (tokY.d L)) (hL : L.length * 48 ≤ 140737488355328) :
    Calls Try.prog 86 #[x] w (PureP w fun v u => SlAt u v (tokY.d (bareFrom false L))) := (refBare_any L x w hx hL).mono fun _ _ => pureSl
set_option maxRecDepth 100000 in
theorem clone_any (L : List Tok) (x : Value) (w : World) (hx : SlAt (im w) x (tokY.d L)) (hL : L.length * 48 ≤ 140737488355328) :
    Calls Try.prog 85 #[x] w (PureP w fun v u => SlAt u v (tokY.d L)) := by
  refine x_fun tt_ok Try.func85 rfl rfl [(x, tokY.d L)] 1 [.r 0] rfl rfl rfl rfl (fun b hb => by simp at hb; subst hb; exact hx) ?_
  refine x_vc tt_ok ?_
  refine xl_eqnil tt_ok rfl rfl rfl rfl rfl rfl rfl (fun E w F hs => hs.slAt (k := 0) rfl) (fun b hb => ?_)
  refine xl_go tt_ok ?_
  refine x_if (fun h => ?_) (fun h => ?_)
  · have h0 : L = [] := List.eq_nil_of_length_eq_zero (hb h)
    subst h0
    exact finP fun _ _ _ hs _ => ⟨none, 0, rfl, Nat.le_refl _, by decide, fun hn => absurd hn (Nat.lt_irrefl 0)⟩
  · refine xl_empty tt_ok tokY rfl rfl rfl rfl rfl rfl rfl ?_
    refine xl_go tt_ok ?_
    refine xl_append tt_ok tokY [] L 48 rfl rfl rfl rfl rfl rfl rfl rfl (by kernel_rfl) rfl rfl rfl (fun E w F hs => hs.slAt (k := 0) rfl) tokOne rfl (by simp; omega) (by simp; omega) ?_
    refine xl_go tt_ok ?_
    exact finP fun E w' F hs hu' => (hs.rowOwn (k := 2) (D := tokY.d L) rfl hu').slAt
set_option maxRecDepth 100000 in
theorem says_any (r : RowV) (t : List Tok) (w : World) (hx : SlAt (im w) r.toks (tokY.d t)) (hL : t.length * 48 ≤ 140737488355328) :
    Calls Try.prog 26 #[.agg #[.bool r.dir, .string r.name, .slice r.ta r.tn r.tc]] w (PureP w fun v u => SlAt u v (tokY.d (saysV r t))) := by
  have hb := bareFrom_le false t
  refine x_fun tt_ok Try.func26 rfl rfl [] 0 [.v (.agg #[.bool r.dir, .string r.name, .slice r.ta r.tn r.tc])] rfl rfl rfl rfl (fun b hb => by cases hb) ?_
  refine x_vc tt_ok ?_
  refine xl_callV (tokY.d (bareFrom false t)) rfl rfl rfl rfl fn46 rfl rfl (fun E w F hs => bare_sl t _ w (hx.imm hs.imm) hL) (fun A c u hu hb1 => ?_)
  refine xl_go tt_ok ?_
  refine x_if (fun h => ?_) (fun h => ?_)
  · have h' : r.dir = false := by simpa using h
    have e : saysV r t = bareFrom false t := by simp [saysV, h']
    rw [e]
    exact finS hb1
  · have h' : r.dir = true := by simpa using h
    have key : ∀ k : Nat, (k = if r.name = ⟨#[]⟩ then 1 else 2) → saysV r t = (bareFrom false t).drop (if ((bareFrom false t).length : Int) < (k : Int) then ((bareFrom false t).length : Int) else (k : Int)).toNat := by
      intro k hk
      simp only [saysV, h', if_true, ← hk]
      split
      · rw [List.drop_eq_nil_of_le (by omega), List.drop_eq_nil_of_le (by omega)]
      · rfl
    refine x_if (fun h2 => ?_) (fun h2 => ?_)
    · have h2' : ¬ r.name = ⟨#[]⟩ := of_decide_eq_true h2
      have e := key 2 (by rw [if_neg h2'])
      refine xl_min rfl rfl rfl rfl rfl rfl ?_
      refine xl_go tt_ok ?_
      refine xl_from tt_ok tokY (bareFrom false t) rfl rfl rfl rfl rfl rfl rfl rfl rfl rfl (fun E w F hs => hb1) ?_ ?_ (fun A2 c2 hb2 => ?_)
      · show (0 : Int) ≤ if ((bareFrom false t).length : Int) < 2 then ((bareFrom false t).length : Int) else 2
        split <;> omega
      · show (if ((bareFrom false t).length : Int) < 2 then ((bareFrom false t).length : Int) else 2) ≤ ((bareFrom false t).length : Int)
        split <;> omega
      refine xl_go tt_ok ?_
      refine xl_callV (tokY.d (saysV r t)) rfl rfl rfl rfl fn85 rfl rfl (fun E w F hs => by rw [e]; exact clone_any _ _ w (hb2.uncut.imm hs.imm) (by rw [List.length_drop]; omega)) (fun A3 c3 u3 hu3 hb3 => ?_)
      refine xl_go tt_ok ?_
      exact finS (by rw [hu.lo] at hb3; exact hb3)
    · have h2' : r.name = ⟨#[]⟩ := by
        have : ¬ ¬ r.name = ⟨#[]⟩ := of_decide_eq_false h2
        exact Classical.not_not.1 this
      have e := key 1 (by rw [if_pos h2'])
      refine xl_min rfl rfl rfl rfl rfl rfl ?_
      refine xl_go tt_ok ?_
      refine xl_from tt_ok tokY (bareFrom false t) rfl rfl rfl rfl rfl rfl rfl rfl rfl rfl (fun E w F hs => hb1) ?_ ?_ (fun A2 c2 hb2 => ?_)
      · show (0 : Int) ≤ if ((bareFrom false t).length : Int) < 1 then ((bareFrom false t).length : Int) else 1
        split <;> omega
      · show (if ((bareFrom false t).length : Int) < 1 then ((bareFrom false t).length : Int) else 1) ≤ ((bareFrom false t).length : Int)
        split <;> omega
      refine xl_go tt_ok ?_
      refine xl_callV (tokY.d (saysV r t)) rfl rfl rfl rfl fn85 rfl rfl (fun E w F hs => by rw [e]; exact clone_any _ _ w (hb2.uncut.imm hs.imm) (by rw [List.length_drop]; omega)) (fun A3 c3 u3 hu3 hb3 => ?_)
      refine xl_go tt_ok ?_
      exact finS (by rw [hu.lo] at hb3; exact hb3)
set_option maxRecDepth 100000 in
theorem refSays_any (r : RowV) (t : List Tok) (w : World) (hx : SlAt (im w) r.toks (tokY.d t)) (hL : t.length * 48 ≤ 140737488355328) :
    Calls Try.prog 27 #[.agg #[.bool r.dir, .string r.name, .slice r.ta r.tn r.tc]] w (PureP w fun v u => SlAt u v (tokY.d (saysV r t))) := by
  have hb := bareFrom_le false t
  refine x_fun tt_ok Try.func27 rfl rfl [] 0 [.v (.agg #[.bool r.dir, .string r.name, .slice r.ta r.tn r.tc])] rfl rfl rfl rfl (fun b hb => by cases hb) ?_
  refine x_vc tt_ok ?_
  refine xl_callV (tokY.d (bareFrom false t)) rfl rfl rfl rfl fn86 rfl rfl (fun E w F hs => refBare_sl t _ w (hx.imm hs.imm) hL) (fun A c u hu hb1 => ?_)
  refine xl_go tt_ok ?_
  generalize hB : bareFrom false t = B at hb1 hb ⊢
  refine x_if (fun h => ?_) (fun h => ?_)
  · have h1 : (r.dir && decide (0 < (B.length : Int))) = true := h
    rw [Bool.and_eq_true, decide_eq_true_eq] at h1
    refine xl_from tt_ok tokY B rfl rfl rfl rfl rfl rfl rfl rfl rfl rfl (fun E w F hs => hb1) (by omega) (by omega) (fun A2 c2 hb2 => ?_)
    refine xl_go tt_ok ?_
    refine x_if (fun h2 => ?_) (fun h2 => ?_)
    · have h3 : (decide (0 < (r.name.size : Int)) && decide (0 < ((B.length - (1 : Int).toNat : Nat) : Int))) = true := h2
      rw [Bool.and_eq_true, decide_eq_true_eq, decide_eq_true_eq] at h3
      refine xl_from tt_ok tokY (B.drop 1) rfl rfl rfl rfl rfl rfl rfl rfl rfl rfl (fun E w F hs => hb2) (by omega) (by simp; omega) (fun A3 c3 hb3 => ?_)
      refine xl_go tt_ok ?_
      have e : saysV r t = (B.drop 1).drop (1 : Int).toNat := by
        have hn : ¬ r.name = ⟨#[]⟩ := fun hn => by
          rw [hn] at h3
          have h0 : (⟨#[]⟩ : ByteArray).size = 0 := rfl
          omega
        simp [saysV, h1.1, hB, hn]
      rw [e]
      exact finS hb3
    · have h3 : (decide (0 < (r.name.size : Int)) && decide (0 < ((B.length - (1 : Int).toNat : Nat) : Int))) = false := h2
      have e : saysV r t = B.drop (1 : Int).toNat := by
        rw [Bool.and_eq_false_iff, decide_eq_false_iff_not, decide_eq_false_iff_not] at h3
        simp only [saysV, h1.1, hB, if_true]
        rcases h3 with h3 | h3
        · have hn : r.name = ⟨#[]⟩ := by
            have : r.name.size = 0 := by omega
            exact ByteArray.size_eq_zero_iff.1 this
          rw [if_pos hn]; rfl
        · split
          · rfl
          · rw [List.drop_eq_nil_of_le (by omega), List.drop_eq_nil_of_le (by omega)]
      rw [e]
      exact finS hb2
  · have h1 : (r.dir && decide (0 < (B.length : Int))) = false := h
    have e : saysV r t = B := by
      rw [Bool.and_eq_false_iff, decide_eq_false_iff_not] at h1
      simp only [saysV, hB]
      rcases h1 with h1 | h1
      · rw [h1]; rfl
      · have : B = [] := List.eq_nil_of_length_eq_zero (by omega)
        subst this; simp
    rw [e]
    exact finS hb1
def tokEqB (s : Bool) (a b : Tok) : Bool := decide (a.kind = b.kind) && (decide (a.text = b.text) && (decide ((s && a.space) = (s && b.space)) && true))
def eqFrom (sp : Bool) : Bool → List Tok → List Tok → Bool
  | first, a :: x, b :: y => tokEqB (sp && !first) a b && eqFrom sp false x y
  | _, [], [] => true
  | _, _, _ => false
def eqToks (sp : Bool) (L M : List Tok) : Bool := eqFrom sp true L M
theorem eqFrom_len (sp : Bool) : ∀ (f : Bool) (L M : List Tok), L.length ≠ M.length → eqFrom sp f L M = false
  | _, [], [], h => absurd rfl h
  | _, [], _ :: _, _ => rfl
  | _, _ :: _, [], _ => rfl
  | f, a :: x, b :: y, h => by
    simp only [eqFrom]
    rw [eqFrom_len sp false x y (fun e => h (by simp [e])), Bool.and_false]
set_option maxRecDepth 100000 in
theorem lsame_any (sp : Bool) (L M : List Tok) (x y : Value) (w : World) (hx : SlAt (im w) x (tokY.d L)) (hy : SlAt (im w) y (tokY.d M)) (hL : L.length ≤ 9223372036854775807) :
    Calls Try.prog 123 #[x, y, .bool sp] w (PureP w fun v _ => v = .bool (eqToks sp L M)) := by
  refine x_fun tt_ok Try.func123 rfl rfl [(x, tokY.d L), (y, tokY.d M)] 2 [.r 0, .r 1, .v (.bool sp)] rfl rfl rfl rfl (fun b hb => by simp at hb; rcases hb with rfl | rfl <;> assumption) ?_
  refine x_vc tt_ok ?_
  refine x_if (fun h => ?_) (fun h => ?_)
  · refine fin1 (fun _ _ => ?_)
    have h' : ¬ ((L.length : Int) = M.length) := of_decide_eq_true h
    rw [eqToks, eqFrom_len _ _ _ _ (by omega)]; rfl
  · have h' : ¬ ¬ ((L.length : Int) = M.length) := of_decide_eq_false h
    have hl : L.length = M.length := by omega
    refine x_loop (σ := Int) (fun i => ⟨[(17, .v (.int .i64 i)), (16, .v (.int .i64 L.length)), (15, .r 0), (0, .r 0), (1, .r 1), (2, .v (.bool sp))], [], [(0, .sl (tokY.d L)), (1, .sl (tokY.d M))], 2⟩)
      (fun i _ => 0 ≤ i ∧ i ≤ L.length ∧ eqFrom sp (!decide (0 < i)) (L.drop i.toNat) (M.drop i.toNat) = eqToks sp L M) (fun i => (L.length - i).toNat) (fun _ => Nat.le_refl _) 0 [] (.of rfl rfl rfl rfl rfl rfl) ⟨by omega, by omega, by simp [eqToks]⟩ ?_
    rintro i u hu ⟨g1, g2, g3⟩
    refine x_vc tt_ok ?_
    refine x_if (fun h => ?_) (fun h => ?_)
    · have h2 : i < L.length := of_decide_eq_true h
      rw [drop_at (d := tok0) g1 h2, drop_at (d := tok0) g1 (by omega : i < M.length)] at g3
      simp only [eqFrom] at g3
      repeat (refine And.intro ?_ ?_; first | omega | (simp [Lay.d] <;> omega))
      refine x_draw mix (by kernel_rfl) (xd_go tt_ok ?_)
      repeat (refine And.intro ?_ ?_; first | omega | (simp only [decide_eq_true_eq, decide_eq_false_iff_not]; simp only [Lay.d_n]; omega) | (simp [Lay.d] <;> omega))
      have e : tokEqB (sp && !!decide (0 < i)) (L.getD i.toNat tok0) (M.getD i.toNat tok0) =
          (decide ((L.getD i.toNat tok0).kind = (M.getD i.toNat tok0).kind) && (decide ((L.getD i.toNat tok0).text = (M.getD i.toNat tok0).text) &&
            (decide ((sp && decide (0 < i) && (L.getD i.toNat tok0).space) = (sp && decide (0 < i) && (M.getD i.toNat tok0).space)) && true))) := by
        rw [Bool.not_not]; rfl
      rw [e] at g3
      refine x_if (fun h3 => ?_) (fun h3 => ?_)
      · rw [Bool.not_eq_true'] at h3
        refine fin1 (fun _ _ => ?_)
        rw [← g3]
        have h4 := h3
        show Value.bool false = _
        rw [show (decide ((L.getD i.toNat tok0).kind = (M.getD i.toNat tok0).kind) && (decide ((L.getD i.toNat tok0).text = (M.getD i.toNat tok0).text) &&
            (decide ((sp && decide (0 < i) && (L.getD i.toNat tok0).space) = (sp && decide (0 < i) && (M.getD i.toNat tok0).space)) && true))) = false from h3]
        rfl
      · rw [Bool.not_eq_false'] at h3
        rw [show (decide ((L.getD i.toNat tok0).kind = (M.getD i.toNat tok0).kind) && (decide ((L.getD i.toNat tok0).text = (M.getD i.toNat tok0).text) &&
            (decide ((sp && decide (0 < i) && (L.getD i.toNat tok0).space) = (sp && decide (0 < i) && (M.getD i.toNat tok0).space)) && true))) = true from h3, Bool.true_and] at g3
        repeat (refine And.intro ?_ ?_; first | omega | (simp [Lay.d] <;> omega))
        refine again (i + 1) [] (.of rfl rfl rfl rfl rfl rfl) ⟨by omega, by omega, ?_⟩ (by omega)
        rw [show (!decide (0 < i + 1)) = false by simp; omega]
        exact g3
    · have h2 : i = L.length := by
        have h3 : ¬ (i < (L.length : Int)) := of_decide_eq_false h
        omega
      refine fin1 (fun _ _ => ?_)
      rw [List.drop_eq_nil_of_le (by omega), List.drop_eq_nil_of_le (by omega)] at g3
      simp only [eqFrom] at g3
      rw [← g3]; rfl
end Go.Proofs.Ytdonomneofdhfaa
namespace Go.Proofs.Ytdonomneofdhfaa
open Go.GV Go.RowKit
abbrev It := RowV × List Tok
def it0 : It := (row0, [])
abbrev itY : Lay It := ⟨[fun p => .bool p.1.dir, fun p => .string p.1.name, fun p => .slice p.1.ta p.1.tn p.1.tc], it0⟩
def ItAt (u : Im) (I : List It) : Prop := ∀ i : Nat, i < I.length → SlAt u (I.getD i it0).1.toks (tokY.d (I.getD i it0).2)
def ItSm (I : List It) : Prop := ∀ i : Nat, (I.getD i it0).2.length * 48 ≤ 140737488355328
theorem ItAt.le {u u' : Im} {I : List It} (h : ItAt u I) (hu : u.le u') : ItAt u' I := fun i hi => (h i hi).le hu
theorem ItAt.sub {u u' : Im} {I : List It} (h : ItAt u I) (hu : u.sub u') : ItAt u' I := fun i hi => (h i hi).sub hu
def says (p : It) : List Tok := saysV p.1 p.2
def blank (p : It) : Bool := !p.1.dir && decide (((bareFrom false p.2).length : Int) = 0)
abbrev sDefine : ByteArray := ⟨#[100, 101, 102, 105, 110, 101]⟩
def relR (keep : Bool) (p q : It) : Bool := decide (p.1.dir = q.1.dir) && (decide (p.1.name = q.1.name) && eqToks (keep || (p.1.dir && decide (p.1.name = sDefine))) (says p) (says q))
def all2 {α β : Type} (f : α → β → Bool) : List α → List β → Bool
  | a :: x, b :: y => f a b && all2 f x y
  | [], [] => true
  | _, _ => false
def nb (I : List It) : List It := I.filter fun p => !blank p
def alikeV (keep : Bool) (I J : List It) : Bool := all2 (relR keep) (nb I) (nb J)
theorem nb_blank {p : It} {I : List It} (h : blank p = true) : nb (p :: I) = nb I := by simp [nb, h]
theorem nb_not {p : It} {I : List It} (h : blank p = false) : nb (p :: I) = p :: nb I := by simp [nb, h]
theorem blank_says (p : It) : blank p = (!p.1.dir && decide (((says p).length : Int) = 0)) := by
  unfold blank says saysV
  cases p.1.dir <;> simp
set_option maxRecDepth 100000 in
theorem alike_any (keep : Bool) (I J : List It) (x y : Value) (w : World) (hx : SlAt (im w) x (itY.d I)) (hy : SlAt (im w) y (itY.d J)) (hI : ItAt (im w) I) (hJ : ItAt (im w) J) (zI : ItSm I) (zJ : ItSm J)
    (hL : I.length ≤ 9223372036854775806) (hM : J.length ≤ 9223372036854775806) :
    Calls Try.prog 60 #[x, y, .bool keep] w (PureP w fun v _ => v = .bool (alikeV keep I J)) := by
  refine x_fun tt_ok Try.func60 rfl rfl [(x, itY.d I), (y, itY.d J)] 2 [.r 0, .r 1, .v (.bool keep)] rfl rfl rfl rfl (fun b hb => by simp at hb; rcases hb with rfl | rfl <;> assumption) ?_
  refine x_vc tt_ok ?_
  refine x_loop (σ := Int × Int) (fun (i, j) => ⟨[(14, .v (.int .i64 i)), (7, .v (.int .i64 j)), (13, .v (.int .i64 I.length)), (12, .r 0), (0, .r 0), (1, .r 1), (2, .v (.bool keep))], [], [(0, .sl (itY.d I)), (1, .sl (itY.d J))], 2⟩)
    (fun (i, j) _ => 0 ≤ i ∧ i ≤ I.length ∧ 0 ≤ j ∧ j ≤ J.length ∧ all2 (relR keep) (nb (I.drop i.toNat)) (nb (J.drop j.toNat)) = alikeV keep I J) (fun (i, _) => (I.length - i).toNat) (fun (_, _) => Nat.le_refl _) (0, 0) [] (.of rfl rfl rfl rfl rfl rfl)
    ⟨by omega, by omega, by omega, by omega, by simp [alikeV]⟩ ?_
  rintro ⟨i, j⟩ u hu ⟨g1, g2, g3, g4, g5⟩
  refine x_vc tt_ok ?_
  refine x_if (fun h => ?_) (fun h => ?_)
  · have h2 : i < I.length := of_decide_eq_true h
    rw [drop_at (d := it0) g1 h2] at g5
    repeat (refine And.intro ?_ ?_; first | omega | (simp [Lay.d] <;> omega))
    refine xl_callV (tokY.d (says (I.getD i.toNat it0))) rfl rfl rfl rfl fn26 rfl rfl (fun E w F hs => says_any (I.getD i.toNat it0).1 (I.getD i.toNat it0).2 w (((hI i.toNat (by omega)).le hu).imm hs.imm) (zI _)) (fun A c u2 hu2 hb1 => ?_)
    have hu3 := hu.trans hu2
    refine xl_go tt_ok ?_
    refine x_if (fun h3 => ?_) (fun h3 => ?_)
    · have h4 : blank (I.getD i.toNat it0) = true := (blank_says _).trans h3
      rw [nb_blank h4] at g5
      repeat (refine And.intro ?_ ?_; first | omega | (simp only [decide_eq_true_eq, decide_eq_false_iff_not]; simp only [Lay.d_n]; omega) | (simp [Lay.d] <;> omega))
      exact again (i + 1, j) [] (.of rfl rfl rfl rfl rfl rfl) ⟨by omega, by omega, g3, g4, g5⟩ (by simp only; omega)
    · have h4 : blank (I.getD i.toNat it0) = false := (blank_says _).trans h3
      rw [nb_not h4] at g5
      refine x_loop (σ := Int) (fun k => ⟨[(7, .v (.int .i64 k)), (9, .p 2 0), (10, .v (.slice A (tokY.d (says (I.getD i.toNat it0))).n c)), (14, .v (.int .i64 i)), (13, .v (.int .i64 I.length)), (12, .r 0), (0, .r 0), (1, .r 1), (2, .v (.bool keep))], [],
          [(2, .box 28 [.v (.bool (I.getD i.toNat it0).1.dir), .v (.string (I.getD i.toNat it0).1.name), .v (.slice (I.getD i.toNat it0).1.ta (I.getD i.toNat it0).1.tn (I.getD i.toNat it0).1.tc)]), (0, .sl (itY.d I)), (1, .sl (itY.d J))], 3⟩)
        (fun k _ => 0 ≤ k ∧ k ≤ J.length ∧ all2 (relR keep) ((I.getD i.toNat it0) :: nb (I.drop (i + 1).toNat)) (nb (J.drop k.toNat)) = alikeV keep I J) (fun k => (J.length - k).toNat) (fun _ => Nat.le_refl _) j [] (.of rfl rfl rfl rfl rfl rfl)
        ⟨g3, g4, g5⟩ ?_
      rintro k u4 hu4 ⟨k1, k2, k3⟩
      refine x_vc tt_ok ?_
      refine x_if (fun h5 => ?_) (fun h5 => ?_)
      · have h6 : k < J.length := of_decide_eq_true h5
        rw [drop_at (d := it0) k1 h6] at k3
        repeat (refine And.intro ?_ ?_; first | omega | (simp only [decide_eq_true_eq, decide_eq_false_iff_not]; simp only [Lay.d_n]; omega) | (simp [Lay.d] <;> omega))
        refine xl_callV (tokY.d (says (J.getD k.toNat it0))) rfl rfl rfl rfl fn26 rfl rfl (fun E w F hs => says_any (J.getD k.toNat it0).1 (J.getD k.toNat it0).2 w (((hJ k.toNat (by omega)).le (hu3.trans hu4)).imm hs.imm) (zJ _)) (fun A2 c2 u5 hu5 hb2 => ?_)
        refine xl_go tt_ok ?_
        repeat (refine And.intro ?_ ?_; first | omega | (simp only [decide_eq_true_eq, decide_eq_false_iff_not]; simp only [Lay.d_n]; omega) | (simp [Lay.d] <;> omega))
        refine x_if (fun h7 => ?_) (fun h7 => ?_)
        · have h8 : blank (J.getD k.toNat it0) = true := (blank_says _).trans h7
          rw [nb_blank h8] at k3
          repeat (refine And.intro ?_ ?_; first | omega | (simp only [decide_eq_true_eq, decide_eq_false_iff_not]; simp only [Lay.d_n]; omega) | (simp [Lay.d] <;> omega))
          exact again (k + 1) [] (.of rfl rfl rfl rfl rfl rfl) ⟨by omega, by omega, k3⟩ (by omega)
        · have h8 : blank (J.getD k.toNat it0) = false := (blank_says _).trans h7
          rw [nb_not h8] at k3
          simp only [all2, relR] at k3
          refine x_draw mix (by kernel_rfl) (xd_go tt_ok ?_)
          repeat (refine And.intro ?_ ?_; first | omega | (simp only [decide_eq_true_eq, decide_eq_false_iff_not]; simp only [Lay.d_n]; omega) | (simp [Lay.d] <;> omega))
          refine x_if (fun h9 => ?_) (fun h9 => ?_)
          · have h10 : (decide ((I.getD i.toNat it0).1.dir ≠ (J.getD k.toNat it0).1.dir) || decide ((I.getD i.toNat it0).1.name ≠ (J.getD k.toNat it0).1.name)) = true := h9
            rw [Bool.or_eq_true, decide_eq_true_eq, decide_eq_true_eq] at h10
            refine fin1 (fun _ _ => ?_)
            rw [← k3]
            rcases h10 with h10 | h10
            · rw [decide_eq_false h10]; rfl
            · rw [decide_eq_false h10]; simp [tupV, SV.den]
          · have h10 : (decide ((I.getD i.toNat it0).1.dir ≠ (J.getD k.toNat it0).1.dir) || decide ((I.getD i.toNat it0).1.name ≠ (J.getD k.toNat it0).1.name)) = false := h9
            rw [Bool.or_eq_false_iff, decide_eq_false_iff_not, decide_eq_false_iff_not, Classical.not_not, Classical.not_not] at h10
            rw [decide_eq_true h10.1, decide_eq_true h10.2, Bool.true_and, Bool.true_and] at k3
            repeat (refine And.intro ?_ ?_; first | omega | (simp only [decide_eq_true_eq, decide_eq_false_iff_not]; simp only [Lay.d_n]; omega) | (simp [Lay.d] <;> omega))
            have hl1 : (says (I.getD i.toNat it0)).length ≤ 9223372036854775807 := by
              have h11 := zI i.toNat
              have h12 := bareFrom_le false (I.getD i.toNat it0).2
              have : (says (I.getD i.toNat it0)).length ≤ (bareFrom false (I.getD i.toNat it0).2).length := by
                unfold says saysV
                split
                · rw [List.length_drop]; omega
                · exact Nat.le_refl _
              omega
            refine xl_call0 (.bool (eqToks (keep || ((I.getD i.toNat it0).1.dir && decide ((I.getD i.toNat it0).1.name = sDefine))) (says (I.getD i.toNat it0)) (says (J.getD k.toNat it0)))) rfl rfl rfl rfl fn123 rfl rfl
              (fun E w F hs => lsame_any _ _ _ _ _ w ((hb1.uncut.le (hu4.trans hu5)).imm hs.imm) (hb2.uncut.imm hs.imm) hl1) ?_
            refine xl_go tt_ok ?_
            refine x_if (fun h11 => ?_) (fun h11 => ?_)
            · rw [Bool.not_eq_true'] at h11
              refine fin1 (fun _ _ => ?_)
              rw [← k3, h11]; rfl
            · rw [Bool.not_eq_false'] at h11
              rw [h11, Bool.true_and] at k3
              repeat (refine And.intro ?_ ?_; first | omega | (simp only [decide_eq_true_eq, decide_eq_false_iff_not]; simp only [Lay.d_n]; omega) | (simp [Lay.d] <;> omega))
              exact again (i + 1, k + 1) [] (.of rfl rfl rfl rfl rfl rfl) ⟨by omega, by omega, by omega, by omega, k3⟩ (by simp only; omega)
      · have h6 : ¬ (k < (J.length : Int)) := of_decide_eq_false h5
        have e : J.drop k.toNat = [] := List.drop_eq_nil_of_le (by omega)
        rw [e] at k3
        refine fin1 (fun _ _ => ?_)
        rw [← k3]; rfl
  · have h2 : ¬ (i < (I.length : Int)) := of_decide_eq_false h
    have e : I.drop i.toNat = [] := List.drop_eq_nil_of_le (by omega)
    rw [e] at g5
    refine x_loop (σ := Int) (fun k => ⟨[(7, .v (.int .i64 k)), (0, .r 0), (1, .r 1)], [], [(0, .sl (itY.d I)), (1, .sl (itY.d J))], 2⟩)
      (fun k _ => 0 ≤ k ∧ k ≤ J.length ∧ all2 (relR keep) [] (nb (J.drop k.toNat)) = alikeV keep I J) (fun k => (J.length - k).toNat) (fun _ => Nat.le_refl _) j [] (.of rfl rfl rfl rfl rfl rfl)
      ⟨g3, g4, g5⟩ ?_
    rintro k u2 hu2 ⟨k1, k2, k3⟩
    refine x_vc tt_ok ?_
    refine x_if (fun h5 => ?_) (fun h5 => ?_)
    · have h6 : k < J.length := of_decide_eq_true h5
      rw [drop_at (d := it0) k1 h6] at k3
      repeat (refine And.intro ?_ ?_; first | omega | (simp only [decide_eq_true_eq, decide_eq_false_iff_not]; simp only [Lay.d_n]; omega) | (simp [Lay.d] <;> omega))
      refine xl_gcallN (tokY.d (says (J.getD k.toNat it0))) rfl rfl rfl rfl fn26 rfl rfl (fun _ E w F hs => says_any (J.getD k.toNat it0).1 (J.getD k.toNat it0).2 w (((hJ k.toNat (by omega)).le (hu.trans hu2)).imm hs.imm) (zJ _)) (fun A2 c2 u5 hu5 => ?_)
      refine xl_go tt_ok ?_
      have e : blank (J.getD k.toNat it0) = !((J.getD k.toNat it0).1.dir || decide (0 < ((says (J.getD k.toNat it0)).length : Int))) := by
        rw [blank_says, Bool.not_or]
        congr 1
        rcases Nat.eq_zero_or_pos (says (J.getD k.toNat it0)).length with h0 | h0
        · rw [decide_eq_true (by omega), decide_eq_false (by omega)]; rfl
        · rw [decide_eq_false (by omega), decide_eq_true (by omega)]; rfl
      refine x_if (fun h7 => ?_) (fun h7 => ?_)
      · have h8 : ((J.getD k.toNat it0).1.dir || decide (0 < ((says (J.getD k.toNat it0)).length : Int))) = true := h7
        rw [h8] at e
        rw [nb_not e] at k3
        refine fin1 (fun _ _ => ?_)
        rw [← k3]; rfl
      · have h8 : ((J.getD k.toNat it0).1.dir || decide (0 < ((says (J.getD k.toNat it0)).length : Int))) = false := h7
        rw [h8] at e
        rw [nb_blank e] at k3
        repeat (refine And.intro ?_ ?_; first | omega | (simp only [decide_eq_true_eq, decide_eq_false_iff_not]; simp only [Lay.d_n]; omega) | (simp [Lay.d] <;> omega))
        exact again (k + 1) [] (.of rfl rfl rfl rfl rfl rfl) ⟨by omega, by omega, k3⟩ (by omega)
    · have h6 : ¬ (k < (J.length : Int)) := of_decide_eq_false h5
      have e : J.drop k.toNat = [] := List.drop_eq_nil_of_le (by omega)
      rw [e] at k3
      refine fin1 (fun _ _ => ?_)
      rw [← k3]; rfl
end Go.Proofs.Ytdonomneofdhfaa
namespace Go.Proofs.Ytdonomneofdhfaa
open Go.GV Go.RowKit
def noHash (t : Tok) : Bool := decide (t.kind ≠ 5) || (decide (t.text ≠ ⟨#[35]⟩) && decide (t.text ≠ ⟨#[37, 58]⟩))
def dirF : Bool → List Tok → ByteArray × Bool
  | m, [] => (⟨#[]⟩, m)
  | m, t :: r => if gone t then dirF m r else if !m && noHash t then (⟨#[]⟩, false) else if !m then dirF true r
    else if t.kind = 1 then (t.text, true) else (⟨#[]⟩, true)
set_option maxRecDepth 100000 in
theorem directive_any (L : List Tok) (x : Value) (w : World) (hx : SlAt (im w) x (tokY.d L)) (hL : L.length ≤ 9223372036854775807) :
    Calls Try.prog 84 #[x] w (PureP w fun v _ => v = .tuple #[.string (dirF false L).1, .bool (dirF false L).2]) := by
  refine x_fun tt_ok Try.func84 rfl rfl [(x, tokY.d L)] 1 [.r 0] rfl rfl rfl rfl (fun b hb => by simp at hb; subst hb; exact hx) ?_
  refine x_vc tt_ok ?_
  refine x_loop (σ := Int × Bool) (fun (i, m) => ⟨[(9, .v (.int .i64 i)), (8, .v (.int .i64 L.length)), (7, .r 0), (4, .v (.bool m))], [], [(0, .sl (tokY.d L))], 1⟩)
    (fun (i, m) _ => 0 ≤ i ∧ i ≤ L.length ∧ dirF m (L.drop i.toNat) = dirF false L) (fun (i, _) => (L.length - i).toNat) (fun (_, _) => Nat.le_refl _) (0, false) [] (.of rfl rfl rfl rfl rfl rfl)
    ⟨by omega, by omega, by simp⟩ ?_
  rintro ⟨i, m⟩ u hu ⟨g1, g2, g3⟩
  refine x_vc tt_ok ?_
  refine x_if (fun h => ?_) (fun h => ?_)
  · have h2 : i < L.length := of_decide_eq_true h
    rw [drop_at (d := tok0) g1 h2] at g3
    repeat (refine And.intro ?_ ?_; first | omega | (simp only [Lay.d_n]; omega))
    refine x_if (fun h3 => ?_) (fun h3 => ?_)
    · have h4 : gone (L.getD i.toNat tok0) = true := h3
      repeat (refine And.intro ?_ ?_; first | omega | (simp only [Lay.d_n]; omega))
      refine again (i + 1, m) [] (.of rfl rfl rfl rfl rfl rfl) ⟨by omega, by omega, ?_⟩ (by simp only; omega)
      simpa only [dirF, h4, if_true] using g3
    · have h4 : gone (L.getD i.toNat tok0) = false := h3
      simp only [dirF, h4, Bool.false_eq_true, if_false] at g3
      refine x_if (fun h5 => ?_) (fun h5 => ?_)
      · have h6 : (!m && noHash (L.getD i.toNat tok0)) = true := h5
        rw [if_pos h6] at g3
        refine fin1 (fun _ _ => ?_)
        rw [← g3]; rfl
      · have h6 : (!m && noHash (L.getD i.toNat tok0)) = false := h5
        rw [if_neg (by rw [h6]; simp)] at g3
        refine x_if (fun h7 => ?_) (fun h7 => ?_)
        · rw [if_pos h7] at g3
          repeat (refine And.intro ?_ ?_; first | omega | (simp only [Lay.d_n]; omega))
          exact again (i + 1, true) [] (.of rfl rfl rfl rfl rfl rfl) ⟨by omega, by omega, g3⟩ (by simp only; omega)
        · rw [if_neg (by rw [h7]; simp)] at g3
          refine x_if (fun h8 => ?_) (fun h8 => ?_)
          · rw [if_pos (of_decide_eq_true h8)] at g3
            refine fin1 (fun _ _ => ?_)
            rw [← g3]; rfl
          · rw [if_neg (of_decide_eq_false h8)] at g3
            refine fin1 (fun _ _ => ?_)
            rw [← g3]; rfl
  · have h2 : ¬ (i < (L.length : Int)) := of_decide_eq_false h
    rw [List.drop_eq_nil_of_le (by omega)] at g3
    simp only [dirF] at g3
    refine fin1 (fun _ _ => ?_)
    rw [← g3]; rfl
def pcs : Nat → Nat → List Tok → List (Nat × Nat)
  | f, i, [] => if f < i then [(f, i)] else []
  | f, i, t :: r => if t.kind = 9 then (f, i + 1) :: pcs (i + 1) (i + 1) r else pcs f (i + 1) r
def pcV (A : Option Addr) (c : Nat) (p : Nat × Nat) : Value := partV 5 A c p.1 p.2
theorem pcs_mem : ∀ (L : List Tok) (f i : Nat) (p : Nat × Nat), f ≤ i → p ∈ pcs f i L → f ≤ p.1 ∧ p.1 < p.2 ∧ p.2 ≤ i + L.length
  | [], f, i, p, h, hp => by
    simp only [pcs] at hp
    split at hp
    · rw [List.mem_singleton.1 hp]; exact ⟨Nat.le_refl _, by assumption, Nat.le_refl _⟩
    · cases hp
  | t :: r, f, i, p, h, hp => by
    simp only [pcs] at hp
    split at hp
    · rcases List.mem_cons.1 hp with rfl | hp
      · exact ⟨Nat.le_refl _, by show f < i + 1; omega, by show i + 1 ≤ _; simp⟩
      · have := pcs_mem r (i + 1) (i + 1) p (Nat.le_refl _) hp
        simp only [List.length_cons]; omega
    · have := pcs_mem r f (i + 1) p (by omega) hp
      simp only [List.length_cons]; omega
theorem pcs_len : ∀ (L : List Tok) (f i : Nat), f ≤ i → (pcs f i L).length ≤ L.length + (i - f)
  | [], f, i, h => by
    simp only [pcs]
    split
    · simp; omega
    · simp
  | t :: r, f, i, h => by
    simp only [pcs]
    split
    · have := pcs_len r (i + 1) (i + 1) (Nat.le_refl _)
      simp only [List.length_cons]; omega
    · have := pcs_len r f (i + 1) (by omega)
      simp only [List.length_cons]; omega
set_option maxRecDepth 100000 in
theorem pieces_iter (L : List Tok) (A : Option Addr) (c : Nat) (b : Nat) (u0 : Im) (hb : u0.h b = some (.cells #[.slice A L.length c] 22 (0, 0))) (hx : SlAt u0 (.slice A L.length c) (tokY.d L)) (hL : L.length * 48 ≤ 140737488355328) :
    Iter Try.prog 128 #[.pointer (some ⟨b, 0, none⟩)] ((pcs 0 0 L).map (pcV A c)) u0 := by
  refine x_iter tt_ok Try.func128 rfl rfl [(.slice (some ⟨b, 0, none⟩) 1 1, ⟨1, [fun _ => .slice A L.length c]⟩)] [.e 1 1 0 0] (boxEnv b) (fun j x hj => ?_) rfl rfl (fun x hx => ?_) (fun x hx => ?_) (fun l Y Z u hu hR => ?_)
  · match j, hj with
    | 0, hj => cases hj; rfl
    | j + 1, hj => simp at hj
  · simp only [List.mem_singleton] at hx
    subst hx
    exact ⟨by simp, _, 1, 1, rfl, Int.le_refl _, by omega⟩
  · simp only [List.mem_singleton] at hx
    subst hx
    exact SlAt.box1 hb
  refine x_vc tt_ok ?_
  refine x_sl 6 rfl (hx.sub hu.sub) ?_
  refine x_loop (σ := Nat × Int × Int) (fun (k, f, i) => ⟨[(8, .v (.int .i64 i)), (7, .v (.int .i64 L.length)), (6, .r 2), (3, .v (.int .i64 f)), (1, .e 1 1 0 0), (0, .v (.func (.yield l) #[] #[]))], [], [(0, .gen (Y k).hp), (1, .sl ⟨1, [fun _ => .slice A L.length c]⟩), (2, .sl (tokY.d L))], 3⟩)
    (fun (k, f, i) _ => 0 ≤ f ∧ f ≤ i ∧ i ≤ L.length ∧ ∃ pre, pre.length = k ∧ pcs 0 0 L = pre ++ pcs f.toNat i.toNat (L.drop i.toNat)) (fun (_, _, i) => (L.length - i).toNat) (fun (_, _, _) => Nat.le_refl 3) (0, 0, 0) [] (.of rfl rfl rfl rfl rfl rfl)
    ⟨by omega, by omega, by omega, [], rfl, by simp⟩ ?_
  rintro ⟨k, f, i⟩ u2 hu2 ⟨g1, g2, g3, pre, g4, g5⟩
  have hcap : L.length ≤ c := by obtain ⟨A', c', q1, q2, _⟩ := hx; cases q1; exact q2
  refine x_vc tt_ok ?_
  refine x_if (fun h => ?_) (fun h => ?_)
  · have h2 : i < L.length := of_decide_eq_true h
    rw [drop_at (d := tok0) (by omega) h2] at g5
    simp only [pcs] at g5
    have ei : (i + 1).toNat = i.toNat + 1 := by omega
    rw [ei] at g5
    repeat (refine And.intro ?_ ?_; first | omega | (simp only [Lay.d_n]; omega))
    refine x_if (fun h3 => ?_) (fun h3 => ?_)
    · have h4 : ¬ (L.getD i.toNat tok0).kind = 9 := of_decide_eq_true h3
      rw [if_neg h4] at g5
      repeat (refine And.intro ?_ ?_; first | omega | (simp only [Lay.d_n]; omega))
      exact again (k, f, i + 1) [] (.of rfl rfl rfl rfl rfl rfl) ⟨by omega, by omega, by omega, pre, g4, by rw [ei]; exact g5⟩ (by simp only; omega)
    · have h4 : (L.getD i.toNat tok0).kind = 9 := Classical.not_not.1 (of_decide_eq_false h3)
      rw [if_pos h4] at g5
      repeat (refine And.intro ?_ ?_; first | omega | (simp only [Lay.d_n]; omega))
      refine xl_subE tt_ok rfl rfl rfl rfl rfl rfl rfl rfl rfl rfl (by omega) (by omega) (by omega) ?_
      refine xl_go tt_ok ?_
      have hx1 : ((pcs 0 0 L).map (pcV A c))[k]? = some (partV 5 A c f.toNat (i + 1).toNat) := by
        rw [List.getElem?_map, g5, List.getElem?_append_right (by omega), g4, Nat.sub_self, ei]; rfl
      refine xl_yield (kY := 0) rfl hR rfl rfl rfl rfl rfl rfl rfl rfl hx1 ?_ ?_
      · refine xl_go tt_ok ?_
        refine x_iff rfl ?_
        repeat (refine And.intro ?_ ?_; first | omega | (simp only [Lay.d_n]; omega))
        exact again (k + 1, i + 1, i + 1) [] (.of rfl rfl rfl rfl rfl rfl) ⟨by omega, by omega, by omega, pre ++ [(f.toNat, i.toNat + 1)], by rw [List.length_append, g4]; rfl, by rw [ei, g5, List.append_assoc]; rfl⟩ (by simp only; omega)
      · refine xl_go tt_ok ?_
        refine x_ift rfl ?_
        exact .inr rfl
  · have h2 : ¬ (i < (L.length : Int)) := of_decide_eq_false h
    rw [List.drop_eq_nil_of_le (by omega)] at g5
    have ei : i.toNat = L.length := by omega
    rw [ei] at g5
    simp only [pcs] at g5
    refine x_if (fun h3 => ?_) (fun h3 => ?_)
    · have h4 : f < (L.length : Int) := of_decide_eq_true h3
      rw [if_pos (by omega)] at g5
      refine xl_fromE tt_ok rfl rfl rfl rfl rfl rfl rfl rfl rfl (by omega) (by omega) ?_
      refine xl_go tt_ok ?_
      have hx1 : ((pcs 0 0 L).map (pcV A c))[k]? = some (partV 5 A c f.toNat L.length) := by
        rw [List.getElem?_map, g5, List.getElem?_append_right (by omega), g4, Nat.sub_self]; rfl
      have hk : ((pcs 0 0 L).map (pcV A c)).length = k + 1 := by rw [List.length_map, g5, List.length_append, g4]; rfl
      refine xl_yield (kY := 0) rfl hR rfl rfl rfl rfl rfl rfl rfl rfl hx1 ?_ ?_
      · refine xl_go tt_ok ?_
        exact .inl (by rw [hk]; rfl)
      · refine xl_go tt_ok ?_
        exact .inr rfl
    · have h4 : ¬ f < (L.length : Int) := of_decide_eq_false h3
      rw [if_neg (by omega), List.append_nil] at g5
      have hk : ((pcs 0 0 L).map (pcV A c)).length = k := by rw [List.length_map, g5, g4]
      exact .inl (by rw [hk]; rfl)
end Go.Proofs.Ytdonomneofdhfaa
namespace Go.Proofs.Ytdonomneofdhfaa
open Go.GV Go.RowKit
set_option maxRecDepth 100000 in
theorem clone_own (L : List Tok) (x : Value) (w : World) (hx : SlAt (im w) x (tokY.d L)) (hL : L.length * 48 ≤ 140737488355328) :
    Calls Try.prog 85 #[x] w (PureP w fun v u => OwnAt u v 31 (tokY.d L)) := by
  refine x_fun tt_ok Try.func85 rfl rfl [(x, tokY.d L)] 1 [.r 0] rfl rfl rfl rfl (fun b hb => by simp at hb; subst hb; exact hx) ?_
  refine x_vc tt_ok ?_
  refine xl_eqnil tt_ok rfl rfl rfl rfl rfl rfl rfl (fun E w F hs => hs.slAt (k := 0) rfl) (fun b hb => ?_)
  refine xl_go tt_ok ?_
  refine x_if (fun h => ?_) (fun h => ?_)
  · have h0 : L = [] := List.eq_nil_of_length_eq_zero (hb h)
    subst h0
    exact finP fun _ _ _ hs _ => .inl ⟨rfl, rfl⟩
  · refine xl_empty tt_ok tokY rfl rfl rfl rfl rfl rfl rfl ?_
    refine xl_go tt_ok ?_
    refine xl_append tt_ok tokY [] L 48 rfl rfl rfl rfl rfl rfl rfl rfl (by kernel_rfl) rfl rfl rfl (fun E w F hs => hs.slAt (k := 0) rfl) tokOne rfl (by simp; omega) (by simp; omega) ?_
    refine xl_go tt_ok ?_
    exact finO (k := 2) (D := tokY.d L) rfl
structure RowT where
  dir : Bool
  name : ByteArray
  ts : List Tok
def rowT0 : RowT := ⟨false, ⟨#[]⟩, []⟩
def RowT.key (r : RowT) : Bool × ByteArray := (r.dir, r.name)
def addLine (s : List RowT × Bool) (line : List Tok) : List RowT × Bool :=
  if (!(dirF false line).2 && s.2) = true then (s.1.set (s.1.length - 1) { s.1.getD (s.1.length - 1) rowT0 with ts := (s.1.getD (s.1.length - 1) rowT0).ts ++ line }, s.2)
  else (s.1 ++ [⟨(dirF false line).2, (dirF false line).1, line⟩], !(dirF false line).2)
def lnOf (L : List Tok) (p : Nat × Nat) : List Tok := (L.take p.2).drop p.1
def linesOf (L : List Tok) : List (List Tok) := (pcs 0 0 L).map (lnOf L)
def rowsOf (L : List Tok) : List RowT := ((linesOf L).foldl addLine ([], false)).1
def itemsS (V : List RowV) (R : List RowT) : List SI := List.zipWith (fun v r => ⟨v.toks, 31, tokY.d r.ts⟩) V R
theorem itemsS_set {V : List RowV} {R : List RowT} {i : Nat} {v : RowV} {r : RowT} : itemsS (V.set i v) (R.set i r) = (itemsS V R).set i ⟨v.toks, 31, tokY.d r.ts⟩ := by
  unfold itemsS
  refine List.ext_getElem? fun j => ?_
  simp only [List.getElem?_zipWith, List.getElem?_set, List.length_zipWith]
  by_cases h : i = j
  · subst h
    simp only [if_true]
    by_cases h1 : i < V.length
    · by_cases h2 : i < R.length
      · rw [if_pos h1, if_pos h2, if_pos (by omega)]
      · rw [if_pos h1, if_neg h2, if_neg (by omega)]
    · rw [if_neg h1, if_neg (show ¬ i < min V.length R.length by omega)]
  · simp only [if_neg h]
theorem itemsS_push {V : List RowV} {R : List RowT} (h : V.length = R.length) (v : RowV) (r : RowT) : itemsS (V ++ [v]) (R ++ [r]) = itemsS V R ++ [⟨v.toks, 31, tokY.d r.ts⟩] := by
  unfold itemsS
  rw [List.zipWith_append h]; rfl
theorem itemsS_get {V : List RowV} {R : List RowT} {i : Nat} (h1 : i < V.length) (h2 : i < R.length) : (itemsS V R)[i]? = some ⟨(V.getD i row0).toks, 31, tokY.d (R.getD i rowT0).ts⟩ := by
  unfold itemsS
  rw [List.getElem?_zipWith, List.getElem?_eq_getElem h1, List.getElem?_eq_getElem h2]
  simp [List.getD_eq_getElem?_getD, List.getElem?_eq_getElem h1, List.getElem?_eq_getElem h2]
theorem pcs_sum (L : List Tok) : ∀ (r : List Tok) (f i : Nat), f ≤ i → i + r.length ≤ L.length → (((pcs f i r).map (lnOf L)).map List.length).sum = i - f + r.length
  | [], f, i, h, hl => by
    simp only [pcs]
    split
    · simp [lnOf]; simp at hl; omega
    · simp; omega
  | t :: r, f, i, h, hl => by
    simp only [List.length_cons] at hl
    simp only [pcs, List.length_cons]
    split
    · have := pcs_sum L r (i + 1) (i + 1) (Nat.le_refl _) (by omega)
      simp only [List.map_cons, List.sum_cons, this, lnOf, List.length_drop, List.length_take]
      omega
    · have := pcs_sum L r f (i + 1) (by omega) (by omega)
      rw [this]; omega
def sizeR (R : List RowT) : Nat := (R.map (fun r => r.ts.length)).sum
theorem sum_set : ∀ (l : List Nat) (i : Nat) (a : Nat), i < l.length → (l.set i a).sum + l.getD i 0 = l.sum + a
  | [], i, a, h => by simp at h
  | x :: l, 0, a, h => by simp; omega
  | x :: l, i + 1, a, h => by
    simp only [List.length_cons, Nat.add_lt_add_iff_right] at h
    have := sum_set l i a h
    simp only [List.set_cons_succ, List.sum_cons, List.getD_cons_succ]
    omega
theorem addLine_size (s : List RowT × Bool) (line : List Tok) (h : s.2 = true → s.1 ≠ []) : sizeR (addLine s line).1 = sizeR s.1 + line.length ∧ ((addLine s line).2 = true → (addLine s line).1 ≠ []) ∧ (addLine s line).1.length ≤ s.1.length + 1 := by
  unfold addLine
  split
  · rename_i hc
    simp only [Bool.and_eq_true] at hc
    have hne := h hc.2
    have hpos : s.1.length - 1 < s.1.length := by
      cases hs : s.1 with
      | nil => exact absurd hs hne
      | cons => simp
    refine ⟨?_, fun _ hh => ?_, by simp⟩
    · unfold sizeR
      rw [List.map_set]
      have := sum_set (s.1.map (fun r => r.ts.length)) (s.1.length - 1) ((s.1.getD (s.1.length - 1) rowT0).ts ++ line).length (by simpa using hpos)
      have e : (s.1.map (fun r => r.ts.length)).getD (s.1.length - 1) 0 = (s.1.getD (s.1.length - 1) rowT0).ts.length := by
        simp [List.getD_eq_getElem?_getD, List.getElem?_eq_getElem hpos]
      rw [e] at this
      simp only [List.length_append] at this ⊢
      omega
    · have := congrArg List.length hh
      simp at this
      exact hne this
  · refine ⟨?_, fun _ => by simp, by simp⟩
    simp [sizeR]
theorem getD_size {R : List RowT} {i : Nat} (h : i < R.length) : (R.getD i rowT0).ts.length ≤ sizeR R := by
  unfold sizeR
  induction R generalizing i with
  | nil => simp at h
  | cons r R ih =>
    cases i with
    | zero => simp
    | succ i =>
      simp only [List.length_cons, Nat.add_lt_add_iff_right] at h
      have := ih h
      simp only [List.getD_cons_succ, List.map_cons, List.sum_cons]
      omega
def PiecesFn (x : Value) (v : Value) (u : Im) : Prop := ∃ b, v = .func (.func 128) #[] #[.pointer (some ⟨b, 0, none⟩)] ∧ u.h b = some (.cells #[x] 22 (0, 0))
set_option maxRecDepth 100000 in
theorem piecesFn_any (A : Option Addr) (n c : Nat) (w : World) : Calls Try.prog 83 #[.slice A n c] w (PureP w (PiecesFn (.slice A n c))) := by
  refine x_fun tt_ok Try.func83 rfl rfl [] 0 [.v (.slice A n c)] rfl rfl rfl rfl (fun b hb => by cases hb) ?_
  refine x_vc tt_ok ?_
  refine finP (fun E w' F hs hu => ?_)
  obtain ⟨b, h1, h2⟩ := hs.boxNew (k := 0) rfl hu
  refine ⟨b, ?_, h2⟩
  simp [SV.den, tupV, ptrOf, h1]
def RowsR (R : List RowT) : Value → Im → Prop := StarR (fun (s : Option Addr × Nat × List RowV) => .slice s.1 R.length s.2.1) (fun s => itemsS s.2.2 R ++ [⟨.slice s.1 R.length s.2.1, 28, rowY.d s.2.2⟩]) (fun s => s.2.2.map RowV.key = R.map RowT.key)
theorem rowOne : ∀ x : RowV, ∀ y ∈ rowY.el x, oneB y = true := by
  intro x y hy
  simp [Lay.el] at hy
  rcases hy with rfl | rfl | rfl <;> rfl
set_option maxRecDepth 100000 in
theorem rows_any (L : List Tok) (A : Option Addr) (c : Nat) (w : World) (hx : SlAt (im w) (.slice A L.length c) (tokY.d L)) (hL : L.length * 48 ≤ 140737488355328) :
    Calls Try.prog 23 #[.slice A L.length c] w (PureP w (RowsR (rowsOf L))) := by
  refine x_fun tt_ok Try.func23 rfl rfl [] 0 [.v (.slice A L.length c)] rfl rfl rfl rfl (fun b hb => by cases hb) ?_
  refine x_vc tt_ok ?_
  refine xl_call _ rfl rfl rfl rfl fn83 rfl rfl (fun E w F _ => piecesFn_any _ _ _ w) (fun v u1 u2 hu2 hs2 hv => ?_)
  obtain ⟨b, rfl, hb⟩ := hv
  have hb2 := of_sub_cut hs2 hb
  have hx2 : SlAt u2 (.slice A L.length c) (tokY.d L) := hx.le hu2
  refine xl_go tt_ok ?_
  refine x_nilCell 0 28 rowY [] [] rfl ?_
  refine x_star0 0 ?_
  refine x_range (σ := Bool × List RowV × List RowT) (τ := Empty) rfl fn128 (pieces_iter L A c b u2 hb2 hx2 hL) [(3, .p 0 0), (4, .p 1 0), (0, .v (.slice A L.length c))]
    (fun (run, V, R) => [(0, .box 23 [.r 5]), (1, .box 4 [.v (.bool run)]), (5, .row 28 (rowY.d V)), (3, .gen (starHp (itemsS V R)))]) (fun _ => 6)
    (fun k (run, V, R) _ => ((linesOf L).take k).foldl addLine ([], false) = (R, run) ∧ V.map RowV.key = R.map RowT.key ∧ sizeR R = (((linesOf L).take k).map List.length).sum ∧ (run = true → R ≠ []) ∧ R.length ≤ k)
    (fun _ => []) (fun _ => 6) (fun _ e _ => False) (false, [], []) [(5, some 2)] (.of rfl rfl rfl rfl rfl rfl) ⟨rfl, rfl, rfl, (fun h => by cases h), Nat.le_refl _⟩ rfl
    (fun _ => rfl) (fun _ => rfl) (fun _ => by decide) (fun _ => by decide) rfl (fun l k x s u3 Fr Fr' hx hu3 hg => ?_) (fun s u3 hu3 hg => ?_) (fun _ e u3 hu3 hg => hg.elim)
  · obtain ⟨run, V, R⟩ := s
    rw [List.getElem?_map] at hx
    obtain ⟨p, hp, rfl⟩ := Option.map_eq_some_iff.1 hx
    have hm := pcs_mem L 0 0 p (Nat.le_refl _) (List.mem_of_getElem? hp)
    have hln : SlAt u3 (pcV A c p) (tokY.d (lnOf L p)) := partV_slAt (hx2.le hu3) (by omega) (by omega)
    have hll : (lnOf L p).length = p.2 - p.1 := by simp [lnOf]; omega
    obtain ⟨g1, g2, g3, g4, g5⟩ := hg
    have hk : (linesOf L)[k]? = some (lnOf L p) := by rw [linesOf, List.getElem?_map, hp]; rfl
    have hadd := addLine_size (R, run) (lnOf L p) g4
    have hVR : V.length = R.length := by have := congrArg List.length g2; simpa using this
    have hpl := pcs_len L 0 0 (Nat.le_refl _)
    have hkl : k < (pcs 0 0 L).length := (List.getElem?_eq_some_iff.1 hp).1
    have hsum : sizeR R + (lnOf L p).length ≤ L.length := by
      have h1 := pcs_sum L L 0 0 (Nat.le_refl _) (by omega)
      rw [g3]
      have h2 := congrArg (fun l => (l.map List.length).sum) (List.take_append_drop k (linesOf L))
      simp only [List.map_append, List.sum_append] at h2
      rw [show (linesOf L).drop k = lnOf L p :: (linesOf L).drop (k + 1) from drop_get hk] at h2
      simp only [List.map_cons, List.sum_cons] at h2
      have h3 : ((linesOf L).map List.length).sum = L.length := by rw [linesOf, h1]; omega
      omega
    have next : ((linesOf L).take (k + 1)).foldl addLine ([], false) = addLine (R, run) (lnOf L p) := by
      rw [take_get hk, List.foldl_append, g1]; rfl
    have nsum : (((linesOf L).take (k + 1)).map List.length).sum = sizeR R + (lnOf L p).length := by
      rw [take_get hk, List.map_append, List.sum_append, ← g3]; simp
    refine x_vc tt_ok ?_
    refine ⟨rfl, rfl, x_vc tt_ok ?_⟩
    refine xl_call0 (.tuple #[.string (dirF false (lnOf L p)).1, .bool (dirF false (lnOf L p)).2]) rfl rfl rfl rfl fn84 rfl rfl (fun E w F hs => directive_any _ _ w (hln.imm hs.imm) (by omega)) ?_
    refine xl_go tt_ok ?_
    refine x_if (fun h => ?_) (fun h => ?_)
    · have h1 : (!(dirF false (lnOf L p)).2 && run) = true := h
      rw [addLine, if_pos h1] at next hadd
      obtain ⟨hd1, hd2⟩ := Bool.and_eq_true_iff.1 h1
      subst hd2
      have hRne := g4 rfl
      have hpos : 0 < R.length := List.length_pos_iff.2 hRne
      have hi : (((V.length : Nat) : Int) - 1).toNat < V.length := by omega
      have hi2 : (((V.length : Nat) : Int) - 1).toNat < R.length := by omega
      have hei : (((V.length : Nat) : Int) - 1).toNat = R.length - 1 := by omega
      have hts := getD_size hi2
      repeat (refine And.intro ?_ ?_; first | omega | (simp only [Lay.d_n]; omega))
      refine xl_unpark 31 3 (((V.length : Nat) : Int) - 1).toNat rfl rfl (itemsS_get hi hi2) ?_
      refine xl_append tt_ok tokY (R.getD (((V.length : Nat) : Int) - 1).toNat rowT0).ts (lnOf L p) 48 rfl rfl rfl rfl rfl rfl rfl rfl (by kernel_rfl) rfl rfl rfl (fun E w F hs => hln.imm hs.imm) tokOne rfl (by omega) (by omega) ?_
      refine xl_go tt_ok ?_
      refine xl_park 7 3 (((V.length : Nat) : Int) - 1).toNat rfl rfl (List.getElem?_set_self (by rw [itemsS, List.length_zipWith]; omega)) rfl (fun A' c' => ?_)
      refine xl_set tt_ok (cs := [.slice A' (tokY.d ((R.getD (((V.length : Nat) : Int) - 1).toNat rowT0).ts ++ lnOf L p)).n c']) rowY V { V.getD (((V.length : Nat) : Int) - 1).toNat row0 with ta := A', tn := (tokY.d ((R.getD (((V.length : Nat) : Int) - 1).toNat rowT0).ts ++ lnOf L p)).n, tc := c' } rfl rfl rfl rfl rfl rfl rfl (by simp only [Lay.d_n]; omega) (by simp only [Lay.d_n]; omega) rfl rfl (Nat.le_refl 3) rfl ?_
      refine xl_go tt_ok ?_
      rw [List.set_set]
      have e := itemsS_set (V := V) (R := R) (i := (((V.length : Nat) : Int) - 1).toNat) (v := { V.getD (((V.length : Nat) : Int) - 1).toNat row0 with ta := A', tn := (tokY.d ((R.getD (((V.length : Nat) : Int) - 1).toNat rowT0).ts ++ lnOf L p)).n, tc := c' })
        (r := { R.getD (((V.length : Nat) : Int) - 1).toNat rowT0 with ts := (R.getD (((V.length : Nat) : Int) - 1).toNat rowT0).ts ++ lnOf L p })
      refine ⟨(true, V.set (((V.length : Nat) : Int) - 1).toNat { V.getD (((V.length : Nat) : Int) - 1).toNat row0 with ta := A', tn := (tokY.d ((R.getD (((V.length : Nat) : Int) - 1).toNat rowT0).ts ++ lnOf L p)).n, tc := c' }, R.set (((V.length : Nat) : Int) - 1).toNat { R.getD (((V.length : Nat) : Int) - 1).toNat rowT0 with ts := (R.getD (((V.length : Nat) : Int) - 1).toNat rowT0).ts ++ lnOf L p }), [], ?_, ?_⟩
      · simp only [e]
        exact .of rfl rfl rfl rfl rfl rfl
      · rw [hei]
        refine ⟨next, ?_, by rw [nsum]; exact hadd.1, fun h => hadd.2.1 h, by have := hadd.2.2; simp at this ⊢; omega⟩
        rw [List.map_set, List.map_set, g2]
        congr 1
        have := congrArg (fun l => l.getD (R.length - 1) row0.key) g2
        simp only [List.getD_eq_getElem?_getD, List.getElem?_map] at this ⊢
        rw [List.getElem?_eq_getElem (by omega : R.length - 1 < V.length), List.getElem?_eq_getElem (by omega : R.length - 1 < R.length)] at this ⊢
        exact this
    · have h1 : (!(dirF false (lnOf L p)).2 && run) = false := h
      rw [addLine, if_neg (by rw [h1]; simp)] at next hadd
      generalize hD : dirF false (lnOf L p) = dn at h1 next hadd ⊢
      have pz : (R ++ [(⟨dn.2, dn.1, lnOf L p⟩ : RowT)]).length ≤ k + 1 := by simp; omega
      refine x_via (σ := Option Addr × Nat) (fun (A', c') => ⟨[(7, .v (.bool dn.2)), (4, .p 1 0), (3, .p 0 0)], [],
          [(4, .gen Fr'), (0, .box 23 [.r 6]), (1, .box 4 [.v (.bool run)]), (6, .row 28 (rowY.d (V ++ [⟨dn.2, dn.1, A', (tokY.d (lnOf L p)).n, c'⟩]))), (3, .gen (starHp (itemsS V R ++ [⟨.slice A' (tokY.d (lnOf L p)).n c', 31, tokY.d (lnOf L p)⟩])))], 7⟩) (fun _ _ => True) (fun _ => (by decide : 6 ≤ 7)) ?_ ?_
      · refine x_drawA mix ?_
        refine xa_pures tt_ok (fuel := 6) [1, 2, 3] rfl (by kernel_rfl) (by kernel_rfl) (fun _ _ _ hh => hh) (by kernel_rfl) (by kernel_rfl) ?_
        refine xa_two 0 4 (by kernel_rfl) rfl rfl (xl_go tt_ok ?_) ?_
        · refine xa_chain (fuel := 0) [4, 5, 6, 7, 8] rfl rfl (by kernel_rfl) ?_
          refine xl_callO 31 (tokY.d (lnOf L p)) rfl rfl rfl rfl fn85 rfl rfl (fun E w F hs => clone_own _ _ w (hln.imm hs.imm) (by omega)) ?_
          refine xl_parkN 6 3 rfl rfl (fun A' c' => ?_)
          refine xl_go tt_ok ?_
          refine xl_build tt_ok rowY [⟨dn.2, dn.1, A', (tokY.d (lnOf L p)).n, c'⟩] [_] rfl rfl rfl rfl rfl rfl rfl rfl rfl rfl rfl rfl rfl rfl rfl ?_
          refine xl_append tt_ok rowY V [⟨dn.2, dn.1, A', (tokY.d (lnOf L p)).n, c'⟩] 48 rfl rfl rfl rfl rfl rfl rfl rfl (by kernel_rfl) rfl rfl rfl (fun E w F hs => hs.rowAt (k := 7) rfl) rowOne rfl (by simp only [List.length_singleton]; omega) (by simp only [List.length_singleton]; omega) ?_
          refine xl_go tt_ok ?_
          refine xa_done (by kernel_rfl) rfl ?_
          exact meet (A', c') [(6, some 8)] (.of rfl rfl rfl rfl rfl rfl) trivial
        · refine xl_callO 31 (tokY.d (lnOf L p)) rfl rfl rfl rfl fn85 rfl rfl (fun E w F hs => clone_own _ _ w (hln.imm hs.imm) (by omega)) ?_
          refine xl_parkN 6 3 rfl rfl (fun A' c' => ?_)
          refine xl_end ?_
          refine xa_two 0 5 (by kernel_rfl) rfl rfl (xl_go tt_ok ?_) (xl_go tt_ok ?_)
          · refine xa_chain (fuel := 0) [5, 6, 7, 8] rfl rfl (by kernel_rfl) ?_
            refine xl_go tt_ok ?_
            refine xl_build tt_ok rowY [⟨dn.2, dn.1, A', (tokY.d (lnOf L p)).n, c'⟩] [_] rfl rfl rfl rfl rfl rfl rfl rfl rfl rfl rfl rfl rfl rfl rfl ?_
            refine xl_append tt_ok rowY V [⟨dn.2, dn.1, A', (tokY.d (lnOf L p)).n, c'⟩] 48 rfl rfl rfl rfl rfl rfl rfl rfl (by kernel_rfl) rfl rfl rfl (fun E w F hs => hs.rowAt (k := 7) rfl) rowOne rfl (by simp only [List.length_singleton]; omega) (by simp only [List.length_singleton]; omega) ?_
            refine xl_go tt_ok ?_
            refine xa_done (by kernel_rfl) rfl ?_
            exact meet (A', c') [(6, some 8)] (.of rfl rfl rfl rfl rfl rfl) trivial
          · refine xa_two 0 6 (by kernel_rfl) rfl rfl (xl_go tt_ok ?_) ?_
            · refine xa_chain (fuel := 0) [6, 7, 8] rfl rfl (by kernel_rfl) ?_
              refine xl_build tt_ok rowY [⟨dn.2, dn.1, A', (tokY.d (lnOf L p)).n, c'⟩] [_] rfl rfl rfl rfl rfl rfl rfl rfl rfl rfl rfl rfl rfl rfl rfl ?_
              refine xl_append tt_ok rowY V [⟨dn.2, dn.1, A', (tokY.d (lnOf L p)).n, c'⟩] 48 rfl rfl rfl rfl rfl rfl rfl rfl (by kernel_rfl) rfl rfl rfl (fun E w F hs => hs.rowAt (k := 7) rfl) rowOne rfl (by simp only [List.length_singleton]; omega) (by simp only [List.length_singleton]; omega) ?_
              refine xl_go tt_ok ?_
              refine xa_done (by kernel_rfl) rfl ?_
              exact meet (A', c') [(6, some 8)] (.of rfl rfl rfl rfl rfl rfl) trivial
            · refine xl_build tt_ok rowY [⟨dn.2, dn.1, A', (tokY.d (lnOf L p)).n, c'⟩] [_] rfl rfl rfl rfl rfl rfl rfl rfl rfl rfl rfl rfl rfl rfl rfl ?_
              refine xl_end ?_
              refine xa_chain (fuel := 0) [0, 7, 8] rfl rfl (by kernel_rfl) ?_
              refine xl_go tt_ok ?_
              refine xl_append tt_ok rowY V [⟨dn.2, dn.1, A', (tokY.d (lnOf L p)).n, c'⟩] 48 rfl rfl rfl rfl rfl rfl rfl rfl (by kernel_rfl) rfl rfl rfl (fun E w F hs => hs.rowAt (k := 7) rfl) rowOne rfl (by simp only [List.length_singleton]; omega) (by simp only [List.length_singleton]; omega) ?_
              refine xl_go tt_ok ?_
              refine xa_done (by kernel_rfl) rfl ?_
              exact meet (A', c') [(6, some 8)] (.of rfl rfl rfl rfl rfl rfl) trivial
      · rintro ⟨A', c'⟩ u4 hu4 _
        refine ⟨(!dn.2, V ++ [⟨dn.2, dn.1, A', (tokY.d (lnOf L p)).n, c'⟩], R ++ [⟨dn.2, dn.1, lnOf L p⟩]), [(5, some 6)], ?_, next, ?_, by rw [nsum]; exact hadd.1, fun h => hadd.2.1 h, pz⟩
        · have e := itemsS_push hVR (⟨dn.2, dn.1, A', (tokY.d (lnOf L p)).n, c'⟩ : RowV) (⟨dn.2, dn.1, lnOf L p⟩ : RowT)
          simp only [e]
          exact .of rfl rfl rfl rfl rfl rfl
        · rw [List.map_append, List.map_append, g2]; rfl
  · obtain ⟨run, V, R⟩ := s
    obtain ⟨g1, g2, _⟩ := hg
    have e1 : ((pcs 0 0 L).map (pcV A c)).length = (linesOf L).length := by simp [linesOf]
    rw [e1, List.take_length] at g1
    have hVR : V.length = R.length := by have := congrArg List.length g2; simpa using this
    have hR : R = rowsOf L := by rw [rowsOf, g1]
    subst hR
    refine finStarO (k := 5) (ks := 3) rfl rfl (fun A' c' => ⟨(A', c', V), fun E hE => ?_, ?_, g2⟩)
    · show E 5 = _
      rw [hE, Lay.d_n, hVR]
    · rw [Lay.d_n, hVR]
end Go.Proofs.Ytdonomneofdhfaa
namespace Go.Proofs.Ytdonomneofdhfaa
open Go.GV Go.RowKit
def hashB (b : List Tok) : Bool := decide (0 < (b.length : Int)) && (decide ((b.getD 0 tok0).kind = 5) && (decide ((b.getD 0 tok0).text = ⟨#[35]⟩) || decide ((b.getD 0 tok0).text = ⟨#[37, 58]⟩)))
set_option maxRecDepth 100000 in
theorem hash_any (L : List Tok) (x : Value) (w : World) (hx : SlAt (im w) x (tokY.d L)) :
    Calls Try.prog 87 #[x] w (PureP w fun v _ => v = .bool (hashB L)) := by
  refine x_fun tt_ok Try.func87 rfl rfl [(x, tokY.d L)] 1 [.r 0] rfl rfl rfl rfl (fun b hb => by simp at hb; subst hb; exact hx) ?_
  refine x_vc tt_ok ?_
  repeat (refine And.intro ?_ ?_; first | omega | (simp only [decide_eq_true_eq, decide_eq_false_iff_not, Bool.and_eq_true]; simp only [Lay.d_n]; omega))
  refine fin1 (fun _ _ => ?_)
  show Value.bool _ = _
  unfold hashB
  rw [← Bool.and_assoc]
  rfl
def dirB : List Tok → ByteArray × Bool
  | [] => (⟨#[]⟩, false)
  | t :: r => if noHash t then (⟨#[]⟩, false) else match r with
    | [] => (⟨#[]⟩, true)
    | t2 :: _ => if t2.kind = 1 then (t2.text, true) else (⟨#[]⟩, true)
theorem dirF_true (dr : Bool) (L : List Tok) : dirF true L = (match bareFrom dr L with
    | [] => (⟨#[]⟩, true)
    | t2 :: _ => if t2.kind = 1 then (t2.text, true) else (⟨#[]⟩, true)) := by
  induction L generalizing dr with
  | nil => rfl
  | cons t r ih =>
    simp only [dirF, bareFrom]
    cases hg : gone t with
    | true => simp only [if_true]; exact ih true
    | false => simp
theorem dirF_bare (dr : Bool) (L : List Tok) : dirF false L = dirB (bareFrom dr L) := by
  induction L generalizing dr with
  | nil => rfl
  | cons t r ih =>
    simp only [dirF, bareFrom]
    cases hg : gone t with
    | true => simp only [if_true]; exact ih true
    | false =>
      simp only [Bool.false_eq_true, if_false, dirB, Bool.not_false, Bool.true_and, if_true]
      have : noHash { t with space := t.space || dr } = noHash t := rfl
      rw [this, dirF_true false]
theorem hash_dir (b : List Tok) : (dirB b).2 = hashB b := by
  cases b with
  | nil => rfl
  | cons t r =>
    simp only [dirB, hashB, noHash, List.getD_cons_zero, List.length_cons]
    rw [decide_eq_true (show 0 < ((r.length + 1 : Nat) : Int) by omega)]
    by_cases h5 : t.kind = 5
    · by_cases h1 : t.text = ⟨#[35]⟩
      · simp [h5, h1]
        cases r with
        | nil => rfl
        | cons => simp only; split <;> rfl
      · by_cases h2 : t.text = ⟨#[37, 58]⟩
        · simp [h5, h2]
          cases r with
          | nil => rfl
          | cons => simp only; split <;> rfl
        · simp [h5, h1, h2]
    · simp [h5]
def nameB (b : List Tok) : ByteArray := if (hashB b && (decide (1 < (b.length : Int)) && decide ((b.getD 1 tok0).kind = 1))) = true then (b.getD 1 tok0).text else ⟨#[]⟩
theorem name_dir (b : List Tok) : (dirB b).1 = nameB b := by
  unfold nameB
  rw [← hash_dir]
  cases b with
  | nil => rfl
  | cons t r =>
    simp only [dirB]
    split
    · simp
    · cases r with
      | nil => simp
      | cons t2 r =>
        simp only [List.length_cons, List.getD_cons_succ, List.getD_cons_zero]
        rw [decide_eq_true (show 1 < ((r.length + 1 + 1 : Nat) : Int) by omega)]
        by_cases h : t2.kind = 1
        · simp [h]
        · simp [h]
theorem key_dir {V : List RowV} {R : List RowT} (h : V.map RowV.key = R.map RowT.key) (i : Nat) : (V.getD i row0).dir = (R.getD i rowT0).dir := by
  have hl : V.length = R.length := by have := congrArg List.length h; simpa using this
  rcases Nat.lt_or_ge i V.length with hi | hi
  · have := congrArg (fun l => l.getD i row0.key) h
    simp only [List.getD_eq_getElem?_getD, List.getElem?_map] at this ⊢
    rw [List.getElem?_eq_getElem hi, List.getElem?_eq_getElem (by omega)] at this ⊢
    exact congrArg Prod.fst this
  · simp only [List.getD_eq_getElem?_getD]
    rw [List.getElem?_eq_none hi, List.getElem?_eq_none (by omega)]; rfl
set_option maxRecDepth 100000 in
theorem refRows_any (L : List Tok) (x : Value) (w : World) (hx : SlAt (im w) x (tokY.d L)) (hL : L.length * 48 ≤ 140737488355328) :
    Calls Try.prog 24 #[x] w (PureP w (RowsR (rowsOf L))) := by
  refine x_fun tt_ok Try.func24 rfl rfl [(x, tokY.d L)] 1 [.r 0] rfl rfl rfl rfl (fun b hb => by simp at hb; subst hb; exact hx) ?_
  refine x_vc tt_ok ?_
  refine x_nil 3 28 rowY rfl ?_
  refine x_nil 4 31 tokY rfl ?_
  refine x_star0 0 ?_
  refine x_loop (σ := Int × List RowV × List RowT × Bool × Int × List Tok) (fun (i, V, R, run, f, ln) => ⟨[(5, .v (.int .i64 i)), (4, .r 5), (3, .r 4), (0, .r 0)], [], [(0, .sl (tokY.d L)), (4, .row 28 (rowY.d V)), (5, .row 31 (tokY.d ln)), (3, .gen (starHp (itemsS V R)))], 6⟩)
    (fun (i, V, R, run, f, ln) _ => 0 ≤ f ∧ f ≤ i ∧ i ≤ L.length ∧ (i = L.length → f = i) ∧ ln = (L.take i.toNat).drop f.toNat ∧ (∃ pre, pcs 0 0 L = pre ++ pcs f.toNat i.toNat (L.drop i.toNat) ∧ (pre.map (lnOf L)).foldl addLine ([], false) = (R, run) ∧ (sizeR R : Int) = f ∧ R.length ≤ i) ∧ V.map RowV.key = R.map RowT.key ∧ (run = (decide (0 < (R.length : Int)) && !(R.getD (R.length - 1) rowT0).dir)))
    (fun (i, _, _, _, _, _) => (L.length - i).toNat) (fun (_, _, _, _, _, _) => (by decide : 4 ≤ 6)) (0, [], [], false, 0, []) [(4, some 1), (5, some 2)] (.of rfl rfl rfl rfl rfl rfl)
    ⟨by omega, by omega, by omega, by omega, (by simp), ⟨[], by simp, rfl, rfl, by simp⟩, rfl, rfl⟩ ?_
  rintro ⟨i, V, R, run, f, ln⟩ u hu ⟨g0, g1, g2, g3, rfl, ⟨pre, g4, g5, g6, g7⟩, g8, g9⟩
  have hVR : V.length = R.length := by have := congrArg List.length g8; simpa using this
  refine x_vc tt_ok ?_
  refine x_if (fun h => ?_) (fun h => ?_)
  · have h2 : i < L.length := of_decide_eq_true h
    have ei : (i + 1).toNat = i.toNat + 1 := by omega
    have hline : ((L.take i.toNat).drop f.toNat) ++ [L.getD i.toNat tok0] = lnOf L (f.toNat, (i + 1).toNat) := by
      rw [lnOf, take_succ_getD (d := tok0) (by omega) h2, List.drop_append_of_le_length (by rw [List.length_take]; omega)]
    have hll : ((L.take i.toNat).drop f.toNat).length = i.toNat - f.toNat := by rw [List.length_drop, List.length_take]; omega
    have hll2 : (lnOf L (f.toNat, (i + 1).toNat)).length = i.toNat + 1 - f.toNat := by rw [← hline, List.length_append, hll]; simp; omega
    rw [drop_at (d := tok0) (by omega) h2, ei] at g4
    simp only [pcs] at g4
    repeat (refine And.intro ?_ ?_; first | omega | (simp only [Lay.d_n]; omega))
    refine xl_push tt_ok tokY ((L.take i.toNat).drop f.toNat) (L.getD i.toNat tok0) 48 rfl rfl rfl rfl rfl rfl rfl rfl rfl rfl rfl rfl (by kernel_rfl) rfl rfl rfl rfl rfl (fun n hn => by cases hn; decide) rfl rfl rfl (by omega) (by omega) ?_
    rw [hline]
    refine xl_go tt_ok ?_
    repeat (refine And.intro ?_ ?_; first | omega | (simp only [Lay.d_n]; omega) | (simp only [decide_eq_true_eq, decide_eq_false_iff_not, Bool.or_eq_false_iff, Bool.and_eq_true, Bool.or_eq_true, Bool.and_eq_false_iff, Bool.not_eq_true', Bool.not_eq_false', Lay.d_n]; omega) | (simp only [decide_eq_true_eq, decide_eq_false_iff_not, Bool.or_eq_false_iff, Bool.and_eq_true, Bool.or_eq_true, Bool.and_eq_false_iff, Bool.not_eq_true', Bool.not_eq_false']; omega))
    refine x_if (fun h3 => ?_) (fun h3 => ?_)
    · have h4 : (decide ((L.getD i.toNat tok0).kind ≠ 9) && decide (i < (L.length : Int) - 1)) = true := h3
      rw [Bool.and_eq_true, decide_eq_true_eq, decide_eq_true_eq] at h4
      rw [if_neg h4.1] at g4
      repeat (refine And.intro ?_ ?_; first | omega | (simp only [Lay.d_n]; omega) | (simp only [decide_eq_true_eq, decide_eq_false_iff_not, Bool.or_eq_false_iff, Bool.and_eq_true, Bool.or_eq_true, Bool.and_eq_false_iff, Bool.not_eq_true', Bool.not_eq_false', Lay.d_n]; omega) | (simp only [decide_eq_true_eq, decide_eq_false_iff_not, Bool.or_eq_false_iff, Bool.and_eq_true, Bool.or_eq_true, Bool.and_eq_false_iff, Bool.not_eq_true', Bool.not_eq_false']; omega))
      exact again (i + 1, V, R, run, f, lnOf L (f.toNat, (i + 1).toNat)) [(5, some 6)] (.of rfl rfl rfl rfl rfl rfl) ⟨by omega, by omega, by omega, by omega, rfl, ⟨pre, by rw [ei]; exact g4, g5, g6, by omega⟩, g8, g9⟩ (by simp only; omega)
    · have h4 : (decide ((L.getD i.toNat tok0).kind ≠ 9) && decide (i < (L.length : Int) - 1)) = false := h3
      have gnext : pcs 0 0 L = (pre ++ [(f.toNat, (i + 1).toNat)]) ++ pcs (i + 1).toNat (i + 1).toNat (L.drop (i + 1).toNat) := by
        rw [List.append_assoc, List.singleton_append, ei]
        by_cases hk : (L.getD i.toNat tok0).kind = 9
        · rw [if_pos hk] at g4; exact g4
        · rw [decide_eq_true hk, Bool.true_and, decide_eq_false_iff_not] at h4
          rw [if_neg hk, List.drop_eq_nil_of_le (by omega)] at g4
          rw [g4, List.drop_eq_nil_of_le (by omega)]
          simp only [pcs]
          rw [if_pos (by omega), if_neg (by omega)]
      refine xl_callO 31 (tokY.d (bareFrom false (lnOf L (f.toNat, (i + 1).toNat)))) rfl rfl rfl rfl fn86 rfl rfl (fun E w F hs => refBare_any _ _ w (hs.rowAt (k := 6) rfl) (by omega)) ?_
      refine xl_go tt_ok ?_
      obtain ⟨b, hb⟩ : ∃ b, b = bareFrom false (lnOf L (f.toNat, (i + 1).toNat)) := ⟨_, rfl⟩
      rw [← hb]
      refine xl_call0 (.bool (hashB b)) rfl rfl rfl rfl fn87 rfl rfl (fun E w F hs => hash_any b _ w (hs.rowAt (k := 7) rfl)) ?_
      refine xl_parkN 6 3 rfl rfl (fun A' c' => ?_)
      refine xl_go tt_ok ?_
      repeat (refine And.intro ?_ ?_; first | omega | (simp only [Lay.d_n]; omega) | (simp only [decide_eq_true_eq, decide_eq_false_iff_not, Bool.or_eq_false_iff, Bool.and_eq_true, Bool.or_eq_true, Bool.and_eq_false_iff, Bool.not_eq_true', Bool.not_eq_false', Lay.d_n]; omega) | (simp only [decide_eq_true_eq, decide_eq_false_iff_not, Bool.or_eq_false_iff, Bool.and_eq_true, Bool.or_eq_true, Bool.and_eq_false_iff, Bool.not_eq_true', Bool.not_eq_false']; omega))
      refine x_if (fun hn => ?_) (fun hn => ?_)
      · have hnm : nameB b = (b.getD 1 tok0).text := by
          unfold nameB; rw [if_pos (by rw [← Bool.and_assoc]; exact hn)]
        have hlen : 1 < b.length := by
          have hh := hn
          simp only [Bool.and_eq_true, decide_eq_true_eq, Lay.d_n] at hh
          have h9 : (1 : Int) < (b.length : Int) := of_decide_eq_true hh.1.2
          omega
        repeat (refine And.intro ?_ ?_; first | omega | (simp only [Lay.d_n]; omega) | (simp only [decide_eq_true_eq, decide_eq_false_iff_not, Bool.or_eq_false_iff, Bool.and_eq_true, Bool.or_eq_true, Bool.and_eq_false_iff, Bool.not_eq_true', Bool.not_eq_false', Lay.d_n]; omega) | (simp only [decide_eq_true_eq, decide_eq_false_iff_not, Bool.or_eq_false_iff, Bool.and_eq_true, Bool.or_eq_true, Bool.and_eq_false_iff, Bool.not_eq_true', Bool.not_eq_false']; omega))
        refine x_if (fun h5 => ?_) (fun h5 => ?_)
        · have hc : (!(hashB b) && (decide (0 < (V.length : Int)) && !(V.getD ((V.length : Int) - 1).toNat row0).dir)) = true := by rw [← Bool.and_assoc]; exact h5
          rw [Bool.and_eq_true, Bool.and_eq_true, decide_eq_true_eq] at hc
          have hi : ((V.length : Int) - 1).toNat < V.length := by omega
          have hi2 : ((V.length : Int) - 1).toNat < R.length := by omega
          have hts := getD_size hi2
          repeat (refine And.intro ?_ ?_; first | omega | (simp only [Lay.d_n]; omega) | (simp only [decide_eq_true_eq, decide_eq_false_iff_not, Bool.or_eq_false_iff, Bool.and_eq_true, Bool.or_eq_true, Bool.and_eq_false_iff, Bool.not_eq_true', Bool.not_eq_false', Lay.d_n]; omega) | (simp only [decide_eq_true_eq, decide_eq_false_iff_not, Bool.or_eq_false_iff, Bool.and_eq_true, Bool.or_eq_true, Bool.and_eq_false_iff, Bool.not_eq_true', Bool.not_eq_false']; omega))
          refine xl_unpark 86 3 ((V.length : Int) - 1).toNat rfl rfl (by rw [List.getElem?_append_left (by rw [itemsS, List.length_zipWith]; omega)]; exact itemsS_get hi hi2) ?_
          refine xl_append tt_ok tokY (R.getD ((V.length : Int) - 1).toNat rowT0).ts (lnOf L (f.toNat, (i + 1).toNat)) 48 rfl rfl rfl rfl rfl rfl rfl rfl (by kernel_rfl) rfl rfl rfl (fun E w F hs => hs.starAt (s := 3) (i := R.length) rfl (by
            rw [List.getElem?_set, if_neg (by omega), List.getElem?_append_right (by rw [itemsS, List.length_zipWith]; omega)]
            rw [show R.length - (itemsS V R).length = 0 by rw [itemsS, List.length_zipWith]; omega]; rfl)) tokOne rfl (by omega) (by omega) ?_
          refine xl_go tt_ok ?_
          repeat (refine And.intro ?_ ?_; first | omega | (simp only [Lay.d_n]; omega) | (simp only [decide_eq_true_eq, decide_eq_false_iff_not, Bool.or_eq_false_iff, Bool.and_eq_true, Bool.or_eq_true, Bool.and_eq_false_iff, Bool.not_eq_true', Bool.not_eq_false', Lay.d_n]; omega) | (simp only [decide_eq_true_eq, decide_eq_false_iff_not, Bool.or_eq_false_iff, Bool.and_eq_true, Bool.or_eq_true, Bool.and_eq_false_iff, Bool.not_eq_true', Bool.not_eq_false']; omega))
          refine xl_park 10 3 ((V.length : Int) - 1).toNat rfl rfl (List.getElem?_set_self (by rw [List.length_append, itemsS, List.length_zipWith]; omega)) rfl (fun A2 c2 => ?_)
          refine xl_set tt_ok (cs := [.slice A2 (tokY.d ((R.getD ((V.length : Int) - 1).toNat rowT0).ts ++ lnOf L (f.toNat, (i + 1).toNat))).n c2]) rowY V { V.getD ((V.length : Int) - 1).toNat row0 with ta := A2, tn := (tokY.d ((R.getD ((V.length : Int) - 1).toNat rowT0).ts ++ lnOf L (f.toNat, (i + 1).toNat))).n, tc := c2 } rfl rfl rfl rfl rfl rfl rfl (by simp only [Lay.d_n]; omega) (by simp only [Lay.d_n]; omega) rfl rfl (Nat.le_refl 3) rfl ?_
          refine xl_starTake 3 R.length rfl ?_
          refine xl_go tt_ok ?_
          repeat (refine And.intro ?_ ?_; first | omega | (simp only [Lay.d_n]; omega) | (simp only [decide_eq_true_eq, decide_eq_false_iff_not, Bool.or_eq_false_iff, Bool.and_eq_true, Bool.or_eq_true, Bool.and_eq_false_iff, Bool.not_eq_true', Bool.not_eq_false', Lay.d_n]; omega) | (simp only [decide_eq_true_eq, decide_eq_false_iff_not, Bool.or_eq_false_iff, Bool.and_eq_true, Bool.or_eq_true, Bool.and_eq_false_iff, Bool.not_eq_true', Bool.not_eq_false']; omega))
          have hset : (((itemsS V R ++ [(⟨.slice A' (tokY.d (lnOf L (f.toNat, (i + 1).toNat))).n c', 31, tokY.d (lnOf L (f.toNat, (i + 1).toNat))⟩ : SI)]).set ((V.length : Int) - 1).toNat SI.hole).set ((V.length : Int) - 1).toNat (⟨.slice A2 (tokY.d ((R.getD ((V.length : Int) - 1).toNat rowT0).ts ++ lnOf L (f.toNat, (i + 1).toNat))).n c2, 31, tokY.d ((R.getD ((V.length : Int) - 1).toNat rowT0).ts ++ lnOf L (f.toNat, (i + 1).toNat))⟩ : SI)).take R.length =
              itemsS (V.set ((V.length : Int) - 1).toNat { V.getD ((V.length : Int) - 1).toNat row0 with ta := A2, tn := (tokY.d ((R.getD ((V.length : Int) - 1).toNat rowT0).ts ++ lnOf L (f.toNat, (i + 1).toNat))).n, tc := c2 }) (R.set ((V.length : Int) - 1).toNat { R.getD ((V.length : Int) - 1).toNat rowT0 with ts := (R.getD ((V.length : Int) - 1).toNat rowT0).ts ++ lnOf L (f.toNat, (i + 1).toNat) }) := by
            rw [List.set_set, itemsS_set, List.set_append_left _ _ (by rw [itemsS, List.length_zipWith]; omega), List.take_left' (by rw [List.length_set, itemsS, List.length_zipWith]; omega)]; rfl
          simp only [hset]
          have hdd : (V.getD ((V.length : Int) - 1).toNat row0).dir = (R.getD (R.length - 1) rowT0).dir := by rw [key_dir g8]; congr 2; omega
          have hrun : run = true := by rw [g9, decide_eq_true (show 0 < (R.length : Int) by omega), ← hdd]; simpa using hc.2.2
          have hadd : addLine (R, run) (lnOf L (f.toNat, (i + 1).toNat)) = (R.set ((V.length : Int) - 1).toNat { R.getD ((V.length : Int) - 1).toNat rowT0 with ts := (R.getD ((V.length : Int) - 1).toNat rowT0).ts ++ lnOf L (f.toNat, (i + 1).toNat) }, run) := by
            have h1 : ((V.length : Int) - 1).toNat = R.length - 1 := by omega
            rw [addLine, dirF_bare false, ← hb, hash_dir, hrun, if_pos (by rw [Bool.and_true]; exact hc.1), h1]
          have q1 : 0 ≤ i + 1 := by omega
          have q3 : i + 1 ≤ (L.length : Int) := by omega
          have q5 : ((L.length : Int) - (i + 1)).toNat < ((L.length : Int) - i).toNat := by omega
          have q4 : ((R.set ((V.length : Int) - 1).toNat { R.getD ((V.length : Int) - 1).toNat rowT0 with ts := (R.getD ((V.length : Int) - 1).toNat rowT0).ts ++ lnOf L (f.toNat, (i + 1).toNat) }).length : Int) ≤ i + 1 := by rw [List.length_set]; omega
          refine again (i + 1, V.set ((V.length : Int) - 1).toNat { V.getD ((V.length : Int) - 1).toNat row0 with ta := A2, tn := (tokY.d ((R.getD ((V.length : Int) - 1).toNat rowT0).ts ++ lnOf L (f.toNat, (i + 1).toNat))).n, tc := c2 }, R.set ((V.length : Int) - 1).toNat { R.getD ((V.length : Int) - 1).toNat rowT0 with ts := (R.getD ((V.length : Int) - 1).toNat rowT0).ts ++ lnOf L (f.toNat, (i + 1).toNat) }, run, i + 1, []) [(5, none)] (.of rfl rfl rfl rfl rfl rfl)
            ⟨q1, Int.le_refl _, q3, fun _ => rfl, (by simp), ⟨pre ++ [(f.toNat, (i + 1).toNat)], gnext, by rw [List.map_append, List.foldl_append, g5]; exact hadd, ?_, q4⟩, ?_, ?_⟩ q5
          · have := (addLine_size (R, run) (lnOf L (f.toNat, (i + 1).toNat)) (fun _ hh => by have h9 : R = [] := hh; rw [h9] at hi2; simp at hi2)).1
            rw [hadd] at this
            rw [this]; show ((sizeR R + (lnOf L (f.toNat, (i + 1).toNat)).length : Nat) : Int) = i + 1
            omega
          · rw [List.map_set, List.map_set, g8]
            congr 1
            have := congrArg (fun l => l.getD ((V.length : Int) - 1).toNat row0.key) g8
            simp only [List.getD_eq_getElem?_getD, List.getElem?_map] at this ⊢
            rw [List.getElem?_eq_getElem hi, List.getElem?_eq_getElem hi2] at this ⊢
            exact this
          · show run = (decide (0 < ((R.set ((V.length : Int) - 1).toNat { R.getD ((V.length : Int) - 1).toNat rowT0 with ts := (R.getD ((V.length : Int) - 1).toNat rowT0).ts ++ lnOf L (f.toNat, (i + 1).toNat) }).length : Int)) && !((R.set ((V.length : Int) - 1).toNat { R.getD ((V.length : Int) - 1).toNat rowT0 with ts := (R.getD ((V.length : Int) - 1).toNat rowT0).ts ++ lnOf L (f.toNat, (i + 1).toNat) }).getD ((R.set ((V.length : Int) - 1).toNat { R.getD ((V.length : Int) - 1).toNat rowT0 with ts := (R.getD ((V.length : Int) - 1).toNat rowT0).ts ++ lnOf L (f.toNat, (i + 1).toNat) }).length - 1) rowT0).dir)
            rw [List.length_set, hrun, decide_eq_true (show 0 < (R.length : Int) by omega), List.getD_eq_getElem?_getD, List.getElem?_set, if_pos (by omega), if_pos (by omega)]
            show true = (true && !(R.getD ((V.length : Int) - 1).toNat rowT0).dir)
            rw [show ((V.length : Int) - 1).toNat = R.length - 1 by omega, ← hdd]
            simpa using hc.2.2
        · have hc : (!(hashB b) && (decide (0 < (V.length : Int)) && !(V.getD ((V.length : Int) - 1).toNat row0).dir)) = false := by rw [← Bool.and_assoc]; exact h5
          refine xl_push tt_ok rowY V ⟨hashB b, (b.getD 1 tok0).text, A', (tokY.d (lnOf L (f.toNat, (i + 1).toNat))).n, c'⟩ 48 rfl rfl rfl rfl rfl rfl rfl rfl rfl rfl rfl rfl (by kernel_rfl) rfl rfl rfl rfl rfl (fun n hn => by cases hn; decide) rfl rfl rfl (by omega) (by omega) ?_
          refine xl_go tt_ok ?_
          repeat (refine And.intro ?_ ?_; first | omega | (simp only [Lay.d_n]; omega) | (simp only [decide_eq_true_eq, decide_eq_false_iff_not, Bool.or_eq_false_iff, Bool.and_eq_true, Bool.or_eq_true, Bool.and_eq_false_iff, Bool.not_eq_true', Bool.not_eq_false', Lay.d_n]; omega) | (simp only [decide_eq_true_eq, decide_eq_false_iff_not, Bool.or_eq_false_iff, Bool.and_eq_true, Bool.or_eq_true, Bool.and_eq_false_iff, Bool.not_eq_true', Bool.not_eq_false']; omega))
          have e : itemsS V R ++ [(⟨.slice A' (tokY.d (lnOf L (f.toNat, (i + 1).toNat))).n c', 31, tokY.d (lnOf L (f.toNat, (i + 1).toNat))⟩ : SI)] = itemsS (V ++ [(⟨hashB b, (b.getD 1 tok0).text, A', (tokY.d (lnOf L (f.toNat, (i + 1).toNat))).n, c'⟩ : RowV)]) (R ++ [(⟨hashB b, (b.getD 1 tok0).text, lnOf L (f.toNat, (i + 1).toNat)⟩ : RowT)]) := (itemsS_push hVR (⟨hashB b, (b.getD 1 tok0).text, A', (tokY.d (lnOf L (f.toNat, (i + 1).toNat))).n, c'⟩ : RowV) (⟨hashB b, (b.getD 1 tok0).text, lnOf L (f.toNat, (i + 1).toNat)⟩ : RowT)).symm
          have hrun : (!(hashB b) && run) = false := by
            rw [g9]
            by_cases h0 : 0 < (R.length : Int)
            · have hdd : (V.getD ((V.length : Int) - 1).toNat row0).dir = (R.getD (R.length - 1) rowT0).dir := by rw [key_dir g8]; congr 2; omega
              rw [decide_eq_true h0, ← hdd]
              rw [decide_eq_true (show 0 < (V.length : Int) by omega)] at hc
              exact hc
            · rw [decide_eq_false h0]; simp
          have hadd : addLine (R, run) (lnOf L (f.toNat, (i + 1).toNat)) = (R ++ [⟨hashB b, (b.getD 1 tok0).text, lnOf L (f.toNat, (i + 1).toNat)⟩], !(hashB b)) := by
            rw [addLine, dirF_bare false, ← hb, hash_dir, if_neg (by rw [hrun]; simp), name_dir, hnm]
          simp only [e]
          have q1 : 0 ≤ i + 1 := by omega
          have q3 : i + 1 ≤ (L.length : Int) := by omega
          have q5 : ((L.length : Int) - (i + 1)).toNat < ((L.length : Int) - i).toNat := by omega
          have q4 : ((R ++ [(⟨hashB b, (b.getD 1 tok0).text, lnOf L (f.toNat, (i + 1).toNat)⟩ : RowT)]).length : Int) ≤ i + 1 := by rw [List.length_append, List.length_singleton]; omega
          refine again (i + 1, V ++ [⟨hashB b, (b.getD 1 tok0).text, A', (tokY.d (lnOf L (f.toNat, (i + 1).toNat))).n, c'⟩], R ++ [⟨hashB b, (b.getD 1 tok0).text, lnOf L (f.toNat, (i + 1).toNat)⟩], !(hashB b), i + 1, []) [(4, some 9), (5, none)] (.of rfl rfl rfl rfl rfl rfl)
            ⟨q1, Int.le_refl _, q3, fun _ => rfl, (by simp), ⟨pre ++ [(f.toNat, (i + 1).toNat)], gnext, by rw [List.map_append, List.foldl_append, g5]; exact hadd, ?_, q4⟩, ?_, ?_⟩ q5
          · simp only [sizeR, List.map_append, List.sum_append] at g6 ⊢
            simp; omega
          · rw [List.map_append, List.map_append, g8]; rfl
          · simp
        
      · have hnm : nameB b = ⟨#[]⟩ := by
          unfold nameB
          have hn' : (hashB b && decide (1 < (b.length : Int)) && decide ((b.getD 1 tok0).kind = 1)) = false := hn
          rw [if_neg (by rw [← Bool.and_assoc, hn']; simp)]
        repeat (refine And.intro ?_ ?_; first | omega | (simp only [Lay.d_n]; omega) | (simp only [decide_eq_true_eq, decide_eq_false_iff_not, Bool.or_eq_false_iff, Bool.and_eq_true, Bool.or_eq_true, Bool.and_eq_false_iff, Bool.not_eq_true', Bool.not_eq_false', Lay.d_n]; omega) | (simp only [decide_eq_true_eq, decide_eq_false_iff_not, Bool.or_eq_false_iff, Bool.and_eq_true, Bool.or_eq_true, Bool.and_eq_false_iff, Bool.not_eq_true', Bool.not_eq_false']; omega))
        refine x_if (fun h5 => ?_) (fun h5 => ?_)
        · have hc : (!(hashB b) && (decide (0 < (V.length : Int)) && !(V.getD ((V.length : Int) - 1).toNat row0).dir)) = true := by rw [← Bool.and_assoc]; exact h5
          rw [Bool.and_eq_true, Bool.and_eq_true, decide_eq_true_eq] at hc
          have hi : ((V.length : Int) - 1).toNat < V.length := by omega
          have hi2 : ((V.length : Int) - 1).toNat < R.length := by omega
          have hts := getD_size hi2
          repeat (refine And.intro ?_ ?_; first | omega | (simp only [Lay.d_n]; omega) | (simp only [decide_eq_true_eq, decide_eq_false_iff_not, Bool.or_eq_false_iff, Bool.and_eq_true, Bool.or_eq_true, Bool.and_eq_false_iff, Bool.not_eq_true', Bool.not_eq_false', Lay.d_n]; omega) | (simp only [decide_eq_true_eq, decide_eq_false_iff_not, Bool.or_eq_false_iff, Bool.and_eq_true, Bool.or_eq_true, Bool.and_eq_false_iff, Bool.not_eq_true', Bool.not_eq_false']; omega))
          refine xl_unpark 86 3 ((V.length : Int) - 1).toNat rfl rfl (by rw [List.getElem?_append_left (by rw [itemsS, List.length_zipWith]; omega)]; exact itemsS_get hi hi2) ?_
          refine xl_append tt_ok tokY (R.getD ((V.length : Int) - 1).toNat rowT0).ts (lnOf L (f.toNat, (i + 1).toNat)) 48 rfl rfl rfl rfl rfl rfl rfl rfl (by kernel_rfl) rfl rfl rfl (fun E w F hs => hs.starAt (s := 3) (i := R.length) rfl (by
            rw [List.getElem?_set, if_neg (by omega), List.getElem?_append_right (by rw [itemsS, List.length_zipWith]; omega)]
            rw [show R.length - (itemsS V R).length = 0 by rw [itemsS, List.length_zipWith]; omega]; rfl)) tokOne rfl (by omega) (by omega) ?_
          refine xl_go tt_ok ?_
          repeat (refine And.intro ?_ ?_; first | omega | (simp only [Lay.d_n]; omega) | (simp only [decide_eq_true_eq, decide_eq_false_iff_not, Bool.or_eq_false_iff, Bool.and_eq_true, Bool.or_eq_true, Bool.and_eq_false_iff, Bool.not_eq_true', Bool.not_eq_false', Lay.d_n]; omega) | (simp only [decide_eq_true_eq, decide_eq_false_iff_not, Bool.or_eq_false_iff, Bool.and_eq_true, Bool.or_eq_true, Bool.and_eq_false_iff, Bool.not_eq_true', Bool.not_eq_false']; omega))
          refine xl_park 10 3 ((V.length : Int) - 1).toNat rfl rfl (List.getElem?_set_self (by rw [List.length_append, itemsS, List.length_zipWith]; omega)) rfl (fun A2 c2 => ?_)
          refine xl_set tt_ok (cs := [.slice A2 (tokY.d ((R.getD ((V.length : Int) - 1).toNat rowT0).ts ++ lnOf L (f.toNat, (i + 1).toNat))).n c2]) rowY V { V.getD ((V.length : Int) - 1).toNat row0 with ta := A2, tn := (tokY.d ((R.getD ((V.length : Int) - 1).toNat rowT0).ts ++ lnOf L (f.toNat, (i + 1).toNat))).n, tc := c2 } rfl rfl rfl rfl rfl rfl rfl (by simp only [Lay.d_n]; omega) (by simp only [Lay.d_n]; omega) rfl rfl (Nat.le_refl 3) rfl ?_
          refine xl_starTake 3 R.length rfl ?_
          refine xl_go tt_ok ?_
          repeat (refine And.intro ?_ ?_; first | omega | (simp only [Lay.d_n]; omega) | (simp only [decide_eq_true_eq, decide_eq_false_iff_not, Bool.or_eq_false_iff, Bool.and_eq_true, Bool.or_eq_true, Bool.and_eq_false_iff, Bool.not_eq_true', Bool.not_eq_false', Lay.d_n]; omega) | (simp only [decide_eq_true_eq, decide_eq_false_iff_not, Bool.or_eq_false_iff, Bool.and_eq_true, Bool.or_eq_true, Bool.and_eq_false_iff, Bool.not_eq_true', Bool.not_eq_false']; omega))
          have hset : (((itemsS V R ++ [(⟨.slice A' (tokY.d (lnOf L (f.toNat, (i + 1).toNat))).n c', 31, tokY.d (lnOf L (f.toNat, (i + 1).toNat))⟩ : SI)]).set ((V.length : Int) - 1).toNat SI.hole).set ((V.length : Int) - 1).toNat (⟨.slice A2 (tokY.d ((R.getD ((V.length : Int) - 1).toNat rowT0).ts ++ lnOf L (f.toNat, (i + 1).toNat))).n c2, 31, tokY.d ((R.getD ((V.length : Int) - 1).toNat rowT0).ts ++ lnOf L (f.toNat, (i + 1).toNat))⟩ : SI)).take R.length =
              itemsS (V.set ((V.length : Int) - 1).toNat { V.getD ((V.length : Int) - 1).toNat row0 with ta := A2, tn := (tokY.d ((R.getD ((V.length : Int) - 1).toNat rowT0).ts ++ lnOf L (f.toNat, (i + 1).toNat))).n, tc := c2 }) (R.set ((V.length : Int) - 1).toNat { R.getD ((V.length : Int) - 1).toNat rowT0 with ts := (R.getD ((V.length : Int) - 1).toNat rowT0).ts ++ lnOf L (f.toNat, (i + 1).toNat) }) := by
            rw [List.set_set, itemsS_set, List.set_append_left _ _ (by rw [itemsS, List.length_zipWith]; omega), List.take_left' (by rw [List.length_set, itemsS, List.length_zipWith]; omega)]; rfl
          simp only [hset]
          have hdd : (V.getD ((V.length : Int) - 1).toNat row0).dir = (R.getD (R.length - 1) rowT0).dir := by rw [key_dir g8]; congr 2; omega
          have hrun : run = true := by rw [g9, decide_eq_true (show 0 < (R.length : Int) by omega), ← hdd]; simpa using hc.2.2
          have hadd : addLine (R, run) (lnOf L (f.toNat, (i + 1).toNat)) = (R.set ((V.length : Int) - 1).toNat { R.getD ((V.length : Int) - 1).toNat rowT0 with ts := (R.getD ((V.length : Int) - 1).toNat rowT0).ts ++ lnOf L (f.toNat, (i + 1).toNat) }, run) := by
            have h1 : ((V.length : Int) - 1).toNat = R.length - 1 := by omega
            rw [addLine, dirF_bare false, ← hb, hash_dir, hrun, if_pos (by rw [Bool.and_true]; exact hc.1), h1]
          have q1 : 0 ≤ i + 1 := by omega
          have q3 : i + 1 ≤ (L.length : Int) := by omega
          have q5 : ((L.length : Int) - (i + 1)).toNat < ((L.length : Int) - i).toNat := by omega
          have q4 : ((R.set ((V.length : Int) - 1).toNat { R.getD ((V.length : Int) - 1).toNat rowT0 with ts := (R.getD ((V.length : Int) - 1).toNat rowT0).ts ++ lnOf L (f.toNat, (i + 1).toNat) }).length : Int) ≤ i + 1 := by rw [List.length_set]; omega
          refine again (i + 1, V.set ((V.length : Int) - 1).toNat { V.getD ((V.length : Int) - 1).toNat row0 with ta := A2, tn := (tokY.d ((R.getD ((V.length : Int) - 1).toNat rowT0).ts ++ lnOf L (f.toNat, (i + 1).toNat))).n, tc := c2 }, R.set ((V.length : Int) - 1).toNat { R.getD ((V.length : Int) - 1).toNat rowT0 with ts := (R.getD ((V.length : Int) - 1).toNat rowT0).ts ++ lnOf L (f.toNat, (i + 1).toNat) }, run, i + 1, []) [(5, none)] (.of rfl rfl rfl rfl rfl rfl)
            ⟨q1, Int.le_refl _, q3, fun _ => rfl, (by simp), ⟨pre ++ [(f.toNat, (i + 1).toNat)], gnext, by rw [List.map_append, List.foldl_append, g5]; exact hadd, ?_, q4⟩, ?_, ?_⟩ q5
          · have := (addLine_size (R, run) (lnOf L (f.toNat, (i + 1).toNat)) (fun _ hh => by have h9 : R = [] := hh; rw [h9] at hi2; simp at hi2)).1
            rw [hadd] at this
            rw [this]; show ((sizeR R + (lnOf L (f.toNat, (i + 1).toNat)).length : Nat) : Int) = i + 1
            omega
          · rw [List.map_set, List.map_set, g8]
            congr 1
            have := congrArg (fun l => l.getD ((V.length : Int) - 1).toNat row0.key) g8
            simp only [List.getD_eq_getElem?_getD, List.getElem?_map] at this ⊢
            rw [List.getElem?_eq_getElem hi, List.getElem?_eq_getElem hi2] at this ⊢
            exact this
          · show run = (decide (0 < ((R.set ((V.length : Int) - 1).toNat { R.getD ((V.length : Int) - 1).toNat rowT0 with ts := (R.getD ((V.length : Int) - 1).toNat rowT0).ts ++ lnOf L (f.toNat, (i + 1).toNat) }).length : Int)) && !((R.set ((V.length : Int) - 1).toNat { R.getD ((V.length : Int) - 1).toNat rowT0 with ts := (R.getD ((V.length : Int) - 1).toNat rowT0).ts ++ lnOf L (f.toNat, (i + 1).toNat) }).getD ((R.set ((V.length : Int) - 1).toNat { R.getD ((V.length : Int) - 1).toNat rowT0 with ts := (R.getD ((V.length : Int) - 1).toNat rowT0).ts ++ lnOf L (f.toNat, (i + 1).toNat) }).length - 1) rowT0).dir)
            rw [List.length_set, hrun, decide_eq_true (show 0 < (R.length : Int) by omega), List.getD_eq_getElem?_getD, List.getElem?_set, if_pos (by omega), if_pos (by omega)]
            show true = (true && !(R.getD ((V.length : Int) - 1).toNat rowT0).dir)
            rw [show ((V.length : Int) - 1).toNat = R.length - 1 by omega, ← hdd]
            simpa using hc.2.2
        · have hc : (!(hashB b) && (decide (0 < (V.length : Int)) && !(V.getD ((V.length : Int) - 1).toNat row0).dir)) = false := by rw [← Bool.and_assoc]; exact h5
          refine xl_push tt_ok rowY V ⟨hashB b, ⟨#[]⟩, A', (tokY.d (lnOf L (f.toNat, (i + 1).toNat))).n, c'⟩ 48 rfl rfl rfl rfl rfl rfl rfl rfl rfl rfl rfl rfl (by kernel_rfl) rfl rfl rfl rfl rfl (fun n hn => by cases hn; decide) rfl rfl rfl (by omega) (by omega) ?_
          refine xl_go tt_ok ?_
          repeat (refine And.intro ?_ ?_; first | omega | (simp only [Lay.d_n]; omega) | (simp only [decide_eq_true_eq, decide_eq_false_iff_not, Bool.or_eq_false_iff, Bool.and_eq_true, Bool.or_eq_true, Bool.and_eq_false_iff, Bool.not_eq_true', Bool.not_eq_false', Lay.d_n]; omega) | (simp only [decide_eq_true_eq, decide_eq_false_iff_not, Bool.or_eq_false_iff, Bool.and_eq_true, Bool.or_eq_true, Bool.and_eq_false_iff, Bool.not_eq_true', Bool.not_eq_false']; omega))
          have e : itemsS V R ++ [(⟨.slice A' (tokY.d (lnOf L (f.toNat, (i + 1).toNat))).n c', 31, tokY.d (lnOf L (f.toNat, (i + 1).toNat))⟩ : SI)] = itemsS (V ++ [(⟨hashB b, ⟨#[]⟩, A', (tokY.d (lnOf L (f.toNat, (i + 1).toNat))).n, c'⟩ : RowV)]) (R ++ [(⟨hashB b, ⟨#[]⟩, lnOf L (f.toNat, (i + 1).toNat)⟩ : RowT)]) := (itemsS_push hVR (⟨hashB b, ⟨#[]⟩, A', (tokY.d (lnOf L (f.toNat, (i + 1).toNat))).n, c'⟩ : RowV) (⟨hashB b, ⟨#[]⟩, lnOf L (f.toNat, (i + 1).toNat)⟩ : RowT)).symm
          have hrun : (!(hashB b) && run) = false := by
            rw [g9]
            by_cases h0 : 0 < (R.length : Int)
            · have hdd : (V.getD ((V.length : Int) - 1).toNat row0).dir = (R.getD (R.length - 1) rowT0).dir := by rw [key_dir g8]; congr 2; omega
              rw [decide_eq_true h0, ← hdd]
              rw [decide_eq_true (show 0 < (V.length : Int) by omega)] at hc
              exact hc
            · rw [decide_eq_false h0]; simp
          have hadd : addLine (R, run) (lnOf L (f.toNat, (i + 1).toNat)) = (R ++ [⟨hashB b, ⟨#[]⟩, lnOf L (f.toNat, (i + 1).toNat)⟩], !(hashB b)) := by
            rw [addLine, dirF_bare false, ← hb, hash_dir, if_neg (by rw [hrun]; simp), name_dir, hnm]
          simp only [e]
          have q1 : 0 ≤ i + 1 := by omega
          have q3 : i + 1 ≤ (L.length : Int) := by omega
          have q5 : ((L.length : Int) - (i + 1)).toNat < ((L.length : Int) - i).toNat := by omega
          have q4 : ((R ++ [(⟨hashB b, ⟨#[]⟩, lnOf L (f.toNat, (i + 1).toNat)⟩ : RowT)]).length : Int) ≤ i + 1 := by rw [List.length_append, List.length_singleton]; omega
          refine again (i + 1, V ++ [⟨hashB b, ⟨#[]⟩, A', (tokY.d (lnOf L (f.toNat, (i + 1).toNat))).n, c'⟩], R ++ [⟨hashB b, ⟨#[]⟩, lnOf L (f.toNat, (i + 1).toNat)⟩], !(hashB b), i + 1, []) [(4, some 9), (5, none)] (.of rfl rfl rfl rfl rfl rfl)
            ⟨q1, Int.le_refl _, q3, fun _ => rfl, (by simp), ⟨pre ++ [(f.toNat, (i + 1).toNat)], gnext, by rw [List.map_append, List.foldl_append, g5]; exact hadd, ?_, q4⟩, ?_, ?_⟩ q5
          · simp only [sizeR, List.map_append, List.sum_append] at g6 ⊢
            simp; omega
          · rw [List.map_append, List.map_append, g8]; rfl
          · simp
        
  · have h2 : ¬ (i < (L.length : Int)) := of_decide_eq_false h
    rw [List.drop_eq_nil_of_le (by omega)] at g4
    have hfi := g3 (by omega)
    simp only [pcs] at g4
    rw [if_neg (by omega), List.append_nil] at g4
    have hR : R = rowsOf L := by rw [rowsOf, linesOf, g4, g5]
    subst hR
    refine finStarO (k := 4) (ks := 3) rfl rfl (fun A' c' => ⟨(A', c', V), fun E hE => ?_, ?_, g8⟩)
    · show E 4 = _
      rw [hE, Lay.d_n, hVR]
    · rw [Lay.d_n, hVR]
end Go.Proofs.Ytdonomneofdhfaa
namespace Go.Proofs.Ytdonomneofdhfaa
open Go.GV Go.RowKit
set_option maxRecDepth 100000 in
theorem says_own (r : RowV) (t : List Tok) (w : World) (hx : SlAt (im w) r.toks (tokY.d t)) (hL : t.length * 48 ≤ 140737488355328) :
    Calls Try.prog 26 #[.agg #[.bool r.dir, .string r.name, .slice r.ta r.tn r.tc]] w (PureP w fun v u => OwnAt u v 31 (tokY.d (saysV r t))) := by
  have hb := bareFrom_le false t
  refine x_fun tt_ok Try.func26 rfl rfl [] 0 [.v (.agg #[.bool r.dir, .string r.name, .slice r.ta r.tn r.tc])] rfl rfl rfl rfl (fun b hb => by cases hb) ?_
  refine x_vc tt_ok ?_
  refine xl_callO 31 (tokY.d (bareFrom false t)) rfl rfl rfl rfl fn46 rfl rfl (fun E w F hs => bare_any t _ w (hx.imm hs.imm) hL) ?_
  refine xl_go tt_ok ?_
  refine x_if (fun h => ?_) (fun h => ?_)
  · have h' : r.dir = false := by simpa using h
    have e : saysV r t = bareFrom false t := by simp [saysV, h']
    rw [e]
    exact finO (k := 1) rfl
  · have h' : r.dir = true := by simpa using h
    have key : ∀ k : Nat, (k = if r.name = ⟨#[]⟩ then 1 else 2) → saysV r t = (bareFrom false t).drop (if ((bareFrom false t).length : Int) < (k : Int) then ((bareFrom false t).length : Int) else (k : Int)).toNat := by
      intro k hk
      simp only [saysV, h', if_true, ← hk]
      split
      · rw [List.drop_eq_nil_of_le (by omega), List.drop_eq_nil_of_le (by omega)]
      · rfl
    refine x_if (fun h2 => ?_) (fun h2 => ?_)
    · have h2' : ¬ r.name = ⟨#[]⟩ := of_decide_eq_true h2
      have e := key 2 (by rw [if_neg h2'])
      refine xl_freeze 1 rfl (fun A c u2 hu2 hb1 => ?_)
      refine xl_min rfl rfl rfl rfl rfl rfl ?_
      refine xl_go tt_ok ?_
      refine xl_from tt_ok tokY (bareFrom false t) rfl rfl rfl rfl rfl rfl rfl rfl rfl rfl (fun E w F hs => hb1) ?_ ?_ (fun A2 c2 hb2 => ?_)
      · show (0 : Int) ≤ if ((bareFrom false t).length : Int) < 2 then ((bareFrom false t).length : Int) else 2
        split <;> omega
      · show (if ((bareFrom false t).length : Int) < 2 then ((bareFrom false t).length : Int) else 2) ≤ ((bareFrom false t).length : Int)
        split <;> omega
      refine xl_go tt_ok ?_
      refine xl_callO 31 (tokY.d (saysV r t)) rfl rfl rfl rfl fn85 rfl rfl (fun E w F hs => by rw [e]; exact clone_own _ _ w (hb2.imm hs.imm) (by rw [List.length_drop]; omega)) ?_
      refine xl_go tt_ok ?_
      exact finO (k := 2) rfl
    · have h2' : r.name = ⟨#[]⟩ := by
        have : ¬ ¬ r.name = ⟨#[]⟩ := of_decide_eq_false h2
        exact Classical.not_not.1 this
      have e := key 1 (by rw [if_pos h2'])
      refine xl_freeze 1 rfl (fun A c u2 hu2 hb1 => ?_)
      refine xl_min rfl rfl rfl rfl rfl rfl ?_
      refine xl_go tt_ok ?_
      refine xl_from tt_ok tokY (bareFrom false t) rfl rfl rfl rfl rfl rfl rfl rfl rfl rfl (fun E w F hs => hb1) ?_ ?_ (fun A2 c2 hb2 => ?_)
      · show (0 : Int) ≤ if ((bareFrom false t).length : Int) < 1 then ((bareFrom false t).length : Int) else 1
        split <;> omega
      · show (if ((bareFrom false t).length : Int) < 1 then ((bareFrom false t).length : Int) else 1) ≤ ((bareFrom false t).length : Int)
        split <;> omega
      refine xl_go tt_ok ?_
      refine xl_callO 31 (tokY.d (saysV r t)) rfl rfl rfl rfl fn85 rfl rfl (fun E w F hs => by rw [e]; exact clone_own _ _ w (hb2.imm hs.imm) (by rw [List.length_drop]; omega)) ?_
      refine xl_go tt_ok ?_
      exact finO (k := 2) rfl
theorem fold_size : ∀ (ls : List (List Tok)) (s : List RowT × Bool), (s.2 = true → s.1 ≠ []) → sizeR (ls.foldl addLine s).1 = sizeR s.1 + (ls.map List.length).sum ∧ (ls.foldl addLine s).1.length ≤ s.1.length + ls.length
  | [], s, _ => by simp
  | l :: ls, s, h => by
    have h1 := addLine_size s l h
    have h2 := fold_size ls (addLine s l) h1.2.1
    simp only [List.foldl_cons, List.map_cons, List.sum_cons, List.length_cons]
    omega
theorem rowsOf_size (L : List Tok) : sizeR (rowsOf L) = L.length ∧ (rowsOf L).length ≤ L.length := by
  have h := fold_size (linesOf L) ([], false) (fun h => by cases h)
  have h1 := pcs_sum L L 0 0 (Nat.le_refl _) (by omega)
  have h2 := pcs_len L 0 0 (Nat.le_refl _)
  simp only [rowsOf]
  rw [h.1]
  have h3 : ((linesOf L).map List.length).sum = L.length := by rw [linesOf, h1]; omega
  have h4 : (linesOf L).length = (pcs 0 0 L).length := by simp [linesOf]
  refine ⟨by rw [h3]; simp [sizeR], ?_⟩
  have := h.2
  simp only [List.length_nil] at this
  omega
theorem ts_size {R : List RowT} (i : Nat) : (R.getD i rowT0).ts.length ≤ sizeR R := by
  rcases Nat.lt_or_ge i R.length with h | h
  · exact getD_size h
  · rw [List.getD_eq_getElem?_getD, List.getElem?_eq_none h]; exact Nat.zero_le _
theorem tsD (R : List RowT) (i : Nat) : (R.map RowT.ts).getD i [] = (R.getD i rowT0).ts := by
  simp only [List.getD_eq_getElem?_getD, List.getElem?_map]
  cases R[i]? <;> rfl
theorem star_toks {u : Im} {V : List RowV} {R : List RowT} (hl : V.length = R.length) (h : ∀ p ∈ itemsS V R, SlAt u p.x p.D) : ToksAt u V (R.map RowT.ts) := by
  refine ⟨by simp [hl], fun i hi => ?_⟩
  rw [tsD]
  exact h _ (List.mem_of_getElem? (itemsS_get hi (by omega)))
set_option maxRecDepth 100000 in
theorem linesTells_any (L : List Tok) (A0 : Option Addr) (c0 : Nat) (w : World) (hx : SlAt (im w) (.slice A0 L.length c0) (tokY.d L)) (hL : L.length * 48 ≤ 140737488351232) :
    Calls Try.prog 3 #[.slice A0 L.length c0] w (PureP w fun v _ => v = .bool true) := by
  obtain ⟨hz1, hz2⟩ := rowsOf_size L
  obtain ⟨R, hR⟩ : ∃ R, R = rowsOf L := ⟨_, rfl⟩
  have hts : ∀ i, (R.getD i rowT0).ts.length ≤ L.length := fun i => by rw [hR, ← hz1]; exact ts_size i
  rw [← hR] at hz1 hz2
  have rA : ∀ (A : Option Addr) (c : Nat) (w : World), SlAt (im w) (.slice A L.length c) (tokY.d L) → Calls Try.prog 23 #[.slice A L.length c] w (PureP w (RowsR R)) := fun A c w h => hR ▸ rows_any L A c w h (by omega)
  have rB : ∀ (x : Value) (w : World), SlAt (im w) x (tokY.d L) → Calls Try.prog 24 #[x] w (PureP w (RowsR R)) := fun x w h => hR ▸ refRows_any L x w h (by omega)
  refine x_fun tt_ok Try.func3 rfl rfl [(.slice A0 L.length c0, tokY.d L)] 1 [.r 0] rfl rfl rfl rfl (fun b hb => by simp at hb; subst hb; exact hx) ?_
  refine x_vc tt_ok ?_
  refine xl_empty tt_ok tokY rfl rfl rfl rfl rfl rfl rfl ?_
  refine xl_go tt_ok ?_
  refine xl_append tt_ok tokY [] L 48 rfl rfl rfl rfl rfl rfl rfl rfl (by kernel_rfl) rfl rfl rfl (fun E w F hs => hs.slAt (k := 0) rfl) tokOne rfl (by simp; omega) (by simp; omega) ?_
  refine xl_go tt_ok ?_
  refine xl_callStar (fun (s : Option Addr × Nat × List RowV) => .slice s.1 R.length s.2.1) (fun s => itemsS s.2.2 R ++ [(⟨.slice s.1 R.length s.2.1, 28, rowY.d s.2.2⟩ : SI)]) (fun s => s.2.2.map RowV.key = R.map RowT.key) rfl rfl rfl rfl fn23 rfl rfl
    (fun E w F hs => by
      have h1 := hs.rowAt (k := 2) rfl
      obtain ⟨A, c, hv⟩ := h1.form
      show Calls Try.prog 23 #[E 2] w _
      rw [hv] at h1 ⊢
      exact rA A c w h1) (fun s hk => ?_)
  obtain ⟨Aa, ca, V⟩ := s
  have hVR : V.length = R.length := by have := congrArg List.length hk; simpa using this
  have hil : (itemsS V R).length = R.length := by rw [itemsS, List.length_zipWith]; omega
  refine xl_unpark 16 3 R.length (p := ⟨.slice Aa R.length ca, 28, rowY.d V⟩) rfl rfl (by show (itemsS V R ++ _)[_]? = _; rw [List.getElem?_append_right (by omega), hil, Nat.sub_self]; rfl) ?_
  refine xl_starTake 3 R.length rfl ?_
  rw [show ((itemsS V R ++ [(⟨.slice Aa R.length ca, 28, rowY.d V⟩ : SI)]).set R.length SI.hole).take R.length = itemsS V R by
    rw [List.set_append_right _ _ (by omega), List.take_left' hil]]
  refine xl_go tt_ok ?_
  refine xl_callStar (fun (s : Option Addr × Nat × List RowV) => .slice s.1 R.length s.2.1) (fun s => itemsS s.2.2 R ++ [(⟨.slice s.1 R.length s.2.1, 28, rowY.d s.2.2⟩ : SI)]) (fun s => s.2.2.map RowV.key = R.map RowT.key) rfl rfl rfl rfl fn24 rfl rfl
    (fun E w F hs => rB _ w (hs.slAt (k := 0) rfl)) (fun s hk2 => ?_)
  obtain ⟨Ab, cb, W⟩ := s
  have hWR : W.length = R.length := by have := congrArg List.length hk2; simpa using this
  refine xl_freezeStar 5 rfl (fun u1 hu1 hfr => ?_)
  have hWT : ToksAt u1 W (R.map RowT.ts) := star_toks hWR (fun p hp => (hfr p (List.mem_append_left _ hp)).1)
  have hWs : SlAt u1 (.slice Ab R.length cb) (rowY.d W) := (hfr _ (List.mem_append_right _ (List.mem_singleton.2 rfl))).1
  refine xl_sl 18 rfl hWs ?_
  replace hk : V.map RowV.key = R.map RowT.key := hk
  replace hk2 : W.map RowV.key = R.map RowT.key := hk2
  refine xl_pure (P := ∀ i < V.length, (V.getD i row0).tn = (R.getD i rowT0).ts.length) (fun E w F hs i hi => ?_) (fun htn => ?_)
  · have h1 := hs.starAt (s := 3) rfl (itemsS_get hi (by omega))
    obtain ⟨A, c, h2⟩ := h1.form
    have h3 : (V.getD i row0).toks = .slice A (R.getD i rowT0).ts.length c := h2
    unfold RowV.toks at h3
    injection h3
  refine xl_go tt_ok ?_
  refine xl_call0 (.bool true) rfl rfl rfl rfl fn25 rfl rfl (fun E w F hs => sameRows_any V W (R.map RowT.ts) _ _ w (hs.rowAt (k := 4) rfl) (hs.slAt (k := 6) rfl)
    (star_toks hVR (fun p hp => own_slAt ((hs.holds 3 _ rfl).1 p hp))) (hWT.sub ⟨fun b o hb => hs.imm.h b o hb⟩) (hk.trans hk2.symm) (by omega) (fun i => by rw [tsD]; have := hts i; omega)) ?_
  refine xl_go tt_ok ?_
  refine x_iff rfl ?_
  have hsays : ∀ (i : Nat) (t : List Tok), saysV (V.getD i row0) t = saysV (W.getD i row0) t := fun i t => by
    have h1 := congrArg (fun l => l.getD i row0.key) (hk.trans hk2.symm)
    simp only [List.getD_eq_getElem?_getD, List.getElem?_map] at h1 ⊢
    have h2 : (V[i]?.getD row0).key = (W[i]?.getD row0).key := by
      cases h3 : V[i]? <;> cases h4 : W[i]? <;> simp_all
    unfold RowV.key at h2
    injection h2 with h3 h4
    unfold saysV
    rw [h3, h4]
  refine x_loop (σ := Int) (fun i => ⟨[(6, .v (.int .i64 i)), (5, .r 6), (4, .r 4), (3, .r 2), (0, .r 0)], [], [(0, .sl (tokY.d L)), (2, .row 31 (tokY.d L)), (3, .gen (starHp (itemsS V R))), (4, .row 28 (rowY.d V)), (6, .sl (rowY.d W))], 7⟩)
    (fun i _ => 0 ≤ i ∧ i ≤ W.length) (fun i => (W.length - i).toNat) (fun _ => Nat.le_refl 7) 0 [] (.of rfl rfl rfl rfl rfl rfl) ⟨by omega, by omega⟩ ?_
  rintro i u2 hu2 ⟨g1, g2⟩
  refine x_vc tt_ok ?_
  refine x_if (fun h => ?_) (fun h => ?_)
  · have h2 : i < (W.length : Int) := of_decide_eq_true h
    have hi1 : i.toNat < V.length := by omega
    have hi2 : i.toNat < R.length := by omega
    have hti := hts i.toNat
    repeat (refine And.intro ?_ ?_; first | omega | (simp only [Lay.d_n]; omega))
    refine xl_callO 31 (tokY.d (saysV (V.getD i.toNat row0) (R.getD i.toNat rowT0).ts)) rfl rfl rfl rfl fn26 rfl rfl (fun E w F hs => says_own (V.getD i.toNat row0) (R.getD i.toNat rowT0).ts w (hs.starAt (s := 3) rfl (itemsS_get hi1 hi2)) (by omega)) ?_
    refine xl_go tt_ok ?_
    repeat (refine And.intro ?_ ?_; first | omega | (simp only [Lay.d_n]; omega))
    refine xl_callV (tokY.d (saysV (V.getD i.toNat row0) (R.getD i.toNat rowT0).ts)) rfl rfl rfl rfl fn27 rfl rfl (fun E w F hs => by
      rw [hsays]
      have h9 := hWT.2 i.toNat (by omega)
      rw [tsD] at h9
      exact refSays_any (W.getD i.toNat row0) (R.getD i.toNat rowT0).ts w ((h9.le hu2).imm hs.imm) (by omega)) (fun A c u3 hu3 hb1 => ?_)
    refine xl_go tt_ok ?_
    have hsl : (saysV (V.getD i.toNat row0) (R.getD i.toNat rowT0).ts).length ≤ L.length := by
      have h9 := bareFrom_le false (R.getD i.toNat rowT0).ts
      unfold saysV
      split
      · rw [List.length_drop]; omega
      · omega
    refine xl_call0 (.bool true) rfl rfl rfl rfl fn28 rfl rfl (fun E w F hs => by
      have h9 := same_any _ _ _ _ w (hs.rowAt (k := 7) rfl) (hb1.uncut.imm hs.imm) (by omega)
      rw [pb_true rfl] at h9
      exact h9) ?_
    refine xl_go tt_ok ?_
    refine x_iff rfl ?_
    refine x_loop (σ := Int × List Tok) (fun (k, M) => ⟨[(9, .v (.int .i64 k)), (7, .r 7), (6, .v (.int .i64 i)), (5, .r 6), (4, .r 4), (3, .r 2), (0, .r 0)], [], [(0, .sl (tokY.d L)), (2, .row 31 (tokY.d L)), (3, .gen (starHp (itemsS V R))), (4, .row 28 (rowY.d V)), (6, .sl (rowY.d W)), (7, .row 31 (tokY.d M))], 8⟩)
      (fun (k, M) _ => 0 ≤ k ∧ k ≤ M.length ∧ M.length ≤ L.length) (fun (k, M) => (M.length - k).toNat) (fun (_, _) => Nat.le_refl 8) (0, saysV (V.getD i.toNat row0) (R.getD i.toNat rowT0).ts) [] (.of rfl rfl rfl rfl rfl rfl) ⟨by omega, by omega, hsl⟩ ?_
    rintro ⟨k, M⟩ u4 hu4 ⟨k1, k2, k3⟩
    refine x_vc tt_ok ?_
    refine x_if (fun h5 => ?_) (fun h5 => ?_)
    · have h6 : k < (M.length : Int) := of_decide_eq_true h5
      repeat (refine And.intro ?_ ?_; first | omega | (simp only [Lay.d_n]; omega))
      refine xl_set tt_ok tokY M ⟨0, ⟨"written over".toUTF8.data⟩, 0, 0, false⟩ rfl rfl rfl rfl rfl rfl rfl k1 h6 rfl rfl (by decide) rfl ?_
      refine xl_go tt_ok ?_
      repeat (refine And.intro ?_ ?_; first | omega | (simp only [Lay.d_n]; omega))
      exact again (k + 1, M.set k.toNat ⟨0, ⟨"written over".toUTF8.data⟩, 0, 0, false⟩) [] (.of rfl rfl rfl rfl rfl rfl) ⟨by omega, by simp; omega, by simpa using k3⟩ (by simp only [List.length_set]; omega)
    · repeat (refine And.intro ?_ ?_; first | omega | (simp only [Lay.d_n]; omega))
      exact again (i + 1) [] (.of rfl rfl rfl rfl rfl rfl) ⟨by omega, by omega⟩ (by omega)
  · refine x_loop (σ := Int × List RowV × List RowT) (fun (i, V2, R2) => ⟨[(10, .v (.int .i64 i)), (5, .r 6), (4, .r 4), (3, .r 2), (0, .r 0)], [], [(0, .sl (tokY.d L)), (2, .row 31 (tokY.d L)), (3, .gen (starHp (itemsS V2 R2))), (4, .row 28 (rowY.d V2)), (6, .sl (rowY.d W))], 7⟩)
      (fun (i, V2, R2) _ => 0 ≤ i ∧ i ≤ V2.length ∧ V2.length = R.length ∧ R2.length = R.length ∧ (∀ j : Nat, i ≤ j → (R2.getD j rowT0).ts = (R.getD j rowT0).ts)) (fun (i, V2, _) => (V2.length - i).toNat) (fun (_, _, _) => Nat.le_refl 7) (0, V, R) [] (.of rfl rfl rfl rfl rfl rfl) ⟨by omega, by omega, hVR, rfl, fun _ _ => rfl⟩ ?_
    rintro ⟨j, V2, R2⟩ u3 hu3 ⟨q1, q2, q3, q4, q5⟩
    refine x_vc tt_ok ?_
    refine x_if (fun h4 => ?_) (fun h4 => ?_)
    · have h5 : j < (V2.length : Int) := of_decide_eq_true h4
      have hj1 : j.toNat < V2.length := by omega
      have hj2 : j.toNat < R2.length := by omega
      have hlen : (R2.getD j.toNat rowT0).ts.length ≤ L.length := by rw [q5 j.toNat (by omega)]; exact hts _
      repeat (refine And.intro ?_ ?_; first | omega | (simp only [Lay.d_n]; omega))
      refine xl_unpark 65 3 j.toNat rfl rfl (itemsS_get hj1 hj2) ?_
      refine xl_push tt_ok tokY (R2.getD j.toNat rowT0).ts ⟨0, ⟨"more".toUTF8.data⟩, 0, 0, false⟩ 48 rfl rfl rfl rfl rfl rfl rfl rfl rfl rfl rfl rfl (by kernel_rfl) rfl rfl rfl rfl rfl (fun n hn => by cases hn; decide) rfl rfl rfl (by omega) (by omega) ?_
      refine xl_go tt_ok ?_
      repeat (refine And.intro ?_ ?_; first | omega | (simp only [Lay.d_n]; omega))
      refine xl_park 8 3 j.toNat rfl rfl (List.getElem?_set_self (by rw [itemsS, List.length_zipWith]; omega)) rfl (fun A2 c2 => ?_)
      obtain ⟨M0, hM0⟩ : ∃ M0, M0 = (R2.getD j.toNat rowT0).ts ++ [(⟨0, ⟨"more".toUTF8.data⟩, 0, 0, false⟩ : Tok)] := ⟨_, rfl⟩
      have hM0l : M0.length ≤ L.length + 1 := by rw [hM0, List.length_append, List.length_singleton]; omega
      rw [← hM0]
      refine xl_set tt_ok (cs := [.slice A2 (tokY.d M0).n c2]) rowY V2 { V2.getD j.toNat row0 with ta := A2, tn := (tokY.d M0).n, tc := c2 } rfl rfl rfl rfl rfl rfl rfl q1 h5 rfl rfl (Nat.le_refl 3) rfl ?_
      refine xl_go tt_ok ?_
      obtain ⟨v3, hv3⟩ : ∃ v3 : RowV, v3 = { V2.getD j.toNat row0 with ta := A2, tn := (tokY.d M0).n, tc := c2 } := ⟨_, rfl⟩
      have hv3t : v3.toks = .slice A2 (tokY.d M0).n c2 := by rw [hv3]; rfl
      have hv3n : v3.tn = M0.length := by rw [hv3]; rfl
      rw [← hv3]
      have e0 : ((itemsS V2 R2).set j.toNat SI.hole).set j.toNat (⟨.slice A2 (tokY.d M0).n c2, 31, tokY.d M0⟩ : SI) = itemsS (V2.set j.toNat v3) (R2.set j.toNat { R2.getD j.toNat rowT0 with ts := M0 }) := by
        rw [List.set_set, itemsS_set, hv3t]
      simp only [e0]
      have hVl : (V2.set j.toNat v3).length = V2.length := List.length_set ..
      have hVg : (V2.set j.toNat v3).getD j.toNat row0 = v3 := by rw [List.getD_eq_getElem?_getD, List.getElem?_set_self hj1]; rfl
      have hRl : ∀ M, (R2.set j.toNat { R2.getD j.toNat rowT0 with ts := M }).length = R2.length := fun M => List.length_set ..
      have hRg : ∀ M, ((R2.set j.toNat { R2.getD j.toNat rowT0 with ts := M }).getD j.toNat rowT0).ts = M := fun M => by rw [List.getD_eq_getElem?_getD, List.getElem?_set_self hj2]; rfl
      have hRo : ∀ M (k : Nat), j + 1 ≤ k → ((R2.set j.toNat { R2.getD j.toNat rowT0 with ts := M }).getD k rowT0).ts = (R.getD k rowT0).ts := fun M k hk => by
        rw [List.getD_eq_getElem?_getD, List.getElem?_set, if_neg (by omega), ← List.getD_eq_getElem?_getD]
        exact q5 k (by omega)
      generalize V2.set j.toNat v3 = V3 at hVl hVg ⊢
      refine x_loop (σ := Int × List Tok) (fun (k, M) => ⟨[(11, .v (.int .i64 k)), (10, .v (.int .i64 j)), (5, .r 6), (4, .r 4), (3, .r 2), (0, .r 0)], [], [(0, .sl (tokY.d L)), (2, .row 31 (tokY.d L)), (3, .gen (starHp (itemsS V3 (R2.set j.toNat { R2.getD j.toNat rowT0 with ts := M })))), (4, .row 28 (rowY.d V3)), (6, .sl (rowY.d W))], 9⟩)
        (fun (k, M) _ => 0 ≤ k ∧ k ≤ M.length ∧ M.length = M0.length) (fun (k, M) => (M.length - k).toNat) (fun (_, _) => Nat.le_refl 9) (0, M0) [] (.of rfl rfl rfl rfl rfl rfl) ⟨by omega, by omega, rfl⟩ ?_
      rintro ⟨k, M⟩ u4 hu4 ⟨k1, k2, k3⟩
      refine x_vc tt_ok ?_
      repeat (refine And.intro ?_ ?_; first | omega | (simp only [Lay.d_n]; omega))
      refine x_if (fun h6 => ?_) (fun h6 => ?_)
      · have h7 : k < ((V3.getD j.toNat row0).tn : Int) := of_decide_eq_true h6
        rw [hVg, hv3n] at h7
        repeat (refine And.intro ?_ ?_; first | omega | (simp only [Lay.d_n]; omega))
        refine xl_setStar tt_ok (cs := [.int .i64 0, .string ⟨"written over".toUTF8.data⟩, .int .i64 0, .int .i64 0, .bool false]) tokY M ⟨0, ⟨"written over".toUTF8.data⟩, 0, 0, false⟩ 3 j.toNat rfl rfl rfl rfl rfl rfl rfl rfl rfl rfl rfl rfl rfl (by
          have h9 := itemsS_get (V := V3) (R := R2.set j.toNat { R2.getD j.toNat rowT0 with ts := M }) (i := j.toNat) (by omega) (by rw [hRl]; omega)
          rw [hRg] at h9
          exact h9) rfl k1 (by omega) rfl rfl (Nat.le_refl 5) (fun t ht => by cases ht; decide) rfl rfl rfl ?_
        refine xl_go tt_ok ?_
        repeat (refine And.intro ?_ ?_; first | omega | (simp only [Lay.d_n]; omega))
        have e1 : (itemsS V3 (R2.set j.toNat { R2.getD j.toNat rowT0 with ts := M })).set j.toNat (⟨(V3.getD j.toNat row0).toks, 31, tokY.d (M.set k.toNat ⟨0, ⟨"written over".toUTF8.data⟩, 0, 0, false⟩)⟩ : SI) =
            itemsS V3 (R2.set j.toNat { R2.getD j.toNat rowT0 with ts := M.set k.toNat ⟨0, ⟨"written over".toUTF8.data⟩, 0, 0, false⟩ }) := by
          have h9 := itemsS_set (V := V3) (R := R2.set j.toNat { R2.getD j.toNat rowT0 with ts := M }) (i := j.toNat) (v := V3.getD j.toNat row0) (r := { R2.getD j.toNat rowT0 with ts := M.set k.toNat ⟨0, ⟨"written over".toUTF8.data⟩, 0, 0, false⟩ })
          rw [List.set_set] at h9
          rw [← h9]
          congr 1
          refine List.ext_getElem? fun m => ?_
          rw [List.getElem?_set]
          split
          · rename_i hm; subst hm
            rw [if_pos (by omega), List.getD_eq_getElem?_getD, List.getElem?_eq_getElem (by omega)]; rfl
          · rfl
        have e1' : (itemsS V3 (R2.set j.toNat { R2.getD j.toNat rowT0 with ts := M })).set j.toNat (⟨.slice (V3.getD j.toNat row0).ta (V3.getD j.toNat row0).tn (V3.getD j.toNat row0).tc, 31, tokY.d (M.set k.toNat ⟨0, ⟨"written over".toUTF8.data⟩, 0, 0, false⟩)⟩ : SI) =
            itemsS V3 (R2.set j.toNat { R2.getD j.toNat rowT0 with ts := M.set k.toNat ⟨0, ⟨"written over".toUTF8.data⟩, 0, 0, false⟩ }) := e1
        simp only [e1']
        exact again (k + 1, M.set k.toNat ⟨0, ⟨"written over".toUTF8.data⟩, 0, 0, false⟩) [] (.of rfl rfl rfl rfl rfl rfl) ⟨by omega, by simp only [List.length_set]; omega, by simp only [List.length_set]; omega⟩ (by simp only [List.length_set]; omega)
      · refine x_draw mix (by kernel_rfl) (xd_go tt_ok ?_)
        repeat (refine And.intro ?_ ?_; first | omega | (intro hh; exact of_decide_eq_true hh) | (intro hh; have h9 : j + 1 < (V3.length : Int) := of_decide_eq_true hh; show j + 1 < (W.length : Int); omega) | (simp only [decide_eq_true_eq, decide_eq_false_iff_not, Bool.and_eq_true, Lay.d_n]; omega))
        refine xd_call0 (.bool true) rfl rfl rfl rfl fn28 rfl rfl (fun hg E w F hs => ?_) ?_
        · have h9 : j + 1 < (V3.length : Int) := of_decide_eq_true hg.1
          have s1 := hs.starAt (s := 3) rfl (itemsS_get (V := V3) (R := R2.set j.toNat { R2.getD j.toNat rowT0 with ts := M }) (i := (j + 1).toNat) (by omega) (by rw [hRl]; omega))
          rw [hRo M (j + 1).toNat (by omega)] at s1
          have s2 := hWT.2 (j + 1).toNat (by omega)
          rw [tsD] at s2
          have h8 := same_any _ _ _ _ w s1 (((s2.le hu2).le (hu3.trans hu4)).imm hs.imm) (by have := hts (j + 1).toNat; omega)
          rw [pb_true rfl] at h8
          exact h8
        refine xd_go tt_ok ?_
        refine x_iff (by simp) ?_
        repeat (refine And.intro ?_ ?_; first | omega | (simp only [Lay.d_n]; omega))
        exact again (j + 1, V3, R2.set j.toNat { R2.getD j.toNat rowT0 with ts := M }) [] (.of rfl rfl rfl rfl rfl rfl) ⟨(by omega : (0 : Int) ≤ j + 1), (by omega : j + 1 ≤ (V3.length : Int)), (by omega : V3.length = R.length), by rw [hRl]; exact q4, hRo M⟩ (by simp only; omega)
    · refine xl_call0 (.bool true) rfl rfl rfl rfl fn28 rfl rfl (fun E w F hs => by
        have h9 := same_any _ _ _ _ w (hs.rowAt (k := 2) rfl) (hs.slAt (k := 0) rfl) (by omega)
        rw [pb_true rfl] at h9
        exact h9) ?_
      refine xl_go tt_ok ?_
      exact fin1 (fun _ _ => rfl)
end Go.Proofs.Ytdonomneofdhfaa
namespace Go.Proofs.Ytdonomneofdhfaa
open Go.GV Go.RowKit
def byC (c : Chr) : UInt8 := UInt8.ofNat c.b.toNat
def logB (s : ByteArray) : ByteArray := ⟨((charsOf s).map byC).toArray⟩
def errK : List Lx.Tk → Int
  | [] => 0
  | t :: r => if t.err ≠ 0 then t.err else errK r
def tks (C : List Chr) (l : ByteArray) : Int → List Lx.Tk → List Tok
  | _, [] => []
  | n, t :: r => ⟨t.kind, sub l t.lo t.hi, (C.getD t.lo charY.dft).pos, (C.getD ((t.hi : Int) - 1).toNat charY.dft).pos + (C.getD ((t.hi : Int) - 1).toNat charY.dft).len, decide (n < t.lo)⟩ :: tks C l t.hi r
def scanE (s : ByteArray) : Int := if checkE s ≠ 0 then checkE s else errK (itsOf (logB s))
def scanT (s : ByteArray) : List Tok := if scanE s = 0 then tks (charsOf s) (logB s) 0 (itsOf (logB s)) else []
theorem logB_size (s : ByteArray) : (logB s).size = (charsOf s).length := by
  show (((charsOf s).map byC).toArray).size = _
  simp
theorem third_range (c : Int) : 0 ≤ third c ∧ third c ≤ 255 := by
  unfold third
  (repeat' split) <;> (constructor <;> omega)
theorem partP_b (s : ByteArray) (i : Int) : 0 ≤ (partP s i).b ∧ (partP s i).b ≤ 255 := by
  unfold partP
  split
  · exact ⟨Int.le_refl _, by show (0 : Int) ≤ 255; decide⟩
  · show 0 ≤ chB s i ∧ chB s i ≤ 255
    unfold chB
    split
    · exact third_range _
    · exact bt_range s i
theorem partsF_b (s : ByteArray) : ∀ (n : Nat) (i : Int), ∀ p ∈ partsF s n i, 0 ≤ p.b ∧ p.b ≤ 255
  | 0, _, p, hp => by cases hp
  | n + 1, i, p, hp => by
    rw [partsF] at hp
    split at hp
    · rcases List.mem_cons.1 hp with rfl | hp
      · exact partP_b s i
      · exact partsF_b s n _ p hp
    · cases hp
theorem chrsL_b : ∀ (L : List Part), (∀ p ∈ L, 0 ≤ p.b ∧ p.b ≤ 255) → ∀ c ∈ chrsL L, 0 ≤ c.b ∧ c.b ≤ 255
  | [], _, c, hc => by cases hc
  | p :: r, h, c, hc => by
    rw [chrsL] at hc
    split at hc
    · exact chrsL_b r (fun p hp => h p (List.mem_cons_of_mem _ hp)) c hc
    · rcases List.mem_cons.1 hc with rfl | hc
      · exact h p (List.mem_cons_self ..)
      · exact chrsL_b r (fun p hp => h p (List.mem_cons_of_mem _ hp)) c hc
theorem charsOf_b {s : ByteArray} {c : Chr} (h : c ∈ charsOf s) : 0 ≤ c.b ∧ c.b ≤ 255 := by
  unfold charsOf at h
  split at h
  · exact chrsL_b _ (partsF_b s _ _) c h
  · cases h
theorem chrsL_mem : ∀ (L : List Part) (c : Chr), c ∈ chrsL L → ∃ p ∈ L, c = ⟨p.b, p.pos, p.len⟩
  | [], c, hc => by cases hc
  | p :: r, c, hc => by
    rw [chrsL] at hc
    split at hc
    · obtain ⟨q, hq, e⟩ := chrsL_mem r c hc
      exact ⟨q, List.mem_cons_of_mem _ hq, e⟩
    · rcases List.mem_cons.1 hc with rfl | hc
      · exact ⟨p, List.mem_cons_self .., rfl⟩
      · obtain ⟨q, hq, e⟩ := chrsL_mem r c hc
        exact ⟨q, List.mem_cons_of_mem _ hq, e⟩
theorem charsOf_pos {s : ByteArray} {c : Chr} (h : c ∈ charsOf s) : 0 ≤ c.pos ∧ 1 ≤ c.len ∧ c.pos + c.len ≤ s.size := by
  unfold charsOf at h
  split at h
  · obtain ⟨p, hp, rfl⟩ := chrsL_mem _ c h
    have := partsV_mem hp
    exact ⟨this.1, this.2.2.1, this.2.2.2.1⟩
  · cases h
theorem byC_nat {c : Chr} (h : 0 ≤ c.b ∧ c.b ≤ 255) : ((byC c).toNat : Int) = c.b := by
  unfold byC
  rw [UInt8.toNat_ofNat']
  omega
set_option maxRecDepth 100000 in
theorem scan_any (s : ByteArray) (w : World) (hs : s.size ≤ 9223372036854775807) (hg : Glob (im w)) : Calls Try.prog 41 #[.string s] w (PureP w (OwnT 31 (tokY.d (scanT s)) [.int .i64 (scanE s)])) := by
  refine x_fun tt_ok Try.func41 rfl rfl [] 0 [.v (.string s)] rfl rfl rfl rfl (fun b hb => by cases hb) ?_
  refine x_vc tt_ok ?_
  refine xl_callO2 136 (charY.d (charsOf s)) [.int .i64 (checkE s)] rfl rfl rfl rfl fn102 rfl rfl (fun E w F _ => chars_any s w hs) ?_
  refine xl_go tt_ok ?_
  refine x_if (fun h => ?_) (fun h => ?_)
  · have h := of_decide_eq_true h
    have e1 : scanE s = checkE s := by rw [scanE, if_pos h]
    have e2 : scanT s = [] := by rw [scanT, e1, if_neg h]
    rw [e1, e2]
    exact finO2n tokY
  · have h : checkE s = 0 := Classical.not_not.1 (of_decide_eq_false h)
    have hsz := checkE_size h
    have e1 : scanE s = errK (itsOf (logB s)) := by rw [scanE, if_neg (by simpa using h)]
    have hcl : (charsOf s).length ≤ 65536 := by
      have h2 : charsOf s = chrsL (partsV s) := by rw [charsOf, if_pos h]
      rw [h2]
      exact Nat.le_trans (chrsL_len _) (Nat.le_trans (partsV_len s) hsz)
    obtain ⟨C, hC⟩ : ∃ C, C = charsOf s := ⟨_, rfl⟩
    have hl : logB s = ⟨(C.map byC).toArray⟩ := by rw [hC]; rfl
    have hCb : ∀ c ∈ C, 0 ≤ c.b ∧ c.b ≤ 255 := fun c hc => charsOf_b (hC ▸ hc)
    have hCp : ∀ c ∈ C, 0 ≤ c.pos ∧ 1 ≤ c.len ∧ c.pos + c.len ≤ s.size := fun c hc => charsOf_pos (hC ▸ hc)
    have e2 : scanT s = if scanE s = 0 then tks C (logB s) 0 (itsOf (logB s)) else [] := by rw [hC]; rfl
    have hls := logB_size s
    rw [← hC] at hcl hls ⊢
    clear hC
    refine xl_makeN tt_ok byteY (0 : UInt8) (.int .u8 0) 1 C.length rfl rfl rfl rfl rfl rfl rfl rfl rfl rfl (by kernel_rfl) rfl rfl rfl (by omega) (by omega) ?_
    refine xl_go tt_ok ?_
    refine x_loop (σ := Int × List UInt8) (fun (k, L) => ⟨[(28, .v (.int .i64 k)), (27, .v (.int .i64 C.length)), (26, .r 2), (6, .r 4), (4, .p 3 0), (3, .p 1 0), (2, .p 0 0)], [],
        [(0, .box 22 [.v (.slice none 0 0)]), (1, .box 37 [.v (.int .i64 0)]), (2, .row 136 (charY.d C)), (3, .box 132 [.r 2]), (4, .row 5 (byteY.d L))], 5⟩)
      (fun (k, L) _ => 0 ≤ k ∧ k ≤ C.length ∧ L.length = C.length ∧ L.take k.toNat = (C.take k.toNat).map byC) (fun (k, _) => (C.length - k).toNat) (fun (_, _) => Nat.le_refl _) (0, List.replicate C.length 0) [] (.of rfl rfl rfl rfl rfl rfl)
      ⟨by omega, by omega, by simp, by simp⟩ ?_
    rintro ⟨k, L⟩ u hu ⟨g1, g2, g3, g4⟩
    refine x_vc tt_ok ?_
    refine x_if (fun h3 => ?_) (fun h3 => ?_)
    · have h3 : k < C.length := of_decide_eq_true h3
      have hkl : k.toNat < C.length := by omega
      have hm : C.getD k.toNat charY.dft ∈ C := by
        rw [List.getD_eq_getElem?_getD, List.getElem?_eq_getElem hkl]; exact List.getElem_mem _
      have hbn := byC_nat (hCb _ hm)
      repeat (refine And.intro ?_ ?_; first | omega | (simp only [Lay.d_n]; omega) | (simp only [decide_eq_true_eq, decide_eq_false_iff_not, Bool.or_eq_false_iff, Bool.and_eq_true, Bool.or_eq_true, Bool.and_eq_false_iff, Bool.not_eq_true', Bool.not_eq_false', Lay.d_n]; omega) | (simp only [decide_eq_true_eq, decide_eq_false_iff_not, Bool.or_eq_false_iff, Bool.and_eq_true, Bool.or_eq_true, Bool.and_eq_false_iff, Bool.not_eq_true', Bool.not_eq_false']; omega))
      refine xl_set tt_ok byteY L (byC (C.getD k.toNat charY.dft)) (cs := [.int .u8 (C.getD k.toNat charY.dft).b]) rfl rfl rfl rfl rfl rfl rfl g1 (by rw [g3]; exact h3) rfl rfl (Nat.le_refl 1) (by show [Value.int .u8 ((byC (C.getD k.toNat charY.dft)).toNat : Int)] = [Value.int .u8 (C.getD k.toNat charY.dft).b]; rw [hbn]) ?_
      refine xl_go tt_ok ?_
      repeat (refine And.intro ?_ ?_; first | omega | (simp only [Lay.d_n]; omega) | (simp only [decide_eq_true_eq, decide_eq_false_iff_not, Bool.or_eq_false_iff, Bool.and_eq_true, Bool.or_eq_true, Bool.and_eq_false_iff, Bool.not_eq_true', Bool.not_eq_false', Lay.d_n]; omega) | (simp only [decide_eq_true_eq, decide_eq_false_iff_not, Bool.or_eq_false_iff, Bool.and_eq_true, Bool.or_eq_true, Bool.and_eq_false_iff, Bool.not_eq_true', Bool.not_eq_false']; omega))
      refine again (k + 1, L.set k.toNat (byC (C.getD k.toNat charY.dft))) [] (.of rfl rfl rfl rfl rfl rfl) ⟨by omega, by omega, by rw [List.length_set]; exact g3, ?_⟩ (by simp only; omega)
      have hk : k.toNat < L.length := by omega
      rw [show (k + 1).toNat = k.toNat + 1 by omega, ← List.take_append_getElem (by rw [List.length_set]; exact hk), List.getElem_set_self, List.take_set_of_le (Nat.le_refl _), g4, ← List.take_append_getElem hkl, List.map_append]
      simp only [List.map_cons, List.map_nil, List.getD_eq_getElem?_getD, List.getElem?_eq_getElem hkl, Option.getD_some]
    · have h3 : ¬ k < C.length := of_decide_eq_false h3
      have hL : L = C.map byC := by
        rw [show k.toNat = C.length by omega, List.take_of_length_le (by omega), List.take_length] at g4; exact g4
      subst hL
      refine xl_bytesStr (C.map byC) rfl rfl rfl rfl Try.underlying61 Try.underlying5 Try.underlying9 rfl (fun E w F hs => hs.rowAt (k := 4) rfl) ?_
      rw [← hl]
      refine xl_go tt_ok ?_
      clear g4 g3
      generalize logB s = l at hls e1 e2 hl ⊢
      refine xl_call _ rfl rfl rfl rfl fn100 rfl rfl (fun E w F _ => itemsFn_any l w) (fun v u1 u2 hu2 hs2 hv => ?_)
      obtain ⟨bk, rfl, hbk⟩ := hv
      have hb2 := of_sub_cut hs2 hbk
      have hg2 : Glob u2 := (hg.sub hu.sub).sub hu2.sub
      refine xl_go tt_ok ?_
      refine x_nilCell 6 31 tokY [] [] rfl ?_
      refine x_range2 (σ := List Tok × Int) (τ := Int) rfl fn130 (items_iter l bk u2 hb2 hg2 (by omega)) [(11, .p 7 0), (10, .p 6 0), (9, .p 5 0), (4, .p 3 0), (3, .p 1 0), (2, .p 0 0)]
        (fun (T, n) => [(0, .box 22 [.v (.slice none 0 0)]), (1, .box 37 [.v (.int .i64 0)]), (2, .row 136 (charY.d C)), (3, .box 132 [.r 2]), (5, .box 9 [.v (.string l)]), (6, .box 22 [.r 10]), (7, .box 3 [.v (.int .i64 n)]), (10, .row 31 (tokY.d T))]) (fun _ => 11)
        (fun k (T, n) _ => T.length ≤ k ∧ errK (itsOf l) = errK ((itsOf l).drop k) ∧ tks C l 0 (itsOf l) = T ++ tks C l n ((itsOf l).drop k))
        (fun v => [(0, .box 22 [.v (.slice none 0 0)]), (1, .box 37 [.v (.int .i64 v)])]) (fun _ => 11)
        (fun v e _ => e = .ret ∧ errK (itsOf l) = v ∧ v ≠ 0) ([], 0) [(10, some 8)] (.of rfl rfl rfl rfl rfl rfl) ⟨Nat.le_refl _, rfl, rfl⟩ rfl
        (fun _ => rfl) (fun _ => rfl) (fun _ => by decide) (fun _ => by decide) rfl rfl (fun lb k x s' u3 Fr Fr' hx hu3 hgr => ?_) (fun s' u3 hu3 hgr => ?_) (fun v e u3 hu3 hgr => ?_)
      · obtain ⟨T, n⟩ := s'
        obtain ⟨g0, g1, g2⟩ := hgr
        rw [List.getElem?_map] at hx
        obtain ⟨t, ht, rfl⟩ := Option.map_eq_some_iff.1 hx
        rw [drop_get ht] at g1 g2
        have hm := its_mem (List.mem_of_getElem? ht)
        have hlen := its_len l
        have hk : k < (itsOf l).length := (List.getElem?_eq_some_iff.1 ht).1
        refine x_vc tt_ok ?_
        refine ⟨rfl, rfl, x_vc tt_ok ?_⟩
        refine x_if (fun h4 => ?_) (fun h4 => ?_)
        · have h4 := of_decide_eq_true h4
          rw [errK, if_pos h4] at g1
          exact ⟨t.err, [], .of rfl rfl rfl rfl rfl rfl, rfl, g1, h4⟩
        · have h4 : t.err = 0 := Classical.not_not.1 (of_decide_eq_false h4)
          rw [errK, if_neg (by simpa using h4)] at g1
          rw [tks] at g2
          have hm : t.lo < t.hi ∧ t.hi ≤ l.size := by
            rcases hm with hm | hm
            · exact absurd h4 hm
            · exact hm.2
          have q1 : (C.getD t.lo charY.dft) ∈ C := by
            rw [List.getD_eq_getElem?_getD, List.getElem?_eq_getElem (by omega : t.lo < C.length)]; exact List.getElem_mem _
          have q2 : (C.getD ((t.hi : Int) - 1).toNat charY.dft) ∈ C := by
            rw [List.getD_eq_getElem?_getD, List.getElem?_eq_getElem (by omega : ((t.hi : Int) - 1).toNat < C.length)]; exact List.getElem_mem _
          have q1 := hCp _ q1
          have q2 := hCp _ q2
          have next : (T ++ [(⟨t.kind, sub l t.lo t.hi, (C.getD t.lo charY.dft).pos, (C.getD ((t.hi : Int) - 1).toNat charY.dft).pos + (C.getD ((t.hi : Int) - 1).toNat charY.dft).len, decide (n < t.lo)⟩ : Tok)]).length ≤ k + 1 ∧ errK (itsOf l) = errK ((itsOf l).drop (k + 1)) ∧ tks C l 0 (itsOf l) = (T ++ [(⟨t.kind, sub l t.lo t.hi, (C.getD t.lo charY.dft).pos, (C.getD ((t.hi : Int) - 1).toNat charY.dft).pos + (C.getD ((t.hi : Int) - 1).toNat charY.dft).len, decide (n < t.lo)⟩ : Tok)]) ++ tks C l t.hi ((itsOf l).drop (k + 1)) :=
            ⟨by rw [List.length_append]; simp only [List.length_singleton]; omega, g1, by rw [g2, List.append_assoc]; rfl⟩
          repeat (refine And.intro ?_ ?_; first | omega | (simp only [Lay.d_n]; omega) | (simp only [decide_eq_true_eq, decide_eq_false_iff_not, Bool.or_eq_false_iff, Bool.and_eq_true, Bool.or_eq_true, Bool.and_eq_false_iff, Bool.not_eq_true', Bool.not_eq_false', Lay.d_n]; omega) | (simp only [decide_eq_true_eq, decide_eq_false_iff_not, Bool.or_eq_false_iff, Bool.and_eq_true, Bool.or_eq_true, Bool.and_eq_false_iff, Bool.not_eq_true', Bool.not_eq_false']; omega))
          refine x_drawA mix ?_
          refine xa_pures tt_ok (fuel := 21) [1, 4, 6, 10, 15, 17, 20] rfl (by kernel_rfl) (by kernel_rfl) (fun _ _ _ hh => hh) (by kernel_rfl) (by kernel_rfl) ?_
          refine xa_late2 tt_ok (fuel := 3) 0 24 [2, 3, 5, 7, 8, 9, 11, 12, 13, 14, 16, 18, 19, 21, 22, 23, 24] rfl rfl rfl (by kernel_rfl) (by kernel_rfl) (by kernel_rfl) (by kernel_rfl) (by kernel_rfl) (xd_go tt_ok ?_)
          repeat (refine And.intro ?_ ?_; first | omega | (simp only [Lay.d_n]; omega) | (simp only [decide_eq_true_eq, decide_eq_false_iff_not, Bool.or_eq_false_iff, Bool.and_eq_true, Bool.or_eq_true, Bool.and_eq_false_iff, Bool.not_eq_true', Bool.not_eq_false', Lay.d_n]; omega) | (simp only [decide_eq_true_eq, decide_eq_false_iff_not, Bool.or_eq_false_iff, Bool.and_eq_true, Bool.or_eq_true, Bool.and_eq_false_iff, Bool.not_eq_true', Bool.not_eq_false']; omega))
          refine ⟨rfl, ?_, ?_⟩
          · refine xa_chain (fuel := 1) [25, 26] rfl rfl (by kernel_rfl) ?_
            refine xl_push tt_ok tokY T (⟨t.kind, sub l t.lo t.hi, (C.getD t.lo charY.dft).pos, (C.getD ((t.hi : Int) - 1).toNat charY.dft).pos + (C.getD ((t.hi : Int) - 1).toNat charY.dft).len, decide (n < t.lo)⟩ : Tok) 48 rfl rfl rfl rfl rfl rfl rfl rfl rfl rfl rfl rfl (by kernel_rfl) rfl rfl rfl rfl rfl (fun n hn => by cases hn; decide) rfl rfl rfl (by omega) (by omega) ?_
            refine xl_end ?_
            refine xa_one 27 (by kernel_rfl) rfl (xl_go tt_ok ?_)
            refine xa_done (by kernel_rfl) rfl ?_
            exact ⟨(T ++ [(⟨t.kind, sub l t.lo t.hi, (C.getD t.lo charY.dft).pos, (C.getD ((t.hi : Int) - 1).toNat charY.dft).pos + (C.getD ((t.hi : Int) - 1).toNat charY.dft).len, decide (n < t.lo)⟩ : Tok)], (t.hi : Int)), [(10, some 13)], .of rfl rfl rfl rfl rfl rfl, next⟩
          · refine xa_two 0 25 (by kernel_rfl) rfl rfl (xl_go tt_ok ?_) ?_
            · refine xa_chain (fuel := 1) [25, 26] rfl rfl (by kernel_rfl) ?_
              refine xl_push tt_ok tokY T (⟨t.kind, sub l t.lo t.hi, (C.getD t.lo charY.dft).pos, (C.getD ((t.hi : Int) - 1).toNat charY.dft).pos + (C.getD ((t.hi : Int) - 1).toNat charY.dft).len, decide (n < t.lo)⟩ : Tok) 48 rfl rfl rfl rfl rfl rfl rfl rfl rfl rfl rfl rfl (by kernel_rfl) rfl rfl rfl rfl rfl (fun n hn => by cases hn; decide) rfl rfl rfl (by omega) (by omega) ?_
              refine xl_end ?_
              refine xa_one 27 (by kernel_rfl) rfl (xl_go tt_ok ?_)
              refine xa_done (by kernel_rfl) rfl ?_
              exact ⟨(T ++ [(⟨t.kind, sub l t.lo t.hi, (C.getD t.lo charY.dft).pos, (C.getD ((t.hi : Int) - 1).toNat charY.dft).pos + (C.getD ((t.hi : Int) - 1).toNat charY.dft).len, decide (n < t.lo)⟩ : Tok)], (t.hi : Int)), [(10, some 13)], .of rfl rfl rfl rfl rfl rfl, next⟩
            · refine xl_build tt_ok tokY [(⟨t.kind, sub l t.lo t.hi, (C.getD t.lo charY.dft).pos, (C.getD ((t.hi : Int) - 1).toNat charY.dft).pos + (C.getD ((t.hi : Int) - 1).toNat charY.dft).len, decide (n < t.lo)⟩ : Tok)] [_] rfl rfl rfl rfl rfl rfl rfl rfl rfl rfl rfl rfl rfl rfl rfl ?_
              refine xl_end ?_
              refine xa_one 0 (by kernel_rfl) rfl (xl_go tt_ok ?_)
              refine xa_one 26 (by kernel_rfl) rfl ?_
              refine xl_append tt_ok tokY T [(⟨t.kind, sub l t.lo t.hi, (C.getD t.lo charY.dft).pos, (C.getD ((t.hi : Int) - 1).toNat charY.dft).pos + (C.getD ((t.hi : Int) - 1).toNat charY.dft).len, decide (n < t.lo)⟩ : Tok)] 48 rfl rfl rfl rfl rfl rfl rfl rfl (by kernel_rfl) rfl rfl rfl (fun E w F hs => hs.rowAt (k := 13) rfl) tokOne rfl (by simp only [List.length_singleton]; omega) (by simp only [List.length_singleton]; omega) ?_
              refine xl_end ?_
              refine xa_one 27 (by kernel_rfl) rfl (xl_go tt_ok ?_)
              refine xa_done (by kernel_rfl) rfl ?_
              exact ⟨(T ++ [(⟨t.kind, sub l t.lo t.hi, (C.getD t.lo charY.dft).pos, (C.getD ((t.hi : Int) - 1).toNat charY.dft).pos + (C.getD ((t.hi : Int) - 1).toNat charY.dft).len, decide (n < t.lo)⟩ : Tok)], (t.hi : Int)), [(10, some 14)], .of rfl rfl rfl rfl rfl rfl, next⟩
      · obtain ⟨T, n⟩ := s'
        obtain ⟨g0, g1, g2⟩ := hgr
        rw [List.length_map, List.drop_length] at g1 g2
        have e3 : scanE s = 0 := by rw [e1, g1]; rfl
        have e4 : scanT s = T := by rw [e2, if_pos e3, g2]; simp [tks]
        rw [e3, e4]
        exact finO2 (k := 10) rfl
      · obtain ⟨rfl, g1, g2⟩ := hgr
        have e3 : scanE s = v := by rw [e1, g1]
        have e4 : scanT s = [] := by rw [e2, e3, if_neg g2]
        rw [e3, e4]
        exact finO2n tokY
end Go.Proofs.Ytdonomneofdhfaa
namespace Go.Proofs.Ytdonomneofdhfaa
open Go.GV Go.RowKit
def okT (T : List Tok) (W : List ByteArray) (K : ByteArray) (i : Nat) : Bool := decide ((T.getD i tok0).text = W.getD i strY.dft) && decide ((T.getD i tok0).kind = bt K i - 48)
def textsB (s : ByteArray) (W : List ByteArray) (K : ByteArray) : Bool :=
  decide (scanE s = 0) && decide ((scanT s).length = W.length) && decide ((scanT s).length = K.size) && (List.range (scanT s).length).all (okT (scanT s) W K)
set_option maxRecDepth 100000 in
theorem texts_any (s : ByteArray) (W : List ByteArray) (K : ByteArray) (x : Value) (w : World) (hx : SlAt (im w) x (strY.d W)) (hs : s.size ≤ 9223372036854775807) (hK : K.size ≤ 1000) (hg : Glob (im w)) :
    Calls Try.prog 43 #[.string s, x, .string K] w (PureP w fun v _ => v = .bool (textsB s W K)) := by
  obtain ⟨N, hN⟩ : ∃ N, N = textsB s W K := ⟨_, rfl⟩
  rw [← hN]
  have hF : (¬ N = true) → N = false := fun h => by simpa using h
  refine x_fun tt_ok Try.func43 rfl rfl [(x, strY.d W)] 1 [.v (.string s), .r 0, .v (.string K)] rfl rfl rfl rfl (fun b hb => by simp at hb; subst hb; exact hx) ?_
  refine x_vc tt_ok ?_
  refine xl_callO2 31 (tokY.d (scanT s)) [.int .i64 (scanE s)] rfl rfl rfl rfl fn41 rfl rfl (fun E w F hs' => scan_any s w hs (hg.imm hs'.imm)) ?_
  refine xl_go tt_ok ?_
  refine x_if (fun h => ?_) (fun h => ?_)
  · have h' : ((decide (scanE s ≠ 0) || decide (((scanT s).length : Int) ≠ (W.length : Int))) || decide (((scanT s).length : Int) ≠ (K.size : Int))) = true := h
    have e : N = false := hF (fun hn => by
      rw [hN] at hn
      unfold textsB at hn
      simp only [Bool.and_eq_true, decide_eq_true_eq] at hn
      obtain ⟨⟨⟨a1, a2⟩, a3⟩, _⟩ := hn
      rw [decide_eq_false (by simpa using a1), decide_eq_false (by simp [a2]), decide_eq_false (by rw [a3]; simp)] at h'
      cases h')
    rw [e]
    exact fin1 (fun _ _ => rfl)
  · have h' : ((decide (scanE s ≠ 0) || decide (((scanT s).length : Int) ≠ (W.length : Int))) || decide (((scanT s).length : Int) ≠ (K.size : Int))) = false := h
    simp only [Bool.or_eq_false_iff, decide_eq_false_iff_not, Classical.not_not] at h'
    obtain ⟨⟨a1, a2⟩, a3⟩ := h'
    have hall : N = true ↔ ∀ i : Nat, i < (scanT s).length → okT (scanT s) W K i = true := by
      rw [hN]
      unfold textsB
      rw [decide_eq_true a1, decide_eq_true (by omega : (scanT s).length = W.length), decide_eq_true (by omega : (scanT s).length = K.size)]
      simp [List.all_eq_true]
    refine x_loop (σ := Int) (fun k => ⟨[(9, .v (.int .i64 k)), (7, .r 1), (2, .v (.string K)), (1, .r 0)], [], [(1, .row 31 (tokY.d (scanT s))), (0, .sl (strY.d W))], 2⟩)
      (fun k _ => 0 ≤ k ∧ k ≤ (scanT s).length ∧ (N = true ↔ ∀ i : Nat, k ≤ (i : Int) → i < (scanT s).length → okT (scanT s) W K i = true)) (fun k => ((scanT s).length - k).toNat) (fun _ => Nat.le_refl 2) 0 [] (.of rfl rfl rfl rfl rfl rfl)
      ⟨by omega, by omega, hall.trans ⟨fun h i _ hi => h i hi, fun h i hi => h i (by omega) hi⟩⟩ ?_
    clear hall h hN
    generalize scanT s = T at a2 a3 ⊢
    rintro k u hu ⟨g1, g2, g3⟩
    refine x_vc tt_ok ?_
    refine x_if (fun h3 => ?_) (fun h3 => ?_)
    · have h3 : k < T.length := of_decide_eq_true h3
      have hbt := bt_range K k
      refine x_draw mix (by kernel_rfl) (xd_go tt_ok ?_)
      repeat (refine And.intro ?_ ?_; first | omega | (simp only [Lay.d_n]; omega) | (simp only [decide_eq_true_eq, decide_eq_false_iff_not, Bool.or_eq_false_iff, Bool.and_eq_true, Bool.or_eq_true, Bool.and_eq_false_iff, Bool.not_eq_true', Bool.not_eq_false', Lay.d_n]; omega) | (simp only [decide_eq_true_eq, decide_eq_false_iff_not, Bool.or_eq_false_iff, Bool.and_eq_true, Bool.or_eq_true, Bool.and_eq_false_iff, Bool.not_eq_true', Bool.not_eq_false']; omega))
      have hok : okT T W K k.toNat = !(decide ((T.getD k.toNat tokY.dft).text ≠ W.getD k.toNat strY.dft) || decide ((T.getD k.toNat tokY.dft).kind ≠ bt K k - 48)) := by
        unfold okT
        rw [show ((k.toNat : Nat) : Int) = k by omega]
        show (decide ((T.getD k.toNat tokY.dft).text = _) && decide ((T.getD k.toNat tokY.dft).kind = _)) = _
        by_cases b1 : (T.getD k.toNat tokY.dft).text = W.getD k.toNat strY.dft
        · by_cases b2 : (T.getD k.toNat tokY.dft).kind = bt K k - 48
          · simp [b1, b2]
          · simp [b1, b2]
        · simp [b1]
      refine x_if (fun h4 => ?_) (fun h4 => ?_)
      · have h4' : (decide ((T.getD k.toNat tokY.dft).text ≠ W.getD k.toNat strY.dft) || decide ((T.getD k.toNat tokY.dft).kind ≠ bt K k - 48)) = true := h4
        rw [h4'] at hok
        have e : N = false := hF (fun hn => by
          have := g3.1 hn k.toNat (by omega) (by omega)
          rw [hok] at this; cases this)
        rw [e]
        exact fin1 (fun _ _ => rfl)
      · have h4' : (decide ((T.getD k.toNat tokY.dft).text ≠ W.getD k.toNat strY.dft) || decide ((T.getD k.toNat tokY.dft).kind ≠ bt K k - 48)) = false := h4
        rw [h4'] at hok
        have next : N = true ↔ ∀ i : Nat, k + 1 ≤ (i : Int) → i < T.length → okT T W K i = true := by
          refine g3.trans ⟨fun h i h1 h2 => h i (by omega) h2, fun h i h1 h2 => ?_⟩
          by_cases hi : k + 1 ≤ (i : Int)
          · exact h i hi h2
          · have : i = k.toNat := by omega
            rw [this]; exact hok
        repeat (refine And.intro ?_ ?_; first | omega | (simp only [Lay.d_n]; omega) | (simp only [decide_eq_true_eq, decide_eq_false_iff_not, Bool.or_eq_false_iff, Bool.and_eq_true, Bool.or_eq_true, Bool.and_eq_false_iff, Bool.not_eq_true', Bool.not_eq_false', Lay.d_n]; omega) | (simp only [decide_eq_true_eq, decide_eq_false_iff_not, Bool.or_eq_false_iff, Bool.and_eq_true, Bool.or_eq_true, Bool.and_eq_false_iff, Bool.not_eq_true', Bool.not_eq_false']; omega))
        exact again (k + 1) [] (.of rfl rfl rfl rfl rfl rfl) ⟨by omega, by omega, next⟩ (by omega)
    · have h3 : ¬ k < (T.length : Int) := of_decide_eq_false h3
      have e : N = true := g3.2 (fun i h1 h2 => by omega)
      rw [e]
      exact fin1 (fun _ _ => rfl)
set_option maxRecDepth 100000 in
theorem ex_ab : textsB ⟨#[97, 43, 43, 43, 98, 10]⟩ [⟨#[97]⟩, ⟨#[43, 43]⟩, ⟨#[43]⟩, ⟨#[98]⟩, ⟨#[10]⟩] ⟨#[49, 53, 53, 49, 57]⟩ = true := by kernel_rfl
set_option maxRecDepth 100000 in
theorem scanAlive_any (w : World) (hg : Glob (im w)) : Calls Try.prog 40 #[] w (PureP w fun v _ => v = .bool true) := by
  refine x_fun tt_ok Try.func40 rfl rfl [] 0 [] rfl rfl rfl rfl (fun b hb => by cases hb) ?_
  refine x_vc tt_ok ?_
  refine xl_build tt_ok strY [⟨#[97]⟩, ⟨#[43, 43]⟩, ⟨#[43]⟩, ⟨#[98]⟩, ⟨#[10]⟩] [_, _, _, _, _] rfl rfl rfl rfl rfl rfl rfl rfl rfl rfl rfl rfl rfl rfl rfl ?_
  refine xl_go tt_ok ?_
  refine xl_call0 (.bool true) rfl rfl rfl rfl fn43 rfl rfl (fun E w F hs => by rw [← ex_ab]; exact texts_any _ _ _ _ w (hs.rowAt (k := 0) rfl) (by decide) (by decide) (hg.imm hs.imm)) ?_
  refine xl_go tt_ok ?_
  exact fin1 (fun _ _ => rfl)
end Go.Proofs.Ytdonomneofdhfaa
namespace Go.Proofs.Ytdonomneofdhfaa
open Go.GV Go.RowKit
def Stands (s : ByteArray) (t : Lx.Tk) : Prop := t.err ≠ 0 ∨ (t.err = 0 ∧ ∃ st, Lx.white (bt s t.lo) = false ∧ itm s st t.lo = ⟨t.kind, t.hi - t.lo, 0⟩ ∧ t.lo < t.hi ∧ t.hi ≤ s.size)
theorem itA_stands (s : ByteArray) : ∀ (n : Nat) (st i : Int), 0 ≤ i → (s.size : Int) - i ≤ n → ∀ t ∈ itA s st i, Stands s t
  | 0, st, i, h0, hn, t, ht => by rw [itA_nil (by omega)] at ht; cases ht
  | n + 1, st, i, h0, hn, t, ht => by
    by_cases hi : i < s.size
    · rw [itA_cons h0 hi] at ht
      by_cases hw : Lx.white (bt s i) = true
      · rw [if_pos hw] at ht
        exact itA_stands s n st (i + 1) (by omega) (by omega) t ht
      · rw [if_neg hw] at ht
        by_cases he : (itm s st i).err = 0
        · rw [if_neg (by simpa using he)] at ht
          obtain ⟨m1, m2⟩ := itm_le h0 hi he
          rcases List.mem_cons.1 ht with rfl | ht
          · have e : ((i.toNat : Nat) : Int) = i := by omega
            refine .inr ⟨rfl, st, ?_, ?_, by show i.toNat < i.toNat + _; omega, by show i.toNat + _ ≤ _; omega⟩
            · show Lx.white (bt s (i.toNat : Nat)) = false
              rw [e]; simpa using hw
            · show itm s st (i.toNat : Nat) = ⟨(itm s st i).kind, i.toNat + (itm s st i).len - i.toNat, 0⟩
              rw [e, show i.toNat + (itm s st i).len - i.toNat = (itm s st i).len by omega]
              cases hx : itm s st i with
              | mk a b c => rw [hx] at he; simp only at he; rw [he]
          · exact itA_stands s n _ _ (by omega) (by omega) t ht
        · rw [if_pos he] at ht
          rw [List.mem_singleton.1 ht]
          exact .inl he
    · rw [itA_nil (by omega)] at ht; cases ht
theorem its_stands {s : ByteArray} {t : Lx.Tk} (h : t ∈ itsOf s) : Stands s t := by
  rw [← itA_zero] at h
  exact itA_stands s s.size 0 0 (Int.le_refl _) (by omega) t h
theorem chain_next : ∀ {xs : List Lx.Tk} {i n k : Nat} {a b : Lx.Tk}, Lx.chain i n xs → xs[k]? = some a → xs[k + 1]? = some b → b.err = 0 → a.err = 0 ∧ a.hi ≤ b.lo
  | [], _, _, _, _, _, _, h, _, _ => by simp at h
  | x :: r, i, n, k, a, b, hc, h1, h2, hb => by
    rcases hc with ⟨c1, c2, c3, c4, c5⟩ | ⟨c1, c2⟩
    · cases k with
      | zero =>
        simp only [List.getElem?_cons_zero, Option.some.injEq] at h1
        subst h1
        simp only [List.getElem?_cons_succ] at h2
        refine ⟨c1, ?_⟩
        rcases chain_mem c5 b (List.mem_of_getElem? h2) with h | h
        · exact absurd hb h
        · exact h.2.1
      | succ k =>
        simp only [List.getElem?_cons_succ] at h1 h2
        exact chain_next c5 h1 h2 hb
    · subst c2; simp at h2
theorem tks_len (C : List Chr) (l : ByteArray) : ∀ (xs : List Lx.Tk) (n : Int), (tks C l n xs).length = xs.length
  | [], _ => rfl
  | x :: r, n => by rw [tks, List.length_cons, tks_len C l r, List.length_cons]
theorem tks_get (C : List Chr) (l : ByteArray) : ∀ (xs : List Lx.Tk) (n : Int) (k : Nat) (t : Lx.Tk), xs[k]? = some t →
    ∃ tok, (tks C l n xs)[k]? = some tok ∧ tok.kind = t.kind ∧ tok.text = sub l t.lo t.hi ∧ (∀ p, 0 < k → xs[k - 1]? = some p → tok.space = decide (p.hi < t.lo))
  | [], _, _, _, h => by simp at h
  | x :: r, n, 0, t, h => by
    simp only [List.getElem?_cons_zero, Option.some.injEq] at h
    subst h
    exact ⟨_, rfl, rfl, rfl, fun p h => absurd h (by omega)⟩
  | x :: r, n, k + 1, t, h => by
    simp only [List.getElem?_cons_succ] at h
    obtain ⟨tok, h1, h2, h3, h4⟩ := tks_get C l r x.hi k t h
    refine ⟨tok, by rw [tks, List.getElem?_cons_succ]; exact h1, h2, h3, fun p _ hp => ?_⟩
    cases k with
    | zero =>
      simp only [Nat.zero_add, Nat.sub_self, List.getElem?_cons_zero, Option.some.injEq] at hp
      subst hp
      cases r with
      | nil => simp at h
      | cons y r =>
        simp only [List.getElem?_cons_zero, Option.some.injEq] at h
        subst h
        rw [tks] at h1
        simp only [List.getElem?_cons_zero, Option.some.injEq] at h1
        rw [← h1]
        simp only
        rw [decide_eq_decide]; omega
    | succ k =>
      refine h4 p (by omega) ?_
      simp only [Nat.add_sub_cancel, List.getElem?_cons_succ] at hp ⊢
      exact hp
theorem munch {l : ByteArray} {a b : Lx.Tk} (ha : Stands l a) (hb : Stands l b) (ea : a.err = 0) (eb : b.err = 0) (hab : a.hi = b.lo) (ka : a.kind ≠ 7) (kb : b.kind ≠ 7) :
    fuP (sub l a.lo a.hi) (sub l b.lo b.hi) = (false, 0) := by
  rcases ha with ha | ⟨_, st, wa, ia, la, na⟩
  · exact absurd ea ha
  rcases hb with hb | ⟨_, su, wb, ib, lb, nb⟩
  · exact absurd eb hb
  have one : ∀ (st : Int) (t : Lx.Tk), Lx.white (bt l t.lo) = false → itm l st t.lo = ⟨t.kind, t.hi - t.lo, 0⟩ → t.lo < t.hi → t.hi ≤ l.size → t.kind ≠ 7 →
      Lx.oneL (bl (sub l t.lo t.hi)) = some t.kind ∧ Lx.itemP false (tl l t.lo) = ⟨t.kind, t.hi - t.lo, 0⟩ ∧ bl (sub l t.lo t.hi) = (tl l t.lo).take (t.hi - t.lo) := by
    intro st t h1 h2 h3 h4 h5
    have hbl : bl (sub l t.lo t.hi) = (tl l t.lo).take (t.hi - t.lo) := by
      rw [bl_sub l (by omega) (by omega) (by omega)]; congr 1; omega
    unfold itm at h2
    have hcons := tl_cons (s := l) (i := (t.lo : Int)) (by omega) (by omega)
    have e1 := Lx.one_of_item (hdr := decide (st = 2)) (c := bt l t.lo) (r := tl l ((t.lo : Int) + 1)) h1 (by rw [← hcons, h2]) (by rw [← hcons, h2]; exact h5)
    rw [← hcons, h2] at e1
    refine ⟨by rw [hbl]; exact e1, ?_, hbl⟩
    rw [Lx.itemP_hdr (hdr := decide (st = 2)) (by rw [h2]; exact h5), h2]
  obtain ⟨a1, a2, a3⟩ := one st a wa ia la na ka
  obtain ⟨b1, b2, b3⟩ := one su b wb ib lb nb kb
  unfold fuP
  rw [a1, b1]
  simp only [Prod.mk.injEq, and_true]
  have hj : bl (sub l a.lo a.hi) ++ bl (sub l b.lo b.hi) = (tl l a.lo).take (b.hi - a.lo) := by
    rw [a3, b3, ← hab, show ((a.hi : Nat) : Int) = (a.lo : Int) + ((a.hi - a.lo : Nat) : Int) by omega, ← tl_tl l (by omega), show b.hi - a.lo = (a.hi - a.lo) + (b.hi - a.hi) by omega, List.take_add]
  have ht := Lx.itemP_take (l := tl l a.lo) (n := b.hi - a.lo) (by rw [tl_cons (by omega) (by omega)]; simp) (by rw [a2]) (by rw [a2]; show a.hi - a.lo ≤ _; omega)
  unfold Lx.fz
  rw [hj, ht, a2]
  have hlen : (bl (sub l a.lo a.hi)).length = a.hi - a.lo := by
    rw [a3, List.length_take, tl_len]; omega
  rw [hlen]
  simp
end Go.Proofs.Ytdonomneofdhfaa
namespace Go.Proofs.Ytdonomneofdhfaa
open Go.GV Go.RowKit
theorem errK_zero : ∀ {xs : List Lx.Tk}, errK xs = 0 → ∀ t ∈ xs, t.err = 0
  | [], _, t, ht => by cases ht
  | x :: r, h, t, ht => by
    rw [errK] at h
    by_cases hx : x.err = 0
    · rw [if_neg (by simpa using hx)] at h
      rcases List.mem_cons.1 ht with rfl | ht
      · exact hx
      · exact errK_zero h t ht
    · rw [if_pos hx] at h; exact absurd h hx
theorem scanE_zero {s : ByteArray} (h : scanE s = 0) : checkE s = 0 ∧ errK (itsOf (logB s)) = 0 ∧ scanT s = tks (charsOf s) (logB s) 0 (itsOf (logB s)) ∧ (logB s).size ≤ 65536 := by
  have hc : checkE s = 0 := by
    unfold scanE at h
    split at h
    · rename_i h2; exact absurd h h2
    · rename_i h2; exact Classical.not_not.1 h2
  refine ⟨hc, ?_, ?_, ?_⟩
  · unfold scanE at h
    rw [if_neg (by simpa using hc)] at h; exact h
  · rw [scanT, if_pos h]
  · rw [logB_size]
    have h2 : charsOf s = chrsL (partsV s) := by rw [charsOf, if_pos hc]
    rw [h2]
    exact Nat.le_trans (chrsL_len _) (Nat.le_trans (partsV_len s) (checkE_size hc))
theorem getD_of {α : Type} {L : List α} {i : Nat} {x d : α} (h : L[i]? = some x) : L.getD i d = x := by
  rw [List.getD_eq_getElem?_getD, h]; rfl
theorem scan_munch {s : ByteArray} (h : scanE s = 0) {k : Nat} (hk : k + 1 < (scanT s).length) (h1 : ((scanT s).getD (k + 1) tok0).space = false) (h2 : ((scanT s).getD (k + 1) tok0).kind ≠ 7) (h3 : ((scanT s).getD k tok0).kind ≠ 7) :
    fuP ((scanT s).getD k tok0).text ((scanT s).getD (k + 1) tok0).text = (false, 0) ∧ ((scanT s).getD k tok0).text.size ≤ 65536 ∧ ((scanT s).getD (k + 1) tok0).text.size ≤ 65536 := by
  obtain ⟨e1, e2, e3, e4⟩ := scanE_zero h
  rw [e3] at hk h1 h2 h3 ⊢
  rw [tks_len] at hk
  obtain ⟨a, ha⟩ : ∃ a, (itsOf (logB s))[k]? = some a := ⟨_, List.getElem?_eq_getElem (by omega)⟩
  obtain ⟨b, hb⟩ : ∃ b, (itsOf (logB s))[k + 1]? = some b := ⟨_, List.getElem?_eq_getElem hk⟩
  obtain ⟨ta, a1, a2, a3, _⟩ := tks_get (charsOf s) (logB s) _ 0 k a ha
  obtain ⟨tb, b1, b2, b3, b4⟩ := tks_get (charsOf s) (logB s) _ 0 (k + 1) b hb
  rw [getD_of b1] at h1 h2 ⊢
  rw [getD_of a1] at h3 ⊢
  have b4 := b4 a (by omega) ha
  have ea := errK_zero e2 a (List.mem_of_getElem? ha)
  have eb := errK_zero e2 b (List.mem_of_getElem? hb)
  have hn := chain_next (Lx.itemsF_chain (bl (logB s)).length 0 0 (bl (logB s))) ha hb eb
  rw [b4] at h1
  have hab : a.hi = b.lo := by
    have := of_decide_eq_false h1
    have := hn.2
    omega
  rw [a3, b3]
  have s1 := sub_le (logB s) a.lo a.hi
  have s2 := sub_le (logB s) b.lo b.hi
  exact ⟨munch (its_stands (List.mem_of_getElem? ha)) (its_stands (List.mem_of_getElem? hb)) ea eb hab (by rw [← a2]; exact h3) (by rw [← b2]; exact h2), by omega, by omega⟩
theorem scanT_len (s : ByteArray) : (scanT s).length ≤ 65537 := by
  by_cases h : scanE s = 0
  · obtain ⟨_, _, e3, e4⟩ := scanE_zero h
    rw [e3, tks_len]
    have := its_len (logB s)
    omega
  · rw [scanT, if_neg h]; simp
set_option maxRecDepth 100000 in
theorem scanMunch_any (s : ByteArray) (w : World) (hs : s.size ≤ 9223372036854775807) (hg : Glob (im w)) : Calls Try.prog 7 #[.string s] w (PureP w fun v _ => v = .bool true) := by
  refine x_fun tt_ok Try.func7 rfl rfl [] 0 [.v (.string s)] rfl rfl rfl rfl (fun b hb => by cases hb) ?_
  refine x_vc tt_ok ?_
  refine xl_call0 (.bool true) rfl rfl rfl rfl fn40 rfl rfl (fun E w F hs => scanAlive_any w (hg.imm hs.imm)) ?_
  refine xl_go tt_ok ?_
  refine xl_callO2 31 (tokY.d (scanT s)) [.int .i64 (scanE s)] rfl rfl rfl rfl fn41 rfl rfl (fun E w F hs' => scan_any s w hs (hg.imm hs'.imm)) ?_
  refine xl_go tt_ok ?_
  refine x_if (fun h => ?_) (fun h => ?_)
  · exact fin1 (fun _ _ => rfl)
  · have h' : (decide (scanE s ≠ 0) || !true) = false := h
    have he : scanE s = 0 := by simpa using h'
    have hlen := scanT_len s
    have key := fun (k : Nat) => scan_munch he (k := k)
    clear h h'
    generalize scanT s = T at hlen key ⊢
    refine x_loop (σ := Int) (fun k => ⟨[(6, .v (.int .i64 k)), (4, .r 0), (3, .v (.bool true))], [], [(0, .row 31 (tokY.d T))], 1⟩)
      (fun k _ => 1 ≤ k ∧ k ≤ (T.length : Int) + 1) (fun k => ((T.length : Int) + 1 - k).toNat) (fun _ => Nat.le_refl 1) 1 [] (.of rfl rfl rfl rfl rfl rfl)
      ⟨by omega, by omega⟩ ?_
    rintro k u hu ⟨g1, g2⟩
    refine x_vc tt_ok ?_
    refine x_if (fun h3 => ?_) (fun h3 => ?_)
    · have h3 : k < T.length := of_decide_eq_true h3
      have ek : k.toNat = (k - 1).toNat + 1 := by omega
      repeat (refine And.intro ?_ ?_; first | omega | (simp only [Lay.d_n]; omega) | (simp only [decide_eq_true_eq, decide_eq_false_iff_not, Bool.or_eq_false_iff, Bool.and_eq_true, Bool.or_eq_true, Bool.and_eq_false_iff, Bool.not_eq_true', Bool.not_eq_false', Lay.d_n]; omega) | (simp only [decide_eq_true_eq, decide_eq_false_iff_not, Bool.or_eq_false_iff, Bool.and_eq_true, Bool.or_eq_true, Bool.and_eq_false_iff, Bool.not_eq_true', Bool.not_eq_false']; omega))
      refine x_if (fun h4 => ?_) (fun h4 => ?_)
      · repeat (refine And.intro ?_ ?_; first | omega | (simp only [Lay.d_n]; omega) | (simp only [decide_eq_true_eq, decide_eq_false_iff_not, Bool.or_eq_false_iff, Bool.and_eq_true, Bool.or_eq_true, Bool.and_eq_false_iff, Bool.not_eq_true', Bool.not_eq_false', Lay.d_n]; omega) | (simp only [decide_eq_true_eq, decide_eq_false_iff_not, Bool.or_eq_false_iff, Bool.and_eq_true, Bool.or_eq_true, Bool.and_eq_false_iff, Bool.not_eq_true', Bool.not_eq_false']; omega))
        exact again (k + 1) [] (.of rfl rfl rfl rfl rfl rfl) ⟨by omega, by omega⟩ (by omega)
      · have h4' : ((T.getD k.toNat tok0).space || decide ((T.getD k.toNat tok0).kind = 7) || decide ((T.getD (k - 1).toNat tok0).kind = 7)) = false := h4
        simp only [Bool.or_eq_false_iff, decide_eq_false_iff_not] at h4'
        obtain ⟨⟨b1, b2⟩, b3⟩ := h4'
        have hm := key (k - 1).toNat (by omega) (by rw [← ek]; exact b1) (by rw [← ek]; exact b2) b3
        rw [← ek] at hm
        refine x_draw mix (by kernel_rfl) (xd_go tt_ok ?_)
        repeat (refine And.intro ?_ ?_; first | omega | (simp only [Lay.d_n]; omega) | (simp only [decide_eq_true_eq, decide_eq_false_iff_not, Bool.or_eq_false_iff, Bool.and_eq_true, Bool.or_eq_true, Bool.and_eq_false_iff, Bool.not_eq_true', Bool.not_eq_false', Lay.d_n]; omega) | (simp only [decide_eq_true_eq, decide_eq_false_iff_not, Bool.or_eq_false_iff, Bool.and_eq_true, Bool.or_eq_true, Bool.and_eq_false_iff, Bool.not_eq_true', Bool.not_eq_false']; omega))
        refine xd_call0 (.tuple #[.bool false, .int .i64 0]) rfl rfl rfl rfl fn38 rfl rfl (fun _ E w F hs' => by
          have h5 := fuses_any (T.getD (k - 1).toNat tok0).text (T.getD k.toNat tok0).text (by omega) w (((hg.sub hu.sub)).imm hs'.imm)
          rw [hm.1] at h5
          exact h5) ?_
        refine xd_go tt_ok ?_
        refine x_iff rfl ?_
        repeat (refine And.intro ?_ ?_; first | omega | (simp only [Lay.d_n]; omega) | (simp only [decide_eq_true_eq, decide_eq_false_iff_not, Bool.or_eq_false_iff, Bool.and_eq_true, Bool.or_eq_true, Bool.and_eq_false_iff, Bool.not_eq_true', Bool.not_eq_false', Lay.d_n]; omega) | (simp only [decide_eq_true_eq, decide_eq_false_iff_not, Bool.or_eq_false_iff, Bool.and_eq_true, Bool.or_eq_true, Bool.and_eq_false_iff, Bool.not_eq_true', Bool.not_eq_false']; omega))
        exact again (k + 1) [] (.of rfl rfl rfl rfl rfl rfl) ⟨by omega, by omega⟩ (by omega)
    · exact fin1 (fun _ _ => rfl)
end Go.Proofs.Ytdonomneofdhfaa
namespace Go.Proofs.Ytdonomneofdhfaa
open Go.GV Go.RowKit
set_option maxRecDepth 100000 in
theorem rowsText_any (s : ByteArray) (w : World) (hs : s.size ≤ 9223372036854775807) (hg : Glob (im w)) : Calls Try.prog 50 #[.string s] w (PureP w (RowsR (rowsOf (scanT s)))) := by
  have hl := scanT_len s
  refine x_fun tt_ok Try.func50 rfl rfl [] 0 [.v (.string s)] rfl rfl rfl rfl (fun b hb => by cases hb) ?_
  refine x_vc tt_ok ?_
  refine xl_callO2 31 (tokY.d (scanT s)) [.int .i64 (scanE s)] rfl rfl rfl rfl fn41 rfl rfl (fun E w F hs' => scan_any s w hs (hg.imm hs'.imm)) ?_
  refine xl_go tt_ok ?_
  obtain ⟨R, hR⟩ : ∃ R, R = rowsOf (scanT s) := ⟨_, rfl⟩
  rw [← hR]
  refine xl_callStar (fun (s : Option Addr × Nat × List RowV) => .slice s.1 R.length s.2.1) (fun s => itemsS s.2.2 R ++ [(⟨.slice s.1 R.length s.2.1, 28, rowY.d s.2.2⟩ : SI)]) (fun s => s.2.2.map RowV.key = R.map RowT.key) rfl rfl rfl rfl fn23 rfl rfl
    (fun E w F hs => by
      have h1 := hs.rowAt (k := 0) rfl
      obtain ⟨A, c, hv⟩ := h1.form
      show Calls Try.prog 23 #[E 0] w _
      rw [hv] at h1 ⊢
      rw [hR]
      exact rows_any (scanT s) A c w h1 (by omega)) (fun s' hk => ?_)
  refine xl_go tt_ok ?_
  exact finStar (k := 1) s' rfl (fun _ => rfl) hk
theorem says_len (r : RowV) (t : List Tok) : (saysV r t).length ≤ t.length := by
  have := bareFrom_le false t
  unfold saysV
  split
  · rw [List.length_drop]; omega
  · exact this
set_option maxRecDepth 100000 in
theorem saysAt_any (V : List RowV) (T : List (List Tok)) (x : Value) (i : Int) (w : World) (hx : SlAt (im w) x (rowY.d V)) (hT : ToksAt (im w) V T) (h0 : 0 ≤ i) (hL : ∀ i : Nat, (T.getD i []).length * 48 ≤ 140737488355328) :
    Calls Try.prog 58 #[x, .int .i64 i] w (PureP w fun v _ => v = .int .i64 (if (V.length : Int) ≤ i then -1 else ((saysV (V.getD i.toNat row0) (T.getD i.toNat [])).length : Int))) := by
  refine x_fun tt_ok Try.func58 rfl rfl [(x, rowY.d V)] 1 [.r 0, .v (.int .i64 i)] rfl rfl rfl rfl (fun b hb => by simp at hb; subst hb; exact hx) ?_
  refine x_vc tt_ok ?_
  refine x_if (fun h => ?_) (fun h => ?_)
  · have h : (V.length : Int) ≤ i := of_decide_eq_true h
    rw [if_pos h]
    exact fin1 (fun _ _ => rfl)
  · have h : ¬ (V.length : Int) ≤ i := of_decide_eq_false h
    rw [if_neg h]
    repeat (refine And.intro ?_ ?_; first | omega | (simp only [Lay.d_n]; omega) | (simp only [decide_eq_true_eq, decide_eq_false_iff_not, Bool.or_eq_false_iff, Bool.and_eq_true, Bool.or_eq_true, Bool.and_eq_false_iff, Bool.not_eq_true', Bool.not_eq_false', Lay.d_n]; omega) | (simp only [decide_eq_true_eq, decide_eq_false_iff_not, Bool.or_eq_false_iff, Bool.and_eq_true, Bool.or_eq_true, Bool.and_eq_false_iff, Bool.not_eq_true', Bool.not_eq_false']; omega))
    refine xl_callV (tokY.d (saysV (V.getD i.toNat row0) (T.getD i.toNat []))) rfl rfl rfl rfl fn26 rfl rfl (fun E w F hs => says_any (V.getD i.toNat row0) (T.getD i.toNat []) w ((hT.2 i.toNat (by omega)).imm hs.imm) (hL _)) (fun A c u' hu hA => ?_)
    refine xl_go tt_ok ?_
    exact fin1 (fun _ _ => rfl)
end Go.Proofs.Ytdonomneofdhfaa
namespace Go.Proofs.Ytdonomneofdhfaa
open Go.GV Go.RowKit
def saysT (r : RowT) : List Tok := saysV ⟨r.dir, r.name, none, 0, 0⟩ r.ts
theorem keyT_at {V : List RowV} {R : List RowT} (hk : V.map RowV.key = R.map RowT.key) (i : Nat) : (V.getD i row0).dir = (R.getD i rowT0).dir ∧ (V.getD i row0).name = (R.getD i rowT0).name := by
  have h1 := congrArg (fun l => l[i]?) hk
  simp only [List.getElem?_map] at h1
  simp only [List.getD_eq_getElem?_getD]
  cases h3 : V[i]? with
  | none =>
    rw [h3] at h1
    cases h4 : R[i]? with
    | none => exact ⟨rfl, rfl⟩
    | some r => rw [h4] at h1; cases h1
  | some v =>
    rw [h3] at h1
    cases h4 : R[i]? with
    | none => rw [h4] at h1; cases h1
    | some r =>
      rw [h4] at h1
      simp only [Option.map_some, Option.some.injEq, RowV.key, RowT.key, Prod.mk.injEq] at h1
      exact h1
theorem says_at {V : List RowV} {R : List RowT} (hk : V.map RowV.key = R.map RowT.key) (i : Nat) : saysV (V.getD i row0) ((R.map RowT.ts).getD i []) = saysT (R.getD i rowT0) := by
  obtain ⟨h1, h2⟩ := keyT_at hk i
  rw [tsD]
  unfold saysT saysV
  rw [h1, h2]
theorem rows_ts_len (s : ByteArray) (i : Nat) : (((rowsOf (scanT s)).map RowT.ts).getD i []).length * 48 ≤ 140737488355328 := by
  rw [tsD]
  have h1 := ts_size (R := rowsOf (scanT s)) i
  have h2 := (rowsOf_size (scanT s)).1
  have h3 := scanT_len s
  omega
def exL : ByteArray := ⟨#[97, 10, 35, 100, 101, 102, 105, 110, 101, 32, 88, 10, 98, 10, 99, 10]⟩
def aliveB (R : List RowT) : Bool := decide ((R.length : Int) = 3) && decide ((if (R.length : Int) ≤ 0 then -1 else ((saysT (R.getD 0 rowT0)).length : Int)) = 1) && decide ((if (R.length : Int) ≤ 1 then -1 else ((saysT (R.getD 1 rowT0)).length : Int)) = 1) &&
  decide ((if (R.length : Int) ≤ 2 then -1 else ((saysT (R.getD 2 rowT0)).length : Int)) = 2) && (R.getD 1 rowT0).dir && decide ((R.getD 1 rowT0).name = ⟨#[100, 101, 102, 105, 110, 101]⟩) && !(R.getD 2 rowT0).dir
set_option maxRecDepth 100000 in
theorem ex_lines : aliveB (rowsOf (scanT exL)) = true := by kernel_rfl
set_option maxRecDepth 100000 in
theorem linesAlive_any (w : World) (hg : Glob (im w)) : Calls Try.prog 48 #[] w (PureP w fun v _ => v = .bool true) := by
  have hz := rows_ts_len exL
  have hex := ex_lines
  have hr := fun (w : World) (h : Glob (im w)) => rowsText_any exL w (by decide) h
  generalize rowsOf (scanT exL) = R at hz hex hr
  refine x_fun tt_ok Try.func48 rfl rfl [] 0 [] rfl rfl rfl rfl (fun b hb => by cases hb) ?_
  refine x_vc tt_ok ?_
  refine xl_callStar (fun (s : Option Addr × Nat × List RowV) => .slice s.1 R.length s.2.1) (fun s => itemsS s.2.2 R ++ [(⟨.slice s.1 R.length s.2.1, 28, rowY.d s.2.2⟩ : SI)]) (fun s => s.2.2.map RowV.key = R.map RowT.key) rfl rfl rfl rfl fn50 rfl rfl
    (fun E w F hs => hr w (hg.imm hs.imm)) (fun s hk => ?_)
  obtain ⟨A, c, V⟩ := s
  replace hk : V.map RowV.key = R.map RowT.key := hk
  have hVR : V.length = R.length := by have := congrArg List.length hk; simpa using this
  refine xl_freezeStar 0 rfl (fun u1 hu1 hfr => ?_)
  have hT : ToksAt u1 V (R.map RowT.ts) := star_toks hVR (fun p hp => (hfr p (List.mem_append_left _ hp)).1)
  have hx : SlAt u1 (.slice A R.length c) (rowY.d V) := (hfr _ (List.mem_append_right _ (List.mem_singleton.2 rfl))).1
  refine xl_sl 2 rfl hx ?_
  refine xl_go tt_ok ?_
  have hsa : ∀ (x : Value) (i : Int) (w : World), SlAt (im w) x (rowY.d V) → 0 ≤ i → Imm u1 w → Calls Try.prog 58 #[x, .int .i64 i] w (PureP w fun v _ => v = .int .i64 (if (R.length : Int) ≤ i then -1 else ((saysT (R.getD i.toNat rowT0)).length : Int))) := fun x i w hx h0 hi => by
    have := saysAt_any V (R.map RowT.ts) x i w hx (hT.sub ⟨fun b o hb => hi.h b o hb⟩) h0 hz
    rw [hVR, says_at hk] at this
    exact this
  obtain ⟨z0, hz0⟩ : ∃ z : Int, z = (if (R.length : Int) ≤ 0 then -1 else ((saysT (R.getD 0 rowT0)).length : Int)) := ⟨_, rfl⟩
  obtain ⟨z1, hz1⟩ : ∃ z : Int, z = (if (R.length : Int) ≤ 1 then -1 else ((saysT (R.getD 1 rowT0)).length : Int)) := ⟨_, rfl⟩
  obtain ⟨z2, hz2⟩ : ∃ z : Int, z = (if (R.length : Int) ≤ 2 then -1 else ((saysT (R.getD 2 rowT0)).length : Int)) := ⟨_, rfl⟩
  refine xl_gcall0 (.int .i64 z0) rfl rfl rfl rfl fn58 rfl rfl (fun _ E w F hs => by rw [hz0]; exact hsa _ 0 w (hs.slAt (k := 1) rfl) (by decide) hs.imm) ?_
  refine xl_go tt_ok ?_
  refine xl_gcall0 (.int .i64 z1) rfl rfl rfl rfl fn58 rfl rfl (fun _ E w F hs => by rw [hz1]; exact hsa _ 1 w (hs.slAt (k := 1) rfl) (by decide) hs.imm) ?_
  refine xl_go tt_ok ?_
  refine xl_gcall0 (.int .i64 z2) rfl rfl rfl rfl fn58 rfl rfl (fun _ E w F hs => by rw [hz2]; exact hsa _ 2 w (hs.slAt (k := 1) rfl) (by decide) hs.imm) ?_
  refine xl_go tt_ok ?_
  repeat (refine And.intro ?_ ?_; first | omega | (simp only [Lay.d_n]; omega) | (simp only [decide_eq_true_eq, decide_eq_false_iff_not, Bool.or_eq_false_iff, Bool.and_eq_true, Bool.or_eq_true, Bool.and_eq_false_iff, Bool.not_eq_true', Bool.not_eq_false', Lay.d_n]; omega) | (simp only [decide_eq_true_eq, decide_eq_false_iff_not, Bool.or_eq_false_iff, Bool.and_eq_true, Bool.or_eq_true, Bool.and_eq_false_iff, Bool.not_eq_true', Bool.not_eq_false']; omega))
  refine fin1 (fun _ _ => ?_)
  obtain ⟨k1, k2⟩ := keyT_at hk 1
  obtain ⟨k3, k4⟩ := keyT_at hk 2
  show Value.bool (decide ((V.length : Int) = 3) && decide (z0 = 1) && decide (z1 = 1) && decide (z2 = 2) && (V.getD 1 row0).dir && decide ((V.getD 1 row0).name = ⟨#[100, 101, 102, 105, 110, 101]⟩) && !(V.getD 2 row0).dir) = _
  rw [k1, k2, k3, hz0, hz1, hz2, hVR]
  exact congrArg Value.bool hex
end Go.Proofs.Ytdonomneofdhfaa
namespace Go.Proofs.Ytdonomneofdhfaa
open Go.GV Go.RowKit
theorem tks_tx (C : List Chr) (l : ByteArray) (hl : l.size ≤ 65536) : ∀ (xs : List Lx.Tk) (n : Int), ∀ t ∈ tks C l n xs, t.text.size ≤ 65536
  | [], _, t, h => by simp [tks] at h
  | x :: r, n, t, h => by
    simp only [tks, List.mem_cons] at h
    rcases h with rfl | h
    · have := sub_le l x.lo x.hi
      simp only
      omega
    · exact tks_tx C l hl r x.hi t h
theorem scanT_tx (s : ByteArray) : ∀ t ∈ scanT s, t.text.size ≤ 65536 := by
  by_cases h : scanE s = 0
  · obtain ⟨_, _, e3, e4⟩ := scanE_zero h
    rw [e3]
    exact tks_tx _ _ e4 _ _
  · rw [scanT, if_neg h]
    intro t ht; cases ht
def txR (R : List RowT) : Prop := ∀ r ∈ R, ∀ t ∈ r.ts, t.text.size ≤ 65536
theorem txR_at {R : List RowT} (h : txR R) (i : Nat) : ∀ t ∈ (R.getD i rowT0).ts, t.text.size ≤ 65536 := by
  rw [List.getD_eq_getElem?_getD]
  rcases Nat.lt_or_ge i R.length with hi | hi
  · rw [List.getElem?_eq_getElem hi]; exact h _ (List.getElem_mem hi)
  · rw [List.getElem?_eq_none hi]; intro t ht; cases ht
theorem addLine_tx {s : List RowT × Bool} {line : List Tok} (h : txR s.1) (hl : ∀ t ∈ line, t.text.size ≤ 65536) : txR (addLine s line).1 := by
  unfold addLine
  split
  · intro r hr t ht
    rcases List.mem_or_eq_of_mem_set hr with hr | rfl
    · exact h r hr t ht
    · rcases List.mem_append.1 ht with ht | ht
      · exact txR_at h _ t ht
      · exact hl t ht
  · intro r hr t ht
    rcases List.mem_append.1 hr with hr | hr
    · exact h r hr t ht
    · rw [List.mem_singleton.1 hr] at ht
      exact hl t ht
theorem fold_tx : ∀ (ls : List (List Tok)) (s : List RowT × Bool), txR s.1 → (∀ l ∈ ls, ∀ t ∈ l, t.text.size ≤ 65536) → txR (ls.foldl addLine s).1
  | [], s, h, _ => h
  | l :: ls, s, h, hl => fold_tx ls (addLine s l) (addLine_tx h (hl l (List.mem_cons_self ..))) (fun l' h' => hl l' (List.mem_cons_of_mem _ h'))
theorem rows_tx {L : List Tok} (h : ∀ t ∈ L, t.text.size ≤ 65536) : txR (rowsOf L) :=
  fold_tx _ _ (fun r hr => by cases hr) (fun l hl t ht => by
    obtain ⟨p, _, rfl⟩ := List.mem_map.1 hl
    exact h t (List.mem_of_mem_take (List.mem_of_mem_drop ht)))
theorem bare_tx : ∀ (L : List Tok) (dr : Bool), (∀ t ∈ L, t.text.size ≤ 65536) → ∀ t ∈ bareFrom dr L, t.text.size ≤ 65536
  | [], _, _, t, ht => by cases ht
  | x :: r, dr, h, t, ht => by
    unfold bareFrom at ht
    split at ht
    · exact bare_tx r true (fun y hy => h y (List.mem_cons_of_mem _ hy)) t ht
    · rcases List.mem_cons.1 ht with rfl | ht
      · exact h x (List.mem_cons_self ..)
      · exact bare_tx r false (fun y hy => h y (List.mem_cons_of_mem _ hy)) t ht
theorem says_tx {r : RowV} {L : List Tok} (h : ∀ t ∈ L, t.text.size ≤ 65536) : ∀ t ∈ saysV r L, t.text.size ≤ 65536 := by
  unfold saysV
  split
  · exact fun t ht => bare_tx L false h t (List.mem_of_mem_drop ht)
  · exact bare_tx L false h
def rowsS (s : ByteArray) : List RowT := rowsOf (scanT s)
def bodyOf (s : ByteArray) : List Tok := saysT ((rowsS s).getD 0 rowT0)
def definedR (s : ByteArray) : MT × Int := if (decide (scanE s ≠ 0) || decide (((rowsS s).length : Int) ≠ 1)) = true then (m0, 3) else defR (bodyOf s)
theorem defNoN (e : Int) (u : Im) : DefR (m0, e) (.tuple #[mVal m0 (none, 0, none, 0), .int .i64 e]) u := ⟨(none, 0, none, 0), rfl, mStar_nil u, trivial⟩
theorem bodyOf_tx (s : ByteArray) : ∀ t ∈ bodyOf s, t.text.size ≤ 65536 := says_tx (txR_at (rows_tx (scanT_tx s)) 0)
set_option maxHeartbeats 2000000 in
set_option maxRecDepth 100000 in
theorem defined_any (s : ByteArray) (w : World) (hs : s.size ≤ 9223372036854775807) (hg : Glob (im w)) : Calls Try.prog 79 #[.string s] w (PureP w (DefR (definedR s))) := by
  have hl := scanT_len s
  have hbt := bodyOf_tx s
  refine x_fun tt_ok Try.func79 rfl rfl [] 0 [.v (.string s)] rfl rfl rfl rfl (fun b hb => by cases hb) ?_
  refine x_vc tt_ok ?_
  refine xl_callO2 31 (tokY.d (scanT s)) [.int .i64 (scanE s)] rfl rfl rfl rfl fn41 rfl rfl (fun E w F hs' => scan_any s w hs (hg.imm hs'.imm)) ?_
  refine xl_go tt_ok ?_
  obtain ⟨R, hR⟩ : ∃ R, R = rowsS s := ⟨_, rfl⟩
  have hRl : R.length ≤ 65537 := by rw [hR]; have := (rowsOf_size (scanT s)).2; unfold rowsS; omega
  unfold definedR
  rw [← hR]
  refine xl_callStar (fun (s : Option Addr × Nat × List RowV) => .slice s.1 R.length s.2.1) (fun s => itemsS s.2.2 R ++ [(⟨.slice s.1 R.length s.2.1, 28, rowY.d s.2.2⟩ : SI)]) (fun s => s.2.2.map RowV.key = R.map RowT.key) rfl rfl rfl rfl fn23 rfl rfl
    (fun E w F hs => by
      have h1 := hs.rowAt (k := 1) rfl
      obtain ⟨A, c, hv⟩ := h1.form
      show Calls Try.prog 23 #[E 1] w _
      rw [hv] at h1 ⊢
      rw [hR]
      exact rows_any (scanT s) A c w h1 (by omega)) (fun s' hk => ?_)
  obtain ⟨A, cc, V⟩ := s'
  replace hk : V.map RowV.key = R.map RowT.key := hk
  have hVR : V.length = R.length := by have := congrArg List.length hk; simpa using this
  refine xl_freezeStar 2 (sl := itemsS V R ++ [(⟨.slice A R.length cc, 28, rowY.d V⟩ : SI)]) rfl (fun u1 hu1 hfr => ?_)
  refine xl_sl 13 (x := .slice A R.length cc) (D := rowY.d V) rfl (hfr _ (List.mem_append_right _ (List.mem_singleton.2 rfl))).1 ?_
  have hT := star_toks hVR (fun p hp => (hfr p (List.mem_append_left _ hp)).1)
  refine xl_go tt_ok ?_
  refine x_if (fun h => ?_) (fun h => ?_)
  · have h : (decide (scanE s ≠ 0) || decide ((V.length : Int) ≠ 1)) = true := h
    rw [hVR] at h
    rw [if_pos h]
    exact finP (fun E w' F hs hu => defNoN 3 _)
  · have h : (decide (scanE s ≠ 0) || decide ((V.length : Int) ≠ 1)) = false := h
    rw [hVR] at h
    rw [if_neg (by rw [h]; simp)]
    have hR1 : 0 < V.length := by
      rw [Bool.or_eq_false_iff] at h
      have := of_decide_eq_false h.2
      omega
    repeat (refine And.intro ?_ ?_; first | omega | (simp only [Lay.d_n]; omega) | (simp only [decide_eq_true_eq, decide_eq_false_iff_not, Bool.or_eq_false_iff, Bool.and_eq_true, Bool.or_eq_true, Bool.and_eq_false_iff, Bool.not_eq_true', Bool.not_eq_false', Lay.d_n]; omega) | (simp only [decide_eq_true_eq, decide_eq_false_iff_not, Bool.or_eq_false_iff, Bool.and_eq_true, Bool.or_eq_true, Bool.and_eq_false_iff, Bool.not_eq_true', Bool.not_eq_false']; omega) | (simp only [decide_eq_true_eq, decide_eq_false_iff_not, Bool.or_eq_false_iff]; simp only [Lay.d_n]; omega))
    have hsz : ((R.map RowT.ts).getD 0 []).length ≤ 65537 := by
      rw [tsD]
      have h1 := ts_size (R := R) 0
      rw [hR, rowsS, (rowsOf_size (scanT s)).1] at h1
      rw [hR, rowsS]; omega
    have hsv : saysV (V.getD 0 row0) ((R.map RowT.ts).getD 0 []) = bodyOf s := by
      have := keyT_at hk 0
      rw [tsD]
      unfold bodyOf saysT saysV
      rw [this.1, this.2, hR]
    have hbl : (bodyOf s).length ≤ 65537 := by
      have := says_len (V.getD 0 row0) ((R.map RowT.ts).getD 0 [])
      rw [hsv] at this; omega
    refine xl_callO 31 (tokY.d (bodyOf s)) rfl rfl rfl rfl fn26 rfl rfl (fun E w F hs => by
      have := says_own (V.getD 0 row0) ((R.map RowT.ts).getD 0 []) w ((hT.2 0 hR1).imm hs.imm) (by omega)
      rw [hsv] at this
      exact this) ?_
    refine xl_go tt_ok ?_
    obtain ⟨r, hr⟩ : ∃ r, r = defR (bodyOf s) := ⟨_, rfl⟩
    rw [← hr]
    refine xl_callStar (fun s : MA => .tuple #[mVal r.1 s, .int .i64 r.2]) (fun s => mStar r.1 s) (fun _ => True) rfl rfl rfl rfl fn29 rfl rfl
      (fun E w F hs => by
        have h1 := hs.rowAt (k := 4) rfl
        obtain ⟨A, c, hv⟩ := h1.form
        show Calls Try.prog 29 #[E 4] w _
        rw [hv] at h1 ⊢
        rw [hr]
        exact define_any (bodyOf s) A c w h1 (by omega) (fun t ht => Nat.le_trans (hbt t ht) (by decide))) (fun sm _ => ?_)
    refine xl_go tt_ok ?_
    exact finStar (k := 5) sm rfl (fun _ => rfl) trivial
end Go.Proofs.Ytdonomneofdhfaa
namespace Go.Proofs.Ytdonomneofdhfaa
open Go.GV Go.RowKit
theorem fixS_len : ∀ L : List PV, (fixS L).length = L.length
  | [] => rfl
  | _ :: _ => rfl
theorem fixS_prt {L : List PV} (h : ∀ t ∈ L, t.prt = .slice none 0 0) : ∀ t ∈ fixS L, t.prt = .slice none 0 0 := by
  cases L with
  | nil => intro t ht; cases ht
  | cons x r =>
    intro t ht
    rcases List.mem_cons.1 ht with rfl | ht
    · exact h x (List.mem_cons_self ..)
    · exact h t (List.mem_cons_of_mem _ ht)
theorem ofT_prt {L : List Tok} : ∀ t ∈ L.map ofT, t.prt = .slice none 0 0 := fun t ht => by
  obtain ⟨x, _, rfl⟩ := List.mem_map.1 ht
  rfl
structure MSm (m : MT) (n : Nat) : Prop where
  ps : m.ps.length ≤ n
  body : m.body.length ≤ n
  prt : ∀ t ∈ m.body, t.prt = .slice none 0 0
theorem m0_sm (n : Nat) : MSm m0 n := ⟨Nat.zero_le _, Nat.zero_le _, fun t ht => by cases ht⟩
theorem defB_sm {nm : ByteArray} {fn va : Bool} {ps : List ByteArray} {l : List Tok} {n : Nat} (h1 : ps.length ≤ n) (h2 : l.length ≤ n) : MSm (defB nm fn ps va l).1 n := by
  unfold defB
  split
  · exact ⟨h1, by rw [fixS_len, List.length_map]; exact h2, fixS_prt ofT_prt⟩
  · exact m0_sm n
theorem defR_sm (L : List Tok) : MSm (defR L).1 L.length := by
  unfold defR
  split
  · exact m0_sm _
  · split
    · rename_i h
      rw [Bool.and_eq_true, decide_eq_true_eq] at h
      have pl := paramsR_le (L.drop 1) (by omega)
      rw [List.length_drop] at pl
      split
      · split
        · exact defB_sm (by omega) (by rw [List.length_drop, List.length_drop]; omega)
        · exact m0_sm _
      · exact m0_sm _
    · exact defB_sm (Nat.zero_le _) (by rw [List.length_drop]; omega)
def noP (m : MT) : List (List ByteArray) := List.replicate m.body.length []
theorem nil_slAt (u : Im) : SlAt u (.slice none 0 0) (strY.d []) := ⟨none, 0, rfl, Nat.le_refl _, by decide, fun h => by cases h⟩
theorem noP_at {m : MT} {n : Nat} (h : MSm m n) (u : Im) : PartsAt u m.body (noP m) := by
  refine ⟨by simp [noP], fun i hi => ?_⟩
  have h1 := h.prt (m.body.getD i pv0) (by rw [List.getD_eq_getElem?_getD, List.getElem?_eq_getElem hi]; exact List.getElem_mem hi)
  rw [h1]
  have : (noP m).getD i [] = [] := by
    unfold noP
    simp [List.getD_eq_getElem?_getD, List.getElem?_replicate, hi]
  rw [this]
  exact nil_slAt u
theorem noP_sm (m : MT) : prtSm (noP m) := fun i => by
  unfold noP
  rw [List.getD_eq_getElem?_getD, List.getElem?_replicate]
  split <;> simp
theorem ofT_parts (L : List Tok) (u : Im) : PartsAt u (L.map ofT) (List.replicate L.length []) := by
  refine ⟨by simp, fun i hi => ?_⟩
  have h1 := ofT_prt (L := L) ((L.map ofT).getD i pv0) (by rw [List.getD_eq_getElem?_getD, List.getElem?_eq_getElem hi]; exact List.getElem_mem hi)
  rw [h1]
  rw [List.length_map] at hi
  have : (List.replicate L.length ([] : List ByteArray)).getD i [] = [] := by
    simp [List.getD_eq_getElem?_getD, List.getElem?_replicate, hi]
  rw [this]
  exact nil_slAt u
theorem rep_sm (n : Nat) : prtSm (List.replicate n []) := fun i => by
  rw [List.getD_eq_getElem?_getD, List.getElem?_replicate]
  split <;> simp
theorem mSame_refl (m : MT) (T : List (List ByteArray)) : mSame m m T T = true := by simp [mSame]
theorem star_at {E : Env} {o : GV.Own} {nx : Nat} {u : Im} {df : List Deferred} {w : World} {f : Nat → Nat → Prop} (h : Sat E o nx u df w f) {k : Nat} {m : MT} {s : MA} {n : Nat} (hk : GV.look o k = some (GV.Rs.gen (starHp (mStar m s)))) (hm : MSm m n) (hn : n ≤ 9223372036854775806) :
    MAt (im w) m (noP m) s :=
  ⟨h.starAt (i := 0) hk rfl, h.starAt (i := 1) hk rfl, noP_at hm _, Nat.le_trans hm.ps hn, Nat.le_trans hm.body hn, noP_sm m⟩
end Go.Proofs.Ytdonomneofdhfaa
namespace Go.Proofs.Ytdonomneofdhfaa
open Go.GV Go.RowKit
def byteAt (s : ByteArray) (i : Int) : UInt8 := s.data.toList.getD i.toNat 0
def spellAt (s : ByteArray) (i : Int) : List UInt8 := byteAt s i :: (if parted s i = true then [92, 10] else [])
def spellUp (s : ByteArray) : Nat → List UInt8
  | 0 => []
  | k + 1 => spellUp s k ++ spellAt s k
theorem spellUp_len (s : ByteArray) : ∀ k, k ≤ (spellUp s k).length ∧ (spellUp s k).length ≤ 3 * k
  | 0 => ⟨Nat.le_refl _, Nat.le_refl _⟩
  | k + 1 => by
    obtain ⟨h1, h2⟩ := spellUp_len s k
    have h3 : 1 ≤ (spellAt s k).length ∧ (spellAt s k).length ≤ 3 := by
      unfold spellAt
      split <;> simp
    simp only [spellUp, List.length_append]
    omega
theorem spellUp_succ (s : ByteArray) {i : Int} (h : 0 ≤ i) : spellUp s (i + 1).toNat = spellUp s i.toNat ++ spellAt s i := by
  have e : (i + 1).toNat = i.toNat + 1 := by omega
  rw [e]
  simp only [spellUp]
  congr 2
  omega
def ends (s : ByteArray) : Bool := decide (s = ⟨#[]⟩) || decide (bt s ((s.size : Int) - 1) = 10)
def spellS (s : ByteArray) : ByteArray :=
  if 65536 < s.size then ⟨#[]⟩ else if ends s = false then ⟨#[]⟩ else if 65536 < (spellUp s s.size).length then ⟨#[]⟩ else ⟨(spellUp s s.size).toArray⟩
def spellE (s : ByteArray) : Int :=
  if 65536 < s.size then 3 else if ends s = false then 10 else if 65536 < (spellUp s s.size).length then 3 else 0
theorem size_empty {s : ByteArray} : s = ⟨#[]⟩ ↔ s.size = 0 := ByteArray.size_eq_zero_iff.symm
set_option maxRecDepth 100000 in
theorem spell_any (s : ByteArray) (w : World) (hs : s.size ≤ 9223372036854775807) : Calls Try.prog 47 #[.string s] w (PureP w fun v _ => v = .tuple #[.string (spellS s), .int .i64 (spellE s)]) := by
  refine x_fun tt_ok Try.func47 rfl rfl [] 0 [.v (.string s)] rfl rfl rfl rfl (fun b hb => by cases hb) ?_
  refine x_vc tt_ok ?_
  refine x_if (fun h => ?_) (fun h => ?_)
  · have h' : 65536 < (s.size : Int) := of_decide_eq_true h
    refine fin1 (fun _ _ => ?_)
    rw [show spellS s = ⟨#[]⟩ by unfold spellS; rw [if_pos (by omega)], show spellE s = 3 by unfold spellE; rw [if_pos (by omega)]]
    rfl
  have h' : ¬ 65536 < (s.size : Int) := of_decide_eq_false h
  have hn : ¬ 65536 < s.size := by omega
  have hse := @size_empty s
  repeat (refine And.intro ?_ ?_; first | omega | (simp only [Lay.d_n]; omega) | (simp only [decide_eq_true_eq, ne_eq, hse, decide_eq_false_iff_not, Bool.or_eq_false_iff, Bool.and_eq_true, Bool.or_eq_true, Bool.and_eq_false_iff, Bool.not_eq_true', Bool.not_eq_false']; omega))
  refine x_if (fun h2 => ?_) (fun h2 => ?_)
  · have h3 : (decide (s ≠ ⟨#[]⟩) && decide (bt s ((s.size : Int) - 1) ≠ 10)) = true := h2
    rw [Bool.and_eq_true, decide_eq_true_eq, decide_eq_true_eq] at h3
    have he : ends s = false := by unfold ends; rw [decide_eq_false h3.1, decide_eq_false h3.2]; rfl
    refine fin1 (fun _ _ => ?_)
    rw [show spellS s = ⟨#[]⟩ by unfold spellS; rw [if_neg hn, if_pos he], show spellE s = 10 by unfold spellE; rw [if_neg hn, if_pos he]]
    rfl
  have h3 : (decide (s ≠ ⟨#[]⟩) && decide (bt s ((s.size : Int) - 1) ≠ 10)) = false := h2
  have he : ends s = true := by
    rw [Bool.and_eq_false_iff, decide_eq_false_iff_not, decide_eq_false_iff_not, Classical.not_not, Classical.not_not] at h3
    unfold ends
    rcases h3 with h3 | h3
    · rw [decide_eq_true h3]; rfl
    · rw [decide_eq_true h3]; simp
  have hne : ¬ ends s = false := by rw [he]; simp
  by_cases h0 : s.size = 0
  · have hss : spellS s = ⟨#[]⟩ := by
      unfold spellS
      rw [if_neg hn, if_neg hne, h0, if_neg (show ¬ 65536 < (spellUp s 0).length from by simp [spellUp])]; rfl
    have hee : spellE s = 0 := by
      unfold spellE
      rw [if_neg hn, if_neg hne, h0, if_neg (show ¬ 65536 < (spellUp s 0).length from by simp [spellUp])]
    refine x_loop (σ := Unit) (fun _ => ⟨[(21, .v (.int .i64 0)), (20, .v (.int .i64 (s.size : Int))), (4, .p 0 0)], [], [(0, .box 139 [.v (.pointer none), .v (.slice none 0 0)])], 1⟩)
      (fun _ _ => True) (fun _ => 0) (fun _ => Nat.le_refl _) () [] (.of rfl rfl rfl rfl rfl rfl) trivial ?_
    rintro _ u hu _
    refine x_vc tt_ok ?_
    refine x_iff (by rw [h0]; rfl) ?_
    refine xl_callSC lenNil_sc (fun _ _ _ _ => trivial) trivial [0] rfl rfl rfl rfl fn106 rfl rfl rfl rfl rfl rfl rfl (fun _ => rfl) (fun _ u1 hu1 _ => ?_)
    refine xl_go tt_ok ?_
    refine x_iff rfl ?_
    refine xl_callSC stringNil_sc (fun _ _ _ _ => trivial) trivial [0] rfl rfl rfl rfl fn107 rfl rfl rfl rfl rfl rfl rfl (fun _ => rfl) (fun _ u2 hu2 _ => ?_)
    refine xl_go tt_ok ?_
    refine fin1 (fun _ _ => ?_)
    rw [hss, hee]; rfl
  · refine x_nilCell 0 5 byteY [.v (.pointer none)] [] rfl ?_
    refine x_loop (σ := Int × Bool × List UInt8) (fun (i, us, L) => ⟨[(21, .v (.int .i64 i)), (20, .v (.int .i64 (s.size : Int))), (4, .p 0 0), (0, .v (.string s))], [], [(0, .box 139 [bAddr us, .r 2]), (2, .row 5 (byteY.d L))], 3⟩)
      (fun (i, _, L) _ => 0 ≤ i ∧ i ≤ s.size ∧ L = spellUp s i.toNat) (fun (i, _, _) => ((s.size : Int) - i).toNat) (fun (_, _, _) => by simp only; omega) (0, false, []) [(2, some 1)] (.of rfl rfl rfl rfl rfl rfl) ⟨by omega, by omega, rfl⟩ ?_
    rintro ⟨i, us, L⟩ u hu ⟨g1, g2, g3⟩
    have hlen := spellUp_len s i.toNat
    rw [← g3] at hlen
    refine x_vc tt_ok ?_
    refine x_if (fun h4 => ?_) (fun h4 => ?_)
    · have h5 : i < s.size := of_decide_eq_true h4
      have hsu := spellUp_succ s g1
      rw [← g3] at hsu
      repeat (refine And.intro ?_ ?_; first | omega | (simp only [Lay.d_n]; omega) | (simp only [decide_eq_true_eq, decide_eq_false_iff_not, Bool.or_eq_false_iff, Bool.and_eq_true, Bool.or_eq_true, Bool.and_eq_false_iff, Bool.not_eq_true', Bool.not_eq_false']; omega))
      refine xl_callSC (writeByte_sc us L (byteAt s i) (by omega)) (fun _ _ _ _ => trivial) trivial [0, 2] rfl rfl rfl rfl fn103 rfl rfl rfl rfl rfl (by cases us <;> rfl) (by cases us <;> rfl) (fun _ => rfl) (fun _ u1 hu1 _ => ?_)
      refine xl_go tt_ok ?_
      refine xl_call0 (.bool (parted s i)) rfl rfl rfl rfl fn104 rfl rfl (fun E w F hs => parted_any s i w g1 h5 (by omega)) ?_
      refine xl_go tt_ok ?_
      refine x_if (fun h6 => ?_) (fun h6 => ?_)
      · have e : spellUp s (i + 1).toNat = (L ++ [byteAt s i]) ++ [92, 10] := by
          rw [hsu, spellAt, if_pos h6]; simp
        refine xl_callSC (writeString_sc true (L ++ [byteAt s i]) ⟨#[92, 10]⟩ (by rw [List.length_append]; show L.length + 1 + 2 ≤ _; omega)) (fun _ _ _ _ => trivial) trivial [0, 3] rfl rfl rfl rfl fn105 rfl rfl rfl rfl rfl rfl rfl (fun _ => rfl) (fun _ u2 hu2 _ => ?_)
        refine xl_go tt_ok ?_
        repeat (refine And.intro ?_ ?_; first | omega | (simp only [Lay.d_n]; omega) | (simp only [decide_eq_true_eq, decide_eq_false_iff_not, Bool.or_eq_false_iff, Bool.and_eq_true, Bool.or_eq_true, Bool.and_eq_false_iff, Bool.not_eq_true', Bool.not_eq_false']; omega))
        exact again (i + 1, true, _) [(2, some 4)] (.of rfl rfl rfl rfl rfl rfl) ⟨by omega, by omega, e.symm⟩ (by simp only; omega)
      · have e : spellUp s (i + 1).toNat = L ++ [byteAt s i] := by
          rw [hsu, spellAt, if_neg (by rw [h6]; simp)]
        repeat (refine And.intro ?_ ?_; first | omega | (simp only [Lay.d_n]; omega) | (simp only [decide_eq_true_eq, decide_eq_false_iff_not, Bool.or_eq_false_iff, Bool.and_eq_true, Bool.or_eq_true, Bool.and_eq_false_iff, Bool.not_eq_true', Bool.not_eq_false']; omega))
        exact again (i + 1, true, _) [(2, some 3)] (.of rfl rfl rfl rfl rfl rfl) ⟨by omega, by omega, e.symm⟩ (by simp only; omega)
    · have h5 : ¬ i < s.size := of_decide_eq_false h4
      have hi : i.toNat = s.size := by omega
      rw [hi] at g3 hlen
      have hL : L ≠ [] := fun h => h0 (Nat.le_zero.1 (by have := hlen.1; rw [h] at this; exact this))
      refine xl_callSC (len_sc us L) (fun _ _ _ _ => trivial) trivial [0, 2] rfl rfl rfl rfl fn106 rfl rfl rfl rfl rfl (by cases us <;> rfl) (by cases us <;> rfl) (fun _ => by cases us <;> rfl) (fun _ u1 hu1 _ => ?_)
      refine xl_go tt_ok ?_
      refine x_if (fun h6 => ?_) (fun h6 => ?_)
      · have h7 : 65536 < (L.length : Int) := of_decide_eq_true h6
        refine fin1 (fun _ _ => ?_)
        rw [show spellS s = ⟨#[]⟩ by unfold spellS; rw [if_neg hn, if_neg hne, ← g3, if_pos (by omega)], show spellE s = 3 by unfold spellE; rw [if_neg hn, if_neg hne, ← g3, if_pos (by omega)]]
        rfl
      · have h7 : ¬ 65536 < (L.length : Int) := of_decide_eq_false h6
        refine xl_callSC (string_sc us L hL) (fun _ _ _ _ => trivial) trivial [0, 2] rfl rfl rfl rfl fn107 rfl rfl rfl rfl rfl (by cases us <;> rfl) (by cases us <;> rfl) (fun _ => rfl) (fun _ u2 hu2 _ => ?_)
        refine xl_go tt_ok ?_
        refine fin1 (fun _ _ => ?_)
        rw [show spellS s = ⟨L.toArray⟩ by unfold spellS; rw [if_neg hn, if_neg hne, ← g3, if_neg (by omega)], show spellE s = 0 by unfold spellE; rw [if_neg hn, if_neg hne, ← g3, if_neg (by omega)]]
        rfl
theorem ends_ref (s : ByteArray) : ends s = !(decide (0 < (s.size : Int)) && decide (bt s ((s.size : Int) - 1) ≠ 10)) := by
  unfold ends
  by_cases h : s.size = 0
  · rw [decide_eq_true (size_empty.2 h), decide_eq_false (show ¬ 0 < (s.size : Int) by omega)]; rfl
  · rw [decide_eq_false (fun h' => h (size_empty.1 h')), decide_eq_true (show 0 < (s.size : Int) by omega)]
    by_cases h2 : bt s ((s.size : Int) - 1) = 10
    · rw [decide_eq_true h2, decide_eq_false (fun h3 => h3 h2)]; rfl
    · rw [decide_eq_false h2, decide_eq_true h2]; rfl
end Go.Proofs.Ytdonomneofdhfaa
namespace Go.Proofs.Ytdonomneofdhfaa
open Go.GV Go.RowKit
theorem spellS_size (s : ByteArray) : (spellS s).size ≤ 65536 := by
  unfold spellS
  split
  · decide
  · split
    · decide
    · split
      · decide
      · rename_i h
        show ((spellUp s s.size).toArray).size ≤ 65536
        simp only [List.size_toArray]
        omega
def textR (m : MT) (T : List (List ByteArray)) : ByteArray × Int :=
  if spellE (lineT m) ≠ 0 then (⟨#[]⟩, 50) else
  if scanE (spellS (lineT m)) ≠ 0 then (⟨#[]⟩, 50) else
  if ((rowsS (spellS (lineT m))).length : Int) ≠ 1 then (⟨#[]⟩, 50) else
  if (decide ((defR (bodyOf (spellS (lineT m)))).2 ≠ 0) || !mSame (defR (bodyOf (spellS (lineT m)))).1 m (noP (defR (bodyOf (spellS (lineT m)))).1) T) = true then (⟨#[]⟩, 50) else (spellS (lineT m), 0)
set_option maxHeartbeats 2000000 in
set_option maxRecDepth 100000 in
theorem text_any (m : MT) (T : List (List ByteArray)) (s : MA) (w : World) (hm : MAt (im w) m T s) (hn : m.ps.length ≤ 140737488355328) (hz : (lineL m).length ≤ 140737488355328) (hg : Glob (im w)) :
    Calls Try.prog 81 #[mVal m s] w (PureP w fun v _ => v = .tuple #[.string (textR m T).1, .int .i64 (textR m T).2]) := by
  have hlz : (lineT m).size ≤ 9223372036854775807 := by
    show ((lineL m).toArray).size ≤ _
    simp only [List.size_toArray]
    omega
  obtain ⟨l, hl⟩ : ∃ l, l = lineT m := ⟨_, rfl⟩
  unfold textR
  rw [← hl] at hlz ⊢
  obtain ⟨sp, hsp⟩ : ∃ sp, sp = spellS l := ⟨_, rfl⟩
  have zsp : sp.size ≤ 65536 := by rw [hsp]; exact spellS_size l
  rw [← hsp]
  have hlen := scanT_len sp
  have hbt := bodyOf_tx sp
  refine x_fun tt_ok Try.func81 rfl rfl [] 0 [.v (mVal m s)] rfl rfl rfl rfl (fun b hb => by cases hb) ?_
  refine x_vc tt_ok ?_
  refine xl_call0 (.string l) rfl rfl rfl rfl fn127 rfl rfl (fun E w' F hs => by rw [hl]; exact line_any m s w' (hm.ps.imm hs.imm) (hm.body.imm hs.imm) hn hz) ?_
  refine xl_go tt_ok ?_
  refine xl_call0 (.tuple #[.string sp, .int .i64 (spellE l)]) rfl rfl rfl rfl fn47 rfl rfl (fun E w' F hs => by rw [hsp]; exact spell_any l w' hlz) ?_
  refine xl_go tt_ok ?_
  refine x_if (fun h => ?_) (fun h => ?_)
  · have h : spellE l ≠ 0 := of_decide_eq_true h
    rw [if_pos h]
    exact fin1 (fun _ _ => rfl)
  have h : ¬ spellE l ≠ 0 := of_decide_eq_false h
  rw [if_neg h]
  clear h
  refine xl_callO2 31 (tokY.d (scanT sp)) [.int .i64 (scanE sp)] rfl rfl rfl rfl fn41 rfl rfl (fun E w F hs' => scan_any sp w (by omega) (hg.imm hs'.imm)) ?_
  refine xl_go tt_ok ?_
  refine x_if (fun h => ?_) (fun h => ?_)
  · have h : scanE sp ≠ 0 := of_decide_eq_true h
    rw [if_pos h]
    exact fin1 (fun _ _ => rfl)
  have h : ¬ scanE sp ≠ 0 := of_decide_eq_false h
  rw [if_neg h]
  clear h
  obtain ⟨R, hR⟩ : ∃ R, R = rowsS sp := ⟨_, rfl⟩
  have hRl : R.length ≤ 65537 := by rw [hR]; have := (rowsOf_size (scanT sp)).2; unfold rowsS; omega
  rw [← hR]
  refine xl_callStar (fun (s : Option Addr × Nat × List RowV) => .slice s.1 R.length s.2.1) (fun s => itemsS s.2.2 R ++ [(⟨.slice s.1 R.length s.2.1, 28, rowY.d s.2.2⟩ : SI)]) (fun s => s.2.2.map RowV.key = R.map RowT.key) rfl rfl rfl rfl fn23 rfl rfl
    (fun E w F hs => by
      have h1 := hs.rowAt (k := 1) rfl
      obtain ⟨A, c, hv⟩ := h1.form
      show Calls Try.prog 23 #[E 1] w _
      rw [hv] at h1 ⊢
      rw [hR]
      exact rows_any (scanT sp) A c w h1 (by omega)) (fun s' hk => ?_)
  obtain ⟨A, cc, V⟩ := s'
  replace hk : V.map RowV.key = R.map RowT.key := hk
  have hVR : V.length = R.length := by have := congrArg List.length hk; simpa using this
  refine xl_freezeStar 2 (sl := itemsS V R ++ [(⟨.slice A R.length cc, 28, rowY.d V⟩ : SI)]) rfl (fun u1 hu1 hfr => ?_)
  refine xl_sl 25 (x := .slice A R.length cc) (D := rowY.d V) rfl (hfr _ (List.mem_append_right _ (List.mem_singleton.2 rfl))).1 ?_
  have hT := star_toks hVR (fun p hp => (hfr p (List.mem_append_left _ hp)).1)
  refine xl_go tt_ok ?_
  refine x_if (fun h => ?_) (fun h => ?_)
  · have h : (V.length : Int) ≠ 1 := of_decide_eq_true h
    rw [if_pos (by rw [← hVR]; exact h)]
    exact fin1 (fun _ _ => rfl)
  have h : ¬ (V.length : Int) ≠ 1 := of_decide_eq_false h
  rw [if_neg (by rw [← hVR]; exact h)]
  have hR1 : 0 < V.length := by omega
  repeat (refine And.intro ?_ ?_; first | omega | (simp only [Lay.d_n]; omega) | (simp only [decide_eq_true_eq, decide_eq_false_iff_not, Bool.or_eq_false_iff, Bool.and_eq_true, Bool.or_eq_true, Bool.and_eq_false_iff, Bool.not_eq_true', Bool.not_eq_false', Lay.d_n]; omega) | (simp only [decide_eq_true_eq, decide_eq_false_iff_not, Bool.or_eq_false_iff, Bool.and_eq_true, Bool.or_eq_true, Bool.and_eq_false_iff, Bool.not_eq_true', Bool.not_eq_false']; omega) | (simp only [decide_eq_true_eq, decide_eq_false_iff_not, Bool.or_eq_false_iff]; simp only [Lay.d_n]; omega))
  have hsz : ((R.map RowT.ts).getD 0 []).length ≤ 65537 := by
    rw [tsD]
    have h1 := ts_size (R := R) 0
    rw [hR, rowsS, (rowsOf_size (scanT sp)).1] at h1
    rw [hR, rowsS]; omega
  have hsv : saysV (V.getD 0 row0) ((R.map RowT.ts).getD 0 []) = bodyOf sp := by
    have := keyT_at hk 0
    rw [tsD]
    unfold bodyOf saysT saysV
    rw [this.1, this.2, hR]
  have hbl : (bodyOf sp).length ≤ 65537 := by
    have := says_len (V.getD 0 row0) ((R.map RowT.ts).getD 0 [])
    rw [hsv] at this; omega
  refine xl_callO 31 (tokY.d (bodyOf sp)) rfl rfl rfl rfl fn26 rfl rfl (fun E w F hs => by
    have := says_own (V.getD 0 row0) ((R.map RowT.ts).getD 0 []) w ((hT.2 0 hR1).imm hs.imm) (by omega)
    rw [hsv] at this
    exact this) ?_
  refine xl_go tt_ok ?_
  obtain ⟨r, hr⟩ : ∃ r, r = defR (bodyOf sp) := ⟨_, rfl⟩
  have hsm : MSm r.1 (bodyOf sp).length := by rw [hr]; exact defR_sm _
  rw [← hr]
  refine xl_callStar (fun s : MA => .tuple #[mVal r.1 s, .int .i64 r.2]) (fun s => mStar r.1 s) (fun _ => True) rfl rfl rfl rfl fn29 rfl rfl
    (fun E w F hs => by
      have h1 := hs.rowAt (k := 4) rfl
      obtain ⟨A, c, hv⟩ := h1.form
      show Calls Try.prog 29 #[E 4] w _
      rw [hv] at h1 ⊢
      rw [hr]
      exact define_any (bodyOf sp) A c w h1 (by omega) (fun t ht => Nat.le_trans (hbt t ht) (by decide))) (fun sm _ => ?_)
  refine xl_go tt_ok ?_
  refine xl_gcallF (.bool (mSame r.1 m (noP r.1) T)) rfl rfl rfl rfl fn33 rfl rfl (fun E w' F hs => macroSame_any r.1 m _ _ sm s w' (star_at hs (k := 5) rfl hsm (by omega)) ((hm.le hu1).imm hs.imm)) ?_
  refine xl_go tt_ok ?_
  refine x_if (fun h => ?_) (fun h => ?_)
  · have h : (decide (r.2 ≠ 0) || !mSame r.1 m (noP r.1) T) = true := h
    rw [if_pos h]
    exact fin1 (fun _ _ => rfl)
  · have h : (decide (r.2 ≠ 0) || !mSame r.1 m (noP r.1) T) = false := h
    rw [if_neg (by rw [h]; simp)]
    exact fin1 (fun _ _ => rfl)
end Go.Proofs.Ytdonomneofdhfaa
namespace Go.Proofs.Ytdonomneofdhfaa
open Go.GV Go.RowKit
def sAl : ByteArray := ⟨#[35, 100, 101, 102, 105, 110, 101, 32, 70, 40, 97, 44, 32, 98, 41, 32, 97, 32, 35, 35, 32, 98, 10]⟩
set_option maxRecDepth 100000 in
theorem al_f : (let r := definedR sAl; decide (r.2 = 0) && decide (r.1.name = ⟨#[70]⟩) && r.1.fn && !r.1.va && decide (r.1.ps.length = 2) && decide (r.1.ps.getD 1 ⟨#[]⟩ = ⟨#[98]⟩) && decide (r.1.body.length = 3) &&
    decide ((r.1.body.getD 1 pv0).text = ⟨#[35, 35]⟩) && !(r.1.body.getD 0 pv0).space && (r.1.body.getD 1 pv0).space) = true := by kernel_rfl
set_option maxHeartbeats 2000000 in
set_option maxRecDepth 100000 in
theorem alive5_any (w : World) (hg : Glob (im w)) : Calls Try.prog 78 #[] w (PureP w fun v _ => v = .bool true) := by
  have hf := al_f
  obtain ⟨r, hr⟩ : ∃ r, r = definedR sAl := ⟨_, rfl⟩
  simp only [← hr] at hf
  simp only [Bool.and_eq_true, decide_eq_true_eq, Bool.not_eq_true'] at hf
  obtain ⟨⟨⟨⟨⟨⟨⟨⟨⟨f1, f2⟩, f3⟩, f4⟩, f5⟩, f6⟩, f7⟩, f8⟩, f9⟩, f10⟩ := hf
  refine x_fun tt_ok Try.func78 rfl rfl [] 0 [] rfl rfl rfl rfl (fun b hb => by cases hb) ?_
  refine x_vc tt_ok ?_
  refine xl_callStar (fun s : MA => .tuple #[mVal r.1 s, .int .i64 r.2]) (fun s => mStar r.1 s) (fun _ => True) rfl rfl rfl rfl fn79 rfl rfl
    (fun E w' F hs => by rw [hr]; exact defined_any sAl w' (by decide) (hg.imm hs.imm)) (fun sm _ => ?_)
  refine xl_freezeStar 0 (sl := mStar r.1 sm) rfl (fun u1 hu1 hfr => ?_)
  have hps := (hfr _ (List.mem_cons_self ..)).1
  have hbd := (hfr _ (List.mem_cons_of_mem _ (List.mem_cons_self ..))).1
  refine xl_go tt_ok ?_
  refine xl_slG 31 rfl hps ?_
  refine xl_go tt_ok ?_
  repeat (refine And.intro ?_ ?_; first | omega | (simp only [Lay.d_n]; omega) | (simp only [decide_eq_true_eq, decide_eq_false_iff_not, Bool.or_eq_false_iff, Bool.and_eq_true, Bool.or_eq_true, Bool.and_eq_false_iff, Bool.not_eq_true', Bool.not_eq_false', Lay.d_n]; omega) | (simp only [decide_eq_true_eq, decide_eq_false_iff_not, Bool.or_eq_false_iff, Bool.and_eq_true, Bool.or_eq_true, Bool.and_eq_false_iff, Bool.not_eq_true', Bool.not_eq_false']; omega) | (simp only [decide_eq_true_eq, decide_eq_false_iff_not, Bool.or_eq_false_iff]; simp only [Lay.d_n]; omega))
  refine xl_slG 44 rfl hbd ?_
  refine xl_go tt_ok ?_
  repeat (refine And.intro ?_ ?_; first | omega | (simp only [Lay.d_n]; omega) | (simp only [decide_eq_true_eq, decide_eq_false_iff_not, Bool.or_eq_false_iff, Bool.and_eq_true, Bool.or_eq_true, Bool.and_eq_false_iff, Bool.not_eq_true', Bool.not_eq_false', Lay.d_n]; omega) | (simp only [decide_eq_true_eq, decide_eq_false_iff_not, Bool.or_eq_false_iff, Bool.and_eq_true, Bool.or_eq_true, Bool.and_eq_false_iff, Bool.not_eq_true', Bool.not_eq_false']; omega) | (simp only [decide_eq_true_eq, decide_eq_false_iff_not, Bool.or_eq_false_iff]; simp only [Lay.d_n]; omega))
  refine xl_slG 52 rfl hbd ?_
  refine xl_go tt_ok ?_
  repeat (refine And.intro ?_ ?_; first | omega | (simp only [Lay.d_n]; omega) | (simp only [decide_eq_true_eq, decide_eq_false_iff_not, Bool.or_eq_false_iff, Bool.and_eq_true, Bool.or_eq_true, Bool.and_eq_false_iff, Bool.not_eq_true', Bool.not_eq_false', Lay.d_n]; omega) | (simp only [decide_eq_true_eq, decide_eq_false_iff_not, Bool.or_eq_false_iff, Bool.and_eq_true, Bool.or_eq_true, Bool.and_eq_false_iff, Bool.not_eq_true', Bool.not_eq_false']; omega) | (simp only [decide_eq_true_eq, decide_eq_false_iff_not, Bool.or_eq_false_iff]; simp only [Lay.d_n]; omega))
  refine xl_slG 60 rfl hbd ?_
  refine xl_go tt_ok ?_
  repeat (refine And.intro ?_ ?_; first | (intros; omega) | (intros; simp only [Lay.d_n]; omega))
  refine fin1 (fun _ _ => ?_)
  show Value.bool (decide (r.2 = 0) && decide (r.1.name = ⟨#[70]⟩) && r.1.fn && !r.1.va && decide ((r.1.ps.length : Int) = 2) && decide (r.1.ps.getD 1 ⟨#[]⟩ = ⟨#[98]⟩) && decide ((r.1.body.length : Int) = 3) &&
    decide ((r.1.body.getD 1 pv0).text = ⟨#[35, 35]⟩) && !(r.1.body.getD 0 pv0).space && (r.1.body.getD 1 pv0).space) = .bool true
  rw [f1, f2, f3, f4, f5, f6, f7, f8, f9, f10]
  rfl
end Go.Proofs.Ytdonomneofdhfaa
namespace Go.Proofs.Ytdonomneofdhfaa
open Go.GV Go.RowKit
def dfnQ (s : ByteArray) : ByteArray := defB8 ++ s ++ ⟨#[10]⟩
def refB (s : ByteArray) : Bool := decide ((definedR (dfnQ s)).2 = 50) && mSame (definedR (dfnQ s)).1 m0 (noP (definedR (dfnQ s)).1) (noP m0)
theorem definedR_sm (s : ByteArray) : MSm (definedR s).1 65537 := by
  unfold definedR
  split
  · exact m0_sm _
  · rename_i h
    have hsz : ((rowsS s).getD 0 rowT0).ts.length ≤ 65537 := by
      have h1 := ts_size (R := rowsS s) 0
      rw [rowsS, (rowsOf_size (scanT s)).1] at h1
      have := scanT_len s
      rw [rowsS]; omega
    have hbl : (bodyOf s).length ≤ 65537 := Nat.le_trans (says_len _ _) hsz
    have := defR_sm (bodyOf s)
    exact ⟨Nat.le_trans this.ps hbl, Nat.le_trans this.body hbl, this.prt⟩
theorem nilAt {α : Type} (u : Im) (Y : Lay α) : SlAt u (.slice none 0 0) (Y.d []) := ⟨none, 0, rfl, Nat.le_refl _, by decide, fun h => by cases h⟩
theorem m0_at (u : Im) (nm : ByteArray) : MAt u ⟨nm, false, [], false, []⟩ [] (none, 0, none, 0) :=
  ⟨nilAt u _, nilAt u _, ⟨rfl, fun i hi => by cases hi⟩, Nat.zero_le _, Nat.zero_le _, fun i => by simp⟩
set_option maxHeartbeats 2000000 in
set_option maxRecDepth 100000 in
theorem refused_any (s : ByteArray) (w : World) (hs : s.size ≤ 140737488351232) (hg : Glob (im w)) : Calls Try.prog 80 #[.string s] w (PureP w fun v _ => v = .bool (refB s)) := by
  have hq : (dfnQ s).size ≤ 9223372036854775807 := by
    unfold dfnQ
    rw [ByteArray.size_append, ByteArray.size_append]
    show 8 + s.size + 1 ≤ _
    omega
  unfold refB
  obtain ⟨r, hr⟩ : ∃ r, r = definedR (dfnQ s) := ⟨_, rfl⟩
  have hsm : MSm r.1 65537 := by rw [hr]; exact definedR_sm _
  rw [← hr]
  refine x_fun tt_ok Try.func80 rfl rfl [] 0 [.v (.string s)] rfl rfl rfl rfl (fun b hb => by cases hb) ?_
  refine x_vc tt_ok ?_
  refine And.intro (by show 8 + s.size ≤ _; omega) ?_
  refine And.intro (by rw [ByteArray.size_append]; show 8 + s.size + 1 ≤ _; omega) ?_
  refine xl_callStar (fun s : MA => .tuple #[mVal r.1 s, .int .i64 r.2]) (fun s => mStar r.1 s) (fun _ => True) rfl rfl rfl rfl fn79 rfl rfl
    (fun E w' F hs => by rw [hr]; exact defined_any (dfnQ s) w' hq (hg.imm hs.imm)) (fun sm _ => ?_)
  refine xl_go tt_ok ?_
  refine xl_gcallF (.bool (mSame r.1 m0 (noP r.1) (noP m0))) rfl rfl rfl rfl fn33 rfl rfl (fun E w' F hs => macroSame_any r.1 m0 _ _ sm (none, 0, none, 0) w' (star_at hs (k := 0) rfl hsm (by omega)) (m0_at _ _)) ?_
  refine xl_go tt_ok ?_
  exact fin1 (fun _ _ => rfl)
end Go.Proofs.Ytdonomneofdhfaa
namespace Go.Proofs.Ytdonomneofdhfaa
open Go.GV Go.RowKit
theorem bodyUp_congr {B C : List PV} : ∀ {i : Nat}, (∀ j, j < i → (B.getD j pv0).space = (C.getD j pv0).space ∧ (B.getD j pv0).text = (C.getD j pv0).text) → bodyUp B i = bodyUp C i
  | 0, _ => rfl
  | i + 1, h => by
    have h1 := h i (Nat.lt_succ_self i)
    rw [bodyUp, bodyUp, bodyUp_congr (fun j hj => h j (Nat.lt_succ_of_lt hj)), ptL, ptL, h1.1, h1.2]
theorem line_same {a b : MT} {T S : List (List ByteArray)} (ha : a.body.length = T.length) (hb : b.body.length = S.length) (h : mSame a b T S = true) : lineL a = lineL b := by
  unfold mSame at h
  simp only [Bool.and_eq_true, decide_eq_true_eq] at h
  obtain ⟨⟨⟨⟨h1, h2⟩, h3⟩, h4⟩, h5⟩ := h
  have hl : a.body.length = b.body.length := by
    rw [← keys_len ha, ← keys_len hb, h5]
  have hu : bodyUp a.body a.body.length = bodyUp b.body b.body.length := by
    rw [← hl]
    refine bodyUp_congr fun j hj => ?_
    have k1 := keys_get ha hj
    have k2 := keys_get hb (hl ▸ hj)
    rw [h5, k2] at k1
    injection k1 with k3 k4 k5 k6
    exact ⟨k5.symm, k4.symm⟩
  unfold lineL headL parL parA parB parC
  rw [h1, h2, h3, h4, hu]
theorem noP_len (m : MT) : m.body.length = (noP m).length := by simp [noP]
theorem text_no {m : MT} {T : List (List ByteArray)} (h : (textR m T).2 ≠ 0) : (textR m T).1 = ⟨#[]⟩ := by
  unfold textR at *
  split
  · rfl
  · split
    · rfl
    · split
      · rfl
      · split
        · rfl
        · rename_i h1 h2 h3 h4
          rw [if_neg h1, if_neg h2, if_neg h3, if_neg h4] at h
          exact absurd rfl h
theorem text_yes {m : MT} {T : List (List ByteArray)} (hT : m.body.length = T.length) (h : (textR m T).2 = 0) :
    (definedR (textR m T).1).2 = 0 ∧ mSame (definedR (textR m T).1).1 m (noP (definedR (textR m T).1).1) T = true ∧
      lineL (definedR (textR m T).1).1 = lineL m ∧ textR (definedR (textR m T).1).1 (noP (definedR (textR m T).1).1) = ((textR m T).1, 0) := by
  by_cases h1 : spellE (lineT m) ≠ 0
  · unfold textR at h; rw [if_pos h1] at h; exact absurd h (by decide)
  by_cases h2 : scanE (spellS (lineT m)) ≠ 0
  · unfold textR at h; rw [if_neg h1, if_pos h2] at h; exact absurd h (by decide)
  by_cases h3 : ((rowsS (spellS (lineT m))).length : Int) ≠ 1
  · unfold textR at h; rw [if_neg h1, if_neg h2, if_pos h3] at h; exact absurd h (by decide)
  by_cases h4 : (decide ((defR (bodyOf (spellS (lineT m)))).2 ≠ 0) || !mSame (defR (bodyOf (spellS (lineT m)))).1 m (noP (defR (bodyOf (spellS (lineT m)))).1) T) = true
  · unfold textR at h; rw [if_neg h1, if_neg h2, if_neg h3, if_pos h4] at h; exact absurd h (by decide)
  have e : textR m T = (spellS (lineT m), 0) := by unfold textR; rw [if_neg h1, if_neg h2, if_neg h3, if_neg h4]
  rw [e]
  have ed : definedR (spellS (lineT m)) = defR (bodyOf (spellS (lineT m))) := by
    unfold definedR
    rw [if_neg (by rw [Bool.or_eq_true, decide_eq_true_eq, decide_eq_true_eq]; exact fun hh => hh.elim h2 h3)]
  simp only [ed]
  obtain ⟨r, hr⟩ : ∃ r, r = defR (bodyOf (spellS (lineT m))) := ⟨_, rfl⟩
  rw [← hr] at h4 ⊢
  rw [Bool.or_eq_true, decide_eq_true_eq, Bool.not_eq_true'] at h4
  have h5 : r.2 = 0 := Classical.byContradiction fun hh => h4 (.inl hh)
  have h6 : mSame r.1 m (noP r.1) T = true := by
    cases hh : mSame r.1 m (noP r.1) T with
    | true => rfl
    | false => exact absurd (.inr hh) h4
  have h7 : lineL r.1 = lineL m := line_same (noP_len _) hT h6
  have h8 : lineT r.1 = lineT m := by unfold lineT; rw [h7]
  refine ⟨h5, h6, h7, ?_⟩
  unfold textR
  rw [h8, if_neg h1, if_neg h2, if_neg h3, ← hr, mSame_refl, if_neg (by rw [h5]; simp)]
set_option maxHeartbeats 4000000 in
set_option maxRecDepth 100000 in
theorem macroBack_any (m : MT) (T : List (List ByteArray)) (s : MA) (w : World) (hm : MAt (im w) m T s) (hn : m.name.size ≤ 140737488355328) (hz : ∀ i, (m.body.getD i pv0).pn ≤ 140737488355328) (hg : Glob (im w)) :
    Calls Try.prog 22 #[mVal m s] w (PureP w fun v _ => v = .bool true) := by
  refine x_fun tt_ok Try.func22 rfl rfl [] 0 [.v (mVal m s)] rfl rfl rfl rfl (fun b hb => by cases hb) ?_
  refine x_vc tt_ok ?_
  refine xl_call0 (.bool true) rfl rfl rfl rfl fn78 rfl rfl (fun E w' F hs => alive5_any w' (hg.imm hs.imm)) ?_
  refine xl_go tt_ok ?_
  refine xl_call0 (.bool (greatB m)) rfl rfl rfl rfl fn82 rfl rfl (fun E w' F hs => great_any m s w' (hm.ps.imm hs.imm) (hm.body.imm hs.imm) hn hz) ?_
  refine xl_go tt_ok ?_
  refine x_if (fun h => ?_) (fun h => ?_)
  · exact fin1 (fun _ _ => rfl)
  have h : (greatB m || !true) = false := h
  rw [Bool.not_true, Bool.or_false] at h
  obtain ⟨l1, l2, l3⟩ := great_line hz h
  clear h
  obtain ⟨q, hq⟩ : ∃ q, q = textR m T := ⟨_, rfl⟩
  refine xl_call0 (.tuple #[.string q.1, .int .i64 q.2]) rfl rfl rfl rfl fn81 rfl rfl (fun E w' F hs => by
    rw [hq]
    exact text_any m T s w' ⟨hm.ps.imm hs.imm, hm.body.imm hs.imm, hm.parts.imm hs.imm, hm.z1, hm.z2, hm.z3⟩ (by omega) (by omega) (hg.imm hs.imm)) ?_
  refine xl_go tt_ok ?_
  refine x_if (fun h => ?_) (fun h => ?_)
  · have h : q.2 ≠ 0 := of_decide_eq_true h
    have := text_no (m := m) (T := T) (by rw [← hq]; exact h)
    rw [← hq] at this
    refine fin1 (fun _ _ => ?_)
    show Value.bool (decide (q.1 = ⟨#[]⟩)) = _
    rw [this]; rfl
  have h : q.2 = 0 := Classical.not_not.1 (of_decide_eq_false h)
  have hy := text_yes hm.parts.1 (by rw [← hq]; exact h)
  rw [← hq] at hy
  have hqs : q.1.size ≤ 65536 := by
    rw [hq]
    unfold textR
    split
    · decide
    · split
      · decide
      · split
        · decide
        · split
          · decide
          · exact spellS_size _
  obtain ⟨r, hr⟩ : ∃ r, r = definedR q.1 := ⟨_, rfl⟩
  have hsm : MSm r.1 65537 := by rw [hr]; exact definedR_sm _
  rw [← hr] at hy
  obtain ⟨y1, y2, y3, y4⟩ := hy
  refine xl_callStar (fun s : MA => .tuple #[mVal r.1 s, .int .i64 r.2]) (fun s => mStar r.1 s) (fun _ => True) rfl rfl rfl rfl fn79 rfl rfl
    (fun E w' F hs => by rw [hr]; exact defined_any q.1 w' (by omega) (hg.imm hs.imm)) (fun sm _ => ?_)
  refine xl_go tt_ok ?_
  refine xl_call0 (.tuple #[.string q.1, .int .i64 0]) rfl rfl rfl rfl fn81 rfl rfl (fun E w' F hs => by
    have := text_any r.1 (noP r.1) sm w' (star_at hs (k := 1) rfl hsm (by omega)) (Nat.le_trans hsm.ps (by decide)) (by rw [y3]; omega) (hg.imm hs.imm)
    rw [y4] at this
    exact this) ?_
  refine xl_go tt_ok ?_
  refine xl_gcallF (.bool true) rfl rfl rfl rfl fn33 rfl rfl (fun E w' F hs => by
    have := macroSame_any r.1 m _ _ sm s w' (star_at hs (k := 1) rfl hsm (by omega)) ⟨hm.ps.imm hs.imm, hm.body.imm hs.imm, hm.parts.imm hs.imm, hm.z1, hm.z2, hm.z3⟩
    rw [y2] at this
    exact this) ?_
  refine xl_go tt_ok ?_
  refine fin1 (fun _ _ => ?_)
  show Value.bool (decide (r.2 = 0) && true && decide ((0 : Int) = 0) && decide (q.1 = q.1)) = .bool true
  rw [y1]; simp
end Go.Proofs.Ytdonomneofdhfaa
namespace Go.Proofs.Ytdonomneofdhfaa
open Go.GV Go.RowKit
section
variable {H : Type} {enc : TypeId × Value → H} {w : World}
def tokAt (u : Im) (x : Value) (i : Int) : Tok := ⟨vInt (cellAt u x 5 i 0), vStr (cellAt u x 5 i 1), vInt (cellAt u x 5 i 2), vInt (cellAt u x 5 i 3), vBool (cellAt u x 5 i 4)⟩
def toksAt (u : Im) (x : Value) : List Tok := (List.range (vN x)).map fun i : Nat => tokAt u x i
theorem toksAt_getD (u : Im) (x : Value) {i : Nat} (h : i < vN x) : (toksAt u x).getD i tok0 = tokAt u x i := by
  rw [List.getD_eq_getElem?_getD]
  simp [toksAt, h]
theorem open_toks {x : Value} (h : Tr enc Try.prog w 22 [x]) : SlAt (im w) x (tokY.d (toksAt (im w) x)) := by
  obtain ⟨A, n, c, h1, h2, h3, h4⟩ := h.slice Try.underlying22 (by kernel_rfl : _ = 5)
  have hn : vN x = n := by rw [h1]; rfl
  refine h3.ext (by simp [dataAt, Lay.d, toksAt, hn]) rfl fun i hi j f f' hf hf' => ?_
  have hi' : i < n := hi
  obtain ⟨_, hc⟩ := (h4 i (by omega) (by omega)).strct Try.underlying31 (by kernel_rfl)
  have hg := toksAt_getD (im w) x (i := i) (by omega)
  obtain ⟨k0, e0, _⟩ := (hc 0 _ _ rfl rfl).int Try.underlying3
  obtain ⟨k1, e1, _⟩ := (hc 1 _ _ rfl rfl).str Try.underlying9
  obtain ⟨k2, e2, _⟩ := (hc 2 _ _ rfl rfl).int Try.underlying3
  obtain ⟨k3, e3, _⟩ := (hc 3 _ _ rfl rfl).int Try.underlying3
  obtain ⟨k4, e4⟩ := (hc 4 _ _ rfl rfl).bool Try.underlying4
  simp only [List.cons.injEq, and_true] at e0 e1 e2 e3 e4
  have hg' : (toksAt (im w) x).getD (i : Int).toNat tok0 = tokAt (im w) x i := hg
  match j, hf, hf' with
  | 0, hf, hf' =>
    cases hf; cases hf'
    show cellAt (im w) x 5 i 0 = .int .i64 ((toksAt (im w) x).getD (i : Int).toNat tok0).kind
    rw [hg']; simp only [tokAt, e0, vInt]
  | 1, hf, hf' =>
    cases hf; cases hf'
    show cellAt (im w) x 5 i 1 = .string ((toksAt (im w) x).getD (i : Int).toNat tok0).text
    rw [hg']; simp only [tokAt, e1, vStr]
  | 2, hf, hf' =>
    cases hf; cases hf'
    show cellAt (im w) x 5 i 2 = .int .i64 ((toksAt (im w) x).getD (i : Int).toNat tok0).lo
    rw [hg']; simp only [tokAt, e2, vInt]
  | 3, hf, hf' =>
    cases hf; cases hf'
    show cellAt (im w) x 5 i 3 = .int .i64 ((toksAt (im w) x).getD (i : Int).toNat tok0).hi
    rw [hg']; simp only [tokAt, e3, vInt]
  | 4, hf, hf' =>
    cases hf; cases hf'
    show cellAt (im w) x 5 i 4 = .bool ((toksAt (im w) x).getD (i : Int).toNat tok0).space
    rw [hg']; simp only [tokAt, e4, vBool]
  | j + 5, hf, hf' => simp [Lay.d] at hf'
theorem toksAt_length (u : Im) (x : Value) : (toksAt u x).length = vN x := by simp [toksAt]
def rowAt (u : Im) (x : Value) (i : Int) : RowV :=
  ⟨vBool (cellAt u x 3 i 0), vStr (cellAt u x 3 i 1), vA (cellAt u x 3 i 2), vN (cellAt u x 3 i 2), vC (cellAt u x 3 i 2)⟩
def rowsAt (u : Im) (x : Value) : List RowV := (List.range (vN x)).map fun i : Nat => rowAt u x i
def rowToksAt (u : Im) (x : Value) : List (List Tok) := (List.range (vN x)).map fun i : Nat => toksAt u (cellAt u x 3 i 2)
theorem rowsAt_length (u : Im) (x : Value) : (rowsAt u x).length = vN x := by simp [rowsAt]
theorem rowsAt_getD (u : Im) (x : Value) {i : Nat} (h : i < vN x) : (rowsAt u x).getD i row0 = rowAt u x i := by
  rw [List.getD_eq_getElem?_getD]
  simp [rowsAt, h]
theorem rowToksAt_getD (u : Im) (x : Value) {i : Nat} (h : i < vN x) : (rowToksAt u x).getD i [] = toksAt u (cellAt u x 3 i 2) := by
  rw [List.getD_eq_getElem?_getD]
  simp [rowToksAt, h]
theorem open_toksZ {x : Value} (h : TrZ enc Try.prog w 22 [x]) : ∃ A n c, x = .slice A n c ∧ SlAt (im w) x (tokY.d (toksAt (im w) x)) ∧ n * 48 ≤ 140737488355328 := by
  obtain ⟨A, n, c, h1, _, h2, _, _⟩ := h.slice Try.underlying22 (by kernel_rfl : _ = 5)
  have hb : Try.prog.bytesOf 31 = 48 := by kernel_rfl
  rw [hb] at h2
  exact ⟨A, n, c, h1, open_toks h.tr, h2⟩
theorem open_rows {x : Value} (h : TrZ enc Try.prog w 23 [x]) : SlAt (im w) x (rowY.d (rowsAt (im w) x)) ∧ ToksAt (im w) (rowsAt (im w) x) (rowToksAt (im w) x) ∧
    (rowsAt (im w) x).length * 48 ≤ 140737488355328 ∧ ∀ i : Nat, ((rowToksAt (im w) x).getD i []).length * 48 ≤ 140737488355328 := by
  obtain ⟨A, n, c, h1, h2, hz, h3, h4⟩ := h.slice Try.underlying23 (by kernel_rfl : _ = 3)
  have hn : vN x = n := by rw [h1]; rfl
  have cell : ∀ i : Nat, i < n → (∃ b, cellAt (im w) x 3 i 0 = .bool b) ∧ (∃ s, cellAt (im w) x 3 i 1 = .string s) ∧ TrZ enc Try.prog w 22 [cellAt (im w) x 3 i 2] := by
    intro i hi
    obtain ⟨_, hc⟩ := (h4 i (by omega) (by omega)).strct Try.underlying28 (by kernel_rfl)
    obtain ⟨k0, e0⟩ := (hc 0 _ _ rfl rfl).tr.bool Try.underlying4
    obtain ⟨k1, e1, _⟩ := (hc 1 _ _ rfl rfl).tr.str Try.underlying9
    exact ⟨⟨k0, by simpa using e0⟩, ⟨k1, by simpa using e1⟩, hc 2 _ _ rfl rfl⟩
  have htok : ∀ i : Nat, i < n → (rowAt (im w) x i).toks = cellAt (im w) x 3 i 2 := fun i hi => by
    obtain ⟨_, _, hp⟩ := cell i hi
    obtain ⟨A', n', c', e, _⟩ := open_toksZ hp
    simp only [RowV.toks, rowAt, e, vA, vN, vC]
  refine ⟨?_, ⟨by simp [rowsAt, rowToksAt], fun i hi => ?_⟩, ?_, fun i => ?_⟩
  · refine h3.ext (by simp [dataAt, Lay.d, rowsAt, hn]) rfl fun i hi j f f' hf hf' => ?_
    have hi' : i < n := hi
    have hg : (rowsAt (im w) x).getD (i : Int).toNat row0 = rowAt (im w) x i := rowsAt_getD (im w) x (i := i) (by omega)
    obtain ⟨⟨b, hb⟩, ⟨s, hs⟩, hp⟩ := cell i hi'
    match j, hf, hf' with
    | 0, hf, hf' =>
      cases hf; cases hf'
      show cellAt (im w) x 3 i 0 = .bool ((rowsAt (im w) x).getD (i : Int).toNat row0).dir
      rw [hg]; simp only [rowAt, hb, vBool]
    | 1, hf, hf' =>
      cases hf; cases hf'
      show cellAt (im w) x 3 i 1 = .string ((rowsAt (im w) x).getD (i : Int).toNat row0).name
      rw [hg]; simp only [rowAt, hs, vStr]
    | 2, hf, hf' =>
      cases hf; cases hf'
      show cellAt (im w) x 3 i 2 = ((rowsAt (im w) x).getD (i : Int).toNat row0).toks
      rw [hg, htok i hi']
    | j + 3, hf, hf' => simp [Lay.d] at hf'
  · rw [rowsAt_length, hn] at hi
    rw [rowsAt_getD _ _ (by omega), rowToksAt_getD _ _ (by omega), htok i hi]
    obtain ⟨_, _, hp⟩ := cell i hi
    obtain ⟨A', n', c', e, e2, _⟩ := open_toksZ hp
    exact e2
  · rw [rowsAt_length, hn]
    have hb : Try.prog.bytesOf 28 = 48 := by kernel_rfl
    rw [hb] at hz
    exact hz
  · rcases Nat.lt_or_ge i n with hi | hi
    · obtain ⟨_, _, hp⟩ := cell i hi
      obtain ⟨A', n', c', e, e2, e3⟩ := open_toksZ hp
      rw [rowToksAt_getD _ _ (by omega), toksAt_length, e]
      exact e3
    · have : (rowToksAt (im w) x).getD i [] = [] := by
        rw [List.getD_eq_getElem?_getD, List.getElem?_eq_none (by simp [rowToksAt]; omega)]; rfl
      rw [this]; simp
end
end Go.Proofs.Ytdonomneofdhfaa
