/- Whether two lists of rows say the same: the document's answer. -/
import Derived.Test.YtebnccdegjdfiaaA2
namespace Go.Proofs.Ytebnccdegjdfiaa
open Go.GV Go.RowKit

theorem ItAt.push {u : Im} {I : List It} {p : It} (h : ItAt u I) (hp : SlAt u p.1.toks (tokY.d p.2)) : ItAt u (I ++ [p]) := by
  intro i hi
  simp only [List.length_append, List.length_cons, List.length_nil] at hi
  simp only [List.getD_eq_getElem?_getD]
  rcases Nat.lt_or_ge i I.length with hlt | hge
  · rw [List.getElem?_append_left hlt]
    have := h i hlt
    simpa only [List.getD_eq_getElem?_getD] using this
  · have e : i = I.length := by omega
    subst e
    rw [show (I ++ [p])[I.length]? = some p by simp]
    exact hp

theorem nb_le (I : List It) : (nb I).length ≤ I.length := List.length_filter_le ..

set_option maxRecDepth 100000 in
theorem less_any (I : List It) (x : Value) (w : World) (hx : SlAt (im w) x (itY.d I)) (hI : ItAt (im w) I) (zI : ItSm I) (hL : I.length * 48 ≤ 140737488355328) :
    Calls Try.prog 46 #[x] w (PureP w fun v u => OwnAt u v 43 (itY.d (nb I))) := by
  refine x_fun tt_ok Try.func46 rfl rfl [(x, itY.d I)] 1 [.r 0] rfl rfl rfl rfl (fun b hb => by simp at hb; subst hb; exact hx) ?_
  refine x_vc tt_ok ?_
  refine x_nil 3 43 itY rfl ?_
  refine x_loop (σ := Int × List It) (fun (i, out) => ⟨[(4, .v (.int .i64 i)), (0, .r 0), (3, .r 2)], [], [(0, .sl (itY.d I)), (2, .row 43 (itY.d out))], 3⟩)
    (fun (i, out) _ => 0 ≤ i ∧ i ≤ I.length ∧ out.length ≤ i ∧ out ++ nb (I.drop i.toNat) = nb I) (fun (i, _) => (I.length - i).toNat) (fun (_, _) => by simp only; omega) (0, []) [(2, some 1)] (.of rfl rfl rfl rfl rfl rfl)
    ⟨by omega, by omega, by simp, by simp⟩ ?_
  rintro ⟨i, out⟩ u hu ⟨g1, g2, g3, g4⟩
  refine x_vc tt_ok ?_
  refine x_if (fun h => ?_) (fun h => ?_)
  · have h2 : i < I.length := of_decide_eq_true h
    rw [drop_at (d := it0) g1 h2] at g4
    repeat (refine And.intro ?_ ?_; first | omega | (simp only [Lay.d_n]; omega) | (simp only [decide_eq_true_eq, decide_eq_false_iff_not]; simp only [Lay.d_n]; omega) | (simp [Lay.d] <;> omega))
    refine xl_callV (tokY.d (bareFrom false (I.getD i.toNat it0).2)) rfl rfl rfl rfl fn16 rfl rfl (fun E w F hs => refBare_sl (I.getD i.toNat it0).2 _ w (((hI i.toNat (by omega)).le hu).imm hs.imm) (zI _)) (fun A c u2 hu2 hb1 => ?_)
    refine xl_go tt_ok ?_
    repeat (refine And.intro ?_ ?_; first | omega | (simp only [Lay.d_n]; omega) | (simp only [decide_eq_true_eq, decide_eq_false_iff_not]; simp only [Lay.d_n]; omega) | (simp [Lay.d] <;> omega))
    have e : blank (I.getD i.toNat it0) = !((I.getD i.toNat it0).1.dir || decide (0 < ((bareFrom false (I.getD i.toNat it0).2).length : Int))) := by
      rw [blank, Bool.not_or]
      congr 1
      rcases Nat.eq_zero_or_pos (bareFrom false (I.getD i.toNat it0).2).length with h0 | h0
      · rw [decide_eq_true (by omega), decide_eq_false (by omega)]; rfl
      · rw [decide_eq_false (by omega), decide_eq_true (by omega)]; rfl
    refine x_if (fun h7 => ?_) (fun h7 => ?_)
    · have h8 : ((I.getD i.toNat it0).1.dir || decide (0 < ((bareFrom false (I.getD i.toNat it0).2).length : Int))) = true := h7
      rw [h8] at e
      rw [nb_not e] at g4
      repeat (refine And.intro ?_ ?_; first | omega | (simp only [Lay.d_n]; omega) | (simp only [decide_eq_true_eq, decide_eq_false_iff_not]; simp only [Lay.d_n]; omega) | (simp [Lay.d] <;> omega))
      refine xl_push tt_ok itY out (I.getD i.toNat it0) 48 rfl rfl rfl rfl rfl rfl rfl rfl rfl rfl rfl rfl (by kernel_rfl) rfl rfl rfl rfl rfl (fun n hn => by cases hn; decide) rfl rfl rfl (by omega) (by omega) ?_
      refine xl_go tt_ok ?_
      repeat (refine And.intro ?_ ?_; first | omega | (simp only [Lay.d_n]; omega) | (simp only [decide_eq_true_eq, decide_eq_false_iff_not]; simp only [Lay.d_n]; omega) | (simp [Lay.d] <;> omega))
      refine again (i + 1, out ++ [(I.getD i.toNat it0)]) [(2, some 3)] (.of rfl rfl rfl rfl rfl rfl) ⟨by omega, by omega, by simp; omega, ?_⟩ (by simp only; omega)
      rw [List.append_assoc]
      exact g4
    · have h8 : ((I.getD i.toNat it0).1.dir || decide (0 < ((bareFrom false (I.getD i.toNat it0).2).length : Int))) = false := h7
      rw [h8] at e
      rw [nb_blank e] at g4
      repeat (refine And.intro ?_ ?_; first | omega | (simp only [Lay.d_n]; omega) | (simp only [decide_eq_true_eq, decide_eq_false_iff_not]; simp only [Lay.d_n]; omega) | (simp [Lay.d] <;> omega))
      exact again (i + 1, out) [] (.of rfl rfl rfl rfl rfl rfl) ⟨by omega, by omega, by omega, g4⟩ (by simp only; omega)
  · have h2 : ¬ (i < (I.length : Int)) := of_decide_eq_false h
    have e : I.drop i.toNat = [] := List.drop_eq_nil_of_le (by omega)
    rw [e] at g4
    have e2 : nb I = out := by rw [← g4]; simp [nb]
    rw [e2]
    exact finO rfl

theorem getD_memOr {α : Type} (L : List α) (i : Nat) (d : α) : L.getD i d ∈ L ∨ L.getD i d = d := by
  rw [List.getD_eq_getElem?_getD]
  rcases Nat.lt_or_ge i L.length with h | h
  · rw [List.getElem?_eq_getElem h]; exact .inl (List.getElem_mem h)
  · rw [List.getElem?_eq_none h]; exact .inr rfl

theorem mem_getD {α : Type} {L : List α} {x : α} (d : α) (h : x ∈ L) : ∃ i : Nat, i < L.length ∧ L.getD i d = x := by
  obtain ⟨i, hi, e⟩ := List.mem_iff_getElem.1 h
  exact ⟨i, hi, by rw [List.getD_eq_getElem?_getD, List.getElem?_eq_getElem hi]; exact e⟩

theorem ItAt.nb {u : Im} {I : List It} (h : ItAt u I) : ItAt u (nb I) := fun i hi => by
  have hm : (Go.Proofs.Ytebnccdegjdfiaa.nb I).getD i it0 ∈ I := by
    rw [List.getD_eq_getElem?_getD, List.getElem?_eq_getElem hi]
    exact (List.mem_filter.1 (List.getElem_mem hi)).1
  obtain ⟨j, hj, e⟩ := mem_getD it0 hm
  rw [← e]
  exact h j hj

theorem ItSm.nb {I : List It} (h : ItSm I) : ItSm (nb I) := fun i => by
  rcases getD_memOr (Go.Proofs.Ytebnccdegjdfiaa.nb I) i it0 with hm | hm
  · obtain ⟨j, hj, e⟩ := mem_getD it0 (List.mem_filter.1 hm).1
    rw [← e]; exact h j
  · rw [hm]; decide

theorem all2_len {α β : Type} (f : α → β → Bool) : ∀ (L : List α) (M : List β), L.length ≠ M.length → all2 f L M = false
  | [], [], h => absurd rfl h
  | [], _ :: _, _ => rfl
  | _ :: _, [], _ => rfl
  | a :: x, b :: y, h => by
    simp only [all2]
    rw [all2_len f x y (fun e => h (by simp [e])), Bool.and_false]

theorem says_le (p : It) : (says p).length ≤ p.2.length := by
  have h12 := bareFrom_le false p.2
  unfold says saysV
  split
  · rw [List.length_drop]; omega
  · exact h12

theorem tokEq_no {s : Bool} {a b : Tok} (h : (decide (a.kind ≠ b.kind) || decide (a.text ≠ b.text)) = true) : tokEqB s a b = false := by
  rw [Bool.or_eq_true, decide_eq_true_eq, decide_eq_true_eq] at h
  unfold tokEqB
  rcases h with h | h
  · rw [decide_eq_false h]; rfl
  · rw [decide_eq_false h]; simp

theorem tokEq_sp {s : Bool} {a b : Tok} (h : (decide (a.kind ≠ b.kind) || decide (a.text ≠ b.text)) = false) : tokEqB s a b = !(s && decide (a.space ≠ b.space)) := by
  rw [Bool.or_eq_false_iff, decide_eq_false_iff_not, decide_eq_false_iff_not, Classical.not_not, Classical.not_not] at h
  unfold tokEqB
  rw [decide_eq_true h.1, decide_eq_true h.2]
  cases s <;> cases a.space <;> cases b.space <;> rfl

set_option maxRecDepth 100000 in
theorem refAlike_any (keep : Bool) (I J : List It) (x y : Value) (w : World) (hx : SlAt (im w) x (itY.d I)) (hy : SlAt (im w) y (itY.d J)) (hI : ItAt (im w) I) (hJ : ItAt (im w) J) (zI : ItSm I) (zJ : ItSm J)
    (hL : I.length * 48 ≤ 140737488355328) (hM : J.length * 48 ≤ 140737488355328) :
    Calls Try.prog 24 #[x, y, .bool keep] w (PureP w fun v _ => v = .bool (alikeV keep I J)) := by
  have nI := nb_le I
  have nJ := nb_le J
  have hI' := hI.nb
  have hJ' := hJ.nb
  have zI' := zI.nb
  have zJ' := zJ.nb
  refine x_fun tt_ok Try.func24 rfl rfl [(x, itY.d I), (y, itY.d J)] 2 [.r 0, .r 1, .v (.bool keep)] rfl rfl rfl rfl (fun b hb => by simp at hb; rcases hb with rfl | rfl <;> assumption) ?_
  refine x_vc tt_ok ?_
  refine xl_callO 43 (itY.d (nb I)) rfl rfl rfl rfl fn46 rfl rfl (fun E w F hs => less_any I _ w (hs.slAt (k := 0) rfl) (hI.sub ⟨fun b o hb => hs.imm.h b o hb⟩) zI hL) ?_
  refine xl_go tt_ok ?_
  refine xl_callO 43 (itY.d (nb J)) rfl rfl rfl rfl fn46 rfl rfl (fun E w F hs => less_any J _ w (hs.slAt (k := 1) rfl) (hJ.sub ⟨fun b o hb => hs.imm.h b o hb⟩) zJ hM) ?_
  refine xl_go tt_ok ?_
  refine x_if (fun h => ?_) (fun h => ?_)
  · refine fin1 (fun _ _ => ?_)
    have h' : ¬ (((nb I).length : Int) = (nb J).length) := of_decide_eq_true h
    rw [alikeV, all2_len _ _ _ (by omega)]; rfl
  · have h' : ¬ ¬ (((nb I).length : Int) = (nb J).length) := of_decide_eq_false h
    have hl : (nb I).length = (nb J).length := by omega
    refine x_loop (σ := Int) (fun i => ⟨[(9, .v (.int .i64 i)), (7, .r 2), (8, .r 3), (2, .v (.bool keep))], [], [(2, .row 43 (itY.d (nb I))), (3, .row 43 (itY.d (nb J)))], 4⟩)
      (fun i _ => 0 ≤ i ∧ i ≤ (nb I).length ∧ all2 (relR keep) ((nb I).drop i.toNat) ((nb J).drop i.toNat) = alikeV keep I J) (fun i => ((nb I).length - i).toNat) (fun _ => Nat.le_refl _) 0 [] (.of rfl rfl rfl rfl rfl rfl) ⟨by omega, by omega, by simp [alikeV]⟩ ?_
    rintro i u hu ⟨g1, g2, g3⟩
    refine x_vc tt_ok ?_
    refine x_if (fun h => ?_) (fun h => ?_)
    · have h2 : i < (nb I).length := of_decide_eq_true h
      rw [drop_at (d := it0) g1 h2, drop_at (d := it0) g1 (by omega : i < (nb J).length)] at g3
      simp only [all2, relR] at g3
      repeat (refine And.intro ?_ ?_; first | omega | (simp only [Lay.d_n]; omega) | (simp only [decide_eq_true_eq, decide_eq_false_iff_not]; simp only [Lay.d_n]; omega) | (simp [Lay.d] <;> omega))
      refine xl_callV (tokY.d (says ((nb I).getD i.toNat it0))) rfl rfl rfl rfl fn28 rfl rfl (fun E w F hs => refSays_any ((nb I).getD i.toNat it0).1 ((nb I).getD i.toNat it0).2 w (((hI' i.toNat (by omega)).le hu).imm hs.imm) (zI' _)) (fun A c u2 hu2 hb1 => ?_)
      refine xl_go tt_ok ?_
      repeat (refine And.intro ?_ ?_; first | omega | (simp only [Lay.d_n]; omega) | (simp only [decide_eq_true_eq, decide_eq_false_iff_not]; simp only [Lay.d_n]; omega) | (simp [Lay.d] <;> omega))
      refine xl_callV (tokY.d (says ((nb J).getD i.toNat it0))) rfl rfl rfl rfl fn28 rfl rfl (fun E w F hs => refSays_any ((nb J).getD i.toNat it0).1 ((nb J).getD i.toNat it0).2 w (((hJ' i.toNat (by omega)).le (hu.trans hu2)).imm hs.imm) (zJ' _)) (fun A2 c2 u3 hu3 hb2 => ?_)
      refine xl_go tt_ok ?_
      refine x_draw mix (by kernel_rfl) (xd_go tt_ok ?_)
      repeat (refine And.intro ?_ ?_; first | omega | (simp only [Lay.d_n]; omega) | (simp only [decide_eq_true_eq, decide_eq_false_iff_not]; simp only [Lay.d_n]; omega) | (simp [Lay.d] <;> omega))
      refine x_if (fun h9 => ?_) (fun h9 => ?_)
      · have h10 : ((decide (((nb I).getD i.toNat it0).1.dir ≠ ((nb J).getD i.toNat it0).1.dir) || decide (((nb I).getD i.toNat it0).1.name ≠ ((nb J).getD i.toNat it0).1.name)) || decide (((says ((nb I).getD i.toNat it0)).length : Int) ≠ ((says ((nb J).getD i.toNat it0)).length : Int))) = true := h9
        rw [Bool.or_eq_true, Bool.or_eq_true, decide_eq_true_eq, decide_eq_true_eq, decide_eq_true_eq] at h10
        refine fin1 (fun _ _ => ?_)
        rw [← g3]
        rcases h10 with (h10 | h10) | h10
        · rw [decide_eq_false h10]; rfl
        · rw [decide_eq_false h10]; simp [tupV, SV.den]
        · rw [eqToks, eqFrom_len _ _ _ _ (by omega)]; simp [tupV, SV.den]
      · have h10 : ((decide (((nb I).getD i.toNat it0).1.dir ≠ ((nb J).getD i.toNat it0).1.dir) || decide (((nb I).getD i.toNat it0).1.name ≠ ((nb J).getD i.toNat it0).1.name)) || decide (((says ((nb I).getD i.toNat it0)).length : Int) ≠ ((says ((nb J).getD i.toNat it0)).length : Int))) = false := h9
        rw [Bool.or_eq_false_iff, Bool.or_eq_false_iff, decide_eq_false_iff_not, decide_eq_false_iff_not, decide_eq_false_iff_not, Classical.not_not, Classical.not_not, Classical.not_not] at h10
        rw [decide_eq_true h10.1.1, decide_eq_true h10.1.2, Bool.true_and, Bool.true_and] at g3
        have hln : (says ((nb I).getD i.toNat it0)).length = (says ((nb J).getD i.toNat it0)).length := by omega
        have hs1 := says_le ((nb I).getD i.toNat it0)
        have hs2 := zI' i.toNat
        repeat (refine And.intro ?_ ?_; first | omega | (simp only [Lay.d_n]; omega) | (simp only [decide_eq_true_eq, decide_eq_false_iff_not]; simp only [Lay.d_n]; omega) | (simp [Lay.d] <;> omega))
        refine x_sl 10 rfl (hb1.uncut.le hu3) (x_sl 11 rfl hb2.uncut ?_)
        refine x_loop (σ := Int) (fun k => ⟨[(12, .v (.int .i64 k)), (10, .r 4), (11, .r 5), (9, .v (.int .i64 i)), (7, .r 2), (8, .r 3), (2, .v (.bool keep))], [],
            [(2, .row 43 (itY.d (nb I))), (3, .row 43 (itY.d (nb J))), (4, .sl (tokY.d (says ((nb I).getD i.toNat it0)))), (5, .sl (tokY.d (says ((nb J).getD i.toNat it0))))], 6⟩)
          (fun k _ => 0 ≤ k ∧ k ≤ (says ((nb I).getD i.toNat it0)).length ∧ eqFrom (keep || (((nb I).getD i.toNat it0).1.dir && decide (((nb I).getD i.toNat it0).1.name = sDefine))) (!decide (0 < k)) ((says ((nb I).getD i.toNat it0)).drop k.toNat) ((says ((nb J).getD i.toNat it0)).drop k.toNat) = eqToks (keep || (((nb I).getD i.toNat it0).1.dir && decide (((nb I).getD i.toNat it0).1.name = sDefine))) (says ((nb I).getD i.toNat it0)) (says ((nb J).getD i.toNat it0))) (fun k => ((says ((nb I).getD i.toNat it0)).length - k).toNat) (fun _ => Nat.le_refl _) 0 [] (.of rfl rfl rfl rfl rfl rfl)
          ⟨by omega, by omega, by simp [eqToks]⟩ ?_
        rintro k u4 hu4 ⟨k1, k2, k3⟩
        refine x_vc tt_ok ?_
        refine x_if (fun h11 => ?_) (fun h11 => ?_)
        · have h12 : k < (says ((nb I).getD i.toNat it0)).length := of_decide_eq_true h11
          rw [drop_at (d := tok0) k1 h12, drop_at (d := tok0) k1 (by omega : k < (says ((nb J).getD i.toNat it0)).length)] at k3
          simp only [eqFrom, Bool.not_not] at k3
          refine x_draw mix (by kernel_rfl) (xd_go tt_ok ?_)
          repeat (refine And.intro ?_ ?_; first | omega | (simp only [Lay.d_n]; omega) | (simp only [decide_eq_true_eq, decide_eq_false_iff_not]; simp only [Lay.d_n]; omega) | (simp [Lay.d] <;> omega))
          refine x_if (fun h13 => ?_) (fun h13 => ?_)
          · have h14 : (decide (((says ((nb I).getD i.toNat it0)).getD k.toNat tok0).kind ≠ ((says ((nb J).getD i.toNat it0)).getD k.toNat tok0).kind) || decide (((says ((nb I).getD i.toNat it0)).getD k.toNat tok0).text ≠ ((says ((nb J).getD i.toNat it0)).getD k.toNat tok0).text)) = true := h13
            rw [tokEq_no h14, Bool.false_and] at k3
            rw [← k3, Bool.false_and] at g3
            refine fin1 (fun _ _ => ?_)
            rw [← g3]; rfl
          · have h14 : (decide (((says ((nb I).getD i.toNat it0)).getD k.toNat tok0).kind ≠ ((says ((nb J).getD i.toNat it0)).getD k.toNat tok0).kind) || decide (((says ((nb I).getD i.toNat it0)).getD k.toNat tok0).text ≠ ((says ((nb J).getD i.toNat it0)).getD k.toNat tok0).text)) = false := h13
            rw [tokEq_sp h14] at k3
            repeat (refine And.intro ?_ ?_; first | omega | (simp only [Lay.d_n]; omega) | (simp only [decide_eq_true_eq, decide_eq_false_iff_not]; simp only [Lay.d_n]; omega) | (simp [Lay.d] <;> omega))
            refine x_draw mix (by kernel_rfl) (xd_go tt_ok ?_)
            repeat (refine And.intro ?_ ?_; first | omega | (simp only [Lay.d_n]; omega) | (simp only [decide_eq_true_eq, decide_eq_false_iff_not]; simp only [Lay.d_n]; omega) | (simp [Lay.d] <;> omega))
            refine x_if (fun h15 => ?_) (fun h15 => ?_)
            · have h16 : ((decide (((says ((nb I).getD i.toNat it0)).getD k.toNat tok0).space ≠ ((says ((nb J).getD i.toNat it0)).getD k.toNat tok0).space) && decide (0 < k)) && (keep || (((nb I).getD i.toNat it0).1.dir && decide (((nb I).getD i.toNat it0).1.name = sDefine)))) = true := h15
              have h17 : (((keep || (((nb I).getD i.toNat it0).1.dir && decide (((nb I).getD i.toNat it0).1.name = sDefine))) && decide (0 < k)) && decide (((says ((nb I).getD i.toNat it0)).getD k.toNat tok0).space ≠ ((says ((nb J).getD i.toNat it0)).getD k.toNat tok0).space)) = true := by
                rw [Bool.and_eq_true, Bool.and_eq_true] at h16 ⊢
                exact ⟨⟨h16.2, h16.1.2⟩, h16.1.1⟩
              rw [h17, Bool.not_true, Bool.false_and] at k3
              rw [← k3, Bool.false_and] at g3
              refine fin1 (fun _ _ => ?_)
              rw [← g3]; rfl
            · have h16 : ((decide (((says ((nb I).getD i.toNat it0)).getD k.toNat tok0).space ≠ ((says ((nb J).getD i.toNat it0)).getD k.toNat tok0).space) && decide (0 < k)) && (keep || (((nb I).getD i.toNat it0).1.dir && decide (((nb I).getD i.toNat it0).1.name = sDefine)))) = false := h15
              have h17 : (((keep || (((nb I).getD i.toNat it0).1.dir && decide (((nb I).getD i.toNat it0).1.name = sDefine))) && decide (0 < k)) && decide (((says ((nb I).getD i.toNat it0)).getD k.toNat tok0).space ≠ ((says ((nb J).getD i.toNat it0)).getD k.toNat tok0).space)) = false := by
                rw [Bool.and_comm (decide (((says ((nb I).getD i.toNat it0)).getD k.toNat tok0).space ≠ ((says ((nb J).getD i.toNat it0)).getD k.toNat tok0).space)), Bool.and_assoc, Bool.and_comm (decide (((says ((nb I).getD i.toNat it0)).getD k.toNat tok0).space ≠ ((says ((nb J).getD i.toNat it0)).getD k.toNat tok0).space)), ← Bool.and_assoc, Bool.and_comm (decide (0 < k))] at h16
                exact h16
              rw [h17, Bool.not_false, Bool.true_and] at k3
              repeat (refine And.intro ?_ ?_; first | omega | (simp only [Lay.d_n]; omega) | (simp only [decide_eq_true_eq, decide_eq_false_iff_not]; simp only [Lay.d_n]; omega) | (simp [Lay.d] <;> omega))
              refine again (k + 1) [] (.of rfl rfl rfl rfl rfl rfl) ⟨by omega, by omega, ?_⟩ (by omega)
              rw [show (!decide (0 < k + 1)) = false by simp; omega]
              exact k3
        · have h12 : ¬ (k < ((says ((nb I).getD i.toNat it0)).length : Int)) := of_decide_eq_false h11
          rw [List.drop_eq_nil_of_le (by omega), List.drop_eq_nil_of_le (by omega)] at k3
          simp only [eqFrom] at k3
          rw [← k3, Bool.true_and] at g3
          repeat (refine And.intro ?_ ?_; first | omega | (simp only [Lay.d_n]; omega) | (simp only [decide_eq_true_eq, decide_eq_false_iff_not]; simp only [Lay.d_n]; omega) | (simp [Lay.d] <;> omega))
          exact again (i + 1) [] (.of rfl rfl rfl rfl rfl rfl) ⟨by omega, by omega, g3⟩ (by omega)
    · have h2 : ¬ (i < ((nb I).length : Int)) := of_decide_eq_false h
      refine fin1 (fun _ _ => ?_)
      rw [List.drop_eq_nil_of_le (by omega), List.drop_eq_nil_of_le (by omega)] at g3
      rw [← g3]; rfl
end Go.Proofs.Ytebnccdegjdfiaa
