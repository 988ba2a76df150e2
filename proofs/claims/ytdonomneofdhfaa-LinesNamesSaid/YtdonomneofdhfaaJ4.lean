/- The examples of the chapter on lines: a text's rows as one step; how rows nest. -/
import Derived.Test.YtdonomneofdhfaaJ3
namespace Go.Proofs.Ytdonomneofdhfaa
open Go.GV Go.RowKit

/-- the rows of a text: one step -/
theorem xl_rows {ro : Option Nat} {N : Nat} {all : List Oper} {o : Oper} {r : List Oper} {Q : Post} {kn : Kn} {ow : GV.Own} {nx : Nat} {u : Im} {c : Call} (s : ByteArray) (R : List RowT) (hR : R = rowsOf (scanT s)) (hs : s.size ≤ 9223372036854775807) (hg : Glob u)
    (ho : o.op = .call c) (hgd : o.guard = none) {d : Nat} (hd : o.dst = some d)
    (hc : callee ⟨kn, [], ow, nx⟩ c = some 50) (hargs : argsOf ⟨kn, [], ow, nx⟩ [] c.args.toList = some [.v (.string s)]) (hfr : fresh N ⟨kn, [], ow, nx⟩ d [] = true)
    (K : ∀ A cc V u', u.le u' → V.map RowV.key = R.map RowT.key → ToksAt u' V (R.map RowT.ts) →
      XL ⟨Try.prog, ro, N⟩ all r Q ⟨(d, .r (nx + 1)) :: (d, .v (.slice A R.length cc)) :: kn, [], (nx + 1, .sl (rowY.d V)) :: (nx, .emp) :: (nx, .gen (starHp (itemsS V R ++ [(⟨.slice A R.length cc, 28, rowY.d V⟩ : SI)]))) :: ow, nx + 2⟩ u') :
    XL ⟨Try.prog, ro, N⟩ all (o :: r) Q ⟨kn, [], ow, nx⟩ u := by
  subst hR
  refine xl_callStar (fun (s' : Option Addr × Nat × List RowV) => .slice s'.1 (rowsOf (scanT s)).length s'.2.1) (fun s' => itemsS s'.2.2 (rowsOf (scanT s)) ++ [(⟨.slice s'.1 (rowsOf (scanT s)).length s'.2.1, 28, rowY.d s'.2.2⟩ : SI)]) (fun s' => s'.2.2.map RowV.key = (rowsOf (scanT s)).map RowT.key) ho hgd hd hc fn50 hargs hfr
    (fun E w F hs' => rowsText_any s w hs (hg.imm hs'.imm)) (fun s' hk => ?_)
  obtain ⟨A, cc, V⟩ := s'
  replace hk : V.map RowV.key = (rowsOf (scanT s)).map RowT.key := hk
  have hVR : V.length = (rowsOf (scanT s)).length := by have := congrArg List.length hk; simpa using this
  refine xl_freezeStar nx (sl := itemsS V (rowsOf (scanT s)) ++ [(⟨.slice A (rowsOf (scanT s)).length cc, 28, rowY.d V⟩ : SI)]) (by rw [look_cons, if_pos rfl]) (fun u1 hu1 hfr => ?_)
  refine xl_sl d (x := .slice A (rowsOf (scanT s)).length cc) (D := rowY.d V) (by rw [look_cons, if_pos rfl]) (hfr _ (List.mem_append_right _ (List.mem_singleton.2 rfl))).1 ?_
  exact K A cc V u1 hu1 hk (star_toks hVR (fun p hp => (hfr p (List.mem_append_left _ hp)).1))

/-- a guarded call whose answer is v, the frame told plainly -/
theorem xl_gcallE {C : Cx} {all : List Oper} {o : Oper} {r : List Oper} {Q : Post} {kn : Kn} {gk : List (Nat × (Gd × SV))} {ow : GV.Own} {nx : Nat} {u : Im} {c : Call} (v : Value) {y : Nat × Bool} {g : Gd} {f d : Nat}
    (ho : o.op = .call c) (hg : guardOf all ⟨kn, gk, ow, nx⟩ o = some (y :: g)) (hd : o.dst = some d)
    (hc : callee ⟨kn, gk, ow, nx⟩ c = some f) (hfn : Fn1 C.P f) {ss : List SV} (hargs : argsOf ⟨kn, gk, ow, nx⟩ (y :: g) c.args.toList = some ss) (hfr : fresh C.N ⟨kn, gk, ow, nx⟩ d (y :: g) = true)
    (H : ∀ E w F, Sat E ow nx u [] w F → Calls C.P f (ss.map (SV.den E)).toArray w (PureP w fun x _ => x = v))
    (K : XL C all r Q ⟨kn, (d, (y :: g, .v v)) :: gk, ow, nx⟩ u) : XL C all (o :: r) Q ⟨kn, gk, ow, nx⟩ u :=
  xl_gcall0 (st := ⟨kn, gk, ow, nx⟩) v ho hg hd hc hfn hargs hfr (fun _ => H) K

theorem rows_len (s : ByteArray) : (rowsOf (scanT s)).length ≤ 65537 := by
  have h1 := (rowsOf_size (scanT s)).2
  have h2 := scanT_len s
  omega

set_option maxRecDepth 100000 in
theorem nests_any (s want : ByteArray) (w : World) (hs : s.size ≤ 9223372036854775807) (hw : want.size ≤ 9223372036854775807) (hg : Glob (im w)) (hB : nestsB s want = true) :
    Calls Try.prog 59 #[.string s, .string want] w (PureP w fun v _ => v = .bool true) := by
  obtain ⟨R, hR⟩ : ∃ R, R = rowsOf (scanT s) := ⟨_, rfl⟩
  have hl : R.length ≤ 65537 := by rw [hR]; exact rows_len s
  unfold nestsB at hB
  rw [← hR] at hB
  refine x_fun tt_ok Try.func59 rfl rfl [] 0 [.v (.string s), .v (.string want)] rfl rfl rfl rfl (fun b hb => by cases hb) ?_
  refine x_vc tt_ok ?_
  refine xl_rows s R hR hs hg rfl rfl rfl rfl rfl rfl (fun A cc V u1 hu1 hk hT => ?_)
  have hVR : V.length = R.length := by have := congrArg List.length hk; simpa using this
  obtain ⟨D, hD⟩ : ∃ D, D = dOut V := ⟨_, rfl⟩
  obtain ⟨z, hz⟩ : ∃ z, z = dErr V := ⟨_, rfl⟩
  have hdk := depths_key (L := V) (L' := R.map rowV) [] [] (hk.trans (rowV_key R).symm)
  have hDl : D.length ≤ V.length := by rw [hD]; exact dOut_le V
  have e1 : dOut (R.map rowV) = D := by rw [hD]; unfold dOut; rw [hdk]
  have e2 : dErr (R.map rowV) = z := by rw [hz]; unfold dErr; rw [hdk]
  simp only [e1, e2] at hB
  refine xl_callO2 3 (intY.d D) [.int .i64 z] rfl rfl rfl rfl fn49 rfl rfl (fun E w F hs' => by rw [hD, hz]; exact depths_any V _ w (hs'.slAt (k := 1) rfl) (by omega)) ?_
  refine xl_go tt_ok ?_
  refine x_if (fun h => ?_) (fun h => ?_)
  · have h : z ≠ 0 := of_decide_eq_true h
    rw [if_neg h] at hB
    refine fin1 (fun _ _ => ?_)
    exact congrArg Value.bool hB
  · have h : z = 0 := Classical.not_not.1 (of_decide_eq_false h)
    rw [if_pos h, Bool.and_eq_true, decide_eq_true_eq, List.all_eq_true] at hB
    obtain ⟨b1, b2⟩ := hB
    refine x_if (fun h2 => ?_) (fun h2 => ?_)
    · exact absurd b1 (of_decide_eq_true h2)
    · refine x_loop (σ := Int) (fun i => ⟨[(7, .v (.int .i64 i)), (5, .r 2), (1, .v (.string want))], [], [(2, .row 3 (intY.d D))], 3⟩)
        (fun i _ => 0 ≤ i ∧ i ≤ D.length) (fun i => (D.length - i).toNat) (fun _ => Nat.le_refl _) 0 [] (.of rfl rfl rfl rfl rfl rfl) ⟨by omega, by omega⟩ ?_
      rintro i u hu ⟨g1, g2⟩
      refine x_vc tt_ok ?_
      refine x_if (fun h3 => ?_) (fun h3 => ?_)
      · have h3 : i < D.length := of_decide_eq_true h3
        have h4 := b2 i.toNat (List.mem_range.2 (by omega))
        rw [decide_eq_true_eq, show ((i.toNat : Nat) : Int) = i by omega] at h4
        have h5 := bt_range want i
        refine x_draw mix (by kernel_rfl) (xd_go tt_ok ?_)
        repeat (refine And.intro ?_ ?_; first | omega | (simp only [Lay.d_n]; omega) | (simp only [decide_eq_true_eq, decide_eq_false_iff_not, Bool.or_eq_false_iff, Bool.and_eq_true, Bool.or_eq_true, Bool.and_eq_false_iff, Bool.not_eq_true', Bool.not_eq_false', Lay.d_n]; omega) | (simp only [decide_eq_true_eq, decide_eq_false_iff_not, Bool.or_eq_false_iff, Bool.and_eq_true, Bool.or_eq_true, Bool.and_eq_false_iff, Bool.not_eq_true', Bool.not_eq_false']; omega))
        refine x_if (fun h6 => ?_) (fun h6 => ?_)
        · exact absurd h4 (of_decide_eq_true h6)
        · repeat (refine And.intro ?_ ?_; first | omega | (simp only [Lay.d_n]; omega) | (simp only [decide_eq_true_eq, decide_eq_false_iff_not, Bool.or_eq_false_iff, Bool.and_eq_true, Bool.or_eq_true, Bool.and_eq_false_iff, Bool.not_eq_true', Bool.not_eq_false', Lay.d_n]; omega) | (simp only [decide_eq_true_eq, decide_eq_false_iff_not, Bool.or_eq_false_iff, Bool.and_eq_true, Bool.or_eq_true, Bool.and_eq_false_iff, Bool.not_eq_true', Bool.not_eq_false']; omega))
          exact again (i + 1) [] (.of rfl rfl rfl rfl rfl rfl) ⟨by omega, by omega⟩ (by omega)
      · exact fin1 (fun _ _ => rfl)
end Go.Proofs.Ytdonomneofdhfaa
