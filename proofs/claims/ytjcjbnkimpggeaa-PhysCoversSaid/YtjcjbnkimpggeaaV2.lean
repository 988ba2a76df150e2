/- PhysCovers: its walk. -/
import Derived.Test.YtjcjbnkimpggeaaQ1
import Derived.Test.YtjcjbnkimpggeaaV1
namespace Go.Proofs.Ytjcjbnkimpggeaa
open Go.GV Go.RowKit

theorem splicesOf_len {s : ByteArray} : (splicesOf s).length ≤ s.size := by
  unfold splicesOf
  split
  · exact Nat.le_trans (spnsL_len _) (partsV_len s)
  · simp

theorem drop_cons {α : Type} {L : List α} {i : Int} {x d : α} {r : List α} (h0 : 0 ≤ i) (h : L.drop i.toNat = x :: r) : i < L.length ∧ L.getD i.toNat d = x ∧ L.drop (i + 1).toNat = r := by
  have hl : i.toNat < L.length := by
    rcases Nat.lt_or_ge i.toNat L.length with h' | h'
    · exact h'
    · rw [List.drop_eq_nil_of_le h'] at h; cases h
  rw [List.drop_eq_getElem_cons hl, List.cons.injEq] at h
  refine ⟨by omega, ?_, ?_⟩
  · rw [List.getD_eq_getElem?_getD, List.getElem?_eq_getElem hl, ← h.1]; rfl
  · rw [show (i + 1).toNat = i.toNat + 1 by omega, h.2]

theorem drop_nil {α : Type} {L : List α} {i : Int} (h0 : 0 ≤ i) (h1 : i ≤ L.length) (h : L.drop i.toNat = []) : i = L.length := by
  have := List.drop_eq_nil_iff.1 h
  omega

/-- what is left of the characters and the splices at a place -/
structure Left (s : ByteArray) (i k at_ : Int) : Prop where
  i0 : 0 ≤ i
  i1 : i ≤ (charsOf s).length
  k0 : 0 ≤ k
  k1 : k ≤ (splicesOf s).length
  a0 : 0 ≤ at_
  a1 : at_ ≤ s.size
  cs : (charsOf s).drop i.toNat = chrsL (partsAt s at_)
  ss : (splicesOf s).drop k.toNat = spnsL (partsAt s at_)

theorem Left.start {s : ByteArray} (h : checkE s = 0) : Left s 0 0 0 := by
  refine ⟨by omega, by omega, by omega, by omega, by omega, by omega, ?_, ?_⟩
  · rw [charsOf, if_pos h]; rfl
  · rw [splicesOf, if_pos h]; rfl

theorem Left.splice {s : ByteArray} {i k at_ : Int} (h : Left s i k at_) (hk : k < (splicesOf s).length) (he : ((splicesOf s).getD k.toNat spanY.dft).pos = at_) :
    at_ < s.size ∧ (partP s at_).sp = true ∧ ((splicesOf s).getD k.toNat spanY.dft).fin = at_ + (partP s at_).len ∧ Left s i (k + 1) (at_ + (partP s at_).len) := by
  have hkl : k.toNat < (splicesOf s).length := by have := h.k0; omega
  have hss := h.ss
  by_cases ha : at_ < s.size
  · have hl := partP_len s h.a0 ha
    rw [partsAt_eq h.a0 ha, spnsL] at hss
    cases hp : (partP s at_).sp
    · -- a character stands here: the next splice begins later
      exfalso
      rw [hp, if_neg (by simp)] at hss
      have hd := List.drop_eq_getElem_cons hkl
      have hg : (splicesOf s).getD k.toNat spanY.dft = (splicesOf s)[k.toNat] := by rw [List.getD_eq_getElem?_getD, List.getElem?_eq_getElem hkl]; rfl
      rw [hg] at he
      rw [hd] at hss
      have hm : (splicesOf s)[k.toNat] ∈ spnsL (partsAt s (at_ + (partP s at_).len)) := by rw [← hss]; exact List.mem_cons_self ..
      have hb : ∀ {L : List Part} {x : Spn}, x ∈ spnsL L → ∃ p ∈ L, x.pos = p.pos := by
        intro L x hx
        induction L with
        | nil => cases hx
        | cons q L ih =>
          simp only [spnsL] at hx
          split at hx
          · rcases List.mem_cons.1 hx with rfl | hx
            · exact ⟨q, List.mem_cons_self .., rfl⟩
            · obtain ⟨p, h1, h2⟩ := ih hx
              exact ⟨p, List.mem_cons_of_mem _ h1, h2⟩
          · obtain ⟨p, h1, h2⟩ := ih hx
            exact ⟨p, List.mem_cons_of_mem _ h1, h2⟩
      obtain ⟨p, hp1, hp2⟩ := hb hm
      have := partsF_mem s (by have := h.a0; omega) hp1
      omega
    · rw [hp, if_pos rfl, partP_pos] at hss
      obtain ⟨_, e2, e3⟩ := drop_cons (d := spanY.dft) h.k0 hss
      refine ⟨ha, rfl, by rw [e2], ⟨h.i0, h.i1, by have := h.k0; omega, by omega, by have := h.a0; omega, hl.2, ?_, e3⟩⟩
      have := h.cs
      rw [partsAt_eq h.a0 ha, chrsL, hp, if_pos rfl] at this
      exact this
  · rw [partsAt_end ha] at hss
    have := drop_nil h.k0 h.k1 hss
    omega

/-- no splice stands here -/
theorem Left.char {s : ByteArray} {i k at_ : Int} (h : Left s i k at_) (hn : ¬ (k < (splicesOf s).length ∧ ((splicesOf s).getD k.toNat spanY.dft).pos = at_)) (ha : at_ < s.size) :
    (partP s at_).sp = false ∧ i < (charsOf s).length ∧ (charsOf s).getD i.toNat charY.dft = ⟨(partP s at_).b, at_, (partP s at_).len⟩ ∧ Left s (i + 1) k (at_ + (partP s at_).len) := by
  have hl := partP_len s h.a0 ha
  have hss := h.ss
  have hcs := h.cs
  rw [partsAt_eq h.a0 ha, spnsL] at hss
  rw [partsAt_eq h.a0 ha, chrsL] at hcs
  cases hp : (partP s at_).sp
  · rw [hp, if_neg (by simp)] at hss hcs
    rw [partP_pos] at hcs
    obtain ⟨e1, e2, e3⟩ := drop_cons (d := charY.dft) h.i0 hcs
    exact ⟨rfl, e1, e2, ⟨by have := h.i0; omega, by omega, h.k0, h.k1, by have := h.a0; omega, hl.2, e3, hss⟩⟩
  · rw [hp, if_pos rfl, partP_pos] at hss
    obtain ⟨e1, e2, _⟩ := drop_cons (d := spanY.dft) h.k0 hss
    exact absurd ⟨e1, by rw [e2]⟩ hn

theorem Left.done {s : ByteArray} {i k at_ : Int} (h : Left s i k at_) (hn : ¬ (k < (splicesOf s).length ∧ ((splicesOf s).getD k.toNat spanY.dft).pos = at_)) (hi : i = (charsOf s).length) : at_ = s.size ∧ k = (splicesOf s).length := by
  by_cases ha : at_ < s.size
  · obtain ⟨_, h1, _⟩ := h.char hn ha
    omega
  · have ea := h.a1
    refine ⟨by omega, ?_⟩
    have hss := h.ss
    rw [partsAt_end ha] at hss
    exact drop_nil h.k0 h.k1 hss

theorem Left.more {s : ByteArray} {i k at_ : Int} (h : Left s i k at_) (hi : ¬ i = (charsOf s).length) : at_ < s.size := by
  by_cases ha : at_ < s.size
  · exact ha
  · have hcs := h.cs
    rw [partsAt_end ha] at hcs
    exact absurd (drop_nil h.i0 h.i1 hcs) hi

set_option maxRecDepth 100000 in
theorem physCovers_any (s : ByteArray) (w : World) (hs : s.size ≤ 140737488355328) : Calls Try.prog 7 #[.string s] w (PureP w fun v _ => v = .bool true) := by
  refine x_fun tt_ok Try.func7 rfl rfl [] 0 [.v (.string s)] rfl rfl rfl rfl (fun b hb => by cases hb) ?_
  refine x_vc tt_ok ?_
  refine xl_call0 (.bool true) rfl rfl rfl rfl fn14 rfl rfl (fun E w F _ => alive_any w) ?_
  refine xl_go tt_ok ?_
  refine xl_callO2 35 (charY.d (charsOf s)) [.int .i64 (checkE s)] rfl rfl rfl rfl fn15 rfl rfl (fun E w F h => chars_any s w (by omega)) ?_
  refine xl_go tt_ok ?_
  refine xl_callO2 50 (spanY.d (splicesOf s)) [.int .i64 (checkE s)] rfl rfl rfl rfl fn19 rfl rfl (fun E w F h => splices_any s w (by omega)) ?_
  refine xl_go tt_ok ?_
  have la := @charsOf_len s
  have ls := @splicesOf_len s
  refine x_if (fun h => ?_) (fun h => ?_)
  · refine fin1 (fun _ _ => ?_)
    have e : checkE s ≠ 0 := by simpa using h
    rw [show charsOf s = [] by rw [charsOf, if_neg e], show splicesOf s = [] by rw [splicesOf, if_neg e]]
    show Value.bool _ = _
    simp [Lay.d]
  · have h : (decide (checkE s ≠ 0) || !true) = false := h
    have es : checkE s = 0 := by simpa using h
    have hsz := checkE_size es
    refine x_loop (σ := Int × Int × Int) (fun (i, k, a) => ⟨[(10, .v (.int .i64 i)), (9, .v (.int .i64 k)), (8, .v (.int .i64 a)), (7, .v (.int .i64 (checkE s))), (6, .r 1), (4, .r 0), (3, .v (.bool true)), (0, .v (.string s))], [], [(1, .row 50 (spanY.d (splicesOf s))), (0, .row 35 (charY.d (charsOf s)))], 2⟩)
      (fun (i, k, a) _ => Left s i k a) (fun (i, _, _) => ((charsOf s).length - i).toNat) (fun (_, _, _) => Nat.le_refl _) (0, 0, 0) [] (.of rfl rfl rfl rfl rfl rfl) (Left.start es) ?_
    rintro ⟨i, k, a⟩ u hu (hL : Left s i k a)
    have gi0 := hL.i0
    have gi1 := hL.i1
    refine x_vc tt_ok ?_
    refine x_if (fun h2 => ?_) (fun h2 => ?_)
    · refine x_loop (σ := Int × Int) (fun (k, a) => ⟨[(10, .v (.int .i64 i)), (9, .v (.int .i64 k)), (8, .v (.int .i64 a)), (7, .v (.int .i64 (checkE s))), (6, .r 1), (4, .r 0), (3, .v (.bool true)), (0, .v (.string s))], [], [(1, .row 50 (spanY.d (splicesOf s))), (0, .row 35 (charY.d (charsOf s)))], 2⟩)
        (fun (k, a) _ => Left s i k a) (fun (k, _) => ((splicesOf s).length - k).toNat) (fun (_, _) => Nat.le_refl _) (k, a) [] (.of rfl rfl rfl rfl rfl rfl) hL ?_
      clear hL
      rintro ⟨k, a⟩ u2 hu2 (hL : Left s i k a)
      have gk0 := hL.k0
      have gk1 := hL.k1
      have ga0 := hL.a0
      have ga1 := hL.a1
      refine x_vc tt_ok ?_
      repeat (refine And.intro ?_ ?_; first | omega | (simp only [Lay.d_n]; omega) | (simp only [decide_eq_true_eq, decide_eq_false_iff_not, Bool.or_eq_false_iff, Bool.and_eq_true, Bool.or_eq_true, Bool.and_eq_false_iff, Bool.not_eq_true', Bool.not_eq_false']; omega) | (simp only [decide_eq_true_eq, decide_eq_false_iff_not, Bool.or_eq_false_iff, Bool.and_eq_true, Bool.or_eq_true, Bool.and_eq_false_iff, Bool.not_eq_true', Bool.not_eq_false']; simp only [Lay.d_n]; omega))
      refine x_if (fun h3 => ?_) (fun h3 => ?_)
      · have h4 : k < (splicesOf s).length ∧ ((splicesOf s).getD k.toNat spanY.dft).pos = a := by
          simp only [Bool.and_eq_true, decide_eq_true_eq] at h3
          exact h3
        obtain ⟨m1, m2, m3, m4⟩ := hL.splice h4.1 h4.2
        obtain ⟨m5, m6⟩ := cov_splice m2
        obtain ⟨m7, m8⟩ := partP_len s ga0 m1
        have h5 := h4.2
        refine x_draw mix (by kernel_rfl) (xd_go tt_ok ?_)
        repeat (refine And.intro ?_ ?_; first | omega | (simp only [Lay.d_n]; omega) | (simp only [decide_eq_true_eq, decide_eq_false_iff_not, Bool.or_eq_false_iff, Bool.and_eq_true, Bool.or_eq_true, Bool.and_eq_false_iff, Bool.not_eq_true', Bool.not_eq_false']; omega) | (simp only [decide_eq_true_eq, decide_eq_false_iff_not, Bool.or_eq_false_iff, Bool.and_eq_true, Bool.or_eq_true, Bool.and_eq_false_iff, Bool.not_eq_true', Bool.not_eq_false']; simp only [Lay.d_n]; omega))
        refine x_iff ?_ ?_
        · rw [m3, h5, show a + (partP s a).len - a = (partP s a).len by omega, m6]
          rcases m5 with m5 | m5 <;> rw [m5] <;> rfl
        · repeat (refine And.intro ?_ ?_; first | omega | (simp only [Lay.d_n]; omega) | (simp only [decide_eq_true_eq, decide_eq_false_iff_not, Bool.or_eq_false_iff, Bool.and_eq_true, Bool.or_eq_true, Bool.and_eq_false_iff, Bool.not_eq_true', Bool.not_eq_false']; omega) | (simp only [decide_eq_true_eq, decide_eq_false_iff_not, Bool.or_eq_false_iff, Bool.and_eq_true, Bool.or_eq_true, Bool.and_eq_false_iff, Bool.not_eq_true', Bool.not_eq_false']; simp only [Lay.d_n]; omega))
          exact again (k + 1, ((splicesOf s).getD k.toNat spanY.dft).fin) [] (.of rfl rfl rfl rfl rfl rfl) (by show Left s i (k + 1) _; rw [m3]; exact m4) (by simp only; omega)
      · have hn : ¬ (k < (splicesOf s).length ∧ ((splicesOf s).getD k.toNat spanY.dft).pos = a) := by
          intro hh
          rw [Bool.and_eq_false_iff, decide_eq_false_iff_not, decide_eq_false_iff_not] at h3
          rcases h3 with h3 | h3
          · exact h3 hh.1
          · exact h3 hh.2
        refine x_if (fun h4 => ?_) (fun h4 => ?_)
        · have h5 : i = (charsOf s).length := of_decide_eq_true h4
          obtain ⟨e1, e2⟩ := hL.done hn h5
          refine fin1 (fun _ _ => ?_)
          rw [e1, e2, es]
          show Value.bool _ = _
          simp [Lay.d]
        · have h5 : ¬ i = (charsOf s).length := of_decide_eq_false h4
          obtain ⟨c1, c2, c3, c4⟩ := hL.char hn (hL.more h5)
          have c0 := hL.more h5
          obtain ⟨c7, c8⟩ := partP_len s ga0 c0
          have cp : ((charsOf s).getD i.toNat charY.dft).pos = a := by rw [c3]
          have cl : ((charsOf s).getD i.toNat charY.dft).len = (partP s a).len := by rw [c3]
          have cb : ((charsOf s).getD i.toNat charY.dft).b = (partP s a).b := by rw [c3]
          have cc := cov_char c1
          repeat (refine And.intro ?_ ?_; first | omega | (simp only [Lay.d_n]; omega) | (simp only [decide_eq_true_eq, decide_eq_false_iff_not, Bool.or_eq_false_iff, Bool.and_eq_true, Bool.or_eq_true, Bool.and_eq_false_iff, Bool.not_eq_true', Bool.not_eq_false']; omega) | (simp only [decide_eq_true_eq, decide_eq_false_iff_not, Bool.or_eq_false_iff, Bool.and_eq_true, Bool.or_eq_true, Bool.and_eq_false_iff, Bool.not_eq_true', Bool.not_eq_false']; simp only [Lay.d_n]; omega))
          refine x_iff ?_ ?_
          · rw [cp, cl, decide_eq_false (show ¬ (s.size : Int) < a + (partP s a).len by omega)]; simp
          repeat (refine And.intro ?_ ?_; first | omega | (simp only [Lay.d_n]; omega) | (simp only [decide_eq_true_eq, decide_eq_false_iff_not, Bool.or_eq_false_iff, Bool.and_eq_true, Bool.or_eq_true, Bool.and_eq_false_iff, Bool.not_eq_true', Bool.not_eq_false']; omega) | (simp only [decide_eq_true_eq, decide_eq_false_iff_not, Bool.or_eq_false_iff, Bool.and_eq_true, Bool.or_eq_true, Bool.and_eq_false_iff, Bool.not_eq_true', Bool.not_eq_false']; simp only [Lay.d_n]; omega))
          refine x_if (fun h6 => ?_) (fun h6 => ?_)
          · have h6 := of_decide_eq_true h6
            rw [cl] at h6
            have cc : a + 2 < s.size ∧ bt s a = 63 ∧ bt s (a + 1) = 63 ∧ isThird (bt s (a + 2)) = true ∧ (partP s a).b = third (bt s (a + 2)) := by
              rcases cc with h | h
              · exact h.2
              · omega
            repeat (refine And.intro ?_ ?_; first | omega | (simp only [Lay.d_n]; omega) | (simp only [decide_eq_true_eq, decide_eq_false_iff_not, Bool.or_eq_false_iff, Bool.and_eq_true, Bool.or_eq_true, Bool.and_eq_false_iff, Bool.not_eq_true', Bool.not_eq_false']; omega) | (simp only [decide_eq_true_eq, decide_eq_false_iff_not, Bool.or_eq_false_iff, Bool.and_eq_true, Bool.or_eq_true, Bool.and_eq_false_iff, Bool.not_eq_true', Bool.not_eq_false']; simp only [Lay.d_n]; omega))
            refine xl_call0 (.tuple #[.int .u8 (third (bt s (a + 2))), .bool (isThird (bt s (a + 2)))]) rfl rfl rfl rfl fn12 rfl rfl (fun E w F _ => third_any _ w) ?_
            refine xl_go tt_ok ?_
            repeat (refine And.intro ?_ ?_; first | omega | (simp only [Lay.d_n]; omega) | (simp only [decide_eq_true_eq, decide_eq_false_iff_not, Bool.or_eq_false_iff, Bool.and_eq_true, Bool.or_eq_true, Bool.and_eq_false_iff, Bool.not_eq_true', Bool.not_eq_false']; omega) | (simp only [decide_eq_true_eq, decide_eq_false_iff_not, Bool.or_eq_false_iff, Bool.and_eq_true, Bool.or_eq_true, Bool.and_eq_false_iff, Bool.not_eq_true', Bool.not_eq_false']; simp only [Lay.d_n]; omega))
            refine x_iff ?_ ?_
            · rw [cc.2.2.2.1, sub_two ga0 (by omega) cc.2.1 cc.2.2.1]; simp
            repeat (refine And.intro ?_ ?_; first | omega | (simp only [Lay.d_n]; omega) | (simp only [decide_eq_true_eq, decide_eq_false_iff_not, Bool.or_eq_false_iff, Bool.and_eq_true, Bool.or_eq_true, Bool.and_eq_false_iff, Bool.not_eq_true', Bool.not_eq_false']; omega) | (simp only [decide_eq_true_eq, decide_eq_false_iff_not, Bool.or_eq_false_iff, Bool.and_eq_true, Bool.or_eq_true, Bool.and_eq_false_iff, Bool.not_eq_true', Bool.not_eq_false']; simp only [Lay.d_n]; omega))
            refine x_iff ?_ ?_
            · rw [cb, cl, cc.2.2.2.2, h6]; simp
            repeat (refine And.intro ?_ ?_; first | omega | (simp only [Lay.d_n]; omega) | (simp only [decide_eq_true_eq, decide_eq_false_iff_not, Bool.or_eq_false_iff, Bool.and_eq_true, Bool.or_eq_true, Bool.and_eq_false_iff, Bool.not_eq_true', Bool.not_eq_false']; omega) | (simp only [decide_eq_true_eq, decide_eq_false_iff_not, Bool.or_eq_false_iff, Bool.and_eq_true, Bool.or_eq_true, Bool.and_eq_false_iff, Bool.not_eq_true', Bool.not_eq_false']; simp only [Lay.d_n]; omega))
            exact again (i + 1, k, a + ((charsOf s).getD i.toNat charY.dft).len) [] (.of rfl rfl rfl rfl rfl rfl) (by show Left s (i + 1) k _; rw [cl]; exact c4) (by simp only; omega)
          · have h6 : ¬ ((charsOf s).getD i.toNat charY.dft).len = 3 := of_decide_eq_false h6
            rw [cl] at h6
            have cc : (partP s a).len = 1 ∧ (partP s a).b = bt s a := by
              rcases cc with h | h
              · exact absurd h.1 h6
              · exact h
            repeat (refine And.intro ?_ ?_; first | omega | (simp only [Lay.d_n]; omega) | (simp only [decide_eq_true_eq, decide_eq_false_iff_not, Bool.or_eq_false_iff, Bool.and_eq_true, Bool.or_eq_true, Bool.and_eq_false_iff, Bool.not_eq_true', Bool.not_eq_false']; omega) | (simp only [decide_eq_true_eq, decide_eq_false_iff_not, Bool.or_eq_false_iff, Bool.and_eq_true, Bool.or_eq_true, Bool.and_eq_false_iff, Bool.not_eq_true', Bool.not_eq_false']; simp only [Lay.d_n]; omega))
            refine x_iff ?_ ?_
            · rw [cb, cl, cc.1, cc.2]; simp
            repeat (refine And.intro ?_ ?_; first | omega | (simp only [Lay.d_n]; omega) | (simp only [decide_eq_true_eq, decide_eq_false_iff_not, Bool.or_eq_false_iff, Bool.and_eq_true, Bool.or_eq_true, Bool.and_eq_false_iff, Bool.not_eq_true', Bool.not_eq_false']; omega) | (simp only [decide_eq_true_eq, decide_eq_false_iff_not, Bool.or_eq_false_iff, Bool.and_eq_true, Bool.or_eq_true, Bool.and_eq_false_iff, Bool.not_eq_true', Bool.not_eq_false']; simp only [Lay.d_n]; omega))
            exact again (i + 1, k, a + ((charsOf s).getD i.toNat charY.dft).len) [] (.of rfl rfl rfl rfl rfl rfl) (by show Left s (i + 1) k _; rw [cl]; exact c4) (by simp only; omega)
    · have : ¬ i ≤ (charsOf s).length := of_decide_eq_false h2
      omega
end Go.Proofs.Ytjcjbnkimpggeaa
