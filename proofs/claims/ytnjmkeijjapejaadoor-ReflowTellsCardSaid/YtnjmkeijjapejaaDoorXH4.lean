/- Part 4 of the lemmas behind the claim: RC, GT, GY, GZ, GB, GC, GF, GH, GU, RD, RE, GR2, RF, GJ, RG, RH, RI, RJ, RK, RN, RO, R4, R5, B1, R6, R7, R8, RP, RQ, RR, RS, GU2, RT. -/
import Derived.Test.YtnjmkeijjapejaaDoorXH3
import Derived.Lib.SplitLaws
import Derived.Lib.IndexLaws
import Derived.Lib.CountLaws
set_option linter.unusedSimpArgs false
set_option linter.unusedVariables false
namespace Go.Proofs.YtnjmkeijjapejaaDoor
open Go.GV Go.RowKit
def nlB : ByteArray := ⟨#[10]⟩
def splitP (s : ByteArray) : List ByteArray := Lib.splitB nlB 0 (Lib.countB s nlB) s
def trimP (s : ByteArray) : ByteArray := Lib.trimLeftF (fun c : Nat => whB (c : Int)) s
def starC (s : ByteArray) : Bool := decide (s = ⟨#[42]⟩) || ((decide ((1 : Int) < s.size) && decide (bt s 0 = 42)) && whB (bt s 1))
def starP (s : ByteArray) : ByteArray := if starC s then sub s 1 s.size else s
def lineP (i : Nat) (x : ByteArray) : ByteArray := if i = 0 then x else starP (trimP x)
def linesP (s : ByteArray) : List ByteArray := (splitP s).mapIdx lineP
theorem splitP_len (s : ByteArray) : (splitP s).length = Lib.countB s nlB + 1 := Lib.splitB_all nlB (by decide) 0 _ s rfl
theorem splitP_le (s : ByteArray) : (splitP s).length ≤ s.size + 1 := by
  rw [splitP_len]
  have := Lib.countB_le nlB (by decide) s.size s (Nat.le_refl _)
  omega
theorem split_own (s : ByteArray) (w : World) (hs : s.size < 4294967281) (hg : Glob (im w)) :
    Calls Tryd.prog 36 #[.string s, .string nlB] w (PureP w fun v u => OwnAt u v 9 (strY.d (splitP s))) := by
  obtain ⟨m, hm⟩ := hg
  have hm' : w.cell? ⟨1, 0, none⟩ = some (.int .i64 m) := by
    simp only [Im.cell?, im] at hm
    unfold World.cell?
    exact hm
  refine (Tryd.strings_Split s nlB m w hs hm' (by decide)).mono ?_
  rintro e w' ⟨rfl, rfl⟩
  have hn := splitP_len s
  refine ⟨_, rfl, ⟨rfl, rfl, rfl, by rw [World.size_alloc]; omega, fun b hb => Below.heap_alloc _ _ _ hb⟩, .inr ⟨w.heap.size, Lib.countB s nlB + 1, ((splitP s).map Value.string).toArray, ?_, ?_, ?_, ?_, ?_, ?_⟩⟩
  · rw [Lay.d_n, hn]
  · simp only [cut, im]
    rw [if_neg (by omega), heap_alloc_new]
    rfl
  · rw [Lay.d_n, hn]; omega
  · have := splitP_le s
    simp only [maxLen]; omega
  · rw [show ((strY.d (splitP s)).cs.length) = 1 from rfl]; simp [hn]
  · rw [Lay.flat, show (strY.d (splitP s)).n * (strY.d (splitP s)).cs.length = (splitP s).length from Nat.mul_one _, List.take_of_length_le (by simp)]
    simp only [List.toList_toArray, List.map_eq_flatMap]
    rfl
theorem trim_any (s : ByteArray) (w : World) : Calls Tryd.prog 80 #[.string s, .func (.func 81) #[] #[]] w (PureP w fun v _ => v = .string (trimP s)) := by
  refine (Tryd.strings_TrimLeftFunc_grows 81 #[] fn81.run (fun c : Nat => whB (c : Int)) s w (fun W x hx _ => ?_)).mono ?_
  · refine (whiteF_any (x : Int) W).mono ?_
    rintro e w' ⟨v, rfl, hb, rfl⟩
    exact ⟨rfl, hb⟩
  · rintro e w' ⟨rfl, hb⟩
    exact ⟨_, rfl, hb, rfl⟩
theorem linesP_get {s : ByteArray} {k : Nat} (h : k < (splitP s).length) : ((linesP s).map Value.string)[k]? = some (.string (lineP k ((splitP s).getD k ⟨#[]⟩))) := by
  rw [List.getElem?_map, linesP, List.getElem?_mapIdx, List.getElem?_eq_getElem h, List.getD_eq_getElem?_getD, List.getElem?_eq_getElem h]
  rfl
theorem linesP_len (s : ByteArray) : (linesP s).length = (splitP s).length := by simp [linesP]
set_option maxRecDepth 100000 in
theorem lines_iter (s : ByteArray) (b : Nat) (u0 : Im) (hb : u0.h b = some (.cells #[.string s] 9 (0, 0))) (hg : Glob u0) (hs : s.size < 4294967281) :
    Iter Tryd.prog 79 #[.pointer (some ⟨b, 0, none⟩)] ((linesP s).map Value.string) u0 := by
  refine x_iter tt_ok Tryd.func79 rfl rfl [(.slice (some ⟨b, 0, none⟩) 1 1, ⟨1, [fun _ => .string s]⟩)] [.e 1 1 0 0] (boxEnv b) (fun j x hj => ?_) rfl rfl (fun x hx => ?_) (fun x hx => ?_) (fun l Y Z u hu hR => ?_)
  · match j, hj with
    | 0, hj => cases hj; rfl
    | j + 1, hj => simp at hj
  · simp only [List.mem_singleton] at hx
    subst hx
    exact ⟨by simp, _, 1, 1, rfl, Int.le_refl _, by omega⟩
  · simp only [List.mem_singleton] at hx
    subst hx
    exact SlAt.box1 hb
  have hgu : Glob u := hg.sub hu.sub
  have hsl := splitP_le s
  refine x_vc tt_ok ?_
  repeat (refine And.intro ?_ ?_; first | omega | (simp only [Lay.d_n]; omega) | (simp only [decide_eq_true_eq, decide_eq_false_iff_not, Bool.or_eq_false_iff, Bool.and_eq_true, Bool.or_eq_true, Bool.and_eq_false_iff, Bool.not_eq_true', Bool.not_eq_false', Lay.d_n]; omega) | (simp only [decide_eq_true_eq, decide_eq_false_iff_not, Bool.or_eq_false_iff, Bool.and_eq_true, Bool.or_eq_true, Bool.and_eq_false_iff, Bool.not_eq_true', Bool.not_eq_false']; omega) | (simp only [decide_eq_true_eq, decide_eq_false_iff_not, Bool.or_eq_false_iff]; simp only [Lay.d_n]; omega))
  refine xl_callO 9 (strY.d (splitP s)) rfl rfl rfl rfl fn36 rfl rfl (fun E w F hs' => split_own s w hs (hgu.imm hs'.imm)) ?_
  refine xl_go tt_ok ?_
  refine x_loop (σ := Nat) (fun k => ⟨[(8, .v (.int .i64 (k : Int))), (7, .v (.int .i64 ((splitP s).length : Int))), (6, .r 2), (0, .v (.func (.yield l) #[] #[]))], [], [(2, .row 9 (strY.d (splitP s))), (0, .gen (Y k).hp)], 3⟩)
    (fun k _ => k ≤ (splitP s).length) (fun k => (splitP s).length - k) (fun _ => Nat.le_refl _) 0 [] (.of rfl rfl rfl rfl rfl rfl) (Nat.zero_le _) ?_
  rintro k u2 hu2 g1
  refine x_vc tt_ok ?_
  refine x_if (fun h => ?_) (fun h => ?_)
  · have h : (k : Int) < ((splitP s).length : Int) := of_decide_eq_true h
    have hx := linesP_get (s := s) (k := k) (by omega)
    repeat (refine And.intro ?_ ?_; first | omega | (simp only [Lay.d_n]; omega) | (simp only [decide_eq_true_eq, decide_eq_false_iff_not, Bool.or_eq_false_iff, Bool.and_eq_true, Bool.or_eq_true, Bool.and_eq_false_iff, Bool.not_eq_true', Bool.not_eq_false', Lay.d_n]; omega) | (simp only [decide_eq_true_eq, decide_eq_false_iff_not, Bool.or_eq_false_iff, Bool.and_eq_true, Bool.or_eq_true, Bool.and_eq_false_iff, Bool.not_eq_true', Bool.not_eq_false']; omega) | (simp only [decide_eq_true_eq, decide_eq_false_iff_not, Bool.or_eq_false_iff]; simp only [Lay.d_n]; omega))
    refine x_if (fun h2 => ?_) (fun h2 => ?_)
    · have h2 : (0 : Int) < (k : Int) := of_decide_eq_true h2
      rw [lineP, if_neg (by omega)] at hx
      refine xl_call0 (.string (trimP ((splitP s).getD k ⟨#[]⟩))) rfl rfl rfl rfl fn80 rfl rfl (fun E w F _ => trim_any _ w) ?_
      generalize trimP ((splitP s).getD k ⟨#[]⟩) = q at hx
      refine xl_go tt_ok ?_
      have hb1 := bt_range q 1
      repeat (refine And.intro ?_ ?_; first | omega | (simp only [Lay.d_n]; omega) | (simp only [decide_eq_true_eq, decide_eq_false_iff_not, Bool.or_eq_false_iff, Bool.and_eq_true, Bool.or_eq_true, Bool.and_eq_false_iff, Bool.not_eq_true', Bool.not_eq_false', Lay.d_n]; omega) | (simp only [decide_eq_true_eq, decide_eq_false_iff_not, Bool.or_eq_false_iff, Bool.and_eq_true, Bool.or_eq_true, Bool.and_eq_false_iff, Bool.not_eq_true', Bool.not_eq_false']; omega) | (simp only [decide_eq_true_eq, decide_eq_false_iff_not, Bool.or_eq_false_iff]; simp only [Lay.d_n]; omega))
      refine xl_gcall0 (.bool (whB (bt q 1))) rfl rfl rfl rfl fn81 rfl rfl (fun hg E w F _ => whiteF_any _ w) ?_
      refine xl_go tt_ok ?_
      refine x_if (fun h3 => ?_) (fun h3 => ?_)
      · have h3 : starC q = true := h3
        rw [starP, if_pos h3] at hx
        have hq : (0 : Int) < q.size := by
          simp only [starC, Bool.or_eq_true, Bool.and_eq_true, decide_eq_true_eq] at h3
          rcases h3 with h3 | h3
          · rw [h3]; decide
          · omega
        repeat (refine And.intro ?_ ?_; first | omega | (simp only [Lay.d_n]; omega) | (simp only [decide_eq_true_eq, decide_eq_false_iff_not, Bool.or_eq_false_iff, Bool.and_eq_true, Bool.or_eq_true, Bool.and_eq_false_iff, Bool.not_eq_true', Bool.not_eq_false', Lay.d_n]; omega) | (simp only [decide_eq_true_eq, decide_eq_false_iff_not, Bool.or_eq_false_iff, Bool.and_eq_true, Bool.or_eq_true, Bool.and_eq_false_iff, Bool.not_eq_true', Bool.not_eq_false']; omega) | (simp only [decide_eq_true_eq, decide_eq_false_iff_not, Bool.or_eq_false_iff]; simp only [Lay.d_n]; omega))
        refine xl_yield (kY := 0) rfl hR rfl rfl rfl rfl rfl rfl rfl rfl hx ?_ ?_
        · refine xl_go tt_ok ?_
          refine x_iff rfl ?_
          repeat (refine And.intro ?_ ?_; first | omega | (simp only [Lay.d_n]; omega) | (simp only [decide_eq_true_eq, decide_eq_false_iff_not, Bool.or_eq_false_iff, Bool.and_eq_true, Bool.or_eq_true, Bool.and_eq_false_iff, Bool.not_eq_true', Bool.not_eq_false', Lay.d_n]; omega) | (simp only [decide_eq_true_eq, decide_eq_false_iff_not, Bool.or_eq_false_iff, Bool.and_eq_true, Bool.or_eq_true, Bool.and_eq_false_iff, Bool.not_eq_true', Bool.not_eq_false']; omega) | (simp only [decide_eq_true_eq, decide_eq_false_iff_not, Bool.or_eq_false_iff]; simp only [Lay.d_n]; omega))
          refine again (k + 1) [] (.of rfl rfl rfl rfl rfl rfl) (by omega) (by omega)
        · refine xl_go tt_ok ?_
          refine x_ift rfl ?_
          exact .inr rfl
      · have h3 : starC q = false := h3
        rw [starP, if_neg (by rw [h3]; decide)] at hx
        repeat (refine And.intro ?_ ?_; first | omega | (simp only [Lay.d_n]; omega) | (simp only [decide_eq_true_eq, decide_eq_false_iff_not, Bool.or_eq_false_iff, Bool.and_eq_true, Bool.or_eq_true, Bool.and_eq_false_iff, Bool.not_eq_true', Bool.not_eq_false', Lay.d_n]; omega) | (simp only [decide_eq_true_eq, decide_eq_false_iff_not, Bool.or_eq_false_iff, Bool.and_eq_true, Bool.or_eq_true, Bool.and_eq_false_iff, Bool.not_eq_true', Bool.not_eq_false']; omega) | (simp only [decide_eq_true_eq, decide_eq_false_iff_not, Bool.or_eq_false_iff]; simp only [Lay.d_n]; omega))
        refine xl_yield (kY := 0) rfl hR rfl rfl rfl rfl rfl rfl rfl rfl hx ?_ ?_
        · refine xl_go tt_ok ?_
          refine x_iff rfl ?_
          repeat (refine And.intro ?_ ?_; first | omega | (simp only [Lay.d_n]; omega) | (simp only [decide_eq_true_eq, decide_eq_false_iff_not, Bool.or_eq_false_iff, Bool.and_eq_true, Bool.or_eq_true, Bool.and_eq_false_iff, Bool.not_eq_true', Bool.not_eq_false', Lay.d_n]; omega) | (simp only [decide_eq_true_eq, decide_eq_false_iff_not, Bool.or_eq_false_iff, Bool.and_eq_true, Bool.or_eq_true, Bool.and_eq_false_iff, Bool.not_eq_true', Bool.not_eq_false']; omega) | (simp only [decide_eq_true_eq, decide_eq_false_iff_not, Bool.or_eq_false_iff]; simp only [Lay.d_n]; omega))
          refine again (k + 1) [] (.of rfl rfl rfl rfl rfl rfl) (by omega) (by omega)
        · refine xl_go tt_ok ?_
          refine x_ift rfl ?_
          exact .inr rfl
    · have h2 : ¬ (0 : Int) < (k : Int) := of_decide_eq_false h2
      rw [lineP, if_pos (by omega)] at hx
      repeat (refine And.intro ?_ ?_; first | omega | (simp only [Lay.d_n]; omega) | (simp only [decide_eq_true_eq, decide_eq_false_iff_not, Bool.or_eq_false_iff, Bool.and_eq_true, Bool.or_eq_true, Bool.and_eq_false_iff, Bool.not_eq_true', Bool.not_eq_false', Lay.d_n]; omega) | (simp only [decide_eq_true_eq, decide_eq_false_iff_not, Bool.or_eq_false_iff, Bool.and_eq_true, Bool.or_eq_true, Bool.and_eq_false_iff, Bool.not_eq_true', Bool.not_eq_false']; omega) | (simp only [decide_eq_true_eq, decide_eq_false_iff_not, Bool.or_eq_false_iff]; simp only [Lay.d_n]; omega))
      refine xl_yield (kY := 0) rfl hR rfl rfl rfl rfl rfl rfl rfl rfl hx ?_ ?_
      · refine xl_go tt_ok ?_
        refine x_iff rfl ?_
        repeat (refine And.intro ?_ ?_; first | omega | (simp only [Lay.d_n]; omega) | (simp only [decide_eq_true_eq, decide_eq_false_iff_not, Bool.or_eq_false_iff, Bool.and_eq_true, Bool.or_eq_true, Bool.and_eq_false_iff, Bool.not_eq_true', Bool.not_eq_false', Lay.d_n]; omega) | (simp only [decide_eq_true_eq, decide_eq_false_iff_not, Bool.or_eq_false_iff, Bool.and_eq_true, Bool.or_eq_true, Bool.and_eq_false_iff, Bool.not_eq_true', Bool.not_eq_false']; omega) | (simp only [decide_eq_true_eq, decide_eq_false_iff_not, Bool.or_eq_false_iff]; simp only [Lay.d_n]; omega))
        refine again (k + 1) [] (.of rfl rfl rfl rfl rfl rfl) (by omega) (by omega)
      · refine xl_go tt_ok ?_
        refine x_ift rfl ?_
        exact .inr rfl
  · have h2 : ¬ (k : Int) < ((splitP s).length : Int) := of_decide_eq_false h
    have hk : ((linesP s).map Value.string).length = k := by rw [List.length_map, linesP_len]; omega
    exact .inl (by rw [hk]; rfl)
def LinesFn (s : ByteArray) (v : Value) (u : Im) : Prop := ∃ b, v = .func (.func 79) #[] #[.pointer (some ⟨b, 0, none⟩)] ∧ u.h b = some (.cells #[.string s] 9 (0, 0))
set_option maxRecDepth 100000 in
theorem linesFn_any (s : ByteArray) (w : World) : Calls Tryd.prog 56 #[.string s] w (PureP w (LinesFn s)) := by
  refine x_fun tt_ok Tryd.func56 rfl rfl [] 0 [.v (.string s)] rfl rfl rfl rfl (fun b hb => by cases hb) ?_
  refine x_vc tt_ok ?_
  refine finP (fun E w' F hs hu => ?_)
  obtain ⟨b, h1, h2⟩ := hs.boxNew (k := 0) rfl hu
  refine ⟨b, ?_, h2⟩
  simp [SV.den, tupV, ptrOf, h1]
theorem cloneL_any (s : ByteArray) (w : World) (hs : s.size ≤ 281474976710656) : Calls Tryd.prog 83 #[.string s] w (PureP w fun v _ => v = .string s) := by
  refine (Tryd.stringslite_Clone s w hs).mono ?_
  rintro e w' ⟨rfl, hb⟩
  exact ⟨_, rfl, hb, rfl⟩
set_option maxRecDepth 100000 in
theorem clone_any (s : ByteArray) (w : World) (hs : s.size ≤ 281474976710656) : Calls Tryd.prog 58 #[.string s] w (PureP w fun v _ => v = .string s) := by
  refine x_fun tt_ok Tryd.func58 rfl rfl [] 0 [.v (.string s)] rfl rfl rfl rfl (fun b hb => by cases hb) ?_
  refine x_vc tt_ok ?_
  refine xl_call0 (.string s) rfl rfl rfl rfl fn83 rfl rfl (fun E w F _ => cloneL_any s w hs) ?_
  refine xl_go tt_ok ?_
  exact fin1 (fun _ _ => rfl)
end Go.Proofs.YtnjmkeijjapejaaDoor
namespace Go.GV
open Go.RowKit
theorem rounds_ofN {σ τ : Type} {P : Program} {N l keep : Nat} {ue : Im} {E0 : Env} {tm : Array Value} {kn : Kn} {ow0 : Own} {n0 : Nat} (hagr : Agr N E0 ⟨kn, [], ow0, n0⟩ tm) (hkn : kn.all (fun x => x.2.inN keep) = true)
    (ms : List Nat) (fn p : Nat) (asg body : Code) (D : Nat) (hdo : σ → Own) (hdn : σ → Nat) (G : Nat → σ → Im → Prop) (hxo : τ → Own) (hxn : τ → Nat) (GX : τ → Exit → Im → Prop)
    (hfree : ∀ s, look (hdo s) keep = none) (hfreex : ∀ t, look (hxo t) keep = none) (hnx : ∀ s, keep < hdn s) (hp : p < N) {xs : List Value}
    (hround : ∀ k x s u' (Fr Fr' : Hp), (∀ u F w, Fr'.h u F w → ∃ r, w.heap[l]? = some (.loop r)) → xs[k]? = some x → ue.le u' → G k s u' →
      X ⟨P, some l, N⟩ asg (onlyN fun st1 u1 => st1.gk = [] ∧ look st1.ow keep = some (.gen Fr) ∧ X ⟨P, some l, N⟩ body (RQ keep hdo hdn (G (k + 1)) hxo hxn GX Fr') ⟨st1.kn, [], (keep, .gen Fr') :: st1.ow, st1.nx⟩ u1)
        ⟨(p, .v x) :: kn, [], (keep, .gen Fr) :: hdo s, hdn s⟩ u') :
    Rounds P l (fun k => inW keep E0 ue l ms (fun _ : σ => recL fn tm p asg body D .ready none) hdo hdn (G k))
      (inW keep E0 ue l ms (fun t : τ × Code => recL fn tm p asg body D .done (some t.2)) (fun t => hxo t.1) (fun t => hxn t.1) (fun t u => ∃ e, jmp e = some t.2 ∧ GX t.1 e u)) xs := by
  rintro k x w F hx himm ⟨s, E, f, uc, hin⟩ hoff
  refine ⟨fn, tm.setIfInBounds p x, asg, body, ?_, roundIn_of_wpIn trivial ?_⟩
  · have := run_yield (P := P) (args := #[x]) hin.loop rfl
    rw [this]
    simp [recL]
  let S : Nat → Prop := fun b => b < w.heap.size ∧ (∀ k, ¬ f k b) ∧ uc.h b = none
  have hlS : S l := ⟨(Array.getElem?_eq_some_iff.1 hin.loop).1, hin.lf, hin.lu⟩
  let Fr : Hp := frameHp S (fun b => w.heap[b]?) w.heap.size
  have hfk : ∀ b, ¬ f keep b := hin.sat.non keep (hfree s)
  have hsat : Sat E ((keep, .gen Fr) :: hdo s) (hdn s) uc [] w (upd f keep S) := by
    refine ⟨fun j r hl => ?_, fun j hl b hb => ?_, fun j j' b hne h1 h2 => ?_, fun j b hb => ?_, fun j r hl => ?_, hin.sat.imm, [], rfl, List.nodup_nil, fun d hd => by cases hd⟩
    · rw [look_cons] at hl
      split at hl
      · rename_i e; subst e; cases hl
        simp only [Rs.holds, upd_same]
        exact ⟨fun b => Iff.rfl, Nat.le_refl _, fun b hb => ⟨rfl, hb.1⟩⟩
      · rename_i e
        rw [upd_other _ _ (Ne.symm e)]
        exact hin.sat.holds j r hl
    · rw [look_cons] at hl
      split at hl
      · cases hl
      · rename_i e
        rw [upd_other _ _ (Ne.symm e)] at hb
        exact hin.sat.non j hl b hb
    · by_cases e : j = keep
      · subst e
        rw [upd_same] at h1
        rw [upd_other _ _ (Ne.symm hne)] at h2
        exact h1.2.1 j' h2
      · rw [upd_other _ _ e] at h1
        by_cases e' : j' = keep
        · subst e'
          rw [upd_same] at h2
          exact h2.2.1 j h1
        · rw [upd_other _ _ e'] at h2
          exact hin.sat.apart j j' b hne h1 h2
    · by_cases e : j = keep
      · subst e; rw [upd_same] at hb; exact hb.2.2
      · rw [upd_other _ _ e] at hb; exact hin.sat.off j b hb
    · rw [look_cons] at hl
      split at hl
      · rename_i e; subst e; cases hl; exact ⟨hnx s, trivial⟩
      · exact hin.sat.lt j r hl
  have hA0 : Agr N E ⟨kn, [], (keep, .gen Fr) :: hdo s, hdn s⟩ tm := hagr.keepE hkn hin.env (Nat.le_of_lt (hnx s))
  have hA : Agr N E ⟨(p, .v x) :: kn, [], (keep, .gen Fr) :: hdo s, hdn s⟩ (tm.setIfInBounds p x) := by
    have hsz := hA0.size
    refine ⟨by simpa using hsz, fun d sv _ hl => ?_, fun d g s h => (by cases h), fun d sv hl => ?_, fun d g s h => (by cases h)⟩
    · rw [look_cons] at hl
      split at hl
      · rename_i e; subst e; cases hl
        simp only [SV.den]
        rw [Array.getElem?_setIfInBounds, if_pos rfl, if_pos (by omega)]
      · rename_i e
        rw [Array.getElem?_setIfInBounds_ne e]
        exact hA0.kn d sv rfl hl
    · rw [look_cons] at hl
      split at hl
      · cases hl; trivial
      · exact hA0.klt d sv hl
  let ldone : Loop := recL fn tm p asg body D .busy none
  have hX1 : ∀ Fr' : Hp, (∀ u F w, Fr'.h u F w → ∃ r, w.heap[l]? = some (.loop r)) → (asg.wpIn (FR (some l)) 0 P (SemQ ⟨P, some l, N⟩ E (hdn s) uc (onlyN fun st1 u1 => st1.gk = [] ∧ look st1.ow keep = some (.gen Fr) ∧ X ⟨P, some l, N⟩ body (RQ keep hdo hdn (G (k + 1)) hxo hxn GX Fr') ⟨st1.kn, [], (keep, .gen Fr') :: st1.ow, st1.nx⟩ u1))
      { tmps := tm.setIfInBounds p x, defers := [] } w) := fun Fr' hFr' => by
    exact (hround k x s uc Fr Fr' hFr' hx hin.le hin.g).run (C := ⟨P, some l, N⟩) (a := { tmps := tm.setIfInBounds p x, defers := [] }) ⟨hA, _, hsat⟩
  let o2 : Nat → Option Obj := fun b => if b = l then some (.loop ldone) else w.heap[b]?
  let Fr2 : Hp := frameHp S o2 w.heap.size
  refine Go.wpIn_mono (hX1 Fr2 (fun u F w hh => ⟨ldone, by
    obtain ⟨_, _, h9⟩ := hh
    rw [(h9 l hlS).1]
    show (if l = l then _ else _) = _
    rw [if_pos rfl]⟩)) ?_
  rintro e a1 w1 ⟨E1, st1, u1, hE1, hn1, hu1, hok1, h5⟩
  cases e with
  | exit id => exact h5.elim
  | goto t => exact h5.elim
  | ret => exact h5.elim
  | panic c => exact h5.elim
  | outgrown => exact h5.elim
  | normal =>
    obtain ⟨hgk, hlk, hX2⟩ := h5
    obtain ⟨f1, hs1⟩ := hok1.sat
    obtain ⟨hS1, hsz1, hfr1⟩ := hs1.holds keep _ hlk
    have hl1 : w1.heap[l]? = some (.loop (recL fn tm p asg body D .ready none)) := (hfr1 l hlS).1.trans hin.loop
    have hl1lt := (hfr1 l hlS).2
    refine ⟨w1.putObj l (.loop ldone), ?_, ?_⟩
    · have := run_beginRound (P := P) hl1 rfl
      rw [this]; rfl
    have hoth : ∀ b, b ≠ l → (w1.putObj l (.loop ldone)).heap[b]? = w1.heap[b]? := fun b hb => World.putObj_heap_other hb
    have hsz2 : (w1.putObj l (.loop ldone)).heap.size = w1.heap.size := by simp [World.putObj]
    have hu1l : u1.h l = none := hs1.off keep l ((hS1 l).2 hlS)
    have himm2 : Imm u1 (w1.putObj l (.loop ldone)) := ⟨fun b o hb => by rw [hoth b (fun e => by subst e; rw [hu1l] at hb; cases hb)]; exact hs1.imm.h b o hb, hs1.imm.os, hs1.imm.tape, hs1.imm.output, by rw [hsz2]; exact hs1.imm.lo⟩
    have hs2 : Sat E1 ((keep, .gen Fr2) :: st1.ow) st1.nx u1 a1.defers (w1.putObj l (.loop ldone)) f1 := by
      refine hs1.step (fun j => j = keep) (fun _ _ => rfl) (Nat.le_refl _) (Im.le.refl u1) himm2 (Nat.le_of_eq hsz2.symm) (fun b _ hno => hoth b (fun e => hno keep rfl ((hS1 b).2 (e ▸ hlS)))) ?_ ?_ ?_ (fun b o ho => .inl ho)
      · intro j hj
        exact ⟨by rw [look_cons, if_neg (Ne.symm hj)], fun b => Iff.rfl⟩
      · rintro j rfl
        refine ⟨fun r hr => ?_, fun hr => ?_, fun b hb => ⟨.inl ⟨j, rfl, hb⟩, hs1.off j b hb⟩⟩
        · rw [look_cons, if_pos rfl] at hr
          cases hr
          refine ⟨⟨hS1, by rw [hsz2]; exact hsz1, fun b hb => ?_⟩, (hs1.lt _ _ hlk).1, trivial⟩
          by_cases e : b = l
          · subst e
            refine ⟨?_, by rw [hsz2]; exact hl1lt⟩
            show _ = (if b = b then _ else _)
            rw [if_pos rfl]; exact World.putObj_heap_same hl1lt
          · refine ⟨?_, by rw [hsz2]; exact (hfr1 b hb).2⟩
            show _ = (if b = l then _ else _)
            rw [if_neg e, hoth b e]; exact (hfr1 b hb).1
        · rw [look_cons, if_pos rfl] at hr; cases hr
      · intro j j' b hj hj' hne; subst hj hj'; exact absurd rfl hne
    have hag2 : Agr N E1 ⟨st1.kn, [], (keep, .gen Fr2) :: st1.ow, st1.nx⟩ a1.tmps :=
      ⟨hok1.agr.size, fun d s _ hl => hok1.agr.kn d s (by rw [hgk]; rfl) hl, fun d g s h => (by cases h), hok1.agr.klt, fun d g s h => (by cases h)⟩
    refine Go.wpIn_mono (hX2.run (C := ⟨P, some l, N⟩) ⟨hag2, _, hs2⟩) ?_
    rintro e a3 w3 ⟨E3, st3, u3, hE3, hn3, hu3, hok3, h6⟩
    obtain ⟨f3, hs3⟩ := hok3.sat
    have hs3' : Sat E3 st3.ow st3.nx u3 [] w3 f3 := ⟨hs3.holds, hs3.non, hs3.apart, hs3.off, hs3.lt, hs3.imm, [], rfl, List.nodup_nil, fun d hd => by cases hd⟩
    have hko : keep < hdn s := hnx s
    have hn1' : hdn s ≤ st1.nx := hn1
    have ho2 : ∀ b, b ≠ l → S b → o2 b = w.heap[b]? := fun b hb _ => by
      show (if b = l then _ else _) = _
      rw [if_neg hb]
    have fin : ∀ (ow3 : Own) (nx3 : Nat) (G3 : Im → Prop) (ρ : Ren) (rec' : Loop), Sub (keep + 1) ρ ⟨[], [], st3.ow, st3.nx⟩ ⟨[], [], (keep, .gen Fr2) :: ow3, nx3⟩ → look ow3 keep = none → G3 u3 →
        w3.heap[l]? = some (.loop ldone) ∧ ∃ F', Step w F (w3.putObj l (.loop rec')) F' ∧ ∃ E4 f5, InL keep E0 ue l rec' ms ow3 nx3 G3 F' (w3.putObj l (.loop rec')) E4 f5 u3 := by
      intro ow3 nx3 G3 ρ rec' hsub hfr hg
      obtain ⟨E4, f4, hE4, hs4⟩ := hsub.sat hs3'
      obtain ⟨_, _, hfr4⟩ := hs4.holds keep _ (by rw [look_cons, if_pos rfl])
      have hl3 : w3.heap[l]? = some (.loop ldone) := by
        rw [(hfr4 l hlS).1]
        show (if l = l then _ else _) = _
        rw [if_pos rfl]
      obtain ⟨F', hst, f5, hI⟩ := round_end (rec' := rec') hin himm (hu1.trans hu3) (fun j hj => by
        rw [hE4 j (by omega), hE3 j (by show j < st1.nx; omega), hE1 j (by omega), hin.env j hj]) ho2 hs4 hfr hg
      exact ⟨hl3, F', hst, E4, f5, hI⟩
    have stop : ∀ (e : Exit) (cj : Code), jmp e = some cj → (∃ t ρ, Sub (keep + 1) ρ ⟨[], [], st3.ow, st3.nx⟩ ⟨[], [], (keep, .gen Fr2) :: hxo t, hxn t⟩ ∧ GX t e u3) →
        ∃ v w', (Instr.endRound l (some cj)).run P w3 = .ok v w' ∧ ∃ F', Step w F w' F' ∧ ((Ending.returned v = .returned (.bool true) ∧
          (inW keep E0 ue l ms (fun _ : σ => recL fn tm p asg body D .ready none) hdo hdn (G (k + 1))).h F' w') ∨ (Ending.returned v = .returned (.bool false) ∧
          (inW keep E0 ue l ms (fun t : τ × Code => recL fn tm p asg body D .done (some t.2)) (fun t => hxo t.1) (fun t => hxn t.1) (fun t u => ∃ e, jmp e = some t.2 ∧ GX t.1 e u)).h F' w')) := by
      rintro e cj hj ⟨t, ρ, hsub, hg⟩
      obtain ⟨hl3, F', hst, E4, f5, hI⟩ := fin (hxo t) (hxn t) (fun u => ∃ e, jmp e = some cj ∧ GX t e u) ρ (recL fn tm p asg body D .done (some cj)) hsub (hfreex t) ⟨e, hj, hg⟩
      exact ⟨_, _, run_endRound (P := P) (some cj) hl3, F', hst, .inr ⟨rfl, (t, cj), E4, f5, u3, hI⟩⟩
    cases e with
    | normal =>
      obtain ⟨s', ρ, hsub, hg⟩ := h6
      obtain ⟨hl3, F', hst, E4, f5, hI⟩ := fin (hdo s') (hdn s') (G (k + 1) s') ρ (recL fn tm p asg body D .ready none) hsub (hfree s') hg
      exact ⟨_, _, run_endRound (P := P) none hl3, F', hst, .inl ⟨rfl, s', E4, f5, u3, hI⟩⟩
    | ret => exact stop .ret _ rfl h6
    | exit id => exact stop (.exit id) _ rfl h6
    | goto t => exact stop (.goto t) _ rfl h6
    | panic c => exact h6.elim
    | outgrown => exact h6.elim
theorem x_rangeO {σ τ : Type} {P : Program} {N : Nat} {g : Operand} {p : Nat} {asg body : Code} {Q : Post} {kn : Kn} {ow : Own} {nx : Nat} {u : Im} {gf : Nat} {caps : Array Value} {xs : List Value}
    (hg : opd ⟨kn, [], ow, nx⟩ [] g = some (.v (.func (.func gf) #[] caps))) (hfn : Fn1 P gf) (hit : Iter P gf caps xs u)
    (kn' : Kn) (hdo : σ → Own) (hdn : σ → Nat) (G : Nat → σ → Im → Prop) (hxo : τ → Own) (hxn : τ → Nat) (GX : τ → Exit → Im → Prop) (s0 : σ) (ρ0 : Ren)
    (h0 : Sub nx ρ0 ⟨kn, [], ow, nx⟩ ⟨kn', [], hdo s0, hdn s0⟩) (g0 : G 0 s0 u) (hkn : kn'.all (fun x => x.2.inN nx) = true)
    (hfree : ∀ s, look (hdo s) nx = none) (hfreex : ∀ t, look (hxo t) nx = none) (hnx : ∀ s, nx < hdn s) (hnxx : ∀ t, nx ≤ hxn t) (hp : Nat.blt p N = true)
    (hround : ∀ l k x s u' (Fr Fr' : Hp), (∀ u F w, Fr'.h u F w → ∃ r, w.heap[l]? = some (.loop r)) → xs[k]? = some x → u.le u' → G k s u' →
      X ⟨P, some l, N⟩ asg (onlyN fun st1 u1 => st1.gk = [] ∧ look st1.ow nx = some (.gen Fr) ∧ X ⟨P, some l, N⟩ body (RQ nx hdo hdn (G (k + 1)) hxo hxn GX Fr') ⟨st1.kn, [], (nx, .gen Fr') :: st1.ow, st1.nx⟩ u1)
        ⟨(p, .v x) :: kn', [], (nx, .gen Fr) :: hdo s, hdn s⟩ u')
    (hdone : ∀ s u', u.le u' → G xs.length s u' → Q .normal ⟨kn', [], hdo s, hdn s⟩ u')
    (hstop : ∀ t e u', u.le u' → GX t e u' → Q e ⟨kn', [], hxo t, hxn t⟩ u') : X ⟨P, none, N⟩ (.rangeFunc g #[p] asg body) Q ⟨kn, [], ow, nx⟩ u := by
  unfold X
  intro E a w hok
  obtain ⟨E1, hE1, hok1⟩ := h0.ok hok
  obtain ⟨f0, hs0⟩ := hok1.sat
  have hagr := hok1.agr
  have hgs : gs a.tmps [] := fun x hx => by cases hx
  obtain ⟨eg, _⟩ := opd_sound hok.agr hgs hg
  simp only [SV.den] at eg
  obtain ⟨ds, hds, hnd, hm⟩ := hs0.marks
  refine wpIn_rangeFunc ?_
  intro fn _
  obtain ⟨D, hD⟩ : ∃ D, D = w.heap.size := ⟨_, rfl⟩
  obtain ⟨l, hl⟩ : ∃ l, l = w.heap.size + 1 := ⟨_, rfl⟩
  obtain ⟨W1, hW1⟩ : ∃ W1, W1 = (w.alloc (.deferred (some []))).alloc (.loop (recL fn a.tmps p asg body D .ready none)) := ⟨_, rfl⟩
  have hsz : W1.heap.size = w.heap.size + 2 := by rw [hW1, World.size_alloc, World.size_alloc]
  have hold : ∀ b, b < w.heap.size → W1.heap[b]? = w.heap[b]? := fun b hb => by
    rw [hW1, Below.heap_alloc _ _ _ (by rw [World.size_alloc]; omega), Below.heap_alloc _ _ _ hb]
  have hl1 : W1.heap[l]? = some (.loop (recL fn a.tmps p asg body D .ready none)) := by
    have := heap_alloc_new (w.alloc (.deferred (some []))) (.loop (recL fn a.tmps p asg body D .ready none))
    rw [World.size_alloc] at this
    rw [hW1, hl]; exact this
  have hD1 : W1.heap[D]? = some (.deferred (some [])) := by
    rw [hW1, hD, Below.heap_alloc _ _ _ (by rw [World.size_alloc]; omega)]
    exact heap_alloc_new w _
  have hult : ∀ b o, u.h b = some o → b < w.heap.size := fun b o ho => (Array.getElem?_eq_some_iff.1 (hs0.imm.h b o ho)).1
  have hflt : ∀ k b, f0 k b → b < w.heap.size := fun k b hb => hs0.fin hb
  have himm1 : Imm u W1 := ⟨fun b o ho => (hold b (hult b o ho)).trans (hs0.imm.h b o ho), by rw [hW1]; exact hs0.imm.os, by rw [hW1]; exact hs0.imm.tape, by rw [hW1]; exact hs0.imm.output, by rw [hsz]; exact Nat.le_trans hs0.imm.lo (by omega)⟩
  have hdlt : ∀ d ∈ ds, d < w.heap.size := fun d hd => (Array.getElem?_eq_some_iff.1 (hm d hd).1).1
  have hnone : ∀ b, w.heap.size ≤ b → u.h b = none := fun b hb => by
    cases ho : u.h b with
    | none => rfl
    | some o => have := hult b o ho; omega
  let F0 : Nat → Prop := fun b => (∃ j, f0 j b) ∨ b = l ∨ b ∈ D :: ds
  have hin0 : InL nx E1 u l (recL fn a.tmps p asg body D .ready none) (D :: ds) (hdo s0) (hdn s0) (G 0 s0) F0 W1 E1 f0 u := by
    refine ⟨g0, Im.le.refl u, fun _ _ => rfl, hs0.local (fun k b hb => hold b (hflt k b hb)) himm1 (by omega), hl1, fun d hd => ?_, hnone l (by omega), fun k hk => by have := hflt k l hk; omega, .inr (.inl rfl), fun b o ho => .inl ho, fun k b hb => .inl ⟨k, hb⟩, ?_⟩
    · rcases List.mem_cons.1 hd with rfl | hd'
      · exact ⟨hD1, hnone _ (by omega), fun k hk => by have := hflt k _ hk; omega, .inr (.inr hd)⟩
      · obtain ⟨h1, h2, h3⟩ := hm d hd'
        exact ⟨(hold d (hdlt d hd')).trans h1, h2, h3, .inr (.inr hd)⟩
    · rintro b (⟨j, hb⟩ | rfl | hb)
      · have := hflt j b hb; omega
      · omega
      · rcases List.mem_cons.1 hb with rfl | hb
        · omega
        · have := hdlt b hb; omega
  have hoff0 : ∀ b, F0 b → u.h b = none := by
    rintro b (⟨j, hb⟩ | rfl | hb)
    · exact hs0.off j b hb
    · exact hnone _ (by omega)
    · rcases List.mem_cons.1 hb with rfl | hb
      · exact hnone _ (by omega)
      · exact (hm b hb).2.1
  have hR := rounds_ofN (P := P) (N := N) (l := l) (keep := nx) (ue := u) (E0 := E1) (tm := a.tmps) (kn := kn') hagr hkn (D :: ds) fn p asg body D hdo hdn G hxo hxn GX hfree hfreex hnx (blt_lt hp) (xs := xs) (fun k x s u' Fr Fr' => hround l k x s u' Fr Fr')
  have hnd' : (D :: ds).Nodup := List.nodup_cons.2 ⟨fun h => by have := hdlt D h; omega, hnd⟩
  refine ⟨l, [{ target := .collected D, args := #[] }], W1, { target := .fn (.func gf) caps, args := #[.func (.yield l) #[] #[]] }, W1, gf, #[.func (.yield l) #[] #[]] ++ caps, W1, ?_, ?_, fun _ _ => trivial, ?_, fun h => (by cases h), ?_⟩
  · have := run_enterLoop_outer (P := P) (w := w) fn a.tmps #[p] asg body
    rw [hW1, hl, hD]; exact this
  · simp only [resolve, eg]
    simp [go_sem]
  · simp [invoke, go_sem, hfn.run]
  · refine (calls_in (hit l _ _ W1 F0 hR himm1 ⟨s0, E1, f0, u, hin0⟩ hoff0)).mono ?_
    have fin : ∀ {rec : Loop} {ow' : Own} {nx' : Nat} {G' : Im → Prop} {F' : Nat → Prop} {w3 : World} {E' : Env} {f' : Nat → Nat → Prop} {uc : Im} (o : Obj), InL nx E1 u l rec (D :: ds) ow' nx' G' F' w3 E' f' uc → nx ≤ nx' →
        Ok ⟨P, none, N⟩ E' ⟨kn', [], ow', nx'⟩ uc { a with defers := [{ target := .collected D, args := #[] }] ++ a.defers } (w3.putObj l o) := by
      intro rec ow' nx' G' F' w3 E' f' uc o hI hn
      have hoth : ∀ b, b ≠ l → (w3.putObj l o).heap[b]? = w3.heap[b]? := fun b hb => World.putObj_heap_other hb
      have hsz3 : (w3.putObj l o).heap.size = w3.heap.size := by simp [World.putObj]
      have himm : Imm uc (w3.putObj l o) := ⟨fun b x hb => by rw [hoth b (fun e => by subst e; rw [hI.lu] at hb; cases hb)]; exact hI.sat.imm.h b x hb, hI.sat.imm.os, hI.sat.imm.tape, hI.sat.imm.output, by rw [hsz3]; exact hI.sat.imm.lo⟩
      have hs4 := hI.sat.local (w' := w3.putObj l o) (fun k b hb => hoth b (fun e => by subst e; exact hI.lf k hb)) himm (Nat.le_of_eq hsz3.symm)
      refine ⟨hagr.keepE hkn hI.env hn, f', hs4.holds, hs4.non, hs4.apart, hs4.off, hs4.lt, hs4.imm, D :: ds, ?_, hnd', fun d hd => ?_⟩
      · rw [hds]; rfl
      · obtain ⟨h1, h2, h3, _⟩ := hI.ml d hd
        refine ⟨?_, h2, h3⟩
        rw [hoth d (fun e => by rw [e, hI.loop] at h1; cases h1)]
        exact h1
    rintro e w3 ⟨v, F', rfl, hst, hY | hZ⟩
    · obtain ⟨s, E', f', uc, hI⟩ := hY
      refine ⟨none, _, run_endLoop (P := P) hI.loop (by simp [recL]), ?_⟩
      exact ⟨E', _, uc, fun k hk => (hI.env k hk).trans (hE1 k hk), Nat.le_of_lt (hnx s), hI.le, fin _ hI (Nat.le_of_lt (hnx s)), hdone s uc hI.le hI.g⟩
    · obtain ⟨⟨t, cj⟩, E', f', uc, hI⟩ := hZ
      refine ⟨some cj, _, run_endLoop (P := P) hI.loop (by simp [recL]), ?_⟩
      obtain ⟨e, hj, hgx⟩ := hI.g
      have hq : SemQ ⟨P, none, N⟩ E nx u Q e { a with defers := [{ target := .collected D, args := #[] }] ++ a.defers } (w3.putObj l (.loop { recL fn a.tmps p asg body D .done (some cj) with state := .exhausted })) :=
        ⟨E', _, uc, fun k hk => (hI.env k hk).trans (hE1 k hk), hnxx t, hI.le, fin _ hI (hnxx t), hstop t e uc hI.le hgx⟩
      show cj.wpIn (FR none) 0 P (SemQ ⟨P, none, N⟩ E nx u Q) _ _
      cases e with
      | ret => cases hj; exact wpIn_ret hq
      | exit id => cases hj; exact wpIn_exit hq
      | goto t => cases hj; exact wpIn_goto hq
      | normal => cases hj
      | panic c => cases hj
      | outgrown => cases hj
theorem x_rangeN {l0 kF : Nat} {FrO : Hp} {σ τ : Type} {P : Program} {N : Nat} {g : Operand} {p : Nat} {asg body : Code} {Q : Post} {kn : Kn} {ow : Own} {nx : Nat} {u : Im} {gf : Nat} {caps : Array Value} {xs : List Value}
    (hFk : look ow kF = some (.gen FrO)) (hFl : ∀ u F w, FrO.h u F w → ∃ r, w.heap[l0]? = some (.loop r))
    (hg : opd ⟨kn, [], ow, nx⟩ [] g = some (.v (.func (.func gf) #[] caps))) (hfn : Fn1 P gf) (hit : Iter P gf caps xs u)
    (kn' : Kn) (hdo : σ → Own) (hdn : σ → Nat) (G : Nat → σ → Im → Prop) (hxo : τ → Own) (hxn : τ → Nat) (GX : τ → Exit → Im → Prop) (s0 : σ) (ρ0 : Ren)
    (h0 : Sub nx ρ0 ⟨kn, [], ow, nx⟩ ⟨kn', [], hdo s0, hdn s0⟩) (g0 : G 0 s0 u) (hkn : kn'.all (fun x => x.2.inN nx) = true)
    (hfree : ∀ s, look (hdo s) nx = none) (hfreex : ∀ t, look (hxo t) nx = none) (hnx : ∀ s, nx < hdn s) (hnxx : ∀ t, nx ≤ hxn t) (hp : Nat.blt p N = true)
    (hround : ∀ l k x s u' (Fr Fr' : Hp), (∀ u F w, Fr'.h u F w → ∃ r, w.heap[l]? = some (.loop r)) → xs[k]? = some x → u.le u' → G k s u' →
      X ⟨P, some l, N⟩ asg (onlyN fun st1 u1 => st1.gk = [] ∧ look st1.ow nx = some (.gen Fr) ∧ X ⟨P, some l, N⟩ body (RQ nx hdo hdn (G (k + 1)) hxo hxn GX Fr') ⟨st1.kn, [], (nx, .gen Fr') :: st1.ow, st1.nx⟩ u1)
        ⟨(p, .v x) :: kn', [], (nx, .gen Fr) :: hdo s, hdn s⟩ u')
    (hdone : ∀ s u', u.le u' → G xs.length s u' → Q .normal ⟨kn', [], hdo s, hdn s⟩ u')
    (hstop : ∀ t e u', u.le u' → GX t e u' → Q e ⟨kn', [], hxo t, hxn t⟩ u') : X ⟨P, some l0, N⟩ (.rangeFunc g #[p] asg body) Q ⟨kn, [], ow, nx⟩ u := by
  unfold X
  intro E a w hok
  obtain ⟨fO, hsO⟩ := hok.sat
  obtain ⟨rO, hrO⟩ := hFl _ _ _ (hsO.holds kF _ hFk)
  obtain ⟨E1, hE1, hok1⟩ := h0.ok hok
  obtain ⟨f0, hs0⟩ := hok1.sat
  have hagr := hok1.agr
  have hgs : gs a.tmps [] := fun x hx => by cases hx
  obtain ⟨eg, _⟩ := opd_sound hok.agr hgs hg
  simp only [SV.den] at eg
  obtain ⟨ds, hds, hnd, hm⟩ := hs0.marks
  refine wpIn_rangeFunc ?_
  intro fn _
  obtain ⟨l, hl⟩ : ∃ l, l = w.heap.size := ⟨_, rfl⟩
  obtain ⟨W1, hW1⟩ : ∃ W1, W1 = w.alloc (.loop (recL fn a.tmps p asg body rO.defers .ready none)) := ⟨_, rfl⟩
  have hsz : W1.heap.size = w.heap.size + 1 := by rw [hW1, World.size_alloc]
  have hold : ∀ b, b < w.heap.size → W1.heap[b]? = w.heap[b]? := fun b hb => by
    rw [hW1, Below.heap_alloc _ _ _ hb]
  have hl1 : W1.heap[l]? = some (.loop (recL fn a.tmps p asg body rO.defers .ready none)) := by
    rw [hW1, hl]; exact heap_alloc_new w _
  have hult : ∀ b o, u.h b = some o → b < w.heap.size := fun b o ho => (Array.getElem?_eq_some_iff.1 (hs0.imm.h b o ho)).1
  have hflt : ∀ k b, f0 k b → b < w.heap.size := fun k b hb => hs0.fin hb
  have himm1 : Imm u W1 := ⟨fun b o ho => (hold b (hult b o ho)).trans (hs0.imm.h b o ho), by rw [hW1]; exact hs0.imm.os, by rw [hW1]; exact hs0.imm.tape, by rw [hW1]; exact hs0.imm.output, by rw [hsz]; exact Nat.le_trans hs0.imm.lo (by omega)⟩
  have hdlt : ∀ d ∈ ds, d < w.heap.size := fun d hd => (Array.getElem?_eq_some_iff.1 (hm d hd).1).1
  have hnone : ∀ b, w.heap.size ≤ b → u.h b = none := fun b hb => by
    cases ho : u.h b with
    | none => rfl
    | some o => have := hult b o ho; omega
  let F0 : Nat → Prop := fun b => (∃ j, f0 j b) ∨ b = l ∨ b ∈ ds
  have hin0 : InL nx E1 u l (recL fn a.tmps p asg body rO.defers .ready none) ds (hdo s0) (hdn s0) (G 0 s0) F0 W1 E1 f0 u := by
    refine ⟨g0, Im.le.refl u, fun _ _ => rfl, hs0.local (fun k b hb => hold b (hflt k b hb)) himm1 (by omega), hl1, fun d hd => ?_, hnone l (by omega), fun k hk => by have := hflt k l hk; omega, .inr (.inl rfl), fun b o ho => .inl ho, fun k b hb => .inl ⟨k, hb⟩, ?_⟩
    · obtain ⟨h1, h2, h3⟩ := hm d hd
      exact ⟨(hold d (hdlt d hd)).trans h1, h2, h3, .inr (.inr hd)⟩
    · rintro b (⟨j, hb⟩ | rfl | hb)
      · have := hflt j b hb; omega
      · omega
      · have := hdlt b hb; omega
  have hoff0 : ∀ b, F0 b → u.h b = none := by
    rintro b (⟨j, hb⟩ | rfl | hb)
    · exact hs0.off j b hb
    · exact hnone _ (by omega)
    · exact (hm b hb).2.1
  have hR := rounds_ofN (P := P) (N := N) (l := l) (keep := nx) (ue := u) (E0 := E1) (tm := a.tmps) (kn := kn') hagr hkn ds fn p asg body rO.defers hdo hdn G hxo hxn GX hfree hfreex hnx (blt_lt hp) (xs := xs) (fun k x s u' Fr Fr' => hround l k x s u' Fr Fr')
  refine ⟨l, [], W1, { target := .fn (.func gf) caps, args := #[.func (.yield l) #[] #[]] }, W1, gf, #[.func (.yield l) #[] #[]] ++ caps, W1, ?_, ?_, fun _ _ => trivial, ?_, fun h => (by cases h), ?_⟩
  · have := run_enterLoop_inner (P := P) hrO fn a.tmps #[p] asg body
    rw [hW1, hl]; exact this
  · simp only [resolve, eg]
    simp [go_sem]
  · simp [invoke, go_sem, hfn.run]
  · refine (calls_in (hit l _ _ W1 F0 hR himm1 ⟨s0, E1, f0, u, hin0⟩ hoff0)).mono ?_
    have fin : ∀ {rec : Loop} {ow' : Own} {nx' : Nat} {G' : Im → Prop} {F' : Nat → Prop} {w3 : World} {E' : Env} {f' : Nat → Nat → Prop} {uc : Im} (o : Obj), InL nx E1 u l rec ds ow' nx' G' F' w3 E' f' uc → nx ≤ nx' →
        Ok ⟨P, some l0, N⟩ E' ⟨kn', [], ow', nx'⟩ uc { a with defers := [] ++ a.defers } (w3.putObj l o) := by
      intro rec ow' nx' G' F' w3 E' f' uc o hI hn
      have hoth : ∀ b, b ≠ l → (w3.putObj l o).heap[b]? = w3.heap[b]? := fun b hb => World.putObj_heap_other hb
      have hsz3 : (w3.putObj l o).heap.size = w3.heap.size := by simp [World.putObj]
      have himm : Imm uc (w3.putObj l o) := ⟨fun b x hb => by rw [hoth b (fun e => by subst e; rw [hI.lu] at hb; cases hb)]; exact hI.sat.imm.h b x hb, hI.sat.imm.os, hI.sat.imm.tape, hI.sat.imm.output, by rw [hsz3]; exact hI.sat.imm.lo⟩
      have hs4 := hI.sat.local (w' := w3.putObj l o) (fun k b hb => hoth b (fun e => by subst e; exact hI.lf k hb)) himm (Nat.le_of_eq hsz3.symm)
      refine ⟨hagr.keepE hkn hI.env hn, f', hs4.holds, hs4.non, hs4.apart, hs4.off, hs4.lt, hs4.imm, ds, ?_, hnd, fun d hd => ?_⟩
      · rw [List.nil_append]; exact hds
      · obtain ⟨h1, h2, h3, _⟩ := hI.ml d hd
        refine ⟨?_, h2, h3⟩
        rw [hoth d (fun e => by rw [e, hI.loop] at h1; cases h1)]
        exact h1
    rintro e w3 ⟨v, F', rfl, hst, hY | hZ⟩
    · obtain ⟨s, E', f', uc, hI⟩ := hY
      refine ⟨none, _, run_endLoop (P := P) hI.loop (by simp [recL]), ?_⟩
      exact ⟨E', _, uc, fun k hk => (hI.env k hk).trans (hE1 k hk), Nat.le_of_lt (hnx s), hI.le, fin _ hI (Nat.le_of_lt (hnx s)), hdone s uc hI.le hI.g⟩
    · obtain ⟨⟨t, cj⟩, E', f', uc, hI⟩ := hZ
      refine ⟨some cj, _, run_endLoop (P := P) hI.loop (by simp [recL]), ?_⟩
      obtain ⟨e, hj, hgx⟩ := hI.g
      have hq : SemQ ⟨P, some l0, N⟩ E nx u Q e { a with defers := [] ++ a.defers } (w3.putObj l (.loop { recL fn a.tmps p asg body rO.defers .done (some cj) with state := .exhausted })) :=
        ⟨E', _, uc, fun k hk => (hI.env k hk).trans (hE1 k hk), hnxx t, hI.le, fin _ hI (hnxx t), hstop t e uc hI.le hgx⟩
      show cj.wpIn (FR (some l0)) 0 P (SemQ ⟨P, some l0, N⟩ E nx u Q) _ _
      cases e with
      | ret => cases hj; exact wpIn_ret hq
      | exit id => cases hj; exact wpIn_exit hq
      | goto t => cases hj; exact wpIn_goto hq
      | normal => cases hj
      | panic c => cases hj
      | outgrown => cases hj
end Go.GV
namespace Go.GV
open Go.RowKit
theorem getD_set (L : Array Bool) (i j : Nat) (d : Bool) : (L.setIfInBounds i true).getD j d = if i = j ∧ i < L.size then true else L.getD j d := by
  simp only [Array.getD_eq_getD_getElem?, Array.getElem?_setIfInBounds]
  by_cases h : i = j
  · subst h
    by_cases h2 : i < L.size
    · simp [h2]
    · simp [h2]
  · simp [h]
theorem getD_ne {L : Array Bool} {i j : Nat} {d : Bool} (h : ¬ i = j) : (L.setIfInBounds i true).getD j d = L.getD j d := by
  rw [getD_set]; simp [h]
structure Mid (md : Region.Mode) (ops : Array Oper) (L0 : Array Bool) (l : List Nat) (L : Array Bool) : Prop where
  sz : L.size = L0.size
  lo : ∀ i, i ∉ l → L.getD i false = L0.getD i false
  dn : ∀ j ∈ l, L.getD j false = true → ∀ o, ops[j]? = some o → ∀ e ∈ o.after, Region.binds md e = true → L.getD e.on false = true
theorem Mid.set {md : Region.Mode} {ops : Array Oper} {L0 L : Array Bool} {l : List Nat} (h : Mid md ops L0 l L) {i : Nat} (hi : i ∈ l) (hr : i ∈ Region.ready md ops L) (hsz : i < L.size) : Mid md ops L0 l (L.setIfInBounds i true) := by
  obtain ⟨h1, o, ho, h2⟩ := Go.mem_ready.1 hr
  refine ⟨by rw [Array.size_setIfInBounds]; exact h.sz, fun j hj => ?_, fun j hj hl o' ho' e he hb => ?_⟩
  · rw [getD_ne (fun hh : i = j => hj (hh ▸ hi))]; exact h.lo j hj
  · rw [getD_set]
    split
    · rfl
    · by_cases hji : i = j
      · subst hji
        rw [ho] at ho'; cases ho'
        exact h2 e he hb
      · rw [getD_ne hji] at hl
        exact h.dn j hj hl o' ho' e he hb
end Go.GV
namespace Go.GV
open Go.RowKit
end Go.GV
namespace Go.GV
open Go.RowKit
theorem xl_slG {C : Cx} {all l : List Oper} {Q : Post} {kn : Kn} {gk : List (Nat × (Gd × SV))} {ow : Own} {nx : Nat} {u : Im} (d : Nat) {g : Gd} {x : Value} {D : Data} (hd : look gk d = some (g, .v x)) (hx : SlAt u x D)
    (h : XL C all l Q ⟨kn, (d, (g, .r nx)) :: gk, (nx, .sl D) :: ow, nx + 1⟩ u) : XL C all l Q ⟨kn, gk, ow, nx⟩ u := by
  unfold XL at h ⊢
  intro E a w hok
  obtain ⟨f, hsat⟩ := hok.sat
  have hE : ∀ k, k < nx → upd E nx x k = E k := fun k hk => upd_other _ _ (by omega)
  have hg := hok.agr.grow (E' := upd E nx x) (ow := (nx, .sl D) :: ow) (nx := nx + 1) hE (Nat.le_succ _)
  have hsat' : Sat (upd E nx x) ((nx, .sl D) :: ow) (nx + 1) u a.defers w (upd f nx (fun _ => False)) := by
    refine hsat.step (fun k => k = nx) hE (Nat.le_succ _) (Im.le.refl u) hsat.imm (Nat.le_refl _) (fun b _ _ => rfl) ?_ ?_ ?_ (fun b o ho => .inl ho)
    · intro k hk
      exact ⟨by rw [look_cons, if_neg (fun e => hk e.symm)], fun b => by rw [upd_other _ _ hk]⟩
    · rintro k rfl
      refine ⟨fun r hr => ?_, fun hr => ?_, fun b hb => ?_⟩
      · rw [look_cons, if_pos rfl] at hr
        cases hr
        refine ⟨⟨by rw [upd_same]; exact hx, fun y hy => by rw [upd_same] at hy; exact hy⟩, Nat.lt_succ_self _, trivial⟩
      · rw [look_cons, if_pos rfl] at hr; cases hr
      · rw [upd_same] at hb; exact hb.elim
    · intro k k' b hk hk' hne; subst hk hk'; exact absurd rfl hne
  obtain ⟨A, c, hv⟩ := hx.form
  have hd' := hok.agr.gk d g _ hd
  have := h (upd E nx x) a w ⟨⟨hg.size, fun t s h1 h2 => ?_, fun t g' s h1 => ?_, fun t s h2 => hg.klt t s h2, fun t g' s h1 hgs => ?_⟩, _, hsat'⟩
  · exact wpListIn_monoQ (fun e a w => SemQ.mono hE (Nat.le_succ _) (Im.le.refl u)) _ _ _ this
  · rw [look_cons] at h1
    split at h1
    · cases h1
    · exact hg.kn t s h1 h2
  · rw [look_cons] at h1
    split at h1
    · rename_i e1; subst e1; cases h1
      refine ⟨fun hgs => ?_, hd'.2⟩
      rw [hd'.1 hgs]
      simp only [SV.den, upd_same]
    · exact hg.gk t g' s h1
  · rw [look_cons] at h1
    split at h1
    · cases h1; exact ⟨Nat.lt_succ_self _, A, D.n, c, by rw [upd_same]; exact hv⟩
    · exact hg.glt t g' s h1 hgs
end Go.GV
namespace Go.GV
open Go.RowKit
end Go.GV
namespace Go.GV
open Go.RowKit
def SV.frz (k : Nat) (x : Value) : SV → SV
  | .r j => match Nat.beq j k with
    | true => .v x
    | false => .r j
  | s => s
end Go.GV
namespace Go.GV
open Go.RowKit
abbrev Tbl := List (List Nat × List Nat)
def tblOk (ops : Array Oper) (L0 : Array Bool) (N : Nat) (T : Tbl) : Bool :=
  T.all fun x => decide (Region.ready .any ops (marks L0 x.1) = x.2) && (decide (x.1.length = N) || (!x.2.isEmpty && x.2.all fun i => (ops[i]?).isSome && T.any fun y => decide (y.1.length = x.1.length + 1) && decide (marks L0 y.1 = (marks L0 x.1).setIfInBounds i true)))
def owesI (C : Cx) (ops : Array Oper) (u : Im) (keep : Nat) (F : List Nat → St) (nx : List Nat → Nat → List Nat) (D : List Nat) : List Nat → Prop
  | [] => True
  | i :: r => (match ops[i]? with
    | some o => ∀ u', u.le u' → XL C ops.toList [o] (onlyN (Meet keep (fun _ : Unit => F (nx D i)) (fun _ _ => True))) (F D) u'
    | none => True) ∧ owesI C ops u keep F nx D r
def owes (C : Cx) (ops : Array Oper) (u : Im) (keep N : Nat) (F : List Nat → St) (nx : List Nat → Nat → List Nat) : Tbl → Prop
  | [] => True
  | (D, l) :: r => (match Nat.beq D.length N with
    | true => True
    | false => owesI C ops u keep F nx D l) ∧ owes C ops u keep N F nx r
theorem owesI_mem {C : Cx} {ops : Array Oper} {u : Im} {keep : Nat} {F : List Nat → St} {nx : List Nat → Nat → List Nat} {D : List Nat} : ∀ {l : List Nat}, owesI C ops u keep F nx D l → ∀ i ∈ l, ∀ o, ops[i]? = some o → ∀ u', u.le u' → XL C ops.toList [o] (onlyN (Meet keep (fun _ : Unit => F (nx D i)) (fun _ _ => True))) (F D) u'
  | [], _, i, hi, _, _ => by cases hi
  | j :: r, h, i, hi, o, ho => by
    rcases List.mem_cons.1 hi with rfl | hi
    · have h1 := h.1
      rw [ho] at h1
      exact h1
    · exact owesI_mem h.2 i hi o ho
theorem owes_mem {C : Cx} {ops : Array Oper} {u : Im} {keep N : Nat} {F : List Nat → St} {nx : List Nat → Nat → List Nat} : ∀ {T : Tbl}, owes C ops u keep N F nx T → ∀ x ∈ T, x.1.length ≠ N → owesI C ops u keep F nx x.1 x.2
  | [], _, x, hx, _ => by cases hx
  | (D, l) :: r, h, x, hx, hn => by
    rcases List.mem_cons.1 hx with rfl | hx
    · have h1 := h.1
      rw [show Nat.beq D.length N = false from by cases hb : Nat.beq D.length N with
        | true => exact absurd (Nat.eq_of_beq_eq_true hb) hn
        | false => rfl] at h1
      exact h1
    · exact owes_mem h.2 x hx hn
def nxOk (L0 : Array Bool) (N : Nat) (nx : List Nat → Nat → List Nat) (T : Tbl) : Bool :=
  T.all fun x => decide (x.1.length = N) || x.2.all fun i => T.any fun y => decide (y.1 = nx x.1 i) && decide (y.1.length = x.1.length + 1) && decide (marks L0 y.1 = (marks L0 x.1).setIfInBounds i true)
theorem xa_fam0 {C : Cx} {ops : Array Oper} {Q : Post} {u0 : Im} {fuel keep N : Nat} {L0 : Array Bool} (T : Tbl) (F : List Nat → St) (nx : List Nat → Nat → List Nat) (hT : tblOk ops L0 N T = true) (hx : nxOk L0 N nx T = true)
    (hkeep : ∀ D, keep ≤ (F D).nx) (ho : owes C ops u0 keep N F nx T) (hend : ∀ x ∈ T, x.1.length = N → ∀ u, u0.le u → XA C ops fuel (marks L0 x.1) Q (F x.1) u) :
    ∀ (k : Nat) (x : List Nat × List Nat) (u : Im), x ∈ T → x.1.length + k = N → u0.le u → ∀ E a w, Ok C E (F x.1) u a w →
      wpAnyIn (FR C.ro) 0 C.P .any ops (SemQ C E keep u Q) (k + fuel) (marks L0 x.1) a w
  | 0, x, u, hxT, hk, hu, E, a, w, hok => by
    have h := hend x hxT (by omega) u hu E a w hok
    rw [Nat.zero_add]
    exact wpAnyIn_post (fun e a w => SemQ.mono (fun _ _ => rfl) (hkeep _) (Im.le.refl u)) h
  | k + 1, x, u, hxT, hk, hu, E, a, w, hok => by
    have t1 := List.all_eq_true.1 hT x hxT
    have t2 := List.all_eq_true.1 hx x hxT
    rw [Bool.and_eq_true, decide_eq_true_eq, Bool.or_eq_true, decide_eq_true_eq, Bool.and_eq_true] at t1
    rw [Bool.or_eq_true, decide_eq_true_eq] at t2
    obtain ⟨r1, r2⟩ := t1
    have r3 := r2.resolve_left (by omega)
    have t3 := List.all_eq_true.1 (t2.resolve_left (by omega))
    have hne : x.2 ≠ [] := by
      intro h0
      rw [h0] at r3
      exact absurd r3.1 (by simp)
    rw [show k + 1 + fuel = (k + fuel) + 1 by omega]
    refine wpAnyIn_all r1 hne fun j hj => ?_
    have r4 := List.all_eq_true.1 r3.2 j hj
    rw [Bool.and_eq_true] at r4
    obtain ⟨o, hoj⟩ := Option.isSome_iff_exists.1 r4.1
    have h5 := t3 j hj
    rw [List.any_eq_true] at h5
    obtain ⟨y, hy, h6⟩ := h5
    simp only [Bool.and_eq_true, decide_eq_true_eq] at h6
    obtain ⟨⟨y1, y2⟩, y3⟩ := h6
    have h1 := owesI_mem (owes_mem ho x hxT (by omega)) j hj o hoj u hu
    unfold XL at h1
    have h2 := h1 E a w hok
    have key : wpOpIn (FR C.ro) 0 C.P ops (SemQ C E (F x.1).nx u (onlyN (Meet keep (fun _ : Unit => F (nx x.1 j)) (fun _ _ => True)))) j
        (fun a' w' => SemQ C E (F x.1).nx u (onlyN (Meet keep (fun _ : Unit => F (nx x.1 j)) (fun _ _ => True))) .normal a' w') a w := by
      unfold wpOpIn
      simp only [hoj]
      unfold wpListIn at h2
      simp only [wpListIn] at h2
      exact h2
    refine wpOpIn_post ?_ ?_ key
    · rintro e a' w' hne' ⟨E', st', u', h2, h3, h4, h5, h6⟩
      cases e with
      | normal => exact absurd rfl hne'
      | exit id => exact h6.elim
      | goto l => exact h6.elim
      | ret => exact h6.elim
      | panic c => exact h6.elim
      | outgrown => exact h6.elim
    · rintro a' w' ⟨E', st', u', h2, h3, h4, h5, h6⟩
      have h6 : Meet keep (fun _ : Unit => F (nx x.1 j)) (fun _ _ => True) st' u' := h6
      unfold Meet at h6
      obtain ⟨_, ρ, h7, _⟩ := h6
      obtain ⟨E2, q1, q2⟩ := h7.ok h5
      rw [← y1] at q2
      have ih := xa_fam0 T F nx hT hx hkeep ho hend k y u' hy (by omega) (hu.trans h4) E2 a' w' q2
      rw [← y3]
      refine wpAnyIn_post (fun e a w => SemQ.mono (fun j hj => ?_) (Nat.le_refl _) h4) ih
      rw [q1 j hj, h2 j (Nat.lt_of_lt_of_le hj (hkeep _))]
theorem xa_fam {C : Cx} {ops : Array Oper} {Q : Post} {st : St} {u : Im} {fuel n N : Nat} {L0 : Array Bool} (T : Tbl) (F : List Nat → St) (nx : List Nat → Nat → List Nat) (hn : n = N + fuel) (hT : tblOk ops L0 N T = true) (hx : nxOk L0 N nx T = true)
    (h0 : (T.any fun x => decide (x.1 = [])) = true) (ρ : Ren) (hsub : Sub st.nx ρ st (F [])) (hkeep : ∀ D, st.nx ≤ (F D).nx) (ho : owes C ops u st.nx N F nx T)
    (full : List Nat) (hfull : (T.all fun x => !decide (x.1.length = N) || decide (x.1 = full)) = true) (hend : ∀ u', u.le u' → XA C ops fuel (marks L0 full) Q (F full) u') : XA C ops n L0 Q st u := by
  subst hn
  intro E a w hok
  obtain ⟨E2, q1, q2⟩ := hsub.ok hok
  rw [List.any_eq_true] at h0
  obtain ⟨x, hxT, hx0⟩ := h0
  have hx0 : x.1 = [] := of_decide_eq_true hx0
  have hend' : ∀ x ∈ T, x.1.length = N → ∀ u', u.le u' → XA C ops fuel (marks L0 x.1) Q (F x.1) u' := fun x hx hl u' hu => by
    have := List.all_eq_true.1 hfull x hx
    rw [Bool.or_eq_true, decide_eq_true_eq] at this
    rw [this.resolve_left (by simp [hl])]
    exact hend u' hu
  have h := xa_fam0 T F nx hT hx hkeep ho hend' N x u hxT (by rw [hx0]; simp) (Im.le.refl u) E2 a w (by rw [hx0]; exact q2)
  rw [hx0] at h
  exact wpAnyIn_post (fun e a w => SemQ.mono q1 (Nat.le_refl _) (Im.le.refl u)) h
def selD {α : Type} (D : List Nat) : List (Nat × α) → List α
  | [] => []
  | (i, x) :: r => match elemB i D with
    | true => x :: selD D r
    | false => selD D r
def selN {α : Type} (D : List Nat) : List (Nat × α) → List α
  | [] => []
  | (i, x) :: r => match elemB i D with
    | true => selN D r
    | false => x :: selN D r
def first1 {α : Type} (D : List Nat) : List (Nat × α) → Option α
  | [] => none
  | (i, x) :: r => match elemB i D with
    | true => some x
    | false => first1 D r
def selO {α : Type} (D : List Nat) : List (Nat × List (Nat × α)) → List (Nat × α)
  | [] => []
  | (k, l) :: r => match first1 D l with
    | some x => (k, x) :: selO D r
    | none => selO D r
def insD (i : Nat) : List Nat → List Nat
  | [] => [i]
  | j :: r => match Nat.blt i j with
    | true => i :: j :: r
    | false => j :: insD i r
end Go.GV
namespace Go.GV
open Go.RowKit
theorem Sat.starMoreP {E : Env} {o : Own} {nx : Nat} {u : Im} {df : List Deferred} {w : World} {f : Nat → Nat → Prop} (h : Sat E o nx u df w f) {s : Nat} {l : List SI} (hs : look o s = some (.gen (starHp l))) (q : SI) (hqo : q.own w) (hqn : q.x.ownBlock = none) :
    Sat E ((s, .gen (starHp (l ++ [q]))) :: o) nx u df w f := by
  obtain ⟨h1, h2, h3⟩ := h.holds s _ hs
  refine h.regroup (fun j => j = s) (fun _ _ => rfl) (Nat.le_refl _) ?_ ?_ ?_
  · intro j hj
    exact ⟨by rw [look_cons, if_neg (fun e => hj e.symm)], fun _ => Iff.rfl⟩
  · rintro j rfl
    refine ⟨fun r hr => ?_, fun hr => ?_, fun b hb => ⟨j, rfl, hb⟩⟩
    · rw [look_cons, if_pos rfl] at hr
      cases hr
      refine ⟨⟨fun p hp => ?_, ?_, fun b => ?_⟩, (h.lt j _ hs).1, trivial⟩
      · rcases List.mem_append.1 hp with hp | hp
        · exact h1 p hp
        · rw [List.mem_singleton.1 hp]; exact hqo
      · rw [starDis_at, List.append_nil]
        exact ⟨h2, fun q' _ b hb => by rw [hqn] at hb; cases hb⟩
      · rw [starF_at, List.append_nil, h3, hqn]; simp
    · rw [look_cons, if_pos rfl] at hr; cases hr
  · intro k k' b hk hk' hne; subst hk hk'; exact absurd rfl hne
theorem xl_starNil {α : Type} {C : Cx} {all l : List Oper} {Q : Post} {kn : Kn} {gk : List (Nat × (Gd × SV))} {ow : Own} {nx : Nat} {u : Im} (s : Nat) (e : TypeId) (Y : Lay α) {sl : List SI} (hs : look ow s = some (.gen (starHp sl)))
    (K : XL C all l Q ⟨kn, gk, (s, .gen (starHp (sl ++ [⟨.slice none 0 0, e, Y.d []⟩]))) :: ow, nx⟩ u) : XL C all l Q ⟨kn, gk, ow, nx⟩ u := by
  unfold XL at K ⊢
  intro E a w hok
  obtain ⟨f, hsat⟩ := hok.sat
  exact K E a w ⟨⟨hok.agr.size, hok.agr.kn, hok.agr.gk, hok.agr.klt, hok.agr.glt⟩, _, hsat.starMoreP hs _ ⟨by rw [GV.flat_length], .inl ⟨rfl, rfl⟩⟩ rfl⟩
end Go.GV
namespace Go.Proofs.YtnjmkeijjapejaaDoor
open Go.GV Go.RowKit
abbrev Par := List (List ByteArray)
def opn (st : Par × Bool) : Par := if st.2 then st.1 else st.1 ++ [[]]
def addW (st : Par × Bool) (y : ByteArray) : Par × Bool := ((opn st).set ((opn st).length - 1) ((opn st).getD ((opn st).length - 1) [] ++ [y]), true)
def parLine (st : Par × Bool) (ws : List ByteArray) : Par × Bool := if ws = [] then (st.1, false) else ws.foldl addW st
def wsOf (s : ByteArray) : List (List ByteArray) := (linesP s).map wordsP
def parP (s : ByteArray) : Par := ((wsOf s).foldl parLine ([], false)).1
def szR (R : Par) : Nat := (R.map List.length).sum
theorem sumSet : ∀ (l : List Nat) (i : Nat) (a : Nat), i < l.length → (l.set i a).sum + l.getD i 0 = l.sum + a
  | [], i, a, h => by simp at h
  | x :: l, 0, a, h => by simp; omega
  | x :: l, i + 1, a, h => by
    simp only [List.length_cons, Nat.add_lt_add_iff_right] at h
    have := sumSet l i a h
    simp only [List.set_cons_succ, List.sum_cons, List.getD_cons_succ]
    omega
theorem opn_ok (st : Par × Bool) (h : st.2 = true → st.1 ≠ []) : szR (opn st) = szR st.1 ∧ 0 < (opn st).length ∧ (opn st).length ≤ st.1.length + 1 := by
  unfold opn
  split
  · rename_i hb
    exact ⟨rfl, List.length_pos_iff.2 (h hb), Nat.le_succ _⟩
  · exact ⟨by simp [szR], by simp, by simp⟩
theorem addW_ok (st : Par × Bool) (y : ByteArray) (h : st.2 = true → st.1 ≠ []) (hl : st.1.length ≤ szR st.1) : szR (addW st y).1 = szR st.1 + 1 ∧ (addW st y).1 ≠ [] ∧ (addW st y).1.length ≤ szR (addW st y).1 := by
  obtain ⟨h1, h2, h3⟩ := opn_ok st h
  have e : szR (addW st y).1 = szR st.1 + 1 := by
    unfold szR addW
    simp only [List.map_set]
    have := sumSet ((opn st).map List.length) ((opn st).length - 1) ((opn st).getD ((opn st).length - 1) [] ++ [y]).length (by simp; omega)
    have e2 : ((opn st).map List.length).getD ((opn st).length - 1) 0 = ((opn st).getD ((opn st).length - 1) []).length := by
      simp [List.getD_eq_getElem?_getD, List.getElem?_eq_getElem (show (opn st).length - 1 < (opn st).length by omega)]
    rw [e2, List.length_append] at this
    unfold szR at h1
    simp only [List.length_singleton] at this
    simp only [List.length_append, List.length_singleton]
    omega
  refine ⟨e, ?_, ?_⟩
  · intro hh
    have := congrArg List.length hh
    simp only [addW, List.length_set, List.length_nil] at this
    omega
  · rw [e]
    simp only [addW, List.length_set]
    omega
theorem getD_sz {R : Par} {i : Nat} (h : i < R.length) : (R.getD i []).length ≤ szR R := by
  unfold szR
  induction R generalizing i with
  | nil => simp at h
  | cons r R ih =>
    cases i with
    | zero => simp
    | succ i =>
      simp only [List.length_cons, Nat.add_lt_add_iff_right] at h
      have := ih h
      simp only [List.getD_cons_succ, List.map_cons, List.sum_cons]
      omega
structure SlV where
  a : Option Addr
  n : Nat
  c : Nat
def SlV.val (v : SlV) : Value := .slice v.a v.n v.c
def slY : Lay SlV := ⟨[fun v => .slice v.a v.n v.c], ⟨none, 0, 0⟩⟩
def itemsP (V : List SlV) (R : Par) : List SI := List.zipWith (fun v r => ⟨v.val, 9, strY.d r⟩) V R
theorem itemsP_set {V : List SlV} {R : Par} {i : Nat} {v : SlV} {r : List ByteArray} : itemsP (V.set i v) (R.set i r) = (itemsP V R).set i ⟨v.val, 9, strY.d r⟩ := by
  unfold itemsP
  refine List.ext_getElem? fun j => ?_
  simp only [List.getElem?_zipWith, List.getElem?_set, List.length_zipWith]
  by_cases h : i = j
  · subst h
    simp only [if_true]
    by_cases h1 : i < V.length
    · by_cases h2 : i < R.length
      · rw [if_pos h1, if_pos h2, if_pos (by omega)]
      · rw [if_pos h1, if_neg h2, if_neg (by omega)]
    · rw [if_neg h1, if_neg (show ¬ i < min V.length R.length by omega)]
  · simp only [if_neg h]
theorem itemsP_push {V : List SlV} {R : Par} (h : V.length = R.length) (v : SlV) (r : List ByteArray) : itemsP (V ++ [v]) (R ++ [r]) = itemsP V R ++ [⟨v.val, 9, strY.d r⟩] := by
  unfold itemsP
  rw [List.zipWith_append h]; rfl
theorem itemsP_get {V : List SlV} {R : Par} {i : Nat} (h1 : i < V.length) (h2 : i < R.length) : (itemsP V R)[i]? = some ⟨(V.getD i ⟨none, 0, 0⟩).val, 9, strY.d (R.getD i [])⟩ := by
  unfold itemsP
  rw [List.getElem?_zipWith, List.getElem?_eq_getElem h1, List.getElem?_eq_getElem h2]
  simp [List.getD_eq_getElem?_getD, List.getElem?_eq_getElem h1, List.getElem?_eq_getElem h2]
theorem itemsP_len {V : List SlV} {R : Par} (h : V.length = R.length) : (itemsP V R).length = R.length := by simp [itemsP, h]
def ParsR (R : Par) : Value → Im → Prop := StarR (fun s : Option Addr × Nat × List SlV => .slice s.1 R.length s.2.1) (fun s => itemsP s.2.2 R ++ [⟨.slice s.1 R.length s.2.1, 23, slY.d s.2.2⟩]) (fun s => s.2.2.length = R.length)
theorem strOne1 : ∀ x : ByteArray, ∀ y ∈ strY.el x, oneB y = true := by
  intro x y hy
  simp [Lay.el, strY] at hy
  subst hy; rfl
def tblP : Tbl := [([], [0, 2, 7]), ([0], [2, 7]), ([2], [0, 4, 7]), ([7], [0, 2, 8]), ([0, 2], [4, 7]), ([0, 7], [2, 8]), ([2, 4], [0, 5, 7]), ([2, 7], [0, 4, 8]), ([7, 8], [0, 2]), ([0, 2, 4], [5, 7]), ([0, 2, 7], [4, 8]), ([0, 7, 8], [2]), ([2, 4, 5], [0, 7]), ([2, 4, 7], [0, 5, 8]), ([2, 7, 8], [0, 4]), ([0, 2, 4, 5], [7]), ([0, 2, 4, 7], [5, 8]), ([0, 2, 7, 8], [4]), ([2, 4, 5, 7], [0, 8]), ([2, 4, 7, 8], [0, 5]), ([0, 2, 4, 5, 7], [8]), ([0, 2, 4, 7, 8], [5]), ([2, 4, 5, 7, 8], [0, 9]), ([0, 2, 4, 5, 7, 8], [9]), ([2, 4, 5, 7, 8, 9], [0]), ([0, 2, 4, 5, 7, 8, 9], [10])]
set_option maxHeartbeats 4000000 in
set_option maxRecDepth 100000 in
theorem paragraphs_any (s : ByteArray) (w : World) (hg : Glob (im w)) (hs : s.size < 4294967281) (hT : ((wsOf s).map List.length).sum * 24 + 100 ≤ 140737488355328)
    (hl : ∀ x ∈ linesP s, x.size ≤ 281474976710656 ∧ ∀ y ∈ wordsP x, y.size ≤ 281474976710656) : Calls Tryd.prog 37 #[.string s] w (PureP w (ParsR (parP s))) := by
  refine x_fun tt_ok Tryd.func37 rfl rfl [] 0 [.v (.string s)] rfl rfl rfl rfl (fun b hb => by cases hb) ?_
  refine x_vc tt_ok ?_
  refine xl_call _ rfl rfl rfl rfl fn56 rfl rfl (fun E w F _ => linesFn_any s w) (fun v u1 u2 hu2 hs2 hv => ?_)
  obtain ⟨b, rfl, hb⟩ := hv
  have hb2 := of_sub_cut hs2 hb
  have hg2 : Glob u2 := hg.sub hu2.sub
  refine xl_go tt_ok ?_
  refine x_nilCell 0 23 slY [] [] rfl ?_
  refine x_star0 0 ?_
  refine x_rangeO (σ := Bool × List SlV × Par) (τ := Empty) rfl fn79 (lines_iter s b u2 hb2 hg2 hs) [(3, .p 0 0), (4, .p 1 0)]
    (fun (one, V, R) => [(0, .box 31 [.r 5]), (1, .box 4 [.v (.bool one)]), (5, .row 23 (slY.d V)), (3, .gen (starHp (itemsP V R)))]) (fun _ => 6)
    (fun k (one, V, R) _ => ((wsOf s).take k).foldl parLine ([], false) = (R, one) ∧ V.length = R.length ∧ szR R = (((wsOf s).take k).map List.length).sum ∧ (one = true → R ≠ []) ∧ R.length ≤ szR R)
    (fun _ => []) (fun _ => 6) (fun _ e _ => False) (false, [], []) [(5, some 2)] (.of rfl rfl rfl rfl rfl rfl) ⟨rfl, rfl, rfl, (fun h => by cases h), Nat.le_refl _⟩ rfl
    (fun _ => rfl) (fun _ => rfl) (fun _ => by decide) (fun _ => by decide) rfl (fun l k x st u3 Fr Fr' hFr hx hu3 hgs => ?_) (fun st u3 hu3 hgs => ?_) (fun _ e u3 hu3 hgs => hgs.elim)
  · obtain ⟨one, V, R⟩ := st
    obtain ⟨g1, g2, g3, g4, g5⟩ := hgs
    rw [List.getElem?_map] at hx
    obtain ⟨ln, hln, rfl⟩ := Option.map_eq_some_iff.1 hx
    have hk : (wsOf s)[k]? = some (wordsP ln) := by rw [wsOf, List.getElem?_map, hln]; rfl
    obtain ⟨hl1, hl2⟩ := hl ln (List.mem_of_getElem? hln)
    have hsum : szR R + (wordsP ln).length ≤ ((wsOf s).map List.length).sum := by
      rw [g3]
      have h2 := congrArg (fun l => (l.map List.length).sum) (List.take_append_drop k (wsOf s))
      simp only [List.map_append, List.sum_append] at h2
      rw [show (wsOf s).drop k = wordsP ln :: (wsOf s).drop (k + 1) from drop_get hk] at h2
      simp only [List.map_cons, List.sum_cons] at h2
      omega
    have next : ((wsOf s).take (k + 1)).foldl parLine ([], false) = parLine (R, one) (wordsP ln) := by
      rw [take_get hk, List.foldl_append, g1]; rfl
    have nsum : (((wsOf s).take (k + 1)).map List.length).sum = szR R + (wordsP ln).length := by
      rw [take_get hk, List.map_append, List.sum_append, ← g3]; simp
    refine x_vc tt_ok ?_
    refine ⟨rfl, rfl, x_vc tt_ok ?_⟩
    refine xl_call _ rfl rfl rfl rfl fn57 rfl rfl (fun E w F _ => wordsFn_any ln w) (fun v u4 u5 hu5 hs5 hv => ?_)
    obtain ⟨b2, rfl, hb3⟩ := hv
    have hb4 := of_sub_cut hs5 hb3
    refine xl_go tt_ok ?_
    refine x_rangeN (kF := 4) (FrO := Fr') (σ := Bool × Bool × List SlV × Par) (τ := Empty) rfl hFr rfl fn82 (words_iter ln b2 u5 hb4 (by omega)) [(3, .p 0 0), (4, .p 1 0), (6, .p 6 0)]
      (fun (on, em, V, R) => [(0, .box 31 [.r 8]), (1, .box 4 [.v (.bool on)]), (6, .box 4 [.v (.bool em)]), (8, .row 23 (slY.d V)), (3, .gen (starHp (itemsP V R))), (4, .gen Fr')]) (fun _ => 9)
      (fun j (on, em, V', R') _ => ((wordsP ln).take j).foldl addW (R, one) = (R', on) ∧ V'.length = R'.length ∧ szR R' = szR R + j ∧ (on = true → R' ≠ []) ∧ R'.length ≤ szR R' ∧ em = decide (j = 0) ∧ (0 < j → on = true))
      (fun _ => []) (fun _ => 9) (fun _ e _ => False) (one, true, V, R) [(8, some 5)] (.of rfl rfl rfl rfl rfl rfl) ⟨rfl, g2, rfl, g4, g5, rfl, (fun h => by omega)⟩ rfl
      (fun _ => rfl) (fun _ => rfl) (fun _ => by show 7 < 9; decide) (fun _ => by show 7 ≤ 9; decide) rfl (fun l2 j y st u6 FrI FrI' hFrI hy hu6 hgs2 => ?_) (fun st u6 hu6 hgs2 => ?_) (fun _ e u6 hu6 hgs2 => hgs2.elim)
    · obtain ⟨on, em, V1, R1⟩ := st
      obtain ⟨i1, i2, i3, i4, i5, i6, i7⟩ := hgs2
      rw [List.getElem?_map] at hy
      obtain ⟨wd, hwd, rfl⟩ := Option.map_eq_some_iff.1 hy
      have hjl : j < (wordsP ln).length := (List.getElem?_eq_some_iff.1 hwd).1
      have hws := hl2 wd (List.mem_of_getElem? hwd)
      have nextW : ((wordsP ln).take (j + 1)).foldl addW (R, one) = addW (R1, on) wd := by
        rw [take_get hwd, List.foldl_append, i1]; rfl
      have hadd := addW_ok (R1, on) wd i4 i5
      have hopn := opn_ok (R1, on) i4
      refine x_vc tt_ok ?_
      refine ⟨rfl, rfl, ?_⟩
      refine x_block (x_seq ?_)
      refine x_via (σ := List SlV × Par) (fun (V2, R2) => ⟨[(7, .v (.string wd)), (3, .p 0 0), (4, .p 1 0), (6, .p 6 0)], [],
        [(7, .gen FrI'), (0, .box 31 [.r 9]), (1, .box 4 [.v (.bool on)]), (6, .box 4 [.v (.bool em)]), (9, .row 23 (slY.d V2)), (3, .gen (starHp (itemsP V2 R2))), (4, .gen Fr')], 10⟩)
        (fun (V2, R2) _ => V2.length = R2.length ∧ R2 = opn (R1, on)) (fun _ => by show 9 ≤ 10; decide) ?_ ?_
      · refine x_vc tt_ok ?_
        refine x_if (fun h1 => ?_) (fun h1 => ?_)
        · have h1 : (em && !on) = true := h1
          have hon : on = false := by simp only [Bool.and_eq_true, Bool.not_eq_true'] at h1; exact h1.2
          subst hon
          have i5' : V1.length ≤ szR R1 := by rw [i2]; exact i5
          refine xl_push tt_ok slY V1 ⟨none, 0, 0⟩ 24 (cs := [.slice none 0 0]) rfl rfl rfl rfl rfl rfl rfl rfl rfl rfl rfl rfl (by kernel_rfl) rfl rfl rfl rfl rfl (fun n hn => by cases hn; decide) rfl rfl rfl (by omega) (by omega) ?_
          refine xl_starNil 3 9 strY rfl ?_
          refine xl_go tt_ok ?_
          have e := itemsP_push i2 ⟨none, 0, 0⟩ []
          refine meet (V1 ++ [⟨none, 0, 0⟩], R1 ++ [[]]) [] ?_ ⟨by simp [i2], rfl⟩
          simp only [e]
          exact .of rfl rfl rfl rfl rfl rfl
        · have h1 : (em && !on) = false := h1
          have hon : on = true := by
            cases on with
            | true => rfl
            | false =>
              have : em = false := by simpa using h1
              rw [i6] at this
              have := i7 (by have := of_decide_eq_false this; omega)
              exact this
          subst hon
          exact meet (V1, R1) [(9, some 8)] (.of rfl rfl rfl rfl rfl rfl) ⟨i2, rfl⟩
      · rintro ⟨V2, R2⟩ u7 hu7 ⟨k1, k2⟩
        refine x_vc tt_ok ?_
        have hR2 : 0 < R2.length := by rw [k2]; exact hopn.2.1
        have hsz2 : szR R2 = szR R1 := by rw [k2]; exact hopn.1
        have hi : (((V2.length : Nat) : Int) - 1).toNat < V2.length := by omega
        have hi2 : (((V2.length : Nat) : Int) - 1).toNat < R2.length := by omega
        have hei : (((V2.length : Nat) : Int) - 1).toNat = R2.length - 1 := by omega
        have hgd := getD_sz hi2
        have hub : V2.length ≤ szR R1 + 1 := by rw [k1, k2]; have := hopn.2.2; simp only at this; omega
        repeat (refine And.intro ?_ ?_; first | omega | (simp only [Lay.d_n]; omega) | (simp only [decide_eq_true_eq, decide_eq_false_iff_not, Bool.or_eq_false_iff, Bool.and_eq_true, Bool.or_eq_true, Bool.and_eq_false_iff, Bool.not_eq_true', Bool.not_eq_false', Lay.d_n]; omega) | (simp only [decide_eq_true_eq, decide_eq_false_iff_not, Bool.or_eq_false_iff, Bool.and_eq_true, Bool.or_eq_true, Bool.and_eq_false_iff, Bool.not_eq_true', Bool.not_eq_false']; omega) | (simp only [decide_eq_true_eq, decide_eq_false_iff_not, Bool.or_eq_false_iff]; simp only [Lay.d_n]; omega))
        refine x_drawA mix ?_
        refine xa_pures tt_ok (fuel := 9) [1, 3, 6] rfl (by kernel_rfl) (by kernel_rfl) (fun _ _ _ hh => hh) (by kernel_rfl) (by kernel_rfl) ?_
        refine xa_fam (fuel := 2) (N := 7) tblP (fun D => ⟨selO D [(31, [(9, .r 11), (5, .v (V2.getD (((V2.length : Nat) : Int) - 1).toNat ⟨none, 0, 0⟩).val)])] ++ (selD D [(0, (26, .r 9)), (2, (28, .r 9)), (4, (30, .e 9 1 (((V2.length : Nat) : Int) - 1) 0)), (7, (33, .v (.string wd))), (8, (34, .r 10)), (9, (35, .r 12))] ++
            [(27, .v (.int .i64 (((V2.length : Nat) : Int) - 1))), (29, .v (.int .i64 (((V2.length : Nat) : Int) - 1))), (32, .v (.string wd)), (3, .p 0 0), (4, .p 1 0), (6, .p 6 0)]), [],
            selO D [(10, [(8, .row 9 (strY.d [wd]))]), (11, [(9, .emp)]), (12, [(9, .row 9 (strY.d (R2.getD (((V2.length : Nat) : Int) - 1).toNat [] ++ [wd])))]), (3, [(9, .gen (starHp ((itemsP V2 R2).set (((V2.length : Nat) : Int) - 1).toNat SI.hole)))])] ++
            [(7, .gen FrI'), (0, .box 31 [.r 9]), (1, .box 4 [.v (.bool true)]), (6, .box 4 [.v (.bool false)]), (9, .row 23 (slY.d V2)), (4, .gen Fr')] ++ selN D [(9, (3, .gen (starHp (itemsP V2 R2))))], 13⟩) (fun D i => insD i D) rfl (by kernel_rfl) (by kernel_rfl) (by kernel_rfl) [] (.of rfl rfl rfl rfl rfl rfl) (fun _ => by show 10 ≤ 13; omega) ?_ [0, 2, 4, 5, 7, 8, 9] (by kernel_rfl) (fun u8 hu8 => ?_)
        · skip
          refine And.intro (And.intro ?_ (And.intro ?_ (And.intro ?_ (trivial)))) (And.intro (And.intro ?_ (And.intro ?_ (trivial))) (And.intro (And.intro ?_ (And.intro ?_ (And.intro ?_ (trivial)))) (And.intro (And.intro ?_ (And.intro ?_ (And.intro ?_ (trivial)))) (And.intro (And.intro ?_ (And.intro ?_ (trivial))) (And.intro (And.intro ?_ (And.intro ?_ (trivial))) (And.intro (And.intro ?_ (And.intro ?_ (And.intro ?_ (trivial)))) (And.intro (And.intro ?_ (And.intro ?_ (And.intro ?_ (trivial)))) (And.intro (And.intro ?_ (And.intro ?_ (trivial))) (And.intro (And.intro ?_ (And.intro ?_ (trivial))) (And.intro (And.intro ?_ (And.intro ?_ (trivial))) (And.intro (And.intro ?_ (trivial)) (And.intro (And.intro ?_ (And.intro ?_ (trivial))) (And.intro (And.intro ?_ (And.intro ?_ (And.intro ?_ (trivial)))) (And.intro (And.intro ?_ (And.intro ?_ (trivial))) (And.intro (And.intro ?_ (trivial)) (And.intro (And.intro ?_ (And.intro ?_ (trivial))) (And.intro (And.intro ?_ (trivial)) (And.intro (And.intro ?_ (And.intro ?_ (trivial))) (And.intro (And.intro ?_ (And.intro ?_ (trivial))) (And.intro (And.intro ?_ (trivial)) (And.intro (And.intro ?_ (trivial)) (And.intro (And.intro ?_ (And.intro ?_ (trivial))) (And.intro (And.intro ?_ (trivial)) (And.intro (And.intro ?_ (trivial)) (And.intro trivial (trivial))))))))))))))))))))))))))
          · intro u' hu'; refine xl_go tt_ok ?_; exact meet () [] (.of rfl rfl rfl rfl rfl rfl) trivial
          · intro u' hu'; refine xl_go tt_ok ?_; exact meet () [] (.of rfl rfl rfl rfl rfl rfl) trivial
          · intro u' hu'; refine xl_call0 (.string wd) rfl rfl rfl rfl fn58 rfl rfl (fun E w F _ => clone_any wd w hws) ?_; refine xl_go tt_ok ?_; exact meet () [] (.of rfl rfl rfl rfl rfl rfl) trivial
          · intro u' hu'; refine xl_go tt_ok ?_; exact meet () [] (.of rfl rfl rfl rfl rfl rfl) trivial
          · intro u' hu'; refine xl_call0 (.string wd) rfl rfl rfl rfl fn58 rfl rfl (fun E w F _ => clone_any wd w hws) ?_; refine xl_go tt_ok ?_; exact meet () [] (.of rfl rfl rfl rfl rfl rfl) trivial
          · intro u' hu'; refine xl_go tt_ok ?_; exact meet () [] (.of rfl rfl rfl rfl rfl rfl) trivial
          · intro u' hu'; refine xl_go tt_ok ?_; refine And.intro (by omega) (And.intro (by simp only [Lay.d_n]; omega) ?_); exact meet () [] (.of rfl rfl rfl rfl rfl rfl) trivial
          · intro u' hu'; refine xl_call0 (.string wd) rfl rfl rfl rfl fn58 rfl rfl (fun E w F _ => clone_any wd w hws) ?_; refine xl_go tt_ok ?_; exact meet () [] (.of rfl rfl rfl rfl rfl rfl) trivial
          · intro u' hu'; refine xl_go tt_ok ?_; exact meet () [] (.of rfl rfl rfl rfl rfl rfl) trivial
          · intro u' hu'; refine xl_go tt_ok ?_; exact meet () [] (.of rfl rfl rfl rfl rfl rfl) trivial
          · intro u' hu'; refine xl_build tt_ok strY [wd] [_] rfl rfl rfl rfl rfl rfl rfl rfl rfl rfl rfl rfl rfl rfl rfl ?_; refine xl_end ?_; exact meet () [(10, some 13)] (.of rfl rfl rfl rfl rfl rfl) trivial
          · intro u' hu'; refine xl_go tt_ok ?_; refine And.intro (by omega) (And.intro (by simp only [Lay.d_n]; omega) ?_); exact meet () [] (.of rfl rfl rfl rfl rfl rfl) trivial
          · intro u' hu'; refine xl_call0 (.string wd) rfl rfl rfl rfl fn58 rfl rfl (fun E w F _ => clone_any wd w hws) ?_; refine xl_go tt_ok ?_; exact meet () [] (.of rfl rfl rfl rfl rfl rfl) trivial
          · intro u' hu'; refine xl_go tt_ok ?_; exact meet () [] (.of rfl rfl rfl rfl rfl rfl) trivial
          · intro u' hu'; refine xl_build tt_ok strY [wd] [_] rfl rfl rfl rfl rfl rfl rfl rfl rfl rfl rfl rfl rfl rfl rfl ?_; refine xl_end ?_; exact meet () [(10, some 13)] (.of rfl rfl rfl rfl rfl rfl) trivial
          · intro u' hu'; refine xl_go tt_ok ?_; exact meet () [] (.of rfl rfl rfl rfl rfl rfl) trivial
          · intro u' hu'; refine xl_go tt_ok ?_; exact meet () [] (.of rfl rfl rfl rfl rfl rfl) trivial
          · intro u' hu'; refine xl_call0 (.string wd) rfl rfl rfl rfl fn58 rfl rfl (fun E w F _ => clone_any wd w hws) ?_; refine xl_go tt_ok ?_; exact meet () [] (.of rfl rfl rfl rfl rfl rfl) trivial
          · intro u' hu'; refine xl_go tt_ok ?_; exact meet () [] (.of rfl rfl rfl rfl rfl rfl) trivial
          · intro u' hu'; refine xl_go tt_ok ?_; refine And.intro (by omega) (And.intro (by simp only [Lay.d_n]; omega) ?_); exact meet () [] (.of rfl rfl rfl rfl rfl rfl) trivial
          · intro u' hu'; refine xl_build tt_ok strY [wd] [_] rfl rfl rfl rfl rfl rfl rfl rfl rfl rfl rfl rfl rfl rfl rfl ?_; refine xl_end ?_; exact meet () [(10, some 13)] (.of rfl rfl rfl rfl rfl rfl) trivial
          · intro u' hu'; refine xl_go tt_ok ?_; exact meet () [] (.of rfl rfl rfl rfl rfl rfl) trivial
          · intro u' hu'; refine xl_go tt_ok ?_; exact meet () [] (.of rfl rfl rfl rfl rfl rfl) trivial
          · intro u' hu'; refine xl_go tt_ok ?_; exact meet () [] (.of rfl rfl rfl rfl rfl rfl) trivial
          · intro u' hu'; refine xl_call0 (.string wd) rfl rfl rfl rfl fn58 rfl rfl (fun E w F _ => clone_any wd w hws) ?_; refine xl_go tt_ok ?_; exact meet () [] (.of rfl rfl rfl rfl rfl rfl) trivial
          · intro u' hu'; refine xl_go tt_ok ?_; refine And.intro (by omega) (And.intro (by simp only [Lay.d_n]; omega) ?_); exact meet () [] (.of rfl rfl rfl rfl rfl rfl) trivial
          · intro u' hu'; refine xl_build tt_ok strY [wd] [_] rfl rfl rfl rfl rfl rfl rfl rfl rfl rfl rfl rfl rfl rfl rfl ?_; refine xl_end ?_; exact meet () [(10, some 13)] (.of rfl rfl rfl rfl rfl rfl) trivial
          · intro u' hu'; refine xl_go tt_ok ?_; exact meet () [] (.of rfl rfl rfl rfl rfl rfl) trivial
          · intro u' hu'; refine xl_go tt_ok ?_; exact meet () [] (.of rfl rfl rfl rfl rfl rfl) trivial
          · intro u' hu'; refine xl_call0 (.string wd) rfl rfl rfl rfl fn58 rfl rfl (fun E w F _ => clone_any wd w hws) ?_; refine xl_go tt_ok ?_; exact meet () [] (.of rfl rfl rfl rfl rfl rfl) trivial
          · intro u' hu'; refine xl_go tt_ok ?_; exact meet () [] (.of rfl rfl rfl rfl rfl rfl) trivial
          · intro u' hu'; refine xl_go tt_ok ?_; exact meet () [] (.of rfl rfl rfl rfl rfl rfl) trivial
          · intro u' hu'; refine xl_build tt_ok strY [wd] [_] rfl rfl rfl rfl rfl rfl rfl rfl rfl rfl rfl rfl rfl rfl rfl ?_; refine xl_end ?_; exact meet () [(10, some 13)] (.of rfl rfl rfl rfl rfl rfl) trivial
          · intro u' hu'; refine xl_go tt_ok ?_; exact meet () [] (.of rfl rfl rfl rfl rfl rfl) trivial
          · intro u' hu'; refine xl_go tt_ok ?_; refine And.intro (by omega) (And.intro (by simp only [Lay.d_n]; omega) ?_); exact meet () [] (.of rfl rfl rfl rfl rfl rfl) trivial
          · intro u' hu'; refine xl_call0 (.string wd) rfl rfl rfl rfl fn58 rfl rfl (fun E w F _ => clone_any wd w hws) ?_; refine xl_go tt_ok ?_; exact meet () [] (.of rfl rfl rfl rfl rfl rfl) trivial
          · intro u' hu'; refine xl_go tt_ok ?_; exact meet () [] (.of rfl rfl rfl rfl rfl rfl) trivial
          · intro u' hu'; refine xl_build tt_ok strY [wd] [_] rfl rfl rfl rfl rfl rfl rfl rfl rfl rfl rfl rfl rfl rfl rfl ?_; refine xl_end ?_; exact meet () [(10, some 13)] (.of rfl rfl rfl rfl rfl rfl) trivial
          · intro u' hu'; refine xl_go tt_ok ?_; refine And.intro (by omega) (And.intro (by simp only [Lay.d_n]; omega) ?_); exact meet () [] (.of rfl rfl rfl rfl rfl rfl) trivial
          · intro u' hu'; refine xl_go tt_ok ?_; exact meet () [] (.of rfl rfl rfl rfl rfl rfl) trivial
          · intro u' hu'; refine xl_build tt_ok strY [wd] [_] rfl rfl rfl rfl rfl rfl rfl rfl rfl rfl rfl rfl rfl rfl rfl ?_; refine xl_end ?_; exact meet () [(10, some 13)] (.of rfl rfl rfl rfl rfl rfl) trivial
          · intro u' hu'; refine xl_go tt_ok ?_; exact meet () [] (.of rfl rfl rfl rfl rfl rfl) trivial
          · intro u' hu'; refine xl_go tt_ok ?_; exact meet () [] (.of rfl rfl rfl rfl rfl rfl) trivial
          · intro u' hu'; refine xl_build tt_ok strY [wd] [_] rfl rfl rfl rfl rfl rfl rfl rfl rfl rfl rfl rfl rfl rfl rfl ?_; refine xl_end ?_; exact meet () [(10, some 13)] (.of rfl rfl rfl rfl rfl rfl) trivial
          · intro u' hu'; refine xl_go tt_ok ?_; exact meet () [] (.of rfl rfl rfl rfl rfl rfl) trivial
          · intro u' hu'; refine xl_go tt_ok ?_; exact meet () [] (.of rfl rfl rfl rfl rfl rfl) trivial
          · intro u' hu'; refine xl_unpark 31 3 (((V2.length : Nat) : Int) - 1).toNat rfl rfl (itemsP_get hi hi2) ?_; refine xl_append tt_ok strY (R2.getD (((V2.length : Nat) : Int) - 1).toNat []) [wd] 16 rfl rfl rfl rfl rfl rfl rfl rfl (by kernel_rfl) rfl rfl rfl (fun E w F hs => hs.rowAt (k := 10) rfl) strOne1 rfl (by simp only [List.length_singleton]; omega) (by simp only [List.length_singleton]; omega) ?_; refine xl_end ?_; exact meet () [(11, some 13), (12, some 14)] (.of rfl rfl rfl rfl rfl rfl) trivial
          · intro u' hu'; refine xl_unpark 31 3 (((V2.length : Nat) : Int) - 1).toNat rfl rfl (itemsP_get hi hi2) ?_; refine xl_append tt_ok strY (R2.getD (((V2.length : Nat) : Int) - 1).toNat []) [wd] 16 rfl rfl rfl rfl rfl rfl rfl rfl (by kernel_rfl) rfl rfl rfl (fun E w F hs => hs.rowAt (k := 10) rfl) strOne1 rfl (by simp only [List.length_singleton]; omega) (by simp only [List.length_singleton]; omega) ?_; refine xl_end ?_; exact meet () [(11, some 13), (12, some 14)] (.of rfl rfl rfl rfl rfl rfl) trivial
          · intro u' hu'; refine xl_go tt_ok ?_; exact meet () [] (.of rfl rfl rfl rfl rfl rfl) trivial
        · refine xa_chain (fuel := 0) [10, 11] rfl rfl (by kernel_rfl) ?_
          refine xl_go tt_ok ?_
          refine And.intro (by omega) (And.intro (by simp only [Lay.d_n]; omega) ?_)
          refine xl_park 12 3 (((V2.length : Nat) : Int) - 1).toNat rfl rfl (List.getElem?_set_self (by rw [itemsP_len k1]; omega)) rfl (fun A' c' => ?_)
          refine xl_set tt_ok (cs := [.slice A' (strY.d (R2.getD (((V2.length : Nat) : Int) - 1).toNat [] ++ [wd])).n c']) slY V2 ⟨A', (strY.d (R2.getD (((V2.length : Nat) : Int) - 1).toNat [] ++ [wd])).n, c'⟩ rfl rfl rfl rfl rfl rfl rfl (by omega) (by omega) rfl rfl (Nat.le_refl 1) rfl ?_
          refine xl_go tt_ok ?_
          refine xa_done (by kernel_rfl) rfl ?_
          rw [List.set_set]
          have e := itemsP_set (V := V2) (R := R2) (i := (((V2.length : Nat) : Int) - 1).toNat) (v := ⟨A', (strY.d (R2.getD (((V2.length : Nat) : Int) - 1).toNat [] ++ [wd])).n, c'⟩) (r := R2.getD (((V2.length : Nat) : Int) - 1).toNat [] ++ [wd])
          refine ⟨(true, false, V2.set (((V2.length : Nat) : Int) - 1).toNat ⟨A', (strY.d (R2.getD (((V2.length : Nat) : Int) - 1).toNat [] ++ [wd])).n, c'⟩, R2.set (((V2.length : Nat) : Int) - 1).toNat (R2.getD (((V2.length : Nat) : Int) - 1).toNat [] ++ [wd])), [(8, some 9)], ?_, ?_⟩
          · simp only [e]
            exact .of rfl rfl rfl rfl rfl rfl
          · rw [hei, k2]
            refine ⟨nextW, by simp [k1, k2], ?_, fun _ => hadd.2.1, hadd.2.2, ?_, fun _ => rfl⟩
            · have := hadd.1
              simp only at this
              rw [← Nat.add_assoc, ← i3]; exact this
            · exact (decide_eq_false (by omega)).symm
    · obtain ⟨on, em, V', R'⟩ := st
      obtain ⟨i1, i2, i3, i4, i5, i6, i7⟩ := hgs2
      rw [List.length_map] at i1 i3 i6 i7
      rw [List.take_length] at i1
      refine x_if (fun h => ?_) (fun h => ?_)
      · have h : em = true := h
        subst h
        have e0 : wordsP ln = [] := List.eq_nil_of_length_eq_zero (of_decide_eq_true i6.symm)
        rw [e0] at i1 i3 next nsum
        simp only [List.foldl_nil, Prod.mk.injEq] at i1
        obtain ⟨rfl, rfl⟩ := i1
        refine ⟨(false, V', R), [(5, some 8)], .of rfl rfl rfl rfl rfl rfl, by rw [next, parLine, if_pos rfl], i2, by rw [nsum]; simp, (fun h => by cases h), i5⟩
      · have h : em = false := h
        subst h
        have e0 : wordsP ln ≠ [] := fun e => by rw [e] at i6; simp at i6
        have hon : on = true := i7 (List.length_pos_iff.2 e0)
        subst hon
        refine ⟨(true, V', R'), [(5, some 8)], .of rfl rfl rfl rfl rfl rfl, by rw [next, parLine, if_neg e0, i1], i2, by rw [nsum, i3], i4, i5⟩
  · obtain ⟨one, V, R⟩ := st
    obtain ⟨g1, g2, g3, g4, g5⟩ := hgs
    have e1 : ((linesP s).map Value.string).length = (wsOf s).length := by simp [wsOf]
    rw [e1, List.take_length] at g1
    have hR : R = parP s := by rw [parP, g1]
    subst hR
    refine finStarO (k := 5) (ks := 3) rfl rfl (fun A' c' => ⟨(A', c', V), fun E hE => ?_, ?_, g2⟩)
    · show E 5 = _
      rw [hE, Lay.d_n, g2]
    · rw [Lay.d_n, g2]
end Go.Proofs.YtnjmkeijjapejaaDoor
namespace Go.Proofs.YtnjmkeijjapejaaDoor
open Go.GV Go.RowKit
set_option maxRecDepth 100000 in
theorem hasPx_any (a b : ByteArray) (w : World) : Calls Tryd.prog 53 #[.string a, .string b] w (PureP w fun v _ => v = .bool (hasP a b)) := by
  refine x_fun tt_ok Tryd.func53 rfl rfl [] 0 [.v (.string a), .v (.string b)] rfl rfl rfl rfl (fun b hb => by cases hb) ?_
  refine x_vc tt_ok ?_
  refine xl_call0 (.bool (hasP a b)) rfl rfl rfl rfl fn75 rfl rfl (fun E w F _ => hasPL_any a b w) ?_
  refine xl_go tt_ok ?_
  exact fin1 (fun _ _ => rfl)
def opB : ByteArray := ⟨#[47, 42]⟩
def blockP (s : ByteArray) : Bool := hasP s opB && ((oneP s).2 && decide ((oneP s).1 = 8))
def insP (s : ByteArray) : ByteArray × Bool := if blockP s then (sub s 2 (s.size - 2), true) else (⟨#[]⟩, false)
theorem endC_two : ∀ l : Lx.Bs, Lx.endC l = 0 ∨ 2 ≤ Lx.endC l
  | [] => .inl rfl
  | [_] => .inl rfl
  | a :: b :: r => by
    have := endC_two (b :: r)
    simp only [Lx.endC]
    split
    · exact .inr (Nat.le_refl _)
    · split
      · exact .inl rfl
      · rename_i h; rw [h] at this; omega
theorem blockP_form {s : ByteArray} (h : blockP s = true) : (bl s).take 2 = [47, 42] ∧ Lx.endC ((bl s).drop 2) + 2 = s.size ∧ 4 ≤ s.size := by
  simp only [blockP, Bool.and_eq_true, decide_eq_true_eq] at h
  obtain ⟨h1, h2, h3⟩ := h
  have ho : (bl s).take 2 = [47, 42] := by
    rw [hasP_bl] at h1
    exact of_decide_eq_true h1
  have hL := oneP_some h2
  rw [h3, Lx.oneL_iff] at hL
  obtain ⟨c, r, _, _, hi⟩ := hL
  have hio : Lx.isOpen (bl s) = true := by unfold Lx.isOpen; exact decide_eq_true ho
  unfold Lx.itemP at hi
  rw [if_neg (by simp), if_pos hio] at hi
  have h2 := endC_two ((bl s).drop 2)
  have hbl := bl_len s
  split at hi
  · have := congrArg Lx.Item.kind hi
    simp at this
  · rename_i n hn
    have := congrArg Lx.Item.len hi
    simp only at this
    rw [hn] at h2 ⊢
    refine ⟨ho, ?_, ?_⟩ <;> omega
set_option maxRecDepth 100000 in
theorem inside_any (s : ByteArray) (hz : s.size ≤ 4294967280) (w : World) (hg : Glob (im w)) :
    Calls Tryd.prog 34 #[.string s] w (PureP w fun v _ => v = .tuple #[.string (insP s).1, .bool (insP s).2]) := by
  have hf := blockP_form (s := s)
  refine x_fun tt_ok Tryd.func34 rfl rfl [] 0 [.v (.string s)] rfl rfl rfl rfl (fun b hb => by cases hb) ?_
  refine x_vc tt_ok ?_
  refine xl_call0 (.bool (hasP s opB)) rfl rfl rfl rfl fn53 rfl rfl (fun E w F _ => hasPx_any s opB w) ?_
  refine xl_go tt_ok ?_
  cases h1 : hasP s opB with
  | false =>
    refine x_ift rfl ?_
    exact fin1 (fun _ _ => by rw [show insP s = (⟨#[]⟩, false) by simp [insP, blockP, h1]]; rfl)
  | true =>
    refine x_iff rfl ?_
    refine xl_call0 (.tuple #[.int .i64 (oneP s).1, .bool (oneP s).2]) rfl rfl rfl rfl fn54 rfl rfl (fun E w F hs => one_any s hz w (hg.imm hs.imm)) ?_
    refine xl_go tt_ok ?_
    refine x_if (fun h => ?_) (fun h => ?_)
    · have h : (!(oneP s).2 || decide ((oneP s).1 ≠ 8)) = true := h
      exact fin1 (fun _ _ => by
        have : blockP s = false := by
          rw [blockP, h1, Bool.true_and]
          revert h
          cases (oneP s).2 <;> simp
        rw [show insP s = (⟨#[]⟩, false) by simp [insP, this]]; rfl)
    · have h : (!(oneP s).2 || decide ((oneP s).1 ≠ 8)) = false := h
      have hb : blockP s = true := by
        rw [blockP, h1, Bool.true_and]
        revert h
        cases (oneP s).2 <;> simp
      have h4 := (hf hb).2.2
      repeat (refine And.intro ?_ ?_; first | omega | (simp only [Lay.d_n]; omega) | (simp only [decide_eq_true_eq, decide_eq_false_iff_not, Bool.or_eq_false_iff, Bool.and_eq_true, Bool.or_eq_true, Bool.and_eq_false_iff, Bool.not_eq_true', Bool.not_eq_false', Lay.d_n]; omega) | (simp only [decide_eq_true_eq, decide_eq_false_iff_not, Bool.or_eq_false_iff, Bool.and_eq_true, Bool.or_eq_true, Bool.and_eq_false_iff, Bool.not_eq_true', Bool.not_eq_false']; omega) | (simp only [decide_eq_true_eq, decide_eq_false_iff_not, Bool.or_eq_false_iff]; simp only [Lay.d_n]; omega))
      exact fin1 (fun _ _ => by rw [insP, if_pos hb]; rfl)
def keptB (s : ByteArray) : Bool := decide (s ≠ ⟨#[]⟩) && ((decide (bt s 0 = 42) || decide (bt s 0 = 33)) || decide (bt s 0 = 45))
theorem ne_size {s : ByteArray} (h : s ≠ ⟨#[]⟩) : 0 < s.size := by
  rcases Nat.eq_zero_or_pos s.size with h0 | h0
  · refine absurd (bl_inj (a := s) (b := ⟨#[]⟩) ?_) h
    exact (List.eq_nil_of_length_eq_zero (by rw [bl_len, h0])).trans rfl
  · exact h0
set_option maxRecDepth 100000 in
theorem kept_any (s : ByteArray) (w : World) : Calls Tryd.prog 35 #[.string s] w (PureP w fun v _ => v = .bool (keptB s)) := by
  have hne := ne_size (s := s)
  refine x_fun tt_ok Tryd.func35 rfl rfl [] 0 [.v (.string s)] rfl rfl rfl rfl (fun b hb => by cases hb) ?_
  refine x_vc tt_ok ?_
  by_cases h : s = ⟨#[]⟩
  · have e : decide (s ≠ ⟨#[]⟩) = false := decide_eq_false (fun hh => hh h)
    subst h
    repeat (refine And.intro ?_ ?_; first | exact fun hh => absurd hh (by rw [e]; decide) | exact fun _ hh => absurd hh (by rw [e]; decide) | exact fun _ _ hh => absurd hh (by rw [e]; decide) | exact fun _ _ _ hh => absurd hh (by rw [e]; decide))
    exact fin1 (fun _ _ => rfl)
  · have := hne h
    repeat (refine And.intro ?_ ?_; first | omega | (simp only [Lay.d_n]; omega) | (simp only [decide_eq_true_eq, decide_eq_false_iff_not, Bool.or_eq_false_iff, Bool.and_eq_true, Bool.or_eq_true, Bool.and_eq_false_iff, Bool.not_eq_true', Bool.not_eq_false', Lay.d_n]; omega) | (simp only [decide_eq_true_eq, decide_eq_false_iff_not, Bool.or_eq_false_iff, Bool.and_eq_true, Bool.or_eq_true, Bool.and_eq_false_iff, Bool.not_eq_true', Bool.not_eq_false']; omega) | (simp only [decide_eq_true_eq, decide_eq_false_iff_not, Bool.or_eq_false_iff]; simp only [Lay.d_n]; omega))
    exact fin1 (fun _ _ => rfl)
end Go.Proofs.YtnjmkeijjapejaaDoor
namespace Go.GV
open Go.RowKit
def SCR {σ : Type} (P : Program) (f : Nat) (H : Im → Prop) (n : Nat) (ow : Own) (args : List SV) (post : σ → Own × Nat × Nat) (G : σ → Prop) : Prop :=
  ∀ E w F u, H u → Sat E ow n u [] w F → Calls P f (args.map (SV.den E)).toArray w fun e w' =>
    ∃ s E' F' u', (∀ k, k < n → E' k = E k) ∧ n ≤ (post s).2.1 ∧ u.le u' ∧ (e = .returned (E' (post s).2.2) ∧ (post s).2.2 < (post s).2.1 ∧ ∃ A N c, E' (post s).2.2 = .slice A N c) ∧ Sat E' (post s).1 (post s).2.1 u' [] w' F' ∧ G s
theorem SCR.use {σ : Type} {P : Program} {f : Nat} {H : Im → Prop} {n : Nat} {ow0 : Own} {cargs : List SV} {post : σ → Own × Nat × Nat} {G : σ → Prop} (hsc : SCR P f H n ow0 cargs post G)
    (hmono : ∀ u u', Im.sub u u' → H u → H u') {ρ : List Nat} {E : Env} {ow : Own} {nx : Nat} {u : Im} {df : List Deferred} {w : World} {F : Nat → Nat → Prop} (hH : H u) (hs : Sat E ow nx u df w F)
    (hρ : ρ.length = n) (hρ1 : ρ.all (fun k => Nat.blt k nx) = true) (hρ2 : apartB ρ = true)
    (hp1 : ow0.all (fun x => Nat.blt x.1 n && (x.2.inN n && x.2.plain)) = true) (hp2 : ow0.map (fun x => look ow (mpK ρ n nx x.1)) = ow0.map (fun x => some (x.2.mapK (mpK ρ n nx))))
    (hpost : ∀ s, (post s).1.all (fun x => x.2.plain) = true) :
    Calls P f ((cargs.map (SV.mapK (mpK ρ n nx))).map (SV.den E)).toArray w fun e w' =>
      ∃ s E' F' u', (∀ k, k < nx → E' k = E k) ∧ u.le u' ∧ (e = .returned (E' (mpK ρ n nx (post s).2.2)) ∧ mpK ρ n nx (post s).2.2 < nx + ((post s).2.1 - n) ∧ ∃ A N c, E' (mpK ρ n nx (post s).2.2) = .slice A N c) ∧ G s ∧ Sat E' (mergeOw ρ n nx (post s).1 ow) (nx + ((post s).2.1 - n)) u' df w' F' := by
  classical
  subst hρ
  let m := mpK ρ ρ.length nx
  have hmlt : ∀ j, j < ρ.length → m j = ρ.getD j 0 ∧ m j < nx := fun j hj => by
    have e : m j = ρ.getD j 0 := by
      show mpK ρ ρ.length nx j = _
      unfold mpK
      have : Nat.blt j ρ.length = true := Nat.ble_eq_true_of_le hj
      rw [this]
    refine ⟨e, ?_⟩
    rw [e, List.getD_eq_getElem?_getD, List.getElem?_eq_getElem hj]
    exact blt_lt (List.all_eq_true.1 hρ1 _ (List.getElem_mem hj))
  have hmge : ∀ j, ρ.length ≤ j → m j = nx + (j - ρ.length) := fun j hj => by
    show mpK ρ ρ.length nx j = _
    unfold mpK
    cases hb : Nat.blt j ρ.length with
    | true => have := blt_lt hb; omega
    | false => rfl
  have hinj : ∀ i j, m i = m j → i = j := fun i j e => by
    rcases Nat.lt_or_ge i ρ.length with hi | hi
    · rcases Nat.lt_or_ge j ρ.length with hj | hj
      · rw [(hmlt i hi).1, (hmlt j hj).1] at e
        exact apartB_inj' hρ2 i j hi hj e
      · have := (hmlt i hi).2; rw [e, hmge j hj] at this; omega
    · rcases Nat.lt_or_ge j ρ.length with hj | hj
      · have := (hmlt j hj).2; rw [← e, hmge i hi] at this; omega
      · rw [hmge i hi, hmge j hj] at e; omega
  have hmem : ∀ j, j < ρ.length → m j ∈ ρ := fun j hj => by
    rw [(hmlt j hj).1, List.getD_eq_getElem?_getD, List.getElem?_eq_getElem hj]; exact List.getElem_mem hj
  have hρm : ∀ k, k ∈ ρ → ∃ j, j < ρ.length ∧ m j = k := fun k hk => by
    obtain ⟨j, hj, e⟩ := List.mem_iff_getElem.1 hk
    exact ⟨j, hj, by rw [(hmlt j hj).1, List.getD_eq_getElem?_getD, List.getElem?_eq_getElem hj]; exact e⟩
  have hpre : ∀ j r, look ow0 j = some r → j < ρ.length ∧ r.inN ρ.length = true ∧ r.plain = true ∧ look ow (m j) = some (r.mapK m) := fun j r hl => by
    have hm := look_mem hl
    have h1 := List.all_eq_true.1 hp1 _ hm
    simp only [Bool.and_eq_true] at h1
    refine ⟨blt_lt h1.1, h1.2.1, h1.2.2, ?_⟩
    have : ∀ l : Own, l.map (fun x => look ow (mpK ρ ρ.length nx x.1)) = l.map (fun x => some (x.2.mapK (mpK ρ ρ.length nx))) → ∀ x ∈ l, look ow (m x.1) = some (x.2.mapK m) := by
      intro l
      induction l with
      | nil => intro _ x hx; cases hx
      | cons y l ih =>
        intro h x hx
        simp only [List.map_cons, List.cons.injEq] at h
        rcases List.mem_cons.1 hx with rfl | hx
        · exact h.1
        · exact ih h.2 x hx
    exact this _ hp2 _ hm
  let Ec : Env := fun j => E (m j)
  let Fc : Nat → Nat → Prop := fun j b => (∃ r, look ow0 j = some r) ∧ F (m j) b
  let uc : Im := { h := fun b => if ∃ j, Fc j b then none else w.heap[b]?, os := w.os, tape := w.tape, output := w.output, lo := w.heap.size }
  have hsub : u.sub uc := ⟨fun b o hb => by
    show (if ∃ j, Fc j b then none else w.heap[b]?) = some o
    rw [if_neg (fun ⟨j, _, hj⟩ => by rw [hs.off _ b hj] at hb; cases hb)]
    exact hs.imm.h b o hb⟩
  have huc : ∀ b, (¬ ∃ j, Fc j b) → uc.h b = w.heap[b]? := fun b hb => by
    show (if ∃ j, Fc j b then none else w.heap[b]?) = _
    rw [if_neg hb]
  have hsat : Sat Ec ow0 ρ.length uc [] w Fc := by
    refine ⟨fun j r hl => ?_, fun j hl b hb => ?_, fun j j' b hne h1 h2 => hs.apart _ _ b (fun e => hne (hinj _ _ e)) h1.2 h2.2, fun j b hb => ?_, fun j r hl => ?_, ⟨fun b o hb => ?_, rfl, rfl, rfl, Nat.le_refl _⟩, [], rfl, List.nodup_nil, fun d hd => by cases hd⟩
    · obtain ⟨h1, h2, h3, h4⟩ := hpre j r hl
      exact (Rs.holds_mapK h3 h2 (fun b => ⟨fun h => h.2, fun h => ⟨⟨r, hl⟩, h⟩⟩) (hs.lt _ _ h4).2 (hs.holds _ _ h4)).1
    · obtain ⟨r, hr⟩ := hb.1; rw [hl] at hr; cases hr
    · show (if ∃ j, Fc j b then none else w.heap[b]?) = none
      rw [if_pos ⟨j, hb⟩]
    · obtain ⟨h1, h2, h3, h4⟩ := hpre j r hl
      exact ⟨h1, (Rs.holds_mapK (u' := uc) (F' := F (m j)) h3 h2 (fun b => Iff.rfl) (hs.lt _ _ h4).2 (hs.holds _ _ h4)).2⟩
    · have : (if ∃ j, Fc j b then none else w.heap[b]?) = some o := hb
      split at this
      · cases this
      · exact this
  have hargs : (cargs.map (SV.mapK (mpK ρ ρ.length nx))).map (SV.den E) = cargs.map (SV.den Ec) := by
    rw [List.map_map]
    exact List.map_congr_left fun s _ => SV.mapK_den _ E s
  rw [hargs]
  refine (hsc Ec w Fc uc (hmono _ _ hsub hH) hsat).mono ?_
  rintro e w' ⟨s, E', F', uc', hE', hn, hu', he, hsat', hG⟩
  have hlt' : ∀ x ∈ (post s).1, x.1 < (post s).2.1 := fun x hx => by
    obtain ⟨y, hy⟩ := look_of_mem hx
    exact (hsat'.lt _ _ hy).1
  have hplain : ∀ j r, look (post s).1 j = some r → r.plain = true := fun j r hl => List.all_eq_true.1 (hpost s) _ (look_mem hl)
  let E'' : Env := fun k => if k < nx then E k else E' (ρ.length + (k - nx))
  have hEm : ∀ j, j < (post s).2.1 → E'' (m j) = E' j := fun j _ => by
    rcases Nat.lt_or_ge j ρ.length with hj | hj
    · show (if m j < nx then E (m j) else _) = _
      rw [if_pos (hmlt j hj).2, hE' j hj]
    · show (if m j < nx then _ else E' (ρ.length + (m j - nx))) = _
      rw [hmge j hj, if_neg (by omega)]
      congr 1; omega
  have hsz : w.heap.size ≤ w'.heap.size := by
    have h1 := hsat'.imm.lo
    rw [hu'.lo] at h1
    exact h1
  have hframe : ∀ b, b < w.heap.size → (¬ ∃ j, Fc j b) → w'.heap[b]? = w.heap[b]? := fun b hb hn => by
    have h1 : uc.h b = some (w.heap[b]'hb) := by rw [huc b hn]; exact Array.getElem?_eq_getElem hb
    rw [hsat'.imm.h b _ (hu'.h b _ h1), Array.getElem?_eq_getElem hb]
  let F'' : Nat → Nat → Prop := fun k b => (∃ j, j < (post s).2.1 ∧ m j = k ∧ F' j b) ∨ ((∀ j, j < (post s).2.1 → m j ≠ k) ∧ F k b)
  have hF''m : ∀ j, j < (post s).2.1 → ∀ b, F'' (m j) b ↔ F' j b := fun j hj b => by
    constructor
    · rintro (⟨i, hi, e, h⟩ | ⟨h, _⟩)
      · rw [← hinj _ _ e]; exact h
      · exact absurd rfl (h j hj)
    · exact fun h => .inl ⟨j, hj, rfl, h⟩
  let u'' : Im := { h := fun b => if b < w.heap.size then u.h b else uc'.h b, os := u.os, tape := u.tape, output := u.output, lo := u.lo }
  have hult : ∀ b o, u.h b = some o → b < w.heap.size := fun b o ho => (Array.getElem?_eq_some_iff.1 (hs.imm.h b o ho)).1
  have hle'' : u.le u'' := ⟨fun b o ho => by
    show (if b < w.heap.size then u.h b else uc'.h b) = some o
    rw [if_pos (hult b o ho)]; exact ho, rfl, rfl, rfl, rfl⟩
  have himm'' : Imm u'' w' := by
    refine ⟨fun b o ho => ?_, ?_, ?_, ?_, Nat.le_trans hs.imm.lo hsz⟩
    · have ho' : (if b < w.heap.size then u.h b else uc'.h b) = some o := ho
      split at ho'
      · rename_i hb
        rw [hframe b hb (fun ⟨j, _, hj⟩ => by rw [hs.off _ b hj] at ho'; cases ho')]
        exact hs.imm.h b o ho'
      · exact hsat'.imm.h b o ho'
    · exact (hsat'.imm.os.trans hu'.os).trans hs.imm.os
    · exact (hsat'.imm.tape.trans hu'.tape).trans hs.imm.tape
    · exact (hsat'.imm.output.trans hu'.output).trans hs.imm.output
  have hnewk : ∀ k, nx ≤ k → look ow k = none := fun k hk => by
    cases hl : look ow k with
    | none => rfl
    | some r => have := (hs.lt k r hl).1; omega
  have hlookm : ∀ j, look (mergeOw ρ ρ.length nx (post s).1 ow) (m j) = match look (post s).1 j with
      | some r => some (r.mapK m)
      | none => look (ρ.map (fun k => (k, Rs.emp)) ++ ow) (m j) := fun j => by
    unfold mergeOw
    rw [look_append]
    have := look_map (m := m) (g := Rs.mapK m) (j := j) (l := (post s).1) (fun x _ e => hinj _ _ e)
    rw [show look ((post s).1.map fun x => (mpK ρ ρ.length nx x.1, x.2.mapK (mpK ρ ρ.length nx))) (m j) = _ from this]
    cases look (post s).1 j <;> rfl
  obtain ⟨he1, he2, he3⟩ := he
  have hk2 : m (post s).2.2 < nx + ((post s).2.1 - ρ.length) := by
    rcases Nat.lt_or_ge (post s).2.2 ρ.length with h1 | h1
    · have := (hmlt _ h1).2; omega
    · rw [hmge _ h1]; omega
  refine ⟨s, E'', F'', u'', fun k hk => if_pos hk, hle'', ⟨by rw [he1]; exact congrArg _ (hEm _ he2).symm, hk2, by rw [show E'' (mpK ρ ρ.length nx (post s).2.2) = _ from hEm _ he2]; exact he3⟩, hG, ?_⟩
  refine hs.step (fun k => ∃ j, j < (post s).2.1 ∧ m j = k) (fun k hk => if_pos hk) (Nat.le_add_right _ _) hle'' himm'' hsz ?_ ?_ ?_ ?_ ?_
  · intro b hb hno
    refine hframe b hb ?_
    rintro ⟨j, ⟨r, hr⟩, hj⟩
    exact hno (m j) ⟨j, by have := (hpre j r hr).1; omega, rfl⟩ hj
  · intro k hk
    have hk' : ∀ j, j < (post s).2.1 → m j ≠ k := fun j hj e => hk ⟨j, hj, e⟩
    refine ⟨?_, fun b => ⟨?_, fun h => .inr ⟨hk', h⟩⟩⟩
    · unfold mergeOw
      rw [look_append, look_append]
      have h1 : look ((post s).1.map fun x => (mpK ρ ρ.length nx x.1, x.2.mapK (mpK ρ ρ.length nx))) k = none := look_map_none (m := m) (fun x hx => hk' x.1 (hlt' x hx))
      rw [h1]
      simp only
      rw [look_emps.2 (fun hm => by obtain ⟨j, hj, e⟩ := hρm k hm; exact hk' j (by omega) e)]
    · rintro (⟨j, hj, e, _⟩ | ⟨_, h⟩)
      · exact absurd e (hk' j hj)
      · exact h
  · rintro k ⟨j, hj, rfl⟩
    refine ⟨fun r hl => ?_, fun hl b hb => ?_, fun b hb => ?_⟩
    · rw [hlookm j] at hl
      have hmj : m j < nx + ((post s).2.1 - ρ.length) := by
        rcases Nat.lt_or_ge j ρ.length with h1 | h1
        · have := (hmlt j h1).2; omega
        · rw [hmge j h1]; omega
      cases hl0 : look (post s).1 j with
      | some r0 =>
        rw [hl0] at hl
        simp only [Option.some.injEq] at hl
        subst hl
        have hlr := (hsat'.lt _ _ hl0).2
        refine ⟨Rs.mapK_holds (hplain _ _ hl0) hEm hj (hF''m j hj) hlr (hsat'.holds _ _ hl0), hmj, ?_⟩
        cases r0 with
        | box t cs =>
          intro x hx
          obtain ⟨y, hy, rfl⟩ := List.mem_map.1 hx
          refine SV.mapK_lt hEm (fun i hi => ?_) (hlr y hy)
          rcases Nat.lt_or_ge i ρ.length with h1 | h1
          · have := (hmlt i h1).2; show m i < _; omega
          · show m i < _; rw [hmge i h1]; omega
        | row e D => trivial
        | sl D => trivial
        | gen A => trivial
        | emp => trivial
      | none =>
        rw [hl0] at hl
        simp only at hl
        rw [look_append] at hl
        rcases Nat.lt_or_ge j ρ.length with h1 | h1
        · rw [look_emps.1 (hmem j h1)] at hl
          simp only [Option.some.injEq] at hl
          subst hl
          exact ⟨fun x hx => hsat'.non j hl0 x ((hF''m j hj x).1 hx), hmj, trivial⟩
        · rw [look_emps.2 (fun hm => by have := blt_lt (List.all_eq_true.1 hρ1 _ hm); rw [hmge j h1] at this; omega)] at hl
          simp only at hl
          rw [hnewk _ (by rw [hmge j h1]; omega)] at hl
          cases hl
    · have hb' := (hF''m j hj b).1 hb
      rw [hlookm j] at hl
      cases hl0 : look (post s).1 j with
      | some r0 => rw [hl0] at hl; cases hl
      | none => exact hsat'.non j hl0 b hb'
    · have hb' := (hF''m j hj b).1 hb
      have hoff := hsat'.off j b hb'
      rcases Nat.lt_or_ge b w.heap.size with hlt | hge
      · have hex : ∃ j, Fc j b := by
          refine Classical.byContradiction fun hno => ?_
          have h1 : uc.h b = some (w.heap[b]'hlt) := by rw [huc b hno]; exact Array.getElem?_eq_getElem hlt
          rw [hu'.h b _ h1] at hoff; cases hoff
        obtain ⟨i, ⟨r, hr⟩, hi⟩ := hex
        refine ⟨.inl ⟨m i, ⟨i, by have := (hpre i r hr).1; omega, rfl⟩, hi⟩, ?_⟩
        show (if b < w.heap.size then u.h b else uc'.h b) = none
        rw [if_pos hlt]; exact hs.off _ b hi
      · refine ⟨.inr hge, ?_⟩
        show (if b < w.heap.size then u.h b else uc'.h b) = none
        rw [if_neg (by omega)]; exact hoff
  · rintro k k' b ⟨j, hj, rfl⟩ ⟨j', hj', rfl⟩ hne h1 h2
    exact hsat'.apart j j' b (fun e => hne (by rw [e])) ((hF''m j hj b).1 h1) ((hF''m j' hj' b).1 h2)
  · intro b o ho
    have ho' : (if b < w.heap.size then u.h b else uc'.h b) = some o := ho
    split at ho'
    · exact .inl ho'
    · exact .inr (by omega)
theorem xl_callSCR {σ : Type} {C : Cx} {all : List Oper} {o : Oper} {r : List Oper} {Q : Post} {kn : Kn} {gk : List (Nat × (Gd × SV))} {ow : Own} {nx : Nat} {u : Im} {c : Call}
    {f n : Nat} {H : Im → Prop} {ow0 : Own} {cargs : List SV} {post : σ → Own × Nat × Nat} {G : σ → Prop} (hsc : SCR C.P f H n ow0 cargs post G) (hmono : ∀ u u', Im.sub u u' → H u → H u') (hH : H u) (ρ : List Nat)
    {d : Nat} (ho : o.op = .call c) (hgd : o.guard = none) (hd : o.dst = some d) (hc : callee ⟨kn, gk, ow, nx⟩ c = some f) (hfn : Fn1 C.P f)
    (hargs : argsOf ⟨kn, gk, ow, nx⟩ [] c.args.toList = some (cargs.map (SV.mapK (mpK ρ n nx)))) (hfr : fresh C.N ⟨kn, gk, ow, nx⟩ d [] = true)
    (hρ : ρ.length = n) (hρ1 : ρ.all (fun k => Nat.blt k nx) = true) (hρ2 : apartB ρ = true)
    (hp1 : ow0.all (fun x => Nat.blt x.1 n && (x.2.inN n && x.2.plain)) = true) (hp2 : ow0.map (fun x => look ow (mpK ρ n nx x.1)) = ow0.map (fun x => some (x.2.mapK (mpK ρ n nx))))
    (hpost : ∀ s, (post s).1.all (fun x => x.2.plain) = true)
    (K : ∀ s u', u.le u' → G s → XL C all r Q ⟨(d, .r (mpK ρ n nx (post s).2.2)) :: kn, gk, mergeOw ρ n nx (post s).1 ow, nx + ((post s).2.1 - n)⟩ u') :
    XL C all (o :: r) Q ⟨kn, gk, ow, nx⟩ u := by
  unfold XL at K ⊢
  intro E a w hok
  obtain ⟨fF, hsat⟩ := hok.sat
  have hgs : gs a.tmps [] := fun x hx => by cases hx
  have hg : guardOf all ⟨kn, gk, ow, nx⟩ o = some [] := by unfold guardOf; rw [hgd]
  have hgd' := guard_sound (all := all.toArray) hok.agr (by simpa using hg)
  have hw : Region.wanted o (yielded all.toArray a.tmps) = true := by
    cases hb : Region.wanted o (yielded all.toArray a.tmps) with
    | true => rfl
    | false => exact absurd hgs (hgd'.2 hb)
  unfold wpListIn
  rw [if_pos hw]
  refine ⟨fun _ _ => trivial, ?_⟩
  rw [semAt_eq _ _ _ (fun c' hc' => by rw [ho] at hc'; cases hc'), call_runG ho hc hfn hargs hok hgs, Oper.uponIn_enter]
  refine ⟨fun h => (by cases h), (calls_in (hsc.use hmono hH hsat hρ hρ1 hρ2 hp1 hp2 hpost)).mono ?_⟩
  rintro e w' ⟨s, E', F', u', hE', hu, ⟨rfl, hk1, hk2⟩, hG, hs'⟩
  have hnx : nx ≤ nx + ((post s).2.1 - n) := Nat.le_add_right _ _
  have hgr := hok.agr.grow (E' := E') (ow := mergeOw ρ n nx (post s).1 ow) (nx := nx + ((post s).2.1 - n)) hE' hnx
  have hput : Agr C.N E' (St.put ⟨kn, gk, mergeOw ρ n nx (post s).1 ow, nx + ((post s).2.1 - n)⟩ d [] (.r (mpK ρ n nx (post s).2.2))) (a.tmps.setIfInBounds d (E' (mpK ρ n nx (post s).2.2))) :=
    hgr.put (g := []) hfr (fun _ => ⟨hk1, hk2⟩) (fun _ => rfl) (fun hn => absurd (fun x hx => (by cases hx)) hn) (fun _ => rfl)
  have := K s u' hu hG E' (a.put (some d) (E' (mpK ρ n nx (post s).2.2))) w' ⟨⟨hput.size, hput.kn, hput.gk, hput.klt, hput.glt⟩, F', hs'⟩
  rw [hd]
  exact wpListIn_monoQ (fun e a w => SemQ.mono hE' hnx hu) _ _ _ this
def SCRend {σ : Type} (n : Nat) (post : σ → Own × Nat × Nat) (G : σ → Prop) (l : List SV) (st : St) : Prop :=
  ∃ s ρ k0, l = [.r k0] ∧ Sub n ρ ⟨[(0, .r k0)], [], st.ow, st.nx⟩ ⟨[(0, .r (post s).2.2)], [], (post s).1, (post s).2.1⟩ ∧ k0 < st.nx ∧ (∃ e D, look st.ow k0 = some (.row e D)) ∧ n ≤ (post s).2.1 ∧ G s
theorem x_scr {σ : Type} {T : TT} {P : Program} (hT : TOk P T) {f N : Nat} {fn : Func} {c : Code} (hf : P.funcs[f]? = some fn) (hb : fn.body = some c) (hN : fn.ntmps = N)
    {H : Im → Prop} {n : Nat} {ow : Own} {args : List SV} {post : σ → Own × Nat × Nat} {G : σ → Prop} (hle : Nat.ble args.length N = true) (hargs : args.all (argLt ow n) = true)
    (h : ∀ u, H u → X ⟨P, none, N⟩ c (FinQ T fn.results.toList fun l st _ => SCRend n post G l st) ⟨knOf 0 args, [], ow, n⟩ u) : SCR P f H n ow args post G := by
  intro E w F u hH hsat
  refine (callsIn_wide (n := 0)).1 (callsIn_of_wp_marks hf hb trivial ?_ rfl)
  have hle' : args.length ≤ N := Nat.le_of_ble_eq_true hle
  have hlt : ∀ s ∈ args, s.lt E n := fun s hs => by
    have h1 := List.all_eq_true.1 hargs s hs
    cases s with
    | v x => trivial
    | p k off =>
      simp only [argLt] at h1
      split at h1
      · rename_i t cs hk hl
        obtain ⟨b, hb, _⟩ := hsat.holds k _ hl
        exact ⟨blt_lt hk, _, hb⟩
      · cases h1
    | r k =>
      simp only [argLt] at h1
      split at h1
      · rename_i e D hk hl
        obtain ⟨A, c, hv⟩ := ownsRow_sl (hsat.holds k _ hl).1
        exact ⟨blt_lt hk, A, _, c, hv⟩
      · cases h1
    | e k sz i off => cases h1
    | clo f ks => cases h1
    | tup l => cases h1
  have hagr : Agr N E ⟨knOf 0 args, [], ow, n⟩ ((args.map (SV.den E)).toArray ++ Array.replicate (fn.ntmps - ((args.map (SV.den E)).toArray).size) undef) := by
    refine ⟨?_, ?_, fun d g s h => (by cases h), ?_, fun d g s h => (by cases h)⟩
    · rw [hN]; simp; omega
    · intro d s _ h2
      have h3 := (knOf_look h2).2
      rw [Nat.sub_zero] at h3
      have hd : d < args.length := (List.getElem?_eq_some_iff.1 h3).1
      rw [Array.getElem?_append_left (by simpa using hd)]
      simp [h3]
    · intro d s h2
      have h3 := (knOf_look h2).2
      exact hlt s (List.mem_of_getElem? h3)
  have hX := h u hH
  unfold X at hX
  refine Go.wpIn_mono (hX E { tmps := (args.map (SV.den E)).toArray ++ Array.replicate (fn.ntmps - ((args.map (SV.den E)).toArray).size) undef, defers := [] } w ⟨hagr, _, hsat⟩) ?_
  rintro e a' w' ⟨E', st', u', h1, h2, h3, hok', h5⟩
  obtain ⟨F', hs⟩ := hok'.sat
  have fin : ∀ l, resV T st' fn.results.toList = some l → SCRend n post G l st' →
      LeavesInM (FR none) 0 P fn a'.tmps (fun e w' => ∃ s E' F' u', (∀ k, k < n → E' k = E k) ∧ n ≤ (post s).2.1 ∧ u.le u' ∧ (e = .returned (E' (post s).2.2) ∧ (post s).2.2 < (post s).2.1 ∧ ∃ A N c, E' (post s).2.2 = .slice A N c) ∧ Sat E' (post s).1 (post s).2.1 u' [] w' F' ∧ G s) a'.defers .returning w' := by
    rintro l hl ⟨s, ρ, k0, rfl, hsub, hk0, ⟨e0, D0, hrow⟩, hn, hG⟩
    obtain ⟨ds, hds, _⟩ := hs.marks
    rw [hds] at hs ⊢
    refine leaves (C := ⟨P, none, N⟩) hT hok'.agr hl (fun w'' hw => ?_) ds w' hs
    obtain ⟨A0, c0, hv0⟩ := ownsRow_sl (hs.holds k0 _ hrow).1
    have hok0 : Ok ⟨P, none, 1⟩ E' ⟨[(0, .r k0)], [], st'.ow, st'.nx⟩ u' { tmps := #[E' k0], defers := [] } w'' := by
      refine ⟨⟨rfl, fun d s _ h => ?_, fun d g s h => (by cases h), fun d s h => ?_, fun d g s h => (by cases h)⟩, F', hw⟩
      · rw [look_cons] at h
        split at h
        · rename_i hd; subst hd; cases h; rfl
        · cases h
      · rw [look_cons] at h
        split at h
        · cases h; exact ⟨hk0, A0, _, c0, hv0⟩
        · cases h
    obtain ⟨E3, hE3, hok3⟩ := hsub.ok hok0
    obtain ⟨F3, hs3⟩ := hok3.sat
    have h7 := hok3.agr.kn 0 _ rfl (by rw [look_cons, if_pos rfl])
    have h8 := hok3.agr.klt 0 _ (by rw [look_cons, if_pos rfl])
    have h9 : E3 (post s).2.2 = E' k0 := by
      simp only [SV.den] at h7
      simpa using h7.symm
    refine ⟨s, E3, F3, u', fun k hk => (hE3 k hk).trans (h1 k hk), hn, h3, ⟨?_, h8.1, h8.2⟩, hs3, hG⟩
    rw [h9]
    rfl
  cases e with
  | normal =>
    simp only [FinQ] at h5
    split at h5
    · rename_i l hl; exact fin l hl h5
    · exact h5.elim
  | ret =>
    simp only [FinQ] at h5
    split at h5
    · rename_i l hl; exact fin l hl h5
    · exact h5.elim
  | exit id => exact h5.elim
  | goto l => exact h5.elim
  | panic c => exact h5.elim
  | outgrown => exact h5.elim
end Go.GV
namespace Go.Proofs.YtnjmkeijjapejaaDoor
open Go.GV Go.RowKit
set_option maxRecDepth 100000 in
theorem stringK_sc (used : Bool) (L : List UInt8) (hL : L ≠ []) : SC Tryd.prog 61 (fun _ => True) 2 [(0, .box 93 [bAddr used, .r 1]), (1, .row 5 (byteY.d L))] [.p 0 0]
      (fun _ : Unit => ([(0, .box 93 [bAddr used, .r 1]), (1, .emp)], 2, .string ⟨L.toArray⟩)) (fun _ => True) := by
  refine x_sc tt_ok Tryd.func61 rfl rfl rfl (by cases used <;> rfl) (fun u _ => ?_)
  refine x_vc tt_ok ?_
  refine x_drawA mix ?_
  refine xa_phase tt_ok (fuel := 2) [0, 1, 2, 3, 4, 5, 6, 7, 8, 9] rfl (by kernel_rfl) (by kernel_rfl) (by kernel_rfl) (by kernel_rfl) (xd_go tt_ok ?_)
  refine xd_sdRow byteY L rfl rfl rfl rfl rfl rfl hL (xd_go tt_ok ?_)
  refine xa_one 10 (by kernel_rfl) rfl ?_
  refine xl_usRow L rfl rfl rfl rfl rfl rfl rfl hL Tryd.underlying133 (by kernel_rfl) (xl_go tt_ok ?_)
  refine xa_one 11 (by kernel_rfl) rfl (xl_go tt_ok ?_)
  refine xa_done (by kernel_rfl) rfl ?_
  cases used
  · exact ⟨(), [], [_], rfl, rfl, .of rfl rfl rfl rfl rfl rfl, of_decide_eq_true rfl, trivial⟩
  · exact ⟨(), [], [_], rfl, rfl, .of rfl rfl rfl rfl rfl rfl, of_decide_eq_true rfl, trivial⟩
set_option maxRecDepth 100000 in
theorem reset_sc : SC Tryd.prog 64 (fun _ => True) 2 [(0, .box 93 [.p 0 0, .r 1]), (1, .emp)] [.p 0 0]
      (fun _ : Unit => ([(0, .box 93 [.v (.pointer none), .v (.slice none 0 0)])], 2, .tuple #[])) (fun _ => True) := by
  refine x_sc tt_ok Tryd.func64 rfl rfl rfl rfl (fun u _ => ?_)
  refine x_vc tt_ok ?_
  exact ⟨(), [], [], rfl, rfl, .of rfl rfl rfl rfl rfl rfl, of_decide_eq_true rfl, trivial⟩
def fillF (room : Int) : List ByteArray → List UInt8 → List ByteArray
  | [], cur => [⟨cur.toArray⟩]
  | y :: r, cur => if (cur.length : Int) + 1 + y.size ≤ room then fillF room r (cur ++ 32 :: y.data.toList) else ⟨cur.toArray⟩ :: fillF room r (32 :: 42 :: 32 :: y.data.toList)
def fillP (lead : ByteArray) (l : List ByteArray) (room : Int) : List ByteArray := match l with
  | [] => []
  | y :: r => fillF room r (lead.data.toList ++ y.data.toList)
def bySum (l : List ByteArray) : Nat := (l.map (fun y => y.size + 4)).sum
theorem fillF_len (room : Int) : ∀ (l : List ByteArray) (cur : List UInt8), (fillF room l cur).length ≤ l.length + 1
  | [], cur => Nat.le_refl _
  | y :: r, cur => by
    unfold fillF
    split
    · have := fillF_len room r (cur ++ 32 :: y.data.toList)
      simp only [List.length_cons]; omega
    · have := fillF_len room r (32 :: 42 :: 32 :: y.data.toList)
      simp only [List.length_cons]; omega
end Go.Proofs.YtnjmkeijjapejaaDoor
namespace Go.GV
open Go.RowKit
theorem xl_nilCell {α : Type} {C : Cx} {all l : List Oper} {Q : Post} {kn : Kn} {gk : List (Nat × (Gd × SV))} {ow : Own} {nx : Nat} {u : Im} (k e : Nat) (Y : Lay α) {t : Nat} (cs ds : List SV) (hk : look ow k = some (.box t (cs ++ .v (.slice none 0 0) :: ds)))
    (h : XL C all l Q ⟨kn, gk, (nx, .row e (Y.d [])) :: (k, .box t (cs ++ .r nx :: ds)) :: ow, nx + 1⟩ u) : XL C all l Q ⟨kn, gk, ow, nx⟩ u := by
  unfold XL at h ⊢
  intro E a w hok
  obtain ⟨f, hsat⟩ := hok.sat
  have hE : ∀ k, k < nx → upd E nx (.slice none 0 0) k = E k := fun k hk => upd_other _ _ (by omega)
  have hs1 := hsat.nil e Y
  have hkl : k < nx := (hsat.lt k _ hk).1
  have hkn : k ≠ nx := by omega
  have hold := hs1.holds k (.box t (cs ++ .v (.slice none 0 0) :: ds)) (by rw [look_cons, if_neg (fun e1 => hkn e1.symm)]; exact hk)
  have hltold := (hsat.lt k _ hk).2
  have hs2 : Sat (upd E nx (.slice none 0 0)) ((nx, .row e (Y.d [])) :: (k, .box t (cs ++ .r nx :: ds)) :: ow) (nx + 1) u a.defers w (upd f nx (fun _ => False)) := by
    refine ⟨fun j r hl => ?_, fun j hl b hb => ?_, hs1.apart, hs1.off, fun j r hl => ?_, hs1.imm, hs1.marks⟩
    · rw [look_cons] at hl
      split at hl
      · rename_i e1; exact hs1.holds j r (by rw [look_cons, if_pos e1]; exact hl)
      · rename_i e1
        rw [look_cons] at hl
        split at hl
        · rename_i e2
          subst e2
          cases hl
          obtain ⟨b, q1, q2, q3⟩ := hold
          refine ⟨b, q1, q2, ?_⟩
          rw [q3]
          simp [SV.den, upd_same]
        · exact hs1.holds j r (by rw [look_cons, if_neg e1]; exact hl)
    · refine hs1.non j ?_ b hb
      rw [look_cons] at hl ⊢
      split at hl
      · cases hl
      · rename_i e1
        rw [if_neg e1]
        rw [look_cons] at hl
        split at hl
        · cases hl
        · exact hl
    · rw [look_cons] at hl
      split at hl
      · rename_i e1; exact hs1.lt j r (by rw [look_cons, if_pos e1]; exact hl)
      · rename_i e1
        rw [look_cons] at hl
        split at hl
        · rename_i e2
          subst e2
          cases hl
          refine ⟨by omega, fun x hx => ?_⟩
          have hx' := List.mem_append.1 hx
          rcases hx' with hx' | hx'
          · exact SV.lt_mono hE (Nat.le_succ _) (hltold x (List.mem_append_left _ hx'))
          · rcases List.mem_cons.1 hx' with rfl | hx'
            · exact ⟨Nat.lt_succ_self _, none, 0, 0, upd_same _ _ _⟩
            · exact SV.lt_mono hE (Nat.le_succ _) (hltold x (List.mem_append_right _ (List.mem_cons_of_mem _ hx')))
        · exact hs1.lt j r (by rw [look_cons, if_neg e1]; exact hl)
  have hg := hok.agr.grow (E' := upd E nx (.slice none 0 0)) (ow := (nx, .row e (Y.d [])) :: (k, .box t (cs ++ .r nx :: ds)) :: ow) (nx := nx + 1) hE (Nat.le_succ _)
  have := h (upd E nx (.slice none 0 0)) a w ⟨hg, _, hs2⟩
  exact wpListIn_monoQ (fun e a w => SemQ.mono hE (Nat.le_succ _) (Im.le.refl u)) _ _ _ this
end Go.GV
namespace Go.Proofs.YtnjmkeijjapejaaDoor
open Go.GV Go.RowKit
set_option maxRecDepth 100000 in
theorem fill_scr (L l : List ByteArray) (lead : ByteArray) (A : Option Addr) (c : Nat) (room : Int) (hl : l ≠ []) (hlead : lead.size ≤ 3 ∧ 1 ≤ lead.size) (hsz : bySum l ≤ 1000000000000) (hL : L.length ≤ 1000000000000) :
    SCR Tryd.prog 39 (fun u => SlAt u (.slice A l.length c) (strY.d l)) 1 [(0, .row 9 (strY.d L))] [.r 0, .v (.string lead), .v (.slice A l.length c), .v (.int .i64 room)]
      (fun _ : Unit => ([(1, .row 9 (strY.d (L ++ fillP lead l room)))], 2, 1)) (fun _ => True) := by
  refine x_scr tt_ok Tryd.func39 rfl rfl rfl rfl (fun u hu => ?_)
  refine x_vc tt_ok ?_
  obtain ⟨y0, l', rfl⟩ : ∃ y0 l', l = y0 :: l' := by
    cases l with
    | nil => exact absurd rfl hl
    | cons y0 l' => exact ⟨y0, l', rfl⟩
  have hy0 : y0.size ≤ 1000000000000 := by simp only [bySum, List.map_cons, List.sum_cons] at hsz; omega
  have hlsz : lead.data.toList.length = lead.size := Array.length_toList
  have hysz : ∀ y : ByteArray, y.data.toList.length = y.size := fun _ => Array.length_toList
  have hn0 : 0 < (y0 :: l').length := by simp
  refine xl_nilCell 1 5 byteY [.v (.pointer none)] [] rfl ?_
  refine xl_callSC (writeString_sc false [] lead (by simp only [List.length_nil]; omega)) (fun _ _ _ _ => trivial) trivial [1, 2] rfl rfl rfl rfl fn60 rfl rfl rfl rfl rfl rfl rfl (fun _ => rfl) (fun _ u1 hu1 _ => ?_)
  refine xl_go tt_ok ?_
  have hu2 := hu.le hu1
  refine xl_sl 14 rfl hu2 ?_
  refine xl_go tt_ok ?_
  repeat (refine And.intro ?_ ?_; first | omega | (simp only [Lay.d_n]; omega) | (simp only [decide_eq_true_eq, decide_eq_false_iff_not, Bool.or_eq_false_iff, Bool.and_eq_true, Bool.or_eq_true, Bool.and_eq_false_iff, Bool.not_eq_true', Bool.not_eq_false', Lay.d_n]; omega) | (simp only [decide_eq_true_eq, decide_eq_false_iff_not, Bool.or_eq_false_iff, Bool.and_eq_true, Bool.or_eq_true, Bool.and_eq_false_iff, Bool.not_eq_true', Bool.not_eq_false']; omega) | (simp only [decide_eq_true_eq, decide_eq_false_iff_not, Bool.or_eq_false_iff]; simp only [Lay.d_n]; omega))
  refine xl_callSC (writeString_sc true ([] ++ lead.data.toList) y0 (by simp only [List.nil_append]; omega)) (fun _ _ _ _ => trivial) trivial [1, 3] rfl rfl rfl rfl fn60 rfl rfl rfl rfl rfl rfl rfl (fun _ => rfl) (fun _ u2 hu2' _ => ?_)
  refine xl_go tt_ok ?_
  refine xl_from tt_ok strY (y0 :: l') rfl rfl rfl rfl rfl rfl rfl rfl rfl rfl (fun E w F hs => (hu2.le hu2')) (by decide) (by omega) (fun A' c' hA' => ?_)
  refine xl_sl 19 rfl hA' ?_
  refine xl_go tt_ok ?_
  refine x_loop (σ := Nat × List ByteArray × List UInt8) (fun (k, done, cur) => ⟨[(21, .v (.int .i64 (k : Int))), (20, .v (.int .i64 (l'.length : Int))), (19, .r 6), (9, .p 1 0), (3, .v (.int .i64 room)), (0, .r 7)], [],
      [(7, .row 9 (strY.d (L ++ done))), (1, .box 93 [.p 1 0, .r 8]), (8, .row 5 (byteY.d cur)), (6, .sl (strY.d l'))], 9⟩)
    (fun (k, done, cur) _ => k ≤ l'.length ∧ done.length ≤ k ∧ cur ≠ [] ∧ cur.length + bySum (l'.drop k) ≤ 1000000000000 ∧ fillP lead (y0 :: l') room = done ++ fillF room (l'.drop k) cur) (fun (k, _, _) => l'.length - k) (fun _ => by show 7 ≤ 9; decide) (0, [], lead.data.toList ++ y0.data.toList) [(7, some 0), (8, some 5)] ?_
    ⟨Nat.zero_le _, Nat.le_refl _, ?_, ?_, rfl⟩ ?_
  · simp only [List.append_nil]
    exact .of rfl rfl rfl rfl rfl rfl
  · intro h
    have e : (lead.data.toList ++ y0.data.toList).length = 0 := congrArg List.length h
    rw [List.length_append, hlsz] at e
    omega
  · show (lead.data.toList ++ y0.data.toList).length + bySum l' ≤ 1000000000000
    rw [List.length_append, hlsz, hysz]
    have : bySum (y0 :: l') = y0.size + 4 + bySum l' := rfl
    omega
  rintro ⟨k, done, cur⟩ u3 hu3 ⟨g1, g2, g3, g4, g5⟩
  have hdl : (L ++ done).length = L.length + done.length := List.length_append
  have hl'' : l'.length ≤ 1000000000000 := by
    have : ∀ l : List ByteArray, l.length ≤ bySum l := fun l => by
      induction l with
      | nil => exact Nat.le_refl _
      | cons y l ih => simp only [bySum, List.map_cons, List.sum_cons, List.length_cons] at ih ⊢; omega
    have := this (y0 :: l')
    simp only [List.length_cons] at this
    omega
  refine x_vc tt_ok ?_
  refine x_if (fun h => ?_) (fun h => ?_)
  · have h : (k : Int) < (l'.length : Int) := of_decide_eq_true h
    have hkl : k < l'.length := by omega
    repeat (refine And.intro ?_ ?_; first | omega | (simp only [Lay.d_n]; omega) | (simp only [decide_eq_true_eq, decide_eq_false_iff_not, Bool.or_eq_false_iff, Bool.and_eq_true, Bool.or_eq_true, Bool.and_eq_false_iff, Bool.not_eq_true', Bool.not_eq_false', Lay.d_n]; omega) | (simp only [decide_eq_true_eq, decide_eq_false_iff_not, Bool.or_eq_false_iff, Bool.and_eq_true, Bool.or_eq_true, Bool.and_eq_false_iff, Bool.not_eq_true', Bool.not_eq_false']; omega) | (simp only [decide_eq_true_eq, decide_eq_false_iff_not, Bool.or_eq_false_iff]; simp only [Lay.d_n]; omega))
    refine xl_callSC (len_sc true cur) (fun _ _ _ _ => trivial) trivial [1, 8] rfl rfl rfl rfl fn62 rfl rfl rfl rfl rfl rfl rfl (fun _ => rfl) (fun _ u4 hu4 _ => ?_)
    refine xl_go tt_ok ?_
    obtain ⟨y, hy⟩ : ∃ y, l'[k]? = some y := ⟨_, List.getElem?_eq_getElem hkl⟩
    have hyd : l'.getD ((k : Nat) : Int).toNat strY.dft = y := by rw [Int.toNat_natCast, List.getD_eq_getElem?_getD, hy]; rfl
    rw [drop_get hy] at g4 g5
    rw [fillF] at g5
    simp only [bySum, List.map_cons, List.sum_cons] at g4
    have g4' : cur.length + (y.size + 4 + bySum (l'.drop (k + 1))) ≤ 1000000000000 := g4
    have hys : (l'.getD ((k : Nat) : Int).toNat strY.dft).size ≤ 1000000000000 := by rw [hyd]; omega
    repeat (refine And.intro ?_ ?_; first | omega | (simp only [Lay.d_n]; omega) | (simp only [decide_eq_true_eq, decide_eq_false_iff_not, Bool.or_eq_false_iff, Bool.and_eq_true, Bool.or_eq_true, Bool.and_eq_false_iff, Bool.not_eq_true', Bool.not_eq_false', Lay.d_n]; omega) | (simp only [decide_eq_true_eq, decide_eq_false_iff_not, Bool.or_eq_false_iff, Bool.and_eq_true, Bool.or_eq_true, Bool.and_eq_false_iff, Bool.not_eq_true', Bool.not_eq_false']; omega) | (simp only [decide_eq_true_eq, decide_eq_false_iff_not, Bool.or_eq_false_iff]; simp only [Lay.d_n]; omega))
    refine x_if (fun h2 => ?_) (fun h2 => ?_)
    · have h2 : (cur.length : Int) + 1 + y.size ≤ room := by have := of_decide_eq_true h2; simpa only [hyd] using this
      rw [if_pos h2] at g5
      refine xl_callSC (writeByte_sc true cur 32 (by omega)) (fun _ _ _ _ => trivial) trivial [1, 8] rfl rfl rfl rfl fn63 rfl rfl rfl rfl rfl rfl rfl (fun _ => rfl) (fun _ u5 hu5 _ => ?_)
      refine xl_go tt_ok ?_
      refine xl_callSC (writeString_sc true (cur ++ [32]) y (by rw [List.length_append]; show cur.length + 1 + y.size ≤ _; omega)) (fun _ _ _ _ => trivial) trivial [1, 9] rfl rfl rfl rfl fn60 (congrArg (fun z => some [SV.p 1 0, SV.v (.string z)]) hyd) rfl rfl rfl rfl rfl rfl (fun _ => rfl) (fun _ u6 hu6 _ => ?_)
      refine xl_go tt_ok ?_
      repeat (refine And.intro ?_ ?_; first | omega | (simp only [Lay.d_n]; omega) | (simp only [decide_eq_true_eq, decide_eq_false_iff_not, Bool.or_eq_false_iff, Bool.and_eq_true, Bool.or_eq_true, Bool.and_eq_false_iff, Bool.not_eq_true', Bool.not_eq_false', Lay.d_n]; omega) | (simp only [decide_eq_true_eq, decide_eq_false_iff_not, Bool.or_eq_false_iff, Bool.and_eq_true, Bool.or_eq_true, Bool.and_eq_false_iff, Bool.not_eq_true', Bool.not_eq_false']; omega) | (simp only [decide_eq_true_eq, decide_eq_false_iff_not, Bool.or_eq_false_iff]; simp only [Lay.d_n]; omega))
      refine again (k + 1, done, cur ++ 32 :: y.data.toList) [(8, some 10)] ?_ ⟨hkl, by omega, by simp, ?_, g5⟩ (by show l'.length - (k + 1) < l'.length - k; omega)
      · rw [show cur ++ 32 :: y.data.toList = cur ++ [32] ++ y.data.toList by simp]
        exact .of rfl rfl rfl rfl rfl rfl
      · show (cur ++ 32 :: y.data.toList).length + bySum (l'.drop (k + 1)) ≤ _
        rw [List.length_append, List.length_cons, hysz]; omega
    · have h2 : ¬ (cur.length : Int) + 1 + y.size ≤ room := by have := of_decide_eq_false h2; simpa only [hyd] using this
      rw [if_neg h2] at g5
      refine xl_callSC (stringK_sc true cur g3) (fun _ _ _ _ => trivial) trivial [1, 8] rfl rfl rfl rfl fn61 rfl rfl rfl rfl rfl rfl rfl (fun _ => rfl) (fun _ u5 hu5 _ => ?_)
      refine xl_go tt_ok ?_
      refine xl_push tt_ok strY (L ++ done) ⟨cur.toArray⟩ 16 (cs := [.string ⟨cur.toArray⟩]) rfl rfl rfl rfl rfl rfl rfl rfl rfl rfl rfl rfl (by kernel_rfl) rfl rfl rfl rfl rfl (fun n hn => by cases hn; decide) rfl rfl rfl (by omega) (by omega) ?_
      refine xl_go tt_ok ?_
      refine xl_callSC reset_sc (fun _ _ _ _ => trivial) trivial [1, 8] rfl rfl rfl rfl fn64 rfl rfl rfl rfl rfl rfl rfl (fun _ => rfl) (fun _ u6 hu6 _ => ?_)
      refine xl_go tt_ok ?_
      refine xl_nilCell 1 5 byteY [.v (.pointer none)] [] rfl ?_
      refine xl_callSC (writeString_sc false [] ⟨#[32, 42, 32]⟩ (by decide)) (fun _ _ _ _ => trivial) trivial [1, 10] rfl rfl rfl rfl fn60 rfl rfl rfl rfl rfl rfl rfl (fun _ => rfl) (fun _ u7 hu7 _ => ?_)
      refine xl_go tt_ok ?_
      refine xl_callSC (writeString_sc true [32, 42, 32] y (by show 3 + y.size ≤ _; omega)) (fun _ _ _ _ => trivial) trivial [1, 11] rfl rfl rfl rfl fn60 (congrArg (fun z => some [SV.p 1 0, SV.v (.string z)]) hyd) rfl rfl rfl rfl rfl rfl (fun _ => rfl) (fun _ u8 hu8 _ => ?_)
      refine xl_go tt_ok ?_
      repeat (refine And.intro ?_ ?_; first | omega | (simp only [Lay.d_n]; omega) | (simp only [decide_eq_true_eq, decide_eq_false_iff_not, Bool.or_eq_false_iff, Bool.and_eq_true, Bool.or_eq_true, Bool.and_eq_false_iff, Bool.not_eq_true', Bool.not_eq_false', Lay.d_n]; omega) | (simp only [decide_eq_true_eq, decide_eq_false_iff_not, Bool.or_eq_false_iff, Bool.and_eq_true, Bool.or_eq_true, Bool.and_eq_false_iff, Bool.not_eq_true', Bool.not_eq_false']; omega) | (simp only [decide_eq_true_eq, decide_eq_false_iff_not, Bool.or_eq_false_iff]; simp only [Lay.d_n]; omega))
      refine again (k + 1, done ++ [⟨cur.toArray⟩], 32 :: 42 :: 32 :: y.data.toList) [(7, some 9), (8, some 12)] ?_ ⟨hkl, by simp; omega, by simp, ?_, by rw [g5, List.append_assoc]; rfl⟩ (by show l'.length - (k + 1) < l'.length - k; omega)
      · simp only [← List.append_assoc]
        exact .of rfl rfl rfl rfl rfl rfl
      · show (32 :: 42 :: 32 :: y.data.toList).length + bySum (l'.drop (k + 1)) ≤ 1000000000000
        simp only [List.length_cons, hysz]; omega
  · have h : ¬ (k : Int) < (l'.length : Int) := of_decide_eq_false h
    have ek : k = l'.length := by omega
    subst ek
    rw [List.drop_length, fillF] at g5
    refine xl_callSC (stringK_sc true cur g3) (fun _ _ _ _ => trivial) trivial [1, 8] rfl rfl rfl rfl fn61 rfl rfl rfl rfl rfl rfl rfl (fun _ => rfl) (fun _ u5 hu5 _ => ?_)
    refine xl_go tt_ok ?_
    refine xl_push tt_ok strY (L ++ done) ⟨cur.toArray⟩ 16 (cs := [.string ⟨cur.toArray⟩]) rfl rfl rfl rfl rfl rfl rfl rfl rfl rfl rfl rfl (by kernel_rfl) rfl rfl rfl rfl rfl (fun n hn => by cases hn; decide) rfl rfl rfl (by omega) (by omega) ?_
    refine xl_go tt_ok ?_
    refine ⟨(), [(1, some 9)], 9, rfl, ?_, of_decide_eq_true rfl, ⟨_, _, rfl⟩, of_decide_eq_true rfl, trivial⟩
    rw [g5, ← List.append_assoc]
    exact .of rfl rfl rfl rfl rfl rfl
end Go.Proofs.YtnjmkeijjapejaaDoor
namespace Go.Proofs.YtnjmkeijjapejaaDoor
open Go.GV Go.RowKit
def joinT (L : List ByteArray) (sep : ByteArray) : ByteArray := ⟨(Lib.join (L.map (·.data.toList)) sep.data.toList).toArray⟩
theorem joinT_size (L : List ByteArray) (sep : ByteArray) : (joinT L sep).size = (Lib.join (L.map (·.data.toList)) sep.data.toList).length := by
  show (joinT L sep).data.size = _
  simp [joinT]
theorem join_any (L : List ByteArray) (x : Value) (sep : ByteArray) (w : World) (hx : SlAt (im w) x (strY.d L)) (hL : L.length ≤ 140737488355328) (hz : (joinT L sep).size ≤ 140737488355328) :
    Calls Tryd.prog 38 #[x, .string sep] w (PureP w fun v _ => v = .string (joinT L sep)) := by
  obtain ⟨A, c, rfl, h2, h3, h4⟩ := hx
  by_cases h0 : L.length = 0
  · have hl : L = [] := List.eq_nil_of_length_eq_zero h0
    subst hl
    refine (Tryd.strings_Join_none A c sep w).mono fun e w' ⟨h5, h6⟩ => ?_
    subst h6
    exact ⟨_, h5, Below.refl _ _, rfl⟩
  · obtain ⟨ad, rfl, h6⟩ := h4 (by show 0 < L.length; omega)
    have hcell : ∀ (j : Nat) x, L[j]? = some x → (im w).cell? (ad.add j) = some (.string x) := by
      intro j x hj
      have hjl : j < L.length := (List.getElem?_eq_some_iff.1 hj).1
      have := h6 j hjl 0 _ rfl
      have e1 : L.getD (j : Int).toNat (⟨#[]⟩ : ByteArray) = x := by
        rw [List.getD_eq_getElem?_getD, Int.toNat_natCast, hj]; rfl
      have e2 : j * (strY.d L).cs.length + 0 = j := by show j * 1 + 0 = j; omega
      rw [e2] at this
      rw [this]
      show some (Value.string (L.getD (j : Int).toNat ⟨#[]⟩)) = _
      rw [e1]
    obtain ⟨bk, o, sp⟩ := ad
    have h7 := hcell 0 (L.getD 0 ⟨#[]⟩) (by rw [List.getD_eq_getElem?_getD, List.getElem?_eq_getElem (by omega)]; rfl)
    have hsp : sp = none := by
      cases sp with
      | none => rfl
      | some q =>
        exfalso
        unfold Addr.add at h7
        rw [if_pos rfl] at h7
        unfold Im.cell? at h7
        split at h7
        · simp at h7
        · cases h7
    subst hsp
    have hbk : bk < w.heap.size := by
      unfold Im.cell? Addr.add at h7
      rw [if_pos rfl] at h7
      split at h7
      · rename_i h8
        exact (Array.getElem?_eq_some_iff.1 h8).1
      · cases h7
    refine (Tryd.strings_Join bk o c L sep w (fun j x hj => ?_) hbk hL (by exact h2) (by rw [← joinT_size]; exact hz)).mono fun e w' ⟨h5, h8⟩ => ⟨_, h5, h8, rfl⟩
    have h9 := hcell j x hj
    rw [← h9]
    show w.cell? _ = w.cell? _
    congr 1
    unfold Addr.add
    by_cases hj0 : j = 0
    · subst hj0; rfl
    · rw [if_neg (by simpa using hj0)]
def blB : ByteArray := ⟨#[32]⟩
def bgB : ByteArray := ⟨#[47, 42, 32]⟩
def ltB : ByteArray := ⟨#[32, 42, 32]⟩
def eoB : ByteArray := ⟨#[32, 42, 47]⟩
def emB : ByteArray := ⟨#[47, 42, 32, 42, 47]⟩
def stB : ByteArray := ⟨#[32, 42]⟩
def oneRow (p : List ByteArray) : ByteArray := bgB ++ joinT p blB ++ eoB
def badF (s : ByteArray) (ind col : Int) : Bool := (((!(insP s).2 || decide (ind < 0)) || decide (256 < ind)) || decide (col < 1)) || decide (4096 < col)
def rowsF (room : Int) : Bool → Par → List ByteArray
  | _, [] => []
  | first, p :: r => (if first then [] else [stB]) ++ (fillP (if first then bgB else ltB) p room ++ rowsF room false r)
def fillsP (s : ByteArray) (ind col : Int) : List ByteArray × Int :=
  if badF s ind col then ([], 2)
  else if keptB (insP s).1 then (splitP s, 0)
  else if parP (insP s).1 = [] then ([emB], 0)
  else if (parP (insP s).1).length = 1 ∧ ((oneRow ((parP (insP s).1).getD 0 [])).size : Int) ≤ col - ind then ([oneRow ((parP (insP s).1).getD 0 [])], 0)
  else (rowsF (col - ind) true (parP (insP s).1) ++ [eoB], 0)
structure SmallP (s : ByteArray) : Prop where
  size : s.size ≤ 4294967280
  isize : (insP s).1.size < 4294967281
  tot : ((wsOf (insP s).1).map List.length).sum * 24 + 100 ≤ 140737488355328
  lin : ∀ x ∈ linesP (insP s).1, x.size ≤ 281474976710656 ∧ ∀ y ∈ wordsP x, y.size ≤ 281474976710656
  par : ∀ p ∈ parP (insP s).1, bySum p ≤ 1000000000000
  num : (parP (insP s).1).length + szR (parP (insP s).1) ≤ 100000000000
theorem addW_ne {st : Par × Bool} {y : ByteArray} (h : ∀ p ∈ st.1, p ≠ []) : ∀ p ∈ (addW st y).1, p ≠ [] := by
  intro p hp
  unfold addW at hp
  simp only at hp
  rw [List.mem_iff_getElem?] at hp
  obtain ⟨i, hi⟩ := hp
  rw [List.getElem?_set] at hi
  split at hi
  · split at hi
    · cases hi; simp
    · cases hi
  · rename_i hne
    unfold opn at hi hne
    split at hi
    · exact h p (List.mem_of_getElem? hi)
    · rename_i hb
      rw [if_neg hb] at hne
      simp only [List.length_append, List.length_singleton, Nat.add_sub_cancel] at hne
      rcases Nat.lt_or_ge i st.1.length with h1 | h1
      · rw [List.getElem?_append_left h1] at hi
        exact h p (List.mem_of_getElem? hi)
      · have := (List.getElem?_eq_some_iff.1 hi).1
        simp at this
        omega
theorem foldW_ne : ∀ (ws : List ByteArray) (st : Par × Bool), (∀ p ∈ st.1, p ≠ []) → ∀ p ∈ (ws.foldl addW st).1, p ≠ []
  | [], _, h => h
  | y :: r, st, h => foldW_ne r (addW st y) (addW_ne h)
theorem parP_ne (s : ByteArray) : ∀ p ∈ parP s, p ≠ [] := by
  have : ∀ (L : List (List ByteArray)) (st : Par × Bool), (∀ p ∈ st.1, p ≠ []) → ∀ p ∈ (L.foldl parLine st).1, p ≠ [] := by
    intro L
    induction L with
    | nil => exact fun st h => h
    | cons x L ih =>
      intro st h
      refine ih _ ?_
      unfold parLine
      split
      · exact h
      · exact foldW_ne x st h
  exact this _ _ (fun p hp => by cases hp)
theorem fillP_len (lead : ByteArray) (p : List ByteArray) (room : Int) : (fillP lead p room).length ≤ p.length := by
  unfold fillP
  split
  · exact Nat.le_refl _
  · rename_i y r
    have := fillF_len room r (lead.data.toList ++ y.data.toList)
    simp only [List.length_cons]; exact this
theorem join_size : ∀ p : List ByteArray, (joinT p blB).size ≤ bySum p
  | [] => Nat.zero_le _
  | y :: r => by
    rw [joinT_size, List.map_cons, Lib.join_cons, List.length_append]
    have : ∀ r : List ByteArray, (Lib.joinTail blB.data.toList (r.map (·.data.toList))).length ≤ bySum r := by
      intro r
      induction r with
      | nil => exact Nat.le_refl _
      | cons z r ih =>
        simp only [Lib.joinTail, List.map_cons, List.flatten_cons, List.length_append, bySum, List.sum_cons] at ih ⊢
        have e : z.data.toList.length = z.size := Array.length_toList
        have e2 : blB.data.toList.length = 1 := rfl
        omega
    have h1 := this r
    have e : y.data.toList.length = y.size := Array.length_toList
    have e3 : bySum (y :: r) = y.size + 4 + bySum r := rfl
    omega
theorem take_rows (room : Int) : ∀ (R : Par) (first : Bool) (i : Nat) (p : List ByteArray), R[i]? = some p → rowsF room first (R.take (i + 1)) = rowsF room first (R.take i) ++ ((if (first && decide (i = 0)) then [] else [stB]) ++ fillP (if (first && decide (i = 0)) then bgB else ltB) p room)
  | [], _, _, _, h => by simp at h
  | q :: R, first, 0, p, h => by
    simp only [List.getElem?_cons_zero, Option.some.injEq] at h
    subst h
    cases first <;> simp [rowsF]
  | q :: R, first, i + 1, p, h => by
    simp only [List.getElem?_cons_succ] at h
    have := take_rows room R false i p h
    simp only [List.take_succ_cons, rowsF, this, Bool.false_and, Bool.false_eq_true, if_false]
    rw [show decide (i + 1 = 0) = false from rfl, Bool.and_false]
    simp [List.append_assoc]
def leadF : Nat → ByteArray
  | 0 => bgB
  | _ + 1 => ltB
theorem leadF_size : ∀ i : Nat, (leadF i).size ≤ 3 ∧ 1 ≤ (leadF i).size
  | 0 => by show bgB.size ≤ 3 ∧ 1 ≤ bgB.size; decide
  | _ + 1 => by show ltB.size ≤ 3 ∧ 1 ≤ ltB.size; decide
theorem rowsF_len (room : Int) : ∀ (R : Par) (f : Bool), (rowsF room f R).length ≤ R.length + szR R
  | [], _ => Nat.zero_le _
  | p :: R, f => by
    have h1 := rowsF_len room R false
    have h2 := fillP_len (if f then bgB else ltB) p room
    have h3 : szR (p :: R) = p.length + szR R := rfl
    simp only [rowsF, List.length_append, List.length_cons]
    have h4 : (if f = true then ([] : List ByteArray) else [stB]).length ≤ 1 := by cases f <;> simp
    omega
theorem szR_take : ∀ (R : Par) (i : Nat), szR (R.take i) ≤ szR R
  | [], i => by simp
  | p :: R, 0 => Nat.zero_le _
  | p :: R, i + 1 => by
    have := szR_take R i
    have h3 : szR (p :: R) = p.length + szR R := rfl
    have h4 : szR ((p :: R).take (i + 1)) = p.length + szR (R.take i) := rfl
    omega
theorem take_rows0 (room : Int) {R : Par} {i : Nat} {p : List ByteArray} (h : R[i]? = some p) : rowsF room true (R.take (i + 1)) = rowsF room true (R.take i) ++ ((if i = 0 then [] else [stB]) ++ fillP (leadF i) p room) := by
  rw [take_rows room R true i p h]
  cases i with
  | zero => rfl
  | succ i => rfl
theorem getD_ofP {α : Type} {L : List α} {i : Nat} {x d : α} (h : L[i]? = some x) : L.getD i d = x := by
  rw [List.getD_eq_getElem?_getD, h]; rfl
set_option maxRecDepth 100000 in
theorem keptX_any (s : ByteArray) (w : World) (hg : Glob (im w)) (hz : s.size ≤ 4294967280) :
    Calls Tryd.prog 13 #[.string s] w (PureP w fun v _ => v = .tuple #[.bool ((insP s).2 && keptB (insP s).1), .int .i64 (if (insP s).2 then 0 else 2)]) := by
  refine x_fun tt_ok Tryd.func13 rfl rfl [] 0 [.v (.string s)] rfl rfl rfl rfl (fun b hb => by cases hb) ?_
  refine x_vc tt_ok ?_
  refine xl_call0 (.tuple #[.string (insP s).1, .bool (insP s).2]) rfl rfl rfl rfl fn34 rfl rfl (fun E w F hs => inside_any s hz w (hg.imm hs.imm)) ?_
  generalize insP s = q
  obtain ⟨a, b⟩ := q
  cases b
  · refine xl_go tt_ok ?_
    refine x_ift rfl ?_
    exact fin1 (fun _ _ => rfl)
  · refine xl_go tt_ok ?_
    refine x_iff rfl ?_
    refine xl_call0 (.bool (keptB a)) rfl rfl rfl rfl fn35 rfl rfl (fun E w F _ => kept_any a w) ?_
    refine xl_go tt_ok ?_
    exact fin1 (fun _ _ => by simp only [Bool.true_and, if_true]; rfl)
set_option maxHeartbeats 1000000 in
set_option maxRecDepth 100000 in
theorem fills_any (s : ByteArray) (ind col : Int) (w : World) (hg : Glob (im w)) (hS : SmallP s) :
    Calls Tryd.prog 12 #[.string s, .int .i64 ind, .int .i64 col] w (PureP w (OwnT 9 (strY.d (fillsP s ind col).1) [.int .i64 (fillsP s ind col).2])) := by
  have hz := hS.size
  refine x_fun tt_ok Tryd.func12 rfl rfl [] 0 [.v (.string s), .v (.int .i64 ind), .v (.int .i64 col)] rfl rfl rfl rfl (fun b hb => by cases hb) ?_
  refine x_vc tt_ok ?_
  refine xl_call0 (.tuple #[.string (insP s).1, .bool (insP s).2]) rfl rfl rfl rfl fn34 rfl rfl (fun E w F hs => inside_any s hz w (hg.imm hs.imm)) ?_
  refine xl_go tt_ok ?_
  refine x_if (fun h => ?_) (fun h => ?_)
  · have h : badF s ind col = true := h
    rw [fillsP, if_pos h]
    exact finO2n strY
  · have h : badF s ind col = false := h
    have hv : (insP s).2 = true ∧ 0 ≤ ind ∧ ind ≤ 256 ∧ 1 ≤ col ∧ col ≤ 4096 := by
      simp only [badF, Bool.or_eq_false_iff, Bool.not_eq_false', decide_eq_false_iff_not] at h
      exact ⟨h.1.1.1.1, by omega, by omega, by omega, by omega⟩
    rw [fillsP, if_neg (by rw [h]; decide)]
    refine xl_call0 (.bool (keptB (insP s).1)) rfl rfl rfl rfl fn35 rfl rfl (fun E w F _ => kept_any (insP s).1 w) ?_
    refine xl_go tt_ok ?_
    refine x_if (fun h2 => ?_) (fun h2 => ?_)
    · have h2 : keptB (insP s).1 = true := h2
      rw [if_pos h2]
      refine xl_callO 9 (strY.d (splitP s)) rfl rfl rfl rfl fn36 rfl rfl (fun E w F hs' => split_own s w (by omega) (hg.imm hs'.imm)) ?_
      refine xl_go tt_ok ?_
      exact finO2 (k := 0) rfl
    · have h2 : keptB (insP s).1 = false := h2
      rw [if_neg (by rw [h2]; decide)]
      generalize hR : parP (insP s).1 = R
      have hRne : ∀ p ∈ R, p ≠ [] := by rw [← hR]; exact parP_ne _
      have hpar : ∀ p ∈ R, bySum p ≤ 1000000000000 := by rw [← hR]; exact hS.par
      have hnum : R.length + szR R ≤ 100000000000 := by rw [← hR]; exact hS.num
      refine xl_callStar (σ := Option Addr × Nat × List SlV) (fun s => .slice s.1 R.length s.2.1) (fun s => itemsP s.2.2 R ++ [⟨.slice s.1 R.length s.2.1, 23, slY.d s.2.2⟩]) (fun s => s.2.2.length = R.length) rfl rfl rfl rfl fn37 rfl rfl (fun E w F hs' => by
        have := paragraphs_any (insP s).1 w (hg.imm hs'.imm) hS.isize hS.tot hS.lin
        rw [hR] at this
        exact this) (fun ⟨A, cc, V⟩ hVR => ?_)
      have hVR : V.length = R.length := hVR
      refine xl_freezeStar 0 (sl := itemsP V R ++ [(⟨.slice A R.length cc, 23, slY.d V⟩ : SI)]) rfl (fun u1 hu1 hfr => ?_)
      have hOut : SlAt u1 (.slice A R.length cc) (slY.d V) := (hfr _ (List.mem_append_right _ (List.mem_singleton.2 rfl))).1
      have hIn : ∀ (i : Nat) p, R[i]? = some p → SlAt u1 (V.getD i ⟨none, 0, 0⟩).val (strY.d p) := fun i p hp => by
        have hil : i < R.length := (List.getElem?_eq_some_iff.1 hp).1
        have := hfr _ (List.mem_append_left _ (List.mem_of_getElem? (itemsP_get (V := V) (R := R) (i := i) (by omega) hil)))
        rw [getD_ofP hp] at this
        exact this.1
      refine xl_go tt_ok ?_
      refine x_if (fun h3 => ?_) (fun h3 => ?_)
      · have h3 : ((R.length : Nat) : Int) = 0 := of_decide_eq_true h3
        rw [if_pos (List.eq_nil_of_length_eq_zero (by omega))]
        refine xl_build tt_ok strY [emB] [_] rfl rfl rfl rfl rfl rfl rfl rfl rfl rfl rfl rfl rfl rfl rfl ?_
        refine xl_go tt_ok ?_
        exact finO2 (k := 1) rfl
      · have h3 : ¬ ((R.length : Nat) : Int) = 0 := of_decide_eq_false h3
        rw [if_neg (fun hh => h3 (by rw [hh]; rfl))]
        have hVl : ((slY.d V).n : Int) = R.length := by rw [Lay.d_n, hVR]
        repeat (refine And.intro ?_ ?_; first | omega | (simp only [Lay.d_n]; omega) | (simp only [decide_eq_true_eq, decide_eq_false_iff_not, Bool.or_eq_false_iff, Bool.and_eq_true, Bool.or_eq_true, Bool.and_eq_false_iff, Bool.not_eq_true', Bool.not_eq_false', Lay.d_n]; omega) | (simp only [decide_eq_true_eq, decide_eq_false_iff_not, Bool.or_eq_false_iff, Bool.and_eq_true, Bool.or_eq_true, Bool.and_eq_false_iff, Bool.not_eq_true', Bool.not_eq_false']; omega) | (simp only [decide_eq_true_eq, decide_eq_false_iff_not, Bool.or_eq_false_iff]; simp only [Lay.d_n]; omega))
        refine x_if (fun h4 => ?_) (fun h4 => ?_)
        · have h4 : R.length = 1 := by have := of_decide_eq_true h4; omega
          have hp0 : R[0]? = some (R.getD 0 []) := by rw [List.getD_eq_getElem?_getD, List.getElem?_eq_getElem (by omega)]; rfl
          have hin0 := hIn 0 _ hp0
          have hb0 := hpar _ (List.mem_of_getElem? hp0)
          have hj0 := join_size (R.getD 0 [])
          have hn0 : (R.getD 0 []).length ≤ szR R := getD_sz (by omega)
          refine xl_sl 56 rfl hOut ?_
          refine xl_go tt_ok ?_
          repeat (refine And.intro ?_ ?_; first | omega | (simp only [Lay.d_n]; omega) | (simp only [decide_eq_true_eq, decide_eq_false_iff_not, Bool.or_eq_false_iff, Bool.and_eq_true, Bool.or_eq_true, Bool.and_eq_false_iff, Bool.not_eq_true', Bool.not_eq_false', Lay.d_n]; omega) | (simp only [decide_eq_true_eq, decide_eq_false_iff_not, Bool.or_eq_false_iff, Bool.and_eq_true, Bool.or_eq_true, Bool.and_eq_false_iff, Bool.not_eq_true', Bool.not_eq_false']; omega) | (simp only [decide_eq_true_eq, decide_eq_false_iff_not, Bool.or_eq_false_iff]; simp only [Lay.d_n]; omega))
          refine xl_call0 (.string (joinT (R.getD 0 []) blB)) rfl rfl rfl rfl fn38 rfl rfl (fun E w F hs' => join_any _ _ blB w (hin0.imm hs'.imm) (by omega) (by omega)) ?_
          refine xl_go tt_ok ?_
          have hc1 : (⟨#[47, 42, 32]⟩ : ByteArray).size = 3 := rfl
          have hc2 : (⟨#[32, 42, 47]⟩ : ByteArray).size = 3 := rfl
          have hc3 : ((⟨#[47, 42, 32]⟩ : ByteArray) ++ joinT (R.getD 0 []) blB).size = 3 + (joinT (R.getD 0 []) blB).size := by rw [ByteArray.size_append]; rfl
          have hc4 : ((⟨#[47, 42, 32]⟩ : ByteArray) ++ joinT (R.getD 0 []) blB ++ ⟨#[32, 42, 47]⟩).size = 3 + (joinT (R.getD 0 []) blB).size + 3 := by rw [ByteArray.size_append, hc3]; rfl
          repeat (refine And.intro ?_ ?_; first | omega | (simp only [Lay.d_n]; omega) | (simp only [decide_eq_true_eq, decide_eq_false_iff_not, Bool.or_eq_false_iff, Bool.and_eq_true, Bool.or_eq_true, Bool.and_eq_false_iff, Bool.not_eq_true', Bool.not_eq_false', Lay.d_n]; omega) | (simp only [decide_eq_true_eq, decide_eq_false_iff_not, Bool.or_eq_false_iff, Bool.and_eq_true, Bool.or_eq_true, Bool.and_eq_false_iff, Bool.not_eq_true', Bool.not_eq_false']; omega) | (simp only [decide_eq_true_eq, decide_eq_false_iff_not, Bool.or_eq_false_iff]; simp only [Lay.d_n]; omega))
          refine x_if (fun h5 => ?_) (fun h5 => ?_)
          · have h5 : ((oneRow (R.getD 0 [])).size : Int) ≤ col - ind := of_decide_eq_true h5
            rw [if_pos ⟨h4, h5⟩]
            refine xl_build tt_ok strY [oneRow (R.getD 0 [])] [_] rfl rfl rfl rfl rfl rfl rfl rfl rfl rfl rfl rfl rfl rfl rfl ?_
            refine xl_go tt_ok ?_
            exact finO2 (k := 2) rfl
          · have h5 : ¬ ((oneRow (R.getD 0 [])).size : Int) ≤ col - ind := of_decide_eq_false h5
            rw [if_neg (fun hh => h5 hh.2)]
            refine x_nil 13 9 strY rfl ?_
            refine x_sl 68 rfl hOut ?_
            refine x_loop (σ := Nat × List ByteArray) (fun (i, done) => ⟨[(70, .v (.int .i64 (i : Int))), (69, .v (.int .i64 (R.length : Int))), (68, .r 8), (14, .v (.string (leadF i))), (13, .r 9), (11, .v (.int .i64 (col - ind)))], [],
                [(9, .row 9 (strY.d done)), (8, .sl (slY.d V))], 10⟩)
              (fun (i, done) _ => i ≤ R.length ∧ done = rowsF (col - ind) true (R.take i)) (fun (i, _) => R.length - i) (fun _ => of_decide_eq_true rfl) (0, []) [(9, some 2), (8, some 3)] (.of rfl rfl rfl rfl rfl rfl) ⟨Nat.zero_le _, rfl⟩ ?_
            rintro ⟨i, done⟩ u3 hu3 ⟨g1, g2⟩
            have hdl : done.length ≤ 200000000000 := by
              have e1 := rowsF_len (col - ind) (R.take i) true
              have e2 := szR_take R i
              have e3 : (R.take i).length ≤ R.length := by rw [List.length_take]; omega
              rw [g2]; omega
            refine x_vc tt_ok ?_
            refine x_if (fun h6 => ?_) (fun h6 => ?_)
            · have h6 : (i : Int) < (R.length : Int) := of_decide_eq_true h6
              have hil : i < R.length := by omega
              obtain ⟨p, hp⟩ : ∃ p, R[i]? = some p := ⟨_, List.getElem?_eq_getElem hil⟩
              have hnext := take_rows0 (col - ind) hp
              have hpm := List.mem_of_getElem? hp
              have hpb := hpar p hpm
              have hin3 := (hIn i p hp).le hu3
              obtain ⟨Ai, ci, hval, hin4⟩ : ∃ Ai ci, (V.getD ((i : Nat) : Int).toNat ⟨none, 0, 0⟩).val = .slice Ai p.length ci ∧ SlAt u3 (.slice Ai p.length ci) (strY.d p) := by
                obtain ⟨Ai, ci, h7, h8⟩ := id hin3
                rw [Int.toNat_natCast]
                rw [h7] at hin3
                exact ⟨Ai, ci, h7, hin3⟩
              have hVi : ((i : Nat) : Int) < (slY.d V).n := by rw [Lay.d_n, hVR]; exact h6
              have hpb2 : bySum p ≤ 1000000000000 := by omega
              repeat (refine And.intro ?_ ?_; first | omega | (simp only [Lay.d_n]; omega) | (simp only [decide_eq_true_eq, decide_eq_false_iff_not, Bool.or_eq_false_iff, Bool.and_eq_true, Bool.or_eq_true, Bool.and_eq_false_iff, Bool.not_eq_true', Bool.not_eq_false', Lay.d_n]; omega) | (simp only [decide_eq_true_eq, decide_eq_false_iff_not, Bool.or_eq_false_iff, Bool.and_eq_true, Bool.or_eq_true, Bool.and_eq_false_iff, Bool.not_eq_true', Bool.not_eq_false']; omega) | (simp only [decide_eq_true_eq, decide_eq_false_iff_not, Bool.or_eq_false_iff]; simp only [Lay.d_n]; omega))
              refine x_if (fun h7 => ?_) (fun h7 => ?_)
              · have h7 : (0 : Int) < (i : Int) := of_decide_eq_true h7
                rw [if_neg (by omega)] at hnext
                refine xl_push tt_ok strY done stB 16 (cs := [.string stB]) rfl rfl rfl rfl rfl rfl rfl rfl rfl rfl rfl rfl (by kernel_rfl) rfl rfl rfl rfl rfl (fun n hn => by cases hn; decide) rfl rfl rfl (by omega) (by omega) ?_
                refine xl_go tt_ok ?_
                refine xl_callSCR (fill_scr (done ++ [stB]) p (leadF i) Ai ci (col - ind) (hRne p hpm) (leadF_size i) hpb2 (by rw [List.length_append]; show done.length + 1 ≤ _; omega)) (fun u u' hu h => h.sub hu) hin4 [10] rfl rfl rfl rfl fn39
                  (congrArg (fun z => some [SV.r 10, SV.v (.string (leadF i)), SV.v z, SV.v (.int .i64 (col - ind))]) hval) rfl rfl rfl rfl rfl rfl (fun _ => rfl) (fun _ u4 hu4 _ => ?_)
                refine xl_go tt_ok ?_
                repeat (refine And.intro ?_ ?_; first | omega | (simp only [Lay.d_n]; omega) | (simp only [decide_eq_true_eq, decide_eq_false_iff_not, Bool.or_eq_false_iff, Bool.and_eq_true, Bool.or_eq_true, Bool.and_eq_false_iff, Bool.not_eq_true', Bool.not_eq_false', Lay.d_n]; omega) | (simp only [decide_eq_true_eq, decide_eq_false_iff_not, Bool.or_eq_false_iff, Bool.and_eq_true, Bool.or_eq_true, Bool.and_eq_false_iff, Bool.not_eq_true', Bool.not_eq_false']; omega) | (simp only [decide_eq_true_eq, decide_eq_false_iff_not, Bool.or_eq_false_iff]; simp only [Lay.d_n]; omega))
                refine again (i + 1, done ++ [stB] ++ fillP (leadF i) p (col - ind)) [(9, some 11)] (.of rfl rfl rfl rfl rfl rfl) ⟨hil, by rw [hnext, ← g2, List.append_assoc]⟩ (by show R.length - (i + 1) < R.length - i; omega)
              · have h7 : ¬ (0 : Int) < (i : Int) := of_decide_eq_false h7
                have ei : i = 0 := by omega
                subst ei
                rw [if_pos rfl] at hnext
                refine xl_callSCR (fill_scr done p bgB Ai ci (col - ind) (hRne p hpm) (leadF_size 0) hpb2 (by omega)) (fun u u' hu h => h.sub hu) hin4 [9] rfl rfl rfl rfl fn39
                  (congrArg (fun z => some [SV.r 9, SV.v (.string bgB), SV.v z, SV.v (.int .i64 (col - ind))]) hval) rfl rfl rfl rfl rfl rfl (fun _ => rfl) (fun _ u4 hu4 _ => ?_)
                refine xl_go tt_ok ?_
                repeat (refine And.intro ?_ ?_; first | omega | (simp only [Lay.d_n]; omega) | (simp only [decide_eq_true_eq, decide_eq_false_iff_not, Bool.or_eq_false_iff, Bool.and_eq_true, Bool.or_eq_true, Bool.and_eq_false_iff, Bool.not_eq_true', Bool.not_eq_false', Lay.d_n]; omega) | (simp only [decide_eq_true_eq, decide_eq_false_iff_not, Bool.or_eq_false_iff, Bool.and_eq_true, Bool.or_eq_true, Bool.and_eq_false_iff, Bool.not_eq_true', Bool.not_eq_false']; omega) | (simp only [decide_eq_true_eq, decide_eq_false_iff_not, Bool.or_eq_false_iff]; simp only [Lay.d_n]; omega))
                refine again (0 + 1, done ++ fillP bgB p (col - ind)) [(9, some 10)] (.of rfl rfl rfl rfl rfl rfl) ⟨hil, by rw [hnext, ← g2]; rfl⟩ (by show R.length - (0 + 1) < R.length - 0; omega)
            · have h6 : ¬ (i : Int) < (R.length : Int) := of_decide_eq_false h6
              have ei : i = R.length := by omega
              subst ei
              rw [List.take_length] at g2
              rw [← g2]
              refine xl_push tt_ok strY done eoB 16 (cs := [.string eoB]) rfl rfl rfl rfl rfl rfl rfl rfl rfl rfl rfl rfl (by kernel_rfl) rfl rfl rfl rfl rfl (fun n hn => by cases hn; decide) rfl rfl rfl (by omega) (by omega) ?_
              refine xl_go tt_ok ?_
              exact finO2 (k := 10) rfl
        · have h4 : ¬ R.length = 1 := by have := of_decide_eq_false h4; omega
          rw [if_neg (fun hh => h4 hh.1)]
          refine x_nil 13 9 strY rfl ?_
          refine x_sl 68 rfl hOut ?_
          refine x_loop (σ := Nat × List ByteArray) (fun (i, done) => ⟨[(70, .v (.int .i64 (i : Int))), (69, .v (.int .i64 (R.length : Int))), (68, .r 8), (14, .v (.string (leadF i))), (13, .r 9), (11, .v (.int .i64 (col - ind)))], [],
              [(9, .row 9 (strY.d done)), (8, .sl (slY.d V))], 10⟩)
            (fun (i, done) _ => i ≤ R.length ∧ done = rowsF (col - ind) true (R.take i)) (fun (i, _) => R.length - i) (fun _ => of_decide_eq_true rfl) (0, []) [(9, some 1), (8, some 2)] (.of rfl rfl rfl rfl rfl rfl) ⟨Nat.zero_le _, rfl⟩ ?_
          rintro ⟨i, done⟩ u3 hu3 ⟨g1, g2⟩
          have hdl : done.length ≤ 200000000000 := by
            have e1 := rowsF_len (col - ind) (R.take i) true
            have e2 := szR_take R i
            have e3 : (R.take i).length ≤ R.length := by rw [List.length_take]; omega
            rw [g2]; omega
          refine x_vc tt_ok ?_
          refine x_if (fun h6 => ?_) (fun h6 => ?_)
          · have h6 : (i : Int) < (R.length : Int) := of_decide_eq_true h6
            have hil : i < R.length := by omega
            obtain ⟨p, hp⟩ : ∃ p, R[i]? = some p := ⟨_, List.getElem?_eq_getElem hil⟩
            have hnext := take_rows0 (col - ind) hp
            have hpm := List.mem_of_getElem? hp
            have hpb := hpar p hpm
            have hin3 := (hIn i p hp).le hu3
            obtain ⟨Ai, ci, hval, hin4⟩ : ∃ Ai ci, (V.getD ((i : Nat) : Int).toNat ⟨none, 0, 0⟩).val = .slice Ai p.length ci ∧ SlAt u3 (.slice Ai p.length ci) (strY.d p) := by
              obtain ⟨Ai, ci, h7, h8⟩ := id hin3
              rw [Int.toNat_natCast]
              rw [h7] at hin3
              exact ⟨Ai, ci, h7, hin3⟩
            have hVi : ((i : Nat) : Int) < (slY.d V).n := by rw [Lay.d_n, hVR]; exact h6
            have hpb2 : bySum p ≤ 1000000000000 := by omega
            repeat (refine And.intro ?_ ?_; first | omega | (simp only [Lay.d_n]; omega) | (simp only [decide_eq_true_eq, decide_eq_false_iff_not, Bool.or_eq_false_iff, Bool.and_eq_true, Bool.or_eq_true, Bool.and_eq_false_iff, Bool.not_eq_true', Bool.not_eq_false', Lay.d_n]; omega) | (simp only [decide_eq_true_eq, decide_eq_false_iff_not, Bool.or_eq_false_iff, Bool.and_eq_true, Bool.or_eq_true, Bool.and_eq_false_iff, Bool.not_eq_true', Bool.not_eq_false']; omega) | (simp only [decide_eq_true_eq, decide_eq_false_iff_not, Bool.or_eq_false_iff]; simp only [Lay.d_n]; omega))
            refine x_if (fun h7 => ?_) (fun h7 => ?_)
            · have h7 : (0 : Int) < (i : Int) := of_decide_eq_true h7
              rw [if_neg (by omega)] at hnext
              refine xl_push tt_ok strY done stB 16 (cs := [.string stB]) rfl rfl rfl rfl rfl rfl rfl rfl rfl rfl rfl rfl (by kernel_rfl) rfl rfl rfl rfl rfl (fun n hn => by cases hn; decide) rfl rfl rfl (by omega) (by omega) ?_
              refine xl_go tt_ok ?_
              refine xl_callSCR (fill_scr (done ++ [stB]) p (leadF i) Ai ci (col - ind) (hRne p hpm) (leadF_size i) hpb2 (by rw [List.length_append]; show done.length + 1 ≤ _; omega)) (fun u u' hu h => h.sub hu) hin4 [10] rfl rfl rfl rfl fn39
                (congrArg (fun z => some [SV.r 10, SV.v (.string (leadF i)), SV.v z, SV.v (.int .i64 (col - ind))]) hval) rfl rfl rfl rfl rfl rfl (fun _ => rfl) (fun _ u4 hu4 _ => ?_)
              refine xl_go tt_ok ?_
              repeat (refine And.intro ?_ ?_; first | omega | (simp only [Lay.d_n]; omega) | (simp only [decide_eq_true_eq, decide_eq_false_iff_not, Bool.or_eq_false_iff, Bool.and_eq_true, Bool.or_eq_true, Bool.and_eq_false_iff, Bool.not_eq_true', Bool.not_eq_false', Lay.d_n]; omega) | (simp only [decide_eq_true_eq, decide_eq_false_iff_not, Bool.or_eq_false_iff, Bool.and_eq_true, Bool.or_eq_true, Bool.and_eq_false_iff, Bool.not_eq_true', Bool.not_eq_false']; omega) | (simp only [decide_eq_true_eq, decide_eq_false_iff_not, Bool.or_eq_false_iff]; simp only [Lay.d_n]; omega))
              refine again (i + 1, done ++ [stB] ++ fillP (leadF i) p (col - ind)) [(9, some 11)] (.of rfl rfl rfl rfl rfl rfl) ⟨hil, by rw [hnext, ← g2, List.append_assoc]⟩ (by show R.length - (i + 1) < R.length - i; omega)
            · have h7 : ¬ (0 : Int) < (i : Int) := of_decide_eq_false h7
              have ei : i = 0 := by omega
              subst ei
              rw [if_pos rfl] at hnext
              refine xl_callSCR (fill_scr done p bgB Ai ci (col - ind) (hRne p hpm) (leadF_size 0) hpb2 (by omega)) (fun u u' hu h => h.sub hu) hin4 [9] rfl rfl rfl rfl fn39
                (congrArg (fun z => some [SV.r 9, SV.v (.string bgB), SV.v z, SV.v (.int .i64 (col - ind))]) hval) rfl rfl rfl rfl rfl rfl (fun _ => rfl) (fun _ u4 hu4 _ => ?_)
              refine xl_go tt_ok ?_
              repeat (refine And.intro ?_ ?_; first | omega | (simp only [Lay.d_n]; omega) | (simp only [decide_eq_true_eq, decide_eq_false_iff_not, Bool.or_eq_false_iff, Bool.and_eq_true, Bool.or_eq_true, Bool.and_eq_false_iff, Bool.not_eq_true', Bool.not_eq_false', Lay.d_n]; omega) | (simp only [decide_eq_true_eq, decide_eq_false_iff_not, Bool.or_eq_false_iff, Bool.and_eq_true, Bool.or_eq_true, Bool.and_eq_false_iff, Bool.not_eq_true', Bool.not_eq_false']; omega) | (simp only [decide_eq_true_eq, decide_eq_false_iff_not, Bool.or_eq_false_iff]; simp only [Lay.d_n]; omega))
              refine again (0 + 1, done ++ fillP bgB p (col - ind)) [(9, some 10)] (.of rfl rfl rfl rfl rfl rfl) ⟨hil, by rw [hnext, ← g2]; rfl⟩ (by show R.length - (0 + 1) < R.length - 0; omega)
          · have h6 : ¬ (i : Int) < (R.length : Int) := of_decide_eq_false h6
            have ei : i = R.length := by omega
            subst ei
            rw [List.take_length] at g2
            rw [← g2]
            refine xl_push tt_ok strY done eoB 16 (cs := [.string eoB]) rfl rfl rfl rfl rfl rfl rfl rfl rfl rfl rfl rfl (by kernel_rfl) rfl rfl rfl rfl rfl (fun n hn => by cases hn; decide) rfl rfl rfl (by omega) (by omega) ?_
            refine xl_go tt_ok ?_
            exact finO2 (k := 10) rfl
end Go.Proofs.YtnjmkeijjapejaaDoor
namespace Go.Proofs.YtnjmkeijjapejaaDoor
open Go.GV Go.RowKit
theorem sub_leP (s : ByteArray) (a b : Int) : (sub s a b).size ≤ s.size := by
  unfold sub
  rw [ByteArray.size_extract]; omega
theorem wsF_len (s : ByteArray) : ∀ (l : List Int) (fr : Int) (i : Nat), (wsF s fr i l).length ≤ l.length + 1
  | [], fr, i => by
    unfold wsF
    split <;> simp
  | c :: r, fr, i => by
    have h1 := wsF_len s r (-1) (i + 1)
    have h2 := wsF_len s r (if fr < 0 then (i : Int) else fr) (i + 1)
    unfold wsF
    split
    · split
      · simp only [List.length_cons]; omega
      · simp only [List.length_cons]; omega
    · simp only [List.length_cons]; omega
theorem wsF_mem (s : ByteArray) : ∀ (l : List Int) (fr : Int) (i : Nat), ∀ y ∈ wsF s fr i l, y.size ≤ s.size
  | [], fr, i, y, hy => by
    unfold wsF at hy
    split at hy
    · rw [List.mem_singleton.1 hy]; exact sub_leP _ _ _
    · cases hy
  | c :: r, fr, i, y, hy => by
    unfold wsF at hy
    split at hy
    · split at hy
      · rcases List.mem_cons.1 hy with rfl | hy
        · exact sub_leP _ _ _
        · exact wsF_mem s r _ _ y hy
      · exact wsF_mem s r _ _ y hy
    · exact wsF_mem s r _ _ y hy
theorem wordsP_len (s : ByteArray) : (wordsP s).length ≤ s.size + 1 := by
  have := wsF_len s (bl s) (-1) 0
  rw [bl_len] at this; exact this
theorem splitB_mem (sep : ByteArray) (save : Nat) : ∀ (k : Nat) (s : ByteArray), ∀ x ∈ Lib.splitB sep save k s, x.size ≤ s.size
  | 0, s, x, hx => by
    rw [Lib.splitB_zero, List.mem_singleton] at hx
    rw [hx]; exact Nat.le_refl _
  | k + 1, s, x, hx => by
    unfold Lib.splitB at hx
    split at hx
    · rw [List.mem_singleton] at hx; rw [hx]; exact Nat.le_refl _
    · rcases List.mem_cons.1 hx with rfl | hx
      · rw [ByteArray.size_extract]; omega
      · have := splitB_mem sep save k _ x hx
        rw [ByteArray.size_extract] at this; omega
theorem trimP_size (s : ByteArray) : (trimP s).size ≤ s.size := by
  unfold trimP Lib.trimLeftF
  split
  · exact Nat.zero_le _
  · rw [ByteArray.size_extract]; omega
theorem starP_size (s : ByteArray) : (starP s).size ≤ s.size := by
  unfold starP
  split
  · exact sub_leP _ _ _
  · exact Nat.le_refl _
theorem linesP_mem (s : ByteArray) : ∀ x ∈ linesP s, x.size ≤ s.size := by
  intro x hx
  unfold linesP at hx
  rw [List.mem_mapIdx] at hx
  obtain ⟨i, hi, rfl⟩ := hx
  have h1 := splitB_mem nlB 0 _ s _ (List.getElem_mem hi)
  unfold lineP
  split
  · exact h1
  · exact Nat.le_trans (starP_size _) (Nat.le_trans (trimP_size _) h1)
theorem sum_le_mul : ∀ (l : List Nat) (M : Nat), (∀ x ∈ l, x ≤ M) → l.sum ≤ l.length * M
  | [], M, _ => by simp
  | x :: l, M, h => by
    have h1 := sum_le_mul l M (fun y hy => h y (List.mem_cons_of_mem _ hy))
    have h2 := h x List.mem_cons_self
    simp only [List.sum_cons, List.length_cons, Nat.succ_mul]
    omega
theorem wsOf_sum (s : ByteArray) : ((wsOf s).map List.length).sum ≤ (s.size + 1) * (s.size + 1) := by
  have h1 := sum_le_mul ((wsOf s).map List.length) (s.size + 1) (fun x hx => by
    rw [List.mem_map] at hx
    obtain ⟨ws, hws, rfl⟩ := hx
    unfold wsOf at hws
    rw [List.mem_map] at hws
    obtain ⟨ln, hln, rfl⟩ := hws
    have := wordsP_len ln
    have := linesP_mem s ln hln
    omega)
  have h2 : ((wsOf s).map List.length).length ≤ s.size + 1 := by
    rw [List.length_map, wsOf, List.length_map, linesP_len]; exact splitP_le s
  exact Nat.le_trans h1 (Nat.mul_le_mul_right _ h2)
theorem foldW_ok : ∀ (ws : List ByteArray) (st : Par × Bool), (st.2 = true → st.1 ≠ []) → st.1.length ≤ szR st.1 → szR (ws.foldl addW st).1 = szR st.1 + ws.length ∧ ((ws.foldl addW st).2 = true → (ws.foldl addW st).1 ≠ []) ∧ (ws.foldl addW st).1.length ≤ szR (ws.foldl addW st).1
  | [], st, h1, h2 => ⟨rfl, h1, h2⟩
  | y :: r, st, h1, h2 => by
    obtain ⟨a1, a2, a3⟩ := addW_ok st y h1 h2
    obtain ⟨b1, b2, b3⟩ := foldW_ok r (addW st y) (fun _ => a2) a3
    exact ⟨by rw [List.foldl_cons, b1, a1, List.length_cons]; omega, b2, b3⟩
theorem foldL_ok : ∀ (L : List (List ByteArray)) (st : Par × Bool), (st.2 = true → st.1 ≠ []) → st.1.length ≤ szR st.1 → szR (L.foldl parLine st).1 = szR st.1 + (L.map List.length).sum ∧ (L.foldl parLine st).1.length ≤ szR (L.foldl parLine st).1
  | [], st, h1, h2 => ⟨rfl, h2⟩
  | x :: L, st, h1, h2 => by
    have key : szR (parLine st x).1 = szR st.1 + x.length ∧ ((parLine st x).2 = true → (parLine st x).1 ≠ []) ∧ (parLine st x).1.length ≤ szR (parLine st x).1 := by
      unfold parLine
      split
      · rename_i hx
        subst hx
        exact ⟨rfl, (fun h => by cases h), h2⟩
      · exact foldW_ok x st h1 h2
    obtain ⟨b1, b2⟩ := foldL_ok L (parLine st x) key.2.1 key.2.2
    exact ⟨by rw [List.foldl_cons, b1, key.1, List.map_cons, List.sum_cons]; omega, b2⟩
theorem addW_mem {Q : ByteArray → Prop} {st : Par × Bool} {y : ByteArray} (h : ∀ p ∈ st.1, ∀ z ∈ p, Q z) (hy : Q y) : ∀ p ∈ (addW st y).1, ∀ z ∈ p, Q z := by
  have ho : ∀ p ∈ opn st, ∀ z ∈ p, Q z := by
    intro p hp
    unfold opn at hp
    split at hp
    · exact h p hp
    · rcases List.mem_append.1 hp with hp | hp
      · exact h p hp
      · rw [List.mem_singleton.1 hp]; intro z hz; cases hz
  intro p hp z hz
  unfold addW at hp
  simp only at hp
  rcases List.mem_or_eq_of_mem_set hp with hp | hp
  · exact ho p hp z hz
  · subst hp
    rcases List.mem_append.1 hz with hz | hz
    · rw [List.getD_eq_getElem?_getD] at hz
      cases hg : (opn st)[(opn st).length - 1]? with
      | none => rw [hg] at hz; cases hz
      | some q => rw [hg] at hz; exact ho q (List.mem_of_getElem? hg) z hz
    · rw [List.mem_singleton.1 hz]; exact hy
theorem foldW_mem {Q : ByteArray → Prop} : ∀ (ws : List ByteArray) (st : Par × Bool), (∀ p ∈ st.1, ∀ z ∈ p, Q z) → (∀ y ∈ ws, Q y) → ∀ p ∈ (ws.foldl addW st).1, ∀ z ∈ p, Q z
  | [], _, h, _ => h
  | y :: r, st, h, hy => foldW_mem r (addW st y) (addW_mem h (hy y List.mem_cons_self)) (fun z hz => hy z (List.mem_cons_of_mem _ hz))
theorem parP_mem {Q : ByteArray → Prop} {s : ByteArray} (h : ∀ x ∈ linesP s, ∀ y ∈ wordsP x, Q y) : ∀ p ∈ parP s, ∀ z ∈ p, Q z := by
  have : ∀ (L : List (List ByteArray)) (st : Par × Bool), (∀ p ∈ st.1, ∀ z ∈ p, Q z) → (∀ ws ∈ L, ∀ y ∈ ws, Q y) → ∀ p ∈ (L.foldl parLine st).1, ∀ z ∈ p, Q z := by
    intro L
    induction L with
    | nil => exact fun st h _ => h
    | cons x L ih =>
      intro st h hx
      refine ih _ ?_ (fun ws hws => hx ws (List.mem_cons_of_mem _ hws))
      unfold parLine
      split
      · exact h
      · exact foldW_mem x st h (hx x List.mem_cons_self)
  refine this _ _ (fun p hp => by cases hp) (fun ws hws => ?_)
  unfold wsOf at hws
  rw [List.mem_map] at hws
  obtain ⟨x, hx, rfl⟩ := hws
  exact h x hx
theorem getP_len {R : Par} : ∀ p ∈ R, p.length ≤ szR R := by
  intro p hp
  obtain ⟨i, hi⟩ := List.mem_iff_getElem?.1 hp
  have := getD_sz (R := R) (i := i) (List.getElem?_eq_some_iff.1 hi).1
  rw [getD_ofP hi] at this; exact this
theorem small_of {s : ByteArray} (h : s.size ≤ 5000) : SmallP s := by
  have hi : (insP s).1.size ≤ 5000 := by
    unfold insP
    split
    · exact Nat.le_trans (sub_leP _ _ _) h
    · exact Nat.zero_le _
  have hl : ∀ x ∈ linesP (insP s).1, x.size ≤ 5000 := fun x hx => Nat.le_trans (linesP_mem _ x hx) hi
  have hw : ∀ x ∈ linesP (insP s).1, ∀ y ∈ wordsP x, y.size ≤ 5000 := fun x hx y hy => Nat.le_trans (wsF_mem x _ _ _ y hy) (hl x hx)
  have ht : ((wsOf (insP s).1).map List.length).sum ≤ 25010001 := Nat.le_trans (wsOf_sum _) (Nat.le_trans (Nat.mul_le_mul (Nat.succ_le_succ hi) (Nat.succ_le_succ hi)) (by decide))
  obtain ⟨h1, h2⟩ := foldL_ok (wsOf (insP s).1) ([], false) (fun h => by cases h) (Nat.le_refl _)
  have hz : szR (parP (insP s).1) ≤ 25010001 := by
    unfold parP; rw [h1]; show 0 + _ ≤ _; omega
  have hz2 : (parP (insP s).1).length ≤ 25010001 := by
    have : (parP (insP s).1).length ≤ szR (parP (insP s).1) := h2
    omega
  refine ⟨by omega, by omega, by omega, fun x hx => ⟨by have := hl x hx; omega, fun y hy => by have := hw x hx y hy; omega⟩, fun p hp => ?_, by omega⟩
  have h3 := getP_len p hp
  have h4 := sum_le_mul (p.map (fun y => y.size + 4)) 5004 (fun x hx => by
    rw [List.mem_map] at hx
    obtain ⟨y, hy, rfl⟩ := hx
    have := parP_mem (Q := fun y => y.size ≤ 5000) hw p hp y hy
    have this : y.size ≤ 5000 := this
    omega)
  rw [List.length_map] at h4
  unfold bySum
  omega
end Go.Proofs.YtnjmkeijjapejaaDoor
namespace Go.Proofs.YtnjmkeijjapejaaDoor
open Go.GV Go.RowKit
theorem take_eq_next {A B : List ByteArray} {i : Nat} {x y : ByteArray} (h : A.take i = B.take i) (ha : A[i]? = some x) (hb : B[i]? = some y) (e : x = y) : A.take (i + 1) = B.take (i + 1) := by
  rw [take_get ha, take_get hb, h, e]
set_option maxRecDepth 100000 in
theorem sameTexts_any (A B : List ByteArray) (x y : Value) (w : World) (hx : SlAt (im w) x (strY.d A)) (hy : SlAt (im w) y (strY.d B)) :
    Calls Tryd.prog 18 #[x, y] w (PureP w fun v _ => v = .bool (decide (A = B))) := by
  have hAl : ((A.length : Nat) : Int) ≤ 9223372036854775807 := by
    obtain ⟨_, c, _, h1, h2, _⟩ := hx
    have : (strY.d A).n ≤ maxLen := Nat.le_trans h1 h2
    rw [Lay.d_n] at this
    simp only [maxLen] at this; omega
  refine x_fun tt_ok Tryd.func18 rfl rfl [(x, strY.d A), (y, strY.d B)] 2 [.r 0, .r 1] rfl rfl rfl rfl (fun b hb => ?_) ?_
  · simp only [List.mem_cons, List.mem_nil_iff, or_false] at hb
    rcases hb with rfl | rfl
    · exact hx
    · exact hy
  refine x_vc tt_ok ?_
  refine x_if (fun h => ?_) (fun h => ?_)
  · have h : ((A.length : Nat) : Int) ≠ B.length := of_decide_eq_true h
    exact fin1 (fun _ _ => by rw [decide_eq_false (fun e => h (by rw [e]))]; rfl)
  · have h : A.length = B.length := by have := of_decide_eq_false h; simp only [ne_eq, Decidable.not_not] at this; exact_mod_cast this
    refine x_loop (σ := Nat) (fun i => ⟨[(5, .v (.int .i64 (i : Int))), (0, .r 0), (1, .r 1)], [], [(0, .sl (strY.d A)), (1, .sl (strY.d B))], 2⟩)
      (fun i _ => i ≤ A.length ∧ A.take i = B.take i) (fun i => A.length - i) (fun _ => Nat.le_refl _) 0 [] (.of rfl rfl rfl rfl rfl rfl) ⟨Nat.zero_le _, rfl⟩ ?_
    rintro i u2 hu2 ⟨g1, g2⟩
    refine x_vc tt_ok ?_
    refine x_if (fun h2 => ?_) (fun h2 => ?_)
    · have h2 : ((i : Nat) : Int) < A.length := of_decide_eq_true h2
      have hB : ((i : Nat) : Int) < B.length := by rw [← h]; exact h2
      obtain ⟨a, ha⟩ : ∃ a, A[i]? = some a := ⟨_, List.getElem?_eq_getElem (by omega)⟩
      obtain ⟨b, hb⟩ : ∃ b, B[i]? = some b := ⟨_, List.getElem?_eq_getElem (by omega)⟩
      refine x_draw mix (by kernel_rfl) (xd_go tt_ok ?_)
      repeat (refine And.intro ?_ ?_; first | omega | (simp only [Lay.d_n]; omega) | (simp only [decide_eq_true_eq, decide_eq_false_iff_not, Bool.or_eq_false_iff, Bool.and_eq_true, Bool.or_eq_true, Bool.and_eq_false_iff, Bool.not_eq_true', Bool.not_eq_false', Lay.d_n]; omega) | (simp only [decide_eq_true_eq, decide_eq_false_iff_not, Bool.or_eq_false_iff, Bool.and_eq_true, Bool.or_eq_true, Bool.and_eq_false_iff, Bool.not_eq_true', Bool.not_eq_false']; omega) | (simp only [decide_eq_true_eq, decide_eq_false_iff_not, Bool.or_eq_false_iff]; simp only [Lay.d_n]; omega))
      refine x_if (fun h3 => ?_) (fun h3 => ?_)
      · have h3 : A.getD ((i : Nat) : Int).toNat ⟨#[]⟩ ≠ B.getD ((i : Nat) : Int).toNat ⟨#[]⟩ := of_decide_eq_true h3
        exact fin1 (fun _ _ => by rw [decide_eq_false (fun e => h3 (by rw [e]))]; rfl)
      · have h3 : A.getD ((i : Nat) : Int).toNat ⟨#[]⟩ = B.getD ((i : Nat) : Int).toNat ⟨#[]⟩ := Classical.not_not.1 (of_decide_eq_false h3)
        rw [Int.toNat_natCast, getD_ofP ha, getD_ofP hb] at h3
        repeat (refine And.intro ?_ ?_; first | omega | (simp only [Lay.d_n]; omega) | (simp only [decide_eq_true_eq, decide_eq_false_iff_not, Bool.or_eq_false_iff, Bool.and_eq_true, Bool.or_eq_true, Bool.and_eq_false_iff, Bool.not_eq_true', Bool.not_eq_false', Lay.d_n]; omega) | (simp only [decide_eq_true_eq, decide_eq_false_iff_not, Bool.or_eq_false_iff, Bool.and_eq_true, Bool.or_eq_true, Bool.and_eq_false_iff, Bool.not_eq_true', Bool.not_eq_false']; omega) | (simp only [decide_eq_true_eq, decide_eq_false_iff_not, Bool.or_eq_false_iff]; simp only [Lay.d_n]; omega))
        exact again (i + 1) [] (.of rfl rfl rfl rfl rfl rfl) ⟨by omega, take_eq_next g2 ha hb h3⟩ (by omega)
    · have h2 : ¬ ((i : Nat) : Int) < A.length := of_decide_eq_false h2
      have e : A = B := by rw [List.take_of_length_le (by omega), List.take_of_length_le (by omega)] at g2; exact g2
      exact fin1 (fun _ _ => by rw [decide_eq_true e]; rfl)
def blankN (s : ByteArray) : Nat := ((bl s).drop 3).countP (fun c => decide (c = 32))
def firstN (s : ByteArray) : Nat := (((bl s).drop 3).takeWhile (fun c => decide (c ≠ 32))).length
end Go.Proofs.YtnjmkeijjapejaaDoor
namespace Go.Proofs.YtnjmkeijjapejaaDoor
open Go.GV Go.RowKit
def okR (room : Int) (x : ByteArray) : Prop := 3 < x.size → 0 < blankN x → (x.size : Int) ≤ room
def okP (room : Int) (x y : ByteArray) : Prop := 3 < x.size → 3 < y.size → room < (x.size : Int) + 1 + firstN y
def Good (room : Int) : List ByteArray → Prop
  | [] => True
  | [x] => okR room x
  | x :: y :: t => okR room x ∧ okP room x y ∧ Good room (y :: t)
theorem Good.head {room : Int} {x : ByteArray} {t : List ByteArray} (h : Good room (x :: t)) : okR room x := by
  cases t with
  | nil => exact h
  | cons y t => exact h.1
theorem Good.tail {room : Int} {x : ByteArray} {t : List ByteArray} (h : Good room (x :: t)) : Good room t := by
  cases t with
  | nil => trivial
  | cons y t => exact h.2.2
theorem Good.app {room : Int} {s : ByteArray} {b : List ByteArray} (hs : s.size ≤ 3) (hb : Good room (s :: b)) : ∀ a : List ByteArray, Good room a → Good room (a ++ s :: b)
  | [], _ => hb
  | [x], h => ⟨h, fun _ h3 => by omega, hb⟩
  | x :: y :: t, h => ⟨h.1, h.2.1, Good.app hs hb (y :: t) h.2.2⟩
theorem Good.at {room : Int} : ∀ {L : List ByteArray} (_ : Good room L) {i : Nat} {x : ByteArray}, L[i]? = some x → okR room x ∧ ∀ y, L[i + 1]? = some y → okP room x y
  | [], _, i, x, hx => by simp at hx
  | [z], h, 0, x, hx => by
    simp only [List.getElem?_cons_zero, Option.some.injEq] at hx
    subst hx
    exact ⟨h, fun y hy => by simp at hy⟩
  | [z], h, i + 1, x, hx => by simp at hx
  | z :: y' :: t, h, 0, x, hx => by
    simp only [List.getElem?_cons_zero, Option.some.injEq] at hx
    subst hx
    refine ⟨h.1, fun y hy => ?_⟩
    simp only [List.getElem?_cons_succ, List.getElem?_cons_zero, Option.some.injEq] at hy
    subst hy
    exact h.2.1
  | z :: y' :: t, h, i + 1, x, hx => by
    simp only [List.getElem?_cons_succ] at hx ⊢
    exact Good.at h.2.2 hx
theorem fills_len {s : ByteArray} {ind col : Int} (hS : SmallP s) (hs : s.size ≤ 5000) : (fillsP s ind col).1.length ≤ 200000000000 := by
  unfold fillsP
  split
  · exact Nat.zero_le _
  · split
    · have := splitP_le s
      show (splitP s).length ≤ _
      omega
    · split
      · decide
      · split
        · show 1 ≤ 200000000000
          decide
        · show (rowsF (col - ind) true (parP (insP s).1) ++ [eoB]).length ≤ _
          have h1 := rowsF_len (col - ind) (parP (insP s).1) true
          have h2 := hS.num
          rw [List.length_append, List.length_singleton]
          omega
end Go.Proofs.YtnjmkeijjapejaaDoor
namespace Go.Proofs.YtnjmkeijjapejaaDoor
open Go.GV Go.RowKit
def whD (c : Int) : Bool := decide (c = 32) || ((decide (9 ≤ c) && decide (c ≤ 13)) && decide (c ≠ 10))
theorem whD_eq (c : Int) : whD c = whB c := by
  rw [Bool.eq_iff_iff, whB_iff]
  simp only [whD, Bool.or_eq_true, Bool.and_eq_true, decide_eq_true_eq]
  omega
set_option maxRecDepth 100000 in
theorem whD_any (c : Int) (w : World) : Calls Tryd.prog 44 #[.int .u8 c] w (PureP w fun v _ => v = .bool (whB c)) := by
  refine x_fun tt_ok Tryd.func44 rfl rfl [] 0 [.v (.int .u8 c)] rfl rfl rfl rfl (fun b hb => by cases hb) ?_
  refine x_vc tt_ok ?_
  refine fin1 (fun _ _ => ?_)
  rw [← whD_eq]; rfl
set_option maxRecDepth 100000 in
theorem dwords_any (s : ByteArray) (w : World) (hs : s.size ≤ 1000000000) : Calls Tryd.prog 45 #[.string s] w (PureP w fun v u => OwnAt u v 9 (strY.d (wordsP s))) := by
  have hbl := bl_len s
  refine x_fun tt_ok Tryd.func45 rfl rfl [] 0 [.v (.string s)] rfl rfl rfl rfl (fun b hb => by cases hb) ?_
  refine x_vc tt_ok ?_
  refine x_nil 3 9 strY rfl ?_
  refine x_loop (σ := Nat × Int × List ByteArray) (fun (i, fr, done) => ⟨[(5, .v (.int .i64 (i : Int))), (4, .v (.int .i64 fr)), (3, .r 1), (0, .v (.string s))], [], [(1, .row 9 (strY.d done))], 2⟩)
    (fun (i, fr, done) _ => i ≤ s.size + 1 ∧ -1 ≤ fr ∧ fr ≤ i ∧ done.length ≤ i ∧ wordsP s = done ++ (if i ≤ s.size then wsF s fr i ((bl s).drop i) else [])) (fun (i, _, _) => s.size + 1 - i) (fun _ => of_decide_eq_true rfl) (0, -1, []) [(1, some 0)] (.of rfl rfl rfl rfl rfl rfl) ⟨Nat.zero_le _, Int.le_refl _, by decide, Nat.le_refl _, rfl⟩ ?_
  rintro ⟨i, fr, done⟩ u2 hu2 ⟨g1, g2, g3, g4, g5⟩
  refine x_vc tt_ok ?_
  refine x_if (fun h => ?_) (fun h => ?_)
  · have h : (i : Int) ≤ s.size := of_decide_eq_true h
    rw [if_pos (by omega)] at g5
    have hb := bt_range s i
    repeat (refine And.intro ?_ ?_; first | omega | (simp only [Lay.d_n]; omega) | (simp only [decide_eq_true_eq, decide_eq_false_iff_not, Bool.or_eq_false_iff, Bool.and_eq_true, Bool.or_eq_true, Bool.and_eq_false_iff, Bool.not_eq_true', Bool.not_eq_false', Lay.d_n]; omega) | (simp only [decide_eq_true_eq, decide_eq_false_iff_not, Bool.or_eq_false_iff, Bool.and_eq_true, Bool.or_eq_true, Bool.and_eq_false_iff, Bool.not_eq_true', Bool.not_eq_false']; omega) | (simp only [decide_eq_true_eq, decide_eq_false_iff_not, Bool.or_eq_false_iff]; simp only [Lay.d_n]; omega))
    refine xl_gcall0 (.bool (whB (bt s i))) rfl rfl rfl rfl fn44 rfl rfl (fun _ E w F _ => whD_any _ w) ?_
    refine xl_go tt_ok ?_
    refine x_if (fun h2 => ?_) (fun h2 => ?_)
    · have h2 : (decide ((i : Int) < s.size) && !whB (bt s i)) = true := h2
      simp only [Bool.and_eq_true, decide_eq_true_eq, Bool.not_eq_true'] at h2
      rw [wsF_one s fr (by omega), if_neg (by rw [h2.2]; decide)] at g5
      refine x_if (fun h3 => ?_) (fun h3 => ?_)
      · have h3 : fr < 0 := of_decide_eq_true h3
        rw [if_pos h3] at g5
        repeat (refine And.intro ?_ ?_; first | omega | (simp only [Lay.d_n]; omega) | (simp only [decide_eq_true_eq, decide_eq_false_iff_not, Bool.or_eq_false_iff, Bool.and_eq_true, Bool.or_eq_true, Bool.and_eq_false_iff, Bool.not_eq_true', Bool.not_eq_false', Lay.d_n]; omega) | (simp only [decide_eq_true_eq, decide_eq_false_iff_not, Bool.or_eq_false_iff, Bool.and_eq_true, Bool.or_eq_true, Bool.and_eq_false_iff, Bool.not_eq_true', Bool.not_eq_false']; omega) | (simp only [decide_eq_true_eq, decide_eq_false_iff_not, Bool.or_eq_false_iff]; simp only [Lay.d_n]; omega))
        refine again (i + 1, i, done) [] (.of rfl rfl rfl rfl rfl rfl) ⟨by omega, by omega, by omega, by omega, by rw [if_pos (by omega)]; exact g5⟩ (by show s.size + 1 - (i + 1) < s.size + 1 - i; omega)
      · have h3 : ¬ fr < 0 := of_decide_eq_false h3
        rw [if_neg h3] at g5
        repeat (refine And.intro ?_ ?_; first | omega | (simp only [Lay.d_n]; omega) | (simp only [decide_eq_true_eq, decide_eq_false_iff_not, Bool.or_eq_false_iff, Bool.and_eq_true, Bool.or_eq_true, Bool.and_eq_false_iff, Bool.not_eq_true', Bool.not_eq_false', Lay.d_n]; omega) | (simp only [decide_eq_true_eq, decide_eq_false_iff_not, Bool.or_eq_false_iff, Bool.and_eq_true, Bool.or_eq_true, Bool.and_eq_false_iff, Bool.not_eq_true', Bool.not_eq_false']; omega) | (simp only [decide_eq_true_eq, decide_eq_false_iff_not, Bool.or_eq_false_iff]; simp only [Lay.d_n]; omega))
        refine again (i + 1, fr, done) [] (.of rfl rfl rfl rfl rfl rfl) ⟨by omega, by omega, by omega, by omega, by rw [if_pos (by omega)]; exact g5⟩ (by show s.size + 1 - (i + 1) < s.size + 1 - i; omega)
    · have h2 : (decide ((i : Int) < s.size) && !whB (bt s i)) = false := h2
      have key : wsF s fr i ((bl s).drop i) = (if 0 ≤ fr then [sub s fr i] else []) ++ (if i + 1 ≤ s.size then wsF s (-1) (i + 1) ((bl s).drop (i + 1)) else []) := by
        by_cases hi : i < s.size
        · rw [decide_eq_true (by omega), Bool.true_and] at h2
          have hw : whB (bt s i) = true := by simpa using h2
          have hlt : i + 1 ≤ s.size := hi
          rw [wsF_one s fr hi, if_pos hw]
          simp only [hlt, if_true]
          split <;> rfl
        · have ei : i = s.size := by omega
          rw [List.drop_of_length_le (by omega), wsF, if_neg (show ¬ i + 1 ≤ s.size by omega), List.append_nil, ei]
      rw [key] at g5
      refine x_if (fun h3 => ?_) (fun h3 => ?_)
      · have h3 : 0 ≤ fr := of_decide_eq_true h3
        rw [if_pos h3, ← List.append_assoc] at g5
        repeat (refine And.intro ?_ ?_; first | omega | (simp only [Lay.d_n]; omega) | (simp only [decide_eq_true_eq, decide_eq_false_iff_not, Bool.or_eq_false_iff, Bool.and_eq_true, Bool.or_eq_true, Bool.and_eq_false_iff, Bool.not_eq_true', Bool.not_eq_false', Lay.d_n]; omega) | (simp only [decide_eq_true_eq, decide_eq_false_iff_not, Bool.or_eq_false_iff, Bool.and_eq_true, Bool.or_eq_true, Bool.and_eq_false_iff, Bool.not_eq_true', Bool.not_eq_false']; omega) | (simp only [decide_eq_true_eq, decide_eq_false_iff_not, Bool.or_eq_false_iff]; simp only [Lay.d_n]; omega))
        refine xl_push tt_ok strY done (sub s fr i) 16 (cs := [.string (sub s fr i)]) rfl rfl rfl rfl rfl rfl rfl rfl rfl rfl rfl rfl (by kernel_rfl) rfl rfl rfl rfl rfl (fun n hn => by cases hn; decide) rfl rfl rfl (by omega) (by omega) ?_
        refine xl_go tt_ok ?_
        repeat (refine And.intro ?_ ?_; first | omega | (simp only [Lay.d_n]; omega) | (simp only [decide_eq_true_eq, decide_eq_false_iff_not, Bool.or_eq_false_iff, Bool.and_eq_true, Bool.or_eq_true, Bool.and_eq_false_iff, Bool.not_eq_true', Bool.not_eq_false', Lay.d_n]; omega) | (simp only [decide_eq_true_eq, decide_eq_false_iff_not, Bool.or_eq_false_iff, Bool.and_eq_true, Bool.or_eq_true, Bool.and_eq_false_iff, Bool.not_eq_true', Bool.not_eq_false']; omega) | (simp only [decide_eq_true_eq, decide_eq_false_iff_not, Bool.or_eq_false_iff]; simp only [Lay.d_n]; omega))
        refine again (i + 1, -1, done ++ [sub s fr i]) [(1, some 2)] (.of rfl rfl rfl rfl rfl rfl) ⟨by omega, by omega, by omega, by simp; omega, g5⟩ (by show s.size + 1 - (i + 1) < s.size + 1 - i; omega)
      · have h3 : ¬ 0 ≤ fr := of_decide_eq_false h3
        rw [if_neg h3, List.nil_append] at g5
        repeat (refine And.intro ?_ ?_; first | omega | (simp only [Lay.d_n]; omega) | (simp only [decide_eq_true_eq, decide_eq_false_iff_not, Bool.or_eq_false_iff, Bool.and_eq_true, Bool.or_eq_true, Bool.and_eq_false_iff, Bool.not_eq_true', Bool.not_eq_false', Lay.d_n]; omega) | (simp only [decide_eq_true_eq, decide_eq_false_iff_not, Bool.or_eq_false_iff, Bool.and_eq_true, Bool.or_eq_true, Bool.and_eq_false_iff, Bool.not_eq_true', Bool.not_eq_false']; omega) | (simp only [decide_eq_true_eq, decide_eq_false_iff_not, Bool.or_eq_false_iff]; simp only [Lay.d_n]; omega))
        refine again (i + 1, -1, done) [] (.of rfl rfl rfl rfl rfl rfl) ⟨by omega, by omega, by omega, by omega, g5⟩ (by show s.size + 1 - (i + 1) < s.size + 1 - i; omega)
  · have h : ¬ (i : Int) ≤ s.size := of_decide_eq_false h
    rw [if_neg (by omega), List.append_nil] at g5
    subst g5
    exact finO (k := 1) rfl
def dlF (s : ByteArray) : Nat → Nat → List Int → List ByteArray
  | fr, _, [] => [sub s fr s.size]
  | fr, i, c :: r => if c = 10 then sub s fr i :: dlF s (i + 1) (i + 1) r else dlF s fr (i + 1) r
def dlinesP (s : ByteArray) : List ByteArray := dlF s 0 0 (bl s)
theorem dlF_one (s : ByteArray) (fr : Nat) {i : Nat} (h : i < s.size) : dlF s fr i ((bl s).drop i) =
    if bt s i = 10 then sub s fr i :: dlF s (i + 1) (i + 1) ((bl s).drop (i + 1)) else dlF s fr (i + 1) ((bl s).drop (i + 1)) := by
  rw [drop_get (bl_get s h), dlF]
set_option maxRecDepth 100000 in
theorem dlines_any (s : ByteArray) (w : World) (hs : s.size ≤ 1000000000) : Calls Tryd.prog 40 #[.string s] w (PureP w fun v u => OwnAt u v 9 (strY.d (dlinesP s))) := by
  have hbl := bl_len s
  refine x_fun tt_ok Tryd.func40 rfl rfl [] 0 [.v (.string s)] rfl rfl rfl rfl (fun b hb => by cases hb) ?_
  refine x_vc tt_ok ?_
  refine x_nil 3 9 strY rfl ?_
  refine x_loop (σ := Nat × Nat × List ByteArray) (fun (i, fr, done) => ⟨[(5, .v (.int .i64 (i : Int))), (4, .v (.int .i64 (fr : Int))), (3, .r 1), (0, .v (.string s))], [], [(1, .row 9 (strY.d done))], 2⟩)
    (fun (i, fr, done) _ => i ≤ s.size + 1 ∧ fr ≤ i ∧ done.length ≤ i ∧ dlinesP s = done ++ (if i ≤ s.size then dlF s fr i ((bl s).drop i) else [])) (fun (i, _, _) => s.size + 1 - i) (fun _ => of_decide_eq_true rfl) (0, 0, []) [(1, some 0)] (.of rfl rfl rfl rfl rfl rfl) ⟨Nat.zero_le _, Nat.le_refl _, Nat.le_refl _, rfl⟩ ?_
  rintro ⟨i, fr, done⟩ u2 hu2 ⟨g1, g3, g4, g5⟩
  refine x_vc tt_ok ?_
  refine x_if (fun h => ?_) (fun h => ?_)
  · have h : (i : Int) ≤ s.size := of_decide_eq_true h
    rw [if_pos (by omega)] at g5
    have hb := bt_range s i
    repeat (refine And.intro ?_ ?_; first | omega | (simp only [Lay.d_n]; omega) | (simp only [decide_eq_true_eq, decide_eq_false_iff_not, Bool.or_eq_false_iff, Bool.and_eq_true, Bool.or_eq_true, Bool.and_eq_false_iff, Bool.not_eq_true', Bool.not_eq_false', Lay.d_n]; omega) | (simp only [decide_eq_true_eq, decide_eq_false_iff_not, Bool.or_eq_false_iff, Bool.and_eq_true, Bool.or_eq_true, Bool.and_eq_false_iff, Bool.not_eq_true', Bool.not_eq_false']; omega) | (simp only [decide_eq_true_eq, decide_eq_false_iff_not, Bool.or_eq_false_iff]; simp only [Lay.d_n]; omega))
    refine x_if (fun h2 => ?_) (fun h2 => ?_)
    · have h2 : (decide ((i : Int) = s.size) || decide (bt s i = 10)) = true := h2
      have key : dlF s fr i ((bl s).drop i) = [sub s fr i] ++ (if i + 1 ≤ s.size then dlF s (i + 1) (i + 1) ((bl s).drop (i + 1)) else []) := by
        by_cases hi : i < s.size
        · have hlt : i + 1 ≤ s.size := hi
          rw [decide_eq_false (by omega), Bool.false_or] at h2
          rw [dlF_one s fr hi, if_pos (of_decide_eq_true h2)]
          simp only [hlt, if_true]
          rfl
        · have ei : i = s.size := by omega
          rw [List.drop_of_length_le (by omega), dlF, if_neg (show ¬ i + 1 ≤ s.size by omega), List.append_nil, ei]
      rw [key, ← List.append_assoc] at g5
      repeat (refine And.intro ?_ ?_; first | omega | (simp only [Lay.d_n]; omega) | (simp only [decide_eq_true_eq, decide_eq_false_iff_not, Bool.or_eq_false_iff, Bool.and_eq_true, Bool.or_eq_true, Bool.and_eq_false_iff, Bool.not_eq_true', Bool.not_eq_false', Lay.d_n]; omega) | (simp only [decide_eq_true_eq, decide_eq_false_iff_not, Bool.or_eq_false_iff, Bool.and_eq_true, Bool.or_eq_true, Bool.and_eq_false_iff, Bool.not_eq_true', Bool.not_eq_false']; omega) | (simp only [decide_eq_true_eq, decide_eq_false_iff_not, Bool.or_eq_false_iff]; simp only [Lay.d_n]; omega))
      refine xl_push tt_ok strY done (sub s fr i) 16 (cs := [.string (sub s fr i)]) rfl rfl rfl rfl rfl rfl rfl rfl rfl rfl rfl rfl (by kernel_rfl) rfl rfl rfl rfl rfl (fun n hn => by cases hn; decide) rfl rfl rfl (by omega) (by omega) ?_
      refine xl_go tt_ok ?_
      repeat (refine And.intro ?_ ?_; first | omega | (simp only [Lay.d_n]; omega) | (simp only [decide_eq_true_eq, decide_eq_false_iff_not, Bool.or_eq_false_iff, Bool.and_eq_true, Bool.or_eq_true, Bool.and_eq_false_iff, Bool.not_eq_true', Bool.not_eq_false', Lay.d_n]; omega) | (simp only [decide_eq_true_eq, decide_eq_false_iff_not, Bool.or_eq_false_iff, Bool.and_eq_true, Bool.or_eq_true, Bool.and_eq_false_iff, Bool.not_eq_true', Bool.not_eq_false']; omega) | (simp only [decide_eq_true_eq, decide_eq_false_iff_not, Bool.or_eq_false_iff]; simp only [Lay.d_n]; omega))
      refine again (i + 1, i + 1, done ++ [sub s fr i]) [(1, some 2)] (.of rfl rfl rfl rfl rfl rfl) ⟨by omega, by omega, by simp; omega, g5⟩ (by show s.size + 1 - (i + 1) < s.size + 1 - i; omega)
    · have h2 : (decide ((i : Int) = s.size) || decide (bt s i = 10)) = false := h2
      simp only [Bool.or_eq_false_iff, decide_eq_false_iff_not] at h2
      rw [dlF_one s fr (by omega), if_neg h2.2] at g5
      repeat (refine And.intro ?_ ?_; first | omega | (simp only [Lay.d_n]; omega) | (simp only [decide_eq_true_eq, decide_eq_false_iff_not, Bool.or_eq_false_iff, Bool.and_eq_true, Bool.or_eq_true, Bool.and_eq_false_iff, Bool.not_eq_true', Bool.not_eq_false', Lay.d_n]; omega) | (simp only [decide_eq_true_eq, decide_eq_false_iff_not, Bool.or_eq_false_iff, Bool.and_eq_true, Bool.or_eq_true, Bool.and_eq_false_iff, Bool.not_eq_true', Bool.not_eq_false']; omega) | (simp only [decide_eq_true_eq, decide_eq_false_iff_not, Bool.or_eq_false_iff]; simp only [Lay.d_n]; omega))
      refine again (i + 1, fr, done) [] (.of rfl rfl rfl rfl rfl rfl) ⟨by omega, by omega, by omega, by rw [if_pos (by omega)]; exact g5⟩ (by show s.size + 1 - (i + 1) < s.size + 1 - i; omega)
  · have h : ¬ (i : Int) ≤ s.size := of_decide_eq_false h
    rw [if_neg (by omega), List.append_nil] at g5
    subst g5
    exact finO (k := 1) rfl
end Go.Proofs.YtnjmkeijjapejaaDoor
namespace Go.Proofs.YtnjmkeijjapejaaDoor
open Go.GV Go.RowKit
theorem joinTail_snocP (sep : List UInt8) (r : List (List UInt8)) (x : List UInt8) : Lib.joinTail sep (r ++ [x]) = Lib.joinTail sep r ++ (sep ++ x) := by
  simp [Lib.joinTail]
theorem ba_ext {a b : ByteArray} (h : a.data.toList = b.data.toList) : a = b := by
  cases a; cases b
  simp only [ByteArray.mk.injEq]
  exact Array.toList_inj.1 h
theorem joinT_data (L : List ByteArray) (sep : ByteArray) : (joinT L sep).data.toList = Lib.join (L.map (·.data.toList)) sep.data.toList := by simp [joinT]
theorem joinT_one (x : ByteArray) : joinT [x] blB = x := ba_ext (by rw [joinT_data]; exact Lib.join_one _ _)
theorem joinT_snoc (L : List ByteArray) (x : ByteArray) (h : L ≠ []) : joinT (L ++ [x]) blB = joinT L blB ++ blB ++ x := by
  cases L with
  | nil => exact absurd rfl h
  | cons y r =>
    refine ba_ext ?_
    rw [ByteArray.data_append, ByteArray.data_append, Array.toList_append, Array.toList_append, joinT_data, joinT_data, List.cons_append, List.map_cons, List.map_cons, Lib.join_cons, Lib.join_cons, List.map_append, List.map_cons, List.map_nil, joinTail_snocP]
    simp [List.append_assoc]
set_option maxRecDepth 100000 in
theorem joined_any (p : List ByteArray) (x : Value) (w : World) (hx : SlAt (im w) x (strY.d p)) (hp : bySum p ≤ 1000000000000) : Calls Tryd.prog 41 #[x] w (PureP w fun v _ => v = .string (joinT p blB)) := by
  have hle : ∀ i, bySum (p.take i) ≤ bySum p := fun i => by
    have : ∀ (p : List ByteArray) (i : Nat), bySum (p.take i) ≤ bySum p := by
      intro p
      induction p with
      | nil => intro i; simp
      | cons y r ih =>
        intro i
        cases i with
        | zero => exact Nat.zero_le _
        | succ i =>
          have e1 : bySum ((y :: r).take (i + 1)) = y.size + 4 + bySum (r.take i) := rfl
          have e2 : bySum (y :: r) = y.size + 4 + bySum r := rfl
          have := ih i
          omega
    exact this p i
  have hlen : p.length ≤ bySum p := by
    have : ∀ l : List ByteArray, l.length ≤ bySum l := fun l => by
      induction l with
      | nil => exact Nat.le_refl _
      | cons y l ih => simp only [bySum, List.map_cons, List.sum_cons, List.length_cons] at ih ⊢; omega
    exact this p
  refine x_fun tt_ok Tryd.func41 rfl rfl [(x, strY.d p)] 1 [.r 0] rfl rfl rfl rfl (fun b hb => ?_) ?_
  · rw [List.mem_singleton.1 hb]; exact hx
  refine x_vc tt_ok ?_
  refine x_loop (σ := Nat) (fun i => ⟨[(4, .v (.int .i64 (i : Int))), (3, .v (.string (joinT (p.take i) blB))), (0, .r 0)], [], [(0, .sl (strY.d p))], 1⟩)
    (fun i _ => i ≤ p.length) (fun i => p.length - i) (fun _ => Nat.le_refl _) 0 [] (.of rfl rfl rfl rfl rfl rfl) (Nat.zero_le _) ?_
  rintro i u2 hu2 g1
  refine x_vc tt_ok ?_
  refine x_if (fun h => ?_) (fun h => ?_)
  · have h : (i : Int) < p.length := of_decide_eq_true h
    obtain ⟨y, hy⟩ : ∃ y, p[i]? = some y := ⟨_, List.getElem?_eq_getElem (by omega)⟩
    have hyd : p.getD ((i : Nat) : Int).toNat strY.dft = y := by rw [Int.toNat_natCast]; exact getD_ofP hy
    have hj1 := join_size (p.take i)
    have hj2 := join_size (p.take (i + 1))
    have hl1 := hle i
    have hl2 := hle (i + 1)
    refine x_if (fun h2 => ?_) (fun h2 => ?_)
    · have h2 : (0 : Int) < (i : Int) := of_decide_eq_true h2
      have hne : p.take i ≠ [] := fun hh => by
        have e0 : (p.take i).length = 0 := congrArg List.length hh
        rw [List.length_take] at e0
        omega
      have hs := joinT_snoc (p.take i) y hne
      rw [← take_get hy] at hs
      have hz1 : (joinT (p.take i) blB ++ ⟨#[32]⟩ : ByteArray).size = (joinT (p.take i) blB).size + 1 := by rw [ByteArray.size_append]; rfl
      have hz2 : (joinT (p.take i) blB ++ ⟨#[32]⟩ ++ p.getD ((i : Nat) : Int).toNat strY.dft : ByteArray).size = (joinT (p.take (i + 1)) blB).size := by rw [hyd, hs]; rfl
      have hz3 : (p.getD ((i : Nat) : Int).toNat strY.dft).size ≤ (joinT (p.take (i + 1)) blB).size := by rw [hyd, hs, ByteArray.size_append]; omega
      have hz4 : (blB : ByteArray).size = 1 := rfl
      have hz5 : (joinT (p.take (i + 1)) blB).size = (joinT (p.take i) blB).size + 1 + (p.getD ((i : Nat) : Int).toNat strY.dft).size := by rw [hyd, hs, ByteArray.size_append, ByteArray.size_append]; rfl
      have hc : (⟨#[32]⟩ : ByteArray).size = 1 := rfl
      repeat (refine And.intro ?_ ?_; first | omega | (simp only [Lay.d_n]; omega) | (simp only [decide_eq_true_eq, decide_eq_false_iff_not, Bool.or_eq_false_iff, Bool.and_eq_true, Bool.or_eq_true, Bool.and_eq_false_iff, Bool.not_eq_true', Bool.not_eq_false', Lay.d_n]; omega) | (simp only [decide_eq_true_eq, decide_eq_false_iff_not, Bool.or_eq_false_iff, Bool.and_eq_true, Bool.or_eq_true, Bool.and_eq_false_iff, Bool.not_eq_true', Bool.not_eq_false']; omega) | (simp only [decide_eq_true_eq, decide_eq_false_iff_not, Bool.or_eq_false_iff]; simp only [Lay.d_n]; omega))
      refine again (i + 1) [] ?_ (by omega) (by omega)
      rw [hs, ← hyd]
      exact .of rfl rfl rfl rfl rfl rfl
    · have h2 : ¬ (0 : Int) < (i : Int) := of_decide_eq_false h2
      have ei : i = 0 := by omega
      subst ei
      have hs : joinT (p.take (0 + 1)) blB = y := by rw [take_get hy]; exact joinT_one y
      have hz3 : (p.getD ((0 : Nat) : Int).toNat strY.dft).size ≤ (joinT (p.take (0 + 1)) blB).size := by rw [hyd, hs]; exact Nat.le_refl _
      have hz4 : (joinT (p.take 0) blB).size = 0 := rfl
      repeat (refine And.intro ?_ ?_; first | omega | (simp only [Lay.d_n]; omega) | (simp only [decide_eq_true_eq, decide_eq_false_iff_not, Bool.or_eq_false_iff, Bool.and_eq_true, Bool.or_eq_true, Bool.and_eq_false_iff, Bool.not_eq_true', Bool.not_eq_false', Lay.d_n]; omega) | (simp only [decide_eq_true_eq, decide_eq_false_iff_not, Bool.or_eq_false_iff, Bool.and_eq_true, Bool.or_eq_true, Bool.and_eq_false_iff, Bool.not_eq_true', Bool.not_eq_false']; omega) | (simp only [decide_eq_true_eq, decide_eq_false_iff_not, Bool.or_eq_false_iff]; simp only [Lay.d_n]; omega))
      refine again (0 + 1) [] ?_ (by omega) (by omega)
      rw [hs, ← hyd, show p.getD ((0 : Nat) : Int).toNat strY.dft = joinT (p.take 0) blB ++ p.getD ((0 : Nat) : Int).toNat strY.dft from ba_ext (by rw [ByteArray.data_append, Array.toList_append]; rfl)]
      exact .of rfl rfl rfl rfl rfl rfl
  · have h : ¬ (i : Int) < p.length := of_decide_eq_false h
    have e : p.take i = p := List.take_of_length_le (by omega)
    rw [e]
    exact fin1 (fun _ _ => rfl)
end Go.Proofs.YtnjmkeijjapejaaDoor
namespace Go.Proofs.YtnjmkeijjapejaaDoor
open Go.GV Go.RowKit
theorem whiteR_any (c : Int) (w : World) : Calls Tryd.prog 86 #[.int .u8 c] w (PureP w fun v _ => v = .bool (Lx.white c)) := by
  refine x_fun tt_ok Tryd.func86 rfl rfl [] 0 [.v (.int .u8 c)] rfl rfl rfl rfl (fun b hb => by cases hb) ?_
  refine x_vc tt_ok ?_
  exact fin1 (fun _ _ => rfl)
set_option maxRecDepth 100000 in
theorem longR_any (s : ByteArray) (h1 : 1 ≤ s.size) (hz : s.size ≤ 140737488355000) (w : World) :
    Calls Tryd.prog 89 #[.string s] w (PureP w fun v _ => v = .tuple #[.int .i64 (Lx.longR (bl s)).1, .int .i64 (Lx.longR (bl s)).2]) := by
  obtain ⟨N, hN⟩ : ∃ N, N = Lx.longR (bl s) := ⟨_, rfl⟩
  rw [← hN]
  refine x_fun tt_ok Tryd.func89 rfl rfl [] 0 [.v (.string s)] rfl rfl rfl rfl (fun b hb => by cases hb) ?_
  refine x_vc tt_ok ?_
  refine x_loop (σ := Int) (fun k => ⟨[(4, .v (.int .i64 k)), (0, .v (.string s))], [], [], 0⟩)
    (fun k _ => 0 ≤ k ∧ k ≤ s.size ∧ (Lx.run Lx.notNl (bl s) : Int) = k + Lx.run Lx.notNl (tl s k)) (fun k => (s.size - k).toNat) (fun _ => Nat.le_refl _) 0 [] (.of rfl rfl rfl rfl rfl rfl)
    ⟨by omega, by omega, by rw [tl_zero]; omega⟩ ?_
  rintro k u hu ⟨g1, g2, g3⟩
  refine x_vc tt_ok ?_
  repeat (refine And.intro ?_ ?_; first | omega | (simp only [Lay.d_n]; omega) | (simp only [decide_eq_true_eq, decide_eq_false_iff_not, Bool.or_eq_false_iff, Bool.and_eq_true, Bool.or_eq_true, Bool.and_eq_false_iff, Bool.not_eq_true', Bool.not_eq_false', Lay.d_n]; omega) | (simp only [decide_eq_true_eq, decide_eq_false_iff_not, Bool.or_eq_false_iff, Bool.and_eq_true, Bool.or_eq_true, Bool.and_eq_false_iff, Bool.not_eq_true', Bool.not_eq_false']; omega))
  refine x_if (fun h => ?_) (fun h => ?_)
  · obtain ⟨ha, hb⟩ := Bool.and_eq_true_iff.1 h
    have h2 : k < s.size := of_decide_eq_true ha
    have h3 : Lx.notNl (bt s k) = true := by
      unfold Lx.notNl
      have := of_decide_eq_true hb
      simpa using this
    rw [tl_cons g1 h2, run_cons, if_pos h3] at g3
    repeat (refine And.intro ?_ ?_; first | omega | (simp only [Lay.d_n]; omega) | (simp only [decide_eq_true_eq, decide_eq_false_iff_not, Bool.or_eq_false_iff, Bool.and_eq_true, Bool.or_eq_true, Bool.and_eq_false_iff, Bool.not_eq_true', Bool.not_eq_false', Lay.d_n]; omega) | (simp only [decide_eq_true_eq, decide_eq_false_iff_not, Bool.or_eq_false_iff, Bool.and_eq_true, Bool.or_eq_true, Bool.and_eq_false_iff, Bool.not_eq_true', Bool.not_eq_false']; omega))
    exact again (k + 1) [] (.of rfl rfl rfl rfl rfl rfl) ⟨by omega, by omega, by omega⟩ (by omega)
  · have g4 : (Lx.run Lx.notNl (bl s) : Int) = k := by
      rw [g3]
      by_cases h2 : k < s.size
      · have h' : (decide (k < (s.size : Int)) && decide (bt s k ≠ 10)) = false := h
        rw [decide_eq_true h2, Bool.true_and] at h'
        have h3 : Lx.notNl (bt s k) = false := by
          unfold Lx.notNl
          have := Classical.not_not.1 (of_decide_eq_false h')
          simpa using this
        rw [tl_cons g1 h2, run_cons, if_neg (by rw [h3]; simp)]; omega
      · rw [tl_nil (by omega)]; simp [Lx.run]
    clear g3
    refine x_if (fun h0 => ?_) (fun h0 => ?_)
    · have h0 : k = 0 := of_decide_eq_true h0
      have e : N = (9, 1) := by rw [hN, Lx.longR, if_pos (by omega)]
      rw [e]
      exact fin1 (fun _ _ => rfl)
    · have h0 : ¬ k = 0 := of_decide_eq_false h0
      have e : N = if (Lx.downR (Lx.run Lx.notNl (bl s)) (bl s)).1 ≠ 0 then Lx.downR (Lx.run Lx.notNl (bl s)) (bl s) else if Lx.qHead (bl s) = true then (0, 0) else (6, 1) := by
        rw [hN, Lx.longR, if_neg (by omega)]
      obtain ⟨m, hm⟩ : ∃ m : Nat, (m : Int) = k := ⟨k.toNat, by omega⟩
      subst hm
      have hr : Lx.run Lx.notNl (bl s) = m := by omega
      rw [hr] at e
      refine x_loop (σ := Nat) (fun n => ⟨[(4, .v (.int .i64 n)), (0, .v (.string s))], [], [], 0⟩)
        (fun n _ => (n : Int) ≤ s.size ∧ Lx.downR m (bl s) = Lx.downR n (bl s)) (fun n => n) (fun _ => Nat.le_refl _) m [] (.of rfl rfl rfl rfl rfl rfl)
        ⟨g2, rfl⟩ ?_
      rintro n u2 hu2 ⟨q1, q2⟩
      refine x_vc tt_ok ?_
      refine x_if (fun h3 => ?_) (fun h3 => ?_)
      · have h3 : 0 < (n : Int) := of_decide_eq_true h3
        obtain ⟨j, rfl⟩ : ∃ j, n = j + 1 := ⟨n - 1, by omega⟩
        repeat (refine And.intro ?_ ?_; first | omega | (simp only [Lay.d_n]; omega) | (simp only [decide_eq_true_eq, decide_eq_false_iff_not, Bool.or_eq_false_iff, Bool.and_eq_true, Bool.or_eq_true, Bool.and_eq_false_iff, Bool.not_eq_true', Bool.not_eq_false', Lay.d_n]; omega) | (simp only [decide_eq_true_eq, decide_eq_false_iff_not, Bool.or_eq_false_iff, Bool.and_eq_true, Bool.or_eq_true, Bool.and_eq_false_iff, Bool.not_eq_true', Bool.not_eq_false']; omega))
        refine xl_call0 (.int .i64 (Lx.kindR ((bl s).take (j + 1)))) rfl rfl rfl rfl fn121 rfl rfl (fun E w F _ => by
          have := kind_any (sub s 0 ((j + 1 : Nat) : Int)) (by have := sub_le s 0 ((j + 1 : Nat) : Int); omega) w
          rw [bl_sub s (Int.le_refl _) (by omega) q1, tl_zero, Int.sub_zero, Int.toNat_natCast] at this; exact this) ?_
        refine xl_go tt_ok ?_
        rw [Lx.downR] at q2
        refine x_if (fun h4 => ?_) (fun h4 => ?_)
        · have h4 := of_decide_eq_true h4
          rw [if_pos h4] at q2
          rw [q2, if_pos (by simp only; omega)] at e
          rw [e]
          exact fin1 (fun _ _ => rfl)
        · rw [if_neg (of_decide_eq_false h4)] at q2
          repeat (refine And.intro ?_ ?_; first | omega | (simp only [Lay.d_n]; omega) | (simp only [decide_eq_true_eq, decide_eq_false_iff_not, Bool.or_eq_false_iff, Bool.and_eq_true, Bool.or_eq_true, Bool.and_eq_false_iff, Bool.not_eq_true', Bool.not_eq_false', Lay.d_n]; omega) | (simp only [decide_eq_true_eq, decide_eq_false_iff_not, Bool.or_eq_false_iff, Bool.and_eq_true, Bool.or_eq_true, Bool.and_eq_false_iff, Bool.not_eq_true', Bool.not_eq_false']; omega))
          rw [show ((j + 1 : Nat) : Int) - 1 = (j : Int) by omega]
          exact again j [] (.of rfl rfl rfl rfl rfl rfl) ⟨by omega, q2⟩ (by omega)
      · have h3 : ¬ 0 < (n : Int) := of_decide_eq_false h3
        obtain rfl : n = 0 := by omega
        rw [q2, Lx.downR, if_neg (by simp)] at e
        have hq : Lx.qHead (bl s) = (decide (bt s 0 = 39) || decide (bt s 0 = 34)) := by
          rw [← tl_zero, tl_cons (by omega) (by omega)]; rfl
        rw [hq] at e
        repeat (refine And.intro ?_ ?_; first | omega | (simp only [Lay.d_n]; omega) | (simp only [decide_eq_true_eq, decide_eq_false_iff_not, Bool.or_eq_false_iff, Bool.and_eq_true, Bool.or_eq_true, Bool.and_eq_false_iff, Bool.not_eq_true', Bool.not_eq_false', Lay.d_n]; omega) | (simp only [decide_eq_true_eq, decide_eq_false_iff_not, Bool.or_eq_false_iff, Bool.and_eq_true, Bool.or_eq_true, Bool.and_eq_false_iff, Bool.not_eq_true', Bool.not_eq_false']; omega))
        refine x_if (fun h4 => ?_) (fun h4 => ?_)
        · rw [if_pos h4] at e
          rw [e]
          exact fin1 (fun _ _ => rfl)
        · rw [if_neg (fun h2 => Bool.noConfusion (h2.symm.trans h4))] at e
          rw [e]
          exact fin1 (fun _ _ => rfl)
theorem atE_0 (n : Nat) : atE 0 n = n := by
  unfold atE; split <;> omega
set_option maxRecDepth 100000 in
theorem named_any (s : ByteArray) (h1 : 1 ≤ s.size) (hz : s.size ≤ 140737488355328) (w : World) :
    Calls Tryd.prog 87 #[.string s] w (PureP w fun v _ => v = .int .i64 (Lx.hdrN (bl s))) := by
  have hE := hdrE_eq (s := s) (i := 0) (Int.le_refl _) (by omega)
  have hN : hdrE s 0 = (Lx.hdrN (bl s) : Int) := by unfold hdrE; rw [atE_0, tl_zero]
  rw [← hN]
  refine x_fun tt_ok Tryd.func87 rfl rfl [] 0 [.v (.string s)] rfl rfl rfl rfl (fun b hb => by cases hb) ?_
  refine x_vc tt_ok ?_
  repeat (refine And.intro ?_ ?_; first | omega | (simp only [Lay.d_n]; omega) | (simp only [decide_eq_true_eq, decide_eq_false_iff_not, Bool.or_eq_false_iff, Bool.and_eq_true, Bool.or_eq_true, Bool.and_eq_false_iff, Bool.not_eq_true', Bool.not_eq_false', Lay.d_n]; omega) | (simp only [decide_eq_true_eq, decide_eq_false_iff_not, Bool.or_eq_false_iff, Bool.and_eq_true, Bool.or_eq_true, Bool.and_eq_false_iff, Bool.not_eq_true', Bool.not_eq_false']; omega))
  refine x_if (fun h => ?_) (fun h => ?_)
  · obtain ⟨ha, hb⟩ := Bool.and_eq_true_iff.1 h
    rw [if_neg (of_decide_eq_true ha), if_neg (of_decide_eq_true hb)] at hE
    rw [hE]
    exact fin1 (fun _ _ => rfl)
  · have h' : (decide (bt s 0 ≠ 60) && decide (bt s 0 ≠ 34)) = false := h
    repeat (refine And.intro ?_ ?_; first | omega | (simp only [Lay.d_n]; omega) | (simp only [decide_eq_true_eq, decide_eq_false_iff_not, Bool.or_eq_false_iff, Bool.and_eq_true, Bool.or_eq_true, Bool.and_eq_false_iff, Bool.not_eq_true', Bool.not_eq_false', Lay.d_n]; omega) | (simp only [decide_eq_true_eq, decide_eq_false_iff_not, Bool.or_eq_false_iff, Bool.and_eq_true, Bool.or_eq_true, Bool.and_eq_false_iff, Bool.not_eq_true', Bool.not_eq_false']; omega))
    refine x_if (fun h2 => ?_) (fun h2 => ?_)
    · rw [if_pos (of_decide_eq_true h2)] at hE
      obtain ⟨q, hq⟩ : ∃ q : Int, q = 62 := ⟨_, rfl⟩
      rw [← hq] at hE ⊢
      refine x_loop (σ := Int) (fun k => ⟨[(4, .v (.int .i64 k)), (3, .v (.int .u8 q)), (0, .v (.string s))], [], [], 0⟩)
        (fun k _ => 0 ≤ k ∧ k ≤ s.size ∧ hdrE s 0 = atE k (Lx.hdrGo q (tl s k))) (fun k => (s.size - k).toNat) (fun _ => Nat.le_refl _) 1 [] (.of rfl rfl rfl rfl rfl rfl)
        ⟨by omega, by omega, hE⟩ ?_
      rintro k u2 hu2 ⟨g1, g2, g3⟩
      refine x_vc tt_ok ?_
      repeat (refine And.intro ?_ ?_; first | omega | (simp only [Lay.d_n]; omega) | (simp only [decide_eq_true_eq, decide_eq_false_iff_not, Bool.or_eq_false_iff, Bool.and_eq_true, Bool.or_eq_true, Bool.and_eq_false_iff, Bool.not_eq_true', Bool.not_eq_false', Lay.d_n]; omega) | (simp only [decide_eq_true_eq, decide_eq_false_iff_not, Bool.or_eq_false_iff, Bool.and_eq_true, Bool.or_eq_true, Bool.and_eq_false_iff, Bool.not_eq_true', Bool.not_eq_false']; omega))
      refine x_if (fun h => ?_) (fun h => ?_)
      · obtain ⟨ha, hb⟩ := Bool.and_eq_true_iff.1 h
        have h2 : k < s.size := of_decide_eq_true ha
        have h3 : ¬ bt s k = 10 := of_decide_eq_true hb
        rw [tl_cons g1 h2, hdrGo_pos, if_neg h3] at g3
        repeat (refine And.intro ?_ ?_; first | omega | (simp only [Lay.d_n]; omega) | (simp only [decide_eq_true_eq, decide_eq_false_iff_not, Bool.or_eq_false_iff, Bool.and_eq_true, Bool.or_eq_true, Bool.and_eq_false_iff, Bool.not_eq_true', Bool.not_eq_false', Lay.d_n]; omega) | (simp only [decide_eq_true_eq, decide_eq_false_iff_not, Bool.or_eq_false_iff, Bool.and_eq_true, Bool.or_eq_true, Bool.and_eq_false_iff, Bool.not_eq_true', Bool.not_eq_false']; omega))
        refine x_if (fun h5 => ?_) (fun h5 => ?_)
        · rw [if_pos (of_decide_eq_true h5)] at g3
          repeat (refine And.intro ?_ ?_; first | omega | (simp only [Lay.d_n]; omega) | (simp only [decide_eq_true_eq, decide_eq_false_iff_not, Bool.or_eq_false_iff, Bool.and_eq_true, Bool.or_eq_true, Bool.and_eq_false_iff, Bool.not_eq_true', Bool.not_eq_false', Lay.d_n]; omega) | (simp only [decide_eq_true_eq, decide_eq_false_iff_not, Bool.or_eq_false_iff, Bool.and_eq_true, Bool.or_eq_true, Bool.and_eq_false_iff, Bool.not_eq_true', Bool.not_eq_false']; omega))
          rw [g3]
          exact fin1 (fun _ _ => rfl)
        · repeat (refine And.intro ?_ ?_; first | omega | (simp only [Lay.d_n]; omega) | (simp only [decide_eq_true_eq, decide_eq_false_iff_not, Bool.or_eq_false_iff, Bool.and_eq_true, Bool.or_eq_true, Bool.and_eq_false_iff, Bool.not_eq_true', Bool.not_eq_false', Lay.d_n]; omega) | (simp only [decide_eq_true_eq, decide_eq_false_iff_not, Bool.or_eq_false_iff, Bool.and_eq_true, Bool.or_eq_true, Bool.and_eq_false_iff, Bool.not_eq_true', Bool.not_eq_false']; omega))
          rw [if_neg (of_decide_eq_false h5), atE_up] at g3
          exact again (k + 1) [] (.of rfl rfl rfl rfl rfl rfl) ⟨by omega, by omega, g3⟩ (by omega)
      · have g4 : hdrE s 0 = 0 := by
          rw [g3]
          by_cases h2 : k < s.size
          · have h' : (decide (k < (s.size : Int)) && decide (bt s k ≠ 10)) = false := h
            rw [decide_eq_true h2, Bool.true_and] at h'
            rw [tl_cons g1 h2, hdrGo_pos, if_pos (Classical.not_not.1 (of_decide_eq_false h'))]; rfl
          · rw [tl_nil (by omega)]; rfl
        rw [g4]
        exact fin1 (fun _ _ => rfl)
    · have h2 := of_decide_eq_false h2
      rw [decide_eq_true h2, Bool.true_and] at h'
      have h34 : bt s 0 = 34 := Classical.not_not.1 (of_decide_eq_false h')
      rw [if_neg h2, if_pos h34] at hE
      obtain ⟨q, hq⟩ : ∃ q : Int, q = bt s 0 := ⟨_, rfl⟩
      rw [← h34, ← hq] at hE
      rw [← hq]
      refine x_loop (σ := Int) (fun k => ⟨[(4, .v (.int .i64 k)), (3, .v (.int .u8 q)), (0, .v (.string s))], [], [], 0⟩)
        (fun k _ => 0 ≤ k ∧ k ≤ s.size ∧ hdrE s 0 = atE k (Lx.hdrGo q (tl s k))) (fun k => (s.size - k).toNat) (fun _ => Nat.le_refl _) 1 [] (.of rfl rfl rfl rfl rfl rfl)
        ⟨by omega, by omega, hE⟩ ?_
      rintro k u2 hu2 ⟨g1, g2, g3⟩
      refine x_vc tt_ok ?_
      repeat (refine And.intro ?_ ?_; first | omega | (simp only [Lay.d_n]; omega) | (simp only [decide_eq_true_eq, decide_eq_false_iff_not, Bool.or_eq_false_iff, Bool.and_eq_true, Bool.or_eq_true, Bool.and_eq_false_iff, Bool.not_eq_true', Bool.not_eq_false', Lay.d_n]; omega) | (simp only [decide_eq_true_eq, decide_eq_false_iff_not, Bool.or_eq_false_iff, Bool.and_eq_true, Bool.or_eq_true, Bool.and_eq_false_iff, Bool.not_eq_true', Bool.not_eq_false']; omega))
      refine x_if (fun h => ?_) (fun h => ?_)
      · obtain ⟨ha, hb⟩ := Bool.and_eq_true_iff.1 h
        have h2 : k < s.size := of_decide_eq_true ha
        have h3 : ¬ bt s k = 10 := of_decide_eq_true hb
        rw [tl_cons g1 h2, hdrGo_pos, if_neg h3] at g3
        repeat (refine And.intro ?_ ?_; first | omega | (simp only [Lay.d_n]; omega) | (simp only [decide_eq_true_eq, decide_eq_false_iff_not, Bool.or_eq_false_iff, Bool.and_eq_true, Bool.or_eq_true, Bool.and_eq_false_iff, Bool.not_eq_true', Bool.not_eq_false', Lay.d_n]; omega) | (simp only [decide_eq_true_eq, decide_eq_false_iff_not, Bool.or_eq_false_iff, Bool.and_eq_true, Bool.or_eq_true, Bool.and_eq_false_iff, Bool.not_eq_true', Bool.not_eq_false']; omega))
        refine x_if (fun h5 => ?_) (fun h5 => ?_)
        · rw [if_pos (of_decide_eq_true h5)] at g3
          repeat (refine And.intro ?_ ?_; first | omega | (simp only [Lay.d_n]; omega) | (simp only [decide_eq_true_eq, decide_eq_false_iff_not, Bool.or_eq_false_iff, Bool.and_eq_true, Bool.or_eq_true, Bool.and_eq_false_iff, Bool.not_eq_true', Bool.not_eq_false', Lay.d_n]; omega) | (simp only [decide_eq_true_eq, decide_eq_false_iff_not, Bool.or_eq_false_iff, Bool.and_eq_true, Bool.or_eq_true, Bool.and_eq_false_iff, Bool.not_eq_true', Bool.not_eq_false']; omega))
          rw [g3]
          exact fin1 (fun _ _ => rfl)
        · repeat (refine And.intro ?_ ?_; first | omega | (simp only [Lay.d_n]; omega) | (simp only [decide_eq_true_eq, decide_eq_false_iff_not, Bool.or_eq_false_iff, Bool.and_eq_true, Bool.or_eq_true, Bool.and_eq_false_iff, Bool.not_eq_true', Bool.not_eq_false', Lay.d_n]; omega) | (simp only [decide_eq_true_eq, decide_eq_false_iff_not, Bool.or_eq_false_iff, Bool.and_eq_true, Bool.or_eq_true, Bool.and_eq_false_iff, Bool.not_eq_true', Bool.not_eq_false']; omega))
          rw [if_neg (of_decide_eq_false h5), atE_up] at g3
          exact again (k + 1) [] (.of rfl rfl rfl rfl rfl rfl) ⟨by omega, by omega, g3⟩ (by omega)
      · have g4 : hdrE s 0 = 0 := by
          rw [g3]
          by_cases h2 : k < s.size
          · have h' : (decide (k < (s.size : Int)) && decide (bt s k ≠ 10)) = false := h
            rw [decide_eq_true h2, Bool.true_and] at h'
            rw [tl_cons g1 h2, hdrGo_pos, if_pos (Classical.not_not.1 (of_decide_eq_false h'))]; rfl
          · rw [tl_nil (by omega)]; rfl
        rw [g4]
        exact fin1 (fun _ _ => rfl)
end Go.Proofs.YtnjmkeijjapejaaDoor
namespace Go.Proofs.YtnjmkeijjapejaaDoor
open Go.GV Go.RowKit
theorem endC_cons (a : Int) (r : Lx.Bs) : Lx.endC (a :: r) = if a = 42 ∧ r.head? = some 47 then 2 else if Lx.endC r = 0 then 0 else Lx.endC r + 1 := by
  cases r with
  | nil => simp [Lx.endC]
  | cons b r =>
    simp only [Lx.endC, List.head?_cons, Option.some.injEq]
    by_cases h : a = 42 ∧ b = 47
    · rw [decide_eq_true h.1, decide_eq_true h.2, if_pos h]; rfl
    · rw [if_neg h]
      have : (decide (a = 42) && decide (b = 47)) = false := by
        rw [Bool.and_eq_false_iff]
        by_cases h1 : a = 42
        · exact .inr (decide_eq_false (fun h2 => h ⟨h1, h2⟩))
        · exact .inl (decide_eq_false h1)
      rw [this]
      simp only
      cases Lx.endC (b :: r) <;> simp
theorem tl_head {s : ByteArray} {i : Int} (h0 : 0 ≤ i) (h : i < s.size) : (tl s i).head? = some (bt s i) := by rw [tl_cons h0 h]; rfl
theorem tl_two {s : ByteArray} (h : 2 ≤ s.size) : (bl s).take 2 = [bt s 0, bt s 1] := by
  rw [← tl_zero, tl_cons (by omega) (by omega), tl_cons (by omega) (by omega)]; rfl
set_option maxRecDepth 100000 in
theorem remark_any (s : ByteArray) (h1 : 1 ≤ s.size) (hz : s.size ≤ 140737488355328) (w : World) :
    Calls Tryd.prog 88 #[.string s] w (PureP w fun v _ => v = .int .i64 (Lx.remR (bl s))) := by
  obtain ⟨N, hN⟩ : ∃ N, N = Lx.remR (bl s) := ⟨_, rfl⟩
  rw [← hN]
  refine x_fun tt_ok Tryd.func88 rfl rfl [] 0 [.v (.string s)] rfl rfl rfl rfl (fun b hb => by cases hb) ?_
  refine x_vc tt_ok ?_
  repeat (refine And.intro ?_ ?_; first | omega | (simp only [Lay.d_n]; omega) | (simp only [decide_eq_true_eq, decide_eq_false_iff_not, Bool.or_eq_false_iff, Bool.and_eq_true, Bool.or_eq_true, Bool.and_eq_false_iff, Bool.not_eq_true', Bool.not_eq_false', Lay.d_n]; omega) | (simp only [decide_eq_true_eq, decide_eq_false_iff_not, Bool.or_eq_false_iff, Bool.and_eq_true, Bool.or_eq_true, Bool.and_eq_false_iff, Bool.not_eq_true', Bool.not_eq_false']; omega))
  refine x_if (fun h => ?_) (fun h => ?_)
  · have h' : ((decide ((s.size : Int) < 2) || decide (bt s 0 ≠ 47)) || (decide (bt s 1 ≠ 47) && decide (bt s 1 ≠ 42))) = true := h
    have e : N = 0 := by
      rw [hN]
      unfold Lx.remR Lx.isOpen Lx.isLine
      by_cases h2 : 2 ≤ s.size
      · rw [tl_two h2]
        rw [decide_eq_false (by omega), Bool.false_or] at h'
        have n1 : ¬ [bt s 0, bt s 1] = [47, 42] := by
          simp only [List.cons.injEq, and_true]
          rintro ⟨a1, a2⟩
          rw [a1, a2] at h'; revert h'; decide
        have n2 : ¬ [bt s 0, bt s 1] = [47, 47] := by
          simp only [List.cons.injEq, and_true]
          rintro ⟨a1, a2⟩
          rw [a1, a2] at h'; revert h'; decide
        rw [decide_eq_false n1, decide_eq_false n2]; rfl
      · have hl : ∀ x y : Int, ¬ (bl s).take 2 = [x, y] := by
          intro x y hc
          have := congrArg List.length hc
          rw [List.length_take, bl_len] at this
          simp only [List.length_cons, List.length_nil] at this
          omega
        rw [decide_eq_false (hl _ _), decide_eq_false (hl _ _)]; rfl
    rw [e]
    exact fin1 (fun _ _ => rfl)
  · have h' : ((decide ((s.size : Int) < 2) || decide (bt s 0 ≠ 47)) || (decide (bt s 1 ≠ 47) && decide (bt s 1 ≠ 42))) = false := h
    obtain ⟨a1, a2⟩ := Bool.or_eq_false_iff.1 h'
    obtain ⟨a3, a4⟩ := Bool.or_eq_false_iff.1 a1
    have a3 := of_decide_eq_false a3
    have a4 : bt s 0 = 47 := Classical.not_not.1 (of_decide_eq_false a4)
    have h2 : 2 ≤ s.size := by omega
    clear h h' a1
    by_cases h47 : bt s 1 = 47
    · have e : N = (Lx.run Lx.notNl (bl s) : Int) := by
        rw [hN]
        unfold Lx.remR Lx.isOpen Lx.isLine
        rw [tl_two h2, a4, h47]; rfl
      have e0 : (Lx.run Lx.notNl (bl s) : Int) = 2 + Lx.run Lx.notNl (tl s 2) := by
        rw [← tl_zero, tl_cons (by omega) (by omega), run_cons, a4, if_pos (show Lx.notNl 47 = true from rfl), tl_cons (by omega) (by omega), run_cons, show (0 : Int) + 1 = 1 from rfl, h47, if_pos (show Lx.notNl 47 = true from rfl)]
        show ((Lx.run Lx.notNl (tl s 2) + 1 + 1 : Nat) : Int) = _
        omega
      rw [e0] at e
      refine x_loop (σ := Int) (fun k => ⟨[(3, .v (.int .i64 k)), (0, .v (.string s))], [], [], 0⟩)
        (fun k _ => 2 ≤ k ∧ k ≤ s.size ∧ N = k + Lx.run Lx.notNl (tl s k)) (fun k => (s.size - k).toNat) (fun _ => Nat.le_refl _) 2 [] (.of rfl rfl rfl rfl rfl rfl)
        ⟨by omega, by omega, e⟩ ?_
      rintro k u hu ⟨g1, g2, g3⟩
      refine x_vc tt_ok ?_
      refine x_if (fun h => ?_) (fun h => ?_)
      · have hk : k < s.size := of_decide_eq_true h
        rw [tl_cons (by omega) hk, run_cons] at g3
        repeat (refine And.intro ?_ ?_; first | omega | (simp only [Lay.d_n]; omega) | (simp only [decide_eq_true_eq, decide_eq_false_iff_not, Bool.or_eq_false_iff, Bool.and_eq_true, Bool.or_eq_true, Bool.and_eq_false_iff, Bool.not_eq_true', Bool.not_eq_false', Lay.d_n]; omega) | (simp only [decide_eq_true_eq, decide_eq_false_iff_not, Bool.or_eq_false_iff, Bool.and_eq_true, Bool.or_eq_true, Bool.and_eq_false_iff, Bool.not_eq_true', Bool.not_eq_false']; omega))
        refine x_if (fun h3 => ?_) (fun h3 => ?_)
        · have h4 : bt s k = 10 := of_decide_eq_true (Bool.and_eq_true_iff.1 h3).2
          rw [h4, if_neg (by decide)] at g3
          have e : N = k := by omega
          rw [e]
          exact fin1 (fun _ _ => rfl)
        · have h3' : (decide (bt s 1 = 47) && decide (bt s k = 10)) = false := h3
          rw [decide_eq_true h47, Bool.true_and] at h3'
          have h4 := of_decide_eq_false h3'
          have h5 : Lx.notNl (bt s k) = true := by unfold Lx.notNl; simpa using h4
          rw [if_pos h5] at g3
          repeat (refine And.intro ?_ ?_; first | omega | (simp only [Lay.d_n]; omega) | (simp only [decide_eq_true_eq, decide_eq_false_iff_not, Bool.or_eq_false_iff, Bool.and_eq_true, Bool.or_eq_true, Bool.and_eq_false_iff, Bool.not_eq_true', Bool.not_eq_false', Lay.d_n]; omega) | (simp only [decide_eq_true_eq, decide_eq_false_iff_not, Bool.or_eq_false_iff, Bool.and_eq_true, Bool.or_eq_true, Bool.and_eq_false_iff, Bool.not_eq_true', Bool.not_eq_false']; omega))
          refine x_if (fun h6 => ?_) (fun h6 => ?_)
          · have h6' : (((decide (bt s 1 = 42) && decide (2 < k)) && decide (bt s k = 47)) && decide (bt s (k - 1) = 42)) = true := h6
            rw [decide_eq_false (by omega)] at h6'; cases h6'
          · repeat (refine And.intro ?_ ?_; first | omega | (simp only [Lay.d_n]; omega) | (simp only [decide_eq_true_eq, decide_eq_false_iff_not, Bool.or_eq_false_iff, Bool.and_eq_true, Bool.or_eq_true, Bool.and_eq_false_iff, Bool.not_eq_true', Bool.not_eq_false', Lay.d_n]; omega) | (simp only [decide_eq_true_eq, decide_eq_false_iff_not, Bool.or_eq_false_iff, Bool.and_eq_true, Bool.or_eq_true, Bool.and_eq_false_iff, Bool.not_eq_true', Bool.not_eq_false']; omega))
            exact again (k + 1) [] (.of rfl rfl rfl rfl rfl rfl) ⟨by omega, by omega, by omega⟩ (by omega)
      · have hk : ¬ k < (s.size : Int) := of_decide_eq_false h
        rw [tl_nil (by omega)] at g3
        have e : N = s.size := by
          simp only [Lx.run] at g3
          omega
        repeat (refine And.intro ?_ ?_; first | omega | (simp only [Lay.d_n]; omega) | (simp only [decide_eq_true_eq, decide_eq_false_iff_not, Bool.or_eq_false_iff, Bool.and_eq_true, Bool.or_eq_true, Bool.and_eq_false_iff, Bool.not_eq_true', Bool.not_eq_false', Lay.d_n]; omega) | (simp only [decide_eq_true_eq, decide_eq_false_iff_not, Bool.or_eq_false_iff, Bool.and_eq_true, Bool.or_eq_true, Bool.and_eq_false_iff, Bool.not_eq_true', Bool.not_eq_false']; omega))
        refine x_ift (decide_eq_true h47) ?_
        rw [e]
        exact fin1 (fun _ _ => rfl)
    · have h42 : bt s 1 = 42 := by
        rw [decide_eq_true h47, Bool.true_and] at a2
        exact Classical.not_not.1 (of_decide_eq_false a2)
      have e : N = if Lx.endC (tl s 2) = 0 then -1 else atE 2 (Lx.endC (tl s 2)) := by
        rw [hN]
        unfold Lx.remR Lx.isOpen Lx.isLine
        rw [tl_two h2, a4, h42]
        have : (bl s).drop 2 = tl s 2 := rfl
        rw [this]
        simp only [decide_true, if_true]
        cases Lx.endC (tl s 2) with
        | zero => rfl
        | succ n =>
          rw [if_neg (by omega)]
          unfold atE
          rw [if_neg (by omega)]
          show (n : Int) + 3 = 2 + ((n + 1 : Nat) : Int)
          omega
      have e : N = if atE 2 (Lx.endC (tl s 2)) = 0 then -1 else atE 2 (Lx.endC (tl s 2)) := by
        rw [e]
        unfold atE
        by_cases h0 : Lx.endC (tl s 2) = 0
        · rw [if_pos h0, if_pos h0]; rfl
        · rw [if_neg h0, if_neg h0, if_neg (by omega)]
      refine x_loop (σ := Int) (fun k => ⟨[(3, .v (.int .i64 k)), (0, .v (.string s))], [], [], 0⟩)
        (fun k _ => 2 ≤ k ∧ k ≤ s.size ∧ ((k = 2 ∧ N = if atE 2 (Lx.endC (tl s 2)) = 0 then -1 else atE 2 (Lx.endC (tl s 2))) ∨ (2 < k ∧ N = if atE (k - 1) (Lx.endC (tl s (k - 1))) = 0 then -1 else atE (k - 1) (Lx.endC (tl s (k - 1))))))
        (fun k => (s.size - k).toNat) (fun _ => Nat.le_refl _) 2 [] (.of rfl rfl rfl rfl rfl rfl)
        ⟨by omega, by omega, .inl ⟨rfl, e⟩⟩ ?_
      clear e
      rintro k u hu ⟨g1, g2, g3⟩
      refine x_vc tt_ok ?_
      refine x_if (fun h => ?_) (fun h => ?_)
      · have hk : k < s.size := of_decide_eq_true h
        repeat (refine And.intro ?_ ?_; first | omega | (simp only [Lay.d_n]; omega) | (simp only [decide_eq_true_eq, decide_eq_false_iff_not, Bool.or_eq_false_iff, Bool.and_eq_true, Bool.or_eq_true, Bool.and_eq_false_iff, Bool.not_eq_true', Bool.not_eq_false', Lay.d_n]; omega) | (simp only [decide_eq_true_eq, decide_eq_false_iff_not, Bool.or_eq_false_iff, Bool.and_eq_true, Bool.or_eq_true, Bool.and_eq_false_iff, Bool.not_eq_true', Bool.not_eq_false']; omega))
        refine x_if (fun h3 => ?_) (fun h3 => ?_)
        · exact absurd (of_decide_eq_true (Bool.and_eq_true_iff.1 h3).1) h47
        · repeat (refine And.intro ?_ ?_; first | omega | (simp only [Lay.d_n]; omega) | (simp only [decide_eq_true_eq, decide_eq_false_iff_not, Bool.or_eq_false_iff, Bool.and_eq_true, Bool.or_eq_true, Bool.and_eq_false_iff, Bool.not_eq_true', Bool.not_eq_false', Lay.d_n]; omega) | (simp only [decide_eq_true_eq, decide_eq_false_iff_not, Bool.or_eq_false_iff, Bool.and_eq_true, Bool.or_eq_true, Bool.and_eq_false_iff, Bool.not_eq_true', Bool.not_eq_false']; omega))
          refine x_if (fun h6 => ?_) (fun h6 => ?_)
          · have h6' : (((decide (bt s 1 = 42) && decide (2 < k)) && decide (bt s k = 47)) && decide (bt s (k - 1) = 42)) = true := h6
            simp only [Bool.and_eq_true, decide_eq_true_eq] at h6'
            obtain ⟨⟨⟨_, b1⟩, b2⟩, b3⟩ := h6'
            rcases g3 with ⟨c1, _⟩ | ⟨c1, c2⟩
            · omega
            · have e : N = k + 1 := by
                have ec : Lx.endC (tl s (k - 1)) = 2 := by
                  rw [tl_cons (by omega) (by omega), endC_cons, show k - 1 + 1 = k by omega, tl_head (by omega) hk, if_pos ⟨b3, by rw [b2]⟩]
                have ea : atE (k - 1) 2 = k + 1 := by unfold atE; rw [if_neg (by omega)]; omega
                rw [c2, ec, ea, if_neg (by omega)]
              repeat (refine And.intro ?_ ?_; first | omega | (simp only [Lay.d_n]; omega) | (simp only [decide_eq_true_eq, decide_eq_false_iff_not, Bool.or_eq_false_iff, Bool.and_eq_true, Bool.or_eq_true, Bool.and_eq_false_iff, Bool.not_eq_true', Bool.not_eq_false', Lay.d_n]; omega) | (simp only [decide_eq_true_eq, decide_eq_false_iff_not, Bool.or_eq_false_iff, Bool.and_eq_true, Bool.or_eq_true, Bool.and_eq_false_iff, Bool.not_eq_true', Bool.not_eq_false']; omega))
              rw [e]
              exact fin1 (fun _ _ => rfl)
          · have h6' : (((decide (bt s 1 = 42) && decide (2 < k)) && decide (bt s k = 47)) && decide (bt s (k - 1) = 42)) = false := h6
            repeat (refine And.intro ?_ ?_; first | omega | (simp only [Lay.d_n]; omega) | (simp only [decide_eq_true_eq, decide_eq_false_iff_not, Bool.or_eq_false_iff, Bool.and_eq_true, Bool.or_eq_true, Bool.and_eq_false_iff, Bool.not_eq_true', Bool.not_eq_false', Lay.d_n]; omega) | (simp only [decide_eq_true_eq, decide_eq_false_iff_not, Bool.or_eq_false_iff, Bool.and_eq_true, Bool.or_eq_true, Bool.and_eq_false_iff, Bool.not_eq_true', Bool.not_eq_false']; omega))
            refine again (k + 1) [] (.of rfl rfl rfl rfl rfl rfl) ⟨by omega, by omega, .inr ⟨by omega, ?_⟩⟩ (by omega)
            rw [show k + 1 - 1 = k by omega]
            rcases g3 with ⟨c1, c2⟩ | ⟨c1, c2⟩
            · subst c1; exact c2
            · have hn : ¬ (bt s (k - 1) = 42 ∧ some (bt s k) = some (47 : Int)) := by
                rintro ⟨b3, b2⟩
                rw [decide_eq_true h42, decide_eq_true c1, decide_eq_true (Option.some.inj b2), decide_eq_true b3] at h6'; cases h6'
              have ec : Lx.endC (tl s (k - 1)) = if Lx.endC (tl s k) = 0 then 0 else Lx.endC (tl s k) + 1 := by
                rw [tl_cons (by omega) (by omega), endC_cons, show k - 1 + 1 = k by omega, tl_head (by omega) hk, if_neg hn]
              rw [ec, atE_up, show k - 1 + 1 = k by omega] at c2
              exact c2
      · have hk : ¬ k < (s.size : Int) := of_decide_eq_false h
        have e : N = -1 := by
          rcases g3 with ⟨c1, c2⟩ | ⟨c1, c2⟩
          · rw [c2, tl_nil (by omega)]; rfl
          · rw [c2, tl_cons (by omega) (by omega), endC_cons, tl_nil (by omega)]
            simp [Lx.endC, atE]
        repeat (refine And.intro ?_ ?_; first | omega | (simp only [Lay.d_n]; omega) | (simp only [decide_eq_true_eq, decide_eq_false_iff_not, Bool.or_eq_false_iff, Bool.and_eq_true, Bool.or_eq_true, Bool.and_eq_false_iff, Bool.not_eq_true', Bool.not_eq_false', Lay.d_n]; omega) | (simp only [decide_eq_true_eq, decide_eq_false_iff_not, Bool.or_eq_false_iff, Bool.and_eq_true, Bool.or_eq_true, Bool.and_eq_false_iff, Bool.not_eq_true', Bool.not_eq_false']; omega))
        refine x_iff (decide_eq_false h47) ?_
        rw [e]
        exact fin1 (fun _ _ => rfl)
end Go.Proofs.YtnjmkeijjapejaaDoor
namespace Go.Proofs.YtnjmkeijjapejaaDoor
open Go.GV Go.RowKit
structure Tok where
  kind : Int
  text : ByteArray
  lo : Int
  hi : Int
  space : Bool
def tok0 : Tok := ⟨0, ⟨#[]⟩, 0, 0, false⟩
abbrev tokY : Lay Tok := ⟨[fun t => .int .i64 t.kind, fun t => .string t.text, fun t => .int .i64 t.lo, fun t => .int .i64 t.hi, fun t => .bool t.space], tok0⟩
end Go.Proofs.YtnjmkeijjapejaaDoor
namespace Go.Proofs.YtnjmkeijjapejaaDoor
open Go.GV Go.RowKit
def rtF (s : ByteArray) : Nat → Int → Bool → Int → List (Lx.Tk × Bool)
  | 0, _, _, _ => []
  | n + 1, st, sp, i => if i < s.size then
      (if Lx.white (bt s i) = true then rtF s n st true (i + 1)
      else if (itm s st i).err ≠ 0 then [(⟨0, 0, 0, (itm s st i).err⟩, sp)]
      else (⟨(itm s st i).kind, i.toNat, i.toNat + (itm s st i).len, 0⟩, sp) :: rtF s n (Lx.after st (itm s st i).kind ((tl s i).take (itm s st i).len)) false (i + (itm s st i).len))
    else []
theorem rtF_fuel (s : ByteArray) : ∀ (n m : Nat) (st : Int) (sp : Bool) (i : Int), 0 ≤ i → (s.size : Int) - i ≤ n → (s.size : Int) - i ≤ m → rtF s n st sp i = rtF s m st sp i
  | 0, 0, _, _, _, _, _, _ => rfl
  | 0, m + 1, st, sp, i, h0, h1, h2 => by rw [rtF, rtF, if_neg (by omega)]
  | n + 1, 0, st, sp, i, h0, h1, h2 => by rw [rtF, rtF, if_neg (by omega)]
  | n + 1, m + 1, st, sp, i, h0, h1, h2 => by
    rw [rtF, rtF]
    by_cases hi : i < s.size
    · rw [if_pos hi, if_pos hi, rtF_fuel s n m st true (i + 1) (by omega) (by omega) (by omega)]
      by_cases he : (itm s st i).err = 0
      · have := itm_le h0 hi he
        rw [rtF_fuel s n m _ false (i + (itm s st i).len) (by omega) (by omega) (by omega)]
      · rw [if_pos he, if_pos he]
    · rw [if_neg hi, if_neg hi]
def rtA (s : ByteArray) (st : Int) (sp : Bool) (i : Int) : List (Lx.Tk × Bool) := rtF s s.size st sp i
theorem rtA_nil {s : ByteArray} {st : Int} {sp : Bool} {i : Int} (h : s.size ≤ i) : rtA s st sp i = [] := by
  unfold rtA
  cases hn : s.size with
  | zero => rfl
  | succ n => rw [rtF, if_neg (by omega)]
theorem rtA_cons {s : ByteArray} {st : Int} {sp : Bool} {i : Int} (h0 : 0 ≤ i) (h : i < s.size) : rtA s st sp i =
    if Lx.white (bt s i) = true then rtA s st true (i + 1)
    else if (itm s st i).err ≠ 0 then [(⟨0, 0, 0, (itm s st i).err⟩, sp)]
    else (⟨(itm s st i).kind, i.toNat, i.toNat + (itm s st i).len, 0⟩, sp) :: rtA s (Lx.after st (itm s st i).kind ((tl s i).take (itm s st i).len)) false (i + (itm s st i).len) := by
  unfold rtA
  obtain ⟨n, hn⟩ : ∃ n, s.size = n + 1 := ⟨s.size - 1, by omega⟩
  conv => lhs; rw [hn, rtF, if_pos h]
  rw [rtF_fuel s n s.size st true (i + 1) (by omega) (by omega) (by omega)]
  by_cases he : (itm s st i).err = 0
  · have := itm_le h0 h he
    rw [rtF_fuel s n s.size _ false (i + (itm s st i).len) (by omega) (by omega) (by omega)]
  · rw [if_pos he, if_pos he]
theorem rtF_fst (s : ByteArray) : ∀ (n : Nat) (st : Int) (sp : Bool) (i : Int), 0 ≤ i → (s.size : Int) - i ≤ n → (rtF s n st sp i).map (·.1) = itA s st i
  | 0, st, sp, i, h0, h1 => by rw [rtF, itA_nil (by omega)]; rfl
  | n + 1, st, sp, i, h0, h1 => by
    rw [rtF]
    by_cases hi : i < s.size
    · rw [if_pos hi, itA_cons h0 hi]
      by_cases hw : Lx.white (bt s i) = true
      · rw [if_pos hw, if_pos hw]; exact rtF_fst s n st true (i + 1) (by omega) (by omega)
      · rw [if_neg hw, if_neg hw]
        by_cases he : (itm s st i).err = 0
        · have := itm_le h0 hi he
          rw [if_neg (by simpa using he), if_neg (by simpa using he), List.map_cons, rtF_fst s n _ false _ (by omega) (by omega)]
        · rw [if_pos he, if_pos he]; rfl
    · rw [if_neg hi, itA_nil (by omega)]; rfl
theorem rtA_fst (s : ByteArray) : (rtA s 0 false 0).map (·.1) = itsOf s := by
  rw [← itA_zero]; exact rtF_fst s _ _ _ _ (Int.le_refl _) (by omega)
abbrev hashW (x : ByteArray) : Prop := x = ⟨#[35]⟩ ∨ x = ⟨#[37, 58]⟩
def inclW : ByteArray := ⟨#[105, 110, 99, 108, 117, 100, 101]⟩
def Rel : List ByteArray → Int → Prop
  | [], st => st = 0
  | [x], st => (hashW x ∧ st = 1) ∨ (¬ hashW x ∧ st = 3)
  | [x, y], st => (hashW x ∧ y = inclW ∧ st = 2) ∨ (¬ (hashW x ∧ y = inclW) ∧ st = 3)
  | _ :: _ :: _ :: _, st => st = 3
def hdrW (W : List ByteArray) : Bool := decide ((W.length : Int) = 2) && (decide (W.getD 0 ⟨#[]⟩ = ⟨#[35]⟩) || decide (W.getD 0 ⟨#[]⟩ = ⟨#[37, 58]⟩)) && decide (W.getD 1 ⟨#[]⟩ = ⟨#[105, 110, 99, 108, 117, 100, 101]⟩)
theorem Rel.hdr {W : List ByteArray} {st : Int} (h : Rel W st) : hdrW W = decide (st = 2) := by
  match W, h with
  | [], h => have h : st = 0 := h; subst h; rfl
  | [x], h =>
    have : ¬ st = 2 := by rcases h with h | h <;> omega
    rw [decide_eq_false this]; rfl
  | [x, y], h =>
    rcases h with ⟨h1, h2, h3⟩ | ⟨h1, h2⟩
    · subst h3; subst h2
      rcases h1 with rfl | rfl <;> rfl
    · subst h2
      cases hh : hdrW [x, y] with
      | false => rfl
      | true =>
        refine absurd ?_ h1
        simp only [hdrW, Bool.and_eq_true, Bool.or_eq_true, decide_eq_true_eq] at hh
        exact ⟨hh.1.2, hh.2⟩
  | x :: y :: z :: r, h =>
    have h : st = 3 := h
    subst h
    unfold hdrW
    rw [decide_eq_false (by simp only [List.length_cons]; omega)]; rfl
theorem bestL_seven (l : Lx.Bs) : (Lx.bestL l).1 ≠ 7 := by
  unfold Lx.bestL
  have h := Lx.litQ_facts l
  split
  · rcases h with h | h
    · omega
    · rcases h.1 with h | h <;> omega
  · split
    · show (1 : Int) ≠ 7; decide
    · split
      · show (2 : Int) ≠ 7; decide
      · split
        · show (5 : Int) ≠ 7; decide
        · show (0 : Int) ≠ 7; decide
theorem hdrN_head {c : Int} {r : Lx.Bs} (h : 0 < Lx.hdrN (c :: r)) : c = 60 ∨ c = 34 := by
  simp only [Lx.hdrN] at h
  by_cases h1 : c = 60
  · exact .inl h1
  · rw [if_neg h1] at h
    by_cases h2 : c = 34
    · exact .inr h2
    · rw [if_neg h2] at h; omega
theorem item_seven {hdr : Bool} {c : Int} {r : Lx.Bs} (h : (Lx.itemP hdr (c :: r)).kind = 7) : c = 60 ∨ c = 34 := by
  rw [itemP_eq] at h
  split at h
  · rename_i h1; exact hdrN_head h1.2
  · split at h
    · split at h <;> simp at h
    · split at h
      · simp at h
      · unfold longL at h
        split at h
        · simp at h
        · split at h
          · exact absurd h (bestL_seven _)
          · split at h <;> simp at h
theorem one_hash : Lx.oneL [35] = some 5 := by decide
theorem one_hash2 : Lx.oneL [37, 58] = some 5 := by decide
theorem one_incl : Lx.oneL [105, 110, 99, 108, 117, 100, 101] = some 1 := by decide
theorem itm_one {s : ByteArray} {st i : Int} (h0 : 0 ≤ i) (h : i < s.size) (hw : Lx.white (bt s i) = false) (he : (itm s st i).err = 0) {t : Lx.Bs} (ht : (tl s i).take (itm s st i).len = t) {k c : Int}
    (hk : Lx.oneL t = some k) (hc : t.head? = some c) (hc1 : c ≠ 60) (hc2 : c ≠ 34) : (itm s st i).kind = k := by
  unfold itm at he ht ⊢
  have h1 := Lx.itemP_le (decide (st = 2)) (l := tl s i) (by rw [tl_cons h0 h]; simp)
  have h2 := h1.2 he
  rw [tl_cons h0 h] at he ht h2 ⊢
  have hb : bt s i = c := by
    rw [← ht, Lx.head_take (by omega)] at hc
    exact Option.some.inj hc
  have h7 : (Lx.itemP (decide (st = 2)) (bt s i :: tl s (i + 1))).kind ≠ 7 := fun h7 => by
    rcases item_seven h7 with h7 | h7
    · exact hc1 (hb.symm.trans h7)
    · exact hc2 (hb.symm.trans h7)
  have := Lx.one_of_item hw he h7
  rw [ht, hk] at this
  exact (Option.some.inj this).symm
theorem Rel.step {s : ByteArray} {W : List ByteArray} {st i : Int} (h : Rel W st) (h0 : 0 ≤ i) (hi : i < s.size) (hw : Lx.white (bt s i) = false) (he : (itm s st i).err = 0) (h8 : (itm s st i).kind ≠ 8) (h9 : (itm s st i).kind ≠ 9) :
    Rel (W ++ [sub s i (i + (itm s st i).len)]) (Lx.after st (itm s st i).kind ((tl s i).take (itm s st i).len)) := by
  obtain ⟨m1, m2⟩ := itm_le h0 hi he
  have hb : bl (sub s i (i + (itm s st i).len)) = (tl s i).take (itm s st i).len := by rw [bl_part s h0 (by omega) m2, Int.toNat_natCast]
  have k1 : hashW (sub s i (i + (itm s st i).len)) → (itm s st i).kind = 5 := by
    rintro (h | h)
    · exact itm_one h0 hi hw he (t := [35]) (by rw [← hb, h]; rfl) one_hash rfl (by decide) (by decide)
    · exact itm_one h0 hi hw he (t := [37, 58]) (by rw [← hb, h]; rfl) one_hash2 rfl (by decide) (by decide)
  have k2 : sub s i (i + (itm s st i).len) = inclW → (itm s st i).kind = 1 := fun h =>
    itm_one h0 hi hw he (t := [105, 110, 99, 108, 117, 100, 101]) (by rw [← hb, h]; rfl) one_incl rfl (by decide) (by decide)
  have t1 : ((tl s i).take (itm s st i).len = [35] ∨ (tl s i).take (itm s st i).len = [37, 58]) ↔ hashW (sub s i (i + (itm s st i).len)) := by
    rw [← hb]
    unfold hashW
    constructor
    · rintro (h | h)
      · exact .inl (bl_inj h)
      · exact .inr (bl_inj h)
    · rintro (h | h)
      · exact .inl (by rw [h]; rfl)
      · exact .inr (by rw [h]; rfl)
  have t2 : (tl s i).take (itm s st i).len = [105, 110, 99, 108, 117, 100, 101] ↔ sub s i (i + (itm s st i).len) = inclW := by
    rw [← hb]
    exact ⟨fun h => bl_inj h, fun h => by rw [h]; rfl⟩
  have ea : Lx.after st (itm s st i).kind ((tl s i).take (itm s st i).len) = if st = 0 ∧ (itm s st i).kind = 5 ∧ hashW (sub s i (i + (itm s st i).len)) then 1
      else if st = 1 ∧ (itm s st i).kind = 1 ∧ sub s i (i + (itm s st i).len) = inclW then 2 else 3 := by
    unfold Lx.after
    rw [if_neg h8, if_neg h9]
    simp only [t1, t2]
  rw [ea]
  generalize sub s i (i + (itm s st i).len) = t at k1 k2 ⊢
  match W, h with
  | [], h =>
    have h : st = 0 := h
    subst h
    by_cases hh : hashW t
    · rw [if_pos ⟨rfl, k1 hh, hh⟩]; exact .inl ⟨hh, rfl⟩
    · rw [if_neg (fun h => hh h.2.2), if_neg (fun h => by omega)]; exact .inr ⟨hh, rfl⟩
  | [x], h =>
    rcases h with ⟨h1, h2⟩ | ⟨h1, h2⟩
    · rw [if_neg (fun h => by omega)]
      by_cases hh : t = inclW
      · rw [if_pos ⟨h2, k2 hh, hh⟩]; exact .inl ⟨h1, hh, rfl⟩
      · rw [if_neg (fun h => hh h.2.2)]; exact .inr ⟨fun h => hh h.2, rfl⟩
    · rw [if_neg (fun h => by omega), if_neg (fun h => by omega)]
      exact .inr ⟨fun h => h1 h.1, rfl⟩
  | [x, y], h =>
    have : st = 2 ∨ st = 3 := by
      rcases h with h | h
      · exact .inl h.2.2
      · exact .inr h.2
    rw [if_neg (fun h => by omega), if_neg (fun h => by omega)]
    rfl
  | x :: y :: z :: r, h =>
    have h : st = 3 := h
    rw [if_neg (fun h => by omega), if_neg (fun h => by omega)]
    rfl
def errT : List (Lx.Tk × Bool) → Int
  | [] => 0
  | t :: r => if t.1.err ≠ 0 then t.1.err else errT r
def tokT (s : ByteArray) (p : Lx.Tk × Bool) : Tok := ⟨p.1.kind, sub s p.1.lo p.1.hi, p.1.lo, p.1.hi, p.2⟩
def rErr (s : ByteArray) : Int := errT (rtA s 0 false 0)
def rToks (s : ByteArray) : List Tok := if rErr s = 0 then (rtA s 0 false 0).map (tokT s) else []
end Go.Proofs.YtnjmkeijjapejaaDoor
namespace Go.Proofs.YtnjmkeijjapejaaDoor
open Go.GV Go.RowKit
set_option maxRecDepth 100000 in
theorem refTokens_any (s : ByteArray) (hz : s.size ≤ 4294967280) (w : World) :
    Calls Tryd.prog 65 #[.string s] w (PureP w (OwnT 105 (tokY.d (rToks s)) [.int .i64 (rErr s)])) := by
  refine x_fun tt_ok Tryd.func65 rfl rfl [] 0 [.v (.string s)] rfl rfl rfl rfl (fun b hb => by cases hb) ?_
  refine x_vc tt_ok ?_
  refine x_nil 4 105 tokY rfl ?_
  refine x_loop (σ := Int × Bool × List Tok × Bool × List ByteArray × Int) (fun (i, sp, T, wr, W, _) => ⟨[(7, .v (.bool sp)), (6, .v (.int .i64 i)), (5, cond wr (.r 2) (.v (.slice none 0 0))), (4, .r 1), (0, .v (.string s))], [],
      cond wr [(2, .row 9 (strY.d W)), (1, .row 105 (tokY.d T))] [(1, .row 105 (tokY.d T))], 3⟩)
    (fun (i, sp, T, wr, W, st) _ => 0 ≤ i ∧ i ≤ s.size ∧ (T.length : Int) ≤ i ∧ (W.length : Int) ≤ i ∧ (wr = false → W = []) ∧ Rel W st ∧ rErr s = errT (rtA s st sp i) ∧ (rErr s = 0 → rToks s = T ++ (rtA s st sp i).map (tokT s)))
    (fun (i, _) => (s.size - i).toNat) (fun (_, _, _, _, _, _) => by show 1 ≤ 3; decide) (0, false, [], false, [], 0) [(1, some 0)] (.of rfl rfl rfl rfl rfl rfl)
    ⟨by omega, by omega, by simp, by simp, fun _ => rfl, rfl, rfl, fun h => by rw [rToks, if_pos h]; rfl⟩ ?_
  rintro ⟨i, sp, T, wr, W, st⟩ u hu ⟨g1, g2, g3, g4, g5, g6, g7, g8⟩
  refine x_cut (σ := Unit) (fun _ => ⟨[(7, .v (.bool sp)), (6, .v (.int .i64 i)), (5, .r 3), (4, .r 1), (0, .v (.string s))], [], [(3, .row 9 (strY.d W)), (1, .row 105 (tokY.d T))], 4⟩)
    (fun _ _ => i < s.size) (fun _ => by show 3 ≤ 4; decide) ?_ ?_
  · cases wr with
    | true =>
      refine x_vc tt_ok ?_
      refine x_if (fun h => ?_) (fun h => ?_)
      · exact meet () [(3, some 2)] (.of rfl rfl rfl rfl rfl rfl) (of_decide_eq_true h)
      · have h2 := of_decide_eq_false h
        rw [rtA_nil (by omega)] at g7 g8
        have e1 : rErr s = 0 := g7
        have e2 : rToks s = T := by rw [g8 e1]; simp
        rw [e1, e2]
        exact finO2 (k := 1) rfl
    | false =>
      obtain rfl := g5 rfl
      refine x_nil 5 9 strY rfl ?_
      refine x_vc tt_ok ?_
      refine x_if (fun h => ?_) (fun h => ?_)
      · exact meet () [] (.of rfl rfl rfl rfl rfl rfl) (of_decide_eq_true h)
      · have h2 := of_decide_eq_false h
        rw [rtA_nil (by omega)] at g7 g8
        have e1 : rErr s = 0 := g7
        have e2 : rToks s = T := by rw [g8 e1]; simp
        rw [e1, e2]
        exact finO2 (k := 1) rfl
  · rintro _ u2 hu2 hi
    rw [rtA_cons g1 hi] at g7 g8
    have hbr : bl (sub s i s.size) = tl s i := bl_rest s g1 (by omega)
    have hsz : ((sub s i s.size).size : Int) = s.size - i := sub_size g1 (by omega) (Int.le_refl _)
    refine x_block ?_
    refine x_seq ?_
    refine x_vc tt_ok ?_
    repeat (refine And.intro ?_ ?_; first | omega | (simp only [Lay.d_n]; omega) | (simp only [decide_eq_true_eq, decide_eq_false_iff_not, Bool.or_eq_false_iff, Bool.and_eq_true, Bool.or_eq_true, Bool.and_eq_false_iff, Bool.not_eq_true', Bool.not_eq_false', Lay.d_n]; omega) | (simp only [decide_eq_true_eq, decide_eq_false_iff_not, Bool.or_eq_false_iff, Bool.and_eq_true, Bool.or_eq_true, Bool.and_eq_false_iff, Bool.not_eq_true', Bool.not_eq_false']; omega))
    refine xl_call0 (.bool (Lx.white (bt s i))) rfl rfl rfl rfl fn86 rfl rfl (fun E w F _ => whiteR_any _ w) ?_
    refine xl_go tt_ok ?_
    refine x_if (fun h => ?_) (fun h => ?_)
    · rw [if_pos h] at g7 g8
      repeat (refine And.intro ?_ ?_; first | omega | (simp only [Lay.d_n]; omega) | (simp only [decide_eq_true_eq, decide_eq_false_iff_not, Bool.or_eq_false_iff, Bool.and_eq_true, Bool.or_eq_true, Bool.and_eq_false_iff, Bool.not_eq_true', Bool.not_eq_false', Lay.d_n]; omega) | (simp only [decide_eq_true_eq, decide_eq_false_iff_not, Bool.or_eq_false_iff, Bool.and_eq_true, Bool.or_eq_true, Bool.and_eq_false_iff, Bool.not_eq_true', Bool.not_eq_false']; omega))
      exact again (i + 1, true, T, true, W, st) [(1, some 1), (2, some 3)] (.of rfl rfl rfl rfl rfl rfl) ⟨by omega, by omega, by omega, by omega, (fun h => by cases h), g6, g7, g8⟩ (by simp only; omega)
    · rw [if_neg (fun h2 => Bool.noConfusion (h2.symm.trans h))] at g7 g8
      have hitm : itm s st i = Lx.itemR (hdrW W) (tl s i) := by
        rw [Lx.itemR_eq _ (by rw [tl_cons g1 hi]; simp), g6.hdr]; rfl
      refine x_seq ?_
      refine x_vc tt_ok ?_
      refine x_seq ?_
      refine x_vc tt_ok ?_
      refine x_cut (σ := Int × Int) (fun (k, n) => ⟨[(9, .v (.int .i64 n)), (8, .v (.int .i64 k)), (7, .v (.bool sp)), (6, .v (.int .i64 i)), (5, .r 3), (4, .r 1), (0, .v (.string s))], [], [(3, .row 9 (strY.d W)), (1, .row 105 (tokY.d T))], 4⟩)
        (fun (k, n) _ => n = (if hdrW W = true then (Lx.hdrN (tl s i) : Int) else 0) ∧ (n ≠ 0 → k = 7)) (fun (_, _) => Nat.le_refl 4) ?_ ?_
      · refine x_vc tt_ok ?_
        repeat (refine And.intro ?_ ?_; first | omega | (simp only [Lay.d_n]; omega) | (simp only [decide_eq_true_eq, decide_eq_false_iff_not, Bool.or_eq_false_iff, Bool.and_eq_true, Bool.or_eq_true, Bool.and_eq_false_iff, Bool.not_eq_true', Bool.not_eq_false', Lay.d_n]; omega) | (simp only [decide_eq_true_eq, decide_eq_false_iff_not, Bool.or_eq_false_iff, Bool.and_eq_true, Bool.or_eq_true, Bool.and_eq_false_iff, Bool.not_eq_true', Bool.not_eq_false']; omega))
        refine x_if (fun h3 => ?_) (fun h3 => ?_)
        · have h3' : hdrW W = true := h3
          repeat (refine And.intro ?_ ?_; first | omega | (simp only [Lay.d_n]; omega) | (simp only [decide_eq_true_eq, decide_eq_false_iff_not, Bool.or_eq_false_iff, Bool.and_eq_true, Bool.or_eq_true, Bool.and_eq_false_iff, Bool.not_eq_true', Bool.not_eq_false', Lay.d_n]; omega) | (simp only [decide_eq_true_eq, decide_eq_false_iff_not, Bool.or_eq_false_iff, Bool.and_eq_true, Bool.or_eq_true, Bool.and_eq_false_iff, Bool.not_eq_true', Bool.not_eq_false']; omega))
          refine xl_call0 (.int .i64 (Lx.hdrN (tl s i))) rfl rfl rfl rfl fn87 rfl rfl (fun E w F _ => by rw [← hbr]; exact named_any _ (by omega) (by omega) w) ?_
          refine xl_go tt_ok ?_
          exact meet (7, (Lx.hdrN (tl s i) : Int)) [] (.of rfl rfl rfl rfl rfl rfl) ⟨by rw [if_pos h3'], fun _ => rfl⟩
        · have h3' : hdrW W = false := h3
          exact meet (0, 0) [] (.of rfl rfl rfl rfl rfl rfl) ⟨by rw [h3']; rfl, fun h => absurd rfl h⟩
      · rintro ⟨k, n⟩ u3 hu3 ⟨n1, n2⟩
        refine x_cut (σ := Int × Int) (fun (k, n) => ⟨[(9, .v (.int .i64 n)), (8, .v (.int .i64 k)), (7, .v (.bool sp)), (6, .v (.int .i64 i)), (5, .r 3), (4, .r 1), (0, .v (.string s))], [], [(3, .row 9 (strY.d W)), (1, .row 105 (tokY.d T))], 4⟩)
          (fun (k, n) _ => ((if hdrW W = true then (Lx.hdrN (tl s i) : Int) else 0) ≠ 0 ∧ k = 7 ∧ n = (if hdrW W = true then (Lx.hdrN (tl s i) : Int) else 0)) ∨ ((if hdrW W = true then (Lx.hdrN (tl s i) : Int) else 0) = 0 ∧ k = 8 ∧ n = Lx.remR (tl s i)))
          (fun (_, _) => Nat.le_refl 4) ?_ ?_
        · refine x_vc tt_ok ?_
          refine x_if (fun h3 => ?_) (fun h3 => ?_)
          · have h3 := of_decide_eq_true h3
            repeat (refine And.intro ?_ ?_; first | omega | (simp only [Lay.d_n]; omega) | (simp only [decide_eq_true_eq, decide_eq_false_iff_not, Bool.or_eq_false_iff, Bool.and_eq_true, Bool.or_eq_true, Bool.and_eq_false_iff, Bool.not_eq_true', Bool.not_eq_false', Lay.d_n]; omega) | (simp only [decide_eq_true_eq, decide_eq_false_iff_not, Bool.or_eq_false_iff, Bool.and_eq_true, Bool.or_eq_true, Bool.and_eq_false_iff, Bool.not_eq_true', Bool.not_eq_false']; omega))
            refine xl_call0 (.int .i64 (Lx.remR (tl s i))) rfl rfl rfl rfl fn88 rfl rfl (fun E w F _ => by rw [← hbr]; exact remark_any _ (by omega) (by omega) w) ?_
            refine xl_go tt_ok ?_
            exact meet (8, Lx.remR (tl s i)) [] (.of rfl rfl rfl rfl rfl rfl) (.inr ⟨by rw [← n1]; exact h3, rfl, rfl⟩)
          · have h3 := of_decide_eq_false h3
            exact meet (k, n) [] (.of rfl rfl rfl rfl rfl rfl) (.inl ⟨by rw [← n1]; exact h3, n2 h3, n1⟩)
        · clear n1 n2
          rintro ⟨k, n⟩ u4 hu4 hn
          replace hn : ((if hdrW W = true then (Lx.hdrN (tl s i) : Int) else 0) ≠ 0 ∧ k = 7 ∧ n = (if hdrW W = true then (Lx.hdrN (tl s i) : Int) else 0)) ∨ ((if hdrW W = true then (Lx.hdrN (tl s i) : Int) else 0) = 0 ∧ k = 8 ∧ n = Lx.remR (tl s i)) := hn
          unfold Lx.itemR at hitm
          simp only at hitm
          generalize hn0 : (if hdrW W = true then (Lx.hdrN (tl s i) : Int) else 0) = n0 at hn hitm
          have hn0' : 0 ≤ n0 := by rw [← hn0]; split <;> omega
          clear hn0
          have hnil : ∀ e : Int, (itm s st i).err = e → e ≠ 0 → rErr s = e ∧ rToks s = [] := by
            intro e he1 he2
            rw [if_pos (by rw [he1]; exact he2)] at g7
            have : rErr s = e := by
              rw [g7, errT, if_pos (by rw [he1]; exact he2)]; exact he1
            exact ⟨this, by rw [rToks, if_neg (by rw [this]; exact he2)]⟩
          refine x_seq ?_
          refine x_vc tt_ok ?_
          refine x_if (fun h3 => ?_) (fun h3 => ?_)
          · have h3 := of_decide_eq_true h3
            obtain ⟨e1, e2⟩ := hnil 20 (by
              rcases hn with ⟨b1, b2, b3⟩ | ⟨b1, b2, b3⟩
              · omega
              · rw [hitm, if_neg (by simpa using b1), if_pos (by omega)]) (by decide)
            rw [e1, e2]
            exact finO2n tokY
          · have h3 := of_decide_eq_false h3
            refine x_cut (σ := Int × Int) (fun (k, n) => ⟨[(9, .v (.int .i64 n)), (8, .v (.int .i64 k)), (7, .v (.bool sp)), (6, .v (.int .i64 i)), (5, .r 3), (4, .r 1), (0, .v (.string s))], [], [(3, .row 9 (strY.d W)), (1, .row 105 (tokY.d T))], 4⟩)
              (fun (k, n) _ => 0 ≤ n ∧ (n = 0 → itm s st i = ⟨0, 0, 21⟩) ∧ (n ≠ 0 → itm s st i = ⟨k, n.toNat, 0⟩))
              (fun (_, _) => Nat.le_refl 4) ?_ ?_
            · refine x_vc tt_ok ?_
              refine x_if (fun h4 => ?_) (fun h4 => ?_)
              · have h4 := of_decide_eq_true h4
                repeat (refine And.intro ?_ ?_; first | omega | (simp only [Lay.d_n]; omega) | (simp only [decide_eq_true_eq, decide_eq_false_iff_not, Bool.or_eq_false_iff, Bool.and_eq_true, Bool.or_eq_true, Bool.and_eq_false_iff, Bool.not_eq_true', Bool.not_eq_false', Lay.d_n]; omega) | (simp only [decide_eq_true_eq, decide_eq_false_iff_not, Bool.or_eq_false_iff, Bool.and_eq_true, Bool.or_eq_true, Bool.and_eq_false_iff, Bool.not_eq_true', Bool.not_eq_false']; omega))
                refine xl_call0 (.tuple #[.int .i64 (Lx.longR (tl s i)).1, .int .i64 (Lx.longR (tl s i)).2]) rfl rfl rfl rfl fn89 rfl rfl (fun E w F _ => by rw [← hbr]; exact longR_any _ (by omega) (by omega) w) ?_
                refine xl_go tt_ok ?_
                refine meet ((Lx.longR (tl s i)).1, ((Lx.longR (tl s i)).2 : Int)) [] (.of rfl rfl rfl rfl rfl rfl) ⟨by omega, fun h5 => ?_, fun h5 => ?_⟩
                · rcases hn with ⟨b1, b2, b3⟩ | ⟨b1, b2, b3⟩
                  · omega
                  · rw [hitm, if_neg (by simpa using b1), if_neg (by omega), if_neg (by omega), if_pos (by omega)]
                · rcases hn with ⟨b1, b2, b3⟩ | ⟨b1, b2, b3⟩
                  · omega
                  · rw [hitm, if_neg (by simpa using b1), if_neg (by omega), if_neg (by omega), if_neg (by omega)]
                    simp
              · have h4 := of_decide_eq_false h4
                refine meet (k, n) [] (.of rfl rfl rfl rfl rfl rfl) ⟨by omega, fun h5 => absurd h5 h4, fun _ => ?_⟩
                rcases hn with ⟨b1, b2, b3⟩ | ⟨b1, b2, b3⟩
                · rw [hitm, if_pos b1, b2, b3]
                · rw [hitm, if_neg (by simpa using b1), if_neg (by omega), if_pos (by omega), b2, b3]
            · clear hn h3 hitm
              rintro ⟨k, n⟩ u5 hu5 ⟨c0, c1, c2⟩
              refine x_seq ?_
              refine x_vc tt_ok ?_
              refine x_if (fun h3 => ?_) (fun h3 => ?_)
              · have h3 := of_decide_eq_true h3
                obtain ⟨e1, e2⟩ := hnil 21 (by rw [c1 h3]) (by decide)
                rw [e1, e2]
                exact finO2n tokY
              · have h3 := of_decide_eq_false h3
                have hI := c2 h3
                have hle := itm_le g1 hi (by rw [hI])
                rw [hI] at hle
                have hle : 1 ≤ n.toNat ∧ i + (n.toNat : Int) ≤ s.size := hle
                have hnn : (n.toNat : Int) = n := Int.toNat_of_nonneg c0
                rw [hnn] at hle
                have e7 : rErr s = errT (rtA s (Lx.after st k ((tl s i).take n.toNat)) false (i + n)) := by
                  rw [g7, if_neg (by rw [hI]; simp), errT, if_neg (by simp), hI]
                  simp only
                  rw [hnn]
                have e8 : rErr s = 0 → rToks s = (T ++ [(⟨k, sub s i (i + n), i, i + n, sp⟩ : Tok)]) ++ (rtA s (Lx.after st k ((tl s i).take n.toNat)) false (i + n)).map (tokT s) := by
                  intro h0
                  rw [g8 h0, if_neg (by rw [hI]; simp), List.map_cons, hI, List.append_assoc]
                  simp only [tokT, List.cons_append, List.nil_append]
                  rw [hnn, show ((i.toNat : Nat) : Int) = i by omega, show ((i.toNat + n.toNat : Nat) : Int) = i + n by omega]
                have hkd : (itm s st i).kind = k := by rw [hI]
                have hln : (itm s st i).len = n.toNat := by rw [hI]
                clear g7 g8 hnil c1 c2
                refine x_seq ?_
                refine x_vc tt_ok ?_
                repeat (refine And.intro ?_ ?_; first | omega | (simp only [Lay.d_n]; omega) | (simp only [decide_eq_true_eq, decide_eq_false_iff_not, Bool.or_eq_false_iff, Bool.and_eq_true, Bool.or_eq_true, Bool.and_eq_false_iff, Bool.not_eq_true', Bool.not_eq_false', Lay.d_n]; omega) | (simp only [decide_eq_true_eq, decide_eq_false_iff_not, Bool.or_eq_false_iff, Bool.and_eq_true, Bool.or_eq_true, Bool.and_eq_false_iff, Bool.not_eq_true', Bool.not_eq_false']; omega))
                refine xl_push tt_ok tokY T ⟨k, sub s i (i + n), i, i + n, sp⟩ 48 rfl rfl rfl rfl rfl rfl rfl rfl rfl rfl rfl rfl (by kernel_rfl) rfl rfl rfl rfl rfl (fun n hn => by cases hn; decide) rfl rfl rfl (by omega) (by omega) ?_
                refine xl_go tt_ok ?_
                have hT' : ((T ++ [(⟨k, sub s i (i + n), i, i + n, sp⟩ : Tok)]).length : Int) ≤ i + n := by
                  rw [List.length_append]; simp only [List.length_cons, List.length_nil]; omega
                refine x_vc tt_ok ?_
                refine x_if (fun h4 => ?_) (fun h4 => ?_)
                · have h4 := of_decide_eq_true h4
                  repeat (refine And.intro ?_ ?_; first | omega | (simp only [Lay.d_n]; omega) | (simp only [decide_eq_true_eq, decide_eq_false_iff_not, Bool.or_eq_false_iff, Bool.and_eq_true, Bool.or_eq_true, Bool.and_eq_false_iff, Bool.not_eq_true', Bool.not_eq_false', Lay.d_n]; omega) | (simp only [decide_eq_true_eq, decide_eq_false_iff_not, Bool.or_eq_false_iff, Bool.and_eq_true, Bool.or_eq_true, Bool.and_eq_false_iff, Bool.not_eq_true', Bool.not_eq_false']; omega))
                  have ha : Lx.after st k ((tl s i).take n.toNat) = 0 := by
                    unfold Lx.after; rw [if_neg (by omega), if_pos h4]
                  rw [ha] at e7 e8
                  exact again (i + n, false, T ++ [(⟨k, sub s i (i + n), i, i + n, sp⟩ : Tok)], false, [], 0) [(1, some 4)] (.of rfl rfl rfl rfl rfl rfl) ⟨by omega, by omega, hT', by simp; omega, (fun _ => rfl), rfl, e7, e8⟩ (by simp only; omega)
                · have h4 := of_decide_eq_false h4
                  refine x_if (fun h5 => ?_) (fun h5 => ?_)
                  · have h5 := of_decide_eq_true h5
                    have hR := g6.step g1 hi h (by rw [hI]) (by rw [hkd]; exact h5) (by rw [hkd]; exact h4)
                    rw [hkd, hln, hnn] at hR
                    repeat (refine And.intro ?_ ?_; first | omega | (simp only [Lay.d_n]; omega) | (simp only [decide_eq_true_eq, decide_eq_false_iff_not, Bool.or_eq_false_iff, Bool.and_eq_true, Bool.or_eq_true, Bool.and_eq_false_iff, Bool.not_eq_true', Bool.not_eq_false', Lay.d_n]; omega) | (simp only [decide_eq_true_eq, decide_eq_false_iff_not, Bool.or_eq_false_iff, Bool.and_eq_true, Bool.or_eq_true, Bool.and_eq_false_iff, Bool.not_eq_true', Bool.not_eq_false']; omega))
                    refine xl_push tt_ok strY W (sub s i (i + n)) 16 rfl rfl rfl rfl rfl rfl rfl rfl rfl rfl rfl rfl (by kernel_rfl) rfl rfl rfl rfl rfl (fun n hn => by cases hn; decide) rfl rfl rfl (by omega) (by omega) ?_
                    refine xl_go tt_ok ?_
                    repeat (refine And.intro ?_ ?_; first | omega | (simp only [Lay.d_n]; omega) | (simp only [decide_eq_true_eq, decide_eq_false_iff_not, Bool.or_eq_false_iff, Bool.and_eq_true, Bool.or_eq_true, Bool.and_eq_false_iff, Bool.not_eq_true', Bool.not_eq_false', Lay.d_n]; omega) | (simp only [decide_eq_true_eq, decide_eq_false_iff_not, Bool.or_eq_false_iff, Bool.and_eq_true, Bool.or_eq_true, Bool.and_eq_false_iff, Bool.not_eq_true', Bool.not_eq_false']; omega))
                    exact again (i + n, false, T ++ [(⟨k, sub s i (i + n), i, i + n, sp⟩ : Tok)], true, W ++ [sub s i (i + n)], Lx.after st k ((tl s i).take n.toNat)) [(1, some 4), (2, some 5)] (.of rfl rfl rfl rfl rfl rfl)
                      ⟨by omega, by omega, hT', by rw [List.length_append]; simp only [List.length_cons, List.length_nil]; omega, (fun h => by cases h), hR, e7, e8⟩ (by simp only; omega)
                  · have h5 : k = 8 := Classical.not_not.1 (of_decide_eq_false h5)
                    repeat (refine And.intro ?_ ?_; first | omega | (simp only [Lay.d_n]; omega) | (simp only [decide_eq_true_eq, decide_eq_false_iff_not, Bool.or_eq_false_iff, Bool.and_eq_true, Bool.or_eq_true, Bool.and_eq_false_iff, Bool.not_eq_true', Bool.not_eq_false', Lay.d_n]; omega) | (simp only [decide_eq_true_eq, decide_eq_false_iff_not, Bool.or_eq_false_iff, Bool.and_eq_true, Bool.or_eq_true, Bool.and_eq_false_iff, Bool.not_eq_true', Bool.not_eq_false']; omega))
                    have ha : Lx.after st k ((tl s i).take n.toNat) = st := by
                      unfold Lx.after; rw [if_pos h5]
                    rw [ha] at e7 e8
                    exact again (i + n, false, T ++ [(⟨k, sub s i (i + n), i, i + n, sp⟩ : Tok)], true, W, st) [(1, some 4), (2, some 3)] (.of rfl rfl rfl rfl rfl rfl) ⟨by omega, by omega, hT', by omega, (fun h => by cases h), g6, e7, e8⟩ (by simp only; omega)
end Go.Proofs.YtnjmkeijjapejaaDoor
namespace Go.Proofs.YtnjmkeijjapejaaDoor
open Go.GV Go.RowKit
theorem sub_len {s : ByteArray} {a b : Int} (h0 : 0 ≤ a) (h1 : a ≤ b) (h2 : b ≤ s.size) : ((sub s a b).size : Int) = b - a := sub_size h0 h1 h2
theorem sub_all (s : ByteArray) : sub s 0 s.size = s := bl_inj (wholeS s)
def oneC (s : ByteArray) : Bool := (decide (rErr s ≠ 0) || decide (((rToks s).length : Int) ≠ 1)) || decide (((rToks s).getD 0 tok0).text ≠ s)
theorem refOne_eq (s : ByteArray) : oneP s = if oneC s = true then (0, false) else (((rToks s).getD 0 tok0).kind, true) := by
  have hf := rtA_fst s
  have hm : ∀ t ∈ itsOf s, _ := fun t ht => its_mem ht
  unfold oneP oneC rToks rErr
  have hits : Lx.itemsL (bl s) = itsOf s := rfl
  unfold Lx.oneL
  rw [hits, ← hf]
  rw [← hf] at hm
  match rtA s 0 false 0, hm with
  | [], _ => simp [errT]
  | [p], hm =>
    have hm := hm p.1 (by simp)
    by_cases he : p.1.err = 0
    · rcases hm with hm | ⟨_, h1, h2⟩
      · exact absurd he hm
      · have hs := sub_len (s := s) (a := p.1.lo) (b := p.1.hi) (by omega) (by omega) (by omega)
        simp only [List.map_cons, List.map_nil, errT, he, ne_eq, not_true_eq_false, if_false, if_true, true_and, List.getD_cons_zero, tokT, List.length_cons, List.length_nil, bl_len]
        by_cases h3 : p.1.hi - p.1.lo = s.size
        · have h4 : p.1.lo = 0 := by omega
          have h5 : p.1.hi = s.size := by omega
          have h6 : sub s p.1.lo p.1.hi = s := by rw [h4, h5]; exact sub_all s
          rw [if_pos h3, h6]
          simp
        · have h6 : ¬ sub s p.1.lo p.1.hi = s := fun h => by rw [h] at hs; omega
          rw [if_neg h3]
          simp [h6]
    · simp [errT, he]
  | p :: q :: r, _ =>
    simp only [List.map_cons]
    by_cases he : errT (p :: q :: r) = 0
    · rw [if_pos he]
      simp; omega
    · simp [he]
set_option maxRecDepth 100000 in
theorem refOne_any (s : ByteArray) (hz : s.size ≤ 4294967280) (w : World) :
    Calls Tryd.prog 43 #[.string s] w (PureP w fun v _ => v = .tuple #[.int .i64 (oneP s).1, .bool (oneP s).2]) := by
  have hE := refOne_eq s
  generalize oneP s = N at hE ⊢
  refine x_fun tt_ok Tryd.func43 rfl rfl [] 0 [.v (.string s)] rfl rfl rfl rfl (fun b hb => by cases hb) ?_
  refine x_vc tt_ok ?_
  refine xl_callO2 105 (tokY.d (rToks s)) [.int .i64 (rErr s)] rfl rfl rfl rfl fn65 rfl rfl (fun E w F hs => refTokens_any s hz w) ?_
  refine xl_go tt_ok ?_
  repeat (refine And.intro ?_ ?_; first | omega | (simp only [Lay.d_n]; omega) | (simp only [decide_eq_true_eq, decide_eq_false_iff_not, Bool.or_eq_false_iff, Bool.and_eq_true, Bool.or_eq_true, Bool.and_eq_false_iff, Bool.not_eq_true', Bool.not_eq_false', Lay.d_n]; omega) | (simp only [decide_eq_true_eq, decide_eq_false_iff_not, Bool.or_eq_false_iff, Bool.and_eq_true, Bool.or_eq_true, Bool.and_eq_false_iff, Bool.not_eq_true', Bool.not_eq_false']; omega))
  refine x_if (fun h => ?_) (fun h => ?_)
  · have h' : oneC s = true := h
    rw [if_pos h'] at hE
    rw [hE]
    exact fin1 (fun _ _ => rfl)
  · have h' : oneC s = false := h
    rw [if_neg (by rw [h']; simp)] at hE
    have hl : (rToks s).length = 1 := by
      unfold oneC at h'
      have := (Bool.or_eq_false_iff.1 (Bool.or_eq_false_iff.1 h').1).2
      have := Classical.not_not.1 (of_decide_eq_false this)
      omega
    repeat (refine And.intro ?_ ?_; first | omega | (simp only [Lay.d_n]; omega) | (simp only [decide_eq_true_eq, decide_eq_false_iff_not, Bool.or_eq_false_iff, Bool.and_eq_true, Bool.or_eq_true, Bool.and_eq_false_iff, Bool.not_eq_true', Bool.not_eq_false', Lay.d_n]; omega) | (simp only [decide_eq_true_eq, decide_eq_false_iff_not, Bool.or_eq_false_iff, Bool.and_eq_true, Bool.or_eq_true, Bool.and_eq_false_iff, Bool.not_eq_true', Bool.not_eq_false']; omega))
    rw [hE]
    exact fin1 (fun _ _ => rfl)
end Go.Proofs.YtnjmkeijjapejaaDoor
namespace Go.Proofs.YtnjmkeijjapejaaDoor
open Go.GV Go.RowKit
def dblockB (s : ByteArray) : Bool := (((oneP s).2 && decide ((oneP s).1 = 8)) && decide ((3 : Int) < s.size)) && decide (bt s 1 = 42)
theorem bt_two {s : ByteArray} (h : 2 ≤ s.size) : (bl s).take 2 = [bt s 0, bt s 1] := by
  have h0 := bl_get s (n := 0) (by omega)
  have h1 := bl_get s (n := 1) (by omega)
  rw [take_get h1, take_get h0]
  rfl
theorem litQ_kind (l : Lx.Bs) : (Lx.litQ l).1 ≠ 8 := by
  unfold Lx.litQ
  repeat' split
  all_goals first | decide | simp | omega
theorem best_ne (l : Lx.Bs) : (Lx.bestL l).1 ≠ 8 := by
  unfold Lx.bestL
  split
  · exact litQ_kind l
  · repeat' split
    all_goals simp
theorem dblockB_eq (s : ByteArray) : dblockB s = blockP s := by
  rw [Bool.eq_iff_iff]
  constructor
  · intro h
    simp only [dblockB, Bool.and_eq_true, decide_eq_true_eq] at h
    obtain ⟨⟨⟨h1, h2⟩, h3⟩, h4⟩ := h
    have hL := oneP_some h1
    rw [h2, Lx.oneL_iff] at hL
    obtain ⟨c, r, hcr, _, hi⟩ := hL
    have ht := bt_two (s := s) (by omega)
    have ho : Lx.isOpen (bl s) = true := by
      cases ho : Lx.isOpen (bl s) with
      | true => rfl
      | false =>
        exfalso
        unfold Lx.itemP at hi
        rw [if_neg (by simp), if_neg (by rw [ho]; decide)] at hi
        split at hi
        · rename_i hl
          unfold Lx.isLine at hl
          have hl := of_decide_eq_true hl
          rw [ht] at hl
          simp only [List.cons.injEq] at hl
          omega
        · have hk := congrArg Lx.Item.kind hi
          have hb := hi
          split at hk
          · simp at hk
          · split at hk
            · have hkk : (Lx.bestL (bl s)).1 = 8 := hk
              exact absurd hkk (best_ne _)
            · split at hk <;> simp at hk
    unfold Lx.isOpen at ho
    have ho := of_decide_eq_true ho
    simp only [blockP, Bool.and_eq_true, decide_eq_true_eq]
    refine ⟨?_, h1, h2⟩
    rw [hasP_bl]
    exact decide_eq_true ho
  · intro h
    obtain ⟨h1, h2, h3⟩ := blockP_form h
    simp only [blockP, Bool.and_eq_true, decide_eq_true_eq] at h
    have ht := bt_two (s := s) (by omega)
    rw [h1] at ht
    simp only [List.cons.injEq, and_true] at ht
    simp only [dblockB, Bool.and_eq_true, decide_eq_true_eq]
    exact ⟨⟨⟨h.2.1, h.2.2⟩, by omega⟩, ht.2.symm⟩
set_option maxRecDepth 100000 in
theorem dkept_any (s : ByteArray) (w : World) (hb : blockP s = true) (hz : s.size ≤ 4611686018427387904) : Calls Tryd.prog 21 #[.string s] w (PureP w fun v _ => v = .bool (keptB (insP s).1)) := by
  obtain ⟨h1, h2, h3⟩ := blockP_form hb
  have e : keptB (insP s).1 = (decide ((4 : Int) < s.size) && ((decide (bt s 2 = 42) || decide (bt s 2 = 33)) || decide (bt s 2 = 45))) := by
    rw [insP, if_pos hb]
    show keptB (sub s 2 (s.size - 2)) = _
    have hsz : ((sub s 2 (s.size - 2)).size : Int) = s.size - 2 - 2 := sub_size (by omega) (by omega) (by omega)
    by_cases h4 : (4 : Int) < s.size
    · have hne : sub s 2 (s.size - 2) ≠ ⟨#[]⟩ := fun hh => by have e0 : (⟨#[]⟩ : ByteArray).size = 0 := rfl; rw [hh] at hsz; omega
      have hb0 : bt (sub s 2 (s.size - 2)) 0 = bt s 2 := by
        have g1 := bl_get (sub s 2 (s.size - 2)) (n := 0) (by omega)
        rw [bl_sub s (by omega) (by omega) (by omega), List.getElem?_take_of_lt (by omega)] at g1
        unfold tl at g1
        rw [List.getElem?_drop, bl_get s (by omega)] at g1
        exact (Option.some.inj g1).symm
      unfold keptB
      rw [decide_eq_true hne, decide_eq_true h4, hb0]
    · have hem : sub s 2 (s.size - 2) = ⟨#[]⟩ := by
        refine bl_inj ?_
        exact (List.eq_nil_of_length_eq_zero (by rw [bl_len]; omega)).trans rfl
      rw [hem, decide_eq_false h4]
      rfl
  rw [e]
  refine x_fun tt_ok Tryd.func21 rfl rfl [] 0 [.v (.string s)] rfl rfl rfl rfl (fun b hb => by cases hb) ?_
  refine x_vc tt_ok ?_
  repeat (refine And.intro ?_ ?_; first | omega | (simp only [Lay.d_n]; omega) | (simp only [decide_eq_true_eq, decide_eq_false_iff_not, Bool.or_eq_false_iff, Bool.and_eq_true, Bool.or_eq_true, Bool.and_eq_false_iff, Bool.not_eq_true', Bool.not_eq_false', Lay.d_n]; omega) | (simp only [decide_eq_true_eq, decide_eq_false_iff_not, Bool.or_eq_false_iff, Bool.and_eq_true, Bool.or_eq_true, Bool.and_eq_false_iff, Bool.not_eq_true', Bool.not_eq_false']; omega) | (simp only [decide_eq_true_eq, decide_eq_false_iff_not, Bool.or_eq_false_iff]; simp only [Lay.d_n]; omega))
  exact fin1 (fun _ _ => rfl)
set_option maxRecDepth 100000 in
theorem words_good (s : ByteArray) (w : World) (hg : Glob (im w)) (hS : SmallP s) (h : (insP s).2 = true) :
    Calls Tryd.prog 16 #[.string s] w (PureP w (StarR (fun t : Option Addr × Nat × List SlV => .tuple #[.slice t.1 (parP (insP s).1).length t.2.1, .int .i64 0]) (fun t => itemsP t.2.2 (parP (insP s).1) ++ [(⟨.slice t.1 (parP (insP s).1).length t.2.1, 23, slY.d t.2.2⟩ : SI)]) (fun t => t.2.2.length = (parP (insP s).1).length))) := by
  refine x_fun tt_ok Tryd.func16 rfl rfl [] 0 [.v (.string s)] rfl rfl rfl rfl (fun b hb => by cases hb) ?_
  refine x_vc tt_ok ?_
  refine xl_call0 (.tuple #[.string (insP s).1, .bool (insP s).2]) rfl rfl rfl rfl fn34 rfl rfl (fun E w F hs => inside_any s hS.size w (hg.imm hs.imm)) ?_
  refine xl_go tt_ok ?_
  refine x_iff (by show (!(insP s).2) = false; rw [h]; rfl) ?_
  refine xl_callStar (σ := Option Addr × Nat × List SlV) (fun t => .slice t.1 (parP (insP s).1).length t.2.1) (fun t => itemsP t.2.2 (parP (insP s).1) ++ [(⟨.slice t.1 (parP (insP s).1).length t.2.1, 23, slY.d t.2.2⟩ : SI)]) (fun t => t.2.2.length = (parP (insP s).1).length) rfl rfl rfl rfl fn37 rfl rfl (fun E w F hs' => paragraphs_any (insP s).1 w (hg.imm hs'.imm) hS.isize hS.tot hS.lin) (fun t ht => ?_)
  refine xl_go tt_ok ?_
  exact finStar (k := 0) t rfl (fun _ => rfl) ht
set_option maxRecDepth 100000 in
theorem dblock_any (s : ByteArray) (w : World) (hz : s.size ≤ 4294967280) : Calls Tryd.prog 19 #[.string s] w (PureP w fun v _ => v = .bool (blockP s)) := by
  rw [← dblockB_eq]
  refine x_fun tt_ok Tryd.func19 rfl rfl [] 0 [.v (.string s)] rfl rfl rfl rfl (fun b hb => by cases hb) ?_
  refine x_vc tt_ok ?_
  refine xl_call0 (.tuple #[.int .i64 (oneP s).1, .bool (oneP s).2]) rfl rfl rfl rfl fn43 rfl rfl (fun E w F hs => refOne_any s hz w) ?_
  refine xl_go tt_ok ?_
  repeat (refine And.intro ?_ ?_; first | omega | (simp only [Lay.d_n]; omega) | (simp only [decide_eq_true_eq, decide_eq_false_iff_not, Bool.or_eq_false_iff, Bool.and_eq_true, Bool.or_eq_true, Bool.and_eq_false_iff, Bool.not_eq_true', Bool.not_eq_false', Lay.d_n]; omega) | (simp only [decide_eq_true_eq, decide_eq_false_iff_not, Bool.or_eq_false_iff, Bool.and_eq_true, Bool.or_eq_true, Bool.and_eq_false_iff, Bool.not_eq_true', Bool.not_eq_false']; omega) | (simp only [decide_eq_true_eq, decide_eq_false_iff_not, Bool.or_eq_false_iff]; simp only [Lay.d_n]; omega))
  exact fin1 (fun _ _ => rfl)
end Go.Proofs.YtnjmkeijjapejaaDoor
namespace Go.Proofs.YtnjmkeijjapejaaDoor
open Go.GV Go.RowKit
def docStep (st : Par × List ByteArray) (ws : List ByteArray) : Par × List ByteArray :=
  ((if ws = [] ∧ st.2 ≠ [] then st.1 ++ [st.2] else st.1), (if ws = [] ∧ st.2 ≠ [] then [] else st.2) ++ ws)
def docEnd (st : Par × List ByteArray) : Par := if st.2 = [] then st.1 else st.1 ++ [st.2]
theorem addW_last (R : Par) (now : List ByteArray) (y : ByteArray) : addW (R ++ [now], true) y = (R ++ [now ++ [y]], true) := by
  unfold addW opn
  simp only [if_true, List.length_append, List.length_singleton, Nat.add_sub_cancel, Prod.mk.injEq, and_true]
  rw [List.getD_eq_getElem?_getD, List.getElem?_append_right (Nat.le_refl _), Nat.sub_self]
  rw [List.set_append_right _ _ (Nat.le_refl _), Nat.sub_self]
  rfl
theorem addW_new (R : Par) (y : ByteArray) : addW (R, false) y = (R ++ [[y]], true) := by
  have := addW_last R [] y
  unfold addW opn at this ⊢
  simp
theorem foldW_last : ∀ (ws : List ByteArray) (R : Par) (now : List ByteArray), ws.foldl addW (R ++ [now], true) = (R ++ [now ++ ws], true)
  | [], R, now => by simp
  | y :: r, R, now => by
    rw [List.foldl_cons, addW_last, foldW_last r R (now ++ [y]), List.append_assoc]; rfl
theorem docStep_ok (out : Par) (now ws : List ByteArray) : parLine (docEnd (out, now), decide (now ≠ [])) ws = (docEnd (docStep (out, now) ws), decide ((docStep (out, now) ws).2 ≠ [])) := by
  unfold parLine docStep docEnd
  by_cases hw : ws = []
  · subst hw
    by_cases hn : now = []
    · subst hn; simp
    · simp [hn]
  · rw [if_neg hw]
    by_cases hn : now = []
    · subst hn
      cases ws with
      | nil => exact absurd rfl hw
      | cons y r =>
        have h1 := foldW_last r out [y]
        simp only [ne_eq, not_true, and_false, if_false, if_true, decide_false, List.nil_append, reduceCtorEq, not_false_eq_true, decide_true]
        rw [List.foldl_cons, addW_new, h1]
        rfl
    · have h1 := foldW_last ws out now
      simp [hn, hw, h1]
theorem docFold_ok : ∀ (L : List (List ByteArray)) (st : Par × List ByteArray), L.foldl parLine (docEnd st, decide (st.2 ≠ [])) = (docEnd (L.foldl docStep st), decide ((L.foldl docStep st).2 ≠ []))
  | [], _ => rfl
  | ws :: L, (out, now) => by
    rw [List.foldl_cons, docStep_ok, docFold_ok L (docStep (out, now) ws)]; rfl
theorem parP_doc (s : ByteArray) : parP s = docEnd ((wsOf s).foldl docStep ([], [])) := by
  have := docFold_ok (wsOf s) ([], [])
  unfold parP
  have e : (docEnd (([], []) : Par × List ByteArray), decide ((([], []) : Par × List ByteArray).2 ≠ [])) = (([], false) : Par × Bool) := rfl
  rw [e] at this
  rw [this]
def leadN (s : ByteArray) (pos : Nat) : Nat := pos + (((bl s).drop pos).takeWhile whB).length
theorem leadN_step {s : ByteArray} {pos : Nat} (h : pos < s.size) : leadN s pos = if whB (bt s pos) then leadN s (pos + 1) else pos := by
  unfold leadN
  rw [drop_get (bl_get s h), List.takeWhile_cons]
  split
  · simp only [List.length_cons]; omega
  · rfl
theorem leadN_end {s : ByteArray} {pos : Nat} (h : s.size ≤ pos) : leadN s pos = pos := by
  unfold leadN
  rw [List.drop_of_length_le (by rw [bl_len]; exact h)]; rfl
theorem idx_white (s : ByteArray) : ∀ (f pos : Nat), s.size ≤ pos + f → pos ≤ s.size → Lib.idxFuncFrom (fun c : Nat => whB (c : Int)) false s f pos = if leadN s pos = s.size then -1 else (leadN s pos : Int)
  | 0, pos, h, hp => by
    have e : pos = s.size := by omega
    subst e
    rw [leadN_end (Nat.le_refl _), if_pos rfl]; rfl
  | f + 1, pos, h, hp => by
    unfold Lib.idxFuncFrom
    by_cases hps : pos < s.size
    · obtain ⟨d1, d2, d3, d4, _⟩ := dec_spec s hps
      rw [if_pos hps, leadN_step hps]
      cases hw : whB ((Utf8.decode s pos).1 : Int) with
      | true =>
        obtain ⟨e1, e2⟩ := d3 hw
        rw [e2, hw, e1, if_neg (by decide), idx_white s f (pos + 1) (by omega) (by omega)]
        rfl
      | false =>
        have h0 := d4 hw pos (Nat.le_refl _) (by omega)
        rw [h0]
        simp only [if_true, Bool.false_eq_true, if_false]
        rw [if_neg (by omega)]
    · rw [if_neg hps, leadN_end (by omega), if_pos (by omega)]
theorem trimP_eq (s : ByteArray) : trimP s = sub s (leadN s 0) s.size := by
  have h1 := idx_white s s.size 0 (by omega) (Nat.zero_le _)
  have hle : leadN s 0 ≤ s.size := by
    unfold leadN
    have := (List.takeWhile_sublist whB (l := (bl s).drop 0)).length_le
    rw [List.length_drop, bl_len] at this
    omega
  unfold trimP Lib.trimLeftF Lib.idxFunc
  rw [h1]
  by_cases he : leadN s 0 = s.size
  · rw [if_pos he, if_pos rfl, he]
    refine bl_inj ?_
    symm
    exact (List.eq_nil_of_length_eq_zero (by rw [bl_len]; have := sub_size (s := s) (a := s.size) (b := s.size) (by omega) (Int.le_refl _) (Int.le_refl _); omega)).trans rfl
  · rw [if_neg he, if_neg (by omega)]
    unfold sub
    congr 1
end Go.Proofs.YtnjmkeijjapejaaDoor
namespace Go.Proofs.YtnjmkeijjapejaaDoor
open Go.GV Go.RowKit
def preH (p : List UInt8) : List (List UInt8) → List (List UInt8)
  | [] => [p]
  | h :: t => (p ++ h) :: t
def pcsU : List UInt8 → List (List UInt8)
  | [] => [[]]
  | b :: l => if b = 10 then [] :: pcsU l else preH [b] (pcsU l)
theorem index_cons (b : UInt8) (l : List UInt8) : Lib.index (b :: l) [10] = if b = 10 then 0 else if Lib.index l [10] = -1 then -1 else Lib.index l [10] + 1 := by
  rw [show Lib.index (b :: l) [10] = (if [10].isPrefixOf (b :: l) = true then 0 else if (Lib.index l [10] == -1) = true then -1 else Lib.index l [10] + 1) from rfl]
  by_cases hb : b = 10
  · subst hb; simp
  · rw [if_neg hb, if_neg (by simp [Ne.symm hb])]
    by_cases h : Lib.index l [10] = -1
    · simp [h]
    · rw [if_neg (by simpa using h), if_neg h]
theorem splitK_succ (k : Nat) (s : List UInt8) : Lib.splitK [10] 0 (k + 1) s = if (Lib.index s [10] == -1) = true then [s] else s.take ((Lib.index s [10]).toNat + 0) :: Lib.splitK [10] 0 k (s.drop ((Lib.index s [10]).toNat + 1)) := rfl
theorem splitK_ne {b : UInt8} (hb : b ≠ 10) : ∀ (k : Nat) (l : List UInt8), Lib.splitK [10] 0 k (b :: l) = preH [b] (Lib.splitK [10] 0 k l)
  | 0, l => rfl
  | k + 1, l => by
    rw [splitK_succ, splitK_succ, index_cons, if_neg hb]
    by_cases h : Lib.index l [10] = -1
    · simp [h, preH]
    · have hge := Lib.index_ge l [10]
      obtain ⟨i, hi⟩ : ∃ i : Nat, Lib.index l [10] = i := ⟨(Lib.index l [10]).toNat, by omega⟩
      rw [if_neg h, hi]
      have e1 : ¬ (((i : Int) + 1 == -1) = true) := by rw [beq_iff_eq]; omega
      have e2 : ¬ (((i : Int) == -1) = true) := by rw [beq_iff_eq]; omega
      rw [if_neg e1, if_neg e2]
      have e3 : ((i : Int) + 1).toNat = i + 1 := by omega
      have e4 : ((i : Int)).toNat = i := by omega
      rw [e3, e4]
      simp [preH]
theorem splitK_nl (k : Nat) (l : List UInt8) : Lib.splitK [10] 0 (k + 1) (10 :: l) = [] :: Lib.splitK [10] 0 k l := by
  rw [splitK_succ, index_cons, if_pos rfl]
  simp
theorem split_pcs : ∀ l : List UInt8, Lib.splitK [10] 0 (Lib.count l [10]) l = pcsU l
  | [] => rfl
  | b :: l => by
    unfold pcsU
    by_cases hb : b = 10
    · subst hb
      rw [Lib.count_cons_eq, Nat.add_comm, splitK_nl, split_pcs l, if_pos rfl]
    · rw [Lib.count_cons_ne b 10 l hb, splitK_ne hb, split_pcs l, if_neg hb]
theorem pcsU_ne : ∀ l, pcsU l ≠ []
  | [] => by simp [pcsU]
  | b :: l => by
    unfold pcsU
    split
    · simp
    · unfold preH; split <;> simp
theorem preH_preH (p : List UInt8) (b : UInt8) (L : List (List UInt8)) (h : L ≠ []) : preH p (preH [b] L) = preH (p ++ [b]) L := by
  cases L with
  | nil => exact absurd rfl h
  | cons x t => simp [preH]
theorem sub_data (s : ByteArray) (a b : Nat) : (sub s a b).data.toList = (s.data.toList.take b).drop a := by
  unfold sub
  rw [ByteArray.data_extract, Array.toList_extract, List.extract_eq_take_drop, Int.toNat_natCast, Int.toNat_natCast, List.drop_take]
theorem byte_at (s : ByteArray) {j : Nat} (h : j < s.size) : ∃ b : UInt8, s.data.toList[j]? = some b ∧ (b = 10 ↔ bt s j = 10) := by
  have hl : s.data.toList.length = s.size := Array.length_toList
  refine ⟨s.data.toList[j]'(by omega), List.getElem?_eq_getElem (by omega), ?_⟩
  unfold bt
  rw [Int.toNat_natCast, List.getD_eq_getElem?_getD, List.getElem?_eq_getElem (by omega)]
  simp only [Option.getD_some]
  constructor
  · intro e; rw [e]; rfl
  · intro e
    exact UInt8.toNat_inj.1 (by show _ = 10; omega)
theorem dlF_pcs (s : ByteArray) : ∀ (n fr i : Nat), s.size - i = n → i ≤ s.size → fr ≤ i → (dlF s fr i ((bl s).drop i)).map (·.data.toList) = preH ((s.data.toList.take i).drop fr) (pcsU (s.data.toList.drop i))
  | 0, fr, i, hn, hi, hf => by
    have hl : s.data.toList.length = s.size := Array.length_toList
    have e : i = s.size := by omega
    subst e
    rw [List.drop_of_length_le (by rw [bl_len]; exact Nat.le_refl _), dlF, List.drop_of_length_le (l := s.data.toList) (by omega)]
    simp only [List.map_cons, List.map_nil, pcsU, preH, List.append_nil, sub_data]
  | n + 1, fr, i, hn, hi, hf => by
    have hil : i < s.size := by omega
    obtain ⟨b, hb, hbt⟩ := byte_at s hil
    rw [dlF_one s fr hil, drop_get hb, pcsU]
    by_cases h : b = 10
    · rw [if_pos (hbt.1 h), if_pos h, List.map_cons, dlF_pcs s n (i + 1) (i + 1) (by omega) (by omega) (Nat.le_refl _), sub_data]
      have e : ((s.data.toList.take (i + 1)).drop (i + 1)) = [] := List.drop_of_length_le (by rw [List.length_take]; omega)
      rw [e]
      have hne := pcsU_ne (s.data.toList.drop (i + 1))
      cases hp : pcsU (s.data.toList.drop (i + 1)) with
      | nil => exact absurd hp hne
      | cons x t => simp [preH]
    · rw [if_neg (fun e => h (hbt.2 e)), if_neg h, dlF_pcs s n fr (i + 1) (by omega) (by omega) (by omega), preH_preH _ _ _ (pcsU_ne _), take_get hb, List.drop_append_of_le_length (by
        have hl : s.data.toList.length = s.size := Array.length_toList
        rw [List.length_take]; omega)]
theorem dlines_eq (s : ByteArray) : dlinesP s = splitP s := by
  have h1 := dlF_pcs s s.size 0 0 rfl (Nat.zero_le _) (Nat.le_refl _)
  have h2 : (splitP s).map (·.data.toList) = pcsU s.data.toList := by
    unfold splitP
    rw [Lib.splitB_data]
    exact split_pcs s.data.toList
  have h3 : (dlinesP s).map (·.data.toList) = (splitP s).map (·.data.toList) := by
    rw [h2]
    unfold dlinesP
    have e : (bl s).drop 0 = bl s := rfl
    rw [e] at h1
    rw [h1]
    have hne := pcsU_ne s.data.toList
    show preH [] (pcsU s.data.toList) = _
    cases hp : pcsU s.data.toList with
    | nil => exact absurd hp hne
    | cons x t => rfl
  exact List.map_inj_right (f := fun x : ByteArray => x.data.toList) (fun x y h => ba_ext h) |>.1 h3
end Go.Proofs.YtnjmkeijjapejaaDoor
namespace Go.Proofs.YtnjmkeijjapejaaDoor
open Go.GV Go.RowKit
def manyF (lim : Int) (l : List ByteArray) : Nat → Nat → Nat
  | 0, n => n
  | f + 1, n => if n < l.length ∧ ((joinT (l.take (n + 1)) blB).size : Int) ≤ lim then manyF lim l f (n + 1) else n
def manyN (lim : Int) (l : List ByteArray) : Nat := manyF lim l l.length 1
theorem manyF_le (lim : Int) (l : List ByteArray) : ∀ (f n : Nat), n ≤ l.length → n ≤ manyF lim l f n ∧ manyF lim l f n ≤ l.length
  | 0, n, h => ⟨Nat.le_refl _, h⟩
  | f + 1, n, h => by
    unfold manyF
    split
    · rename_i h2
      have := manyF_le lim l f (n + 1) h2.1
      omega
    · exact ⟨Nat.le_refl _, h⟩
theorem fill_many (room : Int) (lead : ByteArray) (hl : lead.size = 3) (l : List ByteArray) : ∀ (f n : Nat), l.length ≤ n + f → 1 ≤ n → n ≤ l.length →
    fillF room (l.drop n) (lead.data.toList ++ (joinT (l.take n) blB).data.toList) = (lead ++ joinT (l.take (manyF (room - 3) l f n)) blB) :: fillP ltB (l.drop (manyF (room - 3) l f n)) room := by
  have hls : lead.data.toList.length = 3 := by rw [← hl]; exact Array.length_toList
  have row : ∀ L : List ByteArray, (⟨(lead.data.toList ++ (joinT L blB).data.toList).toArray⟩ : ByteArray) = lead ++ joinT L blB := fun L => ba_ext (by rw [ByteArray.data_append, Array.toList_append])
  intro f
  induction f with
  | zero =>
    intro n h1 h2 h3
    have e : n = l.length := by omega
    subst e
    rw [List.drop_length, fillF, manyF, List.drop_length, row]
    rfl
  | succ f ih =>
    intro n h1 h2 h3
    by_cases hn : n < l.length
    · obtain ⟨y, hy⟩ : ∃ y, l[n]? = some y := ⟨_, List.getElem?_eq_getElem hn⟩
      have hne : l.take n ≠ [] := fun hh => by
        have e0 : (l.take n).length = 0 := congrArg List.length hh
        rw [List.length_take] at e0
        omega
      have hs := joinT_snoc (l.take n) y hne
      rw [← take_get hy] at hs
      have hsz : (joinT (l.take (n + 1)) blB).size = (joinT (l.take n) blB).size + 1 + y.size := by rw [hs, ByteArray.size_append, ByteArray.size_append]; rfl
      have hlen : (lead.data.toList ++ (joinT (l.take n) blB).data.toList).length = 3 + (joinT (l.take n) blB).size := by
        rw [List.length_append, hls]
        congr 1
      rw [drop_get hy, fillF, manyF]
      by_cases hfit : ((joinT (l.take (n + 1)) blB).size : Int) ≤ room - 3
      · rw [if_pos (by rw [hlen]; omega), if_pos ⟨hn, hfit⟩]
        have e : lead.data.toList ++ (joinT (l.take n) blB).data.toList ++ 32 :: y.data.toList = lead.data.toList ++ (joinT (l.take (n + 1)) blB).data.toList := by
          rw [hs, ByteArray.data_append, ByteArray.data_append, Array.toList_append, Array.toList_append]
          simp [blB, List.append_assoc]
        rw [e]
        exact ih (n + 1) (by omega) (by omega) (by omega)
      · rw [if_neg (by rw [hlen]; omega), if_neg (fun hh => hfit hh.2), row, drop_get hy]
        rfl
    · have e : n = l.length := by omega
      subst e
      rw [List.drop_length, fillF, manyF, if_neg (fun hh => hn hh.1), List.drop_length, row]
      rfl
theorem fillP_many (room : Int) (lead : ByteArray) (hl : lead.size = 3) {l : List ByteArray} (hne : l ≠ []) :
    fillP lead l room = (lead ++ joinT (l.take (manyN (room - 3) l)) blB) :: fillP ltB (l.drop (manyN (room - 3) l)) room := by
  cases l with
  | nil => exact absurd rfl hne
  | cons y r =>
    have := fill_many room lead hl (y :: r) (y :: r).length 1 (by omega) (Nat.le_refl _) (by simp)
    rw [show (y :: r).drop 1 = r from rfl, show (y :: r).take 1 = [y] from rfl, joinT_one] at this
    exact this
theorem manyN_pos (lim : Int) {l : List ByteArray} (hne : l ≠ []) : 1 ≤ manyN lim l ∧ manyN lim l ≤ l.length := manyF_le lim l l.length 1 (List.length_pos_iff.2 hne)
end Go.Proofs.YtnjmkeijjapejaaDoor
namespace Go.GV
open Go.RowKit
theorem xl_gtoE {T : TT} {C : Cx} (hT : TOk C.P T) {all : List Oper} {o : Oper} {r : List Oper} {Q : Post} {st : St} {u : Im} {g : Gd}
    {t e d n c : Nat} {A : Option Addr} {sv hv : Operand} {ti te : TI} {kh : IntKind} {h : Int} (ho : o.op = .slice t sv none (some hv) none) (hg : guardOf all st o = some g) (hd : o.dst = some d)
    (hti : look T t = some ti) (hsh : ti.shp = .slice e) (hte : look T e = some te)
    (hs : opd st g sv = some (.v (.slice A n c))) (hhh : opd st g hv = some (.v (.int kh h))) (hf : fresh C.N st d g = true)
    (hb : allL (gprops st g) → 0 ≤ h ∧ h ≤ c) (K : XL C all r Q (st.put d g (.v (partV te.sz A c 0 h.toNat))) u) : XL C all (o :: r) Q st u := by
  refine xl_gval (partV te.sz A c 0 h.toNat) hg hd (fun c hc => by rw [ho] at hc; cases hc) hf (fun hp E a w hok hgs => ?_) K
  obtain ⟨h0, h2⟩ := hb hp
  have hu := (hT _ _ hti).isSlice hsh
  have hel : C.P.elem t = e := by simp [Program.elem, hu]
  have htek := hT _ _ hte
  obtain ⟨es, _⟩ := opd_sound hok.agr hgs hs
  obtain ⟨eh, _⟩ := opd_sound hok.agr hgs hhh
  simp only [SV.den] at es eh
  have := run_slice_h (P := C.P) w t A n c (by rw [hel]; exact hu) kh h h0 h2
  simp only [execOp, ho, Option.map_none, Option.map_some, es, eh]
  rw [Sem.run_bind, run_sliceAt_slice w t _ _ _ _ (by rw [hel]; exact hu), this, hel, run_sizeOf w htek]
  simp [Result.andThen, sliced, partV]
  try (cases A <;> simp)
end Go.GV
namespace Go.Proofs.YtnjmkeijjapejaaDoor
open Go.GV Go.RowKit
theorem bySum_take : ∀ (p : List ByteArray) (i : Nat), bySum (p.take i) ≤ bySum p
  | [], i => by simp
  | y :: r, 0 => Nat.zero_le _
  | y :: r, i + 1 => by
    have e1 : bySum ((y :: r).take (i + 1)) = y.size + 4 + bySum (r.take i) := rfl
    have e2 : bySum (y :: r) = y.size + 4 + bySum r := rfl
    have := bySum_take r i
    omega
theorem bySum_len : ∀ l : List ByteArray, l.length ≤ bySum l
  | [] => Nat.le_refl _
  | y :: l => by
    have := bySum_len l
    have e2 : bySum (y :: l) = y.size + 4 + bySum l := rfl
    simp only [List.length_cons]; omega
set_option maxRecDepth 100000 in
theorem many_any (p : List ByteArray) (x : Value) (ind col : Int) (w : World) (hx : SlAt (im w) x (strY.d p)) (hp : bySum p ≤ 1000000000000) (hi : 0 ≤ ind ∧ ind ≤ 256) (hne : p ≠ []) :
    Calls Tryd.prog 42 #[x, .int .i64 ind, .int .i64 col] w (PureP w fun v _ => v = .int .i64 (manyN (col - ind - 3) p)) := by
  obtain ⟨A, c, rfl, hnc, hcm, _⟩ := id hx
  have hpl : (strY.d p).n = p.length := rfl
  rw [hpl] at hx hnc ⊢
  have hlen := bySum_len p
  have hpos := List.length_pos_iff.2 hne
  refine x_fun tt_ok Tryd.func42 rfl rfl [] 0 [.v (.slice A p.length c), .v (.int .i64 ind), .v (.int .i64 col)] rfl rfl rfl rfl (fun b hb => by cases hb) ?_
  refine x_vc tt_ok ?_
  refine x_loop (σ := Nat) (fun n => ⟨[(7, .v (.int .i64 (n : Int))), (0, .v (.slice A p.length c)), (1, .v (.int .i64 ind)), (2, .v (.int .i64 col))], [], [], 0⟩)
    (fun n u => 1 ≤ n ∧ n ≤ p.length ∧ (∃ f, p.length ≤ n + f ∧ manyN (col - ind - 3) p = manyF (col - ind - 3) p f n)) (fun n => p.length - n) (fun _ => Nat.le_refl _) 1 [] (.of rfl rfl rfl rfl rfl rfl) ⟨Nat.le_refl _, hpos, p.length, by omega, rfl⟩ ?_
  rintro n u2 hu2 ⟨g1, g2, f, g3, g4⟩
  have hj := join_size (p.take (n + 1))
  have hjt := bySum_take p (n + 1)
  refine x_vc tt_ok ?_
  repeat (refine And.intro ?_ ?_; first | omega | (simp only [Lay.d_n]; omega) | (simp only [decide_eq_true_eq, decide_eq_false_iff_not, Bool.or_eq_false_iff, Bool.and_eq_true, Bool.or_eq_true, Bool.and_eq_false_iff, Bool.not_eq_true', Bool.not_eq_false', Lay.d_n]; omega) | (simp only [decide_eq_true_eq, decide_eq_false_iff_not, Bool.or_eq_false_iff, Bool.and_eq_true, Bool.or_eq_true, Bool.and_eq_false_iff, Bool.not_eq_true', Bool.not_eq_false']; omega) | (simp only [decide_eq_true_eq, decide_eq_false_iff_not, Bool.or_eq_false_iff]; simp only [Lay.d_n]; omega))
  refine xl_gtoE tt_ok (A := A) (n := p.length) (c := c) (h := (n : Int) + 1) rfl rfl rfl rfl rfl rfl rfl rfl rfl (fun hh => by
    have h1 : (n : Int) < p.length := of_decide_eq_true hh.1
    omega) ?_
  refine xl_go tt_ok ?_
  refine xl_gcall0 (.string (joinT (p.take (n + 1)) blB)) rfl rfl rfl rfl fn41 rfl rfl (fun hh E w' F hs => by
    have h1 : (n : Int) < p.length := of_decide_eq_true hh.1
    have h2 := partV_slAt (Y := strY) (L := p) (l := 0) (h := n + 1) hx (Nat.zero_le _) (by omega)
    refine joined_any (p.take (n + 1)) _ w' ?_ (by omega)
    exact (h2.le hu2).imm hs.imm) ?_
  refine xl_go tt_ok ?_
  repeat (refine And.intro ?_ ?_; first | omega | (simp only [Lay.d_n]; omega) | (simp only [decide_eq_true_eq, decide_eq_false_iff_not, Bool.or_eq_false_iff, Bool.and_eq_true, Bool.or_eq_true, Bool.and_eq_false_iff, Bool.not_eq_true', Bool.not_eq_false', Lay.d_n]; omega) | (simp only [decide_eq_true_eq, decide_eq_false_iff_not, Bool.or_eq_false_iff, Bool.and_eq_true, Bool.or_eq_true, Bool.and_eq_false_iff, Bool.not_eq_true', Bool.not_eq_false']; omega) | (simp only [decide_eq_true_eq, decide_eq_false_iff_not, Bool.or_eq_false_iff]; simp only [Lay.d_n]; omega))
  refine x_if (fun h => ?_) (fun h => ?_)
  · have h : (decide ((n : Int) < p.length) && decide (ind + 3 + (joinT (p.take (n + 1)) blB).size ≤ col)) = true := h
    simp only [Bool.and_eq_true, decide_eq_true_eq] at h
    cases f with
    | zero => omega
    | succ f =>
      rw [manyF, if_pos ⟨by omega, by omega⟩] at g4
      repeat (refine And.intro ?_ ?_; first | omega | (simp only [Lay.d_n]; omega) | (simp only [decide_eq_true_eq, decide_eq_false_iff_not, Bool.or_eq_false_iff, Bool.and_eq_true, Bool.or_eq_true, Bool.and_eq_false_iff, Bool.not_eq_true', Bool.not_eq_false', Lay.d_n]; omega) | (simp only [decide_eq_true_eq, decide_eq_false_iff_not, Bool.or_eq_false_iff, Bool.and_eq_true, Bool.or_eq_true, Bool.and_eq_false_iff, Bool.not_eq_true', Bool.not_eq_false']; omega) | (simp only [decide_eq_true_eq, decide_eq_false_iff_not, Bool.or_eq_false_iff]; simp only [Lay.d_n]; omega))
      exact again (n + 1) [] (.of rfl rfl rfl rfl rfl rfl) ⟨by omega, by omega, f, by omega, g4⟩ (by omega)
  · have h : (decide ((n : Int) < p.length) && decide (ind + 3 + (joinT (p.take (n + 1)) blB).size ≤ col)) = false := h
    have e : manyN (col - ind - 3) p = n := by
      rw [g4]
      cases f with
      | zero => rfl
      | succ f =>
        rw [manyF, if_neg]
        rintro ⟨h1, h2⟩
        rw [decide_eq_true (by omega), decide_eq_true (by omega)] at h
        cases h
    rw [e]
    exact fin1 (fun _ _ => rfl)
end Go.Proofs.YtnjmkeijjapejaaDoor
