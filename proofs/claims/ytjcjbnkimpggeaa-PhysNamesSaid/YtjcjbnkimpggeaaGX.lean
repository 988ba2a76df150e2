/- Generic theorems, third part. -/
import Derived.Test.YtjcjbnkimpggeaaGW
import Derived.Laws.MakeOwn
import Derived.Laws.OwnMore
namespace Go.GV
open Go.RowKit

/-! ## make with a length (elements of one cell); operations whose guard is known -/
theorem madeCells_one (v : Value) (m : Nat) : (madeCells #[v] m).toList = List.replicate m v := by
  apply List.ext_getElem
  · simp [madeCells]
  · intro i h1 h2
    simp [madeCells, Nat.mod_one]

theorem flatMap_replicate {α : Type} {f : α → List Value} {z : α} {v : Value} (h : f z = [v]) : ∀ m : Nat, (List.replicate m z).flatMap f = List.replicate m v
  | 0 => rfl
  | m + 1 => by rw [List.replicate_succ, List.flatMap_cons, h, flatMap_replicate h m, List.replicate_succ]; rfl

theorem xl_makeN {α : Type} {T : TT} {C : Cx} (hT : TOk C.P T) {all : List Oper} {o : Oper} {r : List Oper} {Q : Post} {kn : Kn} {gk : List (Nat × (Gd × SV))} {ow : Own} {nx : Nat} {u : Im}
    (Y : Lay α) (z : α) (v : Value) (by' m : Nat) {t e d : Nat} {lv cv : Operand} {ti te : TI} {kl kc : IntKind} (ho : o.op = .makeSlice t lv cv) (hgd : o.guard = none) (hd : o.dst = some d)
    (hti : look T t = some ti) (hsh : ti.shp = .slice e) (hte : look T e = some te) (hsz : te.sz = Y.fs.length) (h1 : te.sz = 1) (hzv : te.zv.cells = #[v]) (hel : Y.el z = [v]) (hby : (C.P.info? e).map (fun i => i.bytes) = some by')
    (hl : opd ⟨kn, gk, ow, nx⟩ [] lv = some (.v (.int kl (m : Int)))) (hc : opd ⟨kn, gk, ow, nx⟩ [] cv = some (.v (.int kc (m : Int)))) (hf : fresh C.N ⟨kn, gk, ow, nx⟩ d [] = true)
    (hb : by' * m ≤ 281474976710656) (hm : m ≤ 9223372036854775807)
    (K : XL C all r Q ⟨(d, .r nx) :: kn, gk, (nx, .row e (Y.d (List.replicate m z))) :: ow, nx + 1⟩ u) : XL C all (o :: r) Q ⟨kn, gk, ow, nx⟩ u := by
  unfold XL at K ⊢
  intro E a w hok
  obtain ⟨f, hsat⟩ := hok.sat
  have hgs : gs a.tmps [] := fun x hx => by cases hx
  have htik := hT _ _ hti
  have htek := hT _ _ hte
  obtain ⟨i, i1, i2, i3, i4⟩ := info_bytes htek hby
  obtain ⟨el, _⟩ := opd_sound hok.agr hgs hl
  obtain ⟨ec, _⟩ := opd_sound hok.agr hgs hc
  simp only [SV.den] at el ec
  have hb' : (i.bytes : Int) * (m : Int) ≤ 281474976710656 := by
    rw [i4]
    have h : ((by' * m : Nat) : Int) ≤ 281474976710656 := by omega
    rwa [Int.natCast_mul] at h
  have hr := run_make (P := C.P) w t e i te.zv (htik.isSlice hsh) i1 i3 kl kc (m : Int) (m : Int) (by omega) (Int.le_refl _) hb' (by omega)
  simp only [Int.toNat_natCast] at hr
  have hrun : (execOp a.eval o).run C.P w = .ok (.value (.slice (some ⟨w.heap.size, 0, none⟩) m m)) (w.alloc (.cells (madeCells te.zv.cells (m * i.size)) e)) := by
    simp only [execOp, ho, el, ec, Sem.run_bind, hr, Result.andThen_ok]
    rfl
  refine xl_wp hgd (fun c hc => by rw [ho] at hc; cases hc) hrun ?_
  rw [hd]
  have hgr := World.grownBy_alloc w (.cells (madeCells te.zv.cells (m * i.size)) e) none
  have hbel : Below w.heap.size w (w.alloc (.cells (madeCells te.zv.cells (m * i.size)) e)) := ⟨hgr.os, hgr.tape, hgr.output, hgr.size, fun b hb => hgr.block b hb (by simp)⟩
  have hi1 : i.size = 1 := i2.trans h1
  have hown := World.ownsRow_lit (e := e) (base := 0) (size := 1) w (madeCells te.zv.cells (m * i.size)) m (Nat.zero_le _) (by simpa [maxLen] using hm) (by rw [size_madeCells, hi1])
  have hown' : (w.alloc (.cells (madeCells te.zv.cells (m * i.size)) e)).ownsRow 0 e (Y.d (List.replicate m z)).cs.length (.slice (some ⟨w.heap.size, 0, none⟩) m m) (Y.d (List.replicate m z)).n (Y.d (List.replicate m z)).flat := by
    have e1 : (Y.d (List.replicate m z)).cs.length = 1 := by rw [Lay.cs_length, ← hsz, h1]
    have e2 : (Y.d (List.replicate m z)).n = m := by rw [Lay.d_n, List.length_replicate]
    have e3 : (Y.d (List.replicate m z)).flat = (madeCells te.zv.cells (m * i.size)).toList := by
      rw [Lay.flat, hzv, hi1, Nat.mul_one, madeCells_one]
      exact flatMap_replicate hel m
    rw [e1, e2, e3]; exact hown
  have hv := ownAt_of (lo := w.heap.size) hown' (fun b hb => by cases hb; exact Nat.le_refl _)
  have hE : ∀ j, j < nx → upd E nx (.slice (some ⟨w.heap.size, 0, none⟩) m m) j = E j := fun j hj => upd_other _ _ (by omega)
  have hg := hok.agr.grow (E' := upd E nx (.slice (some ⟨w.heap.size, 0, none⟩) m m)) (ow := (nx, .row e (Y.d (List.replicate m z))) :: ow) (nx := nx + 1) hE (Nat.le_succ _)
  have hput := hg.put (g := []) (d := d) (s := .r nx) (x := .slice (some ⟨w.heap.size, 0, none⟩) m m) hf (fun _ => ⟨Nat.lt_succ_self _, _, _, _, upd_same _ _ _⟩) (fun _ => (by simp only [SV.den, upd_same])) (fun hn => absurd (fun x hx => (by cases hx)) hn) (fun _ => (by simp only [SV.den, upd_same]))
  have := K _ (a.put (some d) (.slice (some ⟨w.heap.size, 0, none⟩) m m)) _ ⟨⟨hput.size, hput.kn, hput.gk, hput.klt, hput.glt⟩, _, hsat.take hbel hv⟩
  exact wpListIn_monoQ (fun e a w => SemQ.mono hE (Nat.le_succ _) (Im.le.refl u)) _ _ _ this

/-- an operation whose guard is known to let it in -/
theorem xl_sure {C : Cx} {all : List Oper} {o : Oper} {r : List Oper} {Q : Post} {st : St} {u : Im} (t : Nat) {want b : Bool} (hg : guardOf all st o = some [(t, want)]) (h2 : look st.gk t = none) (h3 : look st.kn t = some (.v (.bool b))) (hb : b = want)
    (K : XL C all ({ o with guard := none } :: r) Q st u) : XL C all (o :: r) Q st u := by
  unfold XL at K ⊢
  intro E a w hok
  have hgs : gs a.tmps [(t, want)] := fun x hx => by
    simp only [List.mem_singleton] at hx
    subst hx
    have := hok.agr.kn t _ h2 h3
    simpa [SV.den, hb] using this
  have hs := guard_sound (all := all.toArray) hok.agr (by simpa using hg)
  have hw : Region.wanted o (yielded all.toArray a.tmps) = true := by
    cases hw : Region.wanted o (yielded all.toArray a.tmps)
    · exact absurd hgs (hs.2 hw)
    · rfl
  have h1 := K E a w hok
  unfold wpListIn at h1 ⊢
  rw [if_pos hw]
  rw [if_pos (by simp [Region.wanted])] at h1
  exact h1

def forgetG (d : Nat) (gk : List (Nat × (Gd × SV))) : List (Nat × (Gd × SV)) := gk.filter fun x => !(Nat.beq x.1 d)

theorem look_forgetG {d : Nat} {gk : List (Nat × (Gd × SV))} : look (forgetG d gk) d = none ∧ ∀ x, x ≠ d → look (forgetG d gk) x = look gk x := by
  induction gk with
  | nil => exact ⟨rfl, fun _ _ => rfl⟩
  | cons y gk ih =>
    obtain ⟨k, t⟩ := y
    by_cases hk : k = d
    · subst hk
      have e : forgetG k ((k, t) :: gk) = forgetG k gk := by simp [forgetG]
      rw [e]
      exact ⟨ih.1, fun x hx => by rw [ih.2 x hx, look_cons, if_neg (Ne.symm hx)]⟩
    · have e : forgetG d ((k, t) :: gk) = (k, t) :: forgetG d gk := by
        have : Nat.beq k d = false := by cases hb : Nat.beq k d with | false => rfl | true => exact absurd (Nat.eq_of_beq_eq_true hb) hk
        simp [forgetG, this]
      rw [e]
      refine ⟨by rw [look_cons, if_neg hk]; exact ih.1, fun x hx => ?_⟩
      rw [look_cons, look_cons]
      split
      · rfl
      · exact ih.2 x hx

/-- a slot that a guard stands before, where the guard is known to let it in -/
theorem xl_promote {C : Cx} {all l : List Oper} {Q : Post} {kn : Kn} {gk : List (Nat × (Gd × SV))} {ow : Own} {nx : Nat} {u : Im} (d t : Nat) {want b : Bool} {s : SV} (h1 : look gk d = some ([(t, want)], s)) (h2 : look gk t = none)
    (h3 : look kn t = some (.v (.bool b))) (hb : b = want) (K : XL C all l Q ⟨(d, s) :: kn, forgetG d gk, ow, nx⟩ u) : XL C all l Q ⟨kn, gk, ow, nx⟩ u := by
  unfold XL at K ⊢
  intro E a w hok
  have hgs : gs a.tmps [(t, want)] := fun x hx => by
    simp only [List.mem_singleton] at hx
    subst hx
    have := hok.agr.kn t _ h2 h3
    simpa [SV.den, hb] using this
  obtain ⟨l1, l2⟩ := @look_forgetG d gk
  refine K E a w ⟨⟨hok.agr.size, fun d' s' hg hs => ?_, fun d' g' s' hg => ?_, fun d' s' hs => ?_, fun d' g' s' hg hh => ?_⟩, hok.sat⟩
  · simp only [look_cons] at hs
    split at hs
    · rename_i e; subst e; cases hs
      exact (hok.agr.gk _ _ _ h1).1 hgs
    · rename_i e
      exact hok.agr.kn d' s' (by rw [← l2 d' (Ne.symm e)]; exact hg) hs
  · by_cases e : d' = d
    · subst e; simp only [l1] at hg; cases hg
    · simp only [l2 d' e] at hg; exact hok.agr.gk _ _ _ hg
  · simp only [look_cons] at hs
    split at hs
    · rename_i e; subst e; cases hs
      exact hok.agr.glt _ _ _ h1 hgs
    · exact hok.agr.klt d' s' hs
  · by_cases e : d' = d
    · subst e; simp only [l1] at hg; cases hg
    · simp only [l2 d' e] at hg; exact hok.agr.glt _ _ _ hg hh

end Go.GV
