/- Generic theorems, third part. -/
import Derived.Test.YtdonomneofdhfaaGW
import Derived.Laws.MakeOwn
import Derived.Laws.OwnMore
namespace Go.GV
open Go.RowKit

/-! ## make with a length (elements of one cell); operations whose guard is known -/
theorem madeCells_one (v : Value) (m : Nat) : (madeCells #[v] m).toList = List.replicate m v := by
  apply List.ext_getElem
  · simp [madeCells]
  · intro i h1 h2
    simp [madeCells, Nat.mod_one]

theorem flatMap_replicate {α : Type} {f : α → List Value} {z : α} {v : Value} (h : f z = [v]) : ∀ m : Nat, (List.replicate m z).flatMap f = List.replicate m v
  | 0 => rfl
  | m + 1 => by rw [List.replicate_succ, List.flatMap_cons, h, flatMap_replicate h m, List.replicate_succ]; rfl

theorem xl_makeN {α : Type} {T : TT} {C : Cx} (hT : TOk C.P T) {all : List Oper} {o : Oper} {r : List Oper} {Q : Post} {kn : Kn} {gk : List (Nat × (Gd × SV))} {ow : Own} {nx : Nat} {u : Im}
    (Y : Lay α) (z : α) (v : Value) (by' m : Nat) {t e d : Nat} {lv cv : Operand} {ti te : TI} {kl kc : IntKind} (ho : o.op = .makeSlice t lv cv) (hgd : o.guard = none) (hd : o.dst = some d)
    (hti : look T t = some ti) (hsh : ti.shp = .slice e) (hte : look T e = some te) (hsz : te.sz = Y.fs.length) (h1 : te.sz = 1) (hzv : te.zv.cells = #[v]) (hel : Y.el z = [v]) (hby : (C.P.info? e).map (fun i => i.bytes) = some by')
    (hl : opd ⟨kn, gk, ow, nx⟩ [] lv = some (.v (.int kl (m : Int)))) (hc : opd ⟨kn, gk, ow, nx⟩ [] cv = some (.v (.int kc (m : Int)))) (hf : fresh C.N ⟨kn, gk, ow, nx⟩ d [] = true)
    (hb : by' * m ≤ 281474976710656) (hm : m ≤ 9223372036854775807)
    (K : XL C all r Q ⟨(d, .r nx) :: kn, gk, (nx, .row e (Y.d (List.replicate m z))) :: ow, nx + 1⟩ u) : XL C all (o :: r) Q ⟨kn, gk, ow, nx⟩ u := by
  unfold XL at K ⊢
  intro E a w hok
  obtain ⟨f, hsat⟩ := hok.sat
  have hgs : gs a.tmps [] := fun x hx => by cases hx
  have htik := hT _ _ hti
  have htek := hT _ _ hte
  obtain ⟨i, i1, i2, i3, i4⟩ := info_bytes htek hby
  obtain ⟨el, _⟩ := opd_sound hok.agr hgs hl
  obtain ⟨ec, _⟩ := opd_sound hok.agr hgs hc
  simp only [SV.den] at el ec
  have hb' : (i.bytes : Int) * (m : Int) ≤ 281474976710656 := by
    rw [i4]
    have h : ((by' * m : Nat) : Int) ≤ 281474976710656 := by omega
    rwa [Int.natCast_mul] at h
  have hr := run_make (P := C.P) w t e i te.zv (htik.isSlice hsh) i1 i3 kl kc (m : Int) (m : Int) (by omega) (Int.le_refl _) hb' (by omega)
  simp only [Int.toNat_natCast] at hr
  have hrun : (execOp a.eval o).run C.P w = .ok (.value (.slice (some ⟨w.heap.size, 0, none⟩) m m)) (w.alloc (.cells (madeCells te.zv.cells (m * i.size)) e)) := by
    simp only [execOp, ho, el, ec, Sem.run_bind, hr, Result.andThen_ok]
    rfl
  refine xl_wp hgd (fun c hc => by rw [ho] at hc; cases hc) hrun ?_
  rw [hd]
  have hgr := World.grownBy_alloc w (.cells (madeCells te.zv.cells (m * i.size)) e) none
  have hbel : Below w.heap.size w (w.alloc (.cells (madeCells te.zv.cells (m * i.size)) e)) := ⟨hgr.os, hgr.tape, hgr.output, hgr.size, fun b hb => hgr.block b hb (by simp)⟩
  have hi1 : i.size = 1 := i2.trans h1
  have hown := World.ownsRow_lit (e := e) (base := 0) (size := 1) w (madeCells te.zv.cells (m * i.size)) m (Nat.zero_le _) (by simpa [maxLen] using hm) (by rw [size_madeCells, hi1])
  have hown' : (w.alloc (.cells (madeCells te.zv.cells (m * i.size)) e)).ownsRow 0 e (Y.d (List.replicate m z)).cs.length (.slice (some ⟨w.heap.size, 0, none⟩) m m) (Y.d (List.replicate m z)).n (Y.d (List.replicate m z)).flat := by
    have e1 : (Y.d (List.replicate m z)).cs.length = 1 := by rw [Lay.cs_length, ← hsz, h1]
    have e2 : (Y.d (List.replicate m z)).n = m := by rw [Lay.d_n, List.length_replicate]
    have e3 : (Y.d (List.replicate m z)).flat = (madeCells te.zv.cells (m * i.size)).toList := by
      rw [Lay.flat, hzv, hi1, Nat.mul_one, madeCells_one]
      exact flatMap_replicate hel m
    rw [e1, e2, e3]; exact hown
  have hv := ownAt_of (lo := w.heap.size) hown' (fun b hb => by cases hb; exact Nat.le_refl _)
  have hE : ∀ j, j < nx → upd E nx (.slice (some ⟨w.heap.size, 0, none⟩) m m) j = E j := fun j hj => upd_other _ _ (by omega)
  have hg := hok.agr.grow (E' := upd E nx (.slice (some ⟨w.heap.size, 0, none⟩) m m)) (ow := (nx, .row e (Y.d (List.replicate m z))) :: ow) (nx := nx + 1) hE (Nat.le_succ _)
  have hput := hg.put (g := []) (d := d) (s := .r nx) (x := .slice (some ⟨w.heap.size, 0, none⟩) m m) hf (fun _ => ⟨Nat.lt_succ_self _, _, _, _, upd_same _ _ _⟩) (fun _ => (by simp only [SV.den, upd_same])) (fun hn => absurd (fun x hx => (by cases hx)) hn) (fun _ => (by simp only [SV.den, upd_same]))
  have := K _ (a.put (some d) (.slice (some ⟨w.heap.size, 0, none⟩) m m)) _ ⟨⟨hput.size, hput.kn, hput.gk, hput.klt, hput.glt⟩, _, hsat.take hbel hv⟩
  exact wpListIn_monoQ (fun e a w => SemQ.mono hE (Nat.le_succ _) (Im.le.refl u)) _ _ _ this

/-- an operation whose guard is known to let it in -/
theorem xl_sure {C : Cx} {all : List Oper} {o : Oper} {r : List Oper} {Q : Post} {st : St} {u : Im} (t : Nat) {want b : Bool} (hg : guardOf all st o = some [(t, want)]) (h2 : look st.gk t = none) (h3 : look st.kn t = some (.v (.bool b))) (hb : b = want)
    (K : XL C all ({ o with guard := none } :: r) Q st u) : XL C all (o :: r) Q st u := by
  unfold XL at K ⊢
  intro E a w hok
  have hgs : gs a.tmps [(t, want)] := fun x hx => by
    simp only [List.mem_singleton] at hx
    subst hx
    have := hok.agr.kn t _ h2 h3
    simpa [SV.den, hb] using this
  have hs := guard_sound (all := all.toArray) hok.agr (by simpa using hg)
  have hw : Region.wanted o (yielded all.toArray a.tmps) = true := by
    cases hw : Region.wanted o (yielded all.toArray a.tmps)
    · exact absurd hgs (hs.2 hw)
    · rfl
  have h1 := K E a w hok
  unfold wpListIn at h1 ⊢
  rw [if_pos hw]
  rw [if_pos (by simp [Region.wanted])] at h1
  exact h1

def forgetG (d : Nat) (gk : List (Nat × (Gd × SV))) : List (Nat × (Gd × SV)) := gk.filter fun x => !(Nat.beq x.1 d)

theorem look_forgetG {d : Nat} {gk : List (Nat × (Gd × SV))} : look (forgetG d gk) d = none ∧ ∀ x, x ≠ d → look (forgetG d gk) x = look gk x := by
  induction gk with
  | nil => exact ⟨rfl, fun _ _ => rfl⟩
  | cons y gk ih =>
    obtain ⟨k, t⟩ := y
    by_cases hk : k = d
    · subst hk
      have e : forgetG k ((k, t) :: gk) = forgetG k gk := by simp [forgetG]
      rw [e]
      exact ⟨ih.1, fun x hx => by rw [ih.2 x hx, look_cons, if_neg (Ne.symm hx)]⟩
    · have e : forgetG d ((k, t) :: gk) = (k, t) :: forgetG d gk := by
        have : Nat.beq k d = false := by cases hb : Nat.beq k d with | false => rfl | true => exact absurd (Nat.eq_of_beq_eq_true hb) hk
        simp [forgetG, this]
      rw [e]
      refine ⟨by rw [look_cons, if_neg hk]; exact ih.1, fun x hx => ?_⟩
      rw [look_cons, look_cons]
      split
      · rfl
      · exact ih.2 x hx

/-- a slot that a guard stands before, where the guard is known to let it in -/
theorem xl_promote {C : Cx} {all l : List Oper} {Q : Post} {kn : Kn} {gk : List (Nat × (Gd × SV))} {ow : Own} {nx : Nat} {u : Im} (d t : Nat) {want b : Bool} {s : SV} (h1 : look gk d = some ([(t, want)], s)) (h2 : look gk t = none)
    (h3 : look kn t = some (.v (.bool b))) (hb : b = want) (K : XL C all l Q ⟨(d, s) :: kn, forgetG d gk, ow, nx⟩ u) : XL C all l Q ⟨kn, gk, ow, nx⟩ u := by
  unfold XL at K ⊢
  intro E a w hok
  have hgs : gs a.tmps [(t, want)] := fun x hx => by
    simp only [List.mem_singleton] at hx
    subst hx
    have := hok.agr.kn t _ h2 h3
    simpa [SV.den, hb] using this
  obtain ⟨l1, l2⟩ := @look_forgetG d gk
  refine K E a w ⟨⟨hok.agr.size, fun d' s' hg hs => ?_, fun d' g' s' hg => ?_, fun d' s' hs => ?_, fun d' g' s' hg hh => ?_⟩, hok.sat⟩
  · simp only [look_cons] at hs
    split at hs
    · rename_i e; subst e; cases hs
      exact (hok.agr.gk _ _ _ h1).1 hgs
    · rename_i e
      exact hok.agr.kn d' s' (by rw [← l2 d' (Ne.symm e)]; exact hg) hs
  · by_cases e : d' = d
    · subst e; simp only [l1] at hg; cases hg
    · simp only [l2 d' e] at hg; exact hok.agr.gk _ _ _ hg
  · simp only [look_cons] at hs
    split at hs
    · rename_i e; subst e; cases hs
      exact hok.agr.glt _ _ _ h1 hgs
    · exact hok.agr.klt d' s' hs
  · by_cases e : d' = d
    · subst e; simp only [l1] at hg; cases hg
    · simp only [l2 d' e] at hg; exact hok.agr.glt _ _ _ hg hh

/-! ## Several own rows under one key: their slices are plain values -/
structure SI where
  x : Value
  e : TypeId
  D : Data

def SI.hole : SI := ⟨.slice none 0 0, 0, ⟨0, []⟩⟩

def SI.own (w : World) (p : SI) : Prop := w.ownsRow 0 p.e p.D.cs.length p.x p.D.n p.D.flat
def SI.dis (p q : SI) : Prop := ∀ b, p.x.ownBlock = some b → ¬ q.x.ownBlock = some b
theorem SI.dis_symm {p q : SI} (h : p.dis q) : q.dis p := fun b h1 h2 => h b h2 h1
def starF (l : List SI) (b : Nat) : Prop := ∃ p ∈ l, p.x.ownBlock = some b
def starDis (l : List SI) : Prop := l.Pairwise SI.dis

theorem SI.hole_own (w : World) : SI.hole.own w := ⟨rfl, .inl ⟨rfl, rfl⟩⟩
theorem hole_none : SI.hole.x.ownBlock = none := rfl

def starHp (l : List SI) : Hp where
  h := fun _ F w => (∀ p ∈ l, p.own w) ∧ starDis l ∧ ∀ b, F b ↔ starF l b
  loc := fun _ F w w' ⟨h1, h2, h3⟩ hF _ _ => ⟨fun p hp => ownsRow_local (h1 p hp) fun b hb => hF b ((h3 b).2 ⟨p, hp, hb⟩), h2, h3⟩
  mono := fun _ _ _ _ h _ _ => h
  fin := fun _ F w ⟨h1, _, h3⟩ b hb => by
    obtain ⟨p, hp, hb'⟩ := (h3 b).1 hb
    exact ((h1 p hp).lt b hb').2

theorem list_at {α : Type} {l : List α} {i : Nat} {p : α} (h : l[i]? = some p) : ∃ l1 l2, l = l1 ++ p :: l2 ∧ l1.length = i := by
  obtain ⟨hi, h2⟩ := List.getElem?_eq_some_iff.1 h
  refine ⟨l.take i, l.drop (i + 1), ?_, by rw [List.length_take]; omega⟩
  rw [← h2, List.getElem_cons_drop, List.take_append_drop]

theorem set_at {α : Type} {l1 l2 : List α} {p q : α} : (l1 ++ p :: l2).set l1.length q = l1 ++ q :: l2 := by
  rw [List.set_append_right _ _ (Nat.le_refl _), Nat.sub_self]; rfl

theorem starDis_at {l1 l2 : List SI} {p : SI} : starDis (l1 ++ p :: l2) ↔ starDis (l1 ++ l2) ∧ ∀ q ∈ l1 ++ l2, p.dis q := by
  unfold starDis
  simp only [List.pairwise_append, List.pairwise_cons, List.mem_cons, List.mem_append]
  constructor
  · rintro ⟨h1, ⟨h2, h3⟩, h4⟩
    refine ⟨⟨h1, h3, fun a ha b hb => h4 a ha b (.inr hb)⟩, fun q hq => ?_⟩
    rcases hq with hq | hq
    · exact SI.dis_symm (h4 q hq p (.inl rfl))
    · exact h2 q hq
  · rintro ⟨⟨h1, h2, h3⟩, h4⟩
    refine ⟨h1, ⟨fun q hq => h4 q (.inr hq), h2⟩, fun a ha b hb => ?_⟩
    rcases hb with rfl | hb
    · exact SI.dis_symm (h4 a (.inl ha))
    · exact h3 a ha b hb

theorem starF_at {l1 l2 : List SI} {p : SI} {b : Nat} : starF (l1 ++ p :: l2) b ↔ p.x.ownBlock = some b ∨ starF (l1 ++ l2) b := by
  unfold starF
  simp only [List.mem_append, List.mem_cons]
  constructor
  · rintro ⟨q, h | rfl | h, hb⟩
    · exact .inr ⟨q, .inl h, hb⟩
    · exact .inl hb
    · exact .inr ⟨q, .inr h, hb⟩
  · rintro (h | ⟨q, h | h, hb⟩)
    · exact ⟨p, .inr (.inl rfl), h⟩
    · exact ⟨q, .inl h, hb⟩
    · exact ⟨q, .inr (.inr h), hb⟩

/-- the world stays; what belongs to whom turns -/
theorem Sat.regroup {E E' : Env} {o o' : Own} {nx nx' : Nat} {u : Im} {df : List Deferred} {w : World} {f f' : Nat → Nat → Prop} (h : Sat E o nx u df w f)
    (ch : Nat → Prop) (hE : ∀ k, k < nx → E' k = E k) (hnx : nx ≤ nx')
    (hsame : ∀ k, ¬ ch k → (look o' k = look o k ∧ ∀ b, f' k b ↔ f k b))
    (hnew : ∀ k, ch k → (∀ r, look o' k = some r → r.holds E' k (f' k) u w ∧ k < nx' ∧ r.lt E' nx') ∧ (look o' k = none → ∀ b, ¬ f' k b) ∧ (∀ b, f' k b → ∃ k0, ch k0 ∧ f k0 b))
    (hapart : ∀ k k' b, ch k → ch k' → k ≠ k' → f' k b → ¬ f' k' b) : Sat E' o' nx' u df w f' := by
  refine h.step ch hE hnx (Im.le.refl u) h.imm (Nat.le_refl _) (fun b _ _ => rfl) hsame (fun k hk => ?_) hapart (fun b o ho => .inl ho)
  obtain ⟨h1, h2, h3⟩ := hnew k hk
  refine ⟨h1, h2, fun b hb => ?_⟩
  obtain ⟨k0, hk0, hf⟩ := h3 b hb
  exact ⟨.inl ⟨k0, hk0, hf⟩, h.off k0 b hf⟩

theorem Sat.star0 {E : Env} {o : Own} {nx : Nat} {u : Im} {df : List Deferred} {w : World} {f : Nat → Nat → Prop} (h : Sat E o nx u df w f) (n : Nat) :
    Sat E ((nx, .gen (starHp (List.replicate n SI.hole))) :: o) (nx + 1) u df w (upd f nx (fun _ => False)) := by
  have hrep : ∀ p ∈ List.replicate n SI.hole, p = SI.hole := fun p hp => (List.mem_replicate.1 hp).2
  refine h.regroup (fun k => k = nx) (fun _ _ => rfl) (Nat.le_succ _) ?_ ?_ ?_
  · intro k hk
    exact ⟨by rw [look_cons, if_neg (fun e => hk e.symm)], fun b => by rw [upd_other _ _ hk]⟩
  · rintro k rfl
    refine ⟨fun r hr => ?_, fun hr => ?_, fun b hb => ?_⟩
    · rw [look_cons, if_pos rfl] at hr
      cases hr
      refine ⟨⟨fun p hp => by rw [hrep p hp]; exact SI.hole_own w, ?_, fun b => ?_⟩, Nat.lt_succ_self _, trivial⟩
      · exact List.pairwise_replicate.2 (.inr fun b hb => by cases hb)
      · rw [upd_same]
        refine ⟨fun hh => hh.elim, fun ⟨p, hp, hb⟩ => ?_⟩
        rw [hrep p hp] at hb; cases hb
    · rw [look_cons, if_pos rfl] at hr; cases hr
    · rw [upd_same] at hb; exact hb.elim
  · intro k k' b hk hk' hne; subst hk hk'; exact absurd rfl hne

theorem Sat.park {E : Env} {o : Own} {nx : Nat} {u : Im} {df : List Deferred} {w : World} {f : Nat → Nat → Prop} (h : Sat E o nx u df w f) {k s i : Nat} {e : TypeId} {D : Data} {l : List SI} {q : SI}
    (hk : look o k = some (.row e D)) (hs : look o s = some (.gen (starHp l))) (hi : l[i]? = some q) (hq : q.x.ownBlock = none) :
    Sat E ((k, .emp) :: (s, .gen (starHp (l.set i ⟨E k, e, D⟩))) :: o) nx u df w (upd (upd f s (fun b => f s b ∨ f k b)) k (fun _ => False)) := by
  have hne : k ≠ s := fun hh => by rw [hh, hs] at hk; cases hk
  obtain ⟨hrow, hF⟩ := h.holds k _ hk
  obtain ⟨h1, h2, h3⟩ := h.holds s _ hs
  obtain ⟨l1, l2, rfl, hl⟩ := list_at hi
  subst hl
  rw [set_at]
  rw [starDis_at] at h2
  have hap : ∀ b, (E k).ownBlock = some b → ¬ starF (l1 ++ l2) b := fun b hb hst =>
    h.apart k s b hne ((hF b).2 hb) ((h3 b).2 (starF_at.2 (.inr hst)))
  refine h.regroup (fun j => j = k ∨ j = s) (fun _ _ => rfl) (Nat.le_refl _) ?_ ?_ ?_
  · intro j hj
    have e1 : ¬ k = j := fun hh => hj (.inl hh.symm)
    have e2 : ¬ s = j := fun hh => hj (.inr hh.symm)
    refine ⟨by rw [look_cons, if_neg e1, look_cons, if_neg e2], fun b => ?_⟩
    rw [upd_other _ _ (Ne.symm e1), upd_other _ _ (Ne.symm e2)]
  · rintro j (rfl | rfl)
    · refine ⟨fun r hr => ?_, fun hr => ?_, fun b hb => ?_⟩
      · rw [look_cons, if_pos rfl] at hr
        cases hr
        exact ⟨fun b hb => by rw [upd_same] at hb; exact hb, (h.lt j _ hk).1, trivial⟩
      · rw [look_cons, if_pos rfl] at hr; cases hr
      · rw [upd_same] at hb; exact hb.elim
    · refine ⟨fun r hr => ?_, fun hr => ?_, fun b hb => ?_⟩
      · rw [look_cons, if_neg hne, look_cons, if_pos rfl] at hr
        cases hr
        refine ⟨⟨fun p hp => ?_, ?_, fun b => ?_⟩, (h.lt j _ hs).1, trivial⟩
        · rcases List.mem_append.1 hp with hp | hp
          · exact h1 p (List.mem_append_left _ hp)
          · rcases List.mem_cons.1 hp with rfl | hp
            · exact hrow
            · exact h1 p (List.mem_append_right _ (List.mem_cons_of_mem _ hp))
        · rw [starDis_at]
          exact ⟨h2.1, fun q' hq' b hb hb' => hap b hb ⟨q', hq', hb'⟩⟩
        · rw [upd_other _ _ (Ne.symm hne), upd_same, starF_at, h3, starF_at, hq]
          simp only [reduceCtorEq, false_or, hF]
          exact Or.comm
      · rw [look_cons, if_neg hne, look_cons, if_pos rfl] at hr; cases hr
      · rw [upd_other _ _ (Ne.symm hne), upd_same] at hb
        rcases hb with hb | hb
        · exact ⟨j, .inr rfl, hb⟩
        · exact ⟨k, .inl rfl, hb⟩
  · intro j j' b hj hj' hjne hb hb'
    rcases hj with rfl | rfl
    · rw [upd_same] at hb; exact hb
    · rcases hj' with rfl | rfl
      · rw [upd_same] at hb'; exact hb'
      · exact hjne rfl

theorem Sat.unpark {E : Env} {o : Own} {nx : Nat} {u : Im} {df : List Deferred} {w : World} {f : Nat → Nat → Prop} (h : Sat E o nx u df w f) {s i : Nat} {l : List SI} {p : SI}
    (hs : look o s = some (.gen (starHp l))) (hi : l[i]? = some p) :
    Sat (upd E nx p.x) ((nx, .row p.e p.D) :: (s, .gen (starHp (l.set i SI.hole))) :: o) (nx + 1) u df w (upd (upd f s (fun b => f s b ∧ ¬ p.x.ownBlock = some b)) nx (fun b => p.x.ownBlock = some b)) := by
  have hsl := (h.lt s _ hs).1
  have hne : nx ≠ s := fun hh => by omega
  obtain ⟨h1, h2, h3⟩ := h.holds s _ hs
  obtain ⟨l1, l2, rfl, hl⟩ := list_at hi
  subst hl
  rw [set_at]
  rw [starDis_at] at h2
  have hp : p ∈ l1 ++ p :: l2 := by simp
  have hE : ∀ j, j < nx → upd E nx p.x j = E j := fun j hj => upd_other _ _ (by omega)
  refine h.regroup (fun j => j = nx ∨ j = s) hE (Nat.le_succ _) ?_ ?_ ?_
  · intro j hj
    have e1 : ¬ nx = j := fun hh => hj (.inl hh.symm)
    have e2 : ¬ s = j := fun hh => hj (.inr hh.symm)
    refine ⟨by rw [look_cons, if_neg e1, look_cons, if_neg e2], fun b => ?_⟩
    rw [upd_other _ _ (Ne.symm e1), upd_other _ _ (Ne.symm e2)]
  · rintro j (rfl | rfl)
    · refine ⟨fun r hr => ?_, fun hr => ?_, fun b hb => ?_⟩
      · rw [look_cons, if_pos rfl] at hr
        cases hr
        refine ⟨⟨?_, fun b => ?_⟩, Nat.lt_succ_self _, trivial⟩
        · rw [upd_same]; exact h1 p hp
        · rw [upd_same, upd_same]
      · rw [look_cons, if_pos rfl] at hr; cases hr
      · rw [upd_same] at hb
        exact ⟨s, .inr rfl, (h3 b).2 ⟨p, hp, hb⟩⟩
    · refine ⟨fun r hr => ?_, fun hr => ?_, fun b hb => ?_⟩
      · rw [look_cons, if_neg hne, look_cons, if_pos rfl] at hr
        cases hr
        refine ⟨⟨fun q hq => ?_, ?_, fun b => ?_⟩, Nat.lt_succ_of_lt hsl, trivial⟩
        · rcases List.mem_append.1 hq with hq | hq
          · exact h1 q (List.mem_append_left _ hq)
          · rcases List.mem_cons.1 hq with rfl | hq
            · exact SI.hole_own w
            · exact h1 q (List.mem_append_right _ (List.mem_cons_of_mem _ hq))
        · rw [starDis_at]
          exact ⟨h2.1, fun q' hq' b hb => by cases hb⟩
        · rw [upd_other _ _ (Ne.symm hne), upd_same, starF_at, h3, starF_at, hole_none]
          simp only [reduceCtorEq, false_or]
          constructor
          · rintro ⟨h4 | h4, h5⟩
            · exact absurd h4 h5
            · exact h4
          · rintro h4
            refine ⟨.inr h4, fun h5 => ?_⟩
            obtain ⟨q, hq, hb⟩ := h4
            exact h2.2 q hq b h5 hb
      · rw [look_cons, if_neg hne, look_cons, if_pos rfl] at hr; cases hr
      · rw [upd_other _ _ (Ne.symm hne), upd_same] at hb
        exact ⟨j, .inr rfl, hb.1⟩
  · intro j j' b hj hj' hjne hb hb'
    rcases hj with rfl | rfl
    · rcases hj' with rfl | rfl
      · exact hjne rfl
      · rw [upd_same] at hb
        rw [upd_other _ _ (Ne.symm hne), upd_same] at hb'
        exact hb'.2 hb
    · rcases hj' with rfl | rfl
      · rw [upd_same] at hb'
        rw [upd_other _ _ (Ne.symm hne), upd_same] at hb
        exact hb.2 hb'
      · exact hjne rfl

theorem own_slAt {w : World} {p : SI} (h : p.own w) : SlAt (im w) p.x p.D :=
  (ownAt_of (lo := 0) h (fun _ _ => Nat.zero_le _)).slAt.sub (cut_sub 0 _)

theorem Sat.starAt {E : Env} {o : Own} {nx : Nat} {u : Im} {df : List Deferred} {w : World} {f : Nat → Nat → Prop} (h : Sat E o nx u df w f) {s i : Nat} {l : List SI} {p : SI}
    (hs : look o s = some (.gen (starHp l))) (hi : l[i]? = some p) : SlAt (im w) p.x p.D :=
  own_slAt ((h.holds s _ hs).1 p (List.mem_of_getElem? hi))

/-- several rows that are only read from now on -/
theorem Sat.freezeStar {E : Env} {o : Own} {nx : Nat} {u : Im} {df : List Deferred} {w : World} {f : Nat → Nat → Prop} (h : Sat E o nx u df w f) {k : Nat} {l : List SI} (hk : look o k = some (.gen (starHp l))) :
    ∃ u', u.le u' ∧ (∀ p ∈ l, SlAt u' p.x p.D ∧ ∀ b, p.x.ownBlock = some b → u.h b = none) ∧ Sat E ((k, .emp) :: o) nx u' df w (upd f k (fun _ => False)) := by
  classical
  obtain ⟨hrow, hdis, hF⟩ := h.holds k _ hk
  have hle : u.le { u with h := fun b => if starF l b then w.heap[b]? else u.h b } := by
    refine ⟨fun b x hx => ?_, rfl, rfl, rfl, rfl⟩
    simp only
    split
    · rename_i hb; rw [h.off k b ((hF b).2 hb)] at hx; cases hx
    · exact hx
  have himm : Imm { u with h := fun b => if starF l b then w.heap[b]? else u.h b } w := by
    refine ⟨fun b x hx => ?_, h.imm.os, h.imm.tape, h.imm.output, h.imm.lo⟩
    simp only at hx
    split at hx
    · exact hx
    · exact h.imm.h b x hx
  refine ⟨{ u with h := fun b => if starF l b then w.heap[b]? else u.h b }, hle, fun p hp => ⟨?_, fun b hb => h.off k b ((hF b).2 ⟨p, hp, hb⟩)⟩, ?_⟩
  · have h1 := ownAt_of (lo := 0) (hrow p hp) (fun _ _ => Nat.zero_le _)
    have : OwnAt { u with h := fun b => if starF l b then w.heap[b]? else u.h b } p.x p.e p.D := by
      rcases h1 with h1 | ⟨g, cap, cur, h1, h2, h3⟩
      · exact .inl h1
      · refine .inr ⟨g, cap, cur, h1, ?_, h3⟩
        simp only [cut, im, Nat.not_lt_zero, if_false] at h2
        simp only
        rw [if_pos ⟨p, hp, by rw [h1]; rfl⟩]; exact h2
    exact this.slAt
  · have hoth : ∀ j, j ≠ k → ∀ b, f j b → (if starF l b then w.heap[b]? else u.h b) = none := fun j hj b hb => by
      rw [if_neg (fun hh => h.apart j k b hj hb ((hF b).2 hh))]; exact h.off j b hb
    refine ⟨fun j r hr => ?_, fun j hr b hb => ?_, fun j j' b hne h1 => ?_, fun j b hb => ?_, fun j r hr => ?_, himm, ?_⟩
    · rw [look_cons] at hr
      split at hr
      · rename_i e1; subst e1; cases hr; exact fun x hx => by rw [upd_same] at hx; exact hx
      · rename_i e1
        rw [upd_other _ _ (Ne.symm e1)]
        exact Rs.holds_mono hle himm (h.holds j r hr)
    · rw [look_cons] at hr
      split at hr
      · cases hr
      · rename_i e1
        rw [upd_other _ _ (Ne.symm e1)] at hb
        exact h.non j hr b hb
    · by_cases hj : j = k
      · subst hj; rw [upd_same] at h1; exact h1.elim
      · rw [upd_other _ _ hj] at h1
        by_cases hj' : j' = k
        · subst hj'; rw [upd_same]; exact id
        · rw [upd_other _ _ hj']; exact h.apart j j' b hne h1
    · by_cases hj : j = k
      · subst hj; rw [upd_same] at hb; exact hb.elim
      · rw [upd_other _ _ hj] at hb; exact hoth j hj b hb
    · rw [look_cons] at hr
      split at hr
      · rename_i e1; subst e1; cases hr; exact ⟨(h.lt k _ hk).1, trivial⟩
      · exact h.lt j r hr
    · obtain ⟨ds, h1, h2, h3⟩ := h.marks
      refine ⟨ds, h1, h2, fun d hd => ?_⟩
      obtain ⟨h4, h5, h6⟩ := h3 d hd
      refine ⟨h4, ?_, fun j hj => ?_⟩
      · simp only
        rw [if_neg (fun hh => h6 k ((hF d).2 hh))]; exact h5
      · by_cases hjk : j = k
        · subst hjk; rw [upd_same] at hj; exact hj
        · rw [upd_other _ _ hjk] at hj; exact h6 j hj

/-! ### The rules -/
theorem xl_star0 {C : Cx} {all l : List Oper} {Q : Post} {kn : Kn} {gk : List (Nat × (Gd × SV))} {ow : Own} {nx : Nat} {u : Im} (n : Nat)
    (K : XL C all l Q ⟨kn, gk, (nx, .gen (starHp (List.replicate n SI.hole))) :: ow, nx + 1⟩ u) : XL C all l Q ⟨kn, gk, ow, nx⟩ u := by
  unfold XL at K ⊢
  intro E a w hok
  obtain ⟨f, hsat⟩ := hok.sat
  have hg := hok.agr.grow (E' := E) (ow := (nx, .gen (starHp (List.replicate n SI.hole))) :: ow) (nx := nx + 1) (fun _ _ => rfl) (Nat.le_succ _)
  have := K E a w ⟨hg, _, hsat.star0 n⟩
  exact wpListIn_monoQ (fun e a w => SemQ.mono (fun _ _ => rfl) (Nat.le_succ _) (Im.le.refl u)) _ _ _ this

theorem x_star0 {C : Cx} {cc : Code} {Q : Post} {kn : Kn} {gk : List (Nat × (Gd × SV))} {ow : Own} {nx : Nat} {u : Im} (n : Nat)
    (K : X C cc Q ⟨kn, gk, (nx, .gen (starHp (List.replicate n SI.hole))) :: ow, nx + 1⟩ u) : X C cc Q ⟨kn, gk, ow, nx⟩ u := by
  unfold X at K ⊢
  intro E a w hok
  obtain ⟨f, hsat⟩ := hok.sat
  have hg := hok.agr.grow (E' := E) (ow := (nx, .gen (starHp (List.replicate n SI.hole))) :: ow) (nx := nx + 1) (fun _ _ => rfl) (Nat.le_succ _)
  have := K E a w ⟨hg, _, hsat.star0 n⟩
  exact Go.wpIn_mono this (fun e a w => SemQ.mono (fun _ _ => rfl) (Nat.le_succ _) (Im.le.refl u))

theorem xl_park {C : Cx} {all l : List Oper} {Q : Post} {kn : Kn} {gk : List (Nat × (Gd × SV))} {ow : Own} {nx : Nat} {u : Im} (k s i : Nat) {e : TypeId} {D : Data} {sl : List SI} {q : SI}
    (hk : look ow k = some (.row e D)) (hs : look ow s = some (.gen (starHp sl))) (hi : sl[i]? = some q) (hq : q.x.ownBlock = none)
    (K : ∀ A c, XL C all l Q ⟨frz k (.slice A D.n c) kn, gk, (k, .emp) :: (s, .gen (starHp (sl.set i ⟨.slice A D.n c, e, D⟩))) :: ow, nx⟩ u) : XL C all l Q ⟨kn, gk, ow, nx⟩ u := by
  unfold XL at K ⊢
  intro E a w hok
  obtain ⟨f, hsat⟩ := hok.sat
  obtain ⟨A, c, hv⟩ := ownsRow_sl (hsat.holds k _ hk).1
  have h2 := hsat.park hk hs hi hq
  rw [hv] at h2
  exact K A c E a w ⟨hok.agr.frz hv, _, h2⟩

theorem x_park {C : Cx} {cc : Code} {Q : Post} {kn : Kn} {gk : List (Nat × (Gd × SV))} {ow : Own} {nx : Nat} {u : Im} (k s i : Nat) {e : TypeId} {D : Data} {sl : List SI} {q : SI}
    (hk : look ow k = some (.row e D)) (hs : look ow s = some (.gen (starHp sl))) (hi : sl[i]? = some q) (hq : q.x.ownBlock = none)
    (K : ∀ A c, X C cc Q ⟨frz k (.slice A D.n c) kn, gk, (k, .emp) :: (s, .gen (starHp (sl.set i ⟨.slice A D.n c, e, D⟩))) :: ow, nx⟩ u) : X C cc Q ⟨kn, gk, ow, nx⟩ u := by
  unfold X at K ⊢
  intro E a w hok
  obtain ⟨f, hsat⟩ := hok.sat
  obtain ⟨A, c, hv⟩ := ownsRow_sl (hsat.holds k _ hk).1
  have h2 := hsat.park hk hs hi hq
  rw [hv] at h2
  exact K A c E a w ⟨hok.agr.frz hv, _, h2⟩

theorem Agr.unpark {N : Nat} {E : Env} {kn : Kn} {ow ow' : Own} {nx d : Nat} {tm : Array Value} (h : Agr N E ⟨kn, [], ow, nx⟩ tm) {p : SI} {w : World} (hp : p.own w) (hd : look kn d = some (.v p.x)) :
    Agr N (upd E nx p.x) ⟨(d, .r nx) :: kn, [], ow', nx + 1⟩ tm := by
  have hE : ∀ j, j < nx → upd E nx p.x j = E j := fun j hj => upd_other _ _ (by omega)
  have hg := h.grow (E' := upd E nx p.x) (ow := ow') (nx := nx + 1) hE (Nat.le_succ _)
  refine ⟨hg.size, fun t s h1 h2 => ?_, fun t g s h1 => (by cases h1), fun t s h2 => ?_, fun t g s h1 => (by cases h1)⟩
  · rw [look_cons] at h2
    split at h2
    · rename_i e1; subst e1; cases h2
      rw [h.kn _ _ rfl hd]
      simp only [SV.den, upd_same]
    · exact hg.kn t s h1 h2
  · rw [look_cons] at h2
    split at h2
    · cases h2
      obtain ⟨A, c, hv⟩ := ownsRow_sl hp
      exact ⟨Nat.lt_succ_self _, A, _, c, by rw [upd_same]; exact hv⟩
    · exact hg.klt t s h2

theorem xl_unpark {C : Cx} {all l : List Oper} {Q : Post} {kn : Kn} {ow : Own} {nx : Nat} {u : Im} (d s i : Nat) {sl : List SI} {p : SI}
    (hd : look kn d = some (.v p.x)) (hs : look ow s = some (.gen (starHp sl))) (hi : sl[i]? = some p)
    (K : XL C all l Q ⟨(d, .r nx) :: kn, [], (nx, .row p.e p.D) :: (s, .gen (starHp (sl.set i SI.hole))) :: ow, nx + 1⟩ u) : XL C all l Q ⟨kn, [], ow, nx⟩ u := by
  unfold XL at K ⊢
  intro E a w hok
  obtain ⟨f, hsat⟩ := hok.sat
  have hp := (hsat.holds s _ hs).1 p (List.mem_of_getElem? hi)
  have hE : ∀ j, j < nx → upd E nx p.x j = E j := fun j hj => upd_other _ _ (by omega)
  have := K (upd E nx p.x) a w ⟨hok.agr.unpark hp hd, _, hsat.unpark hs hi⟩
  exact wpListIn_monoQ (fun e a w => SemQ.mono hE (Nat.le_succ _) (Im.le.refl u)) _ _ _ this

theorem x_unpark {C : Cx} {cc : Code} {Q : Post} {kn : Kn} {ow : Own} {nx : Nat} {u : Im} (d s i : Nat) {sl : List SI} {p : SI}
    (hd : look kn d = some (.v p.x)) (hs : look ow s = some (.gen (starHp sl))) (hi : sl[i]? = some p)
    (K : X C cc Q ⟨(d, .r nx) :: kn, [], (nx, .row p.e p.D) :: (s, .gen (starHp (sl.set i SI.hole))) :: ow, nx + 1⟩ u) : X C cc Q ⟨kn, [], ow, nx⟩ u := by
  unfold X at K ⊢
  intro E a w hok
  obtain ⟨f, hsat⟩ := hok.sat
  have hp := (hsat.holds s _ hs).1 p (List.mem_of_getElem? hi)
  have hE : ∀ j, j < nx → upd E nx p.x j = E j := fun j hj => upd_other _ _ (by omega)
  have := K (upd E nx p.x) a w ⟨hok.agr.unpark hp hd, _, hsat.unpark hs hi⟩
  exact Go.wpIn_mono this (fun e a w => SemQ.mono hE (Nat.le_succ _) (Im.le.refl u))

theorem xl_freezeStar {C : Cx} {all l : List Oper} {Q : Post} {kn : Kn} {gk : List (Nat × (Gd × SV))} {ow : Own} {nx : Nat} {u : Im} (s : Nat) {sl : List SI} (hs : look ow s = some (.gen (starHp sl)))
    (K : ∀ u', u.le u' → (∀ p ∈ sl, SlAt u' p.x p.D ∧ ∀ b, p.x.ownBlock = some b → u.h b = none) → XL C all l Q ⟨kn, gk, (s, .emp) :: ow, nx⟩ u') : XL C all l Q ⟨kn, gk, ow, nx⟩ u := by
  unfold XL at K ⊢
  intro E a w hok
  obtain ⟨f, hsat⟩ := hok.sat
  obtain ⟨u', hu, hsl, hsat'⟩ := hsat.freezeStar hs
  have := K u' hu hsl E a w ⟨⟨hok.agr.size, hok.agr.kn, hok.agr.gk, hok.agr.klt, hok.agr.glt⟩, _, hsat'⟩
  exact wpListIn_monoQ (fun e a w => SemQ.mono (fun _ _ => rfl) (Nat.le_refl _) hu) _ _ _ this

theorem x_freezeStar {C : Cx} {cc : Code} {Q : Post} {kn : Kn} {gk : List (Nat × (Gd × SV))} {ow : Own} {nx : Nat} {u : Im} (s : Nat) {sl : List SI} (hs : look ow s = some (.gen (starHp sl)))
    (K : ∀ u', u.le u' → (∀ p ∈ sl, SlAt u' p.x p.D ∧ ∀ b, p.x.ownBlock = some b → u.h b = none) → X C cc Q ⟨kn, gk, (s, .emp) :: ow, nx⟩ u') : X C cc Q ⟨kn, gk, ow, nx⟩ u := by
  unfold X at K ⊢
  intro E a w hok
  obtain ⟨f, hsat⟩ := hok.sat
  obtain ⟨u', hu, hsl, hsat'⟩ := hsat.freezeStar hs
  have := K u' hu hsl E a w ⟨⟨hok.agr.size, hok.agr.kn, hok.agr.gk, hok.agr.klt, hok.agr.glt⟩, _, hsat'⟩
  exact Go.wpIn_mono this (fun e a w => SemQ.mono (fun _ _ => rfl) (Nat.le_refl _) hu)

/-! ### Calls that hand back several own rows -/
def NestAt (u : Im) (l : List SI) : Prop := (∀ p ∈ l, OwnAt u p.x p.e p.D) ∧ starDis l

/-- the answer is val s; the rows l s are new and apart -/
def StarR {σ : Type} (val : σ → Value) (l : σ → List SI) (G : σ → Prop) (v : Value) (u : Im) : Prop := ∃ s, v = val s ∧ NestAt u (l s) ∧ G s

theorem finStar {σ : Type} {w0 : World} {ow : Own} {nx : Nat} {u : Im} {k : Nat} {val : σ → Value} {l : σ → List SI} {G : σ → Prop} {vs : List SV} (s : σ) (hk : look ow k = some (.gen (starHp (l s))))
    (hv : ∀ E, tupV (vs.map (SV.den E)) = val s) (hG : G s) : Done w0 (StarR val l G) vs ow nx u :=
  finP fun E w' F hs hu => by
    obtain ⟨h1, h2, h3⟩ := hs.holds k _ hk
    refine ⟨s, hv E, ⟨fun p hp => ownAt_of (h1 p hp) fun b hb => ?_, h2⟩, hG⟩
    have h4 := hs.off k b ((h3 b).2 ⟨p, hp, hb⟩)
    rcases Nat.lt_or_ge b w0.heap.size with hlt | hge
    · have : (im w0).h b = some w0.heap[b] := Array.getElem?_eq_getElem hlt
      rw [hu.h _ _ this] at h4; cases h4
    · exact hge

theorem Sat.takeStar {E : Env} {o : Own} {nx : Nat} {u : Im} {df : List Deferred} {w w' : World} {f : Nat → Nat → Prop} (h : Sat E o nx u df w f) (hb : Below w.heap.size w w') {l : List SI} (hv : NestAt (cut w.heap.size (im w')) l) :
    Sat E ((nx, .gen (starHp l)) :: o) (nx + 1) u df w' (upd f nx (starF l)) := by
  have hlt : ∀ b x, u.h b = some x → b < w.heap.size := fun b x hx => (Array.getElem?_eq_some_iff.1 (h.imm.h b x hx)).1
  have hlo : ∀ b, starF l b → w.heap.size ≤ b := fun b ⟨p, hp, hb⟩ => (hv.1 p hp).owns.2 b hb
  refine h.step (fun j => j = nx) (fun _ _ => rfl) (Nat.le_succ _) (Im.le.refl u) ?_ hb.size (fun b hb' _ => hb.block b hb') ?_ ?_ ?_ (fun b o ho => .inl ho)
  · exact ⟨fun b x hx => by rw [hb.block b (hlt b x hx)]; exact h.imm.h b x hx, hb.os.trans h.imm.os, hb.tape.trans h.imm.tape, hb.output.trans h.imm.output, Nat.le_trans h.imm.lo hb.size⟩
  · intro k hk
    exact ⟨by rw [look_cons, if_neg (Ne.symm hk)], fun b => by rw [upd_other _ _ hk]⟩
  · rintro k rfl
    refine ⟨fun r hr => ?_, fun hr => ?_, fun b hb' => ?_⟩
    · rw [look_cons, if_pos rfl] at hr
      cases hr
      refine ⟨⟨fun p hp => (hv.1 p hp).owns.1, hv.2, fun b => by rw [upd_same]⟩, Nat.lt_succ_self _, trivial⟩
    · rw [look_cons, if_pos rfl] at hr; cases hr
    · rw [upd_same] at hb'
      refine ⟨.inr (hlo b hb'), ?_⟩
      cases ho : u.h b with
      | none => rfl
      | some x => have := hlt b x ho; have := hlo b hb'; omega
  · intro k k' b hk hk' hne; subst hk hk'; exact absurd rfl hne

theorem xl_callStar {σ : Type} {C : Cx} {all : List Oper} {o : Oper} {r : List Oper} {Q : Post} {kn : Kn} {gk : List (Nat × (Gd × SV))} {ow : Own} {nx : Nat} {u : Im} {c : Call} (val : σ → Value) (l : σ → List SI) (G : σ → Prop)
    (ho : o.op = .call c) (hgd : o.guard = none) {f d : Nat} (hd : o.dst = some d)
    (hc : callee ⟨kn, gk, ow, nx⟩ c = some f) (hfn : Fn1 C.P f) {ss : List SV} (hargs : argsOf ⟨kn, gk, ow, nx⟩ [] c.args.toList = some ss) (hfr : fresh C.N ⟨kn, gk, ow, nx⟩ d [] = true)
    (H : ∀ E w F, Sat E ow nx u [] w F → Calls C.P f (ss.map (SV.den E)).toArray w (PureP w (StarR val l G)))
    (K : ∀ s, G s → XL C all r Q ⟨(d, .v (val s)) :: kn, gk, (nx, .gen (starHp (l s))) :: ow, nx + 1⟩ u) :
    XL C all (o :: r) Q ⟨kn, gk, ow, nx⟩ u := by
  unfold XL at K ⊢
  intro E a w hok
  obtain ⟨fF, hsat⟩ := hok.sat
  refine call_core _ ho hgd hc hfn hargs H hok hsat fun v w' hbel hR => ?_
  obtain ⟨s, rfl, hN, hG⟩ := hR
  have hg := hok.agr.grow (E' := E) (ow := (nx, .gen (starHp (l s))) :: ow) (nx := nx + 1) (fun _ _ => rfl) (Nat.le_succ _)
  have hput : Agr C.N E (St.put ⟨kn, gk, (nx, .gen (starHp (l s))) :: ow, nx + 1⟩ d [] (.v (val s))) (a.tmps.setIfInBounds d (val s)) :=
    hg.put (g := []) hfr (fun _ => trivial) (fun _ => rfl) (fun hn => absurd (fun x hx => (by cases hx)) hn) (fun _ => rfl)
  rw [hd]
  have := K s hG E (a.put (some d) (val s)) w' ⟨⟨hput.size, hput.kn, hput.gk, hput.klt, hput.glt⟩, _, hsat.takeStar hbel hN⟩
  exact wpListIn_monoQ (fun e a w => SemQ.mono (fun _ _ => rfl) (Nat.le_succ _) (Im.le.refl u)) _ _ _ this

/-- a list under a key gets a hole more -/
theorem Sat.starMore {E : Env} {o : Own} {nx : Nat} {u : Im} {df : List Deferred} {w : World} {f : Nat → Nat → Prop} (h : Sat E o nx u df w f) {s : Nat} {l : List SI} (hs : look o s = some (.gen (starHp l))) :
    Sat E ((s, .gen (starHp (l ++ [SI.hole]))) :: o) nx u df w f := by
  obtain ⟨h1, h2, h3⟩ := h.holds s _ hs
  refine h.regroup (fun j => j = s) (fun _ _ => rfl) (Nat.le_refl _) ?_ ?_ ?_
  · intro j hj
    exact ⟨by rw [look_cons, if_neg (fun e => hj e.symm)], fun _ => Iff.rfl⟩
  · rintro j rfl
    refine ⟨fun r hr => ?_, fun hr => ?_, fun b hb => ⟨j, rfl, hb⟩⟩
    · rw [look_cons, if_pos rfl] at hr
      cases hr
      refine ⟨⟨fun p hp => ?_, ?_, fun b => ?_⟩, (h.lt j _ hs).1, trivial⟩
      · rcases List.mem_append.1 hp with hp | hp
        · exact h1 p hp
        · rw [List.mem_singleton.1 hp]; exact SI.hole_own w
      · rw [starDis_at, List.append_nil]
        exact ⟨h2, fun q _ b hb => by cases hb⟩
      · rw [starF_at, List.append_nil, h3, hole_none]; simp
    · rw [look_cons, if_pos rfl] at hr; cases hr
  · intro k k' b hk hk' hne; subst hk hk'; exact absurd rfl hne

/-- an own row joins the others, behind them -/
theorem xl_parkN {C : Cx} {all l : List Oper} {Q : Post} {kn : Kn} {gk : List (Nat × (Gd × SV))} {ow : Own} {nx : Nat} {u : Im} (k s : Nat) {e : TypeId} {D : Data} {sl : List SI}
    (hk : look ow k = some (.row e D)) (hs : look ow s = some (.gen (starHp sl)))
    (K : ∀ A c, XL C all l Q ⟨frz k (.slice A D.n c) kn, gk, (k, .emp) :: (s, .gen (starHp (sl ++ [⟨.slice A D.n c, e, D⟩]))) :: ow, nx⟩ u) : XL C all l Q ⟨kn, gk, ow, nx⟩ u := by
  unfold XL at K ⊢
  intro E a w hok
  obtain ⟨f, hsat⟩ := hok.sat
  obtain ⟨A, c, hv⟩ := ownsRow_sl (hsat.holds k _ hk).1
  have hne : s ≠ k := fun hh => by rw [← hh, hs] at hk; cases hk
  have h2 := (hsat.starMore hs).park (k := k) (s := s) (i := sl.length) (q := SI.hole) (e := e) (D := D) (by rw [look_cons, if_neg hne]; exact hk) (by rw [look_cons, if_pos rfl]) (by simp) rfl
  rw [hv, set_at] at h2
  have h3 : Sat E ((k, .emp) :: (s, .gen (starHp (sl ++ [⟨.slice A D.n c, e, D⟩]))) :: ow) nx u a.defers w (upd (upd f s (fun b => f s b ∨ f k b)) k (fun _ => False)) := by
    refine h2.regroup (fun _ => False) (fun _ _ => rfl) (Nat.le_refl _) (fun j _ => ⟨?_, fun _ => Iff.rfl⟩) (fun _ hh => hh.elim) (fun _ _ _ hh => hh.elim)
    simp only [look_cons]
    by_cases a1 : k = j
    · rw [if_pos a1, if_pos a1]
    · by_cases a2 : s = j
      · rw [if_neg a1, if_neg a1, if_pos a2, if_pos a2]
      · rw [if_neg a1, if_neg a1, if_neg a2, if_neg a2, if_neg a2]
  exact K A c E a w ⟨hok.agr.frz hv, _, h3⟩

theorem x_parkN {C : Cx} {cc : Code} {Q : Post} {kn : Kn} {gk : List (Nat × (Gd × SV))} {ow : Own} {nx : Nat} {u : Im} (k s : Nat) {e : TypeId} {D : Data} {sl : List SI}
    (hk : look ow k = some (.row e D)) (hs : look ow s = some (.gen (starHp sl)))
    (K : ∀ A c, X C cc Q ⟨frz k (.slice A D.n c) kn, gk, (k, .emp) :: (s, .gen (starHp (sl ++ [⟨.slice A D.n c, e, D⟩]))) :: ow, nx⟩ u) : X C cc Q ⟨kn, gk, ow, nx⟩ u := by
  unfold X at K ⊢
  intro E a w hok
  obtain ⟨f, hsat⟩ := hok.sat
  obtain ⟨A, c, hv⟩ := ownsRow_sl (hsat.holds k _ hk).1
  have hne : s ≠ k := fun hh => by rw [← hh, hs] at hk; cases hk
  have h2 := (hsat.starMore hs).park (k := k) (s := s) (i := sl.length) (q := SI.hole) (e := e) (D := D) (by rw [look_cons, if_neg hne]; exact hk) (by rw [look_cons, if_pos rfl]) (by simp) rfl
  rw [hv, set_at] at h2
  have h3 : Sat E ((k, .emp) :: (s, .gen (starHp (sl ++ [⟨.slice A D.n c, e, D⟩]))) :: ow) nx u a.defers w (upd (upd f s (fun b => f s b ∨ f k b)) k (fun _ => False)) := by
    refine h2.regroup (fun _ => False) (fun _ _ => rfl) (Nat.le_refl _) (fun j _ => ⟨?_, fun _ => Iff.rfl⟩) (fun _ hh => hh.elim) (fun _ _ _ hh => hh.elim)
    simp only [look_cons]
    by_cases a1 : k = j
    · rw [if_pos a1, if_pos a1]
    · by_cases a2 : s = j
      · rw [if_neg a1, if_neg a1, if_pos a2, if_pos a2]
      · rw [if_neg a1, if_neg a1, if_neg a2, if_neg a2, if_neg a2]
  exact K A c E a w ⟨hok.agr.frz hv, _, h3⟩

/-! ## Ranges over functions that yield two values -/
/-- yield, called with x -/
def YieldTo2 (P : Program) (l : Nat) (x y : Value) (w : World) (R : Ending → World → Prop) : Prop :=
  ∃ f tmps assign body, (Instr.yield l #[x, y]).run P w = .ok (.round l f tmps assign body) w ∧ RoundIn (FR none) 0 P l f tmps assign body w R

/-- each round takes what lies between two rounds on, or stops -/
def Rounds2 (P : Program) (l : Nat) {u0 : Im} (Y : Nat → Wp u0) (Z : Wp u0) (xs : List (Value × Value)) : Prop :=
  ∀ k x w F, xs[k]? = some x → Imm u0 w → (Y k).h F w → (∀ b, F b → u0.h b = none) →
    YieldTo2 P l x.1 x.2 w fun e w' => ∃ F', Step w F w' F' ∧ ((e = .returned (.bool true) ∧ (Y (k + 1)).h F' w') ∨ (e = .returned (.bool false) ∧ Z.h F' w'))

/-- the function gf, with what it has captured, yields xs, one after the other -/
def Iter2 (P : Program) (gf : Nat) (caps : Array Value) (xs : List (Value × Value)) (u0 : Im) : Prop :=
  ∀ l (Y : Nat → Wp u0) (Z : Wp u0) w F, Rounds2 P l Y Z xs → Imm u0 w → (Y 0).h F w → (∀ b, F b → u0.h b = none) →
    Calls P gf (#[.func (.yield l) #[] #[]] ++ caps) w fun e w' => ∃ v F', e = .returned v ∧ Step w F w' F' ∧ ((Y xs.length).h F' w' ∨ Z.h F' w')

/-- a call of yield -/
theorem xl_yield2 {C : Cx} (hro : C.ro = none) {all : List Oper} {o : Oper} {r : List Oper} {Q : Post} {kn : Kn} {gk : List (Nat × (Gd × SV))} {ow : Own} {nx : Nat} {u u0 : Im} {c : Call} {l kY k d : Nat} {Y : Nat → Wp u0} {Z : Wp u0} {xs : List (Value × Value)} {x y : Value} {fo : Operand}
    (hR : Rounds2 C.P l Y Z xs) (ho : o.op = .call c) (hgd : o.guard = none) (hd : o.dst = some d) (hc : c.callee = .value fo) (hfo : opd ⟨kn, gk, ow, nx⟩ [] fo = some (.v (.func (.yield l) #[] #[])))
    (hargs : argsOf ⟨kn, gk, ow, nx⟩ [] c.args.toList = some [.v x, .v y]) (hfr : fresh C.N ⟨kn, gk, ow, nx⟩ d [] = true) (hY : look ow kY = some (.gen (Y k).hp)) (hx : xs[k]? = some (x, y))
    (K1 : XL C all r Q ⟨(d, .v (.bool true)) :: kn, gk, (kY, .gen (Y (k + 1)).hp) :: ow, nx⟩ u)
    (K2 : XL C all r Q ⟨(d, .v (.bool false)) :: kn, gk, (kY, .gen Z.hp) :: ow, nx⟩ u) : XL C all (o :: r) Q ⟨kn, gk, ow, nx⟩ u := by
  obtain ⟨P, ro, N⟩ := C
  simp only at hro
  subst hro
  unfold XL
  intro E a w hok
  obtain ⟨f, hsat⟩ := hok.sat
  have hgs : gs a.tmps [] := fun x hx => by cases hx
  obtain ⟨ef, _⟩ := opd_sound hok.agr hgs hfo
  obtain ⟨ea, _⟩ := argsOf_sound hok.agr hgs hargs
  simp only [SV.den] at ef
  obtain ⟨hYw, hext⟩ : (Y k).hp.h u (f kY) w := hsat.holds kY _ hY
  have hoff0 : ∀ b, f kY b → u0.h b = none := fun b hb => by
    cases h0 : u0.h b with
    | none => rfl
    | some o => have h1 := hext.h b o h0; rw [hsat.off kY b hb] at h1; cases h1
  obtain ⟨fn, tmps, asg, body, hrun, hround⟩ := hR k (x, y) w (f kY) hx (hsat.imm.of_ext hext) hYw hoff0
  have ea' : c.args.map a.eval = #[x, y] := by
    apply Array.ext'
    simpa [SV.den] using ea
  have hrun2 : (execOp a.eval o).run P w = .ok (.round l fn tmps asg body) w := by
    simp only [execOp, ho]
    simp [resolve, hc, ef, Deferred.ofValue, invoke, ea', hrun]
  unfold wpListIn
  rw [if_pos (by simp [Region.wanted, hgd])]
  refine ⟨fun _ _ => trivial, ?_⟩
  rw [semAt_eq _ _ _ (fun c' hc' => by rw [ho] at hc'; cases hc'), hrun2, Oper.uponIn_round]
  refine ⟨fun h => (by cases h), RoundIn.mono hround ?_⟩
  rintro e w' ⟨F', hst, hh⟩
  have himm : Imm u w' := hsat.imm.of_step hst (fun b hb => hsat.off kY b hb)
  have main : ∀ (b : Bool) (A : Hp), A.h u F' w' → (XL ⟨P, none, N⟩ all r Q ⟨(d, .v (.bool b)) :: kn, gk, (kY, .gen A) :: ow, nx⟩ u) →
      wpListIn (FR none) 0 P all.toArray (SemQ ⟨P, none, N⟩ E nx u Q) r (a.put o.dst (.bool b)) w' := by
    intro b A hA K
    unfold XL at K
    have hs2 : Sat E ((kY, .gen A) :: ow) nx u a.defers w' (upd f kY F') := by
      refine hsat.step (fun j => j = kY) (fun _ _ => rfl) (Nat.le_refl _) (Im.le.refl u) himm hst.size (fun b hb hno => hst.same b hb (hno kY rfl)) ?_ ?_ ?_ (fun b o ho => .inl ho)
      · intro j hj
        exact ⟨by rw [look_cons, if_neg (Ne.symm hj)], fun b => by rw [upd_other _ _ hj]⟩
      · rintro j rfl
        refine ⟨fun r hr => ?_, fun hr => ?_, fun b hb => ?_⟩
        · rw [look_cons, if_pos rfl] at hr
          cases hr
          refine ⟨?_, (hsat.lt _ _ hY).1, trivial⟩
          simp only [Rs.holds, upd_same]; exact hA
        · rw [look_cons, if_pos rfl] at hr; cases hr
        · rw [upd_same] at hb
          refine ⟨(hst.foot b hb).imp (fun h => ⟨j, rfl, h⟩) id, ?_⟩
          rcases hst.foot b hb with h | h
          · exact hsat.off j b h
          · cases hub : u.h b with
            | none => rfl
            | some o => have := (Array.getElem?_eq_some_iff.1 (hsat.imm.h b o hub)).1; omega
      · intro j j' b hj hj' hne; subst hj hj'; exact absurd rfl hne
    have hag : Agr N E ⟨kn, gk, (kY, .gen A) :: ow, nx⟩ a.tmps := ⟨hok.agr.size, hok.agr.kn, hok.agr.gk, hok.agr.klt, hok.agr.glt⟩
    have hput := hag.put (g := []) (d := d) (s := .v (.bool b)) (x := .bool b) hfr (fun _ => trivial) (fun _ => rfl) (fun hn => absurd (fun x hx => (by cases hx)) hn) (fun _ => rfl)
    rw [hd]
    exact K E (a.put (some d) (.bool b)) w' ⟨⟨hput.size, hput.kn, hput.gk, hput.klt, hput.glt⟩, _, hs2⟩
  rcases hh with ⟨rfl, hA⟩ | ⟨rfl, hA⟩
  · exact main true (Y (k + 1)).hp ⟨hA, hext⟩ K1
  · exact main false Z.hp ⟨hA, hext⟩ K2

/-- an iterator's contract, out of its body's walk -/
theorem x_iter2 {T : TT} {P : Program} (hT : TOk P T) {gf N : Nat} {fn : Func} {c : Code} (hf : P.funcs[gf]? = some fn) (hb : fn.body = some c) (hN : fn.ntmps = N)
    {caps : Array Value} {xs : List (Value × Value)} {u0 : Im} (bs : List (Value × Data)) (ss : List SV) (E : Env) (hE : ∀ j (b : Value × Data), bs[j]? = some b → E (j + 1) = b.1)
    (hcaps : caps = (ss.map (SV.den E)).toArray) (hle : Nat.ble (ss.length + 1) N = true) (hss : ∀ s ∈ ss, s.lt E (bs.length + 1)) (hbs : ∀ b ∈ bs, SlAt u0 b.1 b.2)
    (h : ∀ l (Y : Nat → Wp u0) (Z : Wp u0) u, u0.ext u → Rounds2 P l Y Z xs → X ⟨P, none, N⟩ c (FinQ T fn.results.toList fun _ st _ => look st.ow 0 = some (.gen (Y xs.length).hp) ∨ look st.ow 0 = some (.gen Z.hp))
      ⟨knOf 0 (.v (.func (.yield l) #[] #[]) :: ss), [], (0, .gen (Y 0).hp) :: ownOf 1 bs, bs.length + 1⟩ u) : Iter2 P gf caps xs u0 := by
  classical
  intro l Y Z w F hR himm hY0 hoff
  -- all but F is known to stay
  let v : Im := { h := fun b => if F b then none else w.heap[b]?, os := w.os, tape := w.tape, output := w.output, lo := w.heap.size }
  have hv : ∀ b, ¬ F b → v.h b = w.heap[b]? := fun b hb => by show (if F b then none else w.heap[b]?) = _; rw [if_neg hb]
  have hvF : ∀ b, F b → v.h b = none := fun b hb => by show (if F b then none else w.heap[b]?) = _; rw [if_pos hb]
  have huv : u0.ext v := ⟨fun b o ho => by rw [hv b (fun hF => by rw [hoff b hF] at ho; cases ho)]; exact himm.h b o ho, himm.os, himm.tape, himm.output, himm.lo⟩
  have himmv : Imm v w := ⟨fun b o ho => by
    by_cases hb : F b
    · rw [hvF b hb] at ho; cases ho
    · rw [hv b hb] at ho; exact ho, rfl, rfl, rfl, Nat.le_refl _⟩
  have hsat : Sat E ((0, .gen (Y 0).hp) :: ownOf 1 bs) (bs.length + 1) v [] w (fun k b => k = 0 ∧ F b) := by
    have hol : ∀ k r, look (ownOf 1 bs) k = some r → ∃ j b, k = j + 1 ∧ bs[j]? = some b ∧ r = .sl b.2 := fun k r hl => by
      obtain ⟨h1, b, h2, h3⟩ := ownOf_look hl
      exact ⟨k - 1, b, by omega, h2, h3⟩
    refine ⟨fun k r hl => ?_, fun k hl b hb => ?_, fun k k' b hne h1 h2 => hne (h1.1.trans h2.1.symm), fun k b hb => hvF b hb.2, fun k r hl => ?_, himmv, [], rfl, List.nodup_nil, fun d hd => by cases hd⟩
    · rw [look_cons] at hl
      split at hl
      · rename_i e; subst e; cases hl
        have : (fun b => (0 : Nat) = 0 ∧ F b) = F := funext fun b => propext ⟨fun h => h.2, fun h => ⟨rfl, h⟩⟩
        show (Y 0).hp.h v (fun b => (0 : Nat) = 0 ∧ F b) w
        rw [this]
        exact ⟨hY0, huv⟩
      · rename_i e
        obtain ⟨j, b, rfl, hj, rfl⟩ := hol k r hl
        refine ⟨?_, fun x hx => e hx.1.symm⟩
        rw [hE j b hj]
        exact (hbs b (List.mem_of_getElem? hj)).sub huv.sub
    · obtain ⟨rfl, _⟩ := hb
      rw [look_cons, if_pos rfl] at hl; cases hl
    · rw [look_cons] at hl
      split at hl
      · rename_i e; subst e; cases hl; exact ⟨Nat.succ_pos _, trivial⟩
      · obtain ⟨j, b, rfl, hj, rfl⟩ := hol k r hl
        exact ⟨Nat.succ_lt_succ (List.getElem?_eq_some_iff.1 hj).1, trivial⟩
  refine (callsIn_wide (n := 0)).1 (callsIn_of_wp_marks hf hb trivial ?_ rfl)
  have hle' : ss.length + 1 ≤ N := Nat.le_of_ble_eq_true hle
  have hargs : (#[.func (.yield l) #[] #[]] ++ caps : Array Value) = ((SV.v (.func (.yield l) #[] #[]) :: ss).map (SV.den E)).toArray := by
    rw [hcaps]
    apply Array.ext'
    simp [SV.den]
  rw [hargs]
  have hlt : ∀ s ∈ (SV.v (.func (.yield l) #[] #[]) :: ss), s.lt E (bs.length + 1) := fun s hs => by
    rcases List.mem_cons.1 hs with rfl | hs
    · trivial
    · exact hss s hs
  have hagr : Agr N E ⟨knOf 0 (SV.v (.func (.yield l) #[] #[]) :: ss), [], (0, .gen (Y 0).hp) :: ownOf 1 bs, bs.length + 1⟩ (((SV.v (.func (.yield l) #[] #[]) :: ss).map (SV.den E)).toArray ++ Array.replicate (fn.ntmps - (((SV.v (.func (.yield l) #[] #[]) :: ss).map (SV.den E)).toArray).size) undef) := by
    refine ⟨?_, ?_, fun d g s h => (by cases h), ?_, fun d g s h => (by cases h)⟩
    · rw [hN]; simp; omega
    · intro d s _ h2
      have h3 := (knOf_look h2).2
      rw [Nat.sub_zero] at h3
      have hd : d < (SV.v (.func (.yield l) #[] #[]) :: ss).length := (List.getElem?_eq_some_iff.1 h3).1
      rw [Array.getElem?_append_left (by simpa using hd)]
      simp only [List.getElem?_toArray, List.getElem?_map, h3, Option.map_some]
    · intro d s h2
      exact hlt s (List.mem_of_getElem? (knOf_look h2).2)
  have hX := h l Y Z v huv hR
  unfold X at hX
  refine Go.wpIn_mono (hX E { tmps := ((SV.v (.func (.yield l) #[] #[]) :: ss).map (SV.den E)).toArray ++ Array.replicate (fn.ntmps - (((SV.v (.func (.yield l) #[] #[]) :: ss).map (SV.den E)).toArray).size) undef, defers := [] } w ⟨hagr, _, hsat⟩) ?_
  rintro e a' w' ⟨E', st', u', h1, h2, h3, hok', h5⟩
  obtain ⟨f', hs⟩ := hok'.sat
  have fin : ∀ lr, resV T st' fn.results.toList = some lr → (look st'.ow 0 = some (.gen (Y xs.length).hp) ∨ look st'.ow 0 = some (.gen Z.hp)) →
      LeavesInM (FR none) 0 P fn a'.tmps (fun e w' => ∃ v F', e = .returned v ∧ Step w F w' F' ∧ ((Y xs.length).h F' w' ∨ Z.h F' w')) a'.defers .returning w' := by
    intro lr hl hA
    obtain ⟨ds, hds, _⟩ := hs.marks
    rw [hds] at hs ⊢
    refine leaves (C := ⟨P, none, N⟩) hT hok'.agr hl (fun w'' hw => ?_) ds w' hs
    refine ⟨_, f' 0, rfl, ⟨hw.imm.os.trans h3.os, hw.imm.tape.trans h3.tape, hw.imm.output.trans h3.output, by have := hw.imm.lo; rw [h3.lo] at this; exact this, fun b hb hF => ?_, fun b hb => ?_⟩, ?_⟩
    · have h1 : v.h b = some (w.heap[b]'hb) := by rw [hv b hF]; exact Array.getElem?_eq_getElem hb
      rw [hw.imm.h b _ (h3.h b _ h1), Array.getElem?_eq_getElem hb]
    · by_cases hF : F b
      · exact .inl hF
      · rcases Nat.lt_or_ge b w.heap.size with hlt | hge
        · have h1 : v.h b = some (w.heap[b]'hlt) := by rw [hv b hF]; exact Array.getElem?_eq_getElem hlt
          have h2 := h3.h b _ h1
          rw [hw.off 0 b hb] at h2; cases h2
        · exact .inr hge
    · rcases hA with hA | hA
      · exact .inl (hw.holds 0 _ hA).1
      · exact .inr (hw.holds 0 _ hA).1
  cases e with
  | normal =>
    simp only [FinQ] at h5
    split at h5
    · rename_i l hl; exact fin l hl h5
    · exact h5.elim
  | ret =>
    simp only [FinQ] at h5
    split at h5
    · rename_i l hl; exact fin l hl h5
    · exact h5.elim
  | exit id => exact h5.elim
  | goto l => exact h5.elim
  | panic c => exact h5.elim
  | outgrown => exact h5.elim
def recL2 (fn : Nat) (tm : Array Value) (p q : Nat) (asg body : Code) (D : Nat) (st : LoopState) (pe : Option Code) : Loop :=
  { state := st, pending := pe, fn, tmps := tm, params := #[p, q], assign := asg, body, defers := D }

theorem rounds_of2 {σ τ : Type} {P : Program} {N l keep : Nat} {ue : Im} {E0 : Env} {tm : Array Value} {kn : Kn} {ow0 : Own} {n0 : Nat} (hagr : Agr N E0 ⟨kn, [], ow0, n0⟩ tm) (hkn : kn.all (fun x => x.2.inN keep) = true)
    (ms : List Nat) (fn p q : Nat) (asg body : Code) (D : Nat) (hdo : σ → Own) (hdn : σ → Nat) (G : Nat → σ → Im → Prop) (hxo : τ → Own) (hxn : τ → Nat) (GX : τ → Exit → Im → Prop)
    (hfree : ∀ s, look (hdo s) keep = none) (hfreex : ∀ t, look (hxo t) keep = none) (hnx : ∀ s, keep < hdn s) (hp : p < N) (hq : q < N) {xs : List (Value × Value)}
    (hround : ∀ k x s u' (Fr Fr' : Hp), xs[k]? = some x → ue.le u' → G k s u' →
      X ⟨P, some l, N⟩ asg (onlyN fun st1 u1 => st1.gk = [] ∧ look st1.ow keep = some (.gen Fr) ∧ X ⟨P, some l, N⟩ body (RQ keep hdo hdn (G (k + 1)) hxo hxn GX Fr') ⟨st1.kn, [], (keep, .gen Fr') :: st1.ow, st1.nx⟩ u1)
        ⟨(q, .v x.2) :: (p, .v x.1) :: kn, [], (keep, .gen Fr) :: hdo s, hdn s⟩ u') :
    Rounds2 P l (fun k => inW keep E0 ue l ms (fun _ : σ => recL2 fn tm p q asg body D .ready none) hdo hdn (G k))
      (inW keep E0 ue l ms (fun t : τ × Code => recL2 fn tm p q asg body D .done (some t.2)) (fun t => hxo t.1) (fun t => hxn t.1) (fun t u => ∃ e, jmp e = some t.2 ∧ GX t.1 e u)) xs := by
  rintro k x w F hx himm ⟨s, E, f, uc, hin⟩ hoff
  refine ⟨fn, (tm.setIfInBounds p x.1).setIfInBounds q x.2, asg, body, ?_, roundIn_of_wpIn trivial ?_⟩
  · have := run_yield (P := P) (args := #[x.1, x.2]) hin.loop rfl
    rw [this]
    simp [recL2]
  let S : Nat → Prop := fun b => b < w.heap.size ∧ (∀ k, ¬ f k b) ∧ uc.h b = none
  have hlS : S l := ⟨(Array.getElem?_eq_some_iff.1 hin.loop).1, hin.lf, hin.lu⟩
  let Fr : Hp := frameHp S (fun b => w.heap[b]?) w.heap.size
  have hfk : ∀ b, ¬ f keep b := hin.sat.non keep (hfree s)
  have hsat : Sat E ((keep, .gen Fr) :: hdo s) (hdn s) uc [] w (upd f keep S) := by
    refine ⟨fun j r hl => ?_, fun j hl b hb => ?_, fun j j' b hne h1 h2 => ?_, fun j b hb => ?_, fun j r hl => ?_, hin.sat.imm, [], rfl, List.nodup_nil, fun d hd => by cases hd⟩
    · rw [look_cons] at hl
      split at hl
      · rename_i e; subst e; cases hl
        simp only [Rs.holds, upd_same]
        exact ⟨fun b => Iff.rfl, Nat.le_refl _, fun b hb => ⟨rfl, hb.1⟩⟩
      · rename_i e
        rw [upd_other _ _ (Ne.symm e)]
        exact hin.sat.holds j r hl
    · rw [look_cons] at hl
      split at hl
      · cases hl
      · rename_i e
        rw [upd_other _ _ (Ne.symm e)] at hb
        exact hin.sat.non j hl b hb
    · by_cases e : j = keep
      · subst e
        rw [upd_same] at h1
        rw [upd_other _ _ (Ne.symm hne)] at h2
        exact h1.2.1 j' h2
      · rw [upd_other _ _ e] at h1
        by_cases e' : j' = keep
        · subst e'
          rw [upd_same] at h2
          exact h2.2.1 j h1
        · rw [upd_other _ _ e'] at h2
          exact hin.sat.apart j j' b hne h1 h2
    · by_cases e : j = keep
      · subst e; rw [upd_same] at hb; exact hb.2.2
      · rw [upd_other _ _ e] at hb; exact hin.sat.off j b hb
    · rw [look_cons] at hl
      split at hl
      · rename_i e; subst e; cases hl; exact ⟨hnx s, trivial⟩
      · exact hin.sat.lt j r hl
  have hA0 : Agr N E ⟨kn, [], (keep, .gen Fr) :: hdo s, hdn s⟩ tm := hagr.keepE hkn hin.env (Nat.le_of_lt (hnx s))
  have hA : Agr N E ⟨(q, .v x.2) :: (p, .v x.1) :: kn, [], (keep, .gen Fr) :: hdo s, hdn s⟩ ((tm.setIfInBounds p x.1).setIfInBounds q x.2) := by
    have hsz := hA0.size
    refine ⟨by simpa using hsz, fun d sv _ hl => ?_, fun d g s h => (by cases h), fun d sv hl => ?_, fun d g s h => (by cases h)⟩
    · rw [look_cons] at hl
      split at hl
      · rename_i e; subst e; cases hl
        simp only [SV.den]
        rw [Array.getElem?_setIfInBounds, if_pos rfl, if_pos (by simp; omega)]
      · rename_i e
        rw [Array.getElem?_setIfInBounds_ne e]
        rw [look_cons] at hl
        split at hl
        · rename_i e; subst e; cases hl
          simp only [SV.den]
          rw [Array.getElem?_setIfInBounds, if_pos rfl, if_pos (by omega)]
        · rename_i e
          rw [Array.getElem?_setIfInBounds_ne e]
          exact hA0.kn d sv rfl hl
    · rw [look_cons] at hl
      split at hl
      · cases hl; trivial
      · rw [look_cons] at hl
        split at hl
        · cases hl; trivial
        · exact hA0.klt d sv hl
  let ldone : Loop := recL2 fn tm p q asg body D .busy none
  have hX1 : ∀ Fr' : Hp, (asg.wpIn (FR (some l)) 0 P (SemQ ⟨P, some l, N⟩ E (hdn s) uc (onlyN fun st1 u1 => st1.gk = [] ∧ look st1.ow keep = some (.gen Fr) ∧ X ⟨P, some l, N⟩ body (RQ keep hdo hdn (G (k + 1)) hxo hxn GX Fr') ⟨st1.kn, [], (keep, .gen Fr') :: st1.ow, st1.nx⟩ u1))
      { tmps := (tm.setIfInBounds p x.1).setIfInBounds q x.2, defers := [] } w) := fun Fr' => by
    exact (hround k x s uc Fr Fr' hx hin.le hin.g).run (C := ⟨P, some l, N⟩) (a := { tmps := (tm.setIfInBounds p x.1).setIfInBounds q x.2, defers := [] }) ⟨hA, _, hsat⟩
  -- what the heap is behind beginRound, at the blocks that stay
  let o2 : Nat → Option Obj := fun b => if b = l then some (.loop ldone) else w.heap[b]?
  let Fr2 : Hp := frameHp S o2 w.heap.size
  refine Go.wpIn_mono (hX1 Fr2) ?_
  rintro e a1 w1 ⟨E1, st1, u1, hE1, hn1, hu1, hok1, h5⟩
  cases e with
  | exit id => exact h5.elim
  | goto t => exact h5.elim
  | ret => exact h5.elim
  | panic c => exact h5.elim
  | outgrown => exact h5.elim
  | normal =>
    obtain ⟨hgk, hlk, hX2⟩ := h5
    obtain ⟨f1, hs1⟩ := hok1.sat
    obtain ⟨hS1, hsz1, hfr1⟩ := hs1.holds keep _ hlk
    have hl1 : w1.heap[l]? = some (.loop (recL2 fn tm p q asg body D .ready none)) := (hfr1 l hlS).1.trans hin.loop
    have hl1lt := (hfr1 l hlS).2
    refine ⟨w1.putObj l (.loop ldone), ?_, ?_⟩
    · have := run_beginRound (P := P) hl1 rfl
      rw [this]; rfl
    have hoth : ∀ b, b ≠ l → (w1.putObj l (.loop ldone)).heap[b]? = w1.heap[b]? := fun b hb => World.putObj_heap_other hb
    have hsz2 : (w1.putObj l (.loop ldone)).heap.size = w1.heap.size := by simp [World.putObj]
    have hu1l : u1.h l = none := hs1.off keep l ((hS1 l).2 hlS)
    have himm2 : Imm u1 (w1.putObj l (.loop ldone)) := ⟨fun b o hb => by rw [hoth b (fun e => by subst e; rw [hu1l] at hb; cases hb)]; exact hs1.imm.h b o hb, hs1.imm.os, hs1.imm.tape, hs1.imm.output, by rw [hsz2]; exact hs1.imm.lo⟩
    have hs2 : Sat E1 ((keep, .gen Fr2) :: st1.ow) st1.nx u1 a1.defers (w1.putObj l (.loop ldone)) f1 := by
      refine hs1.step (fun j => j = keep) (fun _ _ => rfl) (Nat.le_refl _) (Im.le.refl u1) himm2 (Nat.le_of_eq hsz2.symm) (fun b _ hno => hoth b (fun e => hno keep rfl ((hS1 b).2 (e ▸ hlS)))) ?_ ?_ ?_ (fun b o ho => .inl ho)
      · intro j hj
        exact ⟨by rw [look_cons, if_neg (Ne.symm hj)], fun b => Iff.rfl⟩
      · rintro j rfl
        refine ⟨fun r hr => ?_, fun hr => ?_, fun b hb => ⟨.inl ⟨j, rfl, hb⟩, hs1.off j b hb⟩⟩
        · rw [look_cons, if_pos rfl] at hr
          cases hr
          refine ⟨⟨hS1, by rw [hsz2]; exact hsz1, fun b hb => ?_⟩, (hs1.lt _ _ hlk).1, trivial⟩
          by_cases e : b = l
          · subst e
            refine ⟨?_, by rw [hsz2]; exact hl1lt⟩
            show _ = (if b = b then _ else _)
            rw [if_pos rfl]; exact World.putObj_heap_same hl1lt
          · refine ⟨?_, by rw [hsz2]; exact (hfr1 b hb).2⟩
            show _ = (if b = l then _ else _)
            rw [if_neg e, hoth b e]; exact (hfr1 b hb).1
        · rw [look_cons, if_pos rfl] at hr; cases hr
      · intro j j' b hj hj' hne; subst hj hj'; exact absurd rfl hne
    have hag2 : Agr N E1 ⟨st1.kn, [], (keep, .gen Fr2) :: st1.ow, st1.nx⟩ a1.tmps :=
      ⟨hok1.agr.size, fun d s _ hl => hok1.agr.kn d s (by rw [hgk]; rfl) hl, fun d g s h => (by cases h), hok1.agr.klt, fun d g s h => (by cases h)⟩
    refine Go.wpIn_mono (hX2.run (C := ⟨P, some l, N⟩) ⟨hag2, _, hs2⟩) ?_
    rintro e a3 w3 ⟨E3, st3, u3, hE3, hn3, hu3, hok3, h6⟩
    obtain ⟨f3, hs3⟩ := hok3.sat
    have hs3' : Sat E3 st3.ow st3.nx u3 [] w3 f3 := ⟨hs3.holds, hs3.non, hs3.apart, hs3.off, hs3.lt, hs3.imm, [], rfl, List.nodup_nil, fun d hd => by cases hd⟩
    have hko : keep < hdn s := hnx s
    have hn1' : hdn s ≤ st1.nx := hn1
    have ho2 : ∀ b, b ≠ l → S b → o2 b = w.heap[b]? := fun b hb _ => by
      show (if b = l then _ else _) = _
      rw [if_neg hb]
    have fin : ∀ (ow3 : Own) (nx3 : Nat) (G3 : Im → Prop) (ρ : Ren) (rec' : Loop), Sub (keep + 1) ρ ⟨[], [], st3.ow, st3.nx⟩ ⟨[], [], (keep, .gen Fr2) :: ow3, nx3⟩ → look ow3 keep = none → G3 u3 →
        w3.heap[l]? = some (.loop ldone) ∧ ∃ F', Step w F (w3.putObj l (.loop rec')) F' ∧ ∃ E4 f5, InL keep E0 ue l rec' ms ow3 nx3 G3 F' (w3.putObj l (.loop rec')) E4 f5 u3 := by
      intro ow3 nx3 G3 ρ rec' hsub hfr hg
      obtain ⟨E4, f4, hE4, hs4⟩ := hsub.sat hs3'
      obtain ⟨_, _, hfr4⟩ := hs4.holds keep _ (by rw [look_cons, if_pos rfl])
      have hl3 : w3.heap[l]? = some (.loop ldone) := by
        rw [(hfr4 l hlS).1]
        show (if l = l then _ else _) = _
        rw [if_pos rfl]
      obtain ⟨F', hst, f5, hI⟩ := round_end (rec' := rec') hin himm (hu1.trans hu3) (fun j hj => by
        rw [hE4 j (by omega), hE3 j (by show j < st1.nx; omega), hE1 j (by omega), hin.env j hj]) ho2 hs4 hfr hg
      exact ⟨hl3, F', hst, E4, f5, hI⟩
    have stop : ∀ (e : Exit) (cj : Code), jmp e = some cj → (∃ t ρ, Sub (keep + 1) ρ ⟨[], [], st3.ow, st3.nx⟩ ⟨[], [], (keep, .gen Fr2) :: hxo t, hxn t⟩ ∧ GX t e u3) →
        ∃ v w', (Instr.endRound l (some cj)).run P w3 = .ok v w' ∧ ∃ F', Step w F w' F' ∧ ((Ending.returned v = .returned (.bool true) ∧
          (inW keep E0 ue l ms (fun _ : σ => recL2 fn tm p q asg body D .ready none) hdo hdn (G (k + 1))).h F' w') ∨ (Ending.returned v = .returned (.bool false) ∧
          (inW keep E0 ue l ms (fun t : τ × Code => recL2 fn tm p q asg body D .done (some t.2)) (fun t => hxo t.1) (fun t => hxn t.1) (fun t u => ∃ e, jmp e = some t.2 ∧ GX t.1 e u)).h F' w')) := by
      rintro e cj hj ⟨t, ρ, hsub, hg⟩
      obtain ⟨hl3, F', hst, E4, f5, hI⟩ := fin (hxo t) (hxn t) (fun u => ∃ e, jmp e = some cj ∧ GX t e u) ρ (recL2 fn tm p q asg body D .done (some cj)) hsub (hfreex t) ⟨e, hj, hg⟩
      exact ⟨_, _, run_endRound (P := P) (some cj) hl3, F', hst, .inr ⟨rfl, (t, cj), E4, f5, u3, hI⟩⟩
    cases e with
    | normal =>
      obtain ⟨s', ρ, hsub, hg⟩ := h6
      obtain ⟨hl3, F', hst, E4, f5, hI⟩ := fin (hdo s') (hdn s') (G (k + 1) s') ρ (recL2 fn tm p q asg body D .ready none) hsub (hfree s') hg
      exact ⟨_, _, run_endRound (P := P) none hl3, F', hst, .inl ⟨rfl, s', E4, f5, u3, hI⟩⟩
    | ret => exact stop .ret _ rfl h6
    | exit id => exact stop (.exit id) _ rfl h6
    | goto t => exact stop (.goto t) _ rfl h6
    | panic c => exact h6.elim
    | outgrown => exact h6.elim

/-- a range over a function -/
theorem x_range2 {σ τ : Type} {P : Program} {N : Nat} {g : Operand} {p q : Nat} {asg body : Code} {Q : Post} {kn : Kn} {ow : Own} {nx : Nat} {u : Im} {gf : Nat} {caps : Array Value} {xs : List (Value × Value)}
    (hg : opd ⟨kn, [], ow, nx⟩ [] g = some (.v (.func (.func gf) #[] caps))) (hfn : Fn1 P gf) (hit : Iter2 P gf caps xs u)
    (kn' : Kn) (hdo : σ → Own) (hdn : σ → Nat) (G : Nat → σ → Im → Prop) (hxo : τ → Own) (hxn : τ → Nat) (GX : τ → Exit → Im → Prop) (s0 : σ) (ρ0 : Ren)
    (h0 : Sub nx ρ0 ⟨kn, [], ow, nx⟩ ⟨kn', [], hdo s0, hdn s0⟩) (g0 : G 0 s0 u) (hkn : kn'.all (fun x => x.2.inN nx) = true)
    (hfree : ∀ s, look (hdo s) nx = none) (hfreex : ∀ t, look (hxo t) nx = none) (hnx : ∀ s, nx < hdn s) (hnxx : ∀ t, nx ≤ hxn t) (hp : Nat.blt p N = true) (hpq : Nat.blt q N = true)
    (hround : ∀ l k x s u' (Fr Fr' : Hp), xs[k]? = some x → u.le u' → G k s u' →
      X ⟨P, some l, N⟩ asg (onlyN fun st1 u1 => st1.gk = [] ∧ look st1.ow nx = some (.gen Fr) ∧ X ⟨P, some l, N⟩ body (RQ nx hdo hdn (G (k + 1)) hxo hxn GX Fr') ⟨st1.kn, [], (nx, .gen Fr') :: st1.ow, st1.nx⟩ u1)
        ⟨(q, .v x.2) :: (p, .v x.1) :: kn', [], (nx, .gen Fr) :: hdo s, hdn s⟩ u')
    (hdone : ∀ s u', u.le u' → G xs.length s u' → Q .normal ⟨kn', [], hdo s, hdn s⟩ u')
    (hstop : ∀ t e u', u.le u' → GX t e u' → Q e ⟨kn', [], hxo t, hxn t⟩ u') : X ⟨P, none, N⟩ (.rangeFunc g #[p, q] asg body) Q ⟨kn, [], ow, nx⟩ u := by
  unfold X
  intro E a w hok
  obtain ⟨E1, hE1, hok1⟩ := h0.ok hok
  obtain ⟨f0, hs0⟩ := hok1.sat
  have hagr := hok1.agr
  have hgs : gs a.tmps [] := fun x hx => by cases hx
  obtain ⟨eg, _⟩ := opd_sound hok.agr hgs hg
  simp only [SV.den] at eg
  obtain ⟨ds, hds, hnd, hm⟩ := hs0.marks
  refine wpIn_rangeFunc ?_
  intro fn _
  obtain ⟨D, hD⟩ : ∃ D, D = w.heap.size := ⟨_, rfl⟩
  obtain ⟨l, hl⟩ : ∃ l, l = w.heap.size + 1 := ⟨_, rfl⟩
  obtain ⟨W1, hW1⟩ : ∃ W1, W1 = (w.alloc (.deferred (some []))).alloc (.loop (recL2 fn a.tmps p q asg body D .ready none)) := ⟨_, rfl⟩
  have hsz : W1.heap.size = w.heap.size + 2 := by rw [hW1, World.size_alloc, World.size_alloc]
  have hold : ∀ b, b < w.heap.size → W1.heap[b]? = w.heap[b]? := fun b hb => by
    rw [hW1, Below.heap_alloc _ _ _ (by rw [World.size_alloc]; omega), Below.heap_alloc _ _ _ hb]
  have hl1 : W1.heap[l]? = some (.loop (recL2 fn a.tmps p q asg body D .ready none)) := by
    have := heap_alloc_new (w.alloc (.deferred (some []))) (.loop (recL2 fn a.tmps p q asg body D .ready none))
    rw [World.size_alloc] at this
    rw [hW1, hl]; exact this
  have hD1 : W1.heap[D]? = some (.deferred (some [])) := by
    rw [hW1, hD, Below.heap_alloc _ _ _ (by rw [World.size_alloc]; omega)]
    exact heap_alloc_new w _
  have hult : ∀ b o, u.h b = some o → b < w.heap.size := fun b o ho => (Array.getElem?_eq_some_iff.1 (hs0.imm.h b o ho)).1
  have hflt : ∀ k b, f0 k b → b < w.heap.size := fun k b hb => hs0.fin hb
  have himm1 : Imm u W1 := ⟨fun b o ho => (hold b (hult b o ho)).trans (hs0.imm.h b o ho), by rw [hW1]; exact hs0.imm.os, by rw [hW1]; exact hs0.imm.tape, by rw [hW1]; exact hs0.imm.output, by rw [hsz]; exact Nat.le_trans hs0.imm.lo (by omega)⟩
  have hdlt : ∀ d ∈ ds, d < w.heap.size := fun d hd => (Array.getElem?_eq_some_iff.1 (hm d hd).1).1
  have hnone : ∀ b, w.heap.size ≤ b → u.h b = none := fun b hb => by
    cases ho : u.h b with
    | none => rfl
    | some o => have := hult b o ho; omega
  let F0 : Nat → Prop := fun b => (∃ j, f0 j b) ∨ b = l ∨ b ∈ D :: ds
  have hin0 : InL nx E1 u l (recL2 fn a.tmps p q asg body D .ready none) (D :: ds) (hdo s0) (hdn s0) (G 0 s0) F0 W1 E1 f0 u := by
    refine ⟨g0, Im.le.refl u, fun _ _ => rfl, hs0.local (fun k b hb => hold b (hflt k b hb)) himm1 (by omega), hl1, fun d hd => ?_, hnone l (by omega), fun k hk => by have := hflt k l hk; omega, .inr (.inl rfl), fun b o ho => .inl ho, fun k b hb => .inl ⟨k, hb⟩, ?_⟩
    · rcases List.mem_cons.1 hd with rfl | hd'
      · exact ⟨hD1, hnone _ (by omega), fun k hk => by have := hflt k _ hk; omega, .inr (.inr hd)⟩
      · obtain ⟨h1, h2, h3⟩ := hm d hd'
        exact ⟨(hold d (hdlt d hd')).trans h1, h2, h3, .inr (.inr hd)⟩
    · rintro b (⟨j, hb⟩ | rfl | hb)
      · have := hflt j b hb; omega
      · omega
      · rcases List.mem_cons.1 hb with rfl | hb
        · omega
        · have := hdlt b hb; omega
  have hoff0 : ∀ b, F0 b → u.h b = none := by
    rintro b (⟨j, hb⟩ | rfl | hb)
    · exact hs0.off j b hb
    · exact hnone _ (by omega)
    · rcases List.mem_cons.1 hb with rfl | hb
      · exact hnone _ (by omega)
      · exact (hm b hb).2.1
  have hR := rounds_of2 (P := P) (N := N) (l := l) (keep := nx) (ue := u) (E0 := E1) (tm := a.tmps) (kn := kn') hagr hkn (D :: ds) fn p q asg body D hdo hdn G hxo hxn GX hfree hfreex hnx (blt_lt hp) (blt_lt hpq) (xs := xs) (fun k x s u' Fr Fr' => hround l k x s u' Fr Fr')
  have hnd' : (D :: ds).Nodup := List.nodup_cons.2 ⟨fun h => by have := hdlt D h; omega, hnd⟩
  refine ⟨l, [{ target := .collected D, args := #[] }], W1, { target := .fn (.func gf) caps, args := #[.func (.yield l) #[] #[]] }, W1, gf, #[.func (.yield l) #[] #[]] ++ caps, W1, ?_, ?_, fun _ _ => trivial, ?_, fun h => (by cases h), ?_⟩
  · have := run_enterLoop_outer (P := P) (w := w) fn a.tmps #[p, q] asg body
    rw [hW1, hl, hD]; exact this
  · simp only [resolve, eg]
    simp [go_sem]
  · simp [invoke, go_sem, hfn.run]
  · refine (calls_in (hit l _ _ W1 F0 hR himm1 ⟨s0, E1, f0, u, hin0⟩ hoff0)).mono ?_
    -- behind the loop
    have fin : ∀ {rec : Loop} {ow' : Own} {nx' : Nat} {G' : Im → Prop} {F' : Nat → Prop} {w3 : World} {E' : Env} {f' : Nat → Nat → Prop} {uc : Im} (o : Obj), InL nx E1 u l rec (D :: ds) ow' nx' G' F' w3 E' f' uc → nx ≤ nx' →
        Ok ⟨P, none, N⟩ E' ⟨kn', [], ow', nx'⟩ uc { a with defers := [{ target := .collected D, args := #[] }] ++ a.defers } (w3.putObj l o) := by
      intro rec ow' nx' G' F' w3 E' f' uc o hI hn
      have hoth : ∀ b, b ≠ l → (w3.putObj l o).heap[b]? = w3.heap[b]? := fun b hb => World.putObj_heap_other hb
      have hsz3 : (w3.putObj l o).heap.size = w3.heap.size := by simp [World.putObj]
      have himm : Imm uc (w3.putObj l o) := ⟨fun b x hb => by rw [hoth b (fun e => by subst e; rw [hI.lu] at hb; cases hb)]; exact hI.sat.imm.h b x hb, hI.sat.imm.os, hI.sat.imm.tape, hI.sat.imm.output, by rw [hsz3]; exact hI.sat.imm.lo⟩
      have hs4 := hI.sat.local (w' := w3.putObj l o) (fun k b hb => hoth b (fun e => by subst e; exact hI.lf k hb)) himm (Nat.le_of_eq hsz3.symm)
      refine ⟨hagr.keepE hkn hI.env hn, f', hs4.holds, hs4.non, hs4.apart, hs4.off, hs4.lt, hs4.imm, D :: ds, ?_, hnd', fun d hd => ?_⟩
      · rw [hds]; rfl
      · obtain ⟨h1, h2, h3, _⟩ := hI.ml d hd
        refine ⟨?_, h2, h3⟩
        rw [hoth d (fun e => by rw [e, hI.loop] at h1; cases h1)]
        exact h1
    rintro e w3 ⟨v, F', rfl, hst, hY | hZ⟩
    · obtain ⟨s, E', f', uc, hI⟩ := hY
      refine ⟨none, _, run_endLoop (P := P) hI.loop (by simp [recL2]), ?_⟩
      exact ⟨E', _, uc, fun k hk => (hI.env k hk).trans (hE1 k hk), Nat.le_of_lt (hnx s), hI.le, fin _ hI (Nat.le_of_lt (hnx s)), hdone s uc hI.le hI.g⟩
    · obtain ⟨⟨t, cj⟩, E', f', uc, hI⟩ := hZ
      refine ⟨some cj, _, run_endLoop (P := P) hI.loop (by simp [recL2]), ?_⟩
      obtain ⟨e, hj, hgx⟩ := hI.g
      have hq : SemQ ⟨P, none, N⟩ E nx u Q e { a with defers := [{ target := .collected D, args := #[] }] ++ a.defers } (w3.putObj l (.loop { recL2 fn a.tmps p q asg body D .done (some cj) with state := .exhausted })) :=
        ⟨E', _, uc, fun k hk => (hI.env k hk).trans (hE1 k hk), hnxx t, hI.le, fin _ hI (hnxx t), hstop t e uc hI.le hgx⟩
      show cj.wpIn (FR none) 0 P (SemQ ⟨P, none, N⟩ E nx u Q) _ _
      cases e with
      | ret => cases hj; exact wpIn_ret hq
      | exit id => cases hj; exact wpIn_exit hq
      | goto t => cases hj; exact wpIn_goto hq
      | normal => cases hj
      | panic c => cases hj
      | outgrown => cases hj

/-! ## Parts of a slice, with their addresses -/
/-- x[l:h], as the model makes it -/
def partV (sz : Nat) (A : Option Addr) (c l h : Nat) : Value := .slice (if c = l then A else A.map (·.add (l * sz))) (h - l) (c - l)

theorem partV_slAt {α : Type} {Y : Lay α} {L : List α} {u : Im} {A : Option Addr} {n c l h : Nat} (hs : SlAt u (.slice A n c) (Y.d L)) (hl : l ≤ h) (hh : h ≤ L.length) : SlAt u (partV Y.fs.length A c l h) (Y.d ((L.take h).drop l)) := by
  have := (hs.take hh).drop (l := l) (by rw [List.length_take]; omega)
  exact this

theorem xl_fromE {T : TT} {C : Cx} (hT : TOk C.P T) {all : List Oper} {o : Oper} {r : List Oper} {Q : Post} {kn : Kn} {gk : List (Nat × (Gd × SV))} {ow : Own} {nx : Nat} {u : Im}
    {t e d n c : Nat} {A : Option Addr} {sv lv : Operand} {ti te : TI} {kl : IntKind} {l : Int} (ho : o.op = .slice t sv (some lv) none none) (hgd : o.guard = none) (hd : o.dst = some d)
    (hti : look T t = some ti) (hsh : ti.shp = .slice e) (hte : look T e = some te)
    (hs : opd ⟨kn, gk, ow, nx⟩ [] sv = some (.v (.slice A n c))) (hll : opd ⟨kn, gk, ow, nx⟩ [] lv = some (.v (.int kl l))) (hf : fresh C.N ⟨kn, gk, ow, nx⟩ d [] = true)
    (h0 : 0 ≤ l) (h1 : l ≤ n) (K : XL C all r Q ⟨(d, .v (partV te.sz A c l.toNat n)) :: kn, gk, ow, nx⟩ u) : XL C all (o :: r) Q ⟨kn, gk, ow, nx⟩ u := by
  refine xl_val _ hgd hd (fun c hc => by rw [ho] at hc; cases hc) hf (fun E a w hok => ?_) K
  have hgs : gs a.tmps [] := fun x hx => by cases hx
  have hu := (hT _ _ hti).isSlice hsh
  have hel : C.P.elem t = e := by simp [Program.elem, hu]
  have htek := hT _ _ hte
  obtain ⟨es, _⟩ := opd_sound hok.agr hgs hs
  obtain ⟨el, _⟩ := opd_sound hok.agr hgs hll
  simp only [SV.den] at es el
  have := run_slice_l (P := C.P) w t A n c (by rw [hel]; exact hu) kl l h0 h1
  simp only [execOp, ho, Option.map_none, Option.map_some, es, el]
  rw [Sem.run_bind, run_sliceAt_slice w t _ _ _ _ (by rw [hel]; exact hu), this, hel, run_sizeOf w htek]
  simp [Result.andThen, sliced, partV]

theorem xl_subE {T : TT} {C : Cx} (hT : TOk C.P T) {all : List Oper} {o : Oper} {r : List Oper} {Q : Post} {kn : Kn} {gk : List (Nat × (Gd × SV))} {ow : Own} {nx : Nat} {u : Im}
    {t e d n c : Nat} {A : Option Addr} {sv lv hv : Operand} {ti te : TI} {kl kh : IntKind} {l h : Int} (ho : o.op = .slice t sv (some lv) (some hv) none) (hgd : o.guard = none) (hd : o.dst = some d)
    (hti : look T t = some ti) (hsh : ti.shp = .slice e) (hte : look T e = some te)
    (hs : opd ⟨kn, gk, ow, nx⟩ [] sv = some (.v (.slice A n c))) (hll : opd ⟨kn, gk, ow, nx⟩ [] lv = some (.v (.int kl l))) (hhh : opd ⟨kn, gk, ow, nx⟩ [] hv = some (.v (.int kh h))) (hf : fresh C.N ⟨kn, gk, ow, nx⟩ d [] = true)
    (h0 : 0 ≤ l) (h1 : l ≤ h) (h2 : h ≤ c) (K : XL C all r Q ⟨(d, .v (partV te.sz A c l.toNat h.toNat)) :: kn, gk, ow, nx⟩ u) : XL C all (o :: r) Q ⟨kn, gk, ow, nx⟩ u := by
  refine xl_val _ hgd hd (fun c hc => by rw [ho] at hc; cases hc) hf (fun E a w hok => ?_) K
  have hgs : gs a.tmps [] := fun x hx => by cases hx
  have hu := (hT _ _ hti).isSlice hsh
  have hel : C.P.elem t = e := by simp [Program.elem, hu]
  have htek := hT _ _ hte
  obtain ⟨es, _⟩ := opd_sound hok.agr hgs hs
  obtain ⟨el, _⟩ := opd_sound hok.agr hgs hll
  obtain ⟨eh, _⟩ := opd_sound hok.agr hgs hhh
  simp only [SV.den] at es el eh
  have := run_slice_lh (P := C.P) w t A n c (by rw [hel]; exact hu) kl kh l h h0 h1 h2
  simp only [execOp, ho, Option.map_none, Option.map_some, es, el, eh]
  rw [Sem.run_bind, run_sliceAt_slice w t _ _ _ _ (by rw [hel]; exact hu), this, hel, run_sizeOf w htek]
  simp [Result.andThen, sliced, partV]

/-- ways meet behind a piece of code that ends normally -/
theorem x_via {C : Cx} {x : Code} {Q : Post} {st : St} {u : Im} {σ : Type} (hd : σ → St) (G : σ → Im → Prop) (hnx : ∀ s, st.nx ≤ (hd s).nx)
    (hx : X C x (onlyN (Meet st.nx hd G)) st u) (hy : ∀ s u', u.le u' → G s u' → Q .normal (hd s) u') : X C x Q st u := by
  unfold X at hx ⊢
  intro E a w hok
  refine Go.wpIn_mono (hx E a w hok) fun e a' w' hh => ?_
  obtain ⟨E2, st2, u2, h1, h2, h3, h4, h5⟩ := hh
  cases e with
  | normal =>
    simp only [onlyN] at h5
    unfold Meet at h5
    obtain ⟨s, ρ, h6, h7⟩ := h5
    obtain ⟨E3, hE3, hok3⟩ := h6.ok h4
    exact ⟨E3, hd s, u2, fun k hk => (hE3 k hk).trans (h1 k hk), hnx s, h3, hok3, hy s u2 h3 h7⟩
  | exit id => exact h5.elim
  | goto l => exact h5.elim
  | ret => exact h5.elim
  | panic ch => exact h5.elim
  | outgrown => exact h5.elim

/-- the answer holds an own row, which joins the others -/
theorem finStarO {σ : Type} {w0 : World} {ow : Own} {nx : Nat} {u : Im} {k ks : Nat} {e : TypeId} {D : Data} {l0 : List SI} {val : σ → Value} {l : σ → List SI} {G : σ → Prop} {vs : List SV} (hk : look ow k = some (.row e D)) (hks : look ow ks = some (.gen (starHp l0)))
    (H : ∀ A c, ∃ s, (∀ E : Env, E k = .slice A D.n c → tupV (vs.map (SV.den E)) = val s) ∧ l s = l0 ++ [⟨.slice A D.n c, e, D⟩] ∧ G s) : Done w0 (StarR val l G) vs ow nx u :=
  finP fun E w' F hs hu => by
    obtain ⟨h1, h2, h3⟩ := hs.holds ks _ hks
    obtain ⟨r1, r2⟩ := hs.holds k _ hk
    obtain ⟨A, c, hv⟩ := ownsRow_sl r1
    obtain ⟨s, q1, q2, q3⟩ := H A c
    have hne : k ≠ ks := fun hh => by rw [hh, hks] at hk; cases hk
    have new : ∀ j b, F j b → w0.heap.size ≤ b := fun j b hb => by
      have h4 := hs.off j b hb
      rcases Nat.lt_or_ge b w0.heap.size with hlt | hge
      · have : (im w0).h b = some w0.heap[b] := Array.getElem?_eq_getElem hlt
        rw [hu.h _ _ this] at h4; cases h4
      · exact hge
    refine ⟨s, q1 E hv, ?_, q3⟩
    rw [q2]
    refine ⟨fun p hp => ?_, ?_⟩
    · rcases List.mem_append.1 hp with hp | hp
      · exact ownAt_of (h1 p hp) fun b hb => new ks b ((h3 b).2 ⟨p, hp, hb⟩)
      · rw [List.mem_singleton.1 hp]
        exact ownAt_of (hv ▸ r1) fun b hb => new k b ((r2 b).2 (by rw [hv]; exact hb))
    · rw [starDis_at, List.append_nil]
      exact ⟨h2, fun q hq b hb hb' => hs.apart k ks b hne ((r2 b).2 (by rw [hv]; exact hb)) ((h3 b).2 ⟨q, hq, hb'⟩)⟩

theorem Sat.starTake {E : Env} {o : Own} {nx : Nat} {u : Im} {df : List Deferred} {w : World} {f : Nat → Nat → Prop} (h : Sat E o nx u df w f) {s n : Nat} {l : List SI} (hs : look o s = some (.gen (starHp l))) :
    Sat E ((s, .gen (starHp (l.take n))) :: o) nx u df w (upd f s (starF (l.take n))) := by
  obtain ⟨h1, h2, h3⟩ := h.holds s _ hs
  have hsub : ∀ b, starF (l.take n) b → f s b := fun b ⟨p, hp, hb⟩ => (h3 b).2 ⟨p, List.mem_of_mem_take hp, hb⟩
  refine h.regroup (fun j => j = s) (fun _ _ => rfl) (Nat.le_refl _) ?_ ?_ ?_
  · intro j hj
    exact ⟨by rw [look_cons, if_neg (fun e => hj e.symm)], fun b => by rw [upd_other _ _ hj]⟩
  · rintro j rfl
    refine ⟨fun r hr => ?_, fun hr => ?_, fun b hb => ⟨j, rfl, hsub b (by rw [upd_same] at hb; exact hb)⟩⟩
    · rw [look_cons, if_pos rfl] at hr
      cases hr
      exact ⟨⟨fun p hp => h1 p (List.mem_of_mem_take hp), h2.sublist (List.take_sublist n l), fun b => by rw [upd_same]⟩, (h.lt j _ hs).1, trivial⟩
    · rw [look_cons, if_pos rfl] at hr; cases hr
  · intro k k' b hk hk' hne; subst hk hk'; exact absurd rfl hne

/-- of the rows only the first ones are wanted -/
theorem xl_starTake {C : Cx} {all l : List Oper} {Q : Post} {kn : Kn} {gk : List (Nat × (Gd × SV))} {ow : Own} {nx : Nat} {u : Im} (s n : Nat) {sl : List SI} (hs : look ow s = some (.gen (starHp sl)))
    (K : XL C all l Q ⟨kn, gk, (s, .gen (starHp (sl.take n))) :: ow, nx⟩ u) : XL C all l Q ⟨kn, gk, ow, nx⟩ u := by
  unfold XL at K ⊢
  intro E a w hok
  obtain ⟨f, hsat⟩ := hok.sat
  exact K E a w ⟨⟨hok.agr.size, hok.agr.kn, hok.agr.gk, hok.agr.klt, hok.agr.glt⟩, _, hsat.starTake hs⟩

theorem x_starTake {C : Cx} {cc : Code} {Q : Post} {kn : Kn} {gk : List (Nat × (Gd × SV))} {ow : Own} {nx : Nat} {u : Im} (s n : Nat) {sl : List SI} (hs : look ow s = some (.gen (starHp sl)))
    (K : X C cc Q ⟨kn, gk, (s, .gen (starHp (sl.take n))) :: ow, nx⟩ u) : X C cc Q ⟨kn, gk, ow, nx⟩ u := by
  unfold X at K ⊢
  intro E a w hok
  obtain ⟨f, hsat⟩ := hok.sat
  exact K E a w ⟨⟨hok.agr.size, hok.agr.kn, hok.agr.gk, hok.agr.klt, hok.agr.glt⟩, _, hsat.starTake hs⟩

/-! ## A store into one of several rows under one key -/
theorem store_row {α : Type} {P : Program} {E : Env} {ow : Own} {nx : Nat} {u : Im} {df : List Deferred} {w : World} {f : Nat → Nat → Prop} (hsat : Sat E ow nx u df w f)
    (Y : Lay α) (L : List α) (x : α) {e k off i : Nat} {cs : List Value} (hk : look ow k = some (.row e (Y.d L))) (hiL : i < L.length) (c4' : ∀ y ∈ cs, oneB y = true) (hl : off + cs.length ≤ Y.fs.length)
    (hx : Y.el x = (Y.el (L.getD i Y.dft)).take off ++ cs ++ (Y.el (L.getD i Y.dft)).drop (off + cs.length)) :
    ∃ g cap w', E k = .slice (some ⟨g, 0, none⟩) L.length cap ∧ (storeCells ⟨g, i * Y.fs.length + off, none⟩ cs 0).run P w = .ok () w' ∧ Sat E ((k, .row e (Y.d (L.set i x))) :: ow) nx u df w' f := by
  obtain ⟨hrow, hF⟩ := hsat.holds k _ hk
  rcases hrow.2 with ⟨_, h0⟩ | ⟨g, cap, cur, hv, _, hg, hnc, hcm, hcs', htake⟩
  · rw [Lay.d_n] at h0; omega
  rw [Lay.cs_length] at hcs' htake
  rw [Lay.d_n] at hnc htake hv
  have hmul : (i + 1) * Y.fs.length ≤ L.length * Y.fs.length := Nat.mul_le_mul_right _ hiL
  have hmul2 : L.length * Y.fs.length ≤ cap * Y.fs.length := Nat.mul_le_mul_right _ hnc
  rw [Nat.add_mul, Nat.one_mul] at hmul
  obtain ⟨w', h1, h2, h3, h4, h5, h6, h7⟩ := run_storeCells (P := P) cs 0 (i * Y.fs.length + off) w _ hg c4' (by rw [hcs']; omega)
  simp only [Nat.add_zero] at h7
  have hfl := Lay.set_flat Y L i x hiL off cs hl hx
  have hown : w'.ownsRow 0 e Y.fs.length (E k) (L.set i x).length (Y.d (L.set i x)).flat := by
    refine ⟨Lay.flat_length _ _, .inr ⟨g, cap, _, by rw [List.length_set]; exact hv, Nat.zero_le _, h7, by rw [List.length_set]; exact hnc, hcm, ?_, ?_⟩⟩
    · simp only [List.size_toArray, List.length_append, List.length_take, List.length_drop, Array.length_toList]
      omega
    · rw [List.length_set, hfl, ← htake]
      simp only [List.append_assoc]
      rw [List.take_append, List.take_append, List.take_take, List.take_take]
      simp only [List.length_take, Array.length_toList, List.drop_take]
      rw [Nat.min_eq_left (show i * Y.fs.length + off ≤ cur.size by omega)]
      rw [show min (L.length * Y.fs.length) (i * Y.fs.length + off) = i * Y.fs.length + off by omega, show min (i * Y.fs.length + off) (L.length * Y.fs.length) = i * Y.fs.length + off by omega]
      rw [List.take_of_length_le (show cs.length ≤ L.length * Y.fs.length - (i * Y.fs.length + off) by omega)]
      rw [show L.length * Y.fs.length - (i * Y.fs.length + off) - cs.length = L.length * Y.fs.length - (i * Y.fs.length + off + cs.length) by omega]
  have hkl := (hsat.lt k _ hk).1
  have hgk : f k g := (hF g).2 (by rw [hv]; rfl)
  refine ⟨g, cap, w', hv, h1, ?_⟩
  refine hsat.step (fun j => j = k) (fun _ _ => rfl) (Nat.le_refl _) (Im.le.refl u) ?_ (Nat.le_of_eq h2.symm) (fun b _ hb => h6 b (fun e => hb k rfl (e ▸ hgk))) ?_ ?_ ?_ (fun b o ho => .inl ho)
  · refine ⟨fun b y hy => ?_, h3.trans hsat.imm.os, h4.trans hsat.imm.tape, h5.trans hsat.imm.output, by rw [h2]; exact hsat.imm.lo⟩
    rw [h6 b (fun e => by rw [e, hsat.off k g hgk] at hy; cases hy)]
    exact hsat.imm.h b y hy
  · intro j hj
    exact ⟨by rw [look_cons, if_neg (Ne.symm hj)], fun b => Iff.rfl⟩
  · rintro j rfl
    refine ⟨fun r hr => ?_, fun hr => ?_, fun b hb => ?_⟩
    · rw [look_cons, if_pos rfl] at hr
      cases hr
      exact ⟨⟨by rw [Lay.cs_length]; exact hown, hF⟩, hkl, trivial⟩
    · rw [look_cons, if_pos rfl] at hr; cases hr
    · exact ⟨.inl ⟨j, rfl, hb⟩, hsat.off j b hb⟩
  · intro j j' b hj hj' hne; subst hj hj'; exact absurd rfl hne

/-- a store into an element of a row that others lie beside -/
theorem xl_setStar {α : Type} {T : TT} {C : Cx} (hT : TOk C.P T) {all : List Oper} {o1 o2 : Oper} {r : List Oper} {Q : Post} {kn : Kn} {gk : List (Nat × (Gd × SV))} {ow : Own} {nx : Nat} {u : Im}
    (Y : Lay α) (L : List α) (x : α) (s j : Nat) {sl : List SI} {px : Value} {t1 t e d1 : Nat} {n : Int} {kl : IntKind} {xv iv sv : Operand} {ti1 te ti : TI} {z : SV} {cs : List Value}
    (ho1 : o1.op = .indexAddr t1 xv iv) (hg1 : o1.guard = none) (hd1 : o1.dst = some d1) (ho2 : o2.op = .store t (.tmp d1) sv) (hg2 : o2.guard = none) (hd2 : o2.dst = none)
    (hti1 : look T t1 = some ti1) (hsh : ti1.shp = .slice e) (hte : look T e = some te) (hsz : te.sz = Y.fs.length) (hti : look T t = some ti)
    (hxv : opd ⟨kn, gk, ow, nx⟩ [] xv = some (.v px)) (hs : look ow s = some (.gen (starHp sl))) (hj : sl[j]? = some ⟨px, e, Y.d L⟩) (hiv : opd ⟨kn, gk, ow, nx⟩ [] iv = some (.v (.int kl n))) (hn0 : 0 ≤ n) (hn1 : n < L.length)
    (hz : opd ⟨kn, gk, ow, nx⟩ [] sv = some z) (hcs : cellsOf ti z = some (cs.map .v)) (hl : cs.length ≤ Y.fs.length) (hsv : ∀ t, sv = .tmp t → t ≠ d1)
    (hx : Y.el x = cs ++ (Y.el (L.getD n.toNat Y.dft)).drop cs.length) (hfr : fresh C.N ⟨kn, gk, ow, nx⟩ d1 [] = true) (hkn : look kn d1 = none)
    (K : XL C all r Q ⟨kn, gk, (nx, .emp) :: (s, .gen (starHp (sl.set j ⟨px, e, Y.d (L.set n.toNat x)⟩))) :: ow, nx + 1⟩ u) : XL C all (o1 :: o2 :: r) Q ⟨kn, gk, ow, nx⟩ u := by
  unfold XL at K ⊢
  intro E a w hok
  obtain ⟨f, hsat0⟩ := hok.sat
  have hsat : Sat E ow nx u a.defers w f := hsat0
  have hgs : gs a.tmps [] := fun x hx => by cases hx
  have hti1' := (hT _ _ hti1).isSlice hsh
  have hti' := hT _ _ hti
  obtain ⟨e1, _⟩ := opd_sound hok.agr hgs hxv
  obtain ⟨e2, _⟩ := opd_sound hok.agr hgs hiv
  obtain ⟨e3, e4⟩ := opd_sound hok.agr hgs hz
  simp only [SV.den] at e1 e2
  obtain ⟨c1, _, c3, c4⟩ := cellsOf_spec hti' hcs e4
  have c3' : (z.den E).cells = cs.toArray := by rw [c3, List.map_map]; simp [Function.comp_def, SV.den]
  have c4' : ∀ y ∈ cs, oneB y = true := fun y hy => c4 y (by rw [List.map_map]; simpa [Function.comp_def, SV.den] using hy)
  have hE : ∀ k, k < nx → upd E nx px k = E k := fun k hk => upd_other _ _ (by omega)
  have hun := hsat.unpark hs hj
  obtain ⟨g, cap, w', hv, hst, hsat2⟩ := store_row (P := C.P) hun Y L x (k := nx) (off := 0) (i := n.toNat) (cs := cs) (by rw [look_cons, if_pos rfl]) (by omega) c4' (by omega) (by simpa using hx)
  simp only [upd_same] at hv
  have hsn : nx ≠ s := fun hh => by have := (hsat.lt s _ hs).1; omega
  have hjl : j < sl.length := (List.getElem?_eq_some_iff.1 hj).1
  have hp := hsat2.park (k := nx) (s := s) (i := j) (q := SI.hole) (e := e) (D := Y.d (L.set n.toNat x)) (l := sl.set j SI.hole) (by rw [look_cons, if_pos rfl]) (by rw [look_cons, if_neg hsn, look_cons, if_neg hsn, look_cons, if_pos rfl]) (List.getElem?_set_self hjl) rfl
  simp only [upd_same, List.set_set] at hp
  have hfin : ∃ f', Sat (upd E nx px) ((nx, .emp) :: (s, .gen (starHp (sl.set j ⟨px, e, Y.d (L.set n.toNat x)⟩))) :: ow) (nx + 1) u a.defers w' f' := by
    refine ⟨_, hp.regroup (fun _ => False) (fun _ _ => rfl) (Nat.le_refl _) (fun k _ => ⟨?_, fun _ => Iff.rfl⟩) (fun _ hh => hh.elim) (fun _ _ _ hh => hh.elim)⟩
    simp only [look_cons]
    by_cases a1 : nx = k
    · rw [if_pos a1, if_pos a1]
    · by_cases a2 : s = k
      · rw [if_neg a1, if_neg a1, if_pos a2, if_pos a2]
      · simp only [if_neg a1, if_neg a2]
  have hel : C.P.elem t1 = e := by simp [Program.elem, hti1']
  -- the address
  have hrun1 : (execOp a.eval o1).run C.P w = .ok (.value (.pointer (some ⟨g, n.toNat * Y.fs.length, none⟩))) w := by
    simp only [execOp, ho1, e1, e2, hv, Instr.indexAt, asIntOf, Sem.run_bind, Sem.run_pure, Result.andThen_ok, run_underlying hti1']
    simp [hn0, hn1, run_sizeOf w (hT _ _ hte), hsz, addr_add0]
  unfold wpListIn
  rw [if_pos (by simp [Region.wanted, hg1])]
  refine ⟨fun _ _ => trivial, ?_⟩
  rw [semAt_eq _ _ _ (fun c hc => by rw [ho1] at hc; cases hc), hrun1, Oper.uponIn_value, hd1]
  have hdlt : d1 < a.tmps.size := by
    have h9 := hok.agr.size
    have h8 : Nat.blt d1 C.N = true := by
      unfold fresh at hfr
      split at hfr
      · assumption
      · cases hfr
    have := blt_lt h8
    omega
  have hput : Agr C.N E ⟨kn, gk, ow, nx⟩ (a.put (some d1) (.pointer (some ⟨g, n.toNat * Y.fs.length, none⟩))).tmps := by
    have hp := hok.agr.put (g := []) (d := d1) (s := .v (.pointer (some ⟨g, n.toNat * Y.fs.length, none⟩))) (x := .pointer (some ⟨g, n.toNat * Y.fs.length, none⟩)) hfr (fun _ => trivial) (fun _ => rfl) (fun hn => absurd (fun x hx => (by cases hx)) hn) (fun _ => rfl)
    exact hp.drop hkn
  have e1' : (a.put (some d1) (.pointer (some ⟨g, n.toNat * Y.fs.length, none⟩))).eval (.tmp d1) = .pointer (some ⟨g, n.toNat * Y.fs.length, none⟩) := eval_put_eq hdlt
  have e3' : (a.put (some d1) (.pointer (some ⟨g, n.toNat * Y.fs.length, none⟩))).eval sv = z.den E := by rw [eval_put_ne hsv]; exact e3
  have hrun2 : (execOp (a.put (some d1) (.pointer (some ⟨g, n.toNat * Y.fs.length, none⟩))).eval o2).run C.P w = .ok .skip w' := by
    have hszz : (z.den E).cells.size = ti.sz := by rw [c3']; simpa using c1
    simp only [execOp, ho2, Instr.storeAt, e1', Instr.sureAddr, Sem.run_bind, Sem.run_pure, Result.andThen_ok, storeVar, run_sizeOf w hti', e3', hszz]
    rw [if_neg (by simp)]
    simp only [Nat.add_zero] at hst
    simp only [c3', hst, Result.andThen_ok]
  unfold wpListIn
  rw [if_pos (by simp [Region.wanted, hg2])]
  refine ⟨fun _ _ => trivial, ?_⟩
  rw [semAt_eq _ _ _ (fun c hc => by rw [ho2] at hc; cases hc), hrun2, Oper.uponIn_skip, hd2]
  have hg2' : Agr C.N (upd E nx px) ⟨kn, gk, (nx, .emp) :: (s, .gen (starHp (sl.set j ⟨px, e, Y.d (L.set n.toNat x)⟩))) :: ow, nx + 1⟩ (a.put (some d1) (.pointer (some ⟨g, n.toNat * Y.fs.length, none⟩))).tmps := hput.grow hE (Nat.le_succ _)
  have := K (upd E nx px) (a.put (some d1) (.pointer (some ⟨g, n.toNat * Y.fs.length, none⟩))) w' ⟨hg2', hfin⟩
  exact wpListIn_monoQ (fun e a w => SemQ.mono hE (Nat.le_succ _) (Im.le.refl u)) _ _ _ this

/-- what memory tells of plain values -/
theorem xl_pure {P : Prop} {C : Cx} {all l : List Oper} {Q : Post} {kn : Kn} {gk : List (Nat × (Gd × SV))} {ow : Own} {nx : Nat} {u : Im} (H : ∀ E w F, Sat E ow nx u [] w F → P) (K : P → XL C all l Q ⟨kn, gk, ow, nx⟩ u) : XL C all l Q ⟨kn, gk, ow, nx⟩ u := by
  unfold XL at K ⊢
  intro E a w hok
  obtain ⟨f, hsat⟩ := hok.sat
  exact K (H E w f hsat.unmarked) E a w hok

theorem x_pure {P : Prop} {C : Cx} {cc : Code} {Q : Post} {kn : Kn} {gk : List (Nat × (Gd × SV))} {ow : Own} {nx : Nat} {u : Im} (H : ∀ E w F, Sat E ow nx u [] w F → P) (K : P → X C cc Q ⟨kn, gk, ow, nx⟩ u) : X C cc Q ⟨kn, gk, ow, nx⟩ u := by
  unfold X at K ⊢
  intro E a w hok
  obtain ⟨f, hsat⟩ := hok.sat
  exact K (H E w f hsat.unmarked) E a w hok

section
variable {H : Type} {enc : TypeId × Value → H} {P : Program} {w : World}
theorem TrZ.bytes {t e : TypeId} {A : Option Addr} {n c : Nat} (ht : P.underlying t = some (.slice e)) (h : TrZ enc P w t [.slice A n c]) : n * P.bytesOf e ≤ 140737488351232 := by
  obtain ⟨fu, y, h, hz⟩ := h
  rcases Go.Deep.open_slice ht h with ⟨e1, _⟩ | ⟨a, len, cap, k, n', D, Pl, e1, _, hl, hc, hk, hy, hi⟩
  · cases e1; simp
  · cases e1
    have hlk : n ≤ k := by rw [hk]; split <;> omega
    have hwt : y.1.weights P t = ((List.range n).map D).length.add (((List.range (k - n)).map fun j => D (n + j)).length) * P.bytesOf e :: (DataW.weightsAll P e ((List.range n).map D) ++ DataW.weightsAll P e ((List.range (k - n)).map fun j => D (n + j))) := by
      rw [hy]; simp [DataW.weights, ht]
    have h9 := hz _ (by rw [hwt]; exact List.mem_cons_self ..)
    refine Nat.le_trans (Nat.mul_le_mul_right _ ?_) h9
    simp only [List.length_map, List.length_range]
    exact Nat.le_add_right _ _
end

end Go.GV
