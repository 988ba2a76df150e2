/- Generic theorems, eighth part: guards that are done with; values that are known to be equal. -/
import Derived.Test.YtdonomneofdhfaaGB
namespace Go.GV
open Go.RowKit

/-- what is known under guards is let go -/
theorem xl_dropG {C : Cx} {all l : List Oper} {Q : Post} {kn : Kn} {gk : List (Nat × (Gd × SV))} {ow : Own} {nx : Nat} {u : Im} (hk : gk.all (fun x => (look kn x.1).isNone) = true)
    (h : XL C all l Q ⟨kn, [], ow, nx⟩ u) : XL C all l Q ⟨kn, gk, ow, nx⟩ u := by
  unfold XL at h ⊢
  intro E a w hok
  refine h E a w ⟨⟨hok.agr.size, fun d s _ hs => hok.agr.kn d s ?_ hs, fun d g s h => (by cases h), hok.agr.klt, fun d g s h => (by cases h)⟩, hok.sat⟩
  cases hl : look gk d with
  | none => rfl
  | some y =>
    have hm : (d, y) ∈ gk := by
      clear hok hk
      induction gk with
      | nil => cases hl
      | cons z gk ih =>
        obtain ⟨k', r'⟩ := z
        rw [look_cons] at hl
        split at hl
        · rename_i e; subst e; cases hl; exact List.mem_cons_self ..
        · exact List.mem_cons_of_mem _ (ih hl)
    have := List.all_eq_true.1 hk _ hm
    have hs' : look kn d = some s := hs
    simp only [hs'] at this
    cases this

/-- a value by another name -/
theorem xl_eqv {C : Cx} {all l : List Oper} {Q : Post} {kn : Kn} {gk : List (Nat × (Gd × SV))} {ow : Own} {nx : Nat} {u : Im} (t : Nat) {v : Value} (v' : Value) (hk : look kn t = some (.v v)) (he : v = v')
    (h : XL C all l Q ⟨(t, .v v') :: kn, gk, ow, nx⟩ u) : XL C all l Q ⟨kn, gk, ow, nx⟩ u := by
  subst he
  unfold XL at h ⊢
  intro E a w hok
  refine h E a w ⟨⟨hok.agr.size, fun d s h1 h2 => ?_, hok.agr.gk, fun d s h2 => ?_, hok.agr.glt⟩, hok.sat⟩
  · rw [look_cons] at h2
    split at h2
    · rename_i e; subst e; cases h2; exact hok.agr.kn _ _ h1 hk
    · exact hok.agr.kn _ _ h1 h2
  · rw [look_cons] at h2
    split at h2
    · rename_i e; subst e; cases h2; exact hok.agr.klt _ _ hk
    · exact hok.agr.klt _ _ h2
end Go.GV
