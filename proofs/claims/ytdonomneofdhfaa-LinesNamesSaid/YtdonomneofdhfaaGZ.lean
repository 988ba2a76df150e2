/- Generic theorems, fifth part: a guard that is known to hold. -/
import Derived.Test.YtdonomneofdhfaaGY
namespace Go.GV
open Go.RowKit

/-- an operation whose guard is known to hold is done as one without a guard -/
theorem xl_want {C : Cx} {all r : List Oper} {o oj : Oper} {Q : Post} {st : St} {u : Im} {j t : Nat} {b : Bool} (hg : o.guard = some (j, b)) (hj : all[j]? = some oj) (hd : oj.dst = some t)
    (hk : look st.kn t = some (.v (.bool b))) (hn : look st.gk t = none) (h : XL C all ({ o with guard := none } :: r) Q st u) : XL C all (o :: r) Q st u := by
  unfold XL at h ⊢
  intro E a w hok
  have h1 := h E a w hok
  have hgo : guardOf all st o = some [(t, b)] := by
    unfold guardOf
    rw [hg]
    simp only [hj, hd, hn, hk]
  have hgd := guard_sound (all := all.toArray) hok.agr (by simpa using hgo)
  have hw : Region.wanted o (yielded all.toArray a.tmps) = true := by
    cases hw : Region.wanted o (yielded all.toArray a.tmps) with
    | true => rfl
    | false =>
      refine absurd ?_ (hgd.2 hw)
      intro x hx
      rw [List.mem_singleton.1 hx]
      exact hok.agr.kn t _ hn hk
  unfold wpListIn at h1 ⊢
  rw [if_pos hw]
  rw [if_pos (by rfl)] at h1
  exact h1
end Go.GV
