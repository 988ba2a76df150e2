/- Generic theorems, seventh part: a slice that lies in a slot under a guard. -/
import Derived.Test.YtdonomneofdhfaaGZ
namespace Go.GV
open Go.RowKit

/-- a slice that lies in a slot that a guard rules, by a key of its own -/
theorem xl_slG {C : Cx} {all l : List Oper} {Q : Post} {kn : Kn} {gk : List (Nat × (Gd × SV))} {ow : Own} {nx : Nat} {u : Im} (d : Nat) {g : Gd} {x : Value} {D : Data} (hd : look gk d = some (g, .v x)) (hx : SlAt u x D)
    (h : XL C all l Q ⟨kn, (d, (g, .r nx)) :: gk, (nx, .sl D) :: ow, nx + 1⟩ u) : XL C all l Q ⟨kn, gk, ow, nx⟩ u := by
  unfold XL at h ⊢
  intro E a w hok
  obtain ⟨f, hsat⟩ := hok.sat
  have hE : ∀ k, k < nx → upd E nx x k = E k := fun k hk => upd_other _ _ (by omega)
  have hg := hok.agr.grow (E' := upd E nx x) (ow := (nx, .sl D) :: ow) (nx := nx + 1) hE (Nat.le_succ _)
  have hsat' : Sat (upd E nx x) ((nx, .sl D) :: ow) (nx + 1) u a.defers w (upd f nx (fun _ => False)) := by
    refine hsat.step (fun k => k = nx) hE (Nat.le_succ _) (Im.le.refl u) hsat.imm (Nat.le_refl _) (fun b _ _ => rfl) ?_ ?_ ?_ (fun b o ho => .inl ho)
    · intro k hk
      exact ⟨by rw [look_cons, if_neg (fun e => hk e.symm)], fun b => by rw [upd_other _ _ hk]⟩
    · rintro k rfl
      refine ⟨fun r hr => ?_, fun hr => ?_, fun b hb => ?_⟩
      · rw [look_cons, if_pos rfl] at hr
        cases hr
        refine ⟨⟨by rw [upd_same]; exact hx, fun y hy => by rw [upd_same] at hy; exact hy⟩, Nat.lt_succ_self _, trivial⟩
      · rw [look_cons, if_pos rfl] at hr; cases hr
      · rw [upd_same] at hb; exact hb.elim
    · intro k k' b hk hk' hne; subst hk hk'; exact absurd rfl hne
  obtain ⟨A, c, hv⟩ := hx.form
  have hd' := hok.agr.gk d g _ hd
  have := h (upd E nx x) a w ⟨⟨hg.size, fun t s h1 h2 => ?_, fun t g' s h1 => ?_, fun t s h2 => hg.klt t s h2, fun t g' s h1 hgs => ?_⟩, _, hsat'⟩
  · exact wpListIn_monoQ (fun e a w => SemQ.mono hE (Nat.le_succ _) (Im.le.refl u)) _ _ _ this
  · rw [look_cons] at h1
    split at h1
    · cases h1
    · exact hg.kn t s h1 h2
  · rw [look_cons] at h1
    split at h1
    · rename_i e1; subst e1; cases h1
      refine ⟨fun hgs => ?_, hd'.2⟩
      rw [hd'.1 hgs]
      simp only [SV.den, upd_same]
    · exact hg.gk t g' s h1
  · rw [look_cons] at h1
    split at h1
    · cases h1; exact ⟨Nat.lt_succ_self _, A, D.n, c, by rw [upd_same]; exact hv⟩
    · exact hg.glt t g' s h1 hgs
end Go.GV
