/- The law's own function: what is left of a list is the document's, and the list stays. -/
import Derived.Test.YtebnccdegjdfiaaB2
namespace Go.Proofs.Ytebnccdegjdfiaa
open Go.GV Go.RowKit

theorem tokOne : ∀ x : Tok, ∀ y ∈ tokY.el x, oneB y = true := by
  intro x y hy
  simp [Lay.el] at hy
  rcases hy with rfl | rfl | rfl | rfl | rfl <;> rfl

def over1 : ByteArray := ⟨#[119, 114, 105, 116, 116, 101, 110, 32, 111, 118, 101, 114]⟩

set_option maxRecDepth 100000 in
theorem scanBares_any (L : List Tok) (x : Value) (w : World) (hx : SlAt (im w) x (tokY.d L)) (hL : L.length * 48 ≤ 140737488355328) :
    Calls Try.prog 3 #[x] w (PureP w fun v _ => v = .bool true) := by
  have hb := bareFrom_le false L
  refine x_fun tt_ok Try.func3 rfl rfl [(x, tokY.d L)] 1 [.r 0] rfl rfl rfl rfl (fun b hb => by simp at hb; subst hb; exact hx) ?_
  refine x_vc tt_ok ?_
  refine xl_empty tt_ok tokY rfl rfl rfl rfl rfl rfl rfl ?_
  refine xl_go tt_ok ?_
  refine xl_append tt_ok tokY [] L 48 rfl rfl rfl rfl rfl rfl rfl rfl (by kernel_rfl) rfl rfl rfl (fun E w F hs => hs.slAt (k := 0) rfl) tokOne rfl (by simp; omega) (by simp; omega) ?_
  refine xl_go tt_ok ?_
  refine xl_callO 26 (tokY.d (bareFrom false L)) rfl rfl rfl rfl fn15 rfl rfl (fun E w F hs => bare_any L _ w (hs.rowAt (k := 2) rfl) hL) ?_
  refine xl_go tt_ok ?_
  refine xl_callO 26 (tokY.d (bareFrom false L)) rfl rfl rfl rfl fn16 rfl rfl (fun E w F hs => refBare_any L _ w (hs.slAt (k := 0) rfl) hL) ?_
  refine xl_go tt_ok ?_
  refine xl_call0 (.bool (pb (bareFrom false L = bareFrom false L))) rfl rfl rfl rfl fn17 rfl rfl (fun E w F hs => same_any _ _ _ _ w (hs.rowAt (k := 3) rfl) (hs.rowAt (k := 4) rfl) (by omega)) ?_
  refine xl_go tt_ok ?_
  refine x_if (fun h => ?_) (fun h => ?_)
  · rw [pb_true rfl] at h; cases h
  · refine x_loop (σ := Int × List Tok) (fun (i, l) => ⟨[(6, .v (.int .i64 i)), (4, .r 3), (3, .r 2), (0, .r 0)], [], [(0, .sl (tokY.d L)), (2, .row 26 (tokY.d ([] ++ L))), (3, .row 26 (tokY.d l))], 5⟩)
      (fun (i, l) _ => 0 ≤ i ∧ i ≤ l.length ∧ l.length ≤ L.length) (fun (i, l) => (l.length - i).toNat) (fun (_, _) => by simp only; omega) (0, bareFrom false L) [] (.of rfl rfl rfl rfl rfl rfl) ⟨by omega, by omega, hb⟩ ?_
    rintro ⟨i, l⟩ u hu ⟨g1, g2, g3⟩
    refine x_vc tt_ok ?_
    refine x_if (fun h2 => ?_) (fun h2 => ?_)
    · have h3 : i < l.length := of_decide_eq_true h2
      repeat (refine And.intro ?_ ?_; first | omega | (simp [Lay.d] <;> omega))
      refine xl_set tt_ok tokY l { tok0 with text := over1 } rfl rfl rfl rfl rfl rfl rfl g1 h3 rfl rfl (by decide) rfl ?_
      refine xl_go tt_ok ?_
      repeat (refine And.intro ?_ ?_; first | omega | (simp [Lay.d] <;> omega))
      refine again (i + 1, l.set i.toNat { tok0 with text := over1 }) [] (.of rfl rfl rfl rfl rfl rfl) ⟨by omega, by simp; omega, by simpa using g3⟩ (by simp only [List.length_set]; omega)
    · refine xl_call0 (.bool (pb ([] ++ L = L))) rfl rfl rfl rfl fn17 rfl rfl (fun E w F hs => same_any _ _ _ _ w (hs.rowAt (k := 2) rfl) (hs.slAt (k := 0) rfl) (by simp; omega)) ?_
      refine xl_go tt_ok ?_
      refine fin1 (fun _ _ => ?_)
      rw [pb_true (List.nil_append L)]; rfl
end Go.Proofs.Ytebnccdegjdfiaa
