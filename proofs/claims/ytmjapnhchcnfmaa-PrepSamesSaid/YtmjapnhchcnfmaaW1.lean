/- Walks over the functions that compare texts. -/
import Derived.Test.YtmjapnhchcnfmaaTy
namespace Go.Proofs.Ytmjapnhchcnfmaa
open Go.GV Go.RowKit

noncomputable def pb (p : Prop) : Bool := @decide p (Classical.propDecidable p)
theorem pb_iff {p : Prop} : pb p = true ↔ p := by unfold pb; exact @decide_eq_true_iff p (Classical.propDecidable p)
theorem pb_true {p : Prop} (h : p) : pb p = true := pb_iff.2 h
theorem pb_false {p : Prop} (h : ¬ p) : pb p = false := by
  cases hb : pb p with
  | false => rfl
  | true => exact absurd (pb_iff.1 hb) h

abbrev txs (n : Nat) (T : Int → ByteArray) : GV.Data := ⟨n, [fun i => .string (T i)]⟩
def SameT (n : Nat) (T : Int → ByteArray) (m : Nat) (U : Int → ByteArray) : Prop := n = m ∧ ∀ i : Int, 0 ≤ i → i < n → T i = U i

theorem mix : Try.prog.follows .mixedOrders = true := by kernel_rfl

set_option maxRecDepth 100000 in
theorem sameTexts_any (n m : Nat) (T U : Int → ByteArray) (x y : Value) (w : World) (hx : SlAt (im w) x (txs n T)) (hy : SlAt (im w) y (txs m U)) (hn : n ≤ 9223372036854775807) :
    Calls Try.prog 33 #[x, y] w (PureP w fun v _ => v = .bool (pb (SameT n T m U))) := by
  refine x_fun tt_ok Try.func33 rfl rfl [(x, txs n T), (y, txs m U)] 2 [.r 0, .r 1] rfl rfl rfl rfl (fun b hb => by simp at hb; rcases hb with rfl | rfl <;> assumption) ?_
  refine x_vc tt_ok ?_
  refine x_if (fun h => ?_) (fun h => ?_)
  · refine fin1 (fun _ _ => ?_)
    have h' : ¬ n = m := by simp at h; omega
    rw [pb_false (fun hh => h' hh.1)]; rfl
  · have h' : n = m := by simp at h; omega
    subst h'
    refine x_loop (σ := Int) (fun i => ⟨[(5, .v (.int .i64 i)), (0, .r 0), (1, .r 1)], [], [(0, .sl (txs n T)), (1, .sl (txs n U))], 2⟩)
      (fun i _ => 0 ≤ i ∧ i ≤ n ∧ ∀ j, 0 ≤ j → j < i → T j = U j) (fun i => (n - i).toNat) (fun _ => Nat.le_refl _) 0 [] (.of rfl rfl rfl rfl rfl rfl) ⟨by omega, by omega, fun j _ _ => by omega⟩ ?_
    rintro i u hu ⟨g1, g2, g3⟩
    refine x_vc tt_ok ?_
    refine x_if (fun h => ?_) (fun h => ?_)
    · have h2 : i < n := by simpa using h
      refine x_draw mix (by kernel_rfl) (xd_go tt_ok ?_)
      repeat (refine And.intro ?_ ?_; first | omega | (simp <;> omega))
      refine x_if (fun h3 => ?_) (fun h3 => ?_)
      · refine fin1 (fun _ _ => ?_)
        rw [pb_false (fun hh => by simp [hh.2 i g1 h2] at h3)]; rfl
      · repeat (refine And.intro ?_ ?_; first | omega | (simp <;> omega))
        refine again (i + 1) [] (.of rfl rfl rfl rfl rfl rfl) ⟨by omega, by omega, fun j hj1 hj2 => ?_⟩ (by omega)
        by_cases hji : j = i
        · subst hji; simpa using h3
        · exact g3 j hj1 (by omega)
    · have h2 : i = n := by simp at h; omega
      refine fin1 (fun _ _ => ?_)
      rw [pb_true ⟨rfl, fun j hj1 hj2 => g3 j hj1 (by omega)⟩]; rfl
end Go.Proofs.Ytmjapnhchcnfmaa
