/- The scanner's small functions: punctuators. -/
import Derived.Test.YtdonomneofdhfaaE3
namespace Go.Proofs.Ytdonomneofdhfaa
open Go.GV Go.RowKit

def orL : List ByteArray → ByteArray → Bool
  | [], _ => false
  | t :: r, s => decide (s = t) || orL r s
theorem orL_t {b : Bool} {s t : ByteArray} {r : List ByteArray} (e : b = orL (t :: r) s) (h : decide (s = t) = true) : b = true := by rw [e, orL, h]; rfl
theorem orL_f {b : Bool} {s t : ByteArray} {r : List ByteArray} (e : b = orL (t :: r) s) (h : decide (s = t) = false) : b = orL r s := by rw [e, orL, h]; rfl
theorem orL_map (s : ByteArray) : ∀ ls : List ByteArray, (ls.map bl).contains (bl s) = orL ls s
  | [] => rfl
  | t :: r => by
    rw [List.map_cons, List.contains_cons, orL_map s r, orL, bl_eq]
    congr 1
    rw [Bool.eq_iff_iff]; simp

def punA : List ByteArray := [⟨#[91]⟩, ⟨#[93]⟩, ⟨#[40]⟩, ⟨#[41]⟩, ⟨#[123]⟩, ⟨#[125]⟩, ⟨#[46]⟩, ⟨#[45, 62]⟩, ⟨#[43, 43]⟩, ⟨#[45, 45]⟩, ⟨#[38]⟩, ⟨#[42]⟩, ⟨#[43]⟩, ⟨#[45]⟩, ⟨#[126]⟩, ⟨#[33]⟩, ⟨#[47]⟩, ⟨#[37]⟩, ⟨#[60, 60]⟩, ⟨#[62, 62]⟩, ⟨#[60]⟩, ⟨#[62]⟩, ⟨#[60, 61]⟩, ⟨#[62, 61]⟩, ⟨#[61, 61]⟩, ⟨#[33, 61]⟩, ⟨#[94]⟩, ⟨#[124]⟩, ⟨#[38, 38]⟩, ⟨#[124, 124]⟩, ⟨#[63]⟩, ⟨#[58]⟩, ⟨#[59]⟩, ⟨#[46, 46, 46]⟩, ⟨#[61]⟩, ⟨#[42, 61]⟩, ⟨#[47, 61]⟩, ⟨#[37, 61]⟩, ⟨#[43, 61]⟩, ⟨#[45, 61]⟩, ⟨#[60, 60, 61]⟩, ⟨#[62, 62, 61]⟩, ⟨#[38, 61]⟩, ⟨#[94, 61]⟩, ⟨#[124, 61]⟩, ⟨#[44]⟩, ⟨#[35]⟩, ⟨#[35, 35]⟩, ⟨#[60, 58]⟩, ⟨#[58, 62]⟩, ⟨#[60, 37]⟩, ⟨#[37, 62]⟩, ⟨#[37, 58]⟩, ⟨#[37, 58, 37, 58]⟩]
theorem punA_eq : Lx.punS = punA.map bl := by decide

theorem isPun_or (s : ByteArray) : Lx.isPun (bl s) = orL punA s := by
  unfold Lx.isPun
  rw [punA_eq]; exact orL_map s _

set_option maxRecDepth 100000 in
theorem punct_any (s : ByteArray) (w : World) : Calls Try.prog 180 #[.string s] w (PureP w fun v _ => v = .bool (Lx.isPun (bl s))) := by
  have e := isPun_or s
  generalize Lx.isPun (bl s) = b at e ⊢
  unfold punA at e
  refine x_fun tt_ok Try.func180 rfl rfl [] 0 [.v (.string s)] rfl rfl rfl rfl (fun b hb => by cases hb) ?_
  refine x_vc tt_ok ?_
  refine x_if (fun h => ?_) (fun h => ?_)
  · refine x_ift h ?_
    rw [orL_t e h]
    exact fin1 (fun _ _ => rfl)
  replace e := orL_f e h
  clear h
  refine x_if (fun h => ?_) (fun h => ?_)
  · refine x_ift h ?_
    rw [orL_t e h]
    exact fin1 (fun _ _ => rfl)
  replace e := orL_f e h
  clear h
  refine x_if (fun h => ?_) (fun h => ?_)
  · refine x_ift h ?_
    rw [orL_t e h]
    exact fin1 (fun _ _ => rfl)
  replace e := orL_f e h
  clear h
  refine x_if (fun h => ?_) (fun h => ?_)
  · refine x_ift h ?_
    rw [orL_t e h]
    exact fin1 (fun _ _ => rfl)
  replace e := orL_f e h
  clear h
  refine x_if (fun h => ?_) (fun h => ?_)
  · refine x_ift h ?_
    rw [orL_t e h]
    exact fin1 (fun _ _ => rfl)
  replace e := orL_f e h
  clear h
  refine x_if (fun h => ?_) (fun h => ?_)
  · refine x_ift h ?_
    rw [orL_t e h]
    exact fin1 (fun _ _ => rfl)
  replace e := orL_f e h
  clear h
  refine x_if (fun h => ?_) (fun h => ?_)
  · refine x_ift h ?_
    rw [orL_t e h]
    exact fin1 (fun _ _ => rfl)
  replace e := orL_f e h
  clear h
  refine x_if (fun h => ?_) (fun h => ?_)
  · refine x_ift h ?_
    rw [orL_t e h]
    exact fin1 (fun _ _ => rfl)
  replace e := orL_f e h
  clear h
  refine x_if (fun h => ?_) (fun h => ?_)
  · refine x_ift h ?_
    rw [orL_t e h]
    exact fin1 (fun _ _ => rfl)
  replace e := orL_f e h
  clear h
  refine x_if (fun h => ?_) (fun h => ?_)
  · refine x_ift h ?_
    rw [orL_t e h]
    exact fin1 (fun _ _ => rfl)
  replace e := orL_f e h
  clear h
  refine x_if (fun h => ?_) (fun h => ?_)
  · refine x_ift h ?_
    rw [orL_t e h]
    exact fin1 (fun _ _ => rfl)
  replace e := orL_f e h
  clear h
  refine x_if (fun h => ?_) (fun h => ?_)
  · refine x_ift h ?_
    rw [orL_t e h]
    exact fin1 (fun _ _ => rfl)
  replace e := orL_f e h
  clear h
  refine x_if (fun h => ?_) (fun h => ?_)
  · refine x_ift h ?_
    rw [orL_t e h]
    exact fin1 (fun _ _ => rfl)
  replace e := orL_f e h
  clear h
  refine x_if (fun h => ?_) (fun h => ?_)
  · refine x_ift h ?_
    rw [orL_t e h]
    exact fin1 (fun _ _ => rfl)
  replace e := orL_f e h
  clear h
  refine x_if (fun h => ?_) (fun h => ?_)
  · refine x_ift h ?_
    rw [orL_t e h]
    exact fin1 (fun _ _ => rfl)
  replace e := orL_f e h
  clear h
  refine x_if (fun h => ?_) (fun h => ?_)
  · refine x_ift h ?_
    rw [orL_t e h]
    exact fin1 (fun _ _ => rfl)
  replace e := orL_f e h
  clear h
  refine x_if (fun h => ?_) (fun h => ?_)
  · refine x_ift h ?_
    rw [orL_t e h]
    exact fin1 (fun _ _ => rfl)
  replace e := orL_f e h
  clear h
  refine x_if (fun h => ?_) (fun h => ?_)
  · refine x_ift h ?_
    rw [orL_t e h]
    exact fin1 (fun _ _ => rfl)
  replace e := orL_f e h
  clear h
  refine x_if (fun h => ?_) (fun h => ?_)
  · refine x_ift h ?_
    rw [orL_t e h]
    exact fin1 (fun _ _ => rfl)
  replace e := orL_f e h
  clear h
  refine x_if (fun h => ?_) (fun h => ?_)
  · refine x_ift h ?_
    rw [orL_t e h]
    exact fin1 (fun _ _ => rfl)
  replace e := orL_f e h
  clear h
  refine x_if (fun h => ?_) (fun h => ?_)
  · refine x_ift h ?_
    rw [orL_t e h]
    exact fin1 (fun _ _ => rfl)
  replace e := orL_f e h
  clear h
  refine x_if (fun h => ?_) (fun h => ?_)
  · refine x_ift h ?_
    rw [orL_t e h]
    exact fin1 (fun _ _ => rfl)
  replace e := orL_f e h
  clear h
  refine x_if (fun h => ?_) (fun h => ?_)
  · refine x_ift h ?_
    rw [orL_t e h]
    exact fin1 (fun _ _ => rfl)
  replace e := orL_f e h
  clear h
  refine x_if (fun h => ?_) (fun h => ?_)
  · refine x_ift h ?_
    rw [orL_t e h]
    exact fin1 (fun _ _ => rfl)
  replace e := orL_f e h
  clear h
  refine x_if (fun h => ?_) (fun h => ?_)
  · refine x_ift h ?_
    rw [orL_t e h]
    exact fin1 (fun _ _ => rfl)
  replace e := orL_f e h
  clear h
  refine x_if (fun h => ?_) (fun h => ?_)
  · refine x_ift h ?_
    rw [orL_t e h]
    exact fin1 (fun _ _ => rfl)
  replace e := orL_f e h
  clear h
  refine x_if (fun h => ?_) (fun h => ?_)
  · refine x_ift h ?_
    rw [orL_t e h]
    exact fin1 (fun _ _ => rfl)
  replace e := orL_f e h
  clear h
  refine x_if (fun h => ?_) (fun h => ?_)
  · refine x_ift h ?_
    rw [orL_t e h]
    exact fin1 (fun _ _ => rfl)
  replace e := orL_f e h
  clear h
  refine x_if (fun h => ?_) (fun h => ?_)
  · refine x_ift h ?_
    rw [orL_t e h]
    exact fin1 (fun _ _ => rfl)
  replace e := orL_f e h
  clear h
  refine x_if (fun h => ?_) (fun h => ?_)
  · refine x_ift h ?_
    rw [orL_t e h]
    exact fin1 (fun _ _ => rfl)
  replace e := orL_f e h
  clear h
  refine x_if (fun h => ?_) (fun h => ?_)
  · refine x_ift h ?_
    rw [orL_t e h]
    exact fin1 (fun _ _ => rfl)
  replace e := orL_f e h
  clear h
  refine x_if (fun h => ?_) (fun h => ?_)
  · refine x_ift h ?_
    rw [orL_t e h]
    exact fin1 (fun _ _ => rfl)
  replace e := orL_f e h
  clear h
  refine x_if (fun h => ?_) (fun h => ?_)
  · refine x_ift h ?_
    rw [orL_t e h]
    exact fin1 (fun _ _ => rfl)
  replace e := orL_f e h
  clear h
  refine x_if (fun h => ?_) (fun h => ?_)
  · refine x_ift h ?_
    rw [orL_t e h]
    exact fin1 (fun _ _ => rfl)
  replace e := orL_f e h
  clear h
  refine x_if (fun h => ?_) (fun h => ?_)
  · refine x_ift h ?_
    rw [orL_t e h]
    exact fin1 (fun _ _ => rfl)
  replace e := orL_f e h
  clear h
  refine x_if (fun h => ?_) (fun h => ?_)
  · refine x_ift h ?_
    rw [orL_t e h]
    exact fin1 (fun _ _ => rfl)
  replace e := orL_f e h
  clear h
  refine x_if (fun h => ?_) (fun h => ?_)
  · refine x_ift h ?_
    rw [orL_t e h]
    exact fin1 (fun _ _ => rfl)
  replace e := orL_f e h
  clear h
  refine x_if (fun h => ?_) (fun h => ?_)
  · refine x_ift h ?_
    rw [orL_t e h]
    exact fin1 (fun _ _ => rfl)
  replace e := orL_f e h
  clear h
  refine x_if (fun h => ?_) (fun h => ?_)
  · refine x_ift h ?_
    rw [orL_t e h]
    exact fin1 (fun _ _ => rfl)
  replace e := orL_f e h
  clear h
  refine x_if (fun h => ?_) (fun h => ?_)
  · refine x_ift h ?_
    rw [orL_t e h]
    exact fin1 (fun _ _ => rfl)
  replace e := orL_f e h
  clear h
  refine x_if (fun h => ?_) (fun h => ?_)
  · refine x_ift h ?_
    rw [orL_t e h]
    exact fin1 (fun _ _ => rfl)
  replace e := orL_f e h
  clear h
  refine x_if (fun h => ?_) (fun h => ?_)
  · refine x_ift h ?_
    rw [orL_t e h]
    exact fin1 (fun _ _ => rfl)
  replace e := orL_f e h
  clear h
  refine x_if (fun h => ?_) (fun h => ?_)
  · refine x_ift h ?_
    rw [orL_t e h]
    exact fin1 (fun _ _ => rfl)
  replace e := orL_f e h
  clear h
  refine x_if (fun h => ?_) (fun h => ?_)
  · refine x_ift h ?_
    rw [orL_t e h]
    exact fin1 (fun _ _ => rfl)
  replace e := orL_f e h
  clear h
  refine x_if (fun h => ?_) (fun h => ?_)
  · refine x_ift h ?_
    rw [orL_t e h]
    exact fin1 (fun _ _ => rfl)
  replace e := orL_f e h
  clear h
  refine x_if (fun h => ?_) (fun h => ?_)
  · refine x_ift h ?_
    rw [orL_t e h]
    exact fin1 (fun _ _ => rfl)
  replace e := orL_f e h
  clear h
  refine x_if (fun h => ?_) (fun h => ?_)
  · refine x_ift h ?_
    rw [orL_t e h]
    exact fin1 (fun _ _ => rfl)
  replace e := orL_f e h
  clear h
  refine x_if (fun h => ?_) (fun h => ?_)
  · refine x_ift h ?_
    rw [orL_t e h]
    exact fin1 (fun _ _ => rfl)
  replace e := orL_f e h
  clear h
  refine x_if (fun h => ?_) (fun h => ?_)
  · refine x_ift h ?_
    rw [orL_t e h]
    exact fin1 (fun _ _ => rfl)
  replace e := orL_f e h
  clear h
  refine x_if (fun h => ?_) (fun h => ?_)
  · refine x_ift h ?_
    rw [orL_t e h]
    exact fin1 (fun _ _ => rfl)
  replace e := orL_f e h
  clear h
  refine x_if (fun h => ?_) (fun h => ?_)
  · refine x_ift h ?_
    rw [orL_t e h]
    exact fin1 (fun _ _ => rfl)
  replace e := orL_f e h
  clear h
  refine x_if (fun h => ?_) (fun h => ?_)
  · refine x_ift h ?_
    rw [orL_t e h]
    exact fin1 (fun _ _ => rfl)
  replace e := orL_f e h
  clear h
  refine x_if (fun h => ?_) (fun h => ?_)
  · refine x_ift h ?_
    rw [orL_t e h]
    exact fin1 (fun _ _ => rfl)
  replace e := orL_f e h
  clear h
  refine x_if (fun h => ?_) (fun h => ?_)
  · rw [orL_t e h]
    exact fin1 (fun _ _ => rfl)
  · rw [orL_f e h]
    exact fin1 (fun _ _ => rfl)
end Go.Proofs.Ytdonomneofdhfaa
