/- The characters of two texts, one behind the other. -/
import Derived.Test.YtjcjbnkimpggeaaP5
namespace Go.Proofs.Ytjcjbnkimpggeaa
open Go.GV Go.RowKit

def aliveIn : ByteArray := ⟨#[97, 63, 63, 61, 92, 10, 98, 10]⟩

theorem alive_check : checkE aliveIn = 0 := by decide +kernel
theorem alive_logical : logicalOf aliveIn = ⟨#[97, 35, 98, 10]⟩ := by decide +kernel

set_option maxRecDepth 100000 in
theorem alive_any (w : World) : Calls Try.prog 14 #[] w (PureP w fun v _ => v = .bool true) := by
  refine x_fun tt_ok Try.func14 rfl rfl [] 0 [] rfl rfl rfl rfl (fun b hb => by cases hb) ?_
  refine x_vc tt_ok ?_
  refine xl_call0 (.tuple #[.string ⟨#[97, 35, 98, 10]⟩, .int .i64 0]) rfl rfl rfl rfl fn16 rfl rfl (fun E w F _ => ?_) ?_
  · have := logical_any aliveIn w (by show 8 ≤ _; decide)
    rw [alive_check, alive_logical] at this
    exact this
  refine xl_go tt_ok ?_
  refine fin1 (fun _ _ => ?_)
  show Value.bool _ = _
  simp
end Go.Proofs.Ytjcjbnkimpggeaa
