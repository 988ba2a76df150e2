/- The law's own function: how a text is spelt, and what a trigraph stands for, is the document's. -/
import Derived.Test.YtjcjbnkimpggeaaS3
namespace Go.Proofs.Ytjcjbnkimpggeaa
open Go.GV Go.RowKit

set_option maxRecDepth 100000 in
theorem physSpells_any (s : ByteArray) (c : Int) (w : World) (hs : s.size ≤ 9223372036854775807) : Calls Try.prog 3 #[.string s, .int .u8 c] w (PureP w fun v _ => v = .bool true) := by
  refine x_fun tt_ok Try.func3 rfl rfl [] 0 [.v (.string s), .v (.int .u8 c)] rfl rfl rfl rfl (fun b hb => by cases hb) ?_
  refine x_vc tt_ok ?_
  refine xl_call0 (.tuple #[.string (spellS s), .int .i64 (spellE s)]) rfl rfl rfl rfl fn10 rfl rfl (fun E w F h => spell_any s w hs) ?_
  refine xl_go tt_ok ?_
  refine xl_call0 (.tuple #[.string (spellS s), .int .i64 (spellE s)]) rfl rfl rfl rfl fn11 rfl rfl (fun E w F h => refSpell_any s w hs) ?_
  refine xl_go tt_ok ?_
  refine xl_call0 (.tuple #[.int .u8 (third c), .bool (isThird c)]) rfl rfl rfl rfl fn12 rfl rfl (fun E w F h => third_any c w) ?_
  refine xl_go tt_ok ?_
  refine xl_call0 (.tuple #[.int .u8 (third c), .bool (isThird c)]) rfl rfl rfl rfl fn13 rfl rfl (fun E w F h => refThird_any c w) ?_
  refine xl_go tt_ok ?_
  refine fin1 (fun _ _ => ?_)
  show Value.bool _ = _
  simp
end Go.Proofs.Ytjcjbnkimpggeaa
