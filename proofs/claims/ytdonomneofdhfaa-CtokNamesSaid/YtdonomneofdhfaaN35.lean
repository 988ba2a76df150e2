/- CtokNames: what its examples ask of a character. -/
import Derived.Test.YtdonomneofdhfaaN27
import Derived.Test.YtdonomneofdhfaaN26
import Derived.Test.YtdonomneofdhfaaGZ
namespace Go.Proofs.Ytdonomneofdhfaa
open Go.GV Go.RowKit

set_option maxRecDepth 100000 in
theorem charQ_any (s : ByteArray) (e : Int) (w : World) (hs : s.size ≤ 4294967280) (hg : Glob (im w)) :
    Calls Try.prog 76 #[.string s, .int .i64 e] w (PureP w fun v _ => v = .bool (decide ((charV s).2 = 0) && decide ((charV s).1 = e))) := by
  refine x_fun tt_ok Try.func76 rfl rfl [] 0 [.v (.string s), .v (.int .i64 e)] rfl rfl rfl rfl (fun b hb => by cases hb) ?_
  refine x_vc tt_ok ?_
  refine xl_call0 (.tuple #[.int .i64 (charV s).1, .int .i64 (charV s).2]) rfl rfl rfl rfl fn53 rfl rfl (fun E w F hs' => char_any s w hs (hg.imm hs'.imm)) ?_
  refine xl_go tt_ok ?_
  exact fin1 (fun _ _ => rfl)

set_option maxRecDepth 100000 in
theorem badQ_any (s : ByteArray) (w : World) (hs : s.size ≤ 4294967280) (hg : Glob (im w)) :
    Calls Try.prog 77 #[.string s] w (PureP w fun v _ => v = .bool (decide ((charV s).2 = 40) && decide ((charV s).1 = 0))) := by
  refine x_fun tt_ok Try.func77 rfl rfl [] 0 [.v (.string s)] rfl rfl rfl rfl (fun b hb => by cases hb) ?_
  refine x_vc tt_ok ?_
  refine xl_call0 (.tuple #[.int .i64 (charV s).1, .int .i64 (charV s).2]) rfl rfl rfl rfl fn53 rfl rfl (fun E w F hs' => char_any s w hs (hg.imm hs'.imm)) ?_
  refine xl_go tt_ok ?_
  exact fin1 (fun _ _ => rfl)
end Go.Proofs.Ytdonomneofdhfaa
