/- ScanNames: what its examples ask. -/
import Derived.Test.YtdonomneofdhfaaT2
import Derived.Test.YtdonomneofdhfaaE9
import Derived.Test.YtdonomneofdhfaaGZ
namespace Go.Proofs.Ytdonomneofdhfaa
open Go.GV Go.RowKit

set_option maxRecDepth 100000 in
theorem refused_any (s : ByteArray) (e : Int) (w : World) (hs : s.size ≤ 9223372036854775807) (hg : Glob (im w)) :
    Calls Try.prog 44 #[.string s, .int .i64 e] w (PureP w fun v _ => v = .bool (decide (((scanT s).length : Int) = 0) && decide (scanE s = e))) := by
  refine x_fun tt_ok Try.func44 rfl rfl [] 0 [.v (.string s), .v (.int .i64 e)] rfl rfl rfl rfl (fun b hb => by cases hb) ?_
  refine x_vc tt_ok ?_
  refine xl_callO2 31 (tokY.d (scanT s)) [.int .i64 (scanE s)] rfl rfl rfl rfl fn41 rfl rfl (fun E w F hs' => scan_any s w hs (hg.imm hs'.imm)) ?_
  refine xl_go tt_ok ?_
  exact fin1 (fun _ _ => rfl)

set_option maxRecDepth 100000 in
theorem fuse_any (a b : ByteArray) (hz : a.size + b.size ≤ 4294967280) (w : World) (hg : Glob (im w)) :
    Calls Try.prog 45 #[.string a, .string b] w (PureP w fun v _ => v = .bool ((fuP a b).1 && decide ((fuP a b).2 = 0))) := by
  refine x_fun tt_ok Try.func45 rfl rfl [] 0 [.v (.string a), .v (.string b)] rfl rfl rfl rfl (fun b hb => by cases hb) ?_
  refine x_vc tt_ok ?_
  refine xl_call0 (.tuple #[.bool (fuP a b).1, .int .i64 (fuP a b).2]) rfl rfl rfl rfl fn38 rfl rfl (fun E w F hs => fuses_any a b hz w (hg.imm hs.imm)) ?_
  refine xl_go tt_ok ?_
  exact fin1 (fun _ _ => rfl)
end Go.Proofs.Ytdonomneofdhfaa
