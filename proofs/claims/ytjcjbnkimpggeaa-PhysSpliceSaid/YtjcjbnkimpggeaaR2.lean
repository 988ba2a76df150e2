/- PhysSplice: the law's function answers true. -/
import Derived.Test.YtjcjbnkimpggeaaR1
import Derived.Test.YtjcjbnkimpggeaaP8
namespace Go.Proofs.Ytjcjbnkimpggeaa
open Go.GV Go.RowKit

theorem physSplice_all (s : ByteArray) (k : Int) (w : World) (hs : s.size ≤ 140737488355328) :
    Calls Try.prog 5 #[.string s, .int .i64 k] w (PureP w fun v _ => v = .bool true) :=
  physSplice_any s k w hs fun es k0 k1 hl => splice_law s es k0 k1 hl
end Go.Proofs.Ytjcjbnkimpggeaa
