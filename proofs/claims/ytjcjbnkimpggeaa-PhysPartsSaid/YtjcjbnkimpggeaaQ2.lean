/- PhysParts: the law's function answers true. -/
import Derived.Test.YtjcjbnkimpggeaaQ1
import Derived.Test.YtjcjbnkimpggeaaP7
namespace Go.Proofs.Ytjcjbnkimpggeaa
open Go.GV Go.RowKit

theorem physParts_all (a b : ByteArray) (w : World) (ha : a.size ≤ 140737488355328) (hb : b.size ≤ 140737488355328) :
    Calls Try.prog 4 #[.string a, .string b] w (PureP w fun v _ => v = .bool true) := by
  refine physParts_any a b w ha hb fun ea eb hl => ?_
  obtain ⟨h1, h2⟩ := parts_law a b ea eb hl
  refine ⟨h1, ?_⟩
  rw [charsOf, charsOf, charsOf, if_pos h1, if_pos ea, if_pos eb, h2]
  rfl
end Go.Proofs.Ytjcjbnkimpggeaa
