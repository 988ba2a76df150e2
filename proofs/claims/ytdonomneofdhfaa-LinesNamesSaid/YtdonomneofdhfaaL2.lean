/- How deep rows stand: what is reckoned, and what a row does. -/
import Derived.Test.YtdonomneofdhfaaL1
namespace Go.Proofs.Ytdonomneofdhfaa
open Go.GV Go.RowKit

abbrev sIf : ByteArray := ⟨#[105, 102]⟩
abbrev sIfdef : ByteArray := ⟨#[105, 102, 100, 101, 102]⟩
abbrev sIfndef : ByteArray := ⟨#[105, 102, 110, 100, 101, 102]⟩
abbrev sElif : ByteArray := ⟨#[101, 108, 105, 102]⟩
abbrev sElse : ByteArray := ⟨#[101, 108, 115, 101]⟩
abbrev sEndif : ByteArray := ⟨#[101, 110, 100, 105, 102]⟩

def turnN (n : ByteArray) : Int :=
  if n = sIf then 1 else if n = sIfdef then 1 else if n = sIfndef then 1 else if n = sElif then 2 else if n = sElse then 3 else if n = sEndif then 4 else 0
def turnV (r : RowV) : Int := if r.dir = true then turnN r.name else 0

end Go.Proofs.Ytdonomneofdhfaa
