/- How deep rows stand: the document's answer. -/
import Derived.Test.YtdonomneofdhfaaL2
namespace Go.Proofs.Ytdonomneofdhfaa
open Go.GV Go.RowKit

abbrev intY : Lay Int := ⟨[fun i => .int .i64 i], 0⟩
abbrev boolY : Lay Bool := ⟨[fun b => .bool b], false⟩

def bad (last : List Int) (k : Int) : Bool := decide ((last.length : Int) = 0) || (decide (k < 4) && decide (last.getD ((last.length : Int) - 1).toNat 0 = 3))

/-- what a row does to the stack of what is open, and how deep it stands -/
def stepR (last : List Int) (k : Int) : Option (List Int × Int) :=
  if 1 < k then
    if bad last k = true then none
    else some (if k = 4 then (last.set ((last.length : Int) - 1).toNat k).take ((last.length : Int) - 1).toNat else last.set ((last.length : Int) - 1).toNat k, (last.length : Int) - 1)
  else some (if k = 1 then last ++ [1] else last, last.length)

def depthsFrom (last out : List Int) : List RowV → Option (List Int)
  | [] => if 0 < last.length then none else some out
  | r :: rest => match stepR last (turnV r) with
    | none => none
    | some (last', d) => depthsFrom last' (out ++ [d]) rest

def dOut (L : List RowV) : List Int := (depthsFrom [] [] L).getD []
def dErr (L : List RowV) : Int := if (depthsFrom [] [] L).isNone then 81 else 0

end Go.Proofs.Ytdonomneofdhfaa
