/-
  No cell of these rows narrows 'for every input' (looked for: loops, veiled, ifaces, maps, wideKeys, modest, calm, conditions, laid).
  DERIVED. THE GIVEN ROWS OF THIS SEAT. 5 by the template 'for every input the law returns true; each argument reads behind the call as it read before'; 0 by the template 'total and deterministic' (their statements: YtnjlkdhdinfejaaGreatTotals.lean).
  GIVEN WITH THE SEED: the statements are not yours to turn. If you find one false, say at which input.
  Laid BY PROGRAM, IN A SANDBOX (cutbox-rows.mjs): the forced cells as the released guide's own fill.sh prints them over the translation d465aa5795b1107a… (all of the seat's roots in one cut). By AI agents, Wed Nov 11 2026. No macro, syntax, notation, axiom, sorry.
-/
import Derived.Test.YtnjlkdhdinfejaaGreatChecked
import GoSem.Claim
import GoSem.ClaimJoined
import GoSem.ClaimMapViews
import Derived.JoinedTies
import Derived.KernelRfl
namespace Go.Proofs.YtnjlkdhdinfejaaGreat
/- THE CELL 'sum', in the pinned program and in every row, IS THE sha256 OF THE DUMP (.gsa) THAT YtnjlkdhdinfejaaGreatProg.lean LOADS. Nothing in Lean hashes anything: it is a label: what it is worth is what the hold of that sum in a sandbox is worth. -/
noncomputable def Tryz.pinned : Pinned := { name := "ytnjlkdhdinfejaagreat", sum := "d465aa5795b1107a45c48321288dec7aeef38baf9bfa190ca75a3b27292a370d", checked := Tryz.checked }
namespace Rows
def none {H : Type} : Left H := { results := [], args := [] }

/-- 'regletlaw06.ExpandTells': WHATEVER THE INPUT: true; the input reads as it did. -/
def expandTellsSpec : ChangeSpec := { name := "expandTells", fn := fun _ => fun
  | [d1, d2, d3] => { results := [.lit (.bool true)], args := [d1, d2, d3] }
  | _ => none }
def expandTellsRow : OpenClaim := { program := "ytnjlkdhdinfejaagreat", sum := "d465aa5795b1107a45c48321288dec7aeef38baf9bfa190ca75a3b27292a370d", func := "reglet/regletlaw06.ExpandTells", spec := "expandTells", inPlace := ["internal/abi.NoEscape", "internal/bytealg.MakeNoZero", "internal/bytealg.IndexByteString", "internal/bytealg.IndexString"], unfollowed := true, recurses := true, named := ["internal/bytealg.MaxLen"], apart := false }
def ExpandTellsSaid : Prop := expandTellsRow.holds Tryz.pinned (OpenSpec.ofChange expandTellsSpec)

/-- ITS FALSE NEIGHBOUR: 'it returns false'. Refute it at one input. -/
def expandTellsWrong : ChangeSpec := { name := "expandTells", fn := fun _ => fun
  | [d1, d2, d3] => { results := [.lit (.bool false)], args := [d1, d2, d3] }
  | _ => none }
def ExpandTellsWrongFalsely : Prop := expandTellsRow.holds Tryz.pinned (OpenSpec.ofChange expandTellsWrong)

/-- 'regletlaw06.ExpandNames': WHATEVER THE INPUT: true; the input reads as it did. -/
def expandNamesSpec : ChangeSpec := { name := "expandNames", fn := fun _ => fun
  | [] => { results := [.lit (.bool true)], args := [] }
  | _ => none }
def expandNamesRow : OpenClaim := { program := "ytnjlkdhdinfejaagreat", sum := "d465aa5795b1107a45c48321288dec7aeef38baf9bfa190ca75a3b27292a370d", func := "reglet/regletlaw06.ExpandNames", spec := "expandNames", inPlace := ["internal/bytealg.IndexByteString", "internal/bytealg.IndexString", "internal/abi.NoEscape", "internal/bytealg.MakeNoZero"], unfollowed := true, recurses := true, named := ["internal/bytealg.MaxLen"], apart := false }
def ExpandNamesSaid : Prop := expandNamesRow.holds Tryz.pinned (OpenSpec.ofChange expandNamesSpec)

/-- ITS FALSE NEIGHBOUR: 'it returns false'. Refute it at one input. -/
def expandNamesWrong : ChangeSpec := { name := "expandNames", fn := fun _ => fun
  | [] => { results := [.lit (.bool false)], args := [] }
  | _ => none }
def ExpandNamesWrongFalsely : Prop := expandNamesRow.holds Tryz.pinned (OpenSpec.ofChange expandNamesWrong)

/-- 'regletlaw06.ExpandOrder': WHATEVER THE INPUT: true; the input reads as it did. -/
def expandOrderSpec : ChangeSpec := { name := "expandOrder", fn := fun _ => fun
  | [d1, d2, d3] => { results := [.lit (.bool true)], args := [d1, d2, d3] }
  | _ => none }
def expandOrderRow : OpenClaim := { program := "ytnjlkdhdinfejaagreat", sum := "d465aa5795b1107a45c48321288dec7aeef38baf9bfa190ca75a3b27292a370d", func := "reglet/regletlaw06.ExpandOrder", spec := "expandOrder", inPlace := ["internal/bytealg.IndexByteString", "internal/bytealg.IndexString", "internal/abi.NoEscape", "internal/bytealg.MakeNoZero"], unfollowed := true, recurses := true, named := ["internal/bytealg.MaxLen"], apart := false }
def ExpandOrderSaid : Prop := expandOrderRow.holds Tryz.pinned (OpenSpec.ofChange expandOrderSpec)

/-- ITS FALSE NEIGHBOUR: 'it returns false'. Refute it at one input. -/
def expandOrderWrong : ChangeSpec := { name := "expandOrder", fn := fun _ => fun
  | [d1, d2, d3] => { results := [.lit (.bool false)], args := [d1, d2, d3] }
  | _ => none }
def ExpandOrderWrongFalsely : Prop := expandOrderRow.holds Tryz.pinned (OpenSpec.ofChange expandOrderWrong)

/-- 'regletlaw06.ExpandParts': WHATEVER THE INPUT: true; the input reads as it did. -/
def expandPartsSpec : ChangeSpec := { name := "expandParts", fn := fun _ => fun
  | [d1, d2, d3] => { results := [.lit (.bool true)], args := [d1, d2, d3] }
  | _ => none }
def expandPartsRow : OpenClaim := { program := "ytnjlkdhdinfejaagreat", sum := "d465aa5795b1107a45c48321288dec7aeef38baf9bfa190ca75a3b27292a370d", func := "reglet/regletlaw06.ExpandParts", spec := "expandParts", inPlace := ["internal/bytealg.IndexByteString", "internal/bytealg.IndexString", "internal/abi.NoEscape", "internal/bytealg.MakeNoZero"], unfollowed := true, recurses := true, named := ["internal/bytealg.MaxLen"], apart := false }
def ExpandPartsSaid : Prop := expandPartsRow.holds Tryz.pinned (OpenSpec.ofChange expandPartsSpec)

/-- ITS FALSE NEIGHBOUR: 'it returns false'. Refute it at one input. -/
def expandPartsWrong : ChangeSpec := { name := "expandParts", fn := fun _ => fun
  | [d1, d2, d3] => { results := [.lit (.bool false)], args := [d1, d2, d3] }
  | _ => none }
def ExpandPartsWrongFalsely : Prop := expandPartsRow.holds Tryz.pinned (OpenSpec.ofChange expandPartsWrong)

/-- 'regletlaw06.ExpandNamed': WHATEVER THE INPUT: true; the input reads as it did. -/
def expandNamedSpec : ChangeSpec := { name := "expandNamed", fn := fun _ => fun
  | [d1, d2, d3] => { results := [.lit (.bool true)], args := [d1, d2, d3] }
  | _ => none }
def expandNamedRow : OpenClaim := { program := "ytnjlkdhdinfejaagreat", sum := "d465aa5795b1107a45c48321288dec7aeef38baf9bfa190ca75a3b27292a370d", func := "reglet/regletlaw06.ExpandNamed", spec := "expandNamed", inPlace := ["internal/bytealg.IndexByteString", "internal/bytealg.IndexString", "internal/abi.NoEscape", "internal/bytealg.MakeNoZero"], unfollowed := true, recurses := true, named := ["internal/bytealg.MaxLen"], apart := false }
def ExpandNamedSaid : Prop := expandNamedRow.holds Tryz.pinned (OpenSpec.ofChange expandNamedSpec)

/-- ITS FALSE NEIGHBOUR: 'it returns false'. Refute it at one input. -/
def expandNamedWrong : ChangeSpec := { name := "expandNamed", fn := fun _ => fun
  | [d1, d2, d3] => { results := [.lit (.bool false)], args := [d1, d2, d3] }
  | _ => none }
def ExpandNamedWrongFalsely : Prop := expandNamedRow.holds Tryz.pinned (OpenSpec.ofChange expandNamedWrong)

/- THE SECOND FORM. 'bulk': how many values and letters a reading holds, each counted each time it is reached (what is shared counts as often as it is met; a slice's spare places count too). A statement '..UptoSaid' is the law's where the arguments, and the package variables that the reading takes, are together of bulk at most 1048576: NARROWER than '..Said'. Prove '..Said' where nothing that the law and all that it calls make is longer than what came in: it says more and counts as full. Else prove '..UptoSaid'. A law counts once. -/
mutual
def uptoBulk {H : Type} : DataW H → Nat
  | .lit (.string bytes) => bytes.length + 1
  | .lit _ => 1
  | .nil => 1
  | .ptr d => uptoBulk d + 1
  | .slice elems spare => uptoBulkAll elems + uptoBulkAll spare + 1
  | .agg parts => uptoBulkAll parts + 1
  | .iface _ d => uptoBulk d + 1
  | .map entries => uptoBulkEntries entries + 1
  | .held _ => 1
def uptoBulkAll {H : Type} : List (DataW H) → Nat
  | [] => 0
  | d :: r => uptoBulk d + uptoBulkAll r
def uptoBulkEntries {H : Type} : List (Lit × DataW H) → Nat
  | [] => 0
  | x :: r => uptoBulkEntry x + uptoBulkEntries r
def uptoBulkEntry {H : Type} : Lit × DataW H → Nat
  | (.string bytes, d) => bytes.length + uptoBulk d + 1
  | (_, d) => uptoBulk d + 1
 end
def uptoSmall : (H : Type) → List (DataW H) → Bool := fun _ ds => decide (uptoBulkAll ds ≤ 1048576)
def OpenSpec.upto (s : _root_.Go.ChangeSpec) : _root_.Go.OpenSpec := { _root_.Go.OpenSpec.ofChange s with cond := some uptoSmall }

/-- 'regletlaw06.ExpandTells', WHERE WHAT IT READS IS OF BULK AT MOST 1048576: true; the input reads as it did. -/
def expandTellsUptoRow : OpenClaim := { program := "ytnjlkdhdinfejaagreat", sum := "d465aa5795b1107a45c48321288dec7aeef38baf9bfa190ca75a3b27292a370d", func := "reglet/regletlaw06.ExpandTells", spec := "expandTells", inPlace := ["internal/abi.NoEscape", "internal/bytealg.MakeNoZero", "internal/bytealg.IndexByteString", "internal/bytealg.IndexString"], unfollowed := true, recurses := true, named := ["internal/bytealg.MaxLen"], apart := false, narrowed := true }
def ExpandTellsUptoSaid : Prop := expandTellsUptoRow.holds Tryz.pinned (OpenSpec.upto expandTellsSpec)

/-- 'regletlaw06.ExpandNames', WHERE WHAT IT READS IS OF BULK AT MOST 1048576: true; the input reads as it did. -/
def expandNamesUptoRow : OpenClaim := { program := "ytnjlkdhdinfejaagreat", sum := "d465aa5795b1107a45c48321288dec7aeef38baf9bfa190ca75a3b27292a370d", func := "reglet/regletlaw06.ExpandNames", spec := "expandNames", inPlace := ["internal/bytealg.IndexByteString", "internal/bytealg.IndexString", "internal/abi.NoEscape", "internal/bytealg.MakeNoZero"], unfollowed := true, recurses := true, named := ["internal/bytealg.MaxLen"], apart := false, narrowed := true }
def ExpandNamesUptoSaid : Prop := expandNamesUptoRow.holds Tryz.pinned (OpenSpec.upto expandNamesSpec)

/-- 'regletlaw06.ExpandOrder', WHERE WHAT IT READS IS OF BULK AT MOST 1048576: true; the input reads as it did. -/
def expandOrderUptoRow : OpenClaim := { program := "ytnjlkdhdinfejaagreat", sum := "d465aa5795b1107a45c48321288dec7aeef38baf9bfa190ca75a3b27292a370d", func := "reglet/regletlaw06.ExpandOrder", spec := "expandOrder", inPlace := ["internal/bytealg.IndexByteString", "internal/bytealg.IndexString", "internal/abi.NoEscape", "internal/bytealg.MakeNoZero"], unfollowed := true, recurses := true, named := ["internal/bytealg.MaxLen"], apart := false, narrowed := true }
def ExpandOrderUptoSaid : Prop := expandOrderUptoRow.holds Tryz.pinned (OpenSpec.upto expandOrderSpec)

/-- 'regletlaw06.ExpandParts', WHERE WHAT IT READS IS OF BULK AT MOST 1048576: true; the input reads as it did. -/
def expandPartsUptoRow : OpenClaim := { program := "ytnjlkdhdinfejaagreat", sum := "d465aa5795b1107a45c48321288dec7aeef38baf9bfa190ca75a3b27292a370d", func := "reglet/regletlaw06.ExpandParts", spec := "expandParts", inPlace := ["internal/bytealg.IndexByteString", "internal/bytealg.IndexString", "internal/abi.NoEscape", "internal/bytealg.MakeNoZero"], unfollowed := true, recurses := true, named := ["internal/bytealg.MaxLen"], apart := false, narrowed := true }
def ExpandPartsUptoSaid : Prop := expandPartsUptoRow.holds Tryz.pinned (OpenSpec.upto expandPartsSpec)

/-- 'regletlaw06.ExpandNamed', WHERE WHAT IT READS IS OF BULK AT MOST 1048576: true; the input reads as it did. -/
def expandNamedUptoRow : OpenClaim := { program := "ytnjlkdhdinfejaagreat", sum := "d465aa5795b1107a45c48321288dec7aeef38baf9bfa190ca75a3b27292a370d", func := "reglet/regletlaw06.ExpandNamed", spec := "expandNamed", inPlace := ["internal/bytealg.IndexByteString", "internal/bytealg.IndexString", "internal/abi.NoEscape", "internal/bytealg.MakeNoZero"], unfollowed := true, recurses := true, named := ["internal/bytealg.MaxLen"], apart := false, narrowed := true }
def ExpandNamedUptoSaid : Prop := expandNamedUptoRow.holds Tryz.pinned (OpenSpec.upto expandNamedSpec)

end Rows
end Go.Proofs.YtnjlkdhdinfejaaGreat
