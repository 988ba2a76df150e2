/-
  NARROWER THAN 'FOR EVERY INPUT', by the rows' own cells (each row's printed sentence says how): ReflowFull: laid · ReflowTells: laid · ReflowNames: laid · ReflowBack: laid · CondRest: laid · CondNames: laid · CondLogic: laid · CondChoice: laid.
  DERIVED. THE GIVEN ROWS OF THIS SEAT. 8 by the template 'for every input the law returns true; each argument reads behind the call as it read before'; 0 by the template 'total and deterministic' (their statements: YtnjmkeijjapejaaDoorTotals.lean).
  GIVEN WITH THE SEED: the statements are not yours to turn. If you find one false, say at which input.
  Laid BY PROGRAM, IN A SANDBOX (cutbox-rows.mjs): the forced cells as the released guide's own fill.sh prints them over the translation cbb4a8da4b72c3e7… (all of the seat's roots in one cut). By AI agents, Wed Nov 11 2026. No macro, syntax, notation, axiom, sorry.
-/
import Derived.Test.YtnjmkeijjapejaaDoorChecked
import GoSem.PinnedTables
import GoSem.Claim
import GoSem.ClaimJoined
import GoSem.ClaimMapViews
import Derived.JoinedTies
import Derived.KernelRfl
namespace Go.Proofs.YtnjmkeijjapejaaDoor
/- THE CELL 'sum', in the pinned program and in every row, IS THE sha256 OF THE DUMP (.gsa) THAT YtnjmkeijjapejaaDoorProg.lean LOADS. Nothing in Lean hashes anything: it is a label: what it is worth is what the hold of that sum in a sandbox is worth. -/
noncomputable def Tryd.pinned : Pinned := { name := "ytnjmkeijjapejaadoor", sum := "cbb4a8da4b72c3e7b8c70bb9c6db7d52667657da905a5c7c8d7d063a14c0dadd", checked := Tryd.checked }
namespace Rows
def none {H : Type} : Left H := { results := [], args := [] }

/- WHAT THE LISTED PACKAGE-LEVEL VARIABLES READ AS WHEN THE CALL BEGINS. Each datum BY PROGRAM (the guide's laid-datum.mjs) off the statement by which the dump's own 'gosem.cut.vars' lays the variable. In a bare row this is a premise. The card (YtnjmkeijjapejaaDoorCards.lean) ties it to the program's text. -/
def laid_unicode_utf8_acceptRanges {H : Type} : DataW H := .agg [.agg [.lit (.int .u8 128), .lit (.int .u8 191)], .agg [.lit (.int .u8 160), .lit (.int .u8 191)], .agg [.lit (.int .u8 128), .lit (.int .u8 159)], .agg [.lit (.int .u8 144), .lit (.int .u8 191)], .agg [.lit (.int .u8 128), .lit (.int .u8 143)], .agg [.lit (.int .u8 0), .lit (.int .u8 0)], .agg [.lit (.int .u8 0), .lit (.int .u8 0)], .agg [.lit (.int .u8 0), .lit (.int .u8 0)], .agg [.lit (.int .u8 0), .lit (.int .u8 0)], .agg [.lit (.int .u8 0), .lit (.int .u8 0)], .agg [.lit (.int .u8 0), .lit (.int .u8 0)], .agg [.lit (.int .u8 0), .lit (.int .u8 0)], .agg [.lit (.int .u8 0), .lit (.int .u8 0)], .agg [.lit (.int .u8 0), .lit (.int .u8 0)], .agg [.lit (.int .u8 0), .lit (.int .u8 0)], .agg [.lit (.int .u8 0), .lit (.int .u8 0)]]
/-- One of Go's own tables, pinned by name: the form's constant. -/
def laid_unicode_utf8_first : DataW Unit := Go.Pinned.utf8First
def laid_reglet_cond_operators {H : Type} : DataW H := .agg [.agg [.lit (.string [124, 124]), .lit (.int .i64 1)], .agg [.lit (.string [38, 38]), .lit (.int .i64 2)], .agg [.lit (.string [124]), .lit (.int .i64 3)], .agg [.lit (.string [94]), .lit (.int .i64 4)], .agg [.lit (.string [38]), .lit (.int .i64 5)], .agg [.lit (.string [61, 61]), .lit (.int .i64 6)], .agg [.lit (.string [33, 61]), .lit (.int .i64 6)], .agg [.lit (.string [60]), .lit (.int .i64 7)], .agg [.lit (.string [62]), .lit (.int .i64 7)], .agg [.lit (.string [60, 61]), .lit (.int .i64 7)], .agg [.lit (.string [62, 61]), .lit (.int .i64 7)], .agg [.lit (.string [60, 60]), .lit (.int .i64 8)], .agg [.lit (.string [62, 62]), .lit (.int .i64 8)], .agg [.lit (.string [43]), .lit (.int .i64 9)], .agg [.lit (.string [45]), .lit (.int .i64 9)], .agg [.lit (.string [42]), .lit (.int .i64 10)], .agg [.lit (.string [47]), .lit (.int .i64 10)], .agg [.lit (.string [37]), .lit (.int .i64 10)]]

/-- 'regletlaw15.ReflowFull': WHATEVER THE INPUT: true; the input reads as it did. -/
def reflowFullSpec : ChangeSpec := { name := "reflowFull", fn := fun _ => fun
  | [d1, d2, d3] => { results := [.lit (.bool true)], args := [d1, d2, d3] }
  | _ => none }
def reflowFullRow : OpenClaim := { program := "ytnjmkeijjapejaadoor", sum := "cbb4a8da4b72c3e7b8c70bb9c6db7d52667657da905a5c7c8d7d063a14c0dadd", func := "reglet/regletlaw15.ReflowFull", spec := "reflowFull", inPlace := ["internal/bytealg.IndexByteString", "internal/bytealg.IndexString", "internal/bytealg.CountString", "internal/abi.NoEscape", "internal/bytealg.MakeNoZero"], unfollowed := true, recurses := true, named := ["internal/bytealg.MaxLen", "unicode/utf8.first", "unicode/utf8.acceptRanges"], apart := false, laid := [("unicode/utf8.acceptRanges", laid_unicode_utf8_acceptRanges), ("unicode/utf8.first", laid_unicode_utf8_first)] }
def ReflowFullSaid : Prop := reflowFullRow.holds Tryd.pinned (OpenSpec.ofChange reflowFullSpec)

/-- ITS FALSE NEIGHBOUR: 'it returns false'. Refute it at one input. -/
def reflowFullWrong : ChangeSpec := { name := "reflowFull", fn := fun _ => fun
  | [d1, d2, d3] => { results := [.lit (.bool false)], args := [d1, d2, d3] }
  | _ => none }
def ReflowFullWrongFalsely : Prop := reflowFullRow.holds Tryd.pinned (OpenSpec.ofChange reflowFullWrong)

/-- 'regletlaw15.ReflowTells': WHATEVER THE INPUT: true; the input reads as it did. -/
def reflowTellsSpec : ChangeSpec := { name := "reflowTells", fn := fun _ => fun
  | [d1, d2, d3] => { results := [.lit (.bool true)], args := [d1, d2, d3] }
  | _ => none }
def reflowTellsRow : OpenClaim := { program := "ytnjmkeijjapejaadoor", sum := "cbb4a8da4b72c3e7b8c70bb9c6db7d52667657da905a5c7c8d7d063a14c0dadd", func := "reglet/regletlaw15.ReflowTells", spec := "reflowTells", inPlace := ["internal/bytealg.IndexByteString", "internal/bytealg.IndexString", "internal/bytealg.CountString", "internal/abi.NoEscape", "internal/bytealg.MakeNoZero"], unfollowed := true, recurses := true, named := ["internal/bytealg.MaxLen", "unicode/utf8.first", "unicode/utf8.acceptRanges"], apart := false, laid := [("unicode/utf8.acceptRanges", laid_unicode_utf8_acceptRanges), ("unicode/utf8.first", laid_unicode_utf8_first)] }
def ReflowTellsSaid : Prop := reflowTellsRow.holds Tryd.pinned (OpenSpec.ofChange reflowTellsSpec)

/-- ITS FALSE NEIGHBOUR: 'it returns false'. Refute it at one input. -/
def reflowTellsWrong : ChangeSpec := { name := "reflowTells", fn := fun _ => fun
  | [d1, d2, d3] => { results := [.lit (.bool false)], args := [d1, d2, d3] }
  | _ => none }
def ReflowTellsWrongFalsely : Prop := reflowTellsRow.holds Tryd.pinned (OpenSpec.ofChange reflowTellsWrong)

/-- 'regletlaw15.ReflowNames': WHATEVER THE INPUT: true; the input reads as it did. -/
def reflowNamesSpec : ChangeSpec := { name := "reflowNames", fn := fun _ => fun
  | [] => { results := [.lit (.bool true)], args := [] }
  | _ => none }
def reflowNamesRow : OpenClaim := { program := "ytnjmkeijjapejaadoor", sum := "cbb4a8da4b72c3e7b8c70bb9c6db7d52667657da905a5c7c8d7d063a14c0dadd", func := "reglet/regletlaw15.ReflowNames", spec := "reflowNames", inPlace := ["internal/bytealg.IndexByteString", "internal/bytealg.IndexString", "internal/bytealg.CountString", "internal/abi.NoEscape", "internal/bytealg.MakeNoZero"], unfollowed := true, recurses := true, named := ["internal/bytealg.MaxLen", "unicode/utf8.first", "unicode/utf8.acceptRanges"], apart := false, laid := [("unicode/utf8.acceptRanges", laid_unicode_utf8_acceptRanges), ("unicode/utf8.first", laid_unicode_utf8_first)] }
def ReflowNamesSaid : Prop := reflowNamesRow.holds Tryd.pinned (OpenSpec.ofChange reflowNamesSpec)

/-- ITS FALSE NEIGHBOUR: 'it returns false'. Refute it at one input. -/
def reflowNamesWrong : ChangeSpec := { name := "reflowNames", fn := fun _ => fun
  | [] => { results := [.lit (.bool false)], args := [] }
  | _ => none }
def ReflowNamesWrongFalsely : Prop := reflowNamesRow.holds Tryd.pinned (OpenSpec.ofChange reflowNamesWrong)

/-- 'regletlaw15.ReflowBack': WHATEVER THE INPUT: true; the input reads as it did. -/
def reflowBackSpec : ChangeSpec := { name := "reflowBack", fn := fun _ => fun
  | [d1, d2, d3] => { results := [.lit (.bool true)], args := [d1, d2, d3] }
  | _ => none }
def reflowBackRow : OpenClaim := { program := "ytnjmkeijjapejaadoor", sum := "cbb4a8da4b72c3e7b8c70bb9c6db7d52667657da905a5c7c8d7d063a14c0dadd", func := "reglet/regletlaw15.ReflowBack", spec := "reflowBack", inPlace := ["internal/bytealg.IndexByteString", "internal/bytealg.IndexString", "internal/bytealg.CountString", "internal/abi.NoEscape", "internal/bytealg.MakeNoZero"], unfollowed := true, recurses := true, named := ["internal/bytealg.MaxLen", "unicode/utf8.first", "unicode/utf8.acceptRanges"], apart := false, laid := [("unicode/utf8.acceptRanges", laid_unicode_utf8_acceptRanges), ("unicode/utf8.first", laid_unicode_utf8_first)] }
def ReflowBackSaid : Prop := reflowBackRow.holds Tryd.pinned (OpenSpec.ofChange reflowBackSpec)

/-- ITS FALSE NEIGHBOUR: 'it returns false'. Refute it at one input. -/
def reflowBackWrong : ChangeSpec := { name := "reflowBack", fn := fun _ => fun
  | [d1, d2, d3] => { results := [.lit (.bool false)], args := [d1, d2, d3] }
  | _ => none }
def ReflowBackWrongFalsely : Prop := reflowBackRow.holds Tryd.pinned (OpenSpec.ofChange reflowBackWrong)

/-- 'regletlaw07.CondRest': WHATEVER THE INPUT: true; the input reads as it did. -/
def condRestSpec : ChangeSpec := { name := "condRest", fn := fun _ => fun
  | [d1, d2] => { results := [.lit (.bool true)], args := [d1, d2] }
  | _ => none }
def condRestRow : OpenClaim := { program := "ytnjmkeijjapejaadoor", sum := "cbb4a8da4b72c3e7b8c70bb9c6db7d52667657da905a5c7c8d7d063a14c0dadd", func := "reglet/regletlaw07.CondRest", spec := "condRest", inPlace := ["internal/bytealg.IndexByteString", "internal/bytealg.IndexString", "math/bits.Add64"], unfollowed := true, recurses := true, named := ["internal/bytealg.MaxLen", "reglet/cond.operators"], apart := false, laid := [("reglet/cond.operators", laid_reglet_cond_operators)] }
def CondRestSaid : Prop := condRestRow.holds Tryd.pinned (OpenSpec.ofChange condRestSpec)

/-- ITS FALSE NEIGHBOUR: 'it returns false'. Refute it at one input. -/
def condRestWrong : ChangeSpec := { name := "condRest", fn := fun _ => fun
  | [d1, d2] => { results := [.lit (.bool false)], args := [d1, d2] }
  | _ => none }
def CondRestWrongFalsely : Prop := condRestRow.holds Tryd.pinned (OpenSpec.ofChange condRestWrong)

/-- 'regletlaw07.CondNames': WHATEVER THE INPUT: true; the input reads as it did. -/
def condNamesSpec : ChangeSpec := { name := "condNames", fn := fun _ => fun
  | [] => { results := [.lit (.bool true)], args := [] }
  | _ => none }
def condNamesRow : OpenClaim := { program := "ytnjmkeijjapejaadoor", sum := "cbb4a8da4b72c3e7b8c70bb9c6db7d52667657da905a5c7c8d7d063a14c0dadd", func := "reglet/regletlaw07.CondNames", spec := "condNames", inPlace := ["internal/bytealg.IndexByteString", "internal/bytealg.IndexString", "math/bits.Add64"], unfollowed := true, recurses := true, named := ["internal/bytealg.MaxLen", "reglet/cond.operators"], apart := false, laid := [("reglet/cond.operators", laid_reglet_cond_operators)] }
def CondNamesSaid : Prop := condNamesRow.holds Tryd.pinned (OpenSpec.ofChange condNamesSpec)

/-- ITS FALSE NEIGHBOUR: 'it returns false'. Refute it at one input. -/
def condNamesWrong : ChangeSpec := { name := "condNames", fn := fun _ => fun
  | [] => { results := [.lit (.bool false)], args := [] }
  | _ => none }
def CondNamesWrongFalsely : Prop := condNamesRow.holds Tryd.pinned (OpenSpec.ofChange condNamesWrong)

/-- 'regletlaw07.CondLogic': WHATEVER THE INPUT: true; the input reads as it did. -/
def condLogicSpec : ChangeSpec := { name := "condLogic", fn := fun _ => fun
  | [d1, d2] => { results := [.lit (.bool true)], args := [d1, d2] }
  | _ => none }
def condLogicRow : OpenClaim := { program := "ytnjmkeijjapejaadoor", sum := "cbb4a8da4b72c3e7b8c70bb9c6db7d52667657da905a5c7c8d7d063a14c0dadd", func := "reglet/regletlaw07.CondLogic", spec := "condLogic", inPlace := ["internal/bytealg.IndexByteString", "internal/bytealg.IndexString", "math/bits.Add64"], unfollowed := true, recurses := true, named := ["internal/bytealg.MaxLen", "reglet/cond.operators"], apart := false, laid := [("reglet/cond.operators", laid_reglet_cond_operators)] }
def CondLogicSaid : Prop := condLogicRow.holds Tryd.pinned (OpenSpec.ofChange condLogicSpec)

/-- ITS FALSE NEIGHBOUR: 'it returns false'. Refute it at one input. -/
def condLogicWrong : ChangeSpec := { name := "condLogic", fn := fun _ => fun
  | [d1, d2] => { results := [.lit (.bool false)], args := [d1, d2] }
  | _ => none }
def CondLogicWrongFalsely : Prop := condLogicRow.holds Tryd.pinned (OpenSpec.ofChange condLogicWrong)

/-- 'regletlaw07.CondChoice': WHATEVER THE INPUT: true; the input reads as it did. -/
def condChoiceSpec : ChangeSpec := { name := "condChoice", fn := fun _ => fun
  | [d1, d2, d3] => { results := [.lit (.bool true)], args := [d1, d2, d3] }
  | _ => none }
def condChoiceRow : OpenClaim := { program := "ytnjmkeijjapejaadoor", sum := "cbb4a8da4b72c3e7b8c70bb9c6db7d52667657da905a5c7c8d7d063a14c0dadd", func := "reglet/regletlaw07.CondChoice", spec := "condChoice", inPlace := ["internal/bytealg.IndexByteString", "internal/bytealg.IndexString", "math/bits.Add64"], unfollowed := true, recurses := true, named := ["internal/bytealg.MaxLen", "reglet/cond.operators"], apart := false, laid := [("reglet/cond.operators", laid_reglet_cond_operators)] }
def CondChoiceSaid : Prop := condChoiceRow.holds Tryd.pinned (OpenSpec.ofChange condChoiceSpec)

/-- ITS FALSE NEIGHBOUR: 'it returns false'. Refute it at one input. -/
def condChoiceWrong : ChangeSpec := { name := "condChoice", fn := fun _ => fun
  | [d1, d2, d3] => { results := [.lit (.bool false)], args := [d1, d2, d3] }
  | _ => none }
def CondChoiceWrongFalsely : Prop := condChoiceRow.holds Tryd.pinned (OpenSpec.ofChange condChoiceWrong)

/- THE SECOND FORM. 'bulk': how many values and letters a reading holds, each counted each time it is reached (what is shared counts as often as it is met; a slice's spare places count too). A statement '..UptoSaid' is the law's where the arguments, and the package variables that the reading takes, are together of bulk at most 1048576: NARROWER than '..Said'. Prove '..Said' where nothing that the law and all that it calls make is longer than what came in: it says more and counts as full. Else prove '..UptoSaid'. A law counts once. -/
mutual
def uptoBulk {H : Type} : DataW H → Nat
  | .lit (.string bytes) => bytes.length + 1
  | .lit _ => 1
  | .nil => 1
  | .ptr d => uptoBulk d + 1
  | .slice elems spare => uptoBulkAll elems + uptoBulkAll spare + 1
  | .agg parts => uptoBulkAll parts + 1
  | .iface _ d => uptoBulk d + 1
  | .map entries => uptoBulkEntries entries + 1
  | .held _ => 1
def uptoBulkAll {H : Type} : List (DataW H) → Nat
  | [] => 0
  | d :: r => uptoBulk d + uptoBulkAll r
def uptoBulkEntries {H : Type} : List (Lit × DataW H) → Nat
  | [] => 0
  | x :: r => uptoBulkEntry x + uptoBulkEntries r
def uptoBulkEntry {H : Type} : Lit × DataW H → Nat
  | (.string bytes, d) => bytes.length + uptoBulk d + 1
  | (_, d) => uptoBulk d + 1
 end
def uptoSmall : (H : Type) → List (DataW H) → Bool := fun _ ds => decide (uptoBulkAll ds ≤ 1048576)
def OpenSpec.upto (s : _root_.Go.ChangeSpec) : _root_.Go.OpenSpec := { _root_.Go.OpenSpec.ofChange s with cond := some uptoSmall }

/-- 'regletlaw15.ReflowFull', WHERE WHAT IT READS IS OF BULK AT MOST 1048576: true; the input reads as it did. -/
def reflowFullUptoRow : OpenClaim := { program := "ytnjmkeijjapejaadoor", sum := "cbb4a8da4b72c3e7b8c70bb9c6db7d52667657da905a5c7c8d7d063a14c0dadd", func := "reglet/regletlaw15.ReflowFull", spec := "reflowFull", inPlace := ["internal/bytealg.IndexByteString", "internal/bytealg.IndexString", "internal/bytealg.CountString", "internal/abi.NoEscape", "internal/bytealg.MakeNoZero"], unfollowed := true, recurses := true, named := ["internal/bytealg.MaxLen", "unicode/utf8.first", "unicode/utf8.acceptRanges"], apart := false, laid := [("unicode/utf8.acceptRanges", laid_unicode_utf8_acceptRanges), ("unicode/utf8.first", laid_unicode_utf8_first)], narrowed := true }
def ReflowFullUptoSaid : Prop := reflowFullUptoRow.holds Tryd.pinned (OpenSpec.upto reflowFullSpec)

/-- 'regletlaw15.ReflowTells', WHERE WHAT IT READS IS OF BULK AT MOST 1048576: true; the input reads as it did. -/
def reflowTellsUptoRow : OpenClaim := { program := "ytnjmkeijjapejaadoor", sum := "cbb4a8da4b72c3e7b8c70bb9c6db7d52667657da905a5c7c8d7d063a14c0dadd", func := "reglet/regletlaw15.ReflowTells", spec := "reflowTells", inPlace := ["internal/bytealg.IndexByteString", "internal/bytealg.IndexString", "internal/bytealg.CountString", "internal/abi.NoEscape", "internal/bytealg.MakeNoZero"], unfollowed := true, recurses := true, named := ["internal/bytealg.MaxLen", "unicode/utf8.first", "unicode/utf8.acceptRanges"], apart := false, laid := [("unicode/utf8.acceptRanges", laid_unicode_utf8_acceptRanges), ("unicode/utf8.first", laid_unicode_utf8_first)], narrowed := true }
def ReflowTellsUptoSaid : Prop := reflowTellsUptoRow.holds Tryd.pinned (OpenSpec.upto reflowTellsSpec)

/-- 'regletlaw15.ReflowNames', WHERE WHAT IT READS IS OF BULK AT MOST 1048576: true; the input reads as it did. -/
def reflowNamesUptoRow : OpenClaim := { program := "ytnjmkeijjapejaadoor", sum := "cbb4a8da4b72c3e7b8c70bb9c6db7d52667657da905a5c7c8d7d063a14c0dadd", func := "reglet/regletlaw15.ReflowNames", spec := "reflowNames", inPlace := ["internal/bytealg.IndexByteString", "internal/bytealg.IndexString", "internal/bytealg.CountString", "internal/abi.NoEscape", "internal/bytealg.MakeNoZero"], unfollowed := true, recurses := true, named := ["internal/bytealg.MaxLen", "unicode/utf8.first", "unicode/utf8.acceptRanges"], apart := false, laid := [("unicode/utf8.acceptRanges", laid_unicode_utf8_acceptRanges), ("unicode/utf8.first", laid_unicode_utf8_first)], narrowed := true }
def ReflowNamesUptoSaid : Prop := reflowNamesUptoRow.holds Tryd.pinned (OpenSpec.upto reflowNamesSpec)

/-- 'regletlaw15.ReflowBack', WHERE WHAT IT READS IS OF BULK AT MOST 1048576: true; the input reads as it did. -/
def reflowBackUptoRow : OpenClaim := { program := "ytnjmkeijjapejaadoor", sum := "cbb4a8da4b72c3e7b8c70bb9c6db7d52667657da905a5c7c8d7d063a14c0dadd", func := "reglet/regletlaw15.ReflowBack", spec := "reflowBack", inPlace := ["internal/bytealg.IndexByteString", "internal/bytealg.IndexString", "internal/bytealg.CountString", "internal/abi.NoEscape", "internal/bytealg.MakeNoZero"], unfollowed := true, recurses := true, named := ["internal/bytealg.MaxLen", "unicode/utf8.first", "unicode/utf8.acceptRanges"], apart := false, laid := [("unicode/utf8.acceptRanges", laid_unicode_utf8_acceptRanges), ("unicode/utf8.first", laid_unicode_utf8_first)], narrowed := true }
def ReflowBackUptoSaid : Prop := reflowBackUptoRow.holds Tryd.pinned (OpenSpec.upto reflowBackSpec)

/-- 'regletlaw07.CondRest', WHERE WHAT IT READS IS OF BULK AT MOST 1048576: true; the input reads as it did. -/
def condRestUptoRow : OpenClaim := { program := "ytnjmkeijjapejaadoor", sum := "cbb4a8da4b72c3e7b8c70bb9c6db7d52667657da905a5c7c8d7d063a14c0dadd", func := "reglet/regletlaw07.CondRest", spec := "condRest", inPlace := ["internal/bytealg.IndexByteString", "internal/bytealg.IndexString", "math/bits.Add64"], unfollowed := true, recurses := true, named := ["internal/bytealg.MaxLen", "reglet/cond.operators"], apart := false, laid := [("reglet/cond.operators", laid_reglet_cond_operators)], narrowed := true }
def CondRestUptoSaid : Prop := condRestUptoRow.holds Tryd.pinned (OpenSpec.upto condRestSpec)

/-- 'regletlaw07.CondNames', WHERE WHAT IT READS IS OF BULK AT MOST 1048576: true; the input reads as it did. -/
def condNamesUptoRow : OpenClaim := { program := "ytnjmkeijjapejaadoor", sum := "cbb4a8da4b72c3e7b8c70bb9c6db7d52667657da905a5c7c8d7d063a14c0dadd", func := "reglet/regletlaw07.CondNames", spec := "condNames", inPlace := ["internal/bytealg.IndexByteString", "internal/bytealg.IndexString", "math/bits.Add64"], unfollowed := true, recurses := true, named := ["internal/bytealg.MaxLen", "reglet/cond.operators"], apart := false, laid := [("reglet/cond.operators", laid_reglet_cond_operators)], narrowed := true }
def CondNamesUptoSaid : Prop := condNamesUptoRow.holds Tryd.pinned (OpenSpec.upto condNamesSpec)

/-- 'regletlaw07.CondLogic', WHERE WHAT IT READS IS OF BULK AT MOST 1048576: true; the input reads as it did. -/
def condLogicUptoRow : OpenClaim := { program := "ytnjmkeijjapejaadoor", sum := "cbb4a8da4b72c3e7b8c70bb9c6db7d52667657da905a5c7c8d7d063a14c0dadd", func := "reglet/regletlaw07.CondLogic", spec := "condLogic", inPlace := ["internal/bytealg.IndexByteString", "internal/bytealg.IndexString", "math/bits.Add64"], unfollowed := true, recurses := true, named := ["internal/bytealg.MaxLen", "reglet/cond.operators"], apart := false, laid := [("reglet/cond.operators", laid_reglet_cond_operators)], narrowed := true }
def CondLogicUptoSaid : Prop := condLogicUptoRow.holds Tryd.pinned (OpenSpec.upto condLogicSpec)

/-- 'regletlaw07.CondChoice', WHERE WHAT IT READS IS OF BULK AT MOST 1048576: true; the input reads as it did. -/
def condChoiceUptoRow : OpenClaim := { program := "ytnjmkeijjapejaadoor", sum := "cbb4a8da4b72c3e7b8c70bb9c6db7d52667657da905a5c7c8d7d063a14c0dadd", func := "reglet/regletlaw07.CondChoice", spec := "condChoice", inPlace := ["internal/bytealg.IndexByteString", "internal/bytealg.IndexString", "math/bits.Add64"], unfollowed := true, recurses := true, named := ["internal/bytealg.MaxLen", "reglet/cond.operators"], apart := false, laid := [("reglet/cond.operators", laid_reglet_cond_operators)], narrowed := true }
def CondChoiceUptoSaid : Prop := condChoiceUptoRow.holds Tryd.pinned (OpenSpec.upto condChoiceSpec)

end Rows
end Go.Proofs.YtnjmkeijjapejaaDoor
