/-
  No cell of these rows narrows 'for every input' (looked for: loops, veiled, ifaces, maps, wideKeys, modest, calm, conditions, laid).
  DERIVED. THE GIVEN ROWS OF THIS SEAT. 20 by the template 'for every input the law returns true; each argument reads behind the call as it read before'; 0 by the template 'total and deterministic' (their statements: YtdonomneofdhfaaTotals.lean).
  GIVEN WITH THE SEED: the statements are not yours to turn. If you find one false, say at which input.
  Laid BY PROGRAM, IN A SANDBOX (cutbox-rows.mjs): the forced cells as the released guide's own fill.sh prints them over the translation cd494784ee560a8f… (all of the seat's roots in one cut). By AI agents, Wed Nov 11 2026. No macro, syntax, notation, axiom, sorry.
-/
import Derived.Test.YtdonomneofdhfaaChecked
import GoSem.Claim
import GoSem.ClaimJoined
import GoSem.ClaimMapViews
import Derived.JoinedTies
import Derived.KernelRfl
namespace Go.Proofs.Ytdonomneofdhfaa
/- THE CELL 'sum', in the pinned program and in every row, IS THE sha256 OF THE DUMP (.gsa) THAT YtdonomneofdhfaaProg.lean LOADS. Nothing in Lean hashes anything: it is a label: what it is worth is what the hold of that sum in a sandbox is worth. -/
noncomputable def Try.pinned : Pinned := { name := "ytdonomneofdhfaa", sum := "cd494784ee560a8fb5338097092b320899ed48e2f2500d15a8cb8d28e960c366", checked := Try.checked }
namespace Rows
def none {H : Type} : Left H := { results := [], args := [] }

/-- 'regletlaw03.LinesTells': WHATEVER THE INPUT: true; the input reads as it did. -/
def linesTellsSpec : ChangeSpec := { name := "linesTells", fn := fun _ => fun
  | [d] => { results := [.lit (.bool true)], args := [d] }
  | _ => none }
def linesTellsRow : OpenClaim := { program := "ytdonomneofdhfaa", sum := "cd494784ee560a8fb5338097092b320899ed48e2f2500d15a8cb8d28e960c366", func := "reglet/regletlaw03.LinesTells", spec := "linesTells", unfollowed := true, recurses := true, apart := false }
def LinesTellsSaid : Prop := linesTellsRow.holds Try.pinned (OpenSpec.ofChange linesTellsSpec)

/-- ITS FALSE NEIGHBOUR: 'it returns false'. Refute it at one input. -/
def linesTellsWrong : ChangeSpec := { name := "linesTells", fn := fun _ => fun
  | [d] => { results := [.lit (.bool false)], args := [d] }
  | _ => none }
def LinesTellsWrongFalsely : Prop := linesTellsRow.holds Try.pinned (OpenSpec.ofChange linesTellsWrong)

/-- 'regletlaw05.MacroDefines': WHATEVER THE INPUT: true; the input reads as it did. -/
def macroDefinesSpec : ChangeSpec := { name := "macroDefines", fn := fun _ => fun
  | [d] => { results := [.lit (.bool true)], args := [d] }
  | _ => none }
def macroDefinesRow : OpenClaim := { program := "ytdonomneofdhfaa", sum := "cd494784ee560a8fb5338097092b320899ed48e2f2500d15a8cb8d28e960c366", func := "reglet/regletlaw05.MacroDefines", spec := "macroDefines", unfollowed := true, recurses := true, apart := false }
def MacroDefinesSaid : Prop := macroDefinesRow.holds Try.pinned (OpenSpec.ofChange macroDefinesSpec)

/-- ITS FALSE NEIGHBOUR: 'it returns false'. Refute it at one input. -/
def macroDefinesWrong : ChangeSpec := { name := "macroDefines", fn := fun _ => fun
  | [d] => { results := [.lit (.bool false)], args := [d] }
  | _ => none }
def MacroDefinesWrongFalsely : Prop := macroDefinesRow.holds Try.pinned (OpenSpec.ofChange macroDefinesWrong)

/-- 'regletlaw02.ScanOnes': WHATEVER THE INPUT: true; the input reads as it did. -/
def scanOnesSpec : ChangeSpec := { name := "scanOnes", fn := fun _ => fun
  | [d1, d2] => { results := [.lit (.bool true)], args := [d1, d2] }
  | _ => none }
def scanOnesRow : OpenClaim := { program := "ytdonomneofdhfaa", sum := "cd494784ee560a8fb5338097092b320899ed48e2f2500d15a8cb8d28e960c366", func := "reglet/regletlaw02.ScanOnes", spec := "scanOnes", inPlace := ["internal/bytealg.IndexByteString", "internal/bytealg.IndexString"], unfollowed := true, recurses := true, named := ["internal/bytealg.MaxLen"], apart := false }
def ScanOnesSaid : Prop := scanOnesRow.holds Try.pinned (OpenSpec.ofChange scanOnesSpec)

/-- ITS FALSE NEIGHBOUR: 'it returns false'. Refute it at one input. -/
def scanOnesWrong : ChangeSpec := { name := "scanOnes", fn := fun _ => fun
  | [d1, d2] => { results := [.lit (.bool false)], args := [d1, d2] }
  | _ => none }
def ScanOnesWrongFalsely : Prop := scanOnesRow.holds Try.pinned (OpenSpec.ofChange scanOnesWrong)

/-- 'regletlaw02.ScanCovers': WHATEVER THE INPUT: true; the input reads as it did. -/
def scanCoversSpec : ChangeSpec := { name := "scanCovers", fn := fun _ => fun
  | [d] => { results := [.lit (.bool true)], args := [d] }
  | _ => none }
def scanCoversRow : OpenClaim := { program := "ytdonomneofdhfaa", sum := "cd494784ee560a8fb5338097092b320899ed48e2f2500d15a8cb8d28e960c366", func := "reglet/regletlaw02.ScanCovers", spec := "scanCovers", inPlace := ["internal/bytealg.IndexByteString", "internal/bytealg.IndexString"], unfollowed := true, recurses := true, named := ["internal/bytealg.MaxLen"], apart := false }
def ScanCoversSaid : Prop := scanCoversRow.holds Try.pinned (OpenSpec.ofChange scanCoversSpec)

/-- ITS FALSE NEIGHBOUR: 'it returns false'. Refute it at one input. -/
def scanCoversWrong : ChangeSpec := { name := "scanCovers", fn := fun _ => fun
  | [d] => { results := [.lit (.bool false)], args := [d] }
  | _ => none }
def ScanCoversWrongFalsely : Prop := scanCoversRow.holds Try.pinned (OpenSpec.ofChange scanCoversWrong)

/-- 'regletlaw02.ScanMunch': WHATEVER THE INPUT: true; the input reads as it did. -/
def scanMunchSpec : ChangeSpec := { name := "scanMunch", fn := fun _ => fun
  | [d] => { results := [.lit (.bool true)], args := [d] }
  | _ => none }
def scanMunchRow : OpenClaim := { program := "ytdonomneofdhfaa", sum := "cd494784ee560a8fb5338097092b320899ed48e2f2500d15a8cb8d28e960c366", func := "reglet/regletlaw02.ScanMunch", spec := "scanMunch", inPlace := ["internal/bytealg.IndexByteString", "internal/bytealg.IndexString"], unfollowed := true, recurses := true, named := ["internal/bytealg.MaxLen"], apart := false }
def ScanMunchSaid : Prop := scanMunchRow.holds Try.pinned (OpenSpec.ofChange scanMunchSpec)

/-- ITS FALSE NEIGHBOUR: 'it returns false'. Refute it at one input. -/
def scanMunchWrong : ChangeSpec := { name := "scanMunch", fn := fun _ => fun
  | [d] => { results := [.lit (.bool false)], args := [d] }
  | _ => none }
def ScanMunchWrongFalsely : Prop := scanMunchRow.holds Try.pinned (OpenSpec.ofChange scanMunchWrong)

/-- 'regletlaw02.ScanNames': WHATEVER THE INPUT: true; the input reads as it did. -/
def scanNamesSpec : ChangeSpec := { name := "scanNames", fn := fun _ => fun
  | [] => { results := [.lit (.bool true)], args := [] }
  | _ => none }
def scanNamesRow : OpenClaim := { program := "ytdonomneofdhfaa", sum := "cd494784ee560a8fb5338097092b320899ed48e2f2500d15a8cb8d28e960c366", func := "reglet/regletlaw02.ScanNames", spec := "scanNames", inPlace := ["internal/bytealg.IndexByteString", "internal/bytealg.IndexString"], unfollowed := true, recurses := true, named := ["internal/bytealg.MaxLen"], apart := false }
def ScanNamesSaid : Prop := scanNamesRow.holds Try.pinned (OpenSpec.ofChange scanNamesSpec)

/-- ITS FALSE NEIGHBOUR: 'it returns false'. Refute it at one input. -/
def scanNamesWrong : ChangeSpec := { name := "scanNames", fn := fun _ => fun
  | [] => { results := [.lit (.bool false)], args := [] }
  | _ => none }
def ScanNamesWrongFalsely : Prop := scanNamesRow.holds Try.pinned (OpenSpec.ofChange scanNamesWrong)

/-- 'regletlaw02.ScanSpaces': WHATEVER THE INPUT: true; the input reads as it did. -/
def scanSpacesSpec : ChangeSpec := { name := "scanSpaces", fn := fun _ => fun
  | [d] => { results := [.lit (.bool true)], args := [d] }
  | _ => none }
def scanSpacesRow : OpenClaim := { program := "ytdonomneofdhfaa", sum := "cd494784ee560a8fb5338097092b320899ed48e2f2500d15a8cb8d28e960c366", func := "reglet/regletlaw02.ScanSpaces", spec := "scanSpaces", inPlace := ["internal/bytealg.IndexByteString", "internal/bytealg.IndexString", "internal/abi.NoEscape"], unfollowed := true, recurses := true, named := ["internal/bytealg.MaxLen"], apart := false }
def ScanSpacesSaid : Prop := scanSpacesRow.holds Try.pinned (OpenSpec.ofChange scanSpacesSpec)

/-- ITS FALSE NEIGHBOUR: 'it returns false'. Refute it at one input. -/
def scanSpacesWrong : ChangeSpec := { name := "scanSpaces", fn := fun _ => fun
  | [d] => { results := [.lit (.bool false)], args := [d] }
  | _ => none }
def ScanSpacesWrongFalsely : Prop := scanSpacesRow.holds Try.pinned (OpenSpec.ofChange scanSpacesWrong)

/-- 'regletlaw03.LinesWhole': WHATEVER THE INPUT: true; the input reads as it did. -/
def linesWholeSpec : ChangeSpec := { name := "linesWhole", fn := fun _ => fun
  | [d] => { results := [.lit (.bool true)], args := [d] }
  | _ => none }
def linesWholeRow : OpenClaim := { program := "ytdonomneofdhfaa", sum := "cd494784ee560a8fb5338097092b320899ed48e2f2500d15a8cb8d28e960c366", func := "reglet/regletlaw03.LinesWhole", spec := "linesWhole", inPlace := ["internal/bytealg.IndexByteString", "internal/bytealg.IndexString"], unfollowed := true, recurses := true, named := ["internal/bytealg.MaxLen"], apart := false }
def LinesWholeSaid : Prop := linesWholeRow.holds Try.pinned (OpenSpec.ofChange linesWholeSpec)

/-- ITS FALSE NEIGHBOUR: 'it returns false'. Refute it at one input. -/
def linesWholeWrong : ChangeSpec := { name := "linesWhole", fn := fun _ => fun
  | [d] => { results := [.lit (.bool false)], args := [d] }
  | _ => none }
def LinesWholeWrongFalsely : Prop := linesWholeRow.holds Try.pinned (OpenSpec.ofChange linesWholeWrong)

/-- 'regletlaw03.LinesWraps': WHATEVER THE INPUT: true; the input reads as it did. -/
def linesWrapsSpec : ChangeSpec := { name := "linesWraps", fn := fun _ => fun
  | [d] => { results := [.lit (.bool true)], args := [d] }
  | _ => none }
def linesWrapsRow : OpenClaim := { program := "ytdonomneofdhfaa", sum := "cd494784ee560a8fb5338097092b320899ed48e2f2500d15a8cb8d28e960c366", func := "reglet/regletlaw03.LinesWraps", spec := "linesWraps", inPlace := ["internal/bytealg.IndexByteString", "internal/bytealg.IndexString"], unfollowed := true, recurses := true, named := ["internal/bytealg.MaxLen"], apart := false }
def LinesWrapsSaid : Prop := linesWrapsRow.holds Try.pinned (OpenSpec.ofChange linesWrapsSpec)

/-- ITS FALSE NEIGHBOUR: 'it returns false'. Refute it at one input. -/
def linesWrapsWrong : ChangeSpec := { name := "linesWraps", fn := fun _ => fun
  | [d] => { results := [.lit (.bool false)], args := [d] }
  | _ => none }
def LinesWrapsWrongFalsely : Prop := linesWrapsRow.holds Try.pinned (OpenSpec.ofChange linesWrapsWrong)

/-- 'regletlaw04.CtokWorths': WHATEVER THE INPUT: true; the input reads as it did. -/
def ctokWorthsSpec : ChangeSpec := { name := "ctokWorths", fn := fun _ => fun
  | [d] => { results := [.lit (.bool true)], args := [d] }
  | _ => none }
def ctokWorthsRow : OpenClaim := { program := "ytdonomneofdhfaa", sum := "cd494784ee560a8fb5338097092b320899ed48e2f2500d15a8cb8d28e960c366", func := "reglet/regletlaw04.CtokWorths", spec := "ctokWorths", inPlace := ["math/bits.Add64", "internal/bytealg.IndexByteString", "internal/bytealg.IndexString"], unfollowed := true, recurses := true, named := ["internal/bytealg.MaxLen"], apart := false }
def CtokWorthsSaid : Prop := ctokWorthsRow.holds Try.pinned (OpenSpec.ofChange ctokWorthsSpec)

/-- ITS FALSE NEIGHBOUR: 'it returns false'. Refute it at one input. -/
def ctokWorthsWrong : ChangeSpec := { name := "ctokWorths", fn := fun _ => fun
  | [d] => { results := [.lit (.bool false)], args := [d] }
  | _ => none }
def CtokWorthsWrongFalsely : Prop := ctokWorthsRow.holds Try.pinned (OpenSpec.ofChange ctokWorthsWrong)

/-- 'regletlaw03.LinesNames': WHATEVER THE INPUT: true; the input reads as it did. -/
def linesNamesSpec : ChangeSpec := { name := "linesNames", fn := fun _ => fun
  | [] => { results := [.lit (.bool true)], args := [] }
  | _ => none }
def linesNamesRow : OpenClaim := { program := "ytdonomneofdhfaa", sum := "cd494784ee560a8fb5338097092b320899ed48e2f2500d15a8cb8d28e960c366", func := "reglet/regletlaw03.LinesNames", spec := "linesNames", inPlace := ["internal/bytealg.IndexByteString", "internal/bytealg.IndexString"], unfollowed := true, recurses := true, named := ["internal/bytealg.MaxLen"], apart := false }
def LinesNamesSaid : Prop := linesNamesRow.holds Try.pinned (OpenSpec.ofChange linesNamesSpec)

/-- ITS FALSE NEIGHBOUR: 'it returns false'. Refute it at one input. -/
def linesNamesWrong : ChangeSpec := { name := "linesNames", fn := fun _ => fun
  | [] => { results := [.lit (.bool false)], args := [] }
  | _ => none }
def LinesNamesWrongFalsely : Prop := linesNamesRow.holds Try.pinned (OpenSpec.ofChange linesNamesWrong)

/-- 'regletlaw04.CtokClasses': WHATEVER THE INPUT: true; the input reads as it did. -/
def ctokClassesSpec : ChangeSpec := { name := "ctokClasses", fn := fun _ => fun
  | [d1, d2] => { results := [.lit (.bool true)], args := [d1, d2] }
  | _ => none }
def ctokClassesRow : OpenClaim := { program := "ytdonomneofdhfaa", sum := "cd494784ee560a8fb5338097092b320899ed48e2f2500d15a8cb8d28e960c366", func := "reglet/regletlaw04.CtokClasses", spec := "ctokClasses", inPlace := ["math/bits.Add64", "internal/bytealg.IndexByteString", "internal/bytealg.IndexString"], unfollowed := true, recurses := true, named := ["internal/bytealg.MaxLen"], apart := false }
def CtokClassesSaid : Prop := ctokClassesRow.holds Try.pinned (OpenSpec.ofChange ctokClassesSpec)

/-- ITS FALSE NEIGHBOUR: 'it returns false'. Refute it at one input. -/
def ctokClassesWrong : ChangeSpec := { name := "ctokClasses", fn := fun _ => fun
  | [d1, d2] => { results := [.lit (.bool false)], args := [d1, d2] }
  | _ => none }
def CtokClassesWrongFalsely : Prop := ctokClassesRow.holds Try.pinned (OpenSpec.ofChange ctokClassesWrong)

/-- 'regletlaw04.CtokBack': WHATEVER THE INPUT: true; the input reads as it did. -/
def ctokBackSpec : ChangeSpec := { name := "ctokBack", fn := fun _ => fun
  | [d] => { results := [.lit (.bool true)], args := [d] }
  | _ => none }
def ctokBackRow : OpenClaim := { program := "ytdonomneofdhfaa", sum := "cd494784ee560a8fb5338097092b320899ed48e2f2500d15a8cb8d28e960c366", func := "reglet/regletlaw04.CtokBack", spec := "ctokBack", inPlace := ["math/bits.Add64", "internal/bytealg.IndexByteString", "internal/bytealg.IndexString"], unfollowed := true, recurses := true, named := ["internal/bytealg.MaxLen"], apart := false }
def CtokBackSaid : Prop := ctokBackRow.holds Try.pinned (OpenSpec.ofChange ctokBackSpec)

/-- ITS FALSE NEIGHBOUR: 'it returns false'. Refute it at one input. -/
def ctokBackWrong : ChangeSpec := { name := "ctokBack", fn := fun _ => fun
  | [d] => { results := [.lit (.bool false)], args := [d] }
  | _ => none }
def CtokBackWrongFalsely : Prop := ctokBackRow.holds Try.pinned (OpenSpec.ofChange ctokBackWrong)

/-- 'regletlaw04.CtokOne': WHATEVER THE INPUT: true; the input reads as it did. -/
def ctokOneSpec : ChangeSpec := { name := "ctokOne", fn := fun _ => fun
  | [d] => { results := [.lit (.bool true)], args := [d] }
  | _ => none }
def ctokOneRow : OpenClaim := { program := "ytdonomneofdhfaa", sum := "cd494784ee560a8fb5338097092b320899ed48e2f2500d15a8cb8d28e960c366", func := "reglet/regletlaw04.CtokOne", spec := "ctokOne", inPlace := ["math/bits.Add64", "internal/bytealg.IndexByteString", "internal/bytealg.IndexString"], unfollowed := true, recurses := true, named := ["internal/bytealg.MaxLen"], apart := false }
def CtokOneSaid : Prop := ctokOneRow.holds Try.pinned (OpenSpec.ofChange ctokOneSpec)

/-- ITS FALSE NEIGHBOUR: 'it returns false'. Refute it at one input. -/
def ctokOneWrong : ChangeSpec := { name := "ctokOne", fn := fun _ => fun
  | [d] => { results := [.lit (.bool false)], args := [d] }
  | _ => none }
def CtokOneWrongFalsely : Prop := ctokOneRow.holds Try.pinned (OpenSpec.ofChange ctokOneWrong)

/-- 'regletlaw04.CtokBytes': WHATEVER THE INPUT: true; the input reads as it did. -/
def ctokBytesSpec : ChangeSpec := { name := "ctokBytes", fn := fun _ => fun
  | [d] => { results := [.lit (.bool true)], args := [d] }
  | _ => none }
def ctokBytesRow : OpenClaim := { program := "ytdonomneofdhfaa", sum := "cd494784ee560a8fb5338097092b320899ed48e2f2500d15a8cb8d28e960c366", func := "reglet/regletlaw04.CtokBytes", spec := "ctokBytes", inPlace := ["math/bits.Add64", "internal/bytealg.IndexByteString", "internal/bytealg.IndexString"], unfollowed := true, recurses := true, named := ["internal/bytealg.MaxLen"], apart := false }
def CtokBytesSaid : Prop := ctokBytesRow.holds Try.pinned (OpenSpec.ofChange ctokBytesSpec)

/-- ITS FALSE NEIGHBOUR: 'it returns false'. Refute it at one input. -/
def ctokBytesWrong : ChangeSpec := { name := "ctokBytes", fn := fun _ => fun
  | [d] => { results := [.lit (.bool false)], args := [d] }
  | _ => none }
def CtokBytesWrongFalsely : Prop := ctokBytesRow.holds Try.pinned (OpenSpec.ofChange ctokBytesWrong)

/-- 'regletlaw04.CtokTokens': WHATEVER THE INPUT: true; the input reads as it did. -/
def ctokTokensSpec : ChangeSpec := { name := "ctokTokens", fn := fun _ => fun
  | [d] => { results := [.lit (.bool true)], args := [d] }
  | _ => none }
def ctokTokensRow : OpenClaim := { program := "ytdonomneofdhfaa", sum := "cd494784ee560a8fb5338097092b320899ed48e2f2500d15a8cb8d28e960c366", func := "reglet/regletlaw04.CtokTokens", spec := "ctokTokens", inPlace := ["math/bits.Add64", "internal/bytealg.IndexByteString", "internal/bytealg.IndexString"], unfollowed := true, recurses := true, named := ["internal/bytealg.MaxLen"], apart := false }
def CtokTokensSaid : Prop := ctokTokensRow.holds Try.pinned (OpenSpec.ofChange ctokTokensSpec)

/-- ITS FALSE NEIGHBOUR: 'it returns false'. Refute it at one input. -/
def ctokTokensWrong : ChangeSpec := { name := "ctokTokens", fn := fun _ => fun
  | [d] => { results := [.lit (.bool false)], args := [d] }
  | _ => none }
def CtokTokensWrongFalsely : Prop := ctokTokensRow.holds Try.pinned (OpenSpec.ofChange ctokTokensWrong)

/-- 'regletlaw04.CtokNames': WHATEVER THE INPUT: true; the input reads as it did. -/
def ctokNamesSpec : ChangeSpec := { name := "ctokNames", fn := fun _ => fun
  | [] => { results := [.lit (.bool true)], args := [] }
  | _ => none }
def ctokNamesRow : OpenClaim := { program := "ytdonomneofdhfaa", sum := "cd494784ee560a8fb5338097092b320899ed48e2f2500d15a8cb8d28e960c366", func := "reglet/regletlaw04.CtokNames", spec := "ctokNames", inPlace := ["math/bits.Add64", "internal/bytealg.IndexByteString", "internal/bytealg.IndexString"], unfollowed := true, recurses := true, named := ["internal/bytealg.MaxLen"], apart := false }
def CtokNamesSaid : Prop := ctokNamesRow.holds Try.pinned (OpenSpec.ofChange ctokNamesSpec)

/-- ITS FALSE NEIGHBOUR: 'it returns false'. Refute it at one input. -/
def ctokNamesWrong : ChangeSpec := { name := "ctokNames", fn := fun _ => fun
  | [] => { results := [.lit (.bool false)], args := [] }
  | _ => none }
def CtokNamesWrongFalsely : Prop := ctokNamesRow.holds Try.pinned (OpenSpec.ofChange ctokNamesWrong)

/-- 'regletlaw05.MacroRemarks': WHATEVER THE INPUT: true; the input reads as it did. -/
def macroRemarksSpec : ChangeSpec := { name := "macroRemarks", fn := fun _ => fun
  | [d1, d2] => { results := [.lit (.bool true)], args := [d1, d2] }
  | _ => none }
def macroRemarksRow : OpenClaim := { program := "ytdonomneofdhfaa", sum := "cd494784ee560a8fb5338097092b320899ed48e2f2500d15a8cb8d28e960c366", func := "reglet/regletlaw05.MacroRemarks", spec := "macroRemarks", inPlace := ["internal/bytealg.IndexByteString", "internal/bytealg.IndexString", "internal/abi.NoEscape"], unfollowed := true, recurses := true, named := ["internal/bytealg.MaxLen"], apart := false }
def MacroRemarksSaid : Prop := macroRemarksRow.holds Try.pinned (OpenSpec.ofChange macroRemarksSpec)

/-- ITS FALSE NEIGHBOUR: 'it returns false'. Refute it at one input. -/
def macroRemarksWrong : ChangeSpec := { name := "macroRemarks", fn := fun _ => fun
  | [d1, d2] => { results := [.lit (.bool false)], args := [d1, d2] }
  | _ => none }
def MacroRemarksWrongFalsely : Prop := macroRemarksRow.holds Try.pinned (OpenSpec.ofChange macroRemarksWrong)

/-- 'regletlaw05.MacroNames': WHATEVER THE INPUT: true; the input reads as it did. -/
def macroNamesSpec : ChangeSpec := { name := "macroNames", fn := fun _ => fun
  | [] => { results := [.lit (.bool true)], args := [] }
  | _ => none }
def macroNamesRow : OpenClaim := { program := "ytdonomneofdhfaa", sum := "cd494784ee560a8fb5338097092b320899ed48e2f2500d15a8cb8d28e960c366", func := "reglet/regletlaw05.MacroNames", spec := "macroNames", inPlace := ["internal/bytealg.IndexByteString", "internal/bytealg.IndexString", "internal/abi.NoEscape", "internal/bytealg.MakeNoZero"], unfollowed := true, recurses := true, named := ["internal/bytealg.MaxLen"], apart := false }
def MacroNamesSaid : Prop := macroNamesRow.holds Try.pinned (OpenSpec.ofChange macroNamesSpec)

/-- ITS FALSE NEIGHBOUR: 'it returns false'. Refute it at one input. -/
def macroNamesWrong : ChangeSpec := { name := "macroNames", fn := fun _ => fun
  | [] => { results := [.lit (.bool false)], args := [] }
  | _ => none }
def MacroNamesWrongFalsely : Prop := macroNamesRow.holds Try.pinned (OpenSpec.ofChange macroNamesWrong)

/-- 'regletlaw05.MacroBack': WHATEVER THE INPUT: true; the input reads as it did. -/
def macroBackSpec : ChangeSpec := { name := "macroBack", fn := fun _ => fun
  | [d] => { results := [.lit (.bool true)], args := [d] }
  | _ => none }
def macroBackRow : OpenClaim := { program := "ytdonomneofdhfaa", sum := "cd494784ee560a8fb5338097092b320899ed48e2f2500d15a8cb8d28e960c366", func := "reglet/regletlaw05.MacroBack", spec := "macroBack", inPlace := ["internal/bytealg.IndexByteString", "internal/bytealg.IndexString", "internal/abi.NoEscape", "internal/bytealg.MakeNoZero"], unfollowed := true, recurses := true, named := ["internal/bytealg.MaxLen"], apart := false }
def MacroBackSaid : Prop := macroBackRow.holds Try.pinned (OpenSpec.ofChange macroBackSpec)

/-- ITS FALSE NEIGHBOUR: 'it returns false'. Refute it at one input. -/
def macroBackWrong : ChangeSpec := { name := "macroBack", fn := fun _ => fun
  | [d] => { results := [.lit (.bool false)], args := [d] }
  | _ => none }
def MacroBackWrongFalsely : Prop := macroBackRow.holds Try.pinned (OpenSpec.ofChange macroBackWrong)

/- THE SECOND FORM. 'bulk': how many values and letters a reading holds, each counted each time it is reached (what is shared counts as often as it is met; a slice's spare places count too). A statement '..UptoSaid' is the law's where the arguments, and the package variables that the reading takes, are together of bulk at most 1048576: NARROWER than '..Said'. Prove '..Said' where nothing that the law and all that it calls make is longer than what came in: it says more and counts as full. Else prove '..UptoSaid'. A law counts once. -/
mutual
def uptoBulk {H : Type} : DataW H → Nat
  | .lit (.string bytes) => bytes.length + 1
  | .lit _ => 1
  | .nil => 1
  | .ptr d => uptoBulk d + 1
  | .slice elems spare => uptoBulkAll elems + uptoBulkAll spare + 1
  | .agg parts => uptoBulkAll parts + 1
  | .iface _ d => uptoBulk d + 1
  | .map entries => uptoBulkEntries entries + 1
  | .held _ => 1
def uptoBulkAll {H : Type} : List (DataW H) → Nat
  | [] => 0
  | d :: r => uptoBulk d + uptoBulkAll r
def uptoBulkEntries {H : Type} : List (Lit × DataW H) → Nat
  | [] => 0
  | x :: r => uptoBulkEntry x + uptoBulkEntries r
def uptoBulkEntry {H : Type} : Lit × DataW H → Nat
  | (.string bytes, d) => bytes.length + uptoBulk d + 1
  | (_, d) => uptoBulk d + 1
 end
def uptoSmall : (H : Type) → List (DataW H) → Bool := fun _ ds => decide (uptoBulkAll ds ≤ 1048576)
def OpenSpec.upto (s : _root_.Go.ChangeSpec) : _root_.Go.OpenSpec := { _root_.Go.OpenSpec.ofChange s with cond := some uptoSmall }

/-- 'regletlaw03.LinesTells', WHERE WHAT IT READS IS OF BULK AT MOST 1048576: true; the input reads as it did. -/
def linesTellsUptoRow : OpenClaim := { program := "ytdonomneofdhfaa", sum := "cd494784ee560a8fb5338097092b320899ed48e2f2500d15a8cb8d28e960c366", func := "reglet/regletlaw03.LinesTells", spec := "linesTells", unfollowed := true, recurses := true, apart := false, narrowed := true }
def LinesTellsUptoSaid : Prop := linesTellsUptoRow.holds Try.pinned (OpenSpec.upto linesTellsSpec)

/-- 'regletlaw05.MacroDefines', WHERE WHAT IT READS IS OF BULK AT MOST 1048576: true; the input reads as it did. -/
def macroDefinesUptoRow : OpenClaim := { program := "ytdonomneofdhfaa", sum := "cd494784ee560a8fb5338097092b320899ed48e2f2500d15a8cb8d28e960c366", func := "reglet/regletlaw05.MacroDefines", spec := "macroDefines", unfollowed := true, recurses := true, apart := false, narrowed := true }
def MacroDefinesUptoSaid : Prop := macroDefinesUptoRow.holds Try.pinned (OpenSpec.upto macroDefinesSpec)

/-- 'regletlaw02.ScanOnes', WHERE WHAT IT READS IS OF BULK AT MOST 1048576: true; the input reads as it did. -/
def scanOnesUptoRow : OpenClaim := { program := "ytdonomneofdhfaa", sum := "cd494784ee560a8fb5338097092b320899ed48e2f2500d15a8cb8d28e960c366", func := "reglet/regletlaw02.ScanOnes", spec := "scanOnes", inPlace := ["internal/bytealg.IndexByteString", "internal/bytealg.IndexString"], unfollowed := true, recurses := true, named := ["internal/bytealg.MaxLen"], apart := false, narrowed := true }
def ScanOnesUptoSaid : Prop := scanOnesUptoRow.holds Try.pinned (OpenSpec.upto scanOnesSpec)

/-- 'regletlaw02.ScanCovers', WHERE WHAT IT READS IS OF BULK AT MOST 1048576: true; the input reads as it did. -/
def scanCoversUptoRow : OpenClaim := { program := "ytdonomneofdhfaa", sum := "cd494784ee560a8fb5338097092b320899ed48e2f2500d15a8cb8d28e960c366", func := "reglet/regletlaw02.ScanCovers", spec := "scanCovers", inPlace := ["internal/bytealg.IndexByteString", "internal/bytealg.IndexString"], unfollowed := true, recurses := true, named := ["internal/bytealg.MaxLen"], apart := false, narrowed := true }
def ScanCoversUptoSaid : Prop := scanCoversUptoRow.holds Try.pinned (OpenSpec.upto scanCoversSpec)

/-- 'regletlaw02.ScanMunch', WHERE WHAT IT READS IS OF BULK AT MOST 1048576: true; the input reads as it did. -/
def scanMunchUptoRow : OpenClaim := { program := "ytdonomneofdhfaa", sum := "cd494784ee560a8fb5338097092b320899ed48e2f2500d15a8cb8d28e960c366", func := "reglet/regletlaw02.ScanMunch", spec := "scanMunch", inPlace := ["internal/bytealg.IndexByteString", "internal/bytealg.IndexString"], unfollowed := true, recurses := true, named := ["internal/bytealg.MaxLen"], apart := false, narrowed := true }
def ScanMunchUptoSaid : Prop := scanMunchUptoRow.holds Try.pinned (OpenSpec.upto scanMunchSpec)

/-- 'regletlaw02.ScanNames', WHERE WHAT IT READS IS OF BULK AT MOST 1048576: true; the input reads as it did. -/
def scanNamesUptoRow : OpenClaim := { program := "ytdonomneofdhfaa", sum := "cd494784ee560a8fb5338097092b320899ed48e2f2500d15a8cb8d28e960c366", func := "reglet/regletlaw02.ScanNames", spec := "scanNames", inPlace := ["internal/bytealg.IndexByteString", "internal/bytealg.IndexString"], unfollowed := true, recurses := true, named := ["internal/bytealg.MaxLen"], apart := false, narrowed := true }
def ScanNamesUptoSaid : Prop := scanNamesUptoRow.holds Try.pinned (OpenSpec.upto scanNamesSpec)

/-- 'regletlaw02.ScanSpaces', WHERE WHAT IT READS IS OF BULK AT MOST 1048576: true; the input reads as it did. -/
def scanSpacesUptoRow : OpenClaim := { program := "ytdonomneofdhfaa", sum := "cd494784ee560a8fb5338097092b320899ed48e2f2500d15a8cb8d28e960c366", func := "reglet/regletlaw02.ScanSpaces", spec := "scanSpaces", inPlace := ["internal/bytealg.IndexByteString", "internal/bytealg.IndexString", "internal/abi.NoEscape"], unfollowed := true, recurses := true, named := ["internal/bytealg.MaxLen"], apart := false, narrowed := true }
def ScanSpacesUptoSaid : Prop := scanSpacesUptoRow.holds Try.pinned (OpenSpec.upto scanSpacesSpec)

/-- 'regletlaw03.LinesWhole', WHERE WHAT IT READS IS OF BULK AT MOST 1048576: true; the input reads as it did. -/
def linesWholeUptoRow : OpenClaim := { program := "ytdonomneofdhfaa", sum := "cd494784ee560a8fb5338097092b320899ed48e2f2500d15a8cb8d28e960c366", func := "reglet/regletlaw03.LinesWhole", spec := "linesWhole", inPlace := ["internal/bytealg.IndexByteString", "internal/bytealg.IndexString"], unfollowed := true, recurses := true, named := ["internal/bytealg.MaxLen"], apart := false, narrowed := true }
def LinesWholeUptoSaid : Prop := linesWholeUptoRow.holds Try.pinned (OpenSpec.upto linesWholeSpec)

/-- 'regletlaw03.LinesWraps', WHERE WHAT IT READS IS OF BULK AT MOST 1048576: true; the input reads as it did. -/
def linesWrapsUptoRow : OpenClaim := { program := "ytdonomneofdhfaa", sum := "cd494784ee560a8fb5338097092b320899ed48e2f2500d15a8cb8d28e960c366", func := "reglet/regletlaw03.LinesWraps", spec := "linesWraps", inPlace := ["internal/bytealg.IndexByteString", "internal/bytealg.IndexString"], unfollowed := true, recurses := true, named := ["internal/bytealg.MaxLen"], apart := false, narrowed := true }
def LinesWrapsUptoSaid : Prop := linesWrapsUptoRow.holds Try.pinned (OpenSpec.upto linesWrapsSpec)

/-- 'regletlaw04.CtokWorths', WHERE WHAT IT READS IS OF BULK AT MOST 1048576: true; the input reads as it did. -/
def ctokWorthsUptoRow : OpenClaim := { program := "ytdonomneofdhfaa", sum := "cd494784ee560a8fb5338097092b320899ed48e2f2500d15a8cb8d28e960c366", func := "reglet/regletlaw04.CtokWorths", spec := "ctokWorths", inPlace := ["math/bits.Add64", "internal/bytealg.IndexByteString", "internal/bytealg.IndexString"], unfollowed := true, recurses := true, named := ["internal/bytealg.MaxLen"], apart := false, narrowed := true }
def CtokWorthsUptoSaid : Prop := ctokWorthsUptoRow.holds Try.pinned (OpenSpec.upto ctokWorthsSpec)

/-- 'regletlaw03.LinesNames', WHERE WHAT IT READS IS OF BULK AT MOST 1048576: true; the input reads as it did. -/
def linesNamesUptoRow : OpenClaim := { program := "ytdonomneofdhfaa", sum := "cd494784ee560a8fb5338097092b320899ed48e2f2500d15a8cb8d28e960c366", func := "reglet/regletlaw03.LinesNames", spec := "linesNames", inPlace := ["internal/bytealg.IndexByteString", "internal/bytealg.IndexString"], unfollowed := true, recurses := true, named := ["internal/bytealg.MaxLen"], apart := false, narrowed := true }
def LinesNamesUptoSaid : Prop := linesNamesUptoRow.holds Try.pinned (OpenSpec.upto linesNamesSpec)

/-- 'regletlaw04.CtokClasses', WHERE WHAT IT READS IS OF BULK AT MOST 1048576: true; the input reads as it did. -/
def ctokClassesUptoRow : OpenClaim := { program := "ytdonomneofdhfaa", sum := "cd494784ee560a8fb5338097092b320899ed48e2f2500d15a8cb8d28e960c366", func := "reglet/regletlaw04.CtokClasses", spec := "ctokClasses", inPlace := ["math/bits.Add64", "internal/bytealg.IndexByteString", "internal/bytealg.IndexString"], unfollowed := true, recurses := true, named := ["internal/bytealg.MaxLen"], apart := false, narrowed := true }
def CtokClassesUptoSaid : Prop := ctokClassesUptoRow.holds Try.pinned (OpenSpec.upto ctokClassesSpec)

/-- 'regletlaw04.CtokBack', WHERE WHAT IT READS IS OF BULK AT MOST 1048576: true; the input reads as it did. -/
def ctokBackUptoRow : OpenClaim := { program := "ytdonomneofdhfaa", sum := "cd494784ee560a8fb5338097092b320899ed48e2f2500d15a8cb8d28e960c366", func := "reglet/regletlaw04.CtokBack", spec := "ctokBack", inPlace := ["math/bits.Add64", "internal/bytealg.IndexByteString", "internal/bytealg.IndexString"], unfollowed := true, recurses := true, named := ["internal/bytealg.MaxLen"], apart := false, narrowed := true }
def CtokBackUptoSaid : Prop := ctokBackUptoRow.holds Try.pinned (OpenSpec.upto ctokBackSpec)

/-- 'regletlaw04.CtokOne', WHERE WHAT IT READS IS OF BULK AT MOST 1048576: true; the input reads as it did. -/
def ctokOneUptoRow : OpenClaim := { program := "ytdonomneofdhfaa", sum := "cd494784ee560a8fb5338097092b320899ed48e2f2500d15a8cb8d28e960c366", func := "reglet/regletlaw04.CtokOne", spec := "ctokOne", inPlace := ["math/bits.Add64", "internal/bytealg.IndexByteString", "internal/bytealg.IndexString"], unfollowed := true, recurses := true, named := ["internal/bytealg.MaxLen"], apart := false, narrowed := true }
def CtokOneUptoSaid : Prop := ctokOneUptoRow.holds Try.pinned (OpenSpec.upto ctokOneSpec)

/-- 'regletlaw04.CtokBytes', WHERE WHAT IT READS IS OF BULK AT MOST 1048576: true; the input reads as it did. -/
def ctokBytesUptoRow : OpenClaim := { program := "ytdonomneofdhfaa", sum := "cd494784ee560a8fb5338097092b320899ed48e2f2500d15a8cb8d28e960c366", func := "reglet/regletlaw04.CtokBytes", spec := "ctokBytes", inPlace := ["math/bits.Add64", "internal/bytealg.IndexByteString", "internal/bytealg.IndexString"], unfollowed := true, recurses := true, named := ["internal/bytealg.MaxLen"], apart := false, narrowed := true }
def CtokBytesUptoSaid : Prop := ctokBytesUptoRow.holds Try.pinned (OpenSpec.upto ctokBytesSpec)

/-- 'regletlaw04.CtokTokens', WHERE WHAT IT READS IS OF BULK AT MOST 1048576: true; the input reads as it did. -/
def ctokTokensUptoRow : OpenClaim := { program := "ytdonomneofdhfaa", sum := "cd494784ee560a8fb5338097092b320899ed48e2f2500d15a8cb8d28e960c366", func := "reglet/regletlaw04.CtokTokens", spec := "ctokTokens", inPlace := ["math/bits.Add64", "internal/bytealg.IndexByteString", "internal/bytealg.IndexString"], unfollowed := true, recurses := true, named := ["internal/bytealg.MaxLen"], apart := false, narrowed := true }
def CtokTokensUptoSaid : Prop := ctokTokensUptoRow.holds Try.pinned (OpenSpec.upto ctokTokensSpec)

/-- 'regletlaw04.CtokNames', WHERE WHAT IT READS IS OF BULK AT MOST 1048576: true; the input reads as it did. -/
def ctokNamesUptoRow : OpenClaim := { program := "ytdonomneofdhfaa", sum := "cd494784ee560a8fb5338097092b320899ed48e2f2500d15a8cb8d28e960c366", func := "reglet/regletlaw04.CtokNames", spec := "ctokNames", inPlace := ["math/bits.Add64", "internal/bytealg.IndexByteString", "internal/bytealg.IndexString"], unfollowed := true, recurses := true, named := ["internal/bytealg.MaxLen"], apart := false, narrowed := true }
def CtokNamesUptoSaid : Prop := ctokNamesUptoRow.holds Try.pinned (OpenSpec.upto ctokNamesSpec)

/-- 'regletlaw05.MacroRemarks', WHERE WHAT IT READS IS OF BULK AT MOST 1048576: true; the input reads as it did. -/
def macroRemarksUptoRow : OpenClaim := { program := "ytdonomneofdhfaa", sum := "cd494784ee560a8fb5338097092b320899ed48e2f2500d15a8cb8d28e960c366", func := "reglet/regletlaw05.MacroRemarks", spec := "macroRemarks", inPlace := ["internal/bytealg.IndexByteString", "internal/bytealg.IndexString", "internal/abi.NoEscape"], unfollowed := true, recurses := true, named := ["internal/bytealg.MaxLen"], apart := false, narrowed := true }
def MacroRemarksUptoSaid : Prop := macroRemarksUptoRow.holds Try.pinned (OpenSpec.upto macroRemarksSpec)

/-- 'regletlaw05.MacroNames', WHERE WHAT IT READS IS OF BULK AT MOST 1048576: true; the input reads as it did. -/
def macroNamesUptoRow : OpenClaim := { program := "ytdonomneofdhfaa", sum := "cd494784ee560a8fb5338097092b320899ed48e2f2500d15a8cb8d28e960c366", func := "reglet/regletlaw05.MacroNames", spec := "macroNames", inPlace := ["internal/bytealg.IndexByteString", "internal/bytealg.IndexString", "internal/abi.NoEscape", "internal/bytealg.MakeNoZero"], unfollowed := true, recurses := true, named := ["internal/bytealg.MaxLen"], apart := false, narrowed := true }
def MacroNamesUptoSaid : Prop := macroNamesUptoRow.holds Try.pinned (OpenSpec.upto macroNamesSpec)

/-- 'regletlaw05.MacroBack', WHERE WHAT IT READS IS OF BULK AT MOST 1048576: true; the input reads as it did. -/
def macroBackUptoRow : OpenClaim := { program := "ytdonomneofdhfaa", sum := "cd494784ee560a8fb5338097092b320899ed48e2f2500d15a8cb8d28e960c366", func := "reglet/regletlaw05.MacroBack", spec := "macroBack", inPlace := ["internal/bytealg.IndexByteString", "internal/bytealg.IndexString", "internal/abi.NoEscape", "internal/bytealg.MakeNoZero"], unfollowed := true, recurses := true, named := ["internal/bytealg.MaxLen"], apart := false, narrowed := true }
def MacroBackUptoSaid : Prop := macroBackUptoRow.holds Try.pinned (OpenSpec.upto macroBackSpec)

end Rows
end Go.Proofs.Ytdonomneofdhfaa
