/-
  NARROWER THAN 'FOR EVERY INPUT', by the rows' own cells (each row's printed sentence says how): CondTells: laid.
  DERIVED. THE GIVEN ROWS OF THIS SEAT. 1 by the template 'for every input the law returns true; each argument reads behind the call as it read before'; 0 by the template 'total and deterministic' (their statements: YtnjmkeijjapejaaGreatDoorTotals.lean).
  GIVEN WITH THE SEED: the statements are not yours to turn. If you find one false, say at which input.
  Laid BY PROGRAM, IN A SANDBOX (cutbox-rows.mjs): the forced cells as the released guide's own fill.sh prints them over the translation aa46ab291d92c726… (all of the seat's roots in one cut). By AI agents, Wed Nov 11 2026. No macro, syntax, notation, axiom, sorry.
-/
import Derived.Test.YtnjmkeijjapejaaGreatDoorChecked
import GoSem.Claim
import GoSem.ClaimJoined
import GoSem.ClaimMapViews
import Derived.JoinedTies
import Derived.KernelRfl
namespace Go.Proofs.YtnjmkeijjapejaaGreatDoor
/- THE CELL 'sum', in the pinned program and in every row, IS THE sha256 OF THE DUMP (.gsa) THAT YtnjmkeijjapejaaGreatDoorProg.lean LOADS. Nothing in Lean hashes anything: it is a label: what it is worth is what the hold of that sum in a sandbox is worth. -/
noncomputable def Tryz.pinned : Pinned := { name := "ytnjmkeijjapejaagreatdoor", sum := "aa46ab291d92c7268ed6a7a53982cfa70edf9e46fc81d80ed8ea430ad6b15bda", checked := Tryz.checked }
namespace Rows
def none {H : Type} : Left H := { results := [], args := [] }

/- WHAT THE LISTED PACKAGE-LEVEL VARIABLES READ AS WHEN THE CALL BEGINS. Each datum BY PROGRAM (the guide's laid-datum.mjs) off the statement by which the dump's own 'gosem.cut.vars' lays the variable. In a bare row this is a premise. The card (YtnjmkeijjapejaaGreatDoorCards.lean) ties it to the program's text. -/
def laid_reglet_cond_operators {H : Type} : DataW H := .agg [.agg [.lit (.string [124, 124]), .lit (.int .i64 1)], .agg [.lit (.string [38, 38]), .lit (.int .i64 2)], .agg [.lit (.string [124]), .lit (.int .i64 3)], .agg [.lit (.string [94]), .lit (.int .i64 4)], .agg [.lit (.string [38]), .lit (.int .i64 5)], .agg [.lit (.string [61, 61]), .lit (.int .i64 6)], .agg [.lit (.string [33, 61]), .lit (.int .i64 6)], .agg [.lit (.string [60]), .lit (.int .i64 7)], .agg [.lit (.string [62]), .lit (.int .i64 7)], .agg [.lit (.string [60, 61]), .lit (.int .i64 7)], .agg [.lit (.string [62, 61]), .lit (.int .i64 7)], .agg [.lit (.string [60, 60]), .lit (.int .i64 8)], .agg [.lit (.string [62, 62]), .lit (.int .i64 8)], .agg [.lit (.string [43]), .lit (.int .i64 9)], .agg [.lit (.string [45]), .lit (.int .i64 9)], .agg [.lit (.string [42]), .lit (.int .i64 10)], .agg [.lit (.string [47]), .lit (.int .i64 10)], .agg [.lit (.string [37]), .lit (.int .i64 10)]]

/-- 'regletlaw07.CondTells': WHATEVER THE INPUT: true; the input reads as it did. -/
def condTellsSpec : ChangeSpec := { name := "condTells", fn := fun _ => fun
  | [d] => { results := [.lit (.bool true)], args := [d] }
  | _ => none }
def condTellsRow : OpenClaim := { program := "ytnjmkeijjapejaagreatdoor", sum := "aa46ab291d92c7268ed6a7a53982cfa70edf9e46fc81d80ed8ea430ad6b15bda", func := "reglet/regletlaw07.CondTells", spec := "condTells", inPlace := ["math/bits.Add64", "internal/bytealg.IndexByteString", "internal/bytealg.IndexString"], unfollowed := true, recurses := true, named := ["internal/bytealg.MaxLen", "reglet/cond.operators"], apart := false, laid := [("reglet/cond.operators", laid_reglet_cond_operators)] }
def CondTellsSaid : Prop := condTellsRow.holds Tryz.pinned (OpenSpec.ofChange condTellsSpec)

/-- ITS FALSE NEIGHBOUR: 'it returns false'. Refute it at one input. -/
def condTellsWrong : ChangeSpec := { name := "condTells", fn := fun _ => fun
  | [d] => { results := [.lit (.bool false)], args := [d] }
  | _ => none }
def CondTellsWrongFalsely : Prop := condTellsRow.holds Tryz.pinned (OpenSpec.ofChange condTellsWrong)

/- THE SECOND FORM. 'bulk': how many values and letters a reading holds, each counted each time it is reached (what is shared counts as often as it is met; a slice's spare places count too). A statement '..UptoSaid' is the law's where the arguments, and the package variables that the reading takes, are together of bulk at most 1048576: NARROWER than '..Said'. Prove '..Said' where nothing that the law and all that it calls make is longer than what came in: it says more and counts as full. Else prove '..UptoSaid'. A law counts once. -/
mutual
def uptoBulk {H : Type} : DataW H → Nat
  | .lit (.string bytes) => bytes.length + 1
  | .lit _ => 1
  | .nil => 1
  | .ptr d => uptoBulk d + 1
  | .slice elems spare => uptoBulkAll elems + uptoBulkAll spare + 1
  | .agg parts => uptoBulkAll parts + 1
  | .iface _ d => uptoBulk d + 1
  | .map entries => uptoBulkEntries entries + 1
  | .held _ => 1
def uptoBulkAll {H : Type} : List (DataW H) → Nat
  | [] => 0
  | d :: r => uptoBulk d + uptoBulkAll r
def uptoBulkEntries {H : Type} : List (Lit × DataW H) → Nat
  | [] => 0
  | x :: r => uptoBulkEntry x + uptoBulkEntries r
def uptoBulkEntry {H : Type} : Lit × DataW H → Nat
  | (.string bytes, d) => bytes.length + uptoBulk d + 1
  | (_, d) => uptoBulk d + 1
 end
def uptoSmall : (H : Type) → List (DataW H) → Bool := fun _ ds => decide (uptoBulkAll ds ≤ 1048576)
def OpenSpec.upto (s : _root_.Go.ChangeSpec) : _root_.Go.OpenSpec := { _root_.Go.OpenSpec.ofChange s with cond := some uptoSmall }

/-- 'regletlaw07.CondTells', WHERE WHAT IT READS IS OF BULK AT MOST 1048576: true; the input reads as it did. -/
def condTellsUptoRow : OpenClaim := { program := "ytnjmkeijjapejaagreatdoor", sum := "aa46ab291d92c7268ed6a7a53982cfa70edf9e46fc81d80ed8ea430ad6b15bda", func := "reglet/regletlaw07.CondTells", spec := "condTells", inPlace := ["math/bits.Add64", "internal/bytealg.IndexByteString", "internal/bytealg.IndexString"], unfollowed := true, recurses := true, named := ["internal/bytealg.MaxLen", "reglet/cond.operators"], apart := false, laid := [("reglet/cond.operators", laid_reglet_cond_operators)], narrowed := true }
def CondTellsUptoSaid : Prop := condTellsUptoRow.holds Tryz.pinned (OpenSpec.upto condTellsSpec)

end Rows
end Go.Proofs.YtnjmkeijjapejaaGreatDoor
