/-
  DERIVED. GIVEN WITH THE SEED: THE CARDS: each row of YtdcpjaemlfgigaaGreatDoorRows.lean that lists a variable, with what it lists TIED to the program's text (the seventh form; the later family's looks); each row that meets fmt, with fmt's text TOLD by the authors' own Lean function (tested against real Go, not proved from fmt's source: count such statements apart). THE CARD IS WHAT COUNTS. Prove the row's statement (the work); the ties are given (YtdcpjaemlfgigaaGreatDoorTie.lean); close each card by the builder's one call (the guide's Derived/Test/ToyasCard.lean, 'card_holds'). Laid BY PROGRAM, IN A SANDBOX (cutbox-door.mjs). By AI agents, Wed Nov 11 2026. No macro, syntax, notation, axiom, sorry.
-/
import Derived.Test.YtdcpjaemlfgigaaGreatDoorRows
import GoSem.ClaimSeven
namespace Go.Proofs.YtdcpjaemlfgigaaGreatDoor
namespace Rows

/-- THE TIED CARD OF 'regletlaw08.PrepNames'. -/
def prepNamesCard : Claim7 := { stood := { row := prepNamesRow, standIns := [], harness := (true, "8b9022eb4eece8ba0c84f8af0c9d88996d44ca945232ba9194cf00debbc8d886"), looks := false }, kinds := [], alts := [], laidByText := true, laidKinds := [.data], laidTests := true, laidLooks := .later }
def PrepNamesCardSaid : Prop := Claim7.holds Tryz.pinned (.plain (OpenSpec.ofChange prepNamesSpec)) prepNamesCard

/-- THE SECOND FORM's CARD OF 'regletlaw08.PrepNames'. -/
def prepNamesUptoCard : Claim7 := { stood := { row := prepNamesUptoRow, standIns := [], harness := (true, "8b9022eb4eece8ba0c84f8af0c9d88996d44ca945232ba9194cf00debbc8d886"), looks := false }, kinds := [], alts := [], laidByText := true, laidKinds := [.data], laidTests := true, laidLooks := .later }
def PrepNamesUptoCardSaid : Prop := Claim7.holds Tryz.pinned (.plain (OpenSpec.upto prepNamesSpec)) prepNamesUptoCard
end Rows
end Go.Proofs.YtdcpjaemlfgigaaGreatDoor
