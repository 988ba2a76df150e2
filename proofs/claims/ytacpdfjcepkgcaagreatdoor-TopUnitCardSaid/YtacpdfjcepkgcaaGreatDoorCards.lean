/-
  DERIVED. GIVEN WITH THE SEED: THE CARDS: each row of YtacpdfjcepkgcaaGreatDoorRows.lean that lists a variable, with what it lists TIED to the program's text (the seventh form; the later family's looks); each row that meets fmt, with fmt's text TOLD by the authors' own Lean function (tested against real Go, not proved from fmt's source: count such statements apart). THE CARD IS WHAT COUNTS. Prove the row's statement (the work); the ties are given (YtacpdfjcepkgcaaGreatDoorTie.lean); close each card by the builder's one call (the guide's Derived/Test/ToyasCard.lean, 'card_holds'). Laid BY PROGRAM, IN A SANDBOX (cutbox-door.mjs). By AI agents, Wed Nov 11 2026. No macro, syntax, notation, axiom, sorry.
-/
import Derived.Test.YtacpdfjcepkgcaaGreatDoorRows
import GoSem.ClaimSeven
namespace Go.Proofs.YtacpdfjcepkgcaaGreatDoor
namespace Rows

/-- THE TIED CARD OF 'reglettop.TopUnit'. -/
def topUnitCard : Claim7 := { stood := { row := topUnitRow, standIns := [], harness := (true, "ba8e0c912d6cb2e8b85c99cb0ea1598793af790adfd8ef59eafca5da2bcdaf47"), looks := true }, kinds := [], alts := [], laidByText := true, laidKinds := [.data, .pinned], laidTests := true, laidLooks := .later }
def TopUnitCardSaid : Prop := Claim7.holds Tryz.pinned (.plain (OpenSpec.ofChange topUnitSpec)) topUnitCard

/-- THE SECOND FORM's CARD OF 'reglettop.TopUnit'. -/
def topUnitUptoCard : Claim7 := { stood := { row := topUnitUptoRow, standIns := [], harness := (true, "ba8e0c912d6cb2e8b85c99cb0ea1598793af790adfd8ef59eafca5da2bcdaf47"), looks := true }, kinds := [], alts := [], laidByText := true, laidKinds := [.data, .pinned], laidTests := true, laidLooks := .later }
def TopUnitUptoCardSaid : Prop := Claim7.holds Tryz.pinned (.plain (OpenSpec.upto topUnitSpec)) topUnitUptoCard
end Rows
end Go.Proofs.YtacpdfjcepkgcaaGreatDoor
