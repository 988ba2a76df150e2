/-
  DERIVED. GIVEN WITH THE SEED: THE CARDS: each row of YtnjmkeijjapejaaGreatDoorRows.lean that lists a variable, with what it lists TIED to the program's text (the seventh form; the later family's looks); each row that meets fmt, with fmt's text TOLD by the authors' own Lean function (tested against real Go, not proved from fmt's source: count such statements apart). THE CARD IS WHAT COUNTS. Prove the row's statement (the work); the ties are given (YtnjmkeijjapejaaGreatDoorTie.lean); close each card by the builder's one call (the guide's Derived/Test/ToyasCard.lean, 'card_holds'). Laid BY PROGRAM, IN A SANDBOX (cutbox-door.mjs). By AI agents, Wed Nov 11 2026. No macro, syntax, notation, axiom, sorry.
-/
import Derived.Test.YtnjmkeijjapejaaGreatDoorRows
import GoSem.ClaimSeven
namespace Go.Proofs.YtnjmkeijjapejaaGreatDoor
namespace Rows

/-- THE TIED CARD OF 'regletlaw07.CondTells'. -/
def condTellsCard : Claim7 := { stood := { row := condTellsRow, standIns := [], harness := (true, "23bb14c2b62f391f24de7ce6b9a4e801be1bab2d475d8870a8bdeb3dd61425ab"), looks := false }, kinds := [], alts := [], laidByText := true, laidKinds := [.data], laidTests := true, laidLooks := .later }
def CondTellsCardSaid : Prop := Claim7.holds Tryz.pinned (.plain (OpenSpec.ofChange condTellsSpec)) condTellsCard

/-- THE SECOND FORM's CARD OF 'regletlaw07.CondTells'. -/
def condTellsUptoCard : Claim7 := { stood := { row := condTellsUptoRow, standIns := [], harness := (true, "23bb14c2b62f391f24de7ce6b9a4e801be1bab2d475d8870a8bdeb3dd61425ab"), looks := false }, kinds := [], alts := [], laidByText := true, laidKinds := [.data], laidTests := true, laidLooks := .later }
def CondTellsUptoCardSaid : Prop := Claim7.holds Tryz.pinned (.plain (OpenSpec.upto condTellsSpec)) condTellsUptoCard
end Rows
end Go.Proofs.YtnjmkeijjapejaaGreatDoor
