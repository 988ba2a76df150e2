/-
  DERIVED. GIVEN WITH THE SEED: THE CARDS: each row of YtnjmkeijjapejaaDoorRows.lean that lists a variable, with what it lists TIED to the program's text (the seventh form; the later family's looks); each row that meets fmt, with fmt's text TOLD by the authors' own Lean function (tested against real Go, not proved from fmt's source: count such statements apart). THE CARD IS WHAT COUNTS. Prove the row's statement (the work); the ties are given (YtnjmkeijjapejaaDoorTie.lean); close each card by the builder's one call (the guide's Derived/Test/ToyasCard.lean, 'card_holds'). Laid BY PROGRAM, IN A SANDBOX (cutbox-door.mjs). By AI agents, Wed Nov 11 2026. No macro, syntax, notation, axiom, sorry.
-/
import Derived.Test.YtnjmkeijjapejaaDoorRows
import GoSem.ClaimSeven
namespace Go.Proofs.YtnjmkeijjapejaaDoor
namespace Rows

/-- THE TIED CARD OF 'regletlaw15.ReflowFull'. -/
def reflowFullCard : Claim7 := { stood := { row := reflowFullRow, standIns := [], harness := (true, "d2dc3549195bd91c3a6331492cf9cdda0f904da0e8c74265c77afa656643e87b"), looks := false }, kinds := [], alts := [], laidByText := true, laidKinds := [.data, .pinned], laidTests := true, laidLooks := .later }
def ReflowFullCardSaid : Prop := Claim7.holds Tryd.pinned (.plain (OpenSpec.ofChange reflowFullSpec)) reflowFullCard

/-- THE TIED CARD OF 'regletlaw15.ReflowTells'. -/
def reflowTellsCard : Claim7 := { stood := { row := reflowTellsRow, standIns := [], harness := (true, "d2dc3549195bd91c3a6331492cf9cdda0f904da0e8c74265c77afa656643e87b"), looks := false }, kinds := [], alts := [], laidByText := true, laidKinds := [.data, .pinned], laidTests := true, laidLooks := .later }
def ReflowTellsCardSaid : Prop := Claim7.holds Tryd.pinned (.plain (OpenSpec.ofChange reflowTellsSpec)) reflowTellsCard

/-- THE TIED CARD OF 'regletlaw15.ReflowNames'. -/
def reflowNamesCard : Claim7 := { stood := { row := reflowNamesRow, standIns := [], harness := (true, "d2dc3549195bd91c3a6331492cf9cdda0f904da0e8c74265c77afa656643e87b"), looks := false }, kinds := [], alts := [], laidByText := true, laidKinds := [.data, .pinned], laidTests := true, laidLooks := .later }
def ReflowNamesCardSaid : Prop := Claim7.holds Tryd.pinned (.plain (OpenSpec.ofChange reflowNamesSpec)) reflowNamesCard

/-- THE TIED CARD OF 'regletlaw15.ReflowBack'. -/
def reflowBackCard : Claim7 := { stood := { row := reflowBackRow, standIns := [], harness := (true, "d2dc3549195bd91c3a6331492cf9cdda0f904da0e8c74265c77afa656643e87b"), looks := false }, kinds := [], alts := [], laidByText := true, laidKinds := [.data, .pinned], laidTests := true, laidLooks := .later }
def ReflowBackCardSaid : Prop := Claim7.holds Tryd.pinned (.plain (OpenSpec.ofChange reflowBackSpec)) reflowBackCard

/-- THE TIED CARD OF 'regletlaw07.CondRest'. -/
def condRestCard : Claim7 := { stood := { row := condRestRow, standIns := [], harness := (true, "d2dc3549195bd91c3a6331492cf9cdda0f904da0e8c74265c77afa656643e87b"), looks := false }, kinds := [], alts := [], laidByText := true, laidKinds := [.data], laidTests := true, laidLooks := .later }
def CondRestCardSaid : Prop := Claim7.holds Tryd.pinned (.plain (OpenSpec.ofChange condRestSpec)) condRestCard

/-- THE TIED CARD OF 'regletlaw07.CondNames'. -/
def condNamesCard : Claim7 := { stood := { row := condNamesRow, standIns := [], harness := (true, "d2dc3549195bd91c3a6331492cf9cdda0f904da0e8c74265c77afa656643e87b"), looks := false }, kinds := [], alts := [], laidByText := true, laidKinds := [.data], laidTests := true, laidLooks := .later }
def CondNamesCardSaid : Prop := Claim7.holds Tryd.pinned (.plain (OpenSpec.ofChange condNamesSpec)) condNamesCard

/-- THE TIED CARD OF 'regletlaw07.CondLogic'. -/
def condLogicCard : Claim7 := { stood := { row := condLogicRow, standIns := [], harness := (true, "d2dc3549195bd91c3a6331492cf9cdda0f904da0e8c74265c77afa656643e87b"), looks := false }, kinds := [], alts := [], laidByText := true, laidKinds := [.data], laidTests := true, laidLooks := .later }
def CondLogicCardSaid : Prop := Claim7.holds Tryd.pinned (.plain (OpenSpec.ofChange condLogicSpec)) condLogicCard

/-- THE TIED CARD OF 'regletlaw07.CondChoice'. -/
def condChoiceCard : Claim7 := { stood := { row := condChoiceRow, standIns := [], harness := (true, "d2dc3549195bd91c3a6331492cf9cdda0f904da0e8c74265c77afa656643e87b"), looks := false }, kinds := [], alts := [], laidByText := true, laidKinds := [.data], laidTests := true, laidLooks := .later }
def CondChoiceCardSaid : Prop := Claim7.holds Tryd.pinned (.plain (OpenSpec.ofChange condChoiceSpec)) condChoiceCard

/-- THE SECOND FORM's CARD OF 'regletlaw15.ReflowFull'. -/
def reflowFullUptoCard : Claim7 := { stood := { row := reflowFullUptoRow, standIns := [], harness := (true, "d2dc3549195bd91c3a6331492cf9cdda0f904da0e8c74265c77afa656643e87b"), looks := false }, kinds := [], alts := [], laidByText := true, laidKinds := [.data, .pinned], laidTests := true, laidLooks := .later }
def ReflowFullUptoCardSaid : Prop := Claim7.holds Tryd.pinned (.plain (OpenSpec.upto reflowFullSpec)) reflowFullUptoCard

/-- THE SECOND FORM's CARD OF 'regletlaw15.ReflowTells'. -/
def reflowTellsUptoCard : Claim7 := { stood := { row := reflowTellsUptoRow, standIns := [], harness := (true, "d2dc3549195bd91c3a6331492cf9cdda0f904da0e8c74265c77afa656643e87b"), looks := false }, kinds := [], alts := [], laidByText := true, laidKinds := [.data, .pinned], laidTests := true, laidLooks := .later }
def ReflowTellsUptoCardSaid : Prop := Claim7.holds Tryd.pinned (.plain (OpenSpec.upto reflowTellsSpec)) reflowTellsUptoCard

/-- THE SECOND FORM's CARD OF 'regletlaw15.ReflowNames'. -/
def reflowNamesUptoCard : Claim7 := { stood := { row := reflowNamesUptoRow, standIns := [], harness := (true, "d2dc3549195bd91c3a6331492cf9cdda0f904da0e8c74265c77afa656643e87b"), looks := false }, kinds := [], alts := [], laidByText := true, laidKinds := [.data, .pinned], laidTests := true, laidLooks := .later }
def ReflowNamesUptoCardSaid : Prop := Claim7.holds Tryd.pinned (.plain (OpenSpec.upto reflowNamesSpec)) reflowNamesUptoCard

/-- THE SECOND FORM's CARD OF 'regletlaw15.ReflowBack'. -/
def reflowBackUptoCard : Claim7 := { stood := { row := reflowBackUptoRow, standIns := [], harness := (true, "d2dc3549195bd91c3a6331492cf9cdda0f904da0e8c74265c77afa656643e87b"), looks := false }, kinds := [], alts := [], laidByText := true, laidKinds := [.data, .pinned], laidTests := true, laidLooks := .later }
def ReflowBackUptoCardSaid : Prop := Claim7.holds Tryd.pinned (.plain (OpenSpec.upto reflowBackSpec)) reflowBackUptoCard

/-- THE SECOND FORM's CARD OF 'regletlaw07.CondRest'. -/
def condRestUptoCard : Claim7 := { stood := { row := condRestUptoRow, standIns := [], harness := (true, "d2dc3549195bd91c3a6331492cf9cdda0f904da0e8c74265c77afa656643e87b"), looks := false }, kinds := [], alts := [], laidByText := true, laidKinds := [.data], laidTests := true, laidLooks := .later }
def CondRestUptoCardSaid : Prop := Claim7.holds Tryd.pinned (.plain (OpenSpec.upto condRestSpec)) condRestUptoCard

/-- THE SECOND FORM's CARD OF 'regletlaw07.CondNames'. -/
def condNamesUptoCard : Claim7 := { stood := { row := condNamesUptoRow, standIns := [], harness := (true, "d2dc3549195bd91c3a6331492cf9cdda0f904da0e8c74265c77afa656643e87b"), looks := false }, kinds := [], alts := [], laidByText := true, laidKinds := [.data], laidTests := true, laidLooks := .later }
def CondNamesUptoCardSaid : Prop := Claim7.holds Tryd.pinned (.plain (OpenSpec.upto condNamesSpec)) condNamesUptoCard

/-- THE SECOND FORM's CARD OF 'regletlaw07.CondLogic'. -/
def condLogicUptoCard : Claim7 := { stood := { row := condLogicUptoRow, standIns := [], harness := (true, "d2dc3549195bd91c3a6331492cf9cdda0f904da0e8c74265c77afa656643e87b"), looks := false }, kinds := [], alts := [], laidByText := true, laidKinds := [.data], laidTests := true, laidLooks := .later }
def CondLogicUptoCardSaid : Prop := Claim7.holds Tryd.pinned (.plain (OpenSpec.upto condLogicSpec)) condLogicUptoCard

/-- THE SECOND FORM's CARD OF 'regletlaw07.CondChoice'. -/
def condChoiceUptoCard : Claim7 := { stood := { row := condChoiceUptoRow, standIns := [], harness := (true, "d2dc3549195bd91c3a6331492cf9cdda0f904da0e8c74265c77afa656643e87b"), looks := false }, kinds := [], alts := [], laidByText := true, laidKinds := [.data], laidTests := true, laidLooks := .later }
def CondChoiceUptoCardSaid : Prop := Claim7.holds Tryd.pinned (.plain (OpenSpec.upto condChoiceSpec)) condChoiceUptoCard
end Rows
end Go.Proofs.YtnjmkeijjapejaaDoor
