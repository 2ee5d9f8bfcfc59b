/-
  DERIVED. GIVEN WITH THE SEED: THE CARDS: each row of YtbkenfljknpjgaaDoorRows.lean that lists a variable, with what it lists TIED to the program's text (the seventh form; the later family's looks); each row that meets fmt, with fmt's text TOLD by the authors' own Lean function (tested against real Go, not proved from fmt's source: count such statements apart). THE CARD IS WHAT COUNTS. Prove the row's statement (the work); the ties are given (YtbkenfljknpjgaaDoorTie.lean); close each card by the builder's one call (the guide's Derived/Test/ToyasCard.lean, 'card_holds'). Laid BY PROGRAM, IN A SANDBOX (cutbox-door.mjs). By AI agents, Wed Nov 11 2026. No macro, syntax, notation, axiom, sorry.
-/
import Derived.Test.YtbkenfljknpjgaaDoorRows
import GoSem.ClaimSeven
namespace Go.Proofs.YtbkenfljknpjgaaDoor
namespace Rows

/-- THE TIED CARD OF 'linotypelaw32.GridRows'. -/
def gridRowsCard : Claim7 := { stood := { row := gridRowsRow, standIns := [], harness := (true, "0bde61e350bd8d8b0776b528b5cefbe260628be3d5a692b6b99484a7ffe164ec"), looks := true }, kinds := [], alts := [], laidByText := true, laidKinds := [.sentinel, .sentinel], laidTests := true, laidLooks := .later }
def GridRowsCardSaid : Prop := Claim7.holds Tryd.pinned (.plain (OpenSpec.ofChange gridRowsSpec)) gridRowsCard

/-- THE TIED CARD OF 'linotypelaw51.ReflowKeeps'. -/
def reflowKeepsCard : Claim7 := { stood := { row := reflowKeepsRow, standIns := [], harness := (true, "0bde61e350bd8d8b0776b528b5cefbe260628be3d5a692b6b99484a7ffe164ec"), looks := true }, kinds := [], alts := [], laidByText := true, laidKinds := [.sentinel], laidTests := true, laidLooks := .later }
def ReflowKeepsCardSaid : Prop := Claim7.holds Tryd.pinned (.plain (OpenSpec.ofChange reflowKeepsSpec)) reflowKeepsCard

/-- THE TIED CARD OF 'linotypelaw32.GridMakes'. -/
def gridMakesCard : Claim7 := { stood := { row := gridMakesRow, standIns := [], harness := (true, "0bde61e350bd8d8b0776b528b5cefbe260628be3d5a692b6b99484a7ffe164ec"), looks := true }, kinds := [], alts := [], laidByText := true, laidKinds := [.handle, .sentinel, .sentinel, .sentinel, .sentinel, .sentinel, .sentinel, .sentinel, .sentinel], laidTests := true, laidLooks := .later }
def GridMakesCardSaid : Prop := Claim7.holds Tryd.pinned (.plain (OpenSpec.ofChange gridMakesSpec)) gridMakesCard

/-- THE TIED CARD OF 'linotypelaw51.ReflowBreaks'. -/
def reflowBreaksCard : Claim7 := { stood := { row := reflowBreaksRow, standIns := [], harness := (true, "0bde61e350bd8d8b0776b528b5cefbe260628be3d5a692b6b99484a7ffe164ec"), looks := true }, kinds := [], alts := [], laidByText := true, laidKinds := [.handle, .sentinel, .sentinel, .sentinel, .sentinel, .sentinel, .sentinel, .sentinel, .sentinel], laidTests := true, laidLooks := .later }
def ReflowBreaksCardSaid : Prop := Claim7.holds Tryd.pinned (.plain (OpenSpec.ofChange reflowBreaksSpec)) reflowBreaksCard

/-- THE TIED CARD OF 'linotypelaw51.ReflowItems'. -/
def reflowItemsCard : Claim7 := { stood := { row := reflowItemsRow, standIns := [], harness := (true, "0bde61e350bd8d8b0776b528b5cefbe260628be3d5a692b6b99484a7ffe164ec"), looks := true }, kinds := [], alts := [], laidByText := true, laidKinds := [.handle, .sentinel, .sentinel, .sentinel, .sentinel, .sentinel, .sentinel, .sentinel, .sentinel], laidTests := true, laidLooks := .later }
def ReflowItemsCardSaid : Prop := Claim7.holds Tryd.pinned (.plain (OpenSpec.ofChange reflowItemsSpec)) reflowItemsCard

/-- THE SECOND FORM's CARD OF 'linotypelaw32.GridRows'. -/
def gridRowsUptoCard : Claim7 := { stood := { row := gridRowsUptoRow, standIns := [], harness := (true, "0bde61e350bd8d8b0776b528b5cefbe260628be3d5a692b6b99484a7ffe164ec"), looks := true }, kinds := [], alts := [], laidByText := true, laidKinds := [.sentinel, .sentinel], laidTests := true, laidLooks := .later }
def GridRowsUptoCardSaid : Prop := Claim7.holds Tryd.pinned (.plain (OpenSpec.upto gridRowsSpec)) gridRowsUptoCard

/-- THE SECOND FORM's CARD OF 'linotypelaw51.ReflowKeeps'. -/
def reflowKeepsUptoCard : Claim7 := { stood := { row := reflowKeepsUptoRow, standIns := [], harness := (true, "0bde61e350bd8d8b0776b528b5cefbe260628be3d5a692b6b99484a7ffe164ec"), looks := true }, kinds := [], alts := [], laidByText := true, laidKinds := [.sentinel], laidTests := true, laidLooks := .later }
def ReflowKeepsUptoCardSaid : Prop := Claim7.holds Tryd.pinned (.plain (OpenSpec.upto reflowKeepsSpec)) reflowKeepsUptoCard

/-- THE SECOND FORM's CARD OF 'linotypelaw32.GridMakes'. -/
def gridMakesUptoCard : Claim7 := { stood := { row := gridMakesUptoRow, standIns := [], harness := (true, "0bde61e350bd8d8b0776b528b5cefbe260628be3d5a692b6b99484a7ffe164ec"), looks := true }, kinds := [], alts := [], laidByText := true, laidKinds := [.handle, .sentinel, .sentinel, .sentinel, .sentinel, .sentinel, .sentinel, .sentinel, .sentinel], laidTests := true, laidLooks := .later }
def GridMakesUptoCardSaid : Prop := Claim7.holds Tryd.pinned (.plain (OpenSpec.upto gridMakesSpec)) gridMakesUptoCard

/-- THE SECOND FORM's CARD OF 'linotypelaw51.ReflowBreaks'. -/
def reflowBreaksUptoCard : Claim7 := { stood := { row := reflowBreaksUptoRow, standIns := [], harness := (true, "0bde61e350bd8d8b0776b528b5cefbe260628be3d5a692b6b99484a7ffe164ec"), looks := true }, kinds := [], alts := [], laidByText := true, laidKinds := [.handle, .sentinel, .sentinel, .sentinel, .sentinel, .sentinel, .sentinel, .sentinel, .sentinel], laidTests := true, laidLooks := .later }
def ReflowBreaksUptoCardSaid : Prop := Claim7.holds Tryd.pinned (.plain (OpenSpec.upto reflowBreaksSpec)) reflowBreaksUptoCard

/-- THE SECOND FORM's CARD OF 'linotypelaw51.ReflowItems'. -/
def reflowItemsUptoCard : Claim7 := { stood := { row := reflowItemsUptoRow, standIns := [], harness := (true, "0bde61e350bd8d8b0776b528b5cefbe260628be3d5a692b6b99484a7ffe164ec"), looks := true }, kinds := [], alts := [], laidByText := true, laidKinds := [.handle, .sentinel, .sentinel, .sentinel, .sentinel, .sentinel, .sentinel, .sentinel, .sentinel], laidTests := true, laidLooks := .later }
def ReflowItemsUptoCardSaid : Prop := Claim7.holds Tryd.pinned (.plain (OpenSpec.upto reflowItemsSpec)) reflowItemsUptoCard
end Rows
end Go.Proofs.YtbkenfljknpjgaaDoor
