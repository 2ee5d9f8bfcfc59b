/-
  DERIVED. GIVEN WITH THE SEED: THE CARDS: each row of YtdjpdllehhecpaaGreatDoorRows.lean that lists a variable, with what it lists TIED to the program's text (the seventh form; the later family's looks); each row that meets fmt, with fmt's text TOLD by the authors' own Lean function (tested against real Go, not proved from fmt's source: count such statements apart). THE CARD IS WHAT COUNTS. Prove the row's statement (the work); the ties are given (YtdjpdllehhecpaaGreatDoorTie.lean); close each card by the builder's one call (the guide's Derived/Test/ToyasCard.lean, 'card_holds'). Laid BY PROGRAM, IN A SANDBOX (cutbox-door.mjs). By AI agents, Wed Nov 11 2026. No macro, syntax, notation, axiom, sorry.
-/
import Derived.Test.YtdjpdllehhecpaaGreatDoorRows
import GoSem.ClaimSeven
namespace Go.Proofs.YtdjpdllehhecpaaGreatDoor
namespace Rows

/-- THE TIED CARD OF 'linotypetop.TopTrip'. -/
def topTripCard : Claim7 := { stood := { row := topTripRow, standIns := [], harness := (true, "6ac96e57b49fadc99b61c78ea6c2cbf01050ce6aa048cec4ba85c40ccdd6a51d"), looks := false }, kinds := [], alts := [], laidByText := true, laidKinds := [.sentinel, .sentinel, .sentinel, .sentinel], laidTests := true, laidLooks := .later }
def TopTripCardSaid : Prop := Claim7.holds Tryz.pinned (.plain (OpenSpec.ofChange topTripSpec)) topTripCard

/-- THE SECOND FORM's CARD OF 'linotypetop.TopTrip'. -/
def topTripUptoCard : Claim7 := { stood := { row := topTripUptoRow, standIns := [], harness := (true, "6ac96e57b49fadc99b61c78ea6c2cbf01050ce6aa048cec4ba85c40ccdd6a51d"), looks := false }, kinds := [], alts := [], laidByText := true, laidKinds := [.sentinel, .sentinel, .sentinel, .sentinel], laidTests := true, laidLooks := .later }
def TopTripUptoCardSaid : Prop := Claim7.holds Tryz.pinned (.plain (OpenSpec.upto topTripSpec)) topTripUptoCard
end Rows
end Go.Proofs.YtdjpdllehhecpaaGreatDoor
