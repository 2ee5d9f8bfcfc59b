/-
  DERIVED. GIVEN WITH THE SEED: THE CARDS: each row of YtfcjkmiaibakiaaDoorRows.lean that lists a variable, with what it lists TIED to the program's text (the seventh form; the later family's looks); each row that meets fmt, with fmt's text TOLD by the authors' own Lean function (tested against real Go, not proved from fmt's source: count such statements apart). THE CARD IS WHAT COUNTS. Prove the row's statement (the work); the ties are given (YtfcjkmiaibakiaaDoorTie.lean); close each card by the builder's one call (the guide's Derived/Test/ToyasCard.lean, 'card_holds'). Laid BY PROGRAM, IN A SANDBOX (cutbox-door.mjs). By AI agents, Wed Nov 11 2026. No macro, syntax, notation, axiom, sorry.
-/
import Derived.Test.YtfcjkmiaibakiaaDoorRows
import GoSem.ClaimSeven
namespace Go.Proofs.YtfcjkmiaibakiaaDoor
namespace Rows

/-- THE TIED CARD OF 'linotypelaw01.ScalarTells'. -/
def scalarTellsCard : Claim7 := { stood := { row := scalarTellsRow, standIns := [], harness := (true, "60d3b070413dd4af0b296075247a26860613a39c528df97abf3db50064adf594"), looks := true }, kinds := [], alts := [], laidByText := true, laidKinds := [.sentinel], laidTests := true, laidLooks := .later }
def ScalarTellsCardSaid : Prop := Claim7.holds Tryd.pinned (.plain (OpenSpec.ofChange scalarTellsSpec)) scalarTellsCard

/-- THE TIED CARD OF 'linotypelaw01.ScalarOrder'. -/
def scalarOrderCard : Claim7 := { stood := { row := scalarOrderRow, standIns := [], harness := (true, "60d3b070413dd4af0b296075247a26860613a39c528df97abf3db50064adf594"), looks := true }, kinds := [], alts := [], laidByText := true, laidKinds := [.sentinel], laidTests := true, laidLooks := .later }
def ScalarOrderCardSaid : Prop := Claim7.holds Tryd.pinned (.plain (OpenSpec.ofChange scalarOrderSpec)) scalarOrderCard

/-- THE TIED CARD OF 'linotypelaw01.ScalarPuts'. -/
def scalarPutsCard : Claim7 := { stood := { row := scalarPutsRow, standIns := [], harness := (true, "60d3b070413dd4af0b296075247a26860613a39c528df97abf3db50064adf594"), looks := true }, kinds := [], alts := [], laidByText := true, laidKinds := [.handle, .sentinel, .sentinel, .sentinel, .sentinel, .sentinel, .sentinel, .sentinel, .sentinel], laidTests := true, laidLooks := .later }
def ScalarPutsCardSaid : Prop := Claim7.holds Tryd.pinned (.plain (OpenSpec.ofChange scalarPutsSpec)) scalarPutsCard

/-- THE SECOND FORM's CARD OF 'linotypelaw01.ScalarTells'. -/
def scalarTellsUptoCard : Claim7 := { stood := { row := scalarTellsUptoRow, standIns := [], harness := (true, "60d3b070413dd4af0b296075247a26860613a39c528df97abf3db50064adf594"), looks := true }, kinds := [], alts := [], laidByText := true, laidKinds := [.sentinel], laidTests := true, laidLooks := .later }
def ScalarTellsUptoCardSaid : Prop := Claim7.holds Tryd.pinned (.plain (OpenSpec.upto scalarTellsSpec)) scalarTellsUptoCard

/-- THE SECOND FORM's CARD OF 'linotypelaw01.ScalarOrder'. -/
def scalarOrderUptoCard : Claim7 := { stood := { row := scalarOrderUptoRow, standIns := [], harness := (true, "60d3b070413dd4af0b296075247a26860613a39c528df97abf3db50064adf594"), looks := true }, kinds := [], alts := [], laidByText := true, laidKinds := [.sentinel], laidTests := true, laidLooks := .later }
def ScalarOrderUptoCardSaid : Prop := Claim7.holds Tryd.pinned (.plain (OpenSpec.upto scalarOrderSpec)) scalarOrderUptoCard

/-- THE SECOND FORM's CARD OF 'linotypelaw01.ScalarPuts'. -/
def scalarPutsUptoCard : Claim7 := { stood := { row := scalarPutsUptoRow, standIns := [], harness := (true, "60d3b070413dd4af0b296075247a26860613a39c528df97abf3db50064adf594"), looks := true }, kinds := [], alts := [], laidByText := true, laidKinds := [.handle, .sentinel, .sentinel, .sentinel, .sentinel, .sentinel, .sentinel, .sentinel, .sentinel], laidTests := true, laidLooks := .later }
def ScalarPutsUptoCardSaid : Prop := Claim7.holds Tryd.pinned (.plain (OpenSpec.upto scalarPutsSpec)) scalarPutsUptoCard
end Rows
end Go.Proofs.YtfcjkmiaibakiaaDoor
