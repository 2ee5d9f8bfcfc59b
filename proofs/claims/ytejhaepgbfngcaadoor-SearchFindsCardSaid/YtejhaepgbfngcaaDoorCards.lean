/-
  DERIVED. GIVEN WITH THE SEED: THE CARDS: each row of YtejhaepgbfngcaaDoorRows.lean that lists a variable, with what it lists TIED to the program's text (the seventh form; the later family's looks); each row that meets fmt, with fmt's text TOLD by the authors' own Lean function (tested against real Go, not proved from fmt's source: count such statements apart). THE CARD IS WHAT COUNTS. Prove the row's statement (the work); the ties are given (YtejhaepgbfngcaaDoorTie.lean); close each card by the builder's one call (the guide's Derived/Test/ToyasCard.lean, 'card_holds'). Laid BY PROGRAM, IN A SANDBOX (cutbox-door.mjs). By AI agents, Wed Nov 11 2026. No macro, syntax, notation, axiom, sorry.
-/
import Derived.Test.YtejhaepgbfngcaaDoorRows
import GoSem.ClaimSeven
namespace Go.Proofs.YtejhaepgbfngcaaDoor
namespace Rows

/-- THE TIED CARD OF 'linotypelaw01.ScalarPuts'. -/
def scalarPutsCard : Claim7 := { stood := { row := scalarPutsRow, standIns := [], harness := (true, "a3ba576cb1c4ea6a042fa3ebacde65954f7d083529d7aa41b2fc67f4e1383e60"), looks := true }, kinds := [], alts := [], laidByText := true, laidKinds := [.handle, .sentinel, .sentinel, .sentinel, .sentinel, .sentinel, .sentinel, .sentinel, .sentinel], laidTests := true, laidLooks := .later }
def ScalarPutsCardSaid : Prop := Claim7.holds Tryd.pinned (.plain (OpenSpec.ofChange scalarPutsSpec)) scalarPutsCard

/-- THE TIED CARD OF 'linotypelaw53.SearchFinds'. -/
def searchFindsCard : Claim7 := { stood := { row := searchFindsRow, standIns := [], harness := (true, "a3ba576cb1c4ea6a042fa3ebacde65954f7d083529d7aa41b2fc67f4e1383e60"), looks := true }, kinds := [], alts := [], laidByText := true, laidKinds := [.sentinel, .sentinel, .sentinel, .sentinel, .sentinel], laidTests := true, laidLooks := .later }
def SearchFindsCardSaid : Prop := Claim7.holds Tryd.pinned (.plain (OpenSpec.ofChange searchFindsSpec)) searchFindsCard

/-- THE TIED CARD OF 'linotypelaw52.RegionTexts'. -/
def regionTextsCard : Claim7 := { stood := { row := regionTextsRow, standIns := [], harness := (true, "a3ba576cb1c4ea6a042fa3ebacde65954f7d083529d7aa41b2fc67f4e1383e60"), looks := true }, kinds := [], alts := [], laidByText := true, laidKinds := [.sentinel, .sentinel, .sentinel, .sentinel, .sentinel], laidTests := true, laidLooks := .later }
def RegionTextsCardSaid : Prop := Claim7.holds Tryd.pinned (.plain (OpenSpec.ofChange regionTextsSpec)) regionTextsCard

/-- THE TIED CARD OF 'linotypelaw52.RegionBoxes'. -/
def regionBoxesCard : Claim7 := { stood := { row := regionBoxesRow, standIns := [], harness := (true, "a3ba576cb1c4ea6a042fa3ebacde65954f7d083529d7aa41b2fc67f4e1383e60"), looks := true }, kinds := [], alts := [], laidByText := true, laidKinds := [.sentinel, .sentinel, .sentinel, .sentinel, .sentinel], laidTests := true, laidLooks := .later }
def RegionBoxesCardSaid : Prop := Claim7.holds Tryd.pinned (.plain (OpenSpec.ofChange regionBoxesSpec)) regionBoxesCard

/-- THE TIED CARD OF 'linotypelaw47.AuditLooks'. -/
def auditLooksCard : Claim7 := { stood := { row := auditLooksRow, standIns := [], harness := (true, "a3ba576cb1c4ea6a042fa3ebacde65954f7d083529d7aa41b2fc67f4e1383e60"), looks := true }, kinds := [], alts := [], laidByText := true, laidKinds := [.handle, .sentinel, .sentinel, .sentinel, .sentinel, .sentinel, .sentinel, .sentinel, .sentinel], laidTests := true, laidLooks := .later }
def AuditLooksCardSaid : Prop := Claim7.holds Tryd.pinned (.plain (OpenSpec.ofChange auditLooksSpec)) auditLooksCard

/-- THE TIED CARD OF 'linotypelaw47.AuditRight'. -/
def auditRightCard : Claim7 := { stood := { row := auditRightRow, standIns := [], harness := (true, "a3ba576cb1c4ea6a042fa3ebacde65954f7d083529d7aa41b2fc67f4e1383e60"), looks := true }, kinds := [], alts := [], laidByText := true, laidKinds := [.handle, .sentinel, .sentinel, .sentinel, .sentinel, .sentinel, .sentinel, .sentinel, .sentinel], laidTests := true, laidLooks := .later }
def AuditRightCardSaid : Prop := Claim7.holds Tryd.pinned (.plain (OpenSpec.ofChange auditRightSpec)) auditRightCard

/-- THE SECOND FORM's CARD OF 'linotypelaw01.ScalarPuts'. -/
def scalarPutsUptoCard : Claim7 := { stood := { row := scalarPutsUptoRow, standIns := [], harness := (true, "a3ba576cb1c4ea6a042fa3ebacde65954f7d083529d7aa41b2fc67f4e1383e60"), looks := true }, kinds := [], alts := [], laidByText := true, laidKinds := [.handle, .sentinel, .sentinel, .sentinel, .sentinel, .sentinel, .sentinel, .sentinel, .sentinel], laidTests := true, laidLooks := .later }
def ScalarPutsUptoCardSaid : Prop := Claim7.holds Tryd.pinned (.plain (OpenSpec.upto scalarPutsSpec)) scalarPutsUptoCard

/-- THE SECOND FORM's CARD OF 'linotypelaw53.SearchFinds'. -/
def searchFindsUptoCard : Claim7 := { stood := { row := searchFindsUptoRow, standIns := [], harness := (true, "a3ba576cb1c4ea6a042fa3ebacde65954f7d083529d7aa41b2fc67f4e1383e60"), looks := true }, kinds := [], alts := [], laidByText := true, laidKinds := [.sentinel, .sentinel, .sentinel, .sentinel, .sentinel], laidTests := true, laidLooks := .later }
def SearchFindsUptoCardSaid : Prop := Claim7.holds Tryd.pinned (.plain (OpenSpec.upto searchFindsSpec)) searchFindsUptoCard

/-- THE SECOND FORM's CARD OF 'linotypelaw52.RegionTexts'. -/
def regionTextsUptoCard : Claim7 := { stood := { row := regionTextsUptoRow, standIns := [], harness := (true, "a3ba576cb1c4ea6a042fa3ebacde65954f7d083529d7aa41b2fc67f4e1383e60"), looks := true }, kinds := [], alts := [], laidByText := true, laidKinds := [.sentinel, .sentinel, .sentinel, .sentinel, .sentinel], laidTests := true, laidLooks := .later }
def RegionTextsUptoCardSaid : Prop := Claim7.holds Tryd.pinned (.plain (OpenSpec.upto regionTextsSpec)) regionTextsUptoCard

/-- THE SECOND FORM's CARD OF 'linotypelaw52.RegionBoxes'. -/
def regionBoxesUptoCard : Claim7 := { stood := { row := regionBoxesUptoRow, standIns := [], harness := (true, "a3ba576cb1c4ea6a042fa3ebacde65954f7d083529d7aa41b2fc67f4e1383e60"), looks := true }, kinds := [], alts := [], laidByText := true, laidKinds := [.sentinel, .sentinel, .sentinel, .sentinel, .sentinel], laidTests := true, laidLooks := .later }
def RegionBoxesUptoCardSaid : Prop := Claim7.holds Tryd.pinned (.plain (OpenSpec.upto regionBoxesSpec)) regionBoxesUptoCard

/-- THE SECOND FORM's CARD OF 'linotypelaw47.AuditLooks'. -/
def auditLooksUptoCard : Claim7 := { stood := { row := auditLooksUptoRow, standIns := [], harness := (true, "a3ba576cb1c4ea6a042fa3ebacde65954f7d083529d7aa41b2fc67f4e1383e60"), looks := true }, kinds := [], alts := [], laidByText := true, laidKinds := [.handle, .sentinel, .sentinel, .sentinel, .sentinel, .sentinel, .sentinel, .sentinel, .sentinel], laidTests := true, laidLooks := .later }
def AuditLooksUptoCardSaid : Prop := Claim7.holds Tryd.pinned (.plain (OpenSpec.upto auditLooksSpec)) auditLooksUptoCard

/-- THE SECOND FORM's CARD OF 'linotypelaw47.AuditRight'. -/
def auditRightUptoCard : Claim7 := { stood := { row := auditRightUptoRow, standIns := [], harness := (true, "a3ba576cb1c4ea6a042fa3ebacde65954f7d083529d7aa41b2fc67f4e1383e60"), looks := true }, kinds := [], alts := [], laidByText := true, laidKinds := [.handle, .sentinel, .sentinel, .sentinel, .sentinel, .sentinel, .sentinel, .sentinel, .sentinel], laidTests := true, laidLooks := .later }
def AuditRightUptoCardSaid : Prop := Claim7.holds Tryd.pinned (.plain (OpenSpec.upto auditRightSpec)) auditRightUptoCard
end Rows
end Go.Proofs.YtejhaepgbfngcaaDoor
