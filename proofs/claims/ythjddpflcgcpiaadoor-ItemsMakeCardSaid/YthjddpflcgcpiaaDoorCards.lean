/-
  DERIVED. GIVEN WITH THE SEED: THE CARDS: each row of YthjddpflcgcpiaaDoorRows.lean that lists a variable, with what it lists TIED to the program's text (the seventh form; the later family's looks); each row that meets fmt, with fmt's text TOLD by the authors' own Lean function (tested against real Go, not proved from fmt's source: count such statements apart). THE CARD IS WHAT COUNTS. Prove the row's statement (the work); the ties are given (YthjddpflcgcpiaaDoorTie.lean); close each card by the builder's one call (the guide's Derived/Test/ToyasCard.lean, 'card_holds'). Laid BY PROGRAM, IN A SANDBOX (cutbox-door.mjs). By AI agents, Wed Nov 11 2026. No macro, syntax, notation, axiom, sorry.
-/
import Derived.Test.YthjddpflcgcpiaaDoorRows
import GoSem.ClaimSeven
namespace Go.Proofs.YthjddpflcgcpiaaDoor
namespace Rows

/-- THE TIED CARD OF 'linotypelaw28.FitJoins'. -/
def fitJoinsCard : Claim7 := { stood := { row := fitJoinsRow, standIns := [], harness := (true, "09947f59cbd4e47438404d66b4f2994e92b9f9040c65af783b9c2e9405937e0e"), looks := true }, kinds := [], alts := [], laidByText := true, laidKinds := [.sentinel, .sentinel], laidTests := true, laidLooks := .later }
def FitJoinsCardSaid : Prop := Claim7.holds Tryd.pinned (.plain (OpenSpec.ofChange fitJoinsSpec)) fitJoinsCard

/-- THE TIED CARD OF 'linotypelaw28.FitResizes'. -/
def fitResizesCard : Claim7 := { stood := { row := fitResizesRow, standIns := [], harness := (true, "09947f59cbd4e47438404d66b4f2994e92b9f9040c65af783b9c2e9405937e0e"), looks := true }, kinds := [], alts := [], laidByText := true, laidKinds := [.sentinel, .sentinel], laidTests := true, laidLooks := .later }
def FitResizesCardSaid : Prop := Claim7.holds Tryd.pinned (.plain (OpenSpec.ofChange fitResizesSpec)) fitResizesCard

/-- THE TIED CARD OF 'linotypelaw28.FitSplits'. -/
def fitSplitsCard : Claim7 := { stood := { row := fitSplitsRow, standIns := [], harness := (true, "09947f59cbd4e47438404d66b4f2994e92b9f9040c65af783b9c2e9405937e0e"), looks := true }, kinds := [], alts := [], laidByText := true, laidKinds := [.sentinel, .sentinel], laidTests := true, laidLooks := .later }
def FitSplitsCardSaid : Prop := Claim7.holds Tryd.pinned (.plain (OpenSpec.ofChange fitSplitsSpec)) fitSplitsCard

/-- THE TIED CARD OF 'linotypelaw30.RowtextFinds'. -/
def rowtextFindsCard : Claim7 := { stood := { row := rowtextFindsRow, standIns := [], harness := (true, "09947f59cbd4e47438404d66b4f2994e92b9f9040c65af783b9c2e9405937e0e"), looks := true }, kinds := [], alts := [], laidByText := true, laidKinds := [.sentinel, .sentinel], laidTests := true, laidLooks := .later }
def RowtextFindsCardSaid : Prop := Claim7.holds Tryd.pinned (.plain (OpenSpec.ofChange rowtextFindsSpec)) rowtextFindsCard

/-- THE TIED CARD OF 'linotypelaw30.RowtextTells'. -/
def rowtextTellsCard : Claim7 := { stood := { row := rowtextTellsRow, standIns := [], harness := (true, "09947f59cbd4e47438404d66b4f2994e92b9f9040c65af783b9c2e9405937e0e"), looks := true }, kinds := [], alts := [], laidByText := true, laidKinds := [.sentinel, .sentinel], laidTests := true, laidLooks := .later }
def RowtextTellsCardSaid : Prop := Claim7.holds Tryd.pinned (.plain (OpenSpec.ofChange rowtextTellsSpec)) rowtextTellsCard

/-- THE TIED CARD OF 'linotypelaw30.RowtextAlike'. -/
def rowtextAlikeCard : Claim7 := { stood := { row := rowtextAlikeRow, standIns := [], harness := (true, "09947f59cbd4e47438404d66b4f2994e92b9f9040c65af783b9c2e9405937e0e"), looks := true }, kinds := [], alts := [], laidByText := true, laidKinds := [.sentinel, .sentinel], laidTests := true, laidLooks := .later }
def RowtextAlikeCardSaid : Prop := Claim7.holds Tryd.pinned (.plain (OpenSpec.ofChange rowtextAlikeSpec)) rowtextAlikeCard

/-- THE TIED CARD OF 'linotypelaw32.GridRows'. -/
def gridRowsCard : Claim7 := { stood := { row := gridRowsRow, standIns := [], harness := (true, "09947f59cbd4e47438404d66b4f2994e92b9f9040c65af783b9c2e9405937e0e"), looks := true }, kinds := [], alts := [], laidByText := true, laidKinds := [.sentinel, .sentinel], laidTests := true, laidLooks := .later }
def GridRowsCardSaid : Prop := Claim7.holds Tryd.pinned (.plain (OpenSpec.ofChange gridRowsSpec)) gridRowsCard

/-- THE TIED CARD OF 'linotypelaw51.ReflowKeeps'. -/
def reflowKeepsCard : Claim7 := { stood := { row := reflowKeepsRow, standIns := [], harness := (true, "09947f59cbd4e47438404d66b4f2994e92b9f9040c65af783b9c2e9405937e0e"), looks := true }, kinds := [], alts := [], laidByText := true, laidKinds := [.sentinel], laidTests := true, laidLooks := .later }
def ReflowKeepsCardSaid : Prop := Claim7.holds Tryd.pinned (.plain (OpenSpec.ofChange reflowKeepsSpec)) reflowKeepsCard

/-- THE TIED CARD OF 'linotypelaw29.ItemsRead'. -/
def itemsReadCard : Claim7 := { stood := { row := itemsReadRow, standIns := [], harness := (true, "09947f59cbd4e47438404d66b4f2994e92b9f9040c65af783b9c2e9405937e0e"), looks := true }, kinds := [], alts := [], laidByText := true, laidKinds := [.sentinel, .sentinel, .sentinel, .sentinel, .sentinel, .sentinel, .sentinel, .sentinel], laidTests := true, laidLooks := .later }
def ItemsReadCardSaid : Prop := Claim7.holds Tryd.pinned (.plain (OpenSpec.ofChange itemsReadSpec)) itemsReadCard

/-- THE TIED CARD OF 'linotypelaw29.ItemsMake'. -/
def itemsMakeCard : Claim7 := { stood := { row := itemsMakeRow, standIns := [], harness := (true, "09947f59cbd4e47438404d66b4f2994e92b9f9040c65af783b9c2e9405937e0e"), looks := true }, kinds := [], alts := [], laidByText := true, laidKinds := [.handle, .sentinel, .sentinel, .sentinel, .sentinel, .sentinel, .sentinel, .sentinel, .sentinel], laidTests := true, laidLooks := .later }
def ItemsMakeCardSaid : Prop := Claim7.holds Tryd.pinned (.plain (OpenSpec.ofChange itemsMakeSpec)) itemsMakeCard

/-- THE TIED CARD OF 'linotypelaw32.GridMakes'. -/
def gridMakesCard : Claim7 := { stood := { row := gridMakesRow, standIns := [], harness := (true, "09947f59cbd4e47438404d66b4f2994e92b9f9040c65af783b9c2e9405937e0e"), looks := true }, kinds := [], alts := [], laidByText := true, laidKinds := [.handle, .sentinel, .sentinel, .sentinel, .sentinel, .sentinel, .sentinel, .sentinel, .sentinel], laidTests := true, laidLooks := .later }
def GridMakesCardSaid : Prop := Claim7.holds Tryd.pinned (.plain (OpenSpec.ofChange gridMakesSpec)) gridMakesCard

/-- THE TIED CARD OF 'linotypelaw51.ReflowBreaks'. -/
def reflowBreaksCard : Claim7 := { stood := { row := reflowBreaksRow, standIns := [], harness := (true, "09947f59cbd4e47438404d66b4f2994e92b9f9040c65af783b9c2e9405937e0e"), looks := true }, kinds := [], alts := [], laidByText := true, laidKinds := [.handle, .sentinel, .sentinel, .sentinel, .sentinel, .sentinel, .sentinel, .sentinel, .sentinel], laidTests := true, laidLooks := .later }
def ReflowBreaksCardSaid : Prop := Claim7.holds Tryd.pinned (.plain (OpenSpec.ofChange reflowBreaksSpec)) reflowBreaksCard

/-- THE TIED CARD OF 'linotypelaw51.ReflowItems'. -/
def reflowItemsCard : Claim7 := { stood := { row := reflowItemsRow, standIns := [], harness := (true, "09947f59cbd4e47438404d66b4f2994e92b9f9040c65af783b9c2e9405937e0e"), looks := true }, kinds := [], alts := [], laidByText := true, laidKinds := [.handle, .sentinel, .sentinel, .sentinel, .sentinel, .sentinel, .sentinel, .sentinel, .sentinel], laidTests := true, laidLooks := .later }
def ReflowItemsCardSaid : Prop := Claim7.holds Tryd.pinned (.plain (OpenSpec.ofChange reflowItemsSpec)) reflowItemsCard

/-- THE SECOND FORM's CARD OF 'linotypelaw28.FitJoins'. -/
def fitJoinsUptoCard : Claim7 := { stood := { row := fitJoinsUptoRow, standIns := [], harness := (true, "09947f59cbd4e47438404d66b4f2994e92b9f9040c65af783b9c2e9405937e0e"), looks := true }, kinds := [], alts := [], laidByText := true, laidKinds := [.sentinel, .sentinel], laidTests := true, laidLooks := .later }
def FitJoinsUptoCardSaid : Prop := Claim7.holds Tryd.pinned (.plain (OpenSpec.upto fitJoinsSpec)) fitJoinsUptoCard

/-- THE SECOND FORM's CARD OF 'linotypelaw28.FitResizes'. -/
def fitResizesUptoCard : Claim7 := { stood := { row := fitResizesUptoRow, standIns := [], harness := (true, "09947f59cbd4e47438404d66b4f2994e92b9f9040c65af783b9c2e9405937e0e"), looks := true }, kinds := [], alts := [], laidByText := true, laidKinds := [.sentinel, .sentinel], laidTests := true, laidLooks := .later }
def FitResizesUptoCardSaid : Prop := Claim7.holds Tryd.pinned (.plain (OpenSpec.upto fitResizesSpec)) fitResizesUptoCard

/-- THE SECOND FORM's CARD OF 'linotypelaw28.FitSplits'. -/
def fitSplitsUptoCard : Claim7 := { stood := { row := fitSplitsUptoRow, standIns := [], harness := (true, "09947f59cbd4e47438404d66b4f2994e92b9f9040c65af783b9c2e9405937e0e"), looks := true }, kinds := [], alts := [], laidByText := true, laidKinds := [.sentinel, .sentinel], laidTests := true, laidLooks := .later }
def FitSplitsUptoCardSaid : Prop := Claim7.holds Tryd.pinned (.plain (OpenSpec.upto fitSplitsSpec)) fitSplitsUptoCard

/-- THE SECOND FORM's CARD OF 'linotypelaw30.RowtextFinds'. -/
def rowtextFindsUptoCard : Claim7 := { stood := { row := rowtextFindsUptoRow, standIns := [], harness := (true, "09947f59cbd4e47438404d66b4f2994e92b9f9040c65af783b9c2e9405937e0e"), looks := true }, kinds := [], alts := [], laidByText := true, laidKinds := [.sentinel, .sentinel], laidTests := true, laidLooks := .later }
def RowtextFindsUptoCardSaid : Prop := Claim7.holds Tryd.pinned (.plain (OpenSpec.upto rowtextFindsSpec)) rowtextFindsUptoCard

/-- THE SECOND FORM's CARD OF 'linotypelaw30.RowtextTells'. -/
def rowtextTellsUptoCard : Claim7 := { stood := { row := rowtextTellsUptoRow, standIns := [], harness := (true, "09947f59cbd4e47438404d66b4f2994e92b9f9040c65af783b9c2e9405937e0e"), looks := true }, kinds := [], alts := [], laidByText := true, laidKinds := [.sentinel, .sentinel], laidTests := true, laidLooks := .later }
def RowtextTellsUptoCardSaid : Prop := Claim7.holds Tryd.pinned (.plain (OpenSpec.upto rowtextTellsSpec)) rowtextTellsUptoCard

/-- THE SECOND FORM's CARD OF 'linotypelaw30.RowtextAlike'. -/
def rowtextAlikeUptoCard : Claim7 := { stood := { row := rowtextAlikeUptoRow, standIns := [], harness := (true, "09947f59cbd4e47438404d66b4f2994e92b9f9040c65af783b9c2e9405937e0e"), looks := true }, kinds := [], alts := [], laidByText := true, laidKinds := [.sentinel, .sentinel], laidTests := true, laidLooks := .later }
def RowtextAlikeUptoCardSaid : Prop := Claim7.holds Tryd.pinned (.plain (OpenSpec.upto rowtextAlikeSpec)) rowtextAlikeUptoCard

/-- THE SECOND FORM's CARD OF 'linotypelaw32.GridRows'. -/
def gridRowsUptoCard : Claim7 := { stood := { row := gridRowsUptoRow, standIns := [], harness := (true, "09947f59cbd4e47438404d66b4f2994e92b9f9040c65af783b9c2e9405937e0e"), looks := true }, kinds := [], alts := [], laidByText := true, laidKinds := [.sentinel, .sentinel], laidTests := true, laidLooks := .later }
def GridRowsUptoCardSaid : Prop := Claim7.holds Tryd.pinned (.plain (OpenSpec.upto gridRowsSpec)) gridRowsUptoCard

/-- THE SECOND FORM's CARD OF 'linotypelaw51.ReflowKeeps'. -/
def reflowKeepsUptoCard : Claim7 := { stood := { row := reflowKeepsUptoRow, standIns := [], harness := (true, "09947f59cbd4e47438404d66b4f2994e92b9f9040c65af783b9c2e9405937e0e"), looks := true }, kinds := [], alts := [], laidByText := true, laidKinds := [.sentinel], laidTests := true, laidLooks := .later }
def ReflowKeepsUptoCardSaid : Prop := Claim7.holds Tryd.pinned (.plain (OpenSpec.upto reflowKeepsSpec)) reflowKeepsUptoCard

/-- THE SECOND FORM's CARD OF 'linotypelaw29.ItemsRead'. -/
def itemsReadUptoCard : Claim7 := { stood := { row := itemsReadUptoRow, standIns := [], harness := (true, "09947f59cbd4e47438404d66b4f2994e92b9f9040c65af783b9c2e9405937e0e"), looks := true }, kinds := [], alts := [], laidByText := true, laidKinds := [.sentinel, .sentinel, .sentinel, .sentinel, .sentinel, .sentinel, .sentinel, .sentinel], laidTests := true, laidLooks := .later }
def ItemsReadUptoCardSaid : Prop := Claim7.holds Tryd.pinned (.plain (OpenSpec.upto itemsReadSpec)) itemsReadUptoCard

/-- THE SECOND FORM's CARD OF 'linotypelaw29.ItemsMake'. -/
def itemsMakeUptoCard : Claim7 := { stood := { row := itemsMakeUptoRow, standIns := [], harness := (true, "09947f59cbd4e47438404d66b4f2994e92b9f9040c65af783b9c2e9405937e0e"), looks := true }, kinds := [], alts := [], laidByText := true, laidKinds := [.handle, .sentinel, .sentinel, .sentinel, .sentinel, .sentinel, .sentinel, .sentinel, .sentinel], laidTests := true, laidLooks := .later }
def ItemsMakeUptoCardSaid : Prop := Claim7.holds Tryd.pinned (.plain (OpenSpec.upto itemsMakeSpec)) itemsMakeUptoCard

/-- THE SECOND FORM's CARD OF 'linotypelaw32.GridMakes'. -/
def gridMakesUptoCard : Claim7 := { stood := { row := gridMakesUptoRow, standIns := [], harness := (true, "09947f59cbd4e47438404d66b4f2994e92b9f9040c65af783b9c2e9405937e0e"), looks := true }, kinds := [], alts := [], laidByText := true, laidKinds := [.handle, .sentinel, .sentinel, .sentinel, .sentinel, .sentinel, .sentinel, .sentinel, .sentinel], laidTests := true, laidLooks := .later }
def GridMakesUptoCardSaid : Prop := Claim7.holds Tryd.pinned (.plain (OpenSpec.upto gridMakesSpec)) gridMakesUptoCard

/-- THE SECOND FORM's CARD OF 'linotypelaw51.ReflowBreaks'. -/
def reflowBreaksUptoCard : Claim7 := { stood := { row := reflowBreaksUptoRow, standIns := [], harness := (true, "09947f59cbd4e47438404d66b4f2994e92b9f9040c65af783b9c2e9405937e0e"), looks := true }, kinds := [], alts := [], laidByText := true, laidKinds := [.handle, .sentinel, .sentinel, .sentinel, .sentinel, .sentinel, .sentinel, .sentinel, .sentinel], laidTests := true, laidLooks := .later }
def ReflowBreaksUptoCardSaid : Prop := Claim7.holds Tryd.pinned (.plain (OpenSpec.upto reflowBreaksSpec)) reflowBreaksUptoCard

/-- THE SECOND FORM's CARD OF 'linotypelaw51.ReflowItems'. -/
def reflowItemsUptoCard : Claim7 := { stood := { row := reflowItemsUptoRow, standIns := [], harness := (true, "09947f59cbd4e47438404d66b4f2994e92b9f9040c65af783b9c2e9405937e0e"), looks := true }, kinds := [], alts := [], laidByText := true, laidKinds := [.handle, .sentinel, .sentinel, .sentinel, .sentinel, .sentinel, .sentinel, .sentinel, .sentinel], laidTests := true, laidLooks := .later }
def ReflowItemsUptoCardSaid : Prop := Claim7.holds Tryd.pinned (.plain (OpenSpec.upto reflowItemsSpec)) reflowItemsUptoCard
end Rows
end Go.Proofs.YthjddpflcgcpiaaDoor
