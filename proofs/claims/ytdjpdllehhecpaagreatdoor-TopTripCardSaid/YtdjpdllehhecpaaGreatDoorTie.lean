/-
  DERIVED. GIVEN WITH THE SEED: THE PROGRAM's TIES (one call each: nine closed facts by the kernel) AND EACH ROW's TIE, after the 31st guide's Derived/Test/Toyas{Tie, Card}.lean. No idea stands in it: it is a product of the set-up. Laid BY PROGRAM, IN A SANDBOX (cutbox-door.mjs). By AI agents, Wed Nov 11 2026. No macro, syntax, notation, axiom, sorry.
-/
import Derived.Test.YtdjpdllehhecpaaGreatDoorRows
import Derived.LaidByTextLater
import Derived.SevenTiedAt
import Derived.LaidSub
import Derived.LaidOnce
namespace Go.Proofs.YtdjpdllehhecpaaGreatDoor
open Go
set_option maxRecDepth 100000
theorem seatTie1 : Tryz.prog.laidByTextLater [("linotype/api.ErrScalar", Rows.laid_linotype_api_ErrScalar), ("linotype/api.ErrRange", Rows.laid_linotype_api_ErrRange), ("linotype/api.ErrKind", Rows.laid_linotype_api_ErrKind), ("linotype/api.ErrNone", Rows.laid_linotype_api_ErrNone)] [.sentinel, .sentinel, .sentinel, .sentinel] true :=
  Program.laidByTextLater_by_one 85 8 2 (by kernel_rfl) (by kernel_rfl) (by kernel_rfl) (by kernel_rfl) (by kernel_rfl) (by kernel_rfl) (fun _ _ => by kernel_rfl)
theorem noOwnUnsafe : Tryz.pinned.checked.prog.headLifts.contains "ownunsafe" = false := by kernel_rfl
theorem tie : Tryz.prog.laidByTextLater [("linotype/api.ErrScalar", Rows.laid_linotype_api_ErrScalar), ("linotype/api.ErrRange", Rows.laid_linotype_api_ErrRange), ("linotype/api.ErrKind", Rows.laid_linotype_api_ErrKind), ("linotype/api.ErrNone", Rows.laid_linotype_api_ErrNone)] [.sentinel, .sentinel, .sentinel, .sentinel] true :=
  Program.laidByTextLater.sub seatTie1 ["linotype/api.ErrScalar", "linotype/api.ErrRange", "linotype/api.ErrKind", "linotype/api.ErrNone"] (by kernel_rfl) (by kernel_rfl)
theorem topTrip_row_tie : Rows.topTripRow.laidByTextAt .later Tryz.pinned [.sentinel, .sentinel, .sentinel, .sentinel] true :=
  OpenClaim.laidByTextAt_later rfl rfl tie noOwnUnsafe
theorem topTripUpto_row_tie : Rows.topTripUptoRow.laidByTextAt .later Tryz.pinned [.sentinel, .sentinel, .sentinel, .sentinel] true :=
  OpenClaim.laidByTextAt_later rfl rfl tie noOwnUnsafe
end Go.Proofs.YtdjpdllehhecpaaGreatDoor
