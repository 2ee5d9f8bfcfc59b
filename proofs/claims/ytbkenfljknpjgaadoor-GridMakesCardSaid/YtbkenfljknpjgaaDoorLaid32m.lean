/-
  What the laid variables give the walk of the law GridMakes.
-/
import Derived.Test.YtbkenfljknpjgaaDoorLaw32m
import Derived.Test.YtbkenfljknpjgaaDoorErr6
import Derived.Test.YtbkenfljknpjgaaDoorLaid32r
namespace Go.Proofs.YtbkenfljknpjgaaDoor
open Go.RowKit
set_option linter.unusedVariables false

theorem walk_GridMakes (n h : Int) (x : Value) (ls : List LineV) (w : World) (hL : laidMetH Tryd.prog Rows.gridMakesRow.laid w) (hn : (Lit.int .i64 n).wf = true) (hh : (Lit.int .i64 h).wf = true) (hx : Slc RLine (fun b => b < w.heap.size) (fun b => b < w.heap.size) w x ls) :
    Calls Tryd.prog 5 #[.int .i64 n, .int .i64 h, x] w fun e w' => e = .returned (.bool true) ∧ Below w.heap.size w w' := by
  have h' : laidMet Tryd.prog [("linotype/api.ErrScalar", Rows.laid_linotype_api_ErrScalar), ("linotype/api.ErrForm", Rows.laid_linotype_api_ErrForm), ("linotype/api.ErrRange", Rows.laid_linotype_api_ErrRange), ("linotype/api.ErrLong", Rows.laid_linotype_api_ErrLong), ("linotype/api.ErrKind", Rows.laid_linotype_api_ErrKind), ("linotype/api.ErrWord", Rows.laid_linotype_api_ErrWord), ("linotype/api.ErrFull", Rows.laid_linotype_api_ErrFull), ("linotype/api.ErrNone", Rows.laid_linotype_api_ErrNone)] w ∧ handlesMet Tryd.prog [("errors.errorType", Rows.laid_errors_errorType)] w := hL
  obtain ⟨b, hS⟩ := sents_of_laid _ _ h'.1 (fun k hk => by
    match k, hk with
    | 0, _ => exact List.mem_of_getElem? (i := 0) rfl
    | 1, _ => exact List.mem_of_getElem? (i := 1) rfl
    | 2, _ => exact List.mem_of_getElem? (i := 2) rfl
    | 3, _ => exact List.mem_of_getElem? (i := 3) rfl
    | 4, _ => exact List.mem_of_getElem? (i := 4) rfl
    | 5, _ => exact List.mem_of_getElem? (i := 5) rfl
    | 6, _ => exact List.mem_of_getElem? (i := 6) rfl
    | 7, _ => exact List.mem_of_getElem? (i := 7) rfl
    | k + 8, h => exact absurd h (by omega))
  exact walkS_GridMakes b n h x ls w hS (tv_of_handles h'.2) hn hh hx
end Go.Proofs.YtbkenfljknpjgaaDoor
