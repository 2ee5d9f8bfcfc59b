/-
  What the laid variables give the walk of the law on all that is wrong with a view.
-/
import Derived.Test.YtejhaepgbfngcaaDoorLaw47l
import Derived.Test.YtejhaepgbfngcaaDoorErr6
namespace Go.Proofs.YtejhaepgbfngcaaDoor
open Go.RowKit
set_option linter.unusedVariables false

theorem walk_AuditLooks (cs : Array Value) (v : ViewV) (w : World) (hL : laidMetH Tryd.prog Rows.auditLooksRow.laid w) (hm : RView.E (fun b => b < w.heap.size) w cs.toList v) (hok : LinesOk v.lines) :
    Calls Tryd.prog 7 #[.agg cs] w fun e w' => e = .returned (.bool true) ∧ Below w.heap.size w w' := by
  have h' : laidMet Tryd.prog [(nameOf 0, sentD (textOf 0)), (nameOf 1, sentD (textOf 1)), (nameOf 2, sentD (textOf 2)), (nameOf 3, sentD (textOf 3)), (nameOf 4, sentD (textOf 4)), (nameOf 5, sentD (textOf 5)), (nameOf 6, sentD (textOf 6)), (nameOf 7, sentD (textOf 7))] w ∧ handlesMet Tryd.prog [("errors.errorType", Rows.laid_errors_errorType)] w := hL
  obtain ⟨b, hS⟩ := sents_of_laid _ _ h'.1 (fun k hk => by
    match k, hk with
    | 0, _ => exact List.mem_of_getElem? (i := 0) rfl
    | 1, _ => exact List.mem_of_getElem? (i := 1) rfl
    | 2, _ => exact List.mem_of_getElem? (i := 2) rfl
    | 3, _ => exact List.mem_of_getElem? (i := 3) rfl
    | 4, _ => exact List.mem_of_getElem? (i := 4) rfl
    | 5, _ => exact List.mem_of_getElem? (i := 5) rfl
    | 6, _ => exact List.mem_of_getElem? (i := 6) rfl
    | 7, _ => exact List.mem_of_getElem? (i := 7) rfl
    | k + 8, h => exact absurd h (by omega))
  exact walkS_AuditLooks b cs v w hS (tv_of_handles h'.2) hm hok
end Go.Proofs.YtejhaepgbfngcaaDoor
