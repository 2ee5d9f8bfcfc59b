/-
  What the laid variables give the walk of the law on the strip of items.
-/
import Derived.Test.YthjddpflcgcpiaaDoorLaw29m
import Derived.Test.YthjddpflcgcpiaaDoorErr6
namespace Go.Proofs.YthjddpflcgcpiaaDoor
open Go.RowKit
set_option linter.unusedVariables false

theorem walk_ItemsMake (p : Value) (y : List ItemV) (w : World) (hL : laidMetH Tryd.prog Rows.itemsMakeRow.laid w) (hp : Slc RCell (fun b => b < w.heap.size) (fun b => b < w.heap.size) w p y) :
    Calls Tryd.prog 12 #[p] w fun e w' => e = .returned (.bool true) ∧ Below w.heap.size w w' := by
  have h' : laidMet Tryd.prog Rows.itemsReadRow.laid w ∧ handlesMet Tryd.prog [("errors.errorType", Rows.laid_errors_errorType)] w := hL
  obtain ⟨b, hS⟩ := sents_of_laid _ _ h'.1 (fun k hk => by
    match k, hk with
    | 0, _ => exact List.mem_of_getElem? (i := 0) rfl
    | 1, _ => exact List.mem_of_getElem? (i := 1) rfl
    | 2, _ => exact List.mem_of_getElem? (i := 2) rfl
    | 3, _ => exact List.mem_of_getElem? (i := 3) rfl
    | 4, _ => exact List.mem_of_getElem? (i := 4) rfl
    | 5, _ => exact List.mem_of_getElem? (i := 5) rfl
    | 6, _ => exact List.mem_of_getElem? (i := 6) rfl
    | 7, _ => exact List.mem_of_getElem? (i := 7) rfl
    | k + 8, h => exact absurd h (by omega))
  exact walkS_ItemsMake b p y w hS (tv_of_handles h'.2) hp
end Go.Proofs.YthjddpflcgcpiaaDoor
