/-
  What the laid variables give the walk of the law on the items of strips.
-/
import Derived.Test.YthjddpflcgcpiaaDoorRows
import Derived.Test.YthjddpflcgcpiaaDoorLaw29r
import Derived.Test.YthjddpflcgcpiaaDoorErr3
namespace Go.Proofs.YthjddpflcgcpiaaDoor
open Go.RowKit
set_option linter.unusedVariables false

theorem walk_ItemsRead (p : Value) (l : List CellV) (w : World) (hL : laidMetH Tryd.prog Rows.itemsReadRow.laid w) (hp : Slc RCell (fun b => b < w.heap.size) (fun b => b < w.heap.size) w p l) :
    Calls Tryd.prog 11 #[p] w fun e w' => e = .returned (.bool true) ∧ Below w.heap.size w w' := by
  have h' : laidMet Tryd.prog Rows.itemsReadRow.laid w := hL
  obtain ⟨b, hS⟩ := sents_of_laid _ _ h' (fun k hk => by
    match k, hk with
    | 0, _ => exact List.mem_of_getElem? (i := 0) rfl
    | 1, _ => exact List.mem_of_getElem? (i := 1) rfl
    | 2, _ => exact List.mem_of_getElem? (i := 2) rfl
    | 3, _ => exact List.mem_of_getElem? (i := 3) rfl
    | 4, _ => exact List.mem_of_getElem? (i := 4) rfl
    | 5, _ => exact List.mem_of_getElem? (i := 5) rfl
    | 6, _ => exact List.mem_of_getElem? (i := 6) rfl
    | 7, _ => exact List.mem_of_getElem? (i := 7) rfl
    | k + 8, h => exact absurd h (by omega))
  exact walkS_ItemsRead b p l w hS hp
end Go.Proofs.YthjddpflcgcpiaaDoor
