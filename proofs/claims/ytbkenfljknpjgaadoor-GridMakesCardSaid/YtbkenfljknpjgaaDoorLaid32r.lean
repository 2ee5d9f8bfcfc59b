/-
  The walk of the law on a grid's rows, of what comes in.
-/
import Derived.Test.YtbkenfljknpjgaaDoorLaw32r
import Derived.Test.YtbkenfljknpjgaaDoorCellOpen
namespace Go.Proofs.YtbkenfljknpjgaaDoor
open Go.RowKit
set_option linter.unusedVariables false

theorem opens_line : Opens Tryd.prog RLine 38 :=
  opens_struct Tryd.underlying38 (opens_cons _ rfl rfl (by kernel_rfl) opens_cells (opens_last _ rfl rfl (by kernel_rfl) (by kernel_rfl) (opens_bool Tryd.underlying4)))
theorem opens_lines : Opens Tryd.prog (Rep.slice RLine) 22 := opens_slice (R := RLine) Tryd.underlying22 (by kernel_rfl) opens_line
theorem walk_GridRows (x : Value) (ls : List LineV) (i : Int) (y : Value) (pl : List CellV) (w : World) (hx : Slc RLine (fun b => b < w.heap.size) (fun b => b < w.heap.size) w x ls) (hi : (Lit.int .i64 i).wf = true) (hy : Slc RCell (fun b => b < w.heap.size) (fun b => b < w.heap.size) w y pl) :
    Calls Tryd.prog 3 #[x, .int .i64 i, y] w fun e w' => e = .returned (.bool true) ∧ Below w.heap.size w w' :=
  walkS_GridRows x i y ls pl w hx hy
end Go.Proofs.YtbkenfljknpjgaaDoor
