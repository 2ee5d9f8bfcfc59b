/-
  Cells of rows that come in as data read as cells in our words.
-/
import Derived.Test.YtbkenfljknpjgaaDoorOpen
import Derived.Test.YtbkenfljknpjgaaDoorCell0
namespace Go.Proofs.YtbkenfljknpjgaaDoor
open Go.RowKit
set_option linter.unusedVariables false

theorem opens_runes : Opens Tryd.prog (Rep.slice (Rep.int .i32)) 48 := opens_slice (R := Rep.int .i32) Tryd.underlying48 (by kernel_rfl) (opens_int Tryd.underlying21)
theorem opens_cell : Opens Tryd.prog RCell 74 :=
  opens_struct Tryd.underlying74 (opens_cons _ rfl rfl (by kernel_rfl) (opens_int Tryd.underlying3) (opens_last _ rfl rfl (by kernel_rfl) (by kernel_rfl) opens_runes))
theorem opens_cells : Opens Tryd.prog (Rep.slice RCell) 23 := opens_slice (R := RCell) Tryd.underlying23 (by kernel_rfl) opens_cell
end Go.Proofs.YtbkenfljknpjgaaDoor
