/-
  Cells of rows that come in as data read as cells in our words.
-/
import Derived.Test.YthjddpflcgcpiaaOpen
import Derived.Test.YthjddpflcgcpiaaCell0
namespace Go.Proofs.Ythjddpflcgcpiaa
open Go.RowKit
set_option linter.unusedVariables false

theorem opens_runes : Opens Try.prog (Rep.slice (Rep.int .i32)) 22 := opens_slice (R := Rep.int .i32) Try.underlying22 (by kernel_rfl) (opens_int Try.underlying21)
theorem opens_cell : Opens Try.prog RCell 38 :=
  opens_struct Try.underlying38 (opens_cons _ rfl rfl (by kernel_rfl) (opens_int Try.underlying3) (opens_last _ rfl rfl (by kernel_rfl) (by kernel_rfl) opens_runes))
theorem opens_cells : Opens Try.prog (Rep.slice RCell) 25 := opens_slice (R := RCell) Try.underlying25 (by kernel_rfl) opens_cell
end Go.Proofs.Ythjddpflcgcpiaa
