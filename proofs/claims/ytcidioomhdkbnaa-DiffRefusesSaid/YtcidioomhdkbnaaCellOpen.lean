/-
  Cells of rows that come in as data read as cells in our words.
-/
import Derived.Test.YtcidioomhdkbnaaOpen
import Derived.Test.YtcidioomhdkbnaaCell0
namespace Go.Proofs.Ytcidioomhdkbnaa
open Go.RowKit
set_option linter.unusedVariables false

theorem opens_runes : Opens Try.prog (Rep.slice (Rep.int .i32)) 48 := opens_slice (R := Rep.int .i32) Try.underlying48 (by kernel_rfl) (opens_int Try.underlying21)
theorem opens_cell : Opens Try.prog RCell 50 :=
  opens_struct Try.underlying50 (opens_cons _ rfl rfl (by kernel_rfl) (opens_int Try.underlying3) (opens_last _ rfl rfl (by kernel_rfl) (by kernel_rfl) opens_runes))
theorem opens_cells : Opens Try.prog (Rep.slice RCell) 36 := opens_slice (R := RCell) Try.underlying36 (by kernel_rfl) opens_cell
end Go.Proofs.Ytcidioomhdkbnaa
