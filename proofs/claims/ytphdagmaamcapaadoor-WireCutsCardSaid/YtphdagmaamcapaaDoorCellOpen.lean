/-
  Cells of rows that come in as data read as cells in our words.
-/
import Derived.Test.YtphdagmaamcapaaDoorOpen
import Derived.Test.YtphdagmaamcapaaDoorCell0
namespace Go.Proofs.YtphdagmaamcapaaDoor
open Go.RowKit
set_option linter.unusedVariables false

theorem opens_runes : Opens Tryd.prog (Rep.slice (Rep.int .i32)) 60 := opens_slice (R := Rep.int .i32) Tryd.underlying60 (by kernel_rfl) (opens_int Tryd.underlying21)
theorem opens_cell : Opens Tryd.prog RCell 62 :=
  opens_struct Tryd.underlying62 (opens_cons _ rfl rfl (by kernel_rfl) (opens_int Tryd.underlying3) (opens_last _ rfl rfl (by kernel_rfl) (by kernel_rfl) opens_runes))
theorem opens_cells : Opens Tryd.prog (Rep.slice RCell) 43 := opens_slice (R := RCell) Tryd.underlying43 (by kernel_rfl) opens_cell
end Go.Proofs.YtphdagmaamcapaaDoor
