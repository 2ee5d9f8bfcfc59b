/-
  Items that come in as data read as items in our words.
-/
import Derived.Test.YtbkenfljknpjgaaDoorCellOpen
namespace Go.Proofs.YtbkenfljknpjgaaDoor
open Go.RowKit
set_option linter.unusedVariables false

theorem opens_item : Opens Tryd.prog RCell 50 :=
  opens_struct Tryd.underlying50 (opens_cons _ rfl rfl (by kernel_rfl) (opens_int Tryd.underlying3) (opens_last _ rfl rfl (by kernel_rfl) (by kernel_rfl) opens_runes))
theorem opens_items : Opens Tryd.prog (Rep.slice RCell) 46 := opens_slice (R := RCell) Tryd.underlying46 (by kernel_rfl) opens_item
end Go.Proofs.YtbkenfljknpjgaaDoor
