/-
  What the program's functions that compare two strips return. Each function once.
-/
import Derived.Test.YtbkenfljknpjgaaDoorCellEq
namespace Go.Proofs.YtbkenfljknpjgaaDoor
open Go.RowKit
set_option linter.unusedVariables false
set_option linter.unusedSimpArgs false

end Go.Proofs.YtbkenfljknpjgaaDoor
