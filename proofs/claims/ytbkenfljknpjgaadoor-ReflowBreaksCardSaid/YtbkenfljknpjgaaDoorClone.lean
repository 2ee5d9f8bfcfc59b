/-
  What the library's function that copies a list of numbers returns.
-/
import Derived.Test.YtbkenfljknpjgaaDoorCell0
import Derived.Test.YtbkenfljknpjgaaDoorFit0
import Derived.Lib.SliceRun
namespace Go.Proofs.YtbkenfljknpjgaaDoor
open Go.RowKit
set_option linter.unusedVariables false
set_option linter.unusedSimpArgs false

end Go.Proofs.YtbkenfljknpjgaaDoor
