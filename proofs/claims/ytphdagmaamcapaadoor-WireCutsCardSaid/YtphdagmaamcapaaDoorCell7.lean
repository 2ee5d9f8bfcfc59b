/-
  What the program's functions that compare two strips return. Each function once.
-/
import Derived.Test.YtphdagmaamcapaaDoorCellEq
namespace Go.Proofs.YtphdagmaamcapaaDoor
open Go.RowKit
set_option linter.unusedVariables false
set_option linter.unusedSimpArgs false

end Go.Proofs.YtphdagmaamcapaaDoor
