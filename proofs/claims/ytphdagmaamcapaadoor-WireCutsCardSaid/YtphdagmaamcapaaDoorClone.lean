/-
  What the library's function that copies a list of numbers returns.
-/
import Derived.Test.YtphdagmaamcapaaDoorCell0
import Derived.Test.YtphdagmaamcapaaDoorFit0
import Derived.Lib.SliceRun
namespace Go.Proofs.YtphdagmaamcapaaDoor
open Go.RowKit
set_option linter.unusedVariables false
set_option linter.unusedSimpArgs false

end Go.Proofs.YtphdagmaamcapaaDoor
