/-
  What the library's function that compares two lists of numbers returns.
-/
import Derived.Test.YtphdagmaamcapaaDoorCell0
namespace Go.Proofs.YtphdagmaamcapaaDoor
open Go.RowKit
set_option linter.unusedVariables false
set_option linter.unusedSimpArgs false

end Go.Proofs.YtphdagmaamcapaaDoor
