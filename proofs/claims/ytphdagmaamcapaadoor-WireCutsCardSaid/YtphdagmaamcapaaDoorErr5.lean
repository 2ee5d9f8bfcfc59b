/-
  What the function that tells an error's place returns.
-/
import Derived.Test.YtphdagmaamcapaaDoorErr4
namespace Go.Proofs.YtphdagmaamcapaaDoor
open Go.RowKit
set_option linter.unusedVariables false
set_option linter.unusedSimpArgs false

end Go.Proofs.YtphdagmaamcapaaDoor
