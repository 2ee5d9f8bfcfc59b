/-
  What the program's function on a strip returns: whether it is sound; and the document's: whether two strips are the same. Each function once.
-/
import Derived.Test.YtphdagmaamcapaaDoorCell0
namespace Go.Proofs.YtphdagmaamcapaaDoor
open Go.RowKit
set_option linter.unusedVariables false
set_option linter.unusedSimpArgs false

theorem soundG_drop (l : List CellV) (k : Nat) (hk : k < l.length) (lead : Bool) : soundG lead (l.drop k) = (rightB l[k] && (lead == decide (l[k].1 = 3)) && soundG (decide (l[k].1 = 2)) (l.drop (k + 1))) := by
  rw [List.drop_eq_getElem_cons hk]; rfl

end Go.Proofs.YtphdagmaamcapaaDoor
