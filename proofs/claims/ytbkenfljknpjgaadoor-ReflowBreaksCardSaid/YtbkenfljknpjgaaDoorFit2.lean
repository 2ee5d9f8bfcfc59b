/-
  What fit's function that makes a row of another width returns.
-/
import Derived.Test.YtbkenfljknpjgaaDoorFit1
import Derived.Deep.CutBlock
import Derived.Deep.DeepCutAuto
namespace Go.Proofs.YtbkenfljknpjgaaDoor
open Go.RowKit
set_option linter.unusedVariables false
set_option linter.unusedSimpArgs false

/-- A row of memory from some place on. -/
def RowOf (b0 : Nat) (w : World) (v : Value) (l : List CellV) (wrap : Bool) : Prop := ∃ base, b0 ≤ base ∧ RowIs base w v l wrap

def wideN (wd : Int) : Nat := (max 1 (min wd 1024)).toNat
def resizeF (l : List CellV) (wd : Int) : List CellV := cutF l (min (wideN wd) l.length) ++ List.replicate (wideN wd - min (wideN wd) l.length) (0, [])

end Go.Proofs.YtbkenfljknpjgaaDoor
