/-
  What the laid variables give the walk of the law on rectangles that are marked.
-/
import Derived.Test.YtejhaepgbfngcaaDoorLaw52b
import Derived.Test.YtejhaepgbfngcaaDoorLaid52t
namespace Go.Proofs.YtejhaepgbfngcaaDoor
open Go.RowKit
set_option linter.unusedVariables false

theorem walk_RegionBoxes (c0 : Array Value) (v : ViewV) (c1 : Array Value) (a : Int × Int) (c2 : Array Value) (d : Int × Int) (w : World) (hL : laidMetH Tryd.prog Rows.regionBoxesRow.laid w) (hm : RView.E (fun b => b < w.heap.size) w c0.toList v) (h1 : RPlace.E (fun b => b < w.heap.size) w c1.toList a) (h2 : RPlace.E (fun b => b < w.heap.size) w c2.toList d) (hok : LinesOk v.lines) :
    Calls Tryd.prog 6 #[.agg c0, .agg c1, .agg c2] w fun e w' => e = .returned (.bool true) ∧ Below w.heap.size w w' := by
  have h' : laidMet Tryd.prog Rows.regionBoxesRow.laid w := hL
  obtain ⟨b, hV⟩ := varsA_of_laid _ _ h' (laid_five rfl)
  rw [place_open h1, place_open h2]
  exact walkV_RegionBoxes b c0 v a.1 a.2 d.1 d.2 w hV hm hok
end Go.Proofs.YtejhaepgbfngcaaDoor
