/-
  The walk of the law that a patch applies, of what comes in.
-/
import Derived.Test.YtcidioomhdkbnaaLaw46a
namespace Go.Proofs.Ytcidioomhdkbnaa
open Go.RowKit
set_option linter.unusedVariables false

theorem walk_DiffApplies (c0 : Array Value) (v : ViewV) (c1 : Array Value) (u : ViewV) (w : World) (hm : RView.E (fun b => b < w.heap.size) w c0.toList v) (hn : RView.E (fun b => b < w.heap.size) w c1.toList u) (hok : LinesOk v.lines) (hok' : LinesOk u.lines) :
    Calls Try.prog 4 #[.agg c0, .agg c1] w fun e w' => e = .returned (.bool true) ∧ Below w.heap.size w w' := by
  obtain ⟨x, hcs, _, _, _, _, hx⟩ := view_open hm
  obtain ⟨y, hds, _, _, _, _, hy⟩ := view_open hn
  obtain ⟨wd, hi, ls, r, c, p, au⟩ := v
  obtain ⟨wd', hi', ls', r', c', p', au'⟩ := u
  obtain ⟨l0⟩ := c0
  obtain ⟨l1⟩ := c1
  simp only at hcs hds hx hy hok hok'
  subst hcs
  subst hds
  exact walkV_DiffApplies _ _ x y wd hi r c wd' hi' r' c' p au p' au' ls ls' w hx hy hok hok'
end Go.Proofs.Ytcidioomhdkbnaa
