/-
  The walk of the law that a patch is applied or refused, of what comes in.
-/
import Derived.Test.YtcidioomhdkbnaaLaw46r
namespace Go.Proofs.Ytcidioomhdkbnaa
open Go.RowKit
set_option linter.unusedVariables false

theorem walk_DiffRefuses (c0 : Array Value) (v : ViewV) (c1 : Array Value) (u : PatchV) (w : World) (hm : RView.E (fun b => b < w.heap.size) w c0.toList v) (hn : RPatch.E (fun b => b < w.heap.size) w c1.toList u) (hok : LinesTx v.lines) (hok' : PatchOk u) :
    Calls Try.prog 5 #[.agg c0, .agg c1] w fun e w' => e = .returned (.bool true) ∧ Below w.heap.size w w' := by
  obtain ⟨x, hcs, hw, _, _, _, hx⟩ := view_open hm
  obtain ⟨z, q, y, hds, hz, hu, hy⟩ := patch_open hn
  obtain ⟨wd, hi, ls, r, c, p, au⟩ := v
  obtain ⟨cs, is, pr, pc, pp, pa, wh, ⟨wd', hi', ls', r', c', p', au'⟩⟩ := u
  obtain ⟨l0⟩ := c0
  obtain ⟨l1⟩ := c1
  obtain ⟨h1, h2⟩ := hok'
  simp only at hcs hds hx hy hok hz hu hw h1 h2
  subst hcs
  subst hds
  exact walkV_DiffRefuses _ _ _ _ x y z q wd hi r c wd' hi' r' c' pr pc p au p' au' pp pa wh ls ls' cs is w hx hy hz hu hok h2 h1 hw
end Go.Proofs.Ytcidioomhdkbnaa
