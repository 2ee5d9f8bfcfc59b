/-
  What the laid variables give the walks of the laws on fit.
-/
import Derived.Test.YthjddpflcgcpiaaDoorRows
import Derived.Test.YthjddpflcgcpiaaDoorLaw28s
import Derived.LaidLaws
namespace Go.Proofs.YthjddpflcgcpiaaDoor
open Go.RowKit
set_option linter.unusedVariables false

theorem range_of_laidr {W : World} (h : laidMetH Tryd.prog Rows.fitSplitsRow.laid W) : ∃ t u, W.cell? ⟨0, 0, none⟩ = some (.iface t u) := by
  have h' : laidMet Tryd.prog Rows.fitSplitsRow.laid W := h
  obtain ⟨ps, ⟨g0, t0, cs0, f0, p0, q0, hg0, ht0, hv0, hd0, _⟩, _⟩ := h'
  obtain rfl : g0 = 0 := Option.some.inj (hg0.symm.trans (by kernel_rfl))
  obtain rfl : t0 = 28 := Option.some.inj (ht0.symm.trans (by kernel_rfl))
  obtain ⟨l0⟩ := cs0
  obtain ⟨f1, u, v, e, _⟩ := iface_of_trod Tryd.underlying28 hd0
  subst e
  exact ⟨u, v, by simpa using World.var?_cell hg0 hv0 0⟩

theorem walk_FitSplits (p : Value) (l : List CellV) (n : Int) (w : World) (hL : laidMetH Tryd.prog Rows.fitSplitsRow.laid w) (hp : Slc RCell (fun b => b < w.heap.size) (fun b => b < w.heap.size) w p l) (hn : (Lit.int .i64 n).wf = true) :
    Calls Tryd.prog 5 #[p, .int .i64 n] w fun e w' => e = .returned (.bool true) ∧ Below w.heap.size w w' := by
  obtain ⟨t, u, hE⟩ := range_of_laidr hL
  exact walkE_FitSplits t u p l n w hE hp hn
end Go.Proofs.YthjddpflcgcpiaaDoor
