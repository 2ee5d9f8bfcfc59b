/-
  What the laid handle gives: the library's own variable that errors.As reads.
-/
import Derived.Test.YtbkenfljknpjgaaDoorRows
import Derived.Test.YtbkenfljknpjgaaDoorErr3
import Derived.Test.YtbkenfljknpjgaaDoorErr5
import Derived.LaidHandle
namespace Go.Proofs.YtbkenfljknpjgaaDoor
open Go.RowKit
set_option linter.unusedVariables false

theorem Tryd.gET : Tryd.prog.globalNamed "errors.errorType" = some 8 := by kernel_rfl
theorem Tryd.rtT : (Tryd.prog.cutTypes.find? (·.1 == "internal/reflectlite.rtype")).map (·.2) = some 125 := by kernel_rfl
theorem Tryd.oneRowE : ((List.range 174).filter fun t => Tryd.prog.rowNamed t [101, 114, 114, 111, 114]) = [30] := by kernel_rfl
theorem Tryd.sizeT : Tryd.prog.types.size = 174 := by kernel_rfl
theorem tv_of_handles {W : World} (h : handlesMet Tryd.prog [("errors.errorType", Rows.laid_errors_errorType)] W) : TypeVar W := by
  obtain ⟨name, u, ty, e1, e2, e3, e4, e5⟩ := h _ (List.mem_singleton.2 rfl)
  have en : name = [101, 114, 114, 111, 114] := (Option.some.inj e1).symm
  subst en
  obtain rfl := Option.some.inj (Tryd.rtT.symm.trans e2)
  have hm : ty ∈ (List.range 174).filter fun t => Tryd.prog.rowNamed t [101, 114, 114, 111, 114] := List.mem_filter.2 ⟨List.mem_range.2 (by rw [← Tryd.sizeT]; exact e3), e4⟩
  rw [Tryd.oneRowE] at hm
  obtain rfl := List.mem_singleton.1 hm
  have hh : typeHandle Tryd.prog 30 = .pointer (some ⟨9, 30, none⟩) := by kernel_rfl
  rw [hh] at e5
  unfold TypeVar
  simpa using World.var?_cell Tryd.gET e5 0
end Go.Proofs.YtbkenfljknpjgaaDoor
