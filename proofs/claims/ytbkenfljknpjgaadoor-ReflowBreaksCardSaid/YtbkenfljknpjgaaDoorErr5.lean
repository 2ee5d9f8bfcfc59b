/-
  What the function that tells an error's place returns.
-/
import Derived.Test.YtbkenfljknpjgaaDoorErr4
namespace Go.Proofs.YtbkenfljknpjgaaDoor
open Go.RowKit
set_option linter.unusedVariables false
set_option linter.unusedSimpArgs false

/-- The library's own variable that errors.As reads. -/
def TypeVar (w : World) : Prop := w.cell? ⟨8, 0, none⟩ = some (.iface 125 (.agg #[.pointer (some ⟨9, 30, none⟩)]))
theorem TypeVar.below {w w' : World} (h : TypeVar w) (hb : Below w.heap.size w w') : TypeVar w' := (hb.cell (World.block_lt_of_cell? w _ h)).trans h

set_option maxHeartbeats 1000000 in
theorem At_ok (b : Nat → Addr) (e : Value) (k : Nat) (n : Int) (w : World) (hT : TypeVar w) (he : ErrIs b w e k (some n)) :
    Calls Tryd.prog 31 #[e] w fun e w' => e = .returned (.int .i64 n) ∧ Below w.heap.size w w' := by
  obtain ⟨pb, rfl, h0, h1⟩ := he
  have hlt := World.block_lt_of_cell? w _ h0
  simp only at hlt
  have hT1 := hT.below ((Below.refl _ w).alloc (Nat.le_refl _) (.cells #[.pointer none] 97))
  have hblk := Blk.new w 97 #[.pointer none]
  have ha := as_hit ⟨pb, 0, none⟩ ⟨w.heap.size, 0, none⟩ (.pointer none) _ hT1 (hblk.cell 0) (hblk.frozen 0)
  have h4 := (((hblk.alloc (.cells #[.pointer (some ⟨w.heap.size, 0, none⟩)] 99)).alloc (.cells #[.pointer (some ⟨9, 99, none⟩), .pointer (some ⟨(w.alloc (.cells #[.pointer none] 97)).heap.size, 0, none⟩), .int .u64 150] 115)).alloc (.cells #[.pointer (some ⟨9, 99, none⟩), .pointer (some ⟨(w.alloc (.cells #[.pointer none] 97)).heap.size, 0, none⟩), .int .u64 150] 115)).alloc (.cells #[.pointer (some ⟨pb, 0, none⟩)] 97)
  have h5 := h4.set_ 0 (.pointer (some ⟨pb, 0, none⟩))
  have hst := ((((((Step.refl w.heap.size [97] w).alloc (.cells #[.pointer none] 97)).alloc (.cells #[.pointer (some ⟨w.heap.size, 0, none⟩)] 99)).alloc (.cells #[.pointer (some ⟨9, 99, none⟩), .pointer (some ⟨(w.alloc (.cells #[.pointer none] 97)).heap.size, 0, none⟩), .int .u64 150] 115)).alloc (.cells #[.pointer (some ⟨9, 99, none⟩), .pointer (some ⟨(w.alloc (.cells #[.pointer none] 97)).heap.size, 0, none⟩), .int .u64 150] 115)).alloc (.cells #[.pointer (some ⟨pb, 0, none⟩)] 97)).setCell (p := ⟨w.heap.size, 0, none⟩) (Nat.le_refl _) h4.bears (.pointer (some ⟨pb, 0, none⟩))
  have hbel := hst.below (Nat.le_refl _)
  have c0 := h5.cell 0
  simp only [List.setIfInBounds_toArray, List.set_cons_zero, List.getElem?_toArray, List.getElem?_cons_zero] at c0
  have c1 := (hbel.cell (p := ⟨pb, 0, none⟩) hlt).trans h0
  have HA := hide ha
  have HB := hide hbel
  clear ha h4 h5 hst hbel hT hT1
  go_enter Tryd.func31, Tryd.ntmps31
  go_wp2_with fail
  refine HA.out.mono ?_
  rintro e w2 ⟨rfl, hw2⟩
  rw [← hw2] at c0 c1
  have hB := HB.out
  rw [← hw2] at hB
  clear hw2
  go_wp2
  go_ret
  exact ⟨rfl, hB⟩
end Go.Proofs.YtbkenfljknpjgaaDoor
