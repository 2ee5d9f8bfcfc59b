/-
  Rows and lines that are written out: words on memory that a law's works wants.
-/
import Derived.Test.YtbkenfljknpjgaaDoorLitn
namespace Go.Proofs.YtbkenfljknpjgaaDoor
open Go.RowKit
set_option linter.unusedVariables false
set_option linter.unusedSimpArgs false

theorem els_3 {S : Nat → Prop} {w : World} {k m n : Int} {v u x : Value} {t s r : List Int} (hk : (Lit.int .i64 k).wf = true) (hm : (Lit.int .i64 m).wf = true) (hn : (Lit.int .i64 n).wf = true) (hv : Slc (Rep.int .i32) S S w v t) (hu : Slc (Rep.int .i32) S S w u s) (hx : Slc (Rep.int .i32) S S w x r) : Els RCell S w [(k, t), (m, s), (n, r)] [.int .i64 k, v, .int .i64 m, u, .int .i64 n, x] :=
  Els.append (els_2 hk hm hv hu) (Els.single (R := RCell) ⟨_, _, rfl, ⟨rfl, hn⟩, _, rfl, hx⟩)
theorem els_l1 {S : Nat → Prop} {w : World} {v : Value} {l : List CellV} {p : Bool} (hv : Slc RCell S S w v l) : Els RLine S w [(l, p)] [v, .bool p] :=
  Els.single (R := RLine) ⟨_, _, rfl, ⟨_, rfl, hv⟩, rfl⟩
/-- A view of one line that is written out. -/
theorem view_lit {w : World} {l : List CellV} {xs : List Value} {p : Bool} {vs : Array Value} (e e2 e3 : TypeId) (h : Els RCell (fun b => b < w.heap.size) w l xs) (n : Nat) (hn : l.length = n) (hm : n ≤ maxLen) :
    Slc RLine (fun b => b < w.heap.size + 1 + 1 + 1) (fun b => b < w.heap.size + 1 + 1 + 1) (((w.alloc (.cells xs.toArray e)).alloc (.cells #[.slice (some ⟨w.heap.size, 0, none⟩) n n, .bool p] e2)).alloc (.cells vs e3)) (.slice (some ⟨w.heap.size + 1, 0, none⟩) 1 1) [(l, p)] ∧
    Blk (((w.alloc (.cells xs.toArray e)).alloc (.cells #[.slice (some ⟨w.heap.size, 0, none⟩) n n, .bool p] e2)).alloc (.cells vs e3)) (w.heap.size + 1 + 1) e3 vs ∧
    Below w.heap.size w (((w.alloc (.cells xs.toArray e)).alloc (.cells #[.slice (some ⟨w.heap.size, 0, none⟩) n n, .bool p] e2)).alloc (.cells vs e3)) ∧
    (((w.alloc (.cells xs.toArray e)).alloc (.cells #[.slice (some ⟨w.heap.size, 0, none⟩) n n, .bool p] e2)).alloc (.cells vs e3)).heap.size = w.heap.size + 1 + 1 + 1 := by
  have hs1 : (w.alloc (.cells xs.toArray e)).heap.size = w.heap.size + 1 := by simp
  have h1 : Slc RCell (fun b => b = w.heap.size) (fun b => b < w.heap.size) (w.alloc (.cells xs.toArray e)) (.slice (some ⟨w.heap.size, 0, none⟩) n n) l := Slc.litn e h (Keep.alloc _ _ _) n hn hm _ rfl
  have h2 := h1.mono (So' := fun b => b < w.heap.size + 1) (Si' := fun b => b < w.heap.size + 1) (Keep.weaken fun b h => by omega) (Keep.weaken fun b h => by omega)
  have h3 : Slc RLine (fun b => b = w.heap.size + 1) (fun b => b < w.heap.size + 1) ((w.alloc (.cells xs.toArray e)).alloc (.cells #[.slice (some ⟨w.heap.size, 0, none⟩) n n, .bool p] e2)) (.slice (some ⟨w.heap.size + 1, 0, none⟩) 1 1) [(l, p)] :=
    Slc.litn e2 (els_l1 h2) (Keep.alloc _ _ _) 1 rfl (by simp [maxLen]) _ (by simp)
  refine ⟨(h3.mono (Keep.alloc _ _ (.cells vs e3)) (Keep.alloc _ _ (.cells vs e3))).mono (Keep.weaken fun b h => by omega) (Keep.weaken fun b h => by omega), ?_, ?_, by simp⟩
  · have := Blk.new ((w.alloc (.cells xs.toArray e)).alloc (.cells #[.slice (some ⟨w.heap.size, 0, none⟩) n n, .bool p] e2)) e3 vs
    simpa using this
  · exact (((Below.refl _ w).alloc (Nat.le_refl _) _).alloc (by simp) _).alloc (by simp; omega) _
end Go.Proofs.YtbkenfljknpjgaaDoor
