/-
  Rows of numbers that a literal lays.
-/
import Derived.Test.YtphdagmaamcapaaDoorR01
namespace Go.Proofs.YtphdagmaamcapaaDoor
open Go.RowKit
set_option linter.unusedVariables false

theorem own_i32 (w : World) (l : List Int) (h : ∀ n ∈ l, (Lit.int .i32 n).wf = true) (base m n : Nat) (hb : base ≤ m) (hm : m = w.heap.size) (hn : l.length = n) (hx : n ≤ maxLen) : Own (Rep.int .i32) 21 [] base (w.alloc (.cells (l.map (Value.int .i32)).toArray 21)) (.slice (some ⟨m, 0, none⟩) n n) l := by
  subst hm; exact Own.lit (by simp) (els_ints .i32 _ w l h) hb hn hx
theorem own_u8 (w : World) (l : List Int) (h : ∀ n ∈ l, (Lit.int .u8 n).wf = true) (base m n : Nat) (hb : base ≤ m) (hm : m = w.heap.size) (hn : l.length = n) (hx : n ≤ maxLen) : Own (Rep.int .u8) 5 [] base (w.alloc (.cells (l.map (Value.int .u8)).toArray 5)) (.slice (some ⟨m, 0, none⟩) n n) l := by
  subst hm; exact Own.lit (by simp) (els_ints .u8 _ w l h) hb hn hx
end Go.Proofs.YtphdagmaamcapaaDoor
