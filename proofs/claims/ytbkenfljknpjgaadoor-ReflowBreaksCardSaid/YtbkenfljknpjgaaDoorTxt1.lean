/-
  What the functions that read a row as a text return: how far it is used, its text, its text with blanks. Each function once.
-/
import Derived.Test.YtbkenfljknpjgaaDoorRow3
import Derived.Test.YtbkenfljknpjgaaDoorTxt0
namespace Go.Proofs.YtbkenfljknpjgaaDoor
open Go.RowKit
set_option linter.unusedVariables false
set_option linter.unusedSimpArgs false

theorem text_len : ∀ (l : List CellV), (∀ c ∈ l, c.2.length ≤ 16) → (textF l).length ≤ 16 * l.length
  | [], _ => by simp [textF]
  | c :: l, h => by
    have ih := text_len l (fun d hd => h d (List.mem_cons.2 (.inr hd)))
    have h1 := h c (List.mem_cons.2 (.inl rfl))
    unfold textF at ih ⊢
    rw [List.flatMap_cons, List.length_append, List.length_cons]
    omega
theorem text_take (l : List CellV) (k : Nat) (h : k < l.length) : textF (l.take (k + 1)) = textF (l.take k) ++ l[k].2 := by
  unfold textF
  rw [take_snoc' l k h, List.flatMap_append]; simp
theorem take_short {l : List CellV} (h : ∀ c ∈ l, c.2.length ≤ 16) (k : Nat) : ∀ c ∈ l.take k, c.2.length ≤ 16 := fun c hc => h c (List.mem_of_mem_take hc)

end Go.Proofs.YtbkenfljknpjgaaDoor
