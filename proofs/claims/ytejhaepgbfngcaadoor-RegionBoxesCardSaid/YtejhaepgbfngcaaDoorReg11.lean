/-
  What is marked in a rectangle's row, plain: the cells behind the rectangle cut off, then the blanks: what the document reads is what the package reads. No program in sight.
-/
import Derived.Test.YtejhaepgbfngcaaDoorReg7
namespace Go.Proofs.YtejhaepgbfngcaaDoor
open Go.RowKit
set_option linter.unusedVariables false
set_option linter.unusedSimpArgs false

/-- How many cells the document's cutting leaves. -/
def cutF (l : List CellV) (te : Nat) : Nat := usedF (l.take (toF l te + 1))
/-- A cell at the end that is cut off. -/
def offB (l : List CellV) (te k : Nat) : Prop := kindI l k = 0 ∨ te < k ∧ ¬ (kindI l k = 3 ∧ k = te + 1)
theorem cut_start (l : List CellV) (te : Nat) (h : toF l te + 1 ≤ l.length) : usedF (l.take (min l.length (toF l te + 1))) = cutF l te := by
  rw [Nat.min_eq_right h]; rfl
theorem cut_step {l : List CellV} (hs : soundB l = true) {te k : Nat} (hk : k < l.length) (hto : toF l te + 1 ≤ l.length) (ht : te < l.length) (hi : usedF (l.take (min (k + 1) (toF l te + 1))) = cutF l te) (ho : offB l te k) :
    usedF (l.take (min k (toF l te + 1))) = cutF l te := by
  obtain ⟨s2, s3⟩ := sound_kinds hs
  by_cases h1 : toF l te < k
  · rw [Nat.min_eq_right (by omega)]; rfl
  · rw [Nat.min_eq_left (by omega)]
    rw [Nat.min_eq_left (by omega), used_take l k hk] at hi
    have h0 : kindI l k = 0 := by
      rcases ho with h | ⟨h2, h3⟩
      · exact h
      · exfalso
        unfold toF at h1
        split at h1
        · rename_i h4
          have := (s2 te ht h4).1
          exact h3 ⟨by rw [show (k : Int) = (te : Int) + 1 by omega]; exact this, by omega⟩
        · omega
    rw [kindI_at l k hk] at h0
    rw [if_pos h0] at hi
    exact hi
theorem cut_stop {l : List CellV} (hs : soundB l = true) {te k : Nat} (hk : k < l.length) (ht : te < l.length) (hi : usedF (l.take (min (k + 1) (toF l te + 1))) = cutF l te) (ho : ¬ offB l te k) : k + 1 = cutF l te := by
  obtain ⟨s2, s3⟩ := sound_kinds hs
  have h0 : ¬ kindI l k = 0 := fun e => ho (.inl e)
  have h1 : k ≤ te ∨ (kindI l k = 3 ∧ k = te + 1) := by
    by_cases h : te < k
    · exact .inr (Decidable.byContradiction fun n => ho (.inr ⟨h, n⟩))
    · exact .inl (by omega)
  have h2 : k ≤ toF l te := by
    unfold toF
    rcases h1 with h | ⟨h3, h4⟩
    · split <;> omega
    · have := (s3 k hk h3).1
      rw [if_pos (by rw [show (te : Int) = (k : Int) - 1 by omega]; exact this)]
      omega
  rw [Nat.min_eq_left (by omega), used_take l k hk, if_neg (by rw [← kindI_at l k hk]; exact h0)] at hi
  exact hi
theorem cut_none {l : List CellV} {te : Nat} (hi : usedF (l.take (min 0 (toF l te + 1))) = cutF l te) : 0 = cutF l te := by
  rw [Nat.min_eq_left (by omega)] at hi
  exact hi
theorem cut_le (l : List CellV) (te : Nat) : cutF l te ≤ toF l te + 1 ∧ cutF l te ≤ l.length := by
  have h := used_le (l.take (toF l te + 1))
  rw [List.length_take] at h
  unfold cutF
  omega
/-- What the document reads in the row. -/
def wantF (l : List CellV) (i fr te n : Nat) : List Int := rowR (l.take (cutF l te)) (fun k => bothB (l.take (cutF l te)) i k i fr i te) n
theorem kind_take (l : List CellV) (n k : Nat) (h : k < n) (hn : n ≤ l.length) : kindI (l.take n) k = kindI l k := by
  rw [kindI_at _ _ (by rw [List.length_take]; omega), kindI_at _ _ (by omega), List.getElem_take]
theorem want_eq {l : List CellV} (hs : soundB l = true) (i fr te : Nat) (hft : fr ≤ te) (ht : te < l.length) : wantF l i fr te (cutF l te) = rowX l fr te := by
  obtain ⟨c1, c2⟩ := cut_le l te
  obtain ⟨s2, s3⟩ := sound_kinds hs
  have hto : toF l te + 1 ≤ l.length := by
    unfold toF
    split
    · rename_i h2; have := (s2 te ht h2).2; omega
    · omega
  have hb := both_run hs i i fr i te fr te (by omega) (by rw [if_pos rfl]) (by rw [if_pos rfl]) hft ht
  have h1 : wantF l i fr te (cutF l te) = rowR l (fun k => bothB l i k i fr i te) (cutF l te) := by
    unfold wantF rowR
    rw [List.flatMap_def, List.flatMap_def]
    congr 1
    refine List.map_congr_left fun k hk => ?_
    rw [List.mem_range] at hk
    have e1 : (l.take (cutF l te)).getD k (0, []) = l.getD k (0, []) := by
      rw [List.getD_eq_getElem?_getD, List.getD_eq_getElem?_getD, List.getElem?_take, if_pos hk]
    have e2 : bothB (l.take (cutF l te)) i k i fr i te = bothB l i k i fr i te := by
      unfold bothB
      rw [kind_take l _ k hk c2]
    rw [e1]
    simp only [e2]
  rw [h1, rowR_run l _ (fromF l fr) (toF l te) hb _ c2, Nat.min_eq_left c1]
  unfold rowX stretchF
  rw [used_drop _ _ _ rfl, ← List.drop_take, List.take_take]
  congr 2
  unfold cutF at c1 ⊢
  rw [Nat.min_eq_left c1]
theorem want_snoc (l : List CellV) (i fr te k : Nat) (hk : k < cutF l te) : wantF l i fr te (k + 1) = wantF l i fr te k ++ (if bothB (l.take (cutF l te)) i k i fr i te = true then plOf (l[k]'(by have := (cut_le l te).2; omega)) else []) := by
  have h2 := (cut_le l te).2
  unfold wantF
  rw [rowR_snoc _ _ k (by rw [List.length_take]; omega)]
  simp only [List.getElem_take]
theorem want_len {l : List CellV} (h : ∀ c ∈ l, c.2.length ≤ 16) (i fr te : Nat) : ∀ n, n ≤ cutF l te → (wantF l i fr te n).length ≤ 17 * n
  | 0, _ => by unfold wantF rowR; simp
  | n + 1, hn => by
    have hc := (cut_le l te).2
    rw [want_snoc l i fr te n (by omega), List.length_append]
    have ih := want_len h i fr te n (by omega)
    have h1 := h (l[n]'(by omega)) (List.getElem_mem _)
    have h2 : (plOf (l[n]'(by omega))).length ≤ 1 + (l[n]'(by omega)).2.length := by unfold plOf; split <;> simp <;> omega
    split
    · omega
    · simp; omega
theorem boxT_at (ls : List LineV) (f t tp n k : Nat) (hk : k < n - tp) : (boxT ls f t tp n)[k]? = some (rowX (lnR ls (tp + k)).1 f t) := by
  unfold boxT
  rw [List.getElem?_map, List.getElem?_range' hk]
  simp
end Go.Proofs.YtejhaepgbfngcaaDoor
