/-
  What is marked in a row, plain: the cells that are marked one by one are the stretch. No program in sight.
-/
import Derived.Test.YtejhaepgbfngcaaDoorReg3
namespace Go.Proofs.YtejhaepgbfngcaaDoor
open Go.RowKit
set_option linter.unusedVariables false
set_option linter.unusedSimpArgs false

def rowR (l : List CellV) (P : Nat → Bool) (n : Nat) : List Int := (List.range n).flatMap fun k => if P k = true then plOf (l.getD k (0, [])) else []
theorem rowR_snoc (l : List CellV) (P : Nat → Bool) (n : Nat) (h : n < l.length) : rowR l P (n + 1) = rowR l P n ++ (if P n = true then plOf l[n] else []) := by
  unfold rowR
  rw [List.range_succ, List.flatMap_append]
  simp [List.getD_eq_getElem?_getD, List.getElem?_eq_getElem h]
theorem rowR_run (l : List CellV) (P : Nat → Bool) (f t : Nat) (hP : ∀ k, k < l.length → P k = decide (f ≤ k ∧ k ≤ t)) : ∀ n, n ≤ l.length → rowR l P n = readF ((l.take (min n (t + 1))).drop f)
  | 0, _ => by simp [rowR, readF]
  | n + 1, h => by
    have hn : n < l.length := by omega
    rw [rowR_snoc l P n hn, rowR_run l P f t hP n (by omega), hP n hn]
    by_cases h1 : n ≤ t
    · rw [Nat.min_eq_left (by omega : n ≤ t + 1), Nat.min_eq_left (by omega : n + 1 ≤ t + 1), take_snoc' l n hn]
      by_cases h2 : f ≤ n
      · rw [if_pos (decide_eq_true ⟨h2, h1⟩), List.drop_append_of_le_length (by rw [List.length_take]; omega)]
        unfold readF
        rw [List.flatMap_append]
        simp
      · rw [if_neg (by simp; omega), List.append_nil, List.drop_eq_nil_of_le (by rw [List.length_take]; omega), List.drop_eq_nil_of_le (by rw [List.length_append, List.length_take]; simp; omega)]
    · rw [Nat.min_eq_right (by omega : t + 1 ≤ n), Nat.min_eq_right (by omega : t + 1 ≤ n + 1), if_neg (by simp; omega), List.append_nil]

theorem used_drop : ∀ (n : Nat) (l : List CellV) (f : Nat), l.length = n → usedF (l.drop f) = usedF l - f
  | 0, l, f, h => by
    have : l = [] := List.eq_nil_of_length_eq_zero h
    subst this
    simp [usedF]
  | n + 1, l, f, h => by
    have hl : l = l.take n ++ [l[n]] := by
      have := take_snoc' l n (by omega)
      rw [← this, List.take_of_length_le (by omega)]
    have hm : (l.take n).length = n := by rw [List.length_take]; omega
    have ih := used_drop n (l.take n) f hm
    have hu := used_le (l.take n)
    generalize l.take n = m at *
    generalize l[n] = c at *
    subst hl
    rw [used_snoc]
    by_cases hf : f ≤ m.length
    · rw [List.drop_append_of_le_length hf, used_snoc, List.length_drop, ih]
      split
      · rfl
      · omega
    · rw [List.drop_eq_nil_of_le (by rw [List.length_append]; simp; omega)]
      have e : usedF ([] : List CellV) = 0 := rfl
      rw [e]
      split <;> omega

theorem sound_kinds {l : List CellV} (h : soundB l = true) : (∀ k : Nat, k < l.length → kindI l k = 2 → kindI l ((k : Int) + 1) = 3 ∧ k + 1 < l.length) ∧ (∀ k : Nat, k < l.length → kindI l k = 3 → kindI l ((k : Int) - 1) = 2 ∧ 0 < k) := by
  have hw := (wrong_sound l).2 h
  have hk := fun (k : Nat) (hk : k < l.length) => by
    have := hw k hk
    unfold wrongAt at this
    rw [dif_pos hk] at this
    split at this
    · cases this
    · split at this
      · cases this
      · rename_i h2
        exact h2
  refine ⟨fun k hkl h2 => ?_, fun k hkl h3 => ?_⟩
  · rw [kindI_at l k hkl] at h2
    have h4 : kindI l ((k : Int) + 1) = 3 := Decidable.byContradiction fun hne => hk k hkl (.inl ⟨h2, hne⟩)
    refine ⟨h4, Decidable.byContradiction fun hge => ?_⟩
    have := kindI_out l (k + 1) (by omega)
    rw [show ((k + 1 : Nat) : Int) = (k : Int) + 1 by omega] at this
    rw [this] at h4
    cases h4
  · rw [kindI_at l k hkl] at h3
    have h4 : kindI l ((k : Int) - 1) = 2 := Decidable.byContradiction fun hne => hk k hkl (.inr ⟨h3, hne⟩)
    refine ⟨h4, Decidable.byContradiction fun hge => ?_⟩
    have := kindI_neg l ((k : Int) - 1) (by omega)
    rw [this] at h4
    cases h4

/-- In a row between two places each marked cell, or its other half, lies in the stretch. -/
theorem both_run {l : List CellV} (h : soundB l = true) (i a0 a1 b0 b1 : Int) (f t : Nat) (hi : a0 ≤ i ∧ i ≤ b0) (hf : (f : Int) = if i = a0 then a1 else 0) (ht : (t : Int) = if i = b0 then b1 else (l.length : Int) - 1) (hft : f ≤ t) (htl : t < l.length) :
    ∀ k : Nat, k < l.length → bothB l i k a0 a1 b0 b1 = decide (fromF l f ≤ k ∧ k ≤ toF l t) := by
  obtain ⟨s2, s3⟩ := sound_kinds h
  have hM : ∀ k : Int, 0 ≤ k → k < l.length → (markedB i k a0 a1 b0 b1 = true ↔ (f : Int) ≤ k ∧ k ≤ t) := by
    intro k h0 h1
    unfold markedB
    rw [decide_eq_true_eq, hf, ht]
    split <;> split <;> omega
  intro k hk
  rw [Bool.eq_iff_iff]
  unfold bothB fromF toF
  rw [Bool.or_eq_true, Bool.or_eq_true, Bool.and_eq_true, Bool.and_eq_true, decide_eq_true_eq, decide_eq_true_eq, decide_eq_true_eq, hM k (by omega) (by omega)]
  have e1 : kindI l k = 2 → (markedB i ((k : Int) + 1) a0 a1 b0 b1 = true ↔ (f : Int) ≤ (k : Int) + 1 ∧ (k : Int) + 1 ≤ t) := fun h2 => hM _ (by omega) (by have := (s2 k hk h2).2; omega)
  have e2 : kindI l k = 3 → (markedB i ((k : Int) - 1) a0 a1 b0 b1 = true ↔ (f : Int) ≤ (k : Int) - 1 ∧ (k : Int) - 1 ≤ t) := fun h3 => hM _ (by have := (s3 k hk h3).2; omega) (by omega)
  constructor
  · rintro ((hm | ⟨h2, hm⟩) | ⟨h3, hm⟩)
    · split <;> split <;> omega
    · have hm := (e1 h2).1 hm
      by_cases hkf : k + 1 = f
      · have h3 : kindI l f = 3 := by rw [← hkf, show ((k + 1 : Nat) : Int) = (k : Int) + 1 by omega]; exact (s2 k hk h2).1
        rw [if_pos h3]
        split <;> omega
      · split <;> split <;> omega
    · have hm := (e2 h3).1 hm
      have hp := (s3 k hk h3).2
      by_cases hkt : k = t + 1
      · have h2 : kindI l t = 2 := by
          have := (s3 k hk h3).1
          rw [hkt, show ((t + 1 : Nat) : Int) - 1 = t by omega] at this
          exact this
        rw [if_pos h2]
        split <;> omega
      · split <;> split <;> omega
  · rintro ⟨h1, h2⟩
    by_cases hkf : k < f
    · have h3 : kindI l f = 3 := Decidable.byContradiction fun hne => by rw [if_neg hne] at h1; omega
      have hfk : f = k + 1 := by rw [if_pos h3] at h1; omega
      have hk2 : kindI l k = 2 := by
        have := (s3 f (by omega) h3).1
        rw [hfk, show ((k + 1 : Nat) : Int) - 1 = k by omega] at this
        exact this
      exact .inl (.inr ⟨hk2, (e1 hk2).2 (by omega)⟩)
    · by_cases hkt : t < k
      · have h4 : kindI l t = 2 := Decidable.byContradiction fun hne => by rw [if_neg hne] at h2; omega
        have htk : k = t + 1 := by rw [if_pos h4] at h2; omega
        have hk3 : kindI l k = 3 := by
          have := (s2 t htl h4).1
          rw [htk, show ((t + 1 : Nat) : Int) = (t : Int) + 1 by omega]
          exact this
        exact .inr ⟨hk3, (e2 hk3).2 (by omega)⟩
      · exact .inl (.inl (by omega))

def refN (l : List CellV) (on wrap : Bool) : Nat := if on = false then l.length else if wrap = true then (if kindI l ((l.length : Int) - 1) = 0 then l.length - 1 else l.length) else usedF l
def refRow (l : List CellV) (P : Nat → Bool) (on wrap : Bool) : List Int := rowR l P (refN l on wrap) ++ (if on = true ∧ wrap = false then [10] else [])
def rowF (l : List CellV) (f t : Nat) (on wrap : Bool) : List Int := if on = true then innerF (stretchF l f t) wrap else readF (stretchF l f t)

theorem row_eq {l : List CellV} (h : soundB l = true) (P : Nat → Bool) (f t : Nat) (on wrap : Bool) (hft : f ≤ t) (htl : t < l.length) (hon : on = true → t + 1 = l.length) (hP : ∀ k, k < l.length → P k = decide (fromF l f ≤ k ∧ k ≤ toF l t)) :
    refRow l P on wrap = rowF l f t on wrap := by
  obtain ⟨s2, s3⟩ := sound_kinds h
  have hul := used_le l
  have hto : toF l t + 1 ≤ l.length := by
    unfold toF
    split
    · rename_i h2; have := (s2 t htl h2).2; omega
    · omega
  have hfr : fromF l f ≤ f := by unfold fromF; split <;> omega
  unfold refRow rowF
  rw [rowR_run l P (fromF l f) (toF l t) hP (refN l on wrap) (by unfold refN; split; · exact Nat.le_refl _
                                                                 · split
                                                                   · split <;> omega
                                                                   · exact hul)]
  cases on with
  | false =>
    unfold refN stretchF
    rw [if_pos rfl, if_neg (by simp), if_neg (by simp), List.append_nil, Nat.min_eq_right hto]
  | true =>
    have htt := hon rfl
    have hte : toF l t = t := by
      unfold toF
      rw [if_neg]
      intro h2
      have := (s2 t htl h2).2
      omega
    have hst : stretchF l f t = l.drop (fromF l f) := by
      unfold stretchF
      rw [hte, htt, List.take_length]
    have hfl : fromF l f < l.length := by omega
    rw [if_pos rfl, hst, hte]
    cases wrap with
    | false =>
      unfold refN innerF
      rw [if_neg (by simp), if_neg (by simp), if_pos ⟨rfl, rfl⟩, if_pos rfl, Nat.min_eq_left (by omega), used_drop _ l _ rfl, List.drop_take]
    | true =>
      have hn : refN l true true = if kindI l ((l.length : Int) - 1) = 0 then l.length - 1 else l.length := by
        unfold refN
        rw [if_neg (by decide), if_pos rfl]
      have hin : innerF (l.drop (fromF l f)) true = readF (if kindI (l.drop (fromF l f)) (((l.drop (fromF l f)).length : Int) - 1) = 0 then (l.drop (fromF l f)).take ((l.drop (fromF l f)).length - 1) else l.drop (fromF l f)) := by
        unfold innerF
        rw [if_neg (by decide)]
      have hk : kindI (l.drop (fromF l f)) (((l.drop (fromF l f)).length : Int) - 1) = kindI l ((l.length : Int) - 1) := by
        have e1 : ((l.drop (fromF l f)).length : Int) - 1 = ((l.length - fromF l f - 1 : Nat) : Int) := by rw [List.length_drop]; omega
        have e2 : (l.length : Int) - 1 = ((l.length - 1 : Nat) : Int) := by omega
        rw [e1, e2, kindI_at _ _ (by rw [List.length_drop]; omega), kindI_at l _ (by omega), List.getElem_drop]
        congr 2
        omega
      rw [hn, hin, hk, if_neg (by decide : ¬ (true = true ∧ true = false)), List.append_nil]
      by_cases h0 : kindI l ((l.length : Int) - 1) = 0
      · rw [if_pos h0, if_pos h0, Nat.min_eq_left (by omega), List.length_drop, List.drop_take]
        congr 2
        omega
      · rw [if_neg h0, if_neg h0, Nat.min_eq_left (by omega), List.take_length]
end Go.Proofs.YtejhaepgbfngcaaDoor
