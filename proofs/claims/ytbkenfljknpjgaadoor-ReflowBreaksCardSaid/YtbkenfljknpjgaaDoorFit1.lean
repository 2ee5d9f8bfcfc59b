/-
  What the functions of fit that cut a strip, and make a row of another width, return. Each function once.
-/
import Derived.Test.YtbkenfljknpjgaaDoorRow3
import Derived.Test.YtbkenfljknpjgaaDoorFit0
import Derived.Test.YtbkenfljknpjgaaDoorCell2
namespace Go.Proofs.YtbkenfljknpjgaaDoor
open Go.RowKit
set_option linter.unusedVariables false
set_option linter.unusedSimpArgs false

/-- The first cells of a strip; a Lead at their end is a blank. -/
def cutF : List CellV → Nat → List CellV
  | _, 0 => []
  | [], _ + 1 => []
  | c :: l, 1 => if c.1 = 2 then [(0, [])] else [c]
  | c :: l, n + 2 => c :: cutF l (n + 1)
theorem cut_len : ∀ (l : List CellV) (n : Nat), n ≤ l.length → (cutF l n).length = n
  | _, 0, _ => by simp [cutF]
  | [], n + 1, h => by simp at h
  | c :: l, 1, _ => by simp only [cutF]; split <;> rfl
  | c :: l, n + 2, h => by simp only [cutF, List.length_cons]; rw [cut_len l (n + 1) (by simpa using h)]
theorem cut_set : ∀ (l : List CellV) (n : Nat) (hn : n < l.length), cutF l (n + 1) = if l[n].1 = 2 then (l.take (n + 1)).set n (0, []) else l.take (n + 1)
  | [], n, h => by simp at h
  | c :: l, 0, _ => by simp only [cutF, List.getElem_cons_zero]; split <;> simp
  | c :: l, n + 1, h => by
    have ih := cut_set l n (by simpa using h)
    simp only [cutF, List.getElem_cons_succ, List.take_succ_cons, List.set_cons_succ] at ih ⊢
    rw [ih]
    split <;> rfl
theorem sound_blanks2 : ∀ n, soundG false (List.replicate n ((0, []) : CellV)) = true
  | 0 => rfl
  | n + 1 => by
    rw [List.replicate_succ]
    simp only [soundG]
    rw [show decide ((0 : Int) = 2) = false by decide, sound_blanks2 n]
    decide
theorem cut_sound : ∀ (l : List CellV) (n : Nat) (lead : Bool) (k : Nat), 0 < n → n ≤ l.length → soundG lead l = true → soundG lead (cutF l n ++ List.replicate k (0, [])) = true
  | _, 0, _, _, h, _, _ => by omega
  | [], n + 1, _, _, _, h, _ => by simp at h
  | c :: l, 1, lead, k, _, _, h => by
    simp only [soundG, Bool.and_eq_true] at h
    obtain ⟨⟨h1, h2⟩, h3⟩ := h
    simp only [cutF]
    have hb := sound_blanks2 k
    by_cases hc : c.1 = 2
    · rw [if_pos hc]
      rw [hc] at h2
      simp only [List.singleton_append, soundG, Bool.and_eq_true]
      exact ⟨⟨by decide, by simpa using h2⟩, by simpa using hb⟩
    · rw [if_neg hc]
      simp only [List.singleton_append, soundG, Bool.and_eq_true]
      exact ⟨⟨h1, h2⟩, by simpa [hc] using hb⟩
  | c :: l, n + 2, lead, k, _, hl, h => by
    simp only [soundG, Bool.and_eq_true] at h
    obtain ⟨h1, h3⟩ := h
    simp only [cutF, List.cons_append, soundG, Bool.and_eq_true]
    exact ⟨h1, cut_sound l (n + 1) _ k (by omega) (by simpa using hl) h3⟩
theorem Slc.recap {α : Type} {R : Rep α} {So Si : Nat → Prop} {w : World} {A : Option Addr} {n c c' : Nat} {l : List α} (h : Slc R So Si w (.slice A n c) l) (hc : n ≤ c') (hm : c' ≤ maxLen) : Slc R So Si w (.slice A n c') l := by
  obtain ⟨A', d, he, h1, h2, h3⟩ := h
  injection he with e1 e2 e3
  subst e1; subst e2
  exact ⟨_, c', rfl, hc, hm, h3⟩

end Go.Proofs.YtbkenfljknpjgaaDoor
