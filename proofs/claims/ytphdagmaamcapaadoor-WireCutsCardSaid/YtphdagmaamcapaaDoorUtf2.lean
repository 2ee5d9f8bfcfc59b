/-
  Plain facts on forms fed to a decoder. No program in sight.
-/
import Derived.Test.YtphdagmaamcapaaDoorUtf1
namespace Go.Proofs.YtphdagmaamcapaaDoor
set_option linter.unusedVariables false

theorem form_begins (r : Int) (hv : validB r = true) : wholeF (formF r) = r ∧ ∀ k, k < (formF r).length → beginsF ((formF r).take (k + 1)) = ((formF r).length : Int) := by
  rcases form_cases r hv with ⟨hf, h⟩ | ⟨b0, b1, hf, h⟩ | ⟨b0, b1, b2, hf, h⟩ | ⟨b0, b1, b2, b3, hf, h⟩ <;> rw [hf]
  · have hl := lead1 (b := r) (by omega)
    refine ⟨by simp [wholeF, accF, bitsF, hl], fun k hk => ?_⟩
    simp at hk; subst hk
    simp [beginsF, hl, okT]
  · have hl := lead2 (b := b0) (by omega)
    refine ⟨by simp [wholeF, accF, bitsF, hl]; omega, fun k hk => ?_⟩
    simp at hk
    have hk : k = 0 ∨ k = 1 := by omega
    rcases hk with rfl | rfl <;> simp [beginsF, hl, okT, loF, hiF] <;> omega
  · have hl := lead3 (b := b0) (by omega)
    refine ⟨by simp [wholeF, accF, bitsF, hl]; omega, fun k hk => ?_⟩
    simp at hk
    have hk : k = 0 ∨ k = 1 ∨ k = 2 := by omega
    rcases hk with rfl | rfl | rfl <;> simp [beginsF, hl, okT, loF, hiF] <;> omega
  · have hl := lead4 (b := b0) (by omega)
    refine ⟨by simp [wholeF, accF, bitsF, hl]; omega, fun k hk => ?_⟩
    simp at hk
    have hk : k = 0 ∨ k = 1 ∨ k = 2 ∨ k = 3 := by omega
    rcases hk with rfl | rfl | rfl | rfl <;> simp [beginsF, hl, okT, loF, hiF] <;> omega

theorem form_step (r : Int) (hv : validB r = true) (k : Nat) (hk : k < (formF r).length) :
    refStepF ((formF r).take k) (formF r)[k] = if k + 1 < (formF r).length then ([], (formF r).take (k + 1)) else ([r], []) := by
  obtain ⟨hw, hb⟩ := form_begins r hv
  have hbk := hb k hk
  unfold refStepF
  rw [← take_snoc' _ k hk, hbk]
  have hlt : ((formF r).take k).length = k := by simp; omega
  rw [hlt]
  by_cases h : k + 1 < (formF r).length
  · rw [if_pos h, if_pos ⟨by omega, by omega⟩]
  · rw [if_neg h, if_neg (by omega), if_pos (by omega)]
    have e : (formF r).take (k + 1) = formF r := List.take_of_length_le (by omega)
    rw [e, hw]

theorem form_feed_pre (r : Int) (hv : validB r = true) : ∀ k, k ≤ (formF r).length → feedF [] ((formF r).take k) = if k < (formF r).length then ([], (formF r).take k) else (([r] : List Int), [])
  | 0, h => by
    have : 0 < (formF r).length := by obtain ⟨b0, rest, hf, _⟩ := form_facts r hv; rw [hf]; simp
    rw [if_pos this]; simp [feedF]
  | k + 1, h => by
    have ih := form_feed_pre r hv k (by omega)
    rw [if_pos (by omega)] at ih
    rw [take_snoc' _ k (by omega), feedF_snoc, ih]
    simp only [List.nil_append]
    rw [form_step r hv k (by omega), ← take_snoc' _ k (by omega)]
theorem form_feed (r : Int) (hv : validB r = true) : feedF [] (formF r) = ([r], []) := by
  have := form_feed_pre r hv (formF r).length (Nat.le_refl _)
  rwa [List.take_length, if_neg (by omega)] at this

/-- A form's bytes, one by one, of whatever number (of one that is no scalar value there are none). -/
theorem form_step_any (r : Int) (k : Nat) (hk : k < (formF r).length) :
    refStepF ((formF r).take k) (formF r)[k] = if k + 1 < (formF r).length then ([], (formF r).take (k + 1)) else ([r], []) := by
  cases hv : validB r with
  | true => exact form_step r hv k hk
  | false => simp [formF, hv] at hk
theorem form_len4 (r : Int) : (formF r).length ≤ 4 := by
  have h := formF_length r
  have := sizeF_range r
  omega
end Go.Proofs.YtphdagmaamcapaaDoor
