/-
  Plain functions on integers and lists that the first layers compute (scalar values, bytes of forms). No program in sight.
-/
import Derived.WalkKit
namespace Go.Proofs.YtphdagmaamcapaaDoor

def validB (r : Int) : Bool := decide ((0 ≤ r ∧ r < 55296) ∨ (57343 < r ∧ r ≤ 1114111))

def sizeF (r : Int) : Int := if validB r = true then (if r ≤ 127 then 1 else if r ≤ 2047 then 2 else if r ≤ 65535 then 3 else 4) else 0

def formF (r : Int) : List Int :=
  if validB r = true then
    (if r ≤ 127 then [r] else if r ≤ 2047 then [192 + r / 64, 128 + r % 64]
     else if r ≤ 65535 then [224 + r / 4096, 128 + r / 64 % 64, 128 + r % 64]
     else [240 + r / 262144, 128 + r / 4096 % 64, 128 + r / 64 % 64, 128 + r % 64])
  else []

def leadF (b : Int) : Int := if 240 ≤ b ∧ b ≤ 244 then 4 else if 224 ≤ b ∧ b < 240 then 3 else if 194 ≤ b ∧ b < 224 then 2 else if b < 128 then 1 else 0

def loF (b : Int) : Int := if leadF b < 2 then 0 else if b = 224 then 160 else if b = 240 then 144 else 128
def hiF (b : Int) : Int := if leadF b < 2 then 0 else if b = 244 then 143 else if b = 237 then 159 else 191

def tailB (b : Int) : Bool := decide (128 ≤ b ∧ b ≤ 191)

/-- The bits of a first byte that count. -/
def bitsF (b : Int) : Int := if leadF b = 0 then 0 else if leadF b = 1 then b else if leadF b = 2 then b % 32 else if leadF b = 3 then b % 16 else b % 8

theorem leadF_range (b : Int) : 0 ≤ leadF b ∧ leadF b ≤ 4 := by unfold leadF; omega
theorem sizeF_range (r : Int) : 0 ≤ sizeF r ∧ sizeF r ≤ 4 := by unfold sizeF; (repeat' split) <;> omega
theorem lo_range (b : Int) : 0 ≤ loF b ∧ loF b ≤ 160 := by unfold loF; omega
theorem hi_range (b : Int) : 0 ≤ hiF b ∧ hiF b ≤ 191 := by unfold hiF; omega
theorem validB_iff (r : Int) : validB r = true ↔ ((0 ≤ r ∧ r < 55296) ∨ (57343 < r ∧ r ≤ 1114111)) := by unfold validB; simp
theorem validB_not (r : Int) : validB r = false ↔ ¬ ((0 ≤ r ∧ r < 55296) ∨ (57343 < r ∧ r ≤ 1114111)) := by unfold validB; simp only [decide_eq_false_iff_not]

theorem formF_bytes (r : Int) : ∀ n ∈ formF r, 0 ≤ n ∧ n ≤ 255 := by
  unfold formF
  intro n hn
  by_cases hv : validB r = true
  · have h := (validB_iff r).1 hv
    rw [if_pos hv] at hn
    (repeat' split at hn) <;> simp at hn <;> omega
  · rw [if_neg hv] at hn; simp at hn
theorem formF_length (r : Int) : ((formF r).length : Int) = sizeF r := by
  unfold formF sizeF
  (repeat' split) <;> simp

/-- The four shapes of a form. -/
theorem form_cases (r : Int) (hv : validB r = true) :
    (formF r = [r] ∧ 0 ≤ r ∧ r ≤ 127) ∨
    (∃ b0 b1, formF r = [b0, b1] ∧ 194 ≤ b0 ∧ b0 ≤ 223 ∧ 128 ≤ b1 ∧ b1 ≤ 191 ∧ r = (b0 - 192) * 64 + b1 - 128) ∨
    (∃ b0 b1 b2, formF r = [b0, b1, b2] ∧ 224 ≤ b0 ∧ b0 ≤ 239 ∧ 128 ≤ b1 ∧ b1 ≤ 191 ∧ 128 ≤ b2 ∧ b2 ≤ 191 ∧ (b0 = 224 → 160 ≤ b1) ∧ (b0 = 237 → b1 ≤ 159) ∧ r = ((b0 - 224) * 64 + b1 - 128) * 64 + b2 - 128) ∨
    (∃ b0 b1 b2 b3, formF r = [b0, b1, b2, b3] ∧ 240 ≤ b0 ∧ b0 ≤ 244 ∧ 128 ≤ b1 ∧ b1 ≤ 191 ∧ 128 ≤ b2 ∧ b2 ≤ 191 ∧ 128 ≤ b3 ∧ b3 ≤ 191 ∧ (b0 = 240 → 144 ≤ b1) ∧ (b0 = 244 → b1 ≤ 143) ∧
      r = (((b0 - 240) * 64 + b1 - 128) * 64 + b2 - 128) * 64 + b3 - 128) := by
  have h := (validB_iff r).1 hv
  unfold formF
  rw [if_pos hv]
  by_cases h1 : r ≤ 127
  · rw [if_pos h1]; exact .inl ⟨rfl, by omega, h1⟩
  · rw [if_neg h1]
    by_cases h2 : r ≤ 2047
    · rw [if_pos h2]; exact .inr (.inl ⟨_, _, rfl, by omega, by omega, by omega, by omega, by omega⟩)
    · rw [if_neg h2]
      by_cases h3 : r ≤ 65535
      · rw [if_pos h3]; exact .inr (.inr (.inl ⟨_, _, _, rfl, by omega, by omega, by omega, by omega, by omega, by omega, by omega, by omega, by omega⟩))
      · rw [if_neg h3]; exact .inr (.inr (.inr ⟨_, _, _, _, rfl, by omega, by omega, by omega, by omega, by omega, by omega, by omega, by omega, by omega, by omega, by omega⟩))

/-- The number that a form's bytes make, up to byte k. -/
def accF (f : List Int) : Nat → Int
  | 0 => bitsF (f.getD 0 0)
  | k + 1 => accF f k * 64 + f.getD (k + 1) 0 - 128

theorem lead2 {b : Int} (h : 194 ≤ b ∧ b ≤ 223) : leadF b = 2 := by unfold leadF; omega
theorem lead3 {b : Int} (h : 224 ≤ b ∧ b ≤ 239) : leadF b = 3 := by unfold leadF; omega
theorem lead4 {b : Int} (h : 240 ≤ b ∧ b ≤ 244) : leadF b = 4 := by unfold leadF; omega
theorem lead1 {b : Int} (h : b ≤ 127) : leadF b = 1 := by unfold leadF; omega
theorem lead_inv (b : Int) : (leadF b = 1 → b ≤ 127) ∧ (leadF b = 2 → 194 ≤ b ∧ b ≤ 223) ∧ (leadF b = 3 → 224 ≤ b ∧ b ≤ 239) ∧ (leadF b = 4 → 240 ≤ b ∧ b ≤ 244) := by unfold leadF; omega

theorem form_facts (r : Int) (hv : validB r = true) :
    ∃ b0 rest, formF r = b0 :: rest ∧ 0 ≤ b0 ∧ b0 ≤ 255 ∧ leadF b0 = (formF r).length ∧ (formF r).length ≤ 4 ∧
      (∀ k, 1 ≤ k → k < (formF r).length → tailB ((formF r).getD k 0) = true) ∧
      (1 < (formF r).length → loF b0 ≤ (formF r).getD 1 0 ∧ (formF r).getD 1 0 ≤ hiF b0) ∧
      accF (formF r) ((formF r).length - 1) = r ∧ (∀ k, k < (formF r).length → 0 ≤ accF (formF r) k ∧ accF (formF r) k ≤ 2097151) := by
  have ht : ∀ b, tailB b = true ↔ (128 ≤ b ∧ b ≤ 191) := by intro b; unfold tailB; simp
  rcases form_cases r hv with ⟨hf, h⟩ | ⟨b0, b1, hf, h⟩ | ⟨b0, b1, b2, hf, h⟩ | ⟨b0, b1, b2, b3, hf, h⟩ <;> rw [hf]
  · have hl := lead1 (b := r) (by omega)
    refine ⟨r, [], rfl, by omega, by omega, by simp [hl], by simp, ?_, by simp, by simp [accF, bitsF, hl], ?_⟩
    · intro k h1 h2; simp at h2; omega
    · intro k hk; simp at hk; subst hk; simp [accF, bitsF, hl]; omega
  · have hl := lead2 (b := b0) (by omega)
    refine ⟨b0, [b1], rfl, by omega, by omega, by simp [hl], by simp, ?_, ?_, ?_, ?_⟩
    · intro k h1 h2; simp at h2
      obtain rfl : k = 1 := by omega
      simp [ht]; omega
    · intro _; simp [loF, hiF, hl]; omega
    · simp [accF, bitsF, hl]; omega
    · intro k hk; simp at hk
      have hk : k = 0 ∨ k = 1 := by omega
      rcases hk with rfl | rfl <;> simp [accF, bitsF, hl] <;> omega
  · have hl := lead3 (b := b0) (by omega)
    refine ⟨b0, [b1, b2], rfl, by omega, by omega, by simp [hl], by simp, ?_, ?_, ?_, ?_⟩
    · intro k h1 h2; simp at h2
      have hk : k = 1 ∨ k = 2 := by omega
      rcases hk with rfl | rfl <;> simp [ht] <;> omega
    · intro _; simp [loF, hiF, hl]; omega
    · simp [accF, bitsF, hl]; omega
    · intro k hk; simp at hk
      have hk : k = 0 ∨ k = 1 ∨ k = 2 := by omega
      rcases hk with rfl | rfl | rfl <;> simp [accF, bitsF, hl] <;> omega
  · have hl := lead4 (b := b0) (by omega)
    refine ⟨b0, [b1, b2, b3], rfl, by omega, by omega, by simp [hl], by simp, ?_, ?_, ?_, ?_⟩
    · intro k h1 h2; simp at h2
      have hk : k = 1 ∨ k = 2 ∨ k = 3 := by omega
      rcases hk with rfl | rfl | rfl <;> simp [ht] <;> omega
    · intro _; simp [loF, hiF, hl]; omega
    · simp [accF, bitsF, hl]; omega
    · intro k hk; simp at hk
      have hk : k = 0 ∨ k = 1 ∨ k = 2 ∨ k = 3 := by omega
      rcases hk with rfl | rfl | rfl | rfl <;> simp [accF, bitsF, hl] <;> omega

/-- Three bytes that lie so are a form. -/
theorem form_of_three (a b c : Int) (h : leadF a = 3) (hb : loF a ≤ b ∧ b ≤ hiF a) (hc : 128 ≤ c ∧ c ≤ 191) : formF ((bitsF a * 64 + b - 128) * 64 + c - 128) = [a, b, c] := by
  have ha := (lead_inv a).2.2.1 h
  have hbits : bitsF a = a - 224 := by simp [bitsF, h]; omega
  have hlo : loF a = if a = 224 then 160 else 128 := by simp [loF, h]; omega
  have hhi : hiF a = if a = 237 then 159 else 191 := by simp [hiF, h]; omega
  rw [hlo, hhi] at hb
  rw [hbits]
  have hr : ((a - 224) * 64 + b - 128) * 64 + c - 128 = (a - 224) * 4096 + (b - 128) * 64 + (c - 128) := by omega
  rw [hr]
  have hv : validB ((a - 224) * 4096 + (b - 128) * 64 + (c - 128)) = true := by rw [validB_iff]; omega
  unfold formF
  rw [if_pos hv, if_neg (by omega), if_neg (by omega), if_pos (by omega)]
  simp only [List.cons.injEq, and_true]
  refine ⟨?_, ?_, ?_⟩ <;> omega
end Go.Proofs.YtphdagmaamcapaaDoor
