/-
  Plain functions on integers and lists that the first layers compute (scalar values, bytes of forms). No program in sight.
-/
import Derived.WalkKit
namespace Go.Proofs.Ytfcjkmiaibakiaa

def validB (r : Int) : Bool := decide ((0 ≤ r ∧ r < 55296) ∨ (57343 < r ∧ r ≤ 1114111))

def sizeF (r : Int) : Int := if validB r = true then (if r ≤ 127 then 1 else if r ≤ 2047 then 2 else if r ≤ 65535 then 3 else 4) else 0

def formF (r : Int) : List Int :=
  if validB r = true then
    (if r ≤ 127 then [r] else if r ≤ 2047 then [192 + r / 64, 128 + r % 64]
     else if r ≤ 65535 then [224 + r / 4096, 128 + r / 64 % 64, 128 + r % 64]
     else [240 + r / 262144, 128 + r / 4096 % 64, 128 + r / 64 % 64, 128 + r % 64])
  else []

def leadF (b : Int) : Int := if 240 ≤ b ∧ b ≤ 244 then 4 else if 224 ≤ b ∧ b < 240 then 3 else if 194 ≤ b ∧ b < 224 then 2 else if b < 128 then 1 else 0

def loF (b : Int) : Int := if leadF b < 2 then 0 else if b = 224 then 160 else if b = 240 then 144 else 128
def hiF (b : Int) : Int := if leadF b < 2 then 0 else if b = 244 then 143 else if b = 237 then 159 else 191

def tailB (b : Int) : Bool := decide (128 ≤ b ∧ b ≤ 191)

/-- The bits of a first byte that count. -/
def bitsF (b : Int) : Int := if leadF b = 0 then 0 else if leadF b = 1 then b else if leadF b = 2 then b % 32 else if leadF b = 3 then b % 16 else b % 8

theorem leadF_range (b : Int) : 0 ≤ leadF b ∧ leadF b ≤ 4 := by unfold leadF; omega
theorem sizeF_range (r : Int) : 0 ≤ sizeF r ∧ sizeF r ≤ 4 := by unfold sizeF; (repeat' split) <;> omega
theorem lo_range (b : Int) : 0 ≤ loF b ∧ loF b ≤ 160 := by unfold loF; omega
theorem hi_range (b : Int) : 0 ≤ hiF b ∧ hiF b ≤ 191 := by unfold hiF; omega
theorem validB_iff (r : Int) : validB r = true ↔ ((0 ≤ r ∧ r < 55296) ∨ (57343 < r ∧ r ≤ 1114111)) := by unfold validB; simp
theorem validB_not (r : Int) : validB r = false ↔ ¬ ((0 ≤ r ∧ r < 55296) ∨ (57343 < r ∧ r ≤ 1114111)) := by unfold validB; simp only [decide_eq_false_iff_not]

theorem formF_bytes (r : Int) : ∀ n ∈ formF r, 0 ≤ n ∧ n ≤ 255 := by
  unfold formF
  intro n hn
  by_cases hv : validB r = true
  · have h := (validB_iff r).1 hv
    rw [if_pos hv] at hn
    (repeat' split at hn) <;> simp at hn <;> omega
  · rw [if_neg hv] at hn; simp at hn
theorem formF_length (r : Int) : ((formF r).length : Int) = sizeF r := by
  unfold formF sizeF
  (repeat' split) <;> simp
end Go.Proofs.Ytfcjkmiaibakiaa
