/-
  Plain functions on rows of bytes: of two scalar values the lesser one's form is the lesser row. No program in sight.
-/
import Derived.Test.YtphdagmaamcapaaDoorMem
import Derived.Test.YtphdagmaamcapaaDoorUtf0
namespace Go.Proofs.YtphdagmaamcapaaDoor
open Go.RowKit
set_option linter.unusedVariables false

def lexB : List Int → List Int → Bool
  | _, [] => false
  | [], _ :: _ => true
  | a :: x, b :: y => decide (a < b) || (decide (a = b) && lexB x y)

theorem less_nums : ∀ (l m : List Int), (∀ n ∈ l, (Lit.int .u8 n).wf = true) → (∀ n ∈ m, (Lit.int .u8 n).wf = true) → Op.bytesLess (l.map fun n => UInt8.ofNat n.toNat) (m.map fun n => UInt8.ofNat n.toNat) = lexB l m
  | l, [], _, _ => by cases l <;> simp [Op.bytesLess, lexB]
  | [], b :: m, _, _ => by simp [Op.bytesLess, lexB]
  | a :: l, b :: m, hl, hm => by
    have ha := u8_wf (hl a (by simp))
    have hb := u8_wf (hm b (by simp))
    have ih := less_nums l m (fun n hn => hl n (by simp [hn])) (fun n hn => hm n (by simp [hn]))
    have h1 : (UInt8.ofNat a.toNat).toNat = a.toNat := by simp only [UInt8.toNat_ofNat']; exact Nat.mod_eq_of_lt (by omega)
    have h2 : (UInt8.ofNat b.toNat).toNat = b.toNat := by simp only [UInt8.toNat_ofNat']; exact Nat.mod_eq_of_lt (by omega)
    have e1 : decide (UInt8.ofNat a.toNat < UInt8.ofNat b.toNat) = decide (a < b) := by
      rw [Bool.eq_iff_iff]; simp only [decide_eq_true_eq, UInt8.lt_iff_toNat_lt, h1, h2]; omega
    have e2 : (UInt8.ofNat a.toNat == UInt8.ofNat b.toNat) = decide (a = b) := by
      rw [Bool.eq_iff_iff]; simp only [decide_eq_true_eq, beq_iff_eq, ← UInt8.toNat_inj, h1, h2]; omega
    simp only [List.map_cons, Op.bytesLess, lexB, ih, e1, e2]
theorem less_str (l m : List Int) (hl : ∀ n ∈ l, (Lit.int .u8 n).wf = true) (hm : ∀ n ∈ m, (Lit.int .u8 n).wf = true) : Op.bytesLess (strOfNums l).toList (strOfNums m).toList = lexB l m := by
  simp only [ByteArray.toList_eq]
  exact less_nums l m hl hm

theorem form_lex (a b : Int) (ha : validB a = true) (hb : validB b = true) : lexB (formF a) (formF b) = decide (a < b) := by
  have h1 := (validB_iff a).1 ha
  have h2 := (validB_iff b).1 hb
  have f1 : ∀ r, validB r = true → r ≤ 127 → formF r = [r] := fun r hv h => by unfold formF; simp only [if_pos hv]; rw [if_pos (by omega)]
  have f2 : ∀ r, validB r = true → 127 < r → r ≤ 2047 → formF r = [192 + r / 64, 128 + r % 64] := fun r hv h h' => by unfold formF; simp only [if_pos hv]; rw [if_neg (by omega), if_pos (by omega)]
  have f3 : ∀ r, validB r = true → 2047 < r → r ≤ 65535 → formF r = [224 + r / 4096, 128 + r / 64 % 64, 128 + r % 64] := fun r hv h h' => by unfold formF; simp only [if_pos hv]; rw [if_neg (by omega), if_neg (by omega), if_pos (by omega)]
  have f4 : ∀ r, validB r = true → 65535 < r → formF r = [240 + r / 262144, 128 + r / 4096 % 64, 128 + r / 64 % 64, 128 + r % 64] := fun r hv h => by unfold formF; simp only [if_pos hv]; rw [if_neg (by omega), if_neg (by omega), if_neg (by omega)]
  have ca : a ≤ 127 ∨ (127 < a ∧ a ≤ 2047) ∨ (2047 < a ∧ a ≤ 65535) ∨ 65535 < a := by omega
  have cb : b ≤ 127 ∨ (127 < b ∧ b ≤ 2047) ∨ (2047 < b ∧ b ≤ 65535) ∨ 65535 < b := by omega
  rcases ca with ca | ca | ca | ca <;> rcases cb with cb | cb | cb | cb
  all_goals
    first
      | rw [f1 a ha ca]
      | rw [f2 a ha ca.1 ca.2]
      | rw [f3 a ha ca.1 ca.2]
      | rw [f4 a ha ca]
    first
      | rw [f1 b hb cb]
      | rw [f2 b hb cb.1 cb.2]
      | rw [f3 b hb cb.1 cb.2]
      | rw [f4 b hb cb]
    rw [Bool.eq_iff_iff]
    simp only [lexB, Bool.or_eq_true, Bool.and_eq_true, decide_eq_true_eq, Bool.and_false, Bool.or_false]
    try omega
end Go.Proofs.YtphdagmaamcapaaDoor
