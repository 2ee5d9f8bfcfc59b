/-
  What the functions of the layers 1 and 2 (scalar values, bytes of forms) and their references return: each function once.
-/
import Derived.Test.YtfcjkmiaibakiaaChecked
import Derived.Test.YtfcjkmiaibakiaaMem
import Derived.Test.YtfcjkmiaibakiaaUtf0
namespace Go.Proofs.Ytfcjkmiaibakiaa
open Go.RowKit
set_option linter.unusedVariables false

theorem Lead_ok (b : Int) (h0 : 0 ≤ b) (h1 : b ≤ 255) (w : World) :
    Calls Try.prog 16 #[.int .u8 b] w fun e w' => e = .returned (.int .i64 (leadF b)) ∧ w = w' := by
  go_enter Try.func16, Try.ntmps16
  go_wp2
  all_goals go_ret
  all_goals exact ⟨ret_1 (int_eq (by unfold leadF; omega)), rfl⟩

theorem rLead_ok (b : Int) (h0 : 0 ≤ b) (h1 : b ≤ 255) (w : World) :
    Calls Try.prog 17 #[.int .u8 b] w fun e w' => e = .returned (.int .i64 (leadF b)) ∧ w = w' := by
  go_enter Try.func17, Try.ntmps17
  go_wp2
  all_goals go_ret
  all_goals exact ⟨ret_1 (int_eq (by unfold leadF; omega)), rfl⟩

theorem Second_ok (b : Int) (h0 : 0 ≤ b) (h1 : b ≤ 255) (w : World) :
    Calls Try.prog 14 #[.int .u8 b] w fun e w' => e = .returned (.tuple #[.int .u8 (loF b), .int .u8 (hiF b)]) ∧ w = w' := by
  have hl := leadF_range b
  go_enter Try.func14, Try.ntmps14
  go_wp2_with (refine (Lead_ok _ (by omega) (by omega) _).mono ?_; rintro e w' ⟨rfl, rfl⟩)
  all_goals go_ret2
  all_goals (refine ⟨ret_2 (int_eq ?_) (int_eq ?_), rfl⟩ <;> (go_tidy; (try simp only [beq_iff_eq, beq_eq_false_iff_ne, ne_eq] at *); simp only [loF, hiF]; omega))

theorem rSecond_ok (b : Int) (h0 : 0 ≤ b) (h1 : b ≤ 255) (w : World) :
    Calls Try.prog 15 #[.int .u8 b] w fun e w' => e = .returned (.tuple #[.int .u8 (loF b), .int .u8 (hiF b)]) ∧ w = w' := by
  have hl := leadF_range b
  go_enter Try.func15, Try.ntmps15
  go_wp2_with (refine (rLead_ok _ (by omega) (by omega) _).mono ?_; rintro e w' ⟨rfl, rfl⟩)
  all_goals go_ret2
  all_goals (refine ⟨ret_2 (int_eq ?_) (int_eq ?_), rfl⟩ <;> (go_tidy; (try simp only [beq_iff_eq, beq_eq_false_iff_ne, ne_eq] at *); simp only [loF, hiF]; omega))

theorem Tail_ok (b : Int) (h0 : 0 ≤ b) (h1 : b ≤ 255) (w : World) :
    Calls Try.prog 18 #[.int .u8 b] w fun e w' => e = .returned (.bool (tailB b)) ∧ w = w' := by
  go_enter Try.func18, Try.ntmps18
  go_wp2
  all_goals go_ret
  all_goals (refine ⟨ret_1 (bool_eq ?_), rfl⟩; go_tidy; unfold tailB; simp_all; try omega)

theorem Bits_ok (b : Int) (h0 : 0 ≤ b) (h1 : b ≤ 255) (w : World) :
    Calls Try.prog 19 #[.int .u8 b] w fun e w' => e = .returned (.int .i64 (bitsF b)) ∧ w = w' := by
  have hl := leadF_range b
  have hL := Lead_ok b h0 h1 w
  have m2 := i64_mask b 5 h0 (by omega) (by omega) 31 (by simp)
  have m3 := i64_mask b 4 h0 (by omega) (by omega) 15 (by simp)
  have m4 := i64_mask b 3 h0 (by omega) (by omega) 7 (by simp)
  simp at m2 m3 m4
  have hc : leadF b = 0 ∨ leadF b = 1 ∨ leadF b = 2 ∨ leadF b = 3 ∨ leadF b = 4 := by omega
  rcases hc with h | h | h | h | h
  all_goals
    rw [h] at hL
    have H := hide h
    have HL := hide hL
    clear h hL hl
    go_enter Try.func19, Try.ntmps19
    go_wp2_with (refine HL.out.mono ?_; rintro e w' ⟨rfl, rfl⟩)
    go_ret
    refine ⟨ret_1 (int_eq ?_), rfl⟩
    go_tidy
    unfold bitsF
    rw [H.out]
    simp

theorem rBits_ok (b : Int) (h0 : 0 ≤ b) (h1 : b ≤ 255) (w : World) :
    Calls Try.prog 20 #[.int .u8 b] w fun e w' => e = .returned (.int .i64 (bitsF b)) ∧ Below w.heap.size w w' := by
  have hl := leadF_range b
  have hL := fun w => rLead_ok b h0 h1 w
  have hc : leadF b = 0 ∨ leadF b = 1 ∨ leadF b = 2 ∨ leadF b = 3 ∨ leadF b = 4 := by omega
  have hb1 : leadF b = 0 → b % 1 = 0 := by omega
  have hb2 : leadF b = 1 → b % 256 = b := by omega
  rcases hc with h | h | h | h | h
  all_goals
    rw [h] at hL hb1 hb2
    have H := hide h
    have HL := hide hL
    have HB := hide (And.intro hb1 hb2)
    clear h hL hl hb1 hb2
    go_enter Try.func20, Try.ntmps20
    go_wp2_with (refine (HL.out _).mono ?_; rintro e w' ⟨rfl, rfl⟩)
    go_ret
    refine ⟨ret_1 (int_eq ?_), (Below.refl _ _).alloc (Nat.le_refl _) _⟩
    go_tidy
    have HB := HB.out
    unfold bitsF
    rw [H.out]
    simp
    try omega
end Go.Proofs.Ytfcjkmiaibakiaa
