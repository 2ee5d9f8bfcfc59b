/-
  No decoder tells nothing: the walk.
-/
import Derived.Test.YtfcjkmiaibakiaaLaw03
namespace Go.Proofs.Ytfcjkmiaibakiaa
open Go.RowKit
set_option linter.unusedVariables false

/-- No decoder takes no byte. -/
theorem Step_nil (b : Int) (w : World) :
    Calls Try.prog 30 #[.pointer none, .int .u8 b] w fun e w' => e = .returned (.slice none 0 0) ∧ w = w' := by
  go_enter Try.func30, Try.ntmps30
  go_wp2
  go_ret
  exact ⟨rfl, rfl⟩
theorem Flush_nil (w : World) :
    Calls Try.prog 32 #[.pointer none] w fun e w' => e = .returned (.slice none 0 0) ∧ w = w' := by
  go_enter Try.func32, Try.ntmps32
  go_wp2_with (refine (Held_nil _).mono ?_; rintro e w' ⟨rfl, rfl⟩)
  go_ret
  exact ⟨rfl, rfl⟩
theorem Feed_nil (So Si : Nat → Prop) (v : Value) (l : List Int) (w : World) (hv : Slc (Rep.int .u8) So Si w v l) :
    Calls Try.prog 34 #[.pointer none, v] w fun e w' => e = .returned (.slice none 0 0) ∧ w = w' := by
  obtain ⟨A, c, rfl, hc1, hc2, hB⟩ := hv.open_
  go_enter Try.func34, Try.ntmps34
  go_wp2
  go_loop [5, 10] (fun out i => ∃ k : Nat, k ≤ l.length ∧ i = .int .i64 k ∧ out = .slice none 0 0) (fun _ i => l.length - (intOf i).toNat)
  case atStart => exact ⟨0, Nat.zero_le _, rfl, rfl⟩
  case round =>
    obtain ⟨k, hk, rfl, rfl⟩ := hrel
    by_cases hlt : k < l.length
    · obtain ⟨ab, off, rfl, _, hck, hwk⟩ := ints_at hB hlt
      go_wp2_with fail
      refine (Step_nil _ _).mono ?_
      rintro e w' ⟨rfl, rfl⟩
      go_wp2
      go_round
      case rel => exact ⟨k + 1, by omega, by go_num, rfl⟩
      case measure => simp [intOf]; omega
    · go_wp2
      go_ret
      exact ⟨rfl, rfl⟩

theorem walk_UtfdecNil (p : Value) (l : List Int) (w : World) (hp : Slc (Rep.int .u8) (fun b => b < w.heap.size) (fun b => b < w.heap.size) w p l) :
    Calls Try.prog 10 #[p] w fun e w' => e = .returned (.bool true) ∧ Below w.heap.size w w' := by
  go_enter Try.func10, Try.ntmps10
  go_wp2_with (first
    | (go_at_call 34; refine (Feed_nil _ _ _ _ _ hp).mono ?_; rintro e w' ⟨rfl, rfl⟩)
    | (go_at_call 30; refine (Step_nil _ _).mono ?_; rintro e w' ⟨rfl, rfl⟩)
    | (go_at_call 32; refine (Flush_nil _).mono ?_; rintro e w' ⟨rfl, rfl⟩)
    | (go_at_call 31; refine (Held_nil _).mono ?_; rintro e w' ⟨rfl, rfl⟩)
    | (go_at_call 27; refine (works03_ok _).mono ?_; rintro e w1 ⟨rfl, hb1⟩))
  go_ret
  exact ⟨rfl, hb1⟩
end Go.Proofs.Ytfcjkmiaibakiaa
