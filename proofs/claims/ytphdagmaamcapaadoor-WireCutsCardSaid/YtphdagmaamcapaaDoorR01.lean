/-
  What the functions of the reference of layer 1 return (scalar values, forms, comparisons of lists): each function once.
-/
import Derived.Test.YtphdagmaamcapaaDoorChecked
import Derived.Test.YtphdagmaamcapaaDoorMem
import Derived.Test.YtphdagmaamcapaaDoorUtf0
namespace Go.Proofs.YtphdagmaamcapaaDoor
open Go.RowKit
set_option linter.unusedVariables false

theorem u8_info : (Tryd.prog.info? 5).map (fun i => (i.zero, i.size, i.bytes)) = some (some (.int .u8 0), 1, 1) := by kernel_rfl
theorem i32_info : (Tryd.prog.info? 21).map (fun i => (i.zero, i.size, i.bytes)) = some (some (.int .i32 0), 1, 4) := by kernel_rfl

theorem rValid_ok (r : Int) (h0 : -2147483648 ≤ r) (h1 : r ≤ 2147483647) (w : World) :
    Calls Tryd.prog 42 #[.int .i32 r] w fun e w' => e = .returned (.bool (validB r)) ∧ w = w' := by
  go_enter Tryd.func42, Tryd.ntmps42
  go_wp2
  all_goals go_ret
  all_goals (refine ⟨ret_1 (bool_eq ?_), rfl⟩; go_tidy; unfold validB; simp_all; try omega)

theorem rSize_ok (r : Int) (h0 : -2147483648 ≤ r) (h1 : r ≤ 2147483647) (w : World) :
    Calls Tryd.prog 55 #[.int .i32 r] w fun e w' => e = .returned (.int .i64 (sizeF r)) ∧ w = w' := by
  go_enter Tryd.func55, Tryd.ntmps55
  go_wp2_with (refine (rValid_ok _ (by omega) (by omega) _).mono ?_; rintro e w' ⟨rfl, rfl⟩)
  all_goals go_ret
  all_goals (refine ⟨ret_1 (int_eq ?_), rfl⟩; go_tidy; unfold sizeF; simp_all; try omega)

theorem rForm_ok (r : Int) (h0 : -2147483648 ≤ r) (h1 : r ≤ 2147483647) (w : World) :
    Calls Tryd.prog 47 #[.int .i32 r] w fun e w' =>
      ∃ v, e = .returned v ∧ Own (Rep.int .u8) 5 [] w.heap.size w' v (formF r) ∧ Below w.heap.size w w' := by
  have hS := rSize_ok r h0 h1 w
  by_cases hv : validB r = true
  · have h := (validB_iff r).1 hv
    have hc : r ≤ 127 ∨ (127 < r ∧ r ≤ 2047) ∨ (2047 < r ∧ r ≤ 65535) ∨ 65535 < r := by omega
    have ow : ∀ (l : List Int) (n : Nat), (∀ m ∈ l, 0 ≤ m ∧ m ≤ 255) → l.length = n → n ≤ 4 → Own (Rep.int .u8) 5 [] w.heap.size (w.alloc (.cells (l.map (Value.int .u8)).toArray 5)) (.slice (some ⟨w.heap.size, 0, none⟩) n n) l :=
      fun l n hl hn h4 => Own.lit (by simp) (els_ints _ _ _ _ fun m hm => wf_u8 (hl m hm).1 (hl m hm).2) (Nat.le_refl _) hn (by simp only [maxLen]; omega)
    have hr0 : 0 ≤ r := by omega
    have hr1 : r ≤ 1114111 := by omega
    rcases hc with hc | hc | hc | hc
    all_goals
      first
        | have hz : sizeF r = 1 := by unfold sizeF; rw [if_pos hv]; omega
        | have hz : sizeF r = 2 := by unfold sizeF; rw [if_pos hv]; omega
        | have hz : sizeF r = 3 := by unfold sizeF; rw [if_pos hv]; omega
        | have hz : sizeF r = 4 := by unfold sizeF; rw [if_pos hv]; omega
      first
        | have hf : formF r = [r] := by unfold formF; simp only [if_pos hv]; rw [if_pos (by omega)]
        | have hf : formF r = [192 + r / 64, 128 + r % 64] := by unfold formF; simp only [if_pos hv]; rw [if_neg (by omega), if_pos (by omega)]
        | have hf : formF r = [224 + r / 4096, 128 + r / 64 % 64, 128 + r % 64] := by unfold formF; simp only [if_pos hv]; rw [if_neg (by omega), if_neg (by omega), if_pos (by omega)]
        | have hf : formF r = [240 + r / 262144, 128 + r / 4096 % 64, 128 + r / 64 % 64, 128 + r % 64] := by unfold formF; simp only [if_pos hv]; rw [if_neg (by omega), if_neg (by omega), if_neg (by omega)]
      have hfb := formF_bytes r
      rw [hz] at hS
      rw [hf] at hfb
      have HF := hide hf
      have HS := hide hS
      have HO := hide (ow _ _ hfb rfl (by simp))
      clear hS hf hfb ow hz hv
      go_enter Tryd.func47, Tryd.ntmps47
      go_wp2_with (refine HS.out.mono ?_; rintro e w' ⟨rfl, rfl⟩)
      go_ret
      refine ⟨_, rfl, ?_, (Below.refl _ _).alloc (Nat.le_refl _) _⟩
      rw [HF.out]
      exact HO.out
  · have hz : sizeF r = 0 := by unfold sizeF; rw [if_neg hv]
    have hf : formF r = [] := by unfold formF; rw [if_neg hv]
    rw [hz] at hS
    have HF := hide hf
    have HS := hide hS
    clear hS hf hz hv
    go_enter Tryd.func47, Tryd.ntmps47
    go_wp2_with (refine HS.out.mono ?_; rintro e w' ⟨rfl, rfl⟩)
    go_ret
    refine ⟨_, rfl, ?_, Below.refl _ _⟩
    rw [HF.out]
    exact Own.nil_ _ _ _ _ _ (by simp)

theorem rBytes_ok (So Si To Ti : Nat → Prop) (x y : Value) (l m : List Int) (w : World) (hx : Slc (Rep.int .u8) So Si w x l) (hy : Slc (Rep.int .u8) To Ti w y m) :
    Calls Tryd.prog 12 #[x, y] w fun e w' => e = .returned (.bool (decide (l = m))) ∧ w = w' := by
  have h1 := run_str (P := Tryd.prog) hx 29 9 5 Tryd.underlying29 Tryd.underlying5 Tryd.underlying9
  have h2 := run_str (P := Tryd.prog) hy 29 9 5 Tryd.underlying29 Tryd.underlying5 Tryd.underlying9
  have h3 := strOfNums_inj hx.ints_wf hy.ints_wf
  have H3 := hide h3
  clear h3
  go_enter Tryd.func12, Tryd.ntmps12
  go_wp2
  go_ret
  refine ⟨ret_1 (bool_eq ?_), rfl⟩
  exact H3.out
end Go.Proofs.YtphdagmaamcapaaDoor
