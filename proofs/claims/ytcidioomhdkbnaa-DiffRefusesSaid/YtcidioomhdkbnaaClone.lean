/-
  What the library's function that copies a list of numbers returns.
-/
import Derived.Test.YtcidioomhdkbnaaCell0
import Derived.Test.YtcidioomhdkbnaaFit0
import Derived.Lib.SliceRun
namespace Go.Proofs.Ytcidioomhdkbnaa
open Go.RowKit
set_option linter.unusedVariables false
set_option linter.unusedSimpArgs false

theorem Clone_ok (So Si : Nat → Prop) (x : Value) (t : List Int) (w : World) (hx : Slc (Rep.int .i32) So Si w x t) (hlen : t.length * 4 ≤ 140737488355328) :
    Calls Try.prog 33 #[x] w fun e w' => ∃ v, e = .returned v ∧ Own (Rep.int .i32) 21 [] w.heap.size w' v t ∧ Below w.heap.size w w' := by
  obtain ⟨A, c, rfl, hc1, hc2, hB⟩ := hx.open_
  cases A with
  | none =>
    have ht : t = [] := by
      apply Classical.byContradiction
      intro h
      have : 0 < t.length := by cases t <;> simp at *
      obtain ⟨_, _, h', _⟩ := ints_at hB this
      cases h'
    have HT := hide ht
    have hnil := fun w => Lib.run_eql_slice_nil (P := Try.prog) w 48 21 none t.length c 0 0 Try.underlying48
    simp only [Option.isNone_none] at hnil
    clear hB ht
    go_enter Try.func33, Try.ntmps33
    set_option maxRecDepth 100000 in go_wp2
    go_ret
    rw [HT.out]
    exact ⟨_, rfl, Own.nil_ _ _ _ _ _ (by simp), Below.refl _ _⟩
  | some a =>
    have hown0 : Own (Rep.int .i32) 21 [] w.heap.size (w.alloc (.cells #[] 21)) (.slice (some ⟨w.heap.size, 0, none⟩) 0 0) [] := own_i32 w [] (by simp) w.heap.size w.heap.size 0 (Nat.le_refl _) rfl rfl (by simp [maxLen])
    have hx1 := hx.ints_keep (Keep.alloc So w (.cells #[] 21))
    have hnil := fun w => Lib.run_eql_slice_nil (P := Try.prog) w 48 21 (some a) t.length c 0 0 Try.underlying48
    simp only [Option.isNone_some] at hnil
    have HLEN := hide hlen
    clear hlen
    go_enter Try.func33, Try.ntmps33
    set_option maxRecDepth 100000 in go_wp2_with (at_builtin; refine wpList_appi rfl (.tmp 5) (.tmp 6) 48 rfl .i32 21 w.heap.size 4 Try.underlying48 i32_info (by decide) _ _ rfl hown0 _ _ _ _ rfl hx1 (by simpa using HLEN.out) (by simp) ?_; intro v2 w2 hv2 hst2; rw [List.nil_append] at hv2)
    go_ret
    exact ⟨_, rfl, hv2, ((Below.refl _ w).alloc (Nat.le_refl _) _).trans (hst2.below (by simp))⟩
end Go.Proofs.Ytcidioomhdkbnaa
