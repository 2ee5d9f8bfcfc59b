/-
  What the functions on where a cursor may be return, the program's and the document's. Each function once.
-/
import Derived.Test.YtphdagmaamcapaaDoorView0
import Derived.Test.YtphdagmaamcapaaDoorSound
import Derived.BigQuiet
import Derived.Deep.RegionHeld3
namespace Go.Proofs.YtphdagmaamcapaaDoor
open Go.RowKit
set_option linter.unusedVariables false
set_option linter.unusedSimpArgs false

theorem side_range (n : Int) : 1 ≤ sideF n ∧ sideF n ≤ 1024 := by unfold sideF; omega
theorem rSide_ok (n : Int) (w : World) :
    Calls Tryd.prog 29 #[.int .i64 n] w fun e w' => e = .returned (.int .i64 (sideF n)) ∧ w = w' := by
  by_cases h1 : n < 1
  · have hs : sideF n = 1 := by unfold sideF; omega
    have HS := hide hs
    clear hs
    go_enter Tryd.func29, Tryd.ntmps29
    go_wp2
    go_ret
    rw [HS.out]
    exact ⟨rfl, rfl⟩
  · by_cases h2 : 1024 < n
    · have hs : sideF n = 1024 := by unfold sideF; omega
      have HS := hide hs
      clear hs
      go_enter Tryd.func29, Tryd.ntmps29
      go_wp2
      go_ret
      rw [HS.out]
      exact ⟨rfl, rfl⟩
    · have hs : sideF n = n := by unfold sideF; omega
      have HS := hide hs
      clear hs
      go_enter Tryd.func29, Tryd.ntmps29
      go_wp2
      go_ret
      rw [HS.out]
      exact ⟨rfl, rfl⟩
theorem cside_ok (n : Int) (w : World) :
    Calls Tryd.prog 64 #[.int .i64 n] w fun e w' => e = .returned (.int .i64 (sideF n)) ∧ w = w' := by
  go_enter Tryd.func64, Tryd.ntmps64
  go_wp2
  all_goals go_ret
  all_goals (refine ⟨ret_1 (int_eq ?_), rfl⟩; unfold sideF; omega)
theorem cheld_ok (n m r : Int) (hm : 1 ≤ m) (hm2 : m ≤ 1024) (hr : r = max 0 (min n (m - 1))) (w : World) :
    Calls Tryd.prog 65 #[.int .i64 n, .int .i64 m] w fun e w' => e = .returned (.int .i64 r) ∧ w = w' := by
  have HR := hide hr
  clear hr
  go_enter Tryd.func65, Tryd.ntmps65
  go_wp2
  all_goals go_ret
  all_goals (refine ⟨ret_1 (int_eq ?_), rfl⟩; have := HR.out; omega)

set_option maxHeartbeats 1000000 in
theorem rRight31_ok (r c : Int) (p : Bool) (wd hi : Int) (w : World) :
    Calls Tryd.prog 19 #[.agg #[.int .i64 r, .int .i64 c, .bool p], .int .i64 wd, .int .i64 hi] w fun e w' => e = .returned (.bool (curRight r c p wd hi)) ∧ Below w.heap.size w w' := by
  have hrh := side_range hi
  have hrw := side_range wd
  have hcr : curRight r c p wd hi = decide (0 ≤ r ∧ r < sideF hi ∧ 0 ≤ c ∧ c < sideF wd ∧ (p = true → c = sideF wd - 1)) := rfl
  generalize curRight r c p wd hi = res at *
  obtain ⟨sh, esh⟩ : ∃ sh, sh = sideF hi := ⟨_, rfl⟩
  obtain ⟨sw, esw⟩ : ∃ sw, sw = sideF wd := ⟨_, rfl⟩
  rw [← esh] at hcr hrh
  rw [← esw] at hcr hrw
  have HSH : Hid (∀ w, Calls Tryd.prog 29 #[.int .i64 hi] w fun e w' => e = .returned (.int .i64 sh) ∧ w' = w) := hide (fun w => by rw [esh]; exact (rSide_ok hi w).mono fun _ _ h => ⟨h.1, h.2.symm⟩)
  have HSW : Hid (∀ w, Calls Tryd.prog 29 #[.int .i64 wd] w fun e w' => e = .returned (.int .i64 sw) ∧ w' = w) := hide (fun w => by rw [esw]; exact (rSide_ok wd w).mono fun _ _ h => ⟨h.1, h.2.symm⟩)
  clear esh esw
  by_cases k0 : 0 ≤ r
  · skip
    by_cases k1 : r < sh
    · skip
      by_cases k2 : 0 ≤ c
      · skip
        by_cases k3 : c < sw
        · skip
          cases p with
          | false =>
            have hr : res = true := by rw [hcr]; simp only [decide_eq_true_eq]; exact ⟨k0, k1, k2, k3, fun e => by cases e⟩
            have HR := hide hr
            clear hr hcr
            go_enter Tryd.func19, Tryd.ntmps19
            go_wp2
            go_quiet (first | (go_at_call_of 29 (Value.int .i64 hi); exact Calls.quiet_of_same (HSH.out _)) | (go_at_call_of 29 (Value.int .i64 wd); exact Calls.quiet_of_same (HSW.out _)))
            go_wp2
            go_ret
            rw [HR.out]
            exact ⟨rfl, below_drewN ((Below.refl _ _).alloc (Nat.le_refl _) _) _⟩
          | true =>
            by_cases k4 : c = sw - 1
            · have hr : res = true := by rw [hcr]; simp only [decide_eq_true_eq]; exact ⟨k0, k1, k2, k3, fun _ => k4⟩
              have k5 : (c == sw - 1) = true := by simp [k4]
              have HR := hide hr
              clear hr hcr k4
              go_enter Tryd.func19, Tryd.ntmps19
              go_wp2
              go_quiet (first | (go_at_call_of 29 (Value.int .i64 hi); exact Calls.quiet_of_same (HSH.out _)) | (go_at_call_of 29 (Value.int .i64 wd); exact Calls.quiet_of_same (HSW.out _)))
              go_wp2
              go_ret
              rw [HR.out]
              exact ⟨rfl, below_drewN ((Below.refl _ _).alloc (Nat.le_refl _) _) _⟩
            · have hr : res = false := by rw [hcr]; simp only [decide_eq_false_iff_not]; exact fun h => k4 (h.2.2.2.2 (by simp))
              have k5 : (c == sw - 1) = false := by simp [k4]
              have HR := hide hr
              clear hr hcr k4
              go_enter Tryd.func19, Tryd.ntmps19
              go_wp2
              go_quiet (first | (go_at_call_of 29 (Value.int .i64 hi); exact Calls.quiet_of_same (HSH.out _)) | (go_at_call_of 29 (Value.int .i64 wd); exact Calls.quiet_of_same (HSW.out _)))
              go_wp2
              go_ret
              rw [HR.out]
              exact ⟨rfl, below_drewN ((Below.refl _ _).alloc (Nat.le_refl _) _) _⟩
        · have hd : decide (c < sw) = false := decide_eq_false k3
          have hr : res = false := by rw [hcr]; simp only [decide_eq_false_iff_not]; exact fun h => k3 h.2.2.2.1
          have HR := hide hr
          clear hr hcr k3
          go_enter Tryd.func19, Tryd.ntmps19
          go_wp2
          go_quiet (first | (go_at_call_of 29 (Value.int .i64 hi); exact Calls.quiet_of_same (HSH.out _)) | (go_at_call_of 29 (Value.int .i64 wd); exact Calls.quiet_of_same (HSW.out _)))
          go_wp2
          go_ret
          rw [HR.out]
          exact ⟨rfl, below_drewN ((Below.refl _ _).alloc (Nat.le_refl _) _) _⟩
      · have hd : decide (0 ≤ c) = false := decide_eq_false k2
        have hr : res = false := by rw [hcr]; simp only [decide_eq_false_iff_not]; exact fun h => k2 h.2.2.1
        have HR := hide hr
        clear hr hcr k2
        go_enter Tryd.func19, Tryd.ntmps19
        go_wp2
        go_quiet (first | (go_at_call_of 29 (Value.int .i64 hi); exact Calls.quiet_of_same (HSH.out _)) | (go_at_call_of 29 (Value.int .i64 wd); exact Calls.quiet_of_same (HSW.out _)))
        go_wp2
        go_ret
        rw [HR.out]
        exact ⟨rfl, below_drewN ((Below.refl _ _).alloc (Nat.le_refl _) _) _⟩
    · have hd : decide (r < sh) = false := decide_eq_false k1
      have hr : res = false := by rw [hcr]; simp only [decide_eq_false_iff_not]; exact fun h => k1 h.2.1
      have HR := hide hr
      clear hr hcr k1
      go_enter Tryd.func19, Tryd.ntmps19
      go_wp2
      go_quiet (first | (go_at_call_of 29 (Value.int .i64 hi); exact Calls.quiet_of_same (HSH.out _)) | (go_at_call_of 29 (Value.int .i64 wd); exact Calls.quiet_of_same (HSW.out _)))
      go_wp2
      go_ret
      rw [HR.out]
      exact ⟨rfl, below_drewN ((Below.refl _ _).alloc (Nat.le_refl _) _) _⟩
  · have hd : decide (0 ≤ r) = false := decide_eq_false k0
    have hr : res = false := by rw [hcr]; simp only [decide_eq_false_iff_not]; exact fun h => k0 h.1
    have HR := hide hr
    clear hr hcr k0
    go_enter Tryd.func19, Tryd.ntmps19
    go_wp2
    go_quiet (first | (go_at_call_of 29 (Value.int .i64 hi); exact Calls.quiet_of_same (HSH.out _)) | (go_at_call_of 29 (Value.int .i64 wd); exact Calls.quiet_of_same (HSW.out _)))
    go_wp2
    go_ret
    rw [HR.out]
    exact ⟨rfl, below_drewN ((Below.refl _ _).alloc (Nat.le_refl _) _) _⟩
end Go.Proofs.YtphdagmaamcapaaDoor
