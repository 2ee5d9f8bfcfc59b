/-
  What the document's functions on a strip's cells return, and the program's: whether each may be, the strip is sound, two strips are the same. Each function once.
-/
import Derived.Test.YtphdagmaamcapaaDoorCell0
namespace Go.Proofs.YtphdagmaamcapaaDoor
open Go.RowKit
set_option linter.unusedVariables false
set_option linter.unusedSimpArgs false

set_option maxHeartbeats 1000000 in
theorem rRight_ok (So Si : Nat → Prop) (k : Int) (v : Value) (t : List Int) (w : World) (hk : (Lit.int .i64 k).wf = true) (hv : Slc (Rep.int .i32) So Si w v t) :
    Calls Tryd.prog 30 #[.agg #[.int .i64 k, v]] w fun e w' => e = .returned (.bool (rightB (k, t))) ∧ Below w.heap.size w w' := by
  obtain ⟨A, c, rfl, hc1, hc2, hB⟩ := hv.open_
  have hBa := hB.ints_keep (Keep.alloc So w (.cells #[.int .i64 k, .slice A t.length c] 62))
  rcases right_cases (k, t) with h | h | ⟨h1, h2, h3, h4⟩
  · have hr : rightB (k, t) = decide (t.length = 0) := by unfold rightB; rw [if_pos h]
    have HR := hide hr
    simp only at h
    rcases h with rfl | rfl
    all_goals
      clear hr hBa hv hB
      go_enter Tryd.func30, Tryd.ntmps30
      go_wp2
      go_ret
      exact ⟨ret_1 (bool_eq (by rw [HR.out, Bool.eq_iff_iff]; simp)), (Below.refl _ _).alloc (Nat.le_refl _) _⟩
  · have hr : rightB (k, t) = (decide (0 < t.length ∧ t.length ≤ 16) && t.all validB) := by unfold rightB; rw [if_neg (by simp only at h ⊢; omega), if_pos h]
    simp only at h
    by_cases ht : 0 < t.length ∧ t.length ≤ 16
    · rw [decide_eq_true ht, Bool.true_and] at hr
      have HR := hide hr
      have t1 : ¬ (t.length : Int) < 1 := by omega
      have t2 : ¬ (16 : Int) < t.length := by omega
      clear hr hv hB
      rcases h with rfl | rfl
      all_goals
        go_enter Tryd.func30, Tryd.ntmps30
        go_wp2
        go_loop [3] (fun i => ∃ j : Nat, j ≤ t.length ∧ i = .int .i64 j ∧ (∀ r ∈ t.take j, validB r = true)) (fun i => t.length - (intOf i).toNat)
        case atStart => exact ⟨0, Nat.zero_le _, rfl, by simp⟩
        case round =>
          obtain ⟨j, hj, rfl, hall⟩ := hrel
          have HALL := hide hall
          clear hall
          by_cases hlt : j < t.length
          · obtain ⟨ab, off, rfl, _, hck, hwk⟩ := ints_at hBa hlt
            obtain ⟨hw0, hw1⟩ := i32_wf hwk
            have hR := fun w => rValid_ok t[j] hw0 hw1 w
            have hvs : validB t[j] = true → ∀ r ∈ t.take (j + 1), validB r = true := by
              intro h r hr
              rw [take_snoc' t j hlt] at hr
              rcases List.mem_append.1 hr with hr | hr
              · exact HALL.out r hr
              · simp at hr; subst hr; exact h
            have hin : validB t[j] = false → t.all validB = false := fun h => by
              rw [List.all_eq_false]; exact ⟨_, List.getElem_mem hlt, by simp [h]⟩
            rcases Bool.eq_false_or_eq_true (validB t[j]) with hv | hv
            · have hvv := hvs hv
              have HVV := hide hvv
              rw [hv] at hR
              have HR := hide hR
              clear hvs hin hvv hR hv
              go_wp2_with (go_at_call 42; refine (HR.out _).mono ?_; rintro e w' ⟨rfl, rfl⟩)
              go_round
              case rel => exact ⟨j + 1, by omega, by go_num, HVV.out⟩
              case measure => simp [intOf]; omega
            · have hvv := hin hv
              have HVV := hide hvv
              rw [hv] at hR
              have HRR := hide hR
              clear hvs hin hvv hR hv
              go_wp2_with (go_at_call 42; refine (HRR.out _).mono ?_; rintro e w' ⟨rfl, rfl⟩)
              go_ret
              exact ⟨ret_1 (bool_eq (by rw [HR.out, HVV.out])), (Below.refl _ _).alloc (Nat.le_refl _) _⟩
          · have e : t.take j = t := List.take_of_length_le (by omega)
            have hall := HALL.out
            rw [e] at hall
            have hv : t.all validB = true := by rw [List.all_eq_true]; exact hall
            have HV := hide hv
            clear e hall hv
            go_wp2
            go_ret
            exact ⟨ret_1 (bool_eq (by rw [HR.out, HV.out])), (Below.refl _ _).alloc (Nat.le_refl _) _⟩
    · rw [decide_eq_false ht, Bool.false_and] at hr
      have HR := hide hr
      clear hr hv hB hBa
      have ht' : t.length = 0 ∨ 16 < t.length := by omega
      rcases ht' with h0 | h0
      · have t1 : (t.length : Int) < 1 := by omega
        clear h0 ht
        rcases h with rfl | rfl
        all_goals
          go_enter Tryd.func30, Tryd.ntmps30
          go_wp2
          go_ret
          exact ⟨ret_1 (bool_eq (by rw [HR.out])), (Below.refl _ _).alloc (Nat.le_refl _) _⟩
      · have t1 : ¬ (t.length : Int) < 1 := by omega
        have t2 : (16 : Int) < t.length := by omega
        clear h0 ht
        rcases h with rfl | rfl
        all_goals
          go_enter Tryd.func30, Tryd.ntmps30
          go_wp2
          go_ret
          exact ⟨ret_1 (bool_eq (by rw [HR.out])), (Below.refl _ _).alloc (Nat.le_refl _) _⟩
  · have hr : rightB (k, t) = false := by unfold rightB; rw [if_neg (by simp only at *; omega), if_neg (by simp only at *; omega)]
    simp only at h1 h2 h3 h4
    have HR := hide hr
    clear hr hv hB hBa
    have b1 : (k == 0) = false := by simpa using h1
    have b2 : (k == 3) = false := by simpa using h2
    have b3 : (k != 1) = true := by simpa using h3
    have b4 : (k != 2) = true := by simpa using h4
    go_enter Tryd.func30, Tryd.ntmps30
    go_wp2
    go_ret
    exact ⟨ret_1 (bool_eq (by rw [HR.out])), (Below.refl _ _).alloc (Nat.le_refl _) _⟩

/-- The kind at a place; 0 outside. -/
def kindI (l : List CellV) (i : Int) : Int := if 0 ≤ i then ((l[i.toNat]?).map Prod.fst).getD 0 else 0

theorem Kind_ok (So Si : Nat → Prop) (x : Value) (l : List CellV) (i : Int) (w : World) (hx : Slc RCell So Si w x l) (h0 : -1 ≤ i) (h1 : i ≤ l.length) :
    Calls Tryd.prog 31 #[x, .int .i64 i] w fun e w' => e = .returned (.int .i64 (kindI l i)) ∧ w = w' := by
  obtain ⟨A, c, rfl, hc1, hc2, hB⟩ := hx.open_
  by_cases hi : i < 0
  · have hk : kindI l i = 0 := by unfold kindI; rw [if_neg (by omega)]
    rw [hk]
    clear hk
    go_enter Tryd.func31, Tryd.ntmps31
    go_wp2
    go_ret
    exact ⟨rfl, rfl⟩
  · obtain ⟨k, rfl⟩ := Int.eq_ofNat_of_zero_le (Int.not_lt.1 hi)
    by_cases hlt : k < l.length
    · obtain ⟨b, off, v, rfl, _, q0, q1, hw, hv⟩ := cell_at hB hlt
      have hk : kindI l k = l[k].1 := by unfold kindI; rw [if_pos (by omega)]; simp [hlt]
      have HK := hide hk
      have hl2 : (k : Int) < l.length := by omega
      clear hk hi
      go_enter Tryd.func31, Tryd.ntmps31
      go_wp2
      go_ret
      exact ⟨ret_1 (int_eq HK.out.symm), rfl⟩
    · have hk : kindI l k = 0 := by unfold kindI; rw [if_pos (by omega)]; simp [hlt]
      have HK := hide hk
      have hl2 : (l.length : Int) ≤ k := by omega
      clear hk hi
      go_enter Tryd.func31, Tryd.ntmps31
      go_wp2
      go_ret
      exact ⟨ret_1 (int_eq HK.out.symm), rfl⟩
end Go.Proofs.YtphdagmaamcapaaDoor
