/-
  What the functions on one item, and on how wide items are, return. Each function once.
-/
import Derived.Test.YtbkenfljknpjgaaDoorTxt2
import Derived.Test.YtbkenfljknpjgaaDoorItm0
import Derived.Test.YtbkenfljknpjgaaDoorCell1
namespace Go.Proofs.YtbkenfljknpjgaaDoor
open Go.RowKit
set_option linter.unusedVariables false
set_option linter.unusedSimpArgs false

theorem IRight_ok (So Si : Nat → Prop) (k : Int) (v : Value) (t : List Int) (w : World) (hk : (Lit.int .i64 k).wf = true) (hv : Slc (Rep.int .i32) So Si w v t) :
    Calls Tryd.prog 49 #[.agg #[.int .i64 k, v]] w fun e w' => e = .returned (.bool (rightI (k, t))) ∧ Below w.heap.size w w' := by
  obtain ⟨A, c, rfl, hc1, hc2, hB⟩ := hv.open_
  have hva := hv.ints_keep (Keep.alloc So w (.cells #[.int .i64 k, .slice A t.length c] 50))
  have hb1 := (Below.refl w.heap.size w).alloc (Nat.le_refl _) (.cells #[.int .i64 k, .slice A t.length c] 50)
  have hz1 := hb1.size
  by_cases ht : t.length = 0
  · have h1 : ((t.length : Int) == 0) = true := by simp [ht]
    have hr : rightI (k, t) = (k == 1) := by unfold rightI; rw [if_pos ht]; rw [Bool.eq_iff_iff]; simp
    have HR := hide hr
    clear hr
    go_enter Tryd.func49, Tryd.ntmps49
    go_wp2
    go_ret
    rw [HR.out]
    exact ⟨rfl, (Below.refl _ _).alloc (Nat.le_refl _) _⟩
  · have h1 : ((t.length : Int) == 0) = false := by rw [beq_eq_false_iff_ne]; omega
    have hr : rightI (k, t) = ((decide (k = 1) || decide (k = 2)) && rightB (1, t)) := by unfold rightI; rw [if_neg ht]
    by_cases hk1 : k = 1
    · subst hk1
      have hr : rightI (1, t) = rightB (1, t) := by rw [hr]; rfl
      have HR := hide hr
      clear hr
      go_enter Tryd.func49, Tryd.ntmps49
      go_wp2_with fail
      refine (Right_ok _ _ 1 _ t _ (by decide) hva).mono ?_
      rintro e w2 ⟨rfl, hb2⟩
      go_wp2
      go_ret
      rw [HR.out]
      exact ⟨rfl, hb1.trans (hb2.mono hz1)⟩
    · have h2 : (k != 1) = true := by simp [hk1]
      by_cases hk2 : k = 2
      · subst hk2
        have hr : rightI (2, t) = rightB (1, t) := by rw [hr]; rfl
        have HR := hide hr
        clear hr hk1
        go_enter Tryd.func49, Tryd.ntmps49
        go_wp2_with fail
        refine (Right_ok _ _ 1 _ t _ (by decide) hva).mono ?_
        rintro e w2 ⟨rfl, hb2⟩
        go_wp2
        go_ret
        rw [HR.out]
        exact ⟨rfl, hb1.trans (hb2.mono hz1)⟩
      · have h3 : (k != 2) = true := by simp [hk2]
        have hr : rightI (k, t) = false := by rw [hr, decide_eq_false hk1, decide_eq_false hk2]; rfl
        have HR := hide hr
        clear hr hk1 hk2
        go_enter Tryd.func49, Tryd.ntmps49
        go_wp2
        go_ret
        rw [HR.out]
        exact ⟨rfl, hb1⟩

theorem rIRight_ok (So Si : Nat → Prop) (k : Int) (v : Value) (t : List Int) (w : World) (hk : (Lit.int .i64 k).wf = true) (hv : Slc (Rep.int .i32) So Si w v t) :
    Calls Tryd.prog 22 #[.agg #[.int .i64 k, v]] w fun e w' => e = .returned (.bool (rightI (k, t))) ∧ Below w.heap.size w w' := by
  obtain ⟨A, c, rfl, hc1, hc2, hB⟩ := hv.open_
  have hva := hv.ints_keep (Keep.alloc So w (.cells #[.int .i64 k, .slice A t.length c] 50))
  have hb1 := (Below.refl w.heap.size w).alloc (Nat.le_refl _) (.cells #[.int .i64 k, .slice A t.length c] 50)
  have hz1 := hb1.size
  by_cases ht : t.length = 0
  · have h1 : ((t.length : Int) == 0) = true := by simp [ht]
    have hr : rightI (k, t) = (k == 1) := by unfold rightI; rw [if_pos ht]; rw [Bool.eq_iff_iff]; simp
    have HR := hide hr
    clear hr
    go_enter Tryd.func22, Tryd.ntmps22
    go_wp2
    go_ret
    rw [HR.out]
    exact ⟨rfl, (Below.refl _ _).alloc (Nat.le_refl _) _⟩
  · have h1 : ((t.length : Int) == 0) = false := by rw [beq_eq_false_iff_ne]; omega
    have hr : rightI (k, t) = ((decide (k = 1) || decide (k = 2)) && rightB (1, t)) := by unfold rightI; rw [if_neg ht]
    by_cases hk1 : k = 1
    · subst hk1
      have hr : rightI (1, t) = rightB (1, t) := by rw [hr]; rfl
      have HR := hide hr
      clear hr
      go_enter Tryd.func22, Tryd.ntmps22
      go_wp2_with fail
      refine (rRight_ok _ _ 1 _ t _ (by decide) hva).mono ?_
      rintro e w2 ⟨rfl, hb2⟩
      go_wp2
      go_ret
      rw [HR.out]
      exact ⟨rfl, hb1.trans (hb2.mono hz1)⟩
    · have h2 : (k == 1) = false := by simp [hk1]
      by_cases hk2 : k = 2
      · subst hk2
        have hr : rightI (2, t) = rightB (1, t) := by rw [hr]; rfl
        have HR := hide hr
        clear hr hk1
        go_enter Tryd.func22, Tryd.ntmps22
        go_wp2_with fail
        refine (rRight_ok _ _ 1 _ t _ (by decide) hva).mono ?_
        rintro e w2 ⟨rfl, hb2⟩
        go_wp2
        go_ret
        rw [HR.out]
        exact ⟨rfl, hb1.trans (hb2.mono hz1)⟩
      · have h3 : (k == 2) = false := by simp [hk2]
        have hr : rightI (k, t) = false := by rw [hr, decide_eq_false hk1, decide_eq_false hk2]; rfl
        have HR := hide hr
        clear hr hk1 hk2
        go_enter Tryd.func22, Tryd.ntmps22
        go_wp2
        go_ret
        rw [HR.out]
        exact ⟨rfl, hb1⟩

theorem i64_info : (Tryd.prog.info? 3).map (fun i => (i.zero, i.size, i.bytes)) = some (some (.int .i64 0), 1, 8) := by kernel_rfl
theorem wf64 (n : Int) (h0 : -9223372036854775808 ≤ n) (h1 : n ≤ 9223372036854775807) : (Lit.int .i64 n).wf = true := by
  simp only [Lit.wf, Bool.and_eq_true]
  exact ⟨decide_eq_true h0, decide_eq_true h1⟩
theorem own_i64 (w : World) (l : List Int) (h : ∀ n ∈ l, (Lit.int .i64 n).wf = true) (base m n : Nat) (hb : base ≤ m) (hm : m = w.heap.size) (hn : l.length = n) (hx : n ≤ maxLen) : Own (Rep.int .i64) 3 [] base (w.alloc (.cells (l.map (Value.int .i64)).toArray 3)) (.slice (some ⟨m, 0, none⟩) n n) l := by
  subst hm; exact Own.lit (by simp) (els_ints .i64 _ w l h) hb hn hx
/-- Where items begin. -/
def colsI (x : List ItemV) : List Int := (List.range x.length).map fun k => (wideI (x.take k) : Int)
theorem cols_take (x : List ItemV) (k : Nat) (h : k < x.length) : (List.range (k + 1)).map (fun k => (wideI (x.take k) : Int)) = (List.range k).map (fun k => (wideI (x.take k) : Int)) ++ [(wideI (x.take k) : Int)] := by
  rw [List.range_succ, List.map_append]; rfl

end Go.Proofs.YtbkenfljknpjgaaDoor
