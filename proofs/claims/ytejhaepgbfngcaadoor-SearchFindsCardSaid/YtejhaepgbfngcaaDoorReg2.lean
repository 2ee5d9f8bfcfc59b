/-
  Places on a view: what the functions that hold them within it return. Each function once.
-/
import Derived.Test.YtejhaepgbfngcaaDoorReg1
import Derived.Test.YtejhaepgbfngcaaDoorAud2
namespace Go.Proofs.YtejhaepgbfngcaaDoor
open Go.RowKit
set_option linter.unusedVariables false
set_option linter.unusedSimpArgs false

def heldF (n m : Int) : Int := max 0 (min n (m - 1))

set_option maxHeartbeats 2000000 in
theorem held_ok (x : Value) (wd hi r c : Int) (p au : Bool) (a b : Int) (w : World) (h1 : 1 ≤ wd) (h2 : wd ≤ 1024) (h3 : 1 ≤ hi) (h4 : hi ≤ 1024) :
    Calls Tryd.prog 54 #[.agg #[.int .i64 wd, .int .i64 hi, x, .int .i64 r, .int .i64 c, .bool p, .bool au], .agg #[.int .i64 a, .int .i64 b]] w fun e w' => e = .returned (.agg #[.int .i64 (heldF a hi), .int .i64 (heldF b wd)]) ∧ Below w.heap.size w w' := by
  obtain ⟨rr, hrr⟩ : ∃ rr, rr = heldF a hi := ⟨_, rfl⟩
  obtain ⟨cc, hcc⟩ : ∃ cc, cc = heldF b wd := ⟨_, rfl⟩
  have hr2 : rr = max 0 (min a (hi - 1)) := hrr
  have hc2 : cc = max 0 (min b (wd - 1)) := hcc
  rw [← hrr, ← hcc]
  have HR := hide hr2
  have HC := hide hc2
  have hbel : ∀ ob, Below w.heap.size w (((w.alloc (.cells #[.int .i64 wd, .int .i64 hi, x, .int .i64 r, .int .i64 c, .bool p, .bool au] 40)).alloc (.cells #[.int .i64 a, .int .i64 b] 57)).alloc ob) := fun ob => (((Below.refl _ w).alloc (Nat.le_refl _) _).alloc (by simp) _).alloc (by simp; omega) _
  have HB := hide hbel
  have hx0 := fun (a' b' : Int) => (Blk.new ((w.alloc (.cells #[.int .i64 wd, .int .i64 hi, x, .int .i64 r, .int .i64 c, .bool p, .bool au] 40)).alloc (.cells #[.int .i64 a, .int .i64 b] 57)) 57 #[.int .i64 a', .int .i64 b']).cell 0
  have hx1 := fun (a' b' : Int) => (Blk.new ((w.alloc (.cells #[.int .i64 wd, .int .i64 hi, x, .int .i64 r, .int .i64 c, .bool p, .bool au] 40)).alloc (.cells #[.int .i64 a, .int .i64 b] 57)) 57 #[.int .i64 a', .int .i64 b']).cell 1
  simp only [List.getElem?_toArray, List.getElem?_cons_succ, List.getElem?_cons_zero, World.size_alloc] at hx0 hx1
  have HX0 := hide hx0
  have HX1 := hide hx1
  clear hrr hcc hr2 hc2 hbel hx0 hx1
  go_enter Tryd.func54, Tryd.ntmps54
  go_wp2
  all_goals (refine bodyPost_ret (v := .agg #[.int .i64 rr, .int .i64 cc]) ?_ rfl ⟨rfl, HB.out _⟩; have e0 := HX0.out; have e1 := HX1.out; have e2 := HR.out; have e3 := HC.out; clear HX0 HX1 HB HR HC; simp [results, Tryd.results54, go_sem, e0, e1]; omega)

set_option maxHeartbeats 2000000 in
theorem lheld_ok (x : Value) (wd hi r c : Int) (p au : Bool) (a b : Int) (w : World) (h1 : 1 ≤ wd) (h2 : wd ≤ 1024) (h3 : 1 ≤ hi) (h4 : hi ≤ 1024) :
    Calls Tryd.prog 26 #[.agg #[.int .i64 wd, .int .i64 hi, x, .int .i64 r, .int .i64 c, .bool p, .bool au], .agg #[.int .i64 a, .int .i64 b]] w fun e w' => e = .returned (.agg #[.int .i64 (heldF a hi), .int .i64 (heldF b wd)]) ∧ Below w.heap.size w w' := by
  obtain ⟨rr, hrr⟩ : ∃ rr, rr = heldF a hi := ⟨_, rfl⟩
  obtain ⟨cc, hcc⟩ : ∃ cc, cc = heldF b wd := ⟨_, rfl⟩
  have hr2 : rr = max 0 (min a (hi - 1)) := hrr
  have hc2 : cc = max 0 (min b (wd - 1)) := hcc
  rw [← hrr, ← hcc]
  have HR := hide hr2
  have HC := hide hc2
  have hbel : ∀ ob, Below w.heap.size w (((w.alloc (.cells #[.int .i64 wd, .int .i64 hi, x, .int .i64 r, .int .i64 c, .bool p, .bool au] 40)).alloc (.cells #[.int .i64 a, .int .i64 b] 57)).alloc ob) := fun ob => (((Below.refl _ w).alloc (Nat.le_refl _) _).alloc (by simp) _).alloc (by simp; omega) _
  have HB := hide hbel
  have hx0 := fun (a' b' : Int) => (Blk.new ((w.alloc (.cells #[.int .i64 wd, .int .i64 hi, x, .int .i64 r, .int .i64 c, .bool p, .bool au] 40)).alloc (.cells #[.int .i64 a, .int .i64 b] 57)) 59 #[.int .i64 a', .int .i64 b']).cell 0
  have hx1 := fun (a' b' : Int) => (Blk.new ((w.alloc (.cells #[.int .i64 wd, .int .i64 hi, x, .int .i64 r, .int .i64 c, .bool p, .bool au] 40)).alloc (.cells #[.int .i64 a, .int .i64 b] 57)) 59 #[.int .i64 a', .int .i64 b']).cell 1
  simp only [List.getElem?_toArray, List.getElem?_cons_succ, List.getElem?_cons_zero, World.size_alloc] at hx0 hx1
  have HX0 := hide hx0
  have HX1 := hide hx1
  clear hrr hcc hr2 hc2 hbel hx0 hx1
  go_enter Tryd.func26, Tryd.ntmps26
  go_wp2
  all_goals (refine bodyPost_ret (v := .agg #[.int .i64 rr, .int .i64 cc]) ?_ rfl ⟨rfl, HB.out _⟩; have e0 := HX0.out; have e1 := HX1.out; have e2 := HR.out; have e3 := HC.out; clear HX0 HX1 HB HR HC; simp [results, Tryd.results26, go_sem, e0, e1]; omega)

/-- The earlier one of two places first. -/
def laterB (a b c d : Int) : Bool := decide (c < a ∨ c = a ∧ d < b)
set_option maxHeartbeats 2000000 in
theorem ordered_ok (a b c d : Int) (w : World) :
    Calls Tryd.prog 53 #[.agg #[.int .i64 a, .int .i64 b], .agg #[.int .i64 c, .int .i64 d]] w fun e w' => e = .returned (.tuple (if laterB a b c d = true then #[.agg #[.int .i64 c, .int .i64 d], .agg #[.int .i64 a, .int .i64 b]] else #[.agg #[.int .i64 a, .int .i64 b], .agg #[.int .i64 c, .int .i64 d]])) ∧ Below w.heap.size w w' := by
  have hbel : ∀ o1 o2, Below w.heap.size w ((((w.alloc (.cells #[.int .i64 a, .int .i64 b] 57)).alloc (.cells #[.int .i64 c, .int .i64 d] 57)).alloc o1).alloc o2).drew := fun o1 o2 => below_dr (((((Below.refl _ w).alloc (Nat.le_refl _) _).alloc (by simp) _).alloc (by simp; omega) _).alloc (by simp; omega) _)
  have HB := hide hbel
  have hx0 := fun (a1 b1 a2 b2 : Int) => ((Blk.new ((w.alloc (.cells #[.int .i64 a, .int .i64 b] 57)).alloc (.cells #[.int .i64 c, .int .i64 d] 57)) 57 #[.int .i64 a1, .int .i64 b1]).alloc (.cells #[.int .i64 a2, .int .i64 b2] 57)).cell 0
  have hx1 := fun (a1 b1 a2 b2 : Int) => ((Blk.new ((w.alloc (.cells #[.int .i64 a, .int .i64 b] 57)).alloc (.cells #[.int .i64 c, .int .i64 d] 57)) 57 #[.int .i64 a1, .int .i64 b1]).alloc (.cells #[.int .i64 a2, .int .i64 b2] 57)).cell 1
  have hx2 := fun (a1 b1 a2 b2 : Int) => (Blk.new (((w.alloc (.cells #[.int .i64 a, .int .i64 b] 57)).alloc (.cells #[.int .i64 c, .int .i64 d] 57)).alloc (.cells #[.int .i64 a1, .int .i64 b1] 57)) 57 #[.int .i64 a2, .int .i64 b2]).cell 0
  have hx3 := fun (a1 b1 a2 b2 : Int) => (Blk.new (((w.alloc (.cells #[.int .i64 a, .int .i64 b] 57)).alloc (.cells #[.int .i64 c, .int .i64 d] 57)).alloc (.cells #[.int .i64 a1, .int .i64 b1] 57)) 57 #[.int .i64 a2, .int .i64 b2]).cell 1
  simp only [List.getElem?_toArray, List.getElem?_cons_succ, List.getElem?_cons_zero, World.size_alloc] at hx0 hx1 hx2 hx3
  have HX0 := hide hx0
  have HX1 := hide hx1
  have HX2 := hide hx2
  have HX3 := hide hx3
  clear hbel hx0 hx1 hx2 hx3
  by_cases h1 : c < a
  · have hl : laterB a b c d = true := decide_eq_true (.inl h1)
    rw [if_pos hl]
    clear hl
    have q1 : decide (c < a) = true := decide_eq_true h1
    go_enter Tryd.func53, Tryd.ntmps53
    go_wp2
    go_region
    go_wp2
    have x0 := HX0.out c d a b
    have x1 := HX1.out c d a b
    have x2 := HX2.out c d a b
    have x3 := HX3.out c d a b
    refine bodyPost_ret (v := .tuple #[.agg #[.int .i64 c, .int .i64 d], .agg #[.int .i64 a, .int .i64 b]]) (by simp [results, Tryd.results53, go_sem, x0, x1, x2, x3]) rfl ⟨rfl, HB.out _ _⟩
  · by_cases h2 : c = a
    · subst h2
      by_cases h3 : d < b
      · have hl : laterB c b c d = true := decide_eq_true (.inr ⟨rfl, h3⟩)
        rw [if_pos hl]
        clear hl
        go_enter Tryd.func53, Tryd.ntmps53
        go_wp2
        go_region
        go_wp2
        have x0 := HX0.out c d c b
        have x1 := HX1.out c d c b
        have x2 := HX2.out c d c b
        have x3 := HX3.out c d c b
        refine bodyPost_ret (v := .tuple #[.agg #[.int .i64 c, .int .i64 d], .agg #[.int .i64 c, .int .i64 b]]) (by simp [results, Tryd.results53, go_sem, x0, x1, x2, x3]) rfl ⟨rfl, HB.out _ _⟩
      · have hl : laterB c b c d = false := decide_eq_false (by rintro (h | ⟨_, h⟩) <;> omega)
        rw [if_neg (by rw [hl]; decide)]
        clear hl
        go_enter Tryd.func53, Tryd.ntmps53
        go_wp2
        go_region
        go_wp2
        have x0 := HX0.out c b c d
        have x1 := HX1.out c b c d
        have x2 := HX2.out c b c d
        have x3 := HX3.out c b c d
        refine bodyPost_ret (v := .tuple #[.agg #[.int .i64 c, .int .i64 b], .agg #[.int .i64 c, .int .i64 d]]) (by simp [results, Tryd.results53, go_sem, x0, x1, x2, x3]) rfl ⟨rfl, HB.out _ _⟩
    · have hl : laterB a b c d = false := decide_eq_false (by rintro (h | ⟨h, _⟩) <;> omega)
      rw [if_neg (by rw [hl]; decide)]
      have q2 : (c == a) = false := by rw [beq_eq_false_iff_ne]; exact h2
      clear hl h2
      go_enter Tryd.func53, Tryd.ntmps53
      go_wp2
      go_region
      go_wp2
      have x0 := HX0.out a b c d
      have x1 := HX1.out a b c d
      have x2 := HX2.out a b c d
      have x3 := HX3.out a b c d
      refine bodyPost_ret (v := .tuple #[.agg #[.int .i64 a, .int .i64 b], .agg #[.int .i64 c, .int .i64 d]]) (by simp [results, Tryd.results53, go_sem, x0, x1, x2, x3]) rfl ⟨rfl, HB.out _ _⟩
end Go.Proofs.YtejhaepgbfngcaaDoor
