import Derived.Test.YtdjpdllehhecpaaGreatDoorQ15
import Derived.Test.YtdjpdllehhecpaaGreatDoorQ16
import Derived.Test.YtdjpdllehhecpaaGreatDoorQ04
open List renaming getElem?_toArray → zA, getElem?_cons_succ → zB, getElem?_cons_zero → zC, setIfInBounds_toArray → zD, set_cons_zero → zE, set_cons_succ → zF
namespace Go.Proofs.YtdjpdllehhecpaaGreatDoor
open Go.RowKit
set_option linter.unusedVariables false
set_option linter.unusedSimpArgs false
def curA (r c : Int) (p : Bool) : Value := .agg #[.int .i64 r, .int .i64 c, .bool p]
theorem Hold_in (r c : Int) (p : Bool) (W h : Int) (hW0 : 1 ≤ W) (hW : W ≤ 1024) (hh0 : 1 ≤ h) (hh : h ≤ 1024) (hr0 : 0 ≤ r) (hr : r < h) (hc0 : 0 ≤ c) (hc : c < W) (hp : p = true → c = W - 1) (w : World) :
    Calls Tryz.prog 63 #[curA r c p, .int .i64 W, .int .i64 h] w fun e w' => e = .returned (curA r c p) ∧ Below w.heap.size w w' := by
  have h1 := Hold_ok r c p W h w
  have e1 : sideF h = h := by unfold sideF; omega
  have e2 : sideF W = W := by unfold sideF; omega
  have e3 : max 0 (min r (h - 1)) = r := by omega
  have e4 : max 0 (min c (W - 1)) = c := by omega
  have e5 : holdP c p W = p := by
    unfold holdP
    cases p with
    | false => rfl
    | true => simpa using hp rfl
  rw [e1, e2, e3, e4, e5] at h1
  exact h1
theorem Ret_ok (r c : Int) (p : Bool) (w : World) :
    Calls Tryz.prog 99 #[curA r c p] w fun e w' => e = .returned (curA r 0 false) ∧ Below w.heap.size w w' := by
  unfold curA
  go_enter Tryz.func99, Tryz.ntmps99
  go_wp2
  have hx := (Blk.new (w.alloc (.cells #[.int .i64 r, .int .i64 c, .bool p] 39)) 39 #[.int .i64 r, .int .i64 0, .bool false])
  have x0 := hx.cell 0
  have x1 := hx.cell 1
  have x2 := hx.cell 2
  simp only [zA, zB, zC, World.size_alloc] at x0 x1 x2
  refine bodyPost_ret (v := .agg #[.int .i64 r, .int .i64 0, .bool false]) (by simp [results, Tryz.results99, go_sem, x0, x1, x2]) rfl ⟨rfl, ((Below.refl _ w).alloc (Nat.le_refl _) _).alloc (by simp) _⟩
theorem Down_ok (r c : Int) (p : Bool) (h : Int) (hh : h ≤ 1024) (hr0 : 0 ≤ r) (hr : r < h - 1) (w : World) :
    Calls Tryz.prog 191 #[curA r c p, .int .i64 h] w fun e w' => e = .returned (.tuple #[curA (r + 1) c false, .bool false]) ∧ Below w.heap.size w w' := by
  have e1 : sideF h = h := by unfold sideF; omega
  have HS : Hid (∀ w, Calls Tryz.prog 93 #[.int .i64 h] w fun e w' => e = .returned (.int .i64 h) ∧ w' = w) := hide (fun w => (cside_ok h w).mono fun _ _ e => ⟨by rw [e.1, e1], e.2.symm⟩)
  have hd : decide (h - 1 ≤ r) = false := decide_eq_false (by omega)
  have hwr : IntKind.i64.wrap (h - 1) = h - 1 := IntWalk.i64_in _ (by omega)
  have hwr2 : IntKind.i64.wrap (r + 1) = r + 1 := IntWalk.i64_in _ (by omega)
  clear e1 hr
  unfold curA
  go_enter Tryz.func191, Tryz.ntmps191
  go_wp2
  go_quiet ((go_at_call 93; exact Calls.quiet_of_same (HS.out _)))
  go_wp2
  have hx := (((((Blk.new (w.alloc (.cells #[.int .i64 r, .int .i64 c, .bool false] 39)) 39 #[.int .i64 0, .int .i64 0, .bool false]).drewN nq).far (p := ⟨w.heap.size, 0, none⟩) (by simp) (.int .i64 (r + 1))).set_ 0 (.int .i64 (r + 1))).set_ 1 (.int .i64 c)).set_ 2 (.bool false)
  have x0 := hx.cell 0
  have x1 := hx.cell 1
  have x2 := hx.cell 2
  simp only [zD, zE, zF, zA, zB, zC, World.size_alloc] at x0 x1 x2
  refine bodyPost_ret (v := .tuple #[.agg #[.int .i64 (r + 1), .int .i64 c, .bool false], .bool false]) (by simp [results, Tryz.results191, go_sem, x0, x1, x2]) rfl ⟨rfl, (((((((Chg.refl (fun _ => False) w).alloc _).alloc _).drewN nq).set (.inr (Nat.le_refl _)) _).set (.inr (Nat.le_succ _)) _).set (.inr (Nat.le_succ _)) _).set (.inr (Nat.le_succ _)) _ |>.to_below⟩
theorem After_ok (r c : Int) (p : Bool) (n W : Int) (hn : n = 1 ∨ n = 2) (hW0 : 2 ≤ W) (hW : W ≤ 1024) (hc0 : 0 ≤ c) (hc : c < W) (w : World) :
    Calls Tryz.prog 195 #[curA r c p, .int .i64 n, .int .i64 W, .bool true] w fun e w' => e = .returned (if c < W - n then curA r (c + n) false else curA r (W - 1) true) ∧ Below w.heap.size w w' := by
  have e1 : sideF W = W := by unfold sideF; omega
  have HS : Hid (∀ w, Calls Tryz.prog 93 #[.int .i64 W] w fun e w' => e = .returned (.int .i64 W) ∧ w = w') := hide (fun w => by have := cside_ok W w; rwa [e1] at this)
  clear e1
  by_cases h : c < W - n
  · rw [if_pos h]
    unfold curA
    rcases hn with rfl | rfl
    · have hwr : IntKind.i64.wrap (W - 1) = W - 1 := IntWalk.i64_in _ (by omega)
      have hwr2 : IntKind.i64.wrap (c + 1) = c + 1 := IntWalk.i64_in _ (by omega)
      have hd : decide (c < W - 1) = true := decide_eq_true h
      clear h
      go_enter Tryz.func195, Tryz.ntmps195
      go_wp2_with (refine (HS.out _).mono ?_; rintro e w1 ⟨rfl, rfl⟩)
      have hx := (Blk.new (w.alloc (.cells #[.int .i64 r, .int .i64 c, .bool p] 39)) 39 #[.int .i64 r, .int .i64 (c + 1), .bool false])
      have x0 := hx.cell 0
      have x1 := hx.cell 1
      have x2 := hx.cell 2
      simp only [zA, zB, zC, World.size_alloc] at x0 x1 x2
      refine bodyPost_ret (v := .agg #[.int .i64 r, .int .i64 (c + 1), .bool false]) (by simp [results, Tryz.results195, go_sem, x0, x1, x2]) rfl ⟨rfl, ((Below.refl _ w).alloc (Nat.le_refl _) _).alloc (by simp) _⟩
    · have hwr : IntKind.i64.wrap (W - 2) = W - 2 := IntWalk.i64_in _ (by omega)
      have hwr2 : IntKind.i64.wrap (c + 2) = c + 2 := IntWalk.i64_in _ (by omega)
      have hd : decide (c < W - 2) = true := decide_eq_true h
      clear h
      go_enter Tryz.func195, Tryz.ntmps195
      go_wp2_with (refine (HS.out _).mono ?_; rintro e w1 ⟨rfl, rfl⟩)
      have hx := (Blk.new (w.alloc (.cells #[.int .i64 r, .int .i64 c, .bool p] 39)) 39 #[.int .i64 r, .int .i64 (c + 2), .bool false])
      have x0 := hx.cell 0
      have x1 := hx.cell 1
      have x2 := hx.cell 2
      simp only [zA, zB, zC, World.size_alloc] at x0 x1 x2
      refine bodyPost_ret (v := .agg #[.int .i64 r, .int .i64 (c + 2), .bool false]) (by simp [results, Tryz.results195, go_sem, x0, x1, x2]) rfl ⟨rfl, ((Below.refl _ w).alloc (Nat.le_refl _) _).alloc (by simp) _⟩
  · rw [if_neg h]
    unfold curA
    rcases hn with rfl | rfl
    · have hwr : IntKind.i64.wrap (W - 1) = W - 1 := IntWalk.i64_in _ (by omega)
      have hwr2 : IntKind.i64.wrap (W - 1) = W - 1 := IntWalk.i64_in _ (by omega)
      have hd : decide (c < W - 1) = false := decide_eq_false h
      clear h
      go_enter Tryz.func195, Tryz.ntmps195
      go_wp2_with (refine (HS.out _).mono ?_; rintro e w1 ⟨rfl, rfl⟩)
      have hx := (Blk.new (w.alloc (.cells #[.int .i64 r, .int .i64 c, .bool p] 39)) 39 #[.int .i64 r, .int .i64 (W - 1), .bool true])
      have x0 := hx.cell 0
      have x1 := hx.cell 1
      have x2 := hx.cell 2
      simp only [zA, zB, zC, World.size_alloc] at x0 x1 x2
      refine bodyPost_ret (v := .agg #[.int .i64 r, .int .i64 (W - 1), .bool true]) (by simp [results, Tryz.results195, go_sem, x0, x1, x2]) rfl ⟨rfl, ((Below.refl _ w).alloc (Nat.le_refl _) _).alloc (by simp) _⟩
    · have hwr : IntKind.i64.wrap (W - 2) = W - 2 := IntWalk.i64_in _ (by omega)
      have hwr2 : IntKind.i64.wrap (W - 1) = W - 1 := IntWalk.i64_in _ (by omega)
      have hd : decide (c < W - 2) = false := decide_eq_false h
      clear h
      go_enter Tryz.func195, Tryz.ntmps195
      go_wp2_with (refine (HS.out _).mono ?_; rintro e w1 ⟨rfl, rfl⟩)
      have hx := (Blk.new (w.alloc (.cells #[.int .i64 r, .int .i64 c, .bool p] 39)) 39 #[.int .i64 r, .int .i64 (W - 1), .bool true])
      have x0 := hx.cell 0
      have x1 := hx.cell 1
      have x2 := hx.cell 2
      simp only [zA, zB, zC, World.size_alloc] at x0 x1 x2
      refine bodyPost_ret (v := .agg #[.int .i64 r, .int .i64 (W - 1), .bool true]) (by simp [results, Tryz.results195, go_sem, x0, x1, x2]) rfl ⟨rfl, ((Below.refl _ w).alloc (Nat.le_refl _) _).alloc (by simp) _⟩
end Go.Proofs.YtdjpdllehhecpaaGreatDoor
