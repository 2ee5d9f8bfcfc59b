/-
  Marked cells, by the document: what its functions return. Each function once.
-/
import Derived.Test.YtejhaepgbfngcaaDoorReg2
namespace Go.Proofs.YtejhaepgbfngcaaDoor
open Go.RowKit
set_option linter.unusedVariables false
set_option linter.unusedSimpArgs false

def markedB (r c a0 a1 b0 b1 : Int) : Bool := decide (¬ (r < a0 ∨ b0 < r ∨ r = a0 ∧ c < a1 ∨ r = b0 ∧ b1 < c))
def bothB (l : List CellV) (r k a0 a1 b0 b1 : Int) : Bool := markedB r k a0 a1 b0 b1 || (decide (kindI l k = 2) && markedB r (k + 1) a0 a1 b0 b1) || (decide (kindI l k = 3) && markedB r (k - 1) a0 a1 b0 b1)

set_option maxHeartbeats 2000000 in
theorem Marked_ok (r c a0 a1 b0 b1 : Int) (w : World) :
    Calls Tryd.prog 59 #[.int .i64 r, .int .i64 c, .agg #[.int .i64 a0, .int .i64 a1], .agg #[.int .i64 b0, .int .i64 b1]] w fun e w' => e = .returned (.bool (markedB r c a0 a1 b0 b1)) ∧ Below w.heap.size w w' := by
  have hbel : ∀ o1 o2, Below w.heap.size w ((w.alloc o1).alloc o2) := fun o1 o2 => ((Below.refl _ w).alloc (Nat.le_refl _) _).alloc (by simp) _
  have HB := hide hbel
  clear hbel
  obtain ⟨m, hm⟩ : ∃ m, m = markedB r c a0 a1 b0 b1 := ⟨_, rfl⟩
  rw [← hm]
  have HM := hide hm
  clear hm
  go_enter Tryd.func59, Tryd.ntmps59
  go_wp2
  all_goals go_ret
  all_goals (refine ⟨?_, HB.out _ _⟩; rw [HM.out]; first | (exact congrArg Ending.returned (congrArg Value.bool (decide_eq_true (by omega)).symm)) | (exact congrArg Ending.returned (congrArg Value.bool (decide_eq_false (by omega)).symm)))

set_option maxHeartbeats 2000000 in
theorem Both_ok (So Si : Nat → Prop) (x : Value) (l : List CellV) (r : Int) (k : Nat) (a0 a1 b0 b1 : Int) (w : World) (hx : Slc RCell So (fun b => b < w.heap.size) w x l) (hk : k < l.length) :
    Calls Tryd.prog 30 #[x, .int .i64 r, .int .i64 k, .agg #[.int .i64 a0, .int .i64 a1], .agg #[.int .i64 b0, .int .i64 b1]] w fun e w' => e = .returned (.bool (bothB l r k a0 a1 b0 b1)) ∧ Below w.heap.size w w' := by
  have hM := fun (c : Int) (w : World) => Marked_ok r c a0 a1 b0 b1 w
  have hb : bothB l r k a0 a1 b0 b1 = (markedB r k a0 a1 b0 b1 || (decide (l[k].1 = 2) && markedB r ((k : Int) + 1) a0 a1 b0 b1) || (decide (l[k].1 = 3) && markedB r ((k : Int) - 1) a0 a1 b0 b1)) := by unfold bothB; rw [kindI_at l k hk]
  rw [hb]
  clear hb
  have HM0 := hide (hM k)
  have HM1 := hide (hM ((k : Int) + 1))
  have HM2 := hide (hM ((k : Int) - 1))
  clear hM
  generalize markedB r k a0 a1 b0 b1 = m0 at *
  generalize markedB r ((k : Int) + 1) a0 a1 b0 b1 = m1 at *
  generalize markedB r ((k : Int) - 1) a0 a1 b0 b1 = m2 at *
  obtain ⟨A, c, rfl, hc1, hc2, _⟩ := hx.open_
  obtain ⟨ab, off, v2, rfl, _, q0, _, _, _⟩ := cell_at hx.slb (k := k) hk
  have hki : (k : Int) < l.length := by omega
  have hblk0 := Blk.new w 59 #[.int .i64 a0, .int .i64 a1]
  have hblka := hblk0.alloc (.cells #[.int .i64 b0, .int .i64 b1] 59)
  have hblkb := Blk.new (w.alloc (.cells #[.int .i64 a0, .int .i64 a1] 59)) 59 #[.int .i64 b0, .int .i64 b1]
  have hb0 : Below w.heap.size w ((w.alloc (.cells #[.int .i64 a0, .int .i64 a1] 59)).alloc (.cells #[.int .i64 b0, .int .i64 b1] 59)) := ((Below.refl _ w).alloc (Nat.le_refl _) _).alloc (by simp) _
  have hz0 := hb0.size
  have hlt := World.block_lt_of_cell? _ _ q0
  simp only at hlt
  have es : (w.alloc (.cells #[.int .i64 a0, .int .i64 a1] 59)).heap.size = w.heap.size + 1 := by simp
  rw [es] at hblkb
  clear es
  go_enter Tryd.func30, Tryd.ntmps30
  go_wp2_with fail
  refine (HM0.out _).mono ?_
  rintro e w1 ⟨rfl, hc1⟩
  have hb1 := hb0.trans (hc1.mono hz0)
  have q1 := (hb1.cell (p := ⟨ab, off + k * 2, none⟩) hlt).trans q0
  have ha1 := hblka.same hc1
  have hbb1 := hblkb.same hc1
  have a10 := ha1.cell 0
  have a11 := ha1.cell 1
  have b10 := hbb1.cell 0
  have b11 := hbb1.cell 1
  simp only [List.getElem?_toArray, List.getElem?_cons_succ, List.getElem?_cons_zero] at a10 a11 b10 b11
  cases m0 with
  | true =>
    go_wp2
    go_ret
    exact ⟨rfl, hb1⟩
  | false =>
    by_cases h2 : l[k].1 = 2
    · have e2 : (l[k].1 == 2) = true := by simpa using h2
      have e3 : (l[k].1 == 3) = false := by rw [beq_eq_false_iff_ne]; omega
      have HD2 := hide (decide_eq_true h2)
      have HD3 : Hid (decide (l[k].1 = 3) = false) := hide (decide_eq_false (by omega))
      clear h2
      go_wp2_with fail
      refine (HM1.out _).mono ?_
      rintro e w2 ⟨rfl, hc2⟩
      have hb2 := hb1.trans (hc2.mono hb1.size)
      have q2 := (hb2.cell (p := ⟨ab, off + k * 2, none⟩) hlt).trans q0
      cases m1 with
      | true =>
        go_wp2
        go_ret
        exact ⟨by rw [HD2.out, HD3.out]; rfl, hb2⟩
      | false =>
        go_wp2
        go_ret
        exact ⟨by rw [HD2.out, HD3.out]; rfl, hb2⟩
    · have e2 : (l[k].1 == 2) = false := by simpa using h2
      by_cases h3 : l[k].1 = 3
      · have e3 : (l[k].1 == 3) = true := by simpa using h3
        have HD2 := hide (decide_eq_false h2)
        have HD3 := hide (decide_eq_true h3)
        clear h2 h3
        go_wp2_with fail
        refine (HM2.out _).mono ?_
        rintro e w2 ⟨rfl, hc2⟩
        have hb2 := hb1.trans (hc2.mono hb1.size)
        cases m2 with
        | true =>
          go_wp2
          go_ret
          exact ⟨by rw [HD2.out, HD3.out]; rfl, hb2⟩
        | false =>
          go_wp2
          go_ret
          exact ⟨by rw [HD2.out, HD3.out]; rfl, hb2⟩
      · have e3 : (l[k].1 == 3) = false := by simpa using h3
        have HD2 := hide (decide_eq_false h2)
        have HD3 := hide (decide_eq_false h3)
        clear h2 h3
        go_wp2
        go_ret
        exact ⟨by rw [HD2.out, HD3.out]; rfl, hb1⟩
end Go.Proofs.YtejhaepgbfngcaaDoor
