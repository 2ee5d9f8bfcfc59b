/-
  The checks at the head of the laws on fit.
-/
import Derived.Test.YthjddpflcgcpiaaDoorFit3
namespace Go.Proofs.YthjddpflcgcpiaaDoor
open Go.RowKit
set_option linter.unusedVariables false
set_option linter.unusedSimpArgs false

abbrev Any : Nat → Prop := fun _ => True
theorem Slc.any {α : Type} {R : Rep α} {So Si : Nat → Prop} {w : World} {v : Value} {l : List α} (h : Slc R So Si w v l) : Slc R Any Any w v l := h.mono (Keep.weaken fun _ _ => trivial) (Keep.weaken fun _ _ => trivial)

set_option maxHeartbeats 1000000 in
theorem works28_ok (t : TypeId) (u : Value) (w : World) (hE : w.cell? ⟨0, 0, none⟩ = some (.iface t u)) :
    Calls Tryd.prog 16 #[] w fun e w' => e = .returned (.bool true) ∧ Below w.heap.size w w' := by
  have hEl := World.block_lt_of_cell? w _ hE
  simp only at hEl
  have hof : ofF 2 [19968] = [(2, [19968]), (3, [])] := by decide
  have hrz : resizeF ([(1, [97])] ++ [(2, [19968]), (3, [])]) 2 = [(1, [97]), (0, [])] := by decide
  have hjn : joinG [] [] = none := rfl
  have HOF := hide hof
  have HRZ := hide hrz
  have HJN := hide hjn
  have HE := hide hE
  clear hof hrz hjn hE
  go_enter Tryd.func16, Tryd.ntmps16
  go_wp2_with fail
  have hA := (own_i32 w [97] (by decide) w.heap.size w.heap.size 1 (Nat.le_refl _) rfl rfl (by simp [maxLen])).islc.any
  have hrow := (Slc.lit1 (R := RCell) (Si := Any) (Si' := Any) 46 (cell_E (k := 1) (by decide) (hA.ints_any Any)) (Keep.alloc Any _ _)).any
  have ho := own_i32 ((w.alloc (.cells #[.int .i32 97] 21)).alloc (.cells #[.int .i64 1, .slice (some ⟨w.heap.size, 0, none⟩) 1 1] 46)) [19968] (by decide) (w.heap.size + 2) (w.heap.size + 2) 1 (Nat.le_refl _) (by simp) rfl (by simp [maxLen])
  refine (rOf_ok _ _ _ [19968] 2 _ (by decide) ho.islc (by simp)).mono ?_
  rw [HOF.out]
  rintro e w1 ⟨v1, rfl, hv1, hb1⟩
  have hb1' : Below w.heap.size w w1 := ((((Below.refl _ w).alloc (Nat.le_refl _) _).alloc (by simp) _).alloc (by simp <;> omega) _).trans (hb1.mono (by simp <;> omega))
  have hz1 := hb1'.size
  have hrow1 := (hrow.mono (Keep.alloc Any _ _) (Keep.alloc Any _ _)).mono (Keep.below (S := Any) hb1) (Keep.below (S := Any) hb1)
  simp only [World.size_alloc] at hrow1
  go_wp2_with (at_builtin; refine wpList_appfull rfl (.tmp 7) (.tmp 9) 22 rfl RCell 46 32 _ Tryd.underlying22 cell_info rfl (by decide) (by decide) (w.heap.size + 1) 0 1 [(1, [97])] (by decide) rfl _ _ _ _ hrow1 _ _ rfl hv1.slc (by simp) ?_; intro v2 w2 hv2 hb2)
  have hb2' := hb1'.trans (hb2.mono hz1)
  have hz2 := hb2'.size
  refine (ROf_ok _ _ _ _ _ hv2 (by simp) (by simp) (by decide)).mono ?_
  rintro e w3 ⟨v3, rfl, hv3, hb3⟩
  have hb3' := hb2'.trans (hb3.mono hz2)
  have hz3 := hb3'.size
  have HV3 := hide hv3
  obtain ⟨g3, s3, rfl, _, _, _⟩ := hv3
  go_wp2_with fail
  refine (Resize_ok _ _ _ _ 2 _ HV3.out (by decide) (by simp) (by simp) (by decide)).mono ?_
  rw [HRZ.out]
  rintro e w4 ⟨v4, rfl, ⟨base4, _, hv4⟩, hb4⟩
  have hb4' := hb3'.trans (hb4.mono hz3)
  have hz4 := hb4'.size
  have HV4 := hide hv4
  obtain ⟨g4, s4, rfl, _, _, _⟩ := hv4
  go_wp2_with fail
  refine (Cells_ok _ _ _ _ _ HV4.out (by simp) (by decide)).mono ?_
  rintro e w5 ⟨v5, rfl, hv5, hb5⟩
  have hb5' := hb4'.trans (hb5.mono hz4)
  have hz5 := hb5'.size
  have hv5' := hv5.own w5.heap.size
  go_wp2_with fail
  have hC := own_typed (base' := w5.heap.size) (own_i32 w5 [97] (by decide) w5.heap.size w5.heap.size 1 (Nat.le_refl _) rfl rfl (by simp [maxLen])) (Typed w5.heap.size [21] (w5.alloc (.cells #[.int .i32 97] 21)))
  have hlit : Own RCell 46 [21] w5.heap.size _ _ [(1, [97]), (0, [])] := Own.lit (e := 46) (by decide) (els_cell2 (by decide) hC (by decide) Slc.nil_) (by simp) rfl (by simp [maxLen])
  have hv5a := ((hv5.own 0 (Nat.le_refl _) (Nat.zero_le _)).alloc (.cells #[.int .i32 97] 21)).alloc (.cells #[.int .i64 1, .slice (some ⟨w5.heap.size, 0, none⟩) 1 1, .int .i64 0, .slice none 0 0] 46)
  have hlits := hlit.slc
  simp only [World.size_alloc] at hlits
  refine (rSame23_ok _ _ _ _ _ _ [(1, [97]), (0, [])] [(1, [97]), (0, [])] _ hv5a.slc hlits).mono ?_
  rintro e w6 ⟨rfl, n6, rfl⟩
  rw [decide_eq_true rfl]
  have hb6 : Below w.heap.size w _ := below_drewN ((hb5'.alloc hz5 (.cells #[.int .i32 97] 21)).alloc (by simp; omega) (.cells #[.int .i64 1, .slice (some ⟨w5.heap.size, 0, none⟩) 1 1, .int .i64 0, .slice none 0 0] 46)) n6
  go_wp2_with fail
  refine (Resize_nil 2 _).mono ?_
  rintro e w7 ⟨rfl, rfl⟩
  go_wp2_with fail
  refine (Join_ok Any Any _ [] [] t u _ Slc.nil_ rfl (by simp) (fun k h _ => by simp at h) ((hb6.cell (p := ⟨0, 0, none⟩) hEl).trans HE.out)).mono ?_
  rw [HJN.out]
  rintro e w8 ⟨v8, rfl, hv8, hb8⟩
  obtain rfl : v8 = .pointer none := hv8
  go_wp2
  go_ret
  exact ⟨rfl, hb6.trans (hb8.mono hb6.size)⟩
end Go.Proofs.YthjddpflcgcpiaaDoor
