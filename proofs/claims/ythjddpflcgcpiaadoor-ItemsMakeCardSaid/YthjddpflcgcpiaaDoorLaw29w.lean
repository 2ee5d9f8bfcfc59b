/-
  The checks at the head of the laws on items.
-/
import Derived.Test.YthjddpflcgcpiaaDoorItm3
namespace Go.Proofs.YthjddpflcgcpiaaDoor
open Go.RowKit
set_option linter.unusedVariables false
set_option linter.unusedSimpArgs false

set_option maxHeartbeats 1000000 in
theorem works29_ok (w : World) :
    Calls Tryd.prog 55 #[] w fun e w' => e = .returned (.bool true) ∧ Below w.heap.size w w' := by
  have hof : ofF 2 [19968] = [(2, [19968]), (3, [])] := by decide
  have hit : itemsF ([(1, [97])] ++ [(2, [19968]), (3, [])]) = [(1, [97]), (2, [19968])] := by decide
  have hwi : wideI [(1, [97]), (2, [19968])] = 3 := by decide
  have HOF := hide hof
  have HIT := hide hit
  have HWI := hide hwi
  clear hof hit hwi
  go_enter Tryd.func55, Tryd.ntmps55
  go_wp2_with fail
  have hC := own_typed (base' := w.heap.size) (own_i32 w [97] (by decide) w.heap.size w.heap.size 1 (Nat.le_refl _) rfl rfl (by simp [maxLen])) (Typed w.heap.size [21] (w.alloc (.cells #[.int .i32 97] 21)))
  have hlit : Own RCell 46 [21] w.heap.size _ _ [(1, [97])] := Own.lit (e := 46) (by decide) (els_cell1 (by decide) hC) (by simp) rfl (by simp [maxLen])
  have hrow := hlit.slc.mono (So' := fun _ => True) (Si' := fun _ => True) (Keep.weaken fun _ _ => trivial) (Keep.weaken fun _ _ => trivial)
  have ho := own_i32 ((w.alloc (.cells #[.int .i32 97] 21)).alloc (.cells #[.int .i64 1, .slice (some ⟨w.heap.size, 0, none⟩) 1 1] 46)) [19968] (by decide) (w.heap.size + 2) (w.heap.size + 2) 1 (Nat.le_refl _) (by simp) rfl (by simp [maxLen])
  refine (rOf_ok _ _ _ [19968] 2 _ (by decide) ho.islc (by simp)).mono ?_
  rw [HOF.out]
  rintro e w1 ⟨v1, rfl, hv1, hb1⟩
  have hb1' : Below w.heap.size w w1 := ((((Below.refl _ w).alloc (Nat.le_refl _) _).alloc (by simp) _).alloc (by simp <;> omega) _).trans (hb1.mono (by simp <;> omega))
  have hz1 := hb1'.size
  have hrow1 := (hrow.mono (Keep.alloc (fun _ => True) _ _) (Keep.alloc (fun _ => True) _ _)).mono (Keep.below (S := fun _ => True) hb1) (Keep.below (S := fun _ => True) hb1)
  simp only [World.size_alloc] at hrow1
  go_wp2_with (at_builtin; refine wpList_appfull rfl (.tmp 6) (.tmp 8) 22 rfl RCell 46 32 _ Tryd.underlying22 cell_info rfl (by decide) (by decide) (w.heap.size + 1) 0 1 [(1, [97])] (by decide) rfl _ _ _ _ hrow1 _ _ rfl hv1.slc (by simp) ?_; intro v2 w2 hv2 hb2)
  have hb2' := hb1'.trans (hb2.mono hz1)
  have hz2 := hb2'.size
  refine (IOf_ok _ _ _ _ hv2 (by simp) (by decide)).mono ?_
  rw [HIT.out]
  rintro e w3 ⟨v3, rfl, hv3, hb3⟩
  have hb3' := hb2'.trans (hb3.mono hz2)
  have hz3 := hb3'.size
  have HV3 := hide hv3
  obtain ⟨g, cap, xs, rest, rfl, _, _, _, _, _, _, _⟩ := own_open hv3 (by simp)
  obtain ⟨_, _, v, he, _, q0, q1, _, _⟩ := cell_at hv3.slc.slb (k := 1) (by simp)
  cases he
  simp at q0
  go_wp2_with fail
  refine (IWide_ok _ _ _ _ _ HV3.out.slc (by simp)).mono ?_
  rw [HWI.out]
  rintro e w4 ⟨rfl, hb4⟩
  have hb4' := hb3'.trans (hb4.mono hz3)
  have hz4 := hb4'.size
  go_wp2_with fail
  refine (ICols_ok _ _ _ ((HV3.out.below hb4).slc.mono (Keep.lt _ _) (Keep.lt _ _)) (by simp)).mono ?_
  rintro e w5 ⟨v5, rfl, hv5, hb5⟩
  obtain ⟨A5, c5, rfl, _, _, _⟩ := hv5.slc.open_
  have hcl : (colsI [(1, [97]), (2, [19968])]).length = 2 := by simp [colsI]
  go_wp2
  go_ret
  exact ⟨rfl, hb4'.trans (hb5.mono hz4)⟩
end Go.Proofs.YthjddpflcgcpiaaDoor
