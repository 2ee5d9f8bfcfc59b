/-
  The checks at the head of the laws on rows as texts.
-/
import Derived.Test.YthjddpflcgcpiaaDoorTxt6
namespace Go.Proofs.YthjddpflcgcpiaaDoor
open Go.RowKit
set_option linter.unusedVariables false
set_option linter.unusedSimpArgs false

set_option maxHeartbeats 1000000 in
theorem works30_ok (w : World) :
    Calls Tryd.prog 29 #[] w fun e w' => e = .returned (.bool true) ∧ Below w.heap.size w w' := by
  have hof : ofF 2 [19968] = [(2, [19968]), (3, [])] := by decide
  have hpl : plainF ([(1, [97]), (0, [])] ++ [(2, [19968]), (3, [])]) = [97, 32, 19968] := by decide
  have hus : usedF ([(1, [97]), (0, [])] ++ [(2, [19968]), (3, [])]) = 4 := by decide
  have hfi : findF ([(1, [97]), (0, [])] ++ [(2, [19968]), (3, [])]) 0 [19968] = 2 := by decide
  have HOF := hide hof
  have HPL := hide hpl
  have HUS := hide hus
  have HFI := hide hfi
  clear hof hpl hus hfi
  go_enter Tryd.func29, Tryd.ntmps29
  go_wp2_with fail
  have hC := own_typed (base' := w.heap.size) (own_i32 w [97] (by decide) w.heap.size w.heap.size 1 (Nat.le_refl _) rfl rfl (by simp [maxLen])) (Typed w.heap.size [21] (w.alloc (.cells #[.int .i32 97] 21)))
  have hlit : Own RCell 46 [21] w.heap.size _ _ [(1, [97]), (0, [])] := Own.lit (e := 46) (by decide) (els_cell2 (by decide) hC (by decide) Slc.nil_) (by simp) rfl (by simp [maxLen])
  have hrow := hlit.slc.mono (So' := fun _ => True) (Si' := fun _ => True) (Keep.weaken fun _ _ => trivial) (Keep.weaken fun _ _ => trivial)
  have ho := own_i32 ((w.alloc (.cells #[.int .i32 97] 21)).alloc (.cells #[.int .i64 1, .slice (some ⟨w.heap.size, 0, none⟩) 1 1, .int .i64 0, .slice none 0 0] 46)) [19968] (by decide) (w.heap.size + 2) (w.heap.size + 2) 1 (Nat.le_refl _) (by simp) rfl (by simp [maxLen])
  refine (rOf_ok _ _ _ [19968] 2 _ (by decide) ho.islc (by simp)).mono ?_
  rw [HOF.out]
  rintro e w1 ⟨v1, rfl, hv1, hb1⟩
  have hb1' : Below w.heap.size w w1 := ((((Below.refl _ w).alloc (Nat.le_refl _) _).alloc (by simp) _).alloc (by simp <;> omega) _).trans (hb1.mono (by simp <;> omega))
  have hz1 := hb1'.size
  have hrow1 := (hrow.mono (Keep.alloc (fun _ => True) _ _) (Keep.alloc (fun _ => True) _ _)).mono (Keep.below (S := fun _ => True) hb1) (Keep.below (S := fun _ => True) hb1)
  simp only [World.size_alloc] at hrow1
  go_wp2_with (at_builtin; refine wpList_appfull rfl (.tmp 7) (.tmp 9) 22 rfl RCell 46 32 _ Tryd.underlying22 cell_info rfl (by decide) (by decide) (w.heap.size + 1) 0 2 [(1, [97]), (0, [])] (by decide) rfl _ _ _ _ hrow1 _ _ rfl hv1.slc (by simp) ?_; intro v2 w2 hv2 hb2)
  have hb2' := hb1'.trans (hb2.mono hz1)
  have hz2 := hb2'.size
  refine (ROf_ok _ _ _ _ _ hv2 (by simp) (by simp) (by decide)).mono ?_
  rintro e w3 ⟨v3, rfl, hv3, hb3⟩
  have hb3' := hb2'.trans (hb3.mono hz2)
  have hz3 := hb3'.size
  have HV3 := hide hv3
  obtain ⟨g3, s3, rfl, _, _, _⟩ := hv3
  go_wp2_with fail
  refine (Plain_ok _ _ _ _ _ HV3.out (by simp) (by decide)).mono ?_
  rw [HPL.out]
  rintro e w4 ⟨v4, rfl, hv4, hb4⟩
  have hb4' := hb3'.trans (hb4.mono hz3)
  have hz4 := hb4'.size
  have hL := own_i32 w4 [97, 32, 19968] (by decide) 0 w4.heap.size 3 (Nat.zero_le _) rfl rfl (by simp [maxLen])
  have hv4a := hv4.alloc (.cells (([97, 32, 19968] : List Int).map (Value.int .i32)).toArray 21)
  simp only [List.map_cons, List.map_nil] at hL hv4a
  obtain ⟨A4, c4, rfl, _, _, _⟩ := hv4.slc.open_
  go_wp2_with fail
  refine (Same_ok _ _ _ _ _ _ [97, 32, 19968] [97, 32, 19968] _ hv4a.slc hL.slc).mono ?_
  rintro e w5 ⟨rfl, n5, rfl⟩
  rw [decide_eq_true rfl]
  have hb34 := below_drewN (hb4.alloc hb4.size (.cells #[.int .i32 97, .int .i32 32, .int .i32 19968] 21)) n5
  have hb5' := hb3'.trans (hb34.mono hz3)
  have hz5 := hb5'.size
  go_wp2_with fail
  refine (Used_ok _ _ _ _ _ (HV3.out.below hb34) (by simp) (by decide)).mono ?_
  rw [HUS.out]
  rintro e w6 ⟨rfl, hb6⟩
  have hb36 := hb34.trans (hb6.mono hb34.size)
  have hb6' := hb5'.trans (hb6.mono hz5)
  have hz6 := hb6'.size
  have hM := own_i32 w6 [19968] (by decide) 0 w6.heap.size 1 (Nat.zero_le _) rfl rfl (by simp [maxLen])
  simp only [List.map_cons, List.map_nil] at hM
  go_wp2_with fail
  refine (Find_ok _ _ _ _ [19968] _ _ ((HV3.out.below hb36).alloc _) (hM.slc.mono (Keep.weaken fun b h => h.1) (Keep.lt _ _)) (by simp) (by simp) (by decide)).mono ?_
  rw [HFI.out]
  rintro e w7 ⟨rfl, hb7⟩
  have hb6a := hb6'.alloc hz6 (.cells #[.int .i32 19968] 21)
  have hb7' := hb6a.trans (hb7.mono hb6a.size)
  go_wp2_with fail
  refine (Used_nil _).mono ?_
  rintro e w8 ⟨rfl, rfl⟩
  go_wp2_with fail
  refine (Plain_nil _).mono ?_
  rintro e w8 ⟨rfl, rfl⟩
  go_wp2
  go_ret
  exact ⟨rfl, hb7'⟩
end Go.Proofs.YthjddpflcgcpiaaDoor
