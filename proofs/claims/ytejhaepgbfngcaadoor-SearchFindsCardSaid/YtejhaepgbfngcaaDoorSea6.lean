/-
  The law's works: it returns true.
-/
import Derived.Test.YtejhaepgbfngcaaDoorSea5
import Derived.Test.YtejhaepgbfngcaaDoorLitn
namespace Go.Proofs.YtejhaepgbfngcaaDoor
open Go.RowKit
set_option linter.unusedVariables false
set_option linter.unusedSimpArgs false

set_option maxRecDepth 4096 in
set_option maxHeartbeats 4000000 in
theorem works53_ok (b : Nat → Addr) (w : World) (hV : VarsA b w) :
    Calls Tryd.prog 17 #[] w fun e w' => e = .returned (.bool true) ∧ Below w.heap.size w w' := by
  have haf : allF ⟨2, 2, [([(1, [1]), (1, [2])], true), ([(1, [3]), (0, [])], false)], 0, 0, false, false⟩ [2, 3] = [(0, 1, 2)] := by decide
  have HV := hide hV
  have HAF := hide haf
  clear hV haf
  go_enter Tryd.func17, Tryd.ntmps17
  go_wp2_with fail
  refine (one53_ok 1 (by decide) _).mono ?_
  rintro e w1 ⟨v1, rfl, hv1, hb1⟩
  obtain ⟨A1, c1, rfl, _, _, _⟩ := hv1.open_
  go_wp2_with fail
  refine (one53_ok 2 (by decide) _).mono ?_
  rintro e w2 ⟨v2, rfl, hv2, hb2⟩
  obtain ⟨A2, c2, rfl, _, _, _⟩ := hv2.open_
  simp only [List.length_singleton] at hv1 hv2
  have hb2' := hb1.trans (hb2.mono hb1.size)
  have hv1' := hv1.lt_up (fun _ h => h) hb2
  have hca : Slc RCell (fun b => b = w2.heap.size) (fun b => b < w2.heap.size) (w2.alloc (.cells #[.int .i64 1, .slice A1 1 c1, .int .i64 1, .slice A2 1 c2] 51)) (.slice (some ⟨w2.heap.size, 0, none⟩) 2 2) [(1, [1]), (1, [2])] := Slc.litn _ (els_2 (by decide) (by decide) hv1' hv2) (Keep.alloc _ _ _) 2 rfl (by simp [maxLen]) _ rfl
  have hb3 : Below w.heap.size w (w2.alloc (.cells #[.int .i64 1, .slice A1 1 c1, .int .i64 1, .slice A2 1 c2] 51)) := hb2'.alloc hb2'.size _
  go_wp2_with fail
  refine (one53_ok 3 (by decide) _).mono ?_
  rintro e w4 ⟨v4, rfl, hv4, hb4⟩
  obtain ⟨A4, c4, rfl, _, _, _⟩ := hv4.open_
  simp only [List.length_singleton] at hv4
  have hb4' := hb3.trans (hb4.mono hb3.size)
  have hcb : Slc RCell (fun b => b = w4.heap.size) (fun b => b < w4.heap.size) (w4.alloc (.cells #[.int .i64 1, .slice A4 1 c4, .int .i64 0, .slice none 0 0] 51)) (.slice (some ⟨w4.heap.size, 0, none⟩) 2 2) [(1, [3]), (0, [])] := Slc.litn _ (els_2 (by decide) (by decide) hv4 Slc.nil_) (Keep.alloc _ _ _) 2 rfl (by simp [maxLen]) _ rfl
  have hz3 : w2.heap.size < (w2.alloc (.cells #[.int .i64 1, .slice A1 1 c1, .int .i64 1, .slice A2 1 c2] 51)).heap.size := by simp
  have hca4 := (hca.mono (So' := fun b => b < (w2.alloc (.cells #[.int .i64 1, .slice A1 1 c1, .int .i64 1, .slice A2 1 c2] 51)).heap.size) (Si' := fun b => b < (w2.alloc (.cells #[.int .i64 1, .slice A1 1 c1, .int .i64 1, .slice A2 1 c2] 51)).heap.size) (Keep.weaken fun b h => by rw [h]; exact hz3) (Keep.weaken fun b h => Nat.lt_trans h hz3)).lt_up (fun _ h => h) hb4
  have h56 : Below w4.heap.size w4 (w4.alloc (.cells #[.int .i64 1, .slice A4 1 c4, .int .i64 0, .slice none 0 0] 51)) := (Below.refl _ _).alloc (Nat.le_refl _) _
  have hz6 : w4.heap.size < (w4.alloc (.cells #[.int .i64 1, .slice A4 1 c4, .int .i64 0, .slice none 0 0] 51)).heap.size := by simp
  have hca6 := hca4.lt_up (fun _ h => h) h56
  have hcb6 := hcb.mono (So' := fun b => b < (w4.alloc (.cells #[.int .i64 1, .slice A4 1 c4, .int .i64 0, .slice none 0 0] 51)).heap.size) (Si' := fun b => b < (w4.alloc (.cells #[.int .i64 1, .slice A4 1 c4, .int .i64 0, .slice none 0 0] 51)).heap.size) (Keep.weaken fun b h => by rw [h]; exact hz6) (Keep.weaken fun b h => Nat.lt_trans h hz6)
  have hll : Slc RLine (fun b => b = w4.heap.size + 1) (fun b => b < (w4.alloc (.cells #[.int .i64 1, .slice A4 1 c4, .int .i64 0, .slice none 0 0] 51)).heap.size) ((w4.alloc (.cells #[.int .i64 1, .slice A4 1 c4, .int .i64 0, .slice none 0 0] 51)).alloc (.cells #[.slice (some ⟨w2.heap.size, 0, none⟩) 2 2, .bool true, .slice (some ⟨w4.heap.size, 0, none⟩) 2 2, .bool false] 54)) (.slice (some ⟨w4.heap.size + 1, 0, none⟩) 2 2) [([(1, [1]), (1, [2])], true), ([(1, [3]), (0, [])], false)] := Slc.litn _ (els_l2 hca6 hcb6) (Keep.alloc _ _ _) 2 rfl (by simp [maxLen]) _ (by simp)
  have hb8 : Below w.heap.size w (((w4.alloc (.cells #[.int .i64 1, .slice A4 1 c4, .int .i64 0, .slice none 0 0] 51)).alloc (.cells #[.slice (some ⟨w2.heap.size, 0, none⟩) 2 2, .bool true, .slice (some ⟨w4.heap.size, 0, none⟩) 2 2, .bool false] 54)).alloc (.cells #[.int .i64 2, .int .i64 2, .slice (some ⟨w4.heap.size + 1, 0, none⟩) 2 2, .int .i64 0, .int .i64 0, .bool false, .bool false] 40)) := ((hb4'.alloc hb4'.size (.cells #[.int .i64 1, .slice A4 1 c4, .int .i64 0, .slice none 0 0] 51)).alloc (by have := hb4'.size; simp; omega) (.cells #[.slice (some ⟨w2.heap.size, 0, none⟩) 2 2, .bool true, .slice (some ⟨w4.heap.size, 0, none⟩) 2 2, .bool false] 54)).alloc (by have := hb4'.size; simp; omega) _
  have hz8 := hb8.size
  have hs8 : (((w4.alloc (.cells #[.int .i64 1, .slice A4 1 c4, .int .i64 0, .slice none 0 0] 51)).alloc (.cells #[.slice (some ⟨w2.heap.size, 0, none⟩) 2 2, .bool true, .slice (some ⟨w4.heap.size, 0, none⟩) 2 2, .bool false] 54)).alloc (.cells #[.int .i64 2, .int .i64 2, .slice (some ⟨w4.heap.size + 1, 0, none⟩) 2 2, .int .i64 0, .int .i64 0, .bool false, .bool false] 40)).heap.size = w4.heap.size + 1 + 1 + 1 := by simp
  have bv : Blk (((w4.alloc (.cells #[.int .i64 1, .slice A4 1 c4, .int .i64 0, .slice none 0 0] 51)).alloc (.cells #[.slice (some ⟨w2.heap.size, 0, none⟩) 2 2, .bool true, .slice (some ⟨w4.heap.size, 0, none⟩) 2 2, .bool false] 54)).alloc (.cells #[.int .i64 2, .int .i64 2, .slice (some ⟨w4.heap.size + 1, 0, none⟩) 2 2, .int .i64 0, .int .i64 0, .bool false, .bool false] 40)) (w4.heap.size + 1 + 1) 40 #[.int .i64 2, .int .i64 2, .slice (some ⟨w4.heap.size + 1, 0, none⟩) 2 2, .int .i64 0, .int .i64 0, .bool false, .bool false] := by
    have := Blk.new ((w4.alloc (.cells #[.int .i64 1, .slice A4 1 c4, .int .i64 0, .slice none 0 0] 51)).alloc (.cells #[.slice (some ⟨w2.heap.size, 0, none⟩) 2 2, .bool true, .slice (some ⟨w4.heap.size, 0, none⟩) 2 2, .bool false] 54)) 40 #[.int .i64 2, .int .i64 2, .slice (some ⟨w4.heap.size + 1, 0, none⟩) 2 2, .int .i64 0, .int .i64 0, .bool false, .bool false]
    simpa using this
  have hls := (hll.mono (Keep.alloc _ _ (.cells #[.int .i64 2, .int .i64 2, .slice (some ⟨w4.heap.size + 1, 0, none⟩) 2 2, .int .i64 0, .int .i64 0, .bool false, .bool false] 40)) (Keep.alloc _ _ (.cells #[.int .i64 2, .int .i64 2, .slice (some ⟨w4.heap.size + 1, 0, none⟩) 2 2, .int .i64 0, .int .i64 0, .bool false, .bool false] 40))).mono (So' := fun b => b < (((w4.alloc (.cells #[.int .i64 1, .slice A4 1 c4, .int .i64 0, .slice none 0 0] 51)).alloc (.cells #[.slice (some ⟨w2.heap.size, 0, none⟩) 2 2, .bool true, .slice (some ⟨w4.heap.size, 0, none⟩) 2 2, .bool false] 54)).alloc (.cells #[.int .i64 2, .int .i64 2, .slice (some ⟨w4.heap.size + 1, 0, none⟩) 2 2, .int .i64 0, .int .i64 0, .bool false, .bool false] 40)).heap.size) (Si' := fun b => b < (((w4.alloc (.cells #[.int .i64 1, .slice A4 1 c4, .int .i64 0, .slice none 0 0] 51)).alloc (.cells #[.slice (some ⟨w2.heap.size, 0, none⟩) 2 2, .bool true, .slice (some ⟨w4.heap.size, 0, none⟩) 2 2, .bool false] 54)).alloc (.cells #[.int .i64 2, .int .i64 2, .slice (some ⟨w4.heap.size + 1, 0, none⟩) 2 2, .int .i64 0, .int .i64 0, .bool false, .bool false] 40)).heap.size) (Keep.weaken fun b h => by rw [hs8, h]; omega) (Keep.weaken fun b h => by rw [hs8]; simp at h; omega)
  clear hca hcb hca4 hca6 hcb6 hll hv1 hv2 hv4 hv1' hz3 hz6 h56
  go_upto_region 2 with fail
  generalize hW8 : ((w4.alloc (.cells #[.int .i64 1, .slice A4 1 c4, .int .i64 0, .slice none 0 0] 51)).alloc (.cells #[.slice (some ⟨w2.heap.size, 0, none⟩) 2 2, .bool true, .slice (some ⟨w4.heap.size, 0, none⟩) 2 2, .bool false] 54)).alloc (.cells #[.int .i64 2, .int .i64 2, .slice (some ⟨w4.heap.size + 1, 0, none⟩) 2 2, .int .i64 0, .int .i64 0, .bool false, .bool false] 40) = w8 at *
  have h89 : Below w8.heap.size w8 (w8.alloc (.cells #[.int .i32 2, .int .i32 3] 21)) := (Below.refl _ _).alloc (Nat.le_refl _) _
  have hb9 := hb8.alloc hz8 (.cells #[.int .i32 2, .int .i32 3] 21)
  have hlt := own_i32 w8 [2, 3] (by decide) 0 w8.heap.size 2 (Nat.zero_le _) rfl rfl (by simp [maxLen])
  simp only [List.map_cons, List.map_nil] at hlt
  have hly := hlt.slc.mono (So' := fun b => b < (w8.alloc (.cells #[.int .i32 2, .int .i32 3] 21)).heap.size) (Si' := fun b => b < (w8.alloc (.cells #[.int .i32 2, .int .i32 3] 21)).heap.size) (Keep.lt _ _) (Keep.lt _ _)
  have hA := All_ok b _ (fun _ => True) _ _ 2 2 0 0 false false [([(1, [1]), (1, [2])], true), ([(1, [3]), (0, [])], false)] [2, 3] (w8.alloc (.cells #[.int .i32 2, .int .i32 3] 21)) (HV.out.below hb9) (hls.lt_up (fun _ h => h) h89) hly (by simp) (by simp)
  rw [HAF.out] at hA
  have HA := hide hA
  have y0 := bv.cell 0
  have y1 := bv.cell 1
  have y2 := bv.cell 2
  have y3 := bv.cell 3
  have y4 := bv.cell 4
  have y5 := bv.cell 5
  have y6 := bv.cell 6
  simp only [List.getElem?_toArray, List.getElem?_cons_succ, List.getElem?_cons_zero] at y0 y1 y2 y3 y4 y5 y6
  clear hA hlt hly hls h89 hs8
  go_wp2_with fail
  refine HA.out.mono ?_
  rintro e w10 ⟨s10, rfl, hv10, hb10⟩
  have hb10' := hb9.trans (hb10.mono hb9.size)
  have hsl := hv10.slc
  obtain ⟨A10, c10, rfl, _, _, hslb⟩ := hsl.open_
  obtain ⟨g, off, rfl, _, q0, q1, q2⟩ := hit_at hslb (k := 0) (by simp)
  simp only [List.getElem_cons_zero, Nat.zero_mul, Nat.add_zero] at q0 q1 q2
  simp only [List.length_singleton]
  go_wp2
  go_ret
  exact ⟨rfl, hb10'⟩
end Go.Proofs.YtejhaepgbfngcaaDoor
