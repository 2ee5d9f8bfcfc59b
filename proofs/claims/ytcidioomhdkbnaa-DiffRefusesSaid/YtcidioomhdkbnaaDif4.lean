/-
  The law's works: it returns true.
-/
import Derived.Test.YtcidioomhdkbnaaDif3
namespace Go.Proofs.Ytcidioomhdkbnaa
open Go.RowKit
set_option linter.unusedVariables false
set_option linter.unusedSimpArgs false

set_option maxRecDepth 4096 in
set_option maxHeartbeats 4000000 in
theorem works46_ok (w : World) :
    Calls Try.prog 6 #[] w fun e w' => e = .returned (.bool true) ∧ Below w.heap.size w w' := by
  have hcd : chgU [([(1, [1]), (1, [2]), (1, [3])], false)] [([(1, [1]), (1, [5]), (1, [6])], false)] 1 = [(0, 1, [(1, [5]), (1, [6])])] := by decide
  have hra : rightV ⟨3, 1, [([(1, [1]), (1, [2]), (1, [3])], false)], 0, 0, false, false⟩ = true := by decide
  have hrb : rightV ⟨3, 1, [([(1, [1]), (1, [5]), (1, [6])], false)], 0, 0, false, false⟩ = true := by decide
  have HCD := hide hcd
  have HRA := hide hra
  have HRB := hide hrb
  clear hcd hra hrb
  go_enter Try.func6, Try.ntmps6
  go_wp2_with fail
  refine (one46_ok 1 (by decide) _).mono ?_
  rintro e w1 ⟨v1, rfl, hv1, hb1⟩
  obtain ⟨A1, c1, rfl, _, _, _⟩ := hv1.open_
  simp only [List.length_singleton] at hv1
  go_wp2_with fail
  refine (one46_ok 2 (by decide) _).mono ?_
  rintro e w2 ⟨v2, rfl, hv2, hb2⟩
  obtain ⟨A2, c2, rfl, _, _, _⟩ := hv2.open_
  simp only [List.length_singleton] at hv2
  go_wp2_with fail
  refine (one46_ok 3 (by decide) _).mono ?_
  rintro e w3 ⟨v3, rfl, hv3, hb3⟩
  obtain ⟨A3, c3, rfl, _, _, _⟩ := hv3.open_
  simp only [List.length_singleton] at hv3
  have hb3' := (hb1.trans (hb2.mono hb1.size)).trans (hb3.mono (Nat.le_trans hb1.size hb2.size))
  have hv1' := (hv1.lt_up2 hb2).lt_up2 hb3
  have hv2' := hv2.lt_up2 hb3
  obtain ⟨hll, bv, hbA, hsA⟩ := view_lit (w := w3) (p := false) (vs := #[.int .i64 3, .int .i64 1, .slice (some ⟨w3.heap.size + 1, 0, none⟩) 1 1, .int .i64 0, .int .i64 0, .bool false, .bool false]) 50 40 26 (els_3 (k := 1) (m := 1) (n := 1) (by decide) (by decide) (by decide) hv1' hv2' hv3) 3 rfl (by simp [maxLen])
  go_upto_region 2 with fail
  generalize hW4 : ((w3.alloc (.cells [.int .i64 1, .slice A1 1 c1, .int .i64 1, .slice A2 1 c2, .int .i64 1, .slice A3 1 c3].toArray 50)).alloc (.cells #[.slice (some ⟨w3.heap.size, 0, none⟩) 3 3, .bool false] 40)).alloc (.cells #[.int .i64 3, .int .i64 1, .slice (some ⟨w3.heap.size + 1, 0, none⟩) 1 1, .int .i64 0, .int .i64 0, .bool false, .bool false] 26) = w4 at *
  clear hW4
  rw [← hsA] at hll
  have hb4 := hb3'.trans (hbA.mono hb3'.size)
  have hg4 : w4.heap.size = w3.heap.size + 1 + 1 + 1 := hsA
  have HG4 := hide hg4
  clear hsA hg4 hv1 hv2 hv3 hv1' hv2'
  go_wp2_with fail
  refine (one46_ok 1 (by decide) _).mono ?_
  rintro e w5 ⟨v5, rfl, hv5, hb5⟩
  obtain ⟨A5, c5, rfl, _, _, _⟩ := hv5.open_
  simp only [List.length_singleton] at hv5
  go_wp2_with fail
  refine (one46_ok 5 (by decide) _).mono ?_
  rintro e w6 ⟨v6, rfl, hv6, hb6⟩
  obtain ⟨A6, c6, rfl, _, _, _⟩ := hv6.open_
  simp only [List.length_singleton] at hv6
  go_wp2_with fail
  refine (one46_ok 6 (by decide) _).mono ?_
  rintro e w7 ⟨v7, rfl, hv7, hb7⟩
  obtain ⟨A7, c7, rfl, _, _, _⟩ := hv7.open_
  simp only [List.length_singleton] at hv7
  have hb7' := (hb5.trans (hb6.mono hb5.size)).trans (hb7.mono (Nat.le_trans hb5.size hb6.size))
  have hv5' := (hv5.lt_up2 hb6).lt_up2 hb7
  have hv6' := hv6.lt_up2 hb7
  obtain ⟨hlm, bw, hbB, hsB⟩ := view_lit (w := w7) (p := false) (vs := #[.int .i64 3, .int .i64 1, .slice (some ⟨w7.heap.size + 1, 0, none⟩) 1 1, .int .i64 0, .int .i64 0, .bool false, .bool false]) 50 40 26 (els_3 (k := 1) (m := 1) (n := 1) (by decide) (by decide) (by decide) hv5' hv6' hv7) 3 rfl (by simp [maxLen])
  go_upto_region 3 with fail
  generalize hW8 : ((w7.alloc (.cells [.int .i64 1, .slice A5 1 c5, .int .i64 1, .slice A6 1 c6, .int .i64 1, .slice A7 1 c7].toArray 50)).alloc (.cells #[.slice (some ⟨w7.heap.size, 0, none⟩) 3 3, .bool false] 40)).alloc (.cells #[.int .i64 3, .int .i64 1, .slice (some ⟨w7.heap.size + 1, 0, none⟩) 1 1, .int .i64 0, .int .i64 0, .bool false, .bool false] 26) = w8 at *
  clear hW8
  rw [← hsB] at hlm
  have hb8 := (hb4.trans (hb7'.mono hb4.size)).trans (hbB.mono (Nat.le_trans hb4.size hb7'.size))
  have hll := (hll.lt_up2 hb7').lt_up2 hbB
  have bv := (bv.same hb7').same hbB
  clear hsB hv5 hv6 hv7 hv5' hv6'
  have hO := Of_eq _ _ _ _ 3 1 0 0 0 0 false false false false [([(1, [1]), (1, [2]), (1, [3])], false)] [([(1, [1]), (1, [5]), (1, [6])], false)] w8 hll hlm HRA.out HRB.out
  have HO := hide hO
  clear hO
  have y0 := bv.cell 0; have y1 := bv.cell 1; have y2 := bv.cell 2; have y3 := bv.cell 3; have y4 := bv.cell 4; have y5 := bv.cell 5; have y6 := bv.cell 6; simp only [List.getElem?_toArray, List.getElem?_cons_succ, List.getElem?_cons_zero] at y0 y1 y2 y3 y4 y5 y6; have z0 := bw.cell 0; have z1 := bw.cell 1; have z2 := bw.cell 2; have z3 := bw.cell 3; have z4 := bw.cell 4; have z5 := bw.cell 5; have z6 := bw.cell 6; simp only [List.getElem?_toArray, List.getElem?_cons_succ, List.getElem?_cons_zero] at z0 z1 z2 z3 z4 z5 z6
  go_wp2_with fail
  refine HO.out.mono ?_
  rintro e w9 ⟨sv, tv, rfl, hsv, htv, hc9⟩
  have hcd : chgU [([(1, [1]), (1, [2]), (1, [3])], false)] [([(1, [1]), (1, [5]), (1, [6])], false)] (List.length ( [([(1, [1]), (1, [2]), (1, [3])], false)] : List LineV)) = _ := HCD.out
  rw [hcd] at hsv
  obtain ⟨A9, c9, rfl, _, _, _⟩ := hsv.slc.open_
  obtain ⟨A10, c10, rfl, _, _, _⟩ := htv.slc.open_
  obtain ⟨n10, hn10⟩ : ∃ n, (wrapU [([(1, [1]), (1, [2]), (1, [3])], false)] [([(1, [1]), (1, [5]), (1, [6])], false)] (List.length ( [([(1, [1]), (1, [2]), (1, [3])], false)] : List LineV))).length = n := ⟨_, rfl⟩
  rw [hn10]
  have hb9 := hb8.trans (hc9.mono hb8.size)
  have hsv := hsv.alloc (.cells #[.slice A9 1 c9, .slice A10 n10 c10, .int .i64 0, .int .i64 0, .bool false, .bool false, .bool false, .int .i64 0, .int .i64 0, .slice none 0 0, .int .i64 0, .int .i64 0, .bool false, .bool false] 33)
  have hb10 := hb9.alloc hb9.size (.cells #[.slice A9 1 c9, .slice A10 n10 c10, .int .i64 0, .int .i64 0, .bool false, .bool false, .bool false, .int .i64 0, .int .i64 0, .slice none 0 0, .int .i64 0, .int .i64 0, .bool false, .bool false] 33)
  have hsl := hsv.slc.mono (So' := fun b => b < (w9.alloc (.cells #[.slice A9 1 c9, .slice A10 n10 c10, .int .i64 0, .int .i64 0, .bool false, .bool false, .bool false, .int .i64 0, .int .i64 0, .slice none 0 0, .int .i64 0, .int .i64 0, .bool false, .bool false] 33)).heap.size) (Si' := fun b => b < (w9.alloc (.cells #[.slice A9 1 c9, .slice A10 n10 c10, .int .i64 0, .int .i64 0, .bool false, .bool false, .bool false, .int .i64 0, .int .i64 0, .slice none 0 0, .int .i64 0, .int .i64 0, .bool false, .bool false] 33)).heap.size) (Keep.lt _ _) (Keep.lt _ _)
  obtain ⟨g, off, v9, rfl, _, p0, p1, p2, _, _, _⟩ := change_at hsl.slb (k := 0) (by simp)
  simp only [List.getElem_cons_zero, Nat.zero_mul, Nat.add_zero] at p0 p1 p2
  have hD := DCount_ok _ _ (.slice A10 n10 c10) (.slice none 0 0) 0 0 0 0 0 0 false false false false _ _ hsl rfl rfl (by simp) (by simp)
  have HD := hide hD
  clear hD y0 y1 y2 y3 y4 y5 y6 z0 z1 z2 z3 z4 z5 z6
  simp only [List.length_singleton]
  go_wp2_with fail
  refine HD.out.mono ?_
  rintro e w11 ⟨rfl, hc11⟩
  go_wp2
  go_ret
  exact ⟨rfl, hb10.trans (hc11.mono hb10.size)⟩
end Go.Proofs.Ytcidioomhdkbnaa
