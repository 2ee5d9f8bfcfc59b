import Derived.Test.YtdjpdllehhecpaaGreatDoorQ00
import Derived.Test.YtdjpdllehhecpaaGreatDoorQ07
open List renaming getElem?_toArray → zA, getElem?_cons_succ → zB, getElem?_cons_zero → zC, setIfInBounds_toArray → zD, set_cons_zero → zE, set_cons_succ → zF
namespace Go.Proofs.YtdjpdllehhecpaaGreatDoor
open Go.RowKit
set_option linter.unusedVariables false
set_option linter.unusedSimpArgs false
theorem pj_0_0 (w : World) : exF Tryz.prog 3 113 #[.int .i64 0, .int .i64 0] w = some (.int .i64 (pairF 0 0), w) := by kernel_rfl
theorem pj_0_1 (w : World) : exF Tryz.prog 3 113 #[.int .i64 0, .int .i64 1] w = some (.int .i64 (pairF 0 1), w) := by kernel_rfl
theorem pj_0_2 (w : World) : exF Tryz.prog 3 113 #[.int .i64 0, .int .i64 2] w = some (.int .i64 (pairF 0 2), w) := by kernel_rfl
theorem pj_0_3 (w : World) : exF Tryz.prog 3 113 #[.int .i64 0, .int .i64 3] w = some (.int .i64 (pairF 0 3), w) := by kernel_rfl
theorem pj_0_4 (w : World) : exF Tryz.prog 3 113 #[.int .i64 0, .int .i64 4] w = some (.int .i64 (pairF 0 4), w) := by kernel_rfl
theorem pj_0_5 (w : World) : exF Tryz.prog 3 113 #[.int .i64 0, .int .i64 5] w = some (.int .i64 (pairF 0 5), w) := by kernel_rfl
theorem pj_0_6 (w : World) : exF Tryz.prog 3 113 #[.int .i64 0, .int .i64 6] w = some (.int .i64 (pairF 0 6), w) := by kernel_rfl
theorem pj_0_7 (w : World) : exF Tryz.prog 3 113 #[.int .i64 0, .int .i64 7] w = some (.int .i64 (pairF 0 7), w) := by kernel_rfl
theorem pj_0_8 (w : World) : exF Tryz.prog 3 113 #[.int .i64 0, .int .i64 8] w = some (.int .i64 (pairF 0 8), w) := by kernel_rfl
theorem pj_0_9 (w : World) : exF Tryz.prog 3 113 #[.int .i64 0, .int .i64 9] w = some (.int .i64 (pairF 0 9), w) := by kernel_rfl
theorem pj_0_10 (w : World) : exF Tryz.prog 3 113 #[.int .i64 0, .int .i64 10] w = some (.int .i64 (pairF 0 10), w) := by kernel_rfl
theorem pj_0_11 (w : World) : exF Tryz.prog 3 113 #[.int .i64 0, .int .i64 11] w = some (.int .i64 (pairF 0 11), w) := by kernel_rfl
theorem pj_0_12 (w : World) : exF Tryz.prog 3 113 #[.int .i64 0, .int .i64 12] w = some (.int .i64 (pairF 0 12), w) := by kernel_rfl
theorem pj_0_13 (w : World) : exF Tryz.prog 3 113 #[.int .i64 0, .int .i64 13] w = some (.int .i64 (pairF 0 13), w) := by kernel_rfl
theorem pj_1_0 (w : World) : exF Tryz.prog 3 113 #[.int .i64 1, .int .i64 0] w = some (.int .i64 (pairF 1 0), w) := by kernel_rfl
theorem pj_1_1 (w : World) : exF Tryz.prog 3 113 #[.int .i64 1, .int .i64 1] w = some (.int .i64 (pairF 1 1), w) := by kernel_rfl
theorem pj_1_2 (w : World) : exF Tryz.prog 3 113 #[.int .i64 1, .int .i64 2] w = some (.int .i64 (pairF 1 2), w) := by kernel_rfl
theorem pj_1_3 (w : World) : exF Tryz.prog 3 113 #[.int .i64 1, .int .i64 3] w = some (.int .i64 (pairF 1 3), w) := by kernel_rfl
theorem pj_1_4 (w : World) : exF Tryz.prog 3 113 #[.int .i64 1, .int .i64 4] w = some (.int .i64 (pairF 1 4), w) := by kernel_rfl
theorem pj_1_5 (w : World) : exF Tryz.prog 3 113 #[.int .i64 1, .int .i64 5] w = some (.int .i64 (pairF 1 5), w) := by kernel_rfl
theorem pj_1_6 (w : World) : exF Tryz.prog 3 113 #[.int .i64 1, .int .i64 6] w = some (.int .i64 (pairF 1 6), w) := by kernel_rfl
theorem pj_1_7 (w : World) : exF Tryz.prog 3 113 #[.int .i64 1, .int .i64 7] w = some (.int .i64 (pairF 1 7), w) := by kernel_rfl
theorem pj_1_8 (w : World) : exF Tryz.prog 3 113 #[.int .i64 1, .int .i64 8] w = some (.int .i64 (pairF 1 8), w) := by kernel_rfl
theorem pj_1_9 (w : World) : exF Tryz.prog 3 113 #[.int .i64 1, .int .i64 9] w = some (.int .i64 (pairF 1 9), w) := by kernel_rfl
theorem pj_1_10 (w : World) : exF Tryz.prog 3 113 #[.int .i64 1, .int .i64 10] w = some (.int .i64 (pairF 1 10), w) := by kernel_rfl
theorem pj_1_11 (w : World) : exF Tryz.prog 3 113 #[.int .i64 1, .int .i64 11] w = some (.int .i64 (pairF 1 11), w) := by kernel_rfl
theorem pj_1_12 (w : World) : exF Tryz.prog 3 113 #[.int .i64 1, .int .i64 12] w = some (.int .i64 (pairF 1 12), w) := by kernel_rfl
theorem pj_1_13 (w : World) : exF Tryz.prog 3 113 #[.int .i64 1, .int .i64 13] w = some (.int .i64 (pairF 1 13), w) := by kernel_rfl
theorem pj_2_0 (w : World) : exF Tryz.prog 3 113 #[.int .i64 2, .int .i64 0] w = some (.int .i64 (pairF 2 0), w) := by kernel_rfl
theorem pj_2_1 (w : World) : exF Tryz.prog 3 113 #[.int .i64 2, .int .i64 1] w = some (.int .i64 (pairF 2 1), w) := by kernel_rfl
theorem pj_2_2 (w : World) : exF Tryz.prog 3 113 #[.int .i64 2, .int .i64 2] w = some (.int .i64 (pairF 2 2), w) := by kernel_rfl
theorem pj_2_3 (w : World) : exF Tryz.prog 3 113 #[.int .i64 2, .int .i64 3] w = some (.int .i64 (pairF 2 3), w) := by kernel_rfl
theorem pj_2_4 (w : World) : exF Tryz.prog 3 113 #[.int .i64 2, .int .i64 4] w = some (.int .i64 (pairF 2 4), w) := by kernel_rfl
theorem pj_2_5 (w : World) : exF Tryz.prog 3 113 #[.int .i64 2, .int .i64 5] w = some (.int .i64 (pairF 2 5), w) := by kernel_rfl
theorem pj_2_6 (w : World) : exF Tryz.prog 3 113 #[.int .i64 2, .int .i64 6] w = some (.int .i64 (pairF 2 6), w) := by kernel_rfl
theorem pj_2_7 (w : World) : exF Tryz.prog 3 113 #[.int .i64 2, .int .i64 7] w = some (.int .i64 (pairF 2 7), w) := by kernel_rfl
theorem pj_2_8 (w : World) : exF Tryz.prog 3 113 #[.int .i64 2, .int .i64 8] w = some (.int .i64 (pairF 2 8), w) := by kernel_rfl
theorem pj_2_9 (w : World) : exF Tryz.prog 3 113 #[.int .i64 2, .int .i64 9] w = some (.int .i64 (pairF 2 9), w) := by kernel_rfl
theorem pj_2_10 (w : World) : exF Tryz.prog 3 113 #[.int .i64 2, .int .i64 10] w = some (.int .i64 (pairF 2 10), w) := by kernel_rfl
theorem pj_2_11 (w : World) : exF Tryz.prog 3 113 #[.int .i64 2, .int .i64 11] w = some (.int .i64 (pairF 2 11), w) := by kernel_rfl
theorem pj_2_12 (w : World) : exF Tryz.prog 3 113 #[.int .i64 2, .int .i64 12] w = some (.int .i64 (pairF 2 12), w) := by kernel_rfl
theorem pj_2_13 (w : World) : exF Tryz.prog 3 113 #[.int .i64 2, .int .i64 13] w = some (.int .i64 (pairF 2 13), w) := by kernel_rfl
theorem pj_3_0 (w : World) : exF Tryz.prog 3 113 #[.int .i64 3, .int .i64 0] w = some (.int .i64 (pairF 3 0), w) := by kernel_rfl
theorem pj_3_1 (w : World) : exF Tryz.prog 3 113 #[.int .i64 3, .int .i64 1] w = some (.int .i64 (pairF 3 1), w) := by kernel_rfl
theorem pj_3_2 (w : World) : exF Tryz.prog 3 113 #[.int .i64 3, .int .i64 2] w = some (.int .i64 (pairF 3 2), w) := by kernel_rfl
theorem pj_3_3 (w : World) : exF Tryz.prog 3 113 #[.int .i64 3, .int .i64 3] w = some (.int .i64 (pairF 3 3), w) := by kernel_rfl
theorem pj_3_4 (w : World) : exF Tryz.prog 3 113 #[.int .i64 3, .int .i64 4] w = some (.int .i64 (pairF 3 4), w) := by kernel_rfl
theorem pj_3_5 (w : World) : exF Tryz.prog 3 113 #[.int .i64 3, .int .i64 5] w = some (.int .i64 (pairF 3 5), w) := by kernel_rfl
theorem pj_3_6 (w : World) : exF Tryz.prog 3 113 #[.int .i64 3, .int .i64 6] w = some (.int .i64 (pairF 3 6), w) := by kernel_rfl
theorem pj_3_7 (w : World) : exF Tryz.prog 3 113 #[.int .i64 3, .int .i64 7] w = some (.int .i64 (pairF 3 7), w) := by kernel_rfl
theorem pj_3_8 (w : World) : exF Tryz.prog 3 113 #[.int .i64 3, .int .i64 8] w = some (.int .i64 (pairF 3 8), w) := by kernel_rfl
theorem pj_3_9 (w : World) : exF Tryz.prog 3 113 #[.int .i64 3, .int .i64 9] w = some (.int .i64 (pairF 3 9), w) := by kernel_rfl
theorem pj_3_10 (w : World) : exF Tryz.prog 3 113 #[.int .i64 3, .int .i64 10] w = some (.int .i64 (pairF 3 10), w) := by kernel_rfl
theorem pj_3_11 (w : World) : exF Tryz.prog 3 113 #[.int .i64 3, .int .i64 11] w = some (.int .i64 (pairF 3 11), w) := by kernel_rfl
theorem pj_3_12 (w : World) : exF Tryz.prog 3 113 #[.int .i64 3, .int .i64 12] w = some (.int .i64 (pairF 3 12), w) := by kernel_rfl
theorem pj_3_13 (w : World) : exF Tryz.prog 3 113 #[.int .i64 3, .int .i64 13] w = some (.int .i64 (pairF 3 13), w) := by kernel_rfl
theorem pj_4_0 (w : World) : exF Tryz.prog 3 113 #[.int .i64 4, .int .i64 0] w = some (.int .i64 (pairF 4 0), w) := by kernel_rfl
theorem pj_4_1 (w : World) : exF Tryz.prog 3 113 #[.int .i64 4, .int .i64 1] w = some (.int .i64 (pairF 4 1), w) := by kernel_rfl
theorem pj_4_2 (w : World) : exF Tryz.prog 3 113 #[.int .i64 4, .int .i64 2] w = some (.int .i64 (pairF 4 2), w) := by kernel_rfl
theorem pj_4_3 (w : World) : exF Tryz.prog 3 113 #[.int .i64 4, .int .i64 3] w = some (.int .i64 (pairF 4 3), w) := by kernel_rfl
theorem pj_4_4 (w : World) : exF Tryz.prog 3 113 #[.int .i64 4, .int .i64 4] w = some (.int .i64 (pairF 4 4), w) := by kernel_rfl
theorem pj_4_5 (w : World) : exF Tryz.prog 3 113 #[.int .i64 4, .int .i64 5] w = some (.int .i64 (pairF 4 5), w) := by kernel_rfl
theorem pj_4_6 (w : World) : exF Tryz.prog 3 113 #[.int .i64 4, .int .i64 6] w = some (.int .i64 (pairF 4 6), w) := by kernel_rfl
theorem pj_4_7 (w : World) : exF Tryz.prog 3 113 #[.int .i64 4, .int .i64 7] w = some (.int .i64 (pairF 4 7), w) := by kernel_rfl
theorem pj_4_8 (w : World) : exF Tryz.prog 3 113 #[.int .i64 4, .int .i64 8] w = some (.int .i64 (pairF 4 8), w) := by kernel_rfl
theorem pj_4_9 (w : World) : exF Tryz.prog 3 113 #[.int .i64 4, .int .i64 9] w = some (.int .i64 (pairF 4 9), w) := by kernel_rfl
theorem pj_4_10 (w : World) : exF Tryz.prog 3 113 #[.int .i64 4, .int .i64 10] w = some (.int .i64 (pairF 4 10), w) := by kernel_rfl
theorem pj_4_11 (w : World) : exF Tryz.prog 3 113 #[.int .i64 4, .int .i64 11] w = some (.int .i64 (pairF 4 11), w) := by kernel_rfl
theorem pj_4_12 (w : World) : exF Tryz.prog 3 113 #[.int .i64 4, .int .i64 12] w = some (.int .i64 (pairF 4 12), w) := by kernel_rfl
theorem pj_4_13 (w : World) : exF Tryz.prog 3 113 #[.int .i64 4, .int .i64 13] w = some (.int .i64 (pairF 4 13), w) := by kernel_rfl
theorem pj_5_0 (w : World) : exF Tryz.prog 3 113 #[.int .i64 5, .int .i64 0] w = some (.int .i64 (pairF 5 0), w) := by kernel_rfl
theorem pj_5_1 (w : World) : exF Tryz.prog 3 113 #[.int .i64 5, .int .i64 1] w = some (.int .i64 (pairF 5 1), w) := by kernel_rfl
theorem pj_5_2 (w : World) : exF Tryz.prog 3 113 #[.int .i64 5, .int .i64 2] w = some (.int .i64 (pairF 5 2), w) := by kernel_rfl
theorem pj_5_3 (w : World) : exF Tryz.prog 3 113 #[.int .i64 5, .int .i64 3] w = some (.int .i64 (pairF 5 3), w) := by kernel_rfl
theorem pj_5_4 (w : World) : exF Tryz.prog 3 113 #[.int .i64 5, .int .i64 4] w = some (.int .i64 (pairF 5 4), w) := by kernel_rfl
theorem pj_5_5 (w : World) : exF Tryz.prog 3 113 #[.int .i64 5, .int .i64 5] w = some (.int .i64 (pairF 5 5), w) := by kernel_rfl
theorem pj_5_6 (w : World) : exF Tryz.prog 3 113 #[.int .i64 5, .int .i64 6] w = some (.int .i64 (pairF 5 6), w) := by kernel_rfl
theorem pj_5_7 (w : World) : exF Tryz.prog 3 113 #[.int .i64 5, .int .i64 7] w = some (.int .i64 (pairF 5 7), w) := by kernel_rfl
theorem pj_5_8 (w : World) : exF Tryz.prog 3 113 #[.int .i64 5, .int .i64 8] w = some (.int .i64 (pairF 5 8), w) := by kernel_rfl
theorem pj_5_9 (w : World) : exF Tryz.prog 3 113 #[.int .i64 5, .int .i64 9] w = some (.int .i64 (pairF 5 9), w) := by kernel_rfl
theorem pj_5_10 (w : World) : exF Tryz.prog 3 113 #[.int .i64 5, .int .i64 10] w = some (.int .i64 (pairF 5 10), w) := by kernel_rfl
theorem pj_5_11 (w : World) : exF Tryz.prog 3 113 #[.int .i64 5, .int .i64 11] w = some (.int .i64 (pairF 5 11), w) := by kernel_rfl
theorem pj_5_12 (w : World) : exF Tryz.prog 3 113 #[.int .i64 5, .int .i64 12] w = some (.int .i64 (pairF 5 12), w) := by kernel_rfl
theorem pj_5_13 (w : World) : exF Tryz.prog 3 113 #[.int .i64 5, .int .i64 13] w = some (.int .i64 (pairF 5 13), w) := by kernel_rfl
theorem pj_6_0 (w : World) : exF Tryz.prog 3 113 #[.int .i64 6, .int .i64 0] w = some (.int .i64 (pairF 6 0), w) := by kernel_rfl
theorem pj_6_1 (w : World) : exF Tryz.prog 3 113 #[.int .i64 6, .int .i64 1] w = some (.int .i64 (pairF 6 1), w) := by kernel_rfl
theorem pj_6_2 (w : World) : exF Tryz.prog 3 113 #[.int .i64 6, .int .i64 2] w = some (.int .i64 (pairF 6 2), w) := by kernel_rfl
theorem pj_6_3 (w : World) : exF Tryz.prog 3 113 #[.int .i64 6, .int .i64 3] w = some (.int .i64 (pairF 6 3), w) := by kernel_rfl
theorem pj_6_4 (w : World) : exF Tryz.prog 3 113 #[.int .i64 6, .int .i64 4] w = some (.int .i64 (pairF 6 4), w) := by kernel_rfl
theorem pj_6_5 (w : World) : exF Tryz.prog 3 113 #[.int .i64 6, .int .i64 5] w = some (.int .i64 (pairF 6 5), w) := by kernel_rfl
theorem pj_6_6 (w : World) : exF Tryz.prog 3 113 #[.int .i64 6, .int .i64 6] w = some (.int .i64 (pairF 6 6), w) := by kernel_rfl
theorem pj_6_7 (w : World) : exF Tryz.prog 3 113 #[.int .i64 6, .int .i64 7] w = some (.int .i64 (pairF 6 7), w) := by kernel_rfl
theorem pj_6_8 (w : World) : exF Tryz.prog 3 113 #[.int .i64 6, .int .i64 8] w = some (.int .i64 (pairF 6 8), w) := by kernel_rfl
theorem pj_6_9 (w : World) : exF Tryz.prog 3 113 #[.int .i64 6, .int .i64 9] w = some (.int .i64 (pairF 6 9), w) := by kernel_rfl
theorem pj_6_10 (w : World) : exF Tryz.prog 3 113 #[.int .i64 6, .int .i64 10] w = some (.int .i64 (pairF 6 10), w) := by kernel_rfl
theorem pj_6_11 (w : World) : exF Tryz.prog 3 113 #[.int .i64 6, .int .i64 11] w = some (.int .i64 (pairF 6 11), w) := by kernel_rfl
theorem pj_6_12 (w : World) : exF Tryz.prog 3 113 #[.int .i64 6, .int .i64 12] w = some (.int .i64 (pairF 6 12), w) := by kernel_rfl
theorem pj_6_13 (w : World) : exF Tryz.prog 3 113 #[.int .i64 6, .int .i64 13] w = some (.int .i64 (pairF 6 13), w) := by kernel_rfl
theorem pj_7_0 (w : World) : exF Tryz.prog 3 113 #[.int .i64 7, .int .i64 0] w = some (.int .i64 (pairF 7 0), w) := by kernel_rfl
theorem pj_7_1 (w : World) : exF Tryz.prog 3 113 #[.int .i64 7, .int .i64 1] w = some (.int .i64 (pairF 7 1), w) := by kernel_rfl
theorem pj_7_2 (w : World) : exF Tryz.prog 3 113 #[.int .i64 7, .int .i64 2] w = some (.int .i64 (pairF 7 2), w) := by kernel_rfl
theorem pj_7_3 (w : World) : exF Tryz.prog 3 113 #[.int .i64 7, .int .i64 3] w = some (.int .i64 (pairF 7 3), w) := by kernel_rfl
theorem pj_7_4 (w : World) : exF Tryz.prog 3 113 #[.int .i64 7, .int .i64 4] w = some (.int .i64 (pairF 7 4), w) := by kernel_rfl
theorem pj_7_5 (w : World) : exF Tryz.prog 3 113 #[.int .i64 7, .int .i64 5] w = some (.int .i64 (pairF 7 5), w) := by kernel_rfl
theorem pj_7_6 (w : World) : exF Tryz.prog 3 113 #[.int .i64 7, .int .i64 6] w = some (.int .i64 (pairF 7 6), w) := by kernel_rfl
theorem pj_7_7 (w : World) : exF Tryz.prog 3 113 #[.int .i64 7, .int .i64 7] w = some (.int .i64 (pairF 7 7), w) := by kernel_rfl
theorem pj_7_8 (w : World) : exF Tryz.prog 3 113 #[.int .i64 7, .int .i64 8] w = some (.int .i64 (pairF 7 8), w) := by kernel_rfl
theorem pj_7_9 (w : World) : exF Tryz.prog 3 113 #[.int .i64 7, .int .i64 9] w = some (.int .i64 (pairF 7 9), w) := by kernel_rfl
theorem pj_7_10 (w : World) : exF Tryz.prog 3 113 #[.int .i64 7, .int .i64 10] w = some (.int .i64 (pairF 7 10), w) := by kernel_rfl
theorem pj_7_11 (w : World) : exF Tryz.prog 3 113 #[.int .i64 7, .int .i64 11] w = some (.int .i64 (pairF 7 11), w) := by kernel_rfl
theorem pj_7_12 (w : World) : exF Tryz.prog 3 113 #[.int .i64 7, .int .i64 12] w = some (.int .i64 (pairF 7 12), w) := by kernel_rfl
theorem pj_7_13 (w : World) : exF Tryz.prog 3 113 #[.int .i64 7, .int .i64 13] w = some (.int .i64 (pairF 7 13), w) := by kernel_rfl
theorem pj_8_0 (w : World) : exF Tryz.prog 3 113 #[.int .i64 8, .int .i64 0] w = some (.int .i64 (pairF 8 0), w) := by kernel_rfl
theorem pj_8_1 (w : World) : exF Tryz.prog 3 113 #[.int .i64 8, .int .i64 1] w = some (.int .i64 (pairF 8 1), w) := by kernel_rfl
theorem pj_8_2 (w : World) : exF Tryz.prog 3 113 #[.int .i64 8, .int .i64 2] w = some (.int .i64 (pairF 8 2), w) := by kernel_rfl
theorem pj_8_3 (w : World) : exF Tryz.prog 3 113 #[.int .i64 8, .int .i64 3] w = some (.int .i64 (pairF 8 3), w) := by kernel_rfl
theorem pj_8_4 (w : World) : exF Tryz.prog 3 113 #[.int .i64 8, .int .i64 4] w = some (.int .i64 (pairF 8 4), w) := by kernel_rfl
theorem pj_8_5 (w : World) : exF Tryz.prog 3 113 #[.int .i64 8, .int .i64 5] w = some (.int .i64 (pairF 8 5), w) := by kernel_rfl
theorem pj_8_6 (w : World) : exF Tryz.prog 3 113 #[.int .i64 8, .int .i64 6] w = some (.int .i64 (pairF 8 6), w) := by kernel_rfl
theorem pj_8_7 (w : World) : exF Tryz.prog 3 113 #[.int .i64 8, .int .i64 7] w = some (.int .i64 (pairF 8 7), w) := by kernel_rfl
theorem pj_8_8 (w : World) : exF Tryz.prog 3 113 #[.int .i64 8, .int .i64 8] w = some (.int .i64 (pairF 8 8), w) := by kernel_rfl
theorem pj_8_9 (w : World) : exF Tryz.prog 3 113 #[.int .i64 8, .int .i64 9] w = some (.int .i64 (pairF 8 9), w) := by kernel_rfl
theorem pj_8_10 (w : World) : exF Tryz.prog 3 113 #[.int .i64 8, .int .i64 10] w = some (.int .i64 (pairF 8 10), w) := by kernel_rfl
theorem pj_8_11 (w : World) : exF Tryz.prog 3 113 #[.int .i64 8, .int .i64 11] w = some (.int .i64 (pairF 8 11), w) := by kernel_rfl
theorem pj_8_12 (w : World) : exF Tryz.prog 3 113 #[.int .i64 8, .int .i64 12] w = some (.int .i64 (pairF 8 12), w) := by kernel_rfl
theorem pj_8_13 (w : World) : exF Tryz.prog 3 113 #[.int .i64 8, .int .i64 13] w = some (.int .i64 (pairF 8 13), w) := by kernel_rfl
theorem pj_9_0 (w : World) : exF Tryz.prog 3 113 #[.int .i64 9, .int .i64 0] w = some (.int .i64 (pairF 9 0), w) := by kernel_rfl
theorem pj_9_1 (w : World) : exF Tryz.prog 3 113 #[.int .i64 9, .int .i64 1] w = some (.int .i64 (pairF 9 1), w) := by kernel_rfl
theorem pj_9_2 (w : World) : exF Tryz.prog 3 113 #[.int .i64 9, .int .i64 2] w = some (.int .i64 (pairF 9 2), w) := by kernel_rfl
theorem pj_9_3 (w : World) : exF Tryz.prog 3 113 #[.int .i64 9, .int .i64 3] w = some (.int .i64 (pairF 9 3), w) := by kernel_rfl
theorem pj_9_4 (w : World) : exF Tryz.prog 3 113 #[.int .i64 9, .int .i64 4] w = some (.int .i64 (pairF 9 4), w) := by kernel_rfl
theorem pj_9_5 (w : World) : exF Tryz.prog 3 113 #[.int .i64 9, .int .i64 5] w = some (.int .i64 (pairF 9 5), w) := by kernel_rfl
theorem pj_9_6 (w : World) : exF Tryz.prog 3 113 #[.int .i64 9, .int .i64 6] w = some (.int .i64 (pairF 9 6), w) := by kernel_rfl
theorem pj_9_7 (w : World) : exF Tryz.prog 3 113 #[.int .i64 9, .int .i64 7] w = some (.int .i64 (pairF 9 7), w) := by kernel_rfl
theorem pj_9_8 (w : World) : exF Tryz.prog 3 113 #[.int .i64 9, .int .i64 8] w = some (.int .i64 (pairF 9 8), w) := by kernel_rfl
theorem pj_9_9 (w : World) : exF Tryz.prog 3 113 #[.int .i64 9, .int .i64 9] w = some (.int .i64 (pairF 9 9), w) := by kernel_rfl
theorem pj_9_10 (w : World) : exF Tryz.prog 3 113 #[.int .i64 9, .int .i64 10] w = some (.int .i64 (pairF 9 10), w) := by kernel_rfl
theorem pj_9_11 (w : World) : exF Tryz.prog 3 113 #[.int .i64 9, .int .i64 11] w = some (.int .i64 (pairF 9 11), w) := by kernel_rfl
theorem pj_9_12 (w : World) : exF Tryz.prog 3 113 #[.int .i64 9, .int .i64 12] w = some (.int .i64 (pairF 9 12), w) := by kernel_rfl
theorem pj_9_13 (w : World) : exF Tryz.prog 3 113 #[.int .i64 9, .int .i64 13] w = some (.int .i64 (pairF 9 13), w) := by kernel_rfl
theorem pj_10_0 (w : World) : exF Tryz.prog 3 113 #[.int .i64 10, .int .i64 0] w = some (.int .i64 (pairF 10 0), w) := by kernel_rfl
theorem pj_10_1 (w : World) : exF Tryz.prog 3 113 #[.int .i64 10, .int .i64 1] w = some (.int .i64 (pairF 10 1), w) := by kernel_rfl
theorem pj_10_2 (w : World) : exF Tryz.prog 3 113 #[.int .i64 10, .int .i64 2] w = some (.int .i64 (pairF 10 2), w) := by kernel_rfl
theorem pj_10_3 (w : World) : exF Tryz.prog 3 113 #[.int .i64 10, .int .i64 3] w = some (.int .i64 (pairF 10 3), w) := by kernel_rfl
theorem pj_10_4 (w : World) : exF Tryz.prog 3 113 #[.int .i64 10, .int .i64 4] w = some (.int .i64 (pairF 10 4), w) := by kernel_rfl
theorem pj_10_5 (w : World) : exF Tryz.prog 3 113 #[.int .i64 10, .int .i64 5] w = some (.int .i64 (pairF 10 5), w) := by kernel_rfl
theorem pj_10_6 (w : World) : exF Tryz.prog 3 113 #[.int .i64 10, .int .i64 6] w = some (.int .i64 (pairF 10 6), w) := by kernel_rfl
theorem pj_10_7 (w : World) : exF Tryz.prog 3 113 #[.int .i64 10, .int .i64 7] w = some (.int .i64 (pairF 10 7), w) := by kernel_rfl
theorem pj_10_8 (w : World) : exF Tryz.prog 3 113 #[.int .i64 10, .int .i64 8] w = some (.int .i64 (pairF 10 8), w) := by kernel_rfl
theorem pj_10_9 (w : World) : exF Tryz.prog 3 113 #[.int .i64 10, .int .i64 9] w = some (.int .i64 (pairF 10 9), w) := by kernel_rfl
theorem pj_10_10 (w : World) : exF Tryz.prog 3 113 #[.int .i64 10, .int .i64 10] w = some (.int .i64 (pairF 10 10), w) := by kernel_rfl
theorem pj_10_11 (w : World) : exF Tryz.prog 3 113 #[.int .i64 10, .int .i64 11] w = some (.int .i64 (pairF 10 11), w) := by kernel_rfl
theorem pj_10_12 (w : World) : exF Tryz.prog 3 113 #[.int .i64 10, .int .i64 12] w = some (.int .i64 (pairF 10 12), w) := by kernel_rfl
theorem pj_10_13 (w : World) : exF Tryz.prog 3 113 #[.int .i64 10, .int .i64 13] w = some (.int .i64 (pairF 10 13), w) := by kernel_rfl
theorem pj_11_0 (w : World) : exF Tryz.prog 3 113 #[.int .i64 11, .int .i64 0] w = some (.int .i64 (pairF 11 0), w) := by kernel_rfl
theorem pj_11_1 (w : World) : exF Tryz.prog 3 113 #[.int .i64 11, .int .i64 1] w = some (.int .i64 (pairF 11 1), w) := by kernel_rfl
theorem pj_11_2 (w : World) : exF Tryz.prog 3 113 #[.int .i64 11, .int .i64 2] w = some (.int .i64 (pairF 11 2), w) := by kernel_rfl
theorem pj_11_3 (w : World) : exF Tryz.prog 3 113 #[.int .i64 11, .int .i64 3] w = some (.int .i64 (pairF 11 3), w) := by kernel_rfl
theorem pj_11_4 (w : World) : exF Tryz.prog 3 113 #[.int .i64 11, .int .i64 4] w = some (.int .i64 (pairF 11 4), w) := by kernel_rfl
theorem pj_11_5 (w : World) : exF Tryz.prog 3 113 #[.int .i64 11, .int .i64 5] w = some (.int .i64 (pairF 11 5), w) := by kernel_rfl
theorem pj_11_6 (w : World) : exF Tryz.prog 3 113 #[.int .i64 11, .int .i64 6] w = some (.int .i64 (pairF 11 6), w) := by kernel_rfl
theorem pj_11_7 (w : World) : exF Tryz.prog 3 113 #[.int .i64 11, .int .i64 7] w = some (.int .i64 (pairF 11 7), w) := by kernel_rfl
theorem pj_11_8 (w : World) : exF Tryz.prog 3 113 #[.int .i64 11, .int .i64 8] w = some (.int .i64 (pairF 11 8), w) := by kernel_rfl
theorem pj_11_9 (w : World) : exF Tryz.prog 3 113 #[.int .i64 11, .int .i64 9] w = some (.int .i64 (pairF 11 9), w) := by kernel_rfl
theorem pj_11_10 (w : World) : exF Tryz.prog 3 113 #[.int .i64 11, .int .i64 10] w = some (.int .i64 (pairF 11 10), w) := by kernel_rfl
theorem pj_11_11 (w : World) : exF Tryz.prog 3 113 #[.int .i64 11, .int .i64 11] w = some (.int .i64 (pairF 11 11), w) := by kernel_rfl
theorem pj_11_12 (w : World) : exF Tryz.prog 3 113 #[.int .i64 11, .int .i64 12] w = some (.int .i64 (pairF 11 12), w) := by kernel_rfl
theorem pj_11_13 (w : World) : exF Tryz.prog 3 113 #[.int .i64 11, .int .i64 13] w = some (.int .i64 (pairF 11 13), w) := by kernel_rfl
theorem pj_12_0 (w : World) : exF Tryz.prog 3 113 #[.int .i64 12, .int .i64 0] w = some (.int .i64 (pairF 12 0), w) := by kernel_rfl
theorem pj_12_1 (w : World) : exF Tryz.prog 3 113 #[.int .i64 12, .int .i64 1] w = some (.int .i64 (pairF 12 1), w) := by kernel_rfl
theorem pj_12_2 (w : World) : exF Tryz.prog 3 113 #[.int .i64 12, .int .i64 2] w = some (.int .i64 (pairF 12 2), w) := by kernel_rfl
theorem pj_12_3 (w : World) : exF Tryz.prog 3 113 #[.int .i64 12, .int .i64 3] w = some (.int .i64 (pairF 12 3), w) := by kernel_rfl
theorem pj_12_4 (w : World) : exF Tryz.prog 3 113 #[.int .i64 12, .int .i64 4] w = some (.int .i64 (pairF 12 4), w) := by kernel_rfl
theorem pj_12_5 (w : World) : exF Tryz.prog 3 113 #[.int .i64 12, .int .i64 5] w = some (.int .i64 (pairF 12 5), w) := by kernel_rfl
theorem pj_12_6 (w : World) : exF Tryz.prog 3 113 #[.int .i64 12, .int .i64 6] w = some (.int .i64 (pairF 12 6), w) := by kernel_rfl
theorem pj_12_7 (w : World) : exF Tryz.prog 3 113 #[.int .i64 12, .int .i64 7] w = some (.int .i64 (pairF 12 7), w) := by kernel_rfl
theorem pj_12_8 (w : World) : exF Tryz.prog 3 113 #[.int .i64 12, .int .i64 8] w = some (.int .i64 (pairF 12 8), w) := by kernel_rfl
theorem pj_12_9 (w : World) : exF Tryz.prog 3 113 #[.int .i64 12, .int .i64 9] w = some (.int .i64 (pairF 12 9), w) := by kernel_rfl
theorem pj_12_10 (w : World) : exF Tryz.prog 3 113 #[.int .i64 12, .int .i64 10] w = some (.int .i64 (pairF 12 10), w) := by kernel_rfl
theorem pj_12_11 (w : World) : exF Tryz.prog 3 113 #[.int .i64 12, .int .i64 11] w = some (.int .i64 (pairF 12 11), w) := by kernel_rfl
theorem pj_12_12 (w : World) : exF Tryz.prog 3 113 #[.int .i64 12, .int .i64 12] w = some (.int .i64 (pairF 12 12), w) := by kernel_rfl
theorem pj_12_13 (w : World) : exF Tryz.prog 3 113 #[.int .i64 12, .int .i64 13] w = some (.int .i64 (pairF 12 13), w) := by kernel_rfl
theorem pj_13_0 (w : World) : exF Tryz.prog 3 113 #[.int .i64 13, .int .i64 0] w = some (.int .i64 (pairF 13 0), w) := by kernel_rfl
theorem pj_13_1 (w : World) : exF Tryz.prog 3 113 #[.int .i64 13, .int .i64 1] w = some (.int .i64 (pairF 13 1), w) := by kernel_rfl
theorem pj_13_2 (w : World) : exF Tryz.prog 3 113 #[.int .i64 13, .int .i64 2] w = some (.int .i64 (pairF 13 2), w) := by kernel_rfl
theorem pj_13_3 (w : World) : exF Tryz.prog 3 113 #[.int .i64 13, .int .i64 3] w = some (.int .i64 (pairF 13 3), w) := by kernel_rfl
theorem pj_13_4 (w : World) : exF Tryz.prog 3 113 #[.int .i64 13, .int .i64 4] w = some (.int .i64 (pairF 13 4), w) := by kernel_rfl
theorem pj_13_5 (w : World) : exF Tryz.prog 3 113 #[.int .i64 13, .int .i64 5] w = some (.int .i64 (pairF 13 5), w) := by kernel_rfl
theorem pj_13_6 (w : World) : exF Tryz.prog 3 113 #[.int .i64 13, .int .i64 6] w = some (.int .i64 (pairF 13 6), w) := by kernel_rfl
theorem pj_13_7 (w : World) : exF Tryz.prog 3 113 #[.int .i64 13, .int .i64 7] w = some (.int .i64 (pairF 13 7), w) := by kernel_rfl
theorem pj_13_8 (w : World) : exF Tryz.prog 3 113 #[.int .i64 13, .int .i64 8] w = some (.int .i64 (pairF 13 8), w) := by kernel_rfl
theorem pj_13_9 (w : World) : exF Tryz.prog 3 113 #[.int .i64 13, .int .i64 9] w = some (.int .i64 (pairF 13 9), w) := by kernel_rfl
theorem pj_13_10 (w : World) : exF Tryz.prog 3 113 #[.int .i64 13, .int .i64 10] w = some (.int .i64 (pairF 13 10), w) := by kernel_rfl
theorem pj_13_11 (w : World) : exF Tryz.prog 3 113 #[.int .i64 13, .int .i64 11] w = some (.int .i64 (pairF 13 11), w) := by kernel_rfl
theorem pj_13_12 (w : World) : exF Tryz.prog 3 113 #[.int .i64 13, .int .i64 12] w = some (.int .i64 (pairF 13 12), w) := by kernel_rfl
theorem pj_13_13 (w : World) : exF Tryz.prog 3 113 #[.int .i64 13, .int .i64 13] w = some (.int .i64 (pairF 13 13), w) := by kernel_rfl
theorem pjoin_ok (a b : Int) (ha0 : 0 ≤ a) (ha1 : a ≤ 13) (hb0 : 0 ≤ b) (hb1 : b ≤ 13) (w : World) :
    Calls Tryz.prog 113 #[.int .i64 a, .int .i64 b] w fun e w' => e = .returned (.int .i64 (pairF a b)) ∧ w = w' := by
  rcases (by omega : a = 0 ∨ a = 1 ∨ a = 2 ∨ a = 3 ∨ a = 4 ∨ a = 5 ∨ a = 6 ∨ a = 7 ∨ a = 8 ∨ a = 9 ∨ a = 10 ∨ a = 11 ∨ a = 12 ∨ a = 13) with rfl | rfl | rfl | rfl | rfl | rfl | rfl | rfl | rfl | rfl | rfl | rfl | rfl | rfl
  · rcases (by omega : b = 0 ∨ b = 1 ∨ b = 2 ∨ b = 3 ∨ b = 4 ∨ b = 5 ∨ b = 6 ∨ b = 7 ∨ b = 8 ∨ b = 9 ∨ b = 10 ∨ b = 11 ∨ b = 12 ∨ b = 13) with rfl | rfl | rfl | rfl | rfl | rfl | rfl | rfl | rfl | rfl | rfl | rfl | rfl | rfl
    · exact calls_ex 3 pj_0_0
    · exact calls_ex 3 pj_0_1
    · exact calls_ex 3 pj_0_2
    · exact calls_ex 3 pj_0_3
    · exact calls_ex 3 pj_0_4
    · exact calls_ex 3 pj_0_5
    · exact calls_ex 3 pj_0_6
    · exact calls_ex 3 pj_0_7
    · exact calls_ex 3 pj_0_8
    · exact calls_ex 3 pj_0_9
    · exact calls_ex 3 pj_0_10
    · exact calls_ex 3 pj_0_11
    · exact calls_ex 3 pj_0_12
    · exact calls_ex 3 pj_0_13
  · rcases (by omega : b = 0 ∨ b = 1 ∨ b = 2 ∨ b = 3 ∨ b = 4 ∨ b = 5 ∨ b = 6 ∨ b = 7 ∨ b = 8 ∨ b = 9 ∨ b = 10 ∨ b = 11 ∨ b = 12 ∨ b = 13) with rfl | rfl | rfl | rfl | rfl | rfl | rfl | rfl | rfl | rfl | rfl | rfl | rfl | rfl
    · exact calls_ex 3 pj_1_0
    · exact calls_ex 3 pj_1_1
    · exact calls_ex 3 pj_1_2
    · exact calls_ex 3 pj_1_3
    · exact calls_ex 3 pj_1_4
    · exact calls_ex 3 pj_1_5
    · exact calls_ex 3 pj_1_6
    · exact calls_ex 3 pj_1_7
    · exact calls_ex 3 pj_1_8
    · exact calls_ex 3 pj_1_9
    · exact calls_ex 3 pj_1_10
    · exact calls_ex 3 pj_1_11
    · exact calls_ex 3 pj_1_12
    · exact calls_ex 3 pj_1_13
  · rcases (by omega : b = 0 ∨ b = 1 ∨ b = 2 ∨ b = 3 ∨ b = 4 ∨ b = 5 ∨ b = 6 ∨ b = 7 ∨ b = 8 ∨ b = 9 ∨ b = 10 ∨ b = 11 ∨ b = 12 ∨ b = 13) with rfl | rfl | rfl | rfl | rfl | rfl | rfl | rfl | rfl | rfl | rfl | rfl | rfl | rfl
    · exact calls_ex 3 pj_2_0
    · exact calls_ex 3 pj_2_1
    · exact calls_ex 3 pj_2_2
    · exact calls_ex 3 pj_2_3
    · exact calls_ex 3 pj_2_4
    · exact calls_ex 3 pj_2_5
    · exact calls_ex 3 pj_2_6
    · exact calls_ex 3 pj_2_7
    · exact calls_ex 3 pj_2_8
    · exact calls_ex 3 pj_2_9
    · exact calls_ex 3 pj_2_10
    · exact calls_ex 3 pj_2_11
    · exact calls_ex 3 pj_2_12
    · exact calls_ex 3 pj_2_13
  · rcases (by omega : b = 0 ∨ b = 1 ∨ b = 2 ∨ b = 3 ∨ b = 4 ∨ b = 5 ∨ b = 6 ∨ b = 7 ∨ b = 8 ∨ b = 9 ∨ b = 10 ∨ b = 11 ∨ b = 12 ∨ b = 13) with rfl | rfl | rfl | rfl | rfl | rfl | rfl | rfl | rfl | rfl | rfl | rfl | rfl | rfl
    · exact calls_ex 3 pj_3_0
    · exact calls_ex 3 pj_3_1
    · exact calls_ex 3 pj_3_2
    · exact calls_ex 3 pj_3_3
    · exact calls_ex 3 pj_3_4
    · exact calls_ex 3 pj_3_5
    · exact calls_ex 3 pj_3_6
    · exact calls_ex 3 pj_3_7
    · exact calls_ex 3 pj_3_8
    · exact calls_ex 3 pj_3_9
    · exact calls_ex 3 pj_3_10
    · exact calls_ex 3 pj_3_11
    · exact calls_ex 3 pj_3_12
    · exact calls_ex 3 pj_3_13
  · rcases (by omega : b = 0 ∨ b = 1 ∨ b = 2 ∨ b = 3 ∨ b = 4 ∨ b = 5 ∨ b = 6 ∨ b = 7 ∨ b = 8 ∨ b = 9 ∨ b = 10 ∨ b = 11 ∨ b = 12 ∨ b = 13) with rfl | rfl | rfl | rfl | rfl | rfl | rfl | rfl | rfl | rfl | rfl | rfl | rfl | rfl
    · exact calls_ex 3 pj_4_0
    · exact calls_ex 3 pj_4_1
    · exact calls_ex 3 pj_4_2
    · exact calls_ex 3 pj_4_3
    · exact calls_ex 3 pj_4_4
    · exact calls_ex 3 pj_4_5
    · exact calls_ex 3 pj_4_6
    · exact calls_ex 3 pj_4_7
    · exact calls_ex 3 pj_4_8
    · exact calls_ex 3 pj_4_9
    · exact calls_ex 3 pj_4_10
    · exact calls_ex 3 pj_4_11
    · exact calls_ex 3 pj_4_12
    · exact calls_ex 3 pj_4_13
  · rcases (by omega : b = 0 ∨ b = 1 ∨ b = 2 ∨ b = 3 ∨ b = 4 ∨ b = 5 ∨ b = 6 ∨ b = 7 ∨ b = 8 ∨ b = 9 ∨ b = 10 ∨ b = 11 ∨ b = 12 ∨ b = 13) with rfl | rfl | rfl | rfl | rfl | rfl | rfl | rfl | rfl | rfl | rfl | rfl | rfl | rfl
    · exact calls_ex 3 pj_5_0
    · exact calls_ex 3 pj_5_1
    · exact calls_ex 3 pj_5_2
    · exact calls_ex 3 pj_5_3
    · exact calls_ex 3 pj_5_4
    · exact calls_ex 3 pj_5_5
    · exact calls_ex 3 pj_5_6
    · exact calls_ex 3 pj_5_7
    · exact calls_ex 3 pj_5_8
    · exact calls_ex 3 pj_5_9
    · exact calls_ex 3 pj_5_10
    · exact calls_ex 3 pj_5_11
    · exact calls_ex 3 pj_5_12
    · exact calls_ex 3 pj_5_13
  · rcases (by omega : b = 0 ∨ b = 1 ∨ b = 2 ∨ b = 3 ∨ b = 4 ∨ b = 5 ∨ b = 6 ∨ b = 7 ∨ b = 8 ∨ b = 9 ∨ b = 10 ∨ b = 11 ∨ b = 12 ∨ b = 13) with rfl | rfl | rfl | rfl | rfl | rfl | rfl | rfl | rfl | rfl | rfl | rfl | rfl | rfl
    · exact calls_ex 3 pj_6_0
    · exact calls_ex 3 pj_6_1
    · exact calls_ex 3 pj_6_2
    · exact calls_ex 3 pj_6_3
    · exact calls_ex 3 pj_6_4
    · exact calls_ex 3 pj_6_5
    · exact calls_ex 3 pj_6_6
    · exact calls_ex 3 pj_6_7
    · exact calls_ex 3 pj_6_8
    · exact calls_ex 3 pj_6_9
    · exact calls_ex 3 pj_6_10
    · exact calls_ex 3 pj_6_11
    · exact calls_ex 3 pj_6_12
    · exact calls_ex 3 pj_6_13
  · rcases (by omega : b = 0 ∨ b = 1 ∨ b = 2 ∨ b = 3 ∨ b = 4 ∨ b = 5 ∨ b = 6 ∨ b = 7 ∨ b = 8 ∨ b = 9 ∨ b = 10 ∨ b = 11 ∨ b = 12 ∨ b = 13) with rfl | rfl | rfl | rfl | rfl | rfl | rfl | rfl | rfl | rfl | rfl | rfl | rfl | rfl
    · exact calls_ex 3 pj_7_0
    · exact calls_ex 3 pj_7_1
    · exact calls_ex 3 pj_7_2
    · exact calls_ex 3 pj_7_3
    · exact calls_ex 3 pj_7_4
    · exact calls_ex 3 pj_7_5
    · exact calls_ex 3 pj_7_6
    · exact calls_ex 3 pj_7_7
    · exact calls_ex 3 pj_7_8
    · exact calls_ex 3 pj_7_9
    · exact calls_ex 3 pj_7_10
    · exact calls_ex 3 pj_7_11
    · exact calls_ex 3 pj_7_12
    · exact calls_ex 3 pj_7_13
  · rcases (by omega : b = 0 ∨ b = 1 ∨ b = 2 ∨ b = 3 ∨ b = 4 ∨ b = 5 ∨ b = 6 ∨ b = 7 ∨ b = 8 ∨ b = 9 ∨ b = 10 ∨ b = 11 ∨ b = 12 ∨ b = 13) with rfl | rfl | rfl | rfl | rfl | rfl | rfl | rfl | rfl | rfl | rfl | rfl | rfl | rfl
    · exact calls_ex 3 pj_8_0
    · exact calls_ex 3 pj_8_1
    · exact calls_ex 3 pj_8_2
    · exact calls_ex 3 pj_8_3
    · exact calls_ex 3 pj_8_4
    · exact calls_ex 3 pj_8_5
    · exact calls_ex 3 pj_8_6
    · exact calls_ex 3 pj_8_7
    · exact calls_ex 3 pj_8_8
    · exact calls_ex 3 pj_8_9
    · exact calls_ex 3 pj_8_10
    · exact calls_ex 3 pj_8_11
    · exact calls_ex 3 pj_8_12
    · exact calls_ex 3 pj_8_13
  · rcases (by omega : b = 0 ∨ b = 1 ∨ b = 2 ∨ b = 3 ∨ b = 4 ∨ b = 5 ∨ b = 6 ∨ b = 7 ∨ b = 8 ∨ b = 9 ∨ b = 10 ∨ b = 11 ∨ b = 12 ∨ b = 13) with rfl | rfl | rfl | rfl | rfl | rfl | rfl | rfl | rfl | rfl | rfl | rfl | rfl | rfl
    · exact calls_ex 3 pj_9_0
    · exact calls_ex 3 pj_9_1
    · exact calls_ex 3 pj_9_2
    · exact calls_ex 3 pj_9_3
    · exact calls_ex 3 pj_9_4
    · exact calls_ex 3 pj_9_5
    · exact calls_ex 3 pj_9_6
    · exact calls_ex 3 pj_9_7
    · exact calls_ex 3 pj_9_8
    · exact calls_ex 3 pj_9_9
    · exact calls_ex 3 pj_9_10
    · exact calls_ex 3 pj_9_11
    · exact calls_ex 3 pj_9_12
    · exact calls_ex 3 pj_9_13
  · rcases (by omega : b = 0 ∨ b = 1 ∨ b = 2 ∨ b = 3 ∨ b = 4 ∨ b = 5 ∨ b = 6 ∨ b = 7 ∨ b = 8 ∨ b = 9 ∨ b = 10 ∨ b = 11 ∨ b = 12 ∨ b = 13) with rfl | rfl | rfl | rfl | rfl | rfl | rfl | rfl | rfl | rfl | rfl | rfl | rfl | rfl
    · exact calls_ex 3 pj_10_0
    · exact calls_ex 3 pj_10_1
    · exact calls_ex 3 pj_10_2
    · exact calls_ex 3 pj_10_3
    · exact calls_ex 3 pj_10_4
    · exact calls_ex 3 pj_10_5
    · exact calls_ex 3 pj_10_6
    · exact calls_ex 3 pj_10_7
    · exact calls_ex 3 pj_10_8
    · exact calls_ex 3 pj_10_9
    · exact calls_ex 3 pj_10_10
    · exact calls_ex 3 pj_10_11
    · exact calls_ex 3 pj_10_12
    · exact calls_ex 3 pj_10_13
  · rcases (by omega : b = 0 ∨ b = 1 ∨ b = 2 ∨ b = 3 ∨ b = 4 ∨ b = 5 ∨ b = 6 ∨ b = 7 ∨ b = 8 ∨ b = 9 ∨ b = 10 ∨ b = 11 ∨ b = 12 ∨ b = 13) with rfl | rfl | rfl | rfl | rfl | rfl | rfl | rfl | rfl | rfl | rfl | rfl | rfl | rfl
    · exact calls_ex 3 pj_11_0
    · exact calls_ex 3 pj_11_1
    · exact calls_ex 3 pj_11_2
    · exact calls_ex 3 pj_11_3
    · exact calls_ex 3 pj_11_4
    · exact calls_ex 3 pj_11_5
    · exact calls_ex 3 pj_11_6
    · exact calls_ex 3 pj_11_7
    · exact calls_ex 3 pj_11_8
    · exact calls_ex 3 pj_11_9
    · exact calls_ex 3 pj_11_10
    · exact calls_ex 3 pj_11_11
    · exact calls_ex 3 pj_11_12
    · exact calls_ex 3 pj_11_13
  · rcases (by omega : b = 0 ∨ b = 1 ∨ b = 2 ∨ b = 3 ∨ b = 4 ∨ b = 5 ∨ b = 6 ∨ b = 7 ∨ b = 8 ∨ b = 9 ∨ b = 10 ∨ b = 11 ∨ b = 12 ∨ b = 13) with rfl | rfl | rfl | rfl | rfl | rfl | rfl | rfl | rfl | rfl | rfl | rfl | rfl | rfl
    · exact calls_ex 3 pj_12_0
    · exact calls_ex 3 pj_12_1
    · exact calls_ex 3 pj_12_2
    · exact calls_ex 3 pj_12_3
    · exact calls_ex 3 pj_12_4
    · exact calls_ex 3 pj_12_5
    · exact calls_ex 3 pj_12_6
    · exact calls_ex 3 pj_12_7
    · exact calls_ex 3 pj_12_8
    · exact calls_ex 3 pj_12_9
    · exact calls_ex 3 pj_12_10
    · exact calls_ex 3 pj_12_11
    · exact calls_ex 3 pj_12_12
    · exact calls_ex 3 pj_12_13
  · rcases (by omega : b = 0 ∨ b = 1 ∨ b = 2 ∨ b = 3 ∨ b = 4 ∨ b = 5 ∨ b = 6 ∨ b = 7 ∨ b = 8 ∨ b = 9 ∨ b = 10 ∨ b = 11 ∨ b = 12 ∨ b = 13) with rfl | rfl | rfl | rfl | rfl | rfl | rfl | rfl | rfl | rfl | rfl | rfl | rfl | rfl
    · exact calls_ex 3 pj_13_0
    · exact calls_ex 3 pj_13_1
    · exact calls_ex 3 pj_13_2
    · exact calls_ex 3 pj_13_3
    · exact calls_ex 3 pj_13_4
    · exact calls_ex 3 pj_13_5
    · exact calls_ex 3 pj_13_6
    · exact calls_ex 3 pj_13_7
    · exact calls_ex 3 pj_13_8
    · exact calls_ex 3 pj_13_9
    · exact calls_ex 3 pj_13_10
    · exact calls_ex 3 pj_13_11
    · exact calls_ex 3 pj_13_12
    · exact calls_ex 3 pj_13_13
end Go.Proofs.YtdjpdllehhecpaaGreatDoor
