/-
  The law's works: it returns true.
-/
import Derived.Test.YtejhaepgbfngcaaDoorReg9
namespace Go.Proofs.YtejhaepgbfngcaaDoor
open Go.RowKit
set_option linter.unusedVariables false
set_option linter.unusedSimpArgs false

/-- A row that is written out. -/
theorem Slc.litn {α : Type} {R : Rep α} {Si Si' : Nat → Prop} {w : World} {l : List α} {xs : List Value} (e : TypeId) (h : Els R Si w l xs) (hk : Keep Si w Si' (w.alloc (.cells xs.toArray e))) (n : Nat) (hn : l.length = n) (hm : n ≤ maxLen) (m : Nat) (hw : m = w.heap.size) :
    Slc R (fun b => b = m) Si' (w.alloc (.cells xs.toArray e)) (.slice (some ⟨m, 0, none⟩) n n) l := by
  subst hn
  subst hw
  refine ⟨_, _, rfl, Nat.le_refl _, hm, xs, h.mono hk, fun _ => ⟨_, rfl, rfl, fun j y hy => ?_⟩⟩
  have : (⟨w.heap.size, 0, none⟩ : Addr).add j = ⟨w.heap.size, j, none⟩ := by unfold Addr.add; split <;> simp_all
  rw [this, World.cell?_alloc_new]
  simpa using hy
theorem els_2 {S : Nat → Prop} {w : World} {k m : Int} {v u : Value} {t s : List Int} (hk : (Lit.int .i64 k).wf = true) (hm : (Lit.int .i64 m).wf = true) (hv : Slc (Rep.int .i32) S S w v t) (hu : Slc (Rep.int .i32) S S w u s) : Els RCell S w [(k, t), (m, s)] [.int .i64 k, v, .int .i64 m, u] :=
  Els.append (Els.single (R := RCell) ⟨_, _, rfl, ⟨rfl, hk⟩, _, rfl, hv⟩) (Els.single (R := RCell) ⟨_, _, rfl, ⟨rfl, hm⟩, _, rfl, hu⟩)
theorem els_l2 {S : Nat → Prop} {w : World} {v u : Value} {l m : List CellV} {p q : Bool} (hv : Slc RCell S S w v l) (hu : Slc RCell S S w u m) : Els RLine S w [(l, p), (m, q)] [v, .bool p, u, .bool q] :=
  Els.append (Els.single (R := RLine) ⟨_, _, rfl, ⟨_, rfl, hv⟩, rfl⟩) (Els.single (R := RLine) ⟨_, _, rfl, ⟨_, rfl, hu⟩, rfl⟩)
theorem Slc.lt_up {α : Type} {R : Rep α} {So : Nat → Prop} {w w' : World} {v : Value} {l : List α} (h : Slc R So (fun b => b < w.heap.size) w v l) (hSo : ∀ b, So b → b < w.heap.size) (hb : Below w.heap.size w w') : Slc R (fun b => b < w'.heap.size) (fun b => b < w'.heap.size) w' v l :=
  (h.mono (Keep.below (S := So) hb) (Keep.below (S := fun b => b < w.heap.size) hb)).mono (Keep.weaken fun b h => Nat.lt_of_lt_of_le (hSo b h) hb.size) (Keep.weaken fun b h => Nat.lt_of_lt_of_le h hb.size)

set_option maxRecDepth 4096 in
set_option maxHeartbeats 4000000 in
theorem works52_ok (b : Nat → Addr) (w : World) (hV : VarsA b w) :
    Calls Tryd.prog 23 #[] w fun e w' => e = .returned (.bool true) ∧ Below w.heap.size w w' := by
  have hrt : rightV ⟨2, 2, [([(1, [97]), (1, [98])], false), ([(1, [99]), (1, [32])], false)], 0, 0, false, false⟩ = true := by decide
  have htx : textF ⟨2, 2, [([(1, [97]), (1, [98])], false), ([(1, [99]), (1, [32])], false)], 0, 0, false, false⟩ 1 0 0 1 = [98, 10, 99] := by decide
  have hbx : (boxF ⟨2, 2, [([(1, [97]), (1, [98])], false), ([(1, [99]), (1, [32])], false)], 0, 0, false, false⟩ 0 0 1 0).length = 2 := by decide
  have HV := hide hV
  have HRT := hide hrt
  have HTX := hide htx
  have HBX := hide hbx
  clear hV hrt htx hbx
  go_enter Tryd.func23, Tryd.ntmps23
  go_wp2_with fail
  refine (one52_ok 97 (by decide) _).mono ?_
  rintro e w1 ⟨v1, rfl, hv1, hb1⟩
  obtain ⟨A1, c1, rfl, _, _, _⟩ := hv1.open_
  go_wp2_with fail
  refine (one52_ok 98 (by decide) _).mono ?_
  rintro e w2 ⟨v2, rfl, hv2, hb2⟩
  obtain ⟨A2, c2, rfl, _, _, _⟩ := hv2.open_
  simp only [List.length_singleton] at hv1 hv2
  have hb2' := hb1.trans (hb2.mono hb1.size)
  have hv1' := hv1.lt_up (fun _ h => h) hb2
  have hca : Slc RCell (fun b => b = w2.heap.size) (fun b => b < w2.heap.size) (w2.alloc (.cells #[.int .i64 1, .slice A1 1 c1, .int .i64 1, .slice A2 1 c2] 51)) (.slice (some ⟨w2.heap.size, 0, none⟩) 2 2) [(1, [97]), (1, [98])] := Slc.litn _ (els_2 (by decide) (by decide) hv1' hv2) (Keep.alloc _ _ _) 2 rfl (by simp [maxLen]) _ rfl
  have hb3 : Below w.heap.size w (w2.alloc (.cells #[.int .i64 1, .slice A1 1 c1, .int .i64 1, .slice A2 1 c2] 51)) := hb2'.alloc hb2'.size _
  go_wp2_with fail
  refine (one52_ok 99 (by decide) _).mono ?_
  rintro e w4 ⟨v4, rfl, hv4, hb4⟩
  obtain ⟨A4, c4, rfl, _, _, _⟩ := hv4.open_
  have hb4' := hb3.trans (hb4.mono hb3.size)
  go_wp2_with fail
  refine (one52_ok 32 (by decide) _).mono ?_
  rintro e w5 ⟨v5, rfl, hv5, hb5⟩
  obtain ⟨A5, c5, rfl, _, _, _⟩ := hv5.open_
  simp only [List.length_singleton] at hv4 hv5
  have hb5' := hb4'.trans (hb5.mono hb4'.size)
  have hv4' := hv4.lt_up (fun _ h => h) hb5
  have hcb : Slc RCell (fun b => b = w5.heap.size) (fun b => b < w5.heap.size) (w5.alloc (.cells #[.int .i64 1, .slice A4 1 c4, .int .i64 1, .slice A5 1 c5] 51)) (.slice (some ⟨w5.heap.size, 0, none⟩) 2 2) [(1, [99]), (1, [32])] := Slc.litn _ (els_2 (by decide) (by decide) hv4' hv5) (Keep.alloc _ _ _) 2 rfl (by simp [maxLen]) _ rfl
  have hz3 : w2.heap.size < (w2.alloc (.cells #[.int .i64 1, .slice A1 1 c1, .int .i64 1, .slice A2 1 c2] 51)).heap.size := by simp
  have hca4 := (hca.mono (So' := fun b => b < (w2.alloc (.cells #[.int .i64 1, .slice A1 1 c1, .int .i64 1, .slice A2 1 c2] 51)).heap.size) (Si' := fun b => b < (w2.alloc (.cells #[.int .i64 1, .slice A1 1 c1, .int .i64 1, .slice A2 1 c2] 51)).heap.size) (Keep.weaken fun b h => by rw [h]; exact hz3) (Keep.weaken fun b h => Nat.lt_trans h hz3)).lt_up (fun _ h => h) (hb4.trans (hb5.mono hb4.size))
  have h56 : Below w5.heap.size w5 (w5.alloc (.cells #[.int .i64 1, .slice A4 1 c4, .int .i64 1, .slice A5 1 c5] 51)) := (Below.refl _ _).alloc (Nat.le_refl _) _
  have hz6 : w5.heap.size < (w5.alloc (.cells #[.int .i64 1, .slice A4 1 c4, .int .i64 1, .slice A5 1 c5] 51)).heap.size := by simp
  have hca6 := hca4.lt_up (fun _ h => h) h56
  have hcb6 := hcb.mono (So' := fun b => b < (w5.alloc (.cells #[.int .i64 1, .slice A4 1 c4, .int .i64 1, .slice A5 1 c5] 51)).heap.size) (Si' := fun b => b < (w5.alloc (.cells #[.int .i64 1, .slice A4 1 c4, .int .i64 1, .slice A5 1 c5] 51)).heap.size) (Keep.weaken fun b h => by rw [h]; exact hz6) (Keep.weaken fun b h => Nat.lt_trans h hz6)
  have hll : Slc RLine (fun b => b = w5.heap.size + 1) (fun b => b < (w5.alloc (.cells #[.int .i64 1, .slice A4 1 c4, .int .i64 1, .slice A5 1 c5] 51)).heap.size) ((w5.alloc (.cells #[.int .i64 1, .slice A4 1 c4, .int .i64 1, .slice A5 1 c5] 51)).alloc (.cells #[.slice (some ⟨w2.heap.size, 0, none⟩) 2 2, .bool false, .slice (some ⟨w5.heap.size, 0, none⟩) 2 2, .bool false] 54)) (.slice (some ⟨w5.heap.size + 1, 0, none⟩) 2 2) [([(1, [97]), (1, [98])], false), ([(1, [99]), (1, [32])], false)] := Slc.litn _ (els_l2 hca6 hcb6) (Keep.alloc _ _ _) 2 rfl (by simp [maxLen]) _ (by simp)
  have hb8 : Below w.heap.size w (((w5.alloc (.cells #[.int .i64 1, .slice A4 1 c4, .int .i64 1, .slice A5 1 c5] 51)).alloc (.cells #[.slice (some ⟨w2.heap.size, 0, none⟩) 2 2, .bool false, .slice (some ⟨w5.heap.size, 0, none⟩) 2 2, .bool false] 54)).alloc (.cells #[.int .i64 2, .int .i64 2, .slice (some ⟨w5.heap.size + 1, 0, none⟩) 2 2, .int .i64 0, .int .i64 0, .bool false, .bool false] 40)) := ((hb5'.alloc hb5'.size (.cells #[.int .i64 1, .slice A4 1 c4, .int .i64 1, .slice A5 1 c5] 51)).alloc (by have := hb5'.size; simp; omega) (.cells #[.slice (some ⟨w2.heap.size, 0, none⟩) 2 2, .bool false, .slice (some ⟨w5.heap.size, 0, none⟩) 2 2, .bool false] 54)).alloc (by have := hb5'.size; simp; omega) _
  have hz8 := hb8.size
  have hs8 : (((w5.alloc (.cells #[.int .i64 1, .slice A4 1 c4, .int .i64 1, .slice A5 1 c5] 51)).alloc (.cells #[.slice (some ⟨w2.heap.size, 0, none⟩) 2 2, .bool false, .slice (some ⟨w5.heap.size, 0, none⟩) 2 2, .bool false] 54)).alloc (.cells #[.int .i64 2, .int .i64 2, .slice (some ⟨w5.heap.size + 1, 0, none⟩) 2 2, .int .i64 0, .int .i64 0, .bool false, .bool false] 40)).heap.size = w5.heap.size + 1 + 1 + 1 := by simp
  have bv : Blk (((w5.alloc (.cells #[.int .i64 1, .slice A4 1 c4, .int .i64 1, .slice A5 1 c5] 51)).alloc (.cells #[.slice (some ⟨w2.heap.size, 0, none⟩) 2 2, .bool false, .slice (some ⟨w5.heap.size, 0, none⟩) 2 2, .bool false] 54)).alloc (.cells #[.int .i64 2, .int .i64 2, .slice (some ⟨w5.heap.size + 1, 0, none⟩) 2 2, .int .i64 0, .int .i64 0, .bool false, .bool false] 40)) (w5.heap.size + 1 + 1) 40 #[.int .i64 2, .int .i64 2, .slice (some ⟨w5.heap.size + 1, 0, none⟩) 2 2, .int .i64 0, .int .i64 0, .bool false, .bool false] := by
    have := Blk.new ((w5.alloc (.cells #[.int .i64 1, .slice A4 1 c4, .int .i64 1, .slice A5 1 c5] 51)).alloc (.cells #[.slice (some ⟨w2.heap.size, 0, none⟩) 2 2, .bool false, .slice (some ⟨w5.heap.size, 0, none⟩) 2 2, .bool false] 54)) 40 #[.int .i64 2, .int .i64 2, .slice (some ⟨w5.heap.size + 1, 0, none⟩) 2 2, .int .i64 0, .int .i64 0, .bool false, .bool false]
    simpa using this
  have hls := (hll.mono (Keep.alloc _ _ (.cells #[.int .i64 2, .int .i64 2, .slice (some ⟨w5.heap.size + 1, 0, none⟩) 2 2, .int .i64 0, .int .i64 0, .bool false, .bool false] 40)) (Keep.alloc _ _ (.cells #[.int .i64 2, .int .i64 2, .slice (some ⟨w5.heap.size + 1, 0, none⟩) 2 2, .int .i64 0, .int .i64 0, .bool false, .bool false] 40))).mono (So' := fun b => b < (((w5.alloc (.cells #[.int .i64 1, .slice A4 1 c4, .int .i64 1, .slice A5 1 c5] 51)).alloc (.cells #[.slice (some ⟨w2.heap.size, 0, none⟩) 2 2, .bool false, .slice (some ⟨w5.heap.size, 0, none⟩) 2 2, .bool false] 54)).alloc (.cells #[.int .i64 2, .int .i64 2, .slice (some ⟨w5.heap.size + 1, 0, none⟩) 2 2, .int .i64 0, .int .i64 0, .bool false, .bool false] 40)).heap.size) (Si' := fun b => b < (((w5.alloc (.cells #[.int .i64 1, .slice A4 1 c4, .int .i64 1, .slice A5 1 c5] 51)).alloc (.cells #[.slice (some ⟨w2.heap.size, 0, none⟩) 2 2, .bool false, .slice (some ⟨w5.heap.size, 0, none⟩) 2 2, .bool false] 54)).alloc (.cells #[.int .i64 2, .int .i64 2, .slice (some ⟨w5.heap.size + 1, 0, none⟩) 2 2, .int .i64 0, .int .i64 0, .bool false, .bool false] 40)).heap.size) (Keep.weaken fun b h => by rw [hs8, h]; omega) (Keep.weaken fun b h => by rw [hs8]; simp at h; omega)
  have HLS := hide (fun (W : World) (h : Below (((w5.alloc (.cells #[.int .i64 1, .slice A4 1 c4, .int .i64 1, .slice A5 1 c5] 51)).alloc (.cells #[.slice (some ⟨w2.heap.size, 0, none⟩) 2 2, .bool false, .slice (some ⟨w5.heap.size, 0, none⟩) 2 2, .bool false] 54)).alloc (.cells #[.int .i64 2, .int .i64 2, .slice (some ⟨w5.heap.size + 1, 0, none⟩) 2 2, .int .i64 0, .int .i64 0, .bool false, .bool false] 40)).heap.size (((w5.alloc (.cells #[.int .i64 1, .slice A4 1 c4, .int .i64 1, .slice A5 1 c5] 51)).alloc (.cells #[.slice (some ⟨w2.heap.size, 0, none⟩) 2 2, .bool false, .slice (some ⟨w5.heap.size, 0, none⟩) 2 2, .bool false] 54)).alloc (.cells #[.int .i64 2, .int .i64 2, .slice (some ⟨w5.heap.size + 1, 0, none⟩) 2 2, .int .i64 0, .int .i64 0, .bool false, .bool false] 40)) W) => hls.lt_up (fun _ h => h) h)
  have HW := hide (Word0_ok b _ _ 2 2 0 0 false false _ _ (HV.out.below hb8) hls (by simp) (by simp) HRT.out (by decide) (by decide))
  clear hca hcb hca4 hca6 hcb6 hll hv1 hv2 hv4 hv5 hv1' hv4' hz3 hz6 h56 hls
  go_upto_region 2 with fail
  generalize hW8 : ((w5.alloc (.cells #[.int .i64 1, .slice A4 1 c4, .int .i64 1, .slice A5 1 c5] 51)).alloc (.cells #[.slice (some ⟨w2.heap.size, 0, none⟩) 2 2, .bool false, .slice (some ⟨w5.heap.size, 0, none⟩) 2 2, .bool false] 54)).alloc (.cells #[.int .i64 2, .int .i64 2, .slice (some ⟨w5.heap.size + 1, 0, none⟩) 2 2, .int .i64 0, .int .i64 0, .bool false, .bool false] 40) = w8 at *
  have y0 := bv.cell 0
  have y1 := bv.cell 1
  have y2 := bv.cell 2
  have y3 := bv.cell 3
  have y4 := bv.cell 4
  have y5 := bv.cell 5
  have y6 := bv.cell 6
  simp only [List.getElem?_toArray, List.getElem?_cons_succ, List.getElem?_cons_zero] at y0 y1 y2 y3 y4 y5 y6
  go_wp2_with fail
  refine HW.out.mono ?_
  rintro e w9 ⟨rfl, hb9⟩
  have hb9' := hb8.trans (hb9.mono hz8)
  have hz9 := hb9'.size
  have bv := bv.same hb9
  have y0 := bv.cell 0
  have y1 := bv.cell 1
  have y2 := bv.cell 2
  have y3 := bv.cell 3
  have y4 := bv.cell 4
  have y5 := bv.cell 5
  have y6 := bv.cell 6
  simp only [List.getElem?_toArray, List.getElem?_cons_succ, List.getElem?_cons_zero] at y0 y1 y2 y3 y4 y5 y6
  have HT := hide (Text_ok b _ _ 2 2 0 0 false false _ 1 0 0 1 w9 (HV.out.below hb9') (HLS.out w9 hb9) (by simp) (by simp))
  go_wp2_with fail
  refine HT.out.mono ?_
  rw [HTX.out]
  rintro e w10 ⟨s10, rfl, hv10, hb10⟩
  have hb10' := hb9'.trans (hb10.mono hz9)
  have hz10 := hb10'.size
  have bv := bv.same hb10
  have h910 : Below w8.heap.size w8 w10 := hb9.trans (hb10.mono hb9.size)
  have hsl := hv10.slc.flat_any (Flat.int .i32) (fun _ => False)
  have hlt := own_i32 w10 [98, 10, 99] (by decide) 0 w10.heap.size 3 (Nat.zero_le _) rfl rfl (by simp [maxLen])
  simp only [List.map_cons, List.map_nil] at hlt
  have hsa := hsl.flat_keep (Flat.int .i32) (So' := fun _ => True) (Si' := fun _ => False) (w' := w10.alloc (.cells #[.int .i32 98, .int .i32 10, .int .i32 99] 21)) (fun p v _ hc => ⟨trivial, (World.cell?_alloc_lt _ _ _ (World.block_lt_of_cell? w10 p hc)).trans hc⟩)
  have hS := Same_ok _ _ _ _ _ _ _ _ _ hsa hlt.slc
  rw [decide_eq_true rfl] at hS
  have HS := hide hS
  obtain ⟨A10, c10, rfl, _, _, _⟩ := hv10.slc.open_
  clear hsl hlt hsa hS
  go_wp2_with fail
  refine HS.out.mono ?_
  rintro e w11 ⟨rfl, q, rfl⟩
  have hb11 := below_drewN (hb10'.alloc hz10 (.cells #[.int .i32 98, .int .i32 10, .int .i32 99] 21)) q
  have h911 : Below w8.heap.size w8 ((w10.alloc (.cells #[.int .i32 98, .int .i32 10, .int .i32 99] 21)).drewN q) := below_drewN (h910.alloc h910.size _) q
  have bv := (bv.alloc (.cells #[.int .i32 98, .int .i32 10, .int .i32 99] 21)).drewN q
  generalize (w10.alloc (.cells #[.int .i32 98, .int .i32 10, .int .i32 99] 21)).drewN q = w12 at *
  have y0 := bv.cell 0
  have y1 := bv.cell 1
  have y2 := bv.cell 2
  have y3 := bv.cell 3
  have y4 := bv.cell 4
  have y5 := bv.cell 5
  have y6 := bv.cell 6
  simp only [List.getElem?_toArray, List.getElem?_cons_succ, List.getElem?_cons_zero] at y0 y1 y2 y3 y4 y5 y6
  have HB := hide (Box_ok b _ _ 2 2 0 0 false false _ 0 0 1 0 w12 (HV.out.below hb11) (HLS.out w12 h911) (by simp) (by simp))
  go_wp2_with fail
  refine HB.out.mono ?_
  rintro e w13 ⟨s13, rfl, hv13, hb13⟩
  obtain ⟨A13, c13, rfl, _, _, _⟩ := hv13.slc.open_
  have hlb := HBX.out
  generalize (boxF ⟨2, 2, [([(1, [97]), (1, [98])], false), ([(1, [99]), (1, [32])], false)], 0, 0, false, false⟩ 0 0 1 0).length = n13 at *
  subst hlb
  go_wp2
  go_ret
  exact ⟨rfl, hb11.trans (hb13.mono hb11.size)⟩
end Go.Proofs.YtejhaepgbfngcaaDoor
