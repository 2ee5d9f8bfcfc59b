/-
  The law that a patch, applied, is the other view: the walk returns true and leaves the memory that was there as it was.
-/
import Derived.Test.YtcidioomhdkbnaaDif9
namespace Go.Proofs.Ytcidioomhdkbnaa
open Go.RowKit
set_option linter.unusedVariables false
set_option linter.unusedSimpArgs false

theorem andB_no {wd wd' hi hi' : Int} (h : ¬ (wd = wd' ∧ hi = hi')) : (true && true && decide (wd = wd') && decide (hi = hi')) = false := by
  by_cases h1 : wd = wd'
  · have h2 : ¬ hi = hi' := fun e => h ⟨h1, e⟩
    simp [h2]
  · simp [h1]
theorem count46 {Pg : Program} {f : FuncId} {vs : Array Value} {W : World} {a b : Nat} (h : a = b) (hC : Calls Pg f vs W fun e w' => e = .returned (.int .i64 a) ∧ Below W.heap.size W w') : Calls Pg f vs W fun e w' => e = .returned (.int .i64 b) ∧ Below W.heap.size W w' := by
  subst h; exact hC

set_option maxRecDepth 100000 in
set_option maxHeartbeats 8000000 in
theorem walkV_DiffApplies (So To : Nat → Prop) (x y : Value) (wd hi r c wd' hi' r' c' : Int) (p au p' au' : Bool) (ls ls' : List LineV) (w : World) (hx : Slc RLine So (fun b => b < w.heap.size) w x ls) (hy : Slc RLine To (fun b => b < w.heap.size) w y ls') (hok : LinesOk ls) (hok' : LinesOk ls') :
    Calls Try.prog 4 #[.agg #[.int .i64 wd, .int .i64 hi, x, .int .i64 r, .int .i64 c, .bool p, .bool au], .agg #[.int .i64 wd', .int .i64 hi', y, .int .i64 r', .int .i64 c', .bool p', .bool au']] w fun e w' => e = .returned (.bool true) ∧ Below w.heap.size w w' := by
  obtain ⟨A, cp, rfl, _, _, _⟩ := hx.open_
  obtain ⟨B, cq, rfl, _, _, _⟩ := hy.open_
  have hb0 : Below w.heap.size w ((w.alloc (.cells #[.int .i64 wd, .int .i64 hi, .slice A ls.length cp, .int .i64 r, .int .i64 c, .bool p, .bool au] 26)).alloc (.cells #[.int .i64 wd', .int .i64 hi', .slice B ls'.length cq, .int .i64 r', .int .i64 c', .bool p', .bool au'] 26)) := ((Below.refl _ w).alloc (Nat.le_refl _) _).alloc (by simp) _
  have bv : Blk ((w.alloc (.cells #[.int .i64 wd, .int .i64 hi, .slice A ls.length cp, .int .i64 r, .int .i64 c, .bool p, .bool au] 26)).alloc (.cells #[.int .i64 wd', .int .i64 hi', .slice B ls'.length cq, .int .i64 r', .int .i64 c', .bool p', .bool au'] 26)) w.heap.size 26 #[.int .i64 wd, .int .i64 hi, .slice A ls.length cp, .int .i64 r, .int .i64 c, .bool p, .bool au] := (Blk.new w 26 #[.int .i64 wd, .int .i64 hi, .slice A ls.length cp, .int .i64 r, .int .i64 c, .bool p, .bool au]).alloc _
  have bw : Blk ((w.alloc (.cells #[.int .i64 wd, .int .i64 hi, .slice A ls.length cp, .int .i64 r, .int .i64 c, .bool p, .bool au] 26)).alloc (.cells #[.int .i64 wd', .int .i64 hi', .slice B ls'.length cq, .int .i64 r', .int .i64 c', .bool p', .bool au'] 26)) (w.heap.size + 1) 26 #[.int .i64 wd', .int .i64 hi', .slice B ls'.length cq, .int .i64 r', .int .i64 c', .bool p', .bool au'] := by
    have := Blk.new (w.alloc (.cells #[.int .i64 wd, .int .i64 hi, .slice A ls.length cp, .int .i64 r, .int .i64 c, .bool p, .bool au] 26)) 26 #[.int .i64 wd', .int .i64 hi', .slice B ls'.length cq, .int .i64 r', .int .i64 c', .bool p', .bool au']
    simpa using this
  have HX := hide (fun W (h : Below w.heap.size w W) => (hx.mono (Keep.below (S := So) h) (Keep.below (S := fun b => b < w.heap.size) h)).mono (Keep.refl _ _) (Keep.weaken (S' := fun b => b < W.heap.size) fun b hb => by have := h.size; omega))
  have HY := hide (fun W (h : Below w.heap.size w W) => (hy.mono (Keep.below (S := To) h) (Keep.below (S := fun b => b < w.heap.size) h)).mono (Keep.refl _ _) (Keep.weaken (S' := fun b => b < W.heap.size) fun b hb => by have := h.size; omega))
  have HGA := hide (fun W (h : Below w.heap.size w W) => great46_ok _ _ wd hi r c p au ls W (HX.out W h) hok)
  have HGB := hide (fun W (h : Below w.heap.size w W) => great46_ok _ _ wd' hi' r' c' p' au' ls' W (HY.out W h) hok')
  have HBO := hide (fun (h1 : ls.length ≤ 200 ∧ ∀ l ∈ ls, l.1.length ≤ 2000) (h2 : ls'.length ≤ 200 ∧ ∀ l ∈ ls', l.1.length ≤ 2000) W (h : Below w.heap.size w W) => Both_ok _ _ _ _ wd hi r c wd' hi' r' c' p au p' au' ls ls' W (HX.out W h) (HY.out W h) (fun l hl => by have := h1.2 l hl; omega) (by omega) (fun l hl => by have := h2.2 l hl; omega) (by omega))
  have HRA := hide (fun (h1 : ls.length ≤ 200 ∧ ∀ l ∈ ls, l.1.length ≤ 2000) W (h : Below w.heap.size w W) => rRight43_ok _ _ wd hi r c p au ls W (HX.out W h) (fun l hl => by have := h1.2 l hl; omega) (by omega))
  have HRB := hide (fun (h1 : ls'.length ≤ 200 ∧ ∀ l ∈ ls', l.1.length ≤ 2000) W (h : Below w.heap.size w W) => rRight43_ok _ _ wd' hi' r' c' p' au' ls' W (HY.out W h) (fun l hl => by have := h1.2 l hl; omega) (by omega))
  clear hok hok'
  generalize hW0 : (w.alloc (.cells #[.int .i64 wd, .int .i64 hi, .slice A ls.length cp, .int .i64 r, .int .i64 c, .bool p, .bool au] 26)).alloc (.cells #[.int .i64 wd', .int .i64 hi', .slice B ls'.length cq, .int .i64 r', .int .i64 c', .bool p', .bool au'] 26) = w0 at *
  have hz0 := hb0.size
  go_enter Try.func4, Try.ntmps4
  have y0 := bv.cell 0; have y1 := bv.cell 1; have y2 := bv.cell 2; have y3 := bv.cell 3; have y4 := bv.cell 4; have y5 := bv.cell 5; have y6 := bv.cell 6; simp only [List.getElem?_toArray, List.getElem?_cons_succ, List.getElem?_cons_zero] at y0 y1 y2 y3 y4 y5 y6; have z0 := bw.cell 0; have z1 := bw.cell 1; have z2 := bw.cell 2; have z3 := bw.cell 3; have z4 := bw.cell 4; have z5 := bw.cell 5; have z6 := bw.cell 6; simp only [List.getElem?_toArray, List.getElem?_cons_succ, List.getElem?_cons_zero] at z0 z1 z2 z3 z4 z5 z6
  go_wp2_with fail
  refine (works46_ok _).mono ?_
  rintro e w1 ⟨rfl, hc1⟩
  have hb1 := hb0.trans (hc1.mono hz0)
  have hz1 := hb1.size
  have bv := bv.same hc1
  have bw := bw.same hc1
  clear hc1
  have y0 := bv.cell 0; have y1 := bv.cell 1; have y2 := bv.cell 2; have y3 := bv.cell 3; have y4 := bv.cell 4; have y5 := bv.cell 5; have y6 := bv.cell 6; simp only [List.getElem?_toArray, List.getElem?_cons_succ, List.getElem?_cons_zero] at y0 y1 y2 y3 y4 y5 y6; have z0 := bw.cell 0; have z1 := bw.cell 1; have z2 := bw.cell 2; have z3 := bw.cell 3; have z4 := bw.cell 4; have z5 := bw.cell 5; have z6 := bw.cell 6; simp only [List.getElem?_toArray, List.getElem?_cons_succ, List.getElem?_cons_zero] at z0 z1 z2 z3 z4 z5 z6
  go_wp2_with fail
  refine (HGA.out _ hb1).mono ?_
  rintro e w2 ⟨vg, rfl, ⟨g, rfl, hga⟩, hc2⟩
  have hb2 := hb1.trans (hc2.mono hz1)
  have hz2 := hb2.size
  have bv := bv.same hc2
  have bw := bw.same hc2
  clear hc2
  have y0 := bv.cell 0; have y1 := bv.cell 1; have y2 := bv.cell 2; have y3 := bv.cell 3; have y4 := bv.cell 4; have y5 := bv.cell 5; have y6 := bv.cell 6; simp only [List.getElem?_toArray, List.getElem?_cons_succ, List.getElem?_cons_zero] at y0 y1 y2 y3 y4 y5 y6; have z0 := bw.cell 0; have z1 := bw.cell 1; have z2 := bw.cell 2; have z3 := bw.cell 3; have z4 := bw.cell 4; have z5 := bw.cell 5; have z6 := bw.cell 6; simp only [List.getElem?_toArray, List.getElem?_cons_succ, List.getElem?_cons_zero] at z0 z1 z2 z3 z4 z5 z6
  cases g with
  | true =>
    clear hga
    go_wp2_with fail
    refine (works46_ok _).mono ?_
    rintro e w9 ⟨rfl, hc9⟩
    go_wp2
    go_ret
    exact ⟨rfl, hb2.trans (hc9.mono hb2.size)⟩
  | false =>
  have HGA2 := hide (hga rfl)
  clear hga
  go_wp2_with fail
  refine (HGB.out _ hb2).mono ?_
  rintro e w3 ⟨vg, rfl, ⟨g, rfl, hgb⟩, hc3⟩
  have hb3 := hb2.trans (hc3.mono hz2)
  have hz3 := hb3.size
  have bv := bv.same hc3
  have bw := bw.same hc3
  clear hc3
  have y0 := bv.cell 0; have y1 := bv.cell 1; have y2 := bv.cell 2; have y3 := bv.cell 3; have y4 := bv.cell 4; have y5 := bv.cell 5; have y6 := bv.cell 6; simp only [List.getElem?_toArray, List.getElem?_cons_succ, List.getElem?_cons_zero] at y0 y1 y2 y3 y4 y5 y6; have z0 := bw.cell 0; have z1 := bw.cell 1; have z2 := bw.cell 2; have z3 := bw.cell 3; have z4 := bw.cell 4; have z5 := bw.cell 5; have z6 := bw.cell 6; simp only [List.getElem?_toArray, List.getElem?_cons_succ, List.getElem?_cons_zero] at z0 z1 z2 z3 z4 z5 z6
  cases g with
  | true =>
    clear hgb
    go_wp2_with fail
    refine (works46_ok _).mono ?_
    rintro e w9 ⟨rfl, hc9⟩
    go_wp2
    go_ret
    exact ⟨rfl, hb3.trans (hc9.mono hb3.size)⟩
  | false =>
  have HGB2 := hide (hgb rfl)
  clear hgb HGA HGB
  by_cases hR : rightV ⟨wd, hi, ls, r, c, p, au⟩ = true ∧ rightV ⟨wd', hi', ls', r', c', p', au'⟩ = true
  · obtain ⟨hra, hrb⟩ := hR
    have hsa := fun W (h : Below w.heap.size w W) => Of_eq _ _ _ _ wd hi r c r c p au p au ls ls W (HX.out W h) (HX.out W h) hra hra
    simp only [chgU_self, wrapU_self] at hsa
    have HSA := hide hsa
    have hRA := HRA.out HGA2.out
    have hRB := HRB.out HGB2.out
    rw [hra] at hRA
    rw [hrb] at hRB
    clear hsa HRA HRB
    have HRA := hide hRA
    have HRB := hide hRB
    have HTA := hide (texts_right hra)
    have HTB := hide (texts_right hrb)
    have HGR := hide (Rgt46.of hra)
    clear hRA hRB
    by_cases hS : wd = wd' ∧ hi = hi'
    · obtain ⟨hwd, hhi⟩ := hS
      have HWD := hide hwd.symm
      have HHI := hide hhi.symm
      subst hwd
      subst hhi
      have HO := hide (Of_eq _ _ _ _ wd hi r c r' c' p au p' au' ls ls' w3 (HX.out _ hb3) (HY.out _ hb3) hra hrb)
      have HAE := hide (apply_eq ⟨0, 0, [], 0, 0, false, false⟩ hra hrb)
      have HGS := hide (Rgt46.of hrb)
      have HCN := hide (fun W (h : Below w.heap.size w W) => Cnt46_ok _ _ _ _ wd hi r c r' c' p au p' au' ls ls' W (HX.out W h) (HY.out W h) HGR.out HGS.out)
      have hbo := HBO.out HGA2.out HGB2.out
      rw [hra, hrb] at hbo
      simp only [decide_true, Bool.and_self] at hbo
      have HBT := hide hbo
      clear hra hrb HBO hbo
      go_wp2_with fail
      refine HO.out.mono ?_
      rintro e w4 ⟨sv, tv, rfl, hsv, htv, hc4⟩
      obtain ⟨A3, c3, rfl, _, _, _⟩ := hsv.slc.open_
      obtain ⟨A4, c4, rfl, _, _, _⟩ := htv.slc.open_
      have hae := HAE.out
      have hlc := lenD_cnt HGR.out HGS.out
      have hcc := chg_cells HGR.out HGS.out
      have hol := chgU_len ls ls' (lnD_short HGR.out) ls.length
      have hwl := wrapU_len ls ls' ls.length
      generalize chgU ls ls' ls.length = os at *
      generalize wrapU ls ls' ls.length = ts at *
      have hkm : ls.length * (1024 + 1) ≤ 200 * 1025 := Nat.mul_le_mul HGA2.out.1 (Nat.le_refl _)
      have hol : os.length ≤ 1000000000 := by omega
      have hol2 : os.length ≤ 1000000 := by omega
      have hwl : ts.length ≤ 100000 := by have := HGR.out.hl; have := HGR.out.h2; omega
      have HLC := hide hlc
      have HCC := hide hcc
      have HOL := hide hol2
      have HWL := hide hwl
      have HAE2 := hide hae
      clear hae hlc hcc hol hol2 hwl hkm
      have hb4 := hb3.trans (hc4.mono hz3)
      have hz4 := hb4.size
      have bv := (bv.same hc4).alloc (.cells #[.slice A3 os.length c3, .slice A4 ts.length c4, .int .i64 r', .int .i64 c', .bool p', .bool au', .bool false, .int .i64 0, .int .i64 0, .slice none 0 0, .int .i64 0, .int .i64 0, .bool false, .bool false] 33)
      have bw := (bw.same hc4).alloc (.cells #[.slice A3 os.length c3, .slice A4 ts.length c4, .int .i64 r', .int .i64 c', .bool p', .bool au', .bool false, .int .i64 0, .int .i64 0, .slice none 0 0, .int .i64 0, .int .i64 0, .bool false, .bool false] 33)
      have bp := Blk.new w4 33 #[.slice A3 os.length c3, .slice A4 ts.length c4, .int .i64 r', .int .i64 c', .bool p', .bool au', .bool false, .int .i64 0, .int .i64 0, .slice none 0 0, .int .i64 0, .int .i64 0, .bool false, .bool false]
      have hb5 := hb4.alloc hz4 (.cells #[.slice A3 os.length c3, .slice A4 ts.length c4, .int .i64 r', .int .i64 c', .bool p', .bool au', .bool false, .int .i64 0, .int .i64 0, .slice none 0 0, .int .i64 0, .int .i64 0, .bool false, .bool false] 33)
      have hsv := hsv.alloc (.cells #[.slice A3 os.length c3, .slice A4 ts.length c4, .int .i64 r', .int .i64 c', .bool p', .bool au', .bool false, .int .i64 0, .int .i64 0, .slice none 0 0, .int .i64 0, .int .i64 0, .bool false, .bool false] 33)
      have htv := htv.alloc (.cells #[.slice A3 os.length c3, .slice A4 ts.length c4, .int .i64 r', .int .i64 c', .bool p', .bool au', .bool false, .int .i64 0, .int .i64 0, .slice none 0 0, .int .i64 0, .int .i64 0, .bool false, .bool false] 33)
      clear hc4
      go_upto_region 4 with fail
      obtain ⟨gp, hgp⟩ : ∃ gp, w4.heap.size = gp := ⟨_, rfl⟩
      rw [hgp] at bp ⊢
      generalize w4.alloc (.cells #[.slice A3 os.length c3, .slice A4 ts.length c4, .int .i64 r', .int .i64 c', .bool p', .bool au', .bool false, .int .i64 0, .int .i64 0, .slice none 0 0, .int .i64 0, .int .i64 0, .bool false, .bool false] 33) = w5 at *
      clear hgp
      have hz5 := hb5.size
      have hsv := hsv.slc.mono (So' := fun b => b < w5.heap.size) (Si' := fun b => b < w5.heap.size) (Keep.lt _ _) (Keep.lt _ _)
      have htv := htv.slc.mono (So' := fun b => b < w5.heap.size) (Si' := fun b => b < w5.heap.size) (Keep.lt _ _) (Keep.lt _ _)
      have y0 := bv.cell 0; have y1 := bv.cell 1; have y2 := bv.cell 2; have y3 := bv.cell 3; have y4 := bv.cell 4; have y5 := bv.cell 5; have y6 := bv.cell 6; simp only [List.getElem?_toArray, List.getElem?_cons_succ, List.getElem?_cons_zero] at y0 y1 y2 y3 y4 y5 y6; have z0 := bw.cell 0; have z1 := bw.cell 1; have z2 := bw.cell 2; have z3 := bw.cell 3; have z4 := bw.cell 4; have z5 := bw.cell 5; have z6 := bw.cell 6; simp only [List.getElem?_toArray, List.getElem?_cons_succ, List.getElem?_cons_zero] at z0 z1 z2 z3 z4 z5 z6
      go_wp2_with fail
      refine (HRA.out _ hb5).mono ?_
      rintro e w6 ⟨rfl, hcx⟩
      have hb6 := hb5.trans (hcx.mono hb5.size)
      have bv := bv.same hcx
      have bw := bw.same hcx
      have bp := bp.same hcx
      have hsv := hsv.lt_up2 hcx
      have htv := htv.lt_up2 hcx
      clear hcx y0 y1 y2 y3 y4 y5 y6 z0 z1 z2 z3 z4 z5 z6
      have y0 := bv.cell 0; have y1 := bv.cell 1; have y2 := bv.cell 2; have y3 := bv.cell 3; have y4 := bv.cell 4; have y5 := bv.cell 5; have y6 := bv.cell 6; simp only [List.getElem?_toArray, List.getElem?_cons_succ, List.getElem?_cons_zero] at y0 y1 y2 y3 y4 y5 y6; have z0 := bw.cell 0; have z1 := bw.cell 1; have z2 := bw.cell 2; have z3 := bw.cell 3; have z4 := bw.cell 4; have z5 := bw.cell 5; have z6 := bw.cell 6; simp only [List.getElem?_toArray, List.getElem?_cons_succ, List.getElem?_cons_zero] at z0 z1 z2 z3 z4 z5 z6
      go_wp2_with fail
      refine (HRB.out _ hb6).mono ?_
      rintro e w7 ⟨rfl, hcx⟩
      have hb7 := hb6.trans (hcx.mono hb6.size)
      have bv := bv.same hcx
      have bw := bw.same hcx
      have bp := bp.same hcx
      have hsv := hsv.lt_up2 hcx
      have htv := htv.lt_up2 hcx
      clear hcx y0 y1 y2 y3 y4 y5 y6 z0 z1 z2 z3 z4 z5 z6
      have hz7 := hb7.size
      have y0 := bv.cell 0; have y1 := bv.cell 1; have y2 := bv.cell 2; have y3 := bv.cell 3; have y4 := bv.cell 4; have y5 := bv.cell 5; have y6 := bv.cell 6; simp only [List.getElem?_toArray, List.getElem?_cons_succ, List.getElem?_cons_zero] at y0 y1 y2 y3 y4 y5 y6; have z0 := bw.cell 0; have z1 := bw.cell 1; have z2 := bw.cell 2; have z3 := bw.cell 3; have z4 := bw.cell 4; have z5 := bw.cell 5; have z6 := bw.cell 6; simp only [List.getElem?_toArray, List.getElem?_cons_succ, List.getElem?_cons_zero] at z0 z1 z2 z3 z4 z5 z6
      have u0 := bp.cell 0; have u1 := bp.cell 1; have u2 := bp.cell 2; have u3 := bp.cell 3; have u4 := bp.cell 4; have u5 := bp.cell 5; have u6 := bp.cell 6; have u7 := bp.cell 7; have u8 := bp.cell 8; have u9 := bp.cell 9; have u10 := bp.cell 10; have u11 := bp.cell 11; have u12 := bp.cell 12; have u13 := bp.cell 13; simp only [List.getElem?_toArray, List.getElem?_cons_succ, List.getElem?_cons_zero] at u0 u1 u2 u3 u4 u5 u6 u7 u8 u9 u10 u11 u12 u13
      have HAP := hide (Apply_ok _ _ _ _ (.slice A ls.length cp) (.slice none 0 0) (.slice A3 os.length c3) (.slice A4 ts.length c4) wd hi r c 0 0 0 0 r' c' p au false false p' au' false ls [] os ts w7 (HX.out _ hb7) (Slc.nil_ (So := fun _ => True)) hsv htv HTA.out ⟨by simp, fun l hl => (by cases hl), fun l hl => (by cases hl)⟩ (fun c hc x hx => by have := (HCC.out c hc).2 x hx; omega) (by have := HOL.out; omega) (by have := HWL.out; omega) (wf_i64 (by have := HGR.out.w1; omega) (by have := HGR.out.w2; omega)))
      go_wp2_with fail
      refine HAP.out.mono ?_
      rintro e w8 ⟨hsome, _, hc8⟩
      obtain ⟨ov8, rfl, hl8⟩ := hsome _ HAE2.out
      clear hsome
      obtain ⟨A5, n5, c5, rfl⟩ : ∃ A5 n5 c5, ov8 = .slice A5 n5 c5 := by
        obtain ⟨A, c, e, _⟩ := hl8.slc.open_
        exact ⟨A, _, c, e⟩
      have hb8 := hb7.trans (hc8.mono hz7)
      have hz8 := hb8.size
      have bv := (bv.same hc8).alloc (.cells #[.int .i64 wd, .int .i64 hi, .slice A5 n5 c5, .int .i64 r', .int .i64 c', .bool p', .bool au'] 26)
      have bw := (bw.same hc8).alloc (.cells #[.int .i64 wd, .int .i64 hi, .slice A5 n5 c5, .int .i64 r', .int .i64 c', .bool p', .bool au'] 26)
      have bp := (bp.same hc8).alloc (.cells #[.int .i64 wd, .int .i64 hi, .slice A5 n5 c5, .int .i64 r', .int .i64 c', .bool p', .bool au'] 26)
      have bo := Blk.new w8 26 #[.int .i64 wd, .int .i64 hi, .slice A5 n5 c5, .int .i64 r', .int .i64 c', .bool p', .bool au']
      have hb9 := hb8.alloc hz8 (.cells #[.int .i64 wd, .int .i64 hi, .slice A5 n5 c5, .int .i64 r', .int .i64 c', .bool p', .bool au'] 26)
      have hl9 := hl8.alloc (.cells #[.int .i64 wd, .int .i64 hi, .slice A5 n5 c5, .int .i64 r', .int .i64 c', .bool p', .bool au'] 26)
      have hsv := hsv.lt_up2 (hc8.alloc hc8.size (.cells #[.int .i64 wd, .int .i64 hi, .slice A5 n5 c5, .int .i64 r', .int .i64 c', .bool p', .bool au'] 26))
      clear hc8 hl8 y0 y1 y2 y3 y4 y5 y6 z0 z1 z2 z3 z4 z5 z6 u0 u1 u2 u3 u4 u5 u6 u7 u8 u9 u10 u11 u12 u13 HAP
      go_upto_region 7 with fail
      obtain ⟨go, hgo⟩ : ∃ go, w8.heap.size = go := ⟨_, rfl⟩
      rw [hgo] at bo ⊢
      generalize w8.alloc (.cells #[.int .i64 wd, .int .i64 hi, .slice A5 n5 c5, .int .i64 r', .int .i64 c', .bool p', .bool au'] 26) = w9 at *
      clear hgo
      have hz9 := hb9.size
      have hl9 := hl9.slc
      have bv : Blk w9.drew _ _ _ := bv
      have bw : Blk w9.drew _ _ _ := bw
      have bp : Blk w9.drew _ _ _ := bp
      have bo : Blk w9.drew _ _ _ := bo
      have hb9 := below_drw hb9
      have hl9 := hl9.lt_up2 (w' := w9.drew) (below_drw (Below.refl _ _))
      have hsv := hsv.lt_up2 (w' := w9.drew) (below_drw (Below.refl _ _))
      refine wp_region_held_drew (S := fun w' => Blk w' go 26 #[.int .i64 wd, .int .i64 hi, .slice A5 n5 c5, .int .i64 r', .int .i64 c', .bool p', .bool au'] ∧ Blk w' (w.heap.size + 1) 26 #[.int .i64 wd, .int .i64 hi, .slice B ls'.length cq, .int .i64 r', .int .i64 c', .bool p', .bool au'] ∧ Blk w' w.heap.size 26 #[.int .i64 wd, .int .i64 hi, .slice A ls.length cp, .int .i64 r, .int .i64 c, .bool p, .bool au] ∧ Blk w' gp 33 #[.slice A3 os.length c3, .slice A4 ts.length c4, .int .i64 r', .int .i64 c', .bool p', .bool au', .bool false, .int .i64 0, .int .i64 0, .slice none 0 0, .int .i64 0, .int .i64 0, .bool false, .bool false]) (by kernel_rfl) (by exact ⟨bo, bw, bv, bp⟩) (fun hHeld => ?_)
      refine wpAnyH_take (i := 0) (oi := ?_) (v := ?_) ?_ (by kernel_rfl) (by kernel_rfl) (by kernel_rfl) ?_ (Or.inl ⟨?_, ?_⟩) (by assumption) ?_
      rotate_left 2
      · (simp only [List.getElem?_toArray, List.getElem?_cons_succ, List.getElem?_cons_zero]; rfl)
      rotate_left 1
      · rfl
      · (intro w hSw; obtain ⟨xO, xB, xA, xP⟩ := hSw; have o0 := xO.cell 0; have o1 := xO.cell 1; have o2 := xO.cell 2; have o3 := xO.cell 3; have o4 := xO.cell 4; have o5 := xO.cell 5; have o6 := xO.cell 6; simp only [List.getElem?_toArray, List.getElem?_cons_succ, List.getElem?_cons_zero] at o0 o1 o2 o3 o4 o5 o6; have z0 := xB.cell 0; have z1 := xB.cell 1; have z2 := xB.cell 2; have z3 := xB.cell 3; have z4 := xB.cell 4; have z5 := xB.cell 5; have z6 := xB.cell 6; simp only [List.getElem?_toArray, List.getElem?_cons_succ, List.getElem?_cons_zero] at z0 z1 z2 z3 z4 z5 z6; have y0 := xA.cell 0; have y1 := xA.cell 1; have y2 := xA.cell 2; have y3 := xA.cell 3; have y4 := xA.cell 4; have y5 := xA.cell 5; have y6 := xA.cell 6; simp only [List.getElem?_toArray, List.getElem?_cons_succ, List.getElem?_cons_zero] at y0 y1 y2 y3 y4 y5 y6; have u6 := xP.cell 6; simp only [List.getElem?_toArray, List.getElem?_cons_succ, List.getElem?_cons_zero] at u6; clear xO xB xA xP; go_simp; try with_reducible rfl)
      rotate_left 1
      · exact fun _ _ _ h => h
      try simp only [Act.put, List.setIfInBounds_toArray, List.set_cons_zero, List.set_cons_succ]
      refine wpAnyH_take (i := 1) (oi := ?_) (v := ?_) ?_ (by kernel_rfl) (by kernel_rfl) (by kernel_rfl) ?_ (Or.inl ⟨?_, ?_⟩) (by assumption) ?_
      rotate_left 2
      · (simp only [List.getElem?_toArray, List.getElem?_cons_succ, List.getElem?_cons_zero]; rfl)
      rotate_left 1
      · rfl
      · (intro w hSw; obtain ⟨xO, xB, xA, xP⟩ := hSw; have o0 := xO.cell 0; have o1 := xO.cell 1; have o2 := xO.cell 2; have o3 := xO.cell 3; have o4 := xO.cell 4; have o5 := xO.cell 5; have o6 := xO.cell 6; simp only [List.getElem?_toArray, List.getElem?_cons_succ, List.getElem?_cons_zero] at o0 o1 o2 o3 o4 o5 o6; have z0 := xB.cell 0; have z1 := xB.cell 1; have z2 := xB.cell 2; have z3 := xB.cell 3; have z4 := xB.cell 4; have z5 := xB.cell 5; have z6 := xB.cell 6; simp only [List.getElem?_toArray, List.getElem?_cons_succ, List.getElem?_cons_zero] at z0 z1 z2 z3 z4 z5 z6; have y0 := xA.cell 0; have y1 := xA.cell 1; have y2 := xA.cell 2; have y3 := xA.cell 3; have y4 := xA.cell 4; have y5 := xA.cell 5; have y6 := xA.cell 6; simp only [List.getElem?_toArray, List.getElem?_cons_succ, List.getElem?_cons_zero] at y0 y1 y2 y3 y4 y5 y6; have u6 := xP.cell 6; simp only [List.getElem?_toArray, List.getElem?_cons_succ, List.getElem?_cons_zero] at u6; clear xO xB xA xP; go_simp; try with_reducible rfl)
      rotate_left 1
      · exact fun _ _ _ h => h
      try simp only [Act.put, List.setIfInBounds_toArray, List.set_cons_zero, List.set_cons_succ]
      refine wpAnyH_take (i := 2) (oi := ?_) (v := ?_) ?_ (by kernel_rfl) (by kernel_rfl) (by kernel_rfl) ?_ (Or.inl ⟨?_, ?_⟩) (by assumption) ?_
      rotate_left 2
      · (simp only [List.getElem?_toArray, List.getElem?_cons_succ, List.getElem?_cons_zero]; rfl)
      rotate_left 1
      · rfl
      · (intro w hSw; obtain ⟨xO, xB, xA, xP⟩ := hSw; have o0 := xO.cell 0; have o1 := xO.cell 1; have o2 := xO.cell 2; have o3 := xO.cell 3; have o4 := xO.cell 4; have o5 := xO.cell 5; have o6 := xO.cell 6; simp only [List.getElem?_toArray, List.getElem?_cons_succ, List.getElem?_cons_zero] at o0 o1 o2 o3 o4 o5 o6; have z0 := xB.cell 0; have z1 := xB.cell 1; have z2 := xB.cell 2; have z3 := xB.cell 3; have z4 := xB.cell 4; have z5 := xB.cell 5; have z6 := xB.cell 6; simp only [List.getElem?_toArray, List.getElem?_cons_succ, List.getElem?_cons_zero] at z0 z1 z2 z3 z4 z5 z6; have y0 := xA.cell 0; have y1 := xA.cell 1; have y2 := xA.cell 2; have y3 := xA.cell 3; have y4 := xA.cell 4; have y5 := xA.cell 5; have y6 := xA.cell 6; simp only [List.getElem?_toArray, List.getElem?_cons_succ, List.getElem?_cons_zero] at y0 y1 y2 y3 y4 y5 y6; have u6 := xP.cell 6; simp only [List.getElem?_toArray, List.getElem?_cons_succ, List.getElem?_cons_zero] at u6; clear xO xB xA xP; go_simp; try with_reducible rfl)
      rotate_left 1
      · exact fun _ _ _ h => h
      try simp only [Act.put, List.setIfInBounds_toArray, List.set_cons_zero, List.set_cons_succ]
      refine wpAnyH_take (i := 3) (oi := ?_) (v := ?_) ?_ (by kernel_rfl) (by kernel_rfl) (by kernel_rfl) ?_ (Or.inl ⟨?_, ?_⟩) (by assumption) ?_
      rotate_left 2
      · (simp only [List.getElem?_toArray, List.getElem?_cons_succ, List.getElem?_cons_zero]; rfl)
      rotate_left 1
      · rfl
      · (intro w hSw; obtain ⟨xO, xB, xA, xP⟩ := hSw; have o0 := xO.cell 0; have o1 := xO.cell 1; have o2 := xO.cell 2; have o3 := xO.cell 3; have o4 := xO.cell 4; have o5 := xO.cell 5; have o6 := xO.cell 6; simp only [List.getElem?_toArray, List.getElem?_cons_succ, List.getElem?_cons_zero] at o0 o1 o2 o3 o4 o5 o6; have z0 := xB.cell 0; have z1 := xB.cell 1; have z2 := xB.cell 2; have z3 := xB.cell 3; have z4 := xB.cell 4; have z5 := xB.cell 5; have z6 := xB.cell 6; simp only [List.getElem?_toArray, List.getElem?_cons_succ, List.getElem?_cons_zero] at z0 z1 z2 z3 z4 z5 z6; have y0 := xA.cell 0; have y1 := xA.cell 1; have y2 := xA.cell 2; have y3 := xA.cell 3; have y4 := xA.cell 4; have y5 := xA.cell 5; have y6 := xA.cell 6; simp only [List.getElem?_toArray, List.getElem?_cons_succ, List.getElem?_cons_zero] at y0 y1 y2 y3 y4 y5 y6; have u6 := xP.cell 6; simp only [List.getElem?_toArray, List.getElem?_cons_succ, List.getElem?_cons_zero] at u6; clear xO xB xA xP; go_simp; try with_reducible rfl)
      rotate_left 1
      · exact fun _ _ _ h => h
      try simp only [Act.put, List.setIfInBounds_toArray, List.set_cons_zero, List.set_cons_succ]
      refine wpAnyH_take (i := 4) (oi := ?_) (v := ?_) ?_ (by kernel_rfl) (by kernel_rfl) (by kernel_rfl) ?_ (Or.inl ⟨?_, ?_⟩) (by assumption) ?_
      rotate_left 2
      · (simp only [List.getElem?_toArray, List.getElem?_cons_succ, List.getElem?_cons_zero]; rfl)
      rotate_left 1
      · rfl
      · (intro w hSw; obtain ⟨xO, xB, xA, xP⟩ := hSw; have o0 := xO.cell 0; have o1 := xO.cell 1; have o2 := xO.cell 2; have o3 := xO.cell 3; have o4 := xO.cell 4; have o5 := xO.cell 5; have o6 := xO.cell 6; simp only [List.getElem?_toArray, List.getElem?_cons_succ, List.getElem?_cons_zero] at o0 o1 o2 o3 o4 o5 o6; have z0 := xB.cell 0; have z1 := xB.cell 1; have z2 := xB.cell 2; have z3 := xB.cell 3; have z4 := xB.cell 4; have z5 := xB.cell 5; have z6 := xB.cell 6; simp only [List.getElem?_toArray, List.getElem?_cons_succ, List.getElem?_cons_zero] at z0 z1 z2 z3 z4 z5 z6; have y0 := xA.cell 0; have y1 := xA.cell 1; have y2 := xA.cell 2; have y3 := xA.cell 3; have y4 := xA.cell 4; have y5 := xA.cell 5; have y6 := xA.cell 6; simp only [List.getElem?_toArray, List.getElem?_cons_succ, List.getElem?_cons_zero] at y0 y1 y2 y3 y4 y5 y6; have u6 := xP.cell 6; simp only [List.getElem?_toArray, List.getElem?_cons_succ, List.getElem?_cons_zero] at u6; clear xO xB xA xP; go_simp; try with_reducible rfl)
      rotate_left 1
      · exact fun _ _ _ h => h
      try simp only [Act.put, List.setIfInBounds_toArray, List.set_cons_zero, List.set_cons_succ]
      refine wpAnyH_take (i := 5) (oi := ?_) (v := ?_) ?_ (by kernel_rfl) (by kernel_rfl) (by kernel_rfl) ?_ (Or.inl ⟨?_, ?_⟩) (by assumption) ?_
      rotate_left 2
      · (simp only [List.getElem?_toArray, List.getElem?_cons_succ, List.getElem?_cons_zero]; rfl)
      rotate_left 1
      · rfl
      · (intro w hSw; obtain ⟨xO, xB, xA, xP⟩ := hSw; have o0 := xO.cell 0; have o1 := xO.cell 1; have o2 := xO.cell 2; have o3 := xO.cell 3; have o4 := xO.cell 4; have o5 := xO.cell 5; have o6 := xO.cell 6; simp only [List.getElem?_toArray, List.getElem?_cons_succ, List.getElem?_cons_zero] at o0 o1 o2 o3 o4 o5 o6; have z0 := xB.cell 0; have z1 := xB.cell 1; have z2 := xB.cell 2; have z3 := xB.cell 3; have z4 := xB.cell 4; have z5 := xB.cell 5; have z6 := xB.cell 6; simp only [List.getElem?_toArray, List.getElem?_cons_succ, List.getElem?_cons_zero] at z0 z1 z2 z3 z4 z5 z6; have y0 := xA.cell 0; have y1 := xA.cell 1; have y2 := xA.cell 2; have y3 := xA.cell 3; have y4 := xA.cell 4; have y5 := xA.cell 5; have y6 := xA.cell 6; simp only [List.getElem?_toArray, List.getElem?_cons_succ, List.getElem?_cons_zero] at y0 y1 y2 y3 y4 y5 y6; have u6 := xP.cell 6; simp only [List.getElem?_toArray, List.getElem?_cons_succ, List.getElem?_cons_zero] at u6; clear xO xB xA xP; go_simp; try with_reducible rfl)
      rotate_left 1
      · exact fun _ _ _ h => h
      try simp only [Act.put, List.setIfInBounds_toArray, List.set_cons_zero, List.set_cons_succ]
      refine wpAnyH_take (i := 6) (oi := ?_) (v := ?_) ?_ (by kernel_rfl) (by kernel_rfl) (by kernel_rfl) ?_ (Or.inl ⟨?_, ?_⟩) (by assumption) ?_
      rotate_left 2
      · (simp only [List.getElem?_toArray, List.getElem?_cons_succ, List.getElem?_cons_zero]; rfl)
      rotate_left 1
      · rfl
      · (intro w hSw; obtain ⟨xO, xB, xA, xP⟩ := hSw; have o0 := xO.cell 0; have o1 := xO.cell 1; have o2 := xO.cell 2; have o3 := xO.cell 3; have o4 := xO.cell 4; have o5 := xO.cell 5; have o6 := xO.cell 6; simp only [List.getElem?_toArray, List.getElem?_cons_succ, List.getElem?_cons_zero] at o0 o1 o2 o3 o4 o5 o6; have z0 := xB.cell 0; have z1 := xB.cell 1; have z2 := xB.cell 2; have z3 := xB.cell 3; have z4 := xB.cell 4; have z5 := xB.cell 5; have z6 := xB.cell 6; simp only [List.getElem?_toArray, List.getElem?_cons_succ, List.getElem?_cons_zero] at z0 z1 z2 z3 z4 z5 z6; have y0 := xA.cell 0; have y1 := xA.cell 1; have y2 := xA.cell 2; have y3 := xA.cell 3; have y4 := xA.cell 4; have y5 := xA.cell 5; have y6 := xA.cell 6; simp only [List.getElem?_toArray, List.getElem?_cons_succ, List.getElem?_cons_zero] at y0 y1 y2 y3 y4 y5 y6; have u6 := xP.cell 6; simp only [List.getElem?_toArray, List.getElem?_cons_succ, List.getElem?_cons_zero] at u6; clear xO xB xA xP; go_simp; try with_reducible rfl)
      rotate_left 1
      · exact fun _ _ _ h => h
      try simp only [Act.put, List.setIfInBounds_toArray, List.set_cons_zero, List.set_cons_succ]
      refine wpAnyH_take (i := 7) (oi := ?_) (v := ?_) ?_ (by kernel_rfl) (by kernel_rfl) (by kernel_rfl) ?_ (Or.inl ⟨?_, ?_⟩) (by assumption) ?_
      rotate_left 2
      · (simp only [List.getElem?_toArray, List.getElem?_cons_succ, List.getElem?_cons_zero]; rfl)
      rotate_left 1
      · rfl
      · (intro w hSw; obtain ⟨xO, xB, xA, xP⟩ := hSw; have o0 := xO.cell 0; have o1 := xO.cell 1; have o2 := xO.cell 2; have o3 := xO.cell 3; have o4 := xO.cell 4; have o5 := xO.cell 5; have o6 := xO.cell 6; simp only [List.getElem?_toArray, List.getElem?_cons_succ, List.getElem?_cons_zero] at o0 o1 o2 o3 o4 o5 o6; have z0 := xB.cell 0; have z1 := xB.cell 1; have z2 := xB.cell 2; have z3 := xB.cell 3; have z4 := xB.cell 4; have z5 := xB.cell 5; have z6 := xB.cell 6; simp only [List.getElem?_toArray, List.getElem?_cons_succ, List.getElem?_cons_zero] at z0 z1 z2 z3 z4 z5 z6; have y0 := xA.cell 0; have y1 := xA.cell 1; have y2 := xA.cell 2; have y3 := xA.cell 3; have y4 := xA.cell 4; have y5 := xA.cell 5; have y6 := xA.cell 6; simp only [List.getElem?_toArray, List.getElem?_cons_succ, List.getElem?_cons_zero] at y0 y1 y2 y3 y4 y5 y6; have u6 := xP.cell 6; simp only [List.getElem?_toArray, List.getElem?_cons_succ, List.getElem?_cons_zero] at u6; clear xO xB xA xP; go_simp; try with_reducible rfl)
      rotate_left 1
      · exact fun _ _ _ h => h
      try simp only [Act.put, List.setIfInBounds_toArray, List.set_cons_zero, List.set_cons_succ]
      refine wpAnyH_take (i := 8) (oi := ?_) (v := ?_) ?_ (by kernel_rfl) (by kernel_rfl) (by kernel_rfl) ?_ (Or.inl ⟨?_, ?_⟩) (by assumption) ?_
      rotate_left 2
      · (simp only [List.getElem?_toArray, List.getElem?_cons_succ, List.getElem?_cons_zero]; rfl)
      rotate_left 1
      · rfl
      · (intro w hSw; obtain ⟨xO, xB, xA, xP⟩ := hSw; have o0 := xO.cell 0; have o1 := xO.cell 1; have o2 := xO.cell 2; have o3 := xO.cell 3; have o4 := xO.cell 4; have o5 := xO.cell 5; have o6 := xO.cell 6; simp only [List.getElem?_toArray, List.getElem?_cons_succ, List.getElem?_cons_zero] at o0 o1 o2 o3 o4 o5 o6; have z0 := xB.cell 0; have z1 := xB.cell 1; have z2 := xB.cell 2; have z3 := xB.cell 3; have z4 := xB.cell 4; have z5 := xB.cell 5; have z6 := xB.cell 6; simp only [List.getElem?_toArray, List.getElem?_cons_succ, List.getElem?_cons_zero] at z0 z1 z2 z3 z4 z5 z6; have y0 := xA.cell 0; have y1 := xA.cell 1; have y2 := xA.cell 2; have y3 := xA.cell 3; have y4 := xA.cell 4; have y5 := xA.cell 5; have y6 := xA.cell 6; simp only [List.getElem?_toArray, List.getElem?_cons_succ, List.getElem?_cons_zero] at y0 y1 y2 y3 y4 y5 y6; have u6 := xP.cell 6; simp only [List.getElem?_toArray, List.getElem?_cons_succ, List.getElem?_cons_zero] at u6; clear xO xB xA xP; go_simp; try with_reducible rfl)
      rotate_left 1
      · exact fun _ _ _ h => h
      try simp only [Act.put, List.setIfInBounds_toArray, List.set_cons_zero, List.set_cons_succ]
      refine wpAnyH_ready (rs := [9]) (by kernel_rfl) (by simp) ?_
      refine AllReadyH.cons (o := ?_) ?_ (fun K hK => ?_) AllReadyH.nil
      rotate_left 1
      · (simp only [List.getElem?_toArray, List.getElem?_cons_succ, List.getElem?_cons_zero]; rfl)
      go_simp
      go_at_call 14; refine (rSame40_eq _ _ _ _ (.slice A5 n5 c5) (.slice B ls'.length cq) wd hi r' c' p' au' ls' _ hl9 (HY.out _ hb9)).mono ?_; rintro e wA ⟨rfl, hcx⟩; have hb9 := hb9.trans (hcx.mono hb9.size); have bv := bv.same hcx; have bw := bw.same hcx; have bp := bp.same hcx; have bo := bo.same hcx; have hsv := hsv.lt_up2 hcx; clear hcx
      refine hK.out _ _ ?_ (fun hHeld => ?_)
      · exact ⟨bo, bw, bv, bp⟩
      clear hK K
      try simp only [Act.put, List.setIfInBounds_toArray, List.set_cons_zero, List.set_cons_succ]
      refine wpAnyH_take (i := 10) (oi := ?_) (v := ?_) ?_ (by kernel_rfl) (by kernel_rfl) (by kernel_rfl) ?_ (Or.inl ⟨?_, ?_⟩) (by assumption) ?_
      rotate_left 2
      · (simp only [List.getElem?_toArray, List.getElem?_cons_succ, List.getElem?_cons_zero]; rfl)
      rotate_left 1
      · rfl
      · (intro w hSw; obtain ⟨xO, xB, xA, xP⟩ := hSw; have o0 := xO.cell 0; have o1 := xO.cell 1; have o2 := xO.cell 2; have o3 := xO.cell 3; have o4 := xO.cell 4; have o5 := xO.cell 5; have o6 := xO.cell 6; simp only [List.getElem?_toArray, List.getElem?_cons_succ, List.getElem?_cons_zero] at o0 o1 o2 o3 o4 o5 o6; have z0 := xB.cell 0; have z1 := xB.cell 1; have z2 := xB.cell 2; have z3 := xB.cell 3; have z4 := xB.cell 4; have z5 := xB.cell 5; have z6 := xB.cell 6; simp only [List.getElem?_toArray, List.getElem?_cons_succ, List.getElem?_cons_zero] at z0 z1 z2 z3 z4 z5 z6; have y0 := xA.cell 0; have y1 := xA.cell 1; have y2 := xA.cell 2; have y3 := xA.cell 3; have y4 := xA.cell 4; have y5 := xA.cell 5; have y6 := xA.cell 6; simp only [List.getElem?_toArray, List.getElem?_cons_succ, List.getElem?_cons_zero] at y0 y1 y2 y3 y4 y5 y6; have u6 := xP.cell 6; simp only [List.getElem?_toArray, List.getElem?_cons_succ, List.getElem?_cons_zero] at u6; clear xO xB xA xP; go_simp; try with_reducible rfl)
      rotate_left 1
      · exact fun _ _ _ h => h
      try simp only [Act.put, List.setIfInBounds_toArray, List.set_cons_zero, List.set_cons_succ]
      refine wpAnyH_take (i := 11) (oi := ?_) (v := ?_) ?_ (by kernel_rfl) (by kernel_rfl) (by kernel_rfl) ?_ (Or.inl ⟨?_, ?_⟩) (by assumption) ?_
      rotate_left 2
      · (simp only [List.getElem?_toArray, List.getElem?_cons_succ, List.getElem?_cons_zero]; rfl)
      rotate_left 1
      · rfl
      · (intro w hSw; obtain ⟨xO, xB, xA, xP⟩ := hSw; have o0 := xO.cell 0; have o1 := xO.cell 1; have o2 := xO.cell 2; have o3 := xO.cell 3; have o4 := xO.cell 4; have o5 := xO.cell 5; have o6 := xO.cell 6; simp only [List.getElem?_toArray, List.getElem?_cons_succ, List.getElem?_cons_zero] at o0 o1 o2 o3 o4 o5 o6; have z0 := xB.cell 0; have z1 := xB.cell 1; have z2 := xB.cell 2; have z3 := xB.cell 3; have z4 := xB.cell 4; have z5 := xB.cell 5; have z6 := xB.cell 6; simp only [List.getElem?_toArray, List.getElem?_cons_succ, List.getElem?_cons_zero] at z0 z1 z2 z3 z4 z5 z6; have y0 := xA.cell 0; have y1 := xA.cell 1; have y2 := xA.cell 2; have y3 := xA.cell 3; have y4 := xA.cell 4; have y5 := xA.cell 5; have y6 := xA.cell 6; simp only [List.getElem?_toArray, List.getElem?_cons_succ, List.getElem?_cons_zero] at y0 y1 y2 y3 y4 y5 y6; have u6 := xP.cell 6; simp only [List.getElem?_toArray, List.getElem?_cons_succ, List.getElem?_cons_zero] at u6; clear xO xB xA xP; go_simp; try with_reducible rfl)
      rotate_left 1
      · exact fun _ _ _ h => h
      try simp only [Act.put, List.setIfInBounds_toArray, List.set_cons_zero, List.set_cons_succ]
      refine wpAnyH_take (i := 12) (oi := ?_) (v := ?_) ?_ (by kernel_rfl) (by kernel_rfl) (by kernel_rfl) ?_ (Or.inl ⟨?_, ?_⟩) (by assumption) ?_
      rotate_left 2
      · (simp only [List.getElem?_toArray, List.getElem?_cons_succ, List.getElem?_cons_zero]; rfl)
      rotate_left 1
      · rfl
      · (intro w hSw; obtain ⟨xO, xB, xA, xP⟩ := hSw; have o0 := xO.cell 0; have o1 := xO.cell 1; have o2 := xO.cell 2; have o3 := xO.cell 3; have o4 := xO.cell 4; have o5 := xO.cell 5; have o6 := xO.cell 6; simp only [List.getElem?_toArray, List.getElem?_cons_succ, List.getElem?_cons_zero] at o0 o1 o2 o3 o4 o5 o6; have z0 := xB.cell 0; have z1 := xB.cell 1; have z2 := xB.cell 2; have z3 := xB.cell 3; have z4 := xB.cell 4; have z5 := xB.cell 5; have z6 := xB.cell 6; simp only [List.getElem?_toArray, List.getElem?_cons_succ, List.getElem?_cons_zero] at z0 z1 z2 z3 z4 z5 z6; have y0 := xA.cell 0; have y1 := xA.cell 1; have y2 := xA.cell 2; have y3 := xA.cell 3; have y4 := xA.cell 4; have y5 := xA.cell 5; have y6 := xA.cell 6; simp only [List.getElem?_toArray, List.getElem?_cons_succ, List.getElem?_cons_zero] at y0 y1 y2 y3 y4 y5 y6; have u6 := xP.cell 6; simp only [List.getElem?_toArray, List.getElem?_cons_succ, List.getElem?_cons_zero] at u6; clear xO xB xA xP; go_simp; try with_reducible rfl)
      rotate_left 1
      · exact fun _ _ _ h => h
      try simp only [Act.put, List.setIfInBounds_toArray, List.set_cons_zero, List.set_cons_succ]
      refine wpAnyH_take (i := 13) (oi := ?_) (v := ?_) ?_ (by kernel_rfl) (by kernel_rfl) (by kernel_rfl) ?_ (Or.inl ⟨?_, ?_⟩) (by assumption) ?_
      rotate_left 2
      · (simp only [List.getElem?_toArray, List.getElem?_cons_succ, List.getElem?_cons_zero]; rfl)
      rotate_left 1
      · rfl
      · (intro w hSw; obtain ⟨xO, xB, xA, xP⟩ := hSw; have o0 := xO.cell 0; have o1 := xO.cell 1; have o2 := xO.cell 2; have o3 := xO.cell 3; have o4 := xO.cell 4; have o5 := xO.cell 5; have o6 := xO.cell 6; simp only [List.getElem?_toArray, List.getElem?_cons_succ, List.getElem?_cons_zero] at o0 o1 o2 o3 o4 o5 o6; have z0 := xB.cell 0; have z1 := xB.cell 1; have z2 := xB.cell 2; have z3 := xB.cell 3; have z4 := xB.cell 4; have z5 := xB.cell 5; have z6 := xB.cell 6; simp only [List.getElem?_toArray, List.getElem?_cons_succ, List.getElem?_cons_zero] at z0 z1 z2 z3 z4 z5 z6; have y0 := xA.cell 0; have y1 := xA.cell 1; have y2 := xA.cell 2; have y3 := xA.cell 3; have y4 := xA.cell 4; have y5 := xA.cell 5; have y6 := xA.cell 6; simp only [List.getElem?_toArray, List.getElem?_cons_succ, List.getElem?_cons_zero] at y0 y1 y2 y3 y4 y5 y6; have u6 := xP.cell 6; simp only [List.getElem?_toArray, List.getElem?_cons_succ, List.getElem?_cons_zero] at u6; clear xO xB xA xP; go_simp; try with_reducible rfl)
      rotate_left 1
      · exact fun _ _ _ h => h
      try simp only [Act.put, List.setIfInBounds_toArray, List.set_cons_zero, List.set_cons_succ]
      refine wpAnyH_take (i := 14) (oi := ?_) (v := ?_) ?_ (by kernel_rfl) (by kernel_rfl) (by kernel_rfl) ?_ (Or.inl ⟨?_, ?_⟩) (by assumption) ?_
      rotate_left 2
      · (simp only [List.getElem?_toArray, List.getElem?_cons_succ, List.getElem?_cons_zero]; rfl)
      rotate_left 1
      · rfl
      · (intro w hSw; obtain ⟨xO, xB, xA, xP⟩ := hSw; have o0 := xO.cell 0; have o1 := xO.cell 1; have o2 := xO.cell 2; have o3 := xO.cell 3; have o4 := xO.cell 4; have o5 := xO.cell 5; have o6 := xO.cell 6; simp only [List.getElem?_toArray, List.getElem?_cons_succ, List.getElem?_cons_zero] at o0 o1 o2 o3 o4 o5 o6; have z0 := xB.cell 0; have z1 := xB.cell 1; have z2 := xB.cell 2; have z3 := xB.cell 3; have z4 := xB.cell 4; have z5 := xB.cell 5; have z6 := xB.cell 6; simp only [List.getElem?_toArray, List.getElem?_cons_succ, List.getElem?_cons_zero] at z0 z1 z2 z3 z4 z5 z6; have y0 := xA.cell 0; have y1 := xA.cell 1; have y2 := xA.cell 2; have y3 := xA.cell 3; have y4 := xA.cell 4; have y5 := xA.cell 5; have y6 := xA.cell 6; simp only [List.getElem?_toArray, List.getElem?_cons_succ, List.getElem?_cons_zero] at y0 y1 y2 y3 y4 y5 y6; have u6 := xP.cell 6; simp only [List.getElem?_toArray, List.getElem?_cons_succ, List.getElem?_cons_zero] at u6; clear xO xB xA xP; go_simp; try with_reducible rfl)
      rotate_left 1
      · exact fun _ _ _ h => h
      try simp only [Act.put, List.setIfInBounds_toArray, List.set_cons_zero, List.set_cons_succ]
      refine wpAnyH_take (i := 15) (oi := ?_) (v := ?_) ?_ (by kernel_rfl) (by kernel_rfl) (by kernel_rfl) ?_ (Or.inl ⟨?_, ?_⟩) (by assumption) ?_
      rotate_left 2
      · (simp only [List.getElem?_toArray, List.getElem?_cons_succ, List.getElem?_cons_zero]; rfl)
      rotate_left 1
      · rfl
      · (intro w hSw; obtain ⟨xO, xB, xA, xP⟩ := hSw; have o0 := xO.cell 0; have o1 := xO.cell 1; have o2 := xO.cell 2; have o3 := xO.cell 3; have o4 := xO.cell 4; have o5 := xO.cell 5; have o6 := xO.cell 6; simp only [List.getElem?_toArray, List.getElem?_cons_succ, List.getElem?_cons_zero] at o0 o1 o2 o3 o4 o5 o6; have z0 := xB.cell 0; have z1 := xB.cell 1; have z2 := xB.cell 2; have z3 := xB.cell 3; have z4 := xB.cell 4; have z5 := xB.cell 5; have z6 := xB.cell 6; simp only [List.getElem?_toArray, List.getElem?_cons_succ, List.getElem?_cons_zero] at z0 z1 z2 z3 z4 z5 z6; have y0 := xA.cell 0; have y1 := xA.cell 1; have y2 := xA.cell 2; have y3 := xA.cell 3; have y4 := xA.cell 4; have y5 := xA.cell 5; have y6 := xA.cell 6; simp only [List.getElem?_toArray, List.getElem?_cons_succ, List.getElem?_cons_zero] at y0 y1 y2 y3 y4 y5 y6; have u6 := xP.cell 6; simp only [List.getElem?_toArray, List.getElem?_cons_succ, List.getElem?_cons_zero] at u6; clear xO xB xA xP; go_simp; try with_reducible rfl)
      rotate_left 1
      · exact fun _ _ _ h => h
      try simp only [Act.put, List.setIfInBounds_toArray, List.set_cons_zero, List.set_cons_succ]
      refine wpAnyH_take (i := 16) (oi := ?_) (v := ?_) ?_ (by kernel_rfl) (by kernel_rfl) (by kernel_rfl) ?_ (Or.inl ⟨?_, ?_⟩) (by assumption) ?_
      rotate_left 2
      · (simp only [List.getElem?_toArray, List.getElem?_cons_succ, List.getElem?_cons_zero]; rfl)
      rotate_left 1
      · rfl
      · (intro w hSw; obtain ⟨xO, xB, xA, xP⟩ := hSw; have o0 := xO.cell 0; have o1 := xO.cell 1; have o2 := xO.cell 2; have o3 := xO.cell 3; have o4 := xO.cell 4; have o5 := xO.cell 5; have o6 := xO.cell 6; simp only [List.getElem?_toArray, List.getElem?_cons_succ, List.getElem?_cons_zero] at o0 o1 o2 o3 o4 o5 o6; have z0 := xB.cell 0; have z1 := xB.cell 1; have z2 := xB.cell 2; have z3 := xB.cell 3; have z4 := xB.cell 4; have z5 := xB.cell 5; have z6 := xB.cell 6; simp only [List.getElem?_toArray, List.getElem?_cons_succ, List.getElem?_cons_zero] at z0 z1 z2 z3 z4 z5 z6; have y0 := xA.cell 0; have y1 := xA.cell 1; have y2 := xA.cell 2; have y3 := xA.cell 3; have y4 := xA.cell 4; have y5 := xA.cell 5; have y6 := xA.cell 6; simp only [List.getElem?_toArray, List.getElem?_cons_succ, List.getElem?_cons_zero] at y0 y1 y2 y3 y4 y5 y6; have u6 := xP.cell 6; simp only [List.getElem?_toArray, List.getElem?_cons_succ, List.getElem?_cons_zero] at u6; clear xO xB xA xP; go_simp; try with_reducible rfl)
      rotate_left 1
      · exact fun _ _ _ h => h
      try simp only [Act.put, List.setIfInBounds_toArray, List.set_cons_zero, List.set_cons_succ]
      refine wpAnyH_ready (rs := [17]) (by kernel_rfl) (by simp) ?_
      refine AllReadyH.cons (o := ?_) ?_ (fun K hK => ?_) AllReadyH.nil
      rotate_left 1
      · (simp only [List.getElem?_toArray, List.getElem?_cons_succ, List.getElem?_cons_zero]; rfl)
      go_simp
      go_at_call 8; refine (HBT.out _ hb9).mono ?_; rintro e wB ⟨rfl, hcx⟩; have hb9 := hb9.trans (hcx.mono hb9.size); have bv := bv.same hcx; have bw := bw.same hcx; have bp := bp.same hcx; have bo := bo.same hcx; have hsv := hsv.lt_up2 hcx; clear hcx
      refine hK.out _ _ ?_ (fun hHeld => ?_)
      · exact ⟨bo, bw, bv, bp⟩
      clear hK K
      try simp only [Act.put, List.setIfInBounds_toArray, List.set_cons_zero, List.set_cons_succ]
      refine wpAnyH_take (i := 18) (oi := ?_) (v := ?_) ?_ (by kernel_rfl) (by kernel_rfl) (by kernel_rfl) ?_ (Or.inl ⟨?_, ?_⟩) (by assumption) ?_
      rotate_left 2
      · (simp only [List.getElem?_toArray, List.getElem?_cons_succ, List.getElem?_cons_zero]; rfl)
      rotate_left 1
      · rfl
      · (intro w hSw; obtain ⟨xO, xB, xA, xP⟩ := hSw; have o0 := xO.cell 0; have o1 := xO.cell 1; have o2 := xO.cell 2; have o3 := xO.cell 3; have o4 := xO.cell 4; have o5 := xO.cell 5; have o6 := xO.cell 6; simp only [List.getElem?_toArray, List.getElem?_cons_succ, List.getElem?_cons_zero] at o0 o1 o2 o3 o4 o5 o6; have z0 := xB.cell 0; have z1 := xB.cell 1; have z2 := xB.cell 2; have z3 := xB.cell 3; have z4 := xB.cell 4; have z5 := xB.cell 5; have z6 := xB.cell 6; simp only [List.getElem?_toArray, List.getElem?_cons_succ, List.getElem?_cons_zero] at z0 z1 z2 z3 z4 z5 z6; have y0 := xA.cell 0; have y1 := xA.cell 1; have y2 := xA.cell 2; have y3 := xA.cell 3; have y4 := xA.cell 4; have y5 := xA.cell 5; have y6 := xA.cell 6; simp only [List.getElem?_toArray, List.getElem?_cons_succ, List.getElem?_cons_zero] at y0 y1 y2 y3 y4 y5 y6; have u6 := xP.cell 6; simp only [List.getElem?_toArray, List.getElem?_cons_succ, List.getElem?_cons_zero] at u6; clear xO xB xA xP; go_simp; try with_reducible rfl)
      rotate_left 1
      · exact fun _ _ _ h => h
      try simp only [Act.put, List.setIfInBounds_toArray, List.set_cons_zero, List.set_cons_succ]
      refine wpAnyH_take (i := 19) (oi := ?_) (v := ?_) ?_ (by kernel_rfl) (by kernel_rfl) (by kernel_rfl) ?_ (Or.inl ⟨?_, ?_⟩) (by assumption) ?_
      rotate_left 2
      · (simp only [List.getElem?_toArray, List.getElem?_cons_succ, List.getElem?_cons_zero]; rfl)
      rotate_left 1
      · rfl
      · (intro w hSw; obtain ⟨xO, xB, xA, xP⟩ := hSw; have o0 := xO.cell 0; have o1 := xO.cell 1; have o2 := xO.cell 2; have o3 := xO.cell 3; have o4 := xO.cell 4; have o5 := xO.cell 5; have o6 := xO.cell 6; simp only [List.getElem?_toArray, List.getElem?_cons_succ, List.getElem?_cons_zero] at o0 o1 o2 o3 o4 o5 o6; have z0 := xB.cell 0; have z1 := xB.cell 1; have z2 := xB.cell 2; have z3 := xB.cell 3; have z4 := xB.cell 4; have z5 := xB.cell 5; have z6 := xB.cell 6; simp only [List.getElem?_toArray, List.getElem?_cons_succ, List.getElem?_cons_zero] at z0 z1 z2 z3 z4 z5 z6; have y0 := xA.cell 0; have y1 := xA.cell 1; have y2 := xA.cell 2; have y3 := xA.cell 3; have y4 := xA.cell 4; have y5 := xA.cell 5; have y6 := xA.cell 6; simp only [List.getElem?_toArray, List.getElem?_cons_succ, List.getElem?_cons_zero] at y0 y1 y2 y3 y4 y5 y6; have u6 := xP.cell 6; simp only [List.getElem?_toArray, List.getElem?_cons_succ, List.getElem?_cons_zero] at u6; clear xO xB xA xP; go_simp; try with_reducible rfl)
      rotate_left 1
      · exact fun _ _ _ h => h
      try simp only [Act.put, List.setIfInBounds_toArray, List.set_cons_zero, List.set_cons_succ]
      refine wpAnyH_done (by kernel_rfl) ?_ _
      clear hHeld hl9
      go_upto_region 9 with fail
      have bv : Blk wB.drew _ _ _ := bv
      have bw : Blk wB.drew _ _ _ := bw
      have bp : Blk wB.drew _ _ _ := bp
      have hb9 := below_drw hb9
      have hsv := hsv.lt_up2 (w' := wB.drew) (below_drw (Below.refl _ _))
      refine wp_region_held_drew (S := fun w' => Blk w' (w.heap.size + 1) 26 #[.int .i64 wd, .int .i64 hi, .slice B ls'.length cq, .int .i64 r', .int .i64 c', .bool p', .bool au'] ∧ Blk w' w.heap.size 26 #[.int .i64 wd, .int .i64 hi, .slice A ls.length cp, .int .i64 r, .int .i64 c, .bool p, .bool au] ∧ Blk w' gp 33 #[.slice A3 os.length c3, .slice A4 ts.length c4, .int .i64 r', .int .i64 c', .bool p', .bool au', .bool false, .int .i64 0, .int .i64 0, .slice none 0 0, .int .i64 0, .int .i64 0, .bool false, .bool false]) (by kernel_rfl) (by exact ⟨bw, bv, bp⟩) (fun hHeld => ?_)
      refine wpAnyH_take (i := 0) (oi := ?_) (v := ?_) ?_ (by kernel_rfl) (by kernel_rfl) (by kernel_rfl) ?_ (Or.inl ⟨?_, ?_⟩) (by assumption) ?_
      rotate_left 2
      · (simp only [List.getElem?_toArray, List.getElem?_cons_succ, List.getElem?_cons_zero]; rfl)
      rotate_left 1
      · rfl
      · (intro w hSw; obtain ⟨xB, xA, xP⟩ := hSw; have z0 := xB.cell 0; have z1 := xB.cell 1; have z2 := xB.cell 2; have z3 := xB.cell 3; have z4 := xB.cell 4; have z5 := xB.cell 5; have z6 := xB.cell 6; simp only [List.getElem?_toArray, List.getElem?_cons_succ, List.getElem?_cons_zero] at z0 z1 z2 z3 z4 z5 z6; have y0 := xA.cell 0; have y1 := xA.cell 1; have y2 := xA.cell 2; have y3 := xA.cell 3; have y4 := xA.cell 4; have y5 := xA.cell 5; have y6 := xA.cell 6; simp only [List.getElem?_toArray, List.getElem?_cons_succ, List.getElem?_cons_zero] at y0 y1 y2 y3 y4 y5 y6; have u0 := xP.cell 0; have u1 := xP.cell 1; have u2 := xP.cell 2; have u3 := xP.cell 3; have u4 := xP.cell 4; have u5 := xP.cell 5; have u6 := xP.cell 6; have u7 := xP.cell 7; have u8 := xP.cell 8; have u9 := xP.cell 9; have u10 := xP.cell 10; have u11 := xP.cell 11; have u12 := xP.cell 12; have u13 := xP.cell 13; simp only [List.getElem?_toArray, List.getElem?_cons_succ, List.getElem?_cons_zero] at u0 u1 u2 u3 u4 u5 u6 u7 u8 u9 u10 u11 u12 u13; clear xB xA xP; go_simp; try with_reducible rfl)
      rotate_left 1
      · exact fun _ _ _ h => h
      try simp only [Act.put, List.setIfInBounds_toArray, List.set_cons_zero, List.set_cons_succ]
      refine wpAnyH_take (i := 1) (oi := ?_) (v := ?_) ?_ (by kernel_rfl) (by kernel_rfl) (by kernel_rfl) ?_ (Or.inl ⟨?_, ?_⟩) (by assumption) ?_
      rotate_left 2
      · (simp only [List.getElem?_toArray, List.getElem?_cons_succ, List.getElem?_cons_zero]; rfl)
      rotate_left 1
      · rfl
      · (intro w hSw; obtain ⟨xB, xA, xP⟩ := hSw; have z0 := xB.cell 0; have z1 := xB.cell 1; have z2 := xB.cell 2; have z3 := xB.cell 3; have z4 := xB.cell 4; have z5 := xB.cell 5; have z6 := xB.cell 6; simp only [List.getElem?_toArray, List.getElem?_cons_succ, List.getElem?_cons_zero] at z0 z1 z2 z3 z4 z5 z6; have y0 := xA.cell 0; have y1 := xA.cell 1; have y2 := xA.cell 2; have y3 := xA.cell 3; have y4 := xA.cell 4; have y5 := xA.cell 5; have y6 := xA.cell 6; simp only [List.getElem?_toArray, List.getElem?_cons_succ, List.getElem?_cons_zero] at y0 y1 y2 y3 y4 y5 y6; have u0 := xP.cell 0; have u1 := xP.cell 1; have u2 := xP.cell 2; have u3 := xP.cell 3; have u4 := xP.cell 4; have u5 := xP.cell 5; have u6 := xP.cell 6; have u7 := xP.cell 7; have u8 := xP.cell 8; have u9 := xP.cell 9; have u10 := xP.cell 10; have u11 := xP.cell 11; have u12 := xP.cell 12; have u13 := xP.cell 13; simp only [List.getElem?_toArray, List.getElem?_cons_succ, List.getElem?_cons_zero] at u0 u1 u2 u3 u4 u5 u6 u7 u8 u9 u10 u11 u12 u13; clear xB xA xP; go_simp; try with_reducible rfl)
      rotate_left 1
      · exact fun _ _ _ h => h
      try simp only [Act.put, List.setIfInBounds_toArray, List.set_cons_zero, List.set_cons_succ]
      refine wpAnyH_take (i := 2) (oi := ?_) (v := ?_) ?_ (by kernel_rfl) (by kernel_rfl) (by kernel_rfl) ?_ (Or.inl ⟨?_, ?_⟩) (by assumption) ?_
      rotate_left 2
      · (simp only [List.getElem?_toArray, List.getElem?_cons_succ, List.getElem?_cons_zero]; rfl)
      rotate_left 1
      · rfl
      · (intro w hSw; obtain ⟨xB, xA, xP⟩ := hSw; have z0 := xB.cell 0; have z1 := xB.cell 1; have z2 := xB.cell 2; have z3 := xB.cell 3; have z4 := xB.cell 4; have z5 := xB.cell 5; have z6 := xB.cell 6; simp only [List.getElem?_toArray, List.getElem?_cons_succ, List.getElem?_cons_zero] at z0 z1 z2 z3 z4 z5 z6; have y0 := xA.cell 0; have y1 := xA.cell 1; have y2 := xA.cell 2; have y3 := xA.cell 3; have y4 := xA.cell 4; have y5 := xA.cell 5; have y6 := xA.cell 6; simp only [List.getElem?_toArray, List.getElem?_cons_succ, List.getElem?_cons_zero] at y0 y1 y2 y3 y4 y5 y6; have u0 := xP.cell 0; have u1 := xP.cell 1; have u2 := xP.cell 2; have u3 := xP.cell 3; have u4 := xP.cell 4; have u5 := xP.cell 5; have u6 := xP.cell 6; have u7 := xP.cell 7; have u8 := xP.cell 8; have u9 := xP.cell 9; have u10 := xP.cell 10; have u11 := xP.cell 11; have u12 := xP.cell 12; have u13 := xP.cell 13; simp only [List.getElem?_toArray, List.getElem?_cons_succ, List.getElem?_cons_zero] at u0 u1 u2 u3 u4 u5 u6 u7 u8 u9 u10 u11 u12 u13; clear xB xA xP; go_simp; try with_reducible rfl)
      rotate_left 1
      · exact fun _ _ _ h => h
      try simp only [Act.put, List.setIfInBounds_toArray, List.set_cons_zero, List.set_cons_succ]
      refine wpAnyH_take (i := 3) (oi := ?_) (v := ?_) ?_ (by kernel_rfl) (by kernel_rfl) (by kernel_rfl) ?_ (Or.inl ⟨?_, ?_⟩) (by assumption) ?_
      rotate_left 2
      · (simp only [List.getElem?_toArray, List.getElem?_cons_succ, List.getElem?_cons_zero]; rfl)
      rotate_left 1
      · rfl
      · (intro w hSw; obtain ⟨xB, xA, xP⟩ := hSw; have z0 := xB.cell 0; have z1 := xB.cell 1; have z2 := xB.cell 2; have z3 := xB.cell 3; have z4 := xB.cell 4; have z5 := xB.cell 5; have z6 := xB.cell 6; simp only [List.getElem?_toArray, List.getElem?_cons_succ, List.getElem?_cons_zero] at z0 z1 z2 z3 z4 z5 z6; have y0 := xA.cell 0; have y1 := xA.cell 1; have y2 := xA.cell 2; have y3 := xA.cell 3; have y4 := xA.cell 4; have y5 := xA.cell 5; have y6 := xA.cell 6; simp only [List.getElem?_toArray, List.getElem?_cons_succ, List.getElem?_cons_zero] at y0 y1 y2 y3 y4 y5 y6; have u0 := xP.cell 0; have u1 := xP.cell 1; have u2 := xP.cell 2; have u3 := xP.cell 3; have u4 := xP.cell 4; have u5 := xP.cell 5; have u6 := xP.cell 6; have u7 := xP.cell 7; have u8 := xP.cell 8; have u9 := xP.cell 9; have u10 := xP.cell 10; have u11 := xP.cell 11; have u12 := xP.cell 12; have u13 := xP.cell 13; simp only [List.getElem?_toArray, List.getElem?_cons_succ, List.getElem?_cons_zero] at u0 u1 u2 u3 u4 u5 u6 u7 u8 u9 u10 u11 u12 u13; clear xB xA xP; go_simp; try with_reducible rfl)
      rotate_left 1
      · exact fun _ _ _ h => h
      try simp only [Act.put, List.setIfInBounds_toArray, List.set_cons_zero, List.set_cons_succ]
      refine wpAnyH_take (i := 4) (oi := ?_) (v := ?_) ?_ (by kernel_rfl) (by kernel_rfl) (by kernel_rfl) ?_ (Or.inl ⟨?_, ?_⟩) (by assumption) ?_
      rotate_left 2
      · (simp only [List.getElem?_toArray, List.getElem?_cons_succ, List.getElem?_cons_zero]; rfl)
      rotate_left 1
      · rfl
      · (intro w hSw; obtain ⟨xB, xA, xP⟩ := hSw; have z0 := xB.cell 0; have z1 := xB.cell 1; have z2 := xB.cell 2; have z3 := xB.cell 3; have z4 := xB.cell 4; have z5 := xB.cell 5; have z6 := xB.cell 6; simp only [List.getElem?_toArray, List.getElem?_cons_succ, List.getElem?_cons_zero] at z0 z1 z2 z3 z4 z5 z6; have y0 := xA.cell 0; have y1 := xA.cell 1; have y2 := xA.cell 2; have y3 := xA.cell 3; have y4 := xA.cell 4; have y5 := xA.cell 5; have y6 := xA.cell 6; simp only [List.getElem?_toArray, List.getElem?_cons_succ, List.getElem?_cons_zero] at y0 y1 y2 y3 y4 y5 y6; have u0 := xP.cell 0; have u1 := xP.cell 1; have u2 := xP.cell 2; have u3 := xP.cell 3; have u4 := xP.cell 4; have u5 := xP.cell 5; have u6 := xP.cell 6; have u7 := xP.cell 7; have u8 := xP.cell 8; have u9 := xP.cell 9; have u10 := xP.cell 10; have u11 := xP.cell 11; have u12 := xP.cell 12; have u13 := xP.cell 13; simp only [List.getElem?_toArray, List.getElem?_cons_succ, List.getElem?_cons_zero] at u0 u1 u2 u3 u4 u5 u6 u7 u8 u9 u10 u11 u12 u13; clear xB xA xP; go_simp; try with_reducible rfl)
      rotate_left 1
      · exact fun _ _ _ h => h
      try simp only [Act.put, List.setIfInBounds_toArray, List.set_cons_zero, List.set_cons_succ]
      refine wpAnyH_take (i := 6) (oi := ?_) (v := ?_) ?_ (by kernel_rfl) (by kernel_rfl) (by kernel_rfl) ?_ (Or.inl ⟨?_, ?_⟩) (by assumption) ?_
      rotate_left 2
      · (simp only [List.getElem?_toArray, List.getElem?_cons_succ, List.getElem?_cons_zero]; rfl)
      rotate_left 1
      · rfl
      · (intro w hSw; obtain ⟨xB, xA, xP⟩ := hSw; have z0 := xB.cell 0; have z1 := xB.cell 1; have z2 := xB.cell 2; have z3 := xB.cell 3; have z4 := xB.cell 4; have z5 := xB.cell 5; have z6 := xB.cell 6; simp only [List.getElem?_toArray, List.getElem?_cons_succ, List.getElem?_cons_zero] at z0 z1 z2 z3 z4 z5 z6; have y0 := xA.cell 0; have y1 := xA.cell 1; have y2 := xA.cell 2; have y3 := xA.cell 3; have y4 := xA.cell 4; have y5 := xA.cell 5; have y6 := xA.cell 6; simp only [List.getElem?_toArray, List.getElem?_cons_succ, List.getElem?_cons_zero] at y0 y1 y2 y3 y4 y5 y6; have u0 := xP.cell 0; have u1 := xP.cell 1; have u2 := xP.cell 2; have u3 := xP.cell 3; have u4 := xP.cell 4; have u5 := xP.cell 5; have u6 := xP.cell 6; have u7 := xP.cell 7; have u8 := xP.cell 8; have u9 := xP.cell 9; have u10 := xP.cell 10; have u11 := xP.cell 11; have u12 := xP.cell 12; have u13 := xP.cell 13; simp only [List.getElem?_toArray, List.getElem?_cons_succ, List.getElem?_cons_zero] at u0 u1 u2 u3 u4 u5 u6 u7 u8 u9 u10 u11 u12 u13; clear xB xA xP; go_simp; try with_reducible rfl)
      rotate_left 1
      · exact fun _ _ _ h => h
      try simp only [Act.put, List.setIfInBounds_toArray, List.set_cons_zero, List.set_cons_succ]
      refine wpAnyH_take (i := 7) (oi := ?_) (v := ?_) ?_ (by kernel_rfl) (by kernel_rfl) (by kernel_rfl) ?_ (Or.inl ⟨?_, ?_⟩) (by assumption) ?_
      rotate_left 2
      · (simp only [List.getElem?_toArray, List.getElem?_cons_succ, List.getElem?_cons_zero]; rfl)
      rotate_left 1
      · rfl
      · (intro w hSw; obtain ⟨xB, xA, xP⟩ := hSw; have z0 := xB.cell 0; have z1 := xB.cell 1; have z2 := xB.cell 2; have z3 := xB.cell 3; have z4 := xB.cell 4; have z5 := xB.cell 5; have z6 := xB.cell 6; simp only [List.getElem?_toArray, List.getElem?_cons_succ, List.getElem?_cons_zero] at z0 z1 z2 z3 z4 z5 z6; have y0 := xA.cell 0; have y1 := xA.cell 1; have y2 := xA.cell 2; have y3 := xA.cell 3; have y4 := xA.cell 4; have y5 := xA.cell 5; have y6 := xA.cell 6; simp only [List.getElem?_toArray, List.getElem?_cons_succ, List.getElem?_cons_zero] at y0 y1 y2 y3 y4 y5 y6; have u0 := xP.cell 0; have u1 := xP.cell 1; have u2 := xP.cell 2; have u3 := xP.cell 3; have u4 := xP.cell 4; have u5 := xP.cell 5; have u6 := xP.cell 6; have u7 := xP.cell 7; have u8 := xP.cell 8; have u9 := xP.cell 9; have u10 := xP.cell 10; have u11 := xP.cell 11; have u12 := xP.cell 12; have u13 := xP.cell 13; simp only [List.getElem?_toArray, List.getElem?_cons_succ, List.getElem?_cons_zero] at u0 u1 u2 u3 u4 u5 u6 u7 u8 u9 u10 u11 u12 u13; clear xB xA xP; go_simp; try with_reducible rfl)
      rotate_left 1
      · exact fun _ _ _ h => h
      try simp only [Act.put, List.setIfInBounds_toArray, List.set_cons_zero, List.set_cons_succ]
      refine wpAnyH_ready (rs := [5]) (by kernel_rfl) (by simp) ?_
      refine AllReadyH.cons (o := ?_) ?_ (fun K hK => ?_) AllReadyH.nil
      rotate_left 1
      · (simp only [List.getElem?_toArray, List.getElem?_cons_succ, List.getElem?_cons_zero]; rfl)
      go_simp
      go_at_call 15; refine (count46 HLC.out (DCount_ok _ (.slice A3 os.length c3) (.slice A4 ts.length c4) (.slice none 0 0) r' c' 0 0 0 0 p' au' false false os _ hsv rfl rfl (by have := HOL.out; omega) (fun c hc => (HCC.out c hc).1))).mono ?_; rintro e wC ⟨rfl, hcx⟩; have hb9 := hb9.trans (hcx.mono hb9.size); have bv := bv.same hcx; have bw := bw.same hcx; have bp := bp.same hcx; have hsv := hsv.lt_up2 hcx; clear hcx
      refine hK.out _ _ ?_ (fun hHeld => ?_)
      · exact ⟨bw, bv, bp⟩
      clear hK K
      try simp only [Act.put, List.setIfInBounds_toArray, List.set_cons_zero, List.set_cons_succ]
      refine wpAnyH_ready (rs := [8]) (by kernel_rfl) (by simp) ?_
      refine AllReadyH.cons (o := ?_) ?_ (fun K hK => ?_) AllReadyH.nil
      rotate_left 1
      · (simp only [List.getElem?_toArray, List.getElem?_cons_succ, List.getElem?_cons_zero]; rfl)
      go_simp
      go_at_call 16; refine (HCN.out _ hb9).mono ?_; rintro e wD ⟨rfl, hcx⟩; have hb9 := hb9.trans (hcx.mono hb9.size); have bv := bv.same hcx; have bw := bw.same hcx; have bp := bp.same hcx; have hsv := hsv.lt_up2 hcx; clear hcx
      refine hK.out _ _ ?_ (fun hHeld => ?_)
      · exact ⟨bw, bv, bp⟩
      clear hK K
      try simp only [Act.put, List.setIfInBounds_toArray, List.set_cons_zero, List.set_cons_succ]
      refine wpAnyH_take (i := 9) (oi := ?_) (v := ?_) ?_ (by kernel_rfl) (by kernel_rfl) (by kernel_rfl) ?_ (Or.inl ⟨?_, ?_⟩) (by assumption) ?_
      rotate_left 2
      · (simp only [List.getElem?_toArray, List.getElem?_cons_succ, List.getElem?_cons_zero]; rfl)
      rotate_left 1
      · rfl
      · (intro w hSw; obtain ⟨xB, xA, xP⟩ := hSw; have z0 := xB.cell 0; have z1 := xB.cell 1; have z2 := xB.cell 2; have z3 := xB.cell 3; have z4 := xB.cell 4; have z5 := xB.cell 5; have z6 := xB.cell 6; simp only [List.getElem?_toArray, List.getElem?_cons_succ, List.getElem?_cons_zero] at z0 z1 z2 z3 z4 z5 z6; have y0 := xA.cell 0; have y1 := xA.cell 1; have y2 := xA.cell 2; have y3 := xA.cell 3; have y4 := xA.cell 4; have y5 := xA.cell 5; have y6 := xA.cell 6; simp only [List.getElem?_toArray, List.getElem?_cons_succ, List.getElem?_cons_zero] at y0 y1 y2 y3 y4 y5 y6; have u0 := xP.cell 0; have u1 := xP.cell 1; have u2 := xP.cell 2; have u3 := xP.cell 3; have u4 := xP.cell 4; have u5 := xP.cell 5; have u6 := xP.cell 6; have u7 := xP.cell 7; have u8 := xP.cell 8; have u9 := xP.cell 9; have u10 := xP.cell 10; have u11 := xP.cell 11; have u12 := xP.cell 12; have u13 := xP.cell 13; simp only [List.getElem?_toArray, List.getElem?_cons_succ, List.getElem?_cons_zero] at u0 u1 u2 u3 u4 u5 u6 u7 u8 u9 u10 u11 u12 u13; clear xB xA xP; go_simp; try with_reducible rfl)
      rotate_left 1
      · exact fun _ _ _ h => h
      try simp only [Act.put, List.setIfInBounds_toArray, List.set_cons_zero, List.set_cons_succ]
      refine wpAnyH_take (i := 10) (oi := ?_) (v := ?_) ?_ (by kernel_rfl) (by kernel_rfl) (by kernel_rfl) ?_ (Or.inl ⟨?_, ?_⟩) (by assumption) ?_
      rotate_left 2
      · (simp only [List.getElem?_toArray, List.getElem?_cons_succ, List.getElem?_cons_zero]; rfl)
      rotate_left 1
      · rfl
      · (intro w hSw; obtain ⟨xB, xA, xP⟩ := hSw; have z0 := xB.cell 0; have z1 := xB.cell 1; have z2 := xB.cell 2; have z3 := xB.cell 3; have z4 := xB.cell 4; have z5 := xB.cell 5; have z6 := xB.cell 6; simp only [List.getElem?_toArray, List.getElem?_cons_succ, List.getElem?_cons_zero] at z0 z1 z2 z3 z4 z5 z6; have y0 := xA.cell 0; have y1 := xA.cell 1; have y2 := xA.cell 2; have y3 := xA.cell 3; have y4 := xA.cell 4; have y5 := xA.cell 5; have y6 := xA.cell 6; simp only [List.getElem?_toArray, List.getElem?_cons_succ, List.getElem?_cons_zero] at y0 y1 y2 y3 y4 y5 y6; have u0 := xP.cell 0; have u1 := xP.cell 1; have u2 := xP.cell 2; have u3 := xP.cell 3; have u4 := xP.cell 4; have u5 := xP.cell 5; have u6 := xP.cell 6; have u7 := xP.cell 7; have u8 := xP.cell 8; have u9 := xP.cell 9; have u10 := xP.cell 10; have u11 := xP.cell 11; have u12 := xP.cell 12; have u13 := xP.cell 13; simp only [List.getElem?_toArray, List.getElem?_cons_succ, List.getElem?_cons_zero] at u0 u1 u2 u3 u4 u5 u6 u7 u8 u9 u10 u11 u12 u13; clear xB xA xP; go_simp; try with_reducible rfl)
      rotate_left 1
      · exact fun _ _ _ h => h
      try simp only [Act.put, List.setIfInBounds_toArray, List.set_cons_zero, List.set_cons_succ]
      refine wpAnyH_done (by kernel_rfl) ?_ _
      clear hHeld
      have hz9 := hb9.size
      have y0 := bv.cell 0; have y1 := bv.cell 1; have y2 := bv.cell 2; have y3 := bv.cell 3; have y4 := bv.cell 4; have y5 := bv.cell 5; have y6 := bv.cell 6; simp only [List.getElem?_toArray, List.getElem?_cons_succ, List.getElem?_cons_zero] at y0 y1 y2 y3 y4 y5 y6; have z0 := bw.cell 0; have z1 := bw.cell 1; have z2 := bw.cell 2; have z3 := bw.cell 3; have z4 := bw.cell 4; have z5 := bw.cell 5; have z6 := bw.cell 6; simp only [List.getElem?_toArray, List.getElem?_cons_succ, List.getElem?_cons_zero] at z0 z1 z2 z3 z4 z5 z6
      go_wp2_with fail
      refine (HSA.out _ hb9).mono ?_
      rintro e wE ⟨sq, tq, rfl, hsq, htq, hcE⟩
      obtain ⟨A7, c7, rfl, _, _, _⟩ := hsq.slc.open_
      obtain ⟨A8, c8, rfl, _, _, _⟩ := htq.slc.open_
      simp only [List.length_nil]
      have hbE := hb9.trans (hcE.mono hz9)
      have bv := (bv.same hcE).alloc (.cells #[.slice A7 0 c7, .slice A8 0 c8, .int .i64 r, .int .i64 c, .bool p, .bool au, .bool false, .int .i64 0, .int .i64 0, .slice none 0 0, .int .i64 0, .int .i64 0, .bool false, .bool false] 33)
      have bq := Blk.new wE 33 #[.slice A7 0 c7, .slice A8 0 c8, .int .i64 r, .int .i64 c, .bool p, .bool au, .bool false, .int .i64 0, .int .i64 0, .slice none 0 0, .int .i64 0, .int .i64 0, .bool false, .bool false]
      have hbF := hbE.alloc hbE.size (.cells #[.slice A7 0 c7, .slice A8 0 c8, .int .i64 r, .int .i64 c, .bool p, .bool au, .bool false, .int .i64 0, .int .i64 0, .slice none 0 0, .int .i64 0, .int .i64 0, .bool false, .bool false] 33)
      clear hsq htq hcE y0 y1 y2 y3 y4 y5 y6 z0 z1 z2 z3 z4 z5 z6
      go_upto_region 12 with fail
      obtain ⟨gq, hgq⟩ : ∃ gq, wE.heap.size = gq := ⟨_, rfl⟩
      rw [hgq] at bq ⊢
      generalize wE.alloc (.cells #[.slice A7 0 c7, .slice A8 0 c8, .int .i64 r, .int .i64 c, .bool p, .bool au, .bool false, .int .i64 0, .int .i64 0, .slice none 0 0, .int .i64 0, .int .i64 0, .bool false, .bool false] 33) = wF at *
      clear hgq
      have y0 := bv.cell 0; have y1 := bv.cell 1; have y2 := bv.cell 2; have y3 := bv.cell 3; have y4 := bv.cell 4; have y5 := bv.cell 5; have y6 := bv.cell 6; simp only [List.getElem?_toArray, List.getElem?_cons_succ, List.getElem?_cons_zero] at y0 y1 y2 y3 y4 y5 y6; have q0 := bq.cell 0; have q1 := bq.cell 1; have q2 := bq.cell 2; have q3 := bq.cell 3; have q4 := bq.cell 4; have q5 := bq.cell 5; have q6 := bq.cell 6; simp only [List.getElem?_toArray, List.getElem?_cons_succ, List.getElem?_cons_zero] at q0 q1 q2 q3 q4 q5 q6
      go_wp2
      go_ret
      exact ⟨rfl, hbF⟩
    · have HO := hide (Of_ne _ _ _ _ wd hi r c wd' hi' r' c' p au p' au' ls ls' w3 (HX.out _ hb3) (HY.out _ hb3) hra hrb hS)
      have hbo := HBO.out HGA2.out HGB2.out
      rw [hra, hrb, andB_no hS] at hbo
      have HBT := hide hbo
      have HAE := hide (apply_whole (cs := []) (is := []) (r := 0) (c := 0) (p := false) (au := false) hra hrb)
      clear hra hrb HBO hbo hS
      go_wp2_with fail
      refine HO.out.mono ?_
      rintro e w4 ⟨ov, rfl, hl4, hc4⟩
      obtain ⟨A6, n6, c6, rfl⟩ : ∃ A6 n6 c6, ov = .slice A6 n6 c6 := by
        obtain ⟨A, c, e, _⟩ := hl4.slc.open_
        exact ⟨A, _, c, e⟩
      have hb4 := hb3.trans (hc4.mono hz3)
      have hz4 := hb4.size
      have bv := (bv.same hc4).alloc (.cells #[.slice none 0 0, .slice none 0 0, .int .i64 0, .int .i64 0, .bool false, .bool false, .bool true, .int .i64 wd', .int .i64 hi', .slice A6 n6 c6, .int .i64 r', .int .i64 c', .bool p', .bool au'] 33)
      have bw := (bw.same hc4).alloc (.cells #[.slice none 0 0, .slice none 0 0, .int .i64 0, .int .i64 0, .bool false, .bool false, .bool true, .int .i64 wd', .int .i64 hi', .slice A6 n6 c6, .int .i64 r', .int .i64 c', .bool p', .bool au'] 33)
      have bp := Blk.new w4 33 #[.slice none 0 0, .slice none 0 0, .int .i64 0, .int .i64 0, .bool false, .bool false, .bool true, .int .i64 wd', .int .i64 hi', .slice A6 n6 c6, .int .i64 r', .int .i64 c', .bool p', .bool au']
      have hb5 := hb4.alloc hz4 (.cells #[.slice none 0 0, .slice none 0 0, .int .i64 0, .int .i64 0, .bool false, .bool false, .bool true, .int .i64 wd', .int .i64 hi', .slice A6 n6 c6, .int .i64 r', .int .i64 c', .bool p', .bool au'] 33)
      have hl4 := hl4.alloc (.cells #[.slice none 0 0, .slice none 0 0, .int .i64 0, .int .i64 0, .bool false, .bool false, .bool true, .int .i64 wd', .int .i64 hi', .slice A6 n6 c6, .int .i64 r', .int .i64 c', .bool p', .bool au'] 33)
      clear hc4
      go_upto_region 4 with fail
      obtain ⟨gp, hgp⟩ : ∃ gp, w4.heap.size = gp := ⟨_, rfl⟩
      rw [hgp] at bp ⊢
      generalize w4.alloc (.cells #[.slice none 0 0, .slice none 0 0, .int .i64 0, .int .i64 0, .bool false, .bool false, .bool true, .int .i64 wd', .int .i64 hi', .slice A6 n6 c6, .int .i64 r', .int .i64 c', .bool p', .bool au'] 33) = w5 at *
      clear hgp
      have hz5 := hb5.size
      have hl4 := hl4.slc
      have y0 := bv.cell 0; have y1 := bv.cell 1; have y2 := bv.cell 2; have y3 := bv.cell 3; have y4 := bv.cell 4; have y5 := bv.cell 5; have y6 := bv.cell 6; simp only [List.getElem?_toArray, List.getElem?_cons_succ, List.getElem?_cons_zero] at y0 y1 y2 y3 y4 y5 y6; have z0 := bw.cell 0; have z1 := bw.cell 1; have z2 := bw.cell 2; have z3 := bw.cell 3; have z4 := bw.cell 4; have z5 := bw.cell 5; have z6 := bw.cell 6; simp only [List.getElem?_toArray, List.getElem?_cons_succ, List.getElem?_cons_zero] at z0 z1 z2 z3 z4 z5 z6
      go_wp2_with fail
      refine (HRA.out _ hb5).mono ?_
      rintro e w6 ⟨rfl, hcx⟩
      have hb6 := hb5.trans (hcx.mono hb5.size)
      have bv := bv.same hcx
      have bw := bw.same hcx
      have bp := bp.same hcx
      have hl4 := hl4.lt_up2 hcx
      clear hcx y0 y1 y2 y3 y4 y5 y6 z0 z1 z2 z3 z4 z5 z6
      have y0 := bv.cell 0; have y1 := bv.cell 1; have y2 := bv.cell 2; have y3 := bv.cell 3; have y4 := bv.cell 4; have y5 := bv.cell 5; have y6 := bv.cell 6; simp only [List.getElem?_toArray, List.getElem?_cons_succ, List.getElem?_cons_zero] at y0 y1 y2 y3 y4 y5 y6; have z0 := bw.cell 0; have z1 := bw.cell 1; have z2 := bw.cell 2; have z3 := bw.cell 3; have z4 := bw.cell 4; have z5 := bw.cell 5; have z6 := bw.cell 6; simp only [List.getElem?_toArray, List.getElem?_cons_succ, List.getElem?_cons_zero] at z0 z1 z2 z3 z4 z5 z6
      go_wp2_with fail
      refine (HRB.out _ hb6).mono ?_
      rintro e w7 ⟨rfl, hcx⟩
      have hb7 := hb6.trans (hcx.mono hb6.size)
      have bv := bv.same hcx
      have bw := bw.same hcx
      have bp := bp.same hcx
      have hl4 := hl4.lt_up2 hcx
      clear hcx y0 y1 y2 y3 y4 y5 y6 z0 z1 z2 z3 z4 z5 z6
      have hz7 := hb7.size
      have y0 := bv.cell 0; have y1 := bv.cell 1; have y2 := bv.cell 2; have y3 := bv.cell 3; have y4 := bv.cell 4; have y5 := bv.cell 5; have y6 := bv.cell 6; simp only [List.getElem?_toArray, List.getElem?_cons_succ, List.getElem?_cons_zero] at y0 y1 y2 y3 y4 y5 y6; have z0 := bw.cell 0; have z1 := bw.cell 1; have z2 := bw.cell 2; have z3 := bw.cell 3; have z4 := bw.cell 4; have z5 := bw.cell 5; have z6 := bw.cell 6; simp only [List.getElem?_toArray, List.getElem?_cons_succ, List.getElem?_cons_zero] at z0 z1 z2 z3 z4 z5 z6
      have u0 := bp.cell 0; have u1 := bp.cell 1; have u2 := bp.cell 2; have u3 := bp.cell 3; have u4 := bp.cell 4; have u5 := bp.cell 5; have u6 := bp.cell 6; have u7 := bp.cell 7; have u8 := bp.cell 8; have u9 := bp.cell 9; have u10 := bp.cell 10; have u11 := bp.cell 11; have u12 := bp.cell 12; have u13 := bp.cell 13; simp only [List.getElem?_toArray, List.getElem?_cons_succ, List.getElem?_cons_zero] at u0 u1 u2 u3 u4 u5 u6 u7 u8 u9 u10 u11 u12 u13
      have HAP := hide (Apply_ok _ _ _ _ (.slice A ls.length cp) (.slice A6 n6 c6) (.slice none 0 0) (.slice none 0 0) wd hi r c wd' hi' r' c' 0 0 p au p' au' false false true ls ls' [] [] w7 (HX.out _ hb7) hl4 (Slc.nil_ (So := fun _ => True)) (Slc.nil_ (So := fun _ => True)) HTA.out HTB.out (fun c hc => by cases hc) (by simp) (by simp) (wf_i64 (by have := HGR.out.w1; omega) (by have := HGR.out.w2; omega)))
      go_wp2_with fail
      refine HAP.out.mono ?_
      rintro e w8 ⟨hsome, _, hc8⟩
      obtain ⟨ov8, rfl, hl8⟩ := hsome _ HAE.out
      clear hsome
      obtain ⟨A5, n5, c5, rfl⟩ : ∃ A5 n5 c5, ov8 = .slice A5 n5 c5 := by
        obtain ⟨A, c, e, _⟩ := hl8.slc.open_
        exact ⟨A, _, c, e⟩
      have hb8 := hb7.trans (hc8.mono hz7)
      have hz8 := hb8.size
      have bv := (bv.same hc8).alloc (.cells #[.int .i64 wd', .int .i64 hi', .slice A5 n5 c5, .int .i64 r', .int .i64 c', .bool p', .bool au'] 26)
      have bw := (bw.same hc8).alloc (.cells #[.int .i64 wd', .int .i64 hi', .slice A5 n5 c5, .int .i64 r', .int .i64 c', .bool p', .bool au'] 26)
      have bp := (bp.same hc8).alloc (.cells #[.int .i64 wd', .int .i64 hi', .slice A5 n5 c5, .int .i64 r', .int .i64 c', .bool p', .bool au'] 26)
      have bo := Blk.new w8 26 #[.int .i64 wd', .int .i64 hi', .slice A5 n5 c5, .int .i64 r', .int .i64 c', .bool p', .bool au']
      have hb9 := hb8.alloc hz8 (.cells #[.int .i64 wd', .int .i64 hi', .slice A5 n5 c5, .int .i64 r', .int .i64 c', .bool p', .bool au'] 26)
      have hl9 := hl8.alloc (.cells #[.int .i64 wd', .int .i64 hi', .slice A5 n5 c5, .int .i64 r', .int .i64 c', .bool p', .bool au'] 26)
      clear hc8 hl8 y0 y1 y2 y3 y4 y5 y6 z0 z1 z2 z3 z4 z5 z6 u0 u1 u2 u3 u4 u5 u6 u7 u8 u9 u10 u11 u12 u13 HAP
      go_upto_region 7 with fail
      obtain ⟨go, hgo⟩ : ∃ go, w8.heap.size = go := ⟨_, rfl⟩
      rw [hgo] at bo ⊢
      generalize w8.alloc (.cells #[.int .i64 wd', .int .i64 hi', .slice A5 n5 c5, .int .i64 r', .int .i64 c', .bool p', .bool au'] 26) = w9 at *
      clear hgo
      have hz9 := hb9.size
      have hl9 := hl9.slc
      have bv : Blk w9.drew _ _ _ := bv
      have bw : Blk w9.drew _ _ _ := bw
      have bp : Blk w9.drew _ _ _ := bp
      have bo : Blk w9.drew _ _ _ := bo
      have hb9 := below_drw hb9
      have hl9 := hl9.lt_up2 (w' := w9.drew) (below_drw (Below.refl _ _))
      refine wp_region_held_drew (S := fun w' => Blk w' go 26 #[.int .i64 wd', .int .i64 hi', .slice A5 n5 c5, .int .i64 r', .int .i64 c', .bool p', .bool au'] ∧ Blk w' (w.heap.size + 1) 26 #[.int .i64 wd', .int .i64 hi', .slice B ls'.length cq, .int .i64 r', .int .i64 c', .bool p', .bool au'] ∧ Blk w' w.heap.size 26 #[.int .i64 wd, .int .i64 hi, .slice A ls.length cp, .int .i64 r, .int .i64 c, .bool p, .bool au] ∧ Blk w' gp 33 #[.slice none 0 0, .slice none 0 0, .int .i64 0, .int .i64 0, .bool false, .bool false, .bool true, .int .i64 wd', .int .i64 hi', .slice A6 n6 c6, .int .i64 r', .int .i64 c', .bool p', .bool au']) (by kernel_rfl) (by exact ⟨bo, bw, bv, bp⟩) (fun hHeld => ?_)
      refine wpAnyH_take (i := 0) (oi := ?_) (v := ?_) ?_ (by kernel_rfl) (by kernel_rfl) (by kernel_rfl) ?_ (Or.inl ⟨?_, ?_⟩) (by assumption) ?_
      rotate_left 2
      · (simp only [List.getElem?_toArray, List.getElem?_cons_succ, List.getElem?_cons_zero]; rfl)
      rotate_left 1
      · rfl
      · (intro w hSw; obtain ⟨xO, xB, xA, xP⟩ := hSw; have o0 := xO.cell 0; have o1 := xO.cell 1; have o2 := xO.cell 2; have o3 := xO.cell 3; have o4 := xO.cell 4; have o5 := xO.cell 5; have o6 := xO.cell 6; simp only [List.getElem?_toArray, List.getElem?_cons_succ, List.getElem?_cons_zero] at o0 o1 o2 o3 o4 o5 o6; have z0 := xB.cell 0; have z1 := xB.cell 1; have z2 := xB.cell 2; have z3 := xB.cell 3; have z4 := xB.cell 4; have z5 := xB.cell 5; have z6 := xB.cell 6; simp only [List.getElem?_toArray, List.getElem?_cons_succ, List.getElem?_cons_zero] at z0 z1 z2 z3 z4 z5 z6; have y0 := xA.cell 0; have y1 := xA.cell 1; have y2 := xA.cell 2; have y3 := xA.cell 3; have y4 := xA.cell 4; have y5 := xA.cell 5; have y6 := xA.cell 6; simp only [List.getElem?_toArray, List.getElem?_cons_succ, List.getElem?_cons_zero] at y0 y1 y2 y3 y4 y5 y6; have u6 := xP.cell 6; simp only [List.getElem?_toArray, List.getElem?_cons_succ, List.getElem?_cons_zero] at u6; clear xO xB xA xP; go_simp; try with_reducible rfl)
      rotate_left 1
      · exact fun _ _ _ h => h
      try simp only [Act.put, List.setIfInBounds_toArray, List.set_cons_zero, List.set_cons_succ]
      refine wpAnyH_take (i := 1) (oi := ?_) (v := ?_) ?_ (by kernel_rfl) (by kernel_rfl) (by kernel_rfl) ?_ (Or.inl ⟨?_, ?_⟩) (by assumption) ?_
      rotate_left 2
      · (simp only [List.getElem?_toArray, List.getElem?_cons_succ, List.getElem?_cons_zero]; rfl)
      rotate_left 1
      · rfl
      · (intro w hSw; obtain ⟨xO, xB, xA, xP⟩ := hSw; have o0 := xO.cell 0; have o1 := xO.cell 1; have o2 := xO.cell 2; have o3 := xO.cell 3; have o4 := xO.cell 4; have o5 := xO.cell 5; have o6 := xO.cell 6; simp only [List.getElem?_toArray, List.getElem?_cons_succ, List.getElem?_cons_zero] at o0 o1 o2 o3 o4 o5 o6; have z0 := xB.cell 0; have z1 := xB.cell 1; have z2 := xB.cell 2; have z3 := xB.cell 3; have z4 := xB.cell 4; have z5 := xB.cell 5; have z6 := xB.cell 6; simp only [List.getElem?_toArray, List.getElem?_cons_succ, List.getElem?_cons_zero] at z0 z1 z2 z3 z4 z5 z6; have y0 := xA.cell 0; have y1 := xA.cell 1; have y2 := xA.cell 2; have y3 := xA.cell 3; have y4 := xA.cell 4; have y5 := xA.cell 5; have y6 := xA.cell 6; simp only [List.getElem?_toArray, List.getElem?_cons_succ, List.getElem?_cons_zero] at y0 y1 y2 y3 y4 y5 y6; have u6 := xP.cell 6; simp only [List.getElem?_toArray, List.getElem?_cons_succ, List.getElem?_cons_zero] at u6; clear xO xB xA xP; go_simp; try with_reducible rfl)
      rotate_left 1
      · exact fun _ _ _ h => h
      try simp only [Act.put, List.setIfInBounds_toArray, List.set_cons_zero, List.set_cons_succ]
      refine wpAnyH_take (i := 2) (oi := ?_) (v := ?_) ?_ (by kernel_rfl) (by kernel_rfl) (by kernel_rfl) ?_ (Or.inl ⟨?_, ?_⟩) (by assumption) ?_
      rotate_left 2
      · (simp only [List.getElem?_toArray, List.getElem?_cons_succ, List.getElem?_cons_zero]; rfl)
      rotate_left 1
      · rfl
      · (intro w hSw; obtain ⟨xO, xB, xA, xP⟩ := hSw; have o0 := xO.cell 0; have o1 := xO.cell 1; have o2 := xO.cell 2; have o3 := xO.cell 3; have o4 := xO.cell 4; have o5 := xO.cell 5; have o6 := xO.cell 6; simp only [List.getElem?_toArray, List.getElem?_cons_succ, List.getElem?_cons_zero] at o0 o1 o2 o3 o4 o5 o6; have z0 := xB.cell 0; have z1 := xB.cell 1; have z2 := xB.cell 2; have z3 := xB.cell 3; have z4 := xB.cell 4; have z5 := xB.cell 5; have z6 := xB.cell 6; simp only [List.getElem?_toArray, List.getElem?_cons_succ, List.getElem?_cons_zero] at z0 z1 z2 z3 z4 z5 z6; have y0 := xA.cell 0; have y1 := xA.cell 1; have y2 := xA.cell 2; have y3 := xA.cell 3; have y4 := xA.cell 4; have y5 := xA.cell 5; have y6 := xA.cell 6; simp only [List.getElem?_toArray, List.getElem?_cons_succ, List.getElem?_cons_zero] at y0 y1 y2 y3 y4 y5 y6; have u6 := xP.cell 6; simp only [List.getElem?_toArray, List.getElem?_cons_succ, List.getElem?_cons_zero] at u6; clear xO xB xA xP; go_simp; try with_reducible rfl)
      rotate_left 1
      · exact fun _ _ _ h => h
      try simp only [Act.put, List.setIfInBounds_toArray, List.set_cons_zero, List.set_cons_succ]
      refine wpAnyH_take (i := 3) (oi := ?_) (v := ?_) ?_ (by kernel_rfl) (by kernel_rfl) (by kernel_rfl) ?_ (Or.inl ⟨?_, ?_⟩) (by assumption) ?_
      rotate_left 2
      · (simp only [List.getElem?_toArray, List.getElem?_cons_succ, List.getElem?_cons_zero]; rfl)
      rotate_left 1
      · rfl
      · (intro w hSw; obtain ⟨xO, xB, xA, xP⟩ := hSw; have o0 := xO.cell 0; have o1 := xO.cell 1; have o2 := xO.cell 2; have o3 := xO.cell 3; have o4 := xO.cell 4; have o5 := xO.cell 5; have o6 := xO.cell 6; simp only [List.getElem?_toArray, List.getElem?_cons_succ, List.getElem?_cons_zero] at o0 o1 o2 o3 o4 o5 o6; have z0 := xB.cell 0; have z1 := xB.cell 1; have z2 := xB.cell 2; have z3 := xB.cell 3; have z4 := xB.cell 4; have z5 := xB.cell 5; have z6 := xB.cell 6; simp only [List.getElem?_toArray, List.getElem?_cons_succ, List.getElem?_cons_zero] at z0 z1 z2 z3 z4 z5 z6; have y0 := xA.cell 0; have y1 := xA.cell 1; have y2 := xA.cell 2; have y3 := xA.cell 3; have y4 := xA.cell 4; have y5 := xA.cell 5; have y6 := xA.cell 6; simp only [List.getElem?_toArray, List.getElem?_cons_succ, List.getElem?_cons_zero] at y0 y1 y2 y3 y4 y5 y6; have u6 := xP.cell 6; simp only [List.getElem?_toArray, List.getElem?_cons_succ, List.getElem?_cons_zero] at u6; clear xO xB xA xP; go_simp; try with_reducible rfl)
      rotate_left 1
      · exact fun _ _ _ h => h
      try simp only [Act.put, List.setIfInBounds_toArray, List.set_cons_zero, List.set_cons_succ]
      refine wpAnyH_take (i := 4) (oi := ?_) (v := ?_) ?_ (by kernel_rfl) (by kernel_rfl) (by kernel_rfl) ?_ (Or.inl ⟨?_, ?_⟩) (by assumption) ?_
      rotate_left 2
      · (simp only [List.getElem?_toArray, List.getElem?_cons_succ, List.getElem?_cons_zero]; rfl)
      rotate_left 1
      · rfl
      · (intro w hSw; obtain ⟨xO, xB, xA, xP⟩ := hSw; have o0 := xO.cell 0; have o1 := xO.cell 1; have o2 := xO.cell 2; have o3 := xO.cell 3; have o4 := xO.cell 4; have o5 := xO.cell 5; have o6 := xO.cell 6; simp only [List.getElem?_toArray, List.getElem?_cons_succ, List.getElem?_cons_zero] at o0 o1 o2 o3 o4 o5 o6; have z0 := xB.cell 0; have z1 := xB.cell 1; have z2 := xB.cell 2; have z3 := xB.cell 3; have z4 := xB.cell 4; have z5 := xB.cell 5; have z6 := xB.cell 6; simp only [List.getElem?_toArray, List.getElem?_cons_succ, List.getElem?_cons_zero] at z0 z1 z2 z3 z4 z5 z6; have y0 := xA.cell 0; have y1 := xA.cell 1; have y2 := xA.cell 2; have y3 := xA.cell 3; have y4 := xA.cell 4; have y5 := xA.cell 5; have y6 := xA.cell 6; simp only [List.getElem?_toArray, List.getElem?_cons_succ, List.getElem?_cons_zero] at y0 y1 y2 y3 y4 y5 y6; have u6 := xP.cell 6; simp only [List.getElem?_toArray, List.getElem?_cons_succ, List.getElem?_cons_zero] at u6; clear xO xB xA xP; go_simp; try with_reducible rfl)
      rotate_left 1
      · exact fun _ _ _ h => h
      try simp only [Act.put, List.setIfInBounds_toArray, List.set_cons_zero, List.set_cons_succ]
      refine wpAnyH_take (i := 5) (oi := ?_) (v := ?_) ?_ (by kernel_rfl) (by kernel_rfl) (by kernel_rfl) ?_ (Or.inl ⟨?_, ?_⟩) (by assumption) ?_
      rotate_left 2
      · (simp only [List.getElem?_toArray, List.getElem?_cons_succ, List.getElem?_cons_zero]; rfl)
      rotate_left 1
      · rfl
      · (intro w hSw; obtain ⟨xO, xB, xA, xP⟩ := hSw; have o0 := xO.cell 0; have o1 := xO.cell 1; have o2 := xO.cell 2; have o3 := xO.cell 3; have o4 := xO.cell 4; have o5 := xO.cell 5; have o6 := xO.cell 6; simp only [List.getElem?_toArray, List.getElem?_cons_succ, List.getElem?_cons_zero] at o0 o1 o2 o3 o4 o5 o6; have z0 := xB.cell 0; have z1 := xB.cell 1; have z2 := xB.cell 2; have z3 := xB.cell 3; have z4 := xB.cell 4; have z5 := xB.cell 5; have z6 := xB.cell 6; simp only [List.getElem?_toArray, List.getElem?_cons_succ, List.getElem?_cons_zero] at z0 z1 z2 z3 z4 z5 z6; have y0 := xA.cell 0; have y1 := xA.cell 1; have y2 := xA.cell 2; have y3 := xA.cell 3; have y4 := xA.cell 4; have y5 := xA.cell 5; have y6 := xA.cell 6; simp only [List.getElem?_toArray, List.getElem?_cons_succ, List.getElem?_cons_zero] at y0 y1 y2 y3 y4 y5 y6; have u6 := xP.cell 6; simp only [List.getElem?_toArray, List.getElem?_cons_succ, List.getElem?_cons_zero] at u6; clear xO xB xA xP; go_simp; try with_reducible rfl)
      rotate_left 1
      · exact fun _ _ _ h => h
      try simp only [Act.put, List.setIfInBounds_toArray, List.set_cons_zero, List.set_cons_succ]
      refine wpAnyH_take (i := 6) (oi := ?_) (v := ?_) ?_ (by kernel_rfl) (by kernel_rfl) (by kernel_rfl) ?_ (Or.inl ⟨?_, ?_⟩) (by assumption) ?_
      rotate_left 2
      · (simp only [List.getElem?_toArray, List.getElem?_cons_succ, List.getElem?_cons_zero]; rfl)
      rotate_left 1
      · rfl
      · (intro w hSw; obtain ⟨xO, xB, xA, xP⟩ := hSw; have o0 := xO.cell 0; have o1 := xO.cell 1; have o2 := xO.cell 2; have o3 := xO.cell 3; have o4 := xO.cell 4; have o5 := xO.cell 5; have o6 := xO.cell 6; simp only [List.getElem?_toArray, List.getElem?_cons_succ, List.getElem?_cons_zero] at o0 o1 o2 o3 o4 o5 o6; have z0 := xB.cell 0; have z1 := xB.cell 1; have z2 := xB.cell 2; have z3 := xB.cell 3; have z4 := xB.cell 4; have z5 := xB.cell 5; have z6 := xB.cell 6; simp only [List.getElem?_toArray, List.getElem?_cons_succ, List.getElem?_cons_zero] at z0 z1 z2 z3 z4 z5 z6; have y0 := xA.cell 0; have y1 := xA.cell 1; have y2 := xA.cell 2; have y3 := xA.cell 3; have y4 := xA.cell 4; have y5 := xA.cell 5; have y6 := xA.cell 6; simp only [List.getElem?_toArray, List.getElem?_cons_succ, List.getElem?_cons_zero] at y0 y1 y2 y3 y4 y5 y6; have u6 := xP.cell 6; simp only [List.getElem?_toArray, List.getElem?_cons_succ, List.getElem?_cons_zero] at u6; clear xO xB xA xP; go_simp; try with_reducible rfl)
      rotate_left 1
      · exact fun _ _ _ h => h
      try simp only [Act.put, List.setIfInBounds_toArray, List.set_cons_zero, List.set_cons_succ]
      refine wpAnyH_take (i := 7) (oi := ?_) (v := ?_) ?_ (by kernel_rfl) (by kernel_rfl) (by kernel_rfl) ?_ (Or.inl ⟨?_, ?_⟩) (by assumption) ?_
      rotate_left 2
      · (simp only [List.getElem?_toArray, List.getElem?_cons_succ, List.getElem?_cons_zero]; rfl)
      rotate_left 1
      · rfl
      · (intro w hSw; obtain ⟨xO, xB, xA, xP⟩ := hSw; have o0 := xO.cell 0; have o1 := xO.cell 1; have o2 := xO.cell 2; have o3 := xO.cell 3; have o4 := xO.cell 4; have o5 := xO.cell 5; have o6 := xO.cell 6; simp only [List.getElem?_toArray, List.getElem?_cons_succ, List.getElem?_cons_zero] at o0 o1 o2 o3 o4 o5 o6; have z0 := xB.cell 0; have z1 := xB.cell 1; have z2 := xB.cell 2; have z3 := xB.cell 3; have z4 := xB.cell 4; have z5 := xB.cell 5; have z6 := xB.cell 6; simp only [List.getElem?_toArray, List.getElem?_cons_succ, List.getElem?_cons_zero] at z0 z1 z2 z3 z4 z5 z6; have y0 := xA.cell 0; have y1 := xA.cell 1; have y2 := xA.cell 2; have y3 := xA.cell 3; have y4 := xA.cell 4; have y5 := xA.cell 5; have y6 := xA.cell 6; simp only [List.getElem?_toArray, List.getElem?_cons_succ, List.getElem?_cons_zero] at y0 y1 y2 y3 y4 y5 y6; have u6 := xP.cell 6; simp only [List.getElem?_toArray, List.getElem?_cons_succ, List.getElem?_cons_zero] at u6; clear xO xB xA xP; go_simp; try with_reducible rfl)
      rotate_left 1
      · exact fun _ _ _ h => h
      try simp only [Act.put, List.setIfInBounds_toArray, List.set_cons_zero, List.set_cons_succ]
      refine wpAnyH_take (i := 8) (oi := ?_) (v := ?_) ?_ (by kernel_rfl) (by kernel_rfl) (by kernel_rfl) ?_ (Or.inl ⟨?_, ?_⟩) (by assumption) ?_
      rotate_left 2
      · (simp only [List.getElem?_toArray, List.getElem?_cons_succ, List.getElem?_cons_zero]; rfl)
      rotate_left 1
      · rfl
      · (intro w hSw; obtain ⟨xO, xB, xA, xP⟩ := hSw; have o0 := xO.cell 0; have o1 := xO.cell 1; have o2 := xO.cell 2; have o3 := xO.cell 3; have o4 := xO.cell 4; have o5 := xO.cell 5; have o6 := xO.cell 6; simp only [List.getElem?_toArray, List.getElem?_cons_succ, List.getElem?_cons_zero] at o0 o1 o2 o3 o4 o5 o6; have z0 := xB.cell 0; have z1 := xB.cell 1; have z2 := xB.cell 2; have z3 := xB.cell 3; have z4 := xB.cell 4; have z5 := xB.cell 5; have z6 := xB.cell 6; simp only [List.getElem?_toArray, List.getElem?_cons_succ, List.getElem?_cons_zero] at z0 z1 z2 z3 z4 z5 z6; have y0 := xA.cell 0; have y1 := xA.cell 1; have y2 := xA.cell 2; have y3 := xA.cell 3; have y4 := xA.cell 4; have y5 := xA.cell 5; have y6 := xA.cell 6; simp only [List.getElem?_toArray, List.getElem?_cons_succ, List.getElem?_cons_zero] at y0 y1 y2 y3 y4 y5 y6; have u6 := xP.cell 6; simp only [List.getElem?_toArray, List.getElem?_cons_succ, List.getElem?_cons_zero] at u6; clear xO xB xA xP; go_simp; try with_reducible rfl)
      rotate_left 1
      · exact fun _ _ _ h => h
      try simp only [Act.put, List.setIfInBounds_toArray, List.set_cons_zero, List.set_cons_succ]
      refine wpAnyH_ready (rs := [9]) (by kernel_rfl) (by simp) ?_
      refine AllReadyH.cons (o := ?_) ?_ (fun K hK => ?_) AllReadyH.nil
      rotate_left 1
      · (simp only [List.getElem?_toArray, List.getElem?_cons_succ, List.getElem?_cons_zero]; rfl)
      go_simp
      go_at_call 14; refine (rSame40_eq _ _ _ _ (.slice A5 n5 c5) (.slice B ls'.length cq) wd' hi' r' c' p' au' ls' _ hl9 (HY.out _ hb9)).mono ?_; rintro e wA ⟨rfl, hcx⟩; have hb9 := hb9.trans (hcx.mono hb9.size); have bv := bv.same hcx; have bw := bw.same hcx; have bp := bp.same hcx; have bo := bo.same hcx; clear hcx
      refine hK.out _ _ ?_ (fun hHeld => ?_)
      · exact ⟨bo, bw, bv, bp⟩
      clear hK K
      try simp only [Act.put, List.setIfInBounds_toArray, List.set_cons_zero, List.set_cons_succ]
      refine wpAnyH_take (i := 10) (oi := ?_) (v := ?_) ?_ (by kernel_rfl) (by kernel_rfl) (by kernel_rfl) ?_ (Or.inl ⟨?_, ?_⟩) (by assumption) ?_
      rotate_left 2
      · (simp only [List.getElem?_toArray, List.getElem?_cons_succ, List.getElem?_cons_zero]; rfl)
      rotate_left 1
      · rfl
      · (intro w hSw; obtain ⟨xO, xB, xA, xP⟩ := hSw; have o0 := xO.cell 0; have o1 := xO.cell 1; have o2 := xO.cell 2; have o3 := xO.cell 3; have o4 := xO.cell 4; have o5 := xO.cell 5; have o6 := xO.cell 6; simp only [List.getElem?_toArray, List.getElem?_cons_succ, List.getElem?_cons_zero] at o0 o1 o2 o3 o4 o5 o6; have z0 := xB.cell 0; have z1 := xB.cell 1; have z2 := xB.cell 2; have z3 := xB.cell 3; have z4 := xB.cell 4; have z5 := xB.cell 5; have z6 := xB.cell 6; simp only [List.getElem?_toArray, List.getElem?_cons_succ, List.getElem?_cons_zero] at z0 z1 z2 z3 z4 z5 z6; have y0 := xA.cell 0; have y1 := xA.cell 1; have y2 := xA.cell 2; have y3 := xA.cell 3; have y4 := xA.cell 4; have y5 := xA.cell 5; have y6 := xA.cell 6; simp only [List.getElem?_toArray, List.getElem?_cons_succ, List.getElem?_cons_zero] at y0 y1 y2 y3 y4 y5 y6; have u6 := xP.cell 6; simp only [List.getElem?_toArray, List.getElem?_cons_succ, List.getElem?_cons_zero] at u6; clear xO xB xA xP; go_simp; try with_reducible rfl)
      rotate_left 1
      · exact fun _ _ _ h => h
      try simp only [Act.put, List.setIfInBounds_toArray, List.set_cons_zero, List.set_cons_succ]
      refine wpAnyH_take (i := 11) (oi := ?_) (v := ?_) ?_ (by kernel_rfl) (by kernel_rfl) (by kernel_rfl) ?_ (Or.inl ⟨?_, ?_⟩) (by assumption) ?_
      rotate_left 2
      · (simp only [List.getElem?_toArray, List.getElem?_cons_succ, List.getElem?_cons_zero]; rfl)
      rotate_left 1
      · rfl
      · (intro w hSw; obtain ⟨xO, xB, xA, xP⟩ := hSw; have o0 := xO.cell 0; have o1 := xO.cell 1; have o2 := xO.cell 2; have o3 := xO.cell 3; have o4 := xO.cell 4; have o5 := xO.cell 5; have o6 := xO.cell 6; simp only [List.getElem?_toArray, List.getElem?_cons_succ, List.getElem?_cons_zero] at o0 o1 o2 o3 o4 o5 o6; have z0 := xB.cell 0; have z1 := xB.cell 1; have z2 := xB.cell 2; have z3 := xB.cell 3; have z4 := xB.cell 4; have z5 := xB.cell 5; have z6 := xB.cell 6; simp only [List.getElem?_toArray, List.getElem?_cons_succ, List.getElem?_cons_zero] at z0 z1 z2 z3 z4 z5 z6; have y0 := xA.cell 0; have y1 := xA.cell 1; have y2 := xA.cell 2; have y3 := xA.cell 3; have y4 := xA.cell 4; have y5 := xA.cell 5; have y6 := xA.cell 6; simp only [List.getElem?_toArray, List.getElem?_cons_succ, List.getElem?_cons_zero] at y0 y1 y2 y3 y4 y5 y6; have u6 := xP.cell 6; simp only [List.getElem?_toArray, List.getElem?_cons_succ, List.getElem?_cons_zero] at u6; clear xO xB xA xP; go_simp; try with_reducible rfl)
      rotate_left 1
      · exact fun _ _ _ h => h
      try simp only [Act.put, List.setIfInBounds_toArray, List.set_cons_zero, List.set_cons_succ]
      refine wpAnyH_take (i := 12) (oi := ?_) (v := ?_) ?_ (by kernel_rfl) (by kernel_rfl) (by kernel_rfl) ?_ (Or.inl ⟨?_, ?_⟩) (by assumption) ?_
      rotate_left 2
      · (simp only [List.getElem?_toArray, List.getElem?_cons_succ, List.getElem?_cons_zero]; rfl)
      rotate_left 1
      · rfl
      · (intro w hSw; obtain ⟨xO, xB, xA, xP⟩ := hSw; have o0 := xO.cell 0; have o1 := xO.cell 1; have o2 := xO.cell 2; have o3 := xO.cell 3; have o4 := xO.cell 4; have o5 := xO.cell 5; have o6 := xO.cell 6; simp only [List.getElem?_toArray, List.getElem?_cons_succ, List.getElem?_cons_zero] at o0 o1 o2 o3 o4 o5 o6; have z0 := xB.cell 0; have z1 := xB.cell 1; have z2 := xB.cell 2; have z3 := xB.cell 3; have z4 := xB.cell 4; have z5 := xB.cell 5; have z6 := xB.cell 6; simp only [List.getElem?_toArray, List.getElem?_cons_succ, List.getElem?_cons_zero] at z0 z1 z2 z3 z4 z5 z6; have y0 := xA.cell 0; have y1 := xA.cell 1; have y2 := xA.cell 2; have y3 := xA.cell 3; have y4 := xA.cell 4; have y5 := xA.cell 5; have y6 := xA.cell 6; simp only [List.getElem?_toArray, List.getElem?_cons_succ, List.getElem?_cons_zero] at y0 y1 y2 y3 y4 y5 y6; have u6 := xP.cell 6; simp only [List.getElem?_toArray, List.getElem?_cons_succ, List.getElem?_cons_zero] at u6; clear xO xB xA xP; go_simp; try with_reducible rfl)
      rotate_left 1
      · exact fun _ _ _ h => h
      try simp only [Act.put, List.setIfInBounds_toArray, List.set_cons_zero, List.set_cons_succ]
      refine wpAnyH_take (i := 13) (oi := ?_) (v := ?_) ?_ (by kernel_rfl) (by kernel_rfl) (by kernel_rfl) ?_ (Or.inl ⟨?_, ?_⟩) (by assumption) ?_
      rotate_left 2
      · (simp only [List.getElem?_toArray, List.getElem?_cons_succ, List.getElem?_cons_zero]; rfl)
      rotate_left 1
      · rfl
      · (intro w hSw; obtain ⟨xO, xB, xA, xP⟩ := hSw; have o0 := xO.cell 0; have o1 := xO.cell 1; have o2 := xO.cell 2; have o3 := xO.cell 3; have o4 := xO.cell 4; have o5 := xO.cell 5; have o6 := xO.cell 6; simp only [List.getElem?_toArray, List.getElem?_cons_succ, List.getElem?_cons_zero] at o0 o1 o2 o3 o4 o5 o6; have z0 := xB.cell 0; have z1 := xB.cell 1; have z2 := xB.cell 2; have z3 := xB.cell 3; have z4 := xB.cell 4; have z5 := xB.cell 5; have z6 := xB.cell 6; simp only [List.getElem?_toArray, List.getElem?_cons_succ, List.getElem?_cons_zero] at z0 z1 z2 z3 z4 z5 z6; have y0 := xA.cell 0; have y1 := xA.cell 1; have y2 := xA.cell 2; have y3 := xA.cell 3; have y4 := xA.cell 4; have y5 := xA.cell 5; have y6 := xA.cell 6; simp only [List.getElem?_toArray, List.getElem?_cons_succ, List.getElem?_cons_zero] at y0 y1 y2 y3 y4 y5 y6; have u6 := xP.cell 6; simp only [List.getElem?_toArray, List.getElem?_cons_succ, List.getElem?_cons_zero] at u6; clear xO xB xA xP; go_simp; try with_reducible rfl)
      rotate_left 1
      · exact fun _ _ _ h => h
      try simp only [Act.put, List.setIfInBounds_toArray, List.set_cons_zero, List.set_cons_succ]
      refine wpAnyH_take (i := 14) (oi := ?_) (v := ?_) ?_ (by kernel_rfl) (by kernel_rfl) (by kernel_rfl) ?_ (Or.inl ⟨?_, ?_⟩) (by assumption) ?_
      rotate_left 2
      · (simp only [List.getElem?_toArray, List.getElem?_cons_succ, List.getElem?_cons_zero]; rfl)
      rotate_left 1
      · rfl
      · (intro w hSw; obtain ⟨xO, xB, xA, xP⟩ := hSw; have o0 := xO.cell 0; have o1 := xO.cell 1; have o2 := xO.cell 2; have o3 := xO.cell 3; have o4 := xO.cell 4; have o5 := xO.cell 5; have o6 := xO.cell 6; simp only [List.getElem?_toArray, List.getElem?_cons_succ, List.getElem?_cons_zero] at o0 o1 o2 o3 o4 o5 o6; have z0 := xB.cell 0; have z1 := xB.cell 1; have z2 := xB.cell 2; have z3 := xB.cell 3; have z4 := xB.cell 4; have z5 := xB.cell 5; have z6 := xB.cell 6; simp only [List.getElem?_toArray, List.getElem?_cons_succ, List.getElem?_cons_zero] at z0 z1 z2 z3 z4 z5 z6; have y0 := xA.cell 0; have y1 := xA.cell 1; have y2 := xA.cell 2; have y3 := xA.cell 3; have y4 := xA.cell 4; have y5 := xA.cell 5; have y6 := xA.cell 6; simp only [List.getElem?_toArray, List.getElem?_cons_succ, List.getElem?_cons_zero] at y0 y1 y2 y3 y4 y5 y6; have u6 := xP.cell 6; simp only [List.getElem?_toArray, List.getElem?_cons_succ, List.getElem?_cons_zero] at u6; clear xO xB xA xP; go_simp; try with_reducible rfl)
      rotate_left 1
      · exact fun _ _ _ h => h
      try simp only [Act.put, List.setIfInBounds_toArray, List.set_cons_zero, List.set_cons_succ]
      refine wpAnyH_take (i := 15) (oi := ?_) (v := ?_) ?_ (by kernel_rfl) (by kernel_rfl) (by kernel_rfl) ?_ (Or.inl ⟨?_, ?_⟩) (by assumption) ?_
      rotate_left 2
      · (simp only [List.getElem?_toArray, List.getElem?_cons_succ, List.getElem?_cons_zero]; rfl)
      rotate_left 1
      · rfl
      · (intro w hSw; obtain ⟨xO, xB, xA, xP⟩ := hSw; have o0 := xO.cell 0; have o1 := xO.cell 1; have o2 := xO.cell 2; have o3 := xO.cell 3; have o4 := xO.cell 4; have o5 := xO.cell 5; have o6 := xO.cell 6; simp only [List.getElem?_toArray, List.getElem?_cons_succ, List.getElem?_cons_zero] at o0 o1 o2 o3 o4 o5 o6; have z0 := xB.cell 0; have z1 := xB.cell 1; have z2 := xB.cell 2; have z3 := xB.cell 3; have z4 := xB.cell 4; have z5 := xB.cell 5; have z6 := xB.cell 6; simp only [List.getElem?_toArray, List.getElem?_cons_succ, List.getElem?_cons_zero] at z0 z1 z2 z3 z4 z5 z6; have y0 := xA.cell 0; have y1 := xA.cell 1; have y2 := xA.cell 2; have y3 := xA.cell 3; have y4 := xA.cell 4; have y5 := xA.cell 5; have y6 := xA.cell 6; simp only [List.getElem?_toArray, List.getElem?_cons_succ, List.getElem?_cons_zero] at y0 y1 y2 y3 y4 y5 y6; have u6 := xP.cell 6; simp only [List.getElem?_toArray, List.getElem?_cons_succ, List.getElem?_cons_zero] at u6; clear xO xB xA xP; go_simp; try with_reducible rfl)
      rotate_left 1
      · exact fun _ _ _ h => h
      try simp only [Act.put, List.setIfInBounds_toArray, List.set_cons_zero, List.set_cons_succ]
      refine wpAnyH_take (i := 16) (oi := ?_) (v := ?_) ?_ (by kernel_rfl) (by kernel_rfl) (by kernel_rfl) ?_ (Or.inl ⟨?_, ?_⟩) (by assumption) ?_
      rotate_left 2
      · (simp only [List.getElem?_toArray, List.getElem?_cons_succ, List.getElem?_cons_zero]; rfl)
      rotate_left 1
      · rfl
      · (intro w hSw; obtain ⟨xO, xB, xA, xP⟩ := hSw; have o0 := xO.cell 0; have o1 := xO.cell 1; have o2 := xO.cell 2; have o3 := xO.cell 3; have o4 := xO.cell 4; have o5 := xO.cell 5; have o6 := xO.cell 6; simp only [List.getElem?_toArray, List.getElem?_cons_succ, List.getElem?_cons_zero] at o0 o1 o2 o3 o4 o5 o6; have z0 := xB.cell 0; have z1 := xB.cell 1; have z2 := xB.cell 2; have z3 := xB.cell 3; have z4 := xB.cell 4; have z5 := xB.cell 5; have z6 := xB.cell 6; simp only [List.getElem?_toArray, List.getElem?_cons_succ, List.getElem?_cons_zero] at z0 z1 z2 z3 z4 z5 z6; have y0 := xA.cell 0; have y1 := xA.cell 1; have y2 := xA.cell 2; have y3 := xA.cell 3; have y4 := xA.cell 4; have y5 := xA.cell 5; have y6 := xA.cell 6; simp only [List.getElem?_toArray, List.getElem?_cons_succ, List.getElem?_cons_zero] at y0 y1 y2 y3 y4 y5 y6; have u6 := xP.cell 6; simp only [List.getElem?_toArray, List.getElem?_cons_succ, List.getElem?_cons_zero] at u6; clear xO xB xA xP; go_simp; try with_reducible rfl)
      rotate_left 1
      · exact fun _ _ _ h => h
      try simp only [Act.put, List.setIfInBounds_toArray, List.set_cons_zero, List.set_cons_succ]
      refine wpAnyH_ready (rs := [17]) (by kernel_rfl) (by simp) ?_
      refine AllReadyH.cons (o := ?_) ?_ (fun K hK => ?_) AllReadyH.nil
      rotate_left 1
      · (simp only [List.getElem?_toArray, List.getElem?_cons_succ, List.getElem?_cons_zero]; rfl)
      go_simp
      go_at_call 8; refine (HBT.out _ hb9).mono ?_; rintro e wB ⟨rfl, hcx⟩; have hb9 := hb9.trans (hcx.mono hb9.size); have bv := bv.same hcx; have bw := bw.same hcx; have bp := bp.same hcx; have bo := bo.same hcx; clear hcx
      refine hK.out _ _ ?_ (fun hHeld => ?_)
      · exact ⟨bo, bw, bv, bp⟩
      clear hK K
      try simp only [Act.put, List.setIfInBounds_toArray, List.set_cons_zero, List.set_cons_succ]
      refine wpAnyH_take (i := 18) (oi := ?_) (v := ?_) ?_ (by kernel_rfl) (by kernel_rfl) (by kernel_rfl) ?_ (Or.inl ⟨?_, ?_⟩) (by assumption) ?_
      rotate_left 2
      · (simp only [List.getElem?_toArray, List.getElem?_cons_succ, List.getElem?_cons_zero]; rfl)
      rotate_left 1
      · rfl
      · (intro w hSw; obtain ⟨xO, xB, xA, xP⟩ := hSw; have o0 := xO.cell 0; have o1 := xO.cell 1; have o2 := xO.cell 2; have o3 := xO.cell 3; have o4 := xO.cell 4; have o5 := xO.cell 5; have o6 := xO.cell 6; simp only [List.getElem?_toArray, List.getElem?_cons_succ, List.getElem?_cons_zero] at o0 o1 o2 o3 o4 o5 o6; have z0 := xB.cell 0; have z1 := xB.cell 1; have z2 := xB.cell 2; have z3 := xB.cell 3; have z4 := xB.cell 4; have z5 := xB.cell 5; have z6 := xB.cell 6; simp only [List.getElem?_toArray, List.getElem?_cons_succ, List.getElem?_cons_zero] at z0 z1 z2 z3 z4 z5 z6; have y0 := xA.cell 0; have y1 := xA.cell 1; have y2 := xA.cell 2; have y3 := xA.cell 3; have y4 := xA.cell 4; have y5 := xA.cell 5; have y6 := xA.cell 6; simp only [List.getElem?_toArray, List.getElem?_cons_succ, List.getElem?_cons_zero] at y0 y1 y2 y3 y4 y5 y6; have u6 := xP.cell 6; simp only [List.getElem?_toArray, List.getElem?_cons_succ, List.getElem?_cons_zero] at u6; clear xO xB xA xP; go_simp; try with_reducible rfl)
      rotate_left 1
      · exact fun _ _ _ h => h
      try simp only [Act.put, List.setIfInBounds_toArray, List.set_cons_zero, List.set_cons_succ]
      refine wpAnyH_take (i := 19) (oi := ?_) (v := ?_) ?_ (by kernel_rfl) (by kernel_rfl) (by kernel_rfl) ?_ (Or.inl ⟨?_, ?_⟩) (by assumption) ?_
      rotate_left 2
      · (simp only [List.getElem?_toArray, List.getElem?_cons_succ, List.getElem?_cons_zero]; rfl)
      rotate_left 1
      · rfl
      · (intro w hSw; obtain ⟨xO, xB, xA, xP⟩ := hSw; have o0 := xO.cell 0; have o1 := xO.cell 1; have o2 := xO.cell 2; have o3 := xO.cell 3; have o4 := xO.cell 4; have o5 := xO.cell 5; have o6 := xO.cell 6; simp only [List.getElem?_toArray, List.getElem?_cons_succ, List.getElem?_cons_zero] at o0 o1 o2 o3 o4 o5 o6; have z0 := xB.cell 0; have z1 := xB.cell 1; have z2 := xB.cell 2; have z3 := xB.cell 3; have z4 := xB.cell 4; have z5 := xB.cell 5; have z6 := xB.cell 6; simp only [List.getElem?_toArray, List.getElem?_cons_succ, List.getElem?_cons_zero] at z0 z1 z2 z3 z4 z5 z6; have y0 := xA.cell 0; have y1 := xA.cell 1; have y2 := xA.cell 2; have y3 := xA.cell 3; have y4 := xA.cell 4; have y5 := xA.cell 5; have y6 := xA.cell 6; simp only [List.getElem?_toArray, List.getElem?_cons_succ, List.getElem?_cons_zero] at y0 y1 y2 y3 y4 y5 y6; have u6 := xP.cell 6; simp only [List.getElem?_toArray, List.getElem?_cons_succ, List.getElem?_cons_zero] at u6; clear xO xB xA xP; go_simp; try with_reducible rfl)
      rotate_left 1
      · exact fun _ _ _ h => h
      try simp only [Act.put, List.setIfInBounds_toArray, List.set_cons_zero, List.set_cons_succ]
      refine wpAnyH_done (by kernel_rfl) ?_ _
      clear hHeld hl9
      go_upto_region 9 with fail
      have bv : Blk wB.drew _ _ _ := bv
      have bw : Blk wB.drew _ _ _ := bw
      have bp : Blk wB.drew _ _ _ := bp
      have hb9 := below_drw hb9
      refine wp_region_held_drew (S := fun w' => Blk w' (w.heap.size + 1) 26 #[.int .i64 wd', .int .i64 hi', .slice B ls'.length cq, .int .i64 r', .int .i64 c', .bool p', .bool au'] ∧ Blk w' w.heap.size 26 #[.int .i64 wd, .int .i64 hi, .slice A ls.length cp, .int .i64 r, .int .i64 c, .bool p, .bool au] ∧ Blk w' gp 33 #[.slice none 0 0, .slice none 0 0, .int .i64 0, .int .i64 0, .bool false, .bool false, .bool true, .int .i64 wd', .int .i64 hi', .slice A6 n6 c6, .int .i64 r', .int .i64 c', .bool p', .bool au']) (by kernel_rfl) (by exact ⟨bw, bv, bp⟩) (fun hHeld => ?_)
      refine wpAnyH_take (i := 0) (oi := ?_) (v := ?_) ?_ (by kernel_rfl) (by kernel_rfl) (by kernel_rfl) ?_ (Or.inl ⟨?_, ?_⟩) (by assumption) ?_
      rotate_left 2
      · (simp only [List.getElem?_toArray, List.getElem?_cons_succ, List.getElem?_cons_zero]; rfl)
      rotate_left 1
      · rfl
      · (intro w hSw; obtain ⟨xB, xA, xP⟩ := hSw; have z0 := xB.cell 0; have z1 := xB.cell 1; have z2 := xB.cell 2; have z3 := xB.cell 3; have z4 := xB.cell 4; have z5 := xB.cell 5; have z6 := xB.cell 6; simp only [List.getElem?_toArray, List.getElem?_cons_succ, List.getElem?_cons_zero] at z0 z1 z2 z3 z4 z5 z6; have y0 := xA.cell 0; have y1 := xA.cell 1; have y2 := xA.cell 2; have y3 := xA.cell 3; have y4 := xA.cell 4; have y5 := xA.cell 5; have y6 := xA.cell 6; simp only [List.getElem?_toArray, List.getElem?_cons_succ, List.getElem?_cons_zero] at y0 y1 y2 y3 y4 y5 y6; have u0 := xP.cell 0; have u1 := xP.cell 1; have u2 := xP.cell 2; have u3 := xP.cell 3; have u4 := xP.cell 4; have u5 := xP.cell 5; have u6 := xP.cell 6; have u7 := xP.cell 7; have u8 := xP.cell 8; have u9 := xP.cell 9; have u10 := xP.cell 10; have u11 := xP.cell 11; have u12 := xP.cell 12; have u13 := xP.cell 13; simp only [List.getElem?_toArray, List.getElem?_cons_succ, List.getElem?_cons_zero] at u0 u1 u2 u3 u4 u5 u6 u7 u8 u9 u10 u11 u12 u13; clear xB xA xP; go_simp; try with_reducible rfl)
      rotate_left 1
      · exact fun _ _ _ h => h
      try simp only [Act.put, List.setIfInBounds_toArray, List.set_cons_zero, List.set_cons_succ]
      refine wpAnyH_take (i := 1) (oi := ?_) (v := ?_) ?_ (by kernel_rfl) (by kernel_rfl) (by kernel_rfl) ?_ (Or.inl ⟨?_, ?_⟩) (by assumption) ?_
      rotate_left 2
      · (simp only [List.getElem?_toArray, List.getElem?_cons_succ, List.getElem?_cons_zero]; rfl)
      rotate_left 1
      · rfl
      · (intro w hSw; obtain ⟨xB, xA, xP⟩ := hSw; have z0 := xB.cell 0; have z1 := xB.cell 1; have z2 := xB.cell 2; have z3 := xB.cell 3; have z4 := xB.cell 4; have z5 := xB.cell 5; have z6 := xB.cell 6; simp only [List.getElem?_toArray, List.getElem?_cons_succ, List.getElem?_cons_zero] at z0 z1 z2 z3 z4 z5 z6; have y0 := xA.cell 0; have y1 := xA.cell 1; have y2 := xA.cell 2; have y3 := xA.cell 3; have y4 := xA.cell 4; have y5 := xA.cell 5; have y6 := xA.cell 6; simp only [List.getElem?_toArray, List.getElem?_cons_succ, List.getElem?_cons_zero] at y0 y1 y2 y3 y4 y5 y6; have u0 := xP.cell 0; have u1 := xP.cell 1; have u2 := xP.cell 2; have u3 := xP.cell 3; have u4 := xP.cell 4; have u5 := xP.cell 5; have u6 := xP.cell 6; have u7 := xP.cell 7; have u8 := xP.cell 8; have u9 := xP.cell 9; have u10 := xP.cell 10; have u11 := xP.cell 11; have u12 := xP.cell 12; have u13 := xP.cell 13; simp only [List.getElem?_toArray, List.getElem?_cons_succ, List.getElem?_cons_zero] at u0 u1 u2 u3 u4 u5 u6 u7 u8 u9 u10 u11 u12 u13; clear xB xA xP; go_simp; try with_reducible rfl)
      rotate_left 1
      · exact fun _ _ _ h => h
      try simp only [Act.put, List.setIfInBounds_toArray, List.set_cons_zero, List.set_cons_succ]
      refine wpAnyH_take (i := 2) (oi := ?_) (v := ?_) ?_ (by kernel_rfl) (by kernel_rfl) (by kernel_rfl) ?_ (Or.inl ⟨?_, ?_⟩) (by assumption) ?_
      rotate_left 2
      · (simp only [List.getElem?_toArray, List.getElem?_cons_succ, List.getElem?_cons_zero]; rfl)
      rotate_left 1
      · rfl
      · (intro w hSw; obtain ⟨xB, xA, xP⟩ := hSw; have z0 := xB.cell 0; have z1 := xB.cell 1; have z2 := xB.cell 2; have z3 := xB.cell 3; have z4 := xB.cell 4; have z5 := xB.cell 5; have z6 := xB.cell 6; simp only [List.getElem?_toArray, List.getElem?_cons_succ, List.getElem?_cons_zero] at z0 z1 z2 z3 z4 z5 z6; have y0 := xA.cell 0; have y1 := xA.cell 1; have y2 := xA.cell 2; have y3 := xA.cell 3; have y4 := xA.cell 4; have y5 := xA.cell 5; have y6 := xA.cell 6; simp only [List.getElem?_toArray, List.getElem?_cons_succ, List.getElem?_cons_zero] at y0 y1 y2 y3 y4 y5 y6; have u0 := xP.cell 0; have u1 := xP.cell 1; have u2 := xP.cell 2; have u3 := xP.cell 3; have u4 := xP.cell 4; have u5 := xP.cell 5; have u6 := xP.cell 6; have u7 := xP.cell 7; have u8 := xP.cell 8; have u9 := xP.cell 9; have u10 := xP.cell 10; have u11 := xP.cell 11; have u12 := xP.cell 12; have u13 := xP.cell 13; simp only [List.getElem?_toArray, List.getElem?_cons_succ, List.getElem?_cons_zero] at u0 u1 u2 u3 u4 u5 u6 u7 u8 u9 u10 u11 u12 u13; clear xB xA xP; go_simp; try with_reducible rfl)
      rotate_left 1
      · exact fun _ _ _ h => h
      try simp only [Act.put, List.setIfInBounds_toArray, List.set_cons_zero, List.set_cons_succ]
      refine wpAnyH_take (i := 3) (oi := ?_) (v := ?_) ?_ (by kernel_rfl) (by kernel_rfl) (by kernel_rfl) ?_ (Or.inl ⟨?_, ?_⟩) (by assumption) ?_
      rotate_left 2
      · (simp only [List.getElem?_toArray, List.getElem?_cons_succ, List.getElem?_cons_zero]; rfl)
      rotate_left 1
      · rfl
      · (intro w hSw; obtain ⟨xB, xA, xP⟩ := hSw; have z0 := xB.cell 0; have z1 := xB.cell 1; have z2 := xB.cell 2; have z3 := xB.cell 3; have z4 := xB.cell 4; have z5 := xB.cell 5; have z6 := xB.cell 6; simp only [List.getElem?_toArray, List.getElem?_cons_succ, List.getElem?_cons_zero] at z0 z1 z2 z3 z4 z5 z6; have y0 := xA.cell 0; have y1 := xA.cell 1; have y2 := xA.cell 2; have y3 := xA.cell 3; have y4 := xA.cell 4; have y5 := xA.cell 5; have y6 := xA.cell 6; simp only [List.getElem?_toArray, List.getElem?_cons_succ, List.getElem?_cons_zero] at y0 y1 y2 y3 y4 y5 y6; have u0 := xP.cell 0; have u1 := xP.cell 1; have u2 := xP.cell 2; have u3 := xP.cell 3; have u4 := xP.cell 4; have u5 := xP.cell 5; have u6 := xP.cell 6; have u7 := xP.cell 7; have u8 := xP.cell 8; have u9 := xP.cell 9; have u10 := xP.cell 10; have u11 := xP.cell 11; have u12 := xP.cell 12; have u13 := xP.cell 13; simp only [List.getElem?_toArray, List.getElem?_cons_succ, List.getElem?_cons_zero] at u0 u1 u2 u3 u4 u5 u6 u7 u8 u9 u10 u11 u12 u13; clear xB xA xP; go_simp; try with_reducible rfl)
      rotate_left 1
      · exact fun _ _ _ h => h
      try simp only [Act.put, List.setIfInBounds_toArray, List.set_cons_zero, List.set_cons_succ]
      refine wpAnyH_take (i := 4) (oi := ?_) (v := ?_) ?_ (by kernel_rfl) (by kernel_rfl) (by kernel_rfl) ?_ (Or.inr ⟨?_, ?_⟩) (by assumption) ?_
      rotate_left 2
      · (simp only [List.getElem?_toArray, List.getElem?_cons_succ, List.getElem?_cons_zero]; rfl)
      rotate_left 1
      · rfl
      · rfl
      rotate_left 1
      · exact fun _ _ _ h => h
      try simp only [Act.put, List.setIfInBounds_toArray, List.set_cons_zero, List.set_cons_succ]
      refine wpAnyH_take (i := 5) (oi := ?_) (v := ?_) ?_ (by kernel_rfl) (by kernel_rfl) (by kernel_rfl) ?_ (Or.inr ⟨?_, ?_⟩) (by assumption) ?_
      rotate_left 2
      · (simp only [List.getElem?_toArray, List.getElem?_cons_succ, List.getElem?_cons_zero]; rfl)
      rotate_left 1
      · rfl
      · rfl
      rotate_left 1
      · exact fun _ _ _ h => h
      try simp only [Act.put, List.setIfInBounds_toArray, List.set_cons_zero, List.set_cons_succ]
      refine wpAnyH_take (i := 6) (oi := ?_) (v := ?_) ?_ (by kernel_rfl) (by kernel_rfl) (by kernel_rfl) ?_ (Or.inr ⟨?_, ?_⟩) (by assumption) ?_
      rotate_left 2
      · (simp only [List.getElem?_toArray, List.getElem?_cons_succ, List.getElem?_cons_zero]; rfl)
      rotate_left 1
      · rfl
      · rfl
      rotate_left 1
      · exact fun _ _ _ h => h
      try simp only [Act.put, List.setIfInBounds_toArray, List.set_cons_zero, List.set_cons_succ]
      refine wpAnyH_take (i := 7) (oi := ?_) (v := ?_) ?_ (by kernel_rfl) (by kernel_rfl) (by kernel_rfl) ?_ (Or.inr ⟨?_, ?_⟩) (by assumption) ?_
      rotate_left 2
      · (simp only [List.getElem?_toArray, List.getElem?_cons_succ, List.getElem?_cons_zero]; rfl)
      rotate_left 1
      · rfl
      · rfl
      rotate_left 1
      · exact fun _ _ _ h => h
      try simp only [Act.put, List.setIfInBounds_toArray, List.set_cons_zero, List.set_cons_succ]
      refine wpAnyH_take (i := 8) (oi := ?_) (v := ?_) ?_ (by kernel_rfl) (by kernel_rfl) (by kernel_rfl) ?_ (Or.inr ⟨?_, ?_⟩) (by assumption) ?_
      rotate_left 2
      · (simp only [List.getElem?_toArray, List.getElem?_cons_succ, List.getElem?_cons_zero]; rfl)
      rotate_left 1
      · rfl
      · rfl
      rotate_left 1
      · exact fun _ _ _ h => h
      try simp only [Act.put, List.setIfInBounds_toArray, List.set_cons_zero, List.set_cons_succ]
      refine wpAnyH_take (i := 9) (oi := ?_) (v := ?_) ?_ (by kernel_rfl) (by kernel_rfl) (by kernel_rfl) ?_ (Or.inr ⟨?_, ?_⟩) (by assumption) ?_
      rotate_left 2
      · (simp only [List.getElem?_toArray, List.getElem?_cons_succ, List.getElem?_cons_zero]; rfl)
      rotate_left 1
      · rfl
      · rfl
      rotate_left 1
      · exact fun _ _ _ h => h
      try simp only [Act.put, List.setIfInBounds_toArray, List.set_cons_zero, List.set_cons_succ]
      refine wpAnyH_take (i := 10) (oi := ?_) (v := ?_) ?_ (by kernel_rfl) (by kernel_rfl) (by kernel_rfl) ?_ (Or.inl ⟨?_, ?_⟩) (by assumption) ?_
      rotate_left 2
      · (simp only [List.getElem?_toArray, List.getElem?_cons_succ, List.getElem?_cons_zero]; rfl)
      rotate_left 1
      · rfl
      · (intro w hSw; obtain ⟨xB, xA, xP⟩ := hSw; have z0 := xB.cell 0; have z1 := xB.cell 1; have z2 := xB.cell 2; have z3 := xB.cell 3; have z4 := xB.cell 4; have z5 := xB.cell 5; have z6 := xB.cell 6; simp only [List.getElem?_toArray, List.getElem?_cons_succ, List.getElem?_cons_zero] at z0 z1 z2 z3 z4 z5 z6; have y0 := xA.cell 0; have y1 := xA.cell 1; have y2 := xA.cell 2; have y3 := xA.cell 3; have y4 := xA.cell 4; have y5 := xA.cell 5; have y6 := xA.cell 6; simp only [List.getElem?_toArray, List.getElem?_cons_succ, List.getElem?_cons_zero] at y0 y1 y2 y3 y4 y5 y6; have u0 := xP.cell 0; have u1 := xP.cell 1; have u2 := xP.cell 2; have u3 := xP.cell 3; have u4 := xP.cell 4; have u5 := xP.cell 5; have u6 := xP.cell 6; have u7 := xP.cell 7; have u8 := xP.cell 8; have u9 := xP.cell 9; have u10 := xP.cell 10; have u11 := xP.cell 11; have u12 := xP.cell 12; have u13 := xP.cell 13; simp only [List.getElem?_toArray, List.getElem?_cons_succ, List.getElem?_cons_zero] at u0 u1 u2 u3 u4 u5 u6 u7 u8 u9 u10 u11 u12 u13; clear xB xA xP; go_simp; try with_reducible rfl)
      rotate_left 1
      · exact fun _ _ _ h => h
      try simp only [Act.put, List.setIfInBounds_toArray, List.set_cons_zero, List.set_cons_succ]
      refine wpAnyH_done (by kernel_rfl) ?_ _
      clear hHeld
      have hz9 := hb9.size
      have y0 := bv.cell 0; have y1 := bv.cell 1; have y2 := bv.cell 2; have y3 := bv.cell 3; have y4 := bv.cell 4; have y5 := bv.cell 5; have y6 := bv.cell 6; simp only [List.getElem?_toArray, List.getElem?_cons_succ, List.getElem?_cons_zero] at y0 y1 y2 y3 y4 y5 y6; have z0 := bw.cell 0; have z1 := bw.cell 1; have z2 := bw.cell 2; have z3 := bw.cell 3; have z4 := bw.cell 4; have z5 := bw.cell 5; have z6 := bw.cell 6; simp only [List.getElem?_toArray, List.getElem?_cons_succ, List.getElem?_cons_zero] at z0 z1 z2 z3 z4 z5 z6
      go_wp2_with fail
      refine (HSA.out _ hb9).mono ?_
      rintro e wE ⟨sq, tq, rfl, hsq, htq, hcE⟩
      obtain ⟨A7, c7, rfl, _, _, _⟩ := hsq.slc.open_
      obtain ⟨A8, c8, rfl, _, _, _⟩ := htq.slc.open_
      simp only [List.length_nil]
      have hbE := hb9.trans (hcE.mono hz9)
      have bv := (bv.same hcE).alloc (.cells #[.slice A7 0 c7, .slice A8 0 c8, .int .i64 r, .int .i64 c, .bool p, .bool au, .bool false, .int .i64 0, .int .i64 0, .slice none 0 0, .int .i64 0, .int .i64 0, .bool false, .bool false] 33)
      have bq := Blk.new wE 33 #[.slice A7 0 c7, .slice A8 0 c8, .int .i64 r, .int .i64 c, .bool p, .bool au, .bool false, .int .i64 0, .int .i64 0, .slice none 0 0, .int .i64 0, .int .i64 0, .bool false, .bool false]
      have hbF := hbE.alloc hbE.size (.cells #[.slice A7 0 c7, .slice A8 0 c8, .int .i64 r, .int .i64 c, .bool p, .bool au, .bool false, .int .i64 0, .int .i64 0, .slice none 0 0, .int .i64 0, .int .i64 0, .bool false, .bool false] 33)
      clear hsq htq hcE y0 y1 y2 y3 y4 y5 y6 z0 z1 z2 z3 z4 z5 z6
      go_upto_region 12 with fail
      obtain ⟨gq, hgq⟩ : ∃ gq, wE.heap.size = gq := ⟨_, rfl⟩
      rw [hgq] at bq ⊢
      generalize wE.alloc (.cells #[.slice A7 0 c7, .slice A8 0 c8, .int .i64 r, .int .i64 c, .bool p, .bool au, .bool false, .int .i64 0, .int .i64 0, .slice none 0 0, .int .i64 0, .int .i64 0, .bool false, .bool false] 33) = wF at *
      clear hgq
      have y0 := bv.cell 0; have y1 := bv.cell 1; have y2 := bv.cell 2; have y3 := bv.cell 3; have y4 := bv.cell 4; have y5 := bv.cell 5; have y6 := bv.cell 6; simp only [List.getElem?_toArray, List.getElem?_cons_succ, List.getElem?_cons_zero] at y0 y1 y2 y3 y4 y5 y6; have q0 := bq.cell 0; have q1 := bq.cell 1; have q2 := bq.cell 2; have q3 := bq.cell 3; have q4 := bq.cell 4; have q5 := bq.cell 5; have q6 := bq.cell 6; simp only [List.getElem?_toArray, List.getElem?_cons_succ, List.getElem?_cons_zero] at q0 q1 q2 q3 q4 q5 q6
      go_wp2
      go_ret
      exact ⟨rfl, hbF⟩
  · have HO := hide (Of_no _ _ _ _ wd hi r c wd' hi' r' c' p au p' au' ls ls' w3 (HX.out _ hb3) (HY.out _ hb3) (by
      cases h1 : rightV ⟨wd, hi, ls, r, c, p, au⟩ with
      | false => exact .inl rfl
      | true => exact .inr (by
        cases h2 : rightV ⟨wd', hi', ls', r', c', p', au'⟩ with
        | false => rfl
        | true => exact absurd ⟨h1, h2⟩ hR)) (fun l hl => by have := HGA2.out.2 l hl; omega) (by have := HGA2.out.1; omega) (fun l hl => by have := HGB2.out.2 l hl; omega) (by have := HGB2.out.1; omega))
    have HR := hide hR
    clear hR
    -- <sA>
    go_wp2_with fail
    refine HO.out.mono ?_
    rintro e w4 ⟨rfl, hc4⟩
    have hb4 := hb3.trans (hc4.mono hz3)
    have hz4 := hb4.size
    have bv := (bv.same hc4).alloc (.cells #[.slice none 0 0, .slice none 0 0, .int .i64 0, .int .i64 0, .bool false, .bool false, .bool false, .int .i64 0, .int .i64 0, .slice none 0 0, .int .i64 0, .int .i64 0, .bool false, .bool false] 33)
    have bw := (bw.same hc4).alloc (.cells #[.slice none 0 0, .slice none 0 0, .int .i64 0, .int .i64 0, .bool false, .bool false, .bool false, .int .i64 0, .int .i64 0, .slice none 0 0, .int .i64 0, .int .i64 0, .bool false, .bool false] 33)
    have bp := Blk.new w4 33 #[.slice none 0 0, .slice none 0 0, .int .i64 0, .int .i64 0, .bool false, .bool false, .bool false, .int .i64 0, .int .i64 0, .slice none 0 0, .int .i64 0, .int .i64 0, .bool false, .bool false]
    have hb5 := hb4.alloc hz4 (.cells #[.slice none 0 0, .slice none 0 0, .int .i64 0, .int .i64 0, .bool false, .bool false, .bool false, .int .i64 0, .int .i64 0, .slice none 0 0, .int .i64 0, .int .i64 0, .bool false, .bool false] 33)
    clear hc4
    go_upto_region 4 with fail
    obtain ⟨gp, hgp⟩ : ∃ gp, w4.heap.size = gp := ⟨_, rfl⟩
    rw [hgp] at bp ⊢
    generalize w4.alloc (.cells #[.slice none 0 0, .slice none 0 0, .int .i64 0, .int .i64 0, .bool false, .bool false, .bool false, .int .i64 0, .int .i64 0, .slice none 0 0, .int .i64 0, .int .i64 0, .bool false, .bool false] 33) = w5 at *
    clear hgp
    have hz5 := hb5.size
    have y0 := bv.cell 0; have y1 := bv.cell 1; have y2 := bv.cell 2; have y3 := bv.cell 3; have y4 := bv.cell 4; have y5 := bv.cell 5; have y6 := bv.cell 6; simp only [List.getElem?_toArray, List.getElem?_cons_succ, List.getElem?_cons_zero] at y0 y1 y2 y3 y4 y5 y6; have z0 := bw.cell 0; have z1 := bw.cell 1; have z2 := bw.cell 2; have z3 := bw.cell 3; have z4 := bw.cell 4; have z5 := bw.cell 5; have z6 := bw.cell 6; simp only [List.getElem?_toArray, List.getElem?_cons_succ, List.getElem?_cons_zero] at z0 z1 z2 z3 z4 z5 z6
    go_wp2_with fail
    refine (HRA.out HGA2.out _ hb5).mono ?_
    cases h1 : rightV ⟨wd, hi, ls, r, c, p, au⟩ with
    | false =>
      rintro e w6 ⟨rfl, hc6⟩
      have hb6 := hb5.trans (hc6.mono hz5)
      have bp := bp.same hc6
      clear hc6 h1 y0 y1 y2 y3 y4 y5 y6 z0 z1 z2 z3 z4 z5 z6
      have u0 := bp.cell 0; have u1 := bp.cell 1; have u2 := bp.cell 2; have u3 := bp.cell 3; have u4 := bp.cell 4; have u5 := bp.cell 5; have u6 := bp.cell 6; simp only [List.getElem?_toArray, List.getElem?_cons_succ, List.getElem?_cons_zero] at u0 u1 u2 u3 u4 u5 u6
      go_wp2
      go_ret
      exact ⟨rfl, hb6⟩
    | true =>
      have h2 : rightV ⟨wd', hi', ls', r', c', p', au'⟩ = false := by
        cases h2 : rightV ⟨wd', hi', ls', r', c', p', au'⟩ with
        | false => rfl
        | true => exact absurd ⟨h1, h2⟩ HR.out
      rintro e w6 ⟨rfl, hc6⟩
      have hb6 := hb5.trans (hc6.mono hz5)
      have hz6 := hb6.size
      have bp := bp.same hc6
      have bw := bw.same hc6
      have bv := bv.same hc6
      have hrb := HRB.out HGB2.out _ hb6
      rw [h2] at hrb
      have HRB2 := hide hrb
      clear hc6 h1 h2 hrb y0 y1 y2 y3 y4 y5 y6 z0 z1 z2 z3 z4 z5 z6
      have y0 := bv.cell 0; have y1 := bv.cell 1; have y2 := bv.cell 2; have y3 := bv.cell 3; have y4 := bv.cell 4; have y5 := bv.cell 5; have y6 := bv.cell 6; simp only [List.getElem?_toArray, List.getElem?_cons_succ, List.getElem?_cons_zero] at y0 y1 y2 y3 y4 y5 y6; have z0 := bw.cell 0; have z1 := bw.cell 1; have z2 := bw.cell 2; have z3 := bw.cell 3; have z4 := bw.cell 4; have z5 := bw.cell 5; have z6 := bw.cell 6; simp only [List.getElem?_toArray, List.getElem?_cons_succ, List.getElem?_cons_zero] at z0 z1 z2 z3 z4 z5 z6
      go_wp2_with fail
      refine HRB2.out.mono ?_
      rintro e w7 ⟨rfl, hc7⟩
      have hb7 := hb6.trans (hc7.mono hz6)
      have bp := bp.same hc7
      clear hc7 y0 y1 y2 y3 y4 y5 y6 z0 z1 z2 z3 z4 z5 z6
      have u0 := bp.cell 0; have u1 := bp.cell 1; have u2 := bp.cell 2; have u3 := bp.cell 3; have u4 := bp.cell 4; have u5 := bp.cell 5; have u6 := bp.cell 6; simp only [List.getElem?_toArray, List.getElem?_cons_succ, List.getElem?_cons_zero] at u0 u1 u2 u3 u4 u5 u6
      go_wp2
      go_ret
      exact ⟨rfl, hb7⟩
end Go.Proofs.Ytcidioomhdkbnaa
