/-
  The law on what is marked in a rectangle: the walk returns true and leaves the memory that was there as it was.
-/
import Derived.Test.YtejhaepgbfngcaaDoorLaw52t
import Derived.Test.YtejhaepgbfngcaaDoorReg11
import Derived.Deep.CutBlock
namespace Go.Proofs.YtejhaepgbfngcaaDoor
open Go.RowKit
set_option linter.unusedVariables false
set_option linter.unusedSimpArgs false

set_option maxRecDepth 4096 in
set_option maxHeartbeats 8000000 in
theorem walkV_RegionBoxes (b : Nat → Addr) (cs : Array Value) (v : ViewV) (a0 a1 b0 b1 : Int) (w : World) (hV : VarsA b w) (hm : RView.E (fun b => b < w.heap.size) w cs.toList v) (hok : LinesOk v.lines) :
    Calls Tryd.prog 6 #[.agg cs, .agg #[.int .i64 a0, .int .i64 a1], .agg #[.int .i64 b0, .int .i64 b1]] w fun e w' => e = .returned (.bool true) ∧ Below w.heap.size w w' := by
  obtain ⟨x, hcs, _, _, _, _, hx⟩ := view_open hm
  obtain ⟨wd, hi, ls, r, c, p, au⟩ := v
  obtain ⟨l0⟩ := cs
  simp only at hcs hx hok
  subst hcs
  obtain ⟨A, cp, rfl, _, _, _⟩ := hx.open_
  obtain ⟨W0, hW0⟩ : ∃ W0, W0 = ((w.alloc (.cells #[.int .i64 wd, .int .i64 hi, .slice A ls.length cp, .int .i64 r, .int .i64 c, .bool p, .bool au] 40)).alloc (.cells #[.int .i64 a0, .int .i64 a1] 57)).alloc (.cells #[.int .i64 b0, .int .i64 b1] 57) := ⟨_, rfl⟩
  have hb0 : Below w.heap.size w W0 := by rw [hW0]; exact (((Below.refl _ w).alloc (Nat.le_refl _) _).alloc (by simp) _).alloc (by simp; omega) _
  have hz0 := hb0.size
  have bv : Blk W0 w.heap.size 40 #[.int .i64 wd, .int .i64 hi, .slice A ls.length cp, .int .i64 r, .int .i64 c, .bool p, .bool au] := by rw [hW0]; exact ((Blk.new w 40 #[.int .i64 wd, .int .i64 hi, .slice A ls.length cp, .int .i64 r, .int .i64 c, .bool p, .bool au]).alloc _).alloc _
  have bp : Blk W0 (w.heap.size + 1) 57 #[.int .i64 a0, .int .i64 a1] := by
    rw [hW0]
    have := (Blk.new (w.alloc (.cells #[.int .i64 wd, .int .i64 hi, .slice A ls.length cp, .int .i64 r, .int .i64 c, .bool p, .bool au] 40)) 57 #[.int .i64 a0, .int .i64 a1]).alloc (.cells #[.int .i64 b0, .int .i64 b1] 57)
    simpa using this
  have bs : Blk W0 (w.heap.size + 1 + 1) 57 #[.int .i64 b0, .int .i64 b1] := by
    rw [hW0]
    have := Blk.new ((w.alloc (.cells #[.int .i64 wd, .int .i64 hi, .slice A ls.length cp, .int .i64 r, .int .i64 c, .bool p, .bool au] 40)).alloc (.cells #[.int .i64 a0, .int .i64 a1] 57)) 57 #[.int .i64 b0, .int .i64 b1]
    simpa using this
  have HVV := hide hV
  have HW := hide (fun W (h : Below w.heap.size w W) => works52_ok b W (hV.below h))
  have HX : Hid (∀ W, Below w.heap.size w W → Slc RLine (fun b => b < w.heap.size) (fun b => b < W.heap.size) W (.slice A ls.length cp) ls) := hide (fun W h => (hx.mono (Keep.below (S := fun b => b < w.heap.size) h) (Keep.below (S := fun b => b < w.heap.size) h)).mono (Keep.refl _ _) (Keep.weaken fun b hb => by have := h.size; omega))
  have HG := hide (fun W (h : Below w.heap.size w W) => great52_ok _ _ wd hi r c p au ls W (HX.out W h) hok)
  clear hV hm hok hx
  subst hW0
  go_enter Tryd.func6, Tryd.ntmps6
  skip
  skip
  have y0 := bv.cell 0
  have y1 := bv.cell 1
  have y2 := bv.cell 2
  have y3 := bv.cell 3
  have y4 := bv.cell 4
  have y5 := bv.cell 5
  have y6 := bv.cell 6
  have p0 := bp.cell 0
  have p1 := bp.cell 1
  have s0 := bs.cell 0
  have s1 := bs.cell 1
  simp only [List.getElem?_toArray, List.getElem?_cons_succ, List.getElem?_cons_zero] at y0 y1 y2 y3 y4 y5 y6 p0 p1 s0 s1
  go_wp2_with fail
  refine (HW.out _ hb0).mono ?_
  rintro e w1 ⟨rfl, hc1⟩
  have hb := hb0.trans (hc1.mono hz0)
  have bv := bv.same hc1
  have bp := bp.same hc1
  have bs := bs.same hc1
  have y0 := bv.cell 0
  have y1 := bv.cell 1
  have y2 := bv.cell 2
  have y3 := bv.cell 3
  have y4 := bv.cell 4
  have y5 := bv.cell 5
  have y6 := bv.cell 6
  have p0 := bp.cell 0
  have p1 := bp.cell 1
  have s0 := bs.cell 0
  have s1 := bs.cell 1
  simp only [List.getElem?_toArray, List.getElem?_cons_succ, List.getElem?_cons_zero] at y0 y1 y2 y3 y4 y5 y6 p0 p1 s0 s1
  clear hc1
  go_wp2_with fail
  refine (HG.out _ hb).mono ?_
  rintro e w2 ⟨vg, rfl, ⟨g, rfl, hgr⟩, hc2⟩
  have hb := hb.trans (hc2.mono hb.size)
  have bv := bv.same hc2
  have bp := bp.same hc2
  have bs := bs.same hc2
  have y0 := bv.cell 0
  have y1 := bv.cell 1
  have y2 := bv.cell 2
  have y3 := bv.cell 3
  have y4 := bv.cell 4
  have y5 := bv.cell 5
  have y6 := bv.cell 6
  have p0 := bp.cell 0
  have p1 := bp.cell 1
  have s0 := bs.cell 0
  have s1 := bs.cell 1
  simp only [List.getElem?_toArray, List.getElem?_cons_succ, List.getElem?_cons_zero] at y0 y1 y2 y3 y4 y5 y6 p0 p1 s0 s1
  clear hc2
  cases g with
  | true =>
    clear hgr
    go_wp2_with fail
    refine (HW.out _ hb).mono ?_
    rintro e w3 ⟨rfl, hc3⟩
    go_wp2
    go_ret
    exact ⟨rfl, hb.trans (hc3.mono hb.size)⟩
  | false =>
    have hgs := hgr rfl
    have HLL : Hid (ls.length ≤ 1000000) := hide (by have := hgs.1; omega)
    have HLE : Hid (∀ l ∈ ls, l.1.length ≤ 1000000) := hide (fun l hl => by have := hgs.2 l hl; omega)
    have HT := hide (fun W (h : Below w.heap.size w W) => Box_ok b _ _ wd hi r c p au ls a0 a1 b0 b1 W (HVV.out.below h) (HX.out W h) HLE.out HLL.out)
    have HRR := hide (fun W (h : Below w.heap.size w W) => rRight43_ok _ _ wd hi r c p au ls W (HX.out W h) HLE.out HLL.out)
    clear hgr hgs
    go_wp2_with fail
    refine (HT.out _ hb).mono ?_
    rintro e w3 ⟨s3, rfl, hv3, hc3⟩
    have hzb := hb.size
    have hb := hb.trans (hc3.mono hb.size)
    have bv := bv.same hc3
    have bp := bp.same hc3
    have bs := bs.same hc3
    have y0 := bv.cell 0
    have y1 := bv.cell 1
    have y2 := bv.cell 2
    have y3 := bv.cell 3
    have y4 := bv.cell 4
    have y5 := bv.cell 5
    have y6 := bv.cell 6
    have p0 := bp.cell 0
    have p1 := bp.cell 1
    have s0 := bs.cell 0
    have s1 := bs.cell 1
    simp only [List.getElem?_toArray, List.getElem?_cons_succ, List.getElem?_cons_zero] at y0 y1 y2 y3 y4 y5 y6 p0 p1 s0 s1
    clear hc3
    go_wp2_with fail
    refine (HRR.out _ hb).mono ?_
    cases hr : rightV ⟨wd, hi, ls, r, c, p, au⟩ with
    | false =>
      have htf : boxF ⟨wd, hi, ls, r, c, p, au⟩ a0 a1 b0 b1 = [] := by unfold boxF; rw [if_pos hr]
      rw [htf] at hv3
      rintro e w4 ⟨rfl, hc4⟩
      obtain ⟨A3, c3, rfl, _, _, _⟩ := hv3.slc.open_
      simp only [List.length_nil]
      clear hr htf
      go_wp2
      go_ret
      exact ⟨rfl, hb.trans (hc4.mono hb.size)⟩
    | true =>
      have hR := RgtV.of hr
      obtain ⟨x0, x1, y0', y1', hO, hbf⟩ := box4 hR a0 a1 b0 b1 r c p au hr
      rw [hbf] at hv3
      have hHA := fun (w : World) => lheld_ok (.slice A ls.length cp) wd hi r c p au a0 a1 w hR.w1 hR.w2 hR.h1 hR.h2
      have hHB := fun (w : World) => lheld_ok (.slice A ls.length cp) wd hi r c p au b0 b1 w hR.w1 hR.w2 hR.h1 hR.h2
      rw [hO.e0, hO.e1] at hHA
      rw [hO.e2, hO.e3] at hHB
      have HHA := hide hHA
      have HHB := hide hHB
      have HR := hide hR
      have HOR := hide hO
      rintro e w4 ⟨rfl, hc4⟩
      have hb4 := hb.trans (hc4.mono hb.size)
      have hbn : Below w4.heap.size w4 w4.drew := below_dr (Below.refl _ _)
      have hs4 : w.heap.size + 1 + 1 < w4.heap.size := (bs.same hc4).lt
      have cv : Blk w4.drew w.heap.size 40 #[.int .i64 wd, .int .i64 hi, .slice A ls.length cp, .int .i64 r, .int .i64 c, .bool p, .bool au] := by have := bv.same hc4; exact this
      have cq : Blk w4.drew (w.heap.size + 1) 57 #[.int .i64 a0, .int .i64 a1] := by have := bp.same hc4; exact this
      have cs : Blk w4.drew (w.heap.size + 1 + 1) 57 #[.int .i64 b0, .int .i64 b1] := by have := bs.same hc4; exact this
      have hv4 := hv3.below hc4
      have hz4 : w.heap.size ≤ w2.heap.size := hzb
      clear hr hR hO hbf hHA hHB hc4 bv bp bs hb hv3
      go_upto_region 6 with fail
      go_cut [8, 9] from 36 to 41 (fun s8 s9 wx => ∃ g h, s8 = .pointer (some ⟨g, 0, none⟩) ∧ s9 = .pointer (some ⟨h, 0, none⟩) ∧ Blk wx g 59 #[.int .i64 x0, .int .i64 x1] ∧ Blk wx h 59 #[.int .i64 y0', .int .i64 y1'] ∧ h ≠ g ∧ w4.heap.size ≤ g ∧ w4.heap.size ≤ h ∧ Blk wx w.heap.size 40 #[.int .i64 wd, .int .i64 hi, .slice A ls.length cp, .int .i64 r, .int .i64 c, .bool p, .bool au] ∧ Blk wx (w.heap.size + 1) 57 #[.int .i64 a0, .int .i64 a1] ∧ Blk wx (w.heap.size + 1 + 1) 57 #[.int .i64 b0, .int .i64 b1] ∧ Below w4.heap.size w4 wx)
      case first =>
        refine wp_region_held_drew (S := fun w' => Blk w' w.heap.size 40 #[.int .i64 wd, .int .i64 hi, .slice A ls.length cp, .int .i64 r, .int .i64 c, .bool p, .bool au] ∧ Blk w' (w.heap.size + 1) 57 #[.int .i64 a0, .int .i64 a1] ∧ Blk w' (w.heap.size + 1 + 1) 57 #[.int .i64 b0, .int .i64 b1]) (by kernel_rfl) (by exact ⟨cv, cq, cs⟩) (fun hHeld => ?_)
        generalize w4.drew = wn at *
        refine wpAnyH_take (i := 0) (oi := ?_) (v := ?_) ?_ (by kernel_rfl) (by kernel_rfl) (by kernel_rfl) ?_ (Or.inl ⟨?_, ?_⟩) (by assumption) ?_
        rotate_left 2
        · (simp only [List.getElem?_toArray, List.getElem?_cons_succ, List.getElem?_cons_zero]; rfl)
        rotate_left 1
        · rfl
        · (intro w hSw; obtain ⟨c1, c2, c3⟩ := hSw; have y0 := c1.cell 0; have y1 := c1.cell 1; have y2 := c1.cell 2; have y3 := c1.cell 3; have y4 := c1.cell 4; have y5 := c1.cell 5; have y6 := c1.cell 6; have p0 := c2.cell 0; have p1 := c2.cell 1; have s0 := c3.cell 0; have s1 := c3.cell 1; simp only [List.getElem?_toArray, List.getElem?_cons_succ, List.getElem?_cons_zero] at y0 y1 y2 y3 y4 y5 y6 p0 p1 s0 s1; clear c1 c2 c3; go_simp; try with_reducible rfl)
        rotate_left 1
        · exact fun _ _ _ h => h
        try simp only [Act.put, List.setIfInBounds_toArray, List.set_cons_zero, List.set_cons_succ]
        refine wpAnyH_take (i := 1) (oi := ?_) (v := ?_) ?_ (by kernel_rfl) (by kernel_rfl) (by kernel_rfl) ?_ (Or.inl ⟨?_, ?_⟩) (by assumption) ?_
        rotate_left 2
        · (simp only [List.getElem?_toArray, List.getElem?_cons_succ, List.getElem?_cons_zero]; rfl)
        rotate_left 1
        · rfl
        · (intro w hSw; obtain ⟨c1, c2, c3⟩ := hSw; have y0 := c1.cell 0; have y1 := c1.cell 1; have y2 := c1.cell 2; have y3 := c1.cell 3; have y4 := c1.cell 4; have y5 := c1.cell 5; have y6 := c1.cell 6; have p0 := c2.cell 0; have p1 := c2.cell 1; have s0 := c3.cell 0; have s1 := c3.cell 1; simp only [List.getElem?_toArray, List.getElem?_cons_succ, List.getElem?_cons_zero] at y0 y1 y2 y3 y4 y5 y6 p0 p1 s0 s1; clear c1 c2 c3; go_simp; try with_reducible rfl)
        rotate_left 1
        · exact fun _ _ _ h => h
        try simp only [Act.put, List.setIfInBounds_toArray, List.set_cons_zero, List.set_cons_succ]
        refine wpAnyH_take (i := 3) (oi := ?_) (v := ?_) ?_ (by kernel_rfl) (by kernel_rfl) (by kernel_rfl) ?_ (Or.inl ⟨?_, ?_⟩) (by assumption) ?_
        rotate_left 2
        · (simp only [List.getElem?_toArray, List.getElem?_cons_succ, List.getElem?_cons_zero]; rfl)
        rotate_left 1
        · rfl
        · (intro w hSw; obtain ⟨c1, c2, c3⟩ := hSw; have y0 := c1.cell 0; have y1 := c1.cell 1; have y2 := c1.cell 2; have y3 := c1.cell 3; have y4 := c1.cell 4; have y5 := c1.cell 5; have y6 := c1.cell 6; have p0 := c2.cell 0; have p1 := c2.cell 1; have s0 := c3.cell 0; have s1 := c3.cell 1; simp only [List.getElem?_toArray, List.getElem?_cons_succ, List.getElem?_cons_zero] at y0 y1 y2 y3 y4 y5 y6 p0 p1 s0 s1; clear c1 c2 c3; go_simp; try with_reducible rfl)
        rotate_left 1
        · exact fun _ _ _ h => h
        try simp only [Act.put, List.setIfInBounds_toArray, List.set_cons_zero, List.set_cons_succ]
        refine wpAnyH_take (i := 4) (oi := ?_) (v := ?_) ?_ (by kernel_rfl) (by kernel_rfl) (by kernel_rfl) ?_ (Or.inl ⟨?_, ?_⟩) (by assumption) ?_
        rotate_left 2
        · (simp only [List.getElem?_toArray, List.getElem?_cons_succ, List.getElem?_cons_zero]; rfl)
        rotate_left 1
        · rfl
        · (intro w hSw; obtain ⟨c1, c2, c3⟩ := hSw; have y0 := c1.cell 0; have y1 := c1.cell 1; have y2 := c1.cell 2; have y3 := c1.cell 3; have y4 := c1.cell 4; have y5 := c1.cell 5; have y6 := c1.cell 6; have p0 := c2.cell 0; have p1 := c2.cell 1; have s0 := c3.cell 0; have s1 := c3.cell 1; simp only [List.getElem?_toArray, List.getElem?_cons_succ, List.getElem?_cons_zero] at y0 y1 y2 y3 y4 y5 y6 p0 p1 s0 s1; clear c1 c2 c3; go_simp; try with_reducible rfl)
        rotate_left 1
        · exact fun _ _ _ h => h
        try simp only [Act.put, List.setIfInBounds_toArray, List.set_cons_zero, List.set_cons_succ]
        refine wpAnyH_ready (rs := [2, 6, 7]) (by kernel_rfl) (by simp) ?_
        refine AllReadyH.cons (o := ?_) ?_ (fun K hK => ?_) ?_
        rotate_left 1
        · (simp only [List.getElem?_toArray, List.getElem?_cons_succ, List.getElem?_cons_zero]; rfl)
        · go_simp
          go_at_call 26; refine (HHA.out _).mono ?_; rintro e wn ⟨rfl, hcn⟩
          have hbn := hbn.trans (hcn.mono hbn.size); have cv := cv.same hcn; have cq := cq.same hcn; have cs := cs.same hcn
          clear hcn
          refine hK.out _ _ ?_ (fun hHeld => ?_)
          · exact ⟨cv, cq, cs⟩
          clear hK K
          try simp only [Act.put, List.setIfInBounds_toArray, List.set_cons_zero, List.set_cons_succ]
          refine wpAnyH_ready (rs := [5, 6, 7]) (by kernel_rfl) (by simp) ?_
          refine AllReadyH.cons (o := ?_) ?_ (fun K hK => ?_) ?_
          rotate_left 1
          · (simp only [List.getElem?_toArray, List.getElem?_cons_succ, List.getElem?_cons_zero]; rfl)
          · go_simp
            go_at_call 26; refine (HHB.out _).mono ?_; rintro e wn ⟨rfl, hcn⟩
            have hbn := hbn.trans (hcn.mono hbn.size); have cv := cv.same hcn; have cq := cq.same hcn; have cs := cs.same hcn
            clear hcn
            refine hK.out _ _ ?_ (fun hHeld => ?_)
            · exact ⟨cv, cq, cs⟩
            clear hK K
            try simp only [Act.put, List.setIfInBounds_toArray, List.set_cons_zero, List.set_cons_succ]
            refine wpAnyH_ready (rs := [6, 7]) (by kernel_rfl) (by simp) ?_
            refine AllReadyH.cons (o := ?_) ?_ (fun K hK => ?_) ?_
            rotate_left 1
            · (simp only [List.getElem?_toArray, List.getElem?_cons_succ, List.getElem?_cons_zero]; rfl)
            · go_simp
              obtain ⟨g, wn, hwn, hg, bg, hcn⟩ := alloc_f wn 59 #[.int .i64 0, .int .i64 0]
              rw [← hwn, ← hg]
              have hgw : w4.heap.size ≤ g := (by have := hbn.size; omega); have hbn := hbn.trans (hcn.mono hbn.size); have cv := cv.same hcn; have cq := cq.same hcn; have cs := cs.same hcn
              clear hwn hg hcn
              refine hK.out _ _ ?_ (fun hHeld => ?_)
              · exact ⟨cv, cq, cs⟩
              clear hK K
              try simp only [Act.put, List.setIfInBounds_toArray, List.set_cons_zero, List.set_cons_succ]
              refine wpAnyH_ready (rs := [7]) (by kernel_rfl) (by simp) ?_
              refine AllReadyH.cons (o := ?_) ?_ (fun K hK => ?_) AllReadyH.nil
              rotate_left 1
              · (simp only [List.getElem?_toArray, List.getElem?_cons_succ, List.getElem?_cons_zero]; rfl)
              go_simp
              obtain ⟨h, wn, hwn, hh, bh, hcn⟩ := alloc_f wn 59 #[.int .i64 0, .int .i64 0]
              rw [← hwn, ← hh]
              have hgh : h ≠ g := (by have := bg.lt; omega); have hhw : w4.heap.size ≤ h := (by have := hbn.size; omega); have hbn := hbn.trans (hcn.mono hbn.size); have cv := cv.same hcn; have cq := cq.same hcn; have cs := cs.same hcn; have bg := bg.same hcn
              clear hwn hh hcn
              refine hK.out _ _ ?_ (fun hHeld => ?_)
              · exact ⟨cv, cq, cs⟩
              clear hK K
              try simp only [Act.put, List.setIfInBounds_toArray, List.set_cons_zero, List.set_cons_succ]
              refine wpAnyH_ready (rs := [8]) (by kernel_rfl) (by simp) ?_
              refine AllReadyH.cons (o := ?_) ?_ (fun K hK => ?_) AllReadyH.nil
              rotate_left 1
              · (simp only [List.getElem?_toArray, List.getElem?_cons_succ, List.getElem?_cons_zero]; rfl)
              have k0 := bg.cell 0; have k1 := bg.cell 1; have f0 := bg.frozen 0; have f1 := bg.frozen 1; simp only [List.getElem?_toArray, List.getElem?_cons_succ, List.getElem?_cons_zero] at k0 k1
              go_simp
              obtain ⟨wn, hwn, bn, hfar, hbf⟩ := store2_f bg (.int .i64 x0) (.int .i64 x1)
              rw [← hwn]
              have hbn := hbf _ _ hbn (by omega); have cv := hfar _ _ _ (by omega) cv; have cq := hfar _ _ _ (by omega) cq; have cs := hfar _ _ _ (by omega) cs; have bh := hfar _ _ _ (by omega) bh; have bg := bn
              clear hwn bn hfar hbf k0 k1 f0 f1
              refine hK.out _ _ ?_ (fun hHeld => ?_)
              · exact ⟨cv, cq, cs⟩
              clear hK K
              try simp only [Act.put, List.setIfInBounds_toArray, List.set_cons_zero, List.set_cons_succ]
              refine wpAnyH_ready (rs := [9]) (by kernel_rfl) (by simp) ?_
              refine AllReadyH.cons (o := ?_) ?_ (fun K hK => ?_) AllReadyH.nil
              rotate_left 1
              · (simp only [List.getElem?_toArray, List.getElem?_cons_succ, List.getElem?_cons_zero]; rfl)
              have k0 := bh.cell 0; have k1 := bh.cell 1; have f0 := bh.frozen 0; have f1 := bh.frozen 1; simp only [List.getElem?_toArray, List.getElem?_cons_succ, List.getElem?_cons_zero] at k0 k1
              go_simp
              obtain ⟨wn, hwn, bn, hfar, hbf⟩ := store2_f bh (.int .i64 y0') (.int .i64 y1')
              rw [← hwn]
              have hbn := hbf _ _ hbn (by omega); have cv := hfar _ _ _ (by omega) cv; have cq := hfar _ _ _ (by omega) cq; have cs := hfar _ _ _ (by omega) cs; have bg := hfar _ _ _ (by omega) bg; have bh := bn
              clear hwn bn hfar hbf k0 k1 f0 f1
              refine hK.out _ _ ?_ (fun hHeld => ?_)
              · exact ⟨cv, cq, cs⟩
              clear hK K
              try simp only [Act.put, List.setIfInBounds_toArray, List.set_cons_zero, List.set_cons_succ]
              refine wpAnyH_done (by kernel_rfl) ?_ _
              go_wp2
              go_meet
              exact ⟨g, h, rfl, rfl, bg, bh, hgh, hgw, hhw, cv, cq, cs, hbn⟩
            refine AllReadyH.cons (o := ?_) ?_ (fun K hK => ?_) AllReadyH.nil
            rotate_left 1
            · (simp only [List.getElem?_toArray, List.getElem?_cons_succ, List.getElem?_cons_zero]; rfl)
            go_simp
            obtain ⟨h, wn, hwn, hh, bh, hcn⟩ := alloc_f wn 59 #[.int .i64 0, .int .i64 0]
            rw [← hwn, ← hh]
            have hhw : w4.heap.size ≤ h := (by have := hbn.size; omega); have hbn := hbn.trans (hcn.mono hbn.size); have cv := cv.same hcn; have cq := cq.same hcn; have cs := cs.same hcn
            clear hwn hh hcn
            refine hK.out _ _ ?_ (fun hHeld => ?_)
            · exact ⟨cv, cq, cs⟩
            clear hK K
            try simp only [Act.put, List.setIfInBounds_toArray, List.set_cons_zero, List.set_cons_succ]
            refine wpAnyH_ready (rs := [6]) (by kernel_rfl) (by simp) ?_
            refine AllReadyH.cons (o := ?_) ?_ (fun K hK => ?_) AllReadyH.nil
            rotate_left 1
            · (simp only [List.getElem?_toArray, List.getElem?_cons_succ, List.getElem?_cons_zero]; rfl)
            go_simp
            obtain ⟨g, wn, hwn, hg, bg, hcn⟩ := alloc_f wn 59 #[.int .i64 0, .int .i64 0]
            rw [← hwn, ← hg]
            have hgh : h ≠ g := (by have := bh.lt; omega); have hgw : w4.heap.size ≤ g := (by have := hbn.size; omega); have hbn := hbn.trans (hcn.mono hbn.size); have cv := cv.same hcn; have cq := cq.same hcn; have cs := cs.same hcn; have bh := bh.same hcn
            clear hwn hg hcn
            refine hK.out _ _ ?_ (fun hHeld => ?_)
            · exact ⟨cv, cq, cs⟩
            clear hK K
            try simp only [Act.put, List.setIfInBounds_toArray, List.set_cons_zero, List.set_cons_succ]
            refine wpAnyH_ready (rs := [8]) (by kernel_rfl) (by simp) ?_
            refine AllReadyH.cons (o := ?_) ?_ (fun K hK => ?_) AllReadyH.nil
            rotate_left 1
            · (simp only [List.getElem?_toArray, List.getElem?_cons_succ, List.getElem?_cons_zero]; rfl)
            have k0 := bg.cell 0; have k1 := bg.cell 1; have f0 := bg.frozen 0; have f1 := bg.frozen 1; simp only [List.getElem?_toArray, List.getElem?_cons_succ, List.getElem?_cons_zero] at k0 k1
            go_simp
            obtain ⟨wn, hwn, bn, hfar, hbf⟩ := store2_f bg (.int .i64 x0) (.int .i64 x1)
            rw [← hwn]
            have hbn := hbf _ _ hbn (by omega); have cv := hfar _ _ _ (by omega) cv; have cq := hfar _ _ _ (by omega) cq; have cs := hfar _ _ _ (by omega) cs; have bh := hfar _ _ _ (by omega) bh; have bg := bn
            clear hwn bn hfar hbf k0 k1 f0 f1
            refine hK.out _ _ ?_ (fun hHeld => ?_)
            · exact ⟨cv, cq, cs⟩
            clear hK K
            try simp only [Act.put, List.setIfInBounds_toArray, List.set_cons_zero, List.set_cons_succ]
            refine wpAnyH_ready (rs := [9]) (by kernel_rfl) (by simp) ?_
            refine AllReadyH.cons (o := ?_) ?_ (fun K hK => ?_) AllReadyH.nil
            rotate_left 1
            · (simp only [List.getElem?_toArray, List.getElem?_cons_succ, List.getElem?_cons_zero]; rfl)
            have k0 := bh.cell 0; have k1 := bh.cell 1; have f0 := bh.frozen 0; have f1 := bh.frozen 1; simp only [List.getElem?_toArray, List.getElem?_cons_succ, List.getElem?_cons_zero] at k0 k1
            go_simp
            obtain ⟨wn, hwn, bn, hfar, hbf⟩ := store2_f bh (.int .i64 y0') (.int .i64 y1')
            rw [← hwn]
            have hbn := hbf _ _ hbn (by omega); have cv := hfar _ _ _ (by omega) cv; have cq := hfar _ _ _ (by omega) cq; have cs := hfar _ _ _ (by omega) cs; have bg := hfar _ _ _ (by omega) bg; have bh := bn
            clear hwn bn hfar hbf k0 k1 f0 f1
            refine hK.out _ _ ?_ (fun hHeld => ?_)
            · exact ⟨cv, cq, cs⟩
            clear hK K
            try simp only [Act.put, List.setIfInBounds_toArray, List.set_cons_zero, List.set_cons_succ]
            refine wpAnyH_done (by kernel_rfl) ?_ _
            go_wp2
            go_meet
            exact ⟨g, h, rfl, rfl, bg, bh, hgh, hgw, hhw, cv, cq, cs, hbn⟩
          refine AllReadyH.cons (o := ?_) ?_ (fun K hK => ?_) ?_
          rotate_left 1
          · (simp only [List.getElem?_toArray, List.getElem?_cons_succ, List.getElem?_cons_zero]; rfl)
          · go_simp
            obtain ⟨g, wn, hwn, hg, bg, hcn⟩ := alloc_f wn 59 #[.int .i64 0, .int .i64 0]
            rw [← hwn, ← hg]
            have hgw : w4.heap.size ≤ g := (by have := hbn.size; omega); have hbn := hbn.trans (hcn.mono hbn.size); have cv := cv.same hcn; have cq := cq.same hcn; have cs := cs.same hcn
            clear hwn hg hcn
            refine hK.out _ _ ?_ (fun hHeld => ?_)
            · exact ⟨cv, cq, cs⟩
            clear hK K
            try simp only [Act.put, List.setIfInBounds_toArray, List.set_cons_zero, List.set_cons_succ]
            refine wpAnyH_ready (rs := [5, 7]) (by kernel_rfl) (by simp) ?_
            refine AllReadyH.cons (o := ?_) ?_ (fun K hK => ?_) ?_
            rotate_left 1
            · (simp only [List.getElem?_toArray, List.getElem?_cons_succ, List.getElem?_cons_zero]; rfl)
            · go_simp
              go_at_call 26; refine (HHB.out _).mono ?_; rintro e wn ⟨rfl, hcn⟩
              have hbn := hbn.trans (hcn.mono hbn.size); have cv := cv.same hcn; have cq := cq.same hcn; have cs := cs.same hcn; have bg := bg.same hcn
              clear hcn
              refine hK.out _ _ ?_ (fun hHeld => ?_)
              · exact ⟨cv, cq, cs⟩
              clear hK K
              try simp only [Act.put, List.setIfInBounds_toArray, List.set_cons_zero, List.set_cons_succ]
              refine wpAnyH_ready (rs := [7]) (by kernel_rfl) (by simp) ?_
              refine AllReadyH.cons (o := ?_) ?_ (fun K hK => ?_) AllReadyH.nil
              rotate_left 1
              · (simp only [List.getElem?_toArray, List.getElem?_cons_succ, List.getElem?_cons_zero]; rfl)
              go_simp
              obtain ⟨h, wn, hwn, hh, bh, hcn⟩ := alloc_f wn 59 #[.int .i64 0, .int .i64 0]
              rw [← hwn, ← hh]
              have hgh : h ≠ g := (by have := bg.lt; omega); have hhw : w4.heap.size ≤ h := (by have := hbn.size; omega); have hbn := hbn.trans (hcn.mono hbn.size); have cv := cv.same hcn; have cq := cq.same hcn; have cs := cs.same hcn; have bg := bg.same hcn
              clear hwn hh hcn
              refine hK.out _ _ ?_ (fun hHeld => ?_)
              · exact ⟨cv, cq, cs⟩
              clear hK K
              try simp only [Act.put, List.setIfInBounds_toArray, List.set_cons_zero, List.set_cons_succ]
              refine wpAnyH_ready (rs := [8]) (by kernel_rfl) (by simp) ?_
              refine AllReadyH.cons (o := ?_) ?_ (fun K hK => ?_) AllReadyH.nil
              rotate_left 1
              · (simp only [List.getElem?_toArray, List.getElem?_cons_succ, List.getElem?_cons_zero]; rfl)
              have k0 := bg.cell 0; have k1 := bg.cell 1; have f0 := bg.frozen 0; have f1 := bg.frozen 1; simp only [List.getElem?_toArray, List.getElem?_cons_succ, List.getElem?_cons_zero] at k0 k1
              go_simp
              obtain ⟨wn, hwn, bn, hfar, hbf⟩ := store2_f bg (.int .i64 x0) (.int .i64 x1)
              rw [← hwn]
              have hbn := hbf _ _ hbn (by omega); have cv := hfar _ _ _ (by omega) cv; have cq := hfar _ _ _ (by omega) cq; have cs := hfar _ _ _ (by omega) cs; have bh := hfar _ _ _ (by omega) bh; have bg := bn
              clear hwn bn hfar hbf k0 k1 f0 f1
              refine hK.out _ _ ?_ (fun hHeld => ?_)
              · exact ⟨cv, cq, cs⟩
              clear hK K
              try simp only [Act.put, List.setIfInBounds_toArray, List.set_cons_zero, List.set_cons_succ]
              refine wpAnyH_ready (rs := [9]) (by kernel_rfl) (by simp) ?_
              refine AllReadyH.cons (o := ?_) ?_ (fun K hK => ?_) AllReadyH.nil
              rotate_left 1
              · (simp only [List.getElem?_toArray, List.getElem?_cons_succ, List.getElem?_cons_zero]; rfl)
              have k0 := bh.cell 0; have k1 := bh.cell 1; have f0 := bh.frozen 0; have f1 := bh.frozen 1; simp only [List.getElem?_toArray, List.getElem?_cons_succ, List.getElem?_cons_zero] at k0 k1
              go_simp
              obtain ⟨wn, hwn, bn, hfar, hbf⟩ := store2_f bh (.int .i64 y0') (.int .i64 y1')
              rw [← hwn]
              have hbn := hbf _ _ hbn (by omega); have cv := hfar _ _ _ (by omega) cv; have cq := hfar _ _ _ (by omega) cq; have cs := hfar _ _ _ (by omega) cs; have bg := hfar _ _ _ (by omega) bg; have bh := bn
              clear hwn bn hfar hbf k0 k1 f0 f1
              refine hK.out _ _ ?_ (fun hHeld => ?_)
              · exact ⟨cv, cq, cs⟩
              clear hK K
              try simp only [Act.put, List.setIfInBounds_toArray, List.set_cons_zero, List.set_cons_succ]
              refine wpAnyH_done (by kernel_rfl) ?_ _
              go_wp2
              go_meet
              exact ⟨g, h, rfl, rfl, bg, bh, hgh, hgw, hhw, cv, cq, cs, hbn⟩
            refine AllReadyH.cons (o := ?_) ?_ (fun K hK => ?_) AllReadyH.nil
            rotate_left 1
            · (simp only [List.getElem?_toArray, List.getElem?_cons_succ, List.getElem?_cons_zero]; rfl)
            go_simp
            obtain ⟨h, wn, hwn, hh, bh, hcn⟩ := alloc_f wn 59 #[.int .i64 0, .int .i64 0]
            rw [← hwn, ← hh]
            have hgh : h ≠ g := (by have := bg.lt; omega); have hhw : w4.heap.size ≤ h := (by have := hbn.size; omega); have hbn := hbn.trans (hcn.mono hbn.size); have cv := cv.same hcn; have cq := cq.same hcn; have cs := cs.same hcn; have bg := bg.same hcn
            clear hwn hh hcn
            refine hK.out _ _ ?_ (fun hHeld => ?_)
            · exact ⟨cv, cq, cs⟩
            clear hK K
            try simp only [Act.put, List.setIfInBounds_toArray, List.set_cons_zero, List.set_cons_succ]
            refine wpAnyH_ready (rs := [5]) (by kernel_rfl) (by simp) ?_
            refine AllReadyH.cons (o := ?_) ?_ (fun K hK => ?_) AllReadyH.nil
            rotate_left 1
            · (simp only [List.getElem?_toArray, List.getElem?_cons_succ, List.getElem?_cons_zero]; rfl)
            go_simp
            go_at_call 26; refine (HHB.out _).mono ?_; rintro e wn ⟨rfl, hcn⟩
            have hbn := hbn.trans (hcn.mono hbn.size); have cv := cv.same hcn; have cq := cq.same hcn; have cs := cs.same hcn; have bg := bg.same hcn; have bh := bh.same hcn
            clear hcn
            refine hK.out _ _ ?_ (fun hHeld => ?_)
            · exact ⟨cv, cq, cs⟩
            clear hK K
            try simp only [Act.put, List.setIfInBounds_toArray, List.set_cons_zero, List.set_cons_succ]
            refine wpAnyH_ready (rs := [8]) (by kernel_rfl) (by simp) ?_
            refine AllReadyH.cons (o := ?_) ?_ (fun K hK => ?_) AllReadyH.nil
            rotate_left 1
            · (simp only [List.getElem?_toArray, List.getElem?_cons_succ, List.getElem?_cons_zero]; rfl)
            have k0 := bg.cell 0; have k1 := bg.cell 1; have f0 := bg.frozen 0; have f1 := bg.frozen 1; simp only [List.getElem?_toArray, List.getElem?_cons_succ, List.getElem?_cons_zero] at k0 k1
            go_simp
            obtain ⟨wn, hwn, bn, hfar, hbf⟩ := store2_f bg (.int .i64 x0) (.int .i64 x1)
            rw [← hwn]
            have hbn := hbf _ _ hbn (by omega); have cv := hfar _ _ _ (by omega) cv; have cq := hfar _ _ _ (by omega) cq; have cs := hfar _ _ _ (by omega) cs; have bh := hfar _ _ _ (by omega) bh; have bg := bn
            clear hwn bn hfar hbf k0 k1 f0 f1
            refine hK.out _ _ ?_ (fun hHeld => ?_)
            · exact ⟨cv, cq, cs⟩
            clear hK K
            try simp only [Act.put, List.setIfInBounds_toArray, List.set_cons_zero, List.set_cons_succ]
            refine wpAnyH_ready (rs := [9]) (by kernel_rfl) (by simp) ?_
            refine AllReadyH.cons (o := ?_) ?_ (fun K hK => ?_) AllReadyH.nil
            rotate_left 1
            · (simp only [List.getElem?_toArray, List.getElem?_cons_succ, List.getElem?_cons_zero]; rfl)
            have k0 := bh.cell 0; have k1 := bh.cell 1; have f0 := bh.frozen 0; have f1 := bh.frozen 1; simp only [List.getElem?_toArray, List.getElem?_cons_succ, List.getElem?_cons_zero] at k0 k1
            go_simp
            obtain ⟨wn, hwn, bn, hfar, hbf⟩ := store2_f bh (.int .i64 y0') (.int .i64 y1')
            rw [← hwn]
            have hbn := hbf _ _ hbn (by omega); have cv := hfar _ _ _ (by omega) cv; have cq := hfar _ _ _ (by omega) cq; have cs := hfar _ _ _ (by omega) cs; have bg := hfar _ _ _ (by omega) bg; have bh := bn
            clear hwn bn hfar hbf k0 k1 f0 f1
            refine hK.out _ _ ?_ (fun hHeld => ?_)
            · exact ⟨cv, cq, cs⟩
            clear hK K
            try simp only [Act.put, List.setIfInBounds_toArray, List.set_cons_zero, List.set_cons_succ]
            refine wpAnyH_done (by kernel_rfl) ?_ _
            go_wp2
            go_meet
            exact ⟨g, h, rfl, rfl, bg, bh, hgh, hgw, hhw, cv, cq, cs, hbn⟩
          refine AllReadyH.cons (o := ?_) ?_ (fun K hK => ?_) AllReadyH.nil
          rotate_left 1
          · (simp only [List.getElem?_toArray, List.getElem?_cons_succ, List.getElem?_cons_zero]; rfl)
          go_simp
          obtain ⟨h, wn, hwn, hh, bh, hcn⟩ := alloc_f wn 59 #[.int .i64 0, .int .i64 0]
          rw [← hwn, ← hh]
          have hhw : w4.heap.size ≤ h := (by have := hbn.size; omega); have hbn := hbn.trans (hcn.mono hbn.size); have cv := cv.same hcn; have cq := cq.same hcn; have cs := cs.same hcn
          clear hwn hh hcn
          refine hK.out _ _ ?_ (fun hHeld => ?_)
          · exact ⟨cv, cq, cs⟩
          clear hK K
          try simp only [Act.put, List.setIfInBounds_toArray, List.set_cons_zero, List.set_cons_succ]
          refine wpAnyH_ready (rs := [5, 6]) (by kernel_rfl) (by simp) ?_
          refine AllReadyH.cons (o := ?_) ?_ (fun K hK => ?_) ?_
          rotate_left 1
          · (simp only [List.getElem?_toArray, List.getElem?_cons_succ, List.getElem?_cons_zero]; rfl)
          · go_simp
            go_at_call 26; refine (HHB.out _).mono ?_; rintro e wn ⟨rfl, hcn⟩
            have hbn := hbn.trans (hcn.mono hbn.size); have cv := cv.same hcn; have cq := cq.same hcn; have cs := cs.same hcn; have bh := bh.same hcn
            clear hcn
            refine hK.out _ _ ?_ (fun hHeld => ?_)
            · exact ⟨cv, cq, cs⟩
            clear hK K
            try simp only [Act.put, List.setIfInBounds_toArray, List.set_cons_zero, List.set_cons_succ]
            refine wpAnyH_ready (rs := [6]) (by kernel_rfl) (by simp) ?_
            refine AllReadyH.cons (o := ?_) ?_ (fun K hK => ?_) AllReadyH.nil
            rotate_left 1
            · (simp only [List.getElem?_toArray, List.getElem?_cons_succ, List.getElem?_cons_zero]; rfl)
            go_simp
            obtain ⟨g, wn, hwn, hg, bg, hcn⟩ := alloc_f wn 59 #[.int .i64 0, .int .i64 0]
            rw [← hwn, ← hg]
            have hgh : h ≠ g := (by have := bh.lt; omega); have hgw : w4.heap.size ≤ g := (by have := hbn.size; omega); have hbn := hbn.trans (hcn.mono hbn.size); have cv := cv.same hcn; have cq := cq.same hcn; have cs := cs.same hcn; have bh := bh.same hcn
            clear hwn hg hcn
            refine hK.out _ _ ?_ (fun hHeld => ?_)
            · exact ⟨cv, cq, cs⟩
            clear hK K
            try simp only [Act.put, List.setIfInBounds_toArray, List.set_cons_zero, List.set_cons_succ]
            refine wpAnyH_ready (rs := [8]) (by kernel_rfl) (by simp) ?_
            refine AllReadyH.cons (o := ?_) ?_ (fun K hK => ?_) AllReadyH.nil
            rotate_left 1
            · (simp only [List.getElem?_toArray, List.getElem?_cons_succ, List.getElem?_cons_zero]; rfl)
            have k0 := bg.cell 0; have k1 := bg.cell 1; have f0 := bg.frozen 0; have f1 := bg.frozen 1; simp only [List.getElem?_toArray, List.getElem?_cons_succ, List.getElem?_cons_zero] at k0 k1
            go_simp
            obtain ⟨wn, hwn, bn, hfar, hbf⟩ := store2_f bg (.int .i64 x0) (.int .i64 x1)
            rw [← hwn]
            have hbn := hbf _ _ hbn (by omega); have cv := hfar _ _ _ (by omega) cv; have cq := hfar _ _ _ (by omega) cq; have cs := hfar _ _ _ (by omega) cs; have bh := hfar _ _ _ (by omega) bh; have bg := bn
            clear hwn bn hfar hbf k0 k1 f0 f1
            refine hK.out _ _ ?_ (fun hHeld => ?_)
            · exact ⟨cv, cq, cs⟩
            clear hK K
            try simp only [Act.put, List.setIfInBounds_toArray, List.set_cons_zero, List.set_cons_succ]
            refine wpAnyH_ready (rs := [9]) (by kernel_rfl) (by simp) ?_
            refine AllReadyH.cons (o := ?_) ?_ (fun K hK => ?_) AllReadyH.nil
            rotate_left 1
            · (simp only [List.getElem?_toArray, List.getElem?_cons_succ, List.getElem?_cons_zero]; rfl)
            have k0 := bh.cell 0; have k1 := bh.cell 1; have f0 := bh.frozen 0; have f1 := bh.frozen 1; simp only [List.getElem?_toArray, List.getElem?_cons_succ, List.getElem?_cons_zero] at k0 k1
            go_simp
            obtain ⟨wn, hwn, bn, hfar, hbf⟩ := store2_f bh (.int .i64 y0') (.int .i64 y1')
            rw [← hwn]
            have hbn := hbf _ _ hbn (by omega); have cv := hfar _ _ _ (by omega) cv; have cq := hfar _ _ _ (by omega) cq; have cs := hfar _ _ _ (by omega) cs; have bg := hfar _ _ _ (by omega) bg; have bh := bn
            clear hwn bn hfar hbf k0 k1 f0 f1
            refine hK.out _ _ ?_ (fun hHeld => ?_)
            · exact ⟨cv, cq, cs⟩
            clear hK K
            try simp only [Act.put, List.setIfInBounds_toArray, List.set_cons_zero, List.set_cons_succ]
            refine wpAnyH_done (by kernel_rfl) ?_ _
            go_wp2
            go_meet
            exact ⟨g, h, rfl, rfl, bg, bh, hgh, hgw, hhw, cv, cq, cs, hbn⟩
          refine AllReadyH.cons (o := ?_) ?_ (fun K hK => ?_) AllReadyH.nil
          rotate_left 1
          · (simp only [List.getElem?_toArray, List.getElem?_cons_succ, List.getElem?_cons_zero]; rfl)
          go_simp
          obtain ⟨g, wn, hwn, hg, bg, hcn⟩ := alloc_f wn 59 #[.int .i64 0, .int .i64 0]
          rw [← hwn, ← hg]
          have hgh : h ≠ g := (by have := bh.lt; omega); have hgw : w4.heap.size ≤ g := (by have := hbn.size; omega); have hbn := hbn.trans (hcn.mono hbn.size); have cv := cv.same hcn; have cq := cq.same hcn; have cs := cs.same hcn; have bh := bh.same hcn
          clear hwn hg hcn
          refine hK.out _ _ ?_ (fun hHeld => ?_)
          · exact ⟨cv, cq, cs⟩
          clear hK K
          try simp only [Act.put, List.setIfInBounds_toArray, List.set_cons_zero, List.set_cons_succ]
          refine wpAnyH_ready (rs := [5]) (by kernel_rfl) (by simp) ?_
          refine AllReadyH.cons (o := ?_) ?_ (fun K hK => ?_) AllReadyH.nil
          rotate_left 1
          · (simp only [List.getElem?_toArray, List.getElem?_cons_succ, List.getElem?_cons_zero]; rfl)
          go_simp
          go_at_call 26; refine (HHB.out _).mono ?_; rintro e wn ⟨rfl, hcn⟩
          have hbn := hbn.trans (hcn.mono hbn.size); have cv := cv.same hcn; have cq := cq.same hcn; have cs := cs.same hcn; have bg := bg.same hcn; have bh := bh.same hcn
          clear hcn
          refine hK.out _ _ ?_ (fun hHeld => ?_)
          · exact ⟨cv, cq, cs⟩
          clear hK K
          try simp only [Act.put, List.setIfInBounds_toArray, List.set_cons_zero, List.set_cons_succ]
          refine wpAnyH_ready (rs := [8]) (by kernel_rfl) (by simp) ?_
          refine AllReadyH.cons (o := ?_) ?_ (fun K hK => ?_) AllReadyH.nil
          rotate_left 1
          · (simp only [List.getElem?_toArray, List.getElem?_cons_succ, List.getElem?_cons_zero]; rfl)
          have k0 := bg.cell 0; have k1 := bg.cell 1; have f0 := bg.frozen 0; have f1 := bg.frozen 1; simp only [List.getElem?_toArray, List.getElem?_cons_succ, List.getElem?_cons_zero] at k0 k1
          go_simp
          obtain ⟨wn, hwn, bn, hfar, hbf⟩ := store2_f bg (.int .i64 x0) (.int .i64 x1)
          rw [← hwn]
          have hbn := hbf _ _ hbn (by omega); have cv := hfar _ _ _ (by omega) cv; have cq := hfar _ _ _ (by omega) cq; have cs := hfar _ _ _ (by omega) cs; have bh := hfar _ _ _ (by omega) bh; have bg := bn
          clear hwn bn hfar hbf k0 k1 f0 f1
          refine hK.out _ _ ?_ (fun hHeld => ?_)
          · exact ⟨cv, cq, cs⟩
          clear hK K
          try simp only [Act.put, List.setIfInBounds_toArray, List.set_cons_zero, List.set_cons_succ]
          refine wpAnyH_ready (rs := [9]) (by kernel_rfl) (by simp) ?_
          refine AllReadyH.cons (o := ?_) ?_ (fun K hK => ?_) AllReadyH.nil
          rotate_left 1
          · (simp only [List.getElem?_toArray, List.getElem?_cons_succ, List.getElem?_cons_zero]; rfl)
          have k0 := bh.cell 0; have k1 := bh.cell 1; have f0 := bh.frozen 0; have f1 := bh.frozen 1; simp only [List.getElem?_toArray, List.getElem?_cons_succ, List.getElem?_cons_zero] at k0 k1
          go_simp
          obtain ⟨wn, hwn, bn, hfar, hbf⟩ := store2_f bh (.int .i64 y0') (.int .i64 y1')
          rw [← hwn]
          have hbn := hbf _ _ hbn (by omega); have cv := hfar _ _ _ (by omega) cv; have cq := hfar _ _ _ (by omega) cq; have cs := hfar _ _ _ (by omega) cs; have bg := hfar _ _ _ (by omega) bg; have bh := bn
          clear hwn bn hfar hbf k0 k1 f0 f1
          refine hK.out _ _ ?_ (fun hHeld => ?_)
          · exact ⟨cv, cq, cs⟩
          clear hK K
          try simp only [Act.put, List.setIfInBounds_toArray, List.set_cons_zero, List.set_cons_succ]
          refine wpAnyH_done (by kernel_rfl) ?_ _
          go_wp2
          go_meet
          exact ⟨g, h, rfl, rfl, bg, bh, hgh, hgw, hhw, cv, cq, cs, hbn⟩
        refine AllReadyH.cons (o := ?_) ?_ (fun K hK => ?_) ?_
        rotate_left 1
        · (simp only [List.getElem?_toArray, List.getElem?_cons_succ, List.getElem?_cons_zero]; rfl)
        · go_simp
          obtain ⟨g, wn, hwn, hg, bg, hcn⟩ := alloc_f wn 59 #[.int .i64 0, .int .i64 0]
          rw [← hwn, ← hg]
          have hgw : w4.heap.size ≤ g := (by have := hbn.size; omega); have hbn := hbn.trans (hcn.mono hbn.size); have cv := cv.same hcn; have cq := cq.same hcn; have cs := cs.same hcn
          clear hwn hg hcn
          refine hK.out _ _ ?_ (fun hHeld => ?_)
          · exact ⟨cv, cq, cs⟩
          clear hK K
          try simp only [Act.put, List.setIfInBounds_toArray, List.set_cons_zero, List.set_cons_succ]
          refine wpAnyH_ready (rs := [2, 7]) (by kernel_rfl) (by simp) ?_
          refine AllReadyH.cons (o := ?_) ?_ (fun K hK => ?_) ?_
          rotate_left 1
          · (simp only [List.getElem?_toArray, List.getElem?_cons_succ, List.getElem?_cons_zero]; rfl)
          · go_simp
            go_at_call 26; refine (HHA.out _).mono ?_; rintro e wn ⟨rfl, hcn⟩
            have hbn := hbn.trans (hcn.mono hbn.size); have cv := cv.same hcn; have cq := cq.same hcn; have cs := cs.same hcn; have bg := bg.same hcn
            clear hcn
            refine hK.out _ _ ?_ (fun hHeld => ?_)
            · exact ⟨cv, cq, cs⟩
            clear hK K
            try simp only [Act.put, List.setIfInBounds_toArray, List.set_cons_zero, List.set_cons_succ]
            refine wpAnyH_ready (rs := [5, 7]) (by kernel_rfl) (by simp) ?_
            refine AllReadyH.cons (o := ?_) ?_ (fun K hK => ?_) ?_
            rotate_left 1
            · (simp only [List.getElem?_toArray, List.getElem?_cons_succ, List.getElem?_cons_zero]; rfl)
            · go_simp
              go_at_call 26; refine (HHB.out _).mono ?_; rintro e wn ⟨rfl, hcn⟩
              have hbn := hbn.trans (hcn.mono hbn.size); have cv := cv.same hcn; have cq := cq.same hcn; have cs := cs.same hcn; have bg := bg.same hcn
              clear hcn
              refine hK.out _ _ ?_ (fun hHeld => ?_)
              · exact ⟨cv, cq, cs⟩
              clear hK K
              try simp only [Act.put, List.setIfInBounds_toArray, List.set_cons_zero, List.set_cons_succ]
              refine wpAnyH_ready (rs := [7]) (by kernel_rfl) (by simp) ?_
              refine AllReadyH.cons (o := ?_) ?_ (fun K hK => ?_) AllReadyH.nil
              rotate_left 1
              · (simp only [List.getElem?_toArray, List.getElem?_cons_succ, List.getElem?_cons_zero]; rfl)
              go_simp
              obtain ⟨h, wn, hwn, hh, bh, hcn⟩ := alloc_f wn 59 #[.int .i64 0, .int .i64 0]
              rw [← hwn, ← hh]
              have hgh : h ≠ g := (by have := bg.lt; omega); have hhw : w4.heap.size ≤ h := (by have := hbn.size; omega); have hbn := hbn.trans (hcn.mono hbn.size); have cv := cv.same hcn; have cq := cq.same hcn; have cs := cs.same hcn; have bg := bg.same hcn
              clear hwn hh hcn
              refine hK.out _ _ ?_ (fun hHeld => ?_)
              · exact ⟨cv, cq, cs⟩
              clear hK K
              try simp only [Act.put, List.setIfInBounds_toArray, List.set_cons_zero, List.set_cons_succ]
              refine wpAnyH_ready (rs := [8]) (by kernel_rfl) (by simp) ?_
              refine AllReadyH.cons (o := ?_) ?_ (fun K hK => ?_) AllReadyH.nil
              rotate_left 1
              · (simp only [List.getElem?_toArray, List.getElem?_cons_succ, List.getElem?_cons_zero]; rfl)
              have k0 := bg.cell 0; have k1 := bg.cell 1; have f0 := bg.frozen 0; have f1 := bg.frozen 1; simp only [List.getElem?_toArray, List.getElem?_cons_succ, List.getElem?_cons_zero] at k0 k1
              go_simp
              obtain ⟨wn, hwn, bn, hfar, hbf⟩ := store2_f bg (.int .i64 x0) (.int .i64 x1)
              rw [← hwn]
              have hbn := hbf _ _ hbn (by omega); have cv := hfar _ _ _ (by omega) cv; have cq := hfar _ _ _ (by omega) cq; have cs := hfar _ _ _ (by omega) cs; have bh := hfar _ _ _ (by omega) bh; have bg := bn
              clear hwn bn hfar hbf k0 k1 f0 f1
              refine hK.out _ _ ?_ (fun hHeld => ?_)
              · exact ⟨cv, cq, cs⟩
              clear hK K
              try simp only [Act.put, List.setIfInBounds_toArray, List.set_cons_zero, List.set_cons_succ]
              refine wpAnyH_ready (rs := [9]) (by kernel_rfl) (by simp) ?_
              refine AllReadyH.cons (o := ?_) ?_ (fun K hK => ?_) AllReadyH.nil
              rotate_left 1
              · (simp only [List.getElem?_toArray, List.getElem?_cons_succ, List.getElem?_cons_zero]; rfl)
              have k0 := bh.cell 0; have k1 := bh.cell 1; have f0 := bh.frozen 0; have f1 := bh.frozen 1; simp only [List.getElem?_toArray, List.getElem?_cons_succ, List.getElem?_cons_zero] at k0 k1
              go_simp
              obtain ⟨wn, hwn, bn, hfar, hbf⟩ := store2_f bh (.int .i64 y0') (.int .i64 y1')
              rw [← hwn]
              have hbn := hbf _ _ hbn (by omega); have cv := hfar _ _ _ (by omega) cv; have cq := hfar _ _ _ (by omega) cq; have cs := hfar _ _ _ (by omega) cs; have bg := hfar _ _ _ (by omega) bg; have bh := bn
              clear hwn bn hfar hbf k0 k1 f0 f1
              refine hK.out _ _ ?_ (fun hHeld => ?_)
              · exact ⟨cv, cq, cs⟩
              clear hK K
              try simp only [Act.put, List.setIfInBounds_toArray, List.set_cons_zero, List.set_cons_succ]
              refine wpAnyH_done (by kernel_rfl) ?_ _
              go_wp2
              go_meet
              exact ⟨g, h, rfl, rfl, bg, bh, hgh, hgw, hhw, cv, cq, cs, hbn⟩
            refine AllReadyH.cons (o := ?_) ?_ (fun K hK => ?_) AllReadyH.nil
            rotate_left 1
            · (simp only [List.getElem?_toArray, List.getElem?_cons_succ, List.getElem?_cons_zero]; rfl)
            go_simp
            obtain ⟨h, wn, hwn, hh, bh, hcn⟩ := alloc_f wn 59 #[.int .i64 0, .int .i64 0]
            rw [← hwn, ← hh]
            have hgh : h ≠ g := (by have := bg.lt; omega); have hhw : w4.heap.size ≤ h := (by have := hbn.size; omega); have hbn := hbn.trans (hcn.mono hbn.size); have cv := cv.same hcn; have cq := cq.same hcn; have cs := cs.same hcn; have bg := bg.same hcn
            clear hwn hh hcn
            refine hK.out _ _ ?_ (fun hHeld => ?_)
            · exact ⟨cv, cq, cs⟩
            clear hK K
            try simp only [Act.put, List.setIfInBounds_toArray, List.set_cons_zero, List.set_cons_succ]
            refine wpAnyH_ready (rs := [5]) (by kernel_rfl) (by simp) ?_
            refine AllReadyH.cons (o := ?_) ?_ (fun K hK => ?_) AllReadyH.nil
            rotate_left 1
            · (simp only [List.getElem?_toArray, List.getElem?_cons_succ, List.getElem?_cons_zero]; rfl)
            go_simp
            go_at_call 26; refine (HHB.out _).mono ?_; rintro e wn ⟨rfl, hcn⟩
            have hbn := hbn.trans (hcn.mono hbn.size); have cv := cv.same hcn; have cq := cq.same hcn; have cs := cs.same hcn; have bg := bg.same hcn; have bh := bh.same hcn
            clear hcn
            refine hK.out _ _ ?_ (fun hHeld => ?_)
            · exact ⟨cv, cq, cs⟩
            clear hK K
            try simp only [Act.put, List.setIfInBounds_toArray, List.set_cons_zero, List.set_cons_succ]
            refine wpAnyH_ready (rs := [8]) (by kernel_rfl) (by simp) ?_
            refine AllReadyH.cons (o := ?_) ?_ (fun K hK => ?_) AllReadyH.nil
            rotate_left 1
            · (simp only [List.getElem?_toArray, List.getElem?_cons_succ, List.getElem?_cons_zero]; rfl)
            have k0 := bg.cell 0; have k1 := bg.cell 1; have f0 := bg.frozen 0; have f1 := bg.frozen 1; simp only [List.getElem?_toArray, List.getElem?_cons_succ, List.getElem?_cons_zero] at k0 k1
            go_simp
            obtain ⟨wn, hwn, bn, hfar, hbf⟩ := store2_f bg (.int .i64 x0) (.int .i64 x1)
            rw [← hwn]
            have hbn := hbf _ _ hbn (by omega); have cv := hfar _ _ _ (by omega) cv; have cq := hfar _ _ _ (by omega) cq; have cs := hfar _ _ _ (by omega) cs; have bh := hfar _ _ _ (by omega) bh; have bg := bn
            clear hwn bn hfar hbf k0 k1 f0 f1
            refine hK.out _ _ ?_ (fun hHeld => ?_)
            · exact ⟨cv, cq, cs⟩
            clear hK K
            try simp only [Act.put, List.setIfInBounds_toArray, List.set_cons_zero, List.set_cons_succ]
            refine wpAnyH_ready (rs := [9]) (by kernel_rfl) (by simp) ?_
            refine AllReadyH.cons (o := ?_) ?_ (fun K hK => ?_) AllReadyH.nil
            rotate_left 1
            · (simp only [List.getElem?_toArray, List.getElem?_cons_succ, List.getElem?_cons_zero]; rfl)
            have k0 := bh.cell 0; have k1 := bh.cell 1; have f0 := bh.frozen 0; have f1 := bh.frozen 1; simp only [List.getElem?_toArray, List.getElem?_cons_succ, List.getElem?_cons_zero] at k0 k1
            go_simp
            obtain ⟨wn, hwn, bn, hfar, hbf⟩ := store2_f bh (.int .i64 y0') (.int .i64 y1')
            rw [← hwn]
            have hbn := hbf _ _ hbn (by omega); have cv := hfar _ _ _ (by omega) cv; have cq := hfar _ _ _ (by omega) cq; have cs := hfar _ _ _ (by omega) cs; have bg := hfar _ _ _ (by omega) bg; have bh := bn
            clear hwn bn hfar hbf k0 k1 f0 f1
            refine hK.out _ _ ?_ (fun hHeld => ?_)
            · exact ⟨cv, cq, cs⟩
            clear hK K
            try simp only [Act.put, List.setIfInBounds_toArray, List.set_cons_zero, List.set_cons_succ]
            refine wpAnyH_done (by kernel_rfl) ?_ _
            go_wp2
            go_meet
            exact ⟨g, h, rfl, rfl, bg, bh, hgh, hgw, hhw, cv, cq, cs, hbn⟩
          refine AllReadyH.cons (o := ?_) ?_ (fun K hK => ?_) AllReadyH.nil
          rotate_left 1
          · (simp only [List.getElem?_toArray, List.getElem?_cons_succ, List.getElem?_cons_zero]; rfl)
          go_simp
          obtain ⟨h, wn, hwn, hh, bh, hcn⟩ := alloc_f wn 59 #[.int .i64 0, .int .i64 0]
          rw [← hwn, ← hh]
          have hgh : h ≠ g := (by have := bg.lt; omega); have hhw : w4.heap.size ≤ h := (by have := hbn.size; omega); have hbn := hbn.trans (hcn.mono hbn.size); have cv := cv.same hcn; have cq := cq.same hcn; have cs := cs.same hcn; have bg := bg.same hcn
          clear hwn hh hcn
          refine hK.out _ _ ?_ (fun hHeld => ?_)
          · exact ⟨cv, cq, cs⟩
          clear hK K
          try simp only [Act.put, List.setIfInBounds_toArray, List.set_cons_zero, List.set_cons_succ]
          refine wpAnyH_ready (rs := [2]) (by kernel_rfl) (by simp) ?_
          refine AllReadyH.cons (o := ?_) ?_ (fun K hK => ?_) AllReadyH.nil
          rotate_left 1
          · (simp only [List.getElem?_toArray, List.getElem?_cons_succ, List.getElem?_cons_zero]; rfl)
          go_simp
          go_at_call 26; refine (HHA.out _).mono ?_; rintro e wn ⟨rfl, hcn⟩
          have hbn := hbn.trans (hcn.mono hbn.size); have cv := cv.same hcn; have cq := cq.same hcn; have cs := cs.same hcn; have bg := bg.same hcn; have bh := bh.same hcn
          clear hcn
          refine hK.out _ _ ?_ (fun hHeld => ?_)
          · exact ⟨cv, cq, cs⟩
          clear hK K
          try simp only [Act.put, List.setIfInBounds_toArray, List.set_cons_zero, List.set_cons_succ]
          refine wpAnyH_ready (rs := [5]) (by kernel_rfl) (by simp) ?_
          refine AllReadyH.cons (o := ?_) ?_ (fun K hK => ?_) AllReadyH.nil
          rotate_left 1
          · (simp only [List.getElem?_toArray, List.getElem?_cons_succ, List.getElem?_cons_zero]; rfl)
          go_simp
          go_at_call 26; refine (HHB.out _).mono ?_; rintro e wn ⟨rfl, hcn⟩
          have hbn := hbn.trans (hcn.mono hbn.size); have cv := cv.same hcn; have cq := cq.same hcn; have cs := cs.same hcn; have bg := bg.same hcn; have bh := bh.same hcn
          clear hcn
          refine hK.out _ _ ?_ (fun hHeld => ?_)
          · exact ⟨cv, cq, cs⟩
          clear hK K
          try simp only [Act.put, List.setIfInBounds_toArray, List.set_cons_zero, List.set_cons_succ]
          refine wpAnyH_ready (rs := [8]) (by kernel_rfl) (by simp) ?_
          refine AllReadyH.cons (o := ?_) ?_ (fun K hK => ?_) AllReadyH.nil
          rotate_left 1
          · (simp only [List.getElem?_toArray, List.getElem?_cons_succ, List.getElem?_cons_zero]; rfl)
          have k0 := bg.cell 0; have k1 := bg.cell 1; have f0 := bg.frozen 0; have f1 := bg.frozen 1; simp only [List.getElem?_toArray, List.getElem?_cons_succ, List.getElem?_cons_zero] at k0 k1
          go_simp
          obtain ⟨wn, hwn, bn, hfar, hbf⟩ := store2_f bg (.int .i64 x0) (.int .i64 x1)
          rw [← hwn]
          have hbn := hbf _ _ hbn (by omega); have cv := hfar _ _ _ (by omega) cv; have cq := hfar _ _ _ (by omega) cq; have cs := hfar _ _ _ (by omega) cs; have bh := hfar _ _ _ (by omega) bh; have bg := bn
          clear hwn bn hfar hbf k0 k1 f0 f1
          refine hK.out _ _ ?_ (fun hHeld => ?_)
          · exact ⟨cv, cq, cs⟩
          clear hK K
          try simp only [Act.put, List.setIfInBounds_toArray, List.set_cons_zero, List.set_cons_succ]
          refine wpAnyH_ready (rs := [9]) (by kernel_rfl) (by simp) ?_
          refine AllReadyH.cons (o := ?_) ?_ (fun K hK => ?_) AllReadyH.nil
          rotate_left 1
          · (simp only [List.getElem?_toArray, List.getElem?_cons_succ, List.getElem?_cons_zero]; rfl)
          have k0 := bh.cell 0; have k1 := bh.cell 1; have f0 := bh.frozen 0; have f1 := bh.frozen 1; simp only [List.getElem?_toArray, List.getElem?_cons_succ, List.getElem?_cons_zero] at k0 k1
          go_simp
          obtain ⟨wn, hwn, bn, hfar, hbf⟩ := store2_f bh (.int .i64 y0') (.int .i64 y1')
          rw [← hwn]
          have hbn := hbf _ _ hbn (by omega); have cv := hfar _ _ _ (by omega) cv; have cq := hfar _ _ _ (by omega) cq; have cs := hfar _ _ _ (by omega) cs; have bg := hfar _ _ _ (by omega) bg; have bh := bn
          clear hwn bn hfar hbf k0 k1 f0 f1
          refine hK.out _ _ ?_ (fun hHeld => ?_)
          · exact ⟨cv, cq, cs⟩
          clear hK K
          try simp only [Act.put, List.setIfInBounds_toArray, List.set_cons_zero, List.set_cons_succ]
          refine wpAnyH_done (by kernel_rfl) ?_ _
          go_wp2
          go_meet
          exact ⟨g, h, rfl, rfl, bg, bh, hgh, hgw, hhw, cv, cq, cs, hbn⟩
        refine AllReadyH.cons (o := ?_) ?_ (fun K hK => ?_) AllReadyH.nil
        rotate_left 1
        · (simp only [List.getElem?_toArray, List.getElem?_cons_succ, List.getElem?_cons_zero]; rfl)
        go_simp
        obtain ⟨h, wn, hwn, hh, bh, hcn⟩ := alloc_f wn 59 #[.int .i64 0, .int .i64 0]
        rw [← hwn, ← hh]
        have hhw : w4.heap.size ≤ h := (by have := hbn.size; omega); have hbn := hbn.trans (hcn.mono hbn.size); have cv := cv.same hcn; have cq := cq.same hcn; have cs := cs.same hcn
        clear hwn hh hcn
        refine hK.out _ _ ?_ (fun hHeld => ?_)
        · exact ⟨cv, cq, cs⟩
        clear hK K
        try simp only [Act.put, List.setIfInBounds_toArray, List.set_cons_zero, List.set_cons_succ]
        refine wpAnyH_ready (rs := [2, 6]) (by kernel_rfl) (by simp) ?_
        refine AllReadyH.cons (o := ?_) ?_ (fun K hK => ?_) ?_
        rotate_left 1
        · (simp only [List.getElem?_toArray, List.getElem?_cons_succ, List.getElem?_cons_zero]; rfl)
        · go_simp
          go_at_call 26; refine (HHA.out _).mono ?_; rintro e wn ⟨rfl, hcn⟩
          have hbn := hbn.trans (hcn.mono hbn.size); have cv := cv.same hcn; have cq := cq.same hcn; have cs := cs.same hcn; have bh := bh.same hcn
          clear hcn
          refine hK.out _ _ ?_ (fun hHeld => ?_)
          · exact ⟨cv, cq, cs⟩
          clear hK K
          try simp only [Act.put, List.setIfInBounds_toArray, List.set_cons_zero, List.set_cons_succ]
          refine wpAnyH_ready (rs := [5, 6]) (by kernel_rfl) (by simp) ?_
          refine AllReadyH.cons (o := ?_) ?_ (fun K hK => ?_) ?_
          rotate_left 1
          · (simp only [List.getElem?_toArray, List.getElem?_cons_succ, List.getElem?_cons_zero]; rfl)
          · go_simp
            go_at_call 26; refine (HHB.out _).mono ?_; rintro e wn ⟨rfl, hcn⟩
            have hbn := hbn.trans (hcn.mono hbn.size); have cv := cv.same hcn; have cq := cq.same hcn; have cs := cs.same hcn; have bh := bh.same hcn
            clear hcn
            refine hK.out _ _ ?_ (fun hHeld => ?_)
            · exact ⟨cv, cq, cs⟩
            clear hK K
            try simp only [Act.put, List.setIfInBounds_toArray, List.set_cons_zero, List.set_cons_succ]
            refine wpAnyH_ready (rs := [6]) (by kernel_rfl) (by simp) ?_
            refine AllReadyH.cons (o := ?_) ?_ (fun K hK => ?_) AllReadyH.nil
            rotate_left 1
            · (simp only [List.getElem?_toArray, List.getElem?_cons_succ, List.getElem?_cons_zero]; rfl)
            go_simp
            obtain ⟨g, wn, hwn, hg, bg, hcn⟩ := alloc_f wn 59 #[.int .i64 0, .int .i64 0]
            rw [← hwn, ← hg]
            have hgh : h ≠ g := (by have := bh.lt; omega); have hgw : w4.heap.size ≤ g := (by have := hbn.size; omega); have hbn := hbn.trans (hcn.mono hbn.size); have cv := cv.same hcn; have cq := cq.same hcn; have cs := cs.same hcn; have bh := bh.same hcn
            clear hwn hg hcn
            refine hK.out _ _ ?_ (fun hHeld => ?_)
            · exact ⟨cv, cq, cs⟩
            clear hK K
            try simp only [Act.put, List.setIfInBounds_toArray, List.set_cons_zero, List.set_cons_succ]
            refine wpAnyH_ready (rs := [8]) (by kernel_rfl) (by simp) ?_
            refine AllReadyH.cons (o := ?_) ?_ (fun K hK => ?_) AllReadyH.nil
            rotate_left 1
            · (simp only [List.getElem?_toArray, List.getElem?_cons_succ, List.getElem?_cons_zero]; rfl)
            have k0 := bg.cell 0; have k1 := bg.cell 1; have f0 := bg.frozen 0; have f1 := bg.frozen 1; simp only [List.getElem?_toArray, List.getElem?_cons_succ, List.getElem?_cons_zero] at k0 k1
            go_simp
            obtain ⟨wn, hwn, bn, hfar, hbf⟩ := store2_f bg (.int .i64 x0) (.int .i64 x1)
            rw [← hwn]
            have hbn := hbf _ _ hbn (by omega); have cv := hfar _ _ _ (by omega) cv; have cq := hfar _ _ _ (by omega) cq; have cs := hfar _ _ _ (by omega) cs; have bh := hfar _ _ _ (by omega) bh; have bg := bn
            clear hwn bn hfar hbf k0 k1 f0 f1
            refine hK.out _ _ ?_ (fun hHeld => ?_)
            · exact ⟨cv, cq, cs⟩
            clear hK K
            try simp only [Act.put, List.setIfInBounds_toArray, List.set_cons_zero, List.set_cons_succ]
            refine wpAnyH_ready (rs := [9]) (by kernel_rfl) (by simp) ?_
            refine AllReadyH.cons (o := ?_) ?_ (fun K hK => ?_) AllReadyH.nil
            rotate_left 1
            · (simp only [List.getElem?_toArray, List.getElem?_cons_succ, List.getElem?_cons_zero]; rfl)
            have k0 := bh.cell 0; have k1 := bh.cell 1; have f0 := bh.frozen 0; have f1 := bh.frozen 1; simp only [List.getElem?_toArray, List.getElem?_cons_succ, List.getElem?_cons_zero] at k0 k1
            go_simp
            obtain ⟨wn, hwn, bn, hfar, hbf⟩ := store2_f bh (.int .i64 y0') (.int .i64 y1')
            rw [← hwn]
            have hbn := hbf _ _ hbn (by omega); have cv := hfar _ _ _ (by omega) cv; have cq := hfar _ _ _ (by omega) cq; have cs := hfar _ _ _ (by omega) cs; have bg := hfar _ _ _ (by omega) bg; have bh := bn
            clear hwn bn hfar hbf k0 k1 f0 f1
            refine hK.out _ _ ?_ (fun hHeld => ?_)
            · exact ⟨cv, cq, cs⟩
            clear hK K
            try simp only [Act.put, List.setIfInBounds_toArray, List.set_cons_zero, List.set_cons_succ]
            refine wpAnyH_done (by kernel_rfl) ?_ _
            go_wp2
            go_meet
            exact ⟨g, h, rfl, rfl, bg, bh, hgh, hgw, hhw, cv, cq, cs, hbn⟩
          refine AllReadyH.cons (o := ?_) ?_ (fun K hK => ?_) AllReadyH.nil
          rotate_left 1
          · (simp only [List.getElem?_toArray, List.getElem?_cons_succ, List.getElem?_cons_zero]; rfl)
          go_simp
          obtain ⟨g, wn, hwn, hg, bg, hcn⟩ := alloc_f wn 59 #[.int .i64 0, .int .i64 0]
          rw [← hwn, ← hg]
          have hgh : h ≠ g := (by have := bh.lt; omega); have hgw : w4.heap.size ≤ g := (by have := hbn.size; omega); have hbn := hbn.trans (hcn.mono hbn.size); have cv := cv.same hcn; have cq := cq.same hcn; have cs := cs.same hcn; have bh := bh.same hcn
          clear hwn hg hcn
          refine hK.out _ _ ?_ (fun hHeld => ?_)
          · exact ⟨cv, cq, cs⟩
          clear hK K
          try simp only [Act.put, List.setIfInBounds_toArray, List.set_cons_zero, List.set_cons_succ]
          refine wpAnyH_ready (rs := [5]) (by kernel_rfl) (by simp) ?_
          refine AllReadyH.cons (o := ?_) ?_ (fun K hK => ?_) AllReadyH.nil
          rotate_left 1
          · (simp only [List.getElem?_toArray, List.getElem?_cons_succ, List.getElem?_cons_zero]; rfl)
          go_simp
          go_at_call 26; refine (HHB.out _).mono ?_; rintro e wn ⟨rfl, hcn⟩
          have hbn := hbn.trans (hcn.mono hbn.size); have cv := cv.same hcn; have cq := cq.same hcn; have cs := cs.same hcn; have bg := bg.same hcn; have bh := bh.same hcn
          clear hcn
          refine hK.out _ _ ?_ (fun hHeld => ?_)
          · exact ⟨cv, cq, cs⟩
          clear hK K
          try simp only [Act.put, List.setIfInBounds_toArray, List.set_cons_zero, List.set_cons_succ]
          refine wpAnyH_ready (rs := [8]) (by kernel_rfl) (by simp) ?_
          refine AllReadyH.cons (o := ?_) ?_ (fun K hK => ?_) AllReadyH.nil
          rotate_left 1
          · (simp only [List.getElem?_toArray, List.getElem?_cons_succ, List.getElem?_cons_zero]; rfl)
          have k0 := bg.cell 0; have k1 := bg.cell 1; have f0 := bg.frozen 0; have f1 := bg.frozen 1; simp only [List.getElem?_toArray, List.getElem?_cons_succ, List.getElem?_cons_zero] at k0 k1
          go_simp
          obtain ⟨wn, hwn, bn, hfar, hbf⟩ := store2_f bg (.int .i64 x0) (.int .i64 x1)
          rw [← hwn]
          have hbn := hbf _ _ hbn (by omega); have cv := hfar _ _ _ (by omega) cv; have cq := hfar _ _ _ (by omega) cq; have cs := hfar _ _ _ (by omega) cs; have bh := hfar _ _ _ (by omega) bh; have bg := bn
          clear hwn bn hfar hbf k0 k1 f0 f1
          refine hK.out _ _ ?_ (fun hHeld => ?_)
          · exact ⟨cv, cq, cs⟩
          clear hK K
          try simp only [Act.put, List.setIfInBounds_toArray, List.set_cons_zero, List.set_cons_succ]
          refine wpAnyH_ready (rs := [9]) (by kernel_rfl) (by simp) ?_
          refine AllReadyH.cons (o := ?_) ?_ (fun K hK => ?_) AllReadyH.nil
          rotate_left 1
          · (simp only [List.getElem?_toArray, List.getElem?_cons_succ, List.getElem?_cons_zero]; rfl)
          have k0 := bh.cell 0; have k1 := bh.cell 1; have f0 := bh.frozen 0; have f1 := bh.frozen 1; simp only [List.getElem?_toArray, List.getElem?_cons_succ, List.getElem?_cons_zero] at k0 k1
          go_simp
          obtain ⟨wn, hwn, bn, hfar, hbf⟩ := store2_f bh (.int .i64 y0') (.int .i64 y1')
          rw [← hwn]
          have hbn := hbf _ _ hbn (by omega); have cv := hfar _ _ _ (by omega) cv; have cq := hfar _ _ _ (by omega) cq; have cs := hfar _ _ _ (by omega) cs; have bg := hfar _ _ _ (by omega) bg; have bh := bn
          clear hwn bn hfar hbf k0 k1 f0 f1
          refine hK.out _ _ ?_ (fun hHeld => ?_)
          · exact ⟨cv, cq, cs⟩
          clear hK K
          try simp only [Act.put, List.setIfInBounds_toArray, List.set_cons_zero, List.set_cons_succ]
          refine wpAnyH_done (by kernel_rfl) ?_ _
          go_wp2
          go_meet
          exact ⟨g, h, rfl, rfl, bg, bh, hgh, hgw, hhw, cv, cq, cs, hbn⟩
        refine AllReadyH.cons (o := ?_) ?_ (fun K hK => ?_) AllReadyH.nil
        rotate_left 1
        · (simp only [List.getElem?_toArray, List.getElem?_cons_succ, List.getElem?_cons_zero]; rfl)
        go_simp
        obtain ⟨g, wn, hwn, hg, bg, hcn⟩ := alloc_f wn 59 #[.int .i64 0, .int .i64 0]
        rw [← hwn, ← hg]
        have hgh : h ≠ g := (by have := bh.lt; omega); have hgw : w4.heap.size ≤ g := (by have := hbn.size; omega); have hbn := hbn.trans (hcn.mono hbn.size); have cv := cv.same hcn; have cq := cq.same hcn; have cs := cs.same hcn; have bh := bh.same hcn
        clear hwn hg hcn
        refine hK.out _ _ ?_ (fun hHeld => ?_)
        · exact ⟨cv, cq, cs⟩
        clear hK K
        try simp only [Act.put, List.setIfInBounds_toArray, List.set_cons_zero, List.set_cons_succ]
        refine wpAnyH_ready (rs := [2]) (by kernel_rfl) (by simp) ?_
        refine AllReadyH.cons (o := ?_) ?_ (fun K hK => ?_) AllReadyH.nil
        rotate_left 1
        · (simp only [List.getElem?_toArray, List.getElem?_cons_succ, List.getElem?_cons_zero]; rfl)
        go_simp
        go_at_call 26; refine (HHA.out _).mono ?_; rintro e wn ⟨rfl, hcn⟩
        have hbn := hbn.trans (hcn.mono hbn.size); have cv := cv.same hcn; have cq := cq.same hcn; have cs := cs.same hcn; have bg := bg.same hcn; have bh := bh.same hcn
        clear hcn
        refine hK.out _ _ ?_ (fun hHeld => ?_)
        · exact ⟨cv, cq, cs⟩
        clear hK K
        try simp only [Act.put, List.setIfInBounds_toArray, List.set_cons_zero, List.set_cons_succ]
        refine wpAnyH_ready (rs := [5]) (by kernel_rfl) (by simp) ?_
        refine AllReadyH.cons (o := ?_) ?_ (fun K hK => ?_) AllReadyH.nil
        rotate_left 1
        · (simp only [List.getElem?_toArray, List.getElem?_cons_succ, List.getElem?_cons_zero]; rfl)
        go_simp
        go_at_call 26; refine (HHB.out _).mono ?_; rintro e wn ⟨rfl, hcn⟩
        have hbn := hbn.trans (hcn.mono hbn.size); have cv := cv.same hcn; have cq := cq.same hcn; have cs := cs.same hcn; have bg := bg.same hcn; have bh := bh.same hcn
        clear hcn
        refine hK.out _ _ ?_ (fun hHeld => ?_)
        · exact ⟨cv, cq, cs⟩
        clear hK K
        try simp only [Act.put, List.setIfInBounds_toArray, List.set_cons_zero, List.set_cons_succ]
        refine wpAnyH_ready (rs := [8]) (by kernel_rfl) (by simp) ?_
        refine AllReadyH.cons (o := ?_) ?_ (fun K hK => ?_) AllReadyH.nil
        rotate_left 1
        · (simp only [List.getElem?_toArray, List.getElem?_cons_succ, List.getElem?_cons_zero]; rfl)
        have k0 := bg.cell 0; have k1 := bg.cell 1; have f0 := bg.frozen 0; have f1 := bg.frozen 1; simp only [List.getElem?_toArray, List.getElem?_cons_succ, List.getElem?_cons_zero] at k0 k1
        go_simp
        obtain ⟨wn, hwn, bn, hfar, hbf⟩ := store2_f bg (.int .i64 x0) (.int .i64 x1)
        rw [← hwn]
        have hbn := hbf _ _ hbn (by omega); have cv := hfar _ _ _ (by omega) cv; have cq := hfar _ _ _ (by omega) cq; have cs := hfar _ _ _ (by omega) cs; have bh := hfar _ _ _ (by omega) bh; have bg := bn
        clear hwn bn hfar hbf k0 k1 f0 f1
        refine hK.out _ _ ?_ (fun hHeld => ?_)
        · exact ⟨cv, cq, cs⟩
        clear hK K
        try simp only [Act.put, List.setIfInBounds_toArray, List.set_cons_zero, List.set_cons_succ]
        refine wpAnyH_ready (rs := [9]) (by kernel_rfl) (by simp) ?_
        refine AllReadyH.cons (o := ?_) ?_ (fun K hK => ?_) AllReadyH.nil
        rotate_left 1
        · (simp only [List.getElem?_toArray, List.getElem?_cons_succ, List.getElem?_cons_zero]; rfl)
        have k0 := bh.cell 0; have k1 := bh.cell 1; have f0 := bh.frozen 0; have f1 := bh.frozen 1; simp only [List.getElem?_toArray, List.getElem?_cons_succ, List.getElem?_cons_zero] at k0 k1
        go_simp
        obtain ⟨wn, hwn, bn, hfar, hbf⟩ := store2_f bh (.int .i64 y0') (.int .i64 y1')
        rw [← hwn]
        have hbn := hbf _ _ hbn (by omega); have cv := hfar _ _ _ (by omega) cv; have cq := hfar _ _ _ (by omega) cq; have cs := hfar _ _ _ (by omega) cs; have bg := hfar _ _ _ (by omega) bg; have bh := bn
        clear hwn bn hfar hbf k0 k1 f0 f1
        refine hK.out _ _ ?_ (fun hHeld => ?_)
        · exact ⟨cv, cq, cs⟩
        clear hK K
        try simp only [Act.put, List.setIfInBounds_toArray, List.set_cons_zero, List.set_cons_succ]
        refine wpAnyH_done (by kernel_rfl) ?_ _
        go_wp2
        go_meet
        exact ⟨g, h, rfl, rfl, bg, bh, hgh, hgw, hhw, cv, cq, cs, hbn⟩
      case rest =>
      obtain ⟨g, h, rfl, rfl, bg, bh, hgh, hg4, hh4, cv, cq, cs, hbn⟩ := hcut
      clear y0 y1 y2 y3 y4 y5 y6 p0 p1 s0 s1
      obtain ⟨tp, htp⟩ : ∃ tp : Nat, (tp : Int) = min (x0 : Int) (y0' : Int) := ⟨min x0 y0', by omega⟩
      obtain ⟨en, hen⟩ : ∃ en : Nat, (en : Int) = max (x0 : Int) (y0' : Int) := ⟨max x0 y0', by omega⟩
      obtain ⟨fr, hfr⟩ : ∃ fr : Nat, (fr : Int) = min (x1 : Int) (y1' : Int) := ⟨min x1 y1', by omega⟩
      obtain ⟨te, hte⟩ : ∃ te : Nat, (te : Int) = max (x1 : Int) (y1' : Int) := ⟨max x1 y1', by omega⟩
      rw [show min x0 y0' = tp by omega, show max x0 y0' = en by omega, show min x1 y1' = fr by omega, show max x1 y1' = te by omega] at hv4
      have HM := hide (⟨htp, hen, hfr, hte⟩ : (tp : Int) = min (x0 : Int) (y0' : Int) ∧ (en : Int) = max (x0 : Int) (y0' : Int) ∧ (fr : Int) = min (x1 : Int) (y1' : Int) ∧ (te : Int) = max (x1 : Int) (y1' : Int))
      have HRNG : Hid (tp ≤ en ∧ en < ls.length ∧ fr ≤ te ∧ (te : Int) < wd ∧ ls.length ≤ 1024) := hide (by have h1 := HOR.out.r0; have h2 := HOR.out.r1; have h3 := HR.out.hl; have h4 := HOR.out.c0; have h5 := HOR.out.c1; have h6 := HR.out.h2; omega)
      clear htp hen hfr hte
      have k0 : wc.drew.cell? ⟨g, 0, none⟩ = some (.int .i64 x0) := bg.cell 0
      have k1 : wc.drew.drew.cell? ⟨g, 1, none⟩ = some (.int .i64 x1) := bg.cell 1
      have m0 : wc.drew.cell? ⟨h, 0, none⟩ = some (.int .i64 y0') := bh.cell 0
      have m1 : wc.drew.drew.cell? ⟨h, 1, none⟩ = some (.int .i64 y1') := bh.cell 1
      go_upto_region 7 with fail
      go_cut [10, 11] from 42 to 51 (fun s t wx => s = .int .i64 tp ∧ t = .int .i64 en ∧ wc.drew = wx)
      case first =>
        rcases Int.lt_trichotomy (x0 : Int) y0' with h1 | h1 | h1
        · have e1 := HM.out.1
          have e2 := HM.out.2.1
          rw [Int.min_eq_left (by omega)] at e1
          rw [Int.max_eq_right (by omega)] at e2
          have h2 : Hid ((tp : Int) = x0 ∧ (en : Int) = y0') := hide ⟨e1, e2⟩
          have h3 : ¬ y0' < x0 := by omega
          have h4 : x0 < y0' := by omega
          clear e1 e2
          refine wp_region_held_drew (S := fun w' => w'.cell? ⟨g, 0, none⟩ = some (.int .i64 x0) ∧ w'.cell? ⟨h, 0, none⟩ = some (.int .i64 y0')) (by kernel_rfl) (by exact ⟨k0, m0⟩) (fun hHeld => ?_)
          refine wpAnyH_take (i := 0) (oi := ?_) (v := ?_) ?_ (by kernel_rfl) (by kernel_rfl) (by kernel_rfl) ?_ (Or.inl ⟨?_, ?_⟩) (by assumption) ?_
          rotate_left 2
          · (simp only [List.getElem?_toArray, List.getElem?_cons_succ, List.getElem?_cons_zero]; rfl)
          rotate_left 1
          · rfl
          · (intro w hSw; (try dsimp only at hSw); go_simp; try with_reducible rfl)
          rotate_left 1
          · exact fun _ _ _ h => h
          try simp only [Act.put, List.setIfInBounds_toArray, List.set_cons_zero, List.set_cons_succ]
          refine wpAnyH_take (i := 1) (oi := ?_) (v := ?_) ?_ (by kernel_rfl) (by kernel_rfl) (by kernel_rfl) ?_ (Or.inl ⟨?_, ?_⟩) (by assumption) ?_
          rotate_left 2
          · (simp only [List.getElem?_toArray, List.getElem?_cons_succ, List.getElem?_cons_zero]; rfl)
          rotate_left 1
          · rfl
          · (intro w hSw; (try dsimp only at hSw); go_simp; try with_reducible rfl)
          rotate_left 1
          · exact fun _ _ _ h => h
          try simp only [Act.put, List.setIfInBounds_toArray, List.set_cons_zero, List.set_cons_succ]
          refine wpAnyH_take (i := 2) (oi := ?_) (v := ?_) ?_ (by kernel_rfl) (by kernel_rfl) (by kernel_rfl) ?_ (Or.inl ⟨?_, ?_⟩) (by assumption) ?_
          rotate_left 2
          · (simp only [List.getElem?_toArray, List.getElem?_cons_succ, List.getElem?_cons_zero]; rfl)
          rotate_left 1
          · rfl
          · (intro w hSw; (try dsimp only at hSw); go_simp; try with_reducible rfl)
          rotate_left 1
          · exact fun _ _ _ h => h
          try simp only [Act.put, List.setIfInBounds_toArray, List.set_cons_zero, List.set_cons_succ]
          refine wpAnyH_take (i := 3) (oi := ?_) (v := ?_) ?_ (by kernel_rfl) (by kernel_rfl) (by kernel_rfl) ?_ (Or.inl ⟨?_, ?_⟩) (by assumption) ?_
          rotate_left 2
          · (simp only [List.getElem?_toArray, List.getElem?_cons_succ, List.getElem?_cons_zero]; rfl)
          rotate_left 1
          · rfl
          · (intro w hSw; (try dsimp only at hSw); go_simp; try with_reducible rfl)
          rotate_left 1
          · exact fun _ _ _ h => h
          try simp only [Act.put, List.setIfInBounds_toArray, List.set_cons_zero, List.set_cons_succ]
          refine wpAnyH_take (i := 4) (oi := ?_) (v := ?_) ?_ (by kernel_rfl) (by kernel_rfl) (by kernel_rfl) ?_ (Or.inl ⟨?_, ?_⟩) (by assumption) ?_
          rotate_left 2
          · (simp only [List.getElem?_toArray, List.getElem?_cons_succ, List.getElem?_cons_zero]; rfl)
          rotate_left 1
          · rfl
          · (intro w hSw; (try dsimp only at hSw); go_simp; try with_reducible rfl)
          rotate_left 1
          · exact fun _ _ _ h => h
          try simp only [Act.put, List.setIfInBounds_toArray, List.set_cons_zero, List.set_cons_succ]
          refine wpAnyH_take (i := 5) (oi := ?_) (v := ?_) ?_ (by kernel_rfl) (by kernel_rfl) (by kernel_rfl) ?_ (Or.inl ⟨?_, ?_⟩) (by assumption) ?_
          rotate_left 2
          · (simp only [List.getElem?_toArray, List.getElem?_cons_succ, List.getElem?_cons_zero]; rfl)
          rotate_left 1
          · rfl
          · (intro w hSw; (try dsimp only at hSw); go_simp; try with_reducible rfl)
          rotate_left 1
          · exact fun _ _ _ h => h
          try simp only [Act.put, List.setIfInBounds_toArray, List.set_cons_zero, List.set_cons_succ]
          refine wpAnyH_take (i := 6) (oi := ?_) (v := ?_) ?_ (by kernel_rfl) (by kernel_rfl) (by kernel_rfl) ?_ (Or.inl ⟨?_, ?_⟩) (by assumption) ?_
          rotate_left 2
          · (simp only [List.getElem?_toArray, List.getElem?_cons_succ, List.getElem?_cons_zero]; rfl)
          rotate_left 1
          · rfl
          · (intro w hSw; (try dsimp only at hSw); go_simp; try with_reducible rfl)
          rotate_left 1
          · exact fun _ _ _ h => h
          try simp only [Act.put, List.setIfInBounds_toArray, List.set_cons_zero, List.set_cons_succ]
          refine wpAnyH_take (i := 7) (oi := ?_) (v := ?_) ?_ (by kernel_rfl) (by kernel_rfl) (by kernel_rfl) ?_ (Or.inl ⟨?_, ?_⟩) (by assumption) ?_
          rotate_left 2
          · (simp only [List.getElem?_toArray, List.getElem?_cons_succ, List.getElem?_cons_zero]; rfl)
          rotate_left 1
          · rfl
          · (intro w hSw; (try dsimp only at hSw); go_simp; try with_reducible rfl)
          rotate_left 1
          · exact fun _ _ _ h => h
          try simp only [Act.put, List.setIfInBounds_toArray, List.set_cons_zero, List.set_cons_succ]
          refine wpAnyH_take (i := 8) (oi := ?_) (v := ?_) ?_ (by kernel_rfl) (by kernel_rfl) (by kernel_rfl) ?_ (Or.inl ⟨?_, ?_⟩) (by assumption) ?_
          rotate_left 2
          · (simp only [List.getElem?_toArray, List.getElem?_cons_succ, List.getElem?_cons_zero]; rfl)
          rotate_left 1
          · rfl
          · (intro w hSw; (try dsimp only at hSw); go_simp; try with_reducible rfl)
          rotate_left 1
          · exact fun _ _ _ h => h
          try simp only [Act.put, List.setIfInBounds_toArray, List.set_cons_zero, List.set_cons_succ]
          refine wpAnyH_take (i := 9) (oi := ?_) (v := ?_) ?_ (by kernel_rfl) (by kernel_rfl) (by kernel_rfl) ?_ (Or.inl ⟨?_, ?_⟩) (by assumption) ?_
          rotate_left 2
          · (simp only [List.getElem?_toArray, List.getElem?_cons_succ, List.getElem?_cons_zero]; rfl)
          rotate_left 1
          · rfl
          · (intro w hSw; (try dsimp only at hSw); go_simp; try with_reducible rfl)
          rotate_left 1
          · exact fun _ _ _ h => h
          try simp only [Act.put, List.setIfInBounds_toArray, List.set_cons_zero, List.set_cons_succ]
          refine wpAnyH_take (i := 10) (oi := ?_) (v := ?_) ?_ (by kernel_rfl) (by kernel_rfl) (by kernel_rfl) ?_ (Or.inl ⟨?_, ?_⟩) (by assumption) ?_
          rotate_left 2
          · (simp only [List.getElem?_toArray, List.getElem?_cons_succ, List.getElem?_cons_zero]; rfl)
          rotate_left 1
          · rfl
          · (intro w hSw; (try dsimp only at hSw); go_simp; try with_reducible rfl)
          rotate_left 1
          · exact fun _ _ _ h => h
          try simp only [Act.put, List.setIfInBounds_toArray, List.set_cons_zero, List.set_cons_succ]
          refine wpAnyH_take (i := 11) (oi := ?_) (v := ?_) ?_ (by kernel_rfl) (by kernel_rfl) (by kernel_rfl) ?_ (Or.inl ⟨?_, ?_⟩) (by assumption) ?_
          rotate_left 2
          · (simp only [List.getElem?_toArray, List.getElem?_cons_succ, List.getElem?_cons_zero]; rfl)
          rotate_left 1
          · rfl
          · (intro w hSw; (try dsimp only at hSw); go_simp; try with_reducible rfl)
          rotate_left 1
          · exact fun _ _ _ h => h
          try simp only [Act.put, List.setIfInBounds_toArray, List.set_cons_zero, List.set_cons_succ]
          refine wpAnyH_done (by kernel_rfl) ?_ _
          go_wp2
          go_meet
          exact ⟨by rw [h2.out.1], by rw [h2.out.2], rfl⟩
        · have e1 := HM.out.1
          have e2 := HM.out.2.1
          rw [Int.min_eq_left (by omega)] at e1
          rw [Int.max_eq_left (by omega)] at e2
          have h2 : Hid ((tp : Int) = x0 ∧ (en : Int) = x0) := hide ⟨e1, e2⟩
          have h5 : x0 = y0' := by omega
          subst h5
          clear e1 e2
          refine wp_region_held_drew (S := fun w' => w'.cell? ⟨g, 0, none⟩ = some (.int .i64 x0) ∧ w'.cell? ⟨h, 0, none⟩ = some (.int .i64 x0)) (by kernel_rfl) (by exact ⟨k0, m0⟩) (fun hHeld => ?_)
          refine wpAnyH_take (i := 0) (oi := ?_) (v := ?_) ?_ (by kernel_rfl) (by kernel_rfl) (by kernel_rfl) ?_ (Or.inl ⟨?_, ?_⟩) (by assumption) ?_
          rotate_left 2
          · (simp only [List.getElem?_toArray, List.getElem?_cons_succ, List.getElem?_cons_zero]; rfl)
          rotate_left 1
          · rfl
          · (intro w hSw; (try dsimp only at hSw); go_simp; try with_reducible rfl)
          rotate_left 1
          · exact fun _ _ _ h => h
          try simp only [Act.put, List.setIfInBounds_toArray, List.set_cons_zero, List.set_cons_succ]
          refine wpAnyH_take (i := 1) (oi := ?_) (v := ?_) ?_ (by kernel_rfl) (by kernel_rfl) (by kernel_rfl) ?_ (Or.inl ⟨?_, ?_⟩) (by assumption) ?_
          rotate_left 2
          · (simp only [List.getElem?_toArray, List.getElem?_cons_succ, List.getElem?_cons_zero]; rfl)
          rotate_left 1
          · rfl
          · (intro w hSw; (try dsimp only at hSw); go_simp; try with_reducible rfl)
          rotate_left 1
          · exact fun _ _ _ h => h
          try simp only [Act.put, List.setIfInBounds_toArray, List.set_cons_zero, List.set_cons_succ]
          refine wpAnyH_take (i := 2) (oi := ?_) (v := ?_) ?_ (by kernel_rfl) (by kernel_rfl) (by kernel_rfl) ?_ (Or.inl ⟨?_, ?_⟩) (by assumption) ?_
          rotate_left 2
          · (simp only [List.getElem?_toArray, List.getElem?_cons_succ, List.getElem?_cons_zero]; rfl)
          rotate_left 1
          · rfl
          · (intro w hSw; (try dsimp only at hSw); go_simp; try with_reducible rfl)
          rotate_left 1
          · exact fun _ _ _ h => h
          try simp only [Act.put, List.setIfInBounds_toArray, List.set_cons_zero, List.set_cons_succ]
          refine wpAnyH_take (i := 3) (oi := ?_) (v := ?_) ?_ (by kernel_rfl) (by kernel_rfl) (by kernel_rfl) ?_ (Or.inl ⟨?_, ?_⟩) (by assumption) ?_
          rotate_left 2
          · (simp only [List.getElem?_toArray, List.getElem?_cons_succ, List.getElem?_cons_zero]; rfl)
          rotate_left 1
          · rfl
          · (intro w hSw; (try dsimp only at hSw); go_simp; try with_reducible rfl)
          rotate_left 1
          · exact fun _ _ _ h => h
          try simp only [Act.put, List.setIfInBounds_toArray, List.set_cons_zero, List.set_cons_succ]
          refine wpAnyH_take (i := 4) (oi := ?_) (v := ?_) ?_ (by kernel_rfl) (by kernel_rfl) (by kernel_rfl) ?_ (Or.inl ⟨?_, ?_⟩) (by assumption) ?_
          rotate_left 2
          · (simp only [List.getElem?_toArray, List.getElem?_cons_succ, List.getElem?_cons_zero]; rfl)
          rotate_left 1
          · rfl
          · (intro w hSw; (try dsimp only at hSw); go_simp; try with_reducible rfl)
          rotate_left 1
          · exact fun _ _ _ h => h
          try simp only [Act.put, List.setIfInBounds_toArray, List.set_cons_zero, List.set_cons_succ]
          refine wpAnyH_take (i := 5) (oi := ?_) (v := ?_) ?_ (by kernel_rfl) (by kernel_rfl) (by kernel_rfl) ?_ (Or.inl ⟨?_, ?_⟩) (by assumption) ?_
          rotate_left 2
          · (simp only [List.getElem?_toArray, List.getElem?_cons_succ, List.getElem?_cons_zero]; rfl)
          rotate_left 1
          · rfl
          · (intro w hSw; (try dsimp only at hSw); go_simp; try with_reducible rfl)
          rotate_left 1
          · exact fun _ _ _ h => h
          try simp only [Act.put, List.setIfInBounds_toArray, List.set_cons_zero, List.set_cons_succ]
          refine wpAnyH_take (i := 6) (oi := ?_) (v := ?_) ?_ (by kernel_rfl) (by kernel_rfl) (by kernel_rfl) ?_ (Or.inl ⟨?_, ?_⟩) (by assumption) ?_
          rotate_left 2
          · (simp only [List.getElem?_toArray, List.getElem?_cons_succ, List.getElem?_cons_zero]; rfl)
          rotate_left 1
          · rfl
          · (intro w hSw; (try dsimp only at hSw); go_simp; try with_reducible rfl)
          rotate_left 1
          · exact fun _ _ _ h => h
          try simp only [Act.put, List.setIfInBounds_toArray, List.set_cons_zero, List.set_cons_succ]
          refine wpAnyH_take (i := 7) (oi := ?_) (v := ?_) ?_ (by kernel_rfl) (by kernel_rfl) (by kernel_rfl) ?_ (Or.inl ⟨?_, ?_⟩) (by assumption) ?_
          rotate_left 2
          · (simp only [List.getElem?_toArray, List.getElem?_cons_succ, List.getElem?_cons_zero]; rfl)
          rotate_left 1
          · rfl
          · (intro w hSw; (try dsimp only at hSw); go_simp; try with_reducible rfl)
          rotate_left 1
          · exact fun _ _ _ h => h
          try simp only [Act.put, List.setIfInBounds_toArray, List.set_cons_zero, List.set_cons_succ]
          refine wpAnyH_take (i := 8) (oi := ?_) (v := ?_) ?_ (by kernel_rfl) (by kernel_rfl) (by kernel_rfl) ?_ (Or.inl ⟨?_, ?_⟩) (by assumption) ?_
          rotate_left 2
          · (simp only [List.getElem?_toArray, List.getElem?_cons_succ, List.getElem?_cons_zero]; rfl)
          rotate_left 1
          · rfl
          · (intro w hSw; (try dsimp only at hSw); go_simp; try with_reducible rfl)
          rotate_left 1
          · exact fun _ _ _ h => h
          try simp only [Act.put, List.setIfInBounds_toArray, List.set_cons_zero, List.set_cons_succ]
          refine wpAnyH_take (i := 9) (oi := ?_) (v := ?_) ?_ (by kernel_rfl) (by kernel_rfl) (by kernel_rfl) ?_ (Or.inl ⟨?_, ?_⟩) (by assumption) ?_
          rotate_left 2
          · (simp only [List.getElem?_toArray, List.getElem?_cons_succ, List.getElem?_cons_zero]; rfl)
          rotate_left 1
          · rfl
          · (intro w hSw; (try dsimp only at hSw); go_simp; try with_reducible rfl)
          rotate_left 1
          · exact fun _ _ _ h => h
          try simp only [Act.put, List.setIfInBounds_toArray, List.set_cons_zero, List.set_cons_succ]
          refine wpAnyH_take (i := 10) (oi := ?_) (v := ?_) ?_ (by kernel_rfl) (by kernel_rfl) (by kernel_rfl) ?_ (Or.inl ⟨?_, ?_⟩) (by assumption) ?_
          rotate_left 2
          · (simp only [List.getElem?_toArray, List.getElem?_cons_succ, List.getElem?_cons_zero]; rfl)
          rotate_left 1
          · rfl
          · (intro w hSw; (try dsimp only at hSw); go_simp; try with_reducible rfl)
          rotate_left 1
          · exact fun _ _ _ h => h
          try simp only [Act.put, List.setIfInBounds_toArray, List.set_cons_zero, List.set_cons_succ]
          refine wpAnyH_take (i := 11) (oi := ?_) (v := ?_) ?_ (by kernel_rfl) (by kernel_rfl) (by kernel_rfl) ?_ (Or.inl ⟨?_, ?_⟩) (by assumption) ?_
          rotate_left 2
          · (simp only [List.getElem?_toArray, List.getElem?_cons_succ, List.getElem?_cons_zero]; rfl)
          rotate_left 1
          · rfl
          · (intro w hSw; (try dsimp only at hSw); go_simp; try with_reducible rfl)
          rotate_left 1
          · exact fun _ _ _ h => h
          try simp only [Act.put, List.setIfInBounds_toArray, List.set_cons_zero, List.set_cons_succ]
          refine wpAnyH_done (by kernel_rfl) ?_ _
          go_wp2
          go_meet
          exact ⟨by rw [h2.out.1], by rw [h2.out.2], rfl⟩
        · have e1 := HM.out.1
          have e2 := HM.out.2.1
          rw [Int.min_eq_right (by omega)] at e1
          rw [Int.max_eq_left (by omega)] at e2
          have h2 : Hid ((tp : Int) = y0' ∧ (en : Int) = x0) := hide ⟨e1, e2⟩
          have h3 : y0' < x0 := by omega
          have h4 : ¬ x0 < y0' := by omega
          clear e1 e2
          refine wp_region_held_drew (S := fun w' => w'.cell? ⟨g, 0, none⟩ = some (.int .i64 x0) ∧ w'.cell? ⟨h, 0, none⟩ = some (.int .i64 y0')) (by kernel_rfl) (by exact ⟨k0, m0⟩) (fun hHeld => ?_)
          refine wpAnyH_take (i := 0) (oi := ?_) (v := ?_) ?_ (by kernel_rfl) (by kernel_rfl) (by kernel_rfl) ?_ (Or.inl ⟨?_, ?_⟩) (by assumption) ?_
          rotate_left 2
          · (simp only [List.getElem?_toArray, List.getElem?_cons_succ, List.getElem?_cons_zero]; rfl)
          rotate_left 1
          · rfl
          · (intro w hSw; (try dsimp only at hSw); go_simp; try with_reducible rfl)
          rotate_left 1
          · exact fun _ _ _ h => h
          try simp only [Act.put, List.setIfInBounds_toArray, List.set_cons_zero, List.set_cons_succ]
          refine wpAnyH_take (i := 1) (oi := ?_) (v := ?_) ?_ (by kernel_rfl) (by kernel_rfl) (by kernel_rfl) ?_ (Or.inl ⟨?_, ?_⟩) (by assumption) ?_
          rotate_left 2
          · (simp only [List.getElem?_toArray, List.getElem?_cons_succ, List.getElem?_cons_zero]; rfl)
          rotate_left 1
          · rfl
          · (intro w hSw; (try dsimp only at hSw); go_simp; try with_reducible rfl)
          rotate_left 1
          · exact fun _ _ _ h => h
          try simp only [Act.put, List.setIfInBounds_toArray, List.set_cons_zero, List.set_cons_succ]
          refine wpAnyH_take (i := 2) (oi := ?_) (v := ?_) ?_ (by kernel_rfl) (by kernel_rfl) (by kernel_rfl) ?_ (Or.inl ⟨?_, ?_⟩) (by assumption) ?_
          rotate_left 2
          · (simp only [List.getElem?_toArray, List.getElem?_cons_succ, List.getElem?_cons_zero]; rfl)
          rotate_left 1
          · rfl
          · (intro w hSw; (try dsimp only at hSw); go_simp; try with_reducible rfl)
          rotate_left 1
          · exact fun _ _ _ h => h
          try simp only [Act.put, List.setIfInBounds_toArray, List.set_cons_zero, List.set_cons_succ]
          refine wpAnyH_take (i := 3) (oi := ?_) (v := ?_) ?_ (by kernel_rfl) (by kernel_rfl) (by kernel_rfl) ?_ (Or.inl ⟨?_, ?_⟩) (by assumption) ?_
          rotate_left 2
          · (simp only [List.getElem?_toArray, List.getElem?_cons_succ, List.getElem?_cons_zero]; rfl)
          rotate_left 1
          · rfl
          · (intro w hSw; (try dsimp only at hSw); go_simp; try with_reducible rfl)
          rotate_left 1
          · exact fun _ _ _ h => h
          try simp only [Act.put, List.setIfInBounds_toArray, List.set_cons_zero, List.set_cons_succ]
          refine wpAnyH_take (i := 4) (oi := ?_) (v := ?_) ?_ (by kernel_rfl) (by kernel_rfl) (by kernel_rfl) ?_ (Or.inl ⟨?_, ?_⟩) (by assumption) ?_
          rotate_left 2
          · (simp only [List.getElem?_toArray, List.getElem?_cons_succ, List.getElem?_cons_zero]; rfl)
          rotate_left 1
          · rfl
          · (intro w hSw; (try dsimp only at hSw); go_simp; try with_reducible rfl)
          rotate_left 1
          · exact fun _ _ _ h => h
          try simp only [Act.put, List.setIfInBounds_toArray, List.set_cons_zero, List.set_cons_succ]
          refine wpAnyH_take (i := 5) (oi := ?_) (v := ?_) ?_ (by kernel_rfl) (by kernel_rfl) (by kernel_rfl) ?_ (Or.inl ⟨?_, ?_⟩) (by assumption) ?_
          rotate_left 2
          · (simp only [List.getElem?_toArray, List.getElem?_cons_succ, List.getElem?_cons_zero]; rfl)
          rotate_left 1
          · rfl
          · (intro w hSw; (try dsimp only at hSw); go_simp; try with_reducible rfl)
          rotate_left 1
          · exact fun _ _ _ h => h
          try simp only [Act.put, List.setIfInBounds_toArray, List.set_cons_zero, List.set_cons_succ]
          refine wpAnyH_take (i := 6) (oi := ?_) (v := ?_) ?_ (by kernel_rfl) (by kernel_rfl) (by kernel_rfl) ?_ (Or.inl ⟨?_, ?_⟩) (by assumption) ?_
          rotate_left 2
          · (simp only [List.getElem?_toArray, List.getElem?_cons_succ, List.getElem?_cons_zero]; rfl)
          rotate_left 1
          · rfl
          · (intro w hSw; (try dsimp only at hSw); go_simp; try with_reducible rfl)
          rotate_left 1
          · exact fun _ _ _ h => h
          try simp only [Act.put, List.setIfInBounds_toArray, List.set_cons_zero, List.set_cons_succ]
          refine wpAnyH_take (i := 7) (oi := ?_) (v := ?_) ?_ (by kernel_rfl) (by kernel_rfl) (by kernel_rfl) ?_ (Or.inl ⟨?_, ?_⟩) (by assumption) ?_
          rotate_left 2
          · (simp only [List.getElem?_toArray, List.getElem?_cons_succ, List.getElem?_cons_zero]; rfl)
          rotate_left 1
          · rfl
          · (intro w hSw; (try dsimp only at hSw); go_simp; try with_reducible rfl)
          rotate_left 1
          · exact fun _ _ _ h => h
          try simp only [Act.put, List.setIfInBounds_toArray, List.set_cons_zero, List.set_cons_succ]
          refine wpAnyH_take (i := 8) (oi := ?_) (v := ?_) ?_ (by kernel_rfl) (by kernel_rfl) (by kernel_rfl) ?_ (Or.inl ⟨?_, ?_⟩) (by assumption) ?_
          rotate_left 2
          · (simp only [List.getElem?_toArray, List.getElem?_cons_succ, List.getElem?_cons_zero]; rfl)
          rotate_left 1
          · rfl
          · (intro w hSw; (try dsimp only at hSw); go_simp; try with_reducible rfl)
          rotate_left 1
          · exact fun _ _ _ h => h
          try simp only [Act.put, List.setIfInBounds_toArray, List.set_cons_zero, List.set_cons_succ]
          refine wpAnyH_take (i := 9) (oi := ?_) (v := ?_) ?_ (by kernel_rfl) (by kernel_rfl) (by kernel_rfl) ?_ (Or.inl ⟨?_, ?_⟩) (by assumption) ?_
          rotate_left 2
          · (simp only [List.getElem?_toArray, List.getElem?_cons_succ, List.getElem?_cons_zero]; rfl)
          rotate_left 1
          · rfl
          · (intro w hSw; (try dsimp only at hSw); go_simp; try with_reducible rfl)
          rotate_left 1
          · exact fun _ _ _ h => h
          try simp only [Act.put, List.setIfInBounds_toArray, List.set_cons_zero, List.set_cons_succ]
          refine wpAnyH_take (i := 10) (oi := ?_) (v := ?_) ?_ (by kernel_rfl) (by kernel_rfl) (by kernel_rfl) ?_ (Or.inl ⟨?_, ?_⟩) (by assumption) ?_
          rotate_left 2
          · (simp only [List.getElem?_toArray, List.getElem?_cons_succ, List.getElem?_cons_zero]; rfl)
          rotate_left 1
          · rfl
          · (intro w hSw; (try dsimp only at hSw); go_simp; try with_reducible rfl)
          rotate_left 1
          · exact fun _ _ _ h => h
          try simp only [Act.put, List.setIfInBounds_toArray, List.set_cons_zero, List.set_cons_succ]
          refine wpAnyH_take (i := 11) (oi := ?_) (v := ?_) ?_ (by kernel_rfl) (by kernel_rfl) (by kernel_rfl) ?_ (Or.inl ⟨?_, ?_⟩) (by assumption) ?_
          rotate_left 2
          · (simp only [List.getElem?_toArray, List.getElem?_cons_succ, List.getElem?_cons_zero]; rfl)
          rotate_left 1
          · rfl
          · (intro w hSw; (try dsimp only at hSw); go_simp; try with_reducible rfl)
          rotate_left 1
          · exact fun _ _ _ h => h
          try simp only [Act.put, List.setIfInBounds_toArray, List.set_cons_zero, List.set_cons_succ]
          refine wpAnyH_done (by kernel_rfl) ?_ _
          go_wp2
          go_meet
          exact ⟨by rw [h2.out.1], by rw [h2.out.2], rfl⟩
      case rest =>
      obtain ⟨rfl, rfl, rfl⟩ := hcut
      go_upto_region 8 with fail
      go_cut [12, 13] from 52 to 61 (fun s t wx => s = .int .i64 fr ∧ t = .int .i64 te ∧ wc.drew.drew = wx)
      case first =>
        rcases Int.lt_trichotomy (x1 : Int) y1' with h1 | h1 | h1
        · have e1 := HM.out.2.2.1
          have e2 := HM.out.2.2.2
          rw [Int.min_eq_left (by omega)] at e1
          rw [Int.max_eq_right (by omega)] at e2
          have h2 : Hid ((fr : Int) = x1 ∧ (te : Int) = y1') := hide ⟨e1, e2⟩
          have h3 : ¬ y1' < x1 := by omega
          have h4 : x1 < y1' := by omega
          clear e1 e2
          refine wp_region_held_drew (S := fun w' => w'.cell? ⟨g, 1, none⟩ = some (.int .i64 x1) ∧ w'.cell? ⟨h, 1, none⟩ = some (.int .i64 y1')) (by kernel_rfl) (by exact ⟨k1, m1⟩) (fun hHeld => ?_)
          refine wpAnyH_take (i := 0) (oi := ?_) (v := ?_) ?_ (by kernel_rfl) (by kernel_rfl) (by kernel_rfl) ?_ (Or.inl ⟨?_, ?_⟩) (by assumption) ?_
          rotate_left 2
          · (simp only [List.getElem?_toArray, List.getElem?_cons_succ, List.getElem?_cons_zero]; rfl)
          rotate_left 1
          · rfl
          · (intro w hSw; (try dsimp only at hSw); go_simp; try with_reducible rfl)
          rotate_left 1
          · exact fun _ _ _ h => h
          try simp only [Act.put, List.setIfInBounds_toArray, List.set_cons_zero, List.set_cons_succ]
          refine wpAnyH_take (i := 1) (oi := ?_) (v := ?_) ?_ (by kernel_rfl) (by kernel_rfl) (by kernel_rfl) ?_ (Or.inl ⟨?_, ?_⟩) (by assumption) ?_
          rotate_left 2
          · (simp only [List.getElem?_toArray, List.getElem?_cons_succ, List.getElem?_cons_zero]; rfl)
          rotate_left 1
          · rfl
          · (intro w hSw; (try dsimp only at hSw); go_simp; try with_reducible rfl)
          rotate_left 1
          · exact fun _ _ _ h => h
          try simp only [Act.put, List.setIfInBounds_toArray, List.set_cons_zero, List.set_cons_succ]
          refine wpAnyH_take (i := 2) (oi := ?_) (v := ?_) ?_ (by kernel_rfl) (by kernel_rfl) (by kernel_rfl) ?_ (Or.inl ⟨?_, ?_⟩) (by assumption) ?_
          rotate_left 2
          · (simp only [List.getElem?_toArray, List.getElem?_cons_succ, List.getElem?_cons_zero]; rfl)
          rotate_left 1
          · rfl
          · (intro w hSw; (try dsimp only at hSw); go_simp; try with_reducible rfl)
          rotate_left 1
          · exact fun _ _ _ h => h
          try simp only [Act.put, List.setIfInBounds_toArray, List.set_cons_zero, List.set_cons_succ]
          refine wpAnyH_take (i := 3) (oi := ?_) (v := ?_) ?_ (by kernel_rfl) (by kernel_rfl) (by kernel_rfl) ?_ (Or.inl ⟨?_, ?_⟩) (by assumption) ?_
          rotate_left 2
          · (simp only [List.getElem?_toArray, List.getElem?_cons_succ, List.getElem?_cons_zero]; rfl)
          rotate_left 1
          · rfl
          · (intro w hSw; (try dsimp only at hSw); go_simp; try with_reducible rfl)
          rotate_left 1
          · exact fun _ _ _ h => h
          try simp only [Act.put, List.setIfInBounds_toArray, List.set_cons_zero, List.set_cons_succ]
          refine wpAnyH_take (i := 4) (oi := ?_) (v := ?_) ?_ (by kernel_rfl) (by kernel_rfl) (by kernel_rfl) ?_ (Or.inl ⟨?_, ?_⟩) (by assumption) ?_
          rotate_left 2
          · (simp only [List.getElem?_toArray, List.getElem?_cons_succ, List.getElem?_cons_zero]; rfl)
          rotate_left 1
          · rfl
          · (intro w hSw; (try dsimp only at hSw); go_simp; try with_reducible rfl)
          rotate_left 1
          · exact fun _ _ _ h => h
          try simp only [Act.put, List.setIfInBounds_toArray, List.set_cons_zero, List.set_cons_succ]
          refine wpAnyH_take (i := 5) (oi := ?_) (v := ?_) ?_ (by kernel_rfl) (by kernel_rfl) (by kernel_rfl) ?_ (Or.inl ⟨?_, ?_⟩) (by assumption) ?_
          rotate_left 2
          · (simp only [List.getElem?_toArray, List.getElem?_cons_succ, List.getElem?_cons_zero]; rfl)
          rotate_left 1
          · rfl
          · (intro w hSw; (try dsimp only at hSw); go_simp; try with_reducible rfl)
          rotate_left 1
          · exact fun _ _ _ h => h
          try simp only [Act.put, List.setIfInBounds_toArray, List.set_cons_zero, List.set_cons_succ]
          refine wpAnyH_take (i := 6) (oi := ?_) (v := ?_) ?_ (by kernel_rfl) (by kernel_rfl) (by kernel_rfl) ?_ (Or.inl ⟨?_, ?_⟩) (by assumption) ?_
          rotate_left 2
          · (simp only [List.getElem?_toArray, List.getElem?_cons_succ, List.getElem?_cons_zero]; rfl)
          rotate_left 1
          · rfl
          · (intro w hSw; (try dsimp only at hSw); go_simp; try with_reducible rfl)
          rotate_left 1
          · exact fun _ _ _ h => h
          try simp only [Act.put, List.setIfInBounds_toArray, List.set_cons_zero, List.set_cons_succ]
          refine wpAnyH_take (i := 7) (oi := ?_) (v := ?_) ?_ (by kernel_rfl) (by kernel_rfl) (by kernel_rfl) ?_ (Or.inl ⟨?_, ?_⟩) (by assumption) ?_
          rotate_left 2
          · (simp only [List.getElem?_toArray, List.getElem?_cons_succ, List.getElem?_cons_zero]; rfl)
          rotate_left 1
          · rfl
          · (intro w hSw; (try dsimp only at hSw); go_simp; try with_reducible rfl)
          rotate_left 1
          · exact fun _ _ _ h => h
          try simp only [Act.put, List.setIfInBounds_toArray, List.set_cons_zero, List.set_cons_succ]
          refine wpAnyH_take (i := 8) (oi := ?_) (v := ?_) ?_ (by kernel_rfl) (by kernel_rfl) (by kernel_rfl) ?_ (Or.inl ⟨?_, ?_⟩) (by assumption) ?_
          rotate_left 2
          · (simp only [List.getElem?_toArray, List.getElem?_cons_succ, List.getElem?_cons_zero]; rfl)
          rotate_left 1
          · rfl
          · (intro w hSw; (try dsimp only at hSw); go_simp; try with_reducible rfl)
          rotate_left 1
          · exact fun _ _ _ h => h
          try simp only [Act.put, List.setIfInBounds_toArray, List.set_cons_zero, List.set_cons_succ]
          refine wpAnyH_take (i := 9) (oi := ?_) (v := ?_) ?_ (by kernel_rfl) (by kernel_rfl) (by kernel_rfl) ?_ (Or.inl ⟨?_, ?_⟩) (by assumption) ?_
          rotate_left 2
          · (simp only [List.getElem?_toArray, List.getElem?_cons_succ, List.getElem?_cons_zero]; rfl)
          rotate_left 1
          · rfl
          · (intro w hSw; (try dsimp only at hSw); go_simp; try with_reducible rfl)
          rotate_left 1
          · exact fun _ _ _ h => h
          try simp only [Act.put, List.setIfInBounds_toArray, List.set_cons_zero, List.set_cons_succ]
          refine wpAnyH_take (i := 10) (oi := ?_) (v := ?_) ?_ (by kernel_rfl) (by kernel_rfl) (by kernel_rfl) ?_ (Or.inl ⟨?_, ?_⟩) (by assumption) ?_
          rotate_left 2
          · (simp only [List.getElem?_toArray, List.getElem?_cons_succ, List.getElem?_cons_zero]; rfl)
          rotate_left 1
          · rfl
          · (intro w hSw; (try dsimp only at hSw); go_simp; try with_reducible rfl)
          rotate_left 1
          · exact fun _ _ _ h => h
          try simp only [Act.put, List.setIfInBounds_toArray, List.set_cons_zero, List.set_cons_succ]
          refine wpAnyH_take (i := 11) (oi := ?_) (v := ?_) ?_ (by kernel_rfl) (by kernel_rfl) (by kernel_rfl) ?_ (Or.inl ⟨?_, ?_⟩) (by assumption) ?_
          rotate_left 2
          · (simp only [List.getElem?_toArray, List.getElem?_cons_succ, List.getElem?_cons_zero]; rfl)
          rotate_left 1
          · rfl
          · (intro w hSw; (try dsimp only at hSw); go_simp; try with_reducible rfl)
          rotate_left 1
          · exact fun _ _ _ h => h
          try simp only [Act.put, List.setIfInBounds_toArray, List.set_cons_zero, List.set_cons_succ]
          refine wpAnyH_done (by kernel_rfl) ?_ _
          go_wp2
          go_meet
          exact ⟨by rw [h2.out.1], by rw [h2.out.2], rfl⟩
        · have e1 := HM.out.2.2.1
          have e2 := HM.out.2.2.2
          rw [Int.min_eq_left (by omega)] at e1
          rw [Int.max_eq_left (by omega)] at e2
          have h2 : Hid ((fr : Int) = x1 ∧ (te : Int) = x1) := hide ⟨e1, e2⟩
          have h5 : x1 = y1' := by omega
          subst h5
          clear e1 e2
          refine wp_region_held_drew (S := fun w' => w'.cell? ⟨g, 1, none⟩ = some (.int .i64 x1) ∧ w'.cell? ⟨h, 1, none⟩ = some (.int .i64 x1)) (by kernel_rfl) (by exact ⟨k1, m1⟩) (fun hHeld => ?_)
          refine wpAnyH_take (i := 0) (oi := ?_) (v := ?_) ?_ (by kernel_rfl) (by kernel_rfl) (by kernel_rfl) ?_ (Or.inl ⟨?_, ?_⟩) (by assumption) ?_
          rotate_left 2
          · (simp only [List.getElem?_toArray, List.getElem?_cons_succ, List.getElem?_cons_zero]; rfl)
          rotate_left 1
          · rfl
          · (intro w hSw; (try dsimp only at hSw); go_simp; try with_reducible rfl)
          rotate_left 1
          · exact fun _ _ _ h => h
          try simp only [Act.put, List.setIfInBounds_toArray, List.set_cons_zero, List.set_cons_succ]
          refine wpAnyH_take (i := 1) (oi := ?_) (v := ?_) ?_ (by kernel_rfl) (by kernel_rfl) (by kernel_rfl) ?_ (Or.inl ⟨?_, ?_⟩) (by assumption) ?_
          rotate_left 2
          · (simp only [List.getElem?_toArray, List.getElem?_cons_succ, List.getElem?_cons_zero]; rfl)
          rotate_left 1
          · rfl
          · (intro w hSw; (try dsimp only at hSw); go_simp; try with_reducible rfl)
          rotate_left 1
          · exact fun _ _ _ h => h
          try simp only [Act.put, List.setIfInBounds_toArray, List.set_cons_zero, List.set_cons_succ]
          refine wpAnyH_take (i := 2) (oi := ?_) (v := ?_) ?_ (by kernel_rfl) (by kernel_rfl) (by kernel_rfl) ?_ (Or.inl ⟨?_, ?_⟩) (by assumption) ?_
          rotate_left 2
          · (simp only [List.getElem?_toArray, List.getElem?_cons_succ, List.getElem?_cons_zero]; rfl)
          rotate_left 1
          · rfl
          · (intro w hSw; (try dsimp only at hSw); go_simp; try with_reducible rfl)
          rotate_left 1
          · exact fun _ _ _ h => h
          try simp only [Act.put, List.setIfInBounds_toArray, List.set_cons_zero, List.set_cons_succ]
          refine wpAnyH_take (i := 3) (oi := ?_) (v := ?_) ?_ (by kernel_rfl) (by kernel_rfl) (by kernel_rfl) ?_ (Or.inl ⟨?_, ?_⟩) (by assumption) ?_
          rotate_left 2
          · (simp only [List.getElem?_toArray, List.getElem?_cons_succ, List.getElem?_cons_zero]; rfl)
          rotate_left 1
          · rfl
          · (intro w hSw; (try dsimp only at hSw); go_simp; try with_reducible rfl)
          rotate_left 1
          · exact fun _ _ _ h => h
          try simp only [Act.put, List.setIfInBounds_toArray, List.set_cons_zero, List.set_cons_succ]
          refine wpAnyH_take (i := 4) (oi := ?_) (v := ?_) ?_ (by kernel_rfl) (by kernel_rfl) (by kernel_rfl) ?_ (Or.inl ⟨?_, ?_⟩) (by assumption) ?_
          rotate_left 2
          · (simp only [List.getElem?_toArray, List.getElem?_cons_succ, List.getElem?_cons_zero]; rfl)
          rotate_left 1
          · rfl
          · (intro w hSw; (try dsimp only at hSw); go_simp; try with_reducible rfl)
          rotate_left 1
          · exact fun _ _ _ h => h
          try simp only [Act.put, List.setIfInBounds_toArray, List.set_cons_zero, List.set_cons_succ]
          refine wpAnyH_take (i := 5) (oi := ?_) (v := ?_) ?_ (by kernel_rfl) (by kernel_rfl) (by kernel_rfl) ?_ (Or.inl ⟨?_, ?_⟩) (by assumption) ?_
          rotate_left 2
          · (simp only [List.getElem?_toArray, List.getElem?_cons_succ, List.getElem?_cons_zero]; rfl)
          rotate_left 1
          · rfl
          · (intro w hSw; (try dsimp only at hSw); go_simp; try with_reducible rfl)
          rotate_left 1
          · exact fun _ _ _ h => h
          try simp only [Act.put, List.setIfInBounds_toArray, List.set_cons_zero, List.set_cons_succ]
          refine wpAnyH_take (i := 6) (oi := ?_) (v := ?_) ?_ (by kernel_rfl) (by kernel_rfl) (by kernel_rfl) ?_ (Or.inl ⟨?_, ?_⟩) (by assumption) ?_
          rotate_left 2
          · (simp only [List.getElem?_toArray, List.getElem?_cons_succ, List.getElem?_cons_zero]; rfl)
          rotate_left 1
          · rfl
          · (intro w hSw; (try dsimp only at hSw); go_simp; try with_reducible rfl)
          rotate_left 1
          · exact fun _ _ _ h => h
          try simp only [Act.put, List.setIfInBounds_toArray, List.set_cons_zero, List.set_cons_succ]
          refine wpAnyH_take (i := 7) (oi := ?_) (v := ?_) ?_ (by kernel_rfl) (by kernel_rfl) (by kernel_rfl) ?_ (Or.inl ⟨?_, ?_⟩) (by assumption) ?_
          rotate_left 2
          · (simp only [List.getElem?_toArray, List.getElem?_cons_succ, List.getElem?_cons_zero]; rfl)
          rotate_left 1
          · rfl
          · (intro w hSw; (try dsimp only at hSw); go_simp; try with_reducible rfl)
          rotate_left 1
          · exact fun _ _ _ h => h
          try simp only [Act.put, List.setIfInBounds_toArray, List.set_cons_zero, List.set_cons_succ]
          refine wpAnyH_take (i := 8) (oi := ?_) (v := ?_) ?_ (by kernel_rfl) (by kernel_rfl) (by kernel_rfl) ?_ (Or.inl ⟨?_, ?_⟩) (by assumption) ?_
          rotate_left 2
          · (simp only [List.getElem?_toArray, List.getElem?_cons_succ, List.getElem?_cons_zero]; rfl)
          rotate_left 1
          · rfl
          · (intro w hSw; (try dsimp only at hSw); go_simp; try with_reducible rfl)
          rotate_left 1
          · exact fun _ _ _ h => h
          try simp only [Act.put, List.setIfInBounds_toArray, List.set_cons_zero, List.set_cons_succ]
          refine wpAnyH_take (i := 9) (oi := ?_) (v := ?_) ?_ (by kernel_rfl) (by kernel_rfl) (by kernel_rfl) ?_ (Or.inl ⟨?_, ?_⟩) (by assumption) ?_
          rotate_left 2
          · (simp only [List.getElem?_toArray, List.getElem?_cons_succ, List.getElem?_cons_zero]; rfl)
          rotate_left 1
          · rfl
          · (intro w hSw; (try dsimp only at hSw); go_simp; try with_reducible rfl)
          rotate_left 1
          · exact fun _ _ _ h => h
          try simp only [Act.put, List.setIfInBounds_toArray, List.set_cons_zero, List.set_cons_succ]
          refine wpAnyH_take (i := 10) (oi := ?_) (v := ?_) ?_ (by kernel_rfl) (by kernel_rfl) (by kernel_rfl) ?_ (Or.inl ⟨?_, ?_⟩) (by assumption) ?_
          rotate_left 2
          · (simp only [List.getElem?_toArray, List.getElem?_cons_succ, List.getElem?_cons_zero]; rfl)
          rotate_left 1
          · rfl
          · (intro w hSw; (try dsimp only at hSw); go_simp; try with_reducible rfl)
          rotate_left 1
          · exact fun _ _ _ h => h
          try simp only [Act.put, List.setIfInBounds_toArray, List.set_cons_zero, List.set_cons_succ]
          refine wpAnyH_take (i := 11) (oi := ?_) (v := ?_) ?_ (by kernel_rfl) (by kernel_rfl) (by kernel_rfl) ?_ (Or.inl ⟨?_, ?_⟩) (by assumption) ?_
          rotate_left 2
          · (simp only [List.getElem?_toArray, List.getElem?_cons_succ, List.getElem?_cons_zero]; rfl)
          rotate_left 1
          · rfl
          · (intro w hSw; (try dsimp only at hSw); go_simp; try with_reducible rfl)
          rotate_left 1
          · exact fun _ _ _ h => h
          try simp only [Act.put, List.setIfInBounds_toArray, List.set_cons_zero, List.set_cons_succ]
          refine wpAnyH_done (by kernel_rfl) ?_ _
          go_wp2
          go_meet
          exact ⟨by rw [h2.out.1], by rw [h2.out.2], rfl⟩
        · have e1 := HM.out.2.2.1
          have e2 := HM.out.2.2.2
          rw [Int.min_eq_right (by omega)] at e1
          rw [Int.max_eq_left (by omega)] at e2
          have h2 : Hid ((fr : Int) = y1' ∧ (te : Int) = x1) := hide ⟨e1, e2⟩
          have h3 : y1' < x1 := by omega
          have h4 : ¬ x1 < y1' := by omega
          clear e1 e2
          refine wp_region_held_drew (S := fun w' => w'.cell? ⟨g, 1, none⟩ = some (.int .i64 x1) ∧ w'.cell? ⟨h, 1, none⟩ = some (.int .i64 y1')) (by kernel_rfl) (by exact ⟨k1, m1⟩) (fun hHeld => ?_)
          refine wpAnyH_take (i := 0) (oi := ?_) (v := ?_) ?_ (by kernel_rfl) (by kernel_rfl) (by kernel_rfl) ?_ (Or.inl ⟨?_, ?_⟩) (by assumption) ?_
          rotate_left 2
          · (simp only [List.getElem?_toArray, List.getElem?_cons_succ, List.getElem?_cons_zero]; rfl)
          rotate_left 1
          · rfl
          · (intro w hSw; (try dsimp only at hSw); go_simp; try with_reducible rfl)
          rotate_left 1
          · exact fun _ _ _ h => h
          try simp only [Act.put, List.setIfInBounds_toArray, List.set_cons_zero, List.set_cons_succ]
          refine wpAnyH_take (i := 1) (oi := ?_) (v := ?_) ?_ (by kernel_rfl) (by kernel_rfl) (by kernel_rfl) ?_ (Or.inl ⟨?_, ?_⟩) (by assumption) ?_
          rotate_left 2
          · (simp only [List.getElem?_toArray, List.getElem?_cons_succ, List.getElem?_cons_zero]; rfl)
          rotate_left 1
          · rfl
          · (intro w hSw; (try dsimp only at hSw); go_simp; try with_reducible rfl)
          rotate_left 1
          · exact fun _ _ _ h => h
          try simp only [Act.put, List.setIfInBounds_toArray, List.set_cons_zero, List.set_cons_succ]
          refine wpAnyH_take (i := 2) (oi := ?_) (v := ?_) ?_ (by kernel_rfl) (by kernel_rfl) (by kernel_rfl) ?_ (Or.inl ⟨?_, ?_⟩) (by assumption) ?_
          rotate_left 2
          · (simp only [List.getElem?_toArray, List.getElem?_cons_succ, List.getElem?_cons_zero]; rfl)
          rotate_left 1
          · rfl
          · (intro w hSw; (try dsimp only at hSw); go_simp; try with_reducible rfl)
          rotate_left 1
          · exact fun _ _ _ h => h
          try simp only [Act.put, List.setIfInBounds_toArray, List.set_cons_zero, List.set_cons_succ]
          refine wpAnyH_take (i := 3) (oi := ?_) (v := ?_) ?_ (by kernel_rfl) (by kernel_rfl) (by kernel_rfl) ?_ (Or.inl ⟨?_, ?_⟩) (by assumption) ?_
          rotate_left 2
          · (simp only [List.getElem?_toArray, List.getElem?_cons_succ, List.getElem?_cons_zero]; rfl)
          rotate_left 1
          · rfl
          · (intro w hSw; (try dsimp only at hSw); go_simp; try with_reducible rfl)
          rotate_left 1
          · exact fun _ _ _ h => h
          try simp only [Act.put, List.setIfInBounds_toArray, List.set_cons_zero, List.set_cons_succ]
          refine wpAnyH_take (i := 4) (oi := ?_) (v := ?_) ?_ (by kernel_rfl) (by kernel_rfl) (by kernel_rfl) ?_ (Or.inl ⟨?_, ?_⟩) (by assumption) ?_
          rotate_left 2
          · (simp only [List.getElem?_toArray, List.getElem?_cons_succ, List.getElem?_cons_zero]; rfl)
          rotate_left 1
          · rfl
          · (intro w hSw; (try dsimp only at hSw); go_simp; try with_reducible rfl)
          rotate_left 1
          · exact fun _ _ _ h => h
          try simp only [Act.put, List.setIfInBounds_toArray, List.set_cons_zero, List.set_cons_succ]
          refine wpAnyH_take (i := 5) (oi := ?_) (v := ?_) ?_ (by kernel_rfl) (by kernel_rfl) (by kernel_rfl) ?_ (Or.inl ⟨?_, ?_⟩) (by assumption) ?_
          rotate_left 2
          · (simp only [List.getElem?_toArray, List.getElem?_cons_succ, List.getElem?_cons_zero]; rfl)
          rotate_left 1
          · rfl
          · (intro w hSw; (try dsimp only at hSw); go_simp; try with_reducible rfl)
          rotate_left 1
          · exact fun _ _ _ h => h
          try simp only [Act.put, List.setIfInBounds_toArray, List.set_cons_zero, List.set_cons_succ]
          refine wpAnyH_take (i := 6) (oi := ?_) (v := ?_) ?_ (by kernel_rfl) (by kernel_rfl) (by kernel_rfl) ?_ (Or.inl ⟨?_, ?_⟩) (by assumption) ?_
          rotate_left 2
          · (simp only [List.getElem?_toArray, List.getElem?_cons_succ, List.getElem?_cons_zero]; rfl)
          rotate_left 1
          · rfl
          · (intro w hSw; (try dsimp only at hSw); go_simp; try with_reducible rfl)
          rotate_left 1
          · exact fun _ _ _ h => h
          try simp only [Act.put, List.setIfInBounds_toArray, List.set_cons_zero, List.set_cons_succ]
          refine wpAnyH_take (i := 7) (oi := ?_) (v := ?_) ?_ (by kernel_rfl) (by kernel_rfl) (by kernel_rfl) ?_ (Or.inl ⟨?_, ?_⟩) (by assumption) ?_
          rotate_left 2
          · (simp only [List.getElem?_toArray, List.getElem?_cons_succ, List.getElem?_cons_zero]; rfl)
          rotate_left 1
          · rfl
          · (intro w hSw; (try dsimp only at hSw); go_simp; try with_reducible rfl)
          rotate_left 1
          · exact fun _ _ _ h => h
          try simp only [Act.put, List.setIfInBounds_toArray, List.set_cons_zero, List.set_cons_succ]
          refine wpAnyH_take (i := 8) (oi := ?_) (v := ?_) ?_ (by kernel_rfl) (by kernel_rfl) (by kernel_rfl) ?_ (Or.inl ⟨?_, ?_⟩) (by assumption) ?_
          rotate_left 2
          · (simp only [List.getElem?_toArray, List.getElem?_cons_succ, List.getElem?_cons_zero]; rfl)
          rotate_left 1
          · rfl
          · (intro w hSw; (try dsimp only at hSw); go_simp; try with_reducible rfl)
          rotate_left 1
          · exact fun _ _ _ h => h
          try simp only [Act.put, List.setIfInBounds_toArray, List.set_cons_zero, List.set_cons_succ]
          refine wpAnyH_take (i := 9) (oi := ?_) (v := ?_) ?_ (by kernel_rfl) (by kernel_rfl) (by kernel_rfl) ?_ (Or.inl ⟨?_, ?_⟩) (by assumption) ?_
          rotate_left 2
          · (simp only [List.getElem?_toArray, List.getElem?_cons_succ, List.getElem?_cons_zero]; rfl)
          rotate_left 1
          · rfl
          · (intro w hSw; (try dsimp only at hSw); go_simp; try with_reducible rfl)
          rotate_left 1
          · exact fun _ _ _ h => h
          try simp only [Act.put, List.setIfInBounds_toArray, List.set_cons_zero, List.set_cons_succ]
          refine wpAnyH_take (i := 10) (oi := ?_) (v := ?_) ?_ (by kernel_rfl) (by kernel_rfl) (by kernel_rfl) ?_ (Or.inl ⟨?_, ?_⟩) (by assumption) ?_
          rotate_left 2
          · (simp only [List.getElem?_toArray, List.getElem?_cons_succ, List.getElem?_cons_zero]; rfl)
          rotate_left 1
          · rfl
          · (intro w hSw; (try dsimp only at hSw); go_simp; try with_reducible rfl)
          rotate_left 1
          · exact fun _ _ _ h => h
          try simp only [Act.put, List.setIfInBounds_toArray, List.set_cons_zero, List.set_cons_succ]
          refine wpAnyH_take (i := 11) (oi := ?_) (v := ?_) ?_ (by kernel_rfl) (by kernel_rfl) (by kernel_rfl) ?_ (Or.inl ⟨?_, ?_⟩) (by assumption) ?_
          rotate_left 2
          · (simp only [List.getElem?_toArray, List.getElem?_cons_succ, List.getElem?_cons_zero]; rfl)
          rotate_left 1
          · rfl
          · (intro w hSw; (try dsimp only at hSw); go_simp; try with_reducible rfl)
          rotate_left 1
          · exact fun _ _ _ h => h
          try simp only [Act.put, List.setIfInBounds_toArray, List.set_cons_zero, List.set_cons_succ]
          refine wpAnyH_done (by kernel_rfl) ?_ _
          go_wp2
          go_meet
          exact ⟨by rw [h2.out.1], by rw [h2.out.2], rfl⟩
      case rest =>
      obtain ⟨rfl, rfl, rfl⟩ := hcut
      obtain ⟨w5, hw5⟩ : ∃ w5, w5 = wc.drew.drew := ⟨_, rfl⟩
      have hbn5 : Below w4.heap.size w4 w5 := by rw [hw5]; exact below_dr (below_dr hbn)
      have cv5 : Blk w5 w.heap.size 40 #[.int .i64 wd, .int .i64 hi, .slice A ls.length cp, .int .i64 r, .int .i64 c, .bool p, .bool au] := by rw [hw5]; exact cv
      have hv5 := hv4.below hbn5
      have hb5 := hb4.trans (hbn5.mono hb4.size)
      have hz5 := hb5.size
      have hsl5 := hv5.slc
      obtain ⟨A3, c3, rfl, _, _, _⟩ := hsl5.open_
      have hbl := boxT_len ls fr te tp (en + 1)
      have e9 : (((boxT ls fr te tp (en + 1)).length : Int) != (en : Int) - tp + 1) = false := by have := HRNG.out.1; rw [hbl]; simp; omega
      rw [← hw5]
      have HSB := hide hsl5
      have HBL := hide hbl
      clear hw5 k0 k1 m0 m1 bg bh cv cq cs hbn hv4 hv5 hsl5 hbl HM hgh hg4 hh4
      have hr1 : tp ≤ en := HRNG.out.1
      have hr2 : en < 1024 := by have := HRNG.out; omega
      have HBA := hide (fun k hk => boxT_at ls fr te tp (en + 1) k hk)
      generalize boxT ls fr te tp (en + 1) = bx at *
      go_wp2
      go_loopw [14] (fun i wr => ∃ n : Nat, tp ≤ n ∧ n ≤ en + 1 ∧ i = .int .i64 n ∧ Below w5.heap.size w5 wr) (fun i _ => en + 1 - (intOf i).toNat)
      case atStart => exact ⟨tp, Nat.le_refl _, by omega, rfl, Below.refl _ _⟩
      case round =>
        obtain ⟨n, hn1, hn2, rfl, hbr⟩ := hrel
        have hzr := hbr.size
        have hRN := HRNG.out
        by_cases hlt : n ≤ en
        · have hnl : n < ls.length := by omega
          have hni : (n : Int) ≤ en := by omega
          have hnj : (n : Int) < ls.length := by omega
          obtain ⟨j, hj⟩ : ∃ j, n = tp + j := ⟨n - tp, by omega⟩
          have hjb : j < bx.length := by have := HBL.out; omega
          have hjn : j < en + 1 - tp := by omega
          have e7 : (n : Int) - tp = j := by omega
          obtain ⟨ab, off, v9, rfl, _, z0, _, hv⟩ := line_at (HX.out _ hb5).slb hnl
          obtain ⟨A2, c2, rfl, _, _, _⟩ := hv.open_
          have hbx := HBA.out j hjn
          rw [← hj, lnR_at ls hnl] at hbx
          have hrl := HR.out.line ls[n] (List.getElem_mem _)
          obtain ⟨l, hl⟩ : ∃ l, ls[n].1 = l := ⟨_, rfl⟩
          rw [hl] at hv z0 hbx hrl
          have hte : te < l.length := by have := HRNG.out; omega
          have hlw : l.length ≤ 1024 := by have := HR.out.w2; omega
          have hto : toF l te + 1 ≤ l.length := by
            unfold toF
            split
            · rename_i h2; have := ((sound_kinds hrl.2).1 te hte h2).2; omega
            · omega
          have hwe := want_eq hrl.2 n fr te HRNG.out.2.2.1 hte
          have hcl := cut_le l te
          have HSH := hide (sound_short hrl.2)
          have HCU := hide (fun k (hk : k < l.length) hi ho => cut_step hrl.2 (te := te) hk hto hte hi ho)
          have HCS := hide (fun k (hk : k < l.length) hi ho => cut_stop hrl.2 (te := te) hk hte hi ho)
          have HC0 := hide (cut_start l te hto)
          have HWE := hide hwe
          have HWL := hide (fun k hk => want_len HSH.out n fr te k hk)
          have HBX := hide hbx
          have hbb := hbr
          have v0 := (cv5.same hbb).cell 0
          have v1 := (cv5.same hbb).cell 1
          have v2 := (cv5.same hbb).cell 2
          simp only [List.getElem?_toArray, List.getElem?_cons_succ, List.getElem?_cons_zero] at v0 v1 v2
          have hab := World.block_lt_of_cell? w5 _ z0
          simp only at hab
          have q0 := (hbr.cell (p := ⟨ab, off + n * 2, none⟩) hab).trans z0
          have hc0 : Own RCell 51 [] w5.heap.size (wr.alloc (.cells #[] 51)) (.slice (some ⟨wr.heap.size, 0, none⟩) 0 0) [] := Own.lit (xs := []) (by decide) rfl hzr rfl (by simp [maxLen])
          have hvr := (hv.mono (Keep.below (S := fun b => b < w5.heap.size) hbr) (Keep.below (S := fun b => b < w5.heap.size) hbr))
          have hva := hvr.mono (Keep.alloc (fun b => b < w5.heap.size) wr (.cells #[] 51)) (Keep.alloc (fun b => b < w5.heap.size) wr (.cells #[] 51))
          have hba := hbr.alloc hzr (.cells #[] 51)
          have t2 := (cv5.same hba).cell 2
          simp only [List.getElem?_toArray, List.getElem?_cons_succ, List.getElem?_cons_zero] at t2
          have t0 := (hba.cell (p := ⟨ab, off + n * 2, none⟩) hab).trans z0
          clear hba
          clear hwe hbx hrl z0 hl hlt hvr hbb hj
          go_upto_block 2 with (at_builtin; refine wpList_appg rfl (.tmp 75) (.tmp 81) 52 rfl RCell 51 [] w5.heap.size 32 _ Tryd.underlying52 cell_info rfl (by decide) (by decide) _ _ rfl hc0 _ _ _ _ rfl hva (fun _ h => .inl h) (by simp; omega) (by simp; omega) ?_; intro v6 w6 hv6 hst6 hg6 hob6; rw [List.nil_append] at hv6; have hb6 := hbr.trans (((Step.alloc1 w5.heap.size [51] wr (.cells #[] 51)).trans hst6).below hzr); obtain ⟨A6, c6, hve, hc61, hc62, _⟩ := hv6.slc.open_; subst hve)
          clear hc0 hva hst6 hg6 hob6 v0 v1 v2 q0 t2 t0
          have hs6 := hv6.slc
          go_cut [15, 16] from 70 to 162 (fun s kk wx => s = .slice A6 (cutF l te) c6 ∧ w6 = wx)
          case first =>
            go_wp2
            go_loopw [15, 16] (fun s kk wq => ∃ m : Nat, s = .slice A6 m c6 ∧ kk = .int .i64 ((m : Int) - 1) ∧ m ≤ l.length ∧ usedF (l.take (min m (toF l te + 1))) = cutF l te ∧ w6 = wq) (fun s kk _ => (intOf kk + 1).toNat)
            case atStart => exact ⟨l.length, rfl, rfl, Nat.le_refl _, HC0.out, rfl⟩
            case round =>
              obtain ⟨m, rfl, rfl, hm, hi, rfl⟩ := hrel
              rcases Nat.eq_zero_or_pos m with rfl | hp
              · have HE := hide (cut_none hi)
                have q6 : ¬ (0 : Int) ≤ ((0 : Nat) : Int) - 1 := by omega
                clear hi
                go_wp2
                go_meet
                exact ⟨by rw [← HE.out], rfl⟩
              · obtain ⟨k, rfl⟩ : ∃ k, m = k + 1 := ⟨m - 1, by omega⟩
                have hkl : k < l.length := by omega
                obtain ⟨cb, co, v11, hA3, _, q3, _, _, _⟩ := cell_at hs6.slb (k := k) hkl
                subst hA3
                have kk := kindI_at l k hkl
                have e0 : ((k + 1 : Nat) : Int) - 1 = k := by omega
                have hk0 : (0 : Int) ≤ (k : Int) := by omega
                have hki : (k : Int) < ((k + 1 : Nat) : Int) := by omega
                have hkc : k ≤ c6 := by omega
                by_cases h0 : l[k].1 = 0
                · have e1 : (l[k].1 == 0) = true := by simpa using h0
                  have ho : offB l te k := .inl (by rw [kk]; exact h0)
                  clear h0 kk
                  have HI2 := hide (HCU.out k hkl hi (ho))
                  clear hi
                  go_wp2
                  go_roundw
                  case rel => exact ⟨k, rfl, by go_num, by omega, HI2.out, trivial⟩
                  case measure => simp [intOf]
                · have e1 : (l[k].1 == 0) = false := by simpa using h0
                  by_cases h1 : (te : Int) < k
                  · have h1' : te < k := by omega
                    by_cases h3 : l[k].1 = 3
                    · have e3 : (l[k].1 == 3) = true := by simpa using h3
                      by_cases h4 : k = te + 1
                      · have e4 : ((k : Int) == (te : Int) + 1) = true := by simp; omega
                        have ho : ¬ offB l te k := by rintro (h | ⟨_, h⟩); (rw [kk] at h; exact h0 h); exact h ⟨by rw [kk]; exact h3, h4⟩
                        clear h0 h3 h4 kk
                        have HE := hide (HCS.out k hkl hi (ho))
                        clear hi
                        go_wp2
                        go_meet
                        exact ⟨by rw [HE.out], rfl⟩
                      · have e4 : ((k : Int) == (te : Int) + 1) = false := by rw [beq_eq_false_iff_ne]; omega
                        have ho : offB l te k := .inr ⟨h1', fun h => h4 h.2⟩
                        clear h0 h3 h4 kk
                        have HI2 := hide (HCU.out k hkl hi (ho))
                        clear hi
                        go_wp2
                        go_roundw
                        case rel => exact ⟨k, rfl, by go_num, by omega, HI2.out, trivial⟩
                        case measure => simp [intOf]
                    · have e3 : (l[k].1 == 3) = false := by simpa using h3
                      have ho : offB l te k := .inr ⟨h1', fun h => h3 (by rw [← kk]; exact h.1)⟩
                      clear h0 h3 kk
                      have HI2 := hide (HCU.out k hkl hi (ho))
                      clear hi
                      go_wp2
                      go_roundw
                      case rel => exact ⟨k, rfl, by go_num, by omega, HI2.out, trivial⟩
                      case measure => simp [intOf]
                  · have h1' : ¬ te < k := by omega
                    have ho : ¬ offB l te k := by rintro (h | ⟨h, _⟩); (rw [kk] at h; exact h0 h); exact h1' h
                    clear h0 kk
                    have HE := hide (HCS.out k hkl hi (ho))
                    clear hi
                    go_wp2
                    go_meet
                    exact ⟨by rw [HE.out], rfl⟩
          case rest =>
          obtain ⟨rfl, rfl⟩ := hcut
          have hU := cut_le l te
          obtain ⟨U, hUd⟩ : ∃ U, U = cutF l te := ⟨_, rfl⟩
          have hsnoc : ∀ k (hk : k < cutF l te) (hkl : k < l.length), wantF l n fr te (k + 1) = wantF l n fr te k ++ (if bothB (l.take (cutF l te)) n k n fr n te = true then plOf l[k] else []) := fun k hk _ => want_snoc l n fr te k hk
          have hwl := HWL.out
          have hwe := HWE.out
          rw [← hUd] at hU hwe hwl hsnoc
          have HWa := hide hwe
          have HWb := hide hwl
          have HWc := hide hsnoc
          rw [← hUd]
          clear HCU HCS HC0 HWE HWL hcl hwe hwl hsnoc hUd hs6
          go_wp2
          go_loopw [17, 18] (fun out kk wq => ∃ k : Nat, k ≤ U ∧ kk = .int .i64 k ∧ Own (Rep.int .i32) 21 [] w5.heap.size wq out (wantF l n fr te k) ∧ Own RCell 51 [] w5.heap.size wq (.slice A6 l.length c6) l ∧ Below w5.heap.size w5 wq) (fun _ kk _ => U - (intOf kk).toNat)
          case atStart => exact ⟨0, Nat.zero_le _, rfl, by have := Own.nil_ (Rep.int .i32) 21 [] w5.heap.size w6 (by decide); simpa [wantF, rowR] using this, hv6, hb6⟩
          case round =>
            obtain ⟨k, hk, rfl, hout, hcc, hbq⟩ := hrel
            have hzq := hbq.size
            have hcf := hcc.slc.front (k := U) hU.2
            have hcx := hcf.mono (So' := fun b => b < wr.heap.size) (Si' := fun b => b < wr.heap.size) (Keep.weaken fun b h => h.1) (Keep.lt _ _)
            have htl : (l.take U).length = U := by rw [List.length_take]; omega
            have hwn := HWb.out k hk
            by_cases hlt2 : k < U
            · have hkl : k < l.length := by omega
              have hki : (k : Int) < U := by omega
              obtain ⟨cb, co, v12, hA3, _, q3, q4, _, htx⟩ := cell_at hcc.slc.slb (k := k) hkl
              subst hA3
              obtain ⟨A4, c4, rfl, _, _, _⟩ := htx.open_
              have hsc := HWc.out k hlt2 hkl
              have hsk := HSH.out l[k] (List.getElem_mem _)
              have hBk := Both_ok _ (fun b => b < w.heap.size) _ (l.take U) n k n fr n te wr hcx (by omega)
              have hl3 := World.block_lt_of_cell? _ _ q3
              simp only at hl3
              generalize bothB (l.take U) n k n fr n te = bb at *
              clear hcf hcx htx
              cases bb with
              | false =>
                rw [if_neg (by decide), List.append_nil] at hsc
                have HS2 := hide hsc
                have HBK := hide hBk
                clear hsc hBk
                go_wp2_with fail
                refine HBK.out.mono ?_
                rintro e w7 ⟨rfl, hb7⟩
                go_wp2
                go_roundw
                case rel => exact ⟨k + 1, by omega, by go_num, by rw [HS2.out]; exact hout.below hb7, hcc.below hb7, hbq.trans (hb7.mono hzq)⟩
                case measure => simp [intOf]; omega
              | true =>
                rw [if_pos rfl] at hsc
                have HBK := hide hBk
                clear hBk
                by_cases hk0 : l[k].1 = 0
                · have e1 : (l[k].1 == 0) = true := by simpa using hk0
                  have hpl : plOf l[k] = [32] ++ l[k].2 := by unfold plOf; rw [if_pos hk0]
                  rw [hpl] at hsc
                  have HS2 := hide hsc
                  clear hsc hpl hk0
                  go_wp2_with fail
                  refine HBK.out.mono ?_
                  rintro e w7 ⟨rfl, hb7⟩
                  have hb7' := hbq.trans (hb7.mono hzq)
                  have hz7 := hb7'.size
                  have q3 := (hb7.cell (p := ⟨cb, co + k * 2, none⟩) hl3).trans q3
                  have hou7 := (hout.below hb7).alloc (.cells #[.int .i32 32] 21)
                  have hcc7 := (hcc.below hb7).alloc (.cells #[.int .i32 32] 21)
                  have hone := (own_i32 w7 [32] (by decide) 0 w7.heap.size 1 (Nat.zero_le _) rfl rfl (by simp [maxLen])).slc.flat_any (Flat.int .i32) (fun _ => False)
                  simp only [List.map_cons, List.map_nil] at hone
                  have hba := hb7'.alloc hz7 (.cells #[.int .i32 32] 21)
                  go_upto_region 26 with (at_builtin; refine wpList_appg rfl (.tmp 144) (.tmp 145) 22 rfl (Rep.int .i32) 21 [] w5.heap.size 4 _ Tryd.underlying22 i32_info rfl (by decide) (by decide) _ _ rfl hou7 _ _ _ _ rfl hone (fun _ h => h.elim) (by simp only [List.length_singleton]; omega) (by simp; omega) ?_; intro v8 w8 hv8 hst8 hg8 hob8; have hb8 := hba.trans (hst8.below hba.size); have hc8 := hcc7.step hst8 (by decide) (by simp); have hz8 := hb8.size; obtain ⟨cb', co', v13, hA5, _, _, q4, _, htx8⟩ := cell_at hc8.slc.slb (k := k) hkl; obtain ⟨rfl, rfl⟩ : cb = cb' ∧ co = co' := (by cases hA5; exact ⟨rfl, rfl⟩); obtain ⟨A5, c5, rfl, _, _, _⟩ := htx8.open_)
                  go_wp2_with (at_builtin; refine wpList_appg rfl (.tmp 147) (.tmp 152) 22 rfl (Rep.int .i32) 21 [] w5.heap.size 4 _ Tryd.underlying22 i32_info rfl (by decide) (by decide) _ _ rfl hv8 _ _ _ _ rfl (htx8.flat_any (Flat.int .i32) (fun _ => False)) (fun _ h => h.elim) (by rw [List.length_append, List.length_singleton]; omega) hz8 ?_; intro v10 w10 hv10 hst10 hg10 hob10)
                  go_roundw
                  case rel => exact ⟨k + 1, by omega, by go_num, by rw [HS2.out, ← List.append_assoc]; exact hv10, hc8.step hst10 (by decide) (by simp), hb8.trans (hst10.below hz8)⟩
                  case measure => simp [intOf]; omega
                · have e1 : (l[k].1 == 0) = false := by simpa using hk0
                  have hpl : plOf l[k] = l[k].2 := by unfold plOf; rw [if_neg hk0]; rfl
                  rw [hpl] at hsc
                  have HS2 := hide hsc
                  clear hsc hpl hk0
                  go_wp2_with fail
                  refine HBK.out.mono ?_
                  rintro e w7 ⟨rfl, hb7⟩
                  have hb7' := hbq.trans (hb7.mono hzq)
                  have hz7 := hb7'.size
                  have hou7 := hout.below hb7
                  have hc7 := hcc.below hb7
                  obtain ⟨cb', co', v13, hA5, _, q3, q4, _, htx8⟩ := cell_at hc7.slc.slb (k := k) hkl; obtain ⟨rfl, rfl⟩ : cb = cb' ∧ co = co' := (by cases hA5; exact ⟨rfl, rfl⟩); obtain ⟨A5, c5, rfl, _, _, _⟩ := htx8.open_
                  go_wp2_with (at_builtin; refine wpList_appg rfl (.tmp 147) (.tmp 152) 22 rfl (Rep.int .i32) 21 [] w5.heap.size 4 _ Tryd.underlying22 i32_info rfl (by decide) (by decide) _ _ rfl hou7 _ _ _ _ rfl (htx8.flat_any (Flat.int .i32) (fun _ => False)) (fun _ h => h.elim) (by omega) hz7 ?_; intro v10 w10 hv10 hst10 hg10 hob10)
                  go_roundw
                  case rel => exact ⟨k + 1, by omega, by go_num, by rw [HS2.out]; exact hv10, hc7.step hst10 (by decide) (by simp), hb7'.trans (hst10.below hz7)⟩
                  case measure => simp [intOf]; omega
            · obtain rfl : k = U := by omega
              have hki : ¬ (k : Int) < k := by omega
              rw [HWa.out] at hout
              have hrb := (HSB.out.mono (Keep.lt _ _) (Keep.lt _ _)).mono (Keep.below (S := fun b => b < w5.heap.size) hbq) (Keep.below (S := fun b => b < w5.heap.size) hbq)
              obtain ⟨rb, ro, u, hA9, _, hE, hcq⟩ := hrb.slb.at_ (k := j) (x := rowX l fr te) HBX.out (by decide)
              subst hA9
              obtain ⟨s9, rfl, hs9⟩ := hE
              have q9 := hcq 0 (by decide)
              have esz : RRow.sz = 1 := rfl
              rw [esz] at q9
              simp only [Nat.mul_one, Nat.add_zero, List.getElem?_cons_zero] at q9
              obtain ⟨A9, c9, rfl, _, _, _⟩ := hs9.open_
              have hsm := Same_ok _ _ _ _ _ _ _ _ _ hs9 hout.islc
              rw [decide_eq_true rfl] at hsm
              have HSM := hide hsm
              have hjb' : (j : Int) < bx.length := by omega
              clear hrb hcq hsm hcf hcx
              go_wp2_with fail
              refine HSM.out.mono ?_
              rintro e w7 ⟨rfl, q, rfl⟩
              go_wp2
              go_roundw
              case rel => exact ⟨n + 1, by omega, by omega, by go_num, below_drewN hbq q⟩
              case measure => simp [intOf]; omega
        · have hne : ¬ (n : Int) ≤ en := by omega
          go_wp2
          go_ret
          exact ⟨rfl, hb5.trans (hbr.mono hz5)⟩
end Go.Proofs.YtejhaepgbfngcaaDoor
