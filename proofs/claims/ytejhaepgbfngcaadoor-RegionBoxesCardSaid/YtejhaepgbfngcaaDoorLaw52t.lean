/-
  The law on what is marked between two places: the walk returns true and leaves the memory that was there as it was.
-/
import Derived.Test.YtejhaepgbfngcaaDoorReg10
namespace Go.Proofs.YtejhaepgbfngcaaDoor
open Go.RowKit
set_option linter.unusedVariables false
set_option linter.unusedSimpArgs false

theorem alloc_f (W : World) (t : TypeId) (cs : Array Value) : ∃ g W', W' = W.alloc (.cells cs t) ∧ g = W.heap.size ∧ Blk W' g t cs ∧ Below W.heap.size W W' :=
  ⟨_, _, rfl, rfl, Blk.new W t cs, (Below.refl _ W).alloc (Nat.le_refl _) _⟩
theorem store2_f {W : World} {g : Nat} {t : TypeId} {a b : Value} (h : Blk W g t #[a, b]) (u v : Value) : ∃ W', W' = (W.setCell ⟨g, 0, none⟩ u).setCell ⟨g, 1, none⟩ v ∧ Blk W' g t #[u, v] ∧ (∀ g' t' cs', g' ≠ g → Blk W g' t' cs' → Blk W' g' t' cs') ∧ (∀ B a, Below B a W → B ≤ g → Below B a W') :=
  ⟨_, rfl, (h.set_ 0 u).set_ 1 v, fun g' t' cs' hne hb => (hb.far (p := ⟨g, 0, none⟩) hne u).far (p := ⟨g, 1, none⟩) hne v, fun B a hb hB => (hb.setCell (p := ⟨g, 0, none⟩) hB u).setCell (p := ⟨g, 1, none⟩) hB v⟩

/-- Whichever place is named first. -/
theorem text_sym {wd hi : Int} {ls : List LineV} (h : RgtV wd hi ls) {a0 a1 b0 b1 r c : Int} {p au : Bool} (hr : rightV ⟨wd, hi, ls, r, c, p, au⟩ = true) {x0 x1 y0 y1 : Nat} (hh : Hel4 wd hi a0 a1 b0 b1 x0 x1 y0 y1) :
    (laterB x0 x1 y0 y1 = true → textF ⟨wd, hi, ls, r, c, p, au⟩ a0 a1 b0 b1 = refT ls y0 y1 x0 x1 (x0 + 1) ∧ textF ⟨wd, hi, ls, r, c, p, au⟩ b0 b1 a0 a1 = refT ls y0 y1 x0 x1 (x0 + 1) ∧ y0 ≤ x0) ∧
    (laterB x0 x1 y0 y1 = false → textF ⟨wd, hi, ls, r, c, p, au⟩ a0 a1 b0 b1 = refT ls x0 x1 y0 y1 (y0 + 1) ∧ textF ⟨wd, hi, ls, r, c, p, au⟩ b0 b1 a0 a1 = refT ls x0 x1 y0 y1 (y0 + 1) ∧ x0 ≤ y0) := by
  have hf := hr
  obtain ⟨g1, g2, g3, g4, e0, e1, e2, e3⟩ := hh
  unfold textF
  have hn : ¬ rightV ⟨wd, hi, ls, r, c, p, au⟩ = false := by rw [hr]; decide
  simp only [if_neg hn]
  rw [e0, e1, e2, e3]
  simp only [Int.toNat_natCast]
  constructor
  · intro hl
    have hl2 := hl
    unfold laterB at hl2
    rw [decide_eq_true_eq] at hl2
    have hl3 : laterB y0 y1 x0 x1 = false := by unfold laterB; rw [decide_eq_false_iff_not]; omega
    rw [if_pos hl, if_neg (by rw [hl3]; decide), ref_text h g1 (by omega) (by omega) (by omega) (by omega)]
    exact ⟨rfl, rfl, by omega⟩
  · intro hl
    have hl2 := hl
    unfold laterB at hl2
    rw [decide_eq_false_iff_not] at hl2
    rw [if_neg (by rw [hl]; decide), ref_text h g2 (by omega) (by omega) (by omega) (by omega)]
    refine ⟨rfl, ?_, by omega⟩
    by_cases he : x0 = y0 ∧ x1 = y1
    · obtain ⟨rfl, rfl⟩ := he
      rw [if_neg (by rw [hl]; decide)]
    · have hl3 : laterB y0 y1 x0 x1 = true := by unfold laterB; rw [decide_eq_true_eq]; omega
      rw [if_pos hl3]

set_option maxRecDepth 4096 in
set_option maxHeartbeats 8000000 in
theorem walkV_RegionTexts (b : Nat → Addr) (cs : Array Value) (v : ViewV) (a0 a1 b0 b1 : Int) (w : World) (hV : VarsA b w) (hm : RView.E (fun b => b < w.heap.size) w cs.toList v) (hok : LinesOk v.lines) :
    Calls Tryd.prog 5 #[.agg cs, .agg #[.int .i64 a0, .int .i64 a1], .agg #[.int .i64 b0, .int .i64 b1]] w fun e w' => e = .returned (.bool true) ∧ Below w.heap.size w w' := by
  obtain ⟨x, hcs, _, _, _, _, hx⟩ := view_open hm
  obtain ⟨wd, hi, ls, r, c, p, au⟩ := v
  obtain ⟨l0⟩ := cs
  simp only at hcs hx hok
  subst hcs
  obtain ⟨A, cp, rfl, _, _, _⟩ := hx.open_
  obtain ⟨W0, hW0⟩ : ∃ W0, W0 = ((w.alloc (.cells #[.int .i64 wd, .int .i64 hi, .slice A ls.length cp, .int .i64 r, .int .i64 c, .bool p, .bool au] 40)).alloc (.cells #[.int .i64 a0, .int .i64 a1] 57)).alloc (.cells #[.int .i64 b0, .int .i64 b1] 57) := ⟨_, rfl⟩
  have hb0 : Below w.heap.size w W0 := by rw [hW0]; exact (((Below.refl _ w).alloc (Nat.le_refl _) _).alloc (by simp) _).alloc (by simp; omega) _
  have hz0 := hb0.size
  have bv : Blk W0 w.heap.size 40 #[.int .i64 wd, .int .i64 hi, .slice A ls.length cp, .int .i64 r, .int .i64 c, .bool p, .bool au] := by rw [hW0]; exact ((Blk.new w 40 #[.int .i64 wd, .int .i64 hi, .slice A ls.length cp, .int .i64 r, .int .i64 c, .bool p, .bool au]).alloc _).alloc _
  have bp : Blk W0 (w.heap.size + 1) 57 #[.int .i64 a0, .int .i64 a1] := by
    rw [hW0]
    have := (Blk.new (w.alloc (.cells #[.int .i64 wd, .int .i64 hi, .slice A ls.length cp, .int .i64 r, .int .i64 c, .bool p, .bool au] 40)) 57 #[.int .i64 a0, .int .i64 a1]).alloc (.cells #[.int .i64 b0, .int .i64 b1] 57)
    simpa using this
  have bs : Blk W0 (w.heap.size + 1 + 1) 57 #[.int .i64 b0, .int .i64 b1] := by
    rw [hW0]
    have := Blk.new ((w.alloc (.cells #[.int .i64 wd, .int .i64 hi, .slice A ls.length cp, .int .i64 r, .int .i64 c, .bool p, .bool au] 40)).alloc (.cells #[.int .i64 a0, .int .i64 a1] 57)) 57 #[.int .i64 b0, .int .i64 b1]
    simpa using this
  have HVV := hide hV
  have HW := hide (fun W (h : Below w.heap.size w W) => works52_ok b W (hV.below h))
  have HX : Hid (∀ W, Below w.heap.size w W → Slc RLine (fun b => b < w.heap.size) (fun b => b < W.heap.size) W (.slice A ls.length cp) ls) := hide (fun W h => (hx.mono (Keep.below (S := fun b => b < w.heap.size) h) (Keep.below (S := fun b => b < w.heap.size) h)).mono (Keep.refl _ _) (Keep.weaken fun b hb => by have := h.size; omega))
  have HG := hide (fun W (h : Below w.heap.size w W) => great52_ok _ _ wd hi r c p au ls W (HX.out W h) hok)
  clear hV hm hok hx
  subst hW0
  go_enter Tryd.func5, Tryd.ntmps5
  skip
  skip
  have y0 := bv.cell 0
  have y1 := bv.cell 1
  have y2 := bv.cell 2
  have y3 := bv.cell 3
  have y4 := bv.cell 4
  have y5 := bv.cell 5
  have y6 := bv.cell 6
  have p0 := bp.cell 0
  have p1 := bp.cell 1
  have s0 := bs.cell 0
  have s1 := bs.cell 1
  simp only [List.getElem?_toArray, List.getElem?_cons_succ, List.getElem?_cons_zero] at y0 y1 y2 y3 y4 y5 y6 p0 p1 s0 s1
  go_wp2_with fail
  refine (HW.out _ hb0).mono ?_
  rintro e w1 ⟨rfl, hc1⟩
  have hb := hb0.trans (hc1.mono hz0)
  have bv := bv.same hc1
  have bp := bp.same hc1
  have bs := bs.same hc1
  have y0 := bv.cell 0
  have y1 := bv.cell 1
  have y2 := bv.cell 2
  have y3 := bv.cell 3
  have y4 := bv.cell 4
  have y5 := bv.cell 5
  have y6 := bv.cell 6
  have p0 := bp.cell 0
  have p1 := bp.cell 1
  have s0 := bs.cell 0
  have s1 := bs.cell 1
  simp only [List.getElem?_toArray, List.getElem?_cons_succ, List.getElem?_cons_zero] at y0 y1 y2 y3 y4 y5 y6 p0 p1 s0 s1
  clear hc1
  go_wp2_with fail
  refine (HG.out _ hb).mono ?_
  rintro e w2 ⟨vg, rfl, ⟨g, rfl, hgr⟩, hc2⟩
  have hb := hb.trans (hc2.mono hb.size)
  have bv := bv.same hc2
  have bp := bp.same hc2
  have bs := bs.same hc2
  have y0 := bv.cell 0
  have y1 := bv.cell 1
  have y2 := bv.cell 2
  have y3 := bv.cell 3
  have y4 := bv.cell 4
  have y5 := bv.cell 5
  have y6 := bv.cell 6
  have p0 := bp.cell 0
  have p1 := bp.cell 1
  have s0 := bs.cell 0
  have s1 := bs.cell 1
  simp only [List.getElem?_toArray, List.getElem?_cons_succ, List.getElem?_cons_zero] at y0 y1 y2 y3 y4 y5 y6 p0 p1 s0 s1
  clear hc2
  cases g with
  | true =>
    clear hgr
    go_wp2_with fail
    refine (HW.out _ hb).mono ?_
    rintro e w3 ⟨rfl, hc3⟩
    go_wp2
    go_ret
    exact ⟨rfl, hb.trans (hc3.mono hb.size)⟩
  | false =>
    have hgs := hgr rfl
    have HLL : Hid (ls.length ≤ 1000000) := hide (by have := hgs.1; omega)
    have HLE : Hid (∀ l ∈ ls, l.1.length ≤ 1000000) := hide (fun l hl => by have := hgs.2 l hl; omega)
    have HT := hide (fun W (h : Below w.heap.size w W) => Text_ok b _ _ wd hi r c p au ls a0 a1 b0 b1 W (HVV.out.below h) (HX.out W h) HLE.out HLL.out)
    have HT2 := hide (fun W (h : Below w.heap.size w W) => Text_ok b _ _ wd hi r c p au ls b0 b1 a0 a1 W (HVV.out.below h) (HX.out W h) HLE.out HLL.out)
    have HRR := hide (fun W (h : Below w.heap.size w W) => rRight43_ok _ _ wd hi r c p au ls W (HX.out W h) HLE.out HLL.out)
    clear hgr hgs
    go_wp2_with fail
    refine (HT.out _ hb).mono ?_
    rintro e w3 ⟨s3, rfl, hv3, hc3⟩
    have hzb := hb.size
    have hb := hb.trans (hc3.mono hb.size)
    have bv := bv.same hc3
    have bp := bp.same hc3
    have bs := bs.same hc3
    have y0 := bv.cell 0
    have y1 := bv.cell 1
    have y2 := bv.cell 2
    have y3 := bv.cell 3
    have y4 := bv.cell 4
    have y5 := bv.cell 5
    have y6 := bv.cell 6
    have p0 := bp.cell 0
    have p1 := bp.cell 1
    have s0 := bs.cell 0
    have s1 := bs.cell 1
    simp only [List.getElem?_toArray, List.getElem?_cons_succ, List.getElem?_cons_zero] at y0 y1 y2 y3 y4 y5 y6 p0 p1 s0 s1
    clear hc3
    go_wp2_with fail
    refine (HRR.out _ hb).mono ?_
    cases hr : rightV ⟨wd, hi, ls, r, c, p, au⟩ with
    | false =>
      have htf : textF ⟨wd, hi, ls, r, c, p, au⟩ a0 a1 b0 b1 = [] := by unfold textF; rw [if_pos hr]
      rw [htf] at hv3
      rintro e w4 ⟨rfl, hc4⟩
      obtain ⟨A3, c3, rfl, _, _, _⟩ := hv3.slc.open_
      simp only [List.length_nil]
      clear hr htf
      go_wp2
      go_ret
      exact ⟨rfl, hb.trans (hc4.mono hb.size)⟩
    | true =>
      have hR := RgtV.of hr
      obtain ⟨x0, x1, y0', y1', hO⟩ := hel4 hR a0 a1 b0 b1
      have hsy := text_sym hR hr hO
      have hHA := fun (w : World) => lheld_ok (.slice A ls.length cp) wd hi r c p au a0 a1 w hR.w1 hR.w2 hR.h1 hR.h2
      have hHB := fun (w : World) => lheld_ok (.slice A ls.length cp) wd hi r c p au b0 b1 w hR.w1 hR.w2 hR.h1 hR.h2
      rw [hO.e0, hO.e1] at hHA
      rw [hO.e2, hO.e3] at hHB
      have HHA := hide hHA
      have HHB := hide hHB
      have HR := hide hR
      have HOR := hide hO
      have HSY := hide hsy
      generalize textF ⟨wd, hi, ls, r, c, p, au⟩ a0 a1 b0 b1 = tx1 at *
      generalize textF ⟨wd, hi, ls, r, c, p, au⟩ b0 b1 a0 a1 = tx2 at *
      rintro e w4 ⟨rfl, hc4⟩
      have hb4 := hb.trans (hc4.mono hb.size)
      have hbn : Below w4.heap.size w4 w4.drew := below_dr (Below.refl _ _)
      have hs4 : w.heap.size + 1 + 1 < w4.heap.size := (bs.same hc4).lt
      have cv : Blk w4.drew w.heap.size 40 #[.int .i64 wd, .int .i64 hi, .slice A ls.length cp, .int .i64 r, .int .i64 c, .bool p, .bool au] := by have := bv.same hc4; exact this
      have cq : Blk w4.drew (w.heap.size + 1) 57 #[.int .i64 a0, .int .i64 a1] := by have := bp.same hc4; exact this
      have cs : Blk w4.drew (w.heap.size + 1 + 1) 57 #[.int .i64 b0, .int .i64 b1] := by have := bs.same hc4; exact this
      have hv4 := hv3.below hc4
      have hz4 : w.heap.size ≤ w2.heap.size := hzb
      clear hr hR hO hsy hHA hHB hc4 bv bp bs hb hv3
      go_upto_region 6 with fail
      go_cut [8, 9] from 27 to 32 (fun s8 s9 wx => ∃ g h, s8 = .pointer (some ⟨g, 0, none⟩) ∧ s9 = .pointer (some ⟨h, 0, none⟩) ∧ Blk wx g 59 #[.int .i64 x0, .int .i64 x1] ∧ Blk wx h 59 #[.int .i64 y0', .int .i64 y1'] ∧ h ≠ g ∧ w4.heap.size ≤ g ∧ w4.heap.size ≤ h ∧ Blk wx w.heap.size 40 #[.int .i64 wd, .int .i64 hi, .slice A ls.length cp, .int .i64 r, .int .i64 c, .bool p, .bool au] ∧ Blk wx (w.heap.size + 1) 57 #[.int .i64 a0, .int .i64 a1] ∧ Blk wx (w.heap.size + 1 + 1) 57 #[.int .i64 b0, .int .i64 b1] ∧ Below w4.heap.size w4 wx)
      case first =>
        refine wp_region_held_drew (S := fun w' => Blk w' w.heap.size 40 #[.int .i64 wd, .int .i64 hi, .slice A ls.length cp, .int .i64 r, .int .i64 c, .bool p, .bool au] ∧ Blk w' (w.heap.size + 1) 57 #[.int .i64 a0, .int .i64 a1] ∧ Blk w' (w.heap.size + 1 + 1) 57 #[.int .i64 b0, .int .i64 b1]) (by kernel_rfl) (by exact ⟨cv, cq, cs⟩) (fun hHeld => ?_)
        generalize w4.drew = wn at *
        refine wpAnyH_take (i := 0) (oi := ?_) (v := ?_) ?_ (by kernel_rfl) (by kernel_rfl) (by kernel_rfl) ?_ (Or.inl ⟨?_, ?_⟩) (by assumption) ?_
        rotate_left 2
        · (simp only [List.getElem?_toArray, List.getElem?_cons_succ, List.getElem?_cons_zero]; rfl)
        rotate_left 1
        · rfl
        · (intro w hSw; obtain ⟨c1, c2, c3⟩ := hSw; have y0 := c1.cell 0; have y1 := c1.cell 1; have y2 := c1.cell 2; have y3 := c1.cell 3; have y4 := c1.cell 4; have y5 := c1.cell 5; have y6 := c1.cell 6; have p0 := c2.cell 0; have p1 := c2.cell 1; have s0 := c3.cell 0; have s1 := c3.cell 1; simp only [List.getElem?_toArray, List.getElem?_cons_succ, List.getElem?_cons_zero] at y0 y1 y2 y3 y4 y5 y6 p0 p1 s0 s1; clear c1 c2 c3; go_simp; try with_reducible rfl)
        rotate_left 1
        · exact fun _ _ _ h => h
        try simp only [Act.put, List.setIfInBounds_toArray, List.set_cons_zero, List.set_cons_succ]
        refine wpAnyH_take (i := 1) (oi := ?_) (v := ?_) ?_ (by kernel_rfl) (by kernel_rfl) (by kernel_rfl) ?_ (Or.inl ⟨?_, ?_⟩) (by assumption) ?_
        rotate_left 2
        · (simp only [List.getElem?_toArray, List.getElem?_cons_succ, List.getElem?_cons_zero]; rfl)
        rotate_left 1
        · rfl
        · (intro w hSw; obtain ⟨c1, c2, c3⟩ := hSw; have y0 := c1.cell 0; have y1 := c1.cell 1; have y2 := c1.cell 2; have y3 := c1.cell 3; have y4 := c1.cell 4; have y5 := c1.cell 5; have y6 := c1.cell 6; have p0 := c2.cell 0; have p1 := c2.cell 1; have s0 := c3.cell 0; have s1 := c3.cell 1; simp only [List.getElem?_toArray, List.getElem?_cons_succ, List.getElem?_cons_zero] at y0 y1 y2 y3 y4 y5 y6 p0 p1 s0 s1; clear c1 c2 c3; go_simp; try with_reducible rfl)
        rotate_left 1
        · exact fun _ _ _ h => h
        try simp only [Act.put, List.setIfInBounds_toArray, List.set_cons_zero, List.set_cons_succ]
        refine wpAnyH_take (i := 3) (oi := ?_) (v := ?_) ?_ (by kernel_rfl) (by kernel_rfl) (by kernel_rfl) ?_ (Or.inl ⟨?_, ?_⟩) (by assumption) ?_
        rotate_left 2
        · (simp only [List.getElem?_toArray, List.getElem?_cons_succ, List.getElem?_cons_zero]; rfl)
        rotate_left 1
        · rfl
        · (intro w hSw; obtain ⟨c1, c2, c3⟩ := hSw; have y0 := c1.cell 0; have y1 := c1.cell 1; have y2 := c1.cell 2; have y3 := c1.cell 3; have y4 := c1.cell 4; have y5 := c1.cell 5; have y6 := c1.cell 6; have p0 := c2.cell 0; have p1 := c2.cell 1; have s0 := c3.cell 0; have s1 := c3.cell 1; simp only [List.getElem?_toArray, List.getElem?_cons_succ, List.getElem?_cons_zero] at y0 y1 y2 y3 y4 y5 y6 p0 p1 s0 s1; clear c1 c2 c3; go_simp; try with_reducible rfl)
        rotate_left 1
        · exact fun _ _ _ h => h
        try simp only [Act.put, List.setIfInBounds_toArray, List.set_cons_zero, List.set_cons_succ]
        refine wpAnyH_take (i := 4) (oi := ?_) (v := ?_) ?_ (by kernel_rfl) (by kernel_rfl) (by kernel_rfl) ?_ (Or.inl ⟨?_, ?_⟩) (by assumption) ?_
        rotate_left 2
        · (simp only [List.getElem?_toArray, List.getElem?_cons_succ, List.getElem?_cons_zero]; rfl)
        rotate_left 1
        · rfl
        · (intro w hSw; obtain ⟨c1, c2, c3⟩ := hSw; have y0 := c1.cell 0; have y1 := c1.cell 1; have y2 := c1.cell 2; have y3 := c1.cell 3; have y4 := c1.cell 4; have y5 := c1.cell 5; have y6 := c1.cell 6; have p0 := c2.cell 0; have p1 := c2.cell 1; have s0 := c3.cell 0; have s1 := c3.cell 1; simp only [List.getElem?_toArray, List.getElem?_cons_succ, List.getElem?_cons_zero] at y0 y1 y2 y3 y4 y5 y6 p0 p1 s0 s1; clear c1 c2 c3; go_simp; try with_reducible rfl)
        rotate_left 1
        · exact fun _ _ _ h => h
        try simp only [Act.put, List.setIfInBounds_toArray, List.set_cons_zero, List.set_cons_succ]
        refine wpAnyH_ready (rs := [2, 6, 7]) (by kernel_rfl) (by simp) ?_
        refine AllReadyH.cons (o := ?_) ?_ (fun K hK => ?_) ?_
        rotate_left 1
        · (simp only [List.getElem?_toArray, List.getElem?_cons_succ, List.getElem?_cons_zero]; rfl)
        · go_simp
          go_at_call 26; refine (HHA.out _).mono ?_; rintro e wn ⟨rfl, hcn⟩
          have hbn := hbn.trans (hcn.mono hbn.size); have cv := cv.same hcn; have cq := cq.same hcn; have cs := cs.same hcn
          clear hcn
          refine hK.out _ _ ?_ (fun hHeld => ?_)
          · exact ⟨cv, cq, cs⟩
          clear hK K
          try simp only [Act.put, List.setIfInBounds_toArray, List.set_cons_zero, List.set_cons_succ]
          refine wpAnyH_ready (rs := [5, 6, 7]) (by kernel_rfl) (by simp) ?_
          refine AllReadyH.cons (o := ?_) ?_ (fun K hK => ?_) ?_
          rotate_left 1
          · (simp only [List.getElem?_toArray, List.getElem?_cons_succ, List.getElem?_cons_zero]; rfl)
          · go_simp
            go_at_call 26; refine (HHB.out _).mono ?_; rintro e wn ⟨rfl, hcn⟩
            have hbn := hbn.trans (hcn.mono hbn.size); have cv := cv.same hcn; have cq := cq.same hcn; have cs := cs.same hcn
            clear hcn
            refine hK.out _ _ ?_ (fun hHeld => ?_)
            · exact ⟨cv, cq, cs⟩
            clear hK K
            try simp only [Act.put, List.setIfInBounds_toArray, List.set_cons_zero, List.set_cons_succ]
            refine wpAnyH_ready (rs := [6, 7]) (by kernel_rfl) (by simp) ?_
            refine AllReadyH.cons (o := ?_) ?_ (fun K hK => ?_) ?_
            rotate_left 1
            · (simp only [List.getElem?_toArray, List.getElem?_cons_succ, List.getElem?_cons_zero]; rfl)
            · go_simp
              obtain ⟨g, wn, hwn, hg, bg, hcn⟩ := alloc_f wn 59 #[.int .i64 0, .int .i64 0]
              rw [← hwn, ← hg]
              have hgw : w4.heap.size ≤ g := (by have := hbn.size; omega); have hbn := hbn.trans (hcn.mono hbn.size); have cv := cv.same hcn; have cq := cq.same hcn; have cs := cs.same hcn
              clear hwn hg hcn
              refine hK.out _ _ ?_ (fun hHeld => ?_)
              · exact ⟨cv, cq, cs⟩
              clear hK K
              try simp only [Act.put, List.setIfInBounds_toArray, List.set_cons_zero, List.set_cons_succ]
              refine wpAnyH_ready (rs := [7]) (by kernel_rfl) (by simp) ?_
              refine AllReadyH.cons (o := ?_) ?_ (fun K hK => ?_) AllReadyH.nil
              rotate_left 1
              · (simp only [List.getElem?_toArray, List.getElem?_cons_succ, List.getElem?_cons_zero]; rfl)
              go_simp
              obtain ⟨h, wn, hwn, hh, bh, hcn⟩ := alloc_f wn 59 #[.int .i64 0, .int .i64 0]
              rw [← hwn, ← hh]
              have hgh : h ≠ g := (by have := bg.lt; omega); have hhw : w4.heap.size ≤ h := (by have := hbn.size; omega); have hbn := hbn.trans (hcn.mono hbn.size); have cv := cv.same hcn; have cq := cq.same hcn; have cs := cs.same hcn; have bg := bg.same hcn
              clear hwn hh hcn
              refine hK.out _ _ ?_ (fun hHeld => ?_)
              · exact ⟨cv, cq, cs⟩
              clear hK K
              try simp only [Act.put, List.setIfInBounds_toArray, List.set_cons_zero, List.set_cons_succ]
              refine wpAnyH_ready (rs := [8]) (by kernel_rfl) (by simp) ?_
              refine AllReadyH.cons (o := ?_) ?_ (fun K hK => ?_) AllReadyH.nil
              rotate_left 1
              · (simp only [List.getElem?_toArray, List.getElem?_cons_succ, List.getElem?_cons_zero]; rfl)
              have k0 := bg.cell 0; have k1 := bg.cell 1; have f0 := bg.frozen 0; have f1 := bg.frozen 1; simp only [List.getElem?_toArray, List.getElem?_cons_succ, List.getElem?_cons_zero] at k0 k1
              go_simp
              obtain ⟨wn, hwn, bn, hfar, hbf⟩ := store2_f bg (.int .i64 x0) (.int .i64 x1)
              rw [← hwn]
              have hbn := hbf _ _ hbn (by omega); have cv := hfar _ _ _ (by omega) cv; have cq := hfar _ _ _ (by omega) cq; have cs := hfar _ _ _ (by omega) cs; have bh := hfar _ _ _ (by omega) bh; have bg := bn
              clear hwn bn hfar hbf k0 k1 f0 f1
              refine hK.out _ _ ?_ (fun hHeld => ?_)
              · exact ⟨cv, cq, cs⟩
              clear hK K
              try simp only [Act.put, List.setIfInBounds_toArray, List.set_cons_zero, List.set_cons_succ]
              refine wpAnyH_ready (rs := [9]) (by kernel_rfl) (by simp) ?_
              refine AllReadyH.cons (o := ?_) ?_ (fun K hK => ?_) AllReadyH.nil
              rotate_left 1
              · (simp only [List.getElem?_toArray, List.getElem?_cons_succ, List.getElem?_cons_zero]; rfl)
              have k0 := bh.cell 0; have k1 := bh.cell 1; have f0 := bh.frozen 0; have f1 := bh.frozen 1; simp only [List.getElem?_toArray, List.getElem?_cons_succ, List.getElem?_cons_zero] at k0 k1
              go_simp
              obtain ⟨wn, hwn, bn, hfar, hbf⟩ := store2_f bh (.int .i64 y0') (.int .i64 y1')
              rw [← hwn]
              have hbn := hbf _ _ hbn (by omega); have cv := hfar _ _ _ (by omega) cv; have cq := hfar _ _ _ (by omega) cq; have cs := hfar _ _ _ (by omega) cs; have bg := hfar _ _ _ (by omega) bg; have bh := bn
              clear hwn bn hfar hbf k0 k1 f0 f1
              refine hK.out _ _ ?_ (fun hHeld => ?_)
              · exact ⟨cv, cq, cs⟩
              clear hK K
              try simp only [Act.put, List.setIfInBounds_toArray, List.set_cons_zero, List.set_cons_succ]
              refine wpAnyH_done (by kernel_rfl) ?_ _
              go_wp2
              go_meet
              exact ⟨g, h, rfl, rfl, bg, bh, hgh, hgw, hhw, cv, cq, cs, hbn⟩
            refine AllReadyH.cons (o := ?_) ?_ (fun K hK => ?_) AllReadyH.nil
            rotate_left 1
            · (simp only [List.getElem?_toArray, List.getElem?_cons_succ, List.getElem?_cons_zero]; rfl)
            go_simp
            obtain ⟨h, wn, hwn, hh, bh, hcn⟩ := alloc_f wn 59 #[.int .i64 0, .int .i64 0]
            rw [← hwn, ← hh]
            have hhw : w4.heap.size ≤ h := (by have := hbn.size; omega); have hbn := hbn.trans (hcn.mono hbn.size); have cv := cv.same hcn; have cq := cq.same hcn; have cs := cs.same hcn
            clear hwn hh hcn
            refine hK.out _ _ ?_ (fun hHeld => ?_)
            · exact ⟨cv, cq, cs⟩
            clear hK K
            try simp only [Act.put, List.setIfInBounds_toArray, List.set_cons_zero, List.set_cons_succ]
            refine wpAnyH_ready (rs := [6]) (by kernel_rfl) (by simp) ?_
            refine AllReadyH.cons (o := ?_) ?_ (fun K hK => ?_) AllReadyH.nil
            rotate_left 1
            · (simp only [List.getElem?_toArray, List.getElem?_cons_succ, List.getElem?_cons_zero]; rfl)
            go_simp
            obtain ⟨g, wn, hwn, hg, bg, hcn⟩ := alloc_f wn 59 #[.int .i64 0, .int .i64 0]
            rw [← hwn, ← hg]
            have hgh : h ≠ g := (by have := bh.lt; omega); have hgw : w4.heap.size ≤ g := (by have := hbn.size; omega); have hbn := hbn.trans (hcn.mono hbn.size); have cv := cv.same hcn; have cq := cq.same hcn; have cs := cs.same hcn; have bh := bh.same hcn
            clear hwn hg hcn
            refine hK.out _ _ ?_ (fun hHeld => ?_)
            · exact ⟨cv, cq, cs⟩
            clear hK K
            try simp only [Act.put, List.setIfInBounds_toArray, List.set_cons_zero, List.set_cons_succ]
            refine wpAnyH_ready (rs := [8]) (by kernel_rfl) (by simp) ?_
            refine AllReadyH.cons (o := ?_) ?_ (fun K hK => ?_) AllReadyH.nil
            rotate_left 1
            · (simp only [List.getElem?_toArray, List.getElem?_cons_succ, List.getElem?_cons_zero]; rfl)
            have k0 := bg.cell 0; have k1 := bg.cell 1; have f0 := bg.frozen 0; have f1 := bg.frozen 1; simp only [List.getElem?_toArray, List.getElem?_cons_succ, List.getElem?_cons_zero] at k0 k1
            go_simp
            obtain ⟨wn, hwn, bn, hfar, hbf⟩ := store2_f bg (.int .i64 x0) (.int .i64 x1)
            rw [← hwn]
            have hbn := hbf _ _ hbn (by omega); have cv := hfar _ _ _ (by omega) cv; have cq := hfar _ _ _ (by omega) cq; have cs := hfar _ _ _ (by omega) cs; have bh := hfar _ _ _ (by omega) bh; have bg := bn
            clear hwn bn hfar hbf k0 k1 f0 f1
            refine hK.out _ _ ?_ (fun hHeld => ?_)
            · exact ⟨cv, cq, cs⟩
            clear hK K
            try simp only [Act.put, List.setIfInBounds_toArray, List.set_cons_zero, List.set_cons_succ]
            refine wpAnyH_ready (rs := [9]) (by kernel_rfl) (by simp) ?_
            refine AllReadyH.cons (o := ?_) ?_ (fun K hK => ?_) AllReadyH.nil
            rotate_left 1
            · (simp only [List.getElem?_toArray, List.getElem?_cons_succ, List.getElem?_cons_zero]; rfl)
            have k0 := bh.cell 0; have k1 := bh.cell 1; have f0 := bh.frozen 0; have f1 := bh.frozen 1; simp only [List.getElem?_toArray, List.getElem?_cons_succ, List.getElem?_cons_zero] at k0 k1
            go_simp
            obtain ⟨wn, hwn, bn, hfar, hbf⟩ := store2_f bh (.int .i64 y0') (.int .i64 y1')
            rw [← hwn]
            have hbn := hbf _ _ hbn (by omega); have cv := hfar _ _ _ (by omega) cv; have cq := hfar _ _ _ (by omega) cq; have cs := hfar _ _ _ (by omega) cs; have bg := hfar _ _ _ (by omega) bg; have bh := bn
            clear hwn bn hfar hbf k0 k1 f0 f1
            refine hK.out _ _ ?_ (fun hHeld => ?_)
            · exact ⟨cv, cq, cs⟩
            clear hK K
            try simp only [Act.put, List.setIfInBounds_toArray, List.set_cons_zero, List.set_cons_succ]
            refine wpAnyH_done (by kernel_rfl) ?_ _
            go_wp2
            go_meet
            exact ⟨g, h, rfl, rfl, bg, bh, hgh, hgw, hhw, cv, cq, cs, hbn⟩
          refine AllReadyH.cons (o := ?_) ?_ (fun K hK => ?_) ?_
          rotate_left 1
          · (simp only [List.getElem?_toArray, List.getElem?_cons_succ, List.getElem?_cons_zero]; rfl)
          · go_simp
            obtain ⟨g, wn, hwn, hg, bg, hcn⟩ := alloc_f wn 59 #[.int .i64 0, .int .i64 0]
            rw [← hwn, ← hg]
            have hgw : w4.heap.size ≤ g := (by have := hbn.size; omega); have hbn := hbn.trans (hcn.mono hbn.size); have cv := cv.same hcn; have cq := cq.same hcn; have cs := cs.same hcn
            clear hwn hg hcn
            refine hK.out _ _ ?_ (fun hHeld => ?_)
            · exact ⟨cv, cq, cs⟩
            clear hK K
            try simp only [Act.put, List.setIfInBounds_toArray, List.set_cons_zero, List.set_cons_succ]
            refine wpAnyH_ready (rs := [5, 7]) (by kernel_rfl) (by simp) ?_
            refine AllReadyH.cons (o := ?_) ?_ (fun K hK => ?_) ?_
            rotate_left 1
            · (simp only [List.getElem?_toArray, List.getElem?_cons_succ, List.getElem?_cons_zero]; rfl)
            · go_simp
              go_at_call 26; refine (HHB.out _).mono ?_; rintro e wn ⟨rfl, hcn⟩
              have hbn := hbn.trans (hcn.mono hbn.size); have cv := cv.same hcn; have cq := cq.same hcn; have cs := cs.same hcn; have bg := bg.same hcn
              clear hcn
              refine hK.out _ _ ?_ (fun hHeld => ?_)
              · exact ⟨cv, cq, cs⟩
              clear hK K
              try simp only [Act.put, List.setIfInBounds_toArray, List.set_cons_zero, List.set_cons_succ]
              refine wpAnyH_ready (rs := [7]) (by kernel_rfl) (by simp) ?_
              refine AllReadyH.cons (o := ?_) ?_ (fun K hK => ?_) AllReadyH.nil
              rotate_left 1
              · (simp only [List.getElem?_toArray, List.getElem?_cons_succ, List.getElem?_cons_zero]; rfl)
              go_simp
              obtain ⟨h, wn, hwn, hh, bh, hcn⟩ := alloc_f wn 59 #[.int .i64 0, .int .i64 0]
              rw [← hwn, ← hh]
              have hgh : h ≠ g := (by have := bg.lt; omega); have hhw : w4.heap.size ≤ h := (by have := hbn.size; omega); have hbn := hbn.trans (hcn.mono hbn.size); have cv := cv.same hcn; have cq := cq.same hcn; have cs := cs.same hcn; have bg := bg.same hcn
              clear hwn hh hcn
              refine hK.out _ _ ?_ (fun hHeld => ?_)
              · exact ⟨cv, cq, cs⟩
              clear hK K
              try simp only [Act.put, List.setIfInBounds_toArray, List.set_cons_zero, List.set_cons_succ]
              refine wpAnyH_ready (rs := [8]) (by kernel_rfl) (by simp) ?_
              refine AllReadyH.cons (o := ?_) ?_ (fun K hK => ?_) AllReadyH.nil
              rotate_left 1
              · (simp only [List.getElem?_toArray, List.getElem?_cons_succ, List.getElem?_cons_zero]; rfl)
              have k0 := bg.cell 0; have k1 := bg.cell 1; have f0 := bg.frozen 0; have f1 := bg.frozen 1; simp only [List.getElem?_toArray, List.getElem?_cons_succ, List.getElem?_cons_zero] at k0 k1
              go_simp
              obtain ⟨wn, hwn, bn, hfar, hbf⟩ := store2_f bg (.int .i64 x0) (.int .i64 x1)
              rw [← hwn]
              have hbn := hbf _ _ hbn (by omega); have cv := hfar _ _ _ (by omega) cv; have cq := hfar _ _ _ (by omega) cq; have cs := hfar _ _ _ (by omega) cs; have bh := hfar _ _ _ (by omega) bh; have bg := bn
              clear hwn bn hfar hbf k0 k1 f0 f1
              refine hK.out _ _ ?_ (fun hHeld => ?_)
              · exact ⟨cv, cq, cs⟩
              clear hK K
              try simp only [Act.put, List.setIfInBounds_toArray, List.set_cons_zero, List.set_cons_succ]
              refine wpAnyH_ready (rs := [9]) (by kernel_rfl) (by simp) ?_
              refine AllReadyH.cons (o := ?_) ?_ (fun K hK => ?_) AllReadyH.nil
              rotate_left 1
              · (simp only [List.getElem?_toArray, List.getElem?_cons_succ, List.getElem?_cons_zero]; rfl)
              have k0 := bh.cell 0; have k1 := bh.cell 1; have f0 := bh.frozen 0; have f1 := bh.frozen 1; simp only [List.getElem?_toArray, List.getElem?_cons_succ, List.getElem?_cons_zero] at k0 k1
              go_simp
              obtain ⟨wn, hwn, bn, hfar, hbf⟩ := store2_f bh (.int .i64 y0') (.int .i64 y1')
              rw [← hwn]
              have hbn := hbf _ _ hbn (by omega); have cv := hfar _ _ _ (by omega) cv; have cq := hfar _ _ _ (by omega) cq; have cs := hfar _ _ _ (by omega) cs; have bg := hfar _ _ _ (by omega) bg; have bh := bn
              clear hwn bn hfar hbf k0 k1 f0 f1
              refine hK.out _ _ ?_ (fun hHeld => ?_)
              · exact ⟨cv, cq, cs⟩
              clear hK K
              try simp only [Act.put, List.setIfInBounds_toArray, List.set_cons_zero, List.set_cons_succ]
              refine wpAnyH_done (by kernel_rfl) ?_ _
              go_wp2
              go_meet
              exact ⟨g, h, rfl, rfl, bg, bh, hgh, hgw, hhw, cv, cq, cs, hbn⟩
            refine AllReadyH.cons (o := ?_) ?_ (fun K hK => ?_) AllReadyH.nil
            rotate_left 1
            · (simp only [List.getElem?_toArray, List.getElem?_cons_succ, List.getElem?_cons_zero]; rfl)
            go_simp
            obtain ⟨h, wn, hwn, hh, bh, hcn⟩ := alloc_f wn 59 #[.int .i64 0, .int .i64 0]
            rw [← hwn, ← hh]
            have hgh : h ≠ g := (by have := bg.lt; omega); have hhw : w4.heap.size ≤ h := (by have := hbn.size; omega); have hbn := hbn.trans (hcn.mono hbn.size); have cv := cv.same hcn; have cq := cq.same hcn; have cs := cs.same hcn; have bg := bg.same hcn
            clear hwn hh hcn
            refine hK.out _ _ ?_ (fun hHeld => ?_)
            · exact ⟨cv, cq, cs⟩
            clear hK K
            try simp only [Act.put, List.setIfInBounds_toArray, List.set_cons_zero, List.set_cons_succ]
            refine wpAnyH_ready (rs := [5]) (by kernel_rfl) (by simp) ?_
            refine AllReadyH.cons (o := ?_) ?_ (fun K hK => ?_) AllReadyH.nil
            rotate_left 1
            · (simp only [List.getElem?_toArray, List.getElem?_cons_succ, List.getElem?_cons_zero]; rfl)
            go_simp
            go_at_call 26; refine (HHB.out _).mono ?_; rintro e wn ⟨rfl, hcn⟩
            have hbn := hbn.trans (hcn.mono hbn.size); have cv := cv.same hcn; have cq := cq.same hcn; have cs := cs.same hcn; have bg := bg.same hcn; have bh := bh.same hcn
            clear hcn
            refine hK.out _ _ ?_ (fun hHeld => ?_)
            · exact ⟨cv, cq, cs⟩
            clear hK K
            try simp only [Act.put, List.setIfInBounds_toArray, List.set_cons_zero, List.set_cons_succ]
            refine wpAnyH_ready (rs := [8]) (by kernel_rfl) (by simp) ?_
            refine AllReadyH.cons (o := ?_) ?_ (fun K hK => ?_) AllReadyH.nil
            rotate_left 1
            · (simp only [List.getElem?_toArray, List.getElem?_cons_succ, List.getElem?_cons_zero]; rfl)
            have k0 := bg.cell 0; have k1 := bg.cell 1; have f0 := bg.frozen 0; have f1 := bg.frozen 1; simp only [List.getElem?_toArray, List.getElem?_cons_succ, List.getElem?_cons_zero] at k0 k1
            go_simp
            obtain ⟨wn, hwn, bn, hfar, hbf⟩ := store2_f bg (.int .i64 x0) (.int .i64 x1)
            rw [← hwn]
            have hbn := hbf _ _ hbn (by omega); have cv := hfar _ _ _ (by omega) cv; have cq := hfar _ _ _ (by omega) cq; have cs := hfar _ _ _ (by omega) cs; have bh := hfar _ _ _ (by omega) bh; have bg := bn
            clear hwn bn hfar hbf k0 k1 f0 f1
            refine hK.out _ _ ?_ (fun hHeld => ?_)
            · exact ⟨cv, cq, cs⟩
            clear hK K
            try simp only [Act.put, List.setIfInBounds_toArray, List.set_cons_zero, List.set_cons_succ]
            refine wpAnyH_ready (rs := [9]) (by kernel_rfl) (by simp) ?_
            refine AllReadyH.cons (o := ?_) ?_ (fun K hK => ?_) AllReadyH.nil
            rotate_left 1
            · (simp only [List.getElem?_toArray, List.getElem?_cons_succ, List.getElem?_cons_zero]; rfl)
            have k0 := bh.cell 0; have k1 := bh.cell 1; have f0 := bh.frozen 0; have f1 := bh.frozen 1; simp only [List.getElem?_toArray, List.getElem?_cons_succ, List.getElem?_cons_zero] at k0 k1
            go_simp
            obtain ⟨wn, hwn, bn, hfar, hbf⟩ := store2_f bh (.int .i64 y0') (.int .i64 y1')
            rw [← hwn]
            have hbn := hbf _ _ hbn (by omega); have cv := hfar _ _ _ (by omega) cv; have cq := hfar _ _ _ (by omega) cq; have cs := hfar _ _ _ (by omega) cs; have bg := hfar _ _ _ (by omega) bg; have bh := bn
            clear hwn bn hfar hbf k0 k1 f0 f1
            refine hK.out _ _ ?_ (fun hHeld => ?_)
            · exact ⟨cv, cq, cs⟩
            clear hK K
            try simp only [Act.put, List.setIfInBounds_toArray, List.set_cons_zero, List.set_cons_succ]
            refine wpAnyH_done (by kernel_rfl) ?_ _
            go_wp2
            go_meet
            exact ⟨g, h, rfl, rfl, bg, bh, hgh, hgw, hhw, cv, cq, cs, hbn⟩
          refine AllReadyH.cons (o := ?_) ?_ (fun K hK => ?_) AllReadyH.nil
          rotate_left 1
          · (simp only [List.getElem?_toArray, List.getElem?_cons_succ, List.getElem?_cons_zero]; rfl)
          go_simp
          obtain ⟨h, wn, hwn, hh, bh, hcn⟩ := alloc_f wn 59 #[.int .i64 0, .int .i64 0]
          rw [← hwn, ← hh]
          have hhw : w4.heap.size ≤ h := (by have := hbn.size; omega); have hbn := hbn.trans (hcn.mono hbn.size); have cv := cv.same hcn; have cq := cq.same hcn; have cs := cs.same hcn
          clear hwn hh hcn
          refine hK.out _ _ ?_ (fun hHeld => ?_)
          · exact ⟨cv, cq, cs⟩
          clear hK K
          try simp only [Act.put, List.setIfInBounds_toArray, List.set_cons_zero, List.set_cons_succ]
          refine wpAnyH_ready (rs := [5, 6]) (by kernel_rfl) (by simp) ?_
          refine AllReadyH.cons (o := ?_) ?_ (fun K hK => ?_) ?_
          rotate_left 1
          · (simp only [List.getElem?_toArray, List.getElem?_cons_succ, List.getElem?_cons_zero]; rfl)
          · go_simp
            go_at_call 26; refine (HHB.out _).mono ?_; rintro e wn ⟨rfl, hcn⟩
            have hbn := hbn.trans (hcn.mono hbn.size); have cv := cv.same hcn; have cq := cq.same hcn; have cs := cs.same hcn; have bh := bh.same hcn
            clear hcn
            refine hK.out _ _ ?_ (fun hHeld => ?_)
            · exact ⟨cv, cq, cs⟩
            clear hK K
            try simp only [Act.put, List.setIfInBounds_toArray, List.set_cons_zero, List.set_cons_succ]
            refine wpAnyH_ready (rs := [6]) (by kernel_rfl) (by simp) ?_
            refine AllReadyH.cons (o := ?_) ?_ (fun K hK => ?_) AllReadyH.nil
            rotate_left 1
            · (simp only [List.getElem?_toArray, List.getElem?_cons_succ, List.getElem?_cons_zero]; rfl)
            go_simp
            obtain ⟨g, wn, hwn, hg, bg, hcn⟩ := alloc_f wn 59 #[.int .i64 0, .int .i64 0]
            rw [← hwn, ← hg]
            have hgh : h ≠ g := (by have := bh.lt; omega); have hgw : w4.heap.size ≤ g := (by have := hbn.size; omega); have hbn := hbn.trans (hcn.mono hbn.size); have cv := cv.same hcn; have cq := cq.same hcn; have cs := cs.same hcn; have bh := bh.same hcn
            clear hwn hg hcn
            refine hK.out _ _ ?_ (fun hHeld => ?_)
            · exact ⟨cv, cq, cs⟩
            clear hK K
            try simp only [Act.put, List.setIfInBounds_toArray, List.set_cons_zero, List.set_cons_succ]
            refine wpAnyH_ready (rs := [8]) (by kernel_rfl) (by simp) ?_
            refine AllReadyH.cons (o := ?_) ?_ (fun K hK => ?_) AllReadyH.nil
            rotate_left 1
            · (simp only [List.getElem?_toArray, List.getElem?_cons_succ, List.getElem?_cons_zero]; rfl)
            have k0 := bg.cell 0; have k1 := bg.cell 1; have f0 := bg.frozen 0; have f1 := bg.frozen 1; simp only [List.getElem?_toArray, List.getElem?_cons_succ, List.getElem?_cons_zero] at k0 k1
            go_simp
            obtain ⟨wn, hwn, bn, hfar, hbf⟩ := store2_f bg (.int .i64 x0) (.int .i64 x1)
            rw [← hwn]
            have hbn := hbf _ _ hbn (by omega); have cv := hfar _ _ _ (by omega) cv; have cq := hfar _ _ _ (by omega) cq; have cs := hfar _ _ _ (by omega) cs; have bh := hfar _ _ _ (by omega) bh; have bg := bn
            clear hwn bn hfar hbf k0 k1 f0 f1
            refine hK.out _ _ ?_ (fun hHeld => ?_)
            · exact ⟨cv, cq, cs⟩
            clear hK K
            try simp only [Act.put, List.setIfInBounds_toArray, List.set_cons_zero, List.set_cons_succ]
            refine wpAnyH_ready (rs := [9]) (by kernel_rfl) (by simp) ?_
            refine AllReadyH.cons (o := ?_) ?_ (fun K hK => ?_) AllReadyH.nil
            rotate_left 1
            · (simp only [List.getElem?_toArray, List.getElem?_cons_succ, List.getElem?_cons_zero]; rfl)
            have k0 := bh.cell 0; have k1 := bh.cell 1; have f0 := bh.frozen 0; have f1 := bh.frozen 1; simp only [List.getElem?_toArray, List.getElem?_cons_succ, List.getElem?_cons_zero] at k0 k1
            go_simp
            obtain ⟨wn, hwn, bn, hfar, hbf⟩ := store2_f bh (.int .i64 y0') (.int .i64 y1')
            rw [← hwn]
            have hbn := hbf _ _ hbn (by omega); have cv := hfar _ _ _ (by omega) cv; have cq := hfar _ _ _ (by omega) cq; have cs := hfar _ _ _ (by omega) cs; have bg := hfar _ _ _ (by omega) bg; have bh := bn
            clear hwn bn hfar hbf k0 k1 f0 f1
            refine hK.out _ _ ?_ (fun hHeld => ?_)
            · exact ⟨cv, cq, cs⟩
            clear hK K
            try simp only [Act.put, List.setIfInBounds_toArray, List.set_cons_zero, List.set_cons_succ]
            refine wpAnyH_done (by kernel_rfl) ?_ _
            go_wp2
            go_meet
            exact ⟨g, h, rfl, rfl, bg, bh, hgh, hgw, hhw, cv, cq, cs, hbn⟩
          refine AllReadyH.cons (o := ?_) ?_ (fun K hK => ?_) AllReadyH.nil
          rotate_left 1
          · (simp only [List.getElem?_toArray, List.getElem?_cons_succ, List.getElem?_cons_zero]; rfl)
          go_simp
          obtain ⟨g, wn, hwn, hg, bg, hcn⟩ := alloc_f wn 59 #[.int .i64 0, .int .i64 0]
          rw [← hwn, ← hg]
          have hgh : h ≠ g := (by have := bh.lt; omega); have hgw : w4.heap.size ≤ g := (by have := hbn.size; omega); have hbn := hbn.trans (hcn.mono hbn.size); have cv := cv.same hcn; have cq := cq.same hcn; have cs := cs.same hcn; have bh := bh.same hcn
          clear hwn hg hcn
          refine hK.out _ _ ?_ (fun hHeld => ?_)
          · exact ⟨cv, cq, cs⟩
          clear hK K
          try simp only [Act.put, List.setIfInBounds_toArray, List.set_cons_zero, List.set_cons_succ]
          refine wpAnyH_ready (rs := [5]) (by kernel_rfl) (by simp) ?_
          refine AllReadyH.cons (o := ?_) ?_ (fun K hK => ?_) AllReadyH.nil
          rotate_left 1
          · (simp only [List.getElem?_toArray, List.getElem?_cons_succ, List.getElem?_cons_zero]; rfl)
          go_simp
          go_at_call 26; refine (HHB.out _).mono ?_; rintro e wn ⟨rfl, hcn⟩
          have hbn := hbn.trans (hcn.mono hbn.size); have cv := cv.same hcn; have cq := cq.same hcn; have cs := cs.same hcn; have bg := bg.same hcn; have bh := bh.same hcn
          clear hcn
          refine hK.out _ _ ?_ (fun hHeld => ?_)
          · exact ⟨cv, cq, cs⟩
          clear hK K
          try simp only [Act.put, List.setIfInBounds_toArray, List.set_cons_zero, List.set_cons_succ]
          refine wpAnyH_ready (rs := [8]) (by kernel_rfl) (by simp) ?_
          refine AllReadyH.cons (o := ?_) ?_ (fun K hK => ?_) AllReadyH.nil
          rotate_left 1
          · (simp only [List.getElem?_toArray, List.getElem?_cons_succ, List.getElem?_cons_zero]; rfl)
          have k0 := bg.cell 0; have k1 := bg.cell 1; have f0 := bg.frozen 0; have f1 := bg.frozen 1; simp only [List.getElem?_toArray, List.getElem?_cons_succ, List.getElem?_cons_zero] at k0 k1
          go_simp
          obtain ⟨wn, hwn, bn, hfar, hbf⟩ := store2_f bg (.int .i64 x0) (.int .i64 x1)
          rw [← hwn]
          have hbn := hbf _ _ hbn (by omega); have cv := hfar _ _ _ (by omega) cv; have cq := hfar _ _ _ (by omega) cq; have cs := hfar _ _ _ (by omega) cs; have bh := hfar _ _ _ (by omega) bh; have bg := bn
          clear hwn bn hfar hbf k0 k1 f0 f1
          refine hK.out _ _ ?_ (fun hHeld => ?_)
          · exact ⟨cv, cq, cs⟩
          clear hK K
          try simp only [Act.put, List.setIfInBounds_toArray, List.set_cons_zero, List.set_cons_succ]
          refine wpAnyH_ready (rs := [9]) (by kernel_rfl) (by simp) ?_
          refine AllReadyH.cons (o := ?_) ?_ (fun K hK => ?_) AllReadyH.nil
          rotate_left 1
          · (simp only [List.getElem?_toArray, List.getElem?_cons_succ, List.getElem?_cons_zero]; rfl)
          have k0 := bh.cell 0; have k1 := bh.cell 1; have f0 := bh.frozen 0; have f1 := bh.frozen 1; simp only [List.getElem?_toArray, List.getElem?_cons_succ, List.getElem?_cons_zero] at k0 k1
          go_simp
          obtain ⟨wn, hwn, bn, hfar, hbf⟩ := store2_f bh (.int .i64 y0') (.int .i64 y1')
          rw [← hwn]
          have hbn := hbf _ _ hbn (by omega); have cv := hfar _ _ _ (by omega) cv; have cq := hfar _ _ _ (by omega) cq; have cs := hfar _ _ _ (by omega) cs; have bg := hfar _ _ _ (by omega) bg; have bh := bn
          clear hwn bn hfar hbf k0 k1 f0 f1
          refine hK.out _ _ ?_ (fun hHeld => ?_)
          · exact ⟨cv, cq, cs⟩
          clear hK K
          try simp only [Act.put, List.setIfInBounds_toArray, List.set_cons_zero, List.set_cons_succ]
          refine wpAnyH_done (by kernel_rfl) ?_ _
          go_wp2
          go_meet
          exact ⟨g, h, rfl, rfl, bg, bh, hgh, hgw, hhw, cv, cq, cs, hbn⟩
        refine AllReadyH.cons (o := ?_) ?_ (fun K hK => ?_) ?_
        rotate_left 1
        · (simp only [List.getElem?_toArray, List.getElem?_cons_succ, List.getElem?_cons_zero]; rfl)
        · go_simp
          obtain ⟨g, wn, hwn, hg, bg, hcn⟩ := alloc_f wn 59 #[.int .i64 0, .int .i64 0]
          rw [← hwn, ← hg]
          have hgw : w4.heap.size ≤ g := (by have := hbn.size; omega); have hbn := hbn.trans (hcn.mono hbn.size); have cv := cv.same hcn; have cq := cq.same hcn; have cs := cs.same hcn
          clear hwn hg hcn
          refine hK.out _ _ ?_ (fun hHeld => ?_)
          · exact ⟨cv, cq, cs⟩
          clear hK K
          try simp only [Act.put, List.setIfInBounds_toArray, List.set_cons_zero, List.set_cons_succ]
          refine wpAnyH_ready (rs := [2, 7]) (by kernel_rfl) (by simp) ?_
          refine AllReadyH.cons (o := ?_) ?_ (fun K hK => ?_) ?_
          rotate_left 1
          · (simp only [List.getElem?_toArray, List.getElem?_cons_succ, List.getElem?_cons_zero]; rfl)
          · go_simp
            go_at_call 26; refine (HHA.out _).mono ?_; rintro e wn ⟨rfl, hcn⟩
            have hbn := hbn.trans (hcn.mono hbn.size); have cv := cv.same hcn; have cq := cq.same hcn; have cs := cs.same hcn; have bg := bg.same hcn
            clear hcn
            refine hK.out _ _ ?_ (fun hHeld => ?_)
            · exact ⟨cv, cq, cs⟩
            clear hK K
            try simp only [Act.put, List.setIfInBounds_toArray, List.set_cons_zero, List.set_cons_succ]
            refine wpAnyH_ready (rs := [5, 7]) (by kernel_rfl) (by simp) ?_
            refine AllReadyH.cons (o := ?_) ?_ (fun K hK => ?_) ?_
            rotate_left 1
            · (simp only [List.getElem?_toArray, List.getElem?_cons_succ, List.getElem?_cons_zero]; rfl)
            · go_simp
              go_at_call 26; refine (HHB.out _).mono ?_; rintro e wn ⟨rfl, hcn⟩
              have hbn := hbn.trans (hcn.mono hbn.size); have cv := cv.same hcn; have cq := cq.same hcn; have cs := cs.same hcn; have bg := bg.same hcn
              clear hcn
              refine hK.out _ _ ?_ (fun hHeld => ?_)
              · exact ⟨cv, cq, cs⟩
              clear hK K
              try simp only [Act.put, List.setIfInBounds_toArray, List.set_cons_zero, List.set_cons_succ]
              refine wpAnyH_ready (rs := [7]) (by kernel_rfl) (by simp) ?_
              refine AllReadyH.cons (o := ?_) ?_ (fun K hK => ?_) AllReadyH.nil
              rotate_left 1
              · (simp only [List.getElem?_toArray, List.getElem?_cons_succ, List.getElem?_cons_zero]; rfl)
              go_simp
              obtain ⟨h, wn, hwn, hh, bh, hcn⟩ := alloc_f wn 59 #[.int .i64 0, .int .i64 0]
              rw [← hwn, ← hh]
              have hgh : h ≠ g := (by have := bg.lt; omega); have hhw : w4.heap.size ≤ h := (by have := hbn.size; omega); have hbn := hbn.trans (hcn.mono hbn.size); have cv := cv.same hcn; have cq := cq.same hcn; have cs := cs.same hcn; have bg := bg.same hcn
              clear hwn hh hcn
              refine hK.out _ _ ?_ (fun hHeld => ?_)
              · exact ⟨cv, cq, cs⟩
              clear hK K
              try simp only [Act.put, List.setIfInBounds_toArray, List.set_cons_zero, List.set_cons_succ]
              refine wpAnyH_ready (rs := [8]) (by kernel_rfl) (by simp) ?_
              refine AllReadyH.cons (o := ?_) ?_ (fun K hK => ?_) AllReadyH.nil
              rotate_left 1
              · (simp only [List.getElem?_toArray, List.getElem?_cons_succ, List.getElem?_cons_zero]; rfl)
              have k0 := bg.cell 0; have k1 := bg.cell 1; have f0 := bg.frozen 0; have f1 := bg.frozen 1; simp only [List.getElem?_toArray, List.getElem?_cons_succ, List.getElem?_cons_zero] at k0 k1
              go_simp
              obtain ⟨wn, hwn, bn, hfar, hbf⟩ := store2_f bg (.int .i64 x0) (.int .i64 x1)
              rw [← hwn]
              have hbn := hbf _ _ hbn (by omega); have cv := hfar _ _ _ (by omega) cv; have cq := hfar _ _ _ (by omega) cq; have cs := hfar _ _ _ (by omega) cs; have bh := hfar _ _ _ (by omega) bh; have bg := bn
              clear hwn bn hfar hbf k0 k1 f0 f1
              refine hK.out _ _ ?_ (fun hHeld => ?_)
              · exact ⟨cv, cq, cs⟩
              clear hK K
              try simp only [Act.put, List.setIfInBounds_toArray, List.set_cons_zero, List.set_cons_succ]
              refine wpAnyH_ready (rs := [9]) (by kernel_rfl) (by simp) ?_
              refine AllReadyH.cons (o := ?_) ?_ (fun K hK => ?_) AllReadyH.nil
              rotate_left 1
              · (simp only [List.getElem?_toArray, List.getElem?_cons_succ, List.getElem?_cons_zero]; rfl)
              have k0 := bh.cell 0; have k1 := bh.cell 1; have f0 := bh.frozen 0; have f1 := bh.frozen 1; simp only [List.getElem?_toArray, List.getElem?_cons_succ, List.getElem?_cons_zero] at k0 k1
              go_simp
              obtain ⟨wn, hwn, bn, hfar, hbf⟩ := store2_f bh (.int .i64 y0') (.int .i64 y1')
              rw [← hwn]
              have hbn := hbf _ _ hbn (by omega); have cv := hfar _ _ _ (by omega) cv; have cq := hfar _ _ _ (by omega) cq; have cs := hfar _ _ _ (by omega) cs; have bg := hfar _ _ _ (by omega) bg; have bh := bn
              clear hwn bn hfar hbf k0 k1 f0 f1
              refine hK.out _ _ ?_ (fun hHeld => ?_)
              · exact ⟨cv, cq, cs⟩
              clear hK K
              try simp only [Act.put, List.setIfInBounds_toArray, List.set_cons_zero, List.set_cons_succ]
              refine wpAnyH_done (by kernel_rfl) ?_ _
              go_wp2
              go_meet
              exact ⟨g, h, rfl, rfl, bg, bh, hgh, hgw, hhw, cv, cq, cs, hbn⟩
            refine AllReadyH.cons (o := ?_) ?_ (fun K hK => ?_) AllReadyH.nil
            rotate_left 1
            · (simp only [List.getElem?_toArray, List.getElem?_cons_succ, List.getElem?_cons_zero]; rfl)
            go_simp
            obtain ⟨h, wn, hwn, hh, bh, hcn⟩ := alloc_f wn 59 #[.int .i64 0, .int .i64 0]
            rw [← hwn, ← hh]
            have hgh : h ≠ g := (by have := bg.lt; omega); have hhw : w4.heap.size ≤ h := (by have := hbn.size; omega); have hbn := hbn.trans (hcn.mono hbn.size); have cv := cv.same hcn; have cq := cq.same hcn; have cs := cs.same hcn; have bg := bg.same hcn
            clear hwn hh hcn
            refine hK.out _ _ ?_ (fun hHeld => ?_)
            · exact ⟨cv, cq, cs⟩
            clear hK K
            try simp only [Act.put, List.setIfInBounds_toArray, List.set_cons_zero, List.set_cons_succ]
            refine wpAnyH_ready (rs := [5]) (by kernel_rfl) (by simp) ?_
            refine AllReadyH.cons (o := ?_) ?_ (fun K hK => ?_) AllReadyH.nil
            rotate_left 1
            · (simp only [List.getElem?_toArray, List.getElem?_cons_succ, List.getElem?_cons_zero]; rfl)
            go_simp
            go_at_call 26; refine (HHB.out _).mono ?_; rintro e wn ⟨rfl, hcn⟩
            have hbn := hbn.trans (hcn.mono hbn.size); have cv := cv.same hcn; have cq := cq.same hcn; have cs := cs.same hcn; have bg := bg.same hcn; have bh := bh.same hcn
            clear hcn
            refine hK.out _ _ ?_ (fun hHeld => ?_)
            · exact ⟨cv, cq, cs⟩
            clear hK K
            try simp only [Act.put, List.setIfInBounds_toArray, List.set_cons_zero, List.set_cons_succ]
            refine wpAnyH_ready (rs := [8]) (by kernel_rfl) (by simp) ?_
            refine AllReadyH.cons (o := ?_) ?_ (fun K hK => ?_) AllReadyH.nil
            rotate_left 1
            · (simp only [List.getElem?_toArray, List.getElem?_cons_succ, List.getElem?_cons_zero]; rfl)
            have k0 := bg.cell 0; have k1 := bg.cell 1; have f0 := bg.frozen 0; have f1 := bg.frozen 1; simp only [List.getElem?_toArray, List.getElem?_cons_succ, List.getElem?_cons_zero] at k0 k1
            go_simp
            obtain ⟨wn, hwn, bn, hfar, hbf⟩ := store2_f bg (.int .i64 x0) (.int .i64 x1)
            rw [← hwn]
            have hbn := hbf _ _ hbn (by omega); have cv := hfar _ _ _ (by omega) cv; have cq := hfar _ _ _ (by omega) cq; have cs := hfar _ _ _ (by omega) cs; have bh := hfar _ _ _ (by omega) bh; have bg := bn
            clear hwn bn hfar hbf k0 k1 f0 f1
            refine hK.out _ _ ?_ (fun hHeld => ?_)
            · exact ⟨cv, cq, cs⟩
            clear hK K
            try simp only [Act.put, List.setIfInBounds_toArray, List.set_cons_zero, List.set_cons_succ]
            refine wpAnyH_ready (rs := [9]) (by kernel_rfl) (by simp) ?_
            refine AllReadyH.cons (o := ?_) ?_ (fun K hK => ?_) AllReadyH.nil
            rotate_left 1
            · (simp only [List.getElem?_toArray, List.getElem?_cons_succ, List.getElem?_cons_zero]; rfl)
            have k0 := bh.cell 0; have k1 := bh.cell 1; have f0 := bh.frozen 0; have f1 := bh.frozen 1; simp only [List.getElem?_toArray, List.getElem?_cons_succ, List.getElem?_cons_zero] at k0 k1
            go_simp
            obtain ⟨wn, hwn, bn, hfar, hbf⟩ := store2_f bh (.int .i64 y0') (.int .i64 y1')
            rw [← hwn]
            have hbn := hbf _ _ hbn (by omega); have cv := hfar _ _ _ (by omega) cv; have cq := hfar _ _ _ (by omega) cq; have cs := hfar _ _ _ (by omega) cs; have bg := hfar _ _ _ (by omega) bg; have bh := bn
            clear hwn bn hfar hbf k0 k1 f0 f1
            refine hK.out _ _ ?_ (fun hHeld => ?_)
            · exact ⟨cv, cq, cs⟩
            clear hK K
            try simp only [Act.put, List.setIfInBounds_toArray, List.set_cons_zero, List.set_cons_succ]
            refine wpAnyH_done (by kernel_rfl) ?_ _
            go_wp2
            go_meet
            exact ⟨g, h, rfl, rfl, bg, bh, hgh, hgw, hhw, cv, cq, cs, hbn⟩
          refine AllReadyH.cons (o := ?_) ?_ (fun K hK => ?_) AllReadyH.nil
          rotate_left 1
          · (simp only [List.getElem?_toArray, List.getElem?_cons_succ, List.getElem?_cons_zero]; rfl)
          go_simp
          obtain ⟨h, wn, hwn, hh, bh, hcn⟩ := alloc_f wn 59 #[.int .i64 0, .int .i64 0]
          rw [← hwn, ← hh]
          have hgh : h ≠ g := (by have := bg.lt; omega); have hhw : w4.heap.size ≤ h := (by have := hbn.size; omega); have hbn := hbn.trans (hcn.mono hbn.size); have cv := cv.same hcn; have cq := cq.same hcn; have cs := cs.same hcn; have bg := bg.same hcn
          clear hwn hh hcn
          refine hK.out _ _ ?_ (fun hHeld => ?_)
          · exact ⟨cv, cq, cs⟩
          clear hK K
          try simp only [Act.put, List.setIfInBounds_toArray, List.set_cons_zero, List.set_cons_succ]
          refine wpAnyH_ready (rs := [2]) (by kernel_rfl) (by simp) ?_
          refine AllReadyH.cons (o := ?_) ?_ (fun K hK => ?_) AllReadyH.nil
          rotate_left 1
          · (simp only [List.getElem?_toArray, List.getElem?_cons_succ, List.getElem?_cons_zero]; rfl)
          go_simp
          go_at_call 26; refine (HHA.out _).mono ?_; rintro e wn ⟨rfl, hcn⟩
          have hbn := hbn.trans (hcn.mono hbn.size); have cv := cv.same hcn; have cq := cq.same hcn; have cs := cs.same hcn; have bg := bg.same hcn; have bh := bh.same hcn
          clear hcn
          refine hK.out _ _ ?_ (fun hHeld => ?_)
          · exact ⟨cv, cq, cs⟩
          clear hK K
          try simp only [Act.put, List.setIfInBounds_toArray, List.set_cons_zero, List.set_cons_succ]
          refine wpAnyH_ready (rs := [5]) (by kernel_rfl) (by simp) ?_
          refine AllReadyH.cons (o := ?_) ?_ (fun K hK => ?_) AllReadyH.nil
          rotate_left 1
          · (simp only [List.getElem?_toArray, List.getElem?_cons_succ, List.getElem?_cons_zero]; rfl)
          go_simp
          go_at_call 26; refine (HHB.out _).mono ?_; rintro e wn ⟨rfl, hcn⟩
          have hbn := hbn.trans (hcn.mono hbn.size); have cv := cv.same hcn; have cq := cq.same hcn; have cs := cs.same hcn; have bg := bg.same hcn; have bh := bh.same hcn
          clear hcn
          refine hK.out _ _ ?_ (fun hHeld => ?_)
          · exact ⟨cv, cq, cs⟩
          clear hK K
          try simp only [Act.put, List.setIfInBounds_toArray, List.set_cons_zero, List.set_cons_succ]
          refine wpAnyH_ready (rs := [8]) (by kernel_rfl) (by simp) ?_
          refine AllReadyH.cons (o := ?_) ?_ (fun K hK => ?_) AllReadyH.nil
          rotate_left 1
          · (simp only [List.getElem?_toArray, List.getElem?_cons_succ, List.getElem?_cons_zero]; rfl)
          have k0 := bg.cell 0; have k1 := bg.cell 1; have f0 := bg.frozen 0; have f1 := bg.frozen 1; simp only [List.getElem?_toArray, List.getElem?_cons_succ, List.getElem?_cons_zero] at k0 k1
          go_simp
          obtain ⟨wn, hwn, bn, hfar, hbf⟩ := store2_f bg (.int .i64 x0) (.int .i64 x1)
          rw [← hwn]
          have hbn := hbf _ _ hbn (by omega); have cv := hfar _ _ _ (by omega) cv; have cq := hfar _ _ _ (by omega) cq; have cs := hfar _ _ _ (by omega) cs; have bh := hfar _ _ _ (by omega) bh; have bg := bn
          clear hwn bn hfar hbf k0 k1 f0 f1
          refine hK.out _ _ ?_ (fun hHeld => ?_)
          · exact ⟨cv, cq, cs⟩
          clear hK K
          try simp only [Act.put, List.setIfInBounds_toArray, List.set_cons_zero, List.set_cons_succ]
          refine wpAnyH_ready (rs := [9]) (by kernel_rfl) (by simp) ?_
          refine AllReadyH.cons (o := ?_) ?_ (fun K hK => ?_) AllReadyH.nil
          rotate_left 1
          · (simp only [List.getElem?_toArray, List.getElem?_cons_succ, List.getElem?_cons_zero]; rfl)
          have k0 := bh.cell 0; have k1 := bh.cell 1; have f0 := bh.frozen 0; have f1 := bh.frozen 1; simp only [List.getElem?_toArray, List.getElem?_cons_succ, List.getElem?_cons_zero] at k0 k1
          go_simp
          obtain ⟨wn, hwn, bn, hfar, hbf⟩ := store2_f bh (.int .i64 y0') (.int .i64 y1')
          rw [← hwn]
          have hbn := hbf _ _ hbn (by omega); have cv := hfar _ _ _ (by omega) cv; have cq := hfar _ _ _ (by omega) cq; have cs := hfar _ _ _ (by omega) cs; have bg := hfar _ _ _ (by omega) bg; have bh := bn
          clear hwn bn hfar hbf k0 k1 f0 f1
          refine hK.out _ _ ?_ (fun hHeld => ?_)
          · exact ⟨cv, cq, cs⟩
          clear hK K
          try simp only [Act.put, List.setIfInBounds_toArray, List.set_cons_zero, List.set_cons_succ]
          refine wpAnyH_done (by kernel_rfl) ?_ _
          go_wp2
          go_meet
          exact ⟨g, h, rfl, rfl, bg, bh, hgh, hgw, hhw, cv, cq, cs, hbn⟩
        refine AllReadyH.cons (o := ?_) ?_ (fun K hK => ?_) AllReadyH.nil
        rotate_left 1
        · (simp only [List.getElem?_toArray, List.getElem?_cons_succ, List.getElem?_cons_zero]; rfl)
        go_simp
        obtain ⟨h, wn, hwn, hh, bh, hcn⟩ := alloc_f wn 59 #[.int .i64 0, .int .i64 0]
        rw [← hwn, ← hh]
        have hhw : w4.heap.size ≤ h := (by have := hbn.size; omega); have hbn := hbn.trans (hcn.mono hbn.size); have cv := cv.same hcn; have cq := cq.same hcn; have cs := cs.same hcn
        clear hwn hh hcn
        refine hK.out _ _ ?_ (fun hHeld => ?_)
        · exact ⟨cv, cq, cs⟩
        clear hK K
        try simp only [Act.put, List.setIfInBounds_toArray, List.set_cons_zero, List.set_cons_succ]
        refine wpAnyH_ready (rs := [2, 6]) (by kernel_rfl) (by simp) ?_
        refine AllReadyH.cons (o := ?_) ?_ (fun K hK => ?_) ?_
        rotate_left 1
        · (simp only [List.getElem?_toArray, List.getElem?_cons_succ, List.getElem?_cons_zero]; rfl)
        · go_simp
          go_at_call 26; refine (HHA.out _).mono ?_; rintro e wn ⟨rfl, hcn⟩
          have hbn := hbn.trans (hcn.mono hbn.size); have cv := cv.same hcn; have cq := cq.same hcn; have cs := cs.same hcn; have bh := bh.same hcn
          clear hcn
          refine hK.out _ _ ?_ (fun hHeld => ?_)
          · exact ⟨cv, cq, cs⟩
          clear hK K
          try simp only [Act.put, List.setIfInBounds_toArray, List.set_cons_zero, List.set_cons_succ]
          refine wpAnyH_ready (rs := [5, 6]) (by kernel_rfl) (by simp) ?_
          refine AllReadyH.cons (o := ?_) ?_ (fun K hK => ?_) ?_
          rotate_left 1
          · (simp only [List.getElem?_toArray, List.getElem?_cons_succ, List.getElem?_cons_zero]; rfl)
          · go_simp
            go_at_call 26; refine (HHB.out _).mono ?_; rintro e wn ⟨rfl, hcn⟩
            have hbn := hbn.trans (hcn.mono hbn.size); have cv := cv.same hcn; have cq := cq.same hcn; have cs := cs.same hcn; have bh := bh.same hcn
            clear hcn
            refine hK.out _ _ ?_ (fun hHeld => ?_)
            · exact ⟨cv, cq, cs⟩
            clear hK K
            try simp only [Act.put, List.setIfInBounds_toArray, List.set_cons_zero, List.set_cons_succ]
            refine wpAnyH_ready (rs := [6]) (by kernel_rfl) (by simp) ?_
            refine AllReadyH.cons (o := ?_) ?_ (fun K hK => ?_) AllReadyH.nil
            rotate_left 1
            · (simp only [List.getElem?_toArray, List.getElem?_cons_succ, List.getElem?_cons_zero]; rfl)
            go_simp
            obtain ⟨g, wn, hwn, hg, bg, hcn⟩ := alloc_f wn 59 #[.int .i64 0, .int .i64 0]
            rw [← hwn, ← hg]
            have hgh : h ≠ g := (by have := bh.lt; omega); have hgw : w4.heap.size ≤ g := (by have := hbn.size; omega); have hbn := hbn.trans (hcn.mono hbn.size); have cv := cv.same hcn; have cq := cq.same hcn; have cs := cs.same hcn; have bh := bh.same hcn
            clear hwn hg hcn
            refine hK.out _ _ ?_ (fun hHeld => ?_)
            · exact ⟨cv, cq, cs⟩
            clear hK K
            try simp only [Act.put, List.setIfInBounds_toArray, List.set_cons_zero, List.set_cons_succ]
            refine wpAnyH_ready (rs := [8]) (by kernel_rfl) (by simp) ?_
            refine AllReadyH.cons (o := ?_) ?_ (fun K hK => ?_) AllReadyH.nil
            rotate_left 1
            · (simp only [List.getElem?_toArray, List.getElem?_cons_succ, List.getElem?_cons_zero]; rfl)
            have k0 := bg.cell 0; have k1 := bg.cell 1; have f0 := bg.frozen 0; have f1 := bg.frozen 1; simp only [List.getElem?_toArray, List.getElem?_cons_succ, List.getElem?_cons_zero] at k0 k1
            go_simp
            obtain ⟨wn, hwn, bn, hfar, hbf⟩ := store2_f bg (.int .i64 x0) (.int .i64 x1)
            rw [← hwn]
            have hbn := hbf _ _ hbn (by omega); have cv := hfar _ _ _ (by omega) cv; have cq := hfar _ _ _ (by omega) cq; have cs := hfar _ _ _ (by omega) cs; have bh := hfar _ _ _ (by omega) bh; have bg := bn
            clear hwn bn hfar hbf k0 k1 f0 f1
            refine hK.out _ _ ?_ (fun hHeld => ?_)
            · exact ⟨cv, cq, cs⟩
            clear hK K
            try simp only [Act.put, List.setIfInBounds_toArray, List.set_cons_zero, List.set_cons_succ]
            refine wpAnyH_ready (rs := [9]) (by kernel_rfl) (by simp) ?_
            refine AllReadyH.cons (o := ?_) ?_ (fun K hK => ?_) AllReadyH.nil
            rotate_left 1
            · (simp only [List.getElem?_toArray, List.getElem?_cons_succ, List.getElem?_cons_zero]; rfl)
            have k0 := bh.cell 0; have k1 := bh.cell 1; have f0 := bh.frozen 0; have f1 := bh.frozen 1; simp only [List.getElem?_toArray, List.getElem?_cons_succ, List.getElem?_cons_zero] at k0 k1
            go_simp
            obtain ⟨wn, hwn, bn, hfar, hbf⟩ := store2_f bh (.int .i64 y0') (.int .i64 y1')
            rw [← hwn]
            have hbn := hbf _ _ hbn (by omega); have cv := hfar _ _ _ (by omega) cv; have cq := hfar _ _ _ (by omega) cq; have cs := hfar _ _ _ (by omega) cs; have bg := hfar _ _ _ (by omega) bg; have bh := bn
            clear hwn bn hfar hbf k0 k1 f0 f1
            refine hK.out _ _ ?_ (fun hHeld => ?_)
            · exact ⟨cv, cq, cs⟩
            clear hK K
            try simp only [Act.put, List.setIfInBounds_toArray, List.set_cons_zero, List.set_cons_succ]
            refine wpAnyH_done (by kernel_rfl) ?_ _
            go_wp2
            go_meet
            exact ⟨g, h, rfl, rfl, bg, bh, hgh, hgw, hhw, cv, cq, cs, hbn⟩
          refine AllReadyH.cons (o := ?_) ?_ (fun K hK => ?_) AllReadyH.nil
          rotate_left 1
          · (simp only [List.getElem?_toArray, List.getElem?_cons_succ, List.getElem?_cons_zero]; rfl)
          go_simp
          obtain ⟨g, wn, hwn, hg, bg, hcn⟩ := alloc_f wn 59 #[.int .i64 0, .int .i64 0]
          rw [← hwn, ← hg]
          have hgh : h ≠ g := (by have := bh.lt; omega); have hgw : w4.heap.size ≤ g := (by have := hbn.size; omega); have hbn := hbn.trans (hcn.mono hbn.size); have cv := cv.same hcn; have cq := cq.same hcn; have cs := cs.same hcn; have bh := bh.same hcn
          clear hwn hg hcn
          refine hK.out _ _ ?_ (fun hHeld => ?_)
          · exact ⟨cv, cq, cs⟩
          clear hK K
          try simp only [Act.put, List.setIfInBounds_toArray, List.set_cons_zero, List.set_cons_succ]
          refine wpAnyH_ready (rs := [5]) (by kernel_rfl) (by simp) ?_
          refine AllReadyH.cons (o := ?_) ?_ (fun K hK => ?_) AllReadyH.nil
          rotate_left 1
          · (simp only [List.getElem?_toArray, List.getElem?_cons_succ, List.getElem?_cons_zero]; rfl)
          go_simp
          go_at_call 26; refine (HHB.out _).mono ?_; rintro e wn ⟨rfl, hcn⟩
          have hbn := hbn.trans (hcn.mono hbn.size); have cv := cv.same hcn; have cq := cq.same hcn; have cs := cs.same hcn; have bg := bg.same hcn; have bh := bh.same hcn
          clear hcn
          refine hK.out _ _ ?_ (fun hHeld => ?_)
          · exact ⟨cv, cq, cs⟩
          clear hK K
          try simp only [Act.put, List.setIfInBounds_toArray, List.set_cons_zero, List.set_cons_succ]
          refine wpAnyH_ready (rs := [8]) (by kernel_rfl) (by simp) ?_
          refine AllReadyH.cons (o := ?_) ?_ (fun K hK => ?_) AllReadyH.nil
          rotate_left 1
          · (simp only [List.getElem?_toArray, List.getElem?_cons_succ, List.getElem?_cons_zero]; rfl)
          have k0 := bg.cell 0; have k1 := bg.cell 1; have f0 := bg.frozen 0; have f1 := bg.frozen 1; simp only [List.getElem?_toArray, List.getElem?_cons_succ, List.getElem?_cons_zero] at k0 k1
          go_simp
          obtain ⟨wn, hwn, bn, hfar, hbf⟩ := store2_f bg (.int .i64 x0) (.int .i64 x1)
          rw [← hwn]
          have hbn := hbf _ _ hbn (by omega); have cv := hfar _ _ _ (by omega) cv; have cq := hfar _ _ _ (by omega) cq; have cs := hfar _ _ _ (by omega) cs; have bh := hfar _ _ _ (by omega) bh; have bg := bn
          clear hwn bn hfar hbf k0 k1 f0 f1
          refine hK.out _ _ ?_ (fun hHeld => ?_)
          · exact ⟨cv, cq, cs⟩
          clear hK K
          try simp only [Act.put, List.setIfInBounds_toArray, List.set_cons_zero, List.set_cons_succ]
          refine wpAnyH_ready (rs := [9]) (by kernel_rfl) (by simp) ?_
          refine AllReadyH.cons (o := ?_) ?_ (fun K hK => ?_) AllReadyH.nil
          rotate_left 1
          · (simp only [List.getElem?_toArray, List.getElem?_cons_succ, List.getElem?_cons_zero]; rfl)
          have k0 := bh.cell 0; have k1 := bh.cell 1; have f0 := bh.frozen 0; have f1 := bh.frozen 1; simp only [List.getElem?_toArray, List.getElem?_cons_succ, List.getElem?_cons_zero] at k0 k1
          go_simp
          obtain ⟨wn, hwn, bn, hfar, hbf⟩ := store2_f bh (.int .i64 y0') (.int .i64 y1')
          rw [← hwn]
          have hbn := hbf _ _ hbn (by omega); have cv := hfar _ _ _ (by omega) cv; have cq := hfar _ _ _ (by omega) cq; have cs := hfar _ _ _ (by omega) cs; have bg := hfar _ _ _ (by omega) bg; have bh := bn
          clear hwn bn hfar hbf k0 k1 f0 f1
          refine hK.out _ _ ?_ (fun hHeld => ?_)
          · exact ⟨cv, cq, cs⟩
          clear hK K
          try simp only [Act.put, List.setIfInBounds_toArray, List.set_cons_zero, List.set_cons_succ]
          refine wpAnyH_done (by kernel_rfl) ?_ _
          go_wp2
          go_meet
          exact ⟨g, h, rfl, rfl, bg, bh, hgh, hgw, hhw, cv, cq, cs, hbn⟩
        refine AllReadyH.cons (o := ?_) ?_ (fun K hK => ?_) AllReadyH.nil
        rotate_left 1
        · (simp only [List.getElem?_toArray, List.getElem?_cons_succ, List.getElem?_cons_zero]; rfl)
        go_simp
        obtain ⟨g, wn, hwn, hg, bg, hcn⟩ := alloc_f wn 59 #[.int .i64 0, .int .i64 0]
        rw [← hwn, ← hg]
        have hgh : h ≠ g := (by have := bh.lt; omega); have hgw : w4.heap.size ≤ g := (by have := hbn.size; omega); have hbn := hbn.trans (hcn.mono hbn.size); have cv := cv.same hcn; have cq := cq.same hcn; have cs := cs.same hcn; have bh := bh.same hcn
        clear hwn hg hcn
        refine hK.out _ _ ?_ (fun hHeld => ?_)
        · exact ⟨cv, cq, cs⟩
        clear hK K
        try simp only [Act.put, List.setIfInBounds_toArray, List.set_cons_zero, List.set_cons_succ]
        refine wpAnyH_ready (rs := [2]) (by kernel_rfl) (by simp) ?_
        refine AllReadyH.cons (o := ?_) ?_ (fun K hK => ?_) AllReadyH.nil
        rotate_left 1
        · (simp only [List.getElem?_toArray, List.getElem?_cons_succ, List.getElem?_cons_zero]; rfl)
        go_simp
        go_at_call 26; refine (HHA.out _).mono ?_; rintro e wn ⟨rfl, hcn⟩
        have hbn := hbn.trans (hcn.mono hbn.size); have cv := cv.same hcn; have cq := cq.same hcn; have cs := cs.same hcn; have bg := bg.same hcn; have bh := bh.same hcn
        clear hcn
        refine hK.out _ _ ?_ (fun hHeld => ?_)
        · exact ⟨cv, cq, cs⟩
        clear hK K
        try simp only [Act.put, List.setIfInBounds_toArray, List.set_cons_zero, List.set_cons_succ]
        refine wpAnyH_ready (rs := [5]) (by kernel_rfl) (by simp) ?_
        refine AllReadyH.cons (o := ?_) ?_ (fun K hK => ?_) AllReadyH.nil
        rotate_left 1
        · (simp only [List.getElem?_toArray, List.getElem?_cons_succ, List.getElem?_cons_zero]; rfl)
        go_simp
        go_at_call 26; refine (HHB.out _).mono ?_; rintro e wn ⟨rfl, hcn⟩
        have hbn := hbn.trans (hcn.mono hbn.size); have cv := cv.same hcn; have cq := cq.same hcn; have cs := cs.same hcn; have bg := bg.same hcn; have bh := bh.same hcn
        clear hcn
        refine hK.out _ _ ?_ (fun hHeld => ?_)
        · exact ⟨cv, cq, cs⟩
        clear hK K
        try simp only [Act.put, List.setIfInBounds_toArray, List.set_cons_zero, List.set_cons_succ]
        refine wpAnyH_ready (rs := [8]) (by kernel_rfl) (by simp) ?_
        refine AllReadyH.cons (o := ?_) ?_ (fun K hK => ?_) AllReadyH.nil
        rotate_left 1
        · (simp only [List.getElem?_toArray, List.getElem?_cons_succ, List.getElem?_cons_zero]; rfl)
        have k0 := bg.cell 0; have k1 := bg.cell 1; have f0 := bg.frozen 0; have f1 := bg.frozen 1; simp only [List.getElem?_toArray, List.getElem?_cons_succ, List.getElem?_cons_zero] at k0 k1
        go_simp
        obtain ⟨wn, hwn, bn, hfar, hbf⟩ := store2_f bg (.int .i64 x0) (.int .i64 x1)
        rw [← hwn]
        have hbn := hbf _ _ hbn (by omega); have cv := hfar _ _ _ (by omega) cv; have cq := hfar _ _ _ (by omega) cq; have cs := hfar _ _ _ (by omega) cs; have bh := hfar _ _ _ (by omega) bh; have bg := bn
        clear hwn bn hfar hbf k0 k1 f0 f1
        refine hK.out _ _ ?_ (fun hHeld => ?_)
        · exact ⟨cv, cq, cs⟩
        clear hK K
        try simp only [Act.put, List.setIfInBounds_toArray, List.set_cons_zero, List.set_cons_succ]
        refine wpAnyH_ready (rs := [9]) (by kernel_rfl) (by simp) ?_
        refine AllReadyH.cons (o := ?_) ?_ (fun K hK => ?_) AllReadyH.nil
        rotate_left 1
        · (simp only [List.getElem?_toArray, List.getElem?_cons_succ, List.getElem?_cons_zero]; rfl)
        have k0 := bh.cell 0; have k1 := bh.cell 1; have f0 := bh.frozen 0; have f1 := bh.frozen 1; simp only [List.getElem?_toArray, List.getElem?_cons_succ, List.getElem?_cons_zero] at k0 k1
        go_simp
        obtain ⟨wn, hwn, bn, hfar, hbf⟩ := store2_f bh (.int .i64 y0') (.int .i64 y1')
        rw [← hwn]
        have hbn := hbf _ _ hbn (by omega); have cv := hfar _ _ _ (by omega) cv; have cq := hfar _ _ _ (by omega) cq; have cs := hfar _ _ _ (by omega) cs; have bg := hfar _ _ _ (by omega) bg; have bh := bn
        clear hwn bn hfar hbf k0 k1 f0 f1
        refine hK.out _ _ ?_ (fun hHeld => ?_)
        · exact ⟨cv, cq, cs⟩
        clear hK K
        try simp only [Act.put, List.setIfInBounds_toArray, List.set_cons_zero, List.set_cons_succ]
        refine wpAnyH_done (by kernel_rfl) ?_ _
        go_wp2
        go_meet
        exact ⟨g, h, rfl, rfl, bg, bh, hgh, hgw, hhw, cv, cq, cs, hbn⟩
      case rest =>
      obtain ⟨g, h, rfl, rfl, bg, bh, hgh, hg4, hh4, cv, cq, cs, hbn⟩ := hcut
      clear y0 y1 y2 y3 y4 y5 y6 p0 p1 s0 s1
      obtain ⟨lb, hlb⟩ : ∃ lb, lb = laterB x0 x1 y0' y1' := ⟨_, rfl⟩
      have k0 := bg.cell 0
      have k1 := bg.cell 1
      have m0 := bh.cell 0
      have m1 := bh.cell 1
      have f0 := bg.frozen 0
      have f1 := bg.frozen 1
      have f2 := bh.frozen 0
      have f3 := bh.frozen 1
      simp only [List.getElem?_toArray, List.getElem?_cons_succ, List.getElem?_cons_zero] at k0 k1 m0 m1
      have HLB0 := hide hlb
      have HGH := hide hgh
      clear hlb
      go_upto_region 7 with fail
      go_cut [51] from 33 to 51 (fun s wx => s = .bool lb ∧ wc = wx)
      case first =>
        by_cases h1 : (y0' : Int) < x0
        · have HL : Hid (lb = true) := hide (by rw [HLB0.out]; unfold laterB; exact decide_eq_true (.inl h1))
          have h1' : y0' < x0 := by omega
          go_wp2
          go_meet
          exact ⟨by rw [HL.out], rfl⟩
        · have h1' : ¬ y0' < x0 := by omega
          by_cases h2 : y0' = x0
          · subst h2
            by_cases h3 : (y1' : Int) < x1
            · have HL : Hid (lb = true) := hide (by rw [HLB0.out]; unfold laterB; exact decide_eq_true (.inr ⟨rfl, h3⟩))
              have h3' : y1' < x1 := by omega
              go_wp2
              go_meet
              exact ⟨by rw [HL.out], rfl⟩
            · have HL : Hid (lb = false) := hide (by rw [HLB0.out]; unfold laterB; exact decide_eq_false (by omega))
              have h3' : ¬ y1' < x1 := by omega
              go_wp2
              go_meet
              exact ⟨by rw [HL.out], rfl⟩
          · have HL : Hid (lb = false) := hide (by rw [HLB0.out]; unfold laterB; exact decide_eq_false (by omega))
            have h2' : ((y0' : Int) == (x0 : Int)) = false := by rw [beq_eq_false_iff_ne]; omega
            go_wp2
            go_meet
            exact ⟨by rw [HL.out], rfl⟩
      case rest =>
      obtain ⟨rfl, rfl⟩ := hcut
      cases lb with
      | true =>
        have HLB : Hid (laterB x0 x1 y0' y1' = true) := hide HLB0.out.symm
        clear HLB0
        go_upto_region 9 with fail
        obtain ⟨wd1, hwd1, bg2, hfar1, hbf1⟩ := store2_f bg (.int .i64 y0') (.int .i64 y1')
        have bh2 := hfar1 _ _ _ hgh bh
        obtain ⟨wd2, hwd2, bh3, hfar2, hbf2⟩ := store2_f bh2 (.int .i64 x0) (.int .i64 x1)
        rw [← hwd1, ← hwd2]
        have bg3 := hfar2 _ _ _ (fun e => hgh e.symm) bg2
        have cv := hfar2 _ _ _ (by omega) (hfar1 _ _ _ (by omega) cv)
        have cq := hfar2 _ _ _ (by omega) (hfar1 _ _ _ (by omega) cq)
        have cs := hfar2 _ _ _ (by omega) (hfar1 _ _ _ (by omega) cs)
        have hbn := hbf2 _ _ (hbf1 _ _ hbn hg4) hh4
        clear hwd1 hwd2 hfar1 hfar2 hbf1 hbf2 bg2 bh2 bg bh
        have hb := hb4.trans (hbn.mono hb4.size)
        have hv5 := hv4.below hbn
        have k0 := bg3.cell 0
        have k1 := bg3.cell 1
        have m0 := bh3.cell 0
        have m1 := bh3.cell 1
        simp only [List.getElem?_toArray, List.getElem?_cons_succ, List.getElem?_cons_zero] at k0 k1 m0 m1
        have y0 := cv.cell 0
        have y1 := cv.cell 1
        have y2 := cv.cell 2
        have y3 := cv.cell 3
        have y4 := cv.cell 4
        have y5 := cv.cell 5
        have y6 := cv.cell 6
        have p0 := cq.cell 0
        have p1 := cq.cell 1
        have s0 := cs.cell 0
        have s1 := cs.cell 1
        simp only [List.getElem?_toArray, List.getElem?_cons_succ, List.getElem?_cons_zero] at y0 y1 y2 y3 y4 y5 y6 p0 p1 s0 s1
        have hsy := HSY.out.1 HLB.out
        have hrf := rText_ok _ _ wd hi r c p au ls y0' y1' x0 x1 wd2 (HX.out wd2 hb) HR.out hsy.2.2 HOR.out.r0
        rw [← hsy.1] at hrf
        have HRF := hide hrf
        have HE12 : Hid (tx2 = tx1) := hide (hsy.2.1.trans hsy.1.symm)
        clear hsy hrf
        go_wp2_with fail
        refine HRF.out.mono ?_
        rintro e w6 ⟨s6, rfl, hv6, hc6⟩
        have hb6 := hb.trans (hc6.mono hb.size)
        have hv7 := hv5.below hc6
        have hs1 := Same_ok _ _ _ _ _ _ _ _ _ hv7.islc hv6.islc
        rw [decide_eq_true rfl] at hs1
        have HS1 := hide hs1
        have cv := cv.same hc6
        have cq := cq.same hc6
        have cs := cs.same hc6
        clear hs1
        go_wp2_with fail
        refine HS1.out.mono ?_
        rintro e w7 ⟨rfl, q, rfl⟩
        have hb7 := below_drewN hb6 q
        have cv := cv.drewN q
        have cq := cq.drewN q
        have cs := cs.drewN q
        have hv8 := hv7.drewN q
        generalize w6.drewN q = w8 at *
        have y0 := cv.cell 0
        have y1 := cv.cell 1
        have y2 := cv.cell 2
        have y3 := cv.cell 3
        have y4 := cv.cell 4
        have y5 := cv.cell 5
        have y6 := cv.cell 6
        have p0 := cq.cell 0
        have p1 := cq.cell 1
        have s0 := cs.cell 0
        have s1 := cs.cell 1
        simp only [List.getElem?_toArray, List.getElem?_cons_succ, List.getElem?_cons_zero] at y0 y1 y2 y3 y4 y5 y6 p0 p1 s0 s1
        go_wp2_with fail
        refine (HT2.out _ hb7).mono ?_
        rw [HE12.out]
        rintro e w9 ⟨s9, rfl, hv9, hc9⟩
        have hb9 := hb7.trans (hc9.mono hb7.size)
        have hv10 := hv8.below hc9
        have hs2 := Same_ok _ _ _ _ _ _ _ _ _ hv9.islc hv10.islc
        rw [decide_eq_true rfl] at hs2
        have HS2 := hide hs2
        clear hs2
        go_wp2_with fail
        refine HS2.out.mono ?_
        rintro e w10 ⟨rfl, q2, rfl⟩
        go_wp2
        go_ret
        exact ⟨rfl, below_drewN hb9 q2⟩
      | false =>
        have HLB : Hid (laterB x0 x1 y0' y1' = false) := hide HLB0.out.symm
        clear HLB0
        have bg3 := bg
        have bh3 := bh
        obtain ⟨wd2, hwd2⟩ : ∃ wd2, wd2 = wc := ⟨_, rfl⟩
        go_upto_region 9 with fail
        subst hwd2
        have hb := hb4.trans (hbn.mono hb4.size)
        have hv5 := hv4.below hbn
        have k0 := bg3.cell 0
        have k1 := bg3.cell 1
        have m0 := bh3.cell 0
        have m1 := bh3.cell 1
        simp only [List.getElem?_toArray, List.getElem?_cons_succ, List.getElem?_cons_zero] at k0 k1 m0 m1
        have y0 := cv.cell 0
        have y1 := cv.cell 1
        have y2 := cv.cell 2
        have y3 := cv.cell 3
        have y4 := cv.cell 4
        have y5 := cv.cell 5
        have y6 := cv.cell 6
        have p0 := cq.cell 0
        have p1 := cq.cell 1
        have s0 := cs.cell 0
        have s1 := cs.cell 1
        simp only [List.getElem?_toArray, List.getElem?_cons_succ, List.getElem?_cons_zero] at y0 y1 y2 y3 y4 y5 y6 p0 p1 s0 s1
        have hsy := HSY.out.2 HLB.out
        have hrf := rText_ok _ _ wd hi r c p au ls x0 x1 y0' y1' wd2 (HX.out wd2 hb) HR.out hsy.2.2 HOR.out.r1
        rw [← hsy.1] at hrf
        have HRF := hide hrf
        have HE12 : Hid (tx2 = tx1) := hide (hsy.2.1.trans hsy.1.symm)
        clear hsy hrf
        go_wp2_with fail
        refine HRF.out.mono ?_
        rintro e w6 ⟨s6, rfl, hv6, hc6⟩
        have hb6 := hb.trans (hc6.mono hb.size)
        have hv7 := hv5.below hc6
        have hs1 := Same_ok _ _ _ _ _ _ _ _ _ hv7.islc hv6.islc
        rw [decide_eq_true rfl] at hs1
        have HS1 := hide hs1
        have cv := cv.same hc6
        have cq := cq.same hc6
        have cs := cs.same hc6
        clear hs1
        go_wp2_with fail
        refine HS1.out.mono ?_
        rintro e w7 ⟨rfl, q, rfl⟩
        have hb7 := below_drewN hb6 q
        have cv := cv.drewN q
        have cq := cq.drewN q
        have cs := cs.drewN q
        have hv8 := hv7.drewN q
        generalize w6.drewN q = w8 at *
        have y0 := cv.cell 0
        have y1 := cv.cell 1
        have y2 := cv.cell 2
        have y3 := cv.cell 3
        have y4 := cv.cell 4
        have y5 := cv.cell 5
        have y6 := cv.cell 6
        have p0 := cq.cell 0
        have p1 := cq.cell 1
        have s0 := cs.cell 0
        have s1 := cs.cell 1
        simp only [List.getElem?_toArray, List.getElem?_cons_succ, List.getElem?_cons_zero] at y0 y1 y2 y3 y4 y5 y6 p0 p1 s0 s1
        go_wp2_with fail
        refine (HT2.out _ hb7).mono ?_
        rw [HE12.out]
        rintro e w9 ⟨s9, rfl, hv9, hc9⟩
        have hb9 := hb7.trans (hc9.mono hb7.size)
        have hv10 := hv8.below hc9
        have hs2 := Same_ok _ _ _ _ _ _ _ _ _ hv9.islc hv10.islc
        rw [decide_eq_true rfl] at hs2
        have HS2 := hide hs2
        clear hs2
        go_wp2_with fail
        refine HS2.out.mono ?_
        rintro e w10 ⟨rfl, q2, rfl⟩
        go_wp2
        go_ret
        exact ⟨rfl, below_drewN hb9 q2⟩
end Go.Proofs.YtejhaepgbfngcaaDoor
