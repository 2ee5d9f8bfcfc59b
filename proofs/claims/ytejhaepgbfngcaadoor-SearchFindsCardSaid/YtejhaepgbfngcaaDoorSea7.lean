/-
  The law on texts that are sought: the walk returns true and leaves the memory that was there as it was.
-/
import Derived.Test.YtejhaepgbfngcaaDoorSea6
namespace Go.Proofs.YtejhaepgbfngcaaDoor
open Go.RowKit
set_option linter.unusedVariables false
set_option linter.unusedSimpArgs false

theorem nextH_snoc (pre : List HitV) (x : HitV) (r c : Int) : nextH (pre ++ [x]) r c = if (nextH pre r c).2 = true then nextH pre r c else if fromB r c x = true then (x, true) else ((0, 0, 0), false) := by
  unfold nextH
  rw [List.find?_append]
  cases hp : pre.find? (fromB r c) with
  | some h => simp
  | none =>
    cases hx : fromB r c x <;> simp [List.find?_cons, hx]
theorem nextH_off (pre : List HitV) (r c : Int) (h : (nextH pre r c).2 = false) : (nextH pre r c).1 = (0, 0, 0) := by
  unfold nextH at h ⊢
  cases hp : pre.find? (fromB r c) with
  | some y => rw [hp] at h; cases h
  | none => rfl
theorem store3_f {W : World} {g : Nat} {t : TypeId} {a b c : Value} (h : Blk W g t #[a, b, c]) (u v x : Value) : Blk (((W.setCell ⟨g, 0, none⟩ u).setCell ⟨g, 1, none⟩ v).setCell ⟨g, 2, none⟩ x) g t #[u, v, x] := ((h.set_ 0 u).set_ 1 v).set_ 2 x
theorem lawU_all {ls : List LineV} {W : Nat} {wd hi r c : Int} {p au : Bool} {t : List Int} (hw : wd = W) (hr : rightV ⟨wd, hi, ls, r, c, p, au⟩ = true) (ht : 0 < t.length) : allF ⟨wd, hi, ls, r, c, p, au⟩ t = lawU ls W t ls.length := by
  unfold allF
  rw [if_neg (by rintro (h | h); omega; rw [hr] at h; cases h)]
  exact hits_law (Rght.of (v := ⟨wd, hi, ls, r, c, p, au⟩) hw hr) t ht
theorem wide_of {v : ViewV} (h : rightV v = true) : ∃ W : Nat, v.wide = W ∧ W ≤ 1024 := by
  unfold rightV headR at h
  rw [Bool.and_eq_true, Bool.and_eq_true, decide_eq_true_eq] at h
  exact ⟨v.wide.toNat, by omega, by omega⟩

set_option maxRecDepth 4096 in
set_option maxHeartbeats 8000000 in
theorem walkV_SearchFinds (b : Nat → Addr) (cs : Array Value) (v : ViewV) (x1 : Value) (t : List Int) (rr cc : Int) (w : World) (hV : VarsA b w) (hm : RView.E (fun b => b < w.heap.size) w cs.toList v) (hy : Slc (Rep.int .i32) (fun b => b < w.heap.size) (fun b => b < w.heap.size) w x1 t) (hok : LinesOk v.lines) :
    Calls Tryd.prog 4 #[.agg cs, x1, .agg #[.int .i64 rr, .int .i64 cc]] w fun e w' => e = .returned (.bool true) ∧ Below w.heap.size w w' := by
  obtain ⟨x, hcs, _, _, _, _, hx⟩ := view_open hm
  obtain ⟨wd, hi, ls, r, c, p, au⟩ := v
  obtain ⟨l0⟩ := cs
  simp only at hcs hx hok
  subst hcs
  obtain ⟨A, cp, rfl, _, _, _⟩ := hx.open_
  obtain ⟨B, d, rfl, _, _, _⟩ := hy.open_
  obtain ⟨W0, hW0⟩ : ∃ W0, W0 = (w.alloc (.cells #[.int .i64 wd, .int .i64 hi, .slice A ls.length cp, .int .i64 r, .int .i64 c, .bool p, .bool au] 40)).alloc (.cells #[.int .i64 rr, .int .i64 cc] 42) := ⟨_, rfl⟩
  have hb0 : Below w.heap.size w W0 := by rw [hW0]; exact ((Below.refl _ w).alloc (Nat.le_refl _) _).alloc (by simp) _
  have hz0 := hb0.size
  have bv : Blk W0 w.heap.size 40 #[.int .i64 wd, .int .i64 hi, .slice A ls.length cp, .int .i64 r, .int .i64 c, .bool p, .bool au] := by rw [hW0]; exact (Blk.new w 40 #[.int .i64 wd, .int .i64 hi, .slice A ls.length cp, .int .i64 r, .int .i64 c, .bool p, .bool au]).alloc _
  have bp : Blk W0 (w.heap.size + 1) 42 #[.int .i64 rr, .int .i64 cc] := by
    rw [hW0]
    have := Blk.new (w.alloc (.cells #[.int .i64 wd, .int .i64 hi, .slice A ls.length cp, .int .i64 r, .int .i64 c, .bool p, .bool au] 40)) 42 #[.int .i64 rr, .int .i64 cc]
    simpa using this
  have HW := hide (fun W (h : Below w.heap.size w W) => works53_ok b W (hV.below h))
  have HX : Hid (∀ W, Below w.heap.size w W → Slc RLine (fun b => b < w.heap.size) (fun b => b < W.heap.size) W (.slice A ls.length cp) ls) := hide (fun W h => (hx.mono (Keep.below (S := fun b => b < w.heap.size) h) (Keep.below (S := fun b => b < w.heap.size) h)).mono (Keep.refl _ _) (Keep.weaken fun b hb => by have := h.size; omega))
  have HY : Hid (∀ W, Below w.heap.size w W → Slc (Rep.int .i32) (fun b => b < W.heap.size) (fun b => b < W.heap.size) W (.slice B t.length d) t) := hide (fun W h => hy.lt_up (fun _ h => h) h)
  have HG := hide (fun W (h : Below w.heap.size w W) => great53_ok _ _ wd hi r c p au ls W (HX.out W h) hok)
  obtain ⟨hs, hhs⟩ : ∃ hs, allF ⟨wd, hi, ls, r, c, p, au⟩ t = hs := ⟨_, rfl⟩
  obtain ⟨⟨⟨n1, n2, n3⟩, nk⟩, hq⟩ : ∃ q, nextH hs rr cc = q := ⟨_, rfl⟩
  have hA := fun (hl : ∀ l ∈ ls, l.1.length ≤ 2000) (hll : ls.length ≤ 2000) W (h : Below w.heap.size w W) => All_ok b _ (fun _ => True) _ _ wd hi r c p au ls t W (hV.below h) (HX.out W h) (HY.out W h) hl hll
  have hN := fun (hl : ∀ l ∈ ls, l.1.length ≤ 2000) (hll : ls.length ≤ 2000) W (h : Below w.heap.size w W) => Next_ok b _ (fun _ => True) _ _ wd hi r c p au ls t rr cc W (hV.below h) (HX.out W h) (HY.out W h) hl hll
  rw [hhs] at hA hN
  rw [hq] at hN
  simp only at hN
  have HAA := hide hA
  have HNN := hide hN
  have HHS := hide hhs
  have HQ := hide hq
  clear hV hm hok hx hy hA hN hhs hq
  subst hW0
  go_enter Tryd.func4, Tryd.ntmps4
  skip
  skip
  have y0 := bv.cell 0
  have y1 := bv.cell 1
  have y2 := bv.cell 2
  have y3 := bv.cell 3
  have y4 := bv.cell 4
  have y5 := bv.cell 5
  have y6 := bv.cell 6
  have p0 := bp.cell 0
  have p1 := bp.cell 1
  simp only [List.getElem?_toArray, List.getElem?_cons_succ, List.getElem?_cons_zero] at y0 y1 y2 y3 y4 y5 y6 p0 p1
  go_wp2_with fail
  refine (HW.out _ hb0).mono ?_
  rintro e w1 ⟨rfl, hc1⟩
  have hb := hb0.trans (hc1.mono hz0)
  have bv := bv.same hc1
  have bp := bp.same hc1
  have y0 := bv.cell 0
  have y1 := bv.cell 1
  have y2 := bv.cell 2
  have y3 := bv.cell 3
  have y4 := bv.cell 4
  have y5 := bv.cell 5
  have y6 := bv.cell 6
  have p0 := bp.cell 0
  have p1 := bp.cell 1
  simp only [List.getElem?_toArray, List.getElem?_cons_succ, List.getElem?_cons_zero] at y0 y1 y2 y3 y4 y5 y6 p0 p1
  clear hc1
  go_wp2_with fail
  refine (HG.out _ hb).mono ?_
  rintro e w2 ⟨vg, rfl, ⟨g, rfl, hgr⟩, hc2⟩
  have hb := hb.trans (hc2.mono hb.size)
  have bv := bv.same hc2
  have bp := bp.same hc2
  have y0 := bv.cell 0
  have y1 := bv.cell 1
  have y2 := bv.cell 2
  have y3 := bv.cell 3
  have y4 := bv.cell 4
  have y5 := bv.cell 5
  have y6 := bv.cell 6
  have p0 := bp.cell 0
  have p1 := bp.cell 1
  simp only [List.getElem?_toArray, List.getElem?_cons_succ, List.getElem?_cons_zero] at y0 y1 y2 y3 y4 y5 y6 p0 p1
  clear hc2
  cases g with
  | true =>
    clear hgr
    go_wp2_with fail
    refine (HW.out _ hb).mono ?_
    rintro e w3 ⟨rfl, hc3⟩
    go_wp2
    go_ret
    exact ⟨rfl, hb.trans (hc3.mono hb.size)⟩
  | false =>
    by_cases h60 : (60 : Int) < t.length
    · clear hgr
      go_wp2_with fail
      refine (HW.out _ hb).mono ?_
      rintro e w3 ⟨rfl, hc3⟩
      go_wp2
      go_ret
      exact ⟨rfl, hb.trans (hc3.mono hb.size)⟩
    · have hgs := hgr rfl
      have HLL : Hid (ls.length ≤ 100) := hide (by have := hgs.1; omega)
      have HLE : Hid (∀ l ∈ ls, l.1.length ≤ 500) := hide (fun l hl => by have := hgs.2 l hl; omega)
      have HA := hide (HAA.out (fun l hl => by have := hgs.2 l hl; omega) (by have := hgs.1; omega))
      have HN := hide (HNN.out (fun l hl => by have := hgs.2 l hl; omega) (by have := hgs.1; omega))
      have HRR := hide (fun W (h : Below w.heap.size w W) => rRight43_ok _ _ wd hi r c p au ls W (HX.out W h) (fun l hl => by have := HLE.out l hl; omega) (by have := HLL.out; omega))
      clear hgr hgs HAA HNN
      go_wp2_with fail
      refine (HA.out _ hb).mono ?_
      rintro e w3 ⟨s3, rfl, hv3, hc3⟩
      have hb := hb.trans (hc3.mono hb.size)
      have bv := bv.same hc3
      have bp := bp.same hc3
      have hs3 := hv3.slc.mono (So' := fun b => b < w3.heap.size) (Si' := fun b => b < w3.heap.size) (Keep.lt _ _) (Keep.lt _ _)
      obtain ⟨A3, c3, rfl, _, _, _⟩ := hs3.open_
      have y0 := bv.cell 0
      have y1 := bv.cell 1
      have y2 := bv.cell 2
      have y3 := bv.cell 3
      have y4 := bv.cell 4
      have y5 := bv.cell 5
      have y6 := bv.cell 6
      have p0 := bp.cell 0
      have p1 := bp.cell 1
      simp only [List.getElem?_toArray, List.getElem?_cons_succ, List.getElem?_cons_zero] at y0 y1 y2 y3 y4 y5 y6 p0 p1
      clear hc3 hv3
      go_wp2_with fail
      refine (HN.out _ hb).mono ?_
      rintro e w4 ⟨rfl, hc4⟩
      have hb4 := hb.trans (hc4.mono hb.size)
      have hb := hb4.alloc hb4.size (.cells #[.int .i64 n1, .int .i64 n2, .int .i64 n3] 47)
      have bv := (bv.same hc4).alloc (.cells #[.int .i64 n1, .int .i64 n2, .int .i64 n3] 47)
      have bp := (bp.same hc4).alloc (.cells #[.int .i64 n1, .int .i64 n2, .int .i64 n3] 47)
      have b8 := Blk.new w4 47 #[.int .i64 n1, .int .i64 n2, .int .i64 n3]
      have h34 : Below w3.heap.size w3 (w4.alloc (.cells #[.int .i64 n1, .int .i64 n2, .int .i64 n3] 47)) := hc4.alloc hc4.size (.cells #[.int .i64 n1, .int .i64 n2, .int .i64 n3] 47)
      have hs5 := hs3.lt_up (fun _ h => h) h34
      clear hc4 hb4 h34 hs3
      have y0 := bv.cell 0
      have y1 := bv.cell 1
      have y2 := bv.cell 2
      have y3 := bv.cell 3
      have y4 := bv.cell 4
      have y5 := bv.cell 5
      have y6 := bv.cell 6
      have p0 := bp.cell 0
      have p1 := bp.cell 1
      simp only [List.getElem?_toArray, List.getElem?_cons_succ, List.getElem?_cons_zero] at y0 y1 y2 y3 y4 y5 y6 p0 p1
      go_upto_region 5 with fail
      generalize hW5 : w4.alloc (.cells #[.int .i64 n1, .int .i64 n2, .int .i64 n3] 47) = w5 at *
      clear hW5
      go_wp2_with fail
      refine (HRR.out _ hb).mono ?_
      cases hr : rightV ⟨wd, hi, ls, r, c, p, au⟩ with
      | false =>
        rintro e w6 ⟨rfl, hc6⟩
        have b8 := b8.same hc6
        have hE : hs = [] := by rw [← HHS.out]; unfold allF; rw [if_pos (.inr hr)]
        subst hE
        have hq2 := HQ.out.symm
        simp only [nextH, List.find?_nil, Prod.mk.injEq] at hq2
        obtain ⟨⟨rfl, rfl, rfl⟩, rfl⟩ := hq2
        have e0 := b8.cell 0
        have e1 := b8.cell 1
        have e2 := b8.cell 2
        simp only [List.getElem?_toArray, List.getElem?_cons_succ, List.getElem?_cons_zero, List.length_nil] at e0 e1 e2 ⊢
        clear hr
        go_wp2
        go_ret
        exact ⟨rfl, hb.trans (hc6.mono hb.size)⟩
      | true =>
        by_cases ht0 : t.length = 0
        · rintro e w6 ⟨rfl, hc6⟩
          have b8 := b8.same hc6
          have ht1 : ((t.length : Int) == 0) = true := by simp [ht0]
          have hE : hs = [] := by rw [← HHS.out]; unfold allF; rw [if_pos (.inl ht0)]
          subst hE
          have hq2 := HQ.out.symm
          simp only [nextH, List.find?_nil, Prod.mk.injEq] at hq2
          obtain ⟨⟨rfl, rfl, rfl⟩, rfl⟩ := hq2
          have e0 := b8.cell 0
          have e1 := b8.cell 1
          have e2 := b8.cell 2
          simp only [List.getElem?_toArray, List.getElem?_cons_succ, List.getElem?_cons_zero, List.length_nil] at e0 e1 e2 ⊢
          clear hr ht0
          go_wp2
          go_ret
          exact ⟨rfl, hb.trans (hc6.mono hb.size)⟩
        · have ht1 : ((t.length : Int) == 0) = false := by rw [beq_eq_false_iff_ne]; omega
          have htp : 0 < t.length := by omega
          obtain ⟨W, hWd, hW4⟩ := wide_of hr
          simp only at hWd
          have hla := lawU_all hWd hr htp
          have hR := Rght.of (v := ⟨wd, hi, ls, r, c, p, au⟩) hWd hr
          have hSH := right_short hr
          simp only at hR hSH
          rw [HHS.out] at hla
          have HWD := hide hWd
          have HR := hide hR
          have HSH := hide hSH
          have HLA := hide hla
          have HT1 := hide htp
          have HC := hide (fun (i j : Nat) (hd : Head ls W i j) Z (h : Below w.heap.size w Z) => Count_ok _ _ _ wd hi r c p au ls W i j t Z ((HX.out Z h)) ((HY.out Z h).flat_any (Flat.int .i32) (fun _ => False)) HR.out (by omega) (by have := HLL.out; omega) hd HSH.out (by omega))
          clear hr hR hSH hla htp ht0 hWd HHS HRR HG HW HA HN
          rintro e w6 ⟨rfl, hc6⟩
          have hb6 := hb.trans (hc6.mono hb.size)
          have bv6 := bv.same hc6
          have bp6 := bp.same hc6
          have b86 := b8.same hc6
          have hs6 := hs5.lt_up (fun _ h => h) hc6
          have bf0 := Blk.new w6 47 #[.int .i64 0, .int .i64 0, .int .i64 0]
          have h66 : Below w6.heap.size w6 (w6.alloc (.cells #[.int .i64 0, .int .i64 0, .int .i64 0] 47)) := (Below.refl _ _).alloc (Nat.le_refl _) _
          clear hb bv bp b8 hs5 hc6 y0 y1 y2 y3 y4 y5 y6 p0 p1
          go_upto_region 10 with fail
          generalize hWF : w6.alloc (.cells #[.int .i64 0, .int .i64 0, .int .i64 0] 47) = wf at *
          clear hWF
          go_wp2
          go_loopw [10, 12, 13] (fun kv fv iv wr => ∃ (k i : Nat) (f : HitV) (fd : Bool), i ≤ ls.length ∧ k = (lawU ls W t i).length ∧ kv = .int .i64 k ∧ fv = .bool fd ∧ iv = .int .i64 i ∧ nextH (lawU ls W t i) rr cc = (f, fd) ∧ Blk wr w6.heap.size 47 #[.int .i64 f.1, .int .i64 f.2.1, .int .i64 f.2.2] ∧ Below w6.heap.size w6 wr) (fun _ _ iv _ => ls.length - (intOf iv).toNat)
          case atStart => exact ⟨0, 0, (0, 0, 0), false, Nat.zero_le _, rfl, rfl, rfl, rfl, rfl, bf0, h66⟩
          case round =>
            obtain ⟨k, i, f, fd, hi1, hk1, rfl, rfl, rfl, hn1, bf, hbr⟩ := hrel
            have bvr := bv6.same hbr
            have hbw := hb6.trans (hbr.mono hb6.size)
            by_cases hlt : i < ls.length
            · have hii : (i : Int) < ls.length := by omega
              have HK := hide hk1
              have HNH := hide hn1
              have y2 := bvr.cell 2
              simp only [List.getElem?_toArray, List.getElem?_cons_succ, List.getElem?_cons_zero] at y2
              clear hk1 hn1
              go_wp2
              go_loopw [10, 12, 14] (fun kv fv jv wx => ∃ (k j : Nat) (f : HitV) (fd : Bool), j ≤ W ∧ k = (lawU ls W t i ++ lawRow ls t i j).length ∧ kv = .int .i64 k ∧ fv = .bool fd ∧ jv = .int .i64 j ∧ nextH (lawU ls W t i ++ lawRow ls t i j) rr cc = (f, fd) ∧ Blk wx w6.heap.size 47 #[.int .i64 f.1, .int .i64 f.2.1, .int .i64 f.2.2] ∧ Below w6.heap.size w6 wx) (fun _ _ jv _ => W - (intOf jv).toNat)
              case atStart => exact ⟨k, 0, f, fd, Nat.zero_le _, by rw [HK.out]; simp [lawRow], rfl, rfl, rfl, by rw [← HNH.out]; simp [lawRow], bf, hbr⟩
              case round =>
                clear HK HNH bf y2 bvr hbw
                obtain ⟨k, j, f, fd, hj1, hk1, rfl, rfl, rfl, hn1, bf, hbr⟩ := hrel
                have bvr := bv6.same hbr
                have hbw := hb6.trans (hbr.mono hb6.size)
                have HK := hide hk1
                have HNH := hide hn1
                clear hk1 hn1
                have y0 := bvr.cell 0
                have y2 := bvr.cell 2
                have y1 := bvr.cell 1
                have y3 := bvr.cell 3
                have y4 := bvr.cell 4
                have y5 := bvr.cell 5
                have y6 := bvr.cell 6
                simp only [List.getElem?_toArray, List.getElem?_cons_succ, List.getElem?_cons_zero] at y0 y1 y2 y3 y4 y5 y6
                by_cases hjl : j < W
                · have hji : (j : Int) < wd := by have := HWD.out; omega
                  have hxr := HX.out _ hbw
                  obtain ⟨ab, off, v2, rfl, _, q0, q1, hv⟩ := line_at hxr.slb hlt
                  obtain ⟨A2, c2, rfl, _, _, _⟩ := hv.open_
                  have hwi := HR.out.wide i hlt
                  rw [lnAt_at ls hlt] at hwi
                  have hkl : j < ls[i].1.length := by omega
                  have hkli : (j : Int) < ls[i].1.length := by omega
                  obtain ⟨cb, co, v3, rfl, _, q2, q3, _, htx⟩ := cell_at hv.slb (k := j) hkl
                  obtain ⟨kk, hkk⟩ : ∃ kk, kAt (lnAt ls i).1 j = kk := ⟨_, rfl⟩
                  have hkk2 := hkk
                  rw [lnAt_at ls hlt, kAt_at _ hkl] at hkk2
                  rw [hkk2] at q2
                  have HKK := hide hkk
                  obtain ⟨hd, hhd⟩ : ∃ hd, hd = decide (kk = 1 ∨ kk = 2) := ⟨_, rfl⟩
                  have HHD := hide hhd
                  clear hkk hkk2 hwi htx hhd hxr hv
                  go_upto_region 16 with fail
                  go_cut [99] from 70 to 145 (fun s wx => s = .bool (!hd) ∧ wr = wx)
                  case first =>
                    by_cases k1 : kk = 1
                    · have HD : Hid (hd = true) := hide (by rw [HHD.out]; exact decide_eq_true (.inl k1))
                      have k1' : (kk != 1) = false := by simp [k1]
                      clear k1
                      go_wp2
                      go_meet
                      exact ⟨by rw [HD.out]; rfl, rfl⟩
                    · have k1' : (kk != 1) = true := by simp [k1]
                      by_cases k2 : kk = 2
                      · have HD : Hid (hd = true) := hide (by rw [HHD.out]; exact decide_eq_true (.inr k2))
                        have k2' : (kk != 2) = false := by simp [k2]
                        clear k1 k2
                        go_wp2
                        go_meet
                        exact ⟨by rw [HD.out]; rfl, rfl⟩
                      · have HD : Hid (hd = false) := hide (by rw [HHD.out]; exact decide_eq_false (by omega))
                        have k2' : (kk != 2) = true := by simp [k2]
                        clear k1 k2
                        go_wp2
                        go_meet
                        exact ⟨by rw [HD.out]; rfl, rfl⟩
                  case rest =>
                  obtain ⟨rfl, rfl⟩ := hcut
                  clear q0 q1 q2 q3
                  cases hd with
                  | false =>
                    have HLA0 : Hid (lawAt ls t i j = []) := hide (by unfold lawAt; rw [HKK.out, if_neg]; rintro ⟨e, _⟩; exact absurd (decide_eq_true e) (by rw [← HHD.out]; decide))
                    simp only [Bool.not_false]
                    go_wp2
                    go_roundw
                    case rel => exact ⟨k, j + 1, f, fd, by omega, by rw [lawRow_snoc, HLA0.out, List.append_nil]; exact HK.out, rfl, rfl, by go_num, by rw [lawRow_snoc, HLA0.out, List.append_nil]; exact HNH.out, bf, hbr⟩
                    case measure => simp [intOf]; omega
                  | true =>
                    have hhead : Head ls W i j := ⟨hlt, hjl, by rw [HKK.out]; exact of_decide_eq_true HHD.out.symm⟩
                    have hcn := HC.out i j hhead wr hbw
                    obtain ⟨n, hn⟩ : ∃ n, refC ls t t.length 1 [] i j = n := ⟨_, rfl⟩
                    rw [hn] at hcn
                    have HHE : Hid (kAt (lnAt ls i).1 j = 1 ∨ kAt (lnAt ls i).1 j = 2) := hide hhead.2.2
                    have HCN := hide hcn
                    have HNN := hide hn
                    clear hhead hcn hn
                    simp only [Bool.not_true]
                    go_wp2_with fail
                    refine HCN.out.mono ?_
                    rintro e w9 ⟨rfl, hc9⟩
                    have hb9 := hbr.trans (hc9.mono hbr.size)
                    have bf9 := bf.same hc9
                    by_cases hn0 : n = 0
                    · have hn2 : ((n : Int) == 0) = true := by simp [hn0]
                      have HLA0 : Hid (lawAt ls t i j = []) := hide (by unfold lawAt; rw [if_neg]; rintro ⟨_, e⟩; exact e (HNN.out.trans hn0))
                      clear hn0
                      go_wp2
                      go_roundw
                      case rel => exact ⟨k, j + 1, f, fd, by omega, by rw [lawRow_snoc, HLA0.out, List.append_nil]; exact HK.out, rfl, rfl, by go_num, by rw [lawRow_snoc, HLA0.out, List.append_nil]; exact HNH.out, bf9, hb9⟩
                      case measure => simp [intOf]; omega
                    · have hn2 : ((n : Int) == 0) = false := by rw [beq_eq_false_iff_ne]; omega
                      have hla : lawAt ls t i j = [((i : Int), (j : Int), (n : Int))] := by unfold lawAt; rw [HNN.out, if_pos ⟨HHE.out, hn0⟩]
                      have HLA0 := hide hla
                      obtain ⟨rst, hrst⟩ := law_prefix ls W t hlt hjl (n := ls.length)
                      rw [hla, ← HLA.out] at hrst
                      have hkl3 : k < hs.length := by rw [hrst, HK.out]; simp
                      have hat : hs[k] = ((i : Int), (j : Int), (n : Int)) := by
                        have : hs[k]? = some ((i : Int), (j : Int), (n : Int)) := by rw [hrst, HK.out, List.getElem?_append_right (Nat.le_refl _)]; simp
                        exact (List.getElem?_eq_some_iff.1 this).2
                      have hki3 : (k : Int) < hs.length := by omega
                      have hdd : decide ((hs.length : Int) ≤ k) = false := decide_eq_false (by omega)
                      have hs9 := hs6.lt_up (fun _ h => h) hb9
                      have hb10 := hb9.alloc hb9.size (.cells #[.int .i64 i, .int .i64 j, .int .i64 n] 47)
                      have bf10 := bf9.alloc (.cells #[.int .i64 i, .int .i64 j, .int .i64 n] 47)
                      have bg10 := Blk.new w9 47 #[.int .i64 i, .int .i64 j, .int .i64 n]
                      have hs10 := hs6.lt_up (fun _ h => h) hb10
                      obtain ⟨gb, off3, rfl, _, q0, q1, q2⟩ := hit_at hs10.slb hkl3
                      rw [hat] at q0 q1 q2
                      simp only at q0 q1 q2
                      clear hla hrst hat hn0 hs9 hc9 hs10
                      have z0 := bg10.cell 0
                      have z1 := bg10.cell 1
                      have z2 := bg10.cell 2
                      simp only [List.getElem?_toArray, List.getElem?_cons_succ, List.getElem?_cons_zero] at z0 z1 z2
                      go_upto_region 20 with fail
                      generalize hWG : w9.alloc (.cells #[.int .i64 i, .int .i64 j, .int .i64 n] 47) = wg at *
                      have hG9 : w6.heap.size ≤ w9.heap.size := hb9.size
                      have hne9 : w6.heap.size ≠ w9.heap.size := fun e => by have := bf9.lt; omega
                      generalize w9.heap.size = G at *
                      go_cut [122] from 70 to 145 (fun s wx => s = .bool false ∧ ∃ q, wx = wg.drewN q)
                      case first =>
                        go_quiet (fail)
                        go_wp2
                        go_meet
                        exact ⟨bool_eq (decide_eq_false (by omega)), _, rfl⟩
                      case rest =>
                      obtain ⟨rfl, q, rfl⟩ := hcut
                      have hb11 := below_drewN hb10 q
                      have bf11 := bf10.drewN q
                      have bg11 := bg10.drewN q
                      have bp11 := bp6.same hb11
                      clear q0 q1 q2 z0 z1 z2 bf10 bg10 hb10
                      generalize wg.drewN q = wh at *
                      have p0 := bp11.cell 0
                      have p1 := bp11.cell 1
                      have z0 := bg11.cell 0
                      have z1 := bg11.cell 1
                      have z2 := bg11.cell 2
                      simp only [List.getElem?_toArray, List.getElem?_cons_succ, List.getElem?_cons_zero] at p0 p1 z0 z1 z2
                      obtain ⟨nb, hnb⟩ : ∃ nb, nb = (!fd && fromB rr cc ((i : Int), (j : Int), (n : Int))) := ⟨_, rfl⟩
                      have HNB := hide hnb
                      clear hnb
                      go_upto_region 22 with fail
                      go_cut [142] from 70 to 145 (fun s wx => s = .bool nb ∧ wh = wx)
                      case first =>
                        cases fd with
                        | true =>
                          have HE : Hid (nb = false) := hide (by rw [HNB.out]; rfl)
                          go_wp2
                          go_meet
                          exact ⟨by rw [HE.out], rfl⟩
                        | false =>
                          by_cases g1 : rr < i
                          · have HE : Hid (nb = true) := hide (by rw [HNB.out]; unfold fromB; exact decide_eq_true (.inl g1))
                            go_wp2
                            go_meet
                            exact ⟨by rw [HE.out], rfl⟩
                          · by_cases g2 : (i : Int) = rr
                            · have e2 : ((i : Int) == rr) = true := by simpa using g2
                              by_cases g3 : cc ≤ j
                              · have HE : Hid (nb = true) := hide (by rw [HNB.out]; unfold fromB; exact decide_eq_true (.inr ⟨g2, g3⟩))
                                clear g2
                                go_wp2
                                go_meet
                                exact ⟨by rw [HE.out], rfl⟩
                              · have HE : Hid (nb = false) := hide (by rw [HNB.out]; unfold fromB; exact decide_eq_false (by simp only; omega))
                                clear g2
                                go_wp2
                                go_meet
                                exact ⟨by rw [HE.out], rfl⟩
                            · have e2 : ((i : Int) == rr) = false := by simpa using g2
                              have HE : Hid (nb = false) := hide (by rw [HNB.out]; unfold fromB; exact decide_eq_false (by simp only; omega))
                              clear g2
                              go_wp2
                              go_meet
                              exact ⟨by rw [HE.out], rfl⟩
                      case rest =>
                      obtain ⟨rfl, rfl⟩ := hcut
                      have hnew : nextH (lawU ls W t i ++ lawRow ls t i (j + 1)) rr cc = if fd = true then (f, fd) else if fromB rr cc ((i : Int), (j : Int), (n : Int)) = true then (((i : Int), (j : Int), (n : Int)), true) else ((0, 0, 0), false) := by
                        rw [lawRow_snoc, HLA0.out, ← List.append_assoc, nextH_snoc, HNH.out]
                      have hlen : k + 1 = (lawU ls W t i ++ lawRow ls t i (j + 1)).length := by rw [lawRow_snoc, HLA0.out, ← List.append_assoc, List.length_append, ← HK.out]; rfl
                      have HLEN := hide hlen
                      cases nb with
                      | true =>
                        have HNW : Hid (nextH (lawU ls W t i ++ lawRow ls t i (j + 1)) rr cc = (((i : Int), (j : Int), (n : Int)), true)) := hide (by
                          have := HNB.out
                          cases fd with
                          | true => cases this
                          | false =>
                            have e3 : fromB rr cc ((i : Int), (j : Int), (n : Int)) = true := this.symm
                            rw [hnew, if_neg (by decide), if_pos e3])
                        have hst := store3_f bf11 (.int .i64 i) (.int .i64 j) (.int .i64 n)
                        have hbs := ((hb11.setCell (p := ⟨w6.heap.size, 0, none⟩) (Nat.le_refl _) (.int .i64 i)).setCell (p := ⟨w6.heap.size, 1, none⟩) (Nat.le_refl _) (.int .i64 j)).setCell (p := ⟨w6.heap.size, 2, none⟩) (Nat.le_refl _) (.int .i64 n)
                        have f0 := bf11.frozen 0
                        have f1 := bf11.frozen 1
                        have f2 := bf11.frozen 2
                        have HST := hide hst
                        have HBS := hide hbs
                        have o0 := bf11.cell 0
                        have o1 := bf11.cell 1
                        have o2 := bf11.cell 2
                        simp only [List.getElem?_toArray, List.getElem?_cons_succ, List.getElem?_cons_zero] at o0 o1 o2
                        clear hnew hlen hst hbs bf11
                        go_wp2
                        go_roundw
                        case rel => exact ⟨k + 1, j + 1, ((i : Int), (j : Int), (n : Int)), true, by omega, HLEN.out, by go_num, rfl, by go_num, HNW.out, HST.out, HBS.out⟩
                        case measure => simp [intOf]; omega
                      | false =>
                        have HNW : Hid (nextH (lawU ls W t i ++ lawRow ls t i (j + 1)) rr cc = (f, fd)) := hide (by
                          have := HNB.out
                          cases fd with
                          | true => rw [hnew, if_pos rfl]
                          | false =>
                            have hof := nextH_off (lawU ls W t i ++ lawRow ls t i j) rr cc (by rw [HNH.out])
                            rw [HNH.out] at hof
                            have e3 : ¬ fromB rr cc ((i : Int), (j : Int), (n : Int)) = true := by intro e; rw [e] at this; cases this
                            rw [hnew, if_neg (by decide), if_neg e3, show f = (0, 0, 0) from hof])
                        clear hnew hlen
                        go_wp2
                        go_roundw
                        case rel => exact ⟨k + 1, j + 1, f, fd, by omega, HLEN.out, by go_num, rfl, by go_num, HNW.out, bf11, hb11⟩
                        case measure => simp [intOf]; omega
                · have hjn : ¬ (j : Int) < wd := by have := HWD.out; omega
                  obtain rfl : j = W := by omega
                  go_wp2
                  go_roundw
                  case rel => exact ⟨k, i + 1, f, fd, by omega, by rw [lawU_snoc]; exact HK.out, rfl, rfl, by go_num, by rw [lawU_snoc]; exact HNH.out, bf, hbr⟩
                  case measure => simp [intOf]; omega
            · obtain rfl : i = ls.length := by omega
              rw [← HLA.out, HQ.out] at hn1
              rw [← HLA.out] at hk1
              obtain ⟨rfl, rfl⟩ := Prod.mk.inj hn1
              have b8r := b86.same hbr
              have y2 := bvr.cell 2
              have e0 := b8r.cell 0
              have e1 := b8r.cell 1
              have e2 := b8r.cell 2
              have k0 := bf.cell 0
              have k1 := bf.cell 1
              have k2 := bf.cell 2
              simp only [List.getElem?_toArray, List.getElem?_cons_succ, List.getElem?_cons_zero] at y2 e0 e1 e2 k0 k1 k2
              subst hk1
              cases nk with
              | true =>
                go_wp2
                go_ret
                exact ⟨rfl, hbw⟩
              | false =>
                go_wp2
                go_ret
                exact ⟨rfl, hbw⟩
end Go.Proofs.YtejhaepgbfngcaaDoor
