/-
  The law on changes: the walk returns true and leaves the memory that was there as it was.
-/
import Derived.Test.YtcidioomhdkbnaaPc46
namespace Go.Proofs.Ytcidioomhdkbnaa
open Go.RowKit
set_option linter.unusedVariables false
set_option linter.unusedSimpArgs false

theorem chg_steps {A B : List LineV} {k : Nat} {os : List ChangeV} (hab : ∀ i, i < k → (lnD A i).1.length = (lnD B i).1.length) (h : chgU A B k = os) :
    (∀ c ∈ os, ∃ i, i < k ∧ c.1 = (i : Int) ∧ GoodC (lnD A i).1 (lnD B i).1 c) ∧ ∀ m (h : m + 1 < os.length), EarC os[m] os[m + 1] := by
  subst h
  exact ⟨(chg_good A B k hab).1, fun m h => chg_next hab h⟩

set_option maxRecDepth 100000 in
set_option maxHeartbeats 8000000 in
theorem walkV_DiffStretches (So To : Nat → Prop) (x y : Value) (wd hi r c wd' hi' r' c' : Int) (p au p' au' : Bool) (ls ls' : List LineV) (w : World) (hx : Slc RLine So (fun b => b < w.heap.size) w x ls) (hy : Slc RLine To (fun b => b < w.heap.size) w y ls') (hok : LinesOk ls) (hok' : LinesOk ls') :
    Calls Try.prog 3 #[.agg #[.int .i64 wd, .int .i64 hi, x, .int .i64 r, .int .i64 c, .bool p, .bool au], .agg #[.int .i64 wd', .int .i64 hi', y, .int .i64 r', .int .i64 c', .bool p', .bool au']] w fun e w' => e = .returned (.bool true) ∧ Below w.heap.size w w' := by
  obtain ⟨A, cp, rfl, _, _, _⟩ := hx.open_
  obtain ⟨B, cq, rfl, _, _, _⟩ := hy.open_
  have hb0 : Below w.heap.size w ((w.alloc (.cells #[.int .i64 wd, .int .i64 hi, .slice A ls.length cp, .int .i64 r, .int .i64 c, .bool p, .bool au] 26)).alloc (.cells #[.int .i64 wd', .int .i64 hi', .slice B ls'.length cq, .int .i64 r', .int .i64 c', .bool p', .bool au'] 26)) := ((Below.refl _ w).alloc (Nat.le_refl _) _).alloc (by simp) _
  have bv : Blk ((w.alloc (.cells #[.int .i64 wd, .int .i64 hi, .slice A ls.length cp, .int .i64 r, .int .i64 c, .bool p, .bool au] 26)).alloc (.cells #[.int .i64 wd', .int .i64 hi', .slice B ls'.length cq, .int .i64 r', .int .i64 c', .bool p', .bool au'] 26)) w.heap.size 26 #[.int .i64 wd, .int .i64 hi, .slice A ls.length cp, .int .i64 r, .int .i64 c, .bool p, .bool au] := (Blk.new w 26 #[.int .i64 wd, .int .i64 hi, .slice A ls.length cp, .int .i64 r, .int .i64 c, .bool p, .bool au]).alloc _
  have bw : Blk ((w.alloc (.cells #[.int .i64 wd, .int .i64 hi, .slice A ls.length cp, .int .i64 r, .int .i64 c, .bool p, .bool au] 26)).alloc (.cells #[.int .i64 wd', .int .i64 hi', .slice B ls'.length cq, .int .i64 r', .int .i64 c', .bool p', .bool au'] 26)) (w.heap.size + 1) 26 #[.int .i64 wd', .int .i64 hi', .slice B ls'.length cq, .int .i64 r', .int .i64 c', .bool p', .bool au'] := by
    have := Blk.new (w.alloc (.cells #[.int .i64 wd, .int .i64 hi, .slice A ls.length cp, .int .i64 r, .int .i64 c, .bool p, .bool au] 26)) 26 #[.int .i64 wd', .int .i64 hi', .slice B ls'.length cq, .int .i64 r', .int .i64 c', .bool p', .bool au']
    simpa using this
  have HX := hide (fun W (h : Below w.heap.size w W) => (hx.mono (Keep.below (S := So) h) (Keep.below (S := fun b => b < w.heap.size) h)).mono (Keep.refl _ _) (Keep.weaken (S' := fun b => b < W.heap.size) fun b hb => by have := h.size; omega))
  have HY := hide (fun W (h : Below w.heap.size w W) => (hy.mono (Keep.below (S := To) h) (Keep.below (S := fun b => b < w.heap.size) h)).mono (Keep.refl _ _) (Keep.weaken (S' := fun b => b < W.heap.size) fun b hb => by have := h.size; omega))
  have HGA := hide (fun W (h : Below w.heap.size w W) => great46_ok _ _ wd hi r c p au ls W (HX.out W h) hok)
  have HGB := hide (fun W (h : Below w.heap.size w W) => great46_ok _ _ wd' hi' r' c' p' au' ls' W (HY.out W h) hok')
  have HBO := hide (fun (h1 : ls.length ≤ 200 ∧ ∀ l ∈ ls, l.1.length ≤ 2000) (h2 : ls'.length ≤ 200 ∧ ∀ l ∈ ls', l.1.length ≤ 2000) W (h : Below w.heap.size w W) => Both_ok _ _ _ _ wd hi r c wd' hi' r' c' p au p' au' ls ls' W (HX.out W h) (HY.out W h) (fun l hl => by have := h1.2 l hl; omega) (by omega) (fun l hl => by have := h2.2 l hl; omega) (by omega))
  clear hok hok'
  generalize hW0 : (w.alloc (.cells #[.int .i64 wd, .int .i64 hi, .slice A ls.length cp, .int .i64 r, .int .i64 c, .bool p, .bool au] 26)).alloc (.cells #[.int .i64 wd', .int .i64 hi', .slice B ls'.length cq, .int .i64 r', .int .i64 c', .bool p', .bool au'] 26) = w0 at *
  have hz0 := hb0.size
  go_enter Try.func3, Try.ntmps3
  have y0 := bv.cell 0; have y1 := bv.cell 1; have y2 := bv.cell 2; have y3 := bv.cell 3; have y4 := bv.cell 4; have y5 := bv.cell 5; have y6 := bv.cell 6; simp only [List.getElem?_toArray, List.getElem?_cons_succ, List.getElem?_cons_zero] at y0 y1 y2 y3 y4 y5 y6; have z0 := bw.cell 0; have z1 := bw.cell 1; have z2 := bw.cell 2; have z3 := bw.cell 3; have z4 := bw.cell 4; have z5 := bw.cell 5; have z6 := bw.cell 6; simp only [List.getElem?_toArray, List.getElem?_cons_succ, List.getElem?_cons_zero] at z0 z1 z2 z3 z4 z5 z6
  go_wp2_with fail
  refine (works46_ok _).mono ?_
  rintro e w1 ⟨rfl, hc1⟩
  have hb1 := hb0.trans (hc1.mono hz0)
  have hz1 := hb1.size
  have bv := bv.same hc1
  have bw := bw.same hc1
  clear hc1
  have y0 := bv.cell 0; have y1 := bv.cell 1; have y2 := bv.cell 2; have y3 := bv.cell 3; have y4 := bv.cell 4; have y5 := bv.cell 5; have y6 := bv.cell 6; simp only [List.getElem?_toArray, List.getElem?_cons_succ, List.getElem?_cons_zero] at y0 y1 y2 y3 y4 y5 y6; have z0 := bw.cell 0; have z1 := bw.cell 1; have z2 := bw.cell 2; have z3 := bw.cell 3; have z4 := bw.cell 4; have z5 := bw.cell 5; have z6 := bw.cell 6; simp only [List.getElem?_toArray, List.getElem?_cons_succ, List.getElem?_cons_zero] at z0 z1 z2 z3 z4 z5 z6
  go_wp2_with fail
  refine (HGA.out _ hb1).mono ?_
  rintro e w2 ⟨vg, rfl, ⟨g, rfl, hga⟩, hc2⟩
  have hb2 := hb1.trans (hc2.mono hz1)
  have hz2 := hb2.size
  have bv := bv.same hc2
  have bw := bw.same hc2
  clear hc2
  have y0 := bv.cell 0; have y1 := bv.cell 1; have y2 := bv.cell 2; have y3 := bv.cell 3; have y4 := bv.cell 4; have y5 := bv.cell 5; have y6 := bv.cell 6; simp only [List.getElem?_toArray, List.getElem?_cons_succ, List.getElem?_cons_zero] at y0 y1 y2 y3 y4 y5 y6; have z0 := bw.cell 0; have z1 := bw.cell 1; have z2 := bw.cell 2; have z3 := bw.cell 3; have z4 := bw.cell 4; have z5 := bw.cell 5; have z6 := bw.cell 6; simp only [List.getElem?_toArray, List.getElem?_cons_succ, List.getElem?_cons_zero] at z0 z1 z2 z3 z4 z5 z6
  cases g with
  | true =>
    clear hga
    go_wp2_with fail
    refine (works46_ok _).mono ?_
    rintro e w9 ⟨rfl, hc9⟩
    go_wp2
    go_ret
    exact ⟨rfl, hb2.trans (hc9.mono hb2.size)⟩
  | false =>
  have HGA2 := hide (hga rfl)
  clear hga
  go_wp2_with fail
  refine (HGB.out _ hb2).mono ?_
  rintro e w3 ⟨vg, rfl, ⟨g, rfl, hgb⟩, hc3⟩
  have hb3 := hb2.trans (hc3.mono hz2)
  have hz3 := hb3.size
  have bv := bv.same hc3
  have bw := bw.same hc3
  clear hc3
  have y0 := bv.cell 0; have y1 := bv.cell 1; have y2 := bv.cell 2; have y3 := bv.cell 3; have y4 := bv.cell 4; have y5 := bv.cell 5; have y6 := bv.cell 6; simp only [List.getElem?_toArray, List.getElem?_cons_succ, List.getElem?_cons_zero] at y0 y1 y2 y3 y4 y5 y6; have z0 := bw.cell 0; have z1 := bw.cell 1; have z2 := bw.cell 2; have z3 := bw.cell 3; have z4 := bw.cell 4; have z5 := bw.cell 5; have z6 := bw.cell 6; simp only [List.getElem?_toArray, List.getElem?_cons_succ, List.getElem?_cons_zero] at z0 z1 z2 z3 z4 z5 z6
  cases g with
  | true =>
    clear hgb
    go_wp2_with fail
    refine (works46_ok _).mono ?_
    rintro e w9 ⟨rfl, hc9⟩
    go_wp2
    go_ret
    exact ⟨rfl, hb3.trans (hc9.mono hb3.size)⟩
  | false =>
  have HGB2 := hide (hgb rfl)
  clear hgb
  go_wp2_with fail
  refine (HBO.out HGA2.out HGB2.out _ hb3).mono ?_
  obtain ⟨bo, hbo⟩ : ∃ bo, (rightV ⟨wd, hi, ls, r, c, p, au⟩ && rightV ⟨wd', hi', ls', r', c', p', au'⟩ && decide (wd = wd') && decide (hi = hi')) = bo := ⟨_, rfl⟩
  rw [hbo]
  have HBV := hide hbo
  clear hbo
  rintro e w4 ⟨rfl, hc4⟩
  have hb4 := hb3.trans (hc4.mono hz3)
  have hz4 := hb4.size
  have bv := bv.same hc4
  have bw := bw.same hc4
  clear hc4
  have y0 := bv.cell 0; have y1 := bv.cell 1; have y2 := bv.cell 2; have y3 := bv.cell 3; have y4 := bv.cell 4; have y5 := bv.cell 5; have y6 := bv.cell 6; simp only [List.getElem?_toArray, List.getElem?_cons_succ, List.getElem?_cons_zero] at y0 y1 y2 y3 y4 y5 y6; have z0 := bw.cell 0; have z1 := bw.cell 1; have z2 := bw.cell 2; have z3 := bw.cell 3; have z4 := bw.cell 4; have z5 := bw.cell 5; have z6 := bw.cell 6; simp only [List.getElem?_toArray, List.getElem?_cons_succ, List.getElem?_cons_zero] at z0 z1 z2 z3 z4 z5 z6
  cases bo with
  | false =>
    go_wp2_with fail
    refine (works46_ok _).mono ?_
    rintro e w9 ⟨rfl, hc9⟩
    go_wp2
    go_ret
    exact ⟨rfl, hb4.trans (hc9.mono hb4.size)⟩
  | true =>
  have hbo := HBV.out
  rw [Bool.and_eq_true, Bool.and_eq_true, Bool.and_eq_true, decide_eq_true_eq, decide_eq_true_eq] at hbo
  obtain ⟨⟨⟨hra, hrb⟩, hwd⟩, hhi⟩ := hbo
  have HWD := hide hwd.symm
  have HHI := hide hhi.symm
  subst hwd
  subst hhi
  have hO := Of_eq _ _ _ _ wd hi r c r' c' p au p' au' ls ls' w4 (HX.out _ hb4) (HY.out _ hb4) hra hrb
  have HRA := hide (Rgt46.of hra)
  have HRB := hide (Rgt46.of hrb)
  have HO := hide hO
  clear hO hra hrb HBO HGA HGB HGA2 HGB2 HBV
  go_wp2_with fail
  refine HO.out.mono ?_
  rintro e w5 ⟨sv, tv, rfl, hsv, htv, hc5⟩
  have hb5 := hb4.trans (hc5.mono hz4)
  have hz5 := hb5.size
  have bv := bv.same hc5
  have bw := bw.same hc5
  obtain ⟨os, hos⟩ : ∃ os, chgU ls ls' ls.length = os := ⟨_, rfl⟩
  have hab : ∀ i, i < ls.length → (lnD ls i).1.length = (lnD ls' i).1.length := fun i hi => by
    have h1 := HRA.out.hl
    have h2 := HRB.out.hl
    have hi' : i < ls'.length := by omega
    rw [lnD_at ls hi, lnD_at ls' hi']
    have h3 := (HRA.out.line ls[i] (List.getElem_mem _)).1
    have h4 := (HRB.out.line ls'[i] (List.getElem_mem _)).1
    omega
  obtain ⟨hcg, hcn⟩ := chg_steps hab hos
  rw [hos] at hsv
  have hol : os.length ≤ 10000000 := by
    rw [← hos]
    have h1 := chgU_len ls ls' (lnD_short HRA.out) ls.length
    have h2 := HRA.out.hl
    have h3 := HRA.out.h2
    have h4 : ls.length * (1024 + 1) ≤ 1024 * 1025 := Nat.mul_le_mul (by omega) (Nat.le_refl _)
    omega
  have HOL := hide hol
  have HCG := hide hcg
  have HCN := hide hcn
  obtain ⟨A3, c3, rfl, _, _, _⟩ := hsv.slc.open_
  obtain ⟨A4, c4, rfl, _, _, _⟩ := htv.slc.open_
  obtain ⟨n4, hn4⟩ : ∃ n, (wrapU ls ls' ls.length).length = n := ⟨_, rfl⟩
  rw [hn4]
  have hb6 := hb5.alloc hz5 (.cells #[.slice A3 os.length c3, .slice A4 n4 c4, .int .i64 r', .int .i64 c', .bool p', .bool au', .bool false, .int .i64 0, .int .i64 0, .slice none 0 0, .int .i64 0, .int .i64 0, .bool false, .bool false] 33)
  have hsv6 := hsv.alloc (.cells #[.slice A3 os.length c3, .slice A4 n4 c4, .int .i64 r', .int .i64 c', .bool p', .bool au', .bool false, .int .i64 0, .int .i64 0, .slice none 0 0, .int .i64 0, .int .i64 0, .bool false, .bool false] 33)
  have bv := bv.alloc (.cells #[.slice A3 os.length c3, .slice A4 n4 c4, .int .i64 r', .int .i64 c', .bool p', .bool au', .bool false, .int .i64 0, .int .i64 0, .slice none 0 0, .int .i64 0, .int .i64 0, .bool false, .bool false] 33)
  have bw := bw.alloc (.cells #[.slice A3 os.length c3, .slice A4 n4 c4, .int .i64 r', .int .i64 c', .bool p', .bool au', .bool false, .int .i64 0, .int .i64 0, .slice none 0 0, .int .i64 0, .int .i64 0, .bool false, .bool false] 33)
  have bp := Blk.new w5 33 #[.slice A3 os.length c3, .slice A4 n4 c4, .int .i64 r', .int .i64 c', .bool p', .bool au', .bool false, .int .i64 0, .int .i64 0, .slice none 0 0, .int .i64 0, .int .i64 0, .bool false, .bool false]
  clear hol hc5 hos htv hn4 hsv hab hcg hcn
  go_upto_region 6 with fail
  obtain ⟨gp, hgp⟩ : ∃ gp, w5.heap.size = gp := ⟨_, rfl⟩
  rw [hgp] at bp ⊢
  have hsl := hsv6.slc.mono (So' := fun b => b < (w5.alloc (.cells #[.slice A3 os.length c3, .slice A4 n4 c4, .int .i64 r', .int .i64 c', .bool p', .bool au', .bool false, .int .i64 0, .int .i64 0, .slice none 0 0, .int .i64 0, .int .i64 0, .bool false, .bool false] 33)).heap.size) (Si' := fun b => b < (w5.alloc (.cells #[.slice A3 os.length c3, .slice A4 n4 c4, .int .i64 r', .int .i64 c', .bool p', .bool au', .bool false, .int .i64 0, .int .i64 0, .slice none 0 0, .int .i64 0, .int .i64 0, .bool false, .bool false] 33)).heap.size) (Keep.lt _ _) (Keep.lt _ _)
  generalize w5.alloc (.cells #[.slice A3 os.length c3, .slice A4 n4 c4, .int .i64 r', .int .i64 c', .bool p', .bool au', .bool false, .int .i64 0, .int .i64 0, .slice none 0 0, .int .i64 0, .int .i64 0, .bool false, .bool false] 33) = w6 at *
  have hz6 := hb6.size
  generalize (Value.tuple #[.agg #[.slice A3 os.length c3, .slice A4 n4 c4, .int .i64 r', .int .i64 c', .bool p', .bool au', .bool false, .int .i64 0, .int .i64 0, .slice none 0 0, .int .i64 0, .int .i64 0, .bool false, .bool false], .bool true]) = xt
  generalize (Value.agg #[.slice A3 os.length c3, .slice A4 n4 c4, .int .i64 r', .int .i64 c', .bool p', .bool au', .bool false, .int .i64 0, .int .i64 0, .slice none 0 0, .int .i64 0, .int .i64 0, .bool false, .bool false]) = xp
  generalize (Value.agg #[.int .i64 wd, .int .i64 hi, .slice A ls.length cp, .int .i64 r, .int .i64 c, .bool p, .bool au]) = xa
  generalize (Value.agg #[.int .i64 wd, .int .i64 hi, .slice B ls'.length cq, .int .i64 r', .int .i64 c', .bool p', .bool au']) = xb
  clear hgp hsv6
  go_wp2
  go_loopw [7] (fun iv wr => ∃ k : Nat, k ≤ os.length ∧ iv = .int .i64 k ∧ Below w6.heap.size w6 wr) (fun iv _ => os.length - (intOf iv).toNat)
  case atStart => exact ⟨0, Nat.zero_le _, rfl, Below.refl _ _⟩
  case round =>
    obtain ⟨k, hk, rfl, hbr⟩ := hrel
    have hbw := hb6.trans (hbr.mono hz6)
    have bvr := bv.same hbr
    have bwr := bw.same hbr
    have bpr := bp.same hbr
    have u0 := bpr.cell 0
    simp only [List.getElem?_toArray, List.getElem?_cons_succ, List.getElem?_cons_zero] at u0
    by_cases hlt : k < os.length
    · have hki : (k : Int) < os.length := by omega
      obtain ⟨i, hi0, hrow, hgd⟩ := HCG.out os[k] (List.getElem_mem _)
      have hi1 : i < ls'.length := by have := HRA.out.hl; have := HRB.out.hl; omega
      rw [lnD_at ls hi0, lnD_at ls' hi1] at hgd
      obtain ⟨g3, off, v7, rfl, _, p0, p1, p2, _, _, hcv⟩ := change_at hsl.slb hlt
      obtain ⟨A7, c7, rfl, _, _, _⟩ := hcv.open_
      have hg3 := World.block_lt_of_cell? _ _ p0
      simp only at hg3
      have hla := HRA.out.line ls[i] (List.getElem_mem _)
      have hlb := HRB.out.line ls'[i] (List.getElem_mem _)
      have hw1 := HRA.out.w1
      have hw2 := HRA.out.w2
      have hh1 := HRA.out.h1
      have hh2 := HRA.out.h2
      have hhl := HRA.out.hl
      obtain ⟨ab, o1, v8, rfl, _, l0, _, hva⟩ := line_at hx.slb hi0
      obtain ⟨bb, o2, v9, rfl, _, m0, _, hvb⟩ := line_at hy.slb hi1
      obtain ⟨Aa, ca, rfl, _, _, _⟩ := hva.open_
      obtain ⟨Ab, cb, rfl, _, _, _⟩ := hvb.open_
      have hab := World.block_lt_of_cell? _ _ l0
      have hbb := World.block_lt_of_cell? _ _ m0
      simp only at hab hbb
      have hprev : ∀ m, k = m + 1 → ∃ (h : m < os.length), EarC os[m] os[k] := fun m hm => by
        subst hm
        exact ⟨by omega, HCN.out m hlt⟩
      obtain ⟨q, hq⟩ : ∃ q, os[k] = q := ⟨_, rfl⟩
      obtain ⟨row, col, cl⟩ := q
      rw [hq] at hrow hgd p0 p1 p2 hcv hprev
      simp only [hq] at p2 hcv
      obtain rfl : row = (i : Int) := hrow
      obtain ⟨f, rfl⟩ := Int.eq_ofNat_of_zero_le hgd.col
      have hg1 := hgd.some_
      have hg2 := hgd.fits
      simp only [Int.toNat_natCast] at hg1 hg2 p0 p1 p2
      have HGD := hide hgd
      have HPREV := hide hprev
      have hlal : ls[i].1.length = ls'[i].1.length := by omega
      have hla3 := hla.1
      obtain ⟨la, hlae⟩ : ∃ la, ls[i].1 = la := ⟨_, rfl⟩
      obtain ⟨lb, hlbe⟩ : ∃ lb, ls'[i].1 = lb := ⟨_, rfl⟩
      rw [hlae, hlbe] at HGD hlal
      rw [hlae] at hla3 hg2 hva l0
      rw [hlbe] at hvb m0
      have HLW := hide hla3
      have HLL := hide hlal
      obtain ⟨n, hn⟩ : ∃ n, cl.length = n := ⟨_, rfl⟩
      have q0 := (hbr.cell (p := ⟨g3, off + k * 3, none⟩) hg3).trans p0
      have q1 := (hbr.cell (p := ⟨g3, off + k * 3 + 1, none⟩) hg3).trans p1
      have q2 := (hbr.cell (p := ⟨g3, off + k * 3 + 2, none⟩) hg3).trans p2
      have hih : (i : Int) < hi := by omega
      have hfw : (f : Int) + cl.length ≤ wd := by omega
      have hcp : 0 < cl.length := by omega
      clear hlae hlbe hlal hla3 hhl hq hgd hla hlb hprev hn p2 HCG HCN
      have y0 := bvr.cell 0; have y1 := bvr.cell 1; have y2 := bvr.cell 2; have y3 := bvr.cell 3; have y4 := bvr.cell 4; have y5 := bvr.cell 5; have y6 := bvr.cell 6; simp only [List.getElem?_toArray, List.getElem?_cons_succ, List.getElem?_cons_zero] at y0 y1 y2 y3 y4 y5 y6; have z0 := bwr.cell 0; have z1 := bwr.cell 1; have z2 := bwr.cell 2; have z3 := bwr.cell 3; have z4 := bwr.cell 4; have z5 := bwr.cell 5; have z6 := bwr.cell 6; simp only [List.getElem?_toArray, List.getElem?_cons_succ, List.getElem?_cons_zero] at z0 z1 z2 z3 z4 z5 z6
      go_upto_region 10 with fail
      have bc := Blk.new wr 38 #[.int .i64 i, .int .i64 f, .slice A7 cl.length c7]
      have hb7 := hbw.alloc hbw.size (.cells #[.int .i64 i, .int .i64 f, .slice A7 cl.length c7] 38)
      have h67 := hbr.alloc hbr.size (.cells #[.int .i64 i, .int .i64 f, .slice A7 cl.length c7] 38)
      have bv7 := bvr.alloc (.cells #[.int .i64 i, .int .i64 f, .slice A7 cl.length c7] 38)
      have bw7 := bwr.alloc (.cells #[.int .i64 i, .int .i64 f, .slice A7 cl.length c7] 38)
      have bp7 := bpr.alloc (.cells #[.int .i64 i, .int .i64 f, .slice A7 cl.length c7] 38)
      obtain ⟨gc, hgc⟩ : ∃ gc, wr.heap.size = gc := ⟨_, rfl⟩
      rw [hgc] at bc ⊢
      generalize wr.alloc (.cells #[.int .i64 i, .int .i64 f, .slice A7 cl.length c7] 38) = w7 at *
      have hz7 := hb7.size
      clear hgc hbr hbw bvr bwr bpr u0 q0 q1 q2 y0 y1 y2 y3 y4 y5 y6 z0 z1 z2 z3 z4 z5 z6
      have a0 := bv7.cell 0
      have a1 := bv7.cell 1
      have u0 := bp7.cell 0
      have k0 := bc.cell 0
      have k1 := bc.cell 1
      have k2 := bc.cell 2
      simp only [List.getElem?_toArray, List.getElem?_cons_succ, List.getElem?_cons_zero] at a0 a1 u0 k0 k1 k2
      have hA : Ahead w7 g3 off k i f := by
        by_cases hk0 : k = 0
        · exact .inl hk0
        · obtain ⟨m, rfl⟩ : ∃ m, k = m + 1 := ⟨k - 1, by omega⟩
          obtain ⟨hm, hear⟩ := HPREV.out m rfl
          obtain ⟨g4, off4, v10, he, _, r0, r1, _, _, _, _⟩ := change_at hsl.slb hm
          obtain ⟨rfl, rfl⟩ : g3 = g4 ∧ off = off4 := by simpa using he
          have s0 := (h67.cell (p := ⟨g3, off + m * 3, none⟩) hg3).trans r0
          have s1 := (h67.cell (p := ⟨g3, off + m * 3 + 1, none⟩) hg3).trans r1
          exact .inr ⟨m, _, _, rfl, s0, s1, hear⟩
      refine piece10 k0 k1 k2 a0 a1 u0 hlt hih hcp hfw hw2 HOL.out hA ?_
      intro v50 v51 v52 v53 v54 v55 v56 v57 v58 v59 v60 v61 v62 v63 v64 v65 v66 v67 v68 v69 v70 v71 v72 v73 v74 v75 v76 v77 v78 v79 v80 v81 v82 v83 v84 v85 v86 v87 v88 v89 v90 v91 v92 v93 v94 v95 v96 v97 v98 v99 v100 v101 v102 v103 v104 v105 v106 v107 v108 v109 v110 v111 v112 v113 v114 v115 v116 v117 v118 v119 v120 q7
      clear a0 a1 u0 k0 k1 k2 hA
      have bc := bc.drewN q7
      have bv7 := bv7.drewN q7
      have bw7 := bw7.drewN q7
      have hb7 := below_drewN hb7 q7
      have h67 := below_drewN h67 q7
      generalize w7.drewN q7 = w7 at *
      have hz7 := hb7.size
      clear bp7
      go_upto_region 12 with fail
      have d2 := bv7.cell 2
      have e2 := bw7.cell 2
      have k0 := bc.cell 0
      simp only [List.getElem?_toArray, List.getElem?_cons_succ, List.getElem?_cons_zero] at d2 e2 k0
      have l0 := (hb7.cell (p := ⟨ab, o1 + i * 2, none⟩) hab).trans l0
      have m0 := (hb7.cell (p := ⟨bb, o2 + i * 2, none⟩) hbb).trans m0
      have hi2 : (i : Int) < ls.length := by omega
      have hi3 : (i : Int) < ls'.length := by omega
      go_quiet (fail)
      go_upto_region 13 with fail
      have bc8 := bc.drewN nq
      have bv8 := bv7.drewN nq
      have hb8 := below_drewN hb7 nq
      have h68 := below_drewN h67 nq
      generalize w7.drewN nq = w8 at *
      have hz8 := hb8.size
      clear d2 e2 k0 l0 m0 bc bv7 bw7 hb7 h67 hz7
      have k1 := bc8.cell 1
      have k2 := bc8.cell 2
      have d0 := bv8.cell 0
      simp only [List.getElem?_toArray, List.getElem?_cons_succ, List.getElem?_cons_zero] at k1 k2 d0
      have hla2 : la.length ≤ 1024 := by have := HLW.out; omega
      have hsum : (f : Int) + cl.length = ((f + cl.length : Nat) : Int) := by omega
      obtain ⟨en, hen⟩ : ∃ en, f + cl.length = en := ⟨_, rfl⟩
      rw [hen] at hsum hg2
      have HSUM := hide hsum
      have HEN := hide hen
      clear hsum hen
      go_cut [11] from 38 to 187 (fun s wx => s = .int .i64 en ∧ w8 = wx)
      case first =>
        go_wp2
        go_meet
        exact ⟨int_eq HSUM.out, rfl⟩
      case rest =>
      obtain ⟨rfl, rfl⟩ := hcut
      have HVA := hide (fun W (hW : Below w.heap.size w W) => hva.lt_up2 hW)
      have HVB := hide (fun W (hW : Below w.heap.size w W) => hvb.lt_up2 hW)
      have HCV := hide (fun W (hW : Below w6.heap.size w6 W) => hcv.lt_up2 hW)
      have hfe : f < en := by have := HEN.out; omega
      clear hva hvb hcv
      have HAPP := hide (fun (j : Nat) (hj : j < la.length) W (hW : Below w.heap.size w W) => Apart_ok _ _ _ _ _ _ j la lb W (HVA.out W hW) (HVB.out W hW) hj (by rw [← HLL.out]; exact hj) (by omega))
      go_upto_region 14 with fail
      have hdn : en ≤ cb := by
        have := (HVB.out _ hb8).open_
        obtain ⟨_, _, he, h1, _, _⟩ := this
        injection he with e1 e2 e3
        have := HLL.out
        omega
      obtain ⟨bb2, o3, v10, rfl, _, _, _, _, _⟩ := cell_at (HVB.out _ hb8).slb (k := f) (by have := HLL.out; omega)
      have hmid := slc_mid (HVB.out _ hb8) rfl hfe (by have := HLL.out; omega) (by have := ((HVB.out _ hb8).open_); obtain ⟨_, _, he, h1, _, _⟩ := this; injection he with e1 e2 e3; omega) (o3 + f * 2) rfl (cb - f) (en - f) rfl rfl
      have hcl := HGD.out.cells
      simp only [Int.toNat_natCast] at hcl
      rw [HEN.out] at hcl
      have HCL := hide hcl
      have hcv8 := HCV.out _ h68
      have hgl := bc8.lt
      have hwl := bv8.lt
      have hs1 : (f : Int) ≤ en := by omega
      have hs2 : (en : Int) ≤ cb := by omega
      have hs3 : cb ≠ f := by omega
      have hfl : f < la.length := by omega
      have HLX : Hid ((la.length : Int) = wd) := HLW
      clear hcl
      have hcs : ∀ n, Calls Try.prog 10 #[.slice A7 cl.length c7, .slice (some ⟨bb2, o3 + f * 2, none⟩) (en - f) (cb - f)] (w8.drewN n) fun e w' => e = .returned (.bool true) ∧ ∃ m, w' = (w8.drewN n).drewN m := fun n => by
        have := rSame23_ok _ _ _ _ _ _ cl ((lb.take en).drop f) (w8.drewN n) (hcv8.mono (Keep.drewN _ w8 n) (Keep.drewN _ w8 n)) (hmid.mono (Keep.drewN _ w8 n) (Keep.drewN _ w8 n))
        rw [decide_eq_true HCL.out] at this
        exact this
      have HCS := hide hcs
      have HAQ := hide (fun (j : Nat) (hj : j < la.length) (n : Nat) => HAPP.out j hj (w8.drewN n) (below_drewN hb8 n))
      clear hcs hcv8 hmid
      go_cut [175] from 38 to 187 (fun s wx => s = .bool false ∧ ∃ q, wx = w8.drewN q)
      case first =>
        refine wp_region_quiet_lit (by kernel_rfl) (by kernel_rfl) ?_
        by_cases hf0 : 0 < f
        · obtain ⟨fm, hfm⟩ : ∃ fm : Nat, (fm : Int) = (f : Int) - 1 := ⟨f - 1, by omega⟩
          have hsub : IntKind.i64.wrap ((f : Int) - 1) = fm := IntWalk.i64_in _ (by omega) |>.trans hfm.symm
          have hfml : fm < la.length := by omega
          have hl0 : apB la lb fm = false := by
            have := HGD.out.left (by simpa using hf0)
            simp only [Int.toNat_natCast] at this
            rw [show fm = f - 1 by omega]; exact this
          have hca := HAQ.out fm hfml
          rw [hl0] at hca
          have HFM := hide hca
          clear hl0 hfm hca
          by_cases hew : (en : Int) < wd
          · have hel : en < la.length := by have := HLX.out; omega
            have hr0 : apB la lb en = false := by
              have := HGD.out.right
              simp only [Int.toNat_natCast, HEN.out] at this
              exact this hel
            have hca := HAQ.out en hel
            rw [hr0] at hca
            have HENQ := hide hca
            clear hr0 hca
            repeat (go_big_quiet_step (first | (go_at_call 10; with_reducible exact Calls.quiet_of (HCS.out _)) | (go_at_call 11; with_reducible exact Calls.quiet_of (HFM.out _)) | (go_at_call 11; with_reducible exact Calls.quiet_of (HENQ.out _))))
            refine wpQuiet_nil ?_
            intro _ hw'
            obtain ⟨nq, hw''⟩ := hw'
            subst hw''
            go_wp2
            go_meet
            exact ⟨rfl, _, rfl⟩
          · skip
            repeat (go_big_quiet_step (first | (go_at_call 10; with_reducible exact Calls.quiet_of (HCS.out _)) | (go_at_call 11; with_reducible exact Calls.quiet_of (HFM.out _))))
            refine wpQuiet_nil ?_
            intro _ hw'
            obtain ⟨nq, hw''⟩ := hw'
            subst hw''
            go_wp2
            go_meet
            exact ⟨rfl, _, rfl⟩
        · by_cases hew : (en : Int) < wd
          · have hel : en < la.length := by have := HLX.out; omega
            have hr0 : apB la lb en = false := by
              have := HGD.out.right
              simp only [Int.toNat_natCast, HEN.out] at this
              exact this hel
            have hca := HAQ.out en hel
            rw [hr0] at hca
            have HENQ := hide hca
            clear hr0 hca
            repeat (go_big_quiet_step (first | (go_at_call 10; with_reducible exact Calls.quiet_of (HCS.out _)) | (go_at_call 11; with_reducible exact Calls.quiet_of (HENQ.out _))))
            refine wpQuiet_nil ?_
            intro _ hw'
            obtain ⟨nq, hw''⟩ := hw'
            subst hw''
            go_wp2
            go_meet
            exact ⟨rfl, _, rfl⟩
          · skip
            repeat (go_big_quiet_step ((go_at_call 10; with_reducible exact Calls.quiet_of (HCS.out _))))
            refine wpQuiet_nil ?_
            intro _ hw'
            obtain ⟨nq, hw''⟩ := hw'
            subst hw''
            go_wp2
            go_meet
            exact ⟨rfl, _, rfl⟩
      case rest =>
      obtain ⟨rfl, q11, rfl⟩ := hcut
      have hc11 := below_drewN (Below.refl w8.heap.size w8) q11
      have hb12 := hb8.trans (hc11.mono hz8)
      have h612 := h68.trans (hc11.mono h68.size)
      have k1 := (hc11.cell (p := ⟨gc, 1, none⟩) hgl).trans k1
      clear hc11 hb8 h68 bc8 bv8 k2 d0 hgl hwl
      generalize w8.drewN q11 = w12 at *
      go_wp2
      go_loopw [12] (fun jv ws => ∃ j : Nat, f ≤ j ∧ j ≤ en ∧ jv = .int .i64 j ∧ Below w6.heap.size w6 ws ∧ Below w.heap.size w ws) (fun jv _ => en - (intOf jv).toNat)
      case atStart => exact ⟨f, Nat.le_refl _, by omega, rfl, h612, hb12⟩
      case round =>
        obtain ⟨j, hj1, hj2, rfl, h6s, hbs⟩ := hrel
        by_cases hjl : j < en
        · have hji : (j : Int) < en := by omega
          have hja : apB la lb j = true := by
            have := HGD.out.all_ j
            simp only [Int.toNat_natCast, HEN.out] at this
            exact this hj1 hjl
          have HJA := hide hja
          clear hja
          go_wp2_with fail
          refine (HAPP.out j (by omega) _ hbs).mono ?_
          rw [HJA.out]
          rintro e w13 ⟨rfl, q13, rfl⟩
          go_wp2
          go_roundw
          case rel => exact ⟨j + 1, by omega, by omega, by go_num, below_drewN h6s q13, below_drewN hbs q13⟩
          case measure => simp [intOf]; omega
        · have hji : ¬ (j : Int) < en := by omega
          go_wp2
          go_roundw
          case rel => exact ⟨k + 1, by omega, by go_num, h6s⟩
          case measure => simp [intOf]; omega
    · go_wp2
      go_ret
      exact ⟨rfl, hbw⟩
end Go.Proofs.Ytcidioomhdkbnaa
