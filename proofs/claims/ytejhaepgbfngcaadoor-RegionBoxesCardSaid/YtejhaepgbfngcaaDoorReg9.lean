/-
  The word at the first place of a view whose first row has no gap; the law's works.
-/
import Derived.Test.YtejhaepgbfngcaaDoorReg8
namespace Go.Proofs.YtejhaepgbfngcaaDoor
open Go.RowKit
set_option linter.unusedVariables false
set_option linter.unusedSimpArgs false

set_option maxHeartbeats 2000000 in
theorem Word0_ok (b : Nat → Addr) (So : Nat → Prop) (x : Value) (wd hi r c : Int) (p au : Bool) (ls : List LineV) (w : World) (hV : VarsA b w) (hx : Slc RLine So (fun b => b < w.heap.size) w x ls) (hlen : ∀ l ∈ ls, l.1.length ≤ 1000000) (hll : ls.length ≤ 1000000)
    (hr : rightV ⟨wd, hi, ls, r, c, p, au⟩ = true) (h0 : 0 < ls.length) (hg : ∀ k (hk : k < ls[0].1.length), gapB ls[0].1[k] = false) :
    Calls Tryd.prog 52 #[.agg #[.int .i64 wd, .int .i64 hi, x, .int .i64 r, .int .i64 c, .bool p, .bool au], .agg #[.int .i64 0, .int .i64 0]] w fun e w' => e = .returned (.tuple #[.int .i64 0, .int .i64 ls[0].1.length]) ∧ Below w.heap.size w w' := by
  obtain ⟨A, cp, rfl, _, _, _⟩ := hx.open_
  have hR := RgtV.of hr
  obtain ⟨W0, hW0⟩ : ∃ W0, W0 = (w.alloc (.cells #[.int .i64 wd, .int .i64 hi, .slice A ls.length cp, .int .i64 r, .int .i64 c, .bool p, .bool au] 40)).alloc (.cells #[.int .i64 0, .int .i64 0] 57) := ⟨_, rfl⟩
  have hb0 : Below w.heap.size w W0 := by rw [hW0]; exact ((Below.refl _ w).alloc (Nat.le_refl _) _).alloc (by simp) _
  have hz0 := hb0.size
  have bv : Blk W0 w.heap.size 40 #[.int .i64 wd, .int .i64 hi, .slice A ls.length cp, .int .i64 r, .int .i64 c, .bool p, .bool au] := by rw [hW0]; exact (Blk.new w 40 _).alloc _
  have bp : Blk W0 (w.heap.size + 1) 57 #[.int .i64 0, .int .i64 0] := by
    rw [hW0]
    have := Blk.new (w.alloc (.cells #[.int .i64 wd, .int .i64 hi, .slice A ls.length cp, .int .i64 r, .int .i64 c, .bool p, .bool au] 40)) 57 #[.int .i64 0, .int .i64 0]
    simpa using this
  have hSo := ASound_ok b So _ wd hi r c p au ls W0 (hV.below hb0) ((hx.mono (Keep.below (S := So) hb0) (Keep.below (S := fun b => b < w.heap.size) hb0)).mono (Keep.refl _ _) (Keep.weaken fun b hb => by omega)) hlen hll
  rw [hr] at hSo
  have e0 : heldF 0 hi = 0 := by have := hR.h1; unfold heldF; omega
  have e1 : heldF 0 wd = 0 := by have := hR.w1; unfold heldF; omega
  have hHH := fun (w : World) => held_ok (.slice A ls.length cp) wd hi r c p au 0 0 w hR.w1 hR.w2 hR.h1 hR.h2
  rw [e0, e1] at hHH
  obtain ⟨ab, off, v9, rfl, _, z0, z1, hv⟩ := line_at hx.slb h0
  obtain ⟨A2, c2, rfl, _, _, _⟩ := hv.open_
  have hab := World.block_lt_of_cell? w _ z0
  simp only [Nat.zero_mul, Nat.add_zero] at hab z0
  have hwl : 0 < ls[0].1.length := by have := (hR.line ls[0] (List.getElem_mem _)).1; have := hR.w1; omega
  have hl0i : (0 : Int) < ls.length := by omega
  have hwi : (0 : Int) < (ls[0].1.length : Int) := by omega
  have HSO := hide hSo
  have HHH := hide hHH
  have HG := hide hg
  have HLE := hide (hlen ls[0] (List.getElem_mem _))
  clear hSo hHH hr hR e0 e1 hg hlen hll
  generalize ls[0].1 = l at *
  obtain ⟨cb, co, v10, rfl, _, y0, y1, _, ht0⟩ := cell_at hv.slb (k := 0) hwl
  obtain ⟨A3, c3, rfl, _, _, _⟩ := ht0.open_
  have hcb := World.block_lt_of_cell? w _ y0
  simp only [Nat.zero_mul, Nat.add_zero] at hcb y0 y1
  subst hW0
  go_enter Tryd.func52, Tryd.ntmps52
  skip
  skip
  have v0 := bv.cell 0
  have v1 := bv.cell 1
  have v2 := bv.cell 2
  have v3 := bv.cell 3
  have v4 := bv.cell 4
  have v5 := bv.cell 5
  have v6 := bv.cell 6
  simp only [List.getElem?_toArray, List.getElem?_cons_succ, List.getElem?_cons_zero] at v0 v1 v2 v3 v4 v5 v6
  go_wp2_with fail
  refine HSO.out.mono ?_
  rintro e w1 ⟨rfl, hc1⟩
  have hb1 := hb0.trans (hc1.mono hz0)
  have bv1 := bv.same hc1
  have bp1 := bp.same hc1
  have v0 := bv1.cell 0
  have v1 := bv1.cell 1
  have v2 := bv1.cell 2
  have v3 := bv1.cell 3
  have v4 := bv1.cell 4
  have v5 := bv1.cell 5
  have v6 := bv1.cell 6
  have p0 := bp1.cell 0
  have p1 := bp1.cell 1
  simp only [List.getElem?_toArray, List.getElem?_cons_succ, List.getElem?_cons_zero] at v0 v1 v2 v3 v4 v5 v6 p0 p1
  go_wp2_with fail
  refine (HHH.out _).mono ?_
  rintro e w2 ⟨rfl, hc2⟩
  have hb2 := hb1.trans (hc2.mono hb1.size)
  have bv2 := bv1.same hc2
  have bp2 := bp1.same hc2
  have f0 := bp2.frozen 0
  have f1 := bp2.frozen 1
  have p0 := bp2.cell 0
  have p1 := bp2.cell 1
  simp only [List.getElem?_toArray, List.getElem?_cons_succ, List.getElem?_cons_zero] at p0 p1
  have hb3 := (hb2.setCell (p := ⟨w.heap.size + 1, 0, none⟩) (by simp) (.int .i64 0)).setCell (p := ⟨w.heap.size + 1, 1, none⟩) (by simp) (.int .i64 0)
  have bv3 := (bv2.far (p := ⟨w.heap.size + 1, 0, none⟩) (by simp) (.int .i64 0)).far (p := ⟨w.heap.size + 1, 1, none⟩) (by simp) (.int .i64 0)
  have bp3 : Blk ((w2.setCell ⟨w.heap.size + 1, 0, none⟩ (.int .i64 0)).setCell ⟨w.heap.size + 1, 1, none⟩ (.int .i64 0)) (w.heap.size + 1) 57 #[.int .i64 0, .int .i64 0] := (bp2.set_ 0 (.int .i64 0)).set_ 1 (.int .i64 0)
  go_upto_region 4 with fail
  generalize (w2.setCell ⟨w.heap.size + 1, 0, none⟩ (.int .i64 0)).setCell ⟨w.heap.size + 1, 1, none⟩ (.int .i64 0) = w3 at *
  have hz3 := hb3.size
  have v2 := bv3.cell 2
  have p0 := bp3.cell 0
  have p1 := bp3.cell 1
  simp only [List.getElem?_toArray, List.getElem?_cons_succ, List.getElem?_cons_zero] at v2 p0 p1
  have q0 := (hb3.cell (p := ⟨ab, off, none⟩) hab).trans z0
  go_wp2
  go_quiet (fail)
  go_wp2
  go_loopw [4] (fun f wr => f = .int .i64 0 ∧ w3.drewN nq = wr) (fun _ _ => 0)
  case atStart => exact ⟨rfl, rfl⟩
  case round =>
    obtain ⟨rfl, rfl⟩ := hrel
    go_wp2
    go_loopw [5] (fun t wr => ∃ k : Nat, k ≤ l.length ∧ t = .int .i64 k ∧ Below w.heap.size w wr ∧ Blk wr (w.heap.size + 1) 57 #[.int .i64 0, .int .i64 0]) (fun t _ => l.length - (intOf t).toNat)
    case atStart => exact ⟨0, Nat.zero_le _, rfl, below_drewN hb3 nq, bp3.drewN nq⟩
    case round =>
      obtain ⟨k, hk, rfl, hb, bq⟩ := hrel
      have hz := hb.size
      by_cases hlt : k < l.length
      · have hki : (k : Int) < l.length := by omega
        obtain ⟨cb', co', v12, hA3, _, z3, z4, _, htx⟩ := cell_at hv.slb (k := k) hlt
        obtain ⟨rfl, rfl⟩ : cb = cb' ∧ co = co' := by cases hA3; exact ⟨rfl, rfl⟩
        have hcl := World.block_lt_of_cell? w _ z3
        simp only at hcl
        have q3 := (hb.cell (p := ⟨cb, co + k * 2, none⟩) hcl).trans z3
        have q4 := (hb.cell (p := ⟨cb, co + k * 2 + 1, none⟩) hcl).trans z4
        have htw := htx.mono (Keep.below (S := fun b => b < w.heap.size) hb) (Keep.below (S := fun b => b < w.heap.size) hb)
        have hgp := gap_ok _ _ l[k].1 v12 l[k].2 _ htw (fun b hb2 => Nat.lt_of_lt_of_le hb2 hz)
        have hgk := HG.out k hlt
        have e : (l[k].1, l[k].2) = l[k] := rfl
        rw [e, hgk] at hgp
        have HGP := hide hgp
        clear hA3 hgp hgk e
        obtain ⟨A4, c4, rfl, _, _, _⟩ := htx.open_
        go_wp2_with fail
        refine HGP.out.mono ?_
        rintro e w7 ⟨rfl, hb7⟩
        go_wp2
        go_roundw
        case rel => exact ⟨k + 1, by omega, by go_num, hb.trans (hb7.mono hz), bq.same hb7⟩
        case measure => simp [intOf]; omega
      · obtain rfl : k = l.length := by omega
        have q3 := (hb.cell (p := ⟨cb, co, none⟩) hcb).trans y0
        have q4 := (hb.cell (p := ⟨cb, co + 1, none⟩) hcb).trans y1
        have htw := ht0.mono (Keep.below (S := fun b => b < w.heap.size) hb) (Keep.below (S := fun b => b < w.heap.size) hb)
        have hgp := gap_ok _ _ l[0].1 _ l[0].2 _ htw (fun b hb2 => Nat.lt_of_lt_of_le hb2 hz)
        have hgk := HG.out 0 hwl
        have e : (l[0].1, l[0].2) = l[0] := rfl
        rw [e, hgk] at hgp
        have HGP := hide hgp
        have p0 := bq.cell 0
        have p1 := bq.cell 1
        simp only [List.getElem?_toArray, List.getElem?_cons_succ, List.getElem?_cons_zero] at p0 p1
        clear hgp hgk e
        go_wp2_with fail
        refine HGP.out.mono ?_
        rintro e w7 ⟨rfl, hb7⟩
        go_wp2
        refine bodyPost_ret (v := .tuple #[.int .i64 0, .int .i64 l.length]) (by simp [results, Tryd.results52, go_sem]) rfl ⟨rfl, hb.trans (hb7.mono hz)⟩
end Go.Proofs.YtejhaepgbfngcaaDoor
