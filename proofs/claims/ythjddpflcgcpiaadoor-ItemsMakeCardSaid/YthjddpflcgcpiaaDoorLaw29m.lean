/-
  The law on the strip of any items: the walk returns true and leaves the memory that was there as it was.
-/
import Derived.Test.YthjddpflcgcpiaaDoorLaw29w
import Derived.Test.YthjddpflcgcpiaaDoorErr5
import Derived.Deep.RegionHeld3
namespace Go.Proofs.YthjddpflcgcpiaaDoor
open Go.RowKit
set_option linter.unusedVariables false
set_option linter.unusedSimpArgs false

/-- The first item before k that may not be; -1: all may. -/
def BadAt (y : List ItemV) (k : Nat) (bd : Int) : Prop :=
  (bd = -1 ∧ ∀ i (h : i < y.length), i < k → rightI y[i] = true) ∨ (∃ j, ∃ h : j < y.length, j < k ∧ bd = j ∧ rightI y[j] = false ∧ ∀ i (hi : i < y.length), i < j → rightI y[i] = true)
theorem cols_at (y : List ItemV) (k : Nat) (h : k < (colsI y).length) : (colsI y)[k] = (wideI (y.take k) : Int) := by
  simp [colsI]

set_option maxHeartbeats 4000000 in
theorem walkS_ItemsMake (b : Nat → Addr) (p : Value) (y : List ItemV) (w : World) (hS : Sents b w) (hT : TypeVar w) (hp : Slc RCell (fun b => b < w.heap.size) (fun b => b < w.heap.size) w p y) :
    Calls Tryd.prog 12 #[p] w fun e w' => e = .returned (.bool true) ∧ Below w.heap.size w w' := by
  obtain ⟨A, c, rfl, hc1, hc2, hB⟩ := hp.open_
  have HSE := hide hS
  have HTV := hide hT
  clear hS hT
  by_cases hl : y.length ≤ 500
  · have hl2 : decide ((500 : Int) < (y.length : Int)) = false := by simp; omega
    go_enter Tryd.func12, Tryd.ntmps12
    go_wp2_with fail
    refine (works29_ok _).mono ?_
    rintro e w1 ⟨rfl, hb1⟩
    have hz1 := hb1.size
    have hp1 := (hp.mono (Keep.below (S := fun b => b < w.heap.size) hb1) (Keep.below (S := fun b => b < w.heap.size) hb1)).mono (So' := fun b => b < w1.heap.size) (Si' := fun b => b < w1.heap.size) (Keep.weaken fun b h => by omega) (Keep.weaken fun b h => by omega)
    go_wp2_with fail
    refine (ICols_ok _ y _ hp1 (by omega)).mono ?_
    rintro e w2 ⟨v2, rfl, hv2, hb2⟩
    have hb2' := hb1.trans (hb2.mono hz1)
    have hz2 := hb2'.size
    have hcl : (colsI y).length = y.length := by simp [colsI]
    have hs2 := hv2.slc.mono (So' := fun b => b < w2.heap.size) (Keep.lt _ _) (Keep.refl _ _)
    obtain ⟨A2, c2, rfl, _, _, hB2⟩ := hs2.open_
    rw [hcl]
    go_wp2
    go_loopw [3, 4, 6] (fun bd n i wr => ∃ (k : Nat) (bi : Int), k ≤ y.length ∧ i = .int .i64 k ∧ n = .int .i64 (wideI (y.take k)) ∧ bd = .int .i64 bi ∧ BadAt y k bi ∧ Below w2.heap.size w2 wr) (fun _ _ i _ => y.length - (intOf i).toNat)
    case atStart => exact ⟨0, -1, Nat.zero_le _, rfl, rfl, rfl, .inl ⟨rfl, fun i _ h => absurd h (Nat.not_lt_zero i)⟩, Below.refl _ _⟩
    case round =>
      obtain ⟨k, bi, hk, rfl, rfl, rfl, hbad, hbel⟩ := hrel
      have hsz := hbel.size
      have hbw := hb2'.trans (hbel.mono hz2)
      have hwl := wide_le (y.take k)
      have htl2 : (y.take k).length ≤ k := List.length_take_le _ _
      have HBAD := hide hbad
      by_cases hlt : k < y.length
      · obtain ⟨ab, off, v, rfl, hab, p0, p1, hw, hv⟩ := cell_at hp.slb hlt
        obtain ⟨A', c', rfl, _, _, _⟩ := hv.open_
        have q0 := (hbw.cell (p := ⟨ab, off + k * 2, none⟩) hab).trans p0
        have q1 := (hbw.cell (p := ⟨ab, off + k * 2 + 1, none⟩) hab).trans p1
        obtain ⟨bb, bo, rfl, hbb, r0, hrw⟩ := ints_at hB2 (j := k) (by omega)
        rw [cols_at] at r0 hrw
        have r1 := (hbel.cell (p := ⟨bb, bo + k, none⟩) hbb).trans r0
        have hvd := (hv.mono (Keep.below (S := fun b => b < w.heap.size) hbw) (Keep.below (S := fun b => b < w.heap.size) hbw)).ints_keep (keep_dr _ wr)
        have hab1 : ab < wr.heap.size := by have := hbw.size; omega
        have hbb1 : bb < wr.heap.size := by omega
        have hwt := wide_take y k hlt
        have HWT := hide hwt
        clear hbad p0 p1 r0 hwt
        generalize hwk : wideI (y.take k) = wk at *
        have hkc : k < y.length := hlt
        go_wp2
        refine wp_region_held_drew (S := fun w' => w'.cell? ⟨ab, off + k * 2, none⟩ = some (.int .i64 y[k].1) ∧ w'.cell? ⟨ab, off + k * 2 + 1, none⟩ = some (.slice A' y[k].2.length c') ∧ w'.cell? ⟨bb, bo + k, none⟩ = some (.int .i64 wk)) (by kernel_rfl) (by go_keep) (fun hHeld => ?_)
        refine wpAnyH_take (i := 0) (oi := ?_) (v := ?_) ?_ (by kernel_rfl) (by kernel_rfl) (by kernel_rfl) ?_ (Or.inl ⟨?_, ?_⟩) (by assumption) ?_
        rotate_left 2
        · (simp only [List.getElem?_toArray, List.getElem?_cons_succ, List.getElem?_cons_zero]; rfl)
        rotate_left 1
        · rfl
        · (intro w hSw; (try dsimp only at hSw); go_simp; try with_reducible rfl)
        rotate_left 1
        · exact fun _ _ _ h => h
        try simp only [Act.put, List.setIfInBounds_toArray, List.set_cons_zero, List.set_cons_succ]
        refine wpAnyH_take (i := 1) (oi := ?_) (v := ?_) ?_ (by kernel_rfl) (by kernel_rfl) (by kernel_rfl) ?_ (Or.inl ⟨?_, ?_⟩) (by assumption) ?_
        rotate_left 2
        · (simp only [List.getElem?_toArray, List.getElem?_cons_succ, List.getElem?_cons_zero]; rfl)
        rotate_left 1
        · rfl
        · (intro w hSw; (try dsimp only at hSw); go_simp; try with_reducible rfl)
        rotate_left 1
        · exact fun _ _ _ h => h
        try simp only [Act.put, List.setIfInBounds_toArray, List.set_cons_zero, List.set_cons_succ]
        refine wpAnyH_take (i := 2) (oi := ?_) (v := ?_) ?_ (by kernel_rfl) (by kernel_rfl) (by kernel_rfl) ?_ (Or.inl ⟨?_, ?_⟩) (by assumption) ?_
        rotate_left 2
        · (simp only [List.getElem?_toArray, List.getElem?_cons_succ, List.getElem?_cons_zero]; rfl)
        rotate_left 1
        · rfl
        · (intro w hSw; (try dsimp only at hSw); go_simp; try with_reducible rfl)
        rotate_left 1
        · exact fun _ _ _ h => h
        try simp only [Act.put, List.setIfInBounds_toArray, List.set_cons_zero, List.set_cons_succ]
        refine wpAnyH_take (i := 3) (oi := ?_) (v := ?_) ?_ (by kernel_rfl) (by kernel_rfl) (by kernel_rfl) ?_ (Or.inl ⟨?_, ?_⟩) (by assumption) ?_
        rotate_left 2
        · (simp only [List.getElem?_toArray, List.getElem?_cons_succ, List.getElem?_cons_zero]; rfl)
        rotate_left 1
        · rfl
        · (intro w hSw; (try dsimp only at hSw); go_simp; try with_reducible rfl)
        rotate_left 1
        · exact fun _ _ _ h => h
        try simp only [Act.put, List.setIfInBounds_toArray, List.set_cons_zero, List.set_cons_succ]
        refine wpAnyH_take (i := 5) (oi := ?_) (v := ?_) ?_ (by kernel_rfl) (by kernel_rfl) (by kernel_rfl) ?_ (Or.inl ⟨?_, ?_⟩) (by assumption) ?_
        rotate_left 2
        · (simp only [List.getElem?_toArray, List.getElem?_cons_succ, List.getElem?_cons_zero]; rfl)
        rotate_left 1
        · rfl
        · (intro w hSw; (try dsimp only at hSw); go_simp; try with_reducible rfl)
        rotate_left 1
        · exact fun _ _ _ h => h
        try simp only [Act.put, List.setIfInBounds_toArray, List.set_cons_zero, List.set_cons_succ]
        refine wpAnyH_take (i := 6) (oi := ?_) (v := ?_) ?_ (by kernel_rfl) (by kernel_rfl) (by kernel_rfl) ?_ (Or.inl ⟨?_, ?_⟩) (by assumption) ?_
        rotate_left 2
        · (simp only [List.getElem?_toArray, List.getElem?_cons_succ, List.getElem?_cons_zero]; rfl)
        rotate_left 1
        · rfl
        · (intro w hSw; (try dsimp only at hSw); go_simp; try with_reducible rfl)
        rotate_left 1
        · exact fun _ _ _ h => h
        try simp only [Act.put, List.setIfInBounds_toArray, List.set_cons_zero, List.set_cons_succ]
        refine wpAnyH_take (i := 7) (oi := ?_) (v := ?_) ?_ (by kernel_rfl) (by kernel_rfl) (by kernel_rfl) ?_ (Or.inl ⟨?_, ?_⟩) (by assumption) ?_
        rotate_left 2
        · (simp only [List.getElem?_toArray, List.getElem?_cons_succ, List.getElem?_cons_zero]; rfl)
        rotate_left 1
        · rfl
        · (intro w hSw; (try dsimp only at hSw); go_simp; try with_reducible rfl)
        rotate_left 1
        · exact fun _ _ _ h => h
        try simp only [Act.put, List.setIfInBounds_toArray, List.set_cons_zero, List.set_cons_succ]
        refine wpAnyH_take (i := 8) (oi := ?_) (v := ?_) ?_ (by kernel_rfl) (by kernel_rfl) (by kernel_rfl) ?_ (Or.inl ⟨?_, ?_⟩) (by assumption) ?_
        rotate_left 2
        · (simp only [List.getElem?_toArray, List.getElem?_cons_succ, List.getElem?_cons_zero]; rfl)
        rotate_left 1
        · rfl
        · (intro w hSw; (try dsimp only at hSw); go_simp; try with_reducible rfl)
        rotate_left 1
        · exact fun _ _ _ h => h
        try simp only [Act.put, List.setIfInBounds_toArray, List.set_cons_zero, List.set_cons_succ]
        refine wpAnyH_ready (rs := [4]) (by kernel_rfl) (by simp) ?_
        refine AllReadyH.cons (o := ?_) ?_ (fun K hK => ?_) AllReadyH.nil
        rotate_left 1
        · (simp only [List.getElem?_toArray, List.getElem?_cons_succ, List.getElem?_cons_zero]; rfl)
        go_simp
        (go_at_call 62; refine (IRight_ok _ _ _ _ y[k].2 _ hw hvd).mono ?_; rintro e w3 ⟨rfl, hb3⟩; have d0 := (hb3.cell (p := ⟨ab, off + k * 2, none⟩) hab1).trans q0; have d1 := (hb3.cell (p := ⟨ab, off + k * 2 + 1, none⟩) hab1).trans q1; have d2 := (hb3.cell (p := ⟨bb, bo + k, none⟩) hbb1).trans r1; have hv3 := hvd.ints_keep (Keep.below hb3))
        refine hK.out _ _ ?_ (fun hHeld => ?_)
        · ((try dsimp only); go_keep)
        clear hK K
        try simp only [Act.put, List.setIfInBounds_toArray, List.set_cons_zero, List.set_cons_succ]
        refine wpAnyH_ready (rs := [9]) (by kernel_rfl) (by simp) ?_
        refine AllReadyH.cons (o := ?_) ?_ (fun K hK => ?_) AllReadyH.nil
        rotate_left 1
        · (simp only [List.getElem?_toArray, List.getElem?_cons_succ, List.getElem?_cons_zero]; rfl)
        go_simp
        (go_at_call 50; refine (rIRight_ok _ _ _ _ y[k].2 _ hw hv3).mono ?_; rintro e w4 ⟨rfl, hb4⟩; have hz3 := hb3.size; have e0 := (hb4.cell (p := ⟨ab, off + k * 2, none⟩) (Nat.lt_of_lt_of_le hab1 hz3)).trans d0; have e1 := (hb4.cell (p := ⟨ab, off + k * 2 + 1, none⟩) (Nat.lt_of_lt_of_le hab1 hz3)).trans d1; have e2 := (hb4.cell (p := ⟨bb, bo + k, none⟩) (Nat.lt_of_lt_of_le hbb1 hz3)).trans d2)
        refine hK.out _ _ ?_ (fun hHeld => ?_)
        · ((try dsimp only); go_keep)
        clear hK K
        try simp only [Act.put, List.setIfInBounds_toArray, List.set_cons_zero, List.set_cons_succ]
        refine wpAnyH_take (i := 10) (oi := ?_) (v := ?_) ?_ (by kernel_rfl) (by kernel_rfl) (by kernel_rfl) ?_ (Or.inl ⟨?_, ?_⟩) (by assumption) ?_
        rotate_left 2
        · (simp only [List.getElem?_toArray, List.getElem?_cons_succ, List.getElem?_cons_zero]; rfl)
        rotate_left 1
        · rfl
        · (intro w hSw; (try dsimp only at hSw); go_simp; try with_reducible rfl)
        rotate_left 1
        · exact fun _ _ _ h => h
        try simp only [Act.put, List.setIfInBounds_toArray, List.set_cons_zero, List.set_cons_succ]
        refine wpAnyH_take (i := 11) (oi := ?_) (v := ?_) ?_ (by kernel_rfl) (by kernel_rfl) (by kernel_rfl) ?_ (Or.inl ⟨?_, ?_⟩) (by assumption) ?_
        rotate_left 2
        · (simp only [List.getElem?_toArray, List.getElem?_cons_succ, List.getElem?_cons_zero]; rfl)
        rotate_left 1
        · rfl
        · (intro w hSw; (try dsimp only at hSw); go_simp; try with_reducible rfl)
        rotate_left 1
        · exact fun _ _ _ h => h
        try simp only [Act.put, List.setIfInBounds_toArray, List.set_cons_zero, List.set_cons_succ]
        refine wpAnyH_take (i := 12) (oi := ?_) (v := ?_) ?_ (by kernel_rfl) (by kernel_rfl) (by kernel_rfl) ?_ (Or.inl ⟨?_, ?_⟩) (by assumption) ?_
        rotate_left 2
        · (simp only [List.getElem?_toArray, List.getElem?_cons_succ, List.getElem?_cons_zero]; rfl)
        rotate_left 1
        · rfl
        · (intro w hSw; (try dsimp only at hSw); go_simp; try with_reducible rfl)
        rotate_left 1
        · exact fun _ _ _ h => h
        try simp only [Act.put, List.setIfInBounds_toArray, List.set_cons_zero, List.set_cons_succ]
        refine wpAnyH_take (i := 13) (oi := ?_) (v := ?_) ?_ (by kernel_rfl) (by kernel_rfl) (by kernel_rfl) ?_ (Or.inl ⟨?_, ?_⟩) (by assumption) ?_
        rotate_left 2
        · (simp only [List.getElem?_toArray, List.getElem?_cons_succ, List.getElem?_cons_zero]; rfl)
        rotate_left 1
        · rfl
        · (intro w hSw; (try dsimp only at hSw); go_simp; try with_reducible rfl)
        rotate_left 1
        · exact fun _ _ _ h => h
        try simp only [Act.put, List.setIfInBounds_toArray, List.set_cons_zero, List.set_cons_succ]
        refine wpAnyH_take (i := 14) (oi := ?_) (v := ?_) ?_ (by kernel_rfl) (by kernel_rfl) (by kernel_rfl) ?_ (Or.inl ⟨?_, ?_⟩) (by assumption) ?_
        rotate_left 2
        · (simp only [List.getElem?_toArray, List.getElem?_cons_succ, List.getElem?_cons_zero]; rfl)
        rotate_left 1
        · rfl
        · (intro w hSw; (try dsimp only at hSw); go_simp; try with_reducible rfl)
        rotate_left 1
        · exact fun _ _ _ h => h
        try simp only [Act.put, List.setIfInBounds_toArray, List.set_cons_zero, List.set_cons_succ]
        refine wpAnyH_take (i := 15) (oi := ?_) (v := ?_) ?_ (by kernel_rfl) (by kernel_rfl) (by kernel_rfl) ?_ (Or.inl ⟨?_, ?_⟩) (by assumption) ?_
        rotate_left 2
        · (simp only [List.getElem?_toArray, List.getElem?_cons_succ, List.getElem?_cons_zero]; rfl)
        rotate_left 1
        · rfl
        · (intro w hSw; (try dsimp only at hSw); go_simp; try with_reducible rfl)
        rotate_left 1
        · exact fun _ _ _ h => h
        try simp only [Act.put, List.setIfInBounds_toArray, List.set_cons_zero, List.set_cons_succ]
        refine wpAnyH_take (i := 16) (oi := ?_) (v := ?_) ?_ (by kernel_rfl) (by kernel_rfl) (by kernel_rfl) ?_ (Or.inl ⟨?_, ?_⟩) (by assumption) ?_
        rotate_left 2
        · (simp only [List.getElem?_toArray, List.getElem?_cons_succ, List.getElem?_cons_zero]; rfl)
        rotate_left 1
        · rfl
        · (intro w hSw; (try dsimp only at hSw); go_simp; try with_reducible rfl)
        rotate_left 1
        · exact fun _ _ _ h => h
        try simp only [Act.put, List.setIfInBounds_toArray, List.set_cons_zero, List.set_cons_succ]
        refine wpAnyH_take (i := 17) (oi := ?_) (v := ?_) ?_ (by kernel_rfl) (by kernel_rfl) (by kernel_rfl) ?_ (Or.inl ⟨?_, ?_⟩) (by assumption) ?_
        rotate_left 2
        · (simp only [List.getElem?_toArray, List.getElem?_cons_succ, List.getElem?_cons_zero]; rfl)
        rotate_left 1
        · rfl
        · (intro w hSw; (try dsimp only at hSw); go_simp; try with_reducible rfl)
        rotate_left 1
        · exact fun _ _ _ h => h
        try simp only [Act.put, List.setIfInBounds_toArray, List.set_cons_zero, List.set_cons_succ]
        refine wpAnyH_take (i := 18) (oi := ?_) (v := ?_) ?_ (by kernel_rfl) (by kernel_rfl) (by kernel_rfl) ?_ (Or.inl ⟨?_, ?_⟩) (by assumption) ?_
        rotate_left 2
        · (simp only [List.getElem?_toArray, List.getElem?_cons_succ, List.getElem?_cons_zero]; rfl)
        rotate_left 1
        · rfl
        · (intro w hSw; (try dsimp only at hSw); go_simp; try with_reducible rfl)
        rotate_left 1
        · exact fun _ _ _ h => h
        try simp only [Act.put, List.setIfInBounds_toArray, List.set_cons_zero, List.set_cons_succ]
        refine wpAnyH_done (by kernel_rfl) ?_ _
        have hz3 := hb3.size
        have hz4 := hb4.size
        have hbel4 := ((below_dr hbel).trans (hb3.mono (by simpa using hsz))).trans (hb4.mono (by simp at hz3; omega))
        have hv4 := hv3.ints_keep (Keep.below hb4)
        rcases HBAD.out with ⟨rfl, hpre⟩ | ⟨j, hj, hjk, rfl, hjr, hpre⟩
        · have HP := hide hpre
          clear hpre
          rcases Bool.eq_false_or_eq_true (rightI y[k]) with hr | hr
          · have HR := hide hr
            clear hr
            go_wp2_with fail
            refine (rIRight_ok _ _ _ _ y[k].2 _ hw hv4).mono ?_
            rw [HR.out]
            rintro e w5 ⟨rfl, hb5⟩
            have f0 := (hb5.cell (p := ⟨ab, off + k * 2, none⟩) (World.block_lt_of_cell? w4 _ e0)).trans e0
            have hbel5 := hbel4.trans (hb5.mono (by simp at hz3; omega))
            have hbad' : BadAt y (k + 1) (-1) := .inl ⟨rfl, fun i hi hik => by
              by_cases e : i = k
              · subst e; exact HR.out
              · exact HP.out i hi (by omega)⟩
            have HBD := hide hbad'
            clear hbad'
            by_cases hw1 : 1 < y[k].1
            · have hwo : wOf y[k].1 = 2 := by unfold wOf; rw [if_pos hw1]
              have HWO := hide hwo
              clear hwo
              go_wp2
              go_roundw
              case rel => exact ⟨k + 1, -1, by omega, by go_num, by rw [HWT.out, HWO.out]; apply int_eq; omega, rfl, HBD.out, hbel5⟩
              case measure => simp [intOf]; omega
            · have hwo : wOf y[k].1 = 1 := by unfold wOf; rw [if_neg hw1]
              have HWO := hide hwo
              clear hwo
              go_wp2
              go_roundw
              case rel => exact ⟨k + 1, -1, by omega, by go_num, by rw [HWT.out, HWO.out]; apply int_eq; omega, rfl, HBD.out, hbel5⟩
              case measure => simp [intOf]; omega
          · have HR := hide hr
            clear hr
            go_wp2_with fail
            refine (rIRight_ok _ _ _ _ y[k].2 _ hw hv4).mono ?_
            rw [HR.out]
            rintro e w5 ⟨rfl, hb5⟩
            have f0 := (hb5.cell (p := ⟨ab, off + k * 2, none⟩) (World.block_lt_of_cell? w4 _ e0)).trans e0
            have hbel5 := hbel4.trans (hb5.mono (by simp at hz3; omega))
            have hbad' : BadAt y (k + 1) k := .inr ⟨k, hkc, by omega, rfl, HR.out, HP.out⟩
            have HBD := hide hbad'
            clear hbad'
            by_cases hw1 : 1 < y[k].1
            · have hwo : wOf y[k].1 = 2 := by unfold wOf; rw [if_pos hw1]
              have HWO := hide hwo
              clear hwo
              go_wp2
              go_roundw
              case rel => exact ⟨k + 1, k, by omega, by go_num, by rw [HWT.out, HWO.out]; apply int_eq; omega, rfl, HBD.out, hbel5⟩
              case measure => simp [intOf]; omega
            · have hwo : wOf y[k].1 = 1 := by unfold wOf; rw [if_neg hw1]
              have HWO := hide hwo
              clear hwo
              go_wp2
              go_roundw
              case rel => exact ⟨k + 1, k, by omega, by go_num, by rw [HWT.out, HWO.out]; apply int_eq; omega, rfl, HBD.out, hbel5⟩
              case measure => simp [intOf]; omega
        · have hj0 : ¬ (j : Int) < 0 := by omega
          have hbad' : BadAt y (k + 1) j := .inr ⟨j, hj, by omega, rfl, hjr, hpre⟩
          have HBD := hide hbad'
          clear hbad' hpre hjr
          by_cases hw1 : 1 < y[k].1
          · have hwo : wOf y[k].1 = 2 := by unfold wOf; rw [if_pos hw1]
            have HWO := hide hwo
            clear hwo
            go_wp2
            go_roundw
            case rel => exact ⟨k + 1, j, by omega, by go_num, by rw [HWT.out, HWO.out]; apply int_eq; omega, rfl, HBD.out, hbel4⟩
            case measure => simp [intOf]; omega
          · have hwo : wOf y[k].1 = 1 := by unfold wOf; rw [if_neg hw1]
            have HWO := hide hwo
            clear hwo
            go_wp2
            go_roundw
            case rel => exact ⟨k + 1, j, by omega, by go_num, by rw [HWT.out, HWO.out]; apply int_eq; omega, rfl, HBD.out, hbel4⟩
            case measure => simp [intOf]; omega
      · obtain rfl : k = y.length := by omega
        rw [List.take_length]
        have hpr := hp.mono (Keep.below (S := fun b => b < w.heap.size) hbw) (Keep.below (S := fun b => b < w.heap.size) hbw)
        have hbz := hbw.size
        have hpr2 := hpr.mono (So' := fun b => b < wr.heap.size) (Si' := fun b => b < wr.heap.size) (Keep.weaken fun b h => by omega) (Keep.weaken fun b h => by omega)
        have hwl2 := wide_le y
        have hcb := cells_back y
        generalize hwk : wideI y = wk at *
        have HCB := hide hcb
        have HWK := hide hwk
        clear hbad hcb hwk
        go_wp2_with fail
        refine (ICells_ok b _ y _ (HSE.out.below (hbw.mono (Nat.le_refl _))) hpr2 (by omega)).mono ?_
        rintro e w5 ⟨hh, hb5⟩
        have hb5' := hbw.trans (hb5.mono hbz)
        have hz5 := hb5'.size
        have hp5 := hp.mono (Keep.below (S := fun b => b < w.heap.size) hb5') (Keep.below (S := fun b => b < w.heap.size) hb5')
        rcases hh with ⟨hall, s5, rfl, hv5⟩ | ⟨j, hj, hpre, hjr, v5, rfl, he5⟩
        · obtain rfl : bi = -1 := by
            rcases HBAD.out with ⟨h, _⟩ | ⟨j, hj, _, _, hjr, _⟩
            · exact h
            · rw [hall y[j] (List.getElem_mem _)] at hjr; cases hjr
          obtain ⟨hc0, hc1', hc2'⟩ := HCB.out hall
          have hv6 := hv5.own 0 (Nat.le_refl _) (Nat.zero_le _)
          have HV := hide hv6
          have hcl2 := hc2'
          have HC0 := hide hc0
          have HC1 := hide hc1'
          obtain ⟨A5, c5, rfl, _, _, _⟩ := hv6.slc.open_
          clear hc0 hc1'
          rw [hcl2]
          go_wp2_with fail
          refine (IWide_ok _ _ _ y _ hp5 (by omega)).mono ?_
          rw [HWK.out]
          rintro e w6 ⟨rfl, hb6⟩
          have hb6' := hb5'.trans (hb6.mono hz5)
          have hz6 := hb6'.size
          have hv6' := HV.out.below hb6
          rw [hcl2] at hv6'
          go_wp2_with fail
          refine (rSound_ok _ _ _ (cellsI y) _ hv6'.slc (by omega)).mono ?_
          rw [HC1.out]
          rintro e w7 ⟨rfl, hb7⟩
          have hb7' := hb6'.trans (hb7.mono hz6)
          have hz7 := hb7'.size
          have hv7 := hv6'.below hb7
          go_wp2_with fail
          refine (rItems_ok _ _ (cellsI y) _ (hv7.slc.mono (Keep.lt _ _) (Keep.lt _ _)) (by omega)).mono ?_
          rw [HC0.out]
          rintro e w8 ⟨v8, rfl, hv8, hb8⟩
          have hb8' := hb7'.trans (hb8.mono hz7)
          have hp8 := hp.mono (Keep.below (S := fun b => b < w.heap.size) hb8') (Keep.below (S := fun b => b < w.heap.size) hb8')
          obtain ⟨A8, c8, rfl, _, _, _⟩ := hv8.slc.open_
          go_wp2_with fail
          refine (rSame29_ok _ _ _ _ _ _ y y _ hv8.slc hp8).mono ?_
          rintro e w9 ⟨rfl, n9, rfl⟩
          rw [decide_eq_true rfl]
          go_wp2
          go_ret
          exact ⟨rfl, below_drewN hb8' n9⟩
        · obtain rfl : bi = j := by
            rcases HBAD.out with ⟨_, h⟩ | ⟨i, hi, _, rfl, hir, hpi⟩
            · rw [h j hj hj] at hjr; cases hjr
            · rcases Nat.lt_trichotomy i j with h | h | h
              · rw [hpre i hi h] at hir; cases hir
              · rw [h]
              · rw [hpi j hj h] at hjr; cases hjr
          have hj0 : (0 : Int) ≤ j := by omega
          have HE5 := hide he5
          obtain ⟨te, ve, rfl⟩ := he5.form
          clear hpre hjr he5
          go_wp2_with fail
          refine (IWide_ok _ _ _ y _ hp5 (by omega)).mono ?_
          rw [HWK.out]
          rintro e w6 ⟨rfl, hb6⟩
          have hb6' := hb5'.trans (hb6.mono hz5)
          have hz6 := hb6'.size
          have he6 := HE5.out.below hb6
          go_wp2_with fail
          refine (Code_ok b _ 4 _ _ (HSE.out.below hb6') he6 (by decide)).mono ?_
          rintro e w7 ⟨rfl, rfl⟩
          go_wp2_with fail
          refine (At_ok b _ 4 _ _ (HTV.out.below hb6') he6).mono ?_
          rintro e w8 ⟨rfl, hb8⟩
          go_wp2
          go_ret
          exact ⟨rfl, hb6'.trans (hb8.mono hz6)⟩
  · have hl2 : decide ((500 : Int) < (y.length : Int)) = true := by simp; omega
    go_enter Tryd.func12, Tryd.ntmps12
    go_wp2_with fail
    refine (works29_ok _).mono ?_
    rintro e w1 ⟨rfl, hb1⟩
    go_wp2_with fail
    refine (works29_ok _).mono ?_
    rintro e w2 ⟨rfl, hb2⟩
    go_wp2
    go_ret
    exact ⟨rfl, hb1.trans (hb2.mono hb1.size)⟩
end Go.Proofs.YthjddpflcgcpiaaDoor
