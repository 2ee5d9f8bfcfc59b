/-
  New rows and grids, the document's new lines, its comparison of lines that are alike, and which line is wrong: what the functions return. Each function once.
-/
import Derived.Test.YtbkenfljknpjgaaDoorGrd3
namespace Go.Proofs.YtbkenfljknpjgaaDoor
open Go.RowKit
set_option linter.unusedVariables false
set_option linter.unusedSimpArgs false

/-- A side, as it must be. -/
def sideN (n : Int) : Nat := (max 1 (min n 1024)).toNat
theorem sideN_range (n : Int) : 1 ≤ sideN n ∧ sideN n ≤ 1024 := by unfold sideN; omega
theorem Side_ok (n : Int) (w : World) : Calls Tryd.prog 28 #[.int .i64 n] w fun e w' => e = .returned (.int .i64 (sideN n)) ∧ w = w' := by
  rcases (by omega : n < 1 ∨ (1 ≤ n ∧ n ≤ 1024) ∨ 1024 < n) with h | ⟨h, h2⟩ | h
  · have e : (sideN n : Int) = 1 := by unfold sideN; omega
    have E := hide e
    clear e
    go_enter Tryd.func28, Tryd.ntmps28
    go_wp2
    go_ret
    exact ⟨by rw [E.out]; rfl, rfl⟩
  · have e : (sideN n : Int) = n := by unfold sideN; omega
    have E := hide e
    clear e
    go_enter Tryd.func28, Tryd.ntmps28
    go_wp2
    go_ret
    exact ⟨by rw [E.out]; rfl, rfl⟩
  · have e : (sideN n : Int) = 1024 := by unfold sideN; omega
    have E := hide e
    clear e
    go_enter Tryd.func28, Tryd.ntmps28
    go_wp2
    go_ret
    exact ⟨by rw [E.out]; rfl, rfl⟩

theorem NewI_ok (n : Int) (hn : (Lit.int .i64 n).wf = true) (w : World) :
    Calls Tryd.prog 42 #[.int .i64 n] w fun e w' => ∃ v, e = .returned v ∧ RowIs w.heap.size w' v (List.replicate (sideN n) (0, [])) false ∧ Below w.heap.size w w' := by
  by_cases h1 : 1 < n
  · have hb : blanksN n = sideN n := by unfold blanksN sideN; omega
    have HR := hide (Blanks_ok n hn)
    have HB := hide hb
    clear hb
    go_enter Tryd.func42, Tryd.ntmps42
    go_wp2_with fail
    refine (HR.out _).mono ?_
    rintro e w1 ⟨v1, rfl, hv1, hb1⟩
    rw [HB.out] at hv1
    obtain ⟨A1, c1, rfl, _, _, _⟩ := hv1.slc.open_
    rw [List.length_replicate] at hv1
    go_wp2
    go_ret
    exact ⟨_, rfl, ⟨w1.heap.size, _, rfl, hb1.size, Blk.new _ _ _, (own2_blanks hv1 (Nat.le_refl _)).alloc _⟩, hb1.alloc hb1.size _⟩
  · have hb : sideN n = 1 := by unfold sideN; omega
    have HB := hide hb
    have HR := hide (New_ok 1 (by omega) (by omega))
    have hle : n ≤ 1 := by omega
    rcases (by omega : n = 1 ∨ n < 1) with rfl | hlt
    · refine (HR.out w).mono ?_
      rw [HB.out]
      exact fun _ _ h => h
    · have HR2 := hide (Blanks_ok 1 (by decide))
      clear hle h1
      go_enter Tryd.func42, Tryd.ntmps42
      go_wp2_with fail
      refine (HR2.out _).mono ?_
      rintro e w1 ⟨v1, rfl, hv1, hb1⟩
      rw [show blanksN 1 = 1 by decide] at hv1
      obtain ⟨A1, c1, rfl, _, _, _⟩ := hv1.slc.open_
      rw [List.length_replicate] at hv1
      go_wp2
      go_ret
      rw [HB.out]
      exact ⟨_, rfl, ⟨w1.heap.size, _, rfl, hb1.size, Blk.new _ _ _, (own2_blanks hv1 (Nat.le_refl _)).alloc _⟩, hb1.alloc hb1.size _⟩

set_option maxHeartbeats 2000000 in
theorem GNew_ok (n h : Int) (hn : (Lit.int .i64 n).wf = true) (hh : (Lit.int .i64 h).wf = true) (w : World) :
    Calls Tryd.prog 27 #[.int .i64 n, .int .i64 h] w fun e w' => ∃ v qs, e = .returned v ∧ GridP w.heap.size w' v qs ∧ qs.map Prod.snd = List.replicate (sideN h) (List.replicate (sideN n) (0, []), false) ∧ Below w.heap.size w w' := by
  have HN := hide (NewI_ok n hn)
  have bn := Blk.new w 78 #[.slice none 0 0]
  have hb1 := (Below.refl w.heap.size w).alloc (Nat.le_refl _) (.cells #[.slice none 0 0] 78)
  obtain ⟨m, hm⟩ : ∃ m, sideN h = m := ⟨_, rfl⟩
  have hm2 := sideN_range h
  rw [hm] at hm2
  rw [hm]
  have HM := hide hm
  obtain ⟨bl, hbl⟩ : ∃ bl : LineV, (List.replicate (sideN n) ((0, []) : CellV), false) = bl := ⟨_, rfl⟩
  rw [hbl]
  have HBL := hide hbl
  clear hm hn hbl
  go_enter Tryd.func27, Tryd.ntmps27
  go_upto_region 2 with fail
  go_cut [10, 11] from 8 to 11 (fun s t wx => s = .int .i64 m ∧ t = .int .i64 0 ∧ w.alloc (.cells #[.slice none 0 0] 78) = wx)
  case first =>
    rcases (by omega : h < 1 ∨ h = 1 ∨ (1 < h ∧ h < 1024) ∨ h = 1024 ∨ 1024 < h) with h1 | h1 | ⟨h1, h2⟩ | h1 | h1
    · have E : Hid ((1 : Int) = m) := hide (by rw [← HM.out]; unfold sideN; omega)
      have h3 : h < 1024 := by omega
      go_wp2
      go_meet
      exact ⟨int_eq E.out, rfl, rfl⟩
    · subst h1
      have E : Hid ((1 : Int) = m) := hide (by rw [← HM.out]; unfold sideN; omega)
      go_wp2
      go_meet
      exact ⟨int_eq E.out, rfl, rfl⟩
    · have E : Hid (h = m) := hide (by rw [← HM.out]; unfold sideN; omega)
      go_wp2
      go_meet
      exact ⟨int_eq E.out, rfl, rfl⟩
    · subst h1
      have E : Hid ((1024 : Int) = m) := hide (by rw [← HM.out]; unfold sideN; omega)
      go_wp2
      go_meet
      exact ⟨int_eq E.out, rfl, rfl⟩
    · have E : Hid ((1024 : Int) = m) := hide (by rw [← HM.out]; unfold sideN; omega)
      go_wp2
      go_meet
      exact ⟨int_eq E.out, rfl, rfl⟩
  case rest =>
    obtain ⟨rfl, rfl, rfl⟩ := hcut
    go_wp2
    go_loopw [11] (fun iv wr => ∃ k : Nat, k ≤ m ∧ iv = .int .i64 k ∧ ∃ (sv : Value) (qs : List RowP), qs.map Prod.snd = List.replicate k bl ∧ Blk wr w.heap.size 78 #[sv] ∧ Own RVal 33 [] w.heap.size wr sv (qs.map Prod.fst) ∧ RowsP w.heap.size wr qs ∧ Below w.heap.size w wr) (fun iv _ => m - (intOf iv).toNat)
    case atStart => exact ⟨0, Nat.zero_le _, rfl, _, [], rfl, bn, Own.nil_ _ _ _ _ _ (by simp), RowsP.nil_ _ _, hb1⟩
    case round =>
      clear bn hb1
      obtain ⟨k, hk, rfl, sv, qs, hqs, bn, hov, hrs, hbr⟩ := hrel
      have hzr := hbr.size
      by_cases hlt : k < m
      · have hki : (k : Int) < m := by omega
        have hql : qs.length = k := by
          have := congrArg List.length hqs
          rw [List.length_map, List.length_replicate] at this
          omega
        have HQS := hide hqs
        have HOLT := hide (fun q (hq : q ∈ qs) => by
          obtain ⟨g, e, _, h⟩ := hrs.lt q hq
          exact (⟨g, e, h⟩ : ∃ g, q.1 = .pointer (some ⟨g, 0, none⟩) ∧ g < wr.heap.size))
        clear hqs
        obtain ⟨A6, n6, c6, rfl⟩ : ∃ A6 n6 c6, sv = .slice A6 n6 c6 := by
          obtain ⟨A, c, e, _⟩ := hov.slc.open_
          exact ⟨A, _, c, e⟩
        go_upto_region 4 with fail
        have s0 := bn.cell 0
        simp only [List.getElem?_toArray, List.getElem?_cons_succ, List.getElem?_cons_zero] at s0
        refine wp_region_late (S := fun w' => w'.cell? ⟨w.heap.size, 0, none⟩ = some (.slice A6 n6 c6)) [11] (by kernel_rfl) (by exact s0) (fun hHeld => ?_)
        refine wpAnyT_take (i := 0) (oi := ?_) (v := ?_) ?_ (by kernel_rfl) (by kernel_rfl) (by kernel_rfl) (by kernel_rfl) (by kernel_rfl) ?_ (Or.inl ⟨?_, ?_⟩) (by assumption) ?_
        rotate_left 2
        · (simp only [List.getElem?_toArray, List.getElem?_cons_succ, List.getElem?_cons_zero]; rfl)
        rotate_left 1
        · rfl
        · (intro w hSw; (try dsimp only at hSw); go_simp; try with_reducible rfl)
        rotate_left 1
        · exact fun _ _ _ h => h
        try simp only [Act.put, List.setIfInBounds_toArray, List.set_cons_zero, List.set_cons_succ]
        refine wpAnyT_take (i := 1) (oi := ?_) (v := ?_) ?_ (by kernel_rfl) (by kernel_rfl) (by kernel_rfl) (by kernel_rfl) (by kernel_rfl) ?_ (Or.inl ⟨?_, ?_⟩) (by assumption) ?_
        rotate_left 2
        · (simp only [List.getElem?_toArray, List.getElem?_cons_succ, List.getElem?_cons_zero]; rfl)
        rotate_left 1
        · rfl
        · (intro w hSw; (try dsimp only at hSw); go_simp; try with_reducible rfl)
        rotate_left 1
        · exact fun _ _ _ h => h
        try simp only [Act.put, List.setIfInBounds_toArray, List.set_cons_zero, List.set_cons_succ]
        refine wpAnyT_take (i := 2) (oi := ?_) (v := ?_) ?_ (by kernel_rfl) (by kernel_rfl) (by kernel_rfl) (by kernel_rfl) (by kernel_rfl) ?_ (Or.inl ⟨?_, ?_⟩) (by assumption) ?_
        rotate_left 2
        · (simp only [List.getElem?_toArray, List.getElem?_cons_succ, List.getElem?_cons_zero]; rfl)
        rotate_left 1
        · rfl
        · (intro w hSw; (try dsimp only at hSw); go_simp; try with_reducible rfl)
        rotate_left 1
        · exact fun _ _ _ h => h
        try simp only [Act.put, List.setIfInBounds_toArray, List.set_cons_zero, List.set_cons_succ]
        refine wpAnyT_take (i := 3) (oi := ?_) (v := ?_) ?_ (by kernel_rfl) (by kernel_rfl) (by kernel_rfl) (by kernel_rfl) (by kernel_rfl) ?_ (Or.inl ⟨?_, ?_⟩) (by assumption) ?_
        rotate_left 2
        · (simp only [List.getElem?_toArray, List.getElem?_cons_succ, List.getElem?_cons_zero]; rfl)
        rotate_left 1
        · rfl
        · (intro w hSw; (try dsimp only at hSw); go_simp; try with_reducible rfl)
        rotate_left 1
        · exact fun _ _ _ h => h
        try simp only [Act.put, List.setIfInBounds_toArray, List.set_cons_zero, List.set_cons_succ]
        refine wpAnyT_take (i := 4) (oi := ?_) (v := ?_) ?_ (by kernel_rfl) (by kernel_rfl) (by kernel_rfl) (by kernel_rfl) (by kernel_rfl) ?_ (Or.inl ⟨?_, ?_⟩) (by assumption) ?_
        rotate_left 2
        · (simp only [List.getElem?_toArray, List.getElem?_cons_succ, List.getElem?_cons_zero]; rfl)
        rotate_left 1
        · rfl
        · (intro w hSw; (try dsimp only at hSw); go_simp; try with_reducible rfl)
        rotate_left 1
        · exact fun _ _ _ h => h
        try simp only [Act.put, List.setIfInBounds_toArray, List.set_cons_zero, List.set_cons_succ]
        refine wpAnyT_take (i := 5) (oi := ?_) (v := ?_) ?_ (by kernel_rfl) (by kernel_rfl) (by kernel_rfl) (by kernel_rfl) (by kernel_rfl) ?_ (Or.inl ⟨?_, ?_⟩) (by assumption) ?_
        rotate_left 2
        · (simp only [List.getElem?_toArray, List.getElem?_cons_succ, List.getElem?_cons_zero]; rfl)
        rotate_left 1
        · rfl
        · (intro w hSw; (try dsimp only at hSw); go_simp; try with_reducible rfl)
        rotate_left 1
        · exact fun _ _ _ h => h
        try simp only [Act.put, List.setIfInBounds_toArray, List.set_cons_zero, List.set_cons_succ]
        refine wpAnyT_ready (rs := [6]) (by kernel_rfl) (by simp) ?_
        refine AllReadyT.cons (o := ?_) ?_ (fun K hK => ?_) AllReadyT.nil
        rotate_left 1
        · (simp only [List.getElem?_toArray, List.getElem?_cons_succ, List.getElem?_cons_zero]; rfl)
        go_simp
        go_at_call 42; refine (HN.out _).mono ?_; rintro e w5 ⟨v5, rfl, hv5, hc5⟩; rw [show List.replicate (sideN n) ((0, []) : CellV) = bl.1 from congrArg Prod.fst HBL.out] at hv5; have hb5 := (below_drw hbr).trans (hc5.mono hzr); have hz5 := hb5.size; have bn5 := (show Blk wr.drew _ _ _ from bn).same hc5; have hov5 := (own_dr hov).below hc5; have hrs5 := (hrs.step (b2 := 0) ((Step.refl 0 [] wr).drew) (by simp) (by simp) (by simp)).below hc5; have s0 := bn5.cell 0; simp only [List.getElem?_toArray, List.getElem?_cons_succ, List.getElem?_cons_zero] at s0; obtain ⟨gv, hv5e, hgv, _⟩ := hv5.lt; subst hv5e; have hrs6 := hrs5.snoc hv5 hzr HOLT.out; rw [show (bl.1, false) = bl from (by rw [← HBL.out])] at hrs6; clear hrs5 hov bn
        refine hK.out _ _ ?_ (fun hHeld => ?_)
        · ((try dsimp only); go_keep)
        clear hK K
        try simp only [Act.put, List.setIfInBounds_toArray, List.set_cons_zero, List.set_cons_succ]
        refine wpAnyT_ready (rs := [7]) (by kernel_rfl) (by simp) ?_
        refine AllReadyT.cons (o := ?_) ?_ (fun K hK => ?_) AllReadyT.nil
        rotate_left 1
        · (simp only [List.getElem?_toArray, List.getElem?_cons_succ, List.getElem?_cons_zero]; rfl)
        go_simp
        have bn6 := bn5.alloc (.cells #[.pointer (some ⟨gv, 0, none⟩)] 33); have hov6 := hov5.alloc (.cells #[.pointer (some ⟨gv, 0, none⟩)] 33); have hrs7 := hrs6.below ((Below.refl _ w5).alloc (Nat.le_refl _) (.cells #[.pointer (some ⟨gv, 0, none⟩)] 33)); have hb6 := hb5.alloc hz5 (.cells #[.pointer (some ⟨gv, 0, none⟩)] 33); have hone := Slc.lit1 (R := RVal) (Si := fun _ => False) (Si' := fun _ => False) (w := w5) (x := (.pointer (some ⟨gv, 0, none⟩) : Value)) (u := [.pointer (some ⟨gv, 0, none⟩)]) 33 ⟨rfl, rfl⟩ (fun _ _ h => h.elim); have s0 := bn6.cell 0; simp only [List.getElem?_toArray, List.getElem?_cons_succ, List.getElem?_cons_zero] at s0; clear bn5 hov5 hrs6
        refine hK.out _ _ ?_ (fun hHeld => ?_)
        · ((try dsimp only); go_keep)
        clear hK K
        try simp only [Act.put, List.setIfInBounds_toArray, List.set_cons_zero, List.set_cons_succ]
        refine wpAnyT_ready (rs := [8]) (by kernel_rfl) (by simp) ?_
        refine AllReadyT.cons (o := ?_) ?_ (fun K hK => ?_) AllReadyT.nil
        rotate_left 1
        · (simp only [List.getElem?_toArray, List.getElem?_cons_succ, List.getElem?_cons_zero]; rfl)
        refine step_appg rfl (.tmp 17) (.tmp 20) 76 rfl RVal 33 [] w.heap.size 8 _ Tryd.underlying76 rowp_info rfl (by decide) (by decide) _ _ rfl hov6 _ (fun _ => False) _ _ rfl hone (fun _ h => False.elim h) (by simp; omega) hb6.size ?_; intro v7 w7 hv7 hst7 hg7 ho7; obtain ⟨A7, n7, c7, rfl⟩ : ∃ A7 n7 c7, v7 = .slice A7 n7 c7 := (by obtain ⟨A, c, e, _⟩ := hv7.slc.open_; exact ⟨A, _, c, e⟩); have hb7 := hb6.trans (hst7.below hb6.size); have bn7 := bn6.step hst7 (by decide); have hrs8 := hrs7.step hst7 (by decide) (by decide) (by decide); have f0 := bn7.frozen 0; have s0 := bn7.cell 0; simp only [List.getElem?_toArray, List.getElem?_cons_succ, List.getElem?_cons_zero] at s0; have hst9 : Step w.heap.size [78] w7 (w7.setCell ⟨w.heap.size, 0, none⟩ (.slice A7 n7 c7)) := (Step.refl w.heap.size [78] w7).setCell (p := ⟨w.heap.size, 0, none⟩) (Nat.le_refl _) bn7.bears (.slice A7 n7 c7); have hb9 := hide (hb7.trans (hst9.below hb7.size)); have bn9 := hide (show Blk (w7.setCell ⟨w.heap.size, 0, none⟩ (.slice A7 n7 c7)) w.heap.size 78 #[.slice A7 n7 c7] from bn7.set_ 0 (.slice A7 n7 c7)); have hov9 := hide (show Own RVal 33 [] w.heap.size (w7.setCell ⟨w.heap.size, 0, none⟩ (.slice A7 n7 c7)) (.slice A7 n7 c7) ((qs ++ [((.pointer (some ⟨gv, 0, none⟩) : Value), bl)]).map Prod.fst) from (by rw [List.map_append]; exact hv7.flat_step RVal.flat hst9 (by decide))); have hrs9 := hide (hrs8.step hst9 (by decide) (by decide) (by decide)); clear hv7 hst7 hg7 ho7 hrs7 hrs8 bn6 hov6 hst9 hone hb6
        refine hK.out _ _ ?_ (fun hHeld => ?_)
        · ((try dsimp only); go_keep)
        clear hK K
        try simp only [Act.put, List.setIfInBounds_toArray, List.set_cons_zero, List.set_cons_succ]
        refine wpAnyT_take (i := 9) (oi := ?_) (v := ?_) ?_ (by kernel_rfl) (by kernel_rfl) (by kernel_rfl) (by kernel_rfl) (by kernel_rfl) ?_ (Or.inl ⟨?_, ?_⟩) (by assumption) ?_
        rotate_left 2
        · (simp only [List.getElem?_toArray, List.getElem?_cons_succ, List.getElem?_cons_zero]; rfl)
        rotate_left 1
        · rfl
        · (intro w hSw; (try dsimp only at hSw); go_simp; try with_reducible rfl)
        rotate_left 1
        · exact fun _ _ _ h => h
        try simp only [Act.put, List.setIfInBounds_toArray, List.set_cons_zero, List.set_cons_succ]
        refine wpAnyT_take (i := 10) (oi := ?_) (v := ?_) ?_ (by kernel_rfl) (by kernel_rfl) (by kernel_rfl) (by kernel_rfl) (by kernel_rfl) ?_ (Or.inl ⟨?_, ?_⟩) (by assumption) ?_
        rotate_left 2
        · (simp only [List.getElem?_toArray, List.getElem?_cons_succ, List.getElem?_cons_zero]; rfl)
        rotate_left 1
        · rfl
        · (intro w hSw; (try dsimp only at hSw); go_simp; try with_reducible rfl)
        rotate_left 1
        · exact fun _ _ _ h => h
        try simp only [Act.put, List.setIfInBounds_toArray, List.set_cons_zero, List.set_cons_succ]
        refine wpAnyT_ready (rs := [11]) (by kernel_rfl) (by simp) ?_
        refine AllReadyT.consL (o := ?_) ?_ (by kernel_rfl) (fun K hK => ?_) AllReadyT.nil
        rotate_left 1
        · (simp only [List.getElem?_toArray, List.getElem?_cons_succ, List.getElem?_cons_zero]; rfl)
        go_simp
        refine hK.out _ _ ?_
        clear hK K
        try simp only [Act.put, List.setIfInBounds_toArray, List.set_cons_zero, List.set_cons_succ]
        refine wpAnyT_done (by kernel_rfl) ?_ _
        clear s0
        go_wp2
        go_roundw
        case rel => exact ⟨k + 1, by omega, by go_num, _, qs ++ [((.pointer (some ⟨gv, 0, none⟩) : Value), bl)], by rw [List.map_append, HQS.out, List.replicate_succ']; rfl, bn9.out, hov9.out, hrs9.out, hb9.out⟩
        case measure => simp [intOf]; omega
      · obtain rfl : k = m := by omega
        have HQS := hide hqs
        clear hqs
        go_wp2
        go_ret
        exact ⟨_, qs, rfl, ⟨w.heap.size, _, rfl, Nat.le_refl _, bn, hov, hrs⟩, HQS.out, hbr⟩

set_option maxHeartbeats 2000000 in
theorem rNew32_ok (n m : Nat) (hn : n ≤ 1024) (hm : m ≤ 1024) (w : World) :
    Calls Tryd.prog 29 #[.int .i64 n, .int .i64 m] w fun e w' => ∃ s, e = .returned s ∧ Slc RLine (fun b => b < w'.heap.size) (fun b => b < w'.heap.size) w' s (List.replicate m (List.replicate n (0, []), false)) ∧ Below w.heap.size w w' := by
  obtain ⟨ti, hi1, hi2, hi3, hi4⟩ := info_parts cell_info
  have key : ∀ (w0 w1 : World), w0.heap.size ≤ w1.heap.size → w1.ownsRow w0.heap.size 74 RCell.sz (.slice (some ⟨w0.heap.size, 0, none⟩) n n) n (madeCells (Value.agg #[.int .i64 0, .slice none 0 0]).cells (n * RCell.sz)).toList → w0.grownBy w1 none →
      Own2 RCell 74 [21] w0.heap.size 0 w1 (.slice (some ⟨w0.heap.size, 0, none⟩) n n) (List.replicate n (0, [])) ∧ Below w0.heap.size w0 w1 := by
    intro w0 w1 _ hown hg
    refine ⟨own2_blanks (base := w0.heap.size) ⟨by decide, _, by rw [List.length_replicate]; exact hown, ?_⟩ (Nat.le_refl _), hg.os, hg.tape, hg.output, hg.size, fun k hk => hg.block k hk (by simp)⟩
    have e : (madeCells (Value.agg #[.int .i64 0, .slice none 0 0]).cells (n * RCell.sz)).toList = (List.replicate n [Value.int .i64 0, .slice none 0 0]).flatten := made_two _ _ n
    rw [e]
    exact els_blanks _ _ _
  have KEY := hide key
  clear key
  go_enter Tryd.func29, Tryd.ntmps29
  go_wp2
  go_loopw [5, 6] (fun sv iv wr => ∃ k : Nat, k ≤ m ∧ iv = .int .i64 k ∧ ∃ (qs : List (Value × LineV)), qs.map Prod.snd = List.replicate k (List.replicate n (0, []), false) ∧ Own RSl 38 [] w.heap.size wr sv (qs.map slB) ∧ (∀ q ∈ qs, Own2 RCell 74 [21] w.heap.size 0 wr q.1 q.2.1) ∧ Below w.heap.size w wr) (fun _ iv _ => m - (intOf iv).toNat)
  case atStart => exact ⟨0, Nat.zero_le _, rfl, [], rfl, Own.nil_ _ _ _ _ _ (by simp), fun q hq => (by cases hq), Below.refl _ _⟩
  case round =>
    obtain ⟨k, hk, rfl, qs, hqs, hov, hcl, hbr⟩ := hrel
    have hzr := hbr.size
    by_cases hlt : k < m
    · have hki : (k : Int) < m := by omega
      have hql : qs.length = k := by
        have := congrArg List.length hqs
        rw [List.length_map, List.length_replicate] at this
        omega
      have HQS := hide hqs
      have HCL := hide hcl
      clear hqs hcl
      go_wp2_with (first | (at_make; refine wpList_make_full _ rfl (.tmp 13) (.tmp 13) 23 rfl wr.heap.size 74 ti _ RCell.sz Tryd.underlying23 hi1 hi2 hi3 .i64 .i64 _ _ n rfl rfl rfl rfl (by rw [hi4]; omega) (by simp only [maxLen]; omega) (Nat.le_refl _) ?_; intro w1 hown1 hg1; obtain ⟨hO1, hB1⟩ := KEY.out wr w1 hg1.size hown1 hg1; have hb2 := (hbr.trans (hB1.mono hzr)).alloc (Nat.le_trans hzr hB1.size) (.cells #[.slice (some ⟨wr.heap.size, 0, none⟩) n n, .bool false] 38); have hov2 := (hov.below hB1).alloc (.cells #[.slice (some ⟨wr.heap.size, 0, none⟩) n n, .bool false] 38); have hO2 := hO1.alloc (.cells #[.slice (some ⟨wr.heap.size, 0, none⟩) n n, .bool false] 38); have hcl2 := hide (fun q hq => ((HCL.out q hq).below hB1).alloc (.cells #[.slice (some ⟨wr.heap.size, 0, none⟩) n n, .bool false] 38)); have hone := Slc.lit1 (R := RSl) (Si := fun _ => False) (Si' := fun _ => False) (w := w1) (x := ((.slice (some ⟨wr.heap.size, 0, none⟩) n n : Value), false)) (u := [.slice (some ⟨wr.heap.size, 0, none⟩) n n, .bool false]) 38 ⟨[.slice (some ⟨wr.heap.size, 0, none⟩) n n], [.bool false], rfl, ⟨rfl, rfl⟩, rfl⟩ (fun _ _ h => h.elim); clear hov hown1 hO1) | (at_builtin; refine wpList_appg rfl (.tmp 12) (.tmp 16) 22 rfl RSl 38 [] w.heap.size 32 _ Tryd.underlying22 line_info rfl (by decide) (by decide) _ _ rfl hov2 _ (fun _ => False) _ _ rfl hone (fun _ h => False.elim h) (by simp; omega) hb2.size ?_; intro v7 w7 hv7 hst7 hg7 ho7; have hb9 := hide (hb2.trans (hst7.below hb2.size)); have hov9 := hide (show Own RSl 38 [] w.heap.size w7 v7 ((qs ++ [((.slice (some ⟨wr.heap.size, 0, none⟩) n n : Value), (List.replicate n (0, []), false))]).map slB) from (by rw [List.map_append]; exact hv7)); have hcl9 := hide (show ∀ q ∈ qs ++ [((.slice (some ⟨wr.heap.size, 0, none⟩) n n : Value), (List.replicate n (0, []), false))], Own2 RCell 74 [21] w.heap.size 0 w7 q.1 q.2.1 from (fun q hq => (by rcases List.mem_append.1 hq with hq | hq; exact (hcl2.out q hq).step hst7 (by decide) (by decide); rw [List.mem_singleton] at hq; subst hq; exact (hO2.down w.heap.size (Nat.zero_le _) hzr).step hst7 (by decide) (by decide)))); clear hv7 hst7 hg7 ho7 hov2 hone hcl2 hO2 hb2))
      go_roundw
      case rel => exact ⟨k + 1, by omega, by go_num, _, by rw [List.map_append, HQS.out, List.replicate_succ']; rfl, hov9.out, hcl9.out, hb9.out⟩
      case measure => simp [intOf]; omega
    · obtain rfl : k = m := by omega
      have HQS := hide hqs
      clear hqs
      go_wp2
      go_ret
      refine ⟨_, rfl, ?_, hbr⟩
      rw [← HQS.out]
      exact lines_slc ((hov.slc.flat_any RSl.flat (fun b => b < wr.heap.size)).mono (Keep.lt _ _) (Keep.refl _ _)) (fun q hq => (hcl q hq).slc.mono (Keep.lt _ _) (Keep.lt _ _))

set_option maxHeartbeats 2000000 in
theorem rSame32_eq (So Si To Ti : Nat → Prop) (x y : Value) (ls : List LineV) (w : World) (hx : Slc RLine So Si w x ls) (hy : Slc RLine To Ti w y ls) :
    Calls Tryd.prog 17 #[x, y] w fun e w' => e = .returned (.bool true) ∧ ∃ n, w' = w.drewN n := by
  obtain ⟨A, c, rfl, hl1, hl2, hA⟩ := hx.open_
  obtain ⟨B, d, rfl, hm1, hm2, hB⟩ := hy.open_
  go_enter Tryd.func17, Tryd.ntmps17
  go_wp2
  go_loopw [5] (fun i wr => ∃ k : Nat, k ≤ ls.length ∧ i = .int .i64 k ∧ ∃ n, wr = w.drewN n) (fun i _ => ls.length - (intOf i).toNat)
  case atStart => exact ⟨0, Nat.zero_le _, rfl, 0, rfl⟩
  case round =>
    obtain ⟨k, hk, rfl, n, rfl⟩ := hrel
    by_cases hlt : k < ls.length
    · obtain ⟨ab, off, v, rfl, _, q0, q1, hv⟩ := line_at hA hlt
      obtain ⟨A', c', rfl, _, _, _⟩ := hv.open_
      obtain ⟨bb, off2, v2, rfl, _, p0, p1, hu⟩ := line_at hB hlt
      obtain ⟨B', d', rfl, _, _, _⟩ := hu.open_
      have hki : (k : Int) < ls.length := by omega
      have hS := hide (fun m => rSame23_ok _ _ _ _ _ _ ls[k].1 ls[k].1 (w.drewN m) (hv.mono (Keep.drewN _ w m) (Keep.drewN _ w m)) (hu.mono (Keep.drewN _ w m) (Keep.drewN _ w m)))
      rw [decide_eq_true rfl] at hS
      go_wp2
      go_quiet ((go_at_call 45; refine (hS.out _).mono ?_; rintro e w' ⟨rfl, m, rfl⟩; exact ⟨rfl, _, by rw [World.drewN_drewN, Nat.add_assoc]⟩))
      go_wp2
      go_roundw
      case rel => exact ⟨k + 1, by omega, by go_num, _, rfl⟩
      case measure => simp [intOf]; omega
    · go_wp2
      go_ret
      exact ⟨rfl, _, rfl⟩
end Go.Proofs.YtbkenfljknpjgaaDoor
