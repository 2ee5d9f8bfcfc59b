/-
  The law that a view is sound just if it is right: the walk returns true and leaves the memory that was there as it was.
-/
import Derived.Test.YtejhaepgbfngcaaDoorAud6
import Derived.Test.YtejhaepgbfngcaaDoorWgt
namespace Go.Proofs.YtejhaepgbfngcaaDoor
open Go.RowKit
set_option linter.unusedVariables false
set_option linter.unusedSimpArgs false

set_option maxHeartbeats 4000000 in
theorem walkS_AuditRight (b : Nat → Addr) (cs : Array Value) (v : ViewV) (w : World) (hS : Sents b w) (hT : TypeVar w) (hm : RView.E (fun b => b < w.heap.size) w cs.toList v) (hok : LinesOk v.lines) :
    Calls Tryd.prog 8 #[.agg cs] w fun e w' => e = .returned (.bool true) ∧ Below w.heap.size w w' := by
  obtain ⟨x, hcs, _, _, _, _, hx⟩ := view_open hm
  obtain ⟨wd, hi, ls, r, c, p, au⟩ := v
  obtain ⟨l0⟩ := cs
  simp only at hcs hx hok
  subst hcs
  obtain ⟨A, cp, rfl, _, _, _⟩ := hx.open_
  have HSE := hide hS
  have HTV := hide hT
  have HOK := hide hok.2
  clear hS hT hm hok
  have hb0 := (Below.refl w.heap.size w).alloc (Nat.le_refl _) (.cells #[.int .i64 wd, .int .i64 hi, .slice A ls.length cp, .int .i64 r, .int .i64 c, .bool p, .bool au] 40)
  have hz0 := hb0.size
  have hblk0 := Blk.new w 40 #[.int .i64 wd, .int .i64 hi, .slice A ls.length cp, .int .i64 r, .int .i64 c, .bool p, .bool au]
  have hW := fun w0 h0 => works47_ok b w0 (HSE.out.below h0) (HTV.out.below h0)
  have HW := hide hW
  clear hW
  by_cases hl : ls.length ≤ 200
  · have hl2 : decide ((200 : Int) < (ls.length : Int)) = false := by simp; omega
    go_enter Tryd.func8, Tryd.ntmps8
    go_wp2_with fail
    refine (HW.out _ hb0).mono ?_
    rintro e w1 ⟨rfl, hb1⟩
    have hblk1 := hblk0.same hb1
    have hb1' := hb0.trans (hb1.mono hz0)
    have hz1 := hb1'.size
    have hlt := hblk1.lt
    have y0 := hblk1.cell 0
    have y1 := hblk1.cell 1
    have y2 := hblk1.cell 2
    have y3 := hblk1.cell 3
    have y4 := hblk1.cell 4
    have y5 := hblk1.cell 5
    have y6 := hblk1.cell 6
    simp only [List.getElem?_toArray, List.getElem?_cons_succ, List.getElem?_cons_zero] at y0 y1 y2 y3 y4 y5 y6
    have hx1 := hx.mono (Keep.below (S := fun b => b < w.heap.size) hb1') (Keep.below (S := fun b => b < w.heap.size) hb1')
    go_wp2
    go_loopw [3, 4] (fun n i wr => ∃ (k : Nat) (s : Int), k ≤ ls.length ∧ i = .int .i64 k ∧ n = .int .i64 s ∧ 0 ≤ s ∧ s ≤ 3000 ∧ (∀ j (h : j < ls.length), j < k → ls[j].1.length ≤ 3000) ∧ w1 = wr) (fun _ i _ => ls.length - (intOf i).toNat)
    case atStart => exact ⟨0, 0, Nat.zero_le _, rfl, rfl, by omega, by omega, fun j _ h => absurd h (Nat.not_lt_zero j), rfl⟩
    case round =>
      obtain ⟨k, s, hk, rfl, rfl, hs0, hs1, hpre, rfl⟩ := hrel
      have HP := hide hpre
      clear hpre
      by_cases hltk : k < ls.length
      · obtain ⟨ab, off, v2, rfl, _, p0, p1, hv⟩ := line_at hx1.slb hltk
        obtain ⟨A2, c2, rfl, _, _, _⟩ := hv.open_
        have hll := HOK.out ls[k] (List.getElem_mem _)
        by_cases hg : 3000 < s + (ls[k].1.length : Int)
        · have hg2 : decide ((3000 : Int) < s + (ls[k].1.length : Int)) = true := by simpa using hg
          go_wp2
          go_ret
          exact ⟨rfl, hb1'⟩
        · have hg2 : decide ((3000 : Int) < s + (ls[k].1.length : Int)) = false := by simpa using hg
          have hle : ls[k].1.length ≤ 3000 := by omega
          have HLE := hide hle
          have hs3 : s + (ls[k].1.length : Int) ≤ 3000 := by omega
          go_wp2
          go_roundw
          case rel =>
            refine ⟨k + 1, _, by omega, by go_num, rfl, by omega, by omega, fun j hj hjk => ?_, trivial⟩
            by_cases e : j = k
            · subst e; exact HLE.out
            · exact HP.out j hj (by omega)
          case measure => simp [intOf]; omega
      · have hlen : ∀ l ∈ ls, l.1.length ≤ 1000000 := by
          intro l hl
          obtain ⟨j, hj, rfl⟩ := List.getElem_of_mem hl
          have := HP.out j hj (by omega)
          omega
        have HLEN := hide hlen
        have hll : ls.length ≤ 1000000 := by omega
        have hV1 := VarsA.of (HSE.out.below hb1')
        have hxa := hx1.mono (So' := fun _ => True) (Si' := fun b => b < w.heap.size) (Keep.weaken fun _ _ => trivial) (Keep.refl _ _)
        have hd1 : Below w1.heap.size w1 w1.drew := ⟨rfl, rfl, rfl, Nat.le_refl _, fun _ _ => rfl⟩
        have hz1d : w1.drew.heap.size = w1.heap.size := rfl
        have HX : Hid (∀ W, Below w1.heap.size w1 W → Slc RLine (fun _ => True) (fun b => b < W.heap.size) W (.slice A ls.length cp) ls) := hide (fun W h => (hxa.mono (Keep.below (S := fun _ => True) h) (Keep.below (S := fun b => b < w.heap.size) h)).mono (Keep.refl _ _) (Keep.weaken fun b hb => by have := h.size; omega))
        have HSo := hide (fun W (h : Below w1.heap.size w1 W) => ASound_ok b _ _ wd hi r c p au ls W (hV1.below h) (HX.out W h) HLEN.out hll)
        have HR43 := hide (fun W (h : Below w1.heap.size w1 W) => rRight43_ok _ _ wd hi r c p au ls W (HX.out W h) HLEN.out hll)
        have HSn := hide (fun W (h : Below w1.heap.size w1 W) => SRight_ok _ _ wd hi r c p au ls W (HX.out W h) HLEN.out hll)
        clear hlen hV1 hxa hx1
        generalize rightV ⟨wd, hi, ls, r, c, p, au⟩ = res at *
        go_wp2
        refine wp_region_held_drew (S := fun w' => w'.cell? ⟨w.heap.size, 0, none⟩ = some (.int .i64 wd) ∧ w'.cell? ⟨w.heap.size, 1, none⟩ = some (.int .i64 hi) ∧ w'.cell? ⟨w.heap.size, 2, none⟩ = some (.slice A ls.length cp) ∧ w'.cell? ⟨w.heap.size, 3, none⟩ = some (.int .i64 r) ∧ w'.cell? ⟨w.heap.size, 4, none⟩ = some (.int .i64 c) ∧ w'.cell? ⟨w.heap.size, 5, none⟩ = some (.bool p) ∧ w'.cell? ⟨w.heap.size, 6, none⟩ = some (.bool au)) (by kernel_rfl) (by go_keep) (fun hHeld => ?_)
        refine wpAnyH_take (i := 0) (oi := ?_) (v := ?_) ?_ (by kernel_rfl) (by kernel_rfl) (by kernel_rfl) ?_ (Or.inl ⟨?_, ?_⟩) (by assumption) ?_
        rotate_left 2
        · (simp only [List.getElem?_toArray, List.getElem?_cons_succ, List.getElem?_cons_zero]; rfl)
        rotate_left 1
        · rfl
        · (intro w hSw; (try dsimp only at hSw); go_simp; try with_reducible rfl)
        rotate_left 1
        · exact fun _ _ _ h => h
        try simp only [Act.put, List.setIfInBounds_toArray, List.set_cons_zero, List.set_cons_succ]
        refine wpAnyH_take (i := 2) (oi := ?_) (v := ?_) ?_ (by kernel_rfl) (by kernel_rfl) (by kernel_rfl) ?_ (Or.inl ⟨?_, ?_⟩) (by assumption) ?_
        rotate_left 2
        · (simp only [List.getElem?_toArray, List.getElem?_cons_succ, List.getElem?_cons_zero]; rfl)
        rotate_left 1
        · rfl
        · (intro w hSw; (try dsimp only at hSw); go_simp; try with_reducible rfl)
        rotate_left 1
        · exact fun _ _ _ h => h
        try simp only [Act.put, List.setIfInBounds_toArray, List.set_cons_zero, List.set_cons_succ]
        refine wpAnyH_ready (rs := [1]) (by kernel_rfl) (by simp) ?_
        refine AllReadyH.cons (o := ?_) ?_ (fun K hK => ?_) AllReadyH.nil
        rotate_left 1
        · (simp only [List.getElem?_toArray, List.getElem?_cons_succ, List.getElem?_cons_zero]; rfl)
        go_simp
        (go_at_call 35; refine (HSo.out _ hd1).mono ?_; rintro e w3 ⟨rfl, hc3⟩; have hb3 := hd1.trans (hc3.mono hd1.size); have a0 := (hc3.cell (p := ⟨w.heap.size, 0, none⟩) (Nat.lt_of_lt_of_le hlt hd1.size)).trans y0; have a1 := (hc3.cell (p := ⟨w.heap.size, 1, none⟩) (Nat.lt_of_lt_of_le hlt hd1.size)).trans y1; have a2 := (hc3.cell (p := ⟨w.heap.size, 2, none⟩) (Nat.lt_of_lt_of_le hlt hd1.size)).trans y2; have a3 := (hc3.cell (p := ⟨w.heap.size, 3, none⟩) (Nat.lt_of_lt_of_le hlt hd1.size)).trans y3; have a4 := (hc3.cell (p := ⟨w.heap.size, 4, none⟩) (Nat.lt_of_lt_of_le hlt hd1.size)).trans y4; have a5 := (hc3.cell (p := ⟨w.heap.size, 5, none⟩) (Nat.lt_of_lt_of_le hlt hd1.size)).trans y5; have a6 := (hc3.cell (p := ⟨w.heap.size, 6, none⟩) (Nat.lt_of_lt_of_le hlt hd1.size)).trans y6)
        refine hK.out _ _ ?_ (fun hHeld => ?_)
        · ((try dsimp only); go_keep)
        clear hK K
        try simp only [Act.put, List.setIfInBounds_toArray, List.set_cons_zero, List.set_cons_succ]
        refine wpAnyH_ready (rs := [3]) (by kernel_rfl) (by simp) ?_
        refine AllReadyH.cons (o := ?_) ?_ (fun K hK => ?_) AllReadyH.nil
        rotate_left 1
        · (simp only [List.getElem?_toArray, List.getElem?_cons_succ, List.getElem?_cons_zero]; rfl)
        go_simp
        (go_at_call 21; refine (HR43.out _ hb3).mono ?_; rintro e w4 ⟨rfl, hc4⟩; have hb4 := hb3.trans (hc4.mono hb3.size); have d0 := (hc4.cell (p := ⟨w.heap.size, 0, none⟩) (Nat.lt_of_lt_of_le hlt hb3.size)).trans a0; have d1 := (hc4.cell (p := ⟨w.heap.size, 1, none⟩) (Nat.lt_of_lt_of_le hlt hb3.size)).trans a1; have d2 := (hc4.cell (p := ⟨w.heap.size, 2, none⟩) (Nat.lt_of_lt_of_le hlt hb3.size)).trans a2; have d3 := (hc4.cell (p := ⟨w.heap.size, 3, none⟩) (Nat.lt_of_lt_of_le hlt hb3.size)).trans a3; have d4 := (hc4.cell (p := ⟨w.heap.size, 4, none⟩) (Nat.lt_of_lt_of_le hlt hb3.size)).trans a4; have d5 := (hc4.cell (p := ⟨w.heap.size, 5, none⟩) (Nat.lt_of_lt_of_le hlt hb3.size)).trans a5; have d6 := (hc4.cell (p := ⟨w.heap.size, 6, none⟩) (Nat.lt_of_lt_of_le hlt hb3.size)).trans a6)
        refine hK.out _ _ ?_ (fun hHeld => ?_)
        · ((try dsimp only); go_keep)
        clear hK K
        try simp only [Act.put, List.setIfInBounds_toArray, List.set_cons_zero, List.set_cons_succ]
        refine wpAnyH_take (i := 4) (oi := ?_) (v := ?_) ?_ (by kernel_rfl) (by kernel_rfl) (by kernel_rfl) ?_ (Or.inl ⟨?_, ?_⟩) (by assumption) ?_
        rotate_left 2
        · (simp only [List.getElem?_toArray, List.getElem?_cons_succ, List.getElem?_cons_zero]; rfl)
        rotate_left 1
        · rfl
        · (intro w hSw; (try dsimp only at hSw); go_simp; try with_reducible rfl)
        rotate_left 1
        · exact fun _ _ _ h => h
        try simp only [Act.put, List.setIfInBounds_toArray, List.set_cons_zero, List.set_cons_succ]
        refine wpAnyH_take (i := 5) (oi := ?_) (v := ?_) ?_ (by kernel_rfl) (by kernel_rfl) (by kernel_rfl) ?_ (Or.inl ⟨?_, ?_⟩) (by assumption) ?_
        rotate_left 2
        · (simp only [List.getElem?_toArray, List.getElem?_cons_succ, List.getElem?_cons_zero]; rfl)
        rotate_left 1
        · rfl
        · (intro w hSw; (try dsimp only at hSw); go_simp; try with_reducible rfl)
        rotate_left 1
        · exact fun _ _ _ h => h
        try simp only [Act.put, List.setIfInBounds_toArray, List.set_cons_zero, List.set_cons_succ]
        refine wpAnyH_take (i := 6) (oi := ?_) (v := ?_) ?_ (by kernel_rfl) (by kernel_rfl) (by kernel_rfl) ?_ (Or.inl ⟨?_, ?_⟩) (by assumption) ?_
        rotate_left 2
        · (simp only [List.getElem?_toArray, List.getElem?_cons_succ, List.getElem?_cons_zero]; rfl)
        rotate_left 1
        · rfl
        · (intro w hSw; (try dsimp only at hSw); go_simp; try with_reducible rfl)
        rotate_left 1
        · exact fun _ _ _ h => h
        try simp only [Act.put, List.setIfInBounds_toArray, List.set_cons_zero, List.set_cons_succ]
        refine wpAnyH_take (i := 8) (oi := ?_) (v := ?_) ?_ (by kernel_rfl) (by kernel_rfl) (by kernel_rfl) ?_ (Or.inl ⟨?_, ?_⟩) (by assumption) ?_
        rotate_left 2
        · (simp only [List.getElem?_toArray, List.getElem?_cons_succ, List.getElem?_cons_zero]; rfl)
        rotate_left 1
        · rfl
        · (intro w hSw; (try dsimp only at hSw); go_simp; try with_reducible rfl)
        rotate_left 1
        · exact fun _ _ _ h => h
        try simp only [Act.put, List.setIfInBounds_toArray, List.set_cons_zero, List.set_cons_succ]
        refine wpAnyH_ready (rs := [7]) (by kernel_rfl) (by simp) ?_
        refine AllReadyH.cons (o := ?_) ?_ (fun K hK => ?_) AllReadyH.nil
        rotate_left 1
        · (simp only [List.getElem?_toArray, List.getElem?_cons_succ, List.getElem?_cons_zero]; rfl)
        go_simp
        (go_at_call 37; refine (HSn.out _ hb4).mono ?_; rintro e w5 ⟨rfl, hc5⟩; have hb5 := hb4.trans (hc5.mono hb4.size); have f0 := (hc5.cell (p := ⟨w.heap.size, 0, none⟩) (Nat.lt_of_lt_of_le hlt hb4.size)).trans d0; have f1 := (hc5.cell (p := ⟨w.heap.size, 1, none⟩) (Nat.lt_of_lt_of_le hlt hb4.size)).trans d1; have f2 := (hc5.cell (p := ⟨w.heap.size, 2, none⟩) (Nat.lt_of_lt_of_le hlt hb4.size)).trans d2; have f3 := (hc5.cell (p := ⟨w.heap.size, 3, none⟩) (Nat.lt_of_lt_of_le hlt hb4.size)).trans d3; have f4 := (hc5.cell (p := ⟨w.heap.size, 4, none⟩) (Nat.lt_of_lt_of_le hlt hb4.size)).trans d4; have f5 := (hc5.cell (p := ⟨w.heap.size, 5, none⟩) (Nat.lt_of_lt_of_le hlt hb4.size)).trans d5; have f6 := (hc5.cell (p := ⟨w.heap.size, 6, none⟩) (Nat.lt_of_lt_of_le hlt hb4.size)).trans d6)
        refine hK.out _ _ ?_ (fun hHeld => ?_)
        · ((try dsimp only); go_keep)
        clear hK K
        try simp only [Act.put, List.setIfInBounds_toArray, List.set_cons_zero, List.set_cons_succ]
        refine wpAnyH_ready (rs := [9]) (by kernel_rfl) (by simp) ?_
        refine AllReadyH.cons (o := ?_) ?_ (fun K hK => ?_) AllReadyH.nil
        rotate_left 1
        · (simp only [List.getElem?_toArray, List.getElem?_cons_succ, List.getElem?_cons_zero]; rfl)
        go_simp
        (go_at_call 35; refine (HSo.out _ hb5).mono ?_; rintro e w6 ⟨rfl, hc6⟩; have hb6 := hb5.trans (hc6.mono hb5.size); have g0 := (hc6.cell (p := ⟨w.heap.size, 0, none⟩) (Nat.lt_of_lt_of_le hlt hb5.size)).trans f0; have g1 := (hc6.cell (p := ⟨w.heap.size, 1, none⟩) (Nat.lt_of_lt_of_le hlt hb5.size)).trans f1; have g2 := (hc6.cell (p := ⟨w.heap.size, 2, none⟩) (Nat.lt_of_lt_of_le hlt hb5.size)).trans f2; have g3 := (hc6.cell (p := ⟨w.heap.size, 3, none⟩) (Nat.lt_of_lt_of_le hlt hb5.size)).trans f3; have g4 := (hc6.cell (p := ⟨w.heap.size, 4, none⟩) (Nat.lt_of_lt_of_le hlt hb5.size)).trans f4; have g5 := (hc6.cell (p := ⟨w.heap.size, 5, none⟩) (Nat.lt_of_lt_of_le hlt hb5.size)).trans f5; have g6 := (hc6.cell (p := ⟨w.heap.size, 6, none⟩) (Nat.lt_of_lt_of_le hlt hb5.size)).trans f6)
        refine hK.out _ _ ?_ (fun hHeld => ?_)
        · ((try dsimp only); go_keep)
        clear hK K
        try simp only [Act.put, List.setIfInBounds_toArray, List.set_cons_zero, List.set_cons_succ]
        refine wpAnyH_take (i := 10) (oi := ?_) (v := ?_) ?_ (by kernel_rfl) (by kernel_rfl) (by kernel_rfl) ?_ (Or.inl ⟨?_, ?_⟩) (by assumption) ?_
        rotate_left 2
        · (simp only [List.getElem?_toArray, List.getElem?_cons_succ, List.getElem?_cons_zero]; rfl)
        rotate_left 1
        · rfl
        · (intro w hSw; (try dsimp only at hSw); go_simp; try with_reducible rfl)
        rotate_left 1
        · exact fun _ _ _ h => h
        try simp only [Act.put, List.setIfInBounds_toArray, List.set_cons_zero, List.set_cons_succ]
        refine wpAnyH_take (i := 11) (oi := ?_) (v := ?_) ?_ (by kernel_rfl) (by kernel_rfl) (by kernel_rfl) ?_ (Or.inl ⟨?_, ?_⟩) (by assumption) ?_
        rotate_left 2
        · (simp only [List.getElem?_toArray, List.getElem?_cons_succ, List.getElem?_cons_zero]; rfl)
        rotate_left 1
        · rfl
        · (intro w hSw; (try dsimp only at hSw); go_simp; try with_reducible rfl)
        rotate_left 1
        · exact fun _ _ _ h => h
        try simp only [Act.put, List.setIfInBounds_toArray, List.set_cons_zero, List.set_cons_succ]
        refine wpAnyH_take (i := 12) (oi := ?_) (v := ?_) ?_ (by kernel_rfl) (by kernel_rfl) (by kernel_rfl) ?_ (Or.inl ⟨?_, ?_⟩) (by assumption) ?_
        rotate_left 2
        · (simp only [List.getElem?_toArray, List.getElem?_cons_succ, List.getElem?_cons_zero]; rfl)
        rotate_left 1
        · rfl
        · (intro w hSw; (try dsimp only at hSw); go_simp; try with_reducible rfl)
        rotate_left 1
        · exact fun _ _ _ h => h
        try simp only [Act.put, List.setIfInBounds_toArray, List.set_cons_zero, List.set_cons_succ]
        refine wpAnyH_done (by kernel_rfl) ?_ _
        go_wp2
        go_ret
        exact ⟨rfl, hb1'.trans (hb6.mono hz1)⟩
  · have hl2 : decide ((200 : Int) < (ls.length : Int)) = true := by simp; omega
    go_enter Tryd.func8, Tryd.ntmps8
    go_wp2_with fail
    refine (HW.out _ hb0).mono ?_
    rintro e w1 ⟨rfl, hb1⟩
    have hblk1 := hblk0.same hb1
    have hb1' := hb0.trans (hb1.mono hz0)
    have y2 := hblk1.cell 2
    simp only [List.getElem?_toArray, List.getElem?_cons_succ, List.getElem?_cons_zero] at y2
    go_wp2_with fail
    refine (HW.out _ hb1').mono ?_
    rintro e w2 ⟨rfl, hb2⟩
    go_wp2
    go_ret
    exact ⟨rfl, hb1'.trans (hb2.mono hb1'.size)⟩
end Go.Proofs.YtejhaepgbfngcaaDoor
