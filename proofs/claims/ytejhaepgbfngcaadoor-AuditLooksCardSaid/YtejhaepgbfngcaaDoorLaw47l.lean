/-
  The law on all that is wrong with a view: the walk returns true and leaves the memory that was there as it was.
-/
import Derived.Test.YtejhaepgbfngcaaDoorAud8
import Derived.Test.YtejhaepgbfngcaaDoorWgt
namespace Go.Proofs.YtejhaepgbfngcaaDoor
open Go.RowKit
set_option linter.unusedVariables false
set_option linter.unusedSimpArgs false

set_option maxRecDepth 4096 in
set_option maxHeartbeats 8000000 in
theorem walkS_AuditLooks (b : Nat → Addr) (cs : Array Value) (v : ViewV) (w : World) (hS : Sents b w) (hT : TypeVar w) (hm : RView.E (fun b => b < w.heap.size) w cs.toList v) (hok : LinesOk v.lines) :
    Calls Tryd.prog 7 #[.agg cs] w fun e w' => e = .returned (.bool true) ∧ Below w.heap.size w w' := by
  obtain ⟨x, hcs, _, _, _, _, hx⟩ := view_open hm
  obtain ⟨wd, hi, ls, r, c, p, au⟩ := v
  obtain ⟨l0⟩ := cs
  simp only at hcs hx hok
  subst hcs
  obtain ⟨A, cp, rfl, _, _, _⟩ := hx.open_
  have HSE := hide hS
  have HTV := hide hT
  have HOK := hide hok.2
  clear hS hT hm hok
  have hb0 := (Below.refl w.heap.size w).alloc (Nat.le_refl _) (.cells #[.int .i64 wd, .int .i64 hi, .slice A ls.length cp, .int .i64 r, .int .i64 c, .bool p, .bool au] 40)
  have hz0 := hb0.size
  have hblk0 := Blk.new w 40 #[.int .i64 wd, .int .i64 hi, .slice A ls.length cp, .int .i64 r, .int .i64 c, .bool p, .bool au]
  have hW := fun w0 h0 => works47_ok b w0 (HSE.out.below h0) (HTV.out.below h0)
  have HW := hide hW
  clear hW
  by_cases hl : ls.length ≤ 200
  · have hl2 : decide ((200 : Int) < (ls.length : Int)) = false := by simp; omega
    go_enter Tryd.func7, Tryd.ntmps7
    go_wp2_with fail
    refine (HW.out _ hb0).mono ?_
    rintro e w1 ⟨rfl, hb1⟩
    have hblk1 := hblk0.same hb1
    have hb1' := hb0.trans (hb1.mono hz0)
    have hz1 := hb1'.size
    have hlt := hblk1.lt
    have y0 := hblk1.cell 0
    have y1 := hblk1.cell 1
    have y2 := hblk1.cell 2
    have y3 := hblk1.cell 3
    have y4 := hblk1.cell 4
    have y5 := hblk1.cell 5
    have y6 := hblk1.cell 6
    simp only [List.getElem?_toArray, List.getElem?_cons_succ, List.getElem?_cons_zero] at y0 y1 y2 y3 y4 y5 y6
    have hx1 := hx.mono (Keep.below (S := fun b => b < w.heap.size) hb1') (Keep.below (S := fun b => b < w.heap.size) hb1')
    go_wp2
    go_loopw [3, 4] (fun n i wr => ∃ (k : Nat) (s : Int), k ≤ ls.length ∧ i = .int .i64 k ∧ n = .int .i64 s ∧ 0 ≤ s ∧ s ≤ 3000 ∧ (∀ j (h : j < ls.length), j < k → ls[j].1.length ≤ 3000) ∧ w1 = wr) (fun _ i _ => ls.length - (intOf i).toNat)
    case atStart => exact ⟨0, 0, Nat.zero_le _, rfl, rfl, by omega, by omega, fun j _ h => absurd h (Nat.not_lt_zero j), rfl⟩
    case round =>
      obtain ⟨k, s, hk, rfl, rfl, hs0, hs1, hpre, rfl⟩ := hrel
      have HP := hide hpre
      clear hpre
      by_cases hltk : k < ls.length
      · obtain ⟨ab, off, v2, rfl, _, p0, p1, hv⟩ := line_at hx1.slb hltk
        obtain ⟨A2, c2, rfl, _, _, _⟩ := hv.open_
        have hll := HOK.out ls[k] (List.getElem_mem _)
        by_cases hg : 3000 < s + (ls[k].1.length : Int)
        · have hg2 : decide ((3000 : Int) < s + (ls[k].1.length : Int)) = true := by simpa using hg
          go_wp2
          go_ret
          exact ⟨rfl, hb1'⟩
        · have hg2 : decide ((3000 : Int) < s + (ls[k].1.length : Int)) = false := by simpa using hg
          have hle : ls[k].1.length ≤ 3000 := by omega
          have HLE := hide hle
          have hs3 : s + (ls[k].1.length : Int) ≤ 3000 := by omega
          go_wp2
          go_roundw
          case rel =>
            refine ⟨k + 1, _, by omega, by go_num, rfl, by omega, by omega, fun j hj hjk => ?_, trivial⟩
            by_cases e : j = k
            · subst e; exact HLE.out
            · exact HP.out j hj (by omega)
          case measure => simp [intOf]; omega
      · have hlen : ∀ l ∈ ls, l.1.length ≤ 1000000 := by
          intro l hl
          obtain ⟨j, hj, rfl⟩ := List.getElem_of_mem hl
          have := HP.out j hj (by omega)
          omega
        have HLEN := hide hlen
        have hll : ls.length ≤ 1000000 := by omega
        have hV1 := VarsA.of (HSE.out.below hb1')
        have hxa := hx1.mono (So' := fun _ => True) (Si' := fun b => b < w.heap.size) (Keep.weaken fun _ _ => trivial) (Keep.refl _ _)
        have hd1 : Below w1.heap.size w1 w1.drew := ⟨rfl, rfl, rfl, Nat.le_refl _, fun _ _ => rfl⟩
        have hz1d : w1.drew.heap.size = w1.heap.size := rfl
        have HX : Hid (∀ W, Below w1.heap.size w1 W → Slc RLine (fun _ => True) (fun b => b < W.heap.size) W (.slice A ls.length cp) ls) := hide (fun W h => (hxa.mono (Keep.below (S := fun _ => True) h) (Keep.below (S := fun b => b < w.heap.size) h)).mono (Keep.refl _ _) (Keep.weaken fun b hb => by have := h.size; omega))
        have HAL := hide (fun W (h : Below w1.heap.size w1 W) => ALook_ok b _ _ wd hi r c p au ls W (hV1.below h) (HX.out W h) HLEN.out hll)
        have HRL := hide (fun W (h : Below w1.heap.size w1 W) => rLook_ok _ _ wd hi r c p au ls W (HX.out W h) HLEN.out hll)
        have HFI := hide (fun W (h : Below w1.heap.size w1 W) => AFirst_ok b _ _ wd hi r c p au ls W (hV1.below h) (HX.out W h) HLEN.out hll)
        have HSo := hide (fun W (h : Below w1.heap.size w1 W) => ASound_ok b _ _ wd hi r c p au ls W (hV1.below h) (HX.out W h) HLEN.out hll)
        have HN := hide (lookF_nil ⟨wd, hi, ls, r, c, p, au⟩)
        have HGD := hide (lookF_good ⟨wd, hi, ls, r, c, p, au⟩)
        have HTW := hide (fun W (h : Below w1.heap.size w1 W) => HTV.out.below (hb1'.trans (h.mono hz1)))
        have HSW := hide (fun W (h : Below w1.heap.size w1 W) => HSE.out.below (hb1'.trans (h.mono hz1)))
        clear hlen hV1 hxa hx1
        generalize rightV ⟨wd, hi, ls, r, c, p, au⟩ = rt at *
        generalize lookF ⟨wd, hi, ls, r, c, p, au⟩ = res at *
        generalize hds : List.map dOf res = ds at *
        have HDL : Hid (ds.length = res.length) := hide (by rw [← hds, List.length_map])
        have HDK : Hid (∀ k (h : k < ds.length) (h' : k < res.length), ds[k] = dOf res[k]) := hide (fun k h h' => by subst hds; exact List.getElem_map ..)
        clear hds
        go_wp2
        refine wp_region_held_drew (S := fun w' => w'.cell? ⟨w.heap.size, 0, none⟩ = some (.int .i64 wd) ∧ w'.cell? ⟨w.heap.size, 1, none⟩ = some (.int .i64 hi) ∧ w'.cell? ⟨w.heap.size, 2, none⟩ = some (.slice A ls.length cp) ∧ w'.cell? ⟨w.heap.size, 3, none⟩ = some (.int .i64 r) ∧ w'.cell? ⟨w.heap.size, 4, none⟩ = some (.int .i64 c) ∧ w'.cell? ⟨w.heap.size, 5, none⟩ = some (.bool p) ∧ w'.cell? ⟨w.heap.size, 6, none⟩ = some (.bool au)) (by kernel_rfl) (by go_keep) (fun hHeld => ?_)
        refine wpAnyH_take (i := 0) (oi := ?_) (v := ?_) ?_ (by kernel_rfl) (by kernel_rfl) (by kernel_rfl) ?_ (Or.inl ⟨?_, ?_⟩) (by assumption) ?_
        rotate_left 2
        · (simp only [List.getElem?_toArray, List.getElem?_cons_succ, List.getElem?_cons_zero]; rfl)
        rotate_left 1
        · rfl
        · (intro w hSw; (try dsimp only at hSw); go_simp; try with_reducible rfl)
        rotate_left 1
        · exact fun _ _ _ h => h
        try simp only [Act.put, List.setIfInBounds_toArray, List.set_cons_zero, List.set_cons_succ]
        refine wpAnyH_take (i := 2) (oi := ?_) (v := ?_) ?_ (by kernel_rfl) (by kernel_rfl) (by kernel_rfl) ?_ (Or.inl ⟨?_, ?_⟩) (by assumption) ?_
        rotate_left 2
        · (simp only [List.getElem?_toArray, List.getElem?_cons_succ, List.getElem?_cons_zero]; rfl)
        rotate_left 1
        · rfl
        · (intro w hSw; (try dsimp only at hSw); go_simp; try with_reducible rfl)
        rotate_left 1
        · exact fun _ _ _ h => h
        try simp only [Act.put, List.setIfInBounds_toArray, List.set_cons_zero, List.set_cons_succ]
        refine wpAnyH_ready (rs := [1]) (by kernel_rfl) (by simp) ?_
        refine AllReadyH.cons (o := ?_) ?_ (fun K hK => ?_) AllReadyH.nil
        rotate_left 1
        · (simp only [List.getElem?_toArray, List.getElem?_cons_succ, List.getElem?_cons_zero]; rfl)
        go_simp
        (go_at_call 32; refine (HAL.out _ hd1).mono ?_; rintro e w3 ⟨s3, rfl, hl3, hc3⟩; have hb3 := hd1.trans (hc3.mono hd1.size); have a0 := (hb3.cell (p := ⟨w.heap.size, 0, none⟩) hlt).trans y0; have a1 := (hb3.cell (p := ⟨w.heap.size, 1, none⟩) hlt).trans y1; have a2 := (hb3.cell (p := ⟨w.heap.size, 2, none⟩) hlt).trans y2; have a3 := (hb3.cell (p := ⟨w.heap.size, 3, none⟩) hlt).trans y3; have a4 := (hb3.cell (p := ⟨w.heap.size, 4, none⟩) hlt).trans y4; have a5 := (hb3.cell (p := ⟨w.heap.size, 5, none⟩) hlt).trans y5; have a6 := (hb3.cell (p := ⟨w.heap.size, 6, none⟩) hlt).trans y6)
        refine hK.out _ _ ?_ (fun hHeld => ?_)
        · ((try dsimp only); go_keep)
        clear hK K
        try simp only [Act.put, List.setIfInBounds_toArray, List.set_cons_zero, List.set_cons_succ]
        refine wpAnyH_ready (rs := [3]) (by kernel_rfl) (by simp) ?_
        refine AllReadyH.cons (o := ?_) ?_ (fun K hK => ?_) AllReadyH.nil
        rotate_left 1
        · (simp only [List.getElem?_toArray, List.getElem?_cons_succ, List.getElem?_cons_zero]; rfl)
        go_simp
        (go_at_call 33; refine (HRL.out _ hb3).mono ?_; rintro e w4 ⟨s4, rfl, hm4, hc4⟩; have hb4 := hb3.trans (hc4.mono hb3.size); have d0 := (hb4.cell (p := ⟨w.heap.size, 0, none⟩) hlt).trans y0; have d1 := (hb4.cell (p := ⟨w.heap.size, 1, none⟩) hlt).trans y1; have d2 := (hb4.cell (p := ⟨w.heap.size, 2, none⟩) hlt).trans y2; have d3 := (hb4.cell (p := ⟨w.heap.size, 3, none⟩) hlt).trans y3; have d4 := (hb4.cell (p := ⟨w.heap.size, 4, none⟩) hlt).trans y4; have d5 := (hb4.cell (p := ⟨w.heap.size, 5, none⟩) hlt).trans y5; have d6 := (hb4.cell (p := ⟨w.heap.size, 6, none⟩) hlt).trans y6)
        refine hK.out _ _ ?_ (fun hHeld => ?_)
        · ((try dsimp only); go_keep)
        clear hK K
        try simp only [Act.put, List.setIfInBounds_toArray, List.set_cons_zero, List.set_cons_succ]
        refine wpAnyH_take (i := 4) (oi := ?_) (v := ?_) ?_ (by kernel_rfl) (by kernel_rfl) (by kernel_rfl) ?_ (Or.inl ⟨?_, ?_⟩) (by assumption) ?_
        rotate_left 2
        · (simp only [List.getElem?_toArray, List.getElem?_cons_succ, List.getElem?_cons_zero]; rfl)
        rotate_left 1
        · rfl
        · (intro w hSw; (try dsimp only at hSw); go_simp; try with_reducible rfl)
        rotate_left 1
        · exact fun _ _ _ h => h
        try simp only [Act.put, List.setIfInBounds_toArray, List.set_cons_zero, List.set_cons_succ]
        refine wpAnyH_take (i := 5) (oi := ?_) (v := ?_) ?_ (by kernel_rfl) (by kernel_rfl) (by kernel_rfl) ?_ (Or.inl ⟨?_, ?_⟩) (by assumption) ?_
        rotate_left 2
        · (simp only [List.getElem?_toArray, List.getElem?_cons_succ, List.getElem?_cons_zero]; rfl)
        rotate_left 1
        · rfl
        · (intro w hSw; (try dsimp only at hSw); go_simp; try with_reducible rfl)
        rotate_left 1
        · exact fun _ _ _ h => h
        try simp only [Act.put, List.setIfInBounds_toArray, List.set_cons_zero, List.set_cons_succ]
        refine wpAnyH_done (by kernel_rfl) ?_ _
        have hl4 := (hl3.below hc4).slc.mono (Keep.lt _ _) (Keep.lt _ _)
        have hm5 := hm4.slc.mono (Keep.lt _ _) (Keep.lt _ _)
        obtain ⟨A3, c3, rfl, _, _, _⟩ := hl4.open_
        obtain ⟨A4, c4, rfl, _, _, _⟩ := hm5.open_
        have hz4 := hb4.size
        have e0 : ((ds.length : Int) != (res.length : Int)) = false := by rw [HDL.out]; simp
        have hdl1 : ds.length ≤ res.length := by rw [HDL.out]; omega
        have hdl2 : res.length ≤ ds.length := by rw [HDL.out]; omega
        by_cases hz : res.length = 0
        · have e2 : ((res.length : Int) == 0) = true := by simp [hz]
          have hrt : rt = true := HN.out.1 hz
          subst hrt
          have hn0 : ¬ (0 : Int) < (ds.length : Int) := by omega
          clear hz
          go_wp2_with fail
          refine (HFI.out _ hb4).mono ?_
          rintro e w5 ⟨u5, rfl, hu5, hc5⟩
          have hb5 := hb4.trans (hc5.mono hz4)
          have hu6 : u5 = .nilIface := by
            rcases hu5 with ⟨_, h⟩ | ⟨h, _⟩
            · exact h
            · omega
          subst hu6
          clear hu5
          have f0 := (hb5.cell (p := ⟨w.heap.size, 0, none⟩) hlt).trans y0
          have f1 := (hb5.cell (p := ⟨w.heap.size, 1, none⟩) hlt).trans y1
          have f2 := (hb5.cell (p := ⟨w.heap.size, 2, none⟩) hlt).trans y2
          have f3 := (hb5.cell (p := ⟨w.heap.size, 3, none⟩) hlt).trans y3
          have f4 := (hb5.cell (p := ⟨w.heap.size, 4, none⟩) hlt).trans y4
          have f5 := (hb5.cell (p := ⟨w.heap.size, 5, none⟩) hlt).trans y5
          have f6 := (hb5.cell (p := ⟨w.heap.size, 6, none⟩) hlt).trans y6
          go_wp2_with fail
          refine (HSo.out _ hb5).mono ?_
          rintro e w6 ⟨rfl, hc6⟩
          have hb6 := hb5.trans (hc6.mono hb5.size)
          have ga0 := (hb6.cell (p := ⟨w.heap.size, 0, none⟩) hlt).trans y0
          have ga1 := (hb6.cell (p := ⟨w.heap.size, 1, none⟩) hlt).trans y1
          have ga2 := (hb6.cell (p := ⟨w.heap.size, 2, none⟩) hlt).trans y2
          have ga3 := (hb6.cell (p := ⟨w.heap.size, 3, none⟩) hlt).trans y3
          have ga4 := (hb6.cell (p := ⟨w.heap.size, 4, none⟩) hlt).trans y4
          have ga5 := (hb6.cell (p := ⟨w.heap.size, 5, none⟩) hlt).trans y5
          have ga6 := (hb6.cell (p := ⟨w.heap.size, 6, none⟩) hlt).trans y6
          go_wp2
          go_loopw [7] (fun i wr => i = .int .i64 0 ∧ w6 = wr) (fun _ _ => 0)
          case atStart => exact ⟨rfl, rfl⟩
          case round =>
            obtain ⟨rfl, rfl⟩ := hrel
            go_wp2
            refine wp_region_held_drew (S := fun w' => w'.cell? ⟨w.heap.size, 0, none⟩ = some (.int .i64 wd) ∧ w'.cell? ⟨w.heap.size, 1, none⟩ = some (.int .i64 hi) ∧ w'.cell? ⟨w.heap.size, 2, none⟩ = some (.slice A ls.length cp) ∧ w'.cell? ⟨w.heap.size, 3, none⟩ = some (.int .i64 r) ∧ w'.cell? ⟨w.heap.size, 4, none⟩ = some (.int .i64 c) ∧ w'.cell? ⟨w.heap.size, 5, none⟩ = some (.bool p) ∧ w'.cell? ⟨w.heap.size, 6, none⟩ = some (.bool au)) (by kernel_rfl) (by go_keep) (fun hHeld => ?_)
            refine wpAnyH_take (i := 0) (oi := ?_) (v := ?_) ?_ (by kernel_rfl) (by kernel_rfl) (by kernel_rfl) ?_ (Or.inl ⟨?_, ?_⟩) (by assumption) ?_
            rotate_left 2
            · (simp only [List.getElem?_toArray, List.getElem?_cons_succ, List.getElem?_cons_zero]; rfl)
            rotate_left 1
            · rfl
            · (intro w hSw; (try dsimp only at hSw); go_simp; try with_reducible rfl)
            rotate_left 1
            · exact fun _ _ _ h => h
            try simp only [Act.put, List.setIfInBounds_toArray, List.set_cons_zero, List.set_cons_succ]
            refine wpAnyH_take (i := 1) (oi := ?_) (v := ?_) ?_ (by kernel_rfl) (by kernel_rfl) (by kernel_rfl) ?_ (Or.inl ⟨?_, ?_⟩) (by assumption) ?_
            rotate_left 2
            · (simp only [List.getElem?_toArray, List.getElem?_cons_succ, List.getElem?_cons_zero]; rfl)
            rotate_left 1
            · rfl
            · (intro w hSw; (try dsimp only at hSw); go_simp; try with_reducible rfl)
            rotate_left 1
            · exact fun _ _ _ h => h
            try simp only [Act.put, List.setIfInBounds_toArray, List.set_cons_zero, List.set_cons_succ]
            refine wpAnyH_take (i := 2) (oi := ?_) (v := ?_) ?_ (by kernel_rfl) (by kernel_rfl) (by kernel_rfl) ?_ (Or.inl ⟨?_, ?_⟩) (by assumption) ?_
            rotate_left 2
            · (simp only [List.getElem?_toArray, List.getElem?_cons_succ, List.getElem?_cons_zero]; rfl)
            rotate_left 1
            · rfl
            · (intro w hSw; (try dsimp only at hSw); go_simp; try with_reducible rfl)
            rotate_left 1
            · exact fun _ _ _ h => h
            try simp only [Act.put, List.setIfInBounds_toArray, List.set_cons_zero, List.set_cons_succ]
            refine wpAnyH_take (i := 3) (oi := ?_) (v := ?_) ?_ (by kernel_rfl) (by kernel_rfl) (by kernel_rfl) ?_ (Or.inl ⟨?_, ?_⟩) (by assumption) ?_
            rotate_left 2
            · (simp only [List.getElem?_toArray, List.getElem?_cons_succ, List.getElem?_cons_zero]; rfl)
            rotate_left 1
            · rfl
            · (intro w hSw; (try dsimp only at hSw); go_simp; try with_reducible rfl)
            rotate_left 1
            · exact fun _ _ _ h => h
            try simp only [Act.put, List.setIfInBounds_toArray, List.set_cons_zero, List.set_cons_succ]
            refine wpAnyH_take (i := 4) (oi := ?_) (v := ?_) ?_ (by kernel_rfl) (by kernel_rfl) (by kernel_rfl) ?_ (Or.inr ⟨?_, ?_⟩) (by assumption) ?_
            rotate_left 2
            · (simp only [List.getElem?_toArray, List.getElem?_cons_succ, List.getElem?_cons_zero]; rfl)
            rotate_left 1
            · rfl
            · rfl
            rotate_left 1
            · exact fun _ _ _ h => h
            try simp only [Act.put, List.setIfInBounds_toArray, List.set_cons_zero, List.set_cons_succ]
            refine wpAnyH_take (i := 5) (oi := ?_) (v := ?_) ?_ (by kernel_rfl) (by kernel_rfl) (by kernel_rfl) ?_ (Or.inr ⟨?_, ?_⟩) (by assumption) ?_
            rotate_left 2
            · (simp only [List.getElem?_toArray, List.getElem?_cons_succ, List.getElem?_cons_zero]; rfl)
            rotate_left 1
            · rfl
            · rfl
            rotate_left 1
            · exact fun _ _ _ h => h
            try simp only [Act.put, List.setIfInBounds_toArray, List.set_cons_zero, List.set_cons_succ]
            refine wpAnyH_take (i := 6) (oi := ?_) (v := ?_) ?_ (by kernel_rfl) (by kernel_rfl) (by kernel_rfl) ?_ (Or.inr ⟨?_, ?_⟩) (by assumption) ?_
            rotate_left 2
            · (simp only [List.getElem?_toArray, List.getElem?_cons_succ, List.getElem?_cons_zero]; rfl)
            rotate_left 1
            · rfl
            · rfl
            rotate_left 1
            · exact fun _ _ _ h => h
            try simp only [Act.put, List.setIfInBounds_toArray, List.set_cons_zero, List.set_cons_succ]
            refine wpAnyH_take (i := 7) (oi := ?_) (v := ?_) ?_ (by kernel_rfl) (by kernel_rfl) (by kernel_rfl) ?_ (Or.inr ⟨?_, ?_⟩) (by assumption) ?_
            rotate_left 2
            · (simp only [List.getElem?_toArray, List.getElem?_cons_succ, List.getElem?_cons_zero]; rfl)
            rotate_left 1
            · rfl
            · rfl
            rotate_left 1
            · exact fun _ _ _ h => h
            try simp only [Act.put, List.setIfInBounds_toArray, List.set_cons_zero, List.set_cons_succ]
            refine wpAnyH_take (i := 8) (oi := ?_) (v := ?_) ?_ (by kernel_rfl) (by kernel_rfl) (by kernel_rfl) ?_ (Or.inr ⟨?_, ?_⟩) (by assumption) ?_
            rotate_left 2
            · (simp only [List.getElem?_toArray, List.getElem?_cons_succ, List.getElem?_cons_zero]; rfl)
            rotate_left 1
            · rfl
            · rfl
            rotate_left 1
            · exact fun _ _ _ h => h
            try simp only [Act.put, List.setIfInBounds_toArray, List.set_cons_zero, List.set_cons_succ]
            refine wpAnyH_take (i := 9) (oi := ?_) (v := ?_) ?_ (by kernel_rfl) (by kernel_rfl) (by kernel_rfl) ?_ (Or.inr ⟨?_, ?_⟩) (by assumption) ?_
            rotate_left 2
            · (simp only [List.getElem?_toArray, List.getElem?_cons_succ, List.getElem?_cons_zero]; rfl)
            rotate_left 1
            · rfl
            · rfl
            rotate_left 1
            · exact fun _ _ _ h => h
            try simp only [Act.put, List.setIfInBounds_toArray, List.set_cons_zero, List.set_cons_succ]
            refine wpAnyH_take (i := 10) (oi := ?_) (v := ?_) ?_ (by kernel_rfl) (by kernel_rfl) (by kernel_rfl) ?_ (Or.inr ⟨?_, ?_⟩) (by assumption) ?_
            rotate_left 2
            · (simp only [List.getElem?_toArray, List.getElem?_cons_succ, List.getElem?_cons_zero]; rfl)
            rotate_left 1
            · rfl
            · rfl
            rotate_left 1
            · exact fun _ _ _ h => h
            try simp only [Act.put, List.setIfInBounds_toArray, List.set_cons_zero, List.set_cons_succ]
            refine wpAnyH_take (i := 11) (oi := ?_) (v := ?_) ?_ (by kernel_rfl) (by kernel_rfl) (by kernel_rfl) ?_ (Or.inr ⟨?_, ?_⟩) (by assumption) ?_
            rotate_left 2
            · (simp only [List.getElem?_toArray, List.getElem?_cons_succ, List.getElem?_cons_zero]; rfl)
            rotate_left 1
            · rfl
            · rfl
            rotate_left 1
            · exact fun _ _ _ h => h
            try simp only [Act.put, List.setIfInBounds_toArray, List.set_cons_zero, List.set_cons_succ]
            refine wpAnyH_take (i := 12) (oi := ?_) (v := ?_) ?_ (by kernel_rfl) (by kernel_rfl) (by kernel_rfl) ?_ (Or.inr ⟨?_, ?_⟩) (by assumption) ?_
            rotate_left 2
            · (simp only [List.getElem?_toArray, List.getElem?_cons_succ, List.getElem?_cons_zero]; rfl)
            rotate_left 1
            · rfl
            · rfl
            rotate_left 1
            · exact fun _ _ _ h => h
            try simp only [Act.put, List.setIfInBounds_toArray, List.set_cons_zero, List.set_cons_succ]
            refine wpAnyH_take (i := 13) (oi := ?_) (v := ?_) ?_ (by kernel_rfl) (by kernel_rfl) (by kernel_rfl) ?_ (Or.inr ⟨?_, ?_⟩) (by assumption) ?_
            rotate_left 2
            · (simp only [List.getElem?_toArray, List.getElem?_cons_succ, List.getElem?_cons_zero]; rfl)
            rotate_left 1
            · rfl
            · rfl
            rotate_left 1
            · exact fun _ _ _ h => h
            try simp only [Act.put, List.setIfInBounds_toArray, List.set_cons_zero, List.set_cons_succ]
            refine wpAnyH_take (i := 14) (oi := ?_) (v := ?_) ?_ (by kernel_rfl) (by kernel_rfl) (by kernel_rfl) ?_ (Or.inr ⟨?_, ?_⟩) (by assumption) ?_
            rotate_left 2
            · (simp only [List.getElem?_toArray, List.getElem?_cons_succ, List.getElem?_cons_zero]; rfl)
            rotate_left 1
            · rfl
            · rfl
            rotate_left 1
            · exact fun _ _ _ h => h
            try simp only [Act.put, List.setIfInBounds_toArray, List.set_cons_zero, List.set_cons_succ]
            refine wpAnyH_take (i := 15) (oi := ?_) (v := ?_) ?_ (by kernel_rfl) (by kernel_rfl) (by kernel_rfl) ?_ (Or.inr ⟨?_, ?_⟩) (by assumption) ?_
            rotate_left 2
            · (simp only [List.getElem?_toArray, List.getElem?_cons_succ, List.getElem?_cons_zero]; rfl)
            rotate_left 1
            · rfl
            · rfl
            rotate_left 1
            · exact fun _ _ _ h => h
            try simp only [Act.put, List.setIfInBounds_toArray, List.set_cons_zero, List.set_cons_succ]
            refine wpAnyH_take (i := 16) (oi := ?_) (v := ?_) ?_ (by kernel_rfl) (by kernel_rfl) (by kernel_rfl) ?_ (Or.inr ⟨?_, ?_⟩) (by assumption) ?_
            rotate_left 2
            · (simp only [List.getElem?_toArray, List.getElem?_cons_succ, List.getElem?_cons_zero]; rfl)
            rotate_left 1
            · rfl
            · rfl
            rotate_left 1
            · exact fun _ _ _ h => h
            try simp only [Act.put, List.setIfInBounds_toArray, List.set_cons_zero, List.set_cons_succ]
            refine wpAnyH_take (i := 17) (oi := ?_) (v := ?_) ?_ (by kernel_rfl) (by kernel_rfl) (by kernel_rfl) ?_ (Or.inr ⟨?_, ?_⟩) (by assumption) ?_
            rotate_left 2
            · (simp only [List.getElem?_toArray, List.getElem?_cons_succ, List.getElem?_cons_zero]; rfl)
            rotate_left 1
            · rfl
            · rfl
            rotate_left 1
            · exact fun _ _ _ h => h
            try simp only [Act.put, List.setIfInBounds_toArray, List.set_cons_zero, List.set_cons_succ]
            refine wpAnyH_take (i := 18) (oi := ?_) (v := ?_) ?_ (by kernel_rfl) (by kernel_rfl) (by kernel_rfl) ?_ (Or.inr ⟨?_, ?_⟩) (by assumption) ?_
            rotate_left 2
            · (simp only [List.getElem?_toArray, List.getElem?_cons_succ, List.getElem?_cons_zero]; rfl)
            rotate_left 1
            · rfl
            · rfl
            rotate_left 1
            · exact fun _ _ _ h => h
            try simp only [Act.put, List.setIfInBounds_toArray, List.set_cons_zero, List.set_cons_succ]
            refine wpAnyH_take (i := 19) (oi := ?_) (v := ?_) ?_ (by kernel_rfl) (by kernel_rfl) (by kernel_rfl) ?_ (Or.inr ⟨?_, ?_⟩) (by assumption) ?_
            rotate_left 2
            · (simp only [List.getElem?_toArray, List.getElem?_cons_succ, List.getElem?_cons_zero]; rfl)
            rotate_left 1
            · rfl
            · rfl
            rotate_left 1
            · exact fun _ _ _ h => h
            try simp only [Act.put, List.setIfInBounds_toArray, List.set_cons_zero, List.set_cons_succ]
            refine wpAnyH_take (i := 20) (oi := ?_) (v := ?_) ?_ (by kernel_rfl) (by kernel_rfl) (by kernel_rfl) ?_ (Or.inr ⟨?_, ?_⟩) (by assumption) ?_
            rotate_left 2
            · (simp only [List.getElem?_toArray, List.getElem?_cons_succ, List.getElem?_cons_zero]; rfl)
            rotate_left 1
            · rfl
            · rfl
            rotate_left 1
            · exact fun _ _ _ h => h
            try simp only [Act.put, List.setIfInBounds_toArray, List.set_cons_zero, List.set_cons_succ]
            refine wpAnyH_take (i := 21) (oi := ?_) (v := ?_) ?_ (by kernel_rfl) (by kernel_rfl) (by kernel_rfl) ?_ (Or.inr ⟨?_, ?_⟩) (by assumption) ?_
            rotate_left 2
            · (simp only [List.getElem?_toArray, List.getElem?_cons_succ, List.getElem?_cons_zero]; rfl)
            rotate_left 1
            · rfl
            · rfl
            rotate_left 1
            · exact fun _ _ _ h => h
            try simp only [Act.put, List.setIfInBounds_toArray, List.set_cons_zero, List.set_cons_succ]
            refine wpAnyH_take (i := 22) (oi := ?_) (v := ?_) ?_ (by kernel_rfl) (by kernel_rfl) (by kernel_rfl) ?_ (Or.inl ⟨?_, ?_⟩) (by assumption) ?_
            rotate_left 2
            · (simp only [List.getElem?_toArray, List.getElem?_cons_succ, List.getElem?_cons_zero]; rfl)
            rotate_left 1
            · rfl
            · (intro w hSw; (try dsimp only at hSw); go_simp; try with_reducible rfl)
            rotate_left 1
            · exact fun _ _ _ h => h
            try simp only [Act.put, List.setIfInBounds_toArray, List.set_cons_zero, List.set_cons_succ]
            refine wpAnyH_take (i := 23) (oi := ?_) (v := ?_) ?_ (by kernel_rfl) (by kernel_rfl) (by kernel_rfl) ?_ (Or.inl ⟨?_, ?_⟩) (by assumption) ?_
            rotate_left 2
            · (simp only [List.getElem?_toArray, List.getElem?_cons_succ, List.getElem?_cons_zero]; rfl)
            rotate_left 1
            · rfl
            · (intro w hSw; (try dsimp only at hSw); go_simp; try with_reducible rfl)
            rotate_left 1
            · exact fun _ _ _ h => h
            try simp only [Act.put, List.setIfInBounds_toArray, List.set_cons_zero, List.set_cons_succ]
            refine wpAnyH_done (by kernel_rfl) ?_ _
            go_wp2
            go_ret
            exact ⟨rfl, hb1'.trans ((below_dr hb6).mono hz1)⟩
        · have e2 : ((res.length : Int) == 0) = false := by rw [beq_eq_false_iff_ne]; omega
          have hrt : rt = false := by
            rcases Bool.eq_false_or_eq_true rt with h | h
            · exact absurd (HN.out.2 h) hz
            · exact h
          subst hrt
          have hp0 : 0 < res.length := by omega
          have hp1 : 0 < ds.length := by omega
          have hp2 : (0 : Int) < (res.length : Int) := by omega
          obtain ⟨⟨x1, x2, x3⟩, hx0⟩ : ∃ x, x = res[0] := ⟨_, rfl⟩
          have hg0 := (HGD.out _ (List.getElem_mem hp0)).2
          have hd0 := HDK.out 0 hp1 hp0
          rw [← hx0] at hg0 hd0
          have HG0 := hide hg0
          have HF1 : Hid (∀ W, Below w1.heap.size w1 W → Calls Tryd.prog 34 #[.agg #[.int .i64 wd, .int .i64 hi, .slice A ls.length cp, .int .i64 r, .int .i64 c, .bool p, .bool au]] W fun e w' => ∃ t u, e = .returned (.iface t u) ∧ errIs b (fun b => b < w'.heap.size) w' (.iface t u) (dOf (x1, x2, x3)) ∧ Below W.heap.size W w') := hide (fun W h => (HFI.out W h).mono (by
            rintro e w' ⟨u, rfl, hu, hc⟩
            rcases hu with ⟨h0, _⟩ | ⟨_, hu⟩
            · omega
            · obtain ⟨t, u', rfl⟩ := hu.form
              rw [hd0] at hu
              exact ⟨t, u', rfl, hu, hc⟩))
          obtain ⟨g4, o4, hA4, _, n0, n1, n2⟩ := found_at hm5.slb hp0
          subst hA4
          have hlt4 := World.block_lt_of_cell? _ _ n0
          simp only [Nat.zero_mul, Nat.add_zero] at n0 n2 hlt4
          rw [← hx0] at n0 n2
          simp only at n0 n2
          have N0 := hide n0
          have N2 := hide n2
          clear hz hg0 hd0 hx0 n0 n1 n2 HFI
          go_wp2_with fail
          refine (HF1.out _ hb4).mono ?_
          rintro e w5 ⟨t5, u5, rfl, _, hc5⟩
          have hb5 := hb4.trans (hc5.mono hz4)
          have f0 := (hb5.cell (p := ⟨w.heap.size, 0, none⟩) hlt).trans y0
          have f1 := (hb5.cell (p := ⟨w.heap.size, 1, none⟩) hlt).trans y1
          have f2 := (hb5.cell (p := ⟨w.heap.size, 2, none⟩) hlt).trans y2
          have f3 := (hb5.cell (p := ⟨w.heap.size, 3, none⟩) hlt).trans y3
          have f4 := (hb5.cell (p := ⟨w.heap.size, 4, none⟩) hlt).trans y4
          have f5 := (hb5.cell (p := ⟨w.heap.size, 5, none⟩) hlt).trans y5
          have f6 := (hb5.cell (p := ⟨w.heap.size, 6, none⟩) hlt).trans y6
          go_wp2_with fail
          refine (HSo.out _ hb5).mono ?_
          rintro e w6 ⟨rfl, hc6⟩
          have hb6 := hc5.trans (hc6.mono hc5.size)
          go_wp2
          go_loopw [7] (fun i wr => ∃ k : Nat, k ≤ ds.length ∧ i = .int .i64 k ∧ Below w4.heap.size w4 wr) (fun i _ => ds.length - (intOf i).toNat)
          case atStart => exact ⟨0, Nat.zero_le _, rfl, hb6⟩
          case round =>
            obtain ⟨k, hk, rfl, hbr⟩ := hrel
            by_cases hkl : k < ds.length
            · have hkr : k < res.length := by omega
              have hki : (k : Int) < (ds.length : Int) := by omega
              have hkj : (k : Int) < (res.length : Int) := by omega
              have hk0 : (0 : Int) ≤ (k : Int) := by omega
              obtain ⟨g, off, u, rfl, _, q0, hu⟩ := err_at hl4.slb hkl
              obtain ⟨g2, o2, hA5, _, m0, m1, m2⟩ := found_at hm5.slb hkr
              obtain ⟨rfl, rfl⟩ : g4 = g2 ∧ o4 = o2 := by cases hA5; exact ⟨rfl, rfl⟩
              clear hA5
              obtain ⟨⟨z1, z2, z3⟩, hz0⟩ : ∃ x, x = res[k] := ⟨_, rfl⟩
              have hgk := HGD.out _ (List.getElem_mem hkr)
              have hdk := HDK.out k hkl hkr
              rw [← hz0] at hgk hdk m0 m1 m2
              rw [hdk] at hu
              simp only at hgk m0 m1 m2
              obtain ⟨t, u', rfl⟩ := hu.form
              have HG1 := hide hgk.1
              have HG2 := hide hgk.2
              have HE : Hid (∀ W, Below w4.heap.size w4 W → errIs b (fun b => b < w4.heap.size) W (.iface t u') (dOf (z1, z2, z3))) := hide (fun W h => hu.mono (Keep.below h))
              have e1 : (z1 != z1) = false := by simp
              have e3 : (z2 != z2) = false := by simp
              have e4 : (z3 != z3) = false := by simp
              have l0 := World.block_lt_of_cell? _ _ q0
              have l1 := World.block_lt_of_cell? _ _ m0
              simp only at l0 l1
              have r0 := (hbr.cell (p := ⟨g, off + k, none⟩) l0).trans q0
              have r1 := (hbr.cell (p := ⟨g4, o4 + k * 3, none⟩) l1).trans m0
              have r2 := (hbr.cell (p := ⟨g4, o4 + k * 3 + 1, none⟩) l1).trans m1
              have r3 := (hbr.cell (p := ⟨g4, o4 + k * 3 + 2, none⟩) l1).trans m2
              have hbd := below_dr hbr
              have hb4d := hb4.trans (hbd.mono hz4)
              have Q0 := hide q0
              have M0 := hide m0
              have M1 := hide m1
              have M2 := hide m2
              clear hgk hdk hu hz0 q0 m0 m1 m2
              go_wp2
              refine wp_region_held_drew (S := fun w' => w'.cell? ⟨g, off + k, none⟩ = some (.iface t u') ∧ w'.cell? ⟨g4, o4 + k * 3, none⟩ = some (.int .i64 z1) ∧ w'.cell? ⟨g4, o4 + k * 3 + 1, none⟩ = some (.int .i64 z2) ∧ w'.cell? ⟨g4, o4 + k * 3 + 2, none⟩ = some (.int .i64 z3)) (by kernel_rfl) (by go_keep) (fun hHeld => ?_)
              refine wpAnyH_take (i := 0) (oi := ?_) (v := ?_) ?_ (by kernel_rfl) (by kernel_rfl) (by kernel_rfl) ?_ (Or.inl ⟨?_, ?_⟩) (by assumption) ?_
              rotate_left 2
              · (simp only [List.getElem?_toArray, List.getElem?_cons_succ, List.getElem?_cons_zero]; rfl)
              rotate_left 1
              · rfl
              · (intro w hSw; (try dsimp only at hSw); go_simp; try with_reducible rfl)
              rotate_left 1
              · exact fun _ _ _ h => h
              try simp only [Act.put, List.setIfInBounds_toArray, List.set_cons_zero, List.set_cons_succ]
              refine wpAnyH_take (i := 1) (oi := ?_) (v := ?_) ?_ (by kernel_rfl) (by kernel_rfl) (by kernel_rfl) ?_ (Or.inl ⟨?_, ?_⟩) (by assumption) ?_
              rotate_left 2
              · (simp only [List.getElem?_toArray, List.getElem?_cons_succ, List.getElem?_cons_zero]; rfl)
              rotate_left 1
              · rfl
              · (intro w hSw; (try dsimp only at hSw); go_simp; try with_reducible rfl)
              rotate_left 1
              · exact fun _ _ _ h => h
              try simp only [Act.put, List.setIfInBounds_toArray, List.set_cons_zero, List.set_cons_succ]
              refine wpAnyH_take (i := 2) (oi := ?_) (v := ?_) ?_ (by kernel_rfl) (by kernel_rfl) (by kernel_rfl) ?_ (Or.inl ⟨?_, ?_⟩) (by assumption) ?_
              rotate_left 2
              · (simp only [List.getElem?_toArray, List.getElem?_cons_succ, List.getElem?_cons_zero]; rfl)
              rotate_left 1
              · rfl
              · (intro w hSw; (try dsimp only at hSw); go_simp; try with_reducible rfl)
              rotate_left 1
              · exact fun _ _ _ h => h
              try simp only [Act.put, List.setIfInBounds_toArray, List.set_cons_zero, List.set_cons_succ]
              refine wpAnyH_take (i := 3) (oi := ?_) (v := ?_) ?_ (by kernel_rfl) (by kernel_rfl) (by kernel_rfl) ?_ (Or.inl ⟨?_, ?_⟩) (by assumption) ?_
              rotate_left 2
              · (simp only [List.getElem?_toArray, List.getElem?_cons_succ, List.getElem?_cons_zero]; rfl)
              rotate_left 1
              · rfl
              · (intro w hSw; (try dsimp only at hSw); go_simp; try with_reducible rfl)
              rotate_left 1
              · exact fun _ _ _ h => h
              try simp only [Act.put, List.setIfInBounds_toArray, List.set_cons_zero, List.set_cons_succ]
              refine wpAnyH_take (i := 5) (oi := ?_) (v := ?_) ?_ (by kernel_rfl) (by kernel_rfl) (by kernel_rfl) ?_ (Or.inl ⟨?_, ?_⟩) (by assumption) ?_
              rotate_left 2
              · (simp only [List.getElem?_toArray, List.getElem?_cons_succ, List.getElem?_cons_zero]; rfl)
              rotate_left 1
              · rfl
              · (intro w hSw; (try dsimp only at hSw); go_simp; try with_reducible rfl)
              rotate_left 1
              · exact fun _ _ _ h => h
              try simp only [Act.put, List.setIfInBounds_toArray, List.set_cons_zero, List.set_cons_succ]
              refine wpAnyH_take (i := 6) (oi := ?_) (v := ?_) ?_ (by kernel_rfl) (by kernel_rfl) (by kernel_rfl) ?_ (Or.inl ⟨?_, ?_⟩) (by assumption) ?_
              rotate_left 2
              · (simp only [List.getElem?_toArray, List.getElem?_cons_succ, List.getElem?_cons_zero]; rfl)
              rotate_left 1
              · rfl
              · (intro w hSw; (try dsimp only at hSw); go_simp; try with_reducible rfl)
              rotate_left 1
              · exact fun _ _ _ h => h
              try simp only [Act.put, List.setIfInBounds_toArray, List.set_cons_zero, List.set_cons_succ]
              refine wpAnyH_take (i := 7) (oi := ?_) (v := ?_) ?_ (by kernel_rfl) (by kernel_rfl) (by kernel_rfl) ?_ (Or.inl ⟨?_, ?_⟩) (by assumption) ?_
              rotate_left 2
              · (simp only [List.getElem?_toArray, List.getElem?_cons_succ, List.getElem?_cons_zero]; rfl)
              rotate_left 1
              · rfl
              · (intro w hSw; (try dsimp only at hSw); go_simp; try with_reducible rfl)
              rotate_left 1
              · exact fun _ _ _ h => h
              try simp only [Act.put, List.setIfInBounds_toArray, List.set_cons_zero, List.set_cons_succ]
              refine wpAnyH_take (i := 8) (oi := ?_) (v := ?_) ?_ (by kernel_rfl) (by kernel_rfl) (by kernel_rfl) ?_ (Or.inl ⟨?_, ?_⟩) (by assumption) ?_
              rotate_left 2
              · (simp only [List.getElem?_toArray, List.getElem?_cons_succ, List.getElem?_cons_zero]; rfl)
              rotate_left 1
              · rfl
              · (intro w hSw; (try dsimp only at hSw); go_simp; try with_reducible rfl)
              rotate_left 1
              · exact fun _ _ _ h => h
              try simp only [Act.put, List.setIfInBounds_toArray, List.set_cons_zero, List.set_cons_succ]
              refine wpAnyH_take (i := 9) (oi := ?_) (v := ?_) ?_ (by kernel_rfl) (by kernel_rfl) (by kernel_rfl) ?_ (Or.inl ⟨?_, ?_⟩) (by assumption) ?_
              rotate_left 2
              · (simp only [List.getElem?_toArray, List.getElem?_cons_succ, List.getElem?_cons_zero]; rfl)
              rotate_left 1
              · rfl
              · (intro w hSw; (try dsimp only at hSw); go_simp; try with_reducible rfl)
              rotate_left 1
              · exact fun _ _ _ h => h
              try simp only [Act.put, List.setIfInBounds_toArray, List.set_cons_zero, List.set_cons_succ]
              refine wpAnyH_ready (rs := [4]) (by kernel_rfl) (by simp) ?_
              refine AllReadyH.cons (o := ?_) ?_ (fun K hK => ?_) AllReadyH.nil
              rotate_left 1
              · (simp only [List.getElem?_toArray, List.getElem?_cons_succ, List.getElem?_cons_zero]; rfl)
              go_simp
              (go_at_call 14; refine (AtD_ok b _ _ z1 z2 z3 _ (HTW.out _ hb4d) (HE.out _ hbd)).mono ?_; rintro e w7 ⟨rfl, hc7⟩; have hb7 := hbd.trans (hc7.mono hbd.size); have r0_7 := (hb7.cell (p := ⟨g, off + k, none⟩) l0).trans Q0.out; have r1_7 := (hb7.cell (p := ⟨g4, o4 + k * 3, none⟩) l1).trans M0.out; have r2_7 := (hb7.cell (p := ⟨g4, o4 + k * 3 + 1, none⟩) l1).trans M1.out; have r3_7 := (hb7.cell (p := ⟨g4, o4 + k * 3 + 2, none⟩) l1).trans M2.out)
              refine hK.out _ _ ?_ (fun hHeld => ?_)
              · ((try dsimp only); go_keep)
              clear hK K
              try simp only [Act.put, List.setIfInBounds_toArray, List.set_cons_zero, List.set_cons_succ]
              refine wpAnyH_take (i := 10) (oi := ?_) (v := ?_) ?_ (by kernel_rfl) (by kernel_rfl) (by kernel_rfl) ?_ (Or.inl ⟨?_, ?_⟩) (by assumption) ?_
              rotate_left 2
              · (simp only [List.getElem?_toArray, List.getElem?_cons_succ, List.getElem?_cons_zero]; rfl)
              rotate_left 1
              · rfl
              · (intro w hSw; (try dsimp only at hSw); go_simp; try with_reducible rfl)
              rotate_left 1
              · exact fun _ _ _ h => h
              try simp only [Act.put, List.setIfInBounds_toArray, List.set_cons_zero, List.set_cons_succ]
              refine wpAnyH_take (i := 11) (oi := ?_) (v := ?_) ?_ (by kernel_rfl) (by kernel_rfl) (by kernel_rfl) ?_ (Or.inl ⟨?_, ?_⟩) (by assumption) ?_
              rotate_left 2
              · (simp only [List.getElem?_toArray, List.getElem?_cons_succ, List.getElem?_cons_zero]; rfl)
              rotate_left 1
              · rfl
              · (intro w hSw; (try dsimp only at hSw); go_simp; try with_reducible rfl)
              rotate_left 1
              · exact fun _ _ _ h => h
              try simp only [Act.put, List.setIfInBounds_toArray, List.set_cons_zero, List.set_cons_succ]
              refine wpAnyH_take (i := 12) (oi := ?_) (v := ?_) ?_ (by kernel_rfl) (by kernel_rfl) (by kernel_rfl) ?_ (Or.inl ⟨?_, ?_⟩) (by assumption) ?_
              rotate_left 2
              · (simp only [List.getElem?_toArray, List.getElem?_cons_succ, List.getElem?_cons_zero]; rfl)
              rotate_left 1
              · rfl
              · (intro w hSw; (try dsimp only at hSw); go_simp; try with_reducible rfl)
              rotate_left 1
              · exact fun _ _ _ h => h
              try simp only [Act.put, List.setIfInBounds_toArray, List.set_cons_zero, List.set_cons_succ]
              refine wpAnyH_take (i := 13) (oi := ?_) (v := ?_) ?_ (by kernel_rfl) (by kernel_rfl) (by kernel_rfl) ?_ (Or.inl ⟨?_, ?_⟩) (by assumption) ?_
              rotate_left 2
              · (simp only [List.getElem?_toArray, List.getElem?_cons_succ, List.getElem?_cons_zero]; rfl)
              rotate_left 1
              · rfl
              · (intro w hSw; (try dsimp only at hSw); go_simp; try with_reducible rfl)
              rotate_left 1
              · exact fun _ _ _ h => h
              try simp only [Act.put, List.setIfInBounds_toArray, List.set_cons_zero, List.set_cons_succ]
              refine wpAnyH_take (i := 14) (oi := ?_) (v := ?_) ?_ (by kernel_rfl) (by kernel_rfl) (by kernel_rfl) ?_ (Or.inl ⟨?_, ?_⟩) (by assumption) ?_
              rotate_left 2
              · (simp only [List.getElem?_toArray, List.getElem?_cons_succ, List.getElem?_cons_zero]; rfl)
              rotate_left 1
              · rfl
              · (intro w hSw; (try dsimp only at hSw); go_simp; try with_reducible rfl)
              rotate_left 1
              · exact fun _ _ _ h => h
              try simp only [Act.put, List.setIfInBounds_toArray, List.set_cons_zero, List.set_cons_succ]
              refine wpAnyH_take (i := 15) (oi := ?_) (v := ?_) ?_ (by kernel_rfl) (by kernel_rfl) (by kernel_rfl) ?_ (Or.inl ⟨?_, ?_⟩) (by assumption) ?_
              rotate_left 2
              · (simp only [List.getElem?_toArray, List.getElem?_cons_succ, List.getElem?_cons_zero]; rfl)
              rotate_left 1
              · rfl
              · (intro w hSw; (try dsimp only at hSw); go_simp; try with_reducible rfl)
              rotate_left 1
              · exact fun _ _ _ h => h
              try simp only [Act.put, List.setIfInBounds_toArray, List.set_cons_zero, List.set_cons_succ]
              refine wpAnyH_take (i := 17) (oi := ?_) (v := ?_) ?_ (by kernel_rfl) (by kernel_rfl) (by kernel_rfl) ?_ (Or.inl ⟨?_, ?_⟩) (by assumption) ?_
              rotate_left 2
              · (simp only [List.getElem?_toArray, List.getElem?_cons_succ, List.getElem?_cons_zero]; rfl)
              rotate_left 1
              · rfl
              · (intro w hSw; (try dsimp only at hSw); go_simp; try with_reducible rfl)
              rotate_left 1
              · exact fun _ _ _ h => h
              try simp only [Act.put, List.setIfInBounds_toArray, List.set_cons_zero, List.set_cons_succ]
              refine wpAnyH_take (i := 18) (oi := ?_) (v := ?_) ?_ (by kernel_rfl) (by kernel_rfl) (by kernel_rfl) ?_ (Or.inl ⟨?_, ?_⟩) (by assumption) ?_
              rotate_left 2
              · (simp only [List.getElem?_toArray, List.getElem?_cons_succ, List.getElem?_cons_zero]; rfl)
              rotate_left 1
              · rfl
              · (intro w hSw; (try dsimp only at hSw); go_simp; try with_reducible rfl)
              rotate_left 1
              · exact fun _ _ _ h => h
              try simp only [Act.put, List.setIfInBounds_toArray, List.set_cons_zero, List.set_cons_succ]
              refine wpAnyH_take (i := 19) (oi := ?_) (v := ?_) ?_ (by kernel_rfl) (by kernel_rfl) (by kernel_rfl) ?_ (Or.inl ⟨?_, ?_⟩) (by assumption) ?_
              rotate_left 2
              · (simp only [List.getElem?_toArray, List.getElem?_cons_succ, List.getElem?_cons_zero]; rfl)
              rotate_left 1
              · rfl
              · (intro w hSw; (try dsimp only at hSw); go_simp; try with_reducible rfl)
              rotate_left 1
              · exact fun _ _ _ h => h
              try simp only [Act.put, List.setIfInBounds_toArray, List.set_cons_zero, List.set_cons_succ]
              refine wpAnyH_take (i := 20) (oi := ?_) (v := ?_) ?_ (by kernel_rfl) (by kernel_rfl) (by kernel_rfl) ?_ (Or.inl ⟨?_, ?_⟩) (by assumption) ?_
              rotate_left 2
              · (simp only [List.getElem?_toArray, List.getElem?_cons_succ, List.getElem?_cons_zero]; rfl)
              rotate_left 1
              · rfl
              · (intro w hSw; (try dsimp only at hSw); go_simp; try with_reducible rfl)
              rotate_left 1
              · exact fun _ _ _ h => h
              try simp only [Act.put, List.setIfInBounds_toArray, List.set_cons_zero, List.set_cons_succ]
              refine wpAnyH_take (i := 21) (oi := ?_) (v := ?_) ?_ (by kernel_rfl) (by kernel_rfl) (by kernel_rfl) ?_ (Or.inl ⟨?_, ?_⟩) (by assumption) ?_
              rotate_left 2
              · (simp only [List.getElem?_toArray, List.getElem?_cons_succ, List.getElem?_cons_zero]; rfl)
              rotate_left 1
              · rfl
              · (intro w hSw; (try dsimp only at hSw); go_simp; try with_reducible rfl)
              rotate_left 1
              · exact fun _ _ _ h => h
              try simp only [Act.put, List.setIfInBounds_toArray, List.set_cons_zero, List.set_cons_succ]
              refine wpAnyH_ready (rs := [16]) (by kernel_rfl) (by simp) ?_
              refine AllReadyH.cons (o := ?_) ?_ (fun K hK => ?_) AllReadyH.nil
              rotate_left 1
              · (simp only [List.getElem?_toArray, List.getElem?_cons_succ, List.getElem?_cons_zero]; rfl)
              go_simp
              (go_at_call 36; refine (WithinD_ok b _ _ z1 z2 z3 _ (HTW.out _ (hb4.trans (hb7.mono hz4))) (HE.out _ hb7) HG1.out).mono ?_; rintro e w8 ⟨rfl, hc8⟩; have hb8 := hb7.trans (hc8.mono hb7.size); have r0_8 := (hb8.cell (p := ⟨g, off + k, none⟩) l0).trans Q0.out; have r1_8 := (hb8.cell (p := ⟨g4, o4 + k * 3, none⟩) l1).trans M0.out; have r2_8 := (hb8.cell (p := ⟨g4, o4 + k * 3 + 1, none⟩) l1).trans M1.out; have r3_8 := (hb8.cell (p := ⟨g4, o4 + k * 3 + 2, none⟩) l1).trans M2.out)
              refine hK.out _ _ ?_ (fun hHeld => ?_)
              · ((try dsimp only); go_keep)
              clear hK K
              try simp only [Act.put, List.setIfInBounds_toArray, List.set_cons_zero, List.set_cons_succ]
              refine wpAnyH_take (i := 22) (oi := ?_) (v := ?_) ?_ (by kernel_rfl) (by kernel_rfl) (by kernel_rfl) ?_ (Or.inl ⟨?_, ?_⟩) (by assumption) ?_
              rotate_left 2
              · (simp only [List.getElem?_toArray, List.getElem?_cons_succ, List.getElem?_cons_zero]; rfl)
              rotate_left 1
              · rfl
              · (intro w hSw; (try dsimp only at hSw); go_simp; try with_reducible rfl)
              rotate_left 1
              · exact fun _ _ _ h => h
              try simp only [Act.put, List.setIfInBounds_toArray, List.set_cons_zero, List.set_cons_succ]
              refine wpAnyH_take (i := 23) (oi := ?_) (v := ?_) ?_ (by kernel_rfl) (by kernel_rfl) (by kernel_rfl) ?_ (Or.inl ⟨?_, ?_⟩) (by assumption) ?_
              rotate_left 2
              · (simp only [List.getElem?_toArray, List.getElem?_cons_succ, List.getElem?_cons_zero]; rfl)
              rotate_left 1
              · rfl
              · (intro w hSw; (try dsimp only at hSw); go_simp; try with_reducible rfl)
              rotate_left 1
              · exact fun _ _ _ h => h
              try simp only [Act.put, List.setIfInBounds_toArray, List.set_cons_zero, List.set_cons_succ]
              refine wpAnyH_take (i := 24) (oi := ?_) (v := ?_) ?_ (by kernel_rfl) (by kernel_rfl) (by kernel_rfl) ?_ (Or.inl ⟨?_, ?_⟩) (by assumption) ?_
              rotate_left 2
              · (simp only [List.getElem?_toArray, List.getElem?_cons_succ, List.getElem?_cons_zero]; rfl)
              rotate_left 1
              · rfl
              · (intro w hSw; (try dsimp only at hSw); go_simp; try with_reducible rfl)
              rotate_left 1
              · exact fun _ _ _ h => h
              try simp only [Act.put, List.setIfInBounds_toArray, List.set_cons_zero, List.set_cons_succ]
              refine wpAnyH_take (i := 25) (oi := ?_) (v := ?_) ?_ (by kernel_rfl) (by kernel_rfl) (by kernel_rfl) ?_ (Or.inl ⟨?_, ?_⟩) (by assumption) ?_
              rotate_left 2
              · (simp only [List.getElem?_toArray, List.getElem?_cons_succ, List.getElem?_cons_zero]; rfl)
              rotate_left 1
              · rfl
              · (intro w hSw; (try dsimp only at hSw); go_simp; try with_reducible rfl)
              rotate_left 1
              · exact fun _ _ _ h => h
              try simp only [Act.put, List.setIfInBounds_toArray, List.set_cons_zero, List.set_cons_succ]
              refine wpAnyH_take (i := 26) (oi := ?_) (v := ?_) ?_ (by kernel_rfl) (by kernel_rfl) (by kernel_rfl) ?_ (Or.inl ⟨?_, ?_⟩) (by assumption) ?_
              rotate_left 2
              · (simp only [List.getElem?_toArray, List.getElem?_cons_succ, List.getElem?_cons_zero]; rfl)
              rotate_left 1
              · rfl
              · (intro w hSw; (try dsimp only at hSw); go_simp; try with_reducible rfl)
              rotate_left 1
              · exact fun _ _ _ h => h
              try simp only [Act.put, List.setIfInBounds_toArray, List.set_cons_zero, List.set_cons_succ]
              refine wpAnyH_take (i := 27) (oi := ?_) (v := ?_) ?_ (by kernel_rfl) (by kernel_rfl) (by kernel_rfl) ?_ (Or.inl ⟨?_, ?_⟩) (by assumption) ?_
              rotate_left 2
              · (simp only [List.getElem?_toArray, List.getElem?_cons_succ, List.getElem?_cons_zero]; rfl)
              rotate_left 1
              · rfl
              · (intro w hSw; (try dsimp only at hSw); go_simp; try with_reducible rfl)
              rotate_left 1
              · exact fun _ _ _ h => h
              try simp only [Act.put, List.setIfInBounds_toArray, List.set_cons_zero, List.set_cons_succ]
              refine wpAnyH_take (i := 28) (oi := ?_) (v := ?_) ?_ (by kernel_rfl) (by kernel_rfl) (by kernel_rfl) ?_ (Or.inl ⟨?_, ?_⟩) (by assumption) ?_
              rotate_left 2
              · (simp only [List.getElem?_toArray, List.getElem?_cons_succ, List.getElem?_cons_zero]; rfl)
              rotate_left 1
              · rfl
              · (intro w hSw; (try dsimp only at hSw); go_simp; try with_reducible rfl)
              rotate_left 1
              · exact fun _ _ _ h => h
              try simp only [Act.put, List.setIfInBounds_toArray, List.set_cons_zero, List.set_cons_succ]
              refine wpAnyH_take (i := 30) (oi := ?_) (v := ?_) ?_ (by kernel_rfl) (by kernel_rfl) (by kernel_rfl) ?_ (Or.inl ⟨?_, ?_⟩) (by assumption) ?_
              rotate_left 2
              · (simp only [List.getElem?_toArray, List.getElem?_cons_succ, List.getElem?_cons_zero]; rfl)
              rotate_left 1
              · rfl
              · (intro w hSw; (try dsimp only at hSw); go_simp; try with_reducible rfl)
              rotate_left 1
              · exact fun _ _ _ h => h
              try simp only [Act.put, List.setIfInBounds_toArray, List.set_cons_zero, List.set_cons_succ]
              refine wpAnyH_take (i := 31) (oi := ?_) (v := ?_) ?_ (by kernel_rfl) (by kernel_rfl) (by kernel_rfl) ?_ (Or.inl ⟨?_, ?_⟩) (by assumption) ?_
              rotate_left 2
              · (simp only [List.getElem?_toArray, List.getElem?_cons_succ, List.getElem?_cons_zero]; rfl)
              rotate_left 1
              · rfl
              · (intro w hSw; (try dsimp only at hSw); go_simp; try with_reducible rfl)
              rotate_left 1
              · exact fun _ _ _ h => h
              try simp only [Act.put, List.setIfInBounds_toArray, List.set_cons_zero, List.set_cons_succ]
              refine wpAnyH_take (i := 32) (oi := ?_) (v := ?_) ?_ (by kernel_rfl) (by kernel_rfl) (by kernel_rfl) ?_ (Or.inl ⟨?_, ?_⟩) (by assumption) ?_
              rotate_left 2
              · (simp only [List.getElem?_toArray, List.getElem?_cons_succ, List.getElem?_cons_zero]; rfl)
              rotate_left 1
              · rfl
              · (intro w hSw; (try dsimp only at hSw); go_simp; try with_reducible rfl)
              rotate_left 1
              · exact fun _ _ _ h => h
              try simp only [Act.put, List.setIfInBounds_toArray, List.set_cons_zero, List.set_cons_succ]
              refine wpAnyH_take (i := 33) (oi := ?_) (v := ?_) ?_ (by kernel_rfl) (by kernel_rfl) (by kernel_rfl) ?_ (Or.inl ⟨?_, ?_⟩) (by assumption) ?_
              rotate_left 2
              · (simp only [List.getElem?_toArray, List.getElem?_cons_succ, List.getElem?_cons_zero]; rfl)
              rotate_left 1
              · rfl
              · (intro w hSw; (try dsimp only at hSw); go_simp; try with_reducible rfl)
              rotate_left 1
              · exact fun _ _ _ h => h
              try simp only [Act.put, List.setIfInBounds_toArray, List.set_cons_zero, List.set_cons_succ]
              refine wpAnyH_take (i := 34) (oi := ?_) (v := ?_) ?_ (by kernel_rfl) (by kernel_rfl) (by kernel_rfl) ?_ (Or.inl ⟨?_, ?_⟩) (by assumption) ?_
              rotate_left 2
              · (simp only [List.getElem?_toArray, List.getElem?_cons_succ, List.getElem?_cons_zero]; rfl)
              rotate_left 1
              · rfl
              · (intro w hSw; (try dsimp only at hSw); go_simp; try with_reducible rfl)
              rotate_left 1
              · exact fun _ _ _ h => h
              try simp only [Act.put, List.setIfInBounds_toArray, List.set_cons_zero, List.set_cons_succ]
              refine wpAnyH_ready (rs := [29]) (by kernel_rfl) (by simp) ?_
              refine AllReadyH.cons (o := ?_) ?_ (fun K hK => ?_) AllReadyH.nil
              rotate_left 1
              · (simp only [List.getElem?_toArray, List.getElem?_cons_succ, List.getElem?_cons_zero]; rfl)
              go_simp
              (go_at_call 13; refine (CodeX_ok b _ _ z1 z2 z3 _ (HSW.out _ (hb4.trans (hb8.mono hz4))) (HE.out _ hb8) HG2.out).mono ?_; rintro e w9 ⟨rfl, rfl⟩)
              refine hK.out _ _ ?_ (fun hHeld => ?_)
              · ((try dsimp only); go_keep)
              clear hK K
              try simp only [Act.put, List.setIfInBounds_toArray, List.set_cons_zero, List.set_cons_succ]
              refine wpAnyH_take (i := 35) (oi := ?_) (v := ?_) ?_ (by kernel_rfl) (by kernel_rfl) (by kernel_rfl) ?_ (Or.inl ⟨?_, ?_⟩) (by assumption) ?_
              rotate_left 2
              · (simp only [List.getElem?_toArray, List.getElem?_cons_succ, List.getElem?_cons_zero]; rfl)
              rotate_left 1
              · rfl
              · (intro w hSw; (try dsimp only at hSw); go_simp; try with_reducible rfl)
              rotate_left 1
              · exact fun _ _ _ h => h
              try simp only [Act.put, List.setIfInBounds_toArray, List.set_cons_zero, List.set_cons_succ]
              refine wpAnyH_take (i := 36) (oi := ?_) (v := ?_) ?_ (by kernel_rfl) (by kernel_rfl) (by kernel_rfl) ?_ (Or.inl ⟨?_, ?_⟩) (by assumption) ?_
              rotate_left 2
              · (simp only [List.getElem?_toArray, List.getElem?_cons_succ, List.getElem?_cons_zero]; rfl)
              rotate_left 1
              · rfl
              · (intro w hSw; (try dsimp only at hSw); go_simp; try with_reducible rfl)
              rotate_left 1
              · exact fun _ _ _ h => h
              try simp only [Act.put, List.setIfInBounds_toArray, List.set_cons_zero, List.set_cons_succ]
              refine wpAnyH_done (by kernel_rfl) ?_ _
              go_wp2
              go_roundw
              case rel => exact ⟨k + 1, by omega, by go_num, hb8⟩
              case measure => simp [intOf]; omega
            · have hb9 := hb4.trans (hbr.mono hz4)
              have ga0 := (hb9.cell (p := ⟨w.heap.size, 0, none⟩) hlt).trans y0
              have ga1 := (hb9.cell (p := ⟨w.heap.size, 1, none⟩) hlt).trans y1
              have ga2 := (hb9.cell (p := ⟨w.heap.size, 2, none⟩) hlt).trans y2
              have ga3 := (hb9.cell (p := ⟨w.heap.size, 3, none⟩) hlt).trans y3
              have ga4 := (hb9.cell (p := ⟨w.heap.size, 4, none⟩) hlt).trans y4
              have ga5 := (hb9.cell (p := ⟨w.heap.size, 5, none⟩) hlt).trans y5
              have ga6 := (hb9.cell (p := ⟨w.heap.size, 6, none⟩) hlt).trans y6
              have r0 := (hbr.cell (p := ⟨g4, o4, none⟩) hlt4).trans N0.out
              have r2 := (hbr.cell (p := ⟨g4, o4 + 2, none⟩) hlt4).trans N2.out
              have hbd := below_dr hb9
              have hbq := below_dr hbr
              have e5 : (x3 == x3) = true := by simp
              have e6 : (x1 == x1) = true := by simp
              go_wp2
              refine wp_region_held_drew (S := fun w' => w'.cell? ⟨w.heap.size, 0, none⟩ = some (.int .i64 wd) ∧ w'.cell? ⟨w.heap.size, 1, none⟩ = some (.int .i64 hi) ∧ w'.cell? ⟨w.heap.size, 2, none⟩ = some (.slice A ls.length cp) ∧ w'.cell? ⟨w.heap.size, 3, none⟩ = some (.int .i64 r) ∧ w'.cell? ⟨w.heap.size, 4, none⟩ = some (.int .i64 c) ∧ w'.cell? ⟨w.heap.size, 5, none⟩ = some (.bool p) ∧ w'.cell? ⟨w.heap.size, 6, none⟩ = some (.bool au) ∧ w'.cell? ⟨g4, o4, none⟩ = some (.int .i64 x1) ∧ w'.cell? ⟨g4, o4 + 2, none⟩ = some (.int .i64 x3)) (by kernel_rfl) (by go_keep) (fun hHeld => ?_)
              refine wpAnyH_take (i := 0) (oi := ?_) (v := ?_) ?_ (by kernel_rfl) (by kernel_rfl) (by kernel_rfl) ?_ (Or.inl ⟨?_, ?_⟩) (by assumption) ?_
              rotate_left 2
              · (simp only [List.getElem?_toArray, List.getElem?_cons_succ, List.getElem?_cons_zero]; rfl)
              rotate_left 1
              · rfl
              · (intro w hSw; (try dsimp only at hSw); go_simp; try with_reducible rfl)
              rotate_left 1
              · exact fun _ _ _ h => h
              try simp only [Act.put, List.setIfInBounds_toArray, List.set_cons_zero, List.set_cons_succ]
              refine wpAnyH_take (i := 1) (oi := ?_) (v := ?_) ?_ (by kernel_rfl) (by kernel_rfl) (by kernel_rfl) ?_ (Or.inl ⟨?_, ?_⟩) (by assumption) ?_
              rotate_left 2
              · (simp only [List.getElem?_toArray, List.getElem?_cons_succ, List.getElem?_cons_zero]; rfl)
              rotate_left 1
              · rfl
              · (intro w hSw; (try dsimp only at hSw); go_simp; try with_reducible rfl)
              rotate_left 1
              · exact fun _ _ _ h => h
              try simp only [Act.put, List.setIfInBounds_toArray, List.set_cons_zero, List.set_cons_succ]
              refine wpAnyH_take (i := 2) (oi := ?_) (v := ?_) ?_ (by kernel_rfl) (by kernel_rfl) (by kernel_rfl) ?_ (Or.inl ⟨?_, ?_⟩) (by assumption) ?_
              rotate_left 2
              · (simp only [List.getElem?_toArray, List.getElem?_cons_succ, List.getElem?_cons_zero]; rfl)
              rotate_left 1
              · rfl
              · (intro w hSw; (try dsimp only at hSw); go_simp; try with_reducible rfl)
              rotate_left 1
              · exact fun _ _ _ h => h
              try simp only [Act.put, List.setIfInBounds_toArray, List.set_cons_zero, List.set_cons_succ]
              refine wpAnyH_take (i := 3) (oi := ?_) (v := ?_) ?_ (by kernel_rfl) (by kernel_rfl) (by kernel_rfl) ?_ (Or.inl ⟨?_, ?_⟩) (by assumption) ?_
              rotate_left 2
              · (simp only [List.getElem?_toArray, List.getElem?_cons_succ, List.getElem?_cons_zero]; rfl)
              rotate_left 1
              · rfl
              · (intro w hSw; (try dsimp only at hSw); go_simp; try with_reducible rfl)
              rotate_left 1
              · exact fun _ _ _ h => h
              try simp only [Act.put, List.setIfInBounds_toArray, List.set_cons_zero, List.set_cons_succ]
              refine wpAnyH_take (i := 4) (oi := ?_) (v := ?_) ?_ (by kernel_rfl) (by kernel_rfl) (by kernel_rfl) ?_ (Or.inl ⟨?_, ?_⟩) (by assumption) ?_
              rotate_left 2
              · (simp only [List.getElem?_toArray, List.getElem?_cons_succ, List.getElem?_cons_zero]; rfl)
              rotate_left 1
              · rfl
              · (intro w hSw; (try dsimp only at hSw); go_simp; try with_reducible rfl)
              rotate_left 1
              · exact fun _ _ _ h => h
              try simp only [Act.put, List.setIfInBounds_toArray, List.set_cons_zero, List.set_cons_succ]
              refine wpAnyH_take (i := 7) (oi := ?_) (v := ?_) ?_ (by kernel_rfl) (by kernel_rfl) (by kernel_rfl) ?_ (Or.inl ⟨?_, ?_⟩) (by assumption) ?_
              rotate_left 2
              · (simp only [List.getElem?_toArray, List.getElem?_cons_succ, List.getElem?_cons_zero]; rfl)
              rotate_left 1
              · rfl
              · (intro w hSw; (try dsimp only at hSw); go_simp; try with_reducible rfl)
              rotate_left 1
              · exact fun _ _ _ h => h
              try simp only [Act.put, List.setIfInBounds_toArray, List.set_cons_zero, List.set_cons_succ]
              refine wpAnyH_take (i := 8) (oi := ?_) (v := ?_) ?_ (by kernel_rfl) (by kernel_rfl) (by kernel_rfl) ?_ (Or.inl ⟨?_, ?_⟩) (by assumption) ?_
              rotate_left 2
              · (simp only [List.getElem?_toArray, List.getElem?_cons_succ, List.getElem?_cons_zero]; rfl)
              rotate_left 1
              · rfl
              · (intro w hSw; (try dsimp only at hSw); go_simp; try with_reducible rfl)
              rotate_left 1
              · exact fun _ _ _ h => h
              try simp only [Act.put, List.setIfInBounds_toArray, List.set_cons_zero, List.set_cons_succ]
              refine wpAnyH_take (i := 9) (oi := ?_) (v := ?_) ?_ (by kernel_rfl) (by kernel_rfl) (by kernel_rfl) ?_ (Or.inl ⟨?_, ?_⟩) (by assumption) ?_
              rotate_left 2
              · (simp only [List.getElem?_toArray, List.getElem?_cons_succ, List.getElem?_cons_zero]; rfl)
              rotate_left 1
              · rfl
              · (intro w hSw; (try dsimp only at hSw); go_simp; try with_reducible rfl)
              rotate_left 1
              · exact fun _ _ _ h => h
              try simp only [Act.put, List.setIfInBounds_toArray, List.set_cons_zero, List.set_cons_succ]
              refine wpAnyH_take (i := 10) (oi := ?_) (v := ?_) ?_ (by kernel_rfl) (by kernel_rfl) (by kernel_rfl) ?_ (Or.inl ⟨?_, ?_⟩) (by assumption) ?_
              rotate_left 2
              · (simp only [List.getElem?_toArray, List.getElem?_cons_succ, List.getElem?_cons_zero]; rfl)
              rotate_left 1
              · rfl
              · (intro w hSw; (try dsimp only at hSw); go_simp; try with_reducible rfl)
              rotate_left 1
              · exact fun _ _ _ h => h
              try simp only [Act.put, List.setIfInBounds_toArray, List.set_cons_zero, List.set_cons_succ]
              refine wpAnyH_ready (rs := [5]) (by kernel_rfl) (by simp) ?_
              refine AllReadyH.cons (o := ?_) ?_ (fun K hK => ?_) AllReadyH.nil
              rotate_left 1
              · (simp only [List.getElem?_toArray, List.getElem?_cons_succ, List.getElem?_cons_zero]; rfl)
              go_simp
              (go_at_call 34; refine (HF1.out _ hbd).mono ?_; rintro e w7 ⟨t7, u7_, rfl, he7, hc7⟩; have hb7 := hbd.trans (hc7.mono hbd.size); have hq7 := hbq.trans (hc7.mono hbq.size); have h0 := (hb7.cell (p := ⟨w.heap.size, 0, none⟩) hlt).trans y0; have h1 := (hb7.cell (p := ⟨w.heap.size, 1, none⟩) hlt).trans y1; have h2 := (hb7.cell (p := ⟨w.heap.size, 2, none⟩) hlt).trans y2; have h3 := (hb7.cell (p := ⟨w.heap.size, 3, none⟩) hlt).trans y3; have h4 := (hb7.cell (p := ⟨w.heap.size, 4, none⟩) hlt).trans y4; have h5 := (hb7.cell (p := ⟨w.heap.size, 5, none⟩) hlt).trans y5; have h6 := (hb7.cell (p := ⟨w.heap.size, 6, none⟩) hlt).trans y6; have r1_7 := (hq7.cell (p := ⟨g4, o4, none⟩) hlt4).trans N0.out; have r2_7 := (hq7.cell (p := ⟨g4, o4 + 2, none⟩) hlt4).trans N2.out)
              refine hK.out _ _ ?_ (fun hHeld => ?_)
              · ((try dsimp only); go_keep)
              clear hK K
              try simp only [Act.put, List.setIfInBounds_toArray, List.set_cons_zero, List.set_cons_succ]
              refine wpAnyH_ready (rs := [6]) (by kernel_rfl) (by simp) ?_
              refine AllReadyH.cons (o := ?_) ?_ (fun K hK => ?_) AllReadyH.nil
              rotate_left 1
              · (simp only [List.getElem?_toArray, List.getElem?_cons_succ, List.getElem?_cons_zero]; rfl)
              go_simp
              (go_at_call 13; refine (CodeX_ok b _ _ x1 x2 x3 _ (HSW.out _ hb7) he7 HG0.out).mono ?_; rintro e w8 ⟨rfl, rfl⟩)
              refine hK.out _ _ ?_ (fun hHeld => ?_)
              · ((try dsimp only); go_keep)
              clear hK K
              try simp only [Act.put, List.setIfInBounds_toArray, List.set_cons_zero, List.set_cons_succ]
              refine wpAnyH_take (i := 11) (oi := ?_) (v := ?_) ?_ (by kernel_rfl) (by kernel_rfl) (by kernel_rfl) ?_ (Or.inl ⟨?_, ?_⟩) (by assumption) ?_
              rotate_left 2
              · (simp only [List.getElem?_toArray, List.getElem?_cons_succ, List.getElem?_cons_zero]; rfl)
              rotate_left 1
              · rfl
              · (intro w hSw; (try dsimp only at hSw); go_simp; try with_reducible rfl)
              rotate_left 1
              · exact fun _ _ _ h => h
              try simp only [Act.put, List.setIfInBounds_toArray, List.set_cons_zero, List.set_cons_succ]
              refine wpAnyH_take (i := 12) (oi := ?_) (v := ?_) ?_ (by kernel_rfl) (by kernel_rfl) (by kernel_rfl) ?_ (Or.inl ⟨?_, ?_⟩) (by assumption) ?_
              rotate_left 2
              · (simp only [List.getElem?_toArray, List.getElem?_cons_succ, List.getElem?_cons_zero]; rfl)
              rotate_left 1
              · rfl
              · (intro w hSw; (try dsimp only at hSw); go_simp; try with_reducible rfl)
              rotate_left 1
              · exact fun _ _ _ h => h
              try simp only [Act.put, List.setIfInBounds_toArray, List.set_cons_zero, List.set_cons_succ]
              refine wpAnyH_take (i := 13) (oi := ?_) (v := ?_) ?_ (by kernel_rfl) (by kernel_rfl) (by kernel_rfl) ?_ (Or.inl ⟨?_, ?_⟩) (by assumption) ?_
              rotate_left 2
              · (simp only [List.getElem?_toArray, List.getElem?_cons_succ, List.getElem?_cons_zero]; rfl)
              rotate_left 1
              · rfl
              · (intro w hSw; (try dsimp only at hSw); go_simp; try with_reducible rfl)
              rotate_left 1
              · exact fun _ _ _ h => h
              try simp only [Act.put, List.setIfInBounds_toArray, List.set_cons_zero, List.set_cons_succ]
              refine wpAnyH_take (i := 16) (oi := ?_) (v := ?_) ?_ (by kernel_rfl) (by kernel_rfl) (by kernel_rfl) ?_ (Or.inl ⟨?_, ?_⟩) (by assumption) ?_
              rotate_left 2
              · (simp only [List.getElem?_toArray, List.getElem?_cons_succ, List.getElem?_cons_zero]; rfl)
              rotate_left 1
              · rfl
              · (intro w hSw; (try dsimp only at hSw); go_simp; try with_reducible rfl)
              rotate_left 1
              · exact fun _ _ _ h => h
              try simp only [Act.put, List.setIfInBounds_toArray, List.set_cons_zero, List.set_cons_succ]
              refine wpAnyH_take (i := 17) (oi := ?_) (v := ?_) ?_ (by kernel_rfl) (by kernel_rfl) (by kernel_rfl) ?_ (Or.inl ⟨?_, ?_⟩) (by assumption) ?_
              rotate_left 2
              · (simp only [List.getElem?_toArray, List.getElem?_cons_succ, List.getElem?_cons_zero]; rfl)
              rotate_left 1
              · rfl
              · (intro w hSw; (try dsimp only at hSw); go_simp; try with_reducible rfl)
              rotate_left 1
              · exact fun _ _ _ h => h
              try simp only [Act.put, List.setIfInBounds_toArray, List.set_cons_zero, List.set_cons_succ]
              refine wpAnyH_take (i := 18) (oi := ?_) (v := ?_) ?_ (by kernel_rfl) (by kernel_rfl) (by kernel_rfl) ?_ (Or.inl ⟨?_, ?_⟩) (by assumption) ?_
              rotate_left 2
              · (simp only [List.getElem?_toArray, List.getElem?_cons_succ, List.getElem?_cons_zero]; rfl)
              rotate_left 1
              · rfl
              · (intro w hSw; (try dsimp only at hSw); go_simp; try with_reducible rfl)
              rotate_left 1
              · exact fun _ _ _ h => h
              try simp only [Act.put, List.setIfInBounds_toArray, List.set_cons_zero, List.set_cons_succ]
              refine wpAnyH_take (i := 19) (oi := ?_) (v := ?_) ?_ (by kernel_rfl) (by kernel_rfl) (by kernel_rfl) ?_ (Or.inl ⟨?_, ?_⟩) (by assumption) ?_
              rotate_left 2
              · (simp only [List.getElem?_toArray, List.getElem?_cons_succ, List.getElem?_cons_zero]; rfl)
              rotate_left 1
              · rfl
              · (intro w hSw; (try dsimp only at hSw); go_simp; try with_reducible rfl)
              rotate_left 1
              · exact fun _ _ _ h => h
              try simp only [Act.put, List.setIfInBounds_toArray, List.set_cons_zero, List.set_cons_succ]
              refine wpAnyH_ready (rs := [14]) (by kernel_rfl) (by simp) ?_
              refine AllReadyH.cons (o := ?_) ?_ (fun K hK => ?_) AllReadyH.nil
              rotate_left 1
              · (simp only [List.getElem?_toArray, List.getElem?_cons_succ, List.getElem?_cons_zero]; rfl)
              go_simp
              (go_at_call 34; refine (HF1.out _ hb7).mono ?_; rintro e w8 ⟨t8, u8_, rfl, he8, hc8⟩; have hb8 := hb7.trans (hc8.mono hb7.size); have hq8 := hq7.trans (hc8.mono hq7.size); have i0 := (hb8.cell (p := ⟨w.heap.size, 0, none⟩) hlt).trans y0; have i1 := (hb8.cell (p := ⟨w.heap.size, 1, none⟩) hlt).trans y1; have i2 := (hb8.cell (p := ⟨w.heap.size, 2, none⟩) hlt).trans y2; have i3 := (hb8.cell (p := ⟨w.heap.size, 3, none⟩) hlt).trans y3; have i4 := (hb8.cell (p := ⟨w.heap.size, 4, none⟩) hlt).trans y4; have i5 := (hb8.cell (p := ⟨w.heap.size, 5, none⟩) hlt).trans y5; have i6 := (hb8.cell (p := ⟨w.heap.size, 6, none⟩) hlt).trans y6; have r1_8 := (hq8.cell (p := ⟨g4, o4, none⟩) hlt4).trans N0.out; have r2_8 := (hq8.cell (p := ⟨g4, o4 + 2, none⟩) hlt4).trans N2.out)
              refine hK.out _ _ ?_ (fun hHeld => ?_)
              · ((try dsimp only); go_keep)
              clear hK K
              try simp only [Act.put, List.setIfInBounds_toArray, List.set_cons_zero, List.set_cons_succ]
              refine wpAnyH_ready (rs := [15]) (by kernel_rfl) (by simp) ?_
              refine AllReadyH.cons (o := ?_) ?_ (fun K hK => ?_) AllReadyH.nil
              rotate_left 1
              · (simp only [List.getElem?_toArray, List.getElem?_cons_succ, List.getElem?_cons_zero]; rfl)
              go_simp
              (go_at_call 14; refine (AtD_ok b _ _ x1 x2 x3 _ (HTW.out _ hb8) he8).mono ?_; rintro e w9 ⟨rfl, hc9⟩; have hb9' := hb8.trans (hc9.mono hb8.size); have hq9 := hq8.trans (hc9.mono hq8.size); have j0 := (hb9'.cell (p := ⟨w.heap.size, 0, none⟩) hlt).trans y0; have j1 := (hb9'.cell (p := ⟨w.heap.size, 1, none⟩) hlt).trans y1; have j2 := (hb9'.cell (p := ⟨w.heap.size, 2, none⟩) hlt).trans y2; have j3 := (hb9'.cell (p := ⟨w.heap.size, 3, none⟩) hlt).trans y3; have j4 := (hb9'.cell (p := ⟨w.heap.size, 4, none⟩) hlt).trans y4; have j5 := (hb9'.cell (p := ⟨w.heap.size, 5, none⟩) hlt).trans y5; have j6 := (hb9'.cell (p := ⟨w.heap.size, 6, none⟩) hlt).trans y6; have r1_9 := (hq9.cell (p := ⟨g4, o4, none⟩) hlt4).trans N0.out; have r2_9 := (hq9.cell (p := ⟨g4, o4 + 2, none⟩) hlt4).trans N2.out)
              refine hK.out _ _ ?_ (fun hHeld => ?_)
              · ((try dsimp only); go_keep)
              clear hK K
              try simp only [Act.put, List.setIfInBounds_toArray, List.set_cons_zero, List.set_cons_succ]
              refine wpAnyH_take (i := 20) (oi := ?_) (v := ?_) ?_ (by kernel_rfl) (by kernel_rfl) (by kernel_rfl) ?_ (Or.inl ⟨?_, ?_⟩) (by assumption) ?_
              rotate_left 2
              · (simp only [List.getElem?_toArray, List.getElem?_cons_succ, List.getElem?_cons_zero]; rfl)
              rotate_left 1
              · rfl
              · (intro w hSw; (try dsimp only at hSw); go_simp; try with_reducible rfl)
              rotate_left 1
              · exact fun _ _ _ h => h
              try simp only [Act.put, List.setIfInBounds_toArray, List.set_cons_zero, List.set_cons_succ]
              refine wpAnyH_take (i := 21) (oi := ?_) (v := ?_) ?_ (by kernel_rfl) (by kernel_rfl) (by kernel_rfl) ?_ (Or.inl ⟨?_, ?_⟩) (by assumption) ?_
              rotate_left 2
              · (simp only [List.getElem?_toArray, List.getElem?_cons_succ, List.getElem?_cons_zero]; rfl)
              rotate_left 1
              · rfl
              · (intro w hSw; (try dsimp only at hSw); go_simp; try with_reducible rfl)
              rotate_left 1
              · exact fun _ _ _ h => h
              try simp only [Act.put, List.setIfInBounds_toArray, List.set_cons_zero, List.set_cons_succ]
              refine wpAnyH_take (i := 22) (oi := ?_) (v := ?_) ?_ (by kernel_rfl) (by kernel_rfl) (by kernel_rfl) ?_ (Or.inl ⟨?_, ?_⟩) (by assumption) ?_
              rotate_left 2
              · (simp only [List.getElem?_toArray, List.getElem?_cons_succ, List.getElem?_cons_zero]; rfl)
              rotate_left 1
              · rfl
              · (intro w hSw; (try dsimp only at hSw); go_simp; try with_reducible rfl)
              rotate_left 1
              · exact fun _ _ _ h => h
              try simp only [Act.put, List.setIfInBounds_toArray, List.set_cons_zero, List.set_cons_succ]
              refine wpAnyH_take (i := 23) (oi := ?_) (v := ?_) ?_ (by kernel_rfl) (by kernel_rfl) (by kernel_rfl) ?_ (Or.inl ⟨?_, ?_⟩) (by assumption) ?_
              rotate_left 2
              · (simp only [List.getElem?_toArray, List.getElem?_cons_succ, List.getElem?_cons_zero]; rfl)
              rotate_left 1
              · rfl
              · (intro w hSw; (try dsimp only at hSw); go_simp; try with_reducible rfl)
              rotate_left 1
              · exact fun _ _ _ h => h
              try simp only [Act.put, List.setIfInBounds_toArray, List.set_cons_zero, List.set_cons_succ]
              refine wpAnyH_done (by kernel_rfl) ?_ _
              go_wp2
              go_ret
              exact ⟨rfl, hb1'.trans (hb9'.mono hz1)⟩
  · have hl2 : decide ((200 : Int) < (ls.length : Int)) = true := by simp; omega
    go_enter Tryd.func7, Tryd.ntmps7
    go_wp2_with fail
    refine (HW.out _ hb0).mono ?_
    rintro e w1 ⟨rfl, hb1⟩
    have hblk1 := hblk0.same hb1
    have hb1' := hb0.trans (hb1.mono hz0)
    have y2 := hblk1.cell 2
    simp only [List.getElem?_toArray, List.getElem?_cons_succ, List.getElem?_cons_zero] at y2
    go_wp2_with fail
    refine (HW.out _ hb1').mono ?_
    rintro e w2 ⟨rfl, hb2⟩
    go_wp2
    go_ret
    exact ⟨rfl, hb1'.trans (hb2.mono hb1'.size)⟩
end Go.Proofs.YtejhaepgbfngcaaDoor
