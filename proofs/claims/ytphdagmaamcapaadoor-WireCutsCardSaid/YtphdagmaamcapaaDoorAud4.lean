/-
  What the functions that tell whether a view is right return: the program's and the document's. Each function once.
-/
import Derived.Test.YtphdagmaamcapaaDoorAud3
namespace Go.Proofs.YtphdagmaamcapaaDoor
open Go.RowKit
set_option linter.unusedVariables false
set_option linter.unusedSimpArgs false

set_option maxHeartbeats 2000000 in
theorem rRight43_ok (So : Nat → Prop) (x : Value) (wd hi r c : Int) (p au : Bool) (ls : List LineV) (w : World) (hx : Slc RLine So (fun b => b < w.heap.size) w x ls) (hlen : ∀ l ∈ ls, l.1.length ≤ 1000000) (hll : ls.length ≤ 1000000) :
    Calls Tryd.prog 9 #[.agg #[.int .i64 wd, .int .i64 hi, x, .int .i64 r, .int .i64 c, .bool p, .bool au]] w fun e w' => e = .returned (.bool (rightV ⟨wd, hi, ls, r, c, p, au⟩)) ∧ Below w.heap.size w w' := by
  obtain ⟨A, cp, rfl, _, _, _⟩ := hx.open_
  have hrv : rightV ⟨wd, hi, ls, r, c, p, au⟩ = (decide (hi = ls.length ∧ 1 ≤ hi ∧ hi ≤ 1024 ∧ 1 ≤ wd ∧ wd ≤ 1024) && curRight r c p wd hi && ls.all (lineR wd)) := rfl
  generalize rightV ⟨wd, hi, ls, r, c, p, au⟩ = res at *
  have hb0 := (Below.refl w.heap.size w).alloc (Nat.le_refl _) (.cells #[.int .i64 wd, .int .i64 hi, .slice A ls.length cp, .int .i64 r, .int .i64 c, .bool p, .bool au] 26)
  have hblk0 := Blk.new w 26 #[.int .i64 wd, .int .i64 hi, .slice A ls.length cp, .int .i64 r, .int .i64 c, .bool p, .bool au]
  have hz0 := hb0.size
  have HCR := hide (fun w => rRight31_ok r c p wd hi w)
  have HLEN := hide hlen
  clear hlen
  by_cases k0 : hi = ls.length
  · have q0 : (hi != ls.length) = false := by simp [k0]
    by_cases k1 : 1 ≤ hi
    · have q1 : ¬ hi < 1 := by omega
      by_cases k2 : hi ≤ 1024
      · have q2 : ¬ 1024 < hi := by omega
        by_cases k3 : 1 ≤ wd
        · have q3 : ¬ wd < 1 := by omega
          by_cases k4 : wd ≤ 1024
          · have q4 : ¬ 1024 < wd := by omega
            rw [decide_eq_true ⟨k0, k1, k2, k3, k4⟩, Bool.true_and] at hrv
            clear k0
            rcases Bool.eq_false_or_eq_true (curRight r c p wd hi) with hcu | hcu
            · rw [hcu, Bool.true_and] at hrv
              have HRV := hide hrv
              have HCU := hide hcu
              clear hrv hcu
              go_enter Tryd.func9, Tryd.ntmps9
              go_wp2_with fail
              refine (HCR.out _).mono ?_
              rw [HCU.out]
              rintro e w1 ⟨rfl, hb1⟩
              have hblk1 := hblk0.same hb1
              have hb1' := hb0.trans (hb1.mono hz0)
              have hz1 := hb1'.size
              have hz01 := hb1.size
              have x0 := hblk1.cell 0
              have x2 := hblk1.cell 2
              simp only [List.getElem?_toArray, List.getElem?_cons_succ, List.getElem?_cons_zero] at x0 x2
              go_wp2
              go_loopw [3] (fun i wr => ∃ k : Nat, k ≤ ls.length ∧ i = .int .i64 k ∧ (∀ j (h : j < ls.length), j < k → lineR wd ls[j] = true) ∧ Below w1.heap.size w1 wr) (fun i _ => ls.length - (intOf i).toNat)
              case atStart => exact ⟨0, Nat.zero_le _, rfl, fun j _ h => absurd h (Nat.not_lt_zero j), Below.refl _ _⟩
              case round =>
                obtain ⟨k, hk, rfl, hpre, hbel⟩ := hrel
                have HP := hide hpre
                clear hpre
                have hsz := hbel.size
                have hbw := hb1'.trans (hbel.mono hz1)
                have hblkr := hblk1.same hbel
                have hlt0 := hblkr.lt
                have y0 := hblkr.cell 0
                have y2 := hblkr.cell 2
                simp only [List.getElem?_toArray, List.getElem?_cons_succ, List.getElem?_cons_zero] at y0 y2
                by_cases hlt : k < ls.length
                · obtain ⟨ab, off, v2, rfl, _, p0, p1, hv⟩ := line_at hx.slb hlt
                  obtain ⟨A2, c2, rfl, _, _, _⟩ := hv.open_
                  have hab := World.block_lt_of_cell? w _ p0
                  simp only at hab
                  have q8 := (hbw.cell (p := ⟨ab, off + k * 2, none⟩) hab).trans p0
                  have q9 := (hbw.cell (p := ⟨ab, off + k * 2 + 1, none⟩) hab).trans p1
                  have hvr := hv.mono (Keep.below (S := fun b => b < w.heap.size) hbw) (Keep.below (S := fun b => b < w.heap.size) hbw)
                  have hln := HLEN.out ls[k] (List.getElem_mem _)
                  have hlr : lineR wd ls[k] = (decide ((ls[k].1.length : Int) = wd) && soundB ls[k].1) := rfl
                  clear p0 p1
                  have hvd := hvr.mono (Keep.weaken (S := fun b => b < w.heap.size) (w := wr) fun b h => h) (Keep.weaken (S := fun b => b < w.heap.size) (w := wr) fun b h => h)
                  have hvd : Slc RCell (fun b => b < w.heap.size) (fun b => b < w.heap.size) wr.drew _ ls[k].1 := hvd.mono (fun p u h h' => ⟨h, h'⟩) (fun p u h h' => ⟨h, h'⟩)
                  by_cases hw1 : (ls[k].1.length : Int) = wd
                  · have e1 : ((ls[k].1.length : Int) != wd) = false := by simp [hw1]
                    rw [decide_eq_true hw1, Bool.true_and] at hlr
                    have HLR := hide hlr
                    clear hlr hw1
                    rcases Bool.eq_false_or_eq_true (soundB ls[k].1) with hs | hs
                    · have HS := hide hs
                      clear hs
                      go_wp2
                      refine wp_region_held_drew (S := fun w' => w'.cell? ⟨w.heap.size, 0, none⟩ = some (.int .i64 wd) ∧ w'.cell? ⟨w.heap.size, 2, none⟩ = some (.slice (some ⟨ab, off, none⟩) ls.length cp) ∧ w'.cell? ⟨ab, off + k * 2, none⟩ = some (.slice A2 ls[k].1.length c2)) (by kernel_rfl) (by go_keep) (fun hHeld => ?_)
                      refine wpAnyH_take (i := 0) (oi := ?_) (v := ?_) ?_ (by kernel_rfl) (by kernel_rfl) (by kernel_rfl) ?_ (Or.inl ⟨?_, ?_⟩) (by assumption) ?_
                      rotate_left 2
                      · (simp only [List.getElem?_toArray, List.getElem?_cons_succ, List.getElem?_cons_zero]; rfl)
                      rotate_left 1
                      · rfl
                      · (intro w hSw; (try dsimp only at hSw); go_simp; try with_reducible rfl)
                      rotate_left 1
                      · exact fun _ _ _ h => h
                      try simp only [Act.put, List.setIfInBounds_toArray, List.set_cons_zero, List.set_cons_succ]
                      refine wpAnyH_take (i := 1) (oi := ?_) (v := ?_) ?_ (by kernel_rfl) (by kernel_rfl) (by kernel_rfl) ?_ (Or.inl ⟨?_, ?_⟩) (by assumption) ?_
                      rotate_left 2
                      · (simp only [List.getElem?_toArray, List.getElem?_cons_succ, List.getElem?_cons_zero]; rfl)
                      rotate_left 1
                      · rfl
                      · (intro w hSw; (try dsimp only at hSw); go_simp; try with_reducible rfl)
                      rotate_left 1
                      · exact fun _ _ _ h => h
                      try simp only [Act.put, List.setIfInBounds_toArray, List.set_cons_zero, List.set_cons_succ]
                      refine wpAnyH_take (i := 2) (oi := ?_) (v := ?_) ?_ (by kernel_rfl) (by kernel_rfl) (by kernel_rfl) ?_ (Or.inl ⟨?_, ?_⟩) (by assumption) ?_
                      rotate_left 2
                      · (simp only [List.getElem?_toArray, List.getElem?_cons_succ, List.getElem?_cons_zero]; rfl)
                      rotate_left 1
                      · rfl
                      · (intro w hSw; (try dsimp only at hSw); go_simp; try with_reducible rfl)
                      rotate_left 1
                      · exact fun _ _ _ h => h
                      try simp only [Act.put, List.setIfInBounds_toArray, List.set_cons_zero, List.set_cons_succ]
                      refine wpAnyH_take (i := 3) (oi := ?_) (v := ?_) ?_ (by kernel_rfl) (by kernel_rfl) (by kernel_rfl) ?_ (Or.inl ⟨?_, ?_⟩) (by assumption) ?_
                      rotate_left 2
                      · (simp only [List.getElem?_toArray, List.getElem?_cons_succ, List.getElem?_cons_zero]; rfl)
                      rotate_left 1
                      · rfl
                      · (intro w hSw; (try dsimp only at hSw); go_simp; try with_reducible rfl)
                      rotate_left 1
                      · exact fun _ _ _ h => h
                      try simp only [Act.put, List.setIfInBounds_toArray, List.set_cons_zero, List.set_cons_succ]
                      refine wpAnyH_take (i := 4) (oi := ?_) (v := ?_) ?_ (by kernel_rfl) (by kernel_rfl) (by kernel_rfl) ?_ (Or.inl ⟨?_, ?_⟩) (by assumption) ?_
                      rotate_left 2
                      · (simp only [List.getElem?_toArray, List.getElem?_cons_succ, List.getElem?_cons_zero]; rfl)
                      rotate_left 1
                      · rfl
                      · (intro w hSw; (try dsimp only at hSw); go_simp; try with_reducible rfl)
                      rotate_left 1
                      · exact fun _ _ _ h => h
                      try simp only [Act.put, List.setIfInBounds_toArray, List.set_cons_zero, List.set_cons_succ]
                      refine wpAnyH_take (i := 5) (oi := ?_) (v := ?_) ?_ (by kernel_rfl) (by kernel_rfl) (by kernel_rfl) ?_ (Or.inl ⟨?_, ?_⟩) (by assumption) ?_
                      rotate_left 2
                      · (simp only [List.getElem?_toArray, List.getElem?_cons_succ, List.getElem?_cons_zero]; rfl)
                      rotate_left 1
                      · rfl
                      · (intro w hSw; (try dsimp only at hSw); go_simp; try with_reducible rfl)
                      rotate_left 1
                      · exact fun _ _ _ h => h
                      try simp only [Act.put, List.setIfInBounds_toArray, List.set_cons_zero, List.set_cons_succ]
                      refine wpAnyH_take (i := 6) (oi := ?_) (v := ?_) ?_ (by kernel_rfl) (by kernel_rfl) (by kernel_rfl) ?_ (Or.inl ⟨?_, ?_⟩) (by assumption) ?_
                      rotate_left 2
                      · (simp only [List.getElem?_toArray, List.getElem?_cons_succ, List.getElem?_cons_zero]; rfl)
                      rotate_left 1
                      · rfl
                      · (intro w hSw; (try dsimp only at hSw); go_simp; try with_reducible rfl)
                      rotate_left 1
                      · exact fun _ _ _ h => h
                      try simp only [Act.put, List.setIfInBounds_toArray, List.set_cons_zero, List.set_cons_succ]
                      refine wpAnyH_take (i := 7) (oi := ?_) (v := ?_) ?_ (by kernel_rfl) (by kernel_rfl) (by kernel_rfl) ?_ (Or.inl ⟨?_, ?_⟩) (by assumption) ?_
                      rotate_left 2
                      · (simp only [List.getElem?_toArray, List.getElem?_cons_succ, List.getElem?_cons_zero]; rfl)
                      rotate_left 1
                      · rfl
                      · (intro w hSw; (try dsimp only at hSw); go_simp; try with_reducible rfl)
                      rotate_left 1
                      · exact fun _ _ _ h => h
                      try simp only [Act.put, List.setIfInBounds_toArray, List.set_cons_zero, List.set_cons_succ]
                      refine wpAnyH_take (i := 8) (oi := ?_) (v := ?_) ?_ (by kernel_rfl) (by kernel_rfl) (by kernel_rfl) ?_ (Or.inl ⟨?_, ?_⟩) (by assumption) ?_
                      rotate_left 2
                      · (simp only [List.getElem?_toArray, List.getElem?_cons_succ, List.getElem?_cons_zero]; rfl)
                      rotate_left 1
                      · rfl
                      · (intro w hSw; (try dsimp only at hSw); go_simp; try with_reducible rfl)
                      rotate_left 1
                      · exact fun _ _ _ h => h
                      try simp only [Act.put, List.setIfInBounds_toArray, List.set_cons_zero, List.set_cons_succ]
                      refine wpAnyH_take (i := 9) (oi := ?_) (v := ?_) ?_ (by kernel_rfl) (by kernel_rfl) (by kernel_rfl) ?_ (Or.inl ⟨?_, ?_⟩) (by assumption) ?_
                      rotate_left 2
                      · (simp only [List.getElem?_toArray, List.getElem?_cons_succ, List.getElem?_cons_zero]; rfl)
                      rotate_left 1
                      · rfl
                      · (intro w hSw; (try dsimp only at hSw); go_simp; try with_reducible rfl)
                      rotate_left 1
                      · exact fun _ _ _ h => h
                      try simp only [Act.put, List.setIfInBounds_toArray, List.set_cons_zero, List.set_cons_succ]
                      refine wpAnyH_take (i := 10) (oi := ?_) (v := ?_) ?_ (by kernel_rfl) (by kernel_rfl) (by kernel_rfl) ?_ (Or.inl ⟨?_, ?_⟩) (by assumption) ?_
                      rotate_left 2
                      · (simp only [List.getElem?_toArray, List.getElem?_cons_succ, List.getElem?_cons_zero]; rfl)
                      rotate_left 1
                      · rfl
                      · (intro w hSw; (try dsimp only at hSw); go_simp; try with_reducible rfl)
                      rotate_left 1
                      · exact fun _ _ _ h => h
                      try simp only [Act.put, List.setIfInBounds_toArray, List.set_cons_zero, List.set_cons_succ]
                      refine wpAnyH_take (i := 11) (oi := ?_) (v := ?_) ?_ (by kernel_rfl) (by kernel_rfl) (by kernel_rfl) ?_ (Or.inl ⟨?_, ?_⟩) (by assumption) ?_
                      rotate_left 2
                      · (simp only [List.getElem?_toArray, List.getElem?_cons_succ, List.getElem?_cons_zero]; rfl)
                      rotate_left 1
                      · rfl
                      · (intro w hSw; (try dsimp only at hSw); go_simp; try with_reducible rfl)
                      rotate_left 1
                      · exact fun _ _ _ h => h
                      try simp only [Act.put, List.setIfInBounds_toArray, List.set_cons_zero, List.set_cons_succ]
                      refine wpAnyH_take (i := 12) (oi := ?_) (v := ?_) ?_ (by kernel_rfl) (by kernel_rfl) (by kernel_rfl) ?_ (Or.inl ⟨?_, ?_⟩) (by assumption) ?_
                      rotate_left 2
                      · (simp only [List.getElem?_toArray, List.getElem?_cons_succ, List.getElem?_cons_zero]; rfl)
                      rotate_left 1
                      · rfl
                      · (intro w hSw; (try dsimp only at hSw); go_simp; try with_reducible rfl)
                      rotate_left 1
                      · exact fun _ _ _ h => h
                      try simp only [Act.put, List.setIfInBounds_toArray, List.set_cons_zero, List.set_cons_succ]
                      refine wpAnyH_take (i := 13) (oi := ?_) (v := ?_) ?_ (by kernel_rfl) (by kernel_rfl) (by kernel_rfl) ?_ (Or.inl ⟨?_, ?_⟩) (by assumption) ?_
                      rotate_left 2
                      · (simp only [List.getElem?_toArray, List.getElem?_cons_succ, List.getElem?_cons_zero]; rfl)
                      rotate_left 1
                      · rfl
                      · (intro w hSw; (try dsimp only at hSw); go_simp; try with_reducible rfl)
                      rotate_left 1
                      · exact fun _ _ _ h => h
                      try simp only [Act.put, List.setIfInBounds_toArray, List.set_cons_zero, List.set_cons_succ]
                      refine wpAnyH_take (i := 14) (oi := ?_) (v := ?_) ?_ (by kernel_rfl) (by kernel_rfl) (by kernel_rfl) ?_ (Or.inl ⟨?_, ?_⟩) (by assumption) ?_
                      rotate_left 2
                      · (simp only [List.getElem?_toArray, List.getElem?_cons_succ, List.getElem?_cons_zero]; rfl)
                      rotate_left 1
                      · rfl
                      · (intro w hSw; (try dsimp only at hSw); go_simp; try with_reducible rfl)
                      rotate_left 1
                      · exact fun _ _ _ h => h
                      try simp only [Act.put, List.setIfInBounds_toArray, List.set_cons_zero, List.set_cons_succ]
                      refine wpAnyH_take (i := 15) (oi := ?_) (v := ?_) ?_ (by kernel_rfl) (by kernel_rfl) (by kernel_rfl) ?_ (Or.inl ⟨?_, ?_⟩) (by assumption) ?_
                      rotate_left 2
                      · (simp only [List.getElem?_toArray, List.getElem?_cons_succ, List.getElem?_cons_zero]; rfl)
                      rotate_left 1
                      · rfl
                      · (intro w hSw; (try dsimp only at hSw); go_simp; try with_reducible rfl)
                      rotate_left 1
                      · exact fun _ _ _ h => h
                      try simp only [Act.put, List.setIfInBounds_toArray, List.set_cons_zero, List.set_cons_succ]
                      refine wpAnyH_take (i := 16) (oi := ?_) (v := ?_) ?_ (by kernel_rfl) (by kernel_rfl) (by kernel_rfl) ?_ (Or.inl ⟨?_, ?_⟩) (by assumption) ?_
                      rotate_left 2
                      · (simp only [List.getElem?_toArray, List.getElem?_cons_succ, List.getElem?_cons_zero]; rfl)
                      rotate_left 1
                      · rfl
                      · (intro w hSw; (try dsimp only at hSw); go_simp; try with_reducible rfl)
                      rotate_left 1
                      · exact fun _ _ _ h => h
                      try simp only [Act.put, List.setIfInBounds_toArray, List.set_cons_zero, List.set_cons_succ]
                      refine wpAnyH_ready (rs := [17]) (by kernel_rfl) (by simp) ?_
                      refine AllReadyH.cons (o := ?_) ?_ (fun K hK => ?_) AllReadyH.nil
                      rotate_left 1
                      · (simp only [List.getElem?_toArray, List.getElem?_cons_succ, List.getElem?_cons_zero]; rfl)
                      go_simp
                      (go_at_call 20; refine (rSound_ok _ _ _ ls[k].1 _ hvd (by omega)).mono ?_; rw [HS.out]; rintro e w3 ⟨rfl, hb3⟩; have g0 := (hb3.cell (p := ⟨w.heap.size, 0, none⟩) hblkr.lt).trans y0; have g2 := (hb3.cell (p := ⟨w.heap.size, 2, none⟩) hblkr.lt).trans y2; have g8 := (hb3.cell (p := ⟨ab, off + k * 2, none⟩) (World.block_lt_of_cell? wr _ q8)).trans q8)
                      refine hK.out _ _ ?_ (fun hHeld => ?_)
                      · ((try dsimp only); go_keep)
                      clear hK K
                      try simp only [Act.put, List.setIfInBounds_toArray, List.set_cons_zero, List.set_cons_succ]
                      refine wpAnyH_take (i := 18) (oi := ?_) (v := ?_) ?_ (by kernel_rfl) (by kernel_rfl) (by kernel_rfl) ?_ (Or.inl ⟨?_, ?_⟩) (by assumption) ?_
                      rotate_left 2
                      · (simp only [List.getElem?_toArray, List.getElem?_cons_succ, List.getElem?_cons_zero]; rfl)
                      rotate_left 1
                      · rfl
                      · (intro w hSw; (try dsimp only at hSw); go_simp; try with_reducible rfl)
                      rotate_left 1
                      · exact fun _ _ _ h => h
                      try simp only [Act.put, List.setIfInBounds_toArray, List.set_cons_zero, List.set_cons_succ]
                      refine wpAnyH_take (i := 19) (oi := ?_) (v := ?_) ?_ (by kernel_rfl) (by kernel_rfl) (by kernel_rfl) ?_ (Or.inl ⟨?_, ?_⟩) (by assumption) ?_
                      rotate_left 2
                      · (simp only [List.getElem?_toArray, List.getElem?_cons_succ, List.getElem?_cons_zero]; rfl)
                      rotate_left 1
                      · rfl
                      · (intro w hSw; (try dsimp only at hSw); go_simp; try with_reducible rfl)
                      rotate_left 1
                      · exact fun _ _ _ h => h
                      try simp only [Act.put, List.setIfInBounds_toArray, List.set_cons_zero, List.set_cons_succ]
                      refine wpAnyH_done (by kernel_rfl) ?_ _
                      go_wp2
                      go_roundw
                      case rel =>
                        refine ⟨k + 1, by omega, by go_num, fun j hj hjk => ?_, (below_dr hbel).trans (hb3.mono (by simpa using hsz))⟩
                        by_cases e : j = k
                        · subst e; rw [HLR.out]; exact HS.out
                        · exact HP.out j hj (by omega)
                      case measure => simp [intOf]; omega
                    · have HS := hide hs
                      have hrf : ls.all (lineR wd) = false := by
                        rw [List.all_eq_false]
                        exact ⟨ls[k], List.getElem_mem _, by rw [HLR.out, hs]; simp⟩
                      have HRF := hide hrf
                      clear hs hrf
                      go_wp2
                      refine wp_region_held_drew (S := fun w' => w'.cell? ⟨w.heap.size, 0, none⟩ = some (.int .i64 wd) ∧ w'.cell? ⟨w.heap.size, 2, none⟩ = some (.slice (some ⟨ab, off, none⟩) ls.length cp) ∧ w'.cell? ⟨ab, off + k * 2, none⟩ = some (.slice A2 ls[k].1.length c2)) (by kernel_rfl) (by go_keep) (fun hHeld => ?_)
                      refine wpAnyH_take (i := 0) (oi := ?_) (v := ?_) ?_ (by kernel_rfl) (by kernel_rfl) (by kernel_rfl) ?_ (Or.inl ⟨?_, ?_⟩) (by assumption) ?_
                      rotate_left 2
                      · (simp only [List.getElem?_toArray, List.getElem?_cons_succ, List.getElem?_cons_zero]; rfl)
                      rotate_left 1
                      · rfl
                      · (intro w hSw; (try dsimp only at hSw); go_simp; try with_reducible rfl)
                      rotate_left 1
                      · exact fun _ _ _ h => h
                      try simp only [Act.put, List.setIfInBounds_toArray, List.set_cons_zero, List.set_cons_succ]
                      refine wpAnyH_take (i := 1) (oi := ?_) (v := ?_) ?_ (by kernel_rfl) (by kernel_rfl) (by kernel_rfl) ?_ (Or.inl ⟨?_, ?_⟩) (by assumption) ?_
                      rotate_left 2
                      · (simp only [List.getElem?_toArray, List.getElem?_cons_succ, List.getElem?_cons_zero]; rfl)
                      rotate_left 1
                      · rfl
                      · (intro w hSw; (try dsimp only at hSw); go_simp; try with_reducible rfl)
                      rotate_left 1
                      · exact fun _ _ _ h => h
                      try simp only [Act.put, List.setIfInBounds_toArray, List.set_cons_zero, List.set_cons_succ]
                      refine wpAnyH_take (i := 2) (oi := ?_) (v := ?_) ?_ (by kernel_rfl) (by kernel_rfl) (by kernel_rfl) ?_ (Or.inl ⟨?_, ?_⟩) (by assumption) ?_
                      rotate_left 2
                      · (simp only [List.getElem?_toArray, List.getElem?_cons_succ, List.getElem?_cons_zero]; rfl)
                      rotate_left 1
                      · rfl
                      · (intro w hSw; (try dsimp only at hSw); go_simp; try with_reducible rfl)
                      rotate_left 1
                      · exact fun _ _ _ h => h
                      try simp only [Act.put, List.setIfInBounds_toArray, List.set_cons_zero, List.set_cons_succ]
                      refine wpAnyH_take (i := 3) (oi := ?_) (v := ?_) ?_ (by kernel_rfl) (by kernel_rfl) (by kernel_rfl) ?_ (Or.inl ⟨?_, ?_⟩) (by assumption) ?_
                      rotate_left 2
                      · (simp only [List.getElem?_toArray, List.getElem?_cons_succ, List.getElem?_cons_zero]; rfl)
                      rotate_left 1
                      · rfl
                      · (intro w hSw; (try dsimp only at hSw); go_simp; try with_reducible rfl)
                      rotate_left 1
                      · exact fun _ _ _ h => h
                      try simp only [Act.put, List.setIfInBounds_toArray, List.set_cons_zero, List.set_cons_succ]
                      refine wpAnyH_take (i := 4) (oi := ?_) (v := ?_) ?_ (by kernel_rfl) (by kernel_rfl) (by kernel_rfl) ?_ (Or.inl ⟨?_, ?_⟩) (by assumption) ?_
                      rotate_left 2
                      · (simp only [List.getElem?_toArray, List.getElem?_cons_succ, List.getElem?_cons_zero]; rfl)
                      rotate_left 1
                      · rfl
                      · (intro w hSw; (try dsimp only at hSw); go_simp; try with_reducible rfl)
                      rotate_left 1
                      · exact fun _ _ _ h => h
                      try simp only [Act.put, List.setIfInBounds_toArray, List.set_cons_zero, List.set_cons_succ]
                      refine wpAnyH_take (i := 5) (oi := ?_) (v := ?_) ?_ (by kernel_rfl) (by kernel_rfl) (by kernel_rfl) ?_ (Or.inl ⟨?_, ?_⟩) (by assumption) ?_
                      rotate_left 2
                      · (simp only [List.getElem?_toArray, List.getElem?_cons_succ, List.getElem?_cons_zero]; rfl)
                      rotate_left 1
                      · rfl
                      · (intro w hSw; (try dsimp only at hSw); go_simp; try with_reducible rfl)
                      rotate_left 1
                      · exact fun _ _ _ h => h
                      try simp only [Act.put, List.setIfInBounds_toArray, List.set_cons_zero, List.set_cons_succ]
                      refine wpAnyH_take (i := 6) (oi := ?_) (v := ?_) ?_ (by kernel_rfl) (by kernel_rfl) (by kernel_rfl) ?_ (Or.inl ⟨?_, ?_⟩) (by assumption) ?_
                      rotate_left 2
                      · (simp only [List.getElem?_toArray, List.getElem?_cons_succ, List.getElem?_cons_zero]; rfl)
                      rotate_left 1
                      · rfl
                      · (intro w hSw; (try dsimp only at hSw); go_simp; try with_reducible rfl)
                      rotate_left 1
                      · exact fun _ _ _ h => h
                      try simp only [Act.put, List.setIfInBounds_toArray, List.set_cons_zero, List.set_cons_succ]
                      refine wpAnyH_take (i := 7) (oi := ?_) (v := ?_) ?_ (by kernel_rfl) (by kernel_rfl) (by kernel_rfl) ?_ (Or.inl ⟨?_, ?_⟩) (by assumption) ?_
                      rotate_left 2
                      · (simp only [List.getElem?_toArray, List.getElem?_cons_succ, List.getElem?_cons_zero]; rfl)
                      rotate_left 1
                      · rfl
                      · (intro w hSw; (try dsimp only at hSw); go_simp; try with_reducible rfl)
                      rotate_left 1
                      · exact fun _ _ _ h => h
                      try simp only [Act.put, List.setIfInBounds_toArray, List.set_cons_zero, List.set_cons_succ]
                      refine wpAnyH_take (i := 8) (oi := ?_) (v := ?_) ?_ (by kernel_rfl) (by kernel_rfl) (by kernel_rfl) ?_ (Or.inl ⟨?_, ?_⟩) (by assumption) ?_
                      rotate_left 2
                      · (simp only [List.getElem?_toArray, List.getElem?_cons_succ, List.getElem?_cons_zero]; rfl)
                      rotate_left 1
                      · rfl
                      · (intro w hSw; (try dsimp only at hSw); go_simp; try with_reducible rfl)
                      rotate_left 1
                      · exact fun _ _ _ h => h
                      try simp only [Act.put, List.setIfInBounds_toArray, List.set_cons_zero, List.set_cons_succ]
                      refine wpAnyH_take (i := 9) (oi := ?_) (v := ?_) ?_ (by kernel_rfl) (by kernel_rfl) (by kernel_rfl) ?_ (Or.inl ⟨?_, ?_⟩) (by assumption) ?_
                      rotate_left 2
                      · (simp only [List.getElem?_toArray, List.getElem?_cons_succ, List.getElem?_cons_zero]; rfl)
                      rotate_left 1
                      · rfl
                      · (intro w hSw; (try dsimp only at hSw); go_simp; try with_reducible rfl)
                      rotate_left 1
                      · exact fun _ _ _ h => h
                      try simp only [Act.put, List.setIfInBounds_toArray, List.set_cons_zero, List.set_cons_succ]
                      refine wpAnyH_take (i := 10) (oi := ?_) (v := ?_) ?_ (by kernel_rfl) (by kernel_rfl) (by kernel_rfl) ?_ (Or.inl ⟨?_, ?_⟩) (by assumption) ?_
                      rotate_left 2
                      · (simp only [List.getElem?_toArray, List.getElem?_cons_succ, List.getElem?_cons_zero]; rfl)
                      rotate_left 1
                      · rfl
                      · (intro w hSw; (try dsimp only at hSw); go_simp; try with_reducible rfl)
                      rotate_left 1
                      · exact fun _ _ _ h => h
                      try simp only [Act.put, List.setIfInBounds_toArray, List.set_cons_zero, List.set_cons_succ]
                      refine wpAnyH_take (i := 11) (oi := ?_) (v := ?_) ?_ (by kernel_rfl) (by kernel_rfl) (by kernel_rfl) ?_ (Or.inl ⟨?_, ?_⟩) (by assumption) ?_
                      rotate_left 2
                      · (simp only [List.getElem?_toArray, List.getElem?_cons_succ, List.getElem?_cons_zero]; rfl)
                      rotate_left 1
                      · rfl
                      · (intro w hSw; (try dsimp only at hSw); go_simp; try with_reducible rfl)
                      rotate_left 1
                      · exact fun _ _ _ h => h
                      try simp only [Act.put, List.setIfInBounds_toArray, List.set_cons_zero, List.set_cons_succ]
                      refine wpAnyH_take (i := 12) (oi := ?_) (v := ?_) ?_ (by kernel_rfl) (by kernel_rfl) (by kernel_rfl) ?_ (Or.inl ⟨?_, ?_⟩) (by assumption) ?_
                      rotate_left 2
                      · (simp only [List.getElem?_toArray, List.getElem?_cons_succ, List.getElem?_cons_zero]; rfl)
                      rotate_left 1
                      · rfl
                      · (intro w hSw; (try dsimp only at hSw); go_simp; try with_reducible rfl)
                      rotate_left 1
                      · exact fun _ _ _ h => h
                      try simp only [Act.put, List.setIfInBounds_toArray, List.set_cons_zero, List.set_cons_succ]
                      refine wpAnyH_take (i := 13) (oi := ?_) (v := ?_) ?_ (by kernel_rfl) (by kernel_rfl) (by kernel_rfl) ?_ (Or.inl ⟨?_, ?_⟩) (by assumption) ?_
                      rotate_left 2
                      · (simp only [List.getElem?_toArray, List.getElem?_cons_succ, List.getElem?_cons_zero]; rfl)
                      rotate_left 1
                      · rfl
                      · (intro w hSw; (try dsimp only at hSw); go_simp; try with_reducible rfl)
                      rotate_left 1
                      · exact fun _ _ _ h => h
                      try simp only [Act.put, List.setIfInBounds_toArray, List.set_cons_zero, List.set_cons_succ]
                      refine wpAnyH_take (i := 14) (oi := ?_) (v := ?_) ?_ (by kernel_rfl) (by kernel_rfl) (by kernel_rfl) ?_ (Or.inl ⟨?_, ?_⟩) (by assumption) ?_
                      rotate_left 2
                      · (simp only [List.getElem?_toArray, List.getElem?_cons_succ, List.getElem?_cons_zero]; rfl)
                      rotate_left 1
                      · rfl
                      · (intro w hSw; (try dsimp only at hSw); go_simp; try with_reducible rfl)
                      rotate_left 1
                      · exact fun _ _ _ h => h
                      try simp only [Act.put, List.setIfInBounds_toArray, List.set_cons_zero, List.set_cons_succ]
                      refine wpAnyH_take (i := 15) (oi := ?_) (v := ?_) ?_ (by kernel_rfl) (by kernel_rfl) (by kernel_rfl) ?_ (Or.inl ⟨?_, ?_⟩) (by assumption) ?_
                      rotate_left 2
                      · (simp only [List.getElem?_toArray, List.getElem?_cons_succ, List.getElem?_cons_zero]; rfl)
                      rotate_left 1
                      · rfl
                      · (intro w hSw; (try dsimp only at hSw); go_simp; try with_reducible rfl)
                      rotate_left 1
                      · exact fun _ _ _ h => h
                      try simp only [Act.put, List.setIfInBounds_toArray, List.set_cons_zero, List.set_cons_succ]
                      refine wpAnyH_take (i := 16) (oi := ?_) (v := ?_) ?_ (by kernel_rfl) (by kernel_rfl) (by kernel_rfl) ?_ (Or.inl ⟨?_, ?_⟩) (by assumption) ?_
                      rotate_left 2
                      · (simp only [List.getElem?_toArray, List.getElem?_cons_succ, List.getElem?_cons_zero]; rfl)
                      rotate_left 1
                      · rfl
                      · (intro w hSw; (try dsimp only at hSw); go_simp; try with_reducible rfl)
                      rotate_left 1
                      · exact fun _ _ _ h => h
                      try simp only [Act.put, List.setIfInBounds_toArray, List.set_cons_zero, List.set_cons_succ]
                      refine wpAnyH_ready (rs := [17]) (by kernel_rfl) (by simp) ?_
                      refine AllReadyH.cons (o := ?_) ?_ (fun K hK => ?_) AllReadyH.nil
                      rotate_left 1
                      · (simp only [List.getElem?_toArray, List.getElem?_cons_succ, List.getElem?_cons_zero]; rfl)
                      go_simp
                      (go_at_call 20; refine (rSound_ok _ _ _ ls[k].1 _ hvd (by omega)).mono ?_; rw [HS.out]; rintro e w3 ⟨rfl, hb3⟩; have g0 := (hb3.cell (p := ⟨w.heap.size, 0, none⟩) hblkr.lt).trans y0; have g2 := (hb3.cell (p := ⟨w.heap.size, 2, none⟩) hblkr.lt).trans y2; have g8 := (hb3.cell (p := ⟨ab, off + k * 2, none⟩) (World.block_lt_of_cell? wr _ q8)).trans q8)
                      refine hK.out _ _ ?_ (fun hHeld => ?_)
                      · ((try dsimp only); go_keep)
                      clear hK K
                      try simp only [Act.put, List.setIfInBounds_toArray, List.set_cons_zero, List.set_cons_succ]
                      refine wpAnyH_take (i := 18) (oi := ?_) (v := ?_) ?_ (by kernel_rfl) (by kernel_rfl) (by kernel_rfl) ?_ (Or.inl ⟨?_, ?_⟩) (by assumption) ?_
                      rotate_left 2
                      · (simp only [List.getElem?_toArray, List.getElem?_cons_succ, List.getElem?_cons_zero]; rfl)
                      rotate_left 1
                      · rfl
                      · (intro w hSw; (try dsimp only at hSw); go_simp; try with_reducible rfl)
                      rotate_left 1
                      · exact fun _ _ _ h => h
                      try simp only [Act.put, List.setIfInBounds_toArray, List.set_cons_zero, List.set_cons_succ]
                      refine wpAnyH_take (i := 19) (oi := ?_) (v := ?_) ?_ (by kernel_rfl) (by kernel_rfl) (by kernel_rfl) ?_ (Or.inl ⟨?_, ?_⟩) (by assumption) ?_
                      rotate_left 2
                      · (simp only [List.getElem?_toArray, List.getElem?_cons_succ, List.getElem?_cons_zero]; rfl)
                      rotate_left 1
                      · rfl
                      · (intro w hSw; (try dsimp only at hSw); go_simp; try with_reducible rfl)
                      rotate_left 1
                      · exact fun _ _ _ h => h
                      try simp only [Act.put, List.setIfInBounds_toArray, List.set_cons_zero, List.set_cons_succ]
                      refine wpAnyH_done (by kernel_rfl) ?_ _
                      go_wp2
                      go_ret
                      rw [HRV.out, HRF.out]
                      exact ⟨rfl, (below_dr hbw).trans (hb3.mono (by simpa using hbw.size))⟩
                  · have e1 : ((ls[k].1.length : Int) != wd) = true := by simp [hw1]
                    have hrf : ls.all (lineR wd) = false := by
                      rw [List.all_eq_false]
                      exact ⟨ls[k], List.getElem_mem _, by rw [hlr, decide_eq_false hw1]; simp⟩
                    have HRF := hide hrf
                    clear hlr hw1 hrf
                    go_wp2
                    refine wp_region_held_drew (S := fun w' => w'.cell? ⟨w.heap.size, 0, none⟩ = some (.int .i64 wd) ∧ w'.cell? ⟨w.heap.size, 2, none⟩ = some (.slice (some ⟨ab, off, none⟩) ls.length cp) ∧ w'.cell? ⟨ab, off + k * 2, none⟩ = some (.slice A2 ls[k].1.length c2)) (by kernel_rfl) (by go_keep) (fun hHeld => ?_)
                    refine wpAnyH_take (i := 0) (oi := ?_) (v := ?_) ?_ (by kernel_rfl) (by kernel_rfl) (by kernel_rfl) ?_ (Or.inl ⟨?_, ?_⟩) (by assumption) ?_
                    rotate_left 2
                    · (simp only [List.getElem?_toArray, List.getElem?_cons_succ, List.getElem?_cons_zero]; rfl)
                    rotate_left 1
                    · rfl
                    · (intro w hSw; (try dsimp only at hSw); go_simp; try with_reducible rfl)
                    rotate_left 1
                    · exact fun _ _ _ h => h
                    try simp only [Act.put, List.setIfInBounds_toArray, List.set_cons_zero, List.set_cons_succ]
                    refine wpAnyH_take (i := 1) (oi := ?_) (v := ?_) ?_ (by kernel_rfl) (by kernel_rfl) (by kernel_rfl) ?_ (Or.inl ⟨?_, ?_⟩) (by assumption) ?_
                    rotate_left 2
                    · (simp only [List.getElem?_toArray, List.getElem?_cons_succ, List.getElem?_cons_zero]; rfl)
                    rotate_left 1
                    · rfl
                    · (intro w hSw; (try dsimp only at hSw); go_simp; try with_reducible rfl)
                    rotate_left 1
                    · exact fun _ _ _ h => h
                    try simp only [Act.put, List.setIfInBounds_toArray, List.set_cons_zero, List.set_cons_succ]
                    refine wpAnyH_take (i := 2) (oi := ?_) (v := ?_) ?_ (by kernel_rfl) (by kernel_rfl) (by kernel_rfl) ?_ (Or.inl ⟨?_, ?_⟩) (by assumption) ?_
                    rotate_left 2
                    · (simp only [List.getElem?_toArray, List.getElem?_cons_succ, List.getElem?_cons_zero]; rfl)
                    rotate_left 1
                    · rfl
                    · (intro w hSw; (try dsimp only at hSw); go_simp; try with_reducible rfl)
                    rotate_left 1
                    · exact fun _ _ _ h => h
                    try simp only [Act.put, List.setIfInBounds_toArray, List.set_cons_zero, List.set_cons_succ]
                    refine wpAnyH_take (i := 3) (oi := ?_) (v := ?_) ?_ (by kernel_rfl) (by kernel_rfl) (by kernel_rfl) ?_ (Or.inl ⟨?_, ?_⟩) (by assumption) ?_
                    rotate_left 2
                    · (simp only [List.getElem?_toArray, List.getElem?_cons_succ, List.getElem?_cons_zero]; rfl)
                    rotate_left 1
                    · rfl
                    · (intro w hSw; (try dsimp only at hSw); go_simp; try with_reducible rfl)
                    rotate_left 1
                    · exact fun _ _ _ h => h
                    try simp only [Act.put, List.setIfInBounds_toArray, List.set_cons_zero, List.set_cons_succ]
                    refine wpAnyH_take (i := 4) (oi := ?_) (v := ?_) ?_ (by kernel_rfl) (by kernel_rfl) (by kernel_rfl) ?_ (Or.inl ⟨?_, ?_⟩) (by assumption) ?_
                    rotate_left 2
                    · (simp only [List.getElem?_toArray, List.getElem?_cons_succ, List.getElem?_cons_zero]; rfl)
                    rotate_left 1
                    · rfl
                    · (intro w hSw; (try dsimp only at hSw); go_simp; try with_reducible rfl)
                    rotate_left 1
                    · exact fun _ _ _ h => h
                    try simp only [Act.put, List.setIfInBounds_toArray, List.set_cons_zero, List.set_cons_succ]
                    refine wpAnyH_take (i := 5) (oi := ?_) (v := ?_) ?_ (by kernel_rfl) (by kernel_rfl) (by kernel_rfl) ?_ (Or.inl ⟨?_, ?_⟩) (by assumption) ?_
                    rotate_left 2
                    · (simp only [List.getElem?_toArray, List.getElem?_cons_succ, List.getElem?_cons_zero]; rfl)
                    rotate_left 1
                    · rfl
                    · (intro w hSw; (try dsimp only at hSw); go_simp; try with_reducible rfl)
                    rotate_left 1
                    · exact fun _ _ _ h => h
                    try simp only [Act.put, List.setIfInBounds_toArray, List.set_cons_zero, List.set_cons_succ]
                    refine wpAnyH_take (i := 6) (oi := ?_) (v := ?_) ?_ (by kernel_rfl) (by kernel_rfl) (by kernel_rfl) ?_ (Or.inl ⟨?_, ?_⟩) (by assumption) ?_
                    rotate_left 2
                    · (simp only [List.getElem?_toArray, List.getElem?_cons_succ, List.getElem?_cons_zero]; rfl)
                    rotate_left 1
                    · rfl
                    · (intro w hSw; (try dsimp only at hSw); go_simp; try with_reducible rfl)
                    rotate_left 1
                    · exact fun _ _ _ h => h
                    try simp only [Act.put, List.setIfInBounds_toArray, List.set_cons_zero, List.set_cons_succ]
                    refine wpAnyH_take (i := 7) (oi := ?_) (v := ?_) ?_ (by kernel_rfl) (by kernel_rfl) (by kernel_rfl) ?_ (Or.inl ⟨?_, ?_⟩) (by assumption) ?_
                    rotate_left 2
                    · (simp only [List.getElem?_toArray, List.getElem?_cons_succ, List.getElem?_cons_zero]; rfl)
                    rotate_left 1
                    · rfl
                    · (intro w hSw; (try dsimp only at hSw); go_simp; try with_reducible rfl)
                    rotate_left 1
                    · exact fun _ _ _ h => h
                    try simp only [Act.put, List.setIfInBounds_toArray, List.set_cons_zero, List.set_cons_succ]
                    refine wpAnyH_take (i := 8) (oi := ?_) (v := ?_) ?_ (by kernel_rfl) (by kernel_rfl) (by kernel_rfl) ?_ (Or.inl ⟨?_, ?_⟩) (by assumption) ?_
                    rotate_left 2
                    · (simp only [List.getElem?_toArray, List.getElem?_cons_succ, List.getElem?_cons_zero]; rfl)
                    rotate_left 1
                    · rfl
                    · (intro w hSw; (try dsimp only at hSw); go_simp; try with_reducible rfl)
                    rotate_left 1
                    · exact fun _ _ _ h => h
                    try simp only [Act.put, List.setIfInBounds_toArray, List.set_cons_zero, List.set_cons_succ]
                    refine wpAnyH_take (i := 9) (oi := ?_) (v := ?_) ?_ (by kernel_rfl) (by kernel_rfl) (by kernel_rfl) ?_ (Or.inl ⟨?_, ?_⟩) (by assumption) ?_
                    rotate_left 2
                    · (simp only [List.getElem?_toArray, List.getElem?_cons_succ, List.getElem?_cons_zero]; rfl)
                    rotate_left 1
                    · rfl
                    · (intro w hSw; (try dsimp only at hSw); go_simp; try with_reducible rfl)
                    rotate_left 1
                    · exact fun _ _ _ h => h
                    try simp only [Act.put, List.setIfInBounds_toArray, List.set_cons_zero, List.set_cons_succ]
                    refine wpAnyH_take (i := 10) (oi := ?_) (v := ?_) ?_ (by kernel_rfl) (by kernel_rfl) (by kernel_rfl) ?_ (Or.inl ⟨?_, ?_⟩) (by assumption) ?_
                    rotate_left 2
                    · (simp only [List.getElem?_toArray, List.getElem?_cons_succ, List.getElem?_cons_zero]; rfl)
                    rotate_left 1
                    · rfl
                    · (intro w hSw; (try dsimp only at hSw); go_simp; try with_reducible rfl)
                    rotate_left 1
                    · exact fun _ _ _ h => h
                    try simp only [Act.put, List.setIfInBounds_toArray, List.set_cons_zero, List.set_cons_succ]
                    refine wpAnyH_take (i := 11) (oi := ?_) (v := ?_) ?_ (by kernel_rfl) (by kernel_rfl) (by kernel_rfl) ?_ (Or.inr ⟨?_, ?_⟩) (by assumption) ?_
                    rotate_left 2
                    · (simp only [List.getElem?_toArray, List.getElem?_cons_succ, List.getElem?_cons_zero]; rfl)
                    rotate_left 1
                    · rfl
                    · rfl
                    rotate_left 1
                    · exact fun _ _ _ h => h
                    try simp only [Act.put, List.setIfInBounds_toArray, List.set_cons_zero, List.set_cons_succ]
                    refine wpAnyH_take (i := 12) (oi := ?_) (v := ?_) ?_ (by kernel_rfl) (by kernel_rfl) (by kernel_rfl) ?_ (Or.inr ⟨?_, ?_⟩) (by assumption) ?_
                    rotate_left 2
                    · (simp only [List.getElem?_toArray, List.getElem?_cons_succ, List.getElem?_cons_zero]; rfl)
                    rotate_left 1
                    · rfl
                    · rfl
                    rotate_left 1
                    · exact fun _ _ _ h => h
                    try simp only [Act.put, List.setIfInBounds_toArray, List.set_cons_zero, List.set_cons_succ]
                    refine wpAnyH_take (i := 13) (oi := ?_) (v := ?_) ?_ (by kernel_rfl) (by kernel_rfl) (by kernel_rfl) ?_ (Or.inr ⟨?_, ?_⟩) (by assumption) ?_
                    rotate_left 2
                    · (simp only [List.getElem?_toArray, List.getElem?_cons_succ, List.getElem?_cons_zero]; rfl)
                    rotate_left 1
                    · rfl
                    · rfl
                    rotate_left 1
                    · exact fun _ _ _ h => h
                    try simp only [Act.put, List.setIfInBounds_toArray, List.set_cons_zero, List.set_cons_succ]
                    refine wpAnyH_take (i := 14) (oi := ?_) (v := ?_) ?_ (by kernel_rfl) (by kernel_rfl) (by kernel_rfl) ?_ (Or.inr ⟨?_, ?_⟩) (by assumption) ?_
                    rotate_left 2
                    · (simp only [List.getElem?_toArray, List.getElem?_cons_succ, List.getElem?_cons_zero]; rfl)
                    rotate_left 1
                    · rfl
                    · rfl
                    rotate_left 1
                    · exact fun _ _ _ h => h
                    try simp only [Act.put, List.setIfInBounds_toArray, List.set_cons_zero, List.set_cons_succ]
                    refine wpAnyH_take (i := 15) (oi := ?_) (v := ?_) ?_ (by kernel_rfl) (by kernel_rfl) (by kernel_rfl) ?_ (Or.inr ⟨?_, ?_⟩) (by assumption) ?_
                    rotate_left 2
                    · (simp only [List.getElem?_toArray, List.getElem?_cons_succ, List.getElem?_cons_zero]; rfl)
                    rotate_left 1
                    · rfl
                    · rfl
                    rotate_left 1
                    · exact fun _ _ _ h => h
                    try simp only [Act.put, List.setIfInBounds_toArray, List.set_cons_zero, List.set_cons_succ]
                    refine wpAnyH_take (i := 16) (oi := ?_) (v := ?_) ?_ (by kernel_rfl) (by kernel_rfl) (by kernel_rfl) ?_ (Or.inr ⟨?_, ?_⟩) (by assumption) ?_
                    rotate_left 2
                    · (simp only [List.getElem?_toArray, List.getElem?_cons_succ, List.getElem?_cons_zero]; rfl)
                    rotate_left 1
                    · rfl
                    · rfl
                    rotate_left 1
                    · exact fun _ _ _ h => h
                    try simp only [Act.put, List.setIfInBounds_toArray, List.set_cons_zero, List.set_cons_succ]
                    refine wpAnyH_take (i := 17) (oi := ?_) (v := ?_) ?_ (by kernel_rfl) (by kernel_rfl) (by kernel_rfl) ?_ (Or.inr ⟨?_, ?_⟩) (by assumption) ?_
                    rotate_left 2
                    · (simp only [List.getElem?_toArray, List.getElem?_cons_succ, List.getElem?_cons_zero]; rfl)
                    rotate_left 1
                    · rfl
                    · rfl
                    rotate_left 1
                    · exact fun _ _ _ h => h
                    try simp only [Act.put, List.setIfInBounds_toArray, List.set_cons_zero, List.set_cons_succ]
                    refine wpAnyH_take (i := 18) (oi := ?_) (v := ?_) ?_ (by kernel_rfl) (by kernel_rfl) (by kernel_rfl) ?_ (Or.inr ⟨?_, ?_⟩) (by assumption) ?_
                    rotate_left 2
                    · (simp only [List.getElem?_toArray, List.getElem?_cons_succ, List.getElem?_cons_zero]; rfl)
                    rotate_left 1
                    · rfl
                    · rfl
                    rotate_left 1
                    · exact fun _ _ _ h => h
                    try simp only [Act.put, List.setIfInBounds_toArray, List.set_cons_zero, List.set_cons_succ]
                    refine wpAnyH_take (i := 19) (oi := ?_) (v := ?_) ?_ (by kernel_rfl) (by kernel_rfl) (by kernel_rfl) ?_ (Or.inl ⟨?_, ?_⟩) (by assumption) ?_
                    rotate_left 2
                    · (simp only [List.getElem?_toArray, List.getElem?_cons_succ, List.getElem?_cons_zero]; rfl)
                    rotate_left 1
                    · rfl
                    · (intro w hSw; (try dsimp only at hSw); go_simp; try with_reducible rfl)
                    rotate_left 1
                    · exact fun _ _ _ h => h
                    try simp only [Act.put, List.setIfInBounds_toArray, List.set_cons_zero, List.set_cons_succ]
                    refine wpAnyH_done (by kernel_rfl) ?_ _
                    go_wp2
                    go_ret
                    rw [HRV.out, HRF.out]
                    exact ⟨rfl, below_dr hbw⟩
                · have hall : ls.all (lineR wd) = true := by
                    rw [List.all_eq_true]
                    intro l hl
                    obtain ⟨j, hj, rfl⟩ := List.getElem_of_mem hl
                    exact HP.out j hj (by omega)
                  have HA := hide hall
                  clear hall
                  go_wp2
                  go_ret
                  rw [HRV.out, HA.out]
                  exact ⟨rfl, hbw⟩
            · rw [hcu, Bool.false_and] at hrv
              have HRV := hide hrv
              have HCU := hide hcu
              clear hrv hcu
              go_enter Tryd.func9, Tryd.ntmps9
              go_wp2_with fail
              refine (HCR.out _).mono ?_
              rw [HCU.out]
              rintro e w1 ⟨rfl, hb1⟩
              go_wp2
              go_ret
              rw [HRV.out]
              exact ⟨rfl, hb0.trans (hb1.mono hz0)⟩
          · have q4 : 1024 < wd := by omega
            have hr : res = false := by rw [hrv, decide_eq_false (fun h => k4 h.2.2.2.2)]; rfl
            have HR := hide hr
            clear hr hrv k0
            go_enter Tryd.func9, Tryd.ntmps9
            go_wp2
            go_ret
            rw [HR.out]
            exact ⟨rfl, hb0⟩
        · have q3 : wd < 1 := by omega
          have hr : res = false := by rw [hrv, decide_eq_false (fun h => k3 h.2.2.2.1)]; rfl
          have HR := hide hr
          clear hr hrv k0
          go_enter Tryd.func9, Tryd.ntmps9
          go_wp2
          go_ret
          rw [HR.out]
          exact ⟨rfl, hb0⟩
      · have q2 : 1024 < hi := by omega
        have hr : res = false := by rw [hrv, decide_eq_false (fun h => k2 h.2.2.1)]; rfl
        have HR := hide hr
        clear hr hrv k0
        go_enter Tryd.func9, Tryd.ntmps9
        go_wp2
        go_ret
        rw [HR.out]
        exact ⟨rfl, hb0⟩
    · have q1 : hi < 1 := by omega
      have hr : res = false := by rw [hrv, decide_eq_false (fun h => k1 h.2.1)]; rfl
      have HR := hide hr
      clear hr hrv k0
      go_enter Tryd.func9, Tryd.ntmps9
      go_wp2
      go_ret
      rw [HR.out]
      exact ⟨rfl, hb0⟩
  · have q0 : (hi != ls.length) = true := by simp [k0]
    have hr : res = false := by rw [hrv, decide_eq_false (fun h => k0 h.1)]; rfl
    have HR := hide hr
    clear hr hrv
    go_enter Tryd.func9, Tryd.ntmps9
    go_wp2
    go_ret
    rw [HR.out]
    exact ⟨rfl, hb0⟩
end Go.Proofs.YtphdagmaamcapaaDoor
