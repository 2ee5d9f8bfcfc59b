/-
  Package diff's copied: a view of its own memory.
-/
import Derived.Test.YtcidioomhdkbnaaLns
import Derived.Test.YtcidioomhdkbnaaOrd
namespace Go.Proofs.Ytcidioomhdkbnaa
open Go.RowKit
set_option linter.unusedVariables false
set_option linter.unusedSimpArgs false

theorem below_drw {B : Nat} {a w : World} (h : Below B a w) : Below B a w.drew := ⟨h.os, h.tape, h.output, h.size, h.block⟩
/-- What no slice of a view's is longer than. -/
structure TextsOk (ls : List LineV) : Prop where
  n : ls.length ≤ 1000000
  w : ∀ l ∈ ls, l.1.length ≤ 1000000
  t : ∀ l ∈ ls, ∀ c ∈ l.1, c.2.length * 4 ≤ 140737488355328

set_option maxRecDepth 4096 in
set_option maxHeartbeats 4000000 in
theorem copied_ok (So : Nat → Prop) (x : Value) (wd hi r c : Int) (p au : Bool) (ls : List LineV) (w : World) (hx : Slc RLine So (fun b => b < w.heap.size) w x ls) (hok : TextsOk ls) :
    Calls Try.prog 19 #[.agg #[.int .i64 wd, .int .i64 hi, x, .int .i64 r, .int .i64 c, .bool p, .bool au]] w fun e w' => ∃ ov, e = .returned (.agg #[.int .i64 wd, .int .i64 hi, ov, .int .i64 r, .int .i64 c, .bool p, .bool au]) ∧ Lns w.heap.size w' ov ls ∧ Below w.heap.size w w' := by
  obtain ⟨A, cp, rfl, _, _, _⟩ := hx.open_
  have HOK := hide hok
  have hb1 : Below w.heap.size w ((((w.alloc (.cells #[.int .i64 wd, .int .i64 hi, .slice A ls.length cp, .int .i64 r, .int .i64 c, .bool p, .bool au] 26)).alloc (.cells #[.int .i64 0, .int .i64 0, .slice none 0 0, .int .i64 0, .int .i64 0, .bool false, .bool false] 26)).alloc (.cells #[.int .i64 wd, .int .i64 hi, .slice none 0 0, .int .i64 r, .int .i64 c, .bool p, .bool au] 26))) := (((Below.refl _ w).alloc (Nat.le_refl _) _).alloc (by simp) _).alloc (by simp; omega) _
  have bv : Blk ((((w.alloc (.cells #[.int .i64 wd, .int .i64 hi, .slice A ls.length cp, .int .i64 r, .int .i64 c, .bool p, .bool au] 26)).alloc (.cells #[.int .i64 0, .int .i64 0, .slice none 0 0, .int .i64 0, .int .i64 0, .bool false, .bool false] 26)).alloc (.cells #[.int .i64 wd, .int .i64 hi, .slice none 0 0, .int .i64 r, .int .i64 c, .bool p, .bool au] 26))) w.heap.size 26 #[.int .i64 wd, .int .i64 hi, .slice A ls.length cp, .int .i64 r, .int .i64 c, .bool p, .bool au] := ((Blk.new w 26 #[.int .i64 wd, .int .i64 hi, .slice A ls.length cp, .int .i64 r, .int .i64 c, .bool p, .bool au]).alloc _).alloc _
  have br : Blk ((((w.alloc (.cells #[.int .i64 wd, .int .i64 hi, .slice A ls.length cp, .int .i64 r, .int .i64 c, .bool p, .bool au] 26)).alloc (.cells #[.int .i64 0, .int .i64 0, .slice none 0 0, .int .i64 0, .int .i64 0, .bool false, .bool false] 26)).alloc (.cells #[.int .i64 wd, .int .i64 hi, .slice none 0 0, .int .i64 r, .int .i64 c, .bool p, .bool au] 26))) (w.heap.size + 1) 26 #[.int .i64 0, .int .i64 0, .slice none 0 0, .int .i64 0, .int .i64 0, .bool false, .bool false] := by
    have := (Blk.new (w.alloc (.cells #[.int .i64 wd, .int .i64 hi, .slice A ls.length cp, .int .i64 r, .int .i64 c, .bool p, .bool au] 26)) 26 #[.int .i64 0, .int .i64 0, .slice none 0 0, .int .i64 0, .int .i64 0, .bool false, .bool false]).alloc (.cells #[.int .i64 wd, .int .i64 hi, .slice none 0 0, .int .i64 r, .int .i64 c, .bool p, .bool au] 26)
    simpa using this
  have bo : Blk ((((w.alloc (.cells #[.int .i64 wd, .int .i64 hi, .slice A ls.length cp, .int .i64 r, .int .i64 c, .bool p, .bool au] 26)).alloc (.cells #[.int .i64 0, .int .i64 0, .slice none 0 0, .int .i64 0, .int .i64 0, .bool false, .bool false] 26)).alloc (.cells #[.int .i64 wd, .int .i64 hi, .slice none 0 0, .int .i64 r, .int .i64 c, .bool p, .bool au] 26))) (w.heap.size + 1 + 1) 26 #[.int .i64 wd, .int .i64 hi, .slice none 0 0, .int .i64 r, .int .i64 c, .bool p, .bool au] := by
    have := Blk.new ((w.alloc (.cells #[.int .i64 wd, .int .i64 hi, .slice A ls.length cp, .int .i64 r, .int .i64 c, .bool p, .bool au] 26)).alloc (.cells #[.int .i64 0, .int .i64 0, .slice none 0 0, .int .i64 0, .int .i64 0, .bool false, .bool false] 26)) 26 #[.int .i64 wd, .int .i64 hi, .slice none 0 0, .int .i64 r, .int .i64 c, .bool p, .bool au]
    simpa using this
  clear hok
  go_enter Try.func19, Try.ntmps19
  go_upto_region 3 with fail
  generalize (((w.alloc (.cells #[.int .i64 wd, .int .i64 hi, .slice A ls.length cp, .int .i64 r, .int .i64 c, .bool p, .bool au] 26)).alloc (.cells #[.int .i64 0, .int .i64 0, .slice none 0 0, .int .i64 0, .int .i64 0, .bool false, .bool false] 26)).alloc (.cells #[.int .i64 wd, .int .i64 hi, .slice none 0 0, .int .i64 r, .int .i64 c, .bool p, .bool au] 26)) = w1 at *
  have hz1 := hb1.size
  have y2 := bv.cell 2
  simp only [List.getElem?_toArray, List.getElem?_cons_succ, List.getElem?_cons_zero] at y2
  go_wp2
  go_loopw [11] (fun iv wr => ∃ (k : Nat) (ov : Value) (ps : List (Value × LineV)), k ≤ ls.length ∧ iv = .int .i64 k ∧ ps.map Prod.snd = ls.take k ∧ LnsP w.heap.size wr ov ps ∧ Blk wr (w.heap.size + 1 + 1) 26 #[.int .i64 wd, .int .i64 hi, ov, .int .i64 r, .int .i64 c, .bool p, .bool au] ∧ Blk wr w.heap.size 26 #[.int .i64 wd, .int .i64 hi, .slice A ls.length cp, .int .i64 r, .int .i64 c, .bool p, .bool au] ∧ Blk wr (w.heap.size + 1) 26 #[.int .i64 0, .int .i64 0, .slice none 0 0, .int .i64 0, .int .i64 0, .bool false, .bool false] ∧ Below w.heap.size w wr) (fun iv _ => ls.length - (intOf iv).toNat)
  case atStart => exact ⟨0, _, [], Nat.zero_le _, rfl, rfl, ⟨Own.nil_ _ _ _ _ _ (by simp), fun p hp => (by cases hp), List.Pairwise.nil⟩, bo, bv, br, hb1⟩
  case round =>
    clear y2 bo bv br hb1 hz1
    obtain ⟨k, ov, ps, hk, rfl, hps, hln, bo, bv, br, hbr⟩ := hrel
    have hzr := hbr.size
    by_cases hlt : k < ls.length
    · obtain ⟨ab, off, v2, rfl, _, p00, p01, hv⟩ := line_at hx.slb hlt
      obtain ⟨A2, c2, rfl, _, _, _⟩ := hv.open_
      have hab := World.block_lt_of_cell? _ _ p00
      simp only at hab
      have q0 := (hbr.cell (p := ⟨ab, off + k * 2, none⟩) hab).trans p00
      have q1 := (hbr.cell (p := ⟨ab, off + k * 2 + 1, none⟩) hab).trans p01
      have hki : (k : Int) < ls.length := by omega
      have hnl := HOK.out.n
      have hwl := HOK.out.w ls[k] (List.getElem_mem _)
      have htl := HOK.out.t ls[k] (List.getElem_mem _)
      have htk := take_snoc' ls k hlt
      have hpl : ps.length ≤ k := by
        have : (ps.map Prod.snd).length = (ls.take k).length := by rw [hps]
        rw [List.length_map, List.length_take] at this
        omega
      obtain ⟨lk, hlk⟩ : ∃ lk, ls[k] = lk := ⟨_, rfl⟩
      obtain ⟨cl, wrp⟩ := lk
      rw [hlk] at q0 q1 hv hwl htl htk
      simp only at q0 q1 hv hwl htl
      have HPS := hide hps
      have HTK := hide htk
      have HTL := hide htl
      clear hlk hps htk htl p00 p01
      go_upto_region 6 with fail
      have hb2 := hbr.alloc hzr (.cells #[.slice A2 cl.length c2, .bool wrp] 40)
      have bo := bo.alloc (.cells #[.slice A2 cl.length c2, .bool wrp] 40)
      have bv := bv.alloc (.cells #[.slice A2 cl.length c2, .bool wrp] 40)
      have br := br.alloc (.cells #[.slice A2 cl.length c2, .bool wrp] 40)
      have bl := Blk.new wr 40 #[.slice A2 cl.length c2, .bool wrp]
      have hln2 := hln.step (Step.alloc1 w.heap.size [] wr (.cells #[.slice A2 cl.length c2, .bool wrp] 40)) (by simp) (by simp) (by simp)
      obtain ⟨gl, hgl⟩ : ∃ gl, wr.heap.size = gl := ⟨_, rfl⟩
      rw [hgl] at bl ⊢
      have holt : ∀ g, ov.ownBlock = some g → g < gl := fun g hg => by rw [← hgl]; exact (hln.row.lt_ g hg).2
      generalize wr.alloc (.cells #[.slice A2 cl.length c2, .bool wrp] 40) = w2 at *
      have hz2 := hb2.size
      clear hgl hbr hzr q0 q1 hln
      have s2 := bo.cell 2
      have l0 := bl.cell 0
      have l1 := bl.cell 1
      simp only [List.getElem?_toArray, List.getElem?_cons_succ, List.getElem?_cons_zero] at s2 l0 l1
      have hvd : Slc RCell (fun b => b < w.heap.size) (fun b => b < w.heap.size) w2.drew (.slice A2 cl.length c2) cl := hv.mono (Keep.below (w' := w2.drew) (below_drw hb2)) (Keep.below (w' := w2.drew) (below_drw hb2))
      refine wp_region_late (S := fun w' => w'.cell? ⟨w.heap.size + 1 + 1, 2, none⟩ = some ov ∧ w'.cell? ⟨gl, 0, none⟩ = some (.slice A2 cl.length c2) ∧ w'.cell? ⟨gl, 1, none⟩ = some (.bool wrp)) [11] (by kernel_rfl) (by exact ⟨s2, l0, l1⟩) (fun hHeld => ?_)
      refine wpAnyT_take (i := 0) (oi := ?_) (v := ?_) ?_ (by kernel_rfl) (by kernel_rfl) (by kernel_rfl) (by kernel_rfl) (by kernel_rfl) ?_ (Or.inl ⟨?_, ?_⟩) (by assumption) ?_
      rotate_left 2
      · (simp only [List.getElem?_toArray, List.getElem?_cons_succ, List.getElem?_cons_zero]; rfl)
      rotate_left 1
      · rfl
      · (intro w hSw; (try dsimp only at hSw); go_simp; try with_reducible rfl)
      rotate_left 1
      · exact fun _ _ _ h => h
      try simp only [Act.put, List.setIfInBounds_toArray, List.set_cons_zero, List.set_cons_succ]
      refine wpAnyT_take (i := 1) (oi := ?_) (v := ?_) ?_ (by kernel_rfl) (by kernel_rfl) (by kernel_rfl) (by kernel_rfl) (by kernel_rfl) ?_ (Or.inl ⟨?_, ?_⟩) (by assumption) ?_
      rotate_left 2
      · (simp only [List.getElem?_toArray, List.getElem?_cons_succ, List.getElem?_cons_zero]; rfl)
      rotate_left 1
      · rfl
      · (intro w hSw; (try dsimp only at hSw); go_simp; try with_reducible rfl)
      rotate_left 1
      · exact fun _ _ _ h => h
      try simp only [Act.put, List.setIfInBounds_toArray, List.set_cons_zero, List.set_cons_succ]
      refine wpAnyT_take (i := 2) (oi := ?_) (v := ?_) ?_ (by kernel_rfl) (by kernel_rfl) (by kernel_rfl) (by kernel_rfl) (by kernel_rfl) ?_ (Or.inl ⟨?_, ?_⟩) (by assumption) ?_
      rotate_left 2
      · (simp only [List.getElem?_toArray, List.getElem?_cons_succ, List.getElem?_cons_zero]; rfl)
      rotate_left 1
      · rfl
      · (intro w hSw; (try dsimp only at hSw); go_simp; try with_reducible rfl)
      rotate_left 1
      · exact fun _ _ _ h => h
      try simp only [Act.put, List.setIfInBounds_toArray, List.set_cons_zero, List.set_cons_succ]
      refine wpAnyT_take (i := 3) (oi := ?_) (v := ?_) ?_ (by kernel_rfl) (by kernel_rfl) (by kernel_rfl) (by kernel_rfl) (by kernel_rfl) ?_ (Or.inl ⟨?_, ?_⟩) (by assumption) ?_
      rotate_left 2
      · (simp only [List.getElem?_toArray, List.getElem?_cons_succ, List.getElem?_cons_zero]; rfl)
      rotate_left 1
      · rfl
      · (intro w hSw; (try dsimp only at hSw); go_simp; try with_reducible rfl)
      rotate_left 1
      · exact fun _ _ _ h => h
      try simp only [Act.put, List.setIfInBounds_toArray, List.set_cons_zero, List.set_cons_succ]
      refine wpAnyT_take (i := 5) (oi := ?_) (v := ?_) ?_ (by kernel_rfl) (by kernel_rfl) (by kernel_rfl) (by kernel_rfl) (by kernel_rfl) ?_ (Or.inl ⟨?_, ?_⟩) (by assumption) ?_
      rotate_left 2
      · (simp only [List.getElem?_toArray, List.getElem?_cons_succ, List.getElem?_cons_zero]; rfl)
      rotate_left 1
      · rfl
      · (intro w hSw; (try dsimp only at hSw); go_simp; try with_reducible rfl)
      rotate_left 1
      · exact fun _ _ _ h => h
      try simp only [Act.put, List.setIfInBounds_toArray, List.set_cons_zero, List.set_cons_succ]
      refine wpAnyT_take (i := 6) (oi := ?_) (v := ?_) ?_ (by kernel_rfl) (by kernel_rfl) (by kernel_rfl) (by kernel_rfl) (by kernel_rfl) ?_ (Or.inl ⟨?_, ?_⟩) (by assumption) ?_
      rotate_left 2
      · (simp only [List.getElem?_toArray, List.getElem?_cons_succ, List.getElem?_cons_zero]; rfl)
      rotate_left 1
      · rfl
      · (intro w hSw; (try dsimp only at hSw); go_simp; try with_reducible rfl)
      rotate_left 1
      · exact fun _ _ _ h => h
      try simp only [Act.put, List.setIfInBounds_toArray, List.set_cons_zero, List.set_cons_succ]
      refine wpAnyT_ready (rs := [4]) (by kernel_rfl) (by simp) ?_
      refine AllReadyT.cons (o := ?_) ?_ (fun K hK => ?_) AllReadyT.nil
      rotate_left 1
      · (simp only [List.getElem?_toArray, List.getElem?_cons_succ, List.getElem?_cons_zero]; rfl)
      go_simp
      go_at_call 25; refine (own46_ok _ _ _ cl _ hvd hwl HTL.out).mono ?_; rintro e w5 ⟨s5, rfl, hs5, hb5⟩; have hbw5 := (below_drw hb2).trans (hb5.mono hz2); have hz5 := hbw5.size; have bo5 := (show Blk w2.drew _ _ _ from bo).same hb5; have bv5 := (show Blk w2.drew _ _ _ from bv).same hb5; have br5 := (show Blk w2.drew _ _ _ from br).same hb5; have bl5 := (show Blk w2.drew _ _ _ from bl).same hb5; have hln5 := (hln2.step ((Step.refl w.heap.size [] w2).drew) (by simp) (by simp) (by simp)).step (es := []) (Step.of_below hb5) (by simp) (by simp) (by simp); have hlt5 : ∀ p ∈ ps, ∀ g, p.1.ownBlock = some g → g < w2.drew.heap.size := fun p hp g hg => ((hln2.cells p hp).lt_ g hg).2; obtain ⟨A5, c5, rfl, _, _, _⟩ := hs5.slc.open_; have s2 := bo5.cell 2; have l0 := bl5.cell 0; have l1 := bl5.cell 1; simp only [List.getElem?_toArray, List.getElem?_cons_succ, List.getElem?_cons_zero] at s2 l0 l1
      refine hK.out _ _ ?_ (fun hHeld => ?_)
      · ((try dsimp only); go_keep)
      clear hK K
      try simp only [Act.put, List.setIfInBounds_toArray, List.set_cons_zero, List.set_cons_succ]
      refine wpAnyT_take (i := 7) (oi := ?_) (v := ?_) ?_ (by kernel_rfl) (by kernel_rfl) (by kernel_rfl) (by kernel_rfl) (by kernel_rfl) ?_ (Or.inl ⟨?_, ?_⟩) (by assumption) ?_
      rotate_left 2
      · (simp only [List.getElem?_toArray, List.getElem?_cons_succ, List.getElem?_cons_zero]; rfl)
      rotate_left 1
      · rfl
      · (intro w hSw; (try dsimp only at hSw); go_simp; try with_reducible rfl)
      rotate_left 1
      · exact fun _ _ _ h => h
      try simp only [Act.put, List.setIfInBounds_toArray, List.set_cons_zero, List.set_cons_succ]
      refine wpAnyT_ready (rs := [8]) (by kernel_rfl) (by simp) ?_
      refine AllReadyT.cons (o := ?_) ?_ (fun K hK => ?_) AllReadyT.nil
      rotate_left 1
      · (simp only [List.getElem?_toArray, List.getElem?_cons_succ, List.getElem?_cons_zero]; rfl)
      go_simp
      have bo6 := bo5.alloc (.cells #[.slice A5 cl.length c5, .bool wrp] 40); have bv6 := bv5.alloc (.cells #[.slice A5 cl.length c5, .bool wrp] 40); have br6 := br5.alloc (.cells #[.slice A5 cl.length c5, .bool wrp] 40); have bl6 := bl5.alloc (.cells #[.slice A5 cl.length c5, .bool wrp] 40); have hb6 := hbw5.alloc hz5 (.cells #[.slice A5 cl.length c5, .bool wrp] 40); have hln6 := hln5.step (Step.alloc1 w.heap.size [] w5 (.cells #[.slice A5 cl.length c5, .bool wrp] 40)) (by simp) (by simp) (by simp); have hs6 := hs5.alloc (.cells #[.slice A5 cl.length c5, .bool wrp] 40); have hone := Slc.lit1 (R := RSl) (Si := fun _ => False) (Si' := fun _ => False) (w := w5) (x := ((.slice A5 cl.length c5 : Value), wrp)) (u := [.slice A5 cl.length c5, .bool wrp]) 40 ⟨[.slice A5 cl.length c5], [.bool wrp], rfl, ⟨rfl, rfl⟩, rfl⟩ (fun _ _ h => h.elim); have s2 := bo6.cell 2; have l0 := bl6.cell 0; have l1 := bl6.cell 1; simp only [List.getElem?_toArray, List.getElem?_cons_succ, List.getElem?_cons_zero] at s2 l0 l1
      refine hK.out _ _ ?_ (fun hHeld => ?_)
      · ((try dsimp only); go_keep)
      clear hK K
      try simp only [Act.put, List.setIfInBounds_toArray, List.set_cons_zero, List.set_cons_succ]
      refine wpAnyT_ready (rs := [9]) (by kernel_rfl) (by simp) ?_
      refine AllReadyT.cons (o := ?_) ?_ (fun K hK => ?_) AllReadyT.nil
      rotate_left 1
      · (simp only [List.getElem?_toArray, List.getElem?_cons_succ, List.getElem?_cons_zero]; rfl)
      refine step_appg rfl (.tmp 16) (.tmp 23) 22 rfl RSl 40 [] w.heap.size 32 _ Try.underlying22 line_info rfl (by decide) (by decide) _ _ rfl hln6.row _ (fun _ => False) _ _ rfl hone (fun _ h => False.elim h) (by simp; omega) hb6.size ?_; intro v7 w7 hv7 hst7 hg7 ho7; obtain ⟨A7, n7, c7, rfl⟩ : ∃ A7 n7 c7, v7 = .slice A7 n7 c7 := (by obtain ⟨A, c, e, _⟩ := hv7.slc.open_; exact ⟨A, _, c, e⟩); have hb7 := hb6.trans (hst7.below hb6.size); have bo7 := bo6.step hst7 (by decide); have bv7 := bv6.step hst7 (by decide); have br7 := br6.step hst7 (by decide); have bl7 := gb_blk hg7 holt (Nat.le_refl _) bl6; have f2 := bo7.frozen 2; have s2 := bo7.cell 2; have l0 := bl7.cell 0; have l1 := bl7.cell 1; simp only [List.getElem?_toArray, List.getElem?_cons_succ, List.getElem?_cons_zero] at s2 l0 l1
      refine hK.out _ _ ?_ (fun hHeld => ?_)
      · ((try dsimp only); go_keep)
      clear hK K
      try simp only [Act.put, List.setIfInBounds_toArray, List.set_cons_zero, List.set_cons_succ]
      refine wpAnyT_take (i := 10) (oi := ?_) (v := ?_) ?_ (by kernel_rfl) (by kernel_rfl) (by kernel_rfl) (by kernel_rfl) (by kernel_rfl) ?_ (Or.inl ⟨?_, ?_⟩) (by assumption) ?_
      rotate_left 2
      · (simp only [List.getElem?_toArray, List.getElem?_cons_succ, List.getElem?_cons_zero]; rfl)
      rotate_left 1
      · rfl
      · (intro w hSw; (try dsimp only at hSw); go_simp; try with_reducible rfl)
      rotate_left 1
      · exact fun _ _ _ h => h
      try simp only [Act.put, List.setIfInBounds_toArray, List.set_cons_zero, List.set_cons_succ]
      refine wpAnyT_ready (rs := [11]) (by kernel_rfl) (by simp) ?_
      refine AllReadyT.consL (o := ?_) ?_ (by kernel_rfl) (fun K hK => ?_) AllReadyT.nil
      rotate_left 1
      · (simp only [List.getElem?_toArray, List.getElem?_cons_succ, List.getElem?_cons_zero]; rfl)
      go_simp
      refine hK.out _ _ ?_
      clear hK K
      try simp only [Act.put, List.setIfInBounds_toArray, List.set_cons_zero, List.set_cons_succ]
      refine wpAnyT_done (by kernel_rfl) ?_ _
      have hst8 : Step w.heap.size [26] w7 (w7.setCell ⟨w.heap.size + 1 + 1, 2, none⟩ (.slice A7 n7 c7)) := (Step.refl _ _ _).setCell (by show w.heap.size ≤ w.heap.size + 1 + 1; omega) bo7.bears _
      have hb8 := hb7.setCell (p := ⟨w.heap.size + 1 + 1, 2, none⟩) (by show w.heap.size ≤ w.heap.size + 1 + 1; omega) (.slice A7 n7 c7)
      have bo8 := bo7.set_ 2 (.slice A7 n7 c7)
      simp only [List.setIfInBounds_toArray, List.set_cons_succ, List.set_cons_zero] at bo8
      have bv8 := bv7.far (p := ⟨w.heap.size + 1 + 1, 2, none⟩) (by show w.heap.size ≠ w.heap.size + 1 + 1; omega) (.slice A7 n7 c7)
      have br8 := br7.far (p := ⟨w.heap.size + 1 + 1, 2, none⟩) (by show w.heap.size + 1 ≠ w.heap.size + 1 + 1; omega) (.slice A7 n7 c7)
      have hln8 : LnsP w.heap.size (w7.setCell ⟨w.heap.size + 1 + 1, 2, none⟩ (.slice A7 n7 c7)) (.slice A7 n7 c7) (ps ++ [(.slice A5 cl.length c5, (cl, wrp))]) :=
        (LnsP.snoc (fun p hp => (hln6.cells p hp).step hst7 (by decide) (by decide)) hln6.apart hlt5 hv7 (hs6.stepx hst7 (Nat.zero_le _) (by decide) (by decide)) hz2).step hst8 (by decide) (by decide) (by decide)
      have hps8 : (ps ++ [((.slice A5 cl.length c5 : Value), ((cl, wrp) : LineV))]).map Prod.snd = ls.take (k + 1) := by rw [List.map_append, HPS.out, HTK.out]; rfl
      have HPS8 := hide hps8
      clear hps8 hHeld s2 l0 l1
      go_wp2
      go_roundw
      case rel => exact ⟨k + 1, _, _, by omega, by go_num, HPS8.out, hln8, bo8, bv8, br8, hb8⟩
      case measure => simp [intOf]; omega
    · obtain rfl : k = ls.length := by omega
      obtain ⟨A7, n7, c7, rfl⟩ : ∃ A7 n7 c7, ov = .slice A7 n7 c7 := by
        obtain ⟨A, c, e, _⟩ := hln.row.slc.open_
        exact ⟨A, _, c, e⟩
      have hlns : Lns w.heap.size wr (.slice A7 n7 c7) ls := ⟨ps, by rw [hps, List.take_of_length_le (Nat.le_refl _)], hln⟩
      have HLNS := hide hlns
      clear hps hlns
      have s0 := bo.cell 0; have s1 := bo.cell 1; have s2 := bo.cell 2; have s3 := bo.cell 3; have s4 := bo.cell 4; have s5 := bo.cell 5; have s6 := bo.cell 6; have t0 := br.cell 0; have t1 := br.cell 1; have t2 := br.cell 2; have t3 := br.cell 3; have t4 := br.cell 4; have t5 := br.cell 5; have t6 := br.cell 6; have f0 := br.frozen 0; have f1 := br.frozen 1; have f2 := br.frozen 2; have f3 := br.frozen 3; have f4 := br.frozen 4; have f5 := br.frozen 5; have f6 := br.frozen 6; simp only [List.getElem?_toArray, List.getElem?_cons_succ, List.getElem?_cons_zero] at s0 t0 s1 t1 s2 t2 s3 t3 s4 t4 s5 t5 s6 t6
      go_wp2
      have hst7 : Step w.heap.size [26] wr ((((((((wr).setCell ⟨w.heap.size + 1, 0, none⟩ (.int .i64 wd)).setCell ⟨w.heap.size + 1, 1, none⟩ (.int .i64 hi)).setCell ⟨w.heap.size + 1, 2, none⟩ (.slice A7 n7 c7)).setCell ⟨w.heap.size + 1, 3, none⟩ (.int .i64 r)).setCell ⟨w.heap.size + 1, 4, none⟩ (.int .i64 c)).setCell ⟨w.heap.size + 1, 5, none⟩ (.bool p)).setCell ⟨w.heap.size + 1, 6, none⟩ (.bool au)) := (((((((Step.refl w.heap.size [26] wr).setCell (p := ⟨w.heap.size + 1, 0, none⟩) (by show w.heap.size ≤ w.heap.size + 1; omega) (br).bears (.int .i64 wd)).setCell (p := ⟨w.heap.size + 1, 1, none⟩) (by show w.heap.size ≤ w.heap.size + 1; omega) ((br).set_ 0 (.int .i64 wd)).bears (.int .i64 hi)).setCell (p := ⟨w.heap.size + 1, 2, none⟩) (by show w.heap.size ≤ w.heap.size + 1; omega) (((br).set_ 0 (.int .i64 wd)).set_ 1 (.int .i64 hi)).bears (.slice A7 n7 c7)).setCell (p := ⟨w.heap.size + 1, 3, none⟩) (by show w.heap.size ≤ w.heap.size + 1; omega) ((((br).set_ 0 (.int .i64 wd)).set_ 1 (.int .i64 hi)).set_ 2 (.slice A7 n7 c7)).bears (.int .i64 r)).setCell (p := ⟨w.heap.size + 1, 4, none⟩) (by show w.heap.size ≤ w.heap.size + 1; omega) (((((br).set_ 0 (.int .i64 wd)).set_ 1 (.int .i64 hi)).set_ 2 (.slice A7 n7 c7)).set_ 3 (.int .i64 r)).bears (.int .i64 c)).setCell (p := ⟨w.heap.size + 1, 5, none⟩) (by show w.heap.size ≤ w.heap.size + 1; omega) ((((((br).set_ 0 (.int .i64 wd)).set_ 1 (.int .i64 hi)).set_ 2 (.slice A7 n7 c7)).set_ 3 (.int .i64 r)).set_ 4 (.int .i64 c)).bears (.bool p)).setCell (p := ⟨w.heap.size + 1, 6, none⟩) (by show w.heap.size ≤ w.heap.size + 1; omega) (((((((br).set_ 0 (.int .i64 wd)).set_ 1 (.int .i64 hi)).set_ 2 (.slice A7 n7 c7)).set_ 3 (.int .i64 r)).set_ 4 (.int .i64 c)).set_ 5 (.bool p)).bears (.bool au)
      have hb7 := hbr.trans (hst7.below hzr)
      have bn : Blk ((((((((wr).setCell ⟨w.heap.size + 1, 0, none⟩ (.int .i64 wd)).setCell ⟨w.heap.size + 1, 1, none⟩ (.int .i64 hi)).setCell ⟨w.heap.size + 1, 2, none⟩ (.slice A7 n7 c7)).setCell ⟨w.heap.size + 1, 3, none⟩ (.int .i64 r)).setCell ⟨w.heap.size + 1, 4, none⟩ (.int .i64 c)).setCell ⟨w.heap.size + 1, 5, none⟩ (.bool p)).setCell ⟨w.heap.size + 1, 6, none⟩ (.bool au)) (w.heap.size + 1) 26 #[.int .i64 wd, .int .i64 hi, .slice A7 n7 c7, .int .i64 r, .int .i64 c, .bool p, .bool au] := by have := (((((((br).set_ 0 (.int .i64 wd)).set_ 1 (.int .i64 hi)).set_ 2 (.slice A7 n7 c7)).set_ 3 (.int .i64 r)).set_ 4 (.int .i64 c)).set_ 5 (.bool p)).set_ 6 (.bool au); simpa using this
      have hl7 := HLNS.out.step hst7 (by decide) (by decide) (by decide)
      generalize (((((((wr).setCell ⟨w.heap.size + 1, 0, none⟩ (.int .i64 wd)).setCell ⟨w.heap.size + 1, 1, none⟩ (.int .i64 hi)).setCell ⟨w.heap.size + 1, 2, none⟩ (.slice A7 n7 c7)).setCell ⟨w.heap.size + 1, 3, none⟩ (.int .i64 r)).setCell ⟨w.heap.size + 1, 4, none⟩ (.int .i64 c)).setCell ⟨w.heap.size + 1, 5, none⟩ (.bool p)).setCell ⟨w.heap.size + 1, 6, none⟩ (.bool au) = wz at *
      have x0 := bn.cell 0; have x1 := bn.cell 1; have x2 := bn.cell 2; have x3 := bn.cell 3; have x4 := bn.cell 4; have x5 := bn.cell 5; have x6 := bn.cell 6; simp only [List.getElem?_toArray, List.getElem?_cons_succ, List.getElem?_cons_zero] at x0 x1 x2 x3 x4 x5 x6
      refine bodyPost_ret (v := .agg #[.int .i64 wd, .int .i64 hi, .slice A7 n7 c7, .int .i64 r, .int .i64 c, .bool p, .bool au]) (by simp [results, Try.results19, go_sem, x0, x1, x2, x3, x4, x5, x6]) rfl ⟨_, rfl, hl7, hb7⟩
end Go.Proofs.Ytcidioomhdkbnaa
