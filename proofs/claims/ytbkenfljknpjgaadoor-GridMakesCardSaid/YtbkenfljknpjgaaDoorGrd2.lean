/-
  Copies of rows and of grids, and a grid's lines: what the functions return. Each function once.
-/
import Derived.Test.YtbkenfljknpjgaaDoorGrd1
import Derived.Test.YtbkenfljknpjgaaDoorMem5
import Derived.Deep.RegionHeld3
import Derived.RegionTactic
import Derived.ChangeAlike
import Derived.Deep.CutRange
import Derived.BigQuiet
namespace Go.Proofs.YtbkenfljknpjgaaDoor
open Go.RowKit
set_option linter.unusedVariables false
set_option linter.unusedSimpArgs false

theorem below_drw {B : Nat} {a w : World} (h : Below B a w) : Below B a w.drew := ⟨h.os, h.tape, h.output, h.size, h.block⟩
theorem RCopy_ok (base : Nat) (v : Value) (l : List CellV) (wrap : Bool) (w : World) (h : RowIs base w v l wrap) (hlen : l.length ≤ 100000) (htx : ∀ c ∈ l, c.2.length ≤ 16) :
    Calls Tryd.prog 44 #[v] w fun e w' => ∃ v', e = .returned v' ∧ RowIs w.heap.size w' v' l wrap ∧ Below w.heap.size w w' := by
  have HC := hide (fun W (hW : Below w.heap.size w W) => Cells_ok base v l wrap W (h.below hW) hlen htx)
  clear hlen htx
  obtain ⟨g, s, rfl, h1, bg, h3⟩ := h
  clear h3
  go_enter Tryd.func44, Tryd.ntmps44
  go_wp2
  refine wp_region_held_drew (S := fun w' => Blk w' g 83 #[s, .bool wrap]) (by kernel_rfl) (by exact bg) (fun hHeld => ?_)
  refine wpAnyH_take (i := 0) (oi := ?_) (v := ?_) ?_ (by kernel_rfl) (by kernel_rfl) (by kernel_rfl) ?_ (Or.inl ⟨?_, ?_⟩) (by assumption) ?_
  rotate_left 2
  · (simp only [List.getElem?_toArray, List.getElem?_cons_succ, List.getElem?_cons_zero]; rfl)
  rotate_left 1
  · rfl
  · (intro w hSw; have x1 := hSw.cell 1; simp only [List.getElem?_toArray, List.getElem?_cons_succ, List.getElem?_cons_zero] at x1; go_simp; try with_reducible rfl)
  rotate_left 1
  · exact fun _ _ _ h => h
  try simp only [Act.put, List.setIfInBounds_toArray, List.set_cons_zero, List.set_cons_succ]
  refine wpAnyH_take (i := 2) (oi := ?_) (v := ?_) ?_ (by kernel_rfl) (by kernel_rfl) (by kernel_rfl) ?_ (Or.inl ⟨?_, ?_⟩) (by assumption) ?_
  rotate_left 2
  · (simp only [List.getElem?_toArray, List.getElem?_cons_succ, List.getElem?_cons_zero]; rfl)
  rotate_left 1
  · rfl
  · (intro w hSw; have x1 := hSw.cell 1; simp only [List.getElem?_toArray, List.getElem?_cons_succ, List.getElem?_cons_zero] at x1; go_simp; try with_reducible rfl)
  rotate_left 1
  · exact fun _ _ _ h => h
  try simp only [Act.put, List.setIfInBounds_toArray, List.set_cons_zero, List.set_cons_succ]
  refine wpAnyH_take (i := 3) (oi := ?_) (v := ?_) ?_ (by kernel_rfl) (by kernel_rfl) (by kernel_rfl) ?_ (Or.inl ⟨?_, ?_⟩) (by assumption) ?_
  rotate_left 2
  · (simp only [List.getElem?_toArray, List.getElem?_cons_succ, List.getElem?_cons_zero]; rfl)
  rotate_left 1
  · rfl
  · (intro w hSw; have x1 := hSw.cell 1; simp only [List.getElem?_toArray, List.getElem?_cons_succ, List.getElem?_cons_zero] at x1; go_simp; try with_reducible rfl)
  rotate_left 1
  · exact fun _ _ _ h => h
  try simp only [Act.put, List.setIfInBounds_toArray, List.set_cons_zero, List.set_cons_succ]
  refine wpAnyH_take (i := 4) (oi := ?_) (v := ?_) ?_ (by kernel_rfl) (by kernel_rfl) (by kernel_rfl) ?_ (Or.inl ⟨?_, ?_⟩) (by assumption) ?_
  rotate_left 2
  · (simp only [List.getElem?_toArray, List.getElem?_cons_succ, List.getElem?_cons_zero]; rfl)
  rotate_left 1
  · rfl
  · (intro w hSw; have x1 := hSw.cell 1; simp only [List.getElem?_toArray, List.getElem?_cons_succ, List.getElem?_cons_zero] at x1; go_simp; try with_reducible rfl)
  rotate_left 1
  · exact fun _ _ _ h => h
  try simp only [Act.put, List.setIfInBounds_toArray, List.set_cons_zero, List.set_cons_succ]
  refine wpAnyH_take (i := 5) (oi := ?_) (v := ?_) ?_ (by kernel_rfl) (by kernel_rfl) (by kernel_rfl) ?_ (Or.inl ⟨?_, ?_⟩) (by assumption) ?_
  rotate_left 2
  · (simp only [List.getElem?_toArray, List.getElem?_cons_succ, List.getElem?_cons_zero]; rfl)
  rotate_left 1
  · rfl
  · (intro w hSw; have x1 := hSw.cell 1; simp only [List.getElem?_toArray, List.getElem?_cons_succ, List.getElem?_cons_zero] at x1; go_simp; try with_reducible rfl)
  rotate_left 1
  · exact fun _ _ _ h => h
  try simp only [Act.put, List.setIfInBounds_toArray, List.set_cons_zero, List.set_cons_succ]
  refine wpAnyH_ready (rs := [1]) (by kernel_rfl) (by simp) ?_
  refine AllReadyH.cons (o := ?_) ?_ (fun K hK => ?_) AllReadyH.nil
  rotate_left 1
  · (simp only [List.getElem?_toArray, List.getElem?_cons_succ, List.getElem?_cons_zero]; rfl)
  go_simp
  go_at_call 46; refine (HC.out _ (below_drw (Below.refl _ _))).mono ?_; rintro e w2 ⟨s2, rfl, hs2, hb2⟩; obtain ⟨A2, c2, rfl, _, _, _⟩ := hs2.slc.open_; have hb2 : Below w.heap.size w w2 := (below_drw (Below.refl _ w)).trans hb2; have bg2 : Blk w2 g 83 #[s, .bool wrap] := bg.same hb2; have bg := bg2; clear bg2
  refine hK.out _ _ ?_ (fun hHeld => ?_)
  · exact bg
  clear hK K
  try simp only [Act.put, List.setIfInBounds_toArray, List.set_cons_zero, List.set_cons_succ]
  refine wpAnyH_take (i := 6) (oi := ?_) (v := ?_) ?_ (by kernel_rfl) (by kernel_rfl) (by kernel_rfl) ?_ (Or.inl ⟨?_, ?_⟩) (by assumption) ?_
  rotate_left 2
  · (simp only [List.getElem?_toArray, List.getElem?_cons_succ, List.getElem?_cons_zero]; rfl)
  rotate_left 1
  · rfl
  · (intro w hSw; have x1 := hSw.cell 1; simp only [List.getElem?_toArray, List.getElem?_cons_succ, List.getElem?_cons_zero] at x1; go_simp; try with_reducible rfl)
  rotate_left 1
  · exact fun _ _ _ h => h
  try simp only [Act.put, List.setIfInBounds_toArray, List.set_cons_zero, List.set_cons_succ]
  refine wpAnyH_ready (rs := [7]) (by kernel_rfl) (by simp) ?_
  refine AllReadyH.cons (o := ?_) ?_ (fun K hK => ?_) AllReadyH.nil
  rotate_left 1
  · (simp only [List.getElem?_toArray, List.getElem?_cons_succ, List.getElem?_cons_zero]; rfl)
  go_simp
  have bg := bg.alloc (.cells #[.slice A2 l.length c2, .bool wrap] 83)
  refine hK.out _ _ ?_ (fun hHeld => ?_)
  · exact bg
  clear hK K
  try simp only [Act.put, List.setIfInBounds_toArray, List.set_cons_zero, List.set_cons_succ]
  refine wpAnyH_take (i := 8) (oi := ?_) (v := ?_) ?_ (by kernel_rfl) (by kernel_rfl) (by kernel_rfl) ?_ (Or.inl ⟨?_, ?_⟩) (by assumption) ?_
  rotate_left 2
  · (simp only [List.getElem?_toArray, List.getElem?_cons_succ, List.getElem?_cons_zero]; rfl)
  rotate_left 1
  · rfl
  · (intro w hSw; have x1 := hSw.cell 1; simp only [List.getElem?_toArray, List.getElem?_cons_succ, List.getElem?_cons_zero] at x1; go_simp; try with_reducible rfl)
  rotate_left 1
  · exact fun _ _ _ h => h
  try simp only [Act.put, List.setIfInBounds_toArray, List.set_cons_zero, List.set_cons_succ]
  refine wpAnyH_done (by kernel_rfl) ?_ _
  go_wp2
  go_ret
  have hbz := hb2.size
  exact ⟨_, rfl, ⟨w2.heap.size, _, rfl, hbz, Blk.new _ _ _, hs2.alloc _⟩, hb2.alloc hbz _⟩

set_option maxHeartbeats 2000000 in
theorem GCopy_ok (base : Nat) (v : Value) (ps : List RowP) (w : World) (h : GridP base w v ps) (hn : ps.length ≤ 100000) (hall : ∀ p ∈ ps, p.2.1.length ≤ 100000 ∧ ∀ c ∈ p.2.1, c.2.length ≤ 16) :
    Calls Tryd.prog 13 #[v] w fun e w' => ∃ v' qs, e = .returned v' ∧ GridP w.heap.size w' v' qs ∧ qs.map Prod.snd = ps.map Prod.snd ∧ Below w.heap.size w w' := by
  have HC := hide (fun (k : Nat) (hk : k < ps.length) W (hW : Below w.heap.size w W) => by
    have hr := h
    obtain ⟨g, s, e, h1, h2, h3, h4⟩ := hr
    exact RCopy_ok base ps[k].1 ps[k].2.1 ps[k].2.2 W ((h4.row ps[k] (List.getElem_mem _)).below hW) (hall ps[k] (List.getElem_mem _)).1 (hall ps[k] (List.getElem_mem _)).2)
  clear hall
  obtain ⟨g, s, rfl, h1, h2, h3, h4⟩ := h
  obtain ⟨A, c, rfl, _, _, _⟩ := h3.slc.open_
  have x0 := (h2.alloc (.cells #[.slice none 0 0] 78)).cell 0
  simp only [List.getElem?_toArray, List.getElem?_cons_succ, List.getElem?_cons_zero] at x0
  rw [List.length_map] at x0
  have bn := Blk.new w 78 #[.slice none 0 0]
  have hb1 := (Below.refl w.heap.size w).alloc (Nat.le_refl _) (.cells #[.slice none 0 0] 78)
  go_enter Tryd.func13, Tryd.ntmps13
  go_wp2
  go_loopw [15] (fun iv wr => ∃ k : Nat, k ≤ ps.length ∧ iv = .int .i64 k ∧ ∃ (sv : Value) (qs : List RowP), qs.map Prod.snd = (ps.map Prod.snd).take k ∧ Blk wr w.heap.size 78 #[sv] ∧ Own RVal 33 [] w.heap.size wr sv (qs.map Prod.fst) ∧ RowsP w.heap.size wr qs ∧ Below w.heap.size w wr) (fun iv _ => ps.length - (intOf iv).toNat)
  case atStart => exact ⟨0, Nat.zero_le _, rfl, _, [], rfl, bn, Own.nil_ _ _ _ _ _ (by simp), RowsP.nil_ _ _, hb1⟩
  case round =>
    clear bn hb1 x0
    obtain ⟨k, hk, rfl, sv, qs, hqs, bn, hov, hrs, hbr⟩ := hrel
    have hzr := hbr.size
    by_cases hlt : k < ps.length
    · obtain ⟨G, cap, hA, _, hGl, hcap, x1, _⟩ := ownv_at h3 (i := k) (by simpa using hlt)
      injection hA with hA _ e3
      subst hA
      rw [List.getElem_map] at x1
      have q1 := (hbr.cell (p := ⟨G, k, none⟩) hGl).trans x1
      obtain ⟨gr, hpe, _, _⟩ := h4.lt ps[k] (List.getElem_mem _)
      have hC := HC.out k hlt
      rw [hpe] at q1 hC
      have HCK := hide hC
      have hki : (k : Int) < ps.length := by omega
      have hql : qs.length = k := by
        have := congrArg List.length hqs
        rw [List.length_map, List.length_take, List.length_map] at this
        omega
      have htk : (ps.map Prod.snd).take (k + 1) = (ps.map Prod.snd).take k ++ [ps[k].2] := by rw [take_snoc' _ k (by simpa using hlt), List.getElem_map]
      have HQS := hide hqs
      have HTK := hide htk
      have holt : ∀ q ∈ qs, ∃ g, q.1 = .pointer (some ⟨g, 0, none⟩) ∧ g < wr.heap.size := fun q hq => by
        obtain ⟨g, e, _, h⟩ := hrs.lt q hq
        exact ⟨g, e, h⟩
      have HOLT := hide holt
      have hos : ∀ g, sv.ownBlock = some g → g < wr.heap.size := fun g hg => (hov.lt_ g hg).2
      clear hC hqs htk hpe x1 holt
      obtain ⟨A6, n6, c6, rfl⟩ : ∃ A6 n6 c6, sv = .slice A6 n6 c6 := by
        obtain ⟨A, c, e, _⟩ := hov.slc.open_
        exact ⟨A, _, c, e⟩
      go_upto_region 7 with fail
      have s0 := bn.cell 0
      simp only [List.getElem?_toArray, List.getElem?_cons_succ, List.getElem?_cons_zero] at s0
      refine wp_region_late (S := fun w' => w'.cell? ⟨w.heap.size, 0, none⟩ = some (.slice A6 n6 c6)) [11] (by kernel_rfl) (by exact s0) (fun hHeld => ?_)
      refine wpAnyT_take (i := 0) (oi := ?_) (v := ?_) ?_ (by kernel_rfl) (by kernel_rfl) (by kernel_rfl) (by kernel_rfl) (by kernel_rfl) ?_ (Or.inl ⟨?_, ?_⟩) (by assumption) ?_
      rotate_left 2
      · (simp only [List.getElem?_toArray, List.getElem?_cons_succ, List.getElem?_cons_zero]; rfl)
      rotate_left 1
      · rfl
      · (intro w hSw; (try dsimp only at hSw); go_simp; try with_reducible rfl)
      rotate_left 1
      · exact fun _ _ _ h => h
      try simp only [Act.put, List.setIfInBounds_toArray, List.set_cons_zero, List.set_cons_succ]
      refine wpAnyT_take (i := 1) (oi := ?_) (v := ?_) ?_ (by kernel_rfl) (by kernel_rfl) (by kernel_rfl) (by kernel_rfl) (by kernel_rfl) ?_ (Or.inl ⟨?_, ?_⟩) (by assumption) ?_
      rotate_left 2
      · (simp only [List.getElem?_toArray, List.getElem?_cons_succ, List.getElem?_cons_zero]; rfl)
      rotate_left 1
      · rfl
      · (intro w hSw; (try dsimp only at hSw); go_simp; try with_reducible rfl)
      rotate_left 1
      · exact fun _ _ _ h => h
      try simp only [Act.put, List.setIfInBounds_toArray, List.set_cons_zero, List.set_cons_succ]
      refine wpAnyT_take (i := 2) (oi := ?_) (v := ?_) ?_ (by kernel_rfl) (by kernel_rfl) (by kernel_rfl) (by kernel_rfl) (by kernel_rfl) ?_ (Or.inl ⟨?_, ?_⟩) (by assumption) ?_
      rotate_left 2
      · (simp only [List.getElem?_toArray, List.getElem?_cons_succ, List.getElem?_cons_zero]; rfl)
      rotate_left 1
      · rfl
      · (intro w hSw; (try dsimp only at hSw); go_simp; try with_reducible rfl)
      rotate_left 1
      · exact fun _ _ _ h => h
      try simp only [Act.put, List.setIfInBounds_toArray, List.set_cons_zero, List.set_cons_succ]
      refine wpAnyT_take (i := 3) (oi := ?_) (v := ?_) ?_ (by kernel_rfl) (by kernel_rfl) (by kernel_rfl) (by kernel_rfl) (by kernel_rfl) ?_ (Or.inl ⟨?_, ?_⟩) (by assumption) ?_
      rotate_left 2
      · (simp only [List.getElem?_toArray, List.getElem?_cons_succ, List.getElem?_cons_zero]; rfl)
      rotate_left 1
      · rfl
      · (intro w hSw; (try dsimp only at hSw); go_simp; try with_reducible rfl)
      rotate_left 1
      · exact fun _ _ _ h => h
      try simp only [Act.put, List.setIfInBounds_toArray, List.set_cons_zero, List.set_cons_succ]
      refine wpAnyT_take (i := 4) (oi := ?_) (v := ?_) ?_ (by kernel_rfl) (by kernel_rfl) (by kernel_rfl) (by kernel_rfl) (by kernel_rfl) ?_ (Or.inl ⟨?_, ?_⟩) (by assumption) ?_
      rotate_left 2
      · (simp only [List.getElem?_toArray, List.getElem?_cons_succ, List.getElem?_cons_zero]; rfl)
      rotate_left 1
      · rfl
      · (intro w hSw; (try dsimp only at hSw); go_simp; try with_reducible rfl)
      rotate_left 1
      · exact fun _ _ _ h => h
      try simp only [Act.put, List.setIfInBounds_toArray, List.set_cons_zero, List.set_cons_succ]
      refine wpAnyT_take (i := 5) (oi := ?_) (v := ?_) ?_ (by kernel_rfl) (by kernel_rfl) (by kernel_rfl) (by kernel_rfl) (by kernel_rfl) ?_ (Or.inl ⟨?_, ?_⟩) (by assumption) ?_
      rotate_left 2
      · (simp only [List.getElem?_toArray, List.getElem?_cons_succ, List.getElem?_cons_zero]; rfl)
      rotate_left 1
      · rfl
      · (intro w hSw; (try dsimp only at hSw); go_simp; try with_reducible rfl)
      rotate_left 1
      · exact fun _ _ _ h => h
      try simp only [Act.put, List.setIfInBounds_toArray, List.set_cons_zero, List.set_cons_succ]
      refine wpAnyT_ready (rs := [6]) (by kernel_rfl) (by simp) ?_
      refine AllReadyT.cons (o := ?_) ?_ (fun K hK => ?_) AllReadyT.nil
      rotate_left 1
      · (simp only [List.getElem?_toArray, List.getElem?_cons_succ, List.getElem?_cons_zero]; rfl)
      go_simp
      go_at_call 44; refine (HCK.out _ (below_drw hbr)).mono ?_; rintro e w5 ⟨v5, rfl, hv5, hc5⟩; have hb5 := (below_drw hbr).trans (hc5.mono hzr); have hz5 := hb5.size; have bn5 := (show Blk wr.drew _ _ _ from bn).same hc5; have hov5 := (own_dr hov).below hc5; have hrs5 := (hrs.step (b2 := 0) ((Step.refl 0 [] wr).drew) (by simp) (by simp) (by simp)).below hc5; have s0 := bn5.cell 0; simp only [List.getElem?_toArray, List.getElem?_cons_succ, List.getElem?_cons_zero] at s0; obtain ⟨gv, hv5e, hgv, _⟩ := hv5.lt; subst hv5e; have hrs6 := hrs5.snoc hv5 hzr HOLT.out; clear hrs5 hov bn
      refine hK.out _ _ ?_ (fun hHeld => ?_)
      · ((try dsimp only); go_keep)
      clear hK K
      try simp only [Act.put, List.setIfInBounds_toArray, List.set_cons_zero, List.set_cons_succ]
      refine wpAnyT_ready (rs := [7]) (by kernel_rfl) (by simp) ?_
      refine AllReadyT.cons (o := ?_) ?_ (fun K hK => ?_) AllReadyT.nil
      rotate_left 1
      · (simp only [List.getElem?_toArray, List.getElem?_cons_succ, List.getElem?_cons_zero]; rfl)
      go_simp
      have bn6 := bn5.alloc (.cells #[.pointer (some ⟨gv, 0, none⟩)] 33); have hov6 := hov5.alloc (.cells #[.pointer (some ⟨gv, 0, none⟩)] 33); have hrs7 := hrs6.below ((Below.refl _ w5).alloc (Nat.le_refl _) (.cells #[.pointer (some ⟨gv, 0, none⟩)] 33)); have hb6 := hb5.alloc hz5 (.cells #[.pointer (some ⟨gv, 0, none⟩)] 33); have hone := Slc.lit1 (R := RVal) (Si := fun _ => False) (Si' := fun _ => False) (w := w5) (x := (.pointer (some ⟨gv, 0, none⟩) : Value)) (u := [.pointer (some ⟨gv, 0, none⟩)]) 33 ⟨rfl, rfl⟩ (fun _ _ h => h.elim); have s0 := bn6.cell 0; simp only [List.getElem?_toArray, List.getElem?_cons_succ, List.getElem?_cons_zero] at s0; clear bn5 hov5 hrs6
      refine hK.out _ _ ?_ (fun hHeld => ?_)
      · ((try dsimp only); go_keep)
      clear hK K
      try simp only [Act.put, List.setIfInBounds_toArray, List.set_cons_zero, List.set_cons_succ]
      refine wpAnyT_ready (rs := [8]) (by kernel_rfl) (by simp) ?_
      refine AllReadyT.cons (o := ?_) ?_ (fun K hK => ?_) AllReadyT.nil
      rotate_left 1
      · (simp only [List.getElem?_toArray, List.getElem?_cons_succ, List.getElem?_cons_zero]; rfl)
      refine step_appg rfl (.tmp 23) (.tmp 26) 76 rfl RVal 33 [] w.heap.size 8 _ Tryd.underlying76 rowp_info rfl (by decide) (by decide) _ _ rfl hov6 _ (fun _ => False) _ _ rfl hone (fun _ h => False.elim h) (by simp; omega) hb6.size ?_; intro v7 w7 hv7 hst7 hg7 ho7; obtain ⟨A7, n7, c7, rfl⟩ : ∃ A7 n7 c7, v7 = .slice A7 n7 c7 := (by obtain ⟨A, c, e, _⟩ := hv7.slc.open_; exact ⟨A, _, c, e⟩); have hb7 := hb6.trans (hst7.below hb6.size); have bn7 := bn6.step hst7 (by decide); have hrs8 := hrs7.step hst7 (by decide) (by decide) (by decide); have f0 := bn7.frozen 0; have s0 := bn7.cell 0; simp only [List.getElem?_toArray, List.getElem?_cons_succ, List.getElem?_cons_zero] at s0; have hst9 : Step w.heap.size [78] w7 (w7.setCell ⟨w.heap.size, 0, none⟩ (.slice A7 n7 c7)) := (Step.refl w.heap.size [78] w7).setCell (p := ⟨w.heap.size, 0, none⟩) (Nat.le_refl _) bn7.bears (.slice A7 n7 c7); have hb9 := hide (hb7.trans (hst9.below hb7.size)); have bn9 := hide (show Blk (w7.setCell ⟨w.heap.size, 0, none⟩ (.slice A7 n7 c7)) w.heap.size 78 #[.slice A7 n7 c7] from bn7.set_ 0 (.slice A7 n7 c7)); have hov9 := hide (show Own RVal 33 [] w.heap.size (w7.setCell ⟨w.heap.size, 0, none⟩ (.slice A7 n7 c7)) (.slice A7 n7 c7) ((qs ++ [((.pointer (some ⟨gv, 0, none⟩) : Value), ps[k].2)]).map Prod.fst) from (by rw [List.map_append]; exact hv7.flat_step RVal.flat hst9 (by decide))); have hrs9 := hide (hrs8.step hst9 (by decide) (by decide) (by decide)); clear hv7 hst7 hg7 ho7 hrs7 hrs8 bn6 hov6 hst9 hone hb6
      refine hK.out _ _ ?_ (fun hHeld => ?_)
      · ((try dsimp only); go_keep)
      clear hK K
      try simp only [Act.put, List.setIfInBounds_toArray, List.set_cons_zero, List.set_cons_succ]
      refine wpAnyT_take (i := 9) (oi := ?_) (v := ?_) ?_ (by kernel_rfl) (by kernel_rfl) (by kernel_rfl) (by kernel_rfl) (by kernel_rfl) ?_ (Or.inl ⟨?_, ?_⟩) (by assumption) ?_
      rotate_left 2
      · (simp only [List.getElem?_toArray, List.getElem?_cons_succ, List.getElem?_cons_zero]; rfl)
      rotate_left 1
      · rfl
      · (intro w hSw; (try dsimp only at hSw); go_simp; try with_reducible rfl)
      rotate_left 1
      · exact fun _ _ _ h => h
      try simp only [Act.put, List.setIfInBounds_toArray, List.set_cons_zero, List.set_cons_succ]
      refine wpAnyT_take (i := 10) (oi := ?_) (v := ?_) ?_ (by kernel_rfl) (by kernel_rfl) (by kernel_rfl) (by kernel_rfl) (by kernel_rfl) ?_ (Or.inl ⟨?_, ?_⟩) (by assumption) ?_
      rotate_left 2
      · (simp only [List.getElem?_toArray, List.getElem?_cons_succ, List.getElem?_cons_zero]; rfl)
      rotate_left 1
      · rfl
      · (intro w hSw; (try dsimp only at hSw); go_simp; try with_reducible rfl)
      rotate_left 1
      · exact fun _ _ _ h => h
      try simp only [Act.put, List.setIfInBounds_toArray, List.set_cons_zero, List.set_cons_succ]
      refine wpAnyT_ready (rs := [11]) (by kernel_rfl) (by simp) ?_
      refine AllReadyT.consL (o := ?_) ?_ (by kernel_rfl) (fun K hK => ?_) AllReadyT.nil
      rotate_left 1
      · (simp only [List.getElem?_toArray, List.getElem?_cons_succ, List.getElem?_cons_zero]; rfl)
      go_simp
      refine hK.out _ _ ?_
      clear hK K
      try simp only [Act.put, List.setIfInBounds_toArray, List.set_cons_zero, List.set_cons_succ]
      refine wpAnyT_done (by kernel_rfl) ?_ _
      clear s0
      go_wp2
      go_roundw
      case rel => exact ⟨k + 1, by omega, by go_num, _, qs ++ [((.pointer (some ⟨gv, 0, none⟩) : Value), ps[k].2)], by rw [List.map_append, HQS.out, HTK.out]; rfl, bn9.out, hov9.out, hrs9.out, hb9.out⟩
      case measure => simp [intOf]; omega
    · obtain rfl : k = ps.length := by omega
      rw [List.take_of_length_le (by simp)] at hqs
      have HQS := hide hqs
      clear hqs
      go_wp2
      go_ret
      exact ⟨_, qs, rfl, ⟨w.heap.size, _, rfl, Nat.le_refl _, bn, hov, hrs⟩, HQS.out, hbr⟩
theorem GCopy_nil (w : World) : Calls Tryd.prog 13 #[.pointer none] w fun e w' => e = .returned (.pointer none) ∧ w = w' := by
  go_enter Tryd.func13, Tryd.ntmps13
  go_wp2
  go_ret
  exact ⟨rfl, rfl⟩
end Go.Proofs.YtbkenfljknpjgaaDoor
