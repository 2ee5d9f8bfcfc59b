/-
  Package region's Box: what it returns: row by row, a stretch without the blanks at its end.
-/
import Derived.Test.YtejhaepgbfngcaaDoorReg5
import Derived.Test.YtejhaepgbfngcaaDoorMem4
import Derived.RegionTactic
import Derived.Deep.CutRange
import Derived.BigQuiet
namespace Go.Proofs.YtejhaepgbfngcaaDoor
open Go.RowKit
set_option linter.unusedVariables false
set_option linter.unusedSimpArgs false

def rowX (l : List CellV) (f t : Nat) : List Int := readF ((stretchF l f t).take (usedF (stretchF l f t)))
def boxT (ls : List LineV) (f t tp n : Nat) : List (List Int) := (List.range' tp (n - tp)).map fun i => rowX (lnR ls i).1 f t
theorem boxT_snoc (ls : List LineV) (f t tp n : Nat) (h : tp ≤ n) : boxT ls f t tp (n + 1) = boxT ls f t tp n ++ [rowX (lnR ls n).1 f t] := by
  unfold boxT
  rw [show n + 1 - tp = (n - tp) + 1 by omega, List.range'_concat, List.map_append]
  simp
  rw [show tp + (n - tp) = n by omega]
theorem boxT_zero (ls : List LineV) (f t tp : Nat) : boxT ls f t tp tp = [] := by unfold boxT; rw [Nat.sub_self]; rfl
theorem boxT_len (ls : List LineV) (f t tp n : Nat) : (boxT ls f t tp n).length = n - tp := by unfold boxT; rw [List.length_map, List.length_range']
def boxF (v : ViewV) (a0 a1 b0 b1 : Int) : List (List Int) :=
  if rightV v = false then [] else boxT v.lines (min (heldF a1 v.wide).toNat (heldF b1 v.wide).toNat) (max (heldF a1 v.wide).toNat (heldF b1 v.wide).toNat) (min (heldF a0 v.high).toNat (heldF b0 v.high).toNat) (max (heldF a0 v.high).toNat (heldF b0 v.high).toNat + 1)
/-- The places that are held. -/
structure Hel4 (wd hi a0 a1 b0 b1 : Int) (x0 x1 y0 y1 : Nat) : Prop where
  r0 : (x0 : Int) < hi
  r1 : (y0 : Int) < hi
  c0 : (x1 : Int) < wd
  c1 : (y1 : Int) < wd
  e0 : heldF a0 hi = x0
  e1 : heldF a1 wd = x1
  e2 : heldF b0 hi = y0
  e3 : heldF b1 wd = y1
theorem hel4 {wd hi : Int} {ls : List LineV} (h : RgtV wd hi ls) (a0 a1 b0 b1 : Int) : ∃ x0 x1 y0 y1, Hel4 wd hi a0 a1 b0 b1 x0 x1 y0 y1 := by
  have b1' : ∀ a m : Int, 1 ≤ m → 0 ≤ heldF a m ∧ heldF a m < m := fun a m hm => by unfold heldF; omega
  have e0 := b1' a0 hi h.h1
  have e1 := b1' a1 wd h.w1
  have e2 := b1' b0 hi h.h1
  have e3 := b1' b1 wd h.w1
  exact ⟨(heldF a0 hi).toNat, (heldF a1 wd).toNat, (heldF b0 hi).toNat, (heldF b1 wd).toNat, by omega, by omega, by omega, by omega, by omega, by omega, by omega, by omega⟩
theorem box4 {wd hi : Int} {ls : List LineV} (h : RgtV wd hi ls) (a0 a1 b0 b1 r c : Int) (p au : Bool) (hr : rightV ⟨wd, hi, ls, r, c, p, au⟩ = true) : ∃ x0 x1 y0 y1, Hel4 wd hi a0 a1 b0 b1 x0 x1 y0 y1 ∧ boxF ⟨wd, hi, ls, r, c, p, au⟩ a0 a1 b0 b1 = boxT ls (min x1 y1) (max x1 y1) (min x0 y0) (max x0 y0 + 1) := by
  obtain ⟨x0, x1, y0, y1, hh⟩ := hel4 h a0 a1 b0 b1
  refine ⟨x0, x1, y0, y1, hh, ?_⟩
  unfold boxF
  rw [if_neg (by rw [hr]; decide)]
  simp only
  rw [hh.e0, hh.e1, hh.e2, hh.e3]
  rfl
theorem rrow_info : (Tryd.prog.info? 22).map (fun i => (i.zero, i.size, i.bytes)) = some (some (.slice none 0 0), RRow.sz, 24) := by kernel_rfl

set_option maxRecDepth 4096 in
set_option maxHeartbeats 4000000 in
theorem Box_ok (b : Nat → Addr) (So : Nat → Prop) (x : Value) (wd hi r c : Int) (p au : Bool) (ls : List LineV) (a0 a1 b0 b1 : Int) (w : World) (hV : VarsA b w) (hx : Slc RLine So (fun b => b < w.heap.size) w x ls) (hlen : ∀ l ∈ ls, l.1.length ≤ 1000000) (hll : ls.length ≤ 1000000) :
    Calls Tryd.prog 29 #[.agg #[.int .i64 wd, .int .i64 hi, x, .int .i64 r, .int .i64 c, .bool p, .bool au], .agg #[.int .i64 a0, .int .i64 a1], .agg #[.int .i64 b0, .int .i64 b1]] w fun e w' => ∃ s, e = .returned s ∧ Own RRow 22 [21] w.heap.size w' s (boxF ⟨wd, hi, ls, r, c, p, au⟩ a0 a1 b0 b1) ∧ Below w.heap.size w w' := by
  obtain ⟨A, cp, rfl, _, _, _⟩ := hx.open_
  obtain ⟨W0, hW0⟩ : ∃ W0, W0 = ((w.alloc (.cells #[.int .i64 wd, .int .i64 hi, .slice A ls.length cp, .int .i64 r, .int .i64 c, .bool p, .bool au] 40)).alloc (.cells #[.int .i64 a0, .int .i64 a1] 57)).alloc (.cells #[.int .i64 b0, .int .i64 b1] 57) := ⟨_, rfl⟩
  have hb0 : Below w.heap.size w W0 := by rw [hW0]; exact (((Below.refl _ w).alloc (Nat.le_refl _) _).alloc (by simp) _).alloc (by simp; omega) _
  have hz0 := hb0.size
  have hSo := ASound_ok b So _ wd hi r c p au ls W0 (hV.below hb0) ((hx.mono (Keep.below (S := So) hb0) (Keep.below (S := fun b => b < w.heap.size) hb0)).mono (Keep.refl _ _) (Keep.weaken fun b hb => by omega)) hlen hll
  have bv : Blk W0 w.heap.size 40 #[.int .i64 wd, .int .i64 hi, .slice A ls.length cp, .int .i64 r, .int .i64 c, .bool p, .bool au] := by rw [hW0]; exact ((Blk.new w 40 #[.int .i64 wd, .int .i64 hi, .slice A ls.length cp, .int .i64 r, .int .i64 c, .bool p, .bool au]).alloc _).alloc _
  have bp : Blk W0 (w.heap.size + 1) 57 #[.int .i64 a0, .int .i64 a1] := by
    rw [hW0]
    have := (Blk.new (w.alloc (.cells #[.int .i64 wd, .int .i64 hi, .slice A ls.length cp, .int .i64 r, .int .i64 c, .bool p, .bool au] 40)) 57 #[.int .i64 a0, .int .i64 a1]).alloc (.cells #[.int .i64 b0, .int .i64 b1] 57)
    simpa using this
  have bs : Blk W0 (w.heap.size + 1 + 1) 57 #[.int .i64 b0, .int .i64 b1] := by
    rw [hW0]
    have := Blk.new ((w.alloc (.cells #[.int .i64 wd, .int .i64 hi, .slice A ls.length cp, .int .i64 r, .int .i64 c, .bool p, .bool au] 40)).alloc (.cells #[.int .i64 a0, .int .i64 a1] 57)) 57 #[.int .i64 b0, .int .i64 b1]
    simpa using this
  have HSO := hide hSo
  have HX := hide hx
  have HT := hide (fun W hW => by
    have := hx.mono (Keep.below (S := So) (w' := W) hW) (Keep.below (S := fun b => b < w.heap.size) hW)
    exact this)
  clear hSo
  cases hr : rightV ⟨wd, hi, ls, r, c, p, au⟩ with
  | false =>
    have htf : boxF ⟨wd, hi, ls, r, c, p, au⟩ a0 a1 b0 b1 = [] := by unfold boxF; rw [if_pos hr]
    rw [htf]
    rw [hr] at HSO
    subst hW0
    clear hr htf
    go_enter Tryd.func29, Tryd.ntmps29
    skip
    skip
    have y0 := bv.cell 0
    have y1 := bv.cell 1
    have y2 := bv.cell 2
    have y3 := bv.cell 3
    have y4 := bv.cell 4
    have y5 := bv.cell 5
    have y6 := bv.cell 6
    simp only [List.getElem?_toArray, List.getElem?_cons_succ, List.getElem?_cons_zero] at y0 y1 y2 y3 y4 y5 y6
    go_wp2_with fail
    refine HSO.out.mono ?_
    rintro e w1 ⟨rfl, hc1⟩
    have hb := hb0.trans (hc1.mono hz0)
    go_wp2
    go_ret
    exact ⟨_, rfl, Own.nil_ _ _ _ _ _ (by decide), hb⟩
  | true =>
    have hR := RgtV.of hr
    obtain ⟨x0, x1, y0', y1', hO, htf⟩ := box4 hR a0 a1 b0 b1 r c p au hr
    rw [htf]
    obtain ⟨tp, htp⟩ : ∃ tp : Nat, (tp : Int) = min (x0 : Int) (y0' : Int) := ⟨min x0 y0', by omega⟩
    obtain ⟨en, hen⟩ : ∃ en : Nat, (en : Int) = max (x0 : Int) (y0' : Int) := ⟨max x0 y0', by omega⟩
    obtain ⟨fr, hfr⟩ : ∃ fr : Nat, (fr : Int) = min (x1 : Int) (y1' : Int) := ⟨min x1 y1', by omega⟩
    obtain ⟨te, hte⟩ : ∃ te : Nat, (te : Int) = max (x1 : Int) (y1' : Int) := ⟨max x1 y1', by omega⟩
    rw [show min x0 y0' = tp by omega, show max x0 y0' = en by omega, show min x1 y1' = fr by omega, show max x1 y1' = te by omega]
    have HM := hide (⟨htp.symm, hen.symm, hfr.symm, hte.symm⟩ : min (x0 : Int) (y0' : Int) = tp ∧ max (x0 : Int) (y0' : Int) = en ∧ min (x1 : Int) (y1' : Int) = fr ∧ max (x1 : Int) (y1' : Int) = te)
    clear htp hen hfr hte
    rw [hr] at HSO
    have h1 := hR.w1
    have h2 := hR.w2
    have h3 := hR.h1
    have h4 := hR.h2
    have hHA := fun (w : World) => held_ok (.slice A ls.length cp) wd hi r c p au a0 a1 w h1 h2 h3 h4
    have hHB := fun (w : World) => held_ok (.slice A ls.length cp) wd hi r c p au b0 b1 w h1 h2 h3 h4
    rw [hO.e0, hO.e1] at hHA
    rw [hO.e2, hO.e3] at hHB
    have HHA := hide hHA
    have HHB := hide hHB
    have HR := hide hR
    have HOR := hide hO
    subst hW0
    clear hr htf hHA hHB hO hR
    go_enter Tryd.func29, Tryd.ntmps29
    skip
    skip
    have y0 := bv.cell 0
    have y1 := bv.cell 1
    have y2 := bv.cell 2
    have y3 := bv.cell 3
    have y4 := bv.cell 4
    have y5 := bv.cell 5
    have y6 := bv.cell 6
    simp only [List.getElem?_toArray, List.getElem?_cons_succ, List.getElem?_cons_zero] at y0 y1 y2 y3 y4 y5 y6
    go_wp2_with fail
    refine HSO.out.mono ?_
    rintro e w1 ⟨rfl, hc1⟩
    have hb := below_dr (hb0.trans (hc1.mono hz0))
    have cv : Blk w1.drew w.heap.size 40 #[.int .i64 wd, .int .i64 hi, .slice A ls.length cp, .int .i64 r, .int .i64 c, .bool p, .bool au] := by have := bv.same hc1; exact this
    have cq : Blk w1.drew (w.heap.size + 1) 57 #[.int .i64 a0, .int .i64 a1] := by have := bp.same hc1; exact this
    have cs : Blk w1.drew (w.heap.size + 1 + 1) 57 #[.int .i64 b0, .int .i64 b1] := by have := bs.same hc1; exact this
    have hl0 : w.heap.size < w1.drew.heap.size := cv.lt
    have hl1 : w.heap.size + 1 < w1.drew.heap.size := cq.lt
    have hl2 : w.heap.size + 1 + 1 < w1.drew.heap.size := cs.lt
    have y0 := cv.cell 0
    have y1 := cv.cell 1
    have y2 := cv.cell 2
    have y3 := cv.cell 3
    have y4 := cv.cell 4
    have y5 := cv.cell 5
    have y6 := cv.cell 6
    have p0 := cq.cell 0
    have p1 := cq.cell 1
    have s0 := cs.cell 0
    have s1 := cs.cell 1
    simp only [List.getElem?_toArray, List.getElem?_cons_succ, List.getElem?_cons_zero] at y0 y1 y2 y3 y4 y5 y6 p0 p1 s0 s1
    clear bv bp bs hc1
    go_upto_region 3 with fail
    refine wp_region_late (S := fun w' => w'.cell? ⟨w.heap.size, 0, none⟩ = some (.int .i64 wd) ∧ w'.cell? ⟨w.heap.size, 1, none⟩ = some (.int .i64 hi) ∧ w'.cell? ⟨w.heap.size, 2, none⟩ = some (.slice A ls.length cp) ∧ w'.cell? ⟨w.heap.size, 3, none⟩ = some (.int .i64 r) ∧ w'.cell? ⟨w.heap.size, 4, none⟩ = some (.int .i64 c) ∧ w'.cell? ⟨w.heap.size, 5, none⟩ = some (.bool p) ∧ w'.cell? ⟨w.heap.size, 6, none⟩ = some (.bool au) ∧ w'.cell? ⟨w.heap.size + 1, 0, none⟩ = some (.int .i64 a0) ∧ w'.cell? ⟨w.heap.size + 1, 1, none⟩ = some (.int .i64 a1) ∧ w'.cell? ⟨w.heap.size + 1 + 1, 0, none⟩ = some (.int .i64 b0) ∧ w'.cell? ⟨w.heap.size + 1 + 1, 1, none⟩ = some (.int .i64 b1)) [6, 7] (by kernel_rfl) (by refine ⟨y0, y1, y2, y3, y4, y5, y6, p0, p1, s0, s1⟩) (fun hHeld => ?_)
    refine wpAnyT_take (i := 0) (oi := ?_) (v := ?_) ?_ (by kernel_rfl) (by kernel_rfl) (by kernel_rfl) (by kernel_rfl) (by kernel_rfl) ?_ (Or.inl ⟨?_, ?_⟩) (by assumption) ?_
    rotate_left 2
    · (simp only [List.getElem?_toArray, List.getElem?_cons_succ, List.getElem?_cons_zero]; rfl)
    rotate_left 1
    · rfl
    · (intro w hSw; (try dsimp only at hSw); go_simp; try with_reducible rfl)
    rotate_left 1
    · exact fun _ _ _ h => h
    try simp only [Act.put, List.setIfInBounds_toArray, List.set_cons_zero, List.set_cons_succ]
    refine wpAnyT_take (i := 1) (oi := ?_) (v := ?_) ?_ (by kernel_rfl) (by kernel_rfl) (by kernel_rfl) (by kernel_rfl) (by kernel_rfl) ?_ (Or.inl ⟨?_, ?_⟩) (by assumption) ?_
    rotate_left 2
    · (simp only [List.getElem?_toArray, List.getElem?_cons_succ, List.getElem?_cons_zero]; rfl)
    rotate_left 1
    · rfl
    · (intro w hSw; (try dsimp only at hSw); go_simp; try with_reducible rfl)
    rotate_left 1
    · exact fun _ _ _ h => h
    try simp only [Act.put, List.setIfInBounds_toArray, List.set_cons_zero, List.set_cons_succ]
    refine wpAnyT_take (i := 3) (oi := ?_) (v := ?_) ?_ (by kernel_rfl) (by kernel_rfl) (by kernel_rfl) (by kernel_rfl) (by kernel_rfl) ?_ (Or.inl ⟨?_, ?_⟩) (by assumption) ?_
    rotate_left 2
    · (simp only [List.getElem?_toArray, List.getElem?_cons_succ, List.getElem?_cons_zero]; rfl)
    rotate_left 1
    · rfl
    · (intro w hSw; (try dsimp only at hSw); go_simp; try with_reducible rfl)
    rotate_left 1
    · exact fun _ _ _ h => h
    try simp only [Act.put, List.setIfInBounds_toArray, List.set_cons_zero, List.set_cons_succ]
    refine wpAnyT_take (i := 4) (oi := ?_) (v := ?_) ?_ (by kernel_rfl) (by kernel_rfl) (by kernel_rfl) (by kernel_rfl) (by kernel_rfl) ?_ (Or.inl ⟨?_, ?_⟩) (by assumption) ?_
    rotate_left 2
    · (simp only [List.getElem?_toArray, List.getElem?_cons_succ, List.getElem?_cons_zero]; rfl)
    rotate_left 1
    · rfl
    · (intro w hSw; (try dsimp only at hSw); go_simp; try with_reducible rfl)
    rotate_left 1
    · exact fun _ _ _ h => h
    try simp only [Act.put, List.setIfInBounds_toArray, List.set_cons_zero, List.set_cons_succ]
    refine wpAnyT_ready (rs := [2]) (by kernel_rfl) (by simp) ?_
    refine AllReadyT.cons (o := ?_) ?_ (fun K hK => ?_) AllReadyT.nil
    rotate_left 1
    · (simp only [List.getElem?_toArray, List.getElem?_cons_succ, List.getElem?_cons_zero]; rfl)
    go_simp
    go_at_call 54; refine (HHA.out _).mono ?_; rintro e w2 ⟨rfl, hc2⟩; have y0 := (hc2.cell (p := ⟨w.heap.size, 0, none⟩) hl0).trans y0; have y1 := (hc2.cell (p := ⟨w.heap.size, 1, none⟩) hl0).trans y1; have y2 := (hc2.cell (p := ⟨w.heap.size, 2, none⟩) hl0).trans y2; have y3 := (hc2.cell (p := ⟨w.heap.size, 3, none⟩) hl0).trans y3; have y4 := (hc2.cell (p := ⟨w.heap.size, 4, none⟩) hl0).trans y4; have y5 := (hc2.cell (p := ⟨w.heap.size, 5, none⟩) hl0).trans y5; have y6 := (hc2.cell (p := ⟨w.heap.size, 6, none⟩) hl0).trans y6; have p0 := (hc2.cell (p := ⟨w.heap.size + 1, 0, none⟩) hl1).trans p0; have p1 := (hc2.cell (p := ⟨w.heap.size + 1, 1, none⟩) hl1).trans p1; have s0 := (hc2.cell (p := ⟨w.heap.size + 1 + 1, 0, none⟩) hl2).trans s0; have s1 := (hc2.cell (p := ⟨w.heap.size + 1 + 1, 1, none⟩) hl2).trans s1; have cv := cv.same hc2; have cq := cq.same hc2; have cs := cs.same hc2; have hl0 := Nat.lt_of_lt_of_le hl0 hc2.size; have hl1 := Nat.lt_of_lt_of_le hl1 hc2.size; have hl2 := Nat.lt_of_lt_of_le hl2 hc2.size; have hb := hb.trans (hc2.mono hb.size)
    refine hK.out _ _ ?_ (fun hHeld => ?_)
    · ((try dsimp only); go_keep)
    clear hK K
    try simp only [Act.put, List.setIfInBounds_toArray, List.set_cons_zero, List.set_cons_succ]
    refine wpAnyT_ready (rs := [5]) (by kernel_rfl) (by simp) ?_
    refine AllReadyT.cons (o := ?_) ?_ (fun K hK => ?_) AllReadyT.nil
    rotate_left 1
    · (simp only [List.getElem?_toArray, List.getElem?_cons_succ, List.getElem?_cons_zero]; rfl)
    go_simp
    go_at_call 54; refine (HHB.out _).mono ?_; rintro e w3 ⟨rfl, hc3⟩; have y0 := (hc3.cell (p := ⟨w.heap.size, 0, none⟩) hl0).trans y0; have y1 := (hc3.cell (p := ⟨w.heap.size, 1, none⟩) hl0).trans y1; have y2 := (hc3.cell (p := ⟨w.heap.size, 2, none⟩) hl0).trans y2; have y3 := (hc3.cell (p := ⟨w.heap.size, 3, none⟩) hl0).trans y3; have y4 := (hc3.cell (p := ⟨w.heap.size, 4, none⟩) hl0).trans y4; have y5 := (hc3.cell (p := ⟨w.heap.size, 5, none⟩) hl0).trans y5; have y6 := (hc3.cell (p := ⟨w.heap.size, 6, none⟩) hl0).trans y6; have p0 := (hc3.cell (p := ⟨w.heap.size + 1, 0, none⟩) hl1).trans p0; have p1 := (hc3.cell (p := ⟨w.heap.size + 1, 1, none⟩) hl1).trans p1; have s0 := (hc3.cell (p := ⟨w.heap.size + 1 + 1, 0, none⟩) hl2).trans s0; have s1 := (hc3.cell (p := ⟨w.heap.size + 1 + 1, 1, none⟩) hl2).trans s1; have cv := cv.same hc3; have cq := cq.same hc3; have cs := cs.same hc3; have hl0 := Nat.lt_of_lt_of_le hl0 hc3.size; have hl1 := Nat.lt_of_lt_of_le hl1 hc3.size; have hl2 := Nat.lt_of_lt_of_le hl2 hc3.size; have hb := hb.trans (hc3.mono hb.size); have f0 := cq.frozen 0; have f1 := cq.frozen 1; have f2 := cs.frozen 0; have f3 := cs.frozen 1
    refine hK.out _ _ ?_ (fun hHeld => ?_)
    · ((try dsimp only); go_keep)
    clear hK K
    try simp only [Act.put, List.setIfInBounds_toArray, List.set_cons_zero, List.set_cons_succ]
    refine wpAnyT_ready (rs := [6]) (by kernel_rfl) (by simp) ?_
    refine AllReadyT.consL (o := ?_) ?_ (by kernel_rfl) (fun K hK => ?_) AllReadyT.nil
    rotate_left 1
    · (simp only [List.getElem?_toArray, List.getElem?_cons_succ, List.getElem?_cons_zero]; rfl)
    go_simp
    refine hK.out _ _ ?_
    clear hK K
    try simp only [Act.put, List.setIfInBounds_toArray, List.set_cons_zero, List.set_cons_succ]
    refine wpAnyT_ready (rs := [7]) (by kernel_rfl) (by simp) ?_
    refine AllReadyT.consL (o := ?_) ?_ (by kernel_rfl) (fun K hK => ?_) AllReadyT.nil
    rotate_left 1
    · (simp only [List.getElem?_toArray, List.getElem?_cons_succ, List.getElem?_cons_zero]; rfl)
    go_simp
    refine hK.out _ _ ?_
    clear hK K
    try simp only [Act.put, List.setIfInBounds_toArray, List.set_cons_zero, List.set_cons_succ]
    refine wpAnyT_done (by kernel_rfl) ?_ _
    have dv : Blk ((((w3.setCell ⟨w.heap.size + 1, 0, none⟩ (.int .i64 x0)).setCell ⟨w.heap.size + 1, 1, none⟩ (.int .i64 x1)).setCell ⟨w.heap.size + 1 + 1, 0, none⟩ (.int .i64 y0')).setCell ⟨w.heap.size + 1 + 1, 1, none⟩ (.int .i64 y1')) w.heap.size 40 #[.int .i64 wd, .int .i64 hi, .slice A ls.length cp, .int .i64 r, .int .i64 c, .bool p, .bool au] := ((((cv.far (p := ⟨w.heap.size + 1, 0, none⟩) (by simp <;> omega) (.int .i64 x0)).far (p := ⟨w.heap.size + 1, 1, none⟩) (by simp <;> omega) (.int .i64 x1)).far (p := ⟨w.heap.size + 1 + 1, 0, none⟩) (by simp <;> omega) (.int .i64 y0')).far (p := ⟨w.heap.size + 1 + 1, 1, none⟩) (by simp <;> omega) (.int .i64 y1'))
    have dq : Blk ((((w3.setCell ⟨w.heap.size + 1, 0, none⟩ (.int .i64 x0)).setCell ⟨w.heap.size + 1, 1, none⟩ (.int .i64 x1)).setCell ⟨w.heap.size + 1 + 1, 0, none⟩ (.int .i64 y0')).setCell ⟨w.heap.size + 1 + 1, 1, none⟩ (.int .i64 y1')) (w.heap.size + 1) 57 #[.int .i64 x0, .int .i64 x1] := ((((cq.set_ 0 (.int .i64 x0)).set_ 1 (.int .i64 x1)).far (p := ⟨w.heap.size + 1 + 1, 0, none⟩) (by simp <;> omega) (.int .i64 y0')).far (p := ⟨w.heap.size + 1 + 1, 1, none⟩) (by simp <;> omega) (.int .i64 y1'))
    have ds : Blk ((((w3.setCell ⟨w.heap.size + 1, 0, none⟩ (.int .i64 x0)).setCell ⟨w.heap.size + 1, 1, none⟩ (.int .i64 x1)).setCell ⟨w.heap.size + 1 + 1, 0, none⟩ (.int .i64 y0')).setCell ⟨w.heap.size + 1 + 1, 1, none⟩ (.int .i64 y1')) (w.heap.size + 1 + 1) 57 #[.int .i64 y0', .int .i64 y1'] := ((((cs.far (p := ⟨w.heap.size + 1, 0, none⟩) (by simp <;> omega) (.int .i64 x0)).far (p := ⟨w.heap.size + 1, 1, none⟩) (by simp <;> omega) (.int .i64 x1)).set_ 0 (.int .i64 y0')).set_ 1 (.int .i64 y1'))
    have db : Below w.heap.size w ((((w3.setCell ⟨w.heap.size + 1, 0, none⟩ (.int .i64 x0)).setCell ⟨w.heap.size + 1, 1, none⟩ (.int .i64 x1)).setCell ⟨w.heap.size + 1 + 1, 0, none⟩ (.int .i64 y0')).setCell ⟨w.heap.size + 1 + 1, 1, none⟩ (.int .i64 y1')) := ((((hb.setCell (p := ⟨w.heap.size + 1, 0, none⟩) (by simp <;> omega) (.int .i64 x0)).setCell (p := ⟨w.heap.size + 1, 1, none⟩) (by simp <;> omega) (.int .i64 x1)).setCell (p := ⟨w.heap.size + 1 + 1, 0, none⟩) (by simp <;> omega) (.int .i64 y0')).setCell (p := ⟨w.heap.size + 1 + 1, 1, none⟩) (by simp <;> omega) (.int .i64 y1'))
    generalize (((w3.setCell ⟨w.heap.size + 1, 0, none⟩ (.int .i64 x0)).setCell ⟨w.heap.size + 1, 1, none⟩ (.int .i64 x1)).setCell ⟨w.heap.size + 1 + 1, 0, none⟩ (.int .i64 y0')).setCell ⟨w.heap.size + 1 + 1, 1, none⟩ (.int .i64 y1') = w5 at *
    clear hHeld y0 y1 y2 y3 y4 y5 y6 p0 p1 s0 s1 f0 f1 f2 f3 cv cq cs hb hl0 hl1 hl2 hc3
    have p0 := dq.cell 0
    have s0 := ds.cell 0
    simp only [List.getElem?_toArray, List.getElem?_cons_succ, List.getElem?_cons_zero] at p0 s0
    have HST := hide (fun (k : Nat) (f t : Nat) (W : World) (A2 : Option Addr) (c2 : Nat) (So Si : Nat → Prop) (hk : k < ls.length) (hv : Slc RCell So Si W (.slice A2 ls[k].1.length c2) ls[k].1) (h1 : f ≤ t) (h2 : t < ls[k].1.length) => by
      have hs := sound_kinds (HR.out.line ls[k] (List.getElem_mem _)).2
      exact stretch_ok So Si _ ls[k].1 f t W hv h1 h2 (fun h3 => (hs.2 f (by omega) h3).2) (fun h3 => (hs.1 t h2 h3).2))
    have hel : en < ls.length := by have h1 := HOR.out.r1; have h3 := HOR.out.r0; have h2 := HR.out.hl; have h4 := HM.out.2.1; omega
    have hll2 : ls.length ≤ 1024 := by have h1 := HR.out.h2; have h2 := HR.out.hl; omega
    have htl : tp ≤ en := by have h4 := HM.out; omega
    go_upto_region 5 with fail
    go_cut [8] from 18 to 22 (fun s wx => s = .int .i64 tp ∧ w5 = wx)
    case first =>
      have HM2 := hide HM.out.1
      rcases Int.lt_trichotomy (x0 : Int) y0' with h | h | h
      · have e := HM2.out
        rw [Int.min_eq_left (by omega)] at e
        have HE := hide e
        clear e HM2
        have h' : ¬ y0' < x0 := by omega
        go_wp2
        go_meet
        exact ⟨by rw [HE.out], rfl⟩
      · have h : x0 = y0' := by omega
        subst h
        have e := HM2.out
        rw [Int.min_eq_left (by omega)] at e
        have HE := hide e
        clear e HM2
        go_wp2
        go_meet
        exact ⟨by rw [HE.out], rfl⟩
      · have e := HM2.out
        rw [Int.min_eq_right (by omega)] at e
        have HE := hide e
        clear e HM2
        go_wp2
        go_meet
        exact ⟨by rw [HE.out], rfl⟩
    case rest =>
    obtain ⟨rfl, rfl⟩ := hcut
    clear p0 s0
    go_wp2
    go_loopw [7, 8] (fun out i wr => ∃ n : Nat, tp ≤ n ∧ n ≤ en + 1 ∧ i = .int .i64 n ∧ Own RRow 22 [21] w.heap.size wr out (boxT ls fr te tp n) ∧ Blk wr w.heap.size 40 #[.int .i64 wd, .int .i64 hi, .slice A ls.length cp, .int .i64 r, .int .i64 c, .bool p, .bool au] ∧ Blk wr (w.heap.size + 1) 57 #[.int .i64 x0, .int .i64 x1] ∧ Blk wr (w.heap.size + 1 + 1) 57 #[.int .i64 y0', .int .i64 y1'] ∧ Below w.heap.size w wr) (fun _ i _ => en + 1 - (intOf i).toNat)
    case atStart => exact ⟨tp, Nat.le_refl _, by omega, rfl, by rw [boxT_zero]; exact Own.nil_ _ _ _ _ _ (by decide), dv, dq, ds, db⟩
    case round =>
      obtain ⟨n, hn1, hn2, rfl, hout, cv, cq, cs, hb⟩ := hrel
      have hz := hb.size
      have v0 := cv.cell 0
      have v1 := cv.cell 1
      have v2 := cv.cell 2
      have v3 := cv.cell 3
      have v4 := cv.cell 4
      have v5 := cv.cell 5
      have v6 := cv.cell 6
      have p0 := cq.cell 0
      have p1 := cq.cell 1
      have s0 := cs.cell 0
      have s1 := cs.cell 1
      simp only [List.getElem?_toArray, List.getElem?_cons_succ, List.getElem?_cons_zero] at v0 v1 v2 v3 v4 v5 v6 p0 p1 s0 s1
      obtain ⟨gd, hgd⟩ : ∃ gd, gd = decide (n ≤ en) := ⟨_, rfl⟩
      have HGD := hide hgd
      clear hgd
      go_upto_region 6 with fail
      go_cut [29] from 23 to 53 (fun s wx => s = .bool gd ∧ wr = wx)
      case first =>
        have HM2 := hide HM.out.2.1
        rcases Int.lt_trichotomy (x0 : Int) y0' with h | h | h
        · have e := HM2.out
          rw [Int.max_eq_right (by omega)] at e
          have HE : Hid (decide (n ≤ y0') = gd) := hide (by rw [HGD.out]; congr 1; simp; omega)
          clear e HM2
          have h' : ¬ y0' < x0 := by omega
          go_wp2
          go_meet
          exact ⟨by rw [← HE.out], rfl⟩
        · have h : x0 = y0' := by omega
          subst h
          have e := HM2.out
          rw [Int.max_eq_left (by omega)] at e
          have HE : Hid (decide (n ≤ x0) = gd) := hide (by rw [HGD.out]; congr 1; simp; omega)
          clear e HM2
          go_wp2
          go_meet
          exact ⟨by rw [← HE.out], rfl⟩
        · have e := HM2.out
          rw [Int.max_eq_left (by omega)] at e
          have HE : Hid (decide (n ≤ x0) = gd) := hide (by rw [HGD.out]; congr 1; simp; omega)
          clear e HM2
          go_wp2
          go_meet
          exact ⟨by rw [← HE.out], rfl⟩
      case rest =>
      obtain ⟨rfl, rfl⟩ := hcut
      cases gd with
      | false =>
        have hne : n = en + 1 := by
          have := HGD.out
          rw [eq_comm, decide_eq_false_iff_not] at this
          omega
        subst hne
        go_wp2
        go_ret
        exact ⟨_, rfl, hout, hb⟩
      | true =>
        have hne : n ≤ en := by
          have := HGD.out
          rw [eq_comm, decide_eq_true_eq] at this
          exact this
        have hnl : n < ls.length := by omega
        have hnj : (n : Int) < ls.length := by omega
        obtain ⟨ab, off, v9, rfl, _, z0, z1, hv⟩ := line_at HX.out.slb hnl
        obtain ⟨A2, c2, rfl, _, _, _⟩ := hv.open_
        have hab := World.block_lt_of_cell? w _ z0
        simp only at hab
        have q0 := (hb.cell (p := ⟨ab, off + n * 2, none⟩) hab).trans z0
        have hsn := boxT_snoc ls fr te tp n hn1
        rw [lnR_at ls hnl] at hsn
        have hrl := HR.out.line ls[n] (List.getElem_mem _)
        have hsh := sound_short hrl.2
        have hbl := boxT_len ls fr te tp n
        have hwl : ls[n].1.length ≤ 1024 := by have := HR.out.w2; omega
        have HFT : Hid (fr ≤ te ∧ te < ls[n].1.length) := hide (by have h1 := HM.out; have h2 := HOR.out.c0; have h3 := HOR.out.c1; omega)
        have HSL := hide (stretch_le ls[n].1 fr te)
        have HSS := hide (stretch_short hsh fr te)
        have HSN := hide hsn
        have HVV := hide hv
        clear hsn hrl hsh hv z1
        have hbd : Below w.heap.size w wr.drew := below_dr hb
        have houtd := hout.drewN 1
        change Own RRow _ _ _ wr.drew _ _ at houtd
        have dvd : Blk wr.drew w.heap.size 40 #[.int .i64 wd, .int .i64 hi, .slice (some ⟨ab, off, none⟩) ls.length cp, .int .i64 r, .int .i64 c, .bool p, .bool au] := by have := cv.drewN 1; exact this
        have dqd : Blk wr.drew (w.heap.size + 1) 57 #[.int .i64 x0, .int .i64 x1] := by have := cq.drewN 1; exact this
        have dsd : Blk wr.drew (w.heap.size + 1 + 1) 57 #[.int .i64 y0', .int .i64 y1'] := by have := cs.drewN 1; exact this
        have hzd : w.heap.size ≤ wr.drew.heap.size := hbd.size
        have hvd := HVV.out.mono (Keep.below (S := fun b => b < w.heap.size) hbd) (Keep.below (S := fun b => b < w.heap.size) hbd)
        have u2 : wr.drew.cell? ⟨w.heap.size, 2, none⟩ = some (.slice (some ⟨ab, off, none⟩) ls.length cp) := v2
        have u3 : wr.drew.cell? ⟨w.heap.size + 1, 1, none⟩ = some (.int .i64 x1) := p1
        have u4 : wr.drew.cell? ⟨w.heap.size + 1 + 1, 1, none⟩ = some (.int .i64 y1') := s1
        have u5 : wr.drew.cell? ⟨ab, off + n * 2, none⟩ = some (.slice A2 ls[n].1.length c2) := q0
        clear v0 v1 v2 v3 v4 v5 v6 p0 p1 s0 s1 q0 hout cv cq cs
        go_upto_region 8 with fail
        rcases Int.lt_trichotomy (x1 : Int) y1' with h | h | h
        · obtain rfl : fr = x1 := by have h1 := HM.out; omega
          obtain rfl : te = y1' := by have h1 := HM.out; omega
          have h' : ¬ (te : Int) < fr := by omega
          have h'' : ¬ te < fr := by omega
          have h3 : fr < te := by omega
          refine wp_region_held_drew (S := fun w' => w'.cell? ⟨w.heap.size, 2, none⟩ = some (.slice (some ⟨ab, off, none⟩) ls.length cp) ∧ w'.cell? ⟨w.heap.size + 1, 1, none⟩ = some (.int .i64 fr) ∧ w'.cell? ⟨w.heap.size + 1 + 1, 1, none⟩ = some (.int .i64 te) ∧ w'.cell? ⟨ab, off + n * 2, none⟩ = some (.slice A2 ls[n].1.length c2)) (by kernel_rfl) (by refine ⟨u2, u3, u4, u5⟩) (fun hHeld => ?_)
          refine wpAnyH_take (i := 0) (oi := ?_) (v := ?_) ?_ (by kernel_rfl) (by kernel_rfl) (by kernel_rfl) ?_ (Or.inl ⟨?_, ?_⟩) (by assumption) ?_
          rotate_left 2
          · (simp only [List.getElem?_toArray, List.getElem?_cons_succ, List.getElem?_cons_zero]; rfl)
          rotate_left 1
          · rfl
          · (intro w hSw; (try dsimp only at hSw); go_simp; try with_reducible rfl)
          rotate_left 1
          · exact fun _ _ _ h => h
          try simp only [Act.put, List.setIfInBounds_toArray, List.set_cons_zero, List.set_cons_succ]
          refine wpAnyH_take (i := 1) (oi := ?_) (v := ?_) ?_ (by kernel_rfl) (by kernel_rfl) (by kernel_rfl) ?_ (Or.inl ⟨?_, ?_⟩) (by assumption) ?_
          rotate_left 2
          · (simp only [List.getElem?_toArray, List.getElem?_cons_succ, List.getElem?_cons_zero]; rfl)
          rotate_left 1
          · rfl
          · (intro w hSw; (try dsimp only at hSw); go_simp; try with_reducible rfl)
          rotate_left 1
          · exact fun _ _ _ h => h
          try simp only [Act.put, List.setIfInBounds_toArray, List.set_cons_zero, List.set_cons_succ]
          refine wpAnyH_take (i := 2) (oi := ?_) (v := ?_) ?_ (by kernel_rfl) (by kernel_rfl) (by kernel_rfl) ?_ (Or.inl ⟨?_, ?_⟩) (by assumption) ?_
          rotate_left 2
          · (simp only [List.getElem?_toArray, List.getElem?_cons_succ, List.getElem?_cons_zero]; rfl)
          rotate_left 1
          · rfl
          · (intro w hSw; (try dsimp only at hSw); go_simp; try with_reducible rfl)
          rotate_left 1
          · exact fun _ _ _ h => h
          try simp only [Act.put, List.setIfInBounds_toArray, List.set_cons_zero, List.set_cons_succ]
          refine wpAnyH_take (i := 3) (oi := ?_) (v := ?_) ?_ (by kernel_rfl) (by kernel_rfl) (by kernel_rfl) ?_ (Or.inl ⟨?_, ?_⟩) (by assumption) ?_
          rotate_left 2
          · (simp only [List.getElem?_toArray, List.getElem?_cons_succ, List.getElem?_cons_zero]; rfl)
          rotate_left 1
          · rfl
          · (intro w hSw; (try dsimp only at hSw); go_simp; try with_reducible rfl)
          rotate_left 1
          · exact fun _ _ _ h => h
          try simp only [Act.put, List.setIfInBounds_toArray, List.set_cons_zero, List.set_cons_succ]
          refine wpAnyH_take (i := 4) (oi := ?_) (v := ?_) ?_ (by kernel_rfl) (by kernel_rfl) (by kernel_rfl) ?_ (Or.inl ⟨?_, ?_⟩) (by assumption) ?_
          rotate_left 2
          · (simp only [List.getElem?_toArray, List.getElem?_cons_succ, List.getElem?_cons_zero]; rfl)
          rotate_left 1
          · rfl
          · (intro w hSw; (try dsimp only at hSw); go_simp; try with_reducible rfl)
          rotate_left 1
          · exact fun _ _ _ h => h
          try simp only [Act.put, List.setIfInBounds_toArray, List.set_cons_zero, List.set_cons_succ]
          refine wpAnyH_take (i := 5) (oi := ?_) (v := ?_) ?_ (by kernel_rfl) (by kernel_rfl) (by kernel_rfl) ?_ (Or.inl ⟨?_, ?_⟩) (by assumption) ?_
          rotate_left 2
          · (simp only [List.getElem?_toArray, List.getElem?_cons_succ, List.getElem?_cons_zero]; rfl)
          rotate_left 1
          · rfl
          · (intro w hSw; (try dsimp only at hSw); go_simp; try with_reducible rfl)
          rotate_left 1
          · exact fun _ _ _ h => h
          try simp only [Act.put, List.setIfInBounds_toArray, List.set_cons_zero, List.set_cons_succ]
          refine wpAnyH_take (i := 6) (oi := ?_) (v := ?_) ?_ (by kernel_rfl) (by kernel_rfl) (by kernel_rfl) ?_ (Or.inl ⟨?_, ?_⟩) (by assumption) ?_
          rotate_left 2
          · (simp only [List.getElem?_toArray, List.getElem?_cons_succ, List.getElem?_cons_zero]; rfl)
          rotate_left 1
          · rfl
          · (intro w hSw; (try dsimp only at hSw); go_simp; try with_reducible rfl)
          rotate_left 1
          · exact fun _ _ _ h => h
          try simp only [Act.put, List.setIfInBounds_toArray, List.set_cons_zero, List.set_cons_succ]
          refine wpAnyH_take (i := 7) (oi := ?_) (v := ?_) ?_ (by kernel_rfl) (by kernel_rfl) (by kernel_rfl) ?_ (Or.inl ⟨?_, ?_⟩) (by assumption) ?_
          rotate_left 2
          · (simp only [List.getElem?_toArray, List.getElem?_cons_succ, List.getElem?_cons_zero]; rfl)
          rotate_left 1
          · rfl
          · (intro w hSw; (try dsimp only at hSw); go_simp; try with_reducible rfl)
          rotate_left 1
          · exact fun _ _ _ h => h
          try simp only [Act.put, List.setIfInBounds_toArray, List.set_cons_zero, List.set_cons_succ]
          refine wpAnyH_take (i := 8) (oi := ?_) (v := ?_) ?_ (by kernel_rfl) (by kernel_rfl) (by kernel_rfl) ?_ (Or.inl ⟨?_, ?_⟩) (by assumption) ?_
          rotate_left 2
          · (simp only [List.getElem?_toArray, List.getElem?_cons_succ, List.getElem?_cons_zero]; rfl)
          rotate_left 1
          · rfl
          · (intro w hSw; (try dsimp only at hSw); go_simp; try with_reducible rfl)
          rotate_left 1
          · exact fun _ _ _ h => h
          try simp only [Act.put, List.setIfInBounds_toArray, List.set_cons_zero, List.set_cons_succ]
          refine wpAnyH_take (i := 9) (oi := ?_) (v := ?_) ?_ (by kernel_rfl) (by kernel_rfl) (by kernel_rfl) ?_ (Or.inl ⟨?_, ?_⟩) (by assumption) ?_
          rotate_left 2
          · (simp only [List.getElem?_toArray, List.getElem?_cons_succ, List.getElem?_cons_zero]; rfl)
          rotate_left 1
          · rfl
          · (intro w hSw; (try dsimp only at hSw); go_simp; try with_reducible rfl)
          rotate_left 1
          · exact fun _ _ _ h => h
          try simp only [Act.put, List.setIfInBounds_toArray, List.set_cons_zero, List.set_cons_succ]
          refine wpAnyH_take (i := 10) (oi := ?_) (v := ?_) ?_ (by kernel_rfl) (by kernel_rfl) (by kernel_rfl) ?_ (Or.inl ⟨?_, ?_⟩) (by assumption) ?_
          rotate_left 2
          · (simp only [List.getElem?_toArray, List.getElem?_cons_succ, List.getElem?_cons_zero]; rfl)
          rotate_left 1
          · rfl
          · (intro w hSw; (try dsimp only at hSw); go_simp; try with_reducible rfl)
          rotate_left 1
          · exact fun _ _ _ h => h
          try simp only [Act.put, List.setIfInBounds_toArray, List.set_cons_zero, List.set_cons_succ]
          refine wpAnyH_take (i := 11) (oi := ?_) (v := ?_) ?_ (by kernel_rfl) (by kernel_rfl) (by kernel_rfl) ?_ (Or.inl ⟨?_, ?_⟩) (by assumption) ?_
          rotate_left 2
          · (simp only [List.getElem?_toArray, List.getElem?_cons_succ, List.getElem?_cons_zero]; rfl)
          rotate_left 1
          · rfl
          · (intro w hSw; (try dsimp only at hSw); go_simp; try with_reducible rfl)
          rotate_left 1
          · exact fun _ _ _ h => h
          try simp only [Act.put, List.setIfInBounds_toArray, List.set_cons_zero, List.set_cons_succ]
          refine wpAnyH_take (i := 12) (oi := ?_) (v := ?_) ?_ (by kernel_rfl) (by kernel_rfl) (by kernel_rfl) ?_ (Or.inl ⟨?_, ?_⟩) (by assumption) ?_
          rotate_left 2
          · (simp only [List.getElem?_toArray, List.getElem?_cons_succ, List.getElem?_cons_zero]; rfl)
          rotate_left 1
          · rfl
          · (intro w hSw; (try dsimp only at hSw); go_simp; try with_reducible rfl)
          rotate_left 1
          · exact fun _ _ _ h => h
          try simp only [Act.put, List.setIfInBounds_toArray, List.set_cons_zero, List.set_cons_succ]
          refine wpAnyH_take (i := 13) (oi := ?_) (v := ?_) ?_ (by kernel_rfl) (by kernel_rfl) (by kernel_rfl) ?_ (Or.inl ⟨?_, ?_⟩) (by assumption) ?_
          rotate_left 2
          · (simp only [List.getElem?_toArray, List.getElem?_cons_succ, List.getElem?_cons_zero]; rfl)
          rotate_left 1
          · rfl
          · (intro w hSw; (try dsimp only at hSw); go_simp; try with_reducible rfl)
          rotate_left 1
          · exact fun _ _ _ h => h
          try simp only [Act.put, List.setIfInBounds_toArray, List.set_cons_zero, List.set_cons_succ]
          refine wpAnyH_take (i := 14) (oi := ?_) (v := ?_) ?_ (by kernel_rfl) (by kernel_rfl) (by kernel_rfl) ?_ (Or.inl ⟨?_, ?_⟩) (by assumption) ?_
          rotate_left 2
          · (simp only [List.getElem?_toArray, List.getElem?_cons_succ, List.getElem?_cons_zero]; rfl)
          rotate_left 1
          · rfl
          · (intro w hSw; (try dsimp only at hSw); go_simp; try with_reducible rfl)
          rotate_left 1
          · exact fun _ _ _ h => h
          try simp only [Act.put, List.setIfInBounds_toArray, List.set_cons_zero, List.set_cons_succ]
          refine wpAnyH_take (i := 15) (oi := ?_) (v := ?_) ?_ (by kernel_rfl) (by kernel_rfl) (by kernel_rfl) ?_ (Or.inl ⟨?_, ?_⟩) (by assumption) ?_
          rotate_left 2
          · (simp only [List.getElem?_toArray, List.getElem?_cons_succ, List.getElem?_cons_zero]; rfl)
          rotate_left 1
          · rfl
          · (intro w hSw; (try dsimp only at hSw); go_simp; try with_reducible rfl)
          rotate_left 1
          · exact fun _ _ _ h => h
          try simp only [Act.put, List.setIfInBounds_toArray, List.set_cons_zero, List.set_cons_succ]
          refine wpAnyH_take (i := 16) (oi := ?_) (v := ?_) ?_ (by kernel_rfl) (by kernel_rfl) (by kernel_rfl) ?_ (Or.inl ⟨?_, ?_⟩) (by assumption) ?_
          rotate_left 2
          · (simp only [List.getElem?_toArray, List.getElem?_cons_succ, List.getElem?_cons_zero]; rfl)
          rotate_left 1
          · rfl
          · (intro w hSw; (try dsimp only at hSw); go_simp; try with_reducible rfl)
          rotate_left 1
          · exact fun _ _ _ h => h
          try simp only [Act.put, List.setIfInBounds_toArray, List.set_cons_zero, List.set_cons_succ]
          refine wpAnyH_ready (rs := [17]) (by kernel_rfl) (by simp) ?_
          refine AllReadyH.cons (o := ?_) ?_ (fun K hK => ?_) AllReadyH.nil
          rotate_left 1
          · (simp only [List.getElem?_toArray, List.getElem?_cons_succ, List.getElem?_cons_zero]; rfl)
          go_simp
          go_at_call 55; refine (HST.out n fr te _ A2 c2 _ _ hnl hvd HFT.out.1 HFT.out.2).mono ?_; rintro e w6 ⟨v6, rfl, hv6, rfl⟩; obtain ⟨A6, c6, rfl, _, _, _⟩ := hv6.open_
          refine hK.out _ _ ?_ (fun hHeld => ?_)
          · ((try dsimp only); go_keep)
          clear hK K
          try simp only [Act.put, List.setIfInBounds_toArray, List.set_cons_zero, List.set_cons_succ]
          refine wpAnyH_ready (rs := [18]) (by kernel_rfl) (by simp) ?_
          refine AllReadyH.cons (o := ?_) ?_ (fun K hK => ?_) AllReadyH.nil
          rotate_left 1
          · (simp only [List.getElem?_toArray, List.getElem?_cons_succ, List.getElem?_cons_zero]; rfl)
          go_simp
          go_at_call 58; refine (trimmed_ok _ _ A6 c6 _ _ hv6).mono ?_; rintro e w7 ⟨rfl, rfl⟩; have hvt := hv6.front (k := usedF (stretchF ls[n].1 fr te)) (used_le _)
          refine hK.out _ _ ?_ (fun hHeld => ?_)
          · ((try dsimp only); go_keep)
          clear hK K
          try simp only [Act.put, List.setIfInBounds_toArray, List.set_cons_zero, List.set_cons_succ]
          refine wpAnyH_ready (rs := [19]) (by kernel_rfl) (by simp) ?_
          refine AllReadyH.cons (o := ?_) ?_ (fun K hK => ?_) AllReadyH.nil
          rotate_left 1
          · (simp only [List.getElem?_toArray, List.getElem?_cons_succ, List.getElem?_cons_zero]; rfl)
          go_simp
          go_at_call 57; refine (read_ok _ _ _ _ (hvt.mono (Keep.refl _ _) (Keep.weaken fun b hb => Nat.lt_of_lt_of_le hb hzd)) (by rw [List.length_take]; have := HSL.out; omega) (take_short HSS.out _)).mono ?_; rintro e w8 ⟨s8, rfl, hv8, hb8⟩; obtain ⟨A8, c8, rfl, _, _, _⟩ := hv8.slc.open_; have hb9 := hbd.trans (hb8.mono hzd); have hz9 := hb9.size; have e2 := dvd.same hb8; have e3 := dqd.same hb8; have e4 := dsd.same hb8; have ho9 := houtd.below hb8; have u2 := e2.cell 2; have u3 := e3.cell 1; have u4 := e4.cell 1; simp only [List.getElem?_toArray, List.getElem?_cons_succ, List.getElem?_cons_zero] at u2 u3 u4; have u5 := (hb9.cell (p := ⟨ab, off + n * 2, none⟩) hab).trans z0
          refine hK.out _ _ ?_ (fun hHeld => ?_)
          · ((try dsimp only); go_keep)
          clear hK K
          try simp only [Act.put, List.setIfInBounds_toArray, List.set_cons_zero, List.set_cons_succ]
          refine wpAnyH_ready (rs := [20]) (by kernel_rfl) (by simp) ?_
          refine AllReadyH.cons (o := ?_) ?_ (fun K hK => ?_) AllReadyH.nil
          rotate_left 1
          · (simp only [List.getElem?_toArray, List.getElem?_cons_succ, List.getElem?_cons_zero]; rfl)
          go_simp
          have e2 := e2.alloc (.cells #[.slice A8 (readF ((stretchF ls[n].1 fr te).take (usedF (stretchF ls[n].1 fr te)))).length c8] 22); have e3 := e3.alloc (.cells #[.slice A8 (readF ((stretchF ls[n].1 fr te).take (usedF (stretchF ls[n].1 fr te)))).length c8] 22); have e4 := e4.alloc (.cells #[.slice A8 (readF ((stretchF ls[n].1 fr te).take (usedF (stretchF ls[n].1 fr te)))).length c8] 22); have ho9 := ho9.alloc (.cells #[.slice A8 (readF ((stretchF ls[n].1 fr te).take (usedF (stretchF ls[n].1 fr te)))).length c8] 22); have hb10 := hb9.alloc hz9 (.cells #[.slice A8 (readF ((stretchF ls[n].1 fr te).take (usedF (stretchF ls[n].1 fr te)))).length c8] 22); have u2 := e2.cell 2; have u3 := e3.cell 1; have u4 := e4.cell 1; simp only [List.getElem?_toArray, List.getElem?_cons_succ, List.getElem?_cons_zero] at u2 u3 u4; have u5 := (hb10.cell (p := ⟨ab, off + n * 2, none⟩) hab).trans z0
          refine hK.out _ _ ?_ (fun hHeld => ?_)
          · ((try dsimp only); go_keep)
          clear hK K
          try simp only [Act.put, List.setIfInBounds_toArray, List.set_cons_zero, List.set_cons_succ]
          refine wpAnyH_ready (rs := [21]) (by kernel_rfl) (by simp) ?_
          refine AllReadyH.cons (o := ?_) ?_ (fun K hK => ?_) AllReadyH.nil
          rotate_left 1
          · (simp only [List.getElem?_toArray, List.getElem?_cons_succ, List.getElem?_cons_zero]; rfl)
          refine step_appg rfl (.tmp 32) (.tmp 52) 64 rfl RRow 22 [21] w.heap.size 24 _ Tryd.underlying64 rrow_info rfl (by decide) (by decide) _ _ rfl ho9 _ _ _ _ rfl (Slc.one_row (hv8.rowE hzd) w8.heap.size rfl) (fun _ h => h) (by rw [hbl, List.length_singleton]; omega) (by simp; omega) ?_; intro v11 w11 hv11 hst11 hg11 hob11; have e2 := e2.step hst11 (by decide); have e3 := e3.step hst11 (by decide); have e4 := e4.step hst11 (by decide); have hb11 := hb10.trans (hst11.below (by simp; omega)); have u2 := e2.cell 2; have u3 := e3.cell 1; have u4 := e4.cell 1; simp only [List.getElem?_toArray, List.getElem?_cons_succ, List.getElem?_cons_zero] at u2 u3 u4; have u5 := (hb11.cell (p := ⟨ab, off + n * 2, none⟩) hab).trans z0
          refine hK.out _ _ ?_ (fun hHeld => ?_)
          · ((try dsimp only); go_keep)
          clear hK K
          try simp only [Act.put, List.setIfInBounds_toArray, List.set_cons_zero, List.set_cons_succ]
          refine wpAnyH_take (i := 22) (oi := ?_) (v := ?_) ?_ (by kernel_rfl) (by kernel_rfl) (by kernel_rfl) ?_ (Or.inl ⟨?_, ?_⟩) (by assumption) ?_
          rotate_left 2
          · (simp only [List.getElem?_toArray, List.getElem?_cons_succ, List.getElem?_cons_zero]; rfl)
          rotate_left 1
          · rfl
          · (intro w hSw; (try dsimp only at hSw); go_simp; try with_reducible rfl)
          rotate_left 1
          · exact fun _ _ _ h => h
          try simp only [Act.put, List.setIfInBounds_toArray, List.set_cons_zero, List.set_cons_succ]
          refine wpAnyH_done (by kernel_rfl) ?_ _
          go_wp2
          go_roundw
          case rel => exact ⟨n + 1, by omega, by omega, by go_num, by rw [HSN.out]; exact hv11, e2, e3, e4, hb11⟩
          case measure => simp [intOf]; omega
        · obtain rfl : x1 = y1' := by omega
          obtain rfl : fr = x1 := by have h1 := HM.out; omega
          obtain rfl : fr = te := by have h1 := HM.out; omega
          clear h
          refine wp_region_held_drew (S := fun w' => w'.cell? ⟨w.heap.size, 2, none⟩ = some (.slice (some ⟨ab, off, none⟩) ls.length cp) ∧ w'.cell? ⟨w.heap.size + 1, 1, none⟩ = some (.int .i64 fr) ∧ w'.cell? ⟨w.heap.size + 1 + 1, 1, none⟩ = some (.int .i64 fr) ∧ w'.cell? ⟨ab, off + n * 2, none⟩ = some (.slice A2 ls[n].1.length c2)) (by kernel_rfl) (by refine ⟨u2, u3, u4, u5⟩) (fun hHeld => ?_)
          refine wpAnyH_take (i := 0) (oi := ?_) (v := ?_) ?_ (by kernel_rfl) (by kernel_rfl) (by kernel_rfl) ?_ (Or.inl ⟨?_, ?_⟩) (by assumption) ?_
          rotate_left 2
          · (simp only [List.getElem?_toArray, List.getElem?_cons_succ, List.getElem?_cons_zero]; rfl)
          rotate_left 1
          · rfl
          · (intro w hSw; (try dsimp only at hSw); go_simp; try with_reducible rfl)
          rotate_left 1
          · exact fun _ _ _ h => h
          try simp only [Act.put, List.setIfInBounds_toArray, List.set_cons_zero, List.set_cons_succ]
          refine wpAnyH_take (i := 1) (oi := ?_) (v := ?_) ?_ (by kernel_rfl) (by kernel_rfl) (by kernel_rfl) ?_ (Or.inl ⟨?_, ?_⟩) (by assumption) ?_
          rotate_left 2
          · (simp only [List.getElem?_toArray, List.getElem?_cons_succ, List.getElem?_cons_zero]; rfl)
          rotate_left 1
          · rfl
          · (intro w hSw; (try dsimp only at hSw); go_simp; try with_reducible rfl)
          rotate_left 1
          · exact fun _ _ _ h => h
          try simp only [Act.put, List.setIfInBounds_toArray, List.set_cons_zero, List.set_cons_succ]
          refine wpAnyH_take (i := 2) (oi := ?_) (v := ?_) ?_ (by kernel_rfl) (by kernel_rfl) (by kernel_rfl) ?_ (Or.inl ⟨?_, ?_⟩) (by assumption) ?_
          rotate_left 2
          · (simp only [List.getElem?_toArray, List.getElem?_cons_succ, List.getElem?_cons_zero]; rfl)
          rotate_left 1
          · rfl
          · (intro w hSw; (try dsimp only at hSw); go_simp; try with_reducible rfl)
          rotate_left 1
          · exact fun _ _ _ h => h
          try simp only [Act.put, List.setIfInBounds_toArray, List.set_cons_zero, List.set_cons_succ]
          refine wpAnyH_take (i := 3) (oi := ?_) (v := ?_) ?_ (by kernel_rfl) (by kernel_rfl) (by kernel_rfl) ?_ (Or.inl ⟨?_, ?_⟩) (by assumption) ?_
          rotate_left 2
          · (simp only [List.getElem?_toArray, List.getElem?_cons_succ, List.getElem?_cons_zero]; rfl)
          rotate_left 1
          · rfl
          · (intro w hSw; (try dsimp only at hSw); go_simp; try with_reducible rfl)
          rotate_left 1
          · exact fun _ _ _ h => h
          try simp only [Act.put, List.setIfInBounds_toArray, List.set_cons_zero, List.set_cons_succ]
          refine wpAnyH_take (i := 4) (oi := ?_) (v := ?_) ?_ (by kernel_rfl) (by kernel_rfl) (by kernel_rfl) ?_ (Or.inl ⟨?_, ?_⟩) (by assumption) ?_
          rotate_left 2
          · (simp only [List.getElem?_toArray, List.getElem?_cons_succ, List.getElem?_cons_zero]; rfl)
          rotate_left 1
          · rfl
          · (intro w hSw; (try dsimp only at hSw); go_simp; try with_reducible rfl)
          rotate_left 1
          · exact fun _ _ _ h => h
          try simp only [Act.put, List.setIfInBounds_toArray, List.set_cons_zero, List.set_cons_succ]
          refine wpAnyH_take (i := 5) (oi := ?_) (v := ?_) ?_ (by kernel_rfl) (by kernel_rfl) (by kernel_rfl) ?_ (Or.inl ⟨?_, ?_⟩) (by assumption) ?_
          rotate_left 2
          · (simp only [List.getElem?_toArray, List.getElem?_cons_succ, List.getElem?_cons_zero]; rfl)
          rotate_left 1
          · rfl
          · (intro w hSw; (try dsimp only at hSw); go_simp; try with_reducible rfl)
          rotate_left 1
          · exact fun _ _ _ h => h
          try simp only [Act.put, List.setIfInBounds_toArray, List.set_cons_zero, List.set_cons_succ]
          refine wpAnyH_take (i := 6) (oi := ?_) (v := ?_) ?_ (by kernel_rfl) (by kernel_rfl) (by kernel_rfl) ?_ (Or.inl ⟨?_, ?_⟩) (by assumption) ?_
          rotate_left 2
          · (simp only [List.getElem?_toArray, List.getElem?_cons_succ, List.getElem?_cons_zero]; rfl)
          rotate_left 1
          · rfl
          · (intro w hSw; (try dsimp only at hSw); go_simp; try with_reducible rfl)
          rotate_left 1
          · exact fun _ _ _ h => h
          try simp only [Act.put, List.setIfInBounds_toArray, List.set_cons_zero, List.set_cons_succ]
          refine wpAnyH_take (i := 7) (oi := ?_) (v := ?_) ?_ (by kernel_rfl) (by kernel_rfl) (by kernel_rfl) ?_ (Or.inl ⟨?_, ?_⟩) (by assumption) ?_
          rotate_left 2
          · (simp only [List.getElem?_toArray, List.getElem?_cons_succ, List.getElem?_cons_zero]; rfl)
          rotate_left 1
          · rfl
          · (intro w hSw; (try dsimp only at hSw); go_simp; try with_reducible rfl)
          rotate_left 1
          · exact fun _ _ _ h => h
          try simp only [Act.put, List.setIfInBounds_toArray, List.set_cons_zero, List.set_cons_succ]
          refine wpAnyH_take (i := 8) (oi := ?_) (v := ?_) ?_ (by kernel_rfl) (by kernel_rfl) (by kernel_rfl) ?_ (Or.inl ⟨?_, ?_⟩) (by assumption) ?_
          rotate_left 2
          · (simp only [List.getElem?_toArray, List.getElem?_cons_succ, List.getElem?_cons_zero]; rfl)
          rotate_left 1
          · rfl
          · (intro w hSw; (try dsimp only at hSw); go_simp; try with_reducible rfl)
          rotate_left 1
          · exact fun _ _ _ h => h
          try simp only [Act.put, List.setIfInBounds_toArray, List.set_cons_zero, List.set_cons_succ]
          refine wpAnyH_take (i := 9) (oi := ?_) (v := ?_) ?_ (by kernel_rfl) (by kernel_rfl) (by kernel_rfl) ?_ (Or.inl ⟨?_, ?_⟩) (by assumption) ?_
          rotate_left 2
          · (simp only [List.getElem?_toArray, List.getElem?_cons_succ, List.getElem?_cons_zero]; rfl)
          rotate_left 1
          · rfl
          · (intro w hSw; (try dsimp only at hSw); go_simp; try with_reducible rfl)
          rotate_left 1
          · exact fun _ _ _ h => h
          try simp only [Act.put, List.setIfInBounds_toArray, List.set_cons_zero, List.set_cons_succ]
          refine wpAnyH_take (i := 10) (oi := ?_) (v := ?_) ?_ (by kernel_rfl) (by kernel_rfl) (by kernel_rfl) ?_ (Or.inl ⟨?_, ?_⟩) (by assumption) ?_
          rotate_left 2
          · (simp only [List.getElem?_toArray, List.getElem?_cons_succ, List.getElem?_cons_zero]; rfl)
          rotate_left 1
          · rfl
          · (intro w hSw; (try dsimp only at hSw); go_simp; try with_reducible rfl)
          rotate_left 1
          · exact fun _ _ _ h => h
          try simp only [Act.put, List.setIfInBounds_toArray, List.set_cons_zero, List.set_cons_succ]
          refine wpAnyH_take (i := 11) (oi := ?_) (v := ?_) ?_ (by kernel_rfl) (by kernel_rfl) (by kernel_rfl) ?_ (Or.inl ⟨?_, ?_⟩) (by assumption) ?_
          rotate_left 2
          · (simp only [List.getElem?_toArray, List.getElem?_cons_succ, List.getElem?_cons_zero]; rfl)
          rotate_left 1
          · rfl
          · (intro w hSw; (try dsimp only at hSw); go_simp; try with_reducible rfl)
          rotate_left 1
          · exact fun _ _ _ h => h
          try simp only [Act.put, List.setIfInBounds_toArray, List.set_cons_zero, List.set_cons_succ]
          refine wpAnyH_take (i := 12) (oi := ?_) (v := ?_) ?_ (by kernel_rfl) (by kernel_rfl) (by kernel_rfl) ?_ (Or.inl ⟨?_, ?_⟩) (by assumption) ?_
          rotate_left 2
          · (simp only [List.getElem?_toArray, List.getElem?_cons_succ, List.getElem?_cons_zero]; rfl)
          rotate_left 1
          · rfl
          · (intro w hSw; (try dsimp only at hSw); go_simp; try with_reducible rfl)
          rotate_left 1
          · exact fun _ _ _ h => h
          try simp only [Act.put, List.setIfInBounds_toArray, List.set_cons_zero, List.set_cons_succ]
          refine wpAnyH_take (i := 13) (oi := ?_) (v := ?_) ?_ (by kernel_rfl) (by kernel_rfl) (by kernel_rfl) ?_ (Or.inl ⟨?_, ?_⟩) (by assumption) ?_
          rotate_left 2
          · (simp only [List.getElem?_toArray, List.getElem?_cons_succ, List.getElem?_cons_zero]; rfl)
          rotate_left 1
          · rfl
          · (intro w hSw; (try dsimp only at hSw); go_simp; try with_reducible rfl)
          rotate_left 1
          · exact fun _ _ _ h => h
          try simp only [Act.put, List.setIfInBounds_toArray, List.set_cons_zero, List.set_cons_succ]
          refine wpAnyH_take (i := 14) (oi := ?_) (v := ?_) ?_ (by kernel_rfl) (by kernel_rfl) (by kernel_rfl) ?_ (Or.inl ⟨?_, ?_⟩) (by assumption) ?_
          rotate_left 2
          · (simp only [List.getElem?_toArray, List.getElem?_cons_succ, List.getElem?_cons_zero]; rfl)
          rotate_left 1
          · rfl
          · (intro w hSw; (try dsimp only at hSw); go_simp; try with_reducible rfl)
          rotate_left 1
          · exact fun _ _ _ h => h
          try simp only [Act.put, List.setIfInBounds_toArray, List.set_cons_zero, List.set_cons_succ]
          refine wpAnyH_take (i := 15) (oi := ?_) (v := ?_) ?_ (by kernel_rfl) (by kernel_rfl) (by kernel_rfl) ?_ (Or.inl ⟨?_, ?_⟩) (by assumption) ?_
          rotate_left 2
          · (simp only [List.getElem?_toArray, List.getElem?_cons_succ, List.getElem?_cons_zero]; rfl)
          rotate_left 1
          · rfl
          · (intro w hSw; (try dsimp only at hSw); go_simp; try with_reducible rfl)
          rotate_left 1
          · exact fun _ _ _ h => h
          try simp only [Act.put, List.setIfInBounds_toArray, List.set_cons_zero, List.set_cons_succ]
          refine wpAnyH_take (i := 16) (oi := ?_) (v := ?_) ?_ (by kernel_rfl) (by kernel_rfl) (by kernel_rfl) ?_ (Or.inl ⟨?_, ?_⟩) (by assumption) ?_
          rotate_left 2
          · (simp only [List.getElem?_toArray, List.getElem?_cons_succ, List.getElem?_cons_zero]; rfl)
          rotate_left 1
          · rfl
          · (intro w hSw; (try dsimp only at hSw); go_simp; try with_reducible rfl)
          rotate_left 1
          · exact fun _ _ _ h => h
          try simp only [Act.put, List.setIfInBounds_toArray, List.set_cons_zero, List.set_cons_succ]
          refine wpAnyH_ready (rs := [17]) (by kernel_rfl) (by simp) ?_
          refine AllReadyH.cons (o := ?_) ?_ (fun K hK => ?_) AllReadyH.nil
          rotate_left 1
          · (simp only [List.getElem?_toArray, List.getElem?_cons_succ, List.getElem?_cons_zero]; rfl)
          go_simp
          go_at_call 55; refine (HST.out n fr fr _ A2 c2 _ _ hnl hvd HFT.out.1 HFT.out.2).mono ?_; rintro e w6 ⟨v6, rfl, hv6, rfl⟩; obtain ⟨A6, c6, rfl, _, _, _⟩ := hv6.open_
          refine hK.out _ _ ?_ (fun hHeld => ?_)
          · ((try dsimp only); go_keep)
          clear hK K
          try simp only [Act.put, List.setIfInBounds_toArray, List.set_cons_zero, List.set_cons_succ]
          refine wpAnyH_ready (rs := [18]) (by kernel_rfl) (by simp) ?_
          refine AllReadyH.cons (o := ?_) ?_ (fun K hK => ?_) AllReadyH.nil
          rotate_left 1
          · (simp only [List.getElem?_toArray, List.getElem?_cons_succ, List.getElem?_cons_zero]; rfl)
          go_simp
          go_at_call 58; refine (trimmed_ok _ _ A6 c6 _ _ hv6).mono ?_; rintro e w7 ⟨rfl, rfl⟩; have hvt := hv6.front (k := usedF (stretchF ls[n].1 fr fr)) (used_le _)
          refine hK.out _ _ ?_ (fun hHeld => ?_)
          · ((try dsimp only); go_keep)
          clear hK K
          try simp only [Act.put, List.setIfInBounds_toArray, List.set_cons_zero, List.set_cons_succ]
          refine wpAnyH_ready (rs := [19]) (by kernel_rfl) (by simp) ?_
          refine AllReadyH.cons (o := ?_) ?_ (fun K hK => ?_) AllReadyH.nil
          rotate_left 1
          · (simp only [List.getElem?_toArray, List.getElem?_cons_succ, List.getElem?_cons_zero]; rfl)
          go_simp
          go_at_call 57; refine (read_ok _ _ _ _ (hvt.mono (Keep.refl _ _) (Keep.weaken fun b hb => Nat.lt_of_lt_of_le hb hzd)) (by rw [List.length_take]; have := HSL.out; omega) (take_short HSS.out _)).mono ?_; rintro e w8 ⟨s8, rfl, hv8, hb8⟩; obtain ⟨A8, c8, rfl, _, _, _⟩ := hv8.slc.open_; have hb9 := hbd.trans (hb8.mono hzd); have hz9 := hb9.size; have e2 := dvd.same hb8; have e3 := dqd.same hb8; have e4 := dsd.same hb8; have ho9 := houtd.below hb8; have u2 := e2.cell 2; have u3 := e3.cell 1; have u4 := e4.cell 1; simp only [List.getElem?_toArray, List.getElem?_cons_succ, List.getElem?_cons_zero] at u2 u3 u4; have u5 := (hb9.cell (p := ⟨ab, off + n * 2, none⟩) hab).trans z0
          refine hK.out _ _ ?_ (fun hHeld => ?_)
          · ((try dsimp only); go_keep)
          clear hK K
          try simp only [Act.put, List.setIfInBounds_toArray, List.set_cons_zero, List.set_cons_succ]
          refine wpAnyH_ready (rs := [20]) (by kernel_rfl) (by simp) ?_
          refine AllReadyH.cons (o := ?_) ?_ (fun K hK => ?_) AllReadyH.nil
          rotate_left 1
          · (simp only [List.getElem?_toArray, List.getElem?_cons_succ, List.getElem?_cons_zero]; rfl)
          go_simp
          have e2 := e2.alloc (.cells #[.slice A8 (readF ((stretchF ls[n].1 fr fr).take (usedF (stretchF ls[n].1 fr fr)))).length c8] 22); have e3 := e3.alloc (.cells #[.slice A8 (readF ((stretchF ls[n].1 fr fr).take (usedF (stretchF ls[n].1 fr fr)))).length c8] 22); have e4 := e4.alloc (.cells #[.slice A8 (readF ((stretchF ls[n].1 fr fr).take (usedF (stretchF ls[n].1 fr fr)))).length c8] 22); have ho9 := ho9.alloc (.cells #[.slice A8 (readF ((stretchF ls[n].1 fr fr).take (usedF (stretchF ls[n].1 fr fr)))).length c8] 22); have hb10 := hb9.alloc hz9 (.cells #[.slice A8 (readF ((stretchF ls[n].1 fr fr).take (usedF (stretchF ls[n].1 fr fr)))).length c8] 22); have u2 := e2.cell 2; have u3 := e3.cell 1; have u4 := e4.cell 1; simp only [List.getElem?_toArray, List.getElem?_cons_succ, List.getElem?_cons_zero] at u2 u3 u4; have u5 := (hb10.cell (p := ⟨ab, off + n * 2, none⟩) hab).trans z0
          refine hK.out _ _ ?_ (fun hHeld => ?_)
          · ((try dsimp only); go_keep)
          clear hK K
          try simp only [Act.put, List.setIfInBounds_toArray, List.set_cons_zero, List.set_cons_succ]
          refine wpAnyH_ready (rs := [21]) (by kernel_rfl) (by simp) ?_
          refine AllReadyH.cons (o := ?_) ?_ (fun K hK => ?_) AllReadyH.nil
          rotate_left 1
          · (simp only [List.getElem?_toArray, List.getElem?_cons_succ, List.getElem?_cons_zero]; rfl)
          refine step_appg rfl (.tmp 32) (.tmp 52) 64 rfl RRow 22 [21] w.heap.size 24 _ Tryd.underlying64 rrow_info rfl (by decide) (by decide) _ _ rfl ho9 _ _ _ _ rfl (Slc.one_row (hv8.rowE hzd) w8.heap.size rfl) (fun _ h => h) (by rw [hbl, List.length_singleton]; omega) (by simp; omega) ?_; intro v11 w11 hv11 hst11 hg11 hob11; have e2 := e2.step hst11 (by decide); have e3 := e3.step hst11 (by decide); have e4 := e4.step hst11 (by decide); have hb11 := hb10.trans (hst11.below (by simp; omega)); have u2 := e2.cell 2; have u3 := e3.cell 1; have u4 := e4.cell 1; simp only [List.getElem?_toArray, List.getElem?_cons_succ, List.getElem?_cons_zero] at u2 u3 u4; have u5 := (hb11.cell (p := ⟨ab, off + n * 2, none⟩) hab).trans z0
          refine hK.out _ _ ?_ (fun hHeld => ?_)
          · ((try dsimp only); go_keep)
          clear hK K
          try simp only [Act.put, List.setIfInBounds_toArray, List.set_cons_zero, List.set_cons_succ]
          refine wpAnyH_take (i := 22) (oi := ?_) (v := ?_) ?_ (by kernel_rfl) (by kernel_rfl) (by kernel_rfl) ?_ (Or.inl ⟨?_, ?_⟩) (by assumption) ?_
          rotate_left 2
          · (simp only [List.getElem?_toArray, List.getElem?_cons_succ, List.getElem?_cons_zero]; rfl)
          rotate_left 1
          · rfl
          · (intro w hSw; (try dsimp only at hSw); go_simp; try with_reducible rfl)
          rotate_left 1
          · exact fun _ _ _ h => h
          try simp only [Act.put, List.setIfInBounds_toArray, List.set_cons_zero, List.set_cons_succ]
          refine wpAnyH_done (by kernel_rfl) ?_ _
          go_wp2
          go_roundw
          case rel => exact ⟨n + 1, by omega, by omega, by go_num, by rw [HSN.out]; exact hv11, e2, e3, e4, hb11⟩
          case measure => simp [intOf]; omega
        · obtain rfl : fr = y1' := by have h1 := HM.out; omega
          obtain rfl : te = x1 := by have h1 := HM.out; omega
          have h' : ¬ (te : Int) < fr := by omega
          have h'' : ¬ te < fr := by omega
          have h3 : fr < te := by omega
          refine wp_region_held_drew (S := fun w' => w'.cell? ⟨w.heap.size, 2, none⟩ = some (.slice (some ⟨ab, off, none⟩) ls.length cp) ∧ w'.cell? ⟨w.heap.size + 1, 1, none⟩ = some (.int .i64 te) ∧ w'.cell? ⟨w.heap.size + 1 + 1, 1, none⟩ = some (.int .i64 fr) ∧ w'.cell? ⟨ab, off + n * 2, none⟩ = some (.slice A2 ls[n].1.length c2)) (by kernel_rfl) (by refine ⟨u2, u3, u4, u5⟩) (fun hHeld => ?_)
          refine wpAnyH_take (i := 0) (oi := ?_) (v := ?_) ?_ (by kernel_rfl) (by kernel_rfl) (by kernel_rfl) ?_ (Or.inl ⟨?_, ?_⟩) (by assumption) ?_
          rotate_left 2
          · (simp only [List.getElem?_toArray, List.getElem?_cons_succ, List.getElem?_cons_zero]; rfl)
          rotate_left 1
          · rfl
          · (intro w hSw; (try dsimp only at hSw); go_simp; try with_reducible rfl)
          rotate_left 1
          · exact fun _ _ _ h => h
          try simp only [Act.put, List.setIfInBounds_toArray, List.set_cons_zero, List.set_cons_succ]
          refine wpAnyH_take (i := 1) (oi := ?_) (v := ?_) ?_ (by kernel_rfl) (by kernel_rfl) (by kernel_rfl) ?_ (Or.inl ⟨?_, ?_⟩) (by assumption) ?_
          rotate_left 2
          · (simp only [List.getElem?_toArray, List.getElem?_cons_succ, List.getElem?_cons_zero]; rfl)
          rotate_left 1
          · rfl
          · (intro w hSw; (try dsimp only at hSw); go_simp; try with_reducible rfl)
          rotate_left 1
          · exact fun _ _ _ h => h
          try simp only [Act.put, List.setIfInBounds_toArray, List.set_cons_zero, List.set_cons_succ]
          refine wpAnyH_take (i := 2) (oi := ?_) (v := ?_) ?_ (by kernel_rfl) (by kernel_rfl) (by kernel_rfl) ?_ (Or.inl ⟨?_, ?_⟩) (by assumption) ?_
          rotate_left 2
          · (simp only [List.getElem?_toArray, List.getElem?_cons_succ, List.getElem?_cons_zero]; rfl)
          rotate_left 1
          · rfl
          · (intro w hSw; (try dsimp only at hSw); go_simp; try with_reducible rfl)
          rotate_left 1
          · exact fun _ _ _ h => h
          try simp only [Act.put, List.setIfInBounds_toArray, List.set_cons_zero, List.set_cons_succ]
          refine wpAnyH_take (i := 3) (oi := ?_) (v := ?_) ?_ (by kernel_rfl) (by kernel_rfl) (by kernel_rfl) ?_ (Or.inl ⟨?_, ?_⟩) (by assumption) ?_
          rotate_left 2
          · (simp only [List.getElem?_toArray, List.getElem?_cons_succ, List.getElem?_cons_zero]; rfl)
          rotate_left 1
          · rfl
          · (intro w hSw; (try dsimp only at hSw); go_simp; try with_reducible rfl)
          rotate_left 1
          · exact fun _ _ _ h => h
          try simp only [Act.put, List.setIfInBounds_toArray, List.set_cons_zero, List.set_cons_succ]
          refine wpAnyH_take (i := 4) (oi := ?_) (v := ?_) ?_ (by kernel_rfl) (by kernel_rfl) (by kernel_rfl) ?_ (Or.inl ⟨?_, ?_⟩) (by assumption) ?_
          rotate_left 2
          · (simp only [List.getElem?_toArray, List.getElem?_cons_succ, List.getElem?_cons_zero]; rfl)
          rotate_left 1
          · rfl
          · (intro w hSw; (try dsimp only at hSw); go_simp; try with_reducible rfl)
          rotate_left 1
          · exact fun _ _ _ h => h
          try simp only [Act.put, List.setIfInBounds_toArray, List.set_cons_zero, List.set_cons_succ]
          refine wpAnyH_take (i := 5) (oi := ?_) (v := ?_) ?_ (by kernel_rfl) (by kernel_rfl) (by kernel_rfl) ?_ (Or.inl ⟨?_, ?_⟩) (by assumption) ?_
          rotate_left 2
          · (simp only [List.getElem?_toArray, List.getElem?_cons_succ, List.getElem?_cons_zero]; rfl)
          rotate_left 1
          · rfl
          · (intro w hSw; (try dsimp only at hSw); go_simp; try with_reducible rfl)
          rotate_left 1
          · exact fun _ _ _ h => h
          try simp only [Act.put, List.setIfInBounds_toArray, List.set_cons_zero, List.set_cons_succ]
          refine wpAnyH_take (i := 6) (oi := ?_) (v := ?_) ?_ (by kernel_rfl) (by kernel_rfl) (by kernel_rfl) ?_ (Or.inl ⟨?_, ?_⟩) (by assumption) ?_
          rotate_left 2
          · (simp only [List.getElem?_toArray, List.getElem?_cons_succ, List.getElem?_cons_zero]; rfl)
          rotate_left 1
          · rfl
          · (intro w hSw; (try dsimp only at hSw); go_simp; try with_reducible rfl)
          rotate_left 1
          · exact fun _ _ _ h => h
          try simp only [Act.put, List.setIfInBounds_toArray, List.set_cons_zero, List.set_cons_succ]
          refine wpAnyH_take (i := 7) (oi := ?_) (v := ?_) ?_ (by kernel_rfl) (by kernel_rfl) (by kernel_rfl) ?_ (Or.inl ⟨?_, ?_⟩) (by assumption) ?_
          rotate_left 2
          · (simp only [List.getElem?_toArray, List.getElem?_cons_succ, List.getElem?_cons_zero]; rfl)
          rotate_left 1
          · rfl
          · (intro w hSw; (try dsimp only at hSw); go_simp; try with_reducible rfl)
          rotate_left 1
          · exact fun _ _ _ h => h
          try simp only [Act.put, List.setIfInBounds_toArray, List.set_cons_zero, List.set_cons_succ]
          refine wpAnyH_take (i := 8) (oi := ?_) (v := ?_) ?_ (by kernel_rfl) (by kernel_rfl) (by kernel_rfl) ?_ (Or.inl ⟨?_, ?_⟩) (by assumption) ?_
          rotate_left 2
          · (simp only [List.getElem?_toArray, List.getElem?_cons_succ, List.getElem?_cons_zero]; rfl)
          rotate_left 1
          · rfl
          · (intro w hSw; (try dsimp only at hSw); go_simp; try with_reducible rfl)
          rotate_left 1
          · exact fun _ _ _ h => h
          try simp only [Act.put, List.setIfInBounds_toArray, List.set_cons_zero, List.set_cons_succ]
          refine wpAnyH_take (i := 9) (oi := ?_) (v := ?_) ?_ (by kernel_rfl) (by kernel_rfl) (by kernel_rfl) ?_ (Or.inl ⟨?_, ?_⟩) (by assumption) ?_
          rotate_left 2
          · (simp only [List.getElem?_toArray, List.getElem?_cons_succ, List.getElem?_cons_zero]; rfl)
          rotate_left 1
          · rfl
          · (intro w hSw; (try dsimp only at hSw); go_simp; try with_reducible rfl)
          rotate_left 1
          · exact fun _ _ _ h => h
          try simp only [Act.put, List.setIfInBounds_toArray, List.set_cons_zero, List.set_cons_succ]
          refine wpAnyH_take (i := 10) (oi := ?_) (v := ?_) ?_ (by kernel_rfl) (by kernel_rfl) (by kernel_rfl) ?_ (Or.inl ⟨?_, ?_⟩) (by assumption) ?_
          rotate_left 2
          · (simp only [List.getElem?_toArray, List.getElem?_cons_succ, List.getElem?_cons_zero]; rfl)
          rotate_left 1
          · rfl
          · (intro w hSw; (try dsimp only at hSw); go_simp; try with_reducible rfl)
          rotate_left 1
          · exact fun _ _ _ h => h
          try simp only [Act.put, List.setIfInBounds_toArray, List.set_cons_zero, List.set_cons_succ]
          refine wpAnyH_take (i := 11) (oi := ?_) (v := ?_) ?_ (by kernel_rfl) (by kernel_rfl) (by kernel_rfl) ?_ (Or.inl ⟨?_, ?_⟩) (by assumption) ?_
          rotate_left 2
          · (simp only [List.getElem?_toArray, List.getElem?_cons_succ, List.getElem?_cons_zero]; rfl)
          rotate_left 1
          · rfl
          · (intro w hSw; (try dsimp only at hSw); go_simp; try with_reducible rfl)
          rotate_left 1
          · exact fun _ _ _ h => h
          try simp only [Act.put, List.setIfInBounds_toArray, List.set_cons_zero, List.set_cons_succ]
          refine wpAnyH_take (i := 12) (oi := ?_) (v := ?_) ?_ (by kernel_rfl) (by kernel_rfl) (by kernel_rfl) ?_ (Or.inl ⟨?_, ?_⟩) (by assumption) ?_
          rotate_left 2
          · (simp only [List.getElem?_toArray, List.getElem?_cons_succ, List.getElem?_cons_zero]; rfl)
          rotate_left 1
          · rfl
          · (intro w hSw; (try dsimp only at hSw); go_simp; try with_reducible rfl)
          rotate_left 1
          · exact fun _ _ _ h => h
          try simp only [Act.put, List.setIfInBounds_toArray, List.set_cons_zero, List.set_cons_succ]
          refine wpAnyH_take (i := 13) (oi := ?_) (v := ?_) ?_ (by kernel_rfl) (by kernel_rfl) (by kernel_rfl) ?_ (Or.inl ⟨?_, ?_⟩) (by assumption) ?_
          rotate_left 2
          · (simp only [List.getElem?_toArray, List.getElem?_cons_succ, List.getElem?_cons_zero]; rfl)
          rotate_left 1
          · rfl
          · (intro w hSw; (try dsimp only at hSw); go_simp; try with_reducible rfl)
          rotate_left 1
          · exact fun _ _ _ h => h
          try simp only [Act.put, List.setIfInBounds_toArray, List.set_cons_zero, List.set_cons_succ]
          refine wpAnyH_take (i := 14) (oi := ?_) (v := ?_) ?_ (by kernel_rfl) (by kernel_rfl) (by kernel_rfl) ?_ (Or.inl ⟨?_, ?_⟩) (by assumption) ?_
          rotate_left 2
          · (simp only [List.getElem?_toArray, List.getElem?_cons_succ, List.getElem?_cons_zero]; rfl)
          rotate_left 1
          · rfl
          · (intro w hSw; (try dsimp only at hSw); go_simp; try with_reducible rfl)
          rotate_left 1
          · exact fun _ _ _ h => h
          try simp only [Act.put, List.setIfInBounds_toArray, List.set_cons_zero, List.set_cons_succ]
          refine wpAnyH_take (i := 15) (oi := ?_) (v := ?_) ?_ (by kernel_rfl) (by kernel_rfl) (by kernel_rfl) ?_ (Or.inl ⟨?_, ?_⟩) (by assumption) ?_
          rotate_left 2
          · (simp only [List.getElem?_toArray, List.getElem?_cons_succ, List.getElem?_cons_zero]; rfl)
          rotate_left 1
          · rfl
          · (intro w hSw; (try dsimp only at hSw); go_simp; try with_reducible rfl)
          rotate_left 1
          · exact fun _ _ _ h => h
          try simp only [Act.put, List.setIfInBounds_toArray, List.set_cons_zero, List.set_cons_succ]
          refine wpAnyH_take (i := 16) (oi := ?_) (v := ?_) ?_ (by kernel_rfl) (by kernel_rfl) (by kernel_rfl) ?_ (Or.inl ⟨?_, ?_⟩) (by assumption) ?_
          rotate_left 2
          · (simp only [List.getElem?_toArray, List.getElem?_cons_succ, List.getElem?_cons_zero]; rfl)
          rotate_left 1
          · rfl
          · (intro w hSw; (try dsimp only at hSw); go_simp; try with_reducible rfl)
          rotate_left 1
          · exact fun _ _ _ h => h
          try simp only [Act.put, List.setIfInBounds_toArray, List.set_cons_zero, List.set_cons_succ]
          refine wpAnyH_ready (rs := [17]) (by kernel_rfl) (by simp) ?_
          refine AllReadyH.cons (o := ?_) ?_ (fun K hK => ?_) AllReadyH.nil
          rotate_left 1
          · (simp only [List.getElem?_toArray, List.getElem?_cons_succ, List.getElem?_cons_zero]; rfl)
          go_simp
          go_at_call 55; refine (HST.out n fr te _ A2 c2 _ _ hnl hvd HFT.out.1 HFT.out.2).mono ?_; rintro e w6 ⟨v6, rfl, hv6, rfl⟩; obtain ⟨A6, c6, rfl, _, _, _⟩ := hv6.open_
          refine hK.out _ _ ?_ (fun hHeld => ?_)
          · ((try dsimp only); go_keep)
          clear hK K
          try simp only [Act.put, List.setIfInBounds_toArray, List.set_cons_zero, List.set_cons_succ]
          refine wpAnyH_ready (rs := [18]) (by kernel_rfl) (by simp) ?_
          refine AllReadyH.cons (o := ?_) ?_ (fun K hK => ?_) AllReadyH.nil
          rotate_left 1
          · (simp only [List.getElem?_toArray, List.getElem?_cons_succ, List.getElem?_cons_zero]; rfl)
          go_simp
          go_at_call 58; refine (trimmed_ok _ _ A6 c6 _ _ hv6).mono ?_; rintro e w7 ⟨rfl, rfl⟩; have hvt := hv6.front (k := usedF (stretchF ls[n].1 fr te)) (used_le _)
          refine hK.out _ _ ?_ (fun hHeld => ?_)
          · ((try dsimp only); go_keep)
          clear hK K
          try simp only [Act.put, List.setIfInBounds_toArray, List.set_cons_zero, List.set_cons_succ]
          refine wpAnyH_ready (rs := [19]) (by kernel_rfl) (by simp) ?_
          refine AllReadyH.cons (o := ?_) ?_ (fun K hK => ?_) AllReadyH.nil
          rotate_left 1
          · (simp only [List.getElem?_toArray, List.getElem?_cons_succ, List.getElem?_cons_zero]; rfl)
          go_simp
          go_at_call 57; refine (read_ok _ _ _ _ (hvt.mono (Keep.refl _ _) (Keep.weaken fun b hb => Nat.lt_of_lt_of_le hb hzd)) (by rw [List.length_take]; have := HSL.out; omega) (take_short HSS.out _)).mono ?_; rintro e w8 ⟨s8, rfl, hv8, hb8⟩; obtain ⟨A8, c8, rfl, _, _, _⟩ := hv8.slc.open_; have hb9 := hbd.trans (hb8.mono hzd); have hz9 := hb9.size; have e2 := dvd.same hb8; have e3 := dqd.same hb8; have e4 := dsd.same hb8; have ho9 := houtd.below hb8; have u2 := e2.cell 2; have u3 := e3.cell 1; have u4 := e4.cell 1; simp only [List.getElem?_toArray, List.getElem?_cons_succ, List.getElem?_cons_zero] at u2 u3 u4; have u5 := (hb9.cell (p := ⟨ab, off + n * 2, none⟩) hab).trans z0
          refine hK.out _ _ ?_ (fun hHeld => ?_)
          · ((try dsimp only); go_keep)
          clear hK K
          try simp only [Act.put, List.setIfInBounds_toArray, List.set_cons_zero, List.set_cons_succ]
          refine wpAnyH_ready (rs := [20]) (by kernel_rfl) (by simp) ?_
          refine AllReadyH.cons (o := ?_) ?_ (fun K hK => ?_) AllReadyH.nil
          rotate_left 1
          · (simp only [List.getElem?_toArray, List.getElem?_cons_succ, List.getElem?_cons_zero]; rfl)
          go_simp
          have e2 := e2.alloc (.cells #[.slice A8 (readF ((stretchF ls[n].1 fr te).take (usedF (stretchF ls[n].1 fr te)))).length c8] 22); have e3 := e3.alloc (.cells #[.slice A8 (readF ((stretchF ls[n].1 fr te).take (usedF (stretchF ls[n].1 fr te)))).length c8] 22); have e4 := e4.alloc (.cells #[.slice A8 (readF ((stretchF ls[n].1 fr te).take (usedF (stretchF ls[n].1 fr te)))).length c8] 22); have ho9 := ho9.alloc (.cells #[.slice A8 (readF ((stretchF ls[n].1 fr te).take (usedF (stretchF ls[n].1 fr te)))).length c8] 22); have hb10 := hb9.alloc hz9 (.cells #[.slice A8 (readF ((stretchF ls[n].1 fr te).take (usedF (stretchF ls[n].1 fr te)))).length c8] 22); have u2 := e2.cell 2; have u3 := e3.cell 1; have u4 := e4.cell 1; simp only [List.getElem?_toArray, List.getElem?_cons_succ, List.getElem?_cons_zero] at u2 u3 u4; have u5 := (hb10.cell (p := ⟨ab, off + n * 2, none⟩) hab).trans z0
          refine hK.out _ _ ?_ (fun hHeld => ?_)
          · ((try dsimp only); go_keep)
          clear hK K
          try simp only [Act.put, List.setIfInBounds_toArray, List.set_cons_zero, List.set_cons_succ]
          refine wpAnyH_ready (rs := [21]) (by kernel_rfl) (by simp) ?_
          refine AllReadyH.cons (o := ?_) ?_ (fun K hK => ?_) AllReadyH.nil
          rotate_left 1
          · (simp only [List.getElem?_toArray, List.getElem?_cons_succ, List.getElem?_cons_zero]; rfl)
          refine step_appg rfl (.tmp 32) (.tmp 52) 64 rfl RRow 22 [21] w.heap.size 24 _ Tryd.underlying64 rrow_info rfl (by decide) (by decide) _ _ rfl ho9 _ _ _ _ rfl (Slc.one_row (hv8.rowE hzd) w8.heap.size rfl) (fun _ h => h) (by rw [hbl, List.length_singleton]; omega) (by simp; omega) ?_; intro v11 w11 hv11 hst11 hg11 hob11; have e2 := e2.step hst11 (by decide); have e3 := e3.step hst11 (by decide); have e4 := e4.step hst11 (by decide); have hb11 := hb10.trans (hst11.below (by simp; omega)); have u2 := e2.cell 2; have u3 := e3.cell 1; have u4 := e4.cell 1; simp only [List.getElem?_toArray, List.getElem?_cons_succ, List.getElem?_cons_zero] at u2 u3 u4; have u5 := (hb11.cell (p := ⟨ab, off + n * 2, none⟩) hab).trans z0
          refine hK.out _ _ ?_ (fun hHeld => ?_)
          · ((try dsimp only); go_keep)
          clear hK K
          try simp only [Act.put, List.setIfInBounds_toArray, List.set_cons_zero, List.set_cons_succ]
          refine wpAnyH_take (i := 22) (oi := ?_) (v := ?_) ?_ (by kernel_rfl) (by kernel_rfl) (by kernel_rfl) ?_ (Or.inl ⟨?_, ?_⟩) (by assumption) ?_
          rotate_left 2
          · (simp only [List.getElem?_toArray, List.getElem?_cons_succ, List.getElem?_cons_zero]; rfl)
          rotate_left 1
          · rfl
          · (intro w hSw; (try dsimp only at hSw); go_simp; try with_reducible rfl)
          rotate_left 1
          · exact fun _ _ _ h => h
          try simp only [Act.put, List.setIfInBounds_toArray, List.set_cons_zero, List.set_cons_succ]
          refine wpAnyH_done (by kernel_rfl) ?_ _
          go_wp2
          go_roundw
          case rel => exact ⟨n + 1, by omega, by omega, by go_num, by rw [HSN.out]; exact hv11, e2, e3, e4, hb11⟩
          case measure => simp [intOf]; omega
end Go.Proofs.YtejhaepgbfngcaaDoor
