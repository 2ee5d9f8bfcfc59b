import Derived.Test.YtdjpdllehhecpaaGreatDoorQ20
import Derived.Test.YtdjpdllehhecpaaGreatDoorQ17
open List renaming getElem?_toArray → zA, getElem?_cons_succ → zB, getElem?_cons_zero → zC, setIfInBounds_toArray → zD, set_cons_zero → zE, set_cons_succ → zF
namespace Go.Proofs.YtdjpdllehhecpaaGreatDoor
open Go.RowKit
set_option linter.unusedVariables false
set_option linter.unusedSimpArgs false
section
variable {w w' : World} {I : Ids} {v : PenV}
theorem PenQ.dr (h : PenQ w I v) : PenQ w.drew I v := h.chg (S := fun _ => False) (Chg.refl _ w).dr (fun _ e => e.elim)
theorem PenQ.alloc (h : PenQ w I v) (o : Obj) : PenQ (w.alloc o) I v := h.chg (S := fun _ => False) ((Chg.refl _ w).alloc o) (fun _ e => e.elim)
theorem PenQ.cells (h : PenQ w I v) : w.cell? ⟨I.p, 0, none⟩ = some (.pointer (some ⟨I.g, 0, none⟩)) ∧ w.cell? ⟨I.p, 1, none⟩ = some (.int .i64 v.r) ∧ w.cell? ⟨I.p, 2, none⟩ = some (.int .i64 v.c) ∧ w.cell? ⟨I.p, 3, none⟩ = some (.bool v.pd) ∧ w.cell? ⟨I.p, 4, none⟩ = some (.bool true) :=
  ⟨h.blk.cell 0, h.blk.cell 1, h.blk.cell 2, h.blk.cell 3, h.blk.cell 4⟩
theorem PenQ.store3 (h : PenQ w I v) {r c : Nat} {pd : Bool} (hr : r < I.h) (hc : c < I.W) (hpd : pd = true → c = I.W - 1) :
    PenQ (((w.setCell ⟨I.p, 1, none⟩ (.int .i64 r)).setCell ⟨I.p, 2, none⟩ (.int .i64 c)).setCell ⟨I.p, 3, none⟩ (.bool pd)) I ⟨v.rows, r, c, pd⟩ ∧ Chg (· = I.p) w (((w.setCell ⟨I.p, 1, none⟩ (.int .i64 r)).setCell ⟨I.p, 2, none⟩ (.int .i64 c)).setCell ⟨I.p, 3, none⟩ (.bool pd)) := by
  have hb := ((h.blk.set_ 1 (.int .i64 r)).set_ 2 (.int .i64 c)).set_ 3 (.bool pd)
  have hch : Chg (· = I.p) w (((w.setCell ⟨I.p, 1, none⟩ (.int .i64 r)).setCell ⟨I.p, 2, none⟩ (.int .i64 c)).setCell ⟨I.p, 3, none⟩ (.bool pd)) := (((Chg.refl (· = I.p) w).set (p := ⟨I.p, 1, none⟩) (.inl rfl) _).set (p := ⟨I.p, 2, none⟩) (.inl rfl) _).set (p := ⟨I.p, 3, none⟩) (.inl rfl) _
  exact ⟨h.move hch hb hr hc hpd, hch⟩
theorem alloc_f (W : World) (t : TypeId) (cs : Array Value) : ∃ g W', W' = W.alloc (.cells cs t) ∧ g = W.heap.size ∧ Blk W' g t cs ∧ Below W.heap.size W W' :=
  ⟨_, _, rfl, rfl, Blk.new W t cs, (Below.refl _ W).alloc (Nat.le_refl _) _⟩
theorem store3_f {W : World} {g : Nat} {t : TypeId} {a b c : Value} (h : Blk W g t #[a, b, c]) (u v x : Value) : ∃ W', W' = ((W.setCell ⟨g, 0, none⟩ u).setCell ⟨g, 1, none⟩ v).setCell ⟨g, 2, none⟩ x ∧ Blk W' g t #[u, v, x] ∧ (∀ q : Addr, g ≠ q.block → W'.cell? q = W.cell? q) ∧ (∀ B a, Below B a W → B ≤ g → Below B a W') :=
  ⟨_, rfl, ((h.set_ 0 u).set_ 1 v).set_ 2 x, fun q hq => by rw [World.cell?_setCell_far _ _ _ _ hq, World.cell?_setCell_far _ _ _ _ hq, World.cell?_setCell_far _ _ _ _ hq], fun B a hb hB => ((hb.setCell (p := ⟨g, 0, none⟩) hB u).setCell (p := ⟨g, 1, none⟩) hB v).setCell (p := ⟨g, 2, none⟩) hB x⟩
theorem PenQ.hpos (h : PenQ w I v) : 1 ≤ I.h := by have := h.r; omega
theorem pWide_ok (h : PenQ w I v) : Calls Tryz.prog 26 #[.pointer (some ⟨I.g, 0, none⟩)] w fun e w' => e = .returned (.int .i64 I.W) ∧ w = w' := by
  have hp := h.hpos
  have h0 : 0 < (rowsPs I.db v.rows).length := by rw [rowsPs_len, h.high]; omega
  have := GWide_ok 0 _ _ w h.grid.gridP h0
  rw [rowsPs_at] at this
  have h1 : 0 < v.rows.length := by rw [h.high]; omega
  have e := (h.grid.row 0 _ (List.getElem?_eq_getElem h1)).2
  simp only at this
  rw [e] at this
  exact this
theorem pHigh_ok (h : PenQ w I v) : Calls Tryz.prog 27 #[.pointer (some ⟨I.g, 0, none⟩)] w fun e w' => e = .returned (.int .i64 I.h) ∧ w = w' := by
  have := GHigh_ok 0 _ _ w h.grid.gridP
  rw [rowsPs_len, h.high] at this
  exact this
theorem pRow_ok (h : PenQ w I v) {r : Nat} (hr : r < I.h) : Calls Tryz.prog 50 #[.pointer (some ⟨I.g, 0, none⟩), .int .i64 r] w fun e w' => e = .returned (.pointer (some ⟨I.db r, 0, none⟩)) ∧ w = w' := by
  have h1 : r < (rowsPs I.db v.rows).length := by rw [rowsPs_len, h.high]; exact hr
  have := GRow_in 0 _ _ r w h.grid.gridP h1
  rw [rowsPs_at] at this
  exact this
end
set_option maxHeartbeats 2000000 in
theorem ready_ok (I : Ids) (v : PenV) (w : World) (h : PenQ w I v) :
    Calls Tryz.prog 190 #[ptrB I.p] w fun e w' => e = .returned (.bool true) ∧ PenQ w' I v ∧ Chg (· = I.p) w w' := by
  obtain ⟨x0, x1, x2, x3, x4⟩ := h.cells
  have HWd := hide (pWide_ok h.dr)
  have HHi := hide (pHigh_ok h.dr)
  have HHo := hide (Hold_in v.r v.c v.pd I.W I.h (by have := h.w2; omega) (by have := h.w1; omega) (by have := h.hpos; omega) (by have := h.h1; omega) (by omega) (by have := h.r; omega) (by omega) (by have := h.c; omega) (fun e => by have := h.pd e; have := h.w2; omega) w.drew)
  have HQ := hide h
  have hpl := h.blk.lt
  obtain ⟨p, hp⟩ : ∃ p, I.p = p := ⟨_, rfl⟩
  obtain ⟨g, hg⟩ : ∃ g, I.g = g := ⟨_, rfl⟩
  obtain ⟨r, hr⟩ : ∃ r : Int, (v.r : Int) = r := ⟨_, rfl⟩
  obtain ⟨c, hc⟩ : ∃ c : Int, (v.c : Int) = c := ⟨_, rfl⟩
  obtain ⟨pd, hpd⟩ : ∃ pd, v.pd = pd := ⟨_, rfl⟩
  obtain ⟨W, hW⟩ : ∃ W : Int, (I.W : Int) = W := ⟨_, rfl⟩
  obtain ⟨hh, hhh⟩ : ∃ hh : Int, (I.h : Int) = hh := ⟨_, rfl⟩
  rw [hW, hg] at HWd
  rw [hhh, hg] at HHi
  rw [hr, hc, hpd, hW, hhh] at HHo
  rw [hp] at x0 x1 x2 x3 x4 hpl
  rw [hg] at x0
  rw [hr] at x1
  rw [hc] at x2
  rw [hpd] at x3
  have HI := hide (And.intro hp (And.intro hr (And.intro hc hpd)))
  have hbp := h.blk
  rw [hp] at hbp
  have HBP := hide hbp
  clear hbp h hg hr hc hpd hW hhh
  unfold ptrB
  rw [hp]
  clear hp
  unfold curA at HHo
  go_enter Tryz.func190, Tryz.ntmps190
  go_upto_region 3 with fail
  refine wp_region_late (S := fun w' => w'.cell? ⟨p, 0, none⟩ = some (.pointer (some ⟨g, 0, none⟩)) ∧ w'.cell? ⟨p, 1, none⟩ = some (.int .i64 r) ∧ w'.cell? ⟨p, 2, none⟩ = some (.int .i64 c) ∧ w'.cell? ⟨p, 3, none⟩ = some (.bool pd)) [18] (by kernel_rfl) (by exact ⟨x0, x1, x2, x3⟩) (fun hHeld => ?_)
  refine wpAnyT_take (i := 0) (oi := ?_) (v := ?_) ?_ (by kernel_rfl) (by kernel_rfl) (by kernel_rfl) (by kernel_rfl) (by kernel_rfl) ?_ (Or.inl ⟨?_, ?_⟩) (by assumption) ?_
  rotate_left 2
  · (simp only [zA, zB, zC]; rfl)
  rotate_left 1
  · rfl
  · (intro w hSw; (try dsimp only at hSw); go_simp; try with_reducible rfl)
  rotate_left 1
  · exact fun _ _ _ h => h
  try simp only [Act.put, zD, zE, zF]
  refine wpAnyT_take (i := 1) (oi := ?_) (v := ?_) ?_ (by kernel_rfl) (by kernel_rfl) (by kernel_rfl) (by kernel_rfl) (by kernel_rfl) ?_ (Or.inl ⟨?_, ?_⟩) (by assumption) ?_
  rotate_left 2
  · (simp only [zA, zB, zC]; rfl)
  rotate_left 1
  · rfl
  · (intro w hSw; (try dsimp only at hSw); go_simp; try with_reducible rfl)
  rotate_left 1
  · exact fun _ _ _ h => h
  try simp only [Act.put, zD, zE, zF]
  refine wpAnyT_take (i := 2) (oi := ?_) (v := ?_) ?_ (by kernel_rfl) (by kernel_rfl) (by kernel_rfl) (by kernel_rfl) (by kernel_rfl) ?_ (Or.inl ⟨?_, ?_⟩) (by assumption) ?_
  rotate_left 2
  · (simp only [zA, zB, zC]; rfl)
  rotate_left 1
  · rfl
  · (intro w hSw; (try dsimp only at hSw); go_simp; try with_reducible rfl)
  rotate_left 1
  · exact fun _ _ _ h => h
  try simp only [Act.put, zD, zE, zF]
  refine wpAnyT_take (i := 3) (oi := ?_) (v := ?_) ?_ (by kernel_rfl) (by kernel_rfl) (by kernel_rfl) (by kernel_rfl) (by kernel_rfl) ?_ (Or.inl ⟨?_, ?_⟩) (by assumption) ?_
  rotate_left 2
  · (simp only [zA, zB, zC]; rfl)
  rotate_left 1
  · rfl
  · (intro w hSw; (try dsimp only at hSw); go_simp; try with_reducible rfl)
  rotate_left 1
  · exact fun _ _ _ h => h
  try simp only [Act.put, zD, zE, zF]
  refine wpAnyT_take (i := 4) (oi := ?_) (v := ?_) ?_ (by kernel_rfl) (by kernel_rfl) (by kernel_rfl) (by kernel_rfl) (by kernel_rfl) ?_ (Or.inl ⟨?_, ?_⟩) (by assumption) ?_
  rotate_left 2
  · (simp only [zA, zB, zC]; rfl)
  rotate_left 1
  · rfl
  · (intro w hSw; (try dsimp only at hSw); go_simp; try with_reducible rfl)
  rotate_left 1
  · exact fun _ _ _ h => h
  try simp only [Act.put, zD, zE, zF]
  refine wpAnyT_take (i := 5) (oi := ?_) (v := ?_) ?_ (by kernel_rfl) (by kernel_rfl) (by kernel_rfl) (by kernel_rfl) (by kernel_rfl) ?_ (Or.inl ⟨?_, ?_⟩) (by assumption) ?_
  rotate_left 2
  · (simp only [zA, zB, zC]; rfl)
  rotate_left 1
  · rfl
  · (intro w hSw; (try dsimp only at hSw); go_simp; try with_reducible rfl)
  rotate_left 1
  · exact fun _ _ _ h => h
  try simp only [Act.put, zD, zE, zF]
  refine wpAnyT_take (i := 6) (oi := ?_) (v := ?_) ?_ (by kernel_rfl) (by kernel_rfl) (by kernel_rfl) (by kernel_rfl) (by kernel_rfl) ?_ (Or.inl ⟨?_, ?_⟩) (by assumption) ?_
  rotate_left 2
  · (simp only [zA, zB, zC]; rfl)
  rotate_left 1
  · rfl
  · (intro w hSw; (try dsimp only at hSw); go_simp; try with_reducible rfl)
  rotate_left 1
  · exact fun _ _ _ h => h
  try simp only [Act.put, zD, zE, zF]
  refine wpAnyT_take (i := 7) (oi := ?_) (v := ?_) ?_ (by kernel_rfl) (by kernel_rfl) (by kernel_rfl) (by kernel_rfl) (by kernel_rfl) ?_ (Or.inl ⟨?_, ?_⟩) (by assumption) ?_
  rotate_left 2
  · (simp only [zA, zB, zC]; rfl)
  rotate_left 1
  · rfl
  · (intro w hSw; (try dsimp only at hSw); go_simp; try with_reducible rfl)
  rotate_left 1
  · exact fun _ _ _ h => h
  try simp only [Act.put, zD, zE, zF]
  refine wpAnyT_take (i := 8) (oi := ?_) (v := ?_) ?_ (by kernel_rfl) (by kernel_rfl) (by kernel_rfl) (by kernel_rfl) (by kernel_rfl) ?_ (Or.inl ⟨?_, ?_⟩) (by assumption) ?_
  rotate_left 2
  · (simp only [zA, zB, zC]; rfl)
  rotate_left 1
  · rfl
  · (intro w hSw; (try dsimp only at hSw); go_simp; try with_reducible rfl)
  rotate_left 1
  · exact fun _ _ _ h => h
  try simp only [Act.put, zD, zE, zF]
  refine wpAnyT_take (i := 10) (oi := ?_) (v := ?_) ?_ (by kernel_rfl) (by kernel_rfl) (by kernel_rfl) (by kernel_rfl) (by kernel_rfl) ?_ (Or.inl ⟨?_, ?_⟩) (by assumption) ?_
  rotate_left 2
  · (simp only [zA, zB, zC]; rfl)
  rotate_left 1
  · rfl
  · (intro w hSw; (try dsimp only at hSw); go_simp; try with_reducible rfl)
  rotate_left 1
  · exact fun _ _ _ h => h
  try simp only [Act.put, zD, zE, zF]
  refine wpAnyT_take (i := 11) (oi := ?_) (v := ?_) ?_ (by kernel_rfl) (by kernel_rfl) (by kernel_rfl) (by kernel_rfl) (by kernel_rfl) ?_ (Or.inl ⟨?_, ?_⟩) (by assumption) ?_
  rotate_left 2
  · (simp only [zA, zB, zC]; rfl)
  rotate_left 1
  · rfl
  · (intro w hSw; (try dsimp only at hSw); go_simp; try with_reducible rfl)
  rotate_left 1
  · exact fun _ _ _ h => h
  try simp only [Act.put, zD, zE, zF]
  refine wpAnyT_take (i := 12) (oi := ?_) (v := ?_) ?_ (by kernel_rfl) (by kernel_rfl) (by kernel_rfl) (by kernel_rfl) (by kernel_rfl) ?_ (Or.inl ⟨?_, ?_⟩) (by assumption) ?_
  rotate_left 2
  · (simp only [zA, zB, zC]; rfl)
  rotate_left 1
  · rfl
  · (intro w hSw; (try dsimp only at hSw); go_simp; try with_reducible rfl)
  rotate_left 1
  · exact fun _ _ _ h => h
  try simp only [Act.put, zD, zE, zF]
  refine wpAnyT_take (i := 13) (oi := ?_) (v := ?_) ?_ (by kernel_rfl) (by kernel_rfl) (by kernel_rfl) (by kernel_rfl) (by kernel_rfl) ?_ (Or.inl ⟨?_, ?_⟩) (by assumption) ?_
  rotate_left 2
  · (simp only [zA, zB, zC]; rfl)
  rotate_left 1
  · rfl
  · (intro w hSw; (try dsimp only at hSw); go_simp; try with_reducible rfl)
  rotate_left 1
  · exact fun _ _ _ h => h
  try simp only [Act.put, zD, zE, zF]
  refine wpAnyT_ready (rs := [9]) (by kernel_rfl) (by simp) ?_
  refine AllReadyT.cons (o := ?_) ?_ (fun K hK => ?_) AllReadyT.nil
  rotate_left 1
  · (simp only [zA, zB, zC]; rfl)
  go_simp
  (go_at_call 26; refine HWd.out.mono ?_; rintro e w' ⟨rfl, rfl⟩)
  refine hK.out _ _ ?_ (fun hHeld => ?_)
  · ((try dsimp only); go_keep)
  clear hK K
  try simp only [Act.put, zD, zE, zF]
  refine wpAnyT_ready (rs := [14]) (by kernel_rfl) (by simp) ?_
  refine AllReadyT.cons (o := ?_) ?_ (fun K hK => ?_) AllReadyT.nil
  rotate_left 1
  · (simp only [zA, zB, zC]; rfl)
  go_simp
  (go_at_call 27; refine HHi.out.mono ?_; rintro e w' ⟨rfl, rfl⟩)
  refine hK.out _ _ ?_ (fun hHeld => ?_)
  · ((try dsimp only); go_keep)
  clear hK K
  try simp only [Act.put, zD, zE, zF]
  refine wpAnyT_ready (rs := [15]) (by kernel_rfl) (by simp) ?_
  refine AllReadyT.cons (o := ?_) ?_ (fun K hK => ?_) AllReadyT.nil
  rotate_left 1
  · (simp only [zA, zB, zC]; rfl)
  go_simp
  (go_at_call 63; refine HHo.out.mono ?_; rintro e w3 ⟨rfl, hb3⟩; have hb : Blk w3 p 76 _ := HBP.out.dr.same hb3; have y0 := (hb3.cell (p := ⟨p, 0, none⟩) hpl).trans x0; have y1 := (hb3.cell (p := ⟨p, 1, none⟩) hpl).trans x1; have y2 := (hb3.cell (p := ⟨p, 2, none⟩) hpl).trans x2; have y3 := (hb3.cell (p := ⟨p, 3, none⟩) hpl).trans x3; have f1 := hb.frozen 1; have f2 := hb.frozen 2; have f3 := hb.frozen 3; have HBL := hide hb; have HB3 := hide hb3; clear hb hb3)
  refine hK.out _ _ ?_ (fun hHeld => ?_)
  · ((try dsimp only); go_keep)
  clear hK K
  try simp only [Act.put, zD, zE, zF]
  refine wpAnyT_take (i := 16) (oi := ?_) (v := ?_) ?_ (by kernel_rfl) (by kernel_rfl) (by kernel_rfl) (by kernel_rfl) (by kernel_rfl) ?_ (Or.inl ⟨?_, ?_⟩) (by assumption) ?_
  rotate_left 2
  · (simp only [zA, zB, zC]; rfl)
  rotate_left 1
  · rfl
  · (intro w hSw; (try dsimp only at hSw); go_simp; try with_reducible rfl)
  rotate_left 1
  · exact fun _ _ _ h => h
  try simp only [Act.put, zD, zE, zF]
  refine wpAnyT_take (i := 17) (oi := ?_) (v := ?_) ?_ (by kernel_rfl) (by kernel_rfl) (by kernel_rfl) (by kernel_rfl) (by kernel_rfl) ?_ (Or.inl ⟨?_, ?_⟩) (by assumption) ?_
  rotate_left 2
  · (simp only [zA, zB, zC]; rfl)
  rotate_left 1
  · rfl
  · (intro w hSw; (try dsimp only at hSw); go_simp; try with_reducible rfl)
  rotate_left 1
  · exact fun _ _ _ h => h
  try simp only [Act.put, zD, zE, zF]
  refine wpAnyT_ready (rs := [18]) (by kernel_rfl) (by simp) ?_
  refine AllReadyT.consL (o := ?_) ?_ (by kernel_rfl) (fun K hK => ?_) AllReadyT.nil
  rotate_left 1
  · (simp only [zA, zB, zC]; rfl)
  go_simp
  refine hK.out _ _ ?_
  clear hK K
  try simp only [Act.put, zD, zE, zF]
  refine wpAnyT_done (by kernel_rfl) ?_ _
  clear hHeld y0 y1 y2 y3
  go_wp2
  go_ret
  obtain ⟨hp, hr, hc, hpd⟩ := HI.out
  subst hp; subst hr; subst hc; subst hpd
  have h3 := HQ.out.dr.below HB3.out
  obtain ⟨k1, k2⟩ := h3.store3 h3.r h3.c h3.pd
  exact ⟨rfl, k1, ((Chg.refl _ w).dr.trans (Chg.of_below HB3.out)).trans k2⟩
set_option maxHeartbeats 2000000 in
theorem NewLine_ok (I : Ids) (v : PenV) (w : World) (h : PenQ w I v) (hr1 : v.r + 1 < I.h) :
    Calls Tryz.prog 162 #[ptrB I.p] w fun e w' => (∃ r, e = .returned r) ∧ PenQ w' I ⟨v.rows, v.r + 1, v.c, false⟩ ∧ Chg (· = I.p) w w' := by
  have HR := hide (ready_ok I v w h)
  have hdn := Down_ok v.r v.c v.pd I.h (by have := h.h1; omega) (by omega) (by omega)
  have HD := hide hdn
  obtain ⟨p, hp⟩ : ∃ p, I.p = p := ⟨_, rfl⟩
  obtain ⟨g, hg⟩ : ∃ g, I.g = g := ⟨_, rfl⟩
  obtain ⟨r, hr⟩ : ∃ r : Int, (v.r : Int) = r := ⟨_, rfl⟩
  obtain ⟨c, hc⟩ : ∃ c : Int, (v.c : Int) = c := ⟨_, rfl⟩
  obtain ⟨pd, hpd⟩ : ∃ pd, v.pd = pd := ⟨_, rfl⟩
  obtain ⟨hh, hhh⟩ : ∃ hh : Int, (I.h : Int) = hh := ⟨_, rfl⟩
  have HI := hide (And.intro hp (And.intro hg (And.intro hr (And.intro hc (And.intro hpd hhh)))))
  have HBD := hide (And.intro hr1 (And.intro h.c h.w2))
  rw [hr, hc, hpd, hhh] at HD
  clear hdn h hg hr hc hpd hhh hr1
  unfold ptrB at HR ⊢
  rw [hp] at HR ⊢
  clear hp
  unfold curA at HD
  go_enter Tryz.func162, Tryz.ntmps162
  go_wp2_with fail
  refine HR.out.mono ?_
  rintro e w1 ⟨rfl, hq1, hch1⟩
  have HHi := fun W (hW : Below w1.heap.size w1 W) => pHigh_ok (hq1.below hW)
  obtain ⟨x0, x1, x2, x3, x4⟩ := hq1.cells
  have hpl := hq1.blk.lt
  have HQ1 := hide hq1
  have HC1 := hide hch1
  obtain ⟨hp, hg, hr, hc, hpd, hhh⟩ := HI.out
  rw [hg, hhh] at HHi
  rw [hp] at x0 x1 x2 x3 x4 hpl
  rw [hg] at x0
  rw [hr] at x1
  rw [hc] at x2
  rw [hpd] at x3
  have HHH := hide HHi
  clear hq1 hch1 HHi hp hg hr hc hpd hhh
  go_upto_region 1 with fail
  go_cut [2, 3] from 2 to 19 (fun s t wx => ∃ g2, s = .pointer (some ⟨g2, 0, none⟩) ∧ t = .bool false ∧ Blk wx g2 39 #[.int .i64 (r + 1), .int .i64 c, .bool false] ∧ Below w1.heap.size w1 wx)
  case first =>
    have hbn : Below w1.heap.size w1 w1.drew := below_dr (Below.refl _ _)
    refine wp_region_held_drew (S := fun w' => w'.cell? ⟨p, 0, none⟩ = some (.pointer (some ⟨g, 0, none⟩)) ∧ w'.cell? ⟨p, 1, none⟩ = some (.int .i64 r) ∧ w'.cell? ⟨p, 2, none⟩ = some (.int .i64 c) ∧ w'.cell? ⟨p, 3, none⟩ = some (.bool pd)) (by kernel_rfl) (by exact ⟨x0, x1, x2, x3⟩) (fun hHeld => ?_)
    obtain ⟨wd, hwd⟩ : ∃ wd, w1.drew = wd := ⟨_, rfl⟩
    rw [hwd] at hbn hHeld ⊢
    have hH := hHeld
    obtain ⟨x0, x1, x2, x3⟩ := hH
    clear hwd
    refine wpAnyH_take (i := 0) (oi := ?_) (v := ?_) ?_ (by kernel_rfl) (by kernel_rfl) (by kernel_rfl) ?_ (Or.inl ⟨?_, ?_⟩) (by assumption) ?_
    rotate_left 2
    · (simp only [zA, zB, zC]; rfl)
    rotate_left 1
    · rfl
    · (intro w hSw; (try dsimp only at hSw); go_simp; try with_reducible rfl)
    rotate_left 1
    · exact fun _ _ _ h => h
    try simp only [Act.put, zD, zE, zF]
    refine wpAnyH_take (i := 1) (oi := ?_) (v := ?_) ?_ (by kernel_rfl) (by kernel_rfl) (by kernel_rfl) ?_ (Or.inl ⟨?_, ?_⟩) (by assumption) ?_
    rotate_left 2
    · (simp only [zA, zB, zC]; rfl)
    rotate_left 1
    · rfl
    · (intro w hSw; (try dsimp only at hSw); go_simp; try with_reducible rfl)
    rotate_left 1
    · exact fun _ _ _ h => h
    try simp only [Act.put, zD, zE, zF]
    refine wpAnyH_take (i := 2) (oi := ?_) (v := ?_) ?_ (by kernel_rfl) (by kernel_rfl) (by kernel_rfl) ?_ (Or.inl ⟨?_, ?_⟩) (by assumption) ?_
    rotate_left 2
    · (simp only [zA, zB, zC]; rfl)
    rotate_left 1
    · rfl
    · (intro w hSw; (try dsimp only at hSw); go_simp; try with_reducible rfl)
    rotate_left 1
    · exact fun _ _ _ h => h
    try simp only [Act.put, zD, zE, zF]
    refine wpAnyH_take (i := 3) (oi := ?_) (v := ?_) ?_ (by kernel_rfl) (by kernel_rfl) (by kernel_rfl) ?_ (Or.inl ⟨?_, ?_⟩) (by assumption) ?_
    rotate_left 2
    · (simp only [zA, zB, zC]; rfl)
    rotate_left 1
    · rfl
    · (intro w hSw; (try dsimp only at hSw); go_simp; try with_reducible rfl)
    rotate_left 1
    · exact fun _ _ _ h => h
    try simp only [Act.put, zD, zE, zF]
    refine wpAnyH_take (i := 4) (oi := ?_) (v := ?_) ?_ (by kernel_rfl) (by kernel_rfl) (by kernel_rfl) ?_ (Or.inl ⟨?_, ?_⟩) (by assumption) ?_
    rotate_left 2
    · (simp only [zA, zB, zC]; rfl)
    rotate_left 1
    · rfl
    · (intro w hSw; (try dsimp only at hSw); go_simp; try with_reducible rfl)
    rotate_left 1
    · exact fun _ _ _ h => h
    try simp only [Act.put, zD, zE, zF]
    refine wpAnyH_take (i := 5) (oi := ?_) (v := ?_) ?_ (by kernel_rfl) (by kernel_rfl) (by kernel_rfl) ?_ (Or.inl ⟨?_, ?_⟩) (by assumption) ?_
    rotate_left 2
    · (simp only [zA, zB, zC]; rfl)
    rotate_left 1
    · rfl
    · (intro w hSw; (try dsimp only at hSw); go_simp; try with_reducible rfl)
    rotate_left 1
    · exact fun _ _ _ h => h
    try simp only [Act.put, zD, zE, zF]
    refine wpAnyH_take (i := 6) (oi := ?_) (v := ?_) ?_ (by kernel_rfl) (by kernel_rfl) (by kernel_rfl) ?_ (Or.inl ⟨?_, ?_⟩) (by assumption) ?_
    rotate_left 2
    · (simp only [zA, zB, zC]; rfl)
    rotate_left 1
    · rfl
    · (intro w hSw; (try dsimp only at hSw); go_simp; try with_reducible rfl)
    rotate_left 1
    · exact fun _ _ _ h => h
    try simp only [Act.put, zD, zE, zF]
    refine wpAnyH_take (i := 7) (oi := ?_) (v := ?_) ?_ (by kernel_rfl) (by kernel_rfl) (by kernel_rfl) ?_ (Or.inl ⟨?_, ?_⟩) (by assumption) ?_
    rotate_left 2
    · (simp only [zA, zB, zC]; rfl)
    rotate_left 1
    · rfl
    · (intro w hSw; (try dsimp only at hSw); go_simp; try with_reducible rfl)
    rotate_left 1
    · exact fun _ _ _ h => h
    try simp only [Act.put, zD, zE, zF]
    refine wpAnyH_ready (rs := [8, 13]) (by kernel_rfl) (by simp) ?_
    refine AllReadyH.cons (o := ?_) ?_ (fun K hK => ?_) ?_
    rotate_left 1
    · (simp only [zA, zB, zC]; rfl)
    · go_simp
      (go_at_call 27; refine (HHH.out _ hbn).mono ?_; rintro e w' ⟨rfl, rfl⟩)
      refine hK.out _ _ ?_ (fun hHeld => ?_)
      · exact ⟨x0, x1, x2, x3⟩
      clear hK K
      try simp only [Act.put, zD, zE, zF]
      refine wpAnyH_ready (rs := [9, 13]) (by kernel_rfl) (by simp) ?_
      refine AllReadyH.cons (o := ?_) ?_ (fun K hK => ?_) ?_
      rotate_left 1
      · (simp only [zA, zB, zC]; rfl)
      · go_simp
        (go_at_call 191; refine (HD.out _).mono ?_; rintro e wn ⟨rfl, hcn⟩; have hplt := Nat.lt_of_lt_of_le hpl hbn.size; have hbn := hbn.trans (hcn.mono hbn.size); have x0 := (hcn.cell (p := ⟨p, 0, none⟩) hplt).trans x0; have x1 := (hcn.cell (p := ⟨p, 1, none⟩) hplt).trans x1; have x2 := (hcn.cell (p := ⟨p, 2, none⟩) hplt).trans x2; have x3 := (hcn.cell (p := ⟨p, 3, none⟩) hplt).trans x3; clear hcn hplt)
        refine hK.out _ _ ?_ (fun hHeld => ?_)
        · exact ⟨x0, x1, x2, x3⟩
        clear hK K
        try simp only [Act.put, zD, zE, zF]
        refine wpAnyH_take (i := 10) (oi := ?_) (v := ?_) ?_ (by kernel_rfl) (by kernel_rfl) (by kernel_rfl) ?_ (Or.inl ⟨?_, ?_⟩) (by assumption) ?_
        rotate_left 2
        · (simp only [zA, zB, zC]; rfl)
        rotate_left 1
        · rfl
        · (intro w hSw; (try dsimp only at hSw); go_simp; try with_reducible rfl)
        rotate_left 1
        · exact fun _ _ _ h => h
        try simp only [Act.put, zD, zE, zF]
        refine wpAnyH_take (i := 11) (oi := ?_) (v := ?_) ?_ (by kernel_rfl) (by kernel_rfl) (by kernel_rfl) ?_ (Or.inl ⟨?_, ?_⟩) (by assumption) ?_
        rotate_left 2
        · (simp only [zA, zB, zC]; rfl)
        rotate_left 1
        · rfl
        · (intro w hSw; (try dsimp only at hSw); go_simp; try with_reducible rfl)
        rotate_left 1
        · exact fun _ _ _ h => h
        try simp only [Act.put, zD, zE, zF]
        refine wpAnyH_take (i := 12) (oi := ?_) (v := ?_) ?_ (by kernel_rfl) (by kernel_rfl) (by kernel_rfl) ?_ (Or.inl ⟨?_, ?_⟩) (by assumption) ?_
        rotate_left 2
        · (simp only [zA, zB, zC]; rfl)
        rotate_left 1
        · rfl
        · (intro w hSw; (try dsimp only at hSw); go_simp; try with_reducible rfl)
        rotate_left 1
        · exact fun _ _ _ h => h
        try simp only [Act.put, zD, zE, zF]
        refine wpAnyH_ready (rs := [13]) (by kernel_rfl) (by simp) ?_
        refine AllReadyH.cons (o := ?_) ?_ (fun K hK => ?_) AllReadyH.nil
        rotate_left 1
        · (simp only [zA, zB, zC]; rfl)
        go_simp
        obtain ⟨g2, wn, hwn, hg2, bg, hcn⟩ := alloc_f _ 39 #[.int .i64 0, .int .i64 0, .bool false]
        rw [← hwn, ← hg2]
        have hgw : w1.heap.size ≤ g2 := by rw [hg2]; exact hbn.size
        (have hplt := Nat.lt_of_lt_of_le hpl hbn.size; have hbn := hbn.trans (hcn.mono hbn.size); have x0 := (hcn.cell (p := ⟨p, 0, none⟩) hplt).trans x0; have x1 := (hcn.cell (p := ⟨p, 1, none⟩) hplt).trans x1; have x2 := (hcn.cell (p := ⟨p, 2, none⟩) hplt).trans x2; have x3 := (hcn.cell (p := ⟨p, 3, none⟩) hplt).trans x3; clear hcn hplt hwn hg2)
        refine hK.out _ _ ?_ (fun hHeld => ?_)
        · exact ⟨x0, x1, x2, x3⟩
        clear hK K
        try simp only [Act.put, zD, zE, zF]
        refine wpAnyH_ready (rs := [14]) (by kernel_rfl) (by simp) ?_
        refine AllReadyH.cons (o := ?_) ?_ (fun K hK => ?_) AllReadyH.nil
        rotate_left 1
        · (simp only [zA, zB, zC]; rfl)
        have k0 := bg.cell 0
        have k1 := bg.cell 1
        have k2 := bg.cell 2
        have f0 := bg.frozen 0
        have f1 := bg.frozen 1
        have f2 := bg.frozen 2
        simp only [zA, zB, zC] at k0 k1 k2
        go_simp
        obtain ⟨wn, hwn, bn, hfar, hbf⟩ := store3_f bg (.int .i64 (r + 1)) (.int .i64 c) (.bool false)
        rw [← hwn]
        have hbn := hbf _ _ hbn hgw
        have hne : g2 ≠ p := by omega
        have x0 := (hfar ⟨p, 0, none⟩ hne).trans x0
        have x1 := (hfar ⟨p, 1, none⟩ hne).trans x1
        have x2 := (hfar ⟨p, 2, none⟩ hne).trans x2
        have x3 := (hfar ⟨p, 3, none⟩ hne).trans x3
        have bg := bn
        clear hwn bn hfar hbf k0 k1 k2 f0 f1 f2 hne
        refine hK.out _ _ ?_ (fun hHeld => ?_)
        · exact ⟨x0, x1, x2, x3⟩
        clear hK K
        try simp only [Act.put, zD, zE, zF]
        refine wpAnyH_take (i := 15) (oi := ?_) (v := ?_) ?_ (by kernel_rfl) (by kernel_rfl) (by kernel_rfl) ?_ (Or.inl ⟨?_, ?_⟩) (by assumption) ?_
        rotate_left 2
        · (simp only [zA, zB, zC]; rfl)
        rotate_left 1
        · rfl
        · (intro w hSw; (try dsimp only at hSw); go_simp; try with_reducible rfl)
        rotate_left 1
        · exact fun _ _ _ h => h
        try simp only [Act.put, zD, zE, zF]
        refine wpAnyH_done (by kernel_rfl) ?_ _
        go_wp2
        go_meet
        exact ⟨g2, rfl, rfl, bg, hbn⟩
      refine AllReadyH.cons (o := ?_) ?_ (fun K hK => ?_) AllReadyH.nil
      rotate_left 1
      · (simp only [zA, zB, zC]; rfl)
      go_simp
      obtain ⟨g2, wn, hwn, hg2, bg, hcn⟩ := alloc_f _ 39 #[.int .i64 0, .int .i64 0, .bool false]
      rw [← hwn, ← hg2]
      have hgw : w1.heap.size ≤ g2 := by rw [hg2]; exact hbn.size
      (have hplt := Nat.lt_of_lt_of_le hpl hbn.size; have hbn := hbn.trans (hcn.mono hbn.size); have x0 := (hcn.cell (p := ⟨p, 0, none⟩) hplt).trans x0; have x1 := (hcn.cell (p := ⟨p, 1, none⟩) hplt).trans x1; have x2 := (hcn.cell (p := ⟨p, 2, none⟩) hplt).trans x2; have x3 := (hcn.cell (p := ⟨p, 3, none⟩) hplt).trans x3; clear hcn hplt hwn hg2)
      refine hK.out _ _ ?_ (fun hHeld => ?_)
      · exact ⟨x0, x1, x2, x3⟩
      clear hK K
      try simp only [Act.put, zD, zE, zF]
      refine wpAnyH_ready (rs := [9]) (by kernel_rfl) (by simp) ?_
      refine AllReadyH.cons (o := ?_) ?_ (fun K hK => ?_) AllReadyH.nil
      rotate_left 1
      · (simp only [zA, zB, zC]; rfl)
      go_simp
      (go_at_call 191; refine (HD.out _).mono ?_; rintro e wn ⟨rfl, hcn⟩; have hplt := Nat.lt_of_lt_of_le hpl hbn.size; have hbn := hbn.trans (hcn.mono hbn.size); have x0 := (hcn.cell (p := ⟨p, 0, none⟩) hplt).trans x0; have x1 := (hcn.cell (p := ⟨p, 1, none⟩) hplt).trans x1; have x2 := (hcn.cell (p := ⟨p, 2, none⟩) hplt).trans x2; have x3 := (hcn.cell (p := ⟨p, 3, none⟩) hplt).trans x3; have bg := bg.same hcn; clear hcn hplt)
      refine hK.out _ _ ?_ (fun hHeld => ?_)
      · exact ⟨x0, x1, x2, x3⟩
      clear hK K
      try simp only [Act.put, zD, zE, zF]
      refine wpAnyH_take (i := 10) (oi := ?_) (v := ?_) ?_ (by kernel_rfl) (by kernel_rfl) (by kernel_rfl) ?_ (Or.inl ⟨?_, ?_⟩) (by assumption) ?_
      rotate_left 2
      · (simp only [zA, zB, zC]; rfl)
      rotate_left 1
      · rfl
      · (intro w hSw; (try dsimp only at hSw); go_simp; try with_reducible rfl)
      rotate_left 1
      · exact fun _ _ _ h => h
      try simp only [Act.put, zD, zE, zF]
      refine wpAnyH_take (i := 11) (oi := ?_) (v := ?_) ?_ (by kernel_rfl) (by kernel_rfl) (by kernel_rfl) ?_ (Or.inl ⟨?_, ?_⟩) (by assumption) ?_
      rotate_left 2
      · (simp only [zA, zB, zC]; rfl)
      rotate_left 1
      · rfl
      · (intro w hSw; (try dsimp only at hSw); go_simp; try with_reducible rfl)
      rotate_left 1
      · exact fun _ _ _ h => h
      try simp only [Act.put, zD, zE, zF]
      refine wpAnyH_take (i := 12) (oi := ?_) (v := ?_) ?_ (by kernel_rfl) (by kernel_rfl) (by kernel_rfl) ?_ (Or.inl ⟨?_, ?_⟩) (by assumption) ?_
      rotate_left 2
      · (simp only [zA, zB, zC]; rfl)
      rotate_left 1
      · rfl
      · (intro w hSw; (try dsimp only at hSw); go_simp; try with_reducible rfl)
      rotate_left 1
      · exact fun _ _ _ h => h
      try simp only [Act.put, zD, zE, zF]
      refine wpAnyH_ready (rs := [14]) (by kernel_rfl) (by simp) ?_
      refine AllReadyH.cons (o := ?_) ?_ (fun K hK => ?_) AllReadyH.nil
      rotate_left 1
      · (simp only [zA, zB, zC]; rfl)
      have k0 := bg.cell 0
      have k1 := bg.cell 1
      have k2 := bg.cell 2
      have f0 := bg.frozen 0
      have f1 := bg.frozen 1
      have f2 := bg.frozen 2
      simp only [zA, zB, zC] at k0 k1 k2
      go_simp
      obtain ⟨wn, hwn, bn, hfar, hbf⟩ := store3_f bg (.int .i64 (r + 1)) (.int .i64 c) (.bool false)
      rw [← hwn]
      have hbn := hbf _ _ hbn hgw
      have hne : g2 ≠ p := by omega
      have x0 := (hfar ⟨p, 0, none⟩ hne).trans x0
      have x1 := (hfar ⟨p, 1, none⟩ hne).trans x1
      have x2 := (hfar ⟨p, 2, none⟩ hne).trans x2
      have x3 := (hfar ⟨p, 3, none⟩ hne).trans x3
      have bg := bn
      clear hwn bn hfar hbf k0 k1 k2 f0 f1 f2 hne
      refine hK.out _ _ ?_ (fun hHeld => ?_)
      · exact ⟨x0, x1, x2, x3⟩
      clear hK K
      try simp only [Act.put, zD, zE, zF]
      refine wpAnyH_take (i := 15) (oi := ?_) (v := ?_) ?_ (by kernel_rfl) (by kernel_rfl) (by kernel_rfl) ?_ (Or.inl ⟨?_, ?_⟩) (by assumption) ?_
      rotate_left 2
      · (simp only [zA, zB, zC]; rfl)
      rotate_left 1
      · rfl
      · (intro w hSw; (try dsimp only at hSw); go_simp; try with_reducible rfl)
      rotate_left 1
      · exact fun _ _ _ h => h
      try simp only [Act.put, zD, zE, zF]
      refine wpAnyH_done (by kernel_rfl) ?_ _
      go_wp2
      go_meet
      exact ⟨g2, rfl, rfl, bg, hbn⟩
    refine AllReadyH.cons (o := ?_) ?_ (fun K hK => ?_) AllReadyH.nil
    rotate_left 1
    · (simp only [zA, zB, zC]; rfl)
    go_simp
    obtain ⟨g2, wn, hwn, hg2, bg, hcn⟩ := alloc_f _ 39 #[.int .i64 0, .int .i64 0, .bool false]
    rw [← hwn, ← hg2]
    have hgw : w1.heap.size ≤ g2 := by rw [hg2]; exact hbn.size
    (have hplt := Nat.lt_of_lt_of_le hpl hbn.size; have hbn := hbn.trans (hcn.mono hbn.size); have x0 := (hcn.cell (p := ⟨p, 0, none⟩) hplt).trans x0; have x1 := (hcn.cell (p := ⟨p, 1, none⟩) hplt).trans x1; have x2 := (hcn.cell (p := ⟨p, 2, none⟩) hplt).trans x2; have x3 := (hcn.cell (p := ⟨p, 3, none⟩) hplt).trans x3; clear hcn hplt hwn hg2)
    refine hK.out _ _ ?_ (fun hHeld => ?_)
    · exact ⟨x0, x1, x2, x3⟩
    clear hK K
    try simp only [Act.put, zD, zE, zF]
    refine wpAnyH_ready (rs := [8]) (by kernel_rfl) (by simp) ?_
    refine AllReadyH.cons (o := ?_) ?_ (fun K hK => ?_) AllReadyH.nil
    rotate_left 1
    · (simp only [zA, zB, zC]; rfl)
    go_simp
    (go_at_call 27; refine (HHH.out _ hbn).mono ?_; rintro e w' ⟨rfl, rfl⟩)
    refine hK.out _ _ ?_ (fun hHeld => ?_)
    · exact ⟨x0, x1, x2, x3⟩
    clear hK K
    try simp only [Act.put, zD, zE, zF]
    refine wpAnyH_ready (rs := [9]) (by kernel_rfl) (by simp) ?_
    refine AllReadyH.cons (o := ?_) ?_ (fun K hK => ?_) AllReadyH.nil
    rotate_left 1
    · (simp only [zA, zB, zC]; rfl)
    go_simp
    (go_at_call 191; refine (HD.out _).mono ?_; rintro e wn ⟨rfl, hcn⟩; have hplt := Nat.lt_of_lt_of_le hpl hbn.size; have hbn := hbn.trans (hcn.mono hbn.size); have x0 := (hcn.cell (p := ⟨p, 0, none⟩) hplt).trans x0; have x1 := (hcn.cell (p := ⟨p, 1, none⟩) hplt).trans x1; have x2 := (hcn.cell (p := ⟨p, 2, none⟩) hplt).trans x2; have x3 := (hcn.cell (p := ⟨p, 3, none⟩) hplt).trans x3; have bg := bg.same hcn; clear hcn hplt)
    refine hK.out _ _ ?_ (fun hHeld => ?_)
    · exact ⟨x0, x1, x2, x3⟩
    clear hK K
    try simp only [Act.put, zD, zE, zF]
    refine wpAnyH_take (i := 10) (oi := ?_) (v := ?_) ?_ (by kernel_rfl) (by kernel_rfl) (by kernel_rfl) ?_ (Or.inl ⟨?_, ?_⟩) (by assumption) ?_
    rotate_left 2
    · (simp only [zA, zB, zC]; rfl)
    rotate_left 1
    · rfl
    · (intro w hSw; (try dsimp only at hSw); go_simp; try with_reducible rfl)
    rotate_left 1
    · exact fun _ _ _ h => h
    try simp only [Act.put, zD, zE, zF]
    refine wpAnyH_take (i := 11) (oi := ?_) (v := ?_) ?_ (by kernel_rfl) (by kernel_rfl) (by kernel_rfl) ?_ (Or.inl ⟨?_, ?_⟩) (by assumption) ?_
    rotate_left 2
    · (simp only [zA, zB, zC]; rfl)
    rotate_left 1
    · rfl
    · (intro w hSw; (try dsimp only at hSw); go_simp; try with_reducible rfl)
    rotate_left 1
    · exact fun _ _ _ h => h
    try simp only [Act.put, zD, zE, zF]
    refine wpAnyH_take (i := 12) (oi := ?_) (v := ?_) ?_ (by kernel_rfl) (by kernel_rfl) (by kernel_rfl) ?_ (Or.inl ⟨?_, ?_⟩) (by assumption) ?_
    rotate_left 2
    · (simp only [zA, zB, zC]; rfl)
    rotate_left 1
    · rfl
    · (intro w hSw; (try dsimp only at hSw); go_simp; try with_reducible rfl)
    rotate_left 1
    · exact fun _ _ _ h => h
    try simp only [Act.put, zD, zE, zF]
    refine wpAnyH_ready (rs := [14]) (by kernel_rfl) (by simp) ?_
    refine AllReadyH.cons (o := ?_) ?_ (fun K hK => ?_) AllReadyH.nil
    rotate_left 1
    · (simp only [zA, zB, zC]; rfl)
    have k0 := bg.cell 0
    have k1 := bg.cell 1
    have k2 := bg.cell 2
    have f0 := bg.frozen 0
    have f1 := bg.frozen 1
    have f2 := bg.frozen 2
    simp only [zA, zB, zC] at k0 k1 k2
    go_simp
    obtain ⟨wn, hwn, bn, hfar, hbf⟩ := store3_f bg (.int .i64 (r + 1)) (.int .i64 c) (.bool false)
    rw [← hwn]
    have hbn := hbf _ _ hbn hgw
    have hne : g2 ≠ p := by omega
    have x0 := (hfar ⟨p, 0, none⟩ hne).trans x0
    have x1 := (hfar ⟨p, 1, none⟩ hne).trans x1
    have x2 := (hfar ⟨p, 2, none⟩ hne).trans x2
    have x3 := (hfar ⟨p, 3, none⟩ hne).trans x3
    have bg := bn
    clear hwn bn hfar hbf k0 k1 k2 f0 f1 f2 hne
    refine hK.out _ _ ?_ (fun hHeld => ?_)
    · exact ⟨x0, x1, x2, x3⟩
    clear hK K
    try simp only [Act.put, zD, zE, zF]
    refine wpAnyH_take (i := 15) (oi := ?_) (v := ?_) ?_ (by kernel_rfl) (by kernel_rfl) (by kernel_rfl) ?_ (Or.inl ⟨?_, ?_⟩) (by assumption) ?_
    rotate_left 2
    · (simp only [zA, zB, zC]; rfl)
    rotate_left 1
    · rfl
    · (intro w hSw; (try dsimp only at hSw); go_simp; try with_reducible rfl)
    rotate_left 1
    · exact fun _ _ _ h => h
    try simp only [Act.put, zD, zE, zF]
    refine wpAnyH_done (by kernel_rfl) ?_ _
    go_wp2
    go_meet
    exact ⟨g2, rfl, rfl, bg, hbn⟩
  case rest =>
    obtain ⟨g2, rfl, rfl, bg, hbn⟩ := hcut
    have k0 := bg.cell 0
    have k1 := bg.cell 1
    have k2 := bg.cell 2
    simp only [zA, zB, zC] at k0 k1 k2
    have hq2 := HQ1.out.below hbn
    obtain ⟨y0, y1, y2, y3, y4⟩ := hq2.cells
    have f1 := hq2.blk.frozen 1
    have f2 := hq2.blk.frozen 2
    have f3 := hq2.blk.frozen 3
    have hlp := hq2.blk.lt
    have hpe := HI.out.1
    rw [hpe] at y0 y1 y2 y3 y4 f1 f2 f3 hlp
    have HQ2 := hide hq2
    have HBN := hide hbn
    clear hq2 hbn hpe
    go_wp2
    go_end0
    obtain ⟨hp, hg, hr, hc, hpd, hhh⟩ := HI.out
    subst hp; subst hr; subst hc
    obtain ⟨z1, z2⟩ := HQ2.out.store3 (r := v.r + 1) (c := v.c) (pd := false) HBD.out.1 HBD.out.2.1 (fun e => by cases e)
    exact ⟨⟨_, rfl⟩, z1, (HC1.out.trans (Chg.of_below HBN.out)).trans z2⟩
theorem GoOnQ_ok (b c : Nat) (l : List CellV) (wrap on : Bool) (w : World) (h : RowQ w b c l wrap) :
    Calls Tryz.prog 136 #[.pointer (some ⟨b, 0, none⟩), .bool on] w fun e w' => (∃ r, e = .returned r) ∧ RowQ w' b c l on ∧ Chg (fun k => k = b ∨ k = c) w w' := by
  have x0 := h.markCell
  obtain ⟨⟨cs, hb⟩, _⟩ := h.blk
  have x1 := hb.lt
  have x2 := hb.frozen 1
  have HQ := hide h
  clear h hb
  go_enter Tryz.func136, Tryz.ntmps136
  go_wp2
  go_end0
  exact ⟨⟨_, rfl⟩, HQ.out.mark on, (Chg.refl _ w).set (.inl (.inl rfl)) _⟩
set_option maxHeartbeats 2000000 in
theorem goOn_ok (I : Ids) (v : PenV) (w : World) (h : PenQ w I v) (hr1 : v.r + 1 < I.h) :
    Calls Tryz.prog 202 #[ptrB I.p] w fun e w' => (∃ r, e = .returned r) ∧ PenQ w' I (goOnP v) ∧ Chg (PenS I) w w' := by
  obtain ⟨x, hx, hxd, _, hq, hl⟩ := h.dr.rowQ h.r
  have HRow := hide (pRow_ok h.dr h.r)
  have HGo := hide (GoOnQ_ok (I.db v.r) (I.dc v.r) x.1 x.2 true w.drew hq)
  obtain ⟨x0, x1, x2, x3, x4⟩ := h.cells
  have HPUT := hide (fun W (hc : Chg (fun k => k = I.db v.r ∨ k = I.dc v.r) w.drew W) (hq2 : RowQ W (I.db v.r) (I.dc v.r) x.1 true) => h.dr.put h.r hc hq2 hl)
  have HXD := hide hxd
  have HGE : Hid (goOnP v = ⟨v.rows.set v.r (x.1, true), v.r + 1, 0, false⟩) := hide (by unfold goOnP updR; rw [hxd])
  have hNL := fun W (hW : PenQ W I ⟨v.rows.set v.r (x.1, true), v.r, 0, false⟩) => NewLine_ok I _ W hW hr1
  have HNL := hide hNL
  have HBD := hide (And.intro h.r h.w2)
  rw [HGE.out]
  obtain ⟨p, hp⟩ : ∃ p, I.p = p := ⟨_, rfl⟩
  obtain ⟨g, hg⟩ : ∃ g, I.g = g := ⟨_, rfl⟩
  obtain ⟨r, hr⟩ : ∃ r : Int, (v.r : Int) = r := ⟨_, rfl⟩
  have HI := hide (And.intro hp (And.intro hg hr))
  rw [hg, hr] at HRow
  rw [hp] at x0 x1
  rw [hg] at x0
  rw [hr] at x1
  clear h hx hxd hq hl x2 x3 x4 hNL hr1 hg hr
  unfold ptrB at HNL ⊢
  rw [hp] at HNL ⊢
  clear hp
  go_enter Tryz.func202, Tryz.ntmps202
  go_upto_region 0 with fail
  refine wp_region_held_drew (S := fun w' => w'.cell? ⟨p, 0, none⟩ = some (.pointer (some ⟨g, 0, none⟩)) ∧ w'.cell? ⟨p, 1, none⟩ = some (.int .i64 r)) (by kernel_rfl) (by exact ⟨x0, x1⟩) (fun hHeld => ?_)
  refine wpAnyH_take (i := 0) (oi := ?_) (v := ?_) ?_ (by kernel_rfl) (by kernel_rfl) (by kernel_rfl) ?_ (Or.inl ⟨?_, ?_⟩) (by assumption) ?_
  rotate_left 2
  · (simp only [zA, zB, zC]; rfl)
  rotate_left 1
  · rfl
  · (intro w hSw; (try dsimp only at hSw); go_simp; try with_reducible rfl)
  rotate_left 1
  · exact fun _ _ _ h => h
  try simp only [Act.put, zD, zE, zF]
  refine wpAnyH_take (i := 1) (oi := ?_) (v := ?_) ?_ (by kernel_rfl) (by kernel_rfl) (by kernel_rfl) ?_ (Or.inl ⟨?_, ?_⟩) (by assumption) ?_
  rotate_left 2
  · (simp only [zA, zB, zC]; rfl)
  rotate_left 1
  · rfl
  · (intro w hSw; (try dsimp only at hSw); go_simp; try with_reducible rfl)
  rotate_left 1
  · exact fun _ _ _ h => h
  try simp only [Act.put, zD, zE, zF]
  refine wpAnyH_take (i := 2) (oi := ?_) (v := ?_) ?_ (by kernel_rfl) (by kernel_rfl) (by kernel_rfl) ?_ (Or.inl ⟨?_, ?_⟩) (by assumption) ?_
  rotate_left 2
  · (simp only [zA, zB, zC]; rfl)
  rotate_left 1
  · rfl
  · (intro w hSw; (try dsimp only at hSw); go_simp; try with_reducible rfl)
  rotate_left 1
  · exact fun _ _ _ h => h
  try simp only [Act.put, zD, zE, zF]
  refine wpAnyH_take (i := 3) (oi := ?_) (v := ?_) ?_ (by kernel_rfl) (by kernel_rfl) (by kernel_rfl) ?_ (Or.inl ⟨?_, ?_⟩) (by assumption) ?_
  rotate_left 2
  · (simp only [zA, zB, zC]; rfl)
  rotate_left 1
  · rfl
  · (intro w hSw; (try dsimp only at hSw); go_simp; try with_reducible rfl)
  rotate_left 1
  · exact fun _ _ _ h => h
  try simp only [Act.put, zD, zE, zF]
  refine wpAnyH_take (i := 4) (oi := ?_) (v := ?_) ?_ (by kernel_rfl) (by kernel_rfl) (by kernel_rfl) ?_ (Or.inl ⟨?_, ?_⟩) (by assumption) ?_
  rotate_left 2
  · (simp only [zA, zB, zC]; rfl)
  rotate_left 1
  · rfl
  · (intro w hSw; (try dsimp only at hSw); go_simp; try with_reducible rfl)
  rotate_left 1
  · exact fun _ _ _ h => h
  try simp only [Act.put, zD, zE, zF]
  refine wpAnyH_take (i := 5) (oi := ?_) (v := ?_) ?_ (by kernel_rfl) (by kernel_rfl) (by kernel_rfl) ?_ (Or.inl ⟨?_, ?_⟩) (by assumption) ?_
  rotate_left 2
  · (simp only [zA, zB, zC]; rfl)
  rotate_left 1
  · rfl
  · (intro w hSw; (try dsimp only at hSw); go_simp; try with_reducible rfl)
  rotate_left 1
  · exact fun _ _ _ h => h
  try simp only [Act.put, zD, zE, zF]
  refine wpAnyH_take (i := 6) (oi := ?_) (v := ?_) ?_ (by kernel_rfl) (by kernel_rfl) (by kernel_rfl) ?_ (Or.inl ⟨?_, ?_⟩) (by assumption) ?_
  rotate_left 2
  · (simp only [zA, zB, zC]; rfl)
  rotate_left 1
  · rfl
  · (intro w hSw; (try dsimp only at hSw); go_simp; try with_reducible rfl)
  rotate_left 1
  · exact fun _ _ _ h => h
  try simp only [Act.put, zD, zE, zF]
  refine wpAnyH_take (i := 7) (oi := ?_) (v := ?_) ?_ (by kernel_rfl) (by kernel_rfl) (by kernel_rfl) ?_ (Or.inl ⟨?_, ?_⟩) (by assumption) ?_
  rotate_left 2
  · (simp only [zA, zB, zC]; rfl)
  rotate_left 1
  · rfl
  · (intro w hSw; (try dsimp only at hSw); go_simp; try with_reducible rfl)
  rotate_left 1
  · exact fun _ _ _ h => h
  try simp only [Act.put, zD, zE, zF]
  refine wpAnyH_take (i := 8) (oi := ?_) (v := ?_) ?_ (by kernel_rfl) (by kernel_rfl) (by kernel_rfl) ?_ (Or.inl ⟨?_, ?_⟩) (by assumption) ?_
  rotate_left 2
  · (simp only [zA, zB, zC]; rfl)
  rotate_left 1
  · rfl
  · (intro w hSw; (try dsimp only at hSw); go_simp; try with_reducible rfl)
  rotate_left 1
  · exact fun _ _ _ h => h
  try simp only [Act.put, zD, zE, zF]
  refine wpAnyH_ready (rs := [9]) (by kernel_rfl) (by simp) ?_
  refine AllReadyH.cons (o := ?_) ?_ (fun K hK => ?_) AllReadyH.nil
  rotate_left 1
  · (simp only [zA, zB, zC]; rfl)
  go_simp
  (go_at_call 50; refine HRow.out.mono ?_; rintro e w' ⟨rfl, rfl⟩)
  refine hK.out _ _ ?_ (fun hHeld => ?_)
  · ((try dsimp only); go_keep)
  clear hK K
  try simp only [Act.put, zD, zE, zF]
  refine wpAnyH_ready (rs := [10]) (by kernel_rfl) (by simp) ?_
  refine AllReadyH.cons (o := ?_) ?_ (fun K hK => ?_) AllReadyH.nil
  rotate_left 1
  · (simp only [zA, zB, zC]; rfl)
  go_simp
  (go_at_call 136; refine HGo.out.mono ?_; rintro e w2 ⟨⟨r2, rfl⟩, hq2, hch2⟩; have hp2 := HPUT.out w2 hch2 hq2; obtain ⟨y0, y1, -, -, -⟩ := hp2.cells; rw [HI.out.1] at y0 y1; rw [HI.out.2.1] at y0; rw [HI.out.2.2] at y1; have HQ2 := hide hp2; have HC2 : Hid (Chg (PenS I) w w2) := hide ((Chg.refl _ w).dr.trans (hch2.mono (PenS.row HBD.out.1))); clear hp2 hq2 hch2)
  refine hK.out _ _ ?_ (fun hHeld => ?_)
  · ((try dsimp only); go_keep)
  clear hK K
  try simp only [Act.put, zD, zE, zF]
  refine wpAnyH_done (by kernel_rfl) ?_ _
  clear hHeld
  obtain ⟨z0, z1, z2, z3, z4⟩ := HQ2.out.cells
  have f1 := HQ2.out.blk.frozen 1
  have f2 := HQ2.out.blk.frozen 2
  have f3 := HQ2.out.blk.frozen 3
  have hlp := HQ2.out.blk.lt
  obtain ⟨hp, -, hr⟩ := HI.out
  have HRt := hide (Ret_ok v.r v.c v.pd)
  obtain ⟨cc, hcc⟩ : ∃ cc : Int, (v.c : Int) = cc := ⟨_, rfl⟩
  obtain ⟨pd, hpd⟩ : ∃ pd, v.pd = pd := ⟨_, rfl⟩
  have HCC := hide (And.intro hcc hpd)
  simp only [hp, hr, hcc, hpd] at z0 z1 z2 z3 z4 f1 f2 f3 hlp HRt
  unfold curA at HRt
  clear hp hr hcc hpd x0 x1 y0 y1
  go_wp2_with fail
  refine (HRt.out _).mono ?_
  rintro e w3 ⟨rfl, hb3⟩
  have hq3 := HQ2.out.below hb3
  obtain ⟨z0, z1, z2, z3, z4⟩ := hq3.cells
  have f1 := hq3.blk.frozen 1
  have f2 := hq3.blk.frozen 2
  have f3 := hq3.blk.frozen 3
  have hlp := hq3.blk.lt
  obtain ⟨hp, -, hr⟩ := HI.out
  obtain ⟨hcc, hpd⟩ := HCC.out
  simp only [hp, hr, hcc, hpd] at z0 z1 z2 z3 z4 f1 f2 f3 hlp
  obtain ⟨s1, s2⟩ := hq3.store3 (r := v.r) (c := 0) (pd := false) HBD.out.1 (by have := HBD.out.2; omega) (fun e => by cases e)
  have e0 : ((0 : Nat) : Int) = 0 := rfl
  rw [hp, hr, e0] at s1 s2
  have HS1 := hide s1
  have HC3 := hide ((HC2.out.trans (Chg.of_below hb3)).trans (s2.mono (fun k hk => .inl (hk.trans hp.symm))))
  clear hq3 hb3 s1 s2 hp hr hcc hpd e0
  go_wp2_with fail
  refine (HNL.out _ HS1.out).mono ?_
  rintro e w5 ⟨⟨r5, rfl⟩, hq5, hc5⟩
  have HQ5 := hide hq5
  have HC5 := hide (HC3.out.trans (hc5.mono (fun k hk => .inl (hk.trans HI.out.1.symm))))
  clear hq5 hc5
  go_wp2
  go_end0
  exact ⟨⟨_, rfl⟩, HQ5.out, HC5.out⟩
end Go.Proofs.YtdjpdllehhecpaaGreatDoor
