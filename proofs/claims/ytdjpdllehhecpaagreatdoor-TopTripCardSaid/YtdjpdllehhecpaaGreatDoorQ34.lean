import Derived.Test.YtdjpdllehhecpaaGreatDoorQ33
import Derived.Test.YtdjpdllehhecpaaGreatDoorQ07
import Derived.Test.YtdjpdllehhecpaaGreatDoorQ30
open List renaming getElem?_toArray → zA, getElem?_cons_succ → zB, getElem?_cons_zero → zC, setIfInBounds_toArray → zD, set_cons_zero → zE, set_cons_succ → zF
namespace Go.Proofs.YtdjpdllehhecpaaGreatDoor
open Go.RowKit
set_option linter.unusedVariables false
set_option linter.unusedSimpArgs false
theorem set5 {cs : Array Value} {o : Nat} (h : o + 5 ≤ cs.size) (a b c d e : Value) : SetTo cs o [a, b, c, d, e] (((((cs.setIfInBounds (o + 2) c).setIfInBounds (o + 3) d).setIfInBounds (o + 4) e).setIfInBounds o a).setIfInBounds (o + 1) b) := by
  refine ⟨by simp, fun i hi => ?_, fun i hi => ?_⟩
  · rcases (by simp at hi; omega : i = 0 ∨ i = 1 ∨ i = 2 ∨ i = 3 ∨ i = 4) with rfl | rfl | rfl | rfl | rfl
    · simp [Array.getElem?_setIfInBounds, show o < cs.size by omega]
    · simp [Array.getElem?_setIfInBounds, show o + 1 < cs.size by omega]
    · simp [Array.getElem?_setIfInBounds, show o + 2 < cs.size by omega]
    · simp [Array.getElem?_setIfInBounds, show o + 3 < cs.size by omega]
    · simp [Array.getElem?_setIfInBounds, show o + 4 < cs.size by omega]
  · simp at hi
    simp only [Array.getElem?_setIfInBounds]
    rw [if_neg (by omega), if_neg (by omega), if_neg (by omega), if_neg (by omega), if_neg (by omega)]
set_option maxHeartbeats 8000000 in
theorem segStep_ok (g o : Nat) (t : TypeId) (cs : Array Value) (s : SegV) (p : PropV) (hl0 : 0 ≤ s.last) (hl1 : s.last ≤ 13) (hp0 : 0 ≤ p.brk) (hp1 : p.brk ≤ 13) (w : World) (hB : Blk w g t cs) (h : SegAt cs o s) :
    Calls Tryz.prog 46 #[.pointer (some ⟨g, o, none⟩), propA p] w fun e w' => e = .returned (.bool (joinsF s p)) ∧ (∃ cs', Blk w' g t cs' ∧ SetTo cs o (segC (segN s p)) cs') ∧ w.grownBy w' (some g) := by
  have hJ := fun W (hW : Blk W g t cs) => segJoins_ok g o t cs s p hl0 hl1 hp0 hp1 W hW h
  have hPi := fun W (hW : Blk W g t cs) => segPict_ok g o t cs s p W hW h
  have hCo := fun W (hW : Blk W g t cs) => segConj_ok g o t cs s p W hW h
  obtain ⟨brk, pict, conj, east⟩ := p
  obtain ⟨sa, sl, sp, sc, so⟩ := s
  obtain ⟨jn, hjn⟩ : ∃ jn, joinsF ⟨sa, sl, sp, sc, so⟩ ⟨brk, pict, conj, east⟩ = jn := ⟨_, rfl⟩
  obtain ⟨pv, hpv⟩ : ∃ pv, pictF ⟨sa, sl, sp, sc, so⟩ ⟨brk, pict, conj, east⟩ = pv := ⟨_, rfl⟩
  obtain ⟨cv, hcv⟩ : ∃ cv, conjF ⟨sa, sl, sp, sc, so⟩ ⟨brk, pict, conj, east⟩ = cv := ⟨_, rfl⟩
  obtain ⟨od, hod⟩ : ∃ od, (decide (brk = 6) && !(sa && decide (sl = 6) && so)) = od := ⟨_, rfl⟩
  have hN : segN ⟨sa, sl, sp, sc, so⟩ ⟨brk, pict, conj, east⟩ = ⟨true, brk, pv, cv, od⟩ := by unfold segN; rw [hpv, hcv, ← hod]
  rw [hN, hjn]
  rw [hjn] at hJ
  rw [hpv] at hPi
  rw [hcv] at hCo
  simp only [propA, propL] at hJ hPi hCo ⊢
  have HJ := hide hJ
  have HPI := hide hPi
  have HCO := hide hCo
  have HOD := hide hod
  have HS := hide h
  have hroom := h.room
  have HB := hide hB
  have hgl := hB.lt
  have hnew := Blk.new w 108 #[.int .i64 brk, .bool pict, .int .i64 conj, .int .i64 east]
  have hbl := (Below.refl w.heap.size w).alloc (Nat.le_refl _) (.cells #[.int .i64 brk, .bool pict, .int .i64 conj, .int .i64 east] 108)
  obtain ⟨W0, hW0⟩ : ∃ W0, w.alloc (.cells #[.int .i64 brk, .bool pict, .int .i64 conj, .int .i64 east] 108) = W0 := ⟨_, rfl⟩
  have HG0 : Hid (w.grownBy W0 (some g)) := hide (by rw [← hW0]; exact gb_alloc (gb_refl w g) _)
  rw [hW0] at hnew hbl
  have HW0 := hide hW0
  have HB0 := hide (hB.same hbl)
  have HN0 := hide hnew
  have n0 := hnew.cell 0
  have n1 := hnew.cell 1
  have n2 := hnew.cell 2
  have n3 := hnew.cell 3
  simp only [zA, zB, zC] at n0 n1 n2 n3
  have hbx : w.heap.size < W0.heap.size := hnew.lt
  have HGX : Hid (g ≠ w.heap.size) := hide (by omega)
  clear hJ hPi hCo hod hjn hpv hcv hN h hB hnew hbl hW0 hl0 hl1 hp0 hp1
  go_enter Tryz.func46, Tryz.ntmps46
  go_upto_region 1 with fail
  rw [HW0.out]
  go_upto_region 3 with fail
  go_wp2_with fail
  (refine (HJ.out _ HB0.out).mono ?_; rintro e w1 ⟨rfl, hb1⟩; have HB1 := hide (HB0.out.same hb1); have HG1 := hide (gb_below HG0.out hb1); have m0 := (hb1.cell (p := ⟨w.heap.size, 0, none⟩) hbx).trans n0; have m1 := (hb1.cell (p := ⟨w.heap.size, 1, none⟩) hbx).trans n1; have m2 := (hb1.cell (p := ⟨w.heap.size, 2, none⟩) hbx).trans n2; have m3 := (hb1.cell (p := ⟨w.heap.size, 3, none⟩) hbx).trans n3; have hbx1 : w.heap.size < w1.heap.size := Nat.lt_of_lt_of_le hbx hb1.size; clear n0 n1 n2 n3 hb1)
  go_upto_region 4 with fail
  refine wp_region_held_drew (S := (fun w' => w'.cell? ⟨w.heap.size, 0, none⟩ = some (.int .i64 brk) ∧ w'.cell? ⟨w.heap.size, 1, none⟩ = some (.bool pict) ∧ w'.cell? ⟨w.heap.size, 2, none⟩ = some (.int .i64 conj) ∧ w'.cell? ⟨w.heap.size, 3, none⟩ = some (.int .i64 east))) (by kernel_rfl) (by exact ⟨m0, m1, m2, m3⟩) (fun hHeld => ?_)
  refine wpAnyH_take (i := 0) (oi := ?_) (v := ?_) ?_ (by kernel_rfl) (by kernel_rfl) (by kernel_rfl) ?_ (Or.inl ⟨?_, ?_⟩) (by assumption) ?_
  rotate_left 2
  · (simp only [zA, zB, zC]; rfl)
  rotate_left 1
  · rfl
  · (intro w hSw; obtain ⟨q0, q1, q2, q3⟩ := hSw; go_simp; try with_reducible rfl)
  rotate_left 1
  · exact fun _ _ _ h => h
  try simp only [Act.put, zD, zE, zF]
  refine wpAnyH_take (i := 1) (oi := ?_) (v := ?_) ?_ (by kernel_rfl) (by kernel_rfl) (by kernel_rfl) ?_ (Or.inl ⟨?_, ?_⟩) (by assumption) ?_
  rotate_left 2
  · (simp only [zA, zB, zC]; rfl)
  rotate_left 1
  · rfl
  · (intro w hSw; obtain ⟨q0, q1, q2, q3⟩ := hSw; go_simp; try with_reducible rfl)
  rotate_left 1
  · exact fun _ _ _ h => h
  try simp only [Act.put, zD, zE, zF]
  refine wpAnyH_take (i := 2) (oi := ?_) (v := ?_) ?_ (by kernel_rfl) (by kernel_rfl) (by kernel_rfl) ?_ (Or.inl ⟨?_, ?_⟩) (by assumption) ?_
  rotate_left 2
  · (simp only [zA, zB, zC]; rfl)
  rotate_left 1
  · rfl
  · (intro w hSw; obtain ⟨q0, q1, q2, q3⟩ := hSw; go_simp; try with_reducible rfl)
  rotate_left 1
  · exact fun _ _ _ h => h
  try simp only [Act.put, zD, zE, zF]
  refine wpAnyH_take (i := 3) (oi := ?_) (v := ?_) ?_ (by kernel_rfl) (by kernel_rfl) (by kernel_rfl) ?_ (Or.inl ⟨?_, ?_⟩) (by assumption) ?_
  rotate_left 2
  · (simp only [zA, zB, zC]; rfl)
  rotate_left 1
  · rfl
  · (intro w hSw; obtain ⟨q0, q1, q2, q3⟩ := hSw; go_simp; try with_reducible rfl)
  rotate_left 1
  · exact fun _ _ _ h => h
  try simp only [Act.put, zD, zE, zF]
  refine wpAnyH_take (i := 5) (oi := ?_) (v := ?_) ?_ (by kernel_rfl) (by kernel_rfl) (by kernel_rfl) ?_ (Or.inl ⟨?_, ?_⟩) (by assumption) ?_
  rotate_left 2
  · (simp only [zA, zB, zC]; rfl)
  rotate_left 1
  · rfl
  · (intro w hSw; obtain ⟨q0, q1, q2, q3⟩ := hSw; go_simp; try with_reducible rfl)
  rotate_left 1
  · exact fun _ _ _ h => h
  try simp only [Act.put, zD, zE, zF]
  refine wpAnyH_take (i := 6) (oi := ?_) (v := ?_) ?_ (by kernel_rfl) (by kernel_rfl) (by kernel_rfl) ?_ (Or.inl ⟨?_, ?_⟩) (by assumption) ?_
  rotate_left 2
  · (simp only [zA, zB, zC]; rfl)
  rotate_left 1
  · rfl
  · (intro w hSw; obtain ⟨q0, q1, q2, q3⟩ := hSw; go_simp; try with_reducible rfl)
  rotate_left 1
  · exact fun _ _ _ h => h
  try simp only [Act.put, zD, zE, zF]
  refine wpAnyH_ready (rs := [4]) (by kernel_rfl) (by simp) ?_
  refine AllReadyH.cons (o := ?_) ?_ (fun K hK => ?_) AllReadyH.nil
  rotate_left 1
  · (simp only [zA, zB, zC]; rfl)
  go_simp
  (go_at_call 76; refine (HPI.out _ HB1.out.dr).mono ?_; rintro e w2 ⟨rfl, hb2⟩; have hb2 := below_drw1 hb2; have HB2 := hide (HB1.out.same hb2); have HG2 := hide (gb_below HG1.out hb2); have q0 := (hb2.cell (p := ⟨w.heap.size, 0, none⟩) hbx1).trans m0; have q1 := (hb2.cell (p := ⟨w.heap.size, 1, none⟩) hbx1).trans m1; have q2 := (hb2.cell (p := ⟨w.heap.size, 2, none⟩) hbx1).trans m2; have q3 := (hb2.cell (p := ⟨w.heap.size, 3, none⟩) hbx1).trans m3; have hbx2 : w.heap.size < w2.heap.size := Nat.lt_of_lt_of_le hbx1 hb2.size; clear m0 m1 m2 m3 hb2)
  refine hK.out _ _ ?_ (fun hHeld => ?_)
  · exact ⟨q0, q1, q2, q3⟩
  clear hK K
  try simp only [Act.put, zD, zE, zF]
  refine wpAnyH_ready (rs := [7]) (by kernel_rfl) (by simp) ?_
  refine AllReadyH.cons (o := ?_) ?_ (fun K hK => ?_) AllReadyH.nil
  rotate_left 1
  · (simp only [zA, zB, zC]; rfl)
  go_simp
  (go_at_call 77; refine (HCO.out _ HB2.out).mono ?_; rintro e w3 ⟨rfl, hb3⟩; have b3 := HB2.out.same hb3; have HG3 := hide (gb_below HG2.out hb3); have x0 := (hb3.cell (p := ⟨w.heap.size, 0, none⟩) hbx2).trans q0; have x1 := (hb3.cell (p := ⟨w.heap.size, 1, none⟩) hbx2).trans q1; have x2 := (hb3.cell (p := ⟨w.heap.size, 2, none⟩) hbx2).trans q2; have x3 := (hb3.cell (p := ⟨w.heap.size, 3, none⟩) hbx2).trans q3; have hbx3 : w.heap.size < w3.heap.size := Nat.lt_of_lt_of_le hbx2 hb3.size; have y2 := (b3.cell (o + 2)).trans HS.out.pict; have y3 := (b3.cell (o + 3)).trans HS.out.conj; have f2 := b3.frozen (o + 2); have f3 := b3.frozen (o + 3); have HB3 := hide b3; clear q0 q1 q2 q3 hb3 b3)
  refine hK.out _ _ ?_ (fun hHeld => ?_)
  · exact ⟨x0, x1, x2, x3⟩
  clear hK K
  try simp only [Act.put, zD, zE, zF]
  refine wpAnyH_take (i := 8) (oi := ?_) (v := ?_) ?_ (by kernel_rfl) (by kernel_rfl) (by kernel_rfl) ?_ (Or.inl ⟨?_, ?_⟩) (by assumption) ?_
  rotate_left 2
  · (simp only [zA, zB, zC]; rfl)
  rotate_left 1
  · rfl
  · (intro w hSw; obtain ⟨q0, q1, q2, q3⟩ := hSw; go_simp; try with_reducible rfl)
  rotate_left 1
  · exact fun _ _ _ h => h
  try simp only [Act.put, zD, zE, zF]
  refine wpAnyH_take (i := 9) (oi := ?_) (v := ?_) ?_ (by kernel_rfl) (by kernel_rfl) (by kernel_rfl) ?_ (Or.inl ⟨?_, ?_⟩) (by assumption) ?_
  rotate_left 2
  · (simp only [zA, zB, zC]; rfl)
  rotate_left 1
  · rfl
  · (intro w hSw; obtain ⟨q0, q1, q2, q3⟩ := hSw; go_simp; try with_reducible rfl)
  rotate_left 1
  · exact fun _ _ _ h => h
  try simp only [Act.put, zD, zE, zF]
  refine wpAnyH_ready (rs := [10]) (by kernel_rfl) (by simp) ?_
  refine AllReadyH.cons (o := ?_) ?_ (fun K hK => ?_) AllReadyH.nil
  rotate_left 1
  · (simp only [zA, zB, zC]; rfl)
  go_simp
  refine hK.out _ _ ?_ (fun hHeld => ?_)
  · exact ⟨(World.cell?_setCell_other _ _ _ _ (by simp <;> (intro e; exact absurd e HGX.out))).trans hHeld.1, (World.cell?_setCell_other _ _ _ _ (by simp <;> (intro e; exact absurd e HGX.out))).trans hHeld.2.1, (World.cell?_setCell_other _ _ _ _ (by simp <;> (intro e; exact absurd e HGX.out))).trans hHeld.2.2.1, (World.cell?_setCell_other _ _ _ _ (by simp <;> (intro e; exact absurd e HGX.out))).trans hHeld.2.2.2⟩
  clear hK K
  try simp only [Act.put, zD, zE, zF]
  refine wpAnyH_take (i := 11) (oi := ?_) (v := ?_) ?_ (by kernel_rfl) (by kernel_rfl) (by kernel_rfl) ?_ (Or.inl ⟨?_, ?_⟩) (by assumption) ?_
  rotate_left 2
  · (simp only [zA, zB, zC]; rfl)
  rotate_left 1
  · rfl
  · (intro w hSw; obtain ⟨q0, q1, q2, q3⟩ := hSw; go_simp; try with_reducible rfl)
  rotate_left 1
  · exact fun _ _ _ h => h
  try simp only [Act.put, zD, zE, zF]
  refine wpAnyH_take (i := 12) (oi := ?_) (v := ?_) ?_ (by kernel_rfl) (by kernel_rfl) (by kernel_rfl) ?_ (Or.inl ⟨?_, ?_⟩) (by assumption) ?_
  rotate_left 2
  · (simp only [zA, zB, zC]; rfl)
  rotate_left 1
  · rfl
  · (intro w hSw; obtain ⟨q0, q1, q2, q3⟩ := hSw; go_simp; try with_reducible rfl)
  rotate_left 1
  · exact fun _ _ _ h => h
  try simp only [Act.put, zD, zE, zF]
  refine wpAnyH_ready (rs := [13]) (by kernel_rfl) (by simp) ?_
  refine AllReadyH.cons (o := ?_) ?_ (fun K hK => ?_) AllReadyH.nil
  rotate_left 1
  · (simp only [zA, zB, zC]; rfl)
  go_simp
  refine hK.out _ _ ?_ (fun hHeld => ?_)
  · exact ⟨(World.cell?_setCell_other _ _ _ _ (by simp <;> (intro e; exact absurd e HGX.out))).trans hHeld.1, (World.cell?_setCell_other _ _ _ _ (by simp <;> (intro e; exact absurd e HGX.out))).trans hHeld.2.1, (World.cell?_setCell_other _ _ _ _ (by simp <;> (intro e; exact absurd e HGX.out))).trans hHeld.2.2.1, (World.cell?_setCell_other _ _ _ _ (by simp <;> (intro e; exact absurd e HGX.out))).trans hHeld.2.2.2⟩
  clear hK K
  try simp only [Act.put, zD, zE, zF]
  refine wpAnyH_done (by kernel_rfl) ?_ _
  obtain ⟨k0, k1, k2, k3⟩ := hHeld
  obtain ⟨W4, hW4⟩ : ∃ W4, ((w3.setCell ⟨g, o + 2, none⟩ (.int .i64 pv)).setCell ⟨g, o + 3, none⟩ (.int .i64 cv)) = W4 := ⟨_, rfl⟩
  have b4 : Blk W4 g t ((cs.setIfInBounds (o + 2) (.int .i64 pv)).setIfInBounds (o + 3) (.int .i64 cv)) := by rw [← hW4]; exact (HB3.out.set_ (o + 2) _).set_ (o + 3) _
  have HG4 : Hid (w.grownBy W4 (some g)) := hide (by rw [← hW4]; exact gb_set (gb_set HG3.out _ _) _ _)
  rw [hW4]
  rw [hW4] at k0 k1 k2 k3
  have z0 : W4.cell? ⟨g, o, none⟩ = some (.bool sa) := (b4.cell o).trans (by simp only [Array.getElem?_setIfInBounds]; rw [if_neg (by omega), if_neg (by omega)]; exact HS.out.any)
  have z1 : W4.cell? ⟨g, o + 1, none⟩ = some (.int .i64 sl) := (b4.cell (o + 1)).trans (by simp only [Array.getElem?_setIfInBounds]; rw [if_neg (by omega), if_neg (by omega)]; exact HS.out.last)
  have z4 : W4.cell? ⟨g, o + 4, none⟩ = some (.bool so) := (b4.cell (o + 4)).trans (by simp only [Array.getElem?_setIfInBounds]; rw [if_neg (by omega), if_neg (by omega)]; exact HS.out.odd)
  have fz4 := b4.frozen (o + 4)
  have HB4 := hide b4
  have HZ := hide (⟨z0, z1⟩ : W4.cell? ⟨g, o, none⟩ = some (.bool sa) ∧ W4.cell? ⟨g, o + 1, none⟩ = some (.int .i64 sl))
  clear hW4 b4 x0 x1 x2 x3 y2 y3 f2 f3
  by_cases b6 : brk = 6
  · subst b6
    cases sa with
    | true =>
      by_cases l6 : sl = 6
      · subst l6
        cases so with
        | true =>
          have HE : Hid (false = od) := hide (by rw [← HOD.out]; rfl)
          go_upto_region 6 with fail
          obtain ⟨W5, hW5⟩ : ∃ W5, W4.setCell ⟨g, o + 4, none⟩ (.bool false) = W5 := ⟨_, rfl⟩
          have b5 : Blk W5 g t (((cs.setIfInBounds (o + 2) (.int .i64 pv)).setIfInBounds (o + 3) (.int .i64 cv)).setIfInBounds (o + 4) (.bool od)) := by rw [← hW5, ← HE.out]; exact HB4.out.set_ (o + 4) _
          have HG5 : Hid (w.grownBy W5 (some g)) := hide (by rw [← hW5]; exact gb_set HG4.out _ _)
          have l0 : W5.cell? ⟨w.heap.size, 0, none⟩ = some (.int .i64 6) := by rw [← hW5]; exact (World.cell?_setCell_other _ _ _ _ (by simp <;> (intro e; exact absurd e HGX.out))).trans k0
          rw [hW5]
          have v0 : W5.cell? ⟨g, o, none⟩ = some (.bool true) := (b5.cell o).trans (by simp only [Array.getElem?_setIfInBounds]; rw [if_neg (by omega), if_neg (by omega), if_neg (by omega)]; exact HS.out.any)
          have v1 : W5.cell? ⟨g, o + 1, none⟩ = some (.int .i64 6) := (b5.cell (o + 1)).trans (by simp only [Array.getElem?_setIfInBounds]; rw [if_neg (by omega), if_neg (by omega), if_neg (by omega)]; exact HS.out.last)
          have g0 := b5.frozen o
          have g1 := b5.frozen (o + 1)
          have HB5 := hide b5
          clear b5 hW5 z0 z1 z4 fz4 k0 k1 k2 k3
          refine wp_region_held_drew (S := fun w' => w'.cell? ⟨w.heap.size, 0, none⟩ = some (.int .i64 6)) (by kernel_rfl) (by exact l0) (fun hHeld => ?_)
          refine wpAnyH_take (i := 0) (oi := ?_) (v := ?_) ?_ (by kernel_rfl) (by kernel_rfl) (by kernel_rfl) ?_ (Or.inl ⟨?_, ?_⟩) (by assumption) ?_
          rotate_left 2
          · (simp only [zA, zB, zC]; rfl)
          rotate_left 1
          · rfl
          · (intro w hSw; skip; go_simp; try with_reducible rfl)
          rotate_left 1
          · exact fun _ _ _ h => h
          try simp only [Act.put, zD, zE, zF]
          refine wpAnyH_take (i := 1) (oi := ?_) (v := ?_) ?_ (by kernel_rfl) (by kernel_rfl) (by kernel_rfl) ?_ (Or.inl ⟨?_, ?_⟩) (by assumption) ?_
          rotate_left 2
          · (simp only [zA, zB, zC]; rfl)
          rotate_left 1
          · rfl
          · (intro w hSw; skip; go_simp; try with_reducible rfl)
          rotate_left 1
          · exact fun _ _ _ h => h
          try simp only [Act.put, zD, zE, zF]
          refine wpAnyH_take (i := 2) (oi := ?_) (v := ?_) ?_ (by kernel_rfl) (by kernel_rfl) (by kernel_rfl) ?_ (Or.inl ⟨?_, ?_⟩) (by assumption) ?_
          rotate_left 2
          · (simp only [zA, zB, zC]; rfl)
          rotate_left 1
          · rfl
          · (intro w hSw; skip; go_simp; try with_reducible rfl)
          rotate_left 1
          · exact fun _ _ _ h => h
          try simp only [Act.put, zD, zE, zF]
          refine wpAnyH_take (i := 3) (oi := ?_) (v := ?_) ?_ (by kernel_rfl) (by kernel_rfl) (by kernel_rfl) ?_ (Or.inl ⟨?_, ?_⟩) (by assumption) ?_
          rotate_left 2
          · (simp only [zA, zB, zC]; rfl)
          rotate_left 1
          · rfl
          · (intro w hSw; skip; go_simp; try with_reducible rfl)
          rotate_left 1
          · exact fun _ _ _ h => h
          try simp only [Act.put, zD, zE, zF]
          refine wpAnyH_take (i := 4) (oi := ?_) (v := ?_) ?_ (by kernel_rfl) (by kernel_rfl) (by kernel_rfl) ?_ (Or.inl ⟨?_, ?_⟩) (by assumption) ?_
          rotate_left 2
          · (simp only [zA, zB, zC]; rfl)
          rotate_left 1
          · rfl
          · (intro w hSw; skip; go_simp; try with_reducible rfl)
          rotate_left 1
          · exact fun _ _ _ h => h
          try simp only [Act.put, zD, zE, zF]
          refine wpAnyH_take (i := 5) (oi := ?_) (v := ?_) ?_ (by kernel_rfl) (by kernel_rfl) (by kernel_rfl) ?_ (Or.inl ⟨?_, ?_⟩) (by assumption) ?_
          rotate_left 2
          · (simp only [zA, zB, zC]; rfl)
          rotate_left 1
          · rfl
          · (intro w hSw; skip; go_simp; try with_reducible rfl)
          rotate_left 1
          · exact fun _ _ _ h => h
          try simp only [Act.put, zD, zE, zF]
          refine wpAnyH_ready (rs := [6]) (by kernel_rfl) (by simp) ?_
          refine AllReadyH.cons (o := ?_) ?_ (fun K hK => ?_) AllReadyH.nil
          rotate_left 1
          · (simp only [zA, zB, zC]; rfl)
          go_simp
          refine hK.out _ _ ?_ (fun hHeld => ?_)
          · exact (World.cell?_setCell_other _ _ _ _ (by simp <;> (intro e; exact absurd e HGX.out))).trans hHeld
          clear hK K
          try simp only [Act.put, zD, zE, zF]
          refine wpAnyH_take (i := 7) (oi := ?_) (v := ?_) ?_ (by kernel_rfl) (by kernel_rfl) (by kernel_rfl) ?_ (Or.inl ⟨?_, ?_⟩) (by assumption) ?_
          rotate_left 2
          · (simp only [zA, zB, zC]; rfl)
          rotate_left 1
          · rfl
          · (intro w hSw; skip; go_simp; try with_reducible rfl)
          rotate_left 1
          · exact fun _ _ _ h => h
          try simp only [Act.put, zD, zE, zF]
          refine wpAnyH_take (i := 8) (oi := ?_) (v := ?_) ?_ (by kernel_rfl) (by kernel_rfl) (by kernel_rfl) ?_ (Or.inl ⟨?_, ?_⟩) (by assumption) ?_
          rotate_left 2
          · (simp only [zA, zB, zC]; rfl)
          rotate_left 1
          · rfl
          · (intro w hSw; skip; go_simp; try with_reducible rfl)
          rotate_left 1
          · exact fun _ _ _ h => h
          try simp only [Act.put, zD, zE, zF]
          refine wpAnyH_ready (rs := [9]) (by kernel_rfl) (by simp) ?_
          refine AllReadyH.cons (o := ?_) ?_ (fun K hK => ?_) AllReadyH.nil
          rotate_left 1
          · (simp only [zA, zB, zC]; rfl)
          go_simp
          refine hK.out _ _ ?_ (fun hHeld => ?_)
          · exact (World.cell?_setCell_other _ _ _ _ (by simp <;> (intro e; exact absurd e HGX.out))).trans hHeld
          clear hK K
          try simp only [Act.put, zD, zE, zF]
          refine wpAnyH_done (by kernel_rfl) ?_ _
          go_wp2
          go_ret
          exact ⟨rfl, ⟨_, (HB5.out.set_ o _).set_ (o + 1) _, set5 hroom _ _ _ _ _⟩, gb_dr (gb_set (gb_set HG5.out _ _) _ _)⟩
        | false =>
          have HE : Hid (true = od) := hide (by rw [← HOD.out]; rfl)
          go_upto_region 6 with fail
          obtain ⟨W5, hW5⟩ : ∃ W5, W4.setCell ⟨g, o + 4, none⟩ (.bool true) = W5 := ⟨_, rfl⟩
          have b5 : Blk W5 g t (((cs.setIfInBounds (o + 2) (.int .i64 pv)).setIfInBounds (o + 3) (.int .i64 cv)).setIfInBounds (o + 4) (.bool od)) := by rw [← hW5, ← HE.out]; exact HB4.out.set_ (o + 4) _
          have HG5 : Hid (w.grownBy W5 (some g)) := hide (by rw [← hW5]; exact gb_set HG4.out _ _)
          have l0 : W5.cell? ⟨w.heap.size, 0, none⟩ = some (.int .i64 6) := by rw [← hW5]; exact (World.cell?_setCell_other _ _ _ _ (by simp <;> (intro e; exact absurd e HGX.out))).trans k0
          rw [hW5]
          have v0 : W5.cell? ⟨g, o, none⟩ = some (.bool true) := (b5.cell o).trans (by simp only [Array.getElem?_setIfInBounds]; rw [if_neg (by omega), if_neg (by omega), if_neg (by omega)]; exact HS.out.any)
          have v1 : W5.cell? ⟨g, o + 1, none⟩ = some (.int .i64 6) := (b5.cell (o + 1)).trans (by simp only [Array.getElem?_setIfInBounds]; rw [if_neg (by omega), if_neg (by omega), if_neg (by omega)]; exact HS.out.last)
          have g0 := b5.frozen o
          have g1 := b5.frozen (o + 1)
          have HB5 := hide b5
          clear b5 hW5 z0 z1 z4 fz4 k0 k1 k2 k3
          refine wp_region_held_drew (S := fun w' => w'.cell? ⟨w.heap.size, 0, none⟩ = some (.int .i64 6)) (by kernel_rfl) (by exact l0) (fun hHeld => ?_)
          refine wpAnyH_take (i := 0) (oi := ?_) (v := ?_) ?_ (by kernel_rfl) (by kernel_rfl) (by kernel_rfl) ?_ (Or.inl ⟨?_, ?_⟩) (by assumption) ?_
          rotate_left 2
          · (simp only [zA, zB, zC]; rfl)
          rotate_left 1
          · rfl
          · (intro w hSw; skip; go_simp; try with_reducible rfl)
          rotate_left 1
          · exact fun _ _ _ h => h
          try simp only [Act.put, zD, zE, zF]
          refine wpAnyH_take (i := 1) (oi := ?_) (v := ?_) ?_ (by kernel_rfl) (by kernel_rfl) (by kernel_rfl) ?_ (Or.inl ⟨?_, ?_⟩) (by assumption) ?_
          rotate_left 2
          · (simp only [zA, zB, zC]; rfl)
          rotate_left 1
          · rfl
          · (intro w hSw; skip; go_simp; try with_reducible rfl)
          rotate_left 1
          · exact fun _ _ _ h => h
          try simp only [Act.put, zD, zE, zF]
          refine wpAnyH_take (i := 2) (oi := ?_) (v := ?_) ?_ (by kernel_rfl) (by kernel_rfl) (by kernel_rfl) ?_ (Or.inl ⟨?_, ?_⟩) (by assumption) ?_
          rotate_left 2
          · (simp only [zA, zB, zC]; rfl)
          rotate_left 1
          · rfl
          · (intro w hSw; skip; go_simp; try with_reducible rfl)
          rotate_left 1
          · exact fun _ _ _ h => h
          try simp only [Act.put, zD, zE, zF]
          refine wpAnyH_take (i := 3) (oi := ?_) (v := ?_) ?_ (by kernel_rfl) (by kernel_rfl) (by kernel_rfl) ?_ (Or.inl ⟨?_, ?_⟩) (by assumption) ?_
          rotate_left 2
          · (simp only [zA, zB, zC]; rfl)
          rotate_left 1
          · rfl
          · (intro w hSw; skip; go_simp; try with_reducible rfl)
          rotate_left 1
          · exact fun _ _ _ h => h
          try simp only [Act.put, zD, zE, zF]
          refine wpAnyH_take (i := 4) (oi := ?_) (v := ?_) ?_ (by kernel_rfl) (by kernel_rfl) (by kernel_rfl) ?_ (Or.inl ⟨?_, ?_⟩) (by assumption) ?_
          rotate_left 2
          · (simp only [zA, zB, zC]; rfl)
          rotate_left 1
          · rfl
          · (intro w hSw; skip; go_simp; try with_reducible rfl)
          rotate_left 1
          · exact fun _ _ _ h => h
          try simp only [Act.put, zD, zE, zF]
          refine wpAnyH_take (i := 5) (oi := ?_) (v := ?_) ?_ (by kernel_rfl) (by kernel_rfl) (by kernel_rfl) ?_ (Or.inl ⟨?_, ?_⟩) (by assumption) ?_
          rotate_left 2
          · (simp only [zA, zB, zC]; rfl)
          rotate_left 1
          · rfl
          · (intro w hSw; skip; go_simp; try with_reducible rfl)
          rotate_left 1
          · exact fun _ _ _ h => h
          try simp only [Act.put, zD, zE, zF]
          refine wpAnyH_ready (rs := [6]) (by kernel_rfl) (by simp) ?_
          refine AllReadyH.cons (o := ?_) ?_ (fun K hK => ?_) AllReadyH.nil
          rotate_left 1
          · (simp only [zA, zB, zC]; rfl)
          go_simp
          refine hK.out _ _ ?_ (fun hHeld => ?_)
          · exact (World.cell?_setCell_other _ _ _ _ (by simp <;> (intro e; exact absurd e HGX.out))).trans hHeld
          clear hK K
          try simp only [Act.put, zD, zE, zF]
          refine wpAnyH_take (i := 7) (oi := ?_) (v := ?_) ?_ (by kernel_rfl) (by kernel_rfl) (by kernel_rfl) ?_ (Or.inl ⟨?_, ?_⟩) (by assumption) ?_
          rotate_left 2
          · (simp only [zA, zB, zC]; rfl)
          rotate_left 1
          · rfl
          · (intro w hSw; skip; go_simp; try with_reducible rfl)
          rotate_left 1
          · exact fun _ _ _ h => h
          try simp only [Act.put, zD, zE, zF]
          refine wpAnyH_take (i := 8) (oi := ?_) (v := ?_) ?_ (by kernel_rfl) (by kernel_rfl) (by kernel_rfl) ?_ (Or.inl ⟨?_, ?_⟩) (by assumption) ?_
          rotate_left 2
          · (simp only [zA, zB, zC]; rfl)
          rotate_left 1
          · rfl
          · (intro w hSw; skip; go_simp; try with_reducible rfl)
          rotate_left 1
          · exact fun _ _ _ h => h
          try simp only [Act.put, zD, zE, zF]
          refine wpAnyH_ready (rs := [9]) (by kernel_rfl) (by simp) ?_
          refine AllReadyH.cons (o := ?_) ?_ (fun K hK => ?_) AllReadyH.nil
          rotate_left 1
          · (simp only [zA, zB, zC]; rfl)
          go_simp
          refine hK.out _ _ ?_ (fun hHeld => ?_)
          · exact (World.cell?_setCell_other _ _ _ _ (by simp <;> (intro e; exact absurd e HGX.out))).trans hHeld
          clear hK K
          try simp only [Act.put, zD, zE, zF]
          refine wpAnyH_done (by kernel_rfl) ?_ _
          go_wp2
          go_ret
          exact ⟨rfl, ⟨_, (HB5.out.set_ o _).set_ (o + 1) _, set5 hroom _ _ _ _ _⟩, gb_dr (gb_set (gb_set HG5.out _ _) _ _)⟩
      · have HE : Hid (true = od) := hide (by rw [← HOD.out]; simp [l6])
        have m6 : (sl == 6) = false := by simpa using l6
        clear l6
        go_upto_region 6 with fail
        obtain ⟨W5, hW5⟩ : ∃ W5, W4.setCell ⟨g, o + 4, none⟩ (.bool true) = W5 := ⟨_, rfl⟩
        have b5 : Blk W5 g t (((cs.setIfInBounds (o + 2) (.int .i64 pv)).setIfInBounds (o + 3) (.int .i64 cv)).setIfInBounds (o + 4) (.bool od)) := by rw [← hW5, ← HE.out]; exact HB4.out.set_ (o + 4) _
        have HG5 : Hid (w.grownBy W5 (some g)) := hide (by rw [← hW5]; exact gb_set HG4.out _ _)
        have l0 : W5.cell? ⟨w.heap.size, 0, none⟩ = some (.int .i64 6) := by rw [← hW5]; exact (World.cell?_setCell_other _ _ _ _ (by simp <;> (intro e; exact absurd e HGX.out))).trans k0
        rw [hW5]
        have v0 : W5.cell? ⟨g, o, none⟩ = some (.bool true) := (b5.cell o).trans (by simp only [Array.getElem?_setIfInBounds]; rw [if_neg (by omega), if_neg (by omega), if_neg (by omega)]; exact HS.out.any)
        have v1 : W5.cell? ⟨g, o + 1, none⟩ = some (.int .i64 sl) := (b5.cell (o + 1)).trans (by simp only [Array.getElem?_setIfInBounds]; rw [if_neg (by omega), if_neg (by omega), if_neg (by omega)]; exact HS.out.last)
        have g0 := b5.frozen o
        have g1 := b5.frozen (o + 1)
        have HB5 := hide b5
        clear b5 hW5 z0 z1 z4 fz4 k0 k1 k2 k3
        refine wp_region_held_drew (S := fun w' => w'.cell? ⟨w.heap.size, 0, none⟩ = some (.int .i64 6)) (by kernel_rfl) (by exact l0) (fun hHeld => ?_)
        refine wpAnyH_take (i := 0) (oi := ?_) (v := ?_) ?_ (by kernel_rfl) (by kernel_rfl) (by kernel_rfl) ?_ (Or.inl ⟨?_, ?_⟩) (by assumption) ?_
        rotate_left 2
        · (simp only [zA, zB, zC]; rfl)
        rotate_left 1
        · rfl
        · (intro w hSw; skip; go_simp; try with_reducible rfl)
        rotate_left 1
        · exact fun _ _ _ h => h
        try simp only [Act.put, zD, zE, zF]
        refine wpAnyH_take (i := 1) (oi := ?_) (v := ?_) ?_ (by kernel_rfl) (by kernel_rfl) (by kernel_rfl) ?_ (Or.inl ⟨?_, ?_⟩) (by assumption) ?_
        rotate_left 2
        · (simp only [zA, zB, zC]; rfl)
        rotate_left 1
        · rfl
        · (intro w hSw; skip; go_simp; try with_reducible rfl)
        rotate_left 1
        · exact fun _ _ _ h => h
        try simp only [Act.put, zD, zE, zF]
        refine wpAnyH_take (i := 2) (oi := ?_) (v := ?_) ?_ (by kernel_rfl) (by kernel_rfl) (by kernel_rfl) ?_ (Or.inl ⟨?_, ?_⟩) (by assumption) ?_
        rotate_left 2
        · (simp only [zA, zB, zC]; rfl)
        rotate_left 1
        · rfl
        · (intro w hSw; skip; go_simp; try with_reducible rfl)
        rotate_left 1
        · exact fun _ _ _ h => h
        try simp only [Act.put, zD, zE, zF]
        refine wpAnyH_take (i := 3) (oi := ?_) (v := ?_) ?_ (by kernel_rfl) (by kernel_rfl) (by kernel_rfl) ?_ (Or.inl ⟨?_, ?_⟩) (by assumption) ?_
        rotate_left 2
        · (simp only [zA, zB, zC]; rfl)
        rotate_left 1
        · rfl
        · (intro w hSw; skip; go_simp; try with_reducible rfl)
        rotate_left 1
        · exact fun _ _ _ h => h
        try simp only [Act.put, zD, zE, zF]
        refine wpAnyH_take (i := 4) (oi := ?_) (v := ?_) ?_ (by kernel_rfl) (by kernel_rfl) (by kernel_rfl) ?_ (Or.inl ⟨?_, ?_⟩) (by assumption) ?_
        rotate_left 2
        · (simp only [zA, zB, zC]; rfl)
        rotate_left 1
        · rfl
        · (intro w hSw; skip; go_simp; try with_reducible rfl)
        rotate_left 1
        · exact fun _ _ _ h => h
        try simp only [Act.put, zD, zE, zF]
        refine wpAnyH_take (i := 5) (oi := ?_) (v := ?_) ?_ (by kernel_rfl) (by kernel_rfl) (by kernel_rfl) ?_ (Or.inl ⟨?_, ?_⟩) (by assumption) ?_
        rotate_left 2
        · (simp only [zA, zB, zC]; rfl)
        rotate_left 1
        · rfl
        · (intro w hSw; skip; go_simp; try with_reducible rfl)
        rotate_left 1
        · exact fun _ _ _ h => h
        try simp only [Act.put, zD, zE, zF]
        refine wpAnyH_ready (rs := [6]) (by kernel_rfl) (by simp) ?_
        refine AllReadyH.cons (o := ?_) ?_ (fun K hK => ?_) AllReadyH.nil
        rotate_left 1
        · (simp only [zA, zB, zC]; rfl)
        go_simp
        refine hK.out _ _ ?_ (fun hHeld => ?_)
        · exact (World.cell?_setCell_other _ _ _ _ (by simp <;> (intro e; exact absurd e HGX.out))).trans hHeld
        clear hK K
        try simp only [Act.put, zD, zE, zF]
        refine wpAnyH_take (i := 7) (oi := ?_) (v := ?_) ?_ (by kernel_rfl) (by kernel_rfl) (by kernel_rfl) ?_ (Or.inl ⟨?_, ?_⟩) (by assumption) ?_
        rotate_left 2
        · (simp only [zA, zB, zC]; rfl)
        rotate_left 1
        · rfl
        · (intro w hSw; skip; go_simp; try with_reducible rfl)
        rotate_left 1
        · exact fun _ _ _ h => h
        try simp only [Act.put, zD, zE, zF]
        refine wpAnyH_take (i := 8) (oi := ?_) (v := ?_) ?_ (by kernel_rfl) (by kernel_rfl) (by kernel_rfl) ?_ (Or.inl ⟨?_, ?_⟩) (by assumption) ?_
        rotate_left 2
        · (simp only [zA, zB, zC]; rfl)
        rotate_left 1
        · rfl
        · (intro w hSw; skip; go_simp; try with_reducible rfl)
        rotate_left 1
        · exact fun _ _ _ h => h
        try simp only [Act.put, zD, zE, zF]
        refine wpAnyH_ready (rs := [9]) (by kernel_rfl) (by simp) ?_
        refine AllReadyH.cons (o := ?_) ?_ (fun K hK => ?_) AllReadyH.nil
        rotate_left 1
        · (simp only [zA, zB, zC]; rfl)
        go_simp
        refine hK.out _ _ ?_ (fun hHeld => ?_)
        · exact (World.cell?_setCell_other _ _ _ _ (by simp <;> (intro e; exact absurd e HGX.out))).trans hHeld
        clear hK K
        try simp only [Act.put, zD, zE, zF]
        refine wpAnyH_done (by kernel_rfl) ?_ _
        go_wp2
        go_ret
        exact ⟨rfl, ⟨_, (HB5.out.set_ o _).set_ (o + 1) _, set5 hroom _ _ _ _ _⟩, gb_dr (gb_set (gb_set HG5.out _ _) _ _)⟩
    | false =>
      have HE : Hid (true = od) := hide (by rw [← HOD.out]; simp)
      go_upto_region 6 with fail
      obtain ⟨W5, hW5⟩ : ∃ W5, W4.setCell ⟨g, o + 4, none⟩ (.bool true) = W5 := ⟨_, rfl⟩
      have b5 : Blk W5 g t (((cs.setIfInBounds (o + 2) (.int .i64 pv)).setIfInBounds (o + 3) (.int .i64 cv)).setIfInBounds (o + 4) (.bool od)) := by rw [← hW5, ← HE.out]; exact HB4.out.set_ (o + 4) _
      have HG5 : Hid (w.grownBy W5 (some g)) := hide (by rw [← hW5]; exact gb_set HG4.out _ _)
      have l0 : W5.cell? ⟨w.heap.size, 0, none⟩ = some (.int .i64 6) := by rw [← hW5]; exact (World.cell?_setCell_other _ _ _ _ (by simp <;> (intro e; exact absurd e HGX.out))).trans k0
      rw [hW5]
      have v0 : W5.cell? ⟨g, o, none⟩ = some (.bool false) := (b5.cell o).trans (by simp only [Array.getElem?_setIfInBounds]; rw [if_neg (by omega), if_neg (by omega), if_neg (by omega)]; exact HS.out.any)
      have v1 : W5.cell? ⟨g, o + 1, none⟩ = some (.int .i64 sl) := (b5.cell (o + 1)).trans (by simp only [Array.getElem?_setIfInBounds]; rw [if_neg (by omega), if_neg (by omega), if_neg (by omega)]; exact HS.out.last)
      have g0 := b5.frozen o
      have g1 := b5.frozen (o + 1)
      have HB5 := hide b5
      clear b5 hW5 z0 z1 z4 fz4 k0 k1 k2 k3
      refine wp_region_held_drew (S := fun w' => w'.cell? ⟨w.heap.size, 0, none⟩ = some (.int .i64 6)) (by kernel_rfl) (by exact l0) (fun hHeld => ?_)
      refine wpAnyH_take (i := 0) (oi := ?_) (v := ?_) ?_ (by kernel_rfl) (by kernel_rfl) (by kernel_rfl) ?_ (Or.inl ⟨?_, ?_⟩) (by assumption) ?_
      rotate_left 2
      · (simp only [zA, zB, zC]; rfl)
      rotate_left 1
      · rfl
      · (intro w hSw; skip; go_simp; try with_reducible rfl)
      rotate_left 1
      · exact fun _ _ _ h => h
      try simp only [Act.put, zD, zE, zF]
      refine wpAnyH_take (i := 1) (oi := ?_) (v := ?_) ?_ (by kernel_rfl) (by kernel_rfl) (by kernel_rfl) ?_ (Or.inl ⟨?_, ?_⟩) (by assumption) ?_
      rotate_left 2
      · (simp only [zA, zB, zC]; rfl)
      rotate_left 1
      · rfl
      · (intro w hSw; skip; go_simp; try with_reducible rfl)
      rotate_left 1
      · exact fun _ _ _ h => h
      try simp only [Act.put, zD, zE, zF]
      refine wpAnyH_take (i := 2) (oi := ?_) (v := ?_) ?_ (by kernel_rfl) (by kernel_rfl) (by kernel_rfl) ?_ (Or.inl ⟨?_, ?_⟩) (by assumption) ?_
      rotate_left 2
      · (simp only [zA, zB, zC]; rfl)
      rotate_left 1
      · rfl
      · (intro w hSw; skip; go_simp; try with_reducible rfl)
      rotate_left 1
      · exact fun _ _ _ h => h
      try simp only [Act.put, zD, zE, zF]
      refine wpAnyH_take (i := 3) (oi := ?_) (v := ?_) ?_ (by kernel_rfl) (by kernel_rfl) (by kernel_rfl) ?_ (Or.inl ⟨?_, ?_⟩) (by assumption) ?_
      rotate_left 2
      · (simp only [zA, zB, zC]; rfl)
      rotate_left 1
      · rfl
      · (intro w hSw; skip; go_simp; try with_reducible rfl)
      rotate_left 1
      · exact fun _ _ _ h => h
      try simp only [Act.put, zD, zE, zF]
      refine wpAnyH_take (i := 4) (oi := ?_) (v := ?_) ?_ (by kernel_rfl) (by kernel_rfl) (by kernel_rfl) ?_ (Or.inl ⟨?_, ?_⟩) (by assumption) ?_
      rotate_left 2
      · (simp only [zA, zB, zC]; rfl)
      rotate_left 1
      · rfl
      · (intro w hSw; skip; go_simp; try with_reducible rfl)
      rotate_left 1
      · exact fun _ _ _ h => h
      try simp only [Act.put, zD, zE, zF]
      refine wpAnyH_take (i := 5) (oi := ?_) (v := ?_) ?_ (by kernel_rfl) (by kernel_rfl) (by kernel_rfl) ?_ (Or.inl ⟨?_, ?_⟩) (by assumption) ?_
      rotate_left 2
      · (simp only [zA, zB, zC]; rfl)
      rotate_left 1
      · rfl
      · (intro w hSw; skip; go_simp; try with_reducible rfl)
      rotate_left 1
      · exact fun _ _ _ h => h
      try simp only [Act.put, zD, zE, zF]
      refine wpAnyH_ready (rs := [6]) (by kernel_rfl) (by simp) ?_
      refine AllReadyH.cons (o := ?_) ?_ (fun K hK => ?_) AllReadyH.nil
      rotate_left 1
      · (simp only [zA, zB, zC]; rfl)
      go_simp
      refine hK.out _ _ ?_ (fun hHeld => ?_)
      · exact (World.cell?_setCell_other _ _ _ _ (by simp <;> (intro e; exact absurd e HGX.out))).trans hHeld
      clear hK K
      try simp only [Act.put, zD, zE, zF]
      refine wpAnyH_take (i := 7) (oi := ?_) (v := ?_) ?_ (by kernel_rfl) (by kernel_rfl) (by kernel_rfl) ?_ (Or.inl ⟨?_, ?_⟩) (by assumption) ?_
      rotate_left 2
      · (simp only [zA, zB, zC]; rfl)
      rotate_left 1
      · rfl
      · (intro w hSw; skip; go_simp; try with_reducible rfl)
      rotate_left 1
      · exact fun _ _ _ h => h
      try simp only [Act.put, zD, zE, zF]
      refine wpAnyH_take (i := 8) (oi := ?_) (v := ?_) ?_ (by kernel_rfl) (by kernel_rfl) (by kernel_rfl) ?_ (Or.inl ⟨?_, ?_⟩) (by assumption) ?_
      rotate_left 2
      · (simp only [zA, zB, zC]; rfl)
      rotate_left 1
      · rfl
      · (intro w hSw; skip; go_simp; try with_reducible rfl)
      rotate_left 1
      · exact fun _ _ _ h => h
      try simp only [Act.put, zD, zE, zF]
      refine wpAnyH_ready (rs := [9]) (by kernel_rfl) (by simp) ?_
      refine AllReadyH.cons (o := ?_) ?_ (fun K hK => ?_) AllReadyH.nil
      rotate_left 1
      · (simp only [zA, zB, zC]; rfl)
      go_simp
      refine hK.out _ _ ?_ (fun hHeld => ?_)
      · exact (World.cell?_setCell_other _ _ _ _ (by simp <;> (intro e; exact absurd e HGX.out))).trans hHeld
      clear hK K
      try simp only [Act.put, zD, zE, zF]
      refine wpAnyH_done (by kernel_rfl) ?_ _
      go_wp2
      go_ret
      exact ⟨rfl, ⟨_, (HB5.out.set_ o _).set_ (o + 1) _, set5 hroom _ _ _ _ _⟩, gb_dr (gb_set (gb_set HG5.out _ _) _ _)⟩
  · have HE : Hid (false = od) := hide (by rw [← HOD.out]; simp [b6])
    have m6 : (brk == 6) = false := by simpa using b6
    clear b6
    go_upto_region 6 with fail
    obtain ⟨W5, hW5⟩ : ∃ W5, W4.setCell ⟨g, o + 4, none⟩ (.bool false) = W5 := ⟨_, rfl⟩
    have b5 : Blk W5 g t (((cs.setIfInBounds (o + 2) (.int .i64 pv)).setIfInBounds (o + 3) (.int .i64 cv)).setIfInBounds (o + 4) (.bool od)) := by rw [← hW5, ← HE.out]; exact HB4.out.set_ (o + 4) _
    have HG5 : Hid (w.grownBy W5 (some g)) := hide (by rw [← hW5]; exact gb_set HG4.out _ _)
    have l0 : W5.cell? ⟨w.heap.size, 0, none⟩ = some (.int .i64 brk) := by rw [← hW5]; exact (World.cell?_setCell_other _ _ _ _ (by simp <;> (intro e; exact absurd e HGX.out))).trans k0
    rw [hW5]
    have v0 : W5.cell? ⟨g, o, none⟩ = some (.bool sa) := (b5.cell o).trans (by simp only [Array.getElem?_setIfInBounds]; rw [if_neg (by omega), if_neg (by omega), if_neg (by omega)]; exact HS.out.any)
    have v1 : W5.cell? ⟨g, o + 1, none⟩ = some (.int .i64 sl) := (b5.cell (o + 1)).trans (by simp only [Array.getElem?_setIfInBounds]; rw [if_neg (by omega), if_neg (by omega), if_neg (by omega)]; exact HS.out.last)
    have g0 := b5.frozen o
    have g1 := b5.frozen (o + 1)
    have HB5 := hide b5
    clear b5 hW5 z0 z1 z4 fz4 k0 k1 k2 k3
    refine wp_region_held_drew (S := fun w' => w'.cell? ⟨w.heap.size, 0, none⟩ = some (.int .i64 brk)) (by kernel_rfl) (by exact l0) (fun hHeld => ?_)
    refine wpAnyH_take (i := 0) (oi := ?_) (v := ?_) ?_ (by kernel_rfl) (by kernel_rfl) (by kernel_rfl) ?_ (Or.inl ⟨?_, ?_⟩) (by assumption) ?_
    rotate_left 2
    · (simp only [zA, zB, zC]; rfl)
    rotate_left 1
    · rfl
    · (intro w hSw; skip; go_simp; try with_reducible rfl)
    rotate_left 1
    · exact fun _ _ _ h => h
    try simp only [Act.put, zD, zE, zF]
    refine wpAnyH_take (i := 1) (oi := ?_) (v := ?_) ?_ (by kernel_rfl) (by kernel_rfl) (by kernel_rfl) ?_ (Or.inl ⟨?_, ?_⟩) (by assumption) ?_
    rotate_left 2
    · (simp only [zA, zB, zC]; rfl)
    rotate_left 1
    · rfl
    · (intro w hSw; skip; go_simp; try with_reducible rfl)
    rotate_left 1
    · exact fun _ _ _ h => h
    try simp only [Act.put, zD, zE, zF]
    refine wpAnyH_take (i := 2) (oi := ?_) (v := ?_) ?_ (by kernel_rfl) (by kernel_rfl) (by kernel_rfl) ?_ (Or.inl ⟨?_, ?_⟩) (by assumption) ?_
    rotate_left 2
    · (simp only [zA, zB, zC]; rfl)
    rotate_left 1
    · rfl
    · (intro w hSw; skip; go_simp; try with_reducible rfl)
    rotate_left 1
    · exact fun _ _ _ h => h
    try simp only [Act.put, zD, zE, zF]
    refine wpAnyH_take (i := 3) (oi := ?_) (v := ?_) ?_ (by kernel_rfl) (by kernel_rfl) (by kernel_rfl) ?_ (Or.inl ⟨?_, ?_⟩) (by assumption) ?_
    rotate_left 2
    · (simp only [zA, zB, zC]; rfl)
    rotate_left 1
    · rfl
    · (intro w hSw; skip; go_simp; try with_reducible rfl)
    rotate_left 1
    · exact fun _ _ _ h => h
    try simp only [Act.put, zD, zE, zF]
    refine wpAnyH_take (i := 4) (oi := ?_) (v := ?_) ?_ (by kernel_rfl) (by kernel_rfl) (by kernel_rfl) ?_ (Or.inl ⟨?_, ?_⟩) (by assumption) ?_
    rotate_left 2
    · (simp only [zA, zB, zC]; rfl)
    rotate_left 1
    · rfl
    · (intro w hSw; skip; go_simp; try with_reducible rfl)
    rotate_left 1
    · exact fun _ _ _ h => h
    try simp only [Act.put, zD, zE, zF]
    refine wpAnyH_take (i := 5) (oi := ?_) (v := ?_) ?_ (by kernel_rfl) (by kernel_rfl) (by kernel_rfl) ?_ (Or.inl ⟨?_, ?_⟩) (by assumption) ?_
    rotate_left 2
    · (simp only [zA, zB, zC]; rfl)
    rotate_left 1
    · rfl
    · (intro w hSw; skip; go_simp; try with_reducible rfl)
    rotate_left 1
    · exact fun _ _ _ h => h
    try simp only [Act.put, zD, zE, zF]
    refine wpAnyH_ready (rs := [6]) (by kernel_rfl) (by simp) ?_
    refine AllReadyH.cons (o := ?_) ?_ (fun K hK => ?_) AllReadyH.nil
    rotate_left 1
    · (simp only [zA, zB, zC]; rfl)
    go_simp
    refine hK.out _ _ ?_ (fun hHeld => ?_)
    · exact (World.cell?_setCell_other _ _ _ _ (by simp <;> (intro e; exact absurd e HGX.out))).trans hHeld
    clear hK K
    try simp only [Act.put, zD, zE, zF]
    refine wpAnyH_take (i := 7) (oi := ?_) (v := ?_) ?_ (by kernel_rfl) (by kernel_rfl) (by kernel_rfl) ?_ (Or.inl ⟨?_, ?_⟩) (by assumption) ?_
    rotate_left 2
    · (simp only [zA, zB, zC]; rfl)
    rotate_left 1
    · rfl
    · (intro w hSw; skip; go_simp; try with_reducible rfl)
    rotate_left 1
    · exact fun _ _ _ h => h
    try simp only [Act.put, zD, zE, zF]
    refine wpAnyH_take (i := 8) (oi := ?_) (v := ?_) ?_ (by kernel_rfl) (by kernel_rfl) (by kernel_rfl) ?_ (Or.inl ⟨?_, ?_⟩) (by assumption) ?_
    rotate_left 2
    · (simp only [zA, zB, zC]; rfl)
    rotate_left 1
    · rfl
    · (intro w hSw; skip; go_simp; try with_reducible rfl)
    rotate_left 1
    · exact fun _ _ _ h => h
    try simp only [Act.put, zD, zE, zF]
    refine wpAnyH_ready (rs := [9]) (by kernel_rfl) (by simp) ?_
    refine AllReadyH.cons (o := ?_) ?_ (fun K hK => ?_) AllReadyH.nil
    rotate_left 1
    · (simp only [zA, zB, zC]; rfl)
    go_simp
    refine hK.out _ _ ?_ (fun hHeld => ?_)
    · exact (World.cell?_setCell_other _ _ _ _ (by simp <;> (intro e; exact absurd e HGX.out))).trans hHeld
    clear hK K
    try simp only [Act.put, zD, zE, zF]
    refine wpAnyH_done (by kernel_rfl) ?_ _
    go_wp2
    go_ret
    exact ⟨rfl, ⟨_, (HB5.out.set_ o _).set_ (o + 1) _, set5 hroom _ _ _ _ _⟩, gb_dr (gb_set (gb_set HG5.out _ _) _ _)⟩
end Go.Proofs.YtdjpdllehhecpaaGreatDoor
namespace Go.Proofs.YtdjpdllehhecpaaGreatDoor
open Go.RowKit
set_option linter.unusedVariables false
set_option linter.unusedSimpArgs false
structure DecC (cs : Array Value) (o : Nat) (d : Dec) : Prop where
  room : o + 5 ≤ cs.size
  c0 : cs[o]? = some (.int .i64 d.held)
  c1 : cs[o + 1]? = some (.int .i64 d.needs)
  c2 : cs[o + 2]? = some (.int .u8 d.lo)
  c3 : cs[o + 3]? = some (.int .u8 d.hi)
  c4 : cs[o + 4]? = some (.int .i64 d.bits)
def DecTo (cs : Array Value) (o : Nat) (d : Dec) (cs' : Array Value) : Prop := DecC cs' o d ∧ cs'.size = cs.size ∧ ∀ i, (i < o ∨ o + 5 ≤ i) → cs'[i]? = cs[i]?
theorem DecTo.same {cs : Array Value} {o : Nat} {d : Dec} (h : DecC cs o d) : DecTo cs o d cs := ⟨h, rfl, fun _ _ => rfl⟩
theorem DecTo.trans {a b c : Array Value} {o : Nat} {d e : Dec} (h : DecTo a o d b) (k : DecTo b o e c) : DecTo a o e c := ⟨k.1, k.2.1.trans h.2.1, fun i hi => (k.2.2 i hi).trans (h.2.2 i hi)⟩
theorem decTo_A {cs : Array Value} {o : Nat} (h : o + 5 ≤ cs.size) (d : Dec) : DecTo cs o d (((((cs.setIfInBounds o (.int .i64 d.held)).setIfInBounds (o + 1) (.int .i64 d.needs)).setIfInBounds (o + 4) (.int .i64 d.bits)).setIfInBounds (o + 2) (.int .u8 d.lo)).setIfInBounds (o + 3) (.int .u8 d.hi)) := by
  refine ⟨⟨by simpa using h, ?_, ?_, ?_, ?_, ?_⟩, by simp, fun i hi => ?_⟩
  · simp [Array.getElem?_setIfInBounds, show o < cs.size by omega]
  · simp [Array.getElem?_setIfInBounds, show o + 1 < cs.size by omega]
  · simp [Array.getElem?_setIfInBounds, show o + 2 < cs.size by omega]
  · simp [Array.getElem?_setIfInBounds, show o + 3 < cs.size by omega]
  · simp [Array.getElem?_setIfInBounds, show o + 4 < cs.size by omega]
  · simp only [Array.getElem?_setIfInBounds]
    rw [if_neg (by omega), if_neg (by omega), if_neg (by omega), if_neg (by omega), if_neg (by omega)]
theorem decTo_B {cs : Array Value} {o : Nat} (h : o + 5 ≤ cs.size) (d : Dec) : DecTo cs o d (((((cs.setIfInBounds o (.int .i64 d.held)).setIfInBounds (o + 1) (.int .i64 d.needs)).setIfInBounds (o + 2) (.int .u8 d.lo)).setIfInBounds (o + 3) (.int .u8 d.hi)).setIfInBounds (o + 4) (.int .i64 d.bits)) := by
  refine ⟨⟨by simpa using h, ?_, ?_, ?_, ?_, ?_⟩, by simp, fun i hi => ?_⟩
  · simp [Array.getElem?_setIfInBounds, show o < cs.size by omega]
  · simp [Array.getElem?_setIfInBounds, show o + 1 < cs.size by omega]
  · simp [Array.getElem?_setIfInBounds, show o + 2 < cs.size by omega]
  · simp [Array.getElem?_setIfInBounds, show o + 3 < cs.size by omega]
  · simp [Array.getElem?_setIfInBounds, show o + 4 < cs.size by omega]
  · simp only [Array.getElem?_setIfInBounds]
    rw [if_neg (by omega), if_neg (by omega), if_neg (by omega), if_neg (by omega), if_neg (by omega)]
theorem decTo_C {cs : Array Value} {o : Nat} (h : o + 5 ≤ cs.size) (d : Dec) : DecTo cs o d (((((cs.setIfInBounds (o + 4) (.int .i64 d.bits)).setIfInBounds (o + 2) (.int .u8 d.lo)).setIfInBounds (o + 3) (.int .u8 d.hi)).setIfInBounds o (.int .i64 d.held)).setIfInBounds (o + 1) (.int .i64 d.needs)) := by
  refine ⟨⟨by simpa using h, ?_, ?_, ?_, ?_, ?_⟩, by simp, fun i hi => ?_⟩
  · simp [Array.getElem?_setIfInBounds, show o < cs.size by omega]
  · simp [Array.getElem?_setIfInBounds, show o + 1 < cs.size by omega]
  · simp [Array.getElem?_setIfInBounds, show o + 2 < cs.size by omega]
  · simp [Array.getElem?_setIfInBounds, show o + 3 < cs.size by omega]
  · simp [Array.getElem?_setIfInBounds, show o + 4 < cs.size by omega]
  · simp only [Array.getElem?_setIfInBounds]
    rw [if_neg (by omega), if_neg (by omega), if_neg (by omega), if_neg (by omega), if_neg (by omega)]
structure DecO (w : World) (g : Nat) (t : TypeId) (cs : Array Value) (o : Nat) (d : Dec) : Prop where
  blk : Blk w g t cs
  dec : DecC cs o d
theorem DecO.cells {w : World} {g o : Nat} {t : TypeId} {cs : Array Value} {d : Dec} (h : DecO w g t cs o d) :
    g < w.heap.size ∧ w.cell? ⟨g, o, none⟩ = some (.int .i64 d.held) ∧ w.cell? ⟨g, o + 1, none⟩ = some (.int .i64 d.needs) ∧ w.cell? ⟨g, o + 2, none⟩ = some (.int .u8 d.lo) ∧ w.cell? ⟨g, o + 3, none⟩ = some (.int .u8 d.hi) ∧
      w.cell? ⟨g, o + 4, none⟩ = some (.int .i64 d.bits) ∧ w.frozen? ⟨g, o, none⟩ = false ∧ w.frozen? ⟨g, o + 1, none⟩ = false ∧ w.frozen? ⟨g, o + 2, none⟩ = false ∧ w.frozen? ⟨g, o + 3, none⟩ = false ∧ w.frozen? ⟨g, o + 4, none⟩ = false :=
  ⟨h.blk.lt, (h.blk.cell _).trans h.dec.c0, (h.blk.cell _).trans h.dec.c1, (h.blk.cell _).trans h.dec.c2, (h.blk.cell _).trans h.dec.c3, (h.blk.cell _).trans h.dec.c4, h.blk.frozen _, h.blk.frozen _, h.blk.frozen _, h.blk.frozen _, h.blk.frozen _⟩
def DecRes (w w' : World) (g : Nat) (t : TypeId) (cs : Array Value) (o : Nat) (l : List Int) (d : Dec) (e : Ending) : Prop :=
  ∃ v, e = .returned v ∧ Own (Rep.int .i32) 21 [] w.heap.size w' v l ∧ (∃ cs', Blk w' g t cs' ∧ DecTo cs o d cs') ∧ w.grownBy w' (some g)
theorem HeldO_ok (g o : Nat) (t : TypeId) (cs : Array Value) (d : Dec) (w : World) (h : DecO w g t cs o d) :
    Calls Tryz.prog 92 #[.pointer (some ⟨g, o, none⟩)] w fun e w' => e = .returned (.int .i64 d.held) ∧ w = w' := by
  obtain ⟨hg, h0, h1, h2, h3, h4, f0, f1, f2, f3, f4⟩ := h.cells
  go_enter Tryz.func92, Tryz.ntmps92
  go_wp2
  go_ret
  exact ⟨rfl, rfl⟩
theorem beginO_ok (g o : Nat) (t : TypeId) (ht : t ≠ 21) (cs : Array Value) (d : Dec) (b : Int) (w : World) (h : DecO w g t cs o d) (hb0 : 0 ≤ b) (hb1 : b ≤ 255) :
    Calls Tryz.prog 91 #[.pointer (some ⟨g, o, none⟩), .int .u8 b] w fun e w' => DecRes w w' g t cs o (beginF d b).1 (beginF d b).2 e := by
  obtain ⟨hg, h0, h1, h2, h3, h4, f0, f1, f2, f3, f4⟩ := h.cells
  have hl := leadF_range b
  unfold DecRes
  by_cases e0 : leadF b = 0
  · have hr : beginF d b = ([65533], d) := by unfold beginF; rw [if_pos e0]
    have hL := Lead_ok b hb0 hb1
    rw [e0] at hL
    have HL := hide hL
    rw [hr]
    clear e0 hL hr
    go_enter Tryz.func91, Tryz.ntmps91
    go_wp2_with (go_at_call 129; refine (HL.out _).mono ?_; rintro e w' ⟨rfl, rfl⟩)
    go_ret
    exact ⟨_, rfl, own_one _ _ (by decide) _ (Nat.le_refl _), ⟨cs, h.blk.alloc _, DecTo.same h.dec⟩, gb_alloc (gb_refl _ _) _⟩
  · by_cases e1 : leadF b = 1
    · have hr : beginF d b = ([b], d) := by unfold beginF; rw [if_neg e0, if_pos e1]
      have hL := Lead_ok b hb0 hb1
      rw [e1] at hL
      have HL := hide hL
      rw [hr]
      clear e0 e1 hL hr
      go_enter Tryz.func91, Tryz.ntmps91
      go_wp2_with (go_at_call 129; refine (HL.out _).mono ?_; rintro e w' ⟨rfl, rfl⟩)
      go_ret
      exact ⟨_, rfl, own_one _ _ (wf_i32 (by omega) (by omega)) _ (Nat.le_refl _), ⟨cs, h.blk.alloc _, DecTo.same h.dec⟩, gb_alloc (gb_refl _ _) _⟩
    · have hr : beginF d b = ([], ⟨1, leadF b - 1, loF b, hiF b, bitsF b⟩) := by unfold beginF; rw [if_neg e0, if_neg e1]
      have n0 : (leadF b == 0) = false := by simpa using e0
      have n1 : (leadF b == 1) = false := by simpa using e1
      rw [hr]
      clear e0 e1 hr
      go_enter Tryz.func91, Tryz.ntmps91
      go_wp2_with (first | (go_at_call 129; refine (Lead_ok _ (by omega) (by omega) _).mono ?_; rintro e w' ⟨rfl, rfl⟩) | (go_at_call 130; refine (Bits_ok _ (by omega) (by omega) _).mono ?_; rintro e w' ⟨rfl, rfl⟩) | (go_at_call 131; refine (Second_ok _ (by omega) (by omega) _).mono ?_; rintro e w' ⟨rfl, rfl⟩))
      go_ret
      exact ⟨_, rfl, Own.nil_ _ _ _ _ _ (by simp), ⟨_, ((((h.blk.set_ o _).set_ (o + 1) _).set_ (o + 4) _).set_ (o + 2) _).set_ (o + 3) _, decTo_A h.dec.room ⟨1, leadF b - 1, loF b, hiF b, bitsF b⟩⟩, gb_set (gb_set (gb_set (gb_set (gb_set (gb_refl _ _) o _) (o + 1) _) (o + 4) _) (o + 2) _) (o + 3) _⟩
theorem FlushO_ok (g o : Nat) (t : TypeId) (cs : Array Value) (d : Dec) (w : World) (h : DecO w g t cs o d) :
    Calls Tryz.prog 61 #[.pointer (some ⟨g, o, none⟩)] w fun e w' => DecRes w w' g t cs o (if d.held = 0 then [] else [65533]) (if d.held = 0 then d else ⟨0, 0, 0, 0, 0⟩) e := by
  obtain ⟨hg, h0, h1, h2, h3, h4, f0, f1, f2, f3, f4⟩ := h.cells
  unfold DecRes
  by_cases e0 : d.held = 0
  · have n0 : (d.held == 0) = true := by simpa using e0
    rw [if_pos e0, if_pos e0]
    clear e0
    go_enter Tryz.func61, Tryz.ntmps61
    go_wp2_with (refine (HeldO_ok _ _ _ _ _ _ h).mono ?_; rintro e w' ⟨rfl, rfl⟩)
    go_ret
    exact ⟨_, rfl, Own.nil_ _ _ _ _ _ (by simp), ⟨cs, h.blk, DecTo.same h.dec⟩, gb_refl _ _⟩
  · have n0 : (d.held == 0) = false := by simpa using e0
    rw [if_neg e0, if_neg e0]
    clear e0
    go_enter Tryz.func61, Tryz.ntmps61
    go_wp2_with (refine (HeldO_ok _ _ _ _ _ _ h).mono ?_; rintro e w' ⟨rfl, rfl⟩)
    go_ret
    have hk := ((((h.blk.set_ o (.int .i64 0)).set_ (o + 1) (.int .i64 0)).set_ (o + 2) (.int .u8 0)).set_ (o + 3) (.int .u8 0)).set_ (o + 4) (.int .i64 0)
    exact ⟨_, rfl, own_one' _ _ (by decide) _ _ (Nat.le_refl _) (by simp), ⟨_, hk.alloc _, decTo_B h.dec.room ⟨0, 0, 0, 0, 0⟩⟩, gb_alloc (gb_set (gb_set (gb_set (gb_set (gb_set (gb_refl _ _) o _) (o + 1) _) (o + 2) _) (o + 3) _) (o + 4) _) _⟩
set_option maxHeartbeats 1000000 in
theorem StepO_ok (g o : Nat) (t : TypeId) (ht : t ≠ 21) (cs : Array Value) (d : Dec) (b : Int) (w : World) (h : DecO w g t cs o d) (hs : Small d) (hb0 : 0 ≤ b) (hb1 : b ≤ 255) :
    Calls Tryz.prog 60 #[.pointer (some ⟨g, o, none⟩), .int .u8 b] w fun e w' => DecRes w w' g t cs o (decStepF d b).1 (decStepF d b).2 e := by
  obtain ⟨hg, h0, h1, h2, h3, h4, f0, f1, f2, f3, f4⟩ := h.cells
  obtain ⟨s0, s1, s2, s3, s4, s5, s6, s7, s8, s9⟩ := hs
  by_cases e0 : d.held = 0
  · have n0 : (d.held == 0) = true := by simpa using e0
    have hr : decStepF d b = beginF d b := by unfold decStepF; rw [if_pos e0]
    rw [hr]
    have HB := hide (beginO_ok g o t ht cs d b w h hb0 hb1)
    clear e0 hr
    go_enter Tryz.func60, Tryz.ntmps60
    go_wp2_with fail
    refine HB.out.mono ?_
    rintro e w1 ⟨v, rfl, hv, hd, hw⟩
    go_wp2
    go_ret
    exact ⟨_, rfl, hv, hd, hw⟩
  · have n0 : (d.held == 0) = false := by simpa using e0
    by_cases e1 : b < d.lo ∨ d.hi < b
    · have hr : decStepF d b = (65533 :: (beginF ⟨0, 0, 0, 0, 0⟩ b).1, (beginF ⟨0, 0, 0, 0, 0⟩ b).2) := by unfold decStepF; rw [if_neg e0, if_pos e1]
      rw [hr]
      have hfl := FlushO_ok g o t cs d w h
      rw [if_neg e0, if_neg e0] at hfl
      have HFL := hide hfl
      have HBG := hide (fun W cs' (hW : DecO W g t cs' o ⟨0, 0, 0, 0, 0⟩) => beginO_ok g o t ht cs' ⟨0, 0, 0, 0, 0⟩ b W hW hb0 hb1)
      clear hr hfl e0
      have hc : b < d.lo ∨ (d.lo ≤ b ∧ d.hi < b) := by omega
      clear e1
      rcases hc with hc | ⟨hc, hc'⟩
      all_goals
        go_enter Tryz.func60, Tryz.ntmps60
        go_wp2_with fail
        refine HFL.out.mono ?_
        rintro e w1 ⟨v1, rfl, hv1, ⟨cs1, hB1, hd1⟩, hw1⟩
        have HB1 := hide hB1
        have HD1 := hide hd1
        clear hB1 hd1
        go_wp2_with fail
        refine (HBG.out _ _ ⟨HB1.out, HD1.out.1⟩).mono ?_
        rintro e w2 ⟨v2, rfl, hv2, ⟨cs2, hB2, hd2⟩, hw2⟩
        have hv1' := hv1.ints_gb hw2 HB1.out (Ne.symm ht)
        have hsz : w.heap.size ≤ w1.heap.size := hw1.size
        have hsz2 : w1.heap.size ≤ w2.heap.size := hw2.size
        have hln : (beginF ⟨0, 0, 0, 0, 0⟩ b).1.length ≤ 1 := by unfold beginF; (repeat' split) <;> simp
        have HB2 := hide hB2
        have HD2 := hide hd2
        clear hB2 hd2
        go_wp2_with (at_builtin; refine wpList_appi rfl (.tmp 34) (.tmp 37) 24 rfl .i32 21 w.heap.size 4 Tryz.underlying24 i32_info (by decide) _ _ rfl hv1' _ _ _ _ rfl hv2.islc (by simp; omega) (by omega) ?_; intro v3 w3 hv3 hst3)
        go_ret
        exact ⟨_, rfl, hv3, ⟨cs2, HB2.out.step hst3 (by simpa using ht), HD1.out.trans HD2.out⟩, gb_step (gb_trans hw1 hw2) hst3⟩
    · have hb6 : bits .and .u8 b 63 = b % 64 := by
        obtain ⟨n, rfl⟩ := Int.eq_ofNat_of_zero_le hb0
        have hx : n &&& 63 < 256 := Nat.lt_of_le_of_lt Nat.and_le_right (by decide)
        show IntKind.u8.wrap ((BitVec.ofInt 8 (n : Int) &&& BitVec.ofInt 8 63).toNat : Int) = _
        rw [BitVec.toNat_and, BitVec.ofInt_natCast, BitVec.toNat_ofNat, Nat.mod_eq_of_lt (by omega)]
        have e : (BitVec.ofInt 8 63).toNat = 2 ^ 6 - 1 := by decide
        rw [e, Nat.and_two_pow_sub_one_eq_mod]
        simp [IntKind.wrap, IntKind.signed, IntKind.bits]
        omega
      have hor := or_low d.bits (b % 64) s8 s9 (by omega) (by omega)
      have hbb : 0 ≤ d.bits * 64 + b % 64 ∧ d.bits * 64 + b % 64 ≤ 33554495 := by omega
      unfold DecRes
      by_cases e2 : 0 < d.needs - 1
      · have hr : decStepF d b = ([], ⟨d.held + 1, d.needs - 1, 128, 191, d.bits * 64 + b % 64⟩) := by unfold decStepF; rw [if_neg e0, if_neg e1, if_pos e2]
        rw [hr]
        have e1' : d.lo ≤ b ∧ b ≤ d.hi := by omega
        clear hr e0 e1
        go_enter Tryz.func60, Tryz.ntmps60
        go_wp2
        go_ret
        exact ⟨_, rfl, Own.nil_ _ _ _ _ _ (by simp), ⟨_, ((((h.blk.set_ (o + 4) _).set_ (o + 2) _).set_ (o + 3) _).set_ o _).set_ (o + 1) _, decTo_C h.dec.room ⟨d.held + 1, d.needs - 1, 128, 191, d.bits * 64 + b % 64⟩⟩, gb_set (gb_set (gb_set (gb_set (gb_set (gb_refl _ _) (o + 4) _) (o + 2) _) (o + 3) _) o _) (o + 1) _⟩
      · have hr : decStepF d b = ([d.bits * 64 + b % 64], ⟨0, 0, 0, 0, 0⟩) := by unfold decStepF; rw [if_neg e0, if_neg e1, if_neg e2]
        rw [hr]
        have e1' : d.lo ≤ b ∧ b ≤ d.hi := by omega
        clear hr e0 e1
        go_enter Tryz.func60, Tryz.ntmps60
        go_wp2
        go_ret
        have b1 := ((((h.blk.set_ (o + 4) (.int .i64 (d.bits * 64 + b % 64))).set_ (o + 2) (.int .u8 128)).set_ (o + 3) (.int .u8 191)).set_ o (.int .i64 (d.held + 1))).set_ (o + 1) (.int .i64 (d.needs - 1))
        have d1 := decTo_C h.dec.room ⟨d.held + 1, d.needs - 1, 128, 191, d.bits * 64 + b % 64⟩
        have b2 := ((((b1.set_ o (.int .i64 0)).set_ (o + 1) (.int .i64 0)).set_ (o + 2) (.int .u8 0)).set_ (o + 3) (.int .u8 0)).set_ (o + 4) (.int .i64 0)
        have d2 := d1.trans (decTo_B d1.1.room ⟨0, 0, 0, 0, 0⟩)
        have g1 := gb_set (gb_set (gb_set (gb_set (gb_set (gb_refl w g) (o + 4) (.int .i64 (d.bits * 64 + b % 64))) (o + 2) (.int .u8 128)) (o + 3) (.int .u8 191)) o (.int .i64 (d.held + 1))) (o + 1) (.int .i64 (d.needs - 1))
        have g2 := gb_set (gb_set (gb_set (gb_set (gb_set g1 o (.int .i64 0)) (o + 1) (.int .i64 0)) (o + 2) (.int .u8 0)) (o + 3) (.int .u8 0)) (o + 4) (.int .i64 0)
        exact ⟨_, rfl, own_one' _ _ (wf_i32 (by omega) (by omega)) _ _ (Nat.le_refl _) (by simp), ⟨_, b2.alloc _, d2⟩, gb_alloc g2 _⟩
theorem StepOH_ok (g o : Nat) (t : TypeId) (ht : t ≠ 21) (cs : Array Value) (h : List Int) (b : Int) (w : World) (hh : DecO w g t cs o (decOf h)) (hp : Pre h) (hby : Bytes h) (hb0 : 0 ≤ b) (hb1 : b ≤ 255) :
    Calls Tryz.prog 60 #[.pointer (some ⟨g, o, none⟩), .int .u8 b] w fun e w' => DecRes w w' g t cs o (refStepF h b).1 (decOf (refStepF h b).2) e ∧ Pre (refStepF h b).2 ∧ Bytes (refStepF h b).2 := by
  obtain ⟨h1, h2, h3⟩ := dec_step h b hp hby ⟨hb0, hb1⟩
  refine (StepO_ok g o t ht cs _ b w hh (small_of hp hby) hb0 hb1).mono ?_
  intro e w' hr
  rw [h1] at hr
  exact ⟨hr, h2, h3⟩
theorem FlushON_ok (g o : Nat) (t : TypeId) (cs : Array Value) (w : World) (hh : DecO w g t cs o (decOf [])) :
    Calls Tryz.prog 61 #[.pointer (some ⟨g, o, none⟩)] w fun e w' => DecRes w w' g t cs o [] (decOf []) e := by
  have := FlushO_ok g o t cs _ w hh
  rw [dec_held] at this
  simpa using this
end Go.Proofs.YtdjpdllehhecpaaGreatDoor
