/-
  What the functions that make a row of cells, and give its cells, return. Each function once.
-/
import Derived.Test.YtbkenfljknpjgaaDoorRow1
namespace Go.Proofs.YtbkenfljknpjgaaDoor
open Go.RowKit
set_option linter.unusedVariables false
set_option linter.unusedSimpArgs false

theorem list_set2 {a b : Value} {rest : List Value} : ∀ (xs : List Value) (i : Nat), i + 1 < xs.length → ((xs ++ rest).set i a).set (i + 1) b = (xs.take i ++ [a, b] ++ xs.drop (i + 2)) ++ rest
  | [], i, h => by simp at h
  | [x], i, h => by simp at h
  | x :: y :: zs, 0, _ => by simp
  | x :: xs, i + 1, h => by
    have ih := list_set2 (a := a) (b := b) (rest := rest) xs i (by simpa using h)
    simp only [List.cons_append, List.set_cons_succ, List.take_succ_cons, List.drop_succ_cons]
    rw [ih]
theorem take_set {α : Type} (l : List α) (b : α) (n k : Nat) (hk : k < l.length) (hn : l.length = n) : (l.take k ++ List.replicate (n - k) b).set k l[k] = l.take (k + 1) ++ List.replicate (n - (k + 1)) b := by
  have e : n - k = (n - (k + 1)) + 1 := by omega
  rw [e, List.replicate_succ, List.set_append_right _ _ (by simp; omega)]
  have : k - (l.take k).length = 0 := by simp; omega
  rw [this, List.set_cons_zero, take_snoc' l k hk, List.append_assoc]
  rfl

/-- What row.Of refuses: nothing of strips that are sound, neither empty nor longer than a side. -/
theorem sound_len {l : List CellV} (h : soundB l = true) : ∀ c ∈ l, c.2.length ≤ 16 := by
  have : ∀ (l : List CellV) (b : Bool), soundG b l = true → ∀ c ∈ l, c.2.length ≤ 16 := by
    intro l
    induction l with
    | nil => intro b _ c hc; cases hc
    | cons d l ih =>
      intro b h c hc
      simp only [soundG, Bool.and_eq_true] at h
      rcases List.mem_cons.1 hc with rfl | hc
      · have hr := h.1.1
        unfold rightB at hr
        split at hr
        · simp only [decide_eq_true_eq] at hr; omega
        · split at hr
          · simp only [Bool.and_eq_true, decide_eq_true_eq] at hr; omega
          · cases hr
      · exact ih _ h.2 c hc
  exact this l false h

set_option maxHeartbeats 2000000 in
theorem ROf_ok (So Si : Nat → Prop) (x : Value) (l : List CellV) (w : World) (hx : Slc RCell So Si w x l) (h0 : 0 < l.length) (h1 : l.length ≤ 1024) (hs : soundB l = true) :
    Calls Tryd.prog 12 #[x] w fun e w' => ∃ v, e = .returned (.tuple #[v, .nilIface]) ∧ RowIs w.heap.size w' v l false ∧ Below w.heap.size w w' := by
  obtain ⟨A, c, rfl, hc1, hc2, hB⟩ := hx.open_
  have hsl := sound_len hs
  have hR := fun w hx => Sound_ok So Si (.slice A l.length c) l w hx
  rw [hs] at hR
  have HR := hide hR
  have HSL := hide hsl
  have hb0 : ((l.length : Int) == 0) = false := by rw [beq_eq_false_iff_ne]; omega
  have hb1 : ¬ (1024 : Int) < l.length := by omega
  clear hR hsl hs
  go_enter Tryd.func12, Tryd.ntmps12
  go_wp2_with fail
  refine (HR.out _ hx).mono ?_
  rintro e w1 ⟨rfl, hb1'⟩
  have hz1 := hb1'.size
  go_wp2_with fail
  refine (New_ok l.length h0 h1 _).mono ?_
  rintro e w2 ⟨v2, rfl, hv2, hb2⟩
  have hb2' := hb1'.trans (hb2.mono hz1)
  have hz2 := hb2'.size
  have hv2 : RowIs w.heap.size w2 v2 (l.take 0 ++ List.replicate (l.length - 0) (0, [])) false := by
    obtain ⟨g, s, rfl, q1, q2, q3⟩ := hv2
    exact ⟨g, s, rfl, Nat.le_trans hz1 q1, q2, by simpa using q3.down w.heap.size (Nat.zero_le _) hz1⟩
  obtain ⟨g, s, rfl, hgb, hgk, hown⟩ := hv2
  go_wp2
  go_loopw [27] (fun i wr => ∃ k : Nat, k ≤ l.length ∧ i = .int .i64 k ∧ Below w.heap.size w wr ∧ RowIs w.heap.size wr (.pointer (some ⟨g, 0, none⟩)) (l.take k ++ List.replicate (l.length - k) (0, [])) false) (fun i _ => l.length - (intOf i).toNat)
  case atStart => exact ⟨0, Nat.zero_le _, rfl, hb2', g, s, rfl, hgb, hgk, hown⟩
  case round =>
    obtain ⟨k, hk, rfl, hbel, hrow⟩ := hrel
    have hsz := hbel.size
    by_cases hlt : k < l.length
    · obtain ⟨g', s', hge, hgb', hgk', hown'⟩ := hrow
      obtain rfl : g = g' := by simpa using hge
      have hxk := hx.mono (Keep.below (S := So) hbel) (Keep.below (S := Si) hbel)
      obtain ⟨ab, off, v, rfl, _, q0, q1, hw, hv⟩ := cell_at hxk.slb hlt
      obtain ⟨A', c', rfl, hd1, hd2, _⟩ := hv.open_
      have hln := HSL.out l[k] (List.getElem_mem _)
      have hvd := (hv.ints_keep (Keep.alloc Si wr (.cells #[.int .i64 l[k].1, .slice A' l[k].2.length c'] 74))).ints_keep (keep_dr _ _)
      have hll : (l.take k ++ List.replicate (l.length - k) ((0, []) : CellV)).length = l.length := by simp; omega
      obtain ⟨g2, cap, xs, rest, rfl, hg2, hblk, hxl, hels, hsz2, hcap, hcm⟩ := own2_open hown' (by omega)
      rw [hll] at hxl hcap
      have esz : RCell.sz = 2 := rfl
      rw [esz] at hxl
      have hab := World.block_lt_of_cell? wr _ q0
      simp only at hab
      have hne : g ≠ g2 := by
        intro e
        subst e
        have h1 : wr.heap[g]? = _ := hgk'
        have h2 : wr.heap[g]? = _ := hblk
        rw [h1] at h2
        injection h2 with h2
        injection h2 with _ h2
        simp at h2
      have hg2a := (hblk.alloc (.cells #[.int .i64 l[k].1, .slice A' l[k].2.length c'] 74)).dr
      have hgka := hgk'.alloc (.cells #[.int .i64 l[k].1, .slice A' l[k].2.length c'] 74)
      have hlo := Blk.new wr 74 #[.int .i64 l[k].1, .slice A' l[k].2.length c']
      have y0 := hgka.cell 0
      have y1 := hlo.cell 0
      have y2 := hlo.cell 1
      rw [hll] at y0
      simp only [List.getElem?_toArray, List.getElem?_cons_succ, List.getElem?_cons_zero] at y0 y1 y2
      have hxa : (xs ++ rest).toArray[k * 2]? = some (xs[k * 2]'(by omega)) := by simp; rw [List.getElem?_append_left (by omega), List.getElem?_eq_getElem]
      have hxb : (xs ++ rest).toArray[k * 2 + 1]? = some (xs[k * 2 + 1]'(by omega)) := by simp; rw [List.getElem?_append_left (by omega), List.getElem?_eq_getElem]
      have hg1 := hgk'.lt
      have hg2l := hblk.lt
      have hne2 : g2 ≠ wr.heap.size := by omega
      go_wp2
      refine wp_region_held_drew (S := fun w' => w'.cell? ⟨g, 0, none⟩ = some (.slice (some ⟨g2, 0, none⟩) l.length cap) ∧ w'.cell? ⟨wr.heap.size, 0, none⟩ = some (.int .i64 l[k].1) ∧ w'.cell? ⟨wr.heap.size, 1, none⟩ = some (.slice A' l[k].2.length c')) (by kernel_rfl) (by go_keep) (fun hHeld => ?_)
      refine wpAnyH_take (i := 0) (oi := ?_) (v := ?_) ?_ (by kernel_rfl) (by kernel_rfl) (by kernel_rfl) ?_ (Or.inl ⟨?_, ?_⟩) (by assumption) ?_
      rotate_left 2
      · (simp only [List.getElem?_toArray, List.getElem?_cons_succ, List.getElem?_cons_zero]; rfl)
      rotate_left 1
      · rfl
      · (intro w hSw; (try dsimp only at hSw); go_simp; try with_reducible rfl)
      rotate_left 1
      · exact fun _ _ _ h => h
      try simp only [Act.put, List.setIfInBounds_toArray, List.set_cons_zero, List.set_cons_succ]
      refine wpAnyH_take (i := 1) (oi := ?_) (v := ?_) ?_ (by kernel_rfl) (by kernel_rfl) (by kernel_rfl) ?_ (Or.inl ⟨?_, ?_⟩) (by assumption) ?_
      rotate_left 2
      · (simp only [List.getElem?_toArray, List.getElem?_cons_succ, List.getElem?_cons_zero]; rfl)
      rotate_left 1
      · rfl
      · (intro w hSw; (try dsimp only at hSw); go_simp; try with_reducible rfl)
      rotate_left 1
      · exact fun _ _ _ h => h
      try simp only [Act.put, List.setIfInBounds_toArray, List.set_cons_zero, List.set_cons_succ]
      refine wpAnyH_take (i := 2) (oi := ?_) (v := ?_) ?_ (by kernel_rfl) (by kernel_rfl) (by kernel_rfl) ?_ (Or.inl ⟨?_, ?_⟩) (by assumption) ?_
      rotate_left 2
      · (simp only [List.getElem?_toArray, List.getElem?_cons_succ, List.getElem?_cons_zero]; rfl)
      rotate_left 1
      · rfl
      · (intro w hSw; (try dsimp only at hSw); go_simp; try with_reducible rfl)
      rotate_left 1
      · exact fun _ _ _ h => h
      try simp only [Act.put, List.setIfInBounds_toArray, List.set_cons_zero, List.set_cons_succ]
      refine wpAnyH_take (i := 3) (oi := ?_) (v := ?_) ?_ (by kernel_rfl) (by kernel_rfl) (by kernel_rfl) ?_ (Or.inl ⟨?_, ?_⟩) (by assumption) ?_
      rotate_left 2
      · (simp only [List.getElem?_toArray, List.getElem?_cons_succ, List.getElem?_cons_zero]; rfl)
      rotate_left 1
      · rfl
      · (intro w hSw; (try dsimp only at hSw); go_simp; try with_reducible rfl)
      rotate_left 1
      · exact fun _ _ _ h => h
      try simp only [Act.put, List.setIfInBounds_toArray, List.set_cons_zero, List.set_cons_succ]
      refine wpAnyH_take (i := 4) (oi := ?_) (v := ?_) ?_ (by kernel_rfl) (by kernel_rfl) (by kernel_rfl) ?_ (Or.inl ⟨?_, ?_⟩) (by assumption) ?_
      rotate_left 2
      · (simp only [List.getElem?_toArray, List.getElem?_cons_succ, List.getElem?_cons_zero]; rfl)
      rotate_left 1
      · rfl
      · (intro w hSw; (try dsimp only at hSw); go_simp; try with_reducible rfl)
      rotate_left 1
      · exact fun _ _ _ h => h
      try simp only [Act.put, List.setIfInBounds_toArray, List.set_cons_zero, List.set_cons_succ]
      refine wpAnyH_take (i := 5) (oi := ?_) (v := ?_) ?_ (by kernel_rfl) (by kernel_rfl) (by kernel_rfl) ?_ (Or.inl ⟨?_, ?_⟩) (by assumption) ?_
      rotate_left 2
      · (simp only [List.getElem?_toArray, List.getElem?_cons_succ, List.getElem?_cons_zero]; rfl)
      rotate_left 1
      · rfl
      · (intro w hSw; (try dsimp only at hSw); go_simp; try with_reducible rfl)
      rotate_left 1
      · exact fun _ _ _ h => h
      try simp only [Act.put, List.setIfInBounds_toArray, List.set_cons_zero, List.set_cons_succ]
      refine wpAnyH_ready (rs := [6]) (by kernel_rfl) (by simp) ?_
      refine AllReadyH.cons (o := ?_) ?_ (fun K hK => ?_) AllReadyH.nil
      rotate_left 1
      · (simp only [List.getElem?_toArray, List.getElem?_cons_succ, List.getElem?_cons_zero]; rfl)
      go_simp
      (go_at_call 43; refine (own_ok _ _ l[k].1 _ l[k].2 _ hvd (by omega)).mono ?_; rintro e w3 ⟨v3, rfl, hv3, hb3⟩; obtain ⟨A3, c3, rfl, _, _, _⟩ := hv3.islc.open_; have z0 := (hb3.cell (p := ⟨g, 0, none⟩) (by simp <;> omega)).trans (by first | assumption | exact y0 : _ = some (.slice (some ⟨g2, 0, none⟩) l.length cap)); have z1 := (hb3.cell (p := ⟨wr.heap.size, 0, none⟩) (by simp <;> omega)).trans (by first | assumption | exact y1 : _ = some (.int .i64 l[k].1)); have z2 := (hb3.cell (p := ⟨wr.heap.size, 1, none⟩) (by simp <;> omega)).trans (by first | assumption | exact y2 : _ = some (.slice A' l[k].2.length c')); have hg3 := hg2a.same hb3; have gl := hg3.lt; have gf0 := hg3.frozen (k * 2); have gf1 := hg3.frozen (k * 2 + 1); have gc0 := hg3.cell (k * 2); have gc1 := hg3.cell (k * 2 + 1); rw [hxa] at gc0; rw [hxb] at gc1)
      refine hK.out _ _ ?_ (fun hHeld => ?_)
      · ((try dsimp only); go_keep)
      clear hK K
      try simp only [Act.put, List.setIfInBounds_toArray, List.set_cons_zero, List.set_cons_succ]
      refine wpAnyH_take (i := 7) (oi := ?_) (v := ?_) ?_ (by kernel_rfl) (by kernel_rfl) (by kernel_rfl) ?_ (Or.inl ⟨?_, ?_⟩) (by assumption) ?_
      rotate_left 2
      · (simp only [List.getElem?_toArray, List.getElem?_cons_succ, List.getElem?_cons_zero]; rfl)
      rotate_left 1
      · rfl
      · (intro w hSw; (try dsimp only at hSw); go_simp; try with_reducible rfl)
      rotate_left 1
      · exact fun _ _ _ h => h
      try simp only [Act.put, List.setIfInBounds_toArray, List.set_cons_zero, List.set_cons_succ]
      refine wpAnyH_ready (rs := [8]) (by kernel_rfl) (by simp) ?_
      refine AllReadyH.cons (o := ?_) ?_ (fun K hK => ?_) AllReadyH.nil
      rotate_left 1
      · (simp only [List.getElem?_toArray, List.getElem?_cons_succ, List.getElem?_cons_zero]; rfl)
      go_simp
      refine hK.out _ _ ?_ (fun hHeld => ?_)
      · exact ⟨by rw [World.cell?_setCell_far _ _ _ _ (Ne.symm hne), World.cell?_setCell_far _ _ _ _ (Ne.symm hne)]; exact z0, by rw [World.cell?_setCell_far _ _ _ _ hne2, World.cell?_setCell_far _ _ _ _ hne2]; exact z1, by rw [World.cell?_setCell_far _ _ _ _ hne2, World.cell?_setCell_far _ _ _ _ hne2]; exact z2⟩
      clear hK K
      try simp only [Act.put, List.setIfInBounds_toArray, List.set_cons_zero, List.set_cons_succ]
      refine wpAnyH_done (by kernel_rfl) ?_ _
      have hz3 := hb3.size
      have s1 := hg3.set_ (k * 2) (.int .i64 l[k].1)
      have s2 := s1.set_ (k * 2 + 1) (.slice A3 l[k].2.length c3)
      have hst : Step w.heap.size [74] w3 _ := ((Step.refl w.heap.size [74] w3).setCell (p := ⟨g2, k * 2, none⟩) hg2 hg3.bears (.int .i64 l[k].1)).setCell (p := ⟨g2, k * 2 + 1, none⟩) hg2 s1.bears (.slice A3 l[k].2.length c3)
      have hv5 := hv3.ints_step hst (by decide)
      have hbel3 := (below_dr (hbel.alloc hsz (.cells #[.int .i64 l[k].1, .slice A' l[k].2.length c'] 74))).trans (hb3.mono (by simp; omega))
      have hels3 := (hels.mono (Keep.step (es := []) ((Step.alloc1 0 [] wr (.cells #[.int .i64 l[k].1, .slice A' l[k].2.length c'] 74)).drew.trans (Step.of_below hb3)) (by simp))).mono (Keep.step (hst.mono (Nat.zero_le _) (fun _ h => h)) (by decide))
      have hel4 := hels3.set_ k l[k] [.int .i64 l[k].1, .slice A3 l[k].2.length c3] (by omega) (cell_E hw (own_typed hv5 _))
      rw [take_set l _ _ k hlt rfl, esz] at hel4
      simp only [List.setIfInBounds_toArray] at s2
      rw [list_set2 xs (k * 2) (by omega)] at s2
      have hgk5 := (hgka.dr.same hb3).step hst (by decide)
      rw [show (k + 1) * 2 = k * 2 + 2 by omega] at hel4
      have hfin : Own2 RCell 74 [21] w.heap.size 0 _ (.slice (some ⟨g2, 0, none⟩) l.length cap) (l.take (k + 1) ++ List.replicate (l.length - (k + 1)) (0, [])) :=
        own2_shut (Nat.zero_le _) (by decide) hg2 s2 hel4 (by simp; omega) (by rw [← hsz2]; simp; omega) hcap hcm
      rw [hll] at hgk5
      go_wp2
      go_roundw
      case rel => exact ⟨k + 1, by omega, by go_num, hbel3.trans (hst.below (by simp at hz3; omega)), g, _, rfl, hgb, hgk5, hfin⟩
      case measure => simp [intOf]; omega
    · have e : l.take k ++ List.replicate (l.length - k) ((0, []) : CellV) = l := by
        rw [List.take_of_length_le (by omega), show l.length - k = 0 by omega]; simp
      rw [e] at hrow
      go_wp2
      go_ret2
      exact ⟨_, rfl, hrow, hbel⟩
end Go.Proofs.YtbkenfljknpjgaaDoor
