import Derived.Test.YtdjpdllehhecpaaGreatDoorQ21
open List renaming getElem?_toArray → zA, getElem?_cons_succ → zB, getElem?_cons_zero → zC, setIfInBounds_toArray → zD, set_cons_zero → zE, set_cons_succ → zF
namespace Go.Proofs.YtdjpdllehhecpaaGreatDoor
open Go.RowKit
set_option linter.unusedVariables false
set_option linter.unusedSimpArgs false
theorem blank_paint {I : Ids} {v : PenV} {w : World} (h : PenQ w I v) : ∃ x, v.rows.getD v.r ([], false) = x ∧ rowAt v.rows v.r = x.1 ∧ RowQ w (I.db v.r) (I.dc v.r) x.1 x.2 ∧ x.1.length = I.W ∧ updR v.rows v.r (paintL (I.W - 1) [(0, [])]) = v.rows.set v.r ((paintL (I.W - 1) [(0, [])] x).1, (paintL (I.W - 1) [(0, [])] x).2) ∧ (paintL (I.W - 1) [(0, [])] x).1.length = I.W := by
  obtain ⟨x, _, h1, h2, h3, h4⟩ := h.rowQ h.r
  refine ⟨x, h1, h2, h3, h4, ?_, ?_⟩
  · unfold updR; rw [h1]
  · unfold paintL
    have := h.w2
    simp
    omega
theorem Blanks1_ok (w : World) : Calls Tryz.prog 57 #[.int .i64 1] w fun e w' => ∃ v, e = .returned v ∧ Own2 RCell 86 [21] w.heap.size 0 w' v [(0, [])] ∧ Below w.heap.size w w' := by
  refine (Blanks_ok 1 (by decide) w).mono ?_
  rintro e w' ⟨v, rfl, hv, hb⟩
  exact ⟨v, rfl, own2_blanks (n := 1) hv (Nat.le_refl _), hb⟩
set_option maxHeartbeats 4000000 in
theorem room_ok (I : Ids) (v : PenV) (n : Nat) (hn : n = 1 ∨ n = 2) (w : World) (h : PenQ w I v) (hpd1 : v.pd = true → v.r + 1 < I.h)
    (hed : ¬ (n = 1 ∨ (pen1 v).c < I.W - 1) → (pen1 v).r + 1 < I.h ∧ kindI (rowAt (pen1 v).rows (pen1 v).r) ((I.W - 1 : Nat) : Int) ≠ 3) :
    Calls Tryz.prog 193 #[ptrB I.p, .int .i64 n] w fun e w' => (∃ r, e = .returned r) ∧ PenQ w' I (roomP I.W n v) ∧ Chg (PenS I) w w' := by
  obtain ⟨q, hq⟩ : ∃ q, pen1 v = q := ⟨_, rfl⟩
  have HRP : Hid (roomP I.W n v = roomQ I.W n q) := hide (by rw [← hq]; rfl)
  rw [hq] at hed
  obtain ⟨res, hres⟩ : ∃ res, roomP I.W n v = res := ⟨_, rfl⟩
  rw [hres]
  have HRES := hide hres
  clear hres
  have HED := hide hed
  have HW2 := hide (And.intro h.w2 h.w1)
  have hFIN : ∀ W, PenQ W I q → Chg (PenS I) w W → True := fun _ _ _ => trivial
  clear hFIN hed
  obtain ⟨p, hp⟩ : ∃ p, I.p = p := ⟨_, rfl⟩
  obtain ⟨g, hg⟩ : ∃ g, I.g = g := ⟨_, rfl⟩
  have HI := hide (And.intro hp hg)
  unfold ptrB
  obtain ⟨x0, x1, x2, x3, x4⟩ := h.cells
  have hlp := h.blk.lt
  have HQ0 := hide h
  have HGO := hide (fun W u (hu : PenQ W I u) (hr : u.r + 1 < I.h) => goOn_ok I u W hu hr)
  rw [hp] at x0 x1 x2 x3 x4 hlp ⊢
  rw [hg] at x0
  unfold ptrB at HGO
  rw [hp] at HGO
  obtain ⟨pd, hpd⟩ : ∃ pd, v.pd = pd := ⟨_, rfl⟩
  rw [hpd] at x3 hpd1
  have HPD := hide hpd
  have HP1 := hide hpd1
  have HQE := hide hq
  clear h hp hg hpd hpd1 hq
  go_enter Tryz.func193, Tryz.ntmps193
  cases pd with
  | false =>
    go_upto_region 2 with fail
    have hqv : q = v := by rw [← HQE.out]; unfold pen1; rw [HPD.out]; rfl
    have hq : PenQ w I q := by rw [hqv]; exact HQ0.out
    have hch : Chg (PenS I) w w := Chg.refl _ _
    clear hqv x0 x1 x2 x3 x4 hlp
    obtain ⟨y0, y1, y2, y3, y4⟩ := hq.cells
    have HWd := hide (pWide_ok hq)
    have hlq := hq.blk.lt
    obtain ⟨W, hW⟩ : ∃ W : Int, (I.W : Int) = W := ⟨_, rfl⟩
    obtain ⟨c, hc⟩ : ∃ c : Int, (q.c : Int) = c := ⟨_, rfl⟩
    obtain ⟨r, hr⟩ : ∃ r : Int, (q.r : Int) = r := ⟨_, rfl⟩
    have HR := hide hr
    obtain ⟨hp, hg⟩ := HI.out
    rw [hW, hg] at HWd
    rw [hp] at y0 y1 y2 y3 y4 hlq
    rw [hg] at y0
    rw [hr] at y1
    rw [hc] at y2
    have HWW := hide hW
    have HC := hide hc
    have hW0 : 2 ≤ W ∧ W ≤ 1024 := by have := HW2.out; omega
    have hwr : IntKind.i64.wrap (W - 1) = W - 1 := IntWalk.i64_in _ (by omega)
    have HQ := hide hq
    have HCH := hide hch
    by_cases h1 : n = 1 ∨ q.c < I.W - 1
    · have HE : Hid (roomQ I.W n q = q) := hide (by unfold roomQ; rw [if_pos h1])
      rcases hn with rfl | rfl
      · clear h1 hq hch hp hg hW hc hr
        go_wp2_with (refine HWd.out.mono ?_; rintro e w2 ⟨rfl, rfl⟩)
        refine bodyPost_ret (results_none rfl _ _ _) rfl ?_
        exact ⟨⟨_, rfl⟩, by rw [← HRES.out, HRP.out, HE.out]; exact HQ.out, HCH.out⟩
      · have hlt : c < W - 1 := by omega
        clear h1 hq hch hp hg hW hc hr
        go_wp2_with (refine HWd.out.mono ?_; rintro e w2 ⟨rfl, rfl⟩)
        refine bodyPost_ret (results_none rfl _ _ _) rfl ?_
        exact ⟨⟨_, rfl⟩, by rw [← HRES.out, HRP.out, HE.out]; exact HQ.out, HCH.out⟩
    · have hn2 : n = 2 := by omega
      subst hn2
      obtain ⟨e1, e2⟩ := HED.out h1
      have hge : decide (c < W - 1) = false := decide_eq_false (by omega)
      have HE : Hid (roomQ I.W 2 q = goOnP ⟨updR q.rows q.r (paintL (I.W - 1) [(0, [])]), q.r, q.c, q.pd⟩) := hide (by unfold roomQ; rw [if_neg h1])
      obtain ⟨x, hx, hxa, hrq, hxl, hup, hpl⟩ := blank_paint hq
      rw [hxa] at e2
      have HUP := hide hup
      have HRow := hide (pRow_ok hq.dr hq.r)
      have HBL := hide Blanks1_ok
      have HPT := hide (fun W5 v5 (hq5 : PenQ W5 I q) (hb5 : Below w.drew.heap.size w.drew W5) (hv5 : Own2 RCell 86 [21] w.drew.heap.size 0 W5 v5 [(0, [])]) => by
        have hr5 : RowQ W5 (I.db q.r) (I.dc q.r) x.1 x.2 := (hrq.chg (S := fun _ => False) (Chg.refl _ _).dr id id (fun _ e => e.elim)).below hb5
        have hP := Paint_ok (I.db q.r) (I.dc q.r) x.1 [(0, [])] x.2 (I.W - 1) w.drew.heap.size v5 W5 hr5 hv5 hrq.lt.1 hrq.lt.2 (by have := HW2.out; omega) (by simp) (by simp; have := HW2.out; omega) rfl e2 (by
          rw [kindI_out _ _ (by simp; have := HW2.out; omega)]; decide)
        have ew : ((I.W - 1 : Nat) : Int) = W - 1 := by have := HW2.out; omega
        rw [ew] at hP
        unfold ptrB at hP
        exact hP.mono (fun e w6 hh => (⟨hh.1, by
          have := hq5.put hq.r hh.2.2 hh.2.1 hpl
          rw [← hup] at this
          exact this, hh.2.2.mono (PenS.row hq.r)⟩ : e = .returned .nilIface ∧ PenQ w6 I ⟨updR q.rows q.r (paintL (I.W - 1) [(0, [])]), q.r, q.c, q.pd⟩ ∧ Chg (PenS I) W5 w6)))
      simp only [hg, hr] at HRow
      have HE1 := hide e1
      clear h1 hq hch hp hg hW hc hr hrq hxl hup hpl hx hxa e1 e2
      go_wp2_with (refine HWd.out.mono ?_; rintro e w2 ⟨rfl, rfl⟩)
      refine wp_region_held_drew (S := fun w' => w'.cell? ⟨p, 0, none⟩ = some (.pointer (some ⟨g, 0, none⟩)) ∧ w'.cell? ⟨p, 1, none⟩ = some (.int .i64 r)) (by kernel_rfl) (by exact ⟨y0, y1⟩) (fun hHeld => ?_)
      refine wpAnyH_take (i := 0) (oi := ?_) (v := ?_) ?_ (by kernel_rfl) (by kernel_rfl) (by kernel_rfl) ?_ (Or.inl ⟨?_, ?_⟩) (by assumption) ?_
      rotate_left 2
      · (simp only [zA, zB, zC]; rfl)
      rotate_left 1
      · rfl
      · (intro w hSw; (try dsimp only at hSw); go_simp; try with_reducible rfl)
      rotate_left 1
      · exact fun _ _ _ h => h
      try simp only [Act.put, zD, zE, zF]
      refine wpAnyH_take (i := 1) (oi := ?_) (v := ?_) ?_ (by kernel_rfl) (by kernel_rfl) (by kernel_rfl) ?_ (Or.inl ⟨?_, ?_⟩) (by assumption) ?_
      rotate_left 2
      · (simp only [zA, zB, zC]; rfl)
      rotate_left 1
      · rfl
      · (intro w hSw; (try dsimp only at hSw); go_simp; try with_reducible rfl)
      rotate_left 1
      · exact fun _ _ _ h => h
      try simp only [Act.put, zD, zE, zF]
      refine wpAnyH_take (i := 2) (oi := ?_) (v := ?_) ?_ (by kernel_rfl) (by kernel_rfl) (by kernel_rfl) ?_ (Or.inl ⟨?_, ?_⟩) (by assumption) ?_
      rotate_left 2
      · (simp only [zA, zB, zC]; rfl)
      rotate_left 1
      · rfl
      · (intro w hSw; (try dsimp only at hSw); go_simp; try with_reducible rfl)
      rotate_left 1
      · exact fun _ _ _ h => h
      try simp only [Act.put, zD, zE, zF]
      refine wpAnyH_take (i := 3) (oi := ?_) (v := ?_) ?_ (by kernel_rfl) (by kernel_rfl) (by kernel_rfl) ?_ (Or.inl ⟨?_, ?_⟩) (by assumption) ?_
      rotate_left 2
      · (simp only [zA, zB, zC]; rfl)
      rotate_left 1
      · rfl
      · (intro w hSw; (try dsimp only at hSw); go_simp; try with_reducible rfl)
      rotate_left 1
      · exact fun _ _ _ h => h
      try simp only [Act.put, zD, zE, zF]
      refine wpAnyH_take (i := 4) (oi := ?_) (v := ?_) ?_ (by kernel_rfl) (by kernel_rfl) (by kernel_rfl) ?_ (Or.inl ⟨?_, ?_⟩) (by assumption) ?_
      rotate_left 2
      · (simp only [zA, zB, zC]; rfl)
      rotate_left 1
      · rfl
      · (intro w hSw; (try dsimp only at hSw); go_simp; try with_reducible rfl)
      rotate_left 1
      · exact fun _ _ _ h => h
      try simp only [Act.put, zD, zE, zF]
      refine wpAnyH_take (i := 5) (oi := ?_) (v := ?_) ?_ (by kernel_rfl) (by kernel_rfl) (by kernel_rfl) ?_ (Or.inl ⟨?_, ?_⟩) (by assumption) ?_
      rotate_left 2
      · (simp only [zA, zB, zC]; rfl)
      rotate_left 1
      · rfl
      · (intro w hSw; (try dsimp only at hSw); go_simp; try with_reducible rfl)
      rotate_left 1
      · exact fun _ _ _ h => h
      try simp only [Act.put, zD, zE, zF]
      refine wpAnyH_take (i := 6) (oi := ?_) (v := ?_) ?_ (by kernel_rfl) (by kernel_rfl) (by kernel_rfl) ?_ (Or.inl ⟨?_, ?_⟩) (by assumption) ?_
      rotate_left 2
      · (simp only [zA, zB, zC]; rfl)
      rotate_left 1
      · rfl
      · (intro w hSw; (try dsimp only at hSw); go_simp; try with_reducible rfl)
      rotate_left 1
      · exact fun _ _ _ h => h
      try simp only [Act.put, zD, zE, zF]
      refine wpAnyH_take (i := 7) (oi := ?_) (v := ?_) ?_ (by kernel_rfl) (by kernel_rfl) (by kernel_rfl) ?_ (Or.inl ⟨?_, ?_⟩) (by assumption) ?_
      rotate_left 2
      · (simp only [zA, zB, zC]; rfl)
      rotate_left 1
      · rfl
      · (intro w hSw; (try dsimp only at hSw); go_simp; try with_reducible rfl)
      rotate_left 1
      · exact fun _ _ _ h => h
      try simp only [Act.put, zD, zE, zF]
      refine wpAnyH_take (i := 8) (oi := ?_) (v := ?_) ?_ (by kernel_rfl) (by kernel_rfl) (by kernel_rfl) ?_ (Or.inl ⟨?_, ?_⟩) (by assumption) ?_
      rotate_left 2
      · (simp only [zA, zB, zC]; rfl)
      rotate_left 1
      · rfl
      · (intro w hSw; (try dsimp only at hSw); go_simp; try with_reducible rfl)
      rotate_left 1
      · exact fun _ _ _ h => h
      try simp only [Act.put, zD, zE, zF]
      refine wpAnyH_take (i := 10) (oi := ?_) (v := ?_) ?_ (by kernel_rfl) (by kernel_rfl) (by kernel_rfl) ?_ (Or.inl ⟨?_, ?_⟩) (by assumption) ?_
      rotate_left 2
      · (simp only [zA, zB, zC]; rfl)
      rotate_left 1
      · rfl
      · (intro w hSw; (try dsimp only at hSw); go_simp; try with_reducible rfl)
      rotate_left 1
      · exact fun _ _ _ h => h
      try simp only [Act.put, zD, zE, zF]
      refine wpAnyH_ready (rs := [9]) (by kernel_rfl) (by simp) ?_
      refine AllReadyH.cons (o := ?_) ?_ (fun K hK => ?_) AllReadyH.nil
      rotate_left 1
      · (simp only [zA, zB, zC]; rfl)
      go_simp
      (go_at_call 50; refine HRow.out.mono ?_; rintro e w' ⟨rfl, rfl⟩)
      refine hK.out _ _ ?_ (fun hHeld => ?_)
      · ((try dsimp only); go_keep)
      clear hK K
      try simp only [Act.put, zD, zE, zF]
      refine wpAnyH_ready (rs := [11]) (by kernel_rfl) (by simp) ?_
      refine AllReadyH.cons (o := ?_) ?_ (fun K hK => ?_) AllReadyH.nil
      rotate_left 1
      · (simp only [zA, zB, zC]; rfl)
      go_simp
      (go_at_call 57; refine (HBL.out _).mono ?_; rintro e w5 ⟨v5, rfl, hv5, hb5⟩; obtain ⟨A5, c5, rfl, _, _, _⟩ := hv5.slc.open_; have hq5 := HQ.out.dr.below hb5; obtain ⟨y0, y1, y2, y3, y4⟩ := hq5.cells; simp only [HI.out.1, HI.out.2, HR.out] at y0 y1; have HQ5 := hide hq5; have HV5 := hide hv5; have HB5 := hide hb5; clear hq5 hv5 hb5 y2 y3 y4)
      refine hK.out _ _ ?_ (fun hHeld => ?_)
      · ((try dsimp only); go_keep)
      clear hK K
      try simp only [Act.put, zD, zE, zF]
      refine wpAnyH_ready (rs := [12]) (by kernel_rfl) (by simp) ?_
      refine AllReadyH.cons (o := ?_) ?_ (fun K hK => ?_) AllReadyH.nil
      rotate_left 1
      · (simp only [zA, zB, zC]; rfl)
      go_simp
      (go_at_call 168; refine (HPT.out _ _ HQ5.out HB5.out HV5.out).mono ?_; rintro e w6 ⟨rfl, hq6, hc6⟩; obtain ⟨y0, y1, y2, y3, y4⟩ := hq6.cells; simp only [HI.out.1, HI.out.2, HR.out] at y0 y1; have HQ6 := hide hq6; have HC6 := hide hc6; clear hq6 hc6 y2 y3 y4)
      refine hK.out _ _ ?_ (fun hHeld => ?_)
      · ((try dsimp only); go_keep)
      clear hK K
      try simp only [Act.put, zD, zE, zF]
      refine wpAnyH_done (by kernel_rfl) ?_ _
      clear hHeld y0 y1
      go_wp2_with fail
      refine (HGO.out _ _ HQ6.out HE1.out).mono ?_
      rintro e w7 ⟨⟨r7, rfl⟩, hq7, hc7⟩
      have HQ7 := hide hq7
      have HC7 := hide ((((HCH.out.dr).trans (Chg.of_below HB5.out)).trans HC6.out).trans hc7)
      clear hq7 hc7
      go_wp2
      go_end0
      exact ⟨⟨_, rfl⟩, by rw [← HRES.out, HRP.out, HE.out]; exact HQ7.out, HC7.out⟩
  | true =>
    go_wp2_with fail
    refine (HGO.out _ _ HQ0.out (HP1.out (by trivial))).mono ?_
    rintro e w1 ⟨⟨r1, rfl⟩, hq1, hc1⟩
    have hqv : q = goOnP v := by rw [← HQE.out]; unfold pen1; rw [HPD.out]; rfl
    have hq : PenQ w1 I q := by rw [hqv]; exact hq1
    have hch : Chg (PenS I) w w1 := hc1
    clear hqv hq1 hc1 x0 x1 x2 x3 x4 hlp
    obtain ⟨y0, y1, y2, y3, y4⟩ := hq.cells
    have HWd := hide (pWide_ok hq)
    have hlq := hq.blk.lt
    obtain ⟨W, hW⟩ : ∃ W : Int, (I.W : Int) = W := ⟨_, rfl⟩
    obtain ⟨c, hc⟩ : ∃ c : Int, (q.c : Int) = c := ⟨_, rfl⟩
    obtain ⟨r, hr⟩ : ∃ r : Int, (q.r : Int) = r := ⟨_, rfl⟩
    have HR := hide hr
    obtain ⟨hp, hg⟩ := HI.out
    rw [hW, hg] at HWd
    rw [hp] at y0 y1 y2 y3 y4 hlq
    rw [hg] at y0
    rw [hr] at y1
    rw [hc] at y2
    have HWW := hide hW
    have HC := hide hc
    have hW0 : 2 ≤ W ∧ W ≤ 1024 := by have := HW2.out; omega
    have hwr : IntKind.i64.wrap (W - 1) = W - 1 := IntWalk.i64_in _ (by omega)
    have HQ := hide hq
    have HCH := hide hch
    by_cases h1 : n = 1 ∨ q.c < I.W - 1
    · have HE : Hid (roomQ I.W n q = q) := hide (by unfold roomQ; rw [if_pos h1])
      rcases hn with rfl | rfl
      · clear h1 hq hch hp hg hW hc hr
        go_wp2_with (refine HWd.out.mono ?_; rintro e w2 ⟨rfl, rfl⟩)
        refine bodyPost_ret (results_none rfl _ _ _) rfl ?_
        exact ⟨⟨_, rfl⟩, by rw [← HRES.out, HRP.out, HE.out]; exact HQ.out, HCH.out⟩
      · have hlt : c < W - 1 := by omega
        clear h1 hq hch hp hg hW hc hr
        go_wp2_with (refine HWd.out.mono ?_; rintro e w2 ⟨rfl, rfl⟩)
        refine bodyPost_ret (results_none rfl _ _ _) rfl ?_
        exact ⟨⟨_, rfl⟩, by rw [← HRES.out, HRP.out, HE.out]; exact HQ.out, HCH.out⟩
    · have hn2 : n = 2 := by omega
      subst hn2
      obtain ⟨e1, e2⟩ := HED.out h1
      have hge : decide (c < W - 1) = false := decide_eq_false (by omega)
      have HE : Hid (roomQ I.W 2 q = goOnP ⟨updR q.rows q.r (paintL (I.W - 1) [(0, [])]), q.r, q.c, q.pd⟩) := hide (by unfold roomQ; rw [if_neg h1])
      obtain ⟨x, hx, hxa, hrq, hxl, hup, hpl⟩ := blank_paint hq
      rw [hxa] at e2
      have HUP := hide hup
      have HRow := hide (pRow_ok hq.dr hq.r)
      have HBL := hide Blanks1_ok
      have HPT := hide (fun W5 v5 (hq5 : PenQ W5 I q) (hb5 : Below w1.drew.heap.size w1.drew W5) (hv5 : Own2 RCell 86 [21] w1.drew.heap.size 0 W5 v5 [(0, [])]) => by
        have hr5 : RowQ W5 (I.db q.r) (I.dc q.r) x.1 x.2 := (hrq.chg (S := fun _ => False) (Chg.refl _ _).dr id id (fun _ e => e.elim)).below hb5
        have hP := Paint_ok (I.db q.r) (I.dc q.r) x.1 [(0, [])] x.2 (I.W - 1) w1.drew.heap.size v5 W5 hr5 hv5 hrq.lt.1 hrq.lt.2 (by have := HW2.out; omega) (by simp) (by simp; have := HW2.out; omega) rfl e2 (by
          rw [kindI_out _ _ (by simp; have := HW2.out; omega)]; decide)
        have ew : ((I.W - 1 : Nat) : Int) = W - 1 := by have := HW2.out; omega
        rw [ew] at hP
        unfold ptrB at hP
        exact hP.mono (fun e w6 hh => (⟨hh.1, by
          have := hq5.put hq.r hh.2.2 hh.2.1 hpl
          rw [← hup] at this
          exact this, hh.2.2.mono (PenS.row hq.r)⟩ : e = .returned .nilIface ∧ PenQ w6 I ⟨updR q.rows q.r (paintL (I.W - 1) [(0, [])]), q.r, q.c, q.pd⟩ ∧ Chg (PenS I) W5 w6)))
      simp only [hg, hr] at HRow
      have HE1 := hide e1
      clear h1 hq hch hp hg hW hc hr hrq hxl hup hpl hx hxa e1 e2
      go_wp2_with (refine HWd.out.mono ?_; rintro e w2 ⟨rfl, rfl⟩)
      refine wp_region_held_drew (S := fun w' => w'.cell? ⟨p, 0, none⟩ = some (.pointer (some ⟨g, 0, none⟩)) ∧ w'.cell? ⟨p, 1, none⟩ = some (.int .i64 r)) (by kernel_rfl) (by exact ⟨y0, y1⟩) (fun hHeld => ?_)
      refine wpAnyH_take (i := 0) (oi := ?_) (v := ?_) ?_ (by kernel_rfl) (by kernel_rfl) (by kernel_rfl) ?_ (Or.inl ⟨?_, ?_⟩) (by assumption) ?_
      rotate_left 2
      · (simp only [zA, zB, zC]; rfl)
      rotate_left 1
      · rfl
      · (intro w hSw; (try dsimp only at hSw); go_simp; try with_reducible rfl)
      rotate_left 1
      · exact fun _ _ _ h => h
      try simp only [Act.put, zD, zE, zF]
      refine wpAnyH_take (i := 1) (oi := ?_) (v := ?_) ?_ (by kernel_rfl) (by kernel_rfl) (by kernel_rfl) ?_ (Or.inl ⟨?_, ?_⟩) (by assumption) ?_
      rotate_left 2
      · (simp only [zA, zB, zC]; rfl)
      rotate_left 1
      · rfl
      · (intro w hSw; (try dsimp only at hSw); go_simp; try with_reducible rfl)
      rotate_left 1
      · exact fun _ _ _ h => h
      try simp only [Act.put, zD, zE, zF]
      refine wpAnyH_take (i := 2) (oi := ?_) (v := ?_) ?_ (by kernel_rfl) (by kernel_rfl) (by kernel_rfl) ?_ (Or.inl ⟨?_, ?_⟩) (by assumption) ?_
      rotate_left 2
      · (simp only [zA, zB, zC]; rfl)
      rotate_left 1
      · rfl
      · (intro w hSw; (try dsimp only at hSw); go_simp; try with_reducible rfl)
      rotate_left 1
      · exact fun _ _ _ h => h
      try simp only [Act.put, zD, zE, zF]
      refine wpAnyH_take (i := 3) (oi := ?_) (v := ?_) ?_ (by kernel_rfl) (by kernel_rfl) (by kernel_rfl) ?_ (Or.inl ⟨?_, ?_⟩) (by assumption) ?_
      rotate_left 2
      · (simp only [zA, zB, zC]; rfl)
      rotate_left 1
      · rfl
      · (intro w hSw; (try dsimp only at hSw); go_simp; try with_reducible rfl)
      rotate_left 1
      · exact fun _ _ _ h => h
      try simp only [Act.put, zD, zE, zF]
      refine wpAnyH_take (i := 4) (oi := ?_) (v := ?_) ?_ (by kernel_rfl) (by kernel_rfl) (by kernel_rfl) ?_ (Or.inl ⟨?_, ?_⟩) (by assumption) ?_
      rotate_left 2
      · (simp only [zA, zB, zC]; rfl)
      rotate_left 1
      · rfl
      · (intro w hSw; (try dsimp only at hSw); go_simp; try with_reducible rfl)
      rotate_left 1
      · exact fun _ _ _ h => h
      try simp only [Act.put, zD, zE, zF]
      refine wpAnyH_take (i := 5) (oi := ?_) (v := ?_) ?_ (by kernel_rfl) (by kernel_rfl) (by kernel_rfl) ?_ (Or.inl ⟨?_, ?_⟩) (by assumption) ?_
      rotate_left 2
      · (simp only [zA, zB, zC]; rfl)
      rotate_left 1
      · rfl
      · (intro w hSw; (try dsimp only at hSw); go_simp; try with_reducible rfl)
      rotate_left 1
      · exact fun _ _ _ h => h
      try simp only [Act.put, zD, zE, zF]
      refine wpAnyH_take (i := 6) (oi := ?_) (v := ?_) ?_ (by kernel_rfl) (by kernel_rfl) (by kernel_rfl) ?_ (Or.inl ⟨?_, ?_⟩) (by assumption) ?_
      rotate_left 2
      · (simp only [zA, zB, zC]; rfl)
      rotate_left 1
      · rfl
      · (intro w hSw; (try dsimp only at hSw); go_simp; try with_reducible rfl)
      rotate_left 1
      · exact fun _ _ _ h => h
      try simp only [Act.put, zD, zE, zF]
      refine wpAnyH_take (i := 7) (oi := ?_) (v := ?_) ?_ (by kernel_rfl) (by kernel_rfl) (by kernel_rfl) ?_ (Or.inl ⟨?_, ?_⟩) (by assumption) ?_
      rotate_left 2
      · (simp only [zA, zB, zC]; rfl)
      rotate_left 1
      · rfl
      · (intro w hSw; (try dsimp only at hSw); go_simp; try with_reducible rfl)
      rotate_left 1
      · exact fun _ _ _ h => h
      try simp only [Act.put, zD, zE, zF]
      refine wpAnyH_take (i := 8) (oi := ?_) (v := ?_) ?_ (by kernel_rfl) (by kernel_rfl) (by kernel_rfl) ?_ (Or.inl ⟨?_, ?_⟩) (by assumption) ?_
      rotate_left 2
      · (simp only [zA, zB, zC]; rfl)
      rotate_left 1
      · rfl
      · (intro w hSw; (try dsimp only at hSw); go_simp; try with_reducible rfl)
      rotate_left 1
      · exact fun _ _ _ h => h
      try simp only [Act.put, zD, zE, zF]
      refine wpAnyH_take (i := 10) (oi := ?_) (v := ?_) ?_ (by kernel_rfl) (by kernel_rfl) (by kernel_rfl) ?_ (Or.inl ⟨?_, ?_⟩) (by assumption) ?_
      rotate_left 2
      · (simp only [zA, zB, zC]; rfl)
      rotate_left 1
      · rfl
      · (intro w hSw; (try dsimp only at hSw); go_simp; try with_reducible rfl)
      rotate_left 1
      · exact fun _ _ _ h => h
      try simp only [Act.put, zD, zE, zF]
      refine wpAnyH_ready (rs := [9]) (by kernel_rfl) (by simp) ?_
      refine AllReadyH.cons (o := ?_) ?_ (fun K hK => ?_) AllReadyH.nil
      rotate_left 1
      · (simp only [zA, zB, zC]; rfl)
      go_simp
      (go_at_call 50; refine HRow.out.mono ?_; rintro e w' ⟨rfl, rfl⟩)
      refine hK.out _ _ ?_ (fun hHeld => ?_)
      · ((try dsimp only); go_keep)
      clear hK K
      try simp only [Act.put, zD, zE, zF]
      refine wpAnyH_ready (rs := [11]) (by kernel_rfl) (by simp) ?_
      refine AllReadyH.cons (o := ?_) ?_ (fun K hK => ?_) AllReadyH.nil
      rotate_left 1
      · (simp only [zA, zB, zC]; rfl)
      go_simp
      (go_at_call 57; refine (HBL.out _).mono ?_; rintro e w5 ⟨v5, rfl, hv5, hb5⟩; obtain ⟨A5, c5, rfl, _, _, _⟩ := hv5.slc.open_; have hq5 := HQ.out.dr.below hb5; obtain ⟨y0, y1, y2, y3, y4⟩ := hq5.cells; simp only [HI.out.1, HI.out.2, HR.out] at y0 y1; have HQ5 := hide hq5; have HV5 := hide hv5; have HB5 := hide hb5; clear hq5 hv5 hb5 y2 y3 y4)
      refine hK.out _ _ ?_ (fun hHeld => ?_)
      · ((try dsimp only); go_keep)
      clear hK K
      try simp only [Act.put, zD, zE, zF]
      refine wpAnyH_ready (rs := [12]) (by kernel_rfl) (by simp) ?_
      refine AllReadyH.cons (o := ?_) ?_ (fun K hK => ?_) AllReadyH.nil
      rotate_left 1
      · (simp only [zA, zB, zC]; rfl)
      go_simp
      (go_at_call 168; refine (HPT.out _ _ HQ5.out HB5.out HV5.out).mono ?_; rintro e w6 ⟨rfl, hq6, hc6⟩; obtain ⟨y0, y1, y2, y3, y4⟩ := hq6.cells; simp only [HI.out.1, HI.out.2, HR.out] at y0 y1; have HQ6 := hide hq6; have HC6 := hide hc6; clear hq6 hc6 y2 y3 y4)
      refine hK.out _ _ ?_ (fun hHeld => ?_)
      · ((try dsimp only); go_keep)
      clear hK K
      try simp only [Act.put, zD, zE, zF]
      refine wpAnyH_done (by kernel_rfl) ?_ _
      clear hHeld y0 y1
      go_wp2_with fail
      refine (HGO.out _ _ HQ6.out HE1.out).mono ?_
      rintro e w7 ⟨⟨r7, rfl⟩, hq7, hc7⟩
      have HQ7 := hide hq7
      have HC7 := hide ((((HCH.out.dr).trans (Chg.of_below HB5.out)).trans HC6.out).trans hc7)
      clear hq7 hc7
      go_wp2
      go_end0
      exact ⟨⟨_, rfl⟩, by rw [← HRES.out, HRP.out, HE.out]; exact HQ7.out, HC7.out⟩
end Go.Proofs.YtdjpdllehhecpaaGreatDoor
