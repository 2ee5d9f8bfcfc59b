import Derived.Test.YtdjpdllehhecpaaGreatDoorQ32
open List renaming getElem?_toArray → zA, getElem?_cons_succ → zB, getElem?_cons_zero → zC, setIfInBounds_toArray → zD, set_cons_zero → zE, set_cons_succ → zF
namespace Go.Proofs.YtdjpdllehhecpaaGreatDoor
open Go.RowKit
set_option linter.unusedVariables false
set_option linter.unusedSimpArgs false
set_option maxHeartbeats 4000000 in
theorem segJoins_ok (g o : Nat) (t : TypeId) (cs : Array Value) (s : SegV) (p : PropV) (hl0 : 0 ≤ s.last) (hl1 : s.last ≤ 13) (hp0 : 0 ≤ p.brk) (hp1 : p.brk ≤ 13) (w : World) (hB : Blk w g t cs) (h : SegAt cs o s) :
    Calls Tryz.prog 75 #[.pointer (some ⟨g, o, none⟩), propA p] w fun e w' => e = .returned (.bool (joinsF s p)) ∧ Below w.heap.size w w' := by
  have hJ := pjoin_ok s.last p.brk hl0 hl1 hp0 hp1
  obtain ⟨brk, pict, conj, east⟩ := p
  obtain ⟨sa, sl, sp, sc, so⟩ := s
  have x0 := (hB.cell o).trans h.any
  have x1 := (hB.cell (o + 1)).trans h.last
  have x2 := (hB.cell (o + 2)).trans h.pict
  have x3 := (hB.cell (o + 3)).trans h.conj
  have x4 := (hB.cell (o + 4)).trans h.odd
  have hgl := hB.lt
  simp only at x0 x1 x2 x3 x4 hJ
  unfold propA
  simp only [propL]
  have hnew := Blk.new w 108 #[.int .i64 brk, .bool pict, .int .i64 conj, .int .i64 east]
  have hbl := (Below.refl w.heap.size w).alloc (Nat.le_refl _) (.cells #[.int .i64 brk, .bool pict, .int .i64 conj, .int .i64 east] 108)
  have HBL := hide hbl
  obtain ⟨W0, hW0⟩ : ∃ W0, w.alloc (.cells #[.int .i64 brk, .bool pict, .int .i64 conj, .int .i64 east] 108) = W0 := ⟨_, rfl⟩
  rw [hW0] at hnew hbl HBL
  have HW0 := hide hW0
  have y0 := (hbl.cell (p := ⟨g, o, none⟩) hgl).trans x0
  have y1 := (hbl.cell (p := ⟨g, o + 1, none⟩) hgl).trans x1
  have y2 := (hbl.cell (p := ⟨g, o + 2, none⟩) hgl).trans x2
  have y3 := (hbl.cell (p := ⟨g, o + 3, none⟩) hgl).trans x3
  have y4 := (hbl.cell (p := ⟨g, o + 4, none⟩) hgl).trans x4
  have n0 := hnew.cell 0
  have n1 := hnew.cell 1
  have n2 := hnew.cell 2
  have n3 := hnew.cell 3
  simp only [zA, zB, zC] at n0 n1 n2 n3
  clear x0 x1 x2 x3 x4 hnew hbl hB h hW0
  obtain ⟨ans, hans⟩ : ∃ ans, joinsF ⟨sa, sl, sp, sc, so⟩ ⟨brk, pict, conj, east⟩ = ans := ⟨_, rfl⟩
  obtain ⟨jv, hjv⟩ : ∃ jv, pairF sl brk = jv := ⟨_, rfl⟩
  have ha : (if sa = false then false else if (conj = 1 ∧ sc = 2) ∨ (pict = true ∧ sp = 2) then true else if jv = 1 then true else if jv = 2 then decide (sl = 6) && so else false) = ans := by rw [← hans, ← hjv]; rfl
  rw [hans]
  rw [hjv] at hJ
  have HJ := hide hJ
  have HA := hide ha
  have HY1 := hide y1
  have HY4 := hide y4
  have HN0 := hide n0
  clear ha hans hjv hJ hl0 hl1 hp0 hp1
  cases sa with
  | false =>
    have HV : Hid (false = ans) := hide (by rw [← HA.out]; simp [])
    go_enter Tryz.func75, Tryz.ntmps75
    go_upto_region 1 with fail
    rw [HW0.out]
    go_wp2
    go_ret
    exact ⟨by rw [← HV.out]; rfl, HBL.out⟩
  | true =>
    by_cases c1 : conj = 1
    · subst c1
      by_cases s2 : sc = 2
      · subst s2
        have HV : Hid (true = ans) := hide (by rw [← HA.out]; simp [])
        go_enter Tryz.func75, Tryz.ntmps75
        go_upto_region 1 with fail
        rw [HW0.out]
        go_wp2
        go_ret
        exact ⟨by rw [← HV.out]; rfl, HBL.out⟩
      · cases pict with
        | true =>
          by_cases p2 : sp = 2
          · subst p2
            have HV : Hid (true = ans) := hide (by rw [← HA.out]; simp [])
            have m2 : (sc == 2) = false := by simpa using s2
            go_enter Tryz.func75, Tryz.ntmps75
            go_upto_region 1 with fail
            rw [HW0.out]
            go_wp2
            go_ret
            exact ⟨by rw [← HV.out]; rfl, HBL.out⟩
          · skip
            have HV : Hid ((if jv = 1 then true else if jv = 2 then decide (sl = 6) && so else false) = ans) := hide (by rw [← HA.out]; simp [s2, p2])
            have m2 : (sc == 2) = false := by simpa using s2
            have m3 : (sp == 2) = false := by simpa using p2
            clear s2 p2
            go_enter Tryz.func75, Tryz.ntmps75
            go_upto_region 1 with fail
            rw [HW0.out]
            go_upto_region 6 with fail
            refine wp_region_held_drew (S := fun w' => w'.cell? ⟨g, o + 1, none⟩ = some (.int .i64 sl) ∧ w'.cell? ⟨w.heap.size, 0, none⟩ = some (.int .i64 brk)) (by kernel_rfl) (by exact ⟨y1, n0⟩) (fun hHeld => ?_)
            refine wpAnyH_take (i := 0) (oi := ?_) (v := ?_) ?_ (by kernel_rfl) (by kernel_rfl) (by kernel_rfl) ?_ (Or.inl ⟨?_, ?_⟩) (by assumption) ?_
            rotate_left 2
            · (simp only [zA, zB, zC]; rfl)
            rotate_left 1
            · rfl
            · (intro w hSw; obtain ⟨q0, q1⟩ := hSw; go_simp; try with_reducible rfl)
            rotate_left 1
            · exact fun _ _ _ h => h
            try simp only [Act.put, zD, zE, zF]
            refine wpAnyH_take (i := 1) (oi := ?_) (v := ?_) ?_ (by kernel_rfl) (by kernel_rfl) (by kernel_rfl) ?_ (Or.inl ⟨?_, ?_⟩) (by assumption) ?_
            rotate_left 2
            · (simp only [zA, zB, zC]; rfl)
            rotate_left 1
            · rfl
            · (intro w hSw; obtain ⟨q0, q1⟩ := hSw; go_simp; try with_reducible rfl)
            rotate_left 1
            · exact fun _ _ _ h => h
            try simp only [Act.put, zD, zE, zF]
            refine wpAnyH_take (i := 2) (oi := ?_) (v := ?_) ?_ (by kernel_rfl) (by kernel_rfl) (by kernel_rfl) ?_ (Or.inl ⟨?_, ?_⟩) (by assumption) ?_
            rotate_left 2
            · (simp only [zA, zB, zC]; rfl)
            rotate_left 1
            · rfl
            · (intro w hSw; obtain ⟨q0, q1⟩ := hSw; go_simp; try with_reducible rfl)
            rotate_left 1
            · exact fun _ _ _ h => h
            try simp only [Act.put, zD, zE, zF]
            refine wpAnyH_take (i := 3) (oi := ?_) (v := ?_) ?_ (by kernel_rfl) (by kernel_rfl) (by kernel_rfl) ?_ (Or.inl ⟨?_, ?_⟩) (by assumption) ?_
            rotate_left 2
            · (simp only [zA, zB, zC]; rfl)
            rotate_left 1
            · rfl
            · (intro w hSw; obtain ⟨q0, q1⟩ := hSw; go_simp; try with_reducible rfl)
            rotate_left 1
            · exact fun _ _ _ h => h
            try simp only [Act.put, zD, zE, zF]
            refine wpAnyH_take (i := 4) (oi := ?_) (v := ?_) ?_ (by kernel_rfl) (by kernel_rfl) (by kernel_rfl) ?_ (Or.inl ⟨?_, ?_⟩) (by assumption) ?_
            rotate_left 2
            · (simp only [zA, zB, zC]; rfl)
            rotate_left 1
            · rfl
            · (intro w hSw; obtain ⟨q0, q1⟩ := hSw; go_simp; try with_reducible rfl)
            rotate_left 1
            · exact fun _ _ _ h => h
            try simp only [Act.put, zD, zE, zF]
            refine wpAnyH_take (i := 5) (oi := ?_) (v := ?_) ?_ (by kernel_rfl) (by kernel_rfl) (by kernel_rfl) ?_ (Or.inl ⟨?_, ?_⟩) (by assumption) ?_
            rotate_left 2
            · (simp only [zA, zB, zC]; rfl)
            rotate_left 1
            · rfl
            · (intro w hSw; obtain ⟨q0, q1⟩ := hSw; go_simp; try with_reducible rfl)
            rotate_left 1
            · exact fun _ _ _ h => h
            try simp only [Act.put, zD, zE, zF]
            refine wpAnyH_ready (rs := [6]) (by kernel_rfl) (by simp) ?_
            refine AllReadyH.cons (o := ?_) ?_ (fun K hK => ?_) AllReadyH.nil
            rotate_left 1
            · (simp only [zA, zB, zC]; rfl)
            go_simp
            (go_at_call 113; refine (HJ.out _).mono ?_; rintro e w3 ⟨rfl, rfl⟩)
            refine hK.out _ _ ?_ (fun hHeld => ?_)
            · exact ⟨HY1.out, HN0.out⟩
            clear hK K
            try simp only [Act.put, zD, zE, zF]
            refine wpAnyH_done (by kernel_rfl) ?_ _
            by_cases j1 : jv = 1
            · subst j1
              have HE : Hid (true = ans) := hide (by rw [← HV.out]; rfl)
              go_wp2
              go_ret
              exact ⟨by rw [← HE.out]; rfl, below_dr HBL.out⟩
            · by_cases j2 : jv = 2
              · subst j2
                by_cases l6 : sl = 6
                · subst l6
                  have HE : Hid (so = ans) := hide (by rw [← HV.out]; simp)
                  go_wp2
                  go_ret
                  exact ⟨by rw [← HE.out]; rfl, below_dr HBL.out⟩
                · have HE : Hid (false = ans) := hide (by rw [← HV.out]; simp [l6])
                  have m6 : (sl == 6) = false := by simpa using l6
                  clear l6
                  go_wp2
                  go_ret
                  exact ⟨by rw [← HE.out]; rfl, below_dr HBL.out⟩
              · have HE : Hid (false = ans) := hide (by rw [← HV.out]; simp [j1, j2])
                have m1' : (jv == 1) = false := by simpa using j1
                have m2' : (jv == 2) = false := by simpa using j2
                clear j1 j2
                go_wp2
                go_ret
                exact ⟨by rw [← HE.out]; rfl, below_dr HBL.out⟩
        | false =>
          have HV : Hid ((if jv = 1 then true else if jv = 2 then decide (sl = 6) && so else false) = ans) := hide (by rw [← HA.out]; simp [s2])
          have m2 : (sc == 2) = false := by simpa using s2
          clear s2
          go_enter Tryz.func75, Tryz.ntmps75
          go_upto_region 1 with fail
          rw [HW0.out]
          go_upto_region 6 with fail
          refine wp_region_held_drew (S := fun w' => w'.cell? ⟨g, o + 1, none⟩ = some (.int .i64 sl) ∧ w'.cell? ⟨w.heap.size, 0, none⟩ = some (.int .i64 brk)) (by kernel_rfl) (by exact ⟨y1, n0⟩) (fun hHeld => ?_)
          refine wpAnyH_take (i := 0) (oi := ?_) (v := ?_) ?_ (by kernel_rfl) (by kernel_rfl) (by kernel_rfl) ?_ (Or.inl ⟨?_, ?_⟩) (by assumption) ?_
          rotate_left 2
          · (simp only [zA, zB, zC]; rfl)
          rotate_left 1
          · rfl
          · (intro w hSw; obtain ⟨q0, q1⟩ := hSw; go_simp; try with_reducible rfl)
          rotate_left 1
          · exact fun _ _ _ h => h
          try simp only [Act.put, zD, zE, zF]
          refine wpAnyH_take (i := 1) (oi := ?_) (v := ?_) ?_ (by kernel_rfl) (by kernel_rfl) (by kernel_rfl) ?_ (Or.inl ⟨?_, ?_⟩) (by assumption) ?_
          rotate_left 2
          · (simp only [zA, zB, zC]; rfl)
          rotate_left 1
          · rfl
          · (intro w hSw; obtain ⟨q0, q1⟩ := hSw; go_simp; try with_reducible rfl)
          rotate_left 1
          · exact fun _ _ _ h => h
          try simp only [Act.put, zD, zE, zF]
          refine wpAnyH_take (i := 2) (oi := ?_) (v := ?_) ?_ (by kernel_rfl) (by kernel_rfl) (by kernel_rfl) ?_ (Or.inl ⟨?_, ?_⟩) (by assumption) ?_
          rotate_left 2
          · (simp only [zA, zB, zC]; rfl)
          rotate_left 1
          · rfl
          · (intro w hSw; obtain ⟨q0, q1⟩ := hSw; go_simp; try with_reducible rfl)
          rotate_left 1
          · exact fun _ _ _ h => h
          try simp only [Act.put, zD, zE, zF]
          refine wpAnyH_take (i := 3) (oi := ?_) (v := ?_) ?_ (by kernel_rfl) (by kernel_rfl) (by kernel_rfl) ?_ (Or.inl ⟨?_, ?_⟩) (by assumption) ?_
          rotate_left 2
          · (simp only [zA, zB, zC]; rfl)
          rotate_left 1
          · rfl
          · (intro w hSw; obtain ⟨q0, q1⟩ := hSw; go_simp; try with_reducible rfl)
          rotate_left 1
          · exact fun _ _ _ h => h
          try simp only [Act.put, zD, zE, zF]
          refine wpAnyH_take (i := 4) (oi := ?_) (v := ?_) ?_ (by kernel_rfl) (by kernel_rfl) (by kernel_rfl) ?_ (Or.inl ⟨?_, ?_⟩) (by assumption) ?_
          rotate_left 2
          · (simp only [zA, zB, zC]; rfl)
          rotate_left 1
          · rfl
          · (intro w hSw; obtain ⟨q0, q1⟩ := hSw; go_simp; try with_reducible rfl)
          rotate_left 1
          · exact fun _ _ _ h => h
          try simp only [Act.put, zD, zE, zF]
          refine wpAnyH_take (i := 5) (oi := ?_) (v := ?_) ?_ (by kernel_rfl) (by kernel_rfl) (by kernel_rfl) ?_ (Or.inl ⟨?_, ?_⟩) (by assumption) ?_
          rotate_left 2
          · (simp only [zA, zB, zC]; rfl)
          rotate_left 1
          · rfl
          · (intro w hSw; obtain ⟨q0, q1⟩ := hSw; go_simp; try with_reducible rfl)
          rotate_left 1
          · exact fun _ _ _ h => h
          try simp only [Act.put, zD, zE, zF]
          refine wpAnyH_ready (rs := [6]) (by kernel_rfl) (by simp) ?_
          refine AllReadyH.cons (o := ?_) ?_ (fun K hK => ?_) AllReadyH.nil
          rotate_left 1
          · (simp only [zA, zB, zC]; rfl)
          go_simp
          (go_at_call 113; refine (HJ.out _).mono ?_; rintro e w3 ⟨rfl, rfl⟩)
          refine hK.out _ _ ?_ (fun hHeld => ?_)
          · exact ⟨HY1.out, HN0.out⟩
          clear hK K
          try simp only [Act.put, zD, zE, zF]
          refine wpAnyH_done (by kernel_rfl) ?_ _
          by_cases j1 : jv = 1
          · subst j1
            have HE : Hid (true = ans) := hide (by rw [← HV.out]; rfl)
            go_wp2
            go_ret
            exact ⟨by rw [← HE.out]; rfl, below_dr HBL.out⟩
          · by_cases j2 : jv = 2
            · subst j2
              by_cases l6 : sl = 6
              · subst l6
                have HE : Hid (so = ans) := hide (by rw [← HV.out]; simp)
                go_wp2
                go_ret
                exact ⟨by rw [← HE.out]; rfl, below_dr HBL.out⟩
              · have HE : Hid (false = ans) := hide (by rw [← HV.out]; simp [l6])
                have m6 : (sl == 6) = false := by simpa using l6
                clear l6
                go_wp2
                go_ret
                exact ⟨by rw [← HE.out]; rfl, below_dr HBL.out⟩
            · have HE : Hid (false = ans) := hide (by rw [← HV.out]; simp [j1, j2])
              have m1' : (jv == 1) = false := by simpa using j1
              have m2' : (jv == 2) = false := by simpa using j2
              clear j1 j2
              go_wp2
              go_ret
              exact ⟨by rw [← HE.out]; rfl, below_dr HBL.out⟩
    · cases pict with
      | true =>
        by_cases p2 : sp = 2
        · subst p2
          have HV : Hid (true = ans) := hide (by rw [← HA.out]; simp [])
          have m2 : (conj == 1) = false := by simpa using c1
          go_enter Tryz.func75, Tryz.ntmps75
          go_upto_region 1 with fail
          rw [HW0.out]
          go_wp2
          go_ret
          exact ⟨by rw [← HV.out]; rfl, HBL.out⟩
        · skip
          have HV : Hid ((if jv = 1 then true else if jv = 2 then decide (sl = 6) && so else false) = ans) := hide (by rw [← HA.out]; simp [c1, p2])
          have m2 : (conj == 1) = false := by simpa using c1
          have m3 : (sp == 2) = false := by simpa using p2
          clear c1 p2
          go_enter Tryz.func75, Tryz.ntmps75
          go_upto_region 1 with fail
          rw [HW0.out]
          go_upto_region 6 with fail
          refine wp_region_held_drew (S := fun w' => w'.cell? ⟨g, o + 1, none⟩ = some (.int .i64 sl) ∧ w'.cell? ⟨w.heap.size, 0, none⟩ = some (.int .i64 brk)) (by kernel_rfl) (by exact ⟨y1, n0⟩) (fun hHeld => ?_)
          refine wpAnyH_take (i := 0) (oi := ?_) (v := ?_) ?_ (by kernel_rfl) (by kernel_rfl) (by kernel_rfl) ?_ (Or.inl ⟨?_, ?_⟩) (by assumption) ?_
          rotate_left 2
          · (simp only [zA, zB, zC]; rfl)
          rotate_left 1
          · rfl
          · (intro w hSw; obtain ⟨q0, q1⟩ := hSw; go_simp; try with_reducible rfl)
          rotate_left 1
          · exact fun _ _ _ h => h
          try simp only [Act.put, zD, zE, zF]
          refine wpAnyH_take (i := 1) (oi := ?_) (v := ?_) ?_ (by kernel_rfl) (by kernel_rfl) (by kernel_rfl) ?_ (Or.inl ⟨?_, ?_⟩) (by assumption) ?_
          rotate_left 2
          · (simp only [zA, zB, zC]; rfl)
          rotate_left 1
          · rfl
          · (intro w hSw; obtain ⟨q0, q1⟩ := hSw; go_simp; try with_reducible rfl)
          rotate_left 1
          · exact fun _ _ _ h => h
          try simp only [Act.put, zD, zE, zF]
          refine wpAnyH_take (i := 2) (oi := ?_) (v := ?_) ?_ (by kernel_rfl) (by kernel_rfl) (by kernel_rfl) ?_ (Or.inl ⟨?_, ?_⟩) (by assumption) ?_
          rotate_left 2
          · (simp only [zA, zB, zC]; rfl)
          rotate_left 1
          · rfl
          · (intro w hSw; obtain ⟨q0, q1⟩ := hSw; go_simp; try with_reducible rfl)
          rotate_left 1
          · exact fun _ _ _ h => h
          try simp only [Act.put, zD, zE, zF]
          refine wpAnyH_take (i := 3) (oi := ?_) (v := ?_) ?_ (by kernel_rfl) (by kernel_rfl) (by kernel_rfl) ?_ (Or.inl ⟨?_, ?_⟩) (by assumption) ?_
          rotate_left 2
          · (simp only [zA, zB, zC]; rfl)
          rotate_left 1
          · rfl
          · (intro w hSw; obtain ⟨q0, q1⟩ := hSw; go_simp; try with_reducible rfl)
          rotate_left 1
          · exact fun _ _ _ h => h
          try simp only [Act.put, zD, zE, zF]
          refine wpAnyH_take (i := 4) (oi := ?_) (v := ?_) ?_ (by kernel_rfl) (by kernel_rfl) (by kernel_rfl) ?_ (Or.inl ⟨?_, ?_⟩) (by assumption) ?_
          rotate_left 2
          · (simp only [zA, zB, zC]; rfl)
          rotate_left 1
          · rfl
          · (intro w hSw; obtain ⟨q0, q1⟩ := hSw; go_simp; try with_reducible rfl)
          rotate_left 1
          · exact fun _ _ _ h => h
          try simp only [Act.put, zD, zE, zF]
          refine wpAnyH_take (i := 5) (oi := ?_) (v := ?_) ?_ (by kernel_rfl) (by kernel_rfl) (by kernel_rfl) ?_ (Or.inl ⟨?_, ?_⟩) (by assumption) ?_
          rotate_left 2
          · (simp only [zA, zB, zC]; rfl)
          rotate_left 1
          · rfl
          · (intro w hSw; obtain ⟨q0, q1⟩ := hSw; go_simp; try with_reducible rfl)
          rotate_left 1
          · exact fun _ _ _ h => h
          try simp only [Act.put, zD, zE, zF]
          refine wpAnyH_ready (rs := [6]) (by kernel_rfl) (by simp) ?_
          refine AllReadyH.cons (o := ?_) ?_ (fun K hK => ?_) AllReadyH.nil
          rotate_left 1
          · (simp only [zA, zB, zC]; rfl)
          go_simp
          (go_at_call 113; refine (HJ.out _).mono ?_; rintro e w3 ⟨rfl, rfl⟩)
          refine hK.out _ _ ?_ (fun hHeld => ?_)
          · exact ⟨HY1.out, HN0.out⟩
          clear hK K
          try simp only [Act.put, zD, zE, zF]
          refine wpAnyH_done (by kernel_rfl) ?_ _
          by_cases j1 : jv = 1
          · subst j1
            have HE : Hid (true = ans) := hide (by rw [← HV.out]; rfl)
            go_wp2
            go_ret
            exact ⟨by rw [← HE.out]; rfl, below_dr HBL.out⟩
          · by_cases j2 : jv = 2
            · subst j2
              by_cases l6 : sl = 6
              · subst l6
                have HE : Hid (so = ans) := hide (by rw [← HV.out]; simp)
                go_wp2
                go_ret
                exact ⟨by rw [← HE.out]; rfl, below_dr HBL.out⟩
              · have HE : Hid (false = ans) := hide (by rw [← HV.out]; simp [l6])
                have m6 : (sl == 6) = false := by simpa using l6
                clear l6
                go_wp2
                go_ret
                exact ⟨by rw [← HE.out]; rfl, below_dr HBL.out⟩
            · have HE : Hid (false = ans) := hide (by rw [← HV.out]; simp [j1, j2])
              have m1' : (jv == 1) = false := by simpa using j1
              have m2' : (jv == 2) = false := by simpa using j2
              clear j1 j2
              go_wp2
              go_ret
              exact ⟨by rw [← HE.out]; rfl, below_dr HBL.out⟩
      | false =>
        have HV : Hid ((if jv = 1 then true else if jv = 2 then decide (sl = 6) && so else false) = ans) := hide (by rw [← HA.out]; simp [c1])
        have m2 : (conj == 1) = false := by simpa using c1
        clear c1
        go_enter Tryz.func75, Tryz.ntmps75
        go_upto_region 1 with fail
        rw [HW0.out]
        go_upto_region 6 with fail
        refine wp_region_held_drew (S := fun w' => w'.cell? ⟨g, o + 1, none⟩ = some (.int .i64 sl) ∧ w'.cell? ⟨w.heap.size, 0, none⟩ = some (.int .i64 brk)) (by kernel_rfl) (by exact ⟨y1, n0⟩) (fun hHeld => ?_)
        refine wpAnyH_take (i := 0) (oi := ?_) (v := ?_) ?_ (by kernel_rfl) (by kernel_rfl) (by kernel_rfl) ?_ (Or.inl ⟨?_, ?_⟩) (by assumption) ?_
        rotate_left 2
        · (simp only [zA, zB, zC]; rfl)
        rotate_left 1
        · rfl
        · (intro w hSw; obtain ⟨q0, q1⟩ := hSw; go_simp; try with_reducible rfl)
        rotate_left 1
        · exact fun _ _ _ h => h
        try simp only [Act.put, zD, zE, zF]
        refine wpAnyH_take (i := 1) (oi := ?_) (v := ?_) ?_ (by kernel_rfl) (by kernel_rfl) (by kernel_rfl) ?_ (Or.inl ⟨?_, ?_⟩) (by assumption) ?_
        rotate_left 2
        · (simp only [zA, zB, zC]; rfl)
        rotate_left 1
        · rfl
        · (intro w hSw; obtain ⟨q0, q1⟩ := hSw; go_simp; try with_reducible rfl)
        rotate_left 1
        · exact fun _ _ _ h => h
        try simp only [Act.put, zD, zE, zF]
        refine wpAnyH_take (i := 2) (oi := ?_) (v := ?_) ?_ (by kernel_rfl) (by kernel_rfl) (by kernel_rfl) ?_ (Or.inl ⟨?_, ?_⟩) (by assumption) ?_
        rotate_left 2
        · (simp only [zA, zB, zC]; rfl)
        rotate_left 1
        · rfl
        · (intro w hSw; obtain ⟨q0, q1⟩ := hSw; go_simp; try with_reducible rfl)
        rotate_left 1
        · exact fun _ _ _ h => h
        try simp only [Act.put, zD, zE, zF]
        refine wpAnyH_take (i := 3) (oi := ?_) (v := ?_) ?_ (by kernel_rfl) (by kernel_rfl) (by kernel_rfl) ?_ (Or.inl ⟨?_, ?_⟩) (by assumption) ?_
        rotate_left 2
        · (simp only [zA, zB, zC]; rfl)
        rotate_left 1
        · rfl
        · (intro w hSw; obtain ⟨q0, q1⟩ := hSw; go_simp; try with_reducible rfl)
        rotate_left 1
        · exact fun _ _ _ h => h
        try simp only [Act.put, zD, zE, zF]
        refine wpAnyH_take (i := 4) (oi := ?_) (v := ?_) ?_ (by kernel_rfl) (by kernel_rfl) (by kernel_rfl) ?_ (Or.inl ⟨?_, ?_⟩) (by assumption) ?_
        rotate_left 2
        · (simp only [zA, zB, zC]; rfl)
        rotate_left 1
        · rfl
        · (intro w hSw; obtain ⟨q0, q1⟩ := hSw; go_simp; try with_reducible rfl)
        rotate_left 1
        · exact fun _ _ _ h => h
        try simp only [Act.put, zD, zE, zF]
        refine wpAnyH_take (i := 5) (oi := ?_) (v := ?_) ?_ (by kernel_rfl) (by kernel_rfl) (by kernel_rfl) ?_ (Or.inl ⟨?_, ?_⟩) (by assumption) ?_
        rotate_left 2
        · (simp only [zA, zB, zC]; rfl)
        rotate_left 1
        · rfl
        · (intro w hSw; obtain ⟨q0, q1⟩ := hSw; go_simp; try with_reducible rfl)
        rotate_left 1
        · exact fun _ _ _ h => h
        try simp only [Act.put, zD, zE, zF]
        refine wpAnyH_ready (rs := [6]) (by kernel_rfl) (by simp) ?_
        refine AllReadyH.cons (o := ?_) ?_ (fun K hK => ?_) AllReadyH.nil
        rotate_left 1
        · (simp only [zA, zB, zC]; rfl)
        go_simp
        (go_at_call 113; refine (HJ.out _).mono ?_; rintro e w3 ⟨rfl, rfl⟩)
        refine hK.out _ _ ?_ (fun hHeld => ?_)
        · exact ⟨HY1.out, HN0.out⟩
        clear hK K
        try simp only [Act.put, zD, zE, zF]
        refine wpAnyH_done (by kernel_rfl) ?_ _
        by_cases j1 : jv = 1
        · subst j1
          have HE : Hid (true = ans) := hide (by rw [← HV.out]; rfl)
          go_wp2
          go_ret
          exact ⟨by rw [← HE.out]; rfl, below_dr HBL.out⟩
        · by_cases j2 : jv = 2
          · subst j2
            by_cases l6 : sl = 6
            · subst l6
              have HE : Hid (so = ans) := hide (by rw [← HV.out]; simp)
              go_wp2
              go_ret
              exact ⟨by rw [← HE.out]; rfl, below_dr HBL.out⟩
            · have HE : Hid (false = ans) := hide (by rw [← HV.out]; simp [l6])
              have m6 : (sl == 6) = false := by simpa using l6
              clear l6
              go_wp2
              go_ret
              exact ⟨by rw [← HE.out]; rfl, below_dr HBL.out⟩
          · have HE : Hid (false = ans) := hide (by rw [← HV.out]; simp [j1, j2])
            have m1' : (jv == 1) = false := by simpa using j1
            have m2' : (jv == 2) = false := by simpa using j2
            clear j1 j2
            go_wp2
            go_ret
            exact ⟨by rw [← HE.out]; rfl, below_dr HBL.out⟩
end Go.Proofs.YtdjpdllehhecpaaGreatDoor
