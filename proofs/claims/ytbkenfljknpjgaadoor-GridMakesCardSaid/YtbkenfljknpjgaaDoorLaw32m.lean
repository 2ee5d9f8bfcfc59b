/-
  The law on new grids and grids of lines: the walk returns true and leaves the memory that was there as it was.
-/
import Derived.Test.YtbkenfljknpjgaaDoorLaw32r
import Derived.Test.YtbkenfljknpjgaaDoorErr5
namespace Go.Proofs.YtbkenfljknpjgaaDoor
open Go.RowKit
set_option linter.unusedVariables false
set_option linter.unusedSimpArgs false

set_option maxRecDepth 100000 in
set_option maxHeartbeats 8000000 in
theorem walkS_GridMakes (b : Nat → Addr) (n h : Int) (x : Value) (ls : List LineV) (w : World) (hS : Sents b w) (hT : TypeVar w) (hn : (Lit.int .i64 n).wf = true) (hh : (Lit.int .i64 h).wf = true) (hx : Slc RLine (fun b => b < w.heap.size) (fun b => b < w.heap.size) w x ls) :
    Calls Tryd.prog 5 #[.int .i64 n, .int .i64 h, x] w fun e w' => e = .returned (.bool true) ∧ Below w.heap.size w w' := by
  obtain ⟨A, cp, rfl, _, _, _⟩ := hx.open_
  have HSE := hide hS
  have HTV := hide hT
  have HN := hide hn
  have HH := hide hh
  have HX := hide (fun W (h : Below w.heap.size w W) => (hx.mono (Keep.below (S := fun b => b < w.heap.size) h) (Keep.below (S := fun b => b < w.heap.size) h)).mono (Keep.lt _ _) (Keep.lt _ _))
  clear hS hT hn hh
  go_enter Tryd.func5, Tryd.ntmps5
  obtain ⟨cb, hcb⟩ : ∃ cb, (decide ((40 : Int) < ls.length) || (decide ((300 : Int) < n) && decide ((300 : Int) < h))) = cb := ⟨_, rfl⟩
  have HCB := hide hcb
  clear hcb
  go_upto_region 1 with fail
  go_cut [26] from 12 to 26 (fun s wx => s = .bool cb ∧ Below w.heap.size w wx)
  case first =>
    go_wp2_with fail
    refine (works32_ok _).mono ?_
    rintro e w1 ⟨rfl, hb1⟩
    by_cases n1 : (40 : Int) < ls.length
    · have E : Hid (true = cb) := hide (by rw [← HCB.out, decide_eq_true n1]; rfl)
      go_wp2
      go_meet
      exact ⟨bool_eq E.out, hb1⟩
    · by_cases n3 : (300 : Int) < n
      · by_cases n4 : (300 : Int) < h
        · have E : Hid (true = cb) := hide (by rw [← HCB.out, decide_eq_true n3, decide_eq_true n4]; simp)
          go_wp2
          go_meet
          exact ⟨bool_eq E.out, hb1⟩
        · go_wp2
          go_meet
          exact ⟨bool_eq (by rw [← HCB.out]; simp [n1, n3, n4]), hb1⟩
      · go_wp2
        go_meet
        exact ⟨bool_eq (by rw [← HCB.out, decide_eq_false (by omega : ¬ (300 : Int) < n)]; simp), hb1⟩
  case rest =>
    obtain ⟨rfl, hb1⟩ := hcut
    have hz1 := hb1.size
    cases cb with
    | true =>
      go_wp2_with fail
      refine (works32_ok _).mono ?_
      rintro e w9 ⟨rfl, hc9⟩
      go_wp2
      go_ret
      exact ⟨rfl, hb1.trans (hc9.mono hb1.size)⟩
    | false =>
      have hl40 : ls.length ≤ 40 := by
        have := HCB.out
        rw [Bool.or_eq_false_iff] at this
        have := of_decide_eq_false this.1
        omega
      clear HCB
      obtain ⟨a, ha⟩ : ∃ a, sideN n = a := ⟨_, rfl⟩
      obtain ⟨c, hc⟩ : ∃ c, sideN h = c := ⟨_, rfl⟩
      have ha2 := sideN_range n
      have hc2 := sideN_range h
      have hGN := GNew_ok n h HN.out HH.out wc
      have hSA := Side_ok n
      have hSC := Side_ok h
      rw [ha] at ha2 hGN hSA
      rw [hc] at hc2 hGN hSC
      have HGN := hide hGN
      have HSA := hide hSA
      have HSC := hide hSC
      clear ha hc hGN hSA hSC HN HH
      go_wp2_with fail
      refine HGN.out.mono ?_
      rintro e w2 ⟨v, qs, rfl, hg, hqs, hb2⟩
      obtain ⟨hql, hall⟩ := repl_short (by omega) hqs
      have hb2' := hb1.trans (hb2.mono hz1)
      have hz2 := hb2'.size
      have hq0 : 0 < qs.length := by omega
      have hGW := GWide_ok _ v qs w2 hg hq0
      rw [show qs[0].2.1.length = a by rw [(hall qs[0] (List.getElem_mem _)).1]; simp] at hGW
      have hGH := GHigh_ok _ v qs w2 hg
      rw [hql] at hGH
      have hGL := GLines_ok _ v qs w2 hg (by omega) (fun p hp => (hall p hp).2)
      rw [hqs] at hGL
      obtain ⟨gg, hge⟩ : ∃ gg, v = .pointer (some ⟨gg, 0, none⟩) := by
        obtain ⟨g, s, e, _⟩ := hg
        exact ⟨g, e⟩
      subst hge
      have HGW := hide hGW
      have HGH := hide hGH
      have HGL := hide hGL
      clear hGW hGH hGL hall hqs hg hql hq0 hb2 HGN
      go_wp2_with fail
      refine HGW.out.mono ?_
      rintro e w' ⟨rfl, rfl⟩
      go_wp2_with fail
      refine (HSA.out _).mono ?_
      rintro e w' ⟨rfl, rfl⟩
      go_wp2_with fail
      refine HGH.out.mono ?_
      rintro e w' ⟨rfl, rfl⟩
      go_wp2_with fail
      refine (HSC.out _).mono ?_
      rintro e w' ⟨rfl, rfl⟩
      go_wp2_with fail
      refine HGL.out.mono ?_
      rintro e w3 ⟨s1, rfl, hs1, hc3⟩
      have hb3 := hb2'.trans (hc3.mono hz2)
      have hz3 := hb3.size
      obtain ⟨L, hL⟩ : ∃ L, L = List.replicate c (List.replicate a ((0, []) : CellV), false) := ⟨_, rfl⟩
      rw [← hL] at hs1
      obtain ⟨A1, c1, rfl, _, _, _⟩ := hs1.open_
      have HL := hide hL
      clear hL hc3 HGL HGW HGH
      go_wp2_with fail
      refine (HSA.out _).mono ?_
      rintro e w' ⟨rfl, rfl⟩
      go_wp2_with fail
      refine (HSC.out _).mono ?_
      rintro e w' ⟨rfl, rfl⟩
      go_wp2_with fail
      refine (rNew32_ok a c ha2.2 hc2.2 w3).mono ?_
      rintro e w4 ⟨s2, rfl, hs2, hc4⟩
      rw [← HL.out] at hs2
      have hb4 := hb3.trans (hc4.mono hz3)
      have hs1 := hs1.lt_up2 hc4
      obtain ⟨A2, c2, rfl, _, _, _⟩ := hs2.open_
      have HSM := hide (rSame32_eq _ _ _ _ _ _ L w4 hs1 hs2)
      clear hc4 hs1 hs2
      go_wp2_with fail
      refine HSM.out.mono ?_
      rintro e w5 ⟨rfl, q, rfl⟩
      have hb5 := below_drewN hb4 q
      clear HSM HL HSA HSC
      generalize w4.drewN q = w5 at *
      have hz5 := hb5.size
      have hS5 := HSE.out.below (hb5.mono (Nat.le_refl _))
      by_cases h0 : ls.length = 0
      · have t1 : ((ls.length : Int) == 0) = true := by rw [h0]; rfl
        have HOR := hide (GOf_range A ls.length cp _ _ w5 (.inl h0) (hS5.var 2 (by decide)))
        clear h0
        go_wp2_with fail
        refine HOR.out.mono ?_
        rintro e w6 ⟨rfl, hc6⟩
        have hb6 := hb5.trans (hc6.mono hz5)
        have hCD := Code_ok b _ 2 none w6 (HSE.out.below (hb6.mono (Nat.le_refl _))) rfl (by decide)
        have HCD := hide hCD
        clear hCD hc6 HOR
        go_wp2_with fail
        refine HCD.out.mono ?_
        rintro e w' ⟨rfl, rfl⟩
        go_wp2
        go_ret
        exact ⟨rfl, hb6⟩
      · have t1 : ((ls.length : Int) == 0) = false := by rw [beq_eq_false_iff_ne]; omega
        have h00 : 0 < ls.length := by omega
        have HOF := hide (GOf_ok b _ _ ls w5 hS5 (HX.out w5 hb5) h00 (by omega))
        have HWR := hide (fun W (h : Below w.heap.size w W) => rWrong32_ok _ _ ls W (HX.out W h))
        obtain ⟨res, hres⟩ : ∃ res, wrgF ls = res := ⟨_, rfl⟩
        rw [hres] at HOF HWR
        have HR := hide hres
        clear hres h0
        go_wp2_with fail
        refine HOF.out.mono ?_
        rintro e w6 ⟨hno, hso, hc6⟩
        have hb6 := hb5.trans (hc6.mono hz5)
        have hz6 := hb6.size
        clear HOF
        cases res with
        | some jc =>
          obtain ⟨j, cd⟩ := jc
          obtain ⟨ev, rfl, hev⟩ := hso j cd rfl
          obtain ⟨te, ue, rfl⟩ := hev.form
          have hcd := (wrg_some ls 0 HR.out).2.2
          have HEV := hide hev
          clear hno hso hc6 hev
          go_wp2_with fail
          refine (HWR.out _ hb6).mono ?_
          rintro e w7 ⟨rfl, hc7⟩
          simp only [wrgV]
          have hb7 := hb6.trans (hc7.mono hz6)
          have hev7 := HEV.out.below hc7
          have hj : (0 : Int) ≤ j := by omega
          have HAT := hide (At_ok b _ _ _ w7 (HTV.out.below (hb7.mono (Nat.le_refl _))) hev7)
          have HS7 := hide (HSE.out.below (hb7.mono (Nat.le_refl _)))
          rcases hcd with rfl | rfl
          · have HCD := hide (Code_ok b _ 2 _ w7 HS7.out hev7 (by decide))
            clear hev7 hc7 HEV
            go_wp2_with fail
            refine HCD.out.mono ?_
            rintro e w' ⟨rfl, rfl⟩
            go_wp2_with fail
            refine HAT.out.mono ?_
            rintro e w8 ⟨rfl, hc8⟩
            go_wp2
            go_ret
            exact ⟨rfl, hb7.trans (hc8.mono hb7.size)⟩
          · have HCD := hide (Code_ok b _ 4 _ w7 HS7.out hev7 (by decide))
            clear hev7 hc7 HEV
            go_wp2_with fail
            refine HCD.out.mono ?_
            rintro e w' ⟨rfl, rfl⟩
            go_wp2_with fail
            refine HAT.out.mono ?_
            rintro e w8 ⟨rfl, hc8⟩
            go_wp2
            go_ret
            exact ⟨rfl, hb7.trans (hc8.mono hb7.size)⟩
        | none =>
          obtain ⟨v2, ps, rfl, hg2, hps⟩ := hno rfl
          obtain ⟨g2, hge⟩ : ∃ g2, v2 = .pointer (some ⟨g2, 0, none⟩) := by
            obtain ⟨g, s, e, _⟩ := hg2
            exact ⟨g, e⟩
          subst hge
          clear hno hso hc6
          go_wp2_with fail
          refine (HWR.out _ hb6).mono ?_
          rintro e w7 ⟨rfl, hc7⟩
          simp only [wrgV]
          have hb7 := hb6.trans (hc7.mono hz6)
          have hg7 := hg2.below hc7
          have hpl : ps.length = ls.length := by rw [← hps, List.length_map]
          obtain ⟨ab, off, v0, hA0, _, q02, q03, hv0⟩ := line_at hx.slb h00
          subst hA0
          obtain ⟨A0, c0, rfl, _, _, _⟩ := hv0.open_
          have hab := World.block_lt_of_cell? _ _ q02
          simp only [Nat.zero_mul, Nat.add_zero] at q02 hab
          obtain ⟨n0, hn0⟩ : ∃ n0, ls[0].1.length = n0 := ⟨_, rfl⟩
          rw [hn0] at q02
          have hp0 : (ps[0]'(by omega)).2.1.length = n0 := by
            have e : (ps[0]'(by omega)).2 = ls[0] := by
              have e1 : (ps.map Prod.snd)[0]'(by simpa using (by omega : 0 < ps.length)) = (ps[0]'(by omega)).2 := by rw [List.getElem_map]
              rw [← e1]
              congr 1
            rw [e]; exact hn0
          have hGW := GWide_ok _ _ ps w7 hg7 (by omega)
          rw [hp0] at hGW
          have hGH := GHigh_ok _ _ ps w7 hg7
          rw [hpl] at hGH
          have hGL := GLines_ok _ _ ps w7 hg7 (by omega) (right_rows HR.out hps)
          rw [hps] at hGL
          have hgl := (fun W (hW : Below w7.heap.size w7 W) => GWide_ok _ _ ps W (hg7.below hW) (by omega : 0 < ps.length))
          have hgh := (fun W (hW : Below w7.heap.size w7 W) => GHigh_ok _ _ ps W (hg7.below hW))
          simp only [hp0] at hgl
          rw [hpl] at hgh
          have HGW := hide hgl
          have HGH := hide hgh
          have hLNS : Calls Tryd.prog 18 #[.pointer (some ⟨g2, 0, none⟩)] w7.drew _ := GLines_ok _ _ ps w7.drew (hg7.below (below_drw (Below.refl _ _))) (by omega) (right_rows HR.out hps)
          rw [hps] at hLNS
          have HGL := hide hLNS
          have q2 := (hb7.cell (p := ⟨ab, off, none⟩) hab).trans q02
          have HQ := hide q02
          have hkn : (0 : Int) < ls.length := by omega
          clear hGW hGH hGL hLNS hgl hgh hg2 hc7 hp0 hn0 hv0 q02 hps hpl
          go_upto_region 12 with fail
          refine wp_region_held_drew (S := fun w' => w'.cell? ⟨ab, off, none⟩ = some (.slice A0 n0 c0)) (by kernel_rfl) (by exact q2) (fun hHeld => ?_)
          refine wpAnyH_take (i := 0) (oi := ?_) (v := ?_) ?_ (by kernel_rfl) (by kernel_rfl) (by kernel_rfl) ?_ (Or.inl ⟨?_, ?_⟩) (by assumption) ?_
          rotate_left 2
          · (simp only [List.getElem?_toArray, List.getElem?_cons_succ, List.getElem?_cons_zero]; rfl)
          rotate_left 1
          · rfl
          · (intro w hSw; (try dsimp only at hSw); go_simp; try with_reducible rfl)
          rotate_left 1
          · exact fun _ _ _ h => h
          try simp only [Act.put, List.setIfInBounds_toArray, List.set_cons_zero, List.set_cons_succ]
          refine wpAnyH_take (i := 1) (oi := ?_) (v := ?_) ?_ (by kernel_rfl) (by kernel_rfl) (by kernel_rfl) ?_ (Or.inl ⟨?_, ?_⟩) (by assumption) ?_
          rotate_left 2
          · (simp only [List.getElem?_toArray, List.getElem?_cons_succ, List.getElem?_cons_zero]; rfl)
          rotate_left 1
          · rfl
          · (intro w hSw; (try dsimp only at hSw); go_simp; try with_reducible rfl)
          rotate_left 1
          · exact fun _ _ _ h => h
          try simp only [Act.put, List.setIfInBounds_toArray, List.set_cons_zero, List.set_cons_succ]
          refine wpAnyH_take (i := 2) (oi := ?_) (v := ?_) ?_ (by kernel_rfl) (by kernel_rfl) (by kernel_rfl) ?_ (Or.inl ⟨?_, ?_⟩) (by assumption) ?_
          rotate_left 2
          · (simp only [List.getElem?_toArray, List.getElem?_cons_succ, List.getElem?_cons_zero]; rfl)
          rotate_left 1
          · rfl
          · (intro w hSw; (try dsimp only at hSw); go_simp; try with_reducible rfl)
          rotate_left 1
          · exact fun _ _ _ h => h
          try simp only [Act.put, List.setIfInBounds_toArray, List.set_cons_zero, List.set_cons_succ]
          refine wpAnyH_take (i := 3) (oi := ?_) (v := ?_) ?_ (by kernel_rfl) (by kernel_rfl) (by kernel_rfl) ?_ (Or.inl ⟨?_, ?_⟩) (by assumption) ?_
          rotate_left 2
          · (simp only [List.getElem?_toArray, List.getElem?_cons_succ, List.getElem?_cons_zero]; rfl)
          rotate_left 1
          · rfl
          · (intro w hSw; (try dsimp only at hSw); go_simp; try with_reducible rfl)
          rotate_left 1
          · exact fun _ _ _ h => h
          try simp only [Act.put, List.setIfInBounds_toArray, List.set_cons_zero, List.set_cons_succ]
          refine wpAnyH_take (i := 5) (oi := ?_) (v := ?_) ?_ (by kernel_rfl) (by kernel_rfl) (by kernel_rfl) ?_ (Or.inl ⟨?_, ?_⟩) (by assumption) ?_
          rotate_left 2
          · (simp only [List.getElem?_toArray, List.getElem?_cons_succ, List.getElem?_cons_zero]; rfl)
          rotate_left 1
          · rfl
          · (intro w hSw; (try dsimp only at hSw); go_simp; try with_reducible rfl)
          rotate_left 1
          · exact fun _ _ _ h => h
          try simp only [Act.put, List.setIfInBounds_toArray, List.set_cons_zero, List.set_cons_succ]
          refine wpAnyH_ready (rs := [4]) (by kernel_rfl) (by simp) ?_
          refine AllReadyH.cons (o := ?_) ?_ (fun K hK => ?_) AllReadyH.nil
          rotate_left 1
          · (simp only [List.getElem?_toArray, List.getElem?_cons_succ, List.getElem?_cons_zero]; rfl)
          go_simp
          go_at_call 18; refine HGL.out.mono ?_; rintro e w8 ⟨s3, rfl, hs3, hc8⟩; have hb8 := (below_drw hb7).trans (hc8.mono hb7.size); obtain ⟨A3, c3, rfl, _, _, _⟩ := hs3.open_; have q2 := (hb8.cell (p := ⟨ab, off, none⟩) hab).trans HQ.out; have h78 : Below w7.heap.size w7 w8 := (below_drw (Below.refl _ w7)).trans hc8
          refine hK.out _ _ ?_ (fun hHeld => ?_)
          · exact q2
          clear hK K
          try simp only [Act.put, List.setIfInBounds_toArray, List.set_cons_zero, List.set_cons_succ]
          refine wpAnyH_ready (rs := [6]) (by kernel_rfl) (by simp) ?_
          refine AllReadyH.cons (o := ?_) ?_ (fun K hK => ?_) AllReadyH.nil
          rotate_left 1
          · (simp only [List.getElem?_toArray, List.getElem?_cons_succ, List.getElem?_cons_zero]; rfl)
          go_simp
          go_at_call 17; refine (rSame32_eq _ _ _ _ _ _ ls w8 hs3 (HX.out w8 hb8)).mono ?_; rintro e w9 ⟨rfl, q, rfl⟩; have hbz := below_drewN hb8 q; have q2 := (hbz.cell (p := ⟨ab, off, none⟩) hab).trans HQ.out; have h79 := below_drewN h78 q
          refine hK.out _ _ ?_ (fun hHeld => ?_)
          · exact q2
          clear hK K
          try simp only [Act.put, List.setIfInBounds_toArray, List.set_cons_zero, List.set_cons_succ]
          refine wpAnyH_take (i := 7) (oi := ?_) (v := ?_) ?_ (by kernel_rfl) (by kernel_rfl) (by kernel_rfl) ?_ (Or.inl ⟨?_, ?_⟩) (by assumption) ?_
          rotate_left 2
          · (simp only [List.getElem?_toArray, List.getElem?_cons_succ, List.getElem?_cons_zero]; rfl)
          rotate_left 1
          · rfl
          · (intro w hSw; (try dsimp only at hSw); go_simp; try with_reducible rfl)
          rotate_left 1
          · exact fun _ _ _ h => h
          try simp only [Act.put, List.setIfInBounds_toArray, List.set_cons_zero, List.set_cons_succ]
          refine wpAnyH_take (i := 8) (oi := ?_) (v := ?_) ?_ (by kernel_rfl) (by kernel_rfl) (by kernel_rfl) ?_ (Or.inl ⟨?_, ?_⟩) (by assumption) ?_
          rotate_left 2
          · (simp only [List.getElem?_toArray, List.getElem?_cons_succ, List.getElem?_cons_zero]; rfl)
          rotate_left 1
          · rfl
          · (intro w hSw; (try dsimp only at hSw); go_simp; try with_reducible rfl)
          rotate_left 1
          · exact fun _ _ _ h => h
          try simp only [Act.put, List.setIfInBounds_toArray, List.set_cons_zero, List.set_cons_succ]
          refine wpAnyH_take (i := 9) (oi := ?_) (v := ?_) ?_ (by kernel_rfl) (by kernel_rfl) (by kernel_rfl) ?_ (Or.inl ⟨?_, ?_⟩) (by assumption) ?_
          rotate_left 2
          · (simp only [List.getElem?_toArray, List.getElem?_cons_succ, List.getElem?_cons_zero]; rfl)
          rotate_left 1
          · rfl
          · (intro w hSw; (try dsimp only at hSw); go_simp; try with_reducible rfl)
          rotate_left 1
          · exact fun _ _ _ h => h
          try simp only [Act.put, List.setIfInBounds_toArray, List.set_cons_zero, List.set_cons_succ]
          refine wpAnyH_take (i := 11) (oi := ?_) (v := ?_) ?_ (by kernel_rfl) (by kernel_rfl) (by kernel_rfl) ?_ (Or.inl ⟨?_, ?_⟩) (by assumption) ?_
          rotate_left 2
          · (simp only [List.getElem?_toArray, List.getElem?_cons_succ, List.getElem?_cons_zero]; rfl)
          rotate_left 1
          · rfl
          · (intro w hSw; (try dsimp only at hSw); go_simp; try with_reducible rfl)
          rotate_left 1
          · exact fun _ _ _ h => h
          try simp only [Act.put, List.setIfInBounds_toArray, List.set_cons_zero, List.set_cons_succ]
          refine wpAnyH_take (i := 12) (oi := ?_) (v := ?_) ?_ (by kernel_rfl) (by kernel_rfl) (by kernel_rfl) ?_ (Or.inl ⟨?_, ?_⟩) (by assumption) ?_
          rotate_left 2
          · (simp only [List.getElem?_toArray, List.getElem?_cons_succ, List.getElem?_cons_zero]; rfl)
          rotate_left 1
          · rfl
          · (intro w hSw; (try dsimp only at hSw); go_simp; try with_reducible rfl)
          rotate_left 1
          · exact fun _ _ _ h => h
          try simp only [Act.put, List.setIfInBounds_toArray, List.set_cons_zero, List.set_cons_succ]
          refine wpAnyH_take (i := 13) (oi := ?_) (v := ?_) ?_ (by kernel_rfl) (by kernel_rfl) (by kernel_rfl) ?_ (Or.inl ⟨?_, ?_⟩) (by assumption) ?_
          rotate_left 2
          · (simp only [List.getElem?_toArray, List.getElem?_cons_succ, List.getElem?_cons_zero]; rfl)
          rotate_left 1
          · rfl
          · (intro w hSw; (try dsimp only at hSw); go_simp; try with_reducible rfl)
          rotate_left 1
          · exact fun _ _ _ h => h
          try simp only [Act.put, List.setIfInBounds_toArray, List.set_cons_zero, List.set_cons_succ]
          refine wpAnyH_take (i := 14) (oi := ?_) (v := ?_) ?_ (by kernel_rfl) (by kernel_rfl) (by kernel_rfl) ?_ (Or.inl ⟨?_, ?_⟩) (by assumption) ?_
          rotate_left 2
          · (simp only [List.getElem?_toArray, List.getElem?_cons_succ, List.getElem?_cons_zero]; rfl)
          rotate_left 1
          · rfl
          · (intro w hSw; (try dsimp only at hSw); go_simp; try with_reducible rfl)
          rotate_left 1
          · exact fun _ _ _ h => h
          try simp only [Act.put, List.setIfInBounds_toArray, List.set_cons_zero, List.set_cons_succ]
          refine wpAnyH_take (i := 15) (oi := ?_) (v := ?_) ?_ (by kernel_rfl) (by kernel_rfl) (by kernel_rfl) ?_ (Or.inl ⟨?_, ?_⟩) (by assumption) ?_
          rotate_left 2
          · (simp only [List.getElem?_toArray, List.getElem?_cons_succ, List.getElem?_cons_zero]; rfl)
          rotate_left 1
          · rfl
          · (intro w hSw; (try dsimp only at hSw); go_simp; try with_reducible rfl)
          rotate_left 1
          · exact fun _ _ _ h => h
          try simp only [Act.put, List.setIfInBounds_toArray, List.set_cons_zero, List.set_cons_succ]
          refine wpAnyH_ready (rs := [10]) (by kernel_rfl) (by simp) ?_
          refine AllReadyH.cons (o := ?_) ?_ (fun K hK => ?_) AllReadyH.nil
          rotate_left 1
          · (simp only [List.getElem?_toArray, List.getElem?_cons_succ, List.getElem?_cons_zero]; rfl)
          go_simp
          go_at_call 19; refine (HGW.out _ h79).mono ?_; rintro e w' ⟨rfl, rfl⟩
          refine hK.out _ _ ?_ (fun hHeld => ?_)
          · exact q2
          clear hK K
          try simp only [Act.put, List.setIfInBounds_toArray, List.set_cons_zero, List.set_cons_succ]
          refine wpAnyH_take (i := 16) (oi := ?_) (v := ?_) ?_ (by kernel_rfl) (by kernel_rfl) (by kernel_rfl) ?_ (Or.inl ⟨?_, ?_⟩) (by assumption) ?_
          rotate_left 2
          · (simp only [List.getElem?_toArray, List.getElem?_cons_succ, List.getElem?_cons_zero]; rfl)
          rotate_left 1
          · rfl
          · (intro w hSw; (try dsimp only at hSw); go_simp; try with_reducible rfl)
          rotate_left 1
          · exact fun _ _ _ h => h
          try simp only [Act.put, List.setIfInBounds_toArray, List.set_cons_zero, List.set_cons_succ]
          refine wpAnyH_take (i := 17) (oi := ?_) (v := ?_) ?_ (by kernel_rfl) (by kernel_rfl) (by kernel_rfl) ?_ (Or.inl ⟨?_, ?_⟩) (by assumption) ?_
          rotate_left 2
          · (simp only [List.getElem?_toArray, List.getElem?_cons_succ, List.getElem?_cons_zero]; rfl)
          rotate_left 1
          · rfl
          · (intro w hSw; (try dsimp only at hSw); go_simp; try with_reducible rfl)
          rotate_left 1
          · exact fun _ _ _ h => h
          try simp only [Act.put, List.setIfInBounds_toArray, List.set_cons_zero, List.set_cons_succ]
          refine wpAnyH_take (i := 18) (oi := ?_) (v := ?_) ?_ (by kernel_rfl) (by kernel_rfl) (by kernel_rfl) ?_ (Or.inl ⟨?_, ?_⟩) (by assumption) ?_
          rotate_left 2
          · (simp only [List.getElem?_toArray, List.getElem?_cons_succ, List.getElem?_cons_zero]; rfl)
          rotate_left 1
          · rfl
          · (intro w hSw; (try dsimp only at hSw); go_simp; try with_reducible rfl)
          rotate_left 1
          · exact fun _ _ _ h => h
          try simp only [Act.put, List.setIfInBounds_toArray, List.set_cons_zero, List.set_cons_succ]
          refine wpAnyH_take (i := 19) (oi := ?_) (v := ?_) ?_ (by kernel_rfl) (by kernel_rfl) (by kernel_rfl) ?_ (Or.inl ⟨?_, ?_⟩) (by assumption) ?_
          rotate_left 2
          · (simp only [List.getElem?_toArray, List.getElem?_cons_succ, List.getElem?_cons_zero]; rfl)
          rotate_left 1
          · rfl
          · (intro w hSw; (try dsimp only at hSw); go_simp; try with_reducible rfl)
          rotate_left 1
          · exact fun _ _ _ h => h
          try simp only [Act.put, List.setIfInBounds_toArray, List.set_cons_zero, List.set_cons_succ]
          refine wpAnyH_take (i := 21) (oi := ?_) (v := ?_) ?_ (by kernel_rfl) (by kernel_rfl) (by kernel_rfl) ?_ (Or.inl ⟨?_, ?_⟩) (by assumption) ?_
          rotate_left 2
          · (simp only [List.getElem?_toArray, List.getElem?_cons_succ, List.getElem?_cons_zero]; rfl)
          rotate_left 1
          · rfl
          · (intro w hSw; (try dsimp only at hSw); go_simp; try with_reducible rfl)
          rotate_left 1
          · exact fun _ _ _ h => h
          try simp only [Act.put, List.setIfInBounds_toArray, List.set_cons_zero, List.set_cons_succ]
          refine wpAnyH_take (i := 22) (oi := ?_) (v := ?_) ?_ (by kernel_rfl) (by kernel_rfl) (by kernel_rfl) ?_ (Or.inl ⟨?_, ?_⟩) (by assumption) ?_
          rotate_left 2
          · (simp only [List.getElem?_toArray, List.getElem?_cons_succ, List.getElem?_cons_zero]; rfl)
          rotate_left 1
          · rfl
          · (intro w hSw; (try dsimp only at hSw); go_simp; try with_reducible rfl)
          rotate_left 1
          · exact fun _ _ _ h => h
          try simp only [Act.put, List.setIfInBounds_toArray, List.set_cons_zero, List.set_cons_succ]
          refine wpAnyH_ready (rs := [20]) (by kernel_rfl) (by simp) ?_
          refine AllReadyH.cons (o := ?_) ?_ (fun K hK => ?_) AllReadyH.nil
          rotate_left 1
          · (simp only [List.getElem?_toArray, List.getElem?_cons_succ, List.getElem?_cons_zero]; rfl)
          go_simp
          go_at_call 20; refine (HGH.out _ h79).mono ?_; rintro e w' ⟨rfl, rfl⟩
          refine hK.out _ _ ?_ (fun hHeld => ?_)
          · exact q2
          clear hK K
          try simp only [Act.put, List.setIfInBounds_toArray, List.set_cons_zero, List.set_cons_succ]
          refine wpAnyH_take (i := 23) (oi := ?_) (v := ?_) ?_ (by kernel_rfl) (by kernel_rfl) (by kernel_rfl) ?_ (Or.inl ⟨?_, ?_⟩) (by assumption) ?_
          rotate_left 2
          · (simp only [List.getElem?_toArray, List.getElem?_cons_succ, List.getElem?_cons_zero]; rfl)
          rotate_left 1
          · rfl
          · (intro w hSw; (try dsimp only at hSw); go_simp; try with_reducible rfl)
          rotate_left 1
          · exact fun _ _ _ h => h
          try simp only [Act.put, List.setIfInBounds_toArray, List.set_cons_zero, List.set_cons_succ]
          refine wpAnyH_take (i := 24) (oi := ?_) (v := ?_) ?_ (by kernel_rfl) (by kernel_rfl) (by kernel_rfl) ?_ (Or.inl ⟨?_, ?_⟩) (by assumption) ?_
          rotate_left 2
          · (simp only [List.getElem?_toArray, List.getElem?_cons_succ, List.getElem?_cons_zero]; rfl)
          rotate_left 1
          · rfl
          · (intro w hSw; (try dsimp only at hSw); go_simp; try with_reducible rfl)
          rotate_left 1
          · exact fun _ _ _ h => h
          try simp only [Act.put, List.setIfInBounds_toArray, List.set_cons_zero, List.set_cons_succ]
          refine wpAnyH_take (i := 25) (oi := ?_) (v := ?_) ?_ (by kernel_rfl) (by kernel_rfl) (by kernel_rfl) ?_ (Or.inl ⟨?_, ?_⟩) (by assumption) ?_
          rotate_left 2
          · (simp only [List.getElem?_toArray, List.getElem?_cons_succ, List.getElem?_cons_zero]; rfl)
          rotate_left 1
          · rfl
          · (intro w hSw; (try dsimp only at hSw); go_simp; try with_reducible rfl)
          rotate_left 1
          · exact fun _ _ _ h => h
          try simp only [Act.put, List.setIfInBounds_toArray, List.set_cons_zero, List.set_cons_succ]
          refine wpAnyH_done (by kernel_rfl) ?_ _
          go_wp2
          go_ret
          exact ⟨rfl, hbz⟩
end Go.Proofs.YtbkenfljknpjgaaDoor
