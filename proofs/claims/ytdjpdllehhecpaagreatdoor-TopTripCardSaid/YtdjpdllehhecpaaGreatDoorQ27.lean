import Derived.Test.YtdjpdllehhecpaaGreatDoorQ05
import Derived.Shelf.SlSorted.Search
import Derived.Shelf.Lay
import Derived.RegionTactic
import Derived.BigQuiet
import Derived.Ground.SlsoProg
import Derived.Test.YtdjpdllehhecpaaGreatDoorQ06
open List renaming getElem?_toArray → zA, getElem?_cons_succ → zB, getElem?_cons_zero → zC, setIfInBounds_toArray → zD, set_cons_zero → zE, set_cons_succ → zF
namespace Go.Proofs.YtdjpdllehhecpaaGreatDoor
open Go.RowKit Go.Shelf Go.Lib Go.Sort
set_option linter.unusedVariables false
set_option linter.unusedSimpArgs false
shelf_lay SlLaysO.n16 Slso 16 at Tryz as Tryz.search
theorem sort_mono : ∀ (T : List SpanV), sortS T = true → ∀ a b (ha : a < T.length) (hb : b < T.length), a ≤ b → T[a].2.1 ≤ T[b].2.1
  | [], _, a, b, ha, _, _ => by simp at ha
  | x :: l, h, a, b, ha, hb, hab => by
    obtain ⟨h1, h2, h3⟩ := sortS_cons h
    cases a with
    | zero =>
      cases b with
      | zero => exact Int.le_refl _
      | succ b =>
        have hb2 : b < l.length := by simpa using hb
        have := h3 l[b] (List.getElem_mem _)
        simp only [List.getElem_cons_zero, List.getElem_cons_succ]
        omega
    | succ a =>
      cases b with
      | zero => omega
      | succ b => exact sort_mono l h2 a b (by simpa using ha) (by simpa using hb) (by omega)
set_option maxHeartbeats 1000000 in
theorem search_ok (g k : Nat) (ty : IntKind) (eg : ∀ args w, (callFunc g args).run Tryz.prog w = .ok (.enter g args) w) (T : List SpanV) (hsort : sortS T = true) (r : Int) (W0 : World) (ba bx blk n : Nat) (hn : T.length = n) (hsz : n < 100000)
    (hcl : ∀ (W : World) (i : Nat) (y : Int), i < n → W.cell? ⟨ba, 0, none⟩ = some (.slice (some ⟨blk, 0, none⟩) n n) → W.cell? ⟨bx, 0, none⟩ = some (.int .i32 r) → W.cell? ⟨blk, i * k + 1, none⟩ = some (.int ty y) →
      Calls Tryz.prog g (#[.int .i64 i] ++ #[.pointer (some ⟨ba, 0, none⟩), .pointer (some ⟨bx, 0, none⟩)]) W fun e w' => e = .returned (.bool (decide (r ≤ y))) ∧ ∃ q, w' = W.drewN q)
    (ca : W0.cell? ⟨ba, 0, none⟩ = some (.slice (some ⟨blk, 0, none⟩) n n)) (cx : W0.cell? ⟨bx, 0, none⟩ = some (.int .i32 r)) (cc : ∀ i (h : i < T.length), W0.cell? ⟨blk, i * k + 1, none⟩ = some (.int ty T[i].2.1))
    (ha : ba < W0.heap.size) (hx : bx < W0.heap.size) (hb : blk < W0.heap.size) :
    Calls Tryz.prog 115 #[.int .i64 n, .func (.func g) #[] #[.pointer (some ⟨ba, 0, none⟩), .pointer (some ⟨bx, 0, none⟩)]] W0 fun e w' => e = .returned (.int .i64 (cntS T r)) ∧ ∃ q os, w' = grow (W0.drewN q) os := by
  have e1 : ∀ i (h : i < T.length), T.toArray[i]! = T[i] := fun i h => by simp [h]
  have hS := Any.sort_Search Tryz.search g #[.pointer (some ⟨ba, 0, none⟩), .pointer (some ⟨bx, 0, none⟩)] n (fun i => decide (r ≤ (T.toArray[i]!).2.1)) W0 eg (by omega)
    (fun m os i hi => (hcl _ i (T.toArray[i]!).2.1 hi (cell_grown ha ca m os) (cell_grown hx cx m os) (cell_grown hb (by rw [e1 i (by omega)]; exact cc i (by omega)) m os)).mono
      fun _ _ ⟨he, q, hq⟩ => ⟨he, q, #[], by rw [hq, grow_empty]⟩) (fun a b hab hb h => by
        rw [e1 a (by omega)] at h
        rw [e1 b (by omega)]
        have := sort_mono T hsort a b (by omega) (by omega) hab
        simp at h ⊢; omega)
  have e2 := Lib.countP_range T.toArray (fun y => !decide (r ≤ y.2.1))
  rw [List.size_toArray, hn] at e2
  rw [e2] at hS
  exact hS
theorem atS_in {T : List SpanV} {r d : Int} (h : cntS T r < T.length) : atS T r d = if T[cntS T r].1 ≤ r then T[cntS T r].2.2 else d := by unfold atS; rw [List.getElem?_eq_getElem h]
theorem atS_out {T : List SpanV} {r d : Int} (h : T.length ≤ cntS T r) : atS T r d = d := by unfold atS; rw [List.getElem?_eq_none h]
theorem cntS_le (T : List SpanV) (r : Int) : cntS T r ≤ T.length := List.countP_le_length
set_option maxHeartbeats 2000000 in
theorem gcbFn_ok (ba bx blk n : Nat) (x y : Int) (i : Nat) (W : World) (hi : i < n)
    (ha : W.cell? ⟨ba, 0, none⟩ = some (.slice (some ⟨blk, 0, none⟩) n n)) (hx : W.cell? ⟨bx, 0, none⟩ = some (.int .i32 x)) (hc : W.cell? ⟨blk, i * 3 + 1, none⟩ = some (.int .i64 y)) (h0 : -2147483648 ≤ x) (h1 : x ≤ 2147483647) :
    Calls Tryz.prog 116 (#[.int .i64 i] ++ #[.pointer (some ⟨ba, 0, none⟩), .pointer (some ⟨bx, 0, none⟩)]) W fun e w' => e = .returned (.bool (decide (x ≤ y))) ∧ ∃ q, w' = W.drewN q := by
  have hiz : (i : Int) < (n : Int) := by omega
  go_enter Tryz.func116, Tryz.ntmps116
  go_wp2
  go_region
  all_goals go_wp2
  all_goals go_ret
  all_goals exact ⟨by first | rfl | simp, 1, rfl⟩
set_option maxHeartbeats 2000000 in
theorem conjFn_ok (ba bx blk n : Nat) (x y : Int) (i : Nat) (W : World) (hi : i < n)
    (ha : W.cell? ⟨ba, 0, none⟩ = some (.slice (some ⟨blk, 0, none⟩) n n)) (hx : W.cell? ⟨bx, 0, none⟩ = some (.int .i32 x)) (hc : W.cell? ⟨blk, i * 3 + 1, none⟩ = some (.int .i64 y)) (h0 : -2147483648 ≤ x) (h1 : x ≤ 2147483647) :
    Calls Tryz.prog 121 (#[.int .i64 i] ++ #[.pointer (some ⟨ba, 0, none⟩), .pointer (some ⟨bx, 0, none⟩)]) W fun e w' => e = .returned (.bool (decide (x ≤ y))) ∧ ∃ q, w' = W.drewN q := by
  have hiz : (i : Int) < (n : Int) := by omega
  go_enter Tryz.func121, Tryz.ntmps121
  go_wp2
  go_region
  all_goals go_wp2
  all_goals go_ret
  all_goals exact ⟨by first | rfl | simp, 1, rfl⟩
set_option maxHeartbeats 2000000 in
theorem eastFn_ok (ba bx blk n : Nat) (x y : Int) (i : Nat) (W : World) (hi : i < n)
    (ha : W.cell? ⟨ba, 0, none⟩ = some (.slice (some ⟨blk, 0, none⟩) n n)) (hx : W.cell? ⟨bx, 0, none⟩ = some (.int .i32 x)) (hc : W.cell? ⟨blk, i * 3 + 1, none⟩ = some (.int .i64 y)) (h0 : -2147483648 ≤ x) (h1 : x ≤ 2147483647) :
    Calls Tryz.prog 123 (#[.int .i64 i] ++ #[.pointer (some ⟨ba, 0, none⟩), .pointer (some ⟨bx, 0, none⟩)]) W fun e w' => e = .returned (.bool (decide (x ≤ y))) ∧ ∃ q, w' = W.drewN q := by
  have hiz : (i : Int) < (n : Int) := by omega
  go_enter Tryz.func123, Tryz.ntmps123
  go_wp2
  go_region
  all_goals go_wp2
  all_goals go_ret
  all_goals exact ⟨by first | rfl | simp, 1, rfl⟩
set_option maxHeartbeats 2000000 in
theorem pictFn_ok (ba bx blk n : Nat) (x y : Int) (i : Nat) (W : World) (hi : i < n)
    (ha : W.cell? ⟨ba, 0, none⟩ = some (.slice (some ⟨blk, 0, none⟩) n n)) (hx : W.cell? ⟨bx, 0, none⟩ = some (.int .i32 x)) (hc : W.cell? ⟨blk, i * 2 + 1, none⟩ = some (.int .i32 y)) (h0 : -2147483648 ≤ x) (h1 : x ≤ 2147483647) :
    Calls Tryz.prog 119 (#[.int .i64 i] ++ #[.pointer (some ⟨ba, 0, none⟩), .pointer (some ⟨bx, 0, none⟩)]) W fun e w' => e = .returned (.bool (decide (x ≤ y))) ∧ ∃ q, w' = W.drewN q := by
  have hiz : (i : Int) < (n : Int) := by omega
  go_enter Tryz.func119, Tryz.ntmps119
  go_wp2
  go_region
  all_goals go_wp2
  all_goals go_ret
  all_goals exact ⟨by first | rfl | simp, 1, rfl⟩
set_option maxRecDepth 100000 in
set_option maxHeartbeats 4000000 in
theorem gcbOf_ok (r : Int) (h0 : -2147483648 ≤ r) (h1 : r ≤ 2147483647) (w : World) :
    Calls Tryz.prog 78 #[.int .i32 r] w fun e w' => e = .returned (.int .i64 (brkF r)) ∧ Below w.heap.size w w' := by
  have HT := hide gcbT_ok
  have HC := hide (hClass_ok r h0 h1)
  have hle := cntS_le gcbT r
  have hat := fun i (h : i < gcbT.length) => tab3_at gcbT i h
  obtain ⟨n, hn⟩ : ∃ n, gcbT.length = n := ⟨_, rfl⟩
  have hn3 : gcbT.length = n := by exact hn
  have hn9 : n < 100000 := by rw [← hn]; exact of_decide_eq_true (by kernel_rfl)
  obtain ⟨tc, htc⟩ : ∃ tc, (tab3 gcbT).toArray = tc := ⟨_, rfl⟩
  rw [hn, htc] at HT
  obtain ⟨W0, hW0⟩ : ∃ W0, ((w.alloc (.cells #[.int .i32 r] 21)).alloc (.cells tc 174)).alloc (.cells #[.slice (some ⟨w.heap.size + 1, 0, none⟩) n n] 171) = W0 := ⟨_, rfl⟩
  have hsize : W0.heap.size = w.heap.size + 3 := by rw [← hW0]; simp
  have bx : Blk W0 w.heap.size 21 #[.int .i32 r] := by rw [← hW0]; exact ((Blk.new w _ _).alloc _).alloc _
  have bt : Blk W0 (w.heap.size + 1) 174 tc := by rw [← hW0]; have := (Blk.new (w.alloc (.cells #[.int .i32 r] 21)) 174 tc).alloc (.cells #[.slice (some ⟨w.heap.size + 1, 0, none⟩) n n] 171); simpa using this
  have ba : Blk W0 (w.heap.size + 2) 171 #[.slice (some ⟨w.heap.size + 1, 0, none⟩) n n] := by rw [← hW0]; have := Blk.new ((w.alloc (.cells #[.int .i32 r] 21)).alloc (.cells tc 174)) 171 #[.slice (some ⟨w.heap.size + 1, 0, none⟩) n n]; simpa using this
  have cx : W0.cell? ⟨w.heap.size, 0, none⟩ = some (.int .i32 r) := (bx.cell 0).trans rfl
  have ca : W0.cell? ⟨w.heap.size + 2, 0, none⟩ = some (.slice (some ⟨w.heap.size + 1, 0, none⟩) n n) := (ba.cell 0).trans rfl
  have cc : ∀ i (h : i < gcbT.length), W0.cell? ⟨w.heap.size + 1, i * 3 + 1, none⟩ = some (.int .i64 gcbT[i].2.1) := fun i h => by
    rw [bt.cell, ← htc, List.getElem?_toArray]; exact (hat i h).2.1
  have cl0 : ∀ i (h : i < gcbT.length), W0.cell? ⟨w.heap.size + 1, i * 3, none⟩ = some (.int .i64 gcbT[i].1) := fun i h => by
    rw [bt.cell, ← htc, List.getElem?_toArray]; exact (hat i h).1
  have cv : ∀ i (h : i < gcbT.length), W0.cell? ⟨w.heap.size + 1, i * 3 + 2, none⟩ = some (.int .i64 gcbT[i].2.2) := fun i h => by
    rw [bt.cell, ← htc, List.getElem?_toArray]; exact (hat i h).2.2
  have hS := search_ok 116 3 .i64 (enters_of Tryz.func116 (by kernel_rfl) rfl) gcbT gcb_sort r W0 (w.heap.size + 2) w.heap.size (w.heap.size + 1) n hn3 hn9
    (fun W i y hi a b c => gcbFn_ok _ _ _ n r y i W hi a b c h0 h1) ca cx cc (by omega) (by omega) (by omega)
  have HB : Hid (Below w.heap.size w W0) := hide (by rw [← hW0]; exact (((Below.refl _ w).alloc (Nat.le_refl _) _).alloc (by simp) _).alloc (by simp; omega) _)
  have hin := fun h => atS_in (T := gcbT) (r := r) (d := (hanF r)) h
  have hout := fun h => atS_out (T := gcbT) (r := r) (d := (hanF r)) h
  rw [hn3] at hle hout
  obtain ⟨k, hk⟩ : ∃ k, cntS gcbT r = k := ⟨_, rfl⟩
  have HIN := hide hin
  have HOUT := hide hout
  have CL := hide cl0
  have HSZ := hide hsize
  have HN3 := hide hn3
  have CV := hide cv
  have HK := hide hk
  rw [hk] at hS hle
  have HS := hide hS
  have HW0 := hide hW0
  clear hin hout hS cc cl0 bx bt ba hW0 hat htc hn hn3 hk hsize cv
  go_enter Tryz.func78, Tryz.ntmps78
  go_wp2_with fail
  refine (HT.out _).mono ?_
  rintro e w1 ⟨rfl, rfl⟩
  go_wp2_with fail
  rw [show (w.heap.size + 1 + 1) = w.heap.size + 2 from rfl, HW0.out]
  refine HS.out.mono ?_
  rintro e w2 ⟨rfl, q, os, rfl⟩
  have hx2 := cell_grown (a := ⟨w.heap.size, 0, none⟩) (show w.heap.size < _ by rw [HSZ.out]; omega) cx q os
  have ha2 := cell_grown (a := ⟨w.heap.size + 2, 0, none⟩) (show w.heap.size + 2 < _ by rw [HSZ.out]; omega) ca q os
  by_cases hkn : k < n
  · have hl2 := cell_grown (a := ⟨w.heap.size + 1, k * 3, none⟩) (show w.heap.size + 1 < _ by rw [HSZ.out]; omega) (CL.out k (by rw [HN3.out]; exact hkn)) q os
    have hlx : ∃ x, gcbT[k]'(by rw [HN3.out]; exact hkn) = x := ⟨_, rfl⟩
    obtain ⟨x, hx⟩ := hlx
    rw [hx] at hl2
    have hv2 := cell_grown (a := ⟨w.heap.size + 1, k * 3 + 2, none⟩) (show w.heap.size + 1 < _ by rw [HSZ.out]; omega) (CV.out k (by rw [HN3.out]; exact hkn)) q os
    rw [hx] at hv2
    have HX := hide hx
    have hkn2 : (k : Int) < n := by omega
    have hkn3 : ((k : Int) == (n : Int)) = false := by rw [beq_eq_false_iff_ne]; omega
    clear hx
    by_cases hlo : x.1 ≤ r
    · have hans : brkF r = x.2.2 := by unfold brkF; rw [HIN.out (by rw [HK.out, HN3.out]; exact hkn)]; simp only [HK.out, HX.out, if_pos hlo]
      have HA := hide hans
      clear hans
      go_wp2
      go_quiet (fail)
      go_wp2
      go_ret
      exact ⟨by rw [HA.out]; first | rfl | (simp <;> omega), below_drewN (HB.out.trans (below_grown_sl w.heap.size W0 _ os (by rw [HSZ.out]; omega))) _⟩
    · have hans : brkF r = hanF r := by unfold brkF; rw [HIN.out (by rw [HK.out, HN3.out]; exact hkn)]; simp only [HK.out, HX.out, if_neg hlo]
      have HA := hide hans
      clear hans
      go_wp2
      go_quiet (fail)
      go_wp2_with (refine (HC.out _).mono ?_; rintro e w9 ⟨rfl, rfl⟩)
      go_ret
      exact ⟨by rw [HA.out]; first | rfl | (simp <;> omega), below_drewN (HB.out.trans (below_grown_sl w.heap.size W0 _ os (by rw [HSZ.out]; omega))) _⟩
  · obtain rfl : k = n := by omega
    have hans : brkF r = hanF r := by unfold brkF; rw [HOUT.out (by rw [HK.out]; exact Nat.le_refl _)]
    have HA := hide hans
    clear hans
    go_wp2
    go_quiet (fail)
    go_wp2_with (refine (HC.out _).mono ?_; rintro e w9 ⟨rfl, rfl⟩)
    go_ret
    exact ⟨by rw [HA.out]; first | rfl | (simp <;> omega), below_drewN (HB.out.trans (below_grown_sl w.heap.size W0 _ os (by rw [HSZ.out]; omega))) _⟩
set_option maxRecDepth 100000 in
set_option maxHeartbeats 4000000 in
theorem conjOf_ok (r : Int) (h0 : -2147483648 ≤ r) (h1 : r ≤ 2147483647) (w : World) :
    Calls Tryz.prog 80 #[.int .i32 r] w fun e w' => e = .returned (.int .i64 (conF r)) ∧ Below w.heap.size w w' := by
  have HT := hide conjT_ok
  have hle := cntS_le conjT r
  have hat := fun i (h : i < conjT.length) => tab3_at conjT i h
  obtain ⟨n, hn⟩ : ∃ n, conjT.length = n := ⟨_, rfl⟩
  have hn3 : conjT.length = n := by exact hn
  have hn9 : n < 100000 := by rw [← hn]; exact of_decide_eq_true (by kernel_rfl)
  obtain ⟨tc, htc⟩ : ∃ tc, (tab3 conjT).toArray = tc := ⟨_, rfl⟩
  rw [hn, htc] at HT
  obtain ⟨W0, hW0⟩ : ∃ W0, ((w.alloc (.cells #[.int .i32 r] 21)).alloc (.cells tc 174)).alloc (.cells #[.slice (some ⟨w.heap.size + 1, 0, none⟩) n n] 171) = W0 := ⟨_, rfl⟩
  have hsize : W0.heap.size = w.heap.size + 3 := by rw [← hW0]; simp
  have bx : Blk W0 w.heap.size 21 #[.int .i32 r] := by rw [← hW0]; exact ((Blk.new w _ _).alloc _).alloc _
  have bt : Blk W0 (w.heap.size + 1) 174 tc := by rw [← hW0]; have := (Blk.new (w.alloc (.cells #[.int .i32 r] 21)) 174 tc).alloc (.cells #[.slice (some ⟨w.heap.size + 1, 0, none⟩) n n] 171); simpa using this
  have ba : Blk W0 (w.heap.size + 2) 171 #[.slice (some ⟨w.heap.size + 1, 0, none⟩) n n] := by rw [← hW0]; have := Blk.new ((w.alloc (.cells #[.int .i32 r] 21)).alloc (.cells tc 174)) 171 #[.slice (some ⟨w.heap.size + 1, 0, none⟩) n n]; simpa using this
  have cx : W0.cell? ⟨w.heap.size, 0, none⟩ = some (.int .i32 r) := (bx.cell 0).trans rfl
  have ca : W0.cell? ⟨w.heap.size + 2, 0, none⟩ = some (.slice (some ⟨w.heap.size + 1, 0, none⟩) n n) := (ba.cell 0).trans rfl
  have cc : ∀ i (h : i < conjT.length), W0.cell? ⟨w.heap.size + 1, i * 3 + 1, none⟩ = some (.int .i64 conjT[i].2.1) := fun i h => by
    rw [bt.cell, ← htc, List.getElem?_toArray]; exact (hat i h).2.1
  have cl0 : ∀ i (h : i < conjT.length), W0.cell? ⟨w.heap.size + 1, i * 3, none⟩ = some (.int .i64 conjT[i].1) := fun i h => by
    rw [bt.cell, ← htc, List.getElem?_toArray]; exact (hat i h).1
  have cv : ∀ i (h : i < conjT.length), W0.cell? ⟨w.heap.size + 1, i * 3 + 2, none⟩ = some (.int .i64 conjT[i].2.2) := fun i h => by
    rw [bt.cell, ← htc, List.getElem?_toArray]; exact (hat i h).2.2
  have hS := search_ok 121 3 .i64 (enters_of Tryz.func121 (by kernel_rfl) rfl) conjT conj_sort r W0 (w.heap.size + 2) w.heap.size (w.heap.size + 1) n hn3 hn9
    (fun W i y hi a b c => conjFn_ok _ _ _ n r y i W hi a b c h0 h1) ca cx cc (by omega) (by omega) (by omega)
  have HB : Hid (Below w.heap.size w W0) := hide (by rw [← hW0]; exact (((Below.refl _ w).alloc (Nat.le_refl _) _).alloc (by simp) _).alloc (by simp; omega) _)
  have hin := fun h => atS_in (T := conjT) (r := r) (d := 0) h
  have hout := fun h => atS_out (T := conjT) (r := r) (d := 0) h
  rw [hn3] at hle hout
  obtain ⟨k, hk⟩ : ∃ k, cntS conjT r = k := ⟨_, rfl⟩
  have HIN := hide hin
  have HOUT := hide hout
  have CL := hide cl0
  have HSZ := hide hsize
  have HN3 := hide hn3
  have CV := hide cv
  have HK := hide hk
  rw [hk] at hS hle
  have HS := hide hS
  have HW0 := hide hW0
  clear hin hout hS cc cl0 bx bt ba hW0 hat htc hn hn3 hk hsize cv
  go_enter Tryz.func80, Tryz.ntmps80
  go_wp2_with fail
  refine (HT.out _).mono ?_
  rintro e w1 ⟨rfl, rfl⟩
  go_wp2_with fail
  rw [show (w.heap.size + 1 + 1) = w.heap.size + 2 from rfl, HW0.out]
  refine HS.out.mono ?_
  rintro e w2 ⟨rfl, q, os, rfl⟩
  have hx2 := cell_grown (a := ⟨w.heap.size, 0, none⟩) (show w.heap.size < _ by rw [HSZ.out]; omega) cx q os
  have ha2 := cell_grown (a := ⟨w.heap.size + 2, 0, none⟩) (show w.heap.size + 2 < _ by rw [HSZ.out]; omega) ca q os
  by_cases hkn : k < n
  · have hl2 := cell_grown (a := ⟨w.heap.size + 1, k * 3, none⟩) (show w.heap.size + 1 < _ by rw [HSZ.out]; omega) (CL.out k (by rw [HN3.out]; exact hkn)) q os
    have hlx : ∃ x, conjT[k]'(by rw [HN3.out]; exact hkn) = x := ⟨_, rfl⟩
    obtain ⟨x, hx⟩ := hlx
    rw [hx] at hl2
    have hv2 := cell_grown (a := ⟨w.heap.size + 1, k * 3 + 2, none⟩) (show w.heap.size + 1 < _ by rw [HSZ.out]; omega) (CV.out k (by rw [HN3.out]; exact hkn)) q os
    rw [hx] at hv2
    have HX := hide hx
    have hkn2 : (k : Int) < n := by omega
    have hkn3 : ((k : Int) == (n : Int)) = false := by rw [beq_eq_false_iff_ne]; omega
    clear hx
    by_cases hlo : x.1 ≤ r
    · have hans : conF r = x.2.2 := by unfold conF; rw [HIN.out (by rw [HK.out, HN3.out]; exact hkn)]; simp only [HK.out, HX.out, if_pos hlo]
      have HA := hide hans
      clear hans
      go_wp2
      go_quiet (fail)
      go_wp2
      go_ret
      exact ⟨by rw [HA.out]; first | rfl | (simp <;> omega), below_drewN (HB.out.trans (below_grown_sl w.heap.size W0 _ os (by rw [HSZ.out]; omega))) _⟩
    · have hans : conF r = 0 := by unfold conF; rw [HIN.out (by rw [HK.out, HN3.out]; exact hkn)]; simp only [HK.out, HX.out, if_neg hlo]
      have HA := hide hans
      clear hans
      go_wp2
      go_quiet (fail)
      go_wp2_with (fail)
      go_ret
      exact ⟨by rw [HA.out]; first | rfl | (simp <;> omega), below_drewN (HB.out.trans (below_grown_sl w.heap.size W0 _ os (by rw [HSZ.out]; omega))) _⟩
  · obtain rfl : k = n := by omega
    have hans : conF r = 0 := by unfold conF; rw [HOUT.out (by rw [HK.out]; exact Nat.le_refl _)]
    have HA := hide hans
    clear hans
    go_wp2
    go_quiet (fail)
    go_wp2_with (fail)
    go_ret
    exact ⟨by rw [HA.out]; first | rfl | (simp <;> omega), below_drewN (HB.out.trans (below_grown_sl w.heap.size W0 _ os (by rw [HSZ.out]; omega))) _⟩
set_option maxRecDepth 100000 in
set_option maxHeartbeats 4000000 in
theorem eastOf_ok (r : Int) (h0 : -2147483648 ≤ r) (h1 : r ≤ 2147483647) (w : World) :
    Calls Tryz.prog 81 #[.int .i32 r] w fun e w' => e = .returned (.int .i64 (easF r)) ∧ Below w.heap.size w w' := by
  have HT := hide eastT_ok
  have hle := cntS_le eastT r
  have hat := fun i (h : i < eastT.length) => tab3_at eastT i h
  obtain ⟨n, hn⟩ : ∃ n, eastT.length = n := ⟨_, rfl⟩
  have hn3 : eastT.length = n := by exact hn
  have hn9 : n < 100000 := by rw [← hn]; exact of_decide_eq_true (by kernel_rfl)
  obtain ⟨tc, htc⟩ : ∃ tc, (tab3 eastT).toArray = tc := ⟨_, rfl⟩
  rw [hn, htc] at HT
  obtain ⟨W0, hW0⟩ : ∃ W0, ((w.alloc (.cells #[.int .i32 r] 21)).alloc (.cells tc 174)).alloc (.cells #[.slice (some ⟨w.heap.size + 1, 0, none⟩) n n] 171) = W0 := ⟨_, rfl⟩
  have hsize : W0.heap.size = w.heap.size + 3 := by rw [← hW0]; simp
  have bx : Blk W0 w.heap.size 21 #[.int .i32 r] := by rw [← hW0]; exact ((Blk.new w _ _).alloc _).alloc _
  have bt : Blk W0 (w.heap.size + 1) 174 tc := by rw [← hW0]; have := (Blk.new (w.alloc (.cells #[.int .i32 r] 21)) 174 tc).alloc (.cells #[.slice (some ⟨w.heap.size + 1, 0, none⟩) n n] 171); simpa using this
  have ba : Blk W0 (w.heap.size + 2) 171 #[.slice (some ⟨w.heap.size + 1, 0, none⟩) n n] := by rw [← hW0]; have := Blk.new ((w.alloc (.cells #[.int .i32 r] 21)).alloc (.cells tc 174)) 171 #[.slice (some ⟨w.heap.size + 1, 0, none⟩) n n]; simpa using this
  have cx : W0.cell? ⟨w.heap.size, 0, none⟩ = some (.int .i32 r) := (bx.cell 0).trans rfl
  have ca : W0.cell? ⟨w.heap.size + 2, 0, none⟩ = some (.slice (some ⟨w.heap.size + 1, 0, none⟩) n n) := (ba.cell 0).trans rfl
  have cc : ∀ i (h : i < eastT.length), W0.cell? ⟨w.heap.size + 1, i * 3 + 1, none⟩ = some (.int .i64 eastT[i].2.1) := fun i h => by
    rw [bt.cell, ← htc, List.getElem?_toArray]; exact (hat i h).2.1
  have cl0 : ∀ i (h : i < eastT.length), W0.cell? ⟨w.heap.size + 1, i * 3, none⟩ = some (.int .i64 eastT[i].1) := fun i h => by
    rw [bt.cell, ← htc, List.getElem?_toArray]; exact (hat i h).1
  have cv : ∀ i (h : i < eastT.length), W0.cell? ⟨w.heap.size + 1, i * 3 + 2, none⟩ = some (.int .i64 eastT[i].2.2) := fun i h => by
    rw [bt.cell, ← htc, List.getElem?_toArray]; exact (hat i h).2.2
  have hS := search_ok 123 3 .i64 (enters_of Tryz.func123 (by kernel_rfl) rfl) eastT east_sort r W0 (w.heap.size + 2) w.heap.size (w.heap.size + 1) n hn3 hn9
    (fun W i y hi a b c => eastFn_ok _ _ _ n r y i W hi a b c h0 h1) ca cx cc (by omega) (by omega) (by omega)
  have HB : Hid (Below w.heap.size w W0) := hide (by rw [← hW0]; exact (((Below.refl _ w).alloc (Nat.le_refl _) _).alloc (by simp) _).alloc (by simp; omega) _)
  have hin := fun h => atS_in (T := eastT) (r := r) (d := 0) h
  have hout := fun h => atS_out (T := eastT) (r := r) (d := 0) h
  rw [hn3] at hle hout
  obtain ⟨k, hk⟩ : ∃ k, cntS eastT r = k := ⟨_, rfl⟩
  have HIN := hide hin
  have HOUT := hide hout
  have CL := hide cl0
  have HSZ := hide hsize
  have HN3 := hide hn3
  have CV := hide cv
  have HK := hide hk
  rw [hk] at hS hle
  have HS := hide hS
  have HW0 := hide hW0
  clear hin hout hS cc cl0 bx bt ba hW0 hat htc hn hn3 hk hsize cv
  go_enter Tryz.func81, Tryz.ntmps81
  go_wp2_with fail
  refine (HT.out _).mono ?_
  rintro e w1 ⟨rfl, rfl⟩
  go_wp2_with fail
  rw [show (w.heap.size + 1 + 1) = w.heap.size + 2 from rfl, HW0.out]
  refine HS.out.mono ?_
  rintro e w2 ⟨rfl, q, os, rfl⟩
  have hx2 := cell_grown (a := ⟨w.heap.size, 0, none⟩) (show w.heap.size < _ by rw [HSZ.out]; omega) cx q os
  have ha2 := cell_grown (a := ⟨w.heap.size + 2, 0, none⟩) (show w.heap.size + 2 < _ by rw [HSZ.out]; omega) ca q os
  by_cases hkn : k < n
  · have hl2 := cell_grown (a := ⟨w.heap.size + 1, k * 3, none⟩) (show w.heap.size + 1 < _ by rw [HSZ.out]; omega) (CL.out k (by rw [HN3.out]; exact hkn)) q os
    have hlx : ∃ x, eastT[k]'(by rw [HN3.out]; exact hkn) = x := ⟨_, rfl⟩
    obtain ⟨x, hx⟩ := hlx
    rw [hx] at hl2
    have hv2 := cell_grown (a := ⟨w.heap.size + 1, k * 3 + 2, none⟩) (show w.heap.size + 1 < _ by rw [HSZ.out]; omega) (CV.out k (by rw [HN3.out]; exact hkn)) q os
    rw [hx] at hv2
    have HX := hide hx
    have hkn2 : (k : Int) < n := by omega
    have hkn3 : ((k : Int) == (n : Int)) = false := by rw [beq_eq_false_iff_ne]; omega
    clear hx
    by_cases hlo : x.1 ≤ r
    · have hans : easF r = x.2.2 := by unfold easF; rw [HIN.out (by rw [HK.out, HN3.out]; exact hkn)]; simp only [HK.out, HX.out, if_pos hlo]
      have HA := hide hans
      clear hans
      go_wp2
      go_quiet (fail)
      go_wp2
      go_ret
      exact ⟨by rw [HA.out]; first | rfl | (simp <;> omega), below_drewN (HB.out.trans (below_grown_sl w.heap.size W0 _ os (by rw [HSZ.out]; omega))) _⟩
    · have hans : easF r = 0 := by unfold easF; rw [HIN.out (by rw [HK.out, HN3.out]; exact hkn)]; simp only [HK.out, HX.out, if_neg hlo]
      have HA := hide hans
      clear hans
      go_wp2
      go_quiet (fail)
      go_wp2_with (fail)
      go_ret
      exact ⟨by rw [HA.out]; first | rfl | (simp <;> omega), below_drewN (HB.out.trans (below_grown_sl w.heap.size W0 _ os (by rw [HSZ.out]; omega))) _⟩
  · obtain rfl : k = n := by omega
    have hans : easF r = 0 := by unfold easF; rw [HOUT.out (by rw [HK.out]; exact Nat.le_refl _)]
    have HA := hide hans
    clear hans
    go_wp2
    go_quiet (fail)
    go_wp2_with (fail)
    go_ret
    exact ⟨by rw [HA.out]; first | rfl | (simp <;> omega), below_drewN (HB.out.trans (below_grown_sl w.heap.size W0 _ os (by rw [HSZ.out]; omega))) _⟩
set_option maxRecDepth 100000 in
set_option maxHeartbeats 4000000 in
theorem pictIs_ok (r : Int) (h0 : -2147483648 ≤ r) (h1 : r ≤ 2147483647) (w : World) :
    Calls Tryz.prog 79 #[.int .i32 r] w fun e w' => e = .returned (.bool (picF r)) ∧ Below w.heap.size w w' := by
  have HT := hide pictT_ok
  have hle := cntS_le pict3 r
  have hat := fun i (h : i < pictT.length) => tab2_at .i32 pictT i h
  obtain ⟨n, hn⟩ : ∃ n, pictT.length = n := ⟨_, rfl⟩
  have hn3 : pict3.length = n := by rw [← hn]; simp [pict3]
  have hn9 : n < 100000 := by rw [← hn]; exact of_decide_eq_true (by kernel_rfl)
  obtain ⟨tc, htc⟩ : ∃ tc, (tab2 .i32 pictT).toArray = tc := ⟨_, rfl⟩
  rw [hn, htc] at HT
  obtain ⟨W0, hW0⟩ : ∃ W0, ((w.alloc (.cells #[.int .i32 r] 21)).alloc (.cells tc 177)).alloc (.cells #[.slice (some ⟨w.heap.size + 1, 0, none⟩) n n] 175) = W0 := ⟨_, rfl⟩
  have hsize : W0.heap.size = w.heap.size + 3 := by rw [← hW0]; simp
  have bx : Blk W0 w.heap.size 21 #[.int .i32 r] := by rw [← hW0]; exact ((Blk.new w _ _).alloc _).alloc _
  have bt : Blk W0 (w.heap.size + 1) 177 tc := by rw [← hW0]; have := (Blk.new (w.alloc (.cells #[.int .i32 r] 21)) 177 tc).alloc (.cells #[.slice (some ⟨w.heap.size + 1, 0, none⟩) n n] 175); simpa using this
  have ba : Blk W0 (w.heap.size + 2) 175 #[.slice (some ⟨w.heap.size + 1, 0, none⟩) n n] := by rw [← hW0]; have := Blk.new ((w.alloc (.cells #[.int .i32 r] 21)).alloc (.cells tc 177)) 175 #[.slice (some ⟨w.heap.size + 1, 0, none⟩) n n]; simpa using this
  have cx : W0.cell? ⟨w.heap.size, 0, none⟩ = some (.int .i32 r) := (bx.cell 0).trans rfl
  have ca : W0.cell? ⟨w.heap.size + 2, 0, none⟩ = some (.slice (some ⟨w.heap.size + 1, 0, none⟩) n n) := (ba.cell 0).trans rfl
  have cc : ∀ i (h : i < pict3.length), W0.cell? ⟨w.heap.size + 1, i * 2 + 1, none⟩ = some (.int .i32 pict3[i].2.1) := fun i h => by
    rw [bt.cell, ← htc, List.getElem?_toArray]; rw [(hat i (by simpa [pict3] using h)).2]; simp [pict3]
  have cl0 : ∀ i (h : i < pict3.length), W0.cell? ⟨w.heap.size + 1, i * 2, none⟩ = some (.int .i32 pict3[i].1) := fun i h => by
    rw [bt.cell, ← htc, List.getElem?_toArray]; rw [(hat i (by simpa [pict3] using h)).1]; simp [pict3]
  have P1 : Hid (∀ x ∈ pict3, x.2.2 = 1) := hide (fun x hx => by obtain ⟨y, _, rfl⟩ := List.mem_map.1 hx; rfl)
  have hS := search_ok 119 2 .i32 (enters_of Tryz.func119 (by kernel_rfl) rfl) pict3 pict_sort r W0 (w.heap.size + 2) w.heap.size (w.heap.size + 1) n hn3 hn9
    (fun W i y hi a b c => pictFn_ok _ _ _ n r y i W hi a b c h0 h1) ca cx cc (by omega) (by omega) (by omega)
  have HB : Hid (Below w.heap.size w W0) := hide (by rw [← hW0]; exact (((Below.refl _ w).alloc (Nat.le_refl _) _).alloc (by simp) _).alloc (by simp; omega) _)
  have hin := fun h => atS_in (T := pict3) (r := r) (d := 0) h
  have hout := fun h => atS_out (T := pict3) (r := r) (d := 0) h
  rw [hn3] at hle hout
  obtain ⟨k, hk⟩ : ∃ k, cntS pict3 r = k := ⟨_, rfl⟩
  have HIN := hide hin
  have HOUT := hide hout
  have CL := hide cl0
  have HSZ := hide hsize
  have HN3 := hide hn3
  have HK := hide hk
  rw [hk] at hS hle
  have HS := hide hS
  have HW0 := hide hW0
  clear hin hout hS cc cl0 bx bt ba hW0 hat htc hn hn3 hk hsize
  go_enter Tryz.func79, Tryz.ntmps79
  go_wp2_with fail
  refine (HT.out _).mono ?_
  rintro e w1 ⟨rfl, rfl⟩
  go_wp2_with fail
  rw [show (w.heap.size + 1 + 1) = w.heap.size + 2 from rfl, HW0.out]
  refine HS.out.mono ?_
  rintro e w2 ⟨rfl, q, os, rfl⟩
  have hx2 := cell_grown (a := ⟨w.heap.size, 0, none⟩) (show w.heap.size < _ by rw [HSZ.out]; omega) cx q os
  have ha2 := cell_grown (a := ⟨w.heap.size + 2, 0, none⟩) (show w.heap.size + 2 < _ by rw [HSZ.out]; omega) ca q os
  by_cases hkn : k < n
  · have hl2 := cell_grown (a := ⟨w.heap.size + 1, k * 2, none⟩) (show w.heap.size + 1 < _ by rw [HSZ.out]; omega) (CL.out k (by rw [HN3.out]; exact hkn)) q os
    have hlx : ∃ x, pict3[k]'(by rw [HN3.out]; exact hkn) = x := ⟨_, rfl⟩
    obtain ⟨x, hx⟩ := hlx
    rw [hx] at hl2
    have hone : x.2.2 = 1 := P1.out x (by rw [← hx]; exact List.getElem_mem _)
    have HX := hide hx
    have hkn2 : (k : Int) < n := by omega
    have hkn3 : ((k : Int) == (n : Int)) = false := by rw [beq_eq_false_iff_ne]; omega
    clear hx
    by_cases hlo : x.1 ≤ r
    · have hans : picF r = true := by unfold picF; rw [HIN.out (by rw [HK.out, HN3.out]; exact hkn)]; simp only [HK.out, HX.out, if_pos hlo]; rw [hone]; rfl
      have HA := hide hans
      clear hans
      go_wp2
      go_quiet (fail)
      go_wp2
      go_ret
      exact ⟨by rw [HA.out]; first | rfl | (simp <;> omega), below_drewN (HB.out.trans (below_grown_sl w.heap.size W0 _ os (by rw [HSZ.out]; omega))) _⟩
    · have hans : picF r = false := by unfold picF; rw [HIN.out (by rw [HK.out, HN3.out]; exact hkn)]; simp only [HK.out, HX.out, if_neg hlo]; rfl
      have HA := hide hans
      clear hans
      go_wp2
      go_quiet (fail)
      go_wp2_with (fail)
      go_ret
      exact ⟨by rw [HA.out]; first | rfl | (simp <;> omega), below_drewN (HB.out.trans (below_grown_sl w.heap.size W0 _ os (by rw [HSZ.out]; omega))) _⟩
  · obtain rfl : k = n := by omega
    have hans : picF r = false := by unfold picF; rw [HOUT.out (by rw [HK.out]; exact Nat.le_refl _)]; rfl
    have HA := hide hans
    clear hans
    go_wp2
    go_quiet (fail)
    go_wp2_with (fail)
    go_ret
    exact ⟨by rw [HA.out]; first | rfl | (simp <;> omega), below_drewN (HB.out.trans (below_grown_sl w.heap.size W0 _ os (by rw [HSZ.out]; omega))) _⟩
end Go.Proofs.YtdjpdllehhecpaaGreatDoor
namespace Go.Proofs.YtdjpdllehhecpaaGreatDoor
open Go.RowKit
set_option linter.unusedVariables false
set_option linter.unusedSimpArgs false
def propL (p : PropV) : List Value := [.int .i64 p.brk, .bool p.pict, .int .i64 p.conj, .int .i64 p.east]
def propA (p : PropV) : Value := .agg (propL p).toArray
set_option maxHeartbeats 1000000 in
theorem ucdOf_ok (r : Int) (h0 : -2147483648 ≤ r) (h1 : r ≤ 2147483647) (w : World) :
    Calls Tryz.prog 47 #[.int .i32 r] w fun e w' => e = .returned (propA (propF r)) ∧ Below w.heap.size w w' := by
  have H0 := hide (gcbOf_ok r h0 h1)
  have H1 := hide (pictIs_ok r h0 h1)
  have H2 := hide (conjOf_ok r h0 h1)
  have H3 := hide (eastOf_ok r h0 h1)
  have bn := Blk.new w 108 #[.int .i64 0, .bool false, .int .i64 0, .int .i64 0]
  have hb0 := (Below.refl w.heap.size w).alloc (Nat.le_refl _) (.cells #[.int .i64 0, .bool false, .int .i64 0, .int .i64 0] 108)
  have BN := hide bn
  have HB0 := hide hb0
  clear bn hb0
  go_enter Tryz.func47, Tryz.ntmps47
  go_wp2_with fail
  refine (H0.out _).mono ?_
  rintro e w1 ⟨rfl, hb1⟩
  go_wp2_with fail
  refine (H1.out _).mono ?_
  rintro e w2 ⟨rfl, hb2⟩
  go_wp2_with fail
  refine (H2.out _).mono ?_
  rintro e w3 ⟨rfl, hb3⟩
  go_wp2_with fail
  refine (H3.out _).mono ?_
  rintro e w4 ⟨rfl, hb4⟩
  have b1 := BN.out.same hb1
  have b2 := b1.same hb2
  have b3 := b2.same hb3
  have b4 := b3.same hb4
  have c0 := b4.cell 0
  have c1 := b4.cell 1
  have c2 := b4.cell 2
  have c3 := b4.cell 3
  have f0 := b4.frozen 0
  have f1 := b4.frozen 1
  have f2 := b4.frozen 2
  have f3 := b4.frozen 3
  simp only [zA, zB, zC] at c0 c1 c2 c3
  have hz1 := hb1.size
  have hz2 := hb2.size
  have hz3 := hb3.size
  simp only [World.size_alloc] at hz1
  have HB4 := hide (HB0.out.trans ((hb1.mono (by simp)).trans ((hb2.mono (by omega)).trans ((hb3.mono (by omega)).trans (hb4.mono (by omega))))))
  have B4 := hide b4
  have Z4 : Hid (w.heap.size ≤ w4.heap.size) := hide (by have := hb4.size; omega)
  clear b1 b2 b3 b4 hb1 hb2 hb3 hb4 hz1 hz2 hz3
  go_wp2
  have b5 := ((((B4.out).set_ 0 (.int .i64 (brkF r))).set_ 1 (.bool (picF r))).set_ 2 (.int .i64 (conF r))).set_ 3 (.int .i64 (easF r))
  have x0 := b5.cell 0
  have x1 := b5.cell 1
  have x2 := b5.cell 2
  have x3 := b5.cell 3
  simp only [zD, zE, zF, zA, zB, zC] at x0 x1 x2 x3
  have hst : Step w.heap.size [108] w4 _ := ((((Step.refl w.heap.size [108] w4).setCell (p := ⟨w.heap.size, 0, none⟩) (Nat.le_refl _) B4.out.bears (.int .i64 (brkF r))).setCell (p := ⟨w.heap.size, 1, none⟩) (Nat.le_refl _) (B4.out.set_ 0 _).bears (.bool (picF r))).setCell (p := ⟨w.heap.size, 2, none⟩) (Nat.le_refl _) ((B4.out.set_ 0 _).set_ 1 _).bears (.int .i64 (conF r))).setCell (p := ⟨w.heap.size, 3, none⟩) (Nat.le_refl _) (((B4.out.set_ 0 _).set_ 1 _).set_ 2 _).bears (.int .i64 (easF r))
  refine bodyPost_ret (v := .agg #[.int .i64 (brkF r), .bool (picF r), .int .i64 (conF r), .int .i64 (easF r)]) (by simp [results, Tryz.results47, go_sem, x0, x1, x2, x3]) rfl ⟨rfl, HB4.out.trans (hst.below Z4.out)⟩
set_option maxHeartbeats 1000000 in
theorem rOf13_ok (r : Int) (h0 : -2147483648 ≤ r) (h1 : r ≤ 2147483647) (w : World) :
    Calls Tryz.prog 109 #[.int .i32 r] w fun e w' => e = .returned (propA (propF r)) ∧ Below w.heap.size w w' := by
  have H0 := hide (rOf9_ok r h0 h1)
  have H1 := hide (rIs10_ok r h0 h1)
  have H2 := hide (rOf11_ok r h0 h1)
  have H3 := hide (rOf12_ok r h0 h1)
  have bn := Blk.new w 108 #[.int .i64 0, .bool false, .int .i64 0, .int .i64 0]
  have hb0 := (Below.refl w.heap.size w).alloc (Nat.le_refl _) (.cells #[.int .i64 0, .bool false, .int .i64 0, .int .i64 0] 108)
  have BN := hide bn
  have HB0 := hide hb0
  clear bn hb0
  go_enter Tryz.func109, Tryz.ntmps109
  go_wp2_with fail
  refine (H0.out _).mono ?_
  rintro e w1 ⟨rfl, hb1⟩
  go_wp2_with fail
  refine (H1.out _).mono ?_
  rintro e w2 ⟨rfl, hb2⟩
  go_wp2_with fail
  refine (H2.out _).mono ?_
  rintro e w3 ⟨rfl, hb3⟩
  go_wp2_with fail
  refine (H3.out _).mono ?_
  rintro e w4 ⟨rfl, hb4⟩
  have b1 := BN.out.same hb1
  have b2 := b1.same hb2
  have b3 := b2.same hb3
  have b4 := b3.same hb4
  have c0 := b4.cell 0
  have c1 := b4.cell 1
  have c2 := b4.cell 2
  have c3 := b4.cell 3
  have f0 := b4.frozen 0
  have f1 := b4.frozen 1
  have f2 := b4.frozen 2
  have f3 := b4.frozen 3
  simp only [zA, zB, zC] at c0 c1 c2 c3
  have hz1 := hb1.size
  have hz2 := hb2.size
  have hz3 := hb3.size
  simp only [World.size_alloc] at hz1
  have HB4 := hide (HB0.out.trans ((hb1.mono (by simp)).trans ((hb2.mono (by omega)).trans ((hb3.mono (by omega)).trans (hb4.mono (by omega))))))
  have B4 := hide b4
  have Z4 : Hid (w.heap.size ≤ w4.heap.size) := hide (by have := hb4.size; omega)
  clear b1 b2 b3 b4 hb1 hb2 hb3 hb4 hz1 hz2 hz3
  go_wp2
  have b5 := ((((B4.out).set_ 0 (.int .i64 (brkF r))).set_ 1 (.bool (picF r))).set_ 2 (.int .i64 (conF r))).set_ 3 (.int .i64 (easF r))
  have x0 := b5.cell 0
  have x1 := b5.cell 1
  have x2 := b5.cell 2
  have x3 := b5.cell 3
  simp only [zD, zE, zF, zA, zB, zC] at x0 x1 x2 x3
  have hst : Step w.heap.size [108] w4 _ := ((((Step.refl w.heap.size [108] w4).setCell (p := ⟨w.heap.size, 0, none⟩) (Nat.le_refl _) B4.out.bears (.int .i64 (brkF r))).setCell (p := ⟨w.heap.size, 1, none⟩) (Nat.le_refl _) (B4.out.set_ 0 _).bears (.bool (picF r))).setCell (p := ⟨w.heap.size, 2, none⟩) (Nat.le_refl _) ((B4.out.set_ 0 _).set_ 1 _).bears (.int .i64 (conF r))).setCell (p := ⟨w.heap.size, 3, none⟩) (Nat.le_refl _) (((B4.out.set_ 0 _).set_ 1 _).set_ 2 _).bears (.int .i64 (easF r))
  refine bodyPost_ret (v := .agg #[.int .i64 (brkF r), .bool (picF r), .int .i64 (conF r), .int .i64 (easF r)]) (by simp [results, Tryz.results109, go_sem, x0, x1, x2, x3]) rfl ⟨rfl, HB4.out.trans (hst.below Z4.out)⟩
end Go.Proofs.YtdjpdllehhecpaaGreatDoor
