import Derived.Test.YtdjpdllehhecpaaGreatDoorQ27
import Derived.Test.YtdjpdllehhecpaaGreatDoorQ10
import Derived.Test.YtdjpdllehhecpaaGreatDoorQ07
import Derived.Test.YtdjpdllehhecpaaGreatDoorQ29
import Derived.Deep.Cut
import Derived.RegionTactic
import Derived.Test.YtdjpdllehhecpaaGreatDoorQ16
open List renaming getElem?_toArray → zA, getElem?_cons_succ → zB, getElem?_cons_zero → zC, setIfInBounds_toArray → zD, set_cons_zero → zE, set_cons_succ → zF
namespace Go.Proofs.YtdjpdllehhecpaaGreatDoor
open Go.RowKit
set_option linter.unusedVariables false
set_option linter.unusedSimpArgs false
theorem bn_0 (w : World) : exF Tryz.prog 1 207 #[.int .i64 0] w = some (.bool (noneF 0), w) := by kernel_rfl
theorem bn_1 (w : World) : exF Tryz.prog 1 207 #[.int .i64 1] w = some (.bool (noneF 1), w) := by kernel_rfl
theorem bn_2 (w : World) : exF Tryz.prog 1 207 #[.int .i64 2] w = some (.bool (noneF 2), w) := by kernel_rfl
theorem bn_3 (w : World) : exF Tryz.prog 1 207 #[.int .i64 3] w = some (.bool (noneF 3), w) := by kernel_rfl
theorem bn_4 (w : World) : exF Tryz.prog 1 207 #[.int .i64 4] w = some (.bool (noneF 4), w) := by kernel_rfl
theorem bn_5 (w : World) : exF Tryz.prog 1 207 #[.int .i64 5] w = some (.bool (noneF 5), w) := by kernel_rfl
theorem bn_6 (w : World) : exF Tryz.prog 1 207 #[.int .i64 6] w = some (.bool (noneF 6), w) := by kernel_rfl
theorem bn_7 (w : World) : exF Tryz.prog 1 207 #[.int .i64 7] w = some (.bool (noneF 7), w) := by kernel_rfl
theorem bn_8 (w : World) : exF Tryz.prog 1 207 #[.int .i64 8] w = some (.bool (noneF 8), w) := by kernel_rfl
theorem bn_9 (w : World) : exF Tryz.prog 1 207 #[.int .i64 9] w = some (.bool (noneF 9), w) := by kernel_rfl
theorem bn_10 (w : World) : exF Tryz.prog 1 207 #[.int .i64 10] w = some (.bool (noneF 10), w) := by kernel_rfl
theorem bn_11 (w : World) : exF Tryz.prog 1 207 #[.int .i64 11] w = some (.bool (noneF 11), w) := by kernel_rfl
theorem bn_12 (w : World) : exF Tryz.prog 1 207 #[.int .i64 12] w = some (.bool (noneF 12), w) := by kernel_rfl
theorem bn_13 (w : World) : exF Tryz.prog 1 207 #[.int .i64 13] w = some (.bool (noneF 13), w) := by kernel_rfl
theorem bnone_ok (c : Int) (h0 : 0 ≤ c) (h1 : c ≤ 13) (w : World) :
    Calls Tryz.prog 207 #[.int .i64 c] w fun e w' => e = .returned (.bool (noneF c)) ∧ w = w' := by
  rcases (by omega : c = 0 ∨ c = 1 ∨ c = 2 ∨ c = 3 ∨ c = 4 ∨ c = 5 ∨ c = 6 ∨ c = 7 ∨ c = 8 ∨ c = 9 ∨ c = 10 ∨ c = 11 ∨ c = 12 ∨ c = 13) with rfl | rfl | rfl | rfl | rfl | rfl | rfl | rfl | rfl | rfl | rfl | rfl | rfl | rfl
  · exact calls_ex 1 bn_0
  · exact calls_ex 1 bn_1
  · exact calls_ex 1 bn_2
  · exact calls_ex 1 bn_3
  · exact calls_ex 1 bn_4
  · exact calls_ex 1 bn_5
  · exact calls_ex 1 bn_6
  · exact calls_ex 1 bn_7
  · exact calls_ex 1 bn_8
  · exact calls_ex 1 bn_9
  · exact calls_ex 1 bn_10
  · exact calls_ex 1 bn_11
  · exact calls_ex 1 bn_12
  · exact calls_ex 1 bn_13
theorem bOf_ok (p : PropV) (h0 : 0 ≤ p.brk) (h1 : p.brk ≤ 13) (w : World) :
    Calls Tryz.prog 206 #[propA p] w fun e w' => e = .returned (.int .i64 (baseF p)) ∧ Below w.heap.size w w' := by
  have HN := hide (bnone_ok p.brk h0 h1)
  have hB := Blk.new w 108 (propL p).toArray
  have hb := (Below.refl w.heap.size w).alloc (Nat.le_refl _) (.cells (propL p).toArray 108)
  obtain ⟨brk, pict, conj, east⟩ := p
  simp only at HN h0 h1
  unfold propA
  simp only [propL] at hB hb ⊢
  have c0 := hB.cell 0
  have c3 := hB.cell 3
  simp only [zA, zB, zC] at c0 c3
  have HB := hide hb
  clear hB hb
  cases hn : noneF brk with
  | true =>
    have HV : Hid (baseF ⟨brk, pict, conj, east⟩ = 0) := hide (by unfold baseF; simp only [hn]; rfl)
    rw [hn] at HN
    clear hn
    go_enter Tryz.func206, Tryz.ntmps206
    go_wp2_with fail
    refine (HN.out _).mono ?_
    rintro e w1 ⟨rfl, rfl⟩
    go_wp2
    go_ret
    exact ⟨by rw [HV.out]; rfl, HB.out⟩
  | false =>
    rcases (by omega : east = 1 ∨ east = 2 ∨ (¬ east = 1 ∧ ¬ east = 2)) with rfl | rfl | ⟨n1, n2⟩
    · have HV : Hid (baseF ⟨brk, pict, conj, 1⟩ = 2) := hide (by unfold baseF; simp only [hn]; rfl)
      rw [hn] at HN
      clear hn
      go_enter Tryz.func206, Tryz.ntmps206
      go_wp2_with fail
      refine (HN.out _).mono ?_
      rintro e w1 ⟨rfl, rfl⟩
      go_wp2
      go_ret
      exact ⟨by rw [HV.out]; rfl, HB.out⟩
    · have HV : Hid (baseF ⟨brk, pict, conj, 2⟩ = 2) := hide (by unfold baseF; simp only [hn]; rfl)
      rw [hn] at HN
      clear hn
      go_enter Tryz.func206, Tryz.ntmps206
      go_wp2_with fail
      refine (HN.out _).mono ?_
      rintro e w1 ⟨rfl, rfl⟩
      go_wp2
      go_ret
      exact ⟨by rw [HV.out]; rfl, HB.out⟩
    · have HV : Hid (baseF ⟨brk, pict, conj, east⟩ = 1) := hide (by unfold baseF; simp [hn, n1, n2])
      have m1 : (east == 1) = false := by simpa using n1
      have m2 : (east == 2) = false := by simpa using n2
      rw [hn] at HN
      clear hn n1 n2
      go_enter Tryz.func206, Tryz.ntmps206
      go_wp2_with fail
      refine (HN.out _).mono ?_
      rintro e w1 ⟨rfl, rfl⟩
      go_wp2
      go_ret
      exact ⟨by rw [HV.out]; rfl, HB.out⟩
set_option maxHeartbeats 1000000 in
theorem bsil_ok (r : Int) (w : World) :
    Calls Tryz.prog 21 #[.int .i32 r] w fun e w' => e = .returned (.bool (silF r)) ∧ w = w' := by
  rcases sil_case r with h | ⟨h, h2⟩ | ⟨h, h2⟩ | ⟨h, h2⟩ | h
  · have d0 : decide (0 ≤ r) = false := decide_eq_false (by omega)
    have d2 : decide (127 ≤ r) = false := decide_eq_false (by omega)
    have hv : silF r = false := by unfold silF; rw [d0, d2]; rfl
    rw [hv]
    clear hv
    go_enter Tryz.func21, Tryz.ntmps21
    go_wp2
    go_ret
    exact ⟨by first | rfl | (simp <;> omega), rfl⟩
  · have d1 : r < 32 := by omega
    have hv : silF r = true := by unfold silF; rw [decide_eq_true h, decide_eq_true h2]; rfl
    rw [hv]
    clear hv
    go_enter Tryz.func21, Tryz.ntmps21
    go_wp2
    go_ret
    exact ⟨by first | rfl | (simp <;> omega), rfl⟩
  · have d0 : (0 : Int) ≤ r := by omega
    have d1 : decide (r < 32) = false := decide_eq_false (by omega)
    have d2 : decide (127 ≤ r) = false := decide_eq_false (by omega)
    have d3 : decide (r ≤ 31) = false := decide_eq_false (by omega)
    have hv : silF r = false := by unfold silF; rw [d3, d2]; simp
    rw [hv]
    clear hv
    go_enter Tryz.func21, Tryz.ntmps21
    go_wp2
    go_ret
    exact ⟨by first | rfl | (simp <;> omega), rfl⟩
  · have d0 : (0 : Int) ≤ r := by omega
    have d1 : decide (r < 32) = false := decide_eq_false (by omega)
    have hv : silF r = true := by unfold silF; rw [decide_eq_true h, decide_eq_true h2]; simp
    rw [hv]
    clear hv
    go_enter Tryz.func21, Tryz.ntmps21
    go_wp2
    go_ret
    exact ⟨by first | rfl | (simp <;> omega), rfl⟩
  · have d0 : (0 : Int) ≤ r := by omega
    have d1 : decide (r < 32) = false := decide_eq_false (by omega)
    have d2 : (127 : Int) ≤ r := by omega
    have d3 : decide (r ≤ 159) = false := decide_eq_false (by omega)
    have d4 : decide (r ≤ 31) = false := decide_eq_false (by omega)
    have hv : silF r = false := by unfold silF; rw [d4, d3]; simp
    rw [hv]
    clear hv
    go_enter Tryz.func21, Tryz.ntmps21
    go_wp2
    go_ret
    exact ⟨by first | rfl | (simp <;> omega), rfl⟩
def gauC (v : GaugeV) : List Value := [.bool v.some, .bool v.pict, .bool v.wide]
def GauAt (w : World) (g o : Nat) (v : GaugeV) : Prop := (w.cell? ⟨g, o, none⟩ = some (.bool v.some) ∧ w.cell? ⟨g, o + 1, none⟩ = some (.bool v.pict) ∧ w.cell? ⟨g, o + 2, none⟩ = some (.bool v.wide))
set_option maxHeartbeats 2000000 in
theorem gwidens_ok (g o : Nat) (v : GaugeV) (r : Int) (p : PropV) (h0 : 0 ≤ p.brk) (h1 : p.brk ≤ 13) (w : World) (hg : GauAt w g o v) :
    Calls Tryz.prog 201 #[.pointer (some ⟨g, o, none⟩), .int .i32 r, propA p] w fun e w' => e = .returned (.bool (widensF v r p)) ∧ Below w.heap.size w w' := by
  have HB := hide (fun W => bOf_ok p h0 h1 W)
  obtain ⟨x0, x1, x2⟩ := hg
  have hlt : g < w.heap.size := World.block_lt_of_cell? w _ x0
  have hW : Blk (w.alloc (.cells (propL p).toArray 108)) w.heap.size 108 (propL p).toArray := Blk.new w _ _
  have hb := (Below.refl w.heap.size w).alloc (Nat.le_refl _) (.cells (propL p).toArray 108)
  have HX : Hid (w.cell? ⟨g, o, none⟩ = some (.bool v.some) ∧ w.cell? ⟨g, o + 1, none⟩ = some (.bool v.pict) ∧ w.cell? ⟨g, o + 2, none⟩ = some (.bool v.wide)) := hide ⟨x0, x1, x2⟩
  clear x0 x1 x2
  have HBK := hide hW
  have HBL := hide hb
  clear hW hb
  obtain ⟨brk, pict, conj, east⟩ := p
  obtain ⟨vs, vp, vw⟩ := v
  simp only at h0 h1 HX
  unfold propA at HB ⊢
  simp only [propL] at HB HBK HBL ⊢
  obtain ⟨bv, hbv⟩ : ∃ bv, baseF ⟨brk, pict, conj, east⟩ = bv := ⟨_, rfl⟩
  obtain ⟨ans, hans⟩ : ∃ ans, widensF ⟨vs, vp, vw⟩ r ⟨brk, pict, conj, east⟩ = ans := ⟨_, rfl⟩
  have hans2 : (if bv = 2 then true else if vs = false then false else (decide (r = 65039) && vp) || pict || decide (brk = 6)) = ans := by rw [← hans]; unfold widensF; rw [hbv]
  rw [hans]
  rw [hbv] at HB
  have HA := hide hans2
  clear hans hans2 hbv
  have call : ∀ (W : World), True := fun _ => trivial
  by_cases hb2 : bv = 2
  · subst hb2
    have HE : Hid (true = ans) := hide (by rw [← HA.out]; simp)
    go_enter Tryz.func201, Tryz.ntmps201
    have c0 := HBK.out.cell 0
    have c1 := HBK.out.cell 1
    have c2 := HBK.out.cell 2
    have c3 := HBK.out.cell 3
    simp only [zA, zB, zC] at c0 c1 c2 c3
    go_wp2_with fail
    refine (HB.out _).mono ?_
    rintro e w1 ⟨rfl, hb1⟩
    go_wp2
    go_ret
    exact ⟨by rw [← HE.out]; rfl, HBL.out.trans (hb1.mono HBL.out.size)⟩
  · have m2 : (bv == 2) = false := by simpa using hb2
    cases vs with
    | false =>
      have HE : Hid (false = ans) := hide (by rw [← HA.out]; simp [hb2])
      go_enter Tryz.func201, Tryz.ntmps201
      have c0 := HBK.out.cell 0
      have c1 := HBK.out.cell 1
      have c2 := HBK.out.cell 2
      have c3 := HBK.out.cell 3
      simp only [zA, zB, zC] at c0 c1 c2 c3
      clear hb2
      go_wp2_with fail
      refine (HB.out _).mono ?_
      rintro e w1 ⟨rfl, hb1⟩
      have hbw := HBL.out.trans (hb1.mono HBL.out.size)
      have y0 := (hbw.cell (p := ⟨g, o, none⟩) hlt).trans HX.out.1
      have HBW := hide hbw
      clear hbw c0 c1 c2 c3
      go_wp2
      go_ret
      exact ⟨by rw [← HE.out]; rfl, HBW.out⟩
    | true =>
      have HE : Hid (((decide (r = 65039) && vp) || pict || decide (brk = 6)) = ans) := hide (by rw [← HA.out]; simp [hb2])
      go_enter Tryz.func201, Tryz.ntmps201
      have c0 := HBK.out.cell 0
      have c1 := HBK.out.cell 1
      have c2 := HBK.out.cell 2
      have c3 := HBK.out.cell 3
      simp only [zA, zB, zC] at c0 c1 c2 c3
      clear hb2
      go_wp2_with fail
      refine (HB.out _).mono ?_
      rintro e w1 ⟨rfl, hb1⟩
      have hbw := HBL.out.trans (hb1.mono HBL.out.size)
      have y0 := (hbw.cell (p := ⟨g, o, none⟩) hlt).trans HX.out.1
      have y1 := (hbw.cell (p := ⟨g, o + 1, none⟩) hlt).trans HX.out.2.1
      have d0 := (hb1.cell (p := ⟨w.heap.size, 0, none⟩) (by simp)).trans c0
      have d1 := (hb1.cell (p := ⟨w.heap.size, 1, none⟩) (by simp)).trans c1
      have HBW := hide hbw
      clear hbw c0 c1 c2 c3 hb1
      by_cases hr : r = 65039
      · subst hr
        cases vp with
        | true =>
          have HE2 : Hid (true = ans) := hide (by rw [← HE.out]; simp)
          go_wp2
          go_ret
          exact ⟨by rw [← HE2.out]; rfl, HBW.out⟩
        | false =>
          cases pict with
          | true =>
            have HE2 : Hid (true = ans) := hide (by rw [← HE.out]; simp)
            go_wp2
            go_ret
            exact ⟨by rw [← HE2.out]; rfl, HBW.out⟩
          | false =>
            have HE2 : Hid (decide (brk = 6) = ans) := hide (by rw [← HE.out]; simp)
            go_wp2
            go_ret
            exact ⟨by rw [← HE2.out]; by_cases h6 : brk = 6 <;> simp [h6], HBW.out⟩
      · have mr : (r == 65039) = false := by simpa using hr
        cases pict with
        | true =>
          have HE2 : Hid (true = ans) := hide (by rw [← HE.out]; simp)
          clear hr
          go_wp2
          go_ret
          exact ⟨by rw [← HE2.out]; rfl, HBW.out⟩
        | false =>
          have HE2 : Hid (decide (brk = 6) = ans) := hide (by rw [← HE.out]; simp [hr])
          clear hr
          go_wp2
          go_ret
          exact ⟨by rw [← HE2.out]; by_cases h6 : brk = 6 <;> simp [h6], HBW.out⟩
end Go.Proofs.YtdjpdllehhecpaaGreatDoor
namespace Go.Proofs.YtdjpdllehhecpaaGreatDoor
open Go.RowKit
set_option linter.unusedVariables false
set_option linter.unusedSimpArgs false
structure SetTo (cs : Array Value) (o : Nat) (vs : List Value) (cs' : Array Value) : Prop where
  size : cs'.size = cs.size
  new : ∀ i, i < vs.length → cs'[o + i]? = vs[i]?
  old : ∀ i, (i < o ∨ o + vs.length ≤ i) → cs'[i]? = cs[i]?
theorem set3_A {cs : Array Value} {o : Nat} (h : o + 3 ≤ cs.size) (a b c : Value) : SetTo cs o [a, b, c] (((cs.setIfInBounds (o + 2) c).setIfInBounds o a).setIfInBounds (o + 1) b) := by
  refine ⟨by simp, fun i hi => ?_, fun i hi => ?_⟩
  · rcases (by simp at hi; omega : i = 0 ∨ i = 1 ∨ i = 2) with rfl | rfl | rfl
    · simp [Array.getElem?_setIfInBounds, show o < cs.size by omega]
    · simp [Array.getElem?_setIfInBounds, show o + 1 < cs.size by omega]
    · simp [Array.getElem?_setIfInBounds, show o + 2 < cs.size by omega]
  · simp at hi
    simp only [Array.getElem?_setIfInBounds]
    rw [if_neg (by omega), if_neg (by omega), if_neg (by omega)]
theorem gb_dr {a w : World} {g : Nat} (h : a.grownBy w (some g)) : a.grownBy w.drew (some g) := ⟨h.os, h.tape, h.output, h.size, h.block⟩
theorem wideG_int (g : GaugeV) : ((wideG g : Nat) : Int) = if g.wide = true then 2 else 1 := by unfold wideG; split <;> rfl
set_option maxHeartbeats 4000000 in
theorem gStep_ok (g o : Nat) (t : TypeId) (cs : Array Value) (v : GaugeV) (r : Int) (p : PropV) (h0 : 0 ≤ p.brk) (h1 : p.brk ≤ 13) (w : World) (hB : Blk w g t cs) (hsz : o + 3 ≤ cs.size)
    (hc0 : cs[o]? = some (.bool v.some)) (hc1 : cs[o + 1]? = some (.bool v.pict)) (hc2 : cs[o + 2]? = some (.bool v.wide)) :
    Calls Tryz.prog 189 #[.pointer (some ⟨g, o, none⟩), .int .i32 r, propA p] w fun e w' => e = .returned (.int .i64 (wideG (gauN v r p))) ∧ (∃ cs', Blk w' g t cs' ∧ SetTo cs o (gauC (gauN v r p)) cs') ∧ w.grownBy w' (some g) := by
  have hW := fun W (hw : Below w.heap.size w W) => gwidens_ok g o v r p h0 h1 W ⟨(hw.cell (p := ⟨g, o, none⟩) hB.lt).trans ((hB.cell o).trans hc0), (hw.cell (p := ⟨g, o + 1, none⟩) hB.lt).trans ((hB.cell (o + 1)).trans hc1), (hw.cell (p := ⟨g, o + 2, none⟩) hB.lt).trans ((hB.cell (o + 2)).trans hc2)⟩
  obtain ⟨brk, pict, conj, east⟩ := p
  obtain ⟨vs, vp, vw⟩ := v
  simp only at hc0 hc1 hc2 h0 h1
  obtain ⟨ww, hww⟩ : ∃ ww, widensF ⟨vs, vp, vw⟩ r ⟨brk, pict, conj, east⟩ = ww := ⟨_, rfl⟩
  rw [hww] at hW
  have hN : gauN ⟨vs, vp, vw⟩ r ⟨brk, pict, conj, east⟩ = ⟨true, pict, vw || ww⟩ := by unfold gauN; rw [hww]
  rw [hN, wideG_int]
  unfold propA at hW ⊢
  simp only [propL, gauC] at hW ⊢
  have HW := hide hW
  clear hW hN hww
  have hnew := Blk.new w 108 #[.int .i64 brk, .bool pict, .int .i64 conj, .int .i64 east]
  have hbl := (Below.refl w.heap.size w).alloc (Nat.le_refl _) (.cells #[.int .i64 brk, .bool pict, .int .i64 conj, .int .i64 east] 108)
  have hgl := hB.lt
  have HGRW : Hid (w.grownBy (w.alloc (.cells #[.int .i64 brk, .bool pict, .int .i64 conj, .int .i64 east] 108)) (some g)) := hide (gb_alloc (gb_refl w g) _)
  have HBB := hide hB
  have HS3 := hide hsz
  have HNEW := hide hnew
  have HBL := hide hbl
  have HC := hide (⟨hc0, hc1, hc2⟩ : cs[o]? = some (.bool vs) ∧ cs[o + 1]? = some (.bool vp) ∧ cs[o + 2]? = some (.bool vw))
  clear hB hsz hc0 hc1 hc2 hnew hbl
  go_enter Tryz.func189, Tryz.ntmps189
  obtain ⟨W0, hW0⟩ : ∃ W0, w.alloc (.cells #[.int .i64 brk, .bool pict, .int .i64 conj, .int .i64 east] 108) = W0 := ⟨_, rfl⟩
  rw [hW0] at HNEW HBL HGRW
  have HW0 := hide hW0
  clear hW0
  have b0 := HBB.out.same HBL.out
  have x2 := (b0.cell (o + 2)).trans HC.out.2.2
  have fz := b0.frozen (o + 2)
  have n0 := HNEW.out.cell 0
  have n1 := HNEW.out.cell 1
  have n2 := HNEW.out.cell 2
  have n3 := HNEW.out.cell 3
  simp only [zA, zB, zC] at n0 n1 n2 n3
  cases vw with
  | true =>
    go_upto_region 3 with fail
    rw [HW0.out]
    go_upto_region 4 with fail
    obtain ⟨W1, hW1⟩ : ∃ W1, W0.setCell ⟨g, o + 2, none⟩ (.bool true) = W1 := ⟨_, rfl⟩
    have b1 : Blk W1 g t (cs.setIfInBounds (o + 2) (.bool true)) := by rw [← hW1]; exact (b0).set_ (o + 2) _
    have HG1 : Hid (w.grownBy W1 (some g)) := hide (by rw [← hW1]; exact gb_set HGRW.out (o + 2) _)
    have m1 := n1
    have z1 : W1.cell? ⟨w.heap.size, 1, none⟩ = some (.bool pict) := by rw [← hW1, World.cell?_setCell_other _ _ _ _ (by simp <;> omega)]; exact n1
    rw [hW1]
    have y0 : W1.cell? ⟨g, o, none⟩ = some (.bool vs) := (b1.cell o).trans (by rw [Array.getElem?_setIfInBounds, if_neg (by omega)]; exact HC.out.1)
    have y1 : W1.cell? ⟨g, o + 1, none⟩ = some (.bool vp) := (b1.cell (o + 1)).trans (by rw [Array.getElem?_setIfInBounds, if_neg (by omega)]; exact HC.out.2.1)
    have y2 : W1.cell? ⟨g, o + 2, none⟩ = some (.bool true) := (b1.cell (o + 2)).trans (by have := HS3.out; rw [Array.getElem?_setIfInBounds, if_pos rfl, if_pos (by omega)])
    have f0 := b1.frozen o
    have f1 := b1.frozen (o + 1)
    have HB1 := hide b1
    clear b1 hW1 x2 fz b0 n0 n1 n2 n3
    go_upto_region 4 with fail
    refine wp_region_held_drew (S := fun w' => w'.cell? ⟨w.heap.size, 1, none⟩ = some (.bool pict)) (by kernel_rfl) (by exact z1) (fun hHeld => ?_)
    refine wpAnyH_take (i := 0) (oi := ?_) (v := ?_) ?_ (by kernel_rfl) (by kernel_rfl) (by kernel_rfl) ?_ (Or.inl ⟨?_, ?_⟩) (by assumption) ?_
    rotate_left 2
    · (simp only [zA, zB, zC]; rfl)
    rotate_left 1
    · rfl
    · (intro w hSw; go_simp; try with_reducible rfl)
    rotate_left 1
    · exact fun _ _ _ h => h
    try simp only [Act.put, zD, zE, zF]
    refine wpAnyH_take (i := 1) (oi := ?_) (v := ?_) ?_ (by kernel_rfl) (by kernel_rfl) (by kernel_rfl) ?_ (Or.inl ⟨?_, ?_⟩) (by assumption) ?_
    rotate_left 2
    · (simp only [zA, zB, zC]; rfl)
    rotate_left 1
    · rfl
    · (intro w hSw; go_simp; try with_reducible rfl)
    rotate_left 1
    · exact fun _ _ _ h => h
    try simp only [Act.put, zD, zE, zF]
    refine wpAnyH_take (i := 2) (oi := ?_) (v := ?_) ?_ (by kernel_rfl) (by kernel_rfl) (by kernel_rfl) ?_ (Or.inl ⟨?_, ?_⟩) (by assumption) ?_
    rotate_left 2
    · (simp only [zA, zB, zC]; rfl)
    rotate_left 1
    · rfl
    · (intro w hSw; go_simp; try with_reducible rfl)
    rotate_left 1
    · exact fun _ _ _ h => h
    try simp only [Act.put, zD, zE, zF]
    refine wpAnyH_take (i := 3) (oi := ?_) (v := ?_) ?_ (by kernel_rfl) (by kernel_rfl) (by kernel_rfl) ?_ (Or.inl ⟨?_, ?_⟩) (by assumption) ?_
    rotate_left 2
    · (simp only [zA, zB, zC]; rfl)
    rotate_left 1
    · rfl
    · (intro w hSw; go_simp; try with_reducible rfl)
    rotate_left 1
    · exact fun _ _ _ h => h
    try simp only [Act.put, zD, zE, zF]
    refine wpAnyH_take (i := 4) (oi := ?_) (v := ?_) ?_ (by kernel_rfl) (by kernel_rfl) (by kernel_rfl) ?_ (Or.inl ⟨?_, ?_⟩) (by assumption) ?_
    rotate_left 2
    · (simp only [zA, zB, zC]; rfl)
    rotate_left 1
    · rfl
    · (intro w hSw; go_simp; try with_reducible rfl)
    rotate_left 1
    · exact fun _ _ _ h => h
    try simp only [Act.put, zD, zE, zF]
    refine wpAnyH_take (i := 5) (oi := ?_) (v := ?_) ?_ (by kernel_rfl) (by kernel_rfl) (by kernel_rfl) ?_ (Or.inl ⟨?_, ?_⟩) (by assumption) ?_
    rotate_left 2
    · (simp only [zA, zB, zC]; rfl)
    rotate_left 1
    · rfl
    · (intro w hSw; go_simp; try with_reducible rfl)
    rotate_left 1
    · exact fun _ _ _ h => h
    try simp only [Act.put, zD, zE, zF]
    refine wpAnyH_ready (rs := [6]) (by kernel_rfl) (by simp) ?_
    refine AllReadyH.cons (o := ?_) ?_ (fun K hK => ?_) AllReadyH.nil
    rotate_left 1
    · (simp only [zA, zB, zC]; rfl)
    go_simp
    refine hK.out _ _ ?_ (fun hHeld => ?_)
    · exact (World.cell?_setCell_other _ _ _ _ (by simp <;> omega)).trans hHeld
    clear hK K
    try simp only [Act.put, zD, zE, zF]
    refine wpAnyH_take (i := 7) (oi := ?_) (v := ?_) ?_ (by kernel_rfl) (by kernel_rfl) (by kernel_rfl) ?_ (Or.inl ⟨?_, ?_⟩) (by assumption) ?_
    rotate_left 2
    · (simp only [zA, zB, zC]; rfl)
    rotate_left 1
    · rfl
    · (intro w hSw; go_simp; try with_reducible rfl)
    rotate_left 1
    · exact fun _ _ _ h => h
    try simp only [Act.put, zD, zE, zF]
    refine wpAnyH_take (i := 8) (oi := ?_) (v := ?_) ?_ (by kernel_rfl) (by kernel_rfl) (by kernel_rfl) ?_ (Or.inl ⟨?_, ?_⟩) (by assumption) ?_
    rotate_left 2
    · (simp only [zA, zB, zC]; rfl)
    rotate_left 1
    · rfl
    · (intro w hSw; go_simp; try with_reducible rfl)
    rotate_left 1
    · exact fun _ _ _ h => h
    try simp only [Act.put, zD, zE, zF]
    refine wpAnyH_ready (rs := [9]) (by kernel_rfl) (by simp) ?_
    refine AllReadyH.cons (o := ?_) ?_ (fun K hK => ?_) AllReadyH.nil
    rotate_left 1
    · (simp only [zA, zB, zC]; rfl)
    go_simp
    refine hK.out _ _ ?_ (fun hHeld => ?_)
    · exact (World.cell?_setCell_other _ _ _ _ (by simp <;> omega)).trans hHeld
    clear hK K
    try simp only [Act.put, zD, zE, zF]
    refine wpAnyH_done (by kernel_rfl) ?_ _
    go_wp2
    go_ret
    exact ⟨rfl, ⟨_, (HB1.out.set_ o _).set_ (o + 1) _, set3_A HS3.out _ _ _⟩, gb_dr (gb_set (gb_set HG1.out _ _) _ _)⟩
  | false =>
    cases ww with
    | true =>
      go_upto_region 3 with fail
      rw [HW0.out]
      have HWC := hide (HW.out W0 HBL.out)
      go_wp2_with fail
      refine HWC.out.mono ?_
      rintro e w2 ⟨rfl, hb2⟩
      have b2 := b0.same hb2
      have HGB : Hid (w.grownBy w2 (some g)) := hide (gb_below HGRW.out hb2)
      have n0' := (hb2.cell (p := ⟨w.heap.size, 0, none⟩) (World.block_lt_of_cell? W0 _ n0)).trans n0
      have n1' := (hb2.cell (p := ⟨w.heap.size, 1, none⟩) (World.block_lt_of_cell? W0 _ n1)).trans n1
      clear n0 n1
      have n0 := n0'
      have n1 := n1'
      clear n0' n1'
      have x2' := (b2.cell (o + 2)).trans HC.out.2.2
      have fz' := b2.frozen (o + 2)
      clear x2 fz
      have x2 := x2'
      have fz := fz'
      clear x2' fz'
      go_upto_region 4 with fail
      obtain ⟨W1, hW1⟩ : ∃ W1, w2.setCell ⟨g, o + 2, none⟩ (.bool true) = W1 := ⟨_, rfl⟩
      have b1 : Blk W1 g t (cs.setIfInBounds (o + 2) (.bool true)) := by rw [← hW1]; exact (b2).set_ (o + 2) _
      have HG1 : Hid (w.grownBy W1 (some g)) := hide (by rw [← hW1]; exact gb_set (HGB.out) (o + 2) _)
      have m1 := n1
      have z1 : W1.cell? ⟨w.heap.size, 1, none⟩ = some (.bool pict) := by rw [← hW1, World.cell?_setCell_other _ _ _ _ (by simp <;> omega)]; exact n1
      rw [hW1]
      have y0 : W1.cell? ⟨g, o, none⟩ = some (.bool vs) := (b1.cell o).trans (by rw [Array.getElem?_setIfInBounds, if_neg (by omega)]; exact HC.out.1)
      have y1 : W1.cell? ⟨g, o + 1, none⟩ = some (.bool vp) := (b1.cell (o + 1)).trans (by rw [Array.getElem?_setIfInBounds, if_neg (by omega)]; exact HC.out.2.1)
      have y2 : W1.cell? ⟨g, o + 2, none⟩ = some (.bool true) := (b1.cell (o + 2)).trans (by have := HS3.out; rw [Array.getElem?_setIfInBounds, if_pos rfl, if_pos (by omega)])
      have f0 := b1.frozen o
      have f1 := b1.frozen (o + 1)
      have HB1 := hide b1
      clear b1 hW1 x2 fz b0 n0 n1 n2 n3
      go_upto_region 4 with fail
      refine wp_region_held_drew (S := fun w' => w'.cell? ⟨w.heap.size, 1, none⟩ = some (.bool pict)) (by kernel_rfl) (by exact z1) (fun hHeld => ?_)
      refine wpAnyH_take (i := 0) (oi := ?_) (v := ?_) ?_ (by kernel_rfl) (by kernel_rfl) (by kernel_rfl) ?_ (Or.inl ⟨?_, ?_⟩) (by assumption) ?_
      rotate_left 2
      · (simp only [zA, zB, zC]; rfl)
      rotate_left 1
      · rfl
      · (intro w hSw; go_simp; try with_reducible rfl)
      rotate_left 1
      · exact fun _ _ _ h => h
      try simp only [Act.put, zD, zE, zF]
      refine wpAnyH_take (i := 1) (oi := ?_) (v := ?_) ?_ (by kernel_rfl) (by kernel_rfl) (by kernel_rfl) ?_ (Or.inl ⟨?_, ?_⟩) (by assumption) ?_
      rotate_left 2
      · (simp only [zA, zB, zC]; rfl)
      rotate_left 1
      · rfl
      · (intro w hSw; go_simp; try with_reducible rfl)
      rotate_left 1
      · exact fun _ _ _ h => h
      try simp only [Act.put, zD, zE, zF]
      refine wpAnyH_take (i := 2) (oi := ?_) (v := ?_) ?_ (by kernel_rfl) (by kernel_rfl) (by kernel_rfl) ?_ (Or.inl ⟨?_, ?_⟩) (by assumption) ?_
      rotate_left 2
      · (simp only [zA, zB, zC]; rfl)
      rotate_left 1
      · rfl
      · (intro w hSw; go_simp; try with_reducible rfl)
      rotate_left 1
      · exact fun _ _ _ h => h
      try simp only [Act.put, zD, zE, zF]
      refine wpAnyH_take (i := 3) (oi := ?_) (v := ?_) ?_ (by kernel_rfl) (by kernel_rfl) (by kernel_rfl) ?_ (Or.inl ⟨?_, ?_⟩) (by assumption) ?_
      rotate_left 2
      · (simp only [zA, zB, zC]; rfl)
      rotate_left 1
      · rfl
      · (intro w hSw; go_simp; try with_reducible rfl)
      rotate_left 1
      · exact fun _ _ _ h => h
      try simp only [Act.put, zD, zE, zF]
      refine wpAnyH_take (i := 4) (oi := ?_) (v := ?_) ?_ (by kernel_rfl) (by kernel_rfl) (by kernel_rfl) ?_ (Or.inl ⟨?_, ?_⟩) (by assumption) ?_
      rotate_left 2
      · (simp only [zA, zB, zC]; rfl)
      rotate_left 1
      · rfl
      · (intro w hSw; go_simp; try with_reducible rfl)
      rotate_left 1
      · exact fun _ _ _ h => h
      try simp only [Act.put, zD, zE, zF]
      refine wpAnyH_take (i := 5) (oi := ?_) (v := ?_) ?_ (by kernel_rfl) (by kernel_rfl) (by kernel_rfl) ?_ (Or.inl ⟨?_, ?_⟩) (by assumption) ?_
      rotate_left 2
      · (simp only [zA, zB, zC]; rfl)
      rotate_left 1
      · rfl
      · (intro w hSw; go_simp; try with_reducible rfl)
      rotate_left 1
      · exact fun _ _ _ h => h
      try simp only [Act.put, zD, zE, zF]
      refine wpAnyH_ready (rs := [6]) (by kernel_rfl) (by simp) ?_
      refine AllReadyH.cons (o := ?_) ?_ (fun K hK => ?_) AllReadyH.nil
      rotate_left 1
      · (simp only [zA, zB, zC]; rfl)
      go_simp
      refine hK.out _ _ ?_ (fun hHeld => ?_)
      · exact (World.cell?_setCell_other _ _ _ _ (by simp <;> omega)).trans hHeld
      clear hK K
      try simp only [Act.put, zD, zE, zF]
      refine wpAnyH_take (i := 7) (oi := ?_) (v := ?_) ?_ (by kernel_rfl) (by kernel_rfl) (by kernel_rfl) ?_ (Or.inl ⟨?_, ?_⟩) (by assumption) ?_
      rotate_left 2
      · (simp only [zA, zB, zC]; rfl)
      rotate_left 1
      · rfl
      · (intro w hSw; go_simp; try with_reducible rfl)
      rotate_left 1
      · exact fun _ _ _ h => h
      try simp only [Act.put, zD, zE, zF]
      refine wpAnyH_take (i := 8) (oi := ?_) (v := ?_) ?_ (by kernel_rfl) (by kernel_rfl) (by kernel_rfl) ?_ (Or.inl ⟨?_, ?_⟩) (by assumption) ?_
      rotate_left 2
      · (simp only [zA, zB, zC]; rfl)
      rotate_left 1
      · rfl
      · (intro w hSw; go_simp; try with_reducible rfl)
      rotate_left 1
      · exact fun _ _ _ h => h
      try simp only [Act.put, zD, zE, zF]
      refine wpAnyH_ready (rs := [9]) (by kernel_rfl) (by simp) ?_
      refine AllReadyH.cons (o := ?_) ?_ (fun K hK => ?_) AllReadyH.nil
      rotate_left 1
      · (simp only [zA, zB, zC]; rfl)
      go_simp
      refine hK.out _ _ ?_ (fun hHeld => ?_)
      · exact (World.cell?_setCell_other _ _ _ _ (by simp <;> omega)).trans hHeld
      clear hK K
      try simp only [Act.put, zD, zE, zF]
      refine wpAnyH_done (by kernel_rfl) ?_ _
      go_wp2
      go_ret
      exact ⟨rfl, ⟨_, (HB1.out.set_ o _).set_ (o + 1) _, set3_A HS3.out _ _ _⟩, gb_dr (gb_set (gb_set HG1.out _ _) _ _)⟩
    | false =>
      go_upto_region 3 with fail
      rw [HW0.out]
      have HWC := hide (HW.out W0 HBL.out)
      go_wp2_with fail
      refine HWC.out.mono ?_
      rintro e w2 ⟨rfl, hb2⟩
      have b2 := b0.same hb2
      have HGB : Hid (w.grownBy w2 (some g)) := hide (gb_below HGRW.out hb2)
      have n0' := (hb2.cell (p := ⟨w.heap.size, 0, none⟩) (World.block_lt_of_cell? W0 _ n0)).trans n0
      have n1' := (hb2.cell (p := ⟨w.heap.size, 1, none⟩) (World.block_lt_of_cell? W0 _ n1)).trans n1
      clear n0 n1
      have n0 := n0'
      have n1 := n1'
      clear n0' n1'
      have x2' := (b2.cell (o + 2)).trans HC.out.2.2
      have fz' := b2.frozen (o + 2)
      clear x2 fz
      have x2 := x2'
      have fz := fz'
      clear x2' fz'
      go_upto_region 4 with fail
      obtain ⟨W1, hW1⟩ : ∃ W1, w2.setCell ⟨g, o + 2, none⟩ (.bool false) = W1 := ⟨_, rfl⟩
      have b1 : Blk W1 g t (cs.setIfInBounds (o + 2) (.bool false)) := by rw [← hW1]; exact (b2).set_ (o + 2) _
      have HG1 : Hid (w.grownBy W1 (some g)) := hide (by rw [← hW1]; exact gb_set (HGB.out) (o + 2) _)
      have m1 := n1
      have z1 : W1.cell? ⟨w.heap.size, 1, none⟩ = some (.bool pict) := by rw [← hW1, World.cell?_setCell_other _ _ _ _ (by simp <;> omega)]; exact n1
      rw [hW1]
      have y0 : W1.cell? ⟨g, o, none⟩ = some (.bool vs) := (b1.cell o).trans (by rw [Array.getElem?_setIfInBounds, if_neg (by omega)]; exact HC.out.1)
      have y1 : W1.cell? ⟨g, o + 1, none⟩ = some (.bool vp) := (b1.cell (o + 1)).trans (by rw [Array.getElem?_setIfInBounds, if_neg (by omega)]; exact HC.out.2.1)
      have y2 : W1.cell? ⟨g, o + 2, none⟩ = some (.bool false) := (b1.cell (o + 2)).trans (by have := HS3.out; rw [Array.getElem?_setIfInBounds, if_pos rfl, if_pos (by omega)])
      have f0 := b1.frozen o
      have f1 := b1.frozen (o + 1)
      have HB1 := hide b1
      clear b1 hW1 x2 fz b0 n0 n1 n2 n3
      go_upto_region 4 with fail
      refine wp_region_held_drew (S := fun w' => w'.cell? ⟨w.heap.size, 1, none⟩ = some (.bool pict)) (by kernel_rfl) (by exact z1) (fun hHeld => ?_)
      refine wpAnyH_take (i := 0) (oi := ?_) (v := ?_) ?_ (by kernel_rfl) (by kernel_rfl) (by kernel_rfl) ?_ (Or.inl ⟨?_, ?_⟩) (by assumption) ?_
      rotate_left 2
      · (simp only [zA, zB, zC]; rfl)
      rotate_left 1
      · rfl
      · (intro w hSw; go_simp; try with_reducible rfl)
      rotate_left 1
      · exact fun _ _ _ h => h
      try simp only [Act.put, zD, zE, zF]
      refine wpAnyH_take (i := 1) (oi := ?_) (v := ?_) ?_ (by kernel_rfl) (by kernel_rfl) (by kernel_rfl) ?_ (Or.inl ⟨?_, ?_⟩) (by assumption) ?_
      rotate_left 2
      · (simp only [zA, zB, zC]; rfl)
      rotate_left 1
      · rfl
      · (intro w hSw; go_simp; try with_reducible rfl)
      rotate_left 1
      · exact fun _ _ _ h => h
      try simp only [Act.put, zD, zE, zF]
      refine wpAnyH_take (i := 2) (oi := ?_) (v := ?_) ?_ (by kernel_rfl) (by kernel_rfl) (by kernel_rfl) ?_ (Or.inl ⟨?_, ?_⟩) (by assumption) ?_
      rotate_left 2
      · (simp only [zA, zB, zC]; rfl)
      rotate_left 1
      · rfl
      · (intro w hSw; go_simp; try with_reducible rfl)
      rotate_left 1
      · exact fun _ _ _ h => h
      try simp only [Act.put, zD, zE, zF]
      refine wpAnyH_take (i := 3) (oi := ?_) (v := ?_) ?_ (by kernel_rfl) (by kernel_rfl) (by kernel_rfl) ?_ (Or.inl ⟨?_, ?_⟩) (by assumption) ?_
      rotate_left 2
      · (simp only [zA, zB, zC]; rfl)
      rotate_left 1
      · rfl
      · (intro w hSw; go_simp; try with_reducible rfl)
      rotate_left 1
      · exact fun _ _ _ h => h
      try simp only [Act.put, zD, zE, zF]
      refine wpAnyH_take (i := 4) (oi := ?_) (v := ?_) ?_ (by kernel_rfl) (by kernel_rfl) (by kernel_rfl) ?_ (Or.inl ⟨?_, ?_⟩) (by assumption) ?_
      rotate_left 2
      · (simp only [zA, zB, zC]; rfl)
      rotate_left 1
      · rfl
      · (intro w hSw; go_simp; try with_reducible rfl)
      rotate_left 1
      · exact fun _ _ _ h => h
      try simp only [Act.put, zD, zE, zF]
      refine wpAnyH_take (i := 5) (oi := ?_) (v := ?_) ?_ (by kernel_rfl) (by kernel_rfl) (by kernel_rfl) ?_ (Or.inl ⟨?_, ?_⟩) (by assumption) ?_
      rotate_left 2
      · (simp only [zA, zB, zC]; rfl)
      rotate_left 1
      · rfl
      · (intro w hSw; go_simp; try with_reducible rfl)
      rotate_left 1
      · exact fun _ _ _ h => h
      try simp only [Act.put, zD, zE, zF]
      refine wpAnyH_ready (rs := [6]) (by kernel_rfl) (by simp) ?_
      refine AllReadyH.cons (o := ?_) ?_ (fun K hK => ?_) AllReadyH.nil
      rotate_left 1
      · (simp only [zA, zB, zC]; rfl)
      go_simp
      refine hK.out _ _ ?_ (fun hHeld => ?_)
      · exact (World.cell?_setCell_other _ _ _ _ (by simp <;> omega)).trans hHeld
      clear hK K
      try simp only [Act.put, zD, zE, zF]
      refine wpAnyH_take (i := 7) (oi := ?_) (v := ?_) ?_ (by kernel_rfl) (by kernel_rfl) (by kernel_rfl) ?_ (Or.inl ⟨?_, ?_⟩) (by assumption) ?_
      rotate_left 2
      · (simp only [zA, zB, zC]; rfl)
      rotate_left 1
      · rfl
      · (intro w hSw; go_simp; try with_reducible rfl)
      rotate_left 1
      · exact fun _ _ _ h => h
      try simp only [Act.put, zD, zE, zF]
      refine wpAnyH_take (i := 8) (oi := ?_) (v := ?_) ?_ (by kernel_rfl) (by kernel_rfl) (by kernel_rfl) ?_ (Or.inl ⟨?_, ?_⟩) (by assumption) ?_
      rotate_left 2
      · (simp only [zA, zB, zC]; rfl)
      rotate_left 1
      · rfl
      · (intro w hSw; go_simp; try with_reducible rfl)
      rotate_left 1
      · exact fun _ _ _ h => h
      try simp only [Act.put, zD, zE, zF]
      refine wpAnyH_ready (rs := [9]) (by kernel_rfl) (by simp) ?_
      refine AllReadyH.cons (o := ?_) ?_ (fun K hK => ?_) AllReadyH.nil
      rotate_left 1
      · (simp only [zA, zB, zC]; rfl)
      go_simp
      refine hK.out _ _ ?_ (fun hHeld => ?_)
      · exact (World.cell?_setCell_other _ _ _ _ (by simp <;> omega)).trans hHeld
      clear hK K
      try simp only [Act.put, zD, zE, zF]
      refine wpAnyH_done (by kernel_rfl) ?_ _
      go_wp2
      go_ret
      exact ⟨rfl, ⟨_, (HB1.out.set_ o _).set_ (o + 1) _, set3_A HS3.out _ _ _⟩, gb_dr (gb_set (gb_set HG1.out _ _) _ _)⟩
theorem setTo_all {cs cs' : Array Value} {vs : List Value} (h : SetTo cs 0 vs cs') (hs : cs.size = vs.length) : cs' = vs.toArray := by
  apply Array.ext_getElem?
  intro i
  by_cases hi : i < vs.length
  · have := h.new i hi
    rw [Nat.zero_add] at this
    rw [this, List.getElem?_toArray]
  · have h1 : cs'.size ≤ i := by have := h.size; omega
    rw [Array.getElem?_eq_none h1, List.getElem?_toArray, List.getElem?_eq_none (by omega)]
theorem gauL_take {P : Int → PropV} {g : GaugeV} {l : List Int} {k : Nat} (h : k < l.length) : gauL P g (l.take (k + 1)) = gauN (gauL P g (l.take k)) l[k] (P l[k]) := by
  rw [List.take_succ_eq_append_getElem h, gauL_snoc]
set_option maxHeartbeats 2000000 in
theorem cOf_ok (So Si : Nat → Prop) (x : Value) (l : List Int) (w : World) (hx : Slc (Rep.int .i32) So Si w x l) (hlen : l.length ≤ 100000) :
    Calls Tryz.prog 161 #[x] w fun e w' => e = .returned (.int .i64 (widthF propF l)) ∧ Below w.heap.size w w' := by
  have hwf := hx.ints_wf
  obtain ⟨A, c, rfl, hc1, hc2, _⟩ := hx.open_
  obtain ⟨W0, hW0⟩ : ∃ W0, w.alloc (.cells #[.bool false, .bool false, .bool false] 211) = W0 := ⟨_, rfl⟩
  have hB0 : Blk W0 w.heap.size 211 (gauC gau0).toArray := by rw [← hW0]; exact Blk.new w _ _
  have hb0 : Below w.heap.size w W0 := by rw [← hW0]; exact (Below.refl _ w).alloc (Nat.le_refl _) _
  have hs0 : w.heap.size < W0.heap.size := hB0.lt
  have HW0 := hide hW0
  have HB0 := hide hB0
  have HBL := hide hb0
  have HFIN : Hid (gauL propF gau0 (l.take l.length) = gauL propF gau0 l) := hide (by rw [List.take_length])
  have HTK := hide (fun k (h : k < l.length) => gauL_take (P := propF) (g := gau0) h)
  clear hW0 hB0 hb0
  go_enter Tryz.func161, Tryz.ntmps161
  go_upto_region 2 with fail
  rw [HW0.out]
  go_wp2
  go_loopw [4, 9] (fun wd i wr => ∃ (k : Nat), k ≤ l.length ∧ i = .int .i64 k ∧ wd = .int .i64 (wideG (gauL propF gau0 (l.take k))) ∧ Blk wr w.heap.size 211 (gauC (gauL propF gau0 (l.take k))).toArray ∧ Below w.heap.size w wr)
    (fun _ i _ => l.length - (intOf i).toNat)
  case atStart => exact ⟨0, Nat.zero_le _, rfl, rfl, HB0.out, HBL.out⟩
  case round =>
    obtain ⟨k, hk, rfl, rfl, hB, hbel⟩ := hrel
    have hsz := hbel.size
    obtain ⟨gv, hgv⟩ : ∃ gv, gauL propF gau0 (l.take k) = gv := ⟨_, rfl⟩
    rw [hgv] at hB ⊢
    by_cases hlt : k < l.length
    · have hxk := hx.ints_keep (Keep.below (S := So) hbel)
      obtain ⟨b, off, hA, _, q0, _⟩ := ints_at hxk.slb hlt
      subst hA
      have hr := i32_wf (hwf _ (List.getElem_mem hlt))
      have htk := HTK.out k hlt
      rw [hgv] at htk
      obtain ⟨r, hrr⟩ : ∃ r, l[k] = r := ⟨_, rfl⟩
      rw [hrr] at q0 hr htk
      have HT := hide htk
      have HU := hide (ucdOf_ok r hr.1 hr.2)
      have HP := hide (propF_ok r).1
      have hkl : (k : Int) < l.length := by omega
      have HB := hide hB
      have HG := hide hgv
      clear hrr htk hB hgv
      go_wp2_with fail
      refine (HU.out _).mono ?_
      rintro e w1 ⟨rfl, hb1⟩
      have hB1 := HB.out.same hb1
      have hGS := gStep_ok w.heap.size 0 _ _ gv r (propF r) HP.out.1 HP.out.2 w1 hB1 (by simp [gauC]) rfl rfl rfl
      have HGS := hide hGS
      have HB1 := hide hB1
      clear hGS hB1
      go_wp2_with fail
      refine HGS.out.mono ?_
      rintro e w2 ⟨rfl, ⟨cs', hB2, hset⟩, hgr⟩
      have hcs := setTo_all hset (by simp [gauC])
      subst hcs
      have hb2 : Below w.heap.size w w2 := (hbel.trans (hb1.mono hsz)).grown hgr (by have := hb1.size; omega) (fun j e => by cases e; exact Nat.le_refl _)
      have HB2 := hide hB2
      have HBB := hide hb2
      clear hB2 hb2 hset hgr
      go_wp2
      go_roundw
      case rel => exact ⟨k + 1, by omega, by go_num, by rw [HT.out], by rw [HT.out]; exact HB2.out, HBB.out⟩
      case measure => simp [intOf]; omega
    · obtain rfl : k = l.length := by omega
      have HV : Hid (widthF propF l = wideG gv) := hide (by unfold widthF; rw [← hgv, HFIN.out])
      go_wp2
      go_ret
      exact ⟨by rw [HV.out]; rfl, hbel⟩
end Go.Proofs.YtdjpdllehhecpaaGreatDoor
namespace Go.Proofs.YtdjpdllehhecpaaGreatDoor
open Go.RowKit
set_option linter.unusedVariables false
set_option linter.unusedSimpArgs false
structure ClAt (cs : Array Value) (o : Nat) (l : List Int) : Prop where
  room : o + 17 ≤ cs.size
  len : l.length ≤ 16
  num : ∀ i (h : i < l.length), cs[o + i]? = some (.int .i32 l[i])
  many : cs[o + 16]? = some (.int .i64 l.length)
  wf : ∀ n ∈ l, (Lit.int .i32 n).wf = true
  one : ∀ i u, i < 17 → cs[o + i]? = some u → u.oneCell' = true
theorem ClAt.slc {w : World} {g o : Nat} {t : TypeId} {cs : Array Value} {l : List Int} (h : ClAt cs o l) (hB : Blk w g t cs) : Slc (Rep.int .i32) (fun b => b = g) (fun _ => False) w (.slice (some ⟨g, o, none⟩) l.length 16) l := by
  refine ⟨some ⟨g, o, none⟩, 16, rfl, h.len, by simp [maxLen], _, els_ints _ _ _ _ h.wf, fun _ => ⟨_, rfl, rfl, fun j u hj => ?_⟩⟩
  have hj2 : j < l.length := by
    have := List.getElem?_eq_some_iff.1 hj
    obtain ⟨h1, _⟩ := this
    simpa using h1
  rw [List.getElem?_map, List.getElem?_eq_getElem hj2] at hj
  injection hj with hj
  subst hj
  have e : (Addr.add ⟨g, o, none⟩ j) = ⟨g, o + j, none⟩ := by unfold Addr.add; split <;> simp_all
  rw [e]
  exact (hB.cell (o + j)).trans (h.num j hj2)
theorem cLen_ok (g o : Nat) (t : TypeId) (cs : Array Value) (l : List Int) (w : World) (hB : Blk w g t cs) (h : ClAt cs o l) :
    Calls Tryz.prog 192 #[.pointer (some ⟨g, o, none⟩)] w fun e w' => e = .returned (.int .i64 l.length) ∧ w = w' := by
  have x0 := (hB.cell (o + 16)).trans h.many
  have x1 := hB.lt
  clear h hB
  go_enter Tryz.func192, Tryz.ntmps192
  go_wp2
  go_ret
  exact ⟨rfl, rfl⟩
theorem cFull_ok (g o : Nat) (t : TypeId) (cs : Array Value) (l : List Int) (w : World) (hB : Blk w g t cs) (h : ClAt cs o l) :
    Calls Tryz.prog 164 #[.pointer (some ⟨g, o, none⟩)] w fun e w' => e = .returned (.bool (decide (l.length = 16))) ∧ w = w' := by
  have HL := hide (cLen_ok g o t cs l w hB h)
  obtain ⟨n, hn⟩ : ∃ n, l.length = n := ⟨_, rfl⟩
  rw [hn] at HL ⊢
  clear hn h hB
  go_enter Tryz.func164, Tryz.ntmps164
  go_wp2_with fail
  refine HL.out.mono ?_
  rintro e w1 ⟨rfl, rfl⟩
  go_wp2
  go_ret
  exact ⟨by by_cases h : n = 16 <;> simp [h] <;> omega, rfl⟩
theorem blk_cells {g : Nat} {t : TypeId} : ∀ (vs : List Value) (o : Nat) (w : World) (cs : Array Value), Blk w g t cs → o + vs.length ≤ cs.size → ∃ cs', Blk (w.setCells g o vs) g t cs' ∧ SetTo cs o vs cs' ∧ w.grownBy (w.setCells g o vs) (some g)
  | [], o, w, cs, h, _ => ⟨cs, h, ⟨rfl, fun i hi => (by simp at hi), fun i _ => rfl⟩, gb_refl w g⟩
  | v :: vs, o, w, cs, h, hl => by
    simp only [List.length_cons] at hl
    obtain ⟨cs', h1, h2, h3⟩ := blk_cells vs (o + 1) (w.setCell ⟨g, o, none⟩ v) _ (h.set_ o v) (by simp; omega)
    refine ⟨cs', h1, ⟨by rw [h2.size]; simp, fun i hi => ?_, fun i hi => ?_⟩, gb_trans (gb_set (gb_refl w g) o v) h3⟩
    · cases i with
      | zero =>
        rw [h2.old (o + 0) (.inl (by omega))]
        simp [Array.getElem?_setIfInBounds, show o < cs.size by omega]
      | succ i =>
        have := h2.new i (by simpa using hi)
        rw [show o + (i + 1) = o + 1 + i by omega, this]; rfl
    · simp only [List.length_cons] at hi
      rw [h2.old i (by omega), Array.getElem?_setIfInBounds, if_neg (by omega)]
theorem add_cl {cs : Array Value} {o : Nat} {l : List Int} (h : ClAt cs o l) (hl : l.length < 16) {r : Int} (hr : (Lit.int .i32 r).wf = true) :
    ClAt ((cs.setIfInBounds (o + l.length) (.int .i32 r)).setIfInBounds (o + 16) (.int .i64 ((l.length : Int) + 1))) o (l ++ [r]) ∧ ∀ i, (i < o ∨ o + 17 ≤ i) → ((cs.setIfInBounds (o + l.length) (.int .i32 r)).setIfInBounds (o + 16) (.int .i64 ((l.length : Int) + 1)))[i]? = cs[i]? := by
  have hm := h.room
  refine ⟨⟨by simpa using h.room, by simp; omega, fun i hi => ?_, ?_, ?_, fun i u hi hu => ?_⟩, fun i hi => ?_⟩
  · simp only [List.length_append, List.length_singleton] at hi
    simp only [Array.getElem?_setIfInBounds]
    rw [if_neg (by omega)]
    by_cases hil : i = l.length
    · subst hil
      rw [if_pos rfl, if_pos (by omega)]
      simp
    · rw [if_neg (by omega), h.num i (by omega)]
      rw [List.getElem_append_left (by omega)]
  · simp only [Array.getElem?_setIfInBounds]
    rw [if_pos trivial, if_pos (by simp; omega)]
    simp
  · intro n hn
    rcases List.mem_append.1 hn with hn | hn
    · exact h.wf n hn
    · rw [List.mem_singleton] at hn; subst hn; exact hr
  · simp only [Array.getElem?_setIfInBounds] at hu
    split at hu
    · split at hu
      · injection hu with hu; subst hu; rfl
      · cases hu
    · split at hu
      · split at hu
        · injection hu with hu; subst hu; rfl
        · cases hu
      · exact h.one i u hi hu
  · simp only [Array.getElem?_setIfInBounds]
    rw [if_neg (by omega), if_neg (by omega)]
set_option maxHeartbeats 2000000 in
theorem cAdd_ok (g o : Nat) (t : TypeId) (cs : Array Value) (l : List Int) (r : Int) (hr : (Lit.int .i32 r).wf = true) (w : World) (hB : Blk w g t cs) (h : ClAt cs o l) (hl : l.length < 16) :
    Calls Tryz.prog 188 #[.pointer (some ⟨g, o, none⟩), .int .i32 r] w fun e w' => e = .returned (.bool true) ∧ (∃ cs', Blk w' g t cs' ∧ cs'.size = cs.size ∧ ClAt cs' o (l ++ [r]) ∧ ∀ i, (i < o ∨ o + 17 ≤ i) → cs'[i]? = cs[i]?) ∧ w.grownBy w' (some g) := by
  have hF := cFull_ok g o t cs l w hB h
  obtain ⟨hA1, hA2⟩ := add_cl h hl hr
  have HA1 := hide hA1
  have HA2 := hide hA2
  rw [decide_eq_false (by omega)] at hF
  have HF := hide hF
  have x0 := (hB.cell (o + 16)).trans h.many
  have x1 := hB.lt
  have hroom := h.room
  have hn : l.length < 16 := hl
  have hdst : ∃ u, w.cell? ⟨g, o + l.length, none⟩ = some u := by
    rw [hB.cell]
    have hlt : o + l.length < cs.size := by omega
    exact ⟨_, Array.getElem?_eq_getElem hlt⟩
  obtain ⟨u, y0⟩ := hdst
  have f0 := hB.frozen (o + l.length)
  obtain ⟨n, hnn⟩ : ∃ n, l.length = n := ⟨_, rfl⟩
  have HB := hide hB
  have HN := hide hnn
  rw [hnn] at x0 y0 f0 hn HA1 HA2
  clear h hl hB hF hA1 hA2 hnn
  have hn16 : (n : Int) < 16 := by omega
  have hwn : IntKind.i64.wrap (n : Int) = n := by rw [IntKind.wrap_i64]; omega
  have hwn1 : IntKind.i64.wrap ((n : Int) + 1) = (n : Int) + 1 := by rw [IntKind.wrap_i64]; omega
  go_enter Tryz.func188, Tryz.ntmps188
  go_wp2_with fail
  refine HF.out.mono ?_
  rintro e w1 ⟨rfl, rfl⟩
  go_upto_region 3 with fail
  refine wp_region_held_drew (S := fun w' => w'.cell? ⟨g, o + 16, none⟩ = some (.int .i64 (n : Int))) (by kernel_rfl) (by exact x0) (fun hHeld => ?_)
  refine wpAnyH_take (i := 0) (oi := ?_) (v := ?_) ?_ (by kernel_rfl) (by kernel_rfl) (by kernel_rfl) ?_ (Or.inl ⟨?_, ?_⟩) (by assumption) ?_
  rotate_left 2
  · (simp only [zA, zB, zC]; rfl)
  rotate_left 1
  · rfl
  · (intro w hSw; skip; go_simp; try with_reducible rfl)
  rotate_left 1
  · exact fun _ _ _ h => h
  try simp only [Act.put, zD, zE, zF]
  refine wpAnyH_take (i := 1) (oi := ?_) (v := ?_) ?_ (by kernel_rfl) (by kernel_rfl) (by kernel_rfl) ?_ (Or.inl ⟨?_, ?_⟩) (by assumption) ?_
  rotate_left 2
  · (simp only [zA, zB, zC]; rfl)
  rotate_left 1
  · rfl
  · (intro w hSw; skip; go_simp; try with_reducible rfl)
  rotate_left 1
  · exact fun _ _ _ h => h
  try simp only [Act.put, zD, zE, zF]
  refine wpAnyH_take (i := 2) (oi := ?_) (v := ?_) ?_ (by kernel_rfl) (by kernel_rfl) (by kernel_rfl) ?_ (Or.inl ⟨?_, ?_⟩) (by assumption) ?_
  rotate_left 2
  · (simp only [zA, zB, zC]; rfl)
  rotate_left 1
  · rfl
  · (intro w hSw; skip; go_simp; try with_reducible rfl)
  rotate_left 1
  · exact fun _ _ _ h => h
  try simp only [Act.put, zD, zE, zF]
  refine wpAnyH_take (i := 3) (oi := ?_) (v := ?_) ?_ (by kernel_rfl) (by kernel_rfl) (by kernel_rfl) ?_ (Or.inl ⟨?_, ?_⟩) (by assumption) ?_
  rotate_left 2
  · (simp only [zA, zB, zC]; rfl)
  rotate_left 1
  · rfl
  · (intro w hSw; skip; go_simp; try with_reducible rfl)
  rotate_left 1
  · exact fun _ _ _ h => h
  try simp only [Act.put, zD, zE, zF]
  refine wpAnyH_take (i := 4) (oi := ?_) (v := ?_) ?_ (by kernel_rfl) (by kernel_rfl) (by kernel_rfl) ?_ (Or.inl ⟨?_, ?_⟩) (by assumption) ?_
  rotate_left 2
  · (simp only [zA, zB, zC]; rfl)
  rotate_left 1
  · rfl
  · (intro w hSw; skip; go_simp; try with_reducible rfl)
  rotate_left 1
  · exact fun _ _ _ h => h
  try simp only [Act.put, zD, zE, zF]
  refine wpAnyH_take (i := 5) (oi := ?_) (v := ?_) ?_ (by kernel_rfl) (by kernel_rfl) (by kernel_rfl) ?_ (Or.inl ⟨?_, ?_⟩) (by assumption) ?_
  rotate_left 2
  · (simp only [zA, zB, zC]; rfl)
  rotate_left 1
  · rfl
  · (intro w hSw; skip; go_simp; try with_reducible rfl)
  rotate_left 1
  · exact fun _ _ _ h => h
  try simp only [Act.put, zD, zE, zF]
  refine wpAnyH_take (i := 6) (oi := ?_) (v := ?_) ?_ (by kernel_rfl) (by kernel_rfl) (by kernel_rfl) ?_ (Or.inl ⟨?_, ?_⟩) (by assumption) ?_
  rotate_left 2
  · (simp only [zA, zB, zC]; rfl)
  rotate_left 1
  · rfl
  · (intro w hSw; skip; go_simp; try with_reducible rfl)
  rotate_left 1
  · exact fun _ _ _ h => h
  try simp only [Act.put, zD, zE, zF]
  refine wpAnyH_take (i := 7) (oi := ?_) (v := ?_) ?_ (by kernel_rfl) (by kernel_rfl) (by kernel_rfl) ?_ (Or.inl ⟨?_, ?_⟩) (by assumption) ?_
  rotate_left 2
  · (simp only [zA, zB, zC]; rfl)
  rotate_left 1
  · rfl
  · (intro w hSw; skip; go_simp; try with_reducible rfl)
  rotate_left 1
  · exact fun _ _ _ h => h
  try simp only [Act.put, zD, zE, zF]
  refine wpAnyH_take (i := 8) (oi := ?_) (v := ?_) ?_ (by kernel_rfl) (by kernel_rfl) (by kernel_rfl) ?_ (Or.inl ⟨?_, ?_⟩) (by assumption) ?_
  rotate_left 2
  · (simp only [zA, zB, zC]; rfl)
  rotate_left 1
  · rfl
  · (intro w hSw; skip; go_simp; try with_reducible rfl)
  rotate_left 1
  · exact fun _ _ _ h => h
  try simp only [Act.put, zD, zE, zF]
  refine wpAnyH_ready (rs := [9]) (by kernel_rfl) (by simp) ?_
  refine AllReadyH.cons (o := ?_) ?_ (fun K hK => ?_) AllReadyH.nil
  rotate_left 1
  · (simp only [zA, zB, zC]; rfl)
  go_simp
  refine hK.out _ _ ?_ (fun hHeld => ?_)
  · exact (World.cell?_setCell_other _ _ _ _ (by simp <;> omega)).trans hHeld
  clear hK K
  try simp only [Act.put, zD, zE, zF]
  refine wpAnyH_done (by kernel_rfl) ?_ _
  obtain ⟨W1, hW1⟩ : ∃ W1, (w.setCell ⟨g, o + n, none⟩ (.int .i32 r)).drew = W1 := ⟨_, rfl⟩
  have b1 : Blk W1 g t (cs.setIfInBounds (o + n) (.int .i32 r)) := by rw [← hW1]; exact (HB.out.set_ (o + n) _).dr
  have HG : Hid (w.grownBy W1 (some g)) := hide (by rw [← hW1]; exact gb_dr (gb_set (gb_refl w g) _ _))
  rw [hW1]
  rw [hW1] at hHeld
  have f1 := b1.frozen (o + 16)
  have HB1 := hide b1
  clear x0 y0 f0 hW1 b1
  go_wp2
  go_ret
  exact ⟨rfl, ⟨_, HB1.out.set_ (o + 16) _, by simp, HA1.out, HA2.out⟩, gb_set HG.out _ _⟩
set_option maxHeartbeats 2000000 in
theorem cText_ok (g o : Nat) (t : TypeId) (cs : Array Value) (l : List Int) (w : World) (hB : Blk w g t cs) (h : ClAt cs o l) :
    Calls Tryz.prog 160 #[.pointer (some ⟨g, o, none⟩)] w fun e w' => ∃ v, e = .returned v ∧ Own (Rep.int .i32) 21 [] w.heap.size w' v l ∧ Below w.heap.size w w' := by
  have HC := hide (fun W (hW : Blk W g t cs) => Clone_ok _ _ _ l W (h.slc hW) (by have := h.len; omega))
  have x0 := (hB.cell (o + 16)).trans h.many
  have x1 := hB.lt
  have hn : l.length ≤ 16 := h.len
  have HB := hide hB
  clear h hB
  obtain ⟨n, hnn⟩ : ∃ n, l.length = n := ⟨_, rfl⟩
  rw [hnn] at x0 hn HC
  clear hnn
  have hn16 : (n : Int) ≤ 16 := by omega
  have hwn : IntKind.i64.wrap (n : Int) = n := by rw [IntKind.wrap_i64]; omega
  go_enter Tryz.func160, Tryz.ntmps160
  go_upto_region 3 with fail
  refine wp_region_held_drew (S := fun w' => w'.cell? ⟨g, o + 16, none⟩ = some (.int .i64 (n : Int))) (by kernel_rfl) (by exact x0) (fun hHeld => ?_)
  refine wpAnyH_take (i := 0) (oi := ?_) (v := ?_) ?_ (by kernel_rfl) (by kernel_rfl) (by kernel_rfl) ?_ (Or.inl ⟨?_, ?_⟩) (by assumption) ?_
  rotate_left 2
  · (simp only [zA, zB, zC]; rfl)
  rotate_left 1
  · rfl
  · (intro w hSw; skip; go_simp; try with_reducible rfl)
  rotate_left 1
  · exact fun _ _ _ h => h
  try simp only [Act.put, zD, zE, zF]
  refine wpAnyH_take (i := 1) (oi := ?_) (v := ?_) ?_ (by kernel_rfl) (by kernel_rfl) (by kernel_rfl) ?_ (Or.inl ⟨?_, ?_⟩) (by assumption) ?_
  rotate_left 2
  · (simp only [zA, zB, zC]; rfl)
  rotate_left 1
  · rfl
  · (intro w hSw; skip; go_simp; try with_reducible rfl)
  rotate_left 1
  · exact fun _ _ _ h => h
  try simp only [Act.put, zD, zE, zF]
  refine wpAnyH_take (i := 2) (oi := ?_) (v := ?_) ?_ (by kernel_rfl) (by kernel_rfl) (by kernel_rfl) ?_ (Or.inl ⟨?_, ?_⟩) (by assumption) ?_
  rotate_left 2
  · (simp only [zA, zB, zC]; rfl)
  rotate_left 1
  · rfl
  · (intro w hSw; skip; go_simp; try with_reducible rfl)
  rotate_left 1
  · exact fun _ _ _ h => h
  try simp only [Act.put, zD, zE, zF]
  refine wpAnyH_take (i := 3) (oi := ?_) (v := ?_) ?_ (by kernel_rfl) (by kernel_rfl) (by kernel_rfl) ?_ (Or.inl ⟨?_, ?_⟩) (by assumption) ?_
  rotate_left 2
  · (simp only [zA, zB, zC]; rfl)
  rotate_left 1
  · rfl
  · (intro w hSw; skip; go_simp; try with_reducible rfl)
  rotate_left 1
  · exact fun _ _ _ h => h
  try simp only [Act.put, zD, zE, zF]
  refine wpAnyH_take (i := 4) (oi := ?_) (v := ?_) ?_ (by kernel_rfl) (by kernel_rfl) (by kernel_rfl) ?_ (Or.inl ⟨?_, ?_⟩) (by assumption) ?_
  rotate_left 2
  · (simp only [zA, zB, zC]; rfl)
  rotate_left 1
  · rfl
  · (intro w hSw; skip; go_simp; try with_reducible rfl)
  rotate_left 1
  · exact fun _ _ _ h => h
  try simp only [Act.put, zD, zE, zF]
  refine wpAnyH_take (i := 5) (oi := ?_) (v := ?_) ?_ (by kernel_rfl) (by kernel_rfl) (by kernel_rfl) ?_ (Or.inl ⟨?_, ?_⟩) (by assumption) ?_
  rotate_left 2
  · (simp only [zA, zB, zC]; rfl)
  rotate_left 1
  · rfl
  · (intro w hSw; skip; go_simp; try with_reducible rfl)
  rotate_left 1
  · exact fun _ _ _ h => h
  try simp only [Act.put, zD, zE, zF]
  refine wpAnyH_take (i := 6) (oi := ?_) (v := ?_) ?_ (by kernel_rfl) (by kernel_rfl) (by kernel_rfl) ?_ (Or.inl ⟨?_, ?_⟩) (by assumption) ?_
  rotate_left 2
  · (simp only [zA, zB, zC]; rfl)
  rotate_left 1
  · rfl
  · (intro w hSw; skip; go_simp; try with_reducible rfl)
  rotate_left 1
  · exact fun _ _ _ h => h
  try simp only [Act.put, zD, zE, zF]
  refine wpAnyH_take (i := 7) (oi := ?_) (v := ?_) ?_ (by kernel_rfl) (by kernel_rfl) (by kernel_rfl) ?_ (Or.inl ⟨?_, ?_⟩) (by assumption) ?_
  rotate_left 2
  · (simp only [zA, zB, zC]; rfl)
  rotate_left 1
  · rfl
  · (intro w hSw; skip; go_simp; try with_reducible rfl)
  rotate_left 1
  · exact fun _ _ _ h => h
  try simp only [Act.put, zD, zE, zF]
  refine wpAnyH_ready (rs := [8]) (by kernel_rfl) (by simp) ?_
  refine AllReadyH.cons (o := ?_) ?_ (fun K hK => ?_) AllReadyH.nil
  rotate_left 1
  · (simp only [zA, zB, zC]; rfl)
  go_simp
  (go_at_call 58; refine (HC.out _ HB.out.dr).mono ?_; rintro e w3 ⟨v3, rfl, hv3, hb⟩)
  refine hK.out _ _ ?_ (fun hHeld => ?_)
  · exact (hb.cell (p := ⟨g, o + 16, none⟩) x1).trans (show w.drew.cell? _ = _ from hHeld)
  clear hK K
  try simp only [Act.put, zD, zE, zF]
  refine wpAnyH_take (i := 9) (oi := ?_) (v := ?_) ?_ (by kernel_rfl) (by kernel_rfl) (by kernel_rfl) ?_ (Or.inl ⟨?_, ?_⟩) (by assumption) ?_
  rotate_left 2
  · (simp only [zA, zB, zC]; rfl)
  rotate_left 1
  · rfl
  · (intro w hSw; skip; go_simp; try with_reducible rfl)
  rotate_left 1
  · exact fun _ _ _ h => h
  try simp only [Act.put, zD, zE, zF]
  refine wpAnyH_done (by kernel_rfl) ?_ _
  go_wp2
  go_ret
  exact ⟨_, rfl, hv3, below_drw1 hb⟩
end Go.Proofs.YtdjpdllehhecpaaGreatDoor
