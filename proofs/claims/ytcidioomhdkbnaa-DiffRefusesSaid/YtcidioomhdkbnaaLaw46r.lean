/-
  The law that any patch is applied to one that is right, or not at all: the walk returns true and leaves the memory that was there as it was.
-/
import Derived.Test.YtcidioomhdkbnaaWgtP
namespace Go.Proofs.Ytcidioomhdkbnaa
open Go.RowKit
set_option linter.unusedVariables false
set_option linter.unusedSimpArgs false

theorem and_take {α : Type} (f : α → Bool) (f0 : Bool) (l : List α) (k : Nat) (hk : k < l.length) {fb lk : Bool} (h : (f0 && (false || (l.take k).all f)) = fb) (hl : f l[k] = lk) : (fb && lk) = (f0 && (false || (l.take (k + 1)).all f)) := by
  rw [take_snoc' l k hk, List.all_append, ← h, ← hl]
  cases f0 <;> simp
theorem and_end {α : Type} (f : α → Bool) (f0 wh : Bool) (l : List α) (k : Nat) (hk : k ≤ l.length) {fb : Bool} (h : (f0 && (wh || (l.take k).all f)) = fb) (hc : (decide (k < l.length) && !wh) = false) : fb = (f0 && (wh || l.all f)) := by
  cases wh with
  | true => rw [← h]; simp
  | false =>
    have : ¬ k < l.length := by simpa using hc
    rw [List.take_of_length_le (by omega)] at h
    exact h.symm
theorem fits_some {v : ViewV} {p : PatchV} {u : ViewV} (h : applyF v p = some u) : ((((rightV v && (!p.whole || rightV p.view)) && (p.whole || p.cs.all (liesC v.wide v.high)))) && (p.whole || p.is.all (inR v.high))) = true := by
  cases hw : p.whole with
  | true =>
    obtain ⟨_, h1, h2⟩ := some_whole h hw
    rw [h1, h2]; rfl
  | false =>
    obtain ⟨h1, h2, h3, _⟩ := some_part h hw
    rw [h1, h2, h3]; rfl
theorem view_eq {u : ViewV} {wd hi r c : Int} {p au : Bool} (h1 : u.wide = wd) (h2 : u.high = hi) (h3 : u.row = r) (h4 : u.col = c) (h5 : u.pend = p) (h6 : u.auto = au) : u = ⟨wd, hi, u.lines, r, c, p, au⟩ := by
  obtain ⟨a, b, l, d, e, f, g⟩ := u
  simp only at h1 h2 h3 h4 h5 h6
  subst h1; subst h2; subst h3; subst h4; subst h5; subst h6
  rfl

set_option maxRecDepth 100000 in
set_option maxHeartbeats 8000000 in
theorem walkV_DiffRefuses (So To Uo Xo : Nat → Prop) (x y z u : Value) (wd hi r c wd2 hi2 r2 c2 pr pc : Int) (p au p2 au2 pp pa wh : Bool) (ls ls2 : List LineV) (cs : List ChangeV) (is : List Int) (w : World) (hx : Slc RLine So (fun b => b < w.heap.size) w x ls) (hy : Slc RLine To (fun b => b < w.heap.size) w y ls2) (hz : Slc RChange Uo (fun b => b < w.heap.size) w z cs) (hu : Slc (Rep.int .i64) Xo (fun b => b < w.heap.size) w u is) (hok : LinesTx ls) (hok2 : LinesTx ls2) (hct : ∀ c ∈ cs, ∀ x ∈ c.2.2, TextW x) (hww : (Lit.int .i64 wd).wf = true) :
    Calls Try.prog 5 #[.agg #[.int .i64 wd, .int .i64 hi, x, .int .i64 r, .int .i64 c, .bool p, .bool au], .agg #[z, u, .int .i64 pr, .int .i64 pc, .bool pp, .bool pa, .bool wh, .int .i64 wd2, .int .i64 hi2, y, .int .i64 r2, .int .i64 c2, .bool p2, .bool au2]] w fun e w' => e = .returned (.bool true) ∧ Below w.heap.size w w' := by
  obtain ⟨A, cp, rfl, _, _, _⟩ := hx.open_
  obtain ⟨A2, cp2, rfl, _, _, _⟩ := hy.open_
  obtain ⟨A3, cp3, rfl, _, _, _⟩ := hz.open_
  obtain ⟨A4, cp4, rfl, _, _, _⟩ := hu.open_
  have hb0 : Below w.heap.size w ((w.alloc (.cells #[.int .i64 wd, .int .i64 hi, .slice A ls.length cp, .int .i64 r, .int .i64 c, .bool p, .bool au] 26)).alloc (.cells #[.slice A3 cs.length cp3, .slice A4 is.length cp4, .int .i64 pr, .int .i64 pc, .bool pp, .bool pa, .bool wh, .int .i64 wd2, .int .i64 hi2, .slice A2 ls2.length cp2, .int .i64 r2, .int .i64 c2, .bool p2, .bool au2] 33)) := ((Below.refl _ w).alloc (Nat.le_refl _) _).alloc (by simp) _
  have bv : Blk ((w.alloc (.cells #[.int .i64 wd, .int .i64 hi, .slice A ls.length cp, .int .i64 r, .int .i64 c, .bool p, .bool au] 26)).alloc (.cells #[.slice A3 cs.length cp3, .slice A4 is.length cp4, .int .i64 pr, .int .i64 pc, .bool pp, .bool pa, .bool wh, .int .i64 wd2, .int .i64 hi2, .slice A2 ls2.length cp2, .int .i64 r2, .int .i64 c2, .bool p2, .bool au2] 33)) w.heap.size 26 #[.int .i64 wd, .int .i64 hi, .slice A ls.length cp, .int .i64 r, .int .i64 c, .bool p, .bool au] := (Blk.new w 26 #[.int .i64 wd, .int .i64 hi, .slice A ls.length cp, .int .i64 r, .int .i64 c, .bool p, .bool au]).alloc _
  have bp : Blk ((w.alloc (.cells #[.int .i64 wd, .int .i64 hi, .slice A ls.length cp, .int .i64 r, .int .i64 c, .bool p, .bool au] 26)).alloc (.cells #[.slice A3 cs.length cp3, .slice A4 is.length cp4, .int .i64 pr, .int .i64 pc, .bool pp, .bool pa, .bool wh, .int .i64 wd2, .int .i64 hi2, .slice A2 ls2.length cp2, .int .i64 r2, .int .i64 c2, .bool p2, .bool au2] 33)) (w.heap.size + 1) 33 #[.slice A3 cs.length cp3, .slice A4 is.length cp4, .int .i64 pr, .int .i64 pc, .bool pp, .bool pa, .bool wh, .int .i64 wd2, .int .i64 hi2, .slice A2 ls2.length cp2, .int .i64 r2, .int .i64 c2, .bool p2, .bool au2] := by
    have := Blk.new (w.alloc (.cells #[.int .i64 wd, .int .i64 hi, .slice A ls.length cp, .int .i64 r, .int .i64 c, .bool p, .bool au] 26)) 33 #[.slice A3 cs.length cp3, .slice A4 is.length cp4, .int .i64 pr, .int .i64 pc, .bool pp, .bool pa, .bool wh, .int .i64 wd2, .int .i64 hi2, .slice A2 ls2.length cp2, .int .i64 r2, .int .i64 c2, .bool p2, .bool au2]
    simpa using this
  have HX := hide (fun W (h : Below w.heap.size w W) => (hx.mono (Keep.below (S := So) h) (Keep.below (S := fun b => b < w.heap.size) h)).mono (Keep.refl _ _) (Keep.weaken (S' := fun b => b < W.heap.size) fun b hb => by have := h.size; omega))
  have HY := hide (fun W (h : Below w.heap.size w W) => (hy.mono (Keep.below (S := To) h) (Keep.below (S := fun b => b < w.heap.size) h)).mono (Keep.refl _ _) (Keep.weaken (S' := fun b => b < W.heap.size) fun b hb => by have := h.size; omega))
  have HZ := hide (fun W (h : Below w.heap.size w W) => (hz.mono (Keep.below (S := Uo) h) (Keep.below (S := fun b => b < w.heap.size) h)).mono (Keep.refl _ _) (Keep.weaken (S' := fun b => b < W.heap.size) fun b hb => by have := h.size; omega))
  have HU := hide (fun W (h : Below w.heap.size w W) => (hu.mono (Keep.below (S := Xo) h) (Keep.below (S := fun b => b < w.heap.size) h)).mono (Keep.refl _ _) (Keep.weaken (S' := fun b => b < W.heap.size) fun b hb => by have := h.size; omega))
  have HGA := hide (fun W (h : Below w.heap.size w W) => great46_ok _ _ wd hi r c p au ls W (HX.out W h) hok.1)
  have HGB := hide (fun W (h : Below w.heap.size w W) => great46_ok _ _ wd2 hi2 r2 c2 p2 au2 ls2 W (HY.out W h) hok2.1)
  have HKA := hide hok.2
  have HKB := hide hok2.2
  have HCT := hide hct
  clear hok hok2 hct
  generalize hW0 : (w.alloc (.cells #[.int .i64 wd, .int .i64 hi, .slice A ls.length cp, .int .i64 r, .int .i64 c, .bool p, .bool au] 26)).alloc (.cells #[.slice A3 cs.length cp3, .slice A4 is.length cp4, .int .i64 pr, .int .i64 pc, .bool pp, .bool pa, .bool wh, .int .i64 wd2, .int .i64 hi2, .slice A2 ls2.length cp2, .int .i64 r2, .int .i64 c2, .bool p2, .bool au2] 33) = w0 at *
  have hz0 := hb0.size
  go_enter Try.func5, Try.ntmps5
  have y0 := bv.cell 0; have y1 := bv.cell 1; have y2 := bv.cell 2; have y3 := bv.cell 3; have y4 := bv.cell 4; have y5 := bv.cell 5; have y6 := bv.cell 6; simp only [List.getElem?_toArray, List.getElem?_cons_succ, List.getElem?_cons_zero] at y0 y1 y2 y3 y4 y5 y6; have d0 := bp.cell 0; have d1 := bp.cell 1; have d2 := bp.cell 2; have d3 := bp.cell 3; have d4 := bp.cell 4; have d5 := bp.cell 5; have d6 := bp.cell 6; have d7 := bp.cell 7; have d8 := bp.cell 8; have d9 := bp.cell 9; have d10 := bp.cell 10; have d11 := bp.cell 11; have d12 := bp.cell 12; have d13 := bp.cell 13; simp only [List.getElem?_toArray, List.getElem?_cons_succ, List.getElem?_cons_zero] at d0 d1 d2 d3 d4 d5 d6 d7 d8 d9 d10 d11 d12 d13
  go_wp2_with fail
  refine (works46_ok _).mono ?_
  rintro e w1 ⟨rfl, hc1⟩
  have hb1 := hb0.trans (hc1.mono hz0)
  have hz1 := hb1.size
  have bv := bv.same hc1
  have bp := bp.same hc1
  clear hc1
  have y0 := bv.cell 0; have y1 := bv.cell 1; have y2 := bv.cell 2; have y3 := bv.cell 3; have y4 := bv.cell 4; have y5 := bv.cell 5; have y6 := bv.cell 6; simp only [List.getElem?_toArray, List.getElem?_cons_succ, List.getElem?_cons_zero] at y0 y1 y2 y3 y4 y5 y6; have d0 := bp.cell 0; have d1 := bp.cell 1; have d2 := bp.cell 2; have d3 := bp.cell 3; have d4 := bp.cell 4; have d5 := bp.cell 5; have d6 := bp.cell 6; have d7 := bp.cell 7; have d8 := bp.cell 8; have d9 := bp.cell 9; have d10 := bp.cell 10; have d11 := bp.cell 11; have d12 := bp.cell 12; have d13 := bp.cell 13; simp only [List.getElem?_toArray, List.getElem?_cons_succ, List.getElem?_cons_zero] at d0 d1 d2 d3 d4 d5 d6 d7 d8 d9 d10 d11 d12 d13
  go_wp2_with fail
  refine (HGA.out _ hb1).mono ?_
  rintro e w2 ⟨vg, rfl, ⟨g, rfl, hga⟩, hc2⟩
  have hb2 := hb1.trans (hc2.mono hz1)
  have hz2 := hb2.size
  have bv := bv.same hc2
  have bp := bp.same hc2
  clear hc2
  have y0 := bv.cell 0; have y1 := bv.cell 1; have y2 := bv.cell 2; have y3 := bv.cell 3; have y4 := bv.cell 4; have y5 := bv.cell 5; have y6 := bv.cell 6; simp only [List.getElem?_toArray, List.getElem?_cons_succ, List.getElem?_cons_zero] at y0 y1 y2 y3 y4 y5 y6; have d0 := bp.cell 0; have d1 := bp.cell 1; have d2 := bp.cell 2; have d3 := bp.cell 3; have d4 := bp.cell 4; have d5 := bp.cell 5; have d6 := bp.cell 6; have d7 := bp.cell 7; have d8 := bp.cell 8; have d9 := bp.cell 9; have d10 := bp.cell 10; have d11 := bp.cell 11; have d12 := bp.cell 12; have d13 := bp.cell 13; simp only [List.getElem?_toArray, List.getElem?_cons_succ, List.getElem?_cons_zero] at d0 d1 d2 d3 d4 d5 d6 d7 d8 d9 d10 d11 d12 d13
  cases g with
  | true =>
    clear hga
    go_wp2_with fail
    refine (works46_ok _).mono ?_
    rintro e w9 ⟨rfl, hc9⟩
    go_wp2
    go_ret
    exact ⟨rfl, hb2.trans (hc9.mono hb2.size)⟩
  | false =>
  have HGA2 := hide (hga rfl)
  clear hga
  go_wp2_with fail
  refine (HGB.out _ hb2).mono ?_
  rintro e w3 ⟨vg, rfl, ⟨g, rfl, hgb⟩, hc3⟩
  have hb3 := hb2.trans (hc3.mono hz2)
  have hz3 := hb3.size
  have bv := bv.same hc3
  have bp := bp.same hc3
  clear hc3
  have y0 := bv.cell 0; have y1 := bv.cell 1; have y2 := bv.cell 2; have y3 := bv.cell 3; have y4 := bv.cell 4; have y5 := bv.cell 5; have y6 := bv.cell 6; simp only [List.getElem?_toArray, List.getElem?_cons_succ, List.getElem?_cons_zero] at y0 y1 y2 y3 y4 y5 y6; have d0 := bp.cell 0; have d1 := bp.cell 1; have d2 := bp.cell 2; have d3 := bp.cell 3; have d4 := bp.cell 4; have d5 := bp.cell 5; have d6 := bp.cell 6; have d7 := bp.cell 7; have d8 := bp.cell 8; have d9 := bp.cell 9; have d10 := bp.cell 10; have d11 := bp.cell 11; have d12 := bp.cell 12; have d13 := bp.cell 13; simp only [List.getElem?_toArray, List.getElem?_cons_succ, List.getElem?_cons_zero] at d0 d1 d2 d3 d4 d5 d6 d7 d8 d9 d10 d11 d12 d13
  cases g with
  | true =>
    clear hgb
    go_wp2_with fail
    refine (works46_ok _).mono ?_
    rintro e w9 ⟨rfl, hc9⟩
    go_wp2
    go_ret
    exact ⟨rfl, hb3.trans (hc9.mono hb3.size)⟩
  | false =>
  have HGB2 := hide (hgb rfl)
  clear hgb HGA HGB
  by_cases n1 : (60 : Int) < cs.length
  · go_wp2_with fail
    refine (works46_ok _).mono ?_
    rintro e w9 ⟨rfl, hc9⟩
    go_wp2
    go_ret
    exact ⟨rfl, hb3.trans (hc9.mono hb3.size)⟩
  · by_cases n2 : (200 : Int) < is.length
    · go_wp2_with fail
      refine (works46_ok _).mono ?_
      rintro e w9 ⟨rfl, hc9⟩
      go_wp2
      go_ret
      exact ⟨rfl, hb3.trans (hc9.mono hb3.size)⟩
    · have HTA : Hid (TextsOk ls) := hide ⟨by have := HGA2.out.1; omega, fun l hl => by have := HGA2.out.2 l hl; omega, HKA.out⟩
      have HTB : Hid (TextsOk ls2) := hide ⟨by have := HGB2.out.1; omega, fun l hl => by have := HGB2.out.2 l hl; omega, HKB.out⟩
      have HRA := hide (fun W (h : Below w.heap.size w W) => rRight43_ok _ _ wd hi r c p au ls W (HX.out W h) HTA.out.w HTA.out.n)
      have HRB := hide (fun W (h : Below w.heap.size w W) => rRight43_ok _ _ wd2 hi2 r2 c2 p2 au2 ls2 W (HY.out W h) HTB.out.w HTB.out.n)
      have HAP := hide (fun W (h : Below w.heap.size w W) => Apply_ok _ _ _ _ (.slice A ls.length cp) (.slice A2 ls2.length cp2) (.slice A3 cs.length cp3) (.slice A4 is.length cp4) wd hi r c wd2 hi2 r2 c2 pr pc p au p2 au2 pp pa wh ls ls2 cs is W (HX.out W h) (HY.out W h) (HZ.out W h) (HU.out W h) HTA.out HTB.out HCT.out (by omega) (by omega) hww)
      obtain ⟨f0, hf0⟩ : ∃ f0, (rightV ⟨wd, hi, ls, r, c, p, au⟩ && (!wh || rightV ⟨wd2, hi2, ls2, r2, c2, p2, au2⟩)) = f0 := ⟨_, rfl⟩
      have HF0 := hide hf0
      clear hf0 HGA2 HGB2 HKA HKB HCT
      go_upto_region 3 with fail
      go_cut [5] from 35 to 46 (fun s wx => s = .bool f0 ∧ Blk wx w.heap.size 26 #[.int .i64 wd, .int .i64 hi, .slice A ls.length cp, .int .i64 r, .int .i64 c, .bool p, .bool au] ∧ Blk wx (w.heap.size + 1) 33 #[.slice A3 cs.length cp3, .slice A4 is.length cp4, .int .i64 pr, .int .i64 pc, .bool pp, .bool pa, .bool wh, .int .i64 wd2, .int .i64 hi2, .slice A2 ls2.length cp2, .int .i64 r2, .int .i64 c2, .bool p2, .bool au2] ∧ Below w.heap.size w wx)
      case first =>
        go_wp2_with fail
        refine (HRA.out _ hb3).mono ?_
        cases ra : rightV ⟨wd, hi, ls, r, c, p, au⟩ with
        | false =>
          rintro e w4 ⟨rfl, hc4⟩
          have hf := HF0.out
          rw [ra] at hf
          have HF := hide hf
          clear hf ra y0 y1 y2 y3 y4 y5 y6 d0 d1 d2 d3 d4 d5 d6 d7 d8 d9 d10 d11 d12 d13
          go_wp2
          go_meet
          exact ⟨bool_eq HF.out, bv.same hc4, bp.same hc4, hb3.trans (hc4.mono hz3)⟩
        | true =>
          rintro e w4 ⟨rfl, hc4⟩
          have hb4 := hb3.trans (hc4.mono hz3)
          have bv := bv.same hc4
          have bp := bp.same hc4
          have hf := HF0.out
          rw [ra] at hf
          clear ra y0 y1 y2 y3 y4 y5 y6 d0 d1 d2 d3 d4 d5 d6 d7 d8 d9 d10 d11 d12 d13 hc4
          have y0 := bv.cell 0; have y1 := bv.cell 1; have y2 := bv.cell 2; have y3 := bv.cell 3; have y4 := bv.cell 4; have y5 := bv.cell 5; have y6 := bv.cell 6; simp only [List.getElem?_toArray, List.getElem?_cons_succ, List.getElem?_cons_zero] at y0 y1 y2 y3 y4 y5 y6; have d0 := bp.cell 0; have d1 := bp.cell 1; have d2 := bp.cell 2; have d3 := bp.cell 3; have d4 := bp.cell 4; have d5 := bp.cell 5; have d6 := bp.cell 6; have d7 := bp.cell 7; have d8 := bp.cell 8; have d9 := bp.cell 9; have d10 := bp.cell 10; have d11 := bp.cell 11; have d12 := bp.cell 12; have d13 := bp.cell 13; simp only [List.getElem?_toArray, List.getElem?_cons_succ, List.getElem?_cons_zero] at d0 d1 d2 d3 d4 d5 d6 d7 d8 d9 d10 d11 d12 d13
          cases wh with
          | false =>
            have HF := hide hf
            clear hf
            go_wp2
            go_meet
            exact ⟨bool_eq HF.out, bv, bp, hb4⟩
          | true =>
            have HF := hide hf
            clear hf
            go_wp2_with fail
            refine (HRB.out _ hb4).mono ?_
            rintro e w5 ⟨rfl, hc5⟩
            clear y0 y1 y2 y3 y4 y5 y6 d0 d1 d2 d3 d4 d5 d6 d7 d8 d9 d10 d11 d12 d13
            have HF2 : Hid (rightV ⟨wd2, hi2, ls2, r2, c2, p2, au2⟩ = f0) := hide (by have := HF.out; simpa using this)
            rw [HF2.out]
            go_wp2
            go_meet
            exact ⟨rfl, bv.same hc5, bp.same hc5, hb4.trans (hc5.mono hb4.size)⟩
      case rest =>
        clear bv bp y0 y1 y2 y3 y4 y5 y6 d0 d1 d2 d3 d4 d5 d6 d7 d8 d9 d10 d11 d12 d13 HRB
        obtain ⟨rfl, bv, bp, hb4⟩ := hcut
        have hz4 := hb4.size
        go_wp2
        go_loopw [5, 6] (fun s iv wr => ∃ k : Nat, k ≤ cs.length ∧ iv = .int .i64 k ∧ s = .bool (f0 && (wh || (cs.take k).all (liesC wd hi))) ∧ Blk wr w.heap.size 26 #[.int .i64 wd, .int .i64 hi, .slice A ls.length cp, .int .i64 r, .int .i64 c, .bool p, .bool au] ∧ Blk wr (w.heap.size + 1) 33 #[.slice A3 cs.length cp3, .slice A4 is.length cp4, .int .i64 pr, .int .i64 pc, .bool pp, .bool pa, .bool wh, .int .i64 wd2, .int .i64 hi2, .slice A2 ls2.length cp2, .int .i64 r2, .int .i64 c2, .bool p2, .bool au2] ∧ Below w.heap.size w wr) (fun _ iv _ => cs.length - (intOf iv).toNat)
        case atStart => exact ⟨0, Nat.zero_le _, rfl, bool_eq (by simp), bv, bp, hb4⟩
        case round =>
          clear bv bp hb4 hz4
          obtain ⟨k, hk, rfl, rfl, bv, bp, hbr⟩ := hrel
          have hzr := hbr.size
          obtain ⟨fb, hfb⟩ : ∃ fb, (f0 && (wh || (cs.take k).all (liesC wd hi))) = fb := ⟨_, rfl⟩
          rw [hfb]
          have HFB := hide hfb
          obtain ⟨cb, hcb⟩ : ∃ cb, (decide (k < cs.length) && !wh) = cb := ⟨_, rfl⟩
          have HCB := hide hcb
          clear hfb hcb
          have y0 := bv.cell 0; have y1 := bv.cell 1; have y2 := bv.cell 2; have y3 := bv.cell 3; have y4 := bv.cell 4; have y5 := bv.cell 5; have y6 := bv.cell 6; simp only [List.getElem?_toArray, List.getElem?_cons_succ, List.getElem?_cons_zero] at y0 y1 y2 y3 y4 y5 y6; have d0 := bp.cell 0; have d1 := bp.cell 1; have d2 := bp.cell 2; have d3 := bp.cell 3; have d4 := bp.cell 4; have d5 := bp.cell 5; have d6 := bp.cell 6; have d7 := bp.cell 7; have d8 := bp.cell 8; have d9 := bp.cell 9; have d10 := bp.cell 10; have d11 := bp.cell 11; have d12 := bp.cell 12; have d13 := bp.cell 13; simp only [List.getElem?_toArray, List.getElem?_cons_succ, List.getElem?_cons_zero] at d0 d1 d2 d3 d4 d5 d6 d7 d8 d9 d10 d11 d12 d13
          go_upto_region 5 with fail
          go_cut [56] from 47 to 99 (fun s wx => s = .bool cb ∧ wr = wx)
          case first =>
            by_cases hlt : k < cs.length
            · have hki : (k : Int) < cs.length := by omega
              cases wh with
              | true =>
                have HE : Hid (false = cb) := hide (by rw [← HCB.out]; simp)
                go_wp2
                go_meet
                exact ⟨bool_eq HE.out, rfl⟩
              | false =>
                have HE : Hid (true = cb) := hide (by rw [← HCB.out]; simp [hlt])
                go_wp2
                go_meet
                exact ⟨bool_eq HE.out, rfl⟩
            · have hki : ¬ (k : Int) < cs.length := by omega
              have HE : Hid (false = cb) := hide (by rw [← HCB.out]; simp [hlt])
              go_wp2
              go_meet
              exact ⟨bool_eq HE.out, rfl⟩
          case rest =>
            obtain ⟨rfl, rfl⟩ := hcut
            cases cb with
            | true =>
              have hcb := HCB.out
              rw [Bool.and_eq_true, decide_eq_true_eq] at hcb
              obtain ⟨hlt, hwh⟩ := hcb
              have hwf : wh = false := by simpa using hwh
              subst hwf
              have HHK := hide hk
              obtain ⟨ab, off, v8, rfl, _, p00, p01, p02, hrw, hcw, hcv⟩ := change_at (HZ.out _ hbr).slb hlt
              obtain ⟨A8, c8, rfl, _, _, _⟩ := hcv.open_
              have hki : (k : Int) < cs.length := by omega
              obtain ⟨lk, hlk⟩ : ∃ lk, liesC wd hi cs[k] = lk := ⟨_, rfl⟩
              have HRES := hide (and_take (liesC wd hi) f0 cs k hlt HFB.out hlk)
              obtain ⟨ck, hck⟩ : ∃ ck, cs[k] = ck := ⟨_, rfl⟩
              obtain ⟨row, col, m⟩ := ck
              rw [hck] at p00 p01 hrw hcw hlk
              simp only [hck] at p02 hcv
              simp only at p00 p01 hrw hcw
              have HLK : Hid (liesB row col m.length wd hi = lk) := hide hlk
              clear hck hlk hcv hwh HHK
              go_upto_region 8 with fail
              have hb5 := hbr.alloc hzr (.cells #[.int .i64 row, .int .i64 col, .slice A8 m.length c8] 38)
              have bv5 := bv.alloc (.cells #[.int .i64 row, .int .i64 col, .slice A8 m.length c8] 38)
              have bp5 := bp.alloc (.cells #[.int .i64 row, .int .i64 col, .slice A8 m.length c8] 38)
              have bc := Blk.new wr 38 #[.int .i64 row, .int .i64 col, .slice A8 m.length c8]
              obtain ⟨gc, hgc⟩ : ∃ gc, wr.heap.size = gc := ⟨_, rfl⟩
              rw [hgc] at bc ⊢
              generalize wr.alloc (.cells #[.int .i64 row, .int .i64 col, .slice A8 m.length c8] 38) = w5 at *
              clear hgc y0 y1 y2 y3 y4 y5 y6 d0 d1 d2 d3 d4 d5 d6 d7 d8 d9 d10 d11 d12 d13 p00 p01 p02
              have k0 := bc.cell 0
              have k1 := bc.cell 1
              have k2 := bc.cell 2
              have y0 := bv5.cell 0
              have y1 := bv5.cell 1
              simp only [List.getElem?_toArray, List.getElem?_cons_succ, List.getElem?_cons_zero] at k0 k1 k2 y0 y1
              obtain ⟨h1, h2⟩ := i64_wf hww
              obtain ⟨h3, h4⟩ := i64_wf hcw
              cases fb with
              | false =>
                go_wp2
                go_roundw
                case rel => exact ⟨k + 1, by omega, by go_num, bool_eq (HRES.out), bv5, bp5, hb5⟩
                case measure => simp [intOf]; omega
              | true =>
                by_cases g1 : 0 ≤ row
                · by_cases g2 : row < hi
                  · by_cases g3 : 0 ≤ col
                    · by_cases g4 : col < wd
                      · have hs : IntKind.i64.wrap (wd - col) = wd - col := IntWalk.i64_in _ (by omega)
                        by_cases g5 : (m.length : Int) ≤ wd - col
                        · have HL : Hid (true = lk) := hide (HLK.out ▸ (decide_eq_true ⟨g1, g2, g3, g4, g5⟩).symm)
                          go_wp2
                          go_roundw
                          case rel => exact ⟨k + 1, by omega, by go_num, bool_eq (HL.out.trans HRES.out), bv5, bp5, hb5⟩
                          case measure => simp [intOf]; omega
                        · have HL : Hid (false = lk) := hide (HLK.out ▸ (decide_eq_false (fun h => g5 h.2.2.2.2)).symm)
                          go_wp2
                          go_roundw
                          case rel => exact ⟨k + 1, by omega, by go_num, bool_eq (HL.out.trans HRES.out), bv5, bp5, hb5⟩
                          case measure => simp [intOf]; omega
                      · have HL : Hid (false = lk) := hide (HLK.out ▸ (decide_eq_false (fun h => g4 h.2.2.2.1)).symm)
                        go_wp2
                        go_roundw
                        case rel => exact ⟨k + 1, by omega, by go_num, bool_eq (HL.out.trans HRES.out), bv5, bp5, hb5⟩
                        case measure => simp [intOf]; omega
                    · have HL : Hid (false = lk) := hide (HLK.out ▸ (decide_eq_false (fun h => g3 h.2.2.1)).symm)
                      go_wp2
                      go_roundw
                      case rel => exact ⟨k + 1, by omega, by go_num, bool_eq (HL.out.trans HRES.out), bv5, bp5, hb5⟩
                      case measure => simp [intOf]; omega
                  · have HL : Hid (false = lk) := hide (HLK.out ▸ (decide_eq_false (fun h => g2 h.2.1)).symm)
                    go_wp2
                    go_roundw
                    case rel => exact ⟨k + 1, by omega, by go_num, bool_eq (HL.out.trans HRES.out), bv5, bp5, hb5⟩
                    case measure => simp [intOf]; omega
                · have HL : Hid (false = lk) := hide (HLK.out ▸ (decide_eq_false (fun h => g1 h.1)).symm)
                  go_wp2
                  go_roundw
                  case rel => exact ⟨k + 1, by omega, by go_num, bool_eq (HL.out.trans HRES.out), bv5, bp5, hb5⟩
                  case measure => simp [intOf]; omega
            | false =>
              have HF1 := hide (and_end (liesC wd hi) f0 wh cs k hk HFB.out HCB.out)
              obtain ⟨f1, hf1⟩ : ∃ f1, (f0 && (wh || cs.all (liesC wd hi))) = f1 := ⟨_, rfl⟩
              have hfb1 : fb = f1 := HF1.out.trans hf1
              have HF1E := hide hf1
              clear HF1 hf1 HCB HFB
              subst hfb1
              go_wp2
              go_loopw [5, 8] (fun s iv ws => ∃ j : Nat, j ≤ is.length ∧ iv = .int .i64 j ∧ s = .bool (fb && (wh || (is.take j).all (inR hi))) ∧ ∃ q, ws = wr.drewN q) (fun _ iv _ => is.length - (intOf iv).toNat)
              case atStart => exact ⟨0, Nat.zero_le _, rfl, bool_eq (by simp), 0, rfl⟩
              case round =>
                obtain ⟨j, hj, rfl, rfl, q, rfl⟩ := hrel
                obtain ⟨fd, hfd⟩ : ∃ fd, (fb && (wh || (is.take j).all (inR hi))) = fd := ⟨_, rfl⟩
                rw [hfd]
                have HFD := hide hfd
                obtain ⟨cb, hcb⟩ : ∃ cb, (decide (j < is.length) && !wh) = cb := ⟨_, rfl⟩
                have HCB := hide hcb
                clear hfd hcb
                go_upto_region 10 with fail
                go_cut [109] from 100 to 130 (fun s wx => s = .bool cb ∧ wr.drewN q = wx)
                case first =>
                  by_cases hlt : j < is.length
                  · have hki : (j : Int) < is.length := by omega
                    cases wh with
                    | true =>
                      have HE : Hid (false = cb) := hide (by rw [← HCB.out]; simp)
                      go_wp2
                      go_meet
                      exact ⟨bool_eq HE.out, rfl⟩
                    | false =>
                      have HE : Hid (true = cb) := hide (by rw [← HCB.out]; simp [hlt])
                      go_wp2
                      go_meet
                      exact ⟨bool_eq HE.out, rfl⟩
                  · have hki : ¬ (j : Int) < is.length := by omega
                    have HE : Hid (false = cb) := hide (by rw [← HCB.out]; simp [hlt])
                    go_wp2
                    go_meet
                    exact ⟨bool_eq HE.out, rfl⟩
                case rest =>
                  obtain ⟨rfl, rfl⟩ := hcut
                  cases cb with
                  | true =>
                    have hcb := HCB.out
                    rw [Bool.and_eq_true, decide_eq_true_eq] at hcb
                    obtain ⟨hlt, hwh⟩ := hcb
                    have hwf : wh = false := by simpa using hwh
                    subst hwf
                    obtain ⟨ab, off, rfl, _, p00, hiw⟩ := ints_at (HU.out _ hbr).slb hlt
                    have hji : (j : Int) < is.length := by omega
                    obtain ⟨ij, hij⟩ : ∃ ij, is[j] = ij := ⟨_, rfl⟩
                    obtain ⟨lk, hlk⟩ : ∃ lk, inR hi is[j] = lk := ⟨_, rfl⟩
                    have HRES := hide (and_take (inR hi) fb is j hlt HFD.out hlk)
                    rw [hij] at p00 hlk
                    have HLK := hide hlk
                    clear hij hlk hwh hiw
                    go_upto_region 12 with fail
                    refine wp_region_quiet_lit (by kernel_rfl) (by kernel_rfl) ?_
                    cases fd with
                    | false =>
                      repeat (go_big_quiet_step (fail))
                      refine wpQuiet_nil ?_
                      intro _ hw'
                      obtain ⟨nq, hw''⟩ := hw'
                      subst hw''
                      go_wp2
                      go_roundw
                      case rel => exact ⟨j + 1, by omega, by go_num, bool_eq (HRES.out), _, rfl⟩
                      case measure => simp [intOf]; omega
                    | true =>
                      by_cases g1 : 0 ≤ ij
                      · by_cases g2 : ij < hi
                        · have HL : Hid (true = lk) := hide (HLK.out ▸ (decide_eq_true ⟨g1, g2⟩).symm)
                          repeat (go_big_quiet_step (fail))
                          refine wpQuiet_nil ?_
                          intro _ hw'
                          obtain ⟨nq, hw''⟩ := hw'
                          subst hw''
                          go_wp2
                          go_roundw
                          case rel => exact ⟨j + 1, by omega, by go_num, bool_eq (HL.out.trans HRES.out), _, rfl⟩
                          case measure => simp [intOf]; omega
                        · have HL : Hid (false = lk) := hide (HLK.out ▸ (decide_eq_false (fun h => g2 h.2)).symm)
                          have t1 : decide (ij < hi) = false := decide_eq_false g2
                          repeat (go_big_quiet_step (fail))
                          refine wpQuiet_nil ?_
                          intro _ hw'
                          obtain ⟨nq, hw''⟩ := hw'
                          subst hw''
                          go_wp2
                          go_roundw
                          case rel => exact ⟨j + 1, by omega, by go_num, bool_eq (HL.out.trans HRES.out), _, rfl⟩
                          case measure => simp [intOf]; omega
                      · have HL : Hid (false = lk) := hide (HLK.out ▸ (decide_eq_false (fun h => g1 h.1)).symm)
                        have t1 : decide (0 ≤ ij) = false := decide_eq_false g1
                        repeat (go_big_quiet_step (fail))
                        refine wpQuiet_nil ?_
                        intro _ hw'
                        obtain ⟨nq, hw''⟩ := hw'
                        subst hw''
                        go_wp2
                        go_roundw
                        case rel => exact ⟨j + 1, by omega, by go_num, bool_eq (HL.out.trans HRES.out), _, rfl⟩
                        case measure => simp [intOf]; omega
                  | false =>
                    have HF2 := hide (and_end (inR hi) fb wh is j hj HFD.out HCB.out)
                    have bv2 := bv.drewN q
                    have bp2 := bp.drewN q
                    have hbq := below_drewN hbr q
                    clear bv bp hbr hzr y0 y1 y2 y3 y4 y5 y6 d0 d1 d2 d3 d4 d5 d6 d7 d8 d9 d10 d11 d12 d13 HFD HCB
                    generalize wr.drewN q = wz at *
                    have bv := bv2; have bp := bp2; clear bv2 bp2
                    have hzq := hbq.size
                    have y0 := bv.cell 0; have y1 := bv.cell 1; have y2 := bv.cell 2; have y3 := bv.cell 3; have y4 := bv.cell 4; have y5 := bv.cell 5; have y6 := bv.cell 6; simp only [List.getElem?_toArray, List.getElem?_cons_succ, List.getElem?_cons_zero] at y0 y1 y2 y3 y4 y5 y6; have d0 := bp.cell 0; have d1 := bp.cell 1; have d2 := bp.cell 2; have d3 := bp.cell 3; have d4 := bp.cell 4; have d5 := bp.cell 5; have d6 := bp.cell 6; have d7 := bp.cell 7; have d8 := bp.cell 8; have d9 := bp.cell 9; have d10 := bp.cell 10; have d11 := bp.cell 11; have d12 := bp.cell 12; have d13 := bp.cell 13; simp only [List.getElem?_toArray, List.getElem?_cons_succ, List.getElem?_cons_zero] at d0 d1 d2 d3 d4 d5 d6 d7 d8 d9 d10 d11 d12 d13
                    go_wp2_with fail
                    refine (HAP.out _ hbq).mono ?_
                    obtain ⟨res, hres⟩ : ∃ res, applyF ⟨wd, hi, ls, r, c, p, au⟩ ⟨cs, is, pr, pc, pp, pa, wh, ⟨wd2, hi2, ls2, r2, c2, p2, au2⟩⟩ = res := ⟨_, rfl⟩
                    rw [hres]
                    have HRS := hide hres
                    rintro e wA ⟨hsome, hnone, hcA⟩
                    have hbA := hbq.trans (hcA.mono hzq)
                    have hzA := hbA.size
                    have bv := bv.same hcA
                    have bp := bp.same hcA
                    clear hres hcA y0 y1 y2 y3 y4 y5 y6 d0 d1 d2 d3 d4 d5 d6 d7 d8 d9 d10 d11 d12 d13
                    cases res with
                    | none =>
                      obtain rfl := hnone rfl
                      clear hsome hnone
                      go_upto_region 14 with fail
                      have bo := Blk.new wA 26 #[.int .i64 0, .int .i64 0, .slice none 0 0, .int .i64 0, .int .i64 0, .bool false, .bool false]
                      have hbB := hbA.alloc hzA (.cells #[.int .i64 0, .int .i64 0, .slice none 0 0, .int .i64 0, .int .i64 0, .bool false, .bool false] 26)
                      obtain ⟨go, hgo⟩ : ∃ go, wA.heap.size = go := ⟨_, rfl⟩
                      rw [hgo] at bo ⊢
                      generalize wA.alloc (.cells #[.int .i64 0, .int .i64 0, .slice none 0 0, .int .i64 0, .int .i64 0, .bool false, .bool false] 26) = wB at *
                      have o0 := bo.cell 0; have o1 := bo.cell 1; have o2 := bo.cell 2; have o3 := bo.cell 3; have o4 := bo.cell 4; have o5 := bo.cell 5; have o6 := bo.cell 6; simp only [List.getElem?_toArray, List.getElem?_cons_succ, List.getElem?_cons_zero] at o0 o1 o2 o3 o4 o5 o6
                      go_wp2
                      go_ret
                      exact ⟨rfl, hbB⟩
                    | some uv =>
                      obtain ⟨ov, rfl, hln⟩ := hsome uv rfl
                      have hfd : fd = true := by
                        rw [HF2.out, ← HF1E.out, ← HF0.out]
                        exact fits_some HRS.out
                      subst hfd
                      clear hsome hnone HF2 HF1E HF0
                      obtain ⟨A5, n5, c5, rfl⟩ : ∃ A5 n5 c5, ov = .slice A5 n5 c5 := by
                        obtain ⟨A, c, e, _⟩ := hln.slc.open_
                        exact ⟨A, _, c, e⟩
                      cases wh with
                      | true =>
                        obtain ⟨rfl, hr1, hr2⟩ := some_whole HRS.out rfl
                        simp only at hln hr2 ⊢
                        go_upto_region 14 with fail
                        have hbB := hbA.alloc hzA (.cells #[.int .i64 wd2, .int .i64 hi2, .slice A5 n5 c5, .int .i64 r2, .int .i64 c2, .bool p2, .bool au2] 26)
                        have bo := Blk.new wA 26 #[.int .i64 wd2, .int .i64 hi2, .slice A5 n5 c5, .int .i64 r2, .int .i64 c2, .bool p2, .bool au2]
                        have bv := bv.alloc (.cells #[.int .i64 wd2, .int .i64 hi2, .slice A5 n5 c5, .int .i64 r2, .int .i64 c2, .bool p2, .bool au2] 26)
                        have bp := bp.alloc (.cells #[.int .i64 wd2, .int .i64 hi2, .slice A5 n5 c5, .int .i64 r2, .int .i64 c2, .bool p2, .bool au2] 26)
                        have hlB := (hln.alloc (.cells #[.int .i64 wd2, .int .i64 hi2, .slice A5 n5 c5, .int .i64 r2, .int .i64 c2, .bool p2, .bool au2] 26)).slc
                        obtain ⟨go, hgo⟩ : ∃ go, wA.heap.size = go := ⟨_, rfl⟩
                        rw [hgo] at bo ⊢
                        generalize wA.alloc (.cells #[.int .i64 wd2, .int .i64 hi2, .slice A5 n5 c5, .int .i64 r2, .int .i64 c2, .bool p2, .bool au2] 26) = wB at *
                        have hrr := rRight43_ok _ _ wd2 hi2 r2 c2 p2 au2 _ wB hlB (texts_right hr2).w (texts_right hr2).n
                        rw [hr2] at hrr
                        have HR2 := hide hrr
                        clear hgo hrr hr1 hr2
                        have o0 := bo.cell 0; have o1 := bo.cell 1; have o2 := bo.cell 2; have o3 := bo.cell 3; have o4 := bo.cell 4; have o5 := bo.cell 5; have o6 := bo.cell 6; simp only [List.getElem?_toArray, List.getElem?_cons_succ, List.getElem?_cons_zero] at o0 o1 o2 o3 o4 o5 o6
                        go_wp2_with fail
                        refine HR2.out.mono ?_
                        rintro e wC ⟨rfl, hcC⟩
                        have hbC := hbB.trans (hcC.mono hbB.size)
                        have bp := bp.same hcC
                        have bo := bo.same hcC
                        have HSM := hide (rSame40_eq _ _ _ _ (.slice A5 n5 c5) (.slice A2 ls2.length cp2) wd2 hi2 r2 c2 p2 au2 ls2 wC (hlB.lt_up2 hcC) (HY.out _ hbC))
                        clear hcC o0 o1 o2 o3 o4 o5 o6
                        have o0 := bo.cell 0; have o1 := bo.cell 1; have o2 := bo.cell 2; have o3 := bo.cell 3; have o4 := bo.cell 4; have o5 := bo.cell 5; have o6 := bo.cell 6; simp only [List.getElem?_toArray, List.getElem?_cons_succ, List.getElem?_cons_zero] at o0 o1 o2 o3 o4 o5 o6
                        have d0 := bp.cell 0; have d1 := bp.cell 1; have d2 := bp.cell 2; have d3 := bp.cell 3; have d4 := bp.cell 4; have d5 := bp.cell 5; have d6 := bp.cell 6; have d7 := bp.cell 7; have d8 := bp.cell 8; have d9 := bp.cell 9; have d10 := bp.cell 10; have d11 := bp.cell 11; have d12 := bp.cell 12; have d13 := bp.cell 13; simp only [List.getElem?_toArray, List.getElem?_cons_succ, List.getElem?_cons_zero] at d0 d1 d2 d3 d4 d5 d6 d7 d8 d9 d10 d11 d12 d13
                        go_wp2_with fail
                        refine HSM.out.mono ?_
                        rintro e wD ⟨rfl, hcD⟩
                        go_wp2
                        go_ret
                        exact ⟨rfl, hbC.trans (hcD.mono hbC.size)⟩
                      | false =>
                        obtain ⟨hr1, _, _, hr2, e1, e2, e3, e4, e5, e6⟩ := some_part HRS.out rfl
                        have huv := view_eq e1 e2 e3 e4 e5 e6
                        clear e1 e2 e3 e4 e5 e6
                        obtain ⟨lu, hlu⟩ : ∃ lu, uv.lines = lu := ⟨_, rfl⟩
                        rw [hlu] at huv
                        subst huv
                        simp only at hln hr2 ⊢
                        clear hlu
                        go_upto_region 14 with fail
                        have hbB := hbA.alloc hzA (.cells #[.int .i64 wd, .int .i64 hi, .slice A5 n5 c5, .int .i64 pr, .int .i64 pc, .bool pp, .bool pa] 26)
                        have bo := Blk.new wA 26 #[.int .i64 wd, .int .i64 hi, .slice A5 n5 c5, .int .i64 pr, .int .i64 pc, .bool pp, .bool pa]
                        have bv := bv.alloc (.cells #[.int .i64 wd, .int .i64 hi, .slice A5 n5 c5, .int .i64 pr, .int .i64 pc, .bool pp, .bool pa] 26)
                        have bp := bp.alloc (.cells #[.int .i64 wd, .int .i64 hi, .slice A5 n5 c5, .int .i64 pr, .int .i64 pc, .bool pp, .bool pa] 26)
                        have hlB := (hln.alloc (.cells #[.int .i64 wd, .int .i64 hi, .slice A5 n5 c5, .int .i64 pr, .int .i64 pc, .bool pp, .bool pa] 26)).slc
                        obtain ⟨go, hgo⟩ : ∃ go, wA.heap.size = go := ⟨_, rfl⟩
                        rw [hgo] at bo ⊢
                        generalize wA.alloc (.cells #[.int .i64 wd, .int .i64 hi, .slice A5 n5 c5, .int .i64 pr, .int .i64 pc, .bool pp, .bool pa] 26) = wB at *
                        have hrr := rRight43_ok _ _ wd hi pr pc pp pa _ wB hlB (texts_right hr2).w (texts_right hr2).n
                        rw [hr2] at hrr
                        have HR2 := hide hrr
                        clear hgo hrr hr1 hr2
                        have o0 := bo.cell 0; have o1 := bo.cell 1; have o2 := bo.cell 2; have o3 := bo.cell 3; have o4 := bo.cell 4; have o5 := bo.cell 5; have o6 := bo.cell 6; simp only [List.getElem?_toArray, List.getElem?_cons_succ, List.getElem?_cons_zero] at o0 o1 o2 o3 o4 o5 o6
                        go_wp2_with fail
                        refine HR2.out.mono ?_
                        rintro e wC ⟨rfl, hcC⟩
                        have hbC := hbB.trans (hcC.mono hbB.size)
                        have bp := bp.same hcC
                        have bo := bo.same hcC
                        have bv := bv.same hcC
                        clear hcC o0 o1 o2 o3 o4 o5 o6
                        have o0 := bo.cell 0; have o1 := bo.cell 1; have o2 := bo.cell 2; have o3 := bo.cell 3; have o4 := bo.cell 4; have o5 := bo.cell 5; have o6 := bo.cell 6; simp only [List.getElem?_toArray, List.getElem?_cons_succ, List.getElem?_cons_zero] at o0 o1 o2 o3 o4 o5 o6
                        have y0 := bv.cell 0; have y1 := bv.cell 1; have y2 := bv.cell 2; have y3 := bv.cell 3; have y4 := bv.cell 4; have y5 := bv.cell 5; have y6 := bv.cell 6; simp only [List.getElem?_toArray, List.getElem?_cons_succ, List.getElem?_cons_zero] at y0 y1 y2 y3 y4 y5 y6; have d0 := bp.cell 0; have d1 := bp.cell 1; have d2 := bp.cell 2; have d3 := bp.cell 3; have d4 := bp.cell 4; have d5 := bp.cell 5; have d6 := bp.cell 6; have d7 := bp.cell 7; have d8 := bp.cell 8; have d9 := bp.cell 9; have d10 := bp.cell 10; have d11 := bp.cell 11; have d12 := bp.cell 12; have d13 := bp.cell 13; simp only [List.getElem?_toArray, List.getElem?_cons_succ, List.getElem?_cons_zero] at d0 d1 d2 d3 d4 d5 d6 d7 d8 d9 d10 d11 d12 d13
                        go_wp2
                        go_ret
                        exact ⟨rfl, hbC⟩
end Go.Proofs.Ytcidioomhdkbnaa
