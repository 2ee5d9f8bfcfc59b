/-
  Package diff's Of, of two right views of the same sides: what it returns.
-/
import Derived.Test.YtcidioomhdkbnaaDif1
import Derived.Test.YtcidioomhdkbnaaSRt
import Derived.Test.YtcidioomhdkbnaaOrd
namespace Go.Proofs.Ytcidioomhdkbnaa
open Go.RowKit
set_option linter.unusedVariables false
set_option linter.unusedSimpArgs false

theorem i64_info : (Try.prog.info? 3).map (fun i => (i.zero, i.size, i.bytes)) = some (some (.int .i64 0), 1, 8) := by kernel_rfl
theorem lnD_at (ls : List LineV) {i : Nat} (h : i < ls.length) : lnD ls i = ls[i] := by unfold lnD; rw [List.getD_eq_getElem?_getD, List.getElem?_eq_getElem h]; rfl
theorem Slc.lt_up2 {α : Type} {R : Rep α} {So : Nat → Prop} {w w' : World} {v : Value} {l : List α} (h : Slc R So So w v l) (hb : Below w.heap.size w w') : Slc R (fun b => b < w'.heap.size) (fun b => b < w'.heap.size) w' v l :=
  (h.mono (Keep.below (S := So) hb) (Keep.below (S := So) hb)).mono (Keep.lt _ _) (Keep.lt _ _)
/-- What is known of a right view's lines. -/
structure Rgt46 (wd hi : Int) (ls : List LineV) : Prop where
  w1 : 1 ≤ wd
  w2 : wd ≤ 1024
  h1 : 1 ≤ hi
  h2 : hi ≤ 1024
  hl : hi = ls.length
  line : ∀ l ∈ ls, (l.1.length : Int) = wd ∧ soundB l.1 = true
theorem Rgt46.of {wd hi r c : Int} {p au : Bool} {ls : List LineV} (h : rightV ⟨wd, hi, ls, r, c, p, au⟩ = true) : Rgt46 wd hi ls := by
  unfold rightV headR at h
  rw [Bool.and_eq_true, Bool.and_eq_true, decide_eq_true_eq, List.all_eq_true] at h
  obtain ⟨⟨⟨h1, h2, h3, h4, h5⟩, _⟩, h6⟩ := h
  simp only at h1 h2 h3 h4 h5 h6
  refine ⟨h4, h5, h2, h3, h1, fun l hl => ?_⟩
  have := h6 l hl
  unfold lineR at this
  rw [Bool.and_eq_true, decide_eq_true_eq] at this
  exact this
theorem sound_short {l : List CellV} (h : soundB l = true) : ∀ c ∈ l, c.2.length ≤ 16 := by
  intro c hc
  obtain ⟨k, hk, rfl⟩ := List.getElem_of_mem hc
  have hw := (wrong_sound l).2 h k hk
  unfold wrongAt at hw
  rw [dif_pos hk] at hw
  split at hw
  · cases hw
  · rename_i h1
    have h1 : rightB l[k] = true := by simpa using h1
    unfold rightB at h1
    split at h1
    · rw [decide_eq_true_eq] at h1; omega
    · split at h1
      · rw [Bool.and_eq_true, decide_eq_true_eq] at h1; omega
      · cases h1
theorem rowD_len (n : Nat) (a b : List CellV) : (rowD n a b).length ≤ a.length + 1 := st_len n a b (a.length + 1)
theorem chgU_len (A B : List LineV) {m : Nat} (h : ∀ i, (lnD A i).1.length ≤ m) : ∀ k, (chgU A B k).length ≤ k * (m + 1)
  | 0 => by simp [chgU]
  | k + 1 => by
    rw [chgU_snoc, List.length_append]
    have h1 := chgU_len A B h k
    have h2 := rowD_len k (lnD A k).1 (lnD B k).1
    have h3 := h k
    rw [Nat.add_mul, Nat.one_mul]
    omega
theorem wrapU_len (A B : List LineV) : ∀ k, (wrapU A B k).length ≤ k
  | 0 => by simp [wrapU]
  | k + 1 => by
    rw [wrapU_snoc, List.length_append]
    have := wrapU_len A B k
    split <;> simp <;> omega
theorem lnD_short {wd hi : Int} {ls : List LineV} (h : Rgt46 wd hi ls) (i : Nat) : (lnD ls i).1.length ≤ 1024 := by
  by_cases hi' : i < ls.length
  · rw [lnD_at ls hi']
    have := (h.line ls[i] (List.getElem_mem _)).1
    have := h.w2
    omega
  · unfold lnD
    rw [List.getD_eq_getElem?_getD, List.getElem?_eq_none (by omega)]
    simp

set_option maxRecDepth 4096 in
set_option maxHeartbeats 4000000 in
theorem Of_eq (So To : Nat → Prop) (x y : Value) (wd hi r c r' c' : Int) (p au p' au' : Bool) (ls ls' : List LineV) (w : World) (hx : Slc RLine So (fun b => b < w.heap.size) w x ls) (hy : Slc RLine To (fun b => b < w.heap.size) w y ls') (ha : rightV ⟨wd, hi, ls, r, c, p, au⟩ = true) (hb : rightV ⟨wd, hi, ls', r', c', p', au'⟩ = true) :
    Calls Try.prog 9 #[.agg #[.int .i64 wd, .int .i64 hi, x, .int .i64 r, .int .i64 c, .bool p, .bool au], .agg #[.int .i64 wd, .int .i64 hi, y, .int .i64 r', .int .i64 c', .bool p', .bool au']] w fun e w' => ∃ sv tv, e = .returned (.tuple #[.agg #[sv, tv, .int .i64 r', .int .i64 c', .bool p', .bool au', .bool false, .int .i64 0, .int .i64 0, .slice none 0 0, .int .i64 0, .int .i64 0, .bool false, .bool false], .bool true]) ∧ Own2 RChange 38 [50, 21] w.heap.size 0 w' sv (chgU ls ls' ls.length) ∧ Own (Rep.int .i64) 3 [] w.heap.size w' tv (wrapU ls ls' ls.length) ∧ Below w.heap.size w w' := by
  obtain ⟨A, cp, rfl, _, _, _⟩ := hx.open_
  obtain ⟨B, cq, rfl, _, _, _⟩ := hy.open_
  have hra := Rgt46.of ha
  have hrb := Rgt46.of hb
  have hb0 : Below w.heap.size w (((w.alloc (.cells #[.int .i64 wd, .int .i64 hi, .slice A ls.length cp, .int .i64 r, .int .i64 c, .bool p, .bool au] 26)).alloc (.cells #[.int .i64 wd, .int .i64 hi, .slice B ls'.length cq, .int .i64 r', .int .i64 c', .bool p', .bool au'] 26)).alloc (.cells #[.slice none 0 0, .slice none 0 0, .int .i64 0, .int .i64 0, .bool false, .bool false, .bool false, .int .i64 0, .int .i64 0, .slice none 0 0, .int .i64 0, .int .i64 0, .bool false, .bool false] 33)) := (((Below.refl _ w).alloc (Nat.le_refl _) _).alloc (by simp) _).alloc (by simp; omega) _
  have bv : Blk (((w.alloc (.cells #[.int .i64 wd, .int .i64 hi, .slice A ls.length cp, .int .i64 r, .int .i64 c, .bool p, .bool au] 26)).alloc (.cells #[.int .i64 wd, .int .i64 hi, .slice B ls'.length cq, .int .i64 r', .int .i64 c', .bool p', .bool au'] 26)).alloc (.cells #[.slice none 0 0, .slice none 0 0, .int .i64 0, .int .i64 0, .bool false, .bool false, .bool false, .int .i64 0, .int .i64 0, .slice none 0 0, .int .i64 0, .int .i64 0, .bool false, .bool false] 33)) w.heap.size 26 #[.int .i64 wd, .int .i64 hi, .slice A ls.length cp, .int .i64 r, .int .i64 c, .bool p, .bool au] := ((Blk.new w 26 #[.int .i64 wd, .int .i64 hi, .slice A ls.length cp, .int .i64 r, .int .i64 c, .bool p, .bool au]).alloc _).alloc _
  have bw : Blk (((w.alloc (.cells #[.int .i64 wd, .int .i64 hi, .slice A ls.length cp, .int .i64 r, .int .i64 c, .bool p, .bool au] 26)).alloc (.cells #[.int .i64 wd, .int .i64 hi, .slice B ls'.length cq, .int .i64 r', .int .i64 c', .bool p', .bool au'] 26)).alloc (.cells #[.slice none 0 0, .slice none 0 0, .int .i64 0, .int .i64 0, .bool false, .bool false, .bool false, .int .i64 0, .int .i64 0, .slice none 0 0, .int .i64 0, .int .i64 0, .bool false, .bool false] 33)) (w.heap.size + 1) 26 #[.int .i64 wd, .int .i64 hi, .slice B ls'.length cq, .int .i64 r', .int .i64 c', .bool p', .bool au'] := by
    have := (Blk.new (w.alloc (.cells #[.int .i64 wd, .int .i64 hi, .slice A ls.length cp, .int .i64 r, .int .i64 c, .bool p, .bool au] 26)) 26 #[.int .i64 wd, .int .i64 hi, .slice B ls'.length cq, .int .i64 r', .int .i64 c', .bool p', .bool au']).alloc (.cells #[.slice none 0 0, .slice none 0 0, .int .i64 0, .int .i64 0, .bool false, .bool false, .bool false, .int .i64 0, .int .i64 0, .slice none 0 0, .int .i64 0, .int .i64 0, .bool false, .bool false] 33)
    simpa using this
  have br : Blk (((w.alloc (.cells #[.int .i64 wd, .int .i64 hi, .slice A ls.length cp, .int .i64 r, .int .i64 c, .bool p, .bool au] 26)).alloc (.cells #[.int .i64 wd, .int .i64 hi, .slice B ls'.length cq, .int .i64 r', .int .i64 c', .bool p', .bool au'] 26)).alloc (.cells #[.slice none 0 0, .slice none 0 0, .int .i64 0, .int .i64 0, .bool false, .bool false, .bool false, .int .i64 0, .int .i64 0, .slice none 0 0, .int .i64 0, .int .i64 0, .bool false, .bool false] 33)) (w.heap.size + 1 + 1) 33 #[.slice none 0 0, .slice none 0 0, .int .i64 0, .int .i64 0, .bool false, .bool false, .bool false, .int .i64 0, .int .i64 0, .slice none 0 0, .int .i64 0, .int .i64 0, .bool false, .bool false] := by
    have := Blk.new ((w.alloc (.cells #[.int .i64 wd, .int .i64 hi, .slice A ls.length cp, .int .i64 r, .int .i64 c, .bool p, .bool au] 26)).alloc (.cells #[.int .i64 wd, .int .i64 hi, .slice B ls'.length cq, .int .i64 r', .int .i64 c', .bool p', .bool au'] 26)) 33 #[.slice none 0 0, .slice none 0 0, .int .i64 0, .int .i64 0, .bool false, .bool false, .bool false, .int .i64 0, .int .i64 0, .slice none 0 0, .int .i64 0, .int .i64 0, .bool false, .bool false]
    simpa using this
  have HX := hide (fun W (h : Below w.heap.size w W) => (hx.mono (Keep.below (S := So) h) (Keep.below (S := fun b => b < w.heap.size) h)).mono (Keep.refl _ _) (Keep.weaken (S' := fun b => b < W.heap.size) fun b hb => by have := h.size; omega))
  have HY := hide (fun W (h : Below w.heap.size w W) => (hy.mono (Keep.below (S := To) h) (Keep.below (S := fun b => b < w.heap.size) h)).mono (Keep.refl _ _) (Keep.weaken (S' := fun b => b < W.heap.size) fun b hb => by have := h.size; omega))
  have HRA := hide hra
  have HRB := hide hrb
  have hlA : ∀ l ∈ ls, l.1.length ≤ 1000000 := fun l hl => by have := (hra.line l hl).1; have := hra.w2; omega
  have hlB : ∀ l ∈ ls', l.1.length ≤ 1000000 := fun l hl => by have := (hrb.line l hl).1; have := hrb.w2; omega
  have HSA := hide (fun W (h : Below w.heap.size w W) => SRight_ok _ _ wd hi r c p au ls W (HX.out W h) hlA (by have := hra.hl; have := hra.h2; omega))
  have HSB := hide (fun W (h : Below w.heap.size w W) => SRight_ok _ _ wd hi r' c' p' au' ls' W (HY.out W h) hlB (by have := hrb.hl; have := hrb.h2; omega))
  rw [ha] at HSA
  rw [hb] at HSB
  clear ha hb hlA hlB hra hrb
  generalize hW0 : ((w.alloc (.cells #[.int .i64 wd, .int .i64 hi, .slice A ls.length cp, .int .i64 r, .int .i64 c, .bool p, .bool au] 26)).alloc (.cells #[.int .i64 wd, .int .i64 hi, .slice B ls'.length cq, .int .i64 r', .int .i64 c', .bool p', .bool au'] 26)).alloc (.cells #[.slice none 0 0, .slice none 0 0, .int .i64 0, .int .i64 0, .bool false, .bool false, .bool false, .int .i64 0, .int .i64 0, .slice none 0 0, .int .i64 0, .int .i64 0, .bool false, .bool false] 33) = w0 at *
  have hz0 := hb0.size
  go_enter Try.func9, Try.ntmps9
  have y0 := bv.cell 0; have y1 := bv.cell 1; have y2 := bv.cell 2; have y3 := bv.cell 3; have y4 := bv.cell 4; have y5 := bv.cell 5; have y6 := bv.cell 6; simp only [List.getElem?_toArray, List.getElem?_cons_succ, List.getElem?_cons_zero] at y0 y1 y2 y3 y4 y5 y6; have z0 := bw.cell 0; have z1 := bw.cell 1; have z2 := bw.cell 2; have z3 := bw.cell 3; have z4 := bw.cell 4; have z5 := bw.cell 5; have z6 := bw.cell 6; simp only [List.getElem?_toArray, List.getElem?_cons_succ, List.getElem?_cons_zero] at z0 z1 z2 z3 z4 z5 z6
  go_wp2_with fail
  refine (HSA.out _ hb0).mono ?_
  rintro e w1 ⟨rfl, hc1⟩
  have hb1 := hb0.trans (hc1.mono hz0)
  have hz1 := hb1.size
  have bv := bv.same hc1
  have bw := bw.same hc1
  have br := br.same hc1
  clear hc1
  have y0 := bv.cell 0; have y1 := bv.cell 1; have y2 := bv.cell 2; have y3 := bv.cell 3; have y4 := bv.cell 4; have y5 := bv.cell 5; have y6 := bv.cell 6; simp only [List.getElem?_toArray, List.getElem?_cons_succ, List.getElem?_cons_zero] at y0 y1 y2 y3 y4 y5 y6; have z0 := bw.cell 0; have z1 := bw.cell 1; have z2 := bw.cell 2; have z3 := bw.cell 3; have z4 := bw.cell 4; have z5 := bw.cell 5; have z6 := bw.cell 6; simp only [List.getElem?_toArray, List.getElem?_cons_succ, List.getElem?_cons_zero] at z0 z1 z2 z3 z4 z5 z6
  go_wp2_with fail
  refine (HSB.out _ hb1).mono ?_
  rintro e w2 ⟨rfl, hc2⟩
  have hb2 := hb1.trans (hc2.mono hz1)
  have hz2 := hb2.size
  have bv := bv.same hc2
  have bw := bw.same hc2
  have br := br.same hc2
  clear hc2
  have y0 := bv.cell 0; have y1 := bv.cell 1; have y2 := bv.cell 2; have y3 := bv.cell 3; have y4 := bv.cell 4; have y5 := bv.cell 5; have y6 := bv.cell 6; simp only [List.getElem?_toArray, List.getElem?_cons_succ, List.getElem?_cons_zero] at y0 y1 y2 y3 y4 y5 y6; have z0 := bw.cell 0; have z1 := bw.cell 1; have z2 := bw.cell 2; have z3 := bw.cell 3; have z4 := bw.cell 4; have z5 := bw.cell 5; have z6 := bw.cell 6; simp only [List.getElem?_toArray, List.getElem?_cons_succ, List.getElem?_cons_zero] at z0 z1 z2 z3 z4 z5 z6
  go_upto_region 6 with fail
  have hgr : w.heap.size + 1 + 1 ≠ w2.heap.size := by have := br.lt; omega
  have hb3 := hb2.alloc hz2 (.cells #[.slice none 0 0, .slice none 0 0, .int .i64 r', .int .i64 c', .bool p', .bool au', .bool false, .int .i64 0, .int .i64 0, .slice none 0 0, .int .i64 0, .int .i64 0, .bool false, .bool false] 33)
  have bv := bv.alloc (.cells #[.slice none 0 0, .slice none 0 0, .int .i64 r', .int .i64 c', .bool p', .bool au', .bool false, .int .i64 0, .int .i64 0, .slice none 0 0, .int .i64 0, .int .i64 0, .bool false, .bool false] 33)
  have bw := bw.alloc (.cells #[.slice none 0 0, .slice none 0 0, .int .i64 r', .int .i64 c', .bool p', .bool au', .bool false, .int .i64 0, .int .i64 0, .slice none 0 0, .int .i64 0, .int .i64 0, .bool false, .bool false] 33)
  have br := br.alloc (.cells #[.slice none 0 0, .slice none 0 0, .int .i64 r', .int .i64 c', .bool p', .bool au', .bool false, .int .i64 0, .int .i64 0, .slice none 0 0, .int .i64 0, .int .i64 0, .bool false, .bool false] 33)
  have bp := Blk.new w2 33 #[.slice none 0 0, .slice none 0 0, .int .i64 r', .int .i64 c', .bool p', .bool au', .bool false, .int .i64 0, .int .i64 0, .slice none 0 0, .int .i64 0, .int .i64 0, .bool false, .bool false]
  have hbp := (Below.refl w2.heap.size w2).alloc (Nat.le_refl _) (.cells #[.slice none 0 0, .slice none 0 0, .int .i64 r', .int .i64 c', .bool p', .bool au', .bool false, .int .i64 0, .int .i64 0, .slice none 0 0, .int .i64 0, .int .i64 0, .bool false, .bool false] 33)
  have hrv := br.lt
  have hgp : w.heap.size ≤ w2.heap.size := hz2
  obtain ⟨gp, hgpe⟩ : ∃ gp, w2.heap.size = gp := ⟨_, rfl⟩
  rw [hgpe] at bp hgp hgr
  generalize w2.alloc (.cells #[.slice none 0 0, .slice none 0 0, .int .i64 r', .int .i64 c', .bool p', .bool au', .bool false, .int .i64 0, .int .i64 0, .slice none 0 0, .int .i64 0, .int .i64 0, .bool false, .bool false] 33) = w3 at *
  rw [hgpe]
  clear hgpe hbp
  have y0 := bv.cell 0; have y1 := bv.cell 1; have y2 := bv.cell 2; have y3 := bv.cell 3; have y4 := bv.cell 4; have y5 := bv.cell 5; have y6 := bv.cell 6; simp only [List.getElem?_toArray, List.getElem?_cons_succ, List.getElem?_cons_zero] at y0 y1 y2 y3 y4 y5 y6; have z0 := bw.cell 0; have z1 := bw.cell 1; have z2 := bw.cell 2; have z3 := bw.cell 3; have z4 := bw.cell 4; have z5 := bw.cell 5; have z6 := bw.cell 6; simp only [List.getElem?_toArray, List.getElem?_cons_succ, List.getElem?_cons_zero] at z0 z1 z2 z3 z4 z5 z6
  go_wp2
  go_loopw [42] (fun iv wr => ∃ (k : Nat) (sv tv : Value), k ≤ ls.length ∧ iv = .int .i64 k ∧ Own2 RChange 38 [50, 21] w.heap.size 0 wr sv (chgU ls ls' k) ∧ Own (Rep.int .i64) 3 [] w.heap.size wr tv (wrapU ls ls' k) ∧ Blk wr gp 33 #[sv, tv, .int .i64 r', .int .i64 c', .bool p', .bool au', .bool false, .int .i64 0, .int .i64 0, .slice none 0 0, .int .i64 0, .int .i64 0, .bool false, .bool false] ∧ Blk wr w.heap.size 26 #[.int .i64 wd, .int .i64 hi, .slice A ls.length cp, .int .i64 r, .int .i64 c, .bool p, .bool au] ∧ Blk wr (w.heap.size + 1) 26 #[.int .i64 wd, .int .i64 hi, .slice B ls'.length cq, .int .i64 r', .int .i64 c', .bool p', .bool au'] ∧ Blk wr (w.heap.size + 1 + 1) 33 #[.slice none 0 0, .slice none 0 0, .int .i64 0, .int .i64 0, .bool false, .bool false, .bool false, .int .i64 0, .int .i64 0, .slice none 0 0, .int .i64 0, .int .i64 0, .bool false, .bool false] ∧ Below w.heap.size w wr) (fun iv _ => ls.length - (intOf iv).toNat)
  case atStart => exact ⟨0, _, _, Nat.zero_le _, rfl, Own2.nil_ _ _ _ _ _ _ (Nat.zero_le _) (by decide), Own.nil_ _ _ _ _ _ (by simp), bp, bv, bw, br, hb3⟩
  case round =>
    clear y0 y1 y2 y3 y4 y5 y6 z0 z1 z2 z3 z4 z5 z6 bp bv bw br hb3 hrv
    obtain ⟨k, sv, tv, hk, rfl, hsv, htv, bp, bv, bw, br, hbr⟩ := hrel
    have hzr := hbr.size
    by_cases hlt : k < ls.length
    · have hlt' : k < ls'.length := by have := HRA.out.hl; have := HRB.out.hl; omega
      have hki : (k : Int) < ls.length := by omega
      have hki' : (k : Int) < ls'.length := by omega
      obtain ⟨ab, off, v2, rfl, _, p00, p01, hv⟩ := line_at hx.slb hlt
      obtain ⟨A2, c2, rfl, _, _, _⟩ := hv.open_
      obtain ⟨bb, bo, v3, rfl, _, q00, q01, hu⟩ := line_at hy.slb hlt'
      obtain ⟨B2, d2, rfl, _, _, _⟩ := hu.open_
      have hla := HRA.out.line ls[k] (List.getElem_mem _)
      have hlb := HRB.out.line ls'[k] (List.getElem_mem _)
      have hw2 := HRA.out.w2
      have hh2 := HRA.out.h2
      have hhl := HRA.out.hl
      have hcs := chgU_snoc ls ls' k
      have hws := wrapU_snoc ls ls' k
      rw [lnD_at ls hlt, lnD_at ls' hlt'] at hcs hws
      have hcl := chgU_len ls ls' (m := 1024) (lnD_short HRA.out) k
      have hkm : k * (1024 + 1) ≤ 1024 * 1025 := Nat.mul_le_mul (by omega) (Nat.le_refl _)
      have hrl := rowD_len k ls[k].1 ls'[k].1
      have hwl := wrapU_len ls ls' k
      have hRow := fun W (hW : Below w.heap.size w W) => row46_ok _ _ _ _ (.slice A2 ls[k].1.length c2) (.slice B2 ls'[k].1.length d2) k ls[k].1 ls'[k].1 W (hv.lt_up2 hW) (hu.lt_up2 hW) (by omega) (by omega) (by omega) (fun c hc => by have := sound_short hlb.2 c hc; omega)
      have hkb : k ≤ 1024 := by omega
      have hL1 : (chgU ls ls' k).length + (rowD k ls[k].1 ls'[k].1).length ≤ 1100000 := by omega
      obtain ⟨cn, hcn⟩ : ∃ cn, chgU ls ls' (k + 1) = cn := ⟨_, rfl⟩
      obtain ⟨wn, hwn⟩ : ∃ wn, wrapU ls ls' (k + 1) = wn := ⟨_, rfl⟩
      rw [hcn] at hcs
      rw [hwn] at hws
      have HCN := hide hcn
      have HWN := hide hwn
      clear hcn hwn
      generalize chgU ls ls' k = cu at *
      generalize wrapU ls ls' k = wu at *
      generalize rowD k ls[k].1 ls'[k].1 = rd at *
      have HCS := hide hcs
      have HWS := hide hws
      have HROW := hide hRow
      have HL1 := hide hL1
      have HWL := hide hwl
      clear hla hlb hhl hcs hws hcl hkm hrl hwl hRow hL1 hv hu
      have hab := World.block_lt_of_cell? _ _ p00
      have hbb := World.block_lt_of_cell? _ _ q00
      simp only at hab hbb
      have p0 := (hbr.cell (p := ⟨ab, off + k * 2, none⟩) hab).trans p00
      have q0 := (hbr.cell (p := ⟨bb, bo + k * 2, none⟩) hbb).trans q00
      have p1 := (hbr.cell (p := ⟨ab, off + k * 2 + 1, none⟩) hab).trans p01
      have q1 := (hbr.cell (p := ⟨bb, bo + k * 2 + 1, none⟩) hbb).trans q01
      go_upto_region 9 with fail
      have s0 := bp.cell 0; have y2 := bv.cell 2; have z2 := bw.cell 2; simp only [List.getElem?_toArray, List.getElem?_cons_succ, List.getElem?_cons_zero] at s0 y2 z2
      refine wp_region_late (S := fun w' => w'.cell? ⟨gp, 0, none⟩ = some sv ∧ w'.cell? ⟨w.heap.size, 2, none⟩ = some (.slice (some ⟨ab, off, none⟩) ls.length cp) ∧ w'.cell? ⟨w.heap.size + 1, 2, none⟩ = some (.slice (some ⟨bb, bo, none⟩) ls'.length cq) ∧ w'.cell? ⟨ab, off + k * 2, none⟩ = some (.slice A2 ls[k].1.length c2) ∧ w'.cell? ⟨bb, bo + k * 2, none⟩ = some (.slice B2 ls'[k].1.length d2)) [18] (by kernel_rfl) (by exact ⟨s0, y2, z2, p0, q0⟩) (fun hHeld => ?_)
      refine wpAnyT_take (i := 0) (oi := ?_) (v := ?_) ?_ (by kernel_rfl) (by kernel_rfl) (by kernel_rfl) (by kernel_rfl) (by kernel_rfl) ?_ (Or.inl ⟨?_, ?_⟩) (by assumption) ?_
      rotate_left 2
      · (simp only [List.getElem?_toArray, List.getElem?_cons_succ, List.getElem?_cons_zero]; rfl)
      rotate_left 1
      · rfl
      · (intro w hSw; (try dsimp only at hSw); go_simp; try with_reducible rfl)
      rotate_left 1
      · exact fun _ _ _ h => h
      try simp only [Act.put, List.setIfInBounds_toArray, List.set_cons_zero, List.set_cons_succ]
      refine wpAnyT_take (i := 1) (oi := ?_) (v := ?_) ?_ (by kernel_rfl) (by kernel_rfl) (by kernel_rfl) (by kernel_rfl) (by kernel_rfl) ?_ (Or.inl ⟨?_, ?_⟩) (by assumption) ?_
      rotate_left 2
      · (simp only [List.getElem?_toArray, List.getElem?_cons_succ, List.getElem?_cons_zero]; rfl)
      rotate_left 1
      · rfl
      · (intro w hSw; (try dsimp only at hSw); go_simp; try with_reducible rfl)
      rotate_left 1
      · exact fun _ _ _ h => h
      try simp only [Act.put, List.setIfInBounds_toArray, List.set_cons_zero, List.set_cons_succ]
      refine wpAnyT_take (i := 2) (oi := ?_) (v := ?_) ?_ (by kernel_rfl) (by kernel_rfl) (by kernel_rfl) (by kernel_rfl) (by kernel_rfl) ?_ (Or.inl ⟨?_, ?_⟩) (by assumption) ?_
      rotate_left 2
      · (simp only [List.getElem?_toArray, List.getElem?_cons_succ, List.getElem?_cons_zero]; rfl)
      rotate_left 1
      · rfl
      · (intro w hSw; (try dsimp only at hSw); go_simp; try with_reducible rfl)
      rotate_left 1
      · exact fun _ _ _ h => h
      try simp only [Act.put, List.setIfInBounds_toArray, List.set_cons_zero, List.set_cons_succ]
      refine wpAnyT_take (i := 3) (oi := ?_) (v := ?_) ?_ (by kernel_rfl) (by kernel_rfl) (by kernel_rfl) (by kernel_rfl) (by kernel_rfl) ?_ (Or.inl ⟨?_, ?_⟩) (by assumption) ?_
      rotate_left 2
      · (simp only [List.getElem?_toArray, List.getElem?_cons_succ, List.getElem?_cons_zero]; rfl)
      rotate_left 1
      · rfl
      · (intro w hSw; (try dsimp only at hSw); go_simp; try with_reducible rfl)
      rotate_left 1
      · exact fun _ _ _ h => h
      try simp only [Act.put, List.setIfInBounds_toArray, List.set_cons_zero, List.set_cons_succ]
      refine wpAnyT_take (i := 4) (oi := ?_) (v := ?_) ?_ (by kernel_rfl) (by kernel_rfl) (by kernel_rfl) (by kernel_rfl) (by kernel_rfl) ?_ (Or.inl ⟨?_, ?_⟩) (by assumption) ?_
      rotate_left 2
      · (simp only [List.getElem?_toArray, List.getElem?_cons_succ, List.getElem?_cons_zero]; rfl)
      rotate_left 1
      · rfl
      · (intro w hSw; (try dsimp only at hSw); go_simp; try with_reducible rfl)
      rotate_left 1
      · exact fun _ _ _ h => h
      try simp only [Act.put, List.setIfInBounds_toArray, List.set_cons_zero, List.set_cons_succ]
      refine wpAnyT_take (i := 5) (oi := ?_) (v := ?_) ?_ (by kernel_rfl) (by kernel_rfl) (by kernel_rfl) (by kernel_rfl) (by kernel_rfl) ?_ (Or.inl ⟨?_, ?_⟩) (by assumption) ?_
      rotate_left 2
      · (simp only [List.getElem?_toArray, List.getElem?_cons_succ, List.getElem?_cons_zero]; rfl)
      rotate_left 1
      · rfl
      · (intro w hSw; (try dsimp only at hSw); go_simp; try with_reducible rfl)
      rotate_left 1
      · exact fun _ _ _ h => h
      try simp only [Act.put, List.setIfInBounds_toArray, List.set_cons_zero, List.set_cons_succ]
      refine wpAnyT_take (i := 6) (oi := ?_) (v := ?_) ?_ (by kernel_rfl) (by kernel_rfl) (by kernel_rfl) (by kernel_rfl) (by kernel_rfl) ?_ (Or.inl ⟨?_, ?_⟩) (by assumption) ?_
      rotate_left 2
      · (simp only [List.getElem?_toArray, List.getElem?_cons_succ, List.getElem?_cons_zero]; rfl)
      rotate_left 1
      · rfl
      · (intro w hSw; (try dsimp only at hSw); go_simp; try with_reducible rfl)
      rotate_left 1
      · exact fun _ _ _ h => h
      try simp only [Act.put, List.setIfInBounds_toArray, List.set_cons_zero, List.set_cons_succ]
      refine wpAnyT_take (i := 7) (oi := ?_) (v := ?_) ?_ (by kernel_rfl) (by kernel_rfl) (by kernel_rfl) (by kernel_rfl) (by kernel_rfl) ?_ (Or.inl ⟨?_, ?_⟩) (by assumption) ?_
      rotate_left 2
      · (simp only [List.getElem?_toArray, List.getElem?_cons_succ, List.getElem?_cons_zero]; rfl)
      rotate_left 1
      · rfl
      · (intro w hSw; (try dsimp only at hSw); go_simp; try with_reducible rfl)
      rotate_left 1
      · exact fun _ _ _ h => h
      try simp only [Act.put, List.setIfInBounds_toArray, List.set_cons_zero, List.set_cons_succ]
      refine wpAnyT_take (i := 8) (oi := ?_) (v := ?_) ?_ (by kernel_rfl) (by kernel_rfl) (by kernel_rfl) (by kernel_rfl) (by kernel_rfl) ?_ (Or.inl ⟨?_, ?_⟩) (by assumption) ?_
      rotate_left 2
      · (simp only [List.getElem?_toArray, List.getElem?_cons_succ, List.getElem?_cons_zero]; rfl)
      rotate_left 1
      · rfl
      · (intro w hSw; (try dsimp only at hSw); go_simp; try with_reducible rfl)
      rotate_left 1
      · exact fun _ _ _ h => h
      try simp only [Act.put, List.setIfInBounds_toArray, List.set_cons_zero, List.set_cons_succ]
      refine wpAnyT_take (i := 9) (oi := ?_) (v := ?_) ?_ (by kernel_rfl) (by kernel_rfl) (by kernel_rfl) (by kernel_rfl) (by kernel_rfl) ?_ (Or.inl ⟨?_, ?_⟩) (by assumption) ?_
      rotate_left 2
      · (simp only [List.getElem?_toArray, List.getElem?_cons_succ, List.getElem?_cons_zero]; rfl)
      rotate_left 1
      · rfl
      · (intro w hSw; (try dsimp only at hSw); go_simp; try with_reducible rfl)
      rotate_left 1
      · exact fun _ _ _ h => h
      try simp only [Act.put, List.setIfInBounds_toArray, List.set_cons_zero, List.set_cons_succ]
      refine wpAnyT_take (i := 10) (oi := ?_) (v := ?_) ?_ (by kernel_rfl) (by kernel_rfl) (by kernel_rfl) (by kernel_rfl) (by kernel_rfl) ?_ (Or.inl ⟨?_, ?_⟩) (by assumption) ?_
      rotate_left 2
      · (simp only [List.getElem?_toArray, List.getElem?_cons_succ, List.getElem?_cons_zero]; rfl)
      rotate_left 1
      · rfl
      · (intro w hSw; (try dsimp only at hSw); go_simp; try with_reducible rfl)
      rotate_left 1
      · exact fun _ _ _ h => h
      try simp only [Act.put, List.setIfInBounds_toArray, List.set_cons_zero, List.set_cons_succ]
      refine wpAnyT_take (i := 11) (oi := ?_) (v := ?_) ?_ (by kernel_rfl) (by kernel_rfl) (by kernel_rfl) (by kernel_rfl) (by kernel_rfl) ?_ (Or.inl ⟨?_, ?_⟩) (by assumption) ?_
      rotate_left 2
      · (simp only [List.getElem?_toArray, List.getElem?_cons_succ, List.getElem?_cons_zero]; rfl)
      rotate_left 1
      · rfl
      · (intro w hSw; (try dsimp only at hSw); go_simp; try with_reducible rfl)
      rotate_left 1
      · exact fun _ _ _ h => h
      try simp only [Act.put, List.setIfInBounds_toArray, List.set_cons_zero, List.set_cons_succ]
      refine wpAnyT_take (i := 12) (oi := ?_) (v := ?_) ?_ (by kernel_rfl) (by kernel_rfl) (by kernel_rfl) (by kernel_rfl) (by kernel_rfl) ?_ (Or.inl ⟨?_, ?_⟩) (by assumption) ?_
      rotate_left 2
      · (simp only [List.getElem?_toArray, List.getElem?_cons_succ, List.getElem?_cons_zero]; rfl)
      rotate_left 1
      · rfl
      · (intro w hSw; (try dsimp only at hSw); go_simp; try with_reducible rfl)
      rotate_left 1
      · exact fun _ _ _ h => h
      try simp only [Act.put, List.setIfInBounds_toArray, List.set_cons_zero, List.set_cons_succ]
      refine wpAnyT_take (i := 13) (oi := ?_) (v := ?_) ?_ (by kernel_rfl) (by kernel_rfl) (by kernel_rfl) (by kernel_rfl) (by kernel_rfl) ?_ (Or.inl ⟨?_, ?_⟩) (by assumption) ?_
      rotate_left 2
      · (simp only [List.getElem?_toArray, List.getElem?_cons_succ, List.getElem?_cons_zero]; rfl)
      rotate_left 1
      · rfl
      · (intro w hSw; (try dsimp only at hSw); go_simp; try with_reducible rfl)
      rotate_left 1
      · exact fun _ _ _ h => h
      try simp only [Act.put, List.setIfInBounds_toArray, List.set_cons_zero, List.set_cons_succ]
      refine wpAnyT_take (i := 14) (oi := ?_) (v := ?_) ?_ (by kernel_rfl) (by kernel_rfl) (by kernel_rfl) (by kernel_rfl) (by kernel_rfl) ?_ (Or.inl ⟨?_, ?_⟩) (by assumption) ?_
      rotate_left 2
      · (simp only [List.getElem?_toArray, List.getElem?_cons_succ, List.getElem?_cons_zero]; rfl)
      rotate_left 1
      · rfl
      · (intro w hSw; (try dsimp only at hSw); go_simp; try with_reducible rfl)
      rotate_left 1
      · exact fun _ _ _ h => h
      try simp only [Act.put, List.setIfInBounds_toArray, List.set_cons_zero, List.set_cons_succ]
      refine wpAnyT_ready (rs := [15]) (by kernel_rfl) (by simp) ?_
      refine AllReadyT.cons (o := ?_) ?_ (fun K hK => ?_) AllReadyT.nil
      rotate_left 1
      · (simp only [List.getElem?_toArray, List.getElem?_cons_succ, List.getElem?_cons_zero]; rfl)
      go_simp
      go_at_call 20; refine (HROW.out _ (below_drewN hbr 1)).mono ?_; rintro e w5 ⟨s5, rfl, hs5, hb5⟩; have hbw5 := (below_drewN hbr 1).trans (hb5.mono hzr); have hz5 := hbw5.size; have bp5 := (bp.drewN 1).same hb5; have bv5 := (bv.drewN 1).same hb5; have bw5 := (bw.drewN 1).same hb5; have br5 := (br.drewN 1).same hb5; have hsv5 := hsv.dr.below hb5; have htv5 := (htv.drewN 1).below hb5; have s0 := bp5.cell 0; have y2 := bv5.cell 2; have z2 := bw5.cell 2; simp only [List.getElem?_toArray, List.getElem?_cons_succ, List.getElem?_cons_zero] at s0 y2 z2; have p0 := (hbw5.cell (p := ⟨ab, off + k * 2, none⟩) hab).trans p00; have q0 := (hbw5.cell (p := ⟨bb, bo + k * 2, none⟩) hbb).trans q00
      refine hK.out _ _ ?_ (fun hHeld => ?_)
      · ((try dsimp only); go_keep)
      clear hK K
      try simp only [Act.put, List.setIfInBounds_toArray, List.set_cons_zero, List.set_cons_succ]
      refine wpAnyT_ready (rs := [16]) (by kernel_rfl) (by simp) ?_
      refine AllReadyT.cons (o := ?_) ?_ (fun K hK => ?_) AllReadyT.nil
      rotate_left 1
      · (simp only [List.getElem?_toArray, List.getElem?_cons_succ, List.getElem?_cons_zero]; rfl)
      refine step_app2x rfl (.tmp 46) (.tmp 60) 30 rfl RChange 38 [50, 21] w.heap.size 0 40 _ Try.underlying30 change_info rfl (by decide) (by decide) _ _ rfl hsv5 _ _ _ rfl hs5 (by have := HL1.out; omega) hz5 ?_; intro v6 w6 hv6 hst6 hg6; rw [← HCS.out] at hv6; obtain ⟨A6, c6, rfl, _, _, _⟩ := hv6.slc.open_; have hbw6 := hbw5.trans (hst6.below hz5); have hz6 := hbw6.size; have bp6 := bp5.step hst6 (by decide); have bv6 := bv5.step hst6 (by decide); have bw6 := bw5.step hst6 (by decide); have br6 := br5.step hst6 (by decide); have htv6 := htv5.ints_step hst6 (by decide); have f0 := bp6.frozen 0; have s0 := bp6.cell 0; have y2 := bv6.cell 2; have z2 := bw6.cell 2; simp only [List.getElem?_toArray, List.getElem?_cons_succ, List.getElem?_cons_zero] at s0 y2 z2; have p0 := (hbw6.cell (p := ⟨ab, off + k * 2, none⟩) hab).trans p00; have q0 := (hbw6.cell (p := ⟨bb, bo + k * 2, none⟩) hbb).trans q00
      refine hK.out _ _ ?_ (fun hHeld => ?_)
      · ((try dsimp only); go_keep)
      clear hK K
      try simp only [Act.put, List.setIfInBounds_toArray, List.set_cons_zero, List.set_cons_succ]
      refine wpAnyT_take (i := 17) (oi := ?_) (v := ?_) ?_ (by kernel_rfl) (by kernel_rfl) (by kernel_rfl) (by kernel_rfl) (by kernel_rfl) ?_ (Or.inl ⟨?_, ?_⟩) (by assumption) ?_
      rotate_left 2
      · (simp only [List.getElem?_toArray, List.getElem?_cons_succ, List.getElem?_cons_zero]; rfl)
      rotate_left 1
      · rfl
      · (intro w hSw; (try dsimp only at hSw); go_simp; try with_reducible rfl)
      rotate_left 1
      · exact fun _ _ _ h => h
      try simp only [Act.put, List.setIfInBounds_toArray, List.set_cons_zero, List.set_cons_succ]
      refine wpAnyT_ready (rs := [18]) (by kernel_rfl) (by simp) ?_
      refine AllReadyT.consL (o := ?_) ?_ (by kernel_rfl) (fun K hK => ?_) AllReadyT.nil
      rotate_left 1
      · (simp only [List.getElem?_toArray, List.getElem?_cons_succ, List.getElem?_cons_zero]; rfl)
      go_simp
      refine hK.out _ _ ?_
      clear hK K
      try simp only [Act.put, List.setIfInBounds_toArray, List.set_cons_zero, List.set_cons_succ]
      refine wpAnyT_done (by kernel_rfl) ?_ _
      have hst7 : Step w.heap.size [33] w6 (w6.setCell ⟨gp, 0, none⟩ (.slice A6 cn.length c6)) := (Step.refl _ _ _).setCell hgp bp6.bears _
      have hb7 := hbw6.setCell (p := ⟨gp, 0, none⟩) hgp (.slice A6 cn.length c6)
      have bp := bp6.set_ 0 (.slice A6 cn.length c6)
      simp only [List.setIfInBounds_toArray, List.set_cons_zero] at bp
      have bv := bv6.step hst7 (by decide)
      have bw := bw6.step hst7 (by decide)
      have br := br6.far (p := ⟨gp, 0, none⟩) hgr (.slice A6 cn.length c6)
      have hsv := hv6.step hst7 (by decide) (by decide)
      have htv := htv6.ints_step hst7 (by decide)
      generalize w6.setCell ⟨gp, 0, none⟩ (.slice A6 cn.length c6) = w7 at *
      have hz7 := hb7.size
      clear hHeld s0 y2 z2 p0 q0 hbw5 hz5 bp5 bv5 bw5 br5 hsv5 htv5 hbw6 hz6 bp6 bv6 bw6 br6 htv6 f0 hv6 hst6 hg6 hst7 hb5 hs5 hbr hzr
      have p1 := (hb7.cell (p := ⟨ab, off + k * 2 + 1, none⟩) hab).trans p01
      have q1 := (hb7.cell (p := ⟨bb, bo + k * 2 + 1, none⟩) hbb).trans q01
      have hsum : IntKind.i64.wrap ((k : Int) + 1) = (k : Int) + 1 := IntWalk.i64_in _ (by omega)
      clear hsum
      have s1 := bp.cell 1; have y2 := bv.cell 2; have z2 := bw.cell 2; simp only [List.getElem?_toArray, List.getElem?_cons_succ, List.getElem?_cons_zero] at s1 y2 z2
      obtain ⟨wa, hwa⟩ : ∃ wa, ls[k].2 = wa := ⟨_, rfl⟩
      obtain ⟨wb, hwb⟩ : ∃ wb, ls'[k].2 = wb := ⟨_, rfl⟩
      have hws := HWS.out
      rw [hwa, hwb] at hws
      rw [hwa] at p1
      rw [hwb] at q1
      have HWS2 := hide hws
      clear hwa hwb hws HWS
      go_upto_region 10 with fail
      refine wp_region_held_drew (S := fun w' => w'.cell? ⟨w.heap.size, 2, none⟩ = some (.slice (some ⟨ab, off, none⟩) ls.length cp) ∧ w'.cell? ⟨w.heap.size + 1, 2, none⟩ = some (.slice (some ⟨bb, bo, none⟩) ls'.length cq) ∧ w'.cell? ⟨ab, off + k * 2 + 1, none⟩ = some (.bool wa) ∧ w'.cell? ⟨bb, bo + k * 2 + 1, none⟩ = some (.bool wb)) (by kernel_rfl) (by exact ⟨y2, z2, p1, q1⟩) (fun hHeld => ?_)
      refine wpAnyH_take (i := 0) (oi := ?_) (v := ?_) ?_ (by kernel_rfl) (by kernel_rfl) (by kernel_rfl) ?_ (Or.inl ⟨?_, ?_⟩) (by assumption) ?_
      rotate_left 2
      · (simp only [List.getElem?_toArray, List.getElem?_cons_succ, List.getElem?_cons_zero]; rfl)
      rotate_left 1
      · rfl
      · (intro w hSw; (try dsimp only at hSw); go_simp; try with_reducible rfl)
      rotate_left 1
      · exact fun _ _ _ h => h
      try simp only [Act.put, List.setIfInBounds_toArray, List.set_cons_zero, List.set_cons_succ]
      refine wpAnyH_take (i := 1) (oi := ?_) (v := ?_) ?_ (by kernel_rfl) (by kernel_rfl) (by kernel_rfl) ?_ (Or.inl ⟨?_, ?_⟩) (by assumption) ?_
      rotate_left 2
      · (simp only [List.getElem?_toArray, List.getElem?_cons_succ, List.getElem?_cons_zero]; rfl)
      rotate_left 1
      · rfl
      · (intro w hSw; (try dsimp only at hSw); go_simp; try with_reducible rfl)
      rotate_left 1
      · exact fun _ _ _ h => h
      try simp only [Act.put, List.setIfInBounds_toArray, List.set_cons_zero, List.set_cons_succ]
      refine wpAnyH_take (i := 2) (oi := ?_) (v := ?_) ?_ (by kernel_rfl) (by kernel_rfl) (by kernel_rfl) ?_ (Or.inl ⟨?_, ?_⟩) (by assumption) ?_
      rotate_left 2
      · (simp only [List.getElem?_toArray, List.getElem?_cons_succ, List.getElem?_cons_zero]; rfl)
      rotate_left 1
      · rfl
      · (intro w hSw; (try dsimp only at hSw); go_simp; try with_reducible rfl)
      rotate_left 1
      · exact fun _ _ _ h => h
      try simp only [Act.put, List.setIfInBounds_toArray, List.set_cons_zero, List.set_cons_succ]
      refine wpAnyH_take (i := 3) (oi := ?_) (v := ?_) ?_ (by kernel_rfl) (by kernel_rfl) (by kernel_rfl) ?_ (Or.inl ⟨?_, ?_⟩) (by assumption) ?_
      rotate_left 2
      · (simp only [List.getElem?_toArray, List.getElem?_cons_succ, List.getElem?_cons_zero]; rfl)
      rotate_left 1
      · rfl
      · (intro w hSw; (try dsimp only at hSw); go_simp; try with_reducible rfl)
      rotate_left 1
      · exact fun _ _ _ h => h
      try simp only [Act.put, List.setIfInBounds_toArray, List.set_cons_zero, List.set_cons_succ]
      refine wpAnyH_take (i := 4) (oi := ?_) (v := ?_) ?_ (by kernel_rfl) (by kernel_rfl) (by kernel_rfl) ?_ (Or.inl ⟨?_, ?_⟩) (by assumption) ?_
      rotate_left 2
      · (simp only [List.getElem?_toArray, List.getElem?_cons_succ, List.getElem?_cons_zero]; rfl)
      rotate_left 1
      · rfl
      · (intro w hSw; (try dsimp only at hSw); go_simp; try with_reducible rfl)
      rotate_left 1
      · exact fun _ _ _ h => h
      try simp only [Act.put, List.setIfInBounds_toArray, List.set_cons_zero, List.set_cons_succ]
      refine wpAnyH_take (i := 5) (oi := ?_) (v := ?_) ?_ (by kernel_rfl) (by kernel_rfl) (by kernel_rfl) ?_ (Or.inl ⟨?_, ?_⟩) (by assumption) ?_
      rotate_left 2
      · (simp only [List.getElem?_toArray, List.getElem?_cons_succ, List.getElem?_cons_zero]; rfl)
      rotate_left 1
      · rfl
      · (intro w hSw; (try dsimp only at hSw); go_simp; try with_reducible rfl)
      rotate_left 1
      · exact fun _ _ _ h => h
      try simp only [Act.put, List.setIfInBounds_toArray, List.set_cons_zero, List.set_cons_succ]
      refine wpAnyH_take (i := 6) (oi := ?_) (v := ?_) ?_ (by kernel_rfl) (by kernel_rfl) (by kernel_rfl) ?_ (Or.inl ⟨?_, ?_⟩) (by assumption) ?_
      rotate_left 2
      · (simp only [List.getElem?_toArray, List.getElem?_cons_succ, List.getElem?_cons_zero]; rfl)
      rotate_left 1
      · rfl
      · (intro w hSw; (try dsimp only at hSw); go_simp; try with_reducible rfl)
      rotate_left 1
      · exact fun _ _ _ h => h
      try simp only [Act.put, List.setIfInBounds_toArray, List.set_cons_zero, List.set_cons_succ]
      refine wpAnyH_take (i := 7) (oi := ?_) (v := ?_) ?_ (by kernel_rfl) (by kernel_rfl) (by kernel_rfl) ?_ (Or.inl ⟨?_, ?_⟩) (by assumption) ?_
      rotate_left 2
      · (simp only [List.getElem?_toArray, List.getElem?_cons_succ, List.getElem?_cons_zero]; rfl)
      rotate_left 1
      · rfl
      · (intro w hSw; (try dsimp only at hSw); go_simp; try with_reducible rfl)
      rotate_left 1
      · exact fun _ _ _ h => h
      try simp only [Act.put, List.setIfInBounds_toArray, List.set_cons_zero, List.set_cons_succ]
      refine wpAnyH_take (i := 8) (oi := ?_) (v := ?_) ?_ (by kernel_rfl) (by kernel_rfl) (by kernel_rfl) ?_ (Or.inl ⟨?_, ?_⟩) (by assumption) ?_
      rotate_left 2
      · (simp only [List.getElem?_toArray, List.getElem?_cons_succ, List.getElem?_cons_zero]; rfl)
      rotate_left 1
      · rfl
      · (intro w hSw; (try dsimp only at hSw); go_simp; try with_reducible rfl)
      rotate_left 1
      · exact fun _ _ _ h => h
      try simp only [Act.put, List.setIfInBounds_toArray, List.set_cons_zero, List.set_cons_succ]
      refine wpAnyH_take (i := 9) (oi := ?_) (v := ?_) ?_ (by kernel_rfl) (by kernel_rfl) (by kernel_rfl) ?_ (Or.inl ⟨?_, ?_⟩) (by assumption) ?_
      rotate_left 2
      · (simp only [List.getElem?_toArray, List.getElem?_cons_succ, List.getElem?_cons_zero]; rfl)
      rotate_left 1
      · rfl
      · (intro w hSw; (try dsimp only at hSw); go_simp; try with_reducible rfl)
      rotate_left 1
      · exact fun _ _ _ h => h
      try simp only [Act.put, List.setIfInBounds_toArray, List.set_cons_zero, List.set_cons_succ]
      refine wpAnyH_take (i := 10) (oi := ?_) (v := ?_) ?_ (by kernel_rfl) (by kernel_rfl) (by kernel_rfl) ?_ (Or.inl ⟨?_, ?_⟩) (by assumption) ?_
      rotate_left 2
      · (simp only [List.getElem?_toArray, List.getElem?_cons_succ, List.getElem?_cons_zero]; rfl)
      rotate_left 1
      · rfl
      · (intro w hSw; (try dsimp only at hSw); go_simp; try with_reducible rfl)
      rotate_left 1
      · exact fun _ _ _ h => h
      try simp only [Act.put, List.setIfInBounds_toArray, List.set_cons_zero, List.set_cons_succ]
      refine wpAnyH_take (i := 11) (oi := ?_) (v := ?_) ?_ (by kernel_rfl) (by kernel_rfl) (by kernel_rfl) ?_ (Or.inl ⟨?_, ?_⟩) (by assumption) ?_
      rotate_left 2
      · (simp only [List.getElem?_toArray, List.getElem?_cons_succ, List.getElem?_cons_zero]; rfl)
      rotate_left 1
      · rfl
      · (intro w hSw; (try dsimp only at hSw); go_simp; try with_reducible rfl)
      rotate_left 1
      · exact fun _ _ _ h => h
      try simp only [Act.put, List.setIfInBounds_toArray, List.set_cons_zero, List.set_cons_succ]
      refine wpAnyH_take (i := 12) (oi := ?_) (v := ?_) ?_ (by kernel_rfl) (by kernel_rfl) (by kernel_rfl) ?_ (Or.inl ⟨?_, ?_⟩) (by assumption) ?_
      rotate_left 2
      · (simp only [List.getElem?_toArray, List.getElem?_cons_succ, List.getElem?_cons_zero]; rfl)
      rotate_left 1
      · rfl
      · (intro w hSw; (try dsimp only at hSw); go_simp; try with_reducible rfl)
      rotate_left 1
      · exact fun _ _ _ h => h
      try simp only [Act.put, List.setIfInBounds_toArray, List.set_cons_zero, List.set_cons_succ]
      refine wpAnyH_done (by kernel_rfl) ?_ _
      have bp : Blk w7.drew gp _ _ := bp
      have bv : Blk w7.drew w.heap.size _ _ := bv
      have bw : Blk w7.drew (w.heap.size + 1) _ _ := bw
      have br : Blk w7.drew (w.heap.size + 1 + 1) _ _ := br
      have hsv := hsv.dr
      have htv := htv.step (es := []) ((Step.refl w.heap.size [] w7).drew) (by simp) (by simp)
      have hb8 := below_dr hb7
      have hz8 := hb8.size
      generalize w7.drew = w8 at *
      clear hHeld hb7 hz7 s1 y2 z2 p1 q1
      have s1 := bp.cell 1
      have f1 := bp.frozen 1
      simp only [List.getElem?_toArray, List.getElem?_cons_succ, List.getElem?_cons_zero] at s1
      cases wa with
      | false =>
        cases wb with
        | false =>
          have hwn : wn = wu := by rw [HWS2.out, if_neg (by decide), List.append_nil]
          have HW3 := hide hwn
          clear hwn
          go_wp2
          go_roundw
          case rel => exact ⟨k + 1, _, tv, by omega, by go_num, by rw [HCN.out]; exact hsv, by rw [HWN.out, HW3.out]; exact htv, bp, bv, bw, br, hb8⟩
          case measure => simp [intOf]; omega
        | true =>
          have hwn : wn = wu ++ [(k : Int)] := by rw [HWS2.out, if_pos (by decide)]
          have HW3 := hide hwn
          have hkw : (Lit.int .i64 (k : Int)).wf = true := wf_i64 (by omega) (by omega)
          have htv9 := htv.alloc (.cells #[.int .i64 k] 3)
          have hone := Slc.lit1 (R := Rep.int .i64) (Si := fun _ => False) (Si' := fun _ => False) (w := w8) (x := (k : Int)) (u := [.int .i64 k]) 3 ⟨rfl, hkw⟩ (fun _ _ h => h.elim)
          have bp9 := bp.alloc (.cells #[.int .i64 k] 3)
          have bv9 := bv.alloc (.cells #[.int .i64 k] 3)
          have bw9 := bw.alloc (.cells #[.int .i64 k] 3)
          have br9 := br.alloc (.cells #[.int .i64 k] 3)
          have hsv9 := hsv.alloc (.cells #[.int .i64 k] 3)
          have hb9 := hb8.alloc hz8 (.cells #[.int .i64 k] 3)
          clear hwn
          go_wp2_with (at_builtin; refine wpList_appg rfl (.tmp 77) (.tmp 79) 31 rfl (Rep.int .i64) 3 [] w.heap.size 8 _ Try.underlying31 i64_info rfl (by decide) (by decide) _ _ rfl htv9 _ (fun _ => False) _ _ rfl hone (fun _ h => False.elim h) (by have := HWL.out; simp; omega) hb9.size ?_; intro v6 w6 hv6 hst6 hg6 ho6; have bp10 := bp9.step hst6 (by decide); have f2 := bp10.frozen 1; have s2 := bp10.cell 1; simp only [List.getElem?_toArray, List.getElem?_cons_succ, List.getElem?_cons_zero] at s2; rw [← HW3.out] at hv6; obtain ⟨A7, c7, rfl, _, _, _⟩ := hv6.slc.open_)
          have hst7 : Step w.heap.size [33] w6 (w6.setCell ⟨gp, 1, none⟩ (.slice A7 wn.length c7)) := (Step.refl _ _ _).setCell hgp bp10.bears _
          have hb7 := (hb9.trans (hst6.below hb9.size)).setCell (p := ⟨gp, 1, none⟩) hgp (.slice A7 wn.length c7)
          have bp := bp10.set_ 1 (.slice A7 wn.length c7)
          simp only [List.setIfInBounds_toArray, List.set_cons_succ, List.set_cons_zero] at bp
          have bv := (bv9.step hst6 (by decide)).step hst7 (by decide)
          have bw := (bw9.step hst6 (by decide)).step hst7 (by decide)
          have br := (br9.step hst6 (by decide)).far (p := ⟨gp, 1, none⟩) hgr (.slice A7 wn.length c7)
          have hsv := (hsv9.step hst6 (by decide) (by decide)).step hst7 (by decide) (by decide)
          have htv := hv6.ints_step hst7 (by decide)
          go_roundw
          case rel => exact ⟨k + 1, _, _, by omega, by go_num, by rw [HCN.out]; exact hsv, by rw [HWN.out]; exact htv, bp, bv, bw, br, hb7⟩
          case measure => simp [intOf]; omega
      | true =>
        cases wb with
        | false =>
          have hwn : wn = wu ++ [(k : Int)] := by rw [HWS2.out, if_pos (by decide)]
          have HW3 := hide hwn
          have hkw : (Lit.int .i64 (k : Int)).wf = true := wf_i64 (by omega) (by omega)
          have htv9 := htv.alloc (.cells #[.int .i64 k] 3)
          have hone := Slc.lit1 (R := Rep.int .i64) (Si := fun _ => False) (Si' := fun _ => False) (w := w8) (x := (k : Int)) (u := [.int .i64 k]) 3 ⟨rfl, hkw⟩ (fun _ _ h => h.elim)
          have bp9 := bp.alloc (.cells #[.int .i64 k] 3)
          have bv9 := bv.alloc (.cells #[.int .i64 k] 3)
          have bw9 := bw.alloc (.cells #[.int .i64 k] 3)
          have br9 := br.alloc (.cells #[.int .i64 k] 3)
          have hsv9 := hsv.alloc (.cells #[.int .i64 k] 3)
          have hb9 := hb8.alloc hz8 (.cells #[.int .i64 k] 3)
          clear hwn
          go_wp2_with (at_builtin; refine wpList_appg rfl (.tmp 77) (.tmp 79) 31 rfl (Rep.int .i64) 3 [] w.heap.size 8 _ Try.underlying31 i64_info rfl (by decide) (by decide) _ _ rfl htv9 _ (fun _ => False) _ _ rfl hone (fun _ h => False.elim h) (by have := HWL.out; simp; omega) hb9.size ?_; intro v6 w6 hv6 hst6 hg6 ho6; have bp10 := bp9.step hst6 (by decide); have f2 := bp10.frozen 1; have s2 := bp10.cell 1; simp only [List.getElem?_toArray, List.getElem?_cons_succ, List.getElem?_cons_zero] at s2; rw [← HW3.out] at hv6; obtain ⟨A7, c7, rfl, _, _, _⟩ := hv6.slc.open_)
          have hst7 : Step w.heap.size [33] w6 (w6.setCell ⟨gp, 1, none⟩ (.slice A7 wn.length c7)) := (Step.refl _ _ _).setCell hgp bp10.bears _
          have hb7 := (hb9.trans (hst6.below hb9.size)).setCell (p := ⟨gp, 1, none⟩) hgp (.slice A7 wn.length c7)
          have bp := bp10.set_ 1 (.slice A7 wn.length c7)
          simp only [List.setIfInBounds_toArray, List.set_cons_succ, List.set_cons_zero] at bp
          have bv := (bv9.step hst6 (by decide)).step hst7 (by decide)
          have bw := (bw9.step hst6 (by decide)).step hst7 (by decide)
          have br := (br9.step hst6 (by decide)).far (p := ⟨gp, 1, none⟩) hgr (.slice A7 wn.length c7)
          have hsv := (hsv9.step hst6 (by decide) (by decide)).step hst7 (by decide) (by decide)
          have htv := hv6.ints_step hst7 (by decide)
          go_roundw
          case rel => exact ⟨k + 1, _, _, by omega, by go_num, by rw [HCN.out]; exact hsv, by rw [HWN.out]; exact htv, bp, bv, bw, br, hb7⟩
          case measure => simp [intOf]; omega
        | true =>
          have hwn : wn = wu := by rw [HWS2.out, if_neg (by decide), List.append_nil]
          have HW3 := hide hwn
          clear hwn
          go_wp2
          go_roundw
          case rel => exact ⟨k + 1, _, tv, by omega, by go_num, by rw [HCN.out]; exact hsv, by rw [HWN.out, HW3.out]; exact htv, bp, bv, bw, br, hb8⟩
          case measure => simp [intOf]; omega
    · obtain rfl : k = ls.length := by omega
      obtain ⟨A6, c6, rfl, _, _, _⟩ := hsv.slc.open_
      obtain ⟨A7, c7, rfl, _, _, _⟩ := htv.slc.open_
      obtain ⟨cu, hcu⟩ : ∃ cu, chgU ls ls' ls.length = cu := ⟨_, rfl⟩
      obtain ⟨wu, hwu⟩ : ∃ wu, wrapU ls ls' ls.length = wu := ⟨_, rfl⟩
      rw [hcu] at hsv bp
      rw [hwu] at htv bp
      have HCU := hide hcu
      have HWU := hide hwu
      clear hcu hwu
      have s0 := bp.cell 0; have s1 := bp.cell 1; have s2 := bp.cell 2; have s3 := bp.cell 3; have s4 := bp.cell 4; have s5 := bp.cell 5; have s6 := bp.cell 6; have s7 := bp.cell 7; have s8 := bp.cell 8; have s9 := bp.cell 9; have s10 := bp.cell 10; have s11 := bp.cell 11; have s12 := bp.cell 12; have s13 := bp.cell 13; have t0 := br.cell 0; have t1 := br.cell 1; have t2 := br.cell 2; have t3 := br.cell 3; have t4 := br.cell 4; have t5 := br.cell 5; have t6 := br.cell 6; have t7 := br.cell 7; have t8 := br.cell 8; have t9 := br.cell 9; have t10 := br.cell 10; have t11 := br.cell 11; have t12 := br.cell 12; have t13 := br.cell 13; have f0 := br.frozen 0; have f1 := br.frozen 1; have f2 := br.frozen 2; have f3 := br.frozen 3; have f4 := br.frozen 4; have f5 := br.frozen 5; have f6 := br.frozen 6; have f7 := br.frozen 7; have f8 := br.frozen 8; have f9 := br.frozen 9; have f10 := br.frozen 10; have f11 := br.frozen 11; have f12 := br.frozen 12; have f13 := br.frozen 13; simp only [List.getElem?_toArray, List.getElem?_cons_succ, List.getElem?_cons_zero] at s0 t0 s1 t1 s2 t2 s3 t3 s4 t4 s5 t5 s6 t6 s7 t7 s8 t8 s9 t9 s10 t10 s11 t11 s12 t12 s13 t13
      go_wp2
      have hst7 : Step w.heap.size [33] wr (((((((((((((((wr).setCell ⟨w.heap.size + 1 + 1, 0, none⟩ (.slice A6 cu.length c6)).setCell ⟨w.heap.size + 1 + 1, 1, none⟩ (.slice A7 wu.length c7)).setCell ⟨w.heap.size + 1 + 1, 2, none⟩ (.int .i64 r')).setCell ⟨w.heap.size + 1 + 1, 3, none⟩ (.int .i64 c')).setCell ⟨w.heap.size + 1 + 1, 4, none⟩ (.bool p')).setCell ⟨w.heap.size + 1 + 1, 5, none⟩ (.bool au')).setCell ⟨w.heap.size + 1 + 1, 6, none⟩ (.bool false)).setCell ⟨w.heap.size + 1 + 1, 7, none⟩ (.int .i64 0)).setCell ⟨w.heap.size + 1 + 1, 8, none⟩ (.int .i64 0)).setCell ⟨w.heap.size + 1 + 1, 9, none⟩ (.slice none 0 0)).setCell ⟨w.heap.size + 1 + 1, 10, none⟩ (.int .i64 0)).setCell ⟨w.heap.size + 1 + 1, 11, none⟩ (.int .i64 0)).setCell ⟨w.heap.size + 1 + 1, 12, none⟩ (.bool false)).setCell ⟨w.heap.size + 1 + 1, 13, none⟩ (.bool false)) := ((((((((((((((Step.refl w.heap.size [33] wr).setCell (p := ⟨w.heap.size + 1 + 1, 0, none⟩) (by show w.heap.size ≤ w.heap.size + 1 + 1; omega) (br).bears (.slice A6 cu.length c6)).setCell (p := ⟨w.heap.size + 1 + 1, 1, none⟩) (by show w.heap.size ≤ w.heap.size + 1 + 1; omega) ((br).set_ 0 (.slice A6 cu.length c6)).bears (.slice A7 wu.length c7)).setCell (p := ⟨w.heap.size + 1 + 1, 2, none⟩) (by show w.heap.size ≤ w.heap.size + 1 + 1; omega) (((br).set_ 0 (.slice A6 cu.length c6)).set_ 1 (.slice A7 wu.length c7)).bears (.int .i64 r')).setCell (p := ⟨w.heap.size + 1 + 1, 3, none⟩) (by show w.heap.size ≤ w.heap.size + 1 + 1; omega) ((((br).set_ 0 (.slice A6 cu.length c6)).set_ 1 (.slice A7 wu.length c7)).set_ 2 (.int .i64 r')).bears (.int .i64 c')).setCell (p := ⟨w.heap.size + 1 + 1, 4, none⟩) (by show w.heap.size ≤ w.heap.size + 1 + 1; omega) (((((br).set_ 0 (.slice A6 cu.length c6)).set_ 1 (.slice A7 wu.length c7)).set_ 2 (.int .i64 r')).set_ 3 (.int .i64 c')).bears (.bool p')).setCell (p := ⟨w.heap.size + 1 + 1, 5, none⟩) (by show w.heap.size ≤ w.heap.size + 1 + 1; omega) ((((((br).set_ 0 (.slice A6 cu.length c6)).set_ 1 (.slice A7 wu.length c7)).set_ 2 (.int .i64 r')).set_ 3 (.int .i64 c')).set_ 4 (.bool p')).bears (.bool au')).setCell (p := ⟨w.heap.size + 1 + 1, 6, none⟩) (by show w.heap.size ≤ w.heap.size + 1 + 1; omega) (((((((br).set_ 0 (.slice A6 cu.length c6)).set_ 1 (.slice A7 wu.length c7)).set_ 2 (.int .i64 r')).set_ 3 (.int .i64 c')).set_ 4 (.bool p')).set_ 5 (.bool au')).bears (.bool false)).setCell (p := ⟨w.heap.size + 1 + 1, 7, none⟩) (by show w.heap.size ≤ w.heap.size + 1 + 1; omega) ((((((((br).set_ 0 (.slice A6 cu.length c6)).set_ 1 (.slice A7 wu.length c7)).set_ 2 (.int .i64 r')).set_ 3 (.int .i64 c')).set_ 4 (.bool p')).set_ 5 (.bool au')).set_ 6 (.bool false)).bears (.int .i64 0)).setCell (p := ⟨w.heap.size + 1 + 1, 8, none⟩) (by show w.heap.size ≤ w.heap.size + 1 + 1; omega) (((((((((br).set_ 0 (.slice A6 cu.length c6)).set_ 1 (.slice A7 wu.length c7)).set_ 2 (.int .i64 r')).set_ 3 (.int .i64 c')).set_ 4 (.bool p')).set_ 5 (.bool au')).set_ 6 (.bool false)).set_ 7 (.int .i64 0)).bears (.int .i64 0)).setCell (p := ⟨w.heap.size + 1 + 1, 9, none⟩) (by show w.heap.size ≤ w.heap.size + 1 + 1; omega) ((((((((((br).set_ 0 (.slice A6 cu.length c6)).set_ 1 (.slice A7 wu.length c7)).set_ 2 (.int .i64 r')).set_ 3 (.int .i64 c')).set_ 4 (.bool p')).set_ 5 (.bool au')).set_ 6 (.bool false)).set_ 7 (.int .i64 0)).set_ 8 (.int .i64 0)).bears (.slice none 0 0)).setCell (p := ⟨w.heap.size + 1 + 1, 10, none⟩) (by show w.heap.size ≤ w.heap.size + 1 + 1; omega) (((((((((((br).set_ 0 (.slice A6 cu.length c6)).set_ 1 (.slice A7 wu.length c7)).set_ 2 (.int .i64 r')).set_ 3 (.int .i64 c')).set_ 4 (.bool p')).set_ 5 (.bool au')).set_ 6 (.bool false)).set_ 7 (.int .i64 0)).set_ 8 (.int .i64 0)).set_ 9 (.slice none 0 0)).bears (.int .i64 0)).setCell (p := ⟨w.heap.size + 1 + 1, 11, none⟩) (by show w.heap.size ≤ w.heap.size + 1 + 1; omega) ((((((((((((br).set_ 0 (.slice A6 cu.length c6)).set_ 1 (.slice A7 wu.length c7)).set_ 2 (.int .i64 r')).set_ 3 (.int .i64 c')).set_ 4 (.bool p')).set_ 5 (.bool au')).set_ 6 (.bool false)).set_ 7 (.int .i64 0)).set_ 8 (.int .i64 0)).set_ 9 (.slice none 0 0)).set_ 10 (.int .i64 0)).bears (.int .i64 0)).setCell (p := ⟨w.heap.size + 1 + 1, 12, none⟩) (by show w.heap.size ≤ w.heap.size + 1 + 1; omega) (((((((((((((br).set_ 0 (.slice A6 cu.length c6)).set_ 1 (.slice A7 wu.length c7)).set_ 2 (.int .i64 r')).set_ 3 (.int .i64 c')).set_ 4 (.bool p')).set_ 5 (.bool au')).set_ 6 (.bool false)).set_ 7 (.int .i64 0)).set_ 8 (.int .i64 0)).set_ 9 (.slice none 0 0)).set_ 10 (.int .i64 0)).set_ 11 (.int .i64 0)).bears (.bool false)).setCell (p := ⟨w.heap.size + 1 + 1, 13, none⟩) (by show w.heap.size ≤ w.heap.size + 1 + 1; omega) ((((((((((((((br).set_ 0 (.slice A6 cu.length c6)).set_ 1 (.slice A7 wu.length c7)).set_ 2 (.int .i64 r')).set_ 3 (.int .i64 c')).set_ 4 (.bool p')).set_ 5 (.bool au')).set_ 6 (.bool false)).set_ 7 (.int .i64 0)).set_ 8 (.int .i64 0)).set_ 9 (.slice none 0 0)).set_ 10 (.int .i64 0)).set_ 11 (.int .i64 0)).set_ 12 (.bool false)).bears (.bool false)
      have hb7 := hbr.trans (hst7.below hzr)
      have bn : Blk (((((((((((((((wr).setCell ⟨w.heap.size + 1 + 1, 0, none⟩ (.slice A6 cu.length c6)).setCell ⟨w.heap.size + 1 + 1, 1, none⟩ (.slice A7 wu.length c7)).setCell ⟨w.heap.size + 1 + 1, 2, none⟩ (.int .i64 r')).setCell ⟨w.heap.size + 1 + 1, 3, none⟩ (.int .i64 c')).setCell ⟨w.heap.size + 1 + 1, 4, none⟩ (.bool p')).setCell ⟨w.heap.size + 1 + 1, 5, none⟩ (.bool au')).setCell ⟨w.heap.size + 1 + 1, 6, none⟩ (.bool false)).setCell ⟨w.heap.size + 1 + 1, 7, none⟩ (.int .i64 0)).setCell ⟨w.heap.size + 1 + 1, 8, none⟩ (.int .i64 0)).setCell ⟨w.heap.size + 1 + 1, 9, none⟩ (.slice none 0 0)).setCell ⟨w.heap.size + 1 + 1, 10, none⟩ (.int .i64 0)).setCell ⟨w.heap.size + 1 + 1, 11, none⟩ (.int .i64 0)).setCell ⟨w.heap.size + 1 + 1, 12, none⟩ (.bool false)).setCell ⟨w.heap.size + 1 + 1, 13, none⟩ (.bool false)) (w.heap.size + 1 + 1) 33 #[.slice A6 cu.length c6, .slice A7 wu.length c7, .int .i64 r', .int .i64 c', .bool p', .bool au', .bool false, .int .i64 0, .int .i64 0, .slice none 0 0, .int .i64 0, .int .i64 0, .bool false, .bool false] := by have := ((((((((((((((br).set_ 0 (.slice A6 cu.length c6)).set_ 1 (.slice A7 wu.length c7)).set_ 2 (.int .i64 r')).set_ 3 (.int .i64 c')).set_ 4 (.bool p')).set_ 5 (.bool au')).set_ 6 (.bool false)).set_ 7 (.int .i64 0)).set_ 8 (.int .i64 0)).set_ 9 (.slice none 0 0)).set_ 10 (.int .i64 0)).set_ 11 (.int .i64 0)).set_ 12 (.bool false)).set_ 13 (.bool false); simpa using this
      have hsv := hsv.step hst7 (by decide) (by decide)
      have htv := htv.ints_step hst7 (by decide)
      generalize ((((((((((((((wr).setCell ⟨w.heap.size + 1 + 1, 0, none⟩ (.slice A6 cu.length c6)).setCell ⟨w.heap.size + 1 + 1, 1, none⟩ (.slice A7 wu.length c7)).setCell ⟨w.heap.size + 1 + 1, 2, none⟩ (.int .i64 r')).setCell ⟨w.heap.size + 1 + 1, 3, none⟩ (.int .i64 c')).setCell ⟨w.heap.size + 1 + 1, 4, none⟩ (.bool p')).setCell ⟨w.heap.size + 1 + 1, 5, none⟩ (.bool au')).setCell ⟨w.heap.size + 1 + 1, 6, none⟩ (.bool false)).setCell ⟨w.heap.size + 1 + 1, 7, none⟩ (.int .i64 0)).setCell ⟨w.heap.size + 1 + 1, 8, none⟩ (.int .i64 0)).setCell ⟨w.heap.size + 1 + 1, 9, none⟩ (.slice none 0 0)).setCell ⟨w.heap.size + 1 + 1, 10, none⟩ (.int .i64 0)).setCell ⟨w.heap.size + 1 + 1, 11, none⟩ (.int .i64 0)).setCell ⟨w.heap.size + 1 + 1, 12, none⟩ (.bool false)).setCell ⟨w.heap.size + 1 + 1, 13, none⟩ (.bool false) = wz at *
      have x0 := bn.cell 0; have x1 := bn.cell 1; have x2 := bn.cell 2; have x3 := bn.cell 3; have x4 := bn.cell 4; have x5 := bn.cell 5; have x6 := bn.cell 6; have x7 := bn.cell 7; have x8 := bn.cell 8; have x9 := bn.cell 9; have x10 := bn.cell 10; have x11 := bn.cell 11; have x12 := bn.cell 12; have x13 := bn.cell 13; simp only [List.getElem?_toArray, List.getElem?_cons_succ, List.getElem?_cons_zero] at x0 x1 x2 x3 x4 x5 x6 x7 x8 x9 x10 x11 x12 x13
      refine bodyPost_ret (v := .tuple #[.agg #[.slice A6 cu.length c6, .slice A7 wu.length c7, .int .i64 r', .int .i64 c', .bool p', .bool au', .bool false, .int .i64 0, .int .i64 0, .slice none 0 0, .int .i64 0, .int .i64 0, .bool false, .bool false], .bool true]) (by simp [results, Try.results9, go_sem, x0, x1, x2, x3, x4, x5, x6, x7, x8, x9, x10, x11, x12, x13]) rfl ⟨_, _, rfl, by rw [HCU.out]; exact hsv, by rw [HWU.out]; exact htv, hb7⟩
end Go.Proofs.Ytcidioomhdkbnaa
