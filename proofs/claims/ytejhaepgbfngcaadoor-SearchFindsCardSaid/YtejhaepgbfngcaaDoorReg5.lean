/-
  Package region's Text: what it returns: row by row, between two places.
-/
import Derived.Test.YtejhaepgbfngcaaDoorReg4
import Derived.Test.YtejhaepgbfngcaaDoorAud6
import Derived.Test.YtejhaepgbfngcaaDoorOrd
import Derived.RegionTactic
import Derived.Deep.CutRange
import Derived.BigQuiet
namespace Go.Proofs.YtejhaepgbfngcaaDoor
open Go.RowKit
set_option linter.unusedVariables false
set_option linter.unusedSimpArgs false

def lnR (ls : List LineV) (i : Nat) : LineV := ls.getD i ([], false)
theorem lnR_at (ls : List LineV) {i : Nat} (h : i < ls.length) : lnR ls i = ls[i] := by unfold lnR; rw [List.getD_eq_getElem?_getD, List.getElem?_eq_getElem h]; rfl
def rowT (ls : List LineV) (wd a0 a1 b0 b1 i : Nat) : List Int := rowF (lnR ls i).1 (if i = a0 then a1 else 0) (if i = b0 then b1 else wd - 1) (decide (i < b0)) (lnR ls i).2
def textT (ls : List LineV) (wd a0 a1 b0 b1 n : Nat) : List Int := (List.range' a0 (n - a0)).flatMap (rowT ls wd a0 a1 b0 b1)
theorem textT_snoc (ls : List LineV) (wd a0 a1 b0 b1 n : Nat) (h : a0 ≤ n) : textT ls wd a0 a1 b0 b1 (n + 1) = textT ls wd a0 a1 b0 b1 n ++ rowT ls wd a0 a1 b0 b1 n := by
  unfold textT
  rw [show n + 1 - a0 = (n - a0) + 1 by omega, List.range'_concat, List.flatMap_append]
  simp
  rw [show a0 + (n - a0) = n by omega]
theorem textT_zero (ls : List LineV) (wd a0 a1 b0 b1 : Nat) : textT ls wd a0 a1 b0 b1 a0 = [] := by unfold textT; rw [Nat.sub_self]; rfl
theorem sound_short {l : List CellV} (h : soundB l = true) : ∀ c ∈ l, c.2.length ≤ 16 := by
  intro c hc
  obtain ⟨k, hk, rfl⟩ := List.getElem_of_mem hc
  have hw := (wrong_sound l).2 h k hk
  unfold wrongAt at hw
  rw [dif_pos hk] at hw
  split at hw
  · cases hw
  · rename_i h1
    have h1 : rightB l[k] = true := by simpa using h1
    unfold rightB at h1
    split at h1
    · rw [decide_eq_true_eq] at h1; omega
    · split at h1
      · rw [Bool.and_eq_true, decide_eq_true_eq] at h1; omega
      · cases h1
theorem stretch_short {l : List CellV} (h : ∀ c ∈ l, c.2.length ≤ 16) (f t : Nat) : ∀ c ∈ stretchF l f t, c.2.length ≤ 16 := fun c hc => h c (List.mem_of_mem_take (List.mem_of_mem_drop hc))
theorem stretch_le (l : List CellV) (f t : Nat) : (stretchF l f t).length ≤ l.length := by unfold stretchF; rw [List.length_drop, List.length_take]; omega
theorem stretch_pos {l : List CellV} {f t : Nat} (h : f ≤ t) (ht : t < l.length) : 0 < (stretchF l f t).length := by
  unfold stretchF toF fromF
  rw [List.length_drop, List.length_take]
  split <;> split <;> omega
theorem rowF_len {l : List CellV} (h : ∀ c ∈ l, c.2.length ≤ 16) (f t : Nat) (on wrap : Bool) : (rowF l f t on wrap).length ≤ 17 * l.length + 1 := by
  have hs := stretch_short h f t
  have hl := stretch_le l f t
  unfold rowF innerF
  generalize stretchF l f t = m at *
  split
  · split
    · have := read_len (m.take (usedF m)) (take_short hs _)
      have h2 : (m.take (usedF m)).length ≤ m.length := List.length_take_le' ..
      rw [List.length_append, List.length_singleton]
      omega
    · split
      · have := read_len (m.take (m.length - 1)) (take_short hs _)
        have h2 : (m.take (m.length - 1)).length ≤ m.length := List.length_take_le' ..
        omega
      · have := read_len m hs
        omega
  · have := read_len m hs
    omega

/-- What is known of a right view's lines. -/
structure RgtV (wd hi : Int) (ls : List LineV) : Prop where
  w1 : 1 ≤ wd
  w2 : wd ≤ 1024
  h1 : 1 ≤ hi
  h2 : hi ≤ 1024
  hl : hi = ls.length
  line : ∀ l ∈ ls, (l.1.length : Int) = wd ∧ soundB l.1 = true
theorem RgtV.of {wd hi r c : Int} {p au : Bool} {ls : List LineV} (h : rightV ⟨wd, hi, ls, r, c, p, au⟩ = true) : RgtV wd hi ls := by
  unfold rightV headR at h
  rw [Bool.and_eq_true, Bool.and_eq_true, decide_eq_true_eq, List.all_eq_true] at h
  obtain ⟨⟨⟨h1, h2, h3, h4, h5⟩, _⟩, h6⟩ := h
  simp only at h1 h2 h3 h4 h5 h6
  refine ⟨h4, h5, h2, h3, h1, fun l hl => ?_⟩
  have := h6 l hl
  unfold lineR at this
  rw [Bool.and_eq_true, decide_eq_true_eq] at this
  exact this
theorem textT_len {wd hi : Int} {ls : List LineV} (h : RgtV wd hi ls) (W a0 a1 b0 b1 : Nat) : ∀ n, n ≤ ls.length → (textT ls W a0 a1 b0 b1 n).length ≤ 18000 * n := by
  intro n
  induction n with
  | zero => intro _; unfold textT; simp
  | succ n ih =>
    intro hn
    by_cases hlt : a0 ≤ n
    · rw [textT_snoc _ _ _ _ _ _ _ hlt, List.length_append]
      have h1 := ih (by omega)
      have hl := h.line ls[n] (List.getElem_mem _)
      have h2 := rowF_len (sound_short hl.2) (if n = a0 then a1 else 0) (if n = b0 then b1 else W - 1) (decide (n < b0)) ls[n].2
      have h3 := h.w2
      unfold rowT
      rw [lnR_at ls (by omega)]
      omega
    · unfold textT
      rw [show n + 1 - a0 = 0 by omega]
      simp
def textF (v : ViewV) (a0 a1 b0 b1 : Int) : List Int :=
  if rightV v = false then [] else if laterB (heldF a0 v.high) (heldF a1 v.wide) (heldF b0 v.high) (heldF b1 v.wide) = true then textT v.lines v.wide.toNat (heldF b0 v.high).toNat (heldF b1 v.wide).toNat (heldF a0 v.high).toNat (heldF a1 v.wide).toNat ((heldF a0 v.high).toNat + 1)
  else textT v.lines v.wide.toNat (heldF a0 v.high).toNat (heldF a1 v.wide).toNat (heldF b0 v.high).toNat (heldF b1 v.wide).toNat ((heldF b0 v.high).toNat + 1)
/-- The places that are held, the earlier one first. -/
structure Ord4 (wd hi a0 a1 b0 b1 : Int) (x0 x1 y0 y1 : Nat) : Prop where
  r0 : (x0 : Int) < hi
  r1 : (y0 : Int) < hi
  c0 : (x1 : Int) < wd
  c1 : (y1 : Int) < wd
  le : x0 < y0 ∨ x0 = y0 ∧ x1 ≤ y1
  eq : (if laterB (heldF a0 hi) (heldF a1 wd) (heldF b0 hi) (heldF b1 wd) = true then #[Value.agg #[.int .i64 (heldF b0 hi), .int .i64 (heldF b1 wd)], .agg #[.int .i64 (heldF a0 hi), .int .i64 (heldF a1 wd)]] else #[.agg #[.int .i64 (heldF a0 hi), .int .i64 (heldF a1 wd)], .agg #[.int .i64 (heldF b0 hi), .int .i64 (heldF b1 wd)]]) = #[.agg #[.int .i64 x0, .int .i64 x1], .agg #[.int .i64 y0, .int .i64 y1]]
theorem ord4 {wd hi : Int} {ls : List LineV} (h : RgtV wd hi ls) (a0 a1 b0 b1 r c : Int) (p au : Bool) (hr : rightV ⟨wd, hi, ls, r, c, p, au⟩ = true) : ∃ x0 x1 y0 y1, Ord4 wd hi a0 a1 b0 b1 x0 x1 y0 y1 ∧ textF ⟨wd, hi, ls, r, c, p, au⟩ a0 a1 b0 b1 = textT ls wd.toNat x0 x1 y0 y1 (y0 + 1) := by
  have b1' : ∀ a m : Int, 1 ≤ m → 0 ≤ heldF a m ∧ heldF a m < m := fun a m hm => by unfold heldF; omega
  have e0 := b1' a0 hi h.h1
  have e1 := b1' a1 wd h.w1
  have e2 := b1' b0 hi h.h1
  have e3 := b1' b1 wd h.w1
  unfold textF
  rw [if_neg (by rw [hr]; decide)]
  simp only
  cases hl : laterB (heldF a0 hi) (heldF a1 wd) (heldF b0 hi) (heldF b1 wd) with
  | true =>
    have hl' := hl
    unfold laterB at hl'
    rw [decide_eq_true_eq] at hl'
    refine ⟨(heldF b0 hi).toNat, (heldF b1 wd).toNat, (heldF a0 hi).toNat, (heldF a1 wd).toNat, ⟨by omega, by omega, by omega, by omega, by omega, ?_⟩, by rw [if_pos rfl]⟩
    rw [if_pos hl, Int.toNat_of_nonneg e0.1, Int.toNat_of_nonneg e1.1, Int.toNat_of_nonneg e2.1, Int.toNat_of_nonneg e3.1]
  | false =>
    have hl' := hl
    unfold laterB at hl'
    rw [decide_eq_false_iff_not] at hl'
    refine ⟨(heldF a0 hi).toNat, (heldF a1 wd).toNat, (heldF b0 hi).toNat, (heldF b1 wd).toNat, ⟨by omega, by omega, by omega, by omega, by omega, ?_⟩, by rw [if_neg (by decide)]⟩
    rw [if_neg (by rw [hl]; decide), Int.toNat_of_nonneg e0.1, Int.toNat_of_nonneg e1.1, Int.toNat_of_nonneg e2.1, Int.toNat_of_nonneg e3.1]

set_option maxRecDepth 4096 in
set_option maxHeartbeats 4000000 in
theorem Text_ok (b : Nat → Addr) (So : Nat → Prop) (x : Value) (wd hi r c : Int) (p au : Bool) (ls : List LineV) (a0 a1 b0 b1 : Int) (w : World) (hV : VarsA b w) (hx : Slc RLine So (fun b => b < w.heap.size) w x ls) (hlen : ∀ l ∈ ls, l.1.length ≤ 1000000) (hll : ls.length ≤ 1000000) :
    Calls Tryd.prog 25 #[.agg #[.int .i64 wd, .int .i64 hi, x, .int .i64 r, .int .i64 c, .bool p, .bool au], .agg #[.int .i64 a0, .int .i64 a1], .agg #[.int .i64 b0, .int .i64 b1]] w fun e w' => ∃ s, e = .returned s ∧ Own (Rep.int .i32) 21 [] w.heap.size w' s (textF ⟨wd, hi, ls, r, c, p, au⟩ a0 a1 b0 b1) ∧ Below w.heap.size w w' := by
  obtain ⟨A, cp, rfl, _, _, _⟩ := hx.open_
  obtain ⟨W0, hW0⟩ : ∃ W0, W0 = ((w.alloc (.cells #[.int .i64 wd, .int .i64 hi, .slice A ls.length cp, .int .i64 r, .int .i64 c, .bool p, .bool au] 40)).alloc (.cells #[.int .i64 a0, .int .i64 a1] 57)).alloc (.cells #[.int .i64 b0, .int .i64 b1] 57) := ⟨_, rfl⟩
  have hb0 : Below w.heap.size w W0 := by rw [hW0]; exact (((Below.refl _ w).alloc (Nat.le_refl _) _).alloc (by simp) _).alloc (by simp; omega) _
  have hz0 := hb0.size
  have hSo := ASound_ok b So _ wd hi r c p au ls W0 (hV.below hb0) ((hx.mono (Keep.below (S := So) hb0) (Keep.below (S := fun b => b < w.heap.size) hb0)).mono (Keep.refl _ _) (Keep.weaken fun b hb => by omega)) hlen hll
  have bv : Blk W0 w.heap.size 40 #[.int .i64 wd, .int .i64 hi, .slice A ls.length cp, .int .i64 r, .int .i64 c, .bool p, .bool au] := by rw [hW0]; exact ((Blk.new w 40 #[.int .i64 wd, .int .i64 hi, .slice A ls.length cp, .int .i64 r, .int .i64 c, .bool p, .bool au]).alloc _).alloc _
  have bp : Blk W0 (w.heap.size + 1) 57 #[.int .i64 a0, .int .i64 a1] := by
    rw [hW0]
    have := (Blk.new (w.alloc (.cells #[.int .i64 wd, .int .i64 hi, .slice A ls.length cp, .int .i64 r, .int .i64 c, .bool p, .bool au] 40)) 57 #[.int .i64 a0, .int .i64 a1]).alloc (.cells #[.int .i64 b0, .int .i64 b1] 57)
    simpa using this
  have bs : Blk W0 (w.heap.size + 1 + 1) 57 #[.int .i64 b0, .int .i64 b1] := by
    rw [hW0]
    have := Blk.new ((w.alloc (.cells #[.int .i64 wd, .int .i64 hi, .slice A ls.length cp, .int .i64 r, .int .i64 c, .bool p, .bool au] 40)).alloc (.cells #[.int .i64 a0, .int .i64 a1] 57)) 57 #[.int .i64 b0, .int .i64 b1]
    simpa using this
  have HSO := hide hSo
  have HX := hide hx
  have HT := hide (fun W hW => by
    have := hx.mono (Keep.below (S := So) (w' := W) hW) (Keep.below (S := fun b => b < w.heap.size) hW)
    exact this)
  clear hSo
  cases hr : rightV ⟨wd, hi, ls, r, c, p, au⟩ with
  | false =>
    have htf : textF ⟨wd, hi, ls, r, c, p, au⟩ a0 a1 b0 b1 = [] := by unfold textF; rw [if_pos hr]
    rw [htf]
    rw [hr] at HSO
    subst hW0
    clear hr htf
    go_enter Tryd.func25, Tryd.ntmps25
    skip
    skip
    have y0 := bv.cell 0
    have y1 := bv.cell 1
    have y2 := bv.cell 2
    have y3 := bv.cell 3
    have y4 := bv.cell 4
    have y5 := bv.cell 5
    have y6 := bv.cell 6
    simp only [List.getElem?_toArray, List.getElem?_cons_succ, List.getElem?_cons_zero] at y0 y1 y2 y3 y4 y5 y6
    go_wp2_with fail
    refine HSO.out.mono ?_
    rintro e w1 ⟨rfl, hc1⟩
    have hb := hb0.trans (hc1.mono hz0)
    go_wp2
    go_ret
    exact ⟨_, rfl, Own.nil_ _ _ _ _ _ (by decide), hb⟩
  | true =>
    have hR := RgtV.of hr
    obtain ⟨x0, x1, y0', y1', hO, htf⟩ := ord4 hR a0 a1 b0 b1 r c p au hr
    rw [htf]
    rw [hr] at HSO
    have h1 := hR.w1
    have h2 := hR.w2
    have h3 := hR.h1
    have h4 := hR.h2
    have HH := hide (fun (a b : Int) (w : World) => held_ok (.slice A ls.length cp) wd hi r c p au a b w h1 h2 h3 h4)
    have hOO := fun (w : World) => ordered_ok (heldF a0 hi) (heldF a1 wd) (heldF b0 hi) (heldF b1 wd) w
    rw [hO.eq] at hOO
    have HO := hide hOO
    have HR := hide hR
    have HOR := hide hO
    subst hW0
    clear hr htf hOO hO hR
    go_enter Tryd.func25, Tryd.ntmps25
    skip
    skip
    have y0 := bv.cell 0
    have y1 := bv.cell 1
    have y2 := bv.cell 2
    have y3 := bv.cell 3
    have y4 := bv.cell 4
    have y5 := bv.cell 5
    have y6 := bv.cell 6
    simp only [List.getElem?_toArray, List.getElem?_cons_succ, List.getElem?_cons_zero] at y0 y1 y2 y3 y4 y5 y6
    go_wp2_with fail
    refine HSO.out.mono ?_
    rintro e w1 ⟨rfl, hc1⟩
    have hb := below_dr (hb0.trans (hc1.mono hz0))
    have cv : Blk w1.drew w.heap.size 40 #[.int .i64 wd, .int .i64 hi, .slice A ls.length cp, .int .i64 r, .int .i64 c, .bool p, .bool au] := by have := bv.same hc1; exact this
    have cq : Blk w1.drew (w.heap.size + 1) 57 #[.int .i64 a0, .int .i64 a1] := by have := bp.same hc1; exact this
    have cs : Blk w1.drew (w.heap.size + 1 + 1) 57 #[.int .i64 b0, .int .i64 b1] := by have := bs.same hc1; exact this
    have hl0 : w.heap.size < w1.drew.heap.size := cv.lt
    have hl1 : w.heap.size + 1 < w1.drew.heap.size := cq.lt
    have hl2 : w.heap.size + 1 + 1 < w1.drew.heap.size := cs.lt
    have y0 := cv.cell 0
    have y1 := cv.cell 1
    have y2 := cv.cell 2
    have y3 := cv.cell 3
    have y4 := cv.cell 4
    have y5 := cv.cell 5
    have y6 := cv.cell 6
    have p0 := cq.cell 0
    have p1 := cq.cell 1
    have s0 := cs.cell 0
    have s1 := cs.cell 1
    simp only [List.getElem?_toArray, List.getElem?_cons_succ, List.getElem?_cons_zero] at y0 y1 y2 y3 y4 y5 y6 p0 p1 s0 s1
    clear bv bp bs hc1
    go_upto_region 3 with fail
    refine wp_region_late (S := fun w' => w'.cell? ⟨w.heap.size, 0, none⟩ = some (.int .i64 wd) ∧ w'.cell? ⟨w.heap.size, 1, none⟩ = some (.int .i64 hi) ∧ w'.cell? ⟨w.heap.size, 2, none⟩ = some (.slice A ls.length cp) ∧ w'.cell? ⟨w.heap.size, 3, none⟩ = some (.int .i64 r) ∧ w'.cell? ⟨w.heap.size, 4, none⟩ = some (.int .i64 c) ∧ w'.cell? ⟨w.heap.size, 5, none⟩ = some (.bool p) ∧ w'.cell? ⟨w.heap.size, 6, none⟩ = some (.bool au) ∧ w'.cell? ⟨w.heap.size + 1, 0, none⟩ = some (.int .i64 a0) ∧ w'.cell? ⟨w.heap.size + 1, 1, none⟩ = some (.int .i64 a1) ∧ w'.cell? ⟨w.heap.size + 1 + 1, 0, none⟩ = some (.int .i64 b0) ∧ w'.cell? ⟨w.heap.size + 1 + 1, 1, none⟩ = some (.int .i64 b1)) [10, 11] (by kernel_rfl) (by refine ⟨y0, y1, y2, y3, y4, y5, y6, p0, p1, s0, s1⟩) (fun hHeld => ?_)
    refine wpAnyT_take (i := 0) (oi := ?_) (v := ?_) ?_ (by kernel_rfl) (by kernel_rfl) (by kernel_rfl) (by kernel_rfl) (by kernel_rfl) ?_ (Or.inl ⟨?_, ?_⟩) (by assumption) ?_
    rotate_left 2
    · (simp only [List.getElem?_toArray, List.getElem?_cons_succ, List.getElem?_cons_zero]; rfl)
    rotate_left 1
    · rfl
    · (intro w hSw; (try dsimp only at hSw); go_simp; try with_reducible rfl)
    rotate_left 1
    · exact fun _ _ _ h => h
    try simp only [Act.put, List.setIfInBounds_toArray, List.set_cons_zero, List.set_cons_succ]
    refine wpAnyT_take (i := 1) (oi := ?_) (v := ?_) ?_ (by kernel_rfl) (by kernel_rfl) (by kernel_rfl) (by kernel_rfl) (by kernel_rfl) ?_ (Or.inl ⟨?_, ?_⟩) (by assumption) ?_
    rotate_left 2
    · (simp only [List.getElem?_toArray, List.getElem?_cons_succ, List.getElem?_cons_zero]; rfl)
    rotate_left 1
    · rfl
    · (intro w hSw; (try dsimp only at hSw); go_simp; try with_reducible rfl)
    rotate_left 1
    · exact fun _ _ _ h => h
    try simp only [Act.put, List.setIfInBounds_toArray, List.set_cons_zero, List.set_cons_succ]
    refine wpAnyT_take (i := 3) (oi := ?_) (v := ?_) ?_ (by kernel_rfl) (by kernel_rfl) (by kernel_rfl) (by kernel_rfl) (by kernel_rfl) ?_ (Or.inl ⟨?_, ?_⟩) (by assumption) ?_
    rotate_left 2
    · (simp only [List.getElem?_toArray, List.getElem?_cons_succ, List.getElem?_cons_zero]; rfl)
    rotate_left 1
    · rfl
    · (intro w hSw; (try dsimp only at hSw); go_simp; try with_reducible rfl)
    rotate_left 1
    · exact fun _ _ _ h => h
    try simp only [Act.put, List.setIfInBounds_toArray, List.set_cons_zero, List.set_cons_succ]
    refine wpAnyT_take (i := 4) (oi := ?_) (v := ?_) ?_ (by kernel_rfl) (by kernel_rfl) (by kernel_rfl) (by kernel_rfl) (by kernel_rfl) ?_ (Or.inl ⟨?_, ?_⟩) (by assumption) ?_
    rotate_left 2
    · (simp only [List.getElem?_toArray, List.getElem?_cons_succ, List.getElem?_cons_zero]; rfl)
    rotate_left 1
    · rfl
    · (intro w hSw; (try dsimp only at hSw); go_simp; try with_reducible rfl)
    rotate_left 1
    · exact fun _ _ _ h => h
    try simp only [Act.put, List.setIfInBounds_toArray, List.set_cons_zero, List.set_cons_succ]
    refine wpAnyT_ready (rs := [2]) (by kernel_rfl) (by simp) ?_
    refine AllReadyT.cons (o := ?_) ?_ (fun K hK => ?_) AllReadyT.nil
    rotate_left 1
    · (simp only [List.getElem?_toArray, List.getElem?_cons_succ, List.getElem?_cons_zero]; rfl)
    go_simp
    go_at_call 54; refine (HH.out _ _ _).mono ?_; rintro e w2 ⟨rfl, hc2⟩; have y0 := (hc2.cell (p := ⟨w.heap.size, 0, none⟩) hl0).trans y0; have y1 := (hc2.cell (p := ⟨w.heap.size, 1, none⟩) hl0).trans y1; have y2 := (hc2.cell (p := ⟨w.heap.size, 2, none⟩) hl0).trans y2; have y3 := (hc2.cell (p := ⟨w.heap.size, 3, none⟩) hl0).trans y3; have y4 := (hc2.cell (p := ⟨w.heap.size, 4, none⟩) hl0).trans y4; have y5 := (hc2.cell (p := ⟨w.heap.size, 5, none⟩) hl0).trans y5; have y6 := (hc2.cell (p := ⟨w.heap.size, 6, none⟩) hl0).trans y6; have p0 := (hc2.cell (p := ⟨w.heap.size + 1, 0, none⟩) hl1).trans p0; have p1 := (hc2.cell (p := ⟨w.heap.size + 1, 1, none⟩) hl1).trans p1; have s0 := (hc2.cell (p := ⟨w.heap.size + 1 + 1, 0, none⟩) hl2).trans s0; have s1 := (hc2.cell (p := ⟨w.heap.size + 1 + 1, 1, none⟩) hl2).trans s1; have cv := cv.same hc2; have cq := cq.same hc2; have cs := cs.same hc2; have hl0 := Nat.lt_of_lt_of_le hl0 hc2.size; have hl1 := Nat.lt_of_lt_of_le hl1 hc2.size; have hl2 := Nat.lt_of_lt_of_le hl2 hc2.size; have hb := hb.trans (hc2.mono hb.size)
    refine hK.out _ _ ?_ (fun hHeld => ?_)
    · ((try dsimp only); go_keep)
    clear hK K
    try simp only [Act.put, List.setIfInBounds_toArray, List.set_cons_zero, List.set_cons_succ]
    refine wpAnyT_ready (rs := [5]) (by kernel_rfl) (by simp) ?_
    refine AllReadyT.cons (o := ?_) ?_ (fun K hK => ?_) AllReadyT.nil
    rotate_left 1
    · (simp only [List.getElem?_toArray, List.getElem?_cons_succ, List.getElem?_cons_zero]; rfl)
    go_simp
    go_at_call 54; refine (HH.out _ _ _).mono ?_; rintro e w3 ⟨rfl, hc3⟩; have y0 := (hc3.cell (p := ⟨w.heap.size, 0, none⟩) hl0).trans y0; have y1 := (hc3.cell (p := ⟨w.heap.size, 1, none⟩) hl0).trans y1; have y2 := (hc3.cell (p := ⟨w.heap.size, 2, none⟩) hl0).trans y2; have y3 := (hc3.cell (p := ⟨w.heap.size, 3, none⟩) hl0).trans y3; have y4 := (hc3.cell (p := ⟨w.heap.size, 4, none⟩) hl0).trans y4; have y5 := (hc3.cell (p := ⟨w.heap.size, 5, none⟩) hl0).trans y5; have y6 := (hc3.cell (p := ⟨w.heap.size, 6, none⟩) hl0).trans y6; have p0 := (hc3.cell (p := ⟨w.heap.size + 1, 0, none⟩) hl1).trans p0; have p1 := (hc3.cell (p := ⟨w.heap.size + 1, 1, none⟩) hl1).trans p1; have s0 := (hc3.cell (p := ⟨w.heap.size + 1 + 1, 0, none⟩) hl2).trans s0; have s1 := (hc3.cell (p := ⟨w.heap.size + 1 + 1, 1, none⟩) hl2).trans s1; have cv := cv.same hc3; have cq := cq.same hc3; have cs := cs.same hc3; have hl0 := Nat.lt_of_lt_of_le hl0 hc3.size; have hl1 := Nat.lt_of_lt_of_le hl1 hc3.size; have hl2 := Nat.lt_of_lt_of_le hl2 hc3.size; have hb := hb.trans (hc3.mono hb.size)
    refine hK.out _ _ ?_ (fun hHeld => ?_)
    · ((try dsimp only); go_keep)
    clear hK K
    try simp only [Act.put, List.setIfInBounds_toArray, List.set_cons_zero, List.set_cons_succ]
    refine wpAnyT_ready (rs := [6]) (by kernel_rfl) (by simp) ?_
    refine AllReadyT.cons (o := ?_) ?_ (fun K hK => ?_) AllReadyT.nil
    rotate_left 1
    · (simp only [List.getElem?_toArray, List.getElem?_cons_succ, List.getElem?_cons_zero]; rfl)
    go_simp
    go_at_call 53; refine (HO.out _).mono ?_; rintro e w4 ⟨rfl, hc4⟩; have y0 := (hc4.cell (p := ⟨w.heap.size, 0, none⟩) hl0).trans y0; have y1 := (hc4.cell (p := ⟨w.heap.size, 1, none⟩) hl0).trans y1; have y2 := (hc4.cell (p := ⟨w.heap.size, 2, none⟩) hl0).trans y2; have y3 := (hc4.cell (p := ⟨w.heap.size, 3, none⟩) hl0).trans y3; have y4 := (hc4.cell (p := ⟨w.heap.size, 4, none⟩) hl0).trans y4; have y5 := (hc4.cell (p := ⟨w.heap.size, 5, none⟩) hl0).trans y5; have y6 := (hc4.cell (p := ⟨w.heap.size, 6, none⟩) hl0).trans y6; have p0 := (hc4.cell (p := ⟨w.heap.size + 1, 0, none⟩) hl1).trans p0; have p1 := (hc4.cell (p := ⟨w.heap.size + 1, 1, none⟩) hl1).trans p1; have s0 := (hc4.cell (p := ⟨w.heap.size + 1 + 1, 0, none⟩) hl2).trans s0; have s1 := (hc4.cell (p := ⟨w.heap.size + 1 + 1, 1, none⟩) hl2).trans s1; have cv := cv.same hc4; have cq := cq.same hc4; have cs := cs.same hc4; have hl0 := Nat.lt_of_lt_of_le hl0 hc4.size; have hl1 := Nat.lt_of_lt_of_le hl1 hc4.size; have hl2 := Nat.lt_of_lt_of_le hl2 hc4.size; have hb := hb.trans (hc4.mono hb.size); have f0 := cq.frozen 0; have f1 := cq.frozen 1; have f2 := cs.frozen 0; have f3 := cs.frozen 1
    refine hK.out _ _ ?_ (fun hHeld => ?_)
    · ((try dsimp only); go_keep)
    clear hK K
    try simp only [Act.put, List.setIfInBounds_toArray, List.set_cons_zero, List.set_cons_succ]
    refine wpAnyT_takeY (i := 7) (oi := ?_) (v := ?_) ?_ (by kernel_rfl) (by kernel_rfl) (by kernel_rfl) (by kernel_rfl) ?_ (Or.inl ⟨?_, ?_⟩) (by assumption) ?_
    rotate_left 2
    · (simp only [List.getElem?_toArray, List.getElem?_cons_succ, List.getElem?_cons_zero]; rfl)
    rotate_left 1
    · rfl
    · (intro w hSw; (try dsimp only at hSw); go_simp; try with_reducible rfl)
    rotate_left 1
    · exact fun _ _ _ h => h
    try simp only [Act.put, List.setIfInBounds_toArray, List.set_cons_zero, List.set_cons_succ]
    refine wpAnyT_takeY (i := 8) (oi := ?_) (v := ?_) ?_ (by kernel_rfl) (by kernel_rfl) (by kernel_rfl) (by kernel_rfl) ?_ (Or.inl ⟨?_, ?_⟩) (by assumption) ?_
    rotate_left 2
    · (simp only [List.getElem?_toArray, List.getElem?_cons_succ, List.getElem?_cons_zero]; rfl)
    rotate_left 1
    · rfl
    · (intro w hSw; (try dsimp only at hSw); go_simp; try with_reducible rfl)
    rotate_left 1
    · exact fun _ _ _ h => h
    try simp only [Act.put, List.setIfInBounds_toArray, List.set_cons_zero, List.set_cons_succ]
    refine wpAnyT_takeY (i := 9) (oi := ?_) (v := ?_) ?_ (by kernel_rfl) (by kernel_rfl) (by kernel_rfl) (by kernel_rfl) ?_ (Or.inl ⟨?_, ?_⟩) (by assumption) ?_
    rotate_left 2
    · (simp only [List.getElem?_toArray, List.getElem?_cons_succ, List.getElem?_cons_zero]; rfl)
    rotate_left 1
    · rfl
    · (intro w hSw; (try dsimp only at hSw); go_simp; try with_reducible rfl)
    rotate_left 1
    · exact fun _ _ _ h => h
    try simp only [Act.put, List.setIfInBounds_toArray, List.set_cons_zero, List.set_cons_succ]
    refine wpAnyT_ready (rs := [10]) (by kernel_rfl) (by simp) ?_
    refine AllReadyT.consL (o := ?_) ?_ (by kernel_rfl) (fun K hK => ?_) AllReadyT.nil
    rotate_left 1
    · (simp only [List.getElem?_toArray, List.getElem?_cons_succ, List.getElem?_cons_zero]; rfl)
    go_simp
    refine hK.out _ _ ?_
    clear hK K
    try simp only [Act.put, List.setIfInBounds_toArray, List.set_cons_zero, List.set_cons_succ]
    refine wpAnyT_ready (rs := [11]) (by kernel_rfl) (by simp) ?_
    refine AllReadyT.consL (o := ?_) ?_ (by kernel_rfl) (fun K hK => ?_) AllReadyT.nil
    rotate_left 1
    · (simp only [List.getElem?_toArray, List.getElem?_cons_succ, List.getElem?_cons_zero]; rfl)
    go_simp
    refine hK.out _ _ ?_
    clear hK K
    try simp only [Act.put, List.setIfInBounds_toArray, List.set_cons_zero, List.set_cons_succ]
    refine wpAnyT_done (by kernel_rfl) ?_ _
    have dv : Blk ((((w4.setCell ⟨w.heap.size + 1, 0, none⟩ (.int .i64 x0)).setCell ⟨w.heap.size + 1, 1, none⟩ (.int .i64 x1)).setCell ⟨w.heap.size + 1 + 1, 0, none⟩ (.int .i64 y0')).setCell ⟨w.heap.size + 1 + 1, 1, none⟩ (.int .i64 y1')) w.heap.size 40 #[.int .i64 wd, .int .i64 hi, .slice A ls.length cp, .int .i64 r, .int .i64 c, .bool p, .bool au] := ((((cv.far (p := ⟨w.heap.size + 1, 0, none⟩) (by simp <;> omega) (.int .i64 x0)).far (p := ⟨w.heap.size + 1, 1, none⟩) (by simp <;> omega) (.int .i64 x1)).far (p := ⟨w.heap.size + 1 + 1, 0, none⟩) (by simp <;> omega) (.int .i64 y0')).far (p := ⟨w.heap.size + 1 + 1, 1, none⟩) (by simp <;> omega) (.int .i64 y1'))
    have dq : Blk ((((w4.setCell ⟨w.heap.size + 1, 0, none⟩ (.int .i64 x0)).setCell ⟨w.heap.size + 1, 1, none⟩ (.int .i64 x1)).setCell ⟨w.heap.size + 1 + 1, 0, none⟩ (.int .i64 y0')).setCell ⟨w.heap.size + 1 + 1, 1, none⟩ (.int .i64 y1')) (w.heap.size + 1) 57 #[.int .i64 x0, .int .i64 x1] := ((((cq.set_ 0 (.int .i64 x0)).set_ 1 (.int .i64 x1)).far (p := ⟨w.heap.size + 1 + 1, 0, none⟩) (by simp <;> omega) (.int .i64 y0')).far (p := ⟨w.heap.size + 1 + 1, 1, none⟩) (by simp <;> omega) (.int .i64 y1'))
    have ds : Blk ((((w4.setCell ⟨w.heap.size + 1, 0, none⟩ (.int .i64 x0)).setCell ⟨w.heap.size + 1, 1, none⟩ (.int .i64 x1)).setCell ⟨w.heap.size + 1 + 1, 0, none⟩ (.int .i64 y0')).setCell ⟨w.heap.size + 1 + 1, 1, none⟩ (.int .i64 y1')) (w.heap.size + 1 + 1) 57 #[.int .i64 y0', .int .i64 y1'] := ((((cs.far (p := ⟨w.heap.size + 1, 0, none⟩) (by simp <;> omega) (.int .i64 x0)).far (p := ⟨w.heap.size + 1, 1, none⟩) (by simp <;> omega) (.int .i64 x1)).set_ 0 (.int .i64 y0')).set_ 1 (.int .i64 y1'))
    have db : Below w.heap.size w ((((w4.setCell ⟨w.heap.size + 1, 0, none⟩ (.int .i64 x0)).setCell ⟨w.heap.size + 1, 1, none⟩ (.int .i64 x1)).setCell ⟨w.heap.size + 1 + 1, 0, none⟩ (.int .i64 y0')).setCell ⟨w.heap.size + 1 + 1, 1, none⟩ (.int .i64 y1')) := ((((hb.setCell (p := ⟨w.heap.size + 1, 0, none⟩) (by simp <;> omega) (.int .i64 x0)).setCell (p := ⟨w.heap.size + 1, 1, none⟩) (by simp <;> omega) (.int .i64 x1)).setCell (p := ⟨w.heap.size + 1 + 1, 0, none⟩) (by simp <;> omega) (.int .i64 y0')).setCell (p := ⟨w.heap.size + 1 + 1, 1, none⟩) (by simp <;> omega) (.int .i64 y1'))
    generalize (((w4.setCell ⟨w.heap.size + 1, 0, none⟩ (.int .i64 x0)).setCell ⟨w.heap.size + 1, 1, none⟩ (.int .i64 x1)).setCell ⟨w.heap.size + 1 + 1, 0, none⟩ (.int .i64 y0')).setCell ⟨w.heap.size + 1 + 1, 1, none⟩ (.int .i64 y1') = w5 at *
    clear hHeld y0 y1 y2 y3 y4 y5 y6 p0 p1 s0 s1 f0 f1 f2 f3 cv cq cs hb hl0 hl1 hl2 hc4
    have q0 := dq.cell 0
    simp only [List.getElem?_toArray, List.getElem?_cons_succ, List.getElem?_cons_zero] at q0
    have HST := hide (fun (k : Nat) (f t : Nat) (fi ti : Int) (W : World) (A2 : Option Addr) (c2 : Nat) (hf : fi = f) (ht : ti = t) (So Si : Nat → Prop) (hk : k < ls.length) (hv : Slc RCell So Si W (.slice A2 ls[k].1.length c2) ls[k].1) (h1 : f ≤ t) (h2 : t < ls[k].1.length) => by
      have hs := sound_kinds (HR.out.line ls[k] (List.getElem_mem _)).2
      have := stretch_ok So Si _ ls[k].1 f t W hv h1 h2 (fun h3 => (hs.2 f (by omega) h3).2) (fun h3 => (hs.1 t h2 h3).2)
      rw [← hf, ← ht] at this
      exact this)
    have hyl : y0' < ls.length := by have h1 := HOR.out.r1; have h2 := HR.out.hl; omega
    have hll2 : ls.length ≤ 1024 := by have h1 := HR.out.h2; have h2 := HR.out.hl; omega
    have hx0l : x0 ≤ y0' := by have h1 := HOR.out.le; omega
    have hTL := hide (fun n hn => textT_len HR.out wd.toNat x0 x1 y0' y1' n hn)
    go_wp2
    go_loopw [7, 8] (fun out i wr => ∃ n : Nat, x0 ≤ n ∧ n ≤ y0' + 1 ∧ i = .int .i64 n ∧ Own (Rep.int .i32) 21 [] w.heap.size wr out (textT ls wd.toNat x0 x1 y0' y1' n) ∧ Blk wr w.heap.size 40 #[.int .i64 wd, .int .i64 hi, .slice A ls.length cp, .int .i64 r, .int .i64 c, .bool p, .bool au] ∧ Blk wr (w.heap.size + 1) 57 #[.int .i64 x0, .int .i64 x1] ∧ Blk wr (w.heap.size + 1 + 1) 57 #[.int .i64 y0', .int .i64 y1'] ∧ Below w.heap.size w wr) (fun _ i _ => y0' + 1 - (intOf i).toNat)
    case atStart => exact ⟨x0, Nat.le_refl _, by omega, rfl, by rw [textT_zero]; exact Own.nil_ _ _ _ _ _ (by decide), dv, dq, ds, db⟩
    case round =>
      obtain ⟨n, hn1, hn2, rfl, hout, cv, cq, cs, hb⟩ := hrel
      clear q0
      have hz := hb.size
      have v0 := cv.cell 0
      have v1 := cv.cell 1
      have v2 := cv.cell 2
      have v3 := cv.cell 3
      have v4 := cv.cell 4
      have v5 := cv.cell 5
      have v6 := cv.cell 6
      have p0 := cq.cell 0
      have p1 := cq.cell 1
      have s0 := cs.cell 0
      have s1 := cs.cell 1
      simp only [List.getElem?_toArray, List.getElem?_cons_succ, List.getElem?_cons_zero] at v0 v1 v2 v3 v4 v5 v6 p0 p1 s0 s1
      have htl := hTL.out n (by omega)
      by_cases hle : n ≤ y0'
      · have hnl : n < ls.length := by omega
        have hni : (n : Int) ≤ y0' := by omega
        have hnj : (n : Int) < ls.length := by omega
        have hxr := HX.out.mono (Keep.below (S := So) hb) (Keep.below (S := fun b => b < w.heap.size) hb)
        obtain ⟨ab, off, v9, rfl, _, q0, q1, hv⟩ := line_at hxr.slb hnl
        obtain ⟨A2, c2, rfl, _, _, _⟩ := hv.open_
        have hsn := textT_snoc ls wd.toNat x0 x1 y0' y1' n hn1
        have hrw : rowT ls wd.toNat x0 x1 y0' y1' n = rowF ls[n].1 (if n = x0 then x1 else 0) (if n = y0' then y1' else wd.toNat - 1) (decide (n < y0')) ls[n].2 := by unfold rowT; rw [lnR_at ls hnl]
        rw [hrw] at hsn
        have hrl := HR.out.line ls[n] (List.getElem_mem _)
        have hwl : (ls[n].1.length : Int) = wd := hrl.1
        have hw24 : ls[n].1.length ≤ 1024 := by have := HR.out.w2; omega
        have hwp : 0 < ls[n].1.length := by have := HR.out.w1; omega
        have hsh := sound_short hrl.2
        have hc0 := HOR.out.c0
        have hc1 := HOR.out.c1
        have hle4 := HOR.out.le
        clear hrw hrl
        by_cases e1 : n = x0
        · have f1 : ((n : Int) == (x0 : Int)) = true := by simp [e1]
          by_cases e2 : n = y0'
          · have f2 : ((n : Int) == (y0' : Int)) = true := by simp [e2]
            have f3 : ¬ (n : Int) < y0' := by omega
            rw [if_pos e1, if_pos e2, decide_eq_false (by omega)] at hsn
            have HF : Hid (x1 ≤ y1') := hide (by omega)
            have HT2 : Hid (y1' < ls[n].1.length) := hide (by omega)
            clear e1 e2 hwl hc0 hc1 hle4
            have hwi : (1 : Int) ≤ wd := HR.out.w1
            have HSN := hide hsn
            have HSH := hide hsh
            have hst := fun q => HST.out n x1 y1' ((x1 : Nat) : Int) ((y1' : Nat) : Int) (wr.drewN q) A2 c2 rfl rfl (fun b => b < w.heap.size) (fun b => b < w.heap.size) hnl (hv.mono (Keep.drewN _ wr q) (Keep.drewN _ wr q)) HF.out HT2.out
            have HS1 := hide hst
            have HLE := hide (stretch_le ls[n].1 x1 y1')
            have HWI := hide hwi
            clear hsn hsh hst hv hxr hwi
            go_upto_region 8 with fail
            go_quiet (fail)
            go_wp2_with fail
            refine (HS1.out _).mono ?_
            rintro e w6 ⟨v6, rfl, hv6, rfl⟩
            have hb6 := below_drewN hb nq
            have ho6 := hout.drewN nq
            have hzq : w.heap.size ≤ (wr.drewN nq).heap.size := hz
            have hrd := read_ok _ v6 _ _ (hv6.mono (Keep.refl _ _) (Keep.weaken fun b hb => Nat.lt_of_lt_of_le hb hzq)) (by have := HLE.out; omega) (stretch_short HSH.out x1 y1')
            have hrn := read_len _ (stretch_short HSH.out x1 y1')
            have hrs : (stretchF ls[n].1 x1 y1').length ≤ 1024 := Nat.le_trans HLE.out hw24
            have HRD := hide hrd
            clear hrd
            go_wp2_with (first
              | (go_at_call 57; refine HRD.out.mono ?_; rintro e w7 ⟨s7, rfl, hv7, hb7⟩; have ho7 := ho6.below hb7; have hz7 := Nat.le_trans hzq hb7.size)
              | (at_builtin; refine wpList_appg rfl (.tmp 71) (.tmp 73) 22 rfl (Rep.int .i32) 21 [] w.heap.size 4 _ Tryd.underlying22 i32_info rfl (by decide) (by decide) _ _ rfl ho7 _ _ _ _ rfl hv7.islc (fun _ h => h.elim) (by omega) hz7 ?_; intro v8 w8 hv8 hst8 hg8 hob8))
            have e0 : rowF ls[n].1 x1 y1' false ls[n].2 = readF (stretchF ls[n].1 x1 y1') := if_neg (by decide)
            go_roundw
            case rel => exact ⟨n + 1, by omega, by omega, by go_num, by rw [HSN.out, e0]; exact hv8, ((cv.drewN nq).same hb7).step hst8 (by decide), ((cq.drewN nq).same hb7).step hst8 (by decide), ((cs.drewN nq).same hb7).step hst8 (by decide), (hb6.trans (hb7.mono hzq)).trans (hst8.below hz7)⟩
            case measure => simp [intOf]; omega
          · have f2 : ((n : Int) == (y0' : Int)) = false := by rw [beq_eq_false_iff_ne]; omega
            have f3 : (n : Int) < y0' := by omega
            rw [if_pos e1, if_neg e2, decide_eq_true (by omega)] at hsn
            have HF : Hid (x1 ≤ (wd.toNat - 1)) := hide (by omega)
            have HT2 : Hid ((wd.toNat - 1) < ls[n].1.length) := hide (by omega)
            clear e1 e2 hwl hc0 hc1 hle4
            have hwi : (1 : Int) ≤ wd := HR.out.w1
            have HSN := hide hsn
            have HSH := hide hsh
            have hst := fun q => HST.out n x1 (wd.toNat - 1) ((x1 : Nat) : Int) (wd - 1) (wr.drewN q) A2 c2 rfl (by omega) (fun b => b < w.heap.size) (fun b => b < w.heap.size) hnl (hv.mono (Keep.drewN _ wr q) (Keep.drewN _ wr q)) HF.out HT2.out
            have HS1 := hide hst
            have HLE := hide (stretch_le ls[n].1 x1 (wd.toNat - 1))
            have HWI := hide hwi
            clear hsn hsh hst hv hxr hwi
            go_upto_region 8 with fail
            go_quiet (fail)
            go_wp2_with fail
            refine (HS1.out _).mono ?_
            rintro e w6 ⟨v6, rfl, hv6, rfl⟩
            have hb6 := below_drewN hb nq
            have ho6 := hout.drewN nq
            have hzq : w.heap.size ≤ (wr.drewN nq).heap.size := hz
            have hrd := inner_ok _ v6 _ ls[n].2 _ (hv6.mono (Keep.refl _ _) (Keep.weaken fun b hb => Nat.lt_of_lt_of_le hb hzq)) (by have := HLE.out; omega) (stretch_short HSH.out x1 (wd.toNat - 1)) (stretch_pos HF.out HT2.out)
            have e0 : rowF ls[n].1 x1 (wd.toNat - 1) true ls[n].2 = innerF (stretchF ls[n].1 x1 (wd.toNat - 1)) ls[n].2 := if_pos rfl
            have hrn := rowF_len HSH.out x1 (wd.toNat - 1) true ls[n].2
            rw [e0] at hrn
            have HRD := hide hrd
            have HE0 := hide e0
            clear hrd e0
            go_wp2_with (first
              | (go_at_call 56; refine HRD.out.mono ?_; rintro e w7 ⟨s7, rfl, hv7, hb7⟩; have ho7 := ho6.below hb7; have hz7 := Nat.le_trans hzq hb7.size)
              | (at_builtin; refine wpList_appg rfl (.tmp 61) (.tmp 69) 22 rfl (Rep.int .i32) 21 [] w.heap.size 4 _ Tryd.underlying22 i32_info rfl (by decide) (by decide) _ _ rfl ho7 _ _ _ _ rfl hv7.islc (fun _ h => h.elim) (by omega) hz7 ?_; intro v8 w8 hv8 hst8 hg8 hob8))
            go_roundw
            case rel => exact ⟨n + 1, by omega, by omega, by go_num, by rw [HSN.out, HE0.out]; exact hv8, ((cv.drewN nq).same hb7).step hst8 (by decide), ((cq.drewN nq).same hb7).step hst8 (by decide), ((cs.drewN nq).same hb7).step hst8 (by decide), (hb6.trans (hb7.mono hzq)).trans (hst8.below hz7)⟩
            case measure => simp [intOf]; omega
        · have f1 : ((n : Int) == (x0 : Int)) = false := by rw [beq_eq_false_iff_ne]; omega
          by_cases e2 : n = y0'
          · have f2 : ((n : Int) == (y0' : Int)) = true := by simp [e2]
            have f3 : ¬ (n : Int) < y0' := by omega
            rw [if_neg e1, if_pos e2, decide_eq_false (by omega)] at hsn
            have HF : Hid (0 ≤ y1') := hide (by omega)
            have HT2 : Hid (y1' < ls[n].1.length) := hide (by omega)
            clear e1 e2 hwl hc0 hc1 hle4
            have hwi : (1 : Int) ≤ wd := HR.out.w1
            have HSN := hide hsn
            have HSH := hide hsh
            have hst := fun q => HST.out n 0 y1' 0 ((y1' : Nat) : Int) (wr.drewN q) A2 c2 rfl rfl (fun b => b < w.heap.size) (fun b => b < w.heap.size) hnl (hv.mono (Keep.drewN _ wr q) (Keep.drewN _ wr q)) HF.out HT2.out
            have HS1 := hide hst
            have HLE := hide (stretch_le ls[n].1 0 y1')
            have HWI := hide hwi
            clear hsn hsh hst hv hxr hwi
            go_upto_region 8 with fail
            go_quiet (fail)
            go_wp2_with fail
            refine (HS1.out _).mono ?_
            rintro e w6 ⟨v6, rfl, hv6, rfl⟩
            have hb6 := below_drewN hb nq
            have ho6 := hout.drewN nq
            have hzq : w.heap.size ≤ (wr.drewN nq).heap.size := hz
            have hrd := read_ok _ v6 _ _ (hv6.mono (Keep.refl _ _) (Keep.weaken fun b hb => Nat.lt_of_lt_of_le hb hzq)) (by have := HLE.out; omega) (stretch_short HSH.out 0 y1')
            have hrn := read_len _ (stretch_short HSH.out 0 y1')
            have hrs : (stretchF ls[n].1 0 y1').length ≤ 1024 := Nat.le_trans HLE.out hw24
            have HRD := hide hrd
            clear hrd
            go_wp2_with (first
              | (go_at_call 57; refine HRD.out.mono ?_; rintro e w7 ⟨s7, rfl, hv7, hb7⟩; have ho7 := ho6.below hb7; have hz7 := Nat.le_trans hzq hb7.size)
              | (at_builtin; refine wpList_appg rfl (.tmp 71) (.tmp 73) 22 rfl (Rep.int .i32) 21 [] w.heap.size 4 _ Tryd.underlying22 i32_info rfl (by decide) (by decide) _ _ rfl ho7 _ _ _ _ rfl hv7.islc (fun _ h => h.elim) (by omega) hz7 ?_; intro v8 w8 hv8 hst8 hg8 hob8))
            have e0 : rowF ls[n].1 0 y1' false ls[n].2 = readF (stretchF ls[n].1 0 y1') := if_neg (by decide)
            go_roundw
            case rel => exact ⟨n + 1, by omega, by omega, by go_num, by rw [HSN.out, e0]; exact hv8, ((cv.drewN nq).same hb7).step hst8 (by decide), ((cq.drewN nq).same hb7).step hst8 (by decide), ((cs.drewN nq).same hb7).step hst8 (by decide), (hb6.trans (hb7.mono hzq)).trans (hst8.below hz7)⟩
            case measure => simp [intOf]; omega
          · have f2 : ((n : Int) == (y0' : Int)) = false := by rw [beq_eq_false_iff_ne]; omega
            have f3 : (n : Int) < y0' := by omega
            rw [if_neg e1, if_neg e2, decide_eq_true (by omega)] at hsn
            have HF : Hid (0 ≤ (wd.toNat - 1)) := hide (by omega)
            have HT2 : Hid ((wd.toNat - 1) < ls[n].1.length) := hide (by omega)
            clear e1 e2 hwl hc0 hc1 hle4
            have hwi : (1 : Int) ≤ wd := HR.out.w1
            have HSN := hide hsn
            have HSH := hide hsh
            have hst := fun q => HST.out n 0 (wd.toNat - 1) 0 (wd - 1) (wr.drewN q) A2 c2 rfl (by omega) (fun b => b < w.heap.size) (fun b => b < w.heap.size) hnl (hv.mono (Keep.drewN _ wr q) (Keep.drewN _ wr q)) HF.out HT2.out
            have HS1 := hide hst
            have HLE := hide (stretch_le ls[n].1 0 (wd.toNat - 1))
            have HWI := hide hwi
            clear hsn hsh hst hv hxr hwi
            go_upto_region 8 with fail
            go_quiet (fail)
            go_wp2_with fail
            refine (HS1.out _).mono ?_
            rintro e w6 ⟨v6, rfl, hv6, rfl⟩
            have hb6 := below_drewN hb nq
            have ho6 := hout.drewN nq
            have hzq : w.heap.size ≤ (wr.drewN nq).heap.size := hz
            have hrd := inner_ok _ v6 _ ls[n].2 _ (hv6.mono (Keep.refl _ _) (Keep.weaken fun b hb => Nat.lt_of_lt_of_le hb hzq)) (by have := HLE.out; omega) (stretch_short HSH.out 0 (wd.toNat - 1)) (stretch_pos HF.out HT2.out)
            have e0 : rowF ls[n].1 0 (wd.toNat - 1) true ls[n].2 = innerF (stretchF ls[n].1 0 (wd.toNat - 1)) ls[n].2 := if_pos rfl
            have hrn := rowF_len HSH.out 0 (wd.toNat - 1) true ls[n].2
            rw [e0] at hrn
            have HRD := hide hrd
            have HE0 := hide e0
            clear hrd e0
            go_wp2_with (first
              | (go_at_call 56; refine HRD.out.mono ?_; rintro e w7 ⟨s7, rfl, hv7, hb7⟩; have ho7 := ho6.below hb7; have hz7 := Nat.le_trans hzq hb7.size)
              | (at_builtin; refine wpList_appg rfl (.tmp 61) (.tmp 69) 22 rfl (Rep.int .i32) 21 [] w.heap.size 4 _ Tryd.underlying22 i32_info rfl (by decide) (by decide) _ _ rfl ho7 _ _ _ _ rfl hv7.islc (fun _ h => h.elim) (by omega) hz7 ?_; intro v8 w8 hv8 hst8 hg8 hob8))
            go_roundw
            case rel => exact ⟨n + 1, by omega, by omega, by go_num, by rw [HSN.out, HE0.out]; exact hv8, ((cv.drewN nq).same hb7).step hst8 (by decide), ((cq.drewN nq).same hb7).step hst8 (by decide), ((cs.drewN nq).same hb7).step hst8 (by decide), (hb6.trans (hb7.mono hzq)).trans (hst8.below hz7)⟩
            case measure => simp [intOf]; omega
      · have hni : ¬ (n : Int) ≤ y0' := by omega
        obtain rfl : n = y0' + 1 := by omega
        go_wp2
        go_ret
        exact ⟨_, rfl, hout, hb⟩
end Go.Proofs.YtejhaepgbfngcaaDoor
