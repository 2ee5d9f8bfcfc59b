import Derived.Test.YtdjpdllehhecpaaGreatDoorQ32
import Derived.Test.YtdjpdllehhecpaaGreatDoorQ34
import Derived.Test.YtdjpdllehhecpaaGreatDoorQ29
open List renaming getElem?_toArray → zA, getElem?_cons_succ → zB, getElem?_cons_zero → zC, setIfInBounds_toArray → zD, set_cons_zero → zE, set_cons_succ → zF
namespace Go.Proofs.YtdjpdllehhecpaaGreatDoor
open Go.RowKit
set_option linter.unusedVariables false
set_option linter.unusedSimpArgs false
def feedC (p : Nat) (d : Dec) (s : SegV) (ov : Value) : Array Value :=
  #[ptrB p, .int .i64 d.held, .int .i64 d.needs, .int .u8 d.lo, .int .u8 d.hi, .int .i64 d.bits, .bool s.any, .int .i64 s.last, .int .i64 s.pict, .int .i64 s.conj, .bool s.odd, ov]
theorem feedC_seg (p : Nat) (d : Dec) (s : SegV) (ov : Value) : SegAt (feedC p d s ov) 6 s := ⟨by simp [feedC], rfl, rfl, rfl, rfl, rfl⟩
theorem feedC_dec (p : Nat) (d : Dec) (s : SegV) (ov : Value) : DecC (feedC p d s ov) 1 d := ⟨by simp [feedC], rfl, rfl, rfl, rfl, rfl⟩
theorem ext12 {cs cs' : Array Value} (h : cs.size = 12) (h' : cs'.size = 12) (e : ∀ i, i < 12 → cs[i]? = cs'[i]?) : cs = cs' := by
  apply Array.ext_getElem?
  intro i
  by_cases hi : i < 12
  · exact e i hi
  · rw [Array.getElem?_eq_none (by omega), Array.getElem?_eq_none (by omega)]
theorem feedC_setSeg {p : Nat} {d : Dec} {s s' : SegV} {ov : Value} {cs : Array Value} (h : SetTo (feedC p d s ov) 6 (segC s') cs) : cs = feedC p d s' ov := by
  have hs : cs.size = 12 := h.size
  refine ext12 hs rfl (fun i hi => ?_)
  rcases (by omega : i < 6 ∨ (6 ≤ i ∧ i < 11) ∨ i = 11) with hi | ⟨hi, hi2⟩ | rfl
  · rw [h.old i (.inl hi)]
    rcases (by omega : i = 0 ∨ i = 1 ∨ i = 2 ∨ i = 3 ∨ i = 4 ∨ i = 5) with rfl | rfl | rfl | rfl | rfl | rfl <;> rfl
  · obtain ⟨j, rfl⟩ : ∃ j, i = 6 + j := ⟨i - 6, by omega⟩
    rw [h.new j (by simp [segC]; omega)]
    rcases (by omega : j = 0 ∨ j = 1 ∨ j = 2 ∨ j = 3 ∨ j = 4) with rfl | rfl | rfl | rfl | rfl <;> rfl
  · rw [h.old 11 (.inr (by simp [segC]))]; rfl
theorem feedC_setDec {p : Nat} {d d' : Dec} {s : SegV} {ov : Value} {cs : Array Value} (h : DecTo (feedC p d s ov) 1 d' cs) : cs = feedC p d' s ov := by
  have hs : cs.size = 12 := h.2.1
  refine ext12 hs rfl (fun i hi => ?_)
  rcases (by omega : i = 0 ∨ (1 ≤ i ∧ i < 6) ∨ 6 ≤ i) with rfl | ⟨hi, hi2⟩ | hi
  · rw [h.2.2 0 (.inl (by omega))]; rfl
  · rcases (by omega : i = 1 ∨ i = 2 ∨ i = 3 ∨ i = 4 ∨ i = 5) with rfl | rfl | rfl | rfl | rfl
    · exact h.1.c0
    · exact h.1.c1
    · exact h.1.c2
    · exact h.1.c3
    · exact h.1.c4
  · rw [h.2.2 i (.inr (by omega))]
    rcases (by omega : i = 6 ∨ i = 7 ∨ i = 8 ∨ i = 9 ∨ i = 10 ∨ i = 11) with rfl | rfl | rfl | rfl | rfl | rfl <;> rfl
theorem set5_T {cs : Array Value} {o : Nat} (h : o + 5 ≤ cs.size) (a b c d e : Value) : SetTo cs o [a, b, c, d, e] (((((cs.setIfInBounds o a).setIfInBounds (o + 1) b).setIfInBounds (o + 2) c).setIfInBounds (o + 3) d).setIfInBounds (o + 4) e) := by
  refine ⟨by simp, fun i hi => ?_, fun i hi => ?_⟩
  · rcases (by simp at hi; omega : i = 0 ∨ i = 1 ∨ i = 2 ∨ i = 3 ∨ i = 4) with rfl | rfl | rfl | rfl | rfl
    · simp [Array.getElem?_setIfInBounds, show o < cs.size by omega]
    · simp [Array.getElem?_setIfInBounds, show o + 1 < cs.size by omega]
    · simp [Array.getElem?_setIfInBounds, show o + 2 < cs.size by omega]
    · simp [Array.getElem?_setIfInBounds, show o + 3 < cs.size by omega]
    · simp [Array.getElem?_setIfInBounds, show o + 4 < cs.size by omega]
  · simp at hi
    simp only [Array.getElem?_setIfInBounds]
    rw [if_neg (by omega), if_neg (by omega), if_neg (by omega), if_neg (by omega), if_neg (by omega)]
theorem segReset_ok (g o : Nat) (t : TypeId) (cs : Array Value) (s : SegV) (w : World) (hB : Blk w g t cs) (h : SegAt cs o s) :
    Calls Tryz.prog 62 #[.pointer (some ⟨g, o, none⟩)] w fun e w' => (∃ r, e = .returned r) ∧ (∃ cs', Blk w' g t cs' ∧ SetTo cs o (segC seg0) cs') ∧ w.grownBy w' (some g) := by
  have x0 := (hB.cell o).trans h.any
  have x1 := (hB.cell (o + 1)).trans h.last
  have x2 := (hB.cell (o + 2)).trans h.pict
  have x3 := (hB.cell (o + 3)).trans h.conj
  have x4 := (hB.cell (o + 4)).trans h.odd
  have f0 := hB.frozen o
  have f1 := hB.frozen (o + 1)
  have f2 := hB.frozen (o + 2)
  have f3 := hB.frozen (o + 3)
  have f4 := hB.frozen (o + 4)
  have hl := hB.lt
  have HB := hide hB
  have HR := hide h.room
  clear hB h
  go_enter Tryz.func62, Tryz.ntmps62
  go_wp2
  go_end0
  exact ⟨⟨_, rfl⟩, ⟨_, ((((HB.out.set_ o _).set_ (o + 1) _).set_ (o + 2) _).set_ (o + 3) _).set_ (o + 4) _, set5_T HR.out _ _ _ _ _⟩, gb_set (gb_set (gb_set (gb_set (gb_set (gb_refl w g) o _) (o + 1) _) (o + 2) _) (o + 3) _) (o + 4) _⟩
def FedS (N : Nat) (I : Ids) (f : Nat) (w : World) (k : Nat) : Prop := k = f ∨ PenS I k ∨ (N ≤ k ∧ Bears [213] w k)
theorem FedS.trans {N : Nat} {I : Ids} {f : Nat} {a b c : World} (h : Chg (FedS N I f a) a b) (k : Chg (FedS N I f b) b c) : Chg (FedS N I f a) a c :=
  ⟨k.os.trans h.os, k.tape.trans h.tape, k.output.trans h.output, Nat.le_trans h.size k.size, fun i hi hn => by
    have h1 := h.block i hi hn
    refine (k.block i (Nat.lt_of_lt_of_le hi h.size) (fun e => hn ?_)).trans h1
    rcases e with e | e | ⟨e1, cs, t, fz, hh, ht⟩
    · exact .inl e
    · exact .inr (.inl e)
    · exact .inr (.inr ⟨e1, cs, t, fz, h1.symm.trans hh, ht⟩)⟩
structure FedQ (N : Nat) (I : Ids) (f : Nat) (w : World) (hd : List Int) (l : List Int) : Prop where
  pen : PenQ w I (penS I.W I.h l)
  blk : ∃ ov, Blk w f 116 (feedC I.p (decOf hd) (clS l).seg ov) ∧ (((clS l).cur = [] ∧ ov = .pointer none) ∨ ((clS l).cur ≠ [] ∧ ∃ o cs, ov = ptrB o ∧ N ≤ o ∧ Blk w o 213 cs ∧ OpnC cs (layS I.W l).out.length ((layS I.W l).cur.length - widthF propF (clS l).cur) (widthF propF (clS l).cur) (clS l).cur))
  pre : Pre hd
  byt : Bytes hd
  txt : TextOk l
theorem FedQ.below {N : Nat} {I : Ids} {f : Nat} {w w' : World} {hd l : List Int} (h : FedQ N I f w hd l) (hb : Below w.heap.size w w') : FedQ N I f w' hd l := by
  obtain ⟨ov, h1, h2⟩ := h.blk
  refine ⟨h.pen.below hb, ⟨ov, h1.same hb, ?_⟩, h.pre, h.byt, h.txt⟩
  rcases h2 with h2 | ⟨h2, o, cs, h3, h4, h5, h6⟩
  · exact .inl h2
  · exact .inr ⟨h2, o, cs, h3, h4, h5.same hb, h6⟩
set_option maxHeartbeats 8000000 in
theorem comes_ok (N : Nat) (I : Ids) (f : Nat) (hd l : List Int) (r : Int) (w : World) (h : FedQ N I f w hd l) (hN : N ≤ w.heap.size) (hs : silF r = false) (ht : TextOk (l ++ [r])) (hh : (layS I.W (l ++ [r])).out.length < I.h) :
    Calls Tryz.prog 90 #[ptrB f, .int .i32 r] w fun e w' => (∃ x, e = .returned x) ∧ FedQ N I f w' hd (l ++ [r]) ∧ Chg (FedS N I f w) w w' := by
  have hv : validB r = true := ht.val r (by simp)
  have hvr := (validB_iff r).1 hv
  have hpk := propF_ok r
  have hsil := bsil_ok r
  rw [hs] at hsil
  have HSIL := hide hsil
  have HUCD := hide (ucdOf_ok r (by omega) (by omega))
  obtain ⟨ov, hB, hop⟩ := h.blk
  have hsg := fun W (hW : Blk W f 116 (feedC I.p (decOf hd) (clS l).seg ov)) => segStep_ok f 6 _ _ (clS l).seg (propF r) (clS_last l).1 (clS_last l).2 hpk.1.1 hpk.1.2 W hW (feedC_seg _ _ _ _)
  have HSEG := hide hsg
  have HH := hide h
  have HHH := hide hh
  have HT := hide ht
  have HV := hide hv
  have HB := hide hB
  have hfl := hB.lt
  have hSEG2 := clS_seg l r
  obtain ⟨pp, hpp⟩ : ∃ pp, propF r = pp := ⟨_, rfl⟩
  obtain ⟨p, hp⟩ : ∃ p, I.p = p := ⟨_, rfl⟩
  have HP := hide hp
  have HPP := hide hpp
  have HFS : Hid (¬ PenS I f) := hide (fun e => by
    obtain ⟨t', cs', hb', hn⟩ := h.pen.alien (T := [116]) (by decide) f e
    have := hb'.typ hB
    subst this
    exact hn (by simp))
  cases hj : joinsF (clS l).seg (propF r) with
  | false =>
    obtain ⟨k1, k2, k3, k4, k5⟩ := step_begin (h := I.h) h.pen.w2 ht hj hh
    have HBEG := hide (fun W (hW : PenQ W I (penS I.W I.h l)) => Begin_ok I (penS I.W I.h l) r W hW hv k1)
    rw [k2, k3, k4] at HBEG
    rw [hj] at HSEG
    rw [hpp] at HSEG HUCD HBEG hSEG2
    obtain ⟨brk, pict, conj, east⟩ := pp
    unfold propA at HSEG HUCD HBEG
    simp only [propL] at HSEG HUCD HBEG
    unfold ptrB at HBEG ⊢
    rw [hp] at HBEG
    have HC5 := hide k5
    have HS2 := hide hSEG2
    clear hv hvr hpk hsil hs hsg h hh ht hB hpp hp hj k1 k2 k3 k4 k5 hSEG2
    go_enter Tryz.func90, Tryz.ntmps90
    go_wp2_with fail
    refine (HSIL.out _).mono ?_
    rintro e w1 ⟨rfl, rfl⟩
    go_wp2_with fail
    refine (HUCD.out _).mono ?_
    rintro e w2 ⟨rfl, hb2⟩
    obtain ⟨w3, hw3⟩ : ∃ w3, w2.alloc (.cells #[.int .i64 brk, .bool pict, .int .i64 conj, .int .i64 east] 108) = w3 := ⟨_, rfl⟩
    obtain ⟨X, hX⟩ : ∃ X, w2.heap.size = X := ⟨_, rfl⟩
    have hxb : Blk w3 X 108 #[.int .i64 brk, .bool pict, .int .i64 conj, .int .i64 east] := by rw [← hw3, ← hX]; exact Blk.new w2 _ _
    have hb3 : Below w.heap.size w w3 := by rw [← hw3]; exact hb2.alloc hb2.size _
    have hwX : w.heap.size ≤ X := by rw [← hX]; exact hb2.size
    have x0 := hxb.cell 0
    have x1 := hxb.cell 1
    have x2 := hxb.cell 2
    have x3 := hxb.cell 3
    simp only [zA, zB, zC] at x0 x1 x2 x3
    have yo := (HB.out.same hb3).cell 11
    have hyo : (feedC I.p (decOf hd) (clS l).seg ov)[11]? = some ov := rfl
    rw [hyo] at yo
    have HX := hide hxb
    have HB3 := hide (HB.out.same hb3)
    have HBL3 := hide hb3
    have HW3 := hide hw3
    have HXE := hide hX
    have hXl := hxb.lt
    clear hxb hb3 hb2 hw3 hX hyo
    go_upto_region 4 with fail
    rw [HW3.out, HXE.out]
    refine wp_region_held_drew (S := fun w' => w'.cell? ⟨f, 11, none⟩ = some ov ∧ w'.cell? ⟨X, 0, none⟩ = some (.int .i64 brk) ∧ w'.cell? ⟨X, 1, none⟩ = some (.bool pict) ∧ w'.cell? ⟨X, 2, none⟩ = some (.int .i64 conj) ∧ w'.cell? ⟨X, 3, none⟩ = some (.int .i64 east)) (by kernel_rfl) (by exact ⟨yo, x0, x1, x2, x3⟩) (fun hHeld => ?_)
    refine wpAnyH_take (i := 0) (oi := ?_) (v := ?_) ?_ (by kernel_rfl) (by kernel_rfl) (by kernel_rfl) ?_ (Or.inl ⟨?_, ?_⟩) (by assumption) ?_
    rotate_left 2
    · (simp only [zA, zB, zC]; rfl)
    rotate_left 1
    · rfl
    · (intro w hSw; (try dsimp only at hSw); go_simp; try with_reducible rfl)
    rotate_left 1
    · exact fun _ _ _ h => h
    try simp only [Act.put, zD, zE, zF]
    refine wpAnyH_take (i := 1) (oi := ?_) (v := ?_) ?_ (by kernel_rfl) (by kernel_rfl) (by kernel_rfl) ?_ (Or.inl ⟨?_, ?_⟩) (by assumption) ?_
    rotate_left 2
    · (simp only [zA, zB, zC]; rfl)
    rotate_left 1
    · rfl
    · (intro w hSw; (try dsimp only at hSw); go_simp; try with_reducible rfl)
    rotate_left 1
    · exact fun _ _ _ h => h
    try simp only [Act.put, zD, zE, zF]
    refine wpAnyH_take (i := 2) (oi := ?_) (v := ?_) ?_ (by kernel_rfl) (by kernel_rfl) (by kernel_rfl) ?_ (Or.inl ⟨?_, ?_⟩) (by assumption) ?_
    rotate_left 2
    · (simp only [zA, zB, zC]; rfl)
    rotate_left 1
    · rfl
    · (intro w hSw; (try dsimp only at hSw); go_simp; try with_reducible rfl)
    rotate_left 1
    · exact fun _ _ _ h => h
    try simp only [Act.put, zD, zE, zF]
    refine wpAnyH_take (i := 3) (oi := ?_) (v := ?_) ?_ (by kernel_rfl) (by kernel_rfl) (by kernel_rfl) ?_ (Or.inl ⟨?_, ?_⟩) (by assumption) ?_
    rotate_left 2
    · (simp only [zA, zB, zC]; rfl)
    rotate_left 1
    · rfl
    · (intro w hSw; (try dsimp only at hSw); go_simp; try with_reducible rfl)
    rotate_left 1
    · exact fun _ _ _ h => h
    try simp only [Act.put, zD, zE, zF]
    refine wpAnyH_ready (rs := [4]) (by kernel_rfl) (by simp) ?_
    refine AllReadyH.cons (o := ?_) ?_ (fun K hK => ?_) AllReadyH.nil
    rotate_left 1
    · (simp only [zA, zB, zC]; rfl)
    go_simp
    (go_at_call 46; refine (HSEG.out _ HB3.out.dr).mono ?_; rintro e w4 ⟨rfl, ⟨cs4, hB4, hset4⟩, hgr4⟩; have hcs4 := feedC_setSeg hset4; rw [← HS2.out] at hcs4; subst hcs4; have hX4 := HX.out.dr.grown hgr4 (by intro e; injection e with e; omega); have x0 := hX4.cell 0; have x1 := hX4.cell 1; have x2 := hX4.cell 2; have x3 := hX4.cell 3; simp only [zA, zB, zC] at x0 x1 x2 x3; have yo := hB4.cell 11; have hyo : (feedC I.p (decOf hd) (clS (l ++ [r])).seg ov)[11]? = some ov := rfl; rw [hyo] at yo; have HX4 := hide hX4; have HB4 := hide hB4; have HGR4 := hide hgr4; clear hB4 hset4 hgr4 hX4 hyo)
    refine hK.out _ _ ?_ (fun hHeld => ?_)
    · ((try dsimp only); go_keep)
    clear hK K
    try simp only [Act.put, zD, zE, zF]
    refine wpAnyH_take (i := 5) (oi := ?_) (v := ?_) ?_ (by kernel_rfl) (by kernel_rfl) (by kernel_rfl) ?_ (Or.inl ⟨?_, ?_⟩) (by assumption) ?_
    rotate_left 2
    · (simp only [zA, zB, zC]; rfl)
    rotate_left 1
    · rfl
    · (intro w hSw; (try dsimp only at hSw); go_simp; try with_reducible rfl)
    rotate_left 1
    · exact fun _ _ _ h => h
    try simp only [Act.put, zD, zE, zF]
    refine wpAnyH_take (i := 6) (oi := ?_) (v := ?_) ?_ (by kernel_rfl) (by kernel_rfl) (by kernel_rfl) ?_ (Or.inr ⟨?_, ?_⟩) (by assumption) ?_
    rotate_left 2
    · (simp only [zA, zB, zC]; rfl)
    rotate_left 1
    · rfl
    · rfl
    rotate_left 1
    · exact fun _ _ _ h => h
    try simp only [Act.put, zD, zE, zF]
    refine wpAnyH_take (i := 7) (oi := ?_) (v := ?_) ?_ (by kernel_rfl) (by kernel_rfl) (by kernel_rfl) ?_ (Or.inr ⟨?_, ?_⟩) (by assumption) ?_
    rotate_left 2
    · (simp only [zA, zB, zC]; rfl)
    rotate_left 1
    · rfl
    · rfl
    rotate_left 1
    · exact fun _ _ _ h => h
    try simp only [Act.put, zD, zE, zF]
    refine wpAnyH_take (i := 8) (oi := ?_) (v := ?_) ?_ (by kernel_rfl) (by kernel_rfl) (by kernel_rfl) ?_ (Or.inr ⟨?_, ?_⟩) (by assumption) ?_
    rotate_left 2
    · (simp only [zA, zB, zC]; rfl)
    rotate_left 1
    · rfl
    · rfl
    rotate_left 1
    · exact fun _ _ _ h => h
    try simp only [Act.put, zD, zE, zF]
    refine wpAnyH_take (i := 9) (oi := ?_) (v := ?_) ?_ (by kernel_rfl) (by kernel_rfl) (by kernel_rfl) ?_ (Or.inr ⟨?_, ?_⟩) (by assumption) ?_
    rotate_left 2
    · (simp only [zA, zB, zC]; rfl)
    rotate_left 1
    · rfl
    · rfl
    rotate_left 1
    · exact fun _ _ _ h => h
    try simp only [Act.put, zD, zE, zF]
    refine wpAnyH_take (i := 10) (oi := ?_) (v := ?_) ?_ (by kernel_rfl) (by kernel_rfl) (by kernel_rfl) ?_ (Or.inr ⟨?_, ?_⟩) (by assumption) ?_
    rotate_left 2
    · (simp only [zA, zB, zC]; rfl)
    rotate_left 1
    · rfl
    · rfl
    rotate_left 1
    · exact fun _ _ _ h => h
    try simp only [Act.put, zD, zE, zF]
    refine wpAnyH_take (i := 11) (oi := ?_) (v := ?_) ?_ (by kernel_rfl) (by kernel_rfl) (by kernel_rfl) ?_ (Or.inl ⟨?_, ?_⟩) (by assumption) ?_
    rotate_left 2
    · (simp only [zA, zB, zC]; rfl)
    rotate_left 1
    · rfl
    · (intro w hSw; (try dsimp only at hSw); go_simp; try with_reducible rfl)
    rotate_left 1
    · exact fun _ _ _ h => h
    try simp only [Act.put, zD, zE, zF]
    refine wpAnyH_done (by kernel_rfl) ?_ _
    clear hHeld
    have y0 := HB4.out.cell 0
    have hy0 : (feedC I.p (decOf hd) (clS (l ++ [r])).seg ov)[0]? = some (.pointer (some ⟨I.p, 0, none⟩)) := rfl
    rw [hy0, HP.out] at y0
    have hfl4 := HB4.out.lt
    have hpen4 := ((HH.out.pen.below HBL3.out).dr).chg (Chg.of_gb (S := (· = f)) HGR4.out rfl) (Alien.one HB3.out.dr (by decide))
    have hc4 : Chg (FedS N I f w) w w4 := ((Chg.of_below HBL3.out).dr).trans (Chg.of_gb HGR4.out (.inl rfl))
    have HPEN4 := hide hpen4
    have HC4 := hide hc4
    clear hy0 hpen4 hc4
    go_upto_region 6 with fail
    refine wp_region_late (S := fun w' => w'.cell? ⟨f, 0, none⟩ = some (.pointer (some ⟨p, 0, none⟩)) ∧ w'.cell? ⟨X, 0, none⟩ = some (.int .i64 brk) ∧ w'.cell? ⟨X, 1, none⟩ = some (.bool pict) ∧ w'.cell? ⟨X, 2, none⟩ = some (.int .i64 conj) ∧ w'.cell? ⟨X, 3, none⟩ = some (.int .i64 east)) [10] (by kernel_rfl) (by exact ⟨y0, x0, x1, x2, x3⟩) (fun hHeld => ?_)
    refine wpAnyT_take (i := 0) (oi := ?_) (v := ?_) ?_ (by kernel_rfl) (by kernel_rfl) (by kernel_rfl) (by kernel_rfl) (by kernel_rfl) ?_ (Or.inl ⟨?_, ?_⟩) (by assumption) ?_
    rotate_left 2
    · (simp only [zA, zB, zC]; rfl)
    rotate_left 1
    · rfl
    · (intro w hSw; (try dsimp only at hSw); go_simp; try with_reducible rfl)
    rotate_left 1
    · exact fun _ _ _ h => h
    try simp only [Act.put, zD, zE, zF]
    refine wpAnyT_take (i := 1) (oi := ?_) (v := ?_) ?_ (by kernel_rfl) (by kernel_rfl) (by kernel_rfl) (by kernel_rfl) (by kernel_rfl) ?_ (Or.inl ⟨?_, ?_⟩) (by assumption) ?_
    rotate_left 2
    · (simp only [zA, zB, zC]; rfl)
    rotate_left 1
    · rfl
    · (intro w hSw; (try dsimp only at hSw); go_simp; try with_reducible rfl)
    rotate_left 1
    · exact fun _ _ _ h => h
    try simp only [Act.put, zD, zE, zF]
    refine wpAnyT_take (i := 2) (oi := ?_) (v := ?_) ?_ (by kernel_rfl) (by kernel_rfl) (by kernel_rfl) (by kernel_rfl) (by kernel_rfl) ?_ (Or.inl ⟨?_, ?_⟩) (by assumption) ?_
    rotate_left 2
    · (simp only [zA, zB, zC]; rfl)
    rotate_left 1
    · rfl
    · (intro w hSw; (try dsimp only at hSw); go_simp; try with_reducible rfl)
    rotate_left 1
    · exact fun _ _ _ h => h
    try simp only [Act.put, zD, zE, zF]
    refine wpAnyT_take (i := 3) (oi := ?_) (v := ?_) ?_ (by kernel_rfl) (by kernel_rfl) (by kernel_rfl) (by kernel_rfl) (by kernel_rfl) ?_ (Or.inl ⟨?_, ?_⟩) (by assumption) ?_
    rotate_left 2
    · (simp only [zA, zB, zC]; rfl)
    rotate_left 1
    · rfl
    · (intro w hSw; (try dsimp only at hSw); go_simp; try with_reducible rfl)
    rotate_left 1
    · exact fun _ _ _ h => h
    try simp only [Act.put, zD, zE, zF]
    refine wpAnyT_take (i := 4) (oi := ?_) (v := ?_) ?_ (by kernel_rfl) (by kernel_rfl) (by kernel_rfl) (by kernel_rfl) (by kernel_rfl) ?_ (Or.inl ⟨?_, ?_⟩) (by assumption) ?_
    rotate_left 2
    · (simp only [zA, zB, zC]; rfl)
    rotate_left 1
    · rfl
    · (intro w hSw; (try dsimp only at hSw); go_simp; try with_reducible rfl)
    rotate_left 1
    · exact fun _ _ _ h => h
    try simp only [Act.put, zD, zE, zF]
    refine wpAnyT_take (i := 5) (oi := ?_) (v := ?_) ?_ (by kernel_rfl) (by kernel_rfl) (by kernel_rfl) (by kernel_rfl) (by kernel_rfl) ?_ (Or.inl ⟨?_, ?_⟩) (by assumption) ?_
    rotate_left 2
    · (simp only [zA, zB, zC]; rfl)
    rotate_left 1
    · rfl
    · (intro w hSw; (try dsimp only at hSw); go_simp; try with_reducible rfl)
    rotate_left 1
    · exact fun _ _ _ h => h
    try simp only [Act.put, zD, zE, zF]
    refine wpAnyT_take (i := 6) (oi := ?_) (v := ?_) ?_ (by kernel_rfl) (by kernel_rfl) (by kernel_rfl) (by kernel_rfl) (by kernel_rfl) ?_ (Or.inl ⟨?_, ?_⟩) (by assumption) ?_
    rotate_left 2
    · (simp only [zA, zB, zC]; rfl)
    rotate_left 1
    · rfl
    · (intro w hSw; (try dsimp only at hSw); go_simp; try with_reducible rfl)
    rotate_left 1
    · exact fun _ _ _ h => h
    try simp only [Act.put, zD, zE, zF]
    refine wpAnyT_ready (rs := [7]) (by kernel_rfl) (by simp) ?_
    refine AllReadyT.cons (o := ?_) ?_ (fun K hK => ?_) AllReadyT.nil
    rotate_left 1
    · (simp only [zA, zB, zC]; rfl)
    go_simp
    (go_at_call 128; refine (HBEG.out _ HPEN4.out.dr).mono ?_; rintro e w6 ⟨o6, rfl, ho6, hq6, ⟨cs6, hb6, hop6⟩, hc6⟩; have hF6 := hc6.blk HB4.out.dr (HFS.out); have f11 := hF6.frozen 11; have yo := hF6.cell 11; have hyo : (feedC I.p (decOf hd) (clS (l ++ [r])).seg ov)[11]? = some ov := rfl; rw [hyo] at yo; have hfl6 := hF6.lt; have HF6 := hide hF6; have HQ6 := hide hq6; have HB6 := hide hb6; have HOP6 := hide hop6; have HC6 := hide hc6; have HO6 := hide ho6; have hX6 := hc6.blk HX4.out.dr (fun e => by have := HH.out.pen.sLt e; omega); have x0 := hX6.cell 0; have x1 := hX6.cell 1; have x2 := hX6.cell 2; have x3 := hX6.cell 3; simp only [zA, zB, zC] at x0 x1 x2 x3; have y0 := hF6.cell 0; have hy0 : (feedC I.p (decOf hd) (clS (l ++ [r])).seg ov)[0]? = some (.pointer (some ⟨I.p, 0, none⟩)) := rfl; rw [hy0, HP.out] at y0; clear hF6 hq6 hb6 hop6 hc6 ho6 hyo hX6 hy0)
    refine hK.out _ _ ?_ (fun hHeld => ?_)
    · ((try dsimp only); go_keep)
    clear hK K
    try simp only [Act.put, zD, zE, zF]
    refine wpAnyT_take (i := 8) (oi := ?_) (v := ?_) ?_ (by kernel_rfl) (by kernel_rfl) (by kernel_rfl) (by kernel_rfl) (by kernel_rfl) ?_ (Or.inl ⟨?_, ?_⟩) (by assumption) ?_
    rotate_left 2
    · (simp only [zA, zB, zC]; rfl)
    rotate_left 1
    · rfl
    · (intro w hSw; (try dsimp only at hSw); go_simp; try with_reducible rfl)
    rotate_left 1
    · exact fun _ _ _ h => h
    try simp only [Act.put, zD, zE, zF]
    refine wpAnyT_take (i := 9) (oi := ?_) (v := ?_) ?_ (by kernel_rfl) (by kernel_rfl) (by kernel_rfl) (by kernel_rfl) (by kernel_rfl) ?_ (Or.inl ⟨?_, ?_⟩) (by assumption) ?_
    rotate_left 2
    · (simp only [zA, zB, zC]; rfl)
    rotate_left 1
    · rfl
    · (intro w hSw; (try dsimp only at hSw); go_simp; try with_reducible rfl)
    rotate_left 1
    · exact fun _ _ _ h => h
    try simp only [Act.put, zD, zE, zF]
    refine wpAnyT_ready (rs := [10]) (by kernel_rfl) (by simp) ?_
    refine AllReadyT.consL (o := ?_) ?_ (by kernel_rfl) (fun K hK => ?_) AllReadyT.nil
    rotate_left 1
    · (simp only [zA, zB, zC]; rfl)
    go_simp
    refine hK.out _ _ ?_
    clear hK K
    try simp only [Act.put, zD, zE, zF]
    refine wpAnyT_done (by kernel_rfl) ?_ _
    clear hHeld x0 x1 x2 x3 y0 yo f11
    go_wp2
    go_end0
    have hfs : Chg (· = f) w6 (w6.setCell ⟨f, 11, none⟩ (.pointer (some ⟨o6, 0, none⟩))) := (Chg.refl (· = f) w6).set (p := ⟨f, 11, none⟩) (.inl rfl) _
    have hfo : o6 ≠ f := by have h1 : w4.heap.size ≤ o6 := HO6.out; omega
    have hz4 := HC4.out.size
    refine ⟨⟨_, rfl⟩, ⟨HQ6.out.chg hfs (Alien.one HF6.out (by decide)), ⟨ptrB o6, HF6.out.set_ 11 _, .inr ⟨by rw [HC5.out]; simp, o6, cs6, rfl, by have h1 : w4.heap.size ≤ o6 := HO6.out; omega, HB6.out.far (p := ⟨f, 11, none⟩) hfo _, ?_⟩⟩, HH.out.pre, HH.out.byt, HT.out⟩, FedS.trans HC4.out (((Chg.refl _ w4).dr.trans (HC6.out.mono (fun k hk => .inr (.inl hk)))).trans (hfs.mono (fun k hk => .inl hk)))⟩
    rw [HC5.out]
    exact HOP6.out
  | true =>
    have hcne := clS_join_cur hj
    obtain ⟨hc0, _⟩ | ⟨_, o, cs, rfl, hNo, hBo, hO⟩ := hop
    · exact (hcne hc0).elim
    obtain ⟨_, _, hcur⟩ := layS_join (W := I.W) hj
    have htx : TxOk ((clS l).cur ++ [r]) := by
      rw [← hcur]
      exact ht.cur (by rw [hcur]; simp)
    have hl16 : (clS l).cur.length < 16 := by
      have := htx.2.1
      rw [List.length_append, List.length_singleton] at this
      omega
    have HOP := hide hO
    have HBO := hide hBo
    have HCUR := hide hcur
    have HNO := hide hNo
    have hof : o ≠ f := fun e => by
      rw [e] at hBo
      exact absurd (hBo.typ hB) (by decide)
    have hJ : ∀ W, PenQ W I (penS I.W I.h l) → Blk W o 213 cs → Calls Tryz.prog 127 #[ptrB o, ptrB I.p, .int .i32 r, propA (propF r)] W fun e w' => e = .returned (.bool true) ∧ PenQ w' I (penS I.W I.h (l ++ [r])) ∧
        (∃ cs', Blk w' o 213 cs' ∧ OpnC cs' (layS I.W (l ++ [r])).out.length ((layS I.W (l ++ [r])).cur.length - widthF propF ((clS l).cur ++ [r])) (widthF propF ((clS l).cur ++ [r])) ((clS l).cur ++ [r])) ∧ Chg (fun k => PenS I k ∨ k = o) W w' := by
      intro W hW hBW
      by_cases he : widthF propF (clS l).cur = widthF propF ((clS l).cur ++ [r])
      · obtain ⟨k1, k2, k3, k4⟩ := step_same (h := I.h) h.pen.w2 ht hj he hh
        have := JoinS_ok I (penS I.W I.h l) o _ _ _ cs (clS l).cur r W hW hBW hO hl16 hv he k1 htx
        rw [k2] at this
        simp only [k3, k4] at this
        rw [he] at this
        exact this
      · obtain ⟨k1, k2, k3, k4, k5, k6⟩ := step_widen (h := I.h) h.pen.w2 ht hj he hh
        have := JoinW_ok I (penS I.W I.h l) o _ _ _ cs (clS l).cur r W hW hBW hO hl16 hv he ⟨k5, k6⟩ htx k1
        rw [k2, k3, k4] at this
        exact this
    rw [hj] at HSEG
    rw [hpp] at HSEG HUCD hJ hSEG2
    obtain ⟨brk, pict, conj, east⟩ := pp
    unfold propA at HSEG HUCD hJ
    simp only [propL] at HSEG HUCD hJ
    unfold ptrB at hJ ⊢
    rw [hp] at hJ
    have HJ := hide hJ
    have HS2 := hide hSEG2
    unfold ptrB at HSEG HB
    clear hv hvr hpk hsil hs hsg h hh ht hB hpp hp hj hSEG2 hJ hcne hcur htx hl16 hO hBo hNo
    go_enter Tryz.func90, Tryz.ntmps90
    go_wp2_with fail
    refine (HSIL.out _).mono ?_
    rintro e w1 ⟨rfl, rfl⟩
    go_wp2_with fail
    refine (HUCD.out _).mono ?_
    rintro e w2 ⟨rfl, hb2⟩
    obtain ⟨w3, hw3⟩ : ∃ w3, w2.alloc (.cells #[.int .i64 brk, .bool pict, .int .i64 conj, .int .i64 east] 108) = w3 := ⟨_, rfl⟩
    obtain ⟨X, hX⟩ : ∃ X, w2.heap.size = X := ⟨_, rfl⟩
    have hxb : Blk w3 X 108 #[.int .i64 brk, .bool pict, .int .i64 conj, .int .i64 east] := by rw [← hw3, ← hX]; exact Blk.new w2 _ _
    have hb3 : Below w.heap.size w w3 := by rw [← hw3]; exact hb2.alloc hb2.size _
    have hwX : w.heap.size ≤ X := by rw [← hX]; exact hb2.size
    have x0 := hxb.cell 0
    have x1 := hxb.cell 1
    have x2 := hxb.cell 2
    have x3 := hxb.cell 3
    simp only [zA, zB, zC] at x0 x1 x2 x3
    have yo := (HB.out.same hb3).cell 11
    have hyo : (feedC I.p (decOf hd) (clS l).seg (.pointer (some ⟨o, 0, none⟩)))[11]? = some (.pointer (some ⟨o, 0, none⟩)) := rfl
    rw [hyo] at yo
    have HX := hide hxb
    have HB3 := hide (HB.out.same hb3)
    have HBL3 := hide hb3
    have HW3 := hide hw3
    have HXE := hide hX
    have hXl := hxb.lt
    clear hxb hb3 hb2 hw3 hX hyo
    go_upto_region 4 with fail
    rw [HW3.out, HXE.out]
    refine wp_region_held_drew (S := fun w' => w'.cell? ⟨f, 11, none⟩ = some (.pointer (some ⟨o, 0, none⟩)) ∧ w'.cell? ⟨X, 0, none⟩ = some (.int .i64 brk) ∧ w'.cell? ⟨X, 1, none⟩ = some (.bool pict) ∧ w'.cell? ⟨X, 2, none⟩ = some (.int .i64 conj) ∧ w'.cell? ⟨X, 3, none⟩ = some (.int .i64 east)) (by kernel_rfl) (by exact ⟨yo, x0, x1, x2, x3⟩) (fun hHeld => ?_)
    refine wpAnyH_take (i := 0) (oi := ?_) (v := ?_) ?_ (by kernel_rfl) (by kernel_rfl) (by kernel_rfl) ?_ (Or.inl ⟨?_, ?_⟩) (by assumption) ?_
    rotate_left 2
    · (simp only [zA, zB, zC]; rfl)
    rotate_left 1
    · rfl
    · (intro w hSw; (try dsimp only at hSw); go_simp; try with_reducible rfl)
    rotate_left 1
    · exact fun _ _ _ h => h
    try simp only [Act.put, zD, zE, zF]
    refine wpAnyH_take (i := 1) (oi := ?_) (v := ?_) ?_ (by kernel_rfl) (by kernel_rfl) (by kernel_rfl) ?_ (Or.inl ⟨?_, ?_⟩) (by assumption) ?_
    rotate_left 2
    · (simp only [zA, zB, zC]; rfl)
    rotate_left 1
    · rfl
    · (intro w hSw; (try dsimp only at hSw); go_simp; try with_reducible rfl)
    rotate_left 1
    · exact fun _ _ _ h => h
    try simp only [Act.put, zD, zE, zF]
    refine wpAnyH_take (i := 2) (oi := ?_) (v := ?_) ?_ (by kernel_rfl) (by kernel_rfl) (by kernel_rfl) ?_ (Or.inl ⟨?_, ?_⟩) (by assumption) ?_
    rotate_left 2
    · (simp only [zA, zB, zC]; rfl)
    rotate_left 1
    · rfl
    · (intro w hSw; (try dsimp only at hSw); go_simp; try with_reducible rfl)
    rotate_left 1
    · exact fun _ _ _ h => h
    try simp only [Act.put, zD, zE, zF]
    refine wpAnyH_take (i := 3) (oi := ?_) (v := ?_) ?_ (by kernel_rfl) (by kernel_rfl) (by kernel_rfl) ?_ (Or.inl ⟨?_, ?_⟩) (by assumption) ?_
    rotate_left 2
    · (simp only [zA, zB, zC]; rfl)
    rotate_left 1
    · rfl
    · (intro w hSw; (try dsimp only at hSw); go_simp; try with_reducible rfl)
    rotate_left 1
    · exact fun _ _ _ h => h
    try simp only [Act.put, zD, zE, zF]
    refine wpAnyH_ready (rs := [4]) (by kernel_rfl) (by simp) ?_
    refine AllReadyH.cons (o := ?_) ?_ (fun K hK => ?_) AllReadyH.nil
    rotate_left 1
    · (simp only [zA, zB, zC]; rfl)
    go_simp
    (go_at_call 46; refine (HSEG.out _ HB3.out.dr).mono ?_; rintro e w4 ⟨rfl, ⟨cs4, hB4, hset4⟩, hgr4⟩; have hcs4 := feedC_setSeg hset4; rw [← HS2.out] at hcs4; subst hcs4; have hX4 := HX.out.dr.grown hgr4 (by intro e; injection e with e; omega); have x0 := hX4.cell 0; have x1 := hX4.cell 1; have x2 := hX4.cell 2; have x3 := hX4.cell 3; simp only [zA, zB, zC] at x0 x1 x2 x3; have yo := hB4.cell 11; have hyo : (feedC I.p (decOf hd) (clS (l ++ [r])).seg (.pointer (some ⟨o, 0, none⟩)))[11]? = some (.pointer (some ⟨o, 0, none⟩)) := rfl; rw [hyo] at yo; have HX4 := hide hX4; have HB4 := hide hB4; have HGR4 := hide hgr4; clear hB4 hset4 hgr4 hX4 hyo)
    refine hK.out _ _ ?_ (fun hHeld => ?_)
    · ((try dsimp only); go_keep)
    clear hK K
    try simp only [Act.put, zD, zE, zF]
    refine wpAnyH_take (i := 5) (oi := ?_) (v := ?_) ?_ (by kernel_rfl) (by kernel_rfl) (by kernel_rfl) ?_ (Or.inl ⟨?_, ?_⟩) (by assumption) ?_
    rotate_left 2
    · (simp only [zA, zB, zC]; rfl)
    rotate_left 1
    · rfl
    · (intro w hSw; (try dsimp only at hSw); go_simp; try with_reducible rfl)
    rotate_left 1
    · exact fun _ _ _ h => h
    try simp only [Act.put, zD, zE, zF]
    refine wpAnyH_take (i := 6) (oi := ?_) (v := ?_) ?_ (by kernel_rfl) (by kernel_rfl) (by kernel_rfl) ?_ (Or.inl ⟨?_, ?_⟩) (by assumption) ?_
    rotate_left 2
    · (simp only [zA, zB, zC]; rfl)
    rotate_left 1
    · rfl
    · (intro w hSw; (try dsimp only at hSw); go_simp; try with_reducible rfl)
    rotate_left 1
    · exact fun _ _ _ h => h
    try simp only [Act.put, zD, zE, zF]
    refine wpAnyH_take (i := 7) (oi := ?_) (v := ?_) ?_ (by kernel_rfl) (by kernel_rfl) (by kernel_rfl) ?_ (Or.inl ⟨?_, ?_⟩) (by assumption) ?_
    rotate_left 2
    · (simp only [zA, zB, zC]; rfl)
    rotate_left 1
    · rfl
    · (intro w hSw; (try dsimp only at hSw); go_simp; try with_reducible rfl)
    rotate_left 1
    · exact fun _ _ _ h => h
    try simp only [Act.put, zD, zE, zF]
    refine wpAnyH_take (i := 8) (oi := ?_) (v := ?_) ?_ (by kernel_rfl) (by kernel_rfl) (by kernel_rfl) ?_ (Or.inl ⟨?_, ?_⟩) (by assumption) ?_
    rotate_left 2
    · (simp only [zA, zB, zC]; rfl)
    rotate_left 1
    · rfl
    · (intro w hSw; (try dsimp only at hSw); go_simp; try with_reducible rfl)
    rotate_left 1
    · exact fun _ _ _ h => h
    try simp only [Act.put, zD, zE, zF]
    refine wpAnyH_take (i := 9) (oi := ?_) (v := ?_) ?_ (by kernel_rfl) (by kernel_rfl) (by kernel_rfl) ?_ (Or.inl ⟨?_, ?_⟩) (by assumption) ?_
    rotate_left 2
    · (simp only [zA, zB, zC]; rfl)
    rotate_left 1
    · rfl
    · (intro w hSw; (try dsimp only at hSw); go_simp; try with_reducible rfl)
    rotate_left 1
    · exact fun _ _ _ h => h
    try simp only [Act.put, zD, zE, zF]
    refine wpAnyH_take (i := 10) (oi := ?_) (v := ?_) ?_ (by kernel_rfl) (by kernel_rfl) (by kernel_rfl) ?_ (Or.inl ⟨?_, ?_⟩) (by assumption) ?_
    rotate_left 2
    · (simp only [zA, zB, zC]; rfl)
    rotate_left 1
    · rfl
    · (intro w hSw; (try dsimp only at hSw); go_simp; try with_reducible rfl)
    rotate_left 1
    · exact fun _ _ _ h => h
    try simp only [Act.put, zD, zE, zF]
    refine wpAnyH_take (i := 11) (oi := ?_) (v := ?_) ?_ (by kernel_rfl) (by kernel_rfl) (by kernel_rfl) ?_ (Or.inl ⟨?_, ?_⟩) (by assumption) ?_
    rotate_left 2
    · (simp only [zA, zB, zC]; rfl)
    rotate_left 1
    · rfl
    · (intro w hSw; (try dsimp only at hSw); go_simp; try with_reducible rfl)
    rotate_left 1
    · exact fun _ _ _ h => h
    try simp only [Act.put, zD, zE, zF]
    refine wpAnyH_done (by kernel_rfl) ?_ _
    clear hHeld
    have y0 := HB4.out.cell 0
    have hy0 : (feedC I.p (decOf hd) (clS (l ++ [r])).seg (.pointer (some ⟨o, 0, none⟩)))[0]? = some (.pointer (some ⟨I.p, 0, none⟩)) := rfl
    rw [hy0, HP.out] at y0
    have hfl4 := HB4.out.lt
    have hpen4 := ((HH.out.pen.below HBL3.out).dr).chg (Chg.of_gb (S := (· = f)) HGR4.out rfl) (Alien.one HB3.out.dr (by decide))
    have hc4 : Chg (FedS N I f w) w w4 := ((Chg.of_below HBL3.out).dr).trans (Chg.of_gb HGR4.out (.inl rfl))
    have HPEN4 := hide hpen4
    have HC4 := hide hc4
    clear hy0 hpen4 hc4
    have hbo4 := ((HBO.out.same HBL3.out).dr).grown HGR4.out (by intro e; injection e with e; exact hof e)
    have HBO4 := hide hbo4
    clear hbo4
    go_upto_region 5 with fail
    refine wp_region_held_drew (S := fun w' => w'.cell? ⟨f, 11, none⟩ = some (.pointer (some ⟨o, 0, none⟩)) ∧ w'.cell? ⟨f, 0, none⟩ = some (.pointer (some ⟨p, 0, none⟩)) ∧ w'.cell? ⟨X, 0, none⟩ = some (.int .i64 brk) ∧ w'.cell? ⟨X, 1, none⟩ = some (.bool pict) ∧ w'.cell? ⟨X, 2, none⟩ = some (.int .i64 conj) ∧ w'.cell? ⟨X, 3, none⟩ = some (.int .i64 east)) (by kernel_rfl) (by exact ⟨yo, y0, x0, x1, x2, x3⟩) (fun hHeld => ?_)
    refine wpAnyH_take (i := 0) (oi := ?_) (v := ?_) ?_ (by kernel_rfl) (by kernel_rfl) (by kernel_rfl) ?_ (Or.inl ⟨?_, ?_⟩) (by assumption) ?_
    rotate_left 2
    · (simp only [zA, zB, zC]; rfl)
    rotate_left 1
    · rfl
    · (intro w hSw; (try dsimp only at hSw); go_simp; try with_reducible rfl)
    rotate_left 1
    · exact fun _ _ _ h => h
    try simp only [Act.put, zD, zE, zF]
    refine wpAnyH_take (i := 1) (oi := ?_) (v := ?_) ?_ (by kernel_rfl) (by kernel_rfl) (by kernel_rfl) ?_ (Or.inl ⟨?_, ?_⟩) (by assumption) ?_
    rotate_left 2
    · (simp only [zA, zB, zC]; rfl)
    rotate_left 1
    · rfl
    · (intro w hSw; (try dsimp only at hSw); go_simp; try with_reducible rfl)
    rotate_left 1
    · exact fun _ _ _ h => h
    try simp only [Act.put, zD, zE, zF]
    refine wpAnyH_take (i := 2) (oi := ?_) (v := ?_) ?_ (by kernel_rfl) (by kernel_rfl) (by kernel_rfl) ?_ (Or.inl ⟨?_, ?_⟩) (by assumption) ?_
    rotate_left 2
    · (simp only [zA, zB, zC]; rfl)
    rotate_left 1
    · rfl
    · (intro w hSw; (try dsimp only at hSw); go_simp; try with_reducible rfl)
    rotate_left 1
    · exact fun _ _ _ h => h
    try simp only [Act.put, zD, zE, zF]
    refine wpAnyH_take (i := 3) (oi := ?_) (v := ?_) ?_ (by kernel_rfl) (by kernel_rfl) (by kernel_rfl) ?_ (Or.inl ⟨?_, ?_⟩) (by assumption) ?_
    rotate_left 2
    · (simp only [zA, zB, zC]; rfl)
    rotate_left 1
    · rfl
    · (intro w hSw; (try dsimp only at hSw); go_simp; try with_reducible rfl)
    rotate_left 1
    · exact fun _ _ _ h => h
    try simp only [Act.put, zD, zE, zF]
    refine wpAnyH_take (i := 4) (oi := ?_) (v := ?_) ?_ (by kernel_rfl) (by kernel_rfl) (by kernel_rfl) ?_ (Or.inl ⟨?_, ?_⟩) (by assumption) ?_
    rotate_left 2
    · (simp only [zA, zB, zC]; rfl)
    rotate_left 1
    · rfl
    · (intro w hSw; (try dsimp only at hSw); go_simp; try with_reducible rfl)
    rotate_left 1
    · exact fun _ _ _ h => h
    try simp only [Act.put, zD, zE, zF]
    refine wpAnyH_take (i := 5) (oi := ?_) (v := ?_) ?_ (by kernel_rfl) (by kernel_rfl) (by kernel_rfl) ?_ (Or.inl ⟨?_, ?_⟩) (by assumption) ?_
    rotate_left 2
    · (simp only [zA, zB, zC]; rfl)
    rotate_left 1
    · rfl
    · (intro w hSw; (try dsimp only at hSw); go_simp; try with_reducible rfl)
    rotate_left 1
    · exact fun _ _ _ h => h
    try simp only [Act.put, zD, zE, zF]
    refine wpAnyH_take (i := 6) (oi := ?_) (v := ?_) ?_ (by kernel_rfl) (by kernel_rfl) (by kernel_rfl) ?_ (Or.inl ⟨?_, ?_⟩) (by assumption) ?_
    rotate_left 2
    · (simp only [zA, zB, zC]; rfl)
    rotate_left 1
    · rfl
    · (intro w hSw; (try dsimp only at hSw); go_simp; try with_reducible rfl)
    rotate_left 1
    · exact fun _ _ _ h => h
    try simp only [Act.put, zD, zE, zF]
    refine wpAnyH_take (i := 7) (oi := ?_) (v := ?_) ?_ (by kernel_rfl) (by kernel_rfl) (by kernel_rfl) ?_ (Or.inl ⟨?_, ?_⟩) (by assumption) ?_
    rotate_left 2
    · (simp only [zA, zB, zC]; rfl)
    rotate_left 1
    · rfl
    · (intro w hSw; (try dsimp only at hSw); go_simp; try with_reducible rfl)
    rotate_left 1
    · exact fun _ _ _ h => h
    try simp only [Act.put, zD, zE, zF]
    refine wpAnyH_take (i := 8) (oi := ?_) (v := ?_) ?_ (by kernel_rfl) (by kernel_rfl) (by kernel_rfl) ?_ (Or.inl ⟨?_, ?_⟩) (by assumption) ?_
    rotate_left 2
    · (simp only [zA, zB, zC]; rfl)
    rotate_left 1
    · rfl
    · (intro w hSw; (try dsimp only at hSw); go_simp; try with_reducible rfl)
    rotate_left 1
    · exact fun _ _ _ h => h
    try simp only [Act.put, zD, zE, zF]
    refine wpAnyH_take (i := 9) (oi := ?_) (v := ?_) ?_ (by kernel_rfl) (by kernel_rfl) (by kernel_rfl) ?_ (Or.inl ⟨?_, ?_⟩) (by assumption) ?_
    rotate_left 2
    · (simp only [zA, zB, zC]; rfl)
    rotate_left 1
    · rfl
    · (intro w hSw; (try dsimp only at hSw); go_simp; try with_reducible rfl)
    rotate_left 1
    · exact fun _ _ _ h => h
    try simp only [Act.put, zD, zE, zF]
    refine wpAnyH_ready (rs := [10]) (by kernel_rfl) (by simp) ?_
    refine AllReadyH.cons (o := ?_) ?_ (fun K hK => ?_) AllReadyH.nil
    rotate_left 1
    · (simp only [zA, zB, zC]; rfl)
    go_simp
    (go_at_call 127; refine (HJ.out _ HPEN4.out.dr HBO4.out.dr).mono ?_; rintro e w6 ⟨rfl, hq6, ⟨cs6, hb6, hop6⟩, hc6⟩; have hF6 := hc6.blk HB4.out.dr (by rintro (e | e); exact HFS.out e; exact hof e.symm); have yo := hF6.cell 11; have hyo : (feedC I.p (decOf hd) (clS (l ++ [r])).seg (.pointer (some ⟨o, 0, none⟩)))[11]? = some (.pointer (some ⟨o, 0, none⟩)) := rfl; rw [hyo] at yo; have HF6 := hide hF6; have HQ6 := hide hq6; have HB6 := hide hb6; have HOP6 := hide hop6; have HC6 := hide hc6; have hX6 := hc6.blk HX4.out.dr (by rintro (e | e); (have := HH.out.pen.sLt e; omega); (have := HBO.out.lt; omega)); have x0 := hX6.cell 0; have x1 := hX6.cell 1; have x2 := hX6.cell 2; have x3 := hX6.cell 3; simp only [zA, zB, zC] at x0 x1 x2 x3; have y0 := hF6.cell 0; have hy0 : (feedC I.p (decOf hd) (clS (l ++ [r])).seg (.pointer (some ⟨o, 0, none⟩)))[0]? = some (.pointer (some ⟨I.p, 0, none⟩)) := rfl; rw [hy0, HP.out] at y0; clear hF6 hq6 hb6 hop6 hc6 hyo hX6 hy0)
    refine hK.out _ _ ?_ (fun hHeld => ?_)
    · ((try dsimp only); go_keep)
    clear hK K
    try simp only [Act.put, zD, zE, zF]
    refine wpAnyH_done (by kernel_rfl) ?_ _
    clear hHeld x0 x1 x2 x3 y0 yo
    go_wp2
    refine bodyPost_ret (results_none rfl _ _ _) rfl ?_
    refine ⟨⟨_, rfl⟩, ⟨HQ6.out, ⟨ptrB o, HF6.out, .inr ⟨by rw [HCUR.out]; simp, o, cs6, rfl, HNO.out, HB6.out, ?_⟩⟩, HH.out.pre, HH.out.byt, HT.out⟩, FedS.trans HC4.out ((Chg.refl _ w4).dr.trans (HC6.out.mono (fun k hk => ?_)))⟩
    · rw [HCUR.out]
      exact HOP6.out
    · rcases hk with hk | rfl
      · exact .inr (.inl hk)
      · exact .inr (.inr ⟨HNO.out, HBO4.out.bears⟩)
end Go.Proofs.YtdjpdllehhecpaaGreatDoor
namespace Go.Proofs.YtdjpdllehhecpaaGreatDoor
open Go.RowKit
set_option linter.unusedVariables false
set_option linter.unusedSimpArgs false
theorem Bears.uniq {w : World} {k : Nat} {S T : List TypeId} (h : Bears S w k) (h' : Bears T w k) (hd : ∀ t ∈ S, t ∉ T) : False := by
  obtain ⟨cs, t, fz, e, ht⟩ := h
  obtain ⟨cs', t', fz', e', ht'⟩ := h'
  rw [e] at e'
  injection e' with e'
  injection e' with _ e2
  subst e2
  exact hd _ ht ht'
theorem fresh_notFed {N : Nat} {I : Ids} {f : Nat} {v : PenV} {w w' : World} (hp : PenQ w I v) (hf : f < w.heap.size) (hz : w.heap.size ≤ w'.heap.size) {k : Nat} (h : Fresh w.heap.size [21] w' k) : ¬ FedS N I f w' k := by
  rintro (rfl | e | ⟨_, e⟩)
  · have := h.1; omega
  · have := hp.sLt e; have := h.1; omega
  · exact h.2.uniq e (by decide)
theorem fed_any {N : Nat} {I : Ids} {f : Nat} {w w' : World} (h : Chg (FedS N I f w) w w') {k : Nat} (hk : k < w.heap.size) (hn : ¬ FedS N I f w k) : ¬ FedS N I f w' k := by
  rintro (e | e | ⟨e1, cs, t, fz, hh, ht⟩)
  · exact hn (.inl e)
  · exact hn (.inr (.inl e))
  · exact hn (.inr (.inr ⟨e1, cs, t, fz, (h.block k hk hn).symm.trans hh, ht⟩))
theorem all_ok (N : Nat) (I : Ids) (f : Nat) (hd l m : List Int) (So Si : Nat → Prop) (x : Value) (w : World) (h : FedQ N I f w hd l) (hN : N ≤ w.heap.size) (hx : Slc (Rep.int .i32) So Si w x m) (hSo : ∀ k, So k → ¬ FedS N I f w k)
    (hs : ∀ r ∈ m, silF r = false) (ht : TextOk (l ++ m)) (hh : (layS I.W (l ++ m)).out.length < I.h) (hm : m.length ≤ 100000) :
    Calls Tryz.prog 59 #[ptrB f, x] w fun e w' => (∃ x, e = .returned x) ∧ FedQ N I f w' hd (l ++ m) ∧ Chg (FedS N I f w) w w' := by
  have HC := hide (fun (k : Nat) (hk : k < m.length) (W : World) (hW : FedQ N I f W hd (l ++ m.take k)) (hz : N ≤ W.heap.size) => by
    have e : l ++ m.take (k + 1) = (l ++ m.take k) ++ [m[k]] := by rw [take_snoc' m k hk, List.append_assoc]
    have e2 : l ++ m = (l ++ m.take (k + 1)) ++ m.drop (k + 1) := by rw [List.append_assoc, List.take_append_drop]
    have ht1 : TextOk (l ++ m.take (k + 1)) := by rw [e2] at ht; exact ht.take
    have hh1 : (layS I.W (l ++ m.take (k + 1))).out.length < I.h := by rw [e2] at hh; exact Nat.lt_of_le_of_lt (layS_back _ _ _) hh
    rw [e] at ht1 hh1
    have := comes_ok N I f hd (l ++ m.take k) m[k] W hW hz (hs _ (List.getElem_mem hk)) ht1 hh1
    rw [← e] at this
    exact this)
  have HX := hide hx
  have HSO := hide hSo
  have HN := hide hN
  obtain ⟨A, c, rfl, hc1, hc2, _⟩ := hx.open_
  have H0 : Hid (FedQ N I f w hd (l ++ m.take 0)) := hide (by simpa using h)
  clear h hx hSo hs ht hh hN
  unfold ptrB at HC ⊢
  go_enter Tryz.func59, Tryz.ntmps59
  go_wp2
  go_loopw [8] (fun i wr => ∃ k : Nat, k ≤ m.length ∧ i = .int .i64 k ∧ FedQ N I f wr hd (l ++ m.take k) ∧ Chg (FedS N I f w) w wr) (fun i _ => m.length - (intOf i).toNat)
  case atStart => exact ⟨0, Nat.zero_le _, rfl, H0.out, Chg.refl _ _⟩
  case round =>
    obtain ⟨k, hk, rfl, hq, hch⟩ := hrel
    by_cases hlt : k < m.length
    · have hsl := HX.out.ints_keep (hch.keep HSO.out)
      obtain ⟨ab, off, hA, _, q0, _⟩ := ints_at hsl.slb hlt
      subst hA
      have hz := hch.size
      have HK := hide (HC.out k hlt wr hq (by have := HN.out; omega))
      have hkm : (k : Int) < m.length := by omega
      obtain ⟨r, hr⟩ : ∃ r, m[k] = r := ⟨_, rfl⟩
      rw [hr] at HK q0
      have HCH := hide hch
      clear hq hch hsl hr
      go_wp2_with fail
      refine HK.out.mono ?_
      rintro e w1 ⟨⟨x1, rfl⟩, hq1, hc1⟩
      have HQ1 := hide hq1
      have HC1 := hide (FedS.trans HCH.out hc1)
      clear hq1 hc1
      go_wp2
      go_roundw
      case rel => exact ⟨k + 1, by omega, by go_num, HQ1.out, HC1.out⟩
      case measure => simp [intOf]; omega
    · have e : m.take k = m := List.take_of_length_le (by omega)
      rw [e] at hq
      have HQ1 := hide hq
      have HCH := hide hch
      clear hq hch
      go_wp2
      go_end0
      exact ⟨⟨_, rfl⟩, HQ1.out, HCH.out⟩
theorem FedQ.dec {N : Nat} {I : Ids} {f : Nat} {w w' : World} {hd hd' l : List Int} (h : FedQ N I f w hd l) {ov : Value} (hB : Blk w f 116 (feedC I.p (decOf hd) (clS l).seg ov)) (hB' : Blk w' f 116 (feedC I.p (decOf hd') (clS l).seg ov)) (hg : w.grownBy w' (some f)) (hp : Pre hd') (hb : Bytes hd') : FedQ N I f w' hd' l := by
  obtain ⟨ov2, h1, h2⟩ := h.blk
  have e : ov2 = ov := by
    have a := h1.cell 11
    rw [hB.cell 11] at a
    have e1 : (feedC I.p (decOf hd) (clS l).seg ov)[11]? = some ov := rfl
    have e2 : (feedC I.p (decOf hd) (clS l).seg ov2)[11]? = some ov2 := rfl
    rw [e1, e2] at a
    injection a with a
    exact a.symm
  subst e
  refine ⟨h.pen.chg (Chg.of_gb (S := (· = f)) hg rfl) (Alien.one h1 (by decide)), ⟨ov2, hB', ?_⟩, hp, hb, h.txt⟩
  rcases h2 with h2 | ⟨h2, o, cs, h3, h4, h5, h6⟩
  · exact .inl h2
  · exact .inr ⟨h2, o, cs, h3, h4, h5.grown hg (by
      intro e
      injection e with e
      subst e
      exact absurd (h5.typ h1) (by decide)), h6⟩
set_option maxHeartbeats 2000000 in
theorem Bytes_ok (N : Nat) (I : Ids) (f : Nat) (hd l b : List Int) (So Si : Nat → Prop) (x : Value) (w : World) (h : FedQ N I f w hd l) (hN : N ≤ w.heap.size) (hx : Slc (Rep.int .u8) So Si w x b) (hSo : ∀ k, So k → ¬ FedS N I f w k)
    (hs : ∀ r ∈ (feedF hd b).1, silF r = false) (ht : TextOk (l ++ (feedF hd b).1)) (hh : (layS I.W (l ++ (feedF hd b).1)).out.length < I.h) (hm : b.length ≤ 10000) :
    Calls Tryz.prog 36 #[ptrB f, x] w fun e w' => (∃ x, e = .returned x) ∧ FedQ N I f w' (feedF hd b).2 (l ++ (feedF hd b).1) ∧ Chg (FedS N I f w) w w' := by
  have HSN := hide (fun (k : Nat) (hk : k < b.length) => (by rw [take_snoc' b k hk]; exact feedF_snoc (b.take k) hd b[k] : feedF hd (b.take (k + 1)) = ((feedF hd (b.take k)).1 ++ (refStepF (feedF hd (b.take k)).2 b[k]).1, (refStepF (feedF hd (b.take k)).2 b[k]).2)))
  have HSP := hide (fun (k : Nat) => by
    have := feedF_append (b.take k) (b.drop k) hd
    rw [List.take_append_drop] at this
    exact this)
  have HALL := hide (fun (k : Nat) (hk : k < b.length) (So1 Si1 : Nat → Prop) (v : Value) (W : World) (hW : FedQ N I f W (feedF hd (b.take (k + 1))).2 (l ++ (feedF hd (b.take k)).1)) (hz : N ≤ W.heap.size) (hv : Slc (Rep.int .i32) So1 Si1 W v (refStepF (feedF hd (b.take k)).2 b[k]).1) (hS1 : ∀ k, So1 k → ¬ FedS N I f W k) => by
    have e1 := HSN.out k hk
    have e2 := HSP.out (k + 1)
    have e3 : (feedF hd (b.take (k + 1))).1 = (feedF hd (b.take k)).1 ++ (refStepF (feedF hd (b.take k)).2 b[k]).1 := by rw [e1]
    have e4 : (feedF hd b).1 = (feedF hd (b.take (k + 1))).1 ++ (feedF (feedF hd (b.take (k + 1))).2 (b.drop (k + 1))).1 := by rw [e2]
    have e5 : l ++ (feedF hd b).1 = (l ++ (feedF hd (b.take (k + 1))).1) ++ (feedF (feedF hd (b.take (k + 1))).2 (b.drop (k + 1))).1 := by rw [e4, List.append_assoc]
    have ht1 : TextOk (l ++ (feedF hd (b.take (k + 1))).1) := by rw [e5] at ht; exact ht.take
    have hh1 : (layS I.W (l ++ (feedF hd (b.take (k + 1))).1)).out.length < I.h := by rw [e5] at hh; exact Nat.lt_of_le_of_lt (layS_back _ _ _) hh
    rw [e3, ← List.append_assoc] at ht1 hh1
    have := all_ok N I f _ (l ++ (feedF hd (b.take k)).1) (refStepF (feedF hd (b.take k)).2 b[k]).1 So1 Si1 v W hW hz hv hS1 (fun r hr => hs r (by rw [e4, e3]; simp [hr])) ht1 hh1 (by have := refStep_len (feedF hd (b.take k)).2 b[k]; omega)
    rw [List.append_assoc, ← e3] at this
    exact this)
  have HX := hide hx
  have HSO := hide hSo
  have HN := hide hN
  obtain ⟨A, c, rfl, hc1, hc2, _⟩ := hx.open_
  have H0 : Hid (FedQ N I f w (feedF hd (b.take 0)).2 (l ++ (feedF hd (b.take 0)).1)) := hide (by simpa [feedF] using h)
  have hwf := hx.ints_wf
  have HWF := hide hwf
  have hfl : f < w.heap.size := by
    obtain ⟨ov, h1, _⟩ := h.blk
    exact h1.lt
  clear h hx hSo hs ht hh hN hwf
  unfold ptrB at HALL ⊢
  go_enter Tryz.func36, Tryz.ntmps36
  go_wp2
  go_loopw [10] (fun i wr => ∃ k : Nat, k ≤ b.length ∧ i = .int .i64 k ∧ FedQ N I f wr (feedF hd (b.take k)).2 (l ++ (feedF hd (b.take k)).1) ∧ Chg (FedS N I f w) w wr) (fun i _ => b.length - (intOf i).toNat)
  case atStart => exact ⟨0, Nat.zero_le _, rfl, H0.out, Chg.refl _ _⟩
  case round =>
    obtain ⟨k, hk, rfl, hq, hch⟩ := hrel
    by_cases hlt : k < b.length
    · have hsl := HX.out.ints_keep (hch.keep HSO.out)
      obtain ⟨ab, off, hA, _, q0, hwk⟩ := ints_at hsl.slb hlt
      subst hA
      obtain ⟨hw0, hw1⟩ := u8_wf hwk
      have hz := hch.size
      obtain ⟨ov, hB, _⟩ := hq.blk
      have HST := hide (StepOH_ok f 1 116 (by decide) _ _ b[k] wr ⟨hB, feedC_dec _ _ _ _⟩ hq.pre hq.byt hw0 hw1)
      have hkm : (k : Int) < b.length := by omega
      have HKK := hide (HALL.out k hlt)
      have hsn := HSN.out k hlt
      obtain ⟨r, hr⟩ : ∃ r, b[k] = r := ⟨_, rfl⟩
      rw [hr] at HST q0 HKK hsn
      have HSNK := hide hsn
      have HCH := hide hch
      have HQ := hide hq
      have HB := hide hB
      clear hq hch hsl hr hB hsn
      go_wp2_with fail
      refine HST.out.mono ?_
      rintro e w1 ⟨⟨v1, rfl, hv1, ⟨cs1, hB1, hset1⟩, hg1⟩, hp1, hb1⟩
      have hcs := feedC_setDec hset1
      subst hcs
      have hq1 := HQ.out.dec HB.out hB1 hg1 hp1 hb1
      have hz1 := hg1.size
      have e2 : (feedF hd (b.take (k + 1))).2 = (refStepF (feedF hd (b.take k)).2 r).2 := by rw [HSNK.out]
      rw [← e2] at hq1
      have HQ1 := hide hq1
      have hpen := HQ.out.pen
      have HNF := hide (fun k (hk : k < w1.heap.size ∧ Fresh wr.heap.size [21] w1 k) => fresh_notFed (N := N) hpen HB.out.lt hz1 hk.2)
      have HV1 := hide hv1
      have HC1 : Hid (Chg (FedS N I f w) w w1) := hide (FedS.trans HCH.out (Chg.of_gb hg1 (.inl rfl)))
      obtain ⟨A1, c1, rfl, _, _, _⟩ := hv1.islc.open_
      clear hv1 hB1 hset1 hg1 hp1 hb1 hq1 e2 hpen
      go_wp2_with fail
      refine (HKK.out _ _ _ w1 HQ1.out (by have := HN.out; omega) HV1.out.islc HNF.out).mono ?_
      rintro e w2 ⟨⟨x2, rfl⟩, hq2, hc2⟩
      have HQ2 := hide hq2
      have HC2 := hide (FedS.trans HC1.out hc2)
      clear hq2 hc2
      go_wp2
      go_roundw
      case rel => exact ⟨k + 1, by omega, by go_num, HQ2.out, HC2.out⟩
      case measure => simp [intOf]; omega
    · have e : b.take k = b := List.take_of_length_le (by omega)
      rw [e] at hq
      have HQ1 := hide hq
      have HCH := hide hch
      clear hq hch
      go_wp2
      go_end0
      exact ⟨⟨_, rfl⟩, HQ1.out, HCH.out⟩
theorem Close_ok (f p : Nat) (d : Dec) (s : SegV) (ov : Value) (w : World) (hB : Blk w f 116 (feedC p d s ov)) (h1 : ov.oneCell' = true) :
    Calls Tryz.prog 38 #[ptrB f] w fun e w' => (∃ x, e = .returned x) ∧ Blk w' f 116 (feedC p d seg0 (.pointer none)) ∧ w.grownBy w' (some f) := by
  have x11 := hB.cell 11
  have e11 : (feedC p d s ov)[11]? = some ov := rfl
  rw [e11] at x11
  have f11 := hB.frozen 11
  have hfl := hB.lt
  have hB1 : Blk (w.setCell ⟨f, 11, none⟩ (.pointer none)) f 116 (feedC p d s (.pointer none)) := hB.set_ 11 _
  have HR := hide (segReset_ok f 6 _ _ s _ hB1 (feedC_seg _ _ _ _))
  clear hB hB1 e11
  unfold ptrB
  go_enter Tryz.func38, Tryz.ntmps38
  go_wp2_with fail
  refine HR.out.mono ?_
  rintro e w1 ⟨⟨x1, rfl⟩, ⟨cs1, hB1, hset⟩, hg⟩
  have hcs := feedC_setSeg hset
  subst hcs
  have HB1 := hide hB1
  have HG := hide hg
  clear hB1 hset hg
  go_wp2
  go_end0
  exact ⟨⟨_, rfl⟩, HB1.out, gb_trans (gb_set (gb_refl w f) 11 _) HG.out⟩
theorem Flush0_ok (N : Nat) (I : Ids) (f : Nat) (l : List Int) (w : World) (h : FedQ N I f w [] l) (hN : N ≤ w.heap.size) (hh : (layS I.W l).out.length < I.h) :
    Calls Tryz.prog 37 #[ptrB f] w fun e w' => (∃ x, e = .returned x) ∧ PenQ w' I (penS I.W I.h l) ∧ Chg (FedS N I f w) w w' := by
  obtain ⟨ov, hB, _⟩ := h.blk
  have HF := hide (FlushON_ok f 1 116 _ w ⟨hB, feedC_dec _ _ _ _⟩)
  have HB := hide hB
  have HQ := hide h
  have hfl := hB.lt
  have HALL := hide (fun (So1 Si1 : Nat → Prop) (v : Value) (W : World) (hW : FedQ N I f W [] l) (hz : N ≤ W.heap.size) (hv : Slc (Rep.int .i32) So1 Si1 W v []) (hS1 : ∀ k, So1 k → ¬ FedS N I f W k) => by
    have := all_ok N I f [] l [] So1 Si1 v W hW hz hv hS1 (fun r hr => by cases hr) (by rw [List.append_nil]; exact h.txt) (by rw [List.append_nil]; exact hh) (by simp)
    rw [List.append_nil] at this
    exact this)
  have HN := hide hN
  clear h hB hN hh
  unfold ptrB at HALL ⊢
  go_enter Tryz.func37, Tryz.ntmps37
  go_wp2_with fail
  refine HF.out.mono ?_
  rintro e w1 ⟨v1, rfl, hv1, ⟨cs1, hB1, hset1⟩, hg1⟩
  have hcs := feedC_setDec hset1
  subst hcs
  have HQ1 := hide (HQ.out.dec HB.out hB1 hg1 HQ.out.pre HQ.out.byt)
  have hz1 := hg1.size
  have HNF := hide (fun k (hk : k < w1.heap.size ∧ Fresh w.heap.size [21] w1 k) => fresh_notFed (N := N) HQ.out.pen hfl hz1 hk.2)
  have HV1 := hide hv1
  have HC1 : Hid (Chg (FedS N I f w) w w1) := hide (Chg.of_gb hg1 (.inl rfl))
  obtain ⟨A1, c1, rfl, _, _, _⟩ := hv1.islc.open_
  clear hv1 hB1 hset1 hg1
  go_wp2_with fail
  refine (HALL.out _ _ _ w1 HQ1.out (by have := HN.out; omega) HV1.out.islc HNF.out).mono ?_
  rintro e w2 ⟨⟨x2, rfl⟩, hq2, hc2⟩
  obtain ⟨ov2, hB2, hop2⟩ := hq2.blk
  have ho2 : ov2.oneCell' = true := by
    rcases hop2 with ⟨_, rfl⟩ | ⟨_, o, cs, rfl, _⟩ <;> rfl
  have HCL := hide (Close_ok f I.p _ _ ov2 w2 hB2 ho2)
  have HQ2 := hide hq2
  have HB2 := hide hB2
  have HC2 := hide (FedS.trans HC1.out hc2)
  unfold ptrB at HCL
  clear hq2 hc2 hB2 hop2
  go_wp2_with fail
  refine HCL.out.mono ?_
  rintro e w3 ⟨⟨x3, rfl⟩, hB3, hg3⟩
  have HG3 := hide hg3
  clear hB3 hg3
  go_wp2
  go_end0
  exact ⟨⟨_, rfl⟩, HQ2.out.pen.chg (Chg.of_gb (S := (· = f)) HG3.out rfl) (Alien.one HB2.out (by decide)), FedS.trans HC2.out (Chg.of_gb HG3.out (.inl rfl))⟩
end Go.Proofs.YtdjpdllehhecpaaGreatDoor
