import Derived.Test.YtdjpdllehhecpaaGreatDoorQ22
import Derived.Test.YtdjpdllehhecpaaGreatDoorQ16
import Derived.Test.YtdjpdllehhecpaaGreatDoorQ19
open List renaming getElem?_toArray → zA, getElem?_cons_succ → zB, getElem?_cons_zero → zC, setIfInBounds_toArray → zD, set_cons_zero → zE, set_cons_succ → zF
namespace Go.Proofs.YtdjpdllehhecpaaGreatDoor
open Go.RowKit
set_option linter.unusedVariables false
set_option linter.unusedSimpArgs false
theorem PenQ.sLt {w : World} {I : Ids} {v : PenV} (h : PenQ w I v) {k : Nat} (hk : PenS I k) : k < w.heap.size := by
  rcases hk with rfl | ⟨i, hi, rfl | rfl⟩
  · exact h.blk.lt
  · obtain ⟨⟨_, k1⟩, _⟩ := h.grid.rowB (i := i) (by rw [h.high]; exact hi)
    exact k1.lt
  · obtain ⟨_, _, k1⟩ := h.grid.rowB (i := i) (by rw [h.high]; exact hi)
    exact k1.lt
theorem After_nat (r c : Nat) (p : Bool) (n W : Nat) (hn : n = 1 ∨ n = 2) (hW0 : 2 ≤ W) (hW : W ≤ 1024) (hc : c < W) (w : World) :
    Calls Tryz.prog 195 #[curA r c p, .int .i64 n, .int .i64 W, .bool true] w fun e w' => e = .returned (curA (afterP W n r c).1 (afterP W n r c).2.1 (afterP W n r c).2.2) ∧ Below w.heap.size w w' := by
  refine (After_ok r c p n W (by omega) (by omega) (by omega) (by omega) (by omega) w).mono ?_
  rintro e w' ⟨rfl, hb⟩
  refine ⟨?_, hb⟩
  unfold afterP
  by_cases h : c < W - n
  · rw [if_pos h, if_pos (by omega)]; rfl
  · rw [if_neg h, if_neg (by omega)]
    have : ((W - 1 : Nat) : Int) = W - 1 := by omega
    simp only [this]
theorem afterP_in {W n r c h : Nat} (hn : n = 1 ∨ n = 2) (hW : 2 ≤ W) (hr : r < h) (hc : c + n ≤ W) : (afterP W n r c).1 < h ∧ (afterP W n r c).2.1 < W ∧ ((afterP W n r c).2.2 = true → (afterP W n r c).2.1 = W - 1) := by
  unfold afterP
  split
  · exact ⟨hr, by show c + n < W; omega, fun e => by cases e⟩
  · exact ⟨hr, by show W - 1 < W; omega, fun _ => rfl⟩
theorem put_row {I : Ids} {q : PenV} {w : World} {n : Nat} {t : List Int} (h : PenQ w I q) (hn : n = 1 ∨ n = 2) (hf : q.c + n ≤ I.W) : ∃ x, rowAt q.rows q.r = x.1 ∧ RowQ w (I.db q.r) (I.dc q.r) x.1 x.2 ∧ x.1.length = I.W ∧
    updR q.rows q.r (paintL q.c (stripF n t)) = q.rows.set q.r ((paintL q.c (stripF n t) x).1, (paintL q.c (stripF n t) x).2) ∧ (paintL q.c (stripF n t) x).1.length = I.W := by
  obtain ⟨x, _, h1, h2, h3, h4⟩ := h.rowQ h.r
  refine ⟨x, h2, h3, h4, ?_, ?_⟩
  · unfold updR; rw [h1]
  · unfold paintL
    simp only [List.length_append, List.length_take, List.length_drop, strip_len hn]
    omega
set_option maxHeartbeats 8000000 in
theorem Put_ok (I : Ids) (v : PenV) (n : Nat) (hn : n = 1 ∨ n = 2) (So Si : Nat → Prop) (x : Value) (t : List Int) (w : World) (h : PenQ w I v) (hP : PutOk I.W I.h n v) (ht : TxOk t) (hx : Slc (Rep.int .i32) So Si w x t) (hSo : ∀ k, So k → k < w.heap.size ∧ ¬ PenS I k) :
    Calls Tryz.prog 166 #[ptrB I.p, .int .i64 n, x] w fun e w' => e = .returned (curA (roomP I.W n v).r (roomP I.W n v).c false) ∧ PenQ w' I (putP I.W n t v) ∧ Chg (PenS I) w w' := by
  obtain ⟨q, hq⟩ : ∃ q, roomP I.W n v = q := ⟨_, rfl⟩
  have hPK := hP
  obtain ⟨-, -, hp3, hp4, hp5, hp6⟩ := hPK
  rw [hq] at hp3 hp4 hp5 hp6
  have HPP : Hid (putP I.W n t v = penOf (updR q.rows q.r (paintL q.c (stripF n t))) (afterP I.W n q.r q.c)) := hide (by rw [← hq]; rfl)
  have HRM := hide (fun W (hW : PenQ W I v) => room_ok I v n hn W hW hP.pd hP.edge)
  rw [hq] at HRM ⊢
  have HRD := hide (fun W (hW : PenQ W I v) => ready_ok I v W hW)
  obtain ⟨A, cx, rfl, _, _, _⟩ := hx.open_
  have HX := hide hx
  have HSO := hide hSo
  have HTX := hide ht
  have HB := hide (And.intro hp3 (And.intro hp4 (And.intro hp5 hp6)))
  have HW2 := hide (And.intro h.w2 h.w1)
  have HAF := hide (afterP_in hn h.w2 hp3 hp4)
  obtain ⟨W, hW⟩ : ∃ W : Int, (I.W : Int) = W := ⟨_, rfl⟩
  obtain ⟨p, hp⟩ : ∃ p, I.p = p := ⟨_, rfl⟩
  obtain ⟨g, hg⟩ : ∃ g, I.g = g := ⟨_, rfl⟩
  have HI := hide (And.intro hp (And.intro hg hW))
  have hW2 : 2 ≤ W := by have := h.w2; omega
  have HQ0 := hide (h.alloc (.cells #[.int .i64 0, .int .i64 0, .bool false] 39))
  have hR0 := Blk.new w 39 #[.int .i64 0, .int .i64 0, .bool false]
  have hSL : ∀ k, PenS I k → k < w.heap.size := fun k hk => h.sLt hk
  have HSL := hide hSL
  have HR0 := hide hR0
  obtain ⟨res, hres⟩ : ∃ res, putP I.W n t v = res := ⟨_, rfl⟩
  rw [hres] at HPP ⊢
  obtain ⟨r, hr⟩ : ∃ r : Int, (q.r : Int) = r := ⟨_, rfl⟩
  obtain ⟨c, hc⟩ : ∃ c : Int, (q.c : Int) = c := ⟨_, rfl⟩
  have HRC := hide (And.intro hr hc)
  have HCW : Hid (q.c < I.W) := hide (by omega)
  rw [hr, hc]
  obtain ⟨a1, ha1⟩ : ∃ a1 : Nat, (afterP I.W n q.r q.c).1 = a1 := ⟨_, rfl⟩
  obtain ⟨a2, ha2⟩ : ∃ a2 : Nat, (afterP I.W n q.r q.c).2.1 = a2 := ⟨_, rfl⟩
  obtain ⟨a3, ha3⟩ : ∃ a3 : Bool, (afterP I.W n q.r q.c).2.2 = a3 := ⟨_, rfl⟩
  have HAN := hide (fun W5 => After_nat q.r q.c false n I.W hn h.w2 h.w1 HCW.out W5)
  rw [ha1, ha2, ha3] at HAF
  simp only [ha1, ha2, ha3, hr, hc, hW] at HAN
  have HA3 := hide (And.intro ha1 (And.intro ha2 ha3))
  unfold curA at HAN ⊢
  unfold ptrB at HRM HRD ⊢
  simp only [hp] at HRM HRD ⊢
  clear hq hP hp3 hp4 hp5 hp6 hx hSo ht hW hp hg h hR0 hSL hres hr hc ha1 ha2 ha3
  rcases hn with rfl | rfl
  · go_enter Tryz.func166, Tryz.ntmps166
    go_wp2_with fail
    refine (HRD.out _ HQ0.out).mono ?_
    rintro e w1 ⟨rfl, hq1, hc1⟩
    have hwd1 := pWide_ok hq1
    rw [HI.out.2.1, HI.out.2.2] at hwd1
    obtain ⟨y0, -⟩ := hq1.cells
    have hl1 := hq1.blk.lt
    rw [HI.out.1] at y0 hl1
    rw [HI.out.2.1] at y0
    have HWD1 := hide hwd1
    have HQ1 := hide hq1
    have HC1 : Hid (Chg (PenS I) w w1) := hide (((Chg.refl _ w).alloc _).trans (hc1.mono (fun k hk => .inl (hk.trans HI.out.1.symm))))
    have HR1 := hide (hc1.blk HR0.out (fun e => by have := HSL.out _ (.inl (e.trans HI.out.1.symm)); omega))
    clear hwd1 hq1 hc1
    go_wp2_with fail
    refine HWD1.out.mono ?_
    rintro e w2 ⟨rfl, rfl⟩
    go_wp2_with fail
    refine (HRM.out _ HQ1.out).mono ?_
    rintro e w2 ⟨⟨r2, rfl⟩, hq2, hc2⟩
    have HR2 := hide (hc2.blk HR1.out (fun e => by have := HSL.out _ e; omega))
    have HC2 := hide (HC1.out.trans hc2)
    obtain ⟨y0, y1, y2, -, -⟩ := hq2.cells
    have hl2 := hq2.blk.lt
    rw [HI.out.1] at y0 y1 y2 hl2
    rw [HI.out.2.1] at y0
    rw [HRC.out.1] at y1
    rw [HRC.out.2] at y2
    have HQ2 := hide hq2
    clear hq2 hc2
    go_upto_region 7 with fail
    refine wp_region_held_drew (S := fun w' => w'.cell? ⟨p, 1, none⟩ = some (.int .i64 r) ∧ w'.cell? ⟨p, 2, none⟩ = some (.int .i64 c)) (by kernel_rfl) (by exact ⟨y1, y2⟩) (fun hHeld => ?_)
    refine wpAnyH_take (i := 0) (oi := ?_) (v := ?_) ?_ (by kernel_rfl) (by kernel_rfl) (by kernel_rfl) ?_ (Or.inl ⟨?_, ?_⟩) (by assumption) ?_
    rotate_left 2
    · (simp only [zA, zB, zC]; rfl)
    rotate_left 1
    · rfl
    · (intro w hSw; (try dsimp only at hSw); go_simp; try with_reducible rfl)
    rotate_left 1
    · exact fun _ _ _ h => h
    try simp only [Act.put, zD, zE, zF]
    refine wpAnyH_take (i := 1) (oi := ?_) (v := ?_) ?_ (by kernel_rfl) (by kernel_rfl) (by kernel_rfl) ?_ (Or.inl ⟨?_, ?_⟩) (by assumption) ?_
    rotate_left 2
    · (simp only [zA, zB, zC]; rfl)
    rotate_left 1
    · rfl
    · (intro w hSw; (try dsimp only at hSw); go_simp; try with_reducible rfl)
    rotate_left 1
    · exact fun _ _ _ h => h
    try simp only [Act.put, zD, zE, zF]
    refine wpAnyH_take (i := 2) (oi := ?_) (v := ?_) ?_ (by kernel_rfl) (by kernel_rfl) (by kernel_rfl) ?_ (Or.inl ⟨?_, ?_⟩) (by assumption) ?_
    rotate_left 2
    · (simp only [zA, zB, zC]; rfl)
    rotate_left 1
    · rfl
    · (intro w hSw; (try dsimp only at hSw); go_simp; try with_reducible rfl)
    rotate_left 1
    · exact fun _ _ _ h => h
    try simp only [Act.put, zD, zE, zF]
    refine wpAnyH_take (i := 3) (oi := ?_) (v := ?_) ?_ (by kernel_rfl) (by kernel_rfl) (by kernel_rfl) ?_ (Or.inl ⟨?_, ?_⟩) (by assumption) ?_
    rotate_left 2
    · (simp only [zA, zB, zC]; rfl)
    rotate_left 1
    · rfl
    · (intro w hSw; (try dsimp only at hSw); go_simp; try with_reducible rfl)
    rotate_left 1
    · exact fun _ _ _ h => h
    try simp only [Act.put, zD, zE, zF]
    refine wpAnyH_take (i := 4) (oi := ?_) (v := ?_) ?_ (by kernel_rfl) (by kernel_rfl) (by kernel_rfl) ?_ (Or.inl ⟨?_, ?_⟩) (by assumption) ?_
    rotate_left 2
    · (simp only [zA, zB, zC]; rfl)
    rotate_left 1
    · rfl
    · (intro w hSw; (try dsimp only at hSw); go_simp; try with_reducible rfl)
    rotate_left 1
    · exact fun _ _ _ h => h
    try simp only [Act.put, zD, zE, zF]
    refine wpAnyH_take (i := 5) (oi := ?_) (v := ?_) ?_ (by kernel_rfl) (by kernel_rfl) (by kernel_rfl) ?_ (Or.inl ⟨?_, ?_⟩) (by assumption) ?_
    rotate_left 2
    · (simp only [zA, zB, zC]; rfl)
    rotate_left 1
    · rfl
    · (intro w hSw; (try dsimp only at hSw); go_simp; try with_reducible rfl)
    rotate_left 1
    · exact fun _ _ _ h => h
    try simp only [Act.put, zD, zE, zF]
    refine wpAnyH_take (i := 6) (oi := ?_) (v := ?_) ?_ (by kernel_rfl) (by kernel_rfl) (by kernel_rfl) ?_ (Or.inl ⟨?_, ?_⟩) (by assumption) ?_
    rotate_left 2
    · (simp only [zA, zB, zC]; rfl)
    rotate_left 1
    · rfl
    · (intro w hSw; (try dsimp only at hSw); go_simp; try with_reducible rfl)
    rotate_left 1
    · exact fun _ _ _ h => h
    try simp only [Act.put, zD, zE, zF]
    refine wpAnyH_take (i := 7) (oi := ?_) (v := ?_) ?_ (by kernel_rfl) (by kernel_rfl) (by kernel_rfl) ?_ (Or.inl ⟨?_, ?_⟩) (by assumption) ?_
    rotate_left 2
    · (simp only [zA, zB, zC]; rfl)
    rotate_left 1
    · rfl
    · (intro w hSw; (try dsimp only at hSw); go_simp; try with_reducible rfl)
    rotate_left 1
    · exact fun _ _ _ h => h
    try simp only [Act.put, zD, zE, zF]
    refine wpAnyH_take (i := 8) (oi := ?_) (v := ?_) ?_ (by kernel_rfl) (by kernel_rfl) (by kernel_rfl) ?_ (Or.inl ⟨?_, ?_⟩) (by assumption) ?_
    rotate_left 2
    · (simp only [zA, zB, zC]; rfl)
    rotate_left 1
    · rfl
    · (intro w hSw; (try dsimp only at hSw); go_simp; try with_reducible rfl)
    rotate_left 1
    · exact fun _ _ _ h => h
    try simp only [Act.put, zD, zE, zF]
    refine wpAnyH_take (i := 9) (oi := ?_) (v := ?_) ?_ (by kernel_rfl) (by kernel_rfl) (by kernel_rfl) ?_ (Or.inl ⟨?_, ?_⟩) (by assumption) ?_
    rotate_left 2
    · (simp only [zA, zB, zC]; rfl)
    rotate_left 1
    · rfl
    · (intro w hSw; (try dsimp only at hSw); go_simp; try with_reducible rfl)
    rotate_left 1
    · exact fun _ _ _ h => h
    try simp only [Act.put, zD, zE, zF]
    refine wpAnyH_take (i := 10) (oi := ?_) (v := ?_) ?_ (by kernel_rfl) (by kernel_rfl) (by kernel_rfl) ?_ (Or.inl ⟨?_, ?_⟩) (by assumption) ?_
    rotate_left 2
    · (simp only [zA, zB, zC]; rfl)
    rotate_left 1
    · rfl
    · (intro w hSw; (try dsimp only at hSw); go_simp; try with_reducible rfl)
    rotate_left 1
    · exact fun _ _ _ h => h
    try simp only [Act.put, zD, zE, zF]
    refine wpAnyH_ready (rs := [11]) (by kernel_rfl) (by simp) ?_
    refine AllReadyH.cons (o := ?_) ?_ (fun K hK => ?_) AllReadyH.nil
    rotate_left 1
    · (simp only [zA, zB, zC]; rfl)
    go_simp
    skip
    refine hK.out _ _ ?_ (fun hHeld => ?_)
    · ((try dsimp only); go_keep)
    clear hK K
    try simp only [Act.put, zD, zE, zF]
    refine wpAnyH_ready (rs := [12]) (by kernel_rfl) (by simp) ?_
    refine AllReadyH.cons (o := ?_) ?_ (fun K hK => ?_) AllReadyH.nil
    rotate_left 1
    · (simp only [zA, zB, zC]; rfl)
    go_simp
    skip
    refine hK.out _ _ ?_ (fun hHeld => ?_)
    · ((try dsimp only); go_keep)
    clear hK K
    try simp only [Act.put, zD, zE, zF]
    refine wpAnyH_done (by kernel_rfl) ?_ _
    obtain ⟨w3, hw3⟩ : ∃ w3, (w2.alloc (.cells #[.int .i64 r, .int .i64 c, .bool false] 39)).drew = w3 := ⟨_, rfl⟩
    have hA3 : Blk w3 w2.heap.size 39 #[.int .i64 r, .int .i64 c, .bool false] := by rw [← hw3]; exact (Blk.new w2 _ _).dr
    have hq3 : PenQ w3 I q := by rw [← hw3]; exact (HQ2.out.alloc _).dr
    have hc3 : Chg (PenS I) w w3 := by rw [← hw3]; exact (HC2.out.alloc _).dr
    have hz3 : w2.heap.size < w3.heap.size := by rw [← hw3]; show w2.heap.size < (World.alloc w2 _).heap.size; rw [World.size_alloc]; exact Nat.lt_succ_self _
    have HR3 : Hid (Blk w3 w.heap.size 39 #[.int .i64 0, .int .i64 0, .bool false]) := hide (by rw [← hw3]; exact (HR2.out.alloc _).dr)
    have hz2 : w.heap.size ≤ w2.heap.size := HC2.out.size
    have hzR : w.heap.size < w2.heap.size := HR2.out.lt
    have z0 := hA3.cell 0
    have z1 := hA3.cell 1
    have z2 := hA3.cell 2
    simp only [zA, zB, zC] at z0 z1 z2
    obtain ⟨y0, -⟩ := hq3.cells
    rw [HI.out.1] at y0
    rw [HI.out.2.1] at y0
    have hpl3 := hq3.blk.lt
    rw [HI.out.1] at hpl3
    have hx3 := HX.out.ints_keep (hc3.keep (fun k hk => (HSO.out k hk).2))
    obtain ⟨xr, hxa, hxq, hxl, hup, hpl⟩ := put_row (t := t) hq3 (n := 1) (by omega) HB.out.2.1
    have HROW := hide (fun W6 (h6 : PenQ W6 I q) => pRow_ok h6 HB.out.1)
    have HMP := hide (fun W6 (h6 : PenQ W6 I q) (h7 : Slc (Rep.int .i32) So Si W6 (.slice A t.length cx) t) => by
      obtain ⟨xr, hxa, hxq, hxl, hup, hpl⟩ := put_row (t := t) h6 (n := 1) (by omega) HB.out.2.1
      have hk := HB.out.2.2
      rw [hxa] at hk
      have hP := MPut_ok (I.db q.r) (I.dc q.r) xr.1 xr.2 q.c 1 So Si (.slice A t.length cx) t W6 hxq (by omega) h7 HTX.out (by have := HW2.out; omega) (by rw [hxl]; exact HB.out.2.1) hk.1 hk.2
      unfold ptrB at hP
      rw [HRC.out.2] at hP
      exact hP.mono (fun e w6 hh => (⟨hh.1, by
        have := h6.put h6.r hh.2.2 hh.2.1 hpl
        rw [← hup] at this
        exact this, hh.2.2.mono (PenS.row h6.r)⟩ : e = .returned .nilIface ∧ PenQ w6 I ⟨updR q.rows q.r (paintL q.c (stripF 1 t)), q.r, q.c, q.pd⟩ ∧ Chg (PenS I) W6 w6)))
    rw [HI.out.2.1, HRC.out.1] at HROW
    have HWD := hide (fun W6 (v6 : PenV) (h6 : PenQ W6 I v6) => pWide_ok h6)
    simp only [HI.out.2.1, HI.out.2.2] at HWD
    have HW3 := hide hw3
    have HA3B := hide hA3
    have HQ3 := hide hq3
    have HC3 := hide hc3
    have HX3 := hide hx3
    clear hw3 hA3 hq3 hc3 hx3 hxa hxq hxl hup hpl y1 y2 hHeld
    rw [HW3.out]
    go_upto_region 8 with fail
    refine wp_region_held_drew (S := fun w' => w'.cell? ⟨p, 0, none⟩ = some (.pointer (some ⟨g, 0, none⟩)) ∧ w'.cell? ⟨w2.heap.size, 0, none⟩ = some (.int .i64 r) ∧ w'.cell? ⟨w2.heap.size, 1, none⟩ = some (.int .i64 c)) (by kernel_rfl) (by exact ⟨y0, z0, z1⟩) (fun hHeld => ?_)
    refine wpAnyH_take (i := 0) (oi := ?_) (v := ?_) ?_ (by kernel_rfl) (by kernel_rfl) (by kernel_rfl) ?_ (Or.inl ⟨?_, ?_⟩) (by assumption) ?_
    rotate_left 2
    · (simp only [zA, zB, zC]; rfl)
    rotate_left 1
    · rfl
    · (intro w hSw; (try dsimp only at hSw); go_simp; try with_reducible rfl)
    rotate_left 1
    · exact fun _ _ _ h => h
    try simp only [Act.put, zD, zE, zF]
    refine wpAnyH_take (i := 1) (oi := ?_) (v := ?_) ?_ (by kernel_rfl) (by kernel_rfl) (by kernel_rfl) ?_ (Or.inl ⟨?_, ?_⟩) (by assumption) ?_
    rotate_left 2
    · (simp only [zA, zB, zC]; rfl)
    rotate_left 1
    · rfl
    · (intro w hSw; (try dsimp only at hSw); go_simp; try with_reducible rfl)
    rotate_left 1
    · exact fun _ _ _ h => h
    try simp only [Act.put, zD, zE, zF]
    refine wpAnyH_take (i := 2) (oi := ?_) (v := ?_) ?_ (by kernel_rfl) (by kernel_rfl) (by kernel_rfl) ?_ (Or.inl ⟨?_, ?_⟩) (by assumption) ?_
    rotate_left 2
    · (simp only [zA, zB, zC]; rfl)
    rotate_left 1
    · rfl
    · (intro w hSw; (try dsimp only at hSw); go_simp; try with_reducible rfl)
    rotate_left 1
    · exact fun _ _ _ h => h
    try simp only [Act.put, zD, zE, zF]
    refine wpAnyH_take (i := 3) (oi := ?_) (v := ?_) ?_ (by kernel_rfl) (by kernel_rfl) (by kernel_rfl) ?_ (Or.inl ⟨?_, ?_⟩) (by assumption) ?_
    rotate_left 2
    · (simp only [zA, zB, zC]; rfl)
    rotate_left 1
    · rfl
    · (intro w hSw; (try dsimp only at hSw); go_simp; try with_reducible rfl)
    rotate_left 1
    · exact fun _ _ _ h => h
    try simp only [Act.put, zD, zE, zF]
    refine wpAnyH_take (i := 4) (oi := ?_) (v := ?_) ?_ (by kernel_rfl) (by kernel_rfl) (by kernel_rfl) ?_ (Or.inl ⟨?_, ?_⟩) (by assumption) ?_
    rotate_left 2
    · (simp only [zA, zB, zC]; rfl)
    rotate_left 1
    · rfl
    · (intro w hSw; (try dsimp only at hSw); go_simp; try with_reducible rfl)
    rotate_left 1
    · exact fun _ _ _ h => h
    try simp only [Act.put, zD, zE, zF]
    refine wpAnyH_take (i := 5) (oi := ?_) (v := ?_) ?_ (by kernel_rfl) (by kernel_rfl) (by kernel_rfl) ?_ (Or.inl ⟨?_, ?_⟩) (by assumption) ?_
    rotate_left 2
    · (simp only [zA, zB, zC]; rfl)
    rotate_left 1
    · rfl
    · (intro w hSw; (try dsimp only at hSw); go_simp; try with_reducible rfl)
    rotate_left 1
    · exact fun _ _ _ h => h
    try simp only [Act.put, zD, zE, zF]
    refine wpAnyH_take (i := 7) (oi := ?_) (v := ?_) ?_ (by kernel_rfl) (by kernel_rfl) (by kernel_rfl) ?_ (Or.inl ⟨?_, ?_⟩) (by assumption) ?_
    rotate_left 2
    · (simp only [zA, zB, zC]; rfl)
    rotate_left 1
    · rfl
    · (intro w hSw; (try dsimp only at hSw); go_simp; try with_reducible rfl)
    rotate_left 1
    · exact fun _ _ _ h => h
    try simp only [Act.put, zD, zE, zF]
    refine wpAnyH_take (i := 8) (oi := ?_) (v := ?_) ?_ (by kernel_rfl) (by kernel_rfl) (by kernel_rfl) ?_ (Or.inl ⟨?_, ?_⟩) (by assumption) ?_
    rotate_left 2
    · (simp only [zA, zB, zC]; rfl)
    rotate_left 1
    · rfl
    · (intro w hSw; (try dsimp only at hSw); go_simp; try with_reducible rfl)
    rotate_left 1
    · exact fun _ _ _ h => h
    try simp only [Act.put, zD, zE, zF]
    refine wpAnyH_take (i := 9) (oi := ?_) (v := ?_) ?_ (by kernel_rfl) (by kernel_rfl) (by kernel_rfl) ?_ (Or.inl ⟨?_, ?_⟩) (by assumption) ?_
    rotate_left 2
    · (simp only [zA, zB, zC]; rfl)
    rotate_left 1
    · rfl
    · (intro w hSw; (try dsimp only at hSw); go_simp; try with_reducible rfl)
    rotate_left 1
    · exact fun _ _ _ h => h
    try simp only [Act.put, zD, zE, zF]
    refine wpAnyH_take (i := 10) (oi := ?_) (v := ?_) ?_ (by kernel_rfl) (by kernel_rfl) (by kernel_rfl) ?_ (Or.inl ⟨?_, ?_⟩) (by assumption) ?_
    rotate_left 2
    · (simp only [zA, zB, zC]; rfl)
    rotate_left 1
    · rfl
    · (intro w hSw; (try dsimp only at hSw); go_simp; try with_reducible rfl)
    rotate_left 1
    · exact fun _ _ _ h => h
    try simp only [Act.put, zD, zE, zF]
    refine wpAnyH_ready (rs := [6]) (by kernel_rfl) (by simp) ?_
    refine AllReadyH.cons (o := ?_) ?_ (fun K hK => ?_) AllReadyH.nil
    rotate_left 1
    · (simp only [zA, zB, zC]; rfl)
    go_simp
    (go_at_call 50; refine (HROW.out _ HQ3.out.dr).mono ?_; rintro e w' ⟨rfl, rfl⟩)
    refine hK.out _ _ ?_ (fun hHeld => ?_)
    · ((try dsimp only); go_keep)
    clear hK K
    try simp only [Act.put, zD, zE, zF]
    refine wpAnyH_ready (rs := [11]) (by kernel_rfl) (by simp) ?_
    refine AllReadyH.cons (o := ?_) ?_ (fun K hK => ?_) AllReadyH.nil
    rotate_left 1
    · (simp only [zA, zB, zC]; rfl)
    go_simp
    (go_at_call 194; refine (HMP.out _ HQ3.out.dr (HX3.out.ints_keep (keep_dr _ _))).mono ?_; rintro e w4 ⟨rfl, hq4, hc4⟩; obtain ⟨y0, -, -, -, y4⟩ := hq4.cells; rw [HI.out.1] at y0 y4; rw [HI.out.2.1] at y0; have ha4 := hc4.blk HA3B.out.dr (fun e => by have := HSL.out _ e; omega); have z0 := ha4.cell 0; have z1 := ha4.cell 1; have z2 := ha4.cell 2; simp only [zA, zB, zC] at z0 z1 z2; have HQ4 := hide hq4; have HC4 := hide (((HC3.out.dr).trans hc4)); have HA4 := hide ha4; have HR4 := hide (hc4.blk HR3.out.dr (fun e => by have := HSL.out _ e; omega)); clear hq4 hc4 ha4)
    refine hK.out _ _ ?_ (fun hHeld => ?_)
    · ((try dsimp only); go_keep)
    clear hK K
    try simp only [Act.put, zD, zE, zF]
    refine wpAnyH_done (by kernel_rfl) ?_ _
    clear hHeld
    go_upto_region 9 with fail
    refine wp_region_late (S := fun w' => w'.cell? ⟨p, 0, none⟩ = some (.pointer (some ⟨g, 0, none⟩)) ∧ w'.cell? ⟨p, 4, none⟩ = some (.bool true) ∧ w'.cell? ⟨w2.heap.size, 0, none⟩ = some (.int .i64 r) ∧ w'.cell? ⟨w2.heap.size, 1, none⟩ = some (.int .i64 c) ∧ w'.cell? ⟨w2.heap.size, 2, none⟩ = some (.bool false)) [15] (by kernel_rfl) (by exact ⟨y0, y4, z0, z1, z2⟩) (fun hHeld => ?_)
    refine wpAnyT_take (i := 0) (oi := ?_) (v := ?_) ?_ (by kernel_rfl) (by kernel_rfl) (by kernel_rfl) (by kernel_rfl) (by kernel_rfl) ?_ (Or.inl ⟨?_, ?_⟩) (by assumption) ?_
    rotate_left 2
    · (simp only [zA, zB, zC]; rfl)
    rotate_left 1
    · rfl
    · (intro w hSw; (try dsimp only at hSw); go_simp; try with_reducible rfl)
    rotate_left 1
    · exact fun _ _ _ h => h
    try simp only [Act.put, zD, zE, zF]
    refine wpAnyT_take (i := 1) (oi := ?_) (v := ?_) ?_ (by kernel_rfl) (by kernel_rfl) (by kernel_rfl) (by kernel_rfl) (by kernel_rfl) ?_ (Or.inl ⟨?_, ?_⟩) (by assumption) ?_
    rotate_left 2
    · (simp only [zA, zB, zC]; rfl)
    rotate_left 1
    · rfl
    · (intro w hSw; (try dsimp only at hSw); go_simp; try with_reducible rfl)
    rotate_left 1
    · exact fun _ _ _ h => h
    try simp only [Act.put, zD, zE, zF]
    refine wpAnyT_take (i := 2) (oi := ?_) (v := ?_) ?_ (by kernel_rfl) (by kernel_rfl) (by kernel_rfl) (by kernel_rfl) (by kernel_rfl) ?_ (Or.inl ⟨?_, ?_⟩) (by assumption) ?_
    rotate_left 2
    · (simp only [zA, zB, zC]; rfl)
    rotate_left 1
    · rfl
    · (intro w hSw; (try dsimp only at hSw); go_simp; try with_reducible rfl)
    rotate_left 1
    · exact fun _ _ _ h => h
    try simp only [Act.put, zD, zE, zF]
    refine wpAnyT_take (i := 3) (oi := ?_) (v := ?_) ?_ (by kernel_rfl) (by kernel_rfl) (by kernel_rfl) (by kernel_rfl) (by kernel_rfl) ?_ (Or.inl ⟨?_, ?_⟩) (by assumption) ?_
    rotate_left 2
    · (simp only [zA, zB, zC]; rfl)
    rotate_left 1
    · rfl
    · (intro w hSw; (try dsimp only at hSw); go_simp; try with_reducible rfl)
    rotate_left 1
    · exact fun _ _ _ h => h
    try simp only [Act.put, zD, zE, zF]
    refine wpAnyT_take (i := 4) (oi := ?_) (v := ?_) ?_ (by kernel_rfl) (by kernel_rfl) (by kernel_rfl) (by kernel_rfl) (by kernel_rfl) ?_ (Or.inl ⟨?_, ?_⟩) (by assumption) ?_
    rotate_left 2
    · (simp only [zA, zB, zC]; rfl)
    rotate_left 1
    · rfl
    · (intro w hSw; (try dsimp only at hSw); go_simp; try with_reducible rfl)
    rotate_left 1
    · exact fun _ _ _ h => h
    try simp only [Act.put, zD, zE, zF]
    refine wpAnyT_take (i := 5) (oi := ?_) (v := ?_) ?_ (by kernel_rfl) (by kernel_rfl) (by kernel_rfl) (by kernel_rfl) (by kernel_rfl) ?_ (Or.inl ⟨?_, ?_⟩) (by assumption) ?_
    rotate_left 2
    · (simp only [zA, zB, zC]; rfl)
    rotate_left 1
    · rfl
    · (intro w hSw; (try dsimp only at hSw); go_simp; try with_reducible rfl)
    rotate_left 1
    · exact fun _ _ _ h => h
    try simp only [Act.put, zD, zE, zF]
    refine wpAnyT_take (i := 6) (oi := ?_) (v := ?_) ?_ (by kernel_rfl) (by kernel_rfl) (by kernel_rfl) (by kernel_rfl) (by kernel_rfl) ?_ (Or.inl ⟨?_, ?_⟩) (by assumption) ?_
    rotate_left 2
    · (simp only [zA, zB, zC]; rfl)
    rotate_left 1
    · rfl
    · (intro w hSw; (try dsimp only at hSw); go_simp; try with_reducible rfl)
    rotate_left 1
    · exact fun _ _ _ h => h
    try simp only [Act.put, zD, zE, zF]
    refine wpAnyT_take (i := 8) (oi := ?_) (v := ?_) ?_ (by kernel_rfl) (by kernel_rfl) (by kernel_rfl) (by kernel_rfl) (by kernel_rfl) ?_ (Or.inl ⟨?_, ?_⟩) (by assumption) ?_
    rotate_left 2
    · (simp only [zA, zB, zC]; rfl)
    rotate_left 1
    · rfl
    · (intro w hSw; (try dsimp only at hSw); go_simp; try with_reducible rfl)
    rotate_left 1
    · exact fun _ _ _ h => h
    try simp only [Act.put, zD, zE, zF]
    refine wpAnyT_take (i := 9) (oi := ?_) (v := ?_) ?_ (by kernel_rfl) (by kernel_rfl) (by kernel_rfl) (by kernel_rfl) (by kernel_rfl) ?_ (Or.inl ⟨?_, ?_⟩) (by assumption) ?_
    rotate_left 2
    · (simp only [zA, zB, zC]; rfl)
    rotate_left 1
    · rfl
    · (intro w hSw; (try dsimp only at hSw); go_simp; try with_reducible rfl)
    rotate_left 1
    · exact fun _ _ _ h => h
    try simp only [Act.put, zD, zE, zF]
    refine wpAnyT_take (i := 10) (oi := ?_) (v := ?_) ?_ (by kernel_rfl) (by kernel_rfl) (by kernel_rfl) (by kernel_rfl) (by kernel_rfl) ?_ (Or.inl ⟨?_, ?_⟩) (by assumption) ?_
    rotate_left 2
    · (simp only [zA, zB, zC]; rfl)
    rotate_left 1
    · rfl
    · (intro w hSw; (try dsimp only at hSw); go_simp; try with_reducible rfl)
    rotate_left 1
    · exact fun _ _ _ h => h
    try simp only [Act.put, zD, zE, zF]
    refine wpAnyT_take (i := 11) (oi := ?_) (v := ?_) ?_ (by kernel_rfl) (by kernel_rfl) (by kernel_rfl) (by kernel_rfl) (by kernel_rfl) ?_ (Or.inl ⟨?_, ?_⟩) (by assumption) ?_
    rotate_left 2
    · (simp only [zA, zB, zC]; rfl)
    rotate_left 1
    · rfl
    · (intro w hSw; (try dsimp only at hSw); go_simp; try with_reducible rfl)
    rotate_left 1
    · exact fun _ _ _ h => h
    try simp only [Act.put, zD, zE, zF]
    refine wpAnyT_ready (rs := [7]) (by kernel_rfl) (by simp) ?_
    refine AllReadyT.cons (o := ?_) ?_ (fun K hK => ?_) AllReadyT.nil
    rotate_left 1
    · (simp only [zA, zB, zC]; rfl)
    go_simp
    (go_at_call 26; refine (HWD.out _ _ HQ4.out.dr).mono ?_; rintro e w' ⟨rfl, rfl⟩)
    refine hK.out _ _ ?_ (fun hHeld => ?_)
    · ((try dsimp only); go_keep)
    clear hK K
    try simp only [Act.put, zD, zE, zF]
    refine wpAnyT_ready (rs := [12]) (by kernel_rfl) (by simp) ?_
    refine AllReadyT.cons (o := ?_) ?_ (fun K hK => ?_) AllReadyT.nil
    rotate_left 1
    · (simp only [zA, zB, zC]; rfl)
    go_simp
    (go_at_call 195; refine (HAN.out _).mono ?_; rintro e w5 ⟨rfl, hb5⟩; have hq5 := HQ4.out.dr.below hb5; obtain ⟨y0, y1, y2, y3, y4⟩ := hq5.cells; have f1 := hq5.blk.frozen 1; have f2 := hq5.blk.frozen 2; have f3 := hq5.blk.frozen 3; have hlp := hq5.blk.lt; rw [HI.out.1] at y0 y1 y2 y3 y4 f1 f2 f3 hlp; rw [HI.out.2.1] at y0; have ha5 := HA4.out.dr.same hb5; have z0 := ha5.cell 0; have z1 := ha5.cell 1; have z2 := ha5.cell 2; simp only [zA, zB, zC] at z0 z1 z2; have HQ5 := hide hq5; have HC5 := hide ((HC4.out.dr).trans (Chg.of_below hb5)); have HA5 := hide ha5; have HR5 := hide (HR4.out.dr.same hb5); clear hq5 hb5 ha5)
    refine hK.out _ _ ?_ (fun hHeld => ?_)
    · ((try dsimp only); go_keep)
    clear hK K
    try simp only [Act.put, zD, zE, zF]
    refine wpAnyT_take (i := 13) (oi := ?_) (v := ?_) ?_ (by kernel_rfl) (by kernel_rfl) (by kernel_rfl) (by kernel_rfl) (by kernel_rfl) ?_ (Or.inl ⟨?_, ?_⟩) (by assumption) ?_
    rotate_left 2
    · (simp only [zA, zB, zC]; rfl)
    rotate_left 1
    · rfl
    · (intro w hSw; (try dsimp only at hSw); go_simp; try with_reducible rfl)
    rotate_left 1
    · exact fun _ _ _ h => h
    try simp only [Act.put, zD, zE, zF]
    refine wpAnyT_take (i := 14) (oi := ?_) (v := ?_) ?_ (by kernel_rfl) (by kernel_rfl) (by kernel_rfl) (by kernel_rfl) (by kernel_rfl) ?_ (Or.inl ⟨?_, ?_⟩) (by assumption) ?_
    rotate_left 2
    · (simp only [zA, zB, zC]; rfl)
    rotate_left 1
    · rfl
    · (intro w hSw; (try dsimp only at hSw); go_simp; try with_reducible rfl)
    rotate_left 1
    · exact fun _ _ _ h => h
    try simp only [Act.put, zD, zE, zF]
    refine wpAnyT_ready (rs := [15]) (by kernel_rfl) (by simp) ?_
    refine AllReadyT.consL (o := ?_) ?_ (by kernel_rfl) (fun K hK => ?_) AllReadyT.nil
    rotate_left 1
    · (simp only [zA, zB, zC]; rfl)
    go_simp
    refine hK.out _ _ ?_
    clear hK K
    try simp only [Act.put, zD, zE, zF]
    refine wpAnyT_done (by kernel_rfl) ?_ _
    obtain ⟨s1, s2⟩ := HQ5.out.store3 (r := a1) (c := a2) (pd := a3) HAF.out.1 HAF.out.2.1 HAF.out.2.2
    rw [HI.out.1] at s1 s2
    obtain ⟨w6, hw6⟩ : ∃ w6, ((w5.setCell ⟨p, 1, none⟩ (.int .i64 a1)).setCell ⟨p, 2, none⟩ (.int .i64 a2)).setCell ⟨p, 3, none⟩ (.bool a3) = w6 := ⟨_, rfl⟩
    have hpw : p < w.heap.size := HSL.out p (.inl HI.out.1.symm)
    have hr6 : Blk w6 w.heap.size 39 #[.int .i64 0, .int .i64 0, .bool false] := by rw [← hw6]; exact ((HR5.out.far (p := ⟨p, 1, none⟩) (by show w.heap.size ≠ p; omega) _).far (p := ⟨p, 2, none⟩) (by show w.heap.size ≠ p; omega) _).far (p := ⟨p, 3, none⟩) (by show w.heap.size ≠ p; omega) _
    have ha6 : Blk w6 w2.heap.size 39 #[.int .i64 r, .int .i64 c, .bool false] := by rw [← hw6]; exact ((HA5.out.far (p := ⟨p, 1, none⟩) (by show w2.heap.size ≠ p; omega) _).far (p := ⟨p, 2, none⟩) (by show w2.heap.size ≠ p; omega) _).far (p := ⟨p, 3, none⟩) (by show w2.heap.size ≠ p; omega) _
    rw [hw6] at s1 s2
    have HS1 := hide s1
    have HC6 := hide (HC5.out.trans (s2.mono (fun k hk => .inl (hk.trans HI.out.1.symm))))
    have z0 := ha6.cell 0
    have z1 := ha6.cell 1
    have z2 := ha6.cell 2
    have v0 := hr6.cell 0
    have v1 := hr6.cell 1
    have v2 := hr6.cell 2
    have u0 := hr6.frozen 0
    have u1 := hr6.frozen 1
    have u2 := hr6.frozen 2
    simp only [zA, zB, zC] at z0 z1 z2 v0 v1 v2
    have HR6 := hide hr6
    have HW6 := hide hw6
    clear s1 s2 hr6 ha6 hw6 hHeld y0 y1 y2 y3 y4 f1 f2 f3 hlp
    rw [HW6.out]
    go_wp2
    have hx := ((HR6.out.set_ 0 (.int .i64 r)).set_ 1 (.int .i64 c)).set_ 2 (.bool false)
    have x0 := hx.cell 0
    have x1 := hx.cell 1
    have x2 := hx.cell 2
    simp only [zD, zE, zF, zA, zB, zC] at x0 x1 x2
    have hR : Chg (· = w.heap.size) w6 (((w6.setCell ⟨w.heap.size, 0, none⟩ (.int .i64 r)).setCell ⟨w.heap.size, 1, none⟩ (.int .i64 c)).setCell ⟨w.heap.size, 2, none⟩ (.bool false)) := (((Chg.refl (· = w.heap.size) w6).set (p := ⟨w.heap.size, 0, none⟩) (.inl rfl) _).set (p := ⟨w.heap.size, 1, none⟩) (.inl rfl) _).set (p := ⟨w.heap.size, 2, none⟩) (.inl rfl) _
    have hpq := HS1.out.chg hR (Alien.one HR6.out (by decide))
    have hfin : res = ⟨updR q.rows q.r (paintL q.c (stripF 1 t)), a1, a2, a3⟩ := by
      rw [HPP.out]
      unfold penOf
      rw [HA3.out.1, HA3.out.2.1, HA3.out.2.2]
    rw [← hfin] at hpq
    refine bodyPost_ret (v := .agg #[.int .i64 r, .int .i64 c, .bool false]) (by simp [results, Tryz.results166, go_sem, x0, x1, x2]) rfl ⟨rfl, hpq, HC6.out.next hR (fun k hk => .inr (by subst hk; exact Nat.le_refl _))⟩
  · go_enter Tryz.func166, Tryz.ntmps166
    go_wp2_with fail
    refine (HRD.out _ HQ0.out).mono ?_
    rintro e w1 ⟨rfl, hq1, hc1⟩
    have hwd1 := pWide_ok hq1
    rw [HI.out.2.1, HI.out.2.2] at hwd1
    obtain ⟨y0, -⟩ := hq1.cells
    have hl1 := hq1.blk.lt
    rw [HI.out.1] at y0 hl1
    rw [HI.out.2.1] at y0
    have HWD1 := hide hwd1
    have HQ1 := hide hq1
    have HC1 : Hid (Chg (PenS I) w w1) := hide (((Chg.refl _ w).alloc _).trans (hc1.mono (fun k hk => .inl (hk.trans HI.out.1.symm))))
    have HR1 := hide (hc1.blk HR0.out (fun e => by have := HSL.out _ (.inl (e.trans HI.out.1.symm)); omega))
    clear hwd1 hq1 hc1
    go_wp2_with fail
    refine HWD1.out.mono ?_
    rintro e w2 ⟨rfl, rfl⟩
    go_wp2_with fail
    refine (HRM.out _ HQ1.out).mono ?_
    rintro e w2 ⟨⟨r2, rfl⟩, hq2, hc2⟩
    have HR2 := hide (hc2.blk HR1.out (fun e => by have := HSL.out _ e; omega))
    have HC2 := hide (HC1.out.trans hc2)
    obtain ⟨y0, y1, y2, -, -⟩ := hq2.cells
    have hl2 := hq2.blk.lt
    rw [HI.out.1] at y0 y1 y2 hl2
    rw [HI.out.2.1] at y0
    rw [HRC.out.1] at y1
    rw [HRC.out.2] at y2
    have HQ2 := hide hq2
    clear hq2 hc2
    go_upto_region 7 with fail
    refine wp_region_held_drew (S := fun w' => w'.cell? ⟨p, 1, none⟩ = some (.int .i64 r) ∧ w'.cell? ⟨p, 2, none⟩ = some (.int .i64 c)) (by kernel_rfl) (by exact ⟨y1, y2⟩) (fun hHeld => ?_)
    refine wpAnyH_take (i := 0) (oi := ?_) (v := ?_) ?_ (by kernel_rfl) (by kernel_rfl) (by kernel_rfl) ?_ (Or.inl ⟨?_, ?_⟩) (by assumption) ?_
    rotate_left 2
    · (simp only [zA, zB, zC]; rfl)
    rotate_left 1
    · rfl
    · (intro w hSw; (try dsimp only at hSw); go_simp; try with_reducible rfl)
    rotate_left 1
    · exact fun _ _ _ h => h
    try simp only [Act.put, zD, zE, zF]
    refine wpAnyH_take (i := 1) (oi := ?_) (v := ?_) ?_ (by kernel_rfl) (by kernel_rfl) (by kernel_rfl) ?_ (Or.inl ⟨?_, ?_⟩) (by assumption) ?_
    rotate_left 2
    · (simp only [zA, zB, zC]; rfl)
    rotate_left 1
    · rfl
    · (intro w hSw; (try dsimp only at hSw); go_simp; try with_reducible rfl)
    rotate_left 1
    · exact fun _ _ _ h => h
    try simp only [Act.put, zD, zE, zF]
    refine wpAnyH_take (i := 2) (oi := ?_) (v := ?_) ?_ (by kernel_rfl) (by kernel_rfl) (by kernel_rfl) ?_ (Or.inl ⟨?_, ?_⟩) (by assumption) ?_
    rotate_left 2
    · (simp only [zA, zB, zC]; rfl)
    rotate_left 1
    · rfl
    · (intro w hSw; (try dsimp only at hSw); go_simp; try with_reducible rfl)
    rotate_left 1
    · exact fun _ _ _ h => h
    try simp only [Act.put, zD, zE, zF]
    refine wpAnyH_take (i := 3) (oi := ?_) (v := ?_) ?_ (by kernel_rfl) (by kernel_rfl) (by kernel_rfl) ?_ (Or.inl ⟨?_, ?_⟩) (by assumption) ?_
    rotate_left 2
    · (simp only [zA, zB, zC]; rfl)
    rotate_left 1
    · rfl
    · (intro w hSw; (try dsimp only at hSw); go_simp; try with_reducible rfl)
    rotate_left 1
    · exact fun _ _ _ h => h
    try simp only [Act.put, zD, zE, zF]
    refine wpAnyH_take (i := 4) (oi := ?_) (v := ?_) ?_ (by kernel_rfl) (by kernel_rfl) (by kernel_rfl) ?_ (Or.inl ⟨?_, ?_⟩) (by assumption) ?_
    rotate_left 2
    · (simp only [zA, zB, zC]; rfl)
    rotate_left 1
    · rfl
    · (intro w hSw; (try dsimp only at hSw); go_simp; try with_reducible rfl)
    rotate_left 1
    · exact fun _ _ _ h => h
    try simp only [Act.put, zD, zE, zF]
    refine wpAnyH_take (i := 5) (oi := ?_) (v := ?_) ?_ (by kernel_rfl) (by kernel_rfl) (by kernel_rfl) ?_ (Or.inl ⟨?_, ?_⟩) (by assumption) ?_
    rotate_left 2
    · (simp only [zA, zB, zC]; rfl)
    rotate_left 1
    · rfl
    · (intro w hSw; (try dsimp only at hSw); go_simp; try with_reducible rfl)
    rotate_left 1
    · exact fun _ _ _ h => h
    try simp only [Act.put, zD, zE, zF]
    refine wpAnyH_take (i := 6) (oi := ?_) (v := ?_) ?_ (by kernel_rfl) (by kernel_rfl) (by kernel_rfl) ?_ (Or.inl ⟨?_, ?_⟩) (by assumption) ?_
    rotate_left 2
    · (simp only [zA, zB, zC]; rfl)
    rotate_left 1
    · rfl
    · (intro w hSw; (try dsimp only at hSw); go_simp; try with_reducible rfl)
    rotate_left 1
    · exact fun _ _ _ h => h
    try simp only [Act.put, zD, zE, zF]
    refine wpAnyH_take (i := 7) (oi := ?_) (v := ?_) ?_ (by kernel_rfl) (by kernel_rfl) (by kernel_rfl) ?_ (Or.inl ⟨?_, ?_⟩) (by assumption) ?_
    rotate_left 2
    · (simp only [zA, zB, zC]; rfl)
    rotate_left 1
    · rfl
    · (intro w hSw; (try dsimp only at hSw); go_simp; try with_reducible rfl)
    rotate_left 1
    · exact fun _ _ _ h => h
    try simp only [Act.put, zD, zE, zF]
    refine wpAnyH_take (i := 8) (oi := ?_) (v := ?_) ?_ (by kernel_rfl) (by kernel_rfl) (by kernel_rfl) ?_ (Or.inl ⟨?_, ?_⟩) (by assumption) ?_
    rotate_left 2
    · (simp only [zA, zB, zC]; rfl)
    rotate_left 1
    · rfl
    · (intro w hSw; (try dsimp only at hSw); go_simp; try with_reducible rfl)
    rotate_left 1
    · exact fun _ _ _ h => h
    try simp only [Act.put, zD, zE, zF]
    refine wpAnyH_take (i := 9) (oi := ?_) (v := ?_) ?_ (by kernel_rfl) (by kernel_rfl) (by kernel_rfl) ?_ (Or.inl ⟨?_, ?_⟩) (by assumption) ?_
    rotate_left 2
    · (simp only [zA, zB, zC]; rfl)
    rotate_left 1
    · rfl
    · (intro w hSw; (try dsimp only at hSw); go_simp; try with_reducible rfl)
    rotate_left 1
    · exact fun _ _ _ h => h
    try simp only [Act.put, zD, zE, zF]
    refine wpAnyH_take (i := 10) (oi := ?_) (v := ?_) ?_ (by kernel_rfl) (by kernel_rfl) (by kernel_rfl) ?_ (Or.inl ⟨?_, ?_⟩) (by assumption) ?_
    rotate_left 2
    · (simp only [zA, zB, zC]; rfl)
    rotate_left 1
    · rfl
    · (intro w hSw; (try dsimp only at hSw); go_simp; try with_reducible rfl)
    rotate_left 1
    · exact fun _ _ _ h => h
    try simp only [Act.put, zD, zE, zF]
    refine wpAnyH_ready (rs := [11]) (by kernel_rfl) (by simp) ?_
    refine AllReadyH.cons (o := ?_) ?_ (fun K hK => ?_) AllReadyH.nil
    rotate_left 1
    · (simp only [zA, zB, zC]; rfl)
    go_simp
    skip
    refine hK.out _ _ ?_ (fun hHeld => ?_)
    · ((try dsimp only); go_keep)
    clear hK K
    try simp only [Act.put, zD, zE, zF]
    refine wpAnyH_ready (rs := [12]) (by kernel_rfl) (by simp) ?_
    refine AllReadyH.cons (o := ?_) ?_ (fun K hK => ?_) AllReadyH.nil
    rotate_left 1
    · (simp only [zA, zB, zC]; rfl)
    go_simp
    skip
    refine hK.out _ _ ?_ (fun hHeld => ?_)
    · ((try dsimp only); go_keep)
    clear hK K
    try simp only [Act.put, zD, zE, zF]
    refine wpAnyH_done (by kernel_rfl) ?_ _
    obtain ⟨w3, hw3⟩ : ∃ w3, (w2.alloc (.cells #[.int .i64 r, .int .i64 c, .bool false] 39)).drew = w3 := ⟨_, rfl⟩
    have hA3 : Blk w3 w2.heap.size 39 #[.int .i64 r, .int .i64 c, .bool false] := by rw [← hw3]; exact (Blk.new w2 _ _).dr
    have hq3 : PenQ w3 I q := by rw [← hw3]; exact (HQ2.out.alloc _).dr
    have hc3 : Chg (PenS I) w w3 := by rw [← hw3]; exact (HC2.out.alloc _).dr
    have hz3 : w2.heap.size < w3.heap.size := by rw [← hw3]; show w2.heap.size < (World.alloc w2 _).heap.size; rw [World.size_alloc]; exact Nat.lt_succ_self _
    have HR3 : Hid (Blk w3 w.heap.size 39 #[.int .i64 0, .int .i64 0, .bool false]) := hide (by rw [← hw3]; exact (HR2.out.alloc _).dr)
    have hz2 : w.heap.size ≤ w2.heap.size := HC2.out.size
    have hzR : w.heap.size < w2.heap.size := HR2.out.lt
    have z0 := hA3.cell 0
    have z1 := hA3.cell 1
    have z2 := hA3.cell 2
    simp only [zA, zB, zC] at z0 z1 z2
    obtain ⟨y0, -⟩ := hq3.cells
    rw [HI.out.1] at y0
    rw [HI.out.2.1] at y0
    have hpl3 := hq3.blk.lt
    rw [HI.out.1] at hpl3
    have hx3 := HX.out.ints_keep (hc3.keep (fun k hk => (HSO.out k hk).2))
    obtain ⟨xr, hxa, hxq, hxl, hup, hpl⟩ := put_row (t := t) hq3 (n := 2) (by omega) HB.out.2.1
    have HROW := hide (fun W6 (h6 : PenQ W6 I q) => pRow_ok h6 HB.out.1)
    have HMP := hide (fun W6 (h6 : PenQ W6 I q) (h7 : Slc (Rep.int .i32) So Si W6 (.slice A t.length cx) t) => by
      obtain ⟨xr, hxa, hxq, hxl, hup, hpl⟩ := put_row (t := t) h6 (n := 2) (by omega) HB.out.2.1
      have hk := HB.out.2.2
      rw [hxa] at hk
      have hP := MPut_ok (I.db q.r) (I.dc q.r) xr.1 xr.2 q.c 2 So Si (.slice A t.length cx) t W6 hxq (by omega) h7 HTX.out (by have := HW2.out; omega) (by rw [hxl]; exact HB.out.2.1) hk.1 hk.2
      unfold ptrB at hP
      rw [HRC.out.2] at hP
      exact hP.mono (fun e w6 hh => (⟨hh.1, by
        have := h6.put h6.r hh.2.2 hh.2.1 hpl
        rw [← hup] at this
        exact this, hh.2.2.mono (PenS.row h6.r)⟩ : e = .returned .nilIface ∧ PenQ w6 I ⟨updR q.rows q.r (paintL q.c (stripF 2 t)), q.r, q.c, q.pd⟩ ∧ Chg (PenS I) W6 w6)))
    rw [HI.out.2.1, HRC.out.1] at HROW
    have HWD := hide (fun W6 (v6 : PenV) (h6 : PenQ W6 I v6) => pWide_ok h6)
    simp only [HI.out.2.1, HI.out.2.2] at HWD
    have HW3 := hide hw3
    have HA3B := hide hA3
    have HQ3 := hide hq3
    have HC3 := hide hc3
    have HX3 := hide hx3
    clear hw3 hA3 hq3 hc3 hx3 hxa hxq hxl hup hpl y1 y2 hHeld
    rw [HW3.out]
    go_upto_region 8 with fail
    refine wp_region_held_drew (S := fun w' => w'.cell? ⟨p, 0, none⟩ = some (.pointer (some ⟨g, 0, none⟩)) ∧ w'.cell? ⟨w2.heap.size, 0, none⟩ = some (.int .i64 r) ∧ w'.cell? ⟨w2.heap.size, 1, none⟩ = some (.int .i64 c)) (by kernel_rfl) (by exact ⟨y0, z0, z1⟩) (fun hHeld => ?_)
    refine wpAnyH_take (i := 0) (oi := ?_) (v := ?_) ?_ (by kernel_rfl) (by kernel_rfl) (by kernel_rfl) ?_ (Or.inl ⟨?_, ?_⟩) (by assumption) ?_
    rotate_left 2
    · (simp only [zA, zB, zC]; rfl)
    rotate_left 1
    · rfl
    · (intro w hSw; (try dsimp only at hSw); go_simp; try with_reducible rfl)
    rotate_left 1
    · exact fun _ _ _ h => h
    try simp only [Act.put, zD, zE, zF]
    refine wpAnyH_take (i := 1) (oi := ?_) (v := ?_) ?_ (by kernel_rfl) (by kernel_rfl) (by kernel_rfl) ?_ (Or.inl ⟨?_, ?_⟩) (by assumption) ?_
    rotate_left 2
    · (simp only [zA, zB, zC]; rfl)
    rotate_left 1
    · rfl
    · (intro w hSw; (try dsimp only at hSw); go_simp; try with_reducible rfl)
    rotate_left 1
    · exact fun _ _ _ h => h
    try simp only [Act.put, zD, zE, zF]
    refine wpAnyH_take (i := 2) (oi := ?_) (v := ?_) ?_ (by kernel_rfl) (by kernel_rfl) (by kernel_rfl) ?_ (Or.inl ⟨?_, ?_⟩) (by assumption) ?_
    rotate_left 2
    · (simp only [zA, zB, zC]; rfl)
    rotate_left 1
    · rfl
    · (intro w hSw; (try dsimp only at hSw); go_simp; try with_reducible rfl)
    rotate_left 1
    · exact fun _ _ _ h => h
    try simp only [Act.put, zD, zE, zF]
    refine wpAnyH_take (i := 3) (oi := ?_) (v := ?_) ?_ (by kernel_rfl) (by kernel_rfl) (by kernel_rfl) ?_ (Or.inl ⟨?_, ?_⟩) (by assumption) ?_
    rotate_left 2
    · (simp only [zA, zB, zC]; rfl)
    rotate_left 1
    · rfl
    · (intro w hSw; (try dsimp only at hSw); go_simp; try with_reducible rfl)
    rotate_left 1
    · exact fun _ _ _ h => h
    try simp only [Act.put, zD, zE, zF]
    refine wpAnyH_take (i := 4) (oi := ?_) (v := ?_) ?_ (by kernel_rfl) (by kernel_rfl) (by kernel_rfl) ?_ (Or.inl ⟨?_, ?_⟩) (by assumption) ?_
    rotate_left 2
    · (simp only [zA, zB, zC]; rfl)
    rotate_left 1
    · rfl
    · (intro w hSw; (try dsimp only at hSw); go_simp; try with_reducible rfl)
    rotate_left 1
    · exact fun _ _ _ h => h
    try simp only [Act.put, zD, zE, zF]
    refine wpAnyH_take (i := 5) (oi := ?_) (v := ?_) ?_ (by kernel_rfl) (by kernel_rfl) (by kernel_rfl) ?_ (Or.inl ⟨?_, ?_⟩) (by assumption) ?_
    rotate_left 2
    · (simp only [zA, zB, zC]; rfl)
    rotate_left 1
    · rfl
    · (intro w hSw; (try dsimp only at hSw); go_simp; try with_reducible rfl)
    rotate_left 1
    · exact fun _ _ _ h => h
    try simp only [Act.put, zD, zE, zF]
    refine wpAnyH_take (i := 7) (oi := ?_) (v := ?_) ?_ (by kernel_rfl) (by kernel_rfl) (by kernel_rfl) ?_ (Or.inl ⟨?_, ?_⟩) (by assumption) ?_
    rotate_left 2
    · (simp only [zA, zB, zC]; rfl)
    rotate_left 1
    · rfl
    · (intro w hSw; (try dsimp only at hSw); go_simp; try with_reducible rfl)
    rotate_left 1
    · exact fun _ _ _ h => h
    try simp only [Act.put, zD, zE, zF]
    refine wpAnyH_take (i := 8) (oi := ?_) (v := ?_) ?_ (by kernel_rfl) (by kernel_rfl) (by kernel_rfl) ?_ (Or.inl ⟨?_, ?_⟩) (by assumption) ?_
    rotate_left 2
    · (simp only [zA, zB, zC]; rfl)
    rotate_left 1
    · rfl
    · (intro w hSw; (try dsimp only at hSw); go_simp; try with_reducible rfl)
    rotate_left 1
    · exact fun _ _ _ h => h
    try simp only [Act.put, zD, zE, zF]
    refine wpAnyH_take (i := 9) (oi := ?_) (v := ?_) ?_ (by kernel_rfl) (by kernel_rfl) (by kernel_rfl) ?_ (Or.inl ⟨?_, ?_⟩) (by assumption) ?_
    rotate_left 2
    · (simp only [zA, zB, zC]; rfl)
    rotate_left 1
    · rfl
    · (intro w hSw; (try dsimp only at hSw); go_simp; try with_reducible rfl)
    rotate_left 1
    · exact fun _ _ _ h => h
    try simp only [Act.put, zD, zE, zF]
    refine wpAnyH_take (i := 10) (oi := ?_) (v := ?_) ?_ (by kernel_rfl) (by kernel_rfl) (by kernel_rfl) ?_ (Or.inl ⟨?_, ?_⟩) (by assumption) ?_
    rotate_left 2
    · (simp only [zA, zB, zC]; rfl)
    rotate_left 1
    · rfl
    · (intro w hSw; (try dsimp only at hSw); go_simp; try with_reducible rfl)
    rotate_left 1
    · exact fun _ _ _ h => h
    try simp only [Act.put, zD, zE, zF]
    refine wpAnyH_ready (rs := [6]) (by kernel_rfl) (by simp) ?_
    refine AllReadyH.cons (o := ?_) ?_ (fun K hK => ?_) AllReadyH.nil
    rotate_left 1
    · (simp only [zA, zB, zC]; rfl)
    go_simp
    (go_at_call 50; refine (HROW.out _ HQ3.out.dr).mono ?_; rintro e w' ⟨rfl, rfl⟩)
    refine hK.out _ _ ?_ (fun hHeld => ?_)
    · ((try dsimp only); go_keep)
    clear hK K
    try simp only [Act.put, zD, zE, zF]
    refine wpAnyH_ready (rs := [11]) (by kernel_rfl) (by simp) ?_
    refine AllReadyH.cons (o := ?_) ?_ (fun K hK => ?_) AllReadyH.nil
    rotate_left 1
    · (simp only [zA, zB, zC]; rfl)
    go_simp
    (go_at_call 194; refine (HMP.out _ HQ3.out.dr (HX3.out.ints_keep (keep_dr _ _))).mono ?_; rintro e w4 ⟨rfl, hq4, hc4⟩; obtain ⟨y0, -, -, -, y4⟩ := hq4.cells; rw [HI.out.1] at y0 y4; rw [HI.out.2.1] at y0; have ha4 := hc4.blk HA3B.out.dr (fun e => by have := HSL.out _ e; omega); have z0 := ha4.cell 0; have z1 := ha4.cell 1; have z2 := ha4.cell 2; simp only [zA, zB, zC] at z0 z1 z2; have HQ4 := hide hq4; have HC4 := hide (((HC3.out.dr).trans hc4)); have HA4 := hide ha4; have HR4 := hide (hc4.blk HR3.out.dr (fun e => by have := HSL.out _ e; omega)); clear hq4 hc4 ha4)
    refine hK.out _ _ ?_ (fun hHeld => ?_)
    · ((try dsimp only); go_keep)
    clear hK K
    try simp only [Act.put, zD, zE, zF]
    refine wpAnyH_done (by kernel_rfl) ?_ _
    clear hHeld
    go_upto_region 9 with fail
    refine wp_region_late (S := fun w' => w'.cell? ⟨p, 0, none⟩ = some (.pointer (some ⟨g, 0, none⟩)) ∧ w'.cell? ⟨p, 4, none⟩ = some (.bool true) ∧ w'.cell? ⟨w2.heap.size, 0, none⟩ = some (.int .i64 r) ∧ w'.cell? ⟨w2.heap.size, 1, none⟩ = some (.int .i64 c) ∧ w'.cell? ⟨w2.heap.size, 2, none⟩ = some (.bool false)) [15] (by kernel_rfl) (by exact ⟨y0, y4, z0, z1, z2⟩) (fun hHeld => ?_)
    refine wpAnyT_take (i := 0) (oi := ?_) (v := ?_) ?_ (by kernel_rfl) (by kernel_rfl) (by kernel_rfl) (by kernel_rfl) (by kernel_rfl) ?_ (Or.inl ⟨?_, ?_⟩) (by assumption) ?_
    rotate_left 2
    · (simp only [zA, zB, zC]; rfl)
    rotate_left 1
    · rfl
    · (intro w hSw; (try dsimp only at hSw); go_simp; try with_reducible rfl)
    rotate_left 1
    · exact fun _ _ _ h => h
    try simp only [Act.put, zD, zE, zF]
    refine wpAnyT_take (i := 1) (oi := ?_) (v := ?_) ?_ (by kernel_rfl) (by kernel_rfl) (by kernel_rfl) (by kernel_rfl) (by kernel_rfl) ?_ (Or.inl ⟨?_, ?_⟩) (by assumption) ?_
    rotate_left 2
    · (simp only [zA, zB, zC]; rfl)
    rotate_left 1
    · rfl
    · (intro w hSw; (try dsimp only at hSw); go_simp; try with_reducible rfl)
    rotate_left 1
    · exact fun _ _ _ h => h
    try simp only [Act.put, zD, zE, zF]
    refine wpAnyT_take (i := 2) (oi := ?_) (v := ?_) ?_ (by kernel_rfl) (by kernel_rfl) (by kernel_rfl) (by kernel_rfl) (by kernel_rfl) ?_ (Or.inl ⟨?_, ?_⟩) (by assumption) ?_
    rotate_left 2
    · (simp only [zA, zB, zC]; rfl)
    rotate_left 1
    · rfl
    · (intro w hSw; (try dsimp only at hSw); go_simp; try with_reducible rfl)
    rotate_left 1
    · exact fun _ _ _ h => h
    try simp only [Act.put, zD, zE, zF]
    refine wpAnyT_take (i := 3) (oi := ?_) (v := ?_) ?_ (by kernel_rfl) (by kernel_rfl) (by kernel_rfl) (by kernel_rfl) (by kernel_rfl) ?_ (Or.inl ⟨?_, ?_⟩) (by assumption) ?_
    rotate_left 2
    · (simp only [zA, zB, zC]; rfl)
    rotate_left 1
    · rfl
    · (intro w hSw; (try dsimp only at hSw); go_simp; try with_reducible rfl)
    rotate_left 1
    · exact fun _ _ _ h => h
    try simp only [Act.put, zD, zE, zF]
    refine wpAnyT_take (i := 4) (oi := ?_) (v := ?_) ?_ (by kernel_rfl) (by kernel_rfl) (by kernel_rfl) (by kernel_rfl) (by kernel_rfl) ?_ (Or.inl ⟨?_, ?_⟩) (by assumption) ?_
    rotate_left 2
    · (simp only [zA, zB, zC]; rfl)
    rotate_left 1
    · rfl
    · (intro w hSw; (try dsimp only at hSw); go_simp; try with_reducible rfl)
    rotate_left 1
    · exact fun _ _ _ h => h
    try simp only [Act.put, zD, zE, zF]
    refine wpAnyT_take (i := 5) (oi := ?_) (v := ?_) ?_ (by kernel_rfl) (by kernel_rfl) (by kernel_rfl) (by kernel_rfl) (by kernel_rfl) ?_ (Or.inl ⟨?_, ?_⟩) (by assumption) ?_
    rotate_left 2
    · (simp only [zA, zB, zC]; rfl)
    rotate_left 1
    · rfl
    · (intro w hSw; (try dsimp only at hSw); go_simp; try with_reducible rfl)
    rotate_left 1
    · exact fun _ _ _ h => h
    try simp only [Act.put, zD, zE, zF]
    refine wpAnyT_take (i := 6) (oi := ?_) (v := ?_) ?_ (by kernel_rfl) (by kernel_rfl) (by kernel_rfl) (by kernel_rfl) (by kernel_rfl) ?_ (Or.inl ⟨?_, ?_⟩) (by assumption) ?_
    rotate_left 2
    · (simp only [zA, zB, zC]; rfl)
    rotate_left 1
    · rfl
    · (intro w hSw; (try dsimp only at hSw); go_simp; try with_reducible rfl)
    rotate_left 1
    · exact fun _ _ _ h => h
    try simp only [Act.put, zD, zE, zF]
    refine wpAnyT_take (i := 8) (oi := ?_) (v := ?_) ?_ (by kernel_rfl) (by kernel_rfl) (by kernel_rfl) (by kernel_rfl) (by kernel_rfl) ?_ (Or.inl ⟨?_, ?_⟩) (by assumption) ?_
    rotate_left 2
    · (simp only [zA, zB, zC]; rfl)
    rotate_left 1
    · rfl
    · (intro w hSw; (try dsimp only at hSw); go_simp; try with_reducible rfl)
    rotate_left 1
    · exact fun _ _ _ h => h
    try simp only [Act.put, zD, zE, zF]
    refine wpAnyT_take (i := 9) (oi := ?_) (v := ?_) ?_ (by kernel_rfl) (by kernel_rfl) (by kernel_rfl) (by kernel_rfl) (by kernel_rfl) ?_ (Or.inl ⟨?_, ?_⟩) (by assumption) ?_
    rotate_left 2
    · (simp only [zA, zB, zC]; rfl)
    rotate_left 1
    · rfl
    · (intro w hSw; (try dsimp only at hSw); go_simp; try with_reducible rfl)
    rotate_left 1
    · exact fun _ _ _ h => h
    try simp only [Act.put, zD, zE, zF]
    refine wpAnyT_take (i := 10) (oi := ?_) (v := ?_) ?_ (by kernel_rfl) (by kernel_rfl) (by kernel_rfl) (by kernel_rfl) (by kernel_rfl) ?_ (Or.inl ⟨?_, ?_⟩) (by assumption) ?_
    rotate_left 2
    · (simp only [zA, zB, zC]; rfl)
    rotate_left 1
    · rfl
    · (intro w hSw; (try dsimp only at hSw); go_simp; try with_reducible rfl)
    rotate_left 1
    · exact fun _ _ _ h => h
    try simp only [Act.put, zD, zE, zF]
    refine wpAnyT_take (i := 11) (oi := ?_) (v := ?_) ?_ (by kernel_rfl) (by kernel_rfl) (by kernel_rfl) (by kernel_rfl) (by kernel_rfl) ?_ (Or.inl ⟨?_, ?_⟩) (by assumption) ?_
    rotate_left 2
    · (simp only [zA, zB, zC]; rfl)
    rotate_left 1
    · rfl
    · (intro w hSw; (try dsimp only at hSw); go_simp; try with_reducible rfl)
    rotate_left 1
    · exact fun _ _ _ h => h
    try simp only [Act.put, zD, zE, zF]
    refine wpAnyT_ready (rs := [7]) (by kernel_rfl) (by simp) ?_
    refine AllReadyT.cons (o := ?_) ?_ (fun K hK => ?_) AllReadyT.nil
    rotate_left 1
    · (simp only [zA, zB, zC]; rfl)
    go_simp
    (go_at_call 26; refine (HWD.out _ _ HQ4.out.dr).mono ?_; rintro e w' ⟨rfl, rfl⟩)
    refine hK.out _ _ ?_ (fun hHeld => ?_)
    · ((try dsimp only); go_keep)
    clear hK K
    try simp only [Act.put, zD, zE, zF]
    refine wpAnyT_ready (rs := [12]) (by kernel_rfl) (by simp) ?_
    refine AllReadyT.cons (o := ?_) ?_ (fun K hK => ?_) AllReadyT.nil
    rotate_left 1
    · (simp only [zA, zB, zC]; rfl)
    go_simp
    (go_at_call 195; refine (HAN.out _).mono ?_; rintro e w5 ⟨rfl, hb5⟩; have hq5 := HQ4.out.dr.below hb5; obtain ⟨y0, y1, y2, y3, y4⟩ := hq5.cells; have f1 := hq5.blk.frozen 1; have f2 := hq5.blk.frozen 2; have f3 := hq5.blk.frozen 3; have hlp := hq5.blk.lt; rw [HI.out.1] at y0 y1 y2 y3 y4 f1 f2 f3 hlp; rw [HI.out.2.1] at y0; have ha5 := HA4.out.dr.same hb5; have z0 := ha5.cell 0; have z1 := ha5.cell 1; have z2 := ha5.cell 2; simp only [zA, zB, zC] at z0 z1 z2; have HQ5 := hide hq5; have HC5 := hide ((HC4.out.dr).trans (Chg.of_below hb5)); have HA5 := hide ha5; have HR5 := hide (HR4.out.dr.same hb5); clear hq5 hb5 ha5)
    refine hK.out _ _ ?_ (fun hHeld => ?_)
    · ((try dsimp only); go_keep)
    clear hK K
    try simp only [Act.put, zD, zE, zF]
    refine wpAnyT_take (i := 13) (oi := ?_) (v := ?_) ?_ (by kernel_rfl) (by kernel_rfl) (by kernel_rfl) (by kernel_rfl) (by kernel_rfl) ?_ (Or.inl ⟨?_, ?_⟩) (by assumption) ?_
    rotate_left 2
    · (simp only [zA, zB, zC]; rfl)
    rotate_left 1
    · rfl
    · (intro w hSw; (try dsimp only at hSw); go_simp; try with_reducible rfl)
    rotate_left 1
    · exact fun _ _ _ h => h
    try simp only [Act.put, zD, zE, zF]
    refine wpAnyT_take (i := 14) (oi := ?_) (v := ?_) ?_ (by kernel_rfl) (by kernel_rfl) (by kernel_rfl) (by kernel_rfl) (by kernel_rfl) ?_ (Or.inl ⟨?_, ?_⟩) (by assumption) ?_
    rotate_left 2
    · (simp only [zA, zB, zC]; rfl)
    rotate_left 1
    · rfl
    · (intro w hSw; (try dsimp only at hSw); go_simp; try with_reducible rfl)
    rotate_left 1
    · exact fun _ _ _ h => h
    try simp only [Act.put, zD, zE, zF]
    refine wpAnyT_ready (rs := [15]) (by kernel_rfl) (by simp) ?_
    refine AllReadyT.consL (o := ?_) ?_ (by kernel_rfl) (fun K hK => ?_) AllReadyT.nil
    rotate_left 1
    · (simp only [zA, zB, zC]; rfl)
    go_simp
    refine hK.out _ _ ?_
    clear hK K
    try simp only [Act.put, zD, zE, zF]
    refine wpAnyT_done (by kernel_rfl) ?_ _
    obtain ⟨s1, s2⟩ := HQ5.out.store3 (r := a1) (c := a2) (pd := a3) HAF.out.1 HAF.out.2.1 HAF.out.2.2
    rw [HI.out.1] at s1 s2
    obtain ⟨w6, hw6⟩ : ∃ w6, ((w5.setCell ⟨p, 1, none⟩ (.int .i64 a1)).setCell ⟨p, 2, none⟩ (.int .i64 a2)).setCell ⟨p, 3, none⟩ (.bool a3) = w6 := ⟨_, rfl⟩
    have hpw : p < w.heap.size := HSL.out p (.inl HI.out.1.symm)
    have hr6 : Blk w6 w.heap.size 39 #[.int .i64 0, .int .i64 0, .bool false] := by rw [← hw6]; exact ((HR5.out.far (p := ⟨p, 1, none⟩) (by show w.heap.size ≠ p; omega) _).far (p := ⟨p, 2, none⟩) (by show w.heap.size ≠ p; omega) _).far (p := ⟨p, 3, none⟩) (by show w.heap.size ≠ p; omega) _
    have ha6 : Blk w6 w2.heap.size 39 #[.int .i64 r, .int .i64 c, .bool false] := by rw [← hw6]; exact ((HA5.out.far (p := ⟨p, 1, none⟩) (by show w2.heap.size ≠ p; omega) _).far (p := ⟨p, 2, none⟩) (by show w2.heap.size ≠ p; omega) _).far (p := ⟨p, 3, none⟩) (by show w2.heap.size ≠ p; omega) _
    rw [hw6] at s1 s2
    have HS1 := hide s1
    have HC6 := hide (HC5.out.trans (s2.mono (fun k hk => .inl (hk.trans HI.out.1.symm))))
    have z0 := ha6.cell 0
    have z1 := ha6.cell 1
    have z2 := ha6.cell 2
    have v0 := hr6.cell 0
    have v1 := hr6.cell 1
    have v2 := hr6.cell 2
    have u0 := hr6.frozen 0
    have u1 := hr6.frozen 1
    have u2 := hr6.frozen 2
    simp only [zA, zB, zC] at z0 z1 z2 v0 v1 v2
    have HR6 := hide hr6
    have HW6 := hide hw6
    clear s1 s2 hr6 ha6 hw6 hHeld y0 y1 y2 y3 y4 f1 f2 f3 hlp
    rw [HW6.out]
    go_wp2
    have hx := ((HR6.out.set_ 0 (.int .i64 r)).set_ 1 (.int .i64 c)).set_ 2 (.bool false)
    have x0 := hx.cell 0
    have x1 := hx.cell 1
    have x2 := hx.cell 2
    simp only [zD, zE, zF, zA, zB, zC] at x0 x1 x2
    have hR : Chg (· = w.heap.size) w6 (((w6.setCell ⟨w.heap.size, 0, none⟩ (.int .i64 r)).setCell ⟨w.heap.size, 1, none⟩ (.int .i64 c)).setCell ⟨w.heap.size, 2, none⟩ (.bool false)) := (((Chg.refl (· = w.heap.size) w6).set (p := ⟨w.heap.size, 0, none⟩) (.inl rfl) _).set (p := ⟨w.heap.size, 1, none⟩) (.inl rfl) _).set (p := ⟨w.heap.size, 2, none⟩) (.inl rfl) _
    have hpq := HS1.out.chg hR (Alien.one HR6.out (by decide))
    have hfin : res = ⟨updR q.rows q.r (paintL q.c (stripF 2 t)), a1, a2, a3⟩ := by
      rw [HPP.out]
      unfold penOf
      rw [HA3.out.1, HA3.out.2.1, HA3.out.2.2]
    rw [← hfin] at hpq
    refine bodyPost_ret (v := .agg #[.int .i64 r, .int .i64 c, .bool false]) (by simp [results, Tryz.results166, go_sem, x0, x1, x2]) rfl ⟨rfl, hpq, HC6.out.next hR (fun k hk => .inr (by subst hk; exact Nat.le_refl _))⟩
end Go.Proofs.YtdjpdllehhecpaaGreatDoor
namespace Go.Proofs.YtdjpdllehhecpaaGreatDoor
open Go.RowKit
set_option linter.unusedVariables false
set_option linter.unusedSimpArgs false
theorem text_len : ∀ (l : List CellV), (∀ c ∈ l, c.2.length ≤ 16) → (textF l).length ≤ 16 * l.length
  | [], _ => by simp [textF]
  | c :: l, h => by
    have ih := text_len l (fun d hd => h d (List.mem_cons.2 (.inr hd)))
    have h1 := h c (List.mem_cons.2 (.inl rfl))
    unfold textF at ih ⊢
    rw [List.flatMap_cons, List.length_append, List.length_cons]
    omega
theorem text_take (l : List CellV) (k : Nat) (h : k < l.length) : textF (l.take (k + 1)) = textF (l.take k) ++ l[k].2 := by
  unfold textF
  rw [take_snoc' l k h, List.flatMap_append]; simp
theorem take_short {l : List CellV} (h : ∀ c ∈ l, c.2.length ≤ 16) (k : Nat) : ∀ c ∈ l.take k, c.2.length ≤ 16 := fun c hc => h c (List.mem_of_mem_take hc)
set_option maxHeartbeats 1000000 in
theorem Text_ok (base : Nat) (v : Value) (l : List CellV) (wrap : Bool) (w : World) (h : RowIs base w v l wrap) (hlen : l.length ≤ 100000) (htx : ∀ c ∈ l, c.2.length ≤ 16) :
    Calls Tryz.prog 14 #[v] w fun e w' => ∃ s, e = .returned s ∧ Own (Rep.int .i32) 21 [] w.heap.size w' s (textF l) ∧ Below w.heap.size w w' := by
  have HH := hide h
  obtain ⟨g0, s0, rfl, _, _, _⟩ := h
  have HTX := hide htx
  clear htx
  go_enter Tryz.func14, Tryz.ntmps14
  go_wp2_with fail
  refine (Cells_ok _ _ _ _ _ HH.out hlen HTX.out).mono ?_
  rintro e w1 ⟨v1, rfl, hv1, hb1⟩
  have hz1 := hb1.size
  obtain ⟨A1, c1, rfl, _, _, _⟩ := hv1.slc.open_
  go_wp2
  go_loopw [3, 9] (fun out i wr => ∃ k : Nat, k ≤ l.length ∧ i = .int .i64 k ∧ Own (Rep.int .i32) 21 [] w1.heap.size wr out (textF (l.take k)) ∧ Below w1.heap.size w1 wr) (fun _ i _ => l.length - (intOf i).toNat)
  case atStart => exact ⟨0, Nat.zero_le _, rfl, Own.nil_ _ _ _ _ _ (by decide), Below.refl _ _⟩
  case round =>
    obtain ⟨k, hk, rfl, hout, hbel⟩ := hrel
    have hsz := hbel.size
    by_cases hlt : k < l.length
    · have hv1r := hv1.below hbel
      obtain ⟨ab, off, v2, rfl, hab, q0, q1, hw, hv⟩ := cell_at hv1r.slc.slb hlt
      have hsn := text_take l k hlt
      have HSN := hide hsn
      have hln := HTX.out l[k] (List.getElem_mem _)
      have htl := text_len _ (take_short HTX.out k)
      have htl2 : (l.take k).length ≤ k := List.length_take_le _ _
      clear hsn
      have hv2 := hv.flat_any (Flat.int .i32) (fun _ => False)
      obtain ⟨A2, c2, rfl, _, _, _⟩ := hv.open_
      have hout2 := hout.alloc (.cells #[.int .i64 l[k].1, .slice A2 l[k].2.length c2] 86)
      have hv3 := hv2.mono (Keep.alloc _ wr (.cells #[.int .i64 l[k].1, .slice A2 l[k].2.length c2] 86)) (Keep.alloc _ wr (.cells #[.int .i64 l[k].1, .slice A2 l[k].2.length c2] 86))
      go_wp2_with (at_builtin; refine wpList_appg rfl (.tmp 13) (.tmp 15) 24 rfl (Rep.int .i32) 21 [] w1.heap.size 4 _ Tryz.underlying24 i32_info rfl (by decide) (by decide) _ _ rfl hout2 _ _ _ _ rfl hv3 (fun _ h => h.elim) (by omega) (by simp; omega) ?_; intro v5 w5 hv5 hst5 hg5 hob5)
      go_roundw
      case rel => exact ⟨k + 1, by omega, by go_num, by rw [HSN.out]; exact hv5, (hbel.alloc hsz _).trans (hst5.below (by simp; omega))⟩
      case measure => simp [intOf]; omega
    · have e : l.take k = l := List.take_of_length_le (by omega)
      rw [e] at hout
      go_wp2
      go_ret
      exact ⟨_, rfl, hout.flat_base (Flat.int .i32) hz1 (by decide), hb1.trans (hbel.mono hz1)⟩
end Go.Proofs.YtdjpdllehhecpaaGreatDoor
