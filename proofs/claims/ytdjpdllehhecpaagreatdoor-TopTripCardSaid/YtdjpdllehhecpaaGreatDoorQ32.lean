import Derived.Test.YtdjpdllehhecpaaGreatDoorQ31
import Derived.Test.YtdjpdllehhecpaaGreatDoorQ09
import Derived.Test.YtdjpdllehhecpaaGreatDoorQ27
import Derived.Test.YtdjpdllehhecpaaGreatDoorQ30
import Derived.Deep.Cut
import Derived.Deep.RegionHeld3
open List renaming getElem?_toArray → zA, getElem?_cons_succ → zB, getElem?_cons_zero → zC, setIfInBounds_toArray → zD, set_cons_zero → zE, set_cons_succ → zF
namespace Go.Proofs.YtdjpdllehhecpaaGreatDoor
open Go.RowKit
set_option linter.unusedVariables false
set_option linter.unusedSimpArgs false
set_option maxHeartbeats 8000000 in
theorem JoinW_ok (I : Ids) (v : PenV) (o r0 c0 n : Nat) (cs : Array Value) (t : List Int) (r : Int) (w : World) (h : PenQ w I v) (hB : Blk w o 213 cs) (hO : OpnC cs r0 c0 n t) (hl : t.length < 16) (hv : validB r = true) (hne : n ≠ widthF propF (t ++ [r]))
    (hmore : r0 < I.h ∧ c0 < I.W) (htx : TxOk (t ++ [r])) (hP : PutOk I.W I.h (widthF propF (t ++ [r])) ⟨v.rows, r0, c0, false⟩) :
    Calls Tryz.prog 127 #[ptrB o, ptrB I.p, .int .i32 r, propA (propF r)] w fun e w' => e = .returned (.bool true) ∧ PenQ w' I (putP I.W (widthF propF (t ++ [r])) (t ++ [r]) ⟨v.rows, r0, c0, false⟩) ∧
      (∃ cs', Blk w' o 213 cs' ∧ OpnC cs' (roomP I.W (widthF propF (t ++ [r])) ⟨v.rows, r0, c0, false⟩).r (roomP I.W (widthF propF (t ++ [r])) ⟨v.rows, r0, c0, false⟩).c (widthF propF (t ++ [r])) (t ++ [r])) ∧ Chg (fun k => PenS I k ∨ k = o) w w' := by
  have hpk := propF_ok r
  have hwf : (Lit.int .i32 r).wf = true := by have := (validB_iff r).1 hv; exact wf_i32 (by omega) (by omega)
  have HFULL := hide (fun (W : World) (hW : Blk W o 213 cs) => by
    have := cFull_ok o 4 _ cs t W hW hO.g.text
    rw [decide_eq_false (by omega)] at this
    exact this)
  have HADD := hide (fun (W : World) (hW : Blk W o 213 cs) => wAdd_ok o cs t r W hW hO.g hl hv)
  have hwd := widthF_or propF (t ++ [r])
  obtain ⟨n', hn'⟩ : ∃ n', widthF propF (t ++ [r]) = n' := ⟨_, rfl⟩
  have HNN := hide hn'
  rw [hn'] at HADD hP hwd hne ⊢
  have HPUT := hide (fun (So Si : Nat → Prop) x W (hW : PenQ W I ⟨v.rows, r0, c0, false⟩) hx hSo => Put_ok I ⟨v.rows, r0, c0, false⟩ n' hwd So Si x (t ++ [r]) W hW hP htx hx hSo)
  obtain ⟨q, hq⟩ : ∃ q, roomP I.W n' ⟨v.rows, r0, c0, false⟩ = q := ⟨_, rfl⟩
  obtain ⟨res, hres⟩ : ∃ res, putP I.W n' (t ++ [r]) ⟨v.rows, r0, c0, false⟩ = res := ⟨_, rfl⟩
  rw [hq, hres] at HPUT ⊢
  obtain ⟨p, hp⟩ : ∃ p, I.p = p := ⟨_, rfl⟩
  obtain ⟨g, hg⟩ : ∃ g, I.g = g := ⟨_, rfl⟩
  obtain ⟨N, hN⟩ : ∃ N : Int, (n : Int) = N := ⟨_, rfl⟩
  obtain ⟨N', hN'⟩ : ∃ N' : Int, (n' : Int) = N' := ⟨_, rfl⟩
  obtain ⟨ar, har⟩ : ∃ x : Int, (r0 : Int) = x := ⟨_, rfl⟩
  obtain ⟨ac, hac⟩ : ∃ x : Int, (c0 : Int) = x := ⟨_, rfl⟩
  obtain ⟨qr, hqr⟩ : ∃ x : Int, (q.r : Int) = x := ⟨_, rfl⟩
  obtain ⟨qc, hqc⟩ : ∃ x : Int, (q.c : Int) = x := ⟨_, rfl⟩
  have HQI := hide (And.intro hqr hqc)
  have hNe : (N' == N) = false := by rw [beq_eq_false_iff_ne]; omega
  have HI := hide (And.intro hp (And.intro hg (And.intro hN (And.intro hN' (And.intro har hac)))))
  have HSL := hide (fun k (hk : PenS I k) => h.sLt hk)
  have hoS : ¬ PenS I o := fun e => by
    obtain ⟨t', cs', hb', hn⟩ := h.alien (T := [213]) (by decide) o e
    have := hb'.typ hB
    subst this
    exact hn (by simp)
  have HOS := hide hoS
  have hq0 := h.alloc (.cells #[.int .i64 (propF r).brk, .bool (propF r).pict, .int .i64 (propF r).conj, .int .i64 (propF r).east] 108)
  have hb0 := hB.alloc (.cells #[.int .i64 (propF r).brk, .bool (propF r).pict, .int .i64 (propF r).conj, .int .i64 (propF r).east] 108)
  have hp0 := Blk.new w 108 #[.int .i64 (propF r).brk, .bool (propF r).pict, .int .i64 (propF r).conj, .int .i64 (propF r).east]
  obtain ⟨pp, hpp⟩ : ∃ pp, propF r = pp := ⟨_, rfl⟩
  rw [hpp] at HADD hq0 hb0 hp0 ⊢
  obtain ⟨brk, pict, conj, east⟩ := pp
  unfold propA at HADD ⊢
  simp only [propL] at HADD hq0 hb0 hp0 ⊢
  obtain ⟨y0, -⟩ := hq0.cells
  rw [hp] at y0
  rw [hg] at y0
  have z0 := hp0.cell 0
  have z1 := hp0.cell 1
  have z2 := hp0.cell 2
  have z3 := hp0.cell 3
  simp only [zA, zB, zC] at z0 z1 z2 z3
  have u3 := (hb0.cell 3).trans hO.wide
  rw [hN] at u3
  have hpl := hq0.blk.lt
  rw [hp] at hpl
  have hol := hB.lt
  have HQ0 := hide hq0
  have HB0 := hide hb0
  have HOC := hide hO
  have HWW := hide (And.intro h.w2 h.w1)
  have HMR := hide hmore
  simp only [hN'] at HADD HPUT
  simp only [hqr, hqc] at HPUT
  unfold ptrB at HADD HPUT ⊢
  unfold curA at HPUT
  simp only [hp] at HPUT ⊢
  clear hpk hv htx hP hq hres hp hg hN hN' hqr hqc h hpp hwd hne hn' hB hO hoS hq0 hb0 hp0 har hac hmore hl
  go_enter Tryz.func127, Tryz.ntmps127
  go_wp2_with fail
  refine (HFULL.out _ HB0.out).mono ?_
  rintro e w1 ⟨rfl, rfl⟩
  go_wp2_with fail
  refine (HADD.out _ HB0.out).mono ?_
  rintro e w2 ⟨rfl, ⟨cs2, hB2, hG2, hold2⟩, hgr2⟩
  have k3 := ((hB2.cell 3).trans (hold2 3 (by omega))).trans HOC.out.wide
  have f3 := hB2.frozen 3
  have hc2 : Chg (fun k => PenS I k ∨ k = o) w w2 := ((Chg.refl _ w).alloc _).trans (Chg.of_gb hgr2 (.inr rfl))
  have hq2 := HQ0.out.chg (Chg.of_gb (S := (· = o)) hgr2 rfl) (Alien.one HB0.out (by decide))
  have HOLD := hide hold2
  have HB2 := hide hB2
  have HG2 := hide hG2
  have HC2 := hide hc2
  have HQ2 := hide hq2
  clear hB2 hG2 hold2 hgr2 hc2 hq2 z0 z1 z2 z3 u3 y0
  go_upto_region 5 with fail
  obtain ⟨w3, hw3⟩ : ∃ w3, w2.setCell ⟨o, 3, none⟩ (.int .i64 N') = w3 := ⟨_, rfl⟩
  have hB3 : Blk w3 o 213 (cs2.setIfInBounds 3 (.int .i64 N')) := by rw [← hw3]; exact HB2.out.set_ 3 _
  have hs3 : Chg (· = o) w2 w3 := by rw [← hw3]; exact (Chg.refl (· = o) w2).set (p := ⟨o, 3, none⟩) (.inl rfl) _
  have hq3 := HQ2.out.chg hs3 (Alien.one HB2.out (by decide))
  have HG3 := hide (HG2.out.set (i := 3) (by omega) (.int .i64 N'))
  have HC3 := hide (HC2.out.trans (hs3.mono (fun k hk => .inr hk)))
  have hsz3 : 3 < cs2.size := by rw [HG2.out.size]; decide
  have k3 := hB3.cell 3
  rw [Array.getElem?_setIfInBounds, if_pos rfl, if_pos hsz3] at k3
  have k0 := hB3.cell 0
  have k1 := hB3.cell 1
  have k2 := hB3.cell 2
  rw [Array.getElem?_setIfInBounds, if_neg (by decide), HOLD.out _ (by omega)] at k0 k1 k2
  rw [HOC.out.row, HI.out.2.2.2.2.1] at k0
  rw [HOC.out.col, HI.out.2.2.2.2.2] at k1
  rw [HOC.out.pd] at k2
  obtain ⟨y0, y1, y2, y3, y4⟩ := hq3.cells
  have g1 := hq3.blk.frozen 1
  have g2 := hq3.blk.frozen 2
  have g3 := hq3.blk.frozen 3
  have hpl3 := hq3.blk.lt
  rw [HI.out.1] at y0 y1 y2 y3 y4 g1 g2 g3 hpl3
  rw [HI.out.2.1] at y0
  have HB3 := hide hB3
  have HQ3 := hide hq3
  have HW3 := hide hw3
  have hol3 := hB3.lt
  clear hB3 hs3 hw3 f3 hq3
  rw [HW3.out]
  go_upto_region 7 with fail
  obtain ⟨s1, s2⟩ := HQ3.out.store3 (r := r0) (c := c0) (pd := false) HMR.out.1 HMR.out.2 (fun e => by cases e)
  rw [HI.out.1, HI.out.2.2.2.2.1, HI.out.2.2.2.2.2] at s1 s2
  obtain ⟨w4, hw4⟩ : ∃ w4, ((w3.setCell ⟨p, 1, none⟩ (.int .i64 ar)).setCell ⟨p, 2, none⟩ (.int .i64 ac)).setCell ⟨p, 3, none⟩ (.bool false) = w4 := ⟨_, rfl⟩
  rw [hw4] at s1 s2
  have hop : o ≠ p := fun e => HOS.out (by rw [e]; exact .inl HI.out.1.symm)
  have hB4 := s2.blk HB3.out hop
  have k3 := hB4.cell 3
  rw [Array.getElem?_setIfInBounds, if_pos rfl, if_pos hsz3] at k3
  have hol4 := hB4.lt
  have HTX := hide (cText_ok o 4 _ _ (t ++ [r]) w4.drew hB4.dr HG3.out.text)
  have HB4 := hide hB4
  have HQ4 := hide s1
  have HC4 := hide (HC3.out.trans (s2.mono (fun k hk => .inl (.inl (hk.trans HI.out.1.symm)))))
  have HW4 := hide hw4
  clear s1 s2 hw4 hB4 y0 y1 y2 y3 y4 g1 g2 g3 k0 k1 k2
  rw [HW4.out]
  refine wp_region_late (S := fun w' => w'.cell? ⟨o, 3, none⟩ = some (.int .i64 N')) [13] (by kernel_rfl) (by exact k3) (fun hHeld => ?_)
  refine wpAnyT_take (i := 0) (oi := ?_) (v := ?_) ?_ (by kernel_rfl) (by kernel_rfl) (by kernel_rfl) (by kernel_rfl) (by kernel_rfl) ?_ (Or.inl ⟨?_, ?_⟩) (by assumption) ?_
  rotate_left 2
  · (simp only [zA, zB, zC]; rfl)
  rotate_left 1
  · rfl
  · (intro w hSw; (try dsimp only at hSw); go_simp; try with_reducible rfl)
  rotate_left 1
  · exact fun _ _ _ h => h
  try simp only [Act.put, zD, zE, zF]
  refine wpAnyT_take (i := 1) (oi := ?_) (v := ?_) ?_ (by kernel_rfl) (by kernel_rfl) (by kernel_rfl) (by kernel_rfl) (by kernel_rfl) ?_ (Or.inl ⟨?_, ?_⟩) (by assumption) ?_
  rotate_left 2
  · (simp only [zA, zB, zC]; rfl)
  rotate_left 1
  · rfl
  · (intro w hSw; (try dsimp only at hSw); go_simp; try with_reducible rfl)
  rotate_left 1
  · exact fun _ _ _ h => h
  try simp only [Act.put, zD, zE, zF]
  refine wpAnyT_take (i := 2) (oi := ?_) (v := ?_) ?_ (by kernel_rfl) (by kernel_rfl) (by kernel_rfl) (by kernel_rfl) (by kernel_rfl) ?_ (Or.inl ⟨?_, ?_⟩) (by assumption) ?_
  rotate_left 2
  · (simp only [zA, zB, zC]; rfl)
  rotate_left 1
  · rfl
  · (intro w hSw; (try dsimp only at hSw); go_simp; try with_reducible rfl)
  rotate_left 1
  · exact fun _ _ _ h => h
  try simp only [Act.put, zD, zE, zF]
  refine wpAnyT_take (i := 3) (oi := ?_) (v := ?_) ?_ (by kernel_rfl) (by kernel_rfl) (by kernel_rfl) (by kernel_rfl) (by kernel_rfl) ?_ (Or.inl ⟨?_, ?_⟩) (by assumption) ?_
  rotate_left 2
  · (simp only [zA, zB, zC]; rfl)
  rotate_left 1
  · rfl
  · (intro w hSw; (try dsimp only at hSw); go_simp; try with_reducible rfl)
  rotate_left 1
  · exact fun _ _ _ h => h
  try simp only [Act.put, zD, zE, zF]
  refine wpAnyT_take (i := 4) (oi := ?_) (v := ?_) ?_ (by kernel_rfl) (by kernel_rfl) (by kernel_rfl) (by kernel_rfl) (by kernel_rfl) ?_ (Or.inl ⟨?_, ?_⟩) (by assumption) ?_
  rotate_left 2
  · (simp only [zA, zB, zC]; rfl)
  rotate_left 1
  · rfl
  · (intro w hSw; (try dsimp only at hSw); go_simp; try with_reducible rfl)
  rotate_left 1
  · exact fun _ _ _ h => h
  try simp only [Act.put, zD, zE, zF]
  refine wpAnyT_take (i := 5) (oi := ?_) (v := ?_) ?_ (by kernel_rfl) (by kernel_rfl) (by kernel_rfl) (by kernel_rfl) (by kernel_rfl) ?_ (Or.inl ⟨?_, ?_⟩) (by assumption) ?_
  rotate_left 2
  · (simp only [zA, zB, zC]; rfl)
  rotate_left 1
  · rfl
  · (intro w hSw; (try dsimp only at hSw); go_simp; try with_reducible rfl)
  rotate_left 1
  · exact fun _ _ _ h => h
  try simp only [Act.put, zD, zE, zF]
  refine wpAnyT_take (i := 6) (oi := ?_) (v := ?_) ?_ (by kernel_rfl) (by kernel_rfl) (by kernel_rfl) (by kernel_rfl) (by kernel_rfl) ?_ (Or.inl ⟨?_, ?_⟩) (by assumption) ?_
  rotate_left 2
  · (simp only [zA, zB, zC]; rfl)
  rotate_left 1
  · rfl
  · (intro w hSw; (try dsimp only at hSw); go_simp; try with_reducible rfl)
  rotate_left 1
  · exact fun _ _ _ h => h
  try simp only [Act.put, zD, zE, zF]
  refine wpAnyT_take (i := 7) (oi := ?_) (v := ?_) ?_ (by kernel_rfl) (by kernel_rfl) (by kernel_rfl) (by kernel_rfl) (by kernel_rfl) ?_ (Or.inl ⟨?_, ?_⟩) (by assumption) ?_
  rotate_left 2
  · (simp only [zA, zB, zC]; rfl)
  rotate_left 1
  · rfl
  · (intro w hSw; (try dsimp only at hSw); go_simp; try with_reducible rfl)
  rotate_left 1
  · exact fun _ _ _ h => h
  try simp only [Act.put, zD, zE, zF]
  refine wpAnyT_take (i := 8) (oi := ?_) (v := ?_) ?_ (by kernel_rfl) (by kernel_rfl) (by kernel_rfl) (by kernel_rfl) (by kernel_rfl) ?_ (Or.inl ⟨?_, ?_⟩) (by assumption) ?_
  rotate_left 2
  · (simp only [zA, zB, zC]; rfl)
  rotate_left 1
  · rfl
  · (intro w hSw; (try dsimp only at hSw); go_simp; try with_reducible rfl)
  rotate_left 1
  · exact fun _ _ _ h => h
  try simp only [Act.put, zD, zE, zF]
  refine wpAnyT_ready (rs := [9]) (by kernel_rfl) (by simp) ?_
  refine AllReadyT.cons (o := ?_) ?_ (fun K hK => ?_) AllReadyT.nil
  rotate_left 1
  · (simp only [zA, zB, zC]; rfl)
  go_simp
  (go_at_call 160; refine HTX.out.mono ?_; rintro e w5 ⟨v5, rfl, hv5, hb5⟩; have hB5 := HB4.out.dr.same hb5; have k3 := (hb5.cell (p := ⟨o, 3, none⟩) hol4).trans k3; have HV5 := hide hv5; have HB5 := hide hB5; have HQ5 := hide (HQ4.out.dr.below hb5); have HC5 := hide (HC4.out.dr.trans (Chg.of_below hb5)); have hz4 := HC4.out.size; clear hv5 hb5 hB5)
  refine hK.out _ _ ?_ (fun hHeld => ?_)
  · ((try dsimp only); go_keep)
  clear hK K
  try simp only [Act.put, zD, zE, zF]
  refine wpAnyT_ready (rs := [10]) (by kernel_rfl) (by simp) ?_
  refine AllReadyT.cons (o := ?_) ?_ (fun K hK => ?_) AllReadyT.nil
  rotate_left 1
  · (simp only [zA, zB, zC]; rfl)
  go_simp
  (go_at_call 166; refine (HPUT.out _ _ _ _ HQ5.out HV5.out.islc (fun k hk => ⟨hk.1, fun e => by have h1 := HSL.out k e; have h2 : w4.heap.size ≤ k := hk.2.1; omega⟩)).mono ?_; rintro e w6 ⟨rfl, hq6, hc6⟩; have hB6 := hc6.blk HB5.out HOS.out; have k3 := hB6.cell 3; rw [Array.getElem?_setIfInBounds, if_pos rfl, if_pos hsz3] at k3; have k0 := hB6.cell 0; have k1 := hB6.cell 1; have k2 := hB6.cell 2; have f0 := hB6.frozen 0; have f1 := hB6.frozen 1; have f2 := hB6.frozen 2; rw [Array.getElem?_setIfInBounds, if_neg (by decide), HOLD.out _ (by omega)] at k0 k1 k2; rw [HOC.out.row] at k0; rw [HOC.out.col] at k1; rw [HOC.out.pd] at k2; have HB6 := hide hB6; have HQ6 := hide hq6; have HC6 := hide (HC5.out.trans (hc6.mono (fun k hk => .inl hk))); clear hB6 hq6 hc6)
  refine hK.out _ _ ?_ (fun hHeld => ?_)
  · ((try dsimp only); go_keep)
  clear hK K
  try simp only [Act.put, zD, zE, zF]
  refine wpAnyT_take (i := 11) (oi := ?_) (v := ?_) ?_ (by kernel_rfl) (by kernel_rfl) (by kernel_rfl) (by kernel_rfl) (by kernel_rfl) ?_ (Or.inl ⟨?_, ?_⟩) (by assumption) ?_
  rotate_left 2
  · (simp only [zA, zB, zC]; rfl)
  rotate_left 1
  · rfl
  · (intro w hSw; (try dsimp only at hSw); go_simp; try with_reducible rfl)
  rotate_left 1
  · exact fun _ _ _ h => h
  try simp only [Act.put, zD, zE, zF]
  refine wpAnyT_take (i := 12) (oi := ?_) (v := ?_) ?_ (by kernel_rfl) (by kernel_rfl) (by kernel_rfl) (by kernel_rfl) (by kernel_rfl) ?_ (Or.inl ⟨?_, ?_⟩) (by assumption) ?_
  rotate_left 2
  · (simp only [zA, zB, zC]; rfl)
  rotate_left 1
  · rfl
  · (intro w hSw; (try dsimp only at hSw); go_simp; try with_reducible rfl)
  rotate_left 1
  · exact fun _ _ _ h => h
  try simp only [Act.put, zD, zE, zF]
  refine wpAnyT_ready (rs := [13]) (by kernel_rfl) (by simp) ?_
  refine AllReadyT.consL (o := ?_) ?_ (by kernel_rfl) (fun K hK => ?_) AllReadyT.nil
  rotate_left 1
  · (simp only [zA, zB, zC]; rfl)
  go_simp
  refine hK.out _ _ ?_
  clear hK K
  try simp only [Act.put, zD, zE, zF]
  refine wpAnyT_done (by kernel_rfl) ?_ _
  clear hHeld k0 k1 k2 k3 f0 f1 f2
  go_wp2
  go_ret
  obtain ⟨hqr, hqc⟩ := HQI.out
  obtain ⟨hp, hg, hN, hN', har, hac⟩ := HI.out
  subst hqr; subst hqc; subst hN'
  have hfin : Chg (· = o) w6 (((w6.setCell ⟨o, 0, none⟩ (.int .i64 q.r)).setCell ⟨o, 1, none⟩ (.int .i64 q.c)).setCell ⟨o, 2, none⟩ (.bool false)) := (((Chg.refl (· = o) w6).set (p := ⟨o, 0, none⟩) (.inl rfl) _).set (p := ⟨o, 1, none⟩) (.inl rfl) _).set (p := ⟨o, 2, none⟩) (.inl rfl) _
  exact ⟨rfl, HQ6.out.chg hfin (Alien.one HB6.out (by decide)), ⟨_, ((HB6.out.set_ 0 _).set_ 1 _).set_ 2 _, HG2.out.place q.r q.c n'⟩, HC6.out.trans (hfin.mono (fun k hk => .inr hk))⟩
set_option maxHeartbeats 8000000 in
theorem JoinS_ok (I : Ids) (v : PenV) (o r0 c0 n : Nat) (cs : Array Value) (t : List Int) (r : Int) (w : World) (h : PenQ w I v) (hB : Blk w o 213 cs) (hO : OpnC cs r0 c0 n t) (hl : t.length < 16) (hv : validB r = true) (hne : n = widthF propF (t ++ [r]))
    (hmore : r0 < I.h ∧ c0 + n ≤ I.W ∧ (rowAt v.rows r0)[c0]? = some ((n : Int), t) ∧ kindI (rowAt v.rows r0) ((c0 + n : Nat) : Int) ≠ 3) (htx : TxOk (t ++ [r])) :
    Calls Tryz.prog 127 #[ptrB o, ptrB I.p, .int .i32 r, propA (propF r)] w fun e w' => e = .returned (.bool true) ∧ PenQ w' I ⟨updR v.rows r0 (paintL c0 (stripF n (t ++ [r]))), v.r, v.c, v.pd⟩ ∧
      (∃ cs', Blk w' o 213 cs' ∧ OpnC cs' r0 c0 n (t ++ [r])) ∧ Chg (fun k => PenS I k ∨ k = o) w w' := by
  have hpk := propF_ok r
  have hwf : (Lit.int .i32 r).wf = true := by have := (validB_iff r).1 hv; exact wf_i32 (by omega) (by omega)
  have HFULL := hide (fun (W : World) (hW : Blk W o 213 cs) => by
    have := cFull_ok o 4 _ cs t W hW hO.g.text
    rw [decide_eq_false (by omega)] at this
    exact this)
  have HADD := hide (fun (W : World) (hW : Blk W o 213 cs) => wAdd_ok o cs t r W hW hO.g hl hv)
  have hwd := widthF_or propF (t ++ [r])
  obtain ⟨n', hn'⟩ : ∃ n', widthF propF (t ++ [r]) = n' := ⟨_, rfl⟩
  have HNN := hide hn'
  rw [hn'] at HADD hwd hne
  subst hne
  have hwn : n = 1 ∨ n = 2 := hwd
  obtain ⟨p, hp⟩ : ∃ p, I.p = p := ⟨_, rfl⟩
  obtain ⟨g, hg⟩ : ∃ g, I.g = g := ⟨_, rfl⟩
  obtain ⟨N, hN⟩ : ∃ N : Int, (n : Int) = N := ⟨_, rfl⟩
  obtain ⟨ar, har⟩ : ∃ x : Int, (r0 : Int) = x := ⟨_, rfl⟩
  obtain ⟨ac, hac⟩ : ∃ x : Int, (c0 : Int) = x := ⟨_, rfl⟩
  have HI0 : True := trivial
  have HI := hide (And.intro hp (And.intro hg (And.intro hN (And.intro hN (And.intro har hac)))))
  have HSL := hide (fun k (hk : PenS I k) => h.sLt hk)
  have hoS : ¬ PenS I o := fun e => by
    obtain ⟨t', cs', hb', hn⟩ := h.alien (T := [213]) (by decide) o e
    have := hb'.typ hB
    subst this
    exact hn (by simp)
  have HOS := hide hoS
  have hq0 := h.alloc (.cells #[.int .i64 (propF r).brk, .bool (propF r).pict, .int .i64 (propF r).conj, .int .i64 (propF r).east] 108)
  have hb0 := hB.alloc (.cells #[.int .i64 (propF r).brk, .bool (propF r).pict, .int .i64 (propF r).conj, .int .i64 (propF r).east] 108)
  have hp0 := Blk.new w 108 #[.int .i64 (propF r).brk, .bool (propF r).pict, .int .i64 (propF r).conj, .int .i64 (propF r).east]
  obtain ⟨pp, hpp⟩ : ∃ pp, propF r = pp := ⟨_, rfl⟩
  rw [hpp] at HADD hq0 hb0 hp0 ⊢
  obtain ⟨brk, pict, conj, east⟩ := pp
  unfold propA at HADD ⊢
  simp only [propL] at HADD hq0 hb0 hp0 ⊢
  obtain ⟨y0, -⟩ := hq0.cells
  rw [hp] at y0
  rw [hg] at y0
  have z0 := hp0.cell 0
  have z1 := hp0.cell 1
  have z2 := hp0.cell 2
  have z3 := hp0.cell 3
  simp only [zA, zB, zC] at z0 z1 z2 z3
  have u3 := (hb0.cell 3).trans hO.wide
  rw [hN] at u3
  have hpl := hq0.blk.lt
  rw [hp] at hpl
  have hol := hB.lt
  have HQ0 := hide hq0
  have HB0 := hide hb0
  have HOC := hide hO
  have HWW := hide (And.intro h.w2 h.w1)
  have HMR := hide hmore
  have HMA := hide (fun W6 (h6 : PenQ W6 I v) => by
    obtain ⟨x, _, e1, e2, hxq, hxl⟩ := h6.rowQ hmore.1
    have hm := hmore.2
    rw [e2] at hm
    have hA := Add_ok (I.db r0) (I.dc r0) x.1 x.2 c0 n t r W6 hxq (by rw [hxl]; exact hm.1) hwn hm.2.1 htx (by rw [hxl]; have := HWW.out; omega) hwf hm.2.2
    have hup : updR v.rows r0 (paintL c0 (stripF n (t ++ [r]))) = v.rows.set r0 ((paintL c0 (stripF n (t ++ [r])) x).1, (paintL c0 (stripF n (t ++ [r])) x).2) := by unfold updR; rw [e1]
    have hpl : (paintL c0 (stripF n (t ++ [r])) x).1.length = I.W := by
      unfold paintL
      simp only [List.length_append, List.length_take, List.length_drop, strip_len hwn]
      have := hm.1
      omega
    unfold ptrB at hA
    rw [hac] at hA
    exact hA.mono (fun e w6 hh => (⟨hh.1, by
      have := h6.put hmore.1 hh.2.2 hh.2.1 hpl
      rw [← hup] at this
      exact this, hh.2.2.mono (PenS.row hmore.1)⟩ : (∃ v, e = .returned v) ∧ PenQ w6 I ⟨updR v.rows r0 (paintL c0 (stripF n (t ++ [r]))), v.r, v.c, v.pd⟩ ∧ Chg (PenS I) W6 w6)))
  have HROW := hide (fun W6 (h6 : PenQ W6 I v) => pRow_ok h6 hmore.1)
  have HWD := hide (fun W6 (h6 : PenQ W6 I v) => pWide_ok h6)
  obtain ⟨res, hres⟩ : ∃ res, (⟨updR v.rows r0 (paintL c0 (stripF n (t ++ [r]))), v.r, v.c, v.pd⟩ : PenV) = res := ⟨_, rfl⟩
  rw [hres] at HMA ⊢
  obtain ⟨W, hW⟩ : ∃ W : Int, (I.W : Int) = W := ⟨_, rfl⟩
  have hNW : N ≤ W := by have := HWW.out; omega
  simp only [hg, har] at HROW
  simp only [hg, hW] at HWD
  simp only [hN] at HADD
  unfold ptrB at HADD ⊢
  simp only [hp]
  clear hpk hv htx hres hp hg hN h hpp hwd hn' hB hO hoS hq0 hb0 hp0 har hac hmore hl hW hwn
  go_enter Tryz.func127, Tryz.ntmps127
  go_wp2_with fail
  refine (HFULL.out _ HB0.out).mono ?_
  rintro e w1 ⟨rfl, rfl⟩
  go_wp2_with fail
  refine (HADD.out _ HB0.out).mono ?_
  rintro e w2 ⟨rfl, ⟨cs2, hB2, hG2, hold2⟩, hgr2⟩
  have k3 := ((hB2.cell 3).trans (hold2 3 (by omega))).trans HOC.out.wide
  have f3 := hB2.frozen 3
  have hc2 : Chg (fun k => PenS I k ∨ k = o) w w2 := ((Chg.refl _ w).alloc _).trans (Chg.of_gb hgr2 (.inr rfl))
  have hq2 := HQ0.out.chg (Chg.of_gb (S := (· = o)) hgr2 rfl) (Alien.one HB0.out (by decide))
  have HOLD := hide hold2
  have HB2 := hide hB2
  have HG2 := hide hG2
  have HC2 := hide hc2
  have HQ2 := hide hq2
  clear hB2 hG2 hold2 hgr2 hc2 hq2 z0 z1 z2 z3 u3 y0
  go_upto_region 5 with fail
  obtain ⟨w3, hw3⟩ : ∃ w3, w2.setCell ⟨o, 3, none⟩ (.int .i64 N) = w3 := ⟨_, rfl⟩
  have hB3 : Blk w3 o 213 (cs2.setIfInBounds 3 (.int .i64 N)) := by rw [← hw3]; exact HB2.out.set_ 3 _
  have hs3 : Chg (· = o) w2 w3 := by rw [← hw3]; exact (Chg.refl (· = o) w2).set (p := ⟨o, 3, none⟩) (.inl rfl) _
  have hq3 := HQ2.out.chg hs3 (Alien.one HB2.out (by decide))
  have HG3 := hide (HG2.out.set (i := 3) (by omega) (.int .i64 N))
  have HC3 := hide (HC2.out.trans (hs3.mono (fun k hk => .inr hk)))
  have hsz3 : 3 < cs2.size := by rw [HG2.out.size]; decide
  have k3 := hB3.cell 3
  rw [Array.getElem?_setIfInBounds, if_pos rfl, if_pos hsz3] at k3
  have k0 := hB3.cell 0
  have k1 := hB3.cell 1
  have k2 := hB3.cell 2
  rw [Array.getElem?_setIfInBounds, if_neg (by decide), HOLD.out _ (by omega)] at k0 k1 k2
  rw [HOC.out.row, HI.out.2.2.2.2.1] at k0
  rw [HOC.out.col, HI.out.2.2.2.2.2] at k1
  rw [HOC.out.pd] at k2
  obtain ⟨y0, y1, y2, y3, y4⟩ := hq3.cells
  have g1 := hq3.blk.frozen 1
  have g2 := hq3.blk.frozen 2
  have g3 := hq3.blk.frozen 3
  have hpl3 := hq3.blk.lt
  rw [HI.out.1] at y0 y1 y2 y3 y4 g1 g2 g3 hpl3
  rw [HI.out.2.1] at y0
  have HB3 := hide hB3
  have HQ3 := hide hq3
  have HW3 := hide hw3
  have hol3 := hB3.lt
  clear hB3 hs3 hw3 f3 hq3
  rw [HW3.out]
  go_upto_region 8 with fail
  refine wp_region_held_drew (S := fun w' => w'.cell? ⟨o, 3, none⟩ = some (.int .i64 N) ∧ w'.cell? ⟨p, 0, none⟩ = some (.pointer (some ⟨g, 0, none⟩))) (by kernel_rfl) (by exact ⟨k3, y0⟩) (fun hHeld => ?_)
  refine wpAnyH_take (i := 0) (oi := ?_) (v := ?_) ?_ (by kernel_rfl) (by kernel_rfl) (by kernel_rfl) ?_ (Or.inl ⟨?_, ?_⟩) (by assumption) ?_
  rotate_left 2
  · (simp only [zA, zB, zC]; rfl)
  rotate_left 1
  · rfl
  · (intro w hSw; (try dsimp only at hSw); go_simp; try with_reducible rfl)
  rotate_left 1
  · exact fun _ _ _ h => h
  try simp only [Act.put, zD, zE, zF]
  refine wpAnyH_take (i := 1) (oi := ?_) (v := ?_) ?_ (by kernel_rfl) (by kernel_rfl) (by kernel_rfl) ?_ (Or.inl ⟨?_, ?_⟩) (by assumption) ?_
  rotate_left 2
  · (simp only [zA, zB, zC]; rfl)
  rotate_left 1
  · rfl
  · (intro w hSw; (try dsimp only at hSw); go_simp; try with_reducible rfl)
  rotate_left 1
  · exact fun _ _ _ h => h
  try simp only [Act.put, zD, zE, zF]
  refine wpAnyH_take (i := 2) (oi := ?_) (v := ?_) ?_ (by kernel_rfl) (by kernel_rfl) (by kernel_rfl) ?_ (Or.inl ⟨?_, ?_⟩) (by assumption) ?_
  rotate_left 2
  · (simp only [zA, zB, zC]; rfl)
  rotate_left 1
  · rfl
  · (intro w hSw; (try dsimp only at hSw); go_simp; try with_reducible rfl)
  rotate_left 1
  · exact fun _ _ _ h => h
  try simp only [Act.put, zD, zE, zF]
  refine wpAnyH_take (i := 3) (oi := ?_) (v := ?_) ?_ (by kernel_rfl) (by kernel_rfl) (by kernel_rfl) ?_ (Or.inl ⟨?_, ?_⟩) (by assumption) ?_
  rotate_left 2
  · (simp only [zA, zB, zC]; rfl)
  rotate_left 1
  · rfl
  · (intro w hSw; (try dsimp only at hSw); go_simp; try with_reducible rfl)
  rotate_left 1
  · exact fun _ _ _ h => h
  try simp only [Act.put, zD, zE, zF]
  refine wpAnyH_take (i := 4) (oi := ?_) (v := ?_) ?_ (by kernel_rfl) (by kernel_rfl) (by kernel_rfl) ?_ (Or.inl ⟨?_, ?_⟩) (by assumption) ?_
  rotate_left 2
  · (simp only [zA, zB, zC]; rfl)
  rotate_left 1
  · rfl
  · (intro w hSw; (try dsimp only at hSw); go_simp; try with_reducible rfl)
  rotate_left 1
  · exact fun _ _ _ h => h
  try simp only [Act.put, zD, zE, zF]
  refine wpAnyH_take (i := 5) (oi := ?_) (v := ?_) ?_ (by kernel_rfl) (by kernel_rfl) (by kernel_rfl) ?_ (Or.inl ⟨?_, ?_⟩) (by assumption) ?_
  rotate_left 2
  · (simp only [zA, zB, zC]; rfl)
  rotate_left 1
  · rfl
  · (intro w hSw; (try dsimp only at hSw); go_simp; try with_reducible rfl)
  rotate_left 1
  · exact fun _ _ _ h => h
  try simp only [Act.put, zD, zE, zF]
  refine wpAnyH_take (i := 6) (oi := ?_) (v := ?_) ?_ (by kernel_rfl) (by kernel_rfl) (by kernel_rfl) ?_ (Or.inl ⟨?_, ?_⟩) (by assumption) ?_
  rotate_left 2
  · (simp only [zA, zB, zC]; rfl)
  rotate_left 1
  · rfl
  · (intro w hSw; (try dsimp only at hSw); go_simp; try with_reducible rfl)
  rotate_left 1
  · exact fun _ _ _ h => h
  try simp only [Act.put, zD, zE, zF]
  refine wpAnyH_take (i := 7) (oi := ?_) (v := ?_) ?_ (by kernel_rfl) (by kernel_rfl) (by kernel_rfl) ?_ (Or.inl ⟨?_, ?_⟩) (by assumption) ?_
  rotate_left 2
  · (simp only [zA, zB, zC]; rfl)
  rotate_left 1
  · rfl
  · (intro w hSw; (try dsimp only at hSw); go_simp; try with_reducible rfl)
  rotate_left 1
  · exact fun _ _ _ h => h
  try simp only [Act.put, zD, zE, zF]
  refine wpAnyH_ready (rs := [8]) (by kernel_rfl) (by simp) ?_
  refine AllReadyH.cons (o := ?_) ?_ (fun K hK => ?_) AllReadyH.nil
  rotate_left 1
  · (simp only [zA, zB, zC]; rfl)
  go_simp
  (go_at_call 26; refine (HWD.out _ HQ3.out.dr).mono ?_; rintro e w' ⟨rfl, rfl⟩)
  refine hK.out _ _ ?_ (fun hHeld => ?_)
  · ((try dsimp only); go_keep)
  clear hK K
  try simp only [Act.put, zD, zE, zF]
  refine wpAnyH_take (i := 9) (oi := ?_) (v := ?_) ?_ (by kernel_rfl) (by kernel_rfl) (by kernel_rfl) ?_ (Or.inl ⟨?_, ?_⟩) (by assumption) ?_
  rotate_left 2
  · (simp only [zA, zB, zC]; rfl)
  rotate_left 1
  · rfl
  · (intro w hSw; (try dsimp only at hSw); go_simp; try with_reducible rfl)
  rotate_left 1
  · exact fun _ _ _ h => h
  try simp only [Act.put, zD, zE, zF]
  refine wpAnyH_take (i := 10) (oi := ?_) (v := ?_) ?_ (by kernel_rfl) (by kernel_rfl) (by kernel_rfl) ?_ (Or.inl ⟨?_, ?_⟩) (by assumption) ?_
  rotate_left 2
  · (simp only [zA, zB, zC]; rfl)
  rotate_left 1
  · rfl
  · (intro w hSw; (try dsimp only at hSw); go_simp; try with_reducible rfl)
  rotate_left 1
  · exact fun _ _ _ h => h
  try simp only [Act.put, zD, zE, zF]
  refine wpAnyH_done (by kernel_rfl) ?_ _
  clear hHeld
  go_upto_region 9 with fail
  refine wp_region_held_drew (S := fun w' => w'.cell? ⟨p, 0, none⟩ = some (.pointer (some ⟨g, 0, none⟩)) ∧ w'.cell? ⟨o, 0, none⟩ = some (.int .i64 ar) ∧ w'.cell? ⟨o, 1, none⟩ = some (.int .i64 ac)) (by kernel_rfl) (by exact ⟨y0, k0, k1⟩) (fun hHeld => ?_)
  refine wpAnyH_take (i := 0) (oi := ?_) (v := ?_) ?_ (by kernel_rfl) (by kernel_rfl) (by kernel_rfl) ?_ (Or.inl ⟨?_, ?_⟩) (by assumption) ?_
  rotate_left 2
  · (simp only [zA, zB, zC]; rfl)
  rotate_left 1
  · rfl
  · (intro w hSw; (try dsimp only at hSw); go_simp; try with_reducible rfl)
  rotate_left 1
  · exact fun _ _ _ h => h
  try simp only [Act.put, zD, zE, zF]
  refine wpAnyH_take (i := 1) (oi := ?_) (v := ?_) ?_ (by kernel_rfl) (by kernel_rfl) (by kernel_rfl) ?_ (Or.inl ⟨?_, ?_⟩) (by assumption) ?_
  rotate_left 2
  · (simp only [zA, zB, zC]; rfl)
  rotate_left 1
  · rfl
  · (intro w hSw; (try dsimp only at hSw); go_simp; try with_reducible rfl)
  rotate_left 1
  · exact fun _ _ _ h => h
  try simp only [Act.put, zD, zE, zF]
  refine wpAnyH_take (i := 2) (oi := ?_) (v := ?_) ?_ (by kernel_rfl) (by kernel_rfl) (by kernel_rfl) ?_ (Or.inl ⟨?_, ?_⟩) (by assumption) ?_
  rotate_left 2
  · (simp only [zA, zB, zC]; rfl)
  rotate_left 1
  · rfl
  · (intro w hSw; (try dsimp only at hSw); go_simp; try with_reducible rfl)
  rotate_left 1
  · exact fun _ _ _ h => h
  try simp only [Act.put, zD, zE, zF]
  refine wpAnyH_take (i := 3) (oi := ?_) (v := ?_) ?_ (by kernel_rfl) (by kernel_rfl) (by kernel_rfl) ?_ (Or.inl ⟨?_, ?_⟩) (by assumption) ?_
  rotate_left 2
  · (simp only [zA, zB, zC]; rfl)
  rotate_left 1
  · rfl
  · (intro w hSw; (try dsimp only at hSw); go_simp; try with_reducible rfl)
  rotate_left 1
  · exact fun _ _ _ h => h
  try simp only [Act.put, zD, zE, zF]
  refine wpAnyH_take (i := 4) (oi := ?_) (v := ?_) ?_ (by kernel_rfl) (by kernel_rfl) (by kernel_rfl) ?_ (Or.inl ⟨?_, ?_⟩) (by assumption) ?_
  rotate_left 2
  · (simp only [zA, zB, zC]; rfl)
  rotate_left 1
  · rfl
  · (intro w hSw; (try dsimp only at hSw); go_simp; try with_reducible rfl)
  rotate_left 1
  · exact fun _ _ _ h => h
  try simp only [Act.put, zD, zE, zF]
  refine wpAnyH_take (i := 5) (oi := ?_) (v := ?_) ?_ (by kernel_rfl) (by kernel_rfl) (by kernel_rfl) ?_ (Or.inl ⟨?_, ?_⟩) (by assumption) ?_
  rotate_left 2
  · (simp only [zA, zB, zC]; rfl)
  rotate_left 1
  · rfl
  · (intro w hSw; (try dsimp only at hSw); go_simp; try with_reducible rfl)
  rotate_left 1
  · exact fun _ _ _ h => h
  try simp only [Act.put, zD, zE, zF]
  refine wpAnyH_take (i := 6) (oi := ?_) (v := ?_) ?_ (by kernel_rfl) (by kernel_rfl) (by kernel_rfl) ?_ (Or.inl ⟨?_, ?_⟩) (by assumption) ?_
  rotate_left 2
  · (simp only [zA, zB, zC]; rfl)
  rotate_left 1
  · rfl
  · (intro w hSw; (try dsimp only at hSw); go_simp; try with_reducible rfl)
  rotate_left 1
  · exact fun _ _ _ h => h
  try simp only [Act.put, zD, zE, zF]
  refine wpAnyH_take (i := 7) (oi := ?_) (v := ?_) ?_ (by kernel_rfl) (by kernel_rfl) (by kernel_rfl) ?_ (Or.inl ⟨?_, ?_⟩) (by assumption) ?_
  rotate_left 2
  · (simp only [zA, zB, zC]; rfl)
  rotate_left 1
  · rfl
  · (intro w hSw; (try dsimp only at hSw); go_simp; try with_reducible rfl)
  rotate_left 1
  · exact fun _ _ _ h => h
  try simp only [Act.put, zD, zE, zF]
  refine wpAnyH_take (i := 8) (oi := ?_) (v := ?_) ?_ (by kernel_rfl) (by kernel_rfl) (by kernel_rfl) ?_ (Or.inl ⟨?_, ?_⟩) (by assumption) ?_
  rotate_left 2
  · (simp only [zA, zB, zC]; rfl)
  rotate_left 1
  · rfl
  · (intro w hSw; (try dsimp only at hSw); go_simp; try with_reducible rfl)
  rotate_left 1
  · exact fun _ _ _ h => h
  try simp only [Act.put, zD, zE, zF]
  refine wpAnyH_take (i := 10) (oi := ?_) (v := ?_) ?_ (by kernel_rfl) (by kernel_rfl) (by kernel_rfl) ?_ (Or.inl ⟨?_, ?_⟩) (by assumption) ?_
  rotate_left 2
  · (simp only [zA, zB, zC]; rfl)
  rotate_left 1
  · rfl
  · (intro w hSw; (try dsimp only at hSw); go_simp; try with_reducible rfl)
  rotate_left 1
  · exact fun _ _ _ h => h
  try simp only [Act.put, zD, zE, zF]
  refine wpAnyH_take (i := 11) (oi := ?_) (v := ?_) ?_ (by kernel_rfl) (by kernel_rfl) (by kernel_rfl) ?_ (Or.inl ⟨?_, ?_⟩) (by assumption) ?_
  rotate_left 2
  · (simp only [zA, zB, zC]; rfl)
  rotate_left 1
  · rfl
  · (intro w hSw; (try dsimp only at hSw); go_simp; try with_reducible rfl)
  rotate_left 1
  · exact fun _ _ _ h => h
  try simp only [Act.put, zD, zE, zF]
  refine wpAnyH_take (i := 12) (oi := ?_) (v := ?_) ?_ (by kernel_rfl) (by kernel_rfl) (by kernel_rfl) ?_ (Or.inl ⟨?_, ?_⟩) (by assumption) ?_
  rotate_left 2
  · (simp only [zA, zB, zC]; rfl)
  rotate_left 1
  · rfl
  · (intro w hSw; (try dsimp only at hSw); go_simp; try with_reducible rfl)
  rotate_left 1
  · exact fun _ _ _ h => h
  try simp only [Act.put, zD, zE, zF]
  refine wpAnyH_take (i := 13) (oi := ?_) (v := ?_) ?_ (by kernel_rfl) (by kernel_rfl) (by kernel_rfl) ?_ (Or.inl ⟨?_, ?_⟩) (by assumption) ?_
  rotate_left 2
  · (simp only [zA, zB, zC]; rfl)
  rotate_left 1
  · rfl
  · (intro w hSw; (try dsimp only at hSw); go_simp; try with_reducible rfl)
  rotate_left 1
  · exact fun _ _ _ h => h
  try simp only [Act.put, zD, zE, zF]
  refine wpAnyH_take (i := 14) (oi := ?_) (v := ?_) ?_ (by kernel_rfl) (by kernel_rfl) (by kernel_rfl) ?_ (Or.inl ⟨?_, ?_⟩) (by assumption) ?_
  rotate_left 2
  · (simp only [zA, zB, zC]; rfl)
  rotate_left 1
  · rfl
  · (intro w hSw; (try dsimp only at hSw); go_simp; try with_reducible rfl)
  rotate_left 1
  · exact fun _ _ _ h => h
  try simp only [Act.put, zD, zE, zF]
  refine wpAnyH_take (i := 15) (oi := ?_) (v := ?_) ?_ (by kernel_rfl) (by kernel_rfl) (by kernel_rfl) ?_ (Or.inl ⟨?_, ?_⟩) (by assumption) ?_
  rotate_left 2
  · (simp only [zA, zB, zC]; rfl)
  rotate_left 1
  · rfl
  · (intro w hSw; (try dsimp only at hSw); go_simp; try with_reducible rfl)
  rotate_left 1
  · exact fun _ _ _ h => h
  try simp only [Act.put, zD, zE, zF]
  refine wpAnyH_ready (rs := [9]) (by kernel_rfl) (by simp) ?_
  refine AllReadyH.cons (o := ?_) ?_ (fun K hK => ?_) AllReadyH.nil
  rotate_left 1
  · (simp only [zA, zB, zC]; rfl)
  go_simp
  (go_at_call 50; refine (HROW.out _ HQ3.out.dr.dr).mono ?_; rintro e w' ⟨rfl, rfl⟩)
  refine hK.out _ _ ?_ (fun hHeld => ?_)
  · ((try dsimp only); go_keep)
  clear hK K
  try simp only [Act.put, zD, zE, zF]
  refine wpAnyH_ready (rs := [16]) (by kernel_rfl) (by simp) ?_
  refine AllReadyH.cons (o := ?_) ?_ (fun K hK => ?_) AllReadyH.nil
  rotate_left 1
  · (simp only [zA, zB, zC]; rfl)
  go_simp
  (go_at_call 167; refine (HMA.out _ HQ3.out.dr.dr).mono ?_; rintro e w6 ⟨⟨r6, rfl⟩, hq6, hc6⟩; obtain ⟨y0, -⟩ := hq6.cells; rw [HI.out.1] at y0; rw [HI.out.2.1] at y0; have hB6 : Blk w6 o 213 (cs2.setIfInBounds 3 (.int .i64 N)) := hc6.blk HB3.out.dr.dr HOS.out; have k0 := hB6.cell 0; have k1 := hB6.cell 1; rw [Array.getElem?_setIfInBounds, if_neg (by decide), HOLD.out _ (by omega)] at k0 k1; rw [HOC.out.row, HI.out.2.2.2.2.1] at k0; rw [HOC.out.col, HI.out.2.2.2.2.2] at k1; have HB6 := hide hB6; have HQ6 := hide hq6; have HC6 := hide (HC3.out.dr.dr.trans (hc6.mono (fun k hk => .inl hk))); clear hB6 hq6 hc6)
  refine hK.out _ _ ?_ (fun hHeld => ?_)
  · ((try dsimp only); go_keep)
  clear hK K
  try simp only [Act.put, zD, zE, zF]
  refine wpAnyH_done (by kernel_rfl) ?_ _
  clear hHeld y0 k0 k1
  go_wp2
  go_ret
  obtain ⟨hp, hg, hN, hN', har, hac⟩ := HI.out
  exact ⟨rfl, HQ6.out, ⟨_, HB6.out, ⟨HG3.out, by rw [Array.getElem?_setIfInBounds, if_neg (by decide), HOLD.out _ (by omega)]; exact HOC.out.row, by rw [Array.getElem?_setIfInBounds, if_neg (by decide), HOLD.out _ (by omega)]; exact HOC.out.col, by rw [Array.getElem?_setIfInBounds, if_neg (by decide), HOLD.out _ (by omega)]; exact HOC.out.pd, by rw [Array.getElem?_setIfInBounds, if_pos rfl, if_pos hsz3, hN]⟩⟩, HC6.out⟩
end Go.Proofs.YtdjpdllehhecpaaGreatDoor
namespace Go.Proofs.YtdjpdllehhecpaaGreatDoor
open Go.RowKit
set_option linter.unusedVariables false
set_option linter.unusedSimpArgs false
def segC (s : SegV) : List Value := [.bool s.any, .int .i64 s.last, .int .i64 s.pict, .int .i64 s.conj, .bool s.odd]
structure SegAt (cs : Array Value) (o : Nat) (s : SegV) : Prop where
  room : o + 5 ≤ cs.size
  any : cs[o]? = some (.bool s.any)
  last : cs[o + 1]? = some (.int .i64 s.last)
  pict : cs[o + 2]? = some (.int .i64 s.pict)
  conj : cs[o + 3]? = some (.int .i64 s.conj)
  odd : cs[o + 4]? = some (.bool s.odd)
set_option maxHeartbeats 4000000 in
theorem segPict_ok (g o : Nat) (t : TypeId) (cs : Array Value) (s : SegV) (p : PropV) (w : World) (hB : Blk w g t cs) (h : SegAt cs o s) :
    Calls Tryz.prog 76 #[.pointer (some ⟨g, o, none⟩), propA p] w fun e w' => e = .returned (.int .i64 (pictF s p)) ∧ Below w.heap.size w w' := by
  obtain ⟨brk, pict, conj, east⟩ := p
  obtain ⟨sa, sl, sp, sc, so⟩ := s
  have x0 := (hB.cell o).trans h.any
  have x1 := (hB.cell (o + 1)).trans h.last
  have x2 := (hB.cell (o + 2)).trans h.pict
  have x3 := (hB.cell (o + 3)).trans h.conj
  have x4 := (hB.cell (o + 4)).trans h.odd
  have hgl := hB.lt
  simp only at x0 x1 x2 x3 x4
  unfold propA
  simp only [propL]
  have hnew := Blk.new w 108 #[.int .i64 brk, .bool pict, .int .i64 conj, .int .i64 east]
  have hbl := (Below.refl w.heap.size w).alloc (Nat.le_refl _) (.cells #[.int .i64 brk, .bool pict, .int .i64 conj, .int .i64 east] 108)
  have HBL := hide hbl
  obtain ⟨W0, hW0⟩ : ∃ W0, w.alloc (.cells #[.int .i64 brk, .bool pict, .int .i64 conj, .int .i64 east] 108) = W0 := ⟨_, rfl⟩
  rw [hW0] at hnew hbl HBL
  have HW0 := hide hW0
  have y0 := (hbl.cell (p := ⟨g, o, none⟩) hgl).trans x0
  have y1 := (hbl.cell (p := ⟨g, o + 1, none⟩) hgl).trans x1
  have y2 := (hbl.cell (p := ⟨g, o + 2, none⟩) hgl).trans x2
  have y3 := (hbl.cell (p := ⟨g, o + 3, none⟩) hgl).trans x3
  have y4 := (hbl.cell (p := ⟨g, o + 4, none⟩) hgl).trans x4
  have n0 := hnew.cell 0
  have n1 := hnew.cell 1
  have n2 := hnew.cell 2
  have n3 := hnew.cell 3
  simp only [zA, zB, zC] at n0 n1 n2 n3
  clear x0 x1 x2 x3 x4 hnew hbl hB h hW0
  obtain ⟨ans, hans⟩ : ∃ ans, pictF ⟨sa, sl, sp, sc, so⟩ ⟨brk, pict, conj, east⟩ = ans := ⟨_, rfl⟩
  have ha : (if pict = true then 1 else if sp = 1 ∧ brk = 4 then 1 else if sp = 1 ∧ brk = 5 then 2 else 0) = ans := hans
  rw [hans]
  have HA := hide ha
  clear ha hans
  cases pict with
  | true =>
    have HV : Hid ((1 : Int) = ans) := hide (by rw [← HA.out]; simp [])
    go_enter Tryz.func76, Tryz.ntmps76
    go_upto_region 1 with fail
    rw [HW0.out]
    go_wp2
    go_ret
    exact ⟨by rw [← HV.out]; rfl, HBL.out⟩
  | false =>
    by_cases h1 : sp = 1
    · subst h1
      rcases (by omega : brk = 4 ∨ brk = 5 ∨ (¬ brk = 4 ∧ ¬ brk = 5)) with rfl | rfl | ⟨b4, b5⟩
      · skip
        have HV : Hid ((1 : Int) = ans) := hide (by rw [← HA.out]; simp [])
        go_enter Tryz.func76, Tryz.ntmps76
        go_upto_region 1 with fail
        rw [HW0.out]
        go_wp2
        go_ret
        exact ⟨by rw [← HV.out]; rfl, HBL.out⟩
      · skip
        have HV : Hid ((2 : Int) = ans) := hide (by rw [← HA.out]; simp [])
        go_enter Tryz.func76, Tryz.ntmps76
        go_upto_region 1 with fail
        rw [HW0.out]
        go_wp2
        go_ret
        exact ⟨by rw [← HV.out]; rfl, HBL.out⟩
      · skip
        have HV : Hid ((0 : Int) = ans) := hide (by rw [← HA.out]; simp [b4, b5])
        have m4 : (brk == 4) = false := by simpa using b4
        have m5 : (brk == 5) = false := by simpa using b5
        go_enter Tryz.func76, Tryz.ntmps76
        go_upto_region 1 with fail
        rw [HW0.out]
        go_wp2
        go_ret
        exact ⟨by rw [← HV.out]; rfl, HBL.out⟩
    · skip
      have HV : Hid ((0 : Int) = ans) := hide (by rw [← HA.out]; simp [h1])
      have m1 : (sp == 1) = false := by simpa using h1
      go_enter Tryz.func76, Tryz.ntmps76
      go_upto_region 1 with fail
      rw [HW0.out]
      go_wp2
      go_ret
      exact ⟨by rw [← HV.out]; rfl, HBL.out⟩
set_option maxHeartbeats 4000000 in
theorem segConj_ok (g o : Nat) (t : TypeId) (cs : Array Value) (s : SegV) (p : PropV) (w : World) (hB : Blk w g t cs) (h : SegAt cs o s) :
    Calls Tryz.prog 77 #[.pointer (some ⟨g, o, none⟩), propA p] w fun e w' => e = .returned (.int .i64 (conjF s p)) ∧ Below w.heap.size w w' := by
  obtain ⟨brk, pict, conj, east⟩ := p
  obtain ⟨sa, sl, sp, sc, so⟩ := s
  have x0 := (hB.cell o).trans h.any
  have x1 := (hB.cell (o + 1)).trans h.last
  have x2 := (hB.cell (o + 2)).trans h.pict
  have x3 := (hB.cell (o + 3)).trans h.conj
  have x4 := (hB.cell (o + 4)).trans h.odd
  have hgl := hB.lt
  simp only at x0 x1 x2 x3 x4
  unfold propA
  simp only [propL]
  have hnew := Blk.new w 108 #[.int .i64 brk, .bool pict, .int .i64 conj, .int .i64 east]
  have hbl := (Below.refl w.heap.size w).alloc (Nat.le_refl _) (.cells #[.int .i64 brk, .bool pict, .int .i64 conj, .int .i64 east] 108)
  have HBL := hide hbl
  obtain ⟨W0, hW0⟩ : ∃ W0, w.alloc (.cells #[.int .i64 brk, .bool pict, .int .i64 conj, .int .i64 east] 108) = W0 := ⟨_, rfl⟩
  rw [hW0] at hnew hbl HBL
  have HW0 := hide hW0
  have y0 := (hbl.cell (p := ⟨g, o, none⟩) hgl).trans x0
  have y1 := (hbl.cell (p := ⟨g, o + 1, none⟩) hgl).trans x1
  have y2 := (hbl.cell (p := ⟨g, o + 2, none⟩) hgl).trans x2
  have y3 := (hbl.cell (p := ⟨g, o + 3, none⟩) hgl).trans x3
  have y4 := (hbl.cell (p := ⟨g, o + 4, none⟩) hgl).trans x4
  have n0 := hnew.cell 0
  have n1 := hnew.cell 1
  have n2 := hnew.cell 2
  have n3 := hnew.cell 3
  simp only [zA, zB, zC] at n0 n1 n2 n3
  clear x0 x1 x2 x3 x4 hnew hbl hB h hW0
  obtain ⟨ans, hans⟩ : ∃ ans, conjF ⟨sa, sl, sp, sc, so⟩ ⟨brk, pict, conj, east⟩ = ans := ⟨_, rfl⟩
  have ha : (if conj = 1 then 1 else if sc = 0 then 0 else if conj = 2 then 2 else if conj = 3 then sc else 0) = ans := hans
  rw [hans]
  have HA := hide ha
  clear ha hans
  rcases (by omega : conj = 1 ∨ conj = 2 ∨ conj = 3 ∨ (¬ conj = 1 ∧ ¬ conj = 2 ∧ ¬ conj = 3)) with rfl | rfl | rfl | ⟨c1, c2, c3⟩
  · skip
    have HV : Hid ((1 : Int) = ans) := hide (by rw [← HA.out]; simp [])
    go_enter Tryz.func77, Tryz.ntmps77
    go_upto_region 1 with fail
    rw [HW0.out]
    go_wp2
    go_ret
    exact ⟨by rw [← HV.out]; rfl, HBL.out⟩
  · by_cases h0 : sc = 0
    · subst h0
      have HV : Hid ((0 : Int) = ans) := hide (by rw [← HA.out]; simp [])
      go_enter Tryz.func77, Tryz.ntmps77
      go_upto_region 1 with fail
      rw [HW0.out]
      go_wp2
      go_ret
      exact ⟨by rw [← HV.out]; rfl, HBL.out⟩
    · skip
      have HV : Hid ((2 : Int) = ans) := hide (by rw [← HA.out]; simp [h0])
      have m0 : (sc == 0) = false := by simpa using h0
      go_enter Tryz.func77, Tryz.ntmps77
      go_upto_region 1 with fail
      rw [HW0.out]
      go_wp2
      go_ret
      exact ⟨by rw [← HV.out]; rfl, HBL.out⟩
  · by_cases h0 : sc = 0
    · subst h0
      have HV : Hid ((0 : Int) = ans) := hide (by rw [← HA.out]; simp [])
      go_enter Tryz.func77, Tryz.ntmps77
      go_upto_region 1 with fail
      rw [HW0.out]
      go_wp2
      go_ret
      exact ⟨by rw [← HV.out]; rfl, HBL.out⟩
    · skip
      have HV : Hid (sc = ans) := hide (by rw [← HA.out]; simp [h0])
      have m0 : (sc == 0) = false := by simpa using h0
      go_enter Tryz.func77, Tryz.ntmps77
      go_upto_region 1 with fail
      rw [HW0.out]
      go_wp2
      go_ret
      exact ⟨by rw [← HV.out]; rfl, HBL.out⟩
  · by_cases h0 : sc = 0
    · subst h0
      have HV : Hid ((0 : Int) = ans) := hide (by rw [← HA.out]; simp [c1, c2, c3])
      have m1 : (conj == 1) = false := by simpa using c1
      have m2 : (conj == 2) = false := by simpa using c2
      have m3 : (conj == 3) = false := by simpa using c3
      go_enter Tryz.func77, Tryz.ntmps77
      go_upto_region 1 with fail
      rw [HW0.out]
      go_wp2
      go_ret
      exact ⟨by rw [← HV.out]; rfl, HBL.out⟩
    · skip
      have HV : Hid ((0 : Int) = ans) := hide (by rw [← HA.out]; simp [c1, c2, c3, h0])
      have m1 : (conj == 1) = false := by simpa using c1
      have m2 : (conj == 2) = false := by simpa using c2
      have m3 : (conj == 3) = false := by simpa using c3
      have m0 : (sc == 0) = false := by simpa using h0
      go_enter Tryz.func77, Tryz.ntmps77
      go_upto_region 1 with fail
      rw [HW0.out]
      go_wp2
      go_ret
      exact ⟨by rw [← HV.out]; rfl, HBL.out⟩
end Go.Proofs.YtdjpdllehhecpaaGreatDoor
