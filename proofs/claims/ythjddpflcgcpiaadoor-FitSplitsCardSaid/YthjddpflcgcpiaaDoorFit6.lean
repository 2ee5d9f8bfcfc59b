/-
  What fit's function that cuts a row in two returns.
-/
import Derived.Test.YthjddpflcgcpiaaDoorFit5
namespace Go.Proofs.YthjddpflcgcpiaaDoor
open Go.RowKit
set_option linter.unusedVariables false
set_option linter.unusedSimpArgs false

theorem add_lit0 (g n : Nat) : (⟨g, 0, none⟩ : Addr).add n = ⟨g, n, none⟩ := by rw [Addr.add_lit]; simp

set_option maxHeartbeats 4000000 in
theorem Split_ok (base : Nat) (v : Value) (l : List CellV) (wrap : Bool) (col : Nat) (w : World) (h : RowIs base w v l wrap) (h0 : 0 < col) (h1 : col < l.length) (h2 : l.length ≤ 1024) (hs : soundB l = true) :
    Calls Tryd.prog 27 #[v, .int .i64 col] w fun e w' => ∃ a b, e = .returned (.tuple #[a, b]) ∧ RowOf w.heap.size w' a ((splitO l col).take col) false ∧ RowOf w.heap.size w' b ((splitO l col).drop col) false ∧ Below w.heap.size w w' := by
  have hL := split_left l col h0 h1 hs
  have hR := split_right l col h0
  have hsl := split_sound_l l col h0 h1 hs
  have hsr := split_sound_r l col h0 h1 hs
  have hln := sound_len hs
  have hsp := isSp_iff l col h1
  have hxl : ((splitO l col).take col).length = col := by rw [List.length_take, splitO_len]; omega
  have hyl : ((splitO l col).drop col).length = l.length - col := by rw [List.length_drop, splitO_len]
  generalize (splitO l col).take col = x at *
  generalize (splitO l col).drop col = y at *
  have HL := hide hL
  have HR := hide hR
  have HSL := hide hsl
  have HSR := hide hsr
  have HLN := hide hln
  have HSP := hide hsp
  have HXL := hide hxl
  have HYL := hide hyl
  clear hL hR hsl hsr hln hsp hxl hyl hs
  have HH := hide h
  obtain ⟨g0, s0, rfl, _, _, _⟩ := h
  have h1' : ¬ (l.length : Int) ≤ col := by omega
  have h0' : ¬ (col : Int) < 1 := by omega
  go_enter Tryd.func27, Tryd.ntmps27
  go_wp2_with fail
  refine (Wide_ok base _ l wrap _ HH.out).mono ?_
  rintro e w0 ⟨rfl, rfl⟩
  go_wp2_with fail
  refine (Cells_ok base _ l wrap _ HH.out (by omega) HLN.out).mono ?_
  rintro e w1 ⟨s1, rfl, hown, hb1⟩
  have hown := hown.own w.heap.size (Nat.zero_le _) (Nat.le_refl _)
  have hz1 := hb1.size
  obtain ⟨g, cap, xs, rest, rfl, hgb, hblk, hxl, hels, hsz, hcap, hcm⟩ := own_open hown (by omega)
  have hgl := hblk.lt
  clear hblk hels hxl hsz
  obtain ⟨gl, hgb', f0, f1, ⟨a0, q0⟩, ⟨a1, q1⟩, ⟨cs0, hbk⟩, hfin, hgr, hst⟩ := own_put hown rfl (k := col) h1 (0, []) (.slice none 0 0) (by decide) Slc.nil_
  obtain ⟨b', off', sv, hge, _, x0, x1, _, _⟩ := cell_at hown.slc.slb (k := col) h1
  obtain ⟨rfl, rfl⟩ : g = b' ∧ 0 = off' := by simpa using hge
  simp only [Nat.zero_add] at x0 x1
  clear q0 q1
  have HBK := hide hbk
  have HFIN := hide hfin
  have HB := hide (hb1.trans (hst.below hz1))
  have HB2 : Hid (∃ cs, Blk _ g 46 cs) := hide (Exists.intro _ ((hbk.set_ (col * 2) (.int .i64 0)).set_ (col * 2 + 1) (.slice none 0 0)))
  clear hfin hgr hst hbk
  by_cases hk : l[col].1 = 3
  · have hk2 : (l[col].1 == 3) = true := by simpa using hk
    have hsp := HSP.out.2 hk
    have HE : Hid (blankAt l col = _) := hide (if_pos hsp)
    clear hk hsp
    go_wp2
    generalize hw2 : (w1.setCell ⟨g, col * 2, none⟩ (.int .i64 0)).setCell ⟨g, col * 2 + 1, none⟩ (.slice none 0 0) = w2 at *
    have hlo := HFIN.out
    have hb2 := HB.out
    obtain ⟨cs, hblkg⟩ := HB2.out
    rw [← HE.out] at hlo
    clear HE HFIN HB HB2 hw2 x0 x1 f0 f1 HBK gl hgl hown hb1
    have hgl := hblkg.lt
    have hlb := blankAt_len l col
    generalize blankAt l col = lb at *
    have hz2 := hb2.size
    have esz : RCell.sz = 2 := rfl
    have hxl := HXL.out
    have hyl := HYL.out
    have hcl : col ≤ l.length := by omega
    have hcc : ¬ cap = col := by omega
    refine wp_region_held_drew (S := fun w' => True) (by kernel_rfl) trivial (fun hHeld => ?_)
    have hlo := own_dr hlo
    have hb2 := below_dr hb2
    have hz2 := hb2.size
    refine wpAnyH_take (i := 0) (oi := ?_) (v := ?_) ?_ (by kernel_rfl) (by kernel_rfl) (by kernel_rfl) ?_ (Or.inl ⟨?_, ?_⟩) (by assumption) ?_
    rotate_left 2
    · (simp only [List.getElem?_toArray, List.getElem?_cons_succ, List.getElem?_cons_zero]; rfl)
    rotate_left 1
    · rfl
    · (intro w hSw; (try dsimp only at hSw); go_simp; try with_reducible rfl)
    rotate_left 1
    · exact fun _ _ _ h => h
    try simp only [Act.put, List.setIfInBounds_toArray, List.set_cons_zero, List.set_cons_succ]
    refine wpAnyH_take (i := 1) (oi := ?_) (v := ?_) ?_ (by kernel_rfl) (by kernel_rfl) (by kernel_rfl) ?_ (Or.inl ⟨?_, ?_⟩) (by assumption) ?_
    rotate_left 2
    · (simp only [List.getElem?_toArray, List.getElem?_cons_succ, List.getElem?_cons_zero]; rfl)
    rotate_left 1
    · rfl
    · (intro w hSw; (try dsimp only at hSw); go_simp; try with_reducible rfl)
    rotate_left 1
    · exact fun _ _ _ h => h
    try simp only [Act.put, List.setIfInBounds_toArray, List.set_cons_zero, List.set_cons_succ]
    refine wpAnyH_take (i := 4) (oi := ?_) (v := ?_) ?_ (by kernel_rfl) (by kernel_rfl) (by kernel_rfl) ?_ (Or.inl ⟨?_, ?_⟩) (by assumption) ?_
    rotate_left 2
    · (simp only [List.getElem?_toArray, List.getElem?_cons_succ, List.getElem?_cons_zero]; rfl)
    rotate_left 1
    · rfl
    · (intro w hSw; (try dsimp only at hSw); go_simp; try with_reducible rfl)
    rotate_left 1
    · exact fun _ _ _ h => h
    try simp only [Act.put, List.setIfInBounds_toArray, List.set_cons_zero, List.set_cons_succ]
    refine wpAnyH_take (i := 5) (oi := ?_) (v := ?_) ?_ (by kernel_rfl) (by kernel_rfl) (by kernel_rfl) ?_ (Or.inl ⟨?_, ?_⟩) (by assumption) ?_
    rotate_left 2
    · (simp only [List.getElem?_toArray, List.getElem?_cons_succ, List.getElem?_cons_zero]; rfl)
    rotate_left 1
    · rfl
    · (intro w hSw; (try dsimp only at hSw); go_simp; try with_reducible rfl)
    rotate_left 1
    · exact fun _ _ _ h => h
    try simp only [Act.put, List.setIfInBounds_toArray, List.set_cons_zero, List.set_cons_succ]
    refine wpAnyH_take (i := 6) (oi := ?_) (v := ?_) ?_ (by kernel_rfl) (by kernel_rfl) (by kernel_rfl) ?_ (Or.inl ⟨?_, ?_⟩) (by assumption) ?_
    rotate_left 2
    · (simp only [List.getElem?_toArray, List.getElem?_cons_succ, List.getElem?_cons_zero]; rfl)
    rotate_left 1
    · rfl
    · (intro w hSw; (try dsimp only at hSw); go_simp; try with_reducible rfl)
    rotate_left 1
    · exact fun _ _ _ h => h
    try simp only [Act.put, List.setIfInBounds_toArray, List.set_cons_zero, List.set_cons_succ]
    refine wpAnyH_ready (rs := [2]) (by kernel_rfl) (by simp) ?_
    refine AllReadyH.cons (o := ?_) ?_ (fun K hK => ?_) AllReadyH.nil
    rotate_left 1
    · (simp only [List.getElem?_toArray, List.getElem?_cons_succ, List.getElem?_cons_zero]; rfl)
    go_simp
    go_at_call 79
    refine (cut_ok2 w.heap.size g cap lb col l.length _ hlo hlb (by omega) (by omega) (by omega)).mono ?_
    rintro e w3 ⟨rfl, hgrw3, hstw3, lw3, hownw3, hlw3, htw3, hdw3⟩
    have hbw3 := hb2.trans (hstw3.below hz2)
    have hzw3 := hbw3.size
    refine hK.out _ _ trivial (fun hHeld => ?_)
    clear hK K
    try simp only [Act.put, List.setIfInBounds_toArray, List.set_cons_zero, List.set_cons_succ]
    refine wpAnyH_ready (rs := [3]) (by kernel_rfl) (by simp) ?_
    refine AllReadyH.cons (o := ?_) ?_ (fun K hK => ?_) AllReadyH.nil
    rotate_left 1
    · (simp only [List.getElem?_toArray, List.getElem?_cons_succ, List.getElem?_cons_zero]; rfl)
    go_simp
    go_at_call 78
    have hfrw4 := hownw3.slc
    rw [← hlw3] at hfrw4
    have hfrw4 := hfrw4.front (k := col) (by omega)
    rw [htw3, HL.out] at hfrw4
    have hfrw4 := hfrw4.recap (c' := col) (Nat.le_refl _) (by simp only [maxLen]; omega)
    refine (of_ok _ _ _ _ _ hfrw4 (by omega) (by omega) HSL.out).mono ?_
    rintro e w4 ⟨vw4, rfl, hvw4, hbbw4⟩
    have hbw4 := hbw3.trans (hbbw4.mono hzw3)
    have hzw4 := hbw4.size
    refine hK.out _ _ trivial (fun hHeld => ?_)
    clear hK K
    try simp only [Act.put, List.setIfInBounds_toArray, List.set_cons_zero, List.set_cons_succ]
    refine wpAnyH_ready (rs := [7]) (by kernel_rfl) (by simp) ?_
    refine AllReadyH.cons (o := ?_) ?_ (fun K hK => ?_) AllReadyH.nil
    rotate_left 1
    · (simp only [List.getElem?_toArray, List.getElem?_cons_succ, List.getElem?_cons_zero]; rfl)
    go_simp
    go_at_call 78
    have hfrw5 := (hownw3.below hbbw4).slc
    rw [← hlw3] at hfrw5
    have hfrw5 := hfrw5.cut (k := col) (by omega)
    rw [hlw3, hdw3, HR.out, if_neg (by omega)] at hfrw5
    simp only [Option.map_some, add_lit0, esz] at hfrw5
    refine (of_ok _ _ _ _ _ hfrw5 (by omega) (by omega) HSR.out).mono ?_
    rintro e w5 ⟨vw5, rfl, hvw5, hbbw5⟩
    have hbw5 := hbw4.trans (hbbw5.mono hzw4)
    have hzw5 := hbw5.size
    refine hK.out _ _ trivial (fun hHeld => ?_)
    clear hK K
    try simp only [Act.put, List.setIfInBounds_toArray, List.set_cons_zero, List.set_cons_succ]
    refine wpAnyH_take (i := 8) (oi := ?_) (v := ?_) ?_ (by kernel_rfl) (by kernel_rfl) (by kernel_rfl) ?_ (Or.inl ⟨?_, ?_⟩) (by assumption) ?_
    rotate_left 2
    · (simp only [List.getElem?_toArray, List.getElem?_cons_succ, List.getElem?_cons_zero]; rfl)
    rotate_left 1
    · rfl
    · (intro w hSw; (try dsimp only at hSw); go_simp; try with_reducible rfl)
    rotate_left 1
    · exact fun _ _ _ h => h
    try simp only [Act.put, List.setIfInBounds_toArray, List.set_cons_zero, List.set_cons_succ]
    refine wpAnyH_take (i := 9) (oi := ?_) (v := ?_) ?_ (by kernel_rfl) (by kernel_rfl) (by kernel_rfl) ?_ (Or.inl ⟨?_, ?_⟩) (by assumption) ?_
    rotate_left 2
    · (simp only [List.getElem?_toArray, List.getElem?_cons_succ, List.getElem?_cons_zero]; rfl)
    rotate_left 1
    · rfl
    · (intro w hSw; (try dsimp only at hSw); go_simp; try with_reducible rfl)
    rotate_left 1
    · exact fun _ _ _ h => h
    try simp only [Act.put, List.setIfInBounds_toArray, List.set_cons_zero, List.set_cons_succ]
    refine wpAnyH_done (by kernel_rfl) ?_ _
    go_wp2
    go_ret2
    exact ⟨_, _, rfl, ⟨_, hzw3, hvw4.below hbbw5⟩, ⟨_, hzw4, hvw5⟩, hbw5⟩
  · have hk2 : (l[col].1 == 3) = false := by simpa using hk
    have hsp : ¬ isSp l col := fun h => hk (HSP.out.1 h)
    have HE : Hid (blankAt l col = _) := hide (if_neg hsp)
    clear hk hsp
    go_wp2
    have hlo : Own RCell 46 [21] w.heap.size w1 (.slice (some ⟨g, 0, none⟩) l.length cap) (blankAt l col) := by rw [HE.out]; exact hown
    have hb2 := hb1
    have hblkg := HBK.out
    clear HE HFIN HB HB2 x0 x1 f0 f1 HBK gl hgl hown hb1
    have hgl := hblkg.lt
    have hlb := blankAt_len l col
    generalize blankAt l col = lb at *
    have hz2 := hb2.size
    have esz : RCell.sz = 2 := rfl
    have hxl := HXL.out
    have hyl := HYL.out
    have hcl : col ≤ l.length := by omega
    have hcc : ¬ cap = col := by omega
    refine wp_region_held_drew (S := fun w' => True) (by kernel_rfl) trivial (fun hHeld => ?_)
    have hlo := own_dr hlo
    have hb2 := below_dr hb2
    have hz2 := hb2.size
    refine wpAnyH_take (i := 0) (oi := ?_) (v := ?_) ?_ (by kernel_rfl) (by kernel_rfl) (by kernel_rfl) ?_ (Or.inl ⟨?_, ?_⟩) (by assumption) ?_
    rotate_left 2
    · (simp only [List.getElem?_toArray, List.getElem?_cons_succ, List.getElem?_cons_zero]; rfl)
    rotate_left 1
    · rfl
    · (intro w hSw; (try dsimp only at hSw); go_simp; try with_reducible rfl)
    rotate_left 1
    · exact fun _ _ _ h => h
    try simp only [Act.put, List.setIfInBounds_toArray, List.set_cons_zero, List.set_cons_succ]
    refine wpAnyH_take (i := 1) (oi := ?_) (v := ?_) ?_ (by kernel_rfl) (by kernel_rfl) (by kernel_rfl) ?_ (Or.inl ⟨?_, ?_⟩) (by assumption) ?_
    rotate_left 2
    · (simp only [List.getElem?_toArray, List.getElem?_cons_succ, List.getElem?_cons_zero]; rfl)
    rotate_left 1
    · rfl
    · (intro w hSw; (try dsimp only at hSw); go_simp; try with_reducible rfl)
    rotate_left 1
    · exact fun _ _ _ h => h
    try simp only [Act.put, List.setIfInBounds_toArray, List.set_cons_zero, List.set_cons_succ]
    refine wpAnyH_take (i := 4) (oi := ?_) (v := ?_) ?_ (by kernel_rfl) (by kernel_rfl) (by kernel_rfl) ?_ (Or.inl ⟨?_, ?_⟩) (by assumption) ?_
    rotate_left 2
    · (simp only [List.getElem?_toArray, List.getElem?_cons_succ, List.getElem?_cons_zero]; rfl)
    rotate_left 1
    · rfl
    · (intro w hSw; (try dsimp only at hSw); go_simp; try with_reducible rfl)
    rotate_left 1
    · exact fun _ _ _ h => h
    try simp only [Act.put, List.setIfInBounds_toArray, List.set_cons_zero, List.set_cons_succ]
    refine wpAnyH_take (i := 5) (oi := ?_) (v := ?_) ?_ (by kernel_rfl) (by kernel_rfl) (by kernel_rfl) ?_ (Or.inl ⟨?_, ?_⟩) (by assumption) ?_
    rotate_left 2
    · (simp only [List.getElem?_toArray, List.getElem?_cons_succ, List.getElem?_cons_zero]; rfl)
    rotate_left 1
    · rfl
    · (intro w hSw; (try dsimp only at hSw); go_simp; try with_reducible rfl)
    rotate_left 1
    · exact fun _ _ _ h => h
    try simp only [Act.put, List.setIfInBounds_toArray, List.set_cons_zero, List.set_cons_succ]
    refine wpAnyH_take (i := 6) (oi := ?_) (v := ?_) ?_ (by kernel_rfl) (by kernel_rfl) (by kernel_rfl) ?_ (Or.inl ⟨?_, ?_⟩) (by assumption) ?_
    rotate_left 2
    · (simp only [List.getElem?_toArray, List.getElem?_cons_succ, List.getElem?_cons_zero]; rfl)
    rotate_left 1
    · rfl
    · (intro w hSw; (try dsimp only at hSw); go_simp; try with_reducible rfl)
    rotate_left 1
    · exact fun _ _ _ h => h
    try simp only [Act.put, List.setIfInBounds_toArray, List.set_cons_zero, List.set_cons_succ]
    refine wpAnyH_ready (rs := [2]) (by kernel_rfl) (by simp) ?_
    refine AllReadyH.cons (o := ?_) ?_ (fun K hK => ?_) AllReadyH.nil
    rotate_left 1
    · (simp only [List.getElem?_toArray, List.getElem?_cons_succ, List.getElem?_cons_zero]; rfl)
    go_simp
    go_at_call 79
    refine (cut_ok2 w.heap.size g cap lb col l.length _ hlo hlb (by omega) (by omega) (by omega)).mono ?_
    rintro e w3 ⟨rfl, hgrw3, hstw3, lw3, hownw3, hlw3, htw3, hdw3⟩
    have hbw3 := hb2.trans (hstw3.below hz2)
    have hzw3 := hbw3.size
    refine hK.out _ _ trivial (fun hHeld => ?_)
    clear hK K
    try simp only [Act.put, List.setIfInBounds_toArray, List.set_cons_zero, List.set_cons_succ]
    refine wpAnyH_ready (rs := [3]) (by kernel_rfl) (by simp) ?_
    refine AllReadyH.cons (o := ?_) ?_ (fun K hK => ?_) AllReadyH.nil
    rotate_left 1
    · (simp only [List.getElem?_toArray, List.getElem?_cons_succ, List.getElem?_cons_zero]; rfl)
    go_simp
    go_at_call 78
    have hfrw4 := hownw3.slc
    rw [← hlw3] at hfrw4
    have hfrw4 := hfrw4.front (k := col) (by omega)
    rw [htw3, HL.out] at hfrw4
    have hfrw4 := hfrw4.recap (c' := col) (Nat.le_refl _) (by simp only [maxLen]; omega)
    refine (of_ok _ _ _ _ _ hfrw4 (by omega) (by omega) HSL.out).mono ?_
    rintro e w4 ⟨vw4, rfl, hvw4, hbbw4⟩
    have hbw4 := hbw3.trans (hbbw4.mono hzw3)
    have hzw4 := hbw4.size
    refine hK.out _ _ trivial (fun hHeld => ?_)
    clear hK K
    try simp only [Act.put, List.setIfInBounds_toArray, List.set_cons_zero, List.set_cons_succ]
    refine wpAnyH_ready (rs := [7]) (by kernel_rfl) (by simp) ?_
    refine AllReadyH.cons (o := ?_) ?_ (fun K hK => ?_) AllReadyH.nil
    rotate_left 1
    · (simp only [List.getElem?_toArray, List.getElem?_cons_succ, List.getElem?_cons_zero]; rfl)
    go_simp
    go_at_call 78
    have hfrw5 := (hownw3.below hbbw4).slc
    rw [← hlw3] at hfrw5
    have hfrw5 := hfrw5.cut (k := col) (by omega)
    rw [hlw3, hdw3, HR.out, if_neg (by omega)] at hfrw5
    simp only [Option.map_some, add_lit0, esz] at hfrw5
    refine (of_ok _ _ _ _ _ hfrw5 (by omega) (by omega) HSR.out).mono ?_
    rintro e w5 ⟨vw5, rfl, hvw5, hbbw5⟩
    have hbw5 := hbw4.trans (hbbw5.mono hzw4)
    have hzw5 := hbw5.size
    refine hK.out _ _ trivial (fun hHeld => ?_)
    clear hK K
    try simp only [Act.put, List.setIfInBounds_toArray, List.set_cons_zero, List.set_cons_succ]
    refine wpAnyH_take (i := 8) (oi := ?_) (v := ?_) ?_ (by kernel_rfl) (by kernel_rfl) (by kernel_rfl) ?_ (Or.inl ⟨?_, ?_⟩) (by assumption) ?_
    rotate_left 2
    · (simp only [List.getElem?_toArray, List.getElem?_cons_succ, List.getElem?_cons_zero]; rfl)
    rotate_left 1
    · rfl
    · (intro w hSw; (try dsimp only at hSw); go_simp; try with_reducible rfl)
    rotate_left 1
    · exact fun _ _ _ h => h
    try simp only [Act.put, List.setIfInBounds_toArray, List.set_cons_zero, List.set_cons_succ]
    refine wpAnyH_take (i := 9) (oi := ?_) (v := ?_) ?_ (by kernel_rfl) (by kernel_rfl) (by kernel_rfl) ?_ (Or.inl ⟨?_, ?_⟩) (by assumption) ?_
    rotate_left 2
    · (simp only [List.getElem?_toArray, List.getElem?_cons_succ, List.getElem?_cons_zero]; rfl)
    rotate_left 1
    · rfl
    · (intro w hSw; (try dsimp only at hSw); go_simp; try with_reducible rfl)
    rotate_left 1
    · exact fun _ _ _ h => h
    try simp only [Act.put, List.setIfInBounds_toArray, List.set_cons_zero, List.set_cons_succ]
    refine wpAnyH_done (by kernel_rfl) ?_ _
    go_wp2
    go_ret2
    exact ⟨_, _, rfl, ⟨_, hzw3, hvw4.below hbbw5⟩, ⟨_, hzw4, hvw5⟩, hbw5⟩
end Go.Proofs.YthjddpflcgcpiaaDoor
