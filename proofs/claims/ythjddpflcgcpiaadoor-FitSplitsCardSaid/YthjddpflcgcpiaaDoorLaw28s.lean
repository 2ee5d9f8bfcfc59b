/-
  The law on rows cut in two: the walk returns true and leaves the memory that was there as it was.
-/
import Derived.Test.YthjddpflcgcpiaaDoorLaw28w
import Derived.Test.YthjddpflcgcpiaaDoorFit7
import Derived.Test.YthjddpflcgcpiaaDoorMem3
namespace Go.Proofs.YthjddpflcgcpiaaDoor
open Go.RowKit
set_option linter.unusedVariables false
set_option linter.unusedSimpArgs false

theorem join_two (x y : List CellV) (h : 0 < x.length) (h2 : x.length + y.length ≤ 1024) : joinG [] [some x, some y] = some (x ++ y) := by
  show (if 1024 < ([] : List CellV).length then none else if 1024 < ([] ++ x).length then none else if (([] ++ x) ++ y).length = 0 ∨ 1024 < (([] ++ x) ++ y).length then none else some (([] ++ x) ++ y)) = _
  rw [if_neg (by simp), List.nil_append, if_neg (by omega), if_neg (by rw [List.length_append]; omega)]
theorem join_nil (x y : List CellV) : joinG [] [some x, none, some y] = none := by
  show (if 1024 < ([] : List CellV).length then none else none) = _
  split <;> rfl

set_option maxHeartbeats 2000000 in
theorem walkE_FitSplits (t : TypeId) (u : Value) (p : Value) (l : List CellV) (n : Int) (w : World) (hE : w.cell? ⟨0, 0, none⟩ = some (.iface t u)) (hp : Slc RCell (fun b => b < w.heap.size) (fun b => b < w.heap.size) w p l) (hn : (Lit.int .i64 n).wf = true) :
    Calls Tryd.prog 5 #[p, .int .i64 n] w fun e w' => e = .returned (.bool true) ∧ Below w.heap.size w w' := by
  have hEl := World.block_lt_of_cell? w _ hE
  simp only at hEl
  obtain ⟨A, c, rfl, hc1, hc2, hB⟩ := hp.open_
  have HE := hide hE
  clear hE
  by_cases hl : l.length ≤ 200
  · have hl2 : decide ((200 : Int) < (l.length : Int)) = false := by simp; omega
    by_cases hz : l.length = 0
    · have hz2 : ((l.length : Int) == 0) = true := by simp [hz]
      go_enter Tryd.func5, Tryd.ntmps5
      go_wp2_with fail
      refine (works28_ok t u _ HE.out).mono ?_
      rintro e w1 ⟨rfl, hb1⟩
      have hE1 := (hb1.cell (p := ⟨0, 0, none⟩) hEl).trans HE.out
      go_wp2_with fail
      refine (works28_ok t u _ hE1).mono ?_
      rintro e w2 ⟨rfl, hb2⟩
      go_wp2
      go_ret
      exact ⟨rfl, hb1.trans (hb2.mono hb1.size)⟩
    · have hz2 : ((l.length : Int) == 0) = false := by rw [beq_eq_false_iff_ne]; omega
      rcases Bool.eq_false_or_eq_true (soundB l) with hs | hs
      · have HS := hide hs
        go_enter Tryd.func5, Tryd.ntmps5
        go_wp2_with fail
        refine (works28_ok t u _ HE.out).mono ?_
        rintro e w1 ⟨rfl, hb1⟩
        have hz1 := hb1.size
        have hp1 := hp.mono (Keep.below (S := fun b => b < w.heap.size) hb1) (Keep.below (S := fun b => b < w.heap.size) hb1)
        go_wp2_with fail
        refine (rSound_ok _ _ _ l _ hp1 (by omega)).mono ?_
        rw [HS.out]
        rintro e w2 ⟨rfl, hb2⟩
        have hb2' := hb1.trans (hb2.mono hz1)
        have hz2' := hb2'.size
        have hp2 := hp.mono (Keep.below (S := fun b => b < w.heap.size) hb2') (Keep.below (S := fun b => b < w.heap.size) hb2')
        go_wp2_with fail
        refine (ROf_ok _ _ _ l _ hp2 (by omega) (by omega) HS.out).mono ?_
        rintro e w3 ⟨v3, rfl, hv3, hb3⟩
        have hb3' := hb2'.trans (hb3.mono hz2')
        have hz3 := hb3'.size
        have HV3 := hide hv3
        obtain ⟨g3, s3, rfl, _, _, _⟩ := hv3
        by_cases hr : n < 1 ∨ (l.length : Int) ≤ n
        · go_wp2_with fail
          refine (Split_out _ _ l _ n _ HV3.out hr).mono ?_
          rintro e w4 ⟨rfl, rfl⟩
          by_cases q1 : n < 1
          · clear hr
            go_wp2
            go_ret
            exact ⟨rfl, hb3'⟩
          · have q2 : (l.length : Int) ≤ n := by omega
            clear hr
            go_wp2
            go_ret
            exact ⟨rfl, hb3'⟩
        · obtain ⟨col, rfl⟩ : ∃ col : Nat, n = col := ⟨n.toNat, by omega⟩
          have c0 : 0 < col := by omega
          have c1 : col < l.length := by omega
          have q1 : ¬ (col : Int) < 1 := by omega
          have q2 : ¬ (l.length : Int) ≤ col := by omega
          clear hr
          have hjn := join_two ((splitO l col).take col) ((splitO l col).drop col) (by rw [List.length_take, splitO_len]; omega) (by rw [List.length_take, List.length_drop, splitO_len]; omega)
          have hjl := join_nil ((splitO l col).take col) ((splitO l col).drop col)
          have hxl : ((splitO l col).take col).length = col := by rw [List.length_take, splitO_len]; omega
          have hyl : ((splitO l col).drop col).length = l.length - col := by rw [List.length_drop, splitO_len]
          have hsx := split_sound_l l col c0 c1 hs
          have hsy := split_sound_r l col c0 c1 hs
          have hS := fun base v wr w h => Split_ok base v l wr col w h c0 c1 (by omega) hs
          have hS2 := fun So x w hx => rSplit_ok So x l col w hx c0 c1 (by omega)
          have hta : (splitO l col).take col ++ (splitO l col).drop col = splitO l col := List.take_append_drop _ _
          have hnl : ¬ isSp l col → splitO l col = l := fun h => if_neg h
          have hsp := isSp_iff l col c1
          generalize (splitO l col).take col = x at *
          generalize (splitO l col).drop col = y at *
          generalize splitO l col = sl at *
          have hsz : sl.length = l.length := by rw [← hta, List.length_append]; omega
          have hxs := soundG_append x y false hsx hsy
          rw [hta] at hxs hjn
          have HJN := hide hjn
          have HJL := hide hjl
          have HXL := hide hxl
          have HYL := hide hyl
          have HSX := hide hsx
          have HSY := hide hsy
          have HSS := hide hxs
          have HSZ := hide hsz
          have HTA := hide hta
          have HNL := hide hnl
          have HSP := hide hsp
          have HS1 := hide hS
          have HS2 := hide hS2
          clear hjn hjl hxl hyl hsx hsy hxs hsz hta hnl hsp hS hS2 hs
          go_wp2_with fail
          refine (HS1.out _ _ _ _ HV3.out).mono ?_
          rintro e w4 ⟨va, vb, rfl, ⟨basea, _, hva⟩, ⟨baseb, _, hvb⟩, hb4⟩
          have hb4' := hb3'.trans (hb4.mono hz3)
          have hz4 := hb4'.size
          have HVA := hide hva
          have HVB := hide hvb
          obtain ⟨ga, sa, rfl, _, _, _⟩ := hva
          obtain ⟨gb, sb, rfl, _, _, _⟩ := hvb
          have hp4 := (hp.mono (Keep.below (S := fun b => b < w.heap.size) hb4') (Keep.below (S := fun b => b < w.heap.size) hb4')).mono (So' := fun b => b < w4.heap.size) (Si' := fun b => b < w4.heap.size) (Keep.weaken fun b h => by omega) (Keep.weaken fun b h => by omega)
          go_wp2_with fail
          refine (HS2.out _ _ _ hp4).mono ?_
          rintro e w5 ⟨vx, vy, rfl, hvx, hvy, hb5⟩
          have hb5' := hb4'.trans (hb5.mono hz4)
          have hz5 := hb5'.size
          have hva5 := HVA.out.below hb5
          have hvb5 := HVB.out.below hb5
          obtain ⟨Ax, cx, rfl, _, _, _⟩ := hvx.open_
          obtain ⟨Ay, cy, rfl, _, _, _⟩ := hvy.open_
          go_wp2_with fail
          refine (Cells_ok _ _ _ _ _ hva5 (by have := HXL.out; omega) (sound_len HSX.out)).mono ?_
          rintro e w6 ⟨v6, rfl, hv6, hb6⟩
          have hb6' := hb5'.trans (hb6.mono hz5)
          have hz6 := hb6'.size
          have hvx6 := hvx.mono (Keep.below (S := fun b => b < w5.heap.size) hb6) (Keep.below (S := Typed w4.heap.size [21] w5) hb6)
          go_wp2_with fail
          refine (rSame23_ok _ _ _ _ _ _ x x _ (hv6.own 0 (Nat.le_refl _) (Nat.zero_le _)).slc hvx6).mono ?_
          rintro e w7 ⟨rfl, n7, rfl⟩
          rw [decide_eq_true rfl]
          have hb67 := below_drewN hb6 n7
          have hb7' := below_drewN hb6' n7
          have hz7 := hb7'.size
          go_wp2_with fail
          refine (Cells_ok _ _ _ _ _ (hvb5.below hb67) (by have := HYL.out; omega) (sound_len HSY.out)).mono ?_
          rintro e w8 ⟨v8, rfl, hv8, hb8⟩
          have hb58 := hb67.trans (hb8.mono hb67.size)
          have hb8' := hb7'.trans (hb8.mono hz7)
          have hz8 := hb8'.size
          have hvy8 := hvy.mono (Keep.below (S := fun b => b < w5.heap.size) hb58) (Keep.below (S := Typed w4.heap.size [21] w5) hb58)
          go_wp2_with fail
          refine (rSame23_ok _ _ _ _ _ _ y y _ (hv8.own 0 (Nat.le_refl _) (Nat.zero_le _)).slc hvy8).mono ?_
          rintro e w9 ⟨rfl, n9, rfl⟩
          rw [decide_eq_true rfl]
          have hb59 := below_drewN hb58 n9
          have hb9' := below_drewN hb8' n9
          have hz9 := hb9'.size
          go_wp2_with fail
          have hva9 := ((hva5.below hb59).alloc (.cells #[.pointer (some ⟨ga, 0, none⟩), .pointer (some ⟨gb, 0, none⟩)] 26))
          have hvb9 := ((hvb5.below hb59).alloc (.cells #[.pointer (some ⟨ga, 0, none⟩), .pointer (some ⟨gb, 0, none⟩)] 26))
          have hb59a := hb59.alloc hb59.size (.cells #[.pointer (some ⟨ga, 0, none⟩), .pointer (some ⟨gb, 0, none⟩)] 26)
          have hb9a := hb9'.alloc hz9 (.cells #[.pointer (some ⟨ga, 0, none⟩), .pointer (some ⟨gb, 0, none⟩)] 26)
          have hz9a := hb9a.size
          have hl2 : Own RPtr 26 [] w.heap.size ((w8.drewN n9).alloc (.cells #[.pointer (some ⟨ga, 0, none⟩), .pointer (some ⟨gb, 0, none⟩)] 26)) (.slice (some ⟨(w8.drewN n9).heap.size, 0, none⟩) 2 2) [some ⟨ga, 0, none⟩, some ⟨gb, 0, none⟩] :=
            Own.lit (xs := [.pointer (some ⟨ga, 0, none⟩), .pointer (some ⟨gb, 0, none⟩)]) (by decide) ⟨[_], [_], rfl, rfl, Els.single rfl⟩ hz9 rfl (by simp [maxLen])
          refine (Join_ok _ _ _ [some ⟨ga, 0, none⟩, some ⟨gb, 0, none⟩] [some x, some y] t u _ (hl2.fslc RPtr.flat) rfl (by simp) ?_ ((hb9a.cell (p := ⟨0, 0, none⟩) hEl).trans HE.out)).mono ?_
          · intro k hk hk'
            match k with
            | 0 => exact ⟨⟨_, _, hva9⟩, HSX.out, by have := HXL.out; show x.length ≤ 1024; omega⟩
            | 1 => exact ⟨⟨_, _, hvb9⟩, HSY.out, by have := HYL.out; show y.length ≤ 1024; omega⟩
            | k + 2 => exact absurd hk (by simp only [List.length_cons, List.length_nil]; omega)
          rw [HJN.out]
          rintro e w10 ⟨v10, rfl, ⟨base10, _, hv10⟩, hb10⟩
          have hb510 := hb59a.trans (hb10.mono hb59a.size)
          have hb10' := hb9a.trans (hb10.mono hz9a)
          have hz10 := hb10'.size
          have HV10 := hide hv10
          obtain ⟨g10, s10, rfl, _, _, _⟩ := hv10
          go_wp2_with fail
          refine (Cells_ok _ _ _ _ _ HV10.out (by have := HSZ.out; omega) (sound_len HSS.out)).mono ?_
          rintro e w11 ⟨v11, rfl, hv11, hb11⟩
          have hb511 := hb510.trans (hb11.mono hb510.size)
          have hb11' := hb10'.trans (hb11.mono hz10)
          have hz11 := hb11'.size
          have hz511 := hb511.size
          have hz1011 := hb11.size
          have hown0 := own_cells0 w11 w11.heap.size (Nat.le_refl _)
          have hb511a := hb511.alloc hz511 (.cells #[] 46)
          have hlt5 : ∀ b, Typed w4.heap.size [21] w5 b → b < w5.heap.size := by
            have := hb5.size
            rintro b (h | ⟨cs, tt, fz, h, _⟩)
            · omega
            · exact (Array.getElem?_eq_some_iff.1 h).1
          have hvx11 := (hvx.mono (Keep.refl _ _) (Keep.weaken hlt5)).mono (Keep.below (S := fun b => b < w5.heap.size) hb511a) (Keep.below (S := fun b => b < w5.heap.size) hb511a)
          have hvy11 := (hvy.mono (Keep.refl _ _) (Keep.weaken hlt5)).mono (Keep.below (S := fun b => b < w5.heap.size) hb511a) (Keep.below (S := fun b => b < w5.heap.size) hb511a)
          have hJ3 : ∀ W : World, Below w5.heap.size w5 W → Below w.heap.size w W → Calls Tryd.prog 19 #[.slice (some ⟨W.heap.size, 0, none⟩) 3 3] (W.alloc (.cells #[.pointer (some ⟨ga, 0, none⟩), .pointer none, .pointer (some ⟨gb, 0, none⟩)] 26)) fun e w' => e = .returned (.pointer none) ∧ Below w.heap.size w w' := by
            intro W h5 h0
            have hz := h0.size
            have hA := ((hva5.below h5).alloc (.cells #[.pointer (some ⟨ga, 0, none⟩), .pointer none, .pointer (some ⟨gb, 0, none⟩)] 26))
            have hB := ((hvb5.below h5).alloc (.cells #[.pointer (some ⟨ga, 0, none⟩), .pointer none, .pointer (some ⟨gb, 0, none⟩)] 26))
            have h0a := h0.alloc hz (.cells #[.pointer (some ⟨ga, 0, none⟩), .pointer none, .pointer (some ⟨gb, 0, none⟩)] 26)
            have hl3 : Own RPtr 26 [] w.heap.size (W.alloc (.cells #[.pointer (some ⟨ga, 0, none⟩), .pointer none, .pointer (some ⟨gb, 0, none⟩)] 26)) (.slice (some ⟨W.heap.size, 0, none⟩) 3 3) [some ⟨ga, 0, none⟩, none, some ⟨gb, 0, none⟩] :=
              Own.lit (xs := [.pointer (some ⟨ga, 0, none⟩), .pointer none, .pointer (some ⟨gb, 0, none⟩)]) (by decide) ⟨[_], [_, _], rfl, rfl, ⟨[_], [_], rfl, rfl, Els.single rfl⟩⟩ hz rfl (by simp [maxLen])
            refine (Join_ok _ _ _ [some ⟨ga, 0, none⟩, none, some ⟨gb, 0, none⟩] [some x, none, some y] t u _ (hl3.fslc RPtr.flat) rfl (by simp) ?_ ((h0a.cell (p := ⟨0, 0, none⟩) hEl).trans HE.out)).mono ?_
            · intro k hk hk'
              match k with
              | 0 => exact ⟨⟨_, _, hA⟩, HSX.out, by have := HXL.out; show x.length ≤ 1024; omega⟩
              | 1 => exact rfl
              | 2 => exact ⟨⟨_, _, hB⟩, HSY.out, by have := HYL.out; show y.length ≤ 1024; omega⟩
              | k + 3 => exact absurd hk (by simp only [List.length_cons, List.length_nil]; omega)
            rw [HJL.out]
            rintro e w' ⟨v', rfl, rfl, hb'⟩
            exact ⟨rfl, h0a.trans (hb'.mono h0a.size)⟩
          have HJ3 := hide hJ3
          clear hJ3
          go_wp2_with (first
            | (at_builtin; refine wpList_apph (.tmp 92) (.tmp 93) 22 rfl rfl RCell 46 [21] w11.heap.size 32 _ Tryd.underlying22 cell_info rfl (by decide) (by decide) _ _ rfl hown0 _ _ _ _ rfl hvx11 (fun b h => .inl (by omega)) (by have := HXL.out; simp; omega) (by simp) ?_; intro v12 w12 hv12 hst12 hg12 hob12; rw [List.nil_append] at hv12; have hz12 := hst12.size; have hvy12 := hvy11.mono (Keep.old (S := fun b => b < w5.heap.size) hst12 (fun b h => by omega)) (Keep.old (S := fun b => b < w5.heap.size) hst12 (fun b h => by omega)))
            | (at_builtin; refine wpList_apph (.tmp 94) (.tmp 95) 22 rfl rfl RCell 46 [21] w11.heap.size 32 _ Tryd.underlying22 cell_info rfl (by decide) (by decide) _ _ rfl hv12 _ _ _ _ rfl hvy12 (fun b h => .inl (by omega)) (by have := HXL.out; have := HYL.out; omega) (by simp at hz12; omega) ?_; intro v13 w13 hv13 hst13 hg13 hob13; rw [HTA.out] at hv13))
          have hb1113 : Below w11.heap.size w11 w13 := (((Step.alloc1 w11.heap.size [46] w11 _).trans hst12).trans hst13).below (Nat.le_refl _)
          have hb1013 := hb11.trans (hb1113.mono hz1011)
          have hb513 := hb511.trans (hb1113.mono hz511)
          have hb13' := hb11'.trans (hb1113.mono hz11)
          refine (rSame23_ok _ _ _ _ _ _ sl sl _ ((hv11.below hb1113).own 0 (Nat.le_refl _) (Nat.zero_le _)).slc hv13.slc).mono ?_
          rintro e w14 ⟨rfl, n14, rfl⟩
          rw [decide_eq_true rfl]
          have hb1014 := below_drewN hb1013 n14
          have hb514 := below_drewN hb513 n14
          have hb14' := below_drewN hb13' n14
          have hz14 := hb14'.size
          have hz514 := hb514.size
          have hp14 := hp.mono (Keep.below (S := fun b => b < w.heap.size) hb14') (Keep.below (S := fun b => b < w.heap.size) hb14')
          obtain ⟨ab, off, sv, rfl, _, q3, q4, _, _⟩ := cell_at hp14.slb (k := col) c1
          by_cases hk : l[col].1 = 3
          · have hk2 : (l[col].1 == 3) = true := by simpa using hk
            go_wp2_with fail
            refine (HJ3.out _ hb514 hb14').mono ?_
            rintro e w15 ⟨rfl, hb15⟩
            go_wp2
            go_ret
            exact ⟨rfl, hb15⟩
          · have hk2 : (l[col].1 == 3) = false := by simpa using hk
            have hsl := HNL.out (fun h => hk (HSP.out.1 h))
            go_wp2_with fail
            refine (Cells_ok _ _ _ _ _ (HV10.out.below hb1014) (by have := HSZ.out; omega) (sound_len HSS.out)).mono ?_
            rintro e w15 ⟨v15, rfl, hv15, hb15⟩
            have hb515 := hb514.trans (hb15.mono hz514)
            have hb15' := hb14'.trans (hb15.mono hz14)
            have hp15 := hp.mono (Keep.below (S := fun b => b < w.heap.size) hb15') (Keep.below (S := fun b => b < w.heap.size) hb15')
            rw [hsl] at hv15
            go_wp2_with fail
            refine (rSame23_ok _ _ _ _ _ _ l l _ (hv15.own 0 (Nat.le_refl _) (Nat.zero_le _)).slc hp15).mono ?_
            rintro e w16 ⟨rfl, n16, rfl⟩
            rw [decide_eq_true rfl]
            go_wp2_with fail
            refine (HJ3.out _ (below_drewN hb515 n16) (below_drewN hb15' n16)).mono ?_
            rintro e w17 ⟨rfl, hb17⟩
            go_wp2
            go_ret
            exact ⟨rfl, hb17⟩
      · have HS := hide hs
        go_enter Tryd.func5, Tryd.ntmps5
        go_wp2_with fail
        refine (works28_ok t u _ HE.out).mono ?_
        rintro e w1 ⟨rfl, hb1⟩
        have hE1 := (hb1.cell (p := ⟨0, 0, none⟩) hEl).trans HE.out
        have hp1 := hp.mono (Keep.below (S := fun b => b < w.heap.size) hb1) (Keep.below (S := fun b => b < w.heap.size) hb1)
        go_wp2_with fail
        refine (rSound_ok _ _ _ l _ hp1 (by omega)).mono ?_
        rw [HS.out]
        rintro e w1b ⟨rfl, hb1b⟩
        have hE1 := (hb1b.cell (p := ⟨0, 0, none⟩) (Nat.lt_of_lt_of_le hEl hb1.size)).trans hE1
        have hb1 := hb1.trans (hb1b.mono hb1.size)
        go_wp2_with fail
        refine (works28_ok t u _ hE1).mono ?_
        rintro e w2 ⟨rfl, hb2⟩
        go_wp2
        go_ret
        exact ⟨rfl, hb1.trans (hb2.mono hb1.size)⟩
  · have hl2 : decide ((200 : Int) < (l.length : Int)) = true := by simp; omega
    go_enter Tryd.func5, Tryd.ntmps5
    go_wp2_with fail
    refine (works28_ok t u _ HE.out).mono ?_
    rintro e w1 ⟨rfl, hb1⟩
    have hE1 := (hb1.cell (p := ⟨0, 0, none⟩) hEl).trans HE.out
    go_wp2_with fail
    refine (works28_ok t u _ hE1).mono ?_
    rintro e w2 ⟨rfl, hb2⟩
    go_wp2
    go_ret
    exact ⟨rfl, hb1.trans (hb2.mono hb1.size)⟩
end Go.Proofs.YthjddpflcgcpiaaDoor
