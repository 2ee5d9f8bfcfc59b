/-
  The law on rows of another width: the walk returns true and leaves the memory that was there as it was.
-/
import Derived.Test.YthjddpflcgcpiaaDoorLaw28w
import Derived.Test.YthjddpflcgcpiaaDoorFit4
namespace Go.Proofs.YthjddpflcgcpiaaDoor
open Go.RowKit
set_option linter.unusedVariables false
set_option linter.unusedSimpArgs false

set_option maxHeartbeats 2000000 in
theorem walkE_FitResizes (t : TypeId) (u : Value) (p : Value) (l : List CellV) (n : Int) (w : World) (hE : w.cell? ⟨0, 0, none⟩ = some (.iface t u)) (hp : Slc RCell (fun b => b < w.heap.size) (fun b => b < w.heap.size) w p l) (hn : (Lit.int .i64 n).wf = true) :
    Calls Tryd.prog 4 #[p, .int .i64 n] w fun e w' => e = .returned (.bool true) ∧ Below w.heap.size w w' := by
  have hEl := World.block_lt_of_cell? w _ hE
  simp only at hEl
  obtain ⟨A, c, rfl, hc1, hc2, hB⟩ := hp.open_
  have HE := hide hE
  clear hE
  by_cases hl : l.length ≤ 200
  · have hl2 : decide ((200 : Int) < (l.length : Int)) = false := by simp; omega
    by_cases hz : l.length = 0
    · have hz2 : ((l.length : Int) == 0) = true := by simp [hz]
      go_enter Tryd.func4, Tryd.ntmps4
      go_wp2_with fail
      refine (works28_ok t u _ HE.out).mono ?_
      rintro e w1 ⟨rfl, hb1⟩
      have hE1 := (hb1.cell (p := ⟨0, 0, none⟩) hEl).trans HE.out
      go_wp2_with fail
      refine (works28_ok t u _ hE1).mono ?_
      rintro e w2 ⟨rfl, hb2⟩
      go_wp2
      go_ret
      exact ⟨rfl, hb1.trans (hb2.mono hb1.size)⟩
    · have hz2 : ((l.length : Int) == 0) = false := by rw [beq_eq_false_iff_ne]; omega
      rcases Bool.eq_false_or_eq_true (soundB l) with hs | hs
      · have HS := hide hs
        have hrl := resize_len l n
        have hrs := resize_sound l n (by omega) hs
        have hrb := resize_back l n (by omega) (by omega) hs
        have hw1 : 1 ≤ wideN n ∧ wideN n ≤ 1024 := by unfold wideN; omega
        generalize hRF : resizeF l n = rl at *
        generalize hWW : wideN n = W at *
        have HRF := hide hRF
        have HRS := hide hrs
        have HRB := hide hrb
        have HRL := hide hrl
        clear hrl hrs hrb hRF hWW
        go_enter Tryd.func4, Tryd.ntmps4
        go_wp2_with fail
        refine (works28_ok t u _ HE.out).mono ?_
        rintro e w1 ⟨rfl, hb1⟩
        have hz1 := hb1.size
        have hp1 := hp.mono (Keep.below (S := fun b => b < w.heap.size) hb1) (Keep.below (S := fun b => b < w.heap.size) hb1)
        go_wp2_with fail
        refine (rSound_ok _ _ _ l _ hp1 (by omega)).mono ?_
        rw [HS.out]
        rintro e w2 ⟨rfl, hb2⟩
        have hb2' := hb1.trans (hb2.mono hz1)
        have hz2' := hb2'.size
        have hp2 := hp.mono (Keep.below (S := fun b => b < w.heap.size) hb2') (Keep.below (S := fun b => b < w.heap.size) hb2')
        go_wp2_with fail
        refine (ROf_ok _ _ _ l _ hp2 (by omega) (by omega) HS.out).mono ?_
        rintro e w3 ⟨v3, rfl, hv3, hb3⟩
        have hb3' := hb2'.trans (hb3.mono hz2')
        have hz3 := hb3'.size
        have HV3 := hide hv3
        obtain ⟨g3, s3, rfl, _, _, _⟩ := hv3
        go_wp2_with fail
        refine (GoOn_ok _ _ l _ true _ HV3.out).mono ?_
        rintro e w4 ⟨⟨r4, rfl⟩, hv4, hst4⟩
        have hb4' := hb3'.trans ((hst4.below hb3.size).mono hz2')
        have hz4 := hb4'.size
        go_wp2_with fail
        refine (Resize_ok _ _ l _ n _ hv4 hn (by omega) (by omega) HS.out).mono ?_
        rw [HRF.out]
        rintro e w5 ⟨v5, rfl, ⟨base5, _, hv5⟩, hb5⟩
        have hb5' := hb4'.trans (hb5.mono hz4)
        have hz5 := hb5'.size
        have hv45 := hv4.below hb5
        have HV5 := hide hv5
        obtain ⟨g5, s5, rfl, _, _, _⟩ := hv5
        go_wp2_with fail
        refine (Cells_ok _ _ _ _ _ HV5.out (by have := HRL.out; omega) (sound_len HRS.out)).mono ?_
        rintro e w6 ⟨v6, rfl, hv6, hb6⟩
        have hb6' := hb5'.trans (hb6.mono hz5)
        have hz6 := hb6'.size
        have hp6 := (hp.mono (Keep.below (S := fun b => b < w.heap.size) hb6') (Keep.below (S := fun b => b < w.heap.size) hb6')).mono (So' := fun b => b < w6.heap.size) (Si' := fun b => b < w6.heap.size) (Keep.weaken fun b h => by omega) (Keep.weaken fun b h => by omega)
        go_wp2_with fail
        refine (rResize_ok _ _ l n _ hp6 hn (by omega) (by omega) HS.out).mono ?_
        rw [HRF.out]
        rintro e w7 ⟨v7, rfl, hv7, hb7⟩
        have hb7' := hb6'.trans (hb7.mono hz6)
        have hz7 := hb7'.size
        have hv6b := hv6.below hb7
        go_wp2_with fail
        refine (rSame23_ok _ _ _ _ _ _ rl rl _ ((hv6b.own 0 (Nat.le_refl _) (Nat.zero_le _)).slc) hv7.slc).mono ?_
        rintro e w8 ⟨rfl, n8, rfl⟩
        rw [decide_eq_true rfl]
        have hb8' := below_drewN hb7' n8
        have hz8 := hb8'.size
        have hv8 := (((HV5.out.below hb6).below hb7).drewN n8)
        have hv48 := (((hv45.below hb6).below hb7).drewN n8)
        go_wp2_with fail
        refine (Wrap_ok _ _ _ _ _ hv8).mono ?_
        rintro e w9 ⟨rfl, rfl⟩
        go_wp2_with fail
        refine (Wrap_ok _ _ _ _ _ hv48).mono ?_
        rintro e w10 ⟨rfl, rfl⟩
        go_wp2_with fail
        refine (Cells_ok _ _ _ _ _ hv48 (by omega) (sound_len HS.out)).mono ?_
        rintro e w11 ⟨v11, rfl, hv11, hb11⟩
        have hb11' := hb8'.trans (hb11.mono hz8)
        have hz11 := hb11'.size
        have hp11 := hp.mono (Keep.below (S := fun b => b < w.heap.size) hb11') (Keep.below (S := fun b => b < w.heap.size) hb11')
        go_wp2_with fail
        refine (rSame23_ok _ _ _ _ _ _ l l _ ((hv11.own 0 (Nat.le_refl _) (Nat.zero_le _)).slc) hp11).mono ?_
        rintro e w12 ⟨rfl, n12, rfl⟩
        rw [decide_eq_true rfl]
        have hb12' := below_drewN hb11' n12
        have hz12 := hb12'.size
        have hv12 := (hv8.below hb11).drewN n12
        go_wp2_with fail
        refine (Wide_ok _ _ _ _ _ hv12).mono ?_
        rintro e w13 ⟨rfl, rfl⟩
        have hrl : (rl.length : Int) = W := by rw [HRL.out]
        rw [hrl]
        clear hrl
        by_cases hlt : W < l.length
        · have hlt2 : (W : Int) < l.length := by omega
          go_wp2
          go_ret
          exact ⟨rfl, hb12'⟩
        · have hlt2 : ¬ (W : Int) < l.length := by omega
          go_wp2_with fail
          refine (Resize_ok _ _ rl _ l.length _ hv12 (wf_i64 (by omega) (by omega)) (by have := HRL.out; omega) (by have := HRL.out; omega) HRS.out).mono ?_
          rw [HRB.out (by omega)]
          rintro e w14 ⟨v14, rfl, ⟨base14, _, hv14⟩, hb14⟩
          have hb14' := hb12'.trans (hb14.mono hz12)
          have hz14 := hb14'.size
          have HV14 := hide hv14
          obtain ⟨g14, s14, rfl, _, _, _⟩ := hv14
          go_wp2_with fail
          refine (Cells_ok _ _ _ _ _ HV14.out (by omega) (sound_len HS.out)).mono ?_
          rintro e w15 ⟨v15, rfl, hv15, hb15⟩
          have hb15' := hb14'.trans (hb15.mono hz14)
          have hz15 := hb15'.size
          have hp15 := hp.mono (Keep.below (S := fun b => b < w.heap.size) hb15') (Keep.below (S := fun b => b < w.heap.size) hb15')
          go_wp2_with fail
          refine (rSame23_ok _ _ _ _ _ _ l l _ ((hv15.own 0 (Nat.le_refl _) (Nat.zero_le _)).slc) hp15).mono ?_
          rintro e w16 ⟨rfl, n16, rfl⟩
          rw [decide_eq_true rfl]
          go_wp2
          go_ret
          exact ⟨rfl, below_drewN hb15' n16⟩
      · have HS := hide hs
        go_enter Tryd.func4, Tryd.ntmps4
        go_wp2_with fail
        refine (works28_ok t u _ HE.out).mono ?_
        rintro e w1 ⟨rfl, hb1⟩
        have hE1 := (hb1.cell (p := ⟨0, 0, none⟩) hEl).trans HE.out
        have hp1 := hp.mono (Keep.below (S := fun b => b < w.heap.size) hb1) (Keep.below (S := fun b => b < w.heap.size) hb1)
        go_wp2_with fail
        refine (rSound_ok _ _ _ l _ hp1 (by omega)).mono ?_
        rw [HS.out]
        rintro e w1b ⟨rfl, hb1b⟩
        have hE1 := (hb1b.cell (p := ⟨0, 0, none⟩) (Nat.lt_of_lt_of_le hEl hb1.size)).trans hE1
        have hb1 := hb1.trans (hb1b.mono hb1.size)
        go_wp2_with fail
        refine (works28_ok t u _ hE1).mono ?_
        rintro e w2 ⟨rfl, hb2⟩
        go_wp2
        go_ret
        exact ⟨rfl, hb1.trans (hb2.mono hb1.size)⟩
  · have hl2 : decide ((200 : Int) < (l.length : Int)) = true := by simp; omega
    go_enter Tryd.func4, Tryd.ntmps4
    go_wp2_with fail
    refine (works28_ok t u _ HE.out).mono ?_
    rintro e w1 ⟨rfl, hb1⟩
    have hE1 := (hb1.cell (p := ⟨0, 0, none⟩) hEl).trans HE.out
    go_wp2_with fail
    refine (works28_ok t u _ hE1).mono ?_
    rintro e w2 ⟨rfl, hb2⟩
    go_wp2
    go_ret
    exact ⟨rfl, hb1.trans (hb2.mono hb1.size)⟩
end Go.Proofs.YthjddpflcgcpiaaDoor
