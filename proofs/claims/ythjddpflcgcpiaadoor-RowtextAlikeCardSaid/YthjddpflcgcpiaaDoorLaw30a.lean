/-
  The law on rows without blanks ahead of the last cluster: the walk returns true and leaves the memory that was there as it was.
-/
import Derived.Test.YthjddpflcgcpiaaDoorLaw30w
namespace Go.Proofs.YthjddpflcgcpiaaDoor
open Go.RowKit
set_option linter.unusedVariables false
set_option linter.unusedSimpArgs false

set_option maxHeartbeats 2000000 in
theorem walk_RowtextAlike (p : Value) (l : List CellV) (w : World) (hp : Slc RCell (fun b => b < w.heap.size) (fun b => b < w.heap.size) w p l) :
    Calls Tryd.prog 8 #[p] w fun e w' => e = .returned (.bool true) ∧ Below w.heap.size w w' := by
  obtain ⟨A, c, rfl, hc1, hc2, hB⟩ := hp.open_
  by_cases hl : l.length ≤ 200
  · have hl2 : decide ((200 : Int) < (l.length : Int)) = false := by simp; omega
    by_cases hz : l.length = 0
    · have hz2 : ((l.length : Int) == 0) = true := by simp [hz]
      go_enter Tryd.func8, Tryd.ntmps8
      go_wp2_with fail
      refine (works30_ok _).mono ?_
      rintro e w1 ⟨rfl, hb1⟩
      go_wp2_with fail
      refine (works30_ok _).mono ?_
      rintro e w2 ⟨rfl, hb2⟩
      go_wp2
      go_ret
      exact ⟨rfl, hb1.trans (hb2.mono hb1.size)⟩
    · have hz2 : ((l.length : Int) == 0) = false := by rw [beq_eq_false_iff_ne]; omega
      rcases Bool.eq_false_or_eq_true (soundB l) with hs | hs
      · have HS := hide hs
        have hlen : l.length ≤ 100000 := by omega
        have hal := alike l (right_of_sound l false hs)
        have hU := fun So Si x w h => rUsed_ok So Si x l w h hlen
        have hul := used_le l
        generalize usedF l = u at *
        have HAL := hide hal
        have HU := hide hU
        clear hal hU hs
        go_enter Tryd.func8, Tryd.ntmps8
        go_wp2_with fail
        refine (works30_ok _).mono ?_
        rintro e w1 ⟨rfl, hb1⟩
        have hz1 := hb1.size
        have hp1 := hp.mono (Keep.below (S := fun b => b < w.heap.size) hb1) (Keep.below (S := fun b => b < w.heap.size) hb1)
        go_wp2_with fail
        refine (rSound_ok _ _ _ l _ hp1 (by omega)).mono ?_
        rw [HS.out]
        rintro e w2 ⟨rfl, hb2⟩
        have hb2' := hb1.trans (hb2.mono hz1)
        have hz2' := hb2'.size
        have hp2 := hp.mono (Keep.below (S := fun b => b < w.heap.size) hb2') (Keep.below (S := fun b => b < w.heap.size) hb2')
        go_wp2
        go_loopw [3] (fun i wr => ∃ k : Nat, k ≤ u ∧ i = .int .i64 k ∧ (∀ j (h : j < l.length), j < k → l[j].1 ≠ 0) ∧ w2 = wr) (fun i _ => u - (intOf i).toNat)
        case atStart => exact ⟨0, Nat.zero_le _, rfl, fun j _ h => absurd h (Nat.not_lt_zero j), rfl⟩
        case round =>
          obtain ⟨k, hk, rfl, hpre, rfl⟩ := hrel
          have HP := hide hpre
          clear hpre
          by_cases hlt : k < u
          · obtain ⟨ab, off, v2, rfl, _, q0, q1, hw, hv⟩ := cell_at hp2.slb (k := k) (by omega)
            by_cases hc : l[k].1 = 0
            · have hc2 : (l[k].1 == 0) = true := by simpa using hc
              clear hc
              go_wp2_with fail
              refine (HU.out _ _ _ _ hp2).mono ?_
              rintro e w3 ⟨rfl, rfl⟩
              go_wp2
              go_ret
              exact ⟨rfl, hb2'⟩
            · have hc2 : (l[k].1 == 0) = false := by simpa using hc
              have HC := hide hc
              clear hc
              go_wp2_with fail
              refine (HU.out _ _ _ _ hp2).mono ?_
              rintro e w3 ⟨rfl, rfl⟩
              go_wp2
              go_roundw
              case rel =>
                refine ⟨k + 1, by omega, by go_num, fun j hj hjk => ?_, trivial⟩
                by_cases e : j = k
                · subst e; exact HC.out
                · exact HP.out j hj (by omega)
              case measure => simp [intOf]; omega
          · obtain rfl : k = u := by omega
            have hta := HAL.out (fun j hj h => HP.out j hj h)
            have HTA := hide hta
            clear hta
            go_wp2_with fail
            refine (HU.out _ _ _ _ hp2).mono ?_
            rintro e w3 ⟨rfl, rfl⟩
            go_wp2_with fail
            refine (ROf_ok _ _ _ l _ hp2 (by omega) (by omega) HS.out).mono ?_
            rintro e w3 ⟨v3, rfl, hv3, hb3⟩
            have hb3' := hb2'.trans (hb3.mono hz2')
            have hz3 := hb3'.size
            have HV3 := hide hv3
            obtain ⟨g3, s3, rfl, _, _, _⟩ := hv3
            go_wp2_with fail
            refine (Text_ok _ _ _ _ _ HV3.out hlen (sound_len HS.out)).mono ?_
            rw [HTA.out]
            rintro e w4 ⟨v4, rfl, hv4, hb4⟩
            have hb4' := hb3'.trans (hb4.mono hz3)
            have hz4 := hb4'.size
            go_wp2_with fail
            refine (Plain_ok _ _ _ _ _ (HV3.out.below hb4) hlen (sound_len HS.out)).mono ?_
            rintro e w5 ⟨v5, rfl, hv5, hb5⟩
            have hb5' := hb4'.trans (hb5.mono hz4)
            have hv4b := hv4.below hb5
            obtain ⟨A4, c4, rfl, _, _, _⟩ := hv4b.slc.open_
            obtain ⟨A5, c5, rfl, _, _, _⟩ := hv5.slc.open_
            go_wp2_with fail
            refine (Same_ok _ _ _ _ _ _ _ _ _ hv4b.slc hv5.slc).mono ?_
            rintro e w6 ⟨rfl, n6, rfl⟩
            rw [decide_eq_true rfl]
            go_wp2
            go_ret
            exact ⟨rfl, below_drewN hb5' n6⟩
      · have HS := hide hs
        go_enter Tryd.func8, Tryd.ntmps8
        go_wp2_with fail
        refine (works30_ok _).mono ?_
        rintro e w1 ⟨rfl, hb1⟩
        have hz1 := hb1.size
        have hp1 := hp.mono (Keep.below (S := fun b => b < w.heap.size) hb1) (Keep.below (S := fun b => b < w.heap.size) hb1)
        go_wp2_with fail
        refine (rSound_ok _ _ _ l _ hp1 (by omega)).mono ?_
        rw [HS.out]
        rintro e w2 ⟨rfl, hb2⟩
        have hb2' := hb1.trans (hb2.mono hz1)
        go_wp2_with fail
        refine (works30_ok _).mono ?_
        rintro e w3 ⟨rfl, hb3⟩
        go_wp2
        go_ret
        exact ⟨rfl, hb2'.trans (hb3.mono hb2'.size)⟩
  · have hl2 : decide ((200 : Int) < (l.length : Int)) = true := by simp; omega
    go_enter Tryd.func8, Tryd.ntmps8
    go_wp2_with fail
    refine (works30_ok _).mono ?_
    rintro e w1 ⟨rfl, hb1⟩
    go_wp2_with fail
    refine (works30_ok _).mono ?_
    rintro e w2 ⟨rfl, hb2⟩
    go_wp2
    go_ret
    exact ⟨rfl, hb1.trans (hb2.mono hb1.size)⟩
end Go.Proofs.YthjddpflcgcpiaaDoor
