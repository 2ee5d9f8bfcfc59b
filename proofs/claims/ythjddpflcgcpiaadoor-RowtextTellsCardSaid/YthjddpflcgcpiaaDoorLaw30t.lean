/-
  The law on a row as a text: the walk returns true and leaves the memory that was there as it was.
-/
import Derived.Test.YthjddpflcgcpiaaDoorLaw30w
namespace Go.Proofs.YthjddpflcgcpiaaDoor
open Go.RowKit
set_option linter.unusedVariables false
set_option linter.unusedSimpArgs false

set_option maxHeartbeats 2000000 in
theorem walk_RowtextTells (p : Value) (l : List CellV) (w : World) (hp : Slc RCell (fun b => b < w.heap.size) (fun b => b < w.heap.size) w p l) :
    Calls Tryd.prog 7 #[p] w fun e w' => e = .returned (.bool true) ∧ Below w.heap.size w w' := by
  obtain ⟨A, c, rfl, hc1, hc2, hB⟩ := hp.open_
  by_cases hl : l.length ≤ 200
  · have hl2 : decide ((200 : Int) < (l.length : Int)) = false := by simp; omega
    by_cases hz : l.length = 0
    · have hz2 : ((l.length : Int) == 0) = true := by simp [hz]
      go_enter Tryd.func7, Tryd.ntmps7
      go_wp2_with fail
      refine (works30_ok _).mono ?_
      rintro e w1 ⟨rfl, hb1⟩
      go_wp2_with fail
      refine (works30_ok _).mono ?_
      rintro e w2 ⟨rfl, hb2⟩
      go_wp2
      go_ret
      exact ⟨rfl, hb1.trans (hb2.mono hb1.size)⟩
    · have hz2 : ((l.length : Int) == 0) = false := by rw [beq_eq_false_iff_ne]; omega
      rcases Bool.eq_false_or_eq_true (soundB l) with hs | hs
      · have HS := hide hs
        go_enter Tryd.func7, Tryd.ntmps7
        go_wp2_with fail
        refine (works30_ok _).mono ?_
        rintro e w1 ⟨rfl, hb1⟩
        have hz1 := hb1.size
        have hp1 := hp.mono (Keep.below (S := fun b => b < w.heap.size) hb1) (Keep.below (S := fun b => b < w.heap.size) hb1)
        go_wp2_with fail
        refine (rSound_ok _ _ _ l _ hp1 (by omega)).mono ?_
        rw [HS.out]
        rintro e w2 ⟨rfl, hb2⟩
        have hb2' := hb1.trans (hb2.mono hz1)
        have hz2' := hb2'.size
        have hp2 := hp.mono (Keep.below (S := fun b => b < w.heap.size) hb2') (Keep.below (S := fun b => b < w.heap.size) hb2')
        go_wp2_with fail
        refine (ROf_ok _ _ _ l _ hp2 (by omega) (by omega) HS.out).mono ?_
        rintro e w3 ⟨v3, rfl, hv3, hb3⟩
        have hb3' := hb2'.trans (hb3.mono hz2')
        have hz3 := hb3'.size
        have HV3 := hide hv3
        obtain ⟨g3, s3, rfl, _, _, _⟩ := hv3
        have hlen : l.length ≤ 100000 := by omega
        have hts := text_items l (right_of_sound l false HS.out)
        have hpls := plain_eq _ l rfl (good_of_sound l HS.out)
        have HTS := hide hts
        have HPS := hide hpls
        clear hts hpls
        go_wp2_with fail
        refine (Text_ok _ _ _ _ _ HV3.out hlen (sound_len HS.out)).mono ?_
        rintro e w4 ⟨v4, rfl, hv4, hb4⟩
        have hb34 := hb4
        have hb4' := hb3'.trans (hb4.mono hz3)
        have hz4 := hb4'.size
        have hp4 := (hp.mono (Keep.below (S := fun b => b < w.heap.size) hb4') (Keep.below (S := fun b => b < w.heap.size) hb4')).mono (So' := fun b => b < w4.heap.size) (Si' := fun b => b < w4.heap.size) (Keep.weaken fun b h => by omega) (Keep.weaken fun b h => by omega)
        go_wp2_with fail
        refine (rText_ok _ _ _ _ hp4 hlen (sound_len HS.out)).mono ?_
        rw [HTS.out]
        rintro e w5 ⟨v5, rfl, hv5, hb5⟩
        have hb35 := hb34.trans (hb5.mono hb34.size)
        have hb5' := hb4'.trans (hb5.mono hz4)
        have hz5 := hb5'.size
        have hv4b := hv4.below hb5
        obtain ⟨A4, c4, rfl, _, _, _⟩ := hv4b.slc.open_
        obtain ⟨A5, c5, rfl, _, _, _⟩ := hv5.slc.open_
        go_wp2_with fail
        refine (Same_ok _ _ _ _ _ _ _ _ _ hv4b.slc hv5.slc).mono ?_
        rintro e w6 ⟨rfl, n6, rfl⟩
        rw [decide_eq_true rfl]
        have hb36 := below_drewN hb35 n6
        have hb6' := below_drewN hb5' n6
        have hz6 := hb6'.size
        go_wp2_with fail
        refine (Plain_ok _ _ _ _ _ (HV3.out.below hb36) hlen (sound_len HS.out)).mono ?_
        rintro e w7 ⟨v7, rfl, hv7, hb7⟩
        have hb37 := hb36.trans (hb7.mono hb36.size)
        have hb7' := hb6'.trans (hb7.mono hz6)
        have hz7 := hb7'.size
        have hp7 := (hp.mono (Keep.below (S := fun b => b < w.heap.size) hb7') (Keep.below (S := fun b => b < w.heap.size) hb7')).mono (So' := fun b => b < w7.heap.size) (Si' := fun b => b < w7.heap.size) (Keep.weaken fun b h => by omega) (Keep.weaken fun b h => by omega)
        go_wp2_with fail
        refine (rPlain_ok _ _ _ _ hp7 hlen (sound_len HS.out)).mono ?_
        rw [HPS.out]
        rintro e w8 ⟨v8, rfl, hv8, hb8⟩
        have hb38 := hb37.trans (hb8.mono hb37.size)
        have hb8' := hb7'.trans (hb8.mono hz7)
        have hz8 := hb8'.size
        have hv7b := hv7.below hb8
        obtain ⟨A7, c7, rfl, _, _, _⟩ := hv7b.slc.open_
        obtain ⟨A8, c8, rfl, _, _, _⟩ := hv8.slc.open_
        go_wp2_with fail
        refine (Same_ok _ _ _ _ _ _ _ _ _ hv7b.slc hv8.slc).mono ?_
        rintro e w9 ⟨rfl, n9, rfl⟩
        rw [decide_eq_true rfl]
        have hb39 := below_drewN hb38 n9
        have hb9' := below_drewN hb8' n9
        have hz9 := hb9'.size
        go_wp2_with fail
        refine (Used_ok _ _ _ _ _ (HV3.out.below hb39) hlen (sound_len HS.out)).mono ?_
        rintro e w10 ⟨rfl, hb10⟩
        have hb10' := hb9'.trans (hb10.mono hz9)
        have hp10 := hp.mono (Keep.below (S := fun b => b < w.heap.size) hb10') (Keep.below (S := fun b => b < w.heap.size) hb10')
        go_wp2_with fail
        refine (rUsed_ok _ _ _ l _ hp10 hlen).mono ?_
        rintro e w11 ⟨rfl, rfl⟩
        go_wp2
        go_ret
        exact ⟨rfl, hb10'⟩
      · have HS := hide hs
        go_enter Tryd.func7, Tryd.ntmps7
        go_wp2_with fail
        refine (works30_ok _).mono ?_
        rintro e w1 ⟨rfl, hb1⟩
        have hz1 := hb1.size
        have hp1 := hp.mono (Keep.below (S := fun b => b < w.heap.size) hb1) (Keep.below (S := fun b => b < w.heap.size) hb1)
        go_wp2_with fail
        refine (rSound_ok _ _ _ l _ hp1 (by omega)).mono ?_
        rw [HS.out]
        rintro e w2 ⟨rfl, hb2⟩
        have hb2' := hb1.trans (hb2.mono hz1)
        have hz2' := hb2'.size
        go_wp2_with fail
        refine (works30_ok _).mono ?_
        rintro e w3 ⟨rfl, hb3⟩
        go_wp2
        go_ret
        exact ⟨rfl, hb2'.trans (hb3.mono hb2'.size)⟩
  · have hl2 : decide ((200 : Int) < (l.length : Int)) = true := by simp; omega
    go_enter Tryd.func7, Tryd.ntmps7
    go_wp2_with fail
    refine (works30_ok _).mono ?_
    rintro e w1 ⟨rfl, hb1⟩
    go_wp2_with fail
    refine (works30_ok _).mono ?_
    rintro e w2 ⟨rfl, hb2⟩
    go_wp2
    go_ret
    exact ⟨rfl, hb1.trans (hb2.mono hb1.size)⟩
end Go.Proofs.YthjddpflcgcpiaaDoor
