/-
  The law on the items of any strip: the walk returns true and leaves the memory that was there as it was.
-/
import Derived.Test.YthjddpflcgcpiaaDoorLaw29w
namespace Go.Proofs.YthjddpflcgcpiaaDoor
open Go.RowKit
set_option linter.unusedVariables false
set_option linter.unusedSimpArgs false

set_option maxHeartbeats 2000000 in
theorem walkS_ItemsRead (b : Nat → Addr) (p : Value) (l : List CellV) (w : World) (hS : Sents b w) (hp : Slc RCell (fun b => b < w.heap.size) (fun b => b < w.heap.size) w p l) :
    Calls Tryd.prog 11 #[p] w fun e w' => e = .returned (.bool true) ∧ Below w.heap.size w w' := by
  obtain ⟨A, c, rfl, hc1, hc2, hB⟩ := hp.open_
  have HSE := hide hS
  clear hS
  by_cases hl : l.length ≤ 500
  · have hl2 : decide ((500 : Int) < (l.length : Int)) = false := by simp; omega
    rcases Bool.eq_false_or_eq_true (soundB l) with hs | hs
    · have HS := hide hs
      obtain ⟨hcb, hwl, hri⟩ := items_back l.length l rfl hs
      have hyl := items_len l
      have hI := fun So x w h => IOf_ok So x l w h (by omega) hs
      have hR := fun So x w h => rItems_ok So x l w h (by omega)
      generalize itemsF l = y at *
      have HCB := hide hcb
      have HWL := hide hwl
      have HRI := hide hri
      have HI := hide hI
      have HR := hide hR
      clear hs hcb hwl hri hI hR
      go_enter Tryd.func11, Tryd.ntmps11
      go_wp2_with fail
      refine (works29_ok _).mono ?_
      rintro e w1 ⟨rfl, hb1⟩
      have hz1 := hb1.size
      have hp1 := (hp.mono (Keep.below (S := fun b => b < w.heap.size) hb1) (Keep.below (S := fun b => b < w.heap.size) hb1)).mono (So' := fun b => b < w1.heap.size) (Si' := fun b => b < w1.heap.size) (Keep.weaken fun b h => by omega) (Keep.weaken fun b h => by omega)
      go_wp2_with fail
      refine (HI.out _ _ _ hp1).mono ?_
      rintro e w2 ⟨v2, rfl, hv2, hb2⟩
      have hb2' := hb1.trans (hb2.mono hz1)
      have hz2 := hb2'.size
      obtain ⟨A2, c2, rfl, _, _, _⟩ := hv2.slc.open_
      have hp2 := hp.mono (Keep.below (S := fun b => b < w.heap.size) hb2') (Keep.below (S := fun b => b < w.heap.size) hb2')
      go_wp2_with fail
      refine (rSound_ok _ _ _ l _ hp2 (by omega)).mono ?_
      rw [HS.out]
      rintro e w3 ⟨rfl, hb3⟩
      have hb3' := hb2'.trans (hb3.mono hz2)
      have hz3 := hb3'.size
      have hv3 := hv2.below hb3
      have hp3 := (hp.mono (Keep.below (S := fun b => b < w.heap.size) hb3') (Keep.below (S := fun b => b < w.heap.size) hb3')).mono (So' := fun b => b < w3.heap.size) (Si' := fun b => b < w3.heap.size) (Keep.weaken fun b h => by omega) (Keep.weaken fun b h => by omega)
      go_wp2_with fail
      refine (HR.out _ _ _ hp3).mono ?_
      rintro e w4 ⟨v4, rfl, hv4, hb4⟩
      have hb4' := hb3'.trans (hb4.mono hz3)
      have hz4 := hb4'.size
      have hv5 := hv3.below hb4
      obtain ⟨A4, c4, rfl, _, _, _⟩ := hv4.slc.open_
      go_wp2_with fail
      refine (rSame29_ok _ _ _ _ _ _ y y _ hv5.slc hv4.slc).mono ?_
      rintro e w5 ⟨rfl, n5, rfl⟩
      rw [decide_eq_true rfl]
      have hb5' := below_drewN hb4' n5
      have hz5 := hb5'.size
      have hv6 := hv5.drewN n5
      go_wp2_with fail
      refine (IWide_ok _ _ _ y _ hv6.slc (by omega)).mono ?_
      rw [HWL.out]
      rintro e w6 ⟨rfl, hb6⟩
      have hb6' := hb5'.trans (hb6.mono hz5)
      have hz6 := hb6'.size
      have hv7 := hv6.below hb6
      go_wp2_with fail
      refine (ICells_ok b _ y _ (HSE.out.below hb6') (hv7.slc.mono (Keep.lt _ _) (Keep.lt _ _)) (by omega)).mono ?_
      rintro e w7 ⟨hh, hb7⟩
      rcases hh with ⟨_, s7, rfl, hv8⟩ | ⟨j, hj, _, hbad, _⟩
      · rw [HCB.out] at hv8
        have hb7' := hb6'.trans (hb7.mono hz6)
        have hv9 := (hv8.own 0 (Nat.le_refl _) (Nat.zero_le _))
        obtain ⟨A7, c7, rfl, _, _, _⟩ := hv9.slc.open_
        have hp7 := hp.mono (Keep.below (S := fun b => b < w.heap.size) hb7') (Keep.below (S := fun b => b < w.heap.size) hb7')
        go_wp2_with fail
        refine (rSame23_ok _ _ _ _ _ _ l l _ hv9.slc hp7).mono ?_
        rintro e w8 ⟨rfl, n8, rfl⟩
        rw [decide_eq_true rfl]
        go_wp2
        go_ret
        exact ⟨rfl, below_drewN hb7' n8⟩
      · have := HRI.out y[j] (List.getElem_mem _)
        rw [this] at hbad
        cases hbad
    · have HS := hide hs
      have hE := HSE.out.var 4 (by decide)
      simp only [gOf] at hE
      have hEl := World.block_lt_of_cell? w _ hE
      simp only at hEl
      go_enter Tryd.func11, Tryd.ntmps11
      go_wp2_with fail
      refine (works29_ok _).mono ?_
      rintro e w1 ⟨rfl, hb1⟩
      have hz1 := hb1.size
      have hE1 := (hb1.cell (p := ⟨1, 0, none⟩) hEl).trans hE
      have hp1 := hp.mono (Keep.below (S := fun b => b < w.heap.size) hb1) (Keep.below (S := fun b => b < w.heap.size) hb1)
      go_wp2_with fail
      refine (IOf_bad _ _ _ l _ _ _ hp1 HS.out hE1).mono ?_
      rintro e w2 ⟨rfl, hb2⟩
      have hb2' := hb1.trans (hb2.mono hz1)
      have hz2 := hb2'.size
      have hp2 := hp.mono (Keep.below (S := fun b => b < w.heap.size) hb2') (Keep.below (S := fun b => b < w.heap.size) hb2')
      go_wp2_with fail
      refine (rSound_ok _ _ _ l _ hp2 (by omega)).mono ?_
      rw [HS.out]
      rintro e w3 ⟨rfl, hb3⟩
      have hb3' := hb2'.trans (hb3.mono hz2)
      go_wp2_with fail
      refine (Code_ok b _ 4 none _ (HSE.out.below hb3') rfl (by decide)).mono ?_
      rintro e w4 ⟨rfl, rfl⟩
      go_wp2
      go_ret
      exact ⟨rfl, hb3'⟩
  · have hl2 : decide ((500 : Int) < (l.length : Int)) = true := by simp; omega
    go_enter Tryd.func11, Tryd.ntmps11
    go_wp2_with fail
    refine (works29_ok _).mono ?_
    rintro e w1 ⟨rfl, hb1⟩
    go_wp2_with fail
    refine (works29_ok _).mono ?_
    rintro e w2 ⟨rfl, hb2⟩
    go_wp2
    go_ret
    exact ⟨rfl, hb1.trans (hb2.mono hb1.size)⟩
end Go.Proofs.YthjddpflcgcpiaaDoor
