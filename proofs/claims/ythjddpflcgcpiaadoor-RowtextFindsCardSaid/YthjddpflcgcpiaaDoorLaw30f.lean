/-
  The law on where a text stands in a row: the walk returns true and leaves the memory that was there as it was.
-/
import Derived.Test.YthjddpflcgcpiaaDoorLaw30w
namespace Go.Proofs.YthjddpflcgcpiaaDoor
open Go.RowKit
set_option linter.unusedVariables false
set_option linter.unusedSimpArgs false

set_option maxHeartbeats 2000000 in
theorem walk_RowtextFinds (p : Value) (l : List CellV) (q : Value) (t : List Int) (w : World) (hp : Slc RCell (fun b => b < w.heap.size) (fun b => b < w.heap.size) w p l) (ht : Slc (Rep.int .i32) (fun b => b < w.heap.size) (fun b => b < w.heap.size) w q t) :
    Calls Tryd.prog 6 #[p, q] w fun e w' => e = .returned (.bool true) ∧ Below w.heap.size w w' := by
  obtain ⟨A, c, rfl, hc1, hc2, hB⟩ := hp.open_
  obtain ⟨B, d, rfl, _, _, _⟩ := ht.open_
  by_cases hl : l.length ≤ 100
  · have hl2 : decide ((100 : Int) < (l.length : Int)) = false := by simp; omega
    by_cases hz : l.length = 0
    · have hz2 : ((l.length : Int) == 0) = true := by simp [hz]
      go_enter Tryd.func6, Tryd.ntmps6
      go_wp2_with fail
      refine (works30_ok _).mono ?_
      rintro e w1 ⟨rfl, hb1⟩
      go_wp2_with fail
      refine (works30_ok _).mono ?_
      rintro e w2 ⟨rfl, hb2⟩
      go_wp2
      go_ret
      exact ⟨rfl, hb1.trans (hb2.mono hb1.size)⟩
    · have hz2 : ((l.length : Int) == 0) = false := by rw [beq_eq_false_iff_ne]; omega
      by_cases htl : t.length ≤ 100
      · have htl2 : decide ((100 : Int) < (t.length : Int)) = false := by simp; omega
        rcases Bool.eq_false_or_eq_true (soundB l) with hs | hs
        · have HS := hide hs
          go_enter Tryd.func6, Tryd.ntmps6
          go_wp2_with fail
          refine (works30_ok _).mono ?_
          rintro e w1 ⟨rfl, hb1⟩
          have hz1 := hb1.size
          have hp1 := hp.mono (Keep.below (S := fun b => b < w.heap.size) hb1) (Keep.below (S := fun b => b < w.heap.size) hb1)
          go_wp2_with fail
          refine (rSound_ok _ _ _ l _ hp1 (by omega)).mono ?_
          rw [HS.out]
          rintro e w2 ⟨rfl, hb2⟩
          have hb2' := hb1.trans (hb2.mono hz1)
          have hz2' := hb2'.size
          have hp2 := hp.mono (Keep.below (S := fun b => b < w.heap.size) hb2') (Keep.below (S := fun b => b < w.heap.size) hb2')
          go_wp2_with fail
          refine (ROf_ok _ _ _ l _ hp2 (by omega) (by omega) HS.out).mono ?_
          rintro e w3 ⟨v3, rfl, hv3, hb3⟩
          have hb3' := hb2'.trans (hb3.mono hz2')
          have hz3 := hb3'.size
          have HV3 := hide hv3
          obtain ⟨g3, s3, rfl, _, _, _⟩ := hv3
          have hlen : l.length ≤ 100000 := by omega
          have hz3a := hb3'.size
          have ht3 := (ht.mono (Keep.below (S := fun b => b < w.heap.size) hb3') (Keep.below (S := fun b => b < w.heap.size) hb3')).mono (So' := fun b => b < w3.heap.size) (Si' := fun b => b < w3.heap.size) (Keep.weaken fun b h => by omega) (Keep.weaken fun b h => by omega)
          by_cases ht0 : t = []
          · have hfj := findJ_nil (itemsF l) 0
            have HFJ := hide hfj
            clear hfj
            subst ht0
            go_wp2_with fail
            refine (Find_none _ _ _ _).mono ?_
            rintro e w4 ⟨rfl, rfl⟩
            have hp4 := (hp.mono (Keep.below (S := fun b => b < w.heap.size) hb3') (Keep.below (S := fun b => b < w.heap.size) hb3')).mono (So' := fun b => b < w3.heap.size) (Si' := fun b => b < w3.heap.size) (Keep.weaken fun b h => by omega) (Keep.weaken fun b h => by omega)
            go_wp2_with fail
            refine (rFind_ok _ _ _ _ [] _ hp4 ht3 hlen (sound_len HS.out)).mono ?_
            rw [HFJ.out]
            rintro e w5 ⟨rfl, hb5⟩
            have hb5' := hb3'.trans (hb5.mono hz3)
            go_wp2_with fail
            refine (Find_none _ _ _ _).mono ?_
            rintro e w6 ⟨rfl, rfl⟩
            go_wp2
            go_ret
            exact ⟨rfl, hb5'⟩
          · have hfj := (findJ_eq (itemsF l) 0 t ht0).trans (find_eq l false 0 t ht0 HS.out).symm
            have HFJ := hide hfj
            have HT0 := hide ht0
            clear hfj ht0
            go_wp2_with fail
            refine (Find_ok _ _ _ _ t _ _ HV3.out ht3 HT0.out hlen (sound_len HS.out)).mono ?_
            rintro e w4 ⟨rfl, hb4⟩
            have hb4' := hb3'.trans (hb4.mono hz3)
            have hz4 := hb4'.size
            have hp4 := (hp.mono (Keep.below (S := fun b => b < w.heap.size) hb4') (Keep.below (S := fun b => b < w.heap.size) hb4')).mono (So' := fun b => b < w4.heap.size) (Si' := fun b => b < w4.heap.size) (Keep.weaken fun b h => by omega) (Keep.weaken fun b h => by omega)
            have ht4 := (ht.mono (Keep.below (S := fun b => b < w.heap.size) hb4') (Keep.below (S := fun b => b < w.heap.size) hb4')).mono (So' := fun b => b < w4.heap.size) (Si' := fun b => b < w4.heap.size) (Keep.weaken fun b h => by omega) (Keep.weaken fun b h => by omega)
            go_wp2_with fail
            refine (rFind_ok _ _ _ _ t _ hp4 ht4 hlen (sound_len HS.out)).mono ?_
            rw [HFJ.out]
            rintro e w5 ⟨rfl, hb5⟩
            have hb5' := hb4'.trans (hb5.mono hz4)
            go_wp2_with fail
            refine (Find_nil _ _ _ _ (fun e => HT0.out (List.eq_nil_of_length_eq_zero e))).mono ?_
            rintro e w6 ⟨rfl, rfl⟩
            go_wp2
            go_ret
            exact ⟨rfl, hb5'⟩
        · have HS := hide hs
          go_enter Tryd.func6, Tryd.ntmps6
          go_wp2_with fail
          refine (works30_ok _).mono ?_
          rintro e w1 ⟨rfl, hb1⟩
          have hz1 := hb1.size
          have hp1 := hp.mono (Keep.below (S := fun b => b < w.heap.size) hb1) (Keep.below (S := fun b => b < w.heap.size) hb1)
          go_wp2_with fail
          refine (rSound_ok _ _ _ l _ hp1 (by omega)).mono ?_
          rw [HS.out]
          rintro e w2 ⟨rfl, hb2⟩
          have hb2' := hb1.trans (hb2.mono hz1)
          have hz2' := hb2'.size
          go_wp2_with fail
          refine (works30_ok _).mono ?_
          rintro e w3 ⟨rfl, hb3⟩
          go_wp2
          go_ret
          exact ⟨rfl, hb2'.trans (hb3.mono hb2'.size)⟩
      · have htl2 : decide ((100 : Int) < (t.length : Int)) = true := by simp; omega
        go_enter Tryd.func6, Tryd.ntmps6
        go_wp2_with fail
        refine (works30_ok _).mono ?_
        rintro e w1 ⟨rfl, hb1⟩
        go_wp2_with fail
        refine (works30_ok _).mono ?_
        rintro e w2 ⟨rfl, hb2⟩
        go_wp2
        go_ret
        exact ⟨rfl, hb1.trans (hb2.mono hb1.size)⟩
  · have hl2 : decide ((100 : Int) < (l.length : Int)) = true := by simp; omega
    go_enter Tryd.func6, Tryd.ntmps6
    go_wp2_with fail
    refine (works30_ok _).mono ?_
    rintro e w1 ⟨rfl, hb1⟩
    go_wp2_with fail
    refine (works30_ok _).mono ?_
    rintro e w2 ⟨rfl, hb2⟩
    go_wp2
    go_ret
    exact ⟨rfl, hb1.trans (hb2.mono hb1.size)⟩
end Go.Proofs.YthjddpflcgcpiaaDoor
