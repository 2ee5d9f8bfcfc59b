/-
  The law on rows put together: the walk returns true and leaves the memory that was there as it was.
-/
import Derived.Test.YthjddpflcgcpiaaDoorLaw28w
namespace Go.Proofs.YthjddpflcgcpiaaDoor
open Go.RowKit
set_option linter.unusedVariables false
set_option linter.unusedSimpArgs false

theorem ptr_info : (Tryd.prog.info? 26).map (fun i => (i.zero, i.size, i.bytes)) = some (some (.pointer none), RPtr.sz, 8) := by kernel_rfl
theorem flat_len_rep (l : List CellV) (k : Nat) : (List.replicate k l).flatten.length = k * l.length := by simp
theorem flat_snoc (l : List CellV) (k : Nat) : (List.replicate (k + 1) l).flatten = (List.replicate k l).flatten ++ l := by
  rw [List.replicate_succ', List.flatten_append]; simp
theorem join_rep (l : List CellV) : ∀ (m : Nat) (acc : List CellV), joinG acc (List.replicate m (some l)) = if (acc ++ (List.replicate m l).flatten).length = 0 ∨ 1024 < (acc ++ (List.replicate m l).flatten).length then none else some (acc ++ (List.replicate m l).flatten)
  | 0, acc => by simp [joinG]
  | m + 1, acc => by
    rw [List.replicate_succ, List.replicate_succ, List.flatten_cons, ← List.append_assoc]
    have ih := join_rep l m (acc ++ l)
    show (if 1024 < acc.length then none else joinG (acc ++ l) (List.replicate m (some l))) = _
    by_cases h : 1024 < acc.length
    · rw [if_pos h, if_pos (.inr (by simp only [List.length_append]; omega))]
    · rw [if_neg h, ih]

theorem small_mod (n : Int) : ∃ m : Nat, m < 40 ∧ wrap64 ((IntKind.u64.wrap n).tmod 40) = m := by
  have h : 0 ≤ IntKind.u64.wrap n := by rw [IntKind.wrap_u64]; omega
  have h2 : (IntKind.u64.wrap n).tmod 40 = (IntKind.u64.wrap n) % 40 := Int.tmod_eq_emod_of_nonneg h
  rw [h2]
  refine ⟨((IntKind.u64.wrap n) % 40).toNat, by omega, ?_⟩
  have h3 : wrap64 (IntKind.u64.wrap n % 40) = IntKind.u64.wrap n % 40 := by unfold wrap64; omega
  rw [h3]; omega

set_option maxHeartbeats 2000000 in
theorem walkE_FitJoins (t : TypeId) (u : Value) (p : Value) (l : List CellV) (n : Int) (w : World) (hE : w.cell? ⟨0, 0, none⟩ = some (.iface t u)) (hp : Slc RCell (fun b => b < w.heap.size) (fun b => b < w.heap.size) w p l) (hn : (Lit.int .i64 n).wf = true) :
    Calls Tryd.prog 3 #[p, .int .i64 n] w fun e w' => e = .returned (.bool true) ∧ Below w.heap.size w w' := by
  have hEl := World.block_lt_of_cell? w _ hE
  simp only at hEl
  obtain ⟨hn0, hn1⟩ := i64_wf hn
  obtain ⟨A, c, rfl, hc1, hc2, hB⟩ := hp.open_
  have HE := hide hE
  clear hE
  by_cases hl : l.length ≤ 100
  · have hl2 : decide ((100 : Int) < (l.length : Int)) = false := by simp; omega
    by_cases hz : l.length = 0
    · have hz2 : ((l.length : Int) == 0) = true := by simp [hz]
      go_enter Tryd.func3, Tryd.ntmps3
      go_wp2_with fail
      refine (works28_ok t u _ HE.out).mono ?_
      rintro e w1 ⟨rfl, hb1⟩
      have hE1 := (hb1.cell (p := ⟨0, 0, none⟩) hEl).trans HE.out
      go_wp2_with fail
      refine (works28_ok t u _ hE1).mono ?_
      rintro e w2 ⟨rfl, hb2⟩
      go_wp2
      go_ret
      exact ⟨rfl, hb1.trans (hb2.mono hb1.size)⟩
    · have hz2 : ((l.length : Int) == 0) = false := by rw [beq_eq_false_iff_ne]; omega
      rcases Bool.eq_false_or_eq_true (soundB l) with hs | hs
      · have HS := hide hs
        go_enter Tryd.func3, Tryd.ntmps3
        go_wp2_with fail
        refine (works28_ok t u _ HE.out).mono ?_
        rintro e w1 ⟨rfl, hb1⟩
        have hz1 := hb1.size
        have hp1 := hp.mono (Keep.below (S := fun b => b < w.heap.size) hb1) (Keep.below (S := fun b => b < w.heap.size) hb1)
        go_wp2_with fail
        refine (rSound_ok _ _ _ l _ hp1 (by omega)).mono ?_
        rw [HS.out]
        rintro e w2 ⟨rfl, hb2⟩
        have hb2' := hb1.trans (hb2.mono hz1)
        have hz2' := hb2'.size
        go_upto_region 4 with fail
        obtain ⟨m, hm40, hm⟩ := small_mod n
        rw [hm]
        have hp2 := hp.mono (Keep.below (S := fun b => b < w.heap.size) hb2') (Keep.below (S := fun b => b < w.heap.size) hb2')
        go_wp2_with fail
        refine (ROf_ok _ _ _ l _ hp2 (by omega) (by omega) HS.out).mono ?_
        rintro e w3 ⟨v3, rfl, hv3, hb3⟩
        have hb3' := hb2'.trans (hb3.mono hz2')
        have hz3 := hb3'.size
        have HV3 := hide hv3
        obtain ⟨g3, s3, rfl, _, _, _⟩ := hv3
        go_wp2
        go_loopw [7, 8, 9] (fun al wa i wr => ∃ k : Nat, k ≤ m ∧ i = .int .i64 k ∧ Own RPtr 26 [] w3.heap.size wr al (List.replicate k (some ⟨g3, 0, none⟩)) ∧ Own RCell 46 [21] w3.heap.size wr wa (List.replicate k l).flatten ∧ Below w3.heap.size w3 wr) (fun _ _ i _ => m - (intOf i).toNat)
        case atStart => exact ⟨0, Nat.zero_le _, rfl, Own.nil_ _ _ _ _ _ (by decide), Own.nil_ _ _ _ _ _ (by decide), Below.refl _ _⟩
        case round =>
          obtain ⟨k, hk, rfl, hal, hwa, hbel⟩ := hrel
          have hsz := hbel.size
          have hfl := flat_len_rep l k
          have hfk : (List.replicate k l).flatten.length ≤ 3900 := by
            rw [hfl]; exact Nat.le_trans (Nat.mul_le_mul (by omega : k ≤ 39) hl) (by omega)
          by_cases hlt : k < m
          · have hone : Own RPtr 26 [] wr.heap.size (wr.alloc (.cells #[.pointer (some ⟨g3, 0, none⟩)] 26)) (.slice (some ⟨wr.heap.size, 0, none⟩) 1 1) [some ⟨g3, 0, none⟩] :=
              Own.lit (xs := [.pointer (some ⟨g3, 0, none⟩)]) (by decide) (Els.single rfl) (Nat.le_refl _) rfl (by simp [maxLen])
            have hal2 := hal.alloc (.cells #[.pointer (some ⟨g3, 0, none⟩)] 26)
            have hbw := hb3'.trans (hbel.mono hz3)
            have hfs := flat_snoc l k
            have HFS := hide hfs
            have hrs : List.replicate (k + 1) (some (⟨g3, 0, none⟩ : Addr)) = List.replicate k (some ⟨g3, 0, none⟩) ++ [some ⟨g3, 0, none⟩] := List.replicate_succ'
            have HRS := hide hrs
            clear hfs hrs hfl
            go_wp2_with (first
              | (at_builtin; refine wpList_appf rfl (.tmp 45) (.tmp 47) 31 rfl RPtr RPtr.flat 26 w3.heap.size 8 _ Tryd.underlying31 ptr_info rfl (by decide) (by decide) _ _ rfl hal2 _ _ _ _ rfl (hone.fslc RPtr.flat) (by simp; omega) (by simp; omega) ?_; intro v5 w5 hv5 hst5 hg5; have hs5 := (Step.alloc1 w3.heap.size [26] wr (.cells #[.pointer (some ⟨g3, 0, none⟩)] 26)).trans hst5; have hwa5 := hwa.step hs5 (by decide) (by decide); have hbw5 := hbw.trans ((hs5.below (by omega)).mono hz3); have hz5 := hs5.size; have hp5 := hp.mono (Keep.below (S := fun b => b < w.heap.size) hbw5) (Keep.below (S := fun b => b < w.heap.size) hbw5))
              | (at_builtin; refine wpList_appg rfl (.tmp 49) (.tmp 50) 22 rfl RCell 46 [21] w3.heap.size 32 _ Tryd.underlying22 cell_info rfl (by decide) (by decide) _ _ rfl hwa5 _ _ _ _ rfl hp5 (fun b h => .inl (by omega)) (by omega) (by omega) ?_; intro v6 w6 hv6 hst6 hg6 hob6; have hv5b := hv5.flat_step RPtr.flat hst6 (by decide)))
            go_roundw
            case rel => exact ⟨k + 1, by omega, by go_num, by rw [HRS.out]; exact hv5b, by rw [HFS.out]; exact hv6, hbel.trans ((hs5.below (by omega)).trans (hst6.below (by omega)))⟩
            case measure => simp [intOf]; omega
          · obtain rfl : k = m := by omega
            have hjr := join_rep l k []
            rw [List.nil_append] at hjr
            generalize hW : (List.replicate k l).flatten = want at *
            have HJR := hide hjr
            have hbw := hb3'.trans (hbel.mono hz3)
            have hrow := HV3.out.below hbel
            have hsw : soundB want = true ∨ want.length = 0 ∨ True := .inr (.inr trivial)
            have htw : ∀ c ∈ want, c.2.length ≤ 16 := by
              have hsl := sound_len HS.out
              intro c hc
              rw [← hW] at hc
              obtain ⟨a, ha, hca⟩ := List.mem_flatten.1 hc
              rw [List.eq_of_mem_replicate ha] at hca
              exact hsl c hca
            have HTW := hide htw
            clear hjr hfl hW hsw htw
            obtain ⟨A8, c8, rfl, _, _, _⟩ := hwa.slc.open_
            go_wp2_with fail
            refine (Join_ok _ _ _ (List.replicate k (some ⟨g3, 0, none⟩)) (List.replicate k (some l)) t u _ (hal.fslc RPtr.flat) (by simp) (by simp; omega) (fun j h h' => by simp only [List.getElem_replicate]; exact ⟨⟨_, _, hrow⟩, HS.out, by omega⟩) ((hbw.cell (p := ⟨0, 0, none⟩) hEl).trans HE.out)).mono ?_
            rw [HJR.out]
            rintro e w7 ⟨v7, rfl, hv7, hb7⟩
            have hwa7 := hwa.below hb7
            have hb7' := hbw.trans (hb7.mono hbw.size)
            have hz7 := hb7'.size
            by_cases hbad : want.length = 0 ∨ 1024 < want.length
            · rw [if_pos hbad] at hv7
              obtain rfl : v7 = .pointer none := hv7
              rcases hbad with q | q
              · have q1 : ((want.length : Int) == 0) = true := by simp [q]
                clear q
                go_wp2
                go_ret
                exact ⟨rfl, hb7'⟩
              · have q1 : ((want.length : Int) == 0) = false := by rw [beq_eq_false_iff_ne]; omega
                have q2 : (1024 : Int) < want.length := by omega
                clear q
                go_wp2
                go_ret
                exact ⟨rfl, hb7'⟩
            · rw [if_neg hbad] at hv7
              obtain ⟨base7, _, hv7⟩ := hv7
              have HV7 := hide hv7
              obtain ⟨g7, s7, rfl, _, _, _⟩ := hv7
              have q1 : ((want.length : Int) == 0) = false := by rw [beq_eq_false_iff_ne]; omega
              have q2 : ¬ (1024 : Int) < want.length := by omega
              clear hbad
              go_wp2_with fail
              refine (Wrap_ok _ _ _ _ _ HV7.out).mono ?_
              rintro e w8 ⟨rfl, rfl⟩
              go_wp2_with fail
              refine (Cells_ok _ _ _ _ _ HV7.out (by omega) HTW.out).mono ?_
              rintro e w9 ⟨v9, rfl, hv9, hb9⟩
              have hwa9 := hwa7.below hb9
              go_wp2_with fail
              refine (rSame23_ok _ _ _ _ _ _ want want _ ((hv9.own 0 (Nat.le_refl _) (Nat.zero_le _)).slc) hwa9.slc).mono ?_
              rintro e w10 ⟨rfl, n10, rfl⟩
              rw [decide_eq_true rfl]
              go_wp2
              go_ret
              exact ⟨rfl, below_drewN (hb7'.trans (hb9.mono hz7)) _⟩
      · have HS := hide hs
        go_enter Tryd.func3, Tryd.ntmps3
        go_wp2_with fail
        refine (works28_ok t u _ HE.out).mono ?_
        rintro e w1 ⟨rfl, hb1⟩
        have hE1 := (hb1.cell (p := ⟨0, 0, none⟩) hEl).trans HE.out
        have hp1 := hp.mono (Keep.below (S := fun b => b < w.heap.size) hb1) (Keep.below (S := fun b => b < w.heap.size) hb1)
        go_wp2_with fail
        refine (rSound_ok _ _ _ l _ hp1 (by omega)).mono ?_
        rw [HS.out]
        rintro e w1b ⟨rfl, hb1b⟩
        have hE1 := (hb1b.cell (p := ⟨0, 0, none⟩) (Nat.lt_of_lt_of_le hEl hb1.size)).trans hE1
        have hb1 := hb1.trans (hb1b.mono hb1.size)
        go_wp2_with fail
        refine (works28_ok t u _ hE1).mono ?_
        rintro e w2 ⟨rfl, hb2⟩
        go_wp2
        go_ret
        exact ⟨rfl, hb1.trans (hb2.mono hb1.size)⟩
  · have hl2 : decide ((100 : Int) < (l.length : Int)) = true := by simp; omega
    go_enter Tryd.func3, Tryd.ntmps3
    go_wp2_with fail
    refine (works28_ok t u _ HE.out).mono ?_
    rintro e w1 ⟨rfl, hb1⟩
    have hE1 := (hb1.cell (p := ⟨0, 0, none⟩) hEl).trans HE.out
    go_wp2_with fail
    refine (works28_ok t u _ hE1).mono ?_
    rintro e w2 ⟨rfl, hb2⟩
    go_wp2
    go_ret
    exact ⟨rfl, hb1.trans (hb2.mono hb1.size)⟩
end Go.Proofs.YthjddpflcgcpiaaDoor
