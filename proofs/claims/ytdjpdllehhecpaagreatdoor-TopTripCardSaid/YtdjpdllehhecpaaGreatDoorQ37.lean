import Derived.Test.YtdjpdllehhecpaaGreatDoorQ29
import Derived.Test.YtdjpdllehhecpaaGreatDoorQ23
import Derived.Test.YtdjpdllehhecpaaGreatDoorQ31
open List renaming getElem?_toArray → zA, getElem?_cons_succ → zB, getElem?_cons_zero → zC, setIfInBounds_toArray → zD, set_cons_zero → zE, set_cons_succ → zF
namespace Go.Proofs.YtdjpdllehhecpaaGreatDoor
open Go.RowKit
set_option linter.unusedVariables false
set_option linter.unusedSimpArgs false
theorem rdC_len (c : CellV) (h : c.2.length ≤ 16) : (rdC c).length ≤ 16 := by
  unfold rdC; split
  · simp
  · split
    · exact h
    · simp
theorem readC_len : ∀ (l : List CellV), (∀ c ∈ l, c.2.length ≤ 16) → (readC l).length ≤ 16 * l.length
  | [], _ => by simp [readC]
  | c :: l, h => by
    have ih := readC_len l (fun d hd => h d (List.mem_cons.2 (.inr hd)))
    have h1 := rdC_len c (h c (List.mem_cons.2 (.inl rfl)))
    unfold readC at ih ⊢
    rw [List.flatMap_cons, List.length_append, List.length_cons]
    omega
theorem readC_take (l : List CellV) (k : Nat) (h : k < l.length) : readC (l.take (k + 1)) = readC (l.take k) ++ rdC l[k] := by
  unfold readC
  rw [take_snoc' l k h, List.flatMap_append]; simp
set_option maxHeartbeats 2000000 in
theorem read_ok (So Si : Nat → Prop) (x : Value) (l : List CellV) (w : World) (hx : Slc RCell So Si w x l) (hlen : l.length ≤ 100000) (htx : ∀ c ∈ l, c.2.length ≤ 16) :
    Calls Tryz.prog 85 #[x] w fun e w' => ∃ s, e = .returned s ∧ Own (Rep.int .i32) 21 [] w.heap.size w' s (readC l) ∧ Below w.heap.size w w' := by
  obtain ⟨A1, c1, rfl, _, _, _⟩ := hx.open_
  have HTX := hide htx
  clear htx
  go_enter Tryz.func85, Tryz.ntmps85
  go_wp2
  go_loopw [3, 8] (fun out i wr => ∃ k : Nat, k ≤ l.length ∧ i = .int .i64 k ∧ Own (Rep.int .i32) 21 [] w.heap.size wr out (readC (l.take k)) ∧ Below w.heap.size w wr) (fun _ i _ => l.length - (intOf i).toNat)
  case atStart => exact ⟨0, Nat.zero_le _, rfl, Own.nil_ _ _ _ _ _ (by decide), Below.refl _ _⟩
  case round =>
    obtain ⟨k, hk, rfl, hout, hbel⟩ := hrel
    have hsz := hbel.size
    by_cases hlt : k < l.length
    · have hxr := hx.mono (Keep.below hbel) (Keep.below hbel)
      obtain ⟨ab, off, v2, rfl, hab, q0, q1, hw, hv⟩ := cell_at hxr.slb hlt
      have hsn := readC_take l k hlt
      have hln := HTX.out l[k] (List.getElem_mem _)
      have htl := readC_len _ (take_short HTX.out k)
      have htl2 : (l.take k).length ≤ k := List.length_take_le _ _
      have hv2 := hv.flat_any (Flat.int .i32) (fun _ => False)
      obtain ⟨A2, c2, rfl, _, _, _⟩ := hv.open_
      obtain ⟨lk, hlk⟩ : ∃ lk, l[k] = lk := ⟨_, rfl⟩
      obtain ⟨kd, tx⟩ := lk
      rw [hlk] at q0 q1 hsn hln hv2
      simp only at q0 q1 hln hv2
      have hout2 := hout.alloc (.cells #[.int .i64 kd, .slice A2 tx.length c2] 86)
      have hv3 := hv2.mono (Keep.alloc _ wr (.cells #[.int .i64 kd, .slice A2 tx.length c2] 86)) (Keep.alloc _ wr (.cells #[.int .i64 kd, .slice A2 tx.length c2] 86))
      have hki : (k : Int) < l.length := by omega
      by_cases k0 : kd = 0
      · subst k0
        have HSN := hide (show readC (l.take (k + 1)) = readC (l.take k) ++ [32] by rw [hsn]; rfl)
        have hone := Slc.lit1 (R := Rep.int .i32) (Si := fun _ => False) (Si' := fun _ => False) (w := wr.alloc (.cells #[.int .i64 0, .slice A2 tx.length c2] 86)) (x := 32) (u := [.int .i32 32]) 21 ⟨rfl, by decide⟩ (fun _ _ h => h.elim)
        rw [World.size_alloc] at hone
        have hout3 := hout2.alloc (.cells #[.int .i32 32] 21)
        have HONE := hide hone
        clear hsn hone hlk hv hv2 hv3 hxr
        go_wp2_with (at_builtin; refine wpList_appg rfl (.tmp 16) (.tmp 17) 24 rfl (Rep.int .i32) 21 [] w.heap.size 4 _ Tryz.underlying24 i32_info rfl (by decide) (by decide) _ _ rfl hout3 _ (fun _ => False) _ [32] rfl HONE.out (fun _ h => h.elim) (by simp; omega) (by simp; omega) ?_; intro v5 w5 hv5 hst5 hg5 hob5)
        go_roundw
        case rel => exact ⟨k + 1, by omega, by go_num, by rw [HSN.out]; exact hv5, ((hbel.alloc hsz _).alloc (by simp; omega) _).trans (hst5.below (by simp; omega))⟩
        case measure => simp [intOf]; omega
      · have m0 : (kd == 0) = false := by simpa using k0
        by_cases k1 : kd = 1
        · subst k1
          have HSN := hide (show readC (l.take (k + 1)) = readC (l.take k) ++ tx by rw [hsn]; rfl)
          clear hsn hlk hv hv2 hxr m0 k0
          go_wp2_with (at_builtin; refine wpList_appg rfl (.tmp 22) (.tmp 24) 24 rfl (Rep.int .i32) 21 [] w.heap.size 4 _ Tryz.underlying24 i32_info rfl (by decide) (by decide) _ _ rfl hout2 _ (fun _ => False) _ tx rfl hv3 (fun _ h => h.elim) (by omega) (by simp; omega) ?_; intro v5 w5 hv5 hst5 hg5 hob5)
          go_roundw
          case rel => exact ⟨k + 1, by omega, by go_num, by rw [HSN.out]; exact hv5, (hbel.alloc hsz _).trans (hst5.below (by simp; omega))⟩
          case measure => simp [intOf]; omega
        · have m1 : (kd == 1) = false := by simpa using k1
          by_cases k2 : kd = 2
          · subst k2
            have HSN := hide (show readC (l.take (k + 1)) = readC (l.take k) ++ tx by rw [hsn]; rfl)
            clear hsn hlk hv hv2 hxr m0 k0 m1 k1
            go_wp2_with (at_builtin; refine wpList_appg rfl (.tmp 22) (.tmp 24) 24 rfl (Rep.int .i32) 21 [] w.heap.size 4 _ Tryz.underlying24 i32_info rfl (by decide) (by decide) _ _ rfl hout2 _ (fun _ => False) _ tx rfl hv3 (fun _ h => h.elim) (by omega) (by simp; omega) ?_; intro v5 w5 hv5 hst5 hg5 hob5)
            go_roundw
            case rel => exact ⟨k + 1, by omega, by go_num, by rw [HSN.out]; exact hv5, (hbel.alloc hsz _).trans (hst5.below (by simp; omega))⟩
            case measure => simp [intOf]; omega
          · have m2 : (kd == 2) = false := by simpa using k2
            have HSN := hide (show readC (l.take (k + 1)) = readC (l.take k) by rw [hsn]; unfold rdC; rw [if_neg k0, if_neg (by rintro (h | h); exact k1 h; exact k2 h), List.append_nil])
            clear hsn hlk hv hv2 hv3 hxr k0 k1 k2
            go_wp2
            go_roundw
            case rel => exact ⟨k + 1, by omega, by go_num, by rw [HSN.out]; exact hout2, hbel.alloc hsz _⟩
            case measure => simp [intOf]; omega
    · have e : l.take k = l := List.take_of_length_le (by omega)
      rw [e] at hout
      go_wp2
      go_ret
      exact ⟨_, rfl, hout, hbel⟩
theorem inner_ok (So Si : Nat → Prop) (x : Value) (l : List CellV) (w : World) (hx : Slc RCell So Si w x l) (hlen : l.length ≤ 100000) :
    Calls Tryz.prog 86 #[x] w fun e w' => ∃ s, e = .returned s ∧ Slc RCell So Si w s (innerC l) ∧ w = w' := by
  obtain ⟨A1, c1, rfl, h1, h2, _⟩ := hx.open_
  by_cases hl : l = []
  · subst hl
    have HX := hide hx
    clear hx
    go_enter Tryz.func86, Tryz.ntmps86
    go_wp2
    go_ret
    exact ⟨_, rfl, HX.out, rfl⟩
  · have h0 : 0 < l.length := List.length_pos_iff.2 hl
    obtain ⟨k, hk⟩ : ∃ k, l.length = k + 1 := ⟨l.length - 1, by omega⟩
    obtain ⟨ab, off, v2, rfl, _, q0, q1, hw, hv⟩ := cell_at hx.slb (k := k) (by omega)
    have e1 : l.length - 1 = k := by omega
    have eg : l.getD (l.length - 1) (1, []) = l[k] := by rw [e1, List.getD_eq_getElem?_getD, List.getElem?_eq_getElem]; rfl
    have hfr := hx.front (k := k) (by omega)
    by_cases hc : l[k].1 = 0
    · have hc2 : (l[k].1 == 0) = true := by simp [hc]
      have HS := hide (show innerC l = l.take k by unfold innerC; rw [eg, if_pos hc, e1])
      have HF := hide hfr
      have e2 : (((k + 1 : Nat) : Int) - 1) = k := by omega
      have hkc : (k : Int) ≤ c1 := by omega
      rw [hk]
      obtain ⟨kd, hkd⟩ : ∃ kd, l[k].1 = kd := ⟨_, rfl⟩
      rw [hkd] at q0 hc2
      clear eg hfr hc hv e1 hx hl hw hkd q1 hk
      go_enter Tryz.func86, Tryz.ntmps86
      go_wp2
      go_ret
      exact ⟨_, rfl, by rw [HS.out]; exact HF.out, rfl⟩
    · have hc2 : (l[k].1 == 0) = false := by simp [hc]
      have HS := hide (show innerC l = l by unfold innerC; rw [eg, if_neg hc])
      have HX := hide hx
      have e2 : (((k + 1 : Nat) : Int) - 1) = k := by omega
      have HK := hide hk
      have hkb : (k : Int) ≤ 100000 := by omega
      rw [hk]
      obtain ⟨kd, hkd⟩ : ∃ kd, l[k].1 = kd := ⟨_, rfl⟩
      rw [hkd] at q0 hc2
      clear eg hfr hc hv e1 hx hl hw hkd q1 hk
      go_enter Tryz.func86, Tryz.ntmps86
      go_wp2
      go_ret
      exact ⟨_, rfl, by rw [HS.out, ← HK.out]; exact HX.out, rfl⟩
set_option maxHeartbeats 1000000 in
theorem outer_ok (So Si : Nat → Prop) (x : Value) (l : List CellV) (w : World) (hx : Slc RCell So Si w x l) (hlen : l.length ≤ 100000) :
    Calls Tryz.prog 87 #[x] w fun e w' => ∃ s, e = .returned s ∧ Slc RCell So Si w s (outerC l) ∧ w = w' := by
  obtain ⟨A1, c1, rfl, h1, h2, _⟩ := hx.open_
  go_enter Tryz.func87, Tryz.ntmps87
  go_wp2
  go_loopw [3] (fun n wr => ∃ k : Nat, k ≤ l.length ∧ n = .int .i64 k ∧ usedF l = usedF (l.take k) ∧ w = wr) (fun n _ => (intOf n).toNat)
  case atStart => exact ⟨l.length, Nat.le_refl _, rfl, by rw [List.take_length], rfl⟩
  case round =>
    obtain ⟨k, hk, rfl, hu, rfl⟩ := hrel
    have hfr := hx.front (k := k) hk
    by_cases h0 : k = 0
    · subst h0
      have HU := hide (show outerC l = l.take 0 by unfold outerC; rw [hu]; rfl)
      have HF := hide hfr
      clear hu hfr
      go_wp2
      go_ret
      exact ⟨_, rfl, by rw [HU.out]; exact HF.out, rfl⟩
    · obtain ⟨j, rfl⟩ : ∃ j, k = j + 1 := ⟨k - 1, by omega⟩
      have e1 : ((j + 1 : Nat) : Int) - 1 = j := by omega
      obtain ⟨ab, off, v2, rfl, _, q0, q1, hw, hv⟩ := cell_at hx.slb (k := j) (by omega)
      have hut := used_take l j (by omega)
      by_cases hc : l[j].1 = 0
      · have hc2 : (l[j].1 == 0) = true := by simp [hc]
        rw [if_pos hc] at hut
        have HU := hide (hu.trans hut)
        clear hu hut hc hfr hv
        go_wp2
        go_roundw
        case rel => exact ⟨j, by omega, by go_num, HU.out, trivial⟩
        case measure => simp [intOf]
      · have hc2 : (l[j].1 == 0) = false := by simp [hc]
        rw [if_neg hc] at hut
        have HU := hide (show outerC l = l.take (j + 1) by unfold outerC; rw [hu, hut])
        have HF := hide hfr
        have hjc : ((j : Int) + 1) ≤ c1 := by omega
        clear hu hut hc hfr hv
        go_wp2
        go_ret
        exact ⟨_, rfl, by rw [HU.out]; exact HF.out, rfl⟩
end Go.Proofs.YtdjpdllehhecpaaGreatDoor
namespace Go.Proofs.YtdjpdllehhecpaaGreatDoor
open Go.RowKit
set_option linter.unusedVariables false
set_option linter.unusedSimpArgs false
def zero17 : Array Value := #[.int .i32 0, .int .i32 0, .int .i32 0, .int .i32 0, .int .i32 0, .int .i32 0, .int .i32 0, .int .i32 0, .int .i32 0, .int .i32 0, .int .i32 0, .int .i32 0, .int .i32 0, .int .i32 0, .int .i32 0, .int .i32 0, .int .i64 0]
theorem cl_ones' {cs : Array Value} {l : List Int} (hsz : cs.size = 17) (hCl : ClAt cs 0 l) : cs.all (·.oneCell') = true := Array.all_eq_true_iff_forall_mem.2 (fun v hv => by
  obtain ⟨i, hi, rfl⟩ := Array.getElem_of_mem hv
  exact hCl.one i _ (by omega) (by rw [Nat.zero_add]; exact Array.getElem?_eq_getElem hi))
theorem store_cl (w : World) {cs : Array Value} {l : List Int} (hsz : cs.size = 17) (hCl : ClAt cs 0 l) :
    ∃ W, (storeCells ⟨w.heap.size, 0, none⟩ cs.toList).run Tryz.prog (w.alloc (.cells zero17 208)) = .ok () W ∧ Blk W w.heap.size 208 cs ∧ Below w.heap.size w W := by
  have hN := Blk.new w 208 zero17
  have hthere : (w.alloc (.cells zero17 208)).there w.heap.size 0 cs.size := fun j hj => ⟨by rw [hN.cell, Nat.zero_add]; rw [hsz] at hj; rcases j with _ | _ | _ | _ | _ | _ | _ | _ | _ | _ | _ | _ | _ | _ | _ | _ | _ | j <;> first | rfl | omega, hN.frozen _⟩
  obtain ⟨cs', h1, h2, h3⟩ := blk_cells cs.toList 0 _ _ hN (by simp [hsz, zero17])
  have hcs' : cs' = cs := by
    have := setTo_all h2 (by simp [hsz, zero17])
    simpa using this
  subst hcs'
  have hst := run_storeCells_cells (P := Tryz.prog) w.heap.size 0 cs'.toList 0 (w.alloc (.cells zero17 208)) (fun j hj => by simpa using (hthere j (by simpa using hj)).1) (fun j _ => Blk.frozen hN _) (fun v hv => (Array.all_eq_true_iff_forall_mem.1 (cl_ones' hsz hCl)) v (by simpa using hv))
  refine ⟨_, hst, h1, ?_⟩
  exact ((Below.refl _ w).alloc (Nat.le_refl _) _).grown h3 (by simp) (fun j e => by cases e; exact Nat.le_refl _)
set_option maxHeartbeats 4000000 in
theorem piece_ok (So Si : Nat → Prop) (x : Value) (l : List Int) (w : World) (hx : Slc (Rep.int .i32) So Si w x l) (h0 : 0 < l.length) (hlen : l.length ≤ 16) (hsil : silF l[0] = false) :
    Calls Tryz.prog 124 #[x] w fun e w' => ∃ v, e = .returned (.tuple #[.agg #[.int .i64 (widthF propF l), v], .bool true]) ∧ Own (Rep.int .i32) 21 [] w.heap.size w' v l ∧ Below w.heap.size w w' := by
  have hwf := hx.ints_wf
  obtain ⟨A, c, rfl, hc1, hc2, hB⟩ := hx.open_
  obtain ⟨b, off, rfl, _, q0, _⟩ := ints_at hB h0
  have hS := bsil_ok l[0]
  rw [hsil] at hS
  obtain ⟨r, hr⟩ : ∃ r, l[0] = r := ⟨_, rfl⟩
  rw [hr] at hS q0
  rw [Nat.add_zero] at q0
  have HS := hide hS
  obtain ⟨W0, hW0⟩ : ∃ W0, w.alloc (.cells #[.int .i64 0, .slice none 0 0] 150) = W0 := ⟨_, rfl⟩
  have hR0 : Blk W0 w.heap.size 150 #[.int .i64 0, .slice none 0 0] := by rw [← hW0]; exact Blk.new w _ _
  have hb0 : Below w.heap.size w W0 := by rw [← hW0]; exact (Below.refl _ w).alloc (Nat.le_refl _) _
  have p0 := (Below.cell hb0 (p := ⟨b, off, none⟩) (World.block_lt_of_cell? w _ q0)).trans q0
  have hx0 := hx.ints_keep (So' := So) (Keep.below (S := So) hb0)
  have HC := hide (cluOf_ok So Si _ l W0 hx0 hlen)
  have HR0 := hide hR0
  have HB0 := hide hb0
  have HW0 := hide hW0
  have hl0 : (0 : Int) < l.length := by omega
  clear hS hR0 hb0 hx0 hW0 hx hB hsil hr q0
  go_enter Tryz.func124, Tryz.ntmps124
  go_upto_region 1 with fail
  rw [HW0.out]
  go_wp2_with (refine (HS.out _).mono ?_; rintro e w1 ⟨rfl, rfl⟩)
  refine HC.out.mono ?_
  rintro e w2 ⟨cs, rfl, hsz, hCl, hb2⟩
  obtain ⟨W3, hst, hB3, hb3⟩ := store_cl w2 hsz hCl
  unfold zero17 at hst
  have hz2 := hb2.size
  have hz3 := hb3.size
  have hR3 := (HR0.out.same hb2).same hb3
  have hz0 := HB0.out.size
  have HBW := hide ((HB0.out.trans (hb2.mono hz0)).trans (hb3.mono (by omega)))
  have HT := hide (cText_ok w2.heap.size 0 _ cs l W3 hB3 hCl)
  have HR3 := hide hR3
  clear hB3 hb2 hb3 hR3
  go_wp2_with fail
  refine HT.out.mono ?_
  rintro e w4 ⟨v4, rfl, hv4, hb4⟩
  have HCW := hide (cOf_ok _ _ _ l w4 hv4.islc (by omega))
  obtain ⟨A4, c4, rfl, _, _, _⟩ := hv4.islc.open_
  have hz4 := hb4.size
  have HV4 := hide hv4
  have HR4 := hide (HR3.out.same hb4)
  have HBW4 := hide (HBW.out.trans (hb4.mono (by omega)))
  clear hv4 hb4
  go_wp2_with fail
  refine HCW.out.mono ?_
  rintro e w5 ⟨rfl, hb5⟩
  have hR5 := HR4.out.same hb5
  have c0 := hR5.cell 0
  have c1 := hR5.cell 1
  have f0 := hR5.frozen 0
  have f1 := hR5.frozen 1
  simp only [zA, zB, zC] at c0 c1
  have hz5 := hb5.size
  have HV5 := hide (HV4.out.below hb5)
  have HBW5 := hide (HBW4.out.trans (hb5.mono (by omega)))
  have HR5 := hide hR5
  clear hb5 hR5
  obtain ⟨wd, hwd⟩ : ∃ wd, widthF propF l = wd := ⟨_, rfl⟩
  rw [hwd]
  go_wp2
  have b7 := (HR5.out.set_ 0 (.int .i64 wd)).set_ 1 (.slice A4 l.length c4)
  have x0 := b7.cell 0
  have x1 := b7.cell 1
  simp only [zD, zE, zF, zA, zB, zC] at x0 x1
  have hst7 : Step w.heap.size [150] w5 _ := ((Step.refl w.heap.size [150] w5).setCell (p := ⟨w.heap.size, 0, none⟩) (Nat.le_refl _) HR5.out.bears (.int .i64 wd)).setCell (p := ⟨w.heap.size, 1, none⟩) (Nat.le_refl _) (HR5.out.set_ 0 _).bears (.slice A4 l.length c4)
  refine bodyPost_ret (v := .tuple #[.agg #[.int .i64 wd, .slice A4 l.length c4], .bool true]) (by simp [results, Tryz.results124, go_sem, x0, x1]) rfl ⟨_, by rw [hwd], (HV5.out.ints_step hst7 (by decide)).ints_base (by omega) (by simp), HBW5.out.trans (hst7.below (by omega))⟩
end Go.Proofs.YtdjpdllehhecpaaGreatDoor
