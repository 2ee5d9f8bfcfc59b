/-
  What the function that reads a row as a text with its blanks returns; what the document's functions on items return. Each function once.
-/
import Derived.Test.YthjddpflcgcpiaaDoorTxt1
namespace Go.Proofs.YthjddpflcgcpiaaDoor
open Go.RowKit
set_option linter.unusedVariables false
set_option linter.unusedSimpArgs false

theorem pl_len : ∀ (l : List CellV), (∀ c ∈ l, c.2.length ≤ 16) → (l.flatMap plOf).length ≤ 17 * l.length
  | [], _ => by simp
  | c :: l, h => by
    have ih := pl_len l (fun d hd => h d (List.mem_cons.2 (.inr hd)))
    have h1 := h c (List.mem_cons.2 (.inl rfl))
    have h2 : (plOf c).length ≤ 1 + c.2.length := by unfold plOf; split <;> simp <;> omega
    rw [List.flatMap_cons, List.length_append, List.length_cons]
    omega
theorem pl_take (l : List CellV) (k : Nat) (h : k < l.length) : (l.take (k + 1)).flatMap plOf = (l.take k).flatMap plOf ++ plOf l[k] := by
  rw [take_snoc' l k h, List.flatMap_append]; simp

set_option maxHeartbeats 1000000 in
theorem Plain_ok (base : Nat) (v : Value) (l : List CellV) (wrap : Bool) (w : World) (h : RowIs base w v l wrap) (hlen : l.length ≤ 100000) (htx : ∀ c ∈ l, c.2.length ≤ 16) :
    Calls Tryd.prog 35 #[v] w fun e w' => ∃ s, e = .returned s ∧ Own (Rep.int .i32) 21 [] w.heap.size w' s (plainF l) ∧ Below w.heap.size w w' := by
  have hU := fun w (h : RowIs base w v l wrap) => Used_ok base v l wrap w h hlen htx
  have HH := hide h
  obtain ⟨g0, s0, rfl, _, _, _⟩ := h
  have HTX := hide htx
  have hpf : plainF l = (l.take (usedF l)).flatMap plOf := rfl
  have hul := used_le l
  generalize plainF l = pf at *
  generalize usedF l = u at *
  have HPF := hide hpf
  have HU := hide hU
  clear htx hpf hU
  go_enter Tryd.func35, Tryd.ntmps35
  go_wp2_with fail
  refine (Cells_ok _ _ _ _ _ HH.out hlen HTX.out).mono ?_
  rintro e w1 ⟨v1, rfl, hv1, hb1⟩
  have hz1 := hb1.size
  go_wp2_with fail
  refine (HU.out _ (HH.out.below hb1)).mono ?_
  rintro e w2 ⟨rfl, hb2⟩
  have hb2' := hb1.trans (hb2.mono hz1)
  have hz2 := hb2'.size
  have hv2 := (hv1.below hb2).slc.mono (Keep.lt _ _) (Keep.lt _ _)
  obtain ⟨A1, c1, rfl, hc1, hc2, _⟩ := hv2.open_
  have huc : u ≤ c1 := Nat.le_trans hul hc1
  go_wp2
  go_loopw [3, 12] (fun out i wr => ∃ k : Nat, k ≤ u ∧ i = .int .i64 k ∧ Own (Rep.int .i32) 21 [] w2.heap.size wr out ((l.take k).flatMap plOf) ∧ Below w2.heap.size w2 wr) (fun _ i _ => u - (intOf i).toNat)
  case atStart => exact ⟨0, Nat.zero_le _, rfl, Own.nil_ _ _ _ _ _ (by decide), Below.refl _ _⟩
  case round =>
    obtain ⟨k, hk, rfl, hout, hbel⟩ := hrel
    have hsz := hbel.size
    by_cases hlt : k < u
    · have hltl : k < l.length := by omega
      have hv1r := hv2.mono (Keep.below (S := fun b => b < w2.heap.size) hbel) (Keep.below (S := fun b => b < w2.heap.size) hbel)
      obtain ⟨ab, off, v2, rfl, hab, q0, q1, hw, hv⟩ := cell_at hv1r.slb hltl
      have hsn := pl_take l k hltl
      have hln := HTX.out l[k] (List.getElem_mem _)
      have htl := pl_len _ (take_short HTX.out k)
      have htl2 : (l.take k).length ≤ k := List.length_take_le _ _
      generalize (l.take k).flatMap plOf = acc at *
      have hvi := hv.flat_any (Flat.int .i32) (fun _ => False)
      obtain ⟨A2, c2, rfl, _, _, _⟩ := hv.open_
      have hout2 := hout.alloc (.cells #[.int .i64 l[k].1, .slice A2 l[k].2.length c2] 46)
      have hv3 := hvi.mono (Keep.alloc _ wr (.cells #[.int .i64 l[k].1, .slice A2 l[k].2.length c2] 46)) (Keep.alloc _ wr (.cells #[.int .i64 l[k].1, .slice A2 l[k].2.length c2] 46))
      by_cases hk0 : l[k].1 = 0
      · have hk2 : (l[k].1 == 0) = true := by simpa using hk0
        have hpl : plOf l[k] = [32] ++ l[k].2 := by unfold plOf; rw [if_pos hk0]
        rw [hpl, ← List.append_assoc] at hsn
        have HSN := hide hsn
        clear hsn hpl hk0
        have hbl := Blk.new wr 46 #[.int .i64 l[k].1, .slice A2 l[k].2.length c2]
        have hbl2 := hbl.alloc (.cells #[.int .i32 32] 21)
        have hone := (own_i32 (wr.alloc (.cells #[.int .i64 l[k].1, .slice A2 l[k].2.length c2] 46)) [32] (by decide) 0 (wr.heap.size + 1) 1 (Nat.zero_le _) (by simp) rfl (by simp [maxLen])).slc.flat_any (Flat.int .i32) (fun _ => False)
        simp only [List.map_cons, List.map_nil] at hone
        have hout3 := hout2.alloc (.cells #[.int .i32 32] 21)
        have hv4 := hv3.mono (Keep.alloc _ _ (.cells #[.int .i32 32] 21)) (Keep.alloc _ _ (.cells #[.int .i32 32] 21))
        go_wp2_with (first
          | (at_builtin; refine wpList_appg rfl (.tmp 19) (.tmp 20) 44 rfl (Rep.int .i32) 21 [] w2.heap.size 4 _ Tryd.underlying44 i32_info rfl (by decide) (by decide) _ _ rfl hout3 _ _ _ _ rfl hone (fun _ h => h.elim) (by simp; omega) (by simp; omega) ?_; intro v5 w5 hv5 hst5 hg5 hob5; have hbl5 := hbl2.step hst5 (by decide); have r0 := hbl5.cell 0; have r1 := hbl5.cell 1; simp only [List.getElem?_toArray, List.getElem?_cons_succ, List.getElem?_cons_zero] at r0 r1; have hz5 := hst5.size)
          | (at_builtin; refine wpList_appg rfl (.tmp 22) (.tmp 24) 44 rfl (Rep.int .i32) 21 [] w2.heap.size 4 _ Tryd.underlying44 i32_info rfl (by decide) (by decide) _ _ rfl hv5 _ _ _ _ rfl (hv4.mono (Keep.old (S := fun b => b < w2.heap.size) hst5 (fun b h => h)) (Keep.old (S := fun _ => False) hst5 (fun _ h => h.elim))) (fun _ h => h.elim) (by simp; omega) (by simp at hz5; omega) ?_; intro v6 w6 hv6 hst6 hg6 hob6))
        go_roundw
        case rel => exact ⟨k + 1, by omega, by go_num, by rw [HSN.out]; exact hv6, (((hbel.alloc hsz _).alloc (by simp; omega) _).trans ((hst5.trans hst6).below (by simp; omega)))⟩
        case measure => simp [intOf]; omega
      · have hk2 : (l[k].1 == 0) = false := by simpa using hk0
        have hpl : plOf l[k] = l[k].2 := by unfold plOf; rw [if_neg hk0]; rfl
        rw [hpl] at hsn
        have HSN := hide hsn
        clear hsn hpl hk0
        go_wp2_with (at_builtin; refine wpList_appg rfl (.tmp 22) (.tmp 24) 44 rfl (Rep.int .i32) 21 [] w2.heap.size 4 _ Tryd.underlying44 i32_info rfl (by decide) (by decide) _ _ rfl hout2 _ _ _ _ rfl hv3 (fun _ h => h.elim) (by omega) (by simp; omega) ?_; intro v5 w5 hv5 hst5 hg5 hob5)
        go_roundw
        case rel => exact ⟨k + 1, by omega, by go_num, by rw [HSN.out]; exact hv5, (hbel.alloc hsz _).trans (hst5.below (by simp; omega))⟩
        case measure => simp [intOf]; omega
    · obtain rfl : k = u := by omega
      go_wp2
      go_ret
      rw [HPF.out]
      exact ⟨_, rfl, hout.flat_base (Flat.int .i32) hz2 (by decide), hb2'.trans (hbel.mono hz2)⟩

theorem Plain_nil (w : World) :
    Calls Tryd.prog 35 #[.pointer none] w fun e w' => e = .returned (.slice none 0 0) ∧ w = w' := by
  go_enter Tryd.func35, Tryd.ntmps35
  go_wp2_with fail
  refine (Cells_nil _).mono ?_
  rintro e w1 ⟨rfl, rfl⟩
  go_wp2_with fail
  refine (Used_nil _).mono ?_
  rintro e w1 ⟨rfl, rfl⟩
  go_wp2
  go_loopw [3, 12] (fun out i wr => out = .slice none 0 0 ∧ i = .int .i64 0 ∧ wr = w) (fun _ _ _ => 0)
  case atStart => exact ⟨rfl, rfl, rfl⟩
  case round =>
    obtain ⟨rfl, rfl, rfl⟩ := hrel
    go_wp2
    go_ret
    exact ⟨rfl, rfl⟩

/-! ### Items -/
theorem item_info : (Tryd.prog.info? 72).map (fun i => (i.zero, i.size, i.bytes)) = some (some (.agg #[.int .i64 0, .slice none 0 0]), RCell.sz, 32) := by kernel_rfl

theorem items_len (l : List CellV) : (itemsF l).length ≤ l.length := by
  induction l with
  | nil => simp [itemsF]
  | cons c l ih =>
    rw [items_cons, List.length_append, List.length_cons]
    have : (itemOf c).length ≤ 1 := by
      unfold itemOf
      split
      · simp
      · split <;> simp
    omega

set_option maxHeartbeats 1000000 in
/-- The document's items of a row: the cells' own texts. -/
theorem rItems_ok (So : Nat → Prop) (x : Value) (l : List CellV) (w : World) (hx : Slc RCell So (fun b => b < w.heap.size) w x l) (hlen : l.length ≤ 100000) :
    Calls Tryd.prog 58 #[x] w fun e w' => ∃ s, e = .returned s ∧ Own RCell 72 [] w.heap.size w' s (itemsF l) ∧ Below w.heap.size w w' := by
  obtain ⟨A, c, rfl, hc1, hc2, _⟩ := hx.open_
  go_enter Tryd.func58, Tryd.ntmps58
  go_wp2
  go_loopw [3, 4] (fun out i wr => ∃ k : Nat, k ≤ l.length ∧ i = .int .i64 k ∧ Own RCell 72 [] w.heap.size wr out (itemsF (l.take k)) ∧ Below w.heap.size w wr) (fun _ i _ => l.length - (intOf i).toNat)
  case atStart => exact ⟨0, Nat.zero_le _, rfl, Own.nil_ _ _ _ _ _ (by decide), Below.refl _ _⟩
  case round =>
    obtain ⟨k, hk, rfl, hout, hbel⟩ := hrel
    have hsz := hbel.size
    by_cases hlt : k < l.length
    · obtain ⟨ab, off, v2, rfl, _, q0, q1, hw, hv⟩ := cell_at hx.slb hlt
      obtain ⟨A2, c2, rfl, _, _, _⟩ := hv.open_
      have hab := World.block_lt_of_cell? w _ q0
      simp only at hab
      have q2 := (hbel.cell (p := ⟨ab, off + k * 2, none⟩) hab).trans q0
      have q3 := (hbel.cell (p := ⟨ab, off + k * 2 + 1, none⟩) hab).trans q1
      have hv := hv.mono (Keep.below (S := fun b => b < w.heap.size) hbel) (Keep.below (S := fun b => b < w.heap.size) hbel)
      have hsn := items_take l k hlt
      have hil := items_len (l.take k)
      have htl2 : (l.take k).length ≤ k := List.length_take_le _ _
      generalize itemsF (l.take k) = acc at *
      have one : ∀ wd : Int, (Lit.int .i64 wd).wf = true → Slc RCell (fun _ => True) (fun b => b < w.heap.size) (wr.alloc (.cells #[.int .i64 wd, .slice A2 l[k].2.length c2] 72)) (.slice (some ⟨wr.heap.size, 0, none⟩) 1 1) [(wd, l[k].2)] := by
        intro wd hwd
        have ho : Own RCell 72 [] w.heap.size (wr.alloc (.cells #[.int .i64 wd, .slice A2 l[k].2.length c2] 72)) (.slice (some ⟨wr.heap.size, 0, none⟩) 1 1) [(wd, l[k].2)] :=
          Own.lit (xs := [.int .i64 wd, .slice A2 l[k].2.length c2]) (by decide) (els_cell1 hwd (hv.mono (Keep.weaken fun b h => .inl h) (Keep.weaken fun b h => .inl h))) hsz rfl (by simp [maxLen])
        exact ho.slc.mono (Keep.weaken fun _ _ => trivial) (Keep.weaken fun b h => by
          rcases h with h | ⟨_, t, _, _, ht⟩
          · exact h
          · simp at ht)
      have h1 := one 1 (by decide)
      have h2 := one 2 (by decide)
      have hout1 := hout.alloc (.cells #[.int .i64 1, .slice A2 l[k].2.length c2] 72)
      have hout2 := hout.alloc (.cells #[.int .i64 2, .slice A2 l[k].2.length c2] 72)
      clear one
      by_cases hk1 : l[k].1 < 2
      · have hk2 : (l[k].1 == 2) = false := by rw [beq_eq_false_iff_ne]; omega
        rw [show itemOf l[k] = [(1, l[k].2)] by unfold itemOf; rw [if_pos hk1]] at hsn
        have HSN := hide hsn
        clear hsn
        go_wp2_with (at_builtin; refine wpList_appg rfl (.tmp 17) (.tmp 24) 69 rfl RCell 72 [] w.heap.size 32 _ Tryd.underlying69 item_info rfl (by decide) (by decide) _ _ rfl hout1 _ _ _ _ rfl h1 (fun b h => .inl h) (by simp; omega) (by simp; omega) ?_; intro v5 w5 hv5 hst5 hg5 hob5; have hb5 := (hbel.alloc hsz _).trans (hst5.below (by simp; omega)); have q5 := (hb5.cell (p := ⟨ab, off + k * 2, none⟩) hab).trans q0)
        go_roundw
        case rel => exact ⟨k + 1, by omega, by go_num, by rw [HSN.out]; exact hv5, hb5⟩
        case measure => simp [intOf]; omega
      · by_cases hk3 : l[k].1 = 2
        · have hk2 : (l[k].1 == 2) = true := by simpa using hk3
          rw [show itemOf l[k] = [(2, l[k].2)] by unfold itemOf; rw [if_neg hk1, if_pos hk3]] at hsn
          have HSN := hide hsn
          clear hsn hk3
          go_wp2_with (at_builtin; refine wpList_appg rfl (.tmp 32) (.tmp 39) 69 rfl RCell 72 [] w.heap.size 32 _ Tryd.underlying69 item_info rfl (by decide) (by decide) _ _ rfl hout2 _ _ _ _ rfl h2 (fun b h => .inl h) (by simp; omega) (by simp; omega) ?_; intro v5 w5 hv5 hst5 hg5 hob5; have hb5 := (hbel.alloc hsz _).trans (hst5.below (by simp; omega)); have q5 := (hb5.cell (p := ⟨ab, off + k * 2, none⟩) hab).trans q0)
          go_roundw
          case rel => exact ⟨k + 1, by omega, by go_num, by rw [HSN.out]; exact hv5, hb5⟩
          case measure => simp [intOf]; omega
        · have hk2 : (l[k].1 == 2) = false := by simpa using hk3
          rw [show itemOf l[k] = [] by unfold itemOf; rw [if_neg hk1, if_neg hk3], List.append_nil] at hsn
          have HSN := hide hsn
          clear hsn hk3
          go_wp2
          go_roundw
          case rel => exact ⟨k + 1, by omega, by go_num, by rw [HSN.out]; exact hout, hbel⟩
          case measure => simp [intOf]; omega
    · have e : l.take k = l := List.take_of_length_le (by omega)
      rw [e] at hout
      go_wp2
      go_ret
      exact ⟨_, rfl, hout, hbel⟩
end Go.Proofs.YthjddpflcgcpiaaDoor
