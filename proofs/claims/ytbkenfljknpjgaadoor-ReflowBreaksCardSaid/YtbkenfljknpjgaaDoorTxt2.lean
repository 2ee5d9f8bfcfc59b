/-
  What the function that reads a row as a text with its blanks returns; what the document's functions on items return. Each function once.
-/
import Derived.Test.YtbkenfljknpjgaaDoorTxt1
namespace Go.Proofs.YtbkenfljknpjgaaDoor
open Go.RowKit
set_option linter.unusedVariables false
set_option linter.unusedSimpArgs false

theorem pl_len : ∀ (l : List CellV), (∀ c ∈ l, c.2.length ≤ 16) → (l.flatMap plOf).length ≤ 17 * l.length
  | [], _ => by simp
  | c :: l, h => by
    have ih := pl_len l (fun d hd => h d (List.mem_cons.2 (.inr hd)))
    have h1 := h c (List.mem_cons.2 (.inl rfl))
    have h2 : (plOf c).length ≤ 1 + c.2.length := by unfold plOf; split <;> simp <;> omega
    rw [List.flatMap_cons, List.length_append, List.length_cons]
    omega
theorem pl_take (l : List CellV) (k : Nat) (h : k < l.length) : (l.take (k + 1)).flatMap plOf = (l.take k).flatMap plOf ++ plOf l[k] := by
  rw [take_snoc' l k h, List.flatMap_append]; simp

/-! ### Items -/
theorem item_info : (Tryd.prog.info? 50).map (fun i => (i.zero, i.size, i.bytes)) = some (some (.agg #[.int .i64 0, .slice none 0 0]), RCell.sz, 32) := by kernel_rfl

theorem items_len (l : List CellV) : (itemsF l).length ≤ l.length := by
  induction l with
  | nil => simp [itemsF]
  | cons c l ih =>
    rw [items_cons, List.length_append, List.length_cons]
    have : (itemOf c).length ≤ 1 := by
      unfold itemOf
      split
      · simp
      · split <;> simp
    omega

set_option maxHeartbeats 1000000 in
/-- The document's items of a row: the cells' own texts. -/
theorem rItems_ok (So : Nat → Prop) (x : Value) (l : List CellV) (w : World) (hx : Slc RCell So (fun b => b < w.heap.size) w x l) (hlen : l.length ≤ 100000) :
    Calls Tryd.prog 57 #[x] w fun e w' => ∃ s, e = .returned s ∧ Own RCell 50 [] w.heap.size w' s (itemsF l) ∧ Below w.heap.size w w' := by
  obtain ⟨A, c, rfl, hc1, hc2, _⟩ := hx.open_
  go_enter Tryd.func57, Tryd.ntmps57
  go_wp2
  go_loopw [3, 4] (fun out i wr => ∃ k : Nat, k ≤ l.length ∧ i = .int .i64 k ∧ Own RCell 50 [] w.heap.size wr out (itemsF (l.take k)) ∧ Below w.heap.size w wr) (fun _ i _ => l.length - (intOf i).toNat)
  case atStart => exact ⟨0, Nat.zero_le _, rfl, Own.nil_ _ _ _ _ _ (by decide), Below.refl _ _⟩
  case round =>
    obtain ⟨k, hk, rfl, hout, hbel⟩ := hrel
    have hsz := hbel.size
    by_cases hlt : k < l.length
    · obtain ⟨ab, off, v2, rfl, _, q0, q1, hw, hv⟩ := cell_at hx.slb hlt
      obtain ⟨A2, c2, rfl, _, _, _⟩ := hv.open_
      have hab := World.block_lt_of_cell? w _ q0
      simp only at hab
      have q2 := (hbel.cell (p := ⟨ab, off + k * 2, none⟩) hab).trans q0
      have q3 := (hbel.cell (p := ⟨ab, off + k * 2 + 1, none⟩) hab).trans q1
      have hv := hv.mono (Keep.below (S := fun b => b < w.heap.size) hbel) (Keep.below (S := fun b => b < w.heap.size) hbel)
      have hsn := items_take l k hlt
      have hil := items_len (l.take k)
      have htl2 : (l.take k).length ≤ k := List.length_take_le _ _
      generalize itemsF (l.take k) = acc at *
      have one : ∀ wd : Int, (Lit.int .i64 wd).wf = true → Slc RCell (fun _ => True) (fun b => b < w.heap.size) (wr.alloc (.cells #[.int .i64 wd, .slice A2 l[k].2.length c2] 50)) (.slice (some ⟨wr.heap.size, 0, none⟩) 1 1) [(wd, l[k].2)] := by
        intro wd hwd
        have ho : Own RCell 50 [] w.heap.size (wr.alloc (.cells #[.int .i64 wd, .slice A2 l[k].2.length c2] 50)) (.slice (some ⟨wr.heap.size, 0, none⟩) 1 1) [(wd, l[k].2)] :=
          Own.lit (xs := [.int .i64 wd, .slice A2 l[k].2.length c2]) (by decide) (els_cell1 hwd (hv.mono (Keep.weaken fun b h => .inl h) (Keep.weaken fun b h => .inl h))) hsz rfl (by simp [maxLen])
        exact ho.slc.mono (Keep.weaken fun _ _ => trivial) (Keep.weaken fun b h => by
          rcases h with h | ⟨_, t, _, _, ht⟩
          · exact h
          · simp at ht)
      have h1 := one 1 (by decide)
      have h2 := one 2 (by decide)
      have hout1 := hout.alloc (.cells #[.int .i64 1, .slice A2 l[k].2.length c2] 50)
      have hout2 := hout.alloc (.cells #[.int .i64 2, .slice A2 l[k].2.length c2] 50)
      clear one
      by_cases hk1 : l[k].1 < 2
      · have hk2 : (l[k].1 == 2) = false := by rw [beq_eq_false_iff_ne]; omega
        rw [show itemOf l[k] = [(1, l[k].2)] by unfold itemOf; rw [if_pos hk1]] at hsn
        have HSN := hide hsn
        clear hsn
        go_wp2_with (at_builtin; refine wpList_appg rfl (.tmp 17) (.tmp 24) 46 rfl RCell 50 [] w.heap.size 32 _ Tryd.underlying46 item_info rfl (by decide) (by decide) _ _ rfl hout1 _ _ _ _ rfl h1 (fun b h => .inl h) (by simp; omega) (by simp; omega) ?_; intro v5 w5 hv5 hst5 hg5 hob5; have hb5 := (hbel.alloc hsz _).trans (hst5.below (by simp; omega)); have q5 := (hb5.cell (p := ⟨ab, off + k * 2, none⟩) hab).trans q0)
        go_roundw
        case rel => exact ⟨k + 1, by omega, by go_num, by rw [HSN.out]; exact hv5, hb5⟩
        case measure => simp [intOf]; omega
      · by_cases hk3 : l[k].1 = 2
        · have hk2 : (l[k].1 == 2) = true := by simpa using hk3
          rw [show itemOf l[k] = [(2, l[k].2)] by unfold itemOf; rw [if_neg hk1, if_pos hk3]] at hsn
          have HSN := hide hsn
          clear hsn hk3
          go_wp2_with (at_builtin; refine wpList_appg rfl (.tmp 32) (.tmp 39) 46 rfl RCell 50 [] w.heap.size 32 _ Tryd.underlying46 item_info rfl (by decide) (by decide) _ _ rfl hout2 _ _ _ _ rfl h2 (fun b h => .inl h) (by simp; omega) (by simp; omega) ?_; intro v5 w5 hv5 hst5 hg5 hob5; have hb5 := (hbel.alloc hsz _).trans (hst5.below (by simp; omega)); have q5 := (hb5.cell (p := ⟨ab, off + k * 2, none⟩) hab).trans q0)
          go_roundw
          case rel => exact ⟨k + 1, by omega, by go_num, by rw [HSN.out]; exact hv5, hb5⟩
          case measure => simp [intOf]; omega
        · have hk2 : (l[k].1 == 2) = false := by simpa using hk3
          rw [show itemOf l[k] = [] by unfold itemOf; rw [if_neg hk1, if_neg hk3], List.append_nil] at hsn
          have HSN := hide hsn
          clear hsn hk3
          go_wp2
          go_roundw
          case rel => exact ⟨k + 1, by omega, by go_num, by rw [HSN.out]; exact hout, hbel⟩
          case measure => simp [intOf]; omega
    · have e : l.take k = l := List.take_of_length_le (by omega)
      rw [e] at hout
      go_wp2
      go_ret
      exact ⟨_, rfl, hout, hbel⟩
end Go.Proofs.YtbkenfljknpjgaaDoor
