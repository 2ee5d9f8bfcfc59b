/-
  What the document's functions on a row's items return: its text with blanks, and where a text stands. Each function once.
-/
import Derived.Test.YthjddpflcgcpiaaDoorTxt3
namespace Go.Proofs.YthjddpflcgcpiaaDoor
open Go.RowKit
set_option linter.unusedVariables false
set_option linter.unusedSimpArgs false

theorem pli_len : ∀ (x : List ItemV), (∀ i ∈ x, i.2.length ≤ 16) → (x.flatMap plI).length ≤ 17 * x.length
  | [], _ => by simp
  | c :: l, h => by
    have ih := pli_len l (fun d hd => h d (List.mem_cons.2 (.inr hd)))
    have h1 := h c (List.mem_cons.2 (.inl rfl))
    have h2 : (plI c).length ≤ 1 + c.2.length := by unfold plI; split <;> simp <;> omega
    rw [List.flatMap_cons, List.length_append, List.length_cons]
    omega
theorem pli_take (x : List ItemV) (k : Nat) (h : k < x.length) : (x.take (k + 1)).flatMap plI = (x.take k).flatMap plI ++ plI x[k] := by
  rw [take_snoc' x k h, List.flatMap_append]; simp

set_option maxHeartbeats 1000000 in
theorem rPlain_ok (So : Nat → Prop) (x : Value) (l : List CellV) (w : World) (hx : Slc RCell So (fun b => b < w.heap.size) w x l) (hlen : l.length ≤ 100000) (htx : ∀ c ∈ l, c.2.length ≤ 16) :
    Calls Tryd.prog 36 #[x] w fun e w' => ∃ s, e = .returned s ∧ Own (Rep.int .i32) 21 [] w.heap.size w' s (plainI (itemsF l)) ∧ Below w.heap.size w w' := by
  have hI := rItems_ok So x l w hx hlen
  have hil := items_len l
  have hsh := items_short htx
  generalize itemsF l = y at *
  have hpe : plainI y = (y.take (lastI y)).flatMap plI := rfl
  have hll := last_le y
  generalize plainI y = py at *
  have HI := hide hI
  have HSH := hide hsh
  have HPE := hide hpe
  obtain ⟨A, c, rfl, _, _, _⟩ := hx.open_
  clear hI hsh htx hpe
  go_enter Tryd.func36, Tryd.ntmps36
  go_wp2_with fail
  refine HI.out.mono ?_
  rintro e w1 ⟨v1, rfl, hv1, hb1⟩
  have hz1 := hb1.size
  have hy1 := hv1.slc.mono (Keep.lt _ _) (Keep.lt _ _)
  obtain ⟨A1, c1, rfl, _, _, _⟩ := hy1.open_
  go_wp2
  go_loopw [5, 6] (fun n i wr => ∃ k : Nat, k ≤ y.length ∧ i = .int .i64 k ∧ n = .int .i64 ((lastI (y.take k) : Int) - 1) ∧ w1 = wr) (fun _ i _ => y.length - (intOf i).toNat)
  case atStart => exact ⟨0, Nat.zero_le _, rfl, rfl, rfl⟩
  case round =>
    obtain ⟨k, hk, rfl, rfl, rfl⟩ := hrel
    by_cases hlt : k < y.length
    · obtain ⟨ab, off, v2, rfl, hab, q0, q1, hw, hv⟩ := cell_at hy1.slb hlt
      obtain ⟨A2, c2, rfl, _, _, _⟩ := hv.open_
      have hut := last_take y k hlt
      have hu1 := last_le (y.take k)
      have htl2 : (y.take k).length ≤ k := List.length_take_le _ _
      by_cases hc : y[k].2.length = 0
      · have hc2 : ¬ (0 : Int) < y[k].2.length := by omega
        rw [if_pos hc] at hut
        have HUT := hide hut
        clear hut hc
        go_wp2
        go_roundw
        case rel => exact ⟨k + 1, by omega, by go_num, by rw [HUT.out], trivial⟩
        case measure => simp [intOf]; omega
      · have hc2 : (0 : Int) < y[k].2.length := by omega
        rw [if_neg hc] at hut
        have HUT := hide hut
        clear hut hc
        go_wp2
        go_roundw
        case rel => exact ⟨k + 1, by omega, by go_num, by rw [HUT.out]; apply int_eq; omega, trivial⟩
        case measure => simp [intOf]; omega
    · have e : y.take k = y := List.take_of_length_le (by omega)
      rw [e]
      generalize lastI y = u at *
      go_wp2
      go_loopw [3, 7] (fun out i wr => ∃ k : Nat, k ≤ u ∧ i = .int .i64 k ∧ Own (Rep.int .i32) 21 [] w1.heap.size wr out ((y.take k).flatMap plI) ∧ Below w1.heap.size w1 wr) (fun _ i _ => u - (intOf i).toNat)
      case atStart => exact ⟨0, Nat.zero_le _, rfl, Own.nil_ _ _ _ _ _ (by decide), Below.refl _ _⟩
      case round =>
        obtain ⟨k, hk, rfl, hout, hbel⟩ := hrel
        have hsz := hbel.size
        by_cases hlt : k < u
        · have hlty : k < y.length := by omega
          obtain ⟨ab, off, v2, rfl, hab, q0, q1, hw, hv⟩ := cell_at hy1.slb hlty
          obtain ⟨A2, c2, rfl, _, _, _⟩ := hv.open_
          have q3 := (hbel.cell (p := ⟨ab, off + k * 2 + 1, none⟩) hab).trans q1
          have hv := hv.mono (Keep.below (S := fun b => b < w1.heap.size) hbel) (Keep.below (S := fun b => b < w1.heap.size) hbel)
          have hsn := pli_take y k hlty
          have hln := HSH.out y[k] (List.getElem_mem _)
          have htl := pli_len _ (take_short HSH.out k)
          have htl2 : (y.take k).length ≤ k := List.length_take_le _ _
          have hvi := hv.flat_any (Flat.int .i32) (fun _ => False)
          generalize (y.take k).flatMap plI = acc at *
          by_cases hc : y[k].2.length = 0
          · have hc2 : ((y[k].2.length : Int) == 0) = true := by simp [hc]
            have hpl : plI y[k] = [32] ++ y[k].2 := by unfold plI; rw [if_pos hc]
            rw [hpl, ← List.append_assoc] at hsn
            have HSN := hide hsn
            have HC := hide hc
            clear hsn hpl hc
            have hone := (own_i32 wr [32] (by decide) 0 wr.heap.size 1 (Nat.zero_le _) rfl rfl (by simp [maxLen])).slc.flat_any (Flat.int .i32) (fun _ => False)
            simp only [List.map_cons, List.map_nil] at hone
            have hout1 := hout.alloc (.cells #[.int .i32 32] 21)
            have hv4 := hvi.mono (Keep.alloc _ wr (.cells #[.int .i32 32] 21)) (Keep.alloc _ wr (.cells #[.int .i32 32] 21))
            go_wp2_with (first
              | (at_builtin; refine wpList_appg rfl (.tmp 36) (.tmp 37) 44 rfl (Rep.int .i32) 21 [] w1.heap.size 4 _ Tryd.underlying44 i32_info rfl (by decide) (by decide) _ _ rfl hout1 _ _ _ _ rfl hone (fun _ h => h.elim) (by first | omega | (simp; omega)) (by simp; omega) ?_; intro v5 w5 hv5 hst5 hg5 hob5; have hz5 := hst5.size; have hb5 := (hbel.alloc hsz _).trans (hst5.below (by simp; omega)); have q5 := (hb5.cell (p := ⟨ab, off + k * 2 + 1, none⟩) hab).trans q1)
              | (at_builtin; refine wpList_appg rfl (.tmp 39) (.tmp 44) 44 rfl (Rep.int .i32) 21 [] w1.heap.size 4 _ Tryd.underlying44 i32_info rfl (by decide) (by decide) _ _ rfl hv5 _ _ _ _ rfl (hv4.mono (Keep.old (S := fun b => b < w1.heap.size) hst5 (fun b h => h)) (Keep.old (S := fun _ => False) hst5 (fun _ h => h.elim))) (fun _ h => h.elim) (by first | omega | (simp; omega)) (by simp at hz5; omega) ?_; intro v6 w6 hv6 hst6 hg6 hob6))
            go_roundw
            case rel => exact ⟨k + 1, by omega, by go_num, by rw [HSN.out]; exact hv6, hb5.trans (hst6.below (by simp at hz5; omega))⟩
            case measure => simp [intOf]; omega
          · have hc2 : ((y[k].2.length : Int) == 0) = false := by rw [beq_eq_false_iff_ne]; omega
            have hpl : plI y[k] = y[k].2 := by unfold plI; rw [if_neg hc]; rfl
            rw [hpl] at hsn
            have HSN := hide hsn
            clear hsn hpl hc
            go_wp2_with (at_builtin; refine wpList_appg rfl (.tmp 39) (.tmp 44) 44 rfl (Rep.int .i32) 21 [] w1.heap.size 4 _ Tryd.underlying44 i32_info rfl (by decide) (by decide) _ _ rfl hout _ _ _ _ rfl hvi (fun _ h => h.elim) (by first | omega | (simp; omega)) (by omega) ?_; intro v5 w5 hv5 hst5 hg5 hob5)
            go_roundw
            case rel => exact ⟨k + 1, by omega, by go_num, by rw [HSN.out]; exact hv5, hbel.trans (hst5.below hsz)⟩
            case measure => simp [intOf]; omega
        · obtain rfl : k = u := by omega
          go_wp2
          go_ret
          rw [HPE.out]
          exact ⟨_, rfl, hout.flat_base (Flat.int .i32) hz1 (by decide), hb1.trans (hbel.mono hz1)⟩
end Go.Proofs.YthjddpflcgcpiaaDoor
