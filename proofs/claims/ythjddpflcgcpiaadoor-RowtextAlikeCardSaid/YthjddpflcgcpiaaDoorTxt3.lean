/-
  What the document's functions on a row's items return: its text, its text with blanks, how far it is used, where a text stands. Each function once.
-/
import Derived.Test.YthjddpflcgcpiaaDoorTxt2
namespace Go.Proofs.YthjddpflcgcpiaaDoor
open Go.RowKit
set_option linter.unusedVariables false
set_option linter.unusedSimpArgs false

theorem items_of (l : List CellV) : ∀ i ∈ itemsF l, (i.1 = 1 ∨ i.1 = 2) ∧ ∃ c ∈ l, i.2 = c.2 := by
  intro i hi
  unfold itemsF at hi
  rw [List.mem_flatMap] at hi
  obtain ⟨c, hc, hi⟩ := hi
  unfold itemOf at hi
  split at hi
  · simp only [List.mem_singleton] at hi; subst hi; exact ⟨.inl rfl, c, hc, rfl⟩
  · split at hi
    · simp only [List.mem_singleton] at hi; subst hi; exact ⟨.inr rfl, c, hc, rfl⟩
    · cases hi
theorem items_short {l : List CellV} (h : ∀ c ∈ l, c.2.length ≤ 16) : ∀ i ∈ itemsF l, i.2.length ≤ 16 := by
  intro i hi
  obtain ⟨_, c, hc, e⟩ := items_of l i hi
  rw [e]; exact h c hc

set_option maxHeartbeats 1000000 in
theorem rText_ok (So : Nat → Prop) (x : Value) (l : List CellV) (w : World) (hx : Slc RCell So (fun b => b < w.heap.size) w x l) (hlen : l.length ≤ 100000) (htx : ∀ c ∈ l, c.2.length ≤ 16) :
    Calls Tryd.prog 34 #[x] w fun e w' => ∃ s, e = .returned s ∧ Own (Rep.int .i32) 21 [] w.heap.size w' s (textI (itemsF l)) ∧ Below w.heap.size w w' := by
  have hI := rItems_ok So x l w hx hlen
  have hil := items_len l
  have hsh := items_short htx
  have hte : textI (itemsF l) = textF (itemsF l) := rfl
  rw [hte]
  clear hte
  generalize itemsF l = y at *
  have HI := hide hI
  have HSH := hide hsh
  obtain ⟨A, c, rfl, _, _, _⟩ := hx.open_
  clear hI hsh htx
  go_enter Tryd.func34, Tryd.ntmps34
  go_wp2_with fail
  refine HI.out.mono ?_
  rintro e w1 ⟨v1, rfl, hv1, hb1⟩
  have hz1 := hb1.size
  have hy1 := hv1.slc.mono (Keep.lt _ _) (Keep.lt _ _)
  obtain ⟨A1, c1, rfl, _, _, _⟩ := hy1.open_
  go_wp2
  go_loopw [3, 5] (fun out i wr => ∃ k : Nat, k ≤ y.length ∧ i = .int .i64 k ∧ Own (Rep.int .i32) 21 [] w1.heap.size wr out (textF (y.take k)) ∧ Below w1.heap.size w1 wr) (fun _ i _ => y.length - (intOf i).toNat)
  case atStart => exact ⟨0, Nat.zero_le _, rfl, Own.nil_ _ _ _ _ _ (by decide), Below.refl _ _⟩
  case round =>
    obtain ⟨k, hk, rfl, hout, hbel⟩ := hrel
    have hsz := hbel.size
    by_cases hlt : k < y.length
    · have hy1r := hy1.mono (Keep.below (S := fun b => b < w1.heap.size) hbel) (Keep.below (S := fun b => b < w1.heap.size) hbel)
      obtain ⟨ab, off, v2, rfl, hab, q0, q1, hw, hv⟩ := cell_at hy1r.slb hlt
      obtain ⟨A2, c2, rfl, _, _, _⟩ := hv.open_
      have hsn := text_take y k hlt
      have HSN := hide hsn
      have hln := HSH.out y[k] (List.getElem_mem _)
      have htl := text_len _ (take_short HSH.out k)
      have htl2 : (y.take k).length ≤ k := List.length_take_le _ _
      clear hsn
      have hvi := hv.flat_any (Flat.int .i32) (fun _ => False)
      go_wp2_with (at_builtin; refine wpList_appg rfl (.tmp 14) (.tmp 19) 44 rfl (Rep.int .i32) 21 [] w1.heap.size 4 _ Tryd.underlying44 i32_info rfl (by decide) (by decide) _ _ rfl hout _ _ _ _ rfl hvi (fun _ h => h.elim) (by omega) (by omega) ?_; intro v5 w5 hv5 hst5 hg5 hob5)
      go_roundw
      case rel => exact ⟨k + 1, by omega, by go_num, by rw [HSN.out]; exact hv5, hbel.trans (hst5.below hsz)⟩
      case measure => simp [intOf]; omega
    · have e : y.take k = y := List.take_of_length_le (by omega)
      rw [e] at hout
      go_wp2
      go_ret
      exact ⟨_, rfl, hout.flat_base (Flat.int .i32) hz1 (by decide), hb1.trans (hbel.mono hz1)⟩

theorem rUsed_ok (So Si : Nat → Prop) (x : Value) (l : List CellV) (w : World) (hx : Slc RCell So Si w x l) (hlen : l.length ≤ 100000) :
    Calls Tryd.prog 38 #[x] w fun e w' => e = .returned (.int .i64 (usedF l)) ∧ w = w' := by
  obtain ⟨A, c, rfl, _, _, _⟩ := hx.open_
  go_enter Tryd.func38, Tryd.ntmps38
  go_wp2
  go_loopw [3, 4] (fun n i wr => ∃ k : Nat, k ≤ l.length ∧ i = .int .i64 k ∧ n = .int .i64 (usedF (l.take k)) ∧ wr = w) (fun _ i _ => l.length - (intOf i).toNat)
  case atStart => exact ⟨0, Nat.zero_le _, rfl, rfl, rfl⟩
  case round =>
    obtain ⟨k, hk, rfl, rfl, rfl⟩ := hrel
    by_cases hlt : k < l.length
    · obtain ⟨ab, off, v2, rfl, hab, q0, q1, hw, hv⟩ := cell_at hx.slb hlt
      have hut := used_take l k hlt
      have hu1 := used_le (l.take k)
      have htl2 : (l.take k).length ≤ k := List.length_take_le _ _
      by_cases hc : l[k].1 = 0
      · have hc2 : (l[k].1 != 0) = false := by simp [hc]
        rw [if_pos hc] at hut
        have HUT := hide hut
        clear hut hc
        go_wp2
        go_roundw
        case rel => exact ⟨k + 1, by omega, by go_num, by rw [HUT.out], trivial⟩
        case measure => simp [intOf]; omega
      · have hc2 : (l[k].1 != 0) = true := by simp [hc]
        rw [if_neg hc] at hut
        have HUT := hide hut
        clear hut hc
        go_wp2
        go_roundw
        case rel => exact ⟨k + 1, by omega, by go_num, by rw [HUT.out]; go_num, trivial⟩
        case measure => simp [intOf]; omega
    · have e : l.take k = l := List.take_of_length_le (by omega)
      rw [e]
      go_wp2
      go_ret
      exact ⟨rfl, rfl⟩
end Go.Proofs.YthjddpflcgcpiaaDoor
