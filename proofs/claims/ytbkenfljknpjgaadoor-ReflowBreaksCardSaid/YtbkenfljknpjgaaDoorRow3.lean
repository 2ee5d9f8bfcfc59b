/-
  What the function that gives a row's cells returns; and row.Of, of too few cells or too many. Each function once.
-/
import Derived.Test.YtbkenfljknpjgaaDoorRow2
import Derived.Test.YtbkenfljknpjgaaDoorFit0
namespace Go.Proofs.YtbkenfljknpjgaaDoor
open Go.RowKit
set_option linter.unusedVariables false
set_option linter.unusedSimpArgs false

set_option maxHeartbeats 1000000 in
theorem Cells_ok (base : Nat) (v : Value) (l : List CellV) (wrap : Bool) (w : World) (h : RowIs base w v l wrap) (hlen : l.length ≤ 100000) (htx : ∀ c ∈ l, c.2.length ≤ 16) :
    Calls Tryd.prog 46 #[v] w fun e w' => ∃ s, e = .returned s ∧ Own2 RCell 74 [21] w.heap.size 0 w' s l ∧ Below w.heap.size w w' := by
  have HTX := hide htx
  have hW := fun w h => Wide_ok base v l wrap w h
  have HW := hide hW
  have HH := hide h
  obtain ⟨g, s, rfl, hgb, hgk, hown⟩ := h
  obtain ⟨A, c, rfl, hc1, hc2, hB⟩ := hown.slc.open_
  have hgl := hgk.lt
  clear htx hW
  go_enter Tryd.func46, Tryd.ntmps46
  go_wp2_with (refine (HW.out _ HH.out).mono ?_; rintro e w1 ⟨rfl, rfl⟩)
  go_loopw [3, 7] (fun out i wr => ∃ k : Nat, k ≤ l.length ∧ i = .int .i64 k ∧ Own2 RCell 74 [21] w.heap.size 0 wr out (l.take k) ∧ Below w.heap.size w wr) (fun _ i _ => l.length - (intOf i).toNat)
  case atStart => exact ⟨0, Nat.zero_le _, rfl, Own2.nil_ _ _ _ _ _ _ (Nat.zero_le _) (by decide), Below.refl _ _⟩
  case round =>
    obtain ⟨k, hk, rfl, hout, hbel⟩ := hrel
    have hsz := hbel.size
    by_cases hlt : k < l.length
    · have hgk2 := hgk.below hbel hgl
      have x0 := hgk2.cell 0
      have x1 := hgk2.lt
      simp only [List.getElem?_toArray, List.getElem?_cons_succ, List.getElem?_cons_zero] at x0
      have hxk := hown.slc.mono (Keep.below hbel) (Keep.below hbel)
      obtain ⟨ab, off, v2, rfl, _, q0, q1, hw, hv⟩ := cell_at hxk.slb hlt
      obtain ⟨A', c', rfl, hd1, hd2, _⟩ := hv.open_
      have hln := HTX.out l[k] (List.getElem_mem _)
      have hsn := take_snoc' l k hlt
      have HSN := hide hsn
      clear hsn
      go_wp2_with fail
      refine (own_ok _ _ l[k].1 _ l[k].2 _ hv (by omega)).mono ?_
      rintro e w3 ⟨v3, rfl, hv3, hb3⟩
      have hz3 := hb3.size
      have hout3 := hout.below hb3
      have hb3' := hbel.trans (hb3.mono hsz)
      obtain ⟨A3, c3, rfl, _, _, _⟩ := hv3.islc.open_
      have hone : Own2 RCell 74 [21] w3.heap.size 0 (w3.alloc (.cells #[.int .i64 l[k].1, .slice A3 l[k].2.length c3] 74)) (.slice (some ⟨w3.heap.size, 0, none⟩) 1 1) [l[k]] :=
        Own2.lit (Nat.zero_le _) (by decide) (els_cell1 hw (own_typed hv3 _)) (Nat.le_refl _) rfl (by simp [maxLen])
      have hout4 := hout3.alloc (.cells #[.int .i64 l[k].1, .slice A3 l[k].2.length c3] 74)
      have htl : (l.take k).length ≤ k := List.length_take_le _ _
      go_wp2_with (at_builtin; refine wpList_app2 rfl (.tmp 10) (.tmp 19) 23 rfl RCell 74 [21] w.heap.size 0 32 _ Tryd.underlying23 cell_info rfl (by decide) (by decide) _ _ rfl hout4 _ _ _ _ _ rfl hone (by simp) (by simp; omega) (by simp; omega) ?_; intro v5 w5 hv5 hst5)
      go_roundw
      case rel => exact ⟨k + 1, by omega, by go_num, by rw [HSN.out]; exact hv5, (hb3'.alloc hb3'.size _).trans (hst5.below (by simp; omega))⟩
      case measure => simp [intOf]; omega
    · have e : l.take k = l := List.take_of_length_le (by omega)
      rw [e] at hout
      go_wp2
      go_ret
      exact ⟨_, rfl, hout, hbel⟩

theorem Cells_nil (w : World) :
    Calls Tryd.prog 46 #[.pointer none] w fun e w' => e = .returned (.slice none 0 0) ∧ w = w' := by
  go_enter Tryd.func46, Tryd.ntmps46
  go_wp2_with (refine (Wide_nil _).mono ?_; rintro e w1 ⟨rfl, rfl⟩)
  go_loop [3, 7] (fun out i => out = .slice none 0 0 ∧ i = .int .i64 0) (fun _ _ => 0)
  case atStart => exact ⟨rfl, rfl⟩
  case round =>
    obtain ⟨rfl, rfl⟩ := hrel
    go_wp2
    go_ret
    exact ⟨rfl, rfl⟩

/-- Of no cells, or too many, row.Of makes no row. -/
theorem ROf_range (A : Option Addr) (n c : Nat) (t : TypeId) (u : Value) (w : World) (hn : n = 0 ∨ 1024 < n) (hE : w.cell? ⟨0, 0, none⟩ = some (.iface t u)) :
    Calls Tryd.prog 12 #[.slice A n c] w fun e w' => e = .returned (.tuple #[.pointer none, .iface t u]) ∧ ∃ n, w' = w.drewN n := by
  rcases hn with hn | hn
  · subst hn
    go_enter Tryd.func12, Tryd.ntmps12
    go_wp2
    go_quiet (fail)
    go_wp2
    go_ret2
    exact ⟨rfl, _, rfl⟩
  · have h1 : ((n : Int) == 0) = false := by rw [beq_eq_false_iff_ne]; omega
    have h2 : (1024 : Int) < n := by omega
    clear hn
    go_enter Tryd.func12, Tryd.ntmps12
    go_wp2
    go_quiet (fail)
    go_wp2
    go_ret2
    exact ⟨rfl, _, rfl⟩
end Go.Proofs.YtbkenfljknpjgaaDoor
