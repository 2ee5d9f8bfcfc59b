/-
  What the functions that make items of cells, and cells of items, return. Each function once.
-/
import Derived.Test.YtbkenfljknpjgaaDoorItm2
import Derived.Test.YtbkenfljknpjgaaDoorCell8
namespace Go.Proofs.YtbkenfljknpjgaaDoor
open Go.RowKit
set_option linter.unusedVariables false
set_option linter.unusedSimpArgs false

set_option maxHeartbeats 1000000 in
theorem IOf_ok (So : Nat → Prop) (x : Value) (l : List CellV) (w : World) (hx : Slc RCell So (fun b => b < w.heap.size) w x l) (hlen : l.length ≤ 100000) (hs : soundB l = true) :
    Calls Tryd.prog 52 #[x] w fun e w' => ∃ s, e = .returned (.tuple #[s, .nilIface]) ∧ Own RCell 50 [21] w.heap.size w' s (itemsF l) ∧ Below w.heap.size w w' := by
  have hie := itF_eq l hs
  have htx := sound_len hs
  have hgd := good_of_sound l hs
  have HS := hide hs
  have HIE := hide hie
  have HTX := hide htx
  have HGD := hide hgd
  have hx0 := hx.mono (So' := fun _ => True) (Keep.weaken fun _ _ => trivial) (Keep.refl _ _)
  obtain ⟨A, c, rfl, _, _, _⟩ := hx.open_
  clear hs hie htx hgd
  go_enter Tryd.func52, Tryd.ntmps52
  go_wp2_with fail
  refine (Sound_ok _ _ _ l _ hx).mono ?_
  rw [HS.out]
  rintro e w1 ⟨rfl, hb1⟩
  have hz1 := hb1.size
  have hx1 := hx.mono (Keep.below (S := So) hb1) (Keep.below (S := fun b => b < w.heap.size) hb1)
  go_wp2
  go_loopw [4, 13] (fun out i wr => ∃ k : Nat, k ≤ l.length ∧ i = .int .i64 k ∧ Own RCell 50 [21] w.heap.size wr out (itF (l.take k)) ∧ Below w.heap.size w wr) (fun _ i _ => l.length - (intOf i).toNat)
  case atStart => exact ⟨0, Nat.zero_le _, rfl, Own.nil_ _ _ _ _ _ (by decide), hb1⟩
  case round =>
    obtain ⟨k, hk, rfl, hout, hbel⟩ := hrel
    have hsz := hbel.size
    by_cases hlt : k < l.length
    · obtain ⟨ab, off, v2, rfl, _, p0, p1, hw, hv⟩ := cell_at hx.slb hlt
      have hab := World.block_lt_of_cell? w _ p0
      simp only at hab
      obtain ⟨A2, c2, rfl, _, _, _⟩ := hv.open_
      have q0 := (hbel.cell (p := ⟨ab, off + k * 2, none⟩) hab).trans p0
      have q1 := (hbel.cell (p := ⟨ab, off + k * 2 + 1, none⟩) hab).trans p1
      have hvr := hv.mono (Keep.below (S := fun b => b < w.heap.size) hbel) (Keep.below (S := fun b => b < w.heap.size) hbel)
      have hln := HTX.out l[k] (List.getElem_mem _)
      have hsn := itF_snoc l k hlt
      have hil := itF_len (l.take k)
      have hip := itF_pos l HGD.out k hlt
      have htl2 : (l.take k).length ≤ k := List.length_take_le _ _
      generalize itF (l.take k) = acc at *
      have hblk := Blk.new wr 74 #[.int .i64 l[k].1, .slice A2 l[k].2.length c2]
      have hout2 := hout.alloc (.cells #[.int .i64 l[k].1, .slice A2 l[k].2.length c2] 74)
      have hbl := hbel.alloc hsz (.cells #[.int .i64 l[k].1, .slice A2 l[k].2.length c2] 74)
      clear p0 p1
      by_cases h3 : l[k].1 = 3
      · have h2 : (l[k].1 == 3) = true := by simpa using h3
        have hip := hip h3
        have hsn : itF (l.take (k + 1)) = acc.set (acc.length - 1) (2, (acc.getD (acc.length - 1) (0, [])).2) := by rw [hsn]; unfold itG; rw [if_pos h3]
        obtain ⟨j, hj⟩ : ∃ j, acc.length = j + 1 := ⟨acc.length - 1, by omega⟩
        have hjl : j < acc.length := by omega
        rw [show acc.length - 1 = j by omega, List.getD_eq_getElem?_getD, List.getElem?_eq_getElem hjl, Option.getD_some] at hsn
        obtain ⟨g, cap, xs, rest, rfl, _, _, _, _, _, _, _⟩ := own_open hout2 (by omega)
        obtain ⟨hgl, hgb, f0, ⟨a0, r0⟩, hset, hst⟩ := own_wide hout2 rfl hjl 2 (by decide)
        have HSN := hide hsn
        have hal := acc.length
        have e1 : ((j + 1 : Nat) : Int) - 1 = j := by omega
        have hjj : j < j + 1 := by omega
        rw [hj] at hset ⊢
        clear hsn h3 hip
        go_wp2
        go_roundw
        case rel => exact ⟨k + 1, by omega, by go_num, by rw [HSN.out]; exact hset, hbl.trans (hst.below (by simp; omega))⟩
        case measure => simp [intOf]; omega
      · have h2 : (l[k].1 == 3) = false := by simpa using h3
        have hsn : itF (l.take (k + 1)) = acc ++ [(1, l[k].2)] := by rw [hsn]; unfold itG; rw [if_neg h3]
        have HSN := hide hsn
        clear hsn h3 hip
        have hva := hvr.mono (Keep.alloc (fun b => b < w.heap.size) wr (.cells #[.int .i64 l[k].1, .slice A2 l[k].2.length c2] 74)) (Keep.alloc (fun b => b < w.heap.size) wr (.cells #[.int .i64 l[k].1, .slice A2 l[k].2.length c2] 74))
        go_wp2_with fail
        refine (Clone_ok _ _ _ l[k].2 _ hva).mono ?_
        rintro e w3 ⟨v3, rfl, hv3, hb3⟩
        have hb3' := hbl.trans (hb3.mono hbl.size)
        have hz3 := hb3'.size
        have hout3 := hout2.below hb3
        obtain ⟨A3, c3, rfl, _, _, _⟩ := hv3.slc.open_
        have hone : Own RCell 50 [21] w.heap.size (w3.alloc (.cells #[.int .i64 1, .slice A3 l[k].2.length c3] 50)) (.slice (some ⟨w3.heap.size, 0, none⟩) 1 1) [(1, l[k].2)] :=
          Own.lit (by decide) (els_cell1 (by decide) (own_typed hv3 _)) hz3 rfl (by simp [maxLen])
        have hout4 := hout3.alloc (.cells #[.int .i64 1, .slice A3 l[k].2.length c3] 50)
        go_wp2_with (at_builtin; refine wpList_appg rfl (.tmp 26) (.tmp 31) 46 rfl RCell 50 [21] w.heap.size 32 _ Tryd.underlying46 item_info rfl (by decide) (by decide) _ _ rfl hout4 _ _ _ _ rfl hone.slc (fun _ h => h) (by simp; omega) (by simp; omega) ?_; intro v5 w5 hv5 hst5 hg5 hob5)
        go_roundw
        case rel => exact ⟨k + 1, by omega, by go_num, by rw [HSN.out]; exact hv5, (hb3'.alloc hz3 _).trans (hst5.below (by simp; omega))⟩
        case measure => simp [intOf]; omega
    · have e : l.take k = l := List.take_of_length_le (by omega)
      rw [e, HIE.out] at hout
      go_wp2
      go_ret2
      exact ⟨_, rfl, hout, hbel⟩

theorem IOf_bad (So Si : Nat → Prop) (x : Value) (l : List CellV) (t : TypeId) (u : Value) (w : World) (hx : Slc RCell So Si w x l) (hs : soundB l = false) (hE : w.cell? ⟨1, 0, none⟩ = some (.iface t u)) :
    Calls Tryd.prog 52 #[x] w fun e w' => e = .returned (.tuple #[.slice none 0 0, .iface t u]) ∧ Below w.heap.size w w' := by
  have hEl := World.block_lt_of_cell? w _ hE
  simp only at hEl
  have HS := hide hs
  obtain ⟨A, c, rfl, _, _, _⟩ := hx.open_
  clear hs
  go_enter Tryd.func52, Tryd.ntmps52
  go_wp2_with fail
  refine (Sound_ok _ _ _ l _ hx).mono ?_
  rw [HS.out]
  rintro e w1 ⟨rfl, hb1⟩
  have hE1 := (hb1.cell (p := ⟨1, 0, none⟩) hEl).trans hE
  go_wp2
  go_quiet (fail)
  go_wp2
  go_ret2
  exact ⟨rfl, below_drewN hb1 _⟩

theorem ofF_len (wd : Int) (t : List Int) : (ofF wd t).length ≤ 2 := by
  unfold ofF; split <;> split <;> simp
theorem cells_len : ∀ (x : List ItemV), (cellsI x).length ≤ 2 * x.length
  | [] => by simp [cellsI]
  | i :: x => by
    have ih := cells_len x
    have h := ofF_len i.1 i.2
    unfold cellsI at ih ⊢
    rw [List.flatMap_cons, List.length_append, List.length_cons]
    omega
theorem cells_take (x : List ItemV) (k : Nat) (h : k < x.length) : cellsI (x.take (k + 1)) = cellsI (x.take k) ++ ofF x[k].1 x[k].2 := by
  unfold cellsI
  rw [take_snoc' x k h, List.flatMap_append]; simp
theorem rightI_len (i : ItemV) (h : rightI i = true) : i.2.length ≤ 16 := by
  unfold rightI at h
  split at h
  · omega
  · rw [Bool.and_eq_true] at h
    exact (right_text 1 (.inl rfl) i.2 h.2).2.1

end Go.Proofs.YtbkenfljknpjgaaDoor
