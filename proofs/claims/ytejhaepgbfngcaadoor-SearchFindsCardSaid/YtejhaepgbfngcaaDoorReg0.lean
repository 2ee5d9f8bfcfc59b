/-
  What is marked on a view, plain; what the program's functions that read cells, trim them and cut them out return. Each function once.
-/
import Derived.Test.YtejhaepgbfngcaaDoorView0
import Derived.Test.YtejhaepgbfngcaaDoorSound
import Derived.Deep.CutRange
namespace Go.Proofs.YtejhaepgbfngcaaDoor
open Go.RowKit
set_option linter.unusedVariables false
set_option linter.unusedSimpArgs false

def usedF (l : List CellV) : Nat := (l.reverse.dropWhile (fun c => decide (c.1 = 0))).length
def plOf (c : CellV) : List Int := (if c.1 = 0 then [32] else []) ++ c.2
def readF (l : List CellV) : List Int := l.flatMap plOf
def fromF (l : List CellV) (f : Nat) : Nat := if kindI l f = 3 then f - 1 else f
def toF (l : List CellV) (t : Nat) : Nat := if kindI l t = 2 then t + 1 else t
def stretchF (l : List CellV) (f t : Nat) : List CellV := (l.take (toF l t + 1)).drop (fromF l f)
def innerF (l : List CellV) (on : Bool) : List Int := if on = false then readF (l.take (usedF l)) ++ [10] else readF (if kindI l ((l.length : Int) - 1) = 0 then l.take (l.length - 1) else l)

theorem used_snoc (l : List CellV) (c : CellV) : usedF (l ++ [c]) = if c.1 = 0 then usedF l else l.length + 1 := by
  unfold usedF
  rw [List.reverse_append, List.reverse_singleton, List.singleton_append, List.dropWhile_cons]
  by_cases h : c.1 = 0
  · simp [h]
  · simp [h]
theorem used_le (l : List CellV) : usedF l ≤ l.length := by
  unfold usedF
  have := (List.dropWhile_sublist (fun c : CellV => decide (c.1 = 0)) (l := l.reverse)).length_le
  simpa using this
theorem used_take (l : List CellV) (k : Nat) (h : k < l.length) : usedF (l.take (k + 1)) = if l[k].1 = 0 then usedF (l.take k) else k + 1 := by
  rw [take_snoc' l k h, used_snoc, List.length_take, Nat.min_eq_left (by omega)]
theorem read_len : ∀ (l : List CellV), (∀ c ∈ l, c.2.length ≤ 16) → (readF l).length ≤ 17 * l.length
  | [], _ => by simp [readF]
  | c :: l, h => by
    have ih := read_len l (fun d hd => h d (List.mem_cons.2 (.inr hd)))
    have h1 := h c (List.mem_cons.2 (.inl rfl))
    have h2 : (plOf c).length ≤ 1 + c.2.length := by unfold plOf; split <;> simp <;> omega
    unfold readF at *
    rw [List.flatMap_cons, List.length_append, List.length_cons]
    omega
theorem read_take (l : List CellV) (k : Nat) (h : k < l.length) : readF (l.take (k + 1)) = readF (l.take k) ++ plOf l[k] := by
  unfold readF
  rw [take_snoc' l k h, List.flatMap_append]; simp
theorem take_short {l : List CellV} (h : ∀ c ∈ l, c.2.length ≤ 16) (k : Nat) : ∀ c ∈ l.take k, c.2.length ≤ 16 := fun c hc => h c (List.mem_of_mem_take hc)

set_option maxHeartbeats 1000000 in
theorem read_ok (So : Nat → Prop) (x : Value) (l : List CellV) (w : World) (hx : Slc RCell So (fun b => b < w.heap.size) w x l) (hlen : l.length ≤ 1000000) (htx : ∀ c ∈ l, c.2.length ≤ 16) :
    Calls Tryd.prog 57 #[x] w fun e w' => ∃ s, e = .returned s ∧ Own (Rep.int .i32) 21 [] w.heap.size w' s (readF l) ∧ Below w.heap.size w w' := by
  have HTX := hide htx
  clear htx
  obtain ⟨A1, c1, rfl, hc1, hc2, _⟩ := hx.open_
  go_enter Tryd.func57, Tryd.ntmps57
  go_wp2
  go_loopw [3, 8] (fun out i wr => ∃ k : Nat, k ≤ l.length ∧ i = .int .i64 k ∧ Own (Rep.int .i32) 21 [] w.heap.size wr out (readF (l.take k)) ∧ Below w.heap.size w wr) (fun _ i _ => l.length - (intOf i).toNat)
  case atStart => exact ⟨0, Nat.zero_le _, rfl, Own.nil_ _ _ _ _ _ (by decide), Below.refl _ _⟩
  case round =>
    obtain ⟨k, hk, rfl, hout, hbel⟩ := hrel
    have hsz := hbel.size
    by_cases hlt : k < l.length
    · have hv1r := hx.mono (Keep.below (S := So) hbel) (Keep.below (S := fun b => b < w.heap.size) hbel)
      obtain ⟨ab, off, v2, rfl, hab, q0, q1, hw, hv⟩ := cell_at hv1r.slb hlt
      have hsn := read_take l k hlt
      have hln := HTX.out l[k] (List.getElem_mem _)
      have htl := read_len _ (take_short HTX.out k)
      have htl2 : (l.take k).length ≤ k := List.length_take_le _ _
      generalize readF (l.take k) = acc at *
      have hvi := hv.flat_any (Flat.int .i32) (fun _ => False)
      obtain ⟨A2, c2, rfl, _, _, _⟩ := hv.open_
      have hout2 := hout.alloc (.cells #[.int .i64 l[k].1, .slice A2 l[k].2.length c2] 51)
      have hv3 := hvi.mono (Keep.alloc _ wr (.cells #[.int .i64 l[k].1, .slice A2 l[k].2.length c2] 51)) (Keep.alloc _ wr (.cells #[.int .i64 l[k].1, .slice A2 l[k].2.length c2] 51))
      by_cases hk0 : l[k].1 = 0
      · have hk2 : (l[k].1 == 0) = true := by simpa using hk0
        have hpl : plOf l[k] = [32] ++ l[k].2 := by unfold plOf; rw [if_pos hk0]
        rw [hpl, ← List.append_assoc] at hsn
        have HSN := hide hsn
        clear hsn hpl hk0
        have hbl := Blk.new wr 51 #[.int .i64 l[k].1, .slice A2 l[k].2.length c2]
        have hbl2 := hbl.alloc (.cells #[.int .i32 32] 21)
        have hone := (own_i32 (wr.alloc (.cells #[.int .i64 l[k].1, .slice A2 l[k].2.length c2] 51)) [32] (by decide) 0 (wr.heap.size + 1) 1 (Nat.zero_le _) (by simp) rfl (by simp [maxLen])).slc.flat_any (Flat.int .i32) (fun _ => False)
        simp only [List.map_cons, List.map_nil] at hone
        have hout3 := hout2.alloc (.cells #[.int .i32 32] 21)
        have hv4 := hv3.mono (Keep.alloc _ _ (.cells #[.int .i32 32] 21)) (Keep.alloc _ _ (.cells #[.int .i32 32] 21))
        go_upto_region 7 with (at_builtin; refine wpList_appg rfl (.tmp 15) (.tmp 16) 22 rfl (Rep.int .i32) 21 [] w.heap.size 4 _ Tryd.underlying22 i32_info rfl (by decide) (by decide) _ _ rfl hout3 _ _ _ _ rfl hone (fun _ h => h.elim) (by simp; omega) (by simp; omega) ?_; intro v5 w5 hv5 hst5 hg5 hob5; have hbl5 := hbl2.step hst5 (by decide); have r0 := hbl5.cell 0; have r1 := hbl5.cell 1; simp only [List.getElem?_toArray, List.getElem?_cons_succ, List.getElem?_cons_zero] at r0 r1; have hz5 := hst5.size)
        go_wp2_with (at_builtin; refine wpList_appg rfl (.tmp 18) (.tmp 20) 22 rfl (Rep.int .i32) 21 [] w.heap.size 4 _ Tryd.underlying22 i32_info rfl (by decide) (by decide) _ _ rfl hv5 _ _ _ _ rfl (hv4.mono (Keep.old (S := fun b => b < w.heap.size) hst5 (fun b h => h)) (Keep.old (S := fun _ => False) hst5 (fun _ h => h.elim))) (fun _ h => h.elim) (by simp; omega) (by simp at hz5; omega) ?_; intro v6 w6 hv6 hst6 hg6 hob6)
        go_roundw
        case rel => exact ⟨k + 1, by omega, by go_num, by rw [HSN.out]; exact hv6, (((hbel.alloc hsz _).alloc (by simp; omega) _).trans ((hst5.trans hst6).below (by simp; omega)))⟩
        case measure => simp [intOf]; omega
      · have hk2 : (l[k].1 == 0) = false := by simpa using hk0
        have hpl : plOf l[k] = l[k].2 := by unfold plOf; rw [if_neg hk0]; rfl
        rw [hpl] at hsn
        have HSN := hide hsn
        clear hsn hpl hk0
        go_wp2_with (at_builtin; refine wpList_appg rfl (.tmp 18) (.tmp 20) 22 rfl (Rep.int .i32) 21 [] w.heap.size 4 _ Tryd.underlying22 i32_info rfl (by decide) (by decide) _ _ rfl hout2 _ _ _ _ rfl hv3 (fun _ h => h.elim) (by omega) (by simp; omega) ?_; intro v5 w5 hv5 hst5 hg5 hob5)
        go_roundw
        case rel => exact ⟨k + 1, by omega, by go_num, by rw [HSN.out]; exact hv5, (hbel.alloc hsz _).trans (hst5.below (by simp; omega))⟩
        case measure => simp [intOf]; omega
    · obtain rfl : k = l.length := by omega
      rw [List.take_length] at hout
      go_wp2
      go_ret
      exact ⟨_, rfl, hout, hbel⟩

theorem trimmed_ok (So Si : Nat → Prop) (A : Option Addr) (c : Nat) (l : List CellV) (w : World) (hx : Slc RCell So Si w (.slice A l.length c) l) :
    Calls Tryd.prog 58 #[.slice A l.length c] w fun e w' => e = .returned (.slice A (usedF l) c) ∧ w = w' := by
  have hc : l.length ≤ c ∧ c ≤ 9223372036854775807 := by
    obtain ⟨A', c', he, h1, h2, _⟩ := hx.open_
    injection he with e1 e2 e3
    subst e3
    exact ⟨h1, h2⟩
  have hu : usedF l = usedF (l.take l.length) := by rw [List.take_length]
  generalize usedF l = u at *
  go_enter Tryd.func58, Tryd.ntmps58
  go_wp2
  go_loopw [0] (fun s wr => ∃ k : Nat, k ≤ l.length ∧ s = .slice A k c ∧ u = usedF (l.take k) ∧ w = wr) (fun s _ => match s with | .slice _ n _ => n | _ => 0)
  case atStart => exact ⟨l.length, Nat.le_refl _, rfl, hu, rfl⟩
  case round =>
    obtain ⟨k, hk, rfl, hu, rfl⟩ := hrel
    rcases Nat.eq_zero_or_pos k with rfl | hp
    · have HU := hide (hu.trans rfl : u = 0)
      clear hu
      go_wp2
      go_ret
      rw [HU.out]
      exact ⟨rfl, rfl⟩
    · obtain ⟨m, rfl⟩ : ∃ m, k = m + 1 := ⟨k - 1, by omega⟩
      obtain ⟨ab, off, v2, rfl, _, q0, q1, _, _⟩ := cell_at hx.slb (k := m) (by omega)
      rw [used_take l m (by omega)] at hu
      have e0 : ((m + 1 : Nat) : Int) - 1 = m := by omega
      have hpos : (0 : Int) < ((m + 1 : Nat) : Int) := by omega
      by_cases h0 : l[m].1 = 0
      · have e1 : (l[m].1 == 0) = true := by simpa using h0
        rw [if_pos h0] at hu
        have HU := hide hu
        clear hu h0
        go_wp2
        go_roundw
        case rel => exact ⟨m, by omega, by go_num, HU.out, trivial⟩
        case measure => simp
      · have e1 : (l[m].1 == 0) = false := by simpa using h0
        rw [if_neg h0] at hu
        have HU := hide hu
        clear hu h0
        go_wp2
        go_ret
        rw [HU.out]
        exact ⟨rfl, rfl⟩
end Go.Proofs.YtejhaepgbfngcaaDoor
