/-
  What the functions on one item, and on how wide items are, return. Each function once.
-/
import Derived.Test.YthjddpflcgcpiaaDoorTxt2
import Derived.Test.YthjddpflcgcpiaaDoorItm0
import Derived.Test.YthjddpflcgcpiaaDoorCell1
namespace Go.Proofs.YthjddpflcgcpiaaDoor
open Go.RowKit
set_option linter.unusedVariables false
set_option linter.unusedSimpArgs false

theorem IRight_ok (So Si : Nat → Prop) (k : Int) (v : Value) (t : List Int) (w : World) (hk : (Lit.int .i64 k).wf = true) (hv : Slc (Rep.int .i32) So Si w v t) :
    Calls Tryd.prog 62 #[.agg #[.int .i64 k, v]] w fun e w' => e = .returned (.bool (rightI (k, t))) ∧ Below w.heap.size w w' := by
  obtain ⟨A, c, rfl, hc1, hc2, hB⟩ := hv.open_
  have hva := hv.ints_keep (Keep.alloc So w (.cells #[.int .i64 k, .slice A t.length c] 72))
  have hb1 := (Below.refl w.heap.size w).alloc (Nat.le_refl _) (.cells #[.int .i64 k, .slice A t.length c] 72)
  have hz1 := hb1.size
  by_cases ht : t.length = 0
  · have h1 : ((t.length : Int) == 0) = true := by simp [ht]
    have hr : rightI (k, t) = (k == 1) := by unfold rightI; rw [if_pos ht]; rw [Bool.eq_iff_iff]; simp
    have HR := hide hr
    clear hr
    go_enter Tryd.func62, Tryd.ntmps62
    go_wp2
    go_ret
    rw [HR.out]
    exact ⟨rfl, (Below.refl _ _).alloc (Nat.le_refl _) _⟩
  · have h1 : ((t.length : Int) == 0) = false := by rw [beq_eq_false_iff_ne]; omega
    have hr : rightI (k, t) = ((decide (k = 1) || decide (k = 2)) && rightB (1, t)) := by unfold rightI; rw [if_neg ht]
    by_cases hk1 : k = 1
    · subst hk1
      have hr : rightI (1, t) = rightB (1, t) := by rw [hr]; rfl
      have HR := hide hr
      clear hr
      go_enter Tryd.func62, Tryd.ntmps62
      go_wp2_with fail
      refine (Right_ok _ _ 1 _ t _ (by decide) hva).mono ?_
      rintro e w2 ⟨rfl, hb2⟩
      go_wp2
      go_ret
      rw [HR.out]
      exact ⟨rfl, hb1.trans (hb2.mono hz1)⟩
    · have h2 : (k != 1) = true := by simp [hk1]
      by_cases hk2 : k = 2
      · subst hk2
        have hr : rightI (2, t) = rightB (1, t) := by rw [hr]; rfl
        have HR := hide hr
        clear hr hk1
        go_enter Tryd.func62, Tryd.ntmps62
        go_wp2_with fail
        refine (Right_ok _ _ 1 _ t _ (by decide) hva).mono ?_
        rintro e w2 ⟨rfl, hb2⟩
        go_wp2
        go_ret
        rw [HR.out]
        exact ⟨rfl, hb1.trans (hb2.mono hz1)⟩
      · have h3 : (k != 2) = true := by simp [hk2]
        have hr : rightI (k, t) = false := by rw [hr, decide_eq_false hk1, decide_eq_false hk2]; rfl
        have HR := hide hr
        clear hr hk1 hk2
        go_enter Tryd.func62, Tryd.ntmps62
        go_wp2
        go_ret
        rw [HR.out]
        exact ⟨rfl, hb1⟩

theorem rIRight_ok (So Si : Nat → Prop) (k : Int) (v : Value) (t : List Int) (w : World) (hk : (Lit.int .i64 k).wf = true) (hv : Slc (Rep.int .i32) So Si w v t) :
    Calls Tryd.prog 50 #[.agg #[.int .i64 k, v]] w fun e w' => e = .returned (.bool (rightI (k, t))) ∧ Below w.heap.size w w' := by
  obtain ⟨A, c, rfl, hc1, hc2, hB⟩ := hv.open_
  have hva := hv.ints_keep (Keep.alloc So w (.cells #[.int .i64 k, .slice A t.length c] 72))
  have hb1 := (Below.refl w.heap.size w).alloc (Nat.le_refl _) (.cells #[.int .i64 k, .slice A t.length c] 72)
  have hz1 := hb1.size
  by_cases ht : t.length = 0
  · have h1 : ((t.length : Int) == 0) = true := by simp [ht]
    have hr : rightI (k, t) = (k == 1) := by unfold rightI; rw [if_pos ht]; rw [Bool.eq_iff_iff]; simp
    have HR := hide hr
    clear hr
    go_enter Tryd.func50, Tryd.ntmps50
    go_wp2
    go_ret
    rw [HR.out]
    exact ⟨rfl, (Below.refl _ _).alloc (Nat.le_refl _) _⟩
  · have h1 : ((t.length : Int) == 0) = false := by rw [beq_eq_false_iff_ne]; omega
    have hr : rightI (k, t) = ((decide (k = 1) || decide (k = 2)) && rightB (1, t)) := by unfold rightI; rw [if_neg ht]
    by_cases hk1 : k = 1
    · subst hk1
      have hr : rightI (1, t) = rightB (1, t) := by rw [hr]; rfl
      have HR := hide hr
      clear hr
      go_enter Tryd.func50, Tryd.ntmps50
      go_wp2_with fail
      refine (rRight_ok _ _ 1 _ t _ (by decide) hva).mono ?_
      rintro e w2 ⟨rfl, hb2⟩
      go_wp2
      go_ret
      rw [HR.out]
      exact ⟨rfl, hb1.trans (hb2.mono hz1)⟩
    · have h2 : (k == 1) = false := by simp [hk1]
      by_cases hk2 : k = 2
      · subst hk2
        have hr : rightI (2, t) = rightB (1, t) := by rw [hr]; rfl
        have HR := hide hr
        clear hr hk1
        go_enter Tryd.func50, Tryd.ntmps50
        go_wp2_with fail
        refine (rRight_ok _ _ 1 _ t _ (by decide) hva).mono ?_
        rintro e w2 ⟨rfl, hb2⟩
        go_wp2
        go_ret
        rw [HR.out]
        exact ⟨rfl, hb1.trans (hb2.mono hz1)⟩
      · have h3 : (k == 2) = false := by simp [hk2]
        have hr : rightI (k, t) = false := by rw [hr, decide_eq_false hk1, decide_eq_false hk2]; rfl
        have HR := hide hr
        clear hr hk1 hk2
        go_enter Tryd.func50, Tryd.ntmps50
        go_wp2
        go_ret
        rw [HR.out]
        exact ⟨rfl, hb1⟩

theorem IWide_ok (So Si : Nat → Prop) (x : Value) (y : List ItemV) (w : World) (hx : Slc RCell So Si w x y) (hlen : y.length ≤ 100000) :
    Calls Tryd.prog 59 #[x] w fun e w' => e = .returned (.int .i64 (wideI y)) ∧ Below w.heap.size w w' := by
  obtain ⟨A, c, rfl, _, _, _⟩ := hx.open_
  go_enter Tryd.func59, Tryd.ntmps59
  go_wp2
  go_loopw [3, 8] (fun n i wr => ∃ k : Nat, k ≤ y.length ∧ i = .int .i64 k ∧ n = .int .i64 (wideI (y.take k)) ∧ Below w.heap.size w wr) (fun _ i _ => y.length - (intOf i).toNat)
  case atStart => exact ⟨0, Nat.zero_le _, rfl, rfl, Below.refl _ _⟩
  case round =>
    obtain ⟨k, hk, rfl, rfl, hbel⟩ := hrel
    have hsz := hbel.size
    by_cases hlt : k < y.length
    · have hxr := hx.mono (Keep.below (S := So) hbel) (Keep.below (S := Si) hbel)
      obtain ⟨ab, off, v2, rfl, hab, q0, q1, hw, hv⟩ := cell_at hxr.slb hlt
      obtain ⟨A2, c2, rfl, _, _, _⟩ := hv.open_
      have hwt := wide_take y k hlt
      have hwl := wide_le (y.take k)
      have htl2 : (y.take k).length ≤ k := List.length_take_le _ _
      have hm : max 1 (min y[k].1 2) = (wOf y[k].1 : Int) := by unfold wOf; split <;> omega
      have hwo : wOf y[k].1 ≤ 2 := by unfold wOf; split <;> omega
      have HWT := hide hwt
      have HM := hide hm
      clear hwt hm
      go_wp2
      go_roundw
      case rel => exact ⟨k + 1, by omega, by go_num, by rw [HWT.out]; apply int_eq; have := HM.out; omega, hbel.alloc hsz _⟩
      case measure => simp [intOf]; omega
    · have e : y.take k = y := List.take_of_length_le (by omega)
      rw [e]
      go_wp2
      go_ret
      exact ⟨rfl, hbel⟩

theorem i64_info : (Tryd.prog.info? 3).map (fun i => (i.zero, i.size, i.bytes)) = some (some (.int .i64 0), 1, 8) := by kernel_rfl
theorem wf64 (n : Int) (h0 : -9223372036854775808 ≤ n) (h1 : n ≤ 9223372036854775807) : (Lit.int .i64 n).wf = true := by
  simp only [Lit.wf, Bool.and_eq_true]
  exact ⟨decide_eq_true h0, decide_eq_true h1⟩
theorem own_i64 (w : World) (l : List Int) (h : ∀ n ∈ l, (Lit.int .i64 n).wf = true) (base m n : Nat) (hb : base ≤ m) (hm : m = w.heap.size) (hn : l.length = n) (hx : n ≤ maxLen) : Own (Rep.int .i64) 3 [] base (w.alloc (.cells (l.map (Value.int .i64)).toArray 3)) (.slice (some ⟨m, 0, none⟩) n n) l := by
  subst hm; exact Own.lit (by simp) (els_ints .i64 _ w l h) hb hn hx
/-- Where items begin. -/
def colsI (x : List ItemV) : List Int := (List.range x.length).map fun k => (wideI (x.take k) : Int)
theorem cols_take (x : List ItemV) (k : Nat) (h : k < x.length) : (List.range (k + 1)).map (fun k => (wideI (x.take k) : Int)) = (List.range k).map (fun k => (wideI (x.take k) : Int)) ++ [(wideI (x.take k) : Int)] := by
  rw [List.range_succ, List.map_append]; rfl

set_option maxHeartbeats 1000000 in
theorem ICols_ok (x : Value) (y : List ItemV) (w : World) (hx : Slc RCell (fun b => b < w.heap.size) (fun b => b < w.heap.size) w x y) (hlen : y.length ≤ 100000) :
    Calls Tryd.prog 61 #[x] w fun e w' => ∃ s, e = .returned s ∧ Own (Rep.int .i64) 3 [] w.heap.size w' s (colsI y) ∧ Below w.heap.size w w' := by
  obtain ⟨A, c, rfl, _, _, _⟩ := hx.open_
  go_enter Tryd.func61, Tryd.ntmps61
  go_wp2
  go_loopw [3, 4, 9] (fun out n i wr => ∃ k : Nat, k ≤ y.length ∧ i = .int .i64 k ∧ n = .int .i64 (wideI (y.take k)) ∧ Own (Rep.int .i64) 3 [] w.heap.size wr out ((List.range k).map fun k => (wideI (y.take k) : Int)) ∧ Below w.heap.size w wr) (fun _ _ i _ => y.length - (intOf i).toNat)
  case atStart => exact ⟨0, Nat.zero_le _, rfl, rfl, Own.nil_ _ _ _ _ _ (by decide), Below.refl _ _⟩
  case round =>
    obtain ⟨k, hk, rfl, rfl, hout, hbel⟩ := hrel
    have hsz := hbel.size
    by_cases hlt : k < y.length
    · obtain ⟨ab, off, v2, rfl, hab, p0, p1, hw, hv⟩ := cell_at hx.slb hlt
      obtain ⟨A2, c2, rfl, _, _, _⟩ := hv.open_
      have q0 := (hbel.cell (p := ⟨ab, off + k * 2, none⟩) hab).trans p0
      have q1 := (hbel.cell (p := ⟨ab, off + k * 2 + 1, none⟩) hab).trans p1
      clear p0 p1
      have hwt := wide_take y k hlt
      have hwl := wide_le (y.take k)
      have htl2 : (y.take k).length ≤ k := List.length_take_le _ _
      have hct := cols_take y k hlt
      have hcl : ((List.range k).map fun k => (wideI (y.take k) : Int)).length = k := by simp
      have hwo : wideI [y[k]] = wOf y[k].1 := by unfold wideI; simp
      have hwo2 : wOf y[k].1 ≤ 2 := by unfold wOf; split <;> omega
      generalize ((List.range k).map fun k => (wideI (y.take k) : Int)) = acc at *
      have HCT := hide hct
      have hwt' : (wideI (y.take (k + 1)) : Int) = wideI (y.take k) + wideI [y[k]] := by rw [hwt, hwo]; omega
      have HWT := hide hwt'
      clear hct hwt hwt' hwo
      have hbl := (Blk.new wr 72 #[.int .i64 y[k].1, .slice A2 y[k].2.length c2]).alloc (.cells #[.int .i64 (wideI (y.take k))] 3)
      have hone := (own_i64 (wr.alloc (.cells #[.int .i64 y[k].1, .slice A2 y[k].2.length c2] 72)) [(wideI (y.take k) : Int)] (by intro n hn; rw [List.mem_singleton] at hn; subst hn; exact wf64 _ (by omega) (by omega)) 0 (wr.heap.size + 1) 1 (Nat.zero_le _) (by simp) rfl (by simp [maxLen])).slc.flat_any (Flat.int .i64) (fun _ => False)
      simp only [List.map_cons, List.map_nil] at hone
      have hout2 := (hout.alloc (.cells #[.int .i64 y[k].1, .slice A2 y[k].2.length c2] 72)).alloc (.cells #[.int .i64 (wideI (y.take k))] 3)
      have hbl2 := (hbel.alloc hsz (.cells #[.int .i64 y[k].1, .slice A2 y[k].2.length c2] 72)).alloc (by simp; omega) (.cells #[.int .i64 (wideI (y.take k))] 3)
      have hz2 := hbl2.size
      generalize hwk : wideI (y.take k) = wk at *
      go_wp2_with (at_builtin; refine wpList_appg rfl (.tmp 13) (.tmp 15) 88 rfl (Rep.int .i64) 3 [] w.heap.size 8 _ Tryd.underlying88 i64_info rfl (by decide) (by decide) _ _ rfl hout2 _ _ _ _ rfl hone (fun _ h => h.elim) (by simp; omega) (by simp; omega) ?_; intro v5 w5 hv5 hst5 hg5 hob5; have hbl5 := hbl.step hst5 (by decide); have r0 := hbl5.cell 0; have r1 := hbl5.cell 1; simp only [List.getElem?_toArray, List.getElem?_cons_succ, List.getElem?_cons_zero] at r0 r1)
      have hb5 := hbl2.trans (hst5.below hz2)
      have hz5 := hb5.size
      have hv5' := hv.mono (Keep.below (S := fun b => b < w.heap.size) hb5) (Keep.below (S := fun b => b < w.heap.size) hb5)
      have hlit : Own RCell 72 [] w.heap.size (w5.alloc (.cells #[.int .i64 y[k].1, .slice A2 y[k].2.length c2] 72)) (.slice (some ⟨w5.heap.size, 0, none⟩) 1 1) [y[k]] :=
        Own.lit (xs := [.int .i64 y[k].1, .slice A2 y[k].2.length c2]) (by decide) (els_cell1 hw (hv5'.mono (Keep.weaken fun b h => .inl h) (Keep.weaken fun b h => .inl h))) hz5 rfl (by simp [maxLen])
      refine (IWide_ok _ _ _ [y[k]] _ hlit.slc (by simp)).mono ?_
      rintro e w6 ⟨rfl, hb6⟩
      have hb5a := hb5.alloc hz5 (.cells #[.int .i64 y[k].1, .slice A2 y[k].2.length c2] 72)
      have hb6' := hb5a.trans (hb6.mono hb5a.size)
      have hv6 := (hv5.alloc (.cells #[.int .i64 y[k].1, .slice A2 y[k].2.length c2] 72)).below hb6
      have hwl2 := wide_le [y[k]]
      simp only [List.length_singleton] at hwl2
      go_wp2
      go_roundw
      case rel => exact ⟨k + 1, by omega, by go_num, by rw [HWT.out], by rw [HCT.out]; exact hv6, hb6'⟩
      case measure => simp [intOf]; omega
    · obtain rfl : k = y.length := by omega
      go_wp2
      go_ret
      exact ⟨_, rfl, hout, hbel⟩
end Go.Proofs.YthjddpflcgcpiaaDoor
