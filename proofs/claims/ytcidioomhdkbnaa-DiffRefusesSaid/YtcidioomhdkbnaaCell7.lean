/-
  What the program's functions that compare two strips return. Each function once.
-/
import Derived.Test.YtcidioomhdkbnaaCellEq
namespace Go.Proofs.Ytcidioomhdkbnaa
open Go.RowKit
set_option linter.unusedVariables false
set_option linter.unusedSimpArgs false

theorem SameC_ok (So To : Nat → Prop) (k k' : Int) (x y : Value) (t t' : List Int) (w : World) (hx : Slc (Rep.int .i32) So So w x t) (hy : Slc (Rep.int .i32) To To w y t') :
    Calls Try.prog 37 #[.agg #[.int .i64 k, x], .agg #[.int .i64 k', y]] w fun e w' => e = .returned (.bool (decide (((k, t) : CellV) = (k', t')))) ∧ Below w.heap.size w w' := by
  obtain ⟨A, c, rfl, hl1, hl2, _⟩ := hx.open_
  obtain ⟨B, d, rfl, hm1, hm2, _⟩ := hy.open_
  by_cases hk : k = k'
  · subst hk
    have hdd : decide (((k, t) : CellV) = (k, t')) = decide (t = t') := by rw [Bool.eq_iff_iff]; simp
    have HD := hide hdd
    have hbb : (k == k) = true := by simp
    clear hdd
    go_enter Try.func37, Try.ntmps37
    go_wp2_with fail
    refine (Equal_ok _ _ _ _ _ _ t t' _ ((hx.ints_keep (Keep.alloc _ _ _)).ints_keep (Keep.alloc _ _ _)) ((hy.ints_keep (Keep.alloc _ _ _)).ints_keep (Keep.alloc _ _ _))).mono ?_
    rintro e w1 ⟨rfl, n, rfl⟩
    go_wp2
    go_ret
    exact ⟨ret_1 (bool_eq HD.out.symm), below_drewN (((Below.refl _ _).alloc (Nat.le_refl _) _).alloc (by simp) _) _⟩
  · have hb : (k == k') = false := by simpa using hk
    have hdd : decide (((k, t) : CellV) = (k', t')) = false := by rw [decide_eq_false]; intro e; exact hk (congrArg Prod.fst e)
    have HD := hide hdd
    clear hdd hk
    go_enter Try.func37, Try.ntmps37
    go_wp2
    go_ret
    exact ⟨ret_1 (bool_eq HD.out.symm), ((Below.refl _ _).alloc (Nat.le_refl _) _).alloc (by simp) _⟩

set_option maxHeartbeats 1000000 in
theorem EqualFunc_ok (So Si To Ti : Nat → Prop) (x y : Value) (l m : List CellV) (w : World) (hx : Slc RCell So Si w x l) (hy : Slc RCell To Ti w y m) :
    Calls Try.prog 36 #[x, y, .func (.func 37) #[] #[]] w fun e w' => e = .returned (.bool (decide (l = m))) ∧ Below w.heap.size w w' := by
  obtain ⟨A, c, rfl, hl1, hl2, hA⟩ := hx.open_
  obtain ⟨B, d, rfl, hm1, hm2, hB⟩ := hy.open_
  by_cases hlen : l.length = m.length
  · have hd : ((l.length : Int) != m.length) = false := by simp [hlen]
    have Hlen := hide hlen
    clear hlen
    go_enter Try.func36, Try.ntmps36
    go_wp2
    go_loopw [17] (fun i wr => ∃ k : Nat, k ≤ l.length ∧ i = .int .i64 k ∧ (∀ j, j < k → l[j]? = m[j]?) ∧ Below w.heap.size w wr) (fun i _ => l.length - (intOf i).toNat)
    case atStart => exact ⟨0, Nat.zero_le _, rfl, by simp, Below.refl _ _⟩
    case round =>
      obtain ⟨k, hk, rfl, hpre, hbel⟩ := hrel
      have hsz := hbel.size
      have HP := hide hpre
      clear hpre
      by_cases hlt : k < l.length
      · have hltm : k < m.length := by have := Hlen.out; omega
        have hltm2 : (k : Int) < m.length := by omega
        have hxk := hx.mono (Keep.below (S := So) hbel) (Keep.below (S := Si) hbel)
        have hyk := hy.mono (Keep.below (S := To) hbel) (Keep.below (S := Ti) hbel)
        obtain ⟨ab, off, v, rfl, _, q0, q1, hw, hv⟩ := cell_at hxk.slb hlt
        obtain ⟨A', c', rfl, hd1, hd2, _⟩ := hv.open_
        obtain ⟨bb, off2, v2, rfl, _, p0, p1, hw2, hv2⟩ := cell_at hyk.slb hltm
        obtain ⟨B', d', rfl, he1, he2, _⟩ := hv2.open_
        have hva := hv.mono (Keep.alloc Si wr (.cells #[.int .i64 l[k].1, .slice A' l[k].2.length c'] 50)) (Keep.alloc Si wr (.cells #[.int .i64 l[k].1, .slice A' l[k].2.length c'] 50))
        have hvb := hva.mono (Keep.alloc Si _ (.cells #[.int .i64 m[k].1, .slice B' m[k].2.length d'] 50)) (Keep.alloc Si _ (.cells #[.int .i64 m[k].1, .slice B' m[k].2.length d'] 50))
        have hv2a := hv2.mono (Keep.alloc Ti wr (.cells #[.int .i64 l[k].1, .slice A' l[k].2.length c'] 50)) (Keep.alloc Ti wr (.cells #[.int .i64 l[k].1, .slice A' l[k].2.length c'] 50))
        have hv2b := hv2a.mono (Keep.alloc Ti _ (.cells #[.int .i64 m[k].1, .slice B' m[k].2.length d'] 50)) (Keep.alloc Ti _ (.cells #[.int .i64 m[k].1, .slice B' m[k].2.length d'] 50))
        have hab := World.block_lt_of_cell? wr _ q0
        have hbb := World.block_lt_of_cell? wr _ p0
        simp only at hab hbb
        have hR := SameC_ok _ _ l[k].1 m[k].1 _ _ l[k].2 m[k].2 _ hvb hv2b
        by_cases heq : l[k] = m[k]
        · have hr : decide ((((l[k]).1, (l[k]).2) : CellV) = ((m[k]).1, (m[k]).2)) = true := decide_eq_true heq
          rw [hr] at hR
          have HR := hide hR
          have HEQ := hide heq
          clear hR hr heq
          go_wp2_with (refine HR.out.mono ?_; rintro e w1 ⟨rfl, hb1⟩)
          go_roundw
          case rel =>
            refine ⟨k + 1, by omega, by go_num, fun j hj => ?_, ((hbel.alloc hsz _).alloc (by simp; omega) _).trans (hb1.mono (by simp; omega))⟩
            by_cases e : j = k
            · subst e; rw [List.getElem?_eq_getElem hlt, List.getElem?_eq_getElem hltm, HEQ.out]
            · exact HP.out j (by omega)
          case measure => simp [intOf]; omega
        · have hr : decide ((((l[k]).1, (l[k]).2) : CellV) = ((m[k]).1, (m[k]).2)) = false := decide_eq_false heq
          rw [hr] at hR
          have HR := hide hR
          have HEQ := hide heq
          clear hR hr heq
          go_wp2_with (refine HR.out.mono ?_; rintro e w1 ⟨rfl, hb1⟩)
          go_ret
          exact ⟨ret_1 (bool_eq (by rw [decide_eq_false]; intro e; subst e; exact HEQ.out rfl)), ((hbel.alloc hsz _).alloc (by simp; omega) _).trans (hb1.mono (by simp; omega))⟩
      · go_wp2
        go_ret
        refine ⟨ret_1 (bool_eq ?_), hbel⟩
        symm
        rw [decide_eq_true_eq]
        apply List.ext_getElem?
        intro j
        by_cases hj : j < l.length
        · exact HP.out j (by omega)
        · rw [List.getElem?_eq_none (by omega), List.getElem?_eq_none (by have := Hlen.out; omega)]
  · have hd : ((l.length : Int) != m.length) = true := by simp; omega
    have Hlen := hide hlen
    clear hlen
    go_enter Try.func36, Try.ntmps36
    go_wp2
    go_ret
    exact ⟨ret_1 (bool_eq (by rw [decide_eq_false]; intro e; exact Hlen.out (by rw [e]))), Below.refl _ _⟩

theorem SameCells_ok (So Si To Ti : Nat → Prop) (x y : Value) (l m : List CellV) (w : World) (hx : Slc RCell So Si w x l) (hy : Slc RCell To Ti w y m) :
    Calls Try.prog 29 #[x, y] w fun e w' => e = .returned (.bool (decide (l = m))) ∧ Below w.heap.size w w' := by
  have hR := EqualFunc_ok _ _ _ _ _ _ l m _ hx hy
  have HR := hide hR
  obtain ⟨A, c, rfl, hl1, hl2, _⟩ := hx.open_
  obtain ⟨B, d, rfl, hm1, hm2, _⟩ := hy.open_
  clear hR
  go_enter Try.func29, Try.ntmps29
  go_wp2_with (refine HR.out.mono ?_; rintro e w1 ⟨rfl, hb1⟩)
  go_ret
  exact ⟨rfl, hb1⟩
end Go.Proofs.Ytcidioomhdkbnaa
