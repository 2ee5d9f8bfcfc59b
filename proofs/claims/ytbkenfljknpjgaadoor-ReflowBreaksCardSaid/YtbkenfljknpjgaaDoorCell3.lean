/-
  What the program's function on a strip returns: whether it is sound; and the document's: whether two strips are the same. Each function once.
-/
import Derived.Test.YtbkenfljknpjgaaDoorCell0
namespace Go.Proofs.YtbkenfljknpjgaaDoor
open Go.RowKit
set_option linter.unusedVariables false
set_option linter.unusedSimpArgs false

theorem soundG_drop (l : List CellV) (k : Nat) (hk : k < l.length) (lead : Bool) : soundG lead (l.drop k) = (rightB l[k] && (lead == decide (l[k].1 = 3)) && soundG (decide (l[k].1 = 2)) (l.drop (k + 1))) := by
  rw [List.drop_eq_getElem_cons hk]; rfl

set_option maxHeartbeats 1000000 in
theorem Sound_ok (So Si : Nat → Prop) (x : Value) (l : List CellV) (w : World) (hx : Slc RCell So Si w x l) :
    Calls Tryd.prog 41 #[x] w fun e w' => e = .returned (.bool (soundB l)) ∧ Below w.heap.size w w' := by
  obtain ⟨A, c, rfl, hc1, hc2, hB⟩ := hx.open_
  go_enter Tryd.func41, Tryd.ntmps41
  go_wp2
  go_loopw [3, 8] (fun b i wr => ∃ (k : Nat) (B : Bool), k ≤ l.length ∧ i = .int .i64 k ∧ b = .bool B ∧ soundB l = soundG B (l.drop k) ∧ Below w.heap.size w wr) (fun _ i _ => l.length - (intOf i).toNat)
  case atStart => exact ⟨0, false, Nat.zero_le _, rfl, rfl, rfl, Below.refl _ _⟩
  case round =>
    obtain ⟨k, B, hk, rfl, rfl, hto, hbel⟩ := hrel
    have hsz := hbel.size
    have hxk := hx.mono (Keep.below (S := So) hbel) (Keep.below (S := Si) hbel)
    by_cases hlt : k < l.length
    · rw [soundG_drop l k hlt] at hto
      obtain ⟨ab, off, v, rfl, _, q0, q1, hw, hv⟩ := cell_at hxk.slb hlt
      obtain ⟨A', c', rfl, hd1, hd2, _⟩ := hv.open_
      have hva := hv.ints_keep (Keep.alloc Si wr (.cells #[.int .i64 l[k].1, .slice A' l[k].2.length c'] 74))
      have hR := Right_ok _ _ _ _ l[k].2 _ hw hva
      have HR := hide hR
      have HTO := hide hto
      clear hR hto
      go_wp2_with fail
      refine HR.out.mono ?_
      rintro e w1 ⟨rfl, hb1⟩
      have hg : Blk w1 wr.heap.size 74 #[.int .i64 l[k].1, .slice A' l[k].2.length c'] := (Blk.new wr _ _).same hb1
      have z0 := hg.cell 0
      have z1 := hg.cell 1
      simp only [List.getElem?_toArray, List.getElem?_cons_succ, List.getElem?_cons_zero] at z0 z1
      have hbel1 := (hbel.alloc hsz (.cells #[.int .i64 l[k].1, .slice A' l[k].2.length c'] 74)).trans (hb1.mono (by simp; omega))
      generalize hrb : rightB (l[k].1, l[k].2) = rb at *
      generalize hkd : l[k].1 = kd at *
      clear HR hrb hkd hg
      cases rb with
      | false =>
        have hfin : soundB l = false := by rw [HTO.out]; rfl
        have HF := hide hfin
        clear hfin
        go_wp2
        go_ret
        exact ⟨ret_1 (bool_eq HF.out.symm), hbel1⟩
      | true =>
        by_cases h3 : kd = 3
        · subst h3
          cases B with
          | false =>
            have hfin : soundB l = false := by rw [HTO.out]; rfl
            have HF := hide hfin
            clear hfin
            go_wp2
            go_ret
            exact ⟨ret_1 (bool_eq HF.out.symm), hbel1⟩
          | true =>
            have hfin : soundB l = soundG false (l.drop (k + 1)) := by rw [HTO.out]; simp
            have HF := hide hfin
            clear hfin
            go_wp2
            go_roundw
            case rel => exact ⟨k + 1, false, by omega, by go_num, rfl, HF.out, hbel1⟩
            case measure => simp [intOf]; omega
        · have hb3 : (kd == 3) = false := by simpa using h3
          cases B with
          | true =>
            have hfin : soundB l = false := by rw [HTO.out]; simp [h3]
            have HF := hide hfin
            clear hfin h3
            go_wp2
            go_ret
            exact ⟨ret_1 (bool_eq HF.out.symm), hbel1⟩
          | false =>
            have hfin : soundB l = soundG (kd == 2) (l.drop (k + 1)) := by rw [HTO.out]; simp [h3]; rfl
            have HF := hide hfin
            clear hfin h3
            go_wp2
            go_roundw
            case rel => exact ⟨k + 1, _, by omega, by go_num, rfl, HF.out, hbel1⟩
            case measure => simp [intOf]; omega
    · rw [List.drop_eq_nil_of_le (by omega)] at hto
      have HF := hide hto
      clear hto
      go_wp2
      go_ret
      exact ⟨ret_1 (bool_eq (by rw [HF.out]; rfl)), hbel⟩

set_option maxHeartbeats 1000000 in
theorem rSame23_ok (So Si To Ti : Nat → Prop) (x y : Value) (l m : List CellV) (w : World) (hx : Slc RCell So Si w x l) (hy : Slc RCell To Ti w y m) :
    Calls Tryd.prog 45 #[x, y] w fun e w' => e = .returned (.bool (decide (l = m))) ∧ ∃ n, w' = w.drewN n := by
  obtain ⟨A, c, rfl, hl1, hl2, hA⟩ := hx.open_
  obtain ⟨B, d, rfl, hm1, hm2, hB⟩ := hy.open_
  by_cases hlen : l.length = m.length
  · have hd : ((l.length : Int) != m.length) = false := by simp [hlen]
    have Hlen := hide hlen
    clear hlen
    go_enter Tryd.func45, Tryd.ntmps45
    go_wp2
    go_loopw [5] (fun i wr => ∃ k : Nat, k ≤ l.length ∧ i = .int .i64 k ∧ (∀ j, j < k → l[j]? = m[j]?) ∧ ∃ n, wr = w.drewN n) (fun i _ => l.length - (intOf i).toNat)
    case atStart => exact ⟨0, Nat.zero_le _, rfl, by simp, 0, rfl⟩
    case round =>
      obtain ⟨k, hk, rfl, hpre, n, rfl⟩ := hrel
      have HP := hide hpre
      clear hpre
      by_cases hlt : k < l.length
      · have hltm : k < m.length := by have := Hlen.out; omega
        obtain ⟨ab, off, v, rfl, _, q0, q1, hw, hv⟩ := cell_at hA hlt
        obtain ⟨A', c', rfl, hd1, hd2, _⟩ := hv.open_
        obtain ⟨bb, off2, v2, rfl, _, p0, p1, hw2, hv2⟩ := cell_at hB hltm
        obtain ⟨B', d', rfl, he1, he2, _⟩ := hv2.open_
        by_cases hkd : l[k].1 = m[k].1
        · have hb : (l[k].1 != m[k].1) = false := by simp [hkd]
          by_cases htx : l[k].2 = m[k].2
          · have heq : l[k]? = m[k]? := by rw [List.getElem?_eq_getElem hlt, List.getElem?_eq_getElem hltm]; congr 1; exact Prod.ext hkd htx
            have hdec : decide (l[k].2 = m[k].2) = true := decide_eq_true htx
            have HEQ := hide heq
            clear heq hkd htx
            go_wp2
            go_quiet ((go_at_call 54; refine (Same_ok _ _ _ _ _ _ _ _ _ (hv.ints_keep (Keep.drewN _ _ _)) (hv2.ints_keep (Keep.drewN _ _ _))).mono ?_; rintro e w' ⟨rfl, m, rfl⟩; rw [hdec]; exact ⟨rfl, _, by rw [World.drewN_drewN, Nat.add_assoc]⟩))
            clear hb hdec
            go_wp2
            go_roundw
            case rel =>
              refine ⟨k + 1, by omega, by go_num, fun j hj => ?_, _, rfl⟩
              by_cases e : j = k
              · subst e; exact HEQ.out
              · exact HP.out j (by omega)
            case measure => simp [intOf]; omega
          · have hdec : decide (l[k].2 = m[k].2) = false := decide_eq_false htx
            have hne : l ≠ m := by rintro rfl; exact htx rfl
            have HNE := hide hne
            clear hkd htx hne
            go_wp2
            go_quiet ((go_at_call 54; refine (Same_ok _ _ _ _ _ _ _ _ _ (hv.ints_keep (Keep.drewN _ _ _)) (hv2.ints_keep (Keep.drewN _ _ _))).mono ?_; rintro e w' ⟨rfl, m, rfl⟩; rw [hdec]; exact ⟨rfl, _, by rw [World.drewN_drewN, Nat.add_assoc]⟩))
            clear hb hdec
            go_wp2
            go_ret
            exact ⟨ret_1 (bool_eq (by rw [decide_eq_false HNE.out])), drew2 _ _ _⟩
        · have hb : (l[k].1 != m[k].1) = true := by simp [hkd]
          have hne : l ≠ m := by rintro rfl; exact hkd rfl
          have HNE := hide hne
          clear hkd hne
          go_wp2
          go_quiet (fail)
          clear hb
          go_wp2
          go_ret
          exact ⟨ret_1 (bool_eq (by rw [decide_eq_false HNE.out])), drew2 _ _ _⟩
      · go_wp2
        go_ret
        refine ⟨ret_1 (bool_eq ?_), _, rfl⟩
        symm
        rw [decide_eq_true_eq]
        apply List.ext_getElem?
        intro j
        by_cases hj : j < l.length
        · exact HP.out j (by omega)
        · rw [List.getElem?_eq_none (by omega), List.getElem?_eq_none (by have := Hlen.out; omega)]
  · have hd : ((l.length : Int) != m.length) = true := by simp; omega
    have Hlen := hide hlen
    clear hlen
    go_enter Tryd.func45, Tryd.ntmps45
    go_wp2
    go_ret
    exact ⟨ret_1 (bool_eq (by rw [decide_eq_false]; intro e; exact Hlen.out (by rw [e]))), 0, rfl⟩
end Go.Proofs.YtbkenfljknpjgaaDoor
