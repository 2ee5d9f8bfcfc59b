/-
  What the program's function on a strip returns: whether it is sound; and the document's: whether two strips are the same. Each function once.
-/
import Derived.Test.YtcidioomhdkbnaaCell0
namespace Go.Proofs.Ytcidioomhdkbnaa
open Go.RowKit
set_option linter.unusedVariables false
set_option linter.unusedSimpArgs false

theorem soundG_drop (l : List CellV) (k : Nat) (hk : k < l.length) (lead : Bool) : soundG lead (l.drop k) = (rightB l[k] && (lead == decide (l[k].1 = 3)) && soundG (decide (l[k].1 = 2)) (l.drop (k + 1))) := by
  rw [List.drop_eq_getElem_cons hk]; rfl

set_option maxHeartbeats 1000000 in
theorem Sound_ok (So Si : Nat → Prop) (x : Value) (l : List CellV) (w : World) (hx : Slc RCell So Si w x l) :
    Calls Try.prog 28 #[x] w fun e w' => e = .returned (.bool (soundB l)) ∧ Below w.heap.size w w' := by
  obtain ⟨A, c, rfl, hc1, hc2, hB⟩ := hx.open_
  go_enter Try.func28, Try.ntmps28
  go_wp2
  go_loopw [3, 8] (fun b i wr => ∃ (k : Nat) (B : Bool), k ≤ l.length ∧ i = .int .i64 k ∧ b = .bool B ∧ soundB l = soundG B (l.drop k) ∧ Below w.heap.size w wr) (fun _ i _ => l.length - (intOf i).toNat)
  case atStart => exact ⟨0, false, Nat.zero_le _, rfl, rfl, rfl, Below.refl _ _⟩
  case round =>
    obtain ⟨k, B, hk, rfl, rfl, hto, hbel⟩ := hrel
    have hsz := hbel.size
    have hxk := hx.mono (Keep.below (S := So) hbel) (Keep.below (S := Si) hbel)
    by_cases hlt : k < l.length
    · rw [soundG_drop l k hlt] at hto
      obtain ⟨ab, off, v, rfl, _, q0, q1, hw, hv⟩ := cell_at hxk.slb hlt
      obtain ⟨A', c', rfl, hd1, hd2, _⟩ := hv.open_
      have hva := hv.ints_keep (Keep.alloc Si wr (.cells #[.int .i64 l[k].1, .slice A' l[k].2.length c'] 50))
      have hR := Right_ok _ _ _ _ l[k].2 _ hw hva
      have HR := hide hR
      have HTO := hide hto
      clear hR hto
      go_wp2_with fail
      refine HR.out.mono ?_
      rintro e w1 ⟨rfl, hb1⟩
      have hg : Blk w1 wr.heap.size 50 #[.int .i64 l[k].1, .slice A' l[k].2.length c'] := (Blk.new wr _ _).same hb1
      have z0 := hg.cell 0
      have z1 := hg.cell 1
      simp only [List.getElem?_toArray, List.getElem?_cons_succ, List.getElem?_cons_zero] at z0 z1
      have hbel1 := (hbel.alloc hsz (.cells #[.int .i64 l[k].1, .slice A' l[k].2.length c'] 50)).trans (hb1.mono (by simp; omega))
      generalize hrb : rightB (l[k].1, l[k].2) = rb at *
      generalize hkd : l[k].1 = kd at *
      clear HR hrb hkd hg
      cases rb with
      | false =>
        have hfin : soundB l = false := by rw [HTO.out]; rfl
        have HF := hide hfin
        clear hfin
        go_wp2
        go_ret
        exact ⟨ret_1 (bool_eq HF.out.symm), hbel1⟩
      | true =>
        by_cases h3 : kd = 3
        · subst h3
          cases B with
          | false =>
            have hfin : soundB l = false := by rw [HTO.out]; rfl
            have HF := hide hfin
            clear hfin
            go_wp2
            go_ret
            exact ⟨ret_1 (bool_eq HF.out.symm), hbel1⟩
          | true =>
            have hfin : soundB l = soundG false (l.drop (k + 1)) := by rw [HTO.out]; simp
            have HF := hide hfin
            clear hfin
            go_wp2
            go_roundw
            case rel => exact ⟨k + 1, false, by omega, by go_num, rfl, HF.out, hbel1⟩
            case measure => simp [intOf]; omega
        · have hb3 : (kd == 3) = false := by simpa using h3
          cases B with
          | true =>
            have hfin : soundB l = false := by rw [HTO.out]; simp [h3]
            have HF := hide hfin
            clear hfin h3
            go_wp2
            go_ret
            exact ⟨ret_1 (bool_eq HF.out.symm), hbel1⟩
          | false =>
            have hfin : soundB l = soundG (kd == 2) (l.drop (k + 1)) := by rw [HTO.out]; simp [h3]; rfl
            have HF := hide hfin
            clear hfin h3
            go_wp2
            go_roundw
            case rel => exact ⟨k + 1, _, by omega, by go_num, rfl, HF.out, hbel1⟩
            case measure => simp [intOf]; omega
    · rw [List.drop_eq_nil_of_le (by omega)] at hto
      have HF := hide hto
      clear hto
      go_wp2
      go_ret
      exact ⟨ret_1 (bool_eq (by rw [HF.out]; rfl)), hbel⟩

end Go.Proofs.Ytcidioomhdkbnaa
