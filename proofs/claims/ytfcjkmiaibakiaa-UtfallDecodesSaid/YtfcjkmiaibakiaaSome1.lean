/-
  What the functions of the reference of layer 3 return (beginnings of forms, a decoder by definition): each function once.
-/
import Derived.Test.YtfcjkmiaibakiaaR01
import Derived.Test.YtfcjkmiaibakiaaUtf1
namespace Go.Proofs.Ytfcjkmiaibakiaa
open Go.RowKit
set_option linter.unusedVariables false


set_option maxHeartbeats 1000000 in
theorem some_ok1 (So Si : Nat → Prop) (x : Value) (b0 : Int) (r : List Int) (w : World) (hx : Slc (Rep.int .u8) So Si w x (b0 :: r)) (hr : r.length ≤ 0) :
    Calls Try.prog 49 #[x, .int .i64 1] w fun e w' => e = .returned (.bool (someB b0 r 1)) ∧ Below w.heap.size w w' := by
  have hwf := hx.ints_wf
  have hb0 := u8_wf (hwf b0 (by simp))
  obtain ⟨A, c, rfl, hc1, hc2, hB⟩ := hx.open_
  obtain ⟨ab, off, rfl, _, hc0, _⟩ := ints_at hB (j := 0) (by simp)
  simp only [Nat.add_zero, List.getElem_cons_zero] at hc0
  have hcell : ∀ k, k < r.length → w.cell? ⟨ab, off + (k + 1), none⟩ = some (.int .u8 (r.getD k 0)) ∧ 0 ≤ r.getD k 0 ∧ r.getD k 0 ≤ 255 := by
    intro k hk
    omega
  have habl := World.block_lt_of_cell? w _ hc0
  simp only at habl
  have hlen : (b0 :: r).length = r.length + 1 := rfl
  rw [hlen] at *
  have hin := some_in b0 r 1 (by omega) (by omega) hr
  have hout := some_out b0 r 1 (by omega) (by omega) hb0.1
  have htl := fun k => some_tail b0 r 1 k
  have hiv := ivF_small (b0 - 0) r
  have hm : markF 1 = 0 := rfl
  have hz : sizesF 1 = 128 := rfl
  rw [hm, hz] at hin hout
  have HIN := hide hin
  have HOUT := hide hout
  have HTL := hide htl
  have HIV := hide hiv
  have HC := hide hcell
  clear hin hout htl hiv hwf hlen hcell hx hB hm hz
  have hv : (0 ≤ b0 - 0 ∧ 128 ≤ b0 - 0) ∨ (0 ≤ b0 - 0 ∧ b0 - 0 < 128) := by omega
  rcases hv with hv | hv
  · go_enter Try.func49, Try.ntmps49
    go_wp2
    go_quiet (fail)
    go_wp2
    go_ret
    exact ⟨ret_1 (bool_eq (HOUT.out (.inr hv.2)).symm), below_drewN (((Below.refl _ _).alloc (Nat.le_refl _) _).alloc (by simp) _) _⟩
  · go_enter Try.func49, Try.ntmps49
    go_wp2
    go_quiet (fail)
    go_wp2
    go_loop [8, 9, 10] (fun lo hi i => ∃ k : Nat, k ≤ 0 ∧ i = .int .i64 (k + 1 : Nat) ∧ lo = .int .i64 (ivF (b0 - 0) r k).1 ∧ hi = .int .i64 (ivF (b0 - 0) r k).2 ∧ (∀ j, j < k → j < r.length → 128 ≤ r.getD j 0 ∧ r.getD j 0 ≤ 191))
      (fun _ _ i => 1 - (intOf i).toNat)
    case atStart => exact ⟨0, by omega, rfl, (int_eq (by simp [ivF])), (int_eq (by simp [ivF])), fun j hj => absurd hj (by omega)⟩
    case round =>
      obtain ⟨k, hk, rfl, rfl, rfl, ht⟩ := hrel
      have HT := hide ht
      obtain ⟨i0, i1, i2, i3⟩ := HIV.out (by omega) (by omega) k (by omega) ht
      clear ht
      by_cases hlt : k < 0
      · omega
      · obtain rfl : k = 0 := by omega
        have hres := HIN.out (by omega) (by omega) (fun j hj => HT.out j (by omega) hj)
        have HRES := hide hres
        have hf : fromF 1 = 0 := rfl
        have ht : toF 1 = 127 := rfl
        simp only [Nat.reduceSub, hf, ht] at hres
        have HRES := hide hres
        clear hres hf ht
        generalize hlo : (ivF (b0 - 0) r 0).1 = lo at *
        generalize hhi : (ivF (b0 - 0) r 0).2 = hi at *
        clear hlo hhi
        go_wp2
        all_goals go_ret
        all_goals (refine ⟨ret_1 (bool_eq (Eq.trans ?_ HRES.out)), (by repeat (first | exact Below.refl _ _ | refine below_drewN ?_ _ | refine Below.alloc ?_ (by simp <;> omega) _))⟩; go_tidy; clear HRES HIN HOUT HTL HIV HC HT; rw [Bool.eq_iff_iff]; simp; omega)
end Go.Proofs.Ytfcjkmiaibakiaa
