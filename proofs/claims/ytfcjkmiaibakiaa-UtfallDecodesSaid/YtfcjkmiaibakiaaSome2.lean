/-
  What the functions of the reference of layer 3 return (beginnings of forms, a decoder by definition): each function once.
-/
import Derived.Test.YtfcjkmiaibakiaaR01
import Derived.Test.YtfcjkmiaibakiaaUtf1
namespace Go.Proofs.Ytfcjkmiaibakiaa
open Go.RowKit
set_option linter.unusedVariables false


set_option maxHeartbeats 1000000 in
theorem some_ok2 (So Si : Nat → Prop) (x : Value) (b0 : Int) (r : List Int) (w : World) (hx : Slc (Rep.int .u8) So Si w x (b0 :: r)) (hr : r.length ≤ 1) :
    Calls Try.prog 49 #[x, .int .i64 2] w fun e w' => e = .returned (.bool (someB b0 r 2)) ∧ Below w.heap.size w w' := by
  have hwf := hx.ints_wf
  have hb0 := u8_wf (hwf b0 (by simp))
  obtain ⟨A, c, rfl, hc1, hc2, hB⟩ := hx.open_
  obtain ⟨ab, off, rfl, _, hc0, _⟩ := ints_at hB (j := 0) (by simp)
  simp only [Nat.add_zero, List.getElem_cons_zero] at hc0
  have hcell : ∀ k, k < r.length → w.cell? ⟨ab, off + (k + 1), none⟩ = some (.int .u8 (r.getD k 0)) ∧ 0 ≤ r.getD k 0 ∧ r.getD k 0 ≤ 255 := by
    intro k hk
    obtain ⟨ab', off', ha', _, hck, hwk⟩ := ints_at hB (j := k + 1) (by simp; omega)
    obtain ⟨rfl, rfl⟩ : ab = ab' ∧ off = off' := by simp at ha'; exact ha'
    have e : r.getD k 0 = r[k] := by simp [List.getD, hk]
    rw [e]
    simp only [List.getElem_cons_succ] at hck hwk
    exact ⟨hck, u8_wf hwk⟩
  have habl := World.block_lt_of_cell? w _ hc0
  simp only at habl
  have hlen : (b0 :: r).length = r.length + 1 := rfl
  rw [hlen] at *
  have hin := some_in b0 r 2 (by omega) (by omega) hr
  have hout := some_out b0 r 2 (by omega) (by omega) hb0.1
  have htl := fun k => some_tail b0 r 2 k
  have hiv := ivF_small (b0 - 192) r
  have hm : markF 2 = 192 := rfl
  have hz : sizesF 2 = 32 := rfl
  rw [hm, hz] at hin hout
  have HIN := hide hin
  have HOUT := hide hout
  have HTL := hide htl
  have HIV := hide hiv
  have HC := hide hcell
  clear hin hout htl hiv hwf hlen hcell hx hB hm hz
  have hv : b0 - 192 < 0 ∨ (0 ≤ b0 - 192 ∧ 32 ≤ b0 - 192) ∨ (0 ≤ b0 - 192 ∧ b0 - 192 < 32) := by omega
  rcases hv with hv | hv | hv
  · go_enter Try.func49, Try.ntmps49
    go_wp2
    go_quiet (fail)
    go_wp2
    go_ret
    exact ⟨ret_1 (bool_eq (HOUT.out (.inl hv)).symm), below_drewN (((Below.refl _ _).alloc (Nat.le_refl _) _).alloc (by simp) _) _⟩
  · go_enter Try.func49, Try.ntmps49
    go_wp2
    go_quiet (fail)
    go_wp2
    go_ret
    exact ⟨ret_1 (bool_eq (HOUT.out (.inr hv.2)).symm), below_drewN (((Below.refl _ _).alloc (Nat.le_refl _) _).alloc (by simp) _) _⟩
  · go_enter Try.func49, Try.ntmps49
    go_wp2
    go_quiet (fail)
    go_wp2
    go_loop [8, 9, 10] (fun lo hi i => ∃ k : Nat, k ≤ 1 ∧ i = .int .i64 (k + 1 : Nat) ∧ lo = .int .i64 (ivF (b0 - 192) r k).1 ∧ hi = .int .i64 (ivF (b0 - 192) r k).2 ∧ (∀ j, j < k → j < r.length → 128 ≤ r.getD j 0 ∧ r.getD j 0 ≤ 191))
      (fun _ _ i => 2 - (intOf i).toNat)
    case atStart => exact ⟨0, by omega, rfl, rfl, rfl, fun j hj => absurd hj (by omega)⟩
    case round =>
      obtain ⟨k, hk, rfl, rfl, rfl, ht⟩ := hrel
      have HT := hide ht
      obtain ⟨i0, i1, i2, i3⟩ := HIV.out (by omega) (by omega) k (by omega) ht
      clear ht
      by_cases hlt : k < 1
      · by_cases hlr : k < r.length
        · obtain ⟨hck, hy0, hy1⟩ := HC.out k hlr
          have hst := ivF_in (b0 - 192) r k hlr
          have HST := hide hst
          have hy : r.getD k 0 < 128 ∨ (128 ≤ r.getD k 0 ∧ 191 < r.getD k 0) ∨ (128 ≤ r.getD k 0 ∧ r.getD k 0 ≤ 191) := by omega
          have HY := hide hy
          clear hst hy
          generalize hyv : r.getD k 0 = y at *
          have HYV := hide hyv
          clear hyv
          rcases HY.out with hy | hy | hy
          · go_wp2
            go_ret
            exact ⟨ret_1 (bool_eq (HTL.out k (by omega) hlr (.inl (by rw [HYV.out]; exact hy))).symm), below_drewN (((Below.refl _ _).alloc (Nat.le_refl _) _).alloc (by simp) _) _⟩
          · go_wp2
            go_ret
            exact ⟨ret_1 (bool_eq (HTL.out k (by omega) hlr (.inr (by rw [HYV.out]; exact hy.2))).symm), below_drewN (((Below.refl _ _).alloc (Nat.le_refl _) _).alloc (by simp) _) _⟩
          · go_wp2
            go_round
            case rel =>
              refine ⟨k + 1, by omega, by go_num, int_eq (by rw [HST.out.1]), int_eq (by rw [HST.out.2]), fun j hj hjl => ?_⟩
              by_cases e : j = k
              · subst e; rw [HYV.out]; exact hy
              · exact HT.out j (by omega) hjl
            case measure => simp [intOf]; omega
        · have hst := ivF_past (b0 - 192) r k hlr
          have HST := hide hst
          clear hst
          go_wp2
          go_round
          case rel => exact ⟨k + 1, by omega, by go_num, int_eq (by rw [HST.out.1]), int_eq (by rw [HST.out.2]), fun j hj hjl => HT.out j (by omega) hjl⟩
          case measure => simp [intOf]; omega
      · obtain rfl : k = 1 := by omega
        have hres := HIN.out (by omega) (by omega) (fun j hj => HT.out j (by omega) hj)
        have HRES := hide hres
        have hf : fromF 2 = 128 := rfl
        have ht : toF 2 = 2047 := rfl
        simp only [Nat.add_one_sub_one, hf, ht] at hres
        have HRES := hide hres
        clear hres hf ht
        generalize hlo : (ivF (b0 - 192) r 1).1 = lo at *
        generalize hhi : (ivF (b0 - 192) r 1).2 = hi at *
        clear hlo hhi
        go_wp2
        all_goals go_ret
        all_goals (refine ⟨ret_1 (bool_eq (Eq.trans ?_ HRES.out)), (by repeat (first | exact Below.refl _ _ | refine below_drewN ?_ _ | refine Below.alloc ?_ (by simp <;> omega) _))⟩; go_tidy; clear HRES HIN HOUT HTL HIV HC HT; rw [Bool.eq_iff_iff]; simp; omega)
end Go.Proofs.Ytfcjkmiaibakiaa
