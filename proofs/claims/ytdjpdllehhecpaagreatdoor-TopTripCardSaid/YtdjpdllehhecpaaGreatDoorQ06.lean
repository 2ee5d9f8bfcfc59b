import Derived.Test.YtdjpdllehhecpaaGreatDoorQ05
open List renaming getElem?_toArray → zA, getElem?_cons_succ → zB, getElem?_cons_zero → zC, setIfInBounds_toArray → zD, set_cons_zero → zE, set_cons_succ → zF
namespace Go.Proofs.YtdjpdllehhecpaaGreatDoor
open Go.RowKit
set_option linter.unusedVariables false
set_option linter.unusedSimpArgs false
theorem inF_take {L : List (Int × Int)} {r : Int} {k : Nat} (h : k < L.length) : inF (L.take (k + 1)) r = (inF (L.take k) r || (decide (L[k].1 ≤ r) && decide (r ≤ L[k].2))) := by
  rw [List.take_succ_eq_append_getElem h]
  unfold inF
  simp only [List.any_append, List.any_cons, List.any_nil, Bool.or_false]
theorem inF_hit {L : List (Int × Int)} {r : Int} {k : Nat} (h : k < L.length) (h1 : L[k].1 ≤ r) (h2 : r ≤ L[k].2) : inF L r = true :=
  List.any_eq_true.2 ⟨L[k], List.getElem_mem _, by simp [h1, h2]⟩
set_option maxHeartbeats 2000000 in
theorem rIn_ok (g n : Nat) (L : List (Int × Int)) (r : Int) (h0 : -2147483648 ≤ r) (h1 : r ≤ 2147483647) (hn : L.length = n) (hsz : n < 100000) (w : World) (hB : Blk w g 232 (tab2 .i64 L).toArray) :
    Calls Tryz.prog 179 #[.slice (some ⟨g, 0, none⟩) n n, .int .i32 r] w fun e w' => e = .returned (.bool (inF L r)) ∧ w = w' := by
  have HC := hide (fun (k : Nat) (hk : k < L.length) => (⟨by rw [hB.cell, List.getElem?_toArray]; exact (tab2_at .i64 L k hk).1, by rw [hB.cell, List.getElem?_toArray]; exact (tab2_at .i64 L k hk).2⟩ : w.cell? ⟨g, k * 2, none⟩ = some (.int .i64 L[k].1) ∧ w.cell? ⟨g, k * 2 + 1, none⟩ = some (.int .i64 L[k].2)))
  have HIT := hide (fun k (h : k < L.length) => inF_hit (r := r) h)
  have STEP := hide (fun k (h : k < L.length) => inF_take (r := r) h)
  have HALL : Hid (inF (L.take n) r = inF L r) := hide (by rw [← hn, List.take_length])
  obtain ⟨b, hb⟩ : ∃ b, inF L r = b := ⟨_, rfl⟩
  have HB := hide hb
  have HN := hide hn
  rw [hb]
  clear hb hB hn
  go_enter Tryz.func179, Tryz.ntmps179
  go_wp2
  go_loopw [5] (fun i wr => ∃ k : Nat, k ≤ n ∧ i = .int .i64 k ∧ inF (L.take k) r = false ∧ w = wr) (fun i _ => n - (intOf i).toNat)
  case atStart => exact ⟨0, Nat.zero_le _, rfl, rfl, rfl⟩
  case round =>
    obtain ⟨k, hk, rfl, hto, rfl⟩ := hrel
    have HTO := hide hto
    clear hto
    by_cases hlt : k < n
    · obtain ⟨c0, c1⟩ := HC.out k (by rw [HN.out]; exact hlt)
      have hit := HIT.out k (by rw [HN.out]; exact hlt)
      have step := STEP.out k (by rw [HN.out]; exact hlt)
      obtain ⟨x, hx⟩ : ∃ x, L[k]'(by rw [HN.out]; exact hlt) = x := ⟨_, rfl⟩
      rw [hx] at c0 c1 hit step
      have HT := hide hit
      have ST := hide step
      clear hit step hx
      have hki : (k : Int) < n := by omega
      by_cases hl : x.1 ≤ r
      · by_cases hh : r ≤ x.2
        · go_wp2
          go_ret
          exact ⟨by rw [← HB.out, HT.out hl hh]; first | rfl | simp, rfl⟩
        · have hh2 : decide (r ≤ x.2) = false := decide_eq_false hh
          have hnew : Hid (inF (L.take (k + 1)) r = false) := hide (by rw [ST.out, HTO.out, hh2]; simp)
          go_wp2
          go_roundw
          case rel => exact ⟨k + 1, by omega, by go_num, hnew.out, trivial⟩
          case measure => simp [intOf]; omega
      · have hl2 : decide (x.1 ≤ r) = false := decide_eq_false hl
        have hnew : Hid (inF (L.take (k + 1)) r = false) := hide (by rw [ST.out, HTO.out, hl2]; simp)
        go_wp2
        go_roundw
        case rel => exact ⟨k + 1, by omega, by go_num, hnew.out, trivial⟩
        case measure => simp [intOf]; omega
    · obtain rfl : k = n := by omega
      go_wp2
      go_ret
      exact ⟨by rw [← HB.out, ← HALL.out, HTO.out]; rfl, rfl⟩
set_option maxHeartbeats 2000000 in
theorem rSplit_in (r : Int) (ha : 44032 ≤ r) (hb : r ≤ 55203) (w : World) :
    Calls Tryz.prog 200 #[.int .i32 r] w fun e w' => (∃ l v t : Int, e = .returned (.tuple #[.int .i64 l, .int .i64 v, .int .i64 t]) ∧ l ≠ 0 ∧ (t = 0 ↔ (r - 44032) % 28 = 0)) ∧ w = w' := by
  have d1 : decide (r < 44032) = false := decide_eq_false (by omega)
  have d2 : decide (55203 < r) = false := decide_eq_false (by omega)
  go_enter Tryz.func200, Tryz.ntmps200
  go_wp2
  go_loopw [6, 7] (fun at_ l wr => ∃ j : Nat, j ≤ 19 ∧ at_ = .int .i64 (44032 + 588 * j) ∧ l = .int .i64 (4352 + j) ∧ 44032 + 588 * (j : Int) ≤ r ∧ w = wr) (fun _ l _ => 4372 - (intOf l).toNat)
  case atStart => exact ⟨0, by omega, rfl, rfl, by omega, rfl⟩
  case round =>
    obtain ⟨j, hj, rfl, rfl, hle, rfl⟩ := hrel
    have hj2 : (4352 : Int) + j ≤ 4370 := by omega
    go_wp2
    go_loopw [6, 8] (fun at_ v wr => ∃ i : Nat, i ≤ 21 ∧ at_ = .int .i64 (44032 + 588 * j + 28 * i) ∧ v = .int .i64 (4449 + i) ∧ 44032 + 588 * (j : Int) + 28 * i ≤ r ∧ w = wr) (fun _ v _ => 4471 - (intOf v).toNat)
    case atStart => exact ⟨0, by omega, by simp, rfl, by omega, rfl⟩
    case round =>
      obtain ⟨i, hi, rfl, rfl, hle2, rfl⟩ := hrel
      by_cases hlt : i < 21
      · have hi2 : (4449 : Int) + i ≤ 4469 := by omega
        by_cases hs : r < 44032 + 588 * j + 28 * i + 28
        · by_cases hm : r = 44032 + 588 * j + 28 * i
          · have hmod : (r - 44032) % 28 = 0 := by omega
            have h9 : (4519 : Int) + r - (44032 + 588 * j + 28 * i) = 4519 := by omega
            go_wp2
            go_ret3
            exact ⟨⟨_, _, _, rfl, by omega, by simp [hmod]⟩, rfl⟩
          · have hmod : ¬ (r - 44032) % 28 = 0 := by omega
            have h9 : ¬ (4519 : Int) + r - (44032 + 588 * j + 28 * i) = 4519 := by omega
            go_wp2
            go_ret3
            exact ⟨⟨_, _, _, rfl, by omega, by simp [hmod]; omega⟩, rfl⟩
        · have hs2 : decide (r < 44032 + 588 * j + 28 * i + 28) = false := decide_eq_false hs
          go_wp2
          go_roundw
          case rel => exact ⟨i + 1, by omega, by go_num, by go_num, by omega, trivial⟩
          case measure => simp [intOf]; omega
      · obtain rfl : i = 21 := by omega
        go_wp2
        go_roundw
        case rel => exact ⟨j + 1, by omega, int_eq (by omega), by go_num, by omega, trivial⟩
        case measure => simp [intOf]; omega
theorem rSplit_out (r : Int) (h0 : -2147483648 ≤ r) (h1 : r ≤ 2147483647) (h : r < 44032 ∨ 55203 < r) (w : World) :
    Calls Tryz.prog 200 #[.int .i32 r] w fun e w' => e = .returned (.tuple #[.int .i64 0, .int .i64 0, .int .i64 0]) ∧ w = w' := by
  rcases h with h | h
  · go_enter Tryz.func200, Tryz.ntmps200
    go_wp2
    go_ret3
    exact ⟨rfl, rfl⟩
  · have d1 : decide (r < 44032) = false := decide_eq_false (by omega)
    go_enter Tryz.func200, Tryz.ntmps200
    go_wp2
    go_ret3
    exact ⟨rfl, rfl⟩
set_option maxHeartbeats 4000000 in
theorem rClass8_ok (r : Int) (h0 : -2147483648 ≤ r) (h1 : r ≤ 2147483647) (w : World) :
    Calls Tryz.prog 180 #[.int .i32 r] w fun e w' => e = .returned (.int .i64 (hanF r)) ∧ w = w' := by
  have HO := hide (rSplit_out r h0 h1)
  have HI := hide (rSplit_in r)
  rcases han_case r with h | h | h | h | h | h | h | h | h | h | h | h | h
  · have f0 : decide (4352 ≤ r) = false := decide_eq_false (by omega)
    have f1 : r ≤ 4447 := by omega
    have f2 : decide (43360 ≤ r) = false := decide_eq_false (by omega)
    have f3 : r ≤ 43388 := by omega
    have f4 : decide (4448 ≤ r) = false := decide_eq_false (by omega)
    have f5 : r ≤ 4519 := by omega
    have f6 : decide (55216 ≤ r) = false := decide_eq_false (by omega)
    have f7 : r ≤ 55238 := by omega
    have f8 : decide (4520 ≤ r) = false := decide_eq_false (by omega)
    have f9 : r ≤ 4607 := by omega
    have f10 : decide (55243 ≤ r) = false := decide_eq_false (by omega)
    have f11 : r ≤ 55291 := by omega
    have f12 : decide (44032 ≤ r) = false := decide_eq_false (by omega)
    have f13 : r ≤ 55203 := by omega
    have hv : hanF r = 0 := by unfold hanF; (repeat' split) <;> omega
    rw [hv]
    clear hv
    have hOut : Hid (r < 44032 ∨ 55203 < r) := hide (by omega)
    go_enter Tryz.func180, Tryz.ntmps180
    go_wp2_with (refine (HO.out hOut.out _).mono ?_; rintro e w1 ⟨rfl, rfl⟩)
    go_ret
    exact ⟨rfl, rfl⟩
  · have f0 : 4352 ≤ r := by omega
    have f1 : r ≤ 4447 := by omega
    have f2 : decide (43360 ≤ r) = false := decide_eq_false (by omega)
    have f3 : r ≤ 43388 := by omega
    have f4 : decide (4448 ≤ r) = false := decide_eq_false (by omega)
    have f5 : r ≤ 4519 := by omega
    have f6 : decide (55216 ≤ r) = false := decide_eq_false (by omega)
    have f7 : r ≤ 55238 := by omega
    have f8 : decide (4520 ≤ r) = false := decide_eq_false (by omega)
    have f9 : r ≤ 4607 := by omega
    have f10 : decide (55243 ≤ r) = false := decide_eq_false (by omega)
    have f11 : r ≤ 55291 := by omega
    have f12 : decide (44032 ≤ r) = false := decide_eq_false (by omega)
    have f13 : r ≤ 55203 := by omega
    have hv : hanF r = 9 := by unfold hanF; (repeat' split) <;> omega
    rw [hv]
    clear hv
    have hOut : Hid (r < 44032 ∨ 55203 < r) := hide (by omega)
    go_enter Tryz.func180, Tryz.ntmps180
    go_wp2_with (refine (HO.out hOut.out _).mono ?_; rintro e w1 ⟨rfl, rfl⟩)
    go_ret
    exact ⟨rfl, rfl⟩
  · have f0 : 4352 ≤ r := by omega
    have f1 : decide (r ≤ 4447) = false := decide_eq_false (by omega)
    have f2 : decide (43360 ≤ r) = false := decide_eq_false (by omega)
    have f3 : r ≤ 43388 := by omega
    have f4 : 4448 ≤ r := by omega
    have f5 : r ≤ 4519 := by omega
    have f6 : decide (55216 ≤ r) = false := decide_eq_false (by omega)
    have f7 : r ≤ 55238 := by omega
    have f8 : decide (4520 ≤ r) = false := decide_eq_false (by omega)
    have f9 : r ≤ 4607 := by omega
    have f10 : decide (55243 ≤ r) = false := decide_eq_false (by omega)
    have f11 : r ≤ 55291 := by omega
    have f12 : decide (44032 ≤ r) = false := decide_eq_false (by omega)
    have f13 : r ≤ 55203 := by omega
    have hv : hanF r = 10 := by unfold hanF; (repeat' split) <;> omega
    rw [hv]
    clear hv
    have hOut : Hid (r < 44032 ∨ 55203 < r) := hide (by omega)
    go_enter Tryz.func180, Tryz.ntmps180
    go_wp2_with (refine (HO.out hOut.out _).mono ?_; rintro e w1 ⟨rfl, rfl⟩)
    go_ret
    exact ⟨rfl, rfl⟩
  · have f0 : 4352 ≤ r := by omega
    have f1 : decide (r ≤ 4447) = false := decide_eq_false (by omega)
    have f2 : decide (43360 ≤ r) = false := decide_eq_false (by omega)
    have f3 : r ≤ 43388 := by omega
    have f4 : 4448 ≤ r := by omega
    have f5 : decide (r ≤ 4519) = false := decide_eq_false (by omega)
    have f6 : decide (55216 ≤ r) = false := decide_eq_false (by omega)
    have f7 : r ≤ 55238 := by omega
    have f8 : 4520 ≤ r := by omega
    have f9 : r ≤ 4607 := by omega
    have f10 : decide (55243 ≤ r) = false := decide_eq_false (by omega)
    have f11 : r ≤ 55291 := by omega
    have f12 : decide (44032 ≤ r) = false := decide_eq_false (by omega)
    have f13 : r ≤ 55203 := by omega
    have hv : hanF r = 11 := by unfold hanF; (repeat' split) <;> omega
    rw [hv]
    clear hv
    have hOut : Hid (r < 44032 ∨ 55203 < r) := hide (by omega)
    go_enter Tryz.func180, Tryz.ntmps180
    go_wp2_with (refine (HO.out hOut.out _).mono ?_; rintro e w1 ⟨rfl, rfl⟩)
    go_ret
    exact ⟨rfl, rfl⟩
  · have f0 : 4352 ≤ r := by omega
    have f1 : decide (r ≤ 4447) = false := decide_eq_false (by omega)
    have f2 : decide (43360 ≤ r) = false := decide_eq_false (by omega)
    have f3 : r ≤ 43388 := by omega
    have f4 : 4448 ≤ r := by omega
    have f5 : decide (r ≤ 4519) = false := decide_eq_false (by omega)
    have f6 : decide (55216 ≤ r) = false := decide_eq_false (by omega)
    have f7 : r ≤ 55238 := by omega
    have f8 : 4520 ≤ r := by omega
    have f9 : decide (r ≤ 4607) = false := decide_eq_false (by omega)
    have f10 : decide (55243 ≤ r) = false := decide_eq_false (by omega)
    have f11 : r ≤ 55291 := by omega
    have f12 : decide (44032 ≤ r) = false := decide_eq_false (by omega)
    have f13 : r ≤ 55203 := by omega
    have hv : hanF r = 0 := by unfold hanF; (repeat' split) <;> omega
    rw [hv]
    clear hv
    have hOut : Hid (r < 44032 ∨ 55203 < r) := hide (by omega)
    go_enter Tryz.func180, Tryz.ntmps180
    go_wp2_with (refine (HO.out hOut.out _).mono ?_; rintro e w1 ⟨rfl, rfl⟩)
    go_ret
    exact ⟨rfl, rfl⟩
  · have f0 : 4352 ≤ r := by omega
    have f1 : decide (r ≤ 4447) = false := decide_eq_false (by omega)
    have f2 : 43360 ≤ r := by omega
    have f3 : r ≤ 43388 := by omega
    have f4 : 4448 ≤ r := by omega
    have f5 : decide (r ≤ 4519) = false := decide_eq_false (by omega)
    have f6 : decide (55216 ≤ r) = false := decide_eq_false (by omega)
    have f7 : r ≤ 55238 := by omega
    have f8 : 4520 ≤ r := by omega
    have f9 : decide (r ≤ 4607) = false := decide_eq_false (by omega)
    have f10 : decide (55243 ≤ r) = false := decide_eq_false (by omega)
    have f11 : r ≤ 55291 := by omega
    have f12 : decide (44032 ≤ r) = false := decide_eq_false (by omega)
    have f13 : r ≤ 55203 := by omega
    have hv : hanF r = 9 := by unfold hanF; (repeat' split) <;> omega
    rw [hv]
    clear hv
    have hOut : Hid (r < 44032 ∨ 55203 < r) := hide (by omega)
    go_enter Tryz.func180, Tryz.ntmps180
    go_wp2_with (refine (HO.out hOut.out _).mono ?_; rintro e w1 ⟨rfl, rfl⟩)
    go_ret
    exact ⟨rfl, rfl⟩
  · have f0 : 4352 ≤ r := by omega
    have f1 : decide (r ≤ 4447) = false := decide_eq_false (by omega)
    have f2 : 43360 ≤ r := by omega
    have f3 : decide (r ≤ 43388) = false := decide_eq_false (by omega)
    have f4 : 4448 ≤ r := by omega
    have f5 : decide (r ≤ 4519) = false := decide_eq_false (by omega)
    have f6 : decide (55216 ≤ r) = false := decide_eq_false (by omega)
    have f7 : r ≤ 55238 := by omega
    have f8 : 4520 ≤ r := by omega
    have f9 : decide (r ≤ 4607) = false := decide_eq_false (by omega)
    have f10 : decide (55243 ≤ r) = false := decide_eq_false (by omega)
    have f11 : r ≤ 55291 := by omega
    have f12 : decide (44032 ≤ r) = false := decide_eq_false (by omega)
    have f13 : r ≤ 55203 := by omega
    have hv : hanF r = 0 := by unfold hanF; (repeat' split) <;> omega
    rw [hv]
    clear hv
    have hOut : Hid (r < 44032 ∨ 55203 < r) := hide (by omega)
    go_enter Tryz.func180, Tryz.ntmps180
    go_wp2_with (refine (HO.out hOut.out _).mono ?_; rintro e w1 ⟨rfl, rfl⟩)
    go_ret
    exact ⟨rfl, rfl⟩
  · have f0 : 4352 ≤ r := by omega
    have f1 : decide (r ≤ 4447) = false := decide_eq_false (by omega)
    have f2 : 43360 ≤ r := by omega
    have f3 : decide (r ≤ 43388) = false := decide_eq_false (by omega)
    have f4 : 4448 ≤ r := by omega
    have f5 : decide (r ≤ 4519) = false := decide_eq_false (by omega)
    have f6 : decide (55216 ≤ r) = false := decide_eq_false (by omega)
    have f7 : r ≤ 55238 := by omega
    have f8 : 4520 ≤ r := by omega
    have f9 : decide (r ≤ 4607) = false := decide_eq_false (by omega)
    have f10 : decide (55243 ≤ r) = false := decide_eq_false (by omega)
    have f11 : r ≤ 55291 := by omega
    have f12 : 44032 ≤ r := by omega
    have f13 : r ≤ 55203 := by omega
    have HS := hide (fun w => HI.out (by omega) (by omega) w)
    by_cases hm : (r - 44032) % 28 = 0
    · have hv : hanF r = 12 := by unfold hanF; (repeat' split) <;> omega
      rw [hv]
      clear hv
      have HM := hide hm
      clear hm
      go_enter Tryz.func180, Tryz.ntmps180
      go_wp2_with (refine (HS.out _).mono ?_; rintro e w1 ⟨⟨l, v, t, rfl, hl, ht⟩, rfl⟩; have ht0 : t = 0 := ht.2 HM.out; subst ht0; clear ht)
      go_ret
      exact ⟨rfl, rfl⟩
    · have hv : hanF r = 13 := by unfold hanF; (repeat' split) <;> omega
      rw [hv]
      clear hv
      have HM := hide hm
      clear hm
      go_enter Tryz.func180, Tryz.ntmps180
      go_wp2_with (refine (HS.out _).mono ?_; rintro e w1 ⟨⟨l, v, t, rfl, hl, ht⟩, rfl⟩; have ht0 : ¬ t = 0 := fun h => HM.out (ht.1 h); clear ht)
      go_ret
      exact ⟨rfl, rfl⟩
  · have f0 : 4352 ≤ r := by omega
    have f1 : decide (r ≤ 4447) = false := decide_eq_false (by omega)
    have f2 : 43360 ≤ r := by omega
    have f3 : decide (r ≤ 43388) = false := decide_eq_false (by omega)
    have f4 : 4448 ≤ r := by omega
    have f5 : decide (r ≤ 4519) = false := decide_eq_false (by omega)
    have f6 : decide (55216 ≤ r) = false := decide_eq_false (by omega)
    have f7 : r ≤ 55238 := by omega
    have f8 : 4520 ≤ r := by omega
    have f9 : decide (r ≤ 4607) = false := decide_eq_false (by omega)
    have f10 : decide (55243 ≤ r) = false := decide_eq_false (by omega)
    have f11 : r ≤ 55291 := by omega
    have f12 : 44032 ≤ r := by omega
    have f13 : decide (r ≤ 55203) = false := decide_eq_false (by omega)
    have hv : hanF r = 0 := by unfold hanF; (repeat' split) <;> omega
    rw [hv]
    clear hv
    have hOut : Hid (r < 44032 ∨ 55203 < r) := hide (by omega)
    go_enter Tryz.func180, Tryz.ntmps180
    go_wp2_with (refine (HO.out hOut.out _).mono ?_; rintro e w1 ⟨rfl, rfl⟩)
    go_ret
    exact ⟨rfl, rfl⟩
  · have f0 : 4352 ≤ r := by omega
    have f1 : decide (r ≤ 4447) = false := decide_eq_false (by omega)
    have f2 : 43360 ≤ r := by omega
    have f3 : decide (r ≤ 43388) = false := decide_eq_false (by omega)
    have f4 : 4448 ≤ r := by omega
    have f5 : decide (r ≤ 4519) = false := decide_eq_false (by omega)
    have f6 : 55216 ≤ r := by omega
    have f7 : r ≤ 55238 := by omega
    have f8 : 4520 ≤ r := by omega
    have f9 : decide (r ≤ 4607) = false := decide_eq_false (by omega)
    have f10 : decide (55243 ≤ r) = false := decide_eq_false (by omega)
    have f11 : r ≤ 55291 := by omega
    have f12 : 44032 ≤ r := by omega
    have f13 : decide (r ≤ 55203) = false := decide_eq_false (by omega)
    have hv : hanF r = 10 := by unfold hanF; (repeat' split) <;> omega
    rw [hv]
    clear hv
    have hOut : Hid (r < 44032 ∨ 55203 < r) := hide (by omega)
    go_enter Tryz.func180, Tryz.ntmps180
    go_wp2_with (refine (HO.out hOut.out _).mono ?_; rintro e w1 ⟨rfl, rfl⟩)
    go_ret
    exact ⟨rfl, rfl⟩
  · have f0 : 4352 ≤ r := by omega
    have f1 : decide (r ≤ 4447) = false := decide_eq_false (by omega)
    have f2 : 43360 ≤ r := by omega
    have f3 : decide (r ≤ 43388) = false := decide_eq_false (by omega)
    have f4 : 4448 ≤ r := by omega
    have f5 : decide (r ≤ 4519) = false := decide_eq_false (by omega)
    have f6 : 55216 ≤ r := by omega
    have f7 : decide (r ≤ 55238) = false := decide_eq_false (by omega)
    have f8 : 4520 ≤ r := by omega
    have f9 : decide (r ≤ 4607) = false := decide_eq_false (by omega)
    have f10 : decide (55243 ≤ r) = false := decide_eq_false (by omega)
    have f11 : r ≤ 55291 := by omega
    have f12 : 44032 ≤ r := by omega
    have f13 : decide (r ≤ 55203) = false := decide_eq_false (by omega)
    have hv : hanF r = 0 := by unfold hanF; (repeat' split) <;> omega
    rw [hv]
    clear hv
    have hOut : Hid (r < 44032 ∨ 55203 < r) := hide (by omega)
    go_enter Tryz.func180, Tryz.ntmps180
    go_wp2_with (refine (HO.out hOut.out _).mono ?_; rintro e w1 ⟨rfl, rfl⟩)
    go_ret
    exact ⟨rfl, rfl⟩
  · have f0 : 4352 ≤ r := by omega
    have f1 : decide (r ≤ 4447) = false := decide_eq_false (by omega)
    have f2 : 43360 ≤ r := by omega
    have f3 : decide (r ≤ 43388) = false := decide_eq_false (by omega)
    have f4 : 4448 ≤ r := by omega
    have f5 : decide (r ≤ 4519) = false := decide_eq_false (by omega)
    have f6 : 55216 ≤ r := by omega
    have f7 : decide (r ≤ 55238) = false := decide_eq_false (by omega)
    have f8 : 4520 ≤ r := by omega
    have f9 : decide (r ≤ 4607) = false := decide_eq_false (by omega)
    have f10 : 55243 ≤ r := by omega
    have f11 : r ≤ 55291 := by omega
    have f12 : 44032 ≤ r := by omega
    have f13 : decide (r ≤ 55203) = false := decide_eq_false (by omega)
    have hv : hanF r = 11 := by unfold hanF; (repeat' split) <;> omega
    rw [hv]
    clear hv
    have hOut : Hid (r < 44032 ∨ 55203 < r) := hide (by omega)
    go_enter Tryz.func180, Tryz.ntmps180
    go_wp2_with (refine (HO.out hOut.out _).mono ?_; rintro e w1 ⟨rfl, rfl⟩)
    go_ret
    exact ⟨rfl, rfl⟩
  · have f0 : 4352 ≤ r := by omega
    have f1 : decide (r ≤ 4447) = false := decide_eq_false (by omega)
    have f2 : 43360 ≤ r := by omega
    have f3 : decide (r ≤ 43388) = false := decide_eq_false (by omega)
    have f4 : 4448 ≤ r := by omega
    have f5 : decide (r ≤ 4519) = false := decide_eq_false (by omega)
    have f6 : 55216 ≤ r := by omega
    have f7 : decide (r ≤ 55238) = false := decide_eq_false (by omega)
    have f8 : 4520 ≤ r := by omega
    have f9 : decide (r ≤ 4607) = false := decide_eq_false (by omega)
    have f10 : 55243 ≤ r := by omega
    have f11 : decide (r ≤ 55291) = false := decide_eq_false (by omega)
    have f12 : 44032 ≤ r := by omega
    have f13 : decide (r ≤ 55203) = false := decide_eq_false (by omega)
    have hv : hanF r = 0 := by unfold hanF; (repeat' split) <;> omega
    rw [hv]
    clear hv
    have hOut : Hid (r < 44032 ∨ 55203 < r) := hide (by omega)
    go_enter Tryz.func180, Tryz.ntmps180
    go_wp2_with (refine (HO.out hOut.out _).mono ?_; rintro e w1 ⟨rfl, rfl⟩)
    go_ret
    exact ⟨rfl, rfl⟩
set_option maxHeartbeats 4000000 in
theorem rOf9d_ok (r : Int) (h0 : -2147483648 ≤ r) (h1 : r ≤ 2147483647) (w : World) :
    Calls Tryz.prog 149 #[.int .i32 r] w fun e w' => e = .returned (.int .i64 (docF [l9_1, l9_2, l9_3, l9_4, l9_5, l9_6, l9_7, l9_8] 1 r (hanF r))) ∧ Below w.heap.size w w' := by
  have T0 := hide (fun w => (l9_1_ok w).mono (R' := fun e w' => ∃ g, e = .returned (.slice (some ⟨g, 0, none⟩) l9_1.length l9_1.length) ∧ Blk w' g 232 (tab2 .i64 l9_1).toArray ∧ Below w.heap.size w w') (by rintro e w' ⟨rfl, rfl⟩; exact ⟨w.heap.size, rfl, Blk.new _ _ _, (Below.refl _ w).alloc (Nat.le_refl _) _⟩))
  have T1 := hide (fun w => (l9_2_ok w).mono (R' := fun e w' => ∃ g, e = .returned (.slice (some ⟨g, 0, none⟩) l9_2.length l9_2.length) ∧ Blk w' g 232 (tab2 .i64 l9_2).toArray ∧ Below w.heap.size w w') (by rintro e w' ⟨rfl, rfl⟩; exact ⟨w.heap.size, rfl, Blk.new _ _ _, (Below.refl _ w).alloc (Nat.le_refl _) _⟩))
  have T2 := hide (fun w => (l9_3_ok w).mono (R' := fun e w' => ∃ g, e = .returned (.slice (some ⟨g, 0, none⟩) l9_3.length l9_3.length) ∧ Blk w' g 232 (tab2 .i64 l9_3).toArray ∧ Below w.heap.size w w') (by rintro e w' ⟨rfl, rfl⟩; exact ⟨w.heap.size, rfl, Blk.new _ _ _, (Below.refl _ w).alloc (Nat.le_refl _) _⟩))
  have T3 := hide (fun w => (l9_4_ok w).mono (R' := fun e w' => ∃ g, e = .returned (.slice (some ⟨g, 0, none⟩) l9_4.length l9_4.length) ∧ Blk w' g 232 (tab2 .i64 l9_4).toArray ∧ Below w.heap.size w w') (by rintro e w' ⟨rfl, rfl⟩; exact ⟨w.heap.size, rfl, Blk.new _ _ _, (Below.refl _ w).alloc (Nat.le_refl _) _⟩))
  have T4 := hide (fun w => (l9_5_ok w).mono (R' := fun e w' => ∃ g, e = .returned (.slice (some ⟨g, 0, none⟩) l9_5.length l9_5.length) ∧ Blk w' g 232 (tab2 .i64 l9_5).toArray ∧ Below w.heap.size w w') (by rintro e w' ⟨rfl, rfl⟩; exact ⟨w.heap.size, rfl, Blk.new _ _ _, (Below.refl _ w).alloc (Nat.le_refl _) _⟩))
  have T5 := hide (fun w => (l9_6_ok w).mono (R' := fun e w' => ∃ g, e = .returned (.slice (some ⟨g, 0, none⟩) l9_6.length l9_6.length) ∧ Blk w' g 232 (tab2 .i64 l9_6).toArray ∧ Below w.heap.size w w') (by rintro e w' ⟨rfl, rfl⟩; exact ⟨w.heap.size, rfl, Blk.new _ _ _, (Below.refl _ w).alloc (Nat.le_refl _) _⟩))
  have T6 := hide (fun w => (l9_7_ok w).mono (R' := fun e w' => ∃ g, e = .returned (.slice (some ⟨g, 0, none⟩) l9_7.length l9_7.length) ∧ Blk w' g 232 (tab2 .i64 l9_7).toArray ∧ Below w.heap.size w w') (by rintro e w' ⟨rfl, rfl⟩; exact ⟨w.heap.size, rfl, Blk.new _ _ _, (Below.refl _ w).alloc (Nat.le_refl _) _⟩))
  have T7 := hide (fun w => (l9_8_ok w).mono (R' := fun e w' => ∃ g, e = .returned (.slice (some ⟨g, 0, none⟩) l9_8.length l9_8.length) ∧ Blk w' g 232 (tab2 .i64 l9_8).toArray ∧ Below w.heap.size w w') (by rintro e w' ⟨rfl, rfl⟩; exact ⟨w.heap.size, rfl, Blk.new _ _ _, (Below.refl _ w).alloc (Nat.le_refl _) _⟩))
  have hC := rClass8_ok r h0 h1
  obtain ⟨tl, htl⟩ : ∃ tl, hanF r = tl := ⟨_, rfl⟩
  rw [htl] at hC ⊢
  have HC := hide hC
  clear hC htl
  obtain ⟨L0, hL0⟩ : ∃ L, l9_1 = L := ⟨_, rfl⟩
  have N0 : L0.length < 100000 := by rw [← hL0]; exact of_decide_eq_true (by kernel_rfl)
  rw [hL0] at T0
  obtain ⟨L1, hL1⟩ : ∃ L, l9_2 = L := ⟨_, rfl⟩
  have N1 : L1.length < 100000 := by rw [← hL1]; exact of_decide_eq_true (by kernel_rfl)
  rw [hL1] at T1
  obtain ⟨L2, hL2⟩ : ∃ L, l9_3 = L := ⟨_, rfl⟩
  have N2 : L2.length < 100000 := by rw [← hL2]; exact of_decide_eq_true (by kernel_rfl)
  rw [hL2] at T2
  obtain ⟨L3, hL3⟩ : ∃ L, l9_4 = L := ⟨_, rfl⟩
  have N3 : L3.length < 100000 := by rw [← hL3]; exact of_decide_eq_true (by kernel_rfl)
  rw [hL3] at T3
  obtain ⟨L4, hL4⟩ : ∃ L, l9_5 = L := ⟨_, rfl⟩
  have N4 : L4.length < 100000 := by rw [← hL4]; exact of_decide_eq_true (by kernel_rfl)
  rw [hL4] at T4
  obtain ⟨L5, hL5⟩ : ∃ L, l9_6 = L := ⟨_, rfl⟩
  have N5 : L5.length < 100000 := by rw [← hL5]; exact of_decide_eq_true (by kernel_rfl)
  rw [hL5] at T5
  obtain ⟨L6, hL6⟩ : ∃ L, l9_7 = L := ⟨_, rfl⟩
  have N6 : L6.length < 100000 := by rw [← hL6]; exact of_decide_eq_true (by kernel_rfl)
  rw [hL6] at T6
  obtain ⟨L7, hL7⟩ : ∃ L, l9_8 = L := ⟨_, rfl⟩
  have N7 : L7.length < 100000 := by rw [← hL7]; exact of_decide_eq_true (by kernel_rfl)
  rw [hL7] at T7
  simp only [hL0, hL1, hL2, hL3, hL4, hL5, hL6, hL7]
  clear hL0 hL1 hL2 hL3 hL4 hL5 hL6 hL7
  obtain ⟨n0, hn0⟩ : ∃ n, L0.length = n := ⟨_, rfl⟩
  rw [hn0] at T0 N0
  obtain ⟨n1, hn1⟩ : ∃ n, L1.length = n := ⟨_, rfl⟩
  rw [hn1] at T1 N1
  obtain ⟨n2, hn2⟩ : ∃ n, L2.length = n := ⟨_, rfl⟩
  rw [hn2] at T2 N2
  obtain ⟨n3, hn3⟩ : ∃ n, L3.length = n := ⟨_, rfl⟩
  rw [hn3] at T3 N3
  obtain ⟨n4, hn4⟩ : ∃ n, L4.length = n := ⟨_, rfl⟩
  rw [hn4] at T4 N4
  obtain ⟨n5, hn5⟩ : ∃ n, L5.length = n := ⟨_, rfl⟩
  rw [hn5] at T5 N5
  obtain ⟨n6, hn6⟩ : ∃ n, L6.length = n := ⟨_, rfl⟩
  rw [hn6] at T6 N6
  obtain ⟨n7, hn7⟩ : ∃ n, L7.length = n := ⟨_, rfl⟩
  rw [hn7] at T7 N7
  obtain ⟨ans, hans⟩ : ∃ ans, docF [L0, L1, L2, L3, L4, L5, L6, L7] 1 r tl = ans := ⟨_, rfl⟩
  rw [hans]
  have HANS := hide hans
  clear hans
  go_enter Tryz.func149, Tryz.ntmps149
  go_wp2_with fail
  refine (T0.out _).mono ?_
  rintro e w1 ⟨g0, rfl, B0, b0⟩
  go_wp2_with fail
  refine (T1.out _).mono ?_
  rintro e w2 ⟨g1, rfl, B1, b1⟩
  go_wp2_with fail
  refine (T2.out _).mono ?_
  rintro e w3 ⟨g2, rfl, B2, b2⟩
  go_wp2_with fail
  refine (T3.out _).mono ?_
  rintro e w4 ⟨g3, rfl, B3, b3⟩
  go_wp2_with fail
  refine (T4.out _).mono ?_
  rintro e w5 ⟨g4, rfl, B4, b4⟩
  go_wp2_with fail
  refine (T5.out _).mono ?_
  rintro e w6 ⟨g5, rfl, B5, b5⟩
  go_wp2_with fail
  refine (T6.out _).mono ?_
  rintro e w7 ⟨g6, rfl, B6, b6⟩
  go_wp2_with fail
  refine (T7.out _).mono ?_
  rintro e w8 ⟨g7, rfl, B7, b7⟩
  go_wp2
  have C0 := ((((((((B0).same b1).same b2).same b3).same b4).same b5).same b6).same b7).alloc (.cells #[.slice (some ⟨g0, 0, none⟩) n0 n0, .slice (some ⟨g1, 0, none⟩) n1 n1, .slice (some ⟨g2, 0, none⟩) n2 n2, .slice (some ⟨g3, 0, none⟩) n3 n3, .slice (some ⟨g4, 0, none⟩) n4 n4, .slice (some ⟨g5, 0, none⟩) n5 n5, .slice (some ⟨g6, 0, none⟩) n6 n6, .slice (some ⟨g7, 0, none⟩) n7 n7] 219)
  have C1 := (((((((B1).same b2).same b3).same b4).same b5).same b6).same b7).alloc (.cells #[.slice (some ⟨g0, 0, none⟩) n0 n0, .slice (some ⟨g1, 0, none⟩) n1 n1, .slice (some ⟨g2, 0, none⟩) n2 n2, .slice (some ⟨g3, 0, none⟩) n3 n3, .slice (some ⟨g4, 0, none⟩) n4 n4, .slice (some ⟨g5, 0, none⟩) n5 n5, .slice (some ⟨g6, 0, none⟩) n6 n6, .slice (some ⟨g7, 0, none⟩) n7 n7] 219)
  have C2 := ((((((B2).same b3).same b4).same b5).same b6).same b7).alloc (.cells #[.slice (some ⟨g0, 0, none⟩) n0 n0, .slice (some ⟨g1, 0, none⟩) n1 n1, .slice (some ⟨g2, 0, none⟩) n2 n2, .slice (some ⟨g3, 0, none⟩) n3 n3, .slice (some ⟨g4, 0, none⟩) n4 n4, .slice (some ⟨g5, 0, none⟩) n5 n5, .slice (some ⟨g6, 0, none⟩) n6 n6, .slice (some ⟨g7, 0, none⟩) n7 n7] 219)
  have C3 := (((((B3).same b4).same b5).same b6).same b7).alloc (.cells #[.slice (some ⟨g0, 0, none⟩) n0 n0, .slice (some ⟨g1, 0, none⟩) n1 n1, .slice (some ⟨g2, 0, none⟩) n2 n2, .slice (some ⟨g3, 0, none⟩) n3 n3, .slice (some ⟨g4, 0, none⟩) n4 n4, .slice (some ⟨g5, 0, none⟩) n5 n5, .slice (some ⟨g6, 0, none⟩) n6 n6, .slice (some ⟨g7, 0, none⟩) n7 n7] 219)
  have C4 := ((((B4).same b5).same b6).same b7).alloc (.cells #[.slice (some ⟨g0, 0, none⟩) n0 n0, .slice (some ⟨g1, 0, none⟩) n1 n1, .slice (some ⟨g2, 0, none⟩) n2 n2, .slice (some ⟨g3, 0, none⟩) n3 n3, .slice (some ⟨g4, 0, none⟩) n4 n4, .slice (some ⟨g5, 0, none⟩) n5 n5, .slice (some ⟨g6, 0, none⟩) n6 n6, .slice (some ⟨g7, 0, none⟩) n7 n7] 219)
  have C5 := (((B5).same b6).same b7).alloc (.cells #[.slice (some ⟨g0, 0, none⟩) n0 n0, .slice (some ⟨g1, 0, none⟩) n1 n1, .slice (some ⟨g2, 0, none⟩) n2 n2, .slice (some ⟨g3, 0, none⟩) n3 n3, .slice (some ⟨g4, 0, none⟩) n4 n4, .slice (some ⟨g5, 0, none⟩) n5 n5, .slice (some ⟨g6, 0, none⟩) n6 n6, .slice (some ⟨g7, 0, none⟩) n7 n7] 219)
  have C6 := ((B6).same b7).alloc (.cells #[.slice (some ⟨g0, 0, none⟩) n0 n0, .slice (some ⟨g1, 0, none⟩) n1 n1, .slice (some ⟨g2, 0, none⟩) n2 n2, .slice (some ⟨g3, 0, none⟩) n3 n3, .slice (some ⟨g4, 0, none⟩) n4 n4, .slice (some ⟨g5, 0, none⟩) n5 n5, .slice (some ⟨g6, 0, none⟩) n6 n6, .slice (some ⟨g7, 0, none⟩) n7 n7] 219)
  have C7 := (B7).alloc (.cells #[.slice (some ⟨g0, 0, none⟩) n0 n0, .slice (some ⟨g1, 0, none⟩) n1 n1, .slice (some ⟨g2, 0, none⟩) n2 n2, .slice (some ⟨g3, 0, none⟩) n3 n3, .slice (some ⟨g4, 0, none⟩) n4 n4, .slice (some ⟨g5, 0, none⟩) n5 n5, .slice (some ⟨g6, 0, none⟩) n6 n6, .slice (some ⟨g7, 0, none⟩) n7 n7] 219)
  have z0 := b0.size
  have z1 := b1.size
  have z2 := b2.size
  have z3 := b3.size
  have z4 := b4.size
  have z5 := b5.size
  have z6 := b6.size
  have z7 := b7.size
  have hb0 := ((((((((b0).trans (b1.mono (by omega))).trans (b2.mono (by omega))).trans (b3.mono (by omega))).trans (b4.mono (by omega))).trans (b5.mono (by omega))).trans (b6.mono (by omega))).trans (b7.mono (by omega))).alloc (by omega) (.cells #[.slice (some ⟨g0, 0, none⟩) n0 n0, .slice (some ⟨g1, 0, none⟩) n1 n1, .slice (some ⟨g2, 0, none⟩) n2 n2, .slice (some ⟨g3, 0, none⟩) n3 n3, .slice (some ⟨g4, 0, none⟩) n4 n4, .slice (some ⟨g5, 0, none⟩) n5 n5, .slice (some ⟨g6, 0, none⟩) n6 n6, .slice (some ⟨g7, 0, none⟩) n7 n7] 219)
  have S := Blk.new w8 219 #[.slice (some ⟨g0, 0, none⟩) n0 n0, .slice (some ⟨g1, 0, none⟩) n1 n1, .slice (some ⟨g2, 0, none⟩) n2 n2, .slice (some ⟨g3, 0, none⟩) n3 n3, .slice (some ⟨g4, 0, none⟩) n4 n4, .slice (some ⟨g5, 0, none⟩) n5 n5, .slice (some ⟨g6, 0, none⟩) n6 n6, .slice (some ⟨g7, 0, none⟩) n7 n7]
  obtain ⟨W, hW⟩ : ∃ W, w8.alloc (.cells #[.slice (some ⟨g0, 0, none⟩) n0 n0, .slice (some ⟨g1, 0, none⟩) n1 n1, .slice (some ⟨g2, 0, none⟩) n2 n2, .slice (some ⟨g3, 0, none⟩) n3 n3, .slice (some ⟨g4, 0, none⟩) n4 n4, .slice (some ⟨g5, 0, none⟩) n5 n5, .slice (some ⟨g6, 0, none⟩) n6 n6, .slice (some ⟨g7, 0, none⟩) n7 n7] 219) = W := ⟨_, rfl⟩
  obtain ⟨gs, hgs⟩ : ∃ gs, w8.heap.size = gs := ⟨_, rfl⟩
  rw [hW] at C0 C1 C2 C3 C4 C5 C6 C7 hb0 S
  rw [hgs] at S
  have s0 := S.cell 0
  have s1 := S.cell 1
  have s2 := S.cell 2
  have s3 := S.cell 3
  have s4 := S.cell 4
  have s5 := S.cell 5
  have s6 := S.cell 6
  have s7 := S.cell 7
  simp only [zA, zB, zC] at s0 s1 s2 s3 s4 s5 s6 s7
  have I0 := hide (rIn_ok g0 n0 L0 r h0 h1 hn0 N0 W C0)
  have I1 := hide (rIn_ok g1 n1 L1 r h0 h1 hn1 N1 W C1)
  have I2 := hide (rIn_ok g2 n2 L2 r h0 h1 hn2 N2 W C2)
  have I3 := hide (rIn_ok g3 n3 L3 r h0 h1 hn3 N3 W C3)
  have I4 := hide (rIn_ok g4 n4 L4 r h0 h1 hn4 N4 W C4)
  have I5 := hide (rIn_ok g5 n5 L5 r h0 h1 hn5 N5 W C5)
  have I6 := hide (rIn_ok g6 n6 L6 r h0 h1 hn6 N6 W C6)
  have I7 := hide (rIn_ok g7 n7 L7 r h0 h1 hn7 N7 W C7)
  have HB0 := hide hb0
  clear hb0 S C0 B0 b0 z0 T0 hn0 N0 C1 B1 b1 z1 T1 hn1 N1 C2 B2 b2 z2 T2 hn2 N2 C3 B3 b3 z3 T3 hn3 N3 C4 B4 b4 z4 T4 hn4 N4 C5 B5 b5 z5 T5 hn5 N5 C6 B6 b6 z6 T6 hn6 N6 C7 B7 b7 z7 T7 hn7 N7
  try rw [hW]
  try rw [hgs]
  have hans := HANS.out
  go_loopw [4] (fun i wr => ∃ k : Nat, k ≤ 8 ∧ i = .int .i64 k ∧ docF ([L0, L1, L2, L3, L4, L5, L6, L7].drop k) (1 + k) r tl = ans ∧ W = wr) (fun i _ => 8 - (intOf i).toNat)
  case atStart => exact ⟨0, by omega, rfl, hans, rfl⟩
  case round =>
    clear hans
    obtain ⟨k, hk, rfl, hto, rfl⟩ := hrel
    rcases (by omega : k = 0 ∨ k = 1 ∨ k = 2 ∨ k = 3 ∨ k = 4 ∨ k = 5 ∨ k = 6 ∨ k = 7 ∨ k = 8) with rfl | rfl | rfl | rfl | rfl | rfl | rfl | rfl | rfl
    · have HTO := hide hto
      clear hto
      cases hq : inF L0 r with
      | true =>
        have HA : Hid ((1 : Int) = ans) := hide (by rw [← HTO.out]; show _ = (if inF L0 r = true then _ else _); rw [hq]; rfl)
        rw [hq] at I0
        clear hq
        go_wp2_with fail
        refine I0.out.mono ?_
        rintro e w9 ⟨rfl, rfl⟩
        go_wp2
        go_ret
        exact ⟨by rw [← HA.out]; rfl, HB0.out⟩
      | false =>
        have hnew : Hid (docF ([L0, L1, L2, L3, L4, L5, L6, L7].drop (0 + 1)) (1 + ((0 + 1 : Nat) : Int)) r tl = ans) := hide (by rw [← HTO.out]; show _ = (if inF L0 r = true then _ else _); rw [hq]; rfl)
        rw [hq] at I0
        clear hq
        go_wp2_with fail
        refine I0.out.mono ?_
        rintro e w9 ⟨rfl, rfl⟩
        go_wp2
        go_roundw
        case rel => exact ⟨0 + 1, by omega, by go_num, hnew.out, trivial⟩
        case measure => simp [intOf]
    · have HTO := hide hto
      clear hto
      cases hq : inF L1 r with
      | true =>
        have HA : Hid ((2 : Int) = ans) := hide (by rw [← HTO.out]; show _ = (if inF L1 r = true then _ else _); rw [hq]; rfl)
        rw [hq] at I1
        clear hq
        go_wp2_with fail
        refine I1.out.mono ?_
        rintro e w9 ⟨rfl, rfl⟩
        go_wp2
        go_ret
        exact ⟨by rw [← HA.out]; rfl, HB0.out⟩
      | false =>
        have hnew : Hid (docF ([L0, L1, L2, L3, L4, L5, L6, L7].drop (1 + 1)) (1 + ((1 + 1 : Nat) : Int)) r tl = ans) := hide (by rw [← HTO.out]; show _ = (if inF L1 r = true then _ else _); rw [hq]; rfl)
        rw [hq] at I1
        clear hq
        go_wp2_with fail
        refine I1.out.mono ?_
        rintro e w9 ⟨rfl, rfl⟩
        go_wp2
        go_roundw
        case rel => exact ⟨1 + 1, by omega, by go_num, hnew.out, trivial⟩
        case measure => simp [intOf]
    · have HTO := hide hto
      clear hto
      cases hq : inF L2 r with
      | true =>
        have HA : Hid ((3 : Int) = ans) := hide (by rw [← HTO.out]; show _ = (if inF L2 r = true then _ else _); rw [hq]; rfl)
        rw [hq] at I2
        clear hq
        go_wp2_with fail
        refine I2.out.mono ?_
        rintro e w9 ⟨rfl, rfl⟩
        go_wp2
        go_ret
        exact ⟨by rw [← HA.out]; rfl, HB0.out⟩
      | false =>
        have hnew : Hid (docF ([L0, L1, L2, L3, L4, L5, L6, L7].drop (2 + 1)) (1 + ((2 + 1 : Nat) : Int)) r tl = ans) := hide (by rw [← HTO.out]; show _ = (if inF L2 r = true then _ else _); rw [hq]; rfl)
        rw [hq] at I2
        clear hq
        go_wp2_with fail
        refine I2.out.mono ?_
        rintro e w9 ⟨rfl, rfl⟩
        go_wp2
        go_roundw
        case rel => exact ⟨2 + 1, by omega, by go_num, hnew.out, trivial⟩
        case measure => simp [intOf]
    · have HTO := hide hto
      clear hto
      cases hq : inF L3 r with
      | true =>
        have HA : Hid ((4 : Int) = ans) := hide (by rw [← HTO.out]; show _ = (if inF L3 r = true then _ else _); rw [hq]; rfl)
        rw [hq] at I3
        clear hq
        go_wp2_with fail
        refine I3.out.mono ?_
        rintro e w9 ⟨rfl, rfl⟩
        go_wp2
        go_ret
        exact ⟨by rw [← HA.out]; rfl, HB0.out⟩
      | false =>
        have hnew : Hid (docF ([L0, L1, L2, L3, L4, L5, L6, L7].drop (3 + 1)) (1 + ((3 + 1 : Nat) : Int)) r tl = ans) := hide (by rw [← HTO.out]; show _ = (if inF L3 r = true then _ else _); rw [hq]; rfl)
        rw [hq] at I3
        clear hq
        go_wp2_with fail
        refine I3.out.mono ?_
        rintro e w9 ⟨rfl, rfl⟩
        go_wp2
        go_roundw
        case rel => exact ⟨3 + 1, by omega, by go_num, hnew.out, trivial⟩
        case measure => simp [intOf]
    · have HTO := hide hto
      clear hto
      cases hq : inF L4 r with
      | true =>
        have HA : Hid ((5 : Int) = ans) := hide (by rw [← HTO.out]; show _ = (if inF L4 r = true then _ else _); rw [hq]; rfl)
        rw [hq] at I4
        clear hq
        go_wp2_with fail
        refine I4.out.mono ?_
        rintro e w9 ⟨rfl, rfl⟩
        go_wp2
        go_ret
        exact ⟨by rw [← HA.out]; rfl, HB0.out⟩
      | false =>
        have hnew : Hid (docF ([L0, L1, L2, L3, L4, L5, L6, L7].drop (4 + 1)) (1 + ((4 + 1 : Nat) : Int)) r tl = ans) := hide (by rw [← HTO.out]; show _ = (if inF L4 r = true then _ else _); rw [hq]; rfl)
        rw [hq] at I4
        clear hq
        go_wp2_with fail
        refine I4.out.mono ?_
        rintro e w9 ⟨rfl, rfl⟩
        go_wp2
        go_roundw
        case rel => exact ⟨4 + 1, by omega, by go_num, hnew.out, trivial⟩
        case measure => simp [intOf]
    · have HTO := hide hto
      clear hto
      cases hq : inF L5 r with
      | true =>
        have HA : Hid ((6 : Int) = ans) := hide (by rw [← HTO.out]; show _ = (if inF L5 r = true then _ else _); rw [hq]; rfl)
        rw [hq] at I5
        clear hq
        go_wp2_with fail
        refine I5.out.mono ?_
        rintro e w9 ⟨rfl, rfl⟩
        go_wp2
        go_ret
        exact ⟨by rw [← HA.out]; rfl, HB0.out⟩
      | false =>
        have hnew : Hid (docF ([L0, L1, L2, L3, L4, L5, L6, L7].drop (5 + 1)) (1 + ((5 + 1 : Nat) : Int)) r tl = ans) := hide (by rw [← HTO.out]; show _ = (if inF L5 r = true then _ else _); rw [hq]; rfl)
        rw [hq] at I5
        clear hq
        go_wp2_with fail
        refine I5.out.mono ?_
        rintro e w9 ⟨rfl, rfl⟩
        go_wp2
        go_roundw
        case rel => exact ⟨5 + 1, by omega, by go_num, hnew.out, trivial⟩
        case measure => simp [intOf]
    · have HTO := hide hto
      clear hto
      cases hq : inF L6 r with
      | true =>
        have HA : Hid ((7 : Int) = ans) := hide (by rw [← HTO.out]; show _ = (if inF L6 r = true then _ else _); rw [hq]; rfl)
        rw [hq] at I6
        clear hq
        go_wp2_with fail
        refine I6.out.mono ?_
        rintro e w9 ⟨rfl, rfl⟩
        go_wp2
        go_ret
        exact ⟨by rw [← HA.out]; rfl, HB0.out⟩
      | false =>
        have hnew : Hid (docF ([L0, L1, L2, L3, L4, L5, L6, L7].drop (6 + 1)) (1 + ((6 + 1 : Nat) : Int)) r tl = ans) := hide (by rw [← HTO.out]; show _ = (if inF L6 r = true then _ else _); rw [hq]; rfl)
        rw [hq] at I6
        clear hq
        go_wp2_with fail
        refine I6.out.mono ?_
        rintro e w9 ⟨rfl, rfl⟩
        go_wp2
        go_roundw
        case rel => exact ⟨6 + 1, by omega, by go_num, hnew.out, trivial⟩
        case measure => simp [intOf]
    · have HTO := hide hto
      clear hto
      cases hq : inF L7 r with
      | true =>
        have HA : Hid ((8 : Int) = ans) := hide (by rw [← HTO.out]; show _ = (if inF L7 r = true then _ else _); rw [hq]; rfl)
        rw [hq] at I7
        clear hq
        go_wp2_with fail
        refine I7.out.mono ?_
        rintro e w9 ⟨rfl, rfl⟩
        go_wp2
        go_ret
        exact ⟨by rw [← HA.out]; rfl, HB0.out⟩
      | false =>
        have hnew : Hid (docF ([L0, L1, L2, L3, L4, L5, L6, L7].drop (7 + 1)) (1 + ((7 + 1 : Nat) : Int)) r tl = ans) := hide (by rw [← HTO.out]; show _ = (if inF L7 r = true then _ else _); rw [hq]; rfl)
        rw [hq] at I7
        clear hq
        go_wp2_with fail
        refine I7.out.mono ?_
        rintro e w9 ⟨rfl, rfl⟩
        go_wp2
        go_roundw
        case rel => exact ⟨7 + 1, by omega, by go_num, hnew.out, trivial⟩
        case measure => simp [intOf]
    · have HTO := hide hto
      clear hto
      go_wp2_with (refine (HC.out _).mono ?_; rintro e w9 ⟨rfl, rfl⟩)
      go_ret
      exact ⟨by rw [← HTO.out]; rfl, HB0.out⟩
set_option maxHeartbeats 4000000 in
theorem rOf11d_ok (r : Int) (h0 : -2147483648 ≤ r) (h1 : r ≤ 2147483647) (w : World) :
    Calls Tryz.prog 151 #[.int .i32 r] w fun e w' => e = .returned (.int .i64 (docF [l11_1, l11_2, l11_3] 1 r 0)) ∧ Below w.heap.size w w' := by
  have T0 := hide (fun w => (l11_1_ok w).mono (R' := fun e w' => ∃ g, e = .returned (.slice (some ⟨g, 0, none⟩) l11_1.length l11_1.length) ∧ Blk w' g 232 (tab2 .i64 l11_1).toArray ∧ Below w.heap.size w w') (by rintro e w' ⟨rfl, rfl⟩; exact ⟨w.heap.size, rfl, Blk.new _ _ _, (Below.refl _ w).alloc (Nat.le_refl _) _⟩))
  have T1 := hide (fun w => (l11_2_ok w).mono (R' := fun e w' => ∃ g, e = .returned (.slice (some ⟨g, 0, none⟩) l11_2.length l11_2.length) ∧ Blk w' g 232 (tab2 .i64 l11_2).toArray ∧ Below w.heap.size w w') (by rintro e w' ⟨rfl, rfl⟩; exact ⟨w.heap.size, rfl, Blk.new _ _ _, (Below.refl _ w).alloc (Nat.le_refl _) _⟩))
  have T2 := hide (fun w => (l11_3_ok w).mono (R' := fun e w' => ∃ g, e = .returned (.slice (some ⟨g, 0, none⟩) l11_3.length l11_3.length) ∧ Blk w' g 232 (tab2 .i64 l11_3).toArray ∧ Below w.heap.size w w') (by rintro e w' ⟨rfl, rfl⟩; exact ⟨w.heap.size, rfl, Blk.new _ _ _, (Below.refl _ w).alloc (Nat.le_refl _) _⟩))
  obtain ⟨L0, hL0⟩ : ∃ L, l11_1 = L := ⟨_, rfl⟩
  have N0 : L0.length < 100000 := by rw [← hL0]; exact of_decide_eq_true (by kernel_rfl)
  rw [hL0] at T0
  obtain ⟨L1, hL1⟩ : ∃ L, l11_2 = L := ⟨_, rfl⟩
  have N1 : L1.length < 100000 := by rw [← hL1]; exact of_decide_eq_true (by kernel_rfl)
  rw [hL1] at T1
  obtain ⟨L2, hL2⟩ : ∃ L, l11_3 = L := ⟨_, rfl⟩
  have N2 : L2.length < 100000 := by rw [← hL2]; exact of_decide_eq_true (by kernel_rfl)
  rw [hL2] at T2
  simp only [hL0, hL1, hL2]
  clear hL0 hL1 hL2
  obtain ⟨n0, hn0⟩ : ∃ n, L0.length = n := ⟨_, rfl⟩
  rw [hn0] at T0 N0
  obtain ⟨n1, hn1⟩ : ∃ n, L1.length = n := ⟨_, rfl⟩
  rw [hn1] at T1 N1
  obtain ⟨n2, hn2⟩ : ∃ n, L2.length = n := ⟨_, rfl⟩
  rw [hn2] at T2 N2
  obtain ⟨ans, hans⟩ : ∃ ans, docF [L0, L1, L2] 1 r 0 = ans := ⟨_, rfl⟩
  rw [hans]
  have HANS := hide hans
  clear hans
  go_enter Tryz.func151, Tryz.ntmps151
  go_wp2_with fail
  refine (T0.out _).mono ?_
  rintro e w1 ⟨g0, rfl, B0, b0⟩
  go_wp2_with fail
  refine (T1.out _).mono ?_
  rintro e w2 ⟨g1, rfl, B1, b1⟩
  go_wp2_with fail
  refine (T2.out _).mono ?_
  rintro e w3 ⟨g2, rfl, B2, b2⟩
  go_wp2
  have C0 := (((B0).same b1).same b2).alloc (.cells #[.slice (some ⟨g0, 0, none⟩) n0 n0, .slice (some ⟨g1, 0, none⟩) n1 n1, .slice (some ⟨g2, 0, none⟩) n2 n2] 219)
  have C1 := ((B1).same b2).alloc (.cells #[.slice (some ⟨g0, 0, none⟩) n0 n0, .slice (some ⟨g1, 0, none⟩) n1 n1, .slice (some ⟨g2, 0, none⟩) n2 n2] 219)
  have C2 := (B2).alloc (.cells #[.slice (some ⟨g0, 0, none⟩) n0 n0, .slice (some ⟨g1, 0, none⟩) n1 n1, .slice (some ⟨g2, 0, none⟩) n2 n2] 219)
  have z0 := b0.size
  have z1 := b1.size
  have z2 := b2.size
  have hb0 := (((b0).trans (b1.mono (by omega))).trans (b2.mono (by omega))).alloc (by omega) (.cells #[.slice (some ⟨g0, 0, none⟩) n0 n0, .slice (some ⟨g1, 0, none⟩) n1 n1, .slice (some ⟨g2, 0, none⟩) n2 n2] 219)
  have S := Blk.new w3 219 #[.slice (some ⟨g0, 0, none⟩) n0 n0, .slice (some ⟨g1, 0, none⟩) n1 n1, .slice (some ⟨g2, 0, none⟩) n2 n2]
  obtain ⟨W, hW⟩ : ∃ W, w3.alloc (.cells #[.slice (some ⟨g0, 0, none⟩) n0 n0, .slice (some ⟨g1, 0, none⟩) n1 n1, .slice (some ⟨g2, 0, none⟩) n2 n2] 219) = W := ⟨_, rfl⟩
  obtain ⟨gs, hgs⟩ : ∃ gs, w3.heap.size = gs := ⟨_, rfl⟩
  rw [hW] at C0 C1 C2 hb0 S
  rw [hgs] at S
  have s0 := S.cell 0
  have s1 := S.cell 1
  have s2 := S.cell 2
  simp only [zA, zB, zC] at s0 s1 s2
  have I0 := hide (rIn_ok g0 n0 L0 r h0 h1 hn0 N0 W C0)
  have I1 := hide (rIn_ok g1 n1 L1 r h0 h1 hn1 N1 W C1)
  have I2 := hide (rIn_ok g2 n2 L2 r h0 h1 hn2 N2 W C2)
  have HB0 := hide hb0
  clear hb0 S C0 B0 b0 z0 T0 hn0 N0 C1 B1 b1 z1 T1 hn1 N1 C2 B2 b2 z2 T2 hn2 N2
  try rw [hW]
  try rw [hgs]
  have hans := HANS.out
  go_loopw [4] (fun i wr => ∃ k : Nat, k ≤ 3 ∧ i = .int .i64 k ∧ docF ([L0, L1, L2].drop k) (1 + k) r 0 = ans ∧ W = wr) (fun i _ => 3 - (intOf i).toNat)
  case atStart => exact ⟨0, by omega, rfl, hans, rfl⟩
  case round =>
    clear hans
    obtain ⟨k, hk, rfl, hto, rfl⟩ := hrel
    rcases (by omega : k = 0 ∨ k = 1 ∨ k = 2 ∨ k = 3) with rfl | rfl | rfl | rfl
    · have HTO := hide hto
      clear hto
      cases hq : inF L0 r with
      | true =>
        have HA : Hid ((1 : Int) = ans) := hide (by rw [← HTO.out]; show _ = (if inF L0 r = true then _ else _); rw [hq]; rfl)
        rw [hq] at I0
        clear hq
        go_wp2_with fail
        refine I0.out.mono ?_
        rintro e w9 ⟨rfl, rfl⟩
        go_wp2
        go_ret
        exact ⟨by rw [← HA.out]; rfl, HB0.out⟩
      | false =>
        have hnew : Hid (docF ([L0, L1, L2].drop (0 + 1)) (1 + ((0 + 1 : Nat) : Int)) r 0 = ans) := hide (by rw [← HTO.out]; show _ = (if inF L0 r = true then _ else _); rw [hq]; rfl)
        rw [hq] at I0
        clear hq
        go_wp2_with fail
        refine I0.out.mono ?_
        rintro e w9 ⟨rfl, rfl⟩
        go_wp2
        go_roundw
        case rel => exact ⟨0 + 1, by omega, by go_num, hnew.out, trivial⟩
        case measure => simp [intOf]
    · have HTO := hide hto
      clear hto
      cases hq : inF L1 r with
      | true =>
        have HA : Hid ((2 : Int) = ans) := hide (by rw [← HTO.out]; show _ = (if inF L1 r = true then _ else _); rw [hq]; rfl)
        rw [hq] at I1
        clear hq
        go_wp2_with fail
        refine I1.out.mono ?_
        rintro e w9 ⟨rfl, rfl⟩
        go_wp2
        go_ret
        exact ⟨by rw [← HA.out]; rfl, HB0.out⟩
      | false =>
        have hnew : Hid (docF ([L0, L1, L2].drop (1 + 1)) (1 + ((1 + 1 : Nat) : Int)) r 0 = ans) := hide (by rw [← HTO.out]; show _ = (if inF L1 r = true then _ else _); rw [hq]; rfl)
        rw [hq] at I1
        clear hq
        go_wp2_with fail
        refine I1.out.mono ?_
        rintro e w9 ⟨rfl, rfl⟩
        go_wp2
        go_roundw
        case rel => exact ⟨1 + 1, by omega, by go_num, hnew.out, trivial⟩
        case measure => simp [intOf]
    · have HTO := hide hto
      clear hto
      cases hq : inF L2 r with
      | true =>
        have HA : Hid ((3 : Int) = ans) := hide (by rw [← HTO.out]; show _ = (if inF L2 r = true then _ else _); rw [hq]; rfl)
        rw [hq] at I2
        clear hq
        go_wp2_with fail
        refine I2.out.mono ?_
        rintro e w9 ⟨rfl, rfl⟩
        go_wp2
        go_ret
        exact ⟨by rw [← HA.out]; rfl, HB0.out⟩
      | false =>
        have hnew : Hid (docF ([L0, L1, L2].drop (2 + 1)) (1 + ((2 + 1 : Nat) : Int)) r 0 = ans) := hide (by rw [← HTO.out]; show _ = (if inF L2 r = true then _ else _); rw [hq]; rfl)
        rw [hq] at I2
        clear hq
        go_wp2_with fail
        refine I2.out.mono ?_
        rintro e w9 ⟨rfl, rfl⟩
        go_wp2
        go_roundw
        case rel => exact ⟨2 + 1, by omega, by go_num, hnew.out, trivial⟩
        case measure => simp [intOf]
    · have HTO := hide hto
      clear hto
      go_wp2
      go_ret
      exact ⟨by rw [← HTO.out]; rfl, HB0.out⟩
set_option maxHeartbeats 4000000 in
theorem rOf12d_ok (r : Int) (h0 : -2147483648 ≤ r) (h1 : r ≤ 2147483647) (w : World) :
    Calls Tryz.prog 152 #[.int .i32 r] w fun e w' => e = .returned (.int .i64 (docF [l12_1, l12_2, l12_3] 1 r 0)) ∧ Below w.heap.size w w' := by
  have T0 := hide (fun w => (l12_1_ok w).mono (R' := fun e w' => ∃ g, e = .returned (.slice (some ⟨g, 0, none⟩) l12_1.length l12_1.length) ∧ Blk w' g 232 (tab2 .i64 l12_1).toArray ∧ Below w.heap.size w w') (by rintro e w' ⟨rfl, rfl⟩; exact ⟨w.heap.size, rfl, Blk.new _ _ _, (Below.refl _ w).alloc (Nat.le_refl _) _⟩))
  have T1 := hide (fun w => (l12_2_ok w).mono (R' := fun e w' => ∃ g, e = .returned (.slice (some ⟨g, 0, none⟩) l12_2.length l12_2.length) ∧ Blk w' g 232 (tab2 .i64 l12_2).toArray ∧ Below w.heap.size w w') (by rintro e w' ⟨rfl, rfl⟩; exact ⟨w.heap.size, rfl, Blk.new _ _ _, (Below.refl _ w).alloc (Nat.le_refl _) _⟩))
  have T2 := hide (fun w => (l12_3_ok w).mono (R' := fun e w' => ∃ g, e = .returned (.slice (some ⟨g, 0, none⟩) l12_3.length l12_3.length) ∧ Blk w' g 232 (tab2 .i64 l12_3).toArray ∧ Below w.heap.size w w') (by rintro e w' ⟨rfl, rfl⟩; exact ⟨w.heap.size, rfl, Blk.new _ _ _, (Below.refl _ w).alloc (Nat.le_refl _) _⟩))
  obtain ⟨L0, hL0⟩ : ∃ L, l12_1 = L := ⟨_, rfl⟩
  have N0 : L0.length < 100000 := by rw [← hL0]; exact of_decide_eq_true (by kernel_rfl)
  rw [hL0] at T0
  obtain ⟨L1, hL1⟩ : ∃ L, l12_2 = L := ⟨_, rfl⟩
  have N1 : L1.length < 100000 := by rw [← hL1]; exact of_decide_eq_true (by kernel_rfl)
  rw [hL1] at T1
  obtain ⟨L2, hL2⟩ : ∃ L, l12_3 = L := ⟨_, rfl⟩
  have N2 : L2.length < 100000 := by rw [← hL2]; exact of_decide_eq_true (by kernel_rfl)
  rw [hL2] at T2
  simp only [hL0, hL1, hL2]
  clear hL0 hL1 hL2
  obtain ⟨n0, hn0⟩ : ∃ n, L0.length = n := ⟨_, rfl⟩
  rw [hn0] at T0 N0
  obtain ⟨n1, hn1⟩ : ∃ n, L1.length = n := ⟨_, rfl⟩
  rw [hn1] at T1 N1
  obtain ⟨n2, hn2⟩ : ∃ n, L2.length = n := ⟨_, rfl⟩
  rw [hn2] at T2 N2
  obtain ⟨ans, hans⟩ : ∃ ans, docF [L0, L1, L2] 1 r 0 = ans := ⟨_, rfl⟩
  rw [hans]
  have HANS := hide hans
  clear hans
  go_enter Tryz.func152, Tryz.ntmps152
  go_wp2_with fail
  refine (T0.out _).mono ?_
  rintro e w1 ⟨g0, rfl, B0, b0⟩
  go_wp2_with fail
  refine (T1.out _).mono ?_
  rintro e w2 ⟨g1, rfl, B1, b1⟩
  go_wp2_with fail
  refine (T2.out _).mono ?_
  rintro e w3 ⟨g2, rfl, B2, b2⟩
  go_wp2
  have C0 := (((B0).same b1).same b2).alloc (.cells #[.slice (some ⟨g0, 0, none⟩) n0 n0, .slice (some ⟨g1, 0, none⟩) n1 n1, .slice (some ⟨g2, 0, none⟩) n2 n2] 219)
  have C1 := ((B1).same b2).alloc (.cells #[.slice (some ⟨g0, 0, none⟩) n0 n0, .slice (some ⟨g1, 0, none⟩) n1 n1, .slice (some ⟨g2, 0, none⟩) n2 n2] 219)
  have C2 := (B2).alloc (.cells #[.slice (some ⟨g0, 0, none⟩) n0 n0, .slice (some ⟨g1, 0, none⟩) n1 n1, .slice (some ⟨g2, 0, none⟩) n2 n2] 219)
  have z0 := b0.size
  have z1 := b1.size
  have z2 := b2.size
  have hb0 := (((b0).trans (b1.mono (by omega))).trans (b2.mono (by omega))).alloc (by omega) (.cells #[.slice (some ⟨g0, 0, none⟩) n0 n0, .slice (some ⟨g1, 0, none⟩) n1 n1, .slice (some ⟨g2, 0, none⟩) n2 n2] 219)
  have S := Blk.new w3 219 #[.slice (some ⟨g0, 0, none⟩) n0 n0, .slice (some ⟨g1, 0, none⟩) n1 n1, .slice (some ⟨g2, 0, none⟩) n2 n2]
  obtain ⟨W, hW⟩ : ∃ W, w3.alloc (.cells #[.slice (some ⟨g0, 0, none⟩) n0 n0, .slice (some ⟨g1, 0, none⟩) n1 n1, .slice (some ⟨g2, 0, none⟩) n2 n2] 219) = W := ⟨_, rfl⟩
  obtain ⟨gs, hgs⟩ : ∃ gs, w3.heap.size = gs := ⟨_, rfl⟩
  rw [hW] at C0 C1 C2 hb0 S
  rw [hgs] at S
  have s0 := S.cell 0
  have s1 := S.cell 1
  have s2 := S.cell 2
  simp only [zA, zB, zC] at s0 s1 s2
  have I0 := hide (rIn_ok g0 n0 L0 r h0 h1 hn0 N0 W C0)
  have I1 := hide (rIn_ok g1 n1 L1 r h0 h1 hn1 N1 W C1)
  have I2 := hide (rIn_ok g2 n2 L2 r h0 h1 hn2 N2 W C2)
  have HB0 := hide hb0
  clear hb0 S C0 B0 b0 z0 T0 hn0 N0 C1 B1 b1 z1 T1 hn1 N1 C2 B2 b2 z2 T2 hn2 N2
  try rw [hW]
  try rw [hgs]
  have hans := HANS.out
  go_loopw [4] (fun i wr => ∃ k : Nat, k ≤ 3 ∧ i = .int .i64 k ∧ docF ([L0, L1, L2].drop k) (1 + k) r 0 = ans ∧ W = wr) (fun i _ => 3 - (intOf i).toNat)
  case atStart => exact ⟨0, by omega, rfl, hans, rfl⟩
  case round =>
    clear hans
    obtain ⟨k, hk, rfl, hto, rfl⟩ := hrel
    rcases (by omega : k = 0 ∨ k = 1 ∨ k = 2 ∨ k = 3) with rfl | rfl | rfl | rfl
    · have HTO := hide hto
      clear hto
      cases hq : inF L0 r with
      | true =>
        have HA : Hid ((1 : Int) = ans) := hide (by rw [← HTO.out]; show _ = (if inF L0 r = true then _ else _); rw [hq]; rfl)
        rw [hq] at I0
        clear hq
        go_wp2_with fail
        refine I0.out.mono ?_
        rintro e w9 ⟨rfl, rfl⟩
        go_wp2
        go_ret
        exact ⟨by rw [← HA.out]; rfl, HB0.out⟩
      | false =>
        have hnew : Hid (docF ([L0, L1, L2].drop (0 + 1)) (1 + ((0 + 1 : Nat) : Int)) r 0 = ans) := hide (by rw [← HTO.out]; show _ = (if inF L0 r = true then _ else _); rw [hq]; rfl)
        rw [hq] at I0
        clear hq
        go_wp2_with fail
        refine I0.out.mono ?_
        rintro e w9 ⟨rfl, rfl⟩
        go_wp2
        go_roundw
        case rel => exact ⟨0 + 1, by omega, by go_num, hnew.out, trivial⟩
        case measure => simp [intOf]
    · have HTO := hide hto
      clear hto
      cases hq : inF L1 r with
      | true =>
        have HA : Hid ((2 : Int) = ans) := hide (by rw [← HTO.out]; show _ = (if inF L1 r = true then _ else _); rw [hq]; rfl)
        rw [hq] at I1
        clear hq
        go_wp2_with fail
        refine I1.out.mono ?_
        rintro e w9 ⟨rfl, rfl⟩
        go_wp2
        go_ret
        exact ⟨by rw [← HA.out]; rfl, HB0.out⟩
      | false =>
        have hnew : Hid (docF ([L0, L1, L2].drop (1 + 1)) (1 + ((1 + 1 : Nat) : Int)) r 0 = ans) := hide (by rw [← HTO.out]; show _ = (if inF L1 r = true then _ else _); rw [hq]; rfl)
        rw [hq] at I1
        clear hq
        go_wp2_with fail
        refine I1.out.mono ?_
        rintro e w9 ⟨rfl, rfl⟩
        go_wp2
        go_roundw
        case rel => exact ⟨1 + 1, by omega, by go_num, hnew.out, trivial⟩
        case measure => simp [intOf]
    · have HTO := hide hto
      clear hto
      cases hq : inF L2 r with
      | true =>
        have HA : Hid ((3 : Int) = ans) := hide (by rw [← HTO.out]; show _ = (if inF L2 r = true then _ else _); rw [hq]; rfl)
        rw [hq] at I2
        clear hq
        go_wp2_with fail
        refine I2.out.mono ?_
        rintro e w9 ⟨rfl, rfl⟩
        go_wp2
        go_ret
        exact ⟨by rw [← HA.out]; rfl, HB0.out⟩
      | false =>
        have hnew : Hid (docF ([L0, L1, L2].drop (2 + 1)) (1 + ((2 + 1 : Nat) : Int)) r 0 = ans) := hide (by rw [← HTO.out]; show _ = (if inF L2 r = true then _ else _); rw [hq]; rfl)
        rw [hq] at I2
        clear hq
        go_wp2_with fail
        refine I2.out.mono ?_
        rintro e w9 ⟨rfl, rfl⟩
        go_wp2
        go_roundw
        case rel => exact ⟨2 + 1, by omega, by go_num, hnew.out, trivial⟩
        case measure => simp [intOf]
    · have HTO := hide hto
      clear hto
      go_wp2
      go_ret
      exact ⟨by rw [← HTO.out]; rfl, HB0.out⟩
theorem east_in : inT eastT doc12 = true := by kernel_rfl
theorem east_all : inL eastT doc12 1 = true := by kernel_rfl
theorem eas_doc (r : Int) : docF doc12 1 r 0 = easF r := by unfold easF; rw [at_span _ _ _ east_sort]; exact doc_span east_sort east_in east_all r _
theorem rOf9_ok (r : Int) (h0 : -2147483648 ≤ r) (h1 : r ≤ 2147483647) (w : World) :
    Calls Tryz.prog 149 #[.int .i32 r] w fun e w' => e = .returned (.int .i64 (brkF r)) ∧ Below w.heap.size w w' := by
  rw [← brk_doc]; exact rOf9d_ok r h0 h1 w
theorem rOf11_ok (r : Int) (h0 : -2147483648 ≤ r) (h1 : r ≤ 2147483647) (w : World) :
    Calls Tryz.prog 151 #[.int .i32 r] w fun e w' => e = .returned (.int .i64 (conF r)) ∧ Below w.heap.size w w' := by
  rw [← con_doc]; exact rOf11d_ok r h0 h1 w
theorem rOf12_ok (r : Int) (h0 : -2147483648 ≤ r) (h1 : r ≤ 2147483647) (w : World) :
    Calls Tryz.prog 152 #[.int .i32 r] w fun e w' => e = .returned (.int .i64 (easF r)) ∧ Below w.heap.size w w' := by
  rw [← eas_doc]; exact rOf12d_ok r h0 h1 w
theorem rIs10_ok (r : Int) (h0 : -2147483648 ≤ r) (h1 : r ≤ 2147483647) (w : World) :
    Calls Tryz.prog 150 #[.int .i32 r] w fun e w' => e = .returned (.bool (picF r)) ∧ Below w.heap.size w w' := by
  have T := hide (fun w => (l10_ok w).mono (R' := fun e w' => ∃ g, e = .returned (.slice (some ⟨g, 0, none⟩) l10.length l10.length) ∧ Blk w' g 232 (tab2 .i64 l10).toArray ∧ Below w.heap.size w w') (by rintro e w' ⟨rfl, rfl⟩; exact ⟨w.heap.size, rfl, Blk.new _ _ _, (Below.refl _ w).alloc (Nat.le_refl _) _⟩))
  rw [← pic_doc]
  obtain ⟨L, hL⟩ : ∃ L, l10 = L := ⟨_, rfl⟩
  have N : L.length < 100000 := by rw [← hL]; exact of_decide_eq_true (by kernel_rfl)
  rw [hL] at T ⊢
  obtain ⟨n, hn⟩ : ∃ n, L.length = n := ⟨_, rfl⟩
  rw [hn] at T N
  have I := hide (fun g W => rIn_ok g n L r h0 h1 hn N W)
  clear hn hL
  go_enter Tryz.func150, Tryz.ntmps150
  go_wp2_with fail
  refine (T.out _).mono ?_
  rintro e w1 ⟨g, rfl, B, b⟩
  go_wp2_with fail
  refine (I.out _ _ B).mono ?_
  rintro e w2 ⟨rfl, rfl⟩
  go_wp2
  go_ret
  exact ⟨rfl, b⟩
end Go.Proofs.YtdjpdllehhecpaaGreatDoor
