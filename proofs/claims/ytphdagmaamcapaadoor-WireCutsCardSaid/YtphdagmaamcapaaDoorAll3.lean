/-
  Several texts of this seat as one: Oct, Dec, All1, All2, All3.
-/
import Derived.Test.YtphdagmaamcapaaDoorChecked
import Derived.Test.YtphdagmaamcapaaDoorMem
import Derived.Test.YtphdagmaamcapaaDoorUtf0
import Derived.Test.YtphdagmaamcapaaDoorR01
import Derived.Test.YtphdagmaamcapaaDoorUtf1
import Derived.Test.YtphdagmaamcapaaDoorMem2
import Derived.Test.YtphdagmaamcapaaDoorUtf3
import Derived.Test.YtphdagmaamcapaaDoorUtf4
import Derived.Test.YtphdagmaamcapaaDoorLit
namespace Go.Proofs.YtphdagmaamcapaaDoor
open Go.RowKit
set_option linter.unusedVariables false

theorem Lead_ok (b : Int) (h0 : 0 ≤ b) (h1 : b ≤ 255) (w : World) :
    Calls Tryd.prog 71 #[.int .u8 b] w fun e w' => e = .returned (.int .i64 (leadF b)) ∧ w = w' := by
  go_enter Tryd.func71, Tryd.ntmps71
  go_wp2
  all_goals go_ret
  all_goals exact ⟨ret_1 (int_eq (by unfold leadF; omega)), rfl⟩

theorem Second_ok (b : Int) (h0 : 0 ≤ b) (h1 : b ≤ 255) (w : World) :
    Calls Tryd.prog 72 #[.int .u8 b] w fun e w' => e = .returned (.tuple #[.int .u8 (loF b), .int .u8 (hiF b)]) ∧ w = w' := by
  have hl := leadF_range b
  go_enter Tryd.func72, Tryd.ntmps72
  go_wp2_with (refine (Lead_ok _ (by omega) (by omega) _).mono ?_; rintro e w' ⟨rfl, rfl⟩)
  all_goals go_ret2
  all_goals (refine ⟨ret_2 (int_eq ?_) (int_eq ?_), rfl⟩ <;> (go_tidy; (try simp only [beq_iff_eq, beq_eq_false_iff_ne, ne_eq] at *); simp only [loF, hiF]; omega))

theorem Bits_ok (b : Int) (h0 : 0 ≤ b) (h1 : b ≤ 255) (w : World) :
    Calls Tryd.prog 73 #[.int .u8 b] w fun e w' => e = .returned (.int .i64 (bitsF b)) ∧ w = w' := by
  have hl := leadF_range b
  have hL := Lead_ok b h0 h1 w
  have m2 := i64_mask b 5 h0 (by omega) (by omega) 31 (by simp)
  have m3 := i64_mask b 4 h0 (by omega) (by omega) 15 (by simp)
  have m4 := i64_mask b 3 h0 (by omega) (by omega) 7 (by simp)
  simp at m2 m3 m4
  have hc : leadF b = 0 ∨ leadF b = 1 ∨ leadF b = 2 ∨ leadF b = 3 ∨ leadF b = 4 := by omega
  rcases hc with h | h | h | h | h
  all_goals
    rw [h] at hL
    have H := hide h
    have HL := hide hL
    clear h hL hl
    go_enter Tryd.func73, Tryd.ntmps73
    go_wp2_with (refine HL.out.mono ?_; rintro e w' ⟨rfl, rfl⟩)
    go_ret
    refine ⟨ret_1 (int_eq ?_), rfl⟩
    go_tidy
    unfold bitsF
    rw [H.out]
    simp

end Go.Proofs.YtphdagmaamcapaaDoor

namespace Go.Proofs.YtphdagmaamcapaaDoor
open Go.RowKit
set_option linter.unusedVariables false

theorem or_low (a b : Int) (h0 : 0 ≤ a) (h1 : a ≤ 524288) (hb0 : 0 ≤ b) (hb1 : b ≤ 63) : bits .or .i64 (a * 64) b = a * 64 + b := by
  obtain ⟨m, rfl⟩ := Int.eq_ofNat_of_zero_le h0
  obtain ⟨n, rfl⟩ := Int.eq_ofNat_of_zero_le hb0
  have := i64_or_nat (m * 64) n (by omega) (by omega)
  have e : ((m * 64 : Nat) : Int) = (m : Int) * 64 := by simp
  rw [e] at this
  rw [this]
  have h2 : m * 64 ||| n = m * 64 + n := by
    have := Nat.two_pow_add_eq_or_of_lt (i := 6) (b := n) (by omega) m
    simp at this
    rw [Nat.mul_comm m 64, ← this]
  rw [h2]; simp

end Go.Proofs.YtphdagmaamcapaaDoor

namespace Go.Proofs.YtphdagmaamcapaaDoor
open Go.RowKit
set_option linter.unusedVariables false

theorem u8_mask6 (b : Int) (hb0 : 0 ≤ b) (hb1 : b ≤ 255) : bits .and .u8 b 63 = b % 64 := by
  obtain ⟨n, rfl⟩ := Int.eq_ofNat_of_zero_le hb0
  show IntKind.u8.wrap ((BitVec.ofInt 8 (n : Int) &&& BitVec.ofInt 8 63).toNat : Int) = _
  rw [BitVec.toNat_and, BitVec.ofInt_natCast, BitVec.toNat_ofNat, Nat.mod_eq_of_lt (by omega)]
  have e : (BitVec.ofInt 8 63).toNat = 2 ^ 6 - 1 := by decide
  rw [e, Nat.and_two_pow_sub_one_eq_mod]
  simp [IntKind.wrap, IntKind.signed, IntKind.bits]
  omega

set_option maxHeartbeats 1000000 in
theorem reach_ok (So Si : Nat → Prop) (x : Value) (b0 : Int) (r : List Int) (w : World) (hx : Slc (Rep.int .u8) So Si w x (b0 :: r)) (hlen : r.length ≤ 1000000) :
    Calls Tryd.prog 69 #[x] w fun e w' => e = .returned (.tuple #[.int .i64 (reachK (b0 :: r) : Int), .int .i64 (leadF b0)]) ∧ w = w' := by
  have hb0 := u8_wf (hx.ints_wf b0 (by simp))
  obtain ⟨A, c, rfl, hc1, hc2, hB⟩ := hx.open_
  obtain ⟨ab, off, rfl, _, hc0, _⟩ := ints_at hB (j := 0) (by simp)
  simp only [Nat.add_zero, List.getElem_cons_zero] at hc0
  have hlen' : (b0 :: r).length = r.length + 1 := rfl
  rw [hlen'] at *
  have hl := leadF_range b0
  by_cases h2 : leadF b0 < 2
  · have hk : (reachK (b0 :: r) : Int) = leadF b0 := by simp only [reachK, if_pos h2]; omega
    have HK := hide hk
    clear hk
    go_enter Tryd.func69, Tryd.ntmps69
    go_wp2_with (first | (go_at_call 71; refine (Lead_ok _ (by omega) (by omega) _).mono ?_; rintro e w' ⟨rfl, rfl⟩))
    go_ret2
    exact ⟨ret_2 (int_eq HK.out.symm) rfl, rfl⟩
  · have hlor := lo_range b0
    have hhir := hi_range b0
    have hk : reachK (b0 :: r) = 1 + cntT (leadF b0 - 1).toNat (loF b0) (hiF b0) r := by simp only [reachK, if_neg h2]
    have HK := hide hk
    clear hk
    go_enter Tryd.func69, Tryd.ntmps69
    go_wp2_with (first | (go_at_call 71; refine (Lead_ok _ (by omega) (by omega) _).mono ?_; rintro e w' ⟨rfl, rfl⟩) | (go_at_call 72; refine (Second_ok _ (by omega) (by omega) _).mono ?_; rintro e w' ⟨rfl, rfl⟩))
    go_loop [5, 6, 7] (fun lo hi k => ∃ (j : Nat) (lo' hi' : Int), (j : Int) + 1 ≤ leadF b0 ∧ j ≤ r.length ∧ k = .int .i64 (j + 1 : Nat) ∧ lo = .int .u8 lo' ∧ hi = .int .u8 hi' ∧ (lo' = if j = 0 then loF b0 else 128) ∧ (hi' = if j = 0 then hiF b0 else 191) ∧
        cntT (leadF b0 - 1).toNat (loF b0) (hiF b0) r = j + cntT ((leadF b0 - 1).toNat - j) lo' hi' (r.drop j))
      (fun _ _ k => r.length + 1 - (intOf k).toNat)
    case atStart => exact ⟨0, _, _, by omega, by omega, rfl, rfl, rfl, by simp, by simp, by simp⟩
    case round =>
      obtain ⟨j, lo', hi', hj1, hj2, rfl, rfl, rfl, h0, h1, hall⟩ := hrel
      have HALL := hide hall
      have H0 := hide h0
      have H1 := hide h1
      have hlo' : 0 ≤ lo' ∧ lo' ≤ 255 ∧ 0 ≤ hi' ∧ hi' ≤ 255 := by rw [h0, h1]; split <;> omega
      clear hall h0 h1
      by_cases hjm : (j : Int) + 1 < leadF b0
      · by_cases hjr : j < r.length
        · have hjr' : (j : Int) + 1 < (r.length : Int) + 1 := by omega
          obtain ⟨ab', off', ha', _, hck, hwk⟩ := ints_at hB (j := j + 1) (by simp; omega)
          obtain ⟨rfl, rfl⟩ : ab = ab' ∧ off = off' := by simpa using ha'
          simp only [List.getElem_cons_succ] at hck hwk
          obtain ⟨hw0, hw1⟩ := u8_wf hwk
          obtain ⟨hs1, hs2⟩ := cntT_step _ _ _ r j hjr (by omega) lo' hi' H0.out H1.out HALL.out
          have HS1 := hide hs1
          have HS2 := hide hs2
          clear hs1 hs2
          have hcase : r[j] < lo' ∨ (lo' ≤ r[j] ∧ hi' < r[j]) ∨ (lo' ≤ r[j] ∧ r[j] ≤ hi') := by omega
          rcases hcase with hy | hy | hy
          · go_wp2
            go_ret2
            exact ⟨ret_2 (int_eq (by rw [HK.out, HS2.out (by omega)]; omega)) rfl, rfl⟩
          · go_wp2
            go_ret2
            exact ⟨ret_2 (int_eq (by rw [HK.out, HS2.out (by omega)]; omega)) rfl, rfl⟩
          · go_wp2
            go_round
            case rel => exact ⟨j + 1, 128, 191, by omega, by omega, by go_num, rfl, rfl, by simp, by simp, HS1.out hy⟩
            case measure => simp [intOf]; omega
        · have hjr' : (r.length : Int) + 1 ≤ (j : Int) + 1 := by omega
          have hdone : cntT (leadF b0 - 1).toNat (loF b0) (hiF b0) r = j := by
            rw [HALL.out, List.drop_eq_nil_of_le (by omega)]; simp [cntT]
          have HD := hide hdone
          clear hdone
          go_wp2
          go_ret2
          exact ⟨ret_2 (int_eq (by rw [HK.out, HD.out]; omega)) rfl, rfl⟩
      · have hdone : cntT (leadF b0 - 1).toNat (loF b0) (hiF b0) r = j := by
          have e : (leadF b0 - 1).toNat - j = 0 := by omega
          rw [HALL.out, e]
          cases r.drop j <;> simp [cntT]
        have HD := hide hdone
        clear hdone
        go_wp2
        go_ret2
        exact ⟨ret_2 (int_eq (by rw [HK.out, HD.out]; omega)) rfl, rfl⟩

set_option maxHeartbeats 1000000 in
theorem value_ok (So Si : Nat → Prop) (x : Value) (b0 : Int) (r : List Int) (w : World) (hx : Slc (Rep.int .u8) So Si w x (b0 :: r)) (hr : r.length ≤ 3) (hl : leadF b0 = (r.length : Int) + 1) (ht : ∀ b ∈ r, 128 ≤ b ∧ b ≤ 191) :
    Calls Tryd.prog 70 #[x] w fun e w' => e = .returned (.int .i32 (wholeF (b0 :: r))) ∧ w = w' := by
  have hb0 := u8_wf (hx.ints_wf b0 (by simp))
  have hbd := accF_bound b0 r hb0 hr hl ht
  have hwh : wholeF (b0 :: r) = accF (b0 :: r) r.length := by unfold wholeF; simp
  obtain ⟨A, c, rfl, hc1, hc2, hB⟩ := hx.open_
  obtain ⟨ab, off, rfl, _, hc0, _⟩ := ints_at hB (j := 0) (by simp)
  simp only [Nat.add_zero, List.getElem_cons_zero] at hc0
  have hlen' : (b0 :: r).length = r.length + 1 := rfl
  rw [hlen'] at *
  have h00 : accF (b0 :: r) 0 = bitsF b0 := rfl
  have hstep : ∀ k, accF (b0 :: r) (k + 1) = accF (b0 :: r) k * 64 + (b0 :: r).getD (k + 1) 0 - 128 := fun k => rfl
  have hget : ∀ k (hk : k < r.length), (b0 :: r).getD (k + 1) 0 = r[k] := fun k hk => by simp [List.getD, hk]
  generalize hac : accF (b0 :: r) = ac at *
  generalize hfg : (b0 :: r).getD = fg at *
  have H00 := hide h00
  have HST := hide hstep
  have HG := hide hget
  have HW := hide hwh
  clear h00 hstep hget hwh hac hfg
  by_cases hc : c = 1
  · have hr0 : r = [] := List.eq_nil_of_length_eq_zero (by simp at hc1; omega)
    have HR := hide hr0
    have hl0 : r.length = 0 := by rw [hr0]; rfl
    have hb1 := hbd 0 (by omega)
    have hb2 := bitsF_range b0 hb0
    rw [hl0] at *
    clear hr0 hl0
    subst hc
    go_enter Tryd.func70, Tryd.ntmps70
    go_wp2_with (first | (go_at_call 73; refine (Bits_ok _ (by omega) (by omega) _).mono ?_; rintro e w' ⟨rfl, rfl⟩))
    refine wp_loop_rounds 1 ?_
    rw [rounds_succ]
    go_wp2
    go_ret
    exact ⟨ret_1 (int_eq (by rw [HW.out, show r.length = 0 from by rw [HR.out]; rfl, H00.out])), rfl⟩
  · have hb6 : ∀ b : Int, 0 ≤ b → b ≤ 255 → bits .and .u8 b 63 = b % 64 := u8_mask6
    go_enter Tryd.func70, Tryd.ntmps70
    go_wp2_with (first | (go_at_call 73; refine (Bits_ok _ (by omega) (by omega) _).mono ?_; rintro e w' ⟨rfl, rfl⟩))
    go_loop [3, 13] (fun v i => ∃ k : Nat, k ≤ r.length ∧ i = .int .i64 k ∧ v = .int .i64 (ac k)) (fun _ i => r.length - (intOf i).toNat)
    case atStart => exact ⟨0, by omega, rfl, int_eq (by rw [H00.out])⟩
    case round =>
      obtain ⟨k, hk, rfl, rfl⟩ := hrel
      have hb1 := hbd k hk
      by_cases hlt : k < r.length
      · obtain ⟨ab', off', ha', _, hck, hwk⟩ := ints_at hB (j := k + 1) (by simp; omega)
        obtain ⟨rfl, rfl⟩ : ab = ab' ∧ off = off' := by simpa using ha'
        simp only [List.getElem_cons_succ] at hck hwk
        obtain ⟨hw0, hw1⟩ := u8_wf hwk
        have hm := ht r[k] (List.getElem_mem _)
        have hb2 := hbd (k + 1) (by omega)
        have hst := HST.out k
        rw [HG.out k hlt] at hst
        have HS := hide hst
        have h6 := hb6 r[k] hw0 hw1
        have hck2 : w.cell? ⟨ab, off + 1 + k, none⟩ = some (.int .u8 r[k]) := by rw [show off + 1 + k = off + (k + 1) by omega]; exact hck
        have hsm : ac k ≤ 524288 := by have := HS.out; omega
        have hor := or_low (ac k) (r[k] % 64) hb1.1 hsm (by omega) (by omega)
        clear hst hb6
        go_wp2
        go_round
        case rel => exact ⟨k + 1, by omega, by go_num, int_eq (by rw [HS.out]; omega)⟩
        case measure => simp [intOf]; omega
      · obtain rfl : k = r.length := by omega
        go_wp2
        go_ret
        exact ⟨ret_1 (int_eq (by rw [HW.out])), rfl⟩

/-- A part, as it lies in memory. -/
def gotCells (g : Got) : List Value := [.int .i32 g.r, .int .i64 g.at_, .int .i64 g.len, .int .i64 g.known, .bool g.bad]
def RGot : Rep Got := Rep.flat 5 gotCells (fun _ => rfl) (fun _ => by simp [gotCells, Value.oneCell'])
theorem RGot.flat : Flat RGot := Flat.flat _ _ _ _
end Go.Proofs.YtphdagmaamcapaaDoor

namespace Go.Proofs.YtphdagmaamcapaaDoor
open Go.RowKit
set_option linter.unusedVariables false

set_option maxHeartbeats 1000000 in
theorem part_ok (So Si : Nat → Prop) (x : Value) (b0 : Int) (r : List Int) (pos : Int) (w : World) (hx : Slc (Rep.int .u8) So Si w x (b0 :: r)) (hlen : r.length ≤ 1000000) (hp0 : 0 ≤ pos) (hp1 : pos ≤ 1000000) :
    Calls Tryd.prog 68 #[x, .int .i64 pos] w fun e w' => e = .returned (.agg (gotCells (partF (b0 :: r) pos)).toArray) ∧ Below w.heap.size w w' := by
  have hrc := reach_le b0 r
  have hb0 := u8_wf (hx.ints_wf b0 (by simp))
  have hwhole := reach_whole b0 r
  obtain ⟨A, c, rfl, hc1, hc2, hB⟩ := hx.open_
  have hlen' : (b0 :: r).length = r.length + 1 := rfl
  rw [hlen'] at *
  have hxa := hx.ints_keep (Keep.alloc So w (.cells #[.int .i32 0, .int .i64 0, .int .i64 0, .int .i64 0, .bool false] 114))
  have hR := reach_ok _ _ _ b0 r _ hxa hlen
  have HR := hide hR
  have HW := hide hwhole
  clear hR hwhole hlen'
  by_cases h0 : reachK (b0 :: r) = 0
  · have hp : partF (b0 :: r) pos = ⟨65533, pos, 1, pos + 1, true⟩ := by unfold partF; rw [if_pos h0]
    have HP := hide hp
    have n0 : ((reachK (b0 :: r) : Int) == 0) = true := by simp [h0]
    clear hp h0
    go_enter Tryd.func68, Tryd.ntmps68
    go_wp2_with (go_at_call 69; refine HR.out.mono ?_; rintro e w' ⟨rfl, rfl⟩)
    refine bodyPost_ret (v := .agg #[.int .i32 65533, .int .i64 pos, .int .i64 1, .int .i64 (pos + 1), .bool true]) (by simp [results, Tryd.results68, go_sem]) rfl ⟨?_, (Below.refl _ _).alloc (Nat.le_refl _) _⟩
    rw [HP.out]; rfl
  · have n0 : ((reachK (b0 :: r) : Int) == 0) = false := by simpa using h0
    by_cases h1 : (reachK (b0 :: r) : Int) < leadF b0
    · have hp : partF (b0 :: r) pos = ⟨65533, pos, reachK (b0 :: r), pos + min ((reachK (b0 :: r) : Int) + 1) ((r.length : Int) + 1), true⟩ := by
        unfold partF; rw [if_neg h0, if_pos (by simpa using h1)]; simp
      have HP := hide hp
      generalize hkk : reachK (b0 :: r) = k at *
      clear hp h0 hkk
      by_cases hmn : k ≤ r.length
      · have hmin : min ((k : Int) + 1) ((r.length : Int) + 1) = k + 1 := by omega
        have HM := hide hmin
        have hm2 : (k : Int) ≤ r.length := by omega
        clear hmin
        go_enter Tryd.func68, Tryd.ntmps68
        go_wp2_with (go_at_call 69; refine HR.out.mono ?_; rintro e w' ⟨rfl, rfl⟩)
        refine bodyPost_ret (v := .agg #[.int .i32 65533, .int .i64 pos, .int .i64 k, .int .i64 (pos + ((k : Int) + 1)), .bool true]) (by simp [results, Tryd.results68, go_sem]) rfl ⟨?_, (Below.refl _ _).alloc (Nat.le_refl _) _⟩
        rw [HP.out, HM.out]; rfl
      · have hmin : min ((k : Int) + 1) ((r.length : Int) + 1) = (r.length : Int) + 1 := by omega
        have HM := hide hmin
        have hm2 : (r.length : Int) < k := by omega
        clear hmin
        go_enter Tryd.func68, Tryd.ntmps68
        go_wp2_with (go_at_call 69; refine HR.out.mono ?_; rintro e w' ⟨rfl, rfl⟩)
        refine bodyPost_ret (v := .agg #[.int .i32 65533, .int .i64 pos, .int .i64 k, .int .i64 (pos + ((r.length : Int) + 1)), .bool true]) (by simp [results, Tryd.results68, go_sem]) rfl ⟨?_, (Below.refl _ _).alloc (Nat.le_refl _) _⟩
        rw [HP.out, HM.out]; rfl
    · have hp : partF (b0 :: r) pos = ⟨wholeF ((b0 :: r).take (reachK (b0 :: r))), pos, reachK (b0 :: r), pos + reachK (b0 :: r), false⟩ := by
        unfold partF; rw [if_neg h0, if_neg (by simpa using h1)]
      obtain ⟨t, ht1, ht2, ht3, ht4, ht5, ht6⟩ := HW.out h0 h1
      rw [ht1] at hp
      have HP := hide hp
      have hxf := hxa.front (k := reachK (b0 :: r)) (by rw [List.length_cons]; omega)
      rw [ht1] at hxf
      have hV := value_ok _ _ _ b0 t _ hxf ht3 ht2.symm ht4
      have hac := accF_bound b0 t hb0 ht3 ht2.symm ht4 t.length (Nat.le_refl _)
      have HV := hide hV
      generalize hkk : reachK (b0 :: r) = k at *
      clear hp h0 hkk hV ht1 ht2 ht3 ht4 ht5 ht6 hxf hac
      have h1' : leadF b0 ≤ (k : Int) := by omega
      have hkc : (k : Int) ≤ c := by simp at hc1; omega
      clear h1
      go_enter Tryd.func68, Tryd.ntmps68
      go_wp2_with (first | (go_at_call 69; refine HR.out.mono ?_; rintro e w' ⟨rfl, rfl⟩) | (go_at_call 70; refine HV.out.mono ?_; rintro e w' ⟨rfl, rfl⟩))
      refine bodyPost_ret (v := .agg #[.int .i32 (wholeF (b0 :: t)), .int .i64 pos, .int .i64 k, .int .i64 (pos + k), .bool false]) (by simp [results, Tryd.results68, go_sem]) rfl ⟨?_, (Below.refl _ _).alloc (Nat.le_refl _) _⟩
      rw [HP.out]; rfl

/-- The same, cell by cell. -/
theorem part_at (So Si : Nat → Prop) (x : Value) (b0 : Int) (r : List Int) (pos : Int) (w : World) (hx : Slc (Rep.int .u8) So Si w x (b0 :: r)) (hlen : r.length ≤ 1000000) (hp0 : 0 ≤ pos) (hp1 : pos ≤ 1000000) (g : Got) (hg : partF (b0 :: r) pos = g) :
    Calls Tryd.prog 68 #[x, .int .i64 pos] w fun e w' => e = .returned (.agg #[.int .i32 g.r, .int .i64 g.at_, .int .i64 g.len, .int .i64 g.known, .bool g.bad]) ∧ Below w.heap.size w w' := by
  subst hg
  exact part_ok So Si x b0 r pos w hx hlen hp0 hp1

theorem got_info : (Tryd.prog.info? 114).map (fun i => (i.zero, i.size, i.bytes)) = some (some (.agg #[.int .i32 0, .int .i64 0, .int .i64 0, .int .i64 0, .bool false]), RGot.sz, 40) := by kernel_rfl

theorem drop_cons {l : List Int} {k : Nat} (h : k < l.length) : ∃ b0 r, l.drop k = b0 :: r ∧ r.length + 1 = l.length - k :=
  ⟨l[k], l.drop (k + 1), List.drop_eq_getElem_cons h, by simp; omega⟩

theorem all_len : ∀ (n : Nat) (b : List Int) (pos : Int), (allN n b pos).length ≤ n
  | 0, _, _ => by simp [allN]
  | n + 1, b, pos => by
    simp only [allN]
    split
    · simp
    · simp; exact all_len n _ _

set_option maxHeartbeats 1000000 in
theorem All_ok (So Si : Nat → Prop) (x : Value) (l : List Int) (w : World) (hx : Slc (Rep.int .u8) So Si w x l) (hlen : l.length ≤ 1000000) :
    Calls Tryd.prog 66 #[x] w fun e w' => ∃ v, e = .returned v ∧ Own RGot 114 [] w.heap.size w' v (allF l) ∧ Below w.heap.size w w' := by
  obtain ⟨A, c, rfl, hc1, hc2, _⟩ := hx.open_
  go_enter Tryd.func66, Tryd.ntmps66
  go_wp2
  go_loopw [3, 4] (fun out i wr => ∃ (k : Nat) (done : List Got), k ≤ l.length ∧ i = .int .i64 k ∧ done.length ≤ k ∧ allF l = done ++ allN (l.drop k).length (l.drop k) k ∧ Own RGot 114 [] w.heap.size wr out done ∧ Below w.heap.size w wr)
    (fun _ i _ => l.length - (intOf i).toNat)
  case atStart => exact ⟨0, [], Nat.zero_le _, rfl, by simp, by simp [allF], Own.nil_ _ _ _ _ _ (by simp), Below.refl _ _⟩
  case round =>
    obtain ⟨k, done, hk, rfl, hdl, hall, hown, hbel⟩ := hrel
    have hsz := hbel.size
    have HALL := hide hall
    clear hall
    by_cases hlt : k < l.length
    · obtain ⟨b0, r, hdr, hrl⟩ := drop_cons hlt
      have hxk := (hx.ints_keep (Keep.below (S := So) hbel)).cut (k := k) (by omega)
      rw [hdr] at hxk
      have hrl2 : ((l.length - k : Nat) : Int) = (r.length : Int) + 1 := by omega
      have hck : ¬ c = k := by omega
      have hpl := partLen_le b0 r
      have hpp := partLen_pos (b0 :: r)
      have hpq := part_len (b0 :: r) k
      have hac := all_cons b0 r k
      have HAC := hide hac
      have HDR := hide hdr
      have hdd : (l.drop k).drop (partLen (b0 :: r)) = l.drop (k + partLen (b0 :: r)) := by rw [List.drop_drop]
      rw [hdr] at hdd
      have HDD := hide hdd
      rw [if_neg hck, show k * (Rep.int .u8).sz = k from Nat.mul_one k] at hxk
      clear hac hdr hdd
      go_wp2_with fail
      obtain ⟨g, hpg⟩ : ∃ g, partF (b0 :: r) ↑k = g := ⟨_, rfl⟩
      rw [hpg] at hpq
      refine (part_at _ _ _ b0 r _ _ hxk (by omega) (by omega) (by omega) g hpg).mono ?_
      rintro e w1 ⟨rfl, hb1⟩
      have hown1 := hown.below hb1
      have hsz1 := hb1.size
      have hgl := hpq.1
      have hga := hpq.2
      have hown2 := (hown1.alloc (.cells #[.int .i32 g.r, .int .i64 g.at_, .int .i64 g.len, .int .i64 g.known, .bool g.bad] 114)).alloc (.cells #[.int .i32 g.r, .int .i64 g.at_, .int .i64 g.len, .int .i64 g.known, .bool g.bad] 114)
      have hone : Slc RGot (fun _ => True) (fun _ => False) ((w1.alloc (.cells #[.int .i32 g.r, .int .i64 g.at_, .int .i64 g.len, .int .i64 g.known, .bool g.bad] 114)).alloc (.cells #[.int .i32 g.r, .int .i64 g.at_, .int .i64 g.len, .int .i64 g.known, .bool g.bad] 114)) (.slice (some ⟨w1.heap.size + 1, 0, none⟩) 1 1) [g] :=
        Slc.one_flat 114 (w1.alloc (.cells #[.int .i32 g.r, .int .i64 g.at_, .int .i64 g.len, .int .i64 g.known, .bool g.bad] 114)) (w1.heap.size + 1) (by simp) g _ rfl
      have hbl : 1 ≤ g.len ∧ g.len ≤ 4 := by omega
      have HGL := hide hgl
      have HPG := hide hpg
      clear hgl hpq hga hpg
      have hb3 : Blk ((w1.alloc (.cells #[.int .i32 g.r, .int .i64 g.at_, .int .i64 g.len, .int .i64 g.known, .bool g.bad] 114)).alloc (.cells #[.int .i32 g.r, .int .i64 g.at_, .int .i64 g.len, .int .i64 g.known, .bool g.bad] 114)) w1.heap.size 114 #[.int .i32 g.r, .int .i64 g.at_, .int .i64 g.len, .int .i64 g.known, .bool g.bad] := (Blk.new w1 _ _).alloc _
      have hne : ∀ q, u3.ownBlock = some q → q < w1.heap.size := fun q hq => by have := (hown.lt_ q hq).2; omega
      have HNE := hide hne
      clear hne
      go_wp2_with (at_builtin; refine wpList_appf rfl (.tmp 15) (.tmp 17) 111 rfl RGot RGot.flat 114 w.heap.size 40 _ Tryd.underlying111 got_info rfl (by decide) (by decide) _ _ rfl hown2 _ _ _ _ rfl hone (by simp; omega) (by simp; omega) ?_; intro v3 w3 hv3 hst3 hgr3; have hc3 := (hb3.grown hgr3 (fun e => by have := HNE.out _ e.symm; omega)).cell 2; simp only [List.getElem?_toArray, List.getElem?_cons_succ, List.getElem?_cons_zero] at hc3)
      go_roundw
      case rel =>
        have hst : Step w.heap.size [114] w1 w3 := ((Step.alloc1 _ _ w1 _).alloc _).trans hst3
        refine ⟨k + partLen (b0 :: r), done ++ [g], by omega, int_eq (by rw [HGL.out]; simp), by simp; omega, ?_, hv3, (hbel.trans (hb1.mono hsz)).trans ((hst.below (by omega)))⟩
        have h1 := HALL.out
        rw [HDR.out, HAC.out, HPG.out, HDD.out] at h1
        rw [h1]
        simp
      case measure => simp [intOf]; omega
    · have e : l.drop k = [] := List.drop_eq_nil_of_le (by omega)
      have hres : allF l = done := by rw [HALL.out, e]; simp [allN]
      have HRES := hide hres
      clear e hres
      go_wp2
      go_ret
      rw [HRES.out]
      exact ⟨_, rfl, hown, hbel⟩
end Go.Proofs.YtphdagmaamcapaaDoor

namespace Go.Proofs.YtphdagmaamcapaaDoor
open Go.RowKit
set_option linter.unusedVariables false

/-- A part in a row of parts, cell by cell. -/
theorem got_at {So Si : Nat → Prop} {w : World} {A : Option Addr} {l : List Got} (h : SlB RGot So Si w A l) {k : Nat} (hk : k < l.length) :
    ∃ b off, A = some ⟨b, off, none⟩ ∧ So b ∧ w.cell? ⟨b, off + k * 5, none⟩ = some (.int .i32 l[k].r) ∧ w.cell? ⟨b, off + k * 5 + 1, none⟩ = some (.int .i64 l[k].at_) ∧ w.cell? ⟨b, off + k * 5 + 2, none⟩ = some (.int .i64 l[k].len) ∧
      w.cell? ⟨b, off + k * 5 + 3, none⟩ = some (.int .i64 l[k].known) ∧ w.cell? ⟨b, off + k * 5 + 4, none⟩ = some (.bool l[k].bad) := by
  obtain ⟨b, off, u, rfl, hs, hu, hc⟩ := h.at_ (k := k) (x := l[k]) (List.getElem?_eq_getElem hk) (by decide)
  have hu' : u = gotCells l[k] := hu
  subst hu'
  have h0 := hc 0 (by decide)
  have h1 := hc 1 (by decide)
  have h2 := hc 2 (by decide)
  have h3 := hc 3 (by decide)
  have h4 := hc 4 (by decide)
  have e : RGot.sz = 5 := rfl
  rw [e] at h0 h1 h2 h3 h4
  simp only [← Nat.add_assoc, Nat.add_zero] at h0 h1 h2 h3 h4
  exact ⟨b, off, rfl, hs, h0, h1, h2, h3, h4⟩

theorem part_r (b0 : Int) (r : List Int) (pos : Int) (hb : 0 ≤ b0 ∧ b0 ≤ 255) : 0 ≤ (partF (b0 :: r) pos).r ∧ (partF (b0 :: r) pos).r ≤ 2097151 := by
  unfold partF
  by_cases h0 : reachK (b0 :: r) = 0
  · rw [if_pos h0]; simp
  · rw [if_neg h0]
    by_cases h1 : (reachK (b0 :: r) : Int) < leadF b0
    · rw [if_pos (by simpa using h1)]; simp
    · rw [if_neg (by simpa using h1)]
      obtain ⟨t, ht1, ht2, ht3, ht4, ht5, ht6⟩ := reach_whole b0 r h0 h1
      simp only [ht1]
      have := accF_bound b0 t hb ht3 ht2.symm ht4 t.length (Nat.le_refl _)
      have hwh : wholeF (b0 :: t) = accF (b0 :: t) t.length := by unfold wholeF; simp
      rw [hwh]; exact this
theorem all_r : ∀ (n : Nat) (b : List Int) (pos : Int), Bytes b → ∀ g ∈ allN n b pos, 0 ≤ g.r ∧ g.r ≤ 2097151
  | 0, _, _, _, g, hg => by simp [allN] at hg
  | n + 1, b, pos, hb, g, hg => by
    simp only [allN] at hg
    cases b with
    | nil => simp at hg
    | cons b0 r =>
      rw [if_neg (by simp)] at hg
      rcases List.mem_cons.1 hg with rfl | hg
      · exact part_r b0 r pos (hb b0 (by simp))
      · exact all_r n _ _ (fun m hm => hb m (List.mem_of_mem_drop hm)) g hg

set_option maxHeartbeats 1000000 in
theorem Runes_ok (So Si : Nat → Prop) (x : Value) (l : List Int) (w : World) (hx : Slc (Rep.int .u8) So Si w x l) (hlen : l.length ≤ 1000000) :
    Calls Tryd.prog 61 #[x] w fun e w' => ∃ v, e = .returned v ∧ Own (Rep.int .i32) 21 [] w.heap.size w' v ((allF l).map Got.r) ∧ Below w.heap.size w w' := by
  have hall := All_ok So Si x l w hx hlen
  have hlr := all_len l.length l 0
  have hlr2 : (allF l).length ≤ l.length := hlr
  have hrr : ∀ g ∈ allF l, 0 ≤ g.r ∧ g.r ≤ 2097151 := all_r _ _ _ (fun n hn => u8_wf (hx.ints_wf n hn))
  generalize hg : allF l = gs at *
  have HALL := hide hall
  clear hg hall hlr
  go_enter Tryd.func61, Tryd.ntmps61
  go_wp2_with fail
  refine HALL.out.mono ?_
  rintro e w1 ⟨v1, rfl, hv1, hb1⟩
  have hsz1 := hb1.size
  obtain ⟨A1, c1, rfl, hd1, hd2, hB1⟩ := (hv1.fslc RGot.flat).open_
  go_wp2
  go_loopw [3, 9] (fun out i wr => ∃ k : Nat, k ≤ gs.length ∧ i = .int .i64 k ∧ Own (Rep.int .i32) 21 [] w.heap.size wr out ((gs.take k).map Got.r) ∧ Step w.heap.size [21] w1 wr) (fun _ i _ => gs.length - (intOf i).toNat)
  case atStart => exact ⟨0, Nat.zero_le _, rfl, Own.nil_ _ _ _ _ _ (by simp), Step.refl _ _ _⟩
  case round =>
    obtain ⟨k, hk, rfl, hown, hst⟩ := hrel
    have hsz := hst.size
    by_cases hlt : k < gs.length
    · have hBk := hB1.flat_keep RGot.flat (So' := fun _ => True) (Si' := fun _ => False) (w' := wr) (by
        intro p u hs hc
        have h2 := Keep.fresh hst (T := [114]) (b0 := w.heap.size) (by decide) p u hs.2 hc
        exact ⟨trivial, h2.2⟩)
      obtain ⟨gb, go, rfl, _, q0, q1, q2, q3, q4⟩ := got_at hBk hlt
      have hgr := hrr gs[k] (List.getElem_mem _)
      have hsn : (gs.take (k + 1)).map Got.r = (gs.take k).map Got.r ++ [gs[k].r] := by rw [take_snoc' gs k hlt, List.map_append]; rfl
      generalize hgk : gs[k] = g at *
      have HSN := hide hsn
      clear hsn hgk
      have hown2 := (hown.alloc (.cells #[.int .i32 g.r, .int .i64 g.at_, .int .i64 g.len, .int .i64 g.known, .bool g.bad] 114)).alloc (.cells #[.int .i32 g.r] 21)
      have hone := own_i32 (wr.alloc (.cells #[.int .i32 g.r, .int .i64 g.at_, .int .i64 g.len, .int .i64 g.known, .bool g.bad] 114)) [g.r] (by intro n hn; simp at hn; subst hn; exact wf_i32 (by omega) (by omega)) (wr.heap.size + 1) (wr.heap.size + 1) 1 (Nat.le_refl _) (by simp) rfl (by simp [maxLen])
      have hlt2 : ((gs.take k).map Got.r).length ≤ k := by simp; omega
      go_wp2_with (at_builtin; refine wpList_appi rfl (.tmp 13) (.tmp 16) 60 rfl .i32 21 w.heap.size 4 Tryd.underlying60 i32_info (by decide) _ _ rfl hown2 _ _ _ _ rfl hone.islc (by simp; omega) (by simp; omega) ?_; intro v3 w3 hv3 hst3)
      go_roundw
      case rel => exact ⟨k + 1, by omega, by go_num, by rw [HSN.out]; exact hv3, ((hst.alloc _).alloc _).trans hst3⟩
      case measure => simp [intOf]; omega
    · have e : gs.take k = gs := List.take_of_length_le (by omega)
      rw [e] at hown
      go_wp2
      go_ret
      exact ⟨_, rfl, hown, hb1.trans (hst.below hsz1)⟩

set_option maxHeartbeats 1000000 in
theorem Valid_ok (So Si : Nat → Prop) (x : Value) (l : List Int) (w : World) (hx : Slc (Rep.int .u8) So Si w x l) (hlen : l.length ≤ 1000000) :
    Calls Tryd.prog 60 #[x] w fun e w' => e = .returned (.bool (!(allF l).any Got.bad)) ∧ Below w.heap.size w w' := by
  have hall := All_ok So Si x l w hx hlen
  have hlr2 : (allF l).length ≤ l.length := all_len l.length l 0
  generalize hg : allF l = gs at *
  have HALL := hide hall
  clear hg hall
  go_enter Tryd.func60, Tryd.ntmps60
  go_wp2_with fail
  refine HALL.out.mono ?_
  rintro e w1 ⟨v1, rfl, hv1, hb1⟩
  have hsz1 := hb1.size
  obtain ⟨A1, c1, rfl, hd1, hd2, hB1⟩ := (hv1.fslc RGot.flat).open_
  go_wp2
  go_loopw [8] (fun i wr => ∃ k : Nat, k ≤ gs.length ∧ i = .int .i64 k ∧ (gs.take k).any Got.bad = false ∧ Below w1.heap.size w1 wr) (fun i _ => gs.length - (intOf i).toNat)
  case atStart => exact ⟨0, Nat.zero_le _, rfl, rfl, Below.refl _ _⟩
  case round =>
    obtain ⟨k, hk, rfl, hno, hst⟩ := hrel
    have hsz := hst.size
    have HNO := hide hno
    clear hno
    by_cases hlt : k < gs.length
    · have hBk := hB1.flat_keep RGot.flat (Si' := fun _ => False) (Keep.below hst)
      obtain ⟨gb, go, rfl, _, q0, q1, q2, q3, q4⟩ := got_at hBk hlt
      have hsn : (gs.take (k + 1)).any Got.bad = ((gs.take k).any Got.bad || gs[k].bad) := by rw [take_snoc' gs k hlt, List.any_append]; simp
      have hin : gs[k].bad = true → gs.any Got.bad = true := fun h => List.any_eq_true.2 ⟨gs[k], List.getElem_mem _, h⟩
      generalize hgk : gs[k] = g at *
      have HSN := hide hsn
      have HIN := hide hin
      clear hsn hgk hin
      by_cases hbd : g.bad = true
      · have hany := HIN.out hbd
        have HANY := hide hany
        clear hany
        go_wp2
        go_ret
        exact ⟨ret_1 (by rw [HANY.out]; rfl), hb1.trans ((hst.mono hsz1).alloc (by omega) _)⟩
      · have hbd' : g.bad = false := by simpa using hbd
        go_wp2
        go_roundw
        case rel => exact ⟨k + 1, by omega, by go_num, by rw [HSN.out, HNO.out, hbd']; rfl, hst.alloc (by omega) _⟩
        case measure => simp [intOf]; omega
    · have e : gs.any Got.bad = false := by have := HNO.out; rwa [List.take_of_length_le (by omega)] at this
      have HE := hide e
      clear e
      go_wp2
      go_ret
      exact ⟨ret_1 (by rw [HE.out]; rfl), hb1.trans (hst.mono hsz1)⟩

theorem getLast_at {l : List Got} (h : 0 < l.length) : l.getLast? = some (l[l.length - 1]'(by omega)) := by
  rw [List.getLast?_eq_getElem?, List.getElem?_eq_getElem (by omega)]

end Go.Proofs.YtphdagmaamcapaaDoor
