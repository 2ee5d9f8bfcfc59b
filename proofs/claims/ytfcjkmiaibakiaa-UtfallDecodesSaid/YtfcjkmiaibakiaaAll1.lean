/-
  What the functions of layer 4 return for one part: how many bytes of a form stand in front, a form's scalar value, the part in front. Each function once.
-/
import Derived.Test.YtfcjkmiaibakiaaDec
import Derived.Test.YtfcjkmiaibakiaaMem2
import Derived.Test.YtfcjkmiaibakiaaUtf3
namespace Go.Proofs.Ytfcjkmiaibakiaa
open Go.RowKit
set_option linter.unusedVariables false

theorem u8_mask6 (b : Int) (hb0 : 0 ≤ b) (hb1 : b ≤ 255) : bits .and .u8 b 63 = b % 64 := by
  obtain ⟨n, rfl⟩ := Int.eq_ofNat_of_zero_le hb0
  show IntKind.u8.wrap ((BitVec.ofInt 8 (n : Int) &&& BitVec.ofInt 8 63).toNat : Int) = _
  rw [BitVec.toNat_and, BitVec.ofInt_natCast, BitVec.toNat_ofNat, Nat.mod_eq_of_lt (by omega)]
  have e : (BitVec.ofInt 8 63).toNat = 2 ^ 6 - 1 := by decide
  rw [e, Nat.and_two_pow_sub_one_eq_mod]
  simp [IntKind.wrap, IntKind.signed, IntKind.bits]
  omega

set_option maxHeartbeats 1000000 in
theorem reach_ok (So Si : Nat → Prop) (x : Value) (b0 : Int) (r : List Int) (w : World) (hx : Slc (Rep.int .u8) So Si w x (b0 :: r)) (hlen : r.length ≤ 1000000) :
    Calls Try.prog 47 #[x] w fun e w' => e = .returned (.tuple #[.int .i64 (reachK (b0 :: r) : Int), .int .i64 (leadF b0)]) ∧ w = w' := by
  have hb0 := u8_wf (hx.ints_wf b0 (by simp))
  obtain ⟨A, c, rfl, hc1, hc2, hB⟩ := hx.open_
  obtain ⟨ab, off, rfl, _, hc0, _⟩ := ints_at hB (j := 0) (by simp)
  simp only [Nat.add_zero, List.getElem_cons_zero] at hc0
  have hlen' : (b0 :: r).length = r.length + 1 := rfl
  rw [hlen'] at *
  have hl := leadF_range b0
  by_cases h2 : leadF b0 < 2
  · have hk : (reachK (b0 :: r) : Int) = leadF b0 := by simp only [reachK, if_pos h2]; omega
    have HK := hide hk
    clear hk
    go_enter Try.func47, Try.ntmps47
    go_wp2_with (first | (go_at_call 16; refine (Lead_ok _ (by omega) (by omega) _).mono ?_; rintro e w' ⟨rfl, rfl⟩))
    go_ret2
    exact ⟨ret_2 (int_eq HK.out.symm) rfl, rfl⟩
  · have hlor := lo_range b0
    have hhir := hi_range b0
    have hk : reachK (b0 :: r) = 1 + cntT (leadF b0 - 1).toNat (loF b0) (hiF b0) r := by simp only [reachK, if_neg h2]
    have HK := hide hk
    clear hk
    go_enter Try.func47, Try.ntmps47
    go_wp2_with (first | (go_at_call 16; refine (Lead_ok _ (by omega) (by omega) _).mono ?_; rintro e w' ⟨rfl, rfl⟩) | (go_at_call 14; refine (Second_ok _ (by omega) (by omega) _).mono ?_; rintro e w' ⟨rfl, rfl⟩))
    go_loop [5, 6, 7] (fun lo hi k => ∃ (j : Nat) (lo' hi' : Int), (j : Int) + 1 ≤ leadF b0 ∧ j ≤ r.length ∧ k = .int .i64 (j + 1 : Nat) ∧ lo = .int .u8 lo' ∧ hi = .int .u8 hi' ∧ (lo' = if j = 0 then loF b0 else 128) ∧ (hi' = if j = 0 then hiF b0 else 191) ∧
        cntT (leadF b0 - 1).toNat (loF b0) (hiF b0) r = j + cntT ((leadF b0 - 1).toNat - j) lo' hi' (r.drop j))
      (fun _ _ k => r.length + 1 - (intOf k).toNat)
    case atStart => exact ⟨0, _, _, by omega, by omega, rfl, rfl, rfl, by simp, by simp, by simp⟩
    case round =>
      obtain ⟨j, lo', hi', hj1, hj2, rfl, rfl, rfl, h0, h1, hall⟩ := hrel
      have HALL := hide hall
      have H0 := hide h0
      have H1 := hide h1
      have hlo' : 0 ≤ lo' ∧ lo' ≤ 255 ∧ 0 ≤ hi' ∧ hi' ≤ 255 := by rw [h0, h1]; split <;> omega
      clear hall h0 h1
      by_cases hjm : (j : Int) + 1 < leadF b0
      · by_cases hjr : j < r.length
        · have hjr' : (j : Int) + 1 < (r.length : Int) + 1 := by omega
          obtain ⟨ab', off', ha', _, hck, hwk⟩ := ints_at hB (j := j + 1) (by simp; omega)
          obtain ⟨rfl, rfl⟩ : ab = ab' ∧ off = off' := by simpa using ha'
          simp only [List.getElem_cons_succ] at hck hwk
          obtain ⟨hw0, hw1⟩ := u8_wf hwk
          obtain ⟨hs1, hs2⟩ := cntT_step _ _ _ r j hjr (by omega) lo' hi' H0.out H1.out HALL.out
          have HS1 := hide hs1
          have HS2 := hide hs2
          clear hs1 hs2
          have hcase : r[j] < lo' ∨ (lo' ≤ r[j] ∧ hi' < r[j]) ∨ (lo' ≤ r[j] ∧ r[j] ≤ hi') := by omega
          rcases hcase with hy | hy | hy
          · go_wp2
            go_ret2
            exact ⟨ret_2 (int_eq (by rw [HK.out, HS2.out (by omega)]; omega)) rfl, rfl⟩
          · go_wp2
            go_ret2
            exact ⟨ret_2 (int_eq (by rw [HK.out, HS2.out (by omega)]; omega)) rfl, rfl⟩
          · go_wp2
            go_round
            case rel => exact ⟨j + 1, 128, 191, by omega, by omega, by go_num, rfl, rfl, by simp, by simp, HS1.out hy⟩
            case measure => simp [intOf]; omega
        · have hjr' : (r.length : Int) + 1 ≤ (j : Int) + 1 := by omega
          have hdone : cntT (leadF b0 - 1).toNat (loF b0) (hiF b0) r = j := by
            rw [HALL.out, List.drop_eq_nil_of_le (by omega)]; simp [cntT]
          have HD := hide hdone
          clear hdone
          go_wp2
          go_ret2
          exact ⟨ret_2 (int_eq (by rw [HK.out, HD.out]; omega)) rfl, rfl⟩
      · have hdone : cntT (leadF b0 - 1).toNat (loF b0) (hiF b0) r = j := by
          have e : (leadF b0 - 1).toNat - j = 0 := by omega
          rw [HALL.out, e]
          cases r.drop j <;> simp [cntT]
        have HD := hide hdone
        clear hdone
        go_wp2
        go_ret2
        exact ⟨ret_2 (int_eq (by rw [HK.out, HD.out]; omega)) rfl, rfl⟩

set_option maxHeartbeats 1000000 in
theorem value_ok (So Si : Nat → Prop) (x : Value) (b0 : Int) (r : List Int) (w : World) (hx : Slc (Rep.int .u8) So Si w x (b0 :: r)) (hr : r.length ≤ 3) (hl : leadF b0 = (r.length : Int) + 1) (ht : ∀ b ∈ r, 128 ≤ b ∧ b ≤ 191) :
    Calls Try.prog 48 #[x] w fun e w' => e = .returned (.int .i32 (wholeF (b0 :: r))) ∧ w = w' := by
  have hb0 := u8_wf (hx.ints_wf b0 (by simp))
  have hbd := accF_bound b0 r hb0 hr hl ht
  have hwh : wholeF (b0 :: r) = accF (b0 :: r) r.length := by unfold wholeF; simp
  obtain ⟨A, c, rfl, hc1, hc2, hB⟩ := hx.open_
  obtain ⟨ab, off, rfl, _, hc0, _⟩ := ints_at hB (j := 0) (by simp)
  simp only [Nat.add_zero, List.getElem_cons_zero] at hc0
  have hlen' : (b0 :: r).length = r.length + 1 := rfl
  rw [hlen'] at *
  have h00 : accF (b0 :: r) 0 = bitsF b0 := rfl
  have hstep : ∀ k, accF (b0 :: r) (k + 1) = accF (b0 :: r) k * 64 + (b0 :: r).getD (k + 1) 0 - 128 := fun k => rfl
  have hget : ∀ k (hk : k < r.length), (b0 :: r).getD (k + 1) 0 = r[k] := fun k hk => by simp [List.getD, hk]
  generalize hac : accF (b0 :: r) = ac at *
  generalize hfg : (b0 :: r).getD = fg at *
  have H00 := hide h00
  have HST := hide hstep
  have HG := hide hget
  have HW := hide hwh
  clear h00 hstep hget hwh hac hfg
  by_cases hc : c = 1
  · have hr0 : r = [] := List.eq_nil_of_length_eq_zero (by simp at hc1; omega)
    have HR := hide hr0
    have hl0 : r.length = 0 := by rw [hr0]; rfl
    have hb1 := hbd 0 (by omega)
    have hb2 := bitsF_range b0 hb0
    rw [hl0] at *
    clear hr0 hl0
    subst hc
    go_enter Try.func48, Try.ntmps48
    go_wp2_with (first | (go_at_call 19; refine (Bits_ok _ (by omega) (by omega) _).mono ?_; rintro e w' ⟨rfl, rfl⟩))
    refine wp_loop_rounds 1 ?_
    rw [rounds_succ]
    go_wp2
    go_ret
    exact ⟨ret_1 (int_eq (by rw [HW.out, show r.length = 0 from by rw [HR.out]; rfl, H00.out])), rfl⟩
  · have hb6 : ∀ b : Int, 0 ≤ b → b ≤ 255 → bits .and .u8 b 63 = b % 64 := u8_mask6
    go_enter Try.func48, Try.ntmps48
    go_wp2_with (first | (go_at_call 19; refine (Bits_ok _ (by omega) (by omega) _).mono ?_; rintro e w' ⟨rfl, rfl⟩))
    go_loop [3, 13] (fun v i => ∃ k : Nat, k ≤ r.length ∧ i = .int .i64 k ∧ v = .int .i64 (ac k)) (fun _ i => r.length - (intOf i).toNat)
    case atStart => exact ⟨0, by omega, rfl, int_eq (by rw [H00.out])⟩
    case round =>
      obtain ⟨k, hk, rfl, rfl⟩ := hrel
      have hb1 := hbd k hk
      by_cases hlt : k < r.length
      · obtain ⟨ab', off', ha', _, hck, hwk⟩ := ints_at hB (j := k + 1) (by simp; omega)
        obtain ⟨rfl, rfl⟩ : ab = ab' ∧ off = off' := by simpa using ha'
        simp only [List.getElem_cons_succ] at hck hwk
        obtain ⟨hw0, hw1⟩ := u8_wf hwk
        have hm := ht r[k] (List.getElem_mem _)
        have hb2 := hbd (k + 1) (by omega)
        have hst := HST.out k
        rw [HG.out k hlt] at hst
        have HS := hide hst
        have h6 := hb6 r[k] hw0 hw1
        have hck2 : w.cell? ⟨ab, off + 1 + k, none⟩ = some (.int .u8 r[k]) := by rw [show off + 1 + k = off + (k + 1) by omega]; exact hck
        have hsm : ac k ≤ 524288 := by have := HS.out; omega
        have hor := or_low (ac k) (r[k] % 64) hb1.1 hsm (by omega) (by omega)
        clear hst hb6
        go_wp2
        go_round
        case rel => exact ⟨k + 1, by omega, by go_num, int_eq (by rw [HS.out]; omega)⟩
        case measure => simp [intOf]; omega
      · obtain rfl : k = r.length := by omega
        go_wp2
        go_ret
        exact ⟨ret_1 (int_eq (by rw [HW.out])), rfl⟩

/-- A part, as it lies in memory. -/
def gotCells (g : Got) : List Value := [.int .i32 g.r, .int .i64 g.at_, .int .i64 g.len, .int .i64 g.known, .bool g.bad]
def RGot : Rep Got := Rep.flat 5 gotCells (fun _ => rfl) (fun _ => by simp [gotCells, Value.oneCell'])
theorem RGot.flat : Flat RGot := Flat.flat _ _ _ _
end Go.Proofs.Ytfcjkmiaibakiaa
