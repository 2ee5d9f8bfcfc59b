/-
  What the functions of the reference of layer 3 return (beginnings of forms, a decoder by definition), and the comparison of two lists of numbers: each function once.
-/
import Derived.Test.YtfcjkmiaibakiaaSome1
import Derived.Test.YtfcjkmiaibakiaaSome2
import Derived.Test.YtfcjkmiaibakiaaSome3
import Derived.Test.YtfcjkmiaibakiaaSome4
namespace Go.Proofs.Ytfcjkmiaibakiaa
open Go.RowKit
set_option linter.unusedVariables false

theorem some_ok (So Si : Nat → Prop) (x : Value) (b0 : Int) (r : List Int) (m : Int) (n : Nat) (w : World) (hx : Slc (Rep.int .u8) So Si w x (b0 :: r)) (hm : m = n) (h1 : 1 ≤ n) (h4 : n ≤ 4) (hr : r.length + 1 ≤ n) :
    Calls Try.prog 49 #[x, .int .i64 m] w fun e w' => e = .returned (.bool (someB b0 r n)) ∧ Below w.heap.size w w' := by
  subst hm
  have hn : n = 1 ∨ n = 2 ∨ n = 3 ∨ n = 4 := by omega
  rcases hn with rfl | rfl | rfl | rfl
  · exact some_ok1 So Si x b0 r w hx (by omega)
  · exact some_ok2 So Si x b0 r w hx (by omega)
  · exact some_ok3 So Si x b0 r w hx (by omega)
  · exact some_ok4 So Si x b0 r w hx (by omega)

set_option maxHeartbeats 400000 in
theorem Begins_ok (So Si : Nat → Prop) (x : Value) (b0 : Int) (r : List Int) (w : World) (hx : Slc (Rep.int .u8) So Si w x (b0 :: r)) :
    Calls Try.prog 44 #[x] w fun e w' => e = .returned (.int .i64 (beginsF (b0 :: r))) ∧ Below w.heap.size w w' := by
  have hb0 := u8_wf (hx.ints_wf b0 (by simp))
  have hbeg := begins_some b0 r hb0.1
  have HBEG := hide hbeg
  obtain ⟨A, c, rfl, hc1, hc2, _⟩ := hx.open_
  have hlen : (b0 :: r).length = r.length + 1 := rfl
  rw [hlen] at *
  have HX := hide hx
  clear hbeg hx hlen
  go_enter Try.func44, Try.ntmps44
  go_wp2
  go_loopw [3] (fun n wr => ∃ k : Nat, k ≤ 4 ∧ n = .int .i64 (k + 1 : Nat) ∧ (∀ j, 1 ≤ j → j ≤ k → ¬ (r.length + 1 ≤ j ∧ someB b0 r j = true)) ∧ Below w.heap.size w wr) (fun n _ => 5 - (intOf n).toNat)
  case atStart => exact ⟨0, by omega, rfl, fun j h1 h2 => absurd h1 (by omega), Below.refl _ _⟩
  case round =>
    obtain ⟨k, hk, rfl, hpre, hbel⟩ := hrel
    have HP := hide hpre
    clear hpre
    by_cases hlt : k < 4
    · by_cases hle : r.length + 1 ≤ k + 1
      · have hle' : ((r.length : Int) + 1) ≤ (k : Int) + 1 := by omega
        have hx' := HX.out.ints_keep (Keep.below hbel)
        by_cases hs : someB b0 r (k + 1) = true
        · have hcall := fun m hm => some_ok _ _ _ b0 r m (k + 1) wr hx' hm (by omega) (by omega) hle
          rw [hs] at hcall
          have HCALL := hide hcall
          have hres : beginsF (b0 :: r) = (k : Int) + 1 := by
            have h1 := HP.out 1
            have h2 := HP.out 2
            have h3 := HP.out 3
            rw [HBEG.out]
            have hkk : k = 0 ∨ k = 1 ∨ k = 2 ∨ k = 3 := by omega
            rcases hkk with rfl | rfl | rfl | rfl
            · rw [if_pos ⟨by omega, hs⟩]; rfl
            · rw [if_neg (h1 (by omega) (by omega)), if_pos ⟨by omega, hs⟩]; rfl
            · rw [if_neg (h1 (by omega) (by omega)), if_neg (h2 (by omega) (by omega)), if_pos ⟨by omega, hs⟩]; rfl
            · rw [if_neg (h1 (by omega) (by omega)), if_neg (h2 (by omega) (by omega)), if_neg (h3 (by omega) (by omega)), if_pos ⟨by omega, hs⟩]; rfl
          have HRES := hide hres
          clear hcall hs hres hx'
          go_wp2_with (go_at_call 49; refine (HCALL.out _ (by omega)).mono ?_; rintro e w1 ⟨rfl, hb1⟩)
          go_ret
          exact ⟨ret_1 (int_eq HRES.out.symm), hbel.trans (hb1.mono hbel.size)⟩
        · have hs' : someB b0 r (k + 1) = false := by simpa using hs
          have hcall := fun m hm => some_ok _ _ _ b0 r m (k + 1) wr hx' hm (by omega) (by omega) hle
          rw [hs'] at hcall
          have HCALL := hide hcall
          have HS := hide hs
          clear hcall hs hs' hx'
          go_wp2_with (go_at_call 49; refine (HCALL.out _ (by omega)).mono ?_; rintro e w1 ⟨rfl, hb1⟩)
          go_roundw
          case rel =>
            refine ⟨k + 1, by omega, by go_num, fun j h1 h2 => ?_, hbel.trans (hb1.mono hbel.size)⟩
            by_cases e : j = k + 1
            · subst e; exact fun h => HS.out h.2
            · exact HP.out j h1 (by omega)
          case measure => simp [intOf]; omega
      · have hle' : (k : Int) + 1 < ((r.length : Int) + 1) := by omega
        go_wp2
        go_roundw
        case rel =>
          refine ⟨k + 1, by omega, by go_num, fun j h1 h2 => ?_, hbel⟩
          by_cases e : j = k + 1
          · subst e; exact fun h => hle h.1
          · exact HP.out j h1 (by omega)
        case measure => simp [intOf]; omega
    · obtain rfl : k = 4 := by omega
      have hres : beginsF (b0 :: r) = 0 := by
        rw [HBEG.out, if_neg (HP.out 1 (by omega) (by omega)), if_neg (HP.out 2 (by omega) (by omega)), if_neg (HP.out 3 (by omega) (by omega)), if_neg (HP.out 4 (by omega) (by omega))]
      have HRES := hide hres
      clear hres
      go_wp2
      go_ret
      exact ⟨ret_1 (int_eq HRES.out.symm), hbel⟩

set_option maxHeartbeats 1000000 in
theorem whole_ok (So Si : Nat → Prop) (x : Value) (b0 : Int) (r : List Int) (w : World) (hx : Slc (Rep.int .u8) So Si w x (b0 :: r)) (hr : r.length ≤ 3) (hl : leadF b0 = (r.length : Int) + 1) (ht : ∀ b ∈ r, 128 ≤ b ∧ b ≤ 191) :
    Calls Try.prog 45 #[x] w fun e w' => e = .returned (.int .i32 (wholeF (b0 :: r))) ∧ Below w.heap.size w w' := by
  have hb0 := u8_wf (hx.ints_wf b0 (by simp))
  have hbd := accF_bound b0 r hb0 hr hl ht
  have hmk := bitsF_mark b0 (r.length + 1) hb0.1 (by omega) (by omega) (by rw [hl]; simp)
  have h00 : accF (b0 :: r) 0 = bitsF b0 := rfl
  have hwh : wholeF (b0 :: r) = accF (b0 :: r) r.length := by unfold wholeF; simp
  obtain ⟨A, c, rfl, hc1, hc2, hB⟩ := hx.open_
  have hlen : (b0 :: r).length = r.length + 1 := rfl
  rw [hlen] at *
  obtain ⟨ab, off, rfl, _, hc0, _⟩ := ints_at hB (j := 0) (by simp)
  simp only [Nat.add_zero, List.getElem_cons_zero] at hc0
  have habl := World.block_lt_of_cell? w _ hc0
  simp only at habl
  have hcell : ∀ k, k < r.length → w.cell? ⟨ab, off + (k + 1), none⟩ = some (.int .u8 ((b0 :: r).getD (k + 1) 0)) ∧ 0 ≤ (b0 :: r).getD (k + 1) 0 ∧ (b0 :: r).getD (k + 1) 0 ≤ 255 := by
    intro k hk
    obtain ⟨ab', off', ha', _, hck, hwk⟩ := ints_at hB (j := k + 1) (by simp; omega)
    obtain ⟨rfl, rfl⟩ : ab = ab' ∧ off = off' := by simpa using ha'
    have e : (b0 :: r).getD (k + 1) 0 = r[k] := by simp [List.getD, hk]
    rw [e]
    simp only [List.getElem_cons_succ] at hck hwk
    exact ⟨hck, u8_wf hwk⟩
  have hstep : ∀ k, accF (b0 :: r) (k + 1) = accF (b0 :: r) k * 64 + (b0 :: r).getD (k + 1) 0 - 128 := fun k => rfl
  rw [hmk] at h00
  generalize hac : accF (b0 :: r) = ac at *
  generalize hfg : (b0 :: r).getD = fg at *
  have hn : r.length = 0 ∨ r.length = 1 ∨ r.length = 2 ∨ r.length = 3 := by omega
  rcases hn with e | e | e | e
  · rw [e] at h00 hwh
    simp only [e, Nat.reduceAdd] at hbd hcell ⊢
    have hm : markF 1 = 0 := rfl
    simp only [Nat.reduceAdd, hm] at h00
    have HBD := hide hbd
    have HC := hide hcell
    have H00 := hide h00
    have HST := hide hstep
    have HW := hide hwh
    clear hbd hcell h00 hstep hwh hmk hac hfg hm hx hB e hl ht hlen
    go_enter Try.func45, Try.ntmps45
    go_wp2
    go_quiet (fail)
    go_wp2
    go_loop [4, 5] (fun v i => ∃ k : Nat, k ≤ 0 ∧ i = .int .i64 (k + 1 : Nat) ∧ v = .int .i64 (ac k)) (fun _ i => 1 - (intOf i).toNat)
    case atStart => exact ⟨0, by omega, rfl, int_eq (by rw [H00.out]; omega)⟩
    case round =>
      obtain ⟨k, hk, rfl, rfl⟩ := hrel
      have hb1 := HBD.out k hk
      by_cases hlt : k < 0
      · omega
      · obtain rfl : k = 0 := by omega
        go_wp2
        go_ret
        exact ⟨ret_1 (int_eq (by rw [HW.out])), below_drewN ((Below.refl _ _).alloc (Nat.le_refl _) _) _⟩
  · rw [e] at h00 hwh
    simp only [e, Nat.reduceAdd] at hbd hcell ⊢
    have hm : markF 2 = 192 := rfl
    simp only [Nat.reduceAdd, hm] at h00
    have HBD := hide hbd
    have HC := hide hcell
    have H00 := hide h00
    have HST := hide hstep
    have HW := hide hwh
    clear hbd hcell h00 hstep hwh hmk hac hfg hm hx hB e hl ht hlen
    go_enter Try.func45, Try.ntmps45
    go_wp2
    go_quiet (fail)
    go_wp2
    go_loop [4, 5] (fun v i => ∃ k : Nat, k ≤ 1 ∧ i = .int .i64 (k + 1 : Nat) ∧ v = .int .i64 (ac k)) (fun _ i => 2 - (intOf i).toNat)
    case atStart => exact ⟨0, by omega, rfl, int_eq (by rw [H00.out])⟩
    case round =>
      obtain ⟨k, hk, rfl, rfl⟩ := hrel
      have hb1 := HBD.out k hk
      by_cases hlt : k < 1
      · obtain ⟨hck, hy0, hy1⟩ := HC.out k hlt
        have hb2 := HBD.out (k + 1) (by omega)
        go_wp2
        go_round
        case rel => exact ⟨k + 1, by omega, by go_num, int_eq (by rw [HST.out])⟩
        case measure => simp [intOf]; omega
      · obtain rfl : k = 1 := by omega
        go_wp2
        go_ret
        exact ⟨ret_1 (int_eq (by rw [HW.out])), below_drewN ((Below.refl _ _).alloc (Nat.le_refl _) _) _⟩
  · rw [e] at h00 hwh
    simp only [e, Nat.reduceAdd] at hbd hcell ⊢
    have hm : markF 3 = 224 := rfl
    simp only [Nat.reduceAdd, hm] at h00
    have HBD := hide hbd
    have HC := hide hcell
    have H00 := hide h00
    have HST := hide hstep
    have HW := hide hwh
    clear hbd hcell h00 hstep hwh hmk hac hfg hm hx hB e hl ht hlen
    go_enter Try.func45, Try.ntmps45
    go_wp2
    go_quiet (fail)
    go_wp2
    go_loop [4, 5] (fun v i => ∃ k : Nat, k ≤ 2 ∧ i = .int .i64 (k + 1 : Nat) ∧ v = .int .i64 (ac k)) (fun _ i => 3 - (intOf i).toNat)
    case atStart => exact ⟨0, by omega, rfl, int_eq (by rw [H00.out])⟩
    case round =>
      obtain ⟨k, hk, rfl, rfl⟩ := hrel
      have hb1 := HBD.out k hk
      by_cases hlt : k < 2
      · obtain ⟨hck, hy0, hy1⟩ := HC.out k hlt
        have hb2 := HBD.out (k + 1) (by omega)
        go_wp2
        go_round
        case rel => exact ⟨k + 1, by omega, by go_num, int_eq (by rw [HST.out])⟩
        case measure => simp [intOf]; omega
      · obtain rfl : k = 2 := by omega
        go_wp2
        go_ret
        exact ⟨ret_1 (int_eq (by rw [HW.out])), below_drewN ((Below.refl _ _).alloc (Nat.le_refl _) _) _⟩
  · rw [e] at h00 hwh
    simp only [e, Nat.reduceAdd] at hbd hcell ⊢
    have hm : markF 4 = 240 := rfl
    simp only [Nat.reduceAdd, hm] at h00
    have HBD := hide hbd
    have HC := hide hcell
    have H00 := hide h00
    have HST := hide hstep
    have HW := hide hwh
    clear hbd hcell h00 hstep hwh hmk hac hfg hm hx hB e hl ht hlen
    go_enter Try.func45, Try.ntmps45
    go_wp2
    go_quiet (fail)
    go_wp2
    go_loop [4, 5] (fun v i => ∃ k : Nat, k ≤ 3 ∧ i = .int .i64 (k + 1 : Nat) ∧ v = .int .i64 (ac k)) (fun _ i => 4 - (intOf i).toNat)
    case atStart => exact ⟨0, by omega, rfl, int_eq (by rw [H00.out])⟩
    case round =>
      obtain ⟨k, hk, rfl, rfl⟩ := hrel
      have hb1 := HBD.out k hk
      by_cases hlt : k < 3
      · obtain ⟨hck, hy0, hy1⟩ := HC.out k hlt
        have hb2 := HBD.out (k + 1) (by omega)
        go_wp2
        go_round
        case rel => exact ⟨k + 1, by omega, by go_num, int_eq (by rw [HST.out])⟩
        case measure => simp [intOf]; omega
      · obtain rfl : k = 3 := by omega
        go_wp2
        go_ret
        exact ⟨ret_1 (int_eq (by rw [HW.out])), below_drewN ((Below.refl _ _).alloc (Nat.le_refl _) _) _⟩
end Go.Proofs.Ytfcjkmiaibakiaa
