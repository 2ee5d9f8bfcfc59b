/-
  The three laws on what bytes can be in a form: each walk returns true and leaves the memory that was there as it was.
-/
import Derived.Test.YtfcjkmiaibakiaaOct
import Derived.Test.YtfcjkmiaibakiaaR01
namespace Go.Proofs.Ytfcjkmiaibakiaa
open Go.RowKit
set_option linter.unusedVariables false

theorem works02_ok (w : World) :
    Calls Try.prog 21 #[] w fun e w' => e = .returned (.bool true) ∧ w = w' := by
  go_enter Try.func21, Try.ntmps21
  go_wp2_with (first
    | (go_at_call 14; refine (Second_ok _ (by omega) (by omega) _).mono ?_; rintro e w' ⟨rfl, rfl⟩)
    | (go_at_call 16; refine (Lead_ok _ (by omega) (by omega) _).mono ?_; rintro e w' ⟨rfl, rfl⟩)
    | (go_at_call 18; refine (Tail_ok _ (by omega) (by omega) _).mono ?_; rintro e w' ⟨rfl, rfl⟩)
    | (go_at_call 19; refine (Bits_ok _ (by omega) (by omega) _).mono ?_; rintro e w' ⟨rfl, rfl⟩))
  go_ret
  exact ⟨ret_1 (bool_eq (by decide)), rfl⟩

theorem walk_OctetTells (b : Int) (w : World) (hb : (Lit.int .u8 b).wf = true) :
    Calls Try.prog 3 #[.int .u8 b] w fun e w' => e = .returned (.bool true) ∧ Below w.heap.size w w' := by
  obtain ⟨h0, h1⟩ := u8_wf hb
  clear hb
  have hc : b < 128 ∨ (128 ≤ b ∧ b ≤ 191) ∨ 191 < b := by omega
  rcases hc with hc | hc | hc
  all_goals
    first
      | have ht : tailB b = true := by unfold tailB; simp; omega
      | have ht : tailB b = false := by unfold tailB; simp; omega
    go_enter Try.func3, Try.ntmps3
    go_wp2_with (first
      | (go_at_call 14; refine (Second_ok _ (by omega) (by omega) _).mono ?_; rintro e w' ⟨rfl, rfl⟩)
      | (go_at_call 15; refine (rSecond_ok _ (by omega) (by omega) _).mono ?_; rintro e w' ⟨rfl, rfl⟩)
      | (go_at_call 16; refine (Lead_ok _ (by omega) (by omega) _).mono ?_; rintro e w' ⟨rfl, rfl⟩)
      | (go_at_call 17; refine (rLead_ok _ (by omega) (by omega) _).mono ?_; rintro e w' ⟨rfl, rfl⟩)
      | (go_at_call 18; refine (Tail_ok _ (by omega) (by omega) _).mono ?_; rintro e w' ⟨rfl, rfl⟩)
      | (go_at_call 19; refine (Bits_ok _ (by omega) (by omega) _).mono ?_; rintro e w' ⟨rfl, rfl⟩)
      | (go_at_call 20; refine (rBits_ok _ (by omega) (by omega) _).mono ?_; rintro e w1 ⟨rfl, hb1⟩)
      | (go_at_call 21; refine (works02_ok _).mono ?_; rintro e w' ⟨rfl, rfl⟩))
    all_goals go_ret
    all_goals (refine ⟨ret_1 (bool_eq ?_), by first | assumption | exact Below.refl _ _⟩; first | rfl | (go_tidy; simp; omega))

set_option maxHeartbeats 400000 in
theorem walk_OctetForms (r : Int) (w : World) (hr : (Lit.int .i32 r).wf = true) :
    Calls Try.prog 4 #[.int .i32 r] w fun e w' => e = .returned (.bool true) ∧ Below w.heap.size w w' := by
  obtain ⟨h0, h1⟩ := i32_wf hr
  clear hr
  by_cases hv : validB r = true
  · obtain ⟨b0, rest, hf, hb0, hb1, hlead, hlen, htail, hsec, hacc, hbd⟩ := form_facts r hv
    have hF := rForm_ok r h0 h1 w
    have hvl := rValid_ok r h0 h1 w
    rw [hv] at hvl
    generalize hfe : formF r = f at *
    have hpos : 0 < f.length := by rw [hf]; simp
    have hL := Lead_ok b0 hb0 hb1
    rw [hlead] at hL
    have HF := hide hF
    have HV := hide hvl
    have HL := hide hL
    have hg0 : f.getD 0 0 = b0 := by rw [hf]; rfl
    have hbits : bitsF b0 = accF f 0 := by simp only [accF, hg0]
    have HB := hide hbits
    have Hacc := hide hacc
    have HT := hide htail
    have HSec := hide hsec
    have Hf0 := hide hg0
    clear hF hvl hL hf hacc htail hsec hlead hv hfe hg0 hbits
    have hbd0 := hbd 0 hpos
    go_enter Try.func4, Try.ntmps4
    go_wp2_with fail
    refine (works02_ok _).mono ?_; rintro e w' ⟨rfl, rfl⟩
    go_wp2_with fail
    refine HV.out.mono ?_; rintro e w' ⟨rfl, rfl⟩
    go_wp2_with fail
    refine HF.out.mono ?_; rintro e w1 ⟨v, rfl, hown, hbel⟩
    obtain ⟨A, c, rfl, hc1, hc2, hB⟩ := hown.slc.open_
    obtain ⟨ab, off, rfl, _, hc0, _⟩ := ints_at hB hpos
    have hf0 : f[0] = b0 := by rw [← Hf0.out]; simp [List.getD, hpos]
    rw [hf0, Nat.add_zero] at hc0
    clear hf0
    go_wp2_with (first | (go_at_call 16; refine (HL.out _).mono ?_; rintro e w' ⟨rfl, rfl⟩) | (go_at_call 19; refine (Bits_ok _ (by omega) (by omega) _).mono ?_; rw [HB.out]; rintro e w' ⟨rfl, rfl⟩))
    go_loop [4, 5, 6, 7] (fun n i _ _ => ∃ k : Nat, k < f.length ∧ i = .int .i64 (k + 1 : Nat) ∧ n = .int .i64 (accF f k)) (fun _ i _ _ => f.length - (intOf i).toNat)
    case atStart => exact ⟨0, hpos, rfl, rfl⟩
    case round =>
      obtain ⟨k, hk, rfl, rfl⟩ := hrel
      have hbdk := hbd k hk
      by_cases hlt : k + 1 < f.length
      · obtain ⟨ab', off', ha', _, hck, hwk⟩ := ints_at hB hlt
        obtain ⟨rfl, rfl⟩ : ab = ab' ∧ off = off' := by simpa using ha'
        have hgk : f.getD (k + 1) 0 = f[k + 1] := by simp [List.getD, hlt]
        have htk := HT.out (k + 1) (by omega) hlt
        have hsk := HSec.out
        rw [hgk] at htk
        obtain ⟨hw0, hw1⟩ := u8_wf hwk
        have hstep : accF f (k + 1) = accF f k * 64 + f[k + 1] - 128 := by simp only [accF, hgk]
        have Hstep := hide hstep
        have hbd2 := hbd (k + 1) hlt
        clear hgk hstep
        by_cases h1 : k = 0
        · have hs1 : loF b0 ≤ f[k + 1] ∧ f[k + 1] ≤ hiF b0 := by
            subst h1
            have hs1 := hsk hlt
            have hg1 : f.getD 1 0 = f[0 + 1] := by simp [List.getD, hlt]
            rwa [hg1] at hs1
          have hb1 : ((k : Int) + 1 == 1) = true := by simp; omega
          clear hsk h1
          go_wp2_with (first | (go_at_call 14; refine (Second_ok _ (by omega) (by omega) _).mono ?_; rintro e w' ⟨rfl, rfl⟩) | (go_at_call 18; refine (Tail_ok _ (by omega) (by omega) _).mono ?_; rintro e w' ⟨rfl, rfl⟩))
          go_round
          case rel => exact ⟨k + 1, hlt, by go_num, by rw [Hstep.out]⟩
          case measure => simp [intOf]; omega
        · clear hsk
          go_wp2_with (first | (go_at_call 14; refine (Second_ok _ (by omega) (by omega) _).mono ?_; rintro e w' ⟨rfl, rfl⟩) | (go_at_call 18; refine (Tail_ok _ (by omega) (by omega) _).mono ?_; rintro e w' ⟨rfl, rfl⟩))
          go_round
          case rel => exact ⟨k + 1, hlt, by go_num, by rw [Hstep.out]⟩
          case measure => simp [intOf]; omega
      · go_wp2
        go_ret
        have e1 : k = f.length - 1 := by omega
        have e2 := Hacc.out
        rw [← e1] at e2
        exact ⟨ret_1 (bool_eq (by rw [e2]; simp)), hbel⟩
  · have hvl := rValid_ok r h0 h1 w
    have hv' : validB r = false := by simpa using hv
    rw [hv'] at hvl
    have HV := hide hvl
    clear hvl hv hv'
    go_enter Try.func4, Try.ntmps4
    go_wp2_with (first | (go_at_call 21; refine (works02_ok _).mono ?_; rintro e w' ⟨rfl, rfl⟩) | (go_at_call 22; refine HV.out.mono ?_; rintro e w' ⟨rfl, rfl⟩))
    go_ret
    exact ⟨rfl, Below.refl _ _⟩

set_option maxHeartbeats 400000 in
theorem walk_OctetBounds (a b c : Int) (w : World) (ha : (Lit.int .u8 a).wf = true) (hb : (Lit.int .u8 b).wf = true) (hc : (Lit.int .u8 c).wf = true) :
    Calls Try.prog 5 #[.int .u8 a, .int .u8 b, .int .u8 c] w fun e w' => e = .returned (.bool true) ∧ Below w.heap.size w w' := by
  obtain ⟨a0, a1⟩ := u8_wf ha
  obtain ⟨b0, b1⟩ := u8_wf hb
  obtain ⟨c0, c1⟩ := u8_wf hc
  have hL := Lead_ok a a0 a1
  by_cases h3 : leadF a = 3
  · rw [h3] at hL
    have HL := hide hL
    have hlo := lo_range a
    have hhi := hi_range a
    by_cases hlb : loF a ≤ b ∧ b ≤ hiF a ∧ 128 ≤ c ∧ c ≤ 191
    · have hff := form_of_three a b c h3 ⟨hlb.1, hlb.2.1⟩ hlb.2.2
      obtain ⟨hl1, hl2, hl3, hl4⟩ := hlb
      have htl : tailB c = true := by unfold tailB; simp; omega
      have hbits : bitsF a = a - 224 := by have := (lead_inv a).2.2.1 h3; simp [bitsF, h3]; omega
      have hl5 := (lead_inv a).2.2.1 h3
      have Hff := hide hff
      have Hbits := hide hbits
      have hbd : 0 ≤ bitsF a ∧ bitsF a ≤ 15 := by omega
      have hF := fun W h0 h1 => rForm_ok ((bitsF a * 64 + b - 128) * 64 + c - 128) h0 h1 W
      rw [hff] at hF
      have HF := hide hF
      have hsl : ∀ W : World, Slc (Rep.int .u8) (fun _ => True) (fun _ => True) (W.alloc (.cells #[.int .u8 a, .int .u8 b, .int .u8 c] 5)) (.slice (some ⟨W.heap.size, 0, none⟩) 3 3) [a, b, c] := by
        intro W
        have ho : Own (Rep.int .u8) 5 [] 0 (W.alloc (.cells ([a, b, c].map (Value.int .u8)).toArray 5)) (.slice (some ⟨W.heap.size, 0, none⟩) 3 3) [a, b, c] :=
          Own.lit (by simp) (els_ints _ _ _ _ (by simp only [List.mem_cons, List.not_mem_nil, or_false]; rintro n (rfl | rfl | rfl) <;> assumption)) (Nat.zero_le _) rfl (by simp [maxLen])
        exact ho.slc.mono (Keep.weaken fun _ _ => trivial) (Keep.weaken fun _ _ => trivial)
      have HSL := hide hsl
      clear hL hff hbits hF hsl ha hb hc h3
      go_enter Try.func5, Try.ntmps5
      go_wp2_with (first
        | (go_at_call 21; refine (works02_ok _).mono ?_; rintro e w' ⟨rfl, rfl⟩)
        | (go_at_call 16; refine (HL.out _).mono ?_; rintro e w' ⟨rfl, rfl⟩)
        | (go_at_call 14; refine (Second_ok _ (by omega) (by omega) _).mono ?_; rintro e w' ⟨rfl, rfl⟩)
        | (go_at_call 18; refine (Tail_ok _ (by omega) (by omega) _).mono ?_; rintro e w' ⟨rfl, rfl⟩)
        | (go_at_call 19; refine (Bits_ok _ (by omega) (by omega) _).mono ?_; rintro e w' ⟨rfl, rfl⟩)
        | (go_at_call 23; refine (HF.out _ (by omega) (by omega)).mono ?_; rintro e w1 ⟨v, rfl, hown, hbel⟩))
      refine (rBytes_ok _ _ _ _ _ _ _ _ _ ((hown.alloc _).slc) (HSL.out _)).mono ?_
      rintro e w' ⟨rfl, rfl⟩
      go_wp2
      go_ret
      exact ⟨ret_1 (bool_eq (by simp)), hbel.alloc hbel.size _⟩
    · have hc3 : b < loF a ∨ (loF a ≤ b ∧ hiF a < b) ∨ (loF a ≤ b ∧ b ≤ hiF a ∧ tailB c = false) := by
        have : tailB c = decide (128 ≤ c ∧ c ≤ 191) := rfl
        rw [this, decide_eq_false_iff_not]
        omega
      clear hL ha hb hc h3 hlb
      rcases hc3 with h4 | ⟨h4, h5⟩ | ⟨h4, h5, h6⟩
      all_goals
        go_enter Try.func5, Try.ntmps5
        go_wp2_with (first
          | (go_at_call 21; refine (works02_ok _).mono ?_; rintro e w' ⟨rfl, rfl⟩)
          | (go_at_call 16; refine (HL.out _).mono ?_; rintro e w' ⟨rfl, rfl⟩)
          | (go_at_call 14; refine (Second_ok _ (by omega) (by omega) _).mono ?_; rintro e w' ⟨rfl, rfl⟩)
          | (go_at_call 18; refine (Tail_ok _ (by omega) (by omega) _).mono ?_; rintro e w' ⟨rfl, rfl⟩))
        go_ret
        exact ⟨rfl, Below.refl _ _⟩
  · have hn : (leadF a != 3) = true := by simpa using h3
    clear hL ha hb hc
    go_enter Try.func5, Try.ntmps5
    go_wp2_with (first
      | (go_at_call 21; refine (works02_ok _).mono ?_; rintro e w' ⟨rfl, rfl⟩)
      | (go_at_call 16; refine (Lead_ok _ (by omega) (by omega) _).mono ?_; rintro e w' ⟨rfl, rfl⟩))
    go_ret
    exact ⟨rfl, Below.refl _ _⟩
end Go.Proofs.Ytfcjkmiaibakiaa
