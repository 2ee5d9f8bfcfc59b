/-
  The law on bytes of forms: the walk returns true and leaves the memory that was there as it was.
-/
import Derived.Test.YtfcjkmiaibakiaaLaw04
import Derived.Test.YtfcjkmiaibakiaaRefPut
namespace Go.Proofs.Ytfcjkmiaibakiaa
open Go.RowKit
set_option linter.unusedVariables false

set_option maxHeartbeats 2000000 in
theorem walk_UtfallJoins (q : Value) (a : List Int) (p : Value) (l : List Int) (w : World) (hq : Slc (Rep.int .i32) (fun b => b < w.heap.size) (fun b => b < w.heap.size) w q a) (hp : Slc (Rep.int .u8) (fun b => b < w.heap.size) (fun b => b < w.heap.size) w p l) :
    Calls Try.prog 12 #[q, p] w fun e w' => e = .returned (.bool true) ∧ Below w.heap.size w w' := by
  have hbl : Bytes l := fun n hn => u8_wf (hp.ints_wf n hn)
  obtain ⟨A, c, rfl, hc1, hc2, hB⟩ := hp.open_
  obtain ⟨D, d, rfl, hd1, hd2, hD⟩ := hq.open_
  by_cases hla : a.length ≤ 500
  · have ha2 : decide ((500 : Int) < (a.length : Int)) = false := by simp; omega
    by_cases hlen : l.length ≤ 500
    · have hl2 : decide ((500 : Int) < (l.length : Int)) = false := by simp; omega
      go_enter Try.func12, Try.ntmps12
      go_wp2_with fail
      refine (works04_ok _).mono ?_
      rintro e w1 ⟨rfl, hb1⟩
      have hsz1 := hb1.size
      go_wp2_with fail
      have hq1 := hq.ints_keep (Keep.below (S := fun b => b < w.heap.size) hb1)
      refine (rPut_ok _ _ _ a _ hq1 (by omega)).mono ?_
      rintro e w2 ⟨v2, at2, rfl, hput, hb2⟩
      have hb2' := hb1.trans (hb2.mono hsz1)
      have hsz2 := hb2'.size
      rcases hput with ⟨rfl, hval, hv2⟩ | ⟨k, hk, rfl, _, _, rfl⟩
      · have hpl := put_len a
        have hVal := Valid_ok _ _ _ (putF a) _ hv2.islc (by omega)
        rw [valid_forms a hval] at hVal
        have hrf := runes_forms a hval
        have hrj := runes_join a l hval hbl
        have HRJ := hide hrj
        have HVal := hide hVal
        have HRF := hide hrf
        clear hVal hrf hrj hval
        obtain ⟨A2, c2, rfl, he1, he2, hB2⟩ := hv2.islc.open_
        go_wp2_with fail
        refine HVal.out.mono ?_
        rintro e w3 ⟨rfl, hb3⟩
        have hb3' := hb2'.trans (hb3.mono hsz2)
        have hsz3 := hb3'.size
        have hv2 := hv2.below hb3
        have hR := Runes_ok _ _ _ (putF a) _ hv2.islc (by omega)
        rw [HRF.out] at hR
        have HR := hide hR
        clear hR
        go_wp2_with fail
        refine HR.out.mono ?_
        rintro e w4 ⟨v4, rfl, hv4, hb4⟩
        have hb4' := hb3'.trans (hb4.mono hsz3)
        have hsz4 := hb4'.size
        have hv2 := hv2.below hb4
        have hq4 := hq.ints_keep (Keep.below (S := fun b => b < w.heap.size) hb4')
        have hp4 := hp.ints_keep (Keep.below (S := fun b => b < w.heap.size) hb4')
        go_wp2_with fail
        refine (Same_ok _ _ _ _ _ _ a a _ hv4.islc hq4).mono ?_
        rintro e w5 ⟨rfl, n5, rfl⟩
        rw [decide_eq_true rfl]
        have hb5' := below_drewN hb4' n5
        have hp5 : Slc (Rep.int .u8) (fun b => b < w.heap.size) (fun b => b < w.heap.size) (w4.drewN n5) (.slice A l.length c) l := hp.ints_keep (Keep.below (S := fun b => b < w.heap.size) hb5')
        go_wp2_with fail
        refine (UTail_ok _ _ _ l _ hp5 (by omega) (all_at0 l)).mono ?_
        rintro e w6 ⟨rfl, hb6⟩
        have hb6' := hb5'.trans (hb6.mono hsz4)
        have hsz6 := hb6'.size
        by_cases ht : tailF l = 0
        · have hrj := HRJ.out ht
          rw [ht]
          have HJ := hide hrj
          clear hrj ht
          have hv2 : Own (Rep.int .u8) 5 [] w1.heap.size w6 (.slice A2 (putF a).length c2) (putF a) := (hv2.drewN n5).below hb6
          have hf6 := hv2.islc
          have hp6 := hp.ints_keep (Keep.below (S := fun b => b < w.heap.size) hb6')
          have hown0 : Own (Rep.int .u8) 5 [] w6.heap.size (w6.alloc (.cells #[] 5)) (.slice (some ⟨w6.heap.size, 0, none⟩) 0 0) [] := own_u8 w6 [] (by simp) w6.heap.size w6.heap.size 0 (Nat.le_refl _) rfl rfl (by simp [maxLen])
          have hp7 := hp6.ints_keep (Keep.alloc (fun b => b < w.heap.size) w6 (.cells #[] 5))
          go_wp2_with (first
            | (at_builtin; refine wpList_appi rfl (.tmp 42) (.tmp 43) 28 rfl .u8 5 w6.heap.size 1 Try.underlying28 u8_info (by decide) _ _ rfl hown0 _ _ _ _ rfl hp7 (by simp; omega) (by simp) ?_; intro v8 w8 hv8 hst8; rw [List.nil_append] at hv8; have hs8 := (Step.alloc1 w6.heap.size [5] w6 _).trans hst8; have hf8 := hf6.ints_keep (Keep.old hs8 (fun b h => h.1)); have hz8 := hs8.size)
            | (at_builtin; refine wpList_appi rfl (.tmp 44) (.tmp 45) 28 rfl .u8 5 w6.heap.size 1 Try.underlying28 u8_info (by decide) _ _ rfl hv8 _ _ _ _ rfl hf8 (by simp; omega) (by omega) ?_; intro v9 w9 hv9 hst9; have hs9 := hs8.trans hst9; have hz9 := hs9.size))
          have hb9 := hb6'.trans ((hs9.below (Nat.le_refl _)).mono hsz6)
          have hsz9 := hb9.size
          have hpA := hp.ints_keep (Keep.below (S := fun b => b < w.heap.size) (hb9.alloc hsz9 (.cells #[] 21)))
          have hownI : Own (Rep.int .i32) 21 [] w9.heap.size (w9.alloc (.cells #[] 21)) (.slice (some ⟨w9.heap.size, 0, none⟩) 0 0) [] := own_i32 w9 [] (by simp) w9.heap.size w9.heap.size 0 (Nat.le_refl _) rfl rfl (by simp [maxLen])
          have hgl : (allF l).length ≤ l.length := all_len l.length l 0
          refine (Runes_ok _ _ _ l _ hpA (by omega)).mono ?_
          rintro e w10 ⟨v10, rfl, hv10, hb10⟩
          have hown10 := hownI.below hb10
          have hi10 := hv10.islc
          have hs10 : Step w9.heap.size [21] w9 w10 := (Step.alloc1 w9.heap.size [21] w9 _).trans (Step.of_below hb10)
          have hz10 := hs10.size
          have hml : ((allF l).map Got.r).length ≤ 500 := by rw [List.length_map]; omega
          go_wp2_with (first
            | (at_builtin; refine wpList_appi rfl (.tmp 47) (.tmp 49) 40 rfl .i32 21 w9.heap.size 4 Try.underlying40 i32_info (by decide) _ _ rfl hown10 _ _ _ _ rfl hi10 (by rw [List.length_nil]; omega) (by omega) ?_; intro v11 w11 hv11 hst11; rw [List.nil_append] at hv11; have hs11 := hs10.trans hst11; have hb11 := hb9.trans ((hs11.below (Nat.le_refl _)).mono hsz9); have hq11 := hq.ints_keep (Keep.below (S := fun b => b < w.heap.size) hb11); have hz11 := hs11.size)
            | (at_builtin; refine wpList_appi rfl (.tmp 50) (.tmp 51) 40 rfl .i32 21 w9.heap.size 4 Try.underlying40 i32_info (by decide) _ _ rfl hv11 _ _ _ _ rfl hq11 (by omega) (by omega) ?_; intro v12 w12 hv12 hst12; have hs12 := hs11.trans hst12; have hz12 := hs12.size))
          have hb12 := hb9.trans ((hs12.below (Nat.le_refl _)).mono hsz9)
          have hv9' := hv9.ints_step hs12 (by decide)
          have hR := Runes_ok _ _ _ (l ++ putF a) _ hv9'.islc (by rw [List.length_append]; omega)
          rw [HJ.out] at hR
          refine hR.mono ?_
          rintro e w13 ⟨v13, rfl, hv13, hb13⟩
          have hv12 := hv12.below hb13
          go_wp2_with fail
          refine (Same_ok _ _ _ _ _ _ _ _ _ hv13.islc hv12.islc).mono ?_
          rintro e w14 ⟨rfl, n14, rfl⟩
          rw [decide_eq_true rfl]
          go_wp2
          go_ret
          exact ⟨rfl, below_drewN (hb12.trans (hb13.mono hb12.size)) _⟩
        · have htf := tail_feed l hbl
          have ht2 : (0 : Int) < tailF l := by omega
          clear ht htf
          go_wp2
          go_ret
          exact ⟨rfl, hb6'⟩
      · go_wp2
        go_ret
        exact ⟨rfl, hb2'⟩
    · have hl2 : decide ((500 : Int) < (l.length : Int)) = true := by simp; omega
      go_enter Try.func12, Try.ntmps12
      go_wp2_with fail
      refine (works04_ok _).mono ?_
      rintro e w1 ⟨rfl, hb1⟩
      go_wp2_with fail
      refine (works04_ok _).mono ?_
      rintro e w2 ⟨rfl, hb2⟩
      go_wp2
      go_ret
      exact ⟨rfl, hb1.trans (hb2.mono hb1.size)⟩
  · have ha2 : decide ((500 : Int) < (a.length : Int)) = true := by simp; omega
    go_enter Try.func12, Try.ntmps12
    go_wp2_with fail
    refine (works04_ok _).mono ?_
    rintro e w1 ⟨rfl, hb1⟩
    go_wp2_with fail
    refine (works04_ok _).mono ?_
    rintro e w2 ⟨rfl, hb2⟩
    go_wp2
    go_ret
    exact ⟨rfl, hb1.trans (hb2.mono hb1.size)⟩
end Go.Proofs.Ytfcjkmiaibakiaa
