/-
  The law on the parts of any bytes: the walk returns true and leaves the memory that was there as it was.
-/
import Derived.Test.YtfcjkmiaibakiaaLaw04
import Derived.Test.YtfcjkmiaibakiaaRefPut
namespace Go.Proofs.Ytfcjkmiaibakiaa
open Go.RowKit
set_option linter.unusedVariables false

set_option maxHeartbeats 2000000 in
theorem walk_UtfallParts (p : Value) (l : List Int) (w : World) (hp : Slc (Rep.int .u8) (fun b => b < w.heap.size) (fun b => b < w.heap.size) w p l) :
    Calls Try.prog 11 #[p] w fun e w' => e = .returned (.bool true) ∧ Below w.heap.size w w' := by
  have hbl : Bytes l := fun n hn => u8_wf (hp.ints_wf n hn)
  obtain ⟨A, c, rfl, hc1, hc2, hB⟩ := hp.open_
  by_cases hlen : l.length ≤ 2000
  · have hl2 : decide ((2000 : Int) < (l.length : Int)) = false := by simp; omega
    have htf := tail_feed l hbl
    have hgl : (allF l).length ≤ l.length := all_len l.length l 0
    have hat := all_at0 l
    have hAll := fun So Si x w hx => All_ok So Si x l w hx (by omega)
    have hrAll := fun So Si x w hx => rAll_ok So Si x l w hx (by omega)
    have hRun := fun So Si x w hx => Runes_ok So Si x l w hx (by omega)
    have hrRun := fun So Si x w hx => rRunes_ok So Si x l w hx (by omega)
    have hVal := fun So Si x w hx => Valid_ok So Si x l w hx (by omega)
    have hTail := fun So Si x w hx => UTail_ok So Si x l w hx (by omega) hat
    rw [htf] at hTail
    generalize hgs : allF l = gs at *
    generalize hfd : feedF [] l = fd at *
    have HAll := hide hAll
    have HrAll := hide hrAll
    have HRun := hide hRun
    have HrRun := hide hrRun
    have HVal := hide hVal
    have HTail := hide hTail
    have HFD := hide hfd
    clear hAll hrAll hRun hrRun hVal hTail htf hat hgs hfd
    go_enter Try.func11, Try.ntmps11
    go_wp2_with fail
    refine (works04_ok _).mono ?_
    rintro e w1 ⟨rfl, hb1⟩
    have hsz1 := hb1.size
    go_wp2_with fail
    have hp1 := hp.ints_keep (Keep.below (S := fun b => b < w.heap.size) hb1)
    refine (HAll.out _ _ _ _ hp1).mono ?_
    rintro e w2 ⟨v2, rfl, hv2, hb2⟩
    have hb2' := hb1.trans (hb2.mono hsz1)
    have hsz2 := hb2'.size
    have hp2 := hp.ints_keep (Keep.below (S := fun b => b < w.heap.size) hb2')
    go_wp2_with fail
    refine (HrAll.out _ _ _ _ hp2).mono ?_
    rintro e w3 ⟨v3, rfl, hv3, hb3⟩
    have hb3' := hb2'.trans (hb3.mono hsz2)
    have hsz3 := hb3'.size
    have hp3 := hp.ints_keep (Keep.below (S := fun b => b < w.heap.size) hb3')
    have hv2 := hv2.below hb3
    obtain ⟨A2, c2, rfl, hd1, hd2, hB2⟩ := (hv2.fslc RGot.flat).open_
    obtain ⟨A3, c3, rfl, he1, he2, hB3⟩ := (hv3.fslc RGot.flat).open_
    go_wp2_with fail
    refine (HRun.out _ _ _ _ hp3).mono ?_
    rintro e w4 ⟨v4, rfl, hv4, hb4⟩
    have hb4' := hb3'.trans (hb4.mono hsz3)
    have hsz4 := hb4'.size
    have hp4 := hp.ints_keep (Keep.below (S := fun b => b < w.heap.size) hb4')
    go_wp2_with fail
    refine (HrRun.out _ _ _ _ hp4).mono ?_
    rintro e w5 ⟨v5, rfl, hv5, hb5⟩
    have hb5' := hb4'.trans (hb5.mono hsz4)
    have hsz5 := hb5'.size
    have hv4 := hv4.below hb5
    go_wp2_with fail
    refine (Same_ok _ _ _ _ _ _ _ _ _ hv4.islc hv5.islc).mono ?_
    rintro e w6 ⟨rfl, n6, rfl⟩
    rw [decide_eq_true rfl]
    have hB2' := (hB2.flat_keep RGot.flat (Si' := fun _ => False) (Keep.below hb4)).flat_keep RGot.flat (Si' := fun _ => False) (Keep.below hb5)
    have hB3' := (hB3.flat_keep RGot.flat (Si' := fun _ => False) (Keep.below hb4)).flat_keep RGot.flat (Si' := fun _ => False) (Keep.below hb5)
    go_wp2
    go_loopw [5, 6] (fun bd i wr => ∃ j : Nat, j ≤ gs.length ∧ bd = .bool ((gs.take j).any Got.bad) ∧ i = .int .i64 j ∧ ∃ n, wr = w5.drewN n) (fun _ i _ => gs.length - (intOf i).toNat)
    case atStart => exact ⟨0, Nat.zero_le _, rfl, rfl, _, rfl⟩
    case round =>
      obtain ⟨j, hj, rfl, rfl, n, rfl⟩ := hrel
      by_cases hlt : j < gs.length
      · obtain ⟨gb, go, rfl, _, q0, q1, q2, q3, q4⟩ := got_at hB2' hlt
        obtain ⟨rb, ro, rfl, _, r0, r1, r2, r3, r4⟩ := got_at hB3' hlt
        have hsn : (gs.take (j + 1)).any Got.bad = ((gs.take j).any Got.bad || gs[j].bad) := by rw [take_snoc' gs j hlt, List.any_append]; simp
        generalize hgk : gs[j] = g at *
        generalize hbb : (gs.take j).any Got.bad = B at *
        have HSN := hide hsn
        clear hsn hgk hbb
        cases B with
        | true =>
          go_wp2
          go_quiet (fail)
          go_wp2
          go_roundw
          case rel => exact ⟨j + 1, by omega, by rw [HSN.out]; rfl, by go_num, _, rfl⟩
          case measure => simp [intOf]; omega
        | false =>
          go_wp2
          go_quiet (fail)
          go_wp2
          go_roundw
          case rel => exact ⟨j + 1, by omega, by rw [HSN.out]; rfl, by go_num, _, rfl⟩
          case measure => simp [intOf]; omega
      · have e : gs.take j = gs := List.take_of_length_le (by omega)
        rw [e]
        generalize hbb : gs.any Got.bad = B at *
        have HBB := hide hbb
        clear hbb e
        have hp6 : Slc (Rep.int .u8) (fun b => b < w.heap.size) (fun b => b < w.heap.size) (w5.drewN n) (.slice A l.length c) l := hp.ints_keep (Keep.below (S := fun b => b < w.heap.size) (below_drewN hb5' n))
        have hF := rFeed_ok (fun _ => False) (fun _ => False) _ _ _ _ [] l _ Slc.nil_ hp6 (by simp) pre_nil bytes_nil (by omega)
        rw [HFD.out] at hF
        have HF := hide hF
        clear hF
        go_wp2_with fail
        refine HF.out.mono ?_
        rintro e w7 ⟨v7, v8, rfl, hv7, hv8, hb7⟩
        have hb7' := (below_drewN hb5' n).trans (hb7.mono hsz5)
        have hsz7 := hb7'.size
        have hp7 := hp.ints_keep (Keep.below (S := fun b => b < w.heap.size) hb7')
        obtain ⟨A8, c8, rfl, hf1, hf2, hB8⟩ := hv8.open_
        go_wp2_with fail
        refine (HVal.out _ _ _ _ hp7).mono ?_
        rintro e w8 ⟨rfl, hb8⟩
        have hb8' := hb7'.trans (hb8.mono hsz7)
        have hp8 := hp.ints_keep (Keep.below (S := fun b => b < w.heap.size) hb8')
        have hbe : (!B == !B) = true := by simp
        go_wp2_with fail
        refine (HTail.out _ _ _ _ hp8).mono ?_
        rintro e w9 ⟨rfl, hb9⟩
        go_wp2
        go_ret
        exact ⟨rfl, hb8'.trans (hb9.mono hb8'.size)⟩
  · have hl2 : decide ((2000 : Int) < (l.length : Int)) = true := by simp; omega
    go_enter Try.func11, Try.ntmps11
    go_wp2_with fail
    refine (works04_ok _).mono ?_
    rintro e w1 ⟨rfl, hb1⟩
    go_wp2_with fail
    refine (works04_ok _).mono ?_
    rintro e w2 ⟨rfl, hb2⟩
    go_wp2
    go_ret
    exact ⟨rfl, hb1.trans (hb2.mono hb1.size)⟩
end Go.Proofs.Ytfcjkmiaibakiaa
