/-
  The law on a decoder and the parts: the walk returns true and leaves the memory that was there as it was.
-/
import Derived.Test.YtfcjkmiaibakiaaLaw04
import Derived.Test.YtfcjkmiaibakiaaLaw03
namespace Go.Proofs.Ytfcjkmiaibakiaa
open Go.RowKit
set_option linter.unusedVariables false

/-- How much a decoder has told after k bytes. -/
def toldN (l : List Int) (k : Nat) : Nat := (evF [] (l.take k) 0).length
theorem ev_split (l : List Int) (k : Nat) (hk : k < l.length) :
    evF [] l 0 = evF [] (l.take k) 0 ++ ((refStepF (feedF [] (l.take k)).2 l[k]).1.map (fun r => (r, (k : Int) + 1)) ++ evF (refStepF (feedF [] (l.take k)).2 l[k]).2 (l.drop (k + 1)) ((k : Int) + 1)) := by
  have e : l = l.take k ++ l[k] :: l.drop (k + 1) := by rw [← List.drop_eq_getElem_cons hk, List.take_append_drop]
  have htl : (l.take k).length = k := by rw [List.length_take, Nat.min_eq_left (by omega)]
  conv => lhs; rw [e]
  rw [evF_append, htl]
  simp only [evF, Int.zero_add]
theorem ev_at (l : List Int) (k j : Nat) (hk : k < l.length) (hj : j < (refStepF (feedF [] (l.take k)).2 l[k]).1.length) :
    (evF [] l 0)[toldN l k + j]? = some ((refStepF (feedF [] (l.take k)).2 l[k]).1[j], (k : Int) + 1) := by
  rw [ev_split l k hk]
  unfold toldN
  rw [List.getElem?_append_right (by omega), Nat.add_sub_cancel_left, List.getElem?_append_left (by simpa using hj)]
  simp [hj]
theorem told_step (l : List Int) (k : Nat) (hk : k < l.length) : toldN l (k + 1) = toldN l k + (refStepF (feedF [] (l.take k)).2 l[k]).1.length := by
  have htl : (l.take k).length = k := by rw [List.length_take, Nat.min_eq_left (by omega)]
  unfold toldN
  rw [take_snoc' l k hk, evF_append, htl]
  simp [evF]
theorem told_all (l : List Int) : toldN l l.length = (evF [] l 0).length := by
  unfold toldN; rw [List.take_length]
/-- What a decoder tells are the parts; but for the last one, where it holds something at the end. -/
theorem dec_law (l : List Int) (hb : Bytes l) : ∃ L : List Got, evF [] l 0 = L.map (fun g => (g.r, g.known)) ∧
    ((tailF l = 0 ∧ L = allF l ∧ flushF (feedF [] l).2 = []) ∨ (0 < tailF l ∧ L.length + 1 = (allF l).length ∧ L = (allF l).take L.length ∧ flushF (feedF [] l).2 = [65533])) := by
  obtain ⟨h1, h2⟩ := ev_parts l.length l 0 (Nat.le_refl _) hb
  have ht := tail_feed l hb
  by_cases h : (feedF [] l).2 = []
  · exact ⟨allF l, (h1 h).1, .inl ⟨by rw [ht, h]; rfl, rfl, by rw [h]; rfl⟩⟩
  · obtain ⟨L, g, e, h3, _⟩ := h2 h
    have e' : allF l = L ++ [g] := e
    refine ⟨L, h3, .inr ⟨?_, by rw [e']; simp, by rw [e']; simp, by unfold flushF; rw [if_neg h]⟩⟩
    rw [ht]
    have : (feedF [] l).2.length ≠ 0 := fun q => h (List.eq_nil_of_length_eq_zero q)
    omega
theorem part_at_told (l : List Int) (L : List Got) (hL : evF [] l 0 = L.map (fun g => (g.r, g.known))) (k j : Nat) (hk : k < l.length) (hj : j < (refStepF (feedF [] (l.take k)).2 l[k]).1.length) :
    ∃ h : toldN l k + j < L.length, L[toldN l k + j].r = (refStepF (feedF [] (l.take k)).2 l[k]).1[j] ∧ L[toldN l k + j].known = (k : Int) + 1 := by
  have h1 := ev_at l k j hk hj
  rw [hL, List.getElem?_map] at h1
  have hlt : toldN l k + j < L.length := by
    apply Classical.byContradiction
    intro h
    rw [List.getElem?_eq_none (by omega)] at h1
    simp at h1
  rw [List.getElem?_eq_getElem hlt] at h1
  simp only [Option.map_some, Option.some.injEq, Prod.mk.injEq] at h1
  exact ⟨hlt, h1.1, h1.2⟩

set_option maxHeartbeats 4000000 in
theorem walk_UtfallDecodes (p : Value) (l : List Int) (w : World) (hp : Slc (Rep.int .u8) (fun b => b < w.heap.size) (fun b => b < w.heap.size) w p l) :
    Calls Try.prog 13 #[p] w fun e w' => e = .returned (.bool true) ∧ Below w.heap.size w w' := by
  have hbl : Bytes l := fun n hn => u8_wf (hp.ints_wf n hn)
  obtain ⟨A, c, rfl, hc1, hc2, hB⟩ := hp.open_
  by_cases hlen : l.length ≤ 1000
  · have hl2 : decide ((1000 : Int) < (l.length : Int)) = false := by simp; omega
    obtain ⟨L, hev, hcase⟩ := dec_law l hbl
    have hgl : (allF l).length ≤ l.length := all_len l.length l 0
    have hpt := part_at_told l L hev
    have hta := told_all l
    rw [hev, List.length_map] at hta
    have hts := told_step l
    have HPT := hide hpt
    have HTA := hide hta
    have HTS := hide hts
    clear hpt hta hts hev
    go_enter Try.func13, Try.ntmps13
    go_wp2_with fail
    refine (works04_ok _).mono ?_
    rintro e w1 ⟨rfl, hb1⟩
    have hsz1 := hb1.size
    go_wp2_with fail
    have hp1 := hp.ints_keep (Keep.below (S := fun b => b < w.heap.size) hb1)
    refine (All_ok _ _ _ l _ hp1 (by omega)).mono ?_
    rintro e w2 ⟨v2, rfl, hv2, hb2⟩
    have hb2' := hb1.trans (hb2.mono hsz1)
    have hsz2 := hb2'.size
    have hp2 := hp.ints_keep (Keep.below (S := fun b => b < w.heap.size) hb2')
    go_wp2_with fail
    refine (UTail_ok _ _ _ l _ hp2 (by omega) (all_at0 l)).mono ?_
    rintro e w3 ⟨rfl, hb3⟩
    have hb3' := hb2'.trans (hb3.mono hsz2)
    have hsz3 := hb3'.size
    have hv2 := hv2.below hb3
    have hg0 := holds_new w3
    rcases hcase with ⟨ht, hLe, hfl⟩ | ⟨ht, hLn, hLt, hfl⟩
    · rw [ht]
      rw [← hLe] at hv2 hgl
      clear ht hLe
      obtain ⟨A2, c2, rfl, hd1, hd2, hB2⟩ := (hv2.fslc RGot.flat).open_
      have HFL := hide hfl
      clear hfl
      go_wp2
      go_loopw [6, 7] (fun i k7 wr => ∃ k : Nat, k ≤ l.length ∧ k7 = .int .i64 k ∧ i = .int .i64 (toldN l k) ∧ toldN l k ≤ L.length ∧ Holds wr w3.heap.size (feedF [] (l.take k)).2 ∧ Below w3.heap.size w3 wr ∧ w3.heap.size < wr.heap.size) (fun _ k7 _ => l.length - (intOf k7).toNat)
      case atStart => exact ⟨0, Nat.zero_le _, rfl, rfl, Nat.zero_le _, hg0, (Below.refl _ _).alloc (Nat.le_refl _) _, by simp⟩
      case round =>
        obtain ⟨k, hk, rfl, rfl, htn, hhk, hbel, hszk⟩ := hrel
        have hBk := hB.ints_keep (So' := fun b => b < w.heap.size) (fun a u hs hc => ⟨hs, ((hb3'.trans (hbel.mono hsz3)).cell hs).trans hc⟩)
        by_cases hlt : k < l.length
        · obtain ⟨ab, off, rfl, hab, hck, hwk⟩ := ints_at hBk hlt
          obtain ⟨hw0, hw1⟩ := u8_wf hwk
          have hpt := fun j hj => HPT.out k j hlt hj
          have hts := HTS.out k hlt
          have hsn := feedF_snoc (l.take k) [] l[k]
          rw [← take_snoc' l k hlt] at hsn
          have hstp := StepH_ok _ _ l[k] _ hhk hw0 hw1
          have hnx : (feedF [] (l.take (k + 1))).2 = (refStepF (feedF [] (l.take k)).2 l[k]).2 := by rw [hsn]
          rw [← hnx] at hstp
          generalize hgt : (refStepF (feedF [] (l.take k)).2 l[k]).1 = got at *
          generalize htk : toldN l k = N at *
          have HSTP := hide hstp
          have HPTK := hide hpt
          have HTSK := hide hts
          have hjn : N + got.length ≤ L.length := by
            by_cases h0 : got.length = 0
            · omega
            · obtain ⟨h, _⟩ := hpt (got.length - 1) (by omega)
              omega
          clear hstp hpt hts hsn hnx hgt htk
          have hBL := hB2.flat_keep RGot.flat (Si' := fun _ => False) (So' := fun b => b < w3.heap.size) (w' := wr) (fun a u hs hc => ⟨hs.1, (hbel.cell hs.1).trans hc⟩)
          go_wp2_with fail
          refine HSTP.out.mono ?_
          rintro e w4 ⟨v4, rfl, hv4, hh4, hg4⟩
          have hbel4 := below_gb hbel hg4 (Nat.le_refl _) (by omega)
          have hsz4 := hg4.size
          obtain ⟨A4, c4, rfl, he1, he2, hB4⟩ := hv4.islc.open_
          have hBL4 := hBL.flat_keep RGot.flat (Si' := fun _ => False) (So' := fun b => b < w3.heap.size) (w' := w4) (fun a u hs hc => ⟨hs, (World.cell?_of_block (hg4.block a.block (by omega) (by intro e; injection e with e; omega))).trans hc⟩)
          go_wp2
          go_loopw [6, 9] (fun i j9 wi => ∃ j : Nat, j ≤ got.length ∧ j9 = .int .i64 j ∧ i = .int .i64 ((N : Int) + j) ∧ ∃ n, wi = w4.drewN n) (fun _ j9 _ => got.length - (intOf j9).toNat)
          case atStart => exact ⟨0, Nat.zero_le _, rfl, by simp, 0, rfl⟩
          case round =>
            obtain ⟨j, hj, rfl, rfl, n, rfl⟩ := hrel
            by_cases hjl : j < got.length
            · obtain ⟨hnl, hgr, hgk⟩ := HPTK.out j hjl
              obtain ⟨fb, fo, rfl, _, hcf, hwf⟩ := ints_at hB4 hjl
              obtain ⟨gb, go, rfl, _, q0, q1, q2, q3, q4⟩ := got_at hBL4 hnl
              rw [hgr] at q0
              rw [hgk] at q3
              generalize got[j] = gj at *
              generalize L[N + j] = lj at *
              have hge : decide ((L.length : Int) ≤ (N : Int) + j) = false := by simp; omega
              clear hgr hgk hwf
              go_wp2
              go_quiet (fail)
              clear hge
              go_wp2
              go_roundw
              case rel => exact ⟨j + 1, by omega, by go_num, by go_num, _, rfl⟩
              case measure => simp [intOf]; omega
            · go_wp2
              go_roundw
              case rel => exact ⟨k + 1, by omega, by go_num, by rw [HTSK.out]; go_num, by rw [HTSK.out]; omega, hh4.drewN n, below_drewN hbel4 n, by simpa using (by omega : w3.heap.size < w4.heap.size)⟩
              case measure => simp [intOf]; omega
        · obtain rfl : k = l.length := by omega
          rw [List.take_length] at hhk
          have hnl : ((toldN l l.length : Int) == (L.length : Int)) = true := by rw [HTA.out]; simp
          have hF := FlushH_ok _ _ _ hhk
          rw [HFL.out] at hF
          have HF := hide hF
          clear hF
          generalize toldN l l.length = N at *
          go_wp2_with fail
          refine HF.out.mono ?_
          rintro e w5 ⟨v5, rfl, hv5, hh5, hg5⟩
          obtain ⟨A5, c5, rfl, _, _, _⟩ := hv5.slc.open_
          have hbel5 := below_gb hbel hg5 (Nat.le_refl _) (by omega)
          go_wp2
          go_ret
          exact ⟨rfl, hb3'.trans (hbel5.mono hsz3)⟩
    · obtain ⟨A2, c2, rfl, hd1, hd2, _⟩ := (hv2.fslc RGot.flat).open_
      have hv2f := hv2.fslc RGot.flat
      have hv2s := hv2f.front (k := L.length) (by omega)
      rw [← hLt] at hv2s
      have hB2 := hv2s.slb
      have hLn2 : ((allF l).length : Int) - 1 = L.length := by omega
      have hgl : L.length ≤ l.length := by omega
      generalize tailF l = tl at *
      generalize (allF l).length = gn at *
      obtain rfl : gn = L.length + 1 := by omega
      clear hLn hLt hLn2
      have HFL := hide hfl
      clear hfl
      go_wp2
      go_loopw [6, 7] (fun i k7 wr => ∃ k : Nat, k ≤ l.length ∧ k7 = .int .i64 k ∧ i = .int .i64 (toldN l k) ∧ toldN l k ≤ L.length ∧ Holds wr w3.heap.size (feedF [] (l.take k)).2 ∧ Below w3.heap.size w3 wr ∧ w3.heap.size < wr.heap.size) (fun _ k7 _ => l.length - (intOf k7).toNat)
      case atStart => exact ⟨0, Nat.zero_le _, rfl, rfl, Nat.zero_le _, hg0, (Below.refl _ _).alloc (Nat.le_refl _) _, by simp⟩
      case round =>
        obtain ⟨k, hk, rfl, rfl, htn, hhk, hbel, hszk⟩ := hrel
        have hBk := hB.ints_keep (So' := fun b => b < w.heap.size) (fun a u hs hc => ⟨hs, ((hb3'.trans (hbel.mono hsz3)).cell hs).trans hc⟩)
        by_cases hlt : k < l.length
        · obtain ⟨ab, off, rfl, hab, hck, hwk⟩ := ints_at hBk hlt
          obtain ⟨hw0, hw1⟩ := u8_wf hwk
          have hpt := fun j hj => HPT.out k j hlt hj
          have hts := HTS.out k hlt
          have hsn := feedF_snoc (l.take k) [] l[k]
          rw [← take_snoc' l k hlt] at hsn
          have hstp := StepH_ok _ _ l[k] _ hhk hw0 hw1
          have hnx : (feedF [] (l.take (k + 1))).2 = (refStepF (feedF [] (l.take k)).2 l[k]).2 := by rw [hsn]
          rw [← hnx] at hstp
          generalize hgt : (refStepF (feedF [] (l.take k)).2 l[k]).1 = got at *
          generalize htk : toldN l k = N at *
          have HSTP := hide hstp
          have HPTK := hide hpt
          have HTSK := hide hts
          have hjn : N + got.length ≤ L.length := by
            by_cases h0 : got.length = 0
            · omega
            · obtain ⟨h, _⟩ := hpt (got.length - 1) (by omega)
              omega
          clear hstp hpt hts hsn hnx hgt htk
          have hBL := hB2.flat_keep RGot.flat (Si' := fun _ => False) (So' := fun b => b < w3.heap.size) (w' := wr) (fun a u hs hc => ⟨hs.1, (hbel.cell hs.1).trans hc⟩)
          go_wp2_with fail
          refine HSTP.out.mono ?_
          rintro e w4 ⟨v4, rfl, hv4, hh4, hg4⟩
          have hbel4 := below_gb hbel hg4 (Nat.le_refl _) (by omega)
          have hsz4 := hg4.size
          obtain ⟨A4, c4, rfl, he1, he2, hB4⟩ := hv4.islc.open_
          have hBL4 := hBL.flat_keep RGot.flat (Si' := fun _ => False) (So' := fun b => b < w3.heap.size) (w' := w4) (fun a u hs hc => ⟨hs, (World.cell?_of_block (hg4.block a.block (by omega) (by intro e; injection e with e; omega))).trans hc⟩)
          go_wp2
          go_loopw [6, 9] (fun i j9 wi => ∃ j : Nat, j ≤ got.length ∧ j9 = .int .i64 j ∧ i = .int .i64 ((N : Int) + j) ∧ ∃ n, wi = w4.drewN n) (fun _ j9 _ => got.length - (intOf j9).toNat)
          case atStart => exact ⟨0, Nat.zero_le _, rfl, by simp, 0, rfl⟩
          case round =>
            obtain ⟨j, hj, rfl, rfl, n, rfl⟩ := hrel
            by_cases hjl : j < got.length
            · obtain ⟨hnl, hgr, hgk⟩ := HPTK.out j hjl
              obtain ⟨fb, fo, rfl, _, hcf, hwf⟩ := ints_at hB4 hjl
              obtain ⟨gb, go, rfl, _, q0, q1, q2, q3, q4⟩ := got_at hBL4 hnl
              rw [hgr] at q0
              rw [hgk] at q3
              generalize got[j] = gj at *
              generalize L[N + j] = lj at *
              have hge : decide ((L.length : Int) ≤ (N : Int) + j) = false := by simp; omega
              clear hgr hgk hwf
              go_wp2
              go_quiet (fail)
              clear hge
              go_wp2
              go_roundw
              case rel => exact ⟨j + 1, by omega, by go_num, by go_num, _, rfl⟩
              case measure => simp [intOf]; omega
            · go_wp2
              go_roundw
              case rel => exact ⟨k + 1, by omega, by go_num, by rw [HTSK.out]; go_num, by rw [HTSK.out]; omega, hh4.drewN n, below_drewN hbel4 n, by simpa using (by omega : w3.heap.size < w4.heap.size)⟩
              case measure => simp [intOf]; omega
        · obtain rfl : k = l.length := by omega
          rw [List.take_length] at hhk
          have hnl : ((toldN l l.length : Int) == (L.length : Int)) = true := by rw [HTA.out]; simp
          have hF := FlushH_ok _ _ _ hhk
          rw [HFL.out] at hF
          have HF := hide hF
          clear hF
          generalize toldN l l.length = N at *
          go_wp2_with fail
          refine HF.out.mono ?_
          rintro e w5 ⟨v5, rfl, hv5, hh5, hg5⟩
          obtain ⟨A5, c5, rfl, _, _, _⟩ := hv5.slc.open_
          have hbel5 := below_gb hbel hg5 (Nat.le_refl _) (by omega)
          go_wp2
          go_ret
          exact ⟨rfl, hb3'.trans (hbel5.mono hsz3)⟩
  · have hl2 : decide ((1000 : Int) < (l.length : Int)) = true := by simp; omega
    go_enter Try.func13, Try.ntmps13
    go_wp2_with fail
    refine (works04_ok _).mono ?_
    rintro e w1 ⟨rfl, hb1⟩
    go_wp2_with fail
    refine (works04_ok _).mono ?_
    rintro e w2 ⟨rfl, hb2⟩
    go_wp2
    go_ret
    exact ⟨rfl, hb1.trans (hb2.mono hb1.size)⟩
end Go.Proofs.Ytfcjkmiaibakiaa
