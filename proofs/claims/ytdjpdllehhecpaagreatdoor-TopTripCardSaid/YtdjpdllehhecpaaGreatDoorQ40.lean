import Derived.Test.YtdjpdllehhecpaaGreatDoorQ37
import Derived.Test.YtdjpdllehhecpaaGreatDoorQ39
open List renaming getElem?_toArray → zA, getElem?_cons_succ → zB, getElem?_cons_zero → zC, setIfInBounds_toArray → zD, set_cons_zero → zE, set_cons_succ → zF
namespace Go.Proofs.YtdjpdllehhecpaaGreatDoor
open Go.RowKit
set_option linter.unusedVariables false
set_option linter.unusedSimpArgs false
def agV (W h r c : Int) (pd au : Bool) (s : Value) : Value := .agg #[.int .i64 W, .int .i64 h, s, .int .i64 r, .int .i64 c, .bool pd, .bool au]
theorem innerC_len (l : List CellV) : (innerC l).length ≤ l.length := by unfold innerC; split; simp; exact Nat.le_refl _
theorem outerC_len (l : List CellV) : (outerC l).length ≤ l.length := by unfold outerC; simp; exact Nat.min_le_right _ _
theorem innerC_mem {l : List CellV} {c : CellV} (h : c ∈ innerC l) : c ∈ l := by
  unfold innerC at h; split at h
  · exact List.mem_of_mem_take h
  · exact h
theorem outerC_mem {l : List CellV} {c : CellV} (h : c ∈ outerC l) : c ∈ l := List.mem_of_mem_take h
set_option maxHeartbeats 4000000 in
theorem rLines_ok (So Si : Nat → Prop) (W h r c : Int) (pd au : Bool) (x : Value) (ls : List LineV) (w : World) (hx : Slc RLine So Si w x ls) (hlen : ls.length ≤ 1000) (hall : ∀ l ∈ ls, l.1.length ≤ 1000 ∧ ∀ d ∈ l.1, d.2.length ≤ 16) :
    Calls Tryz.prog 55 #[agV W h r c pd au x] w fun e w' => ∃ s, e = .returned s ∧ Slc RRow (fun b => w.heap.size ≤ b ∧ b < w'.heap.size) (fun b => w.heap.size ≤ b ∧ b < w'.heap.size) w' s (longR ls []) ∧ Below w.heap.size w w' := by
  obtain ⟨A, cp, rfl, h1, h2, _⟩ := hx.open_
  obtain ⟨LR, hLR⟩ : ∃ LR, longR ls [] = LR := ⟨_, rfl⟩
  rw [hLR]
  unfold agV
  obtain ⟨w0, hw0⟩ : ∃ w0, w.alloc (.cells #[.int .i64 W, .int .i64 h, .slice A ls.length cp, .int .i64 r, .int .i64 c, .bool pd, .bool au] 41) = w0 := ⟨_, rfl⟩
  have hv0 : Blk w0 w.heap.size 41 #[.int .i64 W, .int .i64 h, .slice A ls.length cp, .int .i64 r, .int .i64 c, .bool pd, .bool au] := by rw [← hw0]; exact Blk.new w _ _
  have hb0 : Below w.heap.size w w0 := by rw [← hw0]; exact (Below.refl _ w).alloc (Nat.le_refl _) _
  have hx0 := hx.mono (Keep.below (S := So) hb0) (Keep.below (S := Si) hb0)
  have k2 := hv0.cell 2
  simp only [zA, zB, zC] at k2
  have HW0 := hide hw0
  have HALL := hide hall
  have HLR := hide hLR
  have hgl := hv0.lt
  clear hw0 hv0 hall hLR
  go_enter Tryz.func55, Tryz.ntmps55
  go_upto_region 1 with fail
  rw [HW0.out]
  go_wp2
  go_loopw [3, 4, 10] (fun so st i wr => ∃ (k : Nat) (ps : List (Value × List Int)) (t : List Int), k ≤ ls.length ∧ i = .int .i64 k ∧ Own RVal 24 [] w0.heap.size wr so (ps.map Prod.fst) ∧ (∀ p ∈ ps, LnR w0.heap.size st wr p.1 p.2) ∧ Own (Rep.int .i32) 21 [] w0.heap.size wr st t ∧ LR = ps.map Prod.snd ++ longR (ls.drop k) t ∧ ps.length ≤ k ∧ t.length ≤ 16000 * k ∧ Below w0.heap.size w0 wr) (fun _ _ i _ => ls.length - (intOf i).toNat)
  case atStart => exact ⟨0, [], [], Nat.zero_le _, rfl, Own.nil_ _ _ _ _ _ (by simp), fun p hp => (by cases hp), Own.nil_ _ _ _ _ _ (by simp), by rw [← HLR.out]; rfl, Nat.le_refl _, by simp, Below.refl _ _⟩
  case round =>
    obtain ⟨k, ps, t, hk, rfl, hov, hps, hot, hlr, hpk, htk, hbel⟩ := hrel
    have hsz := hbel.size
    by_cases hlt : k < ls.length
    · have hxr := hx0.mono (Keep.below (S := So) hbel) (Keep.below (S := Si) hbel)
      obtain ⟨b, off, v2, rfl, _, q0, q1, hv⟩ := line_at hxr.slb hlt
      have y2 := (hbel.cell (p := ⟨w.heap.size, 2, none⟩) hgl).trans k2
      have hal := HALL.out ls[k] (List.getElem_mem _)
      have hdr : ls.drop k = ls[k] :: ls.drop (k + 1) := List.drop_eq_getElem_cons hlt
      have hne : ls.drop (k + 1) ≠ [] ↔ k + 1 < ls.length := by rw [Ne, List.drop_eq_nil_iff]; omega
      rw [hdr, longR] at hlr
      obtain ⟨ln, hln⟩ : ∃ ln, ls[k] = ln := ⟨_, rfl⟩
      obtain ⟨cl, wrp⟩ := ln
      rw [hln] at q1 hv hal hlr
      simp only at q1 hv hal hlr
      obtain ⟨A2, c2, rfl, _, _, _⟩ := hv.open_
      obtain ⟨As, cs, rfl, _, _, _⟩ := (hov.fslc RVal.flat).open_
      rw [List.length_map] at hov
      obtain ⟨At, ct, rfl, _, _, _⟩ := hot.islc.open_
      have hq1 := hv.mono (Keep.alloc Si wr (.cells #[.slice A2 cl.length c2, .bool wrp] 50)) (Keep.alloc Si wr (.cells #[.slice A2 cl.length c2, .bool wrp] 50))
      have hb1 : Below wr.heap.size wr (wr.alloc (.cells #[.slice A2 cl.length c2, .bool wrp] 50)) := (Below.refl _ wr).alloc (Nat.le_refl _) _
      obtain ⟨w1, hw1⟩ : ∃ w1, wr.alloc (.cells #[.slice A2 cl.length c2, .bool wrp] 50) = w1 := ⟨_, rfl⟩
      have hl1 : Blk w1 wr.heap.size 50 #[.slice A2 cl.length c2, .bool wrp] := by rw [← hw1]; exact Blk.new wr _ _
      rw [hw1] at hq1 hb1
      have HOV := hide (hov.below hb1)
      have HOT := hide (hot.below hb1)
      have HPS := hide (fun p hp => (hps p hp).step (es := []) (B := 0) (Step.of_below hb1) (by simp))
      have hbe1 := hbel.trans (hb1.mono hsz)
      have y2 := (hb1.cell (p := ⟨w.heap.size, 2, none⟩) (by show w.heap.size < _; omega)).trans y2
      have z0 := hl1.cell 0
      have z1 := hl1.cell 1
      simp only [zA, zB, zC] at z0 z1
      have HBE := hide hbe1
      have HW1 := hide hw1
      have hz1 := hbe1.size
      have hIN := inner_ok Si Si _ cl w1 hq1 (by omega)
      have hOU := outer_ok Si Si _ cl w1 hq1 (by omega)
      have HIN := hide hIN
      have HOU := hide hOU
      have hRD := fun s (m : List CellV) (hs : Slc RCell Si Si w1 s m) (hm : ∀ d ∈ m, d ∈ cl) (hml : m.length ≤ cl.length) => read_ok Si Si s m w1 hs (by omega) (fun d hd => hal.2 d (hm d hd))
      have HRD := hide hRD
      have hRL := fun (m : List CellV) (hm : ∀ d ∈ m, d ∈ cl) (hml : m.length ≤ cl.length) => (Nat.le_trans (readC_len m (fun d hd => hal.2 d (hm d hd))) (by have := hal.1; omega) : (readC m).length ≤ 16000)
      have HRL := hide hRL
      have hki : (k : Int) < ls.length := by omega
      have hkp : ps.length ≤ 1000 := by omega
      have htp : t.length ≤ 16000000 := by omega
      have hwl2 : (wr.heap.size : Nat) < w1.heap.size := hl1.lt
      have HHN := hide hlt
      have HNE := hide hne
      have HHL := hide hlr
      have HX := hide hx0
      clear hIN hOU hRD hRL hlr hne hv hq1 hb1 hbe1 hw1 hl1 hov hps hot hdr hln hx hx0 hxr hal
      cases wrp with
      | false =>
        go_upto_region 6 with fail
        rw [HW1.out]
        go_wp2_with fail
        refine HOU.out.mono ?_
        rintro e w2 ⟨s2, rfl, hs2, rfl⟩
        obtain ⟨A3, c3, rfl, _, _, _⟩ := hs2.open_
        have hrd := HRD.out _ _ hs2 (fun d hd => outerC_mem hd) (outerC_len cl)
        have HR := hide hrd
        have hrl := HRL.out _ (fun d hd => outerC_mem hd) (outerC_len cl)
        clear hs2 hrd
        go_wp2_with fail
        refine HR.out.mono ?_
        rintro e w3 ⟨s3, rfl, hs3, hb3⟩
        obtain ⟨A4, c4, rfl, _, _, _⟩ := hs3.islc.open_
        have hot3 := HOT.out.below hb3
        have hov3 := HOV.out.below hb3
        have HPS3 := hide (fun p hp => (HPS.out p hp).step (es := []) (B := 0) (Step.of_below hb3) (by simp))
        have HB3 := hide hb3
        have hz3 := hb3.size
        have HOV3 := hide hov3
        have HS3 := hide hs3
        clear hb3 hs3 hov3
        go_upto_region 9 with (first | (at_builtin; refine wpList_appg rfl (.tmp 32) (.tmp 36) 24 rfl (Rep.int .i32) 21 [] w0.heap.size 4 _ Tryz.underlying24 i32_info rfl (by decide) (by decide) (.slice At t.length ct) _ rfl hot3 _ (fun _ => False) _ (readC (outerC cl)) rfl (HS3.out.islc.ints_any _) (fun _ h => h.elim) (by omega) (by omega) ?_; intro v5 w5 hv5 hst5 hg5 ho5; obtain ⟨A5, n5, c5, rfl⟩ : ∃ A5 n5 c5, v5 = .slice A5 n5 c5 := (by obtain ⟨A, c, e, _⟩ := hv5.islc.open_; exact ⟨A, _, c, e⟩); have HPS5 := hide (fun p hp => (HPS3.out p hp).turn hg5 ho5); have hov5 := (HOV3.out.flat_step RVal.flat hst5 (by decide)).alloc (.cells #[.slice A5 n5 c5] 24); have hone := Slc.lit1 (R := RVal) (Si := fun _ => False) (Si' := fun _ => False) (w := w5) (x := (.slice A5 n5 c5 : Value)) (u := [.slice A5 n5 c5]) 24 ⟨rfl, rfl⟩ (fun _ _ h => h.elim); have hz5 := hst5.size; have HST5 := hide hst5; have HV5 := hide hv5; clear hst5 hg5 ho5 hv5 hot3) | (at_builtin; refine wpList_appg rfl (.tmp 31) (.tmp 38) 28 rfl RVal 24 [] w0.heap.size 24 _ Tryz.underlying28 line24_info rfl (by decide) (by decide) _ _ rfl hov5 _ (fun _ => False) _ [(.slice A5 n5 c5 : Value)] rfl hone (fun _ h => h.elim) (by simp; omega) (by simp; omega) ?_; intro v6 w6 hv6 hst6 hg6 ho6; have HV6 := hide hv6; have HST6 := hide hst6; clear hv6 hst6 hg6 ho6 hov5 hone))
        go_wp2
        go_roundw
        have hbl6 : Below w0.heap.size w1 w6 := (((HB3.out.mono hz1).trans (HST5.out.below (by omega))).alloc (by omega) _).trans (HST6.out.below (by simp; omega))
        case rel =>
          refine ⟨k + 1, ps ++ [(.slice A5 n5 c5, t ++ readC (outerC cl))], [], by omega, by go_num, ?_, fun p hp => ?_, Own.nil_ _ _ _ _ _ (by simp), ?_, by simp; omega, by simp, HBE.out.trans hbl6⟩
          · rw [List.map_append]; exact HV6.out
          · have hsa : Step 0 [] w5 (w5.alloc (.cells #[.slice A5 n5 c5] 24)) := Step.alloc1 _ _ _ _
            rcases List.mem_append.1 hp with hp | hp
            · exact (((HPS5.out p hp).step hsa (by simp)).step HST6.out (by decide)).to (Nat.le_refl _) (fun k _ _ _ _ => ⟨rfl, by simp [Value.ownBlock]⟩)
            · rw [List.mem_singleton] at hp
              subst hp
              exact ((HV5.out.ints_step hsa (by simp)).ints_step HST6.out (by decide)).islc.ints_keep (Keep.weaken (fun b hb => ⟨hb.2.1, hb.1, by simp [Value.ownBlock], hb.2.2⟩))
          · rw [HHL.out, if_neg (by simp), List.map_append, List.append_assoc]; rfl
        case measure => simp [intOf]; omega
      | true =>
        by_cases hlast : k + 1 < ls.length
        · have hl2 : (k : Int) < (ls.length : Int) - 1 := by omega
          go_upto_region 6 with fail
          rw [HW1.out]
          go_wp2_with fail
          refine HIN.out.mono ?_
          rintro e w2 ⟨s2, rfl, hs2, rfl⟩
          obtain ⟨A3, c3, rfl, _, _, _⟩ := hs2.open_
          have hrd := HRD.out _ _ hs2 (fun d hd => innerC_mem hd) (innerC_len cl)
          have HR := hide hrd
          have hrl := HRL.out _ (fun d hd => innerC_mem hd) (innerC_len cl)
          clear hs2 hrd
          go_wp2_with fail
          refine HR.out.mono ?_
          rintro e w3 ⟨s3, rfl, hs3, hb3⟩
          obtain ⟨A4, c4, rfl, _, _, _⟩ := hs3.islc.open_
          have hot3 := HOT.out.below hb3
          have hov3 := HOV.out.below hb3
          have HPS3 := hide (fun p hp => (HPS.out p hp).step (es := []) (B := 0) (Step.of_below hb3) (by simp))
          have HB3 := hide hb3
          have hz3 := hb3.size
          have HOV3 := hide hov3
          have HS3 := hide hs3
          clear hb3 hs3 hov3
          go_wp2_with (at_builtin; refine wpList_appg rfl (.tmp 25) (.tmp 29) 24 rfl (Rep.int .i32) 21 [] w0.heap.size 4 _ Tryz.underlying24 i32_info rfl (by decide) (by decide) (.slice At t.length ct) _ rfl hot3 _ (fun _ => False) _ (readC (innerC cl)) rfl (HS3.out.islc.ints_any _) (fun _ h => h.elim) (by omega) (by omega) ?_; intro v5 w5 hv5 hst5 hg5 ho5; have HPS5 := hide (fun p hp => (HPS3.out p hp).turn hg5 ho5); have hz5 := hst5.size; have HST5 := hide hst5; have HV5 := hide hv5; clear hst5 hg5 ho5 hv5 hot3)
          go_roundw
          have hbl5 : Below w0.heap.size w1 w5 := (HB3.out.mono hz1).trans (HST5.out.below (by omega))
          case rel =>
            refine ⟨k + 1, ps, t ++ readC (innerC cl), by omega, by go_num, HOV3.out.flat_step RVal.flat HST5.out (by decide), HPS5.out, HV5.out, ?_, by omega, by rw [List.length_append]; omega, HBE.out.trans hbl5⟩
            rw [HHL.out, if_pos ⟨trivial, HNE.out.2 hlast⟩]
          case measure => simp [intOf]; omega
        · have hl2 : ¬ (k : Int) < (ls.length : Int) - 1 := by omega
          have hl3 : (ls.length : Int) - 1 ≤ k := by omega
          go_upto_region 6 with fail
          rw [HW1.out]
          go_wp2_with fail
          refine HOU.out.mono ?_
          rintro e w2 ⟨s2, rfl, hs2, rfl⟩
          obtain ⟨A3, c3, rfl, _, _, _⟩ := hs2.open_
          have hrd := HRD.out _ _ hs2 (fun d hd => outerC_mem hd) (outerC_len cl)
          have HR := hide hrd
          have hrl := HRL.out _ (fun d hd => outerC_mem hd) (outerC_len cl)
          clear hs2 hrd
          go_wp2_with fail
          refine HR.out.mono ?_
          rintro e w3 ⟨s3, rfl, hs3, hb3⟩
          obtain ⟨A4, c4, rfl, _, _, _⟩ := hs3.islc.open_
          have hot3 := HOT.out.below hb3
          have hov3 := HOV.out.below hb3
          have HPS3 := hide (fun p hp => (HPS.out p hp).step (es := []) (B := 0) (Step.of_below hb3) (by simp))
          have HB3 := hide hb3
          have hz3 := hb3.size
          have HOV3 := hide hov3
          have HS3 := hide hs3
          clear hb3 hs3 hov3
          go_upto_region 9 with (first | (at_builtin; refine wpList_appg rfl (.tmp 32) (.tmp 36) 24 rfl (Rep.int .i32) 21 [] w0.heap.size 4 _ Tryz.underlying24 i32_info rfl (by decide) (by decide) (.slice At t.length ct) _ rfl hot3 _ (fun _ => False) _ (readC (outerC cl)) rfl (HS3.out.islc.ints_any _) (fun _ h => h.elim) (by omega) (by omega) ?_; intro v5 w5 hv5 hst5 hg5 ho5; obtain ⟨A5, n5, c5, rfl⟩ : ∃ A5 n5 c5, v5 = .slice A5 n5 c5 := (by obtain ⟨A, c, e, _⟩ := hv5.islc.open_; exact ⟨A, _, c, e⟩); have HPS5 := hide (fun p hp => (HPS3.out p hp).turn hg5 ho5); have hov5 := (HOV3.out.flat_step RVal.flat hst5 (by decide)).alloc (.cells #[.slice A5 n5 c5] 24); have hone := Slc.lit1 (R := RVal) (Si := fun _ => False) (Si' := fun _ => False) (w := w5) (x := (.slice A5 n5 c5 : Value)) (u := [.slice A5 n5 c5]) 24 ⟨rfl, rfl⟩ (fun _ _ h => h.elim); have hz5 := hst5.size; have HST5 := hide hst5; have HV5 := hide hv5; clear hst5 hg5 ho5 hv5 hot3) | (at_builtin; refine wpList_appg rfl (.tmp 31) (.tmp 38) 28 rfl RVal 24 [] w0.heap.size 24 _ Tryz.underlying28 line24_info rfl (by decide) (by decide) _ _ rfl hov5 _ (fun _ => False) _ [(.slice A5 n5 c5 : Value)] rfl hone (fun _ h => h.elim) (by simp; omega) (by simp; omega) ?_; intro v6 w6 hv6 hst6 hg6 ho6; have HV6 := hide hv6; have HST6 := hide hst6; clear hv6 hst6 hg6 ho6 hov5 hone))
          go_wp2
          go_roundw
          have hbl6 : Below w0.heap.size w1 w6 := (((HB3.out.mono hz1).trans (HST5.out.below (by omega))).alloc (by omega) _).trans (HST6.out.below (by simp; omega))
          case rel =>
            refine ⟨k + 1, ps ++ [(.slice A5 n5 c5, t ++ readC (outerC cl))], [], by omega, by go_num, ?_, fun p hp => ?_, Own.nil_ _ _ _ _ _ (by simp), ?_, by simp; omega, by simp, HBE.out.trans hbl6⟩
            · rw [List.map_append]; exact HV6.out
            · have hsa : Step 0 [] w5 (w5.alloc (.cells #[.slice A5 n5 c5] 24)) := Step.alloc1 _ _ _ _
              rcases List.mem_append.1 hp with hp | hp
              · exact (((HPS5.out p hp).step hsa (by simp)).step HST6.out (by decide)).to (Nat.le_refl _) (fun k _ _ _ _ => ⟨rfl, by simp [Value.ownBlock]⟩)
              · rw [List.mem_singleton] at hp
                subst hp
                exact ((HV5.out.ints_step hsa (by simp)).ints_step HST6.out (by decide)).islc.ints_keep (Keep.weaken (fun b hb => ⟨hb.2.1, hb.1, by simp [Value.ownBlock], hb.2.2⟩))
            · rw [HHL.out, if_neg (by rintro ⟨_, h⟩; exact hlast (HNE.out.1 h)), List.map_append, List.append_assoc]; rfl
          case measure => simp [intOf]; omega
    · have hkl : k = ls.length := by omega
      rw [hkl, List.drop_length, longR, List.append_nil] at hlr
      obtain ⟨As, cs, rfl, _, _, _⟩ := (hov.fslc RVal.flat).open_
      have hrr := rows_slc (Si := fun b => w.heap.size ≤ b ∧ b < wr.heap.size) ((hov.fslc RVal.flat).mono (So' := fun b => w.heap.size ≤ b ∧ b < wr.heap.size) (Keep.weaken (fun b hb => ⟨by have := hb.2.1; omega, hb.1⟩)) (Keep.refl _ _)) (fun p hp => (hps p hp).ints_keep (Keep.weaken (fun b hb => ⟨by have := hb.1; omega, hb.2.1⟩)))
      rw [← hlr] at hrr
      have HRR := hide hrr
      have y2 := (hbel.cell (p := ⟨w.heap.size, 2, none⟩) hgl).trans k2
      have hbf := hide (hb0.trans (hbel.mono (by omega)))
      clear hrr hlr hov hps hot hkl
      go_wp2
      go_ret
      exact ⟨_, rfl, HRR.out, hbf.out⟩
end Go.Proofs.YtdjpdllehhecpaaGreatDoor
