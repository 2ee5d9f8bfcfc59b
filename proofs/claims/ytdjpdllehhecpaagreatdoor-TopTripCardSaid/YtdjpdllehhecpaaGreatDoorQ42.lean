import Derived.Test.YtdjpdllehhecpaaGreatDoorQ29
import Derived.Test.YtdjpdllehhecpaaGreatDoorQ36
import Derived.Test.YtdjpdllehhecpaaGreatDoorQ41
import Derived.Lib.SlBytesConst
import Derived.Test.YtdjpdllehhecpaaGreatDoorQ39
import Derived.Test.YtdjpdllehhecpaaGreatDoorQ16
open List renaming getElem?_toArray → zA, getElem?_cons_succ → zB, getElem?_cons_zero → zC, setIfInBounds_toArray → zD, set_cons_zero → zE, set_cons_succ → zF
namespace Go.Proofs.YtdjpdllehhecpaaGreatDoor
open Go.RowKit
set_option linter.unusedVariables false
set_option linter.unusedSimpArgs false
theorem rows_small {W h : Nat} {l : List Int} (hW : 2 ≤ W) (ht : TextOk l) : ∀ x ∈ (penS W h l).rows, x.1.length = W ∧ soundB x.1 = true ∧ ∀ c ∈ x.1, c.2.length ≤ 16 := by
  intro x hx
  have hl : LayOk W (layS W l) := LayOk.all hW propF _ (cl_txok propF_ok ht.val ht.short)
  obtain ⟨h1, h2⟩ := rows_sound hl x hx
  exact ⟨h1, h2, sound_len h2⟩
theorem rows_len {W h : Nat} {l : List Int} (hh : (layS W l).out.length < h) : (penS W h l).rows.length = h := by
  show (rowsL W h (layS W l)).length = h
  unfold rowsL
  simp
  omega
theorem field_lines (a b c d e f : Value) (A : Option Addr) (n cap : Nat) (W : World) : (Instr.field 41 (.agg #[a, b, .slice A n cap, c, d, e, f]) 2).run Tryz.prog W = .ok (.slice A n cap) W := by
  simp [Instr.field, part, asAgg, go_sem, Tryz.underlying41]
set_option maxRecDepth 10000 in
set_option maxHeartbeats 4000000 in
theorem trips_ok (w : World) :
    Calls Tryz.prog 4 #[] w fun e w' => e = .returned (.bool true) ∧ Below w.heap.size w w' := by
  have HN := hide (ScnNew_ok 2 2 (by decide) (by decide) (by decide) (by decide) w)
  have hsm := rows_small (W := 2) (h := 2) (by decide) t_ok
  have hrl := rows_len (W := 2) (h := 2) (l := [97, 19968]) (by rw [t_out]; decide)
  obtain ⟨v, hv⟩ : ∃ v, penS 2 2 [97, 19968] = v := ⟨_, rfl⟩
  have hvr : v.rows = rowsL 2 2 (layS 2 [97, 19968]) := by rw [← hv]; rfl
  have hbk : textR v.rows = [97, 19968] := by rw [hvr]; exact t_back
  have hwr : (v.rows.getD 0 ([], false)).2 = true := by rw [hvr]; exact t_wrap
  rw [hv] at hsm hrl
  have HBK := hide hbk
  have HSM := hide hsm
  have HV := hide hv
  have HRL := hide hrl
  have HWR := hide hwr
  clear hsm hrl hbk hwr hvr hv
  unfold ptrB at HN
  go_enter Tryz.func4, Tryz.ntmps4
  go_wp2_with fail
  refine HN.out.mono ?_
  rintro e w1 ⟨I, f, sc, rfl, hIW, hIh, hq1, hb1⟩
  obtain ⟨w2, hw2⟩ : ∃ w2, w1.alloc (.cells #[.int .u8 97, .int .u8 228, .int .u8 184, .int .u8 128] 5 (4, 5)) = w2 := ⟨_, rfl⟩
  have hcv : (convert 22 22 (.slice (some ⟨w1.heap.size, 0, none⟩) 4 4)).run Tryz.prog (w1.alloc (.cells #[.int .u8 97, .int .u8 228, .int .u8 184, .int .u8 128] 5)) = .ok (.slice (some ⟨w1.heap.size, 0, none⟩) 4 4) w2 := by
    rw [← hw2]
    exact Lib.run_convert_bytes_const w1 22 5 #[.int .u8 97, .int .u8 228, .int .u8 184, .int .u8 128] 4 4 Tryz.underlying22 Tryz.underlying5
  have hb2 : Below w1.heap.size w1 w2 := by rw [← hw2]; exact (Below.refl _ w1).alloc (Nat.le_refl _) _
  have hz2 : w2.heap.size = w1.heap.size + 1 := by rw [← hw2, World.size_alloc]
  have hlit : Slc (Rep.int .u8) (fun k => k = w1.heap.size) (fun _ => False) w2 (.slice (some ⟨w1.heap.size, 0, none⟩) 4 4) [97, 228, 184, 128] := by
    refine ⟨_, 4, rfl, Nat.le_refl _, by simp [maxLen], _, els_ints .u8 _ w2 [97, 228, 184, 128] (by decide), fun _ => ⟨_, rfl, rfl, fun j u hu => ?_⟩⟩
    rw [← hw2]
    have : (⟨w1.heap.size, 0, none⟩ : Addr).add j = ⟨w1.heap.size, j, none⟩ := by simp [Addr.add]; omega
    rw [this, World.cell?_alloc_mark]
    rw [← hu]
    simp
  have hq2 := hq1.below hb2
  have hno : ¬ FedS w.heap.size I f w2 w1.heap.size := by
    obtain ⟨ov, h1, _⟩ := hq1.fed.blk
    rintro (e | e | ⟨_, e⟩)
    · have := h1.lt; omega
    · have := hq1.fed.pen.sLt e; omega
    · obtain ⟨cs, t, fz, hh, ht⟩ := e
      rw [← hw2, World.alloc_heap_new] at hh
      injection hh with hh
      injection hh with _ ht2
      rw [← ht2] at ht
      exact absurd ht (by decide)
  have hdo := DoFeed_ok w.heap.size I f sc [] [] [97, 228, 184, 128] _ _ _ w2 hq2 hlit (fun k hk => ⟨by omega, by rw [hk]; exact hno⟩) (by rw [t_feed]; exact t_sil) (by rw [t_feed]; exact t_ok) (by rw [t_feed, hIW, hIh, show [] ++ ([97, 19968], ([] : List Int)).1 = ([97, 19968] : List Int) from rfl, t_out]; decide) (by decide)
  rw [t_feed, show [] ++ ([97, 19968], ([] : List Int)).1 = ([97, 19968] : List Int) from rfl] at hdo
  simp only at hdo
  unfold ptrB opA at hdo
  have hbw2 : Below w.heap.size w w2 := hb1.trans (hb2.mono hb1.size)
  have HDO := hide hdo
  have HBW := hide hbw2
  have hz1 := hb1.size
  have HLO := hide hq2.lo
  clear hlit hw2 hb2 hq2 hno hdo hbw2 hq1 hb1 hz2
  go_wp2_with (go_at_call 15; refine HDO.out.mono ?_; rintro e w3 ⟨rfl, hq3, hc3⟩; have HQ3 := hide hq3; have HBW3 := hide (HBW.out.trans (hc3.below (fun k hk => by have hlo := HLO.out; rcases hk with e | e | e; rw [e]; exact hlo.1; exact hlo.2.2 k e; exact e.1) HBW.out.size)); clear hq3 hc3)
  have hvw := fun W (hb : Below w3.heap.size w3 W) => View_ok I f sc (penS I.W I.h [97, 19968]) W (HQ3.out.below hb).scn (HQ3.out.below hb).fed.pen (by rw [hIW, hIh, HV.out]; exact fun x hx => (HSM.out x hx).2.2)
  rw [hIW, hIh, HV.out] at hvw
  unfold ptrB at hvw
  have HVW := hide hvw
  clear hvw
  refine (HVW.out w3 (Below.refl _ _)).mono ?_
  rintro e w4 ⟨s4, rfl, hs4, hb4⟩
  have hby := dBytes_ok _ _ ((2 : Nat) : Int) ((2 : Nat) : Int) v.r v.c v.pd true s4 v.rows w4 hs4 (by rw [HRL.out]; decide) (fun l hl => ⟨by rw [(HSM.out l hl).1]; decide, (HSM.out l hl).2.2⟩) (by rw [HBK.out]; decide) (by rw [HBK.out]; exact t_ok.val)
  unfold agV at hby
  rw [HBK.out, t_put] at hby
  have HBY := hide hby
  have HB4 := hide hb4
  obtain ⟨A4, c4, rfl, _, _, _⟩ := hs4.open_
  have h2 : ((strOfNums [97, 228, 184, 128]).toList == ([97, 228, 184, 128] : List UInt8)) = true := by kernel_rfl
  clear hby hs4 hb4
  go_wp2_with fail
  refine HBY.out.mono ?_
  rintro e w5 ⟨s5, rfl, hs5, hb5⟩
  obtain ⟨A5, c5, rfl, _, _, _⟩ := hs5.islc.open_
  have h1 : (convert 22 9 (.slice A5 4 c5)).run Tryz.prog w5 = .ok (.string (strOfNums [97, 228, 184, 128])) w5 := run_str (P := Tryz.prog) hs5.islc 22 9 5 Tryz.underlying22 Tryz.underlying5 Tryz.underlying9
  have hb35 := HB4.out.trans (hb5.mono HB4.out.size)
  have HB35 := hide hb35
  have hv5 := HVW.out w5 hb35
  have HV5 := hide hv5
  clear hs5 hb5 hb35 hv5
  go_wp2_with (go_at_call 9; refine HV5.out.mono ?_; rintro e w6 ⟨s6, rfl, hs6, hb6⟩; have HB6 := hide hb6; obtain ⟨A6, c6, rfl, _, _, _⟩ := hs6.open_; have hlt6 : 0 < v.rows.length := (by rw [HRL.out]; decide); obtain ⟨b6, o6, v6, rfl, _, _, q6, _⟩ := line_at hs6.slb hlt6; have hw6 : v.rows[0].2 = true := (by rw [← HWR.out, List.getD_eq_getElem?_getD, List.getElem?_eq_getElem hlt6]; rfl); rw [hw6] at q6; have hfl := field_lines (.int .i64 2) (.int .i64 2) (.int .i64 v.r) (.int .i64 v.c) (.bool v.pd) (.bool true) (some ⟨b6, o6, none⟩) v.rows.length c6 w6; clear hs6 hb6 hw6)
  go_ret
  exact ⟨rfl, HBW3.out.trans ((HB35.out.trans (HB6.out.mono HB35.out.size)).mono HBW3.out.size)⟩
end Go.Proofs.YtdjpdllehhecpaaGreatDoor
namespace Go.Proofs.YtdjpdllehhecpaaGreatDoor
open Go.RowKit
set_option linter.unusedVariables false
set_option linter.unusedSimpArgs false
theorem mod30 (a : Int) : ∃ W : Nat, wrap64 (2 + wrap64 ((IntKind.u64.wrap a).tmod 30)) = W ∧ 2 ≤ W ∧ W ≤ 31 := by
  have h : 0 ≤ IntKind.u64.wrap a := by rw [IntKind.wrap_u64]; omega
  have h2 : (IntKind.u64.wrap a).tmod 30 = (IntKind.u64.wrap a) % 30 := Int.tmod_eq_emod_of_nonneg h
  refine ⟨(2 + (IntKind.u64.wrap a) % 30).toNat, ?_, by omega, by omega⟩
  rw [h2]
  unfold wrap64
  omega
theorem modN (a : Int) (n : Nat) (hn : n ≤ 400) : ∃ k : Nat, wrap64 ((IntKind.u64.wrap a).tmod ((n : Int) + 1)) = k ∧ k ≤ n := by
  have h : 0 ≤ IntKind.u64.wrap a := by rw [IntKind.wrap_u64]; omega
  have h2 : (IntKind.u64.wrap a).tmod ((n : Int) + 1) = (IntKind.u64.wrap a) % ((n : Int) + 1) := Int.tmod_eq_emod_of_nonneg h
  have h3 := Int.emod_nonneg (IntKind.u64.wrap a) (b := (n : Int) + 1) (by omega)
  have h4 := Int.emod_lt_of_pos (IntKind.u64.wrap a) (b := (n : Int) + 1) (by omega)
  refine ⟨((IntKind.u64.wrap a) % ((n : Int) + 1)).toNat, ?_, by omega⟩
  rw [h2]
  obtain ⟨m, hm⟩ : ∃ m, IntKind.u64.wrap a % ((n : Int) + 1) = m := ⟨_, rfl⟩
  rw [hm] at h3 h4 ⊢
  unfold wrap64
  omega
theorem clus_small (l : List Int) : (clusOf (clL propF cl0 l)).length ≤ l.length := by
  have := flat_len (cs := clusOf (clL propF cl0 l)) (fun y hy => by obtain ⟨r, t, rfl, _⟩ := cl_ones propF propF_ok l y hy; simp)
  rwa [cl_flat] at this
set_option maxRecDepth 10000 in
set_option maxHeartbeats 8000000 in
theorem walk_TopTrip (x : Value) (b : List Int) (at_ wv : Int) (w : World) (hx : Slc (Rep.int .u8) (fun k => k < w.heap.size) (fun k => k < w.heap.size) w x b) (hat : (Lit.int .i64 at_).wf = true) (hwv : (Lit.int .i64 wv).wf = true) :
    Calls Tryz.prog 3 #[x, .int .i64 at_, .int .i64 wv] w fun e w' => e = .returned (.bool true) ∧ Below w.heap.size w w' := by
  obtain ⟨a0, a1⟩ := i64_wf hat
  obtain ⟨v0, v1⟩ := i64_wf hwv
  obtain ⟨A, c, rfl, hc1, hc2, _⟩ := hx.open_
  have HT := hide trips_ok
  have HX := hide hx
  clear hx hat hwv
  go_enter Tryz.func3, Tryz.ntmps3
  go_wp2_with fail
  refine (HT.out w).mono ?_
  rintro e w1 ⟨rfl, hb1⟩
  by_cases hlen : (400 : Int) < b.length
  · go_wp2_with (go_at_call 4; refine (HT.out _).mono ?_; rintro e w2 ⟨rfl, hb2⟩)
    go_ret
    exact ⟨rfl, hb1.trans (hb2.mono hb1.size)⟩
  · have hln : (b.length : Int) ≤ 400 := by omega
    have HPL := hide (plain_ok _ _ _ b w1 ((HX.out.ints_any (fun _ => False)).ints_keep (Keep.below hb1)) (by omega))
    have HB1 := hide hb1
    clear hb1
    go_wp2_with fail
    refine HPL.out.mono ?_
    rintro e w2 ⟨v2, rfl, hv2, hb2⟩
    have HB2 := hide (HB1.out.trans (hb2.mono HB1.out.size))
    cases hpo : plainOk b with
    | false =>
      clear hv2 hb2
      go_wp2
      go_ret
      exact ⟨rfl, HB2.out⟩
    | true =>
      have hl2 := hv2 hpo
      obtain ⟨p1, p2, p3⟩ := plain_parts hpo
      obtain ⟨A2, c2, rfl, _, _, _⟩ := hl2.islc.open_
      have HL2 := hide hl2
      have HP := hide (And.intro p1 (And.intro p2 p3))
      clear hv2 hb2 p1 p2 p3 hl2 hpo
      go_upto_region 7 with fail
      obtain ⟨W, hW, hW2, hW31⟩ := mod30 wv
      rw [hW]
      clear hW v0 v1
      have hll := runesF_len b
      have hcs := clus_small (runesF b)
      obtain ⟨l, hl⟩ : ∃ l, runesF b = l := ⟨_, rfl⟩
      rw [hl] at hll HL2 HP hcs ⊢
      have HLE := hide hl
      have hlb : l.length ≤ 400 := by omega
      have hFL := fLines_ok _ _ _ l W w2 HL2.out.islc (fun k hk => hk.1) (by omega) HP.out.2.1 HP.out.2.2 hW2 (by omega)
      have hlfl : (linesF W propF (clusOf (clL propF cl0 l))).length ≤ 401 := by
        rw [lines_len]
        exact Nat.succ_le_succ (Nat.le_trans (out_le W propF _) (Nat.le_trans hcs hlb))
      obtain ⟨LF, hLF⟩ : ∃ LF, linesF W propF (clusOf (clL propF cl0 l)) = LF := ⟨_, rfl⟩
      rw [hLF] at hFL hlfl
      have HFL := hide hFL
      have HLF := hide hLF
      have HLL := hide hlfl
      clear hFL hlfl hl hcs hLF
      go_wp2_with fail
      refine HFL.out.mono ?_
      rintro e w3 ⟨s3, rfl, hs3, hb3⟩
      obtain ⟨A3, c3, rfl, _, _, _⟩ := hs3.open_
      have HS3 := hide hs3
      have HB3 := hide (HB2.out.trans (hb3.mono HB2.out.size))
      have hn3 : LF.length ≤ 401 := HLL.out
      have HNW := hide (ScnNew_ok W (LF.length + 1) hW2 (by omega) (by omega) (by omega) w3)
      clear hs3 hb3 hlen HFL
      unfold ptrB at HNW
      have hn3I : (LF.length : Int) ≤ 401 := by omega
      have hcst : (((LF.length + 1 : Nat)) : Int) = (LF.length : Int) + 1 := by omega
      rw [hcst] at HNW
      go_wp2_with fail
      refine HNW.out.mono ?_
      rintro e w4 ⟨I, f, sc, rfl, hIW, hIh, hq4, hb4⟩
      go_upto_region 10 with fail
      obtain ⟨k, hk, hkb⟩ := modN at_ b.length (by omega)
      rw [hk]
      have hkI : (k : Int) ≤ b.length := by omega
      have hkc : (k : Int) ≤ c := by omega
      have hbc : (b.length : Int) ≤ c := by omega
      clear hk a0 a1
      have HQ4 := hide hq4
      have HB4 := hide hb4
      have HBT : Hid (Bytes b) := hide (fun n hn => u8_wf (HX.out.ints_wf n hn))
      have hvt := valid_text HBT.out HP.out.1
      rw [HLE.out] at hvt
      have HTX := hide (show TextOk l from ⟨hvt.1, HP.out.2.2⟩)
      have HPB := hide hvt.2
      have HROOM := hide (show (layS W l).out.length < LF.length + 1 by
        show (layF W propF (clusOf (clL propF cl0 l))).out.length < LF.length + 1
        rw [← HLF.out, lines_len]
        exact Nat.lt_succ_of_lt (Nat.lt_succ_self _))
      clear hvt hq4 hb4
      refine wp_region_held_drew (S := fun w' => True) (by kernel_rfl) trivial (fun hHeld => ?_)
      refine wpAnyH_take (i := 0) (oi := ?_) (v := ?_) ?_ (by kernel_rfl) (by kernel_rfl) (by kernel_rfl) ?_ (Or.inl ⟨?_, ?_⟩) (by assumption) ?_
      rotate_left 2
      · (simp only [zA, zB, zC]; rfl)
      rotate_left 1
      · rfl
      · (intro w hSw; (try dsimp only at hSw); go_simp; try with_reducible rfl)
      rotate_left 1
      · exact fun _ _ _ h => h
      try simp only [Act.put, zD, zE, zF]
      refine wpAnyH_take (i := 1) (oi := ?_) (v := ?_) ?_ (by kernel_rfl) (by kernel_rfl) (by kernel_rfl) ?_ (Or.inl ⟨?_, ?_⟩) (by assumption) ?_
      rotate_left 2
      · (simp only [zA, zB, zC]; rfl)
      rotate_left 1
      · rfl
      · (intro w hSw; (try dsimp only at hSw); go_simp; try with_reducible rfl)
      rotate_left 1
      · exact fun _ _ _ h => h
      try simp only [Act.put, zD, zE, zF]
      refine wpAnyH_take (i := 2) (oi := ?_) (v := ?_) ?_ (by kernel_rfl) (by kernel_rfl) (by kernel_rfl) ?_ (Or.inl ⟨?_, ?_⟩) (by assumption) ?_
      rotate_left 2
      · (simp only [zA, zB, zC]; rfl)
      rotate_left 1
      · rfl
      · (intro w hSw; (try dsimp only at hSw); go_simp; try with_reducible rfl)
      rotate_left 1
      · exact fun _ _ _ h => h
      try simp only [Act.put, zD, zE, zF]
      refine wpAnyH_take (i := 3) (oi := ?_) (v := ?_) ?_ (by kernel_rfl) (by kernel_rfl) (by kernel_rfl) ?_ (Or.inl ⟨?_, ?_⟩) (by assumption) ?_
      rotate_left 2
      · (simp only [zA, zB, zC]; rfl)
      rotate_left 1
      · rfl
      · (intro w hSw; (try dsimp only at hSw); go_simp; try with_reducible rfl)
      rotate_left 1
      · exact fun _ _ _ h => h
      try simp only [Act.put, zD, zE, zF]
      refine wpAnyH_take (i := 4) (oi := ?_) (v := ?_) ?_ (by kernel_rfl) (by kernel_rfl) (by kernel_rfl) ?_ (Or.inl ⟨?_, ?_⟩) (by assumption) ?_
      rotate_left 2
      · (simp only [zA, zB, zC]; rfl)
      rotate_left 1
      · rfl
      · (intro w hSw; (try dsimp only at hSw); go_simp; try with_reducible rfl)
      rotate_left 1
      · exact fun _ _ _ h => h
      try simp only [Act.put, zD, zE, zF]
      refine wpAnyH_take (i := 5) (oi := ?_) (v := ?_) ?_ (by kernel_rfl) (by kernel_rfl) (by kernel_rfl) ?_ (Or.inl ⟨?_, ?_⟩) (by assumption) ?_
      rotate_left 2
      · (simp only [zA, zB, zC]; rfl)
      rotate_left 1
      · rfl
      · (intro w hSw; (try dsimp only at hSw); go_simp; try with_reducible rfl)
      rotate_left 1
      · exact fun _ _ _ h => h
      try simp only [Act.put, zD, zE, zF]
      refine wpAnyH_take (i := 6) (oi := ?_) (v := ?_) ?_ (by kernel_rfl) (by kernel_rfl) (by kernel_rfl) ?_ (Or.inl ⟨?_, ?_⟩) (by assumption) ?_
      rotate_left 2
      · (simp only [zA, zB, zC]; rfl)
      rotate_left 1
      · rfl
      · (intro w hSw; (try dsimp only at hSw); go_simp; try with_reducible rfl)
      rotate_left 1
      · exact fun _ _ _ h => h
      try simp only [Act.put, zD, zE, zF]
      refine wpAnyH_take (i := 7) (oi := ?_) (v := ?_) ?_ (by kernel_rfl) (by kernel_rfl) (by kernel_rfl) ?_ (Or.inl ⟨?_, ?_⟩) (by assumption) ?_
      rotate_left 2
      · (simp only [zA, zB, zC]; rfl)
      rotate_left 1
      · rfl
      · (intro w hSw; (try dsimp only at hSw); go_simp; try with_reducible rfl)
      rotate_left 1
      · exact fun _ _ _ h => h
      try simp only [Act.put, zD, zE, zF]
      refine wpAnyH_take (i := 8) (oi := ?_) (v := ?_) ?_ (by kernel_rfl) (by kernel_rfl) (by kernel_rfl) ?_ (Or.inl ⟨?_, ?_⟩) (by assumption) ?_
      rotate_left 2
      · (simp only [zA, zB, zC]; rfl)
      rotate_left 1
      · rfl
      · (intro w hSw; (try dsimp only at hSw); go_simp; try with_reducible rfl)
      rotate_left 1
      · exact fun _ _ _ h => h
      try simp only [Act.put, zD, zE, zF]
      refine wpAnyH_take (i := 9) (oi := ?_) (v := ?_) ?_ (by kernel_rfl) (by kernel_rfl) (by kernel_rfl) ?_ (Or.inl ⟨?_, ?_⟩) (by assumption) ?_
      rotate_left 2
      · (simp only [zA, zB, zC]; rfl)
      rotate_left 1
      · rfl
      · (intro w hSw; (try dsimp only at hSw); go_simp; try with_reducible rfl)
      rotate_left 1
      · exact fun _ _ _ h => h
      try simp only [Act.put, zD, zE, zF]
      refine wpAnyH_ready (rs := [10]) (by kernel_rfl) (by simp) ?_
      refine AllReadyH.cons (o := ?_) ?_ (fun K hK => ?_) AllReadyH.nil
      rotate_left 1
      · (simp only [zA, zB, zC]; rfl)
      go_simp
      (obtain ⟨x2v, hx2v⟩ : ∃ x, Value.slice (if c = k then A else Option.map (fun x => x.add k) A) (b.length - k) (c - k) = x := ⟨_, rfl⟩; rw [hx2v]; obtain ⟨w5, hw5⟩ : ∃ w5, (w4.alloc (.cells (ops3 (.slice A k c) x2v) 36)).drew = w5 := ⟨_, rfl⟩; have hop5 : Blk w5 w4.heap.size 36 (ops3 (.slice A k c) x2v) := (by rw [← hw5]; exact (Blk.new w4 _ _).dr); have hb45 : Below w4.heap.size w4 w5 := (by rw [← hw5]; exact below_dr ((Below.refl _ w4).alloc (Nat.le_refl _) _)); have HW5 := hide hw5; have HOP5 := hide hop5; have HB45 := hide hb45; have HX2 := hide hx2v; clear hw5 hop5 hb45 hx2v; have hw5e : (w4.alloc (.cells #[.int .i64 0, .int .i64 0, .int .i64 0, .slice A k c, .int .i64 0, .int .i64 0, .int .i64 0, x2v, .int .i64 1, .int .i64 0, .int .i64 0, .slice none 0 0] 36)).drew = w5 := HW5.out; rw [hw5e]; clear hw5e)
      refine hK.out _ _ ?_ (fun hHeld => ?_)
      · trivial
      clear hK K
      try simp only [Act.put, zD, zE, zF]
      refine wpAnyH_ready (rs := [11]) (by kernel_rfl) (by simp) ?_
      refine AllReadyH.cons (o := ?_) ?_ (fun K hK => ?_) AllReadyH.nil
      rotate_left 1
      · (simp only [zA, zB, zC]; rfl)
      go_simp
      (have hx5 : Slc (Rep.int .u8) (fun k => k < w.heap.size) (fun _ => False) w5 (.slice A b.length c) b := (HX.out.ints_any (fun _ => False)).ints_keep (Keep.below (HB3.out.trans ((HB4.out.trans (HB45.out.mono HB4.out.size)).mono HB3.out.size))); have hx51 := hx5.front hkb; have hx52 := hx5.cut hkb; rw [show k * (Rep.int IntKind.u8).sz = k from Nat.mul_one k] at hx52; rw [show Value.slice (if c = k then A else Option.map (fun x => x.add k) A) (b.length - k) (c - k) = x2v from HX2.out] at hx52; have hq5 := HQ4.out.below HB45.out; have hft := feed_two HBT.out HP.out.1 k; rw [HLE.out] at hft; have hrun := Run3_ok w3.heap.size I f sc w4.heap.size (b.take k) (b.drop k) l _ _ (.slice A k c) x2v w5 hq5 HOP5.out hx51 hx52 (fun j hj => ⟨Nat.lt_of_lt_of_le hj (Nat.le_trans HB3.out.size (Nat.le_trans HB4.out.size HB45.out.size)), fun hF => by have hlo := hq5.lo; have h9 : w3.heap.size ≤ j := (by rcases hF with e | e | e; rw [e]; exact hlo.1; exact hlo.2.2 j e; exact e.1); exact absurd hj (Nat.not_lt.2 (Nat.le_trans HB3.out.size h9))⟩) hft.1 hft.2 HP.out.2.1 HTX.out (by rw [hIW, hIh]; exact HROOM.out) (by rw [List.length_take]; omega) (by rw [List.length_drop]; omega); unfold ptrB at hrun; have HRUN := hide hrun; clear hx5 hx51 hx52 hq5 hft hrun; go_at_call 8; refine HRUN.out.mono ?_; rintro e w6 ⟨rfl, hpq6, hsc6, hc6⟩; have HPQ6 := hide hpq6; have HSC6 := hide hsc6; have HB36 := hide ((HB4.out.trans (HB45.out.mono HB4.out.size)).trans (hc6.below (B := w3.heap.size) (fun j hj => by have hlo := HQ4.out.lo; rcases hj with e | e | e; rw [e]; exact hlo.1; exact hlo.2.2 j e; exact e.1) (Nat.le_trans HB4.out.size HB45.out.size))); clear hpq6 hsc6 hc6)
      refine hK.out _ _ ?_ (fun hHeld => ?_)
      · trivial
      clear hK K
      try simp only [Act.put, zD, zE, zF]
      refine wpAnyH_done (by kernel_rfl) ?_ _
      clear hHeld
      have hvw := View_ok I f sc (penS I.W I.h l) w6 HSC6.out HPQ6.out (by rw [hIW]; exact fun x hx => (rows_small hW2 HTX.out x hx).2.2)
      rw [hIW, hIh] at hvw
      have hrs := rows_small (W := W) (h := LF.length + 1) hW2 HTX.out
      have hrl := rows_len (W := W) (h := LF.length + 1) (l := l) (by
        show (layF W propF (clusOf (clL propF cl0 l))).out.length < LF.length + 1
        rw [← HLF.out, lines_len]
        exact Nat.lt_succ_of_lt (Nat.lt_succ_self _))
      have hbk : textR (penS W (LF.length + 1) l).rows = l := back_text hW2 HTX.out.val HTX.out.short
      have hrow : ∀ n, n < LF.length → ∃ xx, (penS W (LF.length + 1) l).rows[n]? = some xx ∧ LF[n]? = some (textF xx.1) ∧ xx.2 = decide (n + 1 < LF.length) := fun n hn => by
        have h9 := rows_line W (LF.length + 1) propF (clusOf (clL propF cl0 l)) (i := n) (by rw [HLF.out]; exact hn)
        rw [HLF.out] at h9
        exact h9
      obtain ⟨v, hv⟩ : ∃ v, penS W (LF.length + 1) l = v := ⟨_, rfl⟩
      rw [hv] at hvw hrs hrl hbk hrow
      unfold ptrB at hvw
      have hcst2 : (((LF.length + 1 : Nat)) : Int) = (LF.length : Int) + 1 := by omega
      rw [hcst2] at hvw
      have HVW := hide hvw
      have HRS := hide hrs
      have HRW := hide hrow
      have HRL := hide hrl
      have HBK := hide hbk
      clear hvw hrs hrow hrl hbk hv hcst hcst2
      go_wp2_with fail
      refine HVW.out.mono ?_
      rintro e w7 ⟨s7, rfl, hs7, hb7⟩
      have HB37 := hide (HB36.out.trans (hb7.mono HB36.out.size))
      have hby := dBytes_ok _ _ (W : Int) ((LF.length : Int) + 1) v.r v.c v.pd true s7 v.rows (w7.alloc (.cells #[.int .i64 W, .int .i64 ((LF.length : Int) + 1), s7, .int .i64 v.r, .int .i64 v.c, .bool v.pd, .bool true] 41)) (hs7.mono (Keep.alloc _ _ _) (Keep.alloc _ _ _)) (by rw [HRL.out]; omega) (fun y hy => ⟨by rw [(HRS.out y hy).1]; omega, (HRS.out y hy).2.2⟩) (by rw [HBK.out]; omega) (by rw [HBK.out]; exact HTX.out.val)
      unfold agV at hby
      rw [HBK.out, HPB.out] at hby
      obtain ⟨A7, c7, rfl, _, _, _⟩ := hs7.open_
      obtain ⟨w8, hw8⟩ : ∃ w8, w7.alloc (.cells #[.int .i64 W, .int .i64 ((LF.length : Int) + 1), .slice A7 v.rows.length c7, .int .i64 v.r, .int .i64 v.c, .bool v.pd, .bool true] 41) = w8 := ⟨_, rfl⟩
      rw [hw8] at hby
      have hs8 := (hs7.mono (Keep.alloc _ w7 (.cells #[.int .i64 W, .int .i64 ((LF.length : Int) + 1), .slice A7 v.rows.length c7, .int .i64 v.r, .int .i64 v.c, .bool v.pd, .bool true] 41)) (Keep.alloc _ w7 (.cells #[.int .i64 W, .int .i64 ((LF.length : Int) + 1), .slice A7 v.rows.length c7, .int .i64 v.r, .int .i64 v.c, .bool v.pd, .bool true] 41)))
      rw [hw8] at hs8
      have hV8 : Blk w8 w7.heap.size 41 #[.int .i64 W, .int .i64 ((LF.length : Int) + 1), .slice A7 v.rows.length c7, .int .i64 v.r, .int .i64 v.c, .bool v.pd, .bool true] := by rw [← hw8]; exact Blk.new w7 _ _
      have hb38 : Below w3.heap.size w3 w8 := by rw [← hw8]; exact HB37.out.alloc HB37.out.size _
      have hb8 : Below w.heap.size w w8 := HB3.out.trans (hb38.mono HB3.out.size)
      have HB8 := hide hb8
      have HX8 := hide ((HX.out.ints_any (fun _ => False)).ints_keep (Keep.below hb8))
      have HS3B := hide (HS3.out.mono (Keep.below (S := fun b => w2.heap.size ≤ b ∧ b < w3.heap.size) hb38) (Keep.below (S := fun b => w2.heap.size ≤ b ∧ b < w3.heap.size) hb38))
      have HS8 := hide hs8
      have HV8 := hide hV8
      have HBY := hide hby
      have HW8 := hide hw8
      have z0 := hV8.cell 0
      have z1 := hV8.cell 1
      have z2 := hV8.cell 2
      have z3 := hV8.cell 3
      have z4 := hV8.cell 4
      have z5 := hV8.cell 5
      have z6 := hV8.cell 6
      simp only [zA, zB, zC] at z0 z1 z2 z3 z4 z5 z6
      have h78 : w7.heap.size < w8.heap.size := hV8.lt
      clear hby hw8 hs8 hV8 hb38 hb8 hs7 hb7
      go_upto_region 12 with fail
      rw [HW8.out]
      go_wp2_with fail
      refine HBY.out.mono ?_
      rintro e w9 ⟨s9, rfl, hs9, hb9⟩
      have hrb := rBytes_ok _ _ _ _ s9 _ b b w9 hs9.islc (HX8.out.ints_keep (Keep.below hb9))
      rw [decide_eq_true rfl] at hrb
      have HRB := hide hrb
      have HB9 := hide hb9
      obtain ⟨A9, c9, rfl, _, _, _⟩ := hs9.islc.open_
      have z1 := (hb9.cell (p := ⟨w7.heap.size, 1, none⟩) h78).trans z1
      have z2 := (hb9.cell (p := ⟨w7.heap.size, 2, none⟩) h78).trans z2
      clear hrb hs9 hb9 z0 z3 z4 z5 z6
      go_wp2_with (go_at_call 10; refine HRB.out.mono ?_; rintro e w10 ⟨rfl, rfl⟩)
      have h79 : w7.heap.size < w9.heap.size := Nat.lt_of_lt_of_le h78 HB9.out.size
      have HZ2 := hide z2
      have HS9 := hide (HS8.out.mono (Keep.below (S := fun b => b < w7.heap.size) HB9.out) (Keep.below (S := fun b => b < w7.heap.size) HB9.out))
      have HL9 := hide (HS3B.out.mono (Keep.below (S := fun b => w2.heap.size ≤ b ∧ b < w3.heap.size) HB9.out) (Keep.below (S := fun b => w2.heap.size ≤ b ∧ b < w3.heap.size) HB9.out))
      have HB09 := hide (HB8.out.trans (HB9.out.mono HB8.out.size))
      clear z1 z2
      go_loopw [13] (fun i wr => ∃ n : Nat, n ≤ LF.length ∧ i = .int .i64 n ∧ Below w9.heap.size w9 wr) (fun i _ => LF.length - (intOf i).toNat)
      case atStart => exact ⟨0, Nat.zero_le _, rfl, Below.refl _ _⟩
      case round =>
        obtain ⟨n, hn, rfl, hbel⟩ := hrel
        have hzr := hbel.size
        have hnb : (n : Int) ≤ 401 := by omega
        by_cases hlt : n < LF.length
        · obtain ⟨xx, hx1, hx2, hx3⟩ := HRW.out n hlt
          obtain ⟨hnr, hxe⟩ := List.getElem?_eq_some_iff.1 hx1
          obtain ⟨_, hle⟩ := List.getElem?_eq_some_iff.1 hx2
          obtain ⟨r1, r2, r3⟩ := HRS.out _ (List.getElem_mem hnr)
          have hsr := HS9.out.mono (Keep.below (S := fun b => b < w7.heap.size) hbel) (Keep.below (S := fun b => b < w7.heap.size) hbel)
          have hlr := HL9.out.mono (Keep.below (S := fun b => w2.heap.size ≤ b ∧ b < w3.heap.size) hbel) (Keep.below (S := fun b => w2.heap.size ≤ b ∧ b < w3.heap.size) hbel)
          obtain ⟨b7, o7, v7, rfl, hb7, q0, q1, hq⟩ := line_at hsr.slb hnr
          obtain ⟨b3, o3, A31, c31, rfl, hb3, p0, hp⟩ := rrow_at hlr.slb hlt
          have z2 := (hbel.cell (p := ⟨w7.heap.size, 2, none⟩) h79).trans HZ2.out
          rw [hxe] at q1 hq r1 r2 r3
          rw [hle] at p0 hp
          rw [hx3] at q1
          obtain ⟨A71, c71, rfl, _, _, _⟩ := hq.open_
          obtain ⟨T, hT⟩ : ∃ T, textF xx.1 = T := ⟨_, rfl⟩
          rw [hT] at p0 hp
          have hROf := ROf_ok _ _ _ xx.1 wr hq (by omega) (by omega) r2
          obtain ⟨cl, hcl⟩ : ∃ cl, xx.1 = cl := ⟨_, rfl⟩
          rw [hcl] at hROf q0 r1 r3 hT
          have HRO := hide hROf
          have HT2 := hide hT
          have HQP := hide hp
          have HR3 := hide r3
          have hnI : (n : Int) < LF.length := by omega
          have hnrI : (n : Int) < v.rows.length := by omega
          have hclb : cl.length ≤ 100000 := by omega
          clear r1
          have HBEL := hide hbel
          have hl7 : b7 < wr.heap.size := by omega
          have hl3 : b3 < wr.heap.size := by have := HB3.out.size; have := HB37.out.size; omega
          obtain ⟨q9, hq9⟩ : ∃ q9, decide (n + 1 < LF.length) = q9 := ⟨_, rfl⟩
          rw [hq9] at q1
          have hd9 : decide ((n : Int) + 1 < LF.length) = q9 := by rw [← hq9]; exact decide_eq_decide.2 (by omega)
          have hwr : IntKind.i64.wrap ((n : Int) + 1) = (n : Int) + 1 := by
            first | exact IntWalk.i64_in _ (by omega) | (rw [IntKind.wrap_i64]; omega) | (simp [IntKind.wrap, IntKind.signed, IntKind.bits]; omega)
          have hqq : (!(q9 == decide (IntKind.i64.wrap ((n : Int) + 1) < (LF.length : Int)))) = false := by rw [hwr, hd9]; simp
          clear hwr hd9
          clear hROf hT hp hq hx1 hx2 hx3 hxe hle hsr hlr hbel r2 hcl hq9 hnr
          go_wp2_with fail
          refine HRO.out.mono ?_
          rintro e w11 ⟨v11, rfl, hv11, hb11⟩
          have HV11 := hide hv11
          have HB11 := hide hb11
          have z2 := (hb11.cell (p := ⟨w7.heap.size, 2, none⟩) (by show w7.heap.size < _; omega)).trans z2
          have q1 := (hb11.cell (p := ⟨b7, o7 + n * 2 + 1, none⟩) hl7).trans q1
          have p0 := (hb11.cell (p := ⟨b3, o3 + n, none⟩) hl3).trans p0
          clear q0 hv11 hb11
          go_upto_region 18 with fail
          refine wp_region_held_drew (S := fun w' => w'.cell? ⟨b3, o3 + n, none⟩ = some (.slice A31 T.length c31) ∧ w'.cell? ⟨b7, o7 + n * 2 + 1, none⟩ = some (.bool q9) ∧ w'.cell? ⟨w7.heap.size, 2, none⟩ = some (.slice (some ⟨b7, o7, none⟩) v.rows.length c7)) (by kernel_rfl) (by exact ⟨p0, q1, z2⟩) (fun hHeld => ?_)
          refine wpAnyH_take (i := 0) (oi := ?_) (v := ?_) ?_ (by kernel_rfl) (by kernel_rfl) (by kernel_rfl) ?_ (Or.inl ⟨?_, ?_⟩) (by assumption) ?_
          rotate_left 2
          · (simp only [zA, zB, zC]; rfl)
          rotate_left 1
          · rfl
          · (intro w hSw; (try dsimp only at hSw); go_simp; try with_reducible rfl)
          rotate_left 1
          · exact fun _ _ _ h => h
          try simp only [Act.put, zD, zE, zF]
          refine wpAnyH_take (i := 1) (oi := ?_) (v := ?_) ?_ (by kernel_rfl) (by kernel_rfl) (by kernel_rfl) ?_ (Or.inl ⟨?_, ?_⟩) (by assumption) ?_
          rotate_left 2
          · (simp only [zA, zB, zC]; rfl)
          rotate_left 1
          · rfl
          · (intro w hSw; (try dsimp only at hSw); go_simp; try with_reducible rfl)
          rotate_left 1
          · exact fun _ _ _ h => h
          try simp only [Act.put, zD, zE, zF]
          refine wpAnyH_take (i := 2) (oi := ?_) (v := ?_) ?_ (by kernel_rfl) (by kernel_rfl) (by kernel_rfl) ?_ (Or.inl ⟨?_, ?_⟩) (by assumption) ?_
          rotate_left 2
          · (simp only [zA, zB, zC]; rfl)
          rotate_left 1
          · rfl
          · (intro w hSw; (try dsimp only at hSw); go_simp; try with_reducible rfl)
          rotate_left 1
          · exact fun _ _ _ h => h
          try simp only [Act.put, zD, zE, zF]
          refine wpAnyH_take (i := 3) (oi := ?_) (v := ?_) ?_ (by kernel_rfl) (by kernel_rfl) (by kernel_rfl) ?_ (Or.inl ⟨?_, ?_⟩) (by assumption) ?_
          rotate_left 2
          · (simp only [zA, zB, zC]; rfl)
          rotate_left 1
          · rfl
          · (intro w hSw; (try dsimp only at hSw); go_simp; try with_reducible rfl)
          rotate_left 1
          · exact fun _ _ _ h => h
          try simp only [Act.put, zD, zE, zF]
          refine wpAnyH_take (i := 5) (oi := ?_) (v := ?_) ?_ (by kernel_rfl) (by kernel_rfl) (by kernel_rfl) ?_ (Or.inl ⟨?_, ?_⟩) (by assumption) ?_
          rotate_left 2
          · (simp only [zA, zB, zC]; rfl)
          rotate_left 1
          · rfl
          · (intro w hSw; (try dsimp only at hSw); go_simp; try with_reducible rfl)
          rotate_left 1
          · exact fun _ _ _ h => h
          try simp only [Act.put, zD, zE, zF]
          refine wpAnyH_take (i := 6) (oi := ?_) (v := ?_) ?_ (by kernel_rfl) (by kernel_rfl) (by kernel_rfl) ?_ (Or.inl ⟨?_, ?_⟩) (by assumption) ?_
          rotate_left 2
          · (simp only [zA, zB, zC]; rfl)
          rotate_left 1
          · rfl
          · (intro w hSw; (try dsimp only at hSw); go_simp; try with_reducible rfl)
          rotate_left 1
          · exact fun _ _ _ h => h
          try simp only [Act.put, zD, zE, zF]
          refine wpAnyH_take (i := 7) (oi := ?_) (v := ?_) ?_ (by kernel_rfl) (by kernel_rfl) (by kernel_rfl) ?_ (Or.inl ⟨?_, ?_⟩) (by assumption) ?_
          rotate_left 2
          · (simp only [zA, zB, zC]; rfl)
          rotate_left 1
          · rfl
          · (intro w hSw; (try dsimp only at hSw); go_simp; try with_reducible rfl)
          rotate_left 1
          · exact fun _ _ _ h => h
          try simp only [Act.put, zD, zE, zF]
          refine wpAnyH_take (i := 8) (oi := ?_) (v := ?_) ?_ (by kernel_rfl) (by kernel_rfl) (by kernel_rfl) ?_ (Or.inl ⟨?_, ?_⟩) (by assumption) ?_
          rotate_left 2
          · (simp only [zA, zB, zC]; rfl)
          rotate_left 1
          · rfl
          · (intro w hSw; (try dsimp only at hSw); go_simp; try with_reducible rfl)
          rotate_left 1
          · exact fun _ _ _ h => h
          try simp only [Act.put, zD, zE, zF]
          refine wpAnyH_ready (rs := [4]) (by kernel_rfl) (by simp) ?_
          refine AllReadyH.cons (o := ?_) ?_ (fun K hK => ?_) AllReadyH.nil
          rotate_left 1
          · (simp only [zA, zB, zC]; rfl)
          go_simp
          (go_at_call 14; refine (Text_ok wr.heap.size v11 cl false w11.drew (HV11.out.below (below_dr (Below.refl _ w11))) hclb HR3.out).mono ?_; rintro e w12 ⟨s12, rfl, hs12, hb12⟩; have hb12 : Below w11.heap.size w11 w12 := (below_dr (Below.refl _ w11)).trans hb12; have h11 := HB11.out.size; have p0 := (hb12.cell (p := ⟨b3, o3 + n, none⟩) (by show b3 < _; omega)).trans p0; have q1 := (hb12.cell (p := ⟨b7, o7 + n * 2 + 1, none⟩) (by show b7 < _; omega)).trans q1; have z2 := (hb12.cell (p := ⟨w7.heap.size, 2, none⟩) (by show w7.heap.size < _; omega)).trans z2; rw [HT2.out] at hs12; obtain ⟨A12, c12, rfl, _, _, _⟩ := hs12.islc.open_; have hsm := Same_ok _ _ _ _ _ (.slice A31 T.length c31) T T w12 hs12.islc ((HQP.out.ints_keep (Keep.below HB11.out)).ints_keep (Keep.below hb12)); rw [decide_eq_true rfl] at hsm; have HSM := hide hsm; have HB12 := hide hb12; clear hsm hs12 hb12)
          refine hK.out _ _ ?_ (fun hHeld => ?_)
          · exact ⟨p0, q1, z2⟩
          clear hK K
          try simp only [Act.put, zD, zE, zF]
          refine wpAnyH_ready (rs := [9]) (by kernel_rfl) (by simp) ?_
          refine AllReadyH.cons (o := ?_) ?_ (fun K hK => ?_) AllReadyH.nil
          rotate_left 1
          · (simp only [zA, zB, zC]; rfl)
          go_simp
          (go_at_call 13; refine HSM.out.mono ?_; rintro e w13 ⟨rfl, nn, rfl⟩; have hb13 : Below w12.heap.size w12 (w12.drewN nn) := below_drewN (Below.refl _ w12) nn; obtain ⟨w13, hw13⟩ : ∃ w13, w12.drewN nn = w13 := ⟨_, rfl⟩; rw [hw13] at hb13 ⊢; have h12 := HB12.out.size; have p0 := (hb13.cell (p := ⟨b3, o3 + n, none⟩) (by show b3 < _; omega)).trans p0; have q1 := (hb13.cell (p := ⟨b7, o7 + n * 2 + 1, none⟩) (by show b7 < _; omega)).trans q1; have z2 := (hb13.cell (p := ⟨w7.heap.size, 2, none⟩) (by show w7.heap.size < _; omega)).trans z2; have HB13 := hide hb13; clear hb13 hw13)
          refine hK.out _ _ ?_ (fun hHeld => ?_)
          · exact ⟨p0, q1, z2⟩
          clear hK K
          try simp only [Act.put, zD, zE, zF]
          refine wpAnyH_take (i := 10) (oi := ?_) (v := ?_) ?_ (by kernel_rfl) (by kernel_rfl) (by kernel_rfl) ?_ (Or.inl ⟨?_, ?_⟩) (by assumption) ?_
          rotate_left 2
          · (simp only [zA, zB, zC]; rfl)
          rotate_left 1
          · rfl
          · (intro w hSw; (try dsimp only at hSw); go_simp; try with_reducible rfl)
          rotate_left 1
          · exact fun _ _ _ h => h
          try simp only [Act.put, zD, zE, zF]
          refine wpAnyH_take (i := 11) (oi := ?_) (v := ?_) ?_ (by kernel_rfl) (by kernel_rfl) (by kernel_rfl) ?_ (Or.inl ⟨?_, ?_⟩) (by assumption) ?_
          rotate_left 2
          · (simp only [zA, zB, zC]; rfl)
          rotate_left 1
          · rfl
          · (intro w hSw; (try dsimp only at hSw); go_simp; try with_reducible rfl)
          rotate_left 1
          · exact fun _ _ _ h => h
          try simp only [Act.put, zD, zE, zF]
          refine wpAnyH_take (i := 12) (oi := ?_) (v := ?_) ?_ (by kernel_rfl) (by kernel_rfl) (by kernel_rfl) ?_ (Or.inl ⟨?_, ?_⟩) (by assumption) ?_
          rotate_left 2
          · (simp only [zA, zB, zC]; rfl)
          rotate_left 1
          · rfl
          · (intro w hSw; (try dsimp only at hSw); go_simp; try with_reducible rfl)
          rotate_left 1
          · exact fun _ _ _ h => h
          try simp only [Act.put, zD, zE, zF]
          refine wpAnyH_take (i := 13) (oi := ?_) (v := ?_) ?_ (by kernel_rfl) (by kernel_rfl) (by kernel_rfl) ?_ (Or.inl ⟨?_, ?_⟩) (by assumption) ?_
          rotate_left 2
          · (simp only [zA, zB, zC]; rfl)
          rotate_left 1
          · rfl
          · (intro w hSw; (try dsimp only at hSw); go_simp; try with_reducible rfl)
          rotate_left 1
          · exact fun _ _ _ h => h
          try simp only [Act.put, zD, zE, zF]
          refine wpAnyH_take (i := 14) (oi := ?_) (v := ?_) ?_ (by kernel_rfl) (by kernel_rfl) (by kernel_rfl) ?_ (Or.inl ⟨?_, ?_⟩) (by assumption) ?_
          rotate_left 2
          · (simp only [zA, zB, zC]; rfl)
          rotate_left 1
          · rfl
          · (intro w hSw; (try dsimp only at hSw); go_simp; try with_reducible rfl)
          rotate_left 1
          · exact fun _ _ _ h => h
          try simp only [Act.put, zD, zE, zF]
          refine wpAnyH_take (i := 15) (oi := ?_) (v := ?_) ?_ (by kernel_rfl) (by kernel_rfl) (by kernel_rfl) ?_ (Or.inl ⟨?_, ?_⟩) (by assumption) ?_
          rotate_left 2
          · (simp only [zA, zB, zC]; rfl)
          rotate_left 1
          · rfl
          · (intro w hSw; (try dsimp only at hSw); go_simp; try with_reducible rfl)
          rotate_left 1
          · exact fun _ _ _ h => h
          try simp only [Act.put, zD, zE, zF]
          refine wpAnyH_take (i := 16) (oi := ?_) (v := ?_) ?_ (by kernel_rfl) (by kernel_rfl) (by kernel_rfl) ?_ (Or.inl ⟨?_, ?_⟩) (by assumption) ?_
          rotate_left 2
          · (simp only [zA, zB, zC]; rfl)
          rotate_left 1
          · rfl
          · (intro w hSw; (try dsimp only at hSw); go_simp; try with_reducible rfl)
          rotate_left 1
          · exact fun _ _ _ h => h
          try simp only [Act.put, zD, zE, zF]
          refine wpAnyH_take (i := 17) (oi := ?_) (v := ?_) ?_ (by kernel_rfl) (by kernel_rfl) (by kernel_rfl) ?_ (Or.inl ⟨?_, ?_⟩) (by assumption) ?_
          rotate_left 2
          · (simp only [zA, zB, zC]; rfl)
          rotate_left 1
          · rfl
          · (intro w hSw; (try dsimp only at hSw); go_simp; try with_reducible rfl)
          rotate_left 1
          · exact fun _ _ _ h => h
          try simp only [Act.put, zD, zE, zF]
          refine wpAnyH_take (i := 18) (oi := ?_) (v := ?_) ?_ (by kernel_rfl) (by kernel_rfl) (by kernel_rfl) ?_ (Or.inl ⟨?_, ?_⟩) (by assumption) ?_
          rotate_left 2
          · (simp only [zA, zB, zC]; rfl)
          rotate_left 1
          · rfl
          · (intro w hSw; (try dsimp only at hSw); go_simp; try with_reducible rfl)
          rotate_left 1
          · exact fun _ _ _ h => h
          try simp only [Act.put, zD, zE, zF]
          refine wpAnyH_take (i := 19) (oi := ?_) (v := ?_) ?_ (by kernel_rfl) (by kernel_rfl) (by kernel_rfl) ?_ (Or.inl ⟨?_, ?_⟩) (by assumption) ?_
          rotate_left 2
          · (simp only [zA, zB, zC]; rfl)
          rotate_left 1
          · rfl
          · (intro w hSw; (try dsimp only at hSw); go_simp; try with_reducible rfl)
          rotate_left 1
          · exact fun _ _ _ h => h
          try simp only [Act.put, zD, zE, zF]
          refine wpAnyH_take (i := 20) (oi := ?_) (v := ?_) ?_ (by kernel_rfl) (by kernel_rfl) (by kernel_rfl) ?_ (Or.inl ⟨?_, ?_⟩) (by assumption) ?_
          rotate_left 2
          · (simp only [zA, zB, zC]; rfl)
          rotate_left 1
          · rfl
          · (intro w hSw; (try dsimp only at hSw); go_simp; try with_reducible rfl)
          rotate_left 1
          · exact fun _ _ _ h => h
          try simp only [Act.put, zD, zE, zF]
          refine wpAnyH_take (i := 21) (oi := ?_) (v := ?_) ?_ (by kernel_rfl) (by kernel_rfl) (by kernel_rfl) ?_ (Or.inl ⟨?_, ?_⟩) (by assumption) ?_
          rotate_left 2
          · (simp only [zA, zB, zC]; rfl)
          rotate_left 1
          · rfl
          · (intro w hSw; (try dsimp only at hSw); go_simp; try with_reducible rfl)
          rotate_left 1
          · exact fun _ _ _ h => h
          try simp only [Act.put, zD, zE, zF]
          refine wpAnyH_take (i := 22) (oi := ?_) (v := ?_) ?_ (by kernel_rfl) (by kernel_rfl) (by kernel_rfl) ?_ (Or.inl ⟨?_, ?_⟩) (by assumption) ?_
          rotate_left 2
          · (simp only [zA, zB, zC]; rfl)
          rotate_left 1
          · rfl
          · (intro w hSw; (try dsimp only at hSw); go_simp; try with_reducible rfl)
          rotate_left 1
          · exact fun _ _ _ h => h
          try simp only [Act.put, zD, zE, zF]
          refine wpAnyH_take (i := 23) (oi := ?_) (v := ?_) ?_ (by kernel_rfl) (by kernel_rfl) (by kernel_rfl) ?_ (Or.inl ⟨?_, ?_⟩) (by assumption) ?_
          rotate_left 2
          · (simp only [zA, zB, zC]; rfl)
          rotate_left 1
          · rfl
          · (intro w hSw; (try dsimp only at hSw); go_simp; try with_reducible rfl)
          rotate_left 1
          · exact fun _ _ _ h => h
          try simp only [Act.put, zD, zE, zF]
          refine wpAnyH_take (i := 24) (oi := ?_) (v := ?_) ?_ (by kernel_rfl) (by kernel_rfl) (by kernel_rfl) ?_ (Or.inl ⟨?_, ?_⟩) (by assumption) ?_
          rotate_left 2
          · (simp only [zA, zB, zC]; rfl)
          rotate_left 1
          · rfl
          · (intro w hSw; (try dsimp only at hSw); go_simp; try with_reducible rfl)
          rotate_left 1
          · exact fun _ _ _ h => h
          try simp only [Act.put, zD, zE, zF]
          refine wpAnyH_take (i := 25) (oi := ?_) (v := ?_) ?_ (by kernel_rfl) (by kernel_rfl) (by kernel_rfl) ?_ (Or.inl ⟨?_, ?_⟩) (by assumption) ?_
          rotate_left 2
          · (simp only [zA, zB, zC]; rfl)
          rotate_left 1
          · rfl
          · (intro w hSw; (try dsimp only at hSw); go_simp; try with_reducible rfl)
          rotate_left 1
          · exact fun _ _ _ h => h
          try simp only [Act.put, zD, zE, zF]
          refine wpAnyH_done (by kernel_rfl) ?_ _
          clear hHeld
          go_wp2
          go_roundw
          case rel => exact ⟨n + 1, by omega, by go_num, HBEL.out.trans (((HB11.out.trans (HB12.out.mono HB11.out.size)).trans (HB13.out.mono (Nat.le_trans HB11.out.size HB12.out.size))).mono hzr)⟩
          case measure => simp [intOf]; omega
        · obtain rfl : n = LF.length := by omega
          go_wp2
          go_ret
          exact ⟨rfl, HB09.out.trans (hbel.mono HB09.out.size)⟩
end Go.Proofs.YtdjpdllehhecpaaGreatDoor
