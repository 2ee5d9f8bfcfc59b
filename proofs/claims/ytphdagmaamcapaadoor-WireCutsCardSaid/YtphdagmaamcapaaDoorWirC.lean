/-
  Several texts of this seat as one: Wir13, Laid55g.
-/
import Derived.Test.YtphdagmaamcapaaDoorWirB
import Derived.Laws.MakeOwn
import Derived.Test.YtphdagmaamcapaaDoorErr3
import Derived.Test.YtphdagmaamcapaaDoorRows
namespace Go.Proofs.YtphdagmaamcapaaDoor
open Go.RowKit
set_option linter.unusedVariables false
set_option linter.unusedSimpArgs false

theorem enc_works : encF ⟨1, 1, [([(0, [])], false)], 0, 0, false, true⟩ = [76, 1, 1, 0, 0, 2, 0, 2] := by
  have h1 : numF 1 = [1] := numF_one (by decide)
  have h0 : numF 0 = [0] := numF_one (by decide)
  have hr : runsF [((0, []) : CellV)] = [2] := by
    rw [runs_cons (by simp)]
    have e : runN [((0, []) : CellV)] = 1 := by decide
    have e2 : kindN [((0, []) : CellV)] = 0 := by decide
    rw [e, e2]
    have e3 : numF (2 * 1 + 0) = [2] := numF_one (by decide)
    rw [e3]
    simp [runs_nil, clusF]
  unfold encF lineE
  simp [h1, h0, hr, markN]
set_option maxHeartbeats 2000000 in
theorem works55_ok (b : Nat → Addr) (w : World) (hS : Sents b w) :
    Calls Tryd.prog 6 #[] w fun e w' => e = .returned (.bool true) ∧ Below w.heap.size w w' := by
  have hmk : ∀ w : World, (Instr.makeSlice 43 (.int .i64 1) (.int .i64 1)).run Tryd.prog w = .ok (.slice (some ⟨w.heap.size, 0, none⟩) 1 1) (w.alloc (.cells #[.int .i64 0, .slice none 0 0] 62)) := fun w => by
    obtain ⟨i0, hi0, hz0, hz1, hz2⟩ := info_parts cell_info
    have e := run_makeSlice (P := Tryd.prog) (w := w) 43 62 i0 (.agg #[.int .i64 0, .slice none 0 0]) Tryd.underlying43 hi0 hz0 .i64 .i64 1 1 (by decide) (by decide) (by rw [hz1]; decide) (by rw [hz2]; decide) (by decide)
    rw [hz1] at e
    rw [show madeCells (Value.agg #[.int .i64 0, .slice none 0 0]).cells ((1 : Int).toNat * RCell.sz) = #[Value.int .i64 0, .slice none 0 0] from by kernel_rfl] at e
    exact e
  have h1 : Slc RCell (fun b => b = w.heap.size) (fun b => b < w.heap.size) (w.alloc (.cells #[.int .i64 0, .slice none 0 0] 62)) (.slice (some ⟨w.heap.size, 0, none⟩) 1 1) [(0, [])] := Slc.litn (R := RCell) 62 (xs := [.int .i64 0, .slice none 0 0]) (els_cell1w (by decide) Slc.nil_) (Keep.alloc _ _ _) 1 rfl (by simp [maxLen]) _ rfl
  have h2 := h1.mono (So' := fun b => b < w.heap.size + 1) (Si' := fun b => b < w.heap.size + 1) (Keep.weaken fun b h => by omega) (Keep.weaken fun b h => by omega)
  have hs1 : (w.alloc (.cells #[.int .i64 0, .slice none 0 0] 62)).heap.size = w.heap.size + 1 := by simp
  have h3 : Slc RLine (fun b => b = w.heap.size + 1) (fun b => b < w.heap.size + 1) ((w.alloc (.cells #[.int .i64 0, .slice none 0 0] 62)).alloc (.cells #[.slice (some ⟨w.heap.size, 0, none⟩) 1 1, .bool false] 45)) (.slice (some ⟨w.heap.size + 1, 0, none⟩) 1 1) [([(0, [])], false)] :=
    Slc.litn (R := RLine) 45 (xs := [.slice (some ⟨w.heap.size, 0, none⟩) 1 1, .bool false]) (els_l1 h2) (Keep.alloc _ _ _) 1 rfl (by simp [maxLen]) _ (by simp)
  have hb2 := ((Below.refl w.heap.size w).alloc (Nat.le_refl _) (.cells #[.int .i64 0, .slice none 0 0] 62)).alloc (by simp) (.cells #[.slice (some ⟨w.heap.size, 0, none⟩) 1 1, .bool false] 45)
  have h4 := h3.mono (So' := fun b => b < ((w.alloc (.cells #[.int .i64 0, .slice none 0 0] 62)).alloc (.cells #[.slice (some ⟨w.heap.size, 0, none⟩) 1 1, .bool false] 45)).heap.size) (Si' := fun b => b < ((w.alloc (.cells #[.int .i64 0, .slice none 0 0] 62)).alloc (.cells #[.slice (some ⟨w.heap.size, 0, none⟩) 1 1, .bool false] 45)).heap.size) (Keep.weaken fun b h => by simp; omega) (Keep.weaken fun b h => by simp; omega)
  have HPT := hide (Put_ok b _ 1 1 0 0 false true _ _ (hS.below hb2) h4 (by decide) (by decide))
  have hrv : rightV ⟨1, 1, [([(0, [])], false)], 0, 0, false, true⟩ = true := by decide
  have HRV := hide hrv
  have HB2 := hide hb2
  have HMK := hide hmk
  clear hmk h1 h2 h3 h4 hs1 hb2 hrv hS
  have hmk := HMK.out
  go_enter Tryd.func6, Tryd.ntmps6
  go_wp2_with fail
  refine HPT.out.mono ?_
  rintro e w3 ⟨hp1, _, hc3⟩
  obtain ⟨v3, rfl, hv3⟩ := hp1 HRV.out
  rw [enc_works] at hv3
  have hb3 := HB2.out.trans (hc3.mono HB2.out.size)
  obtain ⟨A, c, rfl, _, _, _⟩ := hv3.islc.open_
  have h1 : (convert 29 9 (.slice A 8 c)).run Tryd.prog w3 = .ok (.string (strOfNums [76, 1, 1, 0, 0, 2, 0, 2])) w3 := run_str (P := Tryd.prog) hv3.islc 29 9 5 Tryd.underlying29 Tryd.underlying5 Tryd.underlying9
  have h2 : ((strOfNums [76, 1, 1, 0, 0, 2, 0, 2]).toList == ([76, 1, 1, 0, 0, 2, 0, 2] : List UInt8)) = true := by kernel_rfl
  clear hp1 hv3 HPT
  go_wp2
  go_ret
  exact ⟨rfl, hb3⟩
theorem getV_some {s : List Int} {v : ViewV} (h : GetV s = some v) : rightV v = true ∧ encF v = s := by
  unfold GetV at h
  split at h
  · cases h
  · split at h
    · rename_i h2
      injection h with h
      subst h
      exact h2
    · cases h

set_option maxRecDepth 8000 in
set_option maxHeartbeats 4000000 in
theorem walkS_WireGets (b : Nat → Addr) (x : Value) (s : List Int) (w : World) (hS : Sents b w) (hx : Slc (Rep.int .u8) (fun b => b < w.heap.size) (fun b => b < w.heap.size) w x s) :
    Calls Tryd.prog 4 #[x] w fun e w' => e = .returned (.bool true) ∧ Below w.heap.size w w' := by
  obtain ⟨A, c0, rfl, _, _, _⟩ := hx.open_
  have HSE := hide hS
  have HX := hide (hx.ints_any (fun _ => False))
  clear hS hx
  go_enter Tryd.func4, Tryd.ntmps4
  go_wp2_with fail
  refine (works55_ok b _ HSE.out).mono ?_
  rintro e w1 ⟨rfl, hb1⟩
  have hz1 := hb1.size
  by_cases hlen : s.length ≤ 5000
  case neg =>
    have hl2 : (5000 : Int) < s.length := by omega
    go_wp2_with fail
    refine (works55_ok b _ (HSE.out.below hb1)).mono ?_
    rintro e w9 ⟨rfl, hc9⟩
    go_wp2
    go_ret
    exact ⟨rfl, hb1.trans (hc9.mono hz1)⟩
  case pos =>
    have hl2 : ¬ (5000 : Int) < s.length := by omega
    have hx1 : Slc (Rep.int .u8) (fun b => b < w1.heap.size) (fun _ => False) w1 (.slice A s.length c0) s := (HX.out.ints_keep (Keep.below hb1)).ints_keep (Keep.weaken fun b hb => Nat.lt_of_lt_of_le hb hz1)
    have HGT := hide (Get_ok b (.slice A s.length c0) s w1 (HSE.out.below hb1) hx1 (by omega))
    clear hx1
    go_wp2_with fail
    refine HGT.out.mono ?_
    rintro e w2 ⟨hsome, hnone, hc2⟩
    have hb2 := hb1.trans (hc2.mono hz1)
    clear HGT hc2
    cases hgv : GetV s with
    | some v =>
      obtain ⟨lv, rfl, hln⟩ := hsome v hgv
      obtain ⟨hrv, henc⟩ := getV_some hgv
      have hsl := Lns.slc hln
      obtain ⟨Al, cl, rfl, _, _, _⟩ := hsl.open_
      have bv := Blk.new w2 26 #[.int .i64 v.wide, .int .i64 v.high, .slice Al v.lines.length cl, .int .i64 v.row, .int .i64 v.col, .bool v.pend, .bool v.auto]
      have hb3 := hb2.alloc hb2.size (.cells #[.int .i64 v.wide, .int .i64 v.high, .slice Al v.lines.length cl, .int .i64 v.row, .int .i64 v.col, .bool v.pend, .bool v.auto] 26)
      have hl3 := Lns.slc (Lns.alloc hln (.cells #[.int .i64 v.wide, .int .i64 v.high, .slice Al v.lines.length cl, .int .i64 v.row, .int .i64 v.col, .bool v.pend, .bool v.auto] 26))
      obtain ⟨⟨h1, h2, h3, h4, h5⟩, _, h6⟩ := rightV_parts hrv
      have hls : v.lines.length ≤ 1000000 := by omega
      have hcs : ∀ l ∈ v.lines, l.1.length ≤ 1000000 := fun l hl => by have := (h6 l hl).1; omega
      obtain ⟨wd, hi, ls, r, c, p, au⟩ := v
      simp only at hl3 bv hb3 hls hcs h1 h2 h3 h4 h5
      have HLS := hide (⟨hls, hcs⟩ : _ ∧ _)
      have HL3 := hide hl3
      have HRV := hide hrv
      have HEN := hide henc
      clear hsome hnone hgv hln hsl hrv henc h6 h1 h2 h3 h4 h5 hls hcs hl3
      go_upto_region 4 with fail
      obtain ⟨gv, hgv⟩ : ∃ gv, w2.heap.size = gv := ⟨_, rfl⟩
      rw [hgv] at bv
      try rw [hgv]
      generalize w2.alloc (.cells #[.int .i64 wd, .int .i64 hi, .slice Al ls.length cl, .int .i64 r, .int .i64 c, .bool p, .bool au] 26) = w3 at *
      clear hgv
      have y0 := bv.cell 0
      have y1 := bv.cell 1
      have y2 := bv.cell 2
      have y3 := bv.cell 3
      have y4 := bv.cell 4
      have y5 := bv.cell 5
      have y6 := bv.cell 6
      simp only [List.getElem?_toArray, List.getElem?_cons_succ, List.getElem?_cons_zero] at y0 y1 y2 y3 y4 y5 y6
      have HRR := hide (rRight43_ok _ (.slice Al ls.length cl) wd hi r c p au ls w3 HL3.out HLS.out.2 HLS.out.1)
      rw [HRV.out] at HRR
      go_wp2_with fail
      refine HRR.out.mono ?_
      rintro e w4 ⟨rfl, hc4⟩
      have hb4 := hb3.trans (hc4.mono hb3.size)
      have bv4 := bv.same hc4
      have hl4 : Slc RLine (fun b => b < w4.heap.size) (fun b => b < w4.heap.size) w4 (.slice Al ls.length cl) ls := (HL3.out.mono (Keep.below hc4) (Keep.below hc4)).mono (Keep.weaken fun b hb => Nat.lt_of_lt_of_le hb hc4.size) (Keep.weaken fun b hb => Nat.lt_of_lt_of_le hb hc4.size)
      have HPU := hide (rPut55_ok (.slice Al ls.length cl) wd hi r c p au ls w4 HRV.out hl4)
      clear y0 y1 y2 y3 y4 y5 y6 HRR hl4 hc4 bv
      have y0 := bv4.cell 0
      have y1 := bv4.cell 1
      have y2 := bv4.cell 2
      have y3 := bv4.cell 3
      have y4 := bv4.cell 4
      have y5 := bv4.cell 5
      have y6 := bv4.cell 6
      simp only [List.getElem?_toArray, List.getElem?_cons_succ, List.getElem?_cons_zero] at y0 y1 y2 y3 y4 y5 y6
      go_wp2_with fail
      refine HPU.out.mono ?_
      rintro e w5 ⟨s5, rfl, hs5, hc5⟩
      have hb5 := hb4.trans (hc5.mono hb4.size)
      have HBY := hide (rBytes_ok _ _ _ _ s5 (.slice A s.length c0) (encF ⟨wd, hi, ls, r, c, p, au⟩) s w5 hs5.islc (HX.out.ints_keep (Keep.below (hb5.mono (Nat.le_refl _)))))
      rw [decide_eq_true HEN.out] at HBY
      clear y0 y1 y2 y3 y4 y5 y6 HPU hc5 hs5
      go_wp2_with fail
      refine HBY.out.mono ?_
      rintro e w6 ⟨rfl, rfl⟩
      go_wp2
      go_ret
      exact ⟨rfl, hb5⟩
    | none =>
      obtain rfl := hnone hgv
      have bv := Blk.new w2 26 #[.int .i64 0, .int .i64 0, .slice none 0 0, .int .i64 0, .int .i64 0, .bool false, .bool false]
      have hb3 := hb2.alloc hb2.size (.cells #[.int .i64 0, .int .i64 0, .slice none 0 0, .int .i64 0, .int .i64 0, .bool false, .bool false] 26)
      clear hsome hnone hgv
      go_upto_region 4 with fail
      obtain ⟨gv, hgv⟩ : ∃ gv, w2.heap.size = gv := ⟨_, rfl⟩
      rw [hgv] at bv
      try rw [hgv]
      generalize w2.alloc (.cells #[.int .i64 0, .int .i64 0, .slice none 0 0, .int .i64 0, .int .i64 0, .bool false, .bool false] 26) = w3 at *
      clear hgv
      have y0 := bv.cell 0
      have y1 := bv.cell 1
      have y2 := bv.cell 2
      simp only [List.getElem?_toArray, List.getElem?_cons_succ, List.getElem?_cons_zero] at y0 y1 y2
      go_wp2_with fail
      refine (Code_ok b _ 1 none _ (HSE.out.below hb3) rfl (by decide)).mono ?_
      rintro e w6 ⟨rfl, rfl⟩
      go_wp2
      go_ret
      exact ⟨rfl, hb3⟩
end Go.Proofs.YtphdagmaamcapaaDoor

namespace Go.Proofs.YtphdagmaamcapaaDoor
open Go.RowKit
set_option linter.unusedVariables false

theorem walk_WireGets (x : Value) (s : List Int) (w : World) (hL : laidMetH Tryd.prog Rows.wireGetsRow.laid w) (hx : Slc (Rep.int .u8) (fun b => b < w.heap.size) (fun b => b < w.heap.size) w x s) :
    Calls Tryd.prog 4 #[x] w fun e w' => e = .returned (.bool true) ∧ Below w.heap.size w w' := by
  have h' : laidMet Tryd.prog Rows.wireGetsRow.laid w := hL
  obtain ⟨b, hS⟩ := sents_of_laid _ _ h' (fun k hk => by
    match k, hk with
    | 0, _ => exact List.mem_of_getElem? (i := 0) rfl
    | 1, _ => exact List.mem_of_getElem? (i := 1) rfl
    | 2, _ => exact List.mem_of_getElem? (i := 2) rfl
    | 3, _ => exact List.mem_of_getElem? (i := 3) rfl
    | 4, _ => exact List.mem_of_getElem? (i := 4) rfl
    | 5, _ => exact List.mem_of_getElem? (i := 5) rfl
    | 6, _ => exact List.mem_of_getElem? (i := 6) rfl
    | 7, _ => exact List.mem_of_getElem? (i := 7) rfl
    | k + 8, h => exact absurd h (by omega))
  exact walkS_WireGets b x s w hS hx
end Go.Proofs.YtphdagmaamcapaaDoor
