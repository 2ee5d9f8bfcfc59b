/-
  Several texts of this seat as one: Wir14, Wir16, Laid55c.
-/
import Derived.Test.YtphdagmaamcapaaDoorWirC
import Derived.Test.YtphdagmaamcapaaDoorWgt
import Derived.Test.YtphdagmaamcapaaDoorErr3
import Derived.Test.YtphdagmaamcapaaDoorRows
namespace Go.Proofs.YtphdagmaamcapaaDoor
open Go.RowKit
set_option linter.unusedVariables false
set_option linter.unusedSimpArgs false

def cellsN (l : List LineV) : Nat := (l.map fun p => p.1.length).sum
theorem cellsN_snoc {l : List LineV} {k : Nat} (h : k < l.length) : cellsN (l.take (k + 1)) = cellsN (l.take k) + l[k].1.length := by
  unfold cellsN
  rw [take_snoc' l k h, List.map_append, List.sum_append]
  simp
theorem cellsN_mem : ∀ {l : List LineV} {p : LineV}, p ∈ l → p.1.length ≤ cellsN l
  | q :: l, p, h => by
    have e : cellsN (q :: l) = q.1.length + cellsN l := by simp [cellsN]
    rcases List.mem_cons.1 h with rfl | h
    · omega
    · have := cellsN_mem h; omega
theorem lines_len2 : ∀ (ls : List LineV), (∀ l ∈ ls, l.1.length ≤ 1024 ∧ soundB l.1 = true) → (ls.flatMap lineE).length ≤ 70 * cellsN ls + ls.length
  | [], _ => by simp [cellsN]
  | l :: ls, h => by
    obtain ⟨h1, h2⟩ := h l (List.mem_cons.2 (.inl rfl))
    have h3 := line_len (p := l) (by omega) h2
    have h4 := lines_len2 ls (fun x hx => h x (List.mem_cons.2 (.inr hx)))
    have e : cellsN (l :: ls) = l.1.length + cellsN ls := by simp [cellsN]
    rw [List.flatMap_cons, List.length_append, List.length_cons, e]
    omega
theorem enc_len {v : ViewV} (h : rightV v = true) (h2 : cellsN v.lines < 2500) : 0 < (encF v).length ∧ (encF v).length ≤ 180000 := by
  obtain ⟨⟨h3, h4, h5, h6, h7⟩, ⟨h8, h9, h10, h11⟩, h12⟩ := rightV_parts h
  have h1 : v.lines.length ≤ 1024 := by omega
  have hl := lines_len2 v.lines (fun l hl => ⟨by have := (h12 l hl).1; omega, (h12 l hl).2⟩)
  have e1 := (numF_len v.wide.toNat (by omega)).2
  have e2 := (numF_len v.high.toNat (by omega)).2
  have e3 := (numF_len v.row.toNat (by omega)).2
  have e4 := (numF_len v.col.toNat (by omega)).2
  unfold encF
  simp only [List.length_cons, List.length_append, List.length_nil]
  omega
theorem getV_back {v : ViewV} (h : rightV v = true) : GetV (encF v) = some v := by
  have e := view_back v h []
  rw [List.append_nil] at e
  unfold GetV
  rw [e]
  simp [h]
theorem getV_cut {v : ViewV} (h : rightV v = true) (k : Nat) (hk : k < (encF v).length) : GetV ((encF v).take k) = none := by
  cases hg : GetV ((encF v).take k) with
  | none => rfl
  | some v' =>
    exfalso
    obtain ⟨hr, he⟩ := getV_some hg
    have e1 := view_back v' hr ((encF v).drop k)
    rw [he, List.take_append_drop] at e1
    have e2 := view_back v h []
    rw [List.append_nil] at e2
    rw [e1] at e2
    have e3 : (encF v).drop k = [] := congrArg (fun x => x.2.1) e2
    have e4 := congrArg List.length e3
    rw [List.length_drop, List.length_nil] at e4
    omega
theorem getV_more {v : ViewV} (h : rightV v = true) (x : Int) : GetV (encF v ++ [x]) = none := by
  have e := view_back v h [x]
  have hne : ¬ encF v = encF v ++ [x] := fun hh => by
    have := congrArg List.length hh
    rw [List.length_append] at this
    simp at this
  unfold GetV
  rw [e]
  simp only
  rw [if_neg (by decide), if_neg (fun hh => hne hh.2)]

def Great55R (ls : List LineV) (w : World) (e : Ending) (w' : World) : Prop := ∃ g, e = .returned (.bool g) ∧ (g = false → ls.length ≤ 1100 ∧ cellsN ls < 2500) ∧ Below w.heap.size w w'
set_option maxHeartbeats 2000000 in
theorem great55_ok (So : Nat → Prop) (x : Value) (wd hi r c : Int) (p au : Bool) (ls : List LineV) (w : World) (hx : Slc RLine So So w x ls) (hok : ∀ p ∈ ls, p.1.length ≤ 140737488355328) :
    Calls Tryd.prog 7 #[.agg #[.int .i64 wd, .int .i64 hi, x, .int .i64 r, .int .i64 c, .bool p, .bool au]] w (Great55R ls w) := by
  obtain ⟨A, c0, rfl, _, _, _⟩ := hx.open_
  have HOK := hide hok
  have bv := Blk.new w 26 #[.int .i64 wd, .int .i64 hi, .slice A ls.length c0, .int .i64 r, .int .i64 c, .bool p, .bool au]
  have hb1 := (Below.refl w.heap.size w).alloc (Nat.le_refl _) (.cells #[.int .i64 wd, .int .i64 hi, .slice A ls.length c0, .int .i64 r, .int .i64 c, .bool p, .bool au] 26)
  have hx1 : Slc RLine So So (w.alloc (.cells #[.int .i64 wd, .int .i64 hi, .slice A ls.length c0, .int .i64 r, .int .i64 c, .bool p, .bool au] 26)) (.slice A ls.length c0) ls := hx.mono (Keep.alloc _ w _) (Keep.alloc _ w _)
  clear hok hx
  go_enter Tryd.func7, Tryd.ntmps7
  go_upto_region 1 with fail
  obtain ⟨gv, hgv⟩ : ∃ gv, w.heap.size = gv := ⟨_, rfl⟩
  rw [hgv] at bv
  try rw [hgv]
  generalize w.alloc (.cells #[.int .i64 wd, .int .i64 hi, .slice A ls.length c0, .int .i64 r, .int .i64 c, .bool p, .bool au] 26) = w1 at *
  clear hgv
  have y2 := bv.cell 2
  simp only [List.getElem?_toArray, List.getElem?_cons_succ, List.getElem?_cons_zero] at y2
  obtain ⟨_, _, hse, hc1, hc2, hA⟩ := hx1.open_
  injection hse with e1 e2 e3
  subst e1
  clear e2 e3 hc1 hc2 hx1
  go_wp2
  go_loopw [3, 4] (fun nv iv wr => ∃ k : Nat, k ≤ ls.length ∧ iv = .int .i64 k ∧ nv = .int .i64 (cellsN (ls.take k)) ∧ cellsN (ls.take k) ≤ 140737488358000 ∧ w1 = wr) (fun _ iv _ => ls.length - (intOf iv).toNat)
  case atStart => exact ⟨0, Nat.zero_le _, rfl, rfl, Nat.zero_le _, rfl⟩
  case round =>
    obtain ⟨k, hk, rfl, rfl, hN, rfl⟩ := hrel
    by_cases hlt : k < ls.length
    · have hki : (k : Int) < ls.length := by omega
      by_cases hn : cellsN (ls.take k) < 2500
      · obtain ⟨ab, off, v, rfl, _, q0, q1, hv⟩ := line_at hA hlt
        obtain ⟨A', c', rfl, _, _, _⟩ := hv.open_
        have hsn := cellsN_snoc hlt
        have hle := HOK.out ls[k] (List.getElem_mem _)
        obtain ⟨M, hM⟩ : ∃ M, cellsN (ls.take k) = M := ⟨_, rfl⟩
        rw [hM] at hsn hn hN ⊢
        obtain ⟨n0, hn0⟩ : ∃ n0, ls[k].1.length = n0 := ⟨_, rfl⟩
        rw [hn0] at hsn hle q0
        have hni : (M : Int) < 2500 := by omega
        have HSN := hide hsn
        clear hsn hM hn0
        go_wp2
        go_roundw
        case rel => exact ⟨k + 1, by omega, by go_num, (by rw [HSN.out]; first | rfl | exact int_eq (by omega)), by rw [HSN.out]; omega, (by first | rfl | trivial)⟩
        case measure => simp [intOf]; omega
      · have hni : ¬ ((cellsN (ls.take k) : Nat) : Int) < 2500 := by omega
        have hni2 : (2500 : Int) ≤ (cellsN (ls.take k) : Nat) := by omega
        generalize cellsN (ls.take k) = M at *
        go_wp2
        go_ret
        exact ⟨true, rfl, (fun h => by cases h), hb1⟩
    · obtain rfl : k = ls.length := by omega
      rw [List.take_of_length_le (Nat.le_refl _)] at hN ⊢
      by_cases hn : cellsN ls < 2500
      · have hni : ¬ (2500 : Int) ≤ ((cellsN ls : Nat) : Int) := by omega
        by_cases hl : ls.length ≤ 1100
        · have hli : ¬ (1100 : Int) < ls.length := by omega
          have HP := hide (⟨hl, hn⟩ : _ ∧ _)
          obtain ⟨M, hM⟩ : ∃ M, cellsN ls = M := ⟨_, rfl⟩
          rw [hM] at hni hN ⊢
          clear hn hM
          go_wp2
          go_ret
          exact ⟨false, rfl, (fun _ => HP.out), hb1⟩
        · have hli : (1100 : Int) < ls.length := by omega
          generalize cellsN ls = M at *
          go_wp2
          go_ret
          exact ⟨true, rfl, (fun h => by cases h), hb1⟩
      · have hni : (2500 : Int) ≤ ((cellsN ls : Nat) : Int) := by omega
        generalize cellsN ls = M at *
        go_wp2
        go_ret
        exact ⟨true, rfl, (fun h => by cases h), hb1⟩
end Go.Proofs.YtphdagmaamcapaaDoor

namespace Go.Proofs.YtphdagmaamcapaaDoor
open Go.RowKit
set_option linter.unusedVariables false
set_option linter.unusedSimpArgs false

theorem u8_up {So : Nat → Prop} {w w' : World} {v : Value} {l : List Int} (h : Slc (Rep.int .u8) So (fun _ => False) w v l) (hs : ∀ b, So b → b < w.heap.size) (hb : Below w.heap.size w w') : Slc (Rep.int .u8) (fun b => b < w'.heap.size) (fun _ => False) w' v l :=
  ((h.ints_keep (Keep.weaken hs)).ints_keep (Keep.below hb)).ints_keep (Keep.weaken fun b hb' => Nat.lt_of_lt_of_le hb' hb.size)
theorem u64_len (n : Nat) (h : n ≤ 180000) : IntKind.u64.wrap (n : Int) = n := by
  have : IntKind.u64.wrap (n : Int) = (n : Int) % 18446744073709551616 := by simp [IntKind.wrap, IntKind.signed, IntKind.bits]
  omega
theorem mod_k (a : Int) (n : Nat) (h : n ≤ 180000) (h0 : 0 < n) : ∃ k : Nat, k < n ∧ wrap64 ((IntKind.u64.wrap a).tmod (n : Int)) = (k : Int) := by
  have ha : 0 ≤ IntKind.u64.wrap a := by
    have : IntKind.u64.wrap a = a % 18446744073709551616 := by simp [IntKind.wrap, IntKind.signed, IntKind.bits]
    omega
  rw [Int.tmod_eq_emod_of_nonneg ha]
  have h1 := Int.emod_nonneg (IntKind.u64.wrap a) (b := (n : Int)) (by omega)
  have h2 := Int.emod_lt_of_pos (IntKind.u64.wrap a) (b := (n : Int)) (by omega)
  generalize (IntKind.u64.wrap a) % (n : Int) = m at *
  refine ⟨m.toNat, by omega, ?_⟩
  unfold wrap64
  omega

set_option maxRecDepth 8000 in
set_option maxHeartbeats 4000000 in
theorem walkS_WireCuts (b : Nat → Addr) (cs : Array Value) (v : ViewV) (w : World) (hS : Sents b w) (hm : RView.E (fun b => b < w.heap.size) w cs.toList v) (at_ mo : Int) (hat : (Lit.int .i64 at_).wf = true) (hmo : (Lit.int .u8 mo).wf = true) (hok : LinesOk v.lines) :
    Calls Tryd.prog 5 #[.agg cs, .int .i64 at_, .int .u8 mo] w fun e w' => e = .returned (.bool true) ∧ Below w.heap.size w w' := by
  obtain ⟨x, hcs, _, _, _, _, hx⟩ := view_open hm
  obtain ⟨wd, hi, ls, r, c, p, au⟩ := v
  obtain ⟨l0⟩ := cs
  simp only at hcs hx hok
  subst hcs
  obtain ⟨A, c0, rfl, _, _, _⟩ := hx.open_
  have HSE := hide hS
  have HOK := hide hok.2
  have bv := Blk.new w 26 #[.int .i64 wd, .int .i64 hi, .slice A ls.length c0, .int .i64 r, .int .i64 c, .bool p, .bool au]
  have hb0 := (Below.refl w.heap.size w).alloc (Nat.le_refl _) (.cells #[.int .i64 wd, .int .i64 hi, .slice A ls.length c0, .int .i64 r, .int .i64 c, .bool p, .bool au] 26)
  have hz0 := hb0.size
  have hx0 := Slc.lt_up hx (fun _ h => h) hb0
  clear hS hm hok hx hat
  go_enter Tryd.func5, Tryd.ntmps5
  go_upto_region 1 with fail
  obtain ⟨gv, hgv⟩ : ∃ gv, w.heap.size = gv := ⟨_, rfl⟩
  rw [hgv] at bv
  try rw [hgv]
  generalize w.alloc (.cells #[.int .i64 wd, .int .i64 hi, .slice A ls.length c0, .int .i64 r, .int .i64 c, .bool p, .bool au] 26) = w0 at *
  clear hgv
  go_wp2_with fail
  refine (works55_ok b _ (HSE.out.below hb0)).mono ?_
  rintro e w1 ⟨rfl, hc1⟩
  have hb1 := hb0.trans (hc1.mono hz0)
  have hz1 := hb1.size
  have bv1 := bv.same hc1
  have hx1 := Slc.lt_up hx0 (fun _ h => h) hc1
  clear hx0 bv hc1
  have y0 := bv1.cell 0
  have y1 := bv1.cell 1
  have y2 := bv1.cell 2
  have y3 := bv1.cell 3
  have y4 := bv1.cell 4
  have y5 := bv1.cell 5
  have y6 := bv1.cell 6
  simp only [List.getElem?_toArray, List.getElem?_cons_succ, List.getElem?_cons_zero] at y0 y1 y2 y3 y4 y5 y6
  have HGR := hide (great55_ok _ (.slice A ls.length c0) wd hi r c p au ls w1 hx1 HOK.out)
  go_wp2_with fail
  refine HGR.out.mono ?_
  rintro e w2 ⟨g, rfl, hg, hc2⟩
  have hb2 := hb1.trans (hc2.mono hz1)
  have hz2 := hb2.size
  have bv2 := bv1.same hc2
  have hx2 := Slc.lt_up hx1 (fun _ h => h) hc2
  clear hx1 bv1 hc2 HGR y0 y1 y2 y3 y4 y5 y6
  cases g with
  | true =>
    clear hg
    go_wp2_with fail
    refine (works55_ok b _ (HSE.out.below hb2)).mono ?_
    rintro e w9 ⟨rfl, hc9⟩
    go_wp2
    go_ret
    exact ⟨rfl, hb2.trans (hc9.mono hz2)⟩
  | false =>
    obtain ⟨hl1, hl2⟩ := hg rfl
    clear hg
    have hcs : ∀ l ∈ ls, l.1.length ≤ 1000000 := fun l hl => by have := cellsN_mem hl; omega
    have hls : ls.length ≤ 1000000 := by omega
    have HC := hide hl2
    have HX2 := hide hx2
    have y0 := bv2.cell 0
    have y1 := bv2.cell 1
    have y2 := bv2.cell 2
    have y3 := bv2.cell 3
    have y4 := bv2.cell 4
    have y5 := bv2.cell 5
    have y6 := bv2.cell 6
    simp only [List.getElem?_toArray, List.getElem?_cons_succ, List.getElem?_cons_zero] at y0 y1 y2 y3 y4 y5 y6
    have HRR := hide (rRight43_ok _ (.slice A ls.length c0) wd hi r c p au ls w2 hx2 hcs hls)
    clear hcs hls hl1 hl2 hx2
    go_wp2_with fail
    refine HRR.out.mono ?_
    rintro e w3 ⟨rfl, hc3⟩
    have hb3 := hb2.trans (hc3.mono hz2)
    have hz3 := hb3.size
    have bv3 := bv2.same hc3
    have hx3 := Slc.lt_up HX2.out (fun _ h => h) hc3
    have HX3 := hide hx3
    clear hx3 HX2 bv2 hc3 HRR y0 y1 y2 y3 y4 y5 y6
    cases hrv : rightV ⟨wd, hi, ls, r, c, p, au⟩ with
    | false =>
      clear hrv
      go_wp2_with fail
      refine (works55_ok b _ (HSE.out.below hb3)).mono ?_
      rintro e w9 ⟨rfl, hc9⟩
      go_wp2
      go_ret
      exact ⟨rfl, hb3.trans (hc9.mono hz3)⟩
    | true =>
      have HRV := hide hrv
      have hlen := enc_len hrv HC.out
      have hcut := getV_cut hrv
      have hmore := getV_more hrv mo
      clear hrv
      have y0 := bv3.cell 0
      have y1 := bv3.cell 1
      have y2 := bv3.cell 2
      have y3 := bv3.cell 3
      have y4 := bv3.cell 4
      have y5 := bv3.cell 5
      have y6 := bv3.cell 6
      simp only [List.getElem?_toArray, List.getElem?_cons_succ, List.getElem?_cons_zero] at y0 y1 y2 y3 y4 y5 y6
      have HPT := hide (rPut55_ok (.slice A ls.length c0) wd hi r c p au ls w3 HRV.out HX3.out)
      go_wp2_with fail
      refine HPT.out.mono ?_
      rintro e w4 ⟨s, rfl, hs, hc4⟩
      have hb4 := hb3.trans (hc4.mono hz3)
      have hz4 := hb4.size
      obtain ⟨E, hE⟩ : ∃ E, encF ⟨wd, hi, ls, r, c, p, au⟩ = E := ⟨_, rfl⟩
      rw [hE] at hs hlen hcut hmore
      have hs4 := hs.islc.ints_keep (So' := fun b => b < w4.heap.size) (Keep.weaken fun b h => h.1)
      obtain ⟨As, cc, hse, hc1, hc2, _⟩ := hs4.open_
      obtain ⟨n, hn⟩ : ∃ n, E.length = n := ⟨_, rfl⟩
      have hfr := fun k (hk : k ≤ E.length) => (hse ▸ hs4).front hk
      rw [hn] at hse hlen hcut hfr hc1
      subst hse
      have HS4 := hide hs4
      have HFR := hide hfr
      have HCUT := hide hcut
      have HMORE := hide hmore
      have HN := hide hn
      obtain ⟨hn1, hn2⟩ := hlen
      have hun := u64_len n hn2
      have hne : ¬ (n : Int) = 0 := by omega
      obtain ⟨k, hk, hkm⟩ := mod_k at_ n hn2 hn1
      clear hs hs4 hfr hcut hmore hE HPT HX3 HC HRV bv3 y0 y1 y2 y3 y4 y5 y6 hc4 hn
      go_upto_region 5 with fail
      have hkc : k ≤ cc := by omega
      have hkl : (k : Int) ≤ n := by omega
      have HGT := hide (Get_ok b (.slice As k cc) _ w4 (HSE.out.below hb4) (HFR.out k (by omega)) (by rw [List.length_take]; omega))
      have hcutk := HCUT.out k hk
      clear HFR HCUT
      go_wp2_with fail
      refine HGT.out.mono ?_
      rintro e w5 ⟨_, hnone, hc5⟩
      obtain rfl := hnone hcutk
      have hb5 := hb4.trans (hc5.mono hz4)
      have hz5 := hb5.size
      have hs5 := u8_up HS4.out (fun _ h => h) hc5
      have hb6 := hb5.alloc hz5 (.cells #[.int .i64 0, .int .i64 0, .slice none 0 0, .int .i64 0, .int .i64 0, .bool false, .bool false] 26)
      have hk6 := (Below.refl w5.heap.size w5).alloc (Nat.le_refl _) (.cells #[.int .i64 0, .int .i64 0, .slice none 0 0, .int .i64 0, .int .i64 0, .bool false, .bool false] 26)
      have hs6 := u8_up hs5 (fun _ h => h) hk6
      clear HGT hnone hc5 HS4 hs5 hk6 hcutk
      go_upto_region 6 with fail
      generalize w5.alloc (.cells #[.int .i64 0, .int .i64 0, .slice none 0 0, .int .i64 0, .int .i64 0, .bool false, .bool false] 26) = w6 at *
      have hz6 := hb6.size
      have hown := own_u8 w6 [] (fun x hx => by cases hx) w.heap.size w6.heap.size 0 hz6 rfl rfl (by simp)
      have hb7 := hb6.alloc hz6 (.cells #[] 5)
      have hk7 := (Below.refl w6.heap.size w6).alloc (Nat.le_refl _) (.cells #[] 5)
      have hs7 := u8_up hs6 (fun _ h => h) hk7
      have hz7 := hb7.size
      have hnE := HN.out
      clear hk7 hs6
      go_wp2_with (first | (at_builtin; refine wpList_appu rfl (.tmp 42) (.tmp 43) 29 rfl w.heap.size Tryd.underlying29 u8_info _ _ rfl hown _ _ _ _ rfl hs7 (by simp only [List.length_nil]; omega) hz7 ?_; intro v8 w8 hv8 hg8; have hst8 := hg8.step hown; have hb8 := hb7.trans (hst8.below hz7); have hone := (own_u8 w8 [mo] (fun x hx => by rw [List.mem_singleton] at hx; subst hx; exact hmo) w8.heap.size w8.heap.size 1 (Nat.le_refl _) rfl rfl (by simp [maxLen])).islc; have hown8 := hv8.alloc (.cells #[.int .u8 mo] 5); have hb8a := hb8.alloc hb8.size (.cells #[.int .u8 mo] 5)) | (at_builtin; refine wpList_appu rfl (.tmp 44) (.tmp 46) 29 rfl w.heap.size Tryd.underlying29 u8_info _ _ rfl hown8 _ _ _ _ rfl hone (by simp only [List.length_singleton, List.nil_append]; omega) hb8a.size ?_; intro v9 w9 hv9 hg9; have hb9 := hb8a.trans ((hg9.step hown8).below hb8a.size)))
      rw [List.nil_append] at hv9
      have hsE := hv9.islc.ints_keep (So' := fun b => b < w9.heap.size) (Keep.weaken fun b h => h.1)
      obtain ⟨A9, c9, h9e, _, _, _⟩ := hsE.open_
      have h9n : (E ++ [mo]).length = n + 1 := by rw [List.length_append, hnE]; rfl
      rw [h9n] at h9e
      subst h9e
      have HGU := hide (Get_ok b (.slice A9 (n + 1) c9) _ w9 (HSE.out.below hb9) hsE (by omega))
      clear hsE hv9 hg9 hv8 hg8 hst8 hone hown8 hown
      refine HGU.out.mono ?_
      rintro e w10 ⟨_, hnone, hc10⟩
      obtain rfl := hnone HMORE.out
      have hb10 := hb9.trans (hc10.mono hb9.size)
      have hb11 := hb10.alloc hb10.size (.cells #[.int .i64 0, .int .i64 0, .slice none 0 0, .int .i64 0, .int .i64 0, .bool false, .bool false] 26)
      clear hnone hc10 HGU
      go_upto_region 7 with fail
      generalize w10.alloc (.cells #[.int .i64 0, .int .i64 0, .slice none 0 0, .int .i64 0, .int .i64 0, .bool false, .bool false] 26) = w11 at *
      go_wp2_with fail
      refine (Code_ok b _ 1 none _ (HSE.out.below hb11) rfl (by decide)).mono ?_
      rintro e w12 ⟨rfl, rfl⟩
      go_wp2_with fail
      refine (Code_ok b _ 1 none _ (HSE.out.below hb11) rfl (by decide)).mono ?_
      rintro e w12 ⟨rfl, rfl⟩
      go_wp2
      go_ret
      exact ⟨rfl, hb11⟩
end Go.Proofs.YtphdagmaamcapaaDoor

namespace Go.Proofs.YtphdagmaamcapaaDoor
open Go.RowKit
set_option linter.unusedVariables false

theorem walk_WireCuts (cs : Array Value) (v : ViewV) (at_ mo : Int) (w : World) (hL : laidMetH Tryd.prog Rows.wireCutsRow.laid w) (hm : RView.E (fun b => b < w.heap.size) w cs.toList v) (hat : (Lit.int .i64 at_).wf = true) (hmo : (Lit.int .u8 mo).wf = true) (hok : LinesOk v.lines) :
    Calls Tryd.prog 5 #[.agg cs, .int .i64 at_, .int .u8 mo] w fun e w' => e = .returned (.bool true) ∧ Below w.heap.size w w' := by
  have h' : laidMet Tryd.prog Rows.wireCutsRow.laid w := hL
  obtain ⟨b, hS⟩ := sents_of_laid _ _ h' (fun k hk => by
    match k, hk with
    | 0, _ => exact List.mem_of_getElem? (i := 0) rfl
    | 1, _ => exact List.mem_of_getElem? (i := 1) rfl
    | 2, _ => exact List.mem_of_getElem? (i := 2) rfl
    | 3, _ => exact List.mem_of_getElem? (i := 3) rfl
    | 4, _ => exact List.mem_of_getElem? (i := 4) rfl
    | 5, _ => exact List.mem_of_getElem? (i := 5) rfl
    | 6, _ => exact List.mem_of_getElem? (i := 6) rfl
    | 7, _ => exact List.mem_of_getElem? (i := 7) rfl
    | k + 8, h => exact absurd h (by omega))
  exact walkS_WireCuts b cs v w hS hm at_ mo hat hmo hok
end Go.Proofs.YtphdagmaamcapaaDoor
