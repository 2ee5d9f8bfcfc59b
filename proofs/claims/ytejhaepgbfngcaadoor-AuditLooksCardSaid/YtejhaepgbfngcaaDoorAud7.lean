/-
  All that is wrong with a view, by the document: what its function returns.
-/
import Derived.Test.YtejhaepgbfngcaaDoorAud5
import Derived.Test.YtejhaepgbfngcaaDoorCell1
import Derived.Deep.CutRange
namespace Go.Proofs.YtejhaepgbfngcaaDoor
open Go.RowKit
set_option linter.unusedVariables false
set_option linter.unusedSimpArgs false

def RFound : Rep FoundV := Rep.flat 3 (fun x => [.int .i64 x.1, .int .i64 x.2.1, .int .i64 x.2.2]) (fun _ => rfl) (fun _ => by simp [Value.oneCell'])
theorem RFound.flat : Flat RFound := Flat.flat _ _ _ _
theorem found_info : (Tryd.prog.info? 73).map (fun i => (i.zero, i.size, i.bytes)) = some (some (.agg #[.int .i64 0, .int .i64 0, .int .i64 0]), RFound.sz, 24) := by kernel_rfl
theorem found_at {So Si : Nat → Prop} {w : World} {A : Option Addr} {l : List FoundV} (h : SlB RFound So Si w A l) {k : Nat} (hk : k < l.length) :
    ∃ g off, A = some ⟨g, off, none⟩ ∧ So g ∧ w.cell? ⟨g, off + k * 3, none⟩ = some (.int .i64 l[k].1) ∧ w.cell? ⟨g, off + k * 3 + 1, none⟩ = some (.int .i64 l[k].2.1) ∧ w.cell? ⟨g, off + k * 3 + 2, none⟩ = some (.int .i64 l[k].2.2) := by
  obtain ⟨g, off, u, rfl, hs, hu, hc⟩ := h.at_ (k := k) (x := l[k]) (List.getElem?_eq_getElem hk) (by decide)
  have hu : u = [.int .i64 l[k].1, .int .i64 l[k].2.1, .int .i64 l[k].2.2] := hu
  subst hu
  have h0 := hc 0 (by decide)
  have h1 := hc 1 (by decide)
  have h2 := hc 2 (by decide)
  have e : RFound.sz = 3 := rfl
  rw [e] at h0 h1 h2
  simp only [← Nat.add_assoc, Nat.add_zero] at h0 h1 h2
  exact ⟨g, off, rfl, hs, h0, h1, h2⟩

set_option maxHeartbeats 12000000 in
set_option maxRecDepth 4096 in
theorem rLook_ok (So : Nat → Prop) (x : Value) (wd hi r c : Int) (p au : Bool) (ls : List LineV) (w : World) (hx : Slc RLine So (fun b => b < w.heap.size) w x ls) (hlen : ∀ l ∈ ls, l.1.length ≤ 1000000) (hll : ls.length ≤ 1000000) :
    Calls Tryd.prog 33 #[.agg #[.int .i64 wd, .int .i64 hi, x, .int .i64 r, .int .i64 c, .bool p, .bool au]] w fun e w' => ∃ s, e = .returned s ∧ Own RFound 73 [] w.heap.size w' s (lookF ⟨wd, hi, ls, r, c, p, au⟩) ∧ Below w.heap.size w w' := by
  obtain ⟨A, cp, rfl, _, _, _⟩ := hx.open_
  have hlf : lookF ⟨wd, hi, ls, r, c, p, au⟩ = (if decide (hi = ls.length ∧ 1 ≤ hi ∧ hi ≤ 1024 ∧ 1 ≤ wd ∧ wd ≤ 1024) = true then [] else [(-1, -1, 3)]) ++ lookN wd ls ls.length ++ (if curRight r c p wd hi = true then [] else [(-1, -1, 8)]) := rfl
  generalize lookF ⟨wd, hi, ls, r, c, p, au⟩ = res at *
  have hb0 := (Below.refl w.heap.size w).alloc (Nat.le_refl _) (.cells #[.int .i64 wd, .int .i64 hi, .slice A ls.length cp, .int .i64 r, .int .i64 c, .bool p, .bool au] 40)
  have hblk0 := Blk.new w 40 #[.int .i64 wd, .int .i64 hi, .slice A ls.length cp, .int .i64 r, .int .i64 c, .bool p, .bool au]
  have HNL := hide (lookN_len wd ls hlen)
  have HLEN := hide hlen
  have HCR := hide (fun w => rRight31_ok r c p wd hi w)
  have hz0 := hb0.size
  clear hlen
  obtain ⟨gd, hgd⟩ : ∃ gd, gd = decide (hi = ls.length ∧ 1 ≤ hi ∧ hi ≤ 1024 ∧ 1 ≤ wd ∧ wd ≤ 1024) := ⟨_, rfl⟩
  rw [← hgd] at hlf
  obtain ⟨acc0, hac⟩ : ∃ acc0 : List FoundV, acc0 = if gd = true then [] else [(-1, -1, 3)] := ⟨_, rfl⟩
  rw [← hac] at hlf
  have HLF := hide hlf
  have HACC : Hid (acc0.length ≤ 1) := hide (by rw [hac]; split <;> simp)
  have HAC := hide hac
  have HGD := hide hgd
  have HBK := hide hblk0
  have HBZ := hide hb0
  clear hlf hac hblk0 hb0 hgd
  go_enter Tryd.func33, Tryd.ntmps33
  go_upto_region 2 with fail
  go_cut [32] from 7 to 36 (fun s wx => s = .bool (!gd) ∧ wx = (w.alloc (.cells #[.int .i64 wd, .int .i64 hi, .slice A ls.length cp, .int .i64 r, .int .i64 c, .bool p, .bool au] 40)))
  case first =>
    by_cases k0 : 1 ≤ wd
    · have q0 : ¬ wd < 1 := by omega
      by_cases k1 : wd ≤ 1024
      · have q1 : ¬ 1024 < wd := by omega
        by_cases k2 : 1 ≤ hi
        · have q2 : ¬ hi < 1 := by omega
          by_cases k3 : hi ≤ 1024
          · have q3 : ¬ 1024 < hi := by omega
            by_cases k4 : hi = ls.length
            · have q4 : (hi != ls.length) = false := by simp [k4]
              have HB : Hid (decide (hi = ls.length ∧ 1 ≤ hi ∧ hi ≤ 1024 ∧ 1 ≤ wd ∧ wd ≤ 1024) = true) := hide (decide_eq_true ⟨k4, k2, k3, k0, k1⟩)
              clear k4
              go_wp2
              go_meet
              exact ⟨by rw [HGD.out, HB.out]; rfl, rfl⟩
            · have q4 : (hi != ls.length) = true := by simp [k4]
              have HB : Hid (decide (hi = ls.length ∧ 1 ≤ hi ∧ hi ≤ 1024 ∧ 1 ≤ wd ∧ wd ≤ 1024) = false) := hide (decide_eq_false (fun h => k4 h.1))
              clear k4
              go_wp2
              go_meet
              exact ⟨by rw [HGD.out, HB.out]; rfl, rfl⟩
          · have q3 : 1024 < hi := by omega
            have HB : Hid (decide (hi = ls.length ∧ 1 ≤ hi ∧ hi ≤ 1024 ∧ 1 ≤ wd ∧ wd ≤ 1024) = false) := hide (decide_eq_false (fun h => k3 h.2.2.1))
            clear k3
            go_wp2
            go_meet
            exact ⟨by rw [HGD.out, HB.out]; rfl, rfl⟩
        · have q2 : hi < 1 := by omega
          have HB : Hid (decide (hi = ls.length ∧ 1 ≤ hi ∧ hi ≤ 1024 ∧ 1 ≤ wd ∧ wd ≤ 1024) = false) := hide (decide_eq_false (fun h => k2 h.2.1))
          clear k2
          go_wp2
          go_meet
          exact ⟨by rw [HGD.out, HB.out]; rfl, rfl⟩
      · have q1 : 1024 < wd := by omega
        have HB : Hid (decide (hi = ls.length ∧ 1 ≤ hi ∧ hi ≤ 1024 ∧ 1 ≤ wd ∧ wd ≤ 1024) = false) := hide (decide_eq_false (fun h => k1 h.2.2.2.2))
        clear k1
        go_wp2
        go_meet
        exact ⟨by rw [HGD.out, HB.out]; rfl, rfl⟩
    · have q0 : wd < 1 := by omega
      have HB : Hid (decide (hi = ls.length ∧ 1 ≤ hi ∧ hi ≤ 1024 ∧ 1 ≤ wd ∧ wd ≤ 1024) = false) := hide (decide_eq_false (fun h => k0 h.2.2.2.1))
      clear k0
      go_wp2
      go_meet
      exact ⟨by rw [HGD.out, HB.out]; rfl, rfl⟩
  case rest =>
    obtain ⟨rfl, rfl⟩ := hcut
    clear HGD
    go_upto_if 32 with fail
    go_cut [3] from 7 to 36 (fun s wx => Own RFound 73 [] w.heap.size wx s acc0 ∧ Blk wx w.heap.size 40 #[.int .i64 wd, .int .i64 hi, .slice A ls.length cp, .int .i64 r, .int .i64 c, .bool p, .bool au] ∧ Below w.heap.size w wx)
    case first =>
      cases gd with
      | true =>
        have HAC2 : Hid (acc0 = []) := hide (by rw [HAC.out, if_pos rfl])
        go_wp2
        go_meet
        exact ⟨by rw [HAC2.out]; exact Own.nil_ _ _ _ _ _ (by decide), HBK.out, HBZ.out⟩
      | false =>
        have HAC2 : Hid (acc0 = [(-1, -1, 3)]) := hide (by rw [HAC.out, if_neg (by decide)])
        have hout0 := Own.nil_ RFound 73 [] w.heap.size ((w.alloc (.cells #[.int .i64 wd, .int .i64 hi, .slice A ls.length cp, .int .i64 r, .int .i64 c, .bool p, .bool au] 40)).alloc (.cells #[.int .i64 (-1), .int .i64 (-1), .int .i64 3] 73)) (by decide)
        have hone : Slc RFound (fun _ => True) (fun _ => False) ((w.alloc (.cells #[.int .i64 wd, .int .i64 hi, .slice A ls.length cp, .int .i64 r, .int .i64 c, .bool p, .bool au] 40)).alloc (.cells #[.int .i64 (-1), .int .i64 (-1), .int .i64 3] 73)) (.slice (some ⟨w.heap.size + 1, 0, none⟩) 1 1) [(-1, -1, 3)] := Slc.one_flat 73 (w.alloc (.cells #[.int .i64 wd, .int .i64 hi, .slice A ls.length cp, .int .i64 r, .int .i64 c, .bool p, .bool au] 40)) (w.heap.size + 1) (by simp) (-1, -1, 3) #[.int .i64 (-1), .int .i64 (-1), .int .i64 3] rfl
        go_wp2_with (at_builtin; refine wpList_appg rfl (.tmp 33) (.tmp 35) 69 rfl RFound 73 [] w.heap.size 24 _ Tryd.underlying69 found_info rfl (by decide) (by decide) _ _ rfl hout0 _ _ _ _ rfl hone (fun _ h => h.elim) (by simp) (by simp; omega) ?_; intro v6 w6 hv6 hst6 hg6 hob6)
        have hst0 := ((Step.alloc1 w.heap.size [73] (w.alloc (.cells #[.int .i64 wd, .int .i64 hi, .slice A ls.length cp, .int .i64 r, .int .i64 c, .bool p, .bool au] 40)) _).trans hst6)
        go_meet
        exact ⟨by rw [HAC2.out]; exact hv6, HBK.out.step hst0 (by decide), HBZ.out.trans (hst0.below HBZ.out.size)⟩
    case rest =>
      obtain ⟨HV0, HBLK, HB0⟩ := hcut
      clear hz0 HBK HBZ
      go_wp2
      go_loopw [3, 4] (fun out i wr => ∃ k : Nat, k ≤ ls.length ∧ i = .int .i64 k ∧ Own RFound 73 [] w.heap.size wr out (acc0 ++ lookN wd ls k) ∧ Blk wr w.heap.size 40 #[.int .i64 wd, .int .i64 hi, .slice A ls.length cp, .int .i64 r, .int .i64 c, .bool p, .bool au] ∧ Below w.heap.size w wr) (fun _ i _ => ls.length - (intOf i).toNat)
      case atStart => exact ⟨0, Nat.zero_le _, rfl, by simpa [lookN] using HV0, HBLK, HB0⟩
      case round =>
        obtain ⟨k, hk, rfl, hout, hblkr, hbel⟩ := hrel
        have hsz := hbel.size
        have hlt0 := hblkr.lt
        have y0 := hblkr.cell 0
        have y1 := hblkr.cell 1
        have y2 := hblkr.cell 2
        have y3 := hblkr.cell 3
        have y4 := hblkr.cell 4
        have y5 := hblkr.cell 5
        simp only [List.getElem?_toArray, List.getElem?_cons_succ, List.getElem?_cons_zero] at y0 y1 y2 y3 y4 y5
        have hnl := HNL.out k hk
        have hk6 : k * 1000001 ≤ 1000000 * 1000001 := Nat.mul_le_mul_right _ (by omega)
        have ha0 : acc0.length ≤ 1 := HACC.out
        have hl4 : (acc0 ++ lookN wd ls k).length ≤ 1 + 1000000 * 1000001 := by rw [List.length_append]; omega
        by_cases hlt : k < ls.length
        · obtain ⟨ab, off, v2, rfl, _, p0, p1, hv⟩ := line_at hx.slb hlt
          obtain ⟨A2, c2, rfl, _, _, _⟩ := hv.open_
          have hab := World.block_lt_of_cell? w _ p0
          simp only at hab
          have q8 := (hbel.cell (p := ⟨ab, off + k * 2, none⟩) hab).trans p0
          have hln := HLEN.out ls[k] (List.getElem_mem _)
          have hsn := lookN_snoc wd ls k hlt
          have hll2 : lookL wd k ls[k] = (if (ls[k].1.length : Int) = wd then [] else [((k : Int), -1, 4)]) ++ lookC k ls[k].1 ls[k].1.length := rfl
          rw [hll2] at hsn
          clear p0 p1 hll2
          by_cases hw1 : (ls[k].1.length : Int) = wd
          · have e1 : ((ls[k].1.length : Int) != wd) = false := by simp [hw1]
            rw [if_pos hw1, List.nil_append] at hsn
            have HSN := hide hsn
            clear hsn hw1
            obtain ⟨acc1, hacc1⟩ : ∃ acc1, acc1 = acc0 ++ lookN wd ls k := ⟨_, rfl⟩
            have hout2 := hout
            rw [← hacc1] at hout2
            have ha1 : acc1.length ≤ 1 + 1000000 * 1000001 + 1 := by rw [hacc1]; omega
            have HA1 : Hid (acc0 ++ lookN wd ls (k + 1) = acc1 ++ lookC k ls[k].1 ls[k].1.length) := hide (by rw [HSN.out, hacc1, List.append_assoc])
            have hblk2 := hblkr
            have hbl := hbel
            clear hacc1 hout
            go_wp2
            go_loopw [3, 6] (fun out j wq => ∃ m : Nat, m ≤ ls[k].1.length ∧ j = .int .i64 m ∧ Own RFound 73 [] w.heap.size wq out (acc1 ++ lookC k ls[k].1 m) ∧ Blk wq w.heap.size 40 #[.int .i64 wd, .int .i64 hi, .slice (some ⟨ab, off, none⟩) ls.length cp, .int .i64 r, .int .i64 c, .bool p, .bool au] ∧ Below w.heap.size w wq) (fun _ j _ => ls[k].1.length - (intOf j).toNat)
            case atStart => exact ⟨0, Nat.zero_le _, rfl, by simpa [lookC] using hout2, hblk2, hbl⟩
            case round =>
              obtain ⟨m, hm, rfl, hom, hbv, hbm⟩ := hrel
              have hzm := hbm.size
              have hcm := lookC_len k ls[k].1 m
              by_cases hml : m < ls[k].1.length
              · have hvm := hv.mono (Keep.below (S := fun b => b < w.heap.size) hbm) (Keep.below (S := fun b => b < w.heap.size) hbm)
                obtain ⟨cb, co, v3, rfl, hcb, s0, s1, hkw, htx⟩ := cell_at hvm.slb hml
                obtain ⟨A3, c3, rfl, _, _, _⟩ := htx.open_
                have hcs := lookC_snoc k ls[k].1 m
                have hwa : wrongAt ls[k].1 m = if rightB ls[k].1[m] = false then 5 else if (ls[k].1[m].1 = 2 ∧ kindI ls[k].1 ((m : Int) + 1) ≠ 3) ∨ (ls[k].1[m].1 = 3 ∧ kindI ls[k].1 ((m : Int) - 1) ≠ 2) then 2 else 0 := by unfold wrongAt; rw [dif_pos hml]
                rcases Bool.eq_false_or_eq_true (rightB ls[k].1[m]) with hr | hr
                · rw [if_neg (by rw [hr]; simp)] at hwa
                  have HR := hide hr
                  clear hr
                  by_cases h2 : ls[k].1[m].1 = 2
                  · have e2 : (ls[k].1[m].1 == 2) = true := by simpa using h2
                    have e3 : (ls[k].1[m].1 == 3) = false := by rw [beq_eq_false_iff_ne]; omega
                    by_cases h4 : kindI ls[k].1 ((m : Int) + 1) = 3
                    · have e4 : (kindI ls[k].1 ((m : Int) + 1) != 3) = false := by simp [h4]
                      rw [if_neg (by intro h; rcases h with ⟨_, h⟩ | ⟨h, _⟩ <;> omega)] at hwa
                      rw [hwa, if_pos rfl, List.append_nil] at hcs
                      have HCS := hide hcs
                      clear hcs hwa h2 h4
                      go_wp2_with fail
                      refine (rRight_ok _ _ _ _ ls[k].1[m].2 _ hkw htx).mono ?_
                      rw [HR.out]
                      rintro e w7 ⟨rfl, hb7⟩
                      have hb7' := hbm.trans (hb7.mono hzm)
                      have hz7 := hb7'.size
                      have hbv7 := hbv.same hb7
                      have hx7 := hvm.mono (Keep.below (S := fun b => b < w.heap.size) (hb7.mono (Nat.le_refl _))) (Keep.below (S := fun b => b < w.heap.size) (hb7.mono (Nat.le_refl _)))
                      have t0 := (hb7.cell (p := ⟨cb, co + m * 2, none⟩) (World.block_lt_of_cell? _ _ s0)).trans s0
                      go_wp2_with fail
                      refine (Kind_ok _ _ _ ls[k].1 ((m : Int) + 1) _ hx7 (by omega) (by omega)).mono ?_
                      rintro e w8 ⟨rfl, rfl⟩
                      go_wp2
                      go_roundw
                      case rel => exact ⟨m + 1, by omega, by go_num, by rw [HCS.out]; exact hom.below hb7, hbv7, hb7'⟩
                      case measure => simp [intOf]; omega
                    · have e4 : (kindI ls[k].1 ((m : Int) + 1) != 3) = true := by simp [h4]
                      rw [if_pos (.inl ⟨h2, h4⟩)] at hwa
                      rw [if_neg (by rw [hwa]; decide), hwa] at hcs
                      have HCS := hide hcs
                      clear hcs hwa h2 h4
                      go_wp2_with fail
                      refine (rRight_ok _ _ _ _ ls[k].1[m].2 _ hkw htx).mono ?_
                      rw [HR.out]
                      rintro e w7 ⟨rfl, hb7⟩
                      have hb7' := hbm.trans (hb7.mono hzm)
                      have hz7 := hb7'.size
                      have hbv7 := hbv.same hb7
                      have hx7 := hvm.mono (Keep.below (S := fun b => b < w.heap.size) (hb7.mono (Nat.le_refl _))) (Keep.below (S := fun b => b < w.heap.size) (hb7.mono (Nat.le_refl _)))
                      have t0 := (hb7.cell (p := ⟨cb, co + m * 2, none⟩) (World.block_lt_of_cell? _ _ s0)).trans s0
                      go_wp2_with fail
                      refine (Kind_ok _ _ _ ls[k].1 ((m : Int) + 1) _ hx7 (by omega) (by omega)).mono ?_
                      rintro e w8 ⟨rfl, rfl⟩
                      have hout4 := (hom.below hb7).alloc (.cells #[.int .i64 k, .int .i64 m, .int .i64 2] 73)
                      have hl4 : (acc1 ++ lookC k ls[k].1 m).length ≤ 2 + 1000000 * 1000001 + 1000000 := by rw [List.length_append]; omega
                      go_wp2_with (at_builtin; refine wpList_appg rfl (.tmp 106) (.tmp 110) 69 rfl RFound 73 [] w.heap.size 24 _ Tryd.underlying69 found_info rfl (by decide) (by decide) _ _ rfl hout4 _ _ _ _ rfl (Slc.one_flat 73 w7 w7.heap.size rfl ((k : Int), (m : Int), 2) #[.int .i64 k, .int .i64 m, .int .i64 2] rfl) (fun _ h => h.elim) (by simp only [List.length_singleton]; omega) (by simp; omega) ?_; intro v6 w6 hv6 hst6 hg6 hob6)
                      have hst5 := ((Step.alloc1 w.heap.size [73] w7 _).trans hst6)
                      go_roundw
                      case rel => exact ⟨m + 1, by omega, by go_num, by rw [HCS.out, ← List.append_assoc]; exact hv6, hbv7.step hst5 (by decide), hb7'.trans (hst5.below hz7)⟩
                      case measure => simp [intOf]; omega
                  · have e2 : (ls[k].1[m].1 == 2) = false := by simpa using h2
                    by_cases h3 : ls[k].1[m].1 = 3
                    · have e3 : (ls[k].1[m].1 == 3) = true := by simpa using h3
                      by_cases h4 : kindI ls[k].1 ((m : Int) - 1) = 2
                      · have e4 : (kindI ls[k].1 ((m : Int) - 1) != 2) = false := by simp [h4]
                        rw [if_neg (by intro h; rcases h with ⟨h, _⟩ | ⟨_, h⟩ <;> omega)] at hwa
                        rw [hwa, if_pos rfl, List.append_nil] at hcs
                        have HCS := hide hcs
                        clear hcs hwa h2 h3 h4
                        go_wp2_with fail
                        refine (rRight_ok _ _ _ _ ls[k].1[m].2 _ hkw htx).mono ?_
                        rw [HR.out]
                        rintro e w7 ⟨rfl, hb7⟩
                        have hb7' := hbm.trans (hb7.mono hzm)
                        have hz7 := hb7'.size
                        have hbv7 := hbv.same hb7
                        have hx7 := hvm.mono (Keep.below (S := fun b => b < w.heap.size) (hb7.mono (Nat.le_refl _))) (Keep.below (S := fun b => b < w.heap.size) (hb7.mono (Nat.le_refl _)))
                        have t0 := (hb7.cell (p := ⟨cb, co + m * 2, none⟩) (World.block_lt_of_cell? _ _ s0)).trans s0
                        go_wp2_with fail
                        refine (Kind_ok _ _ _ ls[k].1 ((m : Int) - 1) _ hx7 (by omega) (by omega)).mono ?_
                        rintro e w8 ⟨rfl, rfl⟩
                        go_wp2
                        go_roundw
                        case rel => exact ⟨m + 1, by omega, by go_num, by rw [HCS.out]; exact hom.below hb7, hbv7, hb7'⟩
                        case measure => simp [intOf]; omega
                      · have e4 : (kindI ls[k].1 ((m : Int) - 1) != 2) = true := by simp [h4]
                        rw [if_pos (.inr ⟨h3, h4⟩)] at hwa
                        rw [if_neg (by rw [hwa]; decide), hwa] at hcs
                        have HCS := hide hcs
                        clear hcs hwa h2 h3 h4
                        go_wp2_with fail
                        refine (rRight_ok _ _ _ _ ls[k].1[m].2 _ hkw htx).mono ?_
                        rw [HR.out]
                        rintro e w7 ⟨rfl, hb7⟩
                        have hb7' := hbm.trans (hb7.mono hzm)
                        have hz7 := hb7'.size
                        have hbv7 := hbv.same hb7
                        have hx7 := hvm.mono (Keep.below (S := fun b => b < w.heap.size) (hb7.mono (Nat.le_refl _))) (Keep.below (S := fun b => b < w.heap.size) (hb7.mono (Nat.le_refl _)))
                        have t0 := (hb7.cell (p := ⟨cb, co + m * 2, none⟩) (World.block_lt_of_cell? _ _ s0)).trans s0
                        go_wp2_with fail
                        refine (Kind_ok _ _ _ ls[k].1 ((m : Int) - 1) _ hx7 (by omega) (by omega)).mono ?_
                        rintro e w8 ⟨rfl, rfl⟩
                        have hout4 := (hom.below hb7).alloc (.cells #[.int .i64 k, .int .i64 m, .int .i64 2] 73)
                        have hl4 : (acc1 ++ lookC k ls[k].1 m).length ≤ 2 + 1000000 * 1000001 + 1000000 := by rw [List.length_append]; omega
                        go_wp2_with (at_builtin; refine wpList_appg rfl (.tmp 106) (.tmp 110) 69 rfl RFound 73 [] w.heap.size 24 _ Tryd.underlying69 found_info rfl (by decide) (by decide) _ _ rfl hout4 _ _ _ _ rfl (Slc.one_flat 73 w7 w7.heap.size rfl ((k : Int), (m : Int), 2) #[.int .i64 k, .int .i64 m, .int .i64 2] rfl) (fun _ h => h.elim) (by simp only [List.length_singleton]; omega) (by simp; omega) ?_; intro v6 w6 hv6 hst6 hg6 hob6)
                        have hst5 := ((Step.alloc1 w.heap.size [73] w7 _).trans hst6)
                        go_roundw
                        case rel => exact ⟨m + 1, by omega, by go_num, by rw [HCS.out, ← List.append_assoc]; exact hv6, hbv7.step hst5 (by decide), hb7'.trans (hst5.below hz7)⟩
                        case measure => simp [intOf]; omega
                    · have e3 : (ls[k].1[m].1 == 3) = false := by simpa using h3
                      rw [if_neg (by intro h; rcases h with ⟨h, _⟩ | ⟨h, _⟩ <;> omega)] at hwa
                      rw [hwa, if_pos rfl, List.append_nil] at hcs
                      have HCS := hide hcs
                      clear hcs hwa h2 h3
                      go_wp2_with fail
                      refine (rRight_ok _ _ _ _ ls[k].1[m].2 _ hkw htx).mono ?_
                      rw [HR.out]
                      rintro e w7 ⟨rfl, hb7⟩
                      have hb7' := hbm.trans (hb7.mono hzm)
                      have hz7 := hb7'.size
                      have hbv7 := hbv.same hb7
                      have hx7 := hvm.mono (Keep.below (S := fun b => b < w.heap.size) (hb7.mono (Nat.le_refl _))) (Keep.below (S := fun b => b < w.heap.size) (hb7.mono (Nat.le_refl _)))
                      have t0 := (hb7.cell (p := ⟨cb, co + m * 2, none⟩) (World.block_lt_of_cell? _ _ s0)).trans s0
                      go_wp2
                      go_roundw
                      case rel => exact ⟨m + 1, by omega, by go_num, by rw [HCS.out]; exact hom.below hb7, hbv7, hb7'⟩
                      case measure => simp [intOf]; omega
                · rw [if_pos hr] at hwa
                  rw [if_neg (by rw [hwa]; decide), hwa] at hcs
                  have HR := hide hr
                  have HCS := hide hcs
                  clear hr hcs hwa
                  go_wp2_with fail
                  refine (rRight_ok _ _ _ _ ls[k].1[m].2 _ hkw htx).mono ?_
                  rw [HR.out]
                  rintro e w7 ⟨rfl, hb7⟩
                  have hb7' := hbm.trans (hb7.mono hzm)
                  have hz7 := hb7'.size
                  have hbv7 := hbv.same hb7
                  have hout4 := (hom.below hb7).alloc (.cells #[.int .i64 k, .int .i64 m, .int .i64 5] 73)
                  have hl4 : (acc1 ++ lookC k ls[k].1 m).length ≤ 2 + 1000000 * 1000001 + 1000000 := by rw [List.length_append]; omega
                  go_wp2_with (at_builtin; refine wpList_appg rfl (.tmp 72) (.tmp 76) 69 rfl RFound 73 [] w.heap.size 24 _ Tryd.underlying69 found_info rfl (by decide) (by decide) _ _ rfl hout4 _ _ _ _ rfl (Slc.one_flat 73 w7 w7.heap.size rfl ((k : Int), (m : Int), 5) #[.int .i64 k, .int .i64 m, .int .i64 5] rfl) (fun _ h => h.elim) (by simp only [List.length_singleton]; omega) (by simp; omega) ?_; intro v6 w6 hv6 hst6 hg6 hob6)
                  have hst5 := ((Step.alloc1 w.heap.size [73] w7 _).trans hst6)
                  go_roundw
                  case rel => exact ⟨m + 1, by omega, by go_num, by rw [HCS.out, ← List.append_assoc]; exact hv6, hbv7.step hst5 (by decide), hb7'.trans (hst5.below hz7)⟩
                  case measure => simp [intOf]; omega
              · obtain rfl : m = ls[k].1.length := by omega
                have hfin := hom
                rw [← HA1.out] at hfin
                go_wp2
                go_roundw
                case rel => exact ⟨k + 1, by omega, by go_num, hfin, hbv, hbm⟩
                case measure => simp [intOf]; omega
          · have e1 : ((ls[k].1.length : Int) != wd) = true := by simp [hw1]
            rw [if_neg hw1] at hsn
            have HSN := hide hsn
            clear hsn hw1
            have hout4 := hout.alloc (.cells #[.int .i64 k, .int .i64 (-1), .int .i64 4] 73)
            go_wp2_with (at_builtin; refine wpList_appg rfl (.tmp 55) (.tmp 58) 69 rfl RFound 73 [] w.heap.size 24 _ Tryd.underlying69 found_info rfl (by decide) (by decide) _ _ rfl hout4 _ _ _ _ rfl (Slc.one_flat 73 wr wr.heap.size rfl ((k : Int), -1, 4) #[.int .i64 k, .int .i64 (-1), .int .i64 4] rfl) (fun _ h => h.elim) (by simp only [List.length_singleton]; omega) (by simp; omega) ?_; intro v6 w6 hv6 hst6 hg6 hob6)
            have hst5 := ((Step.alloc1 w.heap.size [73] wr _).trans hst6)
            have hout2 := hv6
            have hb6 := hbel.trans (hst5.below hsz)
            have hblk2 := hblkr.step hst5 (by decide)
            obtain ⟨acc1, hacc1⟩ : ∃ acc1, acc1 = (acc0 ++ lookN wd ls k) ++ [((k : Int), -1, 4)] := ⟨_, rfl⟩
            rw [← hacc1] at hout2
            have ha1 : acc1.length ≤ 1 + 1000000 * 1000001 + 1 := by rw [hacc1, List.length_append, List.length_singleton]; omega
            have HA1 : Hid (acc0 ++ lookN wd ls (k + 1) = acc1 ++ lookC k ls[k].1 ls[k].1.length) := hide (by rw [HSN.out, hacc1]; simp only [List.append_assoc])
            have hbl := hb6
            clear hacc1 hout hv6
            go_loopw [3, 6] (fun out j wq => ∃ m : Nat, m ≤ ls[k].1.length ∧ j = .int .i64 m ∧ Own RFound 73 [] w.heap.size wq out (acc1 ++ lookC k ls[k].1 m) ∧ Blk wq w.heap.size 40 #[.int .i64 wd, .int .i64 hi, .slice (some ⟨ab, off, none⟩) ls.length cp, .int .i64 r, .int .i64 c, .bool p, .bool au] ∧ Below w.heap.size w wq) (fun _ j _ => ls[k].1.length - (intOf j).toNat)
            case atStart => exact ⟨0, Nat.zero_le _, rfl, by simpa [lookC] using hout2, hblk2, hbl⟩
            case round =>
              obtain ⟨m, hm, rfl, hom, hbv, hbm⟩ := hrel
              have hzm := hbm.size
              have hcm := lookC_len k ls[k].1 m
              by_cases hml : m < ls[k].1.length
              · have hvm := hv.mono (Keep.below (S := fun b => b < w.heap.size) hbm) (Keep.below (S := fun b => b < w.heap.size) hbm)
                obtain ⟨cb, co, v3, rfl, hcb, s0, s1, hkw, htx⟩ := cell_at hvm.slb hml
                obtain ⟨A3, c3, rfl, _, _, _⟩ := htx.open_
                have hcs := lookC_snoc k ls[k].1 m
                have hwa : wrongAt ls[k].1 m = if rightB ls[k].1[m] = false then 5 else if (ls[k].1[m].1 = 2 ∧ kindI ls[k].1 ((m : Int) + 1) ≠ 3) ∨ (ls[k].1[m].1 = 3 ∧ kindI ls[k].1 ((m : Int) - 1) ≠ 2) then 2 else 0 := by unfold wrongAt; rw [dif_pos hml]
                rcases Bool.eq_false_or_eq_true (rightB ls[k].1[m]) with hr | hr
                · rw [if_neg (by rw [hr]; simp)] at hwa
                  have HR := hide hr
                  clear hr
                  by_cases h2 : ls[k].1[m].1 = 2
                  · have e2 : (ls[k].1[m].1 == 2) = true := by simpa using h2
                    have e3 : (ls[k].1[m].1 == 3) = false := by rw [beq_eq_false_iff_ne]; omega
                    by_cases h4 : kindI ls[k].1 ((m : Int) + 1) = 3
                    · have e4 : (kindI ls[k].1 ((m : Int) + 1) != 3) = false := by simp [h4]
                      rw [if_neg (by intro h; rcases h with ⟨_, h⟩ | ⟨h, _⟩ <;> omega)] at hwa
                      rw [hwa, if_pos rfl, List.append_nil] at hcs
                      have HCS := hide hcs
                      clear hcs hwa h2 h4
                      go_wp2_with fail
                      refine (rRight_ok _ _ _ _ ls[k].1[m].2 _ hkw htx).mono ?_
                      rw [HR.out]
                      rintro e w7 ⟨rfl, hb7⟩
                      have hb7' := hbm.trans (hb7.mono hzm)
                      have hz7 := hb7'.size
                      have hbv7 := hbv.same hb7
                      have hx7 := hvm.mono (Keep.below (S := fun b => b < w.heap.size) (hb7.mono (Nat.le_refl _))) (Keep.below (S := fun b => b < w.heap.size) (hb7.mono (Nat.le_refl _)))
                      have t0 := (hb7.cell (p := ⟨cb, co + m * 2, none⟩) (World.block_lt_of_cell? _ _ s0)).trans s0
                      go_wp2_with fail
                      refine (Kind_ok _ _ _ ls[k].1 ((m : Int) + 1) _ hx7 (by omega) (by omega)).mono ?_
                      rintro e w8 ⟨rfl, rfl⟩
                      go_wp2
                      go_roundw
                      case rel => exact ⟨m + 1, by omega, by go_num, by rw [HCS.out]; exact hom.below hb7, hbv7, hb7'⟩
                      case measure => simp [intOf]; omega
                    · have e4 : (kindI ls[k].1 ((m : Int) + 1) != 3) = true := by simp [h4]
                      rw [if_pos (.inl ⟨h2, h4⟩)] at hwa
                      rw [if_neg (by rw [hwa]; decide), hwa] at hcs
                      have HCS := hide hcs
                      clear hcs hwa h2 h4
                      go_wp2_with fail
                      refine (rRight_ok _ _ _ _ ls[k].1[m].2 _ hkw htx).mono ?_
                      rw [HR.out]
                      rintro e w7 ⟨rfl, hb7⟩
                      have hb7' := hbm.trans (hb7.mono hzm)
                      have hz7 := hb7'.size
                      have hbv7 := hbv.same hb7
                      have hx7 := hvm.mono (Keep.below (S := fun b => b < w.heap.size) (hb7.mono (Nat.le_refl _))) (Keep.below (S := fun b => b < w.heap.size) (hb7.mono (Nat.le_refl _)))
                      have t0 := (hb7.cell (p := ⟨cb, co + m * 2, none⟩) (World.block_lt_of_cell? _ _ s0)).trans s0
                      go_wp2_with fail
                      refine (Kind_ok _ _ _ ls[k].1 ((m : Int) + 1) _ hx7 (by omega) (by omega)).mono ?_
                      rintro e w8 ⟨rfl, rfl⟩
                      have hout4 := (hom.below hb7).alloc (.cells #[.int .i64 k, .int .i64 m, .int .i64 2] 73)
                      have hl4 : (acc1 ++ lookC k ls[k].1 m).length ≤ 2 + 1000000 * 1000001 + 1000000 := by rw [List.length_append]; omega
                      go_wp2_with (at_builtin; refine wpList_appg rfl (.tmp 106) (.tmp 110) 69 rfl RFound 73 [] w.heap.size 24 _ Tryd.underlying69 found_info rfl (by decide) (by decide) _ _ rfl hout4 _ _ _ _ rfl (Slc.one_flat 73 w7 w7.heap.size rfl ((k : Int), (m : Int), 2) #[.int .i64 k, .int .i64 m, .int .i64 2] rfl) (fun _ h => h.elim) (by simp only [List.length_singleton]; omega) (by simp; omega) ?_; intro v6 w6 hv6 hst6 hg6 hob6)
                      have hst5 := ((Step.alloc1 w.heap.size [73] w7 _).trans hst6)
                      go_roundw
                      case rel => exact ⟨m + 1, by omega, by go_num, by rw [HCS.out, ← List.append_assoc]; exact hv6, hbv7.step hst5 (by decide), hb7'.trans (hst5.below hz7)⟩
                      case measure => simp [intOf]; omega
                  · have e2 : (ls[k].1[m].1 == 2) = false := by simpa using h2
                    by_cases h3 : ls[k].1[m].1 = 3
                    · have e3 : (ls[k].1[m].1 == 3) = true := by simpa using h3
                      by_cases h4 : kindI ls[k].1 ((m : Int) - 1) = 2
                      · have e4 : (kindI ls[k].1 ((m : Int) - 1) != 2) = false := by simp [h4]
                        rw [if_neg (by intro h; rcases h with ⟨h, _⟩ | ⟨_, h⟩ <;> omega)] at hwa
                        rw [hwa, if_pos rfl, List.append_nil] at hcs
                        have HCS := hide hcs
                        clear hcs hwa h2 h3 h4
                        go_wp2_with fail
                        refine (rRight_ok _ _ _ _ ls[k].1[m].2 _ hkw htx).mono ?_
                        rw [HR.out]
                        rintro e w7 ⟨rfl, hb7⟩
                        have hb7' := hbm.trans (hb7.mono hzm)
                        have hz7 := hb7'.size
                        have hbv7 := hbv.same hb7
                        have hx7 := hvm.mono (Keep.below (S := fun b => b < w.heap.size) (hb7.mono (Nat.le_refl _))) (Keep.below (S := fun b => b < w.heap.size) (hb7.mono (Nat.le_refl _)))
                        have t0 := (hb7.cell (p := ⟨cb, co + m * 2, none⟩) (World.block_lt_of_cell? _ _ s0)).trans s0
                        go_wp2_with fail
                        refine (Kind_ok _ _ _ ls[k].1 ((m : Int) - 1) _ hx7 (by omega) (by omega)).mono ?_
                        rintro e w8 ⟨rfl, rfl⟩
                        go_wp2
                        go_roundw
                        case rel => exact ⟨m + 1, by omega, by go_num, by rw [HCS.out]; exact hom.below hb7, hbv7, hb7'⟩
                        case measure => simp [intOf]; omega
                      · have e4 : (kindI ls[k].1 ((m : Int) - 1) != 2) = true := by simp [h4]
                        rw [if_pos (.inr ⟨h3, h4⟩)] at hwa
                        rw [if_neg (by rw [hwa]; decide), hwa] at hcs
                        have HCS := hide hcs
                        clear hcs hwa h2 h3 h4
                        go_wp2_with fail
                        refine (rRight_ok _ _ _ _ ls[k].1[m].2 _ hkw htx).mono ?_
                        rw [HR.out]
                        rintro e w7 ⟨rfl, hb7⟩
                        have hb7' := hbm.trans (hb7.mono hzm)
                        have hz7 := hb7'.size
                        have hbv7 := hbv.same hb7
                        have hx7 := hvm.mono (Keep.below (S := fun b => b < w.heap.size) (hb7.mono (Nat.le_refl _))) (Keep.below (S := fun b => b < w.heap.size) (hb7.mono (Nat.le_refl _)))
                        have t0 := (hb7.cell (p := ⟨cb, co + m * 2, none⟩) (World.block_lt_of_cell? _ _ s0)).trans s0
                        go_wp2_with fail
                        refine (Kind_ok _ _ _ ls[k].1 ((m : Int) - 1) _ hx7 (by omega) (by omega)).mono ?_
                        rintro e w8 ⟨rfl, rfl⟩
                        have hout4 := (hom.below hb7).alloc (.cells #[.int .i64 k, .int .i64 m, .int .i64 2] 73)
                        have hl4 : (acc1 ++ lookC k ls[k].1 m).length ≤ 2 + 1000000 * 1000001 + 1000000 := by rw [List.length_append]; omega
                        go_wp2_with (at_builtin; refine wpList_appg rfl (.tmp 106) (.tmp 110) 69 rfl RFound 73 [] w.heap.size 24 _ Tryd.underlying69 found_info rfl (by decide) (by decide) _ _ rfl hout4 _ _ _ _ rfl (Slc.one_flat 73 w7 w7.heap.size rfl ((k : Int), (m : Int), 2) #[.int .i64 k, .int .i64 m, .int .i64 2] rfl) (fun _ h => h.elim) (by simp only [List.length_singleton]; omega) (by simp; omega) ?_; intro v6 w6 hv6 hst6 hg6 hob6)
                        have hst5 := ((Step.alloc1 w.heap.size [73] w7 _).trans hst6)
                        go_roundw
                        case rel => exact ⟨m + 1, by omega, by go_num, by rw [HCS.out, ← List.append_assoc]; exact hv6, hbv7.step hst5 (by decide), hb7'.trans (hst5.below hz7)⟩
                        case measure => simp [intOf]; omega
                    · have e3 : (ls[k].1[m].1 == 3) = false := by simpa using h3
                      rw [if_neg (by intro h; rcases h with ⟨h, _⟩ | ⟨h, _⟩ <;> omega)] at hwa
                      rw [hwa, if_pos rfl, List.append_nil] at hcs
                      have HCS := hide hcs
                      clear hcs hwa h2 h3
                      go_wp2_with fail
                      refine (rRight_ok _ _ _ _ ls[k].1[m].2 _ hkw htx).mono ?_
                      rw [HR.out]
                      rintro e w7 ⟨rfl, hb7⟩
                      have hb7' := hbm.trans (hb7.mono hzm)
                      have hz7 := hb7'.size
                      have hbv7 := hbv.same hb7
                      have hx7 := hvm.mono (Keep.below (S := fun b => b < w.heap.size) (hb7.mono (Nat.le_refl _))) (Keep.below (S := fun b => b < w.heap.size) (hb7.mono (Nat.le_refl _)))
                      have t0 := (hb7.cell (p := ⟨cb, co + m * 2, none⟩) (World.block_lt_of_cell? _ _ s0)).trans s0
                      go_wp2
                      go_roundw
                      case rel => exact ⟨m + 1, by omega, by go_num, by rw [HCS.out]; exact hom.below hb7, hbv7, hb7'⟩
                      case measure => simp [intOf]; omega
                · rw [if_pos hr] at hwa
                  rw [if_neg (by rw [hwa]; decide), hwa] at hcs
                  have HR := hide hr
                  have HCS := hide hcs
                  clear hr hcs hwa
                  go_wp2_with fail
                  refine (rRight_ok _ _ _ _ ls[k].1[m].2 _ hkw htx).mono ?_
                  rw [HR.out]
                  rintro e w7 ⟨rfl, hb7⟩
                  have hb7' := hbm.trans (hb7.mono hzm)
                  have hz7 := hb7'.size
                  have hbv7 := hbv.same hb7
                  have hout4 := (hom.below hb7).alloc (.cells #[.int .i64 k, .int .i64 m, .int .i64 5] 73)
                  have hl4 : (acc1 ++ lookC k ls[k].1 m).length ≤ 2 + 1000000 * 1000001 + 1000000 := by rw [List.length_append]; omega
                  go_wp2_with (at_builtin; refine wpList_appg rfl (.tmp 72) (.tmp 76) 69 rfl RFound 73 [] w.heap.size 24 _ Tryd.underlying69 found_info rfl (by decide) (by decide) _ _ rfl hout4 _ _ _ _ rfl (Slc.one_flat 73 w7 w7.heap.size rfl ((k : Int), (m : Int), 5) #[.int .i64 k, .int .i64 m, .int .i64 5] rfl) (fun _ h => h.elim) (by simp only [List.length_singleton]; omega) (by simp; omega) ?_; intro v6 w6 hv6 hst6 hg6 hob6)
                  have hst5 := ((Step.alloc1 w.heap.size [73] w7 _).trans hst6)
                  go_roundw
                  case rel => exact ⟨m + 1, by omega, by go_num, by rw [HCS.out, ← List.append_assoc]; exact hv6, hbv7.step hst5 (by decide), hb7'.trans (hst5.below hz7)⟩
                  case measure => simp [intOf]; omega
              · obtain rfl : m = ls[k].1.length := by omega
                have hfin := hom
                rw [← HA1.out] at hfin
                go_wp2
                go_roundw
                case rel => exact ⟨k + 1, by omega, by go_num, hfin, hbv, hbm⟩
                case measure => simp [intOf]; omega
        · obtain rfl : k = ls.length := by omega
          go_wp2_with fail
          refine (HCR.out _).mono ?_
          rintro e w5 ⟨rfl, hb5⟩
          have hb5' := hbel.trans (hb5.mono hsz)
          have hz5 := hb5'.size
          have hv5 := hout.below hb5
          rcases Bool.eq_false_or_eq_true (curRight r c p wd hi) with hcu | hcu
          · have hres := HLF.out
            rw [if_pos hcu, List.append_nil] at hres
            have HR := hide hres
            clear hres
            go_wp2
            go_ret
            rw [HR.out]
            exact ⟨_, rfl, hv5, hb5'⟩
          · have hres := HLF.out
            rw [if_neg (by rw [hcu]; simp)] at hres
            have HR := hide hres
            have hout4 := hv5.alloc (.cells #[.int .i64 (-1), .int .i64 (-1), .int .i64 8] 73)
            clear hres
            go_wp2_with (at_builtin; refine wpList_appg rfl (.tmp 120) (.tmp 122) 69 rfl RFound 73 [] w.heap.size 24 _ Tryd.underlying69 found_info rfl (by decide) (by decide) _ _ rfl hout4 _ _ _ _ rfl (Slc.one_flat 73 w5 w5.heap.size rfl (-1, -1, 8) #[.int .i64 (-1), .int .i64 (-1), .int .i64 8] rfl) (fun _ h => h.elim) (by simp only [List.length_singleton]; omega) (by simp; omega) ?_; intro v6 w6 hv6 hst6 hg6 hob6)
            have hst5 := ((Step.alloc1 w.heap.size [73] w5 _).trans hst6)
            go_ret
            rw [HR.out]
            exact ⟨_, rfl, hv6, hb5'.trans (hst5.below hz5)⟩
end Go.Proofs.YtejhaepgbfngcaaDoor
