import Derived.Test.YtdjpdllehhecpaaGreatDoorQ08
import Derived.Test.YtdjpdllehhecpaaGreatDoorQ02
import Derived.Deep.CutBlock
import Derived.Deep.DeepCutAuto
open List renaming getElem?_toArray → zA, getElem?_cons_succ → zB, getElem?_cons_zero → zC, setIfInBounds_toArray → zD, set_cons_zero → zE, set_cons_succ → zF
namespace Go.Proofs.YtdjpdllehhecpaaGreatDoor
open Go.RowKit
set_option linter.unusedVariables false
theorem rgot_info : (Tryz.prog.info? 100).map (fun i => (i.zero, i.size, i.bytes)) = some (some (.agg #[.int .i32 0, .int .i64 0, .int .i64 0, .int .i64 0, .bool false]), RGot.sz, 40) := by kernel_rfl
set_option maxHeartbeats 4000000 in
theorem rAll_ok (So Si : Nat → Prop) (x : Value) (l : List Int) (w : World) (hx : Slc (Rep.int .u8) So Si w x l) (hlen : l.length ≤ 100000) :
    Calls Tryz.prog 43 #[x] w fun e w' => ∃ v, e = .returned v ∧ Own RGot 100 [] w.heap.size w' v (allF l) ∧ Below w.heap.size w w' := by
  have hbl : Bytes l := fun n hn => u8_wf (hx.ints_wf n hn)
  obtain ⟨A, c, rfl, hc1, hc2, _⟩ := hx.open_
  go_enter Tryz.func43, Tryz.ntmps43
  go_wp2
  go_loopw [3, 4] (fun out i wr => ∃ (k : Nat) (done : List Got), k ≤ l.length ∧ i = .int .i64 k ∧ done.length ≤ k ∧ allF l = done ++ allN (l.drop k).length (l.drop k) k ∧ Own RGot 100 [] w.heap.size wr out done ∧ Below w.heap.size w wr)
    (fun _ i _ => l.length - (intOf i).toNat)
  case atStart => exact ⟨0, [], Nat.zero_le _, rfl, by simp, by simp [allF], Own.nil_ _ _ _ _ _ (by simp), Below.refl _ _⟩
  case round =>
    obtain ⟨k, done, hk, rfl, hdl, hall, hown, hbel⟩ := hrel
    have hsz := hbel.size
    have HALL := hide hall
    clear hall
    by_cases hlt : k < l.length
    · obtain ⟨b0, r, hdr, hrl⟩ := drop_cons hlt
      have hxk := (hx.ints_keep (Keep.below (S := So) hbel)).cut (k := k) (by omega)
      rw [hdr] at hxk
      have hrl2 : ((l.length - k : Nat) : Int) = (r.length : Int) + 1 := by omega
      have hck : ¬ c = k := by omega
      have hrc := reach_le b0 r
      have hlk : l.length - k = (b0 :: r).length := by rw [List.length_cons]; omega
      rw [hlk] at hxk
      have hb0 := leadF_range b0
      rw [if_neg hck, show k * (Rep.int .u8).sz = k from Nat.mul_one k] at hxk
      go_upto_block 2 with fail
      go_cut [5] (fun s5 wx => s5 = .int .i64 (reachK (b0 :: r)) ∧ Below wr.heap.size wr wx)
      case first =>
        go_wp2_with fail
        go_loopw [5] (fun s5 wi => ∃ kk : Nat, s5 = .int .i64 kk ∧ kk ≤ reachK (b0 :: r) ∧ (kk = 0 ∨ (kk : Int) < leadF b0) ∧ Below wr.heap.size wr wi) (fun s5 _ => r.length + 1 - (intOf s5).toNat)
        case atStart => exact ⟨0, rfl, Nat.zero_le _, .inl rfl, Below.refl _ _⟩
        case round =>
          obtain ⟨kk, rfl, hkk, hlead, hwi⟩ := hrel
          have hwsz := hwi.size
          by_cases hkl : kk < r.length + 1
          · have hx1 := (hxk.ints_keep (Keep.below (S := So) hwi)).front (k := kk + 1) (by rw [List.length_cons]; omega)
            rw [List.take_succ_cons] at hx1
            have hx0 := hx1
            rw [show kk + 1 = k + kk + 1 - k by omega] at hx1
            have hbt := begins_take b0 r kk (by omega)
            have hcc : (k : Int) + kk + 1 ≤ c := by omega
            have hlt2 : (k : Int) + kk < l.length := by omega
            by_cases hin : kk < reachK (b0 :: r)
            · rw [if_pos hin] at hbt
              have hl1 : 0 < leadF b0 := by omega
              have HBT := hide hbt
              clear hbt
              go_wp2_with fail
              refine (Begins_ok _ _ _ b0 (r.take kk) _ hx1).mono ?_
              rw [HBT.out]
              rintro e w1 ⟨rfl, hb1⟩
              have hb1' := hwi.trans (hb1.mono hwsz)
              have hx2 := hx0.ints_keep (Keep.below (S := So) hb1)
              by_cases hq : leadF b0 = (kk : Int) + 1
              · have hq2 : (leadF b0 == (kk : Int) + 1) = true := by simpa using hq
                have hkr : reachK (b0 :: r) = kk + 1 := by omega
                have HKR := hide hkr
                clear hkr hq
                go_wp2_with fail
                refine (Begins_ok _ _ _ b0 (r.take kk) _ hx2).mono ?_
                rw [HBT.out]
                rintro e w2 ⟨rfl, hb2⟩
                go_wp2
                go_meet
                exact ⟨by rw [HKR.out]; simp, hb1'.trans (hb2.mono hb1'.size)⟩
              · have hq2 : (leadF b0 == (kk : Int) + 1) = false := by simpa using hq
                clear hq
                go_wp2_with fail
                refine (Begins_ok _ _ _ b0 (r.take kk) _ hx2).mono ?_
                rw [HBT.out]
                rintro e w2 ⟨rfl, hb2⟩
                go_wp2
                go_roundw
                case rel => exact ⟨kk + 1, by go_num, by omega, .inr (by simp at hq2; omega), hb1'.trans (hb2.mono hb1'.size)⟩
                case measure => simp [intOf]; omega
            · rw [if_neg hin] at hbt
              have hkr : reachK (b0 :: r) = kk := by omega
              have HBT := hide hbt
              have HKR := hide hkr
              clear hbt hkr
              go_wp2_with fail
              refine (Begins_ok _ _ _ b0 (r.take kk) _ hx1).mono ?_
              rw [HBT.out]
              rintro e w1 ⟨rfl, hb1⟩
              go_wp2
              go_meet
              exact ⟨by rw [HKR.out], hwi.trans (hb1.mono hwsz)⟩
          · have hkr : reachK (b0 :: r) = kk := by omega
            have HKR := hide hkr
            clear hkr
            have hlt2 : (l.length : Int) ≤ (k : Int) + kk := by omega
            go_wp2
            go_meet
            exact ⟨by rw [HKR.out], hwi⟩
      case rest =>
        obtain ⟨rfl, hwc⟩ := hcut
        have hwsz := hwc.size
        have hac := all_cons b0 r k
        have hpl : partLen (b0 :: r) = max (reachK (b0 :: r)) 1 := rfl
        have hplr := partLen_le b0 r
        have hdd : (l.drop k).drop (partLen (b0 :: r)) = l.drop (k + partLen (b0 :: r)) := by rw [List.drop_drop]
        rw [hdr] at hdd
        have hownF : ∀ w', Below wc.heap.size wc w' → Own RGot 100 [] w.heap.size w' u3 done := fun w' h => (hown.below hwc).below h
        have hall2 : ∀ g, partF (b0 :: r) k = g → allF l = (done ++ [g]) ++ allN (l.drop (k + partLen (b0 :: r))).length (l.drop (k + partLen (b0 :: r))) ((k + partLen (b0 :: r) : Nat) : Int) := by
          intro g hg
          rw [HALL.out, hdr, hac, hg, hdd]; simp
        have HALL2 := hide hall2
        have HDD := hide hdd
        clear hac hdd hall2 HALL
        have hne : ∀ q, u3.ownBlock = some q → q < wc.heap.size := fun q hq => by have := (hown.lt_ q hq).2; omega
        have HNE := hide hne
        clear hne
        by_cases h0 : reachK (b0 :: r) = 0
        · have hp : partF (b0 :: r) k = ⟨65533, k, 1, k + 1, true⟩ := by unfold partF; rw [if_pos h0]
          have hA := HALL2.out _ hp
          have hp1 : partLen (b0 :: r) = 1 := by omega
          rw [hp1] at hA
          have HA := hide hA
          clear hA hp hpl
          have h0' : ((reachK (b0 :: r) : Nat) : Int) = 0 := by omega
          rw [h0']
          clear h0 h0'
          have hb3 : Blk ((wc.alloc (.cells #[.int .i32 65533, .int .i64 k, .int .i64 1, .int .i64 (k + 1), .bool true] 100)).alloc (.cells #[.int .i32 65533, .int .i64 k, .int .i64 1, .int .i64 (k + 1), .bool true] 100)) wc.heap.size 100 #[.int .i32 65533, .int .i64 k, .int .i64 1, .int .i64 (k + 1), .bool true] := (Blk.new wc _ _).alloc _
          set_option maxRecDepth 8000 in go_wp2_with (at_builtin; refine wpList_appf rfl (.tmp 79) (.tmp 81) 98 rfl RGot RGot.flat 100 w.heap.size 40 _ Tryz.underlying98 rgot_info rfl (by decide) (by decide) _ _ rfl (hownF _ (((Below.refl _ _).alloc (Nat.le_refl _) _).alloc (by simp) _)) _ _ _ _ rfl (Slc.one_flat 100 _ _ (by simp) ⟨65533, k, 1, k + 1, true⟩ _ rfl) (by simp; omega) (by simp; omega) ?_; intro v3 w3 hv3 hst3 hgr3; have hc3 := (hb3.grown hgr3 (fun e => by have := HNE.out _ e.symm; omega)).cell 2; simp only [zA, zB, zC] at hc3)
          have hst : Below w.heap.size wc w3 := (((Step.alloc1 w.heap.size [100] wc _).alloc _).trans hst3).below (by omega)
          go_roundw
          case rel => exact ⟨k + 1, done ++ [⟨65533, k, 1, k + 1, true⟩], by omega, by go_num, by simp; omega, HA.out, hv3, (hbel.trans (hwc.mono hsz)).trans hst⟩
          case measure => simp [intOf]; omega
        · skip
          have hpK : partLen (b0 :: r) = reachK (b0 :: r) := by omega
          have htl : ((b0 :: r).take (reachK (b0 :: r))).length = reachK (b0 :: r) := by rw [List.length_take, List.length_cons]; omega
          have hln : leadF b0 ≠ 0 := by omega
          obtain ⟨htk, _⟩ := take_ev b0 r hln 0 (reachK (b0 :: r)) (Nat.le_refl _)
          have hxf0 := (hxk.ints_keep (Keep.below (S := So) hwc)).front (k := reachK (b0 :: r)) (by rw [List.length_cons]; omega)
          have hxf := hxf0.ints_keep (Keep.alloc So wc (.cells #[.int .i32 65533, .int .i64 k, .int .i64 (reachK (b0 :: r)), .int .i64 (k + 1), .bool true] 100))
          have hF := rFeed_ok (fun _ => False) (fun _ => False) _ _ _ _ [] _ _ Slc.nil_ hxf (by simp) pre_nil (by intro n hn; simp at hn) (by rw [htl]; omega)
          by_cases h1 : (reachK (b0 :: r) : Int) < leadF b0
          · have hp : partF (b0 :: r) k = ⟨65533, k, reachK (b0 :: r), k + min ((reachK (b0 :: r) : Int) + 1) ((r.length : Int) + 1), true⟩ := by
              unfold partF; rw [if_neg h0, if_pos (by simpa using h1)]; simp
            rw [if_pos h1] at htk
            rw [htk] at hF
            have hA := HALL2.out _ hp
            rw [hpK] at hA
            generalize hK : reachK (b0 :: r) = K at *
            have HF := hide hF
            have HTL := hide htl
            clear hF htk hp htl hpl hK hpK
            have n0 : ((K : Int) == 0) = false := by simpa using h0
            have n1 : (0 : Int) < K := by omega
            by_cases hmn : K ≤ r.length
            · rw [show min ((K : Int) + 1) ((r.length : Int) + 1) = K + 1 by omega] at hA
              have HA := hide hA
              clear hA
              have hm2 : (k : Int) + K + 1 ≤ l.length := by omega
              set_option maxRecDepth 8000 in go_wp2_with fail
              refine HF.out.mono ?_
              rintro e w1 ⟨v1, v2, rfl, hv1, hv2, hb1⟩
              obtain ⟨A2, c2, rfl, hd1, hd2, hB2⟩ := hv2.open_
              rw [HTL.out]
              have hg1 : Blk w1 wc.heap.size 100 #[.int .i32 65533, .int .i64 k, .int .i64 K, .int .i64 (k + 1), .bool true] := (Blk.new wc _ _).same hb1
              have B1 : Below wc.heap.size wc w1 := ((Below.refl _ wc).alloc (Nat.le_refl _) _).trans (hb1.mono (by simp))
              have z0 := hg1.cell 0
              have z1 := hg1.cell 1
              have z2 := hg1.cell 2
              have z3 := hg1.cell 3
              have z4 := hg1.cell 4
              have z5 := hg1.frozen 3
              have z6 := hg1.lt
              simp only [zA, zB, zC] at z0 z1 z2 z3 z4
              have hsz1 := B1.size
              set_option maxRecDepth 8000 in go_wp2_with (at_builtin; refine wpList_appf rfl (.tmp 79) (.tmp 81) 98 rfl RGot RGot.flat 100 w.heap.size 40 _ Tryz.underlying98 rgot_info rfl (by decide) (by decide) _ _ rfl (hownF _ ((B1.setCell (Nat.le_refl _) _).alloc (by simp; omega) _)) _ _ _ _ rfl (Slc.one_flat 100 _ _ (by simp) ⟨65533, k, K, (k : Int) + ((K : Int) + 1), true⟩ _ rfl) (by simp; omega) (by simp; omega) ?_; intro v3 w3 hv3 hst3 hgr3; have hc3 : w3.cell? ⟨wc.heap.size, 2, none⟩ = some (.int .i64 K) := (((hg1.set_ 3 _).alloc _).grown hgr3 (fun e => by have := HNE.out _ e.symm; omega)).cell 2)
              have hst : Below w.heap.size wc w3 := ((B1.mono (by omega)).setCell (by simp; omega) _).trans (((Step.alloc1 w.heap.size [100] _ _).trans hst3).below (by simp; omega))
              go_roundw
              case rel => exact ⟨k + K, done ++ [⟨65533, k, K, (k : Int) + ((K : Int) + 1), true⟩], by omega, by go_num, by simp; omega, HA.out, hv3, (hbel.trans (hwc.mono hsz)).trans hst⟩
              case measure => simp [intOf]; omega
            · rw [show (k : Int) + min ((K : Int) + 1) ((r.length : Int) + 1) = l.length by omega] at hA
              have HA := hide hA
              clear hA
              have hm2 : (l.length : Int) < (k : Int) + K + 1 := by omega
              set_option maxRecDepth 8000 in go_wp2_with fail
              refine HF.out.mono ?_
              rintro e w1 ⟨v1, v2, rfl, hv1, hv2, hb1⟩
              obtain ⟨A2, c2, rfl, hd1, hd2, hB2⟩ := hv2.open_
              rw [HTL.out]
              have hg1 : Blk w1 wc.heap.size 100 #[.int .i32 65533, .int .i64 k, .int .i64 K, .int .i64 (k + 1), .bool true] := (Blk.new wc _ _).same hb1
              have B1 : Below wc.heap.size wc w1 := ((Below.refl _ wc).alloc (Nat.le_refl _) _).trans (hb1.mono (by simp))
              have z0 := hg1.cell 0
              have z1 := hg1.cell 1
              have z2 := hg1.cell 2
              have z3 := hg1.cell 3
              have z4 := hg1.cell 4
              have z5 := hg1.frozen 3
              have z6 := hg1.lt
              simp only [zA, zB, zC] at z0 z1 z2 z3 z4
              have hsz1 := B1.size
              set_option maxRecDepth 8000 in go_wp2_with (at_builtin; refine wpList_appf rfl (.tmp 79) (.tmp 81) 98 rfl RGot RGot.flat 100 w.heap.size 40 _ Tryz.underlying98 rgot_info rfl (by decide) (by decide) _ _ rfl (hownF _ ((B1.setCell (Nat.le_refl _) _).alloc (by simp; omega) _)) _ _ _ _ rfl (Slc.one_flat 100 _ _ (by simp) ⟨65533, k, K, (l.length : Int), true⟩ _ rfl) (by simp; omega) (by simp; omega) ?_; intro v3 w3 hv3 hst3 hgr3; have hc3 : w3.cell? ⟨wc.heap.size, 2, none⟩ = some (.int .i64 K) := (((hg1.set_ 3 _).alloc _).grown hgr3 (fun e => by have := HNE.out _ e.symm; omega)).cell 2)
              have hst : Below w.heap.size wc w3 := ((B1.mono (by omega)).setCell (by simp; omega) _).trans (((Step.alloc1 w.heap.size [100] _ _).trans hst3).below (by simp; omega))
              go_roundw
              case rel => exact ⟨k + K, done ++ [⟨65533, k, K, (l.length : Int), true⟩], by omega, by go_num, by simp; omega, HA.out, hv3, (hbel.trans (hwc.mono hsz)).trans hst⟩
              case measure => simp [intOf]; omega
          · have hp : partF (b0 :: r) k = ⟨wholeF ((b0 :: r).take (reachK (b0 :: r))), k, reachK (b0 :: r), k + reachK (b0 :: r), false⟩ := by
              unfold partF; rw [if_neg h0, if_neg (by simpa using h1)]
            have hprr := part_r b0 r k (hbl b0 (List.mem_of_mem_drop (i := k) (by rw [hdr]; simp)))
            rw [hp] at hprr
            rw [if_neg h1] at htk
            rw [htk] at hF
            have hA := HALL2.out _ hp
            rw [hpK] at hA
            generalize hK : reachK (b0 :: r) = K at *
            generalize hwh : wholeF ((b0 :: r).take K) = wv at *
            have HF := hide hF
            have HTL := hide htl
            clear hF htk hp htl hpl hK hpK hwh
            simp only at hprr
            have n0 : ((K : Int) == 0) = false := by simpa using h0
            have n1 : (0 : Int) < K := by omega
            have HA := hide hA
            clear hA
            have hm2 : (k : Int) + K ≤ l.length := by omega
            by_cases hm3 : (k : Int) + K + 1 ≤ l.length
            · skip
              set_option maxRecDepth 8000 in go_wp2_with fail
              refine HF.out.mono ?_
              rintro e w1 ⟨v1, v2, rfl, hv1, hv2, hb1⟩
              obtain ⟨A2, c2, rfl, hd1, hd2, hB2⟩ := hv2.open_
              have hlt1 := hv1.lt_
              obtain ⟨A1, c1, rfl, he1, he2, hB1⟩ := hv1.islc.open_
              obtain ⟨ob, oo, rfl, _, q0, q1⟩ := ints_at hB1 (j := 0) (by simp)
              simp only [Nat.add_zero, List.getElem_cons_zero] at q0
              have hob : wc.heap.size < ob := by have := (hlt1 ob rfl).1; simp at this; omega
              have hg1 : Blk w1 wc.heap.size 100 #[.int .i32 65533, .int .i64 k, .int .i64 K, .int .i64 (k + 1), .bool true] := (Blk.new wc _ _).same hb1
              have B1 : Below wc.heap.size wc w1 := ((Below.refl _ wc).alloc (Nat.le_refl _) _).trans (hb1.mono (by simp))
              have z0 := hg1.cell 0
              have z1 := hg1.cell 1
              have z2 := hg1.cell 2
              have z3 := hg1.cell 3
              have z4 := hg1.cell 4
              have y0 := hg1.frozen 0
              have y1 := hg1.frozen 1
              have y2 := hg1.frozen 2
              have y3 := hg1.frozen 3
              have y4 := hg1.frozen 4
              have z6 := hg1.lt
              simp only [zA, zB, zC] at z0 z1 z2 z3 z4
              have hsz1 := B1.size
              set_option maxRecDepth 8000 in go_upto_region 14 with fail
              have hg2 : Blk _ wc.heap.size 100 #[.int .i32 wv, .int .i64 k, .int .i64 K, .int .i64 ((k : Int) + K), .bool false] := ((((((hg1.set_ 3 (.int .i64 ((k : Int) + K + 1))).set_ 0 (.int .i32 wv)).set_ 1 (.int .i64 k)).set_ 2 (.int .i64 K)).set_ 3 (.int .i64 ((k : Int) + K))).set_ 4 (.bool false))
              have B2 := ((((((B1.setCell (p := ⟨wc.heap.size, 3, none⟩) (Nat.le_refl _) (.int .i64 ((k : Int) + K + 1))).setCell (p := ⟨wc.heap.size, 0, none⟩) (Nat.le_refl _) (.int .i32 wv)).setCell (p := ⟨wc.heap.size, 1, none⟩) (Nat.le_refl _) (.int .i64 k)).setCell (p := ⟨wc.heap.size, 2, none⟩) (Nat.le_refl _) (.int .i64 K)).setCell (p := ⟨wc.heap.size, 3, none⟩) (Nat.le_refl _) (.int .i64 ((k : Int) + K))).setCell (p := ⟨wc.heap.size, 4, none⟩) (Nat.le_refl _) (.bool false))
              generalize ((((((w1.setCell ⟨wc.heap.size, 3, none⟩ (.int .i64 ((k : Int) + K + 1))).setCell ⟨wc.heap.size, 0, none⟩ (.int .i32 wv)).setCell ⟨wc.heap.size, 1, none⟩ (.int .i64 k)).setCell ⟨wc.heap.size, 2, none⟩ (.int .i64 K)).setCell ⟨wc.heap.size, 3, none⟩ (.int .i64 ((k : Int) + K))).setCell ⟨wc.heap.size, 4, none⟩ (.bool false)) = w2 at hg2 B2 ⊢
              have x0 := hg2.cell 0
              have x1 := hg2.cell 1
              have x2 := hg2.cell 2
              have x3 := hg2.cell 3
              have x4 := hg2.cell 4
              simp only [zA, zB, zC] at x0 x1 x2 x3 x4
              clear z0 z1 z2 z3 z4 y0 y1 y2 y3 y4 z6 q0 hsz1
              have hsz2 := B2.size
              have x6 := hg2.lt
              set_option maxRecDepth 8000 in go_wp2_with (at_builtin; refine wpList_appf rfl (.tmp 79) (.tmp 81) 98 rfl RGot RGot.flat 100 w.heap.size 40 _ Tryz.underlying98 rgot_info rfl (by decide) (by decide) _ _ rfl (hownF _ (B2.alloc (by omega) _)) _ _ _ _ rfl (Slc.one_flat 100 _ _ rfl ⟨wv, k, K, (k : Int) + K, false⟩ _ rfl) (by simp; omega) (by simp; omega) ?_; intro v3 w3 hv3 hst3 hgr3; have hc3 : w3.cell? ⟨wc.heap.size, 2, none⟩ = some (.int .i64 K) := ((hg2.alloc _).grown hgr3 (fun e => by have := HNE.out _ e.symm; omega)).cell 2)
              have hst : Below w.heap.size wc w3 := (B2.mono (by omega)).trans (((Step.alloc1 w.heap.size [100] _ _).trans hst3).below (by omega))
              go_roundw
              case rel => exact ⟨k + K, done ++ [⟨wv, k, K, (k : Int) + K, false⟩], by omega, by go_num, by simp; omega, HA.out, hv3, (hbel.trans (hwc.mono hsz)).trans hst⟩
              case measure => simp [intOf]; omega
            · have hm4 : (l.length : Int) ≤ (k : Int) + K := by omega
              have hm5 : (l.length : Int) < (k : Int) + K + 1 := by omega
              set_option maxRecDepth 8000 in go_wp2_with fail
              refine HF.out.mono ?_
              rintro e w1 ⟨v1, v2, rfl, hv1, hv2, hb1⟩
              obtain ⟨A2, c2, rfl, hd1, hd2, hB2⟩ := hv2.open_
              have hlt1 := hv1.lt_
              obtain ⟨A1, c1, rfl, he1, he2, hB1⟩ := hv1.islc.open_
              obtain ⟨ob, oo, rfl, _, q0, q1⟩ := ints_at hB1 (j := 0) (by simp)
              simp only [Nat.add_zero, List.getElem_cons_zero] at q0
              have hob : wc.heap.size < ob := by have := (hlt1 ob rfl).1; simp at this; omega
              have hg1 : Blk w1 wc.heap.size 100 #[.int .i32 65533, .int .i64 k, .int .i64 K, .int .i64 (k + 1), .bool true] := (Blk.new wc _ _).same hb1
              have B1 : Below wc.heap.size wc w1 := ((Below.refl _ wc).alloc (Nat.le_refl _) _).trans (hb1.mono (by simp))
              have z0 := hg1.cell 0
              have z1 := hg1.cell 1
              have z2 := hg1.cell 2
              have z3 := hg1.cell 3
              have z4 := hg1.cell 4
              have y0 := hg1.frozen 0
              have y1 := hg1.frozen 1
              have y2 := hg1.frozen 2
              have y3 := hg1.frozen 3
              have y4 := hg1.frozen 4
              have z6 := hg1.lt
              simp only [zA, zB, zC] at z0 z1 z2 z3 z4
              have hsz1 := B1.size
              set_option maxRecDepth 8000 in go_upto_region 14 with fail
              have hg2 : Blk _ wc.heap.size 100 #[.int .i32 wv, .int .i64 k, .int .i64 K, .int .i64 ((k : Int) + K), .bool false] := ((((((hg1.set_ 3 (.int .i64 (l.length))).set_ 0 (.int .i32 wv)).set_ 1 (.int .i64 k)).set_ 2 (.int .i64 K)).set_ 3 (.int .i64 ((k : Int) + K))).set_ 4 (.bool false))
              have B2 := ((((((B1.setCell (p := ⟨wc.heap.size, 3, none⟩) (Nat.le_refl _) (.int .i64 (l.length))).setCell (p := ⟨wc.heap.size, 0, none⟩) (Nat.le_refl _) (.int .i32 wv)).setCell (p := ⟨wc.heap.size, 1, none⟩) (Nat.le_refl _) (.int .i64 k)).setCell (p := ⟨wc.heap.size, 2, none⟩) (Nat.le_refl _) (.int .i64 K)).setCell (p := ⟨wc.heap.size, 3, none⟩) (Nat.le_refl _) (.int .i64 ((k : Int) + K))).setCell (p := ⟨wc.heap.size, 4, none⟩) (Nat.le_refl _) (.bool false))
              generalize ((((((w1.setCell ⟨wc.heap.size, 3, none⟩ (.int .i64 (l.length))).setCell ⟨wc.heap.size, 0, none⟩ (.int .i32 wv)).setCell ⟨wc.heap.size, 1, none⟩ (.int .i64 k)).setCell ⟨wc.heap.size, 2, none⟩ (.int .i64 K)).setCell ⟨wc.heap.size, 3, none⟩ (.int .i64 ((k : Int) + K))).setCell ⟨wc.heap.size, 4, none⟩ (.bool false)) = w2 at hg2 B2 ⊢
              have x0 := hg2.cell 0
              have x1 := hg2.cell 1
              have x2 := hg2.cell 2
              have x3 := hg2.cell 3
              have x4 := hg2.cell 4
              simp only [zA, zB, zC] at x0 x1 x2 x3 x4
              clear z0 z1 z2 z3 z4 y0 y1 y2 y3 y4 z6 q0 hsz1
              have hsz2 := B2.size
              have x6 := hg2.lt
              set_option maxRecDepth 8000 in go_wp2_with (at_builtin; refine wpList_appf rfl (.tmp 79) (.tmp 81) 98 rfl RGot RGot.flat 100 w.heap.size 40 _ Tryz.underlying98 rgot_info rfl (by decide) (by decide) _ _ rfl (hownF _ (B2.alloc (by omega) _)) _ _ _ _ rfl (Slc.one_flat 100 _ _ rfl ⟨wv, k, K, (k : Int) + K, false⟩ _ rfl) (by simp; omega) (by simp; omega) ?_; intro v3 w3 hv3 hst3 hgr3; have hc3 : w3.cell? ⟨wc.heap.size, 2, none⟩ = some (.int .i64 K) := ((hg2.alloc _).grown hgr3 (fun e => by have := HNE.out _ e.symm; omega)).cell 2)
              have hst : Below w.heap.size wc w3 := (B2.mono (by omega)).trans (((Step.alloc1 w.heap.size [100] _ _).trans hst3).below (by omega))
              go_roundw
              case rel => exact ⟨k + K, done ++ [⟨wv, k, K, (k : Int) + K, false⟩], by omega, by go_num, by simp; omega, HA.out, hv3, (hbel.trans (hwc.mono hsz)).trans hst⟩
              case measure => simp [intOf]; omega
    · have e : l.drop k = [] := List.drop_eq_nil_of_le (by omega)
      have hres : allF l = done := by rw [HALL.out, e]; simp [allN]
      have HRES := hide hres
      clear e hres
      go_wp2
      go_ret
      rw [HRES.out]
      exact ⟨_, rfl, hown, hbel⟩
end Go.Proofs.YtdjpdllehhecpaaGreatDoor
namespace Go.Proofs.YtdjpdllehhecpaaGreatDoor
open Go.RowKit
set_option linter.unusedVariables false
set_option maxHeartbeats 1000000 in
theorem rRunes_ok (So Si : Nat → Prop) (x : Value) (l : List Int) (w : World) (hx : Slc (Rep.int .u8) So Si w x l) (hlen : l.length ≤ 100000) :
    Calls Tryz.prog 17 #[x] w fun e w' => ∃ v, e = .returned v ∧ Own (Rep.int .i32) 21 [] w.heap.size w' v ((allF l).map Got.r) ∧ Below w.heap.size w w' := by
  have hall := rAll_ok So Si x l w hx hlen
  have hlr2 : (allF l).length ≤ l.length := all_len l.length l 0
  have hrr : ∀ g ∈ allF l, 0 ≤ g.r ∧ g.r ≤ 2097151 := all_r _ _ _ (fun n hn => u8_wf (hx.ints_wf n hn))
  generalize hg : allF l = gs at *
  have HALL := hide hall
  clear hg hall
  go_enter Tryz.func17, Tryz.ntmps17
  go_wp2_with fail
  refine HALL.out.mono ?_
  rintro e w1 ⟨v1, rfl, hv1, hb1⟩
  have hsz1 := hb1.size
  obtain ⟨A1, c1, rfl, hd1, hd2, hB1⟩ := (hv1.fslc RGot.flat).open_
  go_wp2
  go_loopw [3, 5] (fun out i wr => ∃ k : Nat, k ≤ gs.length ∧ i = .int .i64 k ∧ Own (Rep.int .i32) 21 [] w.heap.size wr out ((gs.take k).map Got.r) ∧ Step w.heap.size [21] w1 wr) (fun _ i _ => gs.length - (intOf i).toNat)
  case atStart => exact ⟨0, Nat.zero_le _, rfl, Own.nil_ _ _ _ _ _ (by simp), Step.refl _ _ _⟩
  case round =>
    obtain ⟨k, hk, rfl, hown, hst⟩ := hrel
    have hsz := hst.size
    by_cases hlt : k < gs.length
    · have hBk := hB1.flat_keep RGot.flat (So' := fun _ => True) (Si' := fun _ => False) (w' := wr) (by
        intro p u hs hc
        have h2 := Keep.fresh hst (T := [100]) (b0 := w.heap.size) (by decide) p u hs.2 hc
        exact ⟨trivial, h2.2⟩)
      obtain ⟨gb, go, rfl, _, q0, q1, q2, q3, q4⟩ := got_at hBk hlt
      have hgr := hrr gs[k] (List.getElem_mem _)
      have hsn : (gs.take (k + 1)).map Got.r = (gs.take k).map Got.r ++ [gs[k].r] := by rw [take_snoc' gs k hlt, List.map_append]; rfl
      generalize hgk : gs[k] = g at *
      have HSN := hide hsn
      clear hsn hgk
      have hown2 := hown.alloc (.cells #[.int .i32 g.r] 21)
      have hone := own_i32 wr [g.r] (by intro n hn; simp at hn; subst hn; exact wf_i32 (by omega) (by omega)) wr.heap.size wr.heap.size 1 (Nat.le_refl _) rfl rfl (by simp [maxLen])
      have hlt2 : ((gs.take k).map Got.r).length ≤ k := by simp; omega
      go_wp2_with (at_builtin; refine wpList_appi rfl (.tmp 14) (.tmp 20) 24 rfl .i32 21 w.heap.size 4 Tryz.underlying24 i32_info (by decide) _ _ rfl hown2 _ _ _ _ rfl hone.islc (by simp; omega) (by simp; omega) ?_; intro v3 w3 hv3 hst3)
      go_roundw
      case rel => exact ⟨k + 1, by omega, by go_num, by rw [HSN.out]; exact hv3, (hst.alloc _).trans hst3⟩
      case measure => simp [intOf]; omega
    · have e : gs.take k = gs := List.take_of_length_le (by omega)
      rw [e] at hown
      go_wp2
      go_ret
      exact ⟨_, rfl, hown, hb1.trans (hst.below hsz1)⟩
end Go.Proofs.YtdjpdllehhecpaaGreatDoor
