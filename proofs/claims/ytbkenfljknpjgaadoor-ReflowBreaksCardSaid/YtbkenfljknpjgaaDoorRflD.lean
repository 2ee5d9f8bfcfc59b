/-
  Several texts of this seat as one: Rfl8, Rfl9, Rfl10, Rfl11, Law51b, Laid51b.
-/
import Derived.Test.YtbkenfljknpjgaaDoorRflC
import Derived.Deep.CutBlock
import Derived.Test.YtbkenfljknpjgaaDoorWgt
import Derived.Test.YtbkenfljknpjgaaDoorErr6
namespace Go.Proofs.YtbkenfljknpjgaaDoor
open Go.RowKit
set_option linter.unusedVariables false
set_option linter.unusedSimpArgs false

theorem lon_upto (l : List LineV) (K : Nat) (hK : K ≤ l.length) (hall : ∀ j (h : j < l.length), j < K → l[j].1.length ≤ 100000 ∧ soundB l[j].1 = true) : ∀ k, k ≤ K → (lonS l k).1.length ≤ k ∧ ((lonS l k).2 = true → 0 < (lonS l k).1.length) ∧ ∀ q ∈ (lonS l k).1, q.length ≤ k * 100000
  | 0, _ => ⟨by simp [lonS], fun h => (by simp [lonS] at h), fun q h => (by simp [lonS] at h)⟩
  | k + 1, hk => by
    obtain ⟨h1, h2, h3⟩ := lon_upto l K hK hall k (by omega)
    obtain ⟨h4, h5⟩ := lonO_pos _ h2
    obtain ⟨h6, h7⟩ := hall k (by omega) (by omega)
    have h8 := itemsF_le h7
    have h9 : (cntF (lonB l k l[k]) (itemsF l[k].1)).length ≤ 100000 := by
      unfold cntF
      rw [List.length_take]
      omega
    have h10 : ∀ q ∈ lonO (lonS l k), q.length ≤ k * 100000 := by
      unfold lonO
      intro q hq
      split at hq
      · exact h3 q hq
      · rcases List.mem_append.1 hq with hq | hq
        · exact h3 q hq
        · rw [List.mem_singleton] at hq; subst hq; exact Nat.zero_le _
    rw [lonS_succ (by omega)]
    generalize lonO (lonS l k) = O at *
    have h11 : O.getD (O.length - 1) [] = O[O.length - 1]'(by omega) := by rw [List.getD_eq_getElem?_getD, List.getElem?_eq_getElem (by omega)]; rfl
    have h12 := h10 (O[O.length - 1]'(by omega)) (List.getElem_mem _)
    unfold lonP
    refine ⟨by simp only [List.length_set]; omega, fun _ => by simp only [List.length_set]; exact h4, fun q hq => ?_⟩
    rcases List.mem_or_eq_of_mem_set hq with hq | rfl
    · exact Nat.le_trans (h10 q hq) (Nat.mul_le_mul_right _ (Nat.le_succ k))
    · rw [h11, List.length_append, Nat.succ_mul]; exact Nat.add_le_add h12 h9

set_option maxRecDepth 8000 in
set_option maxHeartbeats 8000000 in
theorem Long_bad (b : Nat → Addr) (So : Nat → Prop) (x : Value) (l : List LineV) (w : World) (hS : Sents b w) (hx : Slc RLine So (fun b => b < w.heap.size) w x l) (hll : l.length ≤ 100000) (K : Nat) (hK : K < l.length) (hall : ∀ j (h : j < l.length), j < K → l[j].1.length ≤ 100000 ∧ soundB l[j].1 = true) (hbad : soundB l[K].1 = false) :
    Calls Tryd.prog 25 #[x] w fun e w' => ∃ ev, e = .returned (.tuple #[.slice none 0 0, ev]) ∧ ErrIs b w' ev 4 (some K) ∧ Below w.heap.size w w' := by
  have HSE := hide hS
  have HBAD := hide hbad
  clear hS hbad
  obtain ⟨A, c, rfl, _, _, _⟩ := hx.open_
  have HALL := hide hall
  have HLN := hide (lon_upto l K (by omega) hall)
  clear hall
  go_enter Tryd.func25, Tryd.ntmps25
  go_wp2_with fail
  go_loopw [4, 5, 13] (fun sv bv iv wr => ∃ k : Nat, k ≤ K ∧ iv = .int .i64 k ∧ bv = .bool (lonS l k).2 ∧ ∃ ps : List ItP, ItsP w.heap.size wr sv ps ∧ ps.map Prod.snd = (lonS l k).1 ∧ Below w.heap.size w wr) (fun _ _ iv _ => l.length - (intOf iv).toNat)
  case atStart => exact ⟨0, Nat.zero_le _, rfl, rfl, [], ItsP.nil_ _ _, rfl, Below.refl _ _⟩
  case round =>
    obtain ⟨k, hk, rfl, rfl, ps, hits, hps, hbr⟩ := hrel
    have hzr := hbr.size
    have hlt : k < l.length := by omega
    by_cases hlt0 : k < K
    · obtain ⟨ab, off, v, rfl, _, q00, q01, hv⟩ := line_at hx.slb hlt
      have hab := World.block_lt_of_cell? _ _ q00
      simp only at hab
      have q0 := (hbr.cell (p := ⟨ab, off + k * 2, none⟩) hab).trans q00
      have q1 := (hbr.cell (p := ⟨ab, off + k * 2 + 1, none⟩) hab).trans q01
      have hki : (k : Int) < l.length := by omega
      obtain ⟨hl1, hl2⟩ := HALL.out k hlt hlt0
      have hsc := lonS_succ hlt
      obtain ⟨hl3, hl4, hl5⟩ := HLN.out k hk
      obtain ⟨hl6, hl7⟩ := lonO_pos _ hl4
      have hl8 := lonO_all hl5
      obtain ⟨pk, hpk⟩ : ∃ pk, l[k] = pk := ⟨_, rfl⟩
      obtain ⟨cl, wrp⟩ := pk
      rw [hpk] at q1 hl1 hl2 hsc hv
      simp only at q1 hl1 hl2 hsc hv
      obtain ⟨A', c', rfl, _, _, _⟩ := hv.open_
      obtain ⟨bn, hbn⟩ : ∃ bn, lonB l k (cl, wrp) = bn := ⟨_, rfl⟩
      have hbne : (wrp && decide (k + 1 < l.length)) = bn := hbn
      rw [hbn] at hsc
      obtain ⟨st, hst⟩ : ∃ st, lonS l k = st := ⟨_, rfl⟩
      rw [hst] at hsc hl3 hl4 hl5 hl6 hl7 hl8 hps ⊢
      obtain ⟨O, hO⟩ : ∃ O, lonO st = O := ⟨_, rfl⟩
      rw [hO] at hsc hl6 hl7 hl8
      obtain ⟨o, bg⟩ := st
      have him := Nat.le_trans (itemsF_le hl2) hl1
      have HSC := hide hsc
      have HPS := hide hps
      have HO := hide hO
      have HO8 := hide hl8
      have HBN := hide hbne
      simp only at hl3 hl7
      clear hsc hps hO hl8 hbne hbn hst hpk hl4 hl5 q00 q01
      go_upto_region 6 with fail
      have hb2 := hbr.alloc hzr (.cells #[.slice A' cl.length c', .bool wrp] 38)
      have hits2 := hits.step (Step.alloc1 w.heap.size [] wr (.cells #[.slice A' cl.length c', .bool wrp] 38)) (by simp) (by simp) (by simp)
      have bi := Blk.new wr 38 #[.slice A' cl.length c', .bool wrp]
      obtain ⟨gi, hgi⟩ : ∃ gi, wr.heap.size = gi := ⟨_, rfl⟩
      rw [hgi] at bi ⊢
      generalize wr.alloc (.cells #[.slice A' cl.length c', .bool wrp] 38) = w2 at *
      have hz2 := hb2.size
      have hv2 : Slc RCell (fun b => b < w.heap.size) (fun b => b < w2.heap.size) w2 (.slice A' cl.length c') cl := (hv.mono (Keep.below hb2) (Keep.below hb2)).mono (Keep.refl _ _) (Keep.weaken fun b hb => Nat.lt_of_lt_of_le hb hz2)
      have HOF := hide (IOf2_ok _ (.slice A' cl.length c') cl w2 hv2 hl1 hl2)
      have i0 := bi.cell 0
      have i1 := bi.cell 1
      simp only [List.getElem?_toArray, List.getElem?_cons_succ, List.getElem?_cons_zero] at i0 i1
      clear hgi hbr hzr hits q0 q1 hv hv2 hl1 hl2
      go_wp2_with fail
      refine HOF.out.mono ?_
      rintro e w3 ⟨sg, rfl, hsg, hc3⟩
      have hb3 := hb2.trans (hc3.mono hz2)
      have hz3 := hb3.size
      have hits3 := hits2.step (es := []) (Step.of_below hc3) (by simp) (by simp) (by simp)
      have bi3 := bi.same hc3
      have hsg3 := hsg.down w.heap.size (Nat.zero_le _) hz2
      obtain ⟨im, hime⟩ : ∃ im, itemsF cl = im := ⟨_, rfl⟩
      rw [hime] at hsg3 him HSC
      obtain ⟨Ag, cg, rfl, _, _, _⟩ := hsg3.slc.open_
      have i1 := bi3.cell 1
      simp only [List.getElem?_toArray, List.getElem?_cons_succ, List.getElem?_cons_zero] at i1
      clear hsg hc3 hits2 bi i0 HOF
      go_upto_region 9 with fail
      go_cut [30] from 14 to 57 (fun s wx => s = .bool (!bg) ∧ w3 = wx)
      case first =>
        cases bg with
        | true =>
          go_wp2
          go_meet
          exact ⟨rfl, rfl⟩
        | false =>
          go_wp2
          go_meet
          exact ⟨rfl, rfl⟩
      case rest =>
        obtain ⟨rfl, rfl⟩ := hcut
        go_upto_if 30 with fail
        go_cut [4] from 14 to 57 (fun sv wx => ∃ ps2 : List ItP, ItsP w.heap.size wx sv ps2 ∧ ps2.map Prod.snd = O ∧ Own2 RCell 50 [21] w.heap.size 0 wx (.slice Ag im.length cg) im ∧ Below w.heap.size w wx ∧ wx.cell? ⟨gi, 1, none⟩ = some (.bool wrp))
        case first =>
          have HSG := hide hsg3
          have HIT := hide hits3
          clear hsg3 hits3
          cases bg with
          | true =>
            have HOO : Hid (o = O) := hide (by rw [← HO.out]; rfl)
            go_wp2
            go_meet
            exact ⟨ps, HIT.out, by rw [HPS.out]; exact HOO.out, HSG.out, hb3, i1⟩
          | false =>
            have HOO : Hid (o ++ [[]] = O) := hide (by rw [← HO.out]; rfl)
            have hpl : ps.length = o.length := by
              have := congrArg List.length HPS.out
              rwa [List.length_map] at this
            have hits4 := HIT.out.step (Step.alloc1 w.heap.size [] w3 (.cells #[.slice none 0 0] 46)) (by simp) (by simp) (by simp)
            have hsg4 := HSG.out.alloc (.cells #[.slice none 0 0] 46)
            have hb4 := hb3.alloc hz3 (.cells #[.slice none 0 0] 46)
            have bi4 := bi3.alloc (.cells #[.slice none 0 0] 46)
            have hone := Slc.lit1 (R := RVal) (Si := fun _ => False) (Si' := fun _ => False) (w := w3) (x := (.slice none 0 0 : Value)) (u := [.slice none 0 0]) 46 ⟨rfl, rfl⟩ (fun _ _ h => h.elim)
            have HIT4 := hide hits4
            have HSG4 := hide hsg4
            clear hits4 hsg4
            go_wp2_with (at_builtin; refine wpList_appg rfl (.tmp 31) (.tmp 32) 55 rfl RVal 46 [] w.heap.size 24 _ Tryd.underlying55 its_info rfl (by decide) (by decide) _ _ rfl HIT4.out.row _ (fun _ => False) _ _ rfl hone (fun _ h => False.elim h) (by simp; omega) hb4.size ?_; intro v5 w5 hv5 hst5 hg5 ho5; have hits5 := hide (HIT4.out.more hv5 hst5); have hsg5 := hide (HSG4.out.step hst5 (by decide) (by decide)); have hb5 := hide (hb4.trans (hst5.below hb4.size)); have i5 := hide ((bi4.step hst5 (by decide)).cell 1); clear hv5 hst5 hg5 ho5)
            go_meet
            refine ⟨ps ++ [((.slice none 0 0 : Value), [])], hits5.out, by rw [List.map_append, HPS.out]; exact HOO.out, hsg5.out, hb5.out, ?_⟩
            have i5 := i5.out
            simp only [List.getElem?_toArray, List.getElem?_cons_succ, List.getElem?_cons_zero] at i5
            exact i5
        case rest =>
          clear hsg3 hits3 hb3 hz3 bi3 HPS i1
          obtain ⟨ps2, hits5, hps5, hsg5, hb5, i1⟩ := hcut
          have hz5 := hb5.size
          go_upto_region 11 with fail
          go_cut [5] from 14 to 57 (fun s wx => s = .bool bn ∧ wc = wx)
          case first =>
            cases wrp with
            | false =>
              have E : Hid (false = bn) := hide (by rw [← HBN.out]; rfl)
              go_wp2
              go_meet
              exact ⟨bool_eq E.out, rfl⟩
            | true =>
              by_cases hkl : k + 1 < l.length
              · have hkl2 : (k : Int) < l.length - 1 := by omega
                have E : Hid (true = bn) := hide (by rw [← HBN.out, decide_eq_true hkl]; rfl)
                go_wp2
                go_meet
                exact ⟨bool_eq E.out, rfl⟩
              · omega
          case rest =>
            obtain ⟨rfl, rfl⟩ := hcut
            have hp5 : ps2.length = O.length := by rw [← hps5, List.length_map]
            obtain ⟨j, hj⟩ : ∃ j, ps2.length = j + 1 := ⟨ps2.length - 1, by omega⟩
            have hjl : j < ps2.length := by omega
            have HP2 := hide (fun v => lonP_set hps5 hjl hj v (im.take (cntN bn im)))
            have hrl := HO8.out ps2[j].2 (by rw [← hps5]; exact List.mem_map.2 ⟨_, List.getElem_mem _, rfl⟩)
            have hrl2 : ps2[j].2.length ≤ 10000000000 := by
              have : k * 100000 ≤ 100000 * 100000 := Nat.mul_le_mul_right _ (by omega)
              omega
            obtain ⟨G, capG, hve, hGb, hGl, hGc, hGf⟩ := hits5.at_ hjl
            have hrj := hits5.cells ps2[j] (List.getElem_mem _)
            obtain ⟨Aj, cj, hje, ju1, ju2, ju3⟩ := hrj.slc.open_
            clear ju1 ju2 ju3
            rw [hje] at hGc
            rw [hj] at hve
            subst hve
            have HJE := hide hje
            have HIT5 := hide hits5
            have HSG5 := hide hsg5
            obtain ⟨rj, hrje⟩ : ∃ rj, ps2[j].2 = rj := ⟨_, rfl⟩
            rw [hje] at hrj
            rw [hrje] at hrj hGc hrl2 HP2 HJE
            have hjk : j ≤ 200000 := by omega
            have hji : (j : Int) < (j : Int) + 1 := by omega
            have hcn := cntN_le bn im
            have HCN := hide (counted_ok _ _ Ag cg im bn wc.drew (hsg5.dr.slc) (by omega))
            clear hits5 hsg5 hps5 hrl hje hrje hGf i1
            go_upto_region 13 with fail
            refine wp_region_late (S := fun w' => w'.cell? ⟨G, j, none⟩ = some (.slice Aj rj.length cj)) [11] (by kernel_rfl) (by exact hGc) (fun hHeld => ?_)
            refine wpAnyT_take (i := 0) (oi := ?_) (v := ?_) ?_ (by kernel_rfl) (by kernel_rfl) (by kernel_rfl) (by kernel_rfl) (by kernel_rfl) ?_ (Or.inl ⟨?_, ?_⟩) (by assumption) ?_
            rotate_left 2
            · (simp only [List.getElem?_toArray, List.getElem?_cons_succ, List.getElem?_cons_zero]; rfl)
            rotate_left 1
            · rfl
            · (intro w hSw; (try dsimp only at hSw); go_simp; try with_reducible rfl)
            rotate_left 1
            · exact fun _ _ _ h => h
            try simp only [Act.put, List.setIfInBounds_toArray, List.set_cons_zero, List.set_cons_succ]
            refine wpAnyT_take (i := 1) (oi := ?_) (v := ?_) ?_ (by kernel_rfl) (by kernel_rfl) (by kernel_rfl) (by kernel_rfl) (by kernel_rfl) ?_ (Or.inl ⟨?_, ?_⟩) (by assumption) ?_
            rotate_left 2
            · (simp only [List.getElem?_toArray, List.getElem?_cons_succ, List.getElem?_cons_zero]; rfl)
            rotate_left 1
            · rfl
            · (intro w hSw; (try dsimp only at hSw); go_simp; try with_reducible rfl)
            rotate_left 1
            · exact fun _ _ _ h => h
            try simp only [Act.put, List.setIfInBounds_toArray, List.set_cons_zero, List.set_cons_succ]
            refine wpAnyT_take (i := 2) (oi := ?_) (v := ?_) ?_ (by kernel_rfl) (by kernel_rfl) (by kernel_rfl) (by kernel_rfl) (by kernel_rfl) ?_ (Or.inl ⟨?_, ?_⟩) (by assumption) ?_
            rotate_left 2
            · (simp only [List.getElem?_toArray, List.getElem?_cons_succ, List.getElem?_cons_zero]; rfl)
            rotate_left 1
            · rfl
            · (intro w hSw; (try dsimp only at hSw); go_simp; try with_reducible rfl)
            rotate_left 1
            · exact fun _ _ _ h => h
            try simp only [Act.put, List.setIfInBounds_toArray, List.set_cons_zero, List.set_cons_succ]
            refine wpAnyT_take (i := 3) (oi := ?_) (v := ?_) ?_ (by kernel_rfl) (by kernel_rfl) (by kernel_rfl) (by kernel_rfl) (by kernel_rfl) ?_ (Or.inl ⟨?_, ?_⟩) (by assumption) ?_
            rotate_left 2
            · (simp only [List.getElem?_toArray, List.getElem?_cons_succ, List.getElem?_cons_zero]; rfl)
            rotate_left 1
            · rfl
            · (intro w hSw; (try dsimp only at hSw); go_simp; try with_reducible rfl)
            rotate_left 1
            · exact fun _ _ _ h => h
            try simp only [Act.put, List.setIfInBounds_toArray, List.set_cons_zero, List.set_cons_succ]
            refine wpAnyT_take (i := 4) (oi := ?_) (v := ?_) ?_ (by kernel_rfl) (by kernel_rfl) (by kernel_rfl) (by kernel_rfl) (by kernel_rfl) ?_ (Or.inl ⟨?_, ?_⟩) (by assumption) ?_
            rotate_left 2
            · (simp only [List.getElem?_toArray, List.getElem?_cons_succ, List.getElem?_cons_zero]; rfl)
            rotate_left 1
            · rfl
            · (intro w hSw; (try dsimp only at hSw); go_simp; try with_reducible rfl)
            rotate_left 1
            · exact fun _ _ _ h => h
            try simp only [Act.put, List.setIfInBounds_toArray, List.set_cons_zero, List.set_cons_succ]
            refine wpAnyT_take (i := 5) (oi := ?_) (v := ?_) ?_ (by kernel_rfl) (by kernel_rfl) (by kernel_rfl) (by kernel_rfl) (by kernel_rfl) ?_ (Or.inl ⟨?_, ?_⟩) (by assumption) ?_
            rotate_left 2
            · (simp only [List.getElem?_toArray, List.getElem?_cons_succ, List.getElem?_cons_zero]; rfl)
            rotate_left 1
            · rfl
            · (intro w hSw; (try dsimp only at hSw); go_simp; try with_reducible rfl)
            rotate_left 1
            · exact fun _ _ _ h => h
            try simp only [Act.put, List.setIfInBounds_toArray, List.set_cons_zero, List.set_cons_succ]
            refine wpAnyT_take (i := 6) (oi := ?_) (v := ?_) ?_ (by kernel_rfl) (by kernel_rfl) (by kernel_rfl) (by kernel_rfl) (by kernel_rfl) ?_ (Or.inl ⟨?_, ?_⟩) (by assumption) ?_
            rotate_left 2
            · (simp only [List.getElem?_toArray, List.getElem?_cons_succ, List.getElem?_cons_zero]; rfl)
            rotate_left 1
            · rfl
            · (intro w hSw; (try dsimp only at hSw); go_simp; try with_reducible rfl)
            rotate_left 1
            · exact fun _ _ _ h => h
            try simp only [Act.put, List.setIfInBounds_toArray, List.set_cons_zero, List.set_cons_succ]
            refine wpAnyT_take (i := 7) (oi := ?_) (v := ?_) ?_ (by kernel_rfl) (by kernel_rfl) (by kernel_rfl) (by kernel_rfl) (by kernel_rfl) ?_ (Or.inl ⟨?_, ?_⟩) (by assumption) ?_
            rotate_left 2
            · (simp only [List.getElem?_toArray, List.getElem?_cons_succ, List.getElem?_cons_zero]; rfl)
            rotate_left 1
            · rfl
            · (intro w hSw; (try dsimp only at hSw); go_simp; try with_reducible rfl)
            rotate_left 1
            · exact fun _ _ _ h => h
            try simp only [Act.put, List.setIfInBounds_toArray, List.set_cons_zero, List.set_cons_succ]
            refine wpAnyT_ready (rs := [8]) (by kernel_rfl) (by simp) ?_
            refine AllReadyT.cons (o := ?_) ?_ (fun K hK => ?_) AllReadyT.nil
            rotate_left 1
            · (simp only [List.getElem?_toArray, List.getElem?_cons_succ, List.getElem?_cons_zero]; rfl)
            go_simp
            go_at_call 53; refine HCN.out.mono ?_; rintro e w6 ⟨rfl, hc6⟩; have hb6 := (below_drw hb5).trans (hc6.mono hz5); have hz6 := hb6.size; have hits6 := hide ((HIT5.out.step ((Step.refl w.heap.size [] wc).drew) (by simp) (by simp) (by simp)).step (es := []) (Step.of_below hc6) (by simp) (by simp) (by simp)); have hfr6 := own2_front (HSG5.out.dr.below hc6) hcn; have hrj6 := hrj.dr.below hc6; have s0 := (hc6.cell (p := ⟨G, j, none⟩) hGl).trans hHeld; clear hc6 hrj
            refine hK.out _ _ ?_ (fun hHeld => ?_)
            · ((try dsimp only); go_keep)
            clear hK K
            try simp only [Act.put, List.setIfInBounds_toArray, List.set_cons_zero, List.set_cons_succ]
            refine wpAnyT_ready (rs := [9]) (by kernel_rfl) (by simp) ?_
            refine AllReadyT.cons (o := ?_) ?_ (fun K hK => ?_) AllReadyT.nil
            rotate_left 1
            · (simp only [List.getElem?_toArray, List.getElem?_cons_succ, List.getElem?_cons_zero]; rfl)
            refine step_app2y rfl (.tmp 51) (.tmp 54) 46 rfl RCell 50 [21] w.heap.size 0 32 _ Tryd.underlying46 item_info rfl (by decide) (by decide) _ _ rfl hrj6 _ _ _ rfl hfr6 (by rw [List.length_take]; omega) hz6 ?_; intro v7 w7 hv7 hst7 hg7 ho7; obtain ⟨A7, n7, c7, rfl⟩ : ∃ A7 n7 c7, v7 = .slice A7 n7 c7 := (by obtain ⟨A, c, e, _⟩ := hv7.slc.open_; exact ⟨A, _, c, e⟩); obtain ⟨G2, cap2, e2, _, _, _, s0, f0⟩ := ownv_at (hits6.out.row.flat_step RVal.flat hst7 (by decide)) (i := j) (by rw [List.length_map]; exact hjl); injection e2 with e2 e3 e4; clear e3 e4; injection e2 with e2; injection e2 with e2; subst e2; rw [List.getElem_map, HJE.out] at s0; obtain ⟨hits9x, hst9⟩ := hits6.out.grow hjl rfl hv7 hst7 (by rw [HJE.out]; exact hg7) (by rw [HJE.out]; exact ho7); have hits9 := hide hits9x; have hb9 := hide (hb6.trans (hst9.below hz6)); clear hv7 hst7 hg7 ho7 hrj6 hfr6 hits6 hst9 hits9x
            refine hK.out _ _ ?_ (fun hHeld => ?_)
            · ((try dsimp only); go_keep)
            clear hK K
            try simp only [Act.put, List.setIfInBounds_toArray, List.set_cons_zero, List.set_cons_succ]
            refine wpAnyT_take (i := 10) (oi := ?_) (v := ?_) ?_ (by kernel_rfl) (by kernel_rfl) (by kernel_rfl) (by kernel_rfl) (by kernel_rfl) ?_ (Or.inl ⟨?_, ?_⟩) (by assumption) ?_
            rotate_left 2
            · (simp only [List.getElem?_toArray, List.getElem?_cons_succ, List.getElem?_cons_zero]; rfl)
            rotate_left 1
            · rfl
            · (intro w hSw; (try dsimp only at hSw); go_simp; try with_reducible rfl)
            rotate_left 1
            · exact fun _ _ _ h => h
            try simp only [Act.put, List.setIfInBounds_toArray, List.set_cons_zero, List.set_cons_succ]
            refine wpAnyT_ready (rs := [11]) (by kernel_rfl) (by simp) ?_
            refine AllReadyT.consL (o := ?_) ?_ (by kernel_rfl) (fun K hK => ?_) AllReadyT.nil
            rotate_left 1
            · (simp only [List.getElem?_toArray, List.getElem?_cons_succ, List.getElem?_cons_zero]; rfl)
            go_simp
            refine hK.out _ _ ?_
            clear hK K
            try simp only [Act.put, List.setIfInBounds_toArray, List.set_cons_zero, List.set_cons_succ]
            refine wpAnyT_done (by kernel_rfl) ?_ _
            clear hHeld s0 f0
            go_wp2
            go_roundw
            case rel => exact ⟨k + 1, by omega, by go_num, by rw [HSC.out], _, hits9.out, by rw [HSC.out]; exact HP2.out _, hb9.out⟩
            case measure => simp [intOf]; omega
    · obtain rfl : k = K := by omega
      have HSB := hide (HSE.out.below hbr)
      obtain ⟨ab, off, v, rfl, _, q00, q01, hv⟩ := line_at hx.slb hlt
      have hab := World.block_lt_of_cell? _ _ q00
      simp only at hab
      have q0 := (hbr.cell (p := ⟨ab, off + k * 2, none⟩) hab).trans q00
      have q1 := (hbr.cell (p := ⟨ab, off + k * 2 + 1, none⟩) hab).trans q01
      have hki : (k : Int) < l.length := by omega
      have hbk := HBAD.out
      obtain ⟨pk, hpk⟩ : ∃ pk, l[k] = pk := ⟨_, rfl⟩
      obtain ⟨cl, wrp⟩ := pk
      rw [hpk] at q1 hbk hv
      simp only at q1 hbk hv
      obtain ⟨A', c', rfl, _, _, _⟩ := hv.open_
      have HBK := hide hbk
      clear hpk q00 q01 hits hps HBAD hbk
      go_upto_region 6 with fail
      have hb2 := hbr.alloc hzr (.cells #[.slice A' cl.length c', .bool wrp] 38)
      have bi := Blk.new wr 38 #[.slice A' cl.length c', .bool wrp]
      obtain ⟨gi, hgi⟩ : ∃ gi, wr.heap.size = gi := ⟨_, rfl⟩
      rw [hgi] at bi ⊢
      generalize wr.alloc (.cells #[.slice A' cl.length c', .bool wrp] 38) = w2 at *
      have hz2 := hb2.size
      have hv2 : Slc RCell (fun b => b < w.heap.size) (fun b => b < w2.heap.size) w2 (.slice A' cl.length c') cl := (hv.mono (Keep.below hb2) (Keep.below hb2)).mono (Keep.refl _ _) (Keep.weaken fun b hb => Nat.lt_of_lt_of_le hb hz2)
      have HS2 := HSE.out.below hb2
      have hEK := HS2.var 4 (by decide)
      simp only [gOf] at hEK
      have HOF := hide (IOf_bad _ _ (.slice A' cl.length c') cl _ _ w2 hv2 HBK.out hEK)
      have HS2 := hide HS2
      have i0 := bi.cell 0
      simp only [List.getElem?_toArray, List.getElem?_cons_succ, List.getElem?_cons_zero] at i0
      clear hgi hbr hzr q0 q1 hv hv2 hEK
      go_wp2_with fail
      refine HOF.out.mono ?_
      rintro e w3 ⟨rfl, hc3⟩
      have hb3 := hb2.trans (hc3.mono hz2)
      have hz3 := hb3.size
      have HS3 := hide (HS2.out.below hc3)
      clear hc3 i0 HOF
      go_wp2_with fail
      refine (Wrong_ok b k 4 _ HS3.out).mono ?_
      rintro e w4 ⟨ev, rfl, hev, hc4⟩
      obtain ⟨te, ue, rfl⟩ := hev.form
      have HEV := hide hev
      clear hev
      go_wp2
      go_ret2
      exact ⟨_, rfl, HEV.out, hb3.trans (hc4.mono hz3)⟩
set_option maxHeartbeats 2000000 in
theorem Lines_bad (b : Nat → Addr) (So : Nat → Prop) (x : Value) (l : List LineV) (n : Int) (w : World) (hS : Sents b w) (hx : Slc RLine So (fun b => b < w.heap.size) w x l) (hll : l.length ≤ 100000) (K : Nat) (hK : K < l.length) (hall : ∀ j (h : j < l.length), j < K → l[j].1.length ≤ 100000 ∧ soundB l[j].1 = true) (hbad : soundB l[K].1 = false) :
    Calls Tryd.prog 24 #[x, .int .i64 n] w fun e w' => ∃ ev, e = .returned (.tuple #[.slice none 0 0, ev]) ∧ ErrIs b w' ev 4 (some K) ∧ Below w.heap.size w w' := by
  have HLG := hide (Long_bad b So x l w hS hx hll K hK hall hbad)
  obtain ⟨A, c, rfl, _, _, _⟩ := hx.open_
  clear hall hbad hS hx
  go_enter Tryd.func24, Tryd.ntmps24
  go_wp2_with fail
  refine HLG.out.mono ?_
  rintro e w1 ⟨ev, rfl, hev, hb1⟩
  obtain ⟨te, ue, rfl⟩ := hev.form
  have HEV := hide hev
  clear hev
  go_wp2
  go_ret2
  exact ⟨_, rfl, HEV.out, hb1⟩
end Go.Proofs.YtbkenfljknpjgaaDoor

namespace Go.Proofs.YtbkenfljknpjgaaDoor
open Go.RowKit
set_option linter.unusedVariables false
set_option linter.unusedSimpArgs false

/-- How many cells are left, without blanks at the end. -/
def kutN (x : List CellV) : Nat → Nat
  | 0 => 0
  | n + 1 => if (x.getD n (0, [])).1 = 0 then kutN x n else n + 1
def kutOn (x : List CellV) : Nat → Nat
  | 0 => 0
  | n + 1 => if (x.getD n (0, [])).1 = 0 then n else n + 1
def kut (on : Bool) (x : List CellV) : Nat := if on = true then kutOn x x.length else kutN x x.length
theorem kutN_le (x : List CellV) : ∀ n, kutN x n ≤ n
  | 0 => Nat.le_refl _
  | n + 1 => by
    have := kutN_le x n
    rw [kutN]
    split
    · exact Nat.le_succ_of_le this
    · exact Nat.le_refl _
theorem kutOn_le (x : List CellV) (n : Nat) : kutOn x n ≤ n := by
  cases n with
  | zero => exact Nat.le_refl _
  | succ n =>
    rw [kutOn]
    split
    · exact Nat.le_succ n
    · exact Nat.le_refl _
theorem kut_le (on : Bool) (x : List CellV) : kut on x ≤ x.length := by
  unfold kut
  split
  · exact kutOn_le x _
  · exact kutN_le x _
theorem kut_blank {x : List CellV} {n : Nat} (h : n < x.length) (hb : x[n].1 = 0) : kutN x (n + 1) = kutN x n ∧ kutOn x (n + 1) = n := by
  have e : (x.getD n (0, [])) = x[n] := by rw [List.getD_eq_getElem?_getD, List.getElem?_eq_getElem h]; rfl
  exact ⟨by rw [kutN, e, if_pos hb], by rw [kutOn, e, if_pos hb]⟩
theorem kut_keep {x : List CellV} {n : Nat} (h : n < x.length) (hb : ¬ x[n].1 = 0) : kutN x (n + 1) = n + 1 ∧ kutOn x (n + 1) = n + 1 := by
  have e : (x.getD n (0, [])) = x[n] := by rw [List.getD_eq_getElem?_getD, List.getElem?_eq_getElem h]; rfl
  exact ⟨by rw [kutN, e, if_neg hb], by rw [kutOn, e, if_neg hb]⟩
theorem cellsI_app (a b : List ItemV) : cellsI (a ++ b) = cellsI a ++ cellsI b := by unfold cellsI; rw [List.flatMap_append]
theorem cellsI_one (i : ItemV) : cellsI [i] = ofF i.1 i.2 := by unfold cellsI; simp
theorem cells_mid {x : List ItemV} {k : Nat} (h : k < x.length) : cellsI x = cellsI (x.take k) ++ (ofF x[k].1 x[k].2 ++ cellsI (x.drop (k + 1))) := by
  rw [← cellsI_one, ← cellsI_app, ← cellsI_app]
  congr 1
  rw [List.singleton_append, ← List.drop_eq_getElem_cons h, List.take_append_drop]
theorem cells_next {x : List ItemV} {k : Nat} (h : k < x.length) : cellsI (x.take (k + 1)) = cellsI (x.take k) ++ ofF x[k].1 x[k].2 := by
  rw [take_snoc' x k h, cellsI_app, cellsI_one]
theorem kut_step (x : List ItemV) (h : ∀ i ∈ x, rightI i = true) {k : Nat} (hk : k < x.length) :
    (x[k].2.length = 0 ∧ kutN (cellsI x) (cellsI (x.take (k + 1))).length = kutN (cellsI x) (cellsI (x.take k)).length ∧ kutOn (cellsI x) (cellsI (x.take (k + 1))).length = (cellsI (x.take k)).length) ∨
    (¬ x[k].2.length = 0 ∧ kutN (cellsI x) (cellsI (x.take (k + 1))).length = (cellsI (x.take (k + 1))).length ∧ kutOn (cellsI x) (cellsI (x.take (k + 1))).length = (cellsI (x.take (k + 1))).length) := by
  have hr := right_cells x[k] (h _ (List.getElem_mem hk))
  rw [cells_next hk, cells_mid hk]
  generalize cellsI (x.take k) = A
  generalize cellsI (x.drop (k + 1)) = C
  generalize x[k] = i at *
  obtain ⟨wd, t⟩ := i
  simp only at hr ⊢
  rcases hr with ⟨ht, _, e⟩ | ⟨_, e, r⟩ | ⟨_, e, r⟩
  · rw [e]
    have hb := kut_blank (x := A ++ ([((0, []) : CellV)] ++ C)) (n := A.length) (by simp) (by simp)
    exact .inl ⟨ht, by rw [List.length_append, List.length_singleton]; exact hb.1, by rw [List.length_append, List.length_singleton]; exact hb.2⟩
  · rw [e]
    have ht := (right_text 1 (.inl rfl) t r).1
    have hb := kut_keep (x := A ++ ([((1, t) : CellV)] ++ C)) (n := A.length) (by simp) (by simp)
    exact .inr ⟨by omega, by rw [List.length_append, List.length_singleton]; exact hb.1, by rw [List.length_append, List.length_singleton]; exact hb.2⟩
  · rw [e]
    have ht := (right_text 2 (.inr rfl) t r).1
    have hb := kut_keep (x := A ++ ([((2, t) : CellV), (3, [])] ++ C)) (n := A.length + 1) (by simp) (by simp [List.getElem_append_right])
    exact .inr ⟨by omega, by rw [List.length_append]; exact hb.1, by rw [List.length_append]; exact hb.2⟩
theorem kut_items (x : List ItemV) (h : ∀ i ∈ x, rightI i = true) : ∀ k, k ≤ x.length → kutN (cellsI x) (cellsI (x.take k)).length = (cellsI (x.take (cutN x k))).length
  | 0, _ => by rw [List.take_zero]; rfl
  | k + 1, hk => by
    have ih := kut_items x h k (by omega)
    rcases kut_step x h (show k < x.length by omega) with ⟨h1, h2, _⟩ | ⟨h1, h2, _⟩
    · rw [h2, ih, (cut_blank (show k < x.length by omega) h1).1]
    · rw [h2, (cut_keep (show k < x.length by omega) h1).1]
theorem kut_one (on : Bool) (x : List ItemV) (h : ∀ i ∈ x, rightI i = true) : kut on (cellsI x) = (cellsI (x.take (cntN on x))).length := by
  have hx : (cellsI x).length = (cellsI (x.take x.length)).length := by rw [List.take_of_length_le (Nat.le_refl _)]
  unfold kut cntN
  cases on with
  | false => rw [if_neg (by decide), if_neg (by decide), hx, kut_items x h _ (Nat.le_refl _)]
  | true =>
    rw [if_pos rfl, if_pos rfl, hx]
    cases hn : x.length with
    | zero => rw [List.take_zero]; rfl
    | succ k =>
      have hk : k < x.length := by omega
      rcases kut_step x h hk with ⟨h1, _, h3⟩ | ⟨h1, _, h3⟩
      · rw [h3, (cut_blank hk h1).2]
      · rw [h3, (cut_keep hk h1).2]
/-- The items of what is left of sound cells are what is left of their items. -/
theorem kut_cnt (on : Bool) (c : List CellV) (h : soundB c = true) : itemsF (c.take (kut on c)) = cntF on (itemsF c) := by
  obtain ⟨e, _, hr⟩ := items_back c.length c rfl h
  have h1 := kut_one on (itemsF c) hr
  rw [e] at h1
  have h2 : c.take (kut on c) = cellsI ((itemsF c).take (cntN on (itemsF c))) := by
    rw [h1]
    have h3 : c = cellsI ((itemsF c).take (cntN on (itemsF c))) ++ cellsI ((itemsF c).drop (cntN on (itemsF c))) := by rw [← cellsI_app, List.take_append_drop, e]
    generalize cellsI ((itemsF c).take (cntN on (itemsF c))) = P at *
    rw [h3, List.take_left]
  rw [h2]
  exact (cells_back _ (fun i hi => hr i (List.mem_of_mem_take hi))).1

set_option maxHeartbeats 1000000 in
/-- The document's items of a row: the cells' own texts. -/
theorem rItems2_ok (So : Nat → Prop) (x : Value) (l : List CellV) (B : Nat) (w : World) (hB : B ≤ w.heap.size) (hx : Slc RCell So (fun b => b < B) w x l) (hlen : l.length ≤ 100000) :
    Calls Tryd.prog 57 #[x] w fun e w' => ∃ s, e = .returned s ∧ Own2 RCell 50 [] w.heap.size B w' s (itemsF l) ∧ Below w.heap.size w w' := by
  obtain ⟨A, c, rfl, hc1, hc2, _⟩ := hx.open_
  go_enter Tryd.func57, Tryd.ntmps57
  go_wp2
  go_loopw [3, 4] (fun out i wr => ∃ k : Nat, k ≤ l.length ∧ i = .int .i64 k ∧ Own2 RCell 50 [] w.heap.size B wr out (itemsF (l.take k)) ∧ Below w.heap.size w wr) (fun _ i _ => l.length - (intOf i).toNat)
  case atStart => exact ⟨0, Nat.zero_le _, rfl, Own2.nil_ _ _ _ _ _ _ hB (by decide), Below.refl _ _⟩
  case round =>
    obtain ⟨k, hk, rfl, hout, hbel⟩ := hrel
    have hsz := hbel.size
    by_cases hlt : k < l.length
    · obtain ⟨ab, off, v2, rfl, _, q0, q1, hw, hv⟩ := cell_at hx.slb hlt
      obtain ⟨A2, c2, rfl, _, _, _⟩ := hv.open_
      have hab := World.block_lt_of_cell? w _ q0
      simp only at hab
      have q2 := (hbel.cell (p := ⟨ab, off + k * 2, none⟩) hab).trans q0
      have q3 := (hbel.cell (p := ⟨ab, off + k * 2 + 1, none⟩) hab).trans q1
      have hv := hv.mono (Keep.below (S := fun b => b < B) hbel) (Keep.below (S := fun b => b < B) hbel)
      have hsn := items_take l k hlt
      have hil := items_len (l.take k)
      have htl2 : (l.take k).length ≤ k := List.length_take_le _ _
      generalize itemsF (l.take k) = acc at *
      have one : ∀ wd : Int, (Lit.int .i64 wd).wf = true → Own2 RCell 50 [] w.heap.size B (wr.alloc (.cells #[.int .i64 wd, .slice A2 l[k].2.length c2] 50)) (.slice (some ⟨wr.heap.size, 0, none⟩) 1 1) [(wd, l[k].2)] := fun wd hwd =>
        Own2.lit (xs := [.int .i64 wd, .slice A2 l[k].2.length c2]) hB (by decide) (els_cell1 hwd (hv.mono (Keep.weaken fun b h => .inl h) (Keep.weaken fun b h => .inl h))) hsz rfl (by simp [maxLen])
      have h1 := one 1 (by decide)
      have h2 := one 2 (by decide)
      have hout1 := hout.alloc (.cells #[.int .i64 1, .slice A2 l[k].2.length c2] 50)
      have hout2 := hout.alloc (.cells #[.int .i64 2, .slice A2 l[k].2.length c2] 50)
      clear one
      by_cases hk1 : l[k].1 < 2
      · have hk2 : (l[k].1 == 2) = false := by rw [beq_eq_false_iff_ne]; omega
        rw [show itemOf l[k] = [(1, l[k].2)] by unfold itemOf; rw [if_pos hk1]] at hsn
        have HSN := hide hsn
        clear hsn
        go_wp2_with (at_builtin; refine wpList_app2y rfl (.tmp 17) (.tmp 24) 46 rfl RCell 50 [] w.heap.size B 32 _ Tryd.underlying46 item_info rfl (by decide) (by decide) _ _ rfl hout1 _ _ _ rfl h1 (by simp; omega) (by simp; omega) ?_; intro v5 w5 hv5 hst5 hg5 hob5; have hb5 := (hbel.alloc hsz _).trans (hst5.below (by simp; omega)); have q5 := (hb5.cell (p := ⟨ab, off + k * 2, none⟩) hab).trans q0)
        go_roundw
        case rel => exact ⟨k + 1, by omega, by go_num, by rw [HSN.out]; exact hv5, hb5⟩
        case measure => simp [intOf]; omega
      · by_cases hk3 : l[k].1 = 2
        · have hk2 : (l[k].1 == 2) = true := by simpa using hk3
          rw [show itemOf l[k] = [(2, l[k].2)] by unfold itemOf; rw [if_neg hk1, if_pos hk3]] at hsn
          have HSN := hide hsn
          clear hsn hk3
          go_wp2_with (at_builtin; refine wpList_app2y rfl (.tmp 32) (.tmp 39) 46 rfl RCell 50 [] w.heap.size B 32 _ Tryd.underlying46 item_info rfl (by decide) (by decide) _ _ rfl hout2 _ _ _ rfl h2 (by simp; omega) (by simp; omega) ?_; intro v5 w5 hv5 hst5 hg5 hob5; have hb5 := (hbel.alloc hsz _).trans (hst5.below (by simp; omega)); have q5 := (hb5.cell (p := ⟨ab, off + k * 2, none⟩) hab).trans q0)
          go_roundw
          case rel => exact ⟨k + 1, by omega, by go_num, by rw [HSN.out]; exact hv5, hb5⟩
          case measure => simp [intOf]; omega
        · have hk2 : (l[k].1 == 2) = false := by simpa using hk3
          rw [show itemOf l[k] = [] by unfold itemOf; rw [if_neg hk1, if_neg hk3], List.append_nil] at hsn
          have HSN := hide hsn
          clear hsn hk3
          go_wp2
          go_roundw
          case rel => exact ⟨k + 1, by omega, by go_num, by rw [HSN.out]; exact hout, hbel⟩
          case measure => simp [intOf]; omega
    · have e : l.take k = l := List.take_of_length_le (by omega)
      rw [e] at hout
      go_wp2
      go_ret
      exact ⟨_, rfl, hout, hbel⟩
structure ItsQ (base bb : Nat) (w : World) (v : Value) (ps : List ItP) : Prop where
  row : Own RVal 46 [] base w v (ps.map Prod.fst)
  cells : ∀ p ∈ ps, Own2 RCell 50 [] base bb w p.1 p.2
  apart : ∀ (i j : Nat) (hi : i < ps.length) (hj : j < ps.length), i ≠ j → ∀ g, ps[i].1.ownBlock = some g → ps[j].1.ownBlock ≠ some g
section
variable {base bb : Nat} {w w' : World} {v : Value} {ps : List ItP} {es : List TypeId}
theorem ItsQ.nil_ (base bb : Nat) (w : World) : ItsQ base bb w (.slice none 0 0) [] :=
  ⟨Own.nil_ _ _ _ _ _ (by simp), fun p hp => (by cases hp), fun i j hi => (by simp at hi)⟩
theorem ItsQ.step (h : ItsQ base bb w v ps) (hs : Step base es w w') (h1 : 46 ∉ es) (h2 : 50 ∉ es) : ItsQ base bb w' v ps :=
  ⟨h.row.step hs h1 (by simp), fun p hp => (h.cells p hp).step hs h2 (by simp), h.apart⟩
theorem ItsQ.at_ (h : ItsQ base bb w v ps) {i : Nat} (hi : i < ps.length) : ∃ G cap, v = .slice (some ⟨G, 0, none⟩) ps.length cap ∧ base ≤ G ∧ G < w.heap.size ∧ w.cell? ⟨G, i, none⟩ = some ps[i].1 ∧ w.frozen? ⟨G, i, none⟩ = false := by
  obtain ⟨G, cap, hv, hb, hl, _, hc, hf⟩ := ownv_at h.row (i := i) (by simpa using hi)
  rw [List.length_map] at hv
  rw [List.getElem_map] at hc
  exact ⟨G, cap, hv, hb, hl, hc, hf⟩
/-- One row more, empty yet. -/
theorem ItsQ.more {v' : Value} (h : ItsQ base bb w v ps) (hr : Own RVal 46 [] base w' v' (ps.map Prod.fst ++ [.slice none 0 0])) (hs : Step base [46] w w') (hbb : bb ≤ base) : ItsQ base bb w' v' (ps ++ [((.slice none 0 0 : Value), [])]) := by
  refine ⟨by rw [List.map_append]; exact hr, fun p hp => ?_, fun i j hi hj hne g hg => ?_⟩
  · rcases List.mem_append.1 hp with hp | hp
    · exact (h.cells p hp).step hs (by decide) (by decide)
    · rw [List.mem_singleton] at hp; subst hp; exact Own2.nil_ _ _ _ _ _ _ hbb (by decide)
  · rw [List.length_append, List.length_singleton] at hi hj
    by_cases hi2 : i < ps.length
    · rw [List.getElem_append_left hi2] at hg
      by_cases hj2 : j < ps.length
      · rw [List.getElem_append_left hj2]
        exact h.apart i j hi2 hj2 hne g hg
      · rw [List.getElem_append_right (by omega)]
        simp [Value.ownBlock]
    · rw [List.getElem_append_right (by omega)] at hg
      simp [Value.ownBlock] at hg
/-- A row stays where another one turns. -/
theorem its_stay2 {s x : Value} {l : List ItemV} (h : Own2 RCell 50 [] base bb w x l) (hg : w.grownBy w' s.ownBlock) (hb : ∀ g, s.ownBlock = some g → base ≤ g ∧ Bears [50] w g) (ha : ∀ g, s.ownBlock = some g → x.ownBlock ≠ some g) : Own2 RCell 50 [] base bb w' x l := by
  cases hs : s.ownBlock with
  | none =>
    rw [hs] at hg
    exact h.step (es := []) (Step.of_grown (base := base) hg (fun k hk => by cases hk)) (by simp) (by simp)
  | some g =>
    rw [hs] at hg
    obtain ⟨hbg, cs, t, fz, hh, ht⟩ := hb g hs
    obtain ⟨hbb, hT, xs, hown, hels⟩ := h
    have hst : Step bb [50] w w' := Step.of_grown hg (fun k hk => by injection hk with hk; subst hk; exact ⟨Nat.le_trans hbb hbg, cs, t, fz, hh, ht⟩)
    refine ⟨hbb, hT, xs, ⟨hown.1, ?_⟩, hels.mono (Keep.step hst (by decide))⟩
    rcases hown.2 with hn | ⟨g', cap, cur, hpe, h1, h2, rest⟩
    · exact .inl hn
    · refine .inr ⟨g', cap, cur, hpe, h1, ?_, rest⟩
      rw [hg.block g' (Array.getElem?_eq_some_iff.1 h2).1 (fun e => ha g hs (by rw [hpe]; exact e))]
      exact h2
/-- One row grown, and laid where it was. -/
theorem ItsQ.grow {v' : Value} {l' : List ItemV} {i G n cap : Nat} (h : ItsQ base bb w v ps) (hi : i < ps.length) (he : v = .slice (some ⟨G, 0, none⟩) n cap) (hv : Own2 RCell 50 [] base bb w' v' l') (hst : Step base [50] w w') (hg : w.grownBy w' ps[i].1.ownBlock) (ho : v'.ownBlock = ps[i].1.ownBlock ∨ v'.ownBlock = some w.heap.size) :
    ItsQ base bb (w'.setCell ⟨G, i, none⟩ v') v (ps.set i (v', l')) ∧ Step base [50, 46] w (w'.setCell ⟨G, i, none⟩ v') := by
  subst he
  have hrow := h.row.flat_step RVal.flat hst (by decide)
  have ho1 : v'.oneCell' = true := by obtain ⟨A, c, rfl, _⟩ := hv.slc.open_; rfl
  obtain ⟨hr2, hs2⟩ := ownv_set hrow (i := i) (by simpa using hi) ho1
  have hbd : ∀ g, ps[i].1.ownBlock = some g → base ≤ g ∧ Bears [50] w g := fun g hgg => by
    obtain ⟨_, _, xs, hown, _⟩ := h.cells ps[i] (List.getElem_mem _)
    exact own_bears hown g hgg
  refine ⟨⟨by rw [List.map_set]; exact hr2, fun p hp => ?_, fun a b ha hb hne g hgg => ?_⟩, (hst.mono (Nat.le_refl _) (by decide)).trans (hs2.mono (Nat.le_refl _) (by decide))⟩
  · obtain ⟨j, hj, rfl⟩ := List.getElem_of_mem hp
    rw [List.length_set] at hj
    by_cases hij : i = j
    · subst hij
      rw [List.getElem_set_self]
      exact hv.step hs2 (by decide) (by decide)
    · rw [List.getElem_set_ne hij]
      exact (its_stay2 (h.cells ps[j] (List.getElem_mem _)) hg hbd (h.apart i j hi hj hij)).step hs2 (by decide) (by decide)
  · rw [List.length_set] at ha hb
    have hlt : ∀ j (hj : j < ps.length) g, ps[j].1.ownBlock = some g → g < w.heap.size := fun j hj g hgg => ((h.cells ps[j] (List.getElem_mem _)).lt_ g hgg).2
    by_cases hia : i = a
    · subst hia
      rw [List.getElem_set_self] at hgg
      rw [List.getElem_set_ne hne]
      rcases ho with ho | ho
      · exact h.apart i b hi hb hne g (ho.symm.trans hgg)
      · intro e
        have := hlt b hb g e
        simp only at hgg
        rw [ho] at hgg
        injection hgg with hgg
        omega
    · rw [List.getElem_set_ne hia] at hgg
      by_cases hib : i = b
      · subst hib
        rw [List.getElem_set_self]
        rcases ho with ho | ho
        · simp only; rw [ho]; exact h.apart a i ha hi hne g hgg
        · simp only; rw [ho]
          intro e
          injection e with e
          have := hlt a ha g hgg
          omega
      · rw [List.getElem_set_ne hib]
        exact h.apart a b ha hb hne g hgg
end
end Go.Proofs.YtbkenfljknpjgaaDoor

namespace Go.Proofs.YtbkenfljknpjgaaDoor
open Go.RowKit
set_option linter.unusedVariables false
set_option linter.unusedSimpArgs false

theorem lonS_flag {l : List LineV} {k : Nat} (h : k + 1 < l.length) : (lonS l (k + 1)).2 = l[k].2 := by
  rw [lonS_succ (by omega)]
  simp only [lonB]
  rw [decide_eq_true h, Bool.and_true]
set_option maxRecDepth 8000 in
set_option maxHeartbeats 8000000 in
theorem rLong_ok (So : Nat → Prop) (x : Value) (l : List LineV) (w : World) (hx : Slc RLine So (fun b => b < w.heap.size) w x l) (hll : l.length ≤ 100000) (hall : ∀ p ∈ l, p.1.length ≤ 100000 ∧ soundB p.1 = true) :
    Calls Tryd.prog 34 #[x] w fun e w' => ∃ s ps, e = .returned s ∧ ItsQ w.heap.size w.heap.size w' s ps ∧ ps.map Prod.snd = longF l ∧ Below w.heap.size w w' := by
  obtain ⟨A, c, rfl, _, _, _⟩ := hx.open_
  have HALL := hide hall
  have HLN := hide (lon_ok l hall)
  clear hall
  go_enter Tryd.func34, Tryd.ntmps34
  go_wp2_with fail
  go_loopw [3, 4] (fun sv iv wr => ∃ k : Nat, k ≤ l.length ∧ iv = .int .i64 k ∧ ∃ ps : List ItP, ItsQ w.heap.size w.heap.size wr sv ps ∧ ps.map Prod.snd = (lonS l k).1 ∧ Below w.heap.size w wr) (fun _ iv _ => l.length - (intOf iv).toNat)
  case atStart => exact ⟨0, Nat.zero_le _, rfl, [], ItsQ.nil_ _ _ _, rfl, Below.refl _ _⟩
  case round =>
    obtain ⟨k, hk, rfl, ps, hits, hps, hbr⟩ := hrel
    have hzr := hbr.size
    by_cases hlt : k < l.length
    · obtain ⟨ab, off, v, rfl, _, q00, q01, hv⟩ := line_at hx.slb hlt
      have hab := World.block_lt_of_cell? _ _ q00
      simp only at hab
      have hpv : 0 < k → ∃ a1, w.cell? ⟨ab, off + (k - 1) * 2 + 1, none⟩ = some (.bool a1) ∧ (lonS l k).2 = a1 := fun h0 => by
        obtain ⟨j, rfl⟩ : ∃ j, k = j + 1 := ⟨k - 1, by omega⟩
        obtain ⟨ab2, off2, v2, e2, _, _, p01, _⟩ := line_at hx.slb (k := j) (by omega)
        injection e2 with e2
        injection e2 with e2 e3
        subst e2; subst e3
        exact ⟨_, p01, lonS_flag hlt⟩
      have HPV := hide hpv
      have HQ0 := hide q00
      have HQ1 := hide q01
      have hki : (k : Int) < l.length := by omega
      obtain ⟨hl1, hl2⟩ := HALL.out l[k] (List.getElem_mem _)
      have hsc := lonS_succ hlt
      obtain ⟨hl3, hl4, hl5⟩ := HLN.out k hk
      obtain ⟨hl6, hl7⟩ := lonO_pos _ hl4
      have hl8 := lonO_all hl5
      have hl0 : (lonS l 0).2 = false := rfl
      obtain ⟨pk, hpk⟩ : ∃ pk, l[k] = pk := ⟨_, rfl⟩
      obtain ⟨cl, wrp⟩ := pk
      rw [hpk] at HQ1 hl1 hl2 hsc hv
      simp only at HQ1 hl1 hl2 hsc hv
      obtain ⟨A', c', rfl, hcc, _, _⟩ := hv.open_
      obtain ⟨bn, hbn⟩ : ∃ bn, lonB l k (cl, wrp) = bn := ⟨_, rfl⟩
      have hbne : (wrp && decide (k + 1 < l.length)) = bn := hbn
      rw [hbn] at hsc
      obtain ⟨st, hst⟩ : ∃ st, lonS l k = st := ⟨_, rfl⟩
      have hbg0 : k = 0 → st.2 = false := fun h => by subst h; rw [← hst]; rfl
      rw [hst] at hsc hl3 hl4 hl5 hl6 hl7 hl8 hps HPV
      obtain ⟨O, hO⟩ : ∃ O, lonO st = O := ⟨_, rfl⟩
      rw [hO] at hsc hl6 hl7 hl8
      obtain ⟨o, bg⟩ := st
      have him := Nat.le_trans (itemsF_le hl2) hl1
      have HBG0 := hide hbg0
      have HSC := hide hsc
      have HPS := hide hps
      have HO := hide hO
      have HO8 := hide hl8
      have HBN := hide hbne
      have HS2 := hide hl2
      simp only at hl3 hl7
      clear hsc hps hO hl8 hbne hbn hst hpk hl4 hl5 q00 q01 hpv hbg0 hl0 hl2
      go_upto_region 5 with fail
      go_cut [25] from 9 to 95 (fun s wx => s = .bool (!bg) ∧ wr = wx)
      case first =>
        rcases Nat.eq_zero_or_pos k with hk0 | hk0
        · have hb0 := HBG0.out hk0
          simp only at hb0
          subst hk0
          subst hb0
          clear HPV HBG0
          go_wp2
          go_meet
          exact ⟨rfl, rfl⟩
        · obtain ⟨a1, p01, e1⟩ := HPV.out hk0
          simp only at e1
          subst e1
          obtain ⟨j, hj⟩ : ∃ j, k = j + 1 := ⟨k - 1, by omega⟩
          have e2 : ((k : Nat) : Int) - 1 = j := by omega
          have e3 : ¬ ((k : Nat) : Int) = 0 := by omega
          have e4 : j < l.length := by omega
          rw [show k - 1 = j by omega] at p01
          have p1 := (hbr.cell (p := ⟨ab, off + j * 2 + 1, none⟩) hab).trans p01
          have e5 : (((k : Nat) : Int) == 0) = false := by rw [beq_eq_false_iff_ne]; omega
          have E5 := hide e5
          clear HPV HBG0 p01 hj e5
          go_wp2
          go_meet
          exact ⟨by rw [E5.out]; rfl, rfl⟩
      case rest =>
        obtain ⟨rfl, rfl⟩ := hcut
        clear HPV HBG0
        go_upto_if 25 with fail
        go_cut [3] from 9 to 95 (fun sv wx => ∃ ps2 : List ItP, ItsQ w.heap.size w.heap.size wx sv ps2 ∧ ps2.map Prod.snd = O ∧ Below w.heap.size w wx)
        case first =>
          have HIT := hide hits
          clear hits
          cases bg with
          | true =>
            have HOO : Hid (o = O) := hide (by rw [← HO.out]; rfl)
            go_wp2
            go_meet
            exact ⟨ps, HIT.out, by rw [HPS.out]; exact HOO.out, hbr⟩
          | false =>
            have HOO : Hid (o ++ [[]] = O) := hide (by rw [← HO.out]; rfl)
            have hpl : ps.length = o.length := by
              have := congrArg List.length HPS.out
              rwa [List.length_map] at this
            have hits4 := HIT.out.step (Step.alloc1 w.heap.size [] wr (.cells #[.slice none 0 0] 46)) (by simp) (by simp)
            have hb4 := hbr.alloc hzr (.cells #[.slice none 0 0] 46)
            have hone := Slc.lit1 (R := RVal) (Si := fun _ => False) (Si' := fun _ => False) (w := wr) (x := (.slice none 0 0 : Value)) (u := [.slice none 0 0]) 46 ⟨rfl, rfl⟩ (fun _ _ h => h.elim)
            have HIT4 := hide hits4
            clear hits4
            go_wp2_with (at_builtin; refine wpList_appg rfl (.tmp 26) (.tmp 27) 55 rfl RVal 46 [] w.heap.size 24 _ Tryd.underlying55 its_info rfl (by decide) (by decide) _ _ rfl HIT4.out.row _ (fun _ => False) _ _ rfl hone (fun _ h => False.elim h) (by simp; omega) hb4.size ?_; intro v5 w5 hv5 hst5 hg5 ho5; have hits5 := hide (HIT4.out.more hv5 hst5 (Nat.le_refl _)); have hb5 := hide (hb4.trans (hst5.below hb4.size)); clear hv5 hst5 hg5 ho5)
            go_meet
            exact ⟨ps ++ [((.slice none 0 0 : Value), [])], hits5.out, by rw [List.map_append, HPS.out]; exact HOO.out, hb5.out⟩
        case rest =>
          clear hits hbr hzr HPS
          obtain ⟨ps2, hits5, hps5, hb5⟩ := hcut
          have hz5 := hb5.size
          have q1 := (hb5.cell (p := ⟨ab, off + k * 2 + 1, none⟩) hab).trans HQ1.out
          have q0 := (hb5.cell (p := ⟨ab, off + k * 2, none⟩) hab).trans HQ0.out
          go_upto_region 7 with fail
          go_cut [5] from 9 to 95 (fun s wx => s = .bool bn ∧ wc = wx)
          case first =>
            cases wrp with
            | false =>
              have E : Hid (false = bn) := hide (by rw [← HBN.out]; rfl)
              go_wp2
              go_meet
              exact ⟨bool_eq E.out, rfl⟩
            | true =>
              by_cases hkl : k + 1 < l.length
              · have hkl2 : (k : Int) + 1 < l.length := by omega
                have E : Hid (true = bn) := hide (by rw [← HBN.out, decide_eq_true hkl]; rfl)
                go_wp2
                go_meet
                exact ⟨bool_eq E.out, rfl⟩
              · have hkl2 : ¬ (k : Int) + 1 < l.length := by omega
                have E : Hid (false = bn) := hide (by rw [← HBN.out, decide_eq_false hkl]; rfl)
                go_wp2
                go_meet
                exact ⟨bool_eq E.out, rfl⟩
          case rest =>
            obtain ⟨rfl, rfl⟩ := hcut
            have hat : ∀ n, n < cl.length → ∃ cb co, A' = some ⟨cb, co, none⟩ ∧ wc.cell? ⟨cb, co + n * 2, none⟩ = some (.int .i64 (cl.getD n (0, [])).1) := fun n hn => by
              obtain ⟨cb, co, v2, e, _, p0, _, _, _⟩ := cell_at hv.slb hn
              have hcb := World.block_lt_of_cell? _ _ p0
              simp only at hcb
              refine ⟨cb, co, e, (hb5.cell (p := ⟨cb, co + n * 2, none⟩) hcb).trans ?_⟩
              rw [p0, List.getD_eq_getElem?_getD, List.getElem?_eq_getElem hn]
              rfl
            have HAT := hide hat
            have HV := hide hv
            obtain ⟨N, hN⟩ : ∃ N, kut bn cl = N := ⟨_, rfl⟩
            have hNl : N ≤ cl.length := by rw [← hN]; exact kut_le _ _
            have HN := hide hN
            have HIT5 := hide hits5
            have HPS5 := hide hps5
            clear hat hv hN hits5 hps5 q1
            go_upto_region 10 with fail
            go_cut [61] from 9 to 95 (fun s wx => (∃ q, s = .bool q ∧ (q = true → bn = true ∧ cl.length = N + 1) ∧ (q = false → bn = true → cl.length = N)) ∧ wc = wx)
            case first =>
              cases bn with
              | false =>
                go_wp2
                go_meet
                exact ⟨⟨false, rfl, (fun h => by cases h), fun _ h => by cases h⟩, rfl⟩
              | true =>
                rcases Nat.eq_zero_or_pos cl.length with h0 | h0
                · have hN0 : cl.length = N := by rw [← HN.out, h0]; unfold kut; rw [if_pos rfl, h0]; rfl
                  have HN0 := hide hN0
                  have hneg : ¬ (0 : Int) < cl.length := by omega
                  clear hN0 h0
                  go_wp2
                  go_meet
                  exact ⟨⟨false, rfl, (fun h => by cases h), fun _ _ => HN0.out⟩, rfl⟩
                · obtain ⟨n, hn⟩ : ∃ n, cl.length = n + 1 := ⟨cl.length - 1, by omega⟩
                  obtain ⟨cb, co, rfl, p0⟩ := HAT.out n (by omega)
                  have hN1 : kutOn cl (n + 1) = N := by rw [← HN.out]; unfold kut; rw [if_pos rfl, hn]
                  rw [kutOn] at hN1
                  have e1 : (cl.length : Int) - 1 = n := by omega
                  have hnn : n < cl.length := by omega
                  have hpos : (0 : Int) < cl.length := by omega
                  have H0 := hide hn
                  obtain ⟨K, hK⟩ : ∃ K, (cl.getD n (0, [])).1 = K := ⟨_, rfl⟩
                  rw [hK] at p0 hN1
                  have HN1 := hide hN1
                  clear hN1 hK HAT hn
                  by_cases hk3 : K = 0
                  · subst hk3
                    have HE : Hid (cl.length = N + 1) := hide (by have := HN1.out; rw [if_pos rfl] at this; rw [H0.out, this])
                    go_wp2
                    go_meet
                    exact ⟨⟨true, rfl, (fun _ => ⟨(by first | rfl | trivial), HE.out⟩), fun h => by cases h⟩, rfl⟩
                  · have HE : Hid (cl.length = N) := hide (by have := HN1.out; rw [if_neg hk3] at this; rw [H0.out, this])
                    have hkb : (K == 0) = false := by simpa using hk3
                    go_wp2
                    go_meet
                    exact ⟨⟨false, by first | rfl | rw [hkb], (fun h => by cases h), fun _ _ => HE.out⟩, rfl⟩
            case rest =>
            obtain ⟨⟨cq, rfl, hq1, hq2⟩, rfl⟩ := hcut
            have HQ1 := hide hq1
            have HQ2 := hide hq2
            clear hq1 hq2
            go_upto_if 61 with fail
            go_cut [7] from 9 to 95 (fun s wx => (∃ m : Nat, m ≤ cl.length ∧ s = .int .i64 m ∧ (bn = true → m = N) ∧ (bn = false → m = cl.length)) ∧ wc = wx)
            case first =>
              cases cq with
              | true =>
                obtain ⟨hb1, hcn⟩ := HQ1.out rfl
                have e1 : (cl.length : Int) - 1 = N := by omega
                have E1 := hide e1
                have HB := hide hb1
                clear hb1 hcn e1
                go_wp2
                go_meet
                exact ⟨⟨N, hNl, by rw [E1.out], (fun _ => rfl), fun h => by rw [HB.out] at h; cases h⟩, rfl⟩
              | false =>
                go_wp2
                go_meet
                exact ⟨⟨cl.length, Nat.le_refl _, rfl, HQ2.out (by first | rfl | trivial), fun _ => rfl⟩, rfl⟩
            case rest =>
            obtain ⟨⟨m1, hm1, rfl, hA1, hB1⟩, rfl⟩ := hcut
            have HA1 := hide hA1
            have HB1 := hide hB1
            clear hA1 hB1 HQ1 HQ2
            go_upto_block 2 with fail
            go_cut [7] from 9 to 95 (fun s wx => s = .int .i64 (N : Int) ∧ wc = wx)
            case first =>
              go_wp2_with fail
              go_loopw [7] (fun s wx => ∃ m : Nat, m ≤ cl.length ∧ s = .int .i64 m ∧ (bn = true → m = N) ∧ (bn = false → kutN cl m = N) ∧ wc = wx) (fun s _ => (intOf s).toNat)
              case atStart => exact ⟨m1, hm1, rfl, HA1.out, fun h => by rw [HB1.out h, ← HN.out, h]; rfl, rfl⟩
              case round =>
                obtain ⟨m, hm, rfl, hA, hB, rfl⟩ := hrel
                have HA := hide hA
                have HB := hide hB
                clear hA hB HA1 HB1
                cases bn with
                | true =>
                  have HMN := hide (HA.out rfl)
                  go_wp2
                  go_meet
                  exact ⟨by rw [HMN.out], rfl⟩
                | false =>
                  have hB := HB.out rfl
                  rcases Nat.eq_zero_or_pos m with h0 | h0
                  · subst h0
                    have HMN : Hid (0 = N) := hide hB
                    clear hB
                    go_wp2
                    go_meet
                    exact ⟨by rw [← HMN.out]; rfl, rfl⟩
                  · obtain ⟨n, hn⟩ : ∃ n, m = n + 1 := ⟨m - 1, by omega⟩
                    subst hn
                    obtain ⟨cb, co, rfl, p0⟩ := HAT.out n (by omega)
                    rw [kutN] at hB
                    have e1 : ((n + 1 : Nat) : Int) - 1 = n := by omega
                    have hnn : n < cl.length := by omega
                    have hpos : (0 : Int) < ((n + 1 : Nat) : Int) := by omega
                    obtain ⟨K, hK⟩ : ∃ K, (cl.getD n (0, [])).1 = K := ⟨_, rfl⟩
                    rw [hK] at p0 hB
                    have HN1 := hide hB
                    clear hB hK HAT
                    by_cases hk3 : K = 0
                    · subst hk3
                      have HE : Hid (kutN cl n = N) := hide (by have := HN1.out; rwa [if_pos rfl] at this)
                      go_wp2
                      go_roundw
                      case rel => exact ⟨n, by omega, by go_num, (fun h => by cases h), (fun _ => HE.out), (by first | rfl | trivial)⟩
                      case measure => first | (simp [intOf]; done) | (simp [intOf]; omega)
                    · have HE : Hid (n + 1 = N) := hide (by have := HN1.out; rwa [if_neg hk3] at this)
                      have hkb : (K == 0) = false := by simpa using hk3
                      go_wp2
                      go_meet
                      exact ⟨by rw [← HE.out]; exact int_eq (by omega), rfl⟩
            case rest =>
            obtain ⟨rfl, rfl⟩ := hcut
            have hps5 := HPS5.out
            have hits5 := HIT5.out
            have hp5 : ps2.length = O.length := by rw [← hps5, List.length_map]
            obtain ⟨j, hj⟩ : ∃ j, ps2.length = j + 1 := ⟨ps2.length - 1, by omega⟩
            have hjl : j < ps2.length := by omega
            have hkc := kut_cnt bn cl HS2.out
            rw [HN.out] at hkc
            have HP2 := hide (fun v => lonP_set hps5 hjl hj v (itemsF (cl.take N)))
            have him2 : (itemsF (cl.take N)).length ≤ 100000 := by
              rw [hkc]; unfold cntF; rw [List.length_take]; omega
            have hrl := HO8.out ps2[j].2 (by rw [← hps5]; exact List.mem_map.2 ⟨_, List.getElem_mem _, rfl⟩)
            have hrl2 : ps2[j].2.length ≤ 10000000000 := by
              have : k * 100000 ≤ 100000 * 100000 := Nat.mul_le_mul_right _ (by omega)
              omega
            obtain ⟨G, capG, hve, hGb, hGl, hGc, hGf⟩ := hits5.at_ hjl
            have hrj := hits5.cells ps2[j] (List.getElem_mem _)
            obtain ⟨Aj, cj, hje, ju1, ju2, ju3⟩ := hrj.slc.open_
            clear ju1 ju2 ju3
            rw [hje] at hGc
            rw [hj] at hve
            subst hve
            have HJE := hide hje
            have HIT5 := hide hits5
            obtain ⟨rj, hrje⟩ : ∃ rj, ps2[j].2 = rj := ⟨_, rfl⟩
            rw [hje] at hrj
            rw [hrje] at hrj hGc hrl2 HP2 HJE
            have hjk : j ≤ 200000 := by omega
            have hji : (j : Int) < (j : Int) + 1 := by omega
            have hvt := HV.out.front hNl
            have HRI := hide (rItems2_ok _ (.slice A' N c') (cl.take N) w.heap.size wc.drew hz5 ((hvt.mono (Keep.below hb5) (Keep.below hb5)).mono (keep_dr _ _) (keep_dr _ _)) (by rw [List.length_take]; omega))
            have HKC := hide hkc
            have hNi : N ≤ c' := by omega
            clear hits5 hps5 hrl hje hrje hGf hkc hvt q0
            go_upto_region 15 with fail
            refine wp_region_late (S := fun w' => w'.cell? ⟨G, j, none⟩ = some (.slice Aj rj.length cj)) [12] (by kernel_rfl) (by exact hGc) (fun hHeld => ?_)
            refine wpAnyT_take (i := 0) (oi := ?_) (v := ?_) ?_ (by kernel_rfl) (by kernel_rfl) (by kernel_rfl) (by kernel_rfl) (by kernel_rfl) ?_ (Or.inl ⟨?_, ?_⟩) (by assumption) ?_
            rotate_left 2
            · (simp only [List.getElem?_toArray, List.getElem?_cons_succ, List.getElem?_cons_zero]; rfl)
            rotate_left 1
            · rfl
            · (intro w hSw; (try dsimp only at hSw); go_simp; try with_reducible rfl)
            rotate_left 1
            · exact fun _ _ _ h => h
            try simp only [Act.put, List.setIfInBounds_toArray, List.set_cons_zero, List.set_cons_succ]
            refine wpAnyT_take (i := 1) (oi := ?_) (v := ?_) ?_ (by kernel_rfl) (by kernel_rfl) (by kernel_rfl) (by kernel_rfl) (by kernel_rfl) ?_ (Or.inl ⟨?_, ?_⟩) (by assumption) ?_
            rotate_left 2
            · (simp only [List.getElem?_toArray, List.getElem?_cons_succ, List.getElem?_cons_zero]; rfl)
            rotate_left 1
            · rfl
            · (intro w hSw; (try dsimp only at hSw); go_simp; try with_reducible rfl)
            rotate_left 1
            · exact fun _ _ _ h => h
            try simp only [Act.put, List.setIfInBounds_toArray, List.set_cons_zero, List.set_cons_succ]
            refine wpAnyT_take (i := 2) (oi := ?_) (v := ?_) ?_ (by kernel_rfl) (by kernel_rfl) (by kernel_rfl) (by kernel_rfl) (by kernel_rfl) ?_ (Or.inl ⟨?_, ?_⟩) (by assumption) ?_
            rotate_left 2
            · (simp only [List.getElem?_toArray, List.getElem?_cons_succ, List.getElem?_cons_zero]; rfl)
            rotate_left 1
            · rfl
            · (intro w hSw; (try dsimp only at hSw); go_simp; try with_reducible rfl)
            rotate_left 1
            · exact fun _ _ _ h => h
            try simp only [Act.put, List.setIfInBounds_toArray, List.set_cons_zero, List.set_cons_succ]
            refine wpAnyT_take (i := 3) (oi := ?_) (v := ?_) ?_ (by kernel_rfl) (by kernel_rfl) (by kernel_rfl) (by kernel_rfl) (by kernel_rfl) ?_ (Or.inl ⟨?_, ?_⟩) (by assumption) ?_
            rotate_left 2
            · (simp only [List.getElem?_toArray, List.getElem?_cons_succ, List.getElem?_cons_zero]; rfl)
            rotate_left 1
            · rfl
            · (intro w hSw; (try dsimp only at hSw); go_simp; try with_reducible rfl)
            rotate_left 1
            · exact fun _ _ _ h => h
            try simp only [Act.put, List.setIfInBounds_toArray, List.set_cons_zero, List.set_cons_succ]
            refine wpAnyT_take (i := 4) (oi := ?_) (v := ?_) ?_ (by kernel_rfl) (by kernel_rfl) (by kernel_rfl) (by kernel_rfl) (by kernel_rfl) ?_ (Or.inl ⟨?_, ?_⟩) (by assumption) ?_
            rotate_left 2
            · (simp only [List.getElem?_toArray, List.getElem?_cons_succ, List.getElem?_cons_zero]; rfl)
            rotate_left 1
            · rfl
            · (intro w hSw; (try dsimp only at hSw); go_simp; try with_reducible rfl)
            rotate_left 1
            · exact fun _ _ _ h => h
            try simp only [Act.put, List.setIfInBounds_toArray, List.set_cons_zero, List.set_cons_succ]
            refine wpAnyT_take (i := 5) (oi := ?_) (v := ?_) ?_ (by kernel_rfl) (by kernel_rfl) (by kernel_rfl) (by kernel_rfl) (by kernel_rfl) ?_ (Or.inl ⟨?_, ?_⟩) (by assumption) ?_
            rotate_left 2
            · (simp only [List.getElem?_toArray, List.getElem?_cons_succ, List.getElem?_cons_zero]; rfl)
            rotate_left 1
            · rfl
            · (intro w hSw; (try dsimp only at hSw); go_simp; try with_reducible rfl)
            rotate_left 1
            · exact fun _ _ _ h => h
            try simp only [Act.put, List.setIfInBounds_toArray, List.set_cons_zero, List.set_cons_succ]
            refine wpAnyT_take (i := 6) (oi := ?_) (v := ?_) ?_ (by kernel_rfl) (by kernel_rfl) (by kernel_rfl) (by kernel_rfl) (by kernel_rfl) ?_ (Or.inl ⟨?_, ?_⟩) (by assumption) ?_
            rotate_left 2
            · (simp only [List.getElem?_toArray, List.getElem?_cons_succ, List.getElem?_cons_zero]; rfl)
            rotate_left 1
            · rfl
            · (intro w hSw; (try dsimp only at hSw); go_simp; try with_reducible rfl)
            rotate_left 1
            · exact fun _ _ _ h => h
            try simp only [Act.put, List.setIfInBounds_toArray, List.set_cons_zero, List.set_cons_succ]
            refine wpAnyT_take (i := 7) (oi := ?_) (v := ?_) ?_ (by kernel_rfl) (by kernel_rfl) (by kernel_rfl) (by kernel_rfl) (by kernel_rfl) ?_ (Or.inl ⟨?_, ?_⟩) (by assumption) ?_
            rotate_left 2
            · (simp only [List.getElem?_toArray, List.getElem?_cons_succ, List.getElem?_cons_zero]; rfl)
            rotate_left 1
            · rfl
            · (intro w hSw; (try dsimp only at hSw); go_simp; try with_reducible rfl)
            rotate_left 1
            · exact fun _ _ _ h => h
            try simp only [Act.put, List.setIfInBounds_toArray, List.set_cons_zero, List.set_cons_succ]
            refine wpAnyT_take (i := 8) (oi := ?_) (v := ?_) ?_ (by kernel_rfl) (by kernel_rfl) (by kernel_rfl) (by kernel_rfl) (by kernel_rfl) ?_ (Or.inl ⟨?_, ?_⟩) (by assumption) ?_
            rotate_left 2
            · (simp only [List.getElem?_toArray, List.getElem?_cons_succ, List.getElem?_cons_zero]; rfl)
            rotate_left 1
            · rfl
            · (intro w hSw; (try dsimp only at hSw); go_simp; try with_reducible rfl)
            rotate_left 1
            · exact fun _ _ _ h => h
            try simp only [Act.put, List.setIfInBounds_toArray, List.set_cons_zero, List.set_cons_succ]
            refine wpAnyT_ready (rs := [9]) (by kernel_rfl) (by simp) ?_
            refine AllReadyT.cons (o := ?_) ?_ (fun K hK => ?_) AllReadyT.nil
            rotate_left 1
            · (simp only [List.getElem?_toArray, List.getElem?_cons_succ, List.getElem?_cons_zero]; rfl)
            go_simp
            go_at_call 57; refine HRI.out.mono ?_; rintro e w6 ⟨sq, rfl, hsq, hc6⟩; have hb6 := (below_drw hb5).trans (hc6.mono hz5); have hz6 := hb6.size; have hits6 := hide ((HIT5.out.step ((Step.refl w.heap.size [] wc).drew) (by simp) (by simp)).step (es := []) (Step.of_below hc6) (by simp) (by simp)); have hrj6 := hrj.dr.below hc6; have s0 := (hc6.cell (p := ⟨G, j, none⟩) hGl).trans hHeld; clear hc6 hrj
            refine hK.out _ _ ?_ (fun hHeld => ?_)
            · ((try dsimp only); go_keep)
            clear hK K
            try simp only [Act.put, List.setIfInBounds_toArray, List.set_cons_zero, List.set_cons_succ]
            refine wpAnyT_ready (rs := [10]) (by kernel_rfl) (by simp) ?_
            refine AllReadyT.cons (o := ?_) ?_ (fun K hK => ?_) AllReadyT.nil
            rotate_left 1
            · (simp only [List.getElem?_toArray, List.getElem?_cons_succ, List.getElem?_cons_zero]; rfl)
            refine step_app2y rfl (.tmp 89) (.tmp 93) 46 rfl RCell 50 [] w.heap.size w.heap.size 32 _ Tryd.underlying46 item_info rfl (by decide) (by decide) _ _ rfl hrj6 _ _ _ rfl hsq (by omega) hz6 ?_; intro v7 w7 hv7 hst7 hg7 ho7; obtain ⟨A7, n7, c7, rfl⟩ : ∃ A7 n7 c7, v7 = .slice A7 n7 c7 := (by obtain ⟨A, c, e, _⟩ := hv7.slc.open_; exact ⟨A, _, c, e⟩); obtain ⟨G2, cap2, e2, _, _, _, s0, f0⟩ := ownv_at (hits6.out.row.flat_step RVal.flat hst7 (by decide)) (i := j) (by rw [List.length_map]; exact hjl); injection e2 with e2 e3 e4; clear e3 e4; injection e2 with e2; injection e2 with e2; subst e2; rw [List.getElem_map, HJE.out] at s0; obtain ⟨hits9x, hst9⟩ := hits6.out.grow hjl rfl hv7 hst7 (by rw [HJE.out]; exact hg7) (by rw [HJE.out]; exact ho7); have hits9 := hide hits9x; have hb9 := hide (hb6.trans (hst9.below hz6)); clear hv7 hst7 hg7 ho7 hrj6 hsq hits6 hst9 hits9x
            refine hK.out _ _ ?_ (fun hHeld => ?_)
            · ((try dsimp only); go_keep)
            clear hK K
            try simp only [Act.put, List.setIfInBounds_toArray, List.set_cons_zero, List.set_cons_succ]
            refine wpAnyT_take (i := 11) (oi := ?_) (v := ?_) ?_ (by kernel_rfl) (by kernel_rfl) (by kernel_rfl) (by kernel_rfl) (by kernel_rfl) ?_ (Or.inl ⟨?_, ?_⟩) (by assumption) ?_
            rotate_left 2
            · (simp only [List.getElem?_toArray, List.getElem?_cons_succ, List.getElem?_cons_zero]; rfl)
            rotate_left 1
            · rfl
            · (intro w hSw; (try dsimp only at hSw); go_simp; try with_reducible rfl)
            rotate_left 1
            · exact fun _ _ _ h => h
            try simp only [Act.put, List.setIfInBounds_toArray, List.set_cons_zero, List.set_cons_succ]
            refine wpAnyT_ready (rs := [12]) (by kernel_rfl) (by simp) ?_
            refine AllReadyT.consL (o := ?_) ?_ (by kernel_rfl) (fun K hK => ?_) AllReadyT.nil
            rotate_left 1
            · (simp only [List.getElem?_toArray, List.getElem?_cons_succ, List.getElem?_cons_zero]; rfl)
            go_simp
            refine hK.out _ _ ?_
            clear hK K
            try simp only [Act.put, List.setIfInBounds_toArray, List.set_cons_zero, List.set_cons_succ]
            refine wpAnyT_done (by kernel_rfl) ?_ _
            clear hHeld s0 f0
            go_wp2
            go_roundw
            case rel => exact ⟨k + 1, by omega, by go_num, _, hits9.out, by rw [HSC.out, ← HKC.out]; exact HP2.out _, hb9.out⟩
            case measure => simp [intOf]; omega
    · obtain rfl : k = l.length := by omega
      have HPS := hide hps
      clear hps
      go_wp2
      go_ret
      exact ⟨_, ps, rfl, hits, HPS.out, hbr⟩
end Go.Proofs.YtbkenfljknpjgaaDoor

namespace Go.Proofs.YtbkenfljknpjgaaDoor
open Go.RowKit
set_option linter.unusedVariables false
set_option linter.unusedSimpArgs false

def cellsN (l : List LineV) : Nat := (l.map fun p => p.1.length).sum
theorem cellsN_snoc {l : List LineV} {k : Nat} (h : k < l.length) : cellsN (l.take (k + 1)) = cellsN (l.take k) + l[k].1.length := by
  unfold cellsN
  rw [take_snoc' l k h, List.map_append, List.sum_append]
  simp
theorem cellsN_mem : ∀ {l : List LineV} {p : LineV}, p ∈ l → p.1.length ≤ cellsN l
  | q :: l, p, h => by
    have e : cellsN (q :: l) = q.1.length + cellsN l := by simp [cellsN]
    rcases List.mem_cons.1 h with rfl | h
    · omega
    · have := cellsN_mem h; omega
theorem right_bad : ∀ (x : List ItemV) (k : Nat), (∀ i ∈ x, rightI i = true) → badFrom x k = none
  | [], _, _ => rfl
  | i :: x, k, h => by
    rw [badFrom, if_pos (h i (List.mem_cons.2 (.inl rfl)))]
    exact right_bad x (k + 1) (fun j hj => h j (List.mem_cons.2 (.inr hj)))
theorem first_bad : ∀ (l : List LineV), (∀ p ∈ l, soundB p.1 = true) ∨ ∃ K, ∃ h : K < l.length, (∀ j (hj : j < l.length), j < K → soundB l[j].1 = true) ∧ soundB l[K].1 = false
  | [] => .inl (fun p hp => by cases hp)
  | q :: l => by
    cases hq : soundB q.1 with
    | false => exact .inr ⟨0, by simp, fun j _ h => by omega, by simpa using hq⟩
    | true =>
      rcases first_bad l with h | ⟨K, hK, h1, h2⟩
      · refine .inl (fun p hp => ?_)
        rcases List.mem_cons.1 hp with rfl | hp
        · exact hq
        · exact h p hp
      · refine .inr ⟨K + 1, by simpa using hK, fun j hj hjk => ?_, by simpa using h2⟩
        cases j with
        | zero => simpa using hq
        | succ j => simpa using h1 j (by simpa using hj) (by omega)
theorem lon_small (l : List LineV) (hs : ∀ p ∈ l, soundB p.1 = true) : ∀ k, k ≤ l.length → ∀ q ∈ (lonS l k).1, q.length ≤ cellsN (l.take k) ∧ ∀ i ∈ q, rightI i = true
  | 0, _ => fun q h => (by simp [lonS] at h)
  | k + 1, hk => by
    have ih := lon_small l hs k (by omega)
    have h6 := hs l[k] (List.getElem_mem (by omega))
    obtain ⟨_, _, hr⟩ := items_back l[k].1.length l[k].1 rfl h6
    have h8 := itemsF_le h6
    have hO : ∀ q ∈ lonO (lonS l k), q.length ≤ cellsN (l.take k) ∧ ∀ i ∈ q, rightI i = true := by
      unfold lonO
      intro q hq
      split at hq
      · exact ih q hq
      · rcases List.mem_append.1 hq with hq | hq
        · exact ih q hq
        · rw [List.mem_singleton] at hq; subst hq; exact ⟨Nat.zero_le _, fun i hi => by cases hi⟩
    rw [lonS_succ (by omega), cellsN_snoc (by omega)]
    generalize lonO (lonS l k) = O at *
    have hlast : (O.getD (O.length - 1) []).length ≤ cellsN (l.take k) ∧ ∀ i ∈ O.getD (O.length - 1) [], rightI i = true := by
      rcases Nat.eq_zero_or_pos O.length with h0 | h0
      · obtain rfl := List.eq_nil_of_length_eq_zero h0
        exact ⟨Nat.zero_le _, fun i hi => by simp at hi⟩
      · have e : O.getD (O.length - 1) [] = O[O.length - 1]'(by omega) := by rw [List.getD_eq_getElem?_getD, List.getElem?_eq_getElem (by omega)]; rfl
        rw [e]
        exact hO _ (List.getElem_mem _)
    unfold lonP
    intro q hq
    rcases List.mem_or_eq_of_mem_set hq with hq | rfl
    · exact ⟨Nat.le_trans (hO q hq).1 (Nat.le_add_right _ _), (hO q hq).2⟩
    · have h9 : (cntF (lonB l k l[k]) (itemsF l[k].1)).length ≤ l[k].1.length := by
        unfold cntF
        rw [List.length_take]
        omega
      refine ⟨by rw [List.length_append]; exact Nat.add_le_add hlast.1 h9, fun i hi => ?_⟩
      rcases List.mem_append.1 hi with hi | hi
      · exact hlast.2 i hi
      · exact hr i (List.mem_of_mem_take hi)
theorem long_small (l : List LineV) (hs : ∀ p ∈ l, soundB p.1 = true) (h : cellsN l ≤ 50000) : ∀ y ∈ longF l, y.length ≤ 50000 ∧ badI y = none := fun y hy => by
  have := lon_small l hs l.length (Nat.le_refl _) y hy
  rw [List.take_of_length_le (Nat.le_refl _)] at this
  exact ⟨by omega, right_bad y 0 this.2⟩

def GreatR (l : List LineV) (w : World) (e : Ending) (w' : World) : Prop := ∃ g, e = .returned (.bool g) ∧ (g = false → l.length ≤ 100 ∧ cellsN l < 1500) ∧ w = w'
set_option maxHeartbeats 2000000 in
theorem great_ok (So Si : Nat → Prop) (x : Value) (l : List LineV) (w : World) (hx : Slc RLine So Si w x l) (hok : ∀ p ∈ l, p.1.length ≤ 140737488355328) :
    Calls Tryd.prog 32 #[x] w (GreatR l w) := by
  obtain ⟨A, c, rfl, hc1, hc2, hA⟩ := hx.open_
  have HOK := hide hok
  clear hok
  go_enter Tryd.func32, Tryd.ntmps32
  go_wp2
  go_loopw [3, 4] (fun nv iv wr => ∃ k : Nat, k ≤ l.length ∧ iv = .int .i64 k ∧ nv = .int .i64 (cellsN (l.take k)) ∧ cellsN (l.take k) ≤ 140737488357000 ∧ w = wr) (fun _ iv _ => l.length - (intOf iv).toNat)
  case atStart => exact ⟨0, Nat.zero_le _, rfl, rfl, Nat.zero_le _, rfl⟩
  case round =>
    obtain ⟨k, hk, rfl, rfl, hN, rfl⟩ := hrel
    by_cases hlt : k < l.length
    · have hki : (k : Int) < l.length := by omega
      by_cases hn : cellsN (l.take k) < 1500
      · obtain ⟨ab, off, v, rfl, _, q0, q1, hv⟩ := line_at hA hlt
        obtain ⟨A', c', rfl, _, _, _⟩ := hv.open_
        have hsn := cellsN_snoc hlt
        have hle := HOK.out l[k] (List.getElem_mem _)
        obtain ⟨M, hM⟩ : ∃ M, cellsN (l.take k) = M := ⟨_, rfl⟩
        rw [hM] at hsn hn hN ⊢
        obtain ⟨c0, hc0⟩ : ∃ c0, l[k].1.length = c0 := ⟨_, rfl⟩
        rw [hc0] at hsn hle q0
        have hni : (M : Int) < 1500 := by omega
        have HSN := hide hsn
        clear hsn hM hc0
        go_wp2
        go_roundw
        case rel => exact ⟨k + 1, by omega, by go_num, (by rw [HSN.out]; first | rfl | exact int_eq (by omega)), by rw [HSN.out]; omega, (by first | rfl | trivial)⟩
        case measure => simp [intOf]; omega
      · have hni : ¬ ((cellsN (l.take k) : Nat) : Int) < 1500 := by omega
        have hni2 : (1500 : Int) ≤ (cellsN (l.take k) : Nat) := by omega
        generalize cellsN (l.take k) = M at *
        go_wp2
        go_ret
        exact ⟨true, rfl, (fun h => by cases h), rfl⟩
    · obtain rfl : k = l.length := by omega
      rw [List.take_of_length_le (Nat.le_refl _)] at hN ⊢
      by_cases hn : cellsN l < 1500
      · have hni : ¬ (1500 : Int) ≤ ((cellsN l : Nat) : Int) := by omega
        by_cases hl : l.length ≤ 100
        · have hli : ¬ (100 : Int) < l.length := by omega
          have HP := hide (⟨hl, hn⟩ : _ ∧ _)
          obtain ⟨M, hM⟩ : ∃ M, cellsN l = M := ⟨_, rfl⟩
          rw [hM] at hni hN ⊢
          clear hn hM
          go_wp2
          go_ret
          exact ⟨false, rfl, (fun _ => HP.out), rfl⟩
        · have hli : (100 : Int) < l.length := by omega
          generalize cellsN l = M at *
          go_wp2
          go_ret
          exact ⟨true, rfl, (fun h => by cases h), rfl⟩
      · have hni : (1500 : Int) ≤ ((cellsN l : Nat) : Int) := by omega
        generalize cellsN l = M at *
        go_wp2
        go_ret
        exact ⟨true, rfl, (fun h => by cases h), rfl⟩

set_option maxHeartbeats 2000000 in
theorem rWrong_ok (So Si : Nat → Prop) (x : Value) (l : List LineV) (w : World) (hx : Slc RLine So Si w x l) (hsz : ∀ p ∈ l, p.1.length ≤ 1000000) (K : Nat) (hK : K ≤ l.length) (hall : ∀ j (h : j < l.length), j < K → soundB l[j].1 = true) (hbad : ∀ h : K < l.length, soundB l[K].1 = false) :
    Calls Tryd.prog 33 #[x] w fun e w' => e = .returned (.int .i64 (if K < l.length then (K : Int) else -1)) ∧ Below w.heap.size w w' := by
  obtain ⟨A, c, rfl, hc1, hc2, hA⟩ := hx.open_
  have HALL := hide hall
  have HBAD := hide hbad
  have HSZ := hide hsz
  clear hall hbad hsz
  go_enter Tryd.func33, Tryd.ntmps33
  go_wp2_with fail
  go_loopw [3] (fun iv wr => ∃ k : Nat, k ≤ K ∧ iv = .int .i64 k ∧ Below w.heap.size w wr) (fun iv _ => l.length - (intOf iv).toNat)
  case atStart => exact ⟨0, Nat.zero_le _, rfl, Below.refl _ _⟩
  case round =>
    obtain ⟨k, hk, rfl, hbr⟩ := hrel
    by_cases hlt : k < l.length
    · have hki : (k : Int) < l.length := by omega
      obtain ⟨ab, off, v, rfl, _, q00, q01, hv⟩ := line_at hA hlt
      have hab := World.block_lt_of_cell? _ _ q00
      simp only at hab
      have q0 := (hbr.cell (p := ⟨ab, off + k * 2, none⟩) hab).trans q00
      obtain ⟨A', c', rfl, _, _, _⟩ := hv.open_
      have HR := hide (rSound_ok _ _ (.slice A' l[k].1.length c') l[k].1 wr (hv.mono (Keep.below hbr) (Keep.below hbr)) (HSZ.out _ (List.getElem_mem _)))
      have HA := hide (HALL.out k hlt)
      obtain ⟨B, hB⟩ : ∃ B, soundB l[k].1 = B := ⟨_, rfl⟩
      have HB := hide hB
      rw [hB] at HR
      obtain ⟨c0, hc0⟩ : ∃ c0, l[k].1.length = c0 := ⟨_, rfl⟩
      rw [hc0] at q0 HR
      clear q00 q01 hB hc0 hv
      go_wp2_with fail
      refine HR.out.mono ?_
      rintro e w3 ⟨rfl, hc3⟩
      have hb3 := hbr.trans (hc3.mono hbr.size)
      clear q0
      cases B with
      | true =>
        have hkK : k < K := by
          rcases Nat.lt_or_eq_of_le hk with h | h
          · exact h
          · subst h
            exact absurd (HBAD.out hlt) (by rw [HB.out]; decide)
        go_wp2
        go_roundw
        case rel => exact ⟨k + 1, by omega, by go_num, hb3⟩
        case measure => simp [intOf]; omega
      | false =>
        have hkK : k = K := by
          rcases Nat.lt_or_eq_of_le hk with h | h
          · exact absurd (HA.out h) (by rw [HB.out]; decide)
          · exact h
        subst hkK
        go_wp2
        go_ret
        first | exact ⟨rfl, hb3⟩ | exact ⟨by simp, hb3⟩
    · obtain rfl : k = l.length := by omega
      obtain rfl : K = l.length := by omega
      have HE : Hid ((-1 : Int) = if l.length < l.length then (l.length : Int) else -1) := hide (by rw [if_neg (Nat.lt_irrefl _)])
      go_wp2
      go_ret
      first | exact ⟨by rw [← HE.out], hbr⟩ | exact ⟨rfl, hbr⟩ | exact ⟨by simp, hbr⟩

set_option maxRecDepth 8000 in
set_option maxHeartbeats 4000000 in
theorem rLines_ok (So : Nat → Prop) (x : Value) (l : List LineV) (n : Int) (w : World) (hx : Slc RLine So (fun b => b < w.heap.size) w x l) (hll : l.length ≤ 100000) (hall : ∀ p ∈ l, p.1.length ≤ 100000 ∧ soundB p.1 = true) (hsm : ∀ y ∈ longF l, y.length ≤ 50000 ∧ badI y = none) :
    Calls Tryd.prog 35 #[x, .int .i64 n] w fun e w' => ∃ s ps, e = .returned s ∧ LnsP w.heap.size w' s ps ∧ ps.map Prod.snd = linesF (sideR n) (longF l) ∧ Below w.heap.size w w' := by
  have hlg := rLong_ok So x l w hx hll hall
  have hlk := (lon_ok l hall l.length (Nat.le_refl _)).1
  have hlk2 : (longF l).length ≤ 100000 := Nat.le_trans hlk hll
  obtain ⟨X, hX⟩ : ∃ X, longF l = X := ⟨_, rfl⟩
  rw [hX] at hlg hsm hlk2 ⊢
  have HSM := hide hsm
  obtain ⟨wd, hwd⟩ : ∃ wd, sideR n = wd := ⟨_, rfl⟩
  rw [hwd]
  have HWD := hide hwd
  obtain ⟨A, c, rfl, _, _, _⟩ := hx.open_
  have HLG := hide hlg
  clear hall hsm hwd hlk hx hX hlg
  go_enter Tryd.func35, Tryd.ntmps35
  go_wp2_with fail
  refine HLG.out.mono ?_
  rintro e w1 ⟨s, ps, rfl, hits, hps, hb1⟩
  have hz1 := hb1.size
  have hpl : ps.length = X.length := by rw [← hps, List.length_map]
  have HPS := hide hps
  obtain ⟨As, cs, hse, ju1, ju2, ju3⟩ := hits.row.slc.open_
  clear ju1 ju2 ju3 hps HLG
  rw [List.length_map, hpl] at hse
  subst hse
  have HI := hide hits
  clear hits
  go_wp2_with fail
  go_loopw [5, 7] (fun ov iv wr => ∃ k : Nat, k ≤ X.length ∧ iv = .int .i64 k ∧ ∃ qs : List (Value × LineV), LnsP w.heap.size wr ov qs ∧ qs.map Prod.snd = linesF wd (X.take k) ∧ qs.length ≤ k * 50001 ∧ ItsQ w.heap.size w.heap.size wr (.slice As X.length cs) ps ∧ Below w.heap.size w wr) (fun _ iv _ => X.length - (intOf iv).toNat)
  case atStart => exact ⟨0, Nat.zero_le _, rfl, [], ⟨Own.nil_ _ _ _ _ _ (by simp), fun p hp => (by cases hp), List.Pairwise.nil⟩, rfl, Nat.zero_le _, HI.out, hb1⟩
  case round =>
    obtain ⟨k, hk, rfl, qs, hln, hqs, hql, hits, hbr⟩ := hrel
    have hzr := hbr.size
    by_cases hlt : k < X.length
    · have hkp : k < ps.length := by omega
      obtain ⟨G, capG, hve, hGb, hGl, hGc, hGf⟩ := hits.at_ hkp
      injection hve with e1 e2 e3
      subst e1
      clear e2 e3
      have hrj := hits.cells ps[k] (List.getElem_mem _)
      obtain ⟨Aj, cj, hje, ju1, ju2, ju3⟩ := hrj.slc.open_
      clear ju1 ju2 ju3
      have hpx : ps[k].2 = X[k] := by
        have e := congrArg (fun l => l[k]?) HPS.out
        simp only [List.getElem?_map, List.getElem?_eq_getElem hkp, List.getElem?_eq_getElem hlt, Option.map_some] at e
        injection e
      obtain ⟨hy1, hy2⟩ := HSM.out X[k] (List.getElem_mem _)
      have hls := lines_snoc wd X k hlt
      have hbf := brkF_len wd X[k]
      rw [hpx] at hje hrj
      rw [hje] at hrj hGc
      generalize X[k] = y at *
      have HBR := hide (rBreak_ok _ (.slice Aj y.length cj) y n wr (hrj.slc.mono (Keep.refl _ _) (Keep.lt _ _)) hy1 (bad_none y 0 hy2))
      rw [HWD.out] at HBR
      have hki : (k : Int) < X.length := by omega
      have HLS := hide hls
      have HQS := hide hqs
      have HLT : Hid (∀ p ∈ qs, ∀ g, p.1.ownBlock = some g → g < wr.heap.size) := hide (fun p hp g hg => ((hln.cells p hp).lt_ g hg).2)
      clear hls hqs hje hrj hpx hy2
      go_wp2_with fail
      refine HBR.out.mono ?_
      rintro e w5 ⟨gv, qs2, rfl, hq2, hqe, hc5⟩
      have hql2 : qs2.length ≤ 50001 := by rw [← List.length_map (f := Prod.snd), hqe]; omega
      have HQE := hide hqe
      have hb5 := hbr.trans (hc5.mono hzr)
      have hz5 := hb5.size
      have hln5 := hide (hln.step (es := []) (Step.of_below hc5) (by simp) (by simp) (by simp))
      have hits5 := hide (hits.step (es := []) (Step.of_below hc5) (by simp) (by simp))
      have hone := hq2.row.slc.flat_any RSl.flat (fun _ => False)
      have hq5 := hide hq2
      have hkq : qs.length + qs2.length ≤ (k + 1) * 50001 := by rw [Nat.succ_mul]; exact Nat.add_le_add hql hql2
      have hkb : (k + 1) * 50001 ≤ 100001 * 50001 := Nat.mul_le_mul_right _ (by omega)
      have hsum : qs.length + qs2.length ≤ 5000150001 := Nat.le_trans hkq (Nat.le_trans hkb (by decide))
      have HKQ := hide hkq
      clear hkb hkq hql hql2
      obtain ⟨Ag, cg, hge, ju1, ju2, ju3⟩ := hq2.row.slc.open_
      clear ju1 ju2 ju3 hc5 hqe hln hits hq2 hGc hGf HBR
      rw [List.length_map] at hge
      subst hge
      go_wp2_with (at_builtin; refine wpList_appg rfl (.tmp 16) (.tmp 22) 22 rfl RSl 38 [] w.heap.size 32 _ Tryd.underlying22 line_info rfl (by decide) (by decide) _ _ rfl hln5.out.row _ (fun _ => False) _ _ rfl hone (fun _ h => False.elim h) (by simp only [List.length_map]; omega) hz5 ?_; intro v8 w8 hv8 hst8 hg8 ho8; have hln8 := hide (hln5.out.join HLT.out hq5.out hzr hv8 hst8); have hits8 := hide (hits5.out.step hst8 (by decide) (by decide)); have hb8 := hide (hb5.trans (hst8.below hz5)); clear hv8 hst8 hg8 ho8)
      go_roundw
      case rel => exact ⟨k + 1, by omega, by go_num, qs ++ qs2, hln8.out, by rw [List.map_append, HQS.out, HQE.out, HLS.out], by rw [List.length_append]; exact HKQ.out, hits8.out, hb8.out⟩
      case measure => simp [intOf]; omega
    · obtain rfl : k = X.length := by omega
      rw [List.take_of_length_le (Nat.le_refl _)] at hqs
      have HQS := hide hqs
      clear hqs
      go_wp2
      go_ret
      exact ⟨_, qs, rfl, hln, HQS.out, hbr⟩
end Go.Proofs.YtbkenfljknpjgaaDoor

namespace Go.Proofs.YtbkenfljknpjgaaDoor
open Go.RowKit Go.ChangeShapes
set_option linter.unusedVariables false
set_option linter.unusedSimpArgs false

theorem arg_sliceW {α : Type} {P : Program} {R : Rep α} {ok : List α → Prop} {t e : TypeId} {H : Type} {enc : TypeId × Value → H} {W : World} {base : Nat} {spare : Nat → Bool} {held : Bool} {r : Reach} {b0 : Nat} {v : Value} {d : DataW H} {p : List MemPlace}
    (ht : P.underlying t = some (.slice e)) (hR : OpensW P (Rep.slice R) t ok) (hv : Value.okWide P W r b0 t v) (h : DataW.Trod enc P W base spare held t v d p) (hw : ∀ n ∈ d.weights P t, n ≤ reachBytes) :
    ∃ l, Slc R (fun b => b < W.heap.size) (fun b => b < W.heap.size) W v l ∧ ok l := by
  obtain ⟨a, len, cap, rfl⟩ := Go.WideShapes.okWide_slice ht hv
  obtain ⟨fuel, hf⟩ := h
  obtain ⟨l, ⟨v', he, hl⟩, hk⟩ := hR H enc W base spare held fuel _ _ hf hw
  simp [Value.cells] at he
  subst he
  exact ⟨l, hl, hk⟩

set_option maxRecDepth 100000 in
set_option maxHeartbeats 8000000 in
theorem walkS_ReflowBreaks (b : Nat → Addr) (x : Value) (l : List LineV) (n : Int) (w : World) (hS : Sents b w) (hT : TypeVar w) (hx : Slc RLine (fun b => b < w.heap.size) (fun b => b < w.heap.size) w x l) (hn : (Lit.int .i64 n).wf = true) (hok : LinesOk l) :
    Calls Tryd.prog 6 #[x, .int .i64 n] w fun e w' => e = .returned (.bool true) ∧ Below w.heap.size w w' := by
  obtain ⟨A, c, rfl, _, _, _⟩ := hx.open_
  have HSE := hide hS
  have HTV := hide hT
  have HX := hide (fun (W : World) (hW : Below w.heap.size w W) => ((hx.mono (Keep.below hW) (Keep.below hW)).mono (Keep.refl _ _) (Keep.weaken fun b hb => Nat.lt_of_lt_of_le hb hW.size) : Slc RLine (fun b => b < w.heap.size) (fun b => b < W.heap.size) W (.slice A l.length c) l))
  have HOK := hide hok
  have HFB := hide (first_bad l)
  have HLS := hide (long_small l)
  have HMEM := hide (fun (p : LineV) (hp : p ∈ l) => cellsN_mem hp)
  have HLK := hide (lon_ok l)
  clear hS hT hx hok
  go_enter Tryd.func6, Tryd.ntmps6
  go_wp2_with fail
  refine (works51_ok _).mono ?_
  rintro e w1 ⟨rfl, hb1⟩
  have hz1 := hb1.size
  go_wp2_with fail
  refine (great_ok _ _ (.slice A l.length c) l w1 (HX.out w1 hb1) HOK.out.2).mono ?_
  rintro e w2 hgr
  obtain ⟨g, rfl, hg, rfl⟩ := hgr
  cases g with
  | true =>
    clear hg
    go_wp2_with fail
    refine (works51_ok _).mono ?_
    rintro e w9 ⟨rfl, hc9⟩
    go_wp2
    go_ret
    exact ⟨rfl, hb1.trans (hc9.mono hz1)⟩
  | false =>
    obtain ⟨hl1, hl2⟩ := hg rfl
    clear hg
    have hll : l.length ≤ 100000 := by omega
    have hsz : ∀ p ∈ l, p.1.length ≤ 100000 := fun p hp => by have := HMEM.out p hp; omega
    rcases HFB.out with hs | ⟨K, hK, hKs, hKb⟩
    · have hall : ∀ p ∈ l, p.1.length ≤ 100000 ∧ soundB p.1 = true := fun p hp => ⟨hsz p hp, hs p hp⟩
      have hsm := HLS.out hs (by omega)
      have HALL := hide hall
      have HSM := hide hsm
      have HLO := hide (Long_ok _ (.slice A l.length c) l w1 (HX.out w1 hb1) hll hall)
      have HLI := hide (fun W hW => Lines_ok _ (.slice A l.length c) l n W (HX.out W hW) hll hall hsm)
      have HRO := hide (fun W hW => rLong_ok _ (.slice A l.length c) l W (HX.out W hW) hll hall)
      have HRI := hide (fun W hW => rLines_ok _ (.slice A l.length c) l n W (HX.out W hW) hll hall hsm)
      have HWR := hide (fun W hW => rWrong_ok _ _ (.slice A l.length c) l W (HX.out W hW) (fun p hp => by have := hsz p hp; omega) l.length (Nat.le_refl _) (fun j h _ => hs _ (List.getElem_mem h)) (fun h => absurd h (Nat.lt_irrefl _)))
      have hneg : (if l.length < l.length then (l.length : Int) else -1) = -1 := if_neg (Nat.lt_irrefl _)
      rw [hneg] at HWR
      have hlm := Nat.le_trans (HLK.out hall l.length (Nat.le_refl _)).1 hll
      have hlm2 : (longF l).length ≤ 100000 := hlm
      clear hlm hneg hall hsm hs hsz HFB HLS HMEM HOK HSM HALL HSE HTV HLK
      obtain ⟨X, hX⟩ : ∃ X, longF l = X := ⟨_, rfl⟩
      rw [hX] at HLO HLI HRO HRI hlm2
      clear hX
      obtain ⟨M, hM⟩ : ∃ M, X.length = M := ⟨_, rfl⟩
      rw [hM] at hlm2
      go_wp2_with fail
      refine HLO.out.mono ?_
      rintro e w3 ⟨s3, ps, rfl, hits, hps, hc3⟩
      have hb3 := hb1.trans (hc3.mono hz1)
      have hz3 := hb3.size
      have hpl : ps.length = M := by rw [← hM, ← hps, List.length_map]
      obtain ⟨As, cs, hse, ju1, ju2, ju3⟩ := hits.row.slc.open_
      clear ju1 ju2 ju3 hc3 HLO
      rw [List.length_map, hpl] at hse
      subst hse
      have HIT3 := hide hits
      have HPS := hide hps
      clear hits hps
      go_wp2_with fail
      refine (HLI.out w3 hb3).mono ?_
      rintro e w4 ⟨s4, ls, rfl, hln, hls, hc4⟩
      have hb4 := hb3.trans (hc4.mono hz3)
      have hz4 := hb4.size
      have hl4 := Lns.slc ⟨ls, hls, hln⟩
      obtain ⟨A4, c4, rfl, ju1, ju2, ju3⟩ := hl4.open_
      have HL4 := hide hl4
      have HIT4 := hide (HIT3.out.step (es := []) (Step.of_below hc4) (by simp) (by simp) (by simp))
      clear ju1 ju2 ju3 hc4 HLI HIT3 hln hls hl4
      go_wp2_with fail
      refine (HWR.out w4 hb4).mono ?_
      rintro e w5 ⟨rfl, hc5⟩
      have hb5 := hb4.trans (hc5.mono hz4)
      have hz5 := hb5.size
      have HL5 := hide (HL4.out.lt_up2 hc5)
      have HIT5 := hide (HIT4.out.step (es := []) (Step.of_below hc5) (by simp) (by simp) (by simp))
      clear hc5 HL4 HIT4 HWR
      go_wp2_with fail
      refine (HRO.out w5 hb5).mono ?_
      rintro e w6 ⟨s6, qs, rfl, hitq, hqs, hc6⟩
      have hb6 := hb5.trans (hc6.mono hz5)
      have hz6 := hb6.size
      have hql : qs.length = M := by rw [← hM, ← hqs, List.length_map]
      obtain ⟨Aq, cq, hqe, ju1, ju2, ju3⟩ := hitq.row.slc.open_
      rw [List.length_map, hql] at hqe
      subst hqe
      have HL6 := hide (HL5.out.lt_up2 hc6)
      have HIT6 := hide (HIT5.out.step (es := []) (Step.of_below hc6) (by simp) (by simp) (by simp))
      have HIQ6 := hide hitq
      have HQS := hide hqs
      clear ju1 ju2 ju3 hc6 HL5 HIT5 HRO hitq hqs
      go_wp2_with fail
      refine (HRI.out w6 hb6).mono ?_
      rintro e w7 ⟨s7, ls2, rfl, hln, hls, hc7⟩
      have hb7 := hb6.trans (hc7.mono hz6)
      have hz7 := hb7.size
      have hl7 := Lns.slc ⟨ls2, hls, hln⟩
      have HSA := hide (rSame32_eq _ _ _ _ _ _ _ w7 (HL6.out.lt_up2 hc7) hl7)
      have HIT7 := hide (HIT6.out.step (es := []) (Step.of_below hc7) (by simp) (by simp) (by simp))
      have HIQ7 := hide (HIQ6.out.step (es := []) (Step.of_below hc7) (by simp) (by simp))
      clear hc7 HL6 HIT6 HIQ6 HRI hln hls hl7
      go_wp2_with fail
      refine HSA.out.mono ?_
      rintro e w8 ⟨rfl, n8, rfl⟩
      go_wp2_with fail
      go_loopw [11] (fun iv wr => ∃ k : Nat, k ≤ M ∧ iv = .int .i64 k ∧ ∃ n, wr = w7.drewN n) (fun iv _ => M - (intOf iv).toNat)
      case atStart => exact ⟨0, Nat.zero_le _, rfl, n8, rfl⟩
      case round =>
        obtain ⟨k, hk, rfl, n9, rfl⟩ := hrel
        by_cases hlt : k < M
        · have hkp : k < ps.length := by omega
          have hkq : k < qs.length := by omega
          have hkx : k < X.length := by omega
          obtain ⟨G, capG, hve, _, _, q0, _⟩ := HIT7.out.at_ hkp
          obtain ⟨G2, capG2, hve2, _, _, p0, _⟩ := HIQ7.out.at_ hkq
          injection hve with e1 e2 e3
          subst e1
          clear e2 e3
          injection hve2 with e1 e2 e3
          subst e1
          clear e2 e3
          have hpx : ps[k].2 = X[k] := by
            have e := congrArg (fun l => l[k]?) HPS.out
            simp only [List.getElem?_map, List.getElem?_eq_getElem hkp, List.getElem?_eq_getElem hkx, Option.map_some] at e
            injection e
          have hqx : qs[k].2 = X[k] := by
            have e := congrArg (fun l => l[k]?) HQS.out
            simp only [List.getElem?_map, List.getElem?_eq_getElem hkq, List.getElem?_eq_getElem hkx, Option.map_some] at e
            injection e
          have hs1 := (HIT7.out.cells ps[k] (List.getElem_mem _)).slc
          have hs2 := (HIQ7.out.cells qs[k] (List.getElem_mem _)).slc
          rw [hpx] at hs1
          rw [hqx] at hs2
          obtain ⟨A1, c1, hw1, ju1, ju2, ju3⟩ := hs1.open_
          obtain ⟨A2, c2, hw2, ju1, ju2, ju3⟩ := hs2.open_
          clear ju1 ju2 ju3
          rw [hw1] at hs1 q0
          rw [hw2] at hs2 p0
          have HSS := hide (fun m => rSame29_ok _ _ _ _ _ _ X[k] X[k] (w7.drewN m) (hs1.mono (Keep.drewN _ w7 m) (Keep.drewN _ w7 m)) (hs2.mono (Keep.drewN _ w7 m) (Keep.drewN _ w7 m)))
          rw [decide_eq_true rfl] at HSS
          obtain ⟨xl, hxl⟩ : ∃ xl, X[k].length = xl := ⟨_, rfl⟩
          rw [hxl] at q0 p0 HSS
          have hki : (k : Int) < M := by omega
          clear hs1 hs2 hw1 hw2 hpx hqx hxl
          go_wp2
          go_quiet ((go_at_call 26; refine (HSS.out _).mono ?_; rintro e w' ⟨rfl, m, rfl⟩; exact ⟨rfl, _, by rw [World.drewN_drewN, Nat.add_assoc]⟩))
          go_wp2
          go_roundw
          case rel => exact ⟨k + 1, by omega, by go_num, _, rfl⟩
          case measure => simp [intOf]; omega
        · obtain rfl : k = M := by omega
          go_wp2
          go_ret
          exact ⟨rfl, below_drewN hb7 _⟩
    · have hall : ∀ j (h : j < l.length), j < K → l[j].1.length ≤ 100000 ∧ soundB l[j].1 = true := fun j h hj => ⟨hsz _ (List.getElem_mem h), hKs j h hj⟩
      have HLO := hide (fun W (hW : Below w.heap.size w W) => Long_bad b _ (.slice A l.length c) l W (HSE.out.below hW) (HX.out W hW) hll K hK hall hKb)
      have HLI := hide (fun W (hW : Below w.heap.size w W) => Lines_bad b _ (.slice A l.length c) l n W (HSE.out.below hW) (HX.out W hW) hll K hK hall hKb)
      have HWR := hide (fun W hW => rWrong_ok _ _ (.slice A l.length c) l W (HX.out W hW) (fun p hp => by have := hsz p hp; omega) K (Nat.le_of_lt hK) hKs (fun _ => hKb))
      rw [if_pos hK] at HWR
      clear hall hKs hKb hsz HFB HLS HMEM HOK HLK
      go_wp2_with fail
      refine (HLO.out w1 hb1).mono ?_
      rintro e w3 ⟨ev, rfl, hev, hc3⟩
      obtain ⟨te, ue, rfl⟩ := hev.form
      have hb3 := hb1.trans (hc3.mono hz1)
      have hz3 := hb3.size
      have HE3 := hide hev
      clear hev hc3 HLO
      go_wp2_with fail
      refine (HLI.out w3 hb3).mono ?_
      rintro e w4 ⟨ev2, rfl, hev2, hc4⟩
      obtain ⟨te2, ue2, rfl⟩ := hev2.form
      have hb4 := hb3.trans (hc4.mono hz3)
      have hz4 := hb4.size
      have HE4 := hide (HE3.out.below hc4)
      have HF4 := hide hev2
      clear hev2 hc4 HLI HE3
      go_wp2_with fail
      refine (HWR.out w4 hb4).mono ?_
      rintro e w5 ⟨rfl, hc5⟩
      have hb5 := hb4.trans (hc5.mono hz4)
      have hz5 := hb5.size
      have HE5 := hide (HE4.out.below hc5)
      have HF5 := hide (HF4.out.below hc5)
      have hK0 : (0 : Int) ≤ K := by omega
      clear hc5 HWR HE4 HF4
      go_wp2_with fail
      refine (Code_ok b _ 4 _ _ (HSE.out.below hb5) HE5.out (by decide)).mono ?_
      rintro e w6 ⟨rfl, rfl⟩
      go_wp2_with fail
      refine (At_ok b _ 4 _ _ (HTV.out.below hb5) HE5.out).mono ?_
      rintro e w7 ⟨rfl, hc7⟩
      have hb7 := hb5.trans (hc7.mono hz5)
      have HF7 := hide (HF5.out.below hc7)
      clear hc7 HE5 HF5
      go_wp2_with fail
      refine (Code_ok b _ 4 _ _ (HSE.out.below hb7) HF7.out (by decide)).mono ?_
      rintro e w8 ⟨rfl, rfl⟩
      go_wp2_with fail
      refine (At_ok b _ 4 _ _ (HTV.out.below hb7) HF7.out).mono ?_
      rintro e w9 ⟨rfl, hc9⟩
      have hb9 := hb7.trans (hc9.mono hb7.size)
      clear hc9 HF7
      go_wp2
      go_ret
      exact ⟨rfl, hb9⟩
end Go.Proofs.YtbkenfljknpjgaaDoor

namespace Go.Proofs.YtbkenfljknpjgaaDoor
open Go.RowKit
set_option linter.unusedVariables false

theorem walk_ReflowBreaks (x : Value) (l : List LineV) (n : Int) (w : World) (hL : laidMetH Tryd.prog Rows.reflowBreaksRow.laid w) (hx : Slc RLine (fun b => b < w.heap.size) (fun b => b < w.heap.size) w x l) (hn : (Lit.int .i64 n).wf = true) (hok : LinesOk l) :
    Calls Tryd.prog 6 #[x, .int .i64 n] w fun e w' => e = .returned (.bool true) ∧ Below w.heap.size w w' := by
  have h' : laidMet Tryd.prog [("linotype/api.ErrScalar", Rows.laid_linotype_api_ErrScalar), ("linotype/api.ErrForm", Rows.laid_linotype_api_ErrForm), ("linotype/api.ErrRange", Rows.laid_linotype_api_ErrRange), ("linotype/api.ErrLong", Rows.laid_linotype_api_ErrLong), ("linotype/api.ErrKind", Rows.laid_linotype_api_ErrKind), ("linotype/api.ErrWord", Rows.laid_linotype_api_ErrWord), ("linotype/api.ErrFull", Rows.laid_linotype_api_ErrFull), ("linotype/api.ErrNone", Rows.laid_linotype_api_ErrNone)] w ∧ handlesMet Tryd.prog [("errors.errorType", Rows.laid_errors_errorType)] w := hL
  obtain ⟨b, hS⟩ := sents_of_laid _ _ h'.1 (fun k hk => by
    match k, hk with
    | 0, _ => exact List.mem_of_getElem? (i := 0) rfl
    | 1, _ => exact List.mem_of_getElem? (i := 1) rfl
    | 2, _ => exact List.mem_of_getElem? (i := 2) rfl
    | 3, _ => exact List.mem_of_getElem? (i := 3) rfl
    | 4, _ => exact List.mem_of_getElem? (i := 4) rfl
    | 5, _ => exact List.mem_of_getElem? (i := 5) rfl
    | 6, _ => exact List.mem_of_getElem? (i := 6) rfl
    | 7, _ => exact List.mem_of_getElem? (i := 7) rfl
    | k + 8, h => exact absurd h (by omega))
  exact walkS_ReflowBreaks b x l n w hS (tv_of_handles h'.2) hx hn hok
end Go.Proofs.YtbkenfljknpjgaaDoor
