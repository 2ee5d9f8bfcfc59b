import Derived.Test.YtdjpdllehhecpaaGreatDoorQ40
import Derived.Test.YtdjpdllehhecpaaGreatDoorQ14
open List renaming getElem?_toArray → zA, getElem?_cons_succ → zB, getElem?_cons_zero → zC, setIfInBounds_toArray → zD, set_cons_zero → zE, set_cons_succ → zF
namespace Go.Proofs.YtdjpdllehhecpaaGreatDoor
open Go.RowKit
set_option linter.unusedVariables false
set_option linter.unusedSimpArgs false
theorem rrow_at {So Si : Nat → Prop} {w : World} {A : Option Addr} {l : List (List Int)} (h : SlB RRow So Si w A l) {k : Nat} (hk : k < l.length) :
    ∃ b off A2 c2, A = some ⟨b, off, none⟩ ∧ So b ∧ w.cell? ⟨b, off + k, none⟩ = some (.slice A2 l[k].length c2) ∧ Slc (Rep.int .i32) Si Si w (.slice A2 l[k].length c2) l[k] := by
  obtain ⟨b, off, u, rfl, hs, hu, hc⟩ := h.at_ (k := k) (x := l[k]) (List.getElem?_eq_getElem hk) (by decide)
  obtain ⟨v, rfl, hv⟩ := hu
  have h0 := hc 0 (by decide)
  have e : RRow.sz = 1 := rfl
  rw [e] at h0
  simp only [Nat.mul_one, Nat.add_zero] at h0
  obtain ⟨A2, c2, rfl, _, _, _⟩ := hv.open_
  exact ⟨b, off, A2, c2, rfl, hs, h0, hv⟩
theorem someR_snoc (l : List (List Int)) (x : List Int) : someR (l ++ [x]) = if x = [] then someR l else l ++ [x] := by
  unfold someR
  rw [List.reverse_append, List.reverse_singleton, List.singleton_append, List.dropWhile_cons]
  by_cases h : x = [] <;> simp [h]
theorem longR_len : ∀ (ls : List LineV) (t : List Int), (longR ls t).length ≤ ls.length
  | [], _ => by simp [longR]
  | l :: ls, t => by
    rw [longR]
    split
    · exact Nat.le_succ_of_le (longR_len ls _)
    · rw [List.length_cons, List.length_cons]; exact Nat.succ_le_succ (longR_len ls _)
theorem joinR_snoc : ∀ (l : List (List Int)) (x : List Int), joinR (l ++ [x]) = (if l = [] then [] else joinR l ++ [10]) ++ x
  | [], x => by simp [joinR]
  | [a], x => by simp [joinR]
  | a :: b :: l, x => by
    have ih := joinR_snoc (b :: l) x
    rw [if_neg (by simp)] at ih
    rw [if_neg (by simp)]
    show joinR (a :: (b :: l ++ [x])) = _
    have e : joinR (a :: (b :: l ++ [x])) = a ++ 10 :: joinR (b :: l ++ [x]) := rfl
    have e2 : joinR (a :: b :: l) = a ++ 10 :: joinR (b :: l) := rfl
    rw [e, e2, ih]
    simp
theorem joinR_len (l : List (List Int)) (i : Nat) : (joinR (l.take i)).length ≤ (joinR l).length := by
  by_cases h : i < l.length
  · have h1 := joinR_len l (i + 1)
    rw [take_snoc' l i h, joinR_snoc] at h1
    refine Nat.le_trans ?_ h1
    by_cases h0 : l.take i = []
    · rw [h0]; simp [joinR]
    · rw [if_neg h0]; simp
  · rw [List.take_of_length_le (by omega)]; exact Nat.le_refl _
  termination_by l.length - i
set_option maxRecDepth 8000 in
set_option maxHeartbeats 4000000 in
theorem rText_ok (So Si : Nat → Prop) (W h r c : Int) (pd au : Bool) (x : Value) (ls : List LineV) (w : World) (hx : Slc RLine So Si w x ls) (hlen : ls.length ≤ 1000) (hall : ∀ l ∈ ls, l.1.length ≤ 1000 ∧ ∀ d ∈ l.1, d.2.length ≤ 16) (htl : (textR ls).length ≤ 10000) :
    Calls Tryz.prog 31 #[agV W h r c pd au x] w fun e w' => ∃ s, e = .returned s ∧ Own (Rep.int .i32) 21 [] w.heap.size w' s (textR ls) ∧ Below w.heap.size w w' := by
  obtain ⟨w0, hw0⟩ : ∃ w0, w.alloc (.cells #[.int .i64 W, .int .i64 h, x, .int .i64 r, .int .i64 c, .bool pd, .bool au] 41) = w0 := ⟨_, rfl⟩
  have hb0 : Below w.heap.size w w0 := by rw [← hw0]; exact (Below.refl _ w).alloc (Nat.le_refl _) _
  have hRL := rLines_ok So Si W h r c pd au x ls w0 (hx.mono (Keep.below (S := So) hb0) (Keep.below (S := Si) hb0)) hlen hall
  unfold agV at hRL ⊢
  have hz0 := hb0.size
  unfold textR at htl ⊢
  obtain ⟨TR, hTR⟩ : ∃ TR, joinR (someR (longR ls [])) = TR := ⟨_, rfl⟩
  rw [hTR]
  obtain ⟨A, cp, rfl, h1, h2, _⟩ := hx.open_
  have hv0 : Blk w0 w.heap.size 41 #[.int .i64 W, .int .i64 h, .slice A ls.length cp, .int .i64 r, .int .i64 c, .bool pd, .bool au] := by rw [← hw0]; exact Blk.new w _ _
  have z0 := hv0.cell 0
  have z1 := hv0.cell 1
  have z2 := hv0.cell 2
  have z3 := hv0.cell 3
  have z4 := hv0.cell 4
  have z5 := hv0.cell 5
  have z6 := hv0.cell 6
  simp only [zA, zB, zC] at z0 z1 z2 z3 z4 z5 z6
  have HRL := hide hRL
  have HW0 := hide hw0
  have HTR := hide hTR
  have HB0 := hide hb0
  clear hRL hw0 hTR hx hall hb0 hv0
  go_enter Tryz.func31, Tryz.ntmps31
  go_upto_region 1 with fail
  rw [HW0.out]
  go_wp2_with fail
  refine HRL.out.mono ?_
  rintro e w1 ⟨s1, rfl, hs1, hb1⟩
  obtain ⟨m, hm⟩ : ∃ m, longR ls [] = m := ⟨_, rfl⟩
  rw [hm] at hs1
  have hTR := HTR.out
  rw [hm] at hTR htl
  have HM := hide hm
  have HTR2 := hide hTR
  obtain ⟨Am, cm, rfl, hm1, hm2, hSB⟩ := hs1.open_
  have HB1 := hide (HB0.out.trans (hb1.mono hz0))
  clear hm hb1 HRL HTR hTR z0 z1 z2 z3 z4 z5 z6
  have HZ1 := hide HB1.out.size
  have HTL := hide (show TR.length ≤ 10000 by rw [← HTR2.out]; exact htl)
  have hmlen : m.length ≤ 1000 := by rw [← HM.out]; exact Nat.le_trans (longR_len ls []) hlen
  go_wp2
  go_loopw [3] (fun lv wr => ∃ k, k ≤ m.length ∧ lv = .slice Am k cm ∧ someR m = someR (m.take k) ∧ w1 = wr) (fun lv _ => match lv with | .slice _ n _ => n | _ => 0)
  case atStart => exact ⟨m.length, Nat.le_refl _, rfl, by rw [List.take_length], rfl⟩
  case round =>
    obtain ⟨k, hk, rfl, hsm, rfl⟩ := hrel
    by_cases h0 : k = 0
    · subst h0
      have hmk : TR = joinR (m.take 0) := by rw [← HTR2.out, hsm]; rfl
      have HMK := hide hmk
      clear hsm
      go_wp2
      go_loopw [4, 29] (fun o i wr => i = .int .i64 0 ∧ o = .slice none 0 0 ∧ w1 = wr) (fun _ i _ => 0)
      case atStart => exact ⟨rfl, rfl, rfl⟩
      case round =>
        obtain ⟨rfl, rfl, rfl⟩ := hrel
        go_wp2
        go_ret
        refine ⟨_, rfl, ?_, HB1.out⟩
        rw [HMK.out]
        exact Own.nil_ _ _ _ _ _ (by simp)
    · obtain ⟨j, rfl⟩ : ∃ j, k = j + 1 := ⟨k - 1, by omega⟩
      have e1 : ((j + 1 : Nat) : Int) - 1 = j := by omega
      obtain ⟨b9, off9, A9, c9, rfl, _, q9, _⟩ := rrow_at hs1.slb (k := j) (by omega)
      have hss := someR_snoc (m.take j) m[j]
      rw [← take_snoc' m j (by omega)] at hss
      by_cases hc : m[j] = []
      · have hc2 : ((m[j].length : Nat) : Int) = 0 := by rw [hc]; rfl
        rw [if_pos hc] at hss
        rw [hc] at q9
        have HS := hide (hsm.trans hss)
        have hjc : (j : Int) ≤ cm := by omega
        clear hsm hss hc hc2
        go_wp2
        go_roundw
        case rel => exact ⟨j, by omega, by go_num, HS.out, trivial⟩
        case measure => simp
      · have hc2 : (((m[j].length : Nat) : Int) == 0) = false := by
          rw [beq_eq_false_iff_ne]
          have := List.length_pos_iff.2 hc
          omega
        rw [if_neg hc] at hss
        have hmk : TR = joinR (m.take (j + 1)) := by rw [← HTR2.out, hsm, hss]
        obtain ⟨ml, hml⟩ : ∃ ml, m[j].length = ml := ⟨_, rfl⟩
        rw [hml] at q9 hc2
        clear hss hml hc
        have HMK := hide hmk
        clear hsm
        go_wp2
        go_loopw [4, 29] (fun o i wr => ∃ q : Nat, q ≤ j + 1 ∧ i = .int .i64 q ∧ Own (Rep.int .i32) 21 [] w1.heap.size wr o (joinR ((m.take (j + 1)).take q)) ∧ Below w1.heap.size w1 wr) (fun _ i _ => (j + 1) - (intOf i).toNat)
        case atStart => exact ⟨0, Nat.zero_le _, rfl, Own.nil_ _ _ _ _ _ (by simp), Below.refl _ _⟩
        case round =>
          obtain ⟨q, hq, rfl, hout, hbel⟩ := hrel
          have hszq := hbel.size
          by_cases hlt : q < j + 1
          · have hxr := hs1.mono (Keep.below (S := fun b => w0.heap.size ≤ b ∧ b < w1.heap.size) hbel) (Keep.below (S := fun b => w0.heap.size ≤ b ∧ b < w1.heap.size) hbel)
            obtain ⟨b, off, A2, c2, hA, _, q0, hv⟩ := rrow_at hxr.slb (k := q) (by omega)
            injection hA with hA
            injection hA with eb eo
            subst eb; subst eo
            have hqm : q < (m.take (j + 1)).length := by rw [List.length_take]; omega
            have htk := take_snoc' (m.take (j + 1)) q hqm
            have htk2 : (m.take (j + 1))[q] = m[q] := List.getElem_take
            rw [htk2] at htk
            have hj := joinR_len (m.take (j + 1)) (q + 1)
            rw [htk] at hj
            have hjs := joinR_snoc ((m.take (j + 1)).take q) m[q]
            have hv2 := hv.ints_any (fun _ => False)
            obtain ⟨rw9, hrw⟩ : ∃ rw9, m[q] = rw9 := ⟨_, rfl⟩
            rw [hrw] at q0 hv2 htk hjs hj
            have hqk : (q : Int) < ((j + 1 : Nat) : Int) := by omega
            have hqmI : (q : Int) < m.length := by omega
            rw [hjs] at hj
            have HJ := hide (show joinR ((m.take (j + 1)).take (q + 1)) = (if (m.take (j + 1)).take q = [] then [] else joinR ((m.take (j + 1)).take q) ++ [10]) ++ rw9 by rw [htk]; exact hjs)
            by_cases hq0 : q = 0
            · subst hq0
              rw [Nat.add_zero] at q0
              have e0 : joinR ((m.take (j + 1)).take 0) = [] := rfl
              rw [e0] at hout
              rw [if_pos (by rfl), List.nil_append] at HJ hj
              clear htk htk2 hjs hrw hv hxr e0
              have hll : rw9.length ≤ 10000 := by have := HTL.out; rw [HMK.out] at this; omega
              go_wp2_with (at_builtin; refine wpList_appg rfl (.tmp 39) (.tmp 40) 24 rfl (Rep.int .i32) 21 [] w1.heap.size 4 _ Tryz.underlying24 i32_info rfl (by decide) (by decide) _ _ rfl hout _ (fun _ => False) _ rw9 rfl hv2 (fun _ h => h.elim) (by first | (simp; omega) | simp) (by omega) ?_; intro v5 w5 hv5 hst5 hg5 hob5)
              go_roundw
              case rel => exact ⟨0 + 1, by omega, by go_num, by rw [HJ.out]; exact hv5, hbel.trans (hst5.below (by omega))⟩
              case measure => simp [intOf]
            · have hne : (m.take (j + 1)).take q ≠ [] := by intro e; have := congrArg List.length e; rw [List.length_take, List.length_take, List.length_nil] at this; omega
              rw [if_neg hne] at HJ hj
              have hqp : (0 : Int) < q := by omega
              have hll : (joinR ((m.take (j + 1)).take q)).length + 1 + rw9.length ≤ 10000 := by
                have := HTL.out; rw [HMK.out] at this
                simp only [List.length_append, List.length_singleton] at hj
                omega
              have hone := Slc.lit1 (R := Rep.int .i32) (Si := fun _ => False) (Si' := fun _ => False) (w := wr) (x := 10) (u := [.int .i32 10]) 21 ⟨rfl, by decide⟩ (fun _ _ h => h.elim)
              have hout2 := hout.alloc (.cells #[.int .i32 10] 21)
              have HONE := hide hone
              have HV2 := hide hv2
              obtain ⟨jn, hjn⟩ : ∃ jn, (joinR ((m.take (j + 1)).take q)) = jn := ⟨_, rfl⟩
              rw [hjn] at hout2 hll HJ
              clear htk htk2 hjs hrw hv hxr hone hne hout hjn hv2 hj
              go_wp2_with (first | (at_builtin; refine wpList_appg rfl (.tmp 36) (.tmp 37) 24 rfl (Rep.int .i32) 21 [] w1.heap.size 4 _ Tryz.underlying24 i32_info rfl (by decide) (by decide) _ _ rfl hout2 _ (fun _ => False) _ [10] rfl HONE.out (fun _ h => h.elim) (by simp; omega) (by simp; omega) ?_; intro v5 w5 hv5 hst5 hg5 hob5; have hb5 : Below w1.heap.size wr w5 := ((Below.refl _ wr).alloc (by omega) _).trans (hst5.below (by simp; omega)); have HV5 := hide ((HV2.out.ints_keep (Keep.alloc _ _ (.cells #[.int .i32 10] 21))).ints_keep (Keep.old hst5 (fun b hb => hb.2))); have HB5 := hide hb5; have hz5 := hb5.size; clear hst5 hg5 hob5 hb5 hout2) | (at_builtin; refine wpList_appg rfl (.tmp 39) (.tmp 40) 24 rfl (Rep.int .i32) 21 [] w1.heap.size 4 _ Tryz.underlying24 i32_info rfl (by decide) (by decide) _ _ rfl hv5 _ (fun _ => False) _ rw9 rfl HV5.out (fun _ h => h.elim) (by simp; omega) (by omega) ?_; intro v6 w6 hv6 hst6 hg6 hob6))
              go_roundw
              case rel => exact ⟨q + 1, by omega, by go_num, by rw [HJ.out]; exact hv6, (hbel.trans HB5.out).trans (hst6.below (by omega))⟩
              case measure => simp [intOf]; omega
          · obtain rfl : q = j + 1 := by omega
            rw [List.take_take, Nat.min_self] at hout
            have HO := hide hout
            clear hout
            go_wp2
            go_ret
            refine ⟨_, rfl, ?_, HB1.out.trans (hbel.mono HZ1.out)⟩
            rw [← HMK.out] at HO
            exact HO.out.flat_base (Flat.int .i32) HZ1.out (by simp)
end Go.Proofs.YtdjpdllehhecpaaGreatDoor
namespace Go.Proofs.YtdjpdllehhecpaaGreatDoor
open Go.RowKit
set_option linter.unusedVariables false
set_option linter.unusedSimpArgs false
set_option maxHeartbeats 2000000 in
theorem dBytes_ok (So Si : Nat → Prop) (W h r c : Int) (pd au : Bool) (x : Value) (ls : List LineV) (w : World) (hx : Slc RLine So Si w x ls) (hlen : ls.length ≤ 1000) (hall : ∀ l ∈ ls, l.1.length ≤ 1000 ∧ ∀ d ∈ l.1, d.2.length ≤ 16) (htl : (textR ls).length ≤ 10000) (hv : ∀ q ∈ textR ls, validB q = true) :
    Calls Tryz.prog 11 #[agV W h r c pd au x] w fun e w' => ∃ s, e = .returned s ∧ Own (Rep.int .u8) 5 [] w.heap.size w' s (putF (textR ls)) ∧ Below w.heap.size w w' := by
  obtain ⟨w0, hw0⟩ : ∃ w0, w.alloc (.cells #[.int .i64 W, .int .i64 h, x, .int .i64 r, .int .i64 c, .bool pd, .bool au] 41) = w0 := ⟨_, rfl⟩
  have hb0 : Below w.heap.size w w0 := by rw [← hw0]; exact (Below.refl _ w).alloc (Nat.le_refl _) _
  have hRT := rText_ok So Si W h r c pd au x ls w0 (hx.mono (Keep.below (S := So) hb0) (Keep.below (S := Si) hb0)) hlen hall htl
  unfold agV at hRT ⊢
  have hz0 := hb0.size
  obtain ⟨T, hT⟩ : ∃ T, textR ls = T := ⟨_, rfl⟩
  rw [hT] at hRT htl hv ⊢
  have hri := repl_id hv
  obtain ⟨A, cp, rfl, h1, h2, _⟩ := hx.open_
  have hv0 : Blk w0 w.heap.size 41 #[.int .i64 W, .int .i64 h, .slice A ls.length cp, .int .i64 r, .int .i64 c, .bool pd, .bool au] := by rw [← hw0]; exact Blk.new w _ _
  have z0 := hv0.cell 0
  have z1 := hv0.cell 1
  have z2 := hv0.cell 2
  have z3 := hv0.cell 3
  have z4 := hv0.cell 4
  have z5 := hv0.cell 5
  have z6 := hv0.cell 6
  simp only [zA, zB, zC] at z0 z1 z2 z3 z4 z5 z6
  have HRT := hide hRT
  have HW0 := hide hw0
  have HB0 := hide hb0
  have HV := hide hv
  have HRI := hide hri
  clear hRT hw0 hT hx hall hb0 hv0 hv hri
  go_enter Tryz.func11, Tryz.ntmps11
  go_upto_region 1 with fail
  rw [HW0.out]
  go_wp2_with fail
  refine HRT.out.mono ?_
  rintro e w1 ⟨s1, rfl, hs1, hb1⟩
  obtain ⟨A1, c1, rfl, _, _, _⟩ := hs1.islc.open_
  have HRP := hide (Replace_ok _ _ _ _ w1 hs1.islc (by omega))
  have HB1 := hide (HB0.out.trans (hb1.mono hz0))
  clear hs1 hb1 z0 z1 z2 z3 z4 z5 z6
  go_wp2_with fail
  refine HRP.out.mono ?_
  rintro e w2 ⟨s2, rfl, hs2, hb2⟩
  rw [HRI.out] at hs2
  obtain ⟨A2, c2, rfl, _, _, _⟩ := hs2.islc.open_
  have HPT := hide (sPut_ok _ _ _ _ w2 hs2.islc (by omega) HV.out)
  have HB2 := hide (HB1.out.trans (hb2.mono HB1.out.size))
  clear hs2 hb2
  go_wp2_with fail
  refine HPT.out.mono ?_
  rintro e w3 ⟨s3, rfl, hs3, hb3⟩
  obtain ⟨A3, c3, rfl, _, _, _⟩ := hs3.islc.open_
  have HS3 := hide hs3
  have HB3 := hide hb3
  clear hs3 hb3
  go_wp2
  go_ret
  exact ⟨_, rfl, HS3.out.flat_base (Flat.int .u8) HB2.out.size (by simp), HB2.out.trans (HB3.out.mono HB2.out.size)⟩
end Go.Proofs.YtdjpdllehhecpaaGreatDoor
