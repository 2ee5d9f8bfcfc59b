import Derived.Test.YtdjpdllehhecpaaGreatDoorQ07
import Derived.Test.YtdjpdllehhecpaaGreatDoorQ05
open List renaming getElem?_toArray → zA, getElem?_cons_succ → zB, getElem?_cons_zero → zC, setIfInBounds_toArray → zD, set_cons_zero → zE, set_cons_succ → zF
namespace Go.Proofs.YtdjpdllehhecpaaGreatDoor
open Go.RowKit
set_option linter.unusedVariables false
theorem some_ok (So Si : Nat → Prop) (x : Value) (b0 : Int) (r : List Int) (m : Int) (n : Nat) (w : World) (hx : Slc (Rep.int .u8) So Si w x (b0 :: r)) (hm : m = n) (h1 : 1 ≤ n) (h4 : n ≤ 4) (hr : r.length + 1 ≤ n) :
    Calls Tryz.prog 107 #[x, .int .i64 m] w fun e w' => e = .returned (.bool (someB b0 r n)) ∧ Below w.heap.size w w' := by
  subst hm
  have hn : n = 1 ∨ n = 2 ∨ n = 3 ∨ n = 4 := by omega
  rcases hn with rfl | rfl | rfl | rfl
  · exact some_ok1 So Si x b0 r w hx (by omega)
  · exact some_ok2 So Si x b0 r w hx (by omega)
  · exact some_ok3 So Si x b0 r w hx (by omega)
  · exact some_ok4 So Si x b0 r w hx (by omega)
set_option maxHeartbeats 400000 in
theorem Begins_ok (So Si : Nat → Prop) (x : Value) (b0 : Int) (r : List Int) (w : World) (hx : Slc (Rep.int .u8) So Si w x (b0 :: r)) :
    Calls Tryz.prog 71 #[x] w fun e w' => e = .returned (.int .i64 (beginsF (b0 :: r))) ∧ Below w.heap.size w w' := by
  have hb0 := u8_wf (hx.ints_wf b0 (by simp))
  have hbeg := begins_some b0 r hb0.1
  have HBEG := hide hbeg
  obtain ⟨A, c, rfl, hc1, hc2, _⟩ := hx.open_
  have hlen : (b0 :: r).length = r.length + 1 := rfl
  rw [hlen] at *
  have HX := hide hx
  clear hbeg hx hlen
  go_enter Tryz.func71, Tryz.ntmps71
  go_wp2
  go_loopw [3] (fun n wr => ∃ k : Nat, k ≤ 4 ∧ n = .int .i64 (k + 1 : Nat) ∧ (∀ j, 1 ≤ j → j ≤ k → ¬ (r.length + 1 ≤ j ∧ someB b0 r j = true)) ∧ Below w.heap.size w wr) (fun n _ => 5 - (intOf n).toNat)
  case atStart => exact ⟨0, by omega, rfl, fun j h1 h2 => absurd h1 (by omega), Below.refl _ _⟩
  case round =>
    obtain ⟨k, hk, rfl, hpre, hbel⟩ := hrel
    have HP := hide hpre
    clear hpre
    by_cases hlt : k < 4
    · by_cases hle : r.length + 1 ≤ k + 1
      · have hle' : ((r.length : Int) + 1) ≤ (k : Int) + 1 := by omega
        have hx' := HX.out.ints_keep (Keep.below hbel)
        by_cases hs : someB b0 r (k + 1) = true
        · have hcall := fun m hm => some_ok _ _ _ b0 r m (k + 1) wr hx' hm (by omega) (by omega) hle
          rw [hs] at hcall
          have HCALL := hide hcall
          have hres : beginsF (b0 :: r) = (k : Int) + 1 := by
            have h1 := HP.out 1
            have h2 := HP.out 2
            have h3 := HP.out 3
            rw [HBEG.out]
            have hkk : k = 0 ∨ k = 1 ∨ k = 2 ∨ k = 3 := by omega
            rcases hkk with rfl | rfl | rfl | rfl
            · rw [if_pos ⟨by omega, hs⟩]; rfl
            · rw [if_neg (h1 (by omega) (by omega)), if_pos ⟨by omega, hs⟩]; rfl
            · rw [if_neg (h1 (by omega) (by omega)), if_neg (h2 (by omega) (by omega)), if_pos ⟨by omega, hs⟩]; rfl
            · rw [if_neg (h1 (by omega) (by omega)), if_neg (h2 (by omega) (by omega)), if_neg (h3 (by omega) (by omega)), if_pos ⟨by omega, hs⟩]; rfl
          have HRES := hide hres
          clear hcall hs hres hx'
          go_wp2_with (go_at_call 107; refine (HCALL.out _ (by omega)).mono ?_; rintro e w1 ⟨rfl, hb1⟩)
          go_ret
          exact ⟨ret_1 (int_eq HRES.out.symm), hbel.trans (hb1.mono hbel.size)⟩
        · have hs' : someB b0 r (k + 1) = false := by simpa using hs
          have hcall := fun m hm => some_ok _ _ _ b0 r m (k + 1) wr hx' hm (by omega) (by omega) hle
          rw [hs'] at hcall
          have HCALL := hide hcall
          have HS := hide hs
          clear hcall hs hs' hx'
          go_wp2_with (go_at_call 107; refine (HCALL.out _ (by omega)).mono ?_; rintro e w1 ⟨rfl, hb1⟩)
          go_roundw
          case rel =>
            refine ⟨k + 1, by omega, by go_num, fun j h1 h2 => ?_, hbel.trans (hb1.mono hbel.size)⟩
            by_cases e : j = k + 1
            · subst e; exact fun h => HS.out h.2
            · exact HP.out j h1 (by omega)
          case measure => simp [intOf]; omega
      · have hle' : (k : Int) + 1 < ((r.length : Int) + 1) := by omega
        go_wp2
        go_roundw
        case rel =>
          refine ⟨k + 1, by omega, by go_num, fun j h1 h2 => ?_, hbel⟩
          by_cases e : j = k + 1
          · subst e; exact fun h => hle h.1
          · exact HP.out j h1 (by omega)
        case measure => simp [intOf]; omega
    · obtain rfl : k = 4 := by omega
      have hres : beginsF (b0 :: r) = 0 := by
        rw [HBEG.out, if_neg (HP.out 1 (by omega) (by omega)), if_neg (HP.out 2 (by omega) (by omega)), if_neg (HP.out 3 (by omega) (by omega)), if_neg (HP.out 4 (by omega) (by omega))]
      have HRES := hide hres
      clear hres
      go_wp2
      go_ret
      exact ⟨ret_1 (int_eq HRES.out.symm), hbel⟩
set_option maxHeartbeats 1000000 in
theorem whole_ok (So Si : Nat → Prop) (x : Value) (b0 : Int) (r : List Int) (w : World) (hx : Slc (Rep.int .u8) So Si w x (b0 :: r)) (hr : r.length ≤ 3) (hl : leadF b0 = (r.length : Int) + 1) (ht : ∀ b ∈ r, 128 ≤ b ∧ b ≤ 191) :
    Calls Tryz.prog 148 #[x] w fun e w' => e = .returned (.int .i32 (wholeF (b0 :: r))) ∧ Below w.heap.size w w' := by
  have hb0 := u8_wf (hx.ints_wf b0 (by simp))
  have hbd := accF_bound b0 r hb0 hr hl ht
  have hmk := bitsF_mark b0 (r.length + 1) hb0.1 (by omega) (by omega) (by rw [hl]; simp)
  have h00 : accF (b0 :: r) 0 = bitsF b0 := rfl
  have hwh : wholeF (b0 :: r) = accF (b0 :: r) r.length := by unfold wholeF; simp
  obtain ⟨A, c, rfl, hc1, hc2, hB⟩ := hx.open_
  have hlen : (b0 :: r).length = r.length + 1 := rfl
  rw [hlen] at *
  obtain ⟨ab, off, rfl, _, hc0, _⟩ := ints_at hB (j := 0) (by simp)
  simp only [Nat.add_zero, List.getElem_cons_zero] at hc0
  have habl := World.block_lt_of_cell? w _ hc0
  simp only at habl
  have hcell : ∀ k, k < r.length → w.cell? ⟨ab, off + (k + 1), none⟩ = some (.int .u8 ((b0 :: r).getD (k + 1) 0)) ∧ 0 ≤ (b0 :: r).getD (k + 1) 0 ∧ (b0 :: r).getD (k + 1) 0 ≤ 255 := by
    intro k hk
    obtain ⟨ab', off', ha', _, hck, hwk⟩ := ints_at hB (j := k + 1) (by simp; omega)
    obtain ⟨rfl, rfl⟩ : ab = ab' ∧ off = off' := by simpa using ha'
    have e : (b0 :: r).getD (k + 1) 0 = r[k] := by simp [List.getD, hk]
    rw [e]
    simp only [List.getElem_cons_succ] at hck hwk
    exact ⟨hck, u8_wf hwk⟩
  have hstep : ∀ k, accF (b0 :: r) (k + 1) = accF (b0 :: r) k * 64 + (b0 :: r).getD (k + 1) 0 - 128 := fun k => rfl
  rw [hmk] at h00
  generalize hac : accF (b0 :: r) = ac at *
  generalize hfg : (b0 :: r).getD = fg at *
  have hn : r.length = 0 ∨ r.length = 1 ∨ r.length = 2 ∨ r.length = 3 := by omega
  rcases hn with e | e | e | e
  · rw [e] at h00 hwh
    simp only [e, Nat.reduceAdd] at hbd hcell ⊢
    have hm : markF 1 = 0 := rfl
    simp only [Nat.reduceAdd, hm] at h00
    have HBD := hide hbd
    have HC := hide hcell
    have H00 := hide h00
    have HST := hide hstep
    have HW := hide hwh
    clear hbd hcell h00 hstep hwh hmk hac hfg hm hx hB e hl ht hlen
    go_enter Tryz.func148, Tryz.ntmps148
    go_wp2
    go_quiet (fail)
    go_wp2
    go_loop [4, 5] (fun v i => ∃ k : Nat, k ≤ 0 ∧ i = .int .i64 (k + 1 : Nat) ∧ v = .int .i64 (ac k)) (fun _ i => 1 - (intOf i).toNat)
    case atStart => exact ⟨0, by omega, rfl, int_eq (by rw [H00.out]; omega)⟩
    case round =>
      obtain ⟨k, hk, rfl, rfl⟩ := hrel
      have hb1 := HBD.out k hk
      by_cases hlt : k < 0
      · omega
      · obtain rfl : k = 0 := by omega
        go_wp2
        go_ret
        exact ⟨ret_1 (int_eq (by rw [HW.out])), below_drewN ((Below.refl _ _).alloc (Nat.le_refl _) _) _⟩
  · rw [e] at h00 hwh
    simp only [e, Nat.reduceAdd] at hbd hcell ⊢
    have hm : markF 2 = 192 := rfl
    simp only [Nat.reduceAdd, hm] at h00
    have HBD := hide hbd
    have HC := hide hcell
    have H00 := hide h00
    have HST := hide hstep
    have HW := hide hwh
    clear hbd hcell h00 hstep hwh hmk hac hfg hm hx hB e hl ht hlen
    go_enter Tryz.func148, Tryz.ntmps148
    go_wp2
    go_quiet (fail)
    go_wp2
    go_loop [4, 5] (fun v i => ∃ k : Nat, k ≤ 1 ∧ i = .int .i64 (k + 1 : Nat) ∧ v = .int .i64 (ac k)) (fun _ i => 2 - (intOf i).toNat)
    case atStart => exact ⟨0, by omega, rfl, int_eq (by rw [H00.out])⟩
    case round =>
      obtain ⟨k, hk, rfl, rfl⟩ := hrel
      have hb1 := HBD.out k hk
      by_cases hlt : k < 1
      · obtain ⟨hck, hy0, hy1⟩ := HC.out k hlt
        have hb2 := HBD.out (k + 1) (by omega)
        go_wp2
        go_round
        case rel => exact ⟨k + 1, by omega, by go_num, int_eq (by rw [HST.out])⟩
        case measure => simp [intOf]; omega
      · obtain rfl : k = 1 := by omega
        go_wp2
        go_ret
        exact ⟨ret_1 (int_eq (by rw [HW.out])), below_drewN ((Below.refl _ _).alloc (Nat.le_refl _) _) _⟩
  · rw [e] at h00 hwh
    simp only [e, Nat.reduceAdd] at hbd hcell ⊢
    have hm : markF 3 = 224 := rfl
    simp only [Nat.reduceAdd, hm] at h00
    have HBD := hide hbd
    have HC := hide hcell
    have H00 := hide h00
    have HST := hide hstep
    have HW := hide hwh
    clear hbd hcell h00 hstep hwh hmk hac hfg hm hx hB e hl ht hlen
    go_enter Tryz.func148, Tryz.ntmps148
    go_wp2
    go_quiet (fail)
    go_wp2
    go_loop [4, 5] (fun v i => ∃ k : Nat, k ≤ 2 ∧ i = .int .i64 (k + 1 : Nat) ∧ v = .int .i64 (ac k)) (fun _ i => 3 - (intOf i).toNat)
    case atStart => exact ⟨0, by omega, rfl, int_eq (by rw [H00.out])⟩
    case round =>
      obtain ⟨k, hk, rfl, rfl⟩ := hrel
      have hb1 := HBD.out k hk
      by_cases hlt : k < 2
      · obtain ⟨hck, hy0, hy1⟩ := HC.out k hlt
        have hb2 := HBD.out (k + 1) (by omega)
        go_wp2
        go_round
        case rel => exact ⟨k + 1, by omega, by go_num, int_eq (by rw [HST.out])⟩
        case measure => simp [intOf]; omega
      · obtain rfl : k = 2 := by omega
        go_wp2
        go_ret
        exact ⟨ret_1 (int_eq (by rw [HW.out])), below_drewN ((Below.refl _ _).alloc (Nat.le_refl _) _) _⟩
  · rw [e] at h00 hwh
    simp only [e, Nat.reduceAdd] at hbd hcell ⊢
    have hm : markF 4 = 240 := rfl
    simp only [Nat.reduceAdd, hm] at h00
    have HBD := hide hbd
    have HC := hide hcell
    have H00 := hide h00
    have HST := hide hstep
    have HW := hide hwh
    clear hbd hcell h00 hstep hwh hmk hac hfg hm hx hB e hl ht hlen
    go_enter Tryz.func148, Tryz.ntmps148
    go_wp2
    go_quiet (fail)
    go_wp2
    go_loop [4, 5] (fun v i => ∃ k : Nat, k ≤ 3 ∧ i = .int .i64 (k + 1 : Nat) ∧ v = .int .i64 (ac k)) (fun _ i => 4 - (intOf i).toNat)
    case atStart => exact ⟨0, by omega, rfl, int_eq (by rw [H00.out])⟩
    case round =>
      obtain ⟨k, hk, rfl, rfl⟩ := hrel
      have hb1 := HBD.out k hk
      by_cases hlt : k < 3
      · obtain ⟨hck, hy0, hy1⟩ := HC.out k hlt
        have hb2 := HBD.out (k + 1) (by omega)
        go_wp2
        go_round
        case rel => exact ⟨k + 1, by omega, by go_num, int_eq (by rw [HST.out])⟩
        case measure => simp [intOf]; omega
      · obtain rfl : k = 3 := by omega
        go_wp2
        go_ret
        exact ⟨ret_1 (int_eq (by rw [HW.out])), below_drewN ((Below.refl _ _).alloc (Nat.le_refl _) _) _⟩
end Go.Proofs.YtdjpdllehhecpaaGreatDoor
namespace Go.Proofs.YtdjpdllehhecpaaGreatDoor
open Go.RowKit
set_option linter.unusedVariables false
set_option maxHeartbeats 1000000 in
theorem rStep_gen (So Si : Nat → Prop) (x : Value) (h : List Int) (b : Int) (w : World) (hx : Slc (Rep.int .u8) So Si w x h) (hb0 : 0 ≤ b) (hb1 : b ≤ 255) (hlen : h.length ≤ 1000000)
    (hrec : h ≠ [] → ∀ w : World, Calls Tryz.prog 108 #[.slice none 0 0, .int .u8 b] w fun e w' =>
      ∃ v1 v2, e = .returned (.tuple #[v1, v2]) ∧ Own (Rep.int .i32) 21 [] w.heap.size w' v1 (refStepF [] b).1 ∧ Own (Rep.int .u8) 5 [] w.heap.size w' v2 (refStepF [] b).2 ∧ Below w.heap.size w w') :
    Calls Tryz.prog 108 #[x, .int .u8 b] w fun e w' =>
      ∃ v1 v2, e = .returned (.tuple #[v1, v2]) ∧ Own (Rep.int .i32) 21 [] w.heap.size w' v1 (refStepF h b).1 ∧ Own (Rep.int .u8) 5 [] w.heap.size w' v2 (refStepF h b).2 ∧ Below w.heap.size w w' := by
  obtain ⟨A, c, rfl, hc1, hc2, hB⟩ := hx.open_
  obtain ⟨y0, r, hyr⟩ : ∃ y0 r, h ++ [b] = y0 :: r := by cases h with | nil => exact ⟨b, [], rfl⟩ | cons y t => exact ⟨y, t ++ [b], rfl⟩
  have hnl : (h.length : Int) = r.length := by have := congrArg List.length hyr; simp at this; omega
  have hcase : refStepF h b = if 0 < beginsF (y0 :: r) ∧ (r.length : Int) + 1 < beginsF (y0 :: r) then ([], y0 :: r) else if 0 < beginsF (y0 :: r) then ([wholeF (y0 :: r)], []) else if h = [] then ([65533], []) else (65533 :: (step0F b).1, (step0F b).2) := by
    unfold refStepF
    rw [hyr, hnl]
  have hz0 : Own (Rep.int .u8) 5 [] w.heap.size (w.alloc (.cells #[] 5)) (.slice (some ⟨w.heap.size, 0, none⟩) 0 0) [] := own_u8 w [] (by simp) _ _ 0 (Nat.le_refl _) rfl rfl (by simp [maxLen])
  have hxs := (hx.ints_keep (Keep.alloc So w (.cells #[] 5)))
  have HN := hide hnl
  have HY := hide hyr
  have HCASE := hide hcase
  have hb12 := fun W m hm => own_u8 W [b] (by intro n hn; simp at hn; subst hn; exact wf_u8 hb0 hb1) m m 1 (Nat.le_refl _) hm rfl (by simp [maxLen])
  have HB := hide hb12
  have HREC := hide hrec
  clear hnl hcase hyr hb12 hrec
  have hbg := begins_pos (y0 :: r)
  go_enter Tryz.func108, Tryz.ntmps108
  go_wp2_with (first
    | (at_builtin; refine wpList_appi rfl (.tmp 10) (.tmp 11) 138 rfl .u8 5 w.heap.size 1 Tryz.underlying138 u8_info (by decide) _ _ rfl hz0 _ _ _ _ rfl hxs (by simp; omega) (by simp) ?_; intro v1 w1 hv1 hst1)
    | (at_builtin; go_loud (refine wpList_appi rfl (.tmp 12) (.tmp 14) 138 rfl .u8 5 w.heap.size 1 Tryz.underlying138 u8_info (by decide) _ _ rfl (hv1.alloc _) _ _ _ _ rfl ((HB.out _ _ rfl).islc) (by simp; omega) (by have := hst1.size; simp at this; simp; omega) ?_); intro v2 w2 hv2 hst2))
  have hv2' : Own (Rep.int .u8) 5 [] w.heap.size w2 v2 (y0 :: r) := by
    have := hv2
    rwa [List.nil_append, HY.out] at this
  have hs2 : Step w.heap.size [5] w w2 := (((Step.refl _ _ w).alloc _).trans hst1).trans ((Step.alloc1 _ _ w1 _).trans hst2)
  have hsz2 := hs2.size
  obtain ⟨A2, c2, rfl, hd1, hd2, hB2⟩ := hv2'.slc.open_
  have hl2 : (y0 :: r).length = r.length + 1 := rfl
  rw [hl2] at *
  clear hl2
  refine (Begins_ok _ _ _ y0 r w2 hv2'.islc).mono ?_
  rintro e w3 ⟨rfl, hb3⟩
  have hv3 := hv2'.below hb3
  have hs3 : Step w.heap.size [5] w w3 := hs2.trans (Step.of_below hb3)
  have hsz3 := hs3.size
  have hbel3 : Below w.heap.size w w3 := hs3.below (Nat.le_refl _)
  by_cases c1 : 0 < beginsF (y0 :: r) ∧ (r.length : Int) + 1 < beginsF (y0 :: r)
  · have hres : refStepF h b = ([], y0 :: r) := by rw [HCASE.out, if_pos c1]
    have HRES := hide hres
    obtain ⟨c1a, c1b⟩ := c1
    clear hres
    go_wp2
    go_ret2
    rw [HRES.out]
    exact ⟨_, _, rfl, Own.nil_ _ _ _ _ _ (by simp), hv3, hbel3⟩
  · by_cases c2 : 0 < beginsF (y0 :: r)
    · have hres : refStepF h b = ([wholeF (y0 :: r)], []) := by rw [HCASE.out, if_neg c1, if_pos c2]
      have HRES := hide hres
      have c3 : beginsF (y0 :: r) ≤ (r.length : Int) + 1 := by omega
      obtain ⟨q1, q2, q3, q4⟩ := begins_whole y0 r c2 c3
      have hwy := u8_wf (hv3.islc.ints_wf y0 (by simp))
      have hac := accF_bound y0 r hwy q2 q1 q3 r.length (Nat.le_refl _)
      have hwh : wholeF (y0 :: r) = accF (y0 :: r) r.length := by unfold wholeF; simp
      rw [← hwh] at hac
      have hW := whole_ok _ _ _ y0 r w3 hv3.islc q2 q1 q3
      have HW := hide hW
      clear hres q1 q2 q3 q4 hwh hW c1
      go_wp2_with (go_at_call 148; refine HW.out.mono ?_; rintro e w4 ⟨rfl, hb4⟩)
      go_ret2
      rw [HRES.out]
      have hsz4 := hb4.size
      exact ⟨_, _, rfl, own_i32 w4 [wholeF (y0 :: r)] (by intro n hn; simp at hn; subst hn; exact wf_i32 (by omega) (by omega)) _ _ 1 (by omega) rfl rfl (by simp [maxLen]), Own.nil_ _ _ _ _ _ (by simp), (hbel3.trans (hb4.mono (by omega))).alloc (by omega) _⟩
    · by_cases c3 : h = []
      · have hres : refStepF h b = ([65533], []) := by rw [HCASE.out, if_neg c1, if_neg c2, if_pos c3]
        have HRES := hide hres
        have hl0 : ((h.length : Int) == 0) = true := by rw [c3]; rfl
        have c2' : beginsF (y0 :: r) ≤ 0 := by omega
        clear hres c1 c2 c3
        go_wp2
        go_ret2
        rw [HRES.out]
        exact ⟨_, _, rfl, own_i32 w3 [65533] (by decide) _ _ 1 (by omega) rfl rfl (by simp [maxLen]), Own.nil_ _ _ _ _ _ (by simp), hbel3.alloc (by omega) _⟩
      · have hres : refStepF h b = (65533 :: (step0F b).1, (step0F b).2) := by rw [HCASE.out, if_neg c1, if_neg c2, if_neg c3]
        have HRES := hide hres
        have hl0 : ((h.length : Int) == 0) = false := by simp; exact c3
        have c2' : beginsF (y0 :: r) ≤ 0 := by omega
        have hrec := HREC.out c3
        rw [step_nil b hb0] at hrec
        have HR := hide hrec
        have hl1 := step0_len b
        clear hres c1 c2 c3 hrec
        go_wp2_with fail
        refine (HR.out _).mono ?_
        rintro e w4 ⟨v4, v5, rfl, hv4, hv5, hb4⟩
        have hsz4 := hb4.size
        have hk1 := fun W (hW : Step w4.heap.size [] w4 W) => hv4.step (es := []) (hW.mono hsz4 (by simp)) (by simp) (by simp)
        have hk4 := hv4.alloc (.cells #[.int .i32 65533] 21)
        have hk5 := hv5.alloc (.cells #[.int .i32 65533] 21)
        have ho5 := own_i32 w4 [65533] (by decide) w4.heap.size w4.heap.size 1 (Nat.le_refl _) rfl rfl (by simp [maxLen])
        go_wp2_with (at_builtin; go_loud (refine wpList_appi rfl (.tmp 41) (.tmp 42) 24 rfl .i32 21 w4.heap.size 4 Tryz.underlying24 i32_info (by decide) _ _ rfl ho5 _ _ _ _ rfl hk4.islc (by simp; omega) (by simp) ?_); intro v6 w6 hv6 hst6)
        go_ret2
        rw [HRES.out]
        have hst : Step w.heap.size [5, 21] w w6 := (((hs3.mono (Nat.le_refl _) (by simp)).trans (Step.of_below (hb4.mono (Nat.le_refl _)))).alloc _).trans (hst6.mono (by omega) (by simp))
        exact ⟨_, _, rfl, hv6.ints_base (by omega) (by simp), (hk5.ints_step hst6 (by decide)).ints_base (by omega) (by simp), hst.below (Nat.le_refl _)⟩
theorem rStep_ok (So Si : Nat → Prop) (x : Value) (h : List Int) (b : Int) (w : World) (hx : Slc (Rep.int .u8) So Si w x h) (hb0 : 0 ≤ b) (hb1 : b ≤ 255) (hlen : h.length ≤ 1000000) :
    Calls Tryz.prog 108 #[x, .int .u8 b] w fun e w' =>
      ∃ v1 v2, e = .returned (.tuple #[v1, v2]) ∧ Own (Rep.int .i32) 21 [] w.heap.size w' v1 (refStepF h b).1 ∧ Own (Rep.int .u8) 5 [] w.heap.size w' v2 (refStepF h b).2 ∧ Below w.heap.size w w' :=
  rStep_gen So Si x h b w hx hb0 hb1 hlen fun _ w1 => rStep_gen (fun _ => False) (fun _ => False) _ [] b w1 Slc.nil_ hb0 hb1 (by simp) fun h => absurd rfl h
set_option maxHeartbeats 400000 in
theorem rFeed_ok (So Si To Ti : Nat → Prop) (x y : Value) (h l : List Int) (w : World) (hx : Slc (Rep.int .u8) So Si w x h) (hy : Slc (Rep.int .u8) To Ti w y l) (hh : h.length ≤ 10) (hp : Pre h) (hb : Bytes h) (hlen : l.length ≤ 1000000) :
    Calls Tryz.prog 72 #[x, y] w fun e w' =>
      ∃ v1 v2, e = .returned (.tuple #[v1, v2]) ∧ Own (Rep.int .i32) 21 [] w.heap.size w' v1 (feedF h l).1 ∧ Slc (Rep.int .u8) (Typed w.heap.size [5] w') (fun _ => False) w' v2 (feedF h l).2 ∧ Below w.heap.size w w' := by
  have hxk : Slc (Rep.int .u8) (Typed w.heap.size [5] w) (fun _ => False) w x h := (hx.ints_any (fun _ => False)).mono (Si' := fun _ => False) (fun p u hs hc => ⟨.inl (World.block_lt_of_cell? w p hc), hc⟩) (fun _ _ h _ => h.elim)
  have hbl : Bytes l := fun n hn => u8_wf (hy.ints_wf n hn)
  obtain ⟨B, d, rfl, hm1, hm2, hB⟩ := hy.open_
  go_enter Tryz.func72, Tryz.ntmps72
  go_wp2
  go_loopw [0, 6, 7] (fun hv out i wr => ∃ k : Nat, k ≤ l.length ∧ i = .int .i64 k ∧ Own (Rep.int .i32) 21 [] w.heap.size wr out (feedF h (l.take k)).1 ∧
      Slc (Rep.int .u8) (Typed w.heap.size [5] wr) (fun _ => False) wr hv (feedF h (l.take k)).2 ∧ Below w.heap.size w wr)
    (fun _ _ i _ => l.length - (intOf i).toNat)
  case atStart => exact ⟨0, Nat.zero_le _, rfl, Own.nil_ _ _ _ _ _ (by simp), hxk, Below.refl _ _⟩
  case round =>
    obtain ⟨k, hk, rfl, hown, hhk, hbel⟩ := hrel
    have hBk := hB.ints_keep (Keep.below hbel)
    have hsz := hbel.size
    by_cases hlt : k < l.length
    · obtain ⟨ab, off, rfl, _, hck, hwk⟩ := ints_at hBk hlt
      obtain ⟨hw0, hw1⟩ := u8_wf hwk
      have hsn := feedF_snoc (l.take k) h l[k]
      rw [← take_snoc' l k hlt] at hsn
      have Hsn := hide hsn
      have hlk := feed_len (l.take k) h
      have hlk2 : (l.take k).length ≤ k := List.length_take_le _ _
      have hlr := refStep_len (feedF h (l.take k)).2 l[k]
      have hpk := feed_pre (l.take k) h hp hb (fun n hn => hbl n (List.mem_of_mem_take hn))
      have hpl := pre_length hpk.1 hpk.2
      clear hsn hpk
      go_wp2_with fail
      refine (rStep_ok _ _ _ _ _ _ hhk hw0 hw1 (by omega)).mono ?_
      rintro e w1 ⟨v1, v2, rfl, hv1, hv2, hb1⟩
      have hown1 := hown.below hb1
      have hsz1 := hb1.size
      go_wp2_with (at_builtin; refine wpList_appi rfl (.tmp 24) (.tmp 25) 24 rfl .i32 21 w.heap.size 4 Tryz.underlying24 i32_info (by decide) _ _ rfl hown1 _ _ _ _ rfl hv1.islc (by omega) (by omega) ?_; intro v3 w3 hv3 hst3)
      go_roundw
      case rel =>
        have hst : Step w.heap.size [21] w1 w3 := hst3
        have hv2' := (hv2.ints_step hst (by decide)).islc
        refine ⟨k + 1, by omega, by go_num, ?_, ?_, (hbel.trans (hb1.mono hsz)).trans (hst.below (by omega))⟩
        · rw [Hsn.out]; exact hv3
        · rw [Hsn.out]
          exact hv2'.mono (Si' := fun _ => False) (Keep.weaken fun b hb => Fresh.typed (by simp) b hb.2) (fun _ _ h _ => h.elim)
      case measure => simp [intOf]; omega
    · have e : l.take k = l := List.take_of_length_le (by omega)
      rw [e] at hown hhk
      go_wp2
      go_ret2
      exact ⟨_, _, rfl, hown, hhk, hbel⟩
end Go.Proofs.YtdjpdllehhecpaaGreatDoor
namespace Go.Proofs.YtdjpdllehhecpaaGreatDoor
open Go.RowKit
set_option linter.unusedVariables false
theorem got_at {So Si : Nat → Prop} {w : World} {A : Option Addr} {l : List Got} (h : SlB RGot So Si w A l) {k : Nat} (hk : k < l.length) :
    ∃ b off, A = some ⟨b, off, none⟩ ∧ So b ∧ w.cell? ⟨b, off + k * 5, none⟩ = some (.int .i32 l[k].r) ∧ w.cell? ⟨b, off + k * 5 + 1, none⟩ = some (.int .i64 l[k].at_) ∧ w.cell? ⟨b, off + k * 5 + 2, none⟩ = some (.int .i64 l[k].len) ∧
      w.cell? ⟨b, off + k * 5 + 3, none⟩ = some (.int .i64 l[k].known) ∧ w.cell? ⟨b, off + k * 5 + 4, none⟩ = some (.bool l[k].bad) := by
  obtain ⟨b, off, u, rfl, hs, hu, hc⟩ := h.at_ (k := k) (x := l[k]) (List.getElem?_eq_getElem hk) (by decide)
  have hu' : u = gotCells l[k] := hu
  subst hu'
  have h0 := hc 0 (by decide)
  have h1 := hc 1 (by decide)
  have h2 := hc 2 (by decide)
  have h3 := hc 3 (by decide)
  have h4 := hc 4 (by decide)
  have e : RGot.sz = 5 := rfl
  rw [e] at h0 h1 h2 h3 h4
  simp only [← Nat.add_assoc, Nat.add_zero] at h0 h1 h2 h3 h4
  exact ⟨b, off, rfl, hs, h0, h1, h2, h3, h4⟩
theorem part_r (b0 : Int) (r : List Int) (pos : Int) (hb : 0 ≤ b0 ∧ b0 ≤ 255) : 0 ≤ (partF (b0 :: r) pos).r ∧ (partF (b0 :: r) pos).r ≤ 2097151 := by
  unfold partF
  by_cases h0 : reachK (b0 :: r) = 0
  · rw [if_pos h0]; simp
  · rw [if_neg h0]
    by_cases h1 : (reachK (b0 :: r) : Int) < leadF b0
    · rw [if_pos (by simpa using h1)]; simp
    · rw [if_neg (by simpa using h1)]
      obtain ⟨t, ht1, ht2, ht3, ht4, ht5, ht6⟩ := reach_whole b0 r h0 h1
      simp only [ht1]
      have := accF_bound b0 t hb ht3 ht2.symm ht4 t.length (Nat.le_refl _)
      have hwh : wholeF (b0 :: t) = accF (b0 :: t) t.length := by unfold wholeF; simp
      rw [hwh]; exact this
theorem all_r : ∀ (n : Nat) (b : List Int) (pos : Int), Bytes b → ∀ g ∈ allN n b pos, 0 ≤ g.r ∧ g.r ≤ 2097151
  | 0, _, _, _, g, hg => by simp [allN] at hg
  | n + 1, b, pos, hb, g, hg => by
    simp only [allN] at hg
    cases b with
    | nil => simp at hg
    | cons b0 r =>
      rw [if_neg (by simp)] at hg
      rcases List.mem_cons.1 hg with rfl | hg
      · exact part_r b0 r pos (hb b0 (by simp))
      · exact all_r n _ _ (fun m hm => hb m (List.mem_of_mem_drop hm)) g hg
set_option maxHeartbeats 1000000 in
theorem Valid_ok (So Si : Nat → Prop) (x : Value) (l : List Int) (w : World) (hx : Slc (Rep.int .u8) So Si w x l) (hlen : l.length ≤ 100000) :
    Calls Tryz.prog 16 #[x] w fun e w' => e = .returned (.bool (!(allF l).any Got.bad)) ∧ Below w.heap.size w w' := by
  have hall := All_ok So Si x l w hx hlen
  have hlr2 : (allF l).length ≤ l.length := all_len l.length l 0
  generalize hg : allF l = gs at *
  have HALL := hide hall
  clear hg hall
  go_enter Tryz.func16, Tryz.ntmps16
  go_wp2_with fail
  refine HALL.out.mono ?_
  rintro e w1 ⟨v1, rfl, hv1, hb1⟩
  have hsz1 := hb1.size
  obtain ⟨A1, c1, rfl, hd1, hd2, hB1⟩ := (hv1.fslc RGot.flat).open_
  go_wp2
  go_loopw [8] (fun i wr => ∃ k : Nat, k ≤ gs.length ∧ i = .int .i64 k ∧ (gs.take k).any Got.bad = false ∧ Below w1.heap.size w1 wr) (fun i _ => gs.length - (intOf i).toNat)
  case atStart => exact ⟨0, Nat.zero_le _, rfl, rfl, Below.refl _ _⟩
  case round =>
    obtain ⟨k, hk, rfl, hno, hst⟩ := hrel
    have hsz := hst.size
    have HNO := hide hno
    clear hno
    by_cases hlt : k < gs.length
    · have hBk := hB1.flat_keep RGot.flat (Si' := fun _ => False) (Keep.below hst)
      obtain ⟨gb, go, rfl, _, q0, q1, q2, q3, q4⟩ := got_at hBk hlt
      have hsn : (gs.take (k + 1)).any Got.bad = ((gs.take k).any Got.bad || gs[k].bad) := by rw [take_snoc' gs k hlt, List.any_append]; simp
      have hin : gs[k].bad = true → gs.any Got.bad = true := fun h => List.any_eq_true.2 ⟨gs[k], List.getElem_mem _, h⟩
      generalize hgk : gs[k] = g at *
      have HSN := hide hsn
      have HIN := hide hin
      clear hsn hgk hin
      by_cases hbd : g.bad = true
      · have hany := HIN.out hbd
        have HANY := hide hany
        clear hany
        go_wp2
        go_ret
        exact ⟨ret_1 (by rw [HANY.out]; rfl), hb1.trans ((hst.mono hsz1).alloc (by omega) _)⟩
      · have hbd' : g.bad = false := by simpa using hbd
        go_wp2
        go_roundw
        case rel => exact ⟨k + 1, by omega, by go_num, by rw [HSN.out, HNO.out, hbd']; rfl, hst.alloc (by omega) _⟩
        case measure => simp [intOf]; omega
    · have e : gs.any Got.bad = false := by have := HNO.out; rwa [List.take_of_length_le (by omega)] at this
      have HE := hide e
      clear e
      go_wp2
      go_ret
      exact ⟨ret_1 (by rw [HE.out]; rfl), hb1.trans (hst.mono hsz1)⟩
end Go.Proofs.YtdjpdllehhecpaaGreatDoor
