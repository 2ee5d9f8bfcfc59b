/-
  The reference's decoder: a step, a row of bytes, the end; and the comparison of two lists of numbers: each function once.
-/
import Derived.Test.YtfcjkmiaibakiaaRef3
namespace Go.Proofs.Ytfcjkmiaibakiaa
open Go.RowKit
set_option linter.unusedVariables false

theorem own_i32 (w : World) (l : List Int) (h : ∀ n ∈ l, (Lit.int .i32 n).wf = true) (base m n : Nat) (hb : base ≤ m) (hm : m = w.heap.size) (hn : l.length = n) (hx : n ≤ maxLen) : Own (Rep.int .i32) 21 [] base (w.alloc (.cells (l.map (Value.int .i32)).toArray 21)) (.slice (some ⟨m, 0, none⟩) n n) l := by
  subst hm; exact Own.lit (by simp) (els_ints .i32 _ w l h) hb hn hx
theorem own_u8 (w : World) (l : List Int) (h : ∀ n ∈ l, (Lit.int .u8 n).wf = true) (base m n : Nat) (hb : base ≤ m) (hm : m = w.heap.size) (hn : l.length = n) (hx : n ≤ maxLen) : Own (Rep.int .u8) 5 [] base (w.alloc (.cells (l.map (Value.int .u8)).toArray 5)) (.slice (some ⟨m, 0, none⟩) n n) l := by
  subst hm; exact Own.lit (by simp) (els_ints .u8 _ w l h) hb hn hx

set_option maxHeartbeats 1000000 in
theorem rStep_gen (So Si : Nat → Prop) (x : Value) (h : List Int) (b : Int) (w : World) (hx : Slc (Rep.int .u8) So Si w x h) (hb0 : 0 ≤ b) (hb1 : b ≤ 255) (hlen : h.length ≤ 1000000)
    (hrec : h ≠ [] → ∀ w : World, Calls Try.prog 28 #[.slice none 0 0, .int .u8 b] w fun e w' =>
      ∃ v1 v2, e = .returned (.tuple #[v1, v2]) ∧ Own (Rep.int .i32) 21 [] w.heap.size w' v1 (refStepF [] b).1 ∧ Own (Rep.int .u8) 5 [] w.heap.size w' v2 (refStepF [] b).2 ∧ Below w.heap.size w w') :
    Calls Try.prog 28 #[x, .int .u8 b] w fun e w' =>
      ∃ v1 v2, e = .returned (.tuple #[v1, v2]) ∧ Own (Rep.int .i32) 21 [] w.heap.size w' v1 (refStepF h b).1 ∧ Own (Rep.int .u8) 5 [] w.heap.size w' v2 (refStepF h b).2 ∧ Below w.heap.size w w' := by
  obtain ⟨A, c, rfl, hc1, hc2, hB⟩ := hx.open_
  obtain ⟨y0, r, hyr⟩ : ∃ y0 r, h ++ [b] = y0 :: r := by cases h with | nil => exact ⟨b, [], rfl⟩ | cons y t => exact ⟨y, t ++ [b], rfl⟩
  have hnl : (h.length : Int) = r.length := by have := congrArg List.length hyr; simp at this; omega
  have hcase : refStepF h b = if 0 < beginsF (y0 :: r) ∧ (r.length : Int) + 1 < beginsF (y0 :: r) then ([], y0 :: r) else if 0 < beginsF (y0 :: r) then ([wholeF (y0 :: r)], []) else if h = [] then ([65533], []) else (65533 :: (step0F b).1, (step0F b).2) := by
    unfold refStepF
    rw [hyr, hnl]
  have hz0 : Own (Rep.int .u8) 5 [] w.heap.size (w.alloc (.cells #[] 5)) (.slice (some ⟨w.heap.size, 0, none⟩) 0 0) [] := own_u8 w [] (by simp) _ _ 0 (Nat.le_refl _) rfl rfl (by simp [maxLen])
  have hxs := (hx.ints_keep (Keep.alloc So w (.cells #[] 5)))
  have HN := hide hnl
  have HY := hide hyr
  have HCASE := hide hcase
  have hb12 := fun W m hm => own_u8 W [b] (by intro n hn; simp at hn; subst hn; exact wf_u8 hb0 hb1) m m 1 (Nat.le_refl _) hm rfl (by simp [maxLen])
  have HB := hide hb12
  have HREC := hide hrec
  clear hnl hcase hyr hb12 hrec
  have hbg := begins_pos (y0 :: r)
  go_enter Try.func28, Try.ntmps28
  go_wp2_with (first
    | (at_builtin; refine wpList_appi rfl (.tmp 10) (.tmp 11) 39 rfl .u8 5 w.heap.size 1 Try.underlying39 u8_info (by decide) _ _ rfl hz0 _ _ _ _ rfl hxs (by simp; omega) (by simp) ?_; intro v1 w1 hv1 hst1)
    | (at_builtin; go_loud (refine wpList_appi rfl (.tmp 12) (.tmp 14) 39 rfl .u8 5 w.heap.size 1 Try.underlying39 u8_info (by decide) _ _ rfl (hv1.alloc _) _ _ _ _ rfl ((HB.out _ _ rfl).islc) (by simp; omega) (by have := hst1.size; simp at this; simp; omega) ?_); intro v2 w2 hv2 hst2))
  have hv2' : Own (Rep.int .u8) 5 [] w.heap.size w2 v2 (y0 :: r) := by
    have := hv2
    rwa [List.nil_append, HY.out] at this
  have hs2 : Step w.heap.size [5] w w2 := (((Step.refl _ _ w).alloc _).trans hst1).trans ((Step.alloc1 _ _ w1 _).trans hst2)
  have hsz2 := hs2.size
  obtain ⟨A2, c2, rfl, hd1, hd2, hB2⟩ := hv2'.slc.open_
  have hl2 : (y0 :: r).length = r.length + 1 := rfl
  rw [hl2] at *
  clear hl2
  refine (Begins_ok _ _ _ y0 r w2 hv2'.islc).mono ?_
  rintro e w3 ⟨rfl, hb3⟩
  have hv3 := hv2'.below hb3
  have hs3 : Step w.heap.size [5] w w3 := hs2.trans (Step.of_below hb3)
  have hsz3 := hs3.size
  have hbel3 : Below w.heap.size w w3 := hs3.below (Nat.le_refl _)
  by_cases c1 : 0 < beginsF (y0 :: r) ∧ (r.length : Int) + 1 < beginsF (y0 :: r)
  · have hres : refStepF h b = ([], y0 :: r) := by rw [HCASE.out, if_pos c1]
    have HRES := hide hres
    obtain ⟨c1a, c1b⟩ := c1
    clear hres
    go_wp2
    go_ret2
    rw [HRES.out]
    exact ⟨_, _, rfl, Own.nil_ _ _ _ _ _ (by simp), hv3, hbel3⟩
  · by_cases c2 : 0 < beginsF (y0 :: r)
    · have hres : refStepF h b = ([wholeF (y0 :: r)], []) := by rw [HCASE.out, if_neg c1, if_pos c2]
      have HRES := hide hres
      have c3 : beginsF (y0 :: r) ≤ (r.length : Int) + 1 := by omega
      obtain ⟨q1, q2, q3, q4⟩ := begins_whole y0 r c2 c3
      have hwy := u8_wf (hv3.islc.ints_wf y0 (by simp))
      have hac := accF_bound y0 r hwy q2 q1 q3 r.length (Nat.le_refl _)
      have hwh : wholeF (y0 :: r) = accF (y0 :: r) r.length := by unfold wholeF; simp
      rw [← hwh] at hac
      have hW := whole_ok _ _ _ y0 r w3 hv3.islc q2 q1 q3
      have HW := hide hW
      clear hres q1 q2 q3 q4 hwh hW c1
      go_wp2_with (go_at_call 45; refine HW.out.mono ?_; rintro e w4 ⟨rfl, hb4⟩)
      go_ret2
      rw [HRES.out]
      have hsz4 := hb4.size
      exact ⟨_, _, rfl, own_i32 w4 [wholeF (y0 :: r)] (by intro n hn; simp at hn; subst hn; exact wf_i32 (by omega) (by omega)) _ _ 1 (by omega) rfl rfl (by simp [maxLen]), Own.nil_ _ _ _ _ _ (by simp), (hbel3.trans (hb4.mono (by omega))).alloc (by omega) _⟩
    · by_cases c3 : h = []
      · have hres : refStepF h b = ([65533], []) := by rw [HCASE.out, if_neg c1, if_neg c2, if_pos c3]
        have HRES := hide hres
        have hl0 : ((h.length : Int) == 0) = true := by rw [c3]; rfl
        have c2' : beginsF (y0 :: r) ≤ 0 := by omega
        clear hres c1 c2 c3
        go_wp2
        go_ret2
        rw [HRES.out]
        exact ⟨_, _, rfl, own_i32 w3 [65533] (by decide) _ _ 1 (by omega) rfl rfl (by simp [maxLen]), Own.nil_ _ _ _ _ _ (by simp), hbel3.alloc (by omega) _⟩
      · have hres : refStepF h b = (65533 :: (step0F b).1, (step0F b).2) := by rw [HCASE.out, if_neg c1, if_neg c2, if_neg c3]
        have HRES := hide hres
        have hl0 : ((h.length : Int) == 0) = false := by simp; exact c3
        have c2' : beginsF (y0 :: r) ≤ 0 := by omega
        have hrec := HREC.out c3
        rw [step_nil b hb0] at hrec
        have HR := hide hrec
        have hl1 := step0_len b
        clear hres c1 c2 c3 hrec
        go_wp2_with fail
        refine (HR.out _).mono ?_
        rintro e w4 ⟨v4, v5, rfl, hv4, hv5, hb4⟩
        have hsz4 := hb4.size
        have hk1 := fun W (hW : Step w4.heap.size [] w4 W) => hv4.step (es := []) (hW.mono hsz4 (by simp)) (by simp) (by simp)
        have hk4 := hv4.alloc (.cells #[.int .i32 65533] 21)
        have hk5 := hv5.alloc (.cells #[.int .i32 65533] 21)
        have ho5 := own_i32 w4 [65533] (by decide) w4.heap.size w4.heap.size 1 (Nat.le_refl _) rfl rfl (by simp [maxLen])
        go_wp2_with (at_builtin; go_loud (refine wpList_appi rfl (.tmp 41) (.tmp 42) 40 rfl .i32 21 w4.heap.size 4 Try.underlying40 i32_info (by decide) _ _ rfl ho5 _ _ _ _ rfl hk4.islc (by simp; omega) (by simp) ?_); intro v6 w6 hv6 hst6)
        go_ret2
        rw [HRES.out]
        have hst : Step w.heap.size [5, 21] w w6 := (((hs3.mono (Nat.le_refl _) (by simp)).trans (Step.of_below (hb4.mono (Nat.le_refl _)))).alloc _).trans (hst6.mono (by omega) (by simp))
        exact ⟨_, _, rfl, hv6.ints_base (by omega) (by simp), (hk5.ints_step hst6 (by decide)).ints_base (by omega) (by simp), hst.below (Nat.le_refl _)⟩

theorem drew2 (w : World) (n m : Nat) : ∃ k, (w.drewN n).drewN m = w.drewN k := ⟨n + m, World.drewN_drewN ..⟩

theorem rStep_ok (So Si : Nat → Prop) (x : Value) (h : List Int) (b : Int) (w : World) (hx : Slc (Rep.int .u8) So Si w x h) (hb0 : 0 ≤ b) (hb1 : b ≤ 255) (hlen : h.length ≤ 1000000) :
    Calls Try.prog 28 #[x, .int .u8 b] w fun e w' =>
      ∃ v1 v2, e = .returned (.tuple #[v1, v2]) ∧ Own (Rep.int .i32) 21 [] w.heap.size w' v1 (refStepF h b).1 ∧ Own (Rep.int .u8) 5 [] w.heap.size w' v2 (refStepF h b).2 ∧ Below w.heap.size w w' :=
  rStep_gen So Si x h b w hx hb0 hb1 hlen fun _ w1 => rStep_gen (fun _ => False) (fun _ => False) _ [] b w1 Slc.nil_ hb0 hb1 (by simp) fun h => absurd rfl h

theorem rFlush_ok (So Si : Nat → Prop) (x : Value) (h : List Int) (w : World) (hx : Slc (Rep.int .u8) So Si w x h) :
    Calls Try.prog 33 #[x] w fun e w' => ∃ v, e = .returned v ∧ Own (Rep.int .i32) 21 [] w.heap.size w' v (flushF h) ∧ Below w.heap.size w w' := by
  obtain ⟨A, c, rfl, hc1, hc2, hB⟩ := hx.open_
  by_cases e : h = []
  · have hl0 : ((h.length : Int) == 0) = true := by rw [e]; rfl
    have hr : flushF h = [] := by unfold flushF; rw [if_pos e]
    rw [hr]
    clear e hr
    go_enter Try.func33, Try.ntmps33
    go_wp2
    go_ret
    exact ⟨_, rfl, Own.nil_ _ _ _ _ _ (by simp), Below.refl _ _⟩
  · have hl0 : ((h.length : Int) == 0) = false := by simp; exact e
    have hr : flushF h = [65533] := by unfold flushF; rw [if_neg e]
    rw [hr]
    clear e hr
    go_enter Try.func33, Try.ntmps33
    go_wp2
    go_ret
    exact ⟨_, rfl, own_i32 w [65533] (by decide) _ _ 1 (Nat.le_refl _) rfl rfl (by simp [maxLen]), (Below.refl _ _).alloc (Nat.le_refl _) _⟩

set_option maxHeartbeats 400000 in
theorem Same_ok (So Si To Ti : Nat → Prop) (x y : Value) (l m : List Int) (w : World) (hx : Slc (Rep.int .i32) So Si w x l) (hy : Slc (Rep.int .i32) To Ti w y m) :
    Calls Try.prog 29 #[x, y] w fun e w' => e = .returned (.bool (decide (l = m))) ∧ ∃ n, w' = w.drewN n := by
  obtain ⟨A, c, rfl, hl1, hl2, hx⟩ := hx.open_
  obtain ⟨B, d, rfl, hm1, hm2, hy⟩ := hy.open_
  by_cases hlen : l.length = m.length
  · have hd : ((l.length : Int) != m.length) = false := by simp [hlen]
    have Hlen := hide hlen
    clear hlen
    go_enter Try.func29, Try.ntmps29
    go_wp2
    go_loopw [5] (fun i wr => ∃ k : Nat, k ≤ l.length ∧ i = .int .i64 k ∧ (∀ j, j < k → l[j]? = m[j]?) ∧ ∃ n, wr = w.drewN n) (fun i _ => l.length - (intOf i).toNat)
    case atStart => exact ⟨0, Nat.zero_le _, rfl, by simp, 0, rfl⟩
    case round =>
      obtain ⟨k, hk, rfl, hpre, n, rfl⟩ := hrel
      have HP := hide hpre
      clear hpre
      by_cases hlt : k < l.length
      · have hltm : k < m.length := by have := Hlen.out; omega
        obtain ⟨b1, o1, rfl, _, hcx, _⟩ := ints_at hx hlt
        obtain ⟨b2, o2, rfl, _, hcy, _⟩ := ints_at hy hltm
        by_cases heq : l[k] = m[k]
        · have hb : (l[k] != m[k]) = false := by simp [heq]
          have HEQ := hide heq
          clear heq
          go_wp2
          go_quiet (fail)
          go_wp2
          go_roundw
          case rel =>
            refine ⟨k + 1, by omega, by go_num, fun j hj => ?_, _, rfl⟩
            by_cases e : j = k
            · subst e; rw [List.getElem?_eq_getElem hlt, List.getElem?_eq_getElem hltm, HEQ.out]
            · exact HP.out j (by omega)
          case measure => simp [intOf]; omega
        · have hb : (l[k] != m[k]) = true := by simp [heq]
          have HEQ := hide heq
          clear heq
          go_wp2
          go_quiet (fail)
          go_wp2
          go_ret
          exact ⟨ret_1 (bool_eq (by rw [decide_eq_false]; intro e; subst e; exact HEQ.out rfl)), drew2 _ _ _⟩
      · go_wp2
        go_ret
        refine ⟨ret_1 (bool_eq ?_), _, rfl⟩
        symm
        rw [decide_eq_true_eq]
        apply List.ext_getElem?
        intro j
        by_cases hj : j < l.length
        · exact HP.out j (by omega)
        · rw [List.getElem?_eq_none (by omega), List.getElem?_eq_none (by have := Hlen.out; omega)]
  · have hd : ((l.length : Int) != m.length) = true := by simp; omega
    have Hlen := hide hlen
    clear hlen
    go_enter Try.func29, Try.ntmps29
    go_wp2
    go_ret
    exact ⟨ret_1 (bool_eq (by rw [decide_eq_false]; intro e; exact Hlen.out (by rw [e]))), 0, rfl⟩

set_option maxHeartbeats 400000 in
theorem rFeed_ok (So Si To Ti : Nat → Prop) (x y : Value) (h l : List Int) (w : World) (hx : Slc (Rep.int .u8) So Si w x h) (hy : Slc (Rep.int .u8) To Ti w y l) (hh : h.length ≤ 10) (hp : Pre h) (hb : Bytes h) (hlen : l.length ≤ 1000000) :
    Calls Try.prog 38 #[x, y] w fun e w' =>
      ∃ v1 v2, e = .returned (.tuple #[v1, v2]) ∧ Own (Rep.int .i32) 21 [] w.heap.size w' v1 (feedF h l).1 ∧ Slc (Rep.int .u8) (Typed w.heap.size [5] w') (fun _ => False) w' v2 (feedF h l).2 ∧ Below w.heap.size w w' := by
  have hxk : Slc (Rep.int .u8) (Typed w.heap.size [5] w) (fun _ => False) w x h := (hx.ints_any (fun _ => False)).mono (Si' := fun _ => False) (fun p u hs hc => ⟨.inl (World.block_lt_of_cell? w p hc), hc⟩) (fun _ _ h _ => h.elim)
  have hbl : Bytes l := fun n hn => u8_wf (hy.ints_wf n hn)
  obtain ⟨B, d, rfl, hm1, hm2, hB⟩ := hy.open_
  go_enter Try.func38, Try.ntmps38
  go_wp2
  go_loopw [0, 6, 7] (fun hv out i wr => ∃ k : Nat, k ≤ l.length ∧ i = .int .i64 k ∧ Own (Rep.int .i32) 21 [] w.heap.size wr out (feedF h (l.take k)).1 ∧
      Slc (Rep.int .u8) (Typed w.heap.size [5] wr) (fun _ => False) wr hv (feedF h (l.take k)).2 ∧ Below w.heap.size w wr)
    (fun _ _ i _ => l.length - (intOf i).toNat)
  case atStart => exact ⟨0, Nat.zero_le _, rfl, Own.nil_ _ _ _ _ _ (by simp), hxk, Below.refl _ _⟩
  case round =>
    obtain ⟨k, hk, rfl, hown, hhk, hbel⟩ := hrel
    have hBk := hB.ints_keep (Keep.below hbel)
    have hsz := hbel.size
    by_cases hlt : k < l.length
    · obtain ⟨ab, off, rfl, _, hck, hwk⟩ := ints_at hBk hlt
      obtain ⟨hw0, hw1⟩ := u8_wf hwk
      have hsn := feedF_snoc (l.take k) h l[k]
      rw [← take_snoc' l k hlt] at hsn
      have Hsn := hide hsn
      have hlk := feed_len (l.take k) h
      have hlk2 : (l.take k).length ≤ k := List.length_take_le _ _
      have hlr := refStep_len (feedF h (l.take k)).2 l[k]
      have hpk := feed_pre (l.take k) h hp hb (fun n hn => hbl n (List.mem_of_mem_take hn))
      have hpl := pre_length hpk.1 hpk.2
      clear hsn hpk
      go_wp2_with fail
      refine (rStep_ok _ _ _ _ _ _ hhk hw0 hw1 (by omega)).mono ?_
      rintro e w1 ⟨v1, v2, rfl, hv1, hv2, hb1⟩
      have hown1 := hown.below hb1
      have hsz1 := hb1.size
      go_wp2_with (at_builtin; refine wpList_appi rfl (.tmp 24) (.tmp 25) 40 rfl .i32 21 w.heap.size 4 Try.underlying40 i32_info (by decide) _ _ rfl hown1 _ _ _ _ rfl hv1.islc (by omega) (by omega) ?_; intro v3 w3 hv3 hst3)
      go_roundw
      case rel =>
        have hst : Step w.heap.size [21] w1 w3 := hst3
        have hv2' := (hv2.ints_step hst (by decide)).islc
        refine ⟨k + 1, by omega, by go_num, ?_, ?_, (hbel.trans (hb1.mono hsz)).trans (hst.below (by omega))⟩
        · rw [Hsn.out]; exact hv3
        · rw [Hsn.out]
          exact hv2'.mono (Si' := fun _ => False) (Keep.weaken fun b hb => Fresh.typed (by simp) b hb.2) (fun _ _ h _ => h.elim)
      case measure => simp [intOf]; omega
    · have e : l.take k = l := List.take_of_length_le (by omega)
      rw [e] at hown hhk
      go_wp2
      go_ret2
      exact ⟨_, _, rfl, hown, hhk, hbel⟩
end Go.Proofs.Ytfcjkmiaibakiaa
