import Derived.Test.YtdjpdllehhecpaaGreatDoorQ26
import Derived.Test.YtdjpdllehhecpaaGreatDoorQ34
import Derived.Test.YtdjpdllehhecpaaGreatDoorQ19
import Derived.Sort.CutIn
import Derived.Sort.AtCallIn
import Derived.Test.YtdjpdllehhecpaaGreatDoorQ37
import Derived.Test.YtdjpdllehhecpaaGreatDoorQ16
import Derived.Test.YtdjpdllehhecpaaGreatDoorQ04
open List renaming getElem?_toArray → zA, getElem?_cons_succ → zB, getElem?_cons_zero → zC, setIfInBounds_toArray → zD, set_cons_zero → zE, set_cons_succ → zF
namespace Go.Proofs.YtdjpdllehhecpaaGreatDoor
open Go.RowKit Go.Shelf
set_option linter.unusedVariables false
set_option linter.unusedSimpArgs false
attribute [local go_sem] Oper.semAt_some
def placesF : Nat → List (List Int) → List (Nat × List Int)
  | _, [] => []
  | f, c :: cs => (f, c) :: placesF (f + c.length) cs
theorem places_app : ∀ (a b : List (List Int)) (f : Nat), placesF f (a ++ b) = placesF f a ++ placesF (f + a.flatten.length) b
  | [], b, f => by simp [placesF]
  | c :: a, b, f => by
    rw [List.cons_append, placesF, places_app a b]
    simp [placesF, Nat.add_assoc]
theorem cl_done (P : Int → PropV) (l t : List Int) : ∃ rest, clusOf (clL P cl0 (l ++ t)) = (clL P cl0 l).done ++ rest := by
  rw [clL_app, cl_cut]; exact ⟨_, rfl⟩
theorem cl_pos (P : Int → PropV) (l : List Int) : (clL P cl0 l).done.flatten ++ (clL P cl0 l).cur = l := by
  have h := cl_flat P l
  unfold clusOf at h
  split at h
  · rename_i hc; rw [hc, List.append_nil]; exact h
  · simpa using h
def KeepC (B : Nat) (es : List TypeId) (Bn : Nat) (W W' : World) : Prop := Below B W W' ∧ (∀ (k : Nat) (cs : Array Value) (t : TypeId) (fz : Nat × Nat), W.heap[k]? = some (.cells cs t fz) → t ∉ es → W'.heap[k]? = W.heap[k]?) ∧ W'.heap[Bn]? = W.heap[Bn]?
theorem KeepC.trans {B Bn : Nat} {es : List TypeId} {X Y Z : World} (h : KeepC B es Bn X Y) (k : KeepC B es Bn Y Z) : KeepC B es Bn X Z :=
  ⟨h.1.trans k.1, fun i cs t fz hi ht => (k.2.1 i cs t fz ((h.2.1 i cs t fz hi ht).trans hi) ht).trans (h.2.1 i cs t fz hi ht), k.2.2.trans h.2.2⟩
theorem KeepC.put {B Bn : Nat} {es : List TypeId} {w : World} (hB : B ≤ w.heap.size) (hn : Bn < w.heap.size) (W : World) (l : Nat) (o o' : Obj) (hl : w.heap.size ≤ l) (h : W.heap[l]? = some o) (ho : o.isCells = false) : KeepC B es Bn W (W.putObj l o') :=
  ⟨(Below.refl B W).grown (grownBy_putObj' W l o') (by have := (Array.getElem?_eq_some_iff.1 h).1; omega) (fun k e => by cases e; omega), fun k cs t fz hk ht => by
    by_cases hkl : k = l
    · subst hkl; rw [hk] at h; injection h with h; subst h; cases ho
    · exact World.putObj_heap_other hkl, World.putObj_heap_other (by omega)⟩
theorem KeepC.blk {B Bn : Nat} {es : List TypeId} {W W' : World} {g : Nat} {t : TypeId} {cs : Array Value} (h : KeepC B es Bn W W') (hB : Blk W g t cs) (ht : t ∉ es) : Blk W' g t cs := (h.2.1 g cs t (0, 0) hB ht).trans hB
theorem KeepC.bn {B Bn : Nat} {es : List TypeId} {W W' : World} {t : TypeId} {cs : Array Value} (h : KeepC B es Bn W W') (hB : Blk W Bn t cs) : Blk W' Bn t cs := h.2.2.trans hB
def encP (b off : Nat) (x : Nat × List Int) : Array Value := #[.int .i64 x.1, .slice (some ⟨b, off + x.1, none⟩) x.2.length x.2.length]
theorem cl_last (l : List Int) : 0 ≤ (clL propF cl0 l).seg.last ∧ (clL propF cl0 l).seg.last ≤ 13 := by
  refine snocInd (p := fun l => 0 ≤ (clL propF cl0 l).seg.last ∧ (clL propF cl0 l).seg.last ≤ 13) ?_ ?_ l
  · exact ⟨Int.le_refl _, by decide⟩
  · intro l r _
    rw [clL_snoc, clN_seg]
    exact (propF_ok r).1
theorem cl_curnil {P : Int → PropV} {l : List Int} (h : (clL P cl0 l).cur = []) : l = [] := by
  rcases List.eq_nil_or_concat l with rfl | ⟨l', r, rfl⟩
  · rfl
  · rw [List.concat_eq_append, clL_snoc] at h
    exact (clN_cur _ _ _ h).elim
theorem SegAt.of0 (s : SegV) : SegAt (segC s).toArray 0 s := ⟨by simp [segC], rfl, rfl, rfl, rfl, rfl⟩
theorem step_below {B : Nat} {es : List TypeId} {A C : World} (h : Below A.heap.size A C) : Step B es A C :=
  ⟨h.os, h.tape, h.output, h.size, fun k hk _ => h.block k hk⟩
theorem Step.below' {B B' : Nat} {es : List TypeId} {A C : World} (h : Step B es A C) (hb : B' ≤ B) (hs : B ≤ A.heap.size) : Below B' A C :=
  ⟨h.os, h.tape, h.output, h.size, fun k hk => h.block k (by omega) (.inl (by omega))⟩
set_option maxRecDepth 20000 in
set_option maxHeartbeats 8000000 in
theorem all_iter (n : Nat) (So Si : Nat → Prop) (b off c Bn : Nat) (es : List TypeId) (he : 105 ∉ es) (l : List Int) (h0 : 0 < l.length) (hlen : l.length ≤ 100000) (w : World)
    (hx : Slc (Rep.int .i32) So Si w (.slice (some ⟨b, off, none⟩) l.length c) l) (n0 : Nat) (hn0 : n0 ≤ w.heap.size) (hSo : ∀ b, So b → b < n0) (hBn : Blk w Bn 24 #[.slice (some ⟨b, off, none⟩) l.length c]) :
    IterC 105 Fence.wide n Tryz.prog 45 #[.pointer (some ⟨Bn, 0, none⟩)] (encP b off) (KeepC n0 es Bn) (placesF 0 (clusOf (clL propF cl0 l))) w := by
  intro lr J W hbW hJs hY hJ0
  have hwf := hx.ints_wf
  obtain ⟨_, _, hAe, hc1, hc2, hBl⟩ := hx.open_
  injection hAe with e1 e2 e3
  subst e1; subst e3
  refine callsIn_of_wp Tryz.func45 rfl trivial ?_ rfl
  simp only [Tryz.ntmps45, List.size_toArray, List.length_cons, List.length_nil, Nat.reduceAdd, Nat.reduceSub, Array.replicate_succ, Array.replicate_zero, List.push_toArray, List.append_toArray, List.nil_append, List.cons_append]
  have hBnW := hBn.same hbW
  have HX := hide hx
  have HJS := hide hJs
  have HY := hide hY
  obtain ⟨W1, hW1⟩ : ∃ W1, W.alloc (.cells #[.bool false, .int .i64 0, .int .i64 0, .int .i64 0, .bool false] 105) = W1 := ⟨_, rfl⟩
  have hS1 : Blk W1 W.heap.size 105 (segC seg0).toArray := by rw [← hW1]; exact Blk.new W _ _
  have hb1 : Below W.heap.size W W1 := by rw [← hW1]; exact (Below.refl _ W).alloc (Nat.le_refl _) _
  have hst1 : Step W.heap.size [105] W W1 := by rw [← hW1]; exact Step.alloc1 _ _ W _
  have hzW := hbW.size
  have hbw1 : Below n0 w W1 := (hbW.mono hn0).trans (hb1.mono (by omega))
  have hBnk := hBnW.same hb1
  have hBn1 := hBnk.cell 0
  simp only [List.getElem?_toArray, List.getElem?_cons_zero] at hBn1
  have HBN := hide hBnk
  have HW1 := hide hW1
  have HJ1 := hide (hJs [] _ _ hJ0 hst1)
  have HS1 := hide hS1
  have HB1 := hide hbw1
  have HSTEP := hide hst1
  have hSgt : w.heap.size ≤ W.heap.size := hzW
  have hlp : (0 : Int) < l.length := by omega
  clear hW1 hJ0 hS1 hb1 hst1 hbw1 hJs hY hx hBl hBnW hbW hBn hBnk
  gi_upto_region 2 with fail
  rw [HW1.out]
  gi_wp2
  gi_loopw [4, 9] (fun fr i wr => ∃ (k : Nat), k ≤ l.length ∧ i = .int .i64 k ∧ fr = .int .i64 ((clL propF cl0 (l.take k)).done.flatten.length : Nat) ∧ J (placesF 0 (clL propF cl0 (l.take k)).done) wr ∧ Blk wr W.heap.size 105 (segC (clL propF cl0 (l.take k)).seg).toArray ∧ Below n0 w wr ∧ Blk wr Bn 24 #[.slice (some ⟨b, off, none⟩) l.length c] ∧ W.heap.size ≤ wr.heap.size) (fun _ i _ => l.length - (intOf i).toNat)
  case atStart => exact ⟨0, Nat.zero_le _, rfl, rfl, HJ1.out, HS1.out, HB1.out, HBN.out, by have := HS1.out.lt; omega⟩
  case round =>
    obtain ⟨k, hk, rfl, rfl, hJ, hS, hbel, hbn, hsz⟩ := hrel
    have hpos := cl_pos propF (l.take k)
    have hlast := cl_last (l.take k)
    obtain ⟨st, hst⟩ : ∃ st, clL propF cl0 (l.take k) = st := ⟨_, rfl⟩
    rw [hst] at hJ hS hpos hlast ⊢
    obtain ⟨dn, cur, sg⟩ := st
    simp only at hJ hS hpos hlast ⊢
    have hplen := congrArg List.length hpos
    rw [List.length_append, List.length_take, Nat.min_eq_left hk] at hplen
    obtain ⟨f, hf⟩ : ∃ f, dn.flatten.length = f := ⟨_, rfl⟩
    rw [hf] at hplen ⊢
    have hBk := hbn.cell 0
    simp only [List.getElem?_toArray, List.getElem?_cons_zero] at hBk
    have HBR := hide hbn
    clear hbn
    have hBlt : Bn < wr.heap.size := World.block_lt_of_cell? wr _ hBk
    by_cases hlt : k < l.length
    · obtain ⟨b9, off9, hA, _, q0, _⟩ := ints_at (A := some ⟨b, off, none⟩) ((HX.out.ints_keep (So' := So) (fun p u hs hc => ⟨hs, (hbel.cell (hSo _ hs)).trans hc⟩)).slb) hlt
      injection hA with hA
      injection hA with e1 e2 e3
      subst e1; subst e2
      have hr := i32_wf (hwf _ (List.getElem_mem hlt))
      have htk : l.take (k + 1) = l.take k ++ [l[k]] := List.take_succ_eq_append_getElem hlt
      obtain ⟨r, hrr⟩ : ∃ r, l[k] = r := ⟨_, rfl⟩
      rw [hrr] at q0 hr htk
      have HT : Hid (clL propF cl0 (l.take (k + 1)) = clN propF ⟨dn, cur, sg⟩ r) := hide (by rw [htk, clL_snoc, hst])
      have HU := hide (ucdOf_ok r hr.1 hr.2)
      have HP := hide (propF_ok r).1
      have hkl : (k : Int) < l.length := by omega
      have HSB := hide hS
      have HBE := hide hbel
      have HJB := hide hJ
      have HPL := hide hplen
      have HST := hide hst
      have HF := hide hf
      clear hrr htk hS hbel hJ hst hpos hplen hf
      cases hj : joinsF sg (propF r) with
      | true =>
        have HN : Hid (clN propF ⟨dn, cur, sg⟩ r = ⟨dn, cur ++ [r], segN sg (propF r)⟩) := hide (by unfold clN; rw [if_pos (.inl hj)])
        gi_wp2_with (first | (refine ⟨trivial, fun h => (by cases h), ?_⟩; gi_at_call 47; refine (callsIn_wide.2 (HU.out _)).mono ?_; rintro e w2 ⟨rfl, hb2⟩; have HB2 := hide (HSB.out.same hb2); have HBL2 := hide hb2; have HSP := hide (segStep_ok W.heap.size 0 _ _ sg (propF r) hlast.1 hlast.2 HP.out.1 HP.out.2 w2 HB2.out (SegAt.of0 sg)); clear hb2) | (refine ⟨trivial, fun h => (by cases h), ?_⟩; gi_at_call 46; refine (callsIn_wide.2 HSP.out).mono ?_; rintro e w3 ⟨rfl, ⟨cs', hB3, hset⟩, hgr⟩; have hcs := setTo_all hset (by simp [segC]); subst hcs; have HS3 := hide hB3; have HST3 : Hid (Step W.heap.size [105] wr w3) := hide ((step_below HBL2.out).trans (Step.of_gb hgr (Nat.le_refl _) HB2.out (by simp))); have hbw3 : Below n0 w w3 := HBE.out.trans (HST3.out.below' (Nat.le_trans hn0 hSgt) hsz); have HBR3 := hide (HBR.out.step HST3.out (by decide)); have hBk3 := HBR3.out.cell 0; simp only [List.getElem?_toArray, List.getElem?_cons_zero] at hBk3; have HBE3 := hide hbw3; clear hB3 hset hgr hbw3))
        go_roundw
        case rel =>
          refine ⟨k + 1, by omega, by go_num, ?_, ?_, ?_, HBE3.out, HBR3.out, by have := HST3.out.size; omega⟩
          · rw [HT.out, HN.out]
            show Value.int .i64 (f : Int) = .int .i64 ((dn.flatten.length : Nat) : Int)
            rw [HF.out]
          · rw [HT.out, HN.out]; exact HJS.out _ _ _ HJB.out HST3.out
          · rw [HT.out, HN.out]; exact HS3.out
        case measure => simp [intOf]; omega
      | false =>
        by_cases hk0 : k = 0
        · have hcn : cur = [] := List.eq_nil_of_length_eq_zero (by have := HPL.out; omega)
          have HN : Hid (clN propF ⟨dn, cur, sg⟩ r = ⟨dn, cur ++ [r], segN sg (propF r)⟩) := hide (by unfold clN; rw [if_pos (.inr hcn)])
          subst hk0
          rw [Nat.add_zero] at q0
          clear hcn
          gi_wp2_with (first | (refine ⟨trivial, fun h => (by cases h), ?_⟩; gi_at_call 47; refine (callsIn_wide.2 (HU.out _)).mono ?_; rintro e w2 ⟨rfl, hb2⟩; have HB2 := hide (HSB.out.same hb2); have HBL2 := hide hb2; have HSP := hide (segStep_ok W.heap.size 0 _ _ sg (propF r) hlast.1 hlast.2 HP.out.1 HP.out.2 w2 HB2.out (SegAt.of0 sg)); clear hb2) | (refine ⟨trivial, fun h => (by cases h), ?_⟩; gi_at_call 46; refine (callsIn_wide.2 HSP.out).mono ?_; rintro e w3 ⟨rfl, ⟨cs', hB3, hset⟩, hgr⟩; have hcs := setTo_all hset (by simp [segC]); subst hcs; have HS3 := hide hB3; have HST3 : Hid (Step W.heap.size [105] wr w3) := hide ((step_below HBL2.out).trans (Step.of_gb hgr (Nat.le_refl _) HB2.out (by simp))); have hbw3 : Below n0 w w3 := HBE.out.trans (HST3.out.below' (Nat.le_trans hn0 hSgt) hsz); have HBR3 := hide (HBR.out.step HST3.out (by decide)); have hBk3 := HBR3.out.cell 0; simp only [List.getElem?_toArray, List.getElem?_cons_zero] at hBk3; have HBE3 := hide hbw3; clear hB3 hset hgr hbw3))
          go_roundw
          case rel =>
            refine ⟨0 + 1, by omega, by go_num, ?_, ?_, ?_, HBE3.out, HBR3.out, by have := HST3.out.size; omega⟩
            · rw [HT.out, HN.out]
              show Value.int .i64 (f : Int) = .int .i64 ((dn.flatten.length : Nat) : Int)
              rw [HF.out]
            · rw [HT.out, HN.out]; exact HJS.out _ _ _ HJB.out HST3.out
            · rw [HT.out, HN.out]; exact HS3.out
          case measure => simp [intOf]; omega
        · have hcn : cur ≠ [] := fun e => by
            have h1 := cl_curnil (P := propF) (l := l.take k) (by rw [HST.out]; exact e)
            have h2 := congrArg List.length h1
            rw [List.length_take, List.length_nil] at h2
            omega
          have HN : Hid (clN propF ⟨dn, cur, sg⟩ r = ⟨dn ++ [cur], [r], segN sg (propF r)⟩) := hide (by unfold clN; rw [if_neg (by rintro (h | h); rw [hj] at h; cases h; exact hcn h)])
          obtain ⟨rest, hrest⟩ := cl_done propF (l.take (k + 1)) (l.drop (k + 1))
          rw [List.take_append_drop, HT.out, HN.out] at hrest
          have hxs : placesF 0 (clusOf (clL propF cl0 l)) = placesF 0 dn ++ (f, cur) :: placesF (f + cur.length) rest := by
            rw [hrest]
            show placesF 0 (dn ++ [cur] ++ rest) = _
            rw [List.append_assoc, places_app, Nat.zero_add, HF.out]; rfl
          have HXS := hide hxs
          have hm0 : (k == 0) = false := by simpa using hk0
          have hmi : ((k : Int) == 0) = false := by rw [beq_eq_false_iff_ne]; omega
          have hfn : f < k := by have h8 : 0 < cur.length := List.length_pos_iff.2 hcn; have := HPL.out; omega
          have hfe : ¬ k = f := by omega
          have hfe2 : ¬ f = k := by omega
          have hfk : (f : Int) ≤ k := by omega
          have hkc : (k : Int) ≤ c := by omega
          have HCL : Hid (cur.length = k - f) := hide (by have := HPL.out; omega)
          have HE : Hid (encP b off (f, cur) = #[.int .i64 (f : Int), .slice (some ⟨b, off + f, none⟩) (k - f) (k - f)]) := hide (by unfold encP; rw [HCL.out])
          clear hcn hrest hxs
          gi_wp2_with (first | (refine ⟨trivial, fun h => (by cases h), ?_⟩; gi_at_call 47; refine (callsIn_wide.2 (HU.out _)).mono ?_; rintro e w2 ⟨rfl, hb2⟩; have HB2 := hide (HSB.out.same hb2); have HBL2 := hide hb2; have HSP := hide (segStep_ok W.heap.size 0 _ _ sg (propF r) hlast.1 hlast.2 HP.out.1 HP.out.2 w2 HB2.out (SegAt.of0 sg)); clear hb2) | (refine ⟨trivial, fun h => (by cases h), ?_⟩; gi_at_call 46; refine (callsIn_wide.2 HSP.out).mono ?_; rintro e w3 ⟨rfl, ⟨cs', hB3, hset⟩, hgr⟩; have hcs := setTo_all hset (by simp [segC]); subst hcs; have HS3 := hide hB3; have HST3 : Hid (Step W.heap.size [105] wr w3) := hide ((step_below HBL2.out).trans (Step.of_gb hgr (Nat.le_refl _) HB2.out (by simp))); have hbw3 : Below n0 w w3 := HBE.out.trans (HST3.out.below' (Nat.le_trans hn0 hSgt) hsz); have HBR3 := hide (HBR.out.step HST3.out (by decide)); have hBk3 := HBR3.out.cell 0; simp only [List.getElem?_toArray, List.getElem?_cons_zero] at hBk3; have HBE3 := hide hbw3; obtain ⟨fn9, tm9, as9, bo9, hy, hR⟩ := HY.out _ _ _ w3 HXS.out (HJS.out _ _ _ HJB.out HST3.out); rw [HE.out] at hy; have HRR := hide hR; clear hB3 hset hgr hbw3 hR))
          refine ⟨fun h => (by cases h), HRR.out.mono ?_⟩
          rintro e w5 ⟨rfl, hJ5, hK5⟩
          have HJ5 := hide hJ5
          have HK5 := hide hK5
          have HBR5 := hide (hK5.bn HBR3.out)
          have hBk5 := HBR5.out.cell 0
          simp only [List.getElem?_toArray, List.getElem?_cons_zero] at hBk5
          clear hJ5 hK5 hy
          gi_wp2
          go_roundw
          case rel =>
            refine ⟨k + 1, by omega, by go_num, ?_, ?_, ?_, HBE3.out.trans HK5.out.1, HBR5.out, by have := HST3.out.size; have := HK5.out.1.size; omega⟩
            · rw [HT.out, HN.out]
              show Value.int .i64 (k : Int) = .int .i64 (((dn ++ [cur]).flatten.length : Nat) : Int)
              have := HPL.out
              have h2 : (dn ++ [cur]).flatten.length = k := by rw [List.flatten_append, List.length_append, HF.out]; simp; omega
              rw [h2]
            · rw [HT.out, HN.out]
              show J (placesF 0 (dn ++ [cur])) w5
              rw [places_app, Nat.zero_add, HF.out]
              exact HJ5.out
            · rw [HT.out, HN.out]; exact HK5.out.blk HS3.out he
          case measure => simp [intOf]; omega
    · have hkl : k = l.length := by omega
      have hkt : l.take k = l := by rw [hkl]; exact List.take_length
      rw [hkt] at hst
      have hcn : cur ≠ [] := fun e => by
        have h1 := cl_curnil (P := propF) (l := l) (by rw [hst]; exact e)
        rw [h1] at h0; cases h0
      have hxs : placesF 0 (clusOf (clL propF cl0 l)) = placesF 0 dn ++ (f, cur) :: [] := by
        rw [hst]
        show placesF 0 (if cur = [] then dn else dn ++ [cur]) = _
        rw [if_neg hcn, places_app, Nat.zero_add, hf]; rfl
      have hcl : cur.length = l.length - f := by omega
      have hE : encP b off (f, cur) = #[.int .i64 (f : Int), .slice (some ⟨b, off + f, none⟩) (l.length - f) (l.length - f)] := by unfold encP; rw [hcl]
      obtain ⟨fn9, tm9, as9, bo9, hy, hR⟩ := HY.out _ _ _ wr hxs hJ
      rw [hE] at hy
      have HRR := hide hR
      have HXS := hide hxs
      have hge : decide ((k : Int) < l.length) = false := decide_eq_false (by omega)
      have hfn : f < l.length := by have h8 : 0 < cur.length := List.length_pos_iff.2 hcn; omega
      have hfe : ¬ l.length = f := by omega
      have hfe2 : ¬ f = l.length := by omega
      have hfl : (f : Int) ≤ l.length := by omega
      have hlc : (l.length : Int) ≤ c := by omega
      clear hR hxs hE hcl hcn hkt hkl hst hplen hpos hf hlast hS hJ
      gi_wp2
      refine ⟨fun h => (by cases h), HRR.out.mono ?_⟩
      rintro e w5 ⟨rfl, hJ5, hK5⟩
      have HJ5 := hide hJ5
      clear hJ5 hK5 hy
      gi_wp2
      go_end0
      exact ⟨⟨_, rfl⟩, by rw [HXS.out]; exact HJ5.out⟩
end Go.Proofs.YtdjpdllehhecpaaGreatDoor
namespace Go.Proofs.YtdjpdllehhecpaaGreatDoor
open Go.RowKit Go.Shelf
set_option linter.unusedVariables false
set_option linter.unusedSimpArgs false
attribute [local go_sem] Oper.semAt_some
theorem All_fn (A : Option Addr) (n c : Nat) (w : World) :
    Calls Tryz.prog 20 #[.slice A n c] w fun e w' => e = .returned (.func (.func 45) #[] #[.pointer (some ⟨w.heap.size, 0, none⟩)]) ∧ w' = w.alloc (.cells #[.slice A n c] 24) := by
  go_enter Tryz.func20, Tryz.ntmps20
  go_wp2
  go_ret
  exact ⟨rfl, rfl⟩
theorem blk_own {W W' : World} {g : Nat} {t : TypeId} {cs : Array Value} {row : Option Nat} (h : Blk W g t cs) (hg : W.grownBy W' row) (hr : ∀ r, row = some r → ∃ o : Obj, W.heap[r]? = some o ∧ o.isCells = false) : Blk W' g t cs :=
  h.grown hg (fun e => by
    obtain ⟨o, ho, hc⟩ := hr g e.symm
    unfold Blk at h
    rw [h] at ho
    injection ho with ho
    subst ho
    cases hc)
theorem wpListIn_appg {α : Type} {F : Fence} {n : Nat} {P : Program} {ops : Array Oper} {rest : List Oper} {o : Oper} {a : Act} {w : World} {Q : Exit → Act → World → Prop} (hgd : o.guard = none) (s x : Operand) (t : TypeId)
    (ho : o.op = .call { callee := .builtin .append, args := #[s, x], argTypes := #[t, t] })
    (R : Rep α) (e : TypeId) (T : List TypeId) (base bytes : Nat) (z : Value) (ht : P.underlying t = some (.slice e)) (hi : (P.info? e).map (fun i => (i.zero, i.size, i.bytes)) = some (some z, R.sz, bytes)) (hzs : z.cells.size = R.sz) (hsz : 0 < R.sz) (hb0 : 0 < bytes)
    (v : Value) (l : List α) (hs : a.eval s = v) (hown : Own R e T base w v l) (So Si : Nat → Prop) (vx : Value) (l2 : List α) (hxe : a.eval x = vx) (hx : Slc R So Si w vx l2) (hSi : ∀ b, Si b → Typed base T w b)
    (hb : (l.length + l2.length) * bytes ≤ 140737488355328) (hbase : base ≤ w.heap.size)
    (h : ∀ v' w', Own R e T base w' v' (l ++ l2) → Step base [e] w w' → w.grownBy w' v.ownBlock → (v'.ownBlock = v.ownBlock ∨ v'.ownBlock = some w.heap.size) → wpListIn F n P ops Q rest (a.put o.dst v') w') : wpListIn F n P ops Q (o :: rest) a w := by
  obtain ⟨i0, hi0, hz0, hz1, hz2⟩ := info_parts hi
  refine wpListIn_plain hgd fun _ hK => ?_
  obtain ⟨v', w', hrun, h2, h3, h4, h5⟩ := run_app (P := P) w R t o.type e T base i0 z bytes ht hi0 hz0 hz1 hz2 hzs hsz hb0 v l hown So Si vx l2 hx hSi hb hbase
  refine ⟨fun f hf => by simp [Oper.about, ho, resolve, Target.leads] at hf, ?_⟩
  rw [Oper.semAt_eq _ _ _ (fun c hc => by rw [ho] at hc; cases hc)]
  unfold execOp
  simp only [ho, resolve, invoke, builtin, Sem.run_bind, Sem.run_pure, Result.andThen_ok, List.map_toArray, List.map_cons, List.map_nil, hs, hxe, hrun]
  exact hK _ _ (h v' w' h2 h3 h4 h5)
def RV2 : Rep (Value × Value) := Rep.pair RVal RVal
theorem item_info : (Tryz.prog.info? 150).map (fun i => (i.zero, i.size, i.bytes)) = some (some (.agg #[.int .i64 0, .slice none 0 0]), RV2.sz, 32) := by kernel_rfl
theorem els_v2 {S : Nat → Prop} {w : World} {a b : Value} {xs : List Value} (h : Els RV2 S w [(a, b)] xs) : xs = [a, b] := by
  obtain ⟨u, xs', rfl, ⟨v1, v2, rfl, ⟨rfl, _⟩, rfl, _⟩, h⟩ := h
  cases h
  rfl
theorem KeepsOthers.of_below {W W' : World} (h : Below W.heap.size W W') : KeepsOthers W W' := ⟨h.size, fun k o hk _ => (h.block k (Array.getElem?_eq_some_iff.1 hk).1).trans hk⟩
def ItI (n0 gb z : Nat) (w : World) (wd : Int) (pre : List (Nat × List Int)) (W : World) : Prop :=
  Below n0 w W ∧ z ≤ W.heap.size ∧ ((pre = [] ∧ Blk W gb 147 #[.slice none 0 0]) ∨ (pre ≠ [] ∧ ∃ gi cap cs, Blk W gb 147 #[.slice (some ⟨gi, 0, none⟩) 1 cap] ∧ Blk W gi 150 cs ∧ (∃ Au nu cu, cs.toList.take 2 = [.int .i64 wd, .slice Au nu cu])))
set_option maxHeartbeats 4000000 in
theorem Items_ok (So Si : Nat → Prop) (x : Value) (c : List Int) (w : World) (hx : Slc (Rep.int .i32) So Si w x c) (hSo : ∀ b, So b → b < w.heap.size) (hone : clusF' propF c = [c]) (h0 : 0 < c.length) (hlen : c.length ≤ 16) (hsil : silF c[0] = false) :
    Calls Tryz.prog 82 #[x] w fun e w' => ∃ gi cap cs Au nu cu, e = .returned (.slice (some ⟨gi, 0, none⟩) 1 cap) ∧ Blk w' gi 150 cs ∧ cs.toList.take 2 = [.int .i64 (widthF propF c), .slice Au nu cu] ∧ Below w.heap.size w w' := by
  obtain ⟨A, cc, rfl, hc1, hc2, hB⟩ := hx.open_
  obtain ⟨b, off, rfl, _, _, _⟩ := ints_at hB h0
  refine (callsIn_wide (n := 3)).1 ?_
  refine callsIn_of_wp_marks Tryz.func82 rfl trivial ?_ rfl
  simp only [Tryz.ntmps82, List.size_toArray, List.length_cons, List.length_nil, Nat.reduceAdd, Nat.reduceSub, Array.replicate_succ, Array.replicate_zero, List.push_toArray, List.append_toArray, List.nil_append, List.cons_append]
  have HAL := hide (fun W => All_fn (some ⟨b, off, none⟩) c.length cc W)
  clear hB
  gi_wp2_with (refine ⟨trivial, ?_⟩; gi_at_call 20; refine (callsIn_wide.2 (HAL.out _)).mono ?_; rintro e w1 ⟨rfl, rfl⟩)
  obtain ⟨W1, hW1⟩ : ∃ W1, w.alloc (.cells #[.slice none 0 0] 147) = W1 := ⟨_, rfl⟩
  have hB1 : Blk W1 w.heap.size 147 #[.slice none 0 0] := by rw [← hW1]; exact Blk.new w _ _
  have hb1 : Below w.heap.size w W1 := by rw [← hW1]; exact (Below.refl _ w).alloc (Nat.le_refl _) _
  have hs1 : W1.heap.size = w.heap.size + 1 := by rw [← hW1, World.size_alloc]
  rw [hW1]
  rw [show w.heap.size + 1 = W1.heap.size by rw [hs1]]
  obtain ⟨W2, hW2⟩ : ∃ W2, W1.alloc (.cells #[.slice (some ⟨b, off, none⟩) c.length cc] 24) = W2 := ⟨_, rfl⟩
  have hbx : Blk W2 W1.heap.size 24 #[.slice (some ⟨b, off, none⟩) c.length cc] := by rw [← hW2]; exact Blk.new W1 _ _
  have hb12 : Below W1.heap.size W1 W2 := by rw [← hW2]; exact (Below.refl _ W1).alloc (Nat.le_refl _) _
  have hB2 := hB1.same hb12
  have hs2 : W2.heap.size = W1.heap.size + 1 := by rw [← hW2, World.size_alloc]
  rw [hW2]
  have hb2 : Below w.heap.size w W2 := hb1.trans (hb12.mono (by omega))
  have hx2 := hx.ints_keep (So' := So) (Keep.below (S := So) hb2)
  have hxs : placesF 0 (clusOf (clL propF cl0 c)) = [(0, c)] := by rw [cl_clus, hone]; rfl
  have hit := all_iter 2 So Si b off cc W1.heap.size [147, 150] (by decide) c h0 (by omega) W2 hx2 w.heap.size (by omega) hSo hbx
  rw [hxs] at hit
  have HX := hide hx2
  clear hW1 hW2
  refine range_C (F := Fence.wide) rfl (by omega) (gf := 45) (lb := #[.pointer (some ⟨W1.heap.size, 0, none⟩)]) rfl trivial (enters_of Tryz.func45 (by kernel_rfl) rfl) hit KeepC.trans (KeepC.put (by omega) (by omega)) (fun _ => rfl) (ItI w.heap.size w.heap.size W2.heap.size w (widthF propF c)) ?own ?step ?start ?a1 ?assign ?body ?done
  case assign =>
    intro l x W K hK
    unfold encP
    gi_wp2
    exact hK
  case own =>
    intro s A B row hs hg hr
    obtain ⟨h1, h2, h3⟩ := hs
    refine ⟨h1.grown hg h1.size (fun k e => by have := (hr k e).1; omega), Nat.le_trans h2 hg.size, ?_⟩
    have hr2 : ∀ r, row = some r → ∃ o : Obj, A.heap[r]? = some o ∧ o.isCells = false := fun r e => (hr r e).2
    rcases h3 with ⟨e, hb⟩ | ⟨e, gi, cap, cs, hb, hc, hu⟩
    · exact .inl ⟨e, blk_own hb hg hr2⟩
    · exact .inr ⟨e, gi, cap, cs, blk_own hb hg hr2, blk_own hc hg hr2, hu⟩
  case step =>
    intro s A B hs hst
    obtain ⟨h1, h2, h3⟩ := hs
    refine ⟨h1.trans (hst.below' (by omega) h2), Nat.le_trans h2 hst.size, ?_⟩
    rcases h3 with ⟨e, hb⟩ | ⟨e, gi, cap, cs, hb, hc, hu⟩
    · exact .inl ⟨e, hb.step hst (by decide)⟩
    · exact .inr ⟨e, gi, cap, cs, hb.step hst (by decide), hc.step hst (by decide), hu⟩
  case start => exact ⟨hb2, Nat.le_refl _, .inl ⟨rfl, hB2⟩⟩
  case body =>
    intro l pre x rest W he hI
    have hp : pre = [] ∧ x = (0, c) ∧ rest = [] := by
      cases pre with
      | nil => injection he with h1 h2; exact ⟨rfl, h1.symm, h2.symm⟩
      | cons y pre => injection he with h1 h2; exact absurd h2 (by cases pre <;> simp)
    obtain ⟨rfl, rfl, rfl⟩ := hp
    obtain ⟨hbW, hzW, ⟨_, hBW⟩ | ⟨hne, _⟩⟩ := hI
    · have hs3 := hbW.size
      have hBW0 := hBW.cell 0
      have hBWf := hBW.frozen 0
      simp only [List.getElem?_toArray, List.getElem?_cons_zero] at hBW0
      have hx0 := hx.ints_keep (So' := So) (Keep.below (S := So) hbW)
      have hx1 : Slc (Rep.int .i32) So Si W (.slice (some ⟨b, off, none⟩) c.length c.length) c := ⟨_, c.length, rfl, Nat.le_refl _, by simp [maxLen]; omega, hx0.slb⟩
      have HPC := hide (piece_ok So Si _ c W hx1 h0 hlen hsil)
      have HS1 := hide hs1
      have HS2 := hide hs2
      clear hx hx2 hx0 hx1 hit hxs hone hs1 hs2 hs3 hb1 hB1 hbx hb12 hB2 he hsil HAL HX
      gi_wp2_with fail
      refine ⟨trivial, (CallsIn.inRound l (callsIn_wide.2 HPC.out)).mono ?_⟩
      rintro e w3 ⟨v3, rfl, hv3, hb3⟩
      obtain ⟨A3, c3, rfl, _, _, _⟩ := hv3.islc.open_
      have hB3 := hBW.same hb3
      have f3 := hB3.cell 0
      have fz3 := hB3.frozen 0
      simp only [List.getElem?_toArray, List.getElem?_cons_zero] at f3
      obtain ⟨wd, hwd⟩ : ∃ wd : Int, (widthF propF c : Int) = wd := ⟨_, rfl⟩
      rw [hwd]
      have HV3 := hide hv3
      have HB3 := hide hB3
      have HBL3 := hide hb3
      clear hv3 hB3 hb3 HPC hBW0 hBWf f3 fz3
      obtain ⟨W4, hW4⟩ : ∃ W4, w3.alloc (.cells #[.int .i64 wd, .slice A3 c.length c3] 150) = W4 := ⟨_, rfl⟩
      have hz4 : W4.heap.size = w3.heap.size + 1 := by rw [← hW4, World.size_alloc]
      have hb4 : Below w3.heap.size w3 W4 := by rw [← hW4]; exact (Below.refl _ w3).alloc (Nat.le_refl _) _
      have hone : Slc RV2 (fun _ => True) (fun _ => False) (W4.alloc (.cells #[.int .i64 wd, .slice A3 c.length c3] 150)) (.slice (some ⟨w3.heap.size + 1, 0, none⟩) 1 1) [(.int .i64 wd, .slice A3 c.length c3)] := by
        have := Slc.lit1 (R := RV2) (Si := fun _ => False) (Si' := fun _ => False) (w := W4) (x := (.int .i64 wd, .slice A3 c.length c3)) (u := [.int .i64 wd, .slice A3 c.length c3]) 150 ⟨[.int .i64 wd], [.slice A3 c.length c3], rfl, ⟨rfl, rfl⟩, rfl, rfl⟩ (fun _ _ h => h.elim)
        rw [hz4] at this
        exact this
      have hI4 : Blk W4 w3.heap.size 150 #[.int .i64 wd, .slice A3 c.length c3] := by rw [← hW4]; exact Blk.new w3 _ _
      have hG4 := HB3.out.same hb4
      have k0 := hI4.cell 0
      have k1 := hI4.cell 1
      have k2 := hG4.cell 0
      have k3 := hG4.frozen 0
      simp only [zA, zB, zC] at k0 k1 k2
      have HW4 := hide hW4
      have HONE := hide hone
      have HB4 := hide hb4
      have HG4 := hide hG4
      clear hone hb4 hW4 hI4 hG4
      gi_upto_region 6 with fail
      rw [HW4.out]
      gi_wp2_with (refine wpListIn_appg rfl (.tmp 18) (.tmp 20) 147 rfl RV2 150 [] w3.heap.size 32 _ Tryz.underlying147 item_info rfl (by decide) (by decide) (.slice none 0 0) [] rfl (Own.nil_ _ _ _ _ _ (by simp)) _ _ _ _ rfl HONE.out (fun _ h => h.elim) (by simp) (by simp; omega) ?_; intro v5 w5 hv5 hst5 hgr5 _; obtain ⟨g5, cap5, xs5, rest5, rfl, hg5, hBg5, _, hels5, _, _, _⟩ := lown_open hv5 (by simp); have hG5 := (HG4.out.alloc (.cells #[.int .i64 wd, .slice A3 c.length c3] 150)).grown hgr5 (by simp [Value.ownBlock]); have m2 := hG5.cell 0; have m3 := hG5.frozen 0; simp only [List.getElem?_toArray, List.getElem?_cons_zero] at m2; have HG5 := hide hG5; have HBG5 := hide hBg5; have HXS5 := hide (els_v2 hels5); have HGR5 := hide hgr5; clear hG5 hBg5 hels5 hgr5 hv5 hst5)
      have hz3 := HBL3.out.size
      have hzw := hbW.size
      have hs5 : Below W.heap.size W w5 := ((HBL3.out.trans (HB4.out.mono hz3)).alloc (by omega) _).grown HGR5.out (by simp; omega) (by simp [Value.ownBlock])
      have hz5 := hs5.size
      have hgl := hBW.lt
      refine ⟨(KeepsOthers.of_below hs5).trans (KeepsOthers.setCell _ _ _), ⟨?_, fun k cs t fz hk ht => ?_, ?_⟩, ?_, ?_, .inr ⟨by simp, g5, cap5, _, HG5.out.set_ 0 _, HBG5.out.far (by show g5 ≠ w.heap.size; omega) _, ?_⟩⟩
      · exact ((hs5.mono hzw).trans ((Step.refl w.heap.size [147] w5).setCell (p := ⟨w.heap.size, 0, none⟩) (Nat.le_refl _) HG5.out.bears _ |>.below (by omega)))
      · have hne : k ≠ w.heap.size := by
          rintro rfl
          unfold Blk at hBW
          rw [hBW] at hk
          injection hk with hk
          injection hk with _ e
          subst e
          exact ht (by decide)
        exact (Below.heap_setCell _ _ _ _ hne).trans (hs5.block k (Array.getElem?_eq_some_iff.1 hk).1)
      · exact (Below.heap_setCell _ _ _ _ (show W1.heap.size ≠ w.heap.size by have := HS1.out; omega)).trans (hs5.block _ (by have := HS2.out; omega))
      · exact hbW.trans ((hs5.mono hzw).trans ((Step.refl w.heap.size [147] w5).setCell (p := ⟨w.heap.size, 0, none⟩) (Nat.le_refl _) HG5.out.bears _ |>.below (by omega)))
      · have : (w5.setCell ⟨w.heap.size, 0, none⟩ (.slice (some ⟨g5, 0, none⟩) 1 cap5)).heap.size = w5.heap.size := by simp [World.setCell]
        omega
      · refine ⟨A3, c.length, c3, ?_⟩
        rw [HXS5.out]
        simp [hwd]
    · exact (hne rfl).elim
  case done =>
    intro D W hD hI hW
    obtain ⟨h1, h2, ⟨hn, _⟩ | ⟨_, gi, cap, cs, hb, hc, Au, nu, cu, hu⟩⟩ := hI
    · cases hn
    have c0 := hb.cell 0
    simp only [List.getElem?_toArray, List.getElem?_cons_zero] at c0
    have HRES := hide (fun (o' : Obj) => (⟨gi, cap, cs, Au, nu, cu, rfl, (by
      have hd : gi ≠ D := by
        rintro rfl
        unfold Blk at hc
        rw [hc] at hW
        cases hW
      exact (World.putObj_heap_other hd).trans hc), hu, h1.trans ((Below.refl _ W).grown (grownBy_putObj' W D o') h1.size (fun k e => by cases e; omega))⟩ : ∃ gi' cap' cs Au nu cu, Ending.returned (.slice (some ⟨gi, 0, none⟩) 1 cap) = .returned (.slice (some ⟨gi', 0, none⟩) 1 cap') ∧ Blk (W.putObj D o') gi' 150 cs ∧ cs.toList.take 2 = [.int .i64 (widthF propF c), .slice Au nu cu] ∧ Below w.heap.size w (W.putObj D o')))
    clear hit hxs hone hs1 hs2 hb1 hB1 hbx hb12 hB2 hsil HAL HX hx hx2 hb hc hu h1
    gi_wp2
    refine ⟨by simp, .inl ⟨_, _, rfl, run_takeDeferred hW, ?_⟩⟩
    refine ⟨_, results_tmp rfl _ _ _, ?_⟩
    exact HRES.out _
theorem Columns_ok (So Si : Nat → Prop) (x : Value) (c : List Int) (w : World) (hx : Slc (Rep.int .i32) So Si w x c) (hSo : ∀ b, So b → b < w.heap.size) (hone : clusF' propF c = [c]) (h0 : 0 < c.length) (hlen : c.length ≤ 16) (hsil : silF c[0] = false) :
    Calls Tryz.prog 48 #[x] w fun e w' => e = .returned (.int .i64 (widthF propF c)) ∧ Below w.heap.size w w' := by
  have HI := hide (Items_ok So Si x c w hx hSo hone h0 hlen hsil)
  obtain ⟨A, cc, rfl, hc1, hc2, hB⟩ := hx.open_
  have hw : 0 ≤ (widthF propF c : Int) ∧ (widthF propF c : Int) ≤ 2 := by rcases widthF_or propF c with h | h <;> rw [h] <;> decide
  obtain ⟨wd, hwd⟩ : ∃ wd : Int, (widthF propF c : Int) = wd := ⟨_, rfl⟩
  rw [hwd] at HI hw ⊢
  clear hwd hB hone hsil hSo
  go_enter Tryz.func48, Tryz.ntmps48
  go_wp2_with fail
  refine HI.out.mono ?_
  rintro e w1 ⟨gi, cap, cs, Au, nu, cu, rfl, hc, hu, hb⟩
  have c0 : w1.cell? ⟨gi, 0, none⟩ = some (.int .i64 wd) := by
    rw [hc.cell 0, ← Array.getElem?_toList]
    have := congrArg (·[0]?) hu
    simpa [List.getElem?_take] using this
  have c1 : w1.cell? ⟨gi, 1, none⟩ = some (.slice Au nu cu) := by
    rw [hc.cell 1, ← Array.getElem?_toList]
    have := congrArg (·[1]?) hu
    simpa [List.getElem?_take] using this
  have HB := hide hb
  have hgl := hc.lt
  clear hb hc hu
  go_wp2
  go_loopw [3, 9] (fun n i wr => (n = .int .i64 0 ∧ i = .int .i64 0 ∧ w1 = wr) ∨ (n = .int .i64 wd ∧ i = .int .i64 1 ∧ Below w.heap.size w wr)) (fun _ i _ => 1 - (intOf i).toNat)
  case atStart => exact .inl ⟨rfl, rfl, rfl⟩
  case round =>
    rcases hrel with ⟨rfl, rfl, rfl⟩ | ⟨rfl, rfl, hbel⟩
    · go_wp2
      go_roundw
      case rel => exact .inr ⟨by go_num, rfl, HB.out.alloc HB.out.size _⟩
      case measure => simp [intOf]
    · go_wp2
      go_ret
      exact ⟨rfl, hbel⟩
end Go.Proofs.YtdjpdllehhecpaaGreatDoor
