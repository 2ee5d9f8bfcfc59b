/-
  How many clusters from a place on are just a text, by the document: what its function returns; the law's small functions.
-/
import Derived.Test.YtejhaepgbfngcaaDoorSea4
import Derived.Test.YtejhaepgbfngcaaDoorWgt
namespace Go.Proofs.YtejhaepgbfngcaaDoor
open Go.RowKit
set_option linter.unusedVariables false
set_option linter.unusedSimpArgs false

theorem refC_succ (ls : List LineV) (text : List Int) (f n : Nat) (got : List Int) (i j : Nat) : refC ls text (f + 1) n got i j = if got ++ tAt (lnAt ls i).1 j = text then n else match nextF ls i j with
    | none => 0
    | some q => refC ls text f (n + 1) (got ++ tAt (lnAt ls i).1 j) q.1 q.2 := rfl

set_option maxHeartbeats 4000000 in
theorem Count_ok (So : Nat → Prop) (x y : Value) (wd hi r c : Int) (p au : Bool) (ls : List LineV) (W : Nat) (i j : Nat) (t : List Int) (w : World) (hx : Slc RLine So (fun b => b < w.heap.size) w x ls) (hy : Slc (Rep.int .i32) (fun b => b < w.heap.size) (fun _ => False) w y t) (h : Rght ls W) (hW : W ≤ 100000) (hl2 : ls.length ≤ 100000) (hd : Head ls W i j) (hsh : ∀ l ∈ ls, ∀ c ∈ l.1, c.2.length ≤ 16) (ht : t.length ≤ 1000) :
    Calls Tryd.prog 22 #[.agg #[.int .i64 wd, .int .i64 hi, x, .int .i64 r, .int .i64 c, .bool p, .bool au], .int .i64 i, .int .i64 j, y] w fun e w' => e = .returned (.int .i64 (refC ls t t.length 1 [] i j)) ∧ Below w.heap.size w w' := by
  obtain ⟨A, cp, rfl, hc1, hc2, _⟩ := hx.open_
  obtain ⟨B, d, rfl, hd1, hd2, _⟩ := hy.open_
  have hb0 := (Below.refl w.heap.size w).alloc (Nat.le_refl _) (.cells #[.int .i64 wd, .int .i64 hi, .slice A ls.length cp, .int .i64 r, .int .i64 c, .bool p, .bool au] 40)
  have bv := Blk.new w 40 #[.int .i64 wd, .int .i64 hi, .slice A ls.length cp, .int .i64 r, .int .i64 c, .bool p, .bool au]
  have HSH := hide hsh
  have HNX := hide (fun (i j : Nat) (hd : Head ls W i j) (V : World) (hV : Below w.heap.size w V) => next_ok So _ wd hi r c p au ls W i j V ((hx.mono (Keep.below (S := So) hV) (Keep.below (S := fun b => b < w.heap.size) hV)).mono (Keep.refl _ _) (Keep.weaken fun b hb => by have := hV.size; omega)) h hW hl2 hd)
  have HH := hide h
  clear hsh h
  go_enter Tryd.func22, Tryd.ntmps22
  go_wp2
  go_loopw [1, 2, 9, 10] (fun iv jv got nv wr => ∃ (f n a k : Nat) (g : List Int), n + f = t.length + 1 ∧ iv = .int .i64 a ∧ jv = .int .i64 k ∧ nv = .int .i64 n ∧ Head ls W a k ∧ refC ls t t.length 1 [] i j = refC ls t f n g a k ∧ g.length ≤ 16 * n ∧ Own (Rep.int .i32) 21 [] w.heap.size wr got g ∧ Blk wr w.heap.size 40 #[.int .i64 wd, .int .i64 hi, .slice A ls.length cp, .int .i64 r, .int .i64 c, .bool p, .bool au] ∧ Below w.heap.size w wr) (fun _ _ _ nv _ => t.length + 1 - (intOf nv).toNat)
  case atStart => exact ⟨t.length, 1, i, j, [], by omega, rfl, rfl, rfl, hd, rfl, by simp, Own.nil_ _ _ _ _ _ (by decide), bv, hb0⟩
  case round =>
    obtain ⟨f, n, a, k, g, hfn, rfl, rfl, rfl, hhd, hf, hgl, hout, hbv, hbr⟩ := hrel
    have hzr := hbr.size
    cases f with
    | zero =>
      have hni : ¬ (n : Int) ≤ t.length := by omega
      have HF : Hid (refC ls t t.length 1 [] i j = 0) := hide hf
      clear hf
      go_wp2
      go_ret
      rw [HF.out]
      exact ⟨rfl, hbr⟩
    | succ f =>
      have hni : (n : Int) ≤ t.length := by omega
      obtain ⟨ha, hk, hk12⟩ := hhd
      have hhd2 : Head ls W a k := ⟨ha, hk, hk12⟩
      have hwi := HH.out.wide a ha
      have y0 := hbv.cell 0
      have y1 := hbv.cell 1
      have y2 := hbv.cell 2
      have y3 := hbv.cell 3
      have y4 := hbv.cell 4
      have y5 := hbv.cell 5
      have y6 := hbv.cell 6
      simp only [List.getElem?_toArray, List.getElem?_cons_succ, List.getElem?_cons_zero] at y0 y1 y2 y3 y4 y5 y6
      have hxr := hx.mono (Keep.below (S := So) hbr) (Keep.below (S := fun b => b < w.heap.size) hbr)
      obtain ⟨ab, off, v2, rfl, _, q0, q1, hv⟩ := line_at hxr.slb ha
      obtain ⟨A2, c2, rfl, _, _, _⟩ := hv.open_
      rw [lnAt_at ls ha] at hwi
      have hkl : k < ls[a].1.length := by omega
      obtain ⟨cb, co, v3, rfl, _, q2, q3, _, htx⟩ := cell_at hv.slb (k := k) hkl
      obtain ⟨A4, c4, rfl, _, _, _⟩ := htx.open_
      rw [refC_succ, lnAt_at ls ha, tAt_at _ hkl] at hf
      have h16 := HSH.out ls[a] (List.getElem_mem _) ls[a].1[k] (List.getElem_mem _)
      have hai : (a : Int) < ls.length := by omega
      have hki : (k : Int) < ls[a].1.length := by omega
      have htxi := htx.flat_any (Flat.int .i32) (fun _ => False)
      obtain ⟨tx, htx2⟩ : ∃ tx, ls[a].1[k].2 = tx := ⟨_, rfl⟩
      rw [htx2] at hf q3 h16 htxi
      have hnl := (next_law HH.out hhd2).2
      have HNL := hide hnl
      have HHD := hide hhd2
      have HF0 := hide hf
      have hgl2 : (g ++ tx).length ≤ 16 * (n + 1) := by rw [List.length_append]; omega
      clear hf hnl hk12 hhd2 hwi htx2 htx hxr hk
      go_upto_region 6 with (at_builtin; refine wpList_appg rfl (.tmp 20) (.tmp 30) 22 rfl (Rep.int .i32) 21 [] w.heap.size 4 _ Tryd.underlying22 i32_info rfl (by decide) (by decide) _ _ rfl hout _ _ _ _ rfl htxi (fun _ h => h.elim) (by omega) hzr ?_; intro v8 w8 hv8 hst8 hg8 hob8)
      have hb8 := hbr.trans (hst8.below hzr)
      have hz8 := hb8.size
      have hbv8 := hbv.step hst8 (by decide)
      have hy8 := (hy.ints_keep (Keep.below (S := fun b => b < w.heap.size) hb8))
      have hsm := Same_ok _ _ _ _ _ _ _ _ _ hv8.islc hy8
      clear y0 y1 y2 y3 y4 y5 y6 q0 q1 q2 q3 hst8 hg8 hob8 htxi hv
      by_cases heq : g ++ tx = t
      · rw [decide_eq_true heq] at hsm
        have HSM := hide hsm
        have HF : Hid (refC ls t t.length 1 [] i j = n) := hide (by rw [HF0.out, if_pos heq])
        clear hsm heq
        go_wp2_with fail
        refine HSM.out.mono ?_
        rintro e w9 ⟨rfl, q, rfl⟩
        go_wp2
        go_ret
        rw [HF.out]
        exact ⟨rfl, below_drewN hb8 q⟩
      · rw [decide_eq_false heq] at hsm
        have HSM := hide hsm
        have HF1 := hide (HF0.out.trans (if_neg heq))
        clear hsm heq
        go_wp2_with fail
        refine HSM.out.mono ?_
        rintro e w9 ⟨rfl, q, rfl⟩
        have hb9 := below_drewN hb8 q
        have hbv9 := hbv8.drewN q
        have hv9 := hv8.drewN q
        generalize w8.drewN q = w10 at *
        have hz10 := hb9.size
        have y0 := hbv9.cell 0
        have y1 := hbv9.cell 1
        have y2 := hbv9.cell 2
        have y3 := hbv9.cell 3
        have y4 := hbv9.cell 4
        have y5 := hbv9.cell 5
        have y6 := hbv9.cell 6
        simp only [List.getElem?_toArray, List.getElem?_cons_succ, List.getElem?_cons_zero] at y0 y1 y2 y3 y4 y5 y6
        have hnx := HNX.out a k HHD.out w10 hb9
        obtain ⟨qq, hqq⟩ : ∃ qq, nextF ls a k = qq := ⟨_, rfl⟩
        have hnl := HNL.out
        have hf1 := HF1.out
        rw [hqq] at hnx hnl hf1
        cases qq with
        | none =>
          have HF : Hid (refC ls t t.length 1 [] i j = 0) := hide hf1
          have HNX2 := hide hnx
          clear hnx hnl hf1 hqq
          go_wp2_with fail
          refine HNX2.out.mono ?_
          rintro e w11 ⟨v11, rfl, ⟨ra, rc, rfl, hq⟩, hb11⟩
          clear hq
          go_wp2
          go_ret
          rw [HF.out]
          exact ⟨rfl, hb9.trans (hb11.mono hz10)⟩
        | some q2 =>
          have HF : Hid (refC ls t t.length 1 [] i j = refC ls t f (n + 1) (g ++ tx) q2.1 q2.2) := hide hf1
          have HHQ := hide (hnl q2 rfl).1
          have HNX2 := hide hnx
          clear hnx hnl hf1 hqq
          go_wp2_with fail
          refine HNX2.out.mono ?_
          rintro e w11 ⟨v11, rfl, ⟨ra, rc, rfl, hq⟩, hb11⟩
          obtain ⟨rfl, rfl⟩ := hq q2 rfl
          clear hq
          go_wp2
          go_roundw
          case rel => exact ⟨f, n + 1, q2.1, q2.2, g ++ tx, by omega, rfl, rfl, by go_num, HHQ.out, HF.out, hgl2, hv9.below hb11, hbv9.same hb11, hb9.trans (hb11.mono hz10)⟩
          case measure => simp [intOf]; omega

set_option maxHeartbeats 1000000 in
theorem one53_ok (r : Int) (hr : (Lit.int .i32 r).wf = true) (w : World) :
    Calls Tryd.prog 45 #[.int .i32 r] w fun e w' => ∃ v, e = .returned (.agg #[.int .i64 1, v]) ∧ Slc (Rep.int .i32) (fun b => b < w'.heap.size) (fun b => b < w'.heap.size) w' v [r] ∧ Below w.heap.size w w' := by
  have hin := own_i32 (w.alloc (.cells #[.int .i64 1, .slice (some ⟨w.heap.size + 1, 0, none⟩) 1 1] 51)) [r] (by simpa using hr) 0 (w.heap.size + 1) 1 (Nat.zero_le _) (by simp) rfl (by simp [maxLen])
  simp only [List.map_cons, List.map_nil] at hin
  have hin2 := hin.slc
  have hbl := (Blk.new w 51 #[.int .i64 1, .slice (some ⟨w.heap.size + 1, 0, none⟩) 1 1]).alloc (.cells #[.int .i32 r] 21)
  have hb0 : Below w.heap.size w ((w.alloc (.cells #[.int .i64 1, .slice (some ⟨w.heap.size + 1, 0, none⟩) 1 1] 51)).alloc (.cells #[.int .i32 r] 21)) := ((Below.refl _ w).alloc (Nat.le_refl _) _).alloc (by simp) _
  have x0 := hbl.cell 0
  have x1 := hbl.cell 1
  simp only [List.getElem?_toArray, List.getElem?_cons_succ, List.getElem?_cons_zero] at x0 x1
  have HX := hide (⟨x0, x1⟩ : _ ∧ _)
  have HI := hide hin2
  have HB := hide hb0
  clear hin hbl hin2 x0 x1 hb0
  go_enter Tryd.func45, Tryd.ntmps45
  go_wp2
  obtain ⟨x0, x1⟩ := HX.out
  refine bodyPost_ret (v := .agg #[.int .i64 1, .slice (some ⟨w.heap.size + 1, 0, none⟩) 1 1]) (by simp [results, Tryd.results45, go_sem, x0, x1]) rfl ⟨_, rfl, HI.out.mono (Keep.weaken fun b h => h.1) (Keep.lt _ _), HB.out⟩

def GreatS (v : Value) (ls : List LineV) : Prop := ∃ g, v = .bool g ∧ (g = false → ls.length ≤ 100 ∧ ∀ l ∈ ls, l.1.length ≤ 500)
set_option maxHeartbeats 2000000 in
theorem great53_ok (So : Nat → Prop) (x : Value) (wd hi r c : Int) (p au : Bool) (ls : List LineV) (w : World) (hx : Slc RLine So (fun b => b < w.heap.size) w x ls) (hok : LinesOk ls) :
    Calls Tryd.prog 18 #[.agg #[.int .i64 wd, .int .i64 hi, x, .int .i64 r, .int .i64 c, .bool p, .bool au]] w fun e w' => ∃ v, e = .returned v ∧ GreatS v ls ∧ Below w.heap.size w w' := by
  obtain ⟨A, cp, rfl, hc1, hc2, _⟩ := hx.open_
  have HOK := hide hok
  have hb0 := (Below.refl w.heap.size w).alloc (Nat.le_refl _) (.cells #[.int .i64 wd, .int .i64 hi, .slice A ls.length cp, .int .i64 r, .int .i64 c, .bool p, .bool au] 40)
  have hz0 := hb0.size
  have hx0 := hx.mono (Keep.below (S := So) hb0) (Keep.below (S := fun b => b < w.heap.size) hb0)
  clear hok
  go_enter Tryd.func18, Tryd.ntmps18
  go_wp2
  go_loopw [3, 4] (fun n i wr => ∃ (k : Nat) (s : Int), k ≤ ls.length ∧ i = .int .i64 k ∧ n = .int .i64 s ∧ 0 ≤ s ∧ s ≤ 500 + 140737488355328 ∧ (s < 500 → ∀ j (h : j < ls.length), j < k → ls[j].1.length ≤ 500) ∧ (w.alloc (.cells #[.int .i64 wd, .int .i64 hi, .slice A ls.length cp, .int .i64 r, .int .i64 c, .bool p, .bool au] 40)) = wr) (fun _ i _ => ls.length - (intOf i).toNat)
  case atStart => exact ⟨0, 0, Nat.zero_le _, rfl, rfl, by omega, by omega, fun _ j _ h => absurd h (Nat.not_lt_zero j), rfl⟩
  case round =>
    obtain ⟨k, s, hk, rfl, rfl, hs0, hs1, hpre, rfl⟩ := hrel
    have HP := hide hpre
    clear hpre
    by_cases hs2 : s < 500
    · have hs4 : decide ((500 : Int) ≤ s) = false := decide_eq_false (by omega)
      have HS4 := hide hs4
      clear hs4
      by_cases hlt : k < ls.length
      · obtain ⟨ab, off, v2, rfl, _, p0, p1, hv⟩ := line_at hx0.slb hlt
        obtain ⟨A2, c2, rfl, _, _, _⟩ := hv.open_
        have hll := HOK.out.2 ls[k] (List.getElem_mem _)
        have hki : (k : Int) < ls.length := by omega
        go_wp2
        go_roundw
        case rel =>
          refine ⟨k + 1, _, by omega, by go_num, rfl, by omega, by omega, fun h j hj hjk => ?_, trivial⟩
          by_cases e : j = k
          · subst e; omega
          · exact HP.out (by omega) j hj (by omega)
        case measure => simp [intOf]; omega
      · have hki : ¬ (k : Int) < ls.length := by omega
        by_cases hl : ls.length ≤ 100
        · have hl2 : ¬ (100 : Int) < ls.length := by omega
          go_wp2
          go_ret
          refine ⟨_, rfl, ⟨false, bool_eq HS4.out, fun _ => ⟨hl, fun l hlm => ?_⟩⟩, hb0⟩
          obtain ⟨j, hj, rfl⟩ := List.getElem_of_mem hlm
          exact HP.out hs2 j hj (by omega)
        · have hl2 : (100 : Int) < ls.length := by omega
          go_wp2
          go_ret
          exact ⟨_, rfl, ⟨true, rfl, fun h => (by cases h)⟩, hb0⟩
    · have hs3 : (500 : Int) ≤ s := by omega
      have hs4 : decide ((500 : Int) ≤ s) = true := decide_eq_true hs3
      by_cases hlt : k < ls.length
      · have hki : (k : Int) < ls.length := by omega
        go_wp2
        go_ret
        exact ⟨_, rfl, ⟨true, rfl, fun h => (by cases h)⟩, hb0⟩
      · have hki : ¬ (k : Int) < ls.length := by omega
        go_wp2
        go_ret
        exact ⟨_, rfl, ⟨true, rfl, fun h => (by cases h)⟩, hb0⟩
end Go.Proofs.YtejhaepgbfngcaaDoor
