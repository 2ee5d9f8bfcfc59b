/-
  The document's text between two places: what it returns.
-/
import Derived.Test.YtejhaepgbfngcaaDoorReg5
import Derived.Deep.CutRange
import Derived.Deep.CutBlock
namespace Go.Proofs.YtejhaepgbfngcaaDoor
open Go.RowKit
set_option linter.unusedVariables false
set_option linter.unusedSimpArgs false

def bothR (ls : List LineV) (x0 x1 y0 y1 i : Nat) (k : Nat) : Bool := bothB (lnR ls i).1 i k x0 x1 y0 y1
def refRT (ls : List LineV) (x0 x1 y0 y1 i : Nat) : List Int := refRow (lnR ls i).1 (bothR ls x0 x1 y0 y1 i) (decide (i < y0)) (lnR ls i).2
def refT (ls : List LineV) (x0 x1 y0 y1 n : Nat) : List Int := (List.range' x0 (n - x0)).flatMap (refRT ls x0 x1 y0 y1)
theorem refT_snoc (ls : List LineV) (x0 x1 y0 y1 n : Nat) (h : x0 ≤ n) : refT ls x0 x1 y0 y1 (n + 1) = refT ls x0 x1 y0 y1 n ++ refRT ls x0 x1 y0 y1 n := by
  unfold refT
  rw [show n + 1 - x0 = (n - x0) + 1 by omega, List.range'_concat, List.flatMap_append]
  simp
  rw [show x0 + (n - x0) = n by omega]
theorem refT_zero (ls : List LineV) (x0 x1 y0 y1 : Nat) : refT ls x0 x1 y0 y1 x0 = [] := by unfold refT; rw [Nat.sub_self]; rfl
theorem rowR_len {l : List CellV} (h : ∀ c ∈ l, c.2.length ≤ 16) (P : Nat → Bool) : ∀ n, n ≤ l.length → (rowR l P n).length ≤ 17 * n
  | 0, _ => by unfold rowR; simp
  | n + 1, hn => by
    rw [rowR_snoc l P n (by omega), List.length_append]
    have ih := rowR_len h P n (by omega)
    have h1 := h l[n] (List.getElem_mem _)
    have h2 : (plOf l[n]).length ≤ 1 + l[n].2.length := by unfold plOf; split <;> simp <;> omega
    split
    · omega
    · simp; omega
theorem refN_le (l : List CellV) (on wrap : Bool) : refN l on wrap ≤ l.length := by
  have := used_le l
  unfold refN
  split
  · omega
  · split
    · split <;> omega
    · exact this
theorem refT_len {wd hi : Int} {ls : List LineV} (h : RgtV wd hi ls) (x0 x1 y0 y1 : Nat) : ∀ n, n ≤ ls.length → (refT ls x0 x1 y0 y1 n).length ≤ 18000 * n := by
  intro n
  induction n with
  | zero => intro _; unfold refT; simp
  | succ n ih =>
    intro hn
    by_cases hlt : x0 ≤ n
    · rw [refT_snoc _ _ _ _ _ _ hlt, List.length_append]
      have h1 := ih (by omega)
      have hl := h.line ls[n] (List.getElem_mem _)
      have h3 := h.w2
      unfold refRT refRow
      rw [lnR_at ls (by omega), List.length_append]
      have h2 := rowR_len (sound_short hl.2) (bothR ls x0 x1 y0 y1 n) (refN ls[n].1 (decide (n < y0)) ls[n].2) (refN_le _ _ _)
      have h4 := refN_le ls[n].1 (decide (n < y0)) ls[n].2
      split
      · simp; omega
      · simp; omega
    · unfold refT
      rw [show n + 1 - x0 = 0 by omega]
      simp
/-- Both read the same. -/
theorem ref_text {wd hi : Int} {ls : List LineV} (h : RgtV wd hi ls) {x0 x1 y0 y1 : Nat} (r1 : (y0 : Int) < hi) (c0 : (x1 : Int) < wd) (c1 : (y1 : Int) < wd) (le : x0 < y0 ∨ x0 = y0 ∧ x1 ≤ y1) (r0 : (x0 : Int) < hi) :
    refT ls x0 x1 y0 y1 (y0 + 1) = textT ls wd.toNat x0 x1 y0 y1 (y0 + 1) := by
  unfold refT textT
  have hw1 := h.w1
  have hhl := h.hl
  suffices hs : ∀ i, x0 ≤ i → i ≤ y0 → refRT ls x0 x1 y0 y1 i = rowT ls wd.toNat x0 x1 y0 y1 i by
    have hm : ∀ i ∈ List.range' x0 (y0 + 1 - x0), refRT ls x0 x1 y0 y1 i = rowT ls wd.toNat x0 x1 y0 y1 i := fun i hi => by
      rw [List.mem_range'_1] at hi
      exact hs i hi.1 (by omega)
    rw [List.flatMap_def, List.flatMap_def, List.map_congr_left hm]
  intro i h1 h2
  have hil : i < ls.length := by omega
  have hl := h.line ls[i] (List.getElem_mem _)
  unfold refRT rowT
  rw [lnR_at ls hil]
  have hwl : ls[i].1.length = wd.toNat := by omega
  have hb := both_run hl.2 i x0 x1 y0 y1 (if i = x0 then x1 else 0) (if i = y0 then y1 else wd.toNat - 1) (by omega) (by split <;> split <;> omega) (by split <;> split <;> omega) (by split <;> split <;> omega) (by split <;> omega)
  refine row_eq hl.2 _ _ _ _ _ (by split <;> split <;> omega) (by split <;> omega) (fun hon => ?_) (fun k hk => ?_)
  · rw [decide_eq_true_eq] at hon
    rw [if_neg (by omega)]
    omega
  · unfold bothR
    rw [lnR_at ls hil]
    exact hb k hk

set_option maxRecDepth 8192 in
set_option maxHeartbeats 8000000 in
theorem rText_ok (So : Nat → Prop) (x : Value) (wd hi r c : Int) (p au : Bool) (ls : List LineV) (x0 x1 y0 y1 : Nat) (w : World) (hx : Slc RLine So (fun b => b < w.heap.size) w x ls) (hR : RgtV wd hi ls) (hxy : x0 ≤ y0) (hy : (y0 : Int) < hi) :
    Calls Tryd.prog 28 #[.agg #[.int .i64 wd, .int .i64 hi, x, .int .i64 r, .int .i64 c, .bool p, .bool au], .agg #[.int .i64 x0, .int .i64 x1], .agg #[.int .i64 y0, .int .i64 y1]] w fun e w' => ∃ s, e = .returned s ∧ Own (Rep.int .i32) 21 [] w.heap.size w' s (refT ls x0 x1 y0 y1 (y0 + 1)) ∧ Below w.heap.size w w' := by
  obtain ⟨A, cp, rfl, _, _, _⟩ := hx.open_
  have hll : ls.length ≤ 1024 := by have := hR.h2; have := hR.hl; omega
  have hyl : y0 < ls.length := by have := hR.hl; omega
  obtain ⟨W0, hW0⟩ : ∃ W0, W0 = ((w.alloc (.cells #[.int .i64 wd, .int .i64 hi, .slice A ls.length cp, .int .i64 r, .int .i64 c, .bool p, .bool au] 40)).alloc (.cells #[.int .i64 x0, .int .i64 x1] 59)).alloc (.cells #[.int .i64 y0, .int .i64 y1] 59) := ⟨_, rfl⟩
  have hb0 : Below w.heap.size w W0 := by rw [hW0]; exact (((Below.refl _ w).alloc (Nat.le_refl _) _).alloc (by simp) _).alloc (by simp; omega) _
  have bv : Blk W0 w.heap.size 40 #[.int .i64 wd, .int .i64 hi, .slice A ls.length cp, .int .i64 r, .int .i64 c, .bool p, .bool au] := by rw [hW0]; exact ((Blk.new w 40 #[.int .i64 wd, .int .i64 hi, .slice A ls.length cp, .int .i64 r, .int .i64 c, .bool p, .bool au]).alloc _).alloc _
  have bp : Blk W0 (w.heap.size + 1) 59 #[.int .i64 x0, .int .i64 x1] := by
    rw [hW0]
    have := (Blk.new (w.alloc (.cells #[.int .i64 wd, .int .i64 hi, .slice A ls.length cp, .int .i64 r, .int .i64 c, .bool p, .bool au] 40)) 59 #[.int .i64 x0, .int .i64 x1]).alloc (.cells #[.int .i64 y0, .int .i64 y1] 59)
    simpa using this
  have bs : Blk W0 (w.heap.size + 1 + 1) 59 #[.int .i64 y0, .int .i64 y1] := by
    rw [hW0]
    have := Blk.new ((w.alloc (.cells #[.int .i64 wd, .int .i64 hi, .slice A ls.length cp, .int .i64 r, .int .i64 c, .bool p, .bool au] 40)).alloc (.cells #[.int .i64 x0, .int .i64 x1] 59)) 59 #[.int .i64 y0, .int .i64 y1]
    simpa using this
  have HTL := hide (fun n hn => refT_len hR x0 x1 y0 y1 n hn)
  have HR := hide hR
  clear hR
  have HZ := hide (⟨bv, bp, bs, hb0⟩ : Blk W0 w.heap.size 40 #[.int .i64 wd, .int .i64 hi, .slice A ls.length cp, .int .i64 r, .int .i64 c, .bool p, .bool au] ∧ Blk W0 (w.heap.size + 1) 59 #[.int .i64 x0, .int .i64 x1] ∧ Blk W0 (w.heap.size + 1 + 1) 59 #[.int .i64 y0, .int .i64 y1] ∧ Below w.heap.size w W0)
  have p0 := bp.cell 0
  simp only [List.getElem?_toArray, List.getElem?_cons_succ, List.getElem?_cons_zero] at p0
  clear bv bp bs hb0
  subst hW0
  go_enter Tryd.func28, Tryd.ntmps28
  go_wp2
  go_loopw [7, 8] (fun out i wr => ∃ n : Nat, x0 ≤ n ∧ n ≤ y0 + 1 ∧ i = .int .i64 n ∧ Own (Rep.int .i32) 21 [] w.heap.size wr out (refT ls x0 x1 y0 y1 n) ∧ Blk wr w.heap.size 40 #[.int .i64 wd, .int .i64 hi, .slice A ls.length cp, .int .i64 r, .int .i64 c, .bool p, .bool au] ∧ Blk wr (w.heap.size + 1) 59 #[.int .i64 x0, .int .i64 x1] ∧ Blk wr (w.heap.size + 1 + 1) 59 #[.int .i64 y0, .int .i64 y1] ∧ Below w.heap.size w wr) (fun _ i _ => y0 + 1 - (intOf i).toNat)
  case atStart => exact ⟨x0, Nat.le_refl _, by omega, rfl, by rw [refT_zero]; exact Own.nil_ _ _ _ _ _ (by decide), HZ.out.1, HZ.out.2.1, HZ.out.2.2.1, HZ.out.2.2.2⟩
  case round =>
    obtain ⟨n, hn1, hn2, rfl, hout, bv, bp, bs, hb⟩ := hrel
    clear p0 HZ
    have hz := hb.size
    have hl0 := bv.lt
    have hl1 := bp.lt
    have hl2 := bs.lt
    have v0 := bv.cell 0
    have v1 := bv.cell 1
    have v2 := bv.cell 2
    have v3 := bv.cell 3
    have v4 := bv.cell 4
    have v5 := bv.cell 5
    have v6 := bv.cell 6
    have p0 := bp.cell 0
    have p1 := bp.cell 1
    have s0 := bs.cell 0
    have s1 := bs.cell 1
    simp only [List.getElem?_toArray, List.getElem?_cons_succ, List.getElem?_cons_zero] at v0 v1 v2 v3 v4 v5 v6 p0 p1 s0 s1
    have hln := HTL.out n (by omega)
    by_cases hle : n ≤ y0
    · have hnl : n < ls.length := by omega
      have hni : (n : Int) ≤ y0 := by omega
      have hnj : (n : Int) < ls.length := by omega
      obtain ⟨ab, off, v9, rfl, _, z0, z1, hv⟩ := line_at hx.slb hnl
      obtain ⟨A2, c2, rfl, _, _, _⟩ := hv.open_
      have hab := World.block_lt_of_cell? w _ z0
      simp only at hab
      have q0 := (hb.cell (p := ⟨ab, off + n * 2, none⟩) hab).trans z0
      have q1 := (hb.cell (p := ⟨ab, off + n * 2 + 1, none⟩) hab).trans z1
      have hrl := HR.out.line ls[n] (List.getElem_mem _)
      have hsn := refT_snoc ls x0 x1 y0 y1 n hn1
      unfold refRT refRow at hsn
      rw [lnR_at ls hnl] at hsn
      have hlr : lnR ls n = ls[n] := lnR_at ls hnl
      obtain ⟨l, hl⟩ : ∃ l, ls[n].1 = l := ⟨_, rfl⟩
      obtain ⟨wrap, hwr⟩ : ∃ wrap, ls[n].2 = wrap := ⟨_, rfl⟩
      rw [hl] at hrl hsn hv q0 z0
      rw [hwr] at hsn q1 z1
      have hwl : l.length ≤ 1024 := by have := HR.out.w2; omega
      have hwp : 0 < l.length := by have := HR.out.w1; omega
      have hsh := sound_short hrl.2
      have hB0 : ∀ (k : Nat) (W : World) (hW : Below w.heap.size w W), k < l.length → Calls Tryd.prog 30 #[.slice A2 l.length c2, .int .i64 n, .int .i64 k, .agg #[.int .i64 x0, .int .i64 x1], .agg #[.int .i64 y0, .int .i64 y1]] W fun e w' => e = .returned (.bool (bothR ls x0 x1 y0 y1 n k)) ∧ Below W.heap.size W w' := by
        intro k W hW hk
        have := Both_ok _ (fun b => b < w.heap.size) _ l n k x0 x1 y0 y1 W ((hv.mono (Keep.below (S := fun b => b < w.heap.size) hW) (Keep.below (S := fun b => b < w.heap.size) hW)).mono (Keep.refl _ _) (Keep.weaken fun b hb => by have := hW.size; omega)) hk
        unfold bothR
        rw [hlr, hl]
        exact this
      have hrd : ∀ k, k ≤ l.length → (rowR l (bothR ls x0 x1 y0 y1 n) k).length ≤ 17 * k := fun k hk => rowR_len hsh _ k hk
      have hused : ∀ k, (hk : k < l.length) → usedF (l.take (k + 1)) = if l[k].1 = 0 then usedF (l.take k) else k + 1 := fun k hk => used_take _ k hk
      have hsnoc : ∀ k, (hk : k < l.length) → rowR l (bothR ls x0 x1 y0 y1 n) (k + 1) = rowR l (bothR ls x0 x1 y0 y1 n) k ++ (if bothR ls x0 x1 y0 y1 n k = true then plOf l[k] else []) := fun k hk => rowR_snoc _ _ k hk
      clear hlr
      generalize bothR ls x0 x1 y0 y1 n = P at *
      obtain ⟨on, hon⟩ : ∃ on, on = decide (n < y0) := ⟨_, rfl⟩
      rw [← hon] at hsn
      have hnle := refN_le l on wrap
      obtain ⟨N, hN⟩ : ∃ N, N = refN l on wrap := ⟨_, rfl⟩
      rw [← hN] at hsn hnle
      obtain ⟨M, hM⟩ : ∃ M, l.length = M + 1 := ⟨l.length - 1, by omega⟩
      have hMl : M < l.length := by omega
      have hkl := kindI_at l M hMl
      obtain ⟨cb, co, v10, rfl, _, z2, _, _, _⟩ := cell_at hv.slb (k := M) hMl
      have hcb := World.block_lt_of_cell? w _ z2
      simp only at hcb
      have q2 := (hb.cell (p := ⟨cb, co + M * 2, none⟩) hcb).trans z2
      obtain ⟨gd, hgd⟩ : ∃ gd, gd = decide (on = true ∧ wrap = true ∧ l[M].1 = 0) := ⟨_, rfl⟩
      obtain ⟨m1, hm1⟩ : ∃ m1 : Nat, m1 = if gd = true then M else M + 1 := ⟨_, rfl⟩
      have hrN : N = if on = false then M + 1 else if wrap = true then m1 else usedF l := by
        rw [hN]
        unfold refN
        rw [show (l.length : Int) - 1 = M by omega, hkl, hM, Nat.add_sub_cancel, hm1, hgd]
        cases on
        · rfl
        · cases wrap
          · rfl
          · by_cases h0 : l[M].1 = 0 <;> simp [h0]
      have hgn : on = false ∨ wrap = false → m1 = M + 1 := by
        rintro (rfl | rfl)
        · rw [hm1, if_neg (by rw [hgd]; simp)]
        · rw [hm1, if_neg (by rw [hgd]; simp)]
      have HSN := hide hsn
      have HZ0 := hide z0
      have HZ1 := hide z1
      have HB := hide hB0
      have HRD := hide hrd
      have HUS := hide hused
      have HSC := hide hsnoc
      have HGD := hide hgd
      have HM1 := hide hm1
      have HRN := hide hrN
      have HGN := hide hgn
      have HHM := hide hM
      have HON := hide hon
      have HSH := hide hsh
      have HV := hide hv
      have hMi : (M : Int) < l.length := by omega
      have hMj : (l.length : Int) - 1 = M := by omega
      have hlti : on = true → (n : Int) < y0 := by rw [hon, decide_eq_true_eq]; omega
      have hgei : on = false → ¬ (n : Int) < y0 := by rw [hon, decide_eq_false_iff_not]; omega
      have HLI := hide hlti
      have HGI := hide hgei
      clear z0 z1 z2 hsn hB0 hrd hused hsnoc hN hkl hgd hm1 hrN hgn hM hl hwr hon hrl hsh hv hlti hgei
      go_upto_region 7 with fail
      go_cut [48] from 14 to 121 (fun s wx => s = .bool gd ∧ wr = wx)
      case first =>
        cases on with
        | false =>
          have q5 := HGI.out rfl
          have HG2 : Hid (gd = false) := hide (by rw [HGD.out]; simp)
          clear HGI HLI
          go_wp2
          go_meet
          exact ⟨by rw [HG2.out], rfl⟩
        | true =>
          have q5 := HLI.out rfl
          clear HGI HLI
          cases wrap with
          | false =>
            have HG2 : Hid (gd = false) := hide (by rw [HGD.out]; simp)
            go_wp2
            go_meet
            exact ⟨by rw [HG2.out], rfl⟩
          | true =>
            by_cases h0 : l[M].1 = 0
            · have e0 : (l[M].1 == 0) = true := by simpa using h0
              have HG2 : Hid (gd = true) := hide (by rw [HGD.out]; simp [h0])
              clear h0
              go_wp2
              go_meet
              exact ⟨by rw [HG2.out], rfl⟩
            · have e0 : (l[M].1 == 0) = false := by simpa using h0
              have HG2 : Hid (gd = false) := hide (by rw [HGD.out]; simp [h0])
              clear h0
              go_wp2
              go_meet
              exact ⟨by rw [HG2.out], rfl⟩
      case rest =>
      obtain ⟨rfl, rfl⟩ := hcut
      go_upto_if 48 with fail
      go_cut [10] from 14 to 121 (fun s wx => s = .int .i64 ((m1 : Int) - 1) ∧ wr = wx)
      case first =>
        cases gd with
        | true =>
          have e1 : (M : Int) - 1 = (m1 : Int) - 1 := by rw [HM1.out, if_pos rfl]
          have HE := hide e1
          clear e1
          go_wp2
          go_meet
          exact ⟨by rw [HE.out], rfl⟩
        | false =>
          have e1 : (M : Int) = (m1 : Int) - 1 := by rw [HM1.out, if_neg (by decide)]; omega
          have HE := hide e1
          clear e1
          go_wp2
          go_meet
          exact ⟨by rw [← HE.out], rfl⟩
      case rest =>
      obtain ⟨rfl, rfl⟩ := hcut
      go_upto_block 2 with fail
      go_cut [10] from 14 to 121 (fun s wx => s = .int .i64 ((N : Int) - 1) ∧ wr = wx)
      case first =>
        go_wp2
        go_loopw [10] (fun s wq => ∃ m : Nat, s = .int .i64 ((m : Int) - 1) ∧ m ≤ M + 1 ∧ (on = false ∨ wrap = true → m = N) ∧ (on = true ∧ wrap = false → usedF (l.take m) = N) ∧ wr = wq) (fun s _ => (intOf s + 1).toNat)
        case atStart =>
          refine ⟨m1, rfl, by rw [HM1.out]; split <;> omega, fun h => ?_, fun h => ?_, rfl⟩
          · rw [HRN.out]
            rcases h with rfl | rfl
            · rw [if_pos rfl]; exact HGN.out (.inl rfl)
            · cases on
              · rw [if_pos rfl]; exact HGN.out (.inl rfl)
              · rw [if_neg (by decide), if_pos rfl]
          · obtain ⟨rfl, rfl⟩ := h
            rw [HRN.out, if_neg (by decide), if_neg (by decide), HGN.out (.inr rfl), ← HHM.out, List.take_length]
        case round =>
          obtain ⟨m, rfl, hm, hA, hC, rfl⟩ := hrel
          have HA := hide hA
          have HC := hide hC
          clear hA hC
          cases on with
          | false =>
            have q5 := HGI.out rfl
            have hmN := HA.out (.inl rfl)
            have HMN := hide hmN
            clear HGI HLI hmN
            go_wp2
            go_meet
            exact ⟨by rw [HMN.out], rfl⟩
          | true =>
            have q5 := HLI.out rfl
            clear HGI HLI
            cases wrap with
            | true =>
              have hmN := HA.out (.inr rfl)
              have HMN := hide hmN
              clear hmN
              go_wp2
              go_meet
              exact ⟨by rw [HMN.out], rfl⟩
            | false =>
              have hu := HC.out ⟨rfl, rfl⟩
              rcases Nat.eq_zero_or_pos m with rfl | hp
              · have HMN : Hid ((0 : Nat) = N) := hide hu
                have q6 : ¬ (0 : Int) ≤ ((0 : Nat) : Int) - 1 := by omega
                clear hu
                go_wp2
                go_meet
                exact ⟨by rw [← HMN.out]; rfl, rfl⟩
              · obtain ⟨k, rfl⟩ : ∃ k, m = k + 1 := ⟨m - 1, by omega⟩
                have hkl : k < l.length := by have := HHM.out; omega
                obtain ⟨cb', co', v11, hA3, _, z3, _, _, _⟩ := cell_at HV.out.slb (k := k) hkl
                have q3 := (hb.cell (p := ⟨cb', co' + k * 2, none⟩) (World.block_lt_of_cell? w _ z3)).trans z3
                obtain ⟨rfl, rfl⟩ : cb = cb' ∧ co = co' := by cases hA3; exact ⟨rfl, rfl⟩
                have e0 : ((k + 1 : Nat) : Int) - 1 = k := by omega
                have hk0 : (0 : Int) ≤ (k : Int) := by omega
                have hki : (k : Int) < l.length := by omega
                have hus := HUS.out k hkl
                rw [hu] at hus
                clear hA3 hu z3
                by_cases h0 : l[k].1 = 0
                · have e1 : (l[k].1 == 0) = true := by simpa using h0
                  rw [if_pos h0] at hus
                  have HU := hide hus
                  clear hus h0
                  go_wp2
                  go_roundw
                  case rel => exact ⟨k, by go_num, by omega, fun h => (by rcases h with h | h <;> cases h), fun _ => HU.out.symm, trivial⟩
                  case measure => simp [intOf]
                · have e1 : (l[k].1 == 0) = false := by simpa using h0
                  rw [if_neg h0] at hus
                  have HU := hide hus
                  clear hus h0
                  go_wp2
                  go_meet
                  exact ⟨by rw [HU.out]; exact int_eq (by omega), rfl⟩
      case rest =>
      obtain ⟨rfl, rfl⟩ := hcut
      clear HUS HGD HM1 HRN HGN HHM q2
      go_wp2
      go_loopw [7, 11] (fun out kk wq => ∃ k : Nat, k ≤ N ∧ kk = .int .i64 k ∧ Own (Rep.int .i32) 21 [] w.heap.size wq out (refT ls x0 x1 y0 y1 n ++ rowR l P k) ∧ Blk wq w.heap.size 40 #[.int .i64 wd, .int .i64 hi, .slice (some ⟨ab, off, none⟩) ls.length cp, .int .i64 r, .int .i64 c, .bool p, .bool au] ∧ Blk wq (w.heap.size + 1) 59 #[.int .i64 x0, .int .i64 x1] ∧ Blk wq (w.heap.size + 1 + 1) 59 #[.int .i64 y0, .int .i64 y1] ∧ Below w.heap.size w wq) (fun _ kk _ => N - (intOf kk).toNat)
      case atStart => exact ⟨0, Nat.zero_le _, rfl, by simpa [rowR] using hout, bv, bp, bs, hb⟩
      case round =>
        obtain ⟨k, hkN, rfl, hou2, bv2, bp2, bs2, hb2⟩ := hrel
        clear hout bv bp bs hb hz hl0 hl1 hl2 v0 v1 v2 v3 v4 v5 v6 p0 p1 s0 s1 q0 q1
        have hz2 := hb2.size
        have v0 := bv2.cell 0
        have v1 := bv2.cell 1
        have v2 := bv2.cell 2
        have v3 := bv2.cell 3
        have v4 := bv2.cell 4
        have v5 := bv2.cell 5
        have v6 := bv2.cell 6
        have p0 := bp2.cell 0
        have p1 := bp2.cell 1
        have s0 := bs2.cell 0
        have s1 := bs2.cell 1
        simp only [List.getElem?_toArray, List.getElem?_cons_succ, List.getElem?_cons_zero] at v0 v1 v2 v3 v4 v5 v6 p0 p1 s0 s1
        have q0 := (hb2.cell (p := ⟨ab, off + n * 2, none⟩) hab).trans HZ0.out
        have q1 := (hb2.cell (p := ⟨ab, off + n * 2 + 1, none⟩) hab).trans HZ1.out
        have hrdk := HRD.out k (by omega)
        have hal : (refT ls x0 x1 y0 y1 n ++ rowR l P k).length ≤ 18000 * n + 17 * k := by rw [List.length_append]; omega
        by_cases hlt : k < N
        · have hkl : k < l.length := by omega
          have hki : (k : Int) ≤ (N : Int) - 1 := by omega
          have hkj : (k : Int) < l.length := by omega
          have hk0 : (0 : Int) ≤ (k : Int) := by omega
          obtain ⟨cb', co', v12, hA3, _, z3, z4, _, htx⟩ := cell_at HV.out.slb (k := k) hkl
          obtain ⟨rfl, rfl⟩ : cb = cb' ∧ co = co' := by cases hA3; exact ⟨rfl, rfl⟩
          obtain ⟨A4, c4, rfl, _, _, _⟩ := htx.open_
          have hsc := HSC.out k hkl
          have hsk := HSH.out l[k] (List.getElem_mem _)
          have hBk := HB.out k _ hb2 hkl
          have l3 := World.block_lt_of_cell? w _ z3
          have l4 := World.block_lt_of_cell? w _ z4
          have HX := hide (fun (W : World) (h : Below w.heap.size w W) => (htx.mono (Keep.below (S := fun b => b < w.heap.size) h) (Keep.below (S := fun b => b < w.heap.size) h)).flat_any (Flat.int .i32) (fun _ => False))
          have HQ3 := hide (fun (W : World) (h : Below w.heap.size w W) => (h.cell l3).trans z3)
          have HQ4 := hide (fun (W : World) (h : Below w.heap.size w W) => (h.cell l4).trans z4)
          clear hA3 z3 z4 htx
          cases hP : P k with
          | false =>
            rw [hP] at hBk hsc
            rw [if_neg (by decide), List.append_nil] at hsc
            have HS2 := hide hsc
            have HBK := hide hBk
            clear hsc hBk hP
            go_wp2_with fail
            refine HBK.out.mono ?_
            rintro e w7 ⟨rfl, hb7⟩
            go_wp2
            go_roundw
            case rel => exact ⟨k + 1, by omega, by go_num, by rw [HS2.out]; exact hou2.below hb7, bv2.same hb7, bp2.same hb7, bs2.same hb7, hb2.trans (hb7.mono hz2)⟩
            case measure => simp [intOf]; omega
          | true =>
            rw [hP] at hBk hsc
            rw [if_pos rfl] at hsc
            have HBK := hide hBk
            clear hBk hP
            by_cases hk0 : l[k].1 = 0
            · have e1 : (l[k].1 == 0) = true := by simpa using hk0
              have hpl : plOf l[k] = [32] ++ l[k].2 := by unfold plOf; rw [if_pos hk0]
              rw [hpl] at hsc
              have HS2 := hide hsc
              clear hsc hpl hk0
              go_wp2_with fail
              refine HBK.out.mono ?_
              rintro e w7 ⟨rfl, hb7⟩
              have hb7' := hb2.trans (hb7.mono hz2)
              have hz7 := hb7'.size
              have q3 := HQ3.out _ hb7'
              have hou7 := (hou2.below hb7).alloc (.cells #[.int .i32 32] 21)
              have hone := (own_i32 w7 [32] (by decide) 0 w7.heap.size 1 (Nat.zero_le _) rfl rfl (by simp [maxLen])).slc.flat_any (Flat.int .i32) (fun _ => False)
              simp only [List.map_cons, List.map_nil] at hone
              go_upto_region 17 with (at_builtin; refine wpList_appg rfl (.tmp 96) (.tmp 97) 22 rfl (Rep.int .i32) 21 [] w.heap.size 4 _ Tryd.underlying22 i32_info rfl (by decide) (by decide) _ _ rfl hou7 _ _ _ _ rfl hone (fun _ h => h.elim) (by simp only [List.length_singleton]; omega) (by simp; omega) ?_; intro v8 w8 hv8 hst8 hg8 hob8; have hst9 := (Step.alloc1 w.heap.size [21] w7 (.cells #[.int .i32 32] 21)).trans hst8; have hb8 := hb7'.trans (hst9.below hz7); have q4 := HQ4.out _ hb8; have hz8 := hb8.size)
              go_wp2_with (at_builtin; refine wpList_appg rfl (.tmp 99) (.tmp 104) 22 rfl (Rep.int .i32) 21 [] w.heap.size 4 _ Tryd.underlying22 i32_info rfl (by decide) (by decide) _ _ rfl hv8 _ _ _ _ rfl (HX.out _ hb8) (fun _ h => h.elim) (by rw [List.length_append, List.length_singleton]; omega) hz8 ?_; intro v10 w10 hv10 hst10 hg10 hob10)
              go_roundw
              case rel => exact ⟨k + 1, by omega, by go_num, by rw [HS2.out, ← List.append_assoc, ← List.append_assoc]; exact hv10, ((bv2.same hb7).step hst9 (by decide)).step hst10 (by decide), ((bp2.same hb7).step hst9 (by decide)).step hst10 (by decide), ((bs2.same hb7).step hst9 (by decide)).step hst10 (by decide), hb8.trans (hst10.below hz8)⟩
              case measure => simp [intOf]; omega
            · have e1 : (l[k].1 == 0) = false := by simpa using hk0
              have hpl : plOf l[k] = l[k].2 := by unfold plOf; rw [if_neg hk0]; rfl
              rw [hpl] at hsc
              have HS2 := hide hsc
              clear hsc hpl hk0
              go_wp2_with fail
              refine HBK.out.mono ?_
              rintro e w7 ⟨rfl, hb7⟩
              have hb7' := hb2.trans (hb7.mono hz2)
              have hz7 := hb7'.size
              have q3 := HQ3.out _ hb7'
              have q4 := HQ4.out _ hb7'
              have hou7 := hou2.below hb7
              go_wp2_with (at_builtin; refine wpList_appg rfl (.tmp 99) (.tmp 104) 22 rfl (Rep.int .i32) 21 [] w.heap.size 4 _ Tryd.underlying22 i32_info rfl (by decide) (by decide) _ _ rfl hou7 _ _ _ _ rfl (HX.out _ hb7') (fun _ h => h.elim) (by omega) hz7 ?_; intro v10 w10 hv10 hst10 hg10 hob10)
              go_roundw
              case rel => exact ⟨k + 1, by omega, by go_num, by rw [HS2.out, ← List.append_assoc]; exact hv10, (bv2.same hb7).step hst10 (by decide), (bp2.same hb7).step hst10 (by decide), (bs2.same hb7).step hst10 (by decide), hb7'.trans (hst10.below hz7)⟩
              case measure => simp [intOf]; omega
        · obtain rfl : k = N := by omega
          have hki : ¬ (k : Int) ≤ (k : Int) - 1 := by omega
          clear HB HRD HSC
          cases on with
          | false =>
            have q5 := HGI.out rfl
            have HS3 : Hid (refT ls x0 x1 y0 y1 (n + 1) = refT ls x0 x1 y0 y1 n ++ rowR l P k) := hide (by rw [HSN.out, if_neg (by simp), List.append_nil])
            clear HGI HLI HSN HON
            go_wp2
            go_roundw
            case rel => exact ⟨n + 1, by omega, by omega, by go_num, by rw [HS3.out]; exact hou2, bv2, bp2, bs2, hb2⟩
            case measure => simp [intOf]; omega
          | true =>
            have q5 := HLI.out rfl
            cases wrap with
            | true =>
              have HS3 : Hid (refT ls x0 x1 y0 y1 (n + 1) = refT ls x0 x1 y0 y1 n ++ rowR l P k) := hide (by rw [HSN.out, if_neg (by simp), List.append_nil])
              clear HGI HLI HSN HON
              go_wp2
              go_roundw
              case rel => exact ⟨n + 1, by omega, by omega, by go_num, by rw [HS3.out]; exact hou2, bv2, bp2, bs2, hb2⟩
              case measure => simp [intOf]; omega
            | false =>
              have HS3 : Hid (refT ls x0 x1 y0 y1 (n + 1) = refT ls x0 x1 y0 y1 n ++ rowR l P k ++ [10]) := hide (by rw [HSN.out, if_pos ⟨rfl, rfl⟩, List.append_assoc])
              clear HGI HLI HSN HON
              have hou7 := hou2.alloc (.cells #[.int .i32 10] 21)
              have hone := (own_i32 wr [10] (by decide) 0 wr.heap.size 1 (Nat.zero_le _) rfl rfl (by simp [maxLen])).slc.flat_any (Flat.int .i32) (fun _ => False)
              simp only [List.map_cons, List.map_nil] at hone
              go_wp2_with (at_builtin; refine wpList_appg rfl (.tmp 119) (.tmp 120) 22 rfl (Rep.int .i32) 21 [] w.heap.size 4 _ Tryd.underlying22 i32_info rfl (by decide) (by decide) _ _ rfl hou7 _ _ _ _ rfl hone (fun _ h => h.elim) (by simp only [List.length_singleton]; omega) (by simp; omega) ?_; intro v8 w8 hv8 hst8 hg8 hob8)
              have hst9 := (Step.alloc1 w.heap.size [21] wr (.cells #[.int .i32 10] 21)).trans hst8
              go_roundw
              case rel => exact ⟨n + 1, by omega, by omega, by go_num, by rw [HS3.out]; exact hv8, bv2.step hst9 (by decide), bp2.step hst9 (by decide), bs2.step hst9 (by decide), hb2.trans (hst9.below hz2)⟩
              case measure => simp [intOf]; omega
    · have hni : ¬ (n : Int) ≤ y0 := by omega
      obtain rfl : n = y0 + 1 := by omega
      go_wp2
      go_ret
      exact ⟨_, rfl, hout, hb⟩
end Go.Proofs.YtejhaepgbfngcaaDoor
