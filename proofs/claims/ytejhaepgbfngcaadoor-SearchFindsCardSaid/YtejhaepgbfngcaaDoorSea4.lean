/-
  The document's way from cluster to cluster: what its functions return. Each function once.
-/
import Derived.Test.YtejhaepgbfngcaaDoorSea3
import Derived.Test.YtejhaepgbfngcaaDoorCell0
import Derived.Deep.CutRange
namespace Go.Proofs.YtejhaepgbfngcaaDoor
open Go.RowKit
set_option linter.unusedVariables false
set_option linter.unusedSimpArgs false

def TupV (v : Value) (q : Option (Nat × Nat)) : Prop := ∃ a c : Int, v = .tuple #[.int .i64 a, .int .i64 c, .bool q.isSome] ∧ ∀ p, q = some p → a = p.1 ∧ c = p.2
theorem TupV.some_ (i j : Nat) : TupV (.tuple #[.int .i64 i, .int .i64 j, .bool true]) (some (i, j)) := ⟨i, j, rfl, fun p h => by injection h with h; subst h; exact ⟨rfl, rfl⟩⟩
theorem TupV.none_ (a c : Int) : TupV (.tuple #[.int .i64 a, .int .i64 c, .bool false]) none := ⟨a, c, rfl, fun p h => by cases h⟩
theorem passed_end (ls : List LineV) {i : Nat} (h : ls.length ≤ i) : passedG i (ls.drop i) = none := by rw [List.drop_eq_nil_of_le h]; rfl
theorem passed_step (ls : List LineV) {i : Nat} (h : i < ls.length) : passedG i (ls.drop i) = if ls[i].2 = true ∧ kAt ls[i].1 0 = 0 then passedG (i + 1) (ls.drop (i + 1)) else if kAt ls[i].1 0 ≠ 0 then some (i, 0) else none := by
  rw [List.drop_eq_getElem_cons h]; rfl

set_option maxHeartbeats 4000000 in
theorem passed_ok2 (So : Nat → Prop) (x : Value) (wd hi r c : Int) (p au : Bool) (ls : List LineV) (i : Nat) (w : World) (hx : Slc RLine So (fun b => b < w.heap.size) w x ls) (hpos : ∀ l ∈ ls, 0 < l.1.length) (hi2 : i ≤ ls.length) :
    Calls Tryd.prog 77 #[.agg #[.int .i64 wd, .int .i64 hi, x, .int .i64 r, .int .i64 c, .bool p, .bool au], .int .i64 i] w fun e w' => ∃ v, e = .returned v ∧ TupV v (passedG i (ls.drop i)) ∧ Below w.heap.size w w' := by
  obtain ⟨A, cp, rfl, hc1, hc2, _⟩ := hx.open_
  have hb0 := (Below.refl w.heap.size w).alloc (Nat.le_refl _) (.cells #[.int .i64 wd, .int .i64 hi, .slice A ls.length cp, .int .i64 r, .int .i64 c, .bool p, .bool au] 40)
  have HPOS := hide hpos
  have hxb := hx.mono (Keep.below (S := So) hb0) (Keep.below (S := fun b => b < w.heap.size) hb0)
  have HB := hide hb0
  clear hpos hb0
  go_enter Tryd.func77, Tryd.ntmps77
  go_wp2
  go_loopw [1] (fun iv wr => ∃ m : Nat, m ≤ ls.length ∧ iv = .int .i64 m ∧ passedG i (ls.drop i) = passedG m (ls.drop m) ∧ w.alloc (.cells #[.int .i64 wd, .int .i64 hi, .slice A ls.length cp, .int .i64 r, .int .i64 c, .bool p, .bool au] 40) = wr) (fun iv _ => ls.length - (intOf iv).toNat)
  case atStart => exact ⟨i, hi2, rfl, rfl, rfl⟩
  case round =>
    obtain ⟨m, hm, rfl, hf, rfl⟩ := hrel
    by_cases hlt : m < ls.length
    · have hmi : (m : Int) < ls.length := by omega
      obtain ⟨ab, off, v2, rfl, _, q0, q1, hv⟩ := line_at hxb.slb hlt
      obtain ⟨A2, c2, rfl, _, _, _⟩ := hv.open_
      have hp := HPOS.out ls[m] (List.getElem_mem _)
      have hpi : (0 : Int) < ls[m].1.length := by omega
      obtain ⟨cb, co, v3, rfl, _, q2, _, _, _⟩ := cell_at hv.slb (k := 0) hp
      simp only [Nat.zero_mul, Nat.add_zero] at q2
      rw [passed_step ls hlt, kAt_at _ hp] at hf
      obtain ⟨k0, hk0⟩ : ∃ k0, ls[m].1[0].1 = k0 := ⟨_, rfl⟩
      obtain ⟨wp, hwp⟩ : ∃ wp, ls[m].2 = wp := ⟨_, rfl⟩
      rw [hk0] at hf q2
      rw [hwp] at hf q1
      clear hk0 hwp
      by_cases h0 : k0 = 0
      · have e0 : (k0 == 0) = true := by simpa using h0
        have e1 : (k0 != 0) = false := by simp [h0]
        cases wp with
        | true =>
          rw [if_pos ⟨rfl, h0⟩] at hf
          have HF := hide hf
          clear hf h0
          go_wp2
          go_roundw
          case rel => exact ⟨m + 1, by omega, by go_num, HF.out, trivial⟩
          case measure => simp [intOf]; omega
        | false =>
          rw [if_neg (fun h => by cases h.1), if_neg (fun h => h h0)] at hf
          have HF := hide hf
          clear hf h0
          go_wp2
          go_quiet (fail)
          go_wp2
          exact bodyPost_ret (v := .tuple #[.int .i64 m, .int .i64 0, .bool false]) (by simp [results, Tryd.results77, go_sem]) rfl ⟨_, rfl, by rw [HF.out]; exact TupV.none_ _ _, below_drewN HB.out _⟩
      · have e0 : (k0 == 0) = false := by simpa using h0
        have e1 : (k0 != 0) = true := by simp [h0]
        rw [if_neg (fun h => h0 h.2), if_pos h0] at hf
        have HF := hide hf
        clear hf h0
        cases wp with
        | true =>
          go_wp2
          go_quiet (fail)
          go_wp2
          exact bodyPost_ret (v := .tuple #[.int .i64 m, .int .i64 0, .bool true]) (by simp [results, Tryd.results77, go_sem]) rfl ⟨_, rfl, by rw [HF.out]; exact TupV.some_ m 0, below_drewN HB.out _⟩
        | false =>
          go_wp2
          go_quiet (fail)
          go_wp2
          exact bodyPost_ret (v := .tuple #[.int .i64 m, .int .i64 0, .bool true]) (by simp [results, Tryd.results77, go_sem]) rfl ⟨_, rfl, by rw [HF.out]; exact TupV.some_ m 0, below_drewN HB.out _⟩
    · have hmi : decide ((m : Int) < ls.length) = false := decide_eq_false (by omega)
      have HF : Hid (passedG i (ls.drop i) = none) := hide (hf.trans (passed_end ls (by omega)))
      clear hf
      go_wp2
      go_quiet (fail)
      go_wp2
      exact bodyPost_ret (v := .tuple #[.int .i64 m, .int .i64 0, .bool false]) (by simp [results, Tryd.results77, go_sem]) rfl ⟨_, rfl, by rw [HF.out]; exact TupV.none_ _ _, below_drewN HB.out _⟩

theorem behind_def (ls : List LineV) (i j : Nat) : behind ls i j = if padB (lnAt ls i) (j + (kAt (lnAt ls i).1 j).toNat) = true then j + (kAt (lnAt ls i).1 j).toNat + 1 else j + (kAt (lnAt ls i).1 j).toNat := rfl

set_option maxRecDepth 4096 in
set_option maxHeartbeats 8000000 in
theorem next_ok (So : Nat → Prop) (x : Value) (wd hi r c : Int) (p au : Bool) (ls : List LineV) (W : Nat) (i j : Nat) (w : World) (hx : Slc RLine So (fun b => b < w.heap.size) w x ls) (h : Rght ls W) (hW : W ≤ 100000) (hl2 : ls.length ≤ 100000) (hd : Head ls W i j) :
    Calls Tryd.prog 50 #[.agg #[.int .i64 wd, .int .i64 hi, x, .int .i64 r, .int .i64 c, .bool p, .bool au], .int .i64 i, .int .i64 j] w fun e w' => ∃ v, e = .returned v ∧ TupV v (nextF ls i j) ∧ Below w.heap.size w w' := by
  obtain ⟨A, cp, rfl, hc1, hc2, _⟩ := hx.open_
  obtain ⟨hil, hjw, hk12⟩ := hd
  have hpos : ∀ l ∈ ls, 0 < l.1.length := fun l hl => by
    obtain ⟨k, hk, rfl⟩ := List.getElem_of_mem hl
    have := h.wide k hk
    rw [lnAt_at ls hk] at this
    have := h.pos
    omega
  have hb0 := (Below.refl w.heap.size w).alloc (Nat.le_refl _) (.cells #[.int .i64 wd, .int .i64 hi, .slice A ls.length cp, .int .i64 r, .int .i64 c, .bool p, .bool au] 40)
  have hb1 : ∀ o, Below w.heap.size w ((w.alloc (.cells #[.int .i64 wd, .int .i64 hi, .slice A ls.length cp, .int .i64 r, .int .i64 c, .bool p, .bool au] 40)).alloc o) := fun o => hb0.alloc (by simp) o
  have HPS := hide (fun (i : Nat) (hi2 : i ≤ ls.length) o => passed_ok2 So _ wd hi r c p au ls i _ ((hx.mono (Keep.below (S := So) (hb1 o)) (Keep.below (S := fun b => b < w.heap.size) (hb1 o))).mono (Keep.refl _ _) (Keep.weaken fun b hb => by have := (hb1 o).size; omega)) hpos hi2)
  have HB1 := hide hb1
  have HB0 := hide hb0
  have bv := Blk.new w 40 #[.int .i64 wd, .int .i64 hi, .slice A ls.length cp, .int .i64 r, .int .i64 c, .bool p, .bool au]
  have hnx : nextF ls i j = if (lnAt ls i).1.length ≤ behind ls i j then (if (lnAt ls i).2 = false ∨ ls.length ≤ i + 1 then none else enterF ls (i + 1)) else if kAt (lnAt ls i).1 (behind ls i j) ≠ 0 then some (i, behind ls i j) else none := rfl
  have hbd := behind_def ls i j
  have hle : j + (kAt (lnAt ls i).1 j).toNat ≤ W := by
    rcases hk12 with hk | hk
    · rw [hk]; omega
    · have := (h.lead i j hil hjw hk).2; rw [hk]; omega
  have hwi := h.wide i hil
  have hpb : padB (lnAt ls i) (j + (kAt (lnAt ls i).1 j).toNat) = ((lnAt ls i).2 && decide (j + (kAt (lnAt ls i).1 j).toNat = (lnAt ls i).1.length - 1) && decide (kAt (lnAt ls i).1 (j + (kAt (lnAt ls i).1 j).toNat) = 0)) := rfl
  have hkk : (0 : Int) ≤ kAt (lnAt ls i).1 j := by omega
  rw [lnAt_at ls hil] at hnx hbd hle hwi hpb hkk
  obtain ⟨ab, off, v2, rfl, _, z0, z1, hv⟩ := line_at hx.slb hil
  obtain ⟨A2, c2, rfl, _, _, _⟩ := hv.open_
  have hjl : j < ls[i].1.length := by omega
  obtain ⟨cb, co, v3, rfl, _, z2, _, _, _⟩ := cell_at hv.slb (k := j) hjl
  have HCELL := hide (fun k (hk : k < ls[i].1.length) => (cell_at hv.slb hk))
  rw [kAt_at _ hjl] at hbd hle hpb hkk
  obtain ⟨m, hm⟩ : ∃ m, m = j + (ls[i].1[j].1).toNat := ⟨_, rfl⟩
  have hmi : (j : Int) + ls[i].1[j].1 = m := by omega
  rw [← hm] at hbd hle hpb
  obtain ⟨L, hL⟩ : ∃ L, ls[i].1.length = L := ⟨_, rfl⟩
  rw [hL] at hnx hwi hpb z0
  obtain ⟨wp, hwp⟩ : ∃ wp, ls[i].2 = wp := ⟨_, rfl⟩
  rw [hwp] at hnx hpb z1
  obtain ⟨pd, hpd⟩ : ∃ pd, padB ls[i] m = pd := ⟨_, rfl⟩
  rw [hpd] at hbd hpb
  obtain ⟨bh, hbh⟩ : ∃ bh, behind ls i j = bh := ⟨_, rfl⟩
  rw [hbh] at hnx hbd
  have HNX := hide hnx
  have HBD := hide hbd
  have HPB := hide hpb
  have HLL := hide hL
  have HH := hide h
  have hj0 : (0 : Int) ≤ (j : Int) := by omega
  have hiL : (i : Int) < ls.length := by omega
  have hjL : (j : Int) < L := by omega
  have hLp : 0 < L := by omega
  have hL2 : L ≤ 100000 := by omega
  have hmle : m ≤ L := by omega
  clear hnx hbd hpb hm hL hwp hpd hbh hpos hb0 hb1 h hk12 hwi hle hjw
  have q0 := (HB1.out (.cells #[.slice (some ⟨cb, co, none⟩) L c2, .bool wp] 54)).cell (p := ⟨ab, off + i * 2, none⟩) (World.block_lt_of_cell? w _ z0) |>.trans z0
  have q1 := (HB1.out (.cells #[.slice (some ⟨cb, co, none⟩) L c2, .bool wp] 54)).cell (p := ⟨ab, off + i * 2 + 1, none⟩) (World.block_lt_of_cell? w _ z1) |>.trans z1
  have q2 := (HB1.out (.cells #[.slice (some ⟨cb, co, none⟩) L c2, .bool wp] 54)).cell (p := ⟨cb, co + j * 2, none⟩) (World.block_lt_of_cell? w _ z2) |>.trans z2
  have r0 := (HB0.out.cell (p := ⟨ab, off + i * 2, none⟩) (World.block_lt_of_cell? w _ z0)).trans z0
  have r1 := (HB0.out.cell (p := ⟨ab, off + i * 2 + 1, none⟩) (World.block_lt_of_cell? w _ z1)).trans z1
  go_enter Tryd.func50, Tryd.ntmps50
  go_upto_region 3 with fail
  go_cut [41] from 10 to 107 (fun s wx => s = .bool pd ∧ (w.alloc (.cells #[.int .i64 wd, .int .i64 hi, .slice (some ⟨ab, off, none⟩) ls.length cp, .int .i64 r, .int .i64 c, .bool p, .bool au] 40)).alloc (.cells #[.slice (some ⟨cb, co, none⟩) L c2, .bool wp] 54) = wx)
  case first =>
    by_cases h1 : m = L - 1
    · have e1 : ((m : Int) == (L : Int) - 1) = true := by simp; omega
      have hmL : m < ls[i].1.length := by have := HLL.out; omega
      have hmi2 : (m : Int) < L := by omega
      obtain ⟨cb', co', v5, hA3, _, z4, _, _, _⟩ := HCELL.out m hmL
      obtain ⟨rfl, rfl⟩ : cb = cb' ∧ co = co' := by cases hA3; exact ⟨rfl, rfl⟩
      have q4 := (HB1.out (.cells #[.slice (some ⟨cb, co, none⟩) L c2, .bool wp] 54)).cell (p := ⟨cb, co + m * 2, none⟩) (World.block_lt_of_cell? w _ z4) |>.trans z4
      have hpb := HPB.out
      rw [kAt_at _ hmL] at hpb
      have HPB2 := hide hpb
      clear hA3 hpb
      cases wp with
      | false =>
        have HG : Hid (pd = false) := hide (by rw [HPB2.out]; simp)
        clear h1
        go_wp2
        go_meet
        exact ⟨by rw [HG.out], rfl⟩
      | true =>
        by_cases h0 : ls[i].1[m].1 = 0
        · have e0 : (ls[i].1[m].1 == 0) = true := by simpa using h0
          have HG : Hid (pd = true) := hide (by rw [HPB2.out, decide_eq_true h1, decide_eq_true h0]; rfl)
          clear h0 h1
          go_wp2
          go_meet
          exact ⟨by rw [HG.out], rfl⟩
        · have e0 : (ls[i].1[m].1 == 0) = false := by simpa using h0
          have HG : Hid (pd = false) := hide (by rw [HPB2.out, decide_eq_false h0]; simp)
          clear h0 h1
          go_wp2
          go_meet
          exact ⟨by rw [HG.out], rfl⟩
    · have e1 : ((m : Int) == (L : Int) - 1) = false := by rw [beq_eq_false_iff_ne]; omega
      have HG : Hid (pd = false) := hide (by rw [HPB.out, decide_eq_false h1]; simp)
      clear h1
      go_wp2
      go_meet
      exact ⟨by rw [HG.out], rfl⟩
  case rest =>
  obtain ⟨rfl, rfl⟩ := hcut
  go_upto_if 41 with fail
  go_cut [2] from 10 to 107 (fun s wx => s = .int .i64 bh ∧ (w.alloc (.cells #[.int .i64 wd, .int .i64 hi, .slice (some ⟨ab, off, none⟩) ls.length cp, .int .i64 r, .int .i64 c, .bool p, .bool au] 40)).alloc (.cells #[.slice (some ⟨cb, co, none⟩) L c2, .bool wp] 54) = wx)
  case first =>
    cases pd with
    | true =>
      have HG : Hid ((m : Int) + 1 = bh) := hide (by rw [HBD.out, if_pos rfl]; omega)
      go_wp2
      go_meet
      exact ⟨by rw [HG.out], rfl⟩
    | false =>
      have HG : Hid (m = bh) := hide (by rw [HBD.out, if_neg (by decide)])
      go_wp2
      go_meet
      exact ⟨by rw [HG.out], rfl⟩
  case rest =>
  obtain ⟨rfl, rfl⟩ := hcut
  by_cases hbl : L ≤ bh
  · have hbi : (L : Int) ≤ bh := by omega
    have hnx := HNX.out
    rw [if_pos hbl] at hnx
    cases wp with
    | false =>
      have HF : Hid (nextF ls i j = none) := hide (by rw [hnx, if_pos (.inl rfl)])
      clear hnx
      go_wp2
      exact bodyPost_ret (v := .tuple #[.int .i64 0, .int .i64 0, .bool false]) (by simp [results, Tryd.results50, go_sem]) rfl ⟨_, rfl, by rw [HF.out]; exact TupV.none_ _ _, HB1.out _⟩
    | true =>
      by_cases hi1 : ls.length ≤ i + 1
      · have hii : (ls.length : Int) ≤ (i : Int) + 1 := by omega
        have HF : Hid (nextF ls i j = none) := hide (by rw [hnx, if_pos (.inr hi1)])
        clear hnx
        go_wp2
        exact bodyPost_ret (v := .tuple #[.int .i64 0, .int .i64 0, .bool false]) (by simp [results, Tryd.results50, go_sem]) rfl ⟨_, rfl, by rw [HF.out]; exact TupV.none_ _ _, HB1.out _⟩
      · have hii : ¬ (ls.length : Int) ≤ (i : Int) + 1 := by omega
        have hi1l : i + 1 < ls.length := by omega
        have hi1i : (i : Int) + 1 < ls.length := by omega
        rw [if_neg (by rintro (h | h); cases h; exact hi1 h)] at hnx
        unfold enterF at hnx
        have hw1 := HH.out.wide (i + 1) hi1l
        rw [lnAt_at ls hi1l] at hnx hw1
        obtain ⟨ab', off', v6, hA, _, u0, u1, hv1⟩ := line_at hx.slb hi1l
        obtain ⟨rfl, rfl⟩ : ab = ab' ∧ off = off' := by cases hA; exact ⟨rfl, rfl⟩
        obtain ⟨A7, c7, rfl, _, _, _⟩ := hv1.open_
        have h0l : 0 < ls[i + 1].1.length := by have := HH.out.pos; omega
        obtain ⟨db, dof, v7, rfl, _, u2, _, _, _⟩ := cell_at hv1.slb (k := 0) h0l
        simp only [Nat.zero_mul, Nat.add_zero] at u2
        rw [kAt_at _ h0l] at hnx
        obtain ⟨L1, hL1⟩ : ∃ L1, ls[i + 1].1.length = L1 := ⟨_, rfl⟩
        obtain ⟨wp1, hwp1⟩ : ∃ wp1, ls[i + 1].2 = wp1 := ⟨_, rfl⟩
        obtain ⟨k1, hk1⟩ : ∃ k1, ls[i + 1].1[0].1 = k1 := ⟨_, rfl⟩
        rw [hL1] at hnx hw1 u0 h0l
        rw [hwp1] at hnx u1
        rw [hk1] at hnx u2
        have eo : ((i + 1 : Nat) : Int) = (i : Int) + 1 := by omega
        have p0 := (HB1.out (.cells #[.slice (some ⟨cb, co, none⟩) L c2, .bool true] 54)).cell (p := ⟨ab, off + (i + 1) * 2, none⟩) (World.block_lt_of_cell? w _ u0) |>.trans u0
        have p1 := (HB1.out (.cells #[.slice (some ⟨cb, co, none⟩) L c2, .bool true] 54)).cell (p := ⟨ab, off + (i + 1) * 2 + 1, none⟩) (World.block_lt_of_cell? w _ u1) |>.trans u1
        have p2 := (HB1.out (.cells #[.slice (some ⟨cb, co, none⟩) L c2, .bool true] 54)).cell (p := ⟨db, dof, none⟩) (World.block_lt_of_cell? w _ u2) |>.trans u2
        have h0i : (0 : Int) < L1 := by omega
        clear hA hL1 hwp1 hk1 hw1 hi1
        by_cases hl1 : L1 = 1
        · have el : ((L1 : Int) == 1) = true := by simp [hl1]
          cases wp1 with
          | true =>
            by_cases hk0 : k1 = 0
            · have ek : (k1 == 0) = true := by simpa using hk0
              rw [if_pos ⟨hl1, rfl, hk0⟩] at hnx
              have HF := hide hnx
              have hps := HPS.out (i + 1) (by omega) (.cells #[.slice (some ⟨cb, co, none⟩) L c2, .bool true] 54)
              rw [eo, ← HF.out] at hps
              have HP2 := hide hps
              have y0 := (bv.alloc (.cells #[.slice (some ⟨cb, co, none⟩) L c2, .bool true] 54)).cell 0
              have hz1 := (HB1.out (.cells #[.slice (some ⟨cb, co, none⟩) L c2, .bool true] 54)).size
              clear hnx hk0 hl1 hps
              go_wp2_with fail
              refine HP2.out.mono ?_
              rintro e w7 ⟨v8, rfl, htv, hb7⟩
              have HTV := hide htv
              obtain ⟨ra, rc, rfl, hq⟩ := htv
              have HTQ := hide hq
              clear hq
              go_wp2
              exact bodyPost_ret (v := .tuple #[.int .i64 ra, .int .i64 rc, .bool (nextF ls i j).isSome]) (by simp [results, Tryd.results50, go_sem]) rfl ⟨_, rfl, HTV.out, (HB1.out _).trans (hb7.mono hz1)⟩
            · have ek : (k1 == 0) = false := by simpa using hk0
              have ek2 : (k1 != 0) = true := by simp [hk0]
              have HF : Hid (nextF ls i j = some (i + 1, 0)) := hide (by rw [hnx, if_neg (fun h => hk0 h.2.2), if_pos hk0])
              clear hnx hk0 hl1
              go_wp2
              go_quiet (fail)
              go_wp2
              exact bodyPost_ret (v := .tuple #[.int .i64 ((i : Int) + 1), .int .i64 0, .bool true]) (by simp [results, Tryd.results50, go_sem]) rfl ⟨_, rfl, by rw [HF.out, ← eo]; exact TupV.some_ (i + 1) 0, below_drewN (HB1.out _) _⟩
          | false =>
            by_cases hk0 : k1 = 0
            · have ek2 : (k1 != 0) = false := by simp [hk0]
              have HF : Hid (nextF ls i j = none) := hide (by rw [hnx, if_neg (fun h => by cases h.2.1), if_neg (fun h => h hk0)])
              clear hnx hk0 hl1
              go_wp2
              go_quiet (fail)
              go_wp2
              exact bodyPost_ret (v := .tuple #[.int .i64 ((i : Int) + 1), .int .i64 0, .bool false]) (by simp [results, Tryd.results50, go_sem]) rfl ⟨_, rfl, by rw [HF.out]; exact TupV.none_ _ _, below_drewN (HB1.out _) _⟩
            · have ek2 : (k1 != 0) = true := by simp [hk0]
              have HF : Hid (nextF ls i j = some (i + 1, 0)) := hide (by rw [hnx, if_neg (fun h => by cases h.2.1), if_pos hk0])
              clear hnx hk0 hl1
              go_wp2
              go_quiet (fail)
              go_wp2
              exact bodyPost_ret (v := .tuple #[.int .i64 ((i : Int) + 1), .int .i64 0, .bool true]) (by simp [results, Tryd.results50, go_sem]) rfl ⟨_, rfl, by rw [HF.out, ← eo]; exact TupV.some_ (i + 1) 0, below_drewN (HB1.out _) _⟩
        · have el : ((L1 : Int) == 1) = false := by rw [beq_eq_false_iff_ne]; omega
          by_cases hk0 : k1 = 0
          · have ek2 : (k1 != 0) = false := by simp [hk0]
            have HF : Hid (nextF ls i j = none) := hide (by rw [hnx, if_neg (fun h => hl1 h.1), if_neg (fun h => h hk0)])
            clear hnx hk0 hl1
            go_wp2
            go_quiet (fail)
            go_wp2
            exact bodyPost_ret (v := .tuple #[.int .i64 ((i : Int) + 1), .int .i64 0, .bool false]) (by simp [results, Tryd.results50, go_sem]) rfl ⟨_, rfl, by rw [HF.out]; exact TupV.none_ _ _, below_drewN (HB1.out _) _⟩
          · have ek2 : (k1 != 0) = true := by simp [hk0]
            have HF : Hid (nextF ls i j = some (i + 1, 0)) := hide (by rw [hnx, if_neg (fun h => hl1 h.1), if_pos hk0])
            clear hnx hk0 hl1
            go_wp2
            go_quiet (fail)
            go_wp2
            exact bodyPost_ret (v := .tuple #[.int .i64 ((i : Int) + 1), .int .i64 0, .bool true]) (by simp [results, Tryd.results50, go_sem]) rfl ⟨_, rfl, by rw [HF.out, ← eo]; exact TupV.some_ (i + 1) 0, below_drewN (HB1.out _) _⟩
  · have hbi : ¬ (L : Int) ≤ bh := by omega
    have hbL : bh < ls[i].1.length := by have := HLL.out; omega
    have hbLi : (bh : Int) < L := by omega
    have hnx := HNX.out
    rw [if_neg hbl, kAt_at _ hbL] at hnx
    obtain ⟨cb', co', v5, hA3, _, z4, _, _, _⟩ := HCELL.out bh hbL
    obtain ⟨rfl, rfl⟩ : cb = cb' ∧ co = co' := by cases hA3; exact ⟨rfl, rfl⟩
    have q4 := (HB1.out (.cells #[.slice (some ⟨cb, co, none⟩) L c2, .bool wp] 54)).cell (p := ⟨cb, co + bh * 2, none⟩) (World.block_lt_of_cell? w _ z4) |>.trans z4
    obtain ⟨k5, hk5⟩ : ∃ k5, ls[i].1[bh].1 = k5 := ⟨_, rfl⟩
    rw [hk5] at hnx q4
    clear hA3 hk5 z4
    by_cases hk0 : k5 = 0
    · have ek2 : (k5 != 0) = false := by simp [hk0]
      have HF : Hid (nextF ls i j = none) := hide (by rw [hnx, if_neg (fun h => h hk0)])
      clear hnx hk0
      go_wp2
      go_quiet (fail)
      go_wp2
      exact bodyPost_ret (v := .tuple #[.int .i64 i, .int .i64 bh, .bool false]) (by simp [results, Tryd.results50, go_sem]) rfl ⟨_, rfl, by rw [HF.out]; exact TupV.none_ _ _, below_drewN (HB1.out _) _⟩
    · have ek2 : (k5 != 0) = true := by simp [hk0]
      have HF : Hid (nextF ls i j = some (i, bh)) := hide (by rw [hnx, if_pos hk0])
      clear hnx hk0
      go_wp2
      go_quiet (fail)
      go_wp2
      exact bodyPost_ret (v := .tuple #[.int .i64 i, .int .i64 bh, .bool true]) (by simp [results, Tryd.results50, go_sem]) rfl ⟨_, rfl, by rw [HF.out]; exact TupV.some_ i bh, below_drewN (HB1.out _) _⟩
end Go.Proofs.YtejhaepgbfngcaaDoor
