/-
  The four laws on parts of bytes: each walk returns true and leaves the memory that was there as it was.
-/
import Derived.Test.YtfcjkmiaibakiaaAll3
import Derived.Test.YtfcjkmiaibakiaaUtf5
import Derived.BigQuiet
import Derived.Deep.RegionHeld3
import Derived.IntWalk
namespace Go.Proofs.Ytfcjkmiaibakiaa
open Go.RowKit
set_option linter.unusedVariables false
set_option linter.unusedSimpArgs false

deriving instance DecidableEq for Got

theorem all_at0 (l : List Int) : ∀ g ∈ allF l, 0 ≤ g.at_ ∧ g.at_ < l.length := fun g hg => by
  have := all_at _ l 0 (Nat.le_refl _) g hg
  omega

theorem below_drew1 {B : Nat} {w w' : World} (h : Below B w w') : Below B w w'.drew := ⟨h.os, h.tape, h.output, h.size, h.block⟩

set_option maxHeartbeats 1000000 in
theorem works04_ok (w : World) :
    Calls Try.prog 25 #[] w fun e w' => e = .returned (.bool true) ∧ Below w.heap.size w w' := by
  have hf : allF [226, 130, 65] = [⟨65533, 0, 2, 3, true⟩, ⟨65, 2, 1, 3, false⟩] := by decide
  have hs : tailF [65, 226] = 1 := by decide
  have HF := hide hf
  have HS := hide hs
  clear hf hs
  go_enter Try.func25, Try.ntmps25
  go_wp2_with fail
  have ho := own_u8 w [226, 130, 65] (by decide) w.heap.size w.heap.size 3 (Nat.le_refl _) rfl rfl (by simp [maxLen])
  refine (All_ok _ _ _ [226, 130, 65] _ ho.islc (by simp)).mono ?_
  rw [HF.out]
  rintro e w1 ⟨v1, rfl, hv1, hb1⟩
  have hb1' : Below w.heap.size w w1 := ((Below.refl _ w).alloc (Nat.le_refl _) _).trans (hb1.mono (by simp))
  have hsz1 := hb1'.size
  obtain ⟨A1, c1, rfl, hd1, hd2, hB1⟩ := (hv1.fslc RGot.flat).open_
  obtain ⟨gb, go, rfl, hso, q0, q1, q2, q3, q4⟩ := got_at hB1 (k := 0) (by simp)
  obtain ⟨gb', go', hgo, _, r0, r1, r2, r3, r4⟩ := got_at hB1 (k := 1) (by simp)
  obtain ⟨rfl, rfl⟩ : gb = gb' ∧ go = go' := by simpa using hgo
  simp only [List.getElem_cons_zero, List.getElem_cons_succ, Nat.zero_mul, Nat.one_mul, Nat.add_zero] at q0 q1 q2 q3 q4 r0 r1 r2 r3 r4
  have ho2 := own_u8 w1 [65, 226] (by decide) w1.heap.size w1.heap.size 2 (Nat.le_refl _) rfl rfl (by simp [maxLen])
  have hT := UTail_ok _ _ _ [65, 226] _ ho2.islc (by simp) (all_at0 _)
  rw [HS.out] at hT
  have HT := hide hT
  clear hT
  go_wp2_with (refine HT.out.mono ?_; rintro e w2 ⟨rfl, hb2⟩)
  go_ret
  exact ⟨rfl, (hb1'.alloc hsz1 _).trans (hb2.mono (by simp; omega))⟩

set_option maxHeartbeats 1000000 in
theorem walk_UtfallCovers (p : Value) (l : List Int) (w : World) (hp : Slc (Rep.int .u8) (fun b => b < w.heap.size) (fun b => b < w.heap.size) w p l) :
    Calls Try.prog 6 #[p] w fun e w' => e = .returned (.bool true) ∧ Below w.heap.size w w' := by
  have hbl : Bytes l := fun n hn => u8_wf (hp.ints_wf n hn)
  obtain ⟨A, c, rfl, hc1, hc2, hB⟩ := hp.open_
  by_cases hlen : l.length ≤ 3000
  · have hl2 : decide ((3000 : Int) < (l.length : Int)) = false := by simp; omega
    go_enter Try.func6, Try.ntmps6
    go_wp2_with fail
    refine (works04_ok _).mono ?_
    rintro e w1 ⟨rfl, hb1⟩
    have hsz1 := hb1.size
    go_wp2_with fail
    have hp1 := hp.ints_keep (Keep.below (S := fun b => b < w.heap.size) hb1)
    refine (All_ok _ _ _ l _ hp1 (by omega)).mono ?_
    rintro e w2 ⟨v2, rfl, hv2, hb2⟩
    have hbb2 : Below w.heap.size w w2 := hb1.trans (hb2.mono hsz1)
    have hsz2 := hbb2.size
    have hgl : (allF l).length ≤ l.length := all_len l.length l 0
    obtain ⟨A2, c2, rfl, hd1, hd2, hB2⟩ := (hv2.fslc RGot.flat).open_
    go_wp2
    go_loopw [4, 5] (fun at_ i wr => ∃ k j : Nat, k ≤ l.length ∧ j ≤ (allF l).length ∧ at_ = .int .i64 k ∧ i = .int .i64 j ∧ allN (l.drop k).length (l.drop k) k = (allF l).drop j ∧ Below w2.heap.size w2 wr)
      (fun _ i _ => (allF l).length - (intOf i).toNat)
    case atStart => exact ⟨0, 0, Nat.zero_le _, Nat.zero_le _, rfl, rfl, by simp [allF], Below.refl _ _⟩
    case round =>
      obtain ⟨k, j, hk, hj, rfl, rfl, hall, hbel⟩ := hrel
      have hsz := hbel.size
      by_cases hlt : j < (allF l).length
      · have hBk := hB2.flat_keep RGot.flat (Si' := fun _ => False) (Keep.below hbel)
        obtain ⟨gb, go, rfl, _, q0, q1, q2, q3, q4⟩ := got_at hBk hlt
        have hdj : (allF l).drop j = (allF l)[j] :: (allF l).drop (j + 1) := List.drop_eq_getElem_cons hlt
        have hkl : k < l.length := by
          apply Classical.byContradiction
          intro h
          have e : l.drop k = [] := List.drop_eq_nil_of_le (by omega)
          rw [e, hdj] at hall
          simp [allN] at hall
          omega
        obtain ⟨b0, r, hdr, hrl⟩ := drop_cons hkl
        have hb0 := hbl b0 (List.mem_of_mem_drop (i := k) (by rw [hdr]; simp))
        rw [hdr, all_cons, hdj, List.cons.injEq] at hall
        obtain ⟨hg, hall⟩ := hall
        have hpf := part_facts b0 r k hb0.1
        have hpl := partLen_le b0 r
        have hpp := partLen_pos (b0 :: r)
        have hxk0 := (hp.ints_keep (Keep.below (S := fun b => b < w.heap.size) (hbb2.trans (hbel.mono hsz2)))).cut (k := k) (by omega)
        have hlk : l.length - k = (b0 :: r).length := by rw [List.length_cons]; omega
        rw [hdr, hlk] at hxk0
        have hxk := hxk0.front (k := partLen (b0 :: r)) (by rw [List.length_cons]; omega)
        clear hxk0 hlk
        have hdd : (l.drop k).drop (partLen (b0 :: r)) = l.drop (k + partLen (b0 :: r)) := by rw [List.drop_drop]
        rw [hdr] at hdd
        rw [hdd] at hall
        rw [hg] at hpf
        have hrr := all_r l.length l 0 hbl _ (List.getElem_mem hlt)
        generalize hgj : (allF l)[j] = g at *
        obtain ⟨gr, ga, gl, gkn, gbad⟩ := g
        simp only at q0 q1 q2 q3 q4 hpf hrr
        obtain ⟨rfl, rfl, hf3, hf4, hf5, hf6⟩ := hpf
        have HALL := hide hall
        have hck : ¬ c = k := by omega
        rw [if_neg hck, show k * (Rep.int .u8).sz = k from Nat.mul_one k] at hxk
        generalize hpe : partLen (b0 :: r) = pl at *
        have HF6 := hide hf6
        clear hall hg hgj hdj hdd hdr hf6 hpe
        have t1 : ((k : Int) == (k : Int)) = true := by simp
        have u1 : decide ((pl : Int) < 1) = false := by simp; omega
        have u2 : decide ((l.length : Int) - k < pl) = false := by simp; omega
        have u3 : decide (gkn < (k : Int) + pl) = false := by simp; omega
        have u4 : decide ((l.length : Int) < gkn) = false := by simp; omega
        rcases Bool.eq_false_or_eq_true gbad with h1 | h1 <;> subst h1
        · obtain rfl := hf5 rfl
          clear hf5 HF6 hrr t1
          have t1 : ((k : Int) == (k : Int)) = true := by simp
          go_wp2
          go_quiet (fail)
          clear u1 u2 u3 u4 t1
          set_option maxRecDepth 8000 in go_wp2
          go_roundw
          case rel => exact ⟨k + pl, j + 1, by omega, by omega, by go_num, by go_num, HALL.out, below_drewN (hbel.alloc (by omega) _) _⟩
          case measure => simp [intOf]; omega
        · clear hf5
          have hfo : decide (formF gr = (b0 :: r).take pl) = true := by rw [HF6.out rfl]; simp
          have hB := Blk.new wr 35 #[.int .i32 gr, .int .i64 k, .int .i64 pl, .int .i64 gkn, .bool false]
          have B0 := hB.cell 0
          have B2 := hB.cell 2
          have B4 := hB.cell 4
          simp only [List.getElem?_toArray, List.getElem?_cons_succ, List.getElem?_cons_zero] at B0 B2 B4
          have hsum : IntKind.i64.wrap ((k : Int) + (pl : Int)) = (k : Int) + pl := IntWalk.i64_in _ (by omega)
          have s0 : (0 : Int) ≤ (k : Int) := by omega
          have s1 : (k : Int) ≤ (k : Int) + pl := by omega
          have s2 : (k : Int) + pl ≤ (c : Int) := by omega
          have s3 : ((k : Int) + pl).toNat = k + pl := by omega
          have s4 : ¬ (k : Int) + pl < (k : Int) := by omega
          have s5 : (k : Int) ≤ (c : Int) := by omega
          go_wp2
          refine wp_region_held_drew (S := fun w' => w'.cell? ⟨wr.heap.size, 0, none⟩ = some (.int .i32 gr) ∧ w'.cell? ⟨wr.heap.size, 2, none⟩ = some (.int .i64 pl) ∧ w'.cell? ⟨wr.heap.size, 4, none⟩ = some (.bool false)) (by kernel_rfl) (by go_keep) (fun hHeld => ?_)
          refine wpAnyH_take (i := 0) (oi := ?_) (v := ?_) ?_ (by kernel_rfl) (by kernel_rfl) (by kernel_rfl) ?_ (Or.inl ⟨?_, ?_⟩) (by assumption) ?_
          rotate_left 2
          · (simp only [List.getElem?_toArray, List.getElem?_cons_succ, List.getElem?_cons_zero]; rfl)
          rotate_left 1
          · rfl
          · (intro w hSw; (try dsimp only at hSw); go_simp; try with_reducible rfl)
          rotate_left 1
          · exact fun _ _ _ h => h
          try simp only [Act.put, List.setIfInBounds_toArray, List.set_cons_zero, List.set_cons_succ]
          refine wpAnyH_take (i := 1) (oi := ?_) (v := ?_) ?_ (by kernel_rfl) (by kernel_rfl) (by kernel_rfl) ?_ (Or.inl ⟨?_, ?_⟩) (by assumption) ?_
          rotate_left 2
          · (simp only [List.getElem?_toArray, List.getElem?_cons_succ, List.getElem?_cons_zero]; rfl)
          rotate_left 1
          · rfl
          · (intro w hSw; (try dsimp only at hSw); go_simp; try with_reducible rfl)
          rotate_left 1
          · exact fun _ _ _ h => h
          try simp only [Act.put, List.setIfInBounds_toArray, List.set_cons_zero, List.set_cons_succ]
          refine wpAnyH_take (i := 2) (oi := ?_) (v := ?_) ?_ (by kernel_rfl) (by kernel_rfl) (by kernel_rfl) ?_ (Or.inl ⟨?_, ?_⟩) (by assumption) ?_
          rotate_left 2
          · (simp only [List.getElem?_toArray, List.getElem?_cons_succ, List.getElem?_cons_zero]; rfl)
          rotate_left 1
          · rfl
          · (intro w hSw; (try dsimp only at hSw); go_simp; try with_reducible rfl)
          rotate_left 1
          · exact fun _ _ _ h => h
          try simp only [Act.put, List.setIfInBounds_toArray, List.set_cons_zero, List.set_cons_succ]
          refine wpAnyH_take (i := 3) (oi := ?_) (v := ?_) ?_ (by kernel_rfl) (by kernel_rfl) (by kernel_rfl) ?_ (Or.inl ⟨?_, ?_⟩) (by assumption) ?_
          rotate_left 2
          · (simp only [List.getElem?_toArray, List.getElem?_cons_succ, List.getElem?_cons_zero]; rfl)
          rotate_left 1
          · rfl
          · (intro w hSw; (try dsimp only at hSw); go_simp; try with_reducible rfl)
          rotate_left 1
          · exact fun _ _ _ h => h
          try simp only [Act.put, List.setIfInBounds_toArray, List.set_cons_zero, List.set_cons_succ]
          refine wpAnyH_take (i := 4) (oi := ?_) (v := ?_) ?_ (by kernel_rfl) (by kernel_rfl) (by kernel_rfl) ?_ (Or.inl ⟨?_, ?_⟩) (by assumption) ?_
          rotate_left 2
          · (simp only [List.getElem?_toArray, List.getElem?_cons_succ, List.getElem?_cons_zero]; rfl)
          rotate_left 1
          · rfl
          · (intro w hSw; (try dsimp only at hSw); go_simp; try with_reducible rfl)
          rotate_left 1
          · exact fun _ _ _ h => h
          try simp only [Act.put, List.setIfInBounds_toArray, List.set_cons_zero, List.set_cons_succ]
          refine wpAnyH_take (i := 5) (oi := ?_) (v := ?_) ?_ (by kernel_rfl) (by kernel_rfl) (by kernel_rfl) ?_ (Or.inl ⟨?_, ?_⟩) (by assumption) ?_
          rotate_left 2
          · (simp only [List.getElem?_toArray, List.getElem?_cons_succ, List.getElem?_cons_zero]; rfl)
          rotate_left 1
          · rfl
          · (intro w hSw; (try dsimp only at hSw); go_simp; try with_reducible rfl)
          rotate_left 1
          · exact fun _ _ _ h => h
          try simp only [Act.put, List.setIfInBounds_toArray, List.set_cons_zero, List.set_cons_succ]
          refine wpAnyH_take (i := 7) (oi := ?_) (v := ?_) ?_ (by kernel_rfl) (by kernel_rfl) (by kernel_rfl) ?_ (Or.inl ⟨?_, ?_⟩) (by assumption) ?_
          rotate_left 2
          · (simp only [List.getElem?_toArray, List.getElem?_cons_succ, List.getElem?_cons_zero]; rfl)
          rotate_left 1
          · rfl
          · (intro w hSw; (try dsimp only at hSw); go_simp; try with_reducible rfl)
          rotate_left 1
          · exact fun _ _ _ h => h
          try simp only [Act.put, List.setIfInBounds_toArray, List.set_cons_zero, List.set_cons_succ]
          refine wpAnyH_take (i := 8) (oi := ?_) (v := ?_) ?_ (by kernel_rfl) (by kernel_rfl) (by kernel_rfl) ?_ (Or.inl ⟨?_, ?_⟩) (by assumption) ?_
          rotate_left 2
          · (simp only [List.getElem?_toArray, List.getElem?_cons_succ, List.getElem?_cons_zero]; rfl)
          rotate_left 1
          · rfl
          · (intro w hSw; (try dsimp only at hSw); go_simp; try with_reducible rfl)
          rotate_left 1
          · exact fun _ _ _ h => h
          try simp only [Act.put, List.setIfInBounds_toArray, List.set_cons_zero, List.set_cons_succ]
          refine wpAnyH_take (i := 9) (oi := ?_) (v := ?_) ?_ (by kernel_rfl) (by kernel_rfl) (by kernel_rfl) ?_ (Or.inl ⟨?_, ?_⟩) (by assumption) ?_
          rotate_left 2
          · (simp only [List.getElem?_toArray, List.getElem?_cons_succ, List.getElem?_cons_zero]; rfl)
          rotate_left 1
          · rfl
          · (intro w hSw; (try dsimp only at hSw); go_simp; try with_reducible rfl)
          rotate_left 1
          · exact fun _ _ _ h => h
          try simp only [Act.put, List.setIfInBounds_toArray, List.set_cons_zero, List.set_cons_succ]
          refine wpAnyH_take (i := 10) (oi := ?_) (v := ?_) ?_ (by kernel_rfl) (by kernel_rfl) (by kernel_rfl) ?_ (Or.inl ⟨?_, ?_⟩) (by assumption) ?_
          rotate_left 2
          · (simp only [List.getElem?_toArray, List.getElem?_cons_succ, List.getElem?_cons_zero]; rfl)
          rotate_left 1
          · rfl
          · (intro w hSw; (try dsimp only at hSw); go_simp; try with_reducible rfl)
          rotate_left 1
          · exact fun _ _ _ h => h
          try simp only [Act.put, List.setIfInBounds_toArray, List.set_cons_zero, List.set_cons_succ]
          refine wpAnyH_take (i := 11) (oi := ?_) (v := ?_) ?_ (by kernel_rfl) (by kernel_rfl) (by kernel_rfl) ?_ (Or.inl ⟨?_, ?_⟩) (by assumption) ?_
          rotate_left 2
          · (simp only [List.getElem?_toArray, List.getElem?_cons_succ, List.getElem?_cons_zero]; rfl)
          rotate_left 1
          · rfl
          · (intro w hSw; (try dsimp only at hSw); go_simp; try with_reducible rfl)
          rotate_left 1
          · exact fun _ _ _ h => h
          try simp only [Act.put, List.setIfInBounds_toArray, List.set_cons_zero, List.set_cons_succ]
          refine wpAnyH_take (i := 12) (oi := ?_) (v := ?_) ?_ (by kernel_rfl) (by kernel_rfl) (by kernel_rfl) ?_ (Or.inl ⟨?_, ?_⟩) (by assumption) ?_
          rotate_left 2
          · (simp only [List.getElem?_toArray, List.getElem?_cons_succ, List.getElem?_cons_zero]; rfl)
          rotate_left 1
          · rfl
          · (intro w hSw; (try dsimp only at hSw); go_simp; try with_reducible rfl)
          rotate_left 1
          · exact fun _ _ _ h => h
          try simp only [Act.put, List.setIfInBounds_toArray, List.set_cons_zero, List.set_cons_succ]
          refine wpAnyH_take (i := 13) (oi := ?_) (v := ?_) ?_ (by kernel_rfl) (by kernel_rfl) (by kernel_rfl) ?_ (Or.inl ⟨?_, ?_⟩) (by assumption) ?_
          rotate_left 2
          · (simp only [List.getElem?_toArray, List.getElem?_cons_succ, List.getElem?_cons_zero]; rfl)
          rotate_left 1
          · rfl
          · (intro w hSw; (try dsimp only at hSw); go_simp; try with_reducible rfl)
          rotate_left 1
          · exact fun _ _ _ h => h
          try simp only [Act.put, List.setIfInBounds_toArray, List.set_cons_zero, List.set_cons_succ]
          refine wpAnyH_ready (rs := [6]) (by kernel_rfl) (by simp) ?_
          refine AllReadyH.cons (o := ?_) ?_ (fun K hK => ?_) AllReadyH.nil
          rotate_left 1
          · (simp only [List.getElem?_toArray, List.getElem?_cons_succ, List.getElem?_cons_zero]; rfl)
          go_simp
          (go_at_call 23; refine (rForm_ok gr ?_ ?_ _).mono ?_; (omega); (omega); rintro e w3 ⟨v3, rfl, hv3, hb3⟩; have c0 := (hb3.cell (p := ⟨wr.heap.size, 0, none⟩) (by simp)).trans (by first | assumption | exact B0 : _ = some (.int .i32 gr)); have c2 := (hb3.cell (p := ⟨wr.heap.size, 2, none⟩) (by simp)).trans (by first | assumption | exact B2 : _ = some (.int .i64 pl)); have c4 := (hb3.cell (p := ⟨wr.heap.size, 4, none⟩) (by simp)).trans (by first | assumption | exact B4 : _ = some (.bool false)); have hx3 := hxk.ints_keep (So' := fun _ => True) (w' := w3) (fun p u hs hc => ⟨trivial, (hb3.cell (Nat.lt_of_lt_of_le (World.block_lt_of_cell? wr p hc) (by simp))).trans ((World.cell?_alloc_lt wr _ p (World.block_lt_of_cell? wr p hc)).trans hc)⟩))
          refine hK.out _ _ ?_ (fun hHeld => ?_)
          · ((try dsimp only); go_keep)
          clear hK K
          try simp only [Act.put, List.setIfInBounds_toArray, List.set_cons_zero, List.set_cons_succ]
          refine wpAnyH_ready (rs := [14]) (by kernel_rfl) (by simp) ?_
          refine AllReadyH.cons (o := ?_) ?_ (fun K hK => ?_) AllReadyH.nil
          rotate_left 1
          · (simp only [List.getElem?_toArray, List.getElem?_cons_succ, List.getElem?_cons_zero]; rfl)
          go_simp
          (go_at_call 24; refine (rBytes_ok _ _ _ _ _ _ (formF gr) ((b0 :: r).take pl) _ hv3.islc hx3).mono ?_; rintro e w4 ⟨he, rfl⟩; rw [hfo] at he; subst he)
          refine hK.out _ _ ?_ (fun hHeld => ?_)
          · ((try dsimp only); go_keep)
          clear hK K
          try simp only [Act.put, List.setIfInBounds_toArray, List.set_cons_zero, List.set_cons_succ]
          refine wpAnyH_take (i := 15) (oi := ?_) (v := ?_) ?_ (by kernel_rfl) (by kernel_rfl) (by kernel_rfl) ?_ (Or.inl ⟨?_, ?_⟩) (by assumption) ?_
          rotate_left 2
          · (simp only [List.getElem?_toArray, List.getElem?_cons_succ, List.getElem?_cons_zero]; rfl)
          rotate_left 1
          · rfl
          · (intro w hSw; (try dsimp only at hSw); go_simp; try with_reducible rfl)
          rotate_left 1
          · exact fun _ _ _ h => h
          try simp only [Act.put, List.setIfInBounds_toArray, List.set_cons_zero, List.set_cons_succ]
          refine wpAnyH_take (i := 16) (oi := ?_) (v := ?_) ?_ (by kernel_rfl) (by kernel_rfl) (by kernel_rfl) ?_ (Or.inl ⟨?_, ?_⟩) (by assumption) ?_
          rotate_left 2
          · (simp only [List.getElem?_toArray, List.getElem?_cons_succ, List.getElem?_cons_zero]; rfl)
          rotate_left 1
          · rfl
          · (intro w hSw; (try dsimp only at hSw); go_simp; try with_reducible rfl)
          rotate_left 1
          · exact fun _ _ _ h => h
          try simp only [Act.put, List.setIfInBounds_toArray, List.set_cons_zero, List.set_cons_succ]
          refine wpAnyH_take (i := 17) (oi := ?_) (v := ?_) ?_ (by kernel_rfl) (by kernel_rfl) (by kernel_rfl) ?_ (Or.inl ⟨?_, ?_⟩) (by assumption) ?_
          rotate_left 2
          · (simp only [List.getElem?_toArray, List.getElem?_cons_succ, List.getElem?_cons_zero]; rfl)
          rotate_left 1
          · rfl
          · (intro w hSw; (try dsimp only at hSw); go_simp; try with_reducible rfl)
          rotate_left 1
          · exact fun _ _ _ h => h
          try simp only [Act.put, List.setIfInBounds_toArray, List.set_cons_zero, List.set_cons_succ]
          refine wpAnyH_take (i := 18) (oi := ?_) (v := ?_) ?_ (by kernel_rfl) (by kernel_rfl) (by kernel_rfl) ?_ (Or.inl ⟨?_, ?_⟩) (by assumption) ?_
          rotate_left 2
          · (simp only [List.getElem?_toArray, List.getElem?_cons_succ, List.getElem?_cons_zero]; rfl)
          rotate_left 1
          · rfl
          · (intro w hSw; (try dsimp only at hSw); go_simp; try with_reducible rfl)
          rotate_left 1
          · exact fun _ _ _ h => h
          try simp only [Act.put, List.setIfInBounds_toArray, List.set_cons_zero, List.set_cons_succ]
          refine wpAnyH_take (i := 19) (oi := ?_) (v := ?_) ?_ (by kernel_rfl) (by kernel_rfl) (by kernel_rfl) ?_ (Or.inl ⟨?_, ?_⟩) (by assumption) ?_
          rotate_left 2
          · (simp only [List.getElem?_toArray, List.getElem?_cons_succ, List.getElem?_cons_zero]; rfl)
          rotate_left 1
          · rfl
          · (intro w hSw; (try dsimp only at hSw); go_simp; try with_reducible rfl)
          rotate_left 1
          · exact fun _ _ _ h => h
          try simp only [Act.put, List.setIfInBounds_toArray, List.set_cons_zero, List.set_cons_succ]
          refine wpAnyH_take (i := 20) (oi := ?_) (v := ?_) ?_ (by kernel_rfl) (by kernel_rfl) (by kernel_rfl) ?_ (Or.inl ⟨?_, ?_⟩) (by assumption) ?_
          rotate_left 2
          · (simp only [List.getElem?_toArray, List.getElem?_cons_succ, List.getElem?_cons_zero]; rfl)
          rotate_left 1
          · rfl
          · (intro w hSw; (try dsimp only at hSw); go_simp; try with_reducible rfl)
          rotate_left 1
          · exact fun _ _ _ h => h
          try simp only [Act.put, List.setIfInBounds_toArray, List.set_cons_zero, List.set_cons_succ]
          refine wpAnyH_take (i := 21) (oi := ?_) (v := ?_) ?_ (by kernel_rfl) (by kernel_rfl) (by kernel_rfl) ?_ (Or.inr ⟨?_, ?_⟩) (by assumption) ?_
          rotate_left 2
          · (simp only [List.getElem?_toArray, List.getElem?_cons_succ, List.getElem?_cons_zero]; rfl)
          rotate_left 1
          · rfl
          · rfl
          rotate_left 1
          · exact fun _ _ _ h => h
          try simp only [Act.put, List.setIfInBounds_toArray, List.set_cons_zero, List.set_cons_succ]
          refine wpAnyH_take (i := 22) (oi := ?_) (v := ?_) ?_ (by kernel_rfl) (by kernel_rfl) (by kernel_rfl) ?_ (Or.inr ⟨?_, ?_⟩) (by assumption) ?_
          rotate_left 2
          · (simp only [List.getElem?_toArray, List.getElem?_cons_succ, List.getElem?_cons_zero]; rfl)
          rotate_left 1
          · rfl
          · rfl
          rotate_left 1
          · exact fun _ _ _ h => h
          try simp only [Act.put, List.setIfInBounds_toArray, List.set_cons_zero, List.set_cons_succ]
          refine wpAnyH_take (i := 23) (oi := ?_) (v := ?_) ?_ (by kernel_rfl) (by kernel_rfl) (by kernel_rfl) ?_ (Or.inr ⟨?_, ?_⟩) (by assumption) ?_
          rotate_left 2
          · (simp only [List.getElem?_toArray, List.getElem?_cons_succ, List.getElem?_cons_zero]; rfl)
          rotate_left 1
          · rfl
          · rfl
          rotate_left 1
          · exact fun _ _ _ h => h
          try simp only [Act.put, List.setIfInBounds_toArray, List.set_cons_zero, List.set_cons_succ]
          refine wpAnyH_take (i := 24) (oi := ?_) (v := ?_) ?_ (by kernel_rfl) (by kernel_rfl) (by kernel_rfl) ?_ (Or.inl ⟨?_, ?_⟩) (by assumption) ?_
          rotate_left 2
          · (simp only [List.getElem?_toArray, List.getElem?_cons_succ, List.getElem?_cons_zero]; rfl)
          rotate_left 1
          · rfl
          · (intro w hSw; (try dsimp only at hSw); go_simp; try with_reducible rfl)
          rotate_left 1
          · exact fun _ _ _ h => h
          try simp only [Act.put, List.setIfInBounds_toArray, List.set_cons_zero, List.set_cons_succ]
          refine wpAnyH_take (i := 25) (oi := ?_) (v := ?_) ?_ (by kernel_rfl) (by kernel_rfl) (by kernel_rfl) ?_ (Or.inl ⟨?_, ?_⟩) (by assumption) ?_
          rotate_left 2
          · (simp only [List.getElem?_toArray, List.getElem?_cons_succ, List.getElem?_cons_zero]; rfl)
          rotate_left 1
          · rfl
          · (intro w hSw; (try dsimp only at hSw); go_simp; try with_reducible rfl)
          rotate_left 1
          · exact fun _ _ _ h => h
          try simp only [Act.put, List.setIfInBounds_toArray, List.set_cons_zero, List.set_cons_succ]
          refine wpAnyH_done (by kernel_rfl) ?_ _
          clear u1 u2 u3 u4 t1 hsum s0 s1 s2 s3 s4 s5 hfo
          set_option maxRecDepth 8000 in go_wp2
          go_roundw
          case rel => exact ⟨k + pl, j + 1, by omega, by omega, by go_num, by go_num, HALL.out, (below_drew1 (hbel.alloc (by omega) _)).trans (hb3.mono (by simp; omega))⟩
          case measure => simp [intOf]; omega
      · have hjj : j = (allF l).length := by omega
        have e : (allF l).drop j = [] := List.drop_eq_nil_of_le (by omega)
        rw [e] at hall
        have hkl : k = l.length := by
          apply Classical.byContradiction
          intro h
          obtain ⟨b0, r, hdr, hrl⟩ := drop_cons (l := l) (k := k) (by omega)
          rw [hdr, all_cons] at hall
          simp at hall
        subst hkl
        clear hall e
        have hself : ((l.length : Int) == (l.length : Int)) = true := by simp
        go_wp2
        go_ret
        exact ⟨rfl, hbb2.trans (hbel.mono hsz2)⟩
  · have hl2 : decide ((3000 : Int) < (l.length : Int)) = true := by simp; omega
    go_enter Try.func6, Try.ntmps6
    go_wp2_with fail
    refine (works04_ok _).mono ?_
    rintro e w1 ⟨rfl, hb1⟩
    go_wp2_with fail
    refine (works04_ok _).mono ?_
    rintro e w2 ⟨rfl, hb2⟩
    go_wp2
    go_ret
    exact ⟨rfl, hb1.trans (hb2.mono hb1.size)⟩
end Go.Proofs.Ytfcjkmiaibakiaa
