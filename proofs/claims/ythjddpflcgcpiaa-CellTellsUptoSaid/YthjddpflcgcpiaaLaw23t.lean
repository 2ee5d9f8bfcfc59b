/-
  The law on what strips tell: the walk returns true and leaves the memory that was there as it was.
-/
import Derived.Test.YthjddpflcgcpiaaLaw23
import Derived.Test.YthjddpflcgcpiaaCell7
import Derived.Deep.RegionHeld3
namespace Go.Proofs.Ythjddpflcgcpiaa
open Go.RowKit
set_option linter.unusedVariables false
set_option linter.unusedSimpArgs false

theorem below_dr {B : Nat} {w w' : World} (h : Below B w w') : Below B w w'.drew := ⟨h.os, h.tape, h.output, h.size, h.block⟩
theorem keep_dr (S : Nat → Prop) (w : World) : Keep S w S w.drew := fun _ _ h h' => ⟨h, h'⟩
theorem own_dr {α : Type} {R : Rep α} {e : TypeId} {T : List TypeId} {base : Nat} {w : World} {v : Value} {l : List α} (h : Own R e T base w v l) : Own R e T base w.drew v l :=
  h.step (es := []) ((Step.refl base [] w).drew) (by simp) (by simp)

set_option maxHeartbeats 2000000 in
theorem walk_CellTells (p : Value) (l : List CellV) (q : Value) (m : List CellV) (w : World) (hp : Slc RCell (fun b => b < w.heap.size) (fun b => b < w.heap.size) w p l) (hq : Slc RCell (fun b => b < w.heap.size) (fun b => b < w.heap.size) w q m) (hbulk : (l.flatMap Prod.snd).length ≤ 1048576) :
    Calls Try.prog 4 #[p, q] w fun e w' => e = .returned (.bool true) ∧ Below w.heap.size w w' := by
  obtain ⟨A, c, rfl, hc1, hc2, hB⟩ := hp.open_
  obtain ⟨D, d, rfl, hd1, hd2, hD⟩ := hq.open_
  by_cases hll : l.length ≤ 300
  · have hl2 : decide ((300 : Int) < (l.length : Int)) = false := by simp; omega
    by_cases hlm : m.length ≤ 300
    · have hm2 : decide ((300 : Int) < (m.length : Int)) = false := by simp; omega
      go_enter Try.func4, Try.ntmps4
      go_wp2_with fail
      refine (works23_ok _).mono ?_
      rintro e w1 ⟨rfl, hb1⟩
      have hz1 := hb1.size
      go_wp2
      go_loopw [5, 6] (fun out i wr => ∃ k : Nat, k ≤ l.length ∧ i = .int .i64 k ∧ Own (Rep.int .i32) 21 [] w1.heap.size wr out ((l.take k).flatMap Prod.snd) ∧ Below w1.heap.size w1 wr) (fun _ i _ => l.length - (intOf i).toNat)
      case atStart => exact ⟨0, Nat.zero_le _, rfl, Own.nil_ _ _ _ _ _ (by simp), Below.refl _ _⟩
      case round =>
        obtain ⟨k, hk, rfl, hown, hbel⟩ := hrel
        have hsz := hbel.size
        have hbw := hb1.trans (hbel.mono hz1)
        by_cases hlt : k < l.length
        · have hpk := hp.mono (Keep.below (S := fun b => b < w.heap.size) hbw) (Keep.below (S := fun b => b < w.heap.size) hbw)
          obtain ⟨ab, off, v, rfl, _, q0, q1, hw, hv⟩ := cell_at hpk.slb hlt
          obtain ⟨A', c', rfl, he1, he2, _⟩ := hv.open_
          have hab := World.block_lt_of_cell? wr _ q0
          have hvd := hv.ints_keep (keep_dr _ wr)
          have hsn : (l.take (k + 1)).flatMap Prod.snd = (l.take k).flatMap Prod.snd ++ l[k].2 := by rw [take_snoc' l k hlt, List.flatMap_append]; simp
          have hl1 : ((l.take k).flatMap Prod.snd).length + l[k].2.length ≤ 1048576 := by
            have h1 : ((l.take (k + 1)).flatMap Prod.snd).length ≤ (l.flatMap Prod.snd).length := by
              conv => rhs; rw [← List.take_append_drop (k + 1) l, List.flatMap_append, List.length_append]
              omega
            rw [hsn, List.length_append] at h1
            omega
          have HSN := hide hsn
          clear hsn
          go_wp2
          refine wp_region_held_drew (S := fun w' => w'.cell? ⟨ab, off + k * 2, none⟩ = some (.int .i64 l[k].1) ∧ w'.cell? ⟨ab, off + k * 2 + 1, none⟩ = some (.slice A' l[k].2.length c')) (by kernel_rfl) (by go_keep) (fun hHeld => ?_)
          refine wpAnyH_take (i := 0) (oi := ?_) (v := ?_) ?_ (by kernel_rfl) (by kernel_rfl) (by kernel_rfl) ?_ (Or.inl ⟨?_, ?_⟩) (by assumption) ?_
          rotate_left 2
          · (simp only [List.getElem?_toArray, List.getElem?_cons_succ, List.getElem?_cons_zero]; rfl)
          rotate_left 1
          · rfl
          · (intro w hSw; (try dsimp only at hSw); go_simp; try with_reducible rfl)
          rotate_left 1
          · exact fun _ _ _ h => h
          try simp only [Act.put, List.setIfInBounds_toArray, List.set_cons_zero, List.set_cons_succ]
          refine wpAnyH_take (i := 1) (oi := ?_) (v := ?_) ?_ (by kernel_rfl) (by kernel_rfl) (by kernel_rfl) ?_ (Or.inl ⟨?_, ?_⟩) (by assumption) ?_
          rotate_left 2
          · (simp only [List.getElem?_toArray, List.getElem?_cons_succ, List.getElem?_cons_zero]; rfl)
          rotate_left 1
          · rfl
          · (intro w hSw; (try dsimp only at hSw); go_simp; try with_reducible rfl)
          rotate_left 1
          · exact fun _ _ _ h => h
          try simp only [Act.put, List.setIfInBounds_toArray, List.set_cons_zero, List.set_cons_succ]
          refine wpAnyH_take (i := 2) (oi := ?_) (v := ?_) ?_ (by kernel_rfl) (by kernel_rfl) (by kernel_rfl) ?_ (Or.inl ⟨?_, ?_⟩) (by assumption) ?_
          rotate_left 2
          · (simp only [List.getElem?_toArray, List.getElem?_cons_succ, List.getElem?_cons_zero]; rfl)
          rotate_left 1
          · rfl
          · (intro w hSw; (try dsimp only at hSw); go_simp; try with_reducible rfl)
          rotate_left 1
          · exact fun _ _ _ h => h
          try simp only [Act.put, List.setIfInBounds_toArray, List.set_cons_zero, List.set_cons_succ]
          refine wpAnyH_take (i := 3) (oi := ?_) (v := ?_) ?_ (by kernel_rfl) (by kernel_rfl) (by kernel_rfl) ?_ (Or.inl ⟨?_, ?_⟩) (by assumption) ?_
          rotate_left 2
          · (simp only [List.getElem?_toArray, List.getElem?_cons_succ, List.getElem?_cons_zero]; rfl)
          rotate_left 1
          · rfl
          · (intro w hSw; (try dsimp only at hSw); go_simp; try with_reducible rfl)
          rotate_left 1
          · exact fun _ _ _ h => h
          try simp only [Act.put, List.setIfInBounds_toArray, List.set_cons_zero, List.set_cons_succ]
          refine wpAnyH_take (i := 5) (oi := ?_) (v := ?_) ?_ (by kernel_rfl) (by kernel_rfl) (by kernel_rfl) ?_ (Or.inl ⟨?_, ?_⟩) (by assumption) ?_
          rotate_left 2
          · (simp only [List.getElem?_toArray, List.getElem?_cons_succ, List.getElem?_cons_zero]; rfl)
          rotate_left 1
          · rfl
          · (intro w hSw; (try dsimp only at hSw); go_simp; try with_reducible rfl)
          rotate_left 1
          · exact fun _ _ _ h => h
          try simp only [Act.put, List.setIfInBounds_toArray, List.set_cons_zero, List.set_cons_succ]
          refine wpAnyH_take (i := 6) (oi := ?_) (v := ?_) ?_ (by kernel_rfl) (by kernel_rfl) (by kernel_rfl) ?_ (Or.inl ⟨?_, ?_⟩) (by assumption) ?_
          rotate_left 2
          · (simp only [List.getElem?_toArray, List.getElem?_cons_succ, List.getElem?_cons_zero]; rfl)
          rotate_left 1
          · rfl
          · (intro w hSw; (try dsimp only at hSw); go_simp; try with_reducible rfl)
          rotate_left 1
          · exact fun _ _ _ h => h
          try simp only [Act.put, List.setIfInBounds_toArray, List.set_cons_zero, List.set_cons_succ]
          refine wpAnyH_take (i := 7) (oi := ?_) (v := ?_) ?_ (by kernel_rfl) (by kernel_rfl) (by kernel_rfl) ?_ (Or.inl ⟨?_, ?_⟩) (by assumption) ?_
          rotate_left 2
          · (simp only [List.getElem?_toArray, List.getElem?_cons_succ, List.getElem?_cons_zero]; rfl)
          rotate_left 1
          · rfl
          · (intro w hSw; (try dsimp only at hSw); go_simp; try with_reducible rfl)
          rotate_left 1
          · exact fun _ _ _ h => h
          try simp only [Act.put, List.setIfInBounds_toArray, List.set_cons_zero, List.set_cons_succ]
          refine wpAnyH_take (i := 8) (oi := ?_) (v := ?_) ?_ (by kernel_rfl) (by kernel_rfl) (by kernel_rfl) ?_ (Or.inl ⟨?_, ?_⟩) (by assumption) ?_
          rotate_left 2
          · (simp only [List.getElem?_toArray, List.getElem?_cons_succ, List.getElem?_cons_zero]; rfl)
          rotate_left 1
          · rfl
          · (intro w hSw; (try dsimp only at hSw); go_simp; try with_reducible rfl)
          rotate_left 1
          · exact fun _ _ _ h => h
          try simp only [Act.put, List.setIfInBounds_toArray, List.set_cons_zero, List.set_cons_succ]
          refine wpAnyH_ready (rs := [4]) (by kernel_rfl) (by simp) ?_
          refine AllReadyH.cons (o := ?_) ?_ (fun K hK => ?_) AllReadyH.nil
          rotate_left 1
          · (simp only [List.getElem?_toArray, List.getElem?_cons_succ, List.getElem?_cons_zero]; rfl)
          go_simp
          (go_at_call 14; refine (Right_ok _ _ _ _ l[k].2 _ hw hvd).mono ?_; rintro e w3 ⟨rfl, hb3⟩; have c0 := (hb3.cell (p := ⟨ab, off + k * 2, none⟩) hab).trans q0; have c1 := (hb3.cell (p := ⟨ab, off + k * 2 + 1, none⟩) hab).trans q1; have hv3 := hvd.ints_keep (Keep.below hb3))
          refine hK.out _ _ ?_ (fun hHeld => ?_)
          · ((try dsimp only); go_keep)
          clear hK K
          try simp only [Act.put, List.setIfInBounds_toArray, List.set_cons_zero, List.set_cons_succ]
          refine wpAnyH_ready (rs := [9]) (by kernel_rfl) (by simp) ?_
          refine AllReadyH.cons (o := ?_) ?_ (fun K hK => ?_) AllReadyH.nil
          rotate_left 1
          · (simp only [List.getElem?_toArray, List.getElem?_cons_succ, List.getElem?_cons_zero]; rfl)
          go_simp
          (go_at_call 15; refine (rRight_ok _ _ _ _ l[k].2 _ hw hv3).mono ?_; rintro e w4 ⟨rfl, hb4⟩; have hab3 := World.block_lt_of_cell? w3 _ c0; have e0 := (hb4.cell (p := ⟨ab, off + k * 2, none⟩) hab3).trans c0; have e1 := (hb4.cell (p := ⟨ab, off + k * 2 + 1, none⟩) hab3).trans c1)
          refine hK.out _ _ ?_ (fun hHeld => ?_)
          · ((try dsimp only); go_keep)
          clear hK K
          try simp only [Act.put, List.setIfInBounds_toArray, List.set_cons_zero, List.set_cons_succ]
          refine wpAnyH_take (i := 10) (oi := ?_) (v := ?_) ?_ (by kernel_rfl) (by kernel_rfl) (by kernel_rfl) ?_ (Or.inl ⟨?_, ?_⟩) (by assumption) ?_
          rotate_left 2
          · (simp only [List.getElem?_toArray, List.getElem?_cons_succ, List.getElem?_cons_zero]; rfl)
          rotate_left 1
          · rfl
          · (intro w hSw; (try dsimp only at hSw); go_simp; try with_reducible rfl)
          rotate_left 1
          · exact fun _ _ _ h => h
          try simp only [Act.put, List.setIfInBounds_toArray, List.set_cons_zero, List.set_cons_succ]
          refine wpAnyH_done (by kernel_rfl) ?_ _
          have hrr : (rightB (l[k].1, l[k].2) != rightB (l[k].1, l[k].2)) = false := by simp
          have hown4 := ((own_dr hown).below hb3).below hb4
          have hv4 := hv3.ints_keep (Keep.below hb4)
          have hz3 := hb3.size
          have hz4 := hb4.size
          go_wp2_with (at_builtin; refine wpList_appi rfl (.tmp 37) (.tmp 42) 22 rfl .i32 21 w1.heap.size 4 Try.underlying22 i32_info (by decide) _ _ rfl hown4 _ _ _ _ rfl hv4 (by omega) (by simp at hz3; omega) ?_; intro v5 w5 hv5 hst5)
          go_roundw
          case rel => exact ⟨k + 1, by omega, by go_num, by rw [HSN.out]; exact hv5, (((below_dr hbel).trans (hb3.mono (by simpa using hsz))).trans (hb4.mono (by simp at hz3; omega))).trans (hst5.below (by simp at hz3; omega))⟩
          case measure => simp [intOf]; omega
        · have e : l.take k = l := List.take_of_length_le (by omega)
          rw [e] at hown
          have hzw := hbw.size
          have hpk := hp.mono (Keep.below (S := fun b => b < w.heap.size) hbw) (Keep.below (S := fun b => b < w.heap.size) hbw)
          go_wp2_with fail
          refine (Sound_ok _ _ _ l _ hpk).mono ?_
          rintro e w2 ⟨rfl, hb2⟩
          have hbw2 := hbw.trans (hb2.mono hzw)
          have hp2 := hp.mono (Keep.below (S := fun b => b < w.heap.size) hbw2) (Keep.below (S := fun b => b < w.heap.size) hbw2)
          have hown := hown.below hb2
          go_wp2_with fail
          refine (rSound_ok _ _ _ l _ hp2 (by omega)).mono ?_
          rintro e w3 ⟨rfl, hb3⟩
          have hss : (soundB l == soundB l) = true := by simp
          have hbw3 := hbw2.trans (hb3.mono hbw2.size)
          have hp3 := hp.mono (Keep.below (S := fun b => b < w.heap.size) hbw3) (Keep.below (S := fun b => b < w.heap.size) hbw3)
          have hq3 := hq.mono (Keep.below (S := fun b => b < w.heap.size) hbw3) (Keep.below (S := fun b => b < w.heap.size) hbw3)
          have hown := hown.below hb3
          go_wp2_with fail
          refine (SameCells_ok _ _ _ _ _ _ l m _ hp3 hq3).mono ?_
          rintro e w4 ⟨rfl, hb4⟩
          have hbw4 := hbw3.trans (hb4.mono hbw3.size)
          have hp4 := hp.mono (Keep.below (S := fun b => b < w.heap.size) hbw4) (Keep.below (S := fun b => b < w.heap.size) hbw4)
          have hq4 := hq.mono (Keep.below (S := fun b => b < w.heap.size) hbw4) (Keep.below (S := fun b => b < w.heap.size) hbw4)
          have hown := hown.below hb4
          go_wp2_with fail
          refine (rSame23_ok _ _ _ _ _ _ l m _ hp4 hq4).mono ?_
          rintro e w5 ⟨rfl, n5, rfl⟩
          generalize decide (l = m) = B at *
          have hBB : (B == B) = true := by simp
          have hbw5 := below_drewN hbw4 n5
          have hp5 : Slc RCell (fun b => b < w.heap.size) (fun b => b < w.heap.size) (w4.drewN n5) (.slice A l.length c) l := hp.mono (Keep.below (S := fun b => b < w.heap.size) hbw5) (Keep.below (S := fun b => b < w.heap.size) hbw5)
          have hown := hown.drewN n5
          go_wp2_with fail
          refine (SameCells_ok _ _ _ _ _ _ l l _ hp5 hp5).mono ?_
          rintro e w6 ⟨rfl, hb6⟩
          rw [decide_eq_true rfl]
          have hbw6 := hbw5.trans (hb6.mono hbw5.size)
          have hp6 := hp.mono (Keep.below (S := fun b => b < w.heap.size) hbw6) (Keep.below (S := fun b => b < w.heap.size) hbw6)
          have hown := hown.below hb6
          go_wp2_with fail
          refine (Text_ok _ _ _ l _ hp6 (by omega)).mono ?_
          rintro e w7 ⟨v7, rfl, hv7, hb7⟩
          have hbw7 := hbw6.trans (hb7.mono hbw6.size)
          have hown := hown.below hb7
          go_wp2_with fail
          refine (Same_ok _ _ _ _ _ _ _ _ _ hv7.islc hown.islc).mono ?_
          rintro e w8 ⟨rfl, n8, rfl⟩
          rw [decide_eq_true rfl]
          go_wp2
          go_ret
          exact ⟨rfl, below_drewN hbw7 _⟩
    · have hm2 : decide ((300 : Int) < (m.length : Int)) = true := by simp; omega
      go_enter Try.func4, Try.ntmps4
      go_wp2_with fail
      refine (works23_ok _).mono ?_
      rintro e w1 ⟨rfl, hb1⟩
      go_wp2_with fail
      refine (works23_ok _).mono ?_
      rintro e w2 ⟨rfl, hb2⟩
      go_wp2
      go_ret
      exact ⟨rfl, hb1.trans (hb2.mono hb1.size)⟩
  · have hl2 : decide ((300 : Int) < (l.length : Int)) = true := by simp; omega
    go_enter Try.func4, Try.ntmps4
    go_wp2_with fail
    refine (works23_ok _).mono ?_
    rintro e w1 ⟨rfl, hb1⟩
    go_wp2_with fail
    refine (works23_ok _).mono ?_
    rintro e w2 ⟨rfl, hb2⟩
    go_wp2
    go_ret
    exact ⟨rfl, hb1.trans (hb2.mono hb1.size)⟩
end Go.Proofs.Ythjddpflcgcpiaa
