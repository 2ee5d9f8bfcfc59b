/-
  What audit's small functions return, and the functions that tell whether a view is right: the program's and the document's. Each function once.
-/
import Derived.Test.YtphdagmaamcapaaDoorAud2
import Derived.Test.YtphdagmaamcapaaDoorErr2
namespace Go.Proofs.YtphdagmaamcapaaDoor
open Go.RowKit
set_option linter.unusedVariables false
set_option linter.unusedSimpArgs false

theorem Akind_ok (So Si : Nat → Prop) (x : Value) (l : List CellV) (i : Int) (w : World) (hx : Slc RCell So Si w x l) (h0 : -1 ≤ i) (h1 : i ≤ l.length) :
    Calls Tryd.prog 57 #[x, .int .i64 i] w fun e w' => e = .returned (.int .i64 (kindI l i)) ∧ w = w' := by
  obtain ⟨A, c, rfl, hc1, hc2, hB⟩ := hx.open_
  by_cases hi : i < 0
  · have hk : kindI l i = 0 := by unfold kindI; rw [if_neg (by omega)]
    rw [hk]
    clear hk
    go_enter Tryd.func57, Tryd.ntmps57
    go_wp2
    go_ret
    exact ⟨rfl, rfl⟩
  · obtain ⟨k, rfl⟩ := Int.eq_ofNat_of_zero_le (Int.not_lt.1 hi)
    by_cases hlt : k < l.length
    · obtain ⟨b, off, v, rfl, _, q0, q1, hw, hv⟩ := cell_at hB hlt
      have hk : kindI l k = l[k].1 := by unfold kindI; rw [if_pos (by omega)]; simp [hlt]
      have HK := hide hk
      have hl2 : (k : Int) < l.length := by omega
      clear hk hi
      go_enter Tryd.func57, Tryd.ntmps57
      go_wp2
      go_ret
      exact ⟨ret_1 (int_eq HK.out.symm), rfl⟩
    · have hk : kindI l k = 0 := by unfold kindI; rw [if_pos (by omega)]; simp [hlt]
      have HK := hide hk
      have hl2 : (l.length : Int) ≤ k := by omega
      clear hk hi
      go_enter Tryd.func57, Tryd.ntmps57
      go_wp2
      go_ret
      exact ⟨ret_1 (int_eq HK.out.symm), rfl⟩

/-- The variables that audit hands on. -/
def VarsA (b : Nat → Addr) (w : World) : Prop := ∀ k, k = 1 ∨ k = 2 ∨ k = 3 ∨ k = 4 ∨ k = 7 → w.cell? ⟨gOf k, 0, none⟩ = some (.iface 123 (.pointer (some (b k))))
theorem VarsA.below {b : Nat → Addr} {w w' : World} (h : VarsA b w) (hb : Below w.heap.size w w') : VarsA b w' := fun k hk => (hb.cell (World.block_lt_of_cell? w _ (h k hk))).trans (h k hk)
/-- The error of a number. -/
def errV (b : Nat → Addr) (n : Int) : Value := if n = 5 then .iface 123 (.pointer (some (b 4))) else if n = 2 then .iface 123 (.pointer (some (b 1))) else .nilIface

theorem Aside_ok (n : Int) (w : World) :
    Calls Tryd.prog 49 #[.int .i64 n] w fun e w' => e = .returned (.bool (decide (1 ≤ n ∧ n ≤ 1024))) ∧ w = w' := by
  go_enter Tryd.func49, Tryd.ntmps49
  go_wp2
  all_goals go_ret
  all_goals (refine ⟨ret_1 (bool_eq ?_), rfl⟩; go_tidy; rw [Bool.eq_iff_iff]; simp; try omega)

set_option maxHeartbeats 1000000 in
theorem Awrong_ok (b : Nat → Addr) (So Si : Nat → Prop) (x : Value) (l : List CellV) (k : Nat) (w : World) (hV : VarsA b w) (hx : Slc RCell So Si w x l) (hk : k < l.length) (hlen : l.length ≤ 1000000) :
    Calls Tryd.prog 50 #[x, .int .i64 k] w fun e w' => e = .returned (errV b (wrongAt l k)) ∧ Below w.heap.size w w' := by
  obtain ⟨A, c, rfl, _, _, _⟩ := hx.open_
  obtain ⟨ab, off, v2, rfl, _, q0, q1, hw, hv⟩ := cell_at hx.slb hk
  obtain ⟨A2, c2, rfl, _, _, _⟩ := hv.open_
  have hV4 := hV 4 (by decide)
  have hV1 := hV 1 (by decide)
  simp only [gOf] at hV4 hV1
  have hl4 := World.block_lt_of_cell? w _ hV4
  have hl1 := World.block_lt_of_cell? w _ hV1
  simp only at hl4 hl1
  have hwa : wrongAt l k = if rightB l[k] = false then 5 else if (l[k].1 = 2 ∧ kindI l ((k : Int) + 1) ≠ 3) ∨ (l[k].1 = 3 ∧ kindI l ((k : Int) - 1) ≠ 2) then 2 else 0 := by unfold wrongAt; rw [dif_pos hk]
  have hbl := (Below.refl w.heap.size w).alloc (Nat.le_refl _) (.cells #[.int .i64 l[k].1, .slice A2 l[k].2.length c2] 62)
  have hblk := Blk.new w 62 #[.int .i64 l[k].1, .slice A2 l[k].2.length c2]
  have hva := hv.ints_keep (Keep.alloc Si w (.cells #[.int .i64 l[k].1, .slice A2 l[k].2.length c2] 62))
  rcases Bool.eq_false_or_eq_true (rightB l[k]) with hr | hr
  · have HR := hide hr
    rw [if_neg (by rw [hr]; simp)] at hwa
    clear hr
    by_cases h2 : l[k].1 = 2
    · have e2 : (l[k].1 == 2) = true := by simpa using h2
      have e3 : (l[k].1 == 3) = false := by rw [beq_eq_false_iff_ne]; omega
      by_cases h4 : kindI l ((k : Int) + 1) = 3
      · have e4 : (kindI l ((k : Int) + 1) != 3) = false := by simp [h4]
        rw [if_neg (by intro h; rcases h with ⟨_, h⟩ | ⟨h, _⟩ <;> omega)] at hwa
        have HWA := hide hwa
        clear hwa h2 h4
        go_enter Tryd.func50, Tryd.ntmps50
        go_wp2_with fail
        refine (Right_ok _ _ l[k].1 _ l[k].2 _ hw hva).mono ?_
        rw [HR.out]
        rintro e w2 ⟨rfl, hb2⟩
        have hb2' := hbl.trans (hb2.mono hbl.size)
        have hE := (hb2'.cell (p := ⟨2, 0, none⟩) hl1).trans hV1
        have hblk2 := hblk.same hb2
        have r0 := hblk2.cell 0
        have r1 := hblk2.cell 1
        simp only [List.getElem?_toArray, List.getElem?_cons_succ, List.getElem?_cons_zero] at r0 r1
        have hx2 := hx.mono (Keep.below (S := So) (hb2'.mono (Nat.le_refl _))) (Keep.below (S := Si) (hb2'.mono (Nat.le_refl _)))
        go_wp2_with fail
        refine (Akind_ok _ _ _ l ((k : Int) + 1) _ hx2 (by omega) (by omega)).mono ?_
        rintro e w3 ⟨rfl, rfl⟩
        go_wp2
        go_ret
        rw [HWA.out]
        exact ⟨rfl, hb2'⟩
      · have e4 : (kindI l ((k : Int) + 1) != 3) = true := by simp [h4]
        rw [if_pos (.inl ⟨h2, h4⟩)] at hwa
        have HWA := hide hwa
        clear hwa h2 h4
        go_enter Tryd.func50, Tryd.ntmps50
        go_wp2_with fail
        refine (Right_ok _ _ l[k].1 _ l[k].2 _ hw hva).mono ?_
        rw [HR.out]
        rintro e w2 ⟨rfl, hb2⟩
        have hb2' := hbl.trans (hb2.mono hbl.size)
        have hE := (hb2'.cell (p := ⟨2, 0, none⟩) hl1).trans hV1
        have hblk2 := hblk.same hb2
        have r0 := hblk2.cell 0
        have r1 := hblk2.cell 1
        simp only [List.getElem?_toArray, List.getElem?_cons_succ, List.getElem?_cons_zero] at r0 r1
        have hx2 := hx.mono (Keep.below (S := So) (hb2'.mono (Nat.le_refl _))) (Keep.below (S := Si) (hb2'.mono (Nat.le_refl _)))
        go_wp2_with fail
        refine (Akind_ok _ _ _ l ((k : Int) + 1) _ hx2 (by omega) (by omega)).mono ?_
        rintro e w3 ⟨rfl, rfl⟩
        go_wp2
        go_ret
        rw [HWA.out]
        exact ⟨rfl, hb2'⟩
    · have e2 : (l[k].1 == 2) = false := by simpa using h2
      by_cases h3 : l[k].1 = 3
      · have e3 : (l[k].1 == 3) = true := by simpa using h3
        by_cases h4 : kindI l ((k : Int) - 1) = 2
        · have e4 : (kindI l ((k : Int) - 1) != 2) = false := by simp [h4]
          rw [if_neg (by intro h; rcases h with ⟨h, _⟩ | ⟨_, h⟩ <;> omega)] at hwa
          have HWA := hide hwa
          clear hwa h2 h3 h4
          go_enter Tryd.func50, Tryd.ntmps50
          go_wp2_with fail
          refine (Right_ok _ _ l[k].1 _ l[k].2 _ hw hva).mono ?_
          rw [HR.out]
          rintro e w2 ⟨rfl, hb2⟩
          have hb2' := hbl.trans (hb2.mono hbl.size)
          have hE := (hb2'.cell (p := ⟨2, 0, none⟩) hl1).trans hV1
          have hblk2 := hblk.same hb2
          have r0 := hblk2.cell 0
          have r1 := hblk2.cell 1
          simp only [List.getElem?_toArray, List.getElem?_cons_succ, List.getElem?_cons_zero] at r0 r1
          have hx2 := hx.mono (Keep.below (S := So) (hb2'.mono (Nat.le_refl _))) (Keep.below (S := Si) (hb2'.mono (Nat.le_refl _)))
          go_wp2_with fail
          refine (Akind_ok _ _ _ l ((k : Int) - 1) _ hx2 (by omega) (by omega)).mono ?_
          rintro e w3 ⟨rfl, rfl⟩
          go_wp2
          go_ret
          rw [HWA.out]
          exact ⟨rfl, hb2'⟩
        · have e4 : (kindI l ((k : Int) - 1) != 2) = true := by simp [h4]
          rw [if_pos (.inr ⟨h3, h4⟩)] at hwa
          have HWA := hide hwa
          clear hwa h2 h3 h4
          go_enter Tryd.func50, Tryd.ntmps50
          go_wp2_with fail
          refine (Right_ok _ _ l[k].1 _ l[k].2 _ hw hva).mono ?_
          rw [HR.out]
          rintro e w2 ⟨rfl, hb2⟩
          have hb2' := hbl.trans (hb2.mono hbl.size)
          have hE := (hb2'.cell (p := ⟨2, 0, none⟩) hl1).trans hV1
          have hblk2 := hblk.same hb2
          have r0 := hblk2.cell 0
          have r1 := hblk2.cell 1
          simp only [List.getElem?_toArray, List.getElem?_cons_succ, List.getElem?_cons_zero] at r0 r1
          have hx2 := hx.mono (Keep.below (S := So) (hb2'.mono (Nat.le_refl _))) (Keep.below (S := Si) (hb2'.mono (Nat.le_refl _)))
          go_wp2_with fail
          refine (Akind_ok _ _ _ l ((k : Int) - 1) _ hx2 (by omega) (by omega)).mono ?_
          rintro e w3 ⟨rfl, rfl⟩
          go_wp2
          go_ret
          rw [HWA.out]
          exact ⟨rfl, hb2'⟩
      · have e3 : (l[k].1 == 3) = false := by simpa using h3
        rw [if_neg (by intro h; rcases h with ⟨h, _⟩ | ⟨h, _⟩ <;> omega)] at hwa
        have HWA := hide hwa
        clear hwa h2 h3
        go_enter Tryd.func50, Tryd.ntmps50
        go_wp2_with fail
        refine (Right_ok _ _ l[k].1 _ l[k].2 _ hw hva).mono ?_
        rw [HR.out]
        rintro e w2 ⟨rfl, hb2⟩
        have hb2' := hbl.trans (hb2.mono hbl.size)
        have hE := (hb2'.cell (p := ⟨2, 0, none⟩) hl1).trans hV1
        have hblk2 := hblk.same hb2
        have r0 := hblk2.cell 0
        have r1 := hblk2.cell 1
        simp only [List.getElem?_toArray, List.getElem?_cons_succ, List.getElem?_cons_zero] at r0 r1
        have hx2 := hx.mono (Keep.below (S := So) (hb2'.mono (Nat.le_refl _))) (Keep.below (S := Si) (hb2'.mono (Nat.le_refl _)))
        go_wp2
        go_ret
        rw [HWA.out]
        exact ⟨rfl, hb2'⟩
  · have HR := hide hr
    rw [if_pos hr] at hwa
    have HWA := hide hwa
    clear hr hwa
    go_enter Tryd.func50, Tryd.ntmps50
    go_wp2_with fail
    refine (Right_ok _ _ l[k].1 _ l[k].2 _ hw hva).mono ?_
    rw [HR.out]
    rintro e w2 ⟨rfl, hb2⟩
    have hb2' := hbl.trans (hb2.mono hbl.size)
    have hE := (hb2'.cell (p := ⟨0, 0, none⟩) hl4).trans hV4
    go_wp2
    go_ret
    rw [HWA.out]
    exact ⟨rfl, hb2'⟩
end Go.Proofs.YtphdagmaamcapaaDoor
