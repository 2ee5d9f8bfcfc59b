/-
  The law on the strips that are made of clusters: the walk returns true and leaves the memory that was there as it was.
-/
import Derived.Test.YthjddpflcgcpiaaCell6
import Derived.Test.YthjddpflcgcpiaaCell2
import Derived.Test.YthjddpflcgcpiaaCell3
namespace Go.Proofs.Ythjddpflcgcpiaa
open Go.RowKit
set_option linter.unusedVariables false
set_option linter.unusedSimpArgs false

theorem all_valid (l : List Int) : (l.map replF).all validB = true := by
  rw [List.all_eq_true]; intro x hx
  obtain ⟨y, _, rfl⟩ := List.mem_map.1 hx
  exact replF_valid y
theorem right_of (l : List Int) (k : Int) (hk : k = 1 ∨ k = 2) (hl : l.length ≠ 0) : rightB (k, (l.take 16).map replF) = true := by
  unfold rightB
  rw [if_neg (by simp only; omega), if_pos (by simpa using hk), all_valid, Bool.and_true, decide_eq_true]
  simp; omega
theorem sound_of_append (wide : Int) (t : List Int) (l : List CellV) : soundB (ofF wide t ++ l) = soundB l := by
  unfold ofF soundB
  have hb : rightB (0, []) = true := by decide
  have h3 : rightB (3, []) = true := by decide
  by_cases h : t.length = 0
  · rw [if_pos h]
    by_cases hw : 1 < wide
    · rw [if_pos hw]; simp [soundG, hb]
    · rw [if_neg hw]; simp [soundG, hb]
  · rw [if_neg h]
    by_cases hw : 1 < wide
    · rw [if_pos hw]; have r2 := right_of t 2 (.inr rfl) h; generalize (t.take 16).map replF = T at *; simp [soundG, r2, h3]
    · rw [if_neg hw]; have r1 := right_of t 1 (.inl rfl) h; generalize (t.take 16).map replF = T at *; simp [soundG, r1]
theorem sound_of (wide : Int) (t : List Int) : soundB (ofF wide t) = true := by
  have := sound_of_append wide t []
  rw [List.append_nil] at this
  rw [this]; rfl
theorem sound_blanks : ∀ n, soundB (List.replicate n (0, [])) = true
  | 0 => rfl
  | n + 1 => by
    have ih := sound_blanks n
    unfold soundB at *
    rw [List.replicate_succ]
    simp only [soundG]
    rw [show decide ((0 : Int) = 2) = false by decide, ih]
    decide
theorem text_blanks (n : Nat) : (List.replicate n ((0, []) : CellV)).flatMap Prod.snd = [] := by
  induction n with
  | zero => rfl
  | succ n ih => rw [List.replicate_succ, List.flatMap_cons, ih]; rfl

set_option maxHeartbeats 1000000 in
theorem works23_ok (w : World) :
    Calls Try.prog 5 #[] w fun e w' => e = .returned (.bool true) ∧ Below w.heap.size w w' := by
  have hof : ofF 2 [19968] = [(2, [19968]), (3, [])] := by decide
  have s1 : soundB [(2, [19968]), (3, [])] = true := by decide
  have s2 : soundB [(3, [])] = false := by decide
  have s3 : soundB [(2, [19968])] = false := by decide
  have s4 : rightB (0, []) = true := by decide
  have s5 : blanksN 3 = 3 := by decide
  have HOF := hide hof
  have H1 := hide s1
  have H2 := hide s2
  have H3 := hide s3
  have H4 := hide s4
  have H5 := hide s5
  clear hof s1 s2 s3 s4 s5
  go_enter Try.func5, Try.ntmps5
  go_wp2_with fail
  have ho := own_i32 w [19968] (by decide) w.heap.size w.heap.size 1 (Nat.le_refl _) rfl rfl (by simp [maxLen])
  refine (Of_ok _ _ _ [19968] 2 _ (by decide) ho.islc (by simp)).mono ?_
  rw [HOF.out]
  rintro e w1 ⟨v1, rfl, hv1, hb1⟩
  have hb1' : Below w.heap.size w w1 := ((Below.refl _ w).alloc (Nat.le_refl _) _).trans (hb1.mono (by simp))
  have hz1 := hb1'.size
  obtain ⟨g, cap, xs, rest, rfl, hgb, hblk, _, hels, _, hcap, hcm⟩ := own_open hv1 (by simp)
  obtain ⟨v, v', rfl, hs, hs'⟩ := els_cell2_inv hels
  obtain ⟨A, c, rfl, hc1, hc2, _⟩ := hs.open_
  obtain ⟨A', c', rfl, hc1', hc2', _⟩ := hs'.open_
  simp only [List.cons_append, List.nil_append] at hblk
  have c0 := hblk.cell 0
  have c1 := hblk.cell 1
  have c2 := hblk.cell 2
  have c3 := hblk.cell 3
  simp only [List.getElem?_toArray, List.getElem?_cons_succ, List.getElem?_cons_zero] at c0 c1 c2 c3
  go_wp2_with fail
  refine (Sound_ok _ _ _ _ _ hv1.slc).mono ?_
  rw [H1.out]
  rintro e w2 ⟨rfl, hb2⟩
  have hb2' := hb1'.trans (hb2.mono hz1)
  have hz2 := hb2'.size
  have hblk2 := hblk.same hb2
  have d0 := hblk2.cell 0
  have d1 := hblk2.cell 1
  have d2 := hblk2.cell 2
  have d3 := hblk2.cell 3
  simp only [List.getElem?_toArray, List.getElem?_cons_succ, List.getElem?_cons_zero] at d0 d1 d2 d3
  clear c0 c1 c2 c3
  have hs2 := hs.mono (Keep.below hb2) (Keep.below hb2)
  have hs2' := hs'.mono (Keep.below hb2) (Keep.below hb2)
  go_wp2_with fail
  refine (Sound_ok _ _ _ [(3, [])] _ (Slc.lit1 (R := RCell) 38 (cell_E (by decide) hs2') (Keep.alloc _ _ _))).mono ?_
  rw [H2.out]
  rintro e w3 ⟨rfl, hb3⟩
  have hz3 := hb3.size
  have hb3' := (hb2'.alloc hz2 _).trans (hb3.mono (by simp; omega))
  have hz3' := hb3'.size
  have hblk3 := (hblk2.alloc (.cells #[.int .i64 3, .slice A' ([] : List Int).length c'] 38)).same hb3
  have e0 := hblk3.cell 0
  have e1 := hblk3.cell 1
  simp only [List.getElem?_toArray, List.getElem?_cons_succ, List.getElem?_cons_zero] at e0 e1
  clear d0 d1 d2 d3
  have hs3 := (hs2.ints_keep (Keep.alloc _ w2 (.cells #[.int .i64 3, .slice A' ([] : List Int).length c'] 38))).ints_keep (Keep.below hb3)
  go_wp2_with fail
  refine (Sound_ok _ _ _ [(2, [19968])] _ (Slc.lit1 (R := RCell) 38 (cell_E (by decide) (hs3.ints_any _)) (Keep.alloc _ _ _))).mono ?_
  rw [H3.out]
  rintro e w4 ⟨rfl, hb4⟩
  have hb4' := (hb3'.alloc hz3' _).trans (hb4.mono (by simp; omega))
  have hz4' := hb4'.size
  go_wp2_with fail
  refine (Blanks_ok 3 (by decide) _).mono ?_
  rw [H5.out]
  rintro e w5 ⟨v5, rfl, hv5, hb5⟩
  obtain ⟨A5, c5, rfl, _, _, _⟩ := hv5.slc.open_
  have hb5' := hb4'.trans (hb5.mono hz4')
  go_wp2_with fail
  refine (Right_ok (fun _ => False) (fun _ => False) 0 _ [] _ (by decide) Slc.nil_).mono ?_
  rw [H4.out]
  rintro e w6 ⟨rfl, hb6⟩
  go_wp2
  go_ret
  exact ⟨rfl, hb5'.trans (hb6.mono hb5'.size)⟩

/-- What a law on strips is asked with: a width, numbers, a number. -/
def RMake : Rep (Int × List Int × Int) := Rep.pair (Rep.int .i64) (Rep.pair (Rep.slice (Rep.int .i32)) (Rep.int .i64))

set_option maxHeartbeats 2000000 in
theorem walk_CellMakes (cs : Array Value) (x : Int × List Int × Int) (q : Value) (l : List CellV) (w : World) (hm : RMake.E (fun b => b < w.heap.size) w cs.toList x) (hq : Slc RCell (fun b => b < w.heap.size) (fun b => b < w.heap.size) w q l) :
    Calls Try.prog 3 #[.agg cs, q] w fun e w' => e = .returned (.bool true) ∧ Below w.heap.size w w' := by
  obtain ⟨wide, t, n⟩ := x
  obtain ⟨u1, u2, hcs, ⟨rfl, hwd⟩, u3, u4, rfl, ⟨tv, rfl, ht⟩, ⟨rfl, hn⟩⟩ := hm
  have hcs2 : cs = #[.int .i64 wide, tv, .int .i64 n] := Array.toList_inj.1 hcs
  subst hcs2
  clear hcs
  simp only at hwd ht hn ⊢
  obtain ⟨A, c, rfl, hc1, hc2, hB⟩ := ht.open_
  obtain ⟨D, d, rfl, hd1, hd2, hD⟩ := hq.open_
  obtain ⟨hn0, hn1⟩ := i64_wf hn
  by_cases hlt : t.length ≤ 300
  · have ht2 : decide ((300 : Int) < (t.length : Int)) = false := by simp; omega
    by_cases hll : l.length ≤ 300
    · have hl2 : decide ((300 : Int) < (l.length : Int)) = false := by simp; omega
      go_enter Try.func3, Try.ntmps3
      go_wp2
      go_quiet (fail)
      go_wp2_with fail
      refine (works23_ok _).mono ?_
      rintro e w1 ⟨rfl, hb1⟩
      have hb1' : Below w.heap.size w w1 := (below_drewN ((Below.refl _ w).alloc (Nat.le_refl _) _) nq).trans (hb1.mono (by simp))
      have hz1 := hb1'.size
      have hown0 : Own (Rep.int .i32) 21 [] w1.heap.size (w1.alloc (.cells #[] 21)) (.slice (some ⟨w1.heap.size, 0, none⟩) 0 0) [] := own_i32 w1 [] (by simp) w1.heap.size w1.heap.size 0 (Nat.le_refl _) rfl rfl (by simp [maxLen])
      have ht1 := ht.ints_keep (Keep.below (S := fun b => b < w.heap.size) (hb1'.alloc hz1 (.cells #[] 21)))
      go_wp2_with (at_builtin; refine wpList_appi rfl (.tmp 31) (.tmp 32) 22 rfl .i32 21 w1.heap.size 4 Try.underlying22 i32_info (by decide) _ _ rfl hown0 _ _ _ _ rfl ht1 (by simp; omega) (by simp) ?_; intro v2 w2 hv2 hst2; rw [List.nil_append] at hv2)
      have hb2 : Below w1.heap.size w1 w2 := ((Step.alloc1 w1.heap.size [21] w1 _).trans hst2).below (Nat.le_refl _)
      have hb2' := hb1'.trans (hb2.mono hz1)
      have hz2 := hb2'.size
      refine (Of_ok _ _ _ t wide _ hwd hv2.islc (by omega)).mono ?_
      rintro e w3 ⟨v3, rfl, hv3, hb3⟩
      have hb3' := hb2'.trans (hb3.mono hz2)
      have hz3 := hb3'.size
      have hz3w := hb3.size
      have hv2 := hv2.below hb3
      have ht3 := ht.ints_keep (Keep.below (S := fun b => b < w.heap.size) hb3')
      go_wp2_with fail
      refine (rOf_ok _ _ _ t wide _ hwd ht3 (by omega)).mono ?_
      rintro e w4 ⟨v4, rfl, hv4, hb4⟩
      have hb4' := hb3'.trans (hb4.mono hz3)
      have hz4 := hb4'.size
      have hz4w := hb4.size
      have hv2 := hv2.below hb4
      have hv3 := hv3.below hb4
      go_wp2_with fail
      refine (rSame23_ok _ _ _ _ _ _ _ _ _ hv3.slc hv4.slc).mono ?_
      rintro e w5 ⟨rfl, n5, rfl⟩
      rw [decide_eq_true rfl]
      have hv2 := hv2.drewN n5
      have hv3 := hv3.drewN n5
      have hb5' := below_drewN hb4' n5
      go_wp2_with fail
      refine (Sound_ok _ _ _ _ _ hv3.slc).mono ?_
      rw [sound_of]
      rintro e w6 ⟨rfl, hb6⟩
      have hb6' := hb5'.trans (hb6.mono hz4)
      have hz6 := hb6'.size
      have hz6w := hb6.size
      have hv2 := hv2.below hb6
      have hv3 := hv3.below hb6
      have ht6 := ht.ints_keep (Keep.below (S := fun b => b < w.heap.size) hb6')
      go_wp2_with fail
      refine (Same_ok _ _ _ _ _ _ t t _ hv2.islc ht6).mono ?_
      rintro e w7 ⟨rfl, n7, rfl⟩
      rw [decide_eq_true rfl]
      have hv3 := hv3.drewN n7
      have hb7' := below_drewN hb6' n7
      go_wp2_with fail
      refine (Blanks_ok n hn _).mono ?_
      rintro e w8 ⟨v8, rfl, hv8, hb8⟩
      have hb8' := hb7'.trans (hb8.mono hz6)
      have hz8 := hb8'.size
      have hz8w := hb8.size
      have hv3 := hv3.below hb8
      have hbn : n ≤ 0 ∧ blanksN n = 0 ∨ (0 < n ∧ n ≤ 1024) ∧ n = blanksN n ∨ 1024 < n ∧ blanksN n = 1024 := by unfold blanksN; omega
      have hbk : blanksN n ≤ 1024 := by unfold blanksN; omega
      generalize hbb : blanksN n = bn at *
      have hlr : (List.replicate bn ((0, []) : CellV)).length = bn := List.length_replicate
      have hS := fun So Si x w hx => rSound_ok So Si x (List.replicate bn (0, [])) w hx (by rw [hlr]; omega)
      have hX := fun So Si x w hx => Text_ok So Si x (List.replicate bn (0, [])) w hx (by rw [text_blanks]; simp)
      rw [sound_blanks] at hS
      rw [text_blanks] at hX
      have hsl8 := hv8.slc
      obtain ⟨A8, c8, rfl, _, _, _⟩ := hv8.slc.open_
      generalize List.replicate bn ((0, []) : CellV) = bl at *
      have HS := hide hS
      have HX := hide hX
      have HLR := hide hlr
      clear hS hX hlr hbb
      rcases hbn with ⟨h1, rfl⟩ | ⟨⟨h1, h2⟩, rfl⟩ | ⟨h1, rfl⟩
      all_goals
        have hlr := HLR.out
        rw [hlr] at hsl8 ⊢
        clear hlr
        go_wp2_with fail
        refine (HS.out _ _ _ _ hsl8).mono ?_
        rintro e w9 ⟨rfl, hb9⟩
        have hb9' := hb8'.trans (hb9.mono hz8)
        have hz9 := hb9'.size
        have hz9w := hb9.size
        have hv3 := hv3.below hb9
        go_wp2_with fail
        refine (HX.out _ _ _ _ (hsl8.mono (Keep.below hb9) (Keep.below hb9))).mono ?_
        rintro e w10 ⟨v10, rfl, hv10, hb10⟩
        have hb10' := hb9'.trans (hb10.mono hz9)
        have hz10 := hb10'.size
        have hz10w := hb10.size
        have hv3 := hv3.below hb10
        obtain ⟨A10, c10, rfl, _, _, _⟩ := hv10.islc.open_
        have hown0 : Own RCell 38 [21] w10.heap.size (w10.alloc (.cells #[] 38)) (.slice (some ⟨w10.heap.size, 0, none⟩) 0 0) [] := Own.lit (l := []) (xs := []) (by decide) rfl (Nat.le_refl _) rfl (by simp [maxLen])
        have hx10 := (hv3.alloc (.cells #[] 38)).slc
        have hq10 := hq.mono (Keep.below (S := fun b => b < w.heap.size) (hb10'.alloc hz10 (.cells #[] 38))) (Keep.below (S := fun b => b < w.heap.size) (hb10'.alloc hz10 (.cells #[] 38)))
        have hofl : (ofF wide t).length ≤ 2 := by unfold ofF; split <;> split <;> simp
        have hz2w : w2.heap.size ≤ w10.heap.size := by simp at hz6w hz8w; omega
        go_wp2_with (first
          | (at_builtin; refine wpList_appg rfl (.tmp 73) (.tmp 74) 25 rfl RCell 38 [21] w10.heap.size 32 _ Try.underlying25 cell_info rfl (by decide) (by decide) _ _ rfl hown0 _ _ _ _ rfl hx10 (Typed.more hz2w (fun _ h => h)) (by simp; omega) (by simp) ?_; intro v11 w11 hv11 hst11 hg11 hob11; rw [List.nil_append] at hv11; have hq11 := hq10.mono (Keep.old (S := fun b => b < w.heap.size) hst11 (fun b h => by omega)) (Keep.old (S := fun b => b < w.heap.size) hst11 (fun b h => by omega)); have hz11 := hst11.size)
          | (at_builtin; refine wpList_appg rfl (.tmp 75) (.tmp 76) 25 rfl RCell 38 [21] w10.heap.size 32 _ Try.underlying25 cell_info rfl (by decide) (by decide) _ _ rfl hv11 _ _ _ _ rfl hq11 (fun b h => .inl (by omega)) (by omega) (by simp at hz11; omega) ?_; intro v12 w12 hv12 hst12 hg12 hob12))
        have hb12 : Below w10.heap.size w10 w12 := (((Step.alloc1 w10.heap.size [38] w10 _).trans hst11).trans hst12).below (Nat.le_refl _)
        have hb12' := hb10'.trans (hb12.mono hz10)
        have hz12 := hb12'.size
        refine (Sound_ok _ _ _ _ _ hv12.slc).mono ?_
        rw [sound_of_append]
        rintro e w13 ⟨rfl, hb13⟩
        have hb13' := hb12'.trans (hb13.mono hz12)
        have hq13 := hq.mono (Keep.below (S := fun b => b < w.heap.size) hb13') (Keep.below (S := fun b => b < w.heap.size) hb13')
        go_wp2_with fail
        refine (rSound_ok _ _ _ l _ hq13 (by omega)).mono ?_
        rintro e w14 ⟨rfl, hb14⟩
        have hss : (soundB l == soundB l) = true := by simp
        go_wp2
        go_ret
        exact ⟨rfl, hb13'.trans (hb14.mono hb13'.size)⟩
    · have hl2 : decide ((300 : Int) < (l.length : Int)) = true := by simp; omega
      go_enter Try.func3, Try.ntmps3
      go_wp2
      go_quiet (fail)
      go_wp2_with fail
      refine (works23_ok _).mono ?_
      rintro e w1 ⟨rfl, hb1⟩
      have hb1' : Below w.heap.size w w1 := (below_drewN ((Below.refl _ w).alloc (Nat.le_refl _) _) nq).trans (hb1.mono (by simp))
      go_wp2_with fail
      refine (works23_ok _).mono ?_
      rintro e w2 ⟨rfl, hb2⟩
      go_wp2
      go_ret
      exact ⟨rfl, hb1'.trans (hb2.mono hb1'.size)⟩
  · have ht2 : decide ((300 : Int) < (t.length : Int)) = true := by simp; omega
    go_enter Try.func3, Try.ntmps3
    go_wp2
    go_quiet (fail)
    go_wp2_with fail
    refine (works23_ok _).mono ?_
    rintro e w1 ⟨rfl, hb1⟩
    have hb1' : Below w.heap.size w w1 := (below_drewN ((Below.refl _ w).alloc (Nat.le_refl _) _) nq).trans (hb1.mono (by simp))
    go_wp2_with fail
    refine (works23_ok _).mono ?_
    rintro e w2 ⟨rfl, hb2⟩
    go_wp2
    go_ret
    exact ⟨rfl, hb1'.trans (hb2.mono hb1'.size)⟩
end Go.Proofs.Ythjddpflcgcpiaa
