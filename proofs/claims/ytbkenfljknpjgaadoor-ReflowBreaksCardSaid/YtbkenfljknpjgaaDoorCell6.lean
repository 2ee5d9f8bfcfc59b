/-
  What the program's function that makes a cluster's strip returns.
-/
import Derived.Test.YtbkenfljknpjgaaDoorCell5
namespace Go.Proofs.YtbkenfljknpjgaaDoor
open Go.RowKit
set_option linter.unusedVariables false
set_option linter.unusedSimpArgs false

theorem els_cell2_inv {S : Nat → Prop} {w : World} {k k' : Int} {t t' : List Int} {xs : List Value} (h : Els RCell S w [(k, t), (k', t')] xs) :
    ∃ v v', xs = [.int .i64 k, v, .int .i64 k', v'] ∧ Slc (Rep.int .i32) S S w v t ∧ Slc (Rep.int .i32) S S w v' t' := by
  obtain ⟨u, xs1, rfl, ⟨a1, a2, rfl, ⟨rfl, _⟩, v, rfl, hv⟩, u', xs2, rfl, ⟨b1, b2, rfl, ⟨rfl, _⟩, v', rfl, hv'⟩, rfl⟩ := h
  exact ⟨v, v', rfl, hv, hv'⟩
theorem bear1 {w : World} {g : Nat} {t : TypeId} {cs : Array Value} (h : Blk w g t cs) : Bears [t] w g := h.bears

set_option maxHeartbeats 2000000 in
theorem Of_ok (So Si : Nat → Prop) (x : Value) (l : List Int) (wide : Int) (w : World) (hwd : (Lit.int .i64 wide).wf = true) (hx : Slc (Rep.int .i32) So Si w x l) (hlen : l.length ≤ 100000) :
    Calls Tryd.prog 63 #[.int .i64 wide, x] w fun e w' => ∃ v, e = .returned v ∧ Own RCell 74 [21] w.heap.size w' v (ofF wide l) ∧ Below w.heap.size w w' := by
  obtain ⟨A1, c1, rfl, hd1, hd2, hB1⟩ := hx.open_
  have hmin : ∃ m : Nat, m = min l.length 16 ∧ m ≤ l.length ∧ l.take m = l.take 16 := by
    refine ⟨min l.length 16, rfl, by omega, ?_⟩
    by_cases hh : 16 ≤ l.length
    · rw [Nat.min_eq_right hh]
    · rw [Nat.min_eq_left (by omega), List.take_of_length_le (by omega), List.take_of_length_le (by omega)]
  obtain ⟨m, hm, hml, hmt⟩ := hmin
  by_cases hwide : 1 < wide
  · have hw2 : (2 : Int) ≤ wide := by omega
    have hO1 : Own RCell 74 [21] w.heap.size (w.alloc (.cells #[.int .i64 0, .slice none 0 0] 74)) (.slice (some ⟨w.heap.size, 0, none⟩) 1 1) [(0, [])] :=
      Own.lit (by decide) (els_cell1 (by decide) Slc.nil_) (Nat.le_refl _) rfl (by simp [maxLen])
    have hO2 := hO1.alloc (.cells #[.int .i64 0, .slice none 0 0] 74)
    have hS2 : Slc RCell (fun b => b < ((w.alloc (.cells #[.int .i64 0, .slice none 0 0] 74)).alloc (.cells #[.int .i64 0, .slice none 0 0] 74)).heap.size) (fun _ => False) ((w.alloc (.cells #[.int .i64 0, .slice none 0 0] 74)).alloc (.cells #[.int .i64 0, .slice none 0 0] 74)) (.slice (some ⟨(w.alloc (.cells #[.int .i64 0, .slice none 0 0] 74)).heap.size, 0, none⟩) 1 1) [(0, [])] :=
      (Slc.lit1 (R := RCell) (Si := fun _ => False) (Si' := fun _ => False) 74 (cell_E (by decide) Slc.nil_) (fun _ _ h _ => h.elim)).mono (Keep.lt _ _) (Keep.refl _ _)
    simp only [World.size_alloc] at hS2
    by_cases hz : l.length = 0
    · skip
      have hof : ofF wide l = [(0, []), (0, [])] := by unfold ofF; rw [if_pos hz, if_pos hwide]
      have HOF := hide hof
      have hzi : ((l.length : Int) == 0) = true := by simp [hz]
      clear hof hz
      go_enter Tryd.func63, Tryd.ntmps63
      go_wp2_with (at_builtin; refine wpList_appg rfl (.tmp 10) (.tmp 12) 23 rfl RCell 74 [21] w.heap.size 32 _ Tryd.underlying23 cell_info rfl (by decide) (by decide) _ _ rfl hO2 _ _ _ _ rfl hS2 (fun _ h => h.elim) (by simp) (by simp; omega) ?_; intro v3 w3 hv3 hst3 hg3 hob3)
      go_ret
      rw [HOF.out]
      exact ⟨_, rfl, hv3, (((Below.refl _ w).alloc (Nat.le_refl _) _).alloc (by simp) _).trans (hst3.below (by simp <;> omega))⟩
    · skip
      by_cases h16 : l.length ≤ 16
      · obtain rfl : m = l.length := by omega
        clear hm
        have hof : ofF wide l = [(2, (l.take 16).map replF), (3, [])] := by unfold ofF; rw [if_neg hz, if_pos hwide]
        rw [← hmt] at hof
        have HOF := hide hof
        have hzi : ((l.length : Int) == 0) = false := by simpa using hz
        clear hof hz
        go_enter Tryd.func63, Tryd.ntmps63
        go_wp2_with (at_builtin; refine wpList_appg rfl (.tmp 10) (.tmp 12) 23 rfl RCell 74 [21] w.heap.size 32 _ Tryd.underlying23 cell_info rfl (by decide) (by decide) _ _ rfl hO2 _ _ _ _ rfl hS2 (fun _ h => h.elim) (by simp) (by simp; omega) ?_; intro v3 w3 hv3 hst3 hg3 hob3)
        have hb3 : Below w.heap.size w w3 := (((Below.refl _ w).alloc (Nat.le_refl _) _).alloc (by simp) _).trans (hst3.below (by simp <;> omega))
        have hz3 := hb3.size
        have hx3 := (hx.ints_keep (Keep.below (S := So) hb3)).front (k := l.length) (by omega)
        obtain ⟨g, cap, xs, rest, rfl, hgb, hblk, _, hels, hsz3, hcap, hcm⟩ := own_open hv3 (by simp)
        obtain ⟨s0, s1, rfl, hs0, hs1⟩ := els_cell2_inv hels
        obtain ⟨B1, d1, rfl, _, _, _⟩ := hs1.open_
        simp only [List.cons_append, List.nil_append] at hblk
        have hglt := hblk.lt
        refine (Replace_ok _ _ _ (l.take l.length) _ hx3 (by rw [List.length_take]; omega)).mono ?_
        rintro e w4 ⟨v4, rfl, hv4, hb4⟩
        generalize hTT : (l.take l.length).map replF = T at *
        clear hTT
        have hz4 := hb4.size
        have hblk4 := hblk.same hb4
        have c0 := hblk4.cell 0
        have c1' := hblk4.cell 1
        have c2 := hblk4.cell 2
        have c3 := hblk4.cell 3
        simp only [List.getElem?_toArray, List.getElem?_cons_succ, List.getElem?_cons_zero] at c0 c1' c2 c3
        have f0 := hblk4.frozen 0
        have f1 := hblk4.frozen 1
        have f2 := hblk4.frozen 2
        have h5 := hblk4.set_ 0 (.int .i64 1)
        have h6 := h5.set_ 1 v4
        have h7 := h6.set_ 0 (.int .i64 2)
        have h8 := h7.set_ 2 (.int .i64 3)
        have hst : Step w.heap.size [74] w4 _ := ((((Step.refl w.heap.size [74] w4).setCell (p := ⟨g, 0, none⟩) hgb hblk4.bears (.int .i64 1)).setCell (p := ⟨g, 1, none⟩) hgb h5.bears v4).setCell (p := ⟨g, 0, none⟩) hgb h6.bears (.int .i64 2)).setCell (p := ⟨g, 2, none⟩) hgb h7.bears (.int .i64 3)
        have hb8 := (hb3.trans (hb4.mono hz3)).trans (hst.below (Nat.le_trans hz3 hz4))
        have hv8 := hv4.ints_step hst (by decide)
        simp only [List.setIfInBounds_toArray, List.set_cons_zero, List.set_cons_succ] at h8
        have hO : Own RCell 74 [21] w.heap.size _ (.slice (some ⟨g, 0, none⟩) 2 cap) [(2, T), (3, [])] :=
          own_shut (xs := [.int .i64 2, v4, .int .i64 3, .slice B1 0 d1]) (by decide) hgb h8 (els_cell2 (by decide) (own_typed hv8 _) (by decide) (Slc.empty_ B1 d1 (by simp [maxLen]; omega))) rfl hsz3 hcap hcm
        obtain ⟨A4, c4, rfl, _, _, _⟩ := hv4.islc.open_
        go_wp2
        go_ret
        rw [HOF.out]
        exact ⟨_, rfl, hO, hb8⟩
      · obtain rfl : m = 16 := by omega
        clear hm
        have h17 : (16 : Int) < l.length := by omega
        have hof : ofF wide l = [(2, (l.take 16).map replF), (3, [])] := by unfold ofF; rw [if_neg hz, if_pos hwide]
        rw [← hmt] at hof
        have HOF := hide hof
        have hzi : ((l.length : Int) == 0) = false := by simpa using hz
        clear hof hz
        go_enter Tryd.func63, Tryd.ntmps63
        go_wp2_with (at_builtin; refine wpList_appg rfl (.tmp 10) (.tmp 12) 23 rfl RCell 74 [21] w.heap.size 32 _ Tryd.underlying23 cell_info rfl (by decide) (by decide) _ _ rfl hO2 _ _ _ _ rfl hS2 (fun _ h => h.elim) (by simp) (by simp; omega) ?_; intro v3 w3 hv3 hst3 hg3 hob3)
        have hb3 : Below w.heap.size w w3 := (((Below.refl _ w).alloc (Nat.le_refl _) _).alloc (by simp) _).trans (hst3.below (by simp <;> omega))
        have hz3 := hb3.size
        have hx3 := (hx.ints_keep (Keep.below (S := So) hb3)).front (k := 16) (by omega)
        obtain ⟨g, cap, xs, rest, rfl, hgb, hblk, _, hels, hsz3, hcap, hcm⟩ := own_open hv3 (by simp)
        obtain ⟨s0, s1, rfl, hs0, hs1⟩ := els_cell2_inv hels
        obtain ⟨B1, d1, rfl, _, _, _⟩ := hs1.open_
        simp only [List.cons_append, List.nil_append] at hblk
        have hglt := hblk.lt
        refine (Replace_ok _ _ _ (l.take 16) _ hx3 (by rw [List.length_take]; omega)).mono ?_
        rintro e w4 ⟨v4, rfl, hv4, hb4⟩
        generalize hTT : (l.take 16).map replF = T at *
        clear hTT
        have hz4 := hb4.size
        have hblk4 := hblk.same hb4
        have c0 := hblk4.cell 0
        have c1' := hblk4.cell 1
        have c2 := hblk4.cell 2
        have c3 := hblk4.cell 3
        simp only [List.getElem?_toArray, List.getElem?_cons_succ, List.getElem?_cons_zero] at c0 c1' c2 c3
        have f0 := hblk4.frozen 0
        have f1 := hblk4.frozen 1
        have f2 := hblk4.frozen 2
        have h5 := hblk4.set_ 0 (.int .i64 1)
        have h6 := h5.set_ 1 v4
        have h7 := h6.set_ 0 (.int .i64 2)
        have h8 := h7.set_ 2 (.int .i64 3)
        have hst : Step w.heap.size [74] w4 _ := ((((Step.refl w.heap.size [74] w4).setCell (p := ⟨g, 0, none⟩) hgb hblk4.bears (.int .i64 1)).setCell (p := ⟨g, 1, none⟩) hgb h5.bears v4).setCell (p := ⟨g, 0, none⟩) hgb h6.bears (.int .i64 2)).setCell (p := ⟨g, 2, none⟩) hgb h7.bears (.int .i64 3)
        have hb8 := (hb3.trans (hb4.mono hz3)).trans (hst.below (Nat.le_trans hz3 hz4))
        have hv8 := hv4.ints_step hst (by decide)
        simp only [List.setIfInBounds_toArray, List.set_cons_zero, List.set_cons_succ] at h8
        have hO : Own RCell 74 [21] w.heap.size _ (.slice (some ⟨g, 0, none⟩) 2 cap) [(2, T), (3, [])] :=
          own_shut (xs := [.int .i64 2, v4, .int .i64 3, .slice B1 0 d1]) (by decide) hgb h8 (els_cell2 (by decide) (own_typed hv8 _) (by decide) (Slc.empty_ B1 d1 (by simp [maxLen]; omega))) rfl hsz3 hcap hcm
        obtain ⟨A4, c4, rfl, _, _, _⟩ := hv4.islc.open_
        go_wp2
        go_ret
        rw [HOF.out]
        exact ⟨_, rfl, hO, hb8⟩
  · have hw2 : ¬ (2 : Int) ≤ wide := by omega
    have hO1 : Own RCell 74 [21] w.heap.size (w.alloc (.cells #[.int .i64 0, .slice none 0 0] 74)) (.slice (some ⟨w.heap.size, 0, none⟩) 1 1) [(0, [])] :=
      Own.lit (by decide) (els_cell1 (by decide) Slc.nil_) (Nat.le_refl _) rfl (by simp [maxLen])
    by_cases hz : l.length = 0
    · skip
      have hof : ofF wide l = [(0, [])] := by unfold ofF; rw [if_pos hz, if_neg hwide]
      have HOF := hide hof
      have hzi : ((l.length : Int) == 0) = true := by simp [hz]
      clear hof hz
      go_enter Tryd.func63, Tryd.ntmps63
      go_wp2
      go_ret
      rw [HOF.out]
      exact ⟨_, rfl, hO1, (Below.refl _ w).alloc (Nat.le_refl _) _⟩
    · skip
      by_cases h16 : l.length ≤ 16
      · obtain rfl : m = l.length := by omega
        clear hm
        have hof : ofF wide l = [(1, (l.take 16).map replF)] := by unfold ofF; rw [if_neg hz, if_neg hwide]
        rw [← hmt] at hof
        have HOF := hide hof
        have hzi : ((l.length : Int) == 0) = false := by simpa using hz
        clear hof hz
        have hb3 : Below w.heap.size w (w.alloc (.cells #[.int .i64 0, .slice none 0 0] 74)) := (Below.refl _ w).alloc (Nat.le_refl _) _
        have hx3 := (hx.ints_keep (Keep.below (S := So) hb3)).front (k := l.length) (by omega)
        have hblk := Blk.new w 74 #[.int .i64 0, .slice none 0 0]
        go_enter Tryd.func63, Tryd.ntmps63
        go_wp2_with fail
        refine (Replace_ok _ _ _ (l.take l.length) _ hx3 (by rw [List.length_take]; omega)).mono ?_
        rintro e w4 ⟨v4, rfl, hv4, hb4⟩
        generalize hTT : (l.take l.length).map replF = T at *
        clear hTT
        have hz4 := hb4.size
        have hblk4 := hblk.same hb4
        have c0 := hblk4.cell 0
        have c1' := hblk4.cell 1
        simp only [List.getElem?_toArray, List.getElem?_cons_succ, List.getElem?_cons_zero] at c0 c1'
        have f0 := hblk4.frozen 0
        have f1 := hblk4.frozen 1
        have hglt := hblk4.lt
        have h5 := hblk4.set_ 0 (.int .i64 1)
        have h6 := h5.set_ 1 v4
        have hst : Step w.heap.size [74] w4 _ := ((Step.refl w.heap.size [74] w4).setCell (p := ⟨w.heap.size, 0, none⟩) (Nat.le_refl _) hblk4.bears (.int .i64 1)).setCell (p := ⟨w.heap.size, 1, none⟩) (Nat.le_refl _) h5.bears v4
        have hb8 := (hb3.trans (hb4.mono (by simp))).trans (hst.below (by simp at hz4; omega))
        have hv8 := hv4.ints_step hst (by decide)
        simp only [List.setIfInBounds_toArray, List.set_cons_zero, List.set_cons_succ] at h6
        have hO : Own RCell 74 [21] w.heap.size _ (.slice (some ⟨w.heap.size, 0, none⟩) 1 1) [(1, T)] :=
          own_shut (rest := []) (xs := [.int .i64 1, v4]) (by decide) (Nat.le_refl _) h6 (els_cell1 (by decide) (own_typed hv8 _)) rfl rfl (Nat.le_refl _) (by simp [maxLen])
        obtain ⟨A4, c4, rfl, _, _, _⟩ := hv4.islc.open_
        go_wp2
        go_ret
        rw [HOF.out]
        exact ⟨_, rfl, hO, hb8⟩
      · obtain rfl : m = 16 := by omega
        clear hm
        have h17 : (16 : Int) < l.length := by omega
        have hof : ofF wide l = [(1, (l.take 16).map replF)] := by unfold ofF; rw [if_neg hz, if_neg hwide]
        rw [← hmt] at hof
        have HOF := hide hof
        have hzi : ((l.length : Int) == 0) = false := by simpa using hz
        clear hof hz
        have hb3 : Below w.heap.size w (w.alloc (.cells #[.int .i64 0, .slice none 0 0] 74)) := (Below.refl _ w).alloc (Nat.le_refl _) _
        have hx3 := (hx.ints_keep (Keep.below (S := So) hb3)).front (k := 16) (by omega)
        have hblk := Blk.new w 74 #[.int .i64 0, .slice none 0 0]
        go_enter Tryd.func63, Tryd.ntmps63
        go_wp2_with fail
        refine (Replace_ok _ _ _ (l.take 16) _ hx3 (by rw [List.length_take]; omega)).mono ?_
        rintro e w4 ⟨v4, rfl, hv4, hb4⟩
        generalize hTT : (l.take 16).map replF = T at *
        clear hTT
        have hz4 := hb4.size
        have hblk4 := hblk.same hb4
        have c0 := hblk4.cell 0
        have c1' := hblk4.cell 1
        simp only [List.getElem?_toArray, List.getElem?_cons_succ, List.getElem?_cons_zero] at c0 c1'
        have f0 := hblk4.frozen 0
        have f1 := hblk4.frozen 1
        have hglt := hblk4.lt
        have h5 := hblk4.set_ 0 (.int .i64 1)
        have h6 := h5.set_ 1 v4
        have hst : Step w.heap.size [74] w4 _ := ((Step.refl w.heap.size [74] w4).setCell (p := ⟨w.heap.size, 0, none⟩) (Nat.le_refl _) hblk4.bears (.int .i64 1)).setCell (p := ⟨w.heap.size, 1, none⟩) (Nat.le_refl _) h5.bears v4
        have hb8 := (hb3.trans (hb4.mono (by simp))).trans (hst.below (by simp at hz4; omega))
        have hv8 := hv4.ints_step hst (by decide)
        simp only [List.setIfInBounds_toArray, List.set_cons_zero, List.set_cons_succ] at h6
        have hO : Own RCell 74 [21] w.heap.size _ (.slice (some ⟨w.heap.size, 0, none⟩) 1 1) [(1, T)] :=
          own_shut (rest := []) (xs := [.int .i64 1, v4]) (by decide) (Nat.le_refl _) h6 (els_cell1 (by decide) (own_typed hv8 _)) rfl rfl (Nat.le_refl _) (by simp [maxLen])
        obtain ⟨A4, c4, rfl, _, _, _⟩ := hv4.islc.open_
        go_wp2
        go_ret
        rw [HOF.out]
        exact ⟨_, rfl, hO, hb8⟩
end Go.Proofs.YtbkenfljknpjgaaDoor
