/-
  What the functions that cut a row in two return: the program's and the document's. Each function once.
-/
import Derived.Test.YtbkenfljknpjgaaDoorFit2
import Derived.Deep.RegionHeld3
namespace Go.Proofs.YtbkenfljknpjgaaDoor
open Go.RowKit
set_option linter.unusedVariables false
set_option linter.unusedSimpArgs false

/-! ### Plain -/
def isSp (l : List CellV) (col : Nat) : Prop := (l.getD col (0, [])).1 = 3
instance (l : List CellV) (col : Nat) : Decidable (isSp l col) := inferInstanceAs (Decidable (_ = _))
/-- The cells, without a cluster about the place. -/
def splitO (l : List CellV) (col : Nat) : List CellV := if isSp l col then (l.set col (0, [])).set (col - 1) (0, []) else l
def blankAt (l : List CellV) (col : Nat) : List CellV := if isSp l col then l.set col (0, []) else l
theorem splitO_len (l : List CellV) (col : Nat) : (splitO l col).length = l.length := by unfold splitO; split <;> simp
theorem blankAt_len (l : List CellV) (col : Nat) : (blankAt l col).length = l.length := by unfold blankAt; split <;> simp
theorem sound_next : ∀ (l : List CellV) (lead : Bool), soundG lead l = true → ∀ k (h : k + 1 < l.length), (l[k + 1].1 = 3 ↔ l[k].1 = 2)
  | [], _, _, k, h => by simp at h
  | c :: [], _, _, k, h => by simp at h
  | c :: d :: l, lead, hs, 0, h => by
    simp only [soundG, Bool.and_eq_true, beq_iff_eq] at hs
    have := hs.2.1.2
    simp only [List.getElem_cons_succ, List.getElem_cons_zero]
    simpa using this.symm
  | c :: d :: l, lead, hs, k + 1, h => by
    simp only [soundG, Bool.and_eq_true] at hs
    have ih := sound_next (d :: l) _ (by simp only [soundG, Bool.and_eq_true]; exact hs.2) k (by simpa using h)
    simpa only [List.getElem_cons_succ] using ih
theorem sound_rest : ∀ (l : List CellV) (lead : Bool), soundG lead l = true → ∀ k (h : k < l.length), soundG (decide (l[k].1 = 2)) (l.drop (k + 1)) = true
  | [], _, _, k, h => by simp at h
  | c :: l, lead, hs, 0, h => by
    simp only [soundG, Bool.and_eq_true] at hs
    simpa using hs.2
  | c :: l, lead, hs, k + 1, h => by
    simp only [soundG, Bool.and_eq_true] at hs
    have ih := sound_rest l _ hs.2 k (by simpa using h)
    simpa only [List.getElem_cons_succ, List.drop_succ_cons] using ih
theorem isSp_iff (l : List CellV) (col : Nat) (h : col < l.length) : isSp l col ↔ l[col].1 = 3 := by
  unfold isSp
  rw [List.getD_eq_getElem?_getD, List.getElem?_eq_getElem h]; rfl
theorem split_left (l : List CellV) (col : Nat) (h0 : 0 < col) (h1 : col < l.length) (hs : soundB l = true) : cutF (blankAt l col) col = (splitO l col).take col := by
  have hn := sound_next l false hs (col - 1) (by omega)
  have hcs := cut_set (blankAt l col) (col - 1) (by rw [blankAt_len]; omega)
  simp only [show col - 1 + 1 = col by omega] at hn hcs
  rw [hcs]
  have hsp := isSp_iff l col h1
  unfold splitO blankAt
  by_cases h : isSp l col
  · simp only [if_pos h]
    have h2 : l[col - 1].1 = 2 := hn.1 (hsp.1 h)
    rw [List.getElem_set_ne (by omega), if_pos h2]
    simp only [List.take_set]
  · simp only [if_neg h]
    rw [if_neg (fun h2 => h (hsp.2 (hn.2 h2)))]
theorem split_right (l : List CellV) (col : Nat) (h0 : 0 < col) : (blankAt l col).drop col = (splitO l col).drop col := by
  unfold splitO blankAt
  by_cases h : isSp l col
  · simp only [if_pos h]
    exact (List.drop_set_of_lt (by omega)).symm
  · simp only [if_neg h]
theorem split_sound_l (l : List CellV) (col : Nat) (h0 : 0 < col) (h1 : col < l.length) (hs : soundB l = true) : soundB ((splitO l col).take col) = true := by
  have e : (splitO l col).take col = cutF l col := by
    rw [← split_left l col h0 h1 hs]
    unfold blankAt
    by_cases h : isSp l col
    · rw [if_pos h]
      have h1' := cut_set l (col - 1) (by omega)
      have h2' := cut_set (l.set col (0, [])) (col - 1) (by simp; omega)
      simp only [show col - 1 + 1 = col by omega] at h1' h2'
      rw [h1', h2', List.getElem_set_ne (by omega), List.take_set_of_le (Nat.le_refl _)]
    · rw [if_neg h]
  rw [e]
  have := cut_sound l col false 0 h0 (by omega) hs
  rw [List.replicate_zero, List.append_nil] at this
  exact this
theorem split_sound_r (l : List CellV) (col : Nat) (h0 : 0 < col) (h1 : col < l.length) (hs : soundB l = true) : soundB ((splitO l col).drop col) = true := by
  have hn := sound_next l false hs (col - 1) (by omega)
  have hd0 := sound_rest l false hs (col - 1) (by omega)
  have hd1 := sound_rest l false hs col h1
  simp only [show col - 1 + 1 = col by omega] at hn hd0
  have hsp := isSp_iff l col h1
  rw [← split_right l col h0]
  unfold blankAt
  by_cases h : isSp l col
  · rw [if_pos h]
    have e : (l.set col (0, [])).drop col = (0, []) :: l.drop (col + 1) := by
      rw [List.drop_eq_getElem_cons (by simpa using h1), List.getElem_set_self, List.drop_set_of_lt (by omega)]
    rw [e]
    have h3 := hsp.1 h
    rw [h3] at hd1
    simp only [soundB, soundG, Bool.and_eq_true]
    exact ⟨⟨by decide, by decide⟩, by simpa using hd1⟩
  · rw [if_neg h]
    have h2 : ¬ l[col - 1].1 = 2 := fun h2 => h (hsp.2 (hn.2 h2))
    simpa [soundB, h2] using hd0

/-! ### Rows, when one block alone turns -/
theorem Own2.gb {α : Type} {R : Rep α} {e t : TypeId} {T : List TypeId} {base g : Nat} {cs : Array Value} {w w' : World} {v : Value} {l : List α} (h : Own2 R e T base 0 w v l) (hg : w.grownBy w' (some g)) (hb : Blk w g t cs) (ht : t ∉ T) (hne : ∀ k, v.ownBlock = some k → k ≠ g) : Own2 R e T base 0 w' v l := by
  obtain ⟨hbb, hT, xs, ⟨hx, hown⟩, hels⟩ := h
  refine ⟨hbb, hT, xs, ⟨hx, ?_⟩, hels.mono (Keep.step (es := [t]) (Step.of_gb hg (Nat.zero_le _) hb (by simp)) (fun t' h1 h2 => by simp at h2; subst h2; exact ht h1))⟩
  rcases hown with hn | ⟨k, cap, cur, rfl, hbk, hk, rest⟩
  · exact .inl hn
  · refine .inr ⟨k, cap, cur, rfl, hbk, ?_, rest⟩
    rw [hg.block k (Array.getElem?_eq_some_iff.1 hk).1 (by intro e; injection e with e; exact hne k rfl e)]
    exact hk
theorem RowIs.gb {base g : Nat} {t : TypeId} {cs : Array Value} {w w' : World} {v : Value} {l : List CellV} {wrap : Bool} (h : RowIs base w v l wrap) (hg : w.grownBy w' (some g)) (hb : Blk w g t cs) (ht : t ≠ 21) (hgb : g < base) : RowIs base w' v l wrap := by
  obtain ⟨g1, s, rfl, h1, h2, h3⟩ := h
  refine ⟨g1, s, rfl, h1, h2.grown hg (by intro e; injection e with e; omega), h3.gb hg hb (by simpa using ht) (fun k hk e => ?_)⟩
  obtain ⟨_, _, xs, hown, _⟩ := h3
  have := (own_bears hown k hk).1
  omega

/-! ### A cell put into a row -/
theorem own_put {base g cap k n : Nat} {w : World} {l : List CellV} (h : Own RCell 74 [21] base w (.slice (some ⟨g, 0, none⟩) n cap) l) (hn : l.length = n) (hk : k < l.length) (c : CellV) (v : Value)
    (hw : (Lit.int .i64 c.1).wf = true) (hv : Slc (Rep.int .i32) (Typed base [21] w) (Typed base [21] w) w v c.2) :
    g < w.heap.size ∧ base ≤ g ∧ w.frozen? ⟨g, k * 2, none⟩ = false ∧ w.frozen? ⟨g, k * 2 + 1, none⟩ = false ∧ (∃ a, w.cell? ⟨g, k * 2, none⟩ = some a) ∧ (∃ a, w.cell? ⟨g, k * 2 + 1, none⟩ = some a) ∧ (∃ cs, Blk w g 74 cs) ∧
      Own RCell 74 [21] base ((w.setCell ⟨g, k * 2, none⟩ (.int .i64 c.1)).setCell ⟨g, k * 2 + 1, none⟩ v) (.slice (some ⟨g, 0, none⟩) n cap) (l.set k c) ∧
      w.grownBy ((w.setCell ⟨g, k * 2, none⟩ (.int .i64 c.1)).setCell ⟨g, k * 2 + 1, none⟩ v) (some g) ∧
      Step base [74] w ((w.setCell ⟨g, k * 2, none⟩ (.int .i64 c.1)).setCell ⟨g, k * 2 + 1, none⟩ v) := by
  subst hn
  obtain ⟨g', cap', xs, rest, hge', hgb, hblk, hxl, hels, hsz, hcap, hcm⟩ := own_open h (by omega)
  obtain ⟨rfl, rfl⟩ : g = g' ∧ cap = cap' := by simpa using hge'
  have esz : RCell.sz = 2 := rfl
  rw [esz] at hxl
  have hb := h.slc.slb
  obtain ⟨b', off', sv, hge, _, q0, q1, _, _⟩ := cell_at hb (k := k) hk
  obtain ⟨rfl, rfl⟩ : g = b' ∧ 0 = off' := by simpa using hge
  simp only [Nat.zero_add] at q0 q1
  have s1 := hblk.set_ (k * 2) (.int .i64 c.1)
  have s2 := s1.set_ (k * 2 + 1) v
  have hst : Step base [74] w _ := ((Step.refl base [74] w).setCell (p := ⟨g, k * 2, none⟩) hgb hblk.bears (.int .i64 c.1)).setCell (p := ⟨g, k * 2 + 1, none⟩) hgb s1.bears v
  have hkp := Keep.step (T := [21]) hst (by decide)
  have hel4 := (hels.mono hkp).set_ k c [.int .i64 c.1, v] (by omega) (cell_E hw (hv.mono hkp hkp))
  rw [esz] at hel4
  simp only [List.setIfInBounds_toArray] at s2
  rw [list_set2 xs (k * 2) (by omega)] at s2
  rw [show (k + 1) * 2 = k * 2 + 2 by omega] at hel4
  exact ⟨hblk.lt, hgb, hblk.frozen _, hblk.frozen _, ⟨_, q0⟩, ⟨_, q1⟩, ⟨_, hblk⟩, own_shut (by decide) hgb s2 hel4 (by simp) (by rw [← hsz]; simp; omega) hcap hcm, gb_set (gb_set (gb_refl w g) _ _) _ _, hst⟩

end Go.Proofs.YtbkenfljknpjgaaDoor
