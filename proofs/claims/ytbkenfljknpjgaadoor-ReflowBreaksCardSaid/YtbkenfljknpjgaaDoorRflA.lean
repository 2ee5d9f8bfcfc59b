/-
  Several texts of this seat as one: Rfl0, Rfl1, Rfl2, Rfl3.
-/
import Derived.Test.YtbkenfljknpjgaaDoorItm0
import Derived.Test.YtbkenfljknpjgaaDoorView0
import Derived.Test.YtbkenfljknpjgaaDoorLns2
import Derived.Test.YtbkenfljknpjgaaDoorOrd
import Derived.Test.YtbkenfljknpjgaaDoorCell8
import Derived.Deep.RegionHeld3
import Derived.RegionTactic
import Derived.ChangeAlike
import Derived.Deep.CutRange
import Derived.BigQuiet
import Derived.Test.YtbkenfljknpjgaaDoorItm1
import Derived.Test.YtbkenfljknpjgaaDoorErr2
namespace Go.Proofs.YtbkenfljknpjgaaDoor
open Go.RowKit
set_option linter.unusedVariables false
set_option linter.unusedSimpArgs false

/-- The cells of an item, on lines w wide. -/
def cellsW (w : Nat) (i : ItemV) : List CellV := if w < (ofF i.1 i.2).length then [(1, [65533])] else ofF i.1 i.2
abbrev BrkS : Type := List LineV × List CellV
def fillL (w : Nat) (l : List CellV) : List CellV := l ++ List.replicate (w - l.length) (0, [])
def endS (w : Nat) (s : BrkS) (on : Bool) : BrkS := (s.1 ++ [(fillL w s.2, on)], [])
def roomS (w : Nat) (s : BrkS) (c : List CellV) : BrkS := if w - s.2.length < c.length then endS w s true else s
def putS (w : Nat) (s : BrkS) (c : List CellV) : BrkS := ((roomS w s c).1, (roomS w s c).2 ++ c)
def brkS (w : Nat) (x : List ItemV) : BrkS := x.foldl (fun s i => putS w s (cellsW w i)) ([], [])
def brkF (w : Nat) (x : List ItemV) : List LineV := (endS w (brkS w x) false).1

theorem brkS_snoc (w : Nat) (x : List ItemV) (k : Nat) (h : k < x.length) : brkS w (x.take (k + 1)) = putS w (brkS w (x.take k)) (cellsW w x[k]) := by
  rw [take_snoc' x k h]
  unfold brkS
  rw [List.foldl_append]
  rfl
/-- The cells of a right item, one or two, sound together. -/
theorem right_cells (i : ItemV) (h : rightI i = true) : (i.2.length = 0 ∧ i.1 = 1 ∧ ofF i.1 i.2 = [(0, [])]) ∨ (i.1 = 1 ∧ ofF i.1 i.2 = [(1, i.2)] ∧ rightB (1, i.2) = true) ∨ (i.1 = 2 ∧ ofF i.1 i.2 = [(2, i.2), (3, [])] ∧ rightB (2, i.2) = true) := by
  unfold rightI at h
  split at h
  · rename_i h0
    have h1 : i.1 = 1 := by simpa using h
    refine .inl ⟨h0, h1, ?_⟩
    unfold ofF
    rw [h1]
    simp [h0]
  · rename_i h0
    rw [Bool.and_eq_true] at h
    obtain ⟨h1, h2⟩ := h
    have ht := right_text 1 (.inl rfl) i.2 h2
    have ho := of_right i.1 i.2 ht
    simp only [Bool.or_eq_true, decide_eq_true_eq] at h1
    rcases h1 with h1 | h1
    · exact .inr (.inl ⟨h1, by rw [ho, h1]; simp, h2⟩)
    · exact .inr (.inr ⟨h1, by rw [ho, h1]; simp, rightB_1 i.2 ht 2 (.inr rfl)⟩)
theorem cellsW_len (w : Nat) (hw : 1 ≤ w) (i : ItemV) (h : rightI i = true) : 1 ≤ (cellsW w i).length ∧ (cellsW w i).length ≤ w ∧ (cellsW w i).length ≤ 2 := by
  unfold cellsW
  rcases right_cells i h with ⟨_, _, e⟩ | ⟨_, e, _⟩ | ⟨_, e, _⟩ <;> rw [e]
  · rw [if_neg (by simp; omega)]; simp; omega
  · rw [if_neg (by simp; omega)]; simp; omega
  · by_cases h2 : w < 2
    · rw [if_pos (by simpa using h2)]; simp; omega
    · rw [if_neg (by simpa using h2)]; simp; omega
/-- A strip behind cells that end no lead is sound if it and they are. -/
theorem sound_append : ∀ (l m : List CellV) (b : Bool), soundG b l = true → soundG false m = true → l ≠ [] ∨ b = false → soundG b (l ++ m) = true
  | [], m, b, h, h2, h3 => by
    rcases h3 with h3 | h3
    · exact absurd rfl h3
    · subst h3; exact h2
  | [c], m, b, h, h2, _ => by
    simp only [soundG, List.cons_append, List.nil_append, Bool.and_eq_true] at h ⊢
    refine ⟨h.1, ?_⟩
    have h4 : decide (c.1 = 2) = false := by
      cases hd : decide (c.1 = 2) with
      | false => rfl
      | true => rw [hd] at h; simp [soundG] at h
    rw [h4]; exact h2
  | c :: d :: l, m, b, h, h2, _ => by
    simp only [soundG, List.cons_append, Bool.and_eq_true] at h ⊢
    refine ⟨h.1, ?_⟩
    have := sound_append (d :: l) m (decide (c.1 = 2)) (by simp only [soundG, Bool.and_eq_true]; exact h.2) h2 (.inl (by simp))
    simp only [soundG, List.cons_append, Bool.and_eq_true] at this
    exact this
theorem soundB_append {l m : List CellV} (h : soundB l = true) (h2 : soundB m = true) : soundB (l ++ m) = true := sound_append l m false h h2 (.inr rfl)
theorem sound_blanks : ∀ n, soundB (List.replicate n ((0, []) : CellV)) = true
  | 0 => rfl
  | n + 1 => by
    have ih := sound_blanks n
    unfold soundB at ih ⊢
    rw [List.replicate_succ]
    simp only [soundG, Bool.and_eq_true]
    exact ⟨by decide, ih⟩
theorem soundB_one (t : List Int) (h : rightB (1, t) = true) : soundB [(1, t)] = true := by
  unfold soundB soundG
  rw [h]
  rfl
theorem soundB_two (t : List Int) (h : rightB (2, t) = true) : soundB [(2, t), (3, [])] = true := by
  unfold soundB soundG
  rw [h]
  rfl
theorem cellsW_sound (w : Nat) (i : ItemV) (h : rightI i = true) : soundB (cellsW w i) = true := by
  unfold cellsW
  split
  · decide
  · rcases right_cells i h with ⟨_, _, e⟩ | ⟨_, e, h1⟩ | ⟨_, e, h1⟩ <;> rw [e]
    · decide
    · exact soundB_one _ h1
    · exact soundB_two _ h1
structure BrkOk (w : Nat) (s : BrkS) : Prop where
  len : s.2.length ≤ w
  sound : soundB s.2 = true
  lines : ∀ l ∈ s.1, l.1.length = w ∧ soundB l.1 = true ∧ l.2 = true
theorem fill_len {w : Nat} {l : List CellV} (h : l.length ≤ w) : (fillL w l).length = w := by unfold fillL; rw [List.length_append, List.length_replicate]; omega
theorem fill_sound {w : Nat} {l : List CellV} (h : soundB l = true) : soundB (fillL w l) = true := soundB_append h (sound_blanks _)
theorem BrkOk.nil_ (w : Nat) : BrkOk w ([], []) := ⟨Nat.zero_le _, rfl, fun l h => (by cases h)⟩
theorem BrkOk.end_ {w : Nat} {s : BrkS} (h : BrkOk w s) : BrkOk w (endS w s true) := by
  refine ⟨Nat.zero_le _, rfl, fun l hl => ?_⟩
  unfold endS at hl
  rcases List.mem_append.1 hl with hl | hl
  · exact h.lines l hl
  · rw [List.mem_singleton] at hl
    subst hl
    exact ⟨fill_len h.len, fill_sound h.sound, rfl⟩
theorem BrkOk.room {w : Nat} {s : BrkS} {c : List CellV} (h : BrkOk w s) (hc : c.length ≤ w) : BrkOk w (roomS w s c) ∧ (roomS w s c).2.length + c.length ≤ w := by
  unfold roomS
  split
  · exact ⟨h.end_, by unfold endS; simpa using hc⟩
  · have := h.len
    exact ⟨h, by omega⟩
theorem BrkOk.put {w : Nat} {s : BrkS} {c : List CellV} (h : BrkOk w s) (hc : c.length ≤ w) (hs : soundB c = true) : BrkOk w (putS w s c) := by
  obtain ⟨h1, h2⟩ := h.room hc
  exact ⟨by unfold putS; rw [List.length_append]; exact h2, soundB_append h1.sound hs, h1.lines⟩
theorem brkS_ok (w : Nat) (hw : 1 ≤ w) (x : List ItemV) : ∀ k, k ≤ x.length → (∀ i ∈ x.take k, rightI i = true) → BrkOk w (brkS w (x.take k))
  | 0, _, _ => by simpa [brkS] using BrkOk.nil_ w
  | k + 1, hk, h => by
    have ih := brkS_ok w hw x k (by omega) (fun i hi => h i (by rw [take_snoc' x k (by omega)]; exact List.mem_append_left _ hi))
    have hr : rightI x[k] = true := h x[k] (by rw [take_snoc' x k (by omega)]; exact List.mem_append_right _ (by simp))
    rw [brkS_snoc w x k (by omega)]
    exact ih.put (cellsW_len w hw _ hr).2.1 (cellsW_sound w _ hr)
/-- Lines are sound, as wide as they must be, and all but the last go on. -/
theorem brkF_ok (w : Nat) (hw : 1 ≤ w) (x : List ItemV) (h : ∀ i ∈ x, rightI i = true) : 0 < (brkF w x).length ∧ ∀ (k : Nat) (hk : k < (brkF w x).length), (brkF w x)[k].1.length = w ∧ soundB (brkF w x)[k].1 = true ∧ ((brkF w x)[k].2 = true ↔ k + 1 < (brkF w x).length) := by
  have hb := brkS_ok w hw x x.length (Nat.le_refl _) (by rw [List.take_of_length_le (Nat.le_refl _)]; exact h)
  rw [List.take_of_length_le (Nat.le_refl _)] at hb
  have e : brkF w x = (brkS w x).1 ++ [(fillL w (brkS w x).2, false)] := rfl
  have hl : (brkF w x).length = (brkS w x).1.length + 1 := by rw [e]; simp
  refine ⟨by omega, fun k hk => ?_⟩
  by_cases hlt : k < (brkS w x).1.length
  · have e2 : (brkF w x)[k] = (brkS w x).1[k] := by
      have : (brkF w x)[k]? = (brkS w x).1[k]? := by rw [e, List.getElem?_append_left hlt]
      rw [List.getElem?_eq_getElem hk, List.getElem?_eq_getElem hlt] at this
      injection this
    rw [e2]
    obtain ⟨h1, h2, h3⟩ := hb.lines _ (List.getElem_mem hlt)
    exact ⟨h1, h2, by rw [h3]; simp; omega⟩
  · have hk2 : k = (brkS w x).1.length := by omega
    have e2 : (brkF w x)[k] = (fillL w (brkS w x).2, false) := by
      have : (brkF w x)[k]? = some (fillL w (brkS w x).2, false) := by rw [e, List.getElem?_append_right (by omega), hk2]; simp
      rw [List.getElem?_eq_getElem hk] at this
      injection this
    rw [e2]
    exact ⟨fill_len hb.len, fill_sound hb.sound, by simp; omega⟩
end Go.Proofs.YtbkenfljknpjgaaDoor

namespace Go.Proofs.YtbkenfljknpjgaaDoor
open Go.RowKit
set_option linter.unusedVariables false
set_option linter.unusedSimpArgs false

theorem below_drw {B : Nat} {a w : World} (h : Below B a w) : Below B a w.drew := ⟨h.os, h.tape, h.output, h.size, h.block⟩
/-- append of rows of the call's own, empty ones too; and which block the row has then. -/
theorem run_app2y {α : Type} {P : Program} (w : World) (R : Rep α) (t ty e : TypeId) (T : List TypeId) (base bi base2 : Nat) (i : TypeInfo) (z : Value) (bytes : Nat) (ht : P.underlying t = some (.slice e)) (hi : P.info? e = some i)
    (hz : i.zero = some z) (hsize : i.size = R.sz) (hby : i.bytes = bytes) (hzs : z.cells.size = R.sz) (hsz : 0 < R.sz) (hb0 : 0 < bytes)
    (v : Value) (l : List α) (hown : Own2 R e T base bi w v l) (vx : Value) (l2 : List α) (hx : Own2 R e T base2 bi w vx l2)
    (hb : (l.length + l2.length) * bytes ≤ 140737488355328) (hbase : base ≤ w.heap.size) :
    ∃ v' w', (Builtin.append_ #[t, t] ty #[v, vx]).run P w = .ok v' w' ∧ Own2 R e T base bi w' v' (l ++ l2) ∧ Step base [e] w w' ∧ w.grownBy w' v.ownBlock ∧ (v'.ownBlock = v.ownBlock ∨ v'.ownBlock = some w.heap.size) := by
  have hown0 := hown
  obtain ⟨hbb, hne, xs, hor, hels⟩ := hown
  obtain ⟨_, _, ys, hor2, hels2⟩ := hx
  have h63 : l.length + l2.length ≤ maxLen := by
    have := Nat.le_trans (Nat.le_mul_of_pos_right (l.length + l2.length) hb0) hb
    simp only [maxLen]; omega
  rcases hor2.2 with ⟨hv, h0⟩ | ⟨g, cap, cur, hv, _, _, _, _, _⟩
  · have : l2 = [] := List.eq_nil_of_length_eq_zero h0
    subst this; subst hv
    refine ⟨v, w, ?_, by simpa using hown0, Step.refl _ _ _, World.grownBy.refl w _, .inl rfl⟩
    rcases hor.2 with ⟨rfl, h00⟩ | ⟨g, cap, cur, rfl, _, _, hnc, _⟩
    · simp [Builtin.append_, run_underlying ht, sizeOf, typeInfo, hi, Builtin.lenOf, Builtin.firstCells, loadCells, loadCellsFrom]
    · simp [Builtin.append_, run_underlying ht, sizeOf, typeInfo, hi, Builtin.lenOf, Builtin.firstCells, hnc, storeCells, loadCells, loadCellsFrom]
  · subst hv
    rcases Nat.eq_zero_or_pos l2.length with h0 | h0
    · have : l2 = [] := List.eq_nil_of_length_eq_zero h0
      subst this
      refine ⟨v, w, ?_, by simpa using hown0, Step.refl _ _ _, World.grownBy.refl w _, .inl rfl⟩
      rcases hor.2 with ⟨rfl, h00⟩ | ⟨g', cap', cur', rfl, _, _, hnc, _⟩
      · simp [Builtin.append_, run_underlying ht, sizeOf, typeInfo, hi, Builtin.lenOf, Builtin.firstCells, loadCells, loadCellsFrom]
      · simp [Builtin.append_, run_underlying ht, sizeOf, typeInfo, hi, Builtin.lenOf, Builtin.firstCells, hnc, storeCells, loadCells, loadCellsFrom]
    · have hcells := hor2.cells (g := g) rfl
      obtain ⟨v', w', hrun, hown', hgr, _, h5⟩ := run_append_own_at (P := P) w base t ty e i z R.sz bytes ht hi hz hsize hby hzs hsz v l.length xs hor ⟨g, 0, none⟩ l2.length cap ys
        hels2.length hcells hels2.one h63 hb hbase
      have hst : Step base [e] w w' := Step.of_grown hgr (own_bears hor)
      have hk := Keep.step (T := T) (hst.mono hbb (fun _ h => h)) (fun t' ht' he => by simp at he; subst he; exact hne ht')
      exact ⟨v', w', hrun, ⟨hbb, hne, xs ++ ys, by simpa using hown', (hels.mono hk).append (hels2.mono hk)⟩, hst, hgr, h5⟩
theorem step_app2y {α : Type} {P : Program} {ops : Array Oper} {o : Oper} {a : Act} {w : World} {K : Act → World → Prop} {Q : Exit → Act → World → Prop} {E : Prop} (hgd : o.guard = none) (s x : Operand) (t : TypeId)
    (ho : o.op = .call { callee := .builtin .append, args := #[s, x], argTypes := #[t, t] })
    (R : Rep α) (e : TypeId) (T : List TypeId) (base bi bytes : Nat) (z : Value) (ht : P.underlying t = some (.slice e)) (hi : (P.info? e).map (fun i => (i.zero, i.size, i.bytes)) = some (some z, R.sz, bytes)) (hzs : z.cells.size = R.sz) (hsz : 0 < R.sz) (hb0 : 0 < bytes)
    (v : Value) (l : List α) (hs : a.eval s = v) (hown : Own2 R e T base bi w v l) (base2 : Nat) (vx : Value) (l2 : List α) (hxe : a.eval x = vx) (hx : Own2 R e T base2 bi w vx l2)
    (hb : (l.length + l2.length) * bytes ≤ 140737488355328) (hbase : base ≤ w.heap.size)
    (h : ∀ v' w', Own2 R e T base bi w' v' (l ++ l2) → Step base [e] w w' → w.grownBy w' v.ownBlock → (v'.ownBlock = v.ownBlock ∨ v'.ownBlock = some w.heap.size) → K (a.put o.dst v') w') :
    if Region.wanted o (yielded ops a.tmps) = true then Oper.wp P o a w K Q else E := by
  have hw : Region.wanted o (yielded ops a.tmps) = true := by simp [Region.wanted, hgd]
  rw [if_pos hw]
  obtain ⟨i0, hi0, hz0, hz1, hz2⟩ := info_parts hi
  obtain ⟨v', w', hrun, h2, h3, h4, h5⟩ := run_app2y (P := P) w R t o.type e T base bi base2 i0 z bytes ht hi0 hz0 hz1 hz2 hzs hsz hb0 v l hown vx l2 hx hb hbase
  unfold Oper.wp execOp
  simp only [ho, resolve, invoke, builtin, Sem.run_bind, Sem.run_pure, Result.andThen_ok, List.map_toArray, List.map_cons, List.map_nil, hs, hxe, hrun]
  exact h v' w' h2 h3 h4 h5
theorem wpList_app2y {α : Type} {P : Program} {ops : Array Oper} {rest : List Oper} {o : Oper} {a : Act} {w : World} {Q : Exit → Act → World → Prop} (hgd : o.guard = none) (s x : Operand) (t : TypeId)
    (ho : o.op = .call { callee := .builtin .append, args := #[s, x], argTypes := #[t, t] })
    (R : Rep α) (e : TypeId) (T : List TypeId) (base bi bytes : Nat) (z : Value) (ht : P.underlying t = some (.slice e)) (hi : (P.info? e).map (fun i => (i.zero, i.size, i.bytes)) = some (some z, R.sz, bytes)) (hzs : z.cells.size = R.sz) (hsz : 0 < R.sz) (hb0 : 0 < bytes)
    (v : Value) (l : List α) (hs : a.eval s = v) (hown : Own2 R e T base bi w v l) (base2 : Nat) (vx : Value) (l2 : List α) (hxe : a.eval x = vx) (hx : Own2 R e T base2 bi w vx l2)
    (hb : (l.length + l2.length) * bytes ≤ 140737488355328) (hbase : base ≤ w.heap.size)
    (h : ∀ v' w', Own2 R e T base bi w' v' (l ++ l2) → Step base [e] w w' → w.grownBy w' v.ownBlock → (v'.ownBlock = v.ownBlock ∨ v'.ownBlock = some w.heap.size) → wpList P ops Q rest (a.put o.dst v') w') : wpList P ops Q (o :: rest) a w := by
  obtain ⟨i0, hi0, hz0, hz1, hz2⟩ := info_parts hi
  refine wpList_plain hgd fun _ hK => ?_
  obtain ⟨v', w', hrun, h2, h3, h4, h5⟩ := run_app2y (P := P) w R t o.type e T base bi base2 i0 z bytes ht hi0 hz0 hz1 hz2 hzs hsz hb0 v l hown vx l2 hx hb hbase
  unfold Oper.wp execOp
  simp only [ho, resolve, invoke, builtin, Sem.run_bind, Sem.run_pure, Result.andThen_ok, List.map_toArray, List.map_cons, List.map_nil, hs, hxe, hrun]
  exact hK _ _ (h v' w' h2 h3 h4 h5)

section
variable {base : Nat} {w w' : World} {v : Value} {ps : List (Value × LineV)} {es : List TypeId}
/-- Lines' cells stay where another row of cells turns. -/
theorem lns_stay {s : Value} (h : ∀ p ∈ ps, Own2 RCell 74 [21] base 0 w p.1 p.2.1) (hg : w.grownBy w' s.ownBlock) (hb : ∀ g, s.ownBlock = some g → Bears [74] w g) (ha : ∀ p ∈ ps, ∀ g, s.ownBlock = some g → p.1.ownBlock ≠ some g) : ∀ p ∈ ps, Own2 RCell 74 [21] base 0 w' p.1 p.2.1 := by
  intro p hp
  cases hs : s.ownBlock with
  | none =>
    rw [hs] at hg
    exact (h p hp).step (es := []) (Step.of_grown (base := base) hg (fun k hk => by cases hk)) (by simp) (by simp)
  | some g =>
    rw [hs] at hg
    obtain ⟨cs, t, fz, hh, ht⟩ := hb g hs
    obtain ⟨hbb, hT, xs, hown, hels⟩ := h p hp
    have hst : Step 0 [74] w w' := Step.of_grown hg (fun k hk => by injection hk with hk; subst hk; exact ⟨Nat.zero_le _, cs, t, fz, hh, ht⟩)
    refine ⟨hbb, hT, xs, ⟨hown.1, ?_⟩, hels.mono (Keep.step hst (by decide))⟩
    rcases hown.2 with hn | ⟨g', cap, cur, hpe, h1, h2, rest⟩
    · exact .inl hn
    · refine .inr ⟨g', cap, cur, hpe, h1, ?_, rest⟩
      rw [hg.block g' (Array.getElem?_eq_some_iff.1 h2).1 (fun e => ha p hp g hs (by rw [hpe]; exact e))]
      exact h2
/-- One line more, apart from the others. -/
theorem LnsP.snoc2 {v' s : Value} {l : LineV} (h : ∀ p ∈ ps, Own2 RCell 74 [21] base 0 w p.1 p.2.1) (ha : ps.Pairwise ApartB) (hap : ∀ p ∈ ps, ApartB p (s, l)) (hr : Own RSl 38 [] base w v' (ps.map slB ++ [(s, l.2)])) (hs : Own2 RCell 74 [21] base 0 w s l.1) : LnsP base w v' (ps ++ [(s, l)]) := by
  refine ⟨by rw [List.map_append]; exact hr, fun p hp => ?_, List.pairwise_append.2 ⟨ha, List.pairwise_singleton _ _, fun p hp q hq => ?_⟩⟩
  · rcases List.mem_append.1 hp with hp | hp
    · exact h p hp
    · rw [List.mem_singleton] at hp; subst hp; exact hs
  · rw [List.mem_singleton] at hq; subst hq; exact hap p hp

/-- A breaker in memory. -/
structure BrkAt (base : Nat) (w : World) (g : Nat) (wd : Nat) (s : BrkS) (ov lv : Value) (ps : List (Value × LineV)) : Prop where
  ge : base ≤ g
  blk : Blk w g 90 #[.int .i64 wd, ov, lv]
  lns : LnsP base w ov ps
  eq : ps.map Prod.snd = s.1
  line : Own2 RCell 74 [21] base 0 w lv s.2
  apart : ∀ p ∈ ps, ∀ gg, lv.ownBlock = some gg → p.1.ownBlock ≠ some gg
def BrkIs (base : Nat) (w : World) (g : Nat) (wd : Nat) (s : BrkS) : Prop := ∃ ov lv ps, BrkAt base w g wd s ov lv ps
theorem BrkIs.step {g wd : Nat} {s : BrkS} (h : BrkIs base w g wd s) (hs : Step base es w w') (h0 : 90 ∉ es) (h1 : 38 ∉ es) (h2 : 74 ∉ es) (h3 : 21 ∉ es) : BrkIs base w' g wd s := by
  obtain ⟨ov, lv, ps, h⟩ := h
  exact ⟨ov, lv, ps, h.ge, h.blk.step hs h0, h.lns.step hs h1 h2 h3, h.eq, h.line.step hs h2 (by intro t ht; simp at ht; subst ht; exact h3), h.apart⟩
theorem BrkIs.below {g wd : Nat} {s : BrkS} (h : BrkIs base w g wd s) (hb : Below w.heap.size w w') : BrkIs base w' g wd s :=
  h.step (es := []) (Step.of_below hb) (by simp) (by simp) (by simp) (by simp)
end

set_option maxHeartbeats 4000000 in
theorem End_ok (base g wd : Nat) (s : BrkS) (on : Bool) (w : World) (ov lv : Value) (ps : List (Value × LineV)) (h : BrkAt base w g wd s ov lv ps) (hb : base ≤ w.heap.size) (hl : s.2.length ≤ wd) (hwd : wd ≤ 1024) (hn : s.1.length ≤ 1000000) :
    Calls Tryd.prog 51 #[.pointer (some ⟨g, 0, none⟩), .bool on] w fun e w' => (∃ r, e = .returned r) ∧ BrkIs base w' g wd (endS wd s on) ∧ Step base [90, 38, 74] w w' ∧ (∀ r l, Own2 RCell 74 [21] base 0 w r l → (∀ gg, lv.ownBlock = some gg → r.ownBlock ≠ some gg) → Own2 RCell 74 [21] base 0 w' r l) := by
  obtain ⟨out, line⟩ := s
  obtain ⟨hge, hbk, hln, heq, hli, hap⟩ := h
  simp only at hl hn heq hli
  obtain ⟨Ao, no, co, rfl⟩ : ∃ Ao no co, ov = .slice Ao no co := by
    obtain ⟨A, c, e, _⟩ := hln.row.slc.open_
    exact ⟨A, _, c, e⟩
  obtain ⟨Al, cl, rfl, _, _, _⟩ := hli.slc.open_
  have hpl : ps.length ≤ 1000000 := by rw [← List.length_map (f := Prod.snd), heq]; exact hn
  have hbN : blanksN ((wd : Int) - line.length) = wd - line.length := by unfold blanksN; omega
  have HBL := hide (fun W => Blanks_ok ((wd : Int) - line.length) (wf_i64 (by omega) (by omega)) W)
  have HBN := hide hbN
  have hwr : IntKind.i64.wrap ((wd : Int) - line.length) = (wd : Int) - line.length := IntWalk.i64_in _ (by omega)
  have HEQ := hide heq
  have hbd : ∀ gg, (Value.slice Al line.length cl).ownBlock = some gg → Bears [74] w gg := fun gg hgg => by
    obtain ⟨_, _, xs, hown, _⟩ := hli
    exact (own_bears hown gg hgg).2
  have s0 := hbk.cell 0
  have s1 := hbk.cell 1
  have s2 := hbk.cell 2
  simp only [List.getElem?_toArray, List.getElem?_cons_succ, List.getElem?_cons_zero] at s0 s1 s2
  clear hbN heq
  go_enter Tryd.func51, Tryd.ntmps51
  go_wp2
  refine wp_region_late (S := fun w' => w'.cell? ⟨g, 0, none⟩ = some (.int .i64 wd) ∧ w'.cell? ⟨g, 1, none⟩ = some (.slice Ao no co) ∧ w'.cell? ⟨g, 2, none⟩ = some (.slice Al line.length cl)) [27] (by kernel_rfl) (by exact ⟨s0, s1, s2⟩) (fun hHeld => ?_)
  refine wpAnyT_take (i := 0) (oi := ?_) (v := ?_) ?_ (by kernel_rfl) (by kernel_rfl) (by kernel_rfl) (by kernel_rfl) (by kernel_rfl) ?_ (Or.inl ⟨?_, ?_⟩) (by assumption) ?_
  rotate_left 2
  · (simp only [List.getElem?_toArray, List.getElem?_cons_succ, List.getElem?_cons_zero]; rfl)
  rotate_left 1
  · rfl
  · (intro w hSw; (try dsimp only at hSw); go_simp; try with_reducible rfl)
  rotate_left 1
  · exact fun _ _ _ h => h
  try simp only [Act.put, List.setIfInBounds_toArray, List.set_cons_zero, List.set_cons_succ]
  refine wpAnyT_take (i := 1) (oi := ?_) (v := ?_) ?_ (by kernel_rfl) (by kernel_rfl) (by kernel_rfl) (by kernel_rfl) (by kernel_rfl) ?_ (Or.inl ⟨?_, ?_⟩) (by assumption) ?_
  rotate_left 2
  · (simp only [List.getElem?_toArray, List.getElem?_cons_succ, List.getElem?_cons_zero]; rfl)
  rotate_left 1
  · rfl
  · (intro w hSw; (try dsimp only at hSw); go_simp; try with_reducible rfl)
  rotate_left 1
  · exact fun _ _ _ h => h
  try simp only [Act.put, List.setIfInBounds_toArray, List.set_cons_zero, List.set_cons_succ]
  refine wpAnyT_take (i := 2) (oi := ?_) (v := ?_) ?_ (by kernel_rfl) (by kernel_rfl) (by kernel_rfl) (by kernel_rfl) (by kernel_rfl) ?_ (Or.inl ⟨?_, ?_⟩) (by assumption) ?_
  rotate_left 2
  · (simp only [List.getElem?_toArray, List.getElem?_cons_succ, List.getElem?_cons_zero]; rfl)
  rotate_left 1
  · rfl
  · (intro w hSw; (try dsimp only at hSw); go_simp; try with_reducible rfl)
  rotate_left 1
  · exact fun _ _ _ h => h
  try simp only [Act.put, List.setIfInBounds_toArray, List.set_cons_zero, List.set_cons_succ]
  refine wpAnyT_take (i := 3) (oi := ?_) (v := ?_) ?_ (by kernel_rfl) (by kernel_rfl) (by kernel_rfl) (by kernel_rfl) (by kernel_rfl) ?_ (Or.inl ⟨?_, ?_⟩) (by assumption) ?_
  rotate_left 2
  · (simp only [List.getElem?_toArray, List.getElem?_cons_succ, List.getElem?_cons_zero]; rfl)
  rotate_left 1
  · rfl
  · (intro w hSw; (try dsimp only at hSw); go_simp; try with_reducible rfl)
  rotate_left 1
  · exact fun _ _ _ h => h
  try simp only [Act.put, List.setIfInBounds_toArray, List.set_cons_zero, List.set_cons_succ]
  refine wpAnyT_take (i := 4) (oi := ?_) (v := ?_) ?_ (by kernel_rfl) (by kernel_rfl) (by kernel_rfl) (by kernel_rfl) (by kernel_rfl) ?_ (Or.inl ⟨?_, ?_⟩) (by assumption) ?_
  rotate_left 2
  · (simp only [List.getElem?_toArray, List.getElem?_cons_succ, List.getElem?_cons_zero]; rfl)
  rotate_left 1
  · rfl
  · (intro w hSw; (try dsimp only at hSw); go_simp; try with_reducible rfl)
  rotate_left 1
  · exact fun _ _ _ h => h
  try simp only [Act.put, List.setIfInBounds_toArray, List.set_cons_zero, List.set_cons_succ]
  refine wpAnyT_take (i := 5) (oi := ?_) (v := ?_) ?_ (by kernel_rfl) (by kernel_rfl) (by kernel_rfl) (by kernel_rfl) (by kernel_rfl) ?_ (Or.inl ⟨?_, ?_⟩) (by assumption) ?_
  rotate_left 2
  · (simp only [List.getElem?_toArray, List.getElem?_cons_succ, List.getElem?_cons_zero]; rfl)
  rotate_left 1
  · rfl
  · (intro w hSw; (try dsimp only at hSw); go_simp; try with_reducible rfl)
  rotate_left 1
  · exact fun _ _ _ h => h
  try simp only [Act.put, List.setIfInBounds_toArray, List.set_cons_zero, List.set_cons_succ]
  refine wpAnyT_take (i := 6) (oi := ?_) (v := ?_) ?_ (by kernel_rfl) (by kernel_rfl) (by kernel_rfl) (by kernel_rfl) (by kernel_rfl) ?_ (Or.inl ⟨?_, ?_⟩) (by assumption) ?_
  rotate_left 2
  · (simp only [List.getElem?_toArray, List.getElem?_cons_succ, List.getElem?_cons_zero]; rfl)
  rotate_left 1
  · rfl
  · (intro w hSw; (try dsimp only at hSw); go_simp; try with_reducible rfl)
  rotate_left 1
  · exact fun _ _ _ h => h
  try simp only [Act.put, List.setIfInBounds_toArray, List.set_cons_zero, List.set_cons_succ]
  refine wpAnyT_take (i := 7) (oi := ?_) (v := ?_) ?_ (by kernel_rfl) (by kernel_rfl) (by kernel_rfl) (by kernel_rfl) (by kernel_rfl) ?_ (Or.inl ⟨?_, ?_⟩) (by assumption) ?_
  rotate_left 2
  · (simp only [List.getElem?_toArray, List.getElem?_cons_succ, List.getElem?_cons_zero]; rfl)
  rotate_left 1
  · rfl
  · (intro w hSw; (try dsimp only at hSw); go_simp; try with_reducible rfl)
  rotate_left 1
  · exact fun _ _ _ h => h
  try simp only [Act.put, List.setIfInBounds_toArray, List.set_cons_zero, List.set_cons_succ]
  refine wpAnyT_take (i := 8) (oi := ?_) (v := ?_) ?_ (by kernel_rfl) (by kernel_rfl) (by kernel_rfl) (by kernel_rfl) (by kernel_rfl) ?_ (Or.inl ⟨?_, ?_⟩) (by assumption) ?_
  rotate_left 2
  · (simp only [List.getElem?_toArray, List.getElem?_cons_succ, List.getElem?_cons_zero]; rfl)
  rotate_left 1
  · rfl
  · (intro w hSw; (try dsimp only at hSw); go_simp; try with_reducible rfl)
  rotate_left 1
  · exact fun _ _ _ h => h
  try simp only [Act.put, List.setIfInBounds_toArray, List.set_cons_zero, List.set_cons_succ]
  refine wpAnyT_take (i := 9) (oi := ?_) (v := ?_) ?_ (by kernel_rfl) (by kernel_rfl) (by kernel_rfl) (by kernel_rfl) (by kernel_rfl) ?_ (Or.inl ⟨?_, ?_⟩) (by assumption) ?_
  rotate_left 2
  · (simp only [List.getElem?_toArray, List.getElem?_cons_succ, List.getElem?_cons_zero]; rfl)
  rotate_left 1
  · rfl
  · (intro w hSw; (try dsimp only at hSw); go_simp; try with_reducible rfl)
  rotate_left 1
  · exact fun _ _ _ h => h
  try simp only [Act.put, List.setIfInBounds_toArray, List.set_cons_zero, List.set_cons_succ]
  refine wpAnyT_take (i := 10) (oi := ?_) (v := ?_) ?_ (by kernel_rfl) (by kernel_rfl) (by kernel_rfl) (by kernel_rfl) (by kernel_rfl) ?_ (Or.inl ⟨?_, ?_⟩) (by assumption) ?_
  rotate_left 2
  · (simp only [List.getElem?_toArray, List.getElem?_cons_succ, List.getElem?_cons_zero]; rfl)
  rotate_left 1
  · rfl
  · (intro w hSw; (try dsimp only at hSw); go_simp; try with_reducible rfl)
  rotate_left 1
  · exact fun _ _ _ h => h
  try simp only [Act.put, List.setIfInBounds_toArray, List.set_cons_zero, List.set_cons_succ]
  refine wpAnyT_take (i := 11) (oi := ?_) (v := ?_) ?_ (by kernel_rfl) (by kernel_rfl) (by kernel_rfl) (by kernel_rfl) (by kernel_rfl) ?_ (Or.inl ⟨?_, ?_⟩) (by assumption) ?_
  rotate_left 2
  · (simp only [List.getElem?_toArray, List.getElem?_cons_succ, List.getElem?_cons_zero]; rfl)
  rotate_left 1
  · rfl
  · (intro w hSw; (try dsimp only at hSw); go_simp; try with_reducible rfl)
  rotate_left 1
  · exact fun _ _ _ h => h
  try simp only [Act.put, List.setIfInBounds_toArray, List.set_cons_zero, List.set_cons_succ]
  refine wpAnyT_take (i := 12) (oi := ?_) (v := ?_) ?_ (by kernel_rfl) (by kernel_rfl) (by kernel_rfl) (by kernel_rfl) (by kernel_rfl) ?_ (Or.inl ⟨?_, ?_⟩) (by assumption) ?_
  rotate_left 2
  · (simp only [List.getElem?_toArray, List.getElem?_cons_succ, List.getElem?_cons_zero]; rfl)
  rotate_left 1
  · rfl
  · (intro w hSw; (try dsimp only at hSw); go_simp; try with_reducible rfl)
  rotate_left 1
  · exact fun _ _ _ h => h
  try simp only [Act.put, List.setIfInBounds_toArray, List.set_cons_zero, List.set_cons_succ]
  refine wpAnyT_take (i := 13) (oi := ?_) (v := ?_) ?_ (by kernel_rfl) (by kernel_rfl) (by kernel_rfl) (by kernel_rfl) (by kernel_rfl) ?_ (Or.inl ⟨?_, ?_⟩) (by assumption) ?_
  rotate_left 2
  · (simp only [List.getElem?_toArray, List.getElem?_cons_succ, List.getElem?_cons_zero]; rfl)
  rotate_left 1
  · rfl
  · (intro w hSw; (try dsimp only at hSw); go_simp; try with_reducible rfl)
  rotate_left 1
  · exact fun _ _ _ h => h
  try simp only [Act.put, List.setIfInBounds_toArray, List.set_cons_zero, List.set_cons_succ]
  refine wpAnyT_take (i := 14) (oi := ?_) (v := ?_) ?_ (by kernel_rfl) (by kernel_rfl) (by kernel_rfl) (by kernel_rfl) (by kernel_rfl) ?_ (Or.inl ⟨?_, ?_⟩) (by assumption) ?_
  rotate_left 2
  · (simp only [List.getElem?_toArray, List.getElem?_cons_succ, List.getElem?_cons_zero]; rfl)
  rotate_left 1
  · rfl
  · (intro w hSw; (try dsimp only at hSw); go_simp; try with_reducible rfl)
  rotate_left 1
  · exact fun _ _ _ h => h
  try simp only [Act.put, List.setIfInBounds_toArray, List.set_cons_zero, List.set_cons_succ]
  refine wpAnyT_take (i := 15) (oi := ?_) (v := ?_) ?_ (by kernel_rfl) (by kernel_rfl) (by kernel_rfl) (by kernel_rfl) (by kernel_rfl) ?_ (Or.inl ⟨?_, ?_⟩) (by assumption) ?_
  rotate_left 2
  · (simp only [List.getElem?_toArray, List.getElem?_cons_succ, List.getElem?_cons_zero]; rfl)
  rotate_left 1
  · rfl
  · (intro w hSw; (try dsimp only at hSw); go_simp; try with_reducible rfl)
  rotate_left 1
  · exact fun _ _ _ h => h
  try simp only [Act.put, List.setIfInBounds_toArray, List.set_cons_zero, List.set_cons_succ]
  refine wpAnyT_take (i := 16) (oi := ?_) (v := ?_) ?_ (by kernel_rfl) (by kernel_rfl) (by kernel_rfl) (by kernel_rfl) (by kernel_rfl) ?_ (Or.inl ⟨?_, ?_⟩) (by assumption) ?_
  rotate_left 2
  · (simp only [List.getElem?_toArray, List.getElem?_cons_succ, List.getElem?_cons_zero]; rfl)
  rotate_left 1
  · rfl
  · (intro w hSw; (try dsimp only at hSw); go_simp; try with_reducible rfl)
  rotate_left 1
  · exact fun _ _ _ h => h
  try simp only [Act.put, List.setIfInBounds_toArray, List.set_cons_zero, List.set_cons_succ]
  refine wpAnyT_take (i := 17) (oi := ?_) (v := ?_) ?_ (by kernel_rfl) (by kernel_rfl) (by kernel_rfl) (by kernel_rfl) (by kernel_rfl) ?_ (Or.inl ⟨?_, ?_⟩) (by assumption) ?_
  rotate_left 2
  · (simp only [List.getElem?_toArray, List.getElem?_cons_succ, List.getElem?_cons_zero]; rfl)
  rotate_left 1
  · rfl
  · (intro w hSw; (try dsimp only at hSw); go_simp; try with_reducible rfl)
  rotate_left 1
  · exact fun _ _ _ h => h
  try simp only [Act.put, List.setIfInBounds_toArray, List.set_cons_zero, List.set_cons_succ]
  refine wpAnyT_take (i := 18) (oi := ?_) (v := ?_) ?_ (by kernel_rfl) (by kernel_rfl) (by kernel_rfl) (by kernel_rfl) (by kernel_rfl) ?_ (Or.inl ⟨?_, ?_⟩) (by assumption) ?_
  rotate_left 2
  · (simp only [List.getElem?_toArray, List.getElem?_cons_succ, List.getElem?_cons_zero]; rfl)
  rotate_left 1
  · rfl
  · (intro w hSw; (try dsimp only at hSw); go_simp; try with_reducible rfl)
  rotate_left 1
  · exact fun _ _ _ h => h
  try simp only [Act.put, List.setIfInBounds_toArray, List.set_cons_zero, List.set_cons_succ]
  refine wpAnyT_take (i := 21) (oi := ?_) (v := ?_) ?_ (by kernel_rfl) (by kernel_rfl) (by kernel_rfl) (by kernel_rfl) (by kernel_rfl) ?_ (Or.inl ⟨?_, ?_⟩) (by assumption) ?_
  rotate_left 2
  · (simp only [List.getElem?_toArray, List.getElem?_cons_succ, List.getElem?_cons_zero]; rfl)
  rotate_left 1
  · rfl
  · (intro w hSw; (try dsimp only at hSw); go_simp; try with_reducible rfl)
  rotate_left 1
  · exact fun _ _ _ h => h
  try simp only [Act.put, List.setIfInBounds_toArray, List.set_cons_zero, List.set_cons_succ]
  refine wpAnyT_ready (rs := [19]) (by kernel_rfl) (by simp) ?_
  refine AllReadyT.cons (o := ?_) ?_ (fun K hK => ?_) AllReadyT.nil
  rotate_left 1
  · (simp only [List.getElem?_toArray, List.getElem?_cons_succ, List.getElem?_cons_zero]; rfl)
  go_simp
  go_at_call 61; refine (HBL.out _).mono ?_; rintro e w5 ⟨v5, rfl, hv5, hc5⟩; rw [HBN.out] at hv5; have hv5 := own2_blanks hv5 (Nat.le_refl _); have hst5 : Step base [] w w5 := ((Step.refl base [] w).drew).trans (Step.of_below hc5); have hz5 : base ≤ w5.heap.size := Nat.le_trans hb hst5.size; have bk5 := (show Blk w.drew _ _ _ from hbk).same hc5; have hli5 := hli.dr.below hc5; have hln5 := (hln.step ((Step.refl base [] w).drew) (by simp) (by simp) (by simp)).step (es := []) (Step.of_below hc5) (by simp) (by simp) (by simp); have hbd5 : ∀ gg, (Value.slice Al line.length cl).ownBlock = some gg → Bears [74] w5 gg := fun gg hgg => (by obtain ⟨_, _, xs, hown, _⟩ := hli5; exact (own_bears hown gg hgg).2); obtain ⟨A5, c5, rfl, _, _, _⟩ := hv5.slc.open_; clear hbk hli hln hc5; have s0 := bk5.cell 0; have s1 := bk5.cell 1; have s2 := bk5.cell 2; simp only [List.getElem?_toArray, List.getElem?_cons_succ, List.getElem?_cons_zero] at s0 s1 s2
  refine hK.out _ _ ?_ (fun hHeld => ?_)
  · ((try dsimp only); go_keep)
  clear hK K
  try simp only [Act.put, List.setIfInBounds_toArray, List.set_cons_zero, List.set_cons_succ]
  refine wpAnyT_ready (rs := [20]) (by kernel_rfl) (by simp) ?_
  refine AllReadyT.cons (o := ?_) ?_ (fun K hK => ?_) AllReadyT.nil
  rotate_left 1
  · (simp only [List.getElem?_toArray, List.getElem?_cons_succ, List.getElem?_cons_zero]; rfl)
  refine step_app2y rfl (.tmp 12) (.tmp 23) 23 rfl RCell 74 [21] base 0 32 _ Tryd.underlying23 cell_info rfl (by decide) (by decide) _ _ rfl hli5 _ _ _ rfl hv5 (by rw [List.length_replicate]; omega) hz5 ?_; intro v6 w6 hv6 hst6 hg6 ho6; have hlc6 := hide (lns_stay hln5.cells hg6 hbd5 hap); have hrow6 := hln5.row.flat_step RSl.flat hst6 (by decide); have bk6 := bk5.step hst6 (by decide); have hz6 := Nat.le_trans hz5 hst6.size; have hap6 : Hid (∀ p ∈ ps, ApartB p (v6, ((fillL wd line, on) : LineV))) := hide (fun p hp gg hgg e => (by rcases ho6 with ho6 | ho6; exact hap p hp gg (ho6.symm.trans e) hgg; have h1 := ((hln5.cells p hp).lt_ gg hgg).2; rw [ho6] at e; injection e with e; omega)); have hpw6 := hide hln5.apart; have hst5b : Step base [90, 38, 74] w w5 := hst5.mono (Nat.le_refl _) (by simp); have hst6b : Step base [90, 38, 74] w5 w6 := hst6.mono (Nat.le_refl _) (by decide); have hst6a := hst5b.trans hst6b; have hsy6 := hide (fun (r : Value) (l : List CellV) (hr : Own2 RCell 74 [21] base 0 w r l) (ha : ∀ gg, (Value.slice Al line.length cl).ownBlock = some gg → r.ownBlock ≠ some gg) => lns_stay (ps := [(r, ((l, false) : LineV))]) (fun p hp => (by rw [List.mem_singleton] at hp; subst hp; exact hr.step hst5 (by simp) (by simp))) hg6 hbd5 (fun p hp => (by rw [List.mem_singleton] at hp; subst hp; exact ha)) (r, ((l, false) : LineV)) (by simp)); obtain ⟨A6, n6, c6, rfl⟩ : ∃ A6 n6 c6, v6 = .slice A6 n6 c6 := (by obtain ⟨A, c, e, _⟩ := hv6.slc.open_; exact ⟨A, _, c, e⟩); clear hst5b hst6b hst6 hg6 ho6 hli5 hv5 hln5 bk5 hbd5 hst5 hap hbd; have s0 := bk6.cell 0; have s1 := bk6.cell 1; have s2 := bk6.cell 2; simp only [List.getElem?_toArray, List.getElem?_cons_succ, List.getElem?_cons_zero] at s0 s1 s2
  refine hK.out _ _ ?_ (fun hHeld => ?_)
  · ((try dsimp only); go_keep)
  clear hK K
  try simp only [Act.put, List.setIfInBounds_toArray, List.set_cons_zero, List.set_cons_succ]
  refine wpAnyT_take (i := 22) (oi := ?_) (v := ?_) ?_ (by kernel_rfl) (by kernel_rfl) (by kernel_rfl) (by kernel_rfl) (by kernel_rfl) ?_ (Or.inl ⟨?_, ?_⟩) (by assumption) ?_
  rotate_left 2
  · (simp only [List.getElem?_toArray, List.getElem?_cons_succ, List.getElem?_cons_zero]; rfl)
  rotate_left 1
  · rfl
  · (intro w hSw; (try dsimp only at hSw); go_simp; try with_reducible rfl)
  rotate_left 1
  · exact fun _ _ _ h => h
  try simp only [Act.put, List.setIfInBounds_toArray, List.set_cons_zero, List.set_cons_succ]
  refine wpAnyT_ready (rs := [23]) (by kernel_rfl) (by simp) ?_
  refine AllReadyT.cons (o := ?_) ?_ (fun K hK => ?_) AllReadyT.nil
  rotate_left 1
  · (simp only [List.getElem?_toArray, List.getElem?_cons_succ, List.getElem?_cons_zero]; rfl)
  go_simp
  have bk7 := bk6.alloc (.cells #[.slice A6 n6 c6, .bool on] 38); have hv7 := hv6.alloc (.cells #[.slice A6 n6 c6, .bool on] 38); have hrow7 := hrow6.alloc (.cells #[.slice A6 n6 c6, .bool on] 38); have hlc7 := hide (fun p hp => (hlc6.out p hp).alloc (.cells #[.slice A6 n6 c6, .bool on] 38)); have hsy7 := hide (fun (r : Value) (l : List CellV) hr ha => (hsy6.out r l hr ha).alloc (.cells #[.slice A6 n6 c6, .bool on] 38)); clear hsy6; have hst7 := hst6a.trans (Step.alloc1 base [90, 38, 74] w6 (.cells #[.slice A6 n6 c6, .bool on] 38)); have hz7 := Nat.le_trans hb hst7.size; have hone := Slc.lit1 (R := RSl) (Si := fun _ => False) (Si' := fun _ => False) (w := w6) (x := ((.slice A6 n6 c6 : Value), on)) (u := [.slice A6 n6 c6, .bool on]) 38 ⟨[.slice A6 n6 c6], [.bool on], rfl, ⟨rfl, rfl⟩, rfl⟩ (fun _ _ h => h.elim); clear bk6 hv6 hrow6 hlc6 hst6a; have s0 := bk7.cell 0; have s1 := bk7.cell 1; have s2 := bk7.cell 2; simp only [List.getElem?_toArray, List.getElem?_cons_succ, List.getElem?_cons_zero] at s0 s1 s2
  refine hK.out _ _ ?_ (fun hHeld => ?_)
  · ((try dsimp only); go_keep)
  clear hK K
  try simp only [Act.put, List.setIfInBounds_toArray, List.set_cons_zero, List.set_cons_succ]
  refine wpAnyT_ready (rs := [24]) (by kernel_rfl) (by simp) ?_
  refine AllReadyT.cons (o := ?_) ?_ (fun K hK => ?_) AllReadyT.nil
  rotate_left 1
  · (simp only [List.getElem?_toArray, List.getElem?_cons_succ, List.getElem?_cons_zero]; rfl)
  refine step_appg rfl (.tmp 8) (.tmp 27) 22 rfl RSl 38 [] base 32 _ Tryd.underlying22 line_info rfl (by decide) (by decide) _ _ rfl hrow7 _ (fun _ => False) _ _ rfl hone (fun _ h => False.elim h) (by simp; omega) hz7 ?_; intro v8 w8 hv8 hst8 hg8 ho8; have bk8 := bk7.step hst8 (by decide); have hln8 : LnsP base w8 v8 (ps ++ [((.slice A6 n6 c6 : Value), (fillL wd line, on))]) := LnsP.snoc2 (fun p hp => (hlc7.out p hp).step hst8 (by decide) (by decide)) hpw6.out hap6.out hv8 (hv7.step hst8 (by decide) (by decide)); have hst8b : Step base [90, 38, 74] _ w8 := hst8.mono (Nat.le_refl _) (by decide); have hst8a := hst7.trans hst8b; obtain ⟨A8, n8, c8, rfl⟩ : ∃ A8 n8 c8, v8 = .slice A8 n8 c8 := (by obtain ⟨A, c, e, _⟩ := hv8.slc.open_; exact ⟨A, _, c, e⟩); have hst9x : Step base [90] w8 (w8.setCell ⟨g, 1, none⟩ (.slice A8 n8 c8)) := (Step.refl base [90] w8).setCell (p := ⟨g, 1, none⟩) hge bk8.bears _; obtain ⟨w9, hw9⟩ : ∃ w9, w9 = w8.setCell ⟨g, 1, none⟩ (.slice A8 n8 c8) := ⟨_, rfl⟩; have bk9 := hide (show Blk w9 g 90 #[.int .i64 wd, .slice A8 n8 c8, .slice Al line.length cl] from (by rw [hw9]; exact bk8.set_ 1 (.slice A8 n8 c8))); have hln9 := hide (show LnsP base w9 _ _ from (by rw [hw9]; exact hln8.step hst9x (by decide) (by decide) (by decide))); have hsy9 := hide (fun (r : Value) (l : List CellV) hr ha => (show Own2 RCell 74 [21] base 0 w9 r l from (by rw [hw9]; exact ((hsy7.out r l hr ha).step hst8 (by decide) (by decide)).step hst9x (by decide) (by decide)))); clear hsy7; have hst9 := hide (show Step base [90, 38, 74] w w9 from (by have h9 : Step base [90, 38, 74] w8 (w8.setCell ⟨g, 1, none⟩ (.slice A8 n8 c8)) := hst9x.mono (Nat.le_refl _) (by decide); rw [hw9]; exact hst8a.trans h9)); have HW9 := hide hw9; have f1 := bk8.frozen 1; have bk8 := bk8; clear hv8 hst8 hg8 ho8 hv7 hrow7 hlc7 hst7 hone hpw6 hap6 hln8 hst8a hst9x bk7 hw9; have s0 := bk8.cell 0; have s1 := bk8.cell 1; have s2 := bk8.cell 2; simp only [List.getElem?_toArray, List.getElem?_cons_succ, List.getElem?_cons_zero] at s0 s1 s2
  refine hK.out _ _ ?_ (fun hHeld => ?_)
  · ((try dsimp only); go_keep)
  clear hK K
  try simp only [Act.put, List.setIfInBounds_toArray, List.set_cons_zero, List.set_cons_succ]
  refine wpAnyT_take (i := 25) (oi := ?_) (v := ?_) ?_ (by kernel_rfl) (by kernel_rfl) (by kernel_rfl) (by kernel_rfl) (by kernel_rfl) ?_ (Or.inl ⟨?_, ?_⟩) (by assumption) ?_
  rotate_left 2
  · (simp only [List.getElem?_toArray, List.getElem?_cons_succ, List.getElem?_cons_zero]; rfl)
  rotate_left 1
  · rfl
  · (intro w hSw; (try dsimp only at hSw); go_simp; try with_reducible rfl)
  rotate_left 1
  · exact fun _ _ _ h => h
  try simp only [Act.put, List.setIfInBounds_toArray, List.set_cons_zero, List.set_cons_succ]
  refine wpAnyT_take (i := 26) (oi := ?_) (v := ?_) ?_ (by kernel_rfl) (by kernel_rfl) (by kernel_rfl) (by kernel_rfl) (by kernel_rfl) ?_ (Or.inl ⟨?_, ?_⟩) (by assumption) ?_
  rotate_left 2
  · (simp only [List.getElem?_toArray, List.getElem?_cons_succ, List.getElem?_cons_zero]; rfl)
  rotate_left 1
  · rfl
  · (intro w hSw; (try dsimp only at hSw); go_simp; try with_reducible rfl)
  rotate_left 1
  · exact fun _ _ _ h => h
  try simp only [Act.put, List.setIfInBounds_toArray, List.set_cons_zero, List.set_cons_succ]
  refine wpAnyT_ready (rs := [27]) (by kernel_rfl) (by simp) ?_
  refine AllReadyT.consL (o := ?_) ?_ (by kernel_rfl) (fun K hK => ?_) AllReadyT.nil
  rotate_left 1
  · (simp only [List.getElem?_toArray, List.getElem?_cons_succ, List.getElem?_cons_zero]; rfl)
  go_simp
  refine hK.out _ _ ?_
  clear hK K
  try simp only [Act.put, List.setIfInBounds_toArray, List.set_cons_zero, List.set_cons_succ]
  refine wpAnyT_done (by kernel_rfl) ?_ _
  rw [← HW9.out]
  have f2 := bk9.out.frozen 2
  have s2 := bk9.out.cell 2
  simp only [List.getElem?_toArray, List.getElem?_cons_succ, List.getElem?_cons_zero] at s2
  clear s0 s1 hHeld
  go_wp2
  go_end0
  have hst10 : Step base [90] w9 (w9.setCell ⟨g, 2, none⟩ (.slice none 0 0)) := (Step.refl base [90] w9).setCell (p := ⟨g, 2, none⟩) hge bk9.out.bears _
  refine ⟨⟨_, rfl⟩, ⟨_, _, _, hge, (bk9.out.set_ 2 (.slice none 0 0)), hln9.out.step hst10 (by decide) (by decide) (by decide), ?_, Own2.nil_ _ _ _ _ _ _ (Nat.zero_le _) (by decide), fun p hp gg hgg => by cases hgg⟩, hst9.out.trans (hst10.mono (Nat.le_refl _) (by decide)), fun r l hr ha => (hsy9.out r l hr ha).step hst10 (by decide) (by decide)⟩
  rw [List.map_append, HEQ.out]
  rfl
end Go.Proofs.YtbkenfljknpjgaaDoor

namespace Go.Proofs.YtbkenfljknpjgaaDoor
open Go.RowKit
set_option linter.unusedVariables false
set_option linter.unusedSimpArgs false

theorem BrkAt.step {base g wd : Nat} {w w' : World} {s : BrkS} {ov lv : Value} {ps : List (Value × LineV)} {es : List TypeId} (h : BrkAt base w g wd s ov lv ps) (hs : Step base es w w') (h0 : 90 ∉ es) (h1 : 38 ∉ es) (h2 : 74 ∉ es) (h3 : 21 ∉ es) : BrkAt base w' g wd s ov lv ps :=
  ⟨h.ge, h.blk.step hs h0, h.lns.step hs h1 h2 h3, h.eq, h.line.step hs h2 (by intro t ht; simp at ht; subst ht; exact h3), h.apart⟩
theorem BrkAt.below {base g wd : Nat} {w w' : World} {s : BrkS} {ov lv : Value} {ps : List (Value × LineV)} (h : BrkAt base w g wd s ov lv ps) (hb : Below w.heap.size w w') : BrkAt base w' g wd s ov lv ps :=
  h.step (es := []) (Step.of_below hb) (by simp) (by simp) (by simp) (by simp)
theorem hBlk {base g wd : Nat} {w : World} {s : BrkS} {ov lv : Value} {ps : List (Value × LineV)} (h : BrkAt base w g wd s ov lv ps) : w.cell? ⟨g, 0, none⟩ = some (.int .i64 wd) ∧ w.cell? ⟨g, 2, none⟩ = some lv := by
  have s0 := h.blk.cell 0
  have s2 := h.blk.cell 2
  simp only [List.getElem?_toArray, List.getElem?_cons_succ, List.getElem?_cons_zero] at s0 s2
  exact ⟨s0, s2⟩
theorem brk_cells {wd : Nat} {k : Int} {t : List Int} {cl : List CellV} (h : ofF k t = cl) (hb : ¬ wd < cl.length) : cellsW wd (k, t) = cl := by
  unfold cellsW
  simp only
  rw [h, if_neg hb]
theorem brk_bad {wd : Nat} {k : Int} {t : List Int} (hb : wd < (ofF k t).length) : cellsW wd (k, t) = [(1, [65533])] := by
  unfold cellsW
  exact if_pos hb

set_option maxHeartbeats 8000000 in
theorem Put_ok (base g wd : Nat) (s : BrkS) (k : Int) (x : Value) (t : List Int) (So Si : Nat → Prop) (w : World) (h : BrkIs base w g wd s) (hb : base ≤ w.heap.size) (hl : s.2.length ≤ wd) (hw1 : 1 ≤ wd) (hwd : wd ≤ 1024) (hn : s.1.length ≤ 100000) (hk : (Lit.int .i64 k).wf = true) (hx : Slc (Rep.int .i32) So Si w x t) (ht : t.length ≤ 16) (hr : rightI (k, t) = true) :
    Calls Tryd.prog 50 #[.pointer (some ⟨g, 0, none⟩), .agg #[.int .i64 k, x]] w fun e w' => (∃ r, e = .returned r) ∧ BrkIs base w' g wd (putS wd s (cellsW wd (k, t))) ∧ Step base [90, 38, 74] w w' := by
  obtain ⟨ov, lv, ps, hB⟩ := h
  obtain ⟨A, c, rfl, _, _, _⟩ := hx.open_
  obtain ⟨out, line⟩ := s
  simp only at hl hn
  obtain ⟨Al, cl0, rfl, _, _, _⟩ := hB.line.slc.open_
  simp only at hB
  have hcl := cellsW_len wd hw1 (k, t) hr
  have hlv := fun gg hgg => (hB.line.lt_ gg hgg).2
  have HLV := hide hlv
  have bx := Blk.new w 50 #[.int .i64 k, .slice A t.length c]
  have q0 := bx.cell 0
  have q1 := bx.cell 1
  simp only [List.getElem?_toArray, List.getElem?_cons_succ, List.getElem?_cons_zero] at q0 q1
  have hst0 := Step.alloc1 base [] w (.cells #[.int .i64 k, .slice A t.length c] 50)
  have hB0 := hB.step hst0 (by simp) (by simp) (by simp) (by simp)
  have hx0 := hx.ints_keep (Keep.alloc So w (.cells #[.int .i64 k, .slice A t.length c] 50))
  have HOF := hide (Of2_ok _ _ (.slice A t.length c) t k _ hk hx0 (by omega))
  have hsz0 : (w.alloc (.cells #[.int .i64 k, .slice A t.length c] 50)).heap.size = w.heap.size + 1 := by simp
  obtain ⟨n, hnn⟩ : ∃ n, ofF k t = n := ⟨_, rfl⟩
  rw [hnn] at HOF
  have hs0 := (hBlk hB).1
  clear hlv hB hx hx0 bx
  generalize hW0 : w.alloc (.cells #[.int .i64 k, .slice A t.length c] 50) = w0 at *
  have HCL := hide hcl
  have HRI := hide hr
  have HNN := hide hnn
  have hbs := (hBlk hB0).1
  have hbs2 := (hBlk hB0).2
  clear hcl hr hnn hs0
  go_enter Tryd.func50, Tryd.ntmps50
  go_wp2_with fail
  refine HOF.out.mono ?_
  rintro e w1 ⟨cv, rfl, hcv, hc1⟩
  clear hW0
  have hB1 := hB0.below hc1
  have hst1 : Step base [90, 38, 74] w w1 := (hst0.mono (Nat.le_refl _) (by simp)).trans (Step.of_below hc1)
  have hz1 : base ≤ w1.heap.size := Nat.le_trans hb hst1.size
  have hcl1 : ∀ gg, cv.ownBlock = some gg → w.heap.size ≤ gg := fun gg hgg => by have := (hcv.lt_ gg hgg).1; omega
  have hcv1 := hcv.down base (Nat.zero_le _) (by omega)
  obtain ⟨Ac, cc, rfl, _, _, _⟩ := hcv1.slc.open_
  have s0 := (hBlk hB1).1
  clear hB0 hst0 hcv hc1 HOF hbs hbs2 q0 q1
  by_cases hbig : wd < n.length
  · have hbi : (wd : Int) < n.length := by omega
    have HCW : Hid (cellsW wd (k, t) = [(1, [65533])]) := hide (brk_bad (by rw [HNN.out]; exact hbig))
    clear hcv1 hcl1
    go_upto_region 3 with fail
    have hx2 := Slc.lit1 (R := Rep.int .i32) (Si := fun _ => False) (Si' := fun _ => False) (w := w1) (x := (65533 : Int)) (u := [.int .i32 65533]) 21 ⟨rfl, by decide⟩ (fun _ _ h => h.elim)
    have HO2 := hide (Of2_ok _ _ _ [65533] 1 _ (by decide) hx2 (by simp))
    have hst2 := Step.alloc1 base [] w1 (.cells #[.int .i32 65533] 21)
    have hB2 := hB1.step hst2 (by simp) (by simp) (by simp) (by simp)
    have hst2' : Step base [90, 38, 74] w _ := hst1.trans (hst2.mono (Nat.le_refl _) (by simp))
    have hsz2 : (w1.alloc (.cells #[.int .i32 65533] 21)).heap.size = w1.heap.size + 1 := by simp
    have hz11 := hst1.size
    clear hB1 hst1 hst2 hx2 s0
    go_wp2_with fail
    refine HO2.out.mono ?_
    rintro e w3 ⟨cv3, rfl, hcv3, hc3⟩
    rw [show ofF 1 [65533] = [(1, [65533])] by decide] at hcv3
    have hBX := hB2.below hc3
    have hstX : Step base [90, 38, 74] w w3 := hst2'.trans (Step.of_below hc3)
    have hzX : base ≤ w3.heap.size := Nat.le_trans hb hstX.size
    have hapX : ∀ gg, cv3.ownBlock = some gg → w.heap.size ≤ gg := fun gg hgg => by have := (hcv3.lt_ gg hgg).1; omega
    have hcX := hcv3.down base (Nat.zero_le _) (by omega)
    obtain ⟨Ax, cx, rfl, _, _, _⟩ := hcX.slc.open_
    obtain ⟨cl, hcle⟩ : ∃ cl, [((1, [65533]) : CellV)] = cl := ⟨_, rfl⟩
    rw [hcle] at hcX hapX HCW ⊢
    have hcn : cl.length ≤ wd ∧ cl.length ≤ 2 := by rw [← hcle]; exact ⟨by simpa using hw1, by simp⟩
    clear hB2 hst2' hcv3 hc3 HO2 hcle
    have s0 := (hBlk hBX).1
    have s2 := (hBlk hBX).2
    have hwr : IntKind.i64.wrap ((wd : Int) - line.length) = (wd : Int) - line.length := IntWalk.i64_in _ (by omega)
    by_cases hroom : wd - line.length < cl.length
    · have hri : (wd : Int) - line.length < cl.length := by omega
      have HRM : Hid (roomS wd (out, line) cl = endS wd (out, line) true) := hide (if_pos hroom)
      have HEN := hide (fun q => End_ok base g wd (out, line) true (w3.drewN q) ov _ ps (hBX.step ((Step.refl base [] w3).drewN q) (by simp) (by simp) (by simp) (by simp)) hzX hl hwd (show out.length ≤ 1000000 by omega))
      have HCX := hide hcX
      have HAP : Hid (∀ gg, (Value.slice Al line.length cl0).ownBlock = some gg → (Value.slice Ax cl.length cx).ownBlock ≠ some gg) := hide (fun gg hgg e => by have h1 := HLV.out gg hgg; have h2 := hapX gg e; omega)
      clear hroom hBX hcX hapX
      go_wp2
      go_quiet (fail)
      go_wp2_with fail
      refine (HEN.out _).mono ?_
      rintro e w4 ⟨⟨re, rfl⟩, hB4, hst4, hsy4⟩
      have hc4 := hsy4 _ _ (HCX.out.drewN _) HAP.out
      have hstY : Step base [90, 38, 74] w w4 := (hstX.drewN _).trans hst4
      have hzY : base ≤ w4.heap.size := Nat.le_trans hb hstY.size
      obtain ⟨ov4, lv4, ps4, hBY⟩ := hB4
      have hcY := hc4
      have HE2 : Hid (putS wd (out, line) cl = ((endS wd (out, line) true).1, (endS wd (out, line) true).2 ++ cl)) := hide (by unfold putS; rw [HRM.out])
      have hl4 : (endS wd (out, line) true).2.length ≤ wd := Nat.zero_le _
      generalize endS wd (out, line) true = sY at *
      obtain ⟨outY, lineY⟩ := sY
      simp only at HE2 hl4
      clear hst4 hsy4 hc4 HEN HCX s0 s2 hwr
      obtain ⟨A4, c4, hlv4, _, _, _⟩ := hBY.line.slc.open_
      simp only at hlv4
      subst hlv4
      have s2 := (hBlk hBY).2
      have hap4 := hBY.apart
      have hbd4 : ∀ gg, (Value.slice A4 lineY.length c4).ownBlock = some gg → Bears [74] w4 gg := fun gg hgg => by
        obtain ⟨_, _, xs, hown, _⟩ := hBY.line
        exact (own_bears hown gg hgg).2
      have hline4 : Own2 RCell 74 [21] base 0 w4 (.slice A4 lineY.length c4) lineY := hBY.line
      go_upto_region 6 with fail
      go_wp2_with (at_builtin; refine wpList_app2y rfl (.tmp 38) (.tmp 39) 23 rfl RCell 74 [21] base 0 32 _ Tryd.underlying23 cell_info rfl (by decide) (by decide) _ _ rfl hline4 _ _ _ rfl hcY (by omega) hzY ?_; intro v6 w6 hv6 hst6 hg6 ho6; have hlc6 := lns_stay hBY.lns.cells hg6 hbd4 hap4; have hrow6 := hBY.lns.row.flat_step RSl.flat hst6 (by decide); have bk6 := hBY.blk.step hst6 (by decide); have hap6 : ∀ p ∈ ps4, ∀ gg, v6.ownBlock = some gg → p.1.ownBlock ≠ some gg := (fun p hp gg hgg e => (by rcases ho6 with ho6 | ho6; exact hap4 p hp gg (ho6.symm.trans hgg) e; have h1 := ((hBY.lns.cells p hp).lt_ gg e).2; rw [ho6] at hgg; injection hgg with hgg; omega)); have hst6b : Step base [90, 38, 74] w4 w6 := hst6.mono (Nat.le_refl _) (by decide); have hst6a := hstY.trans hst6b; have f2 := bk6.frozen 2; have s2 := bk6.cell 2; simp only [List.getElem?_toArray, List.getElem?_cons_succ, List.getElem?_cons_zero] at s2; obtain ⟨A6, n6, c6, rfl⟩ : ∃ A6 n6 c6, v6 = .slice A6 n6 c6 := (by obtain ⟨A, c, e, _⟩ := hv6.slc.open_; exact ⟨A, _, c, e⟩))
      have hst7 : Step base [90] w6 (w6.setCell ⟨g, 2, none⟩ (.slice A6 n6 c6)) := (Step.refl base [90] w6).setCell (p := ⟨g, 2, none⟩) hBY.ge bk6.bears _
      go_end0
      rw [HCW.out, HE2.out]
      have hst7b : Step base [90, 38, 74] w6 (w6.setCell ⟨g, 2, none⟩ (.slice A6 n6 c6)) := hst7.mono (Nat.le_refl _) (by decide)
      exact ⟨⟨_, rfl⟩, ⟨_, _, ps4, hBY.ge, bk6.set_ 2 (.slice A6 n6 c6), ⟨hrow6.flat_step RSl.flat hst7 (by decide), fun p hp => (hlc6 p hp).step hst7 (by decide) (by decide), hBY.lns.apart⟩, hBY.eq, hv6.step hst7 (by decide) (by decide), hap6⟩, hst6a.trans hst7b⟩
    · have hri : ¬ (wd : Int) - line.length < cl.length := by omega
      have HRM : Hid (roomS wd (out, line) cl = (out, line)) := hide (if_neg hroom)
      have HE2 : Hid (putS wd (out, line) cl = (out, line ++ cl)) := hide (by unfold putS; rw [HRM.out])
      clear hroom
      go_wp2
      go_quiet (fail)
      go_upto_region 6 with fail
      have hBY := hBX.step ((Step.refl base [] w3).drewN nq) (by simp) (by simp) (by simp) (by simp)
      have hcY := hcX.drewN nq
      have hstY := hstX.drewN nq
      have hzY : base ≤ (w3.drewN nq).heap.size := hzX
      clear hBX hcX hstX hzX hapX s0 s2 hwr
      generalize w3.drewN nq = w4 at *
      have hl4 := hl
      have s2 := (hBlk hBY).2
      have hap4 := hBY.apart
      have hbd4 : ∀ gg, (Value.slice Al line.length cl0).ownBlock = some gg → Bears [74] w4 gg := fun gg hgg => by
        obtain ⟨_, _, xs, hown, _⟩ := hBY.line
        exact (own_bears hown gg hgg).2
      have hline4 : Own2 RCell 74 [21] base 0 w4 (.slice Al line.length cl0) line := hBY.line
      go_upto_region 6 with fail
      go_wp2_with (at_builtin; refine wpList_app2y rfl (.tmp 38) (.tmp 39) 23 rfl RCell 74 [21] base 0 32 _ Tryd.underlying23 cell_info rfl (by decide) (by decide) _ _ rfl hline4 _ _ _ rfl hcY (by omega) hzY ?_; intro v6 w6 hv6 hst6 hg6 ho6; have hlc6 := lns_stay hBY.lns.cells hg6 hbd4 hap4; have hrow6 := hBY.lns.row.flat_step RSl.flat hst6 (by decide); have bk6 := hBY.blk.step hst6 (by decide); have hap6 : ∀ p ∈ ps, ∀ gg, v6.ownBlock = some gg → p.1.ownBlock ≠ some gg := (fun p hp gg hgg e => (by rcases ho6 with ho6 | ho6; exact hap4 p hp gg (ho6.symm.trans hgg) e; have h1 := ((hBY.lns.cells p hp).lt_ gg e).2; rw [ho6] at hgg; injection hgg with hgg; omega)); have hst6b : Step base [90, 38, 74] w4 w6 := hst6.mono (Nat.le_refl _) (by decide); have hst6a := hstY.trans hst6b; have f2 := bk6.frozen 2; have s2 := bk6.cell 2; simp only [List.getElem?_toArray, List.getElem?_cons_succ, List.getElem?_cons_zero] at s2; obtain ⟨A6, n6, c6, rfl⟩ : ∃ A6 n6 c6, v6 = .slice A6 n6 c6 := (by obtain ⟨A, c, e, _⟩ := hv6.slc.open_; exact ⟨A, _, c, e⟩))
      have hst7 : Step base [90] w6 (w6.setCell ⟨g, 2, none⟩ (.slice A6 n6 c6)) := (Step.refl base [90] w6).setCell (p := ⟨g, 2, none⟩) hBY.ge bk6.bears _
      go_end0
      rw [HCW.out, HE2.out]
      have hst7b : Step base [90, 38, 74] w6 (w6.setCell ⟨g, 2, none⟩ (.slice A6 n6 c6)) := hst7.mono (Nat.le_refl _) (by decide)
      exact ⟨⟨_, rfl⟩, ⟨_, _, ps, hBY.ge, bk6.set_ 2 (.slice A6 n6 c6), ⟨hrow6.flat_step RSl.flat hst7 (by decide), fun p hp => (hlc6 p hp).step hst7 (by decide) (by decide), hBY.lns.apart⟩, hBY.eq, hv6.step hst7 (by decide) (by decide), hap6⟩, hst6a.trans hst7b⟩
  · have hbi : ¬ (wd : Int) < n.length := by omega
    obtain ⟨cl, hcle⟩ : ∃ cl, n = cl := ⟨_, rfl⟩
    subst hcle
    have HCW : Hid (cellsW wd (k, t) = n) := hide (brk_cells HNN.out hbig)
    have hcn : n.length ≤ wd ∧ n.length ≤ 2 := by have := HCL.out; rw [HCW.out] at this; omega
    have hBX := hB1
    have hstX := hst1
    have hzX := hz1
    have hapX := hcl1
    have hcX := hcv1
    clear hB1 hst1 hcl1 hcv1 s0
    have s0 := (hBlk hBX).1
    have s2 := (hBlk hBX).2
    have hwr : IntKind.i64.wrap ((wd : Int) - line.length) = (wd : Int) - line.length := IntWalk.i64_in _ (by omega)
    by_cases hroom : wd - line.length < n.length
    · have hri : (wd : Int) - line.length < n.length := by omega
      have HRM : Hid (roomS wd (out, line) n = endS wd (out, line) true) := hide (if_pos hroom)
      have HEN := hide (fun q => End_ok base g wd (out, line) true (w1.drewN q) ov _ ps (hBX.step ((Step.refl base [] w1).drewN q) (by simp) (by simp) (by simp) (by simp)) hzX hl hwd (show out.length ≤ 1000000 by omega))
      have HCX := hide hcX
      have HAP : Hid (∀ gg, (Value.slice Al line.length cl0).ownBlock = some gg → (Value.slice Ac n.length cc).ownBlock ≠ some gg) := hide (fun gg hgg e => by have h1 := HLV.out gg hgg; have h2 := hapX gg e; omega)
      clear hroom hBX hcX hapX
      go_wp2
      go_quiet (fail)
      go_wp2_with fail
      refine (HEN.out _).mono ?_
      rintro e w4 ⟨⟨re, rfl⟩, hB4, hst4, hsy4⟩
      have hc4 := hsy4 _ _ (HCX.out.drewN _) HAP.out
      have hstY : Step base [90, 38, 74] w w4 := (hstX.drewN _).trans hst4
      have hzY : base ≤ w4.heap.size := Nat.le_trans hb hstY.size
      obtain ⟨ov4, lv4, ps4, hBY⟩ := hB4
      have hcY := hc4
      have HE2 : Hid (putS wd (out, line) n = ((endS wd (out, line) true).1, (endS wd (out, line) true).2 ++ n)) := hide (by unfold putS; rw [HRM.out])
      have hl4 : (endS wd (out, line) true).2.length ≤ wd := Nat.zero_le _
      generalize endS wd (out, line) true = sY at *
      obtain ⟨outY, lineY⟩ := sY
      simp only at HE2 hl4
      clear hst4 hsy4 hc4 HEN HCX s0 s2 hwr
      obtain ⟨A4, c4, hlv4, _, _, _⟩ := hBY.line.slc.open_
      simp only at hlv4
      subst hlv4
      have s2 := (hBlk hBY).2
      have hap4 := hBY.apart
      have hbd4 : ∀ gg, (Value.slice A4 lineY.length c4).ownBlock = some gg → Bears [74] w4 gg := fun gg hgg => by
        obtain ⟨_, _, xs, hown, _⟩ := hBY.line
        exact (own_bears hown gg hgg).2
      have hline4 : Own2 RCell 74 [21] base 0 w4 (.slice A4 lineY.length c4) lineY := hBY.line
      go_upto_region 6 with fail
      go_wp2_with (at_builtin; refine wpList_app2y rfl (.tmp 38) (.tmp 39) 23 rfl RCell 74 [21] base 0 32 _ Tryd.underlying23 cell_info rfl (by decide) (by decide) _ _ rfl hline4 _ _ _ rfl hcY (by omega) hzY ?_; intro v6 w6 hv6 hst6 hg6 ho6; have hlc6 := lns_stay hBY.lns.cells hg6 hbd4 hap4; have hrow6 := hBY.lns.row.flat_step RSl.flat hst6 (by decide); have bk6 := hBY.blk.step hst6 (by decide); have hap6 : ∀ p ∈ ps4, ∀ gg, v6.ownBlock = some gg → p.1.ownBlock ≠ some gg := (fun p hp gg hgg e => (by rcases ho6 with ho6 | ho6; exact hap4 p hp gg (ho6.symm.trans hgg) e; have h1 := ((hBY.lns.cells p hp).lt_ gg e).2; rw [ho6] at hgg; injection hgg with hgg; omega)); have hst6b : Step base [90, 38, 74] w4 w6 := hst6.mono (Nat.le_refl _) (by decide); have hst6a := hstY.trans hst6b; have f2 := bk6.frozen 2; have s2 := bk6.cell 2; simp only [List.getElem?_toArray, List.getElem?_cons_succ, List.getElem?_cons_zero] at s2; obtain ⟨A6, n6, c6, rfl⟩ : ∃ A6 n6 c6, v6 = .slice A6 n6 c6 := (by obtain ⟨A, c, e, _⟩ := hv6.slc.open_; exact ⟨A, _, c, e⟩))
      have hst7 : Step base [90] w6 (w6.setCell ⟨g, 2, none⟩ (.slice A6 n6 c6)) := (Step.refl base [90] w6).setCell (p := ⟨g, 2, none⟩) hBY.ge bk6.bears _
      go_end0
      rw [HCW.out, HE2.out]
      have hst7b : Step base [90, 38, 74] w6 (w6.setCell ⟨g, 2, none⟩ (.slice A6 n6 c6)) := hst7.mono (Nat.le_refl _) (by decide)
      exact ⟨⟨_, rfl⟩, ⟨_, _, ps4, hBY.ge, bk6.set_ 2 (.slice A6 n6 c6), ⟨hrow6.flat_step RSl.flat hst7 (by decide), fun p hp => (hlc6 p hp).step hst7 (by decide) (by decide), hBY.lns.apart⟩, hBY.eq, hv6.step hst7 (by decide) (by decide), hap6⟩, hst6a.trans hst7b⟩
    · have hri : ¬ (wd : Int) - line.length < n.length := by omega
      have HRM : Hid (roomS wd (out, line) n = (out, line)) := hide (if_neg hroom)
      have HE2 : Hid (putS wd (out, line) n = (out, line ++ n)) := hide (by unfold putS; rw [HRM.out])
      clear hroom
      go_wp2
      go_quiet (fail)
      go_upto_region 6 with fail
      have hBY := hBX.step ((Step.refl base [] w1).drewN nq) (by simp) (by simp) (by simp) (by simp)
      have hcY := hcX.drewN nq
      have hstY := hstX.drewN nq
      have hzY : base ≤ (w1.drewN nq).heap.size := hzX
      clear hBX hcX hstX hzX hapX s0 s2 hwr
      generalize w1.drewN nq = w4 at *
      have hl4 := hl
      have s2 := (hBlk hBY).2
      have hap4 := hBY.apart
      have hbd4 : ∀ gg, (Value.slice Al line.length cl0).ownBlock = some gg → Bears [74] w4 gg := fun gg hgg => by
        obtain ⟨_, _, xs, hown, _⟩ := hBY.line
        exact (own_bears hown gg hgg).2
      have hline4 : Own2 RCell 74 [21] base 0 w4 (.slice Al line.length cl0) line := hBY.line
      go_upto_region 6 with fail
      go_wp2_with (at_builtin; refine wpList_app2y rfl (.tmp 38) (.tmp 39) 23 rfl RCell 74 [21] base 0 32 _ Tryd.underlying23 cell_info rfl (by decide) (by decide) _ _ rfl hline4 _ _ _ rfl hcY (by omega) hzY ?_; intro v6 w6 hv6 hst6 hg6 ho6; have hlc6 := lns_stay hBY.lns.cells hg6 hbd4 hap4; have hrow6 := hBY.lns.row.flat_step RSl.flat hst6 (by decide); have bk6 := hBY.blk.step hst6 (by decide); have hap6 : ∀ p ∈ ps, ∀ gg, v6.ownBlock = some gg → p.1.ownBlock ≠ some gg := (fun p hp gg hgg e => (by rcases ho6 with ho6 | ho6; exact hap4 p hp gg (ho6.symm.trans hgg) e; have h1 := ((hBY.lns.cells p hp).lt_ gg e).2; rw [ho6] at hgg; injection hgg with hgg; omega)); have hst6b : Step base [90, 38, 74] w4 w6 := hst6.mono (Nat.le_refl _) (by decide); have hst6a := hstY.trans hst6b; have f2 := bk6.frozen 2; have s2 := bk6.cell 2; simp only [List.getElem?_toArray, List.getElem?_cons_succ, List.getElem?_cons_zero] at s2; obtain ⟨A6, n6, c6, rfl⟩ : ∃ A6 n6 c6, v6 = .slice A6 n6 c6 := (by obtain ⟨A, c, e, _⟩ := hv6.slc.open_; exact ⟨A, _, c, e⟩))
      have hst7 : Step base [90] w6 (w6.setCell ⟨g, 2, none⟩ (.slice A6 n6 c6)) := (Step.refl base [90] w6).setCell (p := ⟨g, 2, none⟩) hBY.ge bk6.bears _
      go_end0
      rw [HCW.out, HE2.out]
      have hst7b : Step base [90, 38, 74] w6 (w6.setCell ⟨g, 2, none⟩ (.slice A6 n6 c6)) := hst7.mono (Nat.le_refl _) (by decide)
      exact ⟨⟨_, rfl⟩, ⟨_, _, ps, hBY.ge, bk6.set_ 2 (.slice A6 n6 c6), ⟨hrow6.flat_step RSl.flat hst7 (by decide), fun p hp => (hlc6 p hp).step hst7 (by decide) (by decide), hBY.lns.apart⟩, hBY.eq, hv6.step hst7 (by decide) (by decide), hap6⟩, hst6a.trans hst7b⟩
end Go.Proofs.YtbkenfljknpjgaaDoor

namespace Go.Proofs.YtbkenfljknpjgaaDoor
open Go.RowKit
set_option linter.unusedVariables false
set_option linter.unusedSimpArgs false

/-- A side, as it must be. -/
def sideR (n : Int) : Nat := (max 1 (min n 1024)).toNat
theorem sideR_range (n : Int) : 1 ≤ sideR n ∧ sideR n ≤ 1024 := by unfold sideR; omega
def badFrom : List ItemV → Nat → Option Nat
  | [], _ => none
  | i :: x, k => if rightI i = true then badFrom x (k + 1) else some k
def badI (x : List ItemV) : Option Nat := badFrom x 0
theorem bad_step {y : List ItemV} {k : Nat} (hk : k < y.length) : badFrom (y.drop k) k = if rightI y[k] = true then badFrom (y.drop (k + 1)) (k + 1) else some k := by
  rw [List.drop_eq_getElem_cons hk]; rfl
theorem bad_none : ∀ (x : List ItemV) (k : Nat), badFrom x k = none → ∀ i ∈ x, rightI i = true
  | [], _, _, i, hi => by cases hi
  | j :: x, k, h, i, hi => by
    unfold badFrom at h
    split at h
    · rename_i h1
      rcases List.mem_cons.1 hi with rfl | hi
      · exact h1
      · exact bad_none x (k + 1) h i hi
    · cases h
theorem room_len (w : Nat) (s : BrkS) (c : List CellV) : (roomS w s c).1.length ≤ s.1.length + 1 := by
  unfold roomS
  split
  · unfold endS; simp
  · omega
theorem brk_len (w : Nat) (x : List ItemV) : ∀ k, k ≤ x.length → (brkS w (x.take k)).1.length ≤ k
  | 0, _ => by simp [brkS]
  | k + 1, hk => by
    have ih := brk_len w x k (by omega)
    rw [brkS_snoc w x k (by omega)]
    have := room_len w (brkS w (x.take k)) (cellsW w x[k])
    unfold putS
    simp only
    omega
theorem rightI_short (i : ItemV) (h : rightI i = true) : i.2.length ≤ 16 := by
  rcases right_cells i h with ⟨h, _, _⟩ | ⟨_, _, h⟩ | ⟨_, _, h⟩
  · omega
  · exact (right_text 1 (.inl rfl) i.2 h).2.1
  · exact (right_text 2 (.inr rfl) i.2 h).2.1

/-- What Break returns. -/
def BrkR (b : Nat → Addr) (o : Option Nat) (L : List LineV) (w : World) (e : Ending) (w' : World) : Prop :=
  (o = none → ∃ sv ps, e = .returned (.tuple #[sv, .nilIface]) ∧ LnsP w.heap.size w' sv ps ∧ ps.map Prod.snd = L) ∧
  (∀ i, o = some i → ∃ ev, e = .returned (.tuple #[.slice none 0 0, ev]) ∧ ErrIs b w' ev 4 (some (i : Int))) ∧ Below w.heap.size w w'

set_option maxHeartbeats 4000000 in
theorem Break_ok (b : Nat → Addr) (So : Nat → Prop) (x : Value) (y : List ItemV) (n : Int) (w : World) (hE : badI y ≠ none → Sents b w) (hx : Slc RCell So (fun b => b < w.heap.size) w x y) (hlen : y.length ≤ 50000) :
    Calls Tryd.prog 23 #[x, .int .i64 n] w (BrkR b (badI y) (brkF (sideR n) y) w) := by
  obtain ⟨A, c, rfl, _, _, _⟩ := hx.open_
  obtain ⟨wd, hwd⟩ : ∃ wd, sideR n = wd := ⟨_, rfl⟩
  have hr := sideR_range n
  rw [hwd] at hr
  rw [hwd]
  have HM := hide hwd
  obtain ⟨res, hres⟩ : ∃ res, badI y = res := ⟨_, rfl⟩
  rw [hres]
  have HR := hide hres
  have HSE := hide hE
  have bn := Blk.new w 90 #[.int .i64 wd, .slice none 0 0, .slice none 0 0]
  have hb1 := (Below.refl w.heap.size w).alloc (Nat.le_refl _) (.cells #[.int .i64 wd, .slice none 0 0, .slice none 0 0] 90)
  clear hwd hres hE
  go_enter Tryd.func23, Tryd.ntmps23
  go_upto_region 1 with fail
  go_cut [6] from 9 to 13 (fun s wx => s = .pointer (some ⟨w.heap.size, 0, none⟩) ∧ wx = w.alloc (.cells #[.int .i64 wd, .slice none 0 0, .slice none 0 0] 90))
  case first =>
    rcases (by omega : n < 1 ∨ n = 1 ∨ (1 < n ∧ n < 1024) ∨ n = 1024 ∨ 1024 < n) with h1 | h1 | ⟨h1, h2⟩ | h1 | h1
    · have E : Hid ((1 : Int) = wd) := hide (by rw [← HM.out]; unfold sideR; omega)
      have h3 : n < 1024 := by omega
      go_wp2
      go_meet
      exact ⟨rfl, by rw [← E.out]⟩
    · subst h1
      have E : Hid ((1 : Int) = wd) := hide (by rw [← HM.out]; unfold sideR; omega)
      go_wp2
      go_meet
      exact ⟨rfl, by rw [← E.out]⟩
    · have E : Hid (n = wd) := hide (by rw [← HM.out]; unfold sideR; omega)
      go_wp2
      go_meet
      exact ⟨rfl, by rw [← E.out]⟩
    · subst h1
      have E : Hid ((1024 : Int) = wd) := hide (by rw [← HM.out]; unfold sideR; omega)
      go_wp2
      go_meet
      exact ⟨rfl, by rw [← E.out]⟩
    · have E : Hid ((1024 : Int) = wd) := hide (by rw [← HM.out]; unfold sideR; omega)
      go_wp2
      go_meet
      exact ⟨rfl, by rw [← E.out]⟩
  case rest =>
    obtain ⟨rfl, rfl⟩ := hcut
    go_wp2
    go_loopw [16] (fun iv wr => ∃ k : Nat, k ≤ y.length ∧ iv = .int .i64 k ∧ badI y = badFrom (y.drop k) k ∧ (∀ i ∈ y.take k, rightI i = true) ∧ BrkIs w.heap.size wr w.heap.size wd (brkS wd (y.take k)) ∧ Below w.heap.size w wr) (fun iv _ => y.length - (intOf iv).toNat)
    case atStart => exact ⟨0, Nat.zero_le _, rfl, rfl, fun i hi => (by simp at hi), ⟨_, _, [], Nat.le_refl _, bn, ⟨Own.nil_ _ _ _ _ _ (by simp), fun p hp => (by cases hp), List.Pairwise.nil⟩, rfl, Own2.nil_ _ _ _ _ _ _ (Nat.zero_le _) (by decide), fun p hp => (by cases hp)⟩, hb1⟩
    case round =>
      clear bn hb1
      obtain ⟨k, hk, rfl, hbd, hall, hbk, hbr⟩ := hrel
      have hzr := hbr.size
      by_cases hlt : k < y.length
      · obtain ⟨ab, off, v, rfl, _, q00, q01, hw0, hv⟩ := cell_at hx.slb hlt
        obtain ⟨A', c', rfl, _, _, _⟩ := hv.open_
        have hab := World.block_lt_of_cell? _ _ q00
        simp only at hab
        have q0 := (hbr.cell (p := ⟨ab, off + k * 2, none⟩) hab).trans q00
        have q1 := (hbr.cell (p := ⟨ab, off + k * 2 + 1, none⟩) hab).trans q01
        have hki : (k : Int) < y.length := by omega
        rw [bad_step hlt] at hbd
        have hsn := brkS_snoc wd y k hlt
        have htk := take_snoc' y k hlt
        have hbl := brk_len wd y k hk
        have hok := brkS_ok wd hr.1 y k hk hall
        obtain ⟨ik, hik⟩ : ∃ ik, y[k] = ik := ⟨_, rfl⟩
        obtain ⟨kw, t⟩ := ik
        rw [hik] at q0 q1 hv hbd hsn htk hw0
        simp only at q0 q1 hv hw0
        have hln := hok.len
        have HBD := hide hbd
        have HSN := hide hsn
        have HTK := hide htk
        have HALL := hide hall
        clear hbd hsn htk hik hall q00 q01 hok
        go_upto_region 5 with fail
        have hb2 := hbr.alloc hzr (.cells #[.int .i64 kw, .slice A' t.length c'] 50)
        have hbk2 := hbk.step (Step.alloc1 w.heap.size [] wr (.cells #[.int .i64 kw, .slice A' t.length c'] 50)) (by simp) (by simp) (by simp) (by simp)
        have bi := Blk.new wr 50 #[.int .i64 kw, .slice A' t.length c']
        obtain ⟨gi, hgi⟩ : ∃ gi, wr.heap.size = gi := ⟨_, rfl⟩
        rw [hgi] at bi ⊢
        generalize wr.alloc (.cells #[.int .i64 kw, .slice A' t.length c'] 50) = w2 at *
        have hz2 := hb2.size
        have hv2 : Slc (Rep.int .i32) (fun b => b < w.heap.size) (fun b => b < w.heap.size) w2 (.slice A' t.length c') t := hv.mono (Keep.below hb2) (Keep.below hb2)
        have i0 := bi.cell 0
        have i1 := bi.cell 1
        simp only [List.getElem?_toArray, List.getElem?_cons_succ, List.getElem?_cons_zero] at i0 i1
        clear hgi hbr hzr hbk q0 q1 hv
        have HIR := hide (IRight_ok _ _ kw (.slice A' t.length c') t w2 hw0 hv2)
        go_wp2_with fail
        refine HIR.out.mono ?_
        cases hri : rightI (kw, t) with
        | false =>
          rintro e w3 ⟨rfl, hc3⟩
          have hb3 := hb2.trans (hc3.mono hz2)
          have hz3 := hb3.size
          have hst3 : Step w.heap.size [] w2 w3 := Step.of_below hc3
          clear hc3
          have HE : Hid (res = some k) := hide (by rw [← HR.out, HBD.out, hri]; rfl)
          have hS3 := (HSE.out (by rw [HR.out, HE.out]; simp)).below (hb3.mono (Nat.le_refl _))
          have hEK := hS3.var 4 (by decide)
          simp only [gOf] at hEK
          have HS3 := hide hS3
          clear hri hS3 hbk2 i0 i1
          go_wp2_with fail
          refine (Wrong_ok b k 4 _ HS3.out).mono ?_
          rintro e w4 ⟨ev, rfl, hev, hc4⟩
          obtain ⟨te, ue, rfl⟩ := hev.form
          have HEV := hide hev
          clear hev
          go_wp2
          go_ret2
          refine ⟨fun h => (by rw [HE.out] at h; cases h), fun i h => ?_, hb3.trans (hc4.mono hz3)⟩
          rw [HE.out] at h
          injection h with h
          subst h
          exact ⟨_, rfl, HEV.out⟩
        | true =>
          rintro e w3 ⟨rfl, hc3⟩
          have hb3 := hb2.trans (hc3.mono hz2)
          have hz3 := hb3.size
          have hst3 : Step w.heap.size [] w2 w3 := Step.of_below hc3
          clear hc3
          have hbk3 := hbk2.step hst3 (by simp) (by simp) (by simp) (by simp)
          have bi3 := bi.step hst3 (by simp)
          have hv3 := hv2.ints_keep (Keep.old (S := fun b => b < w.heap.size) hst3 (fun b h => h))
          have HE : Hid (badI y = badFrom (y.drop (k + 1)) (k + 1)) := hide (by rw [HBD.out, hri]; rfl)
          have HPU := hide (Put_ok w.heap.size w.heap.size wd (brkS wd (y.take k)) kw (.slice A' t.length c') t _ _ w3 hbk3 hz3 hln hr.1 hr.2 (by omega) hw0 hv3 (rightI_short _ hri) hri)
          have HRI := hide hri
          have i0 := bi3.cell 0
          have i1 := bi3.cell 1
          simp only [List.getElem?_toArray, List.getElem?_cons_succ, List.getElem?_cons_zero] at i0 i1
          clear hri hbk2 hbk3 hst3 hv3 hv2 bi
          go_wp2_with fail
          refine HPU.out.mono ?_
          rintro e w4 ⟨⟨re, rfl⟩, hbk4, hst4⟩
          rw [← HSN.out] at hbk4
          have hb4 := hb3.trans (hst4.below hz3)
          clear hst4 i0 i1 bi3
          go_wp2
          go_roundw
          case rel => exact ⟨k + 1, by omega, by go_num, HE.out, fun i hi => (by rw [HTK.out] at hi; rcases List.mem_append.1 hi with hi | hi; exact HALL.out i hi; rw [List.mem_singleton] at hi; subst hi; exact HRI.out), hbk4, hb4⟩
          case measure => simp [intOf]; omega
      · obtain rfl : k = y.length := by omega
        rw [List.drop_length] at hbd
        rw [List.take_of_length_le (Nat.le_refl _)] at hbk hall
        have HE : Hid (res = none) := hide (by rw [← HR.out, hbd]; rfl)
        have hbl := brk_len wd y y.length (Nat.le_refl _)
        have hok := brkS_ok wd hr.1 y y.length (Nat.le_refl _) (by rw [List.take_of_length_le (Nat.le_refl _)]; exact hall)
        rw [List.take_of_length_le (Nat.le_refl _)] at hbl hok
        obtain ⟨ov, lv, ps, hbk⟩ := hbk
        have HEN := hide (End_ok w.heap.size w.heap.size wd (brkS wd y) false wr ov lv ps hbk hzr hok.len hr.2 (by omega))
        clear hbd hok hbk hall hbl
        go_wp2_with fail
        refine HEN.out.mono ?_
        rintro e w4 ⟨⟨re, rfl⟩, ⟨ov4, lv4, ps4, hbk4⟩, hst4, _⟩
        have hb4 := hbr.trans (hst4.below hzr)
        have s1 := hbk4.blk.cell 1
        simp only [List.getElem?_toArray, List.getElem?_cons_succ, List.getElem?_cons_zero] at s1
        have HBK := hide hbk4
        obtain ⟨A4, n4, c4, rfl⟩ : ∃ A4 n4 c4, ov4 = .slice A4 n4 c4 := by
          obtain ⟨A, c, e, _⟩ := hbk4.lns.row.slc.open_
          exact ⟨A, _, c, e⟩
        clear hst4 hbk4 HEN
        go_wp2
        go_ret2
        exact ⟨fun _ => ⟨_, ps4, rfl, HBK.out.lns, HBK.out.eq⟩, fun i h => (by rw [HE.out] at h; cases h), hb4⟩
end Go.Proofs.YtbkenfljknpjgaaDoor
