/-
  append of rows of the call's own, as one step of a region that draws its order. No program in sight.
-/
import Derived.Test.YtphdagmaamcapaaDoorMem4
import Derived.Test.YtphdagmaamcapaaDoorFit0
namespace Go.Proofs.YtphdagmaamcapaaDoor
open Go.RowKit
set_option linter.unusedVariables false
set_option linter.unusedSimpArgs false

theorem Own2.lt_ {α : Type} {R : Rep α} {e : TypeId} {T : List TypeId} {base bi : Nat} {w : World} {v : Value} {l : List α} (h : Own2 R e T base bi w v l) : ∀ k, v.ownBlock = some k → base ≤ k ∧ k < w.heap.size := by
  obtain ⟨_, _, xs, hown, _⟩ := h
  exact hown.lt
/-- A block that is not the row's own stays. -/
theorem gb_blk {w w' : World} {v : Value} {n g : Nat} {t : TypeId} {cs : Array Value} (h : w.grownBy w' v.ownBlock) (hv : ∀ k, v.ownBlock = some k → k < n) (hg : n ≤ g) (hb : Blk w g t cs) : Blk w' g t cs :=
  (h.block g hb.lt (fun e => by have := hv g e.symm; omega)).trans hb
theorem gb_cell {w w' : World} {v : Value} {n g o : Nat} {u : Value} (h : w.grownBy w' v.ownBlock) (hv : ∀ k, v.ownBlock = some k → k < n) (hg : n ≤ g) (hb : w.cell? ⟨g, o, none⟩ = some u) : w'.cell? ⟨g, o, none⟩ = some u :=
  (World.cell?_of_block (h.block g (World.block_lt_of_cell? w _ hb) (fun e => by have := hv g e.symm; omega))).trans hb

theorem step_app2 {α : Type} {P : Program} {ops : Array Oper} {o : Oper} {a : Act} {w : World} {K : Act → World → Prop} {Q : Exit → Act → World → Prop} {E : Prop} (hgd : o.guard = none) (s x : Operand) (t : TypeId)
    (ho : o.op = .call { callee := .builtin .append, args := #[s, x], argTypes := #[t, t] })
    (R : Rep α) (e : TypeId) (T : List TypeId) (base bi bytes : Nat) (z : Value) (ht : P.underlying t = some (.slice e)) (hi : (P.info? e).map (fun i => (i.zero, i.size, i.bytes)) = some (some z, R.sz, bytes)) (hzs : z.cells.size = R.sz) (hsz : 0 < R.sz) (hb0 : 0 < bytes)
    (v : Value) (l : List α) (hs : a.eval s = v) (hown : Own2 R e T base bi w v l) (base2 : Nat) (ad : Addr) (m c : Nat) (l2 : List α) (hxe : a.eval x = .slice (some ad) m c) (hx : Own2 R e T base2 bi w (.slice (some ad) m c) l2) (hm : 0 < l2.length)
    (hb : (l.length + l2.length) * bytes ≤ 140737488355328) (hbase : base ≤ w.heap.size)
    (h : ∀ v' w', Own2 R e T base bi w' v' (l ++ l2) → Step base [e] w w' → w.grownBy w' v.ownBlock → K (a.put o.dst v') w') :
    if Region.wanted o (yielded ops a.tmps) = true then Oper.wp P o a w K Q else E := by
  have hw : Region.wanted o (yielded ops a.tmps) = true := by simp [Region.wanted, hgd]
  rw [if_pos hw]
  obtain ⟨i0, hi0, hz0, hz1, hz2⟩ := info_parts hi
  obtain ⟨hbb, hne, xs, hor, hels⟩ := hown
  obtain ⟨_, _, ys, hor2, hels2⟩ := hx
  have h63 : l.length + l2.length ≤ maxLen := by
    have := Nat.le_trans (Nat.le_mul_of_pos_right (l.length + l2.length) hb0) hb
    simp only [maxLen]; omega
  rcases hor2.2 with ⟨hv, h0⟩ | ⟨g, cap, cur, hv, _, _, _, _, _⟩
  · omega
  · injection hv with e1 e2 e3
    injection e1 with e1
    subst e1; subst e2; subst e3
    have hcells := hor2.cells (g := g) rfl
    obtain ⟨v', w', hrun, hown', hgr, _, h5⟩ := run_append_own_at (P := P) w base t o.type e i0 z R.sz bytes ht hi0 hz0 hz1 hz2 hzs hsz v l.length xs hor ⟨g, 0, none⟩ l2.length c ys
      hels2.length hcells hels2.one h63 hb hbase
    have hst : Step base [e] w w' := Step.of_grown hgr (own_bears hor)
    have hk := Keep.step (T := T) (hst.mono hbb (fun _ h => h)) (fun t' ht' he => by simp at he; subst he; exact hne ht')
    unfold Oper.wp execOp
    simp only [ho, resolve, invoke, builtin, Sem.run_bind, Sem.run_pure, Result.andThen_ok, List.map_toArray, List.map_cons, List.map_nil, hs, hxe, hrun]
    exact h v' w' ⟨hbb, hne, xs ++ ys, by simpa using hown', (hels.mono hk).append (hels2.mono hk)⟩ hst hgr

/-- append of rows of the call's own, empty ones too. -/
theorem run_app2 {α : Type} {P : Program} (w : World) (R : Rep α) (t ty e : TypeId) (T : List TypeId) (base bi base2 : Nat) (i : TypeInfo) (z : Value) (bytes : Nat) (ht : P.underlying t = some (.slice e)) (hi : P.info? e = some i)
    (hz : i.zero = some z) (hsize : i.size = R.sz) (hby : i.bytes = bytes) (hzs : z.cells.size = R.sz) (hsz : 0 < R.sz) (hb0 : 0 < bytes)
    (v : Value) (l : List α) (hown : Own2 R e T base bi w v l) (vx : Value) (l2 : List α) (hx : Own2 R e T base2 bi w vx l2)
    (hb : (l.length + l2.length) * bytes ≤ 140737488355328) (hbase : base ≤ w.heap.size) :
    ∃ v' w', (Builtin.append_ #[t, t] ty #[v, vx]).run P w = .ok v' w' ∧ Own2 R e T base bi w' v' (l ++ l2) ∧ Step base [e] w w' ∧ w.grownBy w' v.ownBlock := by
  have hown0 := hown
  obtain ⟨hbb, hne, xs, hor, hels⟩ := hown
  obtain ⟨_, _, ys, hor2, hels2⟩ := hx
  have h63 : l.length + l2.length ≤ maxLen := by
    have := Nat.le_trans (Nat.le_mul_of_pos_right (l.length + l2.length) hb0) hb
    simp only [maxLen]; omega
  rcases hor2.2 with ⟨hv, h0⟩ | ⟨g, cap, cur, hv, _, _, _, _, _⟩
  · have : l2 = [] := List.eq_nil_of_length_eq_zero h0
    subst this; subst hv
    refine ⟨v, w, ?_, by simpa using hown0, Step.refl _ _ _, World.grownBy.refl w _⟩
    rcases hor.2 with ⟨rfl, h00⟩ | ⟨g, cap, cur, rfl, _, _, hnc, _⟩
    · simp [Builtin.append_, run_underlying ht, sizeOf, typeInfo, hi, Builtin.lenOf, Builtin.firstCells, loadCells, loadCellsFrom]
    · simp [Builtin.append_, run_underlying ht, sizeOf, typeInfo, hi, Builtin.lenOf, Builtin.firstCells, hnc, storeCells, loadCells, loadCellsFrom]
  · subst hv
    rcases Nat.eq_zero_or_pos l2.length with h0 | h0
    · have : l2 = [] := List.eq_nil_of_length_eq_zero h0
      subst this
      refine ⟨v, w, ?_, by simpa using hown0, Step.refl _ _ _, World.grownBy.refl w _⟩
      rcases hor.2 with ⟨rfl, h00⟩ | ⟨g', cap', cur', rfl, _, _, hnc, _⟩
      · simp [Builtin.append_, run_underlying ht, sizeOf, typeInfo, hi, Builtin.lenOf, Builtin.firstCells, loadCells, loadCellsFrom]
      · simp [Builtin.append_, run_underlying ht, sizeOf, typeInfo, hi, Builtin.lenOf, Builtin.firstCells, hnc, storeCells, loadCells, loadCellsFrom]
    · have hcells := hor2.cells (g := g) rfl
      obtain ⟨v', w', hrun, hown', hgr, _, h5⟩ := run_append_own_at (P := P) w base t ty e i z R.sz bytes ht hi hz hsize hby hzs hsz v l.length xs hor ⟨g, 0, none⟩ l2.length cap ys
        hels2.length hcells hels2.one h63 hb hbase
      have hst : Step base [e] w w' := Step.of_grown hgr (own_bears hor)
      have hk := Keep.step (T := T) (hst.mono hbb (fun _ h => h)) (fun t' ht' he => by simp at he; subst he; exact hne ht')
      exact ⟨v', w', hrun, ⟨hbb, hne, xs ++ ys, by simpa using hown', (hels.mono hk).append (hels2.mono hk)⟩, hst, hgr⟩
theorem step_app2x {α : Type} {P : Program} {ops : Array Oper} {o : Oper} {a : Act} {w : World} {K : Act → World → Prop} {Q : Exit → Act → World → Prop} {E : Prop} (hgd : o.guard = none) (s x : Operand) (t : TypeId)
    (ho : o.op = .call { callee := .builtin .append, args := #[s, x], argTypes := #[t, t] })
    (R : Rep α) (e : TypeId) (T : List TypeId) (base bi bytes : Nat) (z : Value) (ht : P.underlying t = some (.slice e)) (hi : (P.info? e).map (fun i => (i.zero, i.size, i.bytes)) = some (some z, R.sz, bytes)) (hzs : z.cells.size = R.sz) (hsz : 0 < R.sz) (hb0 : 0 < bytes)
    (v : Value) (l : List α) (hs : a.eval s = v) (hown : Own2 R e T base bi w v l) (base2 : Nat) (vx : Value) (l2 : List α) (hxe : a.eval x = vx) (hx : Own2 R e T base2 bi w vx l2)
    (hb : (l.length + l2.length) * bytes ≤ 140737488355328) (hbase : base ≤ w.heap.size)
    (h : ∀ v' w', Own2 R e T base bi w' v' (l ++ l2) → Step base [e] w w' → w.grownBy w' v.ownBlock → K (a.put o.dst v') w') :
    if Region.wanted o (yielded ops a.tmps) = true then Oper.wp P o a w K Q else E := by
  have hw : Region.wanted o (yielded ops a.tmps) = true := by simp [Region.wanted, hgd]
  rw [if_pos hw]
  obtain ⟨i0, hi0, hz0, hz1, hz2⟩ := info_parts hi
  obtain ⟨v', w', hrun, h2, h3, h4⟩ := run_app2 (P := P) w R t o.type e T base bi base2 i0 z bytes ht hi0 hz0 hz1 hz2 hzs hsz hb0 v l hown vx l2 hx hb hbase
  unfold Oper.wp execOp
  simp only [ho, resolve, invoke, builtin, Sem.run_bind, Sem.run_pure, Result.andThen_ok, List.map_toArray, List.map_cons, List.map_nil, hs, hxe, hrun]
  exact h v' w' h2 h3 h4
theorem wpList_app2x {α : Type} {P : Program} {ops : Array Oper} {rest : List Oper} {o : Oper} {a : Act} {w : World} {Q : Exit → Act → World → Prop} (hgd : o.guard = none) (s x : Operand) (t : TypeId)
    (ho : o.op = .call { callee := .builtin .append, args := #[s, x], argTypes := #[t, t] })
    (R : Rep α) (e : TypeId) (T : List TypeId) (base bi bytes : Nat) (z : Value) (ht : P.underlying t = some (.slice e)) (hi : (P.info? e).map (fun i => (i.zero, i.size, i.bytes)) = some (some z, R.sz, bytes)) (hzs : z.cells.size = R.sz) (hsz : 0 < R.sz) (hb0 : 0 < bytes)
    (v : Value) (l : List α) (hs : a.eval s = v) (hown : Own2 R e T base bi w v l) (base2 : Nat) (vx : Value) (l2 : List α) (hxe : a.eval x = vx) (hx : Own2 R e T base2 bi w vx l2)
    (hb : (l.length + l2.length) * bytes ≤ 140737488355328) (hbase : base ≤ w.heap.size)
    (h : ∀ v' w', Own2 R e T base bi w' v' (l ++ l2) → Step base [e] w w' → w.grownBy w' v.ownBlock → wpList P ops Q rest (a.put o.dst v') w') : wpList P ops Q (o :: rest) a w := by
  obtain ⟨i0, hi0, hz0, hz1, hz2⟩ := info_parts hi
  refine wpList_plain hgd fun _ hK => ?_
  obtain ⟨v', w', hrun, h2, h3, h4⟩ := run_app2 (P := P) w R t o.type e T base bi base2 i0 z bytes ht hi0 hz0 hz1 hz2 hzs hsz hb0 v l hown vx l2 hx hb hbase
  unfold Oper.wp execOp
  simp only [ho, resolve, invoke, builtin, Sem.run_bind, Sem.run_pure, Result.andThen_ok, List.map_toArray, List.map_cons, List.map_nil, hs, hxe, hrun]
  exact hK _ _ (h v' w' h2 h3 h4)
end Go.Proofs.YtphdagmaamcapaaDoor
