/-
  More words for memory. No program in sight.
-/
import Derived.Test.YtphdagmaamcapaaDoorMem
namespace Go.Proofs.YtphdagmaamcapaaDoor
open Go.RowKit
set_option linter.unusedVariables false

theorem Slc.slb {α : Type} {R : Rep α} {So Si : Nat → Prop} {w : World} {A : Option Addr} {n c : Nat} {l : List α} (h : Slc R So Si w (.slice A n c) l) : SlB R So Si w A l := by
  obtain ⟨A', c', he, _, _, hB⟩ := h
  injection he with e1 e2 e3
  subst e1
  exact hB

theorem Bears.ne_ {T : List TypeId} {w : World} {b g : Nat} {t : TypeId} {cs : Array Value} (h : Bears T w b) (hb : Blk w g t cs) (ht : t ∉ T) : b ≠ g := by
  rintro rfl
  obtain ⟨cs', t', fz, hh, ht'⟩ := h
  unfold Blk at hb
  rw [hb] at hh
  injection hh with hh
  injection hh with _ e
  subst e
  exact ht ht'

/-! ### Elements that lead nowhere -/
/-- Cells alone say what is read: nothing is looked up in memory. -/
def Flat {α : Type} (R : Rep α) : Prop := ∀ (S S' : Nat → Prop) (w w' : World) (vs : List Value) (x : α), R.E S w vs x → R.E S' w' vs x

/-- An x of n cells, written out. -/
def Rep.flat {α : Type} (n : Nat) (f : α → List Value) (hn : ∀ x, (f x).length = n) (h1 : ∀ x, ∀ u ∈ f x, u.oneCell' = true) : Rep α where
  sz := n
  E := fun _ _ vs x => vs = f x
  len := by rintro _ _ _ x rfl; exact hn x
  one := by rintro _ _ _ x rfl; exact h1 x
  mono := fun _ h => h

section
variable {α : Type} {R : Rep α}
theorem Flat.flat (n : Nat) (f : α → List Value) (hn : ∀ x, (f x).length = n) (h1 : ∀ x, ∀ u ∈ f x, u.oneCell' = true) : Flat (Rep.flat n f hn h1) := fun _ _ _ _ _ _ h => h
theorem Flat.int (k : IntKind) : Flat (Rep.int k) := fun _ _ _ _ _ _ h => h
theorem Els.flat (hR : Flat R) {S S' : Nat → Prop} {w w' : World} : ∀ {l : List α} {xs : List Value}, Els R S w l xs → Els R S' w' l xs
  | [], _, h => h
  | x :: l, _, ⟨u, xs', e, hu, h⟩ => ⟨u, xs', e, hR _ _ _ _ _ _ hu, h.flat hR⟩
theorem Slc.flat_any (hR : Flat R) {So Si : Nat → Prop} {w : World} {v : Value} {l : List α} (h : Slc R So Si w v l) (Si' : Nat → Prop) : Slc R So Si' w v l := by
  obtain ⟨A, c, rfl, h1, h2, xs, he, hr⟩ := h
  exact ⟨A, c, rfl, h1, h2, xs, he.flat hR, hr⟩
theorem Slc.flat_keep (hR : Flat R) {So So' Si Si' : Nat → Prop} {w w' : World} {v : Value} {l : List α} (h : Slc R So Si w v l) (hk : Keep So w So' w') : Slc R So' Si' w' v l :=
  ((h.flat_any hR (fun _ => False)).mono (Si' := fun _ => False) hk (fun _ _ h _ => h.elim)).flat_any hR _
theorem SlB.flat_keep (hR : Flat R) {So So' Si Si' : Nat → Prop} {w w' : World} {A : Option Addr} {l : List α} (h : SlB R So Si w A l) (hk : Keep So w So' w') : SlB R So' Si' w' A l := by
  obtain ⟨xs, he, hr⟩ := h
  exact ⟨xs, he.flat hR, hr.mono hk (by rw [he.length]; exact Nat.le_refl _)⟩
theorem Own.flat_step (hR : Flat R) {e : TypeId} {T es : List TypeId} {base base' : Nat} {w w' : World} {v : Value} {l : List α} (h : Own R e T base w v l) (hs : Step base' es w w') (he : e ∉ es) : Own R e T base w' v l := by
  obtain ⟨hne, xs, hown, hels⟩ := h
  refine ⟨hne, xs, ⟨hown.1, ?_⟩, hels.flat hR⟩
  rcases hown.2 with hn | ⟨g, cap, cur, rfl, hb, hg, rest⟩
  · exact .inl hn
  · refine .inr ⟨g, cap, cur, rfl, hb, ?_, rest⟩
    have hlt : g < w.heap.size := (Array.getElem?_eq_some_iff.1 hg).1
    rw [hs.block g hlt (.inr (fun ⟨cs', t', fz', hh', ht'⟩ => by
      rw [hg] at hh'; injection hh' with hh'; injection hh' with _ e'; subst e'; exact he ht'))]
    exact hg
theorem Own.flat_base (hR : Flat R) {e : TypeId} {T T' : List TypeId} {base base' : Nat} {w : World} {v : Value} {l : List α} (h : Own R e T base w v l) (hb : base' ≤ base) (hT : e ∉ T') : Own R e T' base' w v l := by
  obtain ⟨hne, xs, hown, hels⟩ := h
  refine ⟨hT, xs, ⟨hown.1, ?_⟩, hels.flat hR⟩
  rcases hown.2 with hn | ⟨g, cap, cur, rfl, hbg, rest⟩
  · exact .inl hn
  · exact .inr ⟨g, cap, cur, rfl, Nat.le_trans hb hbg, rest⟩
theorem Own.fslc (hR : Flat R) {e : TypeId} {T : List TypeId} {base : Nat} {w : World} {v : Value} {l : List α} (h : Own R e T base w v l) : Slc R (fun b => b < w.heap.size ∧ Fresh base [e] w b) (fun _ => False) w v l := h.slc.flat_any hR _

theorem Own.lt_ {e : TypeId} {T : List TypeId} {base : Nat} {w : World} {v : Value} {l : List α} (h : Own R e T base w v l) : ∀ k, v.ownBlock = some k → base ≤ k ∧ k < w.heap.size := by
  obtain ⟨_, xs, hown, _⟩ := h
  exact hown.lt

/-- append, and which block alone may have turned. -/
theorem wpList_appg {P : Program} {ops : Array Oper} {rest : List Oper} {o : Oper} {a : Act} {w : World} {Q : Exit → Act → World → Prop} (hgd : o.guard = none) (s x : Operand) (t : TypeId)
    (ho : o.op = .call { callee := .builtin .append, args := #[s, x], argTypes := #[t, t] })
    (R : Rep α) (e : TypeId) (T : List TypeId) (base bytes : Nat) (z : Value) (ht : P.underlying t = some (.slice e)) (hi : (P.info? e).map (fun i => (i.zero, i.size, i.bytes)) = some (some z, R.sz, bytes)) (hzs : z.cells.size = R.sz) (hsz : 0 < R.sz) (hb0 : 0 < bytes)
    (v : Value) (l : List α) (hs : a.eval s = v) (hown : Own R e T base w v l) (So Si : Nat → Prop) (vx : Value) (l2 : List α) (hxe : a.eval x = vx) (hx : Slc R So Si w vx l2) (hSi : ∀ b, Si b → Typed base T w b)
    (hb : (l.length + l2.length) * bytes ≤ 140737488355328) (hbase : base ≤ w.heap.size)
    (h : ∀ v' w', Own R e T base w' v' (l ++ l2) → Step base [e] w w' → w.grownBy w' v.ownBlock → (v'.ownBlock = v.ownBlock ∨ v'.ownBlock = some w.heap.size) → wpList P ops Q rest (a.put o.dst v') w') : wpList P ops Q (o :: rest) a w := by
  obtain ⟨i0, hi0, hz0, hz1, hz2⟩ := info_parts hi
  refine wpList_plain hgd fun _ hK => ?_
  obtain ⟨v', w', hrun, h2, h3, h4, h5⟩ := run_app (P := P) w R t o.type e T base i0 z bytes ht hi0 hz0 hz1 hz2 hzs hsz hb0 v l hown So Si vx l2 hx hSi hb hbase
  unfold Oper.wp execOp
  simp only [ho, resolve, invoke, builtin, Sem.run_bind, Sem.run_pure, Result.andThen_ok, List.map_toArray, List.map_cons, List.map_nil, hs, hxe, hrun]
  exact hK _ _ (h v' w' h2 h3 h4 h5)
/-- append of elements that lead nowhere, onto a row of the call's own. -/
theorem wpList_appf {P : Program} {ops : Array Oper} {rest : List Oper} {o : Oper} {a : Act} {w : World} {Q : Exit → Act → World → Prop} (hgd : o.guard = none) (s x : Operand) (t : TypeId)
    (ho : o.op = .call { callee := .builtin .append, args := #[s, x], argTypes := #[t, t] })
    (R : Rep α) (hR : Flat R) (e : TypeId) (base bytes : Nat) (z : Value) (ht : P.underlying t = some (.slice e)) (hi : (P.info? e).map (fun i => (i.zero, i.size, i.bytes)) = some (some z, R.sz, bytes)) (hzs : z.cells.size = R.sz) (hsz : 0 < R.sz) (hb0 : 0 < bytes)
    (v : Value) (l : List α) (hs : a.eval s = v) (hown : Own R e [] base w v l) (So Si : Nat → Prop) (vx : Value) (l2 : List α) (hxe : a.eval x = vx) (hx : Slc R So Si w vx l2)
    (hb : (l.length + l2.length) * bytes ≤ 140737488355328) (hbase : base ≤ w.heap.size)
    (h : ∀ v' w', Own R e [] base w' v' (l ++ l2) → Step base [e] w w' → w.grownBy w' v.ownBlock → wpList P ops Q rest (a.put o.dst v') w') : wpList P ops Q (o :: rest) a w :=
  wpList_appg hgd s x t ho R e [] base bytes z ht hi hzs hsz hb0 v l hs hown So (fun _ => False) vx l2 hxe (hx.flat_any hR _) (fun _ h => h.elim) hb hbase fun v' w' h1 h2 h3 _ => h v' w' h1 h2 h3
/-- The one-element row that 'append(out, x)' lays first, x written out. -/
theorem Slc.one_flat {n : Nat} {f : α → List Value} {hn : ∀ x, (f x).length = n} {h1 : ∀ x, ∀ u ∈ f x, u.oneCell' = true} (e : TypeId) (w : World) (m : Nat) (hm : m = w.heap.size) (x : α) (cs : Array Value) (hcs : cs = (f x).toArray) :
    Slc (Rep.flat n f hn h1) (fun _ => True) (fun _ => False) (w.alloc (.cells cs e)) (.slice (some ⟨m, 0, none⟩) 1 1) [x] := by
  subst hm; subst hcs
  exact Slc.lit1 (R := Rep.flat n f hn h1) (Si := fun _ => False) e rfl (fun _ _ h => h.elim)
end
end Go.Proofs.YtphdagmaamcapaaDoor
