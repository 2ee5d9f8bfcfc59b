/-
  append onto a slice that is full: what it reads as. No program in sight.
-/
import Derived.Test.YtphdagmaamcapaaDoorMem2
import Derived.ArgAppend
namespace Go.Proofs.YtphdagmaamcapaaDoor
open Go.RowKit
set_option linter.unusedVariables false

section
variable {P : Program} {α : Type}
theorem run_app_full (w : World) (R : Rep α) (t ty e : TypeId) (i : TypeInfo) (z : Value) (bytes : Nat) (ht : P.underlying t = some (.slice e)) (hi : P.info? e = some i)
    (hz : i.zero = some z) (hsize : i.size = R.sz) (hby : i.bytes = bytes) (hzs : z.cells.size = R.sz) (hsz : 0 < R.sz) (hb0 : 0 < bytes)
    (b off n : Nat) (l : List α) (hn : 0 < n) (So Si To Ti : Nat → Prop) (h1 : Slc R So Si w (.slice (some ⟨b, off, none⟩) n n) l) (vx : Value) (l2 : List α) (h2 : Slc R To Ti w vx l2)
    (hb : (n + l2.length) * bytes ≤ 140737488355328) :
    ∃ v' w', (Builtin.append_ #[t, t] ty #[.slice (some ⟨b, off, none⟩) n n, vx]).run P w = .ok v' w' ∧ Slc R (fun b => b < w'.heap.size) (fun b => b < w'.heap.size) w' v' (l ++ l2) ∧ Below w.heap.size w w' := by
  have h1' := h1
  obtain ⟨A, c, he, hc1, hc2, xs, hels, hrow⟩ := h1
  injection he with e1 e2 e3
  subst e1; subst e2; subst e3
  obtain ⟨A2, c2, rfl, hd1, hd2, ys, hels2, hrow2⟩ := h2
  have h63 : l.length + l2.length ≤ maxLen := by
    have := Nat.le_trans (Nat.le_mul_of_pos_right (l.length + l2.length) hb0) hb
    simp only [maxLen]; omega
  rcases Nat.eq_zero_or_pos l2.length with h0 | h0
  · have : l2 = [] := List.eq_nil_of_length_eq_zero h0
    subst this
    refine ⟨_, w, ?_, by rw [List.append_nil]; exact h1'.mono (Keep.lt _ _) (Keep.lt _ _), Below.refl _ _⟩
    cases A2 <;> simp [Builtin.append_, run_underlying ht, sizeOf, typeInfo, hi, Builtin.lenOf, Builtin.firstCells, storeCells, loadCells, loadCellsFrom]
  · obtain ⟨a, rfl, _, hcells⟩ := hrow2 (Nat.mul_pos h0 hsz)
    obtain ⟨a1, ha1, _, hcells1⟩ := hrow (Nat.mul_pos hn hsz)
    injection ha1 with ha1
    subst ha1
    obtain ⟨v', w', hrun, hown, hg⟩ := run_append_arg_grows (P := P) w t ty e i z R.sz bytes ht hi hz hsize hby hzs hsz ⟨b, off, none⟩ l.length l.length xs hels.length hcells1 a l2.length c2 ys hels2.length hcells (by omega) h63 hb
    have hbel : Below w.heap.size w w' := ⟨hg.os, hg.tape, hg.output, hg.size, fun k hk => hg.block k hk (by simp)⟩
    refine ⟨v', w', hrun, ?_, hbel⟩
    have hlt := hown.lt
    rcases hown.2 with ⟨rfl, h00⟩ | ⟨g, cap, cur, rfl, hbg, hgg, hnc, hm, _⟩
    · omega
    · have hl : l.length + l2.length = (l ++ l2).length := by simp
      rw [hl] at hnc
      refine ⟨_, cap, by rw [hl], hnc, hm, xs ++ ys, (hels.mono ((Keep.below hbel).trans (Keep.lt _ _))).append (hels2.mono ((Keep.below hbel).trans (Keep.lt _ _))), fun _ => ⟨⟨g, 0, none⟩, rfl, (hlt g rfl).2, hown.cells (g := g) rfl⟩⟩
theorem wpList_appfull {ops : Array Oper} {rest : List Oper} {o : Oper} {a : Act} {w : World} {Q : Exit → Act → World → Prop} (hgd : o.guard = none) (s x : Operand) (t : TypeId)
    (ho : o.op = .call { callee := .builtin .append, args := #[s, x], argTypes := #[t, t] })
    (R : Rep α) (e : TypeId) (bytes : Nat) (z : Value) (ht : P.underlying t = some (.slice e)) (hi : (P.info? e).map (fun i => (i.zero, i.size, i.bytes)) = some (some z, R.sz, bytes)) (hzs : z.cells.size = R.sz) (hsz : 0 < R.sz) (hb0 : 0 < bytes)
    (b off n : Nat) (l : List α) (hn : 0 < n) (hs : a.eval s = .slice (some ⟨b, off, none⟩) n n) (So Si To Ti : Nat → Prop) (h1 : Slc R So Si w (.slice (some ⟨b, off, none⟩) n n) l) (vx : Value) (l2 : List α) (hxe : a.eval x = vx) (h2 : Slc R To Ti w vx l2)
    (hb : (n + l2.length) * bytes ≤ 140737488355328)
    (h : ∀ v' w', Slc R (fun b => b < w'.heap.size) (fun b => b < w'.heap.size) w' v' (l ++ l2) → Below w.heap.size w w' → wpList P ops Q rest (a.put o.dst v') w') : wpList P ops Q (o :: rest) a w := by
  obtain ⟨i0, hi0, hz0, hz1, hz2⟩ := info_parts hi
  refine wpList_plain hgd fun _ hK => ?_
  obtain ⟨v', w', hrun, h3, h4⟩ := run_app_full (P := P) w R t o.type e i0 z bytes ht hi0 hz0 hz1 hz2 hzs hsz hb0 b off n l hn So Si To Ti h1 vx l2 h2 hb
  unfold Oper.wp execOp
  simp only [ho, resolve, invoke, builtin, Sem.run_bind, Sem.run_pure, Result.andThen_ok, List.map_toArray, List.map_cons, List.map_nil, hs, hxe, hrun]
  exact hK _ _ (h v' w' h3 h4)
end

/-! ### A row of the call's own whose elements lead to memory of the call's own alone -/
def Own2 {α : Type} (R : Rep α) (e : TypeId) (T : List TypeId) (base bi : Nat) (w : World) (v : Value) (l : List α) : Prop :=
  bi ≤ base ∧ e ∉ T ∧ ∃ xs, w.ownsRow base e R.sz v l.length xs ∧ Els R (Typed bi T w) w l xs
section
variable {α : Type} {R : Rep α} {e : TypeId} {T es : List TypeId} {base bi : Nat} {w w' : World} {v : Value} {l : List α}
theorem Own2.nil_ (R : Rep α) (e : TypeId) (T : List TypeId) (base bi : Nat) (w : World) (hb : bi ≤ base) (hT : e ∉ T) : Own2 R e T base bi w (.slice none 0 0) [] :=
  ⟨hb, hT, [], World.ownsRow_nil _ _ _ _, rfl⟩
theorem Own2.step (h : Own2 R e T base bi w v l) (hs : Step base es w w') (he : e ∉ es) (hT : ∀ t ∈ T, t ∉ es) : Own2 R e T base bi w' v l := by
  obtain ⟨hbb, hne, xs, hown, hels⟩ := h
  refine ⟨hbb, hne, xs, ⟨hown.1, ?_⟩, hels.mono (Keep.step (hs.mono hbb (fun _ h => h)) hT)⟩
  rcases hown.2 with hn | ⟨g, cap, cur, rfl, hb, hg, rest⟩
  · exact .inl hn
  · refine .inr ⟨g, cap, cur, rfl, hb, ?_, rest⟩
    have hlt : g < w.heap.size := (Array.getElem?_eq_some_iff.1 hg).1
    rw [hs.block g hlt (.inr (fun ⟨cs', t', fz', hh', ht'⟩ => by
      rw [hg] at hh'; injection hh' with hh'; injection hh' with _ e'; subst e'; exact he ht'))]
    exact hg
theorem Own2.below (h : Own2 R e T base bi w v l) (hb : Below w.heap.size w w') : Own2 R e T base bi w' v l :=
  h.step (es := []) (Step.of_below hb) (by simp) (by simp)
theorem Own2.alloc (h : Own2 R e T base bi w v l) (o : Obj) : Own2 R e T base bi (w.alloc o) v l :=
  h.step (es := []) (Step.alloc1 base [] w o) (by simp) (by simp)
theorem Own2.own (h : Own2 R e T base bi w v l) (b0 : Nat) (h1 : bi ≤ b0) (h2 : b0 ≤ base) : Own R e T b0 w v l := by
  obtain ⟨hbb, hne, xs, hown, hels⟩ := h
  refine ⟨hne, xs, ⟨hown.1, ?_⟩, hels.mono (Keep.weaken (Typed.more h1 (fun _ h => h)))⟩
  rcases hown.2 with hn | ⟨g, cap, cur, rfl, hb, rest⟩
  · exact .inl hn
  · exact .inr ⟨g, cap, cur, rfl, Nat.le_trans h2 hb, rest⟩
theorem Own2.drewN (h : Own2 R e T base bi w v l) (n : Nat) : Own2 R e T base bi (w.drewN n) v l :=
  h.step (es := []) ((Step.refl base [] w).drewN n) (by simp) (by simp)
theorem Own2.dr (h : Own2 R e T base bi w v l) : Own2 R e T base bi w.drew v l :=
  h.step (es := []) ((Step.refl base [] w).drew) (by simp) (by simp)
theorem Own2.slc (h : Own2 R e T base bi w v l) : Slc R (fun b => b < w.heap.size ∧ Fresh base [e] w b) (Typed bi T w) w v l := by
  obtain ⟨_, _, xs, hown, hels⟩ := h
  have hb := own_bears hown
  have hlt := hown.lt
  rcases hown.2 with ⟨rfl, h0⟩ | ⟨g, cap, cur, rfl, hbg, hg, hn, hm, _⟩
  · have : l = [] := List.eq_nil_of_length_eq_zero h0
    subst this
    exact Slc.nil_
  · refine ⟨_, cap, rfl, hn, hm, xs, hels, fun _ => ⟨⟨g, 0, none⟩, rfl, ⟨(hlt g rfl).2, (hb g rfl).1, (hb g rfl).2⟩, hown.cells (g := g) rfl⟩⟩
theorem Own2.down (h : Own2 R e T base bi w v l) (b0 : Nat) (h1 : bi ≤ b0) (h2 : b0 ≤ base) : Own2 R e T b0 bi w v l := by
  obtain ⟨hbb, hne, xs, hown, hels⟩ := h
  refine ⟨h1, hne, xs, ⟨hown.1, ?_⟩, hels⟩
  rcases hown.2 with hn | ⟨g, cap, cur, rfl, hb, rest⟩
  · exact .inl hn
  · exact .inr ⟨g, cap, cur, rfl, Nat.le_trans h2 hb, rest⟩
theorem own2_open (h : Own2 R e T base bi w v l) (hl : 0 < l.length) :
    ∃ g cap xs rest, v = .slice (some ⟨g, 0, none⟩) l.length cap ∧ base ≤ g ∧ Blk w g e (xs ++ rest).toArray ∧ xs.length = l.length * R.sz ∧ Els R (Typed bi T w) w l xs ∧ (xs ++ rest).length = cap * R.sz ∧ l.length ≤ cap ∧ cap ≤ maxLen := by
  obtain ⟨hbb, hT, xs, ⟨hx, hown⟩, hels⟩ := h
  rcases hown with ⟨_, h0⟩ | ⟨g, cap, cur, rfl, hb, hh, hc, hm, hs, ht⟩
  · omega
  · refine ⟨g, cap, xs, cur.toList.drop (l.length * R.sz), rfl, hb, ?_, hx, hels, ?_, hc, hm⟩
    · rw [← ht, List.take_append_drop]; exact hh
    · rw [← ht, List.take_append_drop]; simpa using hs
theorem own2_shut {g cap n : Nat} {xs rest : List Value} (hbb : bi ≤ base) (hT : e ∉ T) (hb : base ≤ g) (hh : Blk w g e (xs ++ rest).toArray) (hels : Els R (Typed bi T w) w l xs)
    (hn : l.length = n) (hs : (xs ++ rest).length = cap * R.sz) (hc : n ≤ cap) (hm : cap ≤ maxLen) : Own2 R e T base bi w (.slice (some ⟨g, 0, none⟩) n cap) l := by
  subst hn
  have hx := hels.length
  refine ⟨hbb, hT, xs, ⟨hx, .inr ⟨g, cap, _, rfl, hb, hh, hc, hm, by simpa using hs, ?_⟩⟩, hels⟩
  rw [← hx]; simp
theorem Own2.lit {xs : List Value} {n : Nat} (hbb : bi ≤ base) (hT : e ∉ T) (h : Els R (Typed bi T w) w l xs) (hb : base ≤ w.heap.size) (hn : l.length = n) (hm : n ≤ maxLen) :
    Own2 R e T base bi (w.alloc (.cells xs.toArray e)) (.slice (some ⟨w.heap.size, 0, none⟩) n n) l := by
  subst hn
  have hk : Keep (Typed bi T w) w (Typed bi T (w.alloc (.cells xs.toArray e))) (w.alloc (.cells xs.toArray e)) := Keep.step (es := []) (Step.alloc1 bi [] w _) (by simp)
  exact ⟨hbb, hT, xs, ⟨h.length, .inr ⟨w.heap.size, l.length, xs.toArray, rfl, hb, heap_alloc_new w _, Nat.le_refl _, hm, by simpa using h.length, by simp [← h.length]⟩⟩, h.mono hk⟩
end
section
variable {P : Program} {α : Type}
theorem wpList_app2 {ops : Array Oper} {rest : List Oper} {o : Oper} {a : Act} {w : World} {Q : Exit → Act → World → Prop} (hgd : o.guard = none) (s x : Operand) (t : TypeId)
    (ho : o.op = .call { callee := .builtin .append, args := #[s, x], argTypes := #[t, t] })
    (R : Rep α) (e : TypeId) (T : List TypeId) (base bi bytes : Nat) (z : Value) (ht : P.underlying t = some (.slice e)) (hi : (P.info? e).map (fun i => (i.zero, i.size, i.bytes)) = some (some z, R.sz, bytes)) (hzs : z.cells.size = R.sz) (hsz : 0 < R.sz) (hb0 : 0 < bytes)
    (v : Value) (l : List α) (hs : a.eval s = v) (hown : Own2 R e T base bi w v l) (base2 : Nat) (ad : Addr) (m c : Nat) (l2 : List α) (hxe : a.eval x = .slice (some ad) m c) (hx : Own2 R e T base2 bi w (.slice (some ad) m c) l2) (hm : 0 < l2.length)
    (hb : (l.length + l2.length) * bytes ≤ 140737488355328) (hbase : base ≤ w.heap.size)
    (h : ∀ v' w', Own2 R e T base bi w' v' (l ++ l2) → Step base [e] w w' → wpList P ops Q rest (a.put o.dst v') w') : wpList P ops Q (o :: rest) a w := by
  obtain ⟨i0, hi0, hz0, hz1, hz2⟩ := info_parts hi
  refine wpList_plain hgd fun _ hK => ?_
  obtain ⟨hbb, hne, xs, hor, hels⟩ := hown
  obtain ⟨_, _, ys, hor2, hels2⟩ := hx
  have h63 : l.length + l2.length ≤ maxLen := by
    have := Nat.le_trans (Nat.le_mul_of_pos_right (l.length + l2.length) hb0) hb
    simp only [maxLen]; omega
  rcases hor2.2 with ⟨hv, h0⟩ | ⟨g, cap, cur, hv, _, _, _, _, _⟩
  · omega
  · injection hv with e1 e2 e3
    injection e1 with e1
    subst e1; subst e2; subst e3
    have hcells := hor2.cells (g := g) rfl
    obtain ⟨v', w', hrun, hown', hgr, _, h5⟩ := run_append_own_at (P := P) w base t o.type e i0 z R.sz bytes ht hi0 hz0 hz1 hz2 hzs hsz v l.length xs hor ⟨g, 0, none⟩ l2.length c ys
      hels2.length hcells hels2.one h63 hb hbase
    have hst : Step base [e] w w' := Step.of_grown hgr (own_bears hor)
    have hk := Keep.step (T := T) (hst.mono hbb (fun _ h => h)) (fun t' ht' he => by simp at he; subst he; exact hne ht')
    unfold Oper.wp execOp
    simp only [ho, resolve, invoke, builtin, Sem.run_bind, Sem.run_pure, Result.andThen_ok, List.map_toArray, List.map_cons, List.map_nil, hs, hxe, hrun]
    exact hK _ _ (h v' w' ⟨hbb, hne, xs ++ ys, by simpa using hown', (hels.mono hk).append (hels2.mono hk)⟩ hst)
end
end Go.Proofs.YtphdagmaamcapaaDoor
