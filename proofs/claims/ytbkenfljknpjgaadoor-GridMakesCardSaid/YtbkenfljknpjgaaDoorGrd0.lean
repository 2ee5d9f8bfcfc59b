/-
  A grid in memory: the pointers of its rows, each row in a block of its own, no two at one place. Words on memory.
-/
import Derived.Test.YtbkenfljknpjgaaDoorRow3
import Derived.Test.YtbkenfljknpjgaaDoorView0
import Derived.Test.YtbkenfljknpjgaaDoorOrd
namespace Go.Proofs.YtbkenfljknpjgaaDoor
open Go.RowKit
set_option linter.unusedVariables false
set_option linter.unusedSimpArgs false

/-- A value, as it is. -/
def RVal : Rep Value where
  sz := 1
  E := fun _ _ vs x => vs = [x] ∧ x.oneCell' = true
  len := by rintro _ _ _ _ ⟨rfl, _⟩; rfl
  one := by rintro _ _ _ _ ⟨rfl, h⟩ u hu; simp at hu; subst hu; exact h
  mono := fun _ h => h
theorem RVal.flat : Flat RVal := fun _ _ _ _ _ _ h => h
/-- A line: its slice, and whether it goes on. -/
def RSl : Rep (Value × Bool) := Rep.pair RVal Rep.bool
theorem RSl.flat : Flat RSl := by
  rintro S S' w w' vs x ⟨v1, v2, rfl, h1, h2⟩
  exact ⟨v1, v2, rfl, h1, h2⟩
theorem line_info : (Tryd.prog.info? 38).map (fun i => (i.zero, i.size, i.bytes)) = some (some (.agg #[.slice none 0 0, .bool false]), RSl.sz, 32) := by kernel_rfl
theorem rowp_info : (Tryd.prog.info? 33).map (fun i => (i.zero, i.size, i.bytes)) = some (some (.pointer none), RVal.sz, 8) := by kernel_rfl
theorem els_val {S : Nat → Prop} {w : World} : ∀ (l xs : List Value), Els RVal S w l xs → xs = l
  | [], xs, h => h
  | x :: l, xs, ⟨u, xs', e, ⟨e2, _⟩, h⟩ => by rw [e, e2, els_val l xs' h]; rfl
def slB (p : Value × LineV) : Value × Bool := (p.1, p.2.2)
theorem els_lines {S : Nat → Prop} {w : World} : ∀ (ps : List (Value × LineV)) (xs : List Value), Els RSl S w (ps.map slB) xs → (∀ p ∈ ps, Slc RCell S S w p.1 p.2.1) → Els RLine S w (ps.map Prod.snd) xs
  | [], xs, h, _ => h
  | p :: ps, xs, ⟨u, xs', e, ⟨v1, v2, e2, ⟨e3, _⟩, e4⟩, h⟩, hp => by
    refine ⟨u, xs', e, ⟨v1, v2, e2, ⟨p.1, e3, hp p (List.mem_cons.2 (.inl rfl))⟩, e4⟩, els_lines ps xs' h (fun q hq => hp q (List.mem_cons.2 (.inr hq)))⟩
/-- Lines as their slices. -/
theorem lines_els {S : Nat → Prop} {w : World} : ∀ (ls : List LineV) (xs : List Value), Els RLine S w ls xs → ∃ ps : List (Value × LineV), ps.map Prod.snd = ls ∧ Els RSl S w (ps.map slB) xs ∧ ∀ p ∈ ps, Slc RCell S S w p.1 p.2.1
  | [], xs, h => ⟨[], rfl, h, fun p hp => (by cases hp)⟩
  | l :: ls, xs, ⟨u, xs', e, ⟨v1, v2, e2, ⟨v, e3, hv⟩, e4⟩, h⟩ => by
    obtain ⟨ps, h1, h2, h3⟩ := lines_els ls xs' h
    have ho : v.oneCell' = true := by obtain ⟨A, c, rfl, _⟩ := hv; rfl
    refine ⟨(v, l) :: ps, by simp [h1], ⟨u, xs', e, ⟨v1, v2, e2, ⟨e3, ho⟩, e4⟩, h2⟩, fun p hp => ?_⟩
    rcases List.mem_cons.1 hp with rfl | hp
    · exact hv
    · exact h3 p hp
theorem slc_lines {So Si : Nat → Prop} {w : World} {v : Value} {ls : List LineV} (h : Slc RLine So Si w v ls) : ∃ ps : List (Value × LineV), ps.map Prod.snd = ls ∧ Slc RSl So Si w v (ps.map slB) ∧ ∀ p ∈ ps, Slc RCell Si Si w p.1 p.2.1 := by
  obtain ⟨A, c, rfl, h1, h2, xs, h3, h4⟩ := h
  obtain ⟨ps, rfl, h5, h6⟩ := lines_els ls xs h3
  refine ⟨ps, rfl, ⟨A, c, by simp, by simpa using h1, h2, xs, h5, ?_⟩, h6⟩
  have e : (ps.map slB).length * RSl.sz = (ps.map Prod.snd).length * RLine.sz := by simp; rfl
  rw [e]; exact h4
theorem lines_slc {So Si : Nat → Prop} {w : World} {v : Value} {ps : List (Value × LineV)} (h : Slc RSl So Si w v (ps.map slB)) (hp : ∀ p ∈ ps, Slc RCell Si Si w p.1 p.2.1) : Slc RLine So Si w v (ps.map Prod.snd) := by
  obtain ⟨A, c, rfl, h1, h2, xs, h3, h4⟩ := h
  refine ⟨A, c, by simp, by simpa using h1, h2, xs, els_lines ps xs h3 hp, ?_⟩
  have e : (ps.map slB).length * RSl.sz = (ps.map Prod.snd).length * RLine.sz := by simp; rfl
  rw [← e]; exact h4

/-! ### A row of values of the call's own, one of them laid anew -/
section
variable {e : TypeId} {base G n cap : Nat} {w : World} {v : Value} {l : List Value}
theorem lown_open {α : Type} {R : Rep α} {e : TypeId} {T : List TypeId} {base : Nat} {w : World} {v : Value} {l : List α} (h : Own R e T base w v l) (hl : 0 < l.length) :
    ∃ g cap xs rest, v = .slice (some ⟨g, 0, none⟩) l.length cap ∧ base ≤ g ∧ Blk w g e (xs ++ rest).toArray ∧ xs.length = l.length * R.sz ∧ Els R (Typed base T w) w l xs ∧ (xs ++ rest).length = cap * R.sz ∧ l.length ≤ cap ∧ cap ≤ maxLen := by
  obtain ⟨hT, xs, ⟨hx, hown⟩, hels⟩ := h
  rcases hown with ⟨_, h0⟩ | ⟨g, cap, cur, rfl, hb, hh, hc, hm, hs, ht⟩
  · omega
  · refine ⟨g, cap, xs, cur.toList.drop (l.length * R.sz), rfl, hb, ?_, hx, hels, ?_, hc, hm⟩
    · rw [← ht, List.take_append_drop]; exact hh
    · rw [← ht, List.take_append_drop]; simpa using hs
theorem lown_shut {α : Type} {R : Rep α} {e : TypeId} {T : List TypeId} {base g cap n : Nat} {w : World} {l : List α} {xs rest : List Value} (hT : e ∉ T) (hb : base ≤ g) (hh : Blk w g e (xs ++ rest).toArray) (hels : Els R (Typed base T w) w l xs)
    (hn : l.length = n) (hs : (xs ++ rest).length = cap * R.sz) (hc : n ≤ cap) (hm : cap ≤ maxLen) : Own R e T base w (.slice (some ⟨g, 0, none⟩) n cap) l := by
  subst hn
  have hx := hels.length
  refine ⟨hT, xs, ⟨hx, .inr ⟨g, cap, _, rfl, hb, hh, hc, hm, by simpa using hs, ?_⟩⟩, hels⟩
  rw [← hx]; simp
theorem els_of_val {S : Nat → Prop} {w : World} : ∀ (l : List Value), (∀ x ∈ l, x.oneCell' = true) → Els RVal S w l l
  | [], _ => rfl
  | x :: l, h => ⟨[x], l, rfl, ⟨rfl, h x (List.mem_cons.2 (.inl rfl))⟩, els_of_val l (fun y hy => h y (List.mem_cons.2 (.inr hy)))⟩
theorem els_val_one {S : Nat → Prop} {w : World} : ∀ (l xs : List Value), Els RVal S w l xs → ∀ x ∈ l, x.oneCell' = true
  | [], _, _, x, hx => by cases hx
  | y :: l, xs, ⟨u, xs', e, ⟨e2, h1⟩, h⟩, x, hx => by
    rcases List.mem_cons.1 hx with rfl | hx
    · exact h1
    · exact els_val_one l xs' h x hx
theorem ownv_at (h : Own RVal e [] base w v l) {i : Nat} (hi : i < l.length) : ∃ G cap, v = .slice (some ⟨G, 0, none⟩) l.length cap ∧ base ≤ G ∧ G < w.heap.size ∧ l.length ≤ cap ∧ w.cell? ⟨G, i, none⟩ = some l[i] ∧ w.frozen? ⟨G, i, none⟩ = false := by
  obtain ⟨G, cap, xs, rest, hv, hb, hblk, hx, hels, hl, hc, hm⟩ := lown_open h (by omega)
  obtain rfl := els_val _ _ hels
  refine ⟨G, cap, hv, hb, hblk.lt, hc, ?_, hblk.frozen _⟩
  rw [hblk.cell, List.getElem?_toArray, List.getElem?_append_left (by omega), List.getElem?_eq_getElem]
theorem ownv_set (h : Own RVal e [] base w (.slice (some ⟨G, 0, none⟩) n cap) l) {i : Nat} (hi : i < l.length) {x : Value} (hx : x.oneCell' = true) :
    Own RVal e [] base (w.setCell ⟨G, i, none⟩ x) (.slice (some ⟨G, 0, none⟩) n cap) (l.set i x) ∧ Step base [e] w (w.setCell ⟨G, i, none⟩ x) := by
  obtain ⟨G', cap', xs, rest, hv, hb, hblk, hxl, hels, hl, hc, hm⟩ := lown_open h (by omega)
  injection hv with e1 e2 e3
  injection e1 with e1
  injection e1 with e1
  subst e1; subst e3
  have h1 := els_val_one _ _ hels
  obtain rfl := els_val _ _ hels
  have hst : Step base [e] w _ := (Step.refl base [e] w).setCell (p := ⟨G, i, none⟩) hb hblk.bears x
  have s1 := hblk.set_ i x
  simp only [List.setIfInBounds_toArray] at s1
  rw [List.set_append_left _ _ hi] at s1
  refine ⟨?_, hst⟩
  refine lown_shut (by simp) hb s1 (els_of_val _ (fun y hy => ?_)) (by rw [List.length_set]; exact e2.symm) ?_ (by omega) hm
  · rcases List.mem_or_eq_of_mem_set hy with hy | rfl
    · exact h1 y hy
    · exact hx
  · rw [← hl]
    simp
end

/-! ### Rows -/
abbrev RowP := Value × LineV
def RNe (p q : RowP) : Prop := p.1 ≠ q.1
structure RowsP (base : Nat) (w : World) (ps : List RowP) : Prop where
  row : ∀ p ∈ ps, RowIs base w p.1 p.2.1 p.2.2
  ne : ps.Pairwise RNe
section
variable {base b0 b2 : Nat} {w w' : World} {v : Value} {l : List CellV} {wrap : Bool} {ps : List RowP} {es : List TypeId}
theorem RowIs.step (h : RowIs base w v l wrap) (hs : Step b2 es w w') (h1 : 83 ∉ es) (h2 : 74 ∉ es) (h3 : 21 ∉ es) : RowIs base w' v l wrap := by
  obtain ⟨g, s, rfl, hb, hblk, hbb, hne, xs, ⟨hx, hown⟩, hels⟩ := h
  have hs0 := hs.mono (Nat.zero_le b2) (fun _ h => h)
  refine ⟨g, s, rfl, hb, hblk.step hs h1, hbb, hne, xs, ⟨hx, ?_⟩, hels.mono (Keep.step hs0 (by intro t ht; simp at ht; subst ht; exact h3))⟩
  rcases hown with hn | ⟨g', cap, cur, rfl, hb', hh, rest⟩
  · exact .inl hn
  · refine .inr ⟨g', cap, cur, rfl, hb', ?_, rest⟩
    rw [hs.block g' (Array.getElem?_eq_some_iff.1 hh).1 (.inr (fun ⟨cs', t', fz', hh', ht'⟩ => by
      rw [hh] at hh'; injection hh' with hh'; injection hh' with _ e'; subst e'; exact h2 ht'))]
    exact hh
theorem RowIs.down (h : RowIs base w v l wrap) (hb : b0 ≤ base) : RowIs b0 w v l wrap := by
  obtain ⟨g, s, rfl, h1, h2, h3⟩ := h
  exact ⟨g, s, rfl, Nat.le_trans hb h1, h2, h3.down b0 (Nat.zero_le _) hb⟩
theorem RowIs.lt (h : RowIs base w v l wrap) : ∃ g, v = .pointer (some ⟨g, 0, none⟩) ∧ base ≤ g ∧ g < w.heap.size := by
  obtain ⟨g, s, rfl, h1, h2, h3⟩ := h
  exact ⟨g, rfl, h1, h2.lt⟩
/-- What is done to another row's mark. -/
theorem RowIs.far {g : Nat} {cs : Array Value} {on : Value} (h : RowIs base w v l wrap) (hg : Blk w g 83 cs) (hne : v ≠ .pointer (some ⟨g, 0, none⟩)) : RowIs base (w.setCell ⟨g, 1, none⟩ on) v l wrap := by
  obtain ⟨g', s, rfl, hb, hblk, hown⟩ := h
  have hst : Step 0 [83] w (w.setCell ⟨g, 1, none⟩ on) := (Step.refl 0 [83] w).setCell (p := ⟨g, 1, none⟩) (Nat.zero_le _) hg.bears on
  have hgg : g' ≠ g := fun e => hne (by rw [e])
  obtain ⟨hbb, hT, xs, ⟨hx, ho⟩, hels⟩ := hown
  refine ⟨g', s, rfl, hb, hblk.far (p := ⟨g, 1, none⟩) hgg on, hbb, hT, xs, ⟨hx, ?_⟩, hels.mono (Keep.step hst (by decide))⟩
  rcases ho with hn | ⟨g3, cap, cur, rfl, hb', hh, rest⟩
  · exact .inl hn
  · refine .inr ⟨g3, cap, cur, rfl, hb', ?_, rest⟩
    rw [hst.block g3 (Array.getElem?_eq_some_iff.1 hh).1 (.inr (fun ⟨cs', t', fz', hh', ht'⟩ => by
      rw [hh] at hh'; injection hh' with hh'; injection hh' with _ e'; subst e'; simp at ht'))]
    exact hh
theorem RowIs.mark {on : Bool} (h : RowIs base w v l wrap) : ∃ g s, v = .pointer (some ⟨g, 0, none⟩) ∧ Blk w g 83 #[s, .bool wrap] ∧ RowIs base (w.setCell ⟨g, 1, none⟩ (.bool on)) v l on := by
  obtain ⟨g, s, rfl, h1, h2, h3⟩ := h
  have hst : Step base [83] w (w.setCell ⟨g, 1, none⟩ (.bool on)) := (Step.refl _ _ _).setCell h1 h2.bears _
  exact ⟨g, s, rfl, h2, g, s, rfl, h1, h2.set_ 1 _, h3.step hst (by decide) (by decide)⟩
theorem RowsP.step (h : RowsP base w ps) (hs : Step b2 es w w') (h1 : 83 ∉ es) (h2 : 74 ∉ es) (h3 : 21 ∉ es) : RowsP base w' ps :=
  ⟨fun p hp => (h.row p hp).step hs h1 h2 h3, h.ne⟩
theorem RowsP.below (h : RowsP base w ps) (hb : Below w.heap.size w w') : RowsP base w' ps := ⟨fun p hp => (h.row p hp).below hb, h.ne⟩
theorem RowsP.down (h : RowsP base w ps) (hb : b0 ≤ base) : RowsP b0 w ps := ⟨fun p hp => (h.row p hp).down hb, h.ne⟩
theorem RowsP.nil_ (base : Nat) (w : World) : RowsP base w [] := ⟨fun p hp => (by cases hp), List.Pairwise.nil⟩
theorem RowsP.lt (h : RowsP base w ps) : ∀ p ∈ ps, ∃ g, p.1 = .pointer (some ⟨g, 0, none⟩) ∧ base ≤ g ∧ g < w.heap.size := fun p hp => (h.row p hp).lt
/-- One row more, made after the others. -/
theorem RowsP.snoc (h : RowsP base w ps) {b2 : Nat} (hr : RowIs b2 w v l wrap) (hb : base ≤ b2) (hlt : ∀ p ∈ ps, ∃ g, p.1 = .pointer (some ⟨g, 0, none⟩) ∧ g < b2) : RowsP base w (ps ++ [(v, l, wrap)]) := by
  refine ⟨fun p hp => ?_, List.pairwise_append.2 ⟨h.ne, List.pairwise_singleton _ _, fun p hp q hq => ?_⟩⟩
  · rcases List.mem_append.1 hp with hp | hp
    · exact h.row p hp
    · rw [List.mem_singleton] at hp; subst hp; exact hr.down hb
  · rw [List.mem_singleton] at hq
    subst hq
    obtain ⟨g, e, hg⟩ := hlt p hp
    obtain ⟨g2, e2, hg2, _⟩ := hr.lt
    intro e3
    rw [e] at e3
    simp only at e3
    rw [e2] at e3
    injection e3 with e3
    injection e3 with e3
    injection e3 with e3
    omega
theorem pair_set {α : Type} {R : α → α → Prop} {l : List α} {i : Nat} {x : α} (h : l.Pairwise R) (hx : ∀ y ∈ l, R x y ∧ R y x) : (l.set i x).Pairwise R := by
  rw [List.pairwise_iff_getElem] at h ⊢
  intro a b ha hb hab
  rw [List.length_set] at ha hb
  rw [List.getElem_set, List.getElem_set]
  split
  · rw [if_neg (by omega)]
    exact (hx _ (List.getElem_mem _)).1
  · split
    · exact (hx _ (List.getElem_mem _)).2
    · exact h a b ha hb hab
/-- A row in the place of another one. -/
theorem RowsP.put (h : RowsP base w ps) {b2 i : Nat} (hr : RowIs b2 w v l wrap) (hb : base ≤ b2) (hne : ∀ p ∈ ps, p.1 ≠ v) : RowsP base w (ps.set i (v, l, wrap)) := by
  refine ⟨fun p hp => ?_, pair_set h.ne (fun y hy => ⟨fun e => hne y hy e.symm, fun e => hne y hy e⟩)⟩
  rcases List.mem_or_eq_of_mem_set hp with hp | rfl
  · exact h.row p hp
  · exact hr.down hb
/-- A row's mark turns. -/
theorem RowsP.mark (h : RowsP base w ps) {i g : Nat} {on : Bool} (hi : i < ps.length) (hg : ps[i].1 = .pointer (some ⟨g, 0, none⟩)) : RowsP base (w.setCell ⟨g, 1, none⟩ (.bool on)) (ps.set i (ps[i].1, ps[i].2.1, on)) := by
  obtain ⟨g', s, e, hblk, hrow⟩ := (h.row ps[i] (List.getElem_mem _)).mark (on := on)
  rw [hg] at e
  injection e with e
  injection e with e
  injection e with e
  subst e
  refine ⟨fun p hp => ?_, ?_⟩
  · obtain ⟨j, hj, rfl⟩ := List.getElem_of_mem hp
    rw [List.length_set] at hj
    by_cases hij : i = j
    · subst hij
      rw [List.getElem_set_self]
      exact hrow
    · rw [List.getElem_set_ne hij]
      refine (h.row ps[j] (List.getElem_mem _)).far hblk (fun e => ?_)
      rw [← hg] at e
      rcases Nat.lt_or_gt_of_ne hij with hlt | hlt
      · exact (List.pairwise_iff_getElem.1 h.ne i j hi hj hlt) e.symm
      · exact (List.pairwise_iff_getElem.1 h.ne j i hj hi hlt) e
  · have h2 := h.ne
    rw [List.pairwise_iff_getElem] at h2 ⊢
    intro a b ha hb hab
    rw [List.length_set] at ha hb
    have e : ∀ k (hk : k < (ps.set i (ps[i].1, ps[i].2.1, on)).length), ((ps.set i (ps[i].1, ps[i].2.1, on))[k]).1 = (ps[k]'(by rw [List.length_set] at hk; exact hk)).1 := by
      intro k hk
      rw [List.getElem_set]
      split
      · rename_i e; subst e; rfl
      · rfl
    unfold RNe
    rw [e, e]
    exact h2 a b ha hb hab
theorem RowsP.far (h : RowsP base w ps) {g : Nat} {cs : Array Value} {on : Value} (hg : Blk w g 83 cs) (hne : ∀ p ∈ ps, p.1 ≠ .pointer (some ⟨g, 0, none⟩)) : RowsP base (w.setCell ⟨g, 1, none⟩ on) ps :=
  ⟨fun p hp => (h.row p hp).far hg (hne p hp), h.ne⟩

/-- A grid in memory, behind a pointer. -/
def GridP (base : Nat) (w : World) (v : Value) (ps : List RowP) : Prop :=
  ∃ g s, v = .pointer (some ⟨g, 0, none⟩) ∧ base ≤ g ∧ Blk w g 78 #[s] ∧ Own RVal 33 [] base w s (ps.map Prod.fst) ∧ RowsP base w ps
theorem GridP.step (h : GridP base w v ps) (hs : Step b2 es w w') (h0 : 78 ∉ es) (h00 : 33 ∉ es) (h1 : 83 ∉ es) (h2 : 74 ∉ es) (h3 : 21 ∉ es) : GridP base w' v ps := by
  obtain ⟨g, s, rfl, hb, hblk, hown, hrow⟩ := h
  exact ⟨g, s, rfl, hb, hblk.step hs h0, hown.flat_step RVal.flat hs h00, hrow.step hs h1 h2 h3⟩
theorem GridP.below (h : GridP base w v ps) (hb : Below w.heap.size w w') : GridP base w' v ps :=
  h.step (b2 := 0) (es := []) (Step.of_below hb) (by simp) (by simp) (by simp) (by simp) (by simp)
theorem GridP.down (h : GridP base w v ps) (hb : b0 ≤ base) : GridP b0 w v ps := by
  obtain ⟨g, s, rfl, h1, h2, h3, h4⟩ := h
  exact ⟨g, s, rfl, Nat.le_trans hb h1, h2, h3.flat_base RVal.flat hb (by simp), h4.down hb⟩
theorem GridP.far (h : GridP base w v ps) {g : Nat} {cs : Array Value} {on : Value} (hg : Blk w g 83 cs) (hne : ∀ p ∈ ps, p.1 ≠ .pointer (some ⟨g, 0, none⟩)) : GridP base (w.setCell ⟨g, 1, none⟩ on) v ps := by
  obtain ⟨g', s, rfl, h1, h2, h3, h4⟩ := h
  have hst : Step 0 [83] w (w.setCell ⟨g, 1, none⟩ on) := (Step.refl 0 [83] w).setCell (p := ⟨g, 1, none⟩) (Nat.zero_le _) hg.bears on
  exact ⟨g', s, rfl, h1, h2.step hst (by decide), h3.flat_step RVal.flat hst (by decide), h4.far hg hne⟩
theorem GridP.mark (h : GridP base w v ps) {i g : Nat} {on : Bool} (hi : i < ps.length) (hg : ps[i].1 = .pointer (some ⟨g, 0, none⟩)) : GridP base (w.setCell ⟨g, 1, none⟩ (.bool on)) v (ps.set i (ps[i].1, ps[i].2.1, on)) := by
  obtain ⟨g', s, rfl, h1, h2, h3, h4⟩ := h
  obtain ⟨g2, s2, e, hblk, _⟩ := (h4.row ps[i] (List.getElem_mem _)).mark (on := on)
  rw [hg] at e
  injection e with e
  injection e with e
  injection e with e
  subst e
  have hst : Step 0 [83] w (w.setCell ⟨g, 1, none⟩ (.bool on)) := (Step.refl 0 [83] w).setCell (p := ⟨g, 1, none⟩) (Nat.zero_le _) hblk.bears _
  refine ⟨g', s, rfl, h1, h2.step hst (by decide), ?_, h4.mark hi hg⟩
  have e : (ps.set i (ps[i].1, ps[i].2.1, on)).map Prod.fst = ps.map Prod.fst := by
    rw [List.map_set]
    simp only
    apply List.ext_getElem?
    intro j
    by_cases hj : i = j
    · subst hj
      rw [List.getElem?_set_self (by simpa using hi), List.getElem?_map, List.getElem?_eq_getElem hi]; rfl
    · rw [List.getElem?_set_ne hj]
  rw [e]
  exact h3.flat_step RVal.flat hst (by decide)
end
end Go.Proofs.YtbkenfljknpjgaaDoor
