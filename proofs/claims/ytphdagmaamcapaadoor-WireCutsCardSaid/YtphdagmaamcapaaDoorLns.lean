/-
  Lines of the call's own: a row of lines whose rows of cells lie in blocks of their own, apart from one another. Words on memory.
-/
import Derived.Test.YtphdagmaamcapaaDoorDif1
namespace Go.Proofs.YtphdagmaamcapaaDoor
open Go.RowKit
set_option linter.unusedVariables false
set_option linter.unusedSimpArgs false

/-- A value, as it is. -/
def RVal : Rep Value where
  sz := 1
  E := fun _ _ vs x => vs = [x] ∧ x.oneCell' = true
  len := by rintro _ _ _ _ ⟨rfl, _⟩; rfl
  one := by rintro _ _ _ _ ⟨rfl, h⟩ u hu; simp at hu; subst hu; exact h
  mono := fun _ h => h
/-- A line: its slice, and whether it goes on. -/
def RSl : Rep (Value × Bool) := Rep.pair RVal Rep.bool
theorem RSl.flat : Flat RSl := by
  rintro S S' w w' vs x ⟨v1, v2, rfl, h1, h2⟩
  exact ⟨v1, v2, rfl, h1, h2⟩
theorem line_info : (Tryd.prog.info? 45).map (fun i => (i.zero, i.size, i.bytes)) = some (some (.agg #[.slice none 0 0, .bool false]), RSl.sz, 32) := by kernel_rfl

def slB (p : Value × LineV) : Value × Bool := (p.1, p.2.2)
def ApartB (p q : Value × LineV) : Prop := ∀ g, p.1.ownBlock = some g → q.1.ownBlock ≠ some g
structure LnsP (base : Nat) (w : World) (v : Value) (ps : List (Value × LineV)) : Prop where
  row : Own RSl 45 [] base w v (ps.map slB)
  cells : ∀ p ∈ ps, Own2 RCell 62 [21] base 0 w p.1 p.2.1
  apart : ps.Pairwise ApartB
def Lns (base : Nat) (w : World) (v : Value) (ls : List LineV) : Prop := ∃ ps : List (Value × LineV), ps.map Prod.snd = ls ∧ LnsP base w v ps

section
variable {base : Nat} {w w' : World} {v : Value} {ls : List LineV} {ps : List (Value × LineV)} {es : List TypeId}
theorem Own2.stepx {α : Type} {R : Rep α} {e : TypeId} {T : List TypeId} {bi b2 : Nat} {l : List α} (h : Own2 R e T base bi w v l) (hs : Step b2 es w w') (hb : bi ≤ b2) (he : e ∉ es) (hT : ∀ t ∈ T, t ∉ es) : Own2 R e T base bi w' v l := by
  obtain ⟨hbb, hne, xs, hown, hels⟩ := h
  refine ⟨hbb, hne, xs, ⟨hown.1, ?_⟩, hels.mono (Keep.step (hs.mono hb (fun _ h => h)) hT)⟩
  rcases hown.2 with hn | ⟨g, cap, cur, rfl, hb, hg, rest⟩
  · exact .inl hn
  · refine .inr ⟨g, cap, cur, rfl, hb, ?_, rest⟩
    have hlt : g < w.heap.size := (Array.getElem?_eq_some_iff.1 hg).1
    rw [hs.block g hlt (.inr (fun ⟨cs', t', fz', hh', ht'⟩ => by
      rw [hg] at hh'; injection hh' with hh'; injection hh' with _ e'; subst e'; exact he ht'))]
    exact hg
theorem Step.mono2 {b2 : Nat} (h : Step base es w w') (hb : b2 ≤ base) : Step b2 es w w' := h.mono hb (fun _ h => h)
theorem LnsP.step (h : LnsP base w v ps) (hs : Step base es w w') (h1 : 45 ∉ es) (h2 : 62 ∉ es) (h3 : 21 ∉ es) : LnsP base w' v ps :=
  ⟨h.row.step hs h1 (by simp), fun p hp => (h.cells p hp).step hs h2 (by intro t ht; simp at ht; subst ht; exact h3), h.apart⟩
theorem Lns.step (h : Lns base w v ls) (hs : Step base es w w') (h1 : 45 ∉ es) (h2 : 62 ∉ es) (h3 : 21 ∉ es) : Lns base w' v ls := by
  obtain ⟨ps, e, h⟩ := h
  exact ⟨ps, e, h.step hs h1 h2 h3⟩
theorem Lns.below (h : Lns base w v ls) (hb : Below w.heap.size w w') : Lns base w' v ls :=
  h.step (es := []) (Step.of_below hb) (by simp) (by simp) (by simp)
theorem Lns.alloc (h : Lns base w v ls) (o : Obj) : Lns base (w.alloc o) v ls :=
  h.step (es := []) (Step.alloc1 base [] w o) (by simp) (by simp) (by simp)
theorem Lns.dr (h : Lns base w v ls) : Lns base w.drew v ls :=
  h.step (es := []) ((Step.refl base [] w).drew) (by simp) (by simp) (by simp)
theorem Lns.drewN (h : Lns base w v ls) (n : Nat) : Lns base (w.drewN n) v ls :=
  h.step (es := []) ((Step.refl base [] w).drewN n) (by simp) (by simp) (by simp)
theorem Lns.nil_ (base : Nat) (w : World) : Lns base w (.slice none 0 0) [] :=
  ⟨[], rfl, Own.nil_ _ _ _ _ _ (by simp), fun p hp => (by cases hp), List.Pairwise.nil⟩

theorem els_lines {S : Nat → Prop} {w : World} : ∀ (ps : List (Value × LineV)) (xs : List Value), Els RSl S w (ps.map slB) xs → (∀ p ∈ ps, Slc RCell S S w p.1 p.2.1) → Els RLine S w (ps.map Prod.snd) xs
  | [], xs, h, _ => h
  | p :: ps, xs, ⟨u, xs', e, ⟨v1, v2, e2, ⟨e3, _⟩, e4⟩, h⟩, hp => by
    refine ⟨u, xs', e, ⟨v1, v2, e2, ⟨p.1, e3, hp p (List.mem_cons.2 (.inl rfl))⟩, e4⟩, els_lines ps xs' h (fun q hq => hp q (List.mem_cons.2 (.inr hq)))⟩
/-- Read as lines. -/
theorem Lns.slc (h : Lns base w v ls) : Slc RLine (fun b => b < w.heap.size) (fun b => b < w.heap.size) w v ls := by
  obtain ⟨ps, rfl, h⟩ := h
  have h1 := (h.row.slc).flat_any RSl.flat (fun b => b < w.heap.size)
  obtain ⟨A, c, rfl, h2, h3, xs, h4, h5⟩ := h1.mono (So' := fun b => b < w.heap.size) (Si' := fun b => b < w.heap.size) (Keep.lt _ _) (Keep.refl _ _)
  refine ⟨A, c, by simp, by simpa using h2, h3, xs, els_lines ps xs h4 (fun p hp => (h.cells p hp).slc.mono (Keep.lt _ _) (Keep.lt _ _)), ?_⟩
  have e : (ps.map slB).length * RSl.sz = (ps.map Prod.snd).length * RLine.sz := by simp; rfl
  rw [← e]; exact h5
/-- A line behind others. -/
theorem LnsP.snoc {v' s : Value} {l : LineV} {b2 : Nat} (h : ∀ p ∈ ps, Own2 RCell 62 [21] base 0 w p.1 p.2.1) (ha : ps.Pairwise ApartB) (hlt : ∀ p ∈ ps, ∀ g, p.1.ownBlock = some g → g < b2) (hr : Own RSl 45 [] base w v' (ps.map slB ++ [(s, l.2)])) (hs : Own2 RCell 62 [21] b2 0 w s l.1) (hb : base ≤ b2) : LnsP base w v' (ps ++ [(s, l)]) := by
  refine ⟨by rw [List.map_append]; exact hr, fun p hp => ?_, ?_⟩
  · rcases List.mem_append.1 hp with hp | hp
    · exact h p hp
    · simp at hp; subst hp; exact hs.down base (Nat.zero_le _) hb
  · refine List.pairwise_append.2 ⟨ha, List.pairwise_singleton _ _, fun p hp q hq => ?_⟩
    simp at hq; subst hq
    intro g hg hg2
    have := hlt p hp g hg
    have := (hs.lt_ g hg2).1
    omega
end
end Go.Proofs.YtphdagmaamcapaaDoor
