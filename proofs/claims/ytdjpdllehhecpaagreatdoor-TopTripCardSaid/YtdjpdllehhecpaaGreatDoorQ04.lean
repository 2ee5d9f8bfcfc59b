import Derived.Test.YtdjpdllehhecpaaGreatDoorQ03
import Derived.Test.YtdjpdllehhecpaaGreatDoorQ02
open List renaming getElem?_toArray → zA, getElem?_cons_succ → zB, getElem?_cons_zero → zC, setIfInBounds_toArray → zD, set_cons_zero → zE, set_cons_succ → zF
namespace Go.Proofs.YtdjpdllehhecpaaGreatDoor
open Go.RowKit
set_option linter.unusedVariables false
set_option linter.unusedSimpArgs false
structure Chg (S : Nat → Prop) (w w' : World) : Prop where
  os : w'.os = w.os
  tape : w'.tape = w.tape
  output : w'.output = w.output
  size : w.heap.size ≤ w'.heap.size
  block : ∀ k, k < w.heap.size → ¬ S k → w'.heap[k]? = w.heap[k]?
section
variable {S S' : Nat → Prop} {a w w' : World}
theorem Chg.refl (S : Nat → Prop) (w : World) : Chg S w w := ⟨rfl, rfl, rfl, Nat.le_refl _, fun _ _ _ => rfl⟩
theorem Chg.trans (h : Chg S a w) (k : Chg S w w') : Chg S a w' :=
  ⟨k.os.trans h.os, k.tape.trans h.tape, k.output.trans h.output, Nat.le_trans h.size k.size, fun i hi hn => (k.block i (Nat.lt_of_lt_of_le hi h.size) hn).trans (h.block i hi hn)⟩
theorem Chg.mono (h : Chg S w w') (hS : ∀ k, S k → S' k) : Chg S' w w' := ⟨h.os, h.tape, h.output, h.size, fun i hi hn => h.block i hi (fun e => hn (hS i e))⟩
theorem Chg.next (h : Chg S a w) (k : Chg S' w w') (hS : ∀ k, S' k → S k ∨ a.heap.size ≤ k) : Chg S a w' :=
  ⟨k.os.trans h.os, k.tape.trans h.tape, k.output.trans h.output, Nat.le_trans h.size k.size, fun i hi hn => (k.block i (Nat.lt_of_lt_of_le hi h.size) (fun e => by
    rcases hS i e with e | e
    · exact hn e
    · omega)).trans (h.block i hi hn)⟩
theorem Chg.of_below (h : Below w.heap.size w w') : Chg S w w' := ⟨h.os, h.tape, h.output, h.size, fun i hi _ => h.block i hi⟩
theorem Chg.of_gb {g : Nat} (h : w.grownBy w' (some g)) (hg : S g) : Chg S w w' := ⟨h.os, h.tape, h.output, h.size, fun i hi hn => h.block i hi (fun e => by injection e with e; subst e; exact hn hg)⟩
theorem Chg.set (h : Chg S a w) {p : Addr} (hp : S p.block ∨ a.heap.size ≤ p.block) (u : Value) : Chg S a (w.setCell p u) :=
  ⟨h.os, h.tape, h.output, by simpa [World.setCell] using h.size, fun i hi hn => (Below.heap_setCell w p u i (fun e => by
    subst e
    rcases hp with hp | hp
    · exact hn hp
    · omega)).trans (h.block i hi hn)⟩
theorem Chg.alloc (h : Chg S a w) (o : Obj) : Chg S a (w.alloc o) :=
  ⟨h.os, h.tape, h.output, Nat.le_trans h.size (by simp), fun i hi hn => (Below.heap_alloc w o i (Nat.lt_of_lt_of_le hi h.size)).trans (h.block i hi hn)⟩
theorem Chg.drewN (h : Chg S a w) (n : Nat) : Chg S a (w.drewN n) := ⟨h.os, h.tape, h.output, h.size, h.block⟩
theorem Chg.dr (h : Chg S a w) : Chg S a w.drew := ⟨h.os, h.tape, h.output, h.size, h.block⟩
theorem Chg.below (h : Chg S w w') {B : Nat} (hS : ∀ k, S k → B ≤ k) (hB : B ≤ w.heap.size) : Below B w w' :=
  ⟨h.os, h.tape, h.output, h.size, fun i hi => h.block i (Nat.lt_of_lt_of_le hi hB) (fun e => by have := hS i e; omega)⟩
theorem Chg.to_below (h : Chg (fun _ => False) w w') : Below w.heap.size w w' := h.below (fun _ e => e.elim) (Nat.le_refl _)
theorem Chg.blk {g : Nat} {t : TypeId} {cs : Array Value} (h : Chg S w w') (hb : Blk w g t cs) (hg : ¬ S g) : Blk w' g t cs := (h.block g hb.lt hg).trans hb
theorem Chg.cell (h : Chg S w w') {p : Addr} {u : Value} (hc : w.cell? p = some u) (hp : ¬ S p.block) : w'.cell? p = some u :=
  (World.cell?_of_block (h.block p.block (World.block_lt_of_cell? w p hc) hp)).trans hc
theorem Chg.keep (h : Chg S w w') {S0 : Nat → Prop} (hS : ∀ k, S0 k → ¬ S k) : Keep S0 w S0 w' := fun p u hs hc => ⟨hs, h.cell hc (hS _ hs)⟩
theorem Chg.keepT (h : Chg S w w') {T : List TypeId} (hT : ∀ k, S k → ¬ Bears T w k) : Keep (Typed 0 T w) w (Typed 0 T w') w' := by
  intro p u hs hc
  have hlt := World.block_lt_of_cell? w p hc
  rcases hs with hs | hb
  · omega
  · obtain ⟨cs, t, fz, hh, ht⟩ := hb
    have e := h.block p.block hlt (fun e => hT _ e ⟨cs, t, fz, hh, ht⟩)
    exact ⟨.inr ⟨cs, t, fz, e.trans hh, ht⟩, (World.cell?_of_block e).trans hc⟩
theorem Blk.bearsNo {g : Nat} {t : TypeId} {cs : Array Value} {T : List TypeId} (hb : Blk w g t cs) (ht : t ∉ T) : ¬ Bears T w g := fun h => by
  obtain ⟨cs', t', fz, hh, ht'⟩ := h
  unfold Blk at hb
  rw [hb] at hh
  injection hh with hh
  injection hh with _ e
  subst e
  exact ht ht'
theorem Blk.typ {g : Nat} {t t' : TypeId} {cs cs' : Array Value} (h : Blk w g t cs) (h' : Blk w g t' cs') : t = t' := by
  unfold Blk at h h'
  rw [h] at h'
  injection h' with h'
  injection h'
end
end Go.Proofs.YtdjpdllehhecpaaGreatDoor
namespace Go.Proofs.YtdjpdllehhecpaaGreatDoor
open Go.RowKit
set_option linter.unusedVariables false
end Go.Proofs.YtdjpdllehhecpaaGreatDoor
