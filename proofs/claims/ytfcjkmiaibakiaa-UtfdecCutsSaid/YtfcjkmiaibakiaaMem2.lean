/-
  More words for memory. No program in sight.
-/
import Derived.Test.YtfcjkmiaibakiaaMem
namespace Go.Proofs.Ytfcjkmiaibakiaa
open Go.RowKit
set_option linter.unusedVariables false

theorem Slc.slb {α : Type} {R : Rep α} {So Si : Nat → Prop} {w : World} {A : Option Addr} {n c : Nat} {l : List α} (h : Slc R So Si w (.slice A n c) l) : SlB R So Si w A l := by
  obtain ⟨A', c', he, _, _, hB⟩ := h
  injection he with e1 e2 e3
  subst e1
  exact hB

theorem Bears.ne_ {T : List TypeId} {w : World} {b g : Nat} {t : TypeId} {cs : Array Value} (h : Bears T w b) (hb : Blk w g t cs) (ht : t ∉ T) : b ≠ g := by
  rintro rfl
  obtain ⟨cs', t', fz, hh, ht'⟩ := h
  unfold Blk at hb
  rw [hb] at hh
  injection hh with hh
  injection hh with _ e
  subst e
  exact ht ht'
end Go.Proofs.Ytfcjkmiaibakiaa
