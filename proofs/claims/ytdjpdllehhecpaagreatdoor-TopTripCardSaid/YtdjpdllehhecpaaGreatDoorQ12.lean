import Derived.Test.YtdjpdllehhecpaaGreatDoorChecked
import Derived.Test.YtdjpdllehhecpaaGreatDoorQ03
import Derived.WalkKit
import Derived.LaidEql
import Derived.Stop.Asserts
import Derived.RowKitTokens
open List renaming getElem?_toArray → zA, getElem?_cons_succ → zB, getElem?_cons_zero → zC, setIfInBounds_toArray → zD, set_cons_zero → zE, set_cons_succ → zF
namespace Go.Proofs.YtdjpdllehhecpaaGreatDoor
open Go.RowKit Go.Extern.Stop Go.Stop Go.Extern
set_option linter.unusedVariables false
set_option linter.unusedSimpArgs false
end Go.Proofs.YtdjpdllehhecpaaGreatDoor
namespace Go.Proofs.YtdjpdllehhecpaaGreatDoor
open Go.RowKit
set_option linter.unusedVariables false
set_option linter.unusedSimpArgs false
def ErrIs (b : Nat → Addr) (w : World) (e : Value) (k : Nat) : Option Int → Prop
  | none => e = .iface 241 (.pointer (some (b k)))
  | some n => ∃ pb, e = .iface 117 (.pointer (some ⟨pb, 0, none⟩)) ∧ w.cell? ⟨pb, 0, none⟩ = some (.int .i64 n) ∧ w.cell? ⟨pb, 1, none⟩ = some (.iface 241 (.pointer (some (b k))))
theorem ErrIs.below {b : Nat → Addr} {w w' : World} {e : Value} {k : Nat} {o : Option Int} (h : ErrIs b w e k o) (hb : Below w.heap.size w w') : ErrIs b w' e k o := by
  cases o with
  | none => exact h
  | some n =>
    obtain ⟨pb, h, h0, h1⟩ := h
    exact ⟨pb, h, (hb.cell (World.block_lt_of_cell? w _ h0)).trans h0, (hb.cell (World.block_lt_of_cell? w _ h1)).trans h1⟩
end Go.Proofs.YtdjpdllehhecpaaGreatDoor
namespace Go.Proofs.YtdjpdllehhecpaaGreatDoor
open Go.RowKit Go.Extern.Stop Go.Stop Go.Extern
set_option linter.unusedVariables false
set_option linter.unusedSimpArgs false
end Go.Proofs.YtdjpdllehhecpaaGreatDoor
namespace Go.Proofs.YtdjpdllehhecpaaGreatDoor
open Go.RowKit
set_option linter.unusedVariables false
set_option linter.unusedSimpArgs false
end Go.Proofs.YtdjpdllehhecpaaGreatDoor
