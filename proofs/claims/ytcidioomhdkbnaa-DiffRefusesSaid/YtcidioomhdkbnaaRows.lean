/-
  No cell of these rows narrows 'for every input' (looked for: loops, veiled, ifaces, maps, wideKeys, modest, calm, conditions, laid).
  DERIVED. THE GIVEN ROWS OF THIS SEAT. 3 by the template 'for every input the law returns true; each argument reads behind the call as it read before'; 0 by the template 'total and deterministic' (their statements: YtcidioomhdkbnaaTotals.lean).
  GIVEN WITH THE SEED: the statements are not yours to turn. If you find one false, say at which input.
  Laid BY PROGRAM, IN A SANDBOX (cutbox-rows.mjs): the forced cells as the released guide's own fill.sh prints them over the translation 8a0d8df8301a59e9… (all of the seat's roots in one cut). By AI agents, Wed Nov 11 2026. No macro, syntax, notation, axiom, sorry.
-/
import Derived.Test.YtcidioomhdkbnaaChecked
import GoSem.Claim
import GoSem.ClaimJoined
import GoSem.ClaimMapViews
import Derived.JoinedTies
import Derived.KernelRfl
namespace Go.Proofs.Ytcidioomhdkbnaa
/- THE CELL 'sum', in the pinned program and in every row, IS THE sha256 OF THE DUMP (.gsa) THAT YtcidioomhdkbnaaProg.lean LOADS. Nothing in Lean hashes anything: it is a label: what it is worth is what the hold of that sum in a sandbox is worth. -/
noncomputable def Try.pinned : Pinned := { name := "ytcidioomhdkbnaa", sum := "8a0d8df8301a59e9320a229e2be0fbf5060b8b30264f22710eb08f8a01cd2544", checked := Try.checked }
namespace Rows
def none {H : Type} : Left H := { results := [], args := [] }

/-- 'linotypelaw46.DiffStretches': WHATEVER THE INPUT: true; the input reads as it did. -/
def diffStretchesSpec : ChangeSpec := { name := "diffStretches", fn := fun _ => fun
  | [d1, d2] => { results := [.lit (.bool true)], args := [d1, d2] }
  | _ => none }
def diffStretchesRow : OpenClaim := { program := "ytcidioomhdkbnaa", sum := "8a0d8df8301a59e9320a229e2be0fbf5060b8b30264f22710eb08f8a01cd2544", func := "linotype/linotypelaw46.DiffStretches", spec := "diffStretches", unfollowed := true, recurses := true, apart := false }
def DiffStretchesSaid : Prop := diffStretchesRow.holds Try.pinned (OpenSpec.ofChange diffStretchesSpec)

/-- ITS FALSE NEIGHBOUR: 'it returns false'. Refute it at one input. -/
def diffStretchesWrong : ChangeSpec := { name := "diffStretches", fn := fun _ => fun
  | [d1, d2] => { results := [.lit (.bool false)], args := [d1, d2] }
  | _ => none }
def DiffStretchesWrongFalsely : Prop := diffStretchesRow.holds Try.pinned (OpenSpec.ofChange diffStretchesWrong)

/-- 'linotypelaw46.DiffApplies': WHATEVER THE INPUT: true; the input reads as it did. -/
def diffAppliesSpec : ChangeSpec := { name := "diffApplies", fn := fun _ => fun
  | [d1, d2] => { results := [.lit (.bool true)], args := [d1, d2] }
  | _ => none }
def diffAppliesRow : OpenClaim := { program := "ytcidioomhdkbnaa", sum := "8a0d8df8301a59e9320a229e2be0fbf5060b8b30264f22710eb08f8a01cd2544", func := "linotype/linotypelaw46.DiffApplies", spec := "diffApplies", unfollowed := true, recurses := true, apart := false }
def DiffAppliesSaid : Prop := diffAppliesRow.holds Try.pinned (OpenSpec.ofChange diffAppliesSpec)

/-- ITS FALSE NEIGHBOUR: 'it returns false'. Refute it at one input. -/
def diffAppliesWrong : ChangeSpec := { name := "diffApplies", fn := fun _ => fun
  | [d1, d2] => { results := [.lit (.bool false)], args := [d1, d2] }
  | _ => none }
def DiffAppliesWrongFalsely : Prop := diffAppliesRow.holds Try.pinned (OpenSpec.ofChange diffAppliesWrong)

/-- 'linotypelaw46.DiffRefuses': WHATEVER THE INPUT: true; the input reads as it did. -/
def diffRefusesSpec : ChangeSpec := { name := "diffRefuses", fn := fun _ => fun
  | [d1, d2] => { results := [.lit (.bool true)], args := [d1, d2] }
  | _ => none }
def diffRefusesRow : OpenClaim := { program := "ytcidioomhdkbnaa", sum := "8a0d8df8301a59e9320a229e2be0fbf5060b8b30264f22710eb08f8a01cd2544", func := "linotype/linotypelaw46.DiffRefuses", spec := "diffRefuses", unfollowed := true, recurses := true, apart := false }
def DiffRefusesSaid : Prop := diffRefusesRow.holds Try.pinned (OpenSpec.ofChange diffRefusesSpec)

/-- ITS FALSE NEIGHBOUR: 'it returns false'. Refute it at one input. -/
def diffRefusesWrong : ChangeSpec := { name := "diffRefuses", fn := fun _ => fun
  | [d1, d2] => { results := [.lit (.bool false)], args := [d1, d2] }
  | _ => none }
def DiffRefusesWrongFalsely : Prop := diffRefusesRow.holds Try.pinned (OpenSpec.ofChange diffRefusesWrong)

/- THE SECOND FORM. 'bulk': how many values and letters a reading holds, each counted each time it is reached (what is shared counts as often as it is met; a slice's spare places count too). A statement '..UptoSaid' is the law's where the arguments, and the package variables that the reading takes, are together of bulk at most 1048576: NARROWER than '..Said'. Prove '..Said' where nothing that the law and all that it calls make is longer than what came in: it says more and counts as full. Else prove '..UptoSaid'. A law counts once. -/
mutual
def uptoBulk {H : Type} : DataW H → Nat
  | .lit (.string bytes) => bytes.length + 1
  | .lit _ => 1
  | .nil => 1
  | .ptr d => uptoBulk d + 1
  | .slice elems spare => uptoBulkAll elems + uptoBulkAll spare + 1
  | .agg parts => uptoBulkAll parts + 1
  | .iface _ d => uptoBulk d + 1
  | .map entries => uptoBulkEntries entries + 1
  | .held _ => 1
def uptoBulkAll {H : Type} : List (DataW H) → Nat
  | [] => 0
  | d :: r => uptoBulk d + uptoBulkAll r
def uptoBulkEntries {H : Type} : List (Lit × DataW H) → Nat
  | [] => 0
  | x :: r => uptoBulkEntry x + uptoBulkEntries r
def uptoBulkEntry {H : Type} : Lit × DataW H → Nat
  | (.string bytes, d) => bytes.length + uptoBulk d + 1
  | (_, d) => uptoBulk d + 1
 end
def uptoSmall : (H : Type) → List (DataW H) → Bool := fun _ ds => decide (uptoBulkAll ds ≤ 1048576)
def OpenSpec.upto (s : _root_.Go.ChangeSpec) : _root_.Go.OpenSpec := { _root_.Go.OpenSpec.ofChange s with cond := some uptoSmall }

/-- 'linotypelaw46.DiffStretches', WHERE WHAT IT READS IS OF BULK AT MOST 1048576: true; the input reads as it did. -/
def diffStretchesUptoRow : OpenClaim := { program := "ytcidioomhdkbnaa", sum := "8a0d8df8301a59e9320a229e2be0fbf5060b8b30264f22710eb08f8a01cd2544", func := "linotype/linotypelaw46.DiffStretches", spec := "diffStretches", unfollowed := true, recurses := true, apart := false, narrowed := true }
def DiffStretchesUptoSaid : Prop := diffStretchesUptoRow.holds Try.pinned (OpenSpec.upto diffStretchesSpec)

/-- 'linotypelaw46.DiffApplies', WHERE WHAT IT READS IS OF BULK AT MOST 1048576: true; the input reads as it did. -/
def diffAppliesUptoRow : OpenClaim := { program := "ytcidioomhdkbnaa", sum := "8a0d8df8301a59e9320a229e2be0fbf5060b8b30264f22710eb08f8a01cd2544", func := "linotype/linotypelaw46.DiffApplies", spec := "diffApplies", unfollowed := true, recurses := true, apart := false, narrowed := true }
def DiffAppliesUptoSaid : Prop := diffAppliesUptoRow.holds Try.pinned (OpenSpec.upto diffAppliesSpec)

/-- 'linotypelaw46.DiffRefuses', WHERE WHAT IT READS IS OF BULK AT MOST 1048576: true; the input reads as it did. -/
def diffRefusesUptoRow : OpenClaim := { program := "ytcidioomhdkbnaa", sum := "8a0d8df8301a59e9320a229e2be0fbf5060b8b30264f22710eb08f8a01cd2544", func := "linotype/linotypelaw46.DiffRefuses", spec := "diffRefuses", unfollowed := true, recurses := true, apart := false, narrowed := true }
def DiffRefusesUptoSaid : Prop := diffRefusesUptoRow.holds Try.pinned (OpenSpec.upto diffRefusesSpec)

end Rows
end Go.Proofs.Ytcidioomhdkbnaa
