/-
  No cell of these rows narrows 'for every input' (looked for: loops, veiled, ifaces, maps, wideKeys, modest, calm, conditions, laid).
  DERIVED. THE GIVEN ROWS OF THIS SEAT. 11 by the template 'for every input the law returns true; each argument reads behind the call as it read before'; 0 by the template 'total and deterministic' (their statements: YtfcjkmiaibakiaaTotals.lean).
  GIVEN WITH THE SEED: the statements are not yours to turn. If you find one false, say at which input.
  Laid BY PROGRAM, IN A SANDBOX (cutbox-rows.mjs): the forced cells as the released guide's own fill.sh prints them over the translation 8e619e7b9a1fbae7… (all of the seat's roots in one cut). By AI agents, Wed Nov 11 2026. No macro, syntax, notation, axiom, sorry.
-/
import Derived.Test.YtfcjkmiaibakiaaChecked
import GoSem.Claim
import GoSem.ClaimJoined
import GoSem.ClaimMapViews
import Derived.JoinedTies
import Derived.KernelRfl
namespace Go.Proofs.Ytfcjkmiaibakiaa
/- THE CELL 'sum', in the pinned program and in every row, IS THE sha256 OF THE DUMP (.gsa) THAT YtfcjkmiaibakiaaProg.lean LOADS. Nothing in Lean hashes anything: it is a label: what it is worth is what the hold of that sum in a sandbox is worth. -/
noncomputable def Try.pinned : Pinned := { name := "ytfcjkmiaibakiaa", sum := "8e619e7b9a1fbae73e6dee4eaa9ea16546674040006a7f9c75bab4d561ed05cc", checked := Try.checked }
namespace Rows
def none {H : Type} : Left H := { results := [], args := [] }

/-- 'linotypelaw02.OctetTells': WHATEVER THE INPUT: true; the input reads as it did. -/
def octetTellsSpec : ChangeSpec := { name := "octetTells", fn := fun _ => fun
  | [d] => { results := [.lit (.bool true)], args := [d] }
  | _ => none }
def octetTellsRow : OpenClaim := { program := "ytfcjkmiaibakiaa", sum := "8e619e7b9a1fbae73e6dee4eaa9ea16546674040006a7f9c75bab4d561ed05cc", func := "linotype/linotypelaw02.OctetTells", spec := "octetTells", apart := false }
def OctetTellsSaid : Prop := octetTellsRow.holds Try.pinned (OpenSpec.ofChange octetTellsSpec)

/-- ITS FALSE NEIGHBOUR: 'it returns false'. Refute it at one input. -/
def octetTellsWrong : ChangeSpec := { name := "octetTells", fn := fun _ => fun
  | [d] => { results := [.lit (.bool false)], args := [d] }
  | _ => none }
def OctetTellsWrongFalsely : Prop := octetTellsRow.holds Try.pinned (OpenSpec.ofChange octetTellsWrong)

/-- 'linotypelaw02.OctetForms': WHATEVER THE INPUT: true; the input reads as it did. -/
def octetFormsSpec : ChangeSpec := { name := "octetForms", fn := fun _ => fun
  | [d] => { results := [.lit (.bool true)], args := [d] }
  | _ => none }
def octetFormsRow : OpenClaim := { program := "ytfcjkmiaibakiaa", sum := "8e619e7b9a1fbae73e6dee4eaa9ea16546674040006a7f9c75bab4d561ed05cc", func := "linotype/linotypelaw02.OctetForms", spec := "octetForms", apart := false }
def OctetFormsSaid : Prop := octetFormsRow.holds Try.pinned (OpenSpec.ofChange octetFormsSpec)

/-- ITS FALSE NEIGHBOUR: 'it returns false'. Refute it at one input. -/
def octetFormsWrong : ChangeSpec := { name := "octetForms", fn := fun _ => fun
  | [d] => { results := [.lit (.bool false)], args := [d] }
  | _ => none }
def OctetFormsWrongFalsely : Prop := octetFormsRow.holds Try.pinned (OpenSpec.ofChange octetFormsWrong)

/-- 'linotypelaw02.OctetBounds': WHATEVER THE INPUT: true; the input reads as it did. -/
def octetBoundsSpec : ChangeSpec := { name := "octetBounds", fn := fun _ => fun
  | [d1, d2, d3] => { results := [.lit (.bool true)], args := [d1, d2, d3] }
  | _ => none }
def octetBoundsRow : OpenClaim := { program := "ytfcjkmiaibakiaa", sum := "8e619e7b9a1fbae73e6dee4eaa9ea16546674040006a7f9c75bab4d561ed05cc", func := "linotype/linotypelaw02.OctetBounds", spec := "octetBounds", apart := false }
def OctetBoundsSaid : Prop := octetBoundsRow.holds Try.pinned (OpenSpec.ofChange octetBoundsSpec)

/-- ITS FALSE NEIGHBOUR: 'it returns false'. Refute it at one input. -/
def octetBoundsWrong : ChangeSpec := { name := "octetBounds", fn := fun _ => fun
  | [d1, d2, d3] => { results := [.lit (.bool false)], args := [d1, d2, d3] }
  | _ => none }
def OctetBoundsWrongFalsely : Prop := octetBoundsRow.holds Try.pinned (OpenSpec.ofChange octetBoundsWrong)

/-- 'linotypelaw04.UtfallCovers': WHATEVER THE INPUT: true; the input reads as it did. -/
def utfallCoversSpec : ChangeSpec := { name := "utfallCovers", fn := fun _ => fun
  | [d] => { results := [.lit (.bool true)], args := [d] }
  | _ => none }
def utfallCoversRow : OpenClaim := { program := "ytfcjkmiaibakiaa", sum := "8e619e7b9a1fbae73e6dee4eaa9ea16546674040006a7f9c75bab4d561ed05cc", func := "linotype/linotypelaw04.UtfallCovers", spec := "utfallCovers", apart := false }
def UtfallCoversSaid : Prop := utfallCoversRow.holds Try.pinned (OpenSpec.ofChange utfallCoversSpec)

/-- ITS FALSE NEIGHBOUR: 'it returns false'. Refute it at one input. -/
def utfallCoversWrong : ChangeSpec := { name := "utfallCovers", fn := fun _ => fun
  | [d] => { results := [.lit (.bool false)], args := [d] }
  | _ => none }
def UtfallCoversWrongFalsely : Prop := utfallCoversRow.holds Try.pinned (OpenSpec.ofChange utfallCoversWrong)

/-- 'linotypelaw03.UtfdecSteps': WHATEVER THE INPUT: true; the input reads as it did. -/
def utfdecStepsSpec : ChangeSpec := { name := "utfdecSteps", fn := fun _ => fun
  | [d] => { results := [.lit (.bool true)], args := [d] }
  | _ => none }
def utfdecStepsRow : OpenClaim := { program := "ytfcjkmiaibakiaa", sum := "8e619e7b9a1fbae73e6dee4eaa9ea16546674040006a7f9c75bab4d561ed05cc", func := "linotype/linotypelaw03.UtfdecSteps", spec := "utfdecSteps", recurses := true, apart := false }
def UtfdecStepsSaid : Prop := utfdecStepsRow.holds Try.pinned (OpenSpec.ofChange utfdecStepsSpec)

/-- ITS FALSE NEIGHBOUR: 'it returns false'. Refute it at one input. -/
def utfdecStepsWrong : ChangeSpec := { name := "utfdecSteps", fn := fun _ => fun
  | [d] => { results := [.lit (.bool false)], args := [d] }
  | _ => none }
def UtfdecStepsWrongFalsely : Prop := utfdecStepsRow.holds Try.pinned (OpenSpec.ofChange utfdecStepsWrong)

/-- 'linotypelaw03.UtfdecForms': WHATEVER THE INPUT: true; the input reads as it did. -/
def utfdecFormsSpec : ChangeSpec := { name := "utfdecForms", fn := fun _ => fun
  | [d] => { results := [.lit (.bool true)], args := [d] }
  | _ => none }
def utfdecFormsRow : OpenClaim := { program := "ytfcjkmiaibakiaa", sum := "8e619e7b9a1fbae73e6dee4eaa9ea16546674040006a7f9c75bab4d561ed05cc", func := "linotype/linotypelaw03.UtfdecForms", spec := "utfdecForms", apart := false }
def UtfdecFormsSaid : Prop := utfdecFormsRow.holds Try.pinned (OpenSpec.ofChange utfdecFormsSpec)

/-- ITS FALSE NEIGHBOUR: 'it returns false'. Refute it at one input. -/
def utfdecFormsWrong : ChangeSpec := { name := "utfdecForms", fn := fun _ => fun
  | [d] => { results := [.lit (.bool false)], args := [d] }
  | _ => none }
def UtfdecFormsWrongFalsely : Prop := utfdecFormsRow.holds Try.pinned (OpenSpec.ofChange utfdecFormsWrong)

/-- 'linotypelaw03.UtfdecCuts': WHATEVER THE INPUT: true; the input reads as it did. -/
def utfdecCutsSpec : ChangeSpec := { name := "utfdecCuts", fn := fun _ => fun
  | [d1, d2] => { results := [.lit (.bool true)], args := [d1, d2] }
  | _ => none }
def utfdecCutsRow : OpenClaim := { program := "ytfcjkmiaibakiaa", sum := "8e619e7b9a1fbae73e6dee4eaa9ea16546674040006a7f9c75bab4d561ed05cc", func := "linotype/linotypelaw03.UtfdecCuts", spec := "utfdecCuts", apart := false }
def UtfdecCutsSaid : Prop := utfdecCutsRow.holds Try.pinned (OpenSpec.ofChange utfdecCutsSpec)

/-- ITS FALSE NEIGHBOUR: 'it returns false'. Refute it at one input. -/
def utfdecCutsWrong : ChangeSpec := { name := "utfdecCuts", fn := fun _ => fun
  | [d1, d2] => { results := [.lit (.bool false)], args := [d1, d2] }
  | _ => none }
def UtfdecCutsWrongFalsely : Prop := utfdecCutsRow.holds Try.pinned (OpenSpec.ofChange utfdecCutsWrong)

/-- 'linotypelaw03.UtfdecNil': WHATEVER THE INPUT: true; the input reads as it did. -/
def utfdecNilSpec : ChangeSpec := { name := "utfdecNil", fn := fun _ => fun
  | [d] => { results := [.lit (.bool true)], args := [d] }
  | _ => none }
def utfdecNilRow : OpenClaim := { program := "ytfcjkmiaibakiaa", sum := "8e619e7b9a1fbae73e6dee4eaa9ea16546674040006a7f9c75bab4d561ed05cc", func := "linotype/linotypelaw03.UtfdecNil", spec := "utfdecNil", apart := false }
def UtfdecNilSaid : Prop := utfdecNilRow.holds Try.pinned (OpenSpec.ofChange utfdecNilSpec)

/-- ITS FALSE NEIGHBOUR: 'it returns false'. Refute it at one input. -/
def utfdecNilWrong : ChangeSpec := { name := "utfdecNil", fn := fun _ => fun
  | [d] => { results := [.lit (.bool false)], args := [d] }
  | _ => none }
def UtfdecNilWrongFalsely : Prop := utfdecNilRow.holds Try.pinned (OpenSpec.ofChange utfdecNilWrong)

/-- 'linotypelaw04.UtfallParts': WHATEVER THE INPUT: true; the input reads as it did. -/
def utfallPartsSpec : ChangeSpec := { name := "utfallParts", fn := fun _ => fun
  | [d] => { results := [.lit (.bool true)], args := [d] }
  | _ => none }
def utfallPartsRow : OpenClaim := { program := "ytfcjkmiaibakiaa", sum := "8e619e7b9a1fbae73e6dee4eaa9ea16546674040006a7f9c75bab4d561ed05cc", func := "linotype/linotypelaw04.UtfallParts", spec := "utfallParts", recurses := true, apart := false }
def UtfallPartsSaid : Prop := utfallPartsRow.holds Try.pinned (OpenSpec.ofChange utfallPartsSpec)

/-- ITS FALSE NEIGHBOUR: 'it returns false'. Refute it at one input. -/
def utfallPartsWrong : ChangeSpec := { name := "utfallParts", fn := fun _ => fun
  | [d] => { results := [.lit (.bool false)], args := [d] }
  | _ => none }
def UtfallPartsWrongFalsely : Prop := utfallPartsRow.holds Try.pinned (OpenSpec.ofChange utfallPartsWrong)

/-- 'linotypelaw04.UtfallJoins': WHATEVER THE INPUT: true; the input reads as it did. -/
def utfallJoinsSpec : ChangeSpec := { name := "utfallJoins", fn := fun _ => fun
  | [d1, d2] => { results := [.lit (.bool true)], args := [d1, d2] }
  | _ => none }
def utfallJoinsRow : OpenClaim := { program := "ytfcjkmiaibakiaa", sum := "8e619e7b9a1fbae73e6dee4eaa9ea16546674040006a7f9c75bab4d561ed05cc", func := "linotype/linotypelaw04.UtfallJoins", spec := "utfallJoins", apart := false }
def UtfallJoinsSaid : Prop := utfallJoinsRow.holds Try.pinned (OpenSpec.ofChange utfallJoinsSpec)

/-- ITS FALSE NEIGHBOUR: 'it returns false'. Refute it at one input. -/
def utfallJoinsWrong : ChangeSpec := { name := "utfallJoins", fn := fun _ => fun
  | [d1, d2] => { results := [.lit (.bool false)], args := [d1, d2] }
  | _ => none }
def UtfallJoinsWrongFalsely : Prop := utfallJoinsRow.holds Try.pinned (OpenSpec.ofChange utfallJoinsWrong)

/-- 'linotypelaw04.UtfallDecodes': WHATEVER THE INPUT: true; the input reads as it did. -/
def utfallDecodesSpec : ChangeSpec := { name := "utfallDecodes", fn := fun _ => fun
  | [d] => { results := [.lit (.bool true)], args := [d] }
  | _ => none }
def utfallDecodesRow : OpenClaim := { program := "ytfcjkmiaibakiaa", sum := "8e619e7b9a1fbae73e6dee4eaa9ea16546674040006a7f9c75bab4d561ed05cc", func := "linotype/linotypelaw04.UtfallDecodes", spec := "utfallDecodes", apart := false }
def UtfallDecodesSaid : Prop := utfallDecodesRow.holds Try.pinned (OpenSpec.ofChange utfallDecodesSpec)

/-- ITS FALSE NEIGHBOUR: 'it returns false'. Refute it at one input. -/
def utfallDecodesWrong : ChangeSpec := { name := "utfallDecodes", fn := fun _ => fun
  | [d] => { results := [.lit (.bool false)], args := [d] }
  | _ => none }
def UtfallDecodesWrongFalsely : Prop := utfallDecodesRow.holds Try.pinned (OpenSpec.ofChange utfallDecodesWrong)

/- THE SECOND FORM. 'bulk': how many values and letters a reading holds, each counted each time it is reached (what is shared counts as often as it is met; a slice's spare places count too). A statement '..UptoSaid' is the law's where the arguments, and the package variables that the reading takes, are together of bulk at most 1048576: NARROWER than '..Said'. Prove '..Said' where nothing that the law and all that it calls make is longer than what came in: it says more and counts as full. Else prove '..UptoSaid'. A law counts once. -/
mutual
def uptoBulk {H : Type} : DataW H → Nat
  | .lit (.string bytes) => bytes.length + 1
  | .lit _ => 1
  | .nil => 1
  | .ptr d => uptoBulk d + 1
  | .slice elems spare => uptoBulkAll elems + uptoBulkAll spare + 1
  | .agg parts => uptoBulkAll parts + 1
  | .iface _ d => uptoBulk d + 1
  | .map entries => uptoBulkEntries entries + 1
  | .held _ => 1
def uptoBulkAll {H : Type} : List (DataW H) → Nat
  | [] => 0
  | d :: r => uptoBulk d + uptoBulkAll r
def uptoBulkEntries {H : Type} : List (Lit × DataW H) → Nat
  | [] => 0
  | x :: r => uptoBulkEntry x + uptoBulkEntries r
def uptoBulkEntry {H : Type} : Lit × DataW H → Nat
  | (.string bytes, d) => bytes.length + uptoBulk d + 1
  | (_, d) => uptoBulk d + 1
 end
def uptoSmall : (H : Type) → List (DataW H) → Bool := fun _ ds => decide (uptoBulkAll ds ≤ 1048576)
def OpenSpec.upto (s : _root_.Go.ChangeSpec) : _root_.Go.OpenSpec := { _root_.Go.OpenSpec.ofChange s with cond := some uptoSmall }

/-- 'linotypelaw02.OctetTells', WHERE WHAT IT READS IS OF BULK AT MOST 1048576: true; the input reads as it did. -/
def octetTellsUptoRow : OpenClaim := { program := "ytfcjkmiaibakiaa", sum := "8e619e7b9a1fbae73e6dee4eaa9ea16546674040006a7f9c75bab4d561ed05cc", func := "linotype/linotypelaw02.OctetTells", spec := "octetTells", apart := false, narrowed := true }
def OctetTellsUptoSaid : Prop := octetTellsUptoRow.holds Try.pinned (OpenSpec.upto octetTellsSpec)

/-- 'linotypelaw02.OctetForms', WHERE WHAT IT READS IS OF BULK AT MOST 1048576: true; the input reads as it did. -/
def octetFormsUptoRow : OpenClaim := { program := "ytfcjkmiaibakiaa", sum := "8e619e7b9a1fbae73e6dee4eaa9ea16546674040006a7f9c75bab4d561ed05cc", func := "linotype/linotypelaw02.OctetForms", spec := "octetForms", apart := false, narrowed := true }
def OctetFormsUptoSaid : Prop := octetFormsUptoRow.holds Try.pinned (OpenSpec.upto octetFormsSpec)

/-- 'linotypelaw02.OctetBounds', WHERE WHAT IT READS IS OF BULK AT MOST 1048576: true; the input reads as it did. -/
def octetBoundsUptoRow : OpenClaim := { program := "ytfcjkmiaibakiaa", sum := "8e619e7b9a1fbae73e6dee4eaa9ea16546674040006a7f9c75bab4d561ed05cc", func := "linotype/linotypelaw02.OctetBounds", spec := "octetBounds", apart := false, narrowed := true }
def OctetBoundsUptoSaid : Prop := octetBoundsUptoRow.holds Try.pinned (OpenSpec.upto octetBoundsSpec)

/-- 'linotypelaw04.UtfallCovers', WHERE WHAT IT READS IS OF BULK AT MOST 1048576: true; the input reads as it did. -/
def utfallCoversUptoRow : OpenClaim := { program := "ytfcjkmiaibakiaa", sum := "8e619e7b9a1fbae73e6dee4eaa9ea16546674040006a7f9c75bab4d561ed05cc", func := "linotype/linotypelaw04.UtfallCovers", spec := "utfallCovers", apart := false, narrowed := true }
def UtfallCoversUptoSaid : Prop := utfallCoversUptoRow.holds Try.pinned (OpenSpec.upto utfallCoversSpec)

/-- 'linotypelaw03.UtfdecSteps', WHERE WHAT IT READS IS OF BULK AT MOST 1048576: true; the input reads as it did. -/
def utfdecStepsUptoRow : OpenClaim := { program := "ytfcjkmiaibakiaa", sum := "8e619e7b9a1fbae73e6dee4eaa9ea16546674040006a7f9c75bab4d561ed05cc", func := "linotype/linotypelaw03.UtfdecSteps", spec := "utfdecSteps", recurses := true, apart := false, narrowed := true }
def UtfdecStepsUptoSaid : Prop := utfdecStepsUptoRow.holds Try.pinned (OpenSpec.upto utfdecStepsSpec)

/-- 'linotypelaw03.UtfdecForms', WHERE WHAT IT READS IS OF BULK AT MOST 1048576: true; the input reads as it did. -/
def utfdecFormsUptoRow : OpenClaim := { program := "ytfcjkmiaibakiaa", sum := "8e619e7b9a1fbae73e6dee4eaa9ea16546674040006a7f9c75bab4d561ed05cc", func := "linotype/linotypelaw03.UtfdecForms", spec := "utfdecForms", apart := false, narrowed := true }
def UtfdecFormsUptoSaid : Prop := utfdecFormsUptoRow.holds Try.pinned (OpenSpec.upto utfdecFormsSpec)

/-- 'linotypelaw03.UtfdecCuts', WHERE WHAT IT READS IS OF BULK AT MOST 1048576: true; the input reads as it did. -/
def utfdecCutsUptoRow : OpenClaim := { program := "ytfcjkmiaibakiaa", sum := "8e619e7b9a1fbae73e6dee4eaa9ea16546674040006a7f9c75bab4d561ed05cc", func := "linotype/linotypelaw03.UtfdecCuts", spec := "utfdecCuts", apart := false, narrowed := true }
def UtfdecCutsUptoSaid : Prop := utfdecCutsUptoRow.holds Try.pinned (OpenSpec.upto utfdecCutsSpec)

/-- 'linotypelaw03.UtfdecNil', WHERE WHAT IT READS IS OF BULK AT MOST 1048576: true; the input reads as it did. -/
def utfdecNilUptoRow : OpenClaim := { program := "ytfcjkmiaibakiaa", sum := "8e619e7b9a1fbae73e6dee4eaa9ea16546674040006a7f9c75bab4d561ed05cc", func := "linotype/linotypelaw03.UtfdecNil", spec := "utfdecNil", apart := false, narrowed := true }
def UtfdecNilUptoSaid : Prop := utfdecNilUptoRow.holds Try.pinned (OpenSpec.upto utfdecNilSpec)

/-- 'linotypelaw04.UtfallParts', WHERE WHAT IT READS IS OF BULK AT MOST 1048576: true; the input reads as it did. -/
def utfallPartsUptoRow : OpenClaim := { program := "ytfcjkmiaibakiaa", sum := "8e619e7b9a1fbae73e6dee4eaa9ea16546674040006a7f9c75bab4d561ed05cc", func := "linotype/linotypelaw04.UtfallParts", spec := "utfallParts", recurses := true, apart := false, narrowed := true }
def UtfallPartsUptoSaid : Prop := utfallPartsUptoRow.holds Try.pinned (OpenSpec.upto utfallPartsSpec)

/-- 'linotypelaw04.UtfallJoins', WHERE WHAT IT READS IS OF BULK AT MOST 1048576: true; the input reads as it did. -/
def utfallJoinsUptoRow : OpenClaim := { program := "ytfcjkmiaibakiaa", sum := "8e619e7b9a1fbae73e6dee4eaa9ea16546674040006a7f9c75bab4d561ed05cc", func := "linotype/linotypelaw04.UtfallJoins", spec := "utfallJoins", apart := false, narrowed := true }
def UtfallJoinsUptoSaid : Prop := utfallJoinsUptoRow.holds Try.pinned (OpenSpec.upto utfallJoinsSpec)

/-- 'linotypelaw04.UtfallDecodes', WHERE WHAT IT READS IS OF BULK AT MOST 1048576: true; the input reads as it did. -/
def utfallDecodesUptoRow : OpenClaim := { program := "ytfcjkmiaibakiaa", sum := "8e619e7b9a1fbae73e6dee4eaa9ea16546674040006a7f9c75bab4d561ed05cc", func := "linotype/linotypelaw04.UtfallDecodes", spec := "utfallDecodes", apart := false, narrowed := true }
def UtfallDecodesUptoSaid : Prop := utfallDecodesUptoRow.holds Try.pinned (OpenSpec.upto utfallDecodesSpec)

end Rows
end Go.Proofs.Ytfcjkmiaibakiaa
