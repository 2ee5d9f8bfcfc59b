/-
  NARROWER THAN 'FOR EVERY INPUT', by the rows' own cells (each row's printed sentence says how): WirePuts: laid · WireGets: laid · WireCuts: laid.
  DERIVED. THE GIVEN ROWS OF THIS SEAT. 3 by the template 'for every input the law returns true; each argument reads behind the call as it read before'; 0 by the template 'total and deterministic' (their statements: YtphdagmaamcapaaDoorTotals.lean).
  GIVEN WITH THE SEED: the statements are not yours to turn. If you find one false, say at which input.
  Laid BY PROGRAM, IN A SANDBOX (cutbox-rows.mjs): the forced cells as the released guide's own fill.sh prints them over the translation 67a9d84e58bb597f… (all of the seat's roots in one cut). By AI agents, Wed Nov 11 2026. No macro, syntax, notation, axiom, sorry.
-/
import Derived.Test.YtphdagmaamcapaaDoorChecked
import GoSem.Claim
import GoSem.ClaimJoined
import GoSem.ClaimMapViews
import Derived.JoinedTies
import Derived.KernelRfl
namespace Go.Proofs.YtphdagmaamcapaaDoor
/- THE CELL 'sum', in the pinned program and in every row, IS THE sha256 OF THE DUMP (.gsa) THAT YtphdagmaamcapaaDoorProg.lean LOADS. Nothing in Lean hashes anything: it is a label: what it is worth is what the hold of that sum in a sandbox is worth. -/
noncomputable def Tryd.pinned : Pinned := { name := "ytphdagmaamcapaadoor", sum := "67a9d84e58bb597ff0cd200d5b049a25e3e6237368633113abfdd3bed12304cd", checked := Tryd.checked }
namespace Rows
def none {H : Type} : Left H := { results := [], args := [] }

/- WHAT THE LISTED PACKAGE-LEVEL VARIABLES READ AS WHEN THE CALL BEGINS. Each datum BY PROGRAM (the guide's laid-datum.mjs) off the statement by which the dump's own 'gosem.cut.vars' lays the variable. In a bare row this is a premise. The card (YtphdagmaamcapaaDoorCards.lean) ties it to the program's text. -/
def laid_linotype_api_ErrScalar {H : Type} : DataW H := .iface "*errors.errorString" (.ptr (.agg [.lit (.string [115, 99, 97, 108, 97, 114])]))
def laid_linotype_api_ErrForm {H : Type} : DataW H := .iface "*errors.errorString" (.ptr (.agg [.lit (.string [102, 111, 114, 109])]))
def laid_linotype_api_ErrRange {H : Type} : DataW H := .iface "*errors.errorString" (.ptr (.agg [.lit (.string [114, 97, 110, 103, 101])]))
def laid_linotype_api_ErrLong {H : Type} : DataW H := .iface "*errors.errorString" (.ptr (.agg [.lit (.string [108, 111, 110, 103])]))
def laid_linotype_api_ErrKind {H : Type} : DataW H := .iface "*errors.errorString" (.ptr (.agg [.lit (.string [107, 105, 110, 100])]))
def laid_linotype_api_ErrWord {H : Type} : DataW H := .iface "*errors.errorString" (.ptr (.agg [.lit (.string [119, 111, 114, 100])]))
def laid_linotype_api_ErrFull {H : Type} : DataW H := .iface "*errors.errorString" (.ptr (.agg [.lit (.string [102, 117, 108, 108])]))
def laid_linotype_api_ErrNone {H : Type} : DataW H := .iface "*errors.errorString" (.ptr (.agg [.lit (.string [110, 111, 110, 101])]))

/-- 'linotypelaw55.WirePuts': WHATEVER THE INPUT: true; the input reads as it did. -/
def wirePutsSpec : ChangeSpec := { name := "wirePuts", fn := fun _ => fun
  | [d] => { results := [.lit (.bool true)], args := [d] }
  | _ => none }
def wirePutsRow : OpenClaim := { program := "ytphdagmaamcapaadoor", sum := "67a9d84e58bb597ff0cd200d5b049a25e3e6237368633113abfdd3bed12304cd", func := "linotype/linotypelaw55.WirePuts", spec := "wirePuts", inPlace := ["internal/reflectlite.TypeOf"], unfollowed := true, recurses := true, named := ["linotype/api.ErrKind", "linotype/api.ErrRange", "linotype/api.ErrLong", "linotype/api.ErrNone", "linotype/api.ErrForm", "linotype/api.ErrScalar", "linotype/api.ErrWord", "linotype/api.ErrFull"], apart := false, laid := [("linotype/api.ErrScalar", laid_linotype_api_ErrScalar), ("linotype/api.ErrForm", laid_linotype_api_ErrForm), ("linotype/api.ErrRange", laid_linotype_api_ErrRange), ("linotype/api.ErrLong", laid_linotype_api_ErrLong), ("linotype/api.ErrKind", laid_linotype_api_ErrKind), ("linotype/api.ErrWord", laid_linotype_api_ErrWord), ("linotype/api.ErrFull", laid_linotype_api_ErrFull), ("linotype/api.ErrNone", laid_linotype_api_ErrNone)] }
def WirePutsSaid : Prop := wirePutsRow.holds Tryd.pinned (OpenSpec.ofChange wirePutsSpec)

/-- ITS FALSE NEIGHBOUR: 'it returns false'. Refute it at one input. -/
def wirePutsWrong : ChangeSpec := { name := "wirePuts", fn := fun _ => fun
  | [d] => { results := [.lit (.bool false)], args := [d] }
  | _ => none }
def WirePutsWrongFalsely : Prop := wirePutsRow.holds Tryd.pinned (OpenSpec.ofChange wirePutsWrong)

/-- 'linotypelaw55.WireGets': WHATEVER THE INPUT: true; the input reads as it did. -/
def wireGetsSpec : ChangeSpec := { name := "wireGets", fn := fun _ => fun
  | [d] => { results := [.lit (.bool true)], args := [d] }
  | _ => none }
def wireGetsRow : OpenClaim := { program := "ytphdagmaamcapaadoor", sum := "67a9d84e58bb597ff0cd200d5b049a25e3e6237368633113abfdd3bed12304cd", func := "linotype/linotypelaw55.WireGets", spec := "wireGets", inPlace := ["internal/reflectlite.TypeOf"], unfollowed := true, recurses := true, named := ["linotype/api.ErrKind", "linotype/api.ErrRange", "linotype/api.ErrLong", "linotype/api.ErrNone", "linotype/api.ErrForm", "linotype/api.ErrScalar", "linotype/api.ErrFull", "linotype/api.ErrWord"], apart := false, laid := [("linotype/api.ErrScalar", laid_linotype_api_ErrScalar), ("linotype/api.ErrForm", laid_linotype_api_ErrForm), ("linotype/api.ErrRange", laid_linotype_api_ErrRange), ("linotype/api.ErrLong", laid_linotype_api_ErrLong), ("linotype/api.ErrKind", laid_linotype_api_ErrKind), ("linotype/api.ErrWord", laid_linotype_api_ErrWord), ("linotype/api.ErrFull", laid_linotype_api_ErrFull), ("linotype/api.ErrNone", laid_linotype_api_ErrNone)] }
def WireGetsSaid : Prop := wireGetsRow.holds Tryd.pinned (OpenSpec.ofChange wireGetsSpec)

/-- ITS FALSE NEIGHBOUR: 'it returns false'. Refute it at one input. -/
def wireGetsWrong : ChangeSpec := { name := "wireGets", fn := fun _ => fun
  | [d] => { results := [.lit (.bool false)], args := [d] }
  | _ => none }
def WireGetsWrongFalsely : Prop := wireGetsRow.holds Tryd.pinned (OpenSpec.ofChange wireGetsWrong)

/-- 'linotypelaw55.WireCuts': WHATEVER THE INPUT: true; the input reads as it did. -/
def wireCutsSpec : ChangeSpec := { name := "wireCuts", fn := fun _ => fun
  | [d1, d2, d3] => { results := [.lit (.bool true)], args := [d1, d2, d3] }
  | _ => none }
def wireCutsRow : OpenClaim := { program := "ytphdagmaamcapaadoor", sum := "67a9d84e58bb597ff0cd200d5b049a25e3e6237368633113abfdd3bed12304cd", func := "linotype/linotypelaw55.WireCuts", spec := "wireCuts", inPlace := ["internal/reflectlite.TypeOf"], unfollowed := true, recurses := true, named := ["linotype/api.ErrKind", "linotype/api.ErrRange", "linotype/api.ErrLong", "linotype/api.ErrNone", "linotype/api.ErrForm", "linotype/api.ErrScalar", "linotype/api.ErrFull", "linotype/api.ErrWord"], apart := false, laid := [("linotype/api.ErrScalar", laid_linotype_api_ErrScalar), ("linotype/api.ErrForm", laid_linotype_api_ErrForm), ("linotype/api.ErrRange", laid_linotype_api_ErrRange), ("linotype/api.ErrLong", laid_linotype_api_ErrLong), ("linotype/api.ErrKind", laid_linotype_api_ErrKind), ("linotype/api.ErrWord", laid_linotype_api_ErrWord), ("linotype/api.ErrFull", laid_linotype_api_ErrFull), ("linotype/api.ErrNone", laid_linotype_api_ErrNone)] }
def WireCutsSaid : Prop := wireCutsRow.holds Tryd.pinned (OpenSpec.ofChange wireCutsSpec)

/-- ITS FALSE NEIGHBOUR: 'it returns false'. Refute it at one input. -/
def wireCutsWrong : ChangeSpec := { name := "wireCuts", fn := fun _ => fun
  | [d1, d2, d3] => { results := [.lit (.bool false)], args := [d1, d2, d3] }
  | _ => none }
def WireCutsWrongFalsely : Prop := wireCutsRow.holds Tryd.pinned (OpenSpec.ofChange wireCutsWrong)

/- THE SECOND FORM. 'bulk': how many values and letters a reading holds, each counted each time it is reached (what is shared counts as often as it is met; a slice's spare places count too). A statement '..UptoSaid' is the law's where the arguments, and the package variables that the reading takes, are together of bulk at most 1048576: NARROWER than '..Said'. Prove '..Said' where nothing that the law and all that it calls make is longer than what came in: it says more and counts as full. Else prove '..UptoSaid'. A law counts once. -/
mutual
def uptoBulk {H : Type} : DataW H → Nat
  | .lit (.string bytes) => bytes.length + 1
  | .lit _ => 1
  | .nil => 1
  | .ptr d => uptoBulk d + 1
  | .slice elems spare => uptoBulkAll elems + uptoBulkAll spare + 1
  | .agg parts => uptoBulkAll parts + 1
  | .iface _ d => uptoBulk d + 1
  | .map entries => uptoBulkEntries entries + 1
  | .held _ => 1
def uptoBulkAll {H : Type} : List (DataW H) → Nat
  | [] => 0
  | d :: r => uptoBulk d + uptoBulkAll r
def uptoBulkEntries {H : Type} : List (Lit × DataW H) → Nat
  | [] => 0
  | x :: r => uptoBulkEntry x + uptoBulkEntries r
def uptoBulkEntry {H : Type} : Lit × DataW H → Nat
  | (.string bytes, d) => bytes.length + uptoBulk d + 1
  | (_, d) => uptoBulk d + 1
 end
def uptoSmall : (H : Type) → List (DataW H) → Bool := fun _ ds => decide (uptoBulkAll ds ≤ 1048576)
def OpenSpec.upto (s : _root_.Go.ChangeSpec) : _root_.Go.OpenSpec := { _root_.Go.OpenSpec.ofChange s with cond := some uptoSmall }

/-- 'linotypelaw55.WirePuts', WHERE WHAT IT READS IS OF BULK AT MOST 1048576: true; the input reads as it did. -/
def wirePutsUptoRow : OpenClaim := { program := "ytphdagmaamcapaadoor", sum := "67a9d84e58bb597ff0cd200d5b049a25e3e6237368633113abfdd3bed12304cd", func := "linotype/linotypelaw55.WirePuts", spec := "wirePuts", inPlace := ["internal/reflectlite.TypeOf"], unfollowed := true, recurses := true, named := ["linotype/api.ErrKind", "linotype/api.ErrRange", "linotype/api.ErrLong", "linotype/api.ErrNone", "linotype/api.ErrForm", "linotype/api.ErrScalar", "linotype/api.ErrWord", "linotype/api.ErrFull"], apart := false, laid := [("linotype/api.ErrScalar", laid_linotype_api_ErrScalar), ("linotype/api.ErrForm", laid_linotype_api_ErrForm), ("linotype/api.ErrRange", laid_linotype_api_ErrRange), ("linotype/api.ErrLong", laid_linotype_api_ErrLong), ("linotype/api.ErrKind", laid_linotype_api_ErrKind), ("linotype/api.ErrWord", laid_linotype_api_ErrWord), ("linotype/api.ErrFull", laid_linotype_api_ErrFull), ("linotype/api.ErrNone", laid_linotype_api_ErrNone)], narrowed := true }
def WirePutsUptoSaid : Prop := wirePutsUptoRow.holds Tryd.pinned (OpenSpec.upto wirePutsSpec)

/-- 'linotypelaw55.WireGets', WHERE WHAT IT READS IS OF BULK AT MOST 1048576: true; the input reads as it did. -/
def wireGetsUptoRow : OpenClaim := { program := "ytphdagmaamcapaadoor", sum := "67a9d84e58bb597ff0cd200d5b049a25e3e6237368633113abfdd3bed12304cd", func := "linotype/linotypelaw55.WireGets", spec := "wireGets", inPlace := ["internal/reflectlite.TypeOf"], unfollowed := true, recurses := true, named := ["linotype/api.ErrKind", "linotype/api.ErrRange", "linotype/api.ErrLong", "linotype/api.ErrNone", "linotype/api.ErrForm", "linotype/api.ErrScalar", "linotype/api.ErrFull", "linotype/api.ErrWord"], apart := false, laid := [("linotype/api.ErrScalar", laid_linotype_api_ErrScalar), ("linotype/api.ErrForm", laid_linotype_api_ErrForm), ("linotype/api.ErrRange", laid_linotype_api_ErrRange), ("linotype/api.ErrLong", laid_linotype_api_ErrLong), ("linotype/api.ErrKind", laid_linotype_api_ErrKind), ("linotype/api.ErrWord", laid_linotype_api_ErrWord), ("linotype/api.ErrFull", laid_linotype_api_ErrFull), ("linotype/api.ErrNone", laid_linotype_api_ErrNone)], narrowed := true }
def WireGetsUptoSaid : Prop := wireGetsUptoRow.holds Tryd.pinned (OpenSpec.upto wireGetsSpec)

/-- 'linotypelaw55.WireCuts', WHERE WHAT IT READS IS OF BULK AT MOST 1048576: true; the input reads as it did. -/
def wireCutsUptoRow : OpenClaim := { program := "ytphdagmaamcapaadoor", sum := "67a9d84e58bb597ff0cd200d5b049a25e3e6237368633113abfdd3bed12304cd", func := "linotype/linotypelaw55.WireCuts", spec := "wireCuts", inPlace := ["internal/reflectlite.TypeOf"], unfollowed := true, recurses := true, named := ["linotype/api.ErrKind", "linotype/api.ErrRange", "linotype/api.ErrLong", "linotype/api.ErrNone", "linotype/api.ErrForm", "linotype/api.ErrScalar", "linotype/api.ErrFull", "linotype/api.ErrWord"], apart := false, laid := [("linotype/api.ErrScalar", laid_linotype_api_ErrScalar), ("linotype/api.ErrForm", laid_linotype_api_ErrForm), ("linotype/api.ErrRange", laid_linotype_api_ErrRange), ("linotype/api.ErrLong", laid_linotype_api_ErrLong), ("linotype/api.ErrKind", laid_linotype_api_ErrKind), ("linotype/api.ErrWord", laid_linotype_api_ErrWord), ("linotype/api.ErrFull", laid_linotype_api_ErrFull), ("linotype/api.ErrNone", laid_linotype_api_ErrNone)], narrowed := true }
def WireCutsUptoSaid : Prop := wireCutsUptoRow.holds Tryd.pinned (OpenSpec.upto wireCutsSpec)

end Rows
end Go.Proofs.YtphdagmaamcapaaDoor
