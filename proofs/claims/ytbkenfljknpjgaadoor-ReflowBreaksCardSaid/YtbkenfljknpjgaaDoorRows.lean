/-
  NARROWER THAN 'FOR EVERY INPUT', by the rows' own cells (each row's printed sentence says how): GridRows: laid · ReflowKeeps: laid · GridMakes: laid · ReflowBreaks: laid · ReflowItems: laid.
  DERIVED. THE GIVEN ROWS OF THIS SEAT. 5 by the template 'for every input the law returns true; each argument reads behind the call as it read before'; 0 by the template 'total and deterministic' (their statements: YtbkenfljknpjgaaDoorTotals.lean).
  GIVEN WITH THE SEED: the statements are not yours to turn. If you find one false, say at which input.
  Laid BY PROGRAM, IN A SANDBOX (cutbox-rows.mjs): the forced cells as the released guide's own fill.sh prints them over the translation 19714fbf896779d0… (all of the seat's roots in one cut). By AI agents, Wed Nov 11 2026. No macro, syntax, notation, axiom, sorry.
-/
import Derived.Test.YtbkenfljknpjgaaDoorChecked
import GoSem.Claim
import GoSem.ClaimJoined
import GoSem.ClaimMapViews
import Derived.JoinedTies
import Derived.KernelRfl
namespace Go.Proofs.YtbkenfljknpjgaaDoor
/- THE CELL 'sum', in the pinned program and in every row, IS THE sha256 OF THE DUMP (.gsa) THAT YtbkenfljknpjgaaDoorProg.lean LOADS. Nothing in Lean hashes anything: it is a label: what it is worth is what the hold of that sum in a sandbox is worth. -/
noncomputable def Tryd.pinned : Pinned := { name := "ytbkenfljknpjgaadoor", sum := "19714fbf896779d0836faba0e7bf3c5498154c9a152bcd9a1848b5e80a707f67", checked := Tryd.checked }
namespace Rows
def none {H : Type} : Left H := { results := [], args := [] }

/- WHAT THE LISTED PACKAGE-LEVEL VARIABLES READ AS WHEN THE CALL BEGINS. Each datum BY PROGRAM (the guide's laid-datum.mjs) off the statement by which the dump's own 'gosem.cut.vars' lays the variable. In a bare row this is a premise. The card (YtbkenfljknpjgaaDoorCards.lean) ties it to the program's text. -/
def laid_linotype_api_ErrRange {H : Type} : DataW H := .iface "*errors.errorString" (.ptr (.agg [.lit (.string [114, 97, 110, 103, 101])]))
def laid_linotype_api_ErrKind {H : Type} : DataW H := .iface "*errors.errorString" (.ptr (.agg [.lit (.string [107, 105, 110, 100])]))
def laid_errors_errorType {H : Type} : DataW H := .iface "internal/reflectlite.rtype" (.agg [.ptr (.lit (.string [101, 114, 114, 111, 114]))])
def laid_linotype_api_ErrScalar {H : Type} : DataW H := .iface "*errors.errorString" (.ptr (.agg [.lit (.string [115, 99, 97, 108, 97, 114])]))
def laid_linotype_api_ErrForm {H : Type} : DataW H := .iface "*errors.errorString" (.ptr (.agg [.lit (.string [102, 111, 114, 109])]))
def laid_linotype_api_ErrLong {H : Type} : DataW H := .iface "*errors.errorString" (.ptr (.agg [.lit (.string [108, 111, 110, 103])]))
def laid_linotype_api_ErrWord {H : Type} : DataW H := .iface "*errors.errorString" (.ptr (.agg [.lit (.string [119, 111, 114, 100])]))
def laid_linotype_api_ErrFull {H : Type} : DataW H := .iface "*errors.errorString" (.ptr (.agg [.lit (.string [102, 117, 108, 108])]))
def laid_linotype_api_ErrNone {H : Type} : DataW H := .iface "*errors.errorString" (.ptr (.agg [.lit (.string [110, 111, 110, 101])]))

/-- 'linotypelaw32.GridRows': WHATEVER THE INPUT: true; the input reads as it did. -/
def gridRowsSpec : ChangeSpec := { name := "gridRows", fn := fun _ => fun
  | [d1, d2, d3] => { results := [.lit (.bool true)], args := [d1, d2, d3] }
  | _ => none }
def gridRowsRow : OpenClaim := { program := "ytbkenfljknpjgaadoor", sum := "19714fbf896779d0836faba0e7bf3c5498154c9a152bcd9a1848b5e80a707f67", func := "linotype/linotypelaw32.GridRows", spec := "gridRows", unfollowed := true, recurses := true, named := ["linotype/api.ErrRange", "linotype/api.ErrKind"], apart := false, laid := [("linotype/api.ErrRange", laid_linotype_api_ErrRange), ("linotype/api.ErrKind", laid_linotype_api_ErrKind)] }
def GridRowsSaid : Prop := gridRowsRow.holds Tryd.pinned (OpenSpec.ofChange gridRowsSpec)

/-- ITS FALSE NEIGHBOUR: 'it returns false'. Refute it at one input. -/
def gridRowsWrong : ChangeSpec := { name := "gridRows", fn := fun _ => fun
  | [d1, d2, d3] => { results := [.lit (.bool false)], args := [d1, d2, d3] }
  | _ => none }
def GridRowsWrongFalsely : Prop := gridRowsRow.holds Tryd.pinned (OpenSpec.ofChange gridRowsWrong)

/-- 'linotypelaw51.ReflowKeeps': WHATEVER THE INPUT: true; the input reads as it did. -/
def reflowKeepsSpec : ChangeSpec := { name := "reflowKeeps", fn := fun _ => fun
  | [d1, d2, d3] => { results := [.lit (.bool true)], args := [d1, d2, d3] }
  | _ => none }
def reflowKeepsRow : OpenClaim := { program := "ytbkenfljknpjgaadoor", sum := "19714fbf896779d0836faba0e7bf3c5498154c9a152bcd9a1848b5e80a707f67", func := "linotype/linotypelaw51.ReflowKeeps", spec := "reflowKeeps", unfollowed := true, recurses := true, named := ["linotype/api.ErrKind"], apart := false, laid := [("linotype/api.ErrKind", laid_linotype_api_ErrKind)] }
def ReflowKeepsSaid : Prop := reflowKeepsRow.holds Tryd.pinned (OpenSpec.ofChange reflowKeepsSpec)

/-- ITS FALSE NEIGHBOUR: 'it returns false'. Refute it at one input. -/
def reflowKeepsWrong : ChangeSpec := { name := "reflowKeeps", fn := fun _ => fun
  | [d1, d2, d3] => { results := [.lit (.bool false)], args := [d1, d2, d3] }
  | _ => none }
def ReflowKeepsWrongFalsely : Prop := reflowKeepsRow.holds Tryd.pinned (OpenSpec.ofChange reflowKeepsWrong)

/-- 'linotypelaw32.GridMakes': WHATEVER THE INPUT: true; the input reads as it did. -/
def gridMakesSpec : ChangeSpec := { name := "gridMakes", fn := fun _ => fun
  | [d1, d2, d3] => { results := [.lit (.bool true)], args := [d1, d2, d3] }
  | _ => none }
def gridMakesRow : OpenClaim := { program := "ytbkenfljknpjgaadoor", sum := "19714fbf896779d0836faba0e7bf3c5498154c9a152bcd9a1848b5e80a707f67", func := "linotype/linotypelaw32.GridMakes", spec := "gridMakes", inPlace := ["internal/reflectlite.TypeOf", "internal/reflectlite.ValueOf", "(internal/reflectlite.Value).Type", "(internal/reflectlite.Value).IsNil", "(internal/reflectlite.Value).Elem", "(internal/reflectlite.Value).Set"], unfollowed := true, recurses := true, named := ["linotype/api.ErrRange", "linotype/api.ErrKind", "linotype/api.ErrScalar", "linotype/api.ErrForm", "linotype/api.ErrLong", "linotype/api.ErrWord", "linotype/api.ErrFull", "linotype/api.ErrNone", "errors.errorType"], apart := false, laid := [("errors.errorType", laid_errors_errorType), ("linotype/api.ErrScalar", laid_linotype_api_ErrScalar), ("linotype/api.ErrForm", laid_linotype_api_ErrForm), ("linotype/api.ErrRange", laid_linotype_api_ErrRange), ("linotype/api.ErrLong", laid_linotype_api_ErrLong), ("linotype/api.ErrKind", laid_linotype_api_ErrKind), ("linotype/api.ErrWord", laid_linotype_api_ErrWord), ("linotype/api.ErrFull", laid_linotype_api_ErrFull), ("linotype/api.ErrNone", laid_linotype_api_ErrNone)] }
def GridMakesSaid : Prop := gridMakesRow.holds Tryd.pinned (OpenSpec.ofChange gridMakesSpec)

/-- ITS FALSE NEIGHBOUR: 'it returns false'. Refute it at one input. -/
def gridMakesWrong : ChangeSpec := { name := "gridMakes", fn := fun _ => fun
  | [d1, d2, d3] => { results := [.lit (.bool false)], args := [d1, d2, d3] }
  | _ => none }
def GridMakesWrongFalsely : Prop := gridMakesRow.holds Tryd.pinned (OpenSpec.ofChange gridMakesWrong)

/-- 'linotypelaw51.ReflowBreaks': WHATEVER THE INPUT: true; the input reads as it did. -/
def reflowBreaksSpec : ChangeSpec := { name := "reflowBreaks", fn := fun _ => fun
  | [d1, d2] => { results := [.lit (.bool true)], args := [d1, d2] }
  | _ => none }
def reflowBreaksRow : OpenClaim := { program := "ytbkenfljknpjgaadoor", sum := "19714fbf896779d0836faba0e7bf3c5498154c9a152bcd9a1848b5e80a707f67", func := "linotype/linotypelaw51.ReflowBreaks", spec := "reflowBreaks", inPlace := ["internal/reflectlite.TypeOf", "internal/reflectlite.ValueOf", "(internal/reflectlite.Value).Type", "(internal/reflectlite.Value).IsNil", "(internal/reflectlite.Value).Elem", "(internal/reflectlite.Value).Set"], unfollowed := true, recurses := true, named := ["linotype/api.ErrKind", "linotype/api.ErrScalar", "linotype/api.ErrForm", "linotype/api.ErrRange", "linotype/api.ErrLong", "linotype/api.ErrWord", "linotype/api.ErrFull", "linotype/api.ErrNone", "errors.errorType"], apart := false, laid := [("errors.errorType", laid_errors_errorType), ("linotype/api.ErrScalar", laid_linotype_api_ErrScalar), ("linotype/api.ErrForm", laid_linotype_api_ErrForm), ("linotype/api.ErrRange", laid_linotype_api_ErrRange), ("linotype/api.ErrLong", laid_linotype_api_ErrLong), ("linotype/api.ErrKind", laid_linotype_api_ErrKind), ("linotype/api.ErrWord", laid_linotype_api_ErrWord), ("linotype/api.ErrFull", laid_linotype_api_ErrFull), ("linotype/api.ErrNone", laid_linotype_api_ErrNone)] }
def ReflowBreaksSaid : Prop := reflowBreaksRow.holds Tryd.pinned (OpenSpec.ofChange reflowBreaksSpec)

/-- ITS FALSE NEIGHBOUR: 'it returns false'. Refute it at one input. -/
def reflowBreaksWrong : ChangeSpec := { name := "reflowBreaks", fn := fun _ => fun
  | [d1, d2] => { results := [.lit (.bool false)], args := [d1, d2] }
  | _ => none }
def ReflowBreaksWrongFalsely : Prop := reflowBreaksRow.holds Tryd.pinned (OpenSpec.ofChange reflowBreaksWrong)

/-- 'linotypelaw51.ReflowItems': WHATEVER THE INPUT: true; the input reads as it did. -/
def reflowItemsSpec : ChangeSpec := { name := "reflowItems", fn := fun _ => fun
  | [d1, d2] => { results := [.lit (.bool true)], args := [d1, d2] }
  | _ => none }
def reflowItemsRow : OpenClaim := { program := "ytbkenfljknpjgaadoor", sum := "19714fbf896779d0836faba0e7bf3c5498154c9a152bcd9a1848b5e80a707f67", func := "linotype/linotypelaw51.ReflowItems", spec := "reflowItems", inPlace := ["internal/reflectlite.TypeOf", "internal/reflectlite.ValueOf", "(internal/reflectlite.Value).Type", "(internal/reflectlite.Value).IsNil", "(internal/reflectlite.Value).Elem", "(internal/reflectlite.Value).Set"], unfollowed := true, recurses := true, named := ["linotype/api.ErrKind", "linotype/api.ErrScalar", "linotype/api.ErrForm", "linotype/api.ErrRange", "linotype/api.ErrLong", "linotype/api.ErrWord", "linotype/api.ErrFull", "linotype/api.ErrNone", "errors.errorType"], apart := false, laid := [("errors.errorType", laid_errors_errorType), ("linotype/api.ErrScalar", laid_linotype_api_ErrScalar), ("linotype/api.ErrForm", laid_linotype_api_ErrForm), ("linotype/api.ErrRange", laid_linotype_api_ErrRange), ("linotype/api.ErrLong", laid_linotype_api_ErrLong), ("linotype/api.ErrKind", laid_linotype_api_ErrKind), ("linotype/api.ErrWord", laid_linotype_api_ErrWord), ("linotype/api.ErrFull", laid_linotype_api_ErrFull), ("linotype/api.ErrNone", laid_linotype_api_ErrNone)] }
def ReflowItemsSaid : Prop := reflowItemsRow.holds Tryd.pinned (OpenSpec.ofChange reflowItemsSpec)

/-- ITS FALSE NEIGHBOUR: 'it returns false'. Refute it at one input. -/
def reflowItemsWrong : ChangeSpec := { name := "reflowItems", fn := fun _ => fun
  | [d1, d2] => { results := [.lit (.bool false)], args := [d1, d2] }
  | _ => none }
def ReflowItemsWrongFalsely : Prop := reflowItemsRow.holds Tryd.pinned (OpenSpec.ofChange reflowItemsWrong)

/- THE SECOND FORM. 'bulk': how many values and letters a reading holds, each counted each time it is reached (what is shared counts as often as it is met; a slice's spare places count too). A statement '..UptoSaid' is the law's where the arguments, and the package variables that the reading takes, are together of bulk at most 1048576: NARROWER than '..Said'. Prove '..Said' where nothing that the law and all that it calls make is longer than what came in: it says more and counts as full. Else prove '..UptoSaid'. A law counts once. -/
mutual
def uptoBulk {H : Type} : DataW H → Nat
  | .lit (.string bytes) => bytes.length + 1
  | .lit _ => 1
  | .nil => 1
  | .ptr d => uptoBulk d + 1
  | .slice elems spare => uptoBulkAll elems + uptoBulkAll spare + 1
  | .agg parts => uptoBulkAll parts + 1
  | .iface _ d => uptoBulk d + 1
  | .map entries => uptoBulkEntries entries + 1
  | .held _ => 1
def uptoBulkAll {H : Type} : List (DataW H) → Nat
  | [] => 0
  | d :: r => uptoBulk d + uptoBulkAll r
def uptoBulkEntries {H : Type} : List (Lit × DataW H) → Nat
  | [] => 0
  | x :: r => uptoBulkEntry x + uptoBulkEntries r
def uptoBulkEntry {H : Type} : Lit × DataW H → Nat
  | (.string bytes, d) => bytes.length + uptoBulk d + 1
  | (_, d) => uptoBulk d + 1
 end
def uptoSmall : (H : Type) → List (DataW H) → Bool := fun _ ds => decide (uptoBulkAll ds ≤ 1048576)
def OpenSpec.upto (s : _root_.Go.ChangeSpec) : _root_.Go.OpenSpec := { _root_.Go.OpenSpec.ofChange s with cond := some uptoSmall }

/-- 'linotypelaw32.GridRows', WHERE WHAT IT READS IS OF BULK AT MOST 1048576: true; the input reads as it did. -/
def gridRowsUptoRow : OpenClaim := { program := "ytbkenfljknpjgaadoor", sum := "19714fbf896779d0836faba0e7bf3c5498154c9a152bcd9a1848b5e80a707f67", func := "linotype/linotypelaw32.GridRows", spec := "gridRows", unfollowed := true, recurses := true, named := ["linotype/api.ErrRange", "linotype/api.ErrKind"], apart := false, laid := [("linotype/api.ErrRange", laid_linotype_api_ErrRange), ("linotype/api.ErrKind", laid_linotype_api_ErrKind)], narrowed := true }
def GridRowsUptoSaid : Prop := gridRowsUptoRow.holds Tryd.pinned (OpenSpec.upto gridRowsSpec)

/-- 'linotypelaw51.ReflowKeeps', WHERE WHAT IT READS IS OF BULK AT MOST 1048576: true; the input reads as it did. -/
def reflowKeepsUptoRow : OpenClaim := { program := "ytbkenfljknpjgaadoor", sum := "19714fbf896779d0836faba0e7bf3c5498154c9a152bcd9a1848b5e80a707f67", func := "linotype/linotypelaw51.ReflowKeeps", spec := "reflowKeeps", unfollowed := true, recurses := true, named := ["linotype/api.ErrKind"], apart := false, laid := [("linotype/api.ErrKind", laid_linotype_api_ErrKind)], narrowed := true }
def ReflowKeepsUptoSaid : Prop := reflowKeepsUptoRow.holds Tryd.pinned (OpenSpec.upto reflowKeepsSpec)

/-- 'linotypelaw32.GridMakes', WHERE WHAT IT READS IS OF BULK AT MOST 1048576: true; the input reads as it did. -/
def gridMakesUptoRow : OpenClaim := { program := "ytbkenfljknpjgaadoor", sum := "19714fbf896779d0836faba0e7bf3c5498154c9a152bcd9a1848b5e80a707f67", func := "linotype/linotypelaw32.GridMakes", spec := "gridMakes", inPlace := ["internal/reflectlite.TypeOf", "internal/reflectlite.ValueOf", "(internal/reflectlite.Value).Type", "(internal/reflectlite.Value).IsNil", "(internal/reflectlite.Value).Elem", "(internal/reflectlite.Value).Set"], unfollowed := true, recurses := true, named := ["linotype/api.ErrRange", "linotype/api.ErrKind", "linotype/api.ErrScalar", "linotype/api.ErrForm", "linotype/api.ErrLong", "linotype/api.ErrWord", "linotype/api.ErrFull", "linotype/api.ErrNone", "errors.errorType"], apart := false, laid := [("errors.errorType", laid_errors_errorType), ("linotype/api.ErrScalar", laid_linotype_api_ErrScalar), ("linotype/api.ErrForm", laid_linotype_api_ErrForm), ("linotype/api.ErrRange", laid_linotype_api_ErrRange), ("linotype/api.ErrLong", laid_linotype_api_ErrLong), ("linotype/api.ErrKind", laid_linotype_api_ErrKind), ("linotype/api.ErrWord", laid_linotype_api_ErrWord), ("linotype/api.ErrFull", laid_linotype_api_ErrFull), ("linotype/api.ErrNone", laid_linotype_api_ErrNone)], narrowed := true }
def GridMakesUptoSaid : Prop := gridMakesUptoRow.holds Tryd.pinned (OpenSpec.upto gridMakesSpec)

/-- 'linotypelaw51.ReflowBreaks', WHERE WHAT IT READS IS OF BULK AT MOST 1048576: true; the input reads as it did. -/
def reflowBreaksUptoRow : OpenClaim := { program := "ytbkenfljknpjgaadoor", sum := "19714fbf896779d0836faba0e7bf3c5498154c9a152bcd9a1848b5e80a707f67", func := "linotype/linotypelaw51.ReflowBreaks", spec := "reflowBreaks", inPlace := ["internal/reflectlite.TypeOf", "internal/reflectlite.ValueOf", "(internal/reflectlite.Value).Type", "(internal/reflectlite.Value).IsNil", "(internal/reflectlite.Value).Elem", "(internal/reflectlite.Value).Set"], unfollowed := true, recurses := true, named := ["linotype/api.ErrKind", "linotype/api.ErrScalar", "linotype/api.ErrForm", "linotype/api.ErrRange", "linotype/api.ErrLong", "linotype/api.ErrWord", "linotype/api.ErrFull", "linotype/api.ErrNone", "errors.errorType"], apart := false, laid := [("errors.errorType", laid_errors_errorType), ("linotype/api.ErrScalar", laid_linotype_api_ErrScalar), ("linotype/api.ErrForm", laid_linotype_api_ErrForm), ("linotype/api.ErrRange", laid_linotype_api_ErrRange), ("linotype/api.ErrLong", laid_linotype_api_ErrLong), ("linotype/api.ErrKind", laid_linotype_api_ErrKind), ("linotype/api.ErrWord", laid_linotype_api_ErrWord), ("linotype/api.ErrFull", laid_linotype_api_ErrFull), ("linotype/api.ErrNone", laid_linotype_api_ErrNone)], narrowed := true }
def ReflowBreaksUptoSaid : Prop := reflowBreaksUptoRow.holds Tryd.pinned (OpenSpec.upto reflowBreaksSpec)

/-- 'linotypelaw51.ReflowItems', WHERE WHAT IT READS IS OF BULK AT MOST 1048576: true; the input reads as it did. -/
def reflowItemsUptoRow : OpenClaim := { program := "ytbkenfljknpjgaadoor", sum := "19714fbf896779d0836faba0e7bf3c5498154c9a152bcd9a1848b5e80a707f67", func := "linotype/linotypelaw51.ReflowItems", spec := "reflowItems", inPlace := ["internal/reflectlite.TypeOf", "internal/reflectlite.ValueOf", "(internal/reflectlite.Value).Type", "(internal/reflectlite.Value).IsNil", "(internal/reflectlite.Value).Elem", "(internal/reflectlite.Value).Set"], unfollowed := true, recurses := true, named := ["linotype/api.ErrKind", "linotype/api.ErrScalar", "linotype/api.ErrForm", "linotype/api.ErrRange", "linotype/api.ErrLong", "linotype/api.ErrWord", "linotype/api.ErrFull", "linotype/api.ErrNone", "errors.errorType"], apart := false, laid := [("errors.errorType", laid_errors_errorType), ("linotype/api.ErrScalar", laid_linotype_api_ErrScalar), ("linotype/api.ErrForm", laid_linotype_api_ErrForm), ("linotype/api.ErrRange", laid_linotype_api_ErrRange), ("linotype/api.ErrLong", laid_linotype_api_ErrLong), ("linotype/api.ErrKind", laid_linotype_api_ErrKind), ("linotype/api.ErrWord", laid_linotype_api_ErrWord), ("linotype/api.ErrFull", laid_linotype_api_ErrFull), ("linotype/api.ErrNone", laid_linotype_api_ErrNone)], narrowed := true }
def ReflowItemsUptoSaid : Prop := reflowItemsUptoRow.holds Tryd.pinned (OpenSpec.upto reflowItemsSpec)

end Rows
end Go.Proofs.YtbkenfljknpjgaaDoor
