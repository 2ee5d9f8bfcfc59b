/-
  NARROWER THAN 'FOR EVERY INPUT', by the rows' own cells (each row's printed sentence says how): ScalarPuts: laid · SearchFinds: laid · RegionTexts: laid · RegionBoxes: laid · AuditLooks: laid · AuditRight: laid.
  DERIVED. THE GIVEN ROWS OF THIS SEAT. 6 by the template 'for every input the law returns true; each argument reads behind the call as it read before'; 0 by the template 'total and deterministic' (their statements: YtejhaepgbfngcaaDoorTotals.lean).
  GIVEN WITH THE SEED: the statements are not yours to turn. If you find one false, say at which input.
  Laid BY PROGRAM, IN A SANDBOX (cutbox-rows.mjs): the forced cells as the released guide's own fill.sh prints them over the translation 376b41cdc668b0bd… (all of the seat's roots in one cut). By AI agents, Wed Nov 11 2026. No macro, syntax, notation, axiom, sorry.
-/
import Derived.Test.YtejhaepgbfngcaaDoorChecked
import GoSem.Claim
import GoSem.ClaimJoined
import GoSem.ClaimMapViews
import Derived.JoinedTies
import Derived.KernelRfl
namespace Go.Proofs.YtejhaepgbfngcaaDoor
/- THE CELL 'sum', in the pinned program and in every row, IS THE sha256 OF THE DUMP (.gsa) THAT YtejhaepgbfngcaaDoorProg.lean LOADS. Nothing in Lean hashes anything: it is a label: what it is worth is what the hold of that sum in a sandbox is worth. -/
noncomputable def Tryd.pinned : Pinned := { name := "ytejhaepgbfngcaadoor", sum := "376b41cdc668b0bdd84d1bcd56bfc176b6c96a05afbad578fb14369ad24f921c", checked := Tryd.checked }
namespace Rows
def none {H : Type} : Left H := { results := [], args := [] }

/- WHAT THE LISTED PACKAGE-LEVEL VARIABLES READ AS WHEN THE CALL BEGINS. Each datum BY PROGRAM (the guide's laid-datum.mjs) off the statement by which the dump's own 'gosem.cut.vars' lays the variable. In a bare row this is a premise. The card (YtejhaepgbfngcaaDoorCards.lean) ties it to the program's text. -/
def laid_errors_errorType {H : Type} : DataW H := .iface "internal/reflectlite.rtype" (.agg [.ptr (.lit (.string [101, 114, 114, 111, 114]))])
def laid_linotype_api_ErrScalar {H : Type} : DataW H := .iface "*errors.errorString" (.ptr (.agg [.lit (.string [115, 99, 97, 108, 97, 114])]))
def laid_linotype_api_ErrForm {H : Type} : DataW H := .iface "*errors.errorString" (.ptr (.agg [.lit (.string [102, 111, 114, 109])]))
def laid_linotype_api_ErrRange {H : Type} : DataW H := .iface "*errors.errorString" (.ptr (.agg [.lit (.string [114, 97, 110, 103, 101])]))
def laid_linotype_api_ErrLong {H : Type} : DataW H := .iface "*errors.errorString" (.ptr (.agg [.lit (.string [108, 111, 110, 103])]))
def laid_linotype_api_ErrKind {H : Type} : DataW H := .iface "*errors.errorString" (.ptr (.agg [.lit (.string [107, 105, 110, 100])]))
def laid_linotype_api_ErrWord {H : Type} : DataW H := .iface "*errors.errorString" (.ptr (.agg [.lit (.string [119, 111, 114, 100])]))
def laid_linotype_api_ErrFull {H : Type} : DataW H := .iface "*errors.errorString" (.ptr (.agg [.lit (.string [102, 117, 108, 108])]))
def laid_linotype_api_ErrNone {H : Type} : DataW H := .iface "*errors.errorString" (.ptr (.agg [.lit (.string [110, 111, 110, 101])]))

/-- 'linotypelaw01.ScalarPuts': WHATEVER THE INPUT: true; the input reads as it did. -/
def scalarPutsSpec : ChangeSpec := { name := "scalarPuts", fn := fun _ => fun
  | [d] => { results := [.lit (.bool true)], args := [d] }
  | _ => none }
def scalarPutsRow : OpenClaim := { program := "ytejhaepgbfngcaadoor", sum := "376b41cdc668b0bdd84d1bcd56bfc176b6c96a05afbad578fb14369ad24f921c", func := "linotype/linotypelaw01.ScalarPuts", spec := "scalarPuts", inPlace := ["internal/reflectlite.TypeOf", "internal/reflectlite.ValueOf", "(internal/reflectlite.Value).Type", "(internal/reflectlite.Value).IsNil", "(internal/reflectlite.Value).Elem", "(internal/reflectlite.Value).Set"], unfollowed := true, recurses := true, named := ["linotype/api.ErrScalar", "linotype/api.ErrForm", "linotype/api.ErrRange", "linotype/api.ErrLong", "linotype/api.ErrKind", "linotype/api.ErrWord", "linotype/api.ErrFull", "linotype/api.ErrNone", "errors.errorType"], apart := false, laid := [("errors.errorType", laid_errors_errorType), ("linotype/api.ErrScalar", laid_linotype_api_ErrScalar), ("linotype/api.ErrForm", laid_linotype_api_ErrForm), ("linotype/api.ErrRange", laid_linotype_api_ErrRange), ("linotype/api.ErrLong", laid_linotype_api_ErrLong), ("linotype/api.ErrKind", laid_linotype_api_ErrKind), ("linotype/api.ErrWord", laid_linotype_api_ErrWord), ("linotype/api.ErrFull", laid_linotype_api_ErrFull), ("linotype/api.ErrNone", laid_linotype_api_ErrNone)] }
def ScalarPutsSaid : Prop := scalarPutsRow.holds Tryd.pinned (OpenSpec.ofChange scalarPutsSpec)

/-- ITS FALSE NEIGHBOUR: 'it returns false'. Refute it at one input. -/
def scalarPutsWrong : ChangeSpec := { name := "scalarPuts", fn := fun _ => fun
  | [d] => { results := [.lit (.bool false)], args := [d] }
  | _ => none }
def ScalarPutsWrongFalsely : Prop := scalarPutsRow.holds Tryd.pinned (OpenSpec.ofChange scalarPutsWrong)

/-- 'linotypelaw53.SearchFinds': WHATEVER THE INPUT: true; the input reads as it did. -/
def searchFindsSpec : ChangeSpec := { name := "searchFinds", fn := fun _ => fun
  | [d1, d2, d3] => { results := [.lit (.bool true)], args := [d1, d2, d3] }
  | _ => none }
def searchFindsRow : OpenClaim := { program := "ytejhaepgbfngcaadoor", sum := "376b41cdc668b0bdd84d1bcd56bfc176b6c96a05afbad578fb14369ad24f921c", func := "linotype/linotypelaw53.SearchFinds", spec := "searchFinds", unfollowed := true, recurses := true, named := ["linotype/api.ErrRange", "linotype/api.ErrLong", "linotype/api.ErrNone", "linotype/api.ErrKind", "linotype/api.ErrForm"], apart := false, laid := [("linotype/api.ErrForm", laid_linotype_api_ErrForm), ("linotype/api.ErrRange", laid_linotype_api_ErrRange), ("linotype/api.ErrLong", laid_linotype_api_ErrLong), ("linotype/api.ErrKind", laid_linotype_api_ErrKind), ("linotype/api.ErrNone", laid_linotype_api_ErrNone)] }
def SearchFindsSaid : Prop := searchFindsRow.holds Tryd.pinned (OpenSpec.ofChange searchFindsSpec)

/-- ITS FALSE NEIGHBOUR: 'it returns false'. Refute it at one input. -/
def searchFindsWrong : ChangeSpec := { name := "searchFinds", fn := fun _ => fun
  | [d1, d2, d3] => { results := [.lit (.bool false)], args := [d1, d2, d3] }
  | _ => none }
def SearchFindsWrongFalsely : Prop := searchFindsRow.holds Tryd.pinned (OpenSpec.ofChange searchFindsWrong)

/-- 'linotypelaw52.RegionTexts': WHATEVER THE INPUT: true; the input reads as it did. -/
def regionTextsSpec : ChangeSpec := { name := "regionTexts", fn := fun _ => fun
  | [d1, d2, d3] => { results := [.lit (.bool true)], args := [d1, d2, d3] }
  | _ => none }
def regionTextsRow : OpenClaim := { program := "ytejhaepgbfngcaadoor", sum := "376b41cdc668b0bdd84d1bcd56bfc176b6c96a05afbad578fb14369ad24f921c", func := "linotype/linotypelaw52.RegionTexts", spec := "regionTexts", unfollowed := true, recurses := true, named := ["linotype/api.ErrRange", "linotype/api.ErrLong", "linotype/api.ErrNone", "linotype/api.ErrKind", "linotype/api.ErrForm"], apart := false, laid := [("linotype/api.ErrForm", laid_linotype_api_ErrForm), ("linotype/api.ErrRange", laid_linotype_api_ErrRange), ("linotype/api.ErrLong", laid_linotype_api_ErrLong), ("linotype/api.ErrKind", laid_linotype_api_ErrKind), ("linotype/api.ErrNone", laid_linotype_api_ErrNone)] }
def RegionTextsSaid : Prop := regionTextsRow.holds Tryd.pinned (OpenSpec.ofChange regionTextsSpec)

/-- ITS FALSE NEIGHBOUR: 'it returns false'. Refute it at one input. -/
def regionTextsWrong : ChangeSpec := { name := "regionTexts", fn := fun _ => fun
  | [d1, d2, d3] => { results := [.lit (.bool false)], args := [d1, d2, d3] }
  | _ => none }
def RegionTextsWrongFalsely : Prop := regionTextsRow.holds Tryd.pinned (OpenSpec.ofChange regionTextsWrong)

/-- 'linotypelaw52.RegionBoxes': WHATEVER THE INPUT: true; the input reads as it did. -/
def regionBoxesSpec : ChangeSpec := { name := "regionBoxes", fn := fun _ => fun
  | [d1, d2, d3] => { results := [.lit (.bool true)], args := [d1, d2, d3] }
  | _ => none }
def regionBoxesRow : OpenClaim := { program := "ytejhaepgbfngcaadoor", sum := "376b41cdc668b0bdd84d1bcd56bfc176b6c96a05afbad578fb14369ad24f921c", func := "linotype/linotypelaw52.RegionBoxes", spec := "regionBoxes", unfollowed := true, recurses := true, named := ["linotype/api.ErrRange", "linotype/api.ErrLong", "linotype/api.ErrNone", "linotype/api.ErrKind", "linotype/api.ErrForm"], apart := false, laid := [("linotype/api.ErrForm", laid_linotype_api_ErrForm), ("linotype/api.ErrRange", laid_linotype_api_ErrRange), ("linotype/api.ErrLong", laid_linotype_api_ErrLong), ("linotype/api.ErrKind", laid_linotype_api_ErrKind), ("linotype/api.ErrNone", laid_linotype_api_ErrNone)] }
def RegionBoxesSaid : Prop := regionBoxesRow.holds Tryd.pinned (OpenSpec.ofChange regionBoxesSpec)

/-- ITS FALSE NEIGHBOUR: 'it returns false'. Refute it at one input. -/
def regionBoxesWrong : ChangeSpec := { name := "regionBoxes", fn := fun _ => fun
  | [d1, d2, d3] => { results := [.lit (.bool false)], args := [d1, d2, d3] }
  | _ => none }
def RegionBoxesWrongFalsely : Prop := regionBoxesRow.holds Tryd.pinned (OpenSpec.ofChange regionBoxesWrong)

/-- 'linotypelaw47.AuditLooks': WHATEVER THE INPUT: true; the input reads as it did. -/
def auditLooksSpec : ChangeSpec := { name := "auditLooks", fn := fun _ => fun
  | [d] => { results := [.lit (.bool true)], args := [d] }
  | _ => none }
def auditLooksRow : OpenClaim := { program := "ytejhaepgbfngcaadoor", sum := "376b41cdc668b0bdd84d1bcd56bfc176b6c96a05afbad578fb14369ad24f921c", func := "linotype/linotypelaw47.AuditLooks", spec := "auditLooks", inPlace := ["internal/reflectlite.ValueOf", "(internal/reflectlite.Value).Type", "(internal/reflectlite.Value).IsNil", "internal/reflectlite.TypeOf", "(internal/reflectlite.Value).Elem", "(internal/reflectlite.Value).Set"], unfollowed := true, recurses := true, named := ["linotype/api.ErrRange", "linotype/api.ErrLong", "linotype/api.ErrNone", "linotype/api.ErrKind", "linotype/api.ErrForm", "errors.errorType", "linotype/api.ErrScalar", "linotype/api.ErrWord", "linotype/api.ErrFull"], apart := false, laid := [("errors.errorType", laid_errors_errorType), ("linotype/api.ErrScalar", laid_linotype_api_ErrScalar), ("linotype/api.ErrForm", laid_linotype_api_ErrForm), ("linotype/api.ErrRange", laid_linotype_api_ErrRange), ("linotype/api.ErrLong", laid_linotype_api_ErrLong), ("linotype/api.ErrKind", laid_linotype_api_ErrKind), ("linotype/api.ErrWord", laid_linotype_api_ErrWord), ("linotype/api.ErrFull", laid_linotype_api_ErrFull), ("linotype/api.ErrNone", laid_linotype_api_ErrNone)] }
def AuditLooksSaid : Prop := auditLooksRow.holds Tryd.pinned (OpenSpec.ofChange auditLooksSpec)

/-- ITS FALSE NEIGHBOUR: 'it returns false'. Refute it at one input. -/
def auditLooksWrong : ChangeSpec := { name := "auditLooks", fn := fun _ => fun
  | [d] => { results := [.lit (.bool false)], args := [d] }
  | _ => none }
def AuditLooksWrongFalsely : Prop := auditLooksRow.holds Tryd.pinned (OpenSpec.ofChange auditLooksWrong)

/-- 'linotypelaw47.AuditRight': WHATEVER THE INPUT: true; the input reads as it did. -/
def auditRightSpec : ChangeSpec := { name := "auditRight", fn := fun _ => fun
  | [d] => { results := [.lit (.bool true)], args := [d] }
  | _ => none }
def auditRightRow : OpenClaim := { program := "ytejhaepgbfngcaadoor", sum := "376b41cdc668b0bdd84d1bcd56bfc176b6c96a05afbad578fb14369ad24f921c", func := "linotype/linotypelaw47.AuditRight", spec := "auditRight", inPlace := ["internal/reflectlite.ValueOf", "(internal/reflectlite.Value).Type", "(internal/reflectlite.Value).IsNil", "internal/reflectlite.TypeOf", "(internal/reflectlite.Value).Elem", "(internal/reflectlite.Value).Set"], unfollowed := true, recurses := true, named := ["linotype/api.ErrRange", "linotype/api.ErrLong", "linotype/api.ErrNone", "linotype/api.ErrKind", "linotype/api.ErrForm", "errors.errorType", "linotype/api.ErrScalar", "linotype/api.ErrWord", "linotype/api.ErrFull"], apart := false, laid := [("errors.errorType", laid_errors_errorType), ("linotype/api.ErrScalar", laid_linotype_api_ErrScalar), ("linotype/api.ErrForm", laid_linotype_api_ErrForm), ("linotype/api.ErrRange", laid_linotype_api_ErrRange), ("linotype/api.ErrLong", laid_linotype_api_ErrLong), ("linotype/api.ErrKind", laid_linotype_api_ErrKind), ("linotype/api.ErrWord", laid_linotype_api_ErrWord), ("linotype/api.ErrFull", laid_linotype_api_ErrFull), ("linotype/api.ErrNone", laid_linotype_api_ErrNone)] }
def AuditRightSaid : Prop := auditRightRow.holds Tryd.pinned (OpenSpec.ofChange auditRightSpec)

/-- ITS FALSE NEIGHBOUR: 'it returns false'. Refute it at one input. -/
def auditRightWrong : ChangeSpec := { name := "auditRight", fn := fun _ => fun
  | [d] => { results := [.lit (.bool false)], args := [d] }
  | _ => none }
def AuditRightWrongFalsely : Prop := auditRightRow.holds Tryd.pinned (OpenSpec.ofChange auditRightWrong)

/- THE SECOND FORM. 'bulk': how many values and letters a reading holds, each counted each time it is reached (what is shared counts as often as it is met; a slice's spare places count too). A statement '..UptoSaid' is the law's where the arguments, and the package variables that the reading takes, are together of bulk at most 1048576: NARROWER than '..Said'. Prove '..Said' where nothing that the law and all that it calls make is longer than what came in: it says more and counts as full. Else prove '..UptoSaid'. A law counts once. -/
mutual
def uptoBulk {H : Type} : DataW H → Nat
  | .lit (.string bytes) => bytes.length + 1
  | .lit _ => 1
  | .nil => 1
  | .ptr d => uptoBulk d + 1
  | .slice elems spare => uptoBulkAll elems + uptoBulkAll spare + 1
  | .agg parts => uptoBulkAll parts + 1
  | .iface _ d => uptoBulk d + 1
  | .map entries => uptoBulkEntries entries + 1
  | .held _ => 1
def uptoBulkAll {H : Type} : List (DataW H) → Nat
  | [] => 0
  | d :: r => uptoBulk d + uptoBulkAll r
def uptoBulkEntries {H : Type} : List (Lit × DataW H) → Nat
  | [] => 0
  | x :: r => uptoBulkEntry x + uptoBulkEntries r
def uptoBulkEntry {H : Type} : Lit × DataW H → Nat
  | (.string bytes, d) => bytes.length + uptoBulk d + 1
  | (_, d) => uptoBulk d + 1
 end
def uptoSmall : (H : Type) → List (DataW H) → Bool := fun _ ds => decide (uptoBulkAll ds ≤ 1048576)
def OpenSpec.upto (s : _root_.Go.ChangeSpec) : _root_.Go.OpenSpec := { _root_.Go.OpenSpec.ofChange s with cond := some uptoSmall }

/-- 'linotypelaw01.ScalarPuts', WHERE WHAT IT READS IS OF BULK AT MOST 1048576: true; the input reads as it did. -/
def scalarPutsUptoRow : OpenClaim := { program := "ytejhaepgbfngcaadoor", sum := "376b41cdc668b0bdd84d1bcd56bfc176b6c96a05afbad578fb14369ad24f921c", func := "linotype/linotypelaw01.ScalarPuts", spec := "scalarPuts", inPlace := ["internal/reflectlite.TypeOf", "internal/reflectlite.ValueOf", "(internal/reflectlite.Value).Type", "(internal/reflectlite.Value).IsNil", "(internal/reflectlite.Value).Elem", "(internal/reflectlite.Value).Set"], unfollowed := true, recurses := true, named := ["linotype/api.ErrScalar", "linotype/api.ErrForm", "linotype/api.ErrRange", "linotype/api.ErrLong", "linotype/api.ErrKind", "linotype/api.ErrWord", "linotype/api.ErrFull", "linotype/api.ErrNone", "errors.errorType"], apart := false, laid := [("errors.errorType", laid_errors_errorType), ("linotype/api.ErrScalar", laid_linotype_api_ErrScalar), ("linotype/api.ErrForm", laid_linotype_api_ErrForm), ("linotype/api.ErrRange", laid_linotype_api_ErrRange), ("linotype/api.ErrLong", laid_linotype_api_ErrLong), ("linotype/api.ErrKind", laid_linotype_api_ErrKind), ("linotype/api.ErrWord", laid_linotype_api_ErrWord), ("linotype/api.ErrFull", laid_linotype_api_ErrFull), ("linotype/api.ErrNone", laid_linotype_api_ErrNone)], narrowed := true }
def ScalarPutsUptoSaid : Prop := scalarPutsUptoRow.holds Tryd.pinned (OpenSpec.upto scalarPutsSpec)

/-- 'linotypelaw53.SearchFinds', WHERE WHAT IT READS IS OF BULK AT MOST 1048576: true; the input reads as it did. -/
def searchFindsUptoRow : OpenClaim := { program := "ytejhaepgbfngcaadoor", sum := "376b41cdc668b0bdd84d1bcd56bfc176b6c96a05afbad578fb14369ad24f921c", func := "linotype/linotypelaw53.SearchFinds", spec := "searchFinds", unfollowed := true, recurses := true, named := ["linotype/api.ErrRange", "linotype/api.ErrLong", "linotype/api.ErrNone", "linotype/api.ErrKind", "linotype/api.ErrForm"], apart := false, laid := [("linotype/api.ErrForm", laid_linotype_api_ErrForm), ("linotype/api.ErrRange", laid_linotype_api_ErrRange), ("linotype/api.ErrLong", laid_linotype_api_ErrLong), ("linotype/api.ErrKind", laid_linotype_api_ErrKind), ("linotype/api.ErrNone", laid_linotype_api_ErrNone)], narrowed := true }
def SearchFindsUptoSaid : Prop := searchFindsUptoRow.holds Tryd.pinned (OpenSpec.upto searchFindsSpec)

/-- 'linotypelaw52.RegionTexts', WHERE WHAT IT READS IS OF BULK AT MOST 1048576: true; the input reads as it did. -/
def regionTextsUptoRow : OpenClaim := { program := "ytejhaepgbfngcaadoor", sum := "376b41cdc668b0bdd84d1bcd56bfc176b6c96a05afbad578fb14369ad24f921c", func := "linotype/linotypelaw52.RegionTexts", spec := "regionTexts", unfollowed := true, recurses := true, named := ["linotype/api.ErrRange", "linotype/api.ErrLong", "linotype/api.ErrNone", "linotype/api.ErrKind", "linotype/api.ErrForm"], apart := false, laid := [("linotype/api.ErrForm", laid_linotype_api_ErrForm), ("linotype/api.ErrRange", laid_linotype_api_ErrRange), ("linotype/api.ErrLong", laid_linotype_api_ErrLong), ("linotype/api.ErrKind", laid_linotype_api_ErrKind), ("linotype/api.ErrNone", laid_linotype_api_ErrNone)], narrowed := true }
def RegionTextsUptoSaid : Prop := regionTextsUptoRow.holds Tryd.pinned (OpenSpec.upto regionTextsSpec)

/-- 'linotypelaw52.RegionBoxes', WHERE WHAT IT READS IS OF BULK AT MOST 1048576: true; the input reads as it did. -/
def regionBoxesUptoRow : OpenClaim := { program := "ytejhaepgbfngcaadoor", sum := "376b41cdc668b0bdd84d1bcd56bfc176b6c96a05afbad578fb14369ad24f921c", func := "linotype/linotypelaw52.RegionBoxes", spec := "regionBoxes", unfollowed := true, recurses := true, named := ["linotype/api.ErrRange", "linotype/api.ErrLong", "linotype/api.ErrNone", "linotype/api.ErrKind", "linotype/api.ErrForm"], apart := false, laid := [("linotype/api.ErrForm", laid_linotype_api_ErrForm), ("linotype/api.ErrRange", laid_linotype_api_ErrRange), ("linotype/api.ErrLong", laid_linotype_api_ErrLong), ("linotype/api.ErrKind", laid_linotype_api_ErrKind), ("linotype/api.ErrNone", laid_linotype_api_ErrNone)], narrowed := true }
def RegionBoxesUptoSaid : Prop := regionBoxesUptoRow.holds Tryd.pinned (OpenSpec.upto regionBoxesSpec)

/-- 'linotypelaw47.AuditLooks', WHERE WHAT IT READS IS OF BULK AT MOST 1048576: true; the input reads as it did. -/
def auditLooksUptoRow : OpenClaim := { program := "ytejhaepgbfngcaadoor", sum := "376b41cdc668b0bdd84d1bcd56bfc176b6c96a05afbad578fb14369ad24f921c", func := "linotype/linotypelaw47.AuditLooks", spec := "auditLooks", inPlace := ["internal/reflectlite.ValueOf", "(internal/reflectlite.Value).Type", "(internal/reflectlite.Value).IsNil", "internal/reflectlite.TypeOf", "(internal/reflectlite.Value).Elem", "(internal/reflectlite.Value).Set"], unfollowed := true, recurses := true, named := ["linotype/api.ErrRange", "linotype/api.ErrLong", "linotype/api.ErrNone", "linotype/api.ErrKind", "linotype/api.ErrForm", "errors.errorType", "linotype/api.ErrScalar", "linotype/api.ErrWord", "linotype/api.ErrFull"], apart := false, laid := [("errors.errorType", laid_errors_errorType), ("linotype/api.ErrScalar", laid_linotype_api_ErrScalar), ("linotype/api.ErrForm", laid_linotype_api_ErrForm), ("linotype/api.ErrRange", laid_linotype_api_ErrRange), ("linotype/api.ErrLong", laid_linotype_api_ErrLong), ("linotype/api.ErrKind", laid_linotype_api_ErrKind), ("linotype/api.ErrWord", laid_linotype_api_ErrWord), ("linotype/api.ErrFull", laid_linotype_api_ErrFull), ("linotype/api.ErrNone", laid_linotype_api_ErrNone)], narrowed := true }
def AuditLooksUptoSaid : Prop := auditLooksUptoRow.holds Tryd.pinned (OpenSpec.upto auditLooksSpec)

/-- 'linotypelaw47.AuditRight', WHERE WHAT IT READS IS OF BULK AT MOST 1048576: true; the input reads as it did. -/
def auditRightUptoRow : OpenClaim := { program := "ytejhaepgbfngcaadoor", sum := "376b41cdc668b0bdd84d1bcd56bfc176b6c96a05afbad578fb14369ad24f921c", func := "linotype/linotypelaw47.AuditRight", spec := "auditRight", inPlace := ["internal/reflectlite.ValueOf", "(internal/reflectlite.Value).Type", "(internal/reflectlite.Value).IsNil", "internal/reflectlite.TypeOf", "(internal/reflectlite.Value).Elem", "(internal/reflectlite.Value).Set"], unfollowed := true, recurses := true, named := ["linotype/api.ErrRange", "linotype/api.ErrLong", "linotype/api.ErrNone", "linotype/api.ErrKind", "linotype/api.ErrForm", "errors.errorType", "linotype/api.ErrScalar", "linotype/api.ErrWord", "linotype/api.ErrFull"], apart := false, laid := [("errors.errorType", laid_errors_errorType), ("linotype/api.ErrScalar", laid_linotype_api_ErrScalar), ("linotype/api.ErrForm", laid_linotype_api_ErrForm), ("linotype/api.ErrRange", laid_linotype_api_ErrRange), ("linotype/api.ErrLong", laid_linotype_api_ErrLong), ("linotype/api.ErrKind", laid_linotype_api_ErrKind), ("linotype/api.ErrWord", laid_linotype_api_ErrWord), ("linotype/api.ErrFull", laid_linotype_api_ErrFull), ("linotype/api.ErrNone", laid_linotype_api_ErrNone)], narrowed := true }
def AuditRightUptoSaid : Prop := auditRightUptoRow.holds Tryd.pinned (OpenSpec.upto auditRightSpec)

end Rows
end Go.Proofs.YtejhaepgbfngcaaDoor
