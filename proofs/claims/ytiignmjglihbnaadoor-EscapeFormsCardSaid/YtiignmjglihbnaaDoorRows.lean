/-
  NARROWER THAN 'FOR EVERY INPUT', by the rows' own cells (each row's printed sentence says how): EscapeQuotes: laid · EscapeScans: laid · EscapeUnquotes: laid · EscapeBack: laid · EscapeForms: laid · EscapeWithin: laid · EscapePlaces: laid.
  DERIVED. THE GIVEN ROWS OF THIS SEAT. 7 by the template 'for every input the law returns true; each argument reads behind the call as it read before'; 0 by the template 'total and deterministic' (their statements: YtiignmjglihbnaaDoorTotals.lean).
  GIVEN WITH THE SEED: the statements are not yours to turn. If you find one false, say at which input.
  Laid BY PROGRAM, IN A SANDBOX (cutbox-rows.mjs): the forced cells as the released guide's own fill.sh prints them over the translation 58e7d65e1462fda4… (all of the seat's roots in one cut). By AI agents, Wed Nov 11 2026. No macro, syntax, notation, axiom, sorry.
-/
import Derived.Test.YtiignmjglihbnaaDoorChecked
import GoSem.Claim
import GoSem.ClaimJoined
import GoSem.ClaimMapViews
import Derived.JoinedTies
import Derived.KernelRfl
namespace Go.Proofs.YtiignmjglihbnaaDoor
/- THE CELL 'sum', in the pinned program and in every row, IS THE sha256 OF THE DUMP (.gsa) THAT YtiignmjglihbnaaDoorProg.lean LOADS. Nothing in Lean hashes anything: it is a label: what it is worth is what the hold of that sum in a sandbox is worth. -/
noncomputable def Tryd.pinned : Pinned := { name := "ytiignmjglihbnaadoor", sum := "58e7d65e1462fda42aad07112d4905744b1d0a0ccfeb44b3a4e5eae468569fc6", checked := Tryd.checked }
namespace Rows
def none {H : Type} : Left H := { results := [], args := [] }

/- WHAT THE LISTED PACKAGE-LEVEL VARIABLES READ AS WHEN THE CALL BEGINS. Each datum BY PROGRAM (the guide's laid-datum.mjs) off the statement by which the dump's own 'gosem.cut.vars' lays the variable. In a bare row this is a premise. The card (YtiignmjglihbnaaDoorCards.lean) ties it to the program's text. -/
def laid_crucible_escape_shorts {H : Type} : DataW H := .agg [.agg [.lit (.int .u8 34), .lit (.int .u8 34)], .agg [.lit (.int .u8 92), .lit (.int .u8 92)], .agg [.lit (.int .u8 98), .lit (.int .u8 8)], .agg [.lit (.int .u8 116), .lit (.int .u8 9)], .agg [.lit (.int .u8 110), .lit (.int .u8 10)], .agg [.lit (.int .u8 102), .lit (.int .u8 12)], .agg [.lit (.int .u8 114), .lit (.int .u8 13)], .agg [.lit (.int .u8 47), .lit (.int .u8 47)]]
def laid_errors_errorType {H : Type} : DataW H := .iface "internal/reflectlite.rtype" (.agg [.ptr (.lit (.string [101, 114, 114, 111, 114]))])
def laid_crucible_api_ErrArg {H : Type} : DataW H := .iface "*errors.errorString" (.ptr (.agg [.lit (.string [97, 110, 32, 97, 114, 103, 117, 109, 101, 110, 116, 32, 116, 104, 97, 116, 32, 109, 97, 121, 32, 110, 111, 116, 32, 98, 101])]))
def laid_crucible_api_ErrNil {H : Type} : DataW H := .iface "*errors.errorString" (.ptr (.agg [.lit (.string [97, 110, 32, 111, 98, 106, 101, 99, 116, 32, 116, 104, 97, 116, 32, 105, 115, 32, 110, 111, 116, 32, 116, 104, 101, 114, 101])]))
def laid_crucible_api_ErrInput {H : Type} : DataW H := .iface "*errors.errorString" (.ptr (.agg [.lit (.string [110, 111, 32, 100, 111, 99, 117, 109, 101, 110, 116, 32, 111, 102, 32, 105, 116, 115, 32, 102, 111, 114, 109, 97, 116])]))
def laid_crucible_api_ErrRep {H : Type} : DataW H := .iface "*errors.errorString" (.ptr (.agg [.lit (.string [97, 32, 118, 97, 108, 117, 101, 32, 116, 104, 97, 116, 32, 116, 104, 101, 32, 102, 111, 114, 109, 97, 116, 32, 104, 97, 115, 32, 110, 111, 116])]))
def laid_crucible_api_ErrLimit {H : Type} : DataW H := .iface "*errors.errorString" (.ptr (.agg [.lit (.string [97, 32, 108, 105, 109, 105, 116])]))
def laid_crucible_api_ErrNone {H : Type} : DataW H := .iface "*errors.errorString" (.ptr (.agg [.lit (.string [110, 111, 32, 115, 117, 99, 104, 32, 116, 104, 105, 110, 103])]))
def laid_crucible_api_ErrBusy {H : Type} : DataW H := .iface "*errors.errorString" (.ptr (.agg [.lit (.string [116, 111, 111, 32, 109, 97, 110, 121, 32, 115, 101, 115, 115, 105, 111, 110, 115])]))
def laid_crucible_api_ErrHandle {H : Type} : DataW H := .iface "*errors.errorString" (.ptr (.agg [.lit (.string [110, 111, 32, 115, 117, 99, 104, 32, 115, 101, 115, 115, 105, 111, 110])]))
def laid_crucible_api_ErrKey {H : Type} : DataW H := .iface "*errors.errorString" (.ptr (.agg [.lit (.string [97, 110, 111, 116, 104, 101, 114, 32, 107, 101, 121])]))
def laid_crucible_api_ErrStopped {H : Type} : DataW H := .iface "*errors.errorString" (.ptr (.agg [.lit (.string [115, 116, 111, 112, 112, 101, 100])]))
def laid_crucible_api_ErrScript {H : Type} : DataW H := .iface "*errors.errorString" (.ptr (.agg [.lit (.string [110, 111, 32, 115, 99, 114, 105, 112, 116])]))

/-- 'cruciblelaw10.EscapeQuotes': WHATEVER THE INPUT: true; the input reads as it did. -/
def escapeQuotesSpec : ChangeSpec := { name := "escapeQuotes", fn := fun _ => fun
  | [d] => { results := [.lit (.bool true)], args := [d] }
  | _ => none }
def escapeQuotesRow : OpenClaim := { program := "ytiignmjglihbnaadoor", sum := "58e7d65e1462fda42aad07112d4905744b1d0a0ccfeb44b3a4e5eae468569fc6", func := "crucible/cruciblelaw10.EscapeQuotes", spec := "escapeQuotes", named := ["crucible/escape.shorts"], apart := false, laid := [("crucible/escape.shorts", laid_crucible_escape_shorts)] }
def EscapeQuotesSaid : Prop := escapeQuotesRow.holds Tryd.pinned (OpenSpec.ofChange escapeQuotesSpec)

/-- ITS FALSE NEIGHBOUR: 'it returns false'. Refute it at one input. -/
def escapeQuotesWrong : ChangeSpec := { name := "escapeQuotes", fn := fun _ => fun
  | [d] => { results := [.lit (.bool false)], args := [d] }
  | _ => none }
def EscapeQuotesWrongFalsely : Prop := escapeQuotesRow.holds Tryd.pinned (OpenSpec.ofChange escapeQuotesWrong)

/-- 'cruciblelaw10.EscapeScans': WHATEVER THE INPUT: true; the input reads as it did. -/
def escapeScansSpec : ChangeSpec := { name := "escapeScans", fn := fun _ => fun
  | [d1, d2] => { results := [.lit (.bool true)], args := [d1, d2] }
  | _ => none }
def escapeScansRow : OpenClaim := { program := "ytiignmjglihbnaadoor", sum := "58e7d65e1462fda42aad07112d4905744b1d0a0ccfeb44b3a4e5eae468569fc6", func := "crucible/cruciblelaw10.EscapeScans", spec := "escapeScans", inPlace := ["internal/bytealg.IndexByteString", "internal/reflectlite.TypeOf", "internal/reflectlite.ValueOf", "(internal/reflectlite.Value).Type", "(internal/reflectlite.Value).IsNil", "(internal/reflectlite.Value).Elem", "(internal/reflectlite.Value).Set"], unfollowed := true, recurses := true, named := ["crucible/api.ErrArg", "crucible/api.ErrInput", "crucible/escape.shorts", "crucible/api.ErrNil", "crucible/api.ErrRep", "crucible/api.ErrLimit", "crucible/api.ErrNone", "crucible/api.ErrBusy", "crucible/api.ErrHandle", "crucible/api.ErrKey", "crucible/api.ErrStopped", "crucible/api.ErrScript", "errors.errorType"], apart := false, laid := [("errors.errorType", laid_errors_errorType), ("crucible/api.ErrArg", laid_crucible_api_ErrArg), ("crucible/api.ErrNil", laid_crucible_api_ErrNil), ("crucible/api.ErrInput", laid_crucible_api_ErrInput), ("crucible/api.ErrRep", laid_crucible_api_ErrRep), ("crucible/api.ErrLimit", laid_crucible_api_ErrLimit), ("crucible/api.ErrNone", laid_crucible_api_ErrNone), ("crucible/api.ErrBusy", laid_crucible_api_ErrBusy), ("crucible/api.ErrHandle", laid_crucible_api_ErrHandle), ("crucible/api.ErrKey", laid_crucible_api_ErrKey), ("crucible/api.ErrStopped", laid_crucible_api_ErrStopped), ("crucible/api.ErrScript", laid_crucible_api_ErrScript), ("crucible/escape.shorts", laid_crucible_escape_shorts)] }
def EscapeScansSaid : Prop := escapeScansRow.holds Tryd.pinned (OpenSpec.ofChange escapeScansSpec)

/-- ITS FALSE NEIGHBOUR: 'it returns false'. Refute it at one input. -/
def escapeScansWrong : ChangeSpec := { name := "escapeScans", fn := fun _ => fun
  | [d1, d2] => { results := [.lit (.bool false)], args := [d1, d2] }
  | _ => none }
def EscapeScansWrongFalsely : Prop := escapeScansRow.holds Tryd.pinned (OpenSpec.ofChange escapeScansWrong)

/-- 'cruciblelaw10.EscapeUnquotes': WHATEVER THE INPUT: true; the input reads as it did. -/
def escapeUnquotesSpec : ChangeSpec := { name := "escapeUnquotes", fn := fun _ => fun
  | [d] => { results := [.lit (.bool true)], args := [d] }
  | _ => none }
def escapeUnquotesRow : OpenClaim := { program := "ytiignmjglihbnaadoor", sum := "58e7d65e1462fda42aad07112d4905744b1d0a0ccfeb44b3a4e5eae468569fc6", func := "crucible/cruciblelaw10.EscapeUnquotes", spec := "escapeUnquotes", inPlace := ["internal/bytealg.IndexByteString", "internal/reflectlite.TypeOf", "internal/reflectlite.ValueOf", "(internal/reflectlite.Value).Type", "(internal/reflectlite.Value).IsNil", "(internal/reflectlite.Value).Elem", "(internal/reflectlite.Value).Set"], unfollowed := true, recurses := true, named := ["crucible/api.ErrArg", "crucible/api.ErrInput", "crucible/escape.shorts", "crucible/api.ErrNil", "crucible/api.ErrRep", "crucible/api.ErrLimit", "crucible/api.ErrNone", "crucible/api.ErrBusy", "crucible/api.ErrHandle", "crucible/api.ErrKey", "crucible/api.ErrStopped", "crucible/api.ErrScript", "errors.errorType"], apart := false, laid := [("errors.errorType", laid_errors_errorType), ("crucible/api.ErrArg", laid_crucible_api_ErrArg), ("crucible/api.ErrNil", laid_crucible_api_ErrNil), ("crucible/api.ErrInput", laid_crucible_api_ErrInput), ("crucible/api.ErrRep", laid_crucible_api_ErrRep), ("crucible/api.ErrLimit", laid_crucible_api_ErrLimit), ("crucible/api.ErrNone", laid_crucible_api_ErrNone), ("crucible/api.ErrBusy", laid_crucible_api_ErrBusy), ("crucible/api.ErrHandle", laid_crucible_api_ErrHandle), ("crucible/api.ErrKey", laid_crucible_api_ErrKey), ("crucible/api.ErrStopped", laid_crucible_api_ErrStopped), ("crucible/api.ErrScript", laid_crucible_api_ErrScript), ("crucible/escape.shorts", laid_crucible_escape_shorts)] }
def EscapeUnquotesSaid : Prop := escapeUnquotesRow.holds Tryd.pinned (OpenSpec.ofChange escapeUnquotesSpec)

/-- ITS FALSE NEIGHBOUR: 'it returns false'. Refute it at one input. -/
def escapeUnquotesWrong : ChangeSpec := { name := "escapeUnquotes", fn := fun _ => fun
  | [d] => { results := [.lit (.bool false)], args := [d] }
  | _ => none }
def EscapeUnquotesWrongFalsely : Prop := escapeUnquotesRow.holds Tryd.pinned (OpenSpec.ofChange escapeUnquotesWrong)

/-- 'cruciblelaw10.EscapeBack': WHATEVER THE INPUT: true; the input reads as it did. -/
def escapeBackSpec : ChangeSpec := { name := "escapeBack", fn := fun _ => fun
  | [d] => { results := [.lit (.bool true)], args := [d] }
  | _ => none }
def escapeBackRow : OpenClaim := { program := "ytiignmjglihbnaadoor", sum := "58e7d65e1462fda42aad07112d4905744b1d0a0ccfeb44b3a4e5eae468569fc6", func := "crucible/cruciblelaw10.EscapeBack", spec := "escapeBack", inPlace := ["internal/bytealg.IndexByteString", "internal/reflectlite.TypeOf", "internal/reflectlite.ValueOf", "(internal/reflectlite.Value).Type", "(internal/reflectlite.Value).IsNil", "(internal/reflectlite.Value).Elem", "(internal/reflectlite.Value).Set"], unfollowed := true, recurses := true, named := ["crucible/escape.shorts", "crucible/api.ErrArg", "crucible/api.ErrInput", "crucible/api.ErrNil", "crucible/api.ErrRep", "crucible/api.ErrLimit", "crucible/api.ErrNone", "crucible/api.ErrBusy", "crucible/api.ErrHandle", "crucible/api.ErrKey", "crucible/api.ErrStopped", "crucible/api.ErrScript", "errors.errorType"], apart := false, laid := [("errors.errorType", laid_errors_errorType), ("crucible/api.ErrArg", laid_crucible_api_ErrArg), ("crucible/api.ErrNil", laid_crucible_api_ErrNil), ("crucible/api.ErrInput", laid_crucible_api_ErrInput), ("crucible/api.ErrRep", laid_crucible_api_ErrRep), ("crucible/api.ErrLimit", laid_crucible_api_ErrLimit), ("crucible/api.ErrNone", laid_crucible_api_ErrNone), ("crucible/api.ErrBusy", laid_crucible_api_ErrBusy), ("crucible/api.ErrHandle", laid_crucible_api_ErrHandle), ("crucible/api.ErrKey", laid_crucible_api_ErrKey), ("crucible/api.ErrStopped", laid_crucible_api_ErrStopped), ("crucible/api.ErrScript", laid_crucible_api_ErrScript), ("crucible/escape.shorts", laid_crucible_escape_shorts)] }
def EscapeBackSaid : Prop := escapeBackRow.holds Tryd.pinned (OpenSpec.ofChange escapeBackSpec)

/-- ITS FALSE NEIGHBOUR: 'it returns false'. Refute it at one input. -/
def escapeBackWrong : ChangeSpec := { name := "escapeBack", fn := fun _ => fun
  | [d] => { results := [.lit (.bool false)], args := [d] }
  | _ => none }
def EscapeBackWrongFalsely : Prop := escapeBackRow.holds Tryd.pinned (OpenSpec.ofChange escapeBackWrong)

/-- 'cruciblelaw10.EscapeForms': WHATEVER THE INPUT: true; the input reads as it did. -/
def escapeFormsSpec : ChangeSpec := { name := "escapeForms", fn := fun _ => fun
  | [d1, d2] => { results := [.lit (.bool true)], args := [d1, d2] }
  | _ => none }
def escapeFormsRow : OpenClaim := { program := "ytiignmjglihbnaadoor", sum := "58e7d65e1462fda42aad07112d4905744b1d0a0ccfeb44b3a4e5eae468569fc6", func := "crucible/cruciblelaw10.EscapeForms", spec := "escapeForms", inPlace := ["internal/bytealg.IndexByteString", "internal/reflectlite.TypeOf", "internal/reflectlite.ValueOf", "(internal/reflectlite.Value).Type", "(internal/reflectlite.Value).IsNil", "(internal/reflectlite.Value).Elem", "(internal/reflectlite.Value).Set"], unfollowed := true, recurses := true, named := ["crucible/escape.shorts", "crucible/api.ErrArg", "crucible/api.ErrInput", "crucible/api.ErrNil", "crucible/api.ErrRep", "crucible/api.ErrLimit", "crucible/api.ErrNone", "crucible/api.ErrBusy", "crucible/api.ErrHandle", "crucible/api.ErrKey", "crucible/api.ErrStopped", "crucible/api.ErrScript", "errors.errorType"], apart := false, laid := [("errors.errorType", laid_errors_errorType), ("crucible/api.ErrArg", laid_crucible_api_ErrArg), ("crucible/api.ErrNil", laid_crucible_api_ErrNil), ("crucible/api.ErrInput", laid_crucible_api_ErrInput), ("crucible/api.ErrRep", laid_crucible_api_ErrRep), ("crucible/api.ErrLimit", laid_crucible_api_ErrLimit), ("crucible/api.ErrNone", laid_crucible_api_ErrNone), ("crucible/api.ErrBusy", laid_crucible_api_ErrBusy), ("crucible/api.ErrHandle", laid_crucible_api_ErrHandle), ("crucible/api.ErrKey", laid_crucible_api_ErrKey), ("crucible/api.ErrStopped", laid_crucible_api_ErrStopped), ("crucible/api.ErrScript", laid_crucible_api_ErrScript), ("crucible/escape.shorts", laid_crucible_escape_shorts)] }
def EscapeFormsSaid : Prop := escapeFormsRow.holds Tryd.pinned (OpenSpec.ofChange escapeFormsSpec)

/-- ITS FALSE NEIGHBOUR: 'it returns false'. Refute it at one input. -/
def escapeFormsWrong : ChangeSpec := { name := "escapeForms", fn := fun _ => fun
  | [d1, d2] => { results := [.lit (.bool false)], args := [d1, d2] }
  | _ => none }
def EscapeFormsWrongFalsely : Prop := escapeFormsRow.holds Tryd.pinned (OpenSpec.ofChange escapeFormsWrong)

/-- 'cruciblelaw10.EscapeWithin': WHATEVER THE INPUT: true; the input reads as it did. -/
def escapeWithinSpec : ChangeSpec := { name := "escapeWithin", fn := fun _ => fun
  | [d1, d2, d3] => { results := [.lit (.bool true)], args := [d1, d2, d3] }
  | _ => none }
def escapeWithinRow : OpenClaim := { program := "ytiignmjglihbnaadoor", sum := "58e7d65e1462fda42aad07112d4905744b1d0a0ccfeb44b3a4e5eae468569fc6", func := "crucible/cruciblelaw10.EscapeWithin", spec := "escapeWithin", inPlace := ["internal/bytealg.IndexByteString", "internal/reflectlite.TypeOf", "internal/reflectlite.ValueOf", "(internal/reflectlite.Value).Type", "(internal/reflectlite.Value).IsNil", "(internal/reflectlite.Value).Elem", "(internal/reflectlite.Value).Set"], unfollowed := true, recurses := true, named := ["crucible/escape.shorts", "crucible/api.ErrArg", "crucible/api.ErrInput", "crucible/api.ErrNil", "crucible/api.ErrRep", "crucible/api.ErrLimit", "crucible/api.ErrNone", "crucible/api.ErrBusy", "crucible/api.ErrHandle", "crucible/api.ErrKey", "crucible/api.ErrStopped", "crucible/api.ErrScript", "errors.errorType"], apart := false, laid := [("errors.errorType", laid_errors_errorType), ("crucible/api.ErrArg", laid_crucible_api_ErrArg), ("crucible/api.ErrNil", laid_crucible_api_ErrNil), ("crucible/api.ErrInput", laid_crucible_api_ErrInput), ("crucible/api.ErrRep", laid_crucible_api_ErrRep), ("crucible/api.ErrLimit", laid_crucible_api_ErrLimit), ("crucible/api.ErrNone", laid_crucible_api_ErrNone), ("crucible/api.ErrBusy", laid_crucible_api_ErrBusy), ("crucible/api.ErrHandle", laid_crucible_api_ErrHandle), ("crucible/api.ErrKey", laid_crucible_api_ErrKey), ("crucible/api.ErrStopped", laid_crucible_api_ErrStopped), ("crucible/api.ErrScript", laid_crucible_api_ErrScript), ("crucible/escape.shorts", laid_crucible_escape_shorts)] }
def EscapeWithinSaid : Prop := escapeWithinRow.holds Tryd.pinned (OpenSpec.ofChange escapeWithinSpec)

/-- ITS FALSE NEIGHBOUR: 'it returns false'. Refute it at one input. -/
def escapeWithinWrong : ChangeSpec := { name := "escapeWithin", fn := fun _ => fun
  | [d1, d2, d3] => { results := [.lit (.bool false)], args := [d1, d2, d3] }
  | _ => none }
def EscapeWithinWrongFalsely : Prop := escapeWithinRow.holds Tryd.pinned (OpenSpec.ofChange escapeWithinWrong)

/-- 'cruciblelaw10.EscapePlaces': WHATEVER THE INPUT: true; the input reads as it did. -/
def escapePlacesSpec : ChangeSpec := { name := "escapePlaces", fn := fun _ => fun
  | [d1, d2] => { results := [.lit (.bool true)], args := [d1, d2] }
  | _ => none }
def escapePlacesRow : OpenClaim := { program := "ytiignmjglihbnaadoor", sum := "58e7d65e1462fda42aad07112d4905744b1d0a0ccfeb44b3a4e5eae468569fc6", func := "crucible/cruciblelaw10.EscapePlaces", spec := "escapePlaces", inPlace := ["internal/bytealg.IndexByteString", "internal/reflectlite.TypeOf", "internal/reflectlite.ValueOf", "(internal/reflectlite.Value).Type", "(internal/reflectlite.Value).IsNil", "(internal/reflectlite.Value).Elem", "(internal/reflectlite.Value).Set"], unfollowed := true, recurses := true, named := ["crucible/escape.shorts", "crucible/api.ErrArg", "crucible/api.ErrInput", "crucible/api.ErrNil", "crucible/api.ErrRep", "crucible/api.ErrLimit", "crucible/api.ErrNone", "crucible/api.ErrBusy", "crucible/api.ErrHandle", "crucible/api.ErrKey", "crucible/api.ErrStopped", "crucible/api.ErrScript", "errors.errorType"], apart := false, laid := [("errors.errorType", laid_errors_errorType), ("crucible/api.ErrArg", laid_crucible_api_ErrArg), ("crucible/api.ErrNil", laid_crucible_api_ErrNil), ("crucible/api.ErrInput", laid_crucible_api_ErrInput), ("crucible/api.ErrRep", laid_crucible_api_ErrRep), ("crucible/api.ErrLimit", laid_crucible_api_ErrLimit), ("crucible/api.ErrNone", laid_crucible_api_ErrNone), ("crucible/api.ErrBusy", laid_crucible_api_ErrBusy), ("crucible/api.ErrHandle", laid_crucible_api_ErrHandle), ("crucible/api.ErrKey", laid_crucible_api_ErrKey), ("crucible/api.ErrStopped", laid_crucible_api_ErrStopped), ("crucible/api.ErrScript", laid_crucible_api_ErrScript), ("crucible/escape.shorts", laid_crucible_escape_shorts)] }
def EscapePlacesSaid : Prop := escapePlacesRow.holds Tryd.pinned (OpenSpec.ofChange escapePlacesSpec)

/-- ITS FALSE NEIGHBOUR: 'it returns false'. Refute it at one input. -/
def escapePlacesWrong : ChangeSpec := { name := "escapePlaces", fn := fun _ => fun
  | [d1, d2] => { results := [.lit (.bool false)], args := [d1, d2] }
  | _ => none }
def EscapePlacesWrongFalsely : Prop := escapePlacesRow.holds Tryd.pinned (OpenSpec.ofChange escapePlacesWrong)

/- THE SECOND FORM. 'bulk': how many values and letters a reading holds, each counted each time it is reached (what is shared counts as often as it is met; a slice's spare places count too). A statement '..UptoSaid' is the law's where the arguments, and the package variables that the reading takes, are together of bulk at most 1048576: NARROWER than '..Said'. Prove '..Said' where nothing that the law and all that it calls make is longer than what came in: it says more and counts as full. Else prove '..UptoSaid'. A law counts once. -/
mutual
def uptoBulk {H : Type} : DataW H → Nat
  | .lit (.string bytes) => bytes.length + 1
  | .lit _ => 1
  | .nil => 1
  | .ptr d => uptoBulk d + 1
  | .slice elems spare => uptoBulkAll elems + uptoBulkAll spare + 1
  | .agg parts => uptoBulkAll parts + 1
  | .iface _ d => uptoBulk d + 1
  | .map entries => uptoBulkEntries entries + 1
  | .held _ => 1
def uptoBulkAll {H : Type} : List (DataW H) → Nat
  | [] => 0
  | d :: r => uptoBulk d + uptoBulkAll r
def uptoBulkEntries {H : Type} : List (Lit × DataW H) → Nat
  | [] => 0
  | x :: r => uptoBulkEntry x + uptoBulkEntries r
def uptoBulkEntry {H : Type} : Lit × DataW H → Nat
  | (.string bytes, d) => bytes.length + uptoBulk d + 1
  | (_, d) => uptoBulk d + 1
 end
def uptoSmall : (H : Type) → List (DataW H) → Bool := fun _ ds => decide (uptoBulkAll ds ≤ 1048576)
def OpenSpec.upto (s : _root_.Go.ChangeSpec) : _root_.Go.OpenSpec := { _root_.Go.OpenSpec.ofChange s with cond := some uptoSmall }

/-- 'cruciblelaw10.EscapeQuotes', WHERE WHAT IT READS IS OF BULK AT MOST 1048576: true; the input reads as it did. -/
def escapeQuotesUptoRow : OpenClaim := { program := "ytiignmjglihbnaadoor", sum := "58e7d65e1462fda42aad07112d4905744b1d0a0ccfeb44b3a4e5eae468569fc6", func := "crucible/cruciblelaw10.EscapeQuotes", spec := "escapeQuotes", named := ["crucible/escape.shorts"], apart := false, laid := [("crucible/escape.shorts", laid_crucible_escape_shorts)], narrowed := true }
def EscapeQuotesUptoSaid : Prop := escapeQuotesUptoRow.holds Tryd.pinned (OpenSpec.upto escapeQuotesSpec)

/-- 'cruciblelaw10.EscapeScans', WHERE WHAT IT READS IS OF BULK AT MOST 1048576: true; the input reads as it did. -/
def escapeScansUptoRow : OpenClaim := { program := "ytiignmjglihbnaadoor", sum := "58e7d65e1462fda42aad07112d4905744b1d0a0ccfeb44b3a4e5eae468569fc6", func := "crucible/cruciblelaw10.EscapeScans", spec := "escapeScans", inPlace := ["internal/bytealg.IndexByteString", "internal/reflectlite.TypeOf", "internal/reflectlite.ValueOf", "(internal/reflectlite.Value).Type", "(internal/reflectlite.Value).IsNil", "(internal/reflectlite.Value).Elem", "(internal/reflectlite.Value).Set"], unfollowed := true, recurses := true, named := ["crucible/api.ErrArg", "crucible/api.ErrInput", "crucible/escape.shorts", "crucible/api.ErrNil", "crucible/api.ErrRep", "crucible/api.ErrLimit", "crucible/api.ErrNone", "crucible/api.ErrBusy", "crucible/api.ErrHandle", "crucible/api.ErrKey", "crucible/api.ErrStopped", "crucible/api.ErrScript", "errors.errorType"], apart := false, laid := [("errors.errorType", laid_errors_errorType), ("crucible/api.ErrArg", laid_crucible_api_ErrArg), ("crucible/api.ErrNil", laid_crucible_api_ErrNil), ("crucible/api.ErrInput", laid_crucible_api_ErrInput), ("crucible/api.ErrRep", laid_crucible_api_ErrRep), ("crucible/api.ErrLimit", laid_crucible_api_ErrLimit), ("crucible/api.ErrNone", laid_crucible_api_ErrNone), ("crucible/api.ErrBusy", laid_crucible_api_ErrBusy), ("crucible/api.ErrHandle", laid_crucible_api_ErrHandle), ("crucible/api.ErrKey", laid_crucible_api_ErrKey), ("crucible/api.ErrStopped", laid_crucible_api_ErrStopped), ("crucible/api.ErrScript", laid_crucible_api_ErrScript), ("crucible/escape.shorts", laid_crucible_escape_shorts)], narrowed := true }
def EscapeScansUptoSaid : Prop := escapeScansUptoRow.holds Tryd.pinned (OpenSpec.upto escapeScansSpec)

/-- 'cruciblelaw10.EscapeUnquotes', WHERE WHAT IT READS IS OF BULK AT MOST 1048576: true; the input reads as it did. -/
def escapeUnquotesUptoRow : OpenClaim := { program := "ytiignmjglihbnaadoor", sum := "58e7d65e1462fda42aad07112d4905744b1d0a0ccfeb44b3a4e5eae468569fc6", func := "crucible/cruciblelaw10.EscapeUnquotes", spec := "escapeUnquotes", inPlace := ["internal/bytealg.IndexByteString", "internal/reflectlite.TypeOf", "internal/reflectlite.ValueOf", "(internal/reflectlite.Value).Type", "(internal/reflectlite.Value).IsNil", "(internal/reflectlite.Value).Elem", "(internal/reflectlite.Value).Set"], unfollowed := true, recurses := true, named := ["crucible/api.ErrArg", "crucible/api.ErrInput", "crucible/escape.shorts", "crucible/api.ErrNil", "crucible/api.ErrRep", "crucible/api.ErrLimit", "crucible/api.ErrNone", "crucible/api.ErrBusy", "crucible/api.ErrHandle", "crucible/api.ErrKey", "crucible/api.ErrStopped", "crucible/api.ErrScript", "errors.errorType"], apart := false, laid := [("errors.errorType", laid_errors_errorType), ("crucible/api.ErrArg", laid_crucible_api_ErrArg), ("crucible/api.ErrNil", laid_crucible_api_ErrNil), ("crucible/api.ErrInput", laid_crucible_api_ErrInput), ("crucible/api.ErrRep", laid_crucible_api_ErrRep), ("crucible/api.ErrLimit", laid_crucible_api_ErrLimit), ("crucible/api.ErrNone", laid_crucible_api_ErrNone), ("crucible/api.ErrBusy", laid_crucible_api_ErrBusy), ("crucible/api.ErrHandle", laid_crucible_api_ErrHandle), ("crucible/api.ErrKey", laid_crucible_api_ErrKey), ("crucible/api.ErrStopped", laid_crucible_api_ErrStopped), ("crucible/api.ErrScript", laid_crucible_api_ErrScript), ("crucible/escape.shorts", laid_crucible_escape_shorts)], narrowed := true }
def EscapeUnquotesUptoSaid : Prop := escapeUnquotesUptoRow.holds Tryd.pinned (OpenSpec.upto escapeUnquotesSpec)

/-- 'cruciblelaw10.EscapeBack', WHERE WHAT IT READS IS OF BULK AT MOST 1048576: true; the input reads as it did. -/
def escapeBackUptoRow : OpenClaim := { program := "ytiignmjglihbnaadoor", sum := "58e7d65e1462fda42aad07112d4905744b1d0a0ccfeb44b3a4e5eae468569fc6", func := "crucible/cruciblelaw10.EscapeBack", spec := "escapeBack", inPlace := ["internal/bytealg.IndexByteString", "internal/reflectlite.TypeOf", "internal/reflectlite.ValueOf", "(internal/reflectlite.Value).Type", "(internal/reflectlite.Value).IsNil", "(internal/reflectlite.Value).Elem", "(internal/reflectlite.Value).Set"], unfollowed := true, recurses := true, named := ["crucible/escape.shorts", "crucible/api.ErrArg", "crucible/api.ErrInput", "crucible/api.ErrNil", "crucible/api.ErrRep", "crucible/api.ErrLimit", "crucible/api.ErrNone", "crucible/api.ErrBusy", "crucible/api.ErrHandle", "crucible/api.ErrKey", "crucible/api.ErrStopped", "crucible/api.ErrScript", "errors.errorType"], apart := false, laid := [("errors.errorType", laid_errors_errorType), ("crucible/api.ErrArg", laid_crucible_api_ErrArg), ("crucible/api.ErrNil", laid_crucible_api_ErrNil), ("crucible/api.ErrInput", laid_crucible_api_ErrInput), ("crucible/api.ErrRep", laid_crucible_api_ErrRep), ("crucible/api.ErrLimit", laid_crucible_api_ErrLimit), ("crucible/api.ErrNone", laid_crucible_api_ErrNone), ("crucible/api.ErrBusy", laid_crucible_api_ErrBusy), ("crucible/api.ErrHandle", laid_crucible_api_ErrHandle), ("crucible/api.ErrKey", laid_crucible_api_ErrKey), ("crucible/api.ErrStopped", laid_crucible_api_ErrStopped), ("crucible/api.ErrScript", laid_crucible_api_ErrScript), ("crucible/escape.shorts", laid_crucible_escape_shorts)], narrowed := true }
def EscapeBackUptoSaid : Prop := escapeBackUptoRow.holds Tryd.pinned (OpenSpec.upto escapeBackSpec)

/-- 'cruciblelaw10.EscapeForms', WHERE WHAT IT READS IS OF BULK AT MOST 1048576: true; the input reads as it did. -/
def escapeFormsUptoRow : OpenClaim := { program := "ytiignmjglihbnaadoor", sum := "58e7d65e1462fda42aad07112d4905744b1d0a0ccfeb44b3a4e5eae468569fc6", func := "crucible/cruciblelaw10.EscapeForms", spec := "escapeForms", inPlace := ["internal/bytealg.IndexByteString", "internal/reflectlite.TypeOf", "internal/reflectlite.ValueOf", "(internal/reflectlite.Value).Type", "(internal/reflectlite.Value).IsNil", "(internal/reflectlite.Value).Elem", "(internal/reflectlite.Value).Set"], unfollowed := true, recurses := true, named := ["crucible/escape.shorts", "crucible/api.ErrArg", "crucible/api.ErrInput", "crucible/api.ErrNil", "crucible/api.ErrRep", "crucible/api.ErrLimit", "crucible/api.ErrNone", "crucible/api.ErrBusy", "crucible/api.ErrHandle", "crucible/api.ErrKey", "crucible/api.ErrStopped", "crucible/api.ErrScript", "errors.errorType"], apart := false, laid := [("errors.errorType", laid_errors_errorType), ("crucible/api.ErrArg", laid_crucible_api_ErrArg), ("crucible/api.ErrNil", laid_crucible_api_ErrNil), ("crucible/api.ErrInput", laid_crucible_api_ErrInput), ("crucible/api.ErrRep", laid_crucible_api_ErrRep), ("crucible/api.ErrLimit", laid_crucible_api_ErrLimit), ("crucible/api.ErrNone", laid_crucible_api_ErrNone), ("crucible/api.ErrBusy", laid_crucible_api_ErrBusy), ("crucible/api.ErrHandle", laid_crucible_api_ErrHandle), ("crucible/api.ErrKey", laid_crucible_api_ErrKey), ("crucible/api.ErrStopped", laid_crucible_api_ErrStopped), ("crucible/api.ErrScript", laid_crucible_api_ErrScript), ("crucible/escape.shorts", laid_crucible_escape_shorts)], narrowed := true }
def EscapeFormsUptoSaid : Prop := escapeFormsUptoRow.holds Tryd.pinned (OpenSpec.upto escapeFormsSpec)

/-- 'cruciblelaw10.EscapeWithin', WHERE WHAT IT READS IS OF BULK AT MOST 1048576: true; the input reads as it did. -/
def escapeWithinUptoRow : OpenClaim := { program := "ytiignmjglihbnaadoor", sum := "58e7d65e1462fda42aad07112d4905744b1d0a0ccfeb44b3a4e5eae468569fc6", func := "crucible/cruciblelaw10.EscapeWithin", spec := "escapeWithin", inPlace := ["internal/bytealg.IndexByteString", "internal/reflectlite.TypeOf", "internal/reflectlite.ValueOf", "(internal/reflectlite.Value).Type", "(internal/reflectlite.Value).IsNil", "(internal/reflectlite.Value).Elem", "(internal/reflectlite.Value).Set"], unfollowed := true, recurses := true, named := ["crucible/escape.shorts", "crucible/api.ErrArg", "crucible/api.ErrInput", "crucible/api.ErrNil", "crucible/api.ErrRep", "crucible/api.ErrLimit", "crucible/api.ErrNone", "crucible/api.ErrBusy", "crucible/api.ErrHandle", "crucible/api.ErrKey", "crucible/api.ErrStopped", "crucible/api.ErrScript", "errors.errorType"], apart := false, laid := [("errors.errorType", laid_errors_errorType), ("crucible/api.ErrArg", laid_crucible_api_ErrArg), ("crucible/api.ErrNil", laid_crucible_api_ErrNil), ("crucible/api.ErrInput", laid_crucible_api_ErrInput), ("crucible/api.ErrRep", laid_crucible_api_ErrRep), ("crucible/api.ErrLimit", laid_crucible_api_ErrLimit), ("crucible/api.ErrNone", laid_crucible_api_ErrNone), ("crucible/api.ErrBusy", laid_crucible_api_ErrBusy), ("crucible/api.ErrHandle", laid_crucible_api_ErrHandle), ("crucible/api.ErrKey", laid_crucible_api_ErrKey), ("crucible/api.ErrStopped", laid_crucible_api_ErrStopped), ("crucible/api.ErrScript", laid_crucible_api_ErrScript), ("crucible/escape.shorts", laid_crucible_escape_shorts)], narrowed := true }
def EscapeWithinUptoSaid : Prop := escapeWithinUptoRow.holds Tryd.pinned (OpenSpec.upto escapeWithinSpec)

/-- 'cruciblelaw10.EscapePlaces', WHERE WHAT IT READS IS OF BULK AT MOST 1048576: true; the input reads as it did. -/
def escapePlacesUptoRow : OpenClaim := { program := "ytiignmjglihbnaadoor", sum := "58e7d65e1462fda42aad07112d4905744b1d0a0ccfeb44b3a4e5eae468569fc6", func := "crucible/cruciblelaw10.EscapePlaces", spec := "escapePlaces", inPlace := ["internal/bytealg.IndexByteString", "internal/reflectlite.TypeOf", "internal/reflectlite.ValueOf", "(internal/reflectlite.Value).Type", "(internal/reflectlite.Value).IsNil", "(internal/reflectlite.Value).Elem", "(internal/reflectlite.Value).Set"], unfollowed := true, recurses := true, named := ["crucible/escape.shorts", "crucible/api.ErrArg", "crucible/api.ErrInput", "crucible/api.ErrNil", "crucible/api.ErrRep", "crucible/api.ErrLimit", "crucible/api.ErrNone", "crucible/api.ErrBusy", "crucible/api.ErrHandle", "crucible/api.ErrKey", "crucible/api.ErrStopped", "crucible/api.ErrScript", "errors.errorType"], apart := false, laid := [("errors.errorType", laid_errors_errorType), ("crucible/api.ErrArg", laid_crucible_api_ErrArg), ("crucible/api.ErrNil", laid_crucible_api_ErrNil), ("crucible/api.ErrInput", laid_crucible_api_ErrInput), ("crucible/api.ErrRep", laid_crucible_api_ErrRep), ("crucible/api.ErrLimit", laid_crucible_api_ErrLimit), ("crucible/api.ErrNone", laid_crucible_api_ErrNone), ("crucible/api.ErrBusy", laid_crucible_api_ErrBusy), ("crucible/api.ErrHandle", laid_crucible_api_ErrHandle), ("crucible/api.ErrKey", laid_crucible_api_ErrKey), ("crucible/api.ErrStopped", laid_crucible_api_ErrStopped), ("crucible/api.ErrScript", laid_crucible_api_ErrScript), ("crucible/escape.shorts", laid_crucible_escape_shorts)], narrowed := true }
def EscapePlacesUptoSaid : Prop := escapePlacesUptoRow.holds Tryd.pinned (OpenSpec.upto escapePlacesSpec)

end Rows
end Go.Proofs.YtiignmjglihbnaaDoor
