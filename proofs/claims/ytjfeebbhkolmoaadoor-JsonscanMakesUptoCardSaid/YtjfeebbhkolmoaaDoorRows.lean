/-
  NARROWER THAN 'FOR EVERY INPUT', by the rows' own cells (each row's printed sentence says how): JsonscanPlays: laid · JsonscanNone: laid · JsonscanTells: laid · JsonscanCuts: laid · JsonscanGoes: laid · JsonscanDeep: laid · JsonscanMakes: laid · JsonscanLiterals: laid.
  DERIVED. THE GIVEN ROWS OF THIS SEAT. 8 by the template 'for every input the law returns true; each argument reads behind the call as it read before'; 0 by the template 'total and deterministic' (their statements: YtjfeebbhkolmoaaDoorTotals.lean).
  GIVEN WITH THE SEED: the statements are not yours to turn. If you find one false, say at which input.
  Laid BY PROGRAM, IN A SANDBOX (cutbox-rows.mjs): the forced cells as the released guide's own fill.sh prints them over the translation 53605b8a1d54e830… (all of the seat's roots in one cut). By AI agents, Wed Nov 11 2026. No macro, syntax, notation, axiom, sorry.
-/
import Derived.Test.YtjfeebbhkolmoaaDoorChecked
import GoSem.Claim
import GoSem.ClaimJoined
import GoSem.ClaimMapViews
import Derived.JoinedTies
import Derived.KernelRfl
namespace Go.Proofs.YtjfeebbhkolmoaaDoor
/- THE CELL 'sum', in the pinned program and in every row, IS THE sha256 OF THE DUMP (.gsa) THAT YtjfeebbhkolmoaaDoorProg.lean LOADS. Nothing in Lean hashes anything: it is a label: what it is worth is what the hold of that sum in a sandbox is worth. -/
noncomputable def Tryd.pinned : Pinned := { name := "ytjfeebbhkolmoaadoor", sum := "53605b8a1d54e830b8801afae40e8a714102ba039344518380d2dab1443ad468", checked := Tryd.checked }
namespace Rows
def none {H : Type} : Left H := { results := [], args := [] }

/- WHAT THE LISTED PACKAGE-LEVEL VARIABLES READ AS WHEN THE CALL BEGINS. Each datum BY PROGRAM (the guide's laid-datum.mjs) off the statement by which the dump's own 'gosem.cut.vars' lays the variable. In a bare row this is a premise. The card (YtjfeebbhkolmoaaDoorCards.lean) ties it to the program's text. -/
def laid_errors_errorType {H : Type} : DataW H := .iface "internal/reflectlite.rtype" (.agg [.ptr (.lit (.string [101, 114, 114, 111, 114]))])
def laid_crucible_api_ErrArg {H : Type} : DataW H := .iface "*errors.errorString" (.ptr (.agg [.lit (.string [97, 110, 32, 97, 114, 103, 117, 109, 101, 110, 116, 32, 116, 104, 97, 116, 32, 109, 97, 121, 32, 110, 111, 116, 32, 98, 101])]))
def laid_crucible_api_ErrNil {H : Type} : DataW H := .iface "*errors.errorString" (.ptr (.agg [.lit (.string [97, 110, 32, 111, 98, 106, 101, 99, 116, 32, 116, 104, 97, 116, 32, 105, 115, 32, 110, 111, 116, 32, 116, 104, 101, 114, 101])]))
def laid_crucible_api_ErrInput {H : Type} : DataW H := .iface "*errors.errorString" (.ptr (.agg [.lit (.string [110, 111, 32, 100, 111, 99, 117, 109, 101, 110, 116, 32, 111, 102, 32, 105, 116, 115, 32, 102, 111, 114, 109, 97, 116])]))
def laid_crucible_api_ErrRep {H : Type} : DataW H := .iface "*errors.errorString" (.ptr (.agg [.lit (.string [97, 32, 118, 97, 108, 117, 101, 32, 116, 104, 97, 116, 32, 116, 104, 101, 32, 102, 111, 114, 109, 97, 116, 32, 104, 97, 115, 32, 110, 111, 116])]))
def laid_crucible_api_ErrLimit {H : Type} : DataW H := .iface "*errors.errorString" (.ptr (.agg [.lit (.string [97, 32, 108, 105, 109, 105, 116])]))
def laid_crucible_api_ErrNone {H : Type} : DataW H := .iface "*errors.errorString" (.ptr (.agg [.lit (.string [110, 111, 32, 115, 117, 99, 104, 32, 116, 104, 105, 110, 103])]))
def laid_crucible_api_ErrBusy {H : Type} : DataW H := .iface "*errors.errorString" (.ptr (.agg [.lit (.string [116, 111, 111, 32, 109, 97, 110, 121, 32, 115, 101, 115, 115, 105, 111, 110, 115])]))
def laid_crucible_api_ErrHandle {H : Type} : DataW H := .iface "*errors.errorString" (.ptr (.agg [.lit (.string [110, 111, 32, 115, 117, 99, 104, 32, 115, 101, 115, 115, 105, 111, 110])]))
def laid_crucible_api_ErrKey {H : Type} : DataW H := .iface "*errors.errorString" (.ptr (.agg [.lit (.string [97, 110, 111, 116, 104, 101, 114, 32, 107, 101, 121])]))
def laid_crucible_api_ErrStopped {H : Type} : DataW H := .iface "*errors.errorString" (.ptr (.agg [.lit (.string [115, 116, 111, 112, 112, 101, 100])]))
def laid_crucible_api_ErrScript {H : Type} : DataW H := .iface "*errors.errorString" (.ptr (.agg [.lit (.string [110, 111, 32, 115, 99, 114, 105, 112, 116])]))
def laid_crucible_escape_shorts {H : Type} : DataW H := .agg [.agg [.lit (.int .u8 34), .lit (.int .u8 34)], .agg [.lit (.int .u8 92), .lit (.int .u8 92)], .agg [.lit (.int .u8 98), .lit (.int .u8 8)], .agg [.lit (.int .u8 116), .lit (.int .u8 9)], .agg [.lit (.int .u8 110), .lit (.int .u8 10)], .agg [.lit (.int .u8 102), .lit (.int .u8 12)], .agg [.lit (.int .u8 114), .lit (.int .u8 13)], .agg [.lit (.int .u8 47), .lit (.int .u8 47)]]

/-- 'cruciblelaw16.JsonscanPlays': WHATEVER THE INPUT: true; the input reads as it did. -/
def jsonscanPlaysSpec : ChangeSpec := { name := "jsonscanPlays", fn := fun _ => fun
  | [d] => { results := [.lit (.bool true)], args := [d] }
  | _ => none }
def jsonscanPlaysRow : OpenClaim := { program := "ytjfeebbhkolmoaadoor", sum := "53605b8a1d54e830b8801afae40e8a714102ba039344518380d2dab1443ad468", func := "crucible/cruciblelaw16.JsonscanPlays", spec := "jsonscanPlays", inPlace := ["internal/reflectlite.TypeOf", "internal/reflectlite.ValueOf", "(internal/reflectlite.Value).Type", "(internal/reflectlite.Value).IsNil", "(internal/reflectlite.Value).Elem", "(internal/reflectlite.Value).Set"], unfollowed := true, recurses := true, named := ["crucible/api.ErrNil", "crucible/api.ErrArg", "crucible/api.ErrInput", "crucible/api.ErrRep", "crucible/api.ErrLimit", "crucible/api.ErrNone", "crucible/api.ErrBusy", "crucible/api.ErrHandle", "crucible/api.ErrKey", "crucible/api.ErrStopped", "crucible/api.ErrScript", "errors.errorType"], apart := false, laid := [("errors.errorType", laid_errors_errorType), ("crucible/api.ErrArg", laid_crucible_api_ErrArg), ("crucible/api.ErrNil", laid_crucible_api_ErrNil), ("crucible/api.ErrInput", laid_crucible_api_ErrInput), ("crucible/api.ErrRep", laid_crucible_api_ErrRep), ("crucible/api.ErrLimit", laid_crucible_api_ErrLimit), ("crucible/api.ErrNone", laid_crucible_api_ErrNone), ("crucible/api.ErrBusy", laid_crucible_api_ErrBusy), ("crucible/api.ErrHandle", laid_crucible_api_ErrHandle), ("crucible/api.ErrKey", laid_crucible_api_ErrKey), ("crucible/api.ErrStopped", laid_crucible_api_ErrStopped), ("crucible/api.ErrScript", laid_crucible_api_ErrScript)] }
def JsonscanPlaysSaid : Prop := jsonscanPlaysRow.holds Tryd.pinned (OpenSpec.ofChange jsonscanPlaysSpec)

/-- ITS FALSE NEIGHBOUR: 'it returns false'. Refute it at one input. -/
def jsonscanPlaysWrong : ChangeSpec := { name := "jsonscanPlays", fn := fun _ => fun
  | [d] => { results := [.lit (.bool false)], args := [d] }
  | _ => none }
def JsonscanPlaysWrongFalsely : Prop := jsonscanPlaysRow.holds Tryd.pinned (OpenSpec.ofChange jsonscanPlaysWrong)

/-- 'cruciblelaw16.JsonscanNone': WHATEVER THE INPUT: true; the input reads as it did. -/
def jsonscanNoneSpec : ChangeSpec := { name := "jsonscanNone", fn := fun _ => fun
  | [d] => { results := [.lit (.bool true)], args := [d] }
  | _ => none }
def jsonscanNoneRow : OpenClaim := { program := "ytjfeebbhkolmoaadoor", sum := "53605b8a1d54e830b8801afae40e8a714102ba039344518380d2dab1443ad468", func := "crucible/cruciblelaw16.JsonscanNone", spec := "jsonscanNone", inPlace := ["internal/reflectlite.TypeOf", "internal/reflectlite.ValueOf", "(internal/reflectlite.Value).Type", "(internal/reflectlite.Value).IsNil", "(internal/reflectlite.Value).Elem", "(internal/reflectlite.Value).Set"], unfollowed := true, recurses := true, named := ["crucible/api.ErrNil", "crucible/api.ErrArg", "crucible/api.ErrInput", "crucible/api.ErrRep", "crucible/api.ErrLimit", "crucible/api.ErrNone", "crucible/api.ErrBusy", "crucible/api.ErrHandle", "crucible/api.ErrKey", "crucible/api.ErrStopped", "crucible/api.ErrScript", "errors.errorType"], apart := false, laid := [("errors.errorType", laid_errors_errorType), ("crucible/api.ErrArg", laid_crucible_api_ErrArg), ("crucible/api.ErrNil", laid_crucible_api_ErrNil), ("crucible/api.ErrInput", laid_crucible_api_ErrInput), ("crucible/api.ErrRep", laid_crucible_api_ErrRep), ("crucible/api.ErrLimit", laid_crucible_api_ErrLimit), ("crucible/api.ErrNone", laid_crucible_api_ErrNone), ("crucible/api.ErrBusy", laid_crucible_api_ErrBusy), ("crucible/api.ErrHandle", laid_crucible_api_ErrHandle), ("crucible/api.ErrKey", laid_crucible_api_ErrKey), ("crucible/api.ErrStopped", laid_crucible_api_ErrStopped), ("crucible/api.ErrScript", laid_crucible_api_ErrScript)] }
def JsonscanNoneSaid : Prop := jsonscanNoneRow.holds Tryd.pinned (OpenSpec.ofChange jsonscanNoneSpec)

/-- ITS FALSE NEIGHBOUR: 'it returns false'. Refute it at one input. -/
def jsonscanNoneWrong : ChangeSpec := { name := "jsonscanNone", fn := fun _ => fun
  | [d] => { results := [.lit (.bool false)], args := [d] }
  | _ => none }
def JsonscanNoneWrongFalsely : Prop := jsonscanNoneRow.holds Tryd.pinned (OpenSpec.ofChange jsonscanNoneWrong)

/-- 'cruciblelaw16.JsonscanTells': WHATEVER THE INPUT: true; the input reads as it did. -/
def jsonscanTellsSpec : ChangeSpec := { name := "jsonscanTells", fn := fun _ => fun
  | [d] => { results := [.lit (.bool true)], args := [d] }
  | _ => none }
def jsonscanTellsRow : OpenClaim := { program := "ytjfeebbhkolmoaadoor", sum := "53605b8a1d54e830b8801afae40e8a714102ba039344518380d2dab1443ad468", func := "crucible/cruciblelaw16.JsonscanTells", spec := "jsonscanTells", inPlace := ["internal/reflectlite.TypeOf", "internal/reflectlite.ValueOf", "(internal/reflectlite.Value).Type", "(internal/reflectlite.Value).IsNil", "(internal/reflectlite.Value).Elem", "(internal/reflectlite.Value).Set"], unfollowed := true, recurses := true, named := ["crucible/api.ErrNil", "crucible/api.ErrArg", "crucible/api.ErrInput", "crucible/api.ErrRep", "crucible/api.ErrLimit", "crucible/api.ErrNone", "crucible/api.ErrBusy", "crucible/api.ErrHandle", "crucible/api.ErrKey", "crucible/api.ErrStopped", "crucible/api.ErrScript", "errors.errorType"], apart := false, laid := [("errors.errorType", laid_errors_errorType), ("crucible/api.ErrArg", laid_crucible_api_ErrArg), ("crucible/api.ErrNil", laid_crucible_api_ErrNil), ("crucible/api.ErrInput", laid_crucible_api_ErrInput), ("crucible/api.ErrRep", laid_crucible_api_ErrRep), ("crucible/api.ErrLimit", laid_crucible_api_ErrLimit), ("crucible/api.ErrNone", laid_crucible_api_ErrNone), ("crucible/api.ErrBusy", laid_crucible_api_ErrBusy), ("crucible/api.ErrHandle", laid_crucible_api_ErrHandle), ("crucible/api.ErrKey", laid_crucible_api_ErrKey), ("crucible/api.ErrStopped", laid_crucible_api_ErrStopped), ("crucible/api.ErrScript", laid_crucible_api_ErrScript)] }
def JsonscanTellsSaid : Prop := jsonscanTellsRow.holds Tryd.pinned (OpenSpec.ofChange jsonscanTellsSpec)

/-- ITS FALSE NEIGHBOUR: 'it returns false'. Refute it at one input. -/
def jsonscanTellsWrong : ChangeSpec := { name := "jsonscanTells", fn := fun _ => fun
  | [d] => { results := [.lit (.bool false)], args := [d] }
  | _ => none }
def JsonscanTellsWrongFalsely : Prop := jsonscanTellsRow.holds Tryd.pinned (OpenSpec.ofChange jsonscanTellsWrong)

/-- 'cruciblelaw16.JsonscanCuts': WHATEVER THE INPUT: true; the input reads as it did. -/
def jsonscanCutsSpec : ChangeSpec := { name := "jsonscanCuts", fn := fun _ => fun
  | [d1, d2] => { results := [.lit (.bool true)], args := [d1, d2] }
  | _ => none }
def jsonscanCutsRow : OpenClaim := { program := "ytjfeebbhkolmoaadoor", sum := "53605b8a1d54e830b8801afae40e8a714102ba039344518380d2dab1443ad468", func := "crucible/cruciblelaw16.JsonscanCuts", spec := "jsonscanCuts", inPlace := ["internal/reflectlite.TypeOf", "internal/reflectlite.ValueOf", "(internal/reflectlite.Value).Type", "(internal/reflectlite.Value).IsNil", "(internal/reflectlite.Value).Elem", "(internal/reflectlite.Value).Set"], unfollowed := true, recurses := true, named := ["crucible/api.ErrNil", "crucible/api.ErrArg", "crucible/api.ErrInput", "crucible/api.ErrRep", "crucible/api.ErrLimit", "crucible/api.ErrNone", "crucible/api.ErrBusy", "crucible/api.ErrHandle", "crucible/api.ErrKey", "crucible/api.ErrStopped", "crucible/api.ErrScript", "errors.errorType"], apart := false, laid := [("errors.errorType", laid_errors_errorType), ("crucible/api.ErrArg", laid_crucible_api_ErrArg), ("crucible/api.ErrNil", laid_crucible_api_ErrNil), ("crucible/api.ErrInput", laid_crucible_api_ErrInput), ("crucible/api.ErrRep", laid_crucible_api_ErrRep), ("crucible/api.ErrLimit", laid_crucible_api_ErrLimit), ("crucible/api.ErrNone", laid_crucible_api_ErrNone), ("crucible/api.ErrBusy", laid_crucible_api_ErrBusy), ("crucible/api.ErrHandle", laid_crucible_api_ErrHandle), ("crucible/api.ErrKey", laid_crucible_api_ErrKey), ("crucible/api.ErrStopped", laid_crucible_api_ErrStopped), ("crucible/api.ErrScript", laid_crucible_api_ErrScript)] }
def JsonscanCutsSaid : Prop := jsonscanCutsRow.holds Tryd.pinned (OpenSpec.ofChange jsonscanCutsSpec)

/-- ITS FALSE NEIGHBOUR: 'it returns false'. Refute it at one input. -/
def jsonscanCutsWrong : ChangeSpec := { name := "jsonscanCuts", fn := fun _ => fun
  | [d1, d2] => { results := [.lit (.bool false)], args := [d1, d2] }
  | _ => none }
def JsonscanCutsWrongFalsely : Prop := jsonscanCutsRow.holds Tryd.pinned (OpenSpec.ofChange jsonscanCutsWrong)

/-- 'cruciblelaw16.JsonscanGoes': WHATEVER THE INPUT: true; the input reads as it did. -/
def jsonscanGoesSpec : ChangeSpec := { name := "jsonscanGoes", fn := fun _ => fun
  | [d1, d2] => { results := [.lit (.bool true)], args := [d1, d2] }
  | _ => none }
def jsonscanGoesRow : OpenClaim := { program := "ytjfeebbhkolmoaadoor", sum := "53605b8a1d54e830b8801afae40e8a714102ba039344518380d2dab1443ad468", func := "crucible/cruciblelaw16.JsonscanGoes", spec := "jsonscanGoes", inPlace := ["internal/reflectlite.TypeOf", "internal/reflectlite.ValueOf", "(internal/reflectlite.Value).Type", "(internal/reflectlite.Value).IsNil", "(internal/reflectlite.Value).Elem", "(internal/reflectlite.Value).Set"], unfollowed := true, recurses := true, named := ["crucible/api.ErrNil", "crucible/api.ErrArg", "crucible/api.ErrInput", "crucible/api.ErrRep", "crucible/api.ErrLimit", "crucible/api.ErrNone", "crucible/api.ErrBusy", "crucible/api.ErrHandle", "crucible/api.ErrKey", "crucible/api.ErrStopped", "crucible/api.ErrScript", "errors.errorType"], apart := false, laid := [("errors.errorType", laid_errors_errorType), ("crucible/api.ErrArg", laid_crucible_api_ErrArg), ("crucible/api.ErrNil", laid_crucible_api_ErrNil), ("crucible/api.ErrInput", laid_crucible_api_ErrInput), ("crucible/api.ErrRep", laid_crucible_api_ErrRep), ("crucible/api.ErrLimit", laid_crucible_api_ErrLimit), ("crucible/api.ErrNone", laid_crucible_api_ErrNone), ("crucible/api.ErrBusy", laid_crucible_api_ErrBusy), ("crucible/api.ErrHandle", laid_crucible_api_ErrHandle), ("crucible/api.ErrKey", laid_crucible_api_ErrKey), ("crucible/api.ErrStopped", laid_crucible_api_ErrStopped), ("crucible/api.ErrScript", laid_crucible_api_ErrScript)] }
def JsonscanGoesSaid : Prop := jsonscanGoesRow.holds Tryd.pinned (OpenSpec.ofChange jsonscanGoesSpec)

/-- ITS FALSE NEIGHBOUR: 'it returns false'. Refute it at one input. -/
def jsonscanGoesWrong : ChangeSpec := { name := "jsonscanGoes", fn := fun _ => fun
  | [d1, d2] => { results := [.lit (.bool false)], args := [d1, d2] }
  | _ => none }
def JsonscanGoesWrongFalsely : Prop := jsonscanGoesRow.holds Tryd.pinned (OpenSpec.ofChange jsonscanGoesWrong)

/-- 'cruciblelaw16.JsonscanDeep': WHATEVER THE INPUT: true; the input reads as it did. -/
def jsonscanDeepSpec : ChangeSpec := { name := "jsonscanDeep", fn := fun _ => fun
  | [d1, d2] => { results := [.lit (.bool true)], args := [d1, d2] }
  | _ => none }
def jsonscanDeepRow : OpenClaim := { program := "ytjfeebbhkolmoaadoor", sum := "53605b8a1d54e830b8801afae40e8a714102ba039344518380d2dab1443ad468", func := "crucible/cruciblelaw16.JsonscanDeep", spec := "jsonscanDeep", inPlace := ["internal/reflectlite.TypeOf", "internal/reflectlite.ValueOf", "(internal/reflectlite.Value).Type", "(internal/reflectlite.Value).IsNil", "(internal/reflectlite.Value).Elem", "(internal/reflectlite.Value).Set"], unfollowed := true, recurses := true, named := ["crucible/api.ErrNil", "crucible/api.ErrArg", "crucible/api.ErrInput", "crucible/api.ErrRep", "crucible/api.ErrLimit", "crucible/api.ErrNone", "crucible/api.ErrBusy", "crucible/api.ErrHandle", "crucible/api.ErrKey", "crucible/api.ErrStopped", "crucible/api.ErrScript", "errors.errorType"], apart := false, laid := [("errors.errorType", laid_errors_errorType), ("crucible/api.ErrArg", laid_crucible_api_ErrArg), ("crucible/api.ErrNil", laid_crucible_api_ErrNil), ("crucible/api.ErrInput", laid_crucible_api_ErrInput), ("crucible/api.ErrRep", laid_crucible_api_ErrRep), ("crucible/api.ErrLimit", laid_crucible_api_ErrLimit), ("crucible/api.ErrNone", laid_crucible_api_ErrNone), ("crucible/api.ErrBusy", laid_crucible_api_ErrBusy), ("crucible/api.ErrHandle", laid_crucible_api_ErrHandle), ("crucible/api.ErrKey", laid_crucible_api_ErrKey), ("crucible/api.ErrStopped", laid_crucible_api_ErrStopped), ("crucible/api.ErrScript", laid_crucible_api_ErrScript)] }
def JsonscanDeepSaid : Prop := jsonscanDeepRow.holds Tryd.pinned (OpenSpec.ofChange jsonscanDeepSpec)

/-- ITS FALSE NEIGHBOUR: 'it returns false'. Refute it at one input. -/
def jsonscanDeepWrong : ChangeSpec := { name := "jsonscanDeep", fn := fun _ => fun
  | [d1, d2] => { results := [.lit (.bool false)], args := [d1, d2] }
  | _ => none }
def JsonscanDeepWrongFalsely : Prop := jsonscanDeepRow.holds Tryd.pinned (OpenSpec.ofChange jsonscanDeepWrong)

/-- 'cruciblelaw16.JsonscanMakes': WHATEVER THE INPUT: true; the input reads as it did. -/
def jsonscanMakesSpec : ChangeSpec := { name := "jsonscanMakes", fn := fun _ => fun
  | [d1, d2, d3] => { results := [.lit (.bool true)], args := [d1, d2, d3] }
  | _ => none }
def jsonscanMakesRow : OpenClaim := { program := "ytjfeebbhkolmoaadoor", sum := "53605b8a1d54e830b8801afae40e8a714102ba039344518380d2dab1443ad468", func := "crucible/cruciblelaw16.JsonscanMakes", spec := "jsonscanMakes", inPlace := ["internal/reflectlite.TypeOf", "internal/reflectlite.ValueOf", "(internal/reflectlite.Value).Type", "(internal/reflectlite.Value).IsNil", "(internal/reflectlite.Value).Elem", "(internal/reflectlite.Value).Set"], unfollowed := true, recurses := true, named := ["crucible/api.ErrNil", "crucible/api.ErrArg", "crucible/api.ErrInput", "crucible/api.ErrRep", "crucible/api.ErrLimit", "crucible/api.ErrNone", "crucible/api.ErrBusy", "crucible/api.ErrHandle", "crucible/api.ErrKey", "crucible/api.ErrStopped", "crucible/api.ErrScript", "errors.errorType", "crucible/escape.shorts"], apart := false, laid := [("errors.errorType", laid_errors_errorType), ("crucible/api.ErrArg", laid_crucible_api_ErrArg), ("crucible/api.ErrNil", laid_crucible_api_ErrNil), ("crucible/api.ErrInput", laid_crucible_api_ErrInput), ("crucible/api.ErrRep", laid_crucible_api_ErrRep), ("crucible/api.ErrLimit", laid_crucible_api_ErrLimit), ("crucible/api.ErrNone", laid_crucible_api_ErrNone), ("crucible/api.ErrBusy", laid_crucible_api_ErrBusy), ("crucible/api.ErrHandle", laid_crucible_api_ErrHandle), ("crucible/api.ErrKey", laid_crucible_api_ErrKey), ("crucible/api.ErrStopped", laid_crucible_api_ErrStopped), ("crucible/api.ErrScript", laid_crucible_api_ErrScript), ("crucible/escape.shorts", laid_crucible_escape_shorts)] }
def JsonscanMakesSaid : Prop := jsonscanMakesRow.holds Tryd.pinned (OpenSpec.ofChange jsonscanMakesSpec)

/-- ITS FALSE NEIGHBOUR: 'it returns false'. Refute it at one input. -/
def jsonscanMakesWrong : ChangeSpec := { name := "jsonscanMakes", fn := fun _ => fun
  | [d1, d2, d3] => { results := [.lit (.bool false)], args := [d1, d2, d3] }
  | _ => none }
def JsonscanMakesWrongFalsely : Prop := jsonscanMakesRow.holds Tryd.pinned (OpenSpec.ofChange jsonscanMakesWrong)

/-- 'cruciblelaw16.JsonscanLiterals': WHATEVER THE INPUT: true; the input reads as it did. -/
def jsonscanLiteralsSpec : ChangeSpec := { name := "jsonscanLiterals", fn := fun _ => fun
  | [d1, d2] => { results := [.lit (.bool true)], args := [d1, d2] }
  | _ => none }
def jsonscanLiteralsRow : OpenClaim := { program := "ytjfeebbhkolmoaadoor", sum := "53605b8a1d54e830b8801afae40e8a714102ba039344518380d2dab1443ad468", func := "crucible/cruciblelaw16.JsonscanLiterals", spec := "jsonscanLiterals", inPlace := ["internal/reflectlite.TypeOf", "internal/reflectlite.ValueOf", "(internal/reflectlite.Value).Type", "(internal/reflectlite.Value).IsNil", "(internal/reflectlite.Value).Elem", "(internal/reflectlite.Value).Set", "internal/bytealg.IndexByteString"], unfollowed := true, recurses := true, named := ["crucible/api.ErrNil", "crucible/api.ErrArg", "crucible/api.ErrInput", "crucible/api.ErrRep", "crucible/api.ErrLimit", "crucible/api.ErrNone", "crucible/api.ErrBusy", "crucible/api.ErrHandle", "crucible/api.ErrKey", "crucible/api.ErrStopped", "crucible/api.ErrScript", "errors.errorType", "crucible/escape.shorts"], apart := false, laid := [("errors.errorType", laid_errors_errorType), ("crucible/api.ErrArg", laid_crucible_api_ErrArg), ("crucible/api.ErrNil", laid_crucible_api_ErrNil), ("crucible/api.ErrInput", laid_crucible_api_ErrInput), ("crucible/api.ErrRep", laid_crucible_api_ErrRep), ("crucible/api.ErrLimit", laid_crucible_api_ErrLimit), ("crucible/api.ErrNone", laid_crucible_api_ErrNone), ("crucible/api.ErrBusy", laid_crucible_api_ErrBusy), ("crucible/api.ErrHandle", laid_crucible_api_ErrHandle), ("crucible/api.ErrKey", laid_crucible_api_ErrKey), ("crucible/api.ErrStopped", laid_crucible_api_ErrStopped), ("crucible/api.ErrScript", laid_crucible_api_ErrScript), ("crucible/escape.shorts", laid_crucible_escape_shorts)] }
def JsonscanLiteralsSaid : Prop := jsonscanLiteralsRow.holds Tryd.pinned (OpenSpec.ofChange jsonscanLiteralsSpec)

/-- ITS FALSE NEIGHBOUR: 'it returns false'. Refute it at one input. -/
def jsonscanLiteralsWrong : ChangeSpec := { name := "jsonscanLiterals", fn := fun _ => fun
  | [d1, d2] => { results := [.lit (.bool false)], args := [d1, d2] }
  | _ => none }
def JsonscanLiteralsWrongFalsely : Prop := jsonscanLiteralsRow.holds Tryd.pinned (OpenSpec.ofChange jsonscanLiteralsWrong)

/- THE SECOND FORM. 'bulk': how many values and letters a reading holds, each counted each time it is reached (what is shared counts as often as it is met; a slice's spare places count too). A statement '..UptoSaid' is the law's where the arguments, and the package variables that the reading takes, are together of bulk at most 1048576: NARROWER than '..Said'. Prove '..Said' where nothing that the law and all that it calls make is longer than what came in: it says more and counts as full. Else prove '..UptoSaid'. A law counts once. -/
mutual
def uptoBulk {H : Type} : DataW H → Nat
  | .lit (.string bytes) => bytes.length + 1
  | .lit _ => 1
  | .nil => 1
  | .ptr d => uptoBulk d + 1
  | .slice elems spare => uptoBulkAll elems + uptoBulkAll spare + 1
  | .agg parts => uptoBulkAll parts + 1
  | .iface _ d => uptoBulk d + 1
  | .map entries => uptoBulkEntries entries + 1
  | .held _ => 1
def uptoBulkAll {H : Type} : List (DataW H) → Nat
  | [] => 0
  | d :: r => uptoBulk d + uptoBulkAll r
def uptoBulkEntries {H : Type} : List (Lit × DataW H) → Nat
  | [] => 0
  | x :: r => uptoBulkEntry x + uptoBulkEntries r
def uptoBulkEntry {H : Type} : Lit × DataW H → Nat
  | (.string bytes, d) => bytes.length + uptoBulk d + 1
  | (_, d) => uptoBulk d + 1
 end
def uptoSmall : (H : Type) → List (DataW H) → Bool := fun _ ds => decide (uptoBulkAll ds ≤ 1048576)
def OpenSpec.upto (s : _root_.Go.ChangeSpec) : _root_.Go.OpenSpec := { _root_.Go.OpenSpec.ofChange s with cond := some uptoSmall }

/-- 'cruciblelaw16.JsonscanPlays', WHERE WHAT IT READS IS OF BULK AT MOST 1048576: true; the input reads as it did. -/
def jsonscanPlaysUptoRow : OpenClaim := { program := "ytjfeebbhkolmoaadoor", sum := "53605b8a1d54e830b8801afae40e8a714102ba039344518380d2dab1443ad468", func := "crucible/cruciblelaw16.JsonscanPlays", spec := "jsonscanPlays", inPlace := ["internal/reflectlite.TypeOf", "internal/reflectlite.ValueOf", "(internal/reflectlite.Value).Type", "(internal/reflectlite.Value).IsNil", "(internal/reflectlite.Value).Elem", "(internal/reflectlite.Value).Set"], unfollowed := true, recurses := true, named := ["crucible/api.ErrNil", "crucible/api.ErrArg", "crucible/api.ErrInput", "crucible/api.ErrRep", "crucible/api.ErrLimit", "crucible/api.ErrNone", "crucible/api.ErrBusy", "crucible/api.ErrHandle", "crucible/api.ErrKey", "crucible/api.ErrStopped", "crucible/api.ErrScript", "errors.errorType"], apart := false, laid := [("errors.errorType", laid_errors_errorType), ("crucible/api.ErrArg", laid_crucible_api_ErrArg), ("crucible/api.ErrNil", laid_crucible_api_ErrNil), ("crucible/api.ErrInput", laid_crucible_api_ErrInput), ("crucible/api.ErrRep", laid_crucible_api_ErrRep), ("crucible/api.ErrLimit", laid_crucible_api_ErrLimit), ("crucible/api.ErrNone", laid_crucible_api_ErrNone), ("crucible/api.ErrBusy", laid_crucible_api_ErrBusy), ("crucible/api.ErrHandle", laid_crucible_api_ErrHandle), ("crucible/api.ErrKey", laid_crucible_api_ErrKey), ("crucible/api.ErrStopped", laid_crucible_api_ErrStopped), ("crucible/api.ErrScript", laid_crucible_api_ErrScript)], narrowed := true }
def JsonscanPlaysUptoSaid : Prop := jsonscanPlaysUptoRow.holds Tryd.pinned (OpenSpec.upto jsonscanPlaysSpec)

/-- 'cruciblelaw16.JsonscanNone', WHERE WHAT IT READS IS OF BULK AT MOST 1048576: true; the input reads as it did. -/
def jsonscanNoneUptoRow : OpenClaim := { program := "ytjfeebbhkolmoaadoor", sum := "53605b8a1d54e830b8801afae40e8a714102ba039344518380d2dab1443ad468", func := "crucible/cruciblelaw16.JsonscanNone", spec := "jsonscanNone", inPlace := ["internal/reflectlite.TypeOf", "internal/reflectlite.ValueOf", "(internal/reflectlite.Value).Type", "(internal/reflectlite.Value).IsNil", "(internal/reflectlite.Value).Elem", "(internal/reflectlite.Value).Set"], unfollowed := true, recurses := true, named := ["crucible/api.ErrNil", "crucible/api.ErrArg", "crucible/api.ErrInput", "crucible/api.ErrRep", "crucible/api.ErrLimit", "crucible/api.ErrNone", "crucible/api.ErrBusy", "crucible/api.ErrHandle", "crucible/api.ErrKey", "crucible/api.ErrStopped", "crucible/api.ErrScript", "errors.errorType"], apart := false, laid := [("errors.errorType", laid_errors_errorType), ("crucible/api.ErrArg", laid_crucible_api_ErrArg), ("crucible/api.ErrNil", laid_crucible_api_ErrNil), ("crucible/api.ErrInput", laid_crucible_api_ErrInput), ("crucible/api.ErrRep", laid_crucible_api_ErrRep), ("crucible/api.ErrLimit", laid_crucible_api_ErrLimit), ("crucible/api.ErrNone", laid_crucible_api_ErrNone), ("crucible/api.ErrBusy", laid_crucible_api_ErrBusy), ("crucible/api.ErrHandle", laid_crucible_api_ErrHandle), ("crucible/api.ErrKey", laid_crucible_api_ErrKey), ("crucible/api.ErrStopped", laid_crucible_api_ErrStopped), ("crucible/api.ErrScript", laid_crucible_api_ErrScript)], narrowed := true }
def JsonscanNoneUptoSaid : Prop := jsonscanNoneUptoRow.holds Tryd.pinned (OpenSpec.upto jsonscanNoneSpec)

/-- 'cruciblelaw16.JsonscanTells', WHERE WHAT IT READS IS OF BULK AT MOST 1048576: true; the input reads as it did. -/
def jsonscanTellsUptoRow : OpenClaim := { program := "ytjfeebbhkolmoaadoor", sum := "53605b8a1d54e830b8801afae40e8a714102ba039344518380d2dab1443ad468", func := "crucible/cruciblelaw16.JsonscanTells", spec := "jsonscanTells", inPlace := ["internal/reflectlite.TypeOf", "internal/reflectlite.ValueOf", "(internal/reflectlite.Value).Type", "(internal/reflectlite.Value).IsNil", "(internal/reflectlite.Value).Elem", "(internal/reflectlite.Value).Set"], unfollowed := true, recurses := true, named := ["crucible/api.ErrNil", "crucible/api.ErrArg", "crucible/api.ErrInput", "crucible/api.ErrRep", "crucible/api.ErrLimit", "crucible/api.ErrNone", "crucible/api.ErrBusy", "crucible/api.ErrHandle", "crucible/api.ErrKey", "crucible/api.ErrStopped", "crucible/api.ErrScript", "errors.errorType"], apart := false, laid := [("errors.errorType", laid_errors_errorType), ("crucible/api.ErrArg", laid_crucible_api_ErrArg), ("crucible/api.ErrNil", laid_crucible_api_ErrNil), ("crucible/api.ErrInput", laid_crucible_api_ErrInput), ("crucible/api.ErrRep", laid_crucible_api_ErrRep), ("crucible/api.ErrLimit", laid_crucible_api_ErrLimit), ("crucible/api.ErrNone", laid_crucible_api_ErrNone), ("crucible/api.ErrBusy", laid_crucible_api_ErrBusy), ("crucible/api.ErrHandle", laid_crucible_api_ErrHandle), ("crucible/api.ErrKey", laid_crucible_api_ErrKey), ("crucible/api.ErrStopped", laid_crucible_api_ErrStopped), ("crucible/api.ErrScript", laid_crucible_api_ErrScript)], narrowed := true }
def JsonscanTellsUptoSaid : Prop := jsonscanTellsUptoRow.holds Tryd.pinned (OpenSpec.upto jsonscanTellsSpec)

/-- 'cruciblelaw16.JsonscanCuts', WHERE WHAT IT READS IS OF BULK AT MOST 1048576: true; the input reads as it did. -/
def jsonscanCutsUptoRow : OpenClaim := { program := "ytjfeebbhkolmoaadoor", sum := "53605b8a1d54e830b8801afae40e8a714102ba039344518380d2dab1443ad468", func := "crucible/cruciblelaw16.JsonscanCuts", spec := "jsonscanCuts", inPlace := ["internal/reflectlite.TypeOf", "internal/reflectlite.ValueOf", "(internal/reflectlite.Value).Type", "(internal/reflectlite.Value).IsNil", "(internal/reflectlite.Value).Elem", "(internal/reflectlite.Value).Set"], unfollowed := true, recurses := true, named := ["crucible/api.ErrNil", "crucible/api.ErrArg", "crucible/api.ErrInput", "crucible/api.ErrRep", "crucible/api.ErrLimit", "crucible/api.ErrNone", "crucible/api.ErrBusy", "crucible/api.ErrHandle", "crucible/api.ErrKey", "crucible/api.ErrStopped", "crucible/api.ErrScript", "errors.errorType"], apart := false, laid := [("errors.errorType", laid_errors_errorType), ("crucible/api.ErrArg", laid_crucible_api_ErrArg), ("crucible/api.ErrNil", laid_crucible_api_ErrNil), ("crucible/api.ErrInput", laid_crucible_api_ErrInput), ("crucible/api.ErrRep", laid_crucible_api_ErrRep), ("crucible/api.ErrLimit", laid_crucible_api_ErrLimit), ("crucible/api.ErrNone", laid_crucible_api_ErrNone), ("crucible/api.ErrBusy", laid_crucible_api_ErrBusy), ("crucible/api.ErrHandle", laid_crucible_api_ErrHandle), ("crucible/api.ErrKey", laid_crucible_api_ErrKey), ("crucible/api.ErrStopped", laid_crucible_api_ErrStopped), ("crucible/api.ErrScript", laid_crucible_api_ErrScript)], narrowed := true }
def JsonscanCutsUptoSaid : Prop := jsonscanCutsUptoRow.holds Tryd.pinned (OpenSpec.upto jsonscanCutsSpec)

/-- 'cruciblelaw16.JsonscanGoes', WHERE WHAT IT READS IS OF BULK AT MOST 1048576: true; the input reads as it did. -/
def jsonscanGoesUptoRow : OpenClaim := { program := "ytjfeebbhkolmoaadoor", sum := "53605b8a1d54e830b8801afae40e8a714102ba039344518380d2dab1443ad468", func := "crucible/cruciblelaw16.JsonscanGoes", spec := "jsonscanGoes", inPlace := ["internal/reflectlite.TypeOf", "internal/reflectlite.ValueOf", "(internal/reflectlite.Value).Type", "(internal/reflectlite.Value).IsNil", "(internal/reflectlite.Value).Elem", "(internal/reflectlite.Value).Set"], unfollowed := true, recurses := true, named := ["crucible/api.ErrNil", "crucible/api.ErrArg", "crucible/api.ErrInput", "crucible/api.ErrRep", "crucible/api.ErrLimit", "crucible/api.ErrNone", "crucible/api.ErrBusy", "crucible/api.ErrHandle", "crucible/api.ErrKey", "crucible/api.ErrStopped", "crucible/api.ErrScript", "errors.errorType"], apart := false, laid := [("errors.errorType", laid_errors_errorType), ("crucible/api.ErrArg", laid_crucible_api_ErrArg), ("crucible/api.ErrNil", laid_crucible_api_ErrNil), ("crucible/api.ErrInput", laid_crucible_api_ErrInput), ("crucible/api.ErrRep", laid_crucible_api_ErrRep), ("crucible/api.ErrLimit", laid_crucible_api_ErrLimit), ("crucible/api.ErrNone", laid_crucible_api_ErrNone), ("crucible/api.ErrBusy", laid_crucible_api_ErrBusy), ("crucible/api.ErrHandle", laid_crucible_api_ErrHandle), ("crucible/api.ErrKey", laid_crucible_api_ErrKey), ("crucible/api.ErrStopped", laid_crucible_api_ErrStopped), ("crucible/api.ErrScript", laid_crucible_api_ErrScript)], narrowed := true }
def JsonscanGoesUptoSaid : Prop := jsonscanGoesUptoRow.holds Tryd.pinned (OpenSpec.upto jsonscanGoesSpec)

/-- 'cruciblelaw16.JsonscanDeep', WHERE WHAT IT READS IS OF BULK AT MOST 1048576: true; the input reads as it did. -/
def jsonscanDeepUptoRow : OpenClaim := { program := "ytjfeebbhkolmoaadoor", sum := "53605b8a1d54e830b8801afae40e8a714102ba039344518380d2dab1443ad468", func := "crucible/cruciblelaw16.JsonscanDeep", spec := "jsonscanDeep", inPlace := ["internal/reflectlite.TypeOf", "internal/reflectlite.ValueOf", "(internal/reflectlite.Value).Type", "(internal/reflectlite.Value).IsNil", "(internal/reflectlite.Value).Elem", "(internal/reflectlite.Value).Set"], unfollowed := true, recurses := true, named := ["crucible/api.ErrNil", "crucible/api.ErrArg", "crucible/api.ErrInput", "crucible/api.ErrRep", "crucible/api.ErrLimit", "crucible/api.ErrNone", "crucible/api.ErrBusy", "crucible/api.ErrHandle", "crucible/api.ErrKey", "crucible/api.ErrStopped", "crucible/api.ErrScript", "errors.errorType"], apart := false, laid := [("errors.errorType", laid_errors_errorType), ("crucible/api.ErrArg", laid_crucible_api_ErrArg), ("crucible/api.ErrNil", laid_crucible_api_ErrNil), ("crucible/api.ErrInput", laid_crucible_api_ErrInput), ("crucible/api.ErrRep", laid_crucible_api_ErrRep), ("crucible/api.ErrLimit", laid_crucible_api_ErrLimit), ("crucible/api.ErrNone", laid_crucible_api_ErrNone), ("crucible/api.ErrBusy", laid_crucible_api_ErrBusy), ("crucible/api.ErrHandle", laid_crucible_api_ErrHandle), ("crucible/api.ErrKey", laid_crucible_api_ErrKey), ("crucible/api.ErrStopped", laid_crucible_api_ErrStopped), ("crucible/api.ErrScript", laid_crucible_api_ErrScript)], narrowed := true }
def JsonscanDeepUptoSaid : Prop := jsonscanDeepUptoRow.holds Tryd.pinned (OpenSpec.upto jsonscanDeepSpec)

/-- 'cruciblelaw16.JsonscanMakes', WHERE WHAT IT READS IS OF BULK AT MOST 1048576: true; the input reads as it did. -/
def jsonscanMakesUptoRow : OpenClaim := { program := "ytjfeebbhkolmoaadoor", sum := "53605b8a1d54e830b8801afae40e8a714102ba039344518380d2dab1443ad468", func := "crucible/cruciblelaw16.JsonscanMakes", spec := "jsonscanMakes", inPlace := ["internal/reflectlite.TypeOf", "internal/reflectlite.ValueOf", "(internal/reflectlite.Value).Type", "(internal/reflectlite.Value).IsNil", "(internal/reflectlite.Value).Elem", "(internal/reflectlite.Value).Set"], unfollowed := true, recurses := true, named := ["crucible/api.ErrNil", "crucible/api.ErrArg", "crucible/api.ErrInput", "crucible/api.ErrRep", "crucible/api.ErrLimit", "crucible/api.ErrNone", "crucible/api.ErrBusy", "crucible/api.ErrHandle", "crucible/api.ErrKey", "crucible/api.ErrStopped", "crucible/api.ErrScript", "errors.errorType", "crucible/escape.shorts"], apart := false, laid := [("errors.errorType", laid_errors_errorType), ("crucible/api.ErrArg", laid_crucible_api_ErrArg), ("crucible/api.ErrNil", laid_crucible_api_ErrNil), ("crucible/api.ErrInput", laid_crucible_api_ErrInput), ("crucible/api.ErrRep", laid_crucible_api_ErrRep), ("crucible/api.ErrLimit", laid_crucible_api_ErrLimit), ("crucible/api.ErrNone", laid_crucible_api_ErrNone), ("crucible/api.ErrBusy", laid_crucible_api_ErrBusy), ("crucible/api.ErrHandle", laid_crucible_api_ErrHandle), ("crucible/api.ErrKey", laid_crucible_api_ErrKey), ("crucible/api.ErrStopped", laid_crucible_api_ErrStopped), ("crucible/api.ErrScript", laid_crucible_api_ErrScript), ("crucible/escape.shorts", laid_crucible_escape_shorts)], narrowed := true }
def JsonscanMakesUptoSaid : Prop := jsonscanMakesUptoRow.holds Tryd.pinned (OpenSpec.upto jsonscanMakesSpec)

/-- 'cruciblelaw16.JsonscanLiterals', WHERE WHAT IT READS IS OF BULK AT MOST 1048576: true; the input reads as it did. -/
def jsonscanLiteralsUptoRow : OpenClaim := { program := "ytjfeebbhkolmoaadoor", sum := "53605b8a1d54e830b8801afae40e8a714102ba039344518380d2dab1443ad468", func := "crucible/cruciblelaw16.JsonscanLiterals", spec := "jsonscanLiterals", inPlace := ["internal/reflectlite.TypeOf", "internal/reflectlite.ValueOf", "(internal/reflectlite.Value).Type", "(internal/reflectlite.Value).IsNil", "(internal/reflectlite.Value).Elem", "(internal/reflectlite.Value).Set", "internal/bytealg.IndexByteString"], unfollowed := true, recurses := true, named := ["crucible/api.ErrNil", "crucible/api.ErrArg", "crucible/api.ErrInput", "crucible/api.ErrRep", "crucible/api.ErrLimit", "crucible/api.ErrNone", "crucible/api.ErrBusy", "crucible/api.ErrHandle", "crucible/api.ErrKey", "crucible/api.ErrStopped", "crucible/api.ErrScript", "errors.errorType", "crucible/escape.shorts"], apart := false, laid := [("errors.errorType", laid_errors_errorType), ("crucible/api.ErrArg", laid_crucible_api_ErrArg), ("crucible/api.ErrNil", laid_crucible_api_ErrNil), ("crucible/api.ErrInput", laid_crucible_api_ErrInput), ("crucible/api.ErrRep", laid_crucible_api_ErrRep), ("crucible/api.ErrLimit", laid_crucible_api_ErrLimit), ("crucible/api.ErrNone", laid_crucible_api_ErrNone), ("crucible/api.ErrBusy", laid_crucible_api_ErrBusy), ("crucible/api.ErrHandle", laid_crucible_api_ErrHandle), ("crucible/api.ErrKey", laid_crucible_api_ErrKey), ("crucible/api.ErrStopped", laid_crucible_api_ErrStopped), ("crucible/api.ErrScript", laid_crucible_api_ErrScript), ("crucible/escape.shorts", laid_crucible_escape_shorts)], narrowed := true }
def JsonscanLiteralsUptoSaid : Prop := jsonscanLiteralsUptoRow.holds Tryd.pinned (OpenSpec.upto jsonscanLiteralsSpec)

end Rows
end Go.Proofs.YtjfeebbhkolmoaaDoor
