/-
  NARROWER THAN 'FOR EVERY INPUT', by the rows' own cells (each row's printed sentence says how): DecimalCompares: laid · DecimalExacts: laid · DecimalReads: laid · DecimalNoughts: laid · DecimalSorted: laid · DecimalBehind: laid · DecimalNearest: laid.
  DERIVED. THE GIVEN ROWS OF THIS SEAT. 7 by the template 'for every input the law returns true; each argument reads behind the call as it read before'; 0 by the template 'total and deterministic' (their statements: YtgckfilmhnapeaaDoorTotals.lean).
  GIVEN WITH THE SEED: the statements are not yours to turn. If you find one false, say at which input.
  Laid BY PROGRAM, IN A SANDBOX (cutbox-rows.mjs): the forced cells as the released guide's own fill.sh prints them over the translation b333aa6b1fd58d6e… (all of the seat's roots in one cut). By AI agents, Wed Nov 11 2026. No macro, syntax, notation, axiom, sorry.
-/
import Derived.Test.YtgckfilmhnapeaaDoorChecked
import GoSem.PinnedTables
import GoSem.Claim
import GoSem.ClaimJoined
import GoSem.ClaimMapViews
import Derived.JoinedTies
import Derived.KernelRfl
namespace Go.Proofs.YtgckfilmhnapeaaDoor
/- THE CELL 'sum', in the pinned program and in every row, IS THE sha256 OF THE DUMP (.gsa) THAT YtgckfilmhnapeaaDoorProg.lean LOADS. Nothing in Lean hashes anything: it is a label: what it is worth is what the hold of that sum in a sandbox is worth. -/
noncomputable def Tryd.pinned : Pinned := { name := "ytgckfilmhnapeaadoor", sum := "b333aa6b1fd58d6e99fb33ca08c4e64f62d3953aaf40c44b05191d773bfd7130", checked := Tryd.checked }
namespace Rows
def none {H : Type} : Left H := { results := [], args := [] }

/- WHAT THE LISTED PACKAGE-LEVEL VARIABLES READ AS WHEN THE CALL BEGINS. Each datum BY PROGRAM (the guide's laid-datum.mjs) off the statement by which the dump's own 'gosem.cut.vars' lays the variable. In a bare row this is a premise. The card (YtgckfilmhnapeaaDoorCards.lean) ties it to the program's text. -/
def laid_unicode_utf8_acceptRanges {H : Type} : DataW H := .agg [.agg [.lit (.int .u8 128), .lit (.int .u8 191)], .agg [.lit (.int .u8 160), .lit (.int .u8 191)], .agg [.lit (.int .u8 128), .lit (.int .u8 159)], .agg [.lit (.int .u8 144), .lit (.int .u8 191)], .agg [.lit (.int .u8 128), .lit (.int .u8 143)], .agg [.lit (.int .u8 0), .lit (.int .u8 0)], .agg [.lit (.int .u8 0), .lit (.int .u8 0)], .agg [.lit (.int .u8 0), .lit (.int .u8 0)], .agg [.lit (.int .u8 0), .lit (.int .u8 0)], .agg [.lit (.int .u8 0), .lit (.int .u8 0)], .agg [.lit (.int .u8 0), .lit (.int .u8 0)], .agg [.lit (.int .u8 0), .lit (.int .u8 0)], .agg [.lit (.int .u8 0), .lit (.int .u8 0)], .agg [.lit (.int .u8 0), .lit (.int .u8 0)], .agg [.lit (.int .u8 0), .lit (.int .u8 0)], .agg [.lit (.int .u8 0), .lit (.int .u8 0)]]
/-- One of Go's own tables, pinned by name: the form's constant. -/
def laid_unicode_utf8_first : DataW Unit := Go.Pinned.utf8First
def laid_math_bits_deBruijn32tab {H : Type} : DataW H := .agg [.lit (.int .u8 0), .lit (.int .u8 1), .lit (.int .u8 28), .lit (.int .u8 2), .lit (.int .u8 29), .lit (.int .u8 14), .lit (.int .u8 24), .lit (.int .u8 3), .lit (.int .u8 30), .lit (.int .u8 22), .lit (.int .u8 20), .lit (.int .u8 15), .lit (.int .u8 25), .lit (.int .u8 17), .lit (.int .u8 4), .lit (.int .u8 8), .lit (.int .u8 31), .lit (.int .u8 27), .lit (.int .u8 13), .lit (.int .u8 23), .lit (.int .u8 21), .lit (.int .u8 19), .lit (.int .u8 16), .lit (.int .u8 7), .lit (.int .u8 26), .lit (.int .u8 12), .lit (.int .u8 18), .lit (.int .u8 6), .lit (.int .u8 11), .lit (.int .u8 5), .lit (.int .u8 10), .lit (.int .u8 9)]
def laid_math_bits_deBruijn64tab {H : Type} : DataW H := .agg [.lit (.int .u8 0), .lit (.int .u8 1), .lit (.int .u8 56), .lit (.int .u8 2), .lit (.int .u8 57), .lit (.int .u8 49), .lit (.int .u8 28), .lit (.int .u8 3), .lit (.int .u8 61), .lit (.int .u8 58), .lit (.int .u8 42), .lit (.int .u8 50), .lit (.int .u8 38), .lit (.int .u8 29), .lit (.int .u8 17), .lit (.int .u8 4), .lit (.int .u8 62), .lit (.int .u8 47), .lit (.int .u8 59), .lit (.int .u8 36), .lit (.int .u8 45), .lit (.int .u8 43), .lit (.int .u8 51), .lit (.int .u8 22), .lit (.int .u8 53), .lit (.int .u8 39), .lit (.int .u8 33), .lit (.int .u8 30), .lit (.int .u8 24), .lit (.int .u8 18), .lit (.int .u8 12), .lit (.int .u8 5), .lit (.int .u8 63), .lit (.int .u8 55), .lit (.int .u8 48), .lit (.int .u8 27), .lit (.int .u8 60), .lit (.int .u8 41), .lit (.int .u8 37), .lit (.int .u8 16), .lit (.int .u8 46), .lit (.int .u8 35), .lit (.int .u8 44), .lit (.int .u8 21), .lit (.int .u8 52), .lit (.int .u8 32), .lit (.int .u8 23), .lit (.int .u8 11), .lit (.int .u8 54), .lit (.int .u8 26), .lit (.int .u8 40), .lit (.int .u8 15), .lit (.int .u8 34), .lit (.int .u8 20), .lit (.int .u8 31), .lit (.int .u8 10), .lit (.int .u8 25), .lit (.int .u8 14), .lit (.int .u8 19), .lit (.int .u8 9), .lit (.int .u8 13), .lit (.int .u8 8), .lit (.int .u8 7), .lit (.int .u8 6)]
def laid_crucible_ieee_shapes {H : Type} : DataW H := .agg [.agg [.lit (.int .i64 10), .lit (.int .i64 (-24)), .lit (.int .i64 5)], .agg [.lit (.int .i64 23), .lit (.int .i64 (-149)), .lit (.int .i64 8)], .agg [.lit (.int .i64 52), .lit (.int .i64 (-1074)), .lit (.int .i64 11)]]

/-- 'cruciblelaw07.DecimalCompares': WHATEVER THE INPUT: true; the input reads as it did. -/
def decimalComparesSpec : ChangeSpec := { name := "decimalCompares", fn := fun _ => fun
  | [d1, d2] => { results := [.lit (.bool true)], args := [d1, d2] }
  | _ => none }
def decimalComparesRow : OpenClaim := { program := "ytgckfilmhnapeaadoor", sum := "b333aa6b1fd58d6e99fb33ca08c4e64f62d3953aaf40c44b05191d773bfd7130", func := "crucible/cruciblelaw07.DecimalCompares", spec := "decimalCompares", inPlace := ["internal/bytealg.IndexByteString", "internal/bytealg.IndexString", "internal/bytealg.abigen_runtime_cmpstring"], recurses := true, named := ["unicode/utf8.first", "unicode/utf8.acceptRanges", "internal/bytealg.MaxLen"], apart := false, laid := [("unicode/utf8.acceptRanges", laid_unicode_utf8_acceptRanges), ("unicode/utf8.first", laid_unicode_utf8_first)] }
def DecimalComparesSaid : Prop := decimalComparesRow.holds Tryd.pinned (OpenSpec.ofChange decimalComparesSpec)

/-- ITS FALSE NEIGHBOUR: 'it returns false'. Refute it at one input. -/
def decimalComparesWrong : ChangeSpec := { name := "decimalCompares", fn := fun _ => fun
  | [d1, d2] => { results := [.lit (.bool false)], args := [d1, d2] }
  | _ => none }
def DecimalComparesWrongFalsely : Prop := decimalComparesRow.holds Tryd.pinned (OpenSpec.ofChange decimalComparesWrong)

/-- 'cruciblelaw07.DecimalExacts': WHATEVER THE INPUT: true; the input reads as it did. -/
def decimalExactsSpec : ChangeSpec := { name := "decimalExacts", fn := fun _ => fun
  | [d1, d2] => { results := [.lit (.bool true)], args := [d1, d2] }
  | _ => none }
def decimalExactsRow : OpenClaim := { program := "ytgckfilmhnapeaadoor", sum := "b333aa6b1fd58d6e99fb33ca08c4e64f62d3953aaf40c44b05191d773bfd7130", func := "crucible/cruciblelaw07.DecimalExacts", spec := "decimalExacts", inPlace := ["internal/bytealg.IndexByteString", "internal/bytealg.IndexString"], unfollowed := true, recurses := true, named := ["crucible/ieee.shapes", "math/bits.deBruijn64tab", "math/bits.deBruijn32tab", "math/bits.overflowError", "unicode/utf8.first", "unicode/utf8.acceptRanges", "internal/bytealg.MaxLen"], apart := false, laid := [("math/bits.deBruijn32tab", laid_math_bits_deBruijn32tab), ("math/bits.deBruijn64tab", laid_math_bits_deBruijn64tab), ("unicode/utf8.acceptRanges", laid_unicode_utf8_acceptRanges), ("crucible/ieee.shapes", laid_crucible_ieee_shapes), ("unicode/utf8.first", laid_unicode_utf8_first)] }
def DecimalExactsSaid : Prop := decimalExactsRow.holds Tryd.pinned (OpenSpec.ofChange decimalExactsSpec)

/-- ITS FALSE NEIGHBOUR: 'it returns false'. Refute it at one input. -/
def decimalExactsWrong : ChangeSpec := { name := "decimalExacts", fn := fun _ => fun
  | [d1, d2] => { results := [.lit (.bool false)], args := [d1, d2] }
  | _ => none }
def DecimalExactsWrongFalsely : Prop := decimalExactsRow.holds Tryd.pinned (OpenSpec.ofChange decimalExactsWrong)

/-- 'cruciblelaw07.DecimalReads': WHATEVER THE INPUT: true; the input reads as it did. -/
def decimalReadsSpec : ChangeSpec := { name := "decimalReads", fn := fun _ => fun
  | [d1, d2] => { results := [.lit (.bool true)], args := [d1, d2] }
  | _ => none }
def decimalReadsRow : OpenClaim := { program := "ytgckfilmhnapeaadoor", sum := "b333aa6b1fd58d6e99fb33ca08c4e64f62d3953aaf40c44b05191d773bfd7130", func := "crucible/cruciblelaw07.DecimalReads", spec := "decimalReads", inPlace := ["internal/bytealg.IndexByteString", "internal/bytealg.IndexString"], named := ["unicode/utf8.first", "unicode/utf8.acceptRanges", "crucible/ieee.shapes", "math/bits.deBruijn32tab", "math/bits.overflowError", "internal/bytealg.MaxLen"], apart := false, laid := [("math/bits.deBruijn32tab", laid_math_bits_deBruijn32tab), ("unicode/utf8.acceptRanges", laid_unicode_utf8_acceptRanges), ("crucible/ieee.shapes", laid_crucible_ieee_shapes), ("unicode/utf8.first", laid_unicode_utf8_first)] }
def DecimalReadsSaid : Prop := decimalReadsRow.holds Tryd.pinned (OpenSpec.ofChange decimalReadsSpec)

/-- ITS FALSE NEIGHBOUR: 'it returns false'. Refute it at one input. -/
def decimalReadsWrong : ChangeSpec := { name := "decimalReads", fn := fun _ => fun
  | [d1, d2] => { results := [.lit (.bool false)], args := [d1, d2] }
  | _ => none }
def DecimalReadsWrongFalsely : Prop := decimalReadsRow.holds Tryd.pinned (OpenSpec.ofChange decimalReadsWrong)

/-- 'cruciblelaw07.DecimalNoughts': WHATEVER THE INPUT: true; the input reads as it did. -/
def decimalNoughtsSpec : ChangeSpec := { name := "decimalNoughts", fn := fun _ => fun
  | [d1, d2, d3, d4] => { results := [.lit (.bool true)], args := [d1, d2, d3, d4] }
  | _ => none }
def decimalNoughtsRow : OpenClaim := { program := "ytgckfilmhnapeaadoor", sum := "b333aa6b1fd58d6e99fb33ca08c4e64f62d3953aaf40c44b05191d773bfd7130", func := "crucible/cruciblelaw07.DecimalNoughts", spec := "decimalNoughts", inPlace := ["internal/bytealg.IndexByteString", "internal/bytealg.IndexString", "internal/bytealg.abigen_runtime_cmpstring"], unfollowed := true, recurses := true, named := ["unicode/utf8.first", "unicode/utf8.acceptRanges", "crucible/ieee.shapes", "math/bits.deBruijn32tab", "math/bits.overflowError", "math/bits.deBruijn64tab", "internal/bytealg.MaxLen"], apart := false, laid := [("math/bits.deBruijn32tab", laid_math_bits_deBruijn32tab), ("math/bits.deBruijn64tab", laid_math_bits_deBruijn64tab), ("unicode/utf8.acceptRanges", laid_unicode_utf8_acceptRanges), ("crucible/ieee.shapes", laid_crucible_ieee_shapes), ("unicode/utf8.first", laid_unicode_utf8_first)] }
def DecimalNoughtsSaid : Prop := decimalNoughtsRow.holds Tryd.pinned (OpenSpec.ofChange decimalNoughtsSpec)

/-- ITS FALSE NEIGHBOUR: 'it returns false'. Refute it at one input. -/
def decimalNoughtsWrong : ChangeSpec := { name := "decimalNoughts", fn := fun _ => fun
  | [d1, d2, d3, d4] => { results := [.lit (.bool false)], args := [d1, d2, d3, d4] }
  | _ => none }
def DecimalNoughtsWrongFalsely : Prop := decimalNoughtsRow.holds Tryd.pinned (OpenSpec.ofChange decimalNoughtsWrong)

/-- 'cruciblelaw07.DecimalSorted': WHATEVER THE INPUT: true; the input reads as it did. -/
def decimalSortedSpec : ChangeSpec := { name := "decimalSorted", fn := fun _ => fun
  | [d1, d2, d3] => { results := [.lit (.bool true)], args := [d1, d2, d3] }
  | _ => none }
def decimalSortedRow : OpenClaim := { program := "ytgckfilmhnapeaadoor", sum := "b333aa6b1fd58d6e99fb33ca08c4e64f62d3953aaf40c44b05191d773bfd7130", func := "crucible/cruciblelaw07.DecimalSorted", spec := "decimalSorted", inPlace := ["internal/bytealg.IndexByteString", "internal/bytealg.IndexString", "internal/bytealg.abigen_runtime_cmpstring"], unfollowed := true, recurses := true, named := ["unicode/utf8.first", "unicode/utf8.acceptRanges", "crucible/ieee.shapes", "math/bits.deBruijn32tab", "math/bits.overflowError", "math/bits.deBruijn64tab", "internal/bytealg.MaxLen"], apart := false, laid := [("math/bits.deBruijn32tab", laid_math_bits_deBruijn32tab), ("math/bits.deBruijn64tab", laid_math_bits_deBruijn64tab), ("unicode/utf8.acceptRanges", laid_unicode_utf8_acceptRanges), ("crucible/ieee.shapes", laid_crucible_ieee_shapes), ("unicode/utf8.first", laid_unicode_utf8_first)] }
def DecimalSortedSaid : Prop := decimalSortedRow.holds Tryd.pinned (OpenSpec.ofChange decimalSortedSpec)

/-- ITS FALSE NEIGHBOUR: 'it returns false'. Refute it at one input. -/
def decimalSortedWrong : ChangeSpec := { name := "decimalSorted", fn := fun _ => fun
  | [d1, d2, d3] => { results := [.lit (.bool false)], args := [d1, d2, d3] }
  | _ => none }
def DecimalSortedWrongFalsely : Prop := decimalSortedRow.holds Tryd.pinned (OpenSpec.ofChange decimalSortedWrong)

/-- 'cruciblelaw07.DecimalBehind': WHATEVER THE INPUT: true; the input reads as it did. -/
def decimalBehindSpec : ChangeSpec := { name := "decimalBehind", fn := fun _ => fun
  | [d1, d2, d3, d4, d5] => { results := [.lit (.bool true)], args := [d1, d2, d3, d4, d5] }
  | _ => none }
def decimalBehindRow : OpenClaim := { program := "ytgckfilmhnapeaadoor", sum := "b333aa6b1fd58d6e99fb33ca08c4e64f62d3953aaf40c44b05191d773bfd7130", func := "crucible/cruciblelaw07.DecimalBehind", spec := "decimalBehind", inPlace := ["internal/bytealg.IndexByteString", "internal/bytealg.IndexString", "internal/bytealg.abigen_runtime_cmpstring"], unfollowed := true, recurses := true, named := ["unicode/utf8.first", "unicode/utf8.acceptRanges", "crucible/ieee.shapes", "math/bits.deBruijn32tab", "math/bits.overflowError", "math/bits.deBruijn64tab", "internal/bytealg.MaxLen"], apart := false, laid := [("math/bits.deBruijn32tab", laid_math_bits_deBruijn32tab), ("math/bits.deBruijn64tab", laid_math_bits_deBruijn64tab), ("unicode/utf8.acceptRanges", laid_unicode_utf8_acceptRanges), ("crucible/ieee.shapes", laid_crucible_ieee_shapes), ("unicode/utf8.first", laid_unicode_utf8_first)] }
def DecimalBehindSaid : Prop := decimalBehindRow.holds Tryd.pinned (OpenSpec.ofChange decimalBehindSpec)

/-- ITS FALSE NEIGHBOUR: 'it returns false'. Refute it at one input. -/
def decimalBehindWrong : ChangeSpec := { name := "decimalBehind", fn := fun _ => fun
  | [d1, d2, d3, d4, d5] => { results := [.lit (.bool false)], args := [d1, d2, d3, d4, d5] }
  | _ => none }
def DecimalBehindWrongFalsely : Prop := decimalBehindRow.holds Tryd.pinned (OpenSpec.ofChange decimalBehindWrong)

/-- 'cruciblelaw07.DecimalNearest': WHATEVER THE INPUT: true; the input reads as it did. -/
def decimalNearestSpec : ChangeSpec := { name := "decimalNearest", fn := fun _ => fun
  | [d1, d2] => { results := [.lit (.bool true)], args := [d1, d2] }
  | _ => none }
def decimalNearestRow : OpenClaim := { program := "ytgckfilmhnapeaadoor", sum := "b333aa6b1fd58d6e99fb33ca08c4e64f62d3953aaf40c44b05191d773bfd7130", func := "crucible/cruciblelaw07.DecimalNearest", spec := "decimalNearest", inPlace := ["internal/bytealg.IndexByteString", "internal/bytealg.IndexString", "internal/bytealg.abigen_runtime_cmpstring"], unfollowed := true, recurses := true, named := ["unicode/utf8.first", "unicode/utf8.acceptRanges", "crucible/ieee.shapes", "math/bits.deBruijn32tab", "math/bits.overflowError", "math/bits.deBruijn64tab", "internal/bytealg.MaxLen"], apart := false, laid := [("math/bits.deBruijn32tab", laid_math_bits_deBruijn32tab), ("math/bits.deBruijn64tab", laid_math_bits_deBruijn64tab), ("unicode/utf8.acceptRanges", laid_unicode_utf8_acceptRanges), ("crucible/ieee.shapes", laid_crucible_ieee_shapes), ("unicode/utf8.first", laid_unicode_utf8_first)] }
def DecimalNearestSaid : Prop := decimalNearestRow.holds Tryd.pinned (OpenSpec.ofChange decimalNearestSpec)

/-- ITS FALSE NEIGHBOUR: 'it returns false'. Refute it at one input. -/
def decimalNearestWrong : ChangeSpec := { name := "decimalNearest", fn := fun _ => fun
  | [d1, d2] => { results := [.lit (.bool false)], args := [d1, d2] }
  | _ => none }
def DecimalNearestWrongFalsely : Prop := decimalNearestRow.holds Tryd.pinned (OpenSpec.ofChange decimalNearestWrong)

/- THE SECOND FORM. 'bulk': how many values and letters a reading holds, each counted each time it is reached (what is shared counts as often as it is met; a slice's spare places count too). A statement '..UptoSaid' is the law's where the arguments, and the package variables that the reading takes, are together of bulk at most 1048576: NARROWER than '..Said'. Prove '..Said' where nothing that the law and all that it calls make is longer than what came in: it says more and counts as full. Else prove '..UptoSaid'. A law counts once. -/
mutual
def uptoBulk {H : Type} : DataW H → Nat
  | .lit (.string bytes) => bytes.length + 1
  | .lit _ => 1
  | .nil => 1
  | .ptr d => uptoBulk d + 1
  | .slice elems spare => uptoBulkAll elems + uptoBulkAll spare + 1
  | .agg parts => uptoBulkAll parts + 1
  | .iface _ d => uptoBulk d + 1
  | .map entries => uptoBulkEntries entries + 1
  | .held _ => 1
def uptoBulkAll {H : Type} : List (DataW H) → Nat
  | [] => 0
  | d :: r => uptoBulk d + uptoBulkAll r
def uptoBulkEntries {H : Type} : List (Lit × DataW H) → Nat
  | [] => 0
  | x :: r => uptoBulkEntry x + uptoBulkEntries r
def uptoBulkEntry {H : Type} : Lit × DataW H → Nat
  | (.string bytes, d) => bytes.length + uptoBulk d + 1
  | (_, d) => uptoBulk d + 1
 end
def uptoSmall : (H : Type) → List (DataW H) → Bool := fun _ ds => decide (uptoBulkAll ds ≤ 1048576)
def OpenSpec.upto (s : _root_.Go.ChangeSpec) : _root_.Go.OpenSpec := { _root_.Go.OpenSpec.ofChange s with cond := some uptoSmall }

/-- 'cruciblelaw07.DecimalCompares', WHERE WHAT IT READS IS OF BULK AT MOST 1048576: true; the input reads as it did. -/
def decimalComparesUptoRow : OpenClaim := { program := "ytgckfilmhnapeaadoor", sum := "b333aa6b1fd58d6e99fb33ca08c4e64f62d3953aaf40c44b05191d773bfd7130", func := "crucible/cruciblelaw07.DecimalCompares", spec := "decimalCompares", inPlace := ["internal/bytealg.IndexByteString", "internal/bytealg.IndexString", "internal/bytealg.abigen_runtime_cmpstring"], recurses := true, named := ["unicode/utf8.first", "unicode/utf8.acceptRanges", "internal/bytealg.MaxLen"], apart := false, laid := [("unicode/utf8.acceptRanges", laid_unicode_utf8_acceptRanges), ("unicode/utf8.first", laid_unicode_utf8_first)], narrowed := true }
def DecimalComparesUptoSaid : Prop := decimalComparesUptoRow.holds Tryd.pinned (OpenSpec.upto decimalComparesSpec)

/-- 'cruciblelaw07.DecimalExacts', WHERE WHAT IT READS IS OF BULK AT MOST 1048576: true; the input reads as it did. -/
def decimalExactsUptoRow : OpenClaim := { program := "ytgckfilmhnapeaadoor", sum := "b333aa6b1fd58d6e99fb33ca08c4e64f62d3953aaf40c44b05191d773bfd7130", func := "crucible/cruciblelaw07.DecimalExacts", spec := "decimalExacts", inPlace := ["internal/bytealg.IndexByteString", "internal/bytealg.IndexString"], unfollowed := true, recurses := true, named := ["crucible/ieee.shapes", "math/bits.deBruijn64tab", "math/bits.deBruijn32tab", "math/bits.overflowError", "unicode/utf8.first", "unicode/utf8.acceptRanges", "internal/bytealg.MaxLen"], apart := false, laid := [("math/bits.deBruijn32tab", laid_math_bits_deBruijn32tab), ("math/bits.deBruijn64tab", laid_math_bits_deBruijn64tab), ("unicode/utf8.acceptRanges", laid_unicode_utf8_acceptRanges), ("crucible/ieee.shapes", laid_crucible_ieee_shapes), ("unicode/utf8.first", laid_unicode_utf8_first)], narrowed := true }
def DecimalExactsUptoSaid : Prop := decimalExactsUptoRow.holds Tryd.pinned (OpenSpec.upto decimalExactsSpec)

/-- 'cruciblelaw07.DecimalReads', WHERE WHAT IT READS IS OF BULK AT MOST 1048576: true; the input reads as it did. -/
def decimalReadsUptoRow : OpenClaim := { program := "ytgckfilmhnapeaadoor", sum := "b333aa6b1fd58d6e99fb33ca08c4e64f62d3953aaf40c44b05191d773bfd7130", func := "crucible/cruciblelaw07.DecimalReads", spec := "decimalReads", inPlace := ["internal/bytealg.IndexByteString", "internal/bytealg.IndexString"], named := ["unicode/utf8.first", "unicode/utf8.acceptRanges", "crucible/ieee.shapes", "math/bits.deBruijn32tab", "math/bits.overflowError", "internal/bytealg.MaxLen"], apart := false, laid := [("math/bits.deBruijn32tab", laid_math_bits_deBruijn32tab), ("unicode/utf8.acceptRanges", laid_unicode_utf8_acceptRanges), ("crucible/ieee.shapes", laid_crucible_ieee_shapes), ("unicode/utf8.first", laid_unicode_utf8_first)], narrowed := true }
def DecimalReadsUptoSaid : Prop := decimalReadsUptoRow.holds Tryd.pinned (OpenSpec.upto decimalReadsSpec)

/-- 'cruciblelaw07.DecimalNoughts', WHERE WHAT IT READS IS OF BULK AT MOST 1048576: true; the input reads as it did. -/
def decimalNoughtsUptoRow : OpenClaim := { program := "ytgckfilmhnapeaadoor", sum := "b333aa6b1fd58d6e99fb33ca08c4e64f62d3953aaf40c44b05191d773bfd7130", func := "crucible/cruciblelaw07.DecimalNoughts", spec := "decimalNoughts", inPlace := ["internal/bytealg.IndexByteString", "internal/bytealg.IndexString", "internal/bytealg.abigen_runtime_cmpstring"], unfollowed := true, recurses := true, named := ["unicode/utf8.first", "unicode/utf8.acceptRanges", "crucible/ieee.shapes", "math/bits.deBruijn32tab", "math/bits.overflowError", "math/bits.deBruijn64tab", "internal/bytealg.MaxLen"], apart := false, laid := [("math/bits.deBruijn32tab", laid_math_bits_deBruijn32tab), ("math/bits.deBruijn64tab", laid_math_bits_deBruijn64tab), ("unicode/utf8.acceptRanges", laid_unicode_utf8_acceptRanges), ("crucible/ieee.shapes", laid_crucible_ieee_shapes), ("unicode/utf8.first", laid_unicode_utf8_first)], narrowed := true }
def DecimalNoughtsUptoSaid : Prop := decimalNoughtsUptoRow.holds Tryd.pinned (OpenSpec.upto decimalNoughtsSpec)

/-- 'cruciblelaw07.DecimalSorted', WHERE WHAT IT READS IS OF BULK AT MOST 1048576: true; the input reads as it did. -/
def decimalSortedUptoRow : OpenClaim := { program := "ytgckfilmhnapeaadoor", sum := "b333aa6b1fd58d6e99fb33ca08c4e64f62d3953aaf40c44b05191d773bfd7130", func := "crucible/cruciblelaw07.DecimalSorted", spec := "decimalSorted", inPlace := ["internal/bytealg.IndexByteString", "internal/bytealg.IndexString", "internal/bytealg.abigen_runtime_cmpstring"], unfollowed := true, recurses := true, named := ["unicode/utf8.first", "unicode/utf8.acceptRanges", "crucible/ieee.shapes", "math/bits.deBruijn32tab", "math/bits.overflowError", "math/bits.deBruijn64tab", "internal/bytealg.MaxLen"], apart := false, laid := [("math/bits.deBruijn32tab", laid_math_bits_deBruijn32tab), ("math/bits.deBruijn64tab", laid_math_bits_deBruijn64tab), ("unicode/utf8.acceptRanges", laid_unicode_utf8_acceptRanges), ("crucible/ieee.shapes", laid_crucible_ieee_shapes), ("unicode/utf8.first", laid_unicode_utf8_first)], narrowed := true }
def DecimalSortedUptoSaid : Prop := decimalSortedUptoRow.holds Tryd.pinned (OpenSpec.upto decimalSortedSpec)

/-- 'cruciblelaw07.DecimalBehind', WHERE WHAT IT READS IS OF BULK AT MOST 1048576: true; the input reads as it did. -/
def decimalBehindUptoRow : OpenClaim := { program := "ytgckfilmhnapeaadoor", sum := "b333aa6b1fd58d6e99fb33ca08c4e64f62d3953aaf40c44b05191d773bfd7130", func := "crucible/cruciblelaw07.DecimalBehind", spec := "decimalBehind", inPlace := ["internal/bytealg.IndexByteString", "internal/bytealg.IndexString", "internal/bytealg.abigen_runtime_cmpstring"], unfollowed := true, recurses := true, named := ["unicode/utf8.first", "unicode/utf8.acceptRanges", "crucible/ieee.shapes", "math/bits.deBruijn32tab", "math/bits.overflowError", "math/bits.deBruijn64tab", "internal/bytealg.MaxLen"], apart := false, laid := [("math/bits.deBruijn32tab", laid_math_bits_deBruijn32tab), ("math/bits.deBruijn64tab", laid_math_bits_deBruijn64tab), ("unicode/utf8.acceptRanges", laid_unicode_utf8_acceptRanges), ("crucible/ieee.shapes", laid_crucible_ieee_shapes), ("unicode/utf8.first", laid_unicode_utf8_first)], narrowed := true }
def DecimalBehindUptoSaid : Prop := decimalBehindUptoRow.holds Tryd.pinned (OpenSpec.upto decimalBehindSpec)

/-- 'cruciblelaw07.DecimalNearest', WHERE WHAT IT READS IS OF BULK AT MOST 1048576: true; the input reads as it did. -/
def decimalNearestUptoRow : OpenClaim := { program := "ytgckfilmhnapeaadoor", sum := "b333aa6b1fd58d6e99fb33ca08c4e64f62d3953aaf40c44b05191d773bfd7130", func := "crucible/cruciblelaw07.DecimalNearest", spec := "decimalNearest", inPlace := ["internal/bytealg.IndexByteString", "internal/bytealg.IndexString", "internal/bytealg.abigen_runtime_cmpstring"], unfollowed := true, recurses := true, named := ["unicode/utf8.first", "unicode/utf8.acceptRanges", "crucible/ieee.shapes", "math/bits.deBruijn32tab", "math/bits.overflowError", "math/bits.deBruijn64tab", "internal/bytealg.MaxLen"], apart := false, laid := [("math/bits.deBruijn32tab", laid_math_bits_deBruijn32tab), ("math/bits.deBruijn64tab", laid_math_bits_deBruijn64tab), ("unicode/utf8.acceptRanges", laid_unicode_utf8_acceptRanges), ("crucible/ieee.shapes", laid_crucible_ieee_shapes), ("unicode/utf8.first", laid_unicode_utf8_first)], narrowed := true }
def DecimalNearestUptoSaid : Prop := decimalNearestUptoRow.holds Tryd.pinned (OpenSpec.upto decimalNearestSpec)

end Rows
end Go.Proofs.YtgckfilmhnapeaaDoor
