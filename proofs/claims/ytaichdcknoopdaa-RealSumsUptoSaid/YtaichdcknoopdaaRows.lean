/-
  No cell of these rows narrows 'for every input' (looked for: loops, veiled, ifaces, maps, wideKeys, modest, calm, conditions, laid).
  DERIVED. THE GIVEN ROWS OF THIS SEAT. 9 by the template 'for every input the law returns true; each argument reads behind the call as it read before'; 0 by the template 'total and deterministic' (their statements: YtaichdcknoopdaaTotals.lean).
  GIVEN WITH THE SEED: the statements are not yours to turn. If you find one false, say at which input.
  Laid BY PROGRAM, IN A SANDBOX (cutbox-rows.mjs): the forced cells as the released guide's own fill.sh prints them over the translation cbead7a0f1f0f104… (all of the seat's roots in one cut). By AI agents, Wed Nov 11 2026. No macro, syntax, notation, axiom, sorry.
-/
import Derived.Test.YtaichdcknoopdaaChecked
import GoSem.Claim
import GoSem.ClaimJoined
import GoSem.ClaimMapViews
import Derived.JoinedTies
import Derived.KernelRfl
namespace Go.Proofs.Ytaichdcknoopdaa
/- THE CELL 'sum', in the pinned program and in every row, IS THE sha256 OF THE DUMP (.gsa) THAT YtaichdcknoopdaaProg.lean LOADS. Nothing in Lean hashes anything: it is a label: what it is worth is what the hold of that sum in a sandbox is worth. -/
noncomputable def Try.pinned : Pinned := { name := "ytaichdcknoopdaa", sum := "cbead7a0f1f0f104e758d1a58e51645dfe666dc917199a9d77b5bb0acb7062d7", checked := Try.checked }
namespace Rows
def none {H : Type} : Left H := { results := [], args := [] }

/-- 'cruciblelaw05.RealNarrows': WHATEVER THE INPUT: true; the input reads as it did. -/
def realNarrowsSpec : ChangeSpec := { name := "realNarrows", fn := fun _ => fun
  | [d1, d2] => { results := [.lit (.bool true)], args := [d1, d2] }
  | _ => none }
def realNarrowsRow : OpenClaim := { program := "ytaichdcknoopdaa", sum := "cbead7a0f1f0f104e758d1a58e51645dfe666dc917199a9d77b5bb0acb7062d7", func := "crucible/cruciblelaw05.RealNarrows", spec := "realNarrows", inPlace := ["math.Float64frombits", "math.Float32bits", "math.Float64bits"], apart := false }
def RealNarrowsSaid : Prop := realNarrowsRow.holds Try.pinned (OpenSpec.ofChange realNarrowsSpec)

/-- ITS FALSE NEIGHBOUR: 'it returns false'. Refute it at one input. -/
def realNarrowsWrong : ChangeSpec := { name := "realNarrows", fn := fun _ => fun
  | [d1, d2] => { results := [.lit (.bool false)], args := [d1, d2] }
  | _ => none }
def RealNarrowsWrongFalsely : Prop := realNarrowsRow.holds Try.pinned (OpenSpec.ofChange realNarrowsWrong)

/-- 'cruciblelaw05.RealHolds': WHATEVER THE INPUT: true; the input reads as it did. -/
def realHoldsSpec : ChangeSpec := { name := "realHolds", fn := fun _ => fun
  | [d1, d2] => { results := [.lit (.bool true)], args := [d1, d2] }
  | _ => none }
def realHoldsRow : OpenClaim := { program := "ytaichdcknoopdaa", sum := "cbead7a0f1f0f104e758d1a58e51645dfe666dc917199a9d77b5bb0acb7062d7", func := "crucible/cruciblelaw05.RealHolds", spec := "realHolds", inPlace := ["math.Float64frombits", "math.Float64bits", "math.Float32bits"], apart := false }
def RealHoldsSaid : Prop := realHoldsRow.holds Try.pinned (OpenSpec.ofChange realHoldsSpec)

/-- ITS FALSE NEIGHBOUR: 'it returns false'. Refute it at one input. -/
def realHoldsWrong : ChangeSpec := { name := "realHolds", fn := fun _ => fun
  | [d1, d2] => { results := [.lit (.bool false)], args := [d1, d2] }
  | _ => none }
def RealHoldsWrongFalsely : Prop := realHoldsRow.holds Try.pinned (OpenSpec.ofChange realHoldsWrong)

/-- 'cruciblelaw05.RealSums': WHATEVER THE INPUT: true; the input reads as it did. -/
def realSumsSpec : ChangeSpec := { name := "realSums", fn := fun _ => fun
  | [d1, d2] => { results := [.lit (.bool true)], args := [d1, d2] }
  | _ => none }
def realSumsRow : OpenClaim := { program := "ytaichdcknoopdaa", sum := "cbead7a0f1f0f104e758d1a58e51645dfe666dc917199a9d77b5bb0acb7062d7", func := "crucible/cruciblelaw05.RealSums", spec := "realSums", inPlace := ["math.Float64frombits", "math.Float64bits", "math.Float32bits"], apart := false }
def RealSumsSaid : Prop := realSumsRow.holds Try.pinned (OpenSpec.ofChange realSumsSpec)

/-- ITS FALSE NEIGHBOUR: 'it returns false'. Refute it at one input. -/
def realSumsWrong : ChangeSpec := { name := "realSums", fn := fun _ => fun
  | [d1, d2] => { results := [.lit (.bool false)], args := [d1, d2] }
  | _ => none }
def RealSumsWrongFalsely : Prop := realSumsRow.holds Try.pinned (OpenSpec.ofChange realSumsWrong)

/-- 'cruciblelaw05.RealBits': WHATEVER THE INPUT: true; the input reads as it did. -/
def realBitsSpec : ChangeSpec := { name := "realBits", fn := fun _ => fun
  | [d1, d2] => { results := [.lit (.bool true)], args := [d1, d2] }
  | _ => none }
def realBitsRow : OpenClaim := { program := "ytaichdcknoopdaa", sum := "cbead7a0f1f0f104e758d1a58e51645dfe666dc917199a9d77b5bb0acb7062d7", func := "crucible/cruciblelaw05.RealBits", spec := "realBits", inPlace := ["math.Float64frombits", "math.Float32frombits", "math.Float64bits", "math.Float32bits"], apart := false }
def RealBitsSaid : Prop := realBitsRow.holds Try.pinned (OpenSpec.ofChange realBitsSpec)

/-- ITS FALSE NEIGHBOUR: 'it returns false'. Refute it at one input. -/
def realBitsWrong : ChangeSpec := { name := "realBits", fn := fun _ => fun
  | [d1, d2] => { results := [.lit (.bool false)], args := [d1, d2] }
  | _ => none }
def RealBitsWrongFalsely : Prop := realBitsRow.holds Try.pinned (OpenSpec.ofChange realBitsWrong)

/-- 'cruciblelaw05.RealNearest': WHATEVER THE INPUT: true; the input reads as it did. -/
def realNearestSpec : ChangeSpec := { name := "realNearest", fn := fun _ => fun
  | [d] => { results := [.lit (.bool true)], args := [d] }
  | _ => none }
def realNearestRow : OpenClaim := { program := "ytaichdcknoopdaa", sum := "cbead7a0f1f0f104e758d1a58e51645dfe666dc917199a9d77b5bb0acb7062d7", func := "crucible/cruciblelaw05.RealNearest", spec := "realNearest", inPlace := ["math.Float64frombits", "math.Float64bits", "math.Float32bits", "math.Float32frombits"], apart := false }
def RealNearestSaid : Prop := realNearestRow.holds Try.pinned (OpenSpec.ofChange realNearestSpec)

/-- ITS FALSE NEIGHBOUR: 'it returns false'. Refute it at one input. -/
def realNearestWrong : ChangeSpec := { name := "realNearest", fn := fun _ => fun
  | [d] => { results := [.lit (.bool false)], args := [d] }
  | _ => none }
def RealNearestWrongFalsely : Prop := realNearestRow.holds Try.pinned (OpenSpec.ofChange realNearestWrong)

/-- 'cruciblelaw05.RealWholes': WHATEVER THE INPUT: true; the input reads as it did. -/
def realWholesSpec : ChangeSpec := { name := "realWholes", fn := fun _ => fun
  | [d1, d2] => { results := [.lit (.bool true)], args := [d1, d2] }
  | _ => none }
def realWholesRow : OpenClaim := { program := "ytaichdcknoopdaa", sum := "cbead7a0f1f0f104e758d1a58e51645dfe666dc917199a9d77b5bb0acb7062d7", func := "crucible/cruciblelaw05.RealWholes", spec := "realWholes", inPlace := ["math.Float64frombits", "math.Float64bits", "math.Float32bits"], apart := false }
def RealWholesSaid : Prop := realWholesRow.holds Try.pinned (OpenSpec.ofChange realWholesSpec)

/-- ITS FALSE NEIGHBOUR: 'it returns false'. Refute it at one input. -/
def realWholesWrong : ChangeSpec := { name := "realWholes", fn := fun _ => fun
  | [d1, d2] => { results := [.lit (.bool false)], args := [d1, d2] }
  | _ => none }
def RealWholesWrongFalsely : Prop := realWholesRow.holds Try.pinned (OpenSpec.ofChange realWholesWrong)

/-- 'cruciblelaw05.RealJoins': WHATEVER THE INPUT: true; the input reads as it did. -/
def realJoinsSpec : ChangeSpec := { name := "realJoins", fn := fun _ => fun
  | [d1, d2] => { results := [.lit (.bool true)], args := [d1, d2] }
  | _ => none }
def realJoinsRow : OpenClaim := { program := "ytaichdcknoopdaa", sum := "cbead7a0f1f0f104e758d1a58e51645dfe666dc917199a9d77b5bb0acb7062d7", func := "crucible/cruciblelaw05.RealJoins", spec := "realJoins", inPlace := ["math.Float64frombits", "math.Float64bits", "math.Float32bits"], apart := false }
def RealJoinsSaid : Prop := realJoinsRow.holds Try.pinned (OpenSpec.ofChange realJoinsSpec)

/-- ITS FALSE NEIGHBOUR: 'it returns false'. Refute it at one input. -/
def realJoinsWrong : ChangeSpec := { name := "realJoins", fn := fun _ => fun
  | [d1, d2] => { results := [.lit (.bool false)], args := [d1, d2] }
  | _ => none }
def RealJoinsWrongFalsely : Prop := realJoinsRow.holds Try.pinned (OpenSpec.ofChange realJoinsWrong)

/-- 'cruciblelaw05.RealThere': WHATEVER THE INPUT: true; the input reads as it did. -/
def realThereSpec : ChangeSpec := { name := "realThere", fn := fun _ => fun
  | [d1, d2] => { results := [.lit (.bool true)], args := [d1, d2] }
  | _ => none }
def realThereRow : OpenClaim := { program := "ytaichdcknoopdaa", sum := "cbead7a0f1f0f104e758d1a58e51645dfe666dc917199a9d77b5bb0acb7062d7", func := "crucible/cruciblelaw05.RealThere", spec := "realThere", inPlace := ["math.Float64frombits", "math.Float64bits", "math.Float32bits"], apart := false }
def RealThereSaid : Prop := realThereRow.holds Try.pinned (OpenSpec.ofChange realThereSpec)

/-- ITS FALSE NEIGHBOUR: 'it returns false'. Refute it at one input. -/
def realThereWrong : ChangeSpec := { name := "realThere", fn := fun _ => fun
  | [d1, d2] => { results := [.lit (.bool false)], args := [d1, d2] }
  | _ => none }
def RealThereWrongFalsely : Prop := realThereRow.holds Try.pinned (OpenSpec.ofChange realThereWrong)

/-- 'cruciblelaw05.RealFolds': WHATEVER THE INPUT: true; the input reads as it did. -/
def realFoldsSpec : ChangeSpec := { name := "realFolds", fn := fun _ => fun
  | [d1, d2] => { results := [.lit (.bool true)], args := [d1, d2] }
  | _ => none }
def realFoldsRow : OpenClaim := { program := "ytaichdcknoopdaa", sum := "cbead7a0f1f0f104e758d1a58e51645dfe666dc917199a9d77b5bb0acb7062d7", func := "crucible/cruciblelaw05.RealFolds", spec := "realFolds", inPlace := ["math.Float64frombits", "math.Float64bits", "math.Float32bits"], apart := false }
def RealFoldsSaid : Prop := realFoldsRow.holds Try.pinned (OpenSpec.ofChange realFoldsSpec)

/-- ITS FALSE NEIGHBOUR: 'it returns false'. Refute it at one input. -/
def realFoldsWrong : ChangeSpec := { name := "realFolds", fn := fun _ => fun
  | [d1, d2] => { results := [.lit (.bool false)], args := [d1, d2] }
  | _ => none }
def RealFoldsWrongFalsely : Prop := realFoldsRow.holds Try.pinned (OpenSpec.ofChange realFoldsWrong)

/- THE SECOND FORM. 'bulk': how many values and letters a reading holds, each counted each time it is reached (what is shared counts as often as it is met; a slice's spare places count too). A statement '..UptoSaid' is the law's where the arguments, and the package variables that the reading takes, are together of bulk at most 1048576: NARROWER than '..Said'. Prove '..Said' where nothing that the law and all that it calls make is longer than what came in: it says more and counts as full. Else prove '..UptoSaid'. A law counts once. -/
mutual
def uptoBulk {H : Type} : DataW H → Nat
  | .lit (.string bytes) => bytes.length + 1
  | .lit _ => 1
  | .nil => 1
  | .ptr d => uptoBulk d + 1
  | .slice elems spare => uptoBulkAll elems + uptoBulkAll spare + 1
  | .agg parts => uptoBulkAll parts + 1
  | .iface _ d => uptoBulk d + 1
  | .map entries => uptoBulkEntries entries + 1
  | .held _ => 1
def uptoBulkAll {H : Type} : List (DataW H) → Nat
  | [] => 0
  | d :: r => uptoBulk d + uptoBulkAll r
def uptoBulkEntries {H : Type} : List (Lit × DataW H) → Nat
  | [] => 0
  | x :: r => uptoBulkEntry x + uptoBulkEntries r
def uptoBulkEntry {H : Type} : Lit × DataW H → Nat
  | (.string bytes, d) => bytes.length + uptoBulk d + 1
  | (_, d) => uptoBulk d + 1
 end
def uptoSmall : (H : Type) → List (DataW H) → Bool := fun _ ds => decide (uptoBulkAll ds ≤ 1048576)
def OpenSpec.upto (s : _root_.Go.ChangeSpec) : _root_.Go.OpenSpec := { _root_.Go.OpenSpec.ofChange s with cond := some uptoSmall }

/-- 'cruciblelaw05.RealNarrows', WHERE WHAT IT READS IS OF BULK AT MOST 1048576: true; the input reads as it did. -/
def realNarrowsUptoRow : OpenClaim := { program := "ytaichdcknoopdaa", sum := "cbead7a0f1f0f104e758d1a58e51645dfe666dc917199a9d77b5bb0acb7062d7", func := "crucible/cruciblelaw05.RealNarrows", spec := "realNarrows", inPlace := ["math.Float64frombits", "math.Float32bits", "math.Float64bits"], apart := false, narrowed := true }
def RealNarrowsUptoSaid : Prop := realNarrowsUptoRow.holds Try.pinned (OpenSpec.upto realNarrowsSpec)

/-- 'cruciblelaw05.RealHolds', WHERE WHAT IT READS IS OF BULK AT MOST 1048576: true; the input reads as it did. -/
def realHoldsUptoRow : OpenClaim := { program := "ytaichdcknoopdaa", sum := "cbead7a0f1f0f104e758d1a58e51645dfe666dc917199a9d77b5bb0acb7062d7", func := "crucible/cruciblelaw05.RealHolds", spec := "realHolds", inPlace := ["math.Float64frombits", "math.Float64bits", "math.Float32bits"], apart := false, narrowed := true }
def RealHoldsUptoSaid : Prop := realHoldsUptoRow.holds Try.pinned (OpenSpec.upto realHoldsSpec)

/-- 'cruciblelaw05.RealSums', WHERE WHAT IT READS IS OF BULK AT MOST 1048576: true; the input reads as it did. -/
def realSumsUptoRow : OpenClaim := { program := "ytaichdcknoopdaa", sum := "cbead7a0f1f0f104e758d1a58e51645dfe666dc917199a9d77b5bb0acb7062d7", func := "crucible/cruciblelaw05.RealSums", spec := "realSums", inPlace := ["math.Float64frombits", "math.Float64bits", "math.Float32bits"], apart := false, narrowed := true }
def RealSumsUptoSaid : Prop := realSumsUptoRow.holds Try.pinned (OpenSpec.upto realSumsSpec)

/-- 'cruciblelaw05.RealBits', WHERE WHAT IT READS IS OF BULK AT MOST 1048576: true; the input reads as it did. -/
def realBitsUptoRow : OpenClaim := { program := "ytaichdcknoopdaa", sum := "cbead7a0f1f0f104e758d1a58e51645dfe666dc917199a9d77b5bb0acb7062d7", func := "crucible/cruciblelaw05.RealBits", spec := "realBits", inPlace := ["math.Float64frombits", "math.Float32frombits", "math.Float64bits", "math.Float32bits"], apart := false, narrowed := true }
def RealBitsUptoSaid : Prop := realBitsUptoRow.holds Try.pinned (OpenSpec.upto realBitsSpec)

/-- 'cruciblelaw05.RealNearest', WHERE WHAT IT READS IS OF BULK AT MOST 1048576: true; the input reads as it did. -/
def realNearestUptoRow : OpenClaim := { program := "ytaichdcknoopdaa", sum := "cbead7a0f1f0f104e758d1a58e51645dfe666dc917199a9d77b5bb0acb7062d7", func := "crucible/cruciblelaw05.RealNearest", spec := "realNearest", inPlace := ["math.Float64frombits", "math.Float64bits", "math.Float32bits", "math.Float32frombits"], apart := false, narrowed := true }
def RealNearestUptoSaid : Prop := realNearestUptoRow.holds Try.pinned (OpenSpec.upto realNearestSpec)

/-- 'cruciblelaw05.RealWholes', WHERE WHAT IT READS IS OF BULK AT MOST 1048576: true; the input reads as it did. -/
def realWholesUptoRow : OpenClaim := { program := "ytaichdcknoopdaa", sum := "cbead7a0f1f0f104e758d1a58e51645dfe666dc917199a9d77b5bb0acb7062d7", func := "crucible/cruciblelaw05.RealWholes", spec := "realWholes", inPlace := ["math.Float64frombits", "math.Float64bits", "math.Float32bits"], apart := false, narrowed := true }
def RealWholesUptoSaid : Prop := realWholesUptoRow.holds Try.pinned (OpenSpec.upto realWholesSpec)

/-- 'cruciblelaw05.RealJoins', WHERE WHAT IT READS IS OF BULK AT MOST 1048576: true; the input reads as it did. -/
def realJoinsUptoRow : OpenClaim := { program := "ytaichdcknoopdaa", sum := "cbead7a0f1f0f104e758d1a58e51645dfe666dc917199a9d77b5bb0acb7062d7", func := "crucible/cruciblelaw05.RealJoins", spec := "realJoins", inPlace := ["math.Float64frombits", "math.Float64bits", "math.Float32bits"], apart := false, narrowed := true }
def RealJoinsUptoSaid : Prop := realJoinsUptoRow.holds Try.pinned (OpenSpec.upto realJoinsSpec)

/-- 'cruciblelaw05.RealThere', WHERE WHAT IT READS IS OF BULK AT MOST 1048576: true; the input reads as it did. -/
def realThereUptoRow : OpenClaim := { program := "ytaichdcknoopdaa", sum := "cbead7a0f1f0f104e758d1a58e51645dfe666dc917199a9d77b5bb0acb7062d7", func := "crucible/cruciblelaw05.RealThere", spec := "realThere", inPlace := ["math.Float64frombits", "math.Float64bits", "math.Float32bits"], apart := false, narrowed := true }
def RealThereUptoSaid : Prop := realThereUptoRow.holds Try.pinned (OpenSpec.upto realThereSpec)

/-- 'cruciblelaw05.RealFolds', WHERE WHAT IT READS IS OF BULK AT MOST 1048576: true; the input reads as it did. -/
def realFoldsUptoRow : OpenClaim := { program := "ytaichdcknoopdaa", sum := "cbead7a0f1f0f104e758d1a58e51645dfe666dc917199a9d77b5bb0acb7062d7", func := "crucible/cruciblelaw05.RealFolds", spec := "realFolds", inPlace := ["math.Float64frombits", "math.Float64bits", "math.Float32bits"], apart := false, narrowed := true }
def RealFoldsUptoSaid : Prop := realFoldsUptoRow.holds Try.pinned (OpenSpec.upto realFoldsSpec)

end Rows
end Go.Proofs.Ytaichdcknoopdaa
