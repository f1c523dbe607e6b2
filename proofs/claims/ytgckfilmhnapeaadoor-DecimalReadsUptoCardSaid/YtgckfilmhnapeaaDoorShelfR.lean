/- The shelf's contract of slices.Reverse at this program's numbers, written by the kit's own command in plain words. -/
import Derived.Shelf.SlicesE.Reverse
import Derived.Shelf.SlicesE.Kit
import Derived.Test.YtgckfilmhnapeaaDoorProg
namespace Go.Proofs
open Go.Shelf
def Tryd.laysSlE35_ren : Go.Shelf.Ren := ⟨fun | 35 => 109 | n => n, fun | 22 => 42 | 23 => 5 | 3 => 3 | 4 => 4 | 0 => 0 | n => n, fun | n => n⟩
theorem Tryd.laysSlE35 : Go.Proofs.SlLaysE.n35 Tryd.prog Tryd.laysSlE35_ren := {
  mixed := by kernel_rfl
  f35 := ⟨Tryd.f109.name, by decide, Tryd.func109.trans (congrArg some (by kernel_rfl))⟩
  t0 := Tryd.underlying0
  a0 := Tryd.isAgg0
  z0 := Tryd.sizeOf0
  v0 := Tryd.zeroValue0
  t3 := Tryd.underlying3
  a3 := Tryd.isAgg3
  z3 := Tryd.sizeOf3
  v3 := Tryd.zeroValue3
  t4 := Tryd.underlying4
  a4 := Tryd.isAgg4
  z4 := Tryd.sizeOf4
  v4 := Tryd.zeroValue4
  t22 := Tryd.underlying42
  a22 := Tryd.isAgg42
  z22 := Tryd.sizeOf42
  v22 := Tryd.zeroValue42
  a23 := Tryd.isAgg5
  z23 := Tryd.sizeOf5 }
open Go.Sort in
/-- slices.Reverse at bytes. -/
theorem Tryd.slices_Reverse_byte (enc : Nat → Value) (h1 : OneCell enc) (blk off cap : Nat) (zs : List Nat) (w : World) (hH : Holds enc w blk off zs.toArray) (hsz : zs.length ≤ 9223372036854775807) :
    Calls Tryd.prog 109 #[.slice (some ⟨blk, off, none⟩) zs.length cap] w fun e w' => e = .returned (.tuple #[]) ∧ ∃ n, w' = putRow enc (Sort.ahead w n) blk off zs.reverse.toArray := AnyE.slices_Reverse Tryd.laysSlE35 enc h1 blk off cap zs w hH hsz
end Go.Proofs
