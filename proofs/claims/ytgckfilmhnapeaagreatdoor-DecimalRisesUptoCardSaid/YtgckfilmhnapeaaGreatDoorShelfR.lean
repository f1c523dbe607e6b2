/- The shelf's contract of slices.Reverse at this program's numbers, written by the kit's own command in plain words. -/
import Derived.Shelf.SlicesE.Reverse
import Derived.Shelf.SlicesE.Kit
import Derived.Test.YtgckfilmhnapeaaGreatDoorProg
namespace Go.Proofs
open Go.Shelf
def Tryz.laysSlE35_ren : Go.Shelf.Ren := ⟨fun | 35 => 69 | n => n, fun | 22 => 109 | 23 => 5 | 3 => 3 | 4 => 4 | 0 => 0 | n => n, fun | n => n⟩
theorem Tryz.laysSlE35 : Go.Proofs.SlLaysE.n35 Tryz.prog Tryz.laysSlE35_ren := {
  mixed := by kernel_rfl
  f35 := ⟨Tryz.f69.name, by decide, Tryz.func69.trans (congrArg some (by kernel_rfl))⟩
  t0 := Tryz.underlying0
  a0 := Tryz.isAgg0
  z0 := Tryz.sizeOf0
  v0 := Tryz.zeroValue0
  t3 := Tryz.underlying3
  a3 := Tryz.isAgg3
  z3 := Tryz.sizeOf3
  v3 := Tryz.zeroValue3
  t4 := Tryz.underlying4
  a4 := Tryz.isAgg4
  z4 := Tryz.sizeOf4
  v4 := Tryz.zeroValue4
  t22 := Tryz.underlying109
  a22 := Tryz.isAgg109
  z22 := Tryz.sizeOf109
  v22 := Tryz.zeroValue109
  a23 := Tryz.isAgg5
  z23 := Tryz.sizeOf5 }
open Go.Sort in
/-- slices.Reverse at bytes. -/
theorem Tryz.slices_Reverse_byte (enc : Nat → Value) (h1 : OneCell enc) (blk off cap : Nat) (zs : List Nat) (w : World) (hH : Holds enc w blk off zs.toArray) (hsz : zs.length ≤ 9223372036854775807) :
    Calls Tryz.prog 69 #[.slice (some ⟨blk, off, none⟩) zs.length cap] w fun e w' => e = .returned (.tuple #[]) ∧ ∃ n, w' = putRow enc (Sort.ahead w n) blk off zs.reverse.toArray := AnyE.slices_Reverse Tryz.laysSlE35 enc h1 blk off cap zs w hH hsz
end Go.Proofs
