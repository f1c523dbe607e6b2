/- law07.against: two patterns of a width that is told by a number. -/
import Derived.Test.YtgckfilmhnapeaaGreatDoorLx
import Derived.Test.YtgckfilmhnapeaaGreatDoorIkA
import Derived.Test.YtgckfilmhnapeaaGreatDoorIkB
import Derived.Test.YtgckfilmhnapeaaGreatDoorIkC
namespace Go.Proofs.YtgckfilmhnapeaaGreatDoor
open Go.RowKit Go.Lib
set_option linter.unusedVariables false

def AgPost (S inf x y : Nat) (w : World) (e : Ending) (w' : World) : Prop :=
  e = .returned (.tuple #[.int .i64 (icmpV S inf x y), .bool (decide (x % S ≤ inf ∧ y % S ≤ inf))]) ∧ Below w.heap.size w w'

set_option maxRecDepth 100000 in
theorem against_A (u : Int) (hk : u.tmod 4 = 2) (x y : Nat) (hx : x < 18446744073709551616) (hy : y < 18446744073709551616) (w : World) (hT : Tabs w) :
    Calls Tryz.prog 14 #[.int .u8 u, .int .u64 x, .int .u64 y] w (AgPost 9223372036854775808 9218868437227405312 x y w) := by
  have HC := Lib.hid (icmp_A x y hx hy w hT)
  unfold AgPost
  generalize decide (x % 9223372036854775808 ≤ 9218868437227405312 ∧ y % 9223372036854775808 ≤ 9218868437227405312) = ok at *
  generalize icmpV 9223372036854775808 9218868437227405312 x y = c at *
  clear hT hx hy
  go_enter Tryz.func14, Tryz.ntmps14
  go_wp2_with fail
  refine HC.out.mono ?_
  rintro e w1 ⟨rfl, hb⟩
  have HB := Lib.hid hb
  clear hb HC
  go_wp2_with fail
  go_ret2
  exact ⟨rfl, HB.out⟩

set_option maxRecDepth 100000 in
theorem against_B (u : Int) (hk : u.tmod 4 = 1) (x y : Nat) (hx : x < 4294967296) (hy : y < 4294967296) (w : World) (hT : Tabs w) :
    Calls Tryz.prog 14 #[.int .u8 u, .int .u64 x, .int .u64 y] w (AgPost 2147483648 2139095040 x y w) := by
  have HC := Lib.hid (icmp_B x y hx hy w hT)
  have hwx : IntKind.u32.wrap (x : Int) = (x : Int) := by rw [u32_wrap]; omega
  have hwy : IntKind.u32.wrap (y : Int) = (y : Int) := by rw [u32_wrap]; omega
  unfold AgPost
  generalize decide (x % 2147483648 ≤ 2139095040 ∧ y % 2147483648 ≤ 2139095040) = ok at *
  generalize icmpV 2147483648 2139095040 x y = c at *
  clear hT hx hy
  go_enter Tryz.func14, Tryz.ntmps14
  go_wp2_with fail
  refine HC.out.mono ?_
  rintro e w1 ⟨rfl, hb⟩
  have HB := Lib.hid hb
  clear hb HC
  go_wp2_with fail
  go_ret2
  exact ⟨rfl, HB.out⟩

set_option maxRecDepth 100000 in
theorem against_C (u : Int) (hk1 : (u.tmod 4 == 1) = false) (hk2 : (u.tmod 4 == 2) = false) (x y : Nat) (hx : x < 65536) (hy : y < 65536) (w : World) (hT : Tabs w) :
    Calls Tryz.prog 14 #[.int .u8 u, .int .u64 x, .int .u64 y] w (AgPost 32768 31744 x y w) := by
  have HC := Lib.hid (icmp_C x y hx hy w hT)
  have hwx : IntKind.u16.wrap (x : Int) = (x : Int) := by rw [u16_wrap]; omega
  have hwy : IntKind.u16.wrap (y : Int) = (y : Int) := by rw [u16_wrap]; omega
  unfold AgPost
  generalize decide (x % 32768 ≤ 31744 ∧ y % 32768 ≤ 31744) = ok at *
  generalize icmpV 32768 31744 x y = c at *
  clear hT hx hy
  go_enter Tryz.func14, Tryz.ntmps14
  go_wp2_with fail
  refine HC.out.mono ?_
  rintro e w1 ⟨rfl, hb⟩
  have HB := Lib.hid hb
  clear hb HC
  go_wp2_with fail
  go_ret2
  exact ⟨rfl, HB.out⟩

theorem against_any (u : Int) (hu0 : 0 ≤ u) (x y : Nat) (hx : x < 2 * wS u) (hy : y < 2 * wS u) (w : World) (hT : Tabs w) :
    Calls Tryz.prog 14 #[.int .u8 u, .int .u64 x, .int .u64 y] w (AgPost (wS u) (wI u) x y w) := by
  have htm : u.tmod 4 = u % 4 := Int.tmod_eq_emod_of_nonneg hu0
  unfold wI wS
  unfold wS at hx hy
  by_cases h1 : u % 4 = 1
  · simp only [h1, if_true] at hx hy ⊢
    exact against_B u (htm.trans h1) x y hx hy w hT
  · by_cases h2 : u % 4 = 2
    · rw [if_neg h1, if_pos h2] at hx hy
      rw [if_neg h1, if_pos h2, if_neg h1, if_pos h2]
      exact against_A u (htm.trans h2) x y hx hy w hT
    · rw [if_neg h1, if_neg h2] at hx hy
      rw [if_neg h1, if_neg h2, if_neg h1, if_neg h2]
      exact against_C u (by rw [beq_eq_false_iff_ne, htm]; exact h1) (by rw [beq_eq_false_iff_ne, htm]; exact h2) x y hx hy w hT
end Go.Proofs.YtgckfilmhnapeaaGreatDoor
