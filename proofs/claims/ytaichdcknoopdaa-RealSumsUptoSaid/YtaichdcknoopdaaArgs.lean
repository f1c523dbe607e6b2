/- Arguments of fixed widths as natural numbers; 32-bit floats against themselves. -/
import Derived.Test.YtaichdcknoopdaaLives
namespace Go.Proofs.Ytaichdcknoopdaa
open Go.RowKit

theorem u64_arg {a : Int} (h : (Lit.int .u64 a).wf = true) : ∃ x : Nat, a = x ∧ x < 18446744073709551616 := by
  have e1 : IntKind.u64.min = 0 := by decide
  have e2 : IntKind.u64.max = 18446744073709551615 := by decide
  simp only [Lit.wf, e1, e2, Bool.and_eq_true, decide_eq_true_eq] at h
  exact ⟨a.toNat, by omega, by omega⟩
theorem u32_arg {a : Int} (h : (Lit.int .u32 a).wf = true) : ∃ x : Nat, a = x ∧ x < 4294967296 := by
  have e1 : IntKind.u32.min = 0 := by decide
  have e2 : IntKind.u32.max = 4294967295 := by decide
  simp only [Lit.wf, e1, e2, Bool.and_eq_true, decide_eq_true_eq] at h
  exact ⟨a.toNat, by omega, by omega⟩
theorem u16_arg {a : Int} (h : (Lit.int .u16 a).wf = true) : ∃ x : Nat, a = x ∧ x < 65536 := by
  have e1 : IntKind.u16.min = 0 := by decide
  have e2 : IntKind.u16.max = 65535 := by decide
  simp only [Lit.wf, e1, e2, Bool.and_eq_true, decide_eq_true_eq] at h
  exact ⟨a.toNat, by omega, by omega⟩
theorem i64_arg {a : Int} (h : (Lit.int .i64 a).wf = true) : -9223372036854775808 ≤ a ∧ a ≤ 9223372036854775807 := by
  have e1 : IntKind.i64.min = -9223372036854775808 := by decide
  have e2 : IntKind.i64.max = 9223372036854775807 := by decide
  simp only [Lit.wf, e1, e2, Bool.and_eq_true, decide_eq_true_eq] at h
  exact h

abbrev F32 : Ieee.Format := FloatKind.f32.format
def nan32 (w : Nat) : Bool := decide (2139095040 < w % 2147483648)
def one32 (w : Nat) : Nat := if nan32 w = true then 2143289344 else w

theorem order32_self (x : Nat) : (F32.order x x != some Ordering.eq) = nan32 x := by
  have h1 : F32.signWeight = 2147483648 := by decide +kernel
  have h2 : F32.binade = 8388608 := by decide +kernel
  have h3 : F32.infRung = 2139095040 := by decide +kernel
  unfold Ieee.Format.order Ieee.Format.read nan32
  simp only [h1, h2, h3]
  by_cases g1 : x % 2147483648 < 8388608
  · rw [if_pos g1, decide_eq_false (by omega)]
    simp [Ieee.Datum.order, compare, compareOfLessAndEq]
  · rw [if_neg g1]
    by_cases g2 : x % 2147483648 < 2139095040
    · rw [if_pos g2, decide_eq_false (by omega)]
      simp [Ieee.Datum.order, compare, compareOfLessAndEq]
    · rw [if_neg g2]
      by_cases g3 : x % 2147483648 = 2139095040
      · rw [if_pos g3, decide_eq_false (by omega)]
        simp [Ieee.Datum.order, compare, compareOfLessAndEq]
      · rw [if_neg g3, decide_eq_true (by omega)]
        simp [Ieee.Datum.order]

theorem and_exp32 (n : Nat) : n &&& 2139095040 = n / 8388608 % 256 * 8388608 := by
  have h : (2139095040 : Nat) = 2 ^ 23 * 255 := by decide
  apply Nat.eq_of_testBit_eq
  intro i
  rw [Nat.testBit_and, h, Nat.mul_comm (2 ^ 23) 255, ← Nat.shiftLeft_eq, Nat.testBit_shiftLeft, show (8388608 : Nat) = 2 ^ 23 from by decide, ← Nat.shiftLeft_eq, Nat.testBit_shiftLeft,
    show (255 : Nat) = 2 ^ 8 - 1 from by decide, Nat.testBit_two_pow_sub_one, show (256 : Nat) = 2 ^ 8 from by decide, Nat.testBit_mod_two_pow, Nat.testBit_div_two_pow]
  by_cases g : 23 ≤ i
  · simp only [g, decide_true, Bool.true_and]
    rw [show i - 23 + 23 = i from by omega, Bool.and_comm]
  · simp [g]
theorem and_frac32 (n : Nat) : n &&& 8388607 = n % 8388608 := by
  have := Nat.and_two_pow_sub_one_eq_mod n 23
  simpa using this

theorem bits32_any (x : Nat) (w : World) :
    Calls Try.prog 15 #[.float .f32 x] w fun e w' => e = .returned (.int .u32 (one32 x)) ∧ w = w' := by
  have cfBits32' := cfBits32
  have hs := order32_self x
  have H : Hid (one32 x = if nan32 x = true then 2143289344 else x) := Lib.hid rfl
  cases h : nan32 x
  all_goals
    rw [h] at hs
    go_enter Try.func15, Try.ntmps15
    go_wp2
    go_ret
    exact ⟨by rw [H.out, h] <;> rfl, rfl⟩
end Go.Proofs.Ytaichdcknoopdaa
