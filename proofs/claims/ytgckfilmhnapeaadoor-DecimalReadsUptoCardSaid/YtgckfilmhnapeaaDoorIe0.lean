/- The program's ieee: what all widths share. -/
import Derived.Test.YtgckfilmhnapeaaDoorQDg
import Derived.Test.YtgckfilmhnapeaaDoorQRd
namespace Go.Proofs.YtgckfilmhnapeaaDoor
open Go.RowKit
set_option linter.unusedVariables false
def shpV (f l x : Int) : Value := .agg #[.int .i64 f, .int .i64 l, .int .i64 x]
/-- a size with a sign -/
def sgnN (neg : Bool) (s sign : Nat) : Nat := if neg = true then s + sign else s
def Cells3 (w : World) (b : Nat) (x y z : Int) : Prop := w.cell? ⟨b, 0, none⟩ = some (.int .i64 x) ∧ w.cell? ⟨b, 1, none⟩ = some (.int .i64 y) ∧ w.cell? ⟨b, 2, none⟩ = some (.int .i64 z)
theorem and_sign (i x : Nat) (h : x < 2 ^ (i + 1)) : x &&& 2 ^ i = if 2 ^ i ≤ x then 2 ^ i else 0 := by
  rw [nat_bit]
  have hp := Nat.two_pow_pos i
  rw [Nat.pow_succ] at h
  by_cases g : 2 ^ i ≤ x
  · rw [if_pos g]
    have : x / 2 ^ i = 1 := by
      apply Nat.le_antisymm
      · have : x / 2 ^ i < 2 := (Nat.div_lt_iff_lt_mul hp).2 (by omega)
        omega
      · exact (Nat.le_div_iff_mul_le hp).2 (by omega)
    rw [this]; simp
  · rw [if_neg g, Nat.div_eq_of_lt (by omega)]; simp
theorem andNot_sign (i x : Nat) (hi : i < 64) (h : x < 2 ^ (i + 1)) : x &&& (2 ^ 64 - (2 ^ i + 1)) = x % 2 ^ i := by
  apply Nat.eq_of_testBit_eq
  intro j
  have hs : 2 ^ i < 2 ^ 64 := Nat.pow_lt_pow_right (by decide) hi
  rw [Nat.testBit_and, Nat.testBit_two_pow_sub_succ hs, Nat.testBit_mod_two_pow, Nat.testBit_two_pow]
  rcases Nat.lt_trichotomy j i with g | g | g
  · have h1 : decide (j < 64) = true := decide_eq_true (by omega)
    have h2 : decide (i = j) = false := decide_eq_false (by omega)
    have h3 : decide (j < i) = true := decide_eq_true g
    rw [h1, h2, h3]; simp
  · subst g
    simp
  · have h3 : decide (j < i) = false := decide_eq_false (by omega)
    have h4 : x.testBit j = false := Nat.testBit_lt_two_pow (Nat.lt_of_lt_of_le h (Nat.pow_le_pow_right (by decide) (by omega)))
    rw [h3, h4]; simp
/-- the bit of the sign and the rest, as the program cuts them -/
theorem cut_sign (i x s : Nat) (hi : i < 64) (hs : s = 2 ^ i) (h : x < 2 * s) :
    (bits .and .u64 (x : Int) (s : Int) != 0) = decide (s ≤ x) ∧ bits .andNot .u64 (x : Int) (s : Int) = ((x % s : Nat) : Int) := by
  have hx : x < 2 ^ (i + 1) := by rw [Nat.pow_succ, ← hs]; omega
  have hs2 : s ≤ 9223372036854775808 := by rw [hs]; exact (show 2 ^ i ≤ 2 ^ 63 from Nat.pow_le_pow_right (by decide) (by omega))
  have hp : 0 < s := by rw [hs]; exact Nat.two_pow_pos i
  constructor
  · rw [u64_and_nat x s (by omega) (by omega), hs, and_sign i x hx, ← hs]
    by_cases g : s ≤ x
    · rw [if_pos g, decide_eq_true g, bne_iff_ne]; omega
    · rw [if_neg g, decide_eq_false g]; rfl
  · rw [u64_andNot_nat x s (by omega) (by omega)]
    have := andNot_sign i x hi hx
    rw [← hs] at this
    rw [← this]
    congr 2
    have e : (2 : Nat) ^ 64 = 18446744073709551616 := by decide
    rw [e]; omega
theorem put_sign (i s x : Nat) (hi : i < 64) (hs : s = 2 ^ i) (h : x < s) : bits .or .u64 (x : Int) (s : Int) = ((x + s : Nat) : Int) := by
  have hs2 : s ≤ 9223372036854775808 := by rw [hs]; exact (show 2 ^ i ≤ 2 ^ 63 from Nat.pow_le_pow_right (by decide) (by omega))
  rw [u64_or_nat x s (by omega) (by omega), Nat.or_comm, nat_join i s x (by rw [hs, Nat.mod_self]) (by rw [← hs]; exact h), Nat.add_comm]
/-- what Parts tells of a size -/
def PartsPost (f l inf : Nat) (neg : Bool) (sz : Nat) (w : World) (e : Ending) (w' : World) : Prop :=
  Below w.heap.size w w' ∧ ((inf ≤ sz ∧ e = .returned (.tuple #[.bool false, .int .u64 0, .int .i64 0, .bool false])) ∨
    (sz = 0 ∧ e = .returned (.tuple #[.bool neg, .int .u64 0, .int .i64 0, .bool true])) ∨
    (sz < inf ∧ sz ≠ 0 ∧ ∃ u z : Nat, e = .returned (.tuple #[.bool neg, .int .u64 ((2 * u + 1 : Nat) : Int), .int .i64 ((z : Int) - (l : Int)), .bool true]) ∧ (2 * u + 1) * 2 ^ z = pv f sz))
theorem odd_part (m : Nat) (hm : 0 < m) : ∃ u t, m = (2 * u + 1) * 2 ^ t := by
  induction m using Nat.strongRecOn with
  | _ m ih =>
    rcases Nat.mod_two_eq_zero_or_one m with h | h
    · obtain ⟨u, t, e⟩ := ih (m / 2) (by omega) (by omega)
      exact ⟨u, t + 1, by rw [Nat.pow_succ, ← Nat.mul_assoc, ← e]; omega⟩
    · exact ⟨m / 2, 0, by rw [Nat.pow_zero, Nat.mul_one]; omega⟩
theorem odd_shift (m u t : Nat) (h : m = (2 * u + 1) * 2 ^ t) : (m : Int) / 2 ^ t = ((2 * u + 1 : Nat) : Int) ∧ 2 * u + 1 ≤ m := by
  have hp := Nat.two_pow_pos t
  constructor
  · rw [h, ← cast_pow2, ← Int.natCast_ediv, Nat.mul_div_cancel _ hp]
  · rw [h]; exact Nat.le_mul_of_pos_right _ hp
end Go.Proofs.YtgckfilmhnapeaaDoor
