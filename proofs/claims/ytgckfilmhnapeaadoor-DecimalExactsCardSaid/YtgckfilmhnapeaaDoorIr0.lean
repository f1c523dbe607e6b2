/- What Round hands back. -/
import Derived.Test.YtgckfilmhnapeaaDoorIe0
import Derived.Test.YtgckfilmhnapeaaDoorFp6
namespace Go.Proofs.YtgckfilmhnapeaaDoor
open Go.RowKit
set_option linter.unusedVariables false
/-- the nearest pattern to m times 2^e, with a sign -/
def RoundPost (k : IntKind) (f l W sign : Nat) (neg : Bool) (m : Nat) (e : Int) (w : World) (en : Ending) (w' : World) : Prop :=
  ∃ s : Nat, en = .returned (.int k (sgnN neg s sign : Nat)) ∧ Near f ((W + 1) * 2 ^ f) s (m * 2 ^ (e + l).toNat) (2 ^ (-(e + l)).toNat) ∧ Below w.heap.size w w'
theorem blen_of_ll (X k : Nat) (h : ll X ≤ k) : blen X ≤ 32 * k := by
  rw [blen_iff]
  have h1 := lt_powL X
  rw [powL] at h1
  exact Nat.lt_of_lt_of_le h1 (Nat.pow_le_pow_right (by decide) (by omega))
theorem near_hi (f W l m : Nat) (e : Int) (hm : m ≠ 0) (h : (f : Int) + W ≤ e + l) : Near f ((W + 1) * 2 ^ f) ((W + 1) * 2 ^ f) (m * 2 ^ (e + l).toNat) (2 ^ (-(e + l)).toNat) :=
  near_far f W _ _ (by
    rw [← Nat.pow_add]
    refine Nat.le_trans (Nat.pow_le_pow_right (by decide) (show f + W + (-(e + l)).toNat ≤ (e + l).toNat by omega)) ?_
    exact Nat.le_mul_of_pos_left _ (by omega)) (Nat.two_pow_pos _)
theorem near_lo (f W l m n : Nat) (e : Int) (hm : m < 2 ^ (n + 1)) (h : (n : Int) + 2 ≤ -(e + l)) : Near f ((W + 1) * 2 ^ f) 0 (m * 2 ^ (e + l).toNat) (2 ^ (-(e + l)).toNat) := by
  refine near_zero _ _ _ _ (Nat.pos_iff_ne_zero.1 (Nat.mul_pos (Nat.succ_pos W) (Nat.two_pow_pos f))) ?_
  rw [show (e + l).toNat = 0 by omega, Nat.pow_zero, Nat.mul_one]
  refine Nat.le_trans ?_ (Nat.pow_le_pow_right (by decide) (show n + 2 ≤ (-(e + l)).toNat by omega))
  rw [Nat.pow_succ]
  omega
theorem near_none (f W B : Nat) (e : Nat) : Near f ((W + 1) * 2 ^ f) 0 (0 * 2 ^ e) B :=
  near_zero _ _ _ _ (Nat.pos_iff_ne_zero.1 (Nat.mul_pos (Nat.succ_pos W) (Nat.two_pow_pos f))) (by rw [Nat.zero_mul]; exact Nat.zero_le _)
/-- twice the number, a power less -/
theorem near_twice (f W l m : Nat) (e : Int) {s : Nat} (h : Near f ((W + 1) * 2 ^ f) s (m * 2 ^ (e + l).toNat) (2 ^ (-(e + l)).toNat)) :
    Near f ((W + 1) * 2 ^ f) s ((2 * m) * 2 ^ (e - 1 + l).toNat) (2 ^ (-(e - 1 + l)).toNat) := by
  refine h.scale (Nat.two_pow_pos _) (Nat.two_pow_pos _) ?_
  rw [Nat.mul_assoc, ← Nat.pow_add, Nat.mul_assoc, ← Nat.pow_add, Nat.mul_comm 2 m, Nat.mul_assoc, ← Nat.pow_add_one']
  congr 2
  omega
theorem ll_twice1 (X k : Nat) (h : ll X ≤ k) : ll (X + X + 1) ≤ k + 2 := by
  refine ll_le _ _ ?_
  have h1 := lt_powL X
  have h2 : 4294967296 ^ ll X ≤ 4294967296 ^ k := Nat.pow_le_pow_right (by decide) h
  rw [Nat.pow_succ, Nat.pow_succ]
  omega
theorem ll_twice (X k : Nat) (h : ll X ≤ k) : ll (X + X) ≤ k + 1 := by
  refine ll_le _ _ ?_
  have h1 := lt_powL X
  have h2 : 4294967296 ^ ll X ≤ 4294967296 ^ k := Nat.pow_le_pow_right (by decide) h
  rw [Nat.pow_succ]
  omega
theorem blen_odd (X : Nat) : blen (2 * X + 1) = blen X + 1 := by
  rw [blen_half (2 * X + 1) (by omega), show (2 * X + 1) / 2 = X by omega]
end Go.Proofs.YtgckfilmhnapeaaDoor
