/- The program's ieee: what Class, Total, Cmp tell: what all widths share. -/
import Derived.Test.YtgckfilmhnapeaaGreatDoorXv
import Derived.Test.YtgckfilmhnapeaaGreatDoorIe0
namespace Go.Proofs.YtgckfilmhnapeaaGreatDoor
open Go.RowKit Go.Lib
set_option linter.unusedVariables false

def clsN (f inf sz : Nat) : Int := if inf < sz then 5 else if sz = inf then 4 else if sz = 0 then 1 else if sz / 2 ^ f = 0 then 2 else 3
theorem cls_nan (f inf sz : Nat) : (clsN f inf sz == 5) = decide (inf < sz) := by
  unfold clsN
  by_cases h : inf < sz
  · rw [if_pos h, decide_eq_true h]; rfl
  · rw [if_neg h, decide_eq_false h]
    repeat' split
    all_goals rfl
def totN (nx ny : Bool) (x y : Nat) : Int := if nx = true then (if ny = true then cmpZ y x else -1) else if ny = true then 1 else cmpZ x y
def icmpV (S inf x y : Nat) : Int := if x % S ≤ inf ∧ y % S ≤ inf then (if x % S = 0 ∧ y % S = 0 then 0 else totN (decide (S ≤ x)) (decide (S ≤ y)) x y) else 0
theorem icmp_law (S inf x y : Nat) (hS : 0 < S) (hx : x < 2 * S) (hy : y < 2 * S) (h1 : x % S ≤ inf) (h2 : y % S ≤ inf) :
    icmpV S inf x y = sgn (ssz (decide (S ≤ x)) (x % S) - ssz (decide (S ≤ y)) (y % S)) := by
  have mx : x % S = if S ≤ x then x - S else x := by
    split
    · rename_i h; rw [Nat.mod_eq_sub_mod h, Nat.mod_eq_of_lt (by omega)]
    · exact Nat.mod_eq_of_lt (by omega)
  have my : y % S = if S ≤ y then y - S else y := by
    split
    · rename_i h; rw [Nat.mod_eq_sub_mod h, Nat.mod_eq_of_lt (by omega)]
    · exact Nat.mod_eq_of_lt (by omega)
  unfold icmpV
  rw [if_pos ⟨h1, h2⟩]
  clear h1 h2
  unfold totN ssz sgn cmpZ
  by_cases gx : S ≤ x
  · rw [if_pos gx] at mx
    rw [decide_eq_true gx]
    by_cases gy : S ≤ y
    · rw [if_pos gy] at my
      rw [decide_eq_true gy]
      generalize x % S = a at *
      generalize y % S = b at *
      simp only [if_true]
      repeat' split
      all_goals omega
    · rw [if_neg gy] at my
      rw [decide_eq_false gy]
      generalize x % S = a at *
      generalize y % S = b at *
      simp only [if_true, Bool.false_eq_true, if_false]
      repeat' split
      all_goals omega
  · rw [if_neg gx] at mx
    rw [decide_eq_false gx]
    by_cases gy : S ≤ y
    · rw [if_pos gy] at my
      rw [decide_eq_true gy]
      generalize x % S = a at *
      generalize y % S = b at *
      simp only [if_true, Bool.false_eq_true, if_false]
      repeat' split
      all_goals omega
    · rw [if_neg gy] at my
      rw [decide_eq_false gy]
      generalize x % S = a at *
      generalize y % S = b at *
      simp only [Bool.false_eq_true, if_false]
      repeat' split
      all_goals omega
theorem or_zero (a b : Nat) (ha : a < 18446744073709551616) (hb : b < 18446744073709551616) (h : ¬ (a = 0 ∧ b = 0)) : (bits .or .u64 (a : Int) (b : Int) == 0) = false := by
  rw [u64_or_nat a b ha hb, beq_eq_false_iff_ne]
  intro e
  have e2 : a ||| b = 0 := by omega
  exact h (Nat.or_eq_zero_iff.1 e2)
end Go.Proofs.YtgckfilmhnapeaaGreatDoor
