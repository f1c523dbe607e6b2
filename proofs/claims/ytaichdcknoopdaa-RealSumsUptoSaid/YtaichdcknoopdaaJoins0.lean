/- Plain laws of RealJoins: the difference is the sum with the turned one. -/
import Derived.Test.YtaichdcknoopdaaRSum2
namespace Go.Proofs.Ytaichdcknoopdaa
open Go.RowKit

/-- the same, where draws stand ahead of the region already -/
theorem quiet_more {P : Program} {f : FuncId} {args : Array Value} {w : World} {k n : Nat} {v : Value}
    (h : ∀ wx, Calls P f args wx fun e w' => e = .returned v ∧ wx = w') : Calls P f args (w.drewN (k + n)) fun e w'' => e = .returned v ∧ ∃ m, w'' = w.drewN (k + m) :=
  (h _).mono fun _ _ hq => ⟨hq.1, n, hq.2.symm⟩
theorem quiet_all {P : Program} {f : FuncId} {args : Array Value} {w : World} {n : Nat} {v : Value}
    (h : ∀ wx, Calls P f args wx fun e w' => e = .returned v ∧ wx = w') : Calls P f args (w.drewN n) fun e w'' => e = .returned v ∧ ∃ m, w'' = w.drewN m :=
  (h _).mono fun _ _ hq => ⟨hq.1, n, hq.2.symm⟩

theorem xor_top (n : Nat) : (n ^^^ 9223372036854775808) % 9223372036854775808 = n % 9223372036854775808 ∧ (n ^^^ 9223372036854775808) / 9223372036854775808 = n / 9223372036854775808 ^^^ 1 := by
  have h1 := Nat.xor_mod_two_pow (a := n) (b := 2 ^ 63) (n := 63)
  have h2 := Nat.xor_div_two_pow (a := n) (b := 2 ^ 63) (n := 63)
  rw [Nat.mod_self, Nat.xor_zero, show (2 : Nat) ^ 63 = 9223372036854775808 from by decide] at h1
  rw [Nat.div_self (Nat.two_pow_pos 63), show (2 : Nat) ^ 63 = 9223372036854775808 from by decide] at h2
  exact ⟨h1, h2⟩
theorem neg_sign (n : Nat) : (Op.negFloat .f64 n / 9223372036854775808 % 2 == 1) = !(n / 9223372036854775808 % 2 == 1) := by
  rw [neg64_xor, (xor_top n).2]
  have h : (n / 9223372036854775808 ^^^ 1) % 2 = 1 - n / 9223372036854775808 % 2 := by
    have h3 := Nat.xor_mod_two_pow (a := n / 9223372036854775808) (b := 1) (n := 1)
    rw [Nat.pow_one] at h3
    rw [h3]
    have : n / 9223372036854775808 % 2 = 0 ∨ n / 9223372036854775808 % 2 = 1 := by omega
    rcases this with e | e <;> rw [e] <;> rfl
  rw [h]
  have : n / 9223372036854775808 % 2 = 0 ∨ n / 9223372036854775808 % 2 = 1 := by omega
  rcases this with e | e <;> rw [e] <;> rfl
theorem neg_mod (n : Nat) : Op.negFloat .f64 n % 9223372036854775808 = n % 9223372036854775808 := by
  rw [neg64_xor, (xor_top n).1]
theorem neg_nan (n : Nat) : nan64 (Op.negFloat .f64 n) = nan64 n := by
  unfold nan64; rw [neg_mod]
theorem read_neg (n : Nat) : F64.read (Op.negFloat .f64 n) = (F64.read n).opposite := by
  rw [read64, read64, neg_mod, neg_sign]
  split
  · rfl
  · split
    · rfl
    · split <;> rfl
theorem sub64_turn (x y : Nat) : sub64 x y = add64 x (one64 (Op.negFloat .f64 y)) := by
  have e : sub64 x y = add64 x (Op.negFloat .f64 y) := by
    unfold sub64 add64 Ieee.Format.sub Ieee.Format.add
    rw [read_neg]
  rw [e, add64_comm, add64_comm x]
  refine add64_one _ _ _ ?_
  cases h : nan64 (Op.negFloat .f64 y) with
  | true => rw [one64_nan h]; exact one64_nan'.symm
  | false => rw [one64_id h, one64_id h]
theorem one64_lt (x : Nat) (h : x < 18446744073709551616) : one64 x < 18446744073709551616 := by
  unfold one64; split <;> omega
end Go.Proofs.Ytaichdcknoopdaa
