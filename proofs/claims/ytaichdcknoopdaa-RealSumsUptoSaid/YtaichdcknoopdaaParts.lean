/- Contracts of crucibleref05: IsInf, parts. -/
import Derived.Test.YtaichdcknoopdaaNear
namespace Go.Proofs.Ytaichdcknoopdaa
open Go.RowKit

theorem isInf_any (n : Nat) (hn : n < 18446744073709551616) (w : World) :
    Calls Try.prog 48 #[.int .u64 n] w fun e w' => e = .returned (.bool (decide (n % 9223372036854775808 = 9218868437227405312))) ∧ w = w' := by
  have e1 : bits .and .u64 (n : Int) 9223372036854775807 = ((n % 9223372036854775808 : Nat) : Int) := by
    have h2 : n &&& 9223372036854775807 = n % 9223372036854775808 := Nat.and_two_pow_sub_one_eq_mod n 63
    rw [← h2]
    exact u64_and_nat n 9223372036854775807 hn (by omega)
  have H : Hid ((bits .and .u64 (n : Int) 9223372036854775807 == 9218868437227405312) = decide (n % 9223372036854775808 = 9218868437227405312)) := Lib.hid (by
    rw [e1, Bool.eq_iff_iff, beq_iff_eq, decide_eq_true_iff]; omega)
  clear e1
  go_enter Try.func48, Try.ntmps48
  go_wp2
  go_ret
  exact ⟨by rw [← H.out] <;> rfl, rfl⟩

/-- a finite pattern's number and its place -/
def mOf (n : Nat) : Nat := if n / 4503599627370496 % 2048 = 0 then n % 4503599627370496 else n % 4503599627370496 + 4503599627370496
def pOf (n : Nat) : Int := if n / 4503599627370496 % 2048 = 0 then -1074 else ((n / 4503599627370496 % 2048 : Nat) : Int) - 1075

set_option maxRecDepth 100000 in
theorem parts_any (n : Nat) (hn : n < 18446744073709551616) (w : World) :
    Calls Try.prog 49 #[.int .u64 n] w fun e w' => e = .returned (.tuple #[.int .u64 (mOf n), .int .i64 (pOf n)]) ∧ w = w' := by
  have e1 : bits .and .u64 (n : Int) 4503599627370495 = ((n % 4503599627370496 : Nat) : Int) := by
    have h2 : n &&& 4503599627370495 = n % 4503599627370496 := Nat.and_two_pow_sub_one_eq_mod n 52
    rw [← h2]
    exact u64_and_nat n 4503599627370495 hn (by omega)
  have e2 : bits .and .u64 ((n / 4503599627370496 : Nat) : Int) 2047 = ((n / 4503599627370496 % 2048 : Nat) : Int) := by
    have h2 : n / 4503599627370496 &&& 2047 = n / 4503599627370496 % 2048 := Nat.and_two_pow_sub_one_eq_mod _ 11
    rw [← h2]
    exact u64_and_nat _ 2047 (by omega) (by omega)
  have e3 : bits .and .u64 ((n : Int) / 4503599627370496) 2047 = ((n / 4503599627370496 % 2048 : Nat) : Int) := by
    rw [← e2]; congr 1
  have e5 : bits .and .u64 (n : Int) 4503599627370495 = (n : Int) % 4503599627370496 := by rw [e1]; omega
  have w5 : IntKind.u64.wrap ((n : Int) % 4503599627370496 + 4503599627370496) = (n : Int) % 4503599627370496 + 4503599627370496 := IntWalk.u64_in _ (by omega)
  have hb : n / 4503599627370496 % 2048 < 2048 := Nat.mod_lt _ (by decide)
  by_cases hx : n / 4503599627370496 % 2048 = 0
  · have HM : Hid (((mOf n : Nat) : Int) = (n : Int) % 4503599627370496) := Lib.hid (by unfold mOf; rw [if_pos hx]; omega)
    have HP : Hid (pOf n = -1074) := Lib.hid (by unfold pOf; rw [if_pos hx])
    have e4 : bits .and .u64 ((n : Int) / 4503599627370496) 2047 = 0 := by rw [e3, hx]; rfl
    clear e3
    clear e1 e2 hb hx hn
    go_enter Try.func49, Try.ntmps49
    go_wp2_with fail
    go_ret2
    exact ⟨by rw [HM.out, HP.out] <;> rfl, rfl⟩
  · have HM : Hid (((mOf n : Nat) : Int) = (n : Int) % 4503599627370496 + 4503599627370496) := Lib.hid (by unfold mOf; rw [if_neg hx]; omega)
    have HP : Hid (pOf n = ((n / 4503599627370496 % 2048 : Nat) : Int) - 1075) := Lib.hid (by unfold pOf; rw [if_neg hx])
    have hz : (((n / 4503599627370496 % 2048 : Nat) : Int) == 0) = false := by rw [beq_eq_false_iff_ne]; omega
    have wz : IntKind.i64.wrap ((n / 4503599627370496 % 2048 : Nat) : Int) = ((n / 4503599627370496 % 2048 : Nat) : Int) := IntWalk.i64_in _ (by omega)
    have wz2 : IntKind.i64.wrap (((n / 4503599627370496 % 2048 : Nat) : Int) - 1075) = ((n / 4503599627370496 % 2048 : Nat) : Int) - 1075 := IntWalk.i64_in _ (by omega)
    generalize ((n / 4503599627370496 % 2048 : Nat) : Int) = X at *
    clear e1 e2 hb hx hn
    go_enter Try.func49, Try.ntmps49
    go_wp2_with fail
    go_ret2
    exact ⟨by rw [HM.out, HP.out] <;> rfl, rfl⟩
end Go.Proofs.Ytaichdcknoopdaa
