/- Contracts of crucibleref05: Turned. -/
import Derived.Test.YtaichdcknoopdaaParts
import Derived.Laws.Bits64
import Derived.Test.YtaichdcknoopdaaBase2
namespace Go.Proofs.Ytaichdcknoopdaa
open Go.RowKit

theorem neg64_xor (n : Nat) : Op.negFloat .f64 n = n ^^^ 9223372036854775808 := by
  unfold Op.negFloat
  rw [show 2 ^ (FloatKind.f64.format.exponentBits + FloatKind.f64.format.fractionBits) = 9223372036854775808 from by decide +kernel]
theorem neg64_lt (n : Nat) (hn : n < 18446744073709551616) : Op.negFloat .f64 n < 18446744073709551616 := by
  rw [neg64_xor]; exact Nat.xor_lt_two_pow (n := 64) hn (by decide)

set_option maxRecDepth 100000 in
theorem turned_any (n : Nat) (hn : n < 18446744073709551616) (w : World) :
    Calls Try.prog 41 #[.int .u64 n] w fun e w' => e = .returned (.int .u64 (one64 (Op.negFloat .f64 n))) ∧ w = w' := by
  have e1 : bits .xor .u64 (n : Int) 9223372036854775808 = ((Op.negFloat .f64 n : Nat) : Int) := by
    rw [neg64_xor]; exact bits_xor_u64_nat n 9223372036854775808 hn (by decide)
  have HO := Lib.hid (one_any (Op.negFloat .f64 n) (neg64_lt n hn) w)
  generalize Op.negFloat .f64 n = t at *
  clear hn
  go_enter Try.func41, Try.ntmps41
  go_wp2_with fail
  refine HO.out.mono ?_
  rintro e w' ⟨rfl, rfl⟩
  go_wp2_with fail
  go_ret
  exact ⟨rfl, rfl⟩
end Go.Proofs.Ytaichdcknoopdaa
