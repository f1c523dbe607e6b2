/- Contracts of the small functions of package real and crucibleref05. -/
import Derived.Test.YtaichdcknoopdaaRows
import Derived.Test.YtaichdcknoopdaaFloat
import Derived.WalkKit
import Derived.WalkLawsBesides
import Derived.WalkSpells
import Derived.ProofKit
import Derived.Outline
import Derived.Lib.Hide
import Derived.Laws.Externs
import Derived.Laws.BitsAllLaws
namespace Go.Proofs.Ytaichdcknoopdaa
open Go.RowKit

theorem cfFrom (x : Int) (w : World) : (callFunc 52 #[.int .u64 x]).run Try.prog w = .ok (.value (.float .f64 x.toNat)) w := by kernel_rfl
theorem cfBits (x : Nat) (w : World) : (callFunc 54 #[.float .f64 x]).run Try.prog w = .ok (.value (.int .u64 x)) w := by kernel_rfl
theorem cfFrom32 (x : Int) (w : World) : (callFunc 61 #[.int .u32 x]).run Try.prog w = .ok (.value (.float .f32 x.toNat)) w := by kernel_rfl
theorem cfBits32 (x : Nat) (w : World) : (callFunc 53 #[.float .f32 x]).run Try.prog w = .ok (.value (.int .u32 x)) w := by kernel_rfl
attribute [local go_sem] cfFrom cfBits cfFrom32 cfBits32

theorem float_any (n : Nat) (w : World) :
    Calls Try.prog 14 #[.int .u64 n] w fun e w' => e = .returned (.float .f64 n) ∧ w = w' := by
  go_enter Try.func14, Try.ntmps14
  go_wp2
  go_ret
  exact ⟨rfl, rfl⟩
theorem float32_any (n : Nat) (w : World) :
    Calls Try.prog 29 #[.int .u32 n] w fun e w' => e = .returned (.float .f32 n) ∧ w = w' := by
  go_enter Try.func29, Try.ntmps29
  go_wp2
  go_ret
  exact ⟨rfl, rfl⟩

theorem bits_any (x : Nat) (w : World) :
    Calls Try.prog 17 #[.float .f64 x] w fun e w' => e = .returned (.int .u64 (one64 x)) ∧ w = w' := by
  have hs := order64_self x
  have H : Hid (one64 x = if nan64 x = true then 9221120237041090560 else x) := Lib.hid rfl
  cases h : nan64 x with
  | true =>
    rw [h] at hs
    go_enter Try.func17, Try.ntmps17
    go_wp2
    go_ret
    exact ⟨by rw [H.out, h] <;> rfl, rfl⟩
  | false =>
    rw [h] at hs
    go_enter Try.func17, Try.ntmps17
    go_wp2
    go_ret
    exact ⟨by rw [H.out, h] <;> rfl, rfl⟩

def cmp64 (x y : Nat) : Int × Bool := if nan64 x || nan64 y then (0, false) else (if rank64 x < rank64 y then -1 else if rank64 y < rank64 x then 1 else 0, true)

theorem cmp_any (x y : Nat) (w : World) :
    Calls Try.prog 22 #[.float .f64 x, .float .f64 y] w fun e w' => e = .returned (.tuple #[.int .i64 (cmp64 x y).1, .bool (cmp64 x y).2]) ∧ w = w' := by
  by_cases hn : nan64 x = true ∨ nan64 y = true
  · have h0 := order64_nan x y hn
    have H : Hid (cmp64 x y = (0, false)) := Lib.hid (by unfold cmp64; rw [if_pos (by simpa using hn)])
    clear hn
    go_enter Try.func22, Try.ntmps22
    go_wp2
    all_goals (go_ret2; exact ⟨by rw [H.out] <;> rfl, rfl⟩)
  · have hx : x % 9223372036854775808 ≤ 9218868437227405312 := by simp [nan64] at hn; omega
    have hy : y % 9223372036854775808 ≤ 9218868437227405312 := by simp [nan64] at hn; omega
    have h0 := order64_rank x y hx hy
    have hc : cmp64 x y = (if rank64 x < rank64 y then -1 else if rank64 y < rank64 x then 1 else 0, true) := by unfold cmp64; rw [if_neg (by simpa using hn)]
    clear hn hx hy
    rcases Int.lt_trichotomy (rank64 x) (rank64 y) with g | g | g
    · have H : Hid (cmp64 x y = (-1, true)) := Lib.hid (by rw [hc, if_pos g])
      have h1 : F64.order x y = some .lt := by rw [h0]; simp [compare, compareOfLessAndEq, g]
      clear hc h0 g
      go_enter Try.func22, Try.ntmps22
      go_wp2
      all_goals (go_ret2; exact ⟨by rw [H.out] <;> rfl, rfl⟩)
    · have H : Hid (cmp64 x y = (0, true)) := Lib.hid (by rw [hc, if_neg (by omega), if_neg (by omega)])
      have h1 : F64.order x y = some .eq := by rw [h0]; simp [compare, compareOfLessAndEq, g]
      clear hc h0 g
      go_enter Try.func22, Try.ntmps22
      go_wp2
      all_goals (go_ret2; exact ⟨by rw [H.out] <;> rfl, rfl⟩)
    · have H : Hid (cmp64 x y = (1, true)) := Lib.hid (by rw [hc, if_neg (by omega), if_pos g])
      have h1 : F64.order x y = some .gt := by rw [h0]; simp only [compare, compareOfLessAndEq]; rw [if_neg (by omega), if_neg (by omega)]
      clear hc h0 g
      go_enter Try.func22, Try.ntmps22
      go_wp2
      all_goals (go_ret2; exact ⟨by rw [H.out] <;> rfl, rfl⟩)

theorem same_any (x y : Nat) (w : World) :
    Calls Try.prog 23 #[.float .f64 x, .float .f64 y] w fun e w' => e = .returned (.bool ((one64 x : Int) == (one64 y : Int))) ∧ w = w' := by
  go_enter Try.func23, Try.ntmps23
  go_wp2_with (go_at_call 17; refine (bits_any _ _).mono ?_; rintro e w' ⟨rfl, rfl⟩)
  go_ret
  exact ⟨rfl, rfl⟩

theorem isNaN_any (n : Nat) (hn : n < 18446744073709551616) (w : World) :
    Calls Try.prog 31 #[.int .u64 n] w fun e w' => e = .returned (.bool (nan64 n)) ∧ w = w' := by
  have e1 : bits .and .u64 (n : Int) 9218868437227405312 = ((n / 4503599627370496 % 2048 * 4503599627370496 : Nat) : Int) := by rw [← and_exp]; exact u64_and_nat n 9218868437227405312 hn (by omega)
  have e2 : bits .and .u64 (n : Int) 4503599627370495 = ((n % 4503599627370496 : Nat) : Int) := by rw [← and_frac]; exact u64_and_nat n 4503599627370495 hn (by omega)
  have H : Hid (nan64 n = (decide (n / 4503599627370496 % 2048 = 2047) && decide (n % 4503599627370496 ≠ 0))) := Lib.hid (by unfold nan64; rw [Bool.eq_iff_iff]; simp; omega)
  by_cases h1 : n / 4503599627370496 % 2048 = 2047
  · have h1' : (bits .and .u64 (n : Int) 9218868437227405312 == 9218868437227405312) = true := by rw [e1, h1]; rfl
    by_cases h2 : n % 4503599627370496 = 0
    · have h2' : (bits .and .u64 (n : Int) 4503599627370495 != 0) = false := by rw [e2, h2]; rfl
      have H2 : Hid (nan64 n = false) := Lib.hid (by rw [H.out]; simp [h2])
      clear e1 e2 h1 h2
      go_enter Try.func31, Try.ntmps31
      go_wp2
      go_ret
      exact ⟨by rw [H2.out] <;> rfl, rfl⟩
    · have h2' : (bits .and .u64 (n : Int) 4503599627370495 != 0) = true := by rw [e2]; simp; omega
      have H2 : Hid (nan64 n = true) := Lib.hid (by rw [H.out]; simp [h1, h2])
      clear e1 e2 h1 h2
      go_enter Try.func31, Try.ntmps31
      go_wp2
      go_ret
      exact ⟨by rw [H2.out] <;> rfl, rfl⟩
  · have h1' : (bits .and .u64 (n : Int) 9218868437227405312 == 9218868437227405312) = false := by rw [e1]; simp; omega
    have H2 : Hid (nan64 n = false) := Lib.hid (by rw [H.out]; simp [h1])
    clear e1 e2 h1
    go_enter Try.func31, Try.ntmps31
    go_wp2
    go_ret
    exact ⟨by rw [H2.out] <;> rfl, rfl⟩

theorem one_any (n : Nat) (hn : n < 18446744073709551616) (w : World) :
    Calls Try.prog 24 #[.int .u64 n] w fun e w' => e = .returned (.int .u64 (one64 n)) ∧ w = w' := by
  have H : Hid (one64 n = if nan64 n = true then 9221120237041090560 else n) := Lib.hid rfl
  cases h : nan64 n with
  | true =>
    go_enter Try.func24, Try.ntmps24
    go_wp2_with (go_at_call 31; refine (isNaN_any _ hn _).mono ?_; rintro e w' ⟨rfl, rfl⟩)
    go_ret
    exact ⟨by rw [H.out, h] <;> rfl, rfl⟩
  | false =>
    go_enter Try.func24, Try.ntmps24
    go_wp2_with (go_at_call 31; refine (isNaN_any _ hn _).mono ?_; rintro e w' ⟨rfl, rfl⟩)
    go_ret
    exact ⟨by rw [H.out, h] <;> rfl, rfl⟩

end Go.Proofs.Ytaichdcknoopdaa
