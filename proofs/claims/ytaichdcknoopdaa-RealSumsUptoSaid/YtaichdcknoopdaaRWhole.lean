/- Contract of crucibleref05.Whole. -/
import Derived.Test.YtaichdcknoopdaaParts2
namespace Go.Proofs.Ytaichdcknoopdaa
open Go.RowKit

def WRel (w : World) (mag : Nat) (v4 v5 : Value) (wr : World) : Prop :=
  ∃ (m : Nat) (e : Int), v4 = .int .u64 m ∧ v5 = .int .i64 e ∧ m < 18446744073709551616 ∧ -1074 ≤ e ∧ e ≤ 1000 ∧ m * 2 ^ (e + 1074).toNat = mag ∧ w = wr
def WRel2 (w : World) (mag : Nat) (v4 v5 : Value) (wr : World) : Prop :=
  ∃ (m : Nat) (e : Int), v4 = .int .u64 m ∧ v5 = .int .i64 e ∧ m < 18446744073709551616 ∧ -1074 ≤ e ∧ e ≤ 1000 ∧ m * 2 ^ (e + 1074).toNat = mag ∧ (e < 0 → m % 2 = 1 ∨ m = 0) ∧ w = wr

theorem halve_eq (m : Nat) (e : Int) (h0 : -1074 ≤ e) (h2 : m % 2 = 0) : m / 2 * 2 ^ (e + 1 + 1074).toNat = m * 2 ^ (e + 1074).toNat := by
  rw [show (e + 1 + 1074).toNat = (e + 1074).toNat + 1 from by omega, Nat.pow_succ]
  generalize 2 ^ (e + 1074).toNat = P
  rw [Nat.mul_comm P 2, ← Nat.mul_assoc, show m / 2 * 2 = m from by omega]
theorem double_eq (m : Nat) (e : Int) (h0 : 0 < e) : m * 2 * 2 ^ (e - 1 + 1074).toNat = m * 2 ^ (e + 1074).toNat := by
  rw [show (e + 1074).toNat = (e - 1 + 1074).toNat + 1 from by omega, Nat.pow_succ]
  generalize 2 ^ (e - 1 + 1074).toNat = P
  rw [Nat.mul_assoc, Nat.mul_comm 2 P]

theorem parts_mag (n : Nat) (hf : n % 9223372036854775808 < 9218868437227405312) : mOf n * 2 ^ (pOf n + 1074).toNat = mag64 (n % 9223372036854775808) ∧ mOf n < 9007199254740992 ∧ -1074 ≤ pOf n ∧ pOf n ≤ 971 := by
  unfold mOf pOf mag64
  by_cases h : n / 4503599627370496 % 2048 = 0
  · rw [if_pos h, if_pos h, if_pos (by omega)]
    refine ⟨?_, by omega, by omega, by omega⟩
    rw [show ((-1074 : Int) + 1074).toNat = 0 from rfl, Nat.pow_zero]
    omega
  · rw [if_neg h, if_neg h, if_neg (by omega)]
    refine ⟨?_, by omega, by omega, by omega⟩
    have e1 : (((n / 4503599627370496 % 2048 : Nat) : Int) - 1075 + 1074).toNat = n % 9223372036854775808 / 4503599627370496 - 1 := by omega
    have e2 : n % 4503599627370496 + 4503599627370496 = 4503599627370496 + n % 9223372036854775808 % 4503599627370496 := by omega
    rw [e1, e2]

set_option maxRecDepth 100000 in
set_option maxHeartbeats 2000000 in
theorem rwhole_nan (n : Nat) (hn : n < 18446744073709551616) (hf : ¬ n % 9223372036854775808 < 9218868437227405312) (w : World) :
    Calls Try.prog 34 #[.int .u64 n] w fun e w' => e = .returned (.tuple #[.int .i64 0, .bool false]) ∧ w = w' := by
  have HI := Lib.hid (isInf_any n hn w)
  have HN := Lib.hid (isNaN_any n hn w)
  by_cases h : nan64 n = true
  · rw [h] at HN
    clear hn hf h
    go_enter Try.func34, Try.ntmps34
    go_wp2_with fail
    refine HN.out.mono ?_
    rintro e w' ⟨rfl, rfl⟩
    go_wp2_with fail
    go_ret2
    exact ⟨rfl, rfl⟩
  · have hi : decide (n % 9223372036854775808 = 9218868437227405312) = true := by
      rw [decide_eq_true_iff]; simp [nan64] at h; omega
    rw [hi] at HI
    rw [show nan64 n = false from by simpa using h] at HN
    clear hn hf h hi
    go_enter Try.func34, Try.ntmps34
    go_wp2_with fail
    refine HN.out.mono ?_
    rintro e w' ⟨rfl, rfl⟩
    go_wp2_with fail
    refine HI.out.mono ?_
    rintro e w' ⟨rfl, rfl⟩
    go_wp2_with fail
    go_ret2
    exact ⟨rfl, rfl⟩

/-- Whole's answer at a finite pattern -/
def wholeR (n : Nat) : Int × Bool :=
  if mag64 (n % 9223372036854775808) % pw 1074 = 0 ∧ (mag64 (n % 9223372036854775808) / pw 1074 < 9223372036854775808 ∨ (mag64 (n % 9223372036854775808) / pw 1074 = 9223372036854775808 ∧ 9223372036854775808 ≤ n)) then
    (if 9223372036854775808 ≤ n then -((mag64 (n % 9223372036854775808) / pw 1074 : Nat) : Int) else ((mag64 (n % 9223372036854775808) / pw 1074 : Nat) : Int), true)
  else (0, false)

theorem pw_def (k : Nat) : 2 ^ k = pw k := rfl
theorem odd_no (m a b : Nat) (hm : m % 2 = 1) (hab : a < b) : m * 2 ^ a % pw b ≠ 0 := by
  rw [← pw_def]
  intro h
  obtain ⟨c, rfl⟩ : ∃ c, b = a + (c + 1) := ⟨b - a - 1, by omega⟩
  rw [Nat.pow_add, Nat.mul_comm m, Nat.mul_mod_mul_left] at h
  have hp := Nat.two_pow_pos a
  rcases Nat.mul_eq_zero.1 h with g | g
  · omega
  · have : m % 2 = 0 := by
      have h2 : m % 2 ^ (c + 1) % 2 = m % 2 := Nat.mod_mod_of_dvd _ (by rw [Nat.pow_succ]; exact Nat.dvd_mul_left _ _)
      rw [g] at h2; omega
    omega

theorem whole_end (n m : Nat) (e : Int) (he : -1074 ≤ e) (h : m * 2 ^ (e + 1074).toNat = mag64 (n % 9223372036854775808)) (h1 : e < 0 → m % 2 = 1 ∨ m = 0) (h2 : 0 < e → m = 0 ∨ 9223372036854775808 ≤ m) :
    wholeR n = if m = 0 then (0, true) else if e ≠ 0 ∨ 9223372036854775808 < m ∨ (m = 9223372036854775808 ∧ n < 9223372036854775808) then (0, false) else (if 9223372036854775808 ≤ n then -(m : Int) else (m : Int), true) := by
  unfold wholeR
  rw [← h]
  have hp : 0 < pw 1074 := pw_pos 1074
  by_cases hm : m = 0
  · subst hm
    rw [if_pos rfl, Nat.zero_mul, if_pos ⟨Nat.zero_mod _, Or.inl (by rw [Nat.zero_div]; decide)⟩, Nat.zero_div]
    split <;> rfl
  · rw [if_neg hm]
    rcases Int.lt_trichotomy e 0 with g | g | g
    · rw [if_pos (Or.inl (by omega)), if_neg]
      rintro ⟨q, -⟩
      exact odd_no m _ 1074 ((h1 g).resolve_right hm) (by omega) q
    · subst g
      rw [pw_def, show ((0 : Int) + 1074).toNat = 1074 from rfl, Nat.mul_mod_left, Nat.mul_div_cancel _ hp]
      by_cases hc : m < 9223372036854775808 ∨ (m = 9223372036854775808 ∧ 9223372036854775808 ≤ n)
      · rw [if_pos ⟨rfl, hc⟩, if_neg (show ¬ ((0 : Int) ≠ 0 ∨ 9223372036854775808 < m ∨ (m = 9223372036854775808 ∧ n < 9223372036854775808)) by omega)]
      · rw [if_neg (by rintro ⟨-, q⟩; exact hc q), if_pos (by omega)]
    · rw [if_pos (Or.inl (by omega)), if_neg]
      rintro ⟨-, q⟩
      have hge := (h2 g).resolve_left hm
      obtain ⟨c, hc⟩ : ∃ c, (e + 1074).toNat = 1074 + (c + 1) := ⟨(e + 1074).toNat - 1075, by omega⟩
      rw [pw_def, hc, ← pw_add, Nat.mul_left_comm, Nat.mul_div_cancel_left _ hp, pw_succ] at q
      have h3 : 1 ≤ pw c := pw_pos c
      have h4 : m * (2 * 1) ≤ m * (2 * pw c) := Nat.mul_le_mul_left _ (Nat.mul_le_mul_left _ h3)
      generalize m * (2 * pw c) = Z at *
      omega
end Go.Proofs.Ytaichdcknoopdaa
