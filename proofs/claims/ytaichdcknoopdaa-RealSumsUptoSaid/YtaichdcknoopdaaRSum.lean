/- Contract of crucibleref05.Sum. -/
import Derived.Test.YtaichdcknoopdaaParts2
import Derived.Test.YtaichdcknoopdaaSum0
import Derived.Test.YtaichdcknoopdaaRWhole
namespace Go.Proofs.Ytaichdcknoopdaa
open Go.RowKit

theorem neg_sgn (n : Nat) (hn : n < 18446744073709551616) : decide (9223372036854775808 ≤ n) = sgn64 n := by
  unfold sgn64
  rw [Bool.eq_iff_iff, decide_eq_true_iff, beq_iff_eq]; omega

theorem pow2_53 : (2 : Nat) ^ 53 = 9007199254740992 := by decide
theorem pow2_32 : (4294967296 : Nat) = 2 ^ 32 := by decide
theorem up_lt (m k L : Nat) (h : m < 9007199254740992) (hk : 53 + k ≤ 32 * L) : m * 2 ^ k < 4294967296 ^ L := by
  rw [pow2_32, ← Nat.pow_mul]
  refine Nat.lt_of_lt_of_le (Nat.mul_lt_mul_of_pos_right (pow2_53 ▸ h) (Nat.two_pow_pos k)) ?_
  rw [← Nat.pow_add]
  exact Nat.pow_le_pow_right (by decide) hk

theorem ll_add (X Y L : Nat) (hX : ll X ≤ L) (hY : ll Y ≤ L) : ll (X + Y) ≤ L + 1 := by
  have h1 : X < 4294967296 ^ L := Nat.lt_of_lt_of_le (lt_dig_len (b := 4294967296) (by decide) X) (Nat.pow_le_pow_right (by decide) hX)
  have h2 : Y < 4294967296 ^ L := Nat.lt_of_lt_of_le (lt_dig_len (b := 4294967296) (by decide) Y) (Nat.pow_le_pow_right (by decide) hY)
  refine ll_le _ _ ?_
  rw [Nat.pow_succ]
  generalize 4294967296 ^ L = z at *
  omega

theorem and_pow (n k : Nat) (hn : n / 2 ^ k < 2) : n &&& 2 ^ k = n / 2 ^ k * 2 ^ k := by
  apply Nat.eq_of_testBit_eq
  intro i
  rw [Nat.testBit_and, Nat.testBit_two_pow, Nat.testBit_mul_two_pow]
  by_cases h : k = i
  · subst h; simp [Nat.testBit_eq_decide_div_mod_eq]
  · by_cases g : k ≤ i
    · have hlt : n / 2 ^ k < 2 ^ (i - k) := by
        have h2 : 2 ^ 1 ≤ 2 ^ (i - k) := Nat.pow_le_pow_right (by decide) (by omega)
        omega
      rw [Nat.testBit_lt_two_pow hlt]
      simp [h]
    · simp [h, g]
theorem and_top (n : Nat) (hn : n < 18446744073709551616) : n &&& 9223372036854775808 = n / 9223372036854775808 * 9223372036854775808 := by
  have h := and_pow n 63 (by rw [show (2 : Nat) ^ 63 = 9223372036854775808 from by decide]; omega)
  rwa [show (2 : Nat) ^ 63 = 9223372036854775808 from by decide] at h
theorem top_and (n : Nat) (hn : n < 18446744073709551616) : bits .and .u64 (n : Int) 9223372036854775808 = ((topOf n : Nat) : Int) := by
  rw [show (9223372036854775808 : Int) = ((9223372036854775808 : Nat) : Int) from rfl, u64_and_nat n 9223372036854775808 hn (by omega), and_top n hn]
  rfl

theorem neq_nat {a b : Nat} (h : a ≠ b) : ((a : Int) != (b : Int)) = true := by rw [bne_iff_ne]; omega
theorem eq_nat (a : Nat) : ((a : Int) != (a : Int)) = false := by simp
theorem inf_dec {a : Nat} (h : a % 9223372036854775808 = 9218868437227405312) : decide (a % 9223372036854775808 = 9218868437227405312) = true := decide_eq_true h
theorem inf_dec' {a : Nat} (h : ¬ a % 9223372036854775808 = 9218868437227405312) : decide (a % 9223372036854775808 = 9218868437227405312) = false := decide_eq_false h

/-- Sum, where one of both is not finite -/
theorem rsum_spec (a b : Nat) (ha : a < 18446744073709551616) (hb : b < 18446744073709551616) (h : ¬ (a % 9223372036854775808 < 9218868437227405312 ∧ b % 9223372036854775808 < 9218868437227405312)) (w : World) :
    Calls Try.prog 42 #[.int .u64 a, .int .u64 b] w fun e w' => e = .returned (.int .u64 ((add64 a b : Nat) : Int)) ∧ w = w' := by
  have HNA := Lib.hid (isNaN_any a ha w)
  have HNB := Lib.hid (isNaN_any b hb w)
  have HIA := Lib.hid (isInf_any a ha w)
  have HIB := Lib.hid (isInf_any b hb w)
  by_cases h1 : nan64 a = true
  · have HR := Lib.hid (sum_nan a b (Or.inl h1))
    rw [h1] at HNA
    clear h1 h ha hb
    go_enter Try.func42, Try.ntmps42
    go_wp2_with fail
    refine HNA.out.mono ?_; rintro e w' ⟨rfl, rfl⟩
    go_wp2_with fail
    go_ret
    exact ⟨by rw [HR.out] <;> rfl, rfl⟩
  have h1' : nan64 a = false := by simpa using h1
  by_cases h2 : nan64 b = true
  · have HR := Lib.hid (sum_nan a b (Or.inr h2))
    rw [h2] at HNB
    rw [h1'] at HNA
    clear h1 h1' h2 h ha hb
    go_enter Try.func42, Try.ntmps42
    go_wp2_with fail
    refine HNA.out.mono ?_; rintro e w' ⟨rfl, rfl⟩
    go_wp2_with fail
    refine HNB.out.mono ?_; rintro e w' ⟨rfl, rfl⟩
    go_wp2_with fail
    go_ret
    exact ⟨by rw [HR.out] <;> rfl, rfl⟩
  have h2' : nan64 b = false := by simpa using h2
  rw [h1'] at HNA
  rw [h2'] at HNB
  have g1 : a % 9223372036854775808 ≤ 9218868437227405312 := by simp [nan64] at h1'; omega
  have g2 : b % 9223372036854775808 ≤ 9218868437227405312 := by simp [nan64] at h2'; omega
  by_cases h3 : a % 9223372036854775808 = 9218868437227405312
  · rw [inf_dec h3] at HIA
    by_cases h4 : b % 9223372036854775808 = 9218868437227405312
    · rw [inf_dec h4] at HIB
      by_cases h5 : a = b
      · subst h5
        have HR := Lib.hid (sum_inf a a h3 ha h2' (fun _ => rfl))
        have q := eq_nat a
        clear h1 h1' h2 h2' h3 h4 h ha hb g1 g2 HIB HNB
        go_enter Try.func42, Try.ntmps42
        go_wp2_with fail
        refine HNA.out.mono ?_; rintro e w' ⟨rfl, rfl⟩
        go_wp2_with fail
        refine HNA.out.mono ?_; rintro e w' ⟨rfl, rfl⟩
        go_wp2_with fail
        refine HIA.out.mono ?_; rintro e w' ⟨rfl, rfl⟩
        go_wp2_with fail
        refine HIA.out.mono ?_; rintro e w' ⟨rfl, rfl⟩
        go_wp2_with fail
        refine HIA.out.mono ?_; rintro e w' ⟨rfl, rfl⟩
        go_wp2_with fail
        go_ret
        exact ⟨by rw [HR.out] <;> rfl, rfl⟩
      · have HR := Lib.hid (sum_infs a b h3 h4 ha hb h5)
        have q := neq_nat h5
        clear h1 h1' h2 h2' h3 h4 h ha hb g1 g2 h5
        go_enter Try.func42, Try.ntmps42
        go_wp2_with fail
        refine HNA.out.mono ?_; rintro e w' ⟨rfl, rfl⟩
        go_wp2_with fail
        refine HNB.out.mono ?_; rintro e w' ⟨rfl, rfl⟩
        go_wp2_with fail
        refine HIA.out.mono ?_; rintro e w' ⟨rfl, rfl⟩
        go_wp2_with fail
        refine HIB.out.mono ?_; rintro e w' ⟨rfl, rfl⟩
        go_wp2_with fail
        go_ret
        exact ⟨by rw [HR.out] <;> rfl, rfl⟩
    · rw [inf_dec' h4] at HIB
      have HR := Lib.hid (sum_inf a b h3 ha h2' (fun k => absurd k h4))
      clear h1 h1' h2 h2' h3 h4 h ha hb g1 g2
      go_enter Try.func42, Try.ntmps42
      go_wp2_with fail
      refine HNA.out.mono ?_; rintro e w' ⟨rfl, rfl⟩
      go_wp2_with fail
      refine HNB.out.mono ?_; rintro e w' ⟨rfl, rfl⟩
      go_wp2_with fail
      refine HIA.out.mono ?_; rintro e w' ⟨rfl, rfl⟩
      go_wp2_with fail
      refine HIB.out.mono ?_; rintro e w' ⟨rfl, rfl⟩
      go_wp2_with fail
      refine HIA.out.mono ?_; rintro e w' ⟨rfl, rfl⟩
      go_wp2_with fail
      go_ret
      exact ⟨by rw [HR.out] <;> rfl, rfl⟩
  · rw [inf_dec' h3] at HIA
    have h4 : b % 9223372036854775808 = 9218868437227405312 := by omega
    rw [inf_dec h4] at HIB
    have HR := Lib.hid (sum_inf b a h4 hb h1' (fun k => absurd k h3))
    rw [add64_comm] at HR
    clear h1 h1' h2 h2' h3 h4 h ha hb g1 g2
    go_enter Try.func42, Try.ntmps42
    go_wp2_with fail
    refine HNA.out.mono ?_; rintro e w' ⟨rfl, rfl⟩
    go_wp2_with fail
    refine HNB.out.mono ?_; rintro e w' ⟨rfl, rfl⟩
    go_wp2_with fail
    refine HIA.out.mono ?_; rintro e w' ⟨rfl, rfl⟩
    go_wp2_with fail
    refine HIA.out.mono ?_; rintro e w' ⟨rfl, rfl⟩
    go_wp2_with fail
    refine HIB.out.mono ?_; rintro e w' ⟨rfl, rfl⟩
    go_wp2_with fail
    go_ret
    exact ⟨by rw [HR.out] <;> rfl, rfl⟩
end Go.Proofs.Ytaichdcknoopdaa
