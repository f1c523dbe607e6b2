/- Digits at places, carries, in base 2^32: plain Lean. -/
import Derived.Test.YtgckfilmhnapeaaDoorNum2
namespace Go.Proofs.YtgckfilmhnapeaaDoor
open Go.RowKit

theorem dig_getDL (n k : Nat) : (dig 4294967296 n).getD k 0 = n / 4294967296 ^ k % 4294967296 := by
  have key : ∀ k n, (dig 4294967296 n).getD k 0 = n / 4294967296 ^ k % 4294967296 := by
    intro k
    induction k with
    | zero =>
      intro n
      by_cases hn : n = 0
      · subst hn; rw [dig_zero]; rfl
      · rw [dig_pos (by decide) hn]; simp
    | succ k ih =>
      intro n
      by_cases hn : n = 0
      · subst hn; rw [dig_zero, Nat.zero_div]; simp
      · rw [dig_pos (by decide) hn, List.getD_cons_succ, ih, Nat.div_div_eq_div_mul, Nat.pow_succ, Nat.mul_comm 4294967296]
  exact key k n

theorem pow_posL (i : Nat) : 0 < 4294967296 ^ i := Nat.pow_pos (by decide)
/-- a sum's carryL at a place -/
def carryL (a b i : Nat) : Nat := (a % 4294967296 ^ i + b % 4294967296 ^ i) / 4294967296 ^ i
theorem carry_eqL (a b i : Nat) : (a + b) / 4294967296 ^ i = a / 4294967296 ^ i + b / 4294967296 ^ i + carryL a b i := by
  have hp := pow_posL i
  unfold carryL
  have h1 := Nat.div_add_mod a (4294967296 ^ i)
  have h2 := Nat.div_add_mod b (4294967296 ^ i)
  generalize 4294967296 ^ i = P at *
  have : a + b = P * (a / P + b / P) + (a % P + b % P) := by rw [Nat.mul_add]; omega
  conv => lhs; rw [this]
  rw [Nat.mul_add_div hp]
theorem carry_leL (a b i : Nat) : carryL a b i ≤ 1 := by
  have hp := pow_posL i
  unfold carryL
  have h1 := Nat.mod_lt a hp
  have h2 := Nat.mod_lt b hp
  generalize 4294967296 ^ i = P at *
  have : (a % P + b % P) / P < 2 := (Nat.div_lt_iff_lt_mul hp).2 (by omega)
  omega
theorem carry_zeroL (a b : Nat) : carryL a b 0 = 0 := by simp [carryL, Nat.mod_one]
theorem div_succL (a i : Nat) : a / 4294967296 ^ (i + 1) = a / 4294967296 ^ i / 4294967296 := by rw [Nat.pow_succ, Nat.div_div_eq_div_mul]
theorem carry_stepL (a b i : Nat) : (a / 4294967296 ^ i % 4294967296 + b / 4294967296 ^ i % 4294967296 + carryL a b i) % 4294967296 = (a + b) / 4294967296 ^ i % 4294967296 ∧ (a / 4294967296 ^ i % 4294967296 + b / 4294967296 ^ i % 4294967296 + carryL a b i) / 4294967296 = carryL a b (i + 1) := by
  have h := carry_eqL a b i
  have h2 := carry_eqL a b (i + 1)
  rw [div_succL, div_succL, div_succL, h] at h2
  rw [h]
  generalize a / 4294967296 ^ i = x at *
  generalize b / 4294967296 ^ i = y at *
  generalize carryL a b i = c at *
  generalize carryL a b (i + 1) = d at *
  omega
/-- a difference's borrow -/
theorem borrow_stepL (m d i : Nat) : let x := (m + d) / 4294967296 ^ i % 4294967296; let y := m / 4294967296 ^ i % 4294967296; let c := carryL m d i
    (x < y + c → d / 4294967296 ^ i % 4294967296 + y + c = x + 4294967296 ∧ carryL m d (i + 1) = 1) ∧ (y + c ≤ x → d / 4294967296 ^ i % 4294967296 + y + c = x ∧ carryL m d (i + 1) = 0) := by
  intro x y c
  have h := carry_stepL m d i
  have hc := carry_leL m d (i + 1)
  have hx : x = (m + d) / 4294967296 ^ i % 4294967296 := rfl
  have hy : y = m / 4294967296 ^ i % 4294967296 := rfl
  have hcc : c = carryL m d i := rfl
  rw [← hx, ← hy, ← hcc] at h
  have b1 : d / 4294967296 ^ i % 4294967296 < 4294967296 := Nat.mod_lt _ (by decide)
  generalize d / 4294967296 ^ i % 4294967296 = z at *
  generalize carryL m d (i + 1) = c2 at *
  clear_value x y c
  constructor
  · intro h1
    omega
  · intro h1
    omega
/-- the carryL of a product with a small number -/
def pcarryL (n p i : Nat) : Nat := n % 4294967296 ^ i * p / 4294967296 ^ i
theorem pcarry_eqL (n p i : Nat) : n * p / 4294967296 ^ i = n / 4294967296 ^ i * p + pcarryL n p i := by
  have hp := pow_posL i
  unfold pcarryL
  have h1 := Nat.div_add_mod n (4294967296 ^ i)
  generalize 4294967296 ^ i = P at *
  have : n * p = P * (n / P * p) + n % P * p := by
    conv => lhs; rw [← h1]
    rw [Nat.add_mul, Nat.mul_assoc]
  conv => lhs; rw [this]
  rw [Nat.mul_add_div hp]
theorem pcarry_ltL (n p i : Nat) (h : 0 < p) : pcarryL n p i < p := by
  have hp := pow_posL i
  unfold pcarryL
  rw [Nat.div_lt_iff_lt_mul hp, Nat.mul_comm p]
  exact Nat.mul_lt_mul_of_pos_right (Nat.mod_lt n hp) h
theorem pcarry_zeroL (n p : Nat) : pcarryL n p 0 = 0 := by simp [pcarryL, Nat.mod_one]
theorem pcarry_stepL (n p i : Nat) : (n / 4294967296 ^ i % 4294967296 * p + pcarryL n p i) % 4294967296 = n * p / 4294967296 ^ i % 4294967296 ∧ (n / 4294967296 ^ i % 4294967296 * p + pcarryL n p i) / 4294967296 = pcarryL n p (i + 1) := by
  have h := pcarry_eqL n p i
  have h2 := pcarry_eqL n p (i + 1)
  rw [div_succL, div_succL, h] at h2
  rw [h]
  generalize n / 4294967296 ^ i = x at *
  generalize pcarryL n p i = c at *
  generalize pcarryL n p (i + 1) = d at *
  have hx := Nat.div_add_mod x 4294967296
  have e : x * p = 4294967296 * (x / 4294967296 * p) + x % 4294967296 * p := by
    conv => lhs; rw [← hx]
    rw [Nat.add_mul, Nat.mul_assoc]
  generalize x / 4294967296 * p = u at *
  generalize x % 4294967296 * p = v at *
  omega

theorem dig_topL (n : Nat) (hn : n ≠ 0) : (dig 4294967296 n).getD ((dig 4294967296 n).length - 1) 0 = n / 4294967296 ^ ((dig 4294967296 n).length - 1) ∧ n / 4294967296 ^ ((dig 4294967296 n).length - 1) ≠ 0 := by
  have h1 := (dig_last (b := 4294967296) (by decide) n hn)
  rw [dig_getDL] at h1 ⊢
  have h2 := lt_dig_len (b := 4294967296) (by decide) n
  obtain ⟨m, hm⟩ : ∃ m, (dig 4294967296 n).length = m + 1 := ⟨(dig 4294967296 n).length - 1, by omega⟩
  rw [hm] at h1 h2 ⊢
  simp only [Nat.add_sub_cancel] at h1 ⊢
  have h3 : n / 4294967296 ^ m < 4294967296 := by
    rw [Nat.div_lt_iff_lt_mul (pow_posL m), Nat.mul_comm, ← Nat.pow_succ]; exact h2
  rw [Nat.mod_eq_of_lt h3] at h1 ⊢
  exact ⟨rfl, h1.2⟩
theorem len_lt_ltL (n m : Nat) (h : (dig 4294967296 n).length < (dig 4294967296 m).length) : n < m := by
  have h1 := lt_dig_len (b := 4294967296) (by decide) n
  have hm : m ≠ 0 := by rintro rfl; rw [dig_zero] at h; simp at h
  have h2 := dig_len_ge (b := 4294967296) (by decide) m hm
  have h3 : 4294967296 ^ (dig 4294967296 n).length ≤ 4294967296 ^ ((dig 4294967296 m).length - 1) := Nat.pow_le_pow_right (by decide) (by omega)
  omega
theorem digit_ltL (n m j : Nat) (h : n / 4294967296 ^ (j + 1) = m / 4294967296 ^ (j + 1)) (hd : n / 4294967296 ^ j % 4294967296 < m / 4294967296 ^ j % 4294967296) : n < m := by
  rw [div_succL, div_succL] at h
  have h1 : n / 4294967296 ^ j < m / 4294967296 ^ j := by omega
  rcases Nat.lt_or_ge n m with g | g
  · exact g
  · have := Nat.div_le_div_right (c := 4294967296 ^ j) g; omega
theorem digit_eqL (n m j : Nat) (h : n / 4294967296 ^ (j + 1) = m / 4294967296 ^ (j + 1)) (hd : n / 4294967296 ^ j % 4294967296 = m / 4294967296 ^ j % 4294967296) : n / 4294967296 ^ j = m / 4294967296 ^ j := by
  rw [div_succL, div_succL] at h
  omega

end Go.Proofs.YtgckfilmhnapeaaDoor
