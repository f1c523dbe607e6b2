/- Digits at places, carries, bit lengths: plain Lean. -/
import Derived.Test.YtgckfilmhnapeaaDoorNum
namespace Go.Proofs.YtgckfilmhnapeaaDoor
open Go.RowKit

/-- so many digits of a number, noughts at the end too -/
def digs (b n i : Nat) : List Nat := (List.range i).map fun k => n / b ^ k % b
theorem digs_len (b n i : Nat) : (digs b n i).length = i := by simp [digs]
theorem digs_succ (b n i : Nat) : digs b n (i + 1) = digs b n i ++ [n / b ^ i % b] := by simp [digs, List.range_succ]
theorem digs_zero (b n : Nat) : digs b n 0 = [] := rfl
theorem digs_lt (b n i : Nat) (hb : 0 < b) : ∀ x ∈ digs b n i, x < b := by
  intro x hx
  simp only [digs, List.mem_map] at hx
  obtain ⟨k, _, rfl⟩ := hx
  exact Nat.mod_lt _ hb
theorem digs_val (b n i : Nat) : bval b (digs b n i) = n % b ^ i := by
  induction i with
  | zero => simp [digs_zero, bval, Nat.mod_one]
  | succ i ih =>
    rw [digs_succ, bval_snoc, ih, digs_len, Nat.pow_succ]
    exact (Nat.mod_mul).symm
theorem digs_all (b n i : Nat) (h : n < b ^ i) : bval b (digs b n i) = n := by rw [digs_val, Nat.mod_eq_of_lt h]

theorem dig_getD (n k : Nat) : (dig 256 n).getD k 0 = n / 256 ^ k % 256 := by
  have key : ∀ k n, (dig 256 n).getD k 0 = n / 256 ^ k % 256 := by
    intro k
    induction k with
    | zero =>
      intro n
      by_cases hn : n = 0
      · subst hn; rw [dig_zero]; rfl
      · rw [dig_pos (by decide) hn]; simp
    | succ k ih =>
      intro n
      by_cases hn : n = 0
      · subst hn; rw [dig_zero, Nat.zero_div]; simp
      · rw [dig_pos (by decide) hn, List.getD_cons_succ, ih, Nat.div_div_eq_div_mul, Nat.pow_succ, Nat.mul_comm 256]
  exact key k n

theorem pow_pos256 (i : Nat) : 0 < 256 ^ i := Nat.pow_pos (by decide)
/-- a sum's carry at a place -/
def carry (a b i : Nat) : Nat := (a % 256 ^ i + b % 256 ^ i) / 256 ^ i
theorem carry_eq (a b i : Nat) : (a + b) / 256 ^ i = a / 256 ^ i + b / 256 ^ i + carry a b i := by
  have hp := pow_pos256 i
  unfold carry
  have h1 := Nat.div_add_mod a (256 ^ i)
  have h2 := Nat.div_add_mod b (256 ^ i)
  generalize 256 ^ i = P at *
  have : a + b = P * (a / P + b / P) + (a % P + b % P) := by rw [Nat.mul_add]; omega
  conv => lhs; rw [this]
  rw [Nat.mul_add_div hp]
theorem carry_le (a b i : Nat) : carry a b i ≤ 1 := by
  have hp := pow_pos256 i
  unfold carry
  have h1 := Nat.mod_lt a hp
  have h2 := Nat.mod_lt b hp
  generalize 256 ^ i = P at *
  have : (a % P + b % P) / P < 2 := (Nat.div_lt_iff_lt_mul hp).2 (by omega)
  omega
theorem carry_zero (a b : Nat) : carry a b 0 = 0 := by simp [carry, Nat.mod_one]
theorem div_succ (a i : Nat) : a / 256 ^ (i + 1) = a / 256 ^ i / 256 := by rw [Nat.pow_succ, Nat.div_div_eq_div_mul]
theorem carry_step (a b i : Nat) : (a / 256 ^ i % 256 + b / 256 ^ i % 256 + carry a b i) % 256 = (a + b) / 256 ^ i % 256 ∧ (a / 256 ^ i % 256 + b / 256 ^ i % 256 + carry a b i) / 256 = carry a b (i + 1) := by
  have h := carry_eq a b i
  have h2 := carry_eq a b (i + 1)
  rw [div_succ, div_succ, div_succ, h] at h2
  rw [h]
  generalize a / 256 ^ i = x at *
  generalize b / 256 ^ i = y at *
  generalize carry a b i = c at *
  generalize carry a b (i + 1) = d at *
  omega
/-- a difference's borrow -/
theorem borrow_step (m d i : Nat) : let x := (m + d) / 256 ^ i % 256; let y := m / 256 ^ i % 256; let c := carry m d i
    (x < y + c → d / 256 ^ i % 256 + y + c = x + 256 ∧ carry m d (i + 1) = 1) ∧ (y + c ≤ x → d / 256 ^ i % 256 + y + c = x ∧ carry m d (i + 1) = 0) := by
  intro x y c
  have h := carry_step m d i
  have hc := carry_le m d (i + 1)
  have hx : x = (m + d) / 256 ^ i % 256 := rfl
  have hy : y = m / 256 ^ i % 256 := rfl
  have hcc : c = carry m d i := rfl
  rw [← hx, ← hy, ← hcc] at h
  have b1 : d / 256 ^ i % 256 < 256 := Nat.mod_lt _ (by decide)
  generalize d / 256 ^ i % 256 = z at *
  generalize carry m d (i + 1) = c2 at *
  clear_value x y c
  constructor
  · intro h1
    omega
  · intro h1
    omega
/-- the carry of a product with a small number -/
def pcarry (n p i : Nat) : Nat := n % 256 ^ i * p / 256 ^ i
theorem pcarry_eq (n p i : Nat) : n * p / 256 ^ i = n / 256 ^ i * p + pcarry n p i := by
  have hp := pow_pos256 i
  unfold pcarry
  have h1 := Nat.div_add_mod n (256 ^ i)
  generalize 256 ^ i = P at *
  have : n * p = P * (n / P * p) + n % P * p := by
    conv => lhs; rw [← h1]
    rw [Nat.add_mul, Nat.mul_assoc]
  conv => lhs; rw [this]
  rw [Nat.mul_add_div hp]
theorem pcarry_lt (n p i : Nat) (h : 0 < p) : pcarry n p i < p := by
  have hp := pow_pos256 i
  unfold pcarry
  rw [Nat.div_lt_iff_lt_mul hp, Nat.mul_comm p]
  exact Nat.mul_lt_mul_of_pos_right (Nat.mod_lt n hp) h
theorem pcarry_zero (n p : Nat) : pcarry n p 0 = 0 := by simp [pcarry, Nat.mod_one]
theorem pcarry_step (n p i : Nat) : (n / 256 ^ i % 256 * p + pcarry n p i) % 256 = n * p / 256 ^ i % 256 ∧ (n / 256 ^ i % 256 * p + pcarry n p i) / 256 = pcarry n p (i + 1) := by
  have h := pcarry_eq n p i
  have h2 := pcarry_eq n p (i + 1)
  rw [div_succ, div_succ, h] at h2
  rw [h]
  generalize n / 256 ^ i = x at *
  generalize pcarry n p i = c at *
  generalize pcarry n p (i + 1) = d at *
  have hx := Nat.div_add_mod x 256
  have e : x * p = 256 * (x / 256 * p) + x % 256 * p := by
    conv => lhs; rw [← hx]
    rw [Nat.add_mul, Nat.mul_assoc]
  generalize x / 256 * p = u at *
  generalize x % 256 * p = v at *
  omega

/-- how many bits a number has -/
def blen (n : Nat) : Nat := if n = 0 then 0 else n.log2 + 1
theorem blen_zero : blen 0 = 0 := rfl
theorem blen_iff (n k : Nat) : blen n ≤ k ↔ n < 2 ^ k := by
  unfold blen
  by_cases hn : n = 0
  · subst hn; simp [Nat.two_pow_pos]
  · rw [if_neg hn]
    rw [← Nat.log2_lt hn]; omega
theorem blen_half (n : Nat) (hn : n ≠ 0) : blen n = blen (n / 2) + 1 := by
  apply Nat.le_antisymm
  · rw [blen_iff, Nat.pow_succ]
    have := (blen_iff (n / 2) (blen (n / 2))).1 (Nat.le_refl _)
    omega
  · have h0 : blen n ≠ 0 := by unfold blen; rw [if_neg hn]; omega
    obtain ⟨k, hk⟩ : ∃ k, blen n = k + 1 := ⟨blen n - 1, by omega⟩
    have h1 := (blen_iff n (k + 1)).1 (by omega)
    rw [Nat.pow_succ] at h1
    have : blen (n / 2) ≤ k := (blen_iff _ _).2 (by omega)
    omega
theorem blen_shift (n k : Nat) (h : n / 2 ^ k ≠ 0) : blen n = blen (n / 2 ^ k) + k := by
  induction k generalizing n with
  | zero => simp
  | succ k ih =>
    have hn : n ≠ 0 := by rintro rfl; simp at h
    have h2 : n / 2 / 2 ^ k ≠ 0 := by rwa [Nat.div_div_eq_div_mul, Nat.mul_comm, ← Nat.pow_succ]
    rw [blen_half n hn, ih (n / 2) h2, Nat.div_div_eq_div_mul, Nat.mul_comm 2, ← Nat.pow_succ, Nat.add_assoc]
theorem dig_top (n : Nat) (hn : n ≠ 0) : (dig 256 n).getD ((dig 256 n).length - 1) 0 = n / 256 ^ ((dig 256 n).length - 1) ∧ n / 256 ^ ((dig 256 n).length - 1) ≠ 0 := by
  have h1 := (dig_last (b := 256) (by decide) n hn)
  rw [dig_getD] at h1 ⊢
  have h2 := lt_dig_len (b := 256) (by decide) n
  obtain ⟨m, hm⟩ : ∃ m, (dig 256 n).length = m + 1 := ⟨(dig 256 n).length - 1, by omega⟩
  rw [hm] at h1 h2 ⊢
  simp only [Nat.add_sub_cancel] at h1 ⊢
  have h3 : n / 256 ^ m < 256 := by
    rw [Nat.div_lt_iff_lt_mul (pow_pos256 m), Nat.mul_comm, ← Nat.pow_succ]; exact h2
  rw [Nat.mod_eq_of_lt h3] at h1 ⊢
  exact ⟨rfl, h1.2⟩
theorem blen_top (n : Nat) (hn : n ≠ 0) : 8 * ((dig 256 n).length - 1) + blen (n / 256 ^ ((dig 256 n).length - 1)) = blen n := by
  have h := (dig_top n hn).2
  have e : 256 ^ ((dig 256 n).length - 1) = 2 ^ (8 * ((dig 256 n).length - 1)) := by rw [Nat.pow_mul]
  rw [e] at h ⊢
  rw [blen_shift n _ h]; omega

/-- -1, 0 or 1 -/
def cmpZ (n m : Nat) : Int := if n < m then -1 else if m < n then 1 else 0
theorem len_lt_lt (n m : Nat) (h : (dig 256 n).length < (dig 256 m).length) : n < m := by
  have h1 := lt_dig_len (b := 256) (by decide) n
  have hm : m ≠ 0 := by rintro rfl; rw [dig_zero] at h; simp at h
  have h2 := dig_len_ge (b := 256) (by decide) m hm
  have h3 : 256 ^ (dig 256 n).length ≤ 256 ^ ((dig 256 m).length - 1) := Nat.pow_le_pow_right (by decide) (by omega)
  omega
theorem digit_lt (n m j : Nat) (h : n / 256 ^ (j + 1) = m / 256 ^ (j + 1)) (hd : n / 256 ^ j % 256 < m / 256 ^ j % 256) : n < m := by
  rw [div_succ, div_succ] at h
  have h1 : n / 256 ^ j < m / 256 ^ j := by omega
  rcases Nat.lt_or_ge n m with g | g
  · exact g
  · have := Nat.div_le_div_right (c := 256 ^ j) g; omega
theorem digit_eq (n m j : Nat) (h : n / 256 ^ (j + 1) = m / 256 ^ (j + 1)) (hd : n / 256 ^ j % 256 = m / 256 ^ j % 256) : n / 256 ^ j = m / 256 ^ j := by
  rw [div_succ, div_succ] at h
  omega

/-- a digit of what is divided by 2^n -/
theorem shr_digit (N k r : Nat) (hr : r < 8) : (N / 256 ^ k % 256 + 256 * (N / 256 ^ (k + 1) % 256)) / 2 ^ r % 256 = N / 256 ^ k / 2 ^ r % 256 := by
  rw [div_succ]
  generalize N / 256 ^ k = x
  have : r = 0 ∨ r = 1 ∨ r = 2 ∨ r = 3 ∨ r = 4 ∨ r = 5 ∨ r = 6 ∨ r = 7 := by omega
  rcases this with rfl | rfl | rfl | rfl | rfl | rfl | rfl | rfl <;> simp only [Nat.reducePow] <;> omega
end Go.Proofs.YtgckfilmhnapeaaDoor
