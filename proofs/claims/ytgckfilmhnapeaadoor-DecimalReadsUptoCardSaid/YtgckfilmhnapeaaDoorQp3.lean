/- Long division limb by limb: the guess of a digit; digits set in a list: plain Lean. -/
import Derived.Test.YtgckfilmhnapeaaDoorNumL
import Derived.Test.YtgckfilmhnapeaaDoorPn9
namespace Go.Proofs.YtgckfilmhnapeaaDoor
set_option linter.unusedVariables false

/-- the two highest limbs of the divisor, the three highest of what is left -/
theorem guess_top (Y R n : Nat) (h : R < Y * 4294967296) : R / Y ≤ 4294967295 := by
  have hY : 0 < Y := by rcases Nat.eq_zero_or_pos Y with h0 | h0; · subst h0; omega
                        · exact h0
  have : R / Y < 4294967296 := (Nat.div_lt_iff_lt_mul hY).2 (by rw [Nat.mul_comm]; exact h)
  omega
theorem guess_first (Y R k : Nat) (hY : 0 < Y) (hh : 0 < Y / 4294967296 ^ k) : R / Y ≤ R / 4294967296 ^ k / (Y / 4294967296 ^ k) := by
  rw [Nat.le_div_iff_mul_le hh, Nat.le_div_iff_mul_le (pow_posL k)]
  have h1 : Y / 4294967296 ^ k * 4294967296 ^ k ≤ Y := Nat.div_mul_le_self _ _
  have h2 : R / Y * Y ≤ R := Nat.div_mul_le_self _ _
  have h3 := Nat.mul_le_mul_left (R / Y) h1
  rw [Nat.mul_assoc]
  omega
/-- the test says too much: so it is -/
theorem guess_less (Y R k g : Nat) (hY : 0 < Y) (h : R / 4294967296 ^ k < g * (Y / 4294967296 ^ k)) : R / Y + 1 ≤ g := by
  have hp := pow_posL k
  have h1 : Y / 4294967296 ^ k * 4294967296 ^ k ≤ Y := Nat.div_mul_le_self _ _
  have h2 := Nat.div_add_mod R (4294967296 ^ k)
  have h3 := Nat.mod_lt R hp
  have h4 : (R / 4294967296 ^ k + 1) * 4294967296 ^ k ≤ g * (Y / 4294967296 ^ k) * 4294967296 ^ k := Nat.mul_le_mul_right _ h
  have h5 := Nat.mul_le_mul_left g h1
  rw [← Nat.mul_assoc] at h5
  rw [Nat.add_mul, Nat.one_mul, Nat.mul_comm] at h4
  have h6 : R < g * Y := by omega
  have : R / Y < g := (Nat.div_lt_iff_lt_mul hY).2 h6
  omega
/-- the test says enough: the guess is right, or one too great -/
theorem guess_near (Y R k g : Nat) (hg : g < 4294967296) (hY : 4294967296 ^ (k + 1) ≤ Y) (h : g * (Y / 4294967296 ^ k) ≤ R / 4294967296 ^ k) : g ≤ R / Y + 1 := by
  have hp := pow_posL k
  have hYp : 0 < Y := Nat.lt_of_lt_of_le (pow_posL (k + 1)) hY
  have h2 := Nat.div_add_mod Y (4294967296 ^ k)
  have h3 := Nat.mod_lt Y hp
  have h4 : R / 4294967296 ^ k * 4294967296 ^ k ≤ R := Nat.div_mul_le_self _ _
  have h5 := Nat.mul_le_mul_right (4294967296 ^ k) h
  have h6 : g * Y ≤ g * (Y / 4294967296 ^ k) * 4294967296 ^ k + g * 4294967296 ^ k := by
    rw [Nat.mul_assoc, ← Nat.mul_add]
    apply Nat.mul_le_mul_left
    rw [Nat.mul_comm]; omega
  have h7 : g * 4294967296 ^ k < 4294967296 ^ (k + 1) := by
    rw [Nat.pow_succ, Nat.mul_comm (4294967296 ^ k)]
    exact Nat.mul_lt_mul_of_pos_right hg hp
  have h8 : g * Y < R + Y := by omega
  rcases Nat.eq_zero_or_pos g with h0 | h0
  · rw [h0]; exact Nat.zero_le _
  · obtain ⟨u, rfl⟩ : ∃ u, g = u + 1 := ⟨g - 1, by omega⟩
    rw [Nat.add_mul, Nat.one_mul] at h8
    have : u ≤ R / Y := (Nat.le_div_iff_mul_le hYp).2 (by omega)
    omega
theorem two_limbs (Y k : Nat) : Y / 4294967296 ^ k = Y / 4294967296 ^ (k + 1) * 4294967296 + Y / 4294967296 ^ k % 4294967296 := by
  rw [div_succL]
  omega
theorem guess_split (g high next top rest x3 : Nat) (h : g * high + rest = top) : g * (high * 4294967296 + next) = (top - rest) * 4294967296 + g * next ∧ rest ≤ top := by
  subst h
  refine ⟨?_, by omega⟩
  rw [Nat.mul_add, ← Nat.mul_assoc, Nat.add_sub_cancel]
/-- the digits of a list of limbs, one of them set that was nought -/
theorem digs_put (P T j g : Nat) (hj : j < T) (hg : g < 4294967296) (hP : P % 4294967296 ^ (j + 1) = 0) : (digs 4294967296 P T).set j g = digs 4294967296 (P + g * 4294967296 ^ j) T := by
  obtain ⟨z, rfl⟩ : ∃ z, P = 4294967296 ^ (j + 1) * z := ⟨P / 4294967296 ^ (j + 1), by have := Nat.div_add_mod P (4294967296 ^ (j + 1)); omega⟩
  apply List.ext_getElem
  · rw [List.length_set, digs_len, digs_len]
  · intro t h1 h2
    rw [List.length_set, digs_len] at h1
    rw [List.getElem_set]
    simp only [digs, List.getElem_map, List.getElem_range]
    have e : 4294967296 ^ (j + 1) * z + g * 4294967296 ^ j = (4294967296 * z + g) * 4294967296 ^ j := by
      rw [Nat.pow_succ, Nat.add_mul, Nat.mul_comm (4294967296 ^ j), Nat.mul_assoc, Nat.mul_comm (4294967296 ^ j) z, ← Nat.mul_assoc]
    by_cases htj : j = t
    · subst htj
      rw [if_pos rfl, e, Nat.mul_div_cancel _ (pow_posL j)]
      omega
    · rw [if_neg htj, e]
      rcases Nat.lt_or_ge t j with g1 | g1
      · obtain ⟨u, rfl⟩ : ∃ u, j = t + (u + 1) := ⟨j - t - 1, by omega⟩
        have e1 : (4294967296 * z + g) * 4294967296 ^ (t + (u + 1)) = 4294967296 ^ t * (4294967296 * ((4294967296 * z + g) * 4294967296 ^ u)) := by
          rw [Nat.pow_add, Nat.pow_succ, Nat.mul_left_comm, Nat.mul_comm (4294967296 ^ u), Nat.mul_left_comm (4294967296 * z + g)]
        have e2 : 4294967296 ^ (t + (u + 1) + 1) * z = 4294967296 ^ t * (4294967296 * (4294967296 ^ u * 4294967296 * z)) := by
          rw [show t + (u + 1) + 1 = t + (1 + (u + 1)) by omega, Nat.pow_add, Nat.pow_add, Nat.pow_one, Nat.pow_succ, Nat.mul_assoc, Nat.mul_assoc]
        rw [e1, e2, Nat.mul_div_cancel_left _ (pow_posL t), Nat.mul_div_cancel_left _ (pow_posL t), Nat.mul_mod_right, Nat.mul_mod_right]
      · obtain ⟨u, rfl⟩ : ∃ u, t = j + 1 + u := ⟨t - (j + 1), by omega⟩
        rw [Nat.pow_add 4294967296 (j + 1) u, ← Nat.div_div_eq_div_mul, ← Nat.div_div_eq_div_mul, Nat.mul_div_cancel_left _ (pow_posL (j + 1)), Nat.pow_succ, ← Nat.div_div_eq_div_mul, Nat.mul_div_cancel _ (pow_posL j), show (4294967296 * z + g) / 4294967296 = z by omega]
end Go.Proofs.YtgckfilmhnapeaaDoor

namespace Go.Proofs.YtgckfilmhnapeaaDoor
set_option linter.unusedVariables false

theorem digs_mod (N j : Nat) : digs 4294967296 (N % 4294967296 ^ j) j = digs 4294967296 N j := by
  have := digs_add (N % 4294967296 ^ j) (N / 4294967296 ^ j) j
  rw [← this, Nat.mod_add_div]
theorem mixD_congr (S P j T : Nat) (hj : j ≤ T) (h : ∃ a b, S + 4294967296 ^ j * a = P + 4294967296 ^ j * b) : mixD S P j T = digs 4294967296 P T := by
  obtain ⟨a, b, h⟩ := h
  rw [← mixD_start P j T hj]
  unfold mixD
  congr 1
  rw [← digs_add S a j, h, digs_add]
/-- digits above are noughts: what is cut off at j -/
theorem mixD_cut (S P j T : Nat) (hj : j ≤ T) (hP : P < 4294967296 ^ j) : mixD S P j T = digs 4294967296 (S % 4294967296 ^ j) T := by
  have h1 : mixD S P j T = mixD (S % 4294967296 ^ j) P j T := by
    unfold mixD
    rw [digs_mod]
  rw [h1]
  exact mixD_end _ _ _ _ hj (Nat.mod_lt _ (pow_posL j)) hP
theorem dig_shift (S j i : Nat) : S * 4294967296 ^ j / 4294967296 ^ (j + i) % 4294967296 = S / 4294967296 ^ i % 4294967296 := by
  rw [Nat.pow_add, Nat.mul_comm S, Nat.mul_div_mul_left _ _ (pow_posL j)]
theorem dig_high (X r k : Nat) : (X + 4294967296 ^ (k + 1 + r)) / 4294967296 ^ k % 4294967296 = X / 4294967296 ^ k % 4294967296 := by
  rw [show k + 1 + r = k + (r + 1) by omega, Nat.pow_add, Nat.add_mul_div_left _ _ (pow_posL k), Nat.pow_succ, Nat.mul_comm (4294967296 ^ r), Nat.add_mul_mod_self_left]
theorem carry_low (S D j : Nat) : carryL (S * 4294967296 ^ j) D j = 0 := by
  unfold carryL
  rw [Nat.mul_mod_left, Nat.zero_add]
  exact Nat.div_eq_of_lt (Nat.mod_lt _ (pow_posL j))
/-- one limb of what is taken off -/
theorem below_step (S D X j i r : Nat) (h : S * 4294967296 ^ j + D = X + 4294967296 ^ (j + i + 1 + r)) :
    (X / 4294967296 ^ (j + i) % 4294967296 < S / 4294967296 ^ i % 4294967296 + carryL (S * 4294967296 ^ j) D (j + i) →
      D / 4294967296 ^ (j + i) % 4294967296 + S / 4294967296 ^ i % 4294967296 + carryL (S * 4294967296 ^ j) D (j + i) = X / 4294967296 ^ (j + i) % 4294967296 + 4294967296 ∧ carryL (S * 4294967296 ^ j) D (j + i + 1) = 1) ∧
    (S / 4294967296 ^ i % 4294967296 + carryL (S * 4294967296 ^ j) D (j + i) ≤ X / 4294967296 ^ (j + i) % 4294967296 →
      D / 4294967296 ^ (j + i) % 4294967296 + S / 4294967296 ^ i % 4294967296 + carryL (S * 4294967296 ^ j) D (j + i) = X / 4294967296 ^ (j + i) % 4294967296 ∧ carryL (S * 4294967296 ^ j) D (j + i + 1) = 0) := by
  have := borrow_stepL (S * 4294967296 ^ j) D (j + i)
  simp only [h, dig_shift, dig_high] at this
  exact this
theorem below_last (S D X j N : Nat) (h : S * 4294967296 ^ j + D = X + 4294967296 ^ N) (hX : X < 4294967296 ^ N) (hS : S * 4294967296 ^ j < 4294967296 ^ N) :
    carryL (S * 4294967296 ^ j) D N = (if X < S * 4294967296 ^ j then 1 else 0) := by
  unfold carryL
  rw [Nat.mod_eq_of_lt hS]
  generalize S * 4294967296 ^ j = a at *
  generalize 4294967296 ^ N = P at *
  by_cases g : X < a
  · rw [if_pos g, Nat.mod_eq_of_lt (show D < P by omega), h, Nat.add_div_right _ (by omega), Nat.div_eq_of_lt hX]
  · rw [if_neg g]
    have e : D = (X - a) + P := by omega
    rw [e, Nat.add_mod_right, Nat.mod_eq_of_lt (by omega), show a + (X - a) = X by omega]
    exact Nat.div_eq_of_lt hX
/-- one limb of what is put on -/
theorem back_step (Y E j i : Nat) : (E / 4294967296 ^ (j + i) % 4294967296 + Y / 4294967296 ^ i % 4294967296 + carryL E (Y * 4294967296 ^ j) (j + i)) % 4294967296 = (E + Y * 4294967296 ^ j) / 4294967296 ^ (j + i) % 4294967296 ∧
    (E / 4294967296 ^ (j + i) % 4294967296 + Y / 4294967296 ^ i % 4294967296 + carryL E (Y * 4294967296 ^ j) (j + i)) / 4294967296 = carryL E (Y * 4294967296 ^ j) (j + i + 1) := by
  have := carry_stepL E (Y * 4294967296 ^ j) (j + i)
  rw [dig_shift] at this
  exact this
theorem carry_low2 (S D j : Nat) : carryL D (S * 4294967296 ^ j) j = 0 := by
  unfold carryL
  rw [Nat.mul_mod_left, Nat.add_zero]
  exact Nat.div_eq_of_lt (Nat.mod_lt _ (pow_posL j))
end Go.Proofs.YtgckfilmhnapeaaDoor

namespace Go.Proofs.YtgckfilmhnapeaaDoor
set_option linter.unusedVariables false

/-- what holds while a digit is guessed; k + 2: the divisor's limbs -/
structure GuessInv (R Y k gu re : Nat) : Prop where
  sum : gu * (Y / 4294967296 ^ (k + 1)) + re = R / 4294967296 ^ (k + 1)
  ge : R / Y ≤ gu
  le : gu ≤ 4294967297
  rest : re < 4294967296
def GuessEnd (R Y gu : Nat) : Prop := R / Y ≤ gu ∧ gu ≤ R / Y + 1 ∧ gu < 4294967296
theorem guess_start (R Y k : Nat) (hR : R < Y * 4294967296) (hh : 2147483648 ≤ Y / 4294967296 ^ (k + 1)) (hh2 : Y / 4294967296 ^ (k + 1) < 4294967296) :
    GuessInv R Y k (R / 4294967296 ^ (k + 1) / (Y / 4294967296 ^ (k + 1))) (R / 4294967296 ^ (k + 1) % (Y / 4294967296 ^ (k + 1))) ∧ R / 4294967296 ^ (k + 1) < (Y / 4294967296 ^ (k + 1) + 1) * 4294967296 := by
  have hY : 0 < Y := by
    rcases Nat.eq_zero_or_pos Y with h | h
    · subst h; rw [Nat.zero_div] at hh; omega
    · exact h
  have h1 := guess_first Y R (k + 1) hY (by omega)
  have hp := pow_posL (k + 1)
  have h2 := Nat.div_add_mod Y (4294967296 ^ (k + 1))
  have h3 := Nat.mod_lt Y hp
  have htop : R / 4294967296 ^ (k + 1) < (Y / 4294967296 ^ (k + 1) + 1) * 4294967296 := by
    rw [Nat.div_lt_iff_lt_mul hp]
    refine Nat.lt_of_lt_of_le hR ?_
    rw [Nat.mul_right_comm]
    refine Nat.mul_le_mul_right _ ?_
    rw [Nat.add_mul, Nat.one_mul, Nat.mul_comm]
    omega
  generalize htopE : R / 4294967296 ^ (k + 1) = top at *
  generalize hhigh : Y / 4294967296 ^ (k + 1) = high at *
  have h4 := Nat.div_add_mod top high
  have h5 := Nat.mod_lt top (show 0 < high by omega)
  refine ⟨⟨?_, h1, ?_, by omega⟩, htop⟩
  · rw [hhigh, htopE, Nat.mul_comm]; exact h4
  have : top / high < 4294967298 := by
    rw [Nat.div_lt_iff_lt_mul (by omega)]
    rw [Nat.add_mul] at htop
    omega
  omega
/-- the test: does it say that the guess is too great -/
theorem guess_test (R Y k gu re : Nat) (h : gu * (Y / 4294967296 ^ (k + 1)) + re = R / 4294967296 ^ (k + 1)) :
    (re * 4294967296 + R / 4294967296 ^ k % 4294967296 < gu * (Y / 4294967296 ^ k % 4294967296)) ↔ R / 4294967296 ^ k < gu * (Y / 4294967296 ^ k) := by
  have e1 := two_limbs Y k
  have e2 := two_limbs R k
  generalize R / 4294967296 ^ k % 4294967296 = x3 at *
  generalize Y / 4294967296 ^ k % 4294967296 = next at *
  generalize R / 4294967296 ^ k = r3 at *
  generalize Y / 4294967296 ^ k = y2 at *
  rw [e1, e2, ← h]
  generalize Y / 4294967296 ^ (k + 1) = high
  rw [Nat.mul_add, Nat.add_mul, ← Nat.mul_assoc]
  omega
/-- a guess too great is lowered: either the next test, or the end -/
theorem guess_down (R Y k gu re : Nat) (hR : R < Y * 4294967296) (hh : 2147483648 ≤ Y / 4294967296 ^ (k + 1)) (hh2 : Y / 4294967296 ^ (k + 1) < 4294967296) (h : GuessInv R Y k gu re)
    (ht : 4294967296 ≤ gu ∨ re * 4294967296 + R / 4294967296 ^ k % 4294967296 < gu * (Y / 4294967296 ^ k % 4294967296)) :
    1 ≤ gu ∧ re + Y / 4294967296 ^ (k + 1) < 8589934592 ∧ (re + Y / 4294967296 ^ (k + 1) < 4294967296 → GuessInv R Y k (gu - 1) (re + Y / 4294967296 ^ (k + 1))) ∧
    (4294967296 ≤ re + Y / 4294967296 ^ (k + 1) → GuessEnd R Y (gu - 1)) := by
  have hY : 0 < Y := by
    rcases Nat.eq_zero_or_pos Y with h | h
    · subst h; rw [Nat.zero_div] at hh; omega
    · exact h
  have hq := guess_top Y R 0 hR
  have h1 : R / Y + 1 ≤ gu := by
    rcases ht with ht | ht
    · omega
    · exact guess_less Y R k gu hY ((guess_test R Y k gu re h.sum).1 ht)
  have hp := pow_posL (k + 1)
  have htop := (guess_start R Y k hR hh hh2).2
  have hsum := h.sum
  have hle := h.le
  have hre := h.rest
  have hYle : 4294967296 ^ (k + 1) ≤ Y := by
    have := Nat.div_mul_le_self Y (4294967296 ^ (k + 1))
    have h2 : 1 * 4294967296 ^ (k + 1) ≤ Y / 4294967296 ^ (k + 1) * 4294967296 ^ (k + 1) := Nat.mul_le_mul_right _ (by omega)
    omega
  have h10 : 1 ≤ gu := Nat.le_trans (Nat.le_add_left 1 _) h1
  obtain ⟨g, rfl⟩ : ∃ g, gu = g + 1 := ⟨gu - 1, by omega⟩
  have hs2 : g * (Y / 4294967296 ^ (k + 1)) + (re + Y / 4294967296 ^ (k + 1)) = R / 4294967296 ^ (k + 1) := by
    rw [← hsum, Nat.add_mul, Nat.one_mul]; omega
  refine ⟨by omega, by omega, fun hlt => ⟨hs2, by omega, by omega, hlt⟩, fun hge => ?_⟩
  rw [Nat.add_sub_cancel]
  have hg : g < 4294967296 := by
    rcases Nat.lt_or_ge g 4294967296 with h2 | h2
    · exact h2
    · exfalso
      have h3 : 4294967296 * (Y / 4294967296 ^ (k + 1)) ≤ g * (Y / 4294967296 ^ (k + 1)) := Nat.mul_le_mul_right _ h2
      rw [Nat.add_mul] at htop
      omega
  refine ⟨by omega, ?_, hg⟩
  refine guess_near Y R k g hg hYle ?_
  have h4 := (guess_test R Y k g _ hs2)
  have h5 : g * (Y / 4294967296 ^ k % 4294967296) ≤ 4294967295 * 4294967295 := Nat.mul_le_mul (by omega) (by have := Nat.mod_lt (Y / 4294967296 ^ k) (show 0 < 4294967296 by decide); omega)
  have h6 : ¬ R / 4294967296 ^ k < g * (Y / 4294967296 ^ k) := fun hc => by
    have := h4.2 hc
    omega
  omega
theorem guess_stop (R Y k gu re : Nat) (hh : 2147483648 ≤ Y / 4294967296 ^ (k + 1)) (h : GuessInv R Y k gu re)
    (ht : gu < 4294967296) (ht2 : ¬ re * 4294967296 + R / 4294967296 ^ k % 4294967296 < gu * (Y / 4294967296 ^ k % 4294967296)) : GuessEnd R Y gu := by
  have hYle : 4294967296 ^ (k + 1) ≤ Y := by
    have := Nat.div_mul_le_self Y (4294967296 ^ (k + 1))
    have h2 : 1 * 4294967296 ^ (k + 1) ≤ Y / 4294967296 ^ (k + 1) * 4294967296 ^ (k + 1) := Nat.mul_le_mul_right _ (by omega)
    omega
  refine ⟨h.ge, guess_near Y R k gu ht hYle ?_, ht⟩
  have := guess_test R Y k gu re h.sum
  omega
/-- what is left behind a digit; W: the divisor, moved; P: above all -/
theorem digit_no (X W P D gu : Nat) (h1 : X / W ≤ gu) (h2 : gu ≤ X / W + 1) (hW : 0 < W) (hD : gu * W + D = X + P) (hX : X < P) (hle : gu * W ≤ X) : gu = X / W ∧ D % P = X % W := by
  have h3 : gu ≤ X / W := (Nat.le_div_iff_mul_le hW).2 hle
  have h4 : gu = X / W := by omega
  refine ⟨h4, ?_⟩
  have h5 := Nat.div_add_mod X W
  rw [← h4, Nat.mul_comm] at h5
  rw [show D = X % W + P by omega, Nat.add_mod_right]
  exact Nat.mod_eq_of_lt (Nat.lt_of_le_of_lt (Nat.mod_le _ _) hX)
theorem digit_yes (X W P D gu : Nat) (h1 : X / W ≤ gu) (h2 : gu ≤ X / W + 1) (hW : 0 < W) (hD : gu * W + D = X + P) (hX : X < P) (hgt : X < gu * W) : gu = X / W + 1 ∧ D < P ∧ (D % P + W) % P = X % W := by
  have h3 : X / W < gu := (Nat.div_lt_iff_lt_mul hW).2 hgt
  have h4 : gu = X / W + 1 := by omega
  have h6 : D < P := by omega
  refine ⟨h4, h6, ?_⟩
  have h5 := Nat.div_add_mod X W
  rw [h4, Nat.add_mul, Nat.one_mul, Nat.mul_comm] at hD
  rw [Nat.mod_eq_of_lt h6, show D + W = X % W + P by omega, Nat.add_mod_right]
  exact Nat.mod_eq_of_lt (Nat.lt_of_le_of_lt (Nat.mod_le _ _) hX)
theorem digit_room (X W P gu : Nat) (h2 : gu ≤ X / W + 1) (hWP : W ≤ P) : gu * W ≤ X + P := by
  have h3 := Nat.mul_le_mul_right W h2
  have h4 := Nat.div_mul_le_self X W
  rw [Nat.add_mul, Nat.one_mul] at h3
  omega
end Go.Proofs.YtgckfilmhnapeaaDoor
