/- Patterns as numbers, and the nearest one: plain Lean. -/
import Derived.Test.YtgckfilmhnapeaaDoorNumL
namespace Go.Proofs.YtgckfilmhnapeaaDoor
set_option linter.unusedVariables false

/-- the number of a size, in parts of the least pattern; f: the bits of the fraction -/
def pv (f s : Nat) : Nat := if s < 2 ^ f then s else (2 ^ f + s % 2 ^ f) * 2 ^ (s / 2 ^ f - 1)
/-- the step above a size -/
def ulp (f s : Nat) : Nat := 2 ^ (s / 2 ^ f - 1)
/-- twice the middle between a size and the next -/
def mid (f s : Nat) : Nat := pv f s + pv f (s + 1)
theorem ulp_pos (f s : Nat) : 0 < ulp f s := Nat.two_pow_pos _
theorem pv_of (f k c : Nat) (h1 : c ≤ 2 ^ (f + 1)) (h2 : c < 2 ^ f → k = 0) : pv f (k * 2 ^ f + c) = c * 2 ^ k := by
  have hp : 0 < 2 ^ f := Nat.two_pow_pos f
  rw [Nat.pow_succ] at h1
  unfold pv
  by_cases hc : c < 2 ^ f
  · rw [h2 hc, Nat.zero_mul, Nat.zero_add, if_pos hc, Nat.pow_zero, Nat.mul_one]
  · have h3 : ¬ k * 2 ^ f + c < 2 ^ f := by
      have : 0 ≤ k * 2 ^ f := Nat.zero_le _
      omega
    rw [if_neg h3]
    by_cases hd : c < 2 ^ f * 2
    · obtain ⟨r, rfl⟩ : ∃ r, c = 2 ^ f + r := ⟨c - 2 ^ f, by omega⟩
      have hr : r < 2 ^ f := by omega
      have e1 : k * 2 ^ f + (2 ^ f + r) = r + 2 ^ f * (k + 1) := by rw [Nat.mul_add, Nat.mul_comm k]; omega
      rw [e1, Nat.add_mul_mod_self_left, Nat.add_mul_div_left _ _ hp, Nat.mod_eq_of_lt hr, Nat.div_eq_of_lt hr, Nat.zero_add, Nat.add_sub_cancel]
    · have hd : c = 2 ^ f * 2 := by omega
      subst hd
      have e1 : k * 2 ^ f + 2 ^ f * 2 = 0 + 2 ^ f * (k + 2) := by rw [Nat.mul_add, Nat.mul_comm k]; omega
      rw [e1, Nat.add_mul_mod_self_left, Nat.add_mul_div_left _ _ hp, Nat.zero_mod, Nat.zero_div, Nat.add_zero, Nat.zero_add, show k + 2 - 1 = k + 1 by omega, Nat.pow_succ, Nat.mul_comm (2 ^ k), Nat.mul_assoc]
/-- each size as a power's step and what is kept -/
theorem size_parts (f s : Nat) : ∃ k c, s = k * 2 ^ f + c ∧ c < 2 ^ (f + 1) ∧ (c < 2 ^ f → k = 0) ∧ s / 2 ^ f - 1 = k := by
  have hp : 0 < 2 ^ f := Nat.two_pow_pos f
  by_cases h : s < 2 ^ f
  · exact ⟨0, s, by omega, by rw [Nat.pow_succ]; omega, fun _ => rfl, by rw [Nat.div_eq_of_lt h]⟩
  · have h1 := Nat.div_add_mod s (2 ^ f)
    have h2 := Nat.mod_lt s hp
    have h3 : 1 ≤ s / 2 ^ f := (Nat.le_div_iff_mul_le hp).2 (by omega)
    refine ⟨s / 2 ^ f - 1, 2 ^ f + s % 2 ^ f, ?_, by rw [Nat.pow_succ]; omega, fun h => by omega, rfl⟩
    rw [Nat.sub_mul, Nat.mul_comm (s / 2 ^ f), Nat.one_mul]
    have h4 : 2 ^ f * 1 ≤ 2 ^ f * (s / 2 ^ f) := Nat.mul_le_mul_left _ h3
    omega
theorem pv_succ (f s : Nat) : pv f (s + 1) = pv f s + ulp f s := by
  obtain ⟨k, c, h1, h2, h3, h4⟩ := size_parts f s
  unfold ulp
  rw [h4, h1, Nat.add_assoc, pv_of f k (c + 1) (by omega) (fun h => h3 (by omega)), pv_of f k c (by omega) h3, Nat.add_mul, Nat.one_mul]
theorem mid_eq (f s : Nat) : mid f s = 2 * pv f s + ulp f s := by unfold mid; rw [pv_succ]; omega
theorem pv_zero (f : Nat) : pv f 0 = 0 := by unfold pv; rw [if_pos (Nat.two_pow_pos f)]
theorem pv_lt (f : Nat) {s t : Nat} (h : s < t) : pv f s < pv f t := by
  induction t with
  | zero => omega
  | succ t ih =>
    have h1 := pv_succ f t
    have h2 := ulp_pos f t
    rcases Nat.lt_or_ge s t with g | g
    · have := ih g; omega
    · obtain rfl : s = t := by omega
      omega
theorem pv_le (f : Nat) {s t : Nat} (h : s ≤ t) : pv f s ≤ pv f t := by
  rcases Nat.lt_or_ge s t with g | g
  · exact Nat.le_of_lt (pv_lt f g)
  · obtain rfl : s = t := by omega
    exact Nat.le_refl _
theorem mid_lt (f : Nat) {s t : Nat} (h : s < t) : mid f s < mid f t := by
  have h1 := pv_lt f h
  have h2 := pv_lt f (show s + 1 < t + 1 by omega)
  unfold mid
  omega
theorem mid_le (f : Nat) {s t : Nat} (h : s ≤ t) : mid f s ≤ mid f t := by
  rcases Nat.lt_or_ge s t with g | g
  · exact Nat.le_of_lt (mid_lt f g)
  · obtain rfl : s = t := by omega
    exact Nat.le_refl _

/-- s is the size of the nearest pattern to A / B (in parts of the least pattern); of two the even one; inf: the infinite one -/
structure Near (f inf s A B : Nat) : Prop where
  le : s ≤ inf
  lo : s ≠ 0 → mid f (s - 1) * B ≤ 2 * A
  lo' : s ≠ 0 → s % 2 = 1 → mid f (s - 1) * B < 2 * A
  hi : s ≠ inf → 2 * A ≤ mid f s * B
  hi' : s ≠ inf → s % 2 = 1 → 2 * A < mid f s * B
theorem Near.mono {f inf s t A B C D : Nat} (h1 : Near f inf s A B) (h2 : Near f inf t C D) (hB : 0 < B) (hD : 0 < D) (h : A * D ≤ C * B) : s ≤ t := by
  rcases Nat.lt_or_ge t s with g | g
  · exfalso
    have hs0 : s ≠ 0 := by omega
    have ht0 : t ≠ inf := by have := h1.le; omega
    have h4 : mid f t ≤ mid f (s - 1) := mid_le f (by omega)
    have a1 := h1.lo hs0
    have a2 := h2.hi ht0
    have a3 := h1.lo' hs0
    have a4 := h2.hi' ht0
    have hinj : mid f t = mid f (s - 1) → t = s - 1 := fun e => by
      rcases Nat.lt_or_ge t (s - 1) with g2 | g2
      · have := mid_lt f g2; omega
      · omega
    generalize mid f t = Y at *
    generalize mid f (s - 1) = X at *
    have b1 : X * B * D ≤ 2 * A * D := Nat.mul_le_mul_right _ a1
    have b2 : 2 * C * B ≤ Y * D * B := Nat.mul_le_mul_right _ a2
    have e1 : 2 * A * D = 2 * (A * D) := Nat.mul_assoc _ _ _
    have e2 : 2 * C * B = 2 * (C * B) := Nat.mul_assoc _ _ _
    have e3 : X * B * D = X * (B * D) := Nat.mul_assoc _ _ _
    have e4 : Y * D * B = Y * (B * D) := by rw [Nat.mul_assoc, Nat.mul_comm D]
    have hBD : 0 < B * D := Nat.mul_pos hB hD
    have b3 : X * (B * D) ≤ Y * (B * D) := by omega
    have b4 : X ≤ Y := Nat.le_of_mul_le_mul_right b3 hBD
    have b5 : t = s - 1 := hinj (by omega)
    have b6 : Y * (B * D) = X * (B * D) := by rw [show Y = X by omega]
    rcases Nat.mod_two_eq_zero_or_one s with p | p
    · have b7 := Nat.mul_lt_mul_of_pos_right (a4 (by omega)) hB
      omega
    · have b7 := Nat.mul_lt_mul_of_pos_right (a3 p) hD
      omega
  · exact g
theorem Near.unique {f inf s t A B : Nat} (h1 : Near f inf s A B) (h2 : Near f inf t A B) (hB : 0 < B) : s = t :=
  Nat.le_antisymm (h1.mono h2 hB hB (Nat.le_refl _)) (h2.mono h1 hB hB (Nat.le_refl _))
/-- no middle lies between the two, and none on just one of them -/
def SameCell (f inf A B C D : Nat) : Prop := ∀ j, j < inf → (mid f j * B < 2 * A ↔ mid f j * D < 2 * C) ∧ (2 * A < mid f j * B ↔ 2 * C < mid f j * D)
theorem Near.cell {f inf s A B C D : Nat} (h : Near f inf s A B) (hc : SameCell f inf A B C D) : Near f inf s C D := by
  refine ⟨h.le, fun h0 => ?_, fun h0 p => ?_, fun h0 => ?_, fun h0 p => ?_⟩
  · have := h.lo h0
    have c := hc (s - 1) (by have := h.le; omega)
    by_cases g : 2 * C < mid f (s - 1) * D
    · have := c.2.2 g; omega
    · omega
  · exact (hc (s - 1) (by have := h.le; omega)).1.1 (h.lo' h0 p)
  · have := h.hi h0
    have c := hc s (by have := h.le; omega)
    by_cases g : mid f s * D < 2 * C
    · have := c.1.2 g; omega
    · omega
  · exact (hc s (by have := h.le; omega)).2.1 (h.hi' h0 p)

/-- m / 2^D rounded to a whole number, of two to the even one -/
def rne (m D : Nat) : Nat :=
  if 2 * (m % 2 ^ D) < 2 ^ D then m / 2 ^ D else if 2 ^ D < 2 * (m % 2 ^ D) then m / 2 ^ D + 1 else m / 2 ^ D + m / 2 ^ D % 2
theorem rne_hi (m D : Nat) : 2 * m ≤ (2 * rne m D + 1) * 2 ^ D ∧ (rne m D % 2 = 1 → 2 * m < (2 * rne m D + 1) * 2 ^ D) := by
  have h1 := Nat.div_add_mod m (2 ^ D)
  have h2 := Nat.mod_lt m (Nat.two_pow_pos D)
  unfold rne
  generalize 2 ^ D = P at *
  generalize m % P = r at *
  generalize m / P = q at *
  have e : ∀ z, (2 * z + 1) * P = 2 * (P * z) + P := fun z => by rw [Nat.add_mul, Nat.one_mul, Nat.mul_assoc, Nat.mul_comm z]
  have e2 : P * (q + 1) = P * q + P := by rw [Nat.mul_add, Nat.mul_one]
  split
  · rw [e]; omega
  · split
    · rw [e, e2]; omega
    · rcases Nat.mod_two_eq_zero_or_one q with g | g
      · rw [show q + q % 2 = q by omega, e]; omega
      · rw [show q + q % 2 = q + 1 by omega, e, e2]; omega
theorem rne_lo (m D : Nat) : 2 * (rne m D * 2 ^ D) ≤ 2 * m + 2 ^ D ∧ (rne m D % 2 = 1 → 2 * (rne m D * 2 ^ D) < 2 * m + 2 ^ D) := by
  have h1 := Nat.div_add_mod m (2 ^ D)
  have h2 := Nat.mod_lt m (Nat.two_pow_pos D)
  unfold rne
  generalize 2 ^ D = P at *
  generalize m % P = r at *
  generalize m / P = q at *
  have e2 : P * (q + 1) = P * q + P := by rw [Nat.mul_add, Nat.mul_one]
  split
  · rw [Nat.mul_comm q]; omega
  · split
    · rw [Nat.mul_comm (q + 1), e2]; omega
    · rcases Nat.mod_two_eq_zero_or_one q with g | g
      · rw [show q + q % 2 = q by omega, Nat.mul_comm q]; omega
      · rw [show q + q % 2 = q + 1 by omega, Nat.mul_comm (q + 1), e2]; omega
theorem rne_ge (m D c : Nat) (h : c * 2 ^ D ≤ m) : c ≤ rne m D := by
  have h1 : c ≤ m / 2 ^ D := (Nat.le_div_iff_mul_le (Nat.two_pow_pos D)).2 h
  unfold rne
  split
  · exact h1
  · split <;> omega
theorem rne_le (m D c : Nat) (h : m ≤ c * 2 ^ D) : rne m D ≤ c := by
  rcases Nat.lt_or_ge m (c * 2 ^ D) with g | g
  · have h1 : m / 2 ^ D < c := (Nat.div_lt_iff_lt_mul (Nat.two_pow_pos D)).2 g
    unfold rne
    have := Nat.mod_lt (m / 2 ^ D) (show 0 < 2 by decide)
    split
    · omega
    · split <;> omega
  · obtain rfl : m = c * 2 ^ D := by omega
    unfold rne
    rw [Nat.mul_mod_left, Nat.mul_div_cancel _ (Nat.two_pow_pos D), if_pos (by have := Nat.two_pow_pos D; omega)]
    exact Nat.le_refl _
theorem rne_zero (m : Nat) : rne m 0 = m := by unfold rne; rw [Nat.pow_zero, Nat.mod_one, Nat.div_one]; rfl

/-- rounding to a step 2^K that fits the number is rounding to the nearest pattern -/
theorem rne_near (f inf m K D A B : Nat) (hf : 1 ≤ f) (hB : 0 < B) (hX : A * 2 ^ D = m * 2 ^ K * B) (h1 : m ≤ 2 ^ (f + 1) * 2 ^ D) (h2 : m < 2 ^ f * 2 ^ D → K = 0)
    (hi : K * 2 ^ f + rne m D ≤ inf) : Near f inf (K * 2 ^ f + rne m D) A B := by
  have hD : 0 < 2 ^ D := Nat.two_pow_pos D
  have hK : 0 < 2 ^ K := Nat.two_pow_pos K
  have g1 := rne_hi m D
  have g2 := rne_lo m D
  have g3 : rne m D ≤ 2 ^ (f + 1) := rne_le m D _ h1
  have g4 : rne m D < 2 ^ f → K = 0 := fun h => h2 (by
    rcases Nat.lt_or_ge m (2 ^ f * 2 ^ D) with g | g
    · exact g
    · have := rne_ge m D _ g; omega)
  have hpar : (K * 2 ^ f + rne m D) % 2 = rne m D % 2 := by
    obtain ⟨g, rfl⟩ : ∃ g, f = g + 1 := ⟨f - 1, by omega⟩
    rw [Nat.pow_succ, ← Nat.mul_assoc, Nat.mul_comm _ 2]
    omega
  have hv : pv f (K * 2 ^ f + rne m D) = rne m D * 2 ^ K := pv_of f K _ g3 g4
  have hu : 2 ^ K ≤ ulp f (K * 2 ^ f + rne m D) := by
    unfold ulp
    refine Nat.pow_le_pow_right (by decide) ?_
    by_cases hc : rne m D < 2 ^ f
    · rw [g4 hc]; exact Nat.zero_le _
    · have : K + 1 ≤ (K * 2 ^ f + rne m D) / 2 ^ f := (Nat.le_div_iff_mul_le (Nat.two_pow_pos f)).2 (by rw [Nat.add_mul, Nat.one_mul]; omega)
      omega
  -- 2 A 2^D = 2 m 2^K B
  have e0 : 2 * A * 2 ^ D = 2 * m * (2 ^ K * B) := by rw [Nat.mul_assoc, hX, Nat.mul_assoc m, ← Nat.mul_assoc 2 m]
  have hm2 := mid_eq f (K * 2 ^ f + rne m D)
  have hKB : 0 < 2 ^ K * B := Nat.mul_pos hK hB
  have lowmid : K * 2 ^ f + rne m D ≠ 0 → mid f (K * 2 ^ f + rne m D - 1) * B * 2 ^ D ≤ 2 * A * 2 ^ D ∧ (rne m D % 2 = 1 → mid f (K * 2 ^ f + rne m D - 1) * B * 2 ^ D < 2 * A * 2 ^ D) := by
    intro h0
    by_cases hc : K = 0 ∨ 2 ^ f < rne m D
    · have hc1 : 1 ≤ rne m D := by
        rcases hc with hc | hc
        · subst hc; rw [Nat.zero_mul] at h0; omega
        · omega
      obtain ⟨c, hcc⟩ : ∃ c, rne m D = c + 1 := ⟨rne m D - 1, by omega⟩
      rw [hcc] at g2 g3 hv ⊢
      have hv2 : pv f (K * 2 ^ f + c) = c * 2 ^ K := pv_of f K c (by omega) (fun h => by
        rcases hc with hc | hc
        · exact hc
        · omega)
      have hmid : mid f (K * 2 ^ f + (c + 1) - 1) = (2 * c + 1) * 2 ^ K := by
        rw [show K * 2 ^ f + (c + 1) - 1 = K * 2 ^ f + c by omega]
        unfold mid
        rw [Nat.add_assoc, hv, hv2, Nat.add_mul, Nat.add_mul, Nat.mul_assoc]
        omega
      rw [hmid, e0]
      have e1 : (2 * c + 1) * 2 ^ K * B * 2 ^ D = (2 * c + 1) * 2 ^ D * (2 ^ K * B) := by
        rw [Nat.mul_assoc, Nat.mul_assoc, Nat.mul_assoc (2 * c + 1)]
        congr 1
        rw [← Nat.mul_assoc, Nat.mul_comm]
      rw [e1]
      have e2 : (2 * c + 1) * 2 ^ D ≤ 2 * m ∧ ((c + 1) % 2 = 1 → (2 * c + 1) * 2 ^ D < 2 * m) := by
        have : (2 * c + 1) * 2 ^ D + 2 ^ D = 2 * ((c + 1) * 2 ^ D) := by
          rw [Nat.add_mul, Nat.add_mul, Nat.one_mul, Nat.mul_assoc]; omega
        constructor
        · have := g2.1; omega
        · intro p; have := g2.2 p; omega
      exact ⟨Nat.mul_le_mul_right _ e2.1, fun p => Nat.mul_lt_mul_of_pos_right (e2.2 p) hKB⟩
    · have hc1 : 2 ^ f ≤ rne m D := by
        rcases Nat.lt_or_ge (rne m D) (2 ^ f) with g | g
        · exact absurd (Or.inl (g4 g)) hc
        · exact g
      have hc2 : rne m D = 2 ^ f := by
        have : ¬ 2 ^ f < rne m D := fun h => hc (Or.inr h)
        omega
      have hm3 : 2 ^ f * 2 ^ D ≤ m := by
        rcases Nat.lt_or_ge m (2 ^ f * 2 ^ D) with g | g
        · exact absurd (Or.inl (h2 g)) hc
        · exact g
      have h5 : mid f (K * 2 ^ f + rne m D - 1) < 2 * (rne m D * 2 ^ K) := by
        rw [← hv]
        unfold mid
        rw [show K * 2 ^ f + rne m D - 1 + 1 = K * 2 ^ f + rne m D by omega]
        have := pv_lt f (show K * 2 ^ f + rne m D - 1 < K * 2 ^ f + rne m D by omega)
        omega
      have h6 : mid f (K * 2 ^ f + rne m D - 1) * B * 2 ^ D < 2 * (rne m D * 2 ^ K) * B * 2 ^ D := Nat.mul_lt_mul_of_pos_right (Nat.mul_lt_mul_of_pos_right h5 hB) hD
      have h7 : 2 * (rne m D * 2 ^ K) * B * 2 ^ D ≤ 2 * A * 2 ^ D := by
        rw [e0, hc2]
        have : 2 * (2 ^ f * 2 ^ K) * B * 2 ^ D = 2 * (2 ^ f * 2 ^ D) * (2 ^ K * B) := by
          rw [Nat.mul_assoc, Nat.mul_assoc 2, Nat.mul_assoc 2, Nat.mul_assoc, Nat.mul_assoc]
          congr 2
          rw [← Nat.mul_assoc, Nat.mul_comm]
        rw [this]
        exact Nat.mul_le_mul_right _ (Nat.mul_le_mul_left _ hm3)
      exact ⟨Nat.le_of_lt (Nat.lt_of_lt_of_le h6 h7), fun _ => Nat.lt_of_lt_of_le h6 h7⟩
  have himid : 2 * A * 2 ^ D ≤ mid f (K * 2 ^ f + rne m D) * B * 2 ^ D ∧ (rne m D % 2 = 1 → 2 * A * 2 ^ D < mid f (K * 2 ^ f + rne m D) * B * 2 ^ D) := by
    have h5 : (2 * rne m D + 1) * 2 ^ K ≤ mid f (K * 2 ^ f + rne m D) := by
      rw [hm2, hv, Nat.add_mul, Nat.one_mul, Nat.mul_assoc]; omega
    have h6 : (2 * rne m D + 1) * 2 ^ D * (2 ^ K * B) ≤ mid f (K * 2 ^ f + rne m D) * B * 2 ^ D := by
      have e1 : (2 * rne m D + 1) * 2 ^ K * B * 2 ^ D = (2 * rne m D + 1) * 2 ^ D * (2 ^ K * B) := by
        rw [Nat.mul_assoc, Nat.mul_assoc, Nat.mul_assoc (2 * rne m D + 1)]
        congr 1
        rw [← Nat.mul_assoc, Nat.mul_comm]
      rw [← e1]
      exact Nat.mul_le_mul_right _ (Nat.mul_le_mul_right _ h5)
    rw [e0]
    exact ⟨Nat.le_trans (Nat.mul_le_mul_right _ g1.1) h6, fun p => Nat.lt_of_lt_of_le (Nat.mul_lt_mul_of_pos_right (g1.2 p) hKB) h6⟩
  exact ⟨hi, fun h0 => Nat.le_of_mul_le_mul_right (lowmid h0).1 hD, fun h0 p => Nat.lt_of_mul_lt_mul_right ((lowmid h0).2 (by omega)), fun _ => Nat.le_of_mul_le_mul_right himid.1 hD, fun _ p => Nat.lt_of_mul_lt_mul_right (himid.2 (by omega))⟩
/-- what is as great as the infinite pattern's place -/
theorem near_inf (f inf A B : Nat) (hB : 0 < B) (h : pv f inf * B ≤ A) : Near f inf inf A B := by
  have key : inf ≠ 0 → mid f (inf - 1) * B ≤ 2 * A := fun h0 => by
    have h1 : mid f (inf - 1) ≤ 2 * pv f inf := by
      unfold mid
      rw [show inf - 1 + 1 = inf by omega]
      have := pv_le f (show inf - 1 ≤ inf by omega)
      omega
    have h2 := Nat.mul_le_mul_right B h1
    rw [Nat.mul_assoc] at h2
    omega
  refine ⟨Nat.le_refl _, key, fun h0 p => ?_, fun h => absurd rfl h, fun h => absurd rfl h⟩
  have h1 : mid f (inf - 1) < 2 * pv f inf := by
    unfold mid
    rw [show inf - 1 + 1 = inf by omega]
    have := pv_lt f (show inf - 1 < inf by omega)
    omega
  have h2 := Nat.mul_lt_mul_of_pos_right h1 hB
  rw [Nat.mul_assoc] at h2
  omega
theorem near_zero (f inf A B : Nat) (hi : inf ≠ 0) (h : 2 * A ≤ B) : Near f inf 0 A B := by
  refine ⟨Nat.zero_le _, fun h => absurd rfl h, fun h => absurd rfl h, fun _ => ?_, fun _ h => by omega⟩
  rw [mid_eq, pv_zero, Nat.mul_zero, Nat.zero_add]
  have := Nat.mul_le_mul_right B (ulp_pos f 0)
  rw [Nat.succ_mul] at this
  omega
end Go.Proofs.YtgckfilmhnapeaaDoor

namespace Go.Proofs.YtgckfilmhnapeaaDoor
set_option linter.unusedVariables false

theorem lt_blen (m : Nat) : m < 2 ^ blen m := (blen_iff m _).1 (Nat.le_refl _)
theorem blen_pos (m : Nat) (hm : m ≠ 0) : 0 < blen m := by
  rcases Nat.eq_zero_or_pos (blen m) with h | h
  · have := lt_blen m; rw [h] at this; omega
  · exact h
theorem blen_ge (m : Nat) (hm : m ≠ 0) : 2 ^ (blen m - 1) ≤ m := by
  have h := blen_pos m hm
  rcases Nat.lt_or_ge m (2 ^ (blen m - 1)) with g | g
  · have := (blen_iff m _).2 g; omega
  · exact g
/-- the step at which m times 2^E is rounded -/
def stepK (f m : Nat) (E : Int) : Nat := ((blen m : Int) - f - 1 + E).toNat
/-- the size that m times 2^E (in parts of the least pattern) is rounded to; W + 1: the exponent of the infinite one -/
def rndS (f W m : Nat) (E : Int) : Nat :=
  if W ≤ stepK f m E then (W + 1) * 2 ^ f
  else stepK f m E * 2 ^ f + (if (stepK f m E : Int) ≤ E then m * 2 ^ (E - stepK f m E).toNat else rne m (stepK f m E - E).toNat)
theorem pv_inf (f W : Nat) : pv f ((W + 1) * 2 ^ f) = 2 ^ f * 2 ^ W := by
  rw [Nat.add_mul, Nat.one_mul]
  exact pv_of f W _ (Nat.pow_le_pow_right (by decide) (by omega)) (fun h => absurd h (Nat.lt_irrefl _))
theorem rndS_near (f W m : Nat) (E : Int) (hf : 1 ≤ f) (hW : 1 ≤ W) (hm : m ≠ 0) : Near f ((W + 1) * 2 ^ f) (rndS f W m E) (m * 2 ^ E.toNat) (2 ^ (-E).toNat) := by
  have h1 := lt_blen m
  have h2 := blen_ge m hm
  have h3 := blen_pos m hm
  unfold rndS
  obtain ⟨K, hK⟩ : ∃ K, stepK f m E = K := ⟨_, rfl⟩
  have hK' : K = ((blen m : Int) - f - 1 + E).toNat := hK.symm
  rw [hK]
  generalize blen m = n at *
  have hp : ∀ a b : Nat, a ≤ b → 2 ^ a ≤ 2 ^ b := fun a b h => Nat.pow_le_pow_right (by decide) h
  by_cases hi : W ≤ K
  · rw [if_pos hi]
    refine near_inf _ _ _ _ (Nat.two_pow_pos _) ?_
    rw [pv_inf, ← Nat.pow_add, ← Nat.pow_add]
    refine Nat.le_trans (hp _ (n - 1 + E.toNat) (by omega)) ?_
    rw [Nat.pow_add]
    exact Nat.mul_le_mul_right _ h2
  · rw [if_neg hi]
    have hbd : ∀ c, c ≤ 2 ^ (f + 1) → K * 2 ^ f + c ≤ (W + 1) * 2 ^ f := fun c hc => by
      have : (K + 2) * 2 ^ f ≤ (W + 1) * 2 ^ f := Nat.mul_le_mul_right _ (by omega)
      rw [Nat.add_mul] at this
      rw [Nat.pow_succ] at hc
      omega
    by_cases hE : (K : Int) ≤ E
    · rw [if_pos hE]
      have e1 : (-E).toNat = 0 := by omega
      have a1 : m * 2 ^ (E - K).toNat ≤ 2 ^ (f + 1) := by
        have : m * 2 ^ (E - K).toNat ≤ 2 ^ n * 2 ^ (E - K).toNat := Nat.mul_le_mul_right _ (Nat.le_of_lt h1)
        rw [← Nat.pow_add] at this
        exact Nat.le_trans this (hp _ _ (by omega))
      have a2 : m * 2 ^ (E - K).toNat < 2 ^ f → K = 0 := fun h => by
        rcases Nat.eq_zero_or_pos K with h0 | h0
        · exact h0
        · exfalso
          have : 2 ^ (n - 1) * 2 ^ (E - K).toNat ≤ m * 2 ^ (E - K).toNat := Nat.mul_le_mul_right _ h2
          rw [← Nat.pow_add] at this
          have := hp f (n - 1 + (E - K).toNat) (by omega)
          omega
      have := rne_near f ((W + 1) * 2 ^ f) (m * 2 ^ (E - K).toNat) K 0 (m * 2 ^ E.toNat) (2 ^ (-E).toNat) hf (Nat.two_pow_pos _)
        (by rw [e1, Nat.pow_zero, Nat.mul_one, Nat.mul_one, Nat.mul_assoc, ← Nat.pow_add]; congr 2; omega)
        (by rw [Nat.pow_zero, Nat.mul_one]; exact a1) (by rw [Nat.pow_zero, Nat.mul_one]; exact a2) (by rw [rne_zero]; exact hbd _ a1)
      rw [rne_zero] at this
      exact this
    · rw [if_neg hE]
      have a1 : m ≤ 2 ^ (f + 1) * 2 ^ (K - E).toNat := by
        rw [← Nat.pow_add]
        exact Nat.le_trans (Nat.le_of_lt h1) (hp _ _ (by omega))
      have a2 : m < 2 ^ f * 2 ^ (K - E).toNat → K = 0 := fun h => by
        rcases Nat.eq_zero_or_pos K with h0 | h0
        · exact h0
        · exfalso
          rw [← Nat.pow_add] at h
          have := hp (f + (K - E).toNat) (n - 1) (by omega)
          omega
      refine rne_near f _ m K _ _ _ hf (Nat.two_pow_pos _) ?_ a1 a2 (hbd _ (rne_le m _ _ a1))
      rw [Nat.mul_assoc, ← Nat.pow_add, Nat.mul_assoc, ← Nat.pow_add]
      congr 2
      omega
/-- far above all patterns -/
theorem near_far (f W A B : Nat) (h : 2 ^ (f + W) * B ≤ A) (hB : 0 < B) : Near f ((W + 1) * 2 ^ f) ((W + 1) * 2 ^ f) A B := by
  refine near_inf _ _ _ _ hB ?_
  rw [pv_inf, ← Nat.pow_add]; exact h
/-- a middle has few digits of base 2 -/
theorem mid_parts (f j : Nat) : ∃ k c, mid f j = c * 2 ^ k ∧ c < 2 ^ (f + 2) := by
  obtain ⟨k, c, h1, h2, h3, h4⟩ := size_parts f j
  refine ⟨k, 2 * c + 1, ?_, by rw [Nat.pow_succ]; omega⟩
  rw [mid_eq]
  unfold ulp
  rw [h4, h1, pv_of f k c (by omega) h3, Nat.add_mul, Nat.one_mul, Nat.mul_assoc]
theorem not_between (q N M z : Nat) (h : M = z * N) (h1 : q * N < M) : (q + 1) * N ≤ M := by
  subst h
  refine Nat.mul_le_mul_right _ ?_
  exact Nat.lt_of_mul_lt_mul_right h1
/-- no middle lies within (q, q + 1) / 2^up, for a great q -/
theorem mid_gap2 (f l up q j : Nat) (hq : 2 ^ (f + 1) ≤ q) : mid f j * 2 ^ up ≤ q * 2 ^ (l + 1) ∨ (q + 1) * 2 ^ (l + 1) ≤ mid f j * 2 ^ up := by
  obtain ⟨k, c, h1, h2⟩ := mid_parts f j
  rw [h1, Nat.mul_assoc, ← Nat.pow_add]
  by_cases h : l + 1 ≤ k + up
  · rcases Nat.lt_or_ge (q * 2 ^ (l + 1)) (c * 2 ^ (k + up)) with g | g
    · right
      refine not_between q _ _ (c * 2 ^ (k + up - (l + 1))) ?_ g
      rw [Nat.mul_assoc, ← Nat.pow_add]
      congr 2
      omega
    · exact .inl g
  · left
    have h3 : 2 ^ (k + up) ≤ 2 ^ l := Nat.pow_le_pow_right (by decide) (by omega)
    have h4 : c * 2 ^ (k + up) ≤ 2 ^ (f + 2) * 2 ^ l := Nat.mul_le_mul (Nat.le_of_lt h2) h3
    have h5 : 2 ^ (f + 1) * 2 ^ (l + 1) ≤ q * 2 ^ (l + 1) := Nat.mul_le_mul_right _ hq
    rw [← Nat.pow_add] at h4 h5
    rw [show f + 2 + l = f + 1 + (l + 1) by omega] at h4
    omega
/-- no middle lies within (m, m + 1) / 10^P, for a great m -/
theorem mid_gap10 (f l P m j : Nat) (hm : 2 ^ (f + 1) * 5 ^ l ≤ m) : mid f j * 10 ^ P ≤ m * 2 ^ (l + 1) ∨ (m + 1) * 2 ^ (l + 1) ≤ mid f j * 10 ^ P := by
  obtain ⟨k, c, h1, h2⟩ := mid_parts f j
  have e : c * 2 ^ k * 10 ^ P = c * 5 ^ P * 2 ^ (k + P) := by
    rw [show (10 : Nat) = 2 * 5 from rfl, Nat.mul_pow, Nat.pow_add, Nat.mul_assoc, Nat.mul_assoc, ← Nat.mul_assoc (2 ^ k), Nat.mul_comm (2 ^ k * 2 ^ P)]
  rw [h1, e]
  by_cases h : l + 1 ≤ k + P
  · rcases Nat.lt_or_ge (m * 2 ^ (l + 1)) (c * 5 ^ P * 2 ^ (k + P)) with g | g
    · right
      refine not_between m _ _ (c * 5 ^ P * 2 ^ (k + P - (l + 1))) ?_ g
      rw [Nat.mul_assoc (c * 5 ^ P), ← Nat.pow_add]
      congr 2
      omega
    · exact .inl g
  · left
    have h3 : 2 ^ (k + P) ≤ 2 ^ l := Nat.pow_le_pow_right (by decide) (by omega)
    have h6 : 5 ^ P ≤ 5 ^ l := Nat.pow_le_pow_right (by decide) (by omega)
    have h4 : c * 5 ^ P * 2 ^ (k + P) ≤ 2 ^ (f + 2) * 5 ^ l * 2 ^ l := Nat.mul_le_mul (Nat.mul_le_mul (Nat.le_of_lt h2) h6) h3
    have h5 : 2 ^ (f + 1) * 5 ^ l * 2 ^ (l + 1) ≤ m * 2 ^ (l + 1) := Nat.mul_le_mul_right _ hm
    have h7 : 2 ^ (f + 2) * 5 ^ l * 2 ^ l = 2 ^ (f + 1) * 5 ^ l * 2 ^ (l + 1) := by
      rw [show f + 2 = f + 1 + 1 by omega, Nat.pow_succ, Nat.pow_succ 2 l]
      generalize 2 ^ (f + 1) = a
      generalize 2 ^ l = b
      generalize 5 ^ l = d
      rw [Nat.mul_assoc, Nat.mul_assoc, Nat.mul_assoc, Nat.mul_left_comm 2 d, Nat.mul_comm 2 b]
    omega
end Go.Proofs.YtgckfilmhnapeaaDoor

namespace Go.Proofs.YtgckfilmhnapeaaDoor
set_option linter.unusedVariables false

theorem lt_cross {x B y B' y' : Nat} (hB : 0 < B) (hB' : 0 < B') (e : y * B' = y' * B) : (x * B < y ↔ x * B' < y') ∧ (y < x * B ↔ y' < x * B') := by
  have e1 : x * B * B' = x * B' * B := Nat.mul_right_comm _ _ _
  constructor
  · rw [← Nat.mul_lt_mul_right hB', e1, e, Nat.mul_lt_mul_right hB]
  · rw [← Nat.mul_lt_mul_right hB', e1, e, Nat.mul_lt_mul_right hB]
theorem Near.scale {f inf s A B A' B' : Nat} (h : Near f inf s A B) (hB : 0 < B) (hB' : 0 < B') (e : A * B' = A' * B) : Near f inf s A' B' :=
  h.cell fun j _ => lt_cross hB hB' (by rw [Nat.mul_assoc, e, Nat.mul_assoc])
theorem SameCell.trans {f inf A B C D E F : Nat} (h : SameCell f inf A B C D) (g : SameCell f inf C D E F) : SameCell f inf A B E F :=
  fun j hj => ⟨(h j hj).1.trans (g j hj).1, (h j hj).2.trans (g j hj).2⟩
theorem SameCell.symm {f inf A B C D : Nat} (h : SameCell f inf A B C D) : SameCell f inf C D A B :=
  fun j hj => ⟨(h j hj).1.symm, (h j hj).2.symm⟩
theorem twice_pow (a l : Nat) : 2 * (a * 2 ^ l) = a * 2 ^ (l + 1) := by rw [Nat.pow_succ, Nat.mul_left_comm, Nat.mul_comm 2 (2 ^ l)]
/-- the quotient and something more -/
theorem cell_rest (f l inf up q p m : Nat) (hq : 2 ^ (f + 1) ≤ q) (hp : 0 < p) (h1 : q * p < m * 2 ^ up) (h2 : m * 2 ^ up < (q + 1) * p) :
    SameCell f inf ((2 * q + 1) * 2 ^ l) (2 ^ (up + 1)) (m * 2 ^ l) p := by
  intro j _
  have hg := mid_gap2 f l up q j hq
  have hN : 0 < 2 ^ (l + 1) := Nat.two_pow_pos _
  have hU : 0 < 2 ^ up := Nat.two_pow_pos _
  rw [twice_pow, twice_pow, Nat.pow_succ 2 up]
  generalize mid f j = M at *
  generalize 2 ^ (l + 1) = N at *
  generalize 2 ^ up = U at *
  have e1 : M * (U * 2) = 2 * (M * U) := by rw [← Nat.mul_assoc, Nat.mul_comm]
  have e2 : (2 * q + 1) * N = 2 * (q * N) + N := by rw [Nat.add_mul, Nat.one_mul, Nat.mul_assoc]
  have e3 : (q + 1) * N = q * N + N := by rw [Nat.add_mul, Nat.one_mul]
  rw [e1, e2]
  rw [e3] at hg
  rcases hg with g | g
  · have h3 : M * p * U < m * N * U := by
      have a1 : M * U * p ≤ q * N * p := Nat.mul_le_mul_right _ g
      have a2 : q * p * N < m * U * N := Nat.mul_lt_mul_of_pos_right h1 hN
      rw [Nat.mul_right_comm M p U, Nat.mul_right_comm m N U]
      rw [Nat.mul_right_comm q N p] at a1
      omega
    have h4 := Nat.lt_of_mul_lt_mul_right h3
    omega
  · have h3 : m * N * U < M * p * U := by
      have a1 : (q * N + N) * p ≤ M * U * p := Nat.mul_le_mul_right _ g
      have a2 : m * U * N < (q + 1) * p * N := Nat.mul_lt_mul_of_pos_right h2 hN
      rw [Nat.mul_right_comm M p U, Nat.mul_right_comm m N U]
      rw [← e3, Nat.mul_right_comm] at a1
      omega
    have h4 := Nat.lt_of_mul_lt_mul_right h3
    omega
/-- a number within (m, m + 1) / 10^P, m great, against a middle -/
theorem ten_side (f l P m A0 B0 j : Nat) (hm : 2 ^ (f + 1) * 5 ^ l ≤ m) (h1 : m * B0 < A0 * 10 ^ P) (h2 : A0 * 10 ^ P < (m + 1) * B0) :
    (mid f j * 10 ^ P ≤ m * 2 ^ (l + 1) ∧ mid f j * B0 < 2 * (A0 * 2 ^ l)) ∨ ((m + 1) * 2 ^ (l + 1) ≤ mid f j * 10 ^ P ∧ 2 * (A0 * 2 ^ l) < mid f j * B0) := by
  have hN : 0 < 2 ^ (l + 1) := Nat.two_pow_pos _
  rw [twice_pow]
  rcases mid_gap10 f l P m j hm with g | g
  · left
    refine ⟨g, ?_⟩
    generalize mid f j = M at *
    generalize 2 ^ (l + 1) = N at *
    generalize 10 ^ P = p at *
    have a1 : M * p * B0 ≤ m * N * B0 := Nat.mul_le_mul_right _ g
    have a2 : m * B0 * N < A0 * p * N := Nat.mul_lt_mul_of_pos_right h1 hN
    have a3 : M * B0 * p < A0 * N * p := by
      rw [Nat.mul_right_comm M B0 p, Nat.mul_right_comm A0 N p]
      rw [Nat.mul_right_comm m N B0] at a1
      omega
    exact Nat.lt_of_mul_lt_mul_right a3
  · right
    refine ⟨g, ?_⟩
    generalize mid f j = M at *
    generalize 2 ^ (l + 1) = N at *
    generalize 10 ^ P = p at *
    have a1 : (m + 1) * N * B0 ≤ M * p * B0 := Nat.mul_le_mul_right _ g
    have a2 : A0 * p * N < (m + 1) * B0 * N := Nat.mul_lt_mul_of_pos_right h2 hN
    have a3 : A0 * N * p < M * B0 * p := by
      rw [Nat.mul_right_comm M B0 p, Nat.mul_right_comm A0 N p]
      rw [Nat.mul_right_comm (m + 1) N B0] at a1
      omega
    exact Nat.lt_of_mul_lt_mul_right a3
theorem cell_ten (f l inf P m A0 B0 A1 B1 : Nat) (hm : 2 ^ (f + 1) * 5 ^ l ≤ m) (h1 : m * B0 < A0 * 10 ^ P) (h2 : A0 * 10 ^ P < (m + 1) * B0) (g1 : m * B1 < A1 * 10 ^ P) (g2 : A1 * 10 ^ P < (m + 1) * B1) :
    SameCell f inf (A0 * 2 ^ l) B0 (A1 * 2 ^ l) B1 := by
  intro j _
  have hN : 0 < 2 ^ (l + 1) := Nat.two_pow_pos _
  have e : (m + 1) * 2 ^ (l + 1) = m * 2 ^ (l + 1) + 2 ^ (l + 1) := by rw [Nat.add_mul, Nat.one_mul]
  rcases ten_side f l P m A0 B0 j hm h1 h2 with a | a <;> rcases ten_side f l P m A1 B1 j hm g1 g2 with b | b <;> omega
theorem cell_more (f l inf up q P m A0 B0 : Nat) (hq : 2 ^ (f + 1) ≤ q) (hm : 2 ^ (f + 1) * 5 ^ l ≤ m) (k1 : q * 10 ^ P ≤ m * 2 ^ up) (k2 : m * 2 ^ up < (q + 1) * 10 ^ P)
    (h1 : m * B0 < A0 * 10 ^ P) (h2 : A0 * 10 ^ P < (m + 1) * B0) : SameCell f inf ((2 * q + 1) * 2 ^ l) (2 ^ (up + 1)) (A0 * 2 ^ l) B0 := by
  intro j _
  have hg := mid_gap2 f l up q j hq
  have hs := ten_side f l P m A0 B0 j hm h1 h2
  have hN : 0 < 2 ^ (l + 1) := Nat.two_pow_pos _
  have hU : 0 < 2 ^ up := Nat.two_pow_pos _
  rw [twice_pow, Nat.pow_succ 2 up]
  generalize 2 * (A0 * 2 ^ l) = T at *
  generalize mid f j = M at *
  generalize 2 ^ (l + 1) = N at *
  generalize 2 ^ up = U at *
  generalize 10 ^ P = p at *
  have e1 : M * (U * 2) = 2 * (M * U) := by rw [← Nat.mul_assoc, Nat.mul_comm]
  have e2 : (2 * q + 1) * N = 2 * (q * N) + N := by rw [Nat.add_mul, Nat.one_mul, Nat.mul_assoc]
  have e3 : (q + 1) * N = q * N + N := by rw [Nat.add_mul, Nat.one_mul]
  rw [e1, e2]
  rcases hs with ⟨s1, s2⟩ | ⟨s1, s2⟩
  · have a1 : M * U < (q + 1) * N := by
      have b1 : M * p * U ≤ m * N * U := Nat.mul_le_mul_right _ s1
      have b2 : m * U * N < (q + 1) * p * N := Nat.mul_lt_mul_of_pos_right k2 hN
      have b3 : M * U * p < (q + 1) * N * p := by
        rw [Nat.mul_right_comm M U p, Nat.mul_right_comm (q + 1) N p]
        rw [Nat.mul_right_comm m N U] at b1
        omega
      exact Nat.lt_of_mul_lt_mul_right b3
    omega
  · have a1 : q * N < M * U := by
      have b1 : (m + 1) * N * U ≤ M * p * U := Nat.mul_le_mul_right _ s1
      have b2 : q * p * N ≤ m * U * N := Nat.mul_le_mul_right _ k1
      have b4 : m * N * U < (m + 1) * N * U := Nat.mul_lt_mul_of_pos_right (Nat.mul_lt_mul_of_pos_right (Nat.lt_succ_self m) hN) hU
      have b3 : q * N * p < M * U * p := by
        rw [Nat.mul_right_comm M U p, Nat.mul_right_comm q N p]
        rw [Nat.mul_right_comm m U N] at b2
        omega
      exact Nat.lt_of_mul_lt_mul_right b3
    rw [e3] at hg
    omega

/-- the number of digits, the highest first -/
def nval (t : List UInt8) : Nat := t.foldl (fun a c => a * 10 + (c.toNat - 48)) 0
theorem nval_go (t : List UInt8) : ∀ a, t.foldl (fun a c => a * 10 + (c.toNat - 48)) a = a * 10 ^ t.length + nval t := by
  induction t with
  | nil => intro a; simp [nval]
  | cons c t ih =>
    intro a
    rw [List.foldl_cons, ih, List.length_cons, Nat.pow_succ]
    unfold nval
    rw [List.foldl_cons, ih (0 * 10 + (c.toNat - 48)), Nat.zero_mul, Nat.zero_add, Nat.add_mul, Nat.mul_assoc, Nat.mul_comm 10, Nat.add_assoc]
    rfl
theorem nval_append (s t : List UInt8) : nval (s ++ t) = nval s * 10 ^ t.length + nval t := by
  unfold nval
  rw [List.foldl_append, nval_go]
  rfl
theorem nval_snoc (s : List UInt8) (c : UInt8) : nval (s ++ [c]) = nval s * 10 + (c.toNat - 48) := by
  unfold nval
  rw [List.foldl_append]; rfl
theorem nval_cons (c : UInt8) (t : List UInt8) : nval (c :: t) = (c.toNat - 48) * 10 ^ t.length + nval t := by
  unfold nval
  rw [List.foldl_cons, nval_go, Nat.zero_mul, Nat.zero_add]; rfl
theorem nval_noughts (n : Nat) : nval (List.replicate n 48) = 0 := by
  induction n with
  | zero => rfl
  | succ n ih => rw [List.replicate_succ, nval_cons, ih]; simp
/-- of 10 digits each: the size of a number against its length -/
theorem nval_lt (t : List UInt8) (h : ∀ c ∈ t, 48 ≤ c.toNat ∧ c.toNat ≤ 57) : nval t < 10 ^ t.length := by
  induction t with
  | nil => simp [nval]
  | cons c t ih =>
    have h1 := h c (by simp)
    have h2 := ih (fun d hd => h d (by simp [hd]))
    rw [nval_cons, List.length_cons, Nat.pow_succ]
    have h3 : (c.toNat - 48) * 10 ^ t.length ≤ 9 * 10 ^ t.length := Nat.mul_le_mul_right _ (by omega)
    omega
theorem nval_ge (c : UInt8) (t : List UInt8) (h : 49 ≤ c.toNat) : 10 ^ t.length ≤ nval (c :: t) := by
  rw [nval_cons]
  have : 1 * 10 ^ t.length ≤ (c.toNat - 48) * 10 ^ t.length := Nat.mul_le_mul_right _ (by omega)
  omega
theorem pow10_big (k j : Nat) (h : 53 + 7 * k ≤ 29 + 33 * j) : 2 ^ 53 * 5 ^ (3 * k) ≤ 10 ^ (9 + 10 * j) := by
  have h2 : ((5 : Nat) ^ 3) ^ k ≤ (2 ^ 7) ^ k := Nat.pow_le_pow_left (by decide) _
  have h4 : ((2 : Nat) ^ 33) ^ j ≤ (10 ^ 10) ^ j := Nat.pow_le_pow_left (by decide) _
  rw [← Nat.pow_mul, ← Nat.pow_mul] at h2 h4
  rw [Nat.pow_add]
  refine Nat.le_trans (Nat.mul_le_mul_left _ h2) ?_
  refine Nat.le_trans ?_ (Nat.mul_le_mul_left _ h4)
  rw [← Nat.pow_add]
  refine Nat.le_trans (Nat.pow_le_pow_right (by decide) h) ?_
  rw [Nat.pow_add]
  exact Nat.mul_le_mul_right _ (by decide)
/-- a number of so many digits is great enough for all patterns -/
theorem pow2_big (f l n m : Nat) (hf : f ≤ 52) (hl : l ≤ 1074) (hn : 799 ≤ n) (hm : 10 ^ n ≤ m) : 2 ^ (f + 1) * 5 ^ l ≤ m := by
  refine Nat.le_trans ?_ hm
  obtain ⟨k, hk⟩ : ∃ k, k = 358 := ⟨_, rfl⟩
  obtain ⟨j, hj⟩ : ∃ j, j = 79 := ⟨_, rfl⟩
  have h1 := pow10_big k j (by omega)
  refine Nat.le_trans (Nat.mul_le_mul (Nat.pow_le_pow_right (by decide) (show f + 1 ≤ 53 by omega)) (Nat.pow_le_pow_right (by decide) (show l ≤ 3 * k by omega))) (Nat.le_trans h1 ?_)
  exact Nat.pow_le_pow_right (by decide) (by omega)
end Go.Proofs.YtgckfilmhnapeaaDoor
