/- Whole numbers there and back: the plain part. -/
import Derived.Test.YtaichdcknoopdaaThere
namespace Go.Proofs.Ytaichdcknoopdaa
open Go

theorem rne_near (n j : Nat) : 2 * (rne n j * 2 ^ j) ≤ 2 * n + 2 ^ j ∧ 2 * n ≤ 2 * (rne n j * 2 ^ j) + 2 ^ j := by
  have h := Nat.div_add_mod n (2 ^ j)
  have hm := Nat.mod_lt n (Nat.two_pow_pos j)
  unfold rne
  generalize n / 2 ^ j = q at *
  generalize n % 2 ^ j = r at *
  generalize 2 ^ j = P at *
  rw [Nat.mul_comm] at h
  by_cases c : P < 2 * r ∨ (P = 2 * r ∧ q % 2 = 1)
  · rw [if_pos c, Nat.add_mul, Nat.one_mul]
    generalize q * P = z at *
    omega
  · rw [if_neg c, Nat.add_zero]
    generalize q * P = z at *
    omega
theorem rne_bounds (n j a : Nat) (h1 : 2 ^ (a + j) ≤ n) (h2 : n < 2 ^ (a + 1 + j)) : 2 ^ a ≤ rne n j ∧ rne n j ≤ 2 ^ (a + 1) := by
  have hp := Nat.two_pow_pos j
  rw [Nat.pow_add] at h1 h2
  have b1 : 2 ^ a ≤ n / 2 ^ j := (Nat.le_div_iff_mul_le hp).2 h1
  have b2 : n / 2 ^ j < 2 ^ (a + 1) := (Nat.div_lt_iff_lt_mul hp).2 h2
  unfold rne
  split <;> omega

theorem word64_div (s : Bool) (r : Nat) (h : r ≤ 9218868437227405312) : F64.word s r / 9223372036854775808 % 2 = s.toNat := by
  unfold Ieee.Format.word
  rw [f64_sw]
  cases s
  · simp; omega
  · simp; omega
theorem rank_word (s : Bool) (r : Nat) (h : r ≤ 9218868437227405312) : rank64 (F64.word s r) = if s = true then -(r : Int) else r := by
  unfold rank64
  rw [word64_div s r h, word64_mod s r h]
  cases s <;> simp

/-- the nearest float to a whole number of 64 bits: V, at most 512 from it -/
theorem ofInt_round (n : Int) (h1 : -9223372036854775808 ≤ n) (h2 : n ≤ 9223372036854775807) :
    ∃ V r : Nat, V ≤ 9223372036854775808 ∧ r < 9218868437227405312 ∧ mag64 r = V * pw 1074 ∧ floatOfInt .f64 n = F64.word (decide (n < 0)) r ∧ V ≤ n.natAbs + 512 ∧ n.natAbs ≤ V + 512 := by
  have hN : n.natAbs ≤ 9223372036854775808 := by omega
  by_cases c : n.natAbs < 9007199254740992
  · by_cases c0 : n.natAbs = 0
    · refine ⟨0, 0, by omega, by omega, by rw [mag64_zero, Nat.zero_mul], ?_, by omega, by omega⟩
      exact ofInt_exact n 0 (by omega) (by rw [c0, mag64_zero, Nat.zero_mul])
    · have hl : n.natAbs.log2 < 53 := (Nat.log2_lt c0).2 c
      obtain ⟨r, r1, r2, r3⟩ := rung_of n.natAbs 1074 c0 c (by omega)
      exact ⟨n.natAbs, r, by omega, by omega, r1, ofInt_exact n r (by omega) r1.symm, by omega, by omega⟩
  · have e : floatOfInt .f64 n = F64.nearest (decide (n < 0)) n.natAbs 0 := rfl
    rw [e]
    generalize n.natAbs = N at *
    have hN0 : N ≠ 0 := by omega
    have b1 := (Nat.log2_eq_iff hN0).1 rfl
    have l1 : 53 ≤ N.log2 := (Nat.le_log2 hN0).2 (by omega)
    have l2 : N.log2 < 64 := (Nat.log2_lt hN0).2 (by omega)
    obtain ⟨j, hj⟩ : ∃ j, N.log2 = 52 + j := ⟨N.log2 - 52, by omega⟩
    have hnear : F64.nearest (decide (n < 0)) N 0 = F64.word (decide (n < 0)) (min ((j + 1074) * 4503599627370496 + rne N j) 9218868437227405312) := by
      unfold Ieee.Format.nearest
      rw [if_neg hN0, f64_fb, f64_lp, f64_bin, f64_inf]
      have hlast : max (0 + (N.log2 : Int) - (52 : Nat)) (-1074) = (j : Int) := by omega
      simp only []
      rw [hlast, cut_even, Nat.shiftLeft_eq, show ((0 : Int) - (j : Int)).toNat = 0 from by omega, show ((j : Int) - 0).toNat = j from by omega, Nat.pow_zero, Nat.mul_one, show ((j : Int) - -1074).toNat = j + 1074 from by omega]
    rw [hj] at b1
    have hb := rne_bounds N j 52 b1.1 (by rw [show 52 + 1 + j = 52 + j + 1 from by omega]; exact b1.2)
    have hk1 : 4503599627370496 ≤ rne N j := hb.1
    have hk2 : rne N j ≤ 9007199254740992 := hb.2
    have hne := rne_near N j
    have hj' : j ≤ 11 := by omega
    have hr : (j + 1074) * 4503599627370496 + rne N j < 9218868437227405312 := by omega
    refine ⟨rne N j * 2 ^ j, (j + 1074) * 4503599627370496 + rne N j, ?_, hr, ?_, ?_, ?_, ?_⟩
    · by_cases hj11 : j = 11
      · subst hj11
        have hN2 : N = 4503599627370496 * 2 ^ 11 := by have := b1.1; omega
        rw [hN2, rne_exact]; omega
      · have hp : 2 ^ j ≤ 2 ^ 10 := Nat.pow_le_pow_right (by decide) (by omega)
        calc rne N j * 2 ^ j ≤ 9007199254740992 * 2 ^ 10 := Nat.mul_le_mul hk2 hp
          _ = 9223372036854775808 := by decide
    · rw [mag64_split' (j + 1074) (rne N j) hk1 hk2, show (2 : Nat) ^ j = pw j from rfl, Nat.mul_assoc, pw_add]
    · rw [hnear, Nat.min_eq_left (by omega)]
    · by_cases hj11 : j = 11
      · subst hj11
        have hN2 : N = 4503599627370496 * 2 ^ 11 := by have := b1.1; omega
        rw [hN2, rne_exact]; omega
      · have hp : 2 ^ j ≤ 2 ^ 10 := Nat.pow_le_pow_right (by decide) (by omega)
        omega
    · by_cases hj11 : j = 11
      · subst hj11
        have hN2 : N = 4503599627370496 * 2 ^ 11 := by have := b1.1; omega
        rw [hN2, rne_exact]; omega
      · have hp : 2 ^ j ≤ 2 ^ 10 := Nat.pow_le_pow_right (by decide) (by omega)
        omega

theorem mag_63 : mag64 4890909195324358656 = 9223372036854775808 * pw 1074 := by
  have := mag64_split 1085 4503599627370496 (by omega) (by omega)
  rw [show (1085 * 4503599627370496 + 4503599627370496 : Nat) = 4890909195324358656 from by decide, show (1085 : Nat) = 11 + 1074 from by decide, ← pw_add, ← Nat.mul_assoc, show (4503599627370496 * pw 11 : Nat) = 9223372036854775808 from by decide] at this
  exact this
theorem le_63 {V r : Nat} (h : mag64 r = V * pw 1074) (hV : V ≤ 9223372036854775808) : r ≤ 4890909195324358656 := by
  by_cases g : 4890909195324358656 < r
  · have := mag64_mono g
    rw [mag_63, h] at this
    have := Nat.lt_of_mul_lt_mul_right this
    omega
  · omega
theorem lt_63 {V r : Nat} (h : mag64 r = V * pw 1074) : V < 9223372036854775808 ↔ r < 4890909195324358656 := by
  rw [← @mag64_lt_iff r, mag_63, h]
  exact (Nat.mul_lt_mul_right (pw_pos 1074)).symm

theorem order64_word (s : Bool) (r y : Nat) (h : r ≤ 9218868437227405312) (hy : y % 9223372036854775808 ≤ 9218868437227405312) :
    F64.order (F64.word s r) y = some (compare (if s = true then -(r : Int) else (r : Int)) (rank64 y)) := by
  rw [order64_rank _ _ (by rw [word64_mod s r h]; exact h) hy, rank_word s r h]

/-- what Whole says of a pattern that is a whole number of at most 2^63 -/
theorem whole_word (s : Bool) (V r : Nat) (hV : V ≤ 9223372036854775808) (hr : r < 9218868437227405312) (hm : mag64 r = V * pw 1074) :
    wholeO (F64.word s r) = some (if s = false ∧ V = 9223372036854775808 then (0, false) else (if s = true then -(V : Int) else V, true)) := by
  have hr63 := le_63 hm hV
  have hlt := lt_63 hm
  have k1 : rank64 14114281232179134464 = -4890909195324358656 := by decide
  have k2 : rank64 4890909195324358656 = 4890909195324358656 := by decide
  have o1 := order64_word s r 14114281232179134464 (by omega) (by omega)
  have o2 := order64_word s r 4890909195324358656 (by omega) (by omega)
  rw [k1] at o1
  rw [k2] at o2
  have hfin : F64.word s r % 9223372036854775808 < 9218868437227405312 := by rw [word64_mod s r (by omega)]; exact hr
  have ht : trunc64 (F64.word s r) = if s = true then -(V : Int) else V := by
    unfold trunc64
    rw [word64_div s r (by omega), word64_mod s r (by omega), hm, Nat.mul_div_cancel _ (pw_pos _)]
    cases s <;> simp
  unfold wholeO
  by_cases hc : s = false ∧ V = 9223372036854775808
  · obtain ⟨rfl, rfl⟩ := hc
    have hr2 : r = 4890909195324358656 := by have := hlt.2; omega
    have e : inI64 (F64.word false r) = false := by
      unfold inI64
      rw [o2, hr2]
      simp [compare, compareOfLessAndEq]
    rw [e, if_neg (by decide), if_pos ⟨rfl, rfl⟩]
  · have e : inI64 (F64.word s r) = true := by
      unfold inI64
      rw [o1, o2]
      cases s with
      | true =>
        have a1 : ¬ (-(r : Int) < -4890909195324358656) := by omega
        have a2 : -(r : Int) < 4890909195324358656 := by omega
        by_cases a3 : -(r : Int) = -4890909195324358656
        · simp [compare, compareOfLessAndEq, a3]
        · simp only [compare, compareOfLessAndEq, if_true, if_neg a1, if_neg a3, if_pos a2]; decide
      | false =>
        have hV2 : V ≠ 9223372036854775808 := fun k => hc ⟨rfl, k⟩
        have a0 : r < 4890909195324358656 := hlt.1 (by omega)
        have a1 : ¬ ((r : Int) < -4890909195324358656) := by omega
        have a2 : (r : Int) < 4890909195324358656 := by omega
        have a3 : ¬ ((r : Int) = -4890909195324358656) := by omega
        simp only [compare, compareOfLessAndEq, Bool.false_eq_true, if_false, if_neg a1, if_neg a3, if_pos a2]; decide
    rw [e, if_pos rfl, if_neg hc]
    have hi : IntKind.i64.min ≤ trunc64 (F64.word s r) ∧ trunc64 (F64.word s r) ≤ IntKind.i64.max := by
      have q1 : IntKind.i64.min = -9223372036854775808 := by decide
      have q2 : IntKind.i64.max = 9223372036854775807 := by decide
      rw [ht, q1, q2]
      cases s with
      | true => simp only [if_true]; omega
      | false =>
        have hV2 : V ≠ 9223372036854775808 := fun k => hc ⟨rfl, k⟩
        simp only [Bool.false_eq_true, if_false]; omega
    rw [toIntVal64 _ _ hfin hi, Option.bind_some, ht]
    have hf : floatOfInt .f64 (if s = true then -(V : Int) else V) = F64.word (decide ((if s = true then -(V : Int) else V) < 0)) r :=
      ofInt_exact _ r hr (by rw [hm]; congr 1; cases s <;> simp)
    have ho : F64.order (F64.word (decide ((if s = true then -(V : Int) else V) < 0)) r) (F64.word s r) = some .eq := by
      rw [order64_word _ r _ (by omega) (by omega), rank_word s r (by omega)]
      by_cases hV0 : V = 0
      · have : r = 0 := mag64_z.1 (by rw [hm, hV0, Nat.zero_mul])
        rw [this]; simp [compare, compareOfLessAndEq]
      · have : decide ((if s = true then -(V : Int) else V) < 0) = s := by
          cases s
          · exact decide_eq_false (by simp only [Bool.false_eq_true, if_false]; omega)
          · exact decide_eq_true (by simp only [if_true]; omega)
        rw [this]; simp [compare, compareOfLessAndEq]
    rw [hf, ho, if_pos eqeq]

/-- of a whole number of 64 bits: what the law asks of FromWhole's float -/
theorem whole_there (n : Int) (h1 : -9223372036854775808 ≤ n) (h2 : n ≤ 9223372036854775807) :
    ∃ m is, wholeO (floatOfInt .f64 n) = some (m, is) ∧
      ((is = true ∧ m = n) ∨ (is = true ∧ m ≠ n ∧ -512 ≤ n - m ∧ n - m ≤ 512) ∨ (is = false ∧ m = 0 ∧ F64.order (floatOfInt .f64 n) 4890909195324358656 = some .eq ∧ 9223372036854775296 ≤ n)) := by
  obtain ⟨V, r, hV, hr, hm, he, d1, d2⟩ := ofInt_round n h1 h2
  rw [he, whole_word _ V r hV hr hm]
  by_cases hc : decide (n < 0) = false ∧ V = 9223372036854775808
  · rw [if_pos hc]
    refine ⟨_, _, rfl, Or.inr (Or.inr ⟨rfl, rfl, ?_, ?_⟩)⟩
    · obtain ⟨c1, c2⟩ := hc
      have hr2 : r = 4890909195324358656 := by
        have a := le_63 hm hV
        have b := (lt_63 hm).2
        omega
      rw [c1, hr2]
      decide +kernel
    · have := hc.1
      simp only [decide_eq_false_iff_not] at this
      have := hc.2
      omega
  · rw [if_neg hc]
    by_cases hn : n < 0
    · simp only [hn, decide_true, if_true]
      by_cases q : -(V : Int) = n
      · exact ⟨_, _, rfl, Or.inl ⟨rfl, q⟩⟩
      · exact ⟨_, _, rfl, Or.inr (Or.inl ⟨rfl, q, by omega, by omega⟩)⟩
    · simp only [hn, decide_false, Bool.false_eq_true, if_false]
      by_cases q : (V : Int) = n
      · exact ⟨_, _, rfl, Or.inl ⟨rfl, q⟩⟩
      · exact ⟨_, _, rfl, Or.inr (Or.inl ⟨rfl, q, by omega, by omega⟩)⟩
end Go.Proofs.Ytaichdcknoopdaa
