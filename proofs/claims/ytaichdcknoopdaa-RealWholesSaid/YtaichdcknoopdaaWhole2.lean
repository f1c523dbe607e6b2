/- The plain law of Whole: what the program's steps come to is the document's whole number. No program in sight, but for the names. -/
import Derived.Test.YtaichdcknoopdaaRWhole
import Derived.Test.YtaichdcknoopdaaWhole
import Derived.Test.YtaichdcknoopdaaThere2
import Derived.Test.YtaichdcknoopdaaAdd
namespace Go.Proofs.Ytaichdcknoopdaa
open Go.RowKit

/-- Whole's answer at any pattern -/
def wholeA (n : Nat) : Int × Bool := if n % 9223372036854775808 < 9218868437227405312 then wholeR n else (0, false)

theorem inI64_far (n : Nat) (h : 4890909195324358656 < n % 9223372036854775808) : inI64 n = false := by
  have k1 : rank64 14114281232179134464 = -4890909195324358656 := by decide
  have k2 : rank64 4890909195324358656 = 4890909195324358656 := by decide
  by_cases hf : n % 9223372036854775808 ≤ 9218868437227405312
  · unfold inI64
    rw [order64_rank n 14114281232179134464 hf (by omega), order64_rank n 4890909195324358656 hf (by omega), k1, k2]
    unfold rank64
    by_cases hs : n / 9223372036854775808 % 2 = 1
    · rw [if_pos hs]
      have a1 : -((n % 9223372036854775808 : Nat) : Int) < -4890909195324358656 := by omega
      generalize -((n % 9223372036854775808 : Nat) : Int) = z at *
      have e : (some (compare z (-4890909195324358656)) == some Ordering.gt || some (compare z (-4890909195324358656)) == some Ordering.eq) = false := by
        simp only [compare, compareOfLessAndEq, if_pos a1]; decide
      rw [e, Bool.false_and]
    · rw [if_neg hs]
      have a1 : ¬ ((n % 9223372036854775808 : Nat) : Int) < 4890909195324358656 := by omega
      have a2 : ¬ ((n % 9223372036854775808 : Nat) : Int) = 4890909195324358656 := by omega
      generalize ((n % 9223372036854775808 : Nat) : Int) = z at *
      have e : (some (compare z 4890909195324358656) == some Ordering.lt) = false := by
        simp only [compare, compareOfLessAndEq, if_neg a1, if_neg a2]; decide
      rw [e, Bool.and_false]
  · have hnan : nan64 n = true := by unfold nan64; exact decide_eq_true (by omega)
    unfold inI64
    rw [order64_nan n _ (Or.inl hnan), order64_nan n _ (Or.inl hnan)]
    decide

theorem mag_frac {r : Nat} (h : mag64 r % pw 1074 ≠ 0) : mag64 r / pw 1074 < 4503599627370496 := by
  obtain ⟨d, k, h1, h2, h3, h4⟩ := mag64_parts r
  have hd : d < 1074 := by
    rcases Nat.lt_or_ge d 1074 with g | g
    · exact g
    · exfalso
      apply h
      obtain ⟨c, rfl⟩ : ∃ c, d = c + 1074 := ⟨d - 1074, by omega⟩
      rw [h4, pw_def, ← pw_add, ← Nat.mul_assoc, Nat.mul_mod_left]
  rw [h4, pw_def, Nat.div_lt_iff_lt_mul (pw_pos _)]
  have e : pw 1074 = pw (1074 - 1 - d) * pw d * 2 := by
    rw [pw_add, show 1074 - 1 - d + d = 1073 from by omega, Nat.mul_comm]
    exact pw_succ 1073
  have p1 := pw_pos (1074 - 1 - d)
  have p2 := pw_pos d
  rw [e]
  have e2 : 4503599627370496 * (pw (1074 - 1 - d) * pw d * 2) = 9007199254740992 * (pw (1074 - 1 - d) * pw d) := by
    generalize pw (1074 - 1 - d) * pw d = z
    omega
  rw [e2]
  calc k * pw d < 9007199254740992 * pw d := Nat.mul_lt_mul_of_pos_right h2 p2
    _ = 9007199254740992 * (1 * pw d) := by rw [Nat.one_mul]
    _ ≤ 9007199254740992 * (pw (1074 - 1 - d) * pw d) := Nat.mul_le_mul_left _ (Nat.mul_le_mul_right _ p1)

theorem trunc_word (s : Bool) (r : Nat) (hr : r < 9218868437227405312) : trunc64 (F64.word s r) = if s = true then -((mag64 r / pw 1074 : Nat) : Int) else ((mag64 r / pw 1074 : Nat) : Int) := by
  unfold trunc64
  rw [word64_div s r (by omega), word64_mod s r (by omega)]
  cases s <;> simp

/-- a number with a fraction: Whole says no -/
theorem whole_frac (s : Bool) (r : Nat) (hr : r < 9218868437227405312) (hm : mag64 r % pw 1074 ≠ 0) : wholeO (F64.word s r) = some (0, false) := by
  have hV := mag_frac hm
  have ht := trunc_word s r hr
  have hM : mag64 r ≠ 0 := fun k => hm (by rw [k]; exact Nat.zero_mod _)
  have hfin : F64.word s r % 9223372036854775808 < 9218868437227405312 := by rw [word64_mod s r (by omega)]; exact hr
  have hlt : mag64 r < 4503599627370496 * pw 1074 := (Nat.div_lt_iff_lt_mul (pw_pos _)).1 hV
  have hr63 : r < 4890909195324358656 := by
    rw [← @mag64_lt_iff r, mag_63]
    exact Nat.lt_of_lt_of_le hlt (Nat.mul_le_mul_right _ (by omega))
  have hr0 : r ≠ 0 := fun k => hM (by rw [k]; exact mag64_zero)
  have k1 : rank64 14114281232179134464 = -4890909195324358656 := by decide
  have k2 : rank64 4890909195324358656 = 4890909195324358656 := by decide
  have o1 := order64_word s r 14114281232179134464 (by omega) (by omega)
  have o2 := order64_word s r 4890909195324358656 (by omega) (by omega)
  rw [k1] at o1
  rw [k2] at o2
  generalize hVe : mag64 r / pw 1074 = V at *
  have e : inI64 (F64.word s r) = true := by
    unfold inI64
    rw [o1, o2]
    cases s with
    | true =>
      have a1 : ¬ (-(r : Int) < -4890909195324358656) := by omega
      have a3 : ¬ (-(r : Int) = -4890909195324358656) := by omega
      have a2 : -(r : Int) < 4890909195324358656 := by omega
      simp only [compare, compareOfLessAndEq, if_true, if_neg a1, if_neg a3, if_pos a2]; decide
    | false =>
      have a1 : ¬ ((r : Int) < -4890909195324358656) := by omega
      have a2 : (r : Int) < 4890909195324358656 := by omega
      have a3 : ¬ ((r : Int) = -4890909195324358656) := by omega
      simp only [compare, compareOfLessAndEq, Bool.false_eq_true, if_false, if_neg a1, if_neg a3, if_pos a2]; decide
  unfold wholeO
  rw [e, if_pos rfl]
  have hi : IntKind.i64.min ≤ trunc64 (F64.word s r) ∧ trunc64 (F64.word s r) ≤ IntKind.i64.max := by
    have q1 : IntKind.i64.min = -9223372036854775808 := by decide
    have q2 : IntKind.i64.max = 9223372036854775807 := by decide
    rw [ht, q1, q2]
    cases s
    · simp only [Bool.false_eq_true, if_false]; omega
    · simp only [if_true]; omega
  rw [toIntVal64 _ _ hfin hi, Option.bind_some, ht]
  have hrr : ∃ r', r' < 9218868437227405312 ∧ V * pw 1074 = mag64 r' := by
    by_cases h0 : V = 0
    · exact ⟨0, by omega, by rw [h0, Nat.zero_mul, mag64_zero]⟩
    · obtain ⟨r', g1, g2, g3⟩ := rung_of V 1074 h0 (by omega) (by omega)
      have : V.log2 < 53 := (Nat.log2_lt h0).2 (by omega)
      exact ⟨r', by omega, g1.symm⟩
  obtain ⟨r', g1, g2⟩ := hrr
  have hne : r' ≠ r := by
    rintro rfl
    apply hm
    rw [← g2]
    exact Nat.mul_mod_left _ _
  have hf : floatOfInt .f64 (if s = true then -(V : Int) else V) = F64.word (decide ((if s = true then -(V : Int) else V) < 0)) r' :=
    ofInt_exact _ r' g1 (by rw [← g2, show (if s = true then -(V : Int) else (V : Int)).natAbs = V from by cases s <;> simp])
  have ho : (F64.order (F64.word (decide ((if s = true then -(V : Int) else V) < 0)) r') (F64.word s r) == some .eq) = false := by
    rw [order64_word _ r' _ (by omega) (by omega), rank_word s r (by omega)]
    have hc : ∀ a b : Int, a ≠ b → (some (compare a b) == some Ordering.eq) = false := by
      intro a b h
      simp only [compare, compareOfLessAndEq]
      by_cases q : a < b
      · rw [if_pos q]; decide
      · rw [if_neg q, if_neg h]; decide
    apply hc
    cases s
    · simp only [Bool.false_eq_true, if_false]
      split <;> omega
    · simp only [if_true]
      by_cases h0 : V = 0
      · have : r' = 0 := mag64_z.1 (by rw [← g2, h0, Nat.zero_mul])
        subst this
        split <;> omega
      · rw [if_pos (decide_eq_true (by omega))]
        omega
  rw [hf, ho, if_neg (by decide)]

theorem wholeO_all (n : Nat) (hn : n < 18446744073709551616) : wholeO n = some (wholeA n) := by
  unfold wholeA
  by_cases hf : n % 9223372036854775808 < 9218868437227405312
  · rw [if_pos hf]
    have hb := rebuild n hn
    obtain ⟨s, hs⟩ : ∃ s, s = (n / 9223372036854775808 % 2 == 1) := ⟨_, rfl⟩
    obtain ⟨r, hr⟩ : ∃ r, r = n % 9223372036854775808 := ⟨_, rfl⟩
    rw [← hs, ← hr] at hb
    have hneg : (9223372036854775808 ≤ n) ↔ s = true := by
      rw [hs, beq_iff_eq]; omega
    unfold wholeR
    rw [← hr] at hf ⊢
    by_cases hm : mag64 r % pw 1074 = 0
    · have hV : mag64 r = mag64 r / pw 1074 * pw 1074 := by
        have := Nat.div_add_mod (mag64 r) (pw 1074)
        rw [hm, Nat.add_zero, Nat.mul_comm] at this
        exact this.symm
      generalize mag64 r / pw 1074 = V at *
      by_cases hV63 : V ≤ 9223372036854775808
      · rw [← hb, whole_word s V r hV63 hf hV, hb]
        congr 1
        by_cases hc : s = false ∧ V = 9223372036854775808
        · rw [if_pos hc, if_neg]
          rintro ⟨-, q | ⟨-, q⟩⟩
          · omega
          · rw [hneg, hc.1] at q; cases q
        · have hcond : mag64 r % pw 1074 = 0 ∧ (V < 9223372036854775808 ∨ (V = 9223372036854775808 ∧ 9223372036854775808 ≤ n)) := by
            refine ⟨hm, ?_⟩
            by_cases hs2 : s = true
            · have := hneg.2 hs2; omega
            · have : V ≠ 9223372036854775808 := fun k => hc ⟨by simpa using hs2, k⟩
              omega
          rw [if_neg hc, if_pos hcond]
          cases s
          · have q : ¬ 9223372036854775808 ≤ n := fun k => by have := hneg.1 k; cases this
            rw [if_neg q]; rfl
          · rw [if_pos (hneg.2 rfl)]; rfl
      · have hfar : 4890909195324358656 < r := by
          rw [← @mag64_lt_iff _ r, mag_63, hV]
          exact Nat.mul_lt_mul_of_pos_right (by omega) (pw_pos _)
        rw [if_neg (by rintro ⟨-, q⟩; omega)]
        unfold wholeO
        rw [inI64_far n (by omega), if_neg (by decide)]
    · rw [if_neg (by rintro ⟨q, -⟩; exact hm q), ← hb]
      exact whole_frac s r hf hm
  · rw [if_neg hf]
    unfold wholeO
    rw [inI64_far n (by omega), if_neg (by decide)]
end Go.Proofs.Ytaichdcknoopdaa
