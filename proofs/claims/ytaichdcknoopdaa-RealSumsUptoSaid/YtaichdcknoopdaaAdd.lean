/- Laws of the model's sums: no program in sight. -/
import Derived.Test.YtaichdcknoopdaaExact
import Derived.Test.YtaichdcknoopdaaPlus
namespace Go.Proofs.Ytaichdcknoopdaa
open Go

theorem sum_comm (x y : Ieee.Datum) : x.sum y = y.sum x := by
  cases x <;> cases y <;> simp only [Ieee.Datum.sum]
  · rename_i s m i t n j
    rw [Int.min_comm i j, Int.add_comm, Bool.and_comm s t]
  · rename_i s t
    by_cases h : s = t
    · subst h; simp
    · rw [if_neg h, if_neg (fun k => h k.symm)]
theorem add64_comm (x y : Nat) : add64 x y = add64 y x := by
  unfold add64 Ieee.Format.add
  rw [sum_comm]

theorem rebuild (x : Nat) (hx : x < 18446744073709551616) : F64.word (x / 9223372036854775808 % 2 == 1) (x % 9223372036854775808) = x := by
  unfold Ieee.Format.word
  rw [f64_sw]
  by_cases h : x < 9223372036854775808
  · rw [Nat.div_eq_of_lt h]; simp; omega
  · have : x / 9223372036854775808 = 1 := by omega
    rw [this]; simp; omega

theorem read_zero : F64.read 0 = .number false 0 (-1074) := by decide +kernel
theorem read_inf (x : Nat) (h : x % 9223372036854775808 = 9218868437227405312) : F64.read x = .infinity (x / 9223372036854775808 % 2 == 1) := by
  rw [read64, if_neg (by omega), if_neg (by omega), if_pos h]
theorem read_nan (x : Nat) (h : 9218868437227405312 < x % 9223372036854775808) : ∃ s f, F64.read x = .nan s f := by
  rw [read64, if_neg (by omega), if_neg (by omega), if_neg (by omega)]
  exact ⟨_, _, rfl⟩

theorem signed_natAbs (t : Bool) (n k : Nat) : (Ieee.signed t n k).natAbs = n * 2 ^ k := by
  unfold Ieee.signed
  rw [Nat.shiftLeft_eq]
  cases t
  · exact Int.natAbs_natCast _
  · simp only [if_true, Int.natAbs_neg]; exact Int.natAbs_natCast _
theorem signed_lt (t : Bool) (n k : Nat) (h : n * 2 ^ k ≠ 0) : decide (Ieee.signed t n k < 0) = t := by
  unfold Ieee.signed
  rw [Nat.shiftLeft_eq]
  generalize n * 2 ^ k = z at *
  cases t
  · exact decide_eq_false (by simp)
  · exact decide_eq_true (by simp only [if_true]; omega)

theorem nearest_at (s : Bool) (r : Nat) (hr : r < 9218868437227405312) : F64.nearest s (mag64 r) (-1074) = F64.word s r :=
  nearest64_exact s (mag64 r) (-1074) r hr 0 0 (by omega) rfl

theorem add64_zero (x : Nat) (hx : x < 18446744073709551616) (hz : x ≠ 9223372036854775808) : add64 0 x = one64 x := by
  by_cases hx0 : x = 0
  · subst hx0; decide +kernel
  cases hn : nan64 x with
  | true =>
    rw [one64_nan hn]
    unfold nan64 at hn
    simp only [decide_eq_true_eq] at hn
    obtain ⟨s, f, h⟩ := read_nan x hn
    unfold add64 Ieee.Format.add
    rw [h, read_zero]
    rfl
  | false =>
    rw [one64_id hn]
    unfold nan64 at hn
    simp only [decide_eq_false_iff_not] at hn
    unfold add64 Ieee.Format.add
    by_cases hi : x % 9223372036854775808 = 9218868437227405312
    · rw [read_inf x hi, read_zero]
      simp only [Ieee.Datum.sum, Option.map_some, Option.getD_some, Ieee.Format.write]
      rw [f64_inf, ← hi, rebuild x hx]
    · obtain ⟨m, p, h1, h2, h3⟩ := read64_fin x (by omega)
      have hne := nearest_at (x / 9223372036854775808 % 2 == 1) (x % 9223372036854775808) (by omega)
      have hm : m * 2 ^ (p + 1074).toNat ≠ 0 := by
        rw [h3]
        intro k
        have := mag64_z.1 k
        omega
      rw [h1, read_zero]
      simp only [Ieee.Datum.sum, Option.map_some, Option.getD_some, Ieee.Format.write]
      have hb : min (-1074) p = -1074 := by omega
      have e0 : Ieee.signed false 0 (-1074 - -1074 : Int).toNat = 0 := by decide
      rw [hb, e0, Int.zero_add, show (p - -1074).toNat = (p + 1074).toNat from by omega, signed_natAbs]
      have hs : ¬ (Ieee.signed (x / 9223372036854775808 % 2 == 1) m (p + 1074).toNat = 0) := by
        intro k
        have := signed_natAbs (x / 9223372036854775808 % 2 == 1) m (p + 1074).toNat
        rw [k] at this
        exact hm this.symm
      rw [if_neg hs, signed_lt _ _ _ hm, h3, hne, rebuild x hx]

/-- is it not the nought below 0? -/
def notNegZ (x : Nat) : Prop := x ≠ 9223372036854775808

theorem nearest_pos (s : Bool) (m : Nat) (p : Int) (hm : m ≠ 0) (hp : -1074 ≤ p) : F64.nearest s m p ≠ 9223372036854775808 := by
  unfold Ieee.Format.nearest
  rw [if_neg hm, f64_fb, f64_lp, f64_bin, f64_inf]
  simp only []
  rw [cut_even, Nat.shiftLeft_eq]
  have hr : 0 < (max (p + (m.log2 : Int) - (52 : Nat)) (-1074) - -1074).toNat * 4503599627370496 + rne (m * 2 ^ (p - max (p + (m.log2 : Int) - (52 : Nat)) (-1074)).toNat) (max (p + (m.log2 : Int) - (52 : Nat)) (-1074) - p).toNat := by
    by_cases h : p + (m.log2 : Int) - (52 : Nat) ≤ -1074
    · rw [Int.max_eq_right h, show (-1074 - p).toNat = 0 from by omega]
      have : rne (m * 2 ^ (p - -1074).toNat) 0 = m * 2 ^ (p - -1074).toNat := by
        have := rne_exact (m * 2 ^ (p - -1074).toNat) 0
        rwa [Nat.pow_zero, Nat.mul_one] at this
      rw [this]
      have : 0 < m * 2 ^ (p - -1074).toNat := Nat.mul_pos (by omega) (Nat.two_pow_pos _)
      omega
    · rw [Int.max_eq_left (by omega)]
      have : 1 ≤ (p + (m.log2 : Int) - (52 : Nat) - -1074).toNat := by omega
      omega
  generalize (max (p + (m.log2 : Int) - (52 : Nat)) (-1074) - -1074).toNat * 4503599627370496 + rne (m * 2 ^ (p - max (p + (m.log2 : Int) - (52 : Nat)) (-1074)).toNat) (max (p + (m.log2 : Int) - (52 : Nat)) (-1074) - p).toNat = R at *
  unfold Ieee.Format.word
  rw [f64_sw]
  split <;> omega

theorem add_notNegZ (a b : Nat) (ha : notNegZ a) (hal : a < 18446744073709551616) : notNegZ (add64 a b) := by
  unfold notNegZ at *
  unfold add64
  cases h : F64.add a b with
  | none => simp
  | some r =>
    simp only [Option.getD_some]
    obtain ⟨d, hd, rfl⟩ := map_some h
    cases d with
    | nan s f => have := sum_notNaN hd; simp [Ieee.Datum.isNaN] at this
    | infinity s =>
      show F64.word s F64.infRung ≠ 9223372036854775808
      unfold Ieee.Format.word
      rw [f64_sw, f64_inf]
      split <;> omega
    | number s n j =>
      show F64.nearest s n j ≠ 9223372036854775808
      -- both are numbers
      have hna : a % 9223372036854775808 < 9218868437227405312 := by
        rcases Nat.lt_trichotomy (a % 9223372036854775808) 9218868437227405312 with g | g | g
        · exact g
        · rw [read_inf a g] at hd; cases hb : F64.read b <;> rw [hb] at hd <;> simp [Ieee.Datum.sum] at hd
        · obtain ⟨_, _, q⟩ := read_nan a g; rw [q] at hd; simp [Ieee.Datum.sum] at hd
      have hnb : b % 9223372036854775808 < 9218868437227405312 := by
        rcases Nat.lt_trichotomy (b % 9223372036854775808) 9218868437227405312 with g | g | g
        · exact g
        · rw [read_inf b g] at hd; cases hb : F64.read a <;> rw [hb] at hd <;> simp [Ieee.Datum.sum] at hd
        · obtain ⟨_, _, q⟩ := read_nan b g; rw [q] at hd; cases hb : F64.read a <;> rw [hb] at hd <;> simp [Ieee.Datum.sum] at hd
      obtain ⟨m1, p1, h1, h2, h3⟩ := read64_fin a hna
      obtain ⟨m2, p2, g1, g2, g3⟩ := read64_fin b hnb
      rw [h1, g1] at hd
      simp only [Ieee.Datum.sum, Option.some.injEq, Ieee.Datum.number.injEq] at hd
      obtain ⟨hs, hn, hj⟩ := hd
      by_cases ht : Ieee.signed (a / 9223372036854775808 % 2 == 1) m1 (p1 - min p1 p2).toNat + Ieee.signed (b / 9223372036854775808 % 2 == 1) m2 (p2 - min p1 p2).toNat = 0
      · rw [if_pos ht] at hs
        rw [ht] at hn
        have hn0 : n = 0 := by rw [← hn]; rfl
        rw [hn0]
        have hs0 : s = false := by
          rw [← hs]
          cases hsa : (a / 9223372036854775808 % 2 == 1) with
          | false => rfl
          | true =>
            cases hsb : (b / 9223372036854775808 % 2 == 1) with
            | false => rfl
            | true =>
              exfalso
              rw [hsa, hsb] at ht
              unfold Ieee.signed at ht
              rw [Nat.shiftLeft_eq, Nat.shiftLeft_eq] at ht
              simp only [if_true] at ht
              have hz : m1 * 2 ^ (p1 - min p1 p2).toNat = 0 := by omega
              have hm1 : m1 = 0 := by
                rcases Nat.mul_eq_zero.1 hz with q | q
                · exact q
                · exact absurd q (by have := Nat.two_pow_pos (p1 - min p1 p2).toNat; omega)
              rw [hm1, Nat.zero_mul] at h3
              have := mag64_z.1 h3.symm
              simp only [beq_iff_eq] at hsa
              omega
        rw [hs0]
        unfold Ieee.Format.nearest
        rw [if_pos rfl]
        decide
      · refine nearest_pos s n j ?_ (by omega)
        rw [← hn]
        intro k
        exact ht (Int.natAbs_eq_zero.1 k)

theorem add64_lt (a b : Nat) : add64 a b < 18446744073709551616 := by
  unfold add64
  cases h : F64.add a b with
  | none => simp
  | some r => exact (add_notNaN h).2
theorem fold_notNegZ (l : List Nat) : ∀ s, notNegZ s → s < 18446744073709551616 → notNegZ (fold64 s l) ∧ fold64 s l < 18446744073709551616 := by
  induction l with
  | nil => intro s h1 h2; exact ⟨h1, h2⟩
  | cons x l ih =>
    intro s h1 h2
    exact ih (add64 s x) (add_notNegZ s x h1 h2) (add64_lt s x)
theorem fold0 (l : List Nat) : notNegZ (fold64 0 l) ∧ fold64 0 l < 18446744073709551616 := fold_notNegZ l 0 (by unfold notNegZ; decide) (by decide)
theorem one64_fold (s : Nat) (l : List Nat) (h : one64 s = s) : one64 (fold64 s l) = fold64 s l := by
  induction l generalizing s with
  | nil => exact h
  | cons x l ih => exact ih (add64 s x) (one64_add s x)
theorem one_notNegZ {r x : Nat} (h : one64 r = x) (hx : notNegZ x) : notNegZ r := by
  intro k
  subst k
  exact hx (h.symm.trans (by decide))

/-- what was added up first, and the rest -/
theorem fold_split (xs : List Nat) (k r : Nat) (hr : one64 r = fold64 0 (xs.take k)) (hrl : r < 18446744073709551616) : fold64 0 (r :: xs.drop k) = fold64 0 xs := by
  have h0 := fold0 (xs.take k)
  have e : add64 0 r = fold64 0 (xs.take k) := by rw [add64_zero r hrl (one_notNegZ hr h0.1), hr]
  have e2 : fold64 0 (r :: xs.drop k) = fold64 (add64 0 r) (xs.drop k) := rfl
  rw [e2, e]
  conv => rhs; rw [← List.take_append_drop k xs]
  exact (List.foldl_append ..).symm

theorem add64_negz (r : Nat) (hr : r < 18446744073709551616) (hz : notNegZ r) : add64 9223372036854775808 r = one64 r := by
  by_cases h0 : r = 0
  · subst h0; decide +kernel
  · have e : F64.add 9223372036854775808 r = F64.add 0 r := by
      unfold Ieee.Format.add
      congr 1
      have e1 : F64.read 9223372036854775808 = .number true 0 (-1074) := by decide +kernel
      rw [e1, read_zero]
      cases hq : F64.read r with
      | nan s f => rfl
      | infinity s => rfl
      | number t n j =>
        simp only [Ieee.Datum.sum]
        have e2 : Ieee.signed true 0 (-1074 - min (-1074) j).toNat = 0 := by unfold Ieee.signed; simp
        have e3 : Ieee.signed false 0 (-1074 - min (-1074) j).toNat = 0 := by unfold Ieee.signed; simp
        rw [e2, e3, Int.zero_add]
        have hne : ¬ (Ieee.signed t n (j - min (-1074) j).toNat = 0) := by
          intro k
          have k2 := signed_natAbs t n (j - min (-1074) j).toNat
          rw [k] at k2
          have hfin : r % 9223372036854775808 < 9218868437227405312 := by
            rcases Nat.lt_trichotomy (r % 9223372036854775808) 9218868437227405312 with g | g | g
            · exact g
            · rw [read_inf r g] at hq; cases hq
            · obtain ⟨_, _, q⟩ := read_nan r g; rw [q] at hq; cases hq
          obtain ⟨m2, p2, g1, g2, g3⟩ := read64_fin r hfin
          rw [hq] at g1
          simp only [Ieee.Datum.number.injEq] at g1
          obtain ⟨-, rfl, rfl⟩ := g1
          have hn0 : n = 0 := by
            rcases Nat.mul_eq_zero.1 k2.symm with q | q
            · exact q
            · exact absurd q (by have := Nat.two_pow_pos (j - min (-1074) j).toNat; omega)
          rw [hn0, Nat.zero_mul] at g3
          have := mag64_z.1 g3.symm
          unfold notNegZ at hz
          omega
        rw [if_neg hne, if_neg hne]
    have : add64 9223372036854775808 r = add64 0 r := by unfold add64; rw [e]
    rw [this, add64_zero r hr hz]

theorem fold_pair (x r : Nat) (hx : x < 18446744073709551616) (hr : r < 18446744073709551616) (hz : notNegZ r) : fold64 0 [x, r] = fold64 0 [r, x] := by
  show add64 (add64 0 x) r = add64 (add64 0 r) x
  have e1 : add64 (add64 0 r) x = add64 r x := by
    rw [add64_zero r hr hz]
    exact add64_one _ _ _ (by unfold one64; split <;> simp_all [nan64])
  rw [e1, add64_comm r x]
  by_cases hxz : x = 9223372036854775808
  · subst hxz
    rw [show add64 0 9223372036854775808 = 0 from by decide +kernel, add64_zero r hr hz, add64_negz r hr hz]
  · rw [add64_zero x hx hxz]
    exact add64_one _ _ _ (by unfold one64; split <;> simp_all [nan64])

/-- less itself -/
theorem sub_self_fin (x : Nat) (h : x % 9223372036854775808 < 9218868437227405312) : F64.sub x x = some 0 := by
  obtain ⟨m, p, h1, h2, h3⟩ := read64_fin x h
  unfold Ieee.Format.sub
  rw [h1]
  simp only [Ieee.Datum.opposite, Ieee.Datum.sum, Option.map_some, Ieee.Format.write]
  have e : Ieee.signed (x / 9223372036854775808 % 2 == 1) m (p - min p p).toNat + Ieee.signed (!(x / 9223372036854775808 % 2 == 1)) m (p - min p p).toNat = 0 := by
    unfold Ieee.signed
    cases (x / 9223372036854775808 % 2 == 1) <;> simp <;> omega
  rw [e, if_pos rfl]
  have e2 : ((x / 9223372036854775808 % 2 == 1) && !(x / 9223372036854775808 % 2 == 1)) = false := by cases (x / 9223372036854775808 % 2 == 1) <;> rfl
  rw [e2]
  unfold Ieee.Format.nearest
  rw [Int.natAbs_zero, if_pos rfl]
  rfl
theorem sub_self_inf (x : Nat) (h : 9218868437227405312 ≤ x % 9223372036854775808) : F64.sub x x = none := by
  unfold Ieee.Format.sub
  by_cases hi : x % 9223372036854775808 = 9218868437227405312
  · rw [read_inf x hi]
    simp only [Ieee.Datum.opposite, Ieee.Datum.sum]
    have : ¬ ((x / 9223372036854775808 % 2 == 1) = !(x / 9223372036854775808 % 2 == 1)) := by cases (x / 9223372036854775808 % 2 == 1) <;> simp
    rw [if_neg this]
    rfl
  · obtain ⟨s, f, q⟩ := read_nan x (by omega)
    rw [q]
    simp [Ieee.Datum.sum]

theorem one64_negneg (b : Nat) : Op.negFloat .f64 (Op.negFloat .f64 b) = b := by
  unfold Op.negFloat
  rw [Nat.xor_assoc, Nat.xor_self, Nat.xor_zero]

end Go.Proofs.Ytaichdcknoopdaa
