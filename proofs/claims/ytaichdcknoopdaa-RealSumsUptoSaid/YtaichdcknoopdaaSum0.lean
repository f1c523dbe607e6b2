/- The plain law of Sum: the document's sum is the model's. -/
import Derived.Test.YtaichdcknoopdaaParts
import Derived.Test.YtaichdcknoopdaaAdd
namespace Go.Proofs.Ytaichdcknoopdaa
open Go

def sgn64 (n : Nat) : Bool := n / 9223372036854775808 % 2 == 1
/-- the sign's bit of a pattern -/
def topOf (n : Nat) : Nat := n / 9223372036854775808 * 9223372036854775808

theorem word_add (s : Bool) (r : Nat) : F64.word s r = (if s = true then 9223372036854775808 else 0) + r := by
  unfold Ieee.Format.word
  rw [f64_sw]
  cases s
  · simp
  · rfl
theorem nearest_word (s : Bool) (m : Nat) (p : Int) : F64.nearest s m p = F64.word s (F64.nearest false m p) := by
  by_cases hm : m = 0
  · subst hm
    unfold Ieee.Format.nearest
    rw [if_pos rfl, if_pos rfl, word_false]
  · rw [nearest_steps s m p hm, nearest_steps false m p hm, word_false]
theorem top_of (n : Nat) (hn : n < 18446744073709551616) : topOf n = if sgn64 n = true then 9223372036854775808 else 0 := by
  unfold topOf sgn64
  by_cases h : n < 9223372036854775808
  · rw [Nat.div_eq_of_lt h]; rfl
  · rw [show n / 9223372036854775808 = 1 from by omega]; rfl
theorem nearest_top (n m : Nat) (p : Int) (hn : n < 18446744073709551616) : F64.nearest (sgn64 n) m p = topOf n + F64.nearest false m p := by
  rw [nearest_word, word_add, top_of n hn]
theorem nearest_le (m : Nat) (p : Int) : F64.nearest false m p ≤ 9218868437227405312 := by
  obtain ⟨r, h1, h2⟩ := nearest64_word false m p
  rw [h2, word_false]; exact h1

theorem read_parts (n : Nat) (h : n % 9223372036854775808 < 9218868437227405312) : F64.read n = .number (sgn64 n) (mOf n) (pOf n) := by
  rw [read64]
  unfold mOf pOf sgn64
  by_cases h1 : n % 9223372036854775808 < 4503599627370496
  · rw [if_pos h1, if_pos (by omega), if_pos (by omega)]
    congr 1
    omega
  · rw [if_neg h1, if_pos h, if_neg (by omega), if_neg (by omega)]
    congr 1
    · omega
    · omega

theorem add_fin (a b : Nat) (ha : a % 9223372036854775808 < 9218868437227405312) (hb : b % 9223372036854775808 < 9218868437227405312) :
    add64 a b = F64.nearest (if Ieee.signed (sgn64 a) (mOf a) (pOf a - min (pOf a) (pOf b)).toNat + Ieee.signed (sgn64 b) (mOf b) (pOf b - min (pOf a) (pOf b)).toNat = 0 then sgn64 a && sgn64 b
      else decide (Ieee.signed (sgn64 a) (mOf a) (pOf a - min (pOf a) (pOf b)).toNat + Ieee.signed (sgn64 b) (mOf b) (pOf b - min (pOf a) (pOf b)).toNat < 0))
      (Ieee.signed (sgn64 a) (mOf a) (pOf a - min (pOf a) (pOf b)).toNat + Ieee.signed (sgn64 b) (mOf b) (pOf b - min (pOf a) (pOf b)).toNat).natAbs (min (pOf a) (pOf b)) := by
  unfold add64 Ieee.Format.add
  rw [read_parts a ha, read_parts b hb]
  rfl

/-- what is moved up -/
def upOf (n : Nat) (low : Int) : Nat := mOf n * 2 ^ (pOf n - low).toNat
theorem signed_up (s : Bool) (n : Nat) (low : Int) : Ieee.signed s (mOf n) (pOf n - low).toNat = if s = true then -(upOf n low : Int) else (upOf n low : Int) := by
  unfold Ieee.signed upOf
  rw [Nat.shiftLeft_eq]

theorem sum_same (a b : Nat) (low : Int) (hl : low = min (pOf a) (pOf b)) (han : a < 18446744073709551616) (ha : a % 9223372036854775808 < 9218868437227405312) (hb : b % 9223372036854775808 < 9218868437227405312)
    (hs : sgn64 a = sgn64 b) : add64 a b = topOf a + F64.nearest false (upOf a low + upOf b low) low := by
  rw [add_fin a b ha hb, ← hl, signed_up, signed_up, ← hs, ← nearest_top _ _ _ han]
  generalize upOf a low = X
  generalize upOf b low = Y
  cases sgn64 a
  · simp only [Bool.false_eq_true, if_false, Bool.and_self]
    rw [show ((X : Int) + Y).natAbs = X + Y from by omega]
    congr 1
    split
    · rfl
    · exact decide_eq_false (by omega)
  · simp only [if_true, Bool.and_self]
    rw [show (-(X : Int) + -(Y : Int)).natAbs = X + Y from by omega]
    congr 1
    split
    · rfl
    · exact decide_eq_true (by omega)

theorem sum_zero (a b : Nat) (low : Int) (hl : low = min (pOf a) (pOf b)) (ha : a % 9223372036854775808 < 9218868437227405312) (hb : b % 9223372036854775808 < 9218868437227405312)
    (hs : sgn64 a ≠ sgn64 b) (h : upOf a low = upOf b low) : add64 a b = 0 := by
  rw [add_fin a b ha hb, ← hl, signed_up, signed_up, h]
  generalize upOf b low = Y
  have e : ((if sgn64 a = true then -(Y : Int) else (Y : Int)) + if sgn64 b = true then -(Y : Int) else (Y : Int)) = 0 := by
    cases h1 : sgn64 a <;> cases h2 : sgn64 b <;> simp_all <;> omega
  rw [e, if_pos rfl]
  have e2 : (sgn64 a && sgn64 b) = false := by
    cases h1 : sgn64 a <;> cases h2 : sgn64 b <;> simp_all
  rw [e2]
  unfold Ieee.Format.nearest
  rw [Int.natAbs_zero, if_pos rfl]
  rfl

theorem sum_more (a b D : Nat) (low : Int) (hl : low = min (pOf a) (pOf b)) (han : a < 18446744073709551616) (ha : a % 9223372036854775808 < 9218868437227405312) (hb : b % 9223372036854775808 < 9218868437227405312)
    (hs : sgn64 a ≠ sgn64 b) (h : upOf a low = upOf b low + D) (hD : D ≠ 0) : add64 a b = topOf a + F64.nearest false D low := by
  rw [add_fin a b ha hb, ← hl, signed_up, signed_up, h, ← nearest_top _ _ _ han]
  generalize upOf b low = Y
  cases h1 : sgn64 a <;> cases h2 : sgn64 b
  · exact absurd (h1.trans h2.symm) hs
  · simp only [Bool.false_eq_true, if_false, if_true]
    rw [show (((Y + D : Nat) : Int) + -(Y : Int)).natAbs = D from by omega, if_neg (by omega), decide_eq_false (by omega)]
  · simp only [Bool.false_eq_true, if_false, if_true]
    rw [show (-((Y + D : Nat) : Int) + (Y : Int)).natAbs = D from by omega, if_neg (by omega), decide_eq_true (by omega)]
  · exact absurd (h1.trans h2.symm) hs

theorem sum_less (a b D : Nat) (low : Int) (hl : low = min (pOf a) (pOf b)) (hbn : b < 18446744073709551616) (ha : a % 9223372036854775808 < 9218868437227405312) (hb : b % 9223372036854775808 < 9218868437227405312)
    (hs : sgn64 a ≠ sgn64 b) (h : upOf b low = upOf a low + D) (hD : D ≠ 0) : add64 a b = topOf b + F64.nearest false D low := by
  rw [add64_comm]
  exact sum_more b a D low (by rw [hl, Int.min_comm]) hbn hb ha (fun k => hs k.symm) h hD

theorem sum_nan (a b : Nat) (h : nan64 a = true ∨ nan64 b = true) : add64 a b = 9221120237041090560 := by
  unfold add64 Ieee.Format.add
  have e : (F64.read a).sum (F64.read b) = none := by
    rcases h with h | h
    · obtain ⟨s, f, q⟩ := read_nan a (by simpa [nan64] using h)
      rw [q]; rfl
    · obtain ⟨s, f, q⟩ := read_nan b (by simpa [nan64] using h)
      rw [q]; cases F64.read a <;> rfl
  rw [e]; rfl
theorem sum_infs (a b : Nat) (ha : a % 9223372036854775808 = 9218868437227405312) (hb : b % 9223372036854775808 = 9218868437227405312) (han : a < 18446744073709551616) (hbn : b < 18446744073709551616) (h : a ≠ b) :
    add64 a b = 9221120237041090560 := by
  unfold add64 Ieee.Format.add
  rw [read_inf a ha, read_inf b hb]
  have : ¬ ((a / 9223372036854775808 % 2 == 1) = (b / 9223372036854775808 % 2 == 1)) := by
    intro k
    apply h
    by_cases h1 : a / 9223372036854775808 % 2 = 1
    · by_cases h2 : b / 9223372036854775808 % 2 = 1
      · omega
      · simp [h1, h2] at k
    · by_cases h2 : b / 9223372036854775808 % 2 = 1
      · simp [h1, h2] at k
      · omega
  simp only [Ieee.Datum.sum]
  rw [if_neg this]; rfl
theorem sum_inf (a b : Nat) (ha : a % 9223372036854775808 = 9218868437227405312) (han : a < 18446744073709551616) (hb : nan64 b = false) (h : b % 9223372036854775808 = 9218868437227405312 → a = b) : add64 a b = a := by
  unfold add64 Ieee.Format.add
  rw [read_inf a ha]
  have e : (Ieee.Datum.infinity (a / 9223372036854775808 % 2 == 1)).sum (F64.read b) = some (.infinity (a / 9223372036854775808 % 2 == 1)) := by
    by_cases hi : b % 9223372036854775808 = 9218868437227405312
    · obtain rfl := h hi
      rw [read_inf a hi]
      simp only [Ieee.Datum.sum, if_true]
    · rw [read_parts b (by simp [nan64] at hb; omega)]
      rfl
  rw [e]
  show F64.word _ F64.infRung = a
  rw [f64_inf, ← ha]
  exact rebuild a han
end Go.Proofs.Ytaichdcknoopdaa
