/- What is representable is rounded to itself; the operations at such operands. No program in sight. -/
import Derived.Test.YtaichdcknoopdaaFloat
import Derived.Laws.Cover2
namespace Go.Proofs.Ytaichdcknoopdaa
open Go

theorem log2_mul_pow (x c : Nat) (h : x ≠ 0) : (x * 2 ^ c).log2 = x.log2 + c := by
  have hp : 0 < 2 ^ c := Nat.two_pow_pos c
  have h0 : x * 2 ^ c ≠ 0 := Nat.mul_ne_zero h (by omega)
  rw [Nat.log2_eq_iff h0]
  have h1 := (Nat.log2_eq_iff h).1 rfl
  constructor
  · rw [Nat.pow_add]; exact Nat.mul_le_mul_right _ h1.1
  · rw [show x.log2 + c + 1 = (x.log2 + 1) + c from by omega, Nat.pow_add]
    exact Nat.mul_lt_mul_of_pos_right h1.2 hp

/-- 2 to the power of k, closed to the tactics -/
def pw (k : Nat) : Nat := 2 ^ k
theorem pw_add (a b : Nat) : pw a * pw b = pw (a + b) := (Nat.pow_add 2 a b).symm
theorem pw_pos (k : Nat) : 0 < pw k := Nat.two_pow_pos k
theorem pw_52 : pw 52 = 4503599627370496 := by decide
theorem pw_42 : pw 42 = 4398046511104 := by decide
theorem pw_succ (k : Nat) : pw (k + 1) = 2 * pw k := by unfold pw; rw [Nat.pow_succ]; omega

/-- n over 2^j, to the nearest, halves to the even one -/
def rne (n j : Nat) : Nat := n / 2 ^ j + (if 2 ^ j < 2 * (n % 2 ^ j) ∨ (2 ^ j = 2 * (n % 2 ^ j) ∧ n / 2 ^ j % 2 = 1) then 1 else 0)

theorem cut_even (s : Bool) (n j : Nat) : Ieee.Toward.even.cut s n j = rne n j := by
  unfold Ieee.Toward.cut rne
  simp only [Nat.shiftLeft_eq, Nat.one_mul]
  by_cases h : j ≤ n.log2 + 2
  · rw [Nat.min_eq_left h]
    congr 1
    by_cases g : 2 ^ j < 2 * (n % 2 ^ j) ∨ (2 ^ j = 2 * (n % 2 ^ j) ∧ n / 2 ^ j % 2 = 1)
    · rw [if_pos g]
      have : (decide (2 ^ j < 2 * (n % 2 ^ j)) || 2 ^ j == 2 * (n % 2 ^ j) && n / 2 ^ j % 2 == 1) = true := by simpa using g
      rw [this]; rfl
    · rw [if_neg g]
      have : (decide (2 ^ j < 2 * (n % 2 ^ j)) || 2 ^ j == 2 * (n % 2 ^ j) && n / 2 ^ j % 2 == 1) = false := by
        rw [Bool.eq_false_iff]; intro k; exact g (by simpa using k)
      rw [this]; rfl
  · rw [Nat.min_eq_right (by omega)]
    have h1 : n < 2 ^ (n.log2 + 1) := Nat.lt_log2_self
    have h2 : 2 ^ (n.log2 + 2) = 2 * 2 ^ (n.log2 + 1) := by rw [Nat.pow_succ]; omega
    have h3 : 2 ^ (n.log2 + 2) ≤ 2 ^ j := Nat.pow_le_pow_right (by decide) (by omega)
    generalize 2 ^ (n.log2 + 2) = P at *
    generalize 2 ^ (n.log2 + 1) = R at *
    generalize 2 ^ j = Q at *
    rw [Nat.div_eq_of_lt (show n < P by omega), Nat.mod_eq_of_lt (show n < P by omega), Nat.div_eq_of_lt (show n < Q by omega), Nat.mod_eq_of_lt (show n < Q by omega), if_neg (by omega)]
    have : (decide (P < 2 * n) || P == 2 * n && 0 % 2 == 1) = false := by simp; omega
    rw [this]; rfl

theorem rne_exact (k j : Nat) : rne (k * 2 ^ j) j = k := by
  unfold rne
  have hp : 0 < 2 ^ j := Nat.two_pow_pos j
  rw [Nat.mul_div_cancel _ hp, Nat.mul_mod_left, if_neg (by omega)]
  rfl

theorem mag64_split (d k : Nat) (h1 : 4503599627370496 ≤ k) (h2 : k < 9007199254740992) : mag64 (d * 4503599627370496 + k) = k * pw d := by
  unfold mag64 pw
  rw [if_neg (by omega), show (d * 4503599627370496 + k) / 4503599627370496 - 1 = d from by omega, show 4503599627370496 + (d * 4503599627370496 + k) % 4503599627370496 = k from by omega]
theorem mag64_split' (d k : Nat) (h1 : 4503599627370496 ≤ k) (h2 : k ≤ 9007199254740992) : mag64 (d * 4503599627370496 + k) = k * pw d := by
  by_cases h : k = 9007199254740992
  · subst h
    rw [show d * 4503599627370496 + 9007199254740992 = (d + 1) * 4503599627370496 + 4503599627370496 from by omega, mag64_split _ _ (by omega) (by omega), pw_succ]
    omega
  · exact mag64_split d k h1 (by omega)
theorem mag64_small {k : Nat} (h : k < 4503599627370496) : mag64 k = k := by unfold mag64; rw [if_pos h]
theorem mag64_parts (r : Nat) : ∃ d k, r = d * 4503599627370496 + k ∧ k < 9007199254740992 ∧ (d = 0 ∨ 4503599627370496 ≤ k) ∧ mag64 r = k * 2 ^ d := by
  by_cases h : r < 4503599627370496
  · exact ⟨0, r, by omega, by omega, Or.inl rfl, by rw [mag64_small h]; simp⟩
  · refine ⟨r / 4503599627370496 - 1, 4503599627370496 + r % 4503599627370496, by omega, by omega, Or.inr (by omega), ?_⟩
    unfold mag64; rw [if_neg h]

theorem nearest64_exact (s : Bool) (m : Nat) (p : Int) (r : Nat) (hr : r < 9218868437227405312) (a b : Nat) (hab : (a : Int) - b = p + 1074) (h : m * pw a = mag64 r * pw b) :
    F64.nearest s m p = F64.word s r := by
  unfold pw at h
  unfold Ieee.Format.nearest
  by_cases hm : m = 0
  · rw [if_pos hm]
    subst hm
    rw [Nat.zero_mul] at h
    have h0 : mag64 r = 0 := by
      rcases Nat.mul_eq_zero.1 h.symm with g | g
      · exact g
      · exact absurd g (by have := Nat.two_pow_pos b; omega)
    rw [mag64_z.1 h0]
  · rw [if_neg hm]
    obtain ⟨d, k, hrk, hk, hdk, hmag⟩ := mag64_parts r
    rw [hmag, Nat.mul_assoc, ← Nat.pow_add] at h
    have hk0 : k ≠ 0 := by
      rintro rfl
      rw [Nat.zero_mul] at h
      rcases Nat.mul_eq_zero.1 h with g | g
      · exact hm g
      · exact absurd g (by have := Nat.two_pow_pos a; omega)
    have hlog : m.log2 + a = k.log2 + (d + b) := by
      rw [← log2_mul_pow m a hm, ← log2_mul_pow k (d + b) hk0, h]
    have hk2 : k.log2 < 53 := (Nat.log2_lt hk0).2 (by omega)
    have hk3 : d = 0 ∨ k.log2 = 52 := by
      rcases hdk with g | g
      · exact Or.inl g
      · exact Or.inr (by have := (Nat.le_log2 hk0 (k := 52)).2 (by omega); omega)
    rw [f64_fb, f64_lp, f64_bin, f64_inf]
    have hlast : max (p + (m.log2 : Int) - (52 : Nat)) (-1074) = (d : Int) - 1074 := by omega
    simp only []
    rw [hlast, cut_even, Nat.shiftLeft_eq]
    have hcut : rne (m * 2 ^ (p - ((d : Int) - 1074)).toNat) (((d : Int) - 1074) - p).toNat = k := by
      by_cases hc : b + d ≤ a
      · have e1 : (((d : Int) - 1074) - p).toNat = 0 := by omega
        have e2 : (p - ((d : Int) - 1074)).toNat = a - (b + d) := by omega
        rw [e1, e2]
        have e3 : m * 2 ^ (a - (b + d)) = k := by
          have hp : 0 < 2 ^ (d + b) := Nat.two_pow_pos _
          refine Nat.eq_of_mul_eq_mul_right hp ?_
          rw [Nat.mul_assoc, ← Nat.pow_add, show a - (b + d) + (d + b) = a from by omega, h]
        rw [e3]
        have := rne_exact k 0
        simpa using this
      · have e1 : (((d : Int) - 1074) - p).toNat = d + b - a := by omega
        have e2 : (p - ((d : Int) - 1074)).toNat = 0 := by omega
        rw [e1, e2]
        have e3 : m * 2 ^ 0 = k * 2 ^ (d + b - a) := by
          have hp : 0 < 2 ^ a := Nat.two_pow_pos _
          refine Nat.eq_of_mul_eq_mul_right hp ?_
          rw [Nat.pow_zero, Nat.mul_one, Nat.mul_assoc, ← Nat.pow_add, show d + b - a + a = d + b from by omega, h]
        rw [e3]
        exact rne_exact k _
    rw [hcut, show ((d : Int) - 1074 - -1074).toNat = d from by omega, ← hrk, Nat.min_eq_left (by omega)]

/-- a whole number of steps as a pattern -/
theorem rung_of (v e : Nat) (hv0 : v ≠ 0) (hv : v < 9007199254740992) (he : 52 ≤ e) :
    ∃ r, mag64 r = v * pw e ∧ (e + v.log2 - 51) * 4503599627370496 ≤ r ∧ r < (e + v.log2 - 50) * 4503599627370496 := by
  have hl : v.log2 < 53 := (Nat.log2_lt hv0).2 (by omega)
  have b1 := (Nat.log2_eq_iff hv0).1 rfl
  have b2 : v * pw (52 - v.log2) < 9007199254740992 := by
    have : v * 2 ^ (52 - v.log2) < 2 ^ (v.log2 + 1) * 2 ^ (52 - v.log2) := Nat.mul_lt_mul_of_pos_right b1.2 (Nat.two_pow_pos _)
    rw [← Nat.pow_add, show v.log2 + 1 + (52 - v.log2) = 53 from by omega] at this
    exact this
  have b3 : 4503599627370496 ≤ v * pw (52 - v.log2) := by
    have : 2 ^ v.log2 * 2 ^ (52 - v.log2) ≤ v * 2 ^ (52 - v.log2) := Nat.mul_le_mul_right _ b1.1
    rw [← Nat.pow_add, show v.log2 + (52 - v.log2) = 52 from by omega] at this
    exact this
  refine ⟨(e + v.log2 - 52) * 4503599627370496 + v * pw (52 - v.log2), ?_, by omega, by omega⟩
  rw [mag64_split (e + v.log2 - 52) (v * pw (52 - v.log2)) b3 b2, Nat.mul_assoc, pw_add, show 52 - v.log2 + (e + v.log2 - 52) = e from by omega]

theorem word_false (r : Nat) : F64.word false r = r := rfl
theorem read_pos {x : Nat} (hx : x < 9218868437227405312) : ∃ m p, F64.read x = .number false m p ∧ -1074 ≤ p ∧ m * 2 ^ (p + 1074).toNat = mag64 x := by
  obtain ⟨m, p, h1, h2, h3⟩ := read64_fin x (by omega)
  have e1 : x % 9223372036854775808 = x := Nat.mod_eq_of_lt (by omega)
  have e2 : (x / 9223372036854775808 % 2 == 1) = false := by rw [Nat.div_eq_of_lt (by omega)]; rfl
  rw [e1] at h3
  rw [e2] at h1
  exact ⟨m, p, h1, h2, h3⟩

theorem pow_split (m : Nat) {a b c : Nat} (h : a + b = c) : m * 2 ^ a * 2 ^ b = m * 2 ^ c := by
  rw [Nat.mul_assoc, ← Nat.pow_add, h]

theorem add_exact {x y r : Nat} (hx : x < 9218868437227405312) (hy : y < 9218868437227405312) (hr : r < 9218868437227405312) (h : mag64 x + mag64 y = mag64 r) : F64.add x y = some r := by
  obtain ⟨m, p, h1, h2, h3⟩ := read_pos hx
  obtain ⟨n, q, g1, g2, g3⟩ := read_pos hy
  unfold Ieee.Format.add
  rw [h1, g1]
  simp only [Ieee.Datum.sum, Ieee.signed, Option.map_some, Ieee.Format.write, Bool.false_eq_true, if_false, Bool.and_false]
  have hb : -1074 ≤ min p q := by omega
  have e0 : ((m <<< (p - min p q).toNat : Nat) : Int) + ((n <<< (q - min p q).toNat : Nat) : Int) = ((m * 2 ^ (p - min p q).toNat + n * 2 ^ (q - min p q).toNat : Nat) : Int) := by
    rw [Nat.shiftLeft_eq, Nat.shiftLeft_eq]; rfl
  rw [e0, Int.natAbs_natCast]
  have e1 : (if ((m * 2 ^ (p - min p q).toNat + n * 2 ^ (q - min p q).toNat : Nat) : Int) = 0 then false else decide (((m * 2 ^ (p - min p q).toNat + n * 2 ^ (q - min p q).toNat : Nat) : Int) < 0)) = false := by
    split
    · rfl
    · exact decide_eq_false (by omega)
  rw [e1, nearest64_exact false _ _ r hr (min p q + 1074).toNat 0 (by omega) (by
    unfold pw
    rw [Nat.add_mul, pow_split m (show (p - min p q).toNat + (min p q + 1074).toNat = (p + 1074).toNat from by omega), pow_split n (show (q - min p q).toNat + (min p q + 1074).toNat = (q + 1074).toNat from by omega), h3, g3, h]; simp), word_false]

theorem sub_exact {x y r : Nat} (hx : x < 9218868437227405312) (hy : y < 9218868437227405312) (hr : r < 9218868437227405312) (h : mag64 x = mag64 y + mag64 r) : F64.sub x y = some r := by
  obtain ⟨m, p, h1, h2, h3⟩ := read_pos hx
  obtain ⟨n, q, g1, g2, g3⟩ := read_pos hy
  unfold Ieee.Format.sub
  rw [h1, g1]
  simp only [Ieee.Datum.opposite, Bool.not_false, Ieee.Datum.sum, Ieee.signed, Option.map_some, Ieee.Format.write, Bool.false_eq_true, if_false, Bool.false_and, if_true]
  have hb : -1074 ≤ min p q := by omega
  have q3 : m * 2 ^ (p - min p q).toNat * 2 ^ (min p q + 1074).toNat = mag64 x := by rw [pow_split m (show (p - min p q).toNat + (min p q + 1074).toNat = (p + 1074).toNat from by omega), h3]
  have q4 : n * 2 ^ (q - min p q).toNat * 2 ^ (min p q + 1074).toNat = mag64 y := by rw [pow_split n (show (q - min p q).toNat + (min p q + 1074).toNat = (q + 1074).toNat from by omega), g3]
  rw [Nat.shiftLeft_eq, Nat.shiftLeft_eq]
  generalize m * 2 ^ (p - min p q).toNat = A at *
  generalize n * 2 ^ (q - min p q).toNat = B at *
  have hAB : B ≤ A := by
    have hp : 0 < 2 ^ (min p q + 1074).toNat := Nat.two_pow_pos _
    refine Nat.le_of_mul_le_mul_right ?_ hp
    rw [q3, q4, h]; omega
  have e0 : ((A : Nat) : Int) + -((B : Nat) : Int) = ((A - B : Nat) : Int) := by omega
  rw [e0, Int.natAbs_natCast]
  have e1 : (if ((A - B : Nat) : Int) = 0 then false else decide (((A - B : Nat) : Int) < 0)) = false := by
    split
    · rfl
    · exact decide_eq_false (by omega)
  rw [e1, nearest64_exact false _ _ r hr (min p q + 1074).toNat 0 (by omega) (by
    unfold pw
    rw [Nat.sub_mul, q3, q4, h]; simp), word_false]

theorem hpq (p q : Int) (h1 : -1074 ≤ p) (h2 : -1074 ≤ q) : (((p + 1074).toNat + (q + 1074).toNat : Nat) : Int) - (1074 : Nat) = p + q + 1074 := by omega
theorem ofI : ((1074 : Nat) : Int) - (0 : Nat) = 0 + 1074 := by omega
theorem mul_exact {x y r : Nat} (hx : x < 9218868437227405312) (hy : y < 9218868437227405312) (hr : r < 9218868437227405312) (h : mag64 x * mag64 y = mag64 r * pw 1074) : F64.mul x y = some r := by
  obtain ⟨m, p, h1, h2, h3⟩ := read_pos hx
  obtain ⟨n, q, g1, g2, g3⟩ := read_pos hy
  unfold Ieee.Format.mul
  rw [h1, g1]
  simp only [Ieee.Datum.product, Option.map_some, Ieee.Format.write, Bool.xor_false]
  rw [nearest64_exact false _ _ r hr ((p + 1074).toNat + (q + 1074).toNat) 1074 (hpq p q h2 g2) (by
    have h3' : m * pw (p + 1074).toNat = mag64 x := h3
    have g3' : n * pw (q + 1074).toNat = mag64 y := g3
    rw [← h, ← h3', ← g3', ← pw_add]
    generalize pw (p + 1074).toNat = A
    generalize pw (q + 1074).toNat = B
    rw [Nat.mul_assoc, Nat.mul_assoc]
    congr 1
    rw [Nat.mul_left_comm]), word_false]

theorem ofInt_exact (n : Int) (r : Nat) (hr : r < 9218868437227405312) (h : n.natAbs * pw 1074 = mag64 r) : floatOfInt .f64 n = F64.word (decide (n < 0)) r := by
  have e : floatOfInt .f64 n = F64.nearest (decide (n < 0)) n.natAbs 0 := rfl
  rw [e]
  exact nearest64_exact _ _ _ r hr 1074 0 ofI (by rw [h, show pw 0 = 1 from rfl, Nat.mul_one])

theorem cut_zero (s : Bool) (n j : Nat) : Ieee.Toward.zero.cut s n j = n / 2 ^ j := by
  unfold Ieee.Toward.cut
  simp only [Nat.shiftLeft_eq, Nat.one_mul, Bool.toNat_false, Nat.add_zero]
  by_cases h : j ≤ n.log2 + 2
  · rw [Nat.min_eq_left h]
  · rw [Nat.min_eq_right (by omega)]
    have h1 : n < 2 ^ (n.log2 + 1) := Nat.lt_log2_self
    have h2 : 2 ^ (n.log2 + 1) ≤ 2 ^ (n.log2 + 2) := Nat.pow_le_pow_right (by decide) (by omega)
    have h3 : 2 ^ (n.log2 + 2) ≤ 2 ^ j := Nat.pow_le_pow_right (by decide) (by omega)
    rw [Nat.div_eq_of_lt (by omega), Nat.div_eq_of_lt (by omega)]

/-- the whole number towards 0 of a finite pattern -/
def trunc64 (w : Nat) : Int := if w / 9223372036854775808 % 2 = 1 then -((mag64 (w % 9223372036854775808) / pw 1074 : Nat) : Int) else ((mag64 (w % 9223372036854775808) / pw 1074 : Nat) : Int)

theorem toInt64 (w : Nat) (h : w % 9223372036854775808 < 9218868437227405312) : (F64.read w).toInt .zero = some (trunc64 w) := by
  obtain ⟨m, p, h1, h2, h3⟩ := read64_fin w h
  rw [h1]
  simp only [Ieee.Datum.toInt, Ieee.Datum.integral, Ieee.signed]
  rw [cut_zero, Nat.shiftLeft_eq, Nat.shiftLeft_eq]
  have e : m * 2 ^ p.toNat / 2 ^ (-p).toNat * 2 ^ 0 = mag64 (w % 9223372036854775808) / pw 1074 := by
    have h3' : m * pw (p + 1074).toNat = mag64 (w % 9223372036854775808) := h3
    rw [← h3', Nat.pow_zero, Nat.mul_one]
    change m * pw p.toNat / pw (-p).toNat = _
    by_cases hp : 0 ≤ p
    · rw [show (-p).toNat = 0 from by omega, show (p + 1074).toNat = p.toNat + 1074 from by omega, ← pw_add, ← Nat.mul_assoc, Nat.mul_div_cancel _ (pw_pos _), show pw 0 = 1 from rfl, Nat.div_one]
    · rw [show p.toNat = 0 from by omega, show pw 0 = 1 from rfl, Nat.mul_one, show 1074 = (-p).toNat + (p + 1074).toNat from by omega, ← pw_add, Nat.mul_div_mul_right _ _ (pw_pos _)]
  rw [e]
  unfold trunc64
  simp only [beq_iff_eq]

theorem toIntVal64 (w : Nat) (k : IntKind) (h : w % 9223372036854775808 < 9218868437227405312) (hk : k.min ≤ trunc64 w ∧ trunc64 w ≤ k.max) : floatToIntVal .f64 w k = some (trunc64 w) := by
  unfold floatToIntVal
  have e : (FloatKind.f64.decode w).toInt .zero = some (trunc64 w) := toInt64 w h
  rw [e]
  simp only []
  rw [if_pos hk]
end Go.Proofs.Ytaichdcknoopdaa
