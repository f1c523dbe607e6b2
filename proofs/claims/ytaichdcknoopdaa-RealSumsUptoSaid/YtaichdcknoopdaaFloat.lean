/- Plain facts on the model's floats of 64 bits: no program in sight. -/
import Derived.Laws.FloatArith
import Derived.Laws.Bits64
import Derived.Laws.Bits64b
namespace Go.Proofs.Ytaichdcknoopdaa
open Go

abbrev F64 : Ieee.Format := FloatKind.f64.format

theorem f64_sw : F64.signWeight = 9223372036854775808 := by decide +kernel
theorem f64_bin : F64.binade = 4503599627370496 := by decide +kernel
theorem f64_inf : F64.infRung = 9218868437227405312 := by decide +kernel
theorem f64_lp : F64.leastPlace = -1074 := by decide +kernel
theorem f64_fb : F64.fractionBits = 52 := rfl

/-- What a pattern stands for, by its exponent's field. -/
theorem read64 (w : Nat) : F64.read w =
    if w % 9223372036854775808 < 4503599627370496 then .number (w / 9223372036854775808 % 2 == 1) (w % 9223372036854775808) (-1074)
    else if w % 9223372036854775808 < 9218868437227405312 then
      .number (w / 9223372036854775808 % 2 == 1) (4503599627370496 + w % 9223372036854775808 % 4503599627370496) (-1074 + (w % 9223372036854775808 / 4503599627370496 - 1 : Nat))
    else if w % 9223372036854775808 = 9218868437227405312 then .infinity (w / 9223372036854775808 % 2 == 1)
    else .nan (w / 9223372036854775808 % 2 == 1) (w % 9223372036854775808 - 9218868437227405312) := by
  unfold Ieee.Format.read
  simp only [f64_sw, f64_bin, f64_inf, f64_lp]

def nan64 (w : Nat) : Bool := decide (9218868437227405312 < w % 9223372036854775808)

/-- magnitude of a finite rung times 2^1074 -/
def mag64 (r : Nat) : Nat := if r < 4503599627370496 then r else (4503599627370496 + r % 4503599627370496) * 2 ^ (r / 4503599627370496 - 1)

theorem mag64_mono {a b : Nat} (h : a < b) : mag64 a < mag64 b := by
  unfold mag64
  by_cases ha : a < 4503599627370496
  · rw [if_pos ha]
    by_cases hb : b < 4503599627370496
    · rw [if_pos hb]; exact h
    · rw [if_neg hb]
      have : 1 ≤ 2 ^ (b / 4503599627370496 - 1) := Nat.one_le_two_pow
      calc a < 4503599627370496 * 1 := by omega
        _ ≤ (4503599627370496 + b % 4503599627370496) * 2 ^ (b / 4503599627370496 - 1) := Nat.mul_le_mul (by omega) this
  · rw [if_neg ha, if_neg (by omega)]
    by_cases he : a / 4503599627370496 = b / 4503599627370496
    · rw [he]
      exact Nat.mul_lt_mul_of_pos_right (by omega) (Nat.two_pow_pos _)
    · have hlt : a / 4503599627370496 < b / 4503599627370496 := by omega
      obtain ⟨k, hk⟩ : ∃ k, b / 4503599627370496 - 1 = (a / 4503599627370496 - 1) + 1 + k := ⟨b / 4503599627370496 - a / 4503599627370496 - 1, by omega⟩
      rw [hk, Nat.pow_add, Nat.pow_add]
      have h1 : 1 ≤ 2 ^ k := Nat.one_le_two_pow
      have h2 : 0 < 2 ^ (a / 4503599627370496 - 1) := Nat.two_pow_pos _
      generalize 2 ^ (a / 4503599627370496 - 1) = P at *
      generalize 2 ^ k = Q at *
      have h3 : (4503599627370496 + a % 4503599627370496) * P < 9007199254740992 * P := Nat.mul_lt_mul_of_pos_right (by omega) h2
      have h4 : 9007199254740992 * P ≤ (4503599627370496 + b % 4503599627370496) * (P * 2 ^ 1 * Q) := by
        have : P * 2 ^ 1 * 1 ≤ P * 2 ^ 1 * Q := Nat.mul_le_mul_left _ h1
        calc 9007199254740992 * P = 4503599627370496 * (P * 2 ^ 1 * 1) := by omega
          _ ≤ 4503599627370496 * (P * 2 ^ 1 * Q) := Nat.mul_le_mul_left _ this
          _ ≤ _ := Nat.mul_le_mul_right _ (by omega)
      omega

theorem mag64_inj {a b : Nat} (h : mag64 a = mag64 b) : a = b := by
  rcases Nat.lt_trichotomy a b with g | g | g
  · have := mag64_mono g; omega
  · exact g
  · have := mag64_mono g; omega

theorem mag64_zero : mag64 0 = 0 := by decide

/-- A finite pattern's datum, over 2^(-1074) at a common place. -/
theorem read64_fin (w : Nat) (h : w % 9223372036854775808 < 9218868437227405312) :
    ∃ m p, F64.read w = .number (w / 9223372036854775808 % 2 == 1) m p ∧ -1074 ≤ p ∧ m * 2 ^ (p + 1074).toNat = mag64 (w % 9223372036854775808) := by
  rw [read64]
  by_cases h1 : w % 9223372036854775808 < 4503599627370496
  · rw [if_pos h1]
    exact ⟨_, _, rfl, by omega, by simp [mag64, h1]⟩
  · rw [if_neg h1, if_pos h]
    refine ⟨_, _, rfl, by omega, ?_⟩
    unfold mag64
    rw [if_neg h1]
    congr 2
    omega

theorem shl_pow (m k : Nat) : m <<< k = m * 2 ^ k := Nat.shiftLeft_eq m k

theorem cmp_scale (a b : Int) (k : Nat) : compare (a * (2 ^ k : Nat)) (b * (2 ^ k : Nat)) = compare a b := by
  have hp : (0 : Int) < ((2 ^ k : Nat) : Int) := by exact_mod_cast Nat.two_pow_pos k
  simp only [compare, compareOfLessAndEq]
  have e1 : (a * ((2 ^ k : Nat) : Int) < b * ((2 ^ k : Nat) : Int)) ↔ a < b := Int.mul_lt_mul_right hp
  have e2 : (a * ((2 ^ k : Nat) : Int) = b * ((2 ^ k : Nat) : Int)) ↔ a = b := Int.mul_eq_mul_right_iff (by omega)
  simp only [e1, e2]

theorem signed_scale (s : Bool) (m i k : Nat) : Ieee.signed s m i * (2 ^ k : Nat) = Ieee.signed s m (i + k) := by
  unfold Ieee.signed
  cases s <;> simp [Nat.shiftLeft_eq, Nat.pow_add, Int.mul_assoc, Int.neg_mul]

/-- the value of a finite pattern, in units of 2^(-1074) -/
def sval64 (w : Nat) : Int := if w / 9223372036854775808 % 2 = 1 then -(mag64 (w % 9223372036854775808) : Int) else mag64 (w % 9223372036854775808)

theorem order64_fin (x y : Nat) (hx : x % 9223372036854775808 < 9218868437227405312) (hy : y % 9223372036854775808 < 9218868437227405312) :
    F64.order x y = some (compare (sval64 x) (sval64 y)) := by
  obtain ⟨m, p, h1, h2, h3⟩ := read64_fin x hx
  obtain ⟨n, q, g1, g2, g3⟩ := read64_fin y hy
  unfold Ieee.Format.order
  rw [h1, g1]
  simp only [Ieee.Datum.order]
  congr 1
  have hb : -1074 ≤ min p q := by omega
  rw [← cmp_scale _ _ (min p q + 1074).toNat, signed_scale, signed_scale]
  have e1 : (p - min p q).toNat + (min p q + 1074).toNat = (p + 1074).toNat := by omega
  have e2 : (q - min p q).toNat + (min p q + 1074).toNat = (q + 1074).toNat := by omega
  rw [e1, e2]
  unfold Ieee.signed sval64
  rw [shl_pow, shl_pow, h3, g3]
  simp only [beq_iff_eq]


/-- A pattern's place on the line. -/
def rank64 (w : Nat) : Int := if w / 9223372036854775808 % 2 = 1 then -((w % 9223372036854775808 : Nat) : Int) else ((w % 9223372036854775808 : Nat) : Int)

theorem cmp_of {a b c d : Int} (h1 : a < b ↔ c < d) (h2 : a = b ↔ c = d) : compare a b = compare c d := by
  simp only [compare, compareOfLessAndEq]
  by_cases g : a < b
  · rw [if_pos g, if_pos (h1.1 g)]
  · rw [if_neg g, if_neg (fun k => g (h1.2 k))]
    by_cases e : a = b
    · rw [if_pos e, if_pos (h2.1 e)]
    · rw [if_neg e, if_neg (fun k => e (h2.2 k))]

theorem mag64_lt_iff {a b : Nat} : mag64 a < mag64 b ↔ a < b := by
  constructor
  · intro h
    rcases Nat.lt_trichotomy a b with g | g | g
    · exact g
    · rw [g] at h; omega
    · have := mag64_mono g; omega
  · exact mag64_mono
theorem mag64_eq_iff {a b : Nat} : mag64 a = mag64 b ↔ a = b := ⟨mag64_inj, fun h => by rw [h]⟩
theorem mag64_pos_iff {a : Nat} : 0 < mag64 a ↔ 0 < a := by
  have := @mag64_lt_iff 0 a
  rw [mag64_zero] at this
  exact this
theorem mag64_z {a : Nat} : mag64 a = 0 ↔ a = 0 := by
  have := @mag64_pos_iff a
  omega

theorem order64_rank (x y : Nat) (hx : x % 9223372036854775808 ≤ 9218868437227405312) (hy : y % 9223372036854775808 ≤ 9218868437227405312) :
    F64.order x y = some (compare (rank64 x) (rank64 y)) := by
  by_cases h1 : x % 9223372036854775808 < 9218868437227405312
  · by_cases h2 : y % 9223372036854775808 < 9218868437227405312
    · rw [order64_fin x y h1 h2]
      congr 1
      have a1 := @mag64_lt_iff (x % 9223372036854775808) (y % 9223372036854775808)
      have a2 := @mag64_lt_iff (y % 9223372036854775808) (x % 9223372036854775808)
      have a3 := @mag64_z (x % 9223372036854775808)
      have a4 := @mag64_z (y % 9223372036854775808)
      unfold sval64 rank64
      generalize mag64 (x % 9223372036854775808) = A at *
      generalize mag64 (y % 9223372036854775808) = B at *
      apply cmp_of <;> (split <;> split <;> omega)
    · have h3 : y % 9223372036854775808 = 9218868437227405312 := by omega
      obtain ⟨m, p, g1, -, -⟩ := read64_fin x h1
      unfold Ieee.Format.order
      rw [g1, read64 y, if_neg (by omega), if_neg h2, if_pos h3]
      unfold rank64
      rw [h3]
      simp only [Ieee.Datum.order, beq_iff_eq]
      simp only [compare, compareOfLessAndEq]
      by_cases s : y / 9223372036854775808 % 2 = 1
      · rw [if_pos s, if_pos s]
        have : ¬ ((if x / 9223372036854775808 % 2 = 1 then -((x % 9223372036854775808 : Nat) : Int) else ((x % 9223372036854775808 : Nat) : Int)) < -((9218868437227405312 : Nat) : Int)) := by split <;> omega
        rw [if_neg this, if_neg (by split <;> omega)]
      · rw [if_neg s, if_neg s, if_pos (by split <;> omega)]
  · have h3 : x % 9223372036854775808 = 9218868437227405312 := by omega
    by_cases h2 : y % 9223372036854775808 < 9218868437227405312
    · obtain ⟨m, p, g1, -, -⟩ := read64_fin y h2
      unfold Ieee.Format.order
      rw [g1, read64 x, if_neg (by omega), if_neg h1, if_pos h3]
      unfold rank64
      rw [h3]
      simp only [Ieee.Datum.order, beq_iff_eq]
      simp only [compare, compareOfLessAndEq]
      by_cases s : x / 9223372036854775808 % 2 = 1
      · rw [if_pos s, if_pos s, if_pos (by split <;> omega)]
      · rw [if_neg s, if_neg s, if_neg (by split <;> omega), if_neg (by split <;> omega)]
    · have h4 : y % 9223372036854775808 = 9218868437227405312 := by omega
      unfold Ieee.Format.order
      rw [read64 x, if_neg (by omega), if_neg h1, if_pos h3, read64 y, if_neg (by omega), if_neg h2, if_pos h4]
      unfold rank64
      rw [h3, h4]
      simp only [Ieee.Datum.order]
      have e : ∀ z : Nat, (z % 2 == 1) = decide (z % 2 = 1) := fun z => by rw [Bool.eq_iff_iff]; simp
      rw [e, e]
      by_cases s : x / 9223372036854775808 % 2 = 1 <;> by_cases t : y / 9223372036854775808 % 2 = 1 <;> simp only [s, t, decide_true, decide_false, if_true, if_false] <;> decide

theorem order64_nan (x y : Nat) (h : nan64 x = true ∨ nan64 y = true) : F64.order x y = none := by
  unfold Ieee.Format.order
  unfold nan64 at h
  simp only [decide_eq_true_eq] at h
  rcases h with h | h
  · rw [read64 x, if_neg (by omega), if_neg (by omega), if_neg (by omega)]
    simp [Ieee.Datum.order]
  · rw [read64 y, if_neg (by omega), if_neg (by omega), if_neg (by omega)]
    cases F64.read x <;> simp [Ieee.Datum.order]

theorem order64_self (x : Nat) : (F64.order x x != some Ordering.eq) = nan64 x := by
  cases h : nan64 x with
  | true => rw [order64_nan x x (Or.inl h)]; rfl
  | false =>
    unfold nan64 at h
    simp only [decide_eq_false_iff_not] at h
    rw [order64_rank x x (by omega) (by omega)]
    simp [compare, compareOfLessAndEq]

/-- any pattern of no number is told as one -/
def one64 (w : Nat) : Nat := if nan64 w = true then 9221120237041090560 else w

theorem and_exp (n : Nat) : n &&& 9218868437227405312 = n / 4503599627370496 % 2048 * 4503599627370496 := by
  have h : (9218868437227405312 : Nat) = 2 ^ 52 * 2047 := by decide
  apply Nat.eq_of_testBit_eq
  intro i
  rw [Nat.testBit_and, h, Nat.mul_comm (2 ^ 52) 2047, ← Nat.shiftLeft_eq, Nat.testBit_shiftLeft, show (4503599627370496 : Nat) = 2 ^ 52 from by decide, ← Nat.shiftLeft_eq, Nat.testBit_shiftLeft,
    show (2047 : Nat) = 2 ^ 11 - 1 from by decide, Nat.testBit_two_pow_sub_one, show (2048 : Nat) = 2 ^ 11 from by decide, Nat.testBit_mod_two_pow, Nat.testBit_div_two_pow]
  by_cases g : 52 ≤ i
  · simp only [g, decide_true, Bool.true_and]
    rw [show i - 52 + 52 = i from by omega, Bool.and_comm]
  · simp [g]
theorem and_frac (n : Nat) : n &&& 4503599627370495 = n % 4503599627370496 := by
  have := Nat.and_two_pow_sub_one_eq_mod n 52
  simpa using this
theorem and_size (n : Nat) : n &&& 9223372036854775807 = n % 9223372036854775808 := by
  have := Nat.and_two_pow_sub_one_eq_mod n 63
  simpa using this

theorem word64_mod (s : Bool) (r : Nat) (h : r ≤ 9218868437227405312) : F64.word s r % 9223372036854775808 = r := by
  unfold Ieee.Format.word
  rw [f64_sw]
  split <;> omega
theorem word64_lt (s : Bool) (r : Nat) (h : r ≤ 9218868437227405312) : F64.word s r < 18446744073709551616 := by
  unfold Ieee.Format.word
  rw [f64_sw]
  split <;> omega
theorem nearest64_word (s : Bool) (m : Nat) (p : Int) : ∃ r, r ≤ 9218868437227405312 ∧ F64.nearest s m p = F64.word s r := by
  unfold Ieee.Format.nearest
  dsimp only
  split
  · exact ⟨0, by omega, rfl⟩
  · exact ⟨_, by rw [← f64_inf]; exact Nat.min_le_right _ _, rfl⟩
theorem write64_word (d : Ieee.Datum) (h : d.isNaN = false) : ∃ s r, r ≤ 9218868437227405312 ∧ F64.write d = F64.word s r := by
  cases d with
  | number s m p => obtain ⟨r, h1, h2⟩ := nearest64_word s m p; exact ⟨s, r, h1, h2⟩
  | infinity s => exact ⟨s, _, Nat.le_refl _, by unfold Ieee.Format.write; rw [f64_inf]⟩
  | nan s f => simp [Ieee.Datum.isNaN] at h
theorem nan64_write (d : Ieee.Datum) (h : d.isNaN = false) : nan64 (F64.write d) = false := by
  obtain ⟨s, r, h1, h2⟩ := write64_word d h
  rw [h2]
  unfold nan64
  rw [word64_mod s r h1]
  simp only [decide_eq_false_iff_not]
  omega
theorem one64_id {x : Nat} (h : nan64 x = false) : one64 x = x := by unfold one64; rw [h]; rfl
theorem one64_nan {x : Nat} (h : nan64 x = true) : one64 x = 9221120237041090560 := by unfold one64; rw [h]; rfl
theorem sum_notNaN {x y d : Ieee.Datum} (h : x.sum y = some d) : d.isNaN = false := by
  cases x <;> cases y <;> simp [Ieee.Datum.sum] at h
  · rw [← h]; rfl
  · rw [← h]; rfl
  · rw [← h]; rfl
  · rw [← h.2]; rfl
theorem product_notNaN {x y d : Ieee.Datum} (h : x.product y = some d) : d.isNaN = false := by
  cases x <;> cases y <;> simp [Ieee.Datum.product] at h
  · rw [← h]; rfl
  · rw [← h.2]; rfl
  · rw [← h.2]; rfl
  · rw [← h]; rfl

def add64 (a b : Nat) : Nat := (F64.add a b).getD 9221120237041090560
def sub64 (a b : Nat) : Nat := (F64.sub a b).getD 9221120237041090560
def mul64 (a b : Nat) : Nat := (F64.mul a b).getD 9221120237041090560

theorem map_some {o : Option Ieee.Datum} {r : Nat} (h : o.map F64.write = some r) : ∃ d, o = some d ∧ r = F64.write d := by
  cases o with
  | none => simp at h
  | some d => exact ⟨d, rfl, by simpa using h.symm⟩
theorem add_notNaN {a b r : Nat} (h : F64.add a b = some r) : nan64 r = false ∧ r < 18446744073709551616 := by
  obtain ⟨d, h1, rfl⟩ := map_some h
  exact ⟨nan64_write d (sum_notNaN h1), F64.write_lt d⟩
theorem sub_notNaN {a b r : Nat} (h : F64.sub a b = some r) : nan64 r = false ∧ r < 18446744073709551616 := by
  obtain ⟨d, h1, rfl⟩ := map_some h
  exact ⟨nan64_write d (sum_notNaN h1), F64.write_lt d⟩
theorem mul_notNaN {a b r : Nat} (h : F64.mul a b = some r) : nan64 r = false ∧ r < 18446744073709551616 := by
  obtain ⟨d, h1, rfl⟩ := map_some h
  exact ⟨nan64_write d (product_notNaN h1), F64.write_lt d⟩

section
variable {P : Program} (w : World)
theorem nan_cut (a b t : Nat) : nan64 ((Question.nanBits .f64 a b).cut t) = true ∧ (Question.nanBits .f64 a b).cut t < 18446744073709551616 := by
  have e : (Question.nanBits .f64 a b).cut t = (t % 2) * 9223372036854775808 + 9218868437227405312 + 1 + (t / 2) % 4503599627370495 := rfl
  rw [e]
  unfold nan64
  rw [decide_eq_true_eq]
  have hb : t % 2 = 0 ∨ t % 2 = 1 := by omega
  have hc : t / 2 % 4503599627370495 < 4503599627370495 := Nat.mod_lt _ (by omega)
  generalize t / 2 % 4503599627370495 = c at *
  rcases hb with hb | hb <;> rw [hb] <;> omega
theorem run_arith64 (op : BinOp) (a b : Nat) (f : Nat → Nat → Option Nat) (hop : ∀ x y, floatBits op .f64 x y = f x y) (hop2 : op = .add ∨ op = .sub ∨ op = .mul) (hf : ∀ x y r, f x y = some r → nan64 r = false ∧ r < 18446744073709551616) :
    ∃ r n, (Op.floatArith op .f64 a b).run P w = .ok (.float .f64 r) { w with drawn := w.drawn + n } ∧ one64 r = (f a b).getD 9221120237041090560 ∧ r < 18446744073709551616 := by
  cases h : f a b with
  | some r =>
    refine ⟨r, 0, ?_, ?_, ?_⟩
    · have h' := hop a b
      rw [h] at h'
      unfold floatBits at h'
      rcases hop2 with rfl | rfl | rfl <;> simp only at h' <;> simp [Op.floatArith, h']
    · rw [one64_id (hf a b r h).1]; rfl
    · exact (hf a b r h).2
  | none =>
    refine ⟨_, 1, ?_, one64_nan (nan_cut a b (w.tape w.drawn (.nanBits .f64 a b))).1, (nan_cut a b _).2⟩
    have h' := hop a b
    rw [h] at h'
    unfold floatBits at h'
    rcases hop2 with rfl | rfl | rfl <;> simp only at h' <;> simp [Op.floatArith, h', Question.forced]
end

end Go.Proofs.Ytaichdcknoopdaa
