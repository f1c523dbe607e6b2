/- The program's steps of rounding: plain Lean. -/
import Derived.Test.YtgckfilmhnapeaaDoorFp3
import Derived.Test.YtgckfilmhnapeaaDoorDec3
namespace Go.Proofs.YtgckfilmhnapeaaDoor
set_option linter.unusedVariables false
/-- what is kept of a number -/
def keptS (f m : Nat) (E : Int) : Nat := if (stepK f m E : Int) ≤ E then m * 2 ^ (E - stepK f m E).toNat else rne m (stepK f m E - E).toNat
theorem rndS_kept (f W m : Nat) (E : Int) (h : ¬ W ≤ stepK f m E) : rndS f W m E = stepK f m E * 2 ^ f + keptS f m E := by
  unfold rndS keptS
  rw [if_neg h]
theorem kept_facts (f m : Nat) (E : Int) (hm : m ≠ 0) : keptS f m E ≤ 2 ^ (f + 1) ∧ (keptS f m E < 2 ^ f → stepK f m E = 0) := by
  have h1 := lt_blen m
  have h2 := blen_ge m hm
  have h3 := blen_pos m hm
  unfold keptS
  obtain ⟨K, hK⟩ : ∃ K, stepK f m E = K := ⟨_, rfl⟩
  have hK' : K = ((blen m : Int) - f - 1 + E).toNat := hK.symm
  rw [hK]
  generalize blen m = n at *
  have hp : ∀ a b : Nat, a ≤ b → 2 ^ a ≤ 2 ^ b := fun a b h => Nat.pow_le_pow_right (by decide) h
  by_cases hE : (K : Int) ≤ E
  · rw [if_pos hE]
    constructor
    · have : m * 2 ^ (E - K).toNat ≤ 2 ^ n * 2 ^ (E - K).toNat := Nat.mul_le_mul_right _ (Nat.le_of_lt h1)
      rw [← Nat.pow_add] at this
      exact Nat.le_trans this (hp _ _ (by omega))
    · intro h
      rcases Nat.eq_zero_or_pos K with h0 | h0
      · exact h0
      · exfalso
        have : 2 ^ (n - 1) * 2 ^ (E - K).toNat ≤ m * 2 ^ (E - K).toNat := Nat.mul_le_mul_right _ h2
        rw [← Nat.pow_add] at this
        have := hp f (n - 1 + (E - K).toNat) (by omega)
        omega
  · rw [if_neg hE]
    constructor
    · refine rne_le m _ _ ?_
      rw [← Nat.pow_add]
      exact Nat.le_trans (Nat.le_of_lt h1) (hp _ _ (by omega))
    · intro h
      rcases Nat.eq_zero_or_pos K with h0 | h0
      · exact h0
      · exfalso
        have h5 : 2 ^ f * 2 ^ (K - E).toNat ≤ m := by
          rw [← Nat.pow_add]
          exact Nat.le_trans (hp _ (n - 1) (by omega)) h2
        have := rne_ge m _ _ h5
        omega
/-- how far it is moved down, and what of it fits into 64 bits -/
theorem down_facts (f m : Nat) (E : Int) (hm : m ≠ 0) (hE : ¬ (stepK f m E : Int) ≤ E) : m / 2 ^ ((stepK f m E - E).toNat - 1) < 2 ^ (f + 2) ∧ 1 ≤ (stepK f m E - E).toNat := by
  have h1 := lt_blen m
  obtain ⟨K, hK⟩ : ∃ K, stepK f m E = K := ⟨_, rfl⟩
  have hK' : K = ((blen m : Int) - f - 1 + E).toNat := hK.symm
  rw [hK] at hE ⊢
  generalize blen m = n at *
  refine ⟨?_, by omega⟩
  rw [Nat.div_lt_iff_lt_mul (Nat.two_pow_pos _), ← Nat.pow_add]
  exact Nat.lt_of_lt_of_le h1 (Nat.pow_le_pow_right (by decide) (by omega))
theorem up_facts64 (f m : Nat) (E : Int) (hE : (stepK f m E : Int) ≤ E) : blen m ≤ f + 1 ∧ (E - stepK f m E).toNat ≤ f + 1 ∨ m = 0 := by
  rcases Nat.eq_zero_or_pos m with h | h
  · exact .inr h
  · left
    have h3 := blen_pos m (by omega)
    have hK' : stepK f m E = ((blen m : Int) - f - 1 + E).toNat := rfl
    omega
theorem rne_prog (m D : Nat) (hD : 1 ≤ D) :
    rne m D = if m / 2 ^ (D - 1) % 2 = 1 ∧ (m % 2 ^ (D - 1) ≠ 0 ∨ m / 2 ^ (D - 1) / 2 % 2 = 1) then m / 2 ^ (D - 1) / 2 + 1 else m / 2 ^ (D - 1) / 2 := by
  obtain ⟨d, rfl⟩ : ∃ d, D = d + 1 := ⟨D - 1, by omega⟩
  rw [Nat.add_sub_cancel]
  have hp := Nat.two_pow_pos d
  have e1 : m / 2 ^ (d + 1) = m / 2 ^ d / 2 := by rw [Nat.pow_succ, Nat.div_div_eq_div_mul]
  have e2 : m % 2 ^ (d + 1) = m % 2 ^ d + 2 ^ d * (m / 2 ^ d % 2) := by rw [Nat.pow_succ, Nat.mod_mul]
  have h1 := Nat.mod_lt m hp
  unfold rne
  rw [e1, e2, Nat.pow_succ]
  generalize m % 2 ^ d = r at *
  generalize m / 2 ^ d = q at *
  generalize 2 ^ d = P at *
  rcases Nat.mod_two_eq_zero_or_one q with h | h
  · rw [h, Nat.mul_zero, Nat.add_zero, if_pos (by omega), if_neg (by omega)]
  · rw [h, Nat.mul_one]
    rcases Nat.eq_zero_or_pos r with h0 | h0
    · subst h0
      rw [if_neg (by omega), if_neg (by omega)]
      rcases Nat.mod_two_eq_zero_or_one (q / 2) with g | g
      · rw [g, if_neg (by omega)]; omega
      · rw [g, if_pos (by omega)]
    · rw [if_neg (by omega), if_pos (by omega), if_pos ⟨rfl, .inl (by omega)⟩]
end Go.Proofs.YtgckfilmhnapeaaDoor

namespace Go.Proofs.YtgckfilmhnapeaaDoor
open Go.Lib
set_option linter.unusedVariables false

/-- s is the size of the nearest pattern to N times 10^k -/
def RdSpec (f l W N : Nat) (k : Int) (s : Nat) : Prop := Near f ((W + 1) * 2 ^ f) s (N * 10 ^ k.toNat * 2 ^ l) (10 ^ (-k).toNat)
theorem RdSpec.unique {f l W N s t : Nat} {k : Int} (h : RdSpec f l W N k s) (g : RdSpec f l W N k t) : s = t := Near.unique h g (Nat.pow_pos (by decide))
theorem ten_pos (n : Nat) : 0 < 10 ^ n := Nat.pow_pos (by decide)
/-- noughts behind -/
theorem rd_pad {f l W m j s : Nat} {k : Int} (h : RdSpec f l W m (k + j) s) : RdSpec f l W (m * 10 ^ j) k s := by
  refine Near.scale h (ten_pos _) (ten_pos _) ?_
  have e : (k + j).toNat + (-k).toNat = j + k.toNat + (-(k + j)).toNat := by omega
  have e2 : 10 ^ (k + (j : Int)).toNat * 10 ^ (-k).toNat = 10 ^ j * 10 ^ k.toNat * 10 ^ (-(k + (j : Int))).toNat := by
    rw [← Nat.pow_add, ← Nat.pow_add, ← Nat.pow_add, e]
  generalize 10 ^ (k + (j : Int)).toNat = a at *
  generalize 10 ^ (-k).toNat = b at *
  generalize 10 ^ k.toNat = c at *
  generalize 10 ^ (-(k + (j : Int))).toNat = d at *
  generalize 10 ^ j = x at *
  generalize 2 ^ l = y at *
  rw [Nat.mul_right_comm (m * a), Nat.mul_assoc m a b, e2, Nat.mul_right_comm _ y d]
  congr 1
  rw [Nat.mul_assoc, Nat.mul_assoc, Nat.mul_assoc]
theorem rd_none (f l W : Nat) (k : Int) : RdSpec f l W 0 k 0 :=
  near_zero _ _ _ _ (Nat.pos_iff_ne_zero.1 (Nat.mul_pos (Nat.succ_pos W) (Nat.two_pow_pos f))) (by rw [Nat.zero_mul, Nat.zero_mul]; exact Nat.zero_le _)
theorem two_ten (a b : Nat) (h : a ≤ 3 * b) : 2 ^ a ≤ 10 ^ b := by
  have h1 : 2 ^ a ≤ 2 ^ (3 * b) := Nat.pow_le_pow_right (by decide) h
  rw [Nat.pow_mul] at h1
  exact Nat.le_trans h1 (Nat.pow_le_pow_left (by decide) b)
theorem rd_low (f l W m L : Nat) (k : Int) (hl : l ≤ 1074) (hm : m < 10 ^ L) (h : k + L < -400) : RdSpec f l W m k 0 := by
  refine near_zero _ _ _ _ (Nat.pos_iff_ne_zero.1 (Nat.mul_pos (Nat.succ_pos W) (Nat.two_pow_pos f))) ?_
  rw [show k.toNat = 0 by omega, Nat.pow_zero, Nat.mul_one]
  obtain ⟨j, hj⟩ : ∃ j, (-k).toNat = L + (400 + j) := ⟨(-k).toNat - L - 400, by omega⟩
  rw [hj, Nat.pow_add]
  have h1 : 2 ^ (l + 1) ≤ 10 ^ (400 + j) := two_ten _ _ (by omega)
  have h2 := Nat.mul_le_mul (Nat.le_of_lt hm) h1
  rw [Nat.pow_succ] at h2
  calc 2 * (m * 2 ^ l) = m * (2 ^ l * 2) := by rw [Nat.mul_comm 2, Nat.mul_assoc]
    _ ≤ _ := h2
theorem rd_high (f l W m L : Nat) (k : Int) (hfl : f + W ≤ 1200 + l) (hL : 1 ≤ L) (hm : 10 ^ (L - 1) ≤ m) (h : 400 < k + L) : RdSpec f l W m k ((W + 1) * 2 ^ f) := by
  refine near_far f W _ _ ?_ (ten_pos _)
  have h1 : 2 ^ 1200 ≤ 10 ^ 400 := two_ten 1200 400 (by decide)
  obtain ⟨z, hz⟩ : ∃ z, z = 400 := ⟨_, rfl⟩
  have h1 : 2 ^ (3 * z) ≤ 10 ^ z := two_ten _ z (Nat.le_refl _)
  have h2 : 2 ^ (f + W) ≤ 2 ^ (3 * z) * 2 ^ l := by rw [← Nat.pow_add]; exact Nat.pow_le_pow_right (by decide) (by omega)
  have h3 : 10 ^ z * 10 ^ (-k).toNat ≤ m * 10 ^ k.toNat := by
    rw [← Nat.pow_add]
    refine Nat.le_trans (Nat.pow_le_pow_right (by decide) (show z + (-k).toNat ≤ L - 1 + k.toNat by omega)) ?_
    rw [Nat.pow_add]
    exact Nat.mul_le_mul_right _ hm
  calc 2 ^ (f + W) * 10 ^ (-k).toNat ≤ 2 ^ (3 * z) * 2 ^ l * 10 ^ (-k).toNat := Nat.mul_le_mul_right _ h2
    _ ≤ 10 ^ z * 2 ^ l * 10 ^ (-k).toNat := Nat.mul_le_mul_right _ (Nat.mul_le_mul_right _ h1)
    _ = 10 ^ z * 10 ^ (-k).toNat * 2 ^ l := Nat.mul_right_comm _ _ _
    _ ≤ m * 10 ^ k.toNat * 2 ^ l := Nat.mul_le_mul_right _ h3
/-- what Round was asked: m (and something more) times 2^e -/
def RoundOf (f l W m b : Nat) (e : Int) (s : Nat) : Prop := Near f ((W + 1) * 2 ^ f) s ((2 * m + b) * 2 ^ (e - 1 + (l : Int)).toNat) (2 ^ (-(e - 1 + (l : Int))).toNat)
theorem rd_up (f l W m k s : Nat) (hl : 1 ≤ l) (h : RoundOf f l W (m * 10 ^ k) 0 0 s) : RdSpec f l W m (k : Int) s := by
  refine Near.scale h (Nat.two_pow_pos _) (ten_pos _) ?_
  rw [show (-(k : Int)).toNat = 0 by omega, show ((k : Int)).toNat = k by omega, show (-((0 : Int) - 1 + (l : Int))).toNat = 0 by omega, Nat.pow_zero, Nat.mul_one, Nat.mul_one]
  obtain ⟨j, rfl⟩ : ∃ j, l = j + 1 := ⟨l - 1, by omega⟩
  rw [show ((0 : Int) - 1 + ((j + 1 : Nat) : Int)).toNat = j by omega, Nat.pow_succ, Nat.add_zero, Nat.mul_comm (2 ^ j), Nat.mul_comm 2 (m * 10 ^ k), Nat.mul_assoc (m * 10 ^ k)]
theorem round_step {f l W q b up s : Nat} (h : RoundOf f l W q b (-(up : Int)) s) : Near f ((W + 1) * 2 ^ f) s ((2 * q + b) * 2 ^ l) (2 ^ (up + 1)) := by
  refine Near.scale h (Nat.two_pow_pos _) (Nat.two_pow_pos _) ?_
  rw [Nat.mul_assoc, ← Nat.pow_add, Nat.mul_assoc, ← Nat.pow_add]
  congr 2
  omega
theorem rd_near {f l W m P s : Nat} (h : Near f ((W + 1) * 2 ^ f) s (m * 2 ^ l) (10 ^ P)) : RdSpec f l W m (-(P : Int)) s := by
  unfold RdSpec
  rw [show (-(P : Int)).toNat = 0 by omega, show (-(-(P : Int))).toNat = P by omega, Nat.pow_zero, Nat.mul_one]
  exact h
theorem rd_even {f l W m P up q s : Nat} (hq : q * 10 ^ P = m * 2 ^ up) (h : RoundOf f l W q 0 (-(up : Int)) s) : RdSpec f l W m (-(P : Int)) s := by
  refine rd_near ((round_step h).scale (Nat.two_pow_pos _) (ten_pos _) ?_)
  rw [Nat.add_zero, Nat.pow_succ, Nat.mul_right_comm, Nat.mul_assoc 2 q, hq]
  generalize 2 ^ up = a
  generalize 2 ^ l = b
  rw [Nat.mul_comm a 2, Nat.mul_right_comm 2, Nat.mul_comm (2 * b), Nat.mul_assoc m a, Nat.mul_assoc m b, Nat.mul_comm a (2 * b), Nat.mul_comm 2 b, Nat.mul_assoc b 2 a]
theorem rd_rest {f l W m P up q s : Nat} (hq : 2 ^ (f + 1) ≤ q) (h1 : q * 10 ^ P < m * 2 ^ up) (h2 : m * 2 ^ up < (q + 1) * 10 ^ P) (h : RoundOf f l W q 1 (-(up : Int)) s) : RdSpec f l W m (-(P : Int)) s :=
  rd_near ((round_step h).cell (cell_rest f l _ up q (10 ^ P) m hq (ten_pos P) h1 h2))
/-- the number lies within (m, m + 1) / 10^P -/
theorem within_ten (m R j P : Nat) (hR0 : 0 < R) (hR : R < 10 ^ j) : m * 10 ^ (P + j) < (m * 10 ^ j + R) * 10 ^ P ∧ (m * 10 ^ j + R) * 10 ^ P < (m + 1) * 10 ^ (P + j) := by
  have hp := ten_pos P
  rw [Nat.pow_add]
  have e1 : m * (10 ^ P * 10 ^ j) = m * 10 ^ j * 10 ^ P := by rw [Nat.mul_comm (10 ^ P), Nat.mul_assoc]
  have e2 : (m + 1) * (10 ^ P * 10 ^ j) = (m * 10 ^ j + 10 ^ j) * 10 ^ P := by rw [Nat.mul_comm (10 ^ P), ← Nat.mul_assoc, Nat.add_mul, Nat.one_mul]
  rw [e1, e2]
  exact ⟨Nat.mul_lt_mul_of_pos_right (by omega) hp, Nat.mul_lt_mul_of_pos_right (by omega) hp⟩
theorem rd_more {f l W m R j P up q s : Nat} (hq : 2 ^ (f + 1) ≤ q) (hm : 2 ^ (f + 1) * 5 ^ l ≤ m) (hR0 : 0 < R) (hR : R < 10 ^ j) (k1 : q * 10 ^ P ≤ m * 2 ^ up) (k2 : m * 2 ^ up < (q + 1) * 10 ^ P)
    (h : RoundOf f l W q 1 (-(up : Int)) s) : RdSpec f l W (m * 10 ^ j + R) (-((P + j : Nat) : Int)) s := by
  obtain ⟨w1, w2⟩ := within_ten m R j P hR0 hR
  exact rd_near ((round_step h).cell (cell_more f l _ up q P m _ _ hq hm k1 k2 w1 w2))
/-- so many binary digits come out -/
theorem quot_big (f m p up : Nat) (hf : f ≤ 52) (hm : m ≠ 0) (hp : 0 < p) (hup : blen p + 70 ≤ blen m + up) : 2 ^ (f + 1) ≤ m * 2 ^ up / p := by
  rw [Nat.le_div_iff_mul_le hp]
  have h1 := lt_blen p
  have h2 := blen_ge m hm
  have h3 := blen_pos m hm
  calc 2 ^ (f + 1) * p ≤ 2 ^ (f + 1) * 2 ^ blen p := Nat.mul_le_mul_left _ (Nat.le_of_lt h1)
    _ = 2 ^ (f + 1 + blen p) := (Nat.pow_add _ _ _).symm
    _ ≤ 2 ^ (blen m - 1 + up) := Nat.pow_le_pow_right (by decide) (by omega)
    _ = 2 ^ (blen m - 1) * 2 ^ up := Nat.pow_add _ _ _
    _ ≤ m * 2 ^ up := Nat.mul_le_mul_right _ h2

/-- a list without its noughts at both ends -/
theorem dropWhile_parts (l : List UInt8) : ∃ n, l = List.replicate n 48 ++ l.dropWhile (· == 48) ∧ n = l.length - (l.dropWhile (· == 48)).length ∧ (∀ c t, l.dropWhile (· == 48) = c :: t → c ≠ 48) := by
  induction l with
  | nil => exact ⟨0, rfl, rfl, fun c t h => by simp at h⟩
  | cons a l ih =>
    obtain ⟨n, h1, h2, h3⟩ := ih
    by_cases ha : a = 48
    · subst ha
      have e : List.dropWhile (· == (48 : UInt8)) (48 :: l) = l.dropWhile (· == 48) := by simp
      rw [e]
      refine ⟨n + 1, by rw [List.replicate_succ, List.cons_append, ← h1], ?_, h3⟩
      have := (List.dropWhile_sublist (p := (· == (48 : UInt8))) (l := l)).length_le
      rw [List.length_cons]; omega
    · have e : List.dropWhile (· == (48 : UInt8)) (a :: l) = a :: l := by simp [ha]
      rw [e]
      exact ⟨0, rfl, by omega, fun c t h => by injection h with h1 h2; rw [← h1]; exact ha⟩
theorem plain_parts (l : List UInt8) : ∃ k, l = List.replicate (leadL l) 48 ++ plainL l ++ List.replicate k 48 ∧ (∀ c t, plainL l = c :: t → c ≠ 48) ∧ (∀ t c, plainL l = t ++ [c] → c ≠ 48) := by
  obtain ⟨n, h1, h2, h3⟩ := dropWhile_parts l
  have hn : leadL l = n := by unfold leadL trimLeftB; exact h2.symm
  rw [hn]
  obtain ⟨k, g1, g2, g3⟩ := dropWhile_parts (l.dropWhile (· == 48)).reverse
  have hp : plainL l = ((l.dropWhile (· == 48)).reverse.dropWhile (· == 48)).reverse := rfl
  have hd : l.dropWhile (· == 48) = plainL l ++ List.replicate k 48 := by
    have := congrArg List.reverse g1
    rw [List.reverse_reverse, List.reverse_append, List.reverse_replicate] at this
    rw [hp]; exact this
  refine ⟨k, by rw [List.append_assoc, ← hd]; exact h1, fun c t h => ?_, fun t c h => ?_⟩
  · exact h3 c (t ++ List.replicate k 48) (by rw [hd, h]; rfl)
  · refine g3 c t.reverse ?_
    rw [hp] at h
    have := congrArg List.reverse h
    rw [List.reverse_reverse, List.reverse_append] at this
    exact this
theorem nval_plain (l : List UInt8) : ∃ k, l.length = leadL l + (plainL l).length + k ∧ nval l = nval (plainL l) * 10 ^ k := by
  obtain ⟨k, h, -, -⟩ := plain_parts l
  refine ⟨k, ?_, ?_⟩
  · have := congrArg List.length h
    rw [List.length_append, List.length_append, List.length_replicate, List.length_replicate] at this
    exact this
  · have := congrArg nval h
    rw [nval_append, nval_append, nval_noughts, nval_noughts, List.length_replicate, Nat.zero_mul, Nat.zero_add, Nat.add_zero] at this
    exact this
end Go.Proofs.YtgckfilmhnapeaaDoor

namespace Go.Proofs.YtgckfilmhnapeaaDoor
open Go.Lib
set_option linter.unusedVariables false

def digL (l : List UInt8) : Prop := ∀ c ∈ l, 48 ≤ c.toNat ∧ c.toNat ≤ 57
/-- digits, none ahead or behind a nought -/
structure Bare (t : List UInt8) : Prop where
  dig : digL t
  first : ∀ c r, t = c :: r → c ≠ 48
  last : ∀ r c, t = r ++ [c] → c ≠ 48
theorem bare_plain (l : List UInt8) (h : digL l) : Bare (plainL l) := by
  obtain ⟨k, e, h1, h2⟩ := plain_parts l
  refine ⟨fun c hc => h c ?_, h1, h2⟩
  rw [e]; simp [hc]
theorem u8_ne {c : UInt8} (h : c ≠ 48) : c.toNat ≠ 48 := fun e => h (UInt8.toNat_inj.1 e)
theorem nval_inj : ∀ (s t : List UInt8), digL s → digL t → s.length = t.length → nval s = nval t → s = t := by
  intro s
  induction s with
  | nil =>
    intro t _ _ hl _
    cases t with
    | nil => rfl
    | cons a b => simp at hl
  | cons a s ih =>
    intro t hs ht hl hv
    cases t with
    | nil => simp at hl
    | cons b t =>
      have hl' : s.length = t.length := by simpa using hl
      rw [nval_cons, nval_cons, hl'] at hv
      have h1 := nval_lt s (fun c hc => hs c (by simp [hc]))
      have h2 := nval_lt t (fun c hc => ht c (by simp [hc]))
      rw [hl'] at h1
      have ha := hs a (by simp)
      have hb := ht b (by simp)
      have hd : a.toNat - 48 = b.toNat - 48 := by
        have e1 : ((a.toNat - 48) * 10 ^ t.length + nval s) / 10 ^ t.length = a.toNat - 48 := by
          rw [Nat.mul_comm, Nat.mul_add_div (ten_pos _), Nat.div_eq_of_lt h1, Nat.add_zero]
        have e2 : ((b.toNat - 48) * 10 ^ t.length + nval t) / 10 ^ t.length = b.toNat - 48 := by
          rw [Nat.mul_comm, Nat.mul_add_div (ten_pos _), Nat.div_eq_of_lt h2, Nat.add_zero]
        rw [← e1, ← e2, hv]
      have hab : a = b := UInt8.toNat_inj.1 (by omega)
      subst hab
      rw [ih t (fun c hc => hs c (by simp [hc])) (fun c hc => ht c (by simp [hc])) hl' (by omega)]
theorem bare_pos (t : List UInt8) (h : Bare t) (hn : t ≠ []) : 10 ^ (t.length - 1) ≤ nval t ∧ nval t % 10 ≠ 0 := by
  constructor
  · cases t with
    | nil => exact absurd rfl hn
    | cons c r =>
      have h1 := u8_ne (h.first c r rfl)
      have h2 := h.dig c (by simp)
      have := nval_ge c r (by omega)
      simpa using this
  · obtain ⟨x, c, rfl⟩ : ∃ x c, t = x ++ [c] := ⟨_, _, (List.dropLast_concat_getLast hn).symm⟩
    have h1 := u8_ne (h.last x c rfl)
    have h2 := h.dig c (by simp)
    rw [nval_snoc]
    omega
theorem ten_dvd (a b c : Nat) (h : a = b * 10 ^ (c + 1)) : a % 10 = 0 := by
  rw [h, Nat.pow_succ, ← Nat.mul_assoc]; exact Nat.mul_mod_left _ _
/-- two of them that tell one number -/
theorem bare_unique (s t : List UInt8) (hs : Bare s) (ht : Bare t) (hns : s ≠ []) (hnt : t ≠ []) (a b : Nat) (h : nval s * 10 ^ a = nval t * 10 ^ b) : s = t ∧ a = b := by
  have p1 := bare_pos s hs hns
  have p2 := bare_pos t ht hnt
  have hab : a = b := by
    rcases Nat.lt_trichotomy a b with g | g | g
    · exfalso
      obtain ⟨d, rfl⟩ : ∃ d, b = a + (d + 1) := ⟨b - a - 1, by omega⟩
      rw [Nat.pow_add, Nat.mul_left_comm, Nat.mul_comm] at h
      exact p1.2 (ten_dvd _ (nval t) d (Nat.eq_of_mul_eq_mul_left (ten_pos a) h))
    · exact g
    · exfalso
      obtain ⟨d, rfl⟩ : ∃ d, a = b + (d + 1) := ⟨a - b - 1, by omega⟩
      rw [Nat.pow_add, Nat.mul_left_comm, Nat.mul_comm (nval t)] at h
      exact p2.2 (ten_dvd _ (nval s) d (Nat.eq_of_mul_eq_mul_left (ten_pos b) h).symm)
  subst hab
  have hv := Nat.eq_of_mul_eq_mul_right (ten_pos a) h
  have l1 := nval_lt s hs.dig
  have l2 := nval_lt t ht.dig
  have hl : s.length = t.length := by
    have hs0 : s.length ≠ 0 := fun e => hns (List.eq_nil_of_length_eq_zero e)
    have ht0 : t.length ≠ 0 := fun e => hnt (List.eq_nil_of_length_eq_zero e)
    rcases Nat.lt_trichotomy s.length t.length with g | g | g
    · have : 10 ^ s.length ≤ 10 ^ (t.length - 1) := Nat.pow_le_pow_right (by decide) (by omega)
      omega
    · exact g
    · have : 10 ^ t.length ≤ 10 ^ (s.length - 1) := Nat.pow_le_pow_right (by decide) (by omega)
      omega
  exact ⟨nval_inj s t hs.dig ht.dig hl hv, rfl⟩
/-- what is exactly a pattern is read as it -/
theorem near_exact (f inf s A B : Nat) (hB : 0 < B) (hs : s ≤ inf) (h : A = pv f s * B) : Near f inf s A B := by
  have h2 : 2 * A = 2 * pv f s * B := by rw [h, Nat.mul_assoc]
  have hi : 2 * A < mid f s * B := by
    rw [h2]
    refine Nat.mul_lt_mul_of_pos_right ?_ hB
    rw [mid_eq]
    have := ulp_pos f s
    omega
  have lo : s ≠ 0 → mid f (s - 1) * B < 2 * A := fun h0 => by
    rw [h2]
    refine Nat.mul_lt_mul_of_pos_right ?_ hB
    unfold mid
    rw [show s - 1 + 1 = s by omega]
    have := pv_lt f (show s - 1 < s by omega)
    omega
  exact ⟨hs, fun h0 => Nat.le_of_lt (lo h0), fun h0 _ => lo h0, fun _ => Nat.le_of_lt hi, fun _ _ => hi⟩
end Go.Proofs.YtgckfilmhnapeaaDoor
