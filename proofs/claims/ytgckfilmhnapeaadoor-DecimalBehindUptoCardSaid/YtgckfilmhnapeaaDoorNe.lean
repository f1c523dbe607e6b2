/- law07.scaled, middle, side: the middles of 64 bits by natural numbers. -/
import Derived.Test.YtgckfilmhnapeaaDoorDr0
namespace Go.Proofs.YtgckfilmhnapeaaDoor
open Go.RowKit Go.Lib
set_option linter.unusedVariables false

theorem ll_ten (m n : Nat) (hm : ll m ≤ 100) (hn : n ≤ 420) : ll (10 ^ n) ≤ 421 ∧ ll (m * 10 ^ n) ≤ 600 ∧ blen (m * 10 ^ n) ≤ 32 * 600 := by
  have h1 := (ten_ll (10 ^ n) n (Nat.le_refl _)).1
  have hb := blen_of_ll m 100 hm
  have hb2 := (ten_ll (10 ^ n) n (Nat.le_refl _)).2
  have h2 : ll (m * 10 ^ n) ≤ 600 := by
    refine ll_two _ 600 ?_
    have a1 := lt_blen m
    have a2 := lt_blen (10 ^ n)
    calc m * 10 ^ n < 2 ^ blen m * 2 ^ blen (10 ^ n) := Nat.mul_lt_mul'' a1 a2
      _ = 2 ^ (blen m + blen (10 ^ n)) := (Nat.pow_add _ _ _).symm
      _ ≤ 2 ^ (32 * 600) := Nat.pow_le_pow_right (by decide) (by omega)
  exact ⟨by omega, h2, blen_of_ll _ 600 h2⟩
set_option maxRecDepth 100000 in
theorem scaled_any (A : Option Addr) (c m n : Nat) (w : World) (hT : Tabs w) (hA : CanC w A c m) (hm : ll m ≤ 100) (hn : n ≤ 420) :
    Calls Tryd.prog 59 #[.slice A (ll m) c, .int .i64 n] w (NatPost w (m * 10 ^ n)) := by
  have HP := Lib.hid (ppow10 n (by omega) w hT)
  have HA := Lib.hid hA
  obtain ⟨l1, l2, -⟩ := ll_ten m n hm hn
  have HM := Lib.hid (fun wx B d (h : CanC wx A c m) (g : CanC wx B d (10 ^ n)) => h.mul g (by omega) (by omega))
  generalize 10 ^ n = T at *
  clear hT hA hm hn l1 l2
  go_enter Tryd.func59, Tryd.ntmps59
  go_wp2_with fail
  refine HP.out.mono ?_
  rintro e w1 ⟨B, d, rfl, hca, hla, hma, hba⟩
  have C1 := Lib.hid (CanC.mk hca hla hma)
  have CA := Lib.hid (HA.out.below hba)
  have HB1 := Lib.hid hba
  clear hca hla hma hba HP HA
  go_wp2_with fail
  refine (HM.out _ _ _ CA.out C1.out).mono ?_
  rintro e w2 ⟨B2, d2, rfl, hca, hla, hma, hba⟩
  have HB2 := Lib.hid (HB1.out.trans (hba.mono HB1.out.size))
  have H := Lib.hid (And.intro hca (And.intro hla hma))
  clear hca hla hma hba HM
  go_wp2_with fail
  go_ret
  exact ⟨B2, d2, rfl, H.out.1, H.out.2.1, H.out.2.2, HB2.out⟩

def midM (x : Nat) : Nat := if x / 4503599627370496 = 0 then 2 * x + 1 else 2 * (x % 4503599627370496 + 4503599627370496) + 1
def midK (x : Nat) : Nat := x / 4503599627370496 - 1
theorem mid_parts52 (x : Nat) : mid 52 x = midM x * 2 ^ midK x := by
  have e : (2 : Nat) ^ 52 = 4503599627370496 := by decide
  rw [mid_eq]
  unfold pv ulp midM midK
  rw [e]
  generalize h : x / 4503599627370496 = q
  by_cases hq : q = 0
  · have hx : x < 4503599627370496 := by
      rw [hq] at h
      exact (Nat.div_eq_zero_iff_lt (by decide)).1 h
    rw [if_pos hx, if_pos hq, hq, Nat.zero_sub, Nat.pow_zero, Nat.mul_one]
  · have hx : ¬ x < 4503599627370496 := fun g => hq (by rw [← h]; exact Nat.div_eq_of_lt g)
    rw [if_neg hx, if_neg hq]
    generalize 2 ^ (q - 1) = P
    generalize x % 4503599627370496 = r
    rw [Nat.add_mul (2 * (r + 4503599627370496)) 1 P, Nat.one_mul, Nat.mul_assoc 2, Nat.add_comm r]
theorem cmpZ_scale (a b c : Nat) (hc : 0 < c) : cmpZ (a * c) (b * c) = cmpZ a b := by
  unfold cmpZ
  have h1 : a * c < b * c ↔ a < b := Nat.mul_lt_mul_right hc
  have h2 : b * c < a * c ↔ b < a := Nat.mul_lt_mul_right hc
  simp only [h1, h2]
/-- what side answers of a middle -/
theorem side_law (m x l : Nat) (p : Int) (e : Int) (hl : l = 1074) (he : e = (midK x : Int) - 1075) :
    cmpZ (m * 10 ^ p.toNat * 2 ^ (-e).toNat) (midM x * 10 ^ (-p).toNat * 2 ^ e.toNat) = cmpZ (2 * (m * 10 ^ p.toNat * 2 ^ l)) (mid 52 x * 10 ^ (-p).toNat) := by
  rw [mid_parts52]
  generalize midM x = M
  obtain ⟨K, hK⟩ : ∃ K, midK x = K := ⟨_, rfl⟩
  rw [hK] at he ⊢
  generalize m * 10 ^ p.toNat = a
  generalize 10 ^ (-p).toNat = b
  obtain ⟨L, hL⟩ : ∃ L, L = l + 1 := ⟨_, rfl⟩
  have e1 : 2 * (a * 2 ^ l) = a * 2 ^ L := by rw [hL, twice_pow]
  rw [e1]
  have hLe : (L : Int) = 1075 := by omega
  clear e1 hL hl hK
  by_cases h : L ≤ K
  · have i1 : (-e).toNat = 0 := by omega
    have i2 : e.toNat = K - L := by omega
    have i3 : K - L + L = K := by omega
    rw [i1, i2, Nat.pow_zero, Nat.mul_one, ← cmpZ_scale a _ (2 ^ L) (Nat.two_pow_pos _), Nat.mul_assoc (M * b), ← Nat.pow_add, i3, Nat.mul_right_comm M b]
  · have i1 : (-e).toNat = L - K := by omega
    have i2 : e.toNat = 0 := by omega
    have i3 : L - K + K = L := by omega
    rw [i1, i2, Nat.pow_zero, Nat.mul_one, ← cmpZ_scale _ (M * b) (2 ^ K) (Nat.two_pow_pos _), Nat.mul_assoc a, ← Nat.pow_add, i3, Nat.mul_right_comm M b]

/-- what middle answers -/
def MidPost (x : Nat) (w : World) (e : Ending) (w' : World) : Prop :=
  ∃ A c, e = .returned (.tuple #[.slice A (ll (midM x)) c, .int .i64 ((midK x : Int) - 1075)]) ∧ CanC w' A c (midM x) ∧ Below w.heap.size w w'
set_option maxRecDepth 100000 in
theorem middle_any (x : Nat) (hx : x < 9223372036854775808) (w : World) :
    Calls Tryd.prog 23 #[.int .u64 x] w (MidPost x w) := by
  have hM : midM x < 18446744073709551616 := by unfold midM; split <;> omega
  have hF := fun wx => pfrom_any (midM x) hM wx
  unfold MidPost
  by_cases hq : x / 4503599627370496 = 0
  · have hx2 : x < 4503599627370496 := by omega
    have hm : ((midM x : Nat) : Int) = 2 * (x : Int) + 1 := by unfold midM; rw [if_pos hq]; omega
    have hk : midK x = 0 := by unfold midK; rw [hq]
    rw [hk]
    rw [hm] at hF
    have HF := Lib.hid hF
    generalize midM x = M at *
    clear hM hm hF hk
    go_enter Tryd.func23, Tryd.ntmps23
    go_wp2_with fail
    refine (HF.out _).mono ?_
    rintro e w1 ⟨B, d, rfl, hca, hla, hma, hba⟩
    have H := Lib.hid (And.intro (CanC.mk hca hla hma) hba)
    clear hca hla hma hba HF
    go_wp2_with fail
    go_ret2
    exact ⟨B, d, rfl, H.out.1, H.out.2⟩
  · have hr : x % 4503599627370496 < 4503599627370496 := Nat.mod_lt _ (by decide)
    have hm : ((midM x : Nat) : Int) = 2 * ((x % 4503599627370496 : Nat) + 4503599627370496 : Int) + 1 := by unfold midM; rw [if_neg hq]; omega
    have hk : ((midK x : Nat) : Int) = (x / 4503599627370496 : Nat) - 1 := by unfold midK; omega
    have hmask : bits .and .u64 (x : Int) 4503599627370495 = ((x % 4503599627370496 : Nat) : Int) := by
      have := u64_and_nat x 4503599627370495 (by omega) (by decide)
      rw [show x &&& 4503599627370495 = x % 4503599627370496 from Nat.and_two_pow_sub_one_eq_mod x 52] at this
      exact this
    have hor := put_sign 52 4503599627370496 (x % 4503599627370496) (by decide) (by decide) hr
    rw [show ((4503599627370496 : Nat) : Int) = 4503599627370496 from rfl] at hor
    have hdk : (x : Int) / 4503599627370496 = ((x / 4503599627370496 : Nat) : Int) := rfl
    have hqb : x / 4503599627370496 < 4096 := by omega
    have HK : Hid ((((x / 4503599627370496 : Nat) : Int) - 1076) = (midK x : Int) - 1075) := Lib.hid (by rw [hk]; omega)
    obtain ⟨r, hrr⟩ : ∃ r : Int, ((x % 4503599627370496 : Nat) : Int) = r := ⟨_, rfl⟩
    obtain ⟨q, hqq⟩ : ∃ q : Int, ((x / 4503599627370496 : Nat) : Int) = q := ⟨_, rfl⟩
    obtain ⟨z, hzz⟩ : ∃ z : Int, (x : Int) = z := ⟨_, rfl⟩
    have r0 : 0 ≤ r := by omega
    have r1 : r < 4503599627370496 := by omega
    have q0 : 0 < q := by omega
    have q1 : q < 4096 := by omega
    have z0 : 0 ≤ z := by omega
    have hor2 : bits .or .u64 r 4503599627370496 = r + 4503599627370496 := by rw [← hrr, hor]; omega
    rw [hrr] at hm hmask
    rw [hzz] at hmask hdk ⊢
    rw [hqq] at hdk HK
    have wsub : IntKind.i64.wrap (q - 1076) = q - 1076 := by simp only [IntKind.wrap]; simp [IntKind.signed, IntKind.bits]; omega
    rw [hm] at hF
    have HF := Lib.hid hF
    generalize midM x = M at *
    generalize midK x = K at *
    clear hM hm hF hk hqq hrr hzz hqb hor hr hq hx
    go_enter Tryd.func23, Tryd.ntmps23
    go_wp2_with fail
    refine (HF.out _).mono ?_
    rintro e w1 ⟨B, d, rfl, hca, hla, hma, hba⟩
    have H := Lib.hid (And.intro (CanC.mk hca hla hma) hba)
    clear hca hla hma hba HF
    go_wp2_with fail
    go_ret2
    exact ⟨B, d, by rw [HK.out] <;> rfl, H.out.1, H.out.2⟩
end Go.Proofs.YtgckfilmhnapeaaDoor
