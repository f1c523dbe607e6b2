/- Contract of crucibleref05.halved: division by a power of two, to the nearest, halves to the even one. -/
import Derived.Test.YtaichdcknoopdaaNat5
namespace Go.Proofs.Ytaichdcknoopdaa
open Go.RowKit

/-- N divided by 2^n (n > 0), to the nearest, halves to the even one -/
def hv (N n : Nat) : Nat := N / 2 ^ n + (if 2 ^ (n - 1) < N % 2 ^ n ∨ (N % 2 ^ n = 2 ^ (n - 1) ∧ N / 2 ^ n % 2 = 1) then 1 else 0)

theorem ll_mono {N M : Nat} (h : N ≤ M) : ll N ≤ ll M := ll_le N _ (Nat.lt_of_le_of_lt h (lt_dig_len (by decide) M))
theorem ll_pow (n : Nat) : ll (2 ^ n) ≤ n + 1 :=
  ll_le _ _ (Nat.lt_of_lt_of_le (Nat.pow_lt_pow_right (by decide) (Nat.lt_succ_self n)) (Nat.pow_le_pow_left (show 2 ≤ 4294967296 by decide) (n + 1)))
theorem ll_one : ll 1 = 1 := by unfold ll; rw [dig_pos (by decide) (by decide), show 1 / 4294967296 = 0 from rfl, dig_zero]; rfl
theorem dig_one : dig 4294967296 1 = [1] := by rw [dig_pos (by decide) (by decide), show 1 / 4294967296 = 0 from rfl, dig_zero]

theorem one_can (w : World) (t : TypeId) : CanAt (w.alloc (.cells #[.int .u32 1] t)) (some ⟨w.heap.size, 0, none⟩) 1 := by
  unfold CanAt
  rw [dig_one]
  intro i hi
  have h0 : i = 0 := by simp [vals] at hi; omega
  subst h0
  refine ⟨_, _, rfl, by simp, ?_⟩
  exact cell_of_row _ _ 0 #[.int .u32 1] t _ (heap_alloc_new _ _)

set_option maxRecDepth 100000 in
set_option maxHeartbeats 4000000 in
theorem halved_ref (A : Option Addr) (N n c : Nat) (nn : Int) (w : World) (hA : CanAt w A N) (hm : ll N ≤ 131072) (hn : nn = n) (hn0 : 0 < n) (hn1 : n ≤ 1048576) (hq : N / 2 ^ n < 9223372036854775808) :
    Calls Try.prog 68 #[.slice A (ll N) c, .int .i64 nn] w fun e w' => e = .returned (.int .u64 (hv N n)) ∧ Below w.heap.size w w' := by
  subst hn
  have HA := Lib.hid hA
  clear hA
  have HD : Hid (N / 2 ^ n * 2 ^ n + N % 2 ^ n = N) := Lib.hid (Nat.div_add_mod' N (2 ^ n))
  have lq : ll (N / 2 ^ n) ≤ ll N := ll_mono (Nat.div_le_self _ _)
  have lb : ll (N / 2 ^ n * 2 ^ n) ≤ ll N := ll_mono (Nat.div_mul_le_self _ _)
  have lr : ll (N % 2 ^ n) ≤ ll N := ll_mono (Nat.mod_le _ _)
  have lh : ll (2 ^ (n - 1)) ≤ n := by have := ll_pow (n - 1); omega
  have wn : IntKind.i64.wrap ((n : Int) - 1) = ((n - 1 : Nat) : Int) := by rw [IntWalk.i64_in _ (by omega)]; omega
  have SH : ∀ (wx : World) B d, CanAt wx B (N / 2 ^ n) → Calls Try.prog 63 #[.slice B (ll (N / 2 ^ n)) d, .int .i64 (n : Int)] wx (NatPost2 wx (N / 2 ^ n * 2 ^ n)) := fun wx B d h => shl_ref B (N / 2 ^ n) n d wx h (by omega) hn1
  have SO : ∀ (wx : World) B d, CanAt wx B 1 → Calls Try.prog 63 #[.slice B 1 d, .int .i64 ((n - 1 : Nat) : Int)] wx (NatPost2 wx (2 ^ (n - 1))) := fun wx B d h => by
    have := shl_ref B 1 (n - 1) d wx h (by rw [ll_one]; omega) (by omega)
    rwa [ll_one, Nat.one_mul] at this
  have SU : ∀ (wx : World) B C d d', CanAt wx B N → CanAt wx C (N / 2 ^ n * 2 ^ n) → Calls Try.prog 65 #[.slice B (ll N) d, .slice C (ll (N / 2 ^ n * 2 ^ n)) d'] wx (NatPost2 wx (N % 2 ^ n)) := fun wx B C d d' h h' => by
    have := sub_ref B C (N % 2 ^ n) (N / 2 ^ n * 2 ^ n) d d' wx (by rw [HD.out]; exact h) h' (by rw [HD.out]; omega) (by omega)
    rwa [HD.out] at this
  have UI : ∀ (wx : World) B d, CanAt wx B (N / 2 ^ n) → Calls Try.prog 67 #[.slice B (ll (N / 2 ^ n)) d] wx fun e w' => e = .returned (.tuple #[.int .u64 ((N / 2 ^ n : Nat) : Int), .bool true]) ∧ Below wx.heap.size wx w' := fun wx B d h => uint_any B (N / 2 ^ n) d wx h (by omega)
  have hq1 : (1 : Nat) ≤ 1 := Nat.le_refl _
  have HV : Hid (hv N n = N / 2 ^ n + (if 2 ^ (n - 1) < N % 2 ^ n ∨ (N % 2 ^ n = 2 ^ (n - 1) ∧ N / 2 ^ n % 2 = 1) then 1 else 0)) := Lib.hid rfl
  generalize N % 2 ^ n = r at *
  generalize N / 2 ^ n * 2 ^ n = bk at *
  have SR : ∀ (wx : World), CanAt wx A N → Calls Try.prog 75 #[.slice A (ll N) c, .int .i64 (n : Int)] wx (NatPost3 wx (N / 2 ^ n)) := fun wx h => shr_ref A N n c wx h (by omega) (by omega)
  generalize N / 2 ^ n = q at *
  generalize 2 ^ (n - 1) = hf at *
  have HSH := Lib.hid SH
  have HSO := Lib.hid SO
  have HSU := Lib.hid SU
  have HUI := Lib.hid UI
  have HSR := Lib.hid SR
  clear SH SO SU UI SR
  go_enter Try.func68, Try.ntmps68
  go_wp2_with fail
  refine (HSR.out w HA.out).mono ?_
  rintro e w1 ⟨A1, c1, m1, rfl, h1, h2, h3, h4⟩
  have R1 := Lib.hid h1
  have B1 := Lib.hid h4
  clear h1 h4 h2 h3
  go_wp2_with fail
  refine (HSH.out w1 _ _ R1.out).mono ?_
  rintro e w2 ⟨A2, c2, rfl, h1, h2, h3, h4⟩
  have R2 := Lib.hid h1
  have R1' := Lib.hid (R1.out.below h4)
  have B2 : Hid (Below w.heap.size w w2) := Lib.hid (B1.out.trans (h4.mono B1.out.size))
  clear h1 h4 h2 h3 R1 B1
  go_wp2_with fail
  refine (HSU.out w2 _ _ _ _ (HA.out.below B2.out) R2.out).mono ?_
  rintro e w3 ⟨A3, c3, rfl, h1, h2, h3, h4⟩
  have R3 := Lib.hid h1
  have R1 := Lib.hid (R1'.out.below h4)
  have B3 : Hid (Below w.heap.size w w3) := Lib.hid (B2.out.trans (h4.mono B2.out.size))
  clear h1 h4 h2 h3 R1' B2 R2
  go_wp2_with fail
  refine (HSO.out (w3.alloc (.cells #[.int .u32 1] 31)) (some ⟨w3.heap.size, 0, none⟩) 1 (one_can w3 _)).mono ?_
  rintro e w4 ⟨A4, c4, rfl, h1, h2, h3, h4⟩
  have h4' : Below w3.heap.size w3 w4 := ((Below.refl _ _).alloc (Nat.le_refl _) _).trans (h4.mono (by simp))
  have R4 := Lib.hid h1
  have R3' := Lib.hid (R3.out.below h4')
  have R1' := Lib.hid (R1.out.below h4')
  have B4 : Hid (Below w.heap.size w w4) := Lib.hid (B3.out.trans (h4'.mono B3.out.size))
  clear h1 h4 h2 h3 R1 R3 B3 h4'
  go_wp2_with fail
  refine (HUI.out w4 _ _ R1'.out).mono ?_
  rintro e w5 ⟨rfl, h4⟩
  have R3 := Lib.hid (R3'.out.below h4)
  have R5 := Lib.hid (R4.out.below h4)
  have B5 : Hid (Below w.heap.size w w5) := Lib.hid (B4.out.trans (h4.mono B4.out.size))
  clear h4 R4 B4 R3' R1'
  go_wp2_with fail
  refine (cmp_ref A3 A4 r hf c3 c4 w5 R3.out R5.out (by omega) (by omega)).mono ?_
  rintro e w6 ⟨rfl, h4⟩
  have B6 : Hid (Below w.heap.size w w6) := Lib.hid (B5.out.trans (h4.mono B5.out.size))
  clear h4 R3 R5 B5
  rcases Nat.lt_trichotomy r hf with hlt | heq | hgt
  · have hc : cmpZ r hf = -1 := by unfold cmpZ; rw [if_pos hlt]
    have hr : hv N n = q := by rw [HV.out, if_neg (by omega)]; rfl
    have HR := Lib.hid hr
    rw [hc]
    clear hc hr hlt HV HD
    go_wp2_with fail
    go_ret
    exact ⟨by rw [HR.out] <;> rfl, B6.out⟩
  · have hc : cmpZ r hf = 0 := by unfold cmpZ; rw [if_neg (by omega), if_neg (by omega)]
    by_cases ho : q % 2 = 1
    · have hr : hv N n = q + 1 := by rw [HV.out, if_pos (by omega)]
      have HR := Lib.hid hr
      rw [hc]
      have h1 : (q : Int) % 2 = 1 := by omega
      clear hc hr heq HV HD
      go_wp2_with fail
      go_ret
      exact ⟨by rw [HR.out]; go_num, B6.out⟩
    · have hr : hv N n = q := by rw [HV.out, if_neg (by omega)]; rfl
      have HR := Lib.hid hr
      rw [hc]
      have h1 : ¬ (q : Int) % 2 = 1 := by omega
      clear hc hr heq HV HD
      go_wp2_with fail
      go_ret
      exact ⟨by rw [HR.out] <;> rfl, B6.out⟩
  · have hc : cmpZ r hf = 1 := by unfold cmpZ; rw [if_neg (by omega), if_pos hgt]
    have hr : hv N n = q + 1 := by rw [HV.out, if_pos (by omega)]
    have HR := Lib.hid hr
    rw [hc]
    clear hc hr hgt HV HD
    go_wp2_with fail
    go_ret
    exact ⟨by rw [HR.out]; go_num, B6.out⟩
end Go.Proofs.Ytaichdcknoopdaa
