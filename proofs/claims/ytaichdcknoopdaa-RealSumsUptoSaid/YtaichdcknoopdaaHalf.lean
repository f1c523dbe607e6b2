/- Contracts of real.FromHalf, real.Half, real.Single. -/
import Derived.Test.YtaichdcknoopdaaBase2
namespace Go.Proofs.Ytaichdcknoopdaa
open Go.RowKit
attribute [local go_sem] cfFrom cfBits cfFrom32 cfBits32

def fromHalf64 (h : Nat) : Nat :=
  if h / 1024 % 32 = 31 then (if 0 < h % 1024 then 9221120237041090560 else (bits .or .u64 ((h : Int) / 32768 * 9223372036854775808) 9218868437227405312).toNat)
  else if 0 < h / 1024 % 32 then (bits .or .u64 (bits .or .u64 ((h : Int) / 32768 * 9223372036854775808) ((((h / 1024 % 32 : Nat) : Int) + 1008) * 4503599627370496)) (((h % 1024 : Nat) : Int) * 4398046511104)).toNat
  else (bits .or .u64 ((h : Int) / 32768 * 9223372036854775808) (mul64 (floatOfInt .f64 (h % 1024 : Nat)) 4499096027743125504)).toNat

theorem u16_and31 (x : Nat) (h : x < 65536) : bits .and .u16 (x : Int) 31 = ((x % 32 : Nat) : Int) := by
  rw [show (31 : Int) = ((31 : Nat) : Int) from rfl, u16_and_nat x 31 h (by omega)]
  congr 1; exact Nat.and_two_pow_sub_one_eq_mod x 5
theorem u16_and1023 (x : Nat) (h : x < 65536) : bits .and .u16 (x : Int) 1023 = ((x % 1024 : Nat) : Int) := by
  rw [show (1023 : Int) = ((1023 : Nat) : Int) from rfl, u16_and_nat x 1023 h (by omega)]
  congr 1; exact Nat.and_two_pow_sub_one_eq_mod x 10

theorem ret_f64 {a b : Nat} (h : a = b) : Ending.returned (.float .f64 a) = .returned (.float .f64 b) := by rw [h]

theorem mulc_some (n : Nat) : floatBits .mul .f64 (floatOfInt .f64 n) 4499096027743125504 = some (mul64 (floatOfInt .f64 n) 4499096027743125504) := by
  have h : F64.mul (floatOfInt .f64 n) 4499096027743125504 ≠ none := by
    obtain ⟨r, h1, h2⟩ := nearest64_word (decide ((n : Int) < 0)) (n : Int).natAbs 0
    have e : floatOfInt .f64 n = F64.word (decide ((n : Int) < 0)) r := h2
    rw [e]
    unfold Ieee.Format.mul
    have e2 : F64.read 4499096027743125504 = .number false 4503599627370496 (-1074 + (998 : Nat)) := by decide +kernel
    rw [e2, read64, word64_mod _ _ h1]
    split
    · simp [Ieee.Datum.product]
    · split
      · simp [Ieee.Datum.product]
      · rw [if_pos (by omega)]; simp [Ieee.Datum.product]
  unfold mul64
  cases g : F64.mul (floatOfInt .f64 n) 4499096027743125504 with
  | none => exact absurd g h
  | some r => exact g

theorem fromHalf_any (h : Nat) (hh : h < 65536) (w : World) :
    Calls Try.prog 18 #[.int .u16 h] w fun e w' => e = .returned (.float .f64 (fromHalf64 h)) ∧ w = w' := by
  have e1 : bits .and .u16 ((h : Int) / 1024) 31 = ((h / 1024 % 32 : Nat) : Int) := u16_and31 (h / 1024) (by omega)
  have e2 : bits .and .u16 (h : Int) 1023 = ((h % 1024 : Nat) : Int) := u16_and1023 h hh
  have H : Hid (fromHalf64 h = if h / 1024 % 32 = 31 then (if 0 < h % 1024 then 9221120237041090560 else (bits .or .u64 ((h : Int) / 32768 * 9223372036854775808) 9218868437227405312).toNat)
  else if 0 < h / 1024 % 32 then (bits .or .u64 (bits .or .u64 ((h : Int) / 32768 * 9223372036854775808) ((((h / 1024 % 32 : Nat) : Int) + 1008) * 4503599627370496)) (((h % 1024 : Nat) : Int) * 4398046511104)).toNat
  else (bits .or .u64 ((h : Int) / 32768 * 9223372036854775808) (mul64 (floatOfInt .f64 (h % 1024 : Nat)) 4499096027743125504)).toNat) := Lib.hid rfl
  have hE : h / 1024 % 32 < 32 := Nat.mod_lt _ (by omega)
  have hM : h % 1024 < 1024 := Nat.mod_lt _ (by omega)
  generalize h / 1024 % 32 = E at *
  generalize h % 1024 = M at *
  have hm := run_float_arith (P := Try.prog) w .mul 29 .f64 _ _ _ (mulc_some M)
  by_cases c1 : E = 31
  · have c1' : ((E : Int) == 31) = true := by simp [c1]
    by_cases c2 : 0 < M
    · have c2' : decide (0 < (M : Int)) = true := by simp; omega
      have H2 := Lib.hid (H.out.trans (by rw [if_pos c1, if_pos c2]))
      clear c1 H hm
      go_enter Try.func18, Try.ntmps18
      go_wp2
      go_ret
      exact ⟨ret_f64 H2.out.symm, rfl⟩
    · have c2' : decide (0 < (M : Int)) = false := by simp; omega
      have H2 := Lib.hid (H.out.trans (by rw [if_pos c1, if_neg c2]))
      clear c1 H hm
      go_enter Try.func18, Try.ntmps18
      go_wp2
      go_ret
      exact ⟨ret_f64 H2.out.symm, rfl⟩
  · have c1' : ((E : Int) == 31) = false := by simp; omega
    by_cases c2 : 0 < E
    · have c2' : decide (0 < (E : Int)) = true := by simp; omega
      have H2 := Lib.hid (H.out.trans (by rw [if_neg c1, if_pos c2]))
      clear c1 H hm
      go_enter Try.func18, Try.ntmps18
      go_wp2
      go_ret
      exact ⟨ret_f64 H2.out.symm, rfl⟩
    · have c2' : decide (0 < (E : Int)) = false := by simp; omega
      have H2 := Lib.hid (H.out.trans (by rw [if_neg c1, if_neg c2]))
      clear c1 H
      go_enter Try.func18, Try.ntmps18
      go_wp2
      go_ret
      exact ⟨ret_f64 H2.out.symm, rfl⟩

/-- Half's answer, where no step of it is left open -/
def halfO (x : Nat) : Option (Int × Bool) :=
  if nan64 x = true then some (32256, true) else
  if (F64.order (x % 9223372036854775808) 4679237813814689792 == some .gt || F64.order (x % 9223372036854775808) 4679237813814689792 == some .eq) = true then
    some (bits .or .u16 ((x / 9223372036854775808 * 32768 : Nat) : Int) 31744, F64.order (x % 9223372036854775808) 9218868437227405311 == some .gt)
  else if x / 4503599627370496 % 2048 ≤ 1009 then
    (F64.add (x % 9223372036854775808) 4733283208366391296).bind fun a => (F64.sub a 4733283208366391296).bind fun n => (F64.mul n 4715268809856909312).bind fun c => (floatToIntVal .f64 c .u16).bind fun v =>
      if 0 ≤ v ∧ v ≤ 2048 then some (bits .or .u16 ((x / 9223372036854775808 * 32768 : Nat) : Int) v, F64.order n (x % 9223372036854775808) == some .eq) else none
  else if x / 4503599627370496 % 2048 ≤ 1038 then
    (F64.add (x % 9223372036854775808) ((((x / 4503599627370496 % 2048 : Nat) : Int) - 1023 + 42 + 1023) * 4503599627370496).toNat).bind fun a =>
    (F64.sub a ((((x / 4503599627370496 % 2048 : Nat) : Int) - 1023 + 42 + 1023) * 4503599627370496).toNat).bind fun n =>
    (F64.mul n ((1023 - (((x / 4503599627370496 % 2048 : Nat) : Int) - 1023) + 10) * 4503599627370496).toNat).bind fun c => (floatToIntVal .f64 c .u16).bind fun v =>
      if 0 ≤ v ∧ v ≤ 2048 then some (bits .or .u16 ((x / 9223372036854775808 * 32768 : Nat) : Int) (v + (((x / 4503599627370496 % 2048 : Nat) : Int) - 1023 + 14) * 1024), F64.order n (x % 9223372036854775808) == some .eq) else none
  else none

theorem bind_some' {α β : Type} {o : Option α} {g : α → Option β} {r : β} (h : o.bind g = some r) : ∃ x, o = some x ∧ g x = some r := by
  cases o with
  | none => simp at h
  | some x => exact ⟨x, rfl, h⟩

set_option maxRecDepth 100000 in
theorem half_any (x : Nat) (hx : x < 18446744073709551616) (r : Int × Bool) (hr : halfO x = some r) (w : World) :
    Calls Try.prog 16 #[.float .f64 x] w fun e w' => e = .returned (.tuple #[.int .u16 r.1, .bool r.2]) ∧ w = w' := by
  have hs := order64_self x
  have e0 : bits .andNot .u64 (x : Int) 9223372036854775808 = ((x % 9223372036854775808 : Nat) : Int) := by
    rw [show (9223372036854775808 : Int) = ((9223372036854775808 : Nat) : Int) from rfl, u64_andNot_nat x _ hx (by omega), ← and_size]
  have e1 : bits .and .u64 ((x : Int) / 4503599627370496) 2047 = ((x / 4503599627370496 % 2048 : Nat) : Int) := by
    have := u64_and_nat (x / 4503599627370496) 2047 (by omega) (by omega)
    rw [Nat.and_two_pow_sub_one_eq_mod (x / 4503599627370496) 11] at this
    exact this
  have e2 : bits .and .u64 ((x : Int) / 281474976710656) 32768 = ((x / 9223372036854775808 * 32768 : Nat) : Int) := by
    have := u64_and_nat (x / 281474976710656) 32768 (by omega) (by omega)
    rw [show (32768 : Nat) = 2 ^ 15 from rfl, nat_bit] at this
    have e3 : x / 281474976710656 / 2 ^ 15 % 2 * 2 ^ 15 = x / 9223372036854775808 * 32768 := by omega
    rw [e3] at this
    exact this
  unfold halfO at hr
  have hS : x % 9223372036854775808 < 9223372036854775808 := Nat.mod_lt _ (by omega)
  have hE : x / 4503599627370496 % 2048 < 2048 := Nat.mod_lt _ (by omega)
  have hG : x / 9223372036854775808 * 32768 ≤ 32768 := by omega
  generalize x % 9223372036854775808 = S at *
  generalize x / 4503599627370496 % 2048 = E at *
  generalize x / 9223372036854775808 * 32768 = G at *
  by_cases hn : nan64 x = true
  · rw [if_pos hn] at hr
    rw [hn] at hs
    obtain rfl : (32256, true) = r := Option.some.inj hr
    go_enter Try.func16, Try.ntmps16
    go_wp2
    go_ret2
    exact ⟨rfl, rfl⟩
  · rw [if_neg hn] at hr
    have hn' : nan64 x = false := by simpa using hn
    rw [hn'] at hs
    clear hn hn'
    by_cases hb : (F64.order S 4679237813814689792 == some .gt || F64.order S 4679237813814689792 == some .eq) = true
    · rw [if_pos hb] at hr
      obtain rfl := Option.some.inj hr
      clear hr
      go_enter Try.func16, Try.ntmps16
      go_wp2
      go_ret2
      exact ⟨rfl, rfl⟩
    · rw [if_neg hb] at hr
      have hb' : (F64.order S 4679237813814689792 == some .gt || F64.order S 4679237813814689792 == some .eq) = false := by simpa using hb
      clear hb
      by_cases hc : E ≤ 1009
      · rw [if_pos hc] at hr
        obtain ⟨a, ha, hr⟩ := bind_some' hr
        obtain ⟨n, hn, hr⟩ := bind_some' hr
        obtain ⟨c, hc', hr⟩ := bind_some' hr
        obtain ⟨v, hv, hr⟩ := bind_some' hr
        by_cases hv2 : 0 ≤ v ∧ v ≤ 2048
        · rw [if_pos hv2] at hr
          obtain ⟨v1, v2⟩ := hv2
          obtain rfl := Option.some.inj hr
          clear hr
          have h1 := run_float_arith (P := Try.prog) w .add 29 .f64 S 4733283208366391296 a ha
          have h2 := run_float_arith (P := Try.prog) w .sub 29 .f64 a 4733283208366391296 n hn
          have h3 := run_float_arith (P := Try.prog) w .mul 29 .f64 n 4715268809856909312 c hc'
          have h4 := run_convert_float_int (P := Try.prog) w 29 23 .f64 .u16 c v (by rw [Try.underlying29]; rfl) Try.underlying23 hv
          clear ha hn hc' hv
          rcases Nat.lt_or_eq_of_le hc with hc1 | rfl
          · clear hc
            go_enter Try.func16, Try.ntmps16
            go_wp2
            all_goals go_ret2
            all_goals exact ⟨rfl, rfl⟩
          · clear hc
            go_enter Try.func16, Try.ntmps16
            go_wp2
            all_goals go_ret2
            all_goals exact ⟨rfl, rfl⟩
        · rw [if_neg hv2] at hr; cases hr
      · rw [if_neg hc] at hr
        by_cases hd : E ≤ 1038
        · rw [if_pos hd] at hr
          obtain ⟨a, ha, hr⟩ := bind_some' hr
          obtain ⟨n, hn, hr⟩ := bind_some' hr
          obtain ⟨c, hc', hr⟩ := bind_some' hr
          obtain ⟨v, hv, hr⟩ := bind_some' hr
          by_cases hv2 : 0 ≤ v ∧ v ≤ 2048
          · rw [if_pos hv2] at hr
            obtain ⟨v1, v2⟩ := hv2
            obtain rfl := Option.some.inj hr
            clear hr
            have h1 := run_float_arith (P := Try.prog) w .add 29 .f64 S _ a ha
            have h2 := run_float_arith (P := Try.prog) w .sub 29 .f64 a _ n hn
            have h3 := run_float_arith (P := Try.prog) w .mul 29 .f64 n _ c hc'
            have h4 := run_convert_float_int (P := Try.prog) w 29 23 .f64 .u16 c v (by rw [Try.underlying29]; rfl) Try.underlying23 hv
            clear ha hn hc' hv
            go_enter Try.func16, Try.ntmps16
            go_wp2
            all_goals go_ret2
            all_goals exact ⟨rfl, rfl⟩
          · rw [if_neg hv2] at hr; cases hr
        · rw [if_neg hd] at hr; cases hr
end Go.Proofs.Ytaichdcknoopdaa
