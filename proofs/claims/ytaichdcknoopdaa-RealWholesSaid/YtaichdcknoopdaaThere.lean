/- Halves there and back; whole numbers there and back: the plain part. -/
import Derived.Test.YtaichdcknoopdaaWhole
import Derived.Test.YtaichdcknoopdaaExact
namespace Go.Proofs.Ytaichdcknoopdaa
open Go

theorem order64_pos (x y : Nat) (hx : x < 9218868437227405312) (hy : y < 9218868437227405312) : F64.order x y = some (compare x y) := by
  rw [order64_rank x y (by omega) (by omega)]
  unfold rank64
  rw [Nat.div_eq_of_lt (show x < 9223372036854775808 by omega), Nat.div_eq_of_lt (show y < 9223372036854775808 by omega), if_neg (by decide), if_neg (by decide), Nat.mod_eq_of_lt (by omega), Nat.mod_eq_of_lt (by omega)]
  congr 1
  simp only [compare, compareOfLessAndEq]
  simp [Int.natCast_inj]

theorem sign_or (G z : Nat) (hG : G < 2) (hz : z < 9223372036854775808) : bits .or .u64 (((G * 9223372036854775808 : Nat)) : Int) ((z : Nat) : Int) = ((G * 9223372036854775808 + z : Nat) : Int) := by
  rw [u64_or_nat _ _ (by omega) (by omega)]
  congr 1
  exact nat_join 63 _ _ (by omega) hz
theorem sign_or16 (G z : Nat) (hG : G < 2) (hz : z < 32768) : bits .or .u16 (((G * 32768 : Nat)) : Int) ((z : Nat) : Int) = ((G * 32768 + z : Nat) : Int) := by
  rw [u16_or_nat _ _ (by omega) (by omega)]
  congr 1
  exact nat_join 15 _ _ (by omega) hz

theorem natfit {n : Nat} {k : IntKind} (h1 : k.min ≤ 0) (h2 : (n : Int) ≤ k.max) : k.min ≤ (n : Int) ∧ (n : Int) ≤ k.max := ⟨by omega, h2⟩

theorem u16max {n : Nat} (h : n < 65536) : (n : Int) ≤ IntKind.u16.max := by
  have e : IntKind.u16.max = 65535 := by decide
  rw [e]; omega

theorem eqeq : (some Ordering.eq == some Ordering.eq) = true := by decide

/-- a pattern whose value is a small whole number of steps: what Half's steps make of it, the exponent being at the least -/
theorem half_small (v S : Nat) (hv : v < 2048) (hS : S < 9218868437227405312) (hm : mag64 S = v * pw 1050) (hE : S / 4503599627370496 ≤ 1009) (G : Nat) (hG : G < 2) :
    halfO (G * 9223372036854775808 + S) = some (((G * 32768 + v : Nat) : Int), true) := by
  have e1 : (G * 9223372036854775808 + S) % 9223372036854775808 = S := by omega
  have e2 : (G * 9223372036854775808 + S) / 9223372036854775808 = G := by omega
  have e3 : (G * 9223372036854775808 + S) / 4503599627370496 % 2048 = S / 4503599627370496 := by omega
  unfold halfO
  have hn : nan64 (G * 9223372036854775808 + S) = false := by unfold nan64; rw [e1]; exact decide_eq_false (by omega)
  rw [hn, if_neg (by decide), e1, e2, e3]
  have ho : F64.order S 4679237813814689792 = some .lt := by
    rw [order64_pos S _ hS (by omega)]
    have : S < 4679237813814689792 := by omega
    simp [compare, compareOfLessAndEq, this]
  rw [ho, if_neg (by decide), if_pos hE]
  have hB : mag64 4733283208366391296 = 4503599627370496 * pw 1050 := mag64_split 1050 4503599627370496 (by omega) (by omega)
  have hC : mag64 4715268809856909312 = 4503599627370496 * pw 1046 := mag64_split 1046 4503599627370496 (by omega) (by omega)
  have hA : mag64 (1050 * 4503599627370496 + (4503599627370496 + v)) = (4503599627370496 + v) * pw 1050 := mag64_split 1050 _ (by omega) (by omega)
  have h1 : F64.add S 4733283208366391296 = some (1050 * 4503599627370496 + (4503599627370496 + v)) := add_exact hS (by omega) (by omega) (by rw [hm, hB, hA, Nat.add_mul]; exact Nat.add_comm _ _)
  have h2 : F64.sub (1050 * 4503599627370496 + (4503599627370496 + v)) 4733283208366391296 = some S := sub_exact (by omega) (by omega) hS (by rw [hm, hB, hA, Nat.add_mul])
  rw [h1, Option.bind_some, h2, Option.bind_some]
  obtain ⟨c, hc, hcm⟩ : ∃ c, c < 9218868437227405312 ∧ mag64 c = v * pw 1074 := by
    by_cases hv0 : v = 0
    · exact ⟨0, by omega, by rw [hv0, mag64_zero, Nat.zero_mul]⟩
    · have hl : v.log2 < 11 := (Nat.log2_lt hv0).2 (by omega)
      obtain ⟨r, r1, r2, r3⟩ := rung_of v 1074 hv0 (by omega) (by omega)
      exact ⟨r, by omega, r1⟩
  have h3 : F64.mul S 4715268809856909312 = some c := mul_exact hS (by omega) hc (by
    rw [hm, hC, hcm, ← pw_52, pw_add, Nat.mul_assoc, Nat.mul_assoc, pw_add, pw_add])
  rw [h3, Option.bind_some]
  have ht : trunc64 c = (v : Int) := by
    unfold trunc64
    rw [Nat.div_eq_of_lt (show c < 9223372036854775808 by omega), if_neg (by decide), Nat.mod_eq_of_lt (by omega), hcm, Nat.mul_div_cancel _ (pw_pos _)]
  have h4 : floatToIntVal .f64 c .u16 = some (v : Int) := by
    rw [toIntVal64 c .u16 (by rw [Nat.mod_eq_of_lt (by omega)]; exact hc) (by rw [ht]; exact natfit (by decide) (u16max (by omega))), ht]
  rw [h4, Option.bind_some, if_pos (by omega), sign_or16 G v hG (by omega)]
  have h5 : F64.order S S = some .eq := by rw [order64_pos S S hS hS]; simp [compare, compareOfLessAndEq]
  rw [h5]
  clear h1 h2 h3 h4 h5 hA hB hC hcm ht hm hn ho e1 e2 e3 hS hE hc
  refine congrArg some ?_
  exact Prod.ext rfl eqeq

/-- likewise, the exponent being greater -/
theorem half_great (E v S : Nat) (hE1 : 2 ≤ E) (hE2 : E ≤ 30) (hv1 : 1024 ≤ v) (hv2 : v < 2048) (G : Nat) (hG : G < 2) (hS : S < 9218868437227405312) (hm' : mag64 S = v * pw (E + 1049)) (hE : S / 4503599627370496 = E + 1008) (hlt : S < 4679237813814689792) :
    halfO (G * 9223372036854775808 + S) = some (((G * 32768 + (E * 1024 + (v - 1024)) : Nat) : Int), true) := by
  have e1 : (G * 9223372036854775808 + S) % 9223372036854775808 = S := by omega
  have e2 : (G * 9223372036854775808 + S) / 9223372036854775808 = G := by omega
  have e3 : (G * 9223372036854775808 + S) / 4503599627370496 % 2048 = E + 1008 := by omega
  unfold halfO
  have hn : nan64 (G * 9223372036854775808 + S) = false := by unfold nan64; rw [e1]; exact decide_eq_false (by omega)
  rw [hn, if_neg (by decide), e1, e2, e3]
  have ho : F64.order S 4679237813814689792 = some .lt := by
    rw [order64_pos S _ hS (by omega)]
    simp [compare, compareOfLessAndEq, hlt]
  rw [ho, if_neg (by decide), if_neg (by omega), if_pos (by omega)]
  obtain ⟨B, eB, hBl, hB⟩ : ∃ B : Nat, ((((E + 1008 : Nat) : Int) - 1023 + 42 + 1023) * 4503599627370496).toNat = B ∧ B < 9218868437227405312 ∧ mag64 B = 4503599627370496 * pw (E + 1049) :=
    ⟨(E + 1049) * 4503599627370496 + 4503599627370496, by omega, by omega, mag64_split (E + 1049) 4503599627370496 (by omega) (by omega)⟩
  obtain ⟨C, eC, hCl, hC⟩ : ∃ C : Nat, ((1023 - (((E + 1008 : Nat) : Int) - 1023) + 10) * 4503599627370496).toNat = C ∧ C < 9218868437227405312 ∧ mag64 C = 4503599627370496 * pw (1047 - E) :=
    ⟨(1047 - E) * 4503599627370496 + 4503599627370496, by omega, by omega, mag64_split (1047 - E) 4503599627370496 (by omega) (by omega)⟩
  obtain ⟨A, hAl, hA⟩ : ∃ A : Nat, A < 9218868437227405312 ∧ mag64 A = (4503599627370496 + v) * pw (E + 1049) :=
    ⟨(E + 1049) * 4503599627370496 + (4503599627370496 + v), by omega, mag64_split (E + 1049) (4503599627370496 + v) (by omega) (by omega)⟩
  rw [eB, eC]
  have h1 : F64.add S B = some A := add_exact hS hBl hAl (by rw [hm', hB, hA, Nat.add_mul]; exact Nat.add_comm _ _)
  have h2 : F64.sub A B = some S := sub_exact hAl hBl hS (by rw [hm', hB, hA, Nat.add_mul])
  rw [h1, Option.bind_some, h2, Option.bind_some]
  obtain ⟨c, hc, hcm⟩ : ∃ c, c < 9218868437227405312 ∧ mag64 c = v * pw 1074 := ⟨1032 * 4503599627370496 + v * 4398046511104, by omega, by
    rw [mag64_split 1032 (v * 4398046511104) (by omega) (by omega), ← pw_42, Nat.mul_assoc, pw_add]⟩
  have h3 : F64.mul S C = some c := mul_exact hS hCl hc (by
    rw [hm', hC, hcm, ← pw_52, pw_add, Nat.mul_assoc, Nat.mul_assoc, pw_add, pw_add, show E + 1049 + (52 + (1047 - E)) = 1074 + 1074 from by omega])
  rw [h3, Option.bind_some]
  have ht : trunc64 c = ((v : Nat) : Int) := by
    unfold trunc64
    rw [Nat.div_eq_of_lt (show c < 9223372036854775808 by omega), if_neg (by decide), Nat.mod_eq_of_lt (by omega), hcm, Nat.mul_div_cancel _ (pw_pos _)]
  have h4 : floatToIntVal .f64 c .u16 = some ((v : Nat) : Int) := by
    rw [toIntVal64 c .u16 (by rw [Nat.mod_eq_of_lt (by omega)]; exact hc) (by rw [ht]; exact natfit (by decide) (u16max (by omega))), ht]
  rw [h4, Option.bind_some, if_pos (by omega)]
  have e5 : ((v : Nat) : Int) + (((E + 1008 : Nat) : Int) - 1023 + 14) * 1024 = ((E * 1024 + (v - 1024) : Nat) : Int) := by omega
  rw [e5, sign_or16 G _ hG (by omega)]
  have h5 : F64.order S S = some .eq := by rw [order64_pos S S hS hS]; simp [compare, compareOfLessAndEq]
  rw [h5]
  clear h1 h2 h3 h4 h5 hA hB hC hcm ht hm' hn ho e1 e2 e3 hS hE hc
  refine congrArg some ?_
  exact Prod.ext rfl eqeq

theorem fromHalf_parts (h : Nat) (hh : h < 65536) : ∃ G E M, G < 2 ∧ E < 32 ∧ M < 1024 ∧ h = G * 32768 + (E * 1024 + M) ∧ h / 1024 % 32 = E ∧ h % 1024 = M ∧ (h : Int) / 32768 * 9223372036854775808 = ((G * 9223372036854775808 : Nat) : Int) :=
  ⟨h / 32768, h / 1024 % 32, h % 1024, by omega, by omega, by omega, by omega, rfl, rfl, by omega⟩

theorem join_a3 (G E M : Nat) (hM : M < 1024) : G * 9223372036854775808 + (E + 1008) * 4503599627370496 ||| M * 4398046511104 = G * 9223372036854775808 + ((E + 1007) * 4503599627370496 + (1024 + M) * 4398046511104) := by
  rw [nat_join 52 (G * 9223372036854775808 + (E + 1008) * 4503599627370496) (M * 4398046511104) (by omega) (by omega)]; omega

/-- a half that is a number comes back -/
theorem half_there (h : Nat) (hh : h < 65536) (hf : h / 1024 % 32 ≠ 31) : halfO (fromHalf64 h) = some ((h : Int), true) ∧ nan64 (fromHalf64 h) = false ∧ fromHalf64 h < 18446744073709551616 := by
  obtain ⟨G, E, M, hG, hE, hM, rfl, e1, e2, e3⟩ := fromHalf_parts h hh
  rw [e1] at hf
  unfold fromHalf64
  rw [e1, e2, e3, if_neg hf]
  have hE31 : E < 31 := by omega
  clear e1 e2 e3 hh hf hE
  by_cases hE0 : 0 < E
  · rw [if_pos hE0]
    have a1 : ((E : Int) + 1008) * 4503599627370496 = (((E + 1008) * 4503599627370496 : Nat) : Int) := by omega
    have a2 : (M : Int) * 4398046511104 = ((M * 4398046511104 : Nat) : Int) := by omega
    rw [a1, a2, sign_or G ((E + 1008) * 4503599627370496) hG (by omega), u64_or_nat (G * 9223372036854775808 + (E + 1008) * 4503599627370496) (M * 4398046511104) (by omega) (by omega), Int.toNat_natCast]
    clear a1 a2
    rw [join_a3 G E M hM]
    refine ⟨?_, ?_, by omega⟩
    · by_cases hE1 : 2 ≤ E
      · rw [half_great E (1024 + M) _ hE1 (by omega) (by omega) (by omega) G hG (by omega) (by
          rw [mag64_split (E + 1007) _ (by omega) (by omega), ← pw_42, Nat.mul_assoc, pw_add, show 42 + (E + 1007) = E + 1049 from by omega]) (by omega) (by omega), Nat.add_sub_cancel_left]
      · obtain rfl : E = 1 := by omega
        have := half_small (1024 + M) ((1 + 1007) * 4503599627370496 + (1024 + M) * 4398046511104) (by omega) (by omega) (by
          rw [mag64_split _ _ (by omega) (by omega), ← pw_42, Nat.mul_assoc, pw_add]) (by omega) G hG
        rw [this]
    · unfold nan64; exact decide_eq_false (by omega)
  · obtain rfl : E = 0 := by omega
    rw [if_neg hE0]
    have hfl : ∃ x, x < 9218868437227405312 ∧ mag64 x = M * pw 1074 ∧ floatOfInt .f64 M = x := by
      by_cases hM0 : M = 0
      · refine ⟨0, by omega, by rw [hM0, mag64_zero, Nat.zero_mul], ?_⟩
        rw [ofInt_exact (M : Int) 0 (by omega) (by rw [hM0, mag64_zero]; simp), hM0]
        rfl
      · have hl : M.log2 < 10 := (Nat.log2_lt hM0).2 (by omega)
        obtain ⟨r, r1, r2, r3⟩ := rung_of M 1074 hM0 (by omega) (by omega)
        refine ⟨r, by omega, r1, ?_⟩
        rw [ofInt_exact (M : Int) r (by omega) (by rw [r1]; rfl), decide_eq_false (by omega), word_false]
    obtain ⟨x, hx, hxm, hxe⟩ := hfl
    have hSx : ∃ S, S < 9218868437227405312 ∧ mag64 S = M * pw 1050 ∧ S / 4503599627370496 ≤ 1008 := by
      by_cases hM0 : M = 0
      · exact ⟨0, by omega, by rw [hM0, mag64_zero, Nat.zero_mul], by omega⟩
      · have hl : M.log2 < 10 := (Nat.log2_lt hM0).2 (by omega)
        obtain ⟨r, r1, r2, r3⟩ := rung_of M 1050 hM0 (by omega) (by omega)
        exact ⟨r, by omega, r1, by omega⟩
    obtain ⟨S, hS, hSm, hSE⟩ := hSx
    have hcm : mag64 4499096027743125504 = 4503599627370496 * pw 998 := mag64_split 998 4503599627370496 (by omega) (by omega)
    have hmul : F64.mul x 4499096027743125504 = some S := mul_exact hx (by omega) hS (by
      rw [hxm, hcm, hSm, ← pw_52, pw_add, Nat.mul_assoc, Nat.mul_assoc, pw_add, pw_add])
    have hS' : mul64 (floatOfInt .f64 M) 4499096027743125504 = S := by unfold mul64; rw [hxe, hmul]; rfl
    rw [hS', sign_or G S hG (by omega), Int.toNat_natCast]
    refine ⟨?_, ?_, by omega⟩
    · rw [half_small M S (by omega) hS hSm (by omega) G hG]
      simp
    · unfold nan64; exact decide_eq_false (by omega)

/-- of every half: what the law asks -/
theorem half_back (h : Nat) (hh : h < 65536) : ∃ k : Nat, k < 65536 ∧ halfO (fromHalf64 h) = some ((k : Int), true) ∧ one64 (fromHalf64 k) = one64 (fromHalf64 h) ∧ (h % 32768 ≤ 31744 → k = h) ∧ fromHalf64 h < 18446744073709551616 := by
  by_cases hf : h / 1024 % 32 = 31
  · by_cases hM : h % 1024 = 0
    · have h2 : h = 31744 ∨ h = 64512 := by omega
      rcases h2 with rfl | rfl
      · exact ⟨31744, by omega, by decide +kernel, rfl, fun _ => rfl, by decide +kernel⟩
      · exact ⟨64512, by omega, by decide +kernel, rfl, fun _ => rfl, by decide +kernel⟩
    · have e : fromHalf64 h = 9221120237041090560 := by unfold fromHalf64; rw [if_pos hf, if_pos (by omega)]
      rw [e]
      exact ⟨32256, by omega, by decide +kernel, by decide +kernel, fun _ => by omega, by decide⟩
  · obtain ⟨h1, -, h3⟩ := half_there h hh hf
    exact ⟨h, hh, h1, rfl, fun _ => rfl, h3⟩
end Go.Proofs.Ytaichdcknoopdaa
