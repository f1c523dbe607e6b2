/- Contract of crucibleref05.Sum: both finite. -/
import Derived.Test.YtaichdcknoopdaaRSum
namespace Go.Proofs.Ytaichdcknoopdaa
open Go.RowKit

set_option maxRecDepth 100000 in
set_option maxHeartbeats 4000000 in
theorem rsum_fin (a b : Nat) (ha : a < 18446744073709551616) (hb : b < 18446744073709551616) (fa : a % 9223372036854775808 < 9218868437227405312) (fb : b % 9223372036854775808 < 9218868437227405312) (w : World) :
    Calls Try.prog 42 #[.int .u64 a, .int .u64 b] w fun e w' => e = .returned (.int .u64 ((add64 a b : Nat) : Int)) ∧ Below w.heap.size w w' := by
  have na : nan64 a = false := by simp [nan64]; omega
  have nb : nan64 b = false := by simp [nan64]; omega
  have HNA := Lib.hid (na ▸ isNaN_any a ha w)
  have HNB := Lib.hid (nb ▸ isNaN_any b hb w)
  have HIA := Lib.hid (inf_dec' (show ¬ a % 9223372036854775808 = 9218868437227405312 by omega) ▸ isInf_any a ha w)
  have HIB := Lib.hid (inf_dec' (show ¬ b % 9223372036854775808 = 9218868437227405312 by omega) ▸ isInf_any b hb w)
  have HPA := Lib.hid (parts_any a ha w)
  have HPB := Lib.hid (parts_any b hb w)
  obtain ⟨-, a1, a2, a3⟩ := parts_mag a fa
  obtain ⟨-, b1, b2, b3⟩ := parts_mag b fb
  obtain ⟨low, hlow⟩ : ∃ low, low = min (pOf a) (pOf b) := ⟨_, rfl⟩
  have l1 : -1074 ≤ low := by omega
  have l2 : low ≤ 971 := by omega
  obtain ⟨da, hda⟩ : ∃ d : Nat, pOf a - low = d := ⟨(pOf a - low).toNat, by omega⟩
  obtain ⟨db, hdb⟩ : ∃ d : Nat, pOf b - low = d := ⟨(pOf b - low).toNat, by omega⟩
  have da1 : da ≤ 2045 := by omega
  have db1 : db ≤ 2045 := by omega
  have hX : upOf a low = mOf a * 2 ^ da := by unfold upOf; rw [hda]; rfl
  have hY : upOf b low = mOf b * 2 ^ db := by unfold upOf; rw [hdb]; rfl
  have SAME := Lib.hid (sum_same a b low hlow ha fa fb)
  have ZERO := Lib.hid (sum_zero a b low hlow fa fb)
  have MORE := Lib.hid (fun D => sum_more a b D low hlow ha fa fb)
  have LESS := Lib.hid (fun D => sum_less a b D low hlow hb fa fb)
  have SA := neg_sgn a ha
  have SB := neg_sgn b hb
  have GA := Lib.hid (fun wx => SA ▸ neg_any a wx)
  have GB := Lib.hid (fun wx => SB ▸ neg_any b wx)
  have TA : bits .and .u64 (a : Int) 9223372036854775808 = ((topOf a : Nat) : Int) := top_and a ha
  have TB : bits .and .u64 (b : Int) 9223372036854775808 = ((topOf b : Nat) : Int) := top_and b hb
  have TA1 : (topOf a : Int) ≤ 9223372036854775808 := by unfold topOf; omega
  have TB1 : (topOf b : Int) ≤ 9223372036854775808 := by unfold topOf; omega
  have wa : IntKind.i64.wrap (pOf a - low) = (da : Int) := by rw [← hda]; exact IntWalk.i64_in _ (by omega)
  have wb : IntKind.i64.wrap (pOf b - low) = (db : Int) := by rw [← hdb]; exact IntWalk.i64_in _ (by omega)
  have mn1 : (if pOf a < pOf b then pOf a else pOf b) = low := by rw [hlow]; split <;> omega
  have mn2 : (if pOf b < pOf a then pOf b else pOf a) = low := by rw [hlow]; split <;> omega
  have mn3 : (if pOf a ≤ pOf b then pOf a else pOf b) = low := by rw [hlow]; split <;> omega
  have hla : ll (mOf a) ≤ 2 := ll_le _ 2 (by rw [show (4294967296 : Nat) ^ 2 = 18446744073709551616 from by decide]; omega)
  have hlb : ll (mOf b) ≤ 2 := ll_le _ 2 (by rw [show (4294967296 : Nat) ^ 2 = 18446744073709551616 from by decide]; omega)
  have hXl : ll (upOf a low) ≤ 66 := ll_le _ 66 (by rw [hX]; exact up_lt _ _ _ a1 (by omega))
  have hYl : ll (upOf b low) ≤ 66 := ll_le _ 66 (by rw [hY]; exact up_lt _ _ _ b1 (by omega))
  have ma : mOf a < 18446744073709551616 := by omega
  have mb : mOf b < 18446744073709551616 := by omega
  have HX := Lib.hid hX
  have HY := Lib.hid hY
  obtain ⟨R, hR⟩ : ∃ R, R = add64 a b := ⟨_, rfl⟩
  rw [← hR] at SAME ZERO MORE LESS ⊢
  clear hR hX hY na nb fa fb ha hb SA SB hlow
  generalize upOf a low = X at *
  generalize upOf b low = Y at *
  generalize mOf a = m at *
  generalize mOf b = n at *
  generalize pOf a = p at *
  generalize pOf b = q at *
  clear hda hdb
  go_enter Try.func42, Try.ntmps42
  go_wp2_with fail
  refine HNA.out.mono ?_; rintro e w' ⟨rfl, rfl⟩
  go_wp2_with fail
  refine HNB.out.mono ?_; rintro e w' ⟨rfl, rfl⟩
  go_wp2_with fail
  refine HIA.out.mono ?_; rintro e w' ⟨rfl, rfl⟩
  go_wp2_with fail
  refine HIA.out.mono ?_; rintro e w' ⟨rfl, rfl⟩
  go_wp2_with fail
  refine HIB.out.mono ?_; rintro e w' ⟨rfl, rfl⟩
  go_wp2_with fail
  refine HPA.out.mono ?_; rintro e w' ⟨rfl, rfl⟩
  go_wp2_with fail
  refine HPB.out.mono ?_; rintro e w' ⟨rfl, rfl⟩
  clear HNA HNB HIA HIB HPA HPB
  go_wp2_with fail
  refine (from_any m ma _).mono ?_
  rintro e w1 ⟨A1, c1, rfl, h1, -, -, h2⟩
  have R1 := Lib.hid h1
  have B1 := Lib.hid h2
  clear h1 h2
  go_wp2_with fail
  refine (shl_ref A1 m da c1 w1 R1.out (by omega) (by omega)).mono ?_
  rw [← HX.out]
  rintro e w2 ⟨A2, c2, rfl, h1, -, -, h2⟩
  have R2 := Lib.hid h1
  have B2 := Lib.hid (B1.out.trans (h2.mono B1.out.size))
  clear h1 h2 R1 B1
  go_wp2_with fail
  refine (from_any n mb _).mono ?_
  rintro e w3 ⟨A3, c3, rfl, h1, -, -, h2⟩
  have R3 := Lib.hid h1
  have R2' := Lib.hid (R2.out.below h2)
  have B3 := Lib.hid (B2.out.trans (h2.mono B2.out.size))
  clear h1 h2 R2 B2
  go_wp2_with fail
  refine (shl_ref A3 n db c3 w3 R3.out (by omega) (by omega)).mono ?_
  rw [← HY.out]
  rintro e w4 ⟨A4, c4, rfl, h1, -, -, h2⟩
  have R4 := Lib.hid h1
  have R2 := Lib.hid (R2'.out.below h2)
  have B4 := Lib.hid (B3.out.trans (h2.mono B3.out.size))
  clear h1 h2 R3 B3 R2'
  go_wp2_with fail
  refine (GA.out _).mono ?_; rintro e w' ⟨rfl, rfl⟩
  go_wp2_with fail
  refine (GB.out _).mono ?_; rintro e w' ⟨rfl, rfl⟩
  clear GA GB mn1 mn2 mn3 wa wb HX HY hla hlb ma mb a1 a2 a3 b1 b2 b3 da1 db1
  have N1 : ∀ Z, (F64.nearest false Z low : Nat) ≤ 9218868437227405312 := fun Z => nearest_le Z low
  by_cases hs : sgn64 a = sgn64 b
  · have HS := Lib.hid (SAME.out hs)
    have hll := ll_add X Y 66 hXl hYl
    have n1 := N1 (X + Y)
    clear SAME ZERO MORE LESS N1
    have hs1 : (sgn64 a == sgn64 b) = true := by rw [beq_iff_eq]; exact hs
    have wz : IntKind.u64.wrap ((topOf a : Int) + ((F64.nearest false (X + Y) low : Nat) : Int)) = (topOf a : Int) + ((F64.nearest false (X + Y) low : Nat) : Int) := IntWalk.u64_in _ (by omega)
    have HW : Hid ((topOf a : Int) + ((F64.nearest false (X + Y) low : Nat) : Int) = (R : Int)) := Lib.hid (by rw [HS.out]; omega)
    have NR := Lib.hid (fun A5 c5 wx h => nearest_ref A5 (X + Y) c5 low wx h (by omega) (by omega) (by omega))
    clear hs HS n1
    generalize ((F64.nearest false (X + Y) low : Nat) : Int) = Z at *
    go_wp2_with fail
    refine (add_ref A2 A4 X Y c2 c4 w4 R2.out R4.out (by omega) (by omega)).mono ?_
    rintro e w5 ⟨A5, c5, rfl, h1, -, -, h2⟩
    have R5 := Lib.hid h1
    have B5 := Lib.hid (B4.out.trans (h2.mono B4.out.size))
    clear h1 h2 R4 R2 B4
    go_wp2_with fail
    refine (NR.out A5 c5 _ R5.out).mono ?_
    rintro e w6 ⟨rfl, h2⟩
    have B6 := Lib.hid (B5.out.trans (h2.mono B5.out.size))
    clear h2 R5 B5 NR
    go_wp2_with fail
    go_ret
    exact ⟨by rw [HW.out] <;> rfl, B6.out⟩
  · have Z := Lib.hid (ZERO.out hs)
    have M := Lib.hid (fun D => MORE.out D hs)
    have L := Lib.hid (fun D => LESS.out D hs)
    clear SAME ZERO MORE LESS
    have hs1 : (sgn64 a == sgn64 b) = false := by rw [beq_eq_false_iff_ne]; exact hs
    clear hs
    by_cases hXY : X < Y
    · obtain ⟨D, rfl⟩ : ∃ D, Y = X + D := ⟨Y - X, by omega⟩
      have hD : D ≠ 0 := by omega
      have HL := Lib.hid (L.out D rfl hD)
      have n1 := N1 D
      have hDl : ll D ≤ 67 := Nat.le_trans (ll_mono (M := X + D) (by omega)) (by omega)
      have wz : IntKind.u64.wrap ((topOf b : Int) + ((F64.nearest false D low : Nat) : Int)) = (topOf b : Int) + ((F64.nearest false D low : Nat) : Int) := IntWalk.u64_in _ (by omega)
      have HW : Hid ((topOf b : Int) + ((F64.nearest false D low : Nat) : Int) = (R : Int)) := Lib.hid (by rw [HL.out]; omega)
      have NR := Lib.hid (fun A5 c5 wx h => nearest_ref A5 D c5 low wx h (by omega) (by omega) (by omega))
      have hlt := Lib.hid hXY
      clear Z M L HL n1 N1 hXY hD
      generalize ((F64.nearest false D low : Nat) : Int) = Z at *
      go_wp2_with fail
      refine (sub_none A2 A4 X (X + D) c2 c4 w4 R2.out R4.out (by omega) (by omega) hlt.out).mono ?_
      rintro e w5 ⟨rfl, h2⟩
      have B5 := Lib.hid (B4.out.trans (h2.mono B4.out.size))
      have R4' := Lib.hid (R4.out.below h2)
      have R2' := Lib.hid (R2.out.below h2)
      clear h2 R4 R2 B4 hlt
      go_wp2_with fail
      refine (sub_ref A4 A2 D X c4 c2 _ R4'.out R2'.out (by omega) (by omega)).mono ?_
      rintro e w6 ⟨A6, c6, rfl, h1, -, -, h2⟩
      have R6 := Lib.hid h1
      have B6 := Lib.hid (B5.out.trans (h2.mono B5.out.size))
      clear h1 h2 R4' R2' B5
      go_wp2_with fail
      refine (NR.out A6 c6 _ R6.out).mono ?_
      rintro e w7 ⟨rfl, h2⟩
      have B7 := Lib.hid (B6.out.trans (h2.mono B6.out.size))
      clear h2 R6 B6 NR
      go_wp2_with fail
      go_ret
      exact ⟨by rw [HW.out] <;> rfl, B7.out⟩
    · obtain ⟨D, rfl⟩ : ∃ D, X = Y + D := ⟨X - Y, by omega⟩
      have hDl : ll D ≤ 67 := Nat.le_trans (ll_mono (M := Y + D) (by omega)) (by omega)
      have n1 := N1 D
      clear hXY N1
      by_cases hD : D = 0
      · subst hD
        have HZ := Lib.hid (Z.out rfl)
        clear Z M L n1
        go_wp2_with fail
        refine (sub_ref A2 A4 0 Y c2 c4 w4 R2.out R4.out (by omega) (by omega)).mono ?_
        rintro e w5 ⟨A5, c5, rfl, h1, -, -, h2⟩
        have R5 := Lib.hid h1
        have B5 := Lib.hid (B4.out.trans (h2.mono B4.out.size))
        clear h1 h2 R4 R2 B4
        have hb0 : blen 0 = 0 := rfl
        go_wp2_with fail
        refine (len_any A5 0 c5 _ R5.out (by omega)).mono ?_
        rw [hb0]
        rintro e w6 ⟨rfl, h2⟩
        have B6 := Lib.hid (B5.out.trans (h2.mono B5.out.size))
        clear h2 R5 B5
        go_wp2_with fail
        go_ret
        exact ⟨by rw [HZ.out] <;> rfl, B6.out⟩
      · have HL := Lib.hid (M.out D rfl hD)
        have hb0 : ((blen D : Nat) : Int) ≠ 0 := by have := blen_log hD; omega
        have hb1 : (((blen D : Nat) : Int) == 0) = false := by rw [beq_eq_false_iff_ne]; exact hb0
        have wz : IntKind.u64.wrap ((topOf a : Int) + ((F64.nearest false D low : Nat) : Int)) = (topOf a : Int) + ((F64.nearest false D low : Nat) : Int) := IntWalk.u64_in _ (by omega)
        have HW : Hid ((topOf a : Int) + ((F64.nearest false D low : Nat) : Int) = (R : Int)) := Lib.hid (by rw [HL.out]; omega)
        have NR := Lib.hid (fun A5 c5 wx h => nearest_ref A5 D c5 low wx h (by omega) (by omega) (by omega))
        clear Z M L HL n1 hD hb0
        generalize ((F64.nearest false D low : Nat) : Int) = Z at *
        go_wp2_with fail
        refine (sub_ref A2 A4 D Y c2 c4 w4 R2.out R4.out (by omega) (by omega)).mono ?_
        rintro e w5 ⟨A5, c5, rfl, h1, -, -, h2⟩
        have R5 := Lib.hid h1
        have B5 := Lib.hid (B4.out.trans (h2.mono B4.out.size))
        clear h1 h2 R4 R2 B4
        go_wp2_with fail
        refine (len_any A5 D c5 _ R5.out (by omega)).mono ?_
        rintro e w6 ⟨rfl, h2⟩
        have B6 := Lib.hid (B5.out.trans (h2.mono B5.out.size))
        have R6 := Lib.hid (R5.out.below h2)
        clear h2 R5 B5
        go_wp2_with fail
        refine (NR.out A5 c5 _ R6.out).mono ?_
        rintro e w7 ⟨rfl, h2⟩
        have B7 := Lib.hid (B6.out.trans (h2.mono B6.out.size))
        clear h2 R6 B6 NR
        go_wp2_with fail
        go_ret
        exact ⟨by rw [HW.out] <;> rfl, B7.out⟩

theorem rsum_any (a b : Nat) (ha : a < 18446744073709551616) (hb : b < 18446744073709551616) (w : World) :
    Calls Try.prog 42 #[.int .u64 a, .int .u64 b] w fun e w' => e = .returned (.int .u64 ((add64 a b : Nat) : Int)) ∧ Below w.heap.size w w' := by
  by_cases h : a % 9223372036854775808 < 9218868437227405312 ∧ b % 9223372036854775808 < 9218868437227405312
  · exact rsum_fin a b ha hb h.1 h.2 w
  · refine (rsum_spec a b ha hb h w).mono ?_
    rintro e w' ⟨rfl, rfl⟩
    exact ⟨rfl, Below.refl _ _⟩
end Go.Proofs.Ytaichdcknoopdaa
