/- The program's decimal at uint64: Exact. -/
import Derived.Test.YtgckfilmhnapeaaDoorEx0
import Derived.Test.YtgckfilmhnapeaaDoorIeA
import Derived.Test.YtgckfilmhnapeaaDoorIrA
namespace Go.Proofs.YtgckfilmhnapeaaDoor
open Go.RowKit Go.Lib
set_option linter.unusedVariables false

set_option maxRecDepth 100000 in
set_option maxHeartbeats 4000000 in
theorem exact_A (x : Nat) (hx : x < 18446744073709551616) (w : World) (hT : Tabs w) :
    Calls Tryd.prog 34 #[.int .u64 x] w (ExPost 52 1074 9218868437227405312 (decide (9223372036854775808 ≤ x)) (x % 9223372036854775808) w) := by
  have HP := Lib.hid (fun wx (hb : Below w.heap.size w wx) => parts_A x hx wx (hT.below hb))
  have HTB := Lib.hid (fun wx (hb : Below w.heap.size w wx) => hT.below hb)
  generalize x % 9223372036854775808 = sz at *
  generalize decide (9223372036854775808 ≤ x) = neg at *
  clear hT
  go_enter Tryd.func34, Tryd.ntmps34
  go_wp2_with fail
  have HB0 : Hid (Below w.heap.size w (w.alloc (.cells #[.bool false, .string ⟨#[]⟩, .int .i64 0] 23))) := Lib.hid ((Below.refl w.heap.size w).alloc (Nat.le_refl _) _)
  have HK0 := Lib.hid (Blk.new w 23 #[.bool false, .string ⟨#[]⟩, .int .i64 0])
  refine (HP.out _ HB0.out).mono ?_
  rintro e w1 ⟨hb1, hcases⟩
  have HB1 := Lib.hid (HB0.out.trans (hb1.mono HB0.out.size))
  have HK1 := Lib.hid (HK0.out.below hb1 (by simp))
  clear hb1 HP HB0 HK0
  rcases hcases with ⟨hin, rfl⟩ | ⟨hz, rfl⟩ | ⟨hin, hz, u, z, rfl, huz⟩
  · skip
    have n0 := HK1.out.cell 0
    have n1 := HK1.out.cell 1
    have n2 := HK1.out.cell 2
    have f0 := HK1.out.frozen 0
    have f1 := HK1.out.frozen 1
    have f2 := HK1.out.frozen 2
    simp at n0 n1 n2
    go_wp2_with fail
    exact bodyPost_ret (v := .tuple #[.agg #[.bool false, .string ⟨#[]⟩, .int .i64 0], .bool false]) (by simp [results, Tryd.results34, go_sem, n0, n1, n2]) rfl ⟨((HB1.out.setCell (p := ⟨w.heap.size, 0, none⟩) (Nat.le_refl _) _).setCell (p := ⟨w.heap.size, 1, none⟩) (Nat.le_refl _) _).setCell (p := ⟨w.heap.size, 2, none⟩) (Nat.le_refl _) _, .inl ⟨hin, rfl⟩⟩
  · subst hz
    have n0 := HK1.out.cell 0
    have n1 := HK1.out.cell 1
    have n2 := HK1.out.cell 2
    have f0 := HK1.out.frozen 0
    have f1 := HK1.out.frozen 1
    have f2 := HK1.out.frozen 2
    simp at n0 n1 n2
    go_wp2_with fail
    exact bodyPost_ret (v := .tuple #[.agg #[.bool neg, .string ⟨#[]⟩, .int .i64 0], .bool true]) (by simp [results, Tryd.results34, go_sem, n0, n1, n2]) rfl ⟨((HB1.out.setCell (p := ⟨w.heap.size, 0, none⟩) (Nat.le_refl _) _).setCell (p := ⟨w.heap.size, 1, none⟩) (Nat.le_refl _) _).setCell (p := ⟨w.heap.size, 2, none⟩) (Nat.le_refl _) _, .inr (.inl ⟨rfl, rfl⟩)⟩
  · obtain ⟨zb, ub⟩ := z_bound u z 52 2046 sz huz (by rw [inf_eq_A]; exact hin)
    have hum := u_small 52 u z sz huz
    have hub : blen (2 * u + 1) ≤ 53 := (blen_iff _ _).2 hum
    have hu64 : 2 * u + 1 < 18446744073709551616 := Nat.lt_of_lt_of_le hum (by decide)
    have HFR0 : Hid (2 * u + 1 < 18446744073709551616) := Lib.hid hu64
    have HFR := Lib.hid (fun wx => pfrom_any (2 * u + 1) HFR0.out wx)
    have HUZ := Lib.hid huz
    have HSZ := Lib.hid (show sz < 9218868437227405312 ∧ sz ≠ 0 from ⟨hin, hz⟩)
    have hne : (((2 * u + 1 : Nat) : Int) == 0) = false := by rw [beq_eq_false_iff_ne]; omega
    obtain ⟨m, hm⟩ : ∃ m, 2 * u + 1 = m := ⟨_, rfl⟩
    have HM := Lib.hid hm
    rw [hm] at hub HFR hne ⊢
    have hm0 : m ≠ 0 := by omega
    have HM0 := Lib.hid hm0
    clear huz hin hz hu64 ub hm hm0 hum
    go_wp2_with fail
    refine (HFR.out _).mono ?_
    rintro e w2 ⟨A2, c2, rfl, hca, hla, hma, hba⟩
    have C2 := Lib.hid (CanC.mk hca hla hma)
    have HB2 := Lib.hid (HB1.out.trans (hba.mono HB1.out.size))
    have HK2 := Lib.hid (HK1.out.below hba HK1.out.lt)
    clear hca hla hma hba HFR
    have ll2 : ll m ≤ 70 := ll_of_blen m 70 (by omega)
    by_cases hzl : 1074 ≤ z
    · obtain ⟨j, hj⟩ : ∃ j, z = 1074 + j := ⟨z - 1074, by omega⟩
      have hjI : (z : Int) - 1074 = (j : Int) := by omega
      have hj0 : (0 : Int) ≤ (j : Int) := by omega
      have hmin : min (j : Int) 0 = 0 := by omega
      have HSH := Lib.hid (shl_can A2 m c2 j w2 C2.out.can C2.out.le C2.out.max (by omega))
      have HN0 : Hid (m * 2 ^ j ≠ 0) := Lib.hid (Nat.mul_ne_zero HM0.out (Nat.pos_iff_ne_zero.1 (Nat.two_pow_pos j)))
      have HSPEC : Hid (m * 2 ^ j * 2 ^ 1074 = pv 52 sz * 10 ^ 0) := Lib.hid (by rw [← HM.out]; exact ex_up u z 1074 j _ HUZ.out hj)
      have lN : ll (m * 2 ^ j) ≤ 200 := ll_shl m j 200 (by omega)
      have HEN : Hid (Enough (m * 2 ^ j) 6400) := Lib.hid (enough_of _ _ (Nat.le_trans (blen_of_ll _ 200 lN) (by decide)))
      generalize m * 2 ^ j = N at *
      have HDG := Lib.hid (fun A c wx (h : CanC wx A c N) => pdigits_any A N c 6400 wx h (by omega) HEN.out (by decide))
      have hszb2 : (digitsS N).size ≤ 6400 := by rw [digitsS_size N HN0.out]; exact dig_len_le (by decide) N 6400 (lt_of_enough N 6400 HEN.out)
      have HTR : Hid (∀ wx, Calls Tryd.prog 62 #[.string (digitsS N), .string ⟨#[48]⟩] wx fun e w' => e = .returned (.string (plainS (digitsS N))) ∧ w' = wx) := Lib.hid (fun wx => trim_digits N HN0.out (Nat.le_trans hszb2 (by decide)) wx)
      obtain ⟨tx, htx⟩ : ∃ tx, plainS (digitsS N) = tx := ⟨_, rfl⟩
      have HTX := Lib.hid htx
      rw [htx] at HTR
      clear htx
      clear hj HM hzl zb
      go_wp2_with fail
      refine HSH.out.mono ?_
      rintro e w4 ⟨A4, c4, rfl, hca, hla, hma, hba⟩
      have C4 := Lib.hid (CanC.mk hca hla hma)
      have HB4 := Lib.hid (HB2.out.trans (hba.mono HB2.out.size))
      have HK4 := Lib.hid (HK2.out.below hba HK2.out.lt)
      clear hca hla hma hba HSH
      go_wp2_with fail
      refine (HDG.out _ _ w4 C4.out).mono ?_
      rintro e w5 ⟨rfl, hb5⟩
      have HB5 := Lib.hid (HB4.out.trans (hb5.mono HB4.out.size))
      have HK5 := Lib.hid (HK4.out.below hb5 HK4.out.lt)
      clear hb5
      have n0 := HK5.out.cell 0
      have n1 := HK5.out.cell 1
      have n2 := HK5.out.cell 2
      have f0 := HK5.out.frozen 0
      have f1 := HK5.out.frozen 1
      have f2 := HK5.out.frozen 2
      simp at n0 n1 n2
      go_wp2_with fail
      refine (HTR.out _).mono ?_
      rintro e w6 ⟨rfl, hw6⟩
      subst hw6
      go_wp2_with fail
      exact bodyPost_ret (v := .tuple #[.agg #[.bool neg, .string tx, .int .i64 ((digitsS N).size : Int)], .bool true]) (by simp [results, Tryd.results34, go_sem, n0, n1, n2]) rfl ⟨((HB5.out.setCell (p := ⟨w.heap.size, 0, none⟩) (Nat.le_refl _) _).setCell (p := ⟨w.heap.size, 1, none⟩) (Nat.le_refl _) _).setCell (p := ⟨w.heap.size, 2, none⟩) (Nat.le_refl _) _, .inr (.inr ⟨HSZ.out.1, HSZ.out.2, N, 0, by rw [HTX.out]; exact retx (by omega), HN0.out, HSPEC.out⟩)⟩
    · obtain ⟨k, hk⟩ : ∃ k, 1074 = z + k := ⟨1074 - z, by omega⟩
      have hjI : (z : Int) - 1074 = -(k : Int) := by omega
      have hk0 : ¬ (0 : Int) ≤ -(k : Int) := by omega
      have hk1 : (0 : Int) < (k : Int) := by omega
      have hmin : min (-(k : Int)) 0 = -(k : Int) := by omega
      have HPW := Lib.hid (fun wx (h : Below w.heap.size w wx) => ppow5 k (by omega) wx (HTB.out wx h))
      have HN0 : Hid (m * 5 ^ k ≠ 0) := Lib.hid (Nat.mul_ne_zero HM0.out (Nat.pos_iff_ne_zero.1 (Nat.pow_pos (by decide))))
      have HSPEC : Hid (m * 5 ^ k * 2 ^ 1074 = pv 52 sz * 10 ^ k) := Lib.hid (by rw [← HM.out]; exact ex_down u z 1074 k _ HUZ.out hk)
      have l5 := (five_ll (5 ^ k) k (by omega) (Nat.le_refl _)).1
      have lN : ll (m * 5 ^ k) ≤ 200 := ll_five m k 200 (by omega)
      have HEN : Hid (Enough (m * 5 ^ k) 6400) := Lib.hid (enough_of _ _ (Nat.le_trans (blen_of_ll _ 200 lN) (by decide)))
      have HML := Lib.hid (fun wx A c (h : CanC wx A c (5 ^ k)) (h2 : CanC wx A2 c2 m) => h2.mul h (by omega) (by omega))
      generalize m * 5 ^ k = N at *
      have HDG := Lib.hid (fun A c wx (h : CanC wx A c N) => pdigits_any A N c 6400 wx h (by omega) HEN.out (by decide))
      have hszb2 : (digitsS N).size ≤ 6400 := by rw [digitsS_size N HN0.out]; exact dig_len_le (by decide) N 6400 (lt_of_enough N 6400 HEN.out)
      have HTR : Hid (∀ wx, Calls Tryd.prog 62 #[.string (digitsS N), .string ⟨#[48]⟩] wx fun e w' => e = .returned (.string (plainS (digitsS N))) ∧ w' = wx) := Lib.hid (fun wx => trim_digits N HN0.out (Nat.le_trans hszb2 (by decide)) wx)
      obtain ⟨tx, htx⟩ : ∃ tx, plainS (digitsS N) = tx := ⟨_, rfl⟩
      have HTX := Lib.hid htx
      rw [htx] at HTR
      clear htx
      clear hk HM hzl zb
      go_wp2_with fail
      refine (HPW.out _ HB2.out).mono ?_
      rintro e w3 ⟨A3, c3, rfl, hca, hla, hma, hba⟩
      have C3 := Lib.hid (CanC.mk hca hla hma)
      have C23 := Lib.hid (C2.out.below hba)
      have HB3 := Lib.hid (HB2.out.trans (hba.mono HB2.out.size))
      have HK3 := Lib.hid (HK2.out.below hba HK2.out.lt)
      clear hca hla hma hba HPW
      go_wp2_with fail
      refine (HML.out _ _ _ C3.out C23.out).mono ?_
      rintro e w4 ⟨A4, c4, rfl, hca, hla, hma, hba⟩
      have C4 := Lib.hid (CanC.mk hca hla hma)
      have HB4 := Lib.hid (HB3.out.trans (hba.mono HB3.out.size))
      have HK4 := Lib.hid (HK3.out.below hba HK3.out.lt)
      clear hca hla hma hba HML
      go_wp2_with fail
      refine (HDG.out _ _ w4 C4.out).mono ?_
      rintro e w5 ⟨rfl, hb5⟩
      have HB5 := Lib.hid (HB4.out.trans (hb5.mono HB4.out.size))
      have HK5 := Lib.hid (HK4.out.below hb5 HK4.out.lt)
      clear hb5
      have n0 := HK5.out.cell 0
      have n1 := HK5.out.cell 1
      have n2 := HK5.out.cell 2
      have f0 := HK5.out.frozen 0
      have f1 := HK5.out.frozen 1
      have f2 := HK5.out.frozen 2
      simp at n0 n1 n2
      go_wp2_with fail
      refine (HTR.out _).mono ?_
      rintro e w6 ⟨rfl, hw6⟩
      subst hw6
      go_wp2_with fail
      exact bodyPost_ret (v := .tuple #[.agg #[.bool neg, .string tx, .int .i64 (((digitsS N).size : Int) + -(k : Int))], .bool true]) (by simp [results, Tryd.results34, go_sem, n0, n1, n2]) rfl ⟨((HB5.out.setCell (p := ⟨w.heap.size, 0, none⟩) (Nat.le_refl _) _).setCell (p := ⟨w.heap.size, 1, none⟩) (Nat.le_refl _) _).setCell (p := ⟨w.heap.size, 2, none⟩) (Nat.le_refl _) _, .inr (.inr ⟨HSZ.out.1, HSZ.out.2, N, k, by rw [HTX.out]; exact retx (by omega), HN0.out, HSPEC.out⟩)⟩
end Go.Proofs.YtgckfilmhnapeaaDoor
