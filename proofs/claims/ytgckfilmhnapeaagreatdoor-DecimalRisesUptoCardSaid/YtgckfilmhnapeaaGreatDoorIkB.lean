/- The program's ieee at uint32: Class, Total, Cmp. -/
import Derived.Test.YtgckfilmhnapeaaGreatDoorIk0
import Derived.Test.YtgckfilmhnapeaaGreatDoorIeB
namespace Go.Proofs.YtgckfilmhnapeaaGreatDoor
open Go.RowKit Go.Lib
set_option linter.unusedVariables false

theorem isnan_B (x : Nat) (w : World) : Calls Tryz.prog 113 #[.int .u32 x] w fun e w' => e = .returned (.bool false) ∧ w' = w := by
  go_enter Tryz.func113, Tryz.ntmps113
  go_wp2_with fail
  go_ret
  exact ⟨rfl, rfl⟩
theorem compare_B (x y : Nat) (w : World) : Calls Tryz.prog 101 #[.int .u32 x, .int .u32 y] w fun e w' => e = .returned (.int .i64 (cmpZ x y)) ∧ w' = w := by
  have HX := Lib.hid (fun wx => isnan_B x wx)
  have HY := Lib.hid (fun wx => isnan_B y wx)
  unfold cmpZ
  by_cases h1 : x < y
  · have h1I : (x : Int) < (y : Int) := by omega
    rw [if_pos h1]
    go_enter Tryz.func101, Tryz.ntmps101
    go_wp2_with fail
    refine (HX.out _).mono ?_
    rintro e w1 ⟨rfl, hw1⟩
    subst hw1
    go_wp2_with fail
    refine (HY.out _).mono ?_
    rintro e w1 ⟨rfl, hw1⟩
    subst hw1
    go_wp2_with fail
    go_ret
    exact ⟨rfl, rfl⟩
  · have h1I : ¬ (x : Int) < (y : Int) := by omega
    rw [if_neg h1]
    by_cases h2 : y < x
    · have h2I : (y : Int) < (x : Int) := by omega
      rw [if_pos h2]
      go_enter Tryz.func101, Tryz.ntmps101
      go_wp2_with fail
      refine (HX.out _).mono ?_
      rintro e w1 ⟨rfl, hw1⟩
      subst hw1
      go_wp2_with fail
      refine (HY.out _).mono ?_
      rintro e w1 ⟨rfl, hw1⟩
      subst hw1
      go_wp2_with fail
      go_ret
      exact ⟨rfl, rfl⟩
    · have h2I : ¬ (y : Int) < (x : Int) := by omega
      rw [if_neg h2]
      go_enter Tryz.func101, Tryz.ntmps101
      go_wp2_with fail
      refine (HX.out _).mono ?_
      rintro e w1 ⟨rfl, hw1⟩
      subst hw1
      go_wp2_with fail
      refine (HY.out _).mono ?_
      rintro e w1 ⟨rfl, hw1⟩
      subst hw1
      go_wp2_with fail
      go_ret
      exact ⟨rfl, rfl⟩

set_option maxRecDepth 100000 in
theorem class_B (x : Nat) (hx : x < 4294967296) (w : World) (hT : Tabs w) :
    Calls Tryz.prog 51 #[.int .u32 x] w fun e w' => e = .returned (.int .i8 (clsN 23 2139095040 (x % 2147483648))) ∧ Below w.heap.size w w' := by
  have HO := Lib.hid (of_B w hT)
  have HSP := Lib.hid (fun wx (hb : Below w.heap.size w wx) => split_B x hx wx (hT.below hb))
  have HI := Lib.hid (fun wx => inf_B wx)
  have hsz : x % 2147483648 < 2147483648 := Nat.mod_lt _ (by decide)
  generalize x % 2147483648 = sz at *
  have HSH : Hid ((sz : Int) / 8388608 = ((sz / 8388608 : Nat) : Int)) := Lib.hid rfl
  have hF : (2 : Nat) ^ 23 = 8388608 := by decide
  have HV : Hid (clsN 23 2139095040 sz = if 2139095040 < sz then 5 else if sz = 2139095040 then 4 else if sz = 0 then 1 else if sz / 8388608 = 0 then 2 else 3) := Lib.hid (by unfold clsN; rw [hF])
  clear hT hF
  go_enter Tryz.func51, Tryz.ntmps51
  go_wp2_with fail
  refine HO.out.mono ?_
  rintro e w1 ⟨rfl, hb1⟩
  have hbk := Blk.new w1 49 #[.int .i64 23, .int .i64 (-149), .int .i64 8]
  have HC1 : Hid (Cells3 (w1.alloc (.cells #[.int .i64 23, .int .i64 (-149), .int .i64 8] 49)) w1.heap.size 23 (-149) 8) := Lib.hid ⟨by rw [hbk.cell 0] <;> rfl, by rw [hbk.cell 1] <;> rfl, by rw [hbk.cell 2] <;> rfl⟩
  have HB1 : Hid (Below w.heap.size w (w1.alloc (.cells #[.int .i64 23, .int .i64 (-149), .int .i64 8] 49))) := Lib.hid (hb1.alloc hb1.size _)
  have hlt : w1.heap.size < (w1.alloc (.cells #[.int .i64 23, .int .i64 (-149), .int .i64 8] 49)).heap.size := by simp
  clear hb1 hbk
  unfold shpV
  go_wp2_with fail
  refine (HSP.out _ HB1.out).mono ?_
  rintro e w2 ⟨rfl, hb2⟩
  have HC2 : Hid (Cells3 w2 w1.heap.size 23 (-149) 8) := Lib.hid ⟨(hb2.cell (p := ⟨w1.heap.size, 0, none⟩) hlt).trans HC1.out.1, (hb2.cell (p := ⟨w1.heap.size, 1, none⟩) hlt).trans HC1.out.2.1, (hb2.cell (p := ⟨w1.heap.size, 2, none⟩) hlt).trans HC1.out.2.2⟩
  have HB2 : Hid (Below w.heap.size w w2) := Lib.hid (HB1.out.trans (hb2.mono HB1.out.size))
  have hlt2 : w1.heap.size < w2.heap.size := Nat.lt_of_lt_of_le hlt hb2.size
  clear hb2 hlt HC1 HB1 HO HSP
  generalize w1.heap.size = b at *
  generalize decide (2147483648 ≤ x) = neg at *
  obtain ⟨c0, c1, c2⟩ := HC2.out
  go_wp2_with fail
  refine (HI.out _).mono ?_
  rintro e w3 ⟨rfl, hb3⟩
  have HC3 : Hid (Cells3 w3 b 23 (-149) 8) := Lib.hid ⟨(hb3.cell (p := ⟨b, 0, none⟩) hlt2).trans c0, (hb3.cell (p := ⟨b, 1, none⟩) hlt2).trans c1, (hb3.cell (p := ⟨b, 2, none⟩) hlt2).trans c2⟩
  have HB3 : Hid (Below w.heap.size w w3) := Lib.hid (HB2.out.trans (hb3.mono HB2.out.size))
  have hlt3 : b < w3.heap.size := Nat.lt_of_lt_of_le hlt2 hb3.size
  clear hb3 c0 c1 c2 HC2 HB2 hlt2
  by_cases g1 : 2139095040 < sz
  · have g1I : (2139095040 : Int) < (sz : Int) := by omega
    rw [if_pos g1] at HV
    clear g1 hsz
    go_wp2_with fail
    go_ret
    exact ⟨by rw [HV.out] <;> rfl, HB3.out⟩
  · have g1I : ¬ (2139095040 : Int) < (sz : Int) := by omega
    rw [if_neg g1] at HV
    obtain ⟨c0, c1, c2⟩ := HC3.out
    have HG := Lib.hid hsz
    clear g1 hsz
    go_wp2_with fail
    refine (HI.out _).mono ?_
    rintro e w4 ⟨rfl, hb4⟩
    have HC4 : Hid (Cells3 w4 b 23 (-149) 8) := Lib.hid ⟨(hb4.cell (p := ⟨b, 0, none⟩) hlt3).trans c0, (hb4.cell (p := ⟨b, 1, none⟩) hlt3).trans c1, (hb4.cell (p := ⟨b, 2, none⟩) hlt3).trans c2⟩
    have HB4 : Hid (Below w.heap.size w w4) := Lib.hid (HB3.out.trans (hb4.mono HB3.out.size))
    clear hb4 c0 c1 c2 HC3 HB3 hlt3 g1I
    by_cases g2 : sz = 2139095040
    · have g2I : ((sz : Int) == 2139095040) = true := by rw [beq_iff_eq]; omega
      rw [if_pos g2] at HV
      clear g2
      go_wp2_with fail
      go_ret
      exact ⟨by rw [HV.out] <;> rfl, HB4.out⟩
    · have g2I : ((sz : Int) == 2139095040) = false := by rw [beq_eq_false_iff_ne]; omega
      rw [if_neg g2] at HV
      clear g2
      by_cases g3 : sz = 0
      · subst g3
        rw [if_pos rfl] at HV
        go_wp2_with fail
        go_ret
        exact ⟨by rw [HV.out] <;> rfl, HB4.out⟩
      · have g3I : ((sz : Int) == 0) = false := by rw [beq_eq_false_iff_ne]; omega
        rw [if_neg g3] at HV
        clear g3
        obtain ⟨c0, c1, c2⟩ := HC4.out
        have hsh := HSH.out
        by_cases g4 : sz / 8388608 = 0
        · rw [if_pos g4] at HV
          rw [g4] at hsh
          have hsh0 : (sz : Int) / 8388608 = 0 := hsh
          clear g4 hsh HSH
          go_wp2_with fail
          go_ret
          exact ⟨by rw [HV.out] <;> rfl, HB4.out⟩
        · rw [if_neg g4] at HV
          have hsh0 : ((sz : Int) / 8388608 == 0) = false := by rw [beq_eq_false_iff_ne, hsh]; omega
          clear g4 hsh HSH
          go_wp2_with fail
          go_ret
          exact ⟨by rw [HV.out] <;> rfl, HB4.out⟩

set_option maxRecDepth 100000 in
theorem total_B (x y : Nat) (hx : x < 4294967296) (hy : y < 4294967296) (w : World) (hT : Tabs w) :
    Calls Tryz.prog 77 #[.int .u32 x, .int .u32 y] w fun e w' => e = .returned (.int .i64 (totN (decide (2147483648 ≤ x)) (decide (2147483648 ≤ y)) x y)) ∧ Below w.heap.size w w' := by
  have HSX := Lib.hid (fun wx (hb : Below w.heap.size w wx) => split_B x hx wx (hT.below hb))
  have HSY := Lib.hid (fun wx (hb : Below w.heap.size w wx) => split_B y hy wx (hT.below hb))
  have HC1 := Lib.hid (fun wx => compare_B y x wx)
  have HC2 := Lib.hid (fun wx => compare_B x y wx)
  generalize decide (2147483648 ≤ x) = nx at *
  generalize decide (2147483648 ≤ y) = ny at *
  generalize ((x % 2147483648 : Nat) : Int) = sx at *
  generalize ((y % 2147483648 : Nat) : Int) = sy at *
  have V00 : Hid (totN false false x y = cmpZ x y) := Lib.hid (by unfold totN; rw [if_neg (by decide), if_neg (by decide)])
  have V01 : Hid (totN false true x y = 1) := Lib.hid (by unfold totN; rw [if_neg (by decide), if_pos rfl])
  have V10 : Hid (totN true false x y = -1) := Lib.hid (by unfold totN; rw [if_pos rfl, if_neg (by decide)])
  have V11 : Hid (totN true true x y = cmpZ y x) := Lib.hid (by unfold totN; rw [if_pos rfl, if_pos rfl])
  clear hT hx hy
  go_enter Tryz.func77, Tryz.ntmps77
  go_wp2_with fail
  refine (HSX.out _ (Below.refl _ _)).mono ?_
  rintro e w1 ⟨rfl, hb1⟩
  have HB1 := Lib.hid hb1
  clear hb1
  go_wp2_with fail
  refine (HSY.out _ HB1.out).mono ?_
  rintro e w2 ⟨rfl, hb2⟩
  have HB2 := Lib.hid (HB1.out.trans (hb2.mono HB1.out.size))
  clear hb2 HB1
  cases nx <;> cases ny
  · go_wp2_with fail
    refine (HC2.out _).mono ?_
    rintro e w3 ⟨rfl, hw3⟩
    subst hw3
    go_wp2_with fail
    go_ret
    exact ⟨by rw [V00.out] <;> rfl, HB2.out⟩
  · go_wp2_with fail
    go_ret
    exact ⟨by rw [V01.out] <;> rfl, HB2.out⟩
  · go_wp2_with fail
    go_ret
    exact ⟨by rw [V10.out] <;> rfl, HB2.out⟩
  · go_wp2_with fail
    refine (HC1.out _).mono ?_
    rintro e w3 ⟨rfl, hw3⟩
    subst hw3
    go_wp2_with fail
    go_ret
    exact ⟨by rw [V11.out] <;> rfl, HB2.out⟩

set_option maxRecDepth 100000 in
theorem icmp_B (x y : Nat) (hx : x < 4294967296) (hy : y < 4294967296) (w : World) (hT : Tabs w) :
    Calls Tryz.prog 39 #[.int .u32 x, .int .u32 y] w fun e w' => e = .returned (.tuple #[.int .i64 (icmpV 2147483648 2139095040 x y), .bool (decide (x % 2147483648 ≤ 2139095040 ∧ y % 2147483648 ≤ 2139095040))]) ∧ Below w.heap.size w w' := by
  have HKX := Lib.hid (fun wx (hb : Below w.heap.size w wx) => class_B x hx wx (hT.below hb))
  have HKY := Lib.hid (fun wx (hb : Below w.heap.size w wx) => class_B y hy wx (hT.below hb))
  have HSX := Lib.hid (fun wx (hb : Below w.heap.size w wx) => split_B x hx wx (hT.below hb))
  have HSY := Lib.hid (fun wx (hb : Below w.heap.size w wx) => split_B y hy wx (hT.below hb))
  have HT := Lib.hid (fun wx (hb : Below w.heap.size w wx) => total_B x y hx hy wx (hT.below hb))
  have lx : x % 2147483648 < 18446744073709551616 := Nat.lt_of_lt_of_le (Nat.mod_lt _ (by decide)) (by decide)
  have ly : y % 2147483648 < 18446744073709551616 := Nat.lt_of_lt_of_le (Nat.mod_lt _ (by decide)) (by decide)
  have nx := cls_nan 23 2139095040 (x % 2147483648)
  have ny := cls_nan 23 2139095040 (y % 2147483648)
  unfold icmpV
  generalize clsN 23 2139095040 (x % 2147483648) = kx at *
  generalize clsN 23 2139095040 (y % 2147483648) = ky at *
  generalize x % 2147483648 = sx at *
  generalize y % 2147483648 = sy at *
  generalize totN (decide (2147483648 ≤ x)) (decide (2147483648 ≤ y)) x y = tt at *
  clear hT hx hy
  by_cases g1 : 2139095040 < sx
  · rw [decide_eq_true g1] at nx
    rw [if_neg (by omega), decide_eq_false (by omega)]
    clear g1 lx ly
    go_enter Tryz.func39, Tryz.ntmps39
    go_wp2_with fail
    refine (HKX.out _ (Below.refl _ _)).mono ?_
    rintro e w1 ⟨rfl, hb1⟩
    have HB1 := Lib.hid hb1
    clear hb1
    go_wp2_with fail
    go_ret2
    exact ⟨rfl, HB1.out⟩
  · rw [decide_eq_false g1] at nx
    by_cases g2 : 2139095040 < sy
    · rw [decide_eq_true g2] at ny
      rw [if_neg (by omega), decide_eq_false (by omega)]
      clear g1 g2 lx ly
      go_enter Tryz.func39, Tryz.ntmps39
      go_wp2_with fail
      refine (HKX.out _ (Below.refl _ _)).mono ?_
      rintro e w1 ⟨rfl, hb1⟩
      have HB1 := Lib.hid hb1
      clear hb1
      go_wp2_with fail
      refine (HKY.out _ HB1.out).mono ?_
      rintro e w2 ⟨rfl, hb2⟩
      have HB2 := Lib.hid (HB1.out.trans (hb2.mono HB1.out.size))
      clear hb2
      go_wp2_with fail
      go_ret2
      exact ⟨rfl, HB2.out⟩
    · rw [decide_eq_false g2] at ny
      rw [if_pos (by omega), decide_eq_true (by omega)]
      have HOR := Lib.hid (or_zero sx sy lx ly)
      obtain ⟨C, hC⟩ : ∃ C : Int, (if sx = 0 ∧ sy = 0 then 0 else tt) = C := ⟨_, rfl⟩
      rw [hC]
      have HC := Lib.hid hC
      clear hC
      clear g1 g2 lx ly
      go_enter Tryz.func39, Tryz.ntmps39
      go_wp2_with fail
      refine (HKX.out _ (Below.refl _ _)).mono ?_
      rintro e w1 ⟨rfl, hb1⟩
      have HB1 := Lib.hid hb1
      clear hb1
      go_wp2_with fail
      refine (HKY.out _ HB1.out).mono ?_
      rintro e w2 ⟨rfl, hb2⟩
      have HB2 := Lib.hid (HB1.out.trans (hb2.mono HB1.out.size))
      clear hb2
      go_wp2_with fail
      refine (HSX.out _ HB2.out).mono ?_
      rintro e w3 ⟨rfl, hb3⟩
      have HB3 := Lib.hid (HB2.out.trans (hb3.mono HB2.out.size))
      clear hb3
      go_wp2_with fail
      refine (HSY.out _ HB3.out).mono ?_
      rintro e w4 ⟨rfl, hb4⟩
      have HB4 := Lib.hid (HB3.out.trans (hb4.mono HB3.out.size))
      clear hb4
      by_cases h0 : sx = 0 ∧ sy = 0
      · rw [if_pos h0] at HC
        obtain ⟨rfl, rfl⟩ := h0
        have hor : bits .or .u64 0 0 = 0 := by kernel_rfl
        go_wp2_with fail
        go_ret2
        exact ⟨by rw [← HC.out] <;> rfl, HB4.out⟩
      · rw [if_neg h0] at HC
        have hor := HOR.out h0
        clear h0
        go_wp2_with fail
        refine (HT.out _ HB4.out).mono ?_
        rintro e w5 ⟨rfl, hb5⟩
        have HB5 := Lib.hid (HB4.out.trans (hb5.mono HB4.out.size))
        clear hb5
        go_wp2_with fail
        go_ret2
        exact ⟨by rw [← HC.out] <;> rfl, HB5.out⟩
end Go.Proofs.YtgckfilmhnapeaaGreatDoor
