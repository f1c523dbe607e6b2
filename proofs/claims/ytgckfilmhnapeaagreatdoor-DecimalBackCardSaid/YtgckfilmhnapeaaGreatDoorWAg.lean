/- The law DecimalAgrees: the walk. -/
import Derived.Test.YtgckfilmhnapeaaGreatDoorAg
import Derived.Test.YtgckfilmhnapeaaGreatDoorXv
import Derived.Test.YtgckfilmhnapeaaGreatDoorTl
namespace Go.Proofs.YtgckfilmhnapeaaGreatDoor
open Go.RowKit Go.Lib Go.ChangeShapes
set_option linter.unusedVariables false

theorem XVal.okb {f l inf sz : Nat} {neg ok ng : Bool} {t : ByteArray} {P : Int} (h : XVal f l inf neg sz ok ng t P) : ok = decide (sz < inf) := by
  rcases h with ⟨h1, rfl, -⟩ | ⟨h1, h2, rfl, -⟩ | ⟨h1, h2, rfl, -⟩
  · symm; rw [decide_eq_false_iff_not]; omega
  · symm; rw [decide_eq_true_iff]; exact h2
  · symm; rw [decide_eq_true_iff]; exact h1
theorem XVal.room {u : Int} {sz : Nat} {neg ok ng : Bool} {t : ByteArray} {P : Int} (h : XVal (wF u) (wL u) (wI u) neg sz ok ng t P) : t.size ≤ 140737488355328 ∧ -9223372036854775808 ≤ P ∧ P ≤ 9223372036854775807 := by
  cases ok with
  | false =>
    rcases h with ⟨h1, -, -, rfl, rfl⟩ | ⟨h1, h2, h3, -⟩ | ⟨h1, h2, h3, -⟩
    · exact ⟨by decide, by decide, by decide⟩
    · cases h3
    · cases h3
  | true =>
    obtain ⟨-, -, -, -, hf, hl, hW⟩ := wS_le u
    obtain ⟨-, -, -, h4, h5, h6, -⟩ := h.facts (wI_eq u) hf hl hW
    omega

set_option maxRecDepth 100000 in
set_option maxHeartbeats 4000000 in
theorem wagrees (u : Int) (hu : (Lit.int .u8 u).wf = true) (x : Int) (hx : (Lit.int .u64 x).wf = true) (y : Int) (hy : (Lit.int .u64 y).wf = true) (w : World)
    (hL : laidMetH Tryz.prog Rows.decimalAgreesRow.laid w) :
    Calls Tryz.prog 5 #[.int .u8 u, .int .u64 x, .int .u64 y] w fun e w' => e = .returned (.bool true) ∧ Below w.heap.size w w' := by
  have hT : Tabs w := tabs_of_list hL
  have hmin8 : IntKind.u8.min = 0 := rfl
  have hmax8 : IntKind.u8.max = 255 := rfl
  have hmin : IntKind.u64.min = 0 := rfl
  have hmax : IntKind.u64.max = 18446744073709551615 := rfl
  simp only [Lit.wf, Bool.and_eq_true, decide_eq_true_eq, hmin, hmax, hmin8, hmax8] at hu hx hy
  obtain ⟨x, rfl⟩ : ∃ n : Nat, x = n := ⟨x.toNat, by omega⟩
  obtain ⟨y, rfl⟩ : ∃ n : Nat, y = n := ⟨y.toNat, by omega⟩
  have HLV := Lib.hid (lives7_any w hT)
  have HFX := Lib.hid (fun wx => fit_any u hu.1 x (by omega) wx)
  have HFY := Lib.hid (fun wx => fit_any u hu.1 y (by omega) wx)
  have hS := wS_le u
  have hlx : x % (2 * wS u) < 2 * wS u := Nat.mod_lt _ (by omega)
  have hly : y % (2 * wS u) < 2 * wS u := Nat.mod_lt _ (by omega)
  generalize x % (2 * wS u) = a at *
  generalize y % (2 * wS u) = b at *
  have HXA := Lib.hid (fun wx (h : Below w.heap.size w wx) => lexact_any u hu.1 a hlx wx (hT.below h))
  have HXB := Lib.hid (fun wx (h : Below w.heap.size w wx) => lexact_any u hu.1 b hly wx (hT.below h))
  have HAG := Lib.hid (fun wx (h : Below w.heap.size w wx) => against_any u hu.1 a b hlx hly wx (hT.below h))
  have HLAW := Lib.hid (icmp_law (wS u) (wI u) a b hS.1 hlx hly)
  have HCMP : Hid (∀ ng t P ng' t' P', XVal (wF u) (wL u) (wI u) (decide (wS u ≤ a)) (a % wS u) true ng t P → XVal (wF u) (wL u) (wI u) (decide (wS u ≤ b)) (b % wS u) true ng' t' P' → ∀ wx,
      Calls Tryz.prog 13 #[.agg #[.bool ng, .string t, .int .i64 P], .agg #[.bool ng', .string t', .int .i64 P']] wx fun e w' => e = .returned (.tuple #[.int .i64 (icmpV (wS u) (wI u) a b), .bool true]) ∧ Below wx.heap.size wx w') := Lib.hid (fun ng t P ng' t' P' h g wx => by
    obtain ⟨-, -, -, -, hf, hl, hW⟩ := hS
    obtain ⟨r1, r2, r3⟩ := h.room
    obtain ⟨q1, q2, q3⟩ := g.room
    refine (dcmp_any ng ng' t t' P P' wx r2 q3 q2 r3 r1 q1).mono ?_
    rintro e w' ⟨rfl, hb⟩
    obtain ⟨e1, e2⟩ := h.cmp g (wI_eq u) hf hl hW
    have h1 := (h.facts (wI_eq u) hf hl hW).1
    have h2 := (g.facts (wI_eq u) hf hl hW).1
    refine ⟨?_, hb⟩
    rw [e1, e2, HLAW.out (by omega) (by omega)])
  clear hT hL hmin hmax hmin8 hmax8 hu hx hy hS hlx hly HLAW
  go_enter Tryz.func5, Tryz.ntmps5
  go_wp2_with fail
  refine HLV.out.mono ?_
  rintro e w1 ⟨rfl, hb1⟩
  have HB1 := Lib.hid hb1
  clear hb1 HLV
  go_wp2_with fail
  refine (HFX.out _).mono ?_
  rintro e wz ⟨rfl, hw1⟩
  subst hw1
  go_wp2_with fail
  refine (HFY.out _).mono ?_
  rintro e wz ⟨rfl, hw1⟩
  subst hw1
  go_wp2_with fail
  refine (HXA.out _ HB1.out).mono ?_
  rintro e w2 ⟨ok, ng, t, P, rfl, hb2, hv2⟩
  have HV2 := Lib.hid hv2
  have H2 := Lib.hid (dgC_new w2 ng t P 26)
  have HB2 : Hid (Below w.heap.size w (w2.alloc (.cells #[.bool ng, .string t, .int .i64 P] 26))) := Lib.hid ((HB1.out.trans (hb2.mono HB1.out.size)).alloc (HB1.out.trans (hb2.mono HB1.out.size)).size _)
  clear hb2 hv2
  go_wp2_with fail
  refine (HXB.out _ HB2.out).mono ?_
  rintro e w4 ⟨ok', ng', t', P', rfl, hb4, hv4⟩
  have HV4 := Lib.hid hv4
  have H4 := Lib.hid ((H2.out.below hb4).below ((Below.refl w4.heap.size w4).alloc (Nat.le_refl _) (.cells #[.bool ng', .string t', .int .i64 P'] 26)))
  have H5 := Lib.hid (dgC_new w4 ng' t' P' 26)
  have HB4 : Hid (Below w.heap.size w (w4.alloc (.cells #[.bool ng', .string t', .int .i64 P'] 26))) := Lib.hid ((HB2.out.trans (hb4.mono HB2.out.size)).alloc (HB2.out.trans (hb4.mono HB2.out.size)).size _)
  have hok := HV2.out.okb
  have hok' := HV4.out.okb
  have HOK := Lib.hid hok
  have HOK' := Lib.hid hok'
  clear hb4 hv4 HB2 H2 HB1 hok hok'
  cases ok with
  | false =>
    go_wp2_with fail
    go_ret
    exact ⟨rfl, HB4.out⟩
  | true =>
    cases ok' with
    | false =>
      go_wp2_with fail
      go_ret
      exact ⟨rfl, HB4.out⟩
    | true =>
      have c0 := H4.out.c0
      have c1 := H4.out.c1
      have c2 := H4.out.c2
      have d0 := H5.out.c0
      have d1 := H5.out.c1
      have d2 := H5.out.c2
      have HCC := Lib.hid (HCMP.out _ _ _ _ _ _ HV2.out HV4.out)
      have HGOOD : Hid (decide (a % wS u ≤ wI u ∧ b % wS u ≤ wI u) = true) := Lib.hid (by
        have h1 := of_decide_eq_true HOK.out.symm
        have h2 := of_decide_eq_true HOK'.out.symm
        rw [decide_eq_true_iff]
        omega)
      have HAGG := Lib.hid (fun wx h => by
        have := HAG.out wx h
        unfold AgPost at this
        rw [HGOOD.out] at this
        exact this)
      generalize icmpV (wS u) (wI u) a b = C at *
      clear HCMP HAG HV2 HV4 HGOOD HOK HOK'
      go_wp2_with fail
      refine (HCC.out _).mono ?_
      rintro e w6 ⟨rfl, hb6⟩
      have HB6 := Lib.hid (HB4.out.trans (hb6.mono HB4.out.size))
      clear hb6
      go_wp2_with fail
      refine (HAGG.out _ HB6.out).mono ?_
      rintro e w7 ⟨rfl, hb7⟩
      have HB7 := Lib.hid (HB6.out.trans (hb7.mono HB6.out.size))
      clear hb7
      go_wp2_with fail
      go_ret
      exact ⟨rfl, HB7.out⟩
end Go.Proofs.YtgckfilmhnapeaaGreatDoor
