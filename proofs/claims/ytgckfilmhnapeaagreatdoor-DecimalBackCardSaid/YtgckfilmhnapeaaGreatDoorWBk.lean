/- The law DecimalBack: the walk. -/
import Derived.Test.YtgckfilmhnapeaaGreatDoorWAg
import Derived.Test.YtgckfilmhnapeaaGreatDoorTo
import Derived.Test.YtgckfilmhnapeaaGreatDoorTl
namespace Go.Proofs.YtgckfilmhnapeaaGreatDoor
open Go.RowKit Go.Lib Go.ChangeShapes
set_option linter.unusedVariables false

theorem sgn_mod (x S : Nat) (hS : 0 < S) (hx : x < 2 * S) : sgnN (decide (S ≤ x)) (x % S) S = x := by
  unfold sgnN
  by_cases h : S ≤ x
  · rw [decide_eq_true h, if_pos rfl, Nat.mod_eq_sub_mod h, Nat.mod_eq_of_lt (by omega)]; omega
  · rw [decide_eq_false h, if_neg (by decide), Nat.mod_eq_of_lt (by omega)]
/-- what is told is read as the pattern -/
theorem back_read {u : Int} {x : Nat} {ng : Bool} {t : ByteArray} {P v : Int} (hx : x < 2 * wS u) (h : XVal (wF u) (wL u) (wI u) (decide (wS u ≤ x)) (x % wS u) true ng t P) (g : LVal (wF u) (wL u) (wW u) (wS u) ng t P v) : fineB t = true ∧ v = (x : Int) := by
  obtain ⟨hS, -, -, -, hf, hl, hW⟩ := wS_le u
  obtain ⟨-, h2, h3, -⟩ := h.facts (wI_eq u) hf hl hW
  refine ⟨h3, ?_⟩
  rcases g with ⟨g1, -⟩ | ⟨-, sz, rfl, hs, -⟩
  · rw [h3] at g1; cases g1
  · have hb := h.back (wI_eq u) hf hl hW
    rw [hs.unique hb, h2, sgn_mod x (wS u) hS hx]
theorem back_ends {u : Int} {sz : Nat} {neg ng : Bool} {t : ByteArray} {P : Int} (h : XVal (wF u) (wL u) (wI u) neg sz true ng t P) :
    (t.size = 0 → P = 0) ∧ ∀ (hn : 0 < t.size), (((t[0]).toNat : Int) != 48) = true ∧ (((t[t.size - 1]).toNat : Int) != 48) = true := by
  obtain ⟨hS, -, -, -, hf, hl, hW⟩ := wS_le u
  obtain ⟨-, -, -, -, -, -, -, h8, h9, h10, -⟩ := h.facts (wI_eq u) hf hl hW
  refine ⟨fun e => h8 (List.eq_nil_of_length_eq_zero (by rw [bytes_len]; exact e)), fun hn => ?_⟩
  have hl : 0 < t.data.toList.length := by rw [bytes_len]; exact hn
  have ne : ∀ (i : Nat) (hi : i < t.size) (c : UInt8), t.data.toList[i]'(by rw [bytes_len]; exact hi) = c → c ≠ 48 → (((t[i]).toNat : Int) != 48) = true := by
    intro i hi c e hc
    rw [bytes_at t i hi] at e
    rw [bne_iff_ne, e]
    intro h2
    exact hc (UInt8.toNat_inj.1 (show c.toNat = 48 by omega))
  constructor
  · obtain ⟨c, r, e⟩ : ∃ c r, t.data.toList = c :: r := by
      cases hq : t.data.toList with
      | nil => rw [hq] at hl; simp at hl
      | cons c r => exact ⟨c, r, rfl⟩
    exact ne 0 hn c (by simp only [e, List.getElem_cons_zero]) (h9 c r e)
  · have hne : t.data.toList ≠ [] := fun e => by rw [e] at hl; simp at hl
    refine ne (t.size - 1) (by omega) (t.data.toList.getLast hne) ?_ (h10 t.data.toList.dropLast (t.data.toList.getLast hne) (List.dropLast_concat_getLast hne).symm)
    rw [List.getLast_eq_getElem]
    congr 1
theorem back_fin {u : Int} {x y : Nat} {ok ng : Bool} {t : ByteArray} {P : Int} (h : XVal (wF u) (wL u) (wI u) (decide (wS u ≤ x)) (x % wS u) ok ng t P) (g : Wide (wF u) (wL u) (wI u) (decide (wS u ≤ x)) (x % wS u) y) :
    decide (y % 9223372036854775808 < 9218868437227405312) = ok := by
  rw [h.okb]
  rcases g with ⟨-, ⟨g1, g2⟩ | ⟨g1, g2, -⟩⟩
  · rw [decide_eq_false (by omega), decide_eq_false (by omega)]
  · rw [decide_eq_true g1, decide_eq_true g2]
theorem parts_fin {f l inf sz : Nat} {neg : Bool} {w w' : World} {e : Ending} (h : PartsPost f l inf neg sz w e w') (hi : 0 < inf) : ∃ a b c, e = .returned (.tuple #[.bool a, .int .u64 b, .int .i64 c, .bool (decide (sz < inf))]) ∧ Below w.heap.size w w' := by
  obtain ⟨hb, ⟨h1, rfl⟩ | ⟨h1, rfl⟩ | ⟨h1, h2, u, z, rfl, -⟩⟩ := h
  · exact ⟨_, _, _, by rw [decide_eq_false (by omega)], hb⟩
  · exact ⟨_, _, _, by rw [decide_eq_true (by omega)], hb⟩
  · exact ⟨_, _, _, by rw [decide_eq_true h1], hb⟩
/-- the digits of the wider pattern are the same -/
theorem back_wide {u : Int} {x y : Nat} {ng ok' ng' : Bool} {t t' : ByteArray} {P P' : Int} (h : XVal (wF u) (wL u) (wI u) (decide (wS u ≤ x)) (x % wS u) true ng t P) (g : Wide (wF u) (wL u) (wI u) (decide (wS u ≤ x)) (x % wS u) y)
    (k : XVal 52 1074 9218868437227405312 (decide (9223372036854775808 ≤ y)) (y % 9223372036854775808) ok' ng' t' P') : ok' = true ∧ ng' = ng ∧ t' = t ∧ P' = P := by
  have hok := h.okb
  have hok' := k.okb
  rcases g with ⟨-, ⟨g1, g2⟩ | ⟨g1, g2, g3, g4, g5⟩⟩
  · rw [decide_eq_false (by omega)] at hok; cases hok
  · rw [decide_eq_true g2] at hok'
    subst hok'
    rw [g3] at k
    obtain ⟨e1, e2, e3⟩ := XVal.other h k g4 g5
    exact ⟨rfl, e1.symm, e2.symm, e3.symm⟩

set_option maxRecDepth 100000 in
set_option maxHeartbeats 4000000 in
theorem wback (u : Int) (hu : (Lit.int .u8 u).wf = true) (x : Int) (hx : (Lit.int .u64 x).wf = true) (w : World)
    (hL : laidMetH Tryz.prog Rows.decimalBackRow.laid w) :
    Calls Tryz.prog 3 #[.int .u8 u, .int .u64 x] w fun e w' => e = .returned (.bool true) ∧ Below w.heap.size w w' := by
  have hT : Tabs w := tabs_of_list hL
  have hmin8 : IntKind.u8.min = 0 := rfl
  have hmax8 : IntKind.u8.max = 255 := rfl
  have hmin : IntKind.u64.min = 0 := rfl
  have hmax : IntKind.u64.max = 18446744073709551615 := rfl
  simp only [Lit.wf, Bool.and_eq_true, decide_eq_true_eq, hmin, hmax, hmin8, hmax8] at hu hx
  obtain ⟨x, rfl⟩ : ∃ n : Nat, x = n := ⟨x.toNat, by omega⟩
  have HLV := Lib.hid (lives7_any w hT)
  have HFX := Lib.hid (fun wx => fit_any u hu.1 x (by omega) wx)
  have hS := wS_le u
  have hlx : x % (2 * wS u) < 2 * wS u := Nat.mod_lt _ (by omega)
  generalize x % (2 * wS u) = a at *
  have HXA := Lib.hid (fun wx (h : Below w.heap.size w wx) => lexact_any u hu.1 a hlx wx (hT.below h))
  have HWD := Lib.hid (fun wx (h : Below w.heap.size w wx) => wide_any u hu.1 a hlx wx (hT.below h))
  have HPA := Lib.hid (fun y hy wx (h : Below w.heap.size w wx) => parts_A y hy wx (hT.below h))
  have HEA := Lib.hid (fun y hy wx (h : Below w.heap.size w wx) => exact_A y hy wx (hT.below h))
  have HRD : Hid (∀ ng t P, XVal (wF u) (wL u) (wI u) (decide (wS u ≤ a)) (a % wS u) true ng t P → ∀ wx, Below w.heap.size w wx →
      Calls Tryz.prog 11 #[.int .u8 u, .agg #[.bool ng, .string t, .int .i64 P]] wx fun e w' => e = .returned (.tuple #[.int .u64 a, .bool true]) ∧ Below wx.heap.size wx w') := Lib.hid (fun ng t P h wx hb => by
    obtain ⟨r1, r2, r3⟩ := h.room
    refine (lread_any u hu.1 hu.2 ng t P wx (hT.below hb) r1 r2 r3).mono ?_
    rintro e w' ⟨v, rfl, hb', hv⟩
    obtain ⟨e1, e2⟩ := back_read hlx h hv
    refine ⟨?_, hb'⟩
    rw [e1, e2])
  clear hT hL hmin hmax hmin8 hmax8 hu hx hS hlx
  go_enter Tryz.func3, Tryz.ntmps3
  go_wp2_with fail
  refine HLV.out.mono ?_
  rintro e w1 ⟨rfl, hb1⟩
  have HB1 := Lib.hid hb1
  clear hb1 HLV
  go_wp2_with fail
  refine (HFX.out _).mono ?_
  rintro e wz ⟨rfl, hw1⟩
  subst hw1
  go_wp2_with fail
  refine (HXA.out _ HB1.out).mono ?_
  rintro e w2 ⟨ok, ng, t, P, rfl, hb2, hv2⟩
  have HV2 := Lib.hid hv2
  have H2 := Lib.hid (dgC_new w2 ng t P 26)
  have HB2 : Hid (Below w.heap.size w (w2.alloc (.cells #[.bool ng, .string t, .int .i64 P] 26))) := Lib.hid ((HB1.out.trans (hb2.mono HB1.out.size)).alloc (HB1.out.trans (hb2.mono HB1.out.size)).size _)
  clear hb2 hv2 HXA HFX
  go_wp2_with fail
  refine (HWD.out _ HB2.out).mono ?_
  rintro e w3 ⟨y, rfl, hb3, hw3⟩
  have H3 := Lib.hid (H2.out.below hb3)
  have HB3 := Lib.hid (HB2.out.trans (hb3.mono HB2.out.size))
  have HP3 := Lib.hid (fun wx (h : Below w.heap.size w wx) => HPA.out y hw3.1 wx h)
  have HFN := Lib.hid (back_fin HV2.out hw3)
  clear hb3 hw3 H2 HB2 HB1 HPA
  go_wp2_with fail
  refine (HP3.out _ HB3.out).mono ?_
  rintro e w4 hpp
  obtain ⟨pa, pb, pc, rfl, hb4⟩ := parts_fin hpp (by decide)
  rw [HFN.out]
  have H4 := Lib.hid (H3.out.below hb4)
  have HB4 := Lib.hid (HB3.out.trans (hb4.mono HB3.out.size))
  clear hpp hb4 H3 HB3 HP3 HFN
  have c0 := H4.out.c0
  have c1 := H4.out.c1
  have c2 := H4.out.c2
  cases ok with
  | false =>
    rcases HV2.out with ⟨-, -, rfl, rfl, rfl⟩ | ⟨-, -, h3, -⟩ | ⟨-, -, h3, -⟩
    · go_wp2_with fail
      go_ret
      exact ⟨rfl, HB4.out⟩
    · cases h3
    · cases h3
  | true =>
    have HR4 := Lib.hid (HRD.out ng t P HV2.out)
    obtain ⟨en1, en2⟩ := back_ends HV2.out
    have EN1 := Lib.hid en1
    have EN2 := Lib.hid en2
    have hsz := HV2.out.room.1
    clear HRD en1 en2
    go_wp2_with fail
    refine (HR4.out _ HB4.out).mono ?_
    rintro e w5 ⟨rfl, hb5⟩
    have H5 := Lib.hid (H4.out.below hb5)
    have HB5 := Lib.hid (HB4.out.trans (hb5.mono HB4.out.size))
    clear hb5 H4 HB4 HR4 c0 c1 c2
    go_wp2_with fail
    refine (HWD.out _ HB5.out).mono ?_
    rintro e w6 ⟨y2, rfl, hb6, hw6⟩
    have H6 := Lib.hid (H5.out.below hb6)
    have HB6 := Lib.hid (HB5.out.trans (hb6.mono HB5.out.size))
    have HE6 := Lib.hid (fun wx (h : Below w.heap.size w wx) => HEA.out y2 hw6.1 wx h)
    have HW6 := Lib.hid (fun ok' ng' t' P' => @back_wide u a y2 ng ok' ng' t t' P P' HV2.out hw6)
    clear hb6 hw6 H5 HB5 HEA HWD
    go_wp2_with fail
    refine (HE6.out _ HB6.out).mono ?_
    rintro e w7 hex
    obtain ⟨ok', ng', t', P', rfl, hb7, hv7⟩ := XVal.of_ex hex (by decide)
    obtain ⟨e1, e2, e3, e4⟩ := HW6.out ok' ng' t' P' hv7
    subst e1 e2 e3 e4
    have H7 := Lib.hid ((H6.out.below hb7).below ((Below.refl w7.heap.size w7).alloc (Nat.le_refl _) (.cells #[.bool ng', .string t', .int .i64 P'] 26)))
    have K7 := Lib.hid (dgC_new w7 ng' t' P' 26)
    have HB7 : Hid (Below w.heap.size w (w7.alloc (.cells #[.bool ng', .string t', .int .i64 P'] 26))) := Lib.hid ((HB6.out.trans (hb7.mono HB6.out.size)).alloc (HB6.out.trans (hb7.mono HB6.out.size)).size _)
    clear hex hb7 hv7 H6 HB6 HE6 HW6 HV2
    have c0 := H7.out.c0
    have c1 := H7.out.c1
    have c2 := H7.out.c2
    have d0 := K7.out.c0
    have d1 := K7.out.c1
    have d2 := K7.out.c2
    by_cases hn : t'.size = 0
    · have hP := EN1.out hn
      subst hP
      have hnI : (t'.size : Int) = 0 := by omega
      clear hn hsz
      go_wp2_with fail
      go_ret
      exact ⟨rfl, HB7.out⟩
    · obtain ⟨g1, g2⟩ := EN2.out (by omega)
      have hnI : ((t'.size : Int) == 0) = false := by rw [beq_eq_false_iff_ne]; omega
      have hnJ : (0 : Int) < (t'.size : Int) := by omega
      have hix : IntKind.i64.wrap ((t'.size : Int) - 1) = ((t'.size - 1 : Nat) : Int) := by
        rw [show (t'.size : Int) - 1 = ((t'.size - 1 : Nat) : Int) by omega]
        exact IntWalk.i64_in _ (by omega)
      have hlt : ((t'.size - 1 : Nat) : Int) < (t'.size : Int) := by omega
      go_wp2_with fail
      go_ret
      exact ⟨rfl, HB7.out⟩
end Go.Proofs.YtgckfilmhnapeaaGreatDoor
