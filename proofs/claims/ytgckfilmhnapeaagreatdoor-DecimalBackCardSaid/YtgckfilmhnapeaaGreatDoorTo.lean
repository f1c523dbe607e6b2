/- The program's ieee: To of 64 bits; law07.wide. -/
import Derived.Test.YtgckfilmhnapeaaGreatDoorLx
import Derived.Test.YtgckfilmhnapeaaGreatDoorIkA
import Derived.Test.YtgckfilmhnapeaaGreatDoorIkB
import Derived.Test.YtgckfilmhnapeaaGreatDoorIkC
import Derived.Test.YtgckfilmhnapeaaGreatDoorIrA
namespace Go.Proofs.YtgckfilmhnapeaaGreatDoor
open Go.RowKit Go.Lib
set_option linter.unusedVariables false

theorem odd_same (a : Nat) : ∀ (b u v : Nat), (2 * u + 1) * 2 ^ a = (2 * v + 1) * 2 ^ b → u = v ∧ a = b := by
  induction a with
  | zero =>
    intro b u v h
    cases b with
    | zero => simp only [Nat.pow_zero, Nat.mul_one] at h; exact ⟨by omega, rfl⟩
    | succ b =>
      exfalso
      rw [Nat.pow_zero, Nat.mul_one, Nat.pow_succ, ← Nat.mul_assoc] at h
      omega
  | succ a ih =>
    intro b u v h
    cases b with
    | zero =>
      exfalso
      rw [Nat.pow_zero, Nat.mul_one, Nat.pow_succ, ← Nat.mul_assoc] at h
      omega
    | succ b =>
      rw [Nat.pow_succ, Nat.pow_succ, ← Nat.mul_assoc, ← Nat.mul_assoc] at h
      obtain ⟨e1, e2⟩ := ih b u v (by omega)
      exact ⟨e1, by omega⟩
theorem odd_wide {z4 u4 z u d s p : Nat} (h1 : (2 * u4 + 1) * 2 ^ z4 = s) (h2 : s = p * 2 ^ d) (h3 : (2 * u + 1) * 2 ^ z = p) : u4 = u ∧ z4 = z + d :=
  odd_same z4 (z + d) u4 u (by rw [h1, h2, ← h3, Nat.mul_assoc, ← Nat.pow_add])
/-- a pattern of a lesser width is one of 64 bits -/
theorem widen (f l W sz : Nat) (hf : f ≤ 23) (hl : l ≤ 149) (hW : W ≤ 254) (hs : sz < (W + 1) * 2 ^ f) : ∃ sy, sy < (2046 + 1) * 2 ^ 52 ∧ pv 52 sy = pv f sz * 2 ^ (1074 - l) ∧ (sz = 0 ↔ sy = 0) := by
  obtain ⟨k, c, h1, h2, h3, -⟩ := size_parts f sz
  by_cases hc : c = 0
  · have hk := h3 (by rw [hc]; exact Nat.two_pow_pos f)
    have h0 : sz = 0 := by rw [h1, hk, hc]; simp
    exact ⟨0, by decide, by rw [h0, pv_zero, pv_zero, Nat.zero_mul], by simp [h0]⟩
  · have hpc : pv f sz = c * 2 ^ k := by rw [h1]; exact pv_of f k c (Nat.le_of_lt h2) h3
    have hkW : k ≤ W := by
      rcases Nat.lt_or_ge W k with g | g
      · exfalso
        have : (W + 1) * 2 ^ f ≤ k * 2 ^ f := Nat.mul_le_mul_right _ g
        omega
      · exact g
    have hb : blen c ≤ 24 := Nat.le_trans ((blen_iff c (f + 1)).2 h2) (by omega)
    have b1 := lt_blen c
    have b2 := blen_ge c hc
    have b0 := blen_pos c hc
    obtain ⟨d, hd⟩ : ∃ d, 53 = blen c + d := ⟨53 - blen c, by omega⟩
    obtain ⟨K, hK⟩ : ∃ K, k + (1074 - l) = K + d := ⟨k + (1074 - l) - d, by omega⟩
    have c1 : c * 2 ^ d < 2 ^ 53 := by
      rw [hd, Nat.pow_add]
      exact Nat.mul_lt_mul_of_pos_right b1 (Nat.two_pow_pos d)
    have c2 : 2 ^ 52 ≤ c * 2 ^ d := by
      have : 2 ^ (blen c - 1) * 2 ^ d ≤ c * 2 ^ d := Nat.mul_le_mul_right _ b2
      rw [← Nat.pow_add, show blen c - 1 + d = 52 by omega] at this
      exact this
    have hv := pv_of 52 K (c * 2 ^ d) (Nat.le_of_lt c1) (fun h => by omega)
    refine ⟨K * 2 ^ 52 + c * 2 ^ d, ?_, ?_, ?_⟩
    · have e1 : K * 2 ^ 52 + c * 2 ^ d < K * 2 ^ 52 + 2 ^ 53 := by omega
      have e2 : K * 2 ^ 52 + 2 ^ 53 = (K + 2) * 2 ^ 52 := by rw [Nat.add_mul]
      have e3 : (K + 2) * 2 ^ 52 ≤ (2046 + 1) * 2 ^ 52 := Nat.mul_le_mul_right _ (by omega)
      omega
    · rw [hv, hpc, Nat.mul_assoc, Nat.mul_assoc, ← Nat.pow_add, ← Nat.pow_add, hK, Nat.add_comm d K]
    · constructor
      · intro e
        exfalso
        have hp : pv f sz = 0 := by rw [e]; exact pv_zero f
        rw [hpc] at hp
        rcases Nat.mul_eq_zero.1 hp with g | g
        · exact hc g
        · have := Nat.two_pow_pos k; omega
      · intro e
        exfalso
        have := Nat.two_pow_pos 52
        omega
/-- what wide tells of a pattern -/
def Wide (f l inf : Nat) (neg : Bool) (sz y : Nat) : Prop :=
  y < 18446744073709551616 ∧ ((inf ≤ sz ∧ 9218868437227405312 ≤ y % 9223372036854775808) ∨
    (sz < inf ∧ y % 9223372036854775808 < 9218868437227405312 ∧ decide (9223372036854775808 ≤ y) = neg ∧ pv 52 (y % 9223372036854775808) * 2 ^ l = pv f sz * 2 ^ 1074 ∧ (sz = 0 ↔ y % 9223372036854775808 = 0)))
theorem wide_sgn (neg : Bool) (s : Nat) (h : s < 9223372036854775808) : sgnN neg s 9223372036854775808 < 18446744073709551616 ∧ sgnN neg s 9223372036854775808 % 9223372036854775808 = s ∧ decide (9223372036854775808 ≤ sgnN neg s 9223372036854775808) = neg := by
  unfold sgnN
  cases neg
  · rw [if_neg (by decide)]
    exact ⟨by omega, Nat.mod_eq_of_lt h, decide_eq_false (by omega)⟩
  · rw [if_pos rfl]
    exact ⟨by omega, by omega, decide_eq_true (by omega)⟩
theorem inf64_eq : (2046 + 1) * 2 ^ 52 = 9218868437227405312 := by decide
/-- the nearest one of 64 bits is the pattern itself -/
theorem wide_near {f l W m sz s z : Nat} {E : Int} (hf : f ≤ 23) (hl : l ≤ 149) (hW : W ≤ 254) (hs : sz < (W + 1) * 2 ^ f) (hE : E = (z : Int) - l) (hm : m * 2 ^ z = pv f sz)
    (h : Near 52 ((2046 + 1) * 2 ^ 52) s ((2 * m + 0) * 2 ^ (E - 1 + ((1074 : Nat) : Int)).toNat) (2 ^ (-(E - 1 + ((1074 : Nat) : Int))).toNat)) : s < 9218868437227405312 ∧ pv 52 s = pv f sz * 2 ^ (1074 - l) ∧ (sz = 0 ↔ s = 0) := by
  obtain ⟨sy, h1, h2, h3⟩ := widen f l W sz hf hl hW hs
  have e1 : (-(E - 1 + ((1074 : Nat) : Int))).toNat = 0 := by omega
  have e2 : (E - 1 + ((1074 : Nat) : Int)).toNat + 1 = z + (1074 - l) := by omega
  have hA : (2 * m + 0) * 2 ^ (E - 1 + ((1074 : Nat) : Int)).toNat = pv 52 sy * 1 := by
    rw [Nat.add_zero, Nat.mul_one, h2, ← hm, Nat.mul_assoc m, ← Nat.pow_add, ← e2, Nat.pow_succ, Nat.mul_comm 2 m, Nat.mul_assoc, Nat.mul_comm 2]
  rw [e1, Nat.pow_zero] at h
  have hu := Near.unique h (near_exact 52 ((2046 + 1) * 2 ^ 52) sy _ 1 (by decide) (Nat.le_of_lt h1) hA) (by decide)
  subst hu
  exact ⟨by rw [← inf64_eq]; exact h1, h2, h3⟩
theorem wide_zero {f l m t : Nat} (ht : t = 0) : pv 52 t * 2 ^ l = pv f 0 * 2 ^ m := by rw [ht, pv_zero, pv_zero, Nat.zero_mul, Nat.zero_mul]
theorem wide_val {f l sz s : Nat} (hl : l ≤ 149) (h : pv 52 s = pv f sz * 2 ^ (1074 - l)) : pv 52 s * 2 ^ l = pv f sz * 2 ^ 1074 := by
  rw [h, Nat.mul_assoc, ← Nat.pow_add, show 1074 - l + l = 1074 by omega]

set_option maxRecDepth 100000 in
theorem nan_A (w : World) : Calls Tryz.prog 52 #[shpV 52 (-1074) 11] w fun e w' => e = .returned (.int .u64 9221120237041090560) ∧ Below w.heap.size w w' := by
  have HS := Lib.hid (fun wx => inf_A wx)
  unfold shpV at HS ⊢
  go_enter Tryz.func52, Tryz.ntmps52
  go_wp2_with fail
  have hb0 := (Blk.new w 49 #[.int .i64 52, .int .i64 (-1074), .int .i64 11])
  have HC : Hid (Cells3 (w.alloc (.cells #[.int .i64 52, .int .i64 (-1074), .int .i64 11] 49)) w.heap.size 52 (-1074) 11) := Lib.hid ⟨by rw [hb0.cell 0] <;> rfl, by rw [hb0.cell 1] <;> rfl, by rw [hb0.cell 2] <;> rfl⟩
  have HKEEP : Hid (∀ wy, Below (w.alloc (.cells #[.int .i64 52, .int .i64 (-1074), .int .i64 11] 49)).drew.heap.size (w.alloc (.cells #[.int .i64 52, .int .i64 (-1074), .int .i64 11] 49)).drew wy → Cells3 wy w.heap.size 52 (-1074) 11) := Lib.hid (fun wy hb => ⟨(hb.cell (p := ⟨w.heap.size, 0, none⟩) (by simp)).trans HC.out.1, (hb.cell (p := ⟨w.heap.size, 1, none⟩) (by simp)).trans HC.out.2.1, (hb.cell (p := ⟨w.heap.size, 2, none⟩) (by simp)).trans HC.out.2.2⟩)
  clear hb0
  have q0 : IntKind.i64.wrap 51 = 51 := by kernel_rfl
  have q1 : IntKind.u64.wrap 2251799813685248 = 2251799813685248 := by kernel_rfl
  have q2 : IntKind.u64.wrap (9218868437227405312 + 2251799813685248) = 9221120237041090560 := by kernel_rfl
  go_region_held3 (fun w' => w'.cell? ⟨w.heap.size, 0, none⟩ = some (.int .i64 52) ∧ w'.cell? ⟨w.heap.size, 1, none⟩ = some (.int .i64 (-1074)) ∧ w'.cell? ⟨w.heap.size, 2, none⟩ = some (.int .i64 11))
    (first | exact HC.out | exact HKEEP.out _ B1.out)
    (first
      | (go_at_call 21; refine (HS.out _).mono ?_; rintro e w1 ⟨rfl, hb1⟩; have B1 := Lib.hid hb1; clear hb1))
  go_wp2_with fail
  go_ret
  exact ⟨rfl, (below_drewN' ((Below.refl w.heap.size w).alloc (Nat.le_refl _) _) 1).trans (B1.out.mono (by simp))⟩
def ToPost (f l inf : Nat) (neg : Bool) (sz : Nat) (w : World) (e : Ending) (w' : World) : Prop :=
  ∃ (y : Nat) (b : Bool), e = .returned (.tuple #[.int .u64 y, .bool b]) ∧ Below w.heap.size w w' ∧ Wide f l inf neg sz y

set_option maxRecDepth 100000 in
set_option maxHeartbeats 2000000 in
theorem to_B (x : Nat) (hx : x < 4294967296) (w : World) (hT : Tabs w) :
    Calls Tryz.prog 23 #[.int .u32 x] w (ToPost 23 149 2139095040 (decide (2147483648 ≤ x)) (x % 2147483648) w) := by
  have HP := Lib.hid (fun wx (hb : Below w.heap.size w wx) => parts_B x hx wx (hT.below hb))
  have HK := Lib.hid (fun wx (hb : Below w.heap.size w wx) => class_B x hx wx (hT.below hb))
  have HSP := Lib.hid (fun wx (hb : Below w.heap.size w wx) => split_B x hx wx (hT.below hb))
  have HO := Lib.hid (fun wx (hb : Below w.heap.size w wx) => of_A wx (hT.below hb))
  have HI := Lib.hid (fun wx => inf_A wx)
  have HNN := Lib.hid (fun wx => nan_A wx)
  have HSG := Lib.hid (fun n s hs wx (hb : Below w.heap.size w wx) => signed_A n s hs wx (hT.below hb))
  have HPA := Lib.hid (fun y hy wx (hb : Below w.heap.size w wx) => parts_A y hy wx (hT.below hb))
  have HTB := Lib.hid (fun wx (hb : Below w.heap.size w wx) => hT.below hb)
  have hcn := cls_nan 23 2139095040 (x % 2147483648)
  have hsz : x % 2147483648 < 2147483648 := Nat.mod_lt _ (by decide)
  unfold ToPost
  generalize clsN 23 2139095040 (x % 2147483648) = kx at *
  generalize x % 2147483648 = sz at *
  generalize decide (2147483648 ≤ x) = neg at *
  clear hT hx
  go_enter Tryz.func23, Tryz.ntmps23
  go_wp2_with fail
  refine (HP.out _ (Below.refl _ _)).mono ?_
  rintro e w1 ⟨hb1, hcases⟩
  have HB1 := Lib.hid hb1
  clear hb1 HP
  rcases hcases with ⟨hin, rfl⟩ | ⟨hz, rfl⟩ | ⟨hin, hz, u, z, rfl, huz⟩
  · have HIN := Lib.hid hin
    clear hin hsz
    go_wp2_with fail
    refine (HK.out _ HB1.out).mono ?_
    rintro e w2 ⟨rfl, hb2⟩
    have HB2 := Lib.hid (HB1.out.trans (hb2.mono HB1.out.size))
    clear hb2 HK
    by_cases g : 2139095040 < sz
    · rw [decide_eq_true g] at hcn
      clear g
      go_wp2_with fail
      refine (HO.out _ HB2.out).mono ?_
      rintro e w3 ⟨rfl, hb3⟩
      have HB3 := Lib.hid (HB2.out.trans (hb3.mono HB2.out.size))
      clear hb3
      go_wp2_with fail
      refine (HNN.out _).mono ?_
      rintro e w4 ⟨rfl, hb4⟩
      have HB4 := Lib.hid (HB3.out.trans (hb4.mono HB3.out.size))
      clear hb4
      go_wp2_with fail
      go_ret2
      exact ⟨9221120237041090560, true, rfl, HB4.out, by decide, .inl ⟨HIN.out, by decide⟩⟩
    · rw [decide_eq_false g] at hcn
      clear g
      go_wp2_with fail
      refine (HSP.out _ HB2.out).mono ?_
      rintro e w3 ⟨rfl, hb3⟩
      have HB3 := Lib.hid (HB2.out.trans (hb3.mono HB2.out.size))
      clear hb3
      go_wp2_with fail
      refine (HO.out _ HB3.out).mono ?_
      rintro e w4 ⟨rfl, hb4⟩
      have HB4 := Lib.hid (HB3.out.trans (hb4.mono HB3.out.size))
      clear hb4
      go_wp2_with fail
      refine (HI.out _).mono ?_
      rintro e w5 ⟨rfl, hb5⟩
      have HB5 := Lib.hid (HB4.out.trans (hb5.mono HB4.out.size))
      clear hb5
      go_wp2_with fail
      refine (HSG.out neg 9218868437227405312 (by decide) _ HB5.out).mono ?_
      rintro e w6 ⟨rfl, hb6⟩
      have HB6 := Lib.hid (HB5.out.trans (hb6.mono HB5.out.size))
      clear hb6
      have HWS := Lib.hid (wide_sgn neg 9218868437227405312 (by decide))
      generalize sgnN neg 9218868437227405312 9223372036854775808 = y at *
      go_wp2_with fail
      go_ret2
      exact ⟨y, true, rfl, HB6.out, HWS.out.1, .inl ⟨HIN.out, by rw [HWS.out.2.1]; decide⟩⟩
  · subst hz
    have HFR := Lib.hid (fun wx => pfrom_any 0 (by decide) wx)
    have HRN := Lib.hid (fun A c wx (hb : Below w.heap.size w wx) hA => roundF_A neg A 0 c 0 wx (HTB.out wx hb) hA (by decide +kernel) (by decide) (by decide))
    have HNR := Lib.hid (fun s => @wide_near 23 149 254 0 0 s 149 0 (by decide) (by decide) (by decide) (by decide) (by decide) (by rw [pv_zero, Nat.zero_mul]))
    clear hcn hsz
    go_wp2_with fail
    refine (HFR.out _).mono ?_
    rintro e w2 ⟨A2, c2, rfl, hca, hla, hma, hba⟩
    have C2 := Lib.hid (CanC.mk hca hla hma)
    have HB2 := Lib.hid (HB1.out.trans (hba.mono HB1.out.size))
    clear hca hla hma hba HFR
    go_wp2_with fail
    refine (HRN.out A2 c2 _ HB2.out C2.out).mono ?_
    rintro e w3 ⟨s, rfl, hnear, hb3⟩
    have HB3 := Lib.hid (HB2.out.trans (hb3.mono HB2.out.size))
    obtain ⟨g1, g2, g3⟩ := HNR.out s hnear
    have hs0 : s = 0 := g3.1 (by first | rfl | trivial)
    subst hs0
    have HG2 := Lib.hid g2
    obtain ⟨y1, y2, y3⟩ := wide_sgn neg 0 (by decide)
    generalize sgnN neg 0 9223372036854775808 = y at *
    have HPY := Lib.hid (HPA.out y y1 _ HB3.out)
    rw [y2, y3] at HPY
    have HY := Lib.hid (show _ ∧ _ ∧ _ from ⟨y1, y2, y3⟩)
    clear hb3 hnear HRN C2 g1 g2 g3 y1 y2 y3
    go_wp2_with fail
    refine HPY.out.mono ?_
    rintro e w4 ⟨hb4, hc4⟩
    have HB4 := Lib.hid (HB3.out.trans (hb4.mono HB3.out.size))
    clear hb4
    rcases hc4 with ⟨hin4, rfl⟩ | ⟨hz4, rfl⟩ | ⟨hin4, hz4, u4, z4, rfl, huz4⟩
    · exact absurd hin4 (by decide)
    · go_wp2_with fail
      go_ret2
      exact ⟨y, true, rfl, HB4.out, HY.out.1, .inr ⟨by decide, by rw [HY.out.2.1]; decide, HY.out.2.2, wide_zero (f := 23) (l := 149) (m := 1074) HY.out.2.1, by rw [HY.out.2.1]⟩⟩
    · exact absurd rfl hz4
  · obtain ⟨zb, ub⟩ := z_bound u z 23 254 sz huz hin
    have hum := u_small 23 u z sz huz
    have hu64 : 2 * u + 1 < 18446744073709551616 := Nat.lt_of_lt_of_le hum (by decide)
    have hll : ll (2 * u + 1) ≤ 200000 := Nat.le_trans (ll_two (2 * u + 1) 2 (Nat.lt_of_lt_of_le hum (by decide))) (by decide)
    have HFR0 : Hid (2 * u + 1 < 18446744073709551616) := Lib.hid hu64
    have HFR := Lib.hid (fun wx => pfrom_any (2 * u + 1) HFR0.out wx)
    have HNR := Lib.hid (fun s => @wide_near 23 149 254 (2 * u + 1) sz s z ((z : Int) - (149 : Nat)) (by decide) (by decide) (by decide) hin rfl huz)
    have HRN := Lib.hid (fun A c wx (hb : Below w.heap.size w wx) hA => roundF_A neg A (2 * u + 1) c ((z : Int) - (149 : Nat)) wx (HTB.out wx hb) hA hll (by omega) (by omega))
    have HUZ := Lib.hid huz
    have HSZ := Lib.hid (show sz < 2139095040 ∧ sz ≠ 0 from ⟨hin, hz⟩)
    obtain ⟨m, hm⟩ : ∃ m, 2 * u + 1 = m := ⟨_, rfl⟩
    obtain ⟨E, hE⟩ : ∃ E : Int, (z : Int) - (149 : Nat) = E := ⟨_, rfl⟩
    have HM := Lib.hid hm
    have HE := Lib.hid hE
    rw [hm] at HFR HNR HRN ⊢
    rw [hE] at HNR HRN ⊢
    clear hcn hsz hin hz huz zb ub hum hu64 hll hm hE HFR0
    go_wp2_with fail
    refine (HFR.out _).mono ?_
    rintro e w2 ⟨A2, c2, rfl, hca, hla, hma, hba⟩
    have C2 := Lib.hid (CanC.mk hca hla hma)
    have HB2 := Lib.hid (HB1.out.trans (hba.mono HB1.out.size))
    clear hca hla hma hba HFR
    go_wp2_with fail
    refine (HRN.out A2 c2 _ HB2.out C2.out).mono ?_
    rintro e w3 ⟨s, rfl, hnear, hb3⟩
    have HB3 := Lib.hid (HB2.out.trans (hb3.mono HB2.out.size))
    obtain ⟨g1, g2, g3⟩ := HNR.out s hnear
    have HG := Lib.hid (show _ ∧ _ ∧ _ from ⟨g1, g2, g3⟩)
    obtain ⟨y1, y2, y3⟩ := wide_sgn neg s (by omega)
    generalize sgnN neg s 9223372036854775808 = y at *
    have HPY := Lib.hid (HPA.out y y1 _ HB3.out)
    rw [y2, y3] at HPY
    have HY := Lib.hid (show _ ∧ _ ∧ _ from ⟨y1, y2, y3⟩)
    clear hb3 hnear HRN C2 g1 g2 g3 y1 y2 y3
    go_wp2_with fail
    refine HPY.out.mono ?_
    rintro e w4 ⟨hb4, hc4⟩
    have HB4 := Lib.hid (HB3.out.trans (hb4.mono HB3.out.size))
    clear hb4
    rcases hc4 with ⟨hin4, rfl⟩ | ⟨hz4, rfl⟩ | ⟨hin4, hz4, u4, z4, rfl, huz4⟩
    · have := HG.out.1
      omega
    · exact absurd (HG.out.2.2.2 hz4) HSZ.out.2
    · have hodd := odd_wide (d := 1074 - 149) huz4 HG.out.2.1 HUZ.out
      have e1 : 2 * u4 + 1 = m := by rw [hodd.1]; exact HM.out
      have e2 : (z4 : Int) - ((1074 : Nat) : Int) = E := by have := hodd.2; have := HE.out; omega
      rw [e1, e2]
      clear hin4 hz4 huz4 hodd e1 e2
      go_wp2_with fail
      go_ret2
      exact ⟨y, true, rfl, HB4.out, HY.out.1, .inr ⟨HSZ.out.1, by rw [HY.out.2.1]; exact HG.out.1, HY.out.2.2, by rw [HY.out.2.1]; exact wide_val (by decide) HG.out.2.1, by rw [HY.out.2.1]; exact HG.out.2.2⟩⟩

set_option maxRecDepth 100000 in
set_option maxHeartbeats 2000000 in
theorem to_C (x : Nat) (hx : x < 65536) (w : World) (hT : Tabs w) :
    Calls Tryz.prog 24 #[.int .u16 x] w (ToPost 10 24 31744 (decide (32768 ≤ x)) (x % 32768) w) := by
  have HP := Lib.hid (fun wx (hb : Below w.heap.size w wx) => parts_C x hx wx (hT.below hb))
  have HK := Lib.hid (fun wx (hb : Below w.heap.size w wx) => class_C x hx wx (hT.below hb))
  have HSP := Lib.hid (fun wx (hb : Below w.heap.size w wx) => split_C x hx wx (hT.below hb))
  have HO := Lib.hid (fun wx (hb : Below w.heap.size w wx) => of_A wx (hT.below hb))
  have HI := Lib.hid (fun wx => inf_A wx)
  have HNN := Lib.hid (fun wx => nan_A wx)
  have HSG := Lib.hid (fun n s hs wx (hb : Below w.heap.size w wx) => signed_A n s hs wx (hT.below hb))
  have HPA := Lib.hid (fun y hy wx (hb : Below w.heap.size w wx) => parts_A y hy wx (hT.below hb))
  have HTB := Lib.hid (fun wx (hb : Below w.heap.size w wx) => hT.below hb)
  have hcn := cls_nan 10 31744 (x % 32768)
  have hsz : x % 32768 < 32768 := Nat.mod_lt _ (by decide)
  unfold ToPost
  generalize clsN 10 31744 (x % 32768) = kx at *
  generalize x % 32768 = sz at *
  generalize decide (32768 ≤ x) = neg at *
  clear hT hx
  go_enter Tryz.func24, Tryz.ntmps24
  go_wp2_with fail
  refine (HP.out _ (Below.refl _ _)).mono ?_
  rintro e w1 ⟨hb1, hcases⟩
  have HB1 := Lib.hid hb1
  clear hb1 HP
  rcases hcases with ⟨hin, rfl⟩ | ⟨hz, rfl⟩ | ⟨hin, hz, u, z, rfl, huz⟩
  · have HIN := Lib.hid hin
    clear hin hsz
    go_wp2_with fail
    refine (HK.out _ HB1.out).mono ?_
    rintro e w2 ⟨rfl, hb2⟩
    have HB2 := Lib.hid (HB1.out.trans (hb2.mono HB1.out.size))
    clear hb2 HK
    by_cases g : 31744 < sz
    · rw [decide_eq_true g] at hcn
      clear g
      go_wp2_with fail
      refine (HO.out _ HB2.out).mono ?_
      rintro e w3 ⟨rfl, hb3⟩
      have HB3 := Lib.hid (HB2.out.trans (hb3.mono HB2.out.size))
      clear hb3
      go_wp2_with fail
      refine (HNN.out _).mono ?_
      rintro e w4 ⟨rfl, hb4⟩
      have HB4 := Lib.hid (HB3.out.trans (hb4.mono HB3.out.size))
      clear hb4
      go_wp2_with fail
      go_ret2
      exact ⟨9221120237041090560, true, rfl, HB4.out, by decide, .inl ⟨HIN.out, by decide⟩⟩
    · rw [decide_eq_false g] at hcn
      clear g
      go_wp2_with fail
      refine (HSP.out _ HB2.out).mono ?_
      rintro e w3 ⟨rfl, hb3⟩
      have HB3 := Lib.hid (HB2.out.trans (hb3.mono HB2.out.size))
      clear hb3
      go_wp2_with fail
      refine (HO.out _ HB3.out).mono ?_
      rintro e w4 ⟨rfl, hb4⟩
      have HB4 := Lib.hid (HB3.out.trans (hb4.mono HB3.out.size))
      clear hb4
      go_wp2_with fail
      refine (HI.out _).mono ?_
      rintro e w5 ⟨rfl, hb5⟩
      have HB5 := Lib.hid (HB4.out.trans (hb5.mono HB4.out.size))
      clear hb5
      go_wp2_with fail
      refine (HSG.out neg 9218868437227405312 (by decide) _ HB5.out).mono ?_
      rintro e w6 ⟨rfl, hb6⟩
      have HB6 := Lib.hid (HB5.out.trans (hb6.mono HB5.out.size))
      clear hb6
      have HWS := Lib.hid (wide_sgn neg 9218868437227405312 (by decide))
      generalize sgnN neg 9218868437227405312 9223372036854775808 = y at *
      go_wp2_with fail
      go_ret2
      exact ⟨y, true, rfl, HB6.out, HWS.out.1, .inl ⟨HIN.out, by rw [HWS.out.2.1]; decide⟩⟩
  · subst hz
    have HFR := Lib.hid (fun wx => pfrom_any 0 (by decide) wx)
    have HRN := Lib.hid (fun A c wx (hb : Below w.heap.size w wx) hA => roundF_A neg A 0 c 0 wx (HTB.out wx hb) hA (by decide +kernel) (by decide) (by decide))
    have HNR := Lib.hid (fun s => @wide_near 10 24 30 0 0 s 24 0 (by decide) (by decide) (by decide) (by decide) (by decide) (by rw [pv_zero, Nat.zero_mul]))
    clear hcn hsz
    go_wp2_with fail
    refine (HFR.out _).mono ?_
    rintro e w2 ⟨A2, c2, rfl, hca, hla, hma, hba⟩
    have C2 := Lib.hid (CanC.mk hca hla hma)
    have HB2 := Lib.hid (HB1.out.trans (hba.mono HB1.out.size))
    clear hca hla hma hba HFR
    go_wp2_with fail
    refine (HRN.out A2 c2 _ HB2.out C2.out).mono ?_
    rintro e w3 ⟨s, rfl, hnear, hb3⟩
    have HB3 := Lib.hid (HB2.out.trans (hb3.mono HB2.out.size))
    obtain ⟨g1, g2, g3⟩ := HNR.out s hnear
    have hs0 : s = 0 := g3.1 (by first | rfl | trivial)
    subst hs0
    have HG2 := Lib.hid g2
    obtain ⟨y1, y2, y3⟩ := wide_sgn neg 0 (by decide)
    generalize sgnN neg 0 9223372036854775808 = y at *
    have HPY := Lib.hid (HPA.out y y1 _ HB3.out)
    rw [y2, y3] at HPY
    have HY := Lib.hid (show _ ∧ _ ∧ _ from ⟨y1, y2, y3⟩)
    clear hb3 hnear HRN C2 g1 g2 g3 y1 y2 y3
    go_wp2_with fail
    refine HPY.out.mono ?_
    rintro e w4 ⟨hb4, hc4⟩
    have HB4 := Lib.hid (HB3.out.trans (hb4.mono HB3.out.size))
    clear hb4
    rcases hc4 with ⟨hin4, rfl⟩ | ⟨hz4, rfl⟩ | ⟨hin4, hz4, u4, z4, rfl, huz4⟩
    · exact absurd hin4 (by decide)
    · go_wp2_with fail
      go_ret2
      exact ⟨y, true, rfl, HB4.out, HY.out.1, .inr ⟨by decide, by rw [HY.out.2.1]; decide, HY.out.2.2, wide_zero (f := 10) (l := 24) (m := 1074) HY.out.2.1, by rw [HY.out.2.1]⟩⟩
    · exact absurd rfl hz4
  · obtain ⟨zb, ub⟩ := z_bound u z 10 30 sz huz hin
    have hum := u_small 10 u z sz huz
    have hu64 : 2 * u + 1 < 18446744073709551616 := Nat.lt_of_lt_of_le hum (by decide)
    have hll : ll (2 * u + 1) ≤ 200000 := Nat.le_trans (ll_two (2 * u + 1) 2 (Nat.lt_of_lt_of_le hum (by decide))) (by decide)
    have HFR0 : Hid (2 * u + 1 < 18446744073709551616) := Lib.hid hu64
    have HFR := Lib.hid (fun wx => pfrom_any (2 * u + 1) HFR0.out wx)
    have HNR := Lib.hid (fun s => @wide_near 10 24 30 (2 * u + 1) sz s z ((z : Int) - (24 : Nat)) (by decide) (by decide) (by decide) hin rfl huz)
    have HRN := Lib.hid (fun A c wx (hb : Below w.heap.size w wx) hA => roundF_A neg A (2 * u + 1) c ((z : Int) - (24 : Nat)) wx (HTB.out wx hb) hA hll (by omega) (by omega))
    have HUZ := Lib.hid huz
    have HSZ := Lib.hid (show sz < 31744 ∧ sz ≠ 0 from ⟨hin, hz⟩)
    obtain ⟨m, hm⟩ : ∃ m, 2 * u + 1 = m := ⟨_, rfl⟩
    obtain ⟨E, hE⟩ : ∃ E : Int, (z : Int) - (24 : Nat) = E := ⟨_, rfl⟩
    have HM := Lib.hid hm
    have HE := Lib.hid hE
    rw [hm] at HFR HNR HRN ⊢
    rw [hE] at HNR HRN ⊢
    clear hcn hsz hin hz huz zb ub hum hu64 hll hm hE HFR0
    go_wp2_with fail
    refine (HFR.out _).mono ?_
    rintro e w2 ⟨A2, c2, rfl, hca, hla, hma, hba⟩
    have C2 := Lib.hid (CanC.mk hca hla hma)
    have HB2 := Lib.hid (HB1.out.trans (hba.mono HB1.out.size))
    clear hca hla hma hba HFR
    go_wp2_with fail
    refine (HRN.out A2 c2 _ HB2.out C2.out).mono ?_
    rintro e w3 ⟨s, rfl, hnear, hb3⟩
    have HB3 := Lib.hid (HB2.out.trans (hb3.mono HB2.out.size))
    obtain ⟨g1, g2, g3⟩ := HNR.out s hnear
    have HG := Lib.hid (show _ ∧ _ ∧ _ from ⟨g1, g2, g3⟩)
    obtain ⟨y1, y2, y3⟩ := wide_sgn neg s (by omega)
    generalize sgnN neg s 9223372036854775808 = y at *
    have HPY := Lib.hid (HPA.out y y1 _ HB3.out)
    rw [y2, y3] at HPY
    have HY := Lib.hid (show _ ∧ _ ∧ _ from ⟨y1, y2, y3⟩)
    clear hb3 hnear HRN C2 g1 g2 g3 y1 y2 y3
    go_wp2_with fail
    refine HPY.out.mono ?_
    rintro e w4 ⟨hb4, hc4⟩
    have HB4 := Lib.hid (HB3.out.trans (hb4.mono HB3.out.size))
    clear hb4
    rcases hc4 with ⟨hin4, rfl⟩ | ⟨hz4, rfl⟩ | ⟨hin4, hz4, u4, z4, rfl, huz4⟩
    · have := HG.out.1
      omega
    · exact absurd (HG.out.2.2.2 hz4) HSZ.out.2
    · have hodd := odd_wide (d := 1074 - 24) huz4 HG.out.2.1 HUZ.out
      have e1 : 2 * u4 + 1 = m := by rw [hodd.1]; exact HM.out
      have e2 : (z4 : Int) - ((1074 : Nat) : Int) = E := by have := hodd.2; have := HE.out; omega
      rw [e1, e2]
      clear hin4 hz4 huz4 hodd e1 e2
      go_wp2_with fail
      go_ret2
      exact ⟨y, true, rfl, HB4.out, HY.out.1, .inr ⟨HSZ.out.1, by rw [HY.out.2.1]; exact HG.out.1, HY.out.2.2, by rw [HY.out.2.1]; exact wide_val (by decide) HG.out.2.1, by rw [HY.out.2.1]; exact HG.out.2.2⟩⟩

def WdPost (u : Int) (x : Nat) (w : World) (e : Ending) (w' : World) : Prop :=
  ∃ y : Nat, e = .returned (.int .u64 y) ∧ Below w.heap.size w w' ∧ Wide (wF u) (wL u) (wI u) (decide (wS u ≤ x)) (x % wS u) y

set_option maxRecDepth 100000 in
theorem wide_B (u : Int) (hk : u.tmod 4 = 1) (x : Nat) (hx : x < 4294967296) (w : World) (hT : Tabs w) :
    Calls Tryz.prog 10 #[.int .u8 u, .int .u64 x] w fun e w' => ∃ y : Nat, e = .returned (.int .u64 y) ∧ Below w.heap.size w w' ∧ Wide 23 149 2139095040 (decide (2147483648 ≤ x)) (x % 2147483648) y := by
  have HTO := Lib.hid (to_B x hx w hT)
  have hwx : IntKind.u32.wrap (x : Int) = (x : Int) := by rw [u32_wrap]; omega
  generalize decide (2147483648 ≤ x) = neg at *
  generalize x % 2147483648 = sz at *
  clear hT hx
  go_enter Tryz.func10, Tryz.ntmps10
  go_wp2_with fail
  refine HTO.out.mono ?_
  rintro e w1 ⟨y, b, rfl, hb, hw⟩
  have HB := Lib.hid hb
  have HW := Lib.hid hw
  clear hb hw HTO
  go_wp2_with fail
  go_ret
  exact ⟨y, rfl, HB.out, HW.out⟩

set_option maxRecDepth 100000 in
theorem wide_C (u : Int) (hk1 : (u.tmod 4 == 1) = false) (hk2 : (u.tmod 4 == 2) = false) (x : Nat) (hx : x < 65536) (w : World) (hT : Tabs w) :
    Calls Tryz.prog 10 #[.int .u8 u, .int .u64 x] w fun e w' => ∃ y : Nat, e = .returned (.int .u64 y) ∧ Below w.heap.size w w' ∧ Wide 10 24 31744 (decide (32768 ≤ x)) (x % 32768) y := by
  have HTO := Lib.hid (to_C x hx w hT)
  have hwx : IntKind.u16.wrap (x : Int) = (x : Int) := by rw [u16_wrap]; omega
  generalize decide (32768 ≤ x) = neg at *
  generalize x % 32768 = sz at *
  clear hT hx
  go_enter Tryz.func10, Tryz.ntmps10
  go_wp2_with fail
  refine HTO.out.mono ?_
  rintro e w1 ⟨y, b, rfl, hb, hw⟩
  have HB := Lib.hid hb
  have HW := Lib.hid hw
  clear hb hw HTO
  go_wp2_with fail
  go_ret
  exact ⟨y, rfl, HB.out, HW.out⟩

set_option maxRecDepth 100000 in
theorem wide_A (u : Int) (hk : u.tmod 4 = 2) (x : Nat) (hx : x < 18446744073709551616) (w : World) :
    Calls Tryz.prog 10 #[.int .u8 u, .int .u64 x] w fun e w' => ∃ y : Nat, e = .returned (.int .u64 y) ∧ Below w.heap.size w w' ∧ Wide 52 1074 9218868437227405312 (decide (9223372036854775808 ≤ x)) (x % 9223372036854775808) y := by
  have HX := Lib.hid hx
  clear hx
  go_enter Tryz.func10, Tryz.ntmps10
  go_wp2_with fail
  go_ret
  refine ⟨x, rfl, Below.refl _ _, HX.out, ?_⟩
  by_cases h : 9218868437227405312 ≤ x % 9223372036854775808
  · exact .inl ⟨h, h⟩
  · exact .inr ⟨by omega, by omega, rfl, rfl, Iff.rfl⟩
theorem wide_any (u : Int) (hu0 : 0 ≤ u) (x : Nat) (hx : x < 2 * wS u) (w : World) (hT : Tabs w) :
    Calls Tryz.prog 10 #[.int .u8 u, .int .u64 x] w (WdPost u x w) := by
  have htm : u.tmod 4 = u % 4 := Int.tmod_eq_emod_of_nonneg hu0
  unfold WdPost wF wL wI wS
  unfold wS at hx
  by_cases h1 : u % 4 = 1
  · simp only [h1, if_true] at hx ⊢
    exact wide_B u (htm.trans h1) x hx w hT
  · by_cases h2 : u % 4 = 2
    · rw [if_neg h1, if_pos h2] at hx
      rw [if_neg h1, if_pos h2, if_neg h1, if_pos h2, if_neg h1, if_pos h2, if_neg h1, if_pos h2]
      exact wide_A u (htm.trans h2) x hx w
    · rw [if_neg h1, if_neg h2] at hx
      rw [if_neg h1, if_neg h2, if_neg h1, if_neg h2, if_neg h1, if_neg h2, if_neg h1, if_neg h2]
      exact wide_C u (by rw [beq_eq_false_iff_ne, htm]; exact h1) (by rw [beq_eq_false_iff_ne, htm]; exact h2) x hx w hT
end Go.Proofs.YtgckfilmhnapeaaGreatDoor
