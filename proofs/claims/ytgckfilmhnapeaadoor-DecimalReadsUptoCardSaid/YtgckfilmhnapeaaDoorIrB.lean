/- The program's ieee at uint32: Round. -/
import Derived.Test.YtgckfilmhnapeaaDoorIeB
import Derived.Test.YtgckfilmhnapeaaDoorEx0
namespace Go.Proofs.YtgckfilmhnapeaaDoor
open Go.RowKit
set_option linter.unusedVariables false

theorem inf_eq_B : (254 + 1) * 2 ^ 23 = 2139095040 := by decide
set_option maxRecDepth 100000 in
set_option maxHeartbeats 3000000 in
theorem roundF_B (neg : Bool) (A : Option Addr) (X c : Nat) (E : Int) (w : World) (hT : Tabs0 w) (hA : CanC w A c X) (hl : ll X ≤ 200000) (hE1 : -1000000000 ≤ E) (hE2 : E ≤ 1000000000) :
    Calls Tryd.prog 74 #[.bool neg, .slice A (ll X) c, .int .i64 E, .bool false] w (RoundPost .u32 23 149 254 2147483648 neg (2 * X + 0) (E - 1) w) := by
  have HO := Lib.hid (of_B w hT)
  have HLEN := Lib.hid (fun wx (hb : Below w.heap.size w wx) => plen_can A X c wx (hA.can.below hb) hA.le hA.max (by omega))
  have HSG := Lib.hid (fun s hs wx (hb : Below w.heap.size w wx) => signed_B neg s hs wx (hT.below hb))
  have HI := Lib.hid (fun wx => inf_B wx)
  have CA := Lib.hid hA
  have hbl : blen X ≤ 32 * 200000 := blen_of_ll X 200000 hl
  clear hT hA
  go_enter Tryd.func74, Tryd.ntmps74
  go_wp2_with fail
  refine HO.out.mono ?_
  rintro e w1 ⟨rfl, hb1⟩
  have hbk := Blk.new w1 121 #[.int .i64 23, .int .i64 (-149), .int .i64 8]
  have HC1 : Hid (Cells3 (w1.alloc (.cells #[.int .i64 23, .int .i64 (-149), .int .i64 8] 121)) w1.heap.size 23 (-149) 8) := Lib.hid ⟨by rw [hbk.cell 0] <;> rfl, by rw [hbk.cell 1] <;> rfl, by rw [hbk.cell 2] <;> rfl⟩
  have HB1 : Hid (Below w.heap.size w (w1.alloc (.cells #[.int .i64 23, .int .i64 (-149), .int .i64 8] 121))) := Lib.hid (hb1.alloc hb1.size _)
  have hlt : w1.heap.size < (w1.alloc (.cells #[.int .i64 23, .int .i64 (-149), .int .i64 8] 121)).heap.size := by simp
  clear hb1 hbk HO
  unfold shpV
  obtain ⟨n, hn⟩ : ∃ n, blen X = n := ⟨_, rfl⟩
  have HN := Lib.hid hn
  rw [hn] at HLEN hbl
  clear hn
  go_wp2_with fail
  refine (HLEN.out _ HB1.out).mono ?_
  rintro e w2 ⟨rfl, rfl⟩
  generalize hwb : w1.alloc (.cells #[.int .i64 23, .int .i64 (-149), .int .i64 8] 121) = w2 at *
  generalize w1.heap.size = b at *
  clear hwb HLEN
  have HSG0 : Hid (∀ wx, Below w.heap.size w wx → Calls Tryd.prog 115 #[.bool neg, .int .u64 0] wx fun e w' => e = .returned (.int .u32 (sgnN neg 0 2147483648 : Nat)) ∧ Below wx.heap.size wx w') := Lib.hid (fun wx hb => HSG.out 0 (by decide) wx hb)
  have HSGI : Hid (∀ wx, Below w.heap.size w wx → Calls Tryd.prog 115 #[.bool neg, .int .u64 2139095040] wx fun e w' => e = .returned (.int .u32 (sgnN neg 2139095040 2147483648 : Nat)) ∧ Below wx.heap.size wx w') := Lib.hid (fun wx hb => HSG.out 2139095040 (by decide) wx hb)
  obtain ⟨c0, c1, c2⟩ := HC1.out
  by_cases hX0 : X = 0
  · subst hX0
    have hn0 : n = 0 := by rw [← HN.out]; rfl
    subst hn0
    have HNI : Hid (Near 23 ((254 + 1) * 2 ^ 23) 0 ((2 * 0 + 0) * 2 ^ (E - 1 + (149 : Nat)).toNat) (2 ^ (-(E - 1 + (149 : Nat))).toNat)) := Lib.hid (near_none _ _ _ _)
    clear hbl
    go_wp2_with fail
    refine (HSG0.out _ HB1.out).mono ?_
    rintro e w4 ⟨rfl, hb4⟩
    have HB4 := Lib.hid (HB1.out.trans (hb4.mono HB1.out.size))
    clear hb4
    go_wp2_with fail
    go_ret
    exact ⟨0, rfl, HNI.out, HB4.out⟩
  have hnp : 0 < n := by rw [← HN.out]; exact blen_pos X hX0
  have hn0 : ((n : Int) == 0) = false := by rw [beq_eq_false_iff_ne]; omega

  by_cases hE2k : 2000 < E
  · have HNI : Hid (Near 23 ((254 + 1) * 2 ^ 23) 2139095040 ((2 * X + 0) * 2 ^ (E - 1 + (149 : Nat)).toNat) (2 ^ (-(E - 1 + (149 : Nat))).toNat)) := Lib.hid (by
      have h := near_hi 23 254 149 (2 * X + 0) (E - 1) (by omega) (by omega)
      rw [inf_eq_B] at h ⊢
      exact h)
    clear hbl
    go_wp2_with fail
    refine (HI.out _).mono ?_
    rintro e w3 ⟨rfl, hb3⟩
    have HB3 := Lib.hid (HB1.out.trans (hb3.mono HB1.out.size))
    clear hb3
    go_wp2_with fail
    refine (HSGI.out _ HB3.out).mono ?_
    rintro e w4 ⟨rfl, hb4⟩
    have HB4 := Lib.hid (HB3.out.trans (hb4.mono HB3.out.size))
    clear hb4
    go_wp2_with fail
    go_ret
    exact ⟨2139095040, rfl, HNI.out, HB4.out⟩
  by_cases hEl : E < -3000 - (n : Int)
  · have HNI : Hid (Near 23 ((254 + 1) * 2 ^ 23) 0 ((2 * X + 0) * 2 ^ (E - 1 + (149 : Nat)).toNat) (2 ^ (-(E - 1 + (149 : Nat))).toNat)) := Lib.hid (by
      have h1 := lt_blen X
      rw [HN.out] at h1
      exact near_lo 23 254 149 _ n (E - 1) (by rw [Nat.pow_succ]; omega) (by omega))
    clear hbl
    go_wp2_with fail
    refine (HSG0.out _ HB1.out).mono ?_
    rintro e w4 ⟨rfl, hb4⟩
    have HB4 := Lib.hid (HB1.out.trans (hb4.mono HB1.out.size))
    clear hb4
    go_wp2_with fail
    go_ret
    exact ⟨0, rfl, HNI.out, HB4.out⟩
  obtain ⟨K, hK⟩ : ∃ K, stepK 23 X (E + (149 : Nat)) = K := ⟨_, rfl⟩
  have HNR : Hid (Near 23 ((254 + 1) * 2 ^ 23) (rndS 23 254 X (E + (149 : Nat))) ((2 * X + 0) * 2 ^ (E - 1 + (149 : Nat)).toNat) (2 ^ (-(E - 1 + (149 : Nat))).toNat)) := Lib.hid (near_twice 23 254 149 X E (rndS_near 23 254 X _ (by decide) (by decide) hX0))
  have hkf := kept_facts 23 X (E + (149 : Nat)) hX0
  rw [hK] at hkf
  have HKF := Lib.hid hkf
  have hKe : (K : Int) = max ((n : Int) - 23 - 1 + E + 149) 0 := by
    have := hK
    unfold stepK at this
    rw [HN.out] at this
    omega
  have hmax : max ((n : Int) - 23 - 1 + E) (-149) = (K : Int) - 149 := by omega
  have HK := Lib.hid hK
  have HX0 := Lib.hid hX0
  have hKb : (K : Int) ≤ 7000000 := by omega
  clear hX0 hK hkf hKe
  go_wp2_with fail
  have r1 : IntKind.i64.wrap ((K : Int) - 149 - -149) = (K : Int) := by rw [show (K : Int) - 149 - -149 = (K : Int) by omega]; exact IntWalk.i64_in _ (by omega)
  have r2 : IntKind.i64.wrap (254 + 2) = 254 + 2 := by kernel_rfl
  have r3 : IntKind.i64.wrap (256 - 2) = 254 := by kernel_rfl
  have r4 : IntKind.i64.wrap 256 = 256 := by kernel_rfl
  by_cases hKW : 254 ≤ K
  · have hKWI : (254 : Int) ≤ (K : Int) := by omega
    have HRI : Hid (rndS 23 254 X (E + (149 : Nat)) = 2139095040) := Lib.hid (by unfold rndS; rw [HK.out, if_pos hKW, inf_eq_B])
    rw [HRI.out] at HNR
    have HB5 : Hid (∀ q, Below w.heap.size w (w2.drewN q)) := Lib.hid (fun q => below_drewN' HB1.out q)
    clear hmax
    go_quiet (fail)
    go_wp2_with fail
    refine (HI.out _).mono ?_
    rintro e w3 ⟨rfl, hb3⟩
    have HB3 : Hid (Below w.heap.size w w3) := Lib.hid ((HB5.out _).trans (hb3.mono (HB5.out _).size))
    clear hb3
    go_wp2_with fail
    refine (HSGI.out _ HB3.out).mono ?_
    rintro e w4 ⟨rfl, hb4⟩
    have HB4 := Lib.hid (HB3.out.trans (hb4.mono HB3.out.size))
    clear hb4
    go_wp2_with fail
    go_ret
    exact ⟨2139095040, rfl, HNR.out, HB4.out⟩
  have hKWI : ¬ (254 : Int) ≤ (K : Int) := by omega
  have HRS := Lib.hid (rndS_kept 23 254 X (E + (149 : Nat)) (by rw [HK.out]; exact hKW))
  have HB5 : Hid (∀ q, Below w.heap.size w (w2.drewN q)) := Lib.hid (fun q => below_drewN' HB1.out q)
  have HCA : Hid (∀ q, CanC (w2.drewN q) A c X) := Lib.hid (fun q => (CA.out.below HB1.out).drewN q)
  have HC5 : Hid (∀ q, Cells3 (w2.drewN q) b 23 (-149) 8) := Lib.hid (fun q => HC1.out)
  clear hmax hKW
  by_cases hKE : (K : Int) ≤ E + ((149 : Nat) : Int)
  · have hcond : (K : Int) - 149 ≤ E := by omega
    have hke : keptS 23 X (E + (149 : Nat)) = X * 2 ^ (E + (149 : Nat) - (K : Int)).toNat := by
      unfold keptS; rw [HK.out, if_pos hKE]
    have hud := up_facts64 23 X (E + (149 : Nat)) (by rw [HK.out]; exact hKE)
    rw [HN.out, HK.out] at hud
    have hX1 : X < 2 ^ (23 + 1) := by
      have := lt_blen X
      rw [HN.out] at this
      exact Nat.lt_of_lt_of_le this (Nat.pow_le_pow_right (by decide) (by rcases hud with h | h; exact h.1; exact absurd h HX0.out))
    have hX64 : X < 18446744073709551616 := Nat.lt_of_lt_of_le hX1 (by decide)
    obtain ⟨sh, hsh⟩ : ∃ sh : Nat, (E + (149 : Nat) - (K : Int)).toNat = sh := ⟨_, rfl⟩
    have hshb : sh ≤ 23 + 1 := by rcases hud with h | h; omega; exact absurd h HX0.out
    have hshI : E - ((K : Int) - 149) = (sh : Int) := by omega
    rw [hsh] at hke
    obtain ⟨ck, hck⟩ : ∃ ck, X * 2 ^ sh = ck := ⟨_, rfl⟩
    rw [hck] at hke
    have hkf1 := HKF.out.1
    rw [hke] at HKF HRS hkf1
    have hckb : ck ≤ 16777216 := Nat.le_trans hkf1 (by decide)
    have hsl : IntKind.u64.wrap ((X : Int) * 2 ^ sh) = (ck : Int) := by rw [← cast_shl, hck]; exact IntWalk.u64_in _ (by omega)
    have HUI := Lib.hid (fun wx (h : CanC wx A c X) => uint_can A X c wx h.can h.le h.max hX64)
    have HCKB := Lib.hid hckb
    have hsh0 : (0 : Int) ≤ (sh : Int) := by omega
    have hsh64 : (sh : Int) < 64 := by omega
    clear hke hud hX1 hX64 hsh hshb hck hkf1 hckb
    go_quiet (fail)
    go_wp2_with fail
    refine (HUI.out _ (HCA.out _)).mono ?_
    rintro e w3 ⟨rfl, rfl⟩
    generalize hwq : w2.drewN _ = wq
    have HBQ : Hid (Below w.heap.size w wq) := Lib.hid (by rw [← hwq]; exact HB5.out _)
    have HCQ : Hid (Cells3 wq b 23 (-149) 8) := Lib.hid (by rw [← hwq]; exact HC5.out _)
    clear hwq hcond
    obtain ⟨d0, d1, d2⟩ := HCQ.out
    by_cases hct : ck < 8388608
    · have hK0 : K = 0 := HKF.out.2 (Nat.lt_of_lt_of_le hct (by decide))
      have hfdiv : (ck : Int) / 8388608 = 0 := by omega
      have HS := Lib.hid (HSG.out ck (Nat.lt_of_lt_of_le hct (by decide)) wq HBQ.out)
      have HRF : Hid (rndS 23 254 X (E + (149 : Nat)) = ck) := Lib.hid (by rw [HRS.out, HK.out, hK0, Nat.zero_mul, Nat.zero_add])
      clear hct hK0
      obtain ⟨ci, hci⟩ : ∃ ci : Int, (ck : Int) = ci := ⟨_, rfl⟩
      rw [hci] at hfdiv HS hsl
      clear hci
      go_wp2_with fail
      refine HS.out.mono ?_
      rintro e w6 ⟨rfl, hb6⟩
      have HB6 := Lib.hid (HBQ.out.trans (hb6.mono HBQ.out.size))
      clear hb6
      go_wp2_with fail
      go_ret
      exact ⟨ck, rfl, by rw [← HRF.out]; exact HNR.out, HB6.out⟩
    · have hd0 : ck / 8388608 ≠ 0 := by
        have : 1 ≤ ck / 8388608 := (Nat.le_div_iff_mul_le (by decide)).2 (by omega)
        omega
      obtain ⟨cq, hcq⟩ : ∃ cq, ck / 8388608 = cq := ⟨_, rfl⟩
      have hfdiv : (ck : Int) / 8388608 = (cq : Int) := by rw [← hcq]; rfl
      rw [hcq] at hd0
      have hcqI : ((cq : Int) == 0) = false := by rw [beq_eq_false_iff_ne]; omega
      have hsb : K * 8388608 + ck < 2147483648 := by have := HCKB.out; omega
      have HS := Lib.hid (HSG.out (K * 8388608 + ck) hsb wq HBQ.out)
      have HRF : Hid (rndS 23 254 X (E + (149 : Nat)) = K * 8388608 + ck) := Lib.hid (by rw [HRS.out, HK.out, show (2 : Nat) ^ 23 = 8388608 from by decide])
      have s1 : IntKind.u64.wrap (K : Int) = (K : Int) := IntWalk.u64_in _ (by omega)
      have s2 : IntKind.u64.wrap ((K : Int) * 8388608) = (K : Int) * 8388608 := IntWalk.u64_in _ (by omega)
      obtain ⟨ci, hci⟩ : ∃ ci : Int, (ck : Int) = ci := ⟨_, rfl⟩
      obtain ⟨si, hsi⟩ : ∃ si : Int, ((K * 8388608 + ck : Nat) : Int) = si := ⟨_, rfl⟩
      have s3 : (K : Int) * 8388608 + ci = si := by omega
      have s4 : IntKind.u64.wrap si = si := IntWalk.u64_in _ (by omega)
      rw [hci] at hfdiv hsl
      rw [hsi] at HS
      clear hct hd0 hsb hci hsi hcq
      go_wp2_with fail
      refine HS.out.mono ?_
      rintro e w6 ⟨rfl, hb6⟩
      have HB6 := Lib.hid (HBQ.out.trans (hb6.mono HBQ.out.size))
      clear hb6
      go_wp2_with fail
      go_ret
      exact ⟨K * 8388608 + ck, rfl, by rw [← HRF.out]; exact HNR.out, HB6.out⟩
  · have hcond : ¬ (K : Int) - 149 ≤ E := by omega
    have hke : keptS 23 X (E + (149 : Nat)) = rne X ((K : Int) - (E + (149 : Nat))).toNat := by
      unfold keptS; rw [HK.out, if_neg hKE]
    have hdf := down_facts 23 X (E + (149 : Nat)) HX0.out (by rw [HK.out]; exact hKE)
    rw [HK.out] at hdf
    obtain ⟨D, hDe⟩ : ∃ D, ((K : Int) - (E + (149 : Nat))).toNat = D := ⟨_, rfl⟩
    rw [hDe] at hke hdf
    obtain ⟨d, hd⟩ : ∃ d, D = d + 1 := ⟨D - 1, by omega⟩
    have hrp := rne_prog X D hdf.2
    have hqb := hdf.1
    rw [hd, Nat.add_sub_cancel] at hqb hrp
    rw [hd] at hke
    have hdI : (K : Int) - 149 - E - 1 = (d : Int) := by omega
    have hkf1 := HKF.out.1
    obtain ⟨ck, hck⟩ : ∃ ck, keptS 23 X (E + (149 : Nat)) = ck := ⟨_, rfl⟩
    rw [hck] at HKF HRS hkf1
    have hckb : ck ≤ 16777216 := Nat.le_trans hkf1 (by decide)
    have HCKB := Lib.hid hckb
    rw [← hke, hck] at hrp
    have HRP := Lib.hid hrp
    have hq64 : X / 2 ^ d < 18446744073709551616 := Nat.lt_of_lt_of_le hqb (by decide)
    have hd0 : d ≤ 1000000000 := by omega
    have HSHR := Lib.hid (fun wx (h : CanC wx A c X) => shr_can A X c d wx h.can h.le h.max (by omega) (by omega))
    have HUI := Lib.hid (fun A' c' wx (h : CanC wx A' c' (X / 2 ^ d)) => uint_can A' (X / 2 ^ d) c' wx h.can h.le h.max hq64)
    obtain ⟨q, hq⟩ : ∃ q, X / 2 ^ d = q := ⟨_, rfl⟩
    unfold PShrPost at HSHR
    rw [hq] at HSHR HUI HRP hqb
    have hqb2 : q < 33554432 := Nat.lt_of_lt_of_le hqb (by decide)
    have hodd : bits .and .u64 (q : Int) 1 = ((q % 2 : Nat) : Int) := by
      have := u64_and_nat q 1 (by omega) (by decide)
      rw [nat_mask1] at this
      exact this
    have hodd2 : bits .and .u64 ((q / 2 : Nat) : Int) 1 = ((q / 2 % 2 : Nat) : Int) := by
      have := u64_and_nat (q / 2) 1 (by omega) (by decide)
      rw [nat_mask1] at this
      exact this
    have hhalf : (q : Int) / 2 = ((q / 2 : Nat) : Int) := by omega
    obtain ⟨rs, hrs⟩ : ∃ rs, decide (X % 2 ^ d ≠ 0) = rs := ⟨_, rfl⟩
    have HRS2 := Lib.hid hrs
    rw [hrs] at HSHR
    obtain ⟨qh, hqh⟩ : ∃ qh, q / 2 = qh := ⟨_, rfl⟩
    have hqhb : (qh : Int) < 16777216 := by omega
    rw [hqh] at hodd2 hhalf HRP
    clear hke hdf hDe hd hrp hqb hkf1 hck hckb hq64 hrs hqh hqb2
    go_quiet (fail)
    go_wp2_with fail
    refine (HSHR.out _ (HCA.out _)).mono ?_
    rintro e w5 ⟨A5, c5, rfl, hc5, hl5, hm5, hb5⟩
    have C5 := Lib.hid (CanC.mk hc5 hl5 hm5)
    have HBQ0 : Hid (Below w.heap.size w w5) := Lib.hid ((HB5.out _).trans (hb5.mono (HB5.out _).size))
    have HCQ0 : Hid (Cells3 w5 b 23 (-149) 8) := Lib.hid ⟨(hb5.cell (p := ⟨b, 0, none⟩) hlt).trans (HC5.out _).1, (hb5.cell (p := ⟨b, 1, none⟩) hlt).trans (HC5.out _).2.1, (hb5.cell (p := ⟨b, 2, none⟩) hlt).trans (HC5.out _).2.2⟩
    clear hc5 hl5 hm5 hb5
    go_wp2_with fail
    refine (HUI.out A5 c5 w5 C5.out).mono ?_
    rintro e wq0 ⟨rfl, rfl⟩
    obtain ⟨wq, rfl⟩ : ∃ wq : World, wq = w5 := ⟨_, rfl⟩
    have HBQ := HBQ0
    have HCQ := HCQ0
    rcases Nat.mod_two_eq_zero_or_one q with hqo | hqo
    · obtain rfl : qh = ck := by have := HRP.out; rw [hqo, if_neg (by omega)] at this; omega
      have ho1 : bits .and .u64 (q : Int) 1 = 0 := by rw [hodd, hqo]; rfl
      clear hqo hodd hodd2
      obtain ⟨d0, d1, d2⟩ := HCQ.out
      by_cases hct : qh < 8388608
      · have hK0 : K = 0 := HKF.out.2 (Nat.lt_of_lt_of_le hct (by decide))
        have hfdiv : (qh : Int) / 8388608 = 0 := by omega
        have HS := Lib.hid (HSG.out qh (Nat.lt_of_lt_of_le hct (by decide)) wq HBQ.out)
        have HRF : Hid (rndS 23 254 X (E + (149 : Nat)) = qh) := Lib.hid (by rw [HRS.out, HK.out, hK0, Nat.zero_mul, Nat.zero_add])
        clear hct hK0
        obtain ⟨ci, hci⟩ : ∃ ci : Int, (qh : Int) = ci := ⟨_, rfl⟩
        rw [hci] at hfdiv HS hhalf
        clear hci
        go_wp2_with fail
        refine HS.out.mono ?_
        rintro e w6 ⟨rfl, hb6⟩
        have HB6 := Lib.hid (HBQ.out.trans (hb6.mono HBQ.out.size))
        clear hb6
        go_wp2_with fail
        go_ret
        exact ⟨qh, rfl, by rw [← HRF.out]; exact HNR.out, HB6.out⟩
      · have hd0 : qh / 8388608 ≠ 0 := by
          have : 1 ≤ qh / 8388608 := (Nat.le_div_iff_mul_le (by decide)).2 (by omega)
          omega
        obtain ⟨cq, hcq⟩ : ∃ cq, qh / 8388608 = cq := ⟨_, rfl⟩
        have hfdiv : (qh : Int) / 8388608 = (cq : Int) := by rw [← hcq]; rfl
        rw [hcq] at hd0
        have hcqI : ((cq : Int) == 0) = false := by rw [beq_eq_false_iff_ne]; omega
        have hsb : K * 8388608 + qh < 2147483648 := by have := HCKB.out; omega
        have HS := Lib.hid (HSG.out (K * 8388608 + qh) hsb wq HBQ.out)
        have HRF : Hid (rndS 23 254 X (E + (149 : Nat)) = K * 8388608 + qh) := Lib.hid (by rw [HRS.out, HK.out, show (2 : Nat) ^ 23 = 8388608 from by decide])
        have s1 : IntKind.u64.wrap (K : Int) = (K : Int) := IntWalk.u64_in _ (by omega)
        have s2 : IntKind.u64.wrap ((K : Int) * 8388608) = (K : Int) * 8388608 := IntWalk.u64_in _ (by omega)
        obtain ⟨ci, hci⟩ : ∃ ci : Int, (qh : Int) = ci := ⟨_, rfl⟩
        obtain ⟨si, hsi⟩ : ∃ si : Int, ((K * 8388608 + qh : Nat) : Int) = si := ⟨_, rfl⟩
        have s3 : (K : Int) * 8388608 + ci = si := by omega
        have s4 : IntKind.u64.wrap si = si := IntWalk.u64_in _ (by omega)
        rw [hci] at hfdiv hhalf
        rw [hsi] at HS
        clear hct hd0 hsb hci hsi hcq
        go_wp2_with fail
        refine HS.out.mono ?_
        rintro e w6 ⟨rfl, hb6⟩
        have HB6 := Lib.hid (HBQ.out.trans (hb6.mono HBQ.out.size))
        clear hb6
        go_wp2_with fail
        go_ret
        exact ⟨K * 8388608 + qh, rfl, by rw [← HRF.out]; exact HNR.out, HB6.out⟩
    · have ho1 : bits .and .u64 (q : Int) 1 = 1 := by rw [hodd, hqo]; rfl
      clear hodd
      cases rs with
      | true =>
        have hsl : (qh : Int) + 1 = (ck : Int) := by have := HRP.out; rw [hqo, if_pos ⟨rfl, .inl (of_decide_eq_true HRS2.out)⟩] at this; omega
        clear hqo
        obtain ⟨d0, d1, d2⟩ := HCQ.out
        by_cases hct : ck < 8388608
        · have hK0 : K = 0 := HKF.out.2 (Nat.lt_of_lt_of_le hct (by decide))
          have hfdiv : (ck : Int) / 8388608 = 0 := by omega
          have HS := Lib.hid (HSG.out ck (Nat.lt_of_lt_of_le hct (by decide)) wq HBQ.out)
          have HRF : Hid (rndS 23 254 X (E + (149 : Nat)) = ck) := Lib.hid (by rw [HRS.out, HK.out, hK0, Nat.zero_mul, Nat.zero_add])
          clear hct hK0
          obtain ⟨ci, hci⟩ : ∃ ci : Int, (ck : Int) = ci := ⟨_, rfl⟩
          rw [hci] at hfdiv HS hsl
          clear hci
          go_wp2_with fail
          refine HS.out.mono ?_
          rintro e w6 ⟨rfl, hb6⟩
          have HB6 := Lib.hid (HBQ.out.trans (hb6.mono HBQ.out.size))
          clear hb6
          go_wp2_with fail
          go_ret
          exact ⟨ck, rfl, by rw [← HRF.out]; exact HNR.out, HB6.out⟩
        · have hd0 : ck / 8388608 ≠ 0 := by
            have : 1 ≤ ck / 8388608 := (Nat.le_div_iff_mul_le (by decide)).2 (by omega)
            omega
          obtain ⟨cq, hcq⟩ : ∃ cq, ck / 8388608 = cq := ⟨_, rfl⟩
          have hfdiv : (ck : Int) / 8388608 = (cq : Int) := by rw [← hcq]; rfl
          rw [hcq] at hd0
          have hcqI : ((cq : Int) == 0) = false := by rw [beq_eq_false_iff_ne]; omega
          have hsb : K * 8388608 + ck < 2147483648 := by have := HCKB.out; omega
          have HS := Lib.hid (HSG.out (K * 8388608 + ck) hsb wq HBQ.out)
          have HRF : Hid (rndS 23 254 X (E + (149 : Nat)) = K * 8388608 + ck) := Lib.hid (by rw [HRS.out, HK.out, show (2 : Nat) ^ 23 = 8388608 from by decide])
          have s1 : IntKind.u64.wrap (K : Int) = (K : Int) := IntWalk.u64_in _ (by omega)
          have s2 : IntKind.u64.wrap ((K : Int) * 8388608) = (K : Int) * 8388608 := IntWalk.u64_in _ (by omega)
          obtain ⟨ci, hci⟩ : ∃ ci : Int, (ck : Int) = ci := ⟨_, rfl⟩
          obtain ⟨si, hsi⟩ : ∃ si : Int, ((K * 8388608 + ck : Nat) : Int) = si := ⟨_, rfl⟩
          have s3 : (K : Int) * 8388608 + ci = si := by omega
          have s4 : IntKind.u64.wrap si = si := IntWalk.u64_in _ (by omega)
          rw [hci] at hfdiv hsl
          rw [hsi] at HS
          clear hct hd0 hsb hci hsi hcq
          go_wp2_with fail
          refine HS.out.mono ?_
          rintro e w6 ⟨rfl, hb6⟩
          have HB6 := Lib.hid (HBQ.out.trans (hb6.mono HBQ.out.size))
          clear hb6
          go_wp2_with fail
          go_ret
          exact ⟨K * 8388608 + ck, rfl, by rw [← HRF.out]; exact HNR.out, HB6.out⟩
      | false =>
        rcases Nat.mod_two_eq_zero_or_one qh with hqe | hqe
        · obtain rfl : qh = ck := by have := HRP.out; rw [hqo, if_neg (by rintro ⟨-, h | h⟩; exact (of_decide_eq_false HRS2.out) h; omega)] at this; omega
          have ho2 : bits .and .u64 (qh : Int) 1 = 0 := by rw [hodd2, hqe]; rfl
          clear hqo hqe hodd2
          obtain ⟨d0, d1, d2⟩ := HCQ.out
          by_cases hct : qh < 8388608
          · have hK0 : K = 0 := HKF.out.2 (Nat.lt_of_lt_of_le hct (by decide))
            have hfdiv : (qh : Int) / 8388608 = 0 := by omega
            have HS := Lib.hid (HSG.out qh (Nat.lt_of_lt_of_le hct (by decide)) wq HBQ.out)
            have HRF : Hid (rndS 23 254 X (E + (149 : Nat)) = qh) := Lib.hid (by rw [HRS.out, HK.out, hK0, Nat.zero_mul, Nat.zero_add])
            clear hct hK0
            obtain ⟨ci, hci⟩ : ∃ ci : Int, (qh : Int) = ci := ⟨_, rfl⟩
            rw [hci] at hfdiv HS hhalf ho2
            clear hci
            go_wp2_with fail
            refine HS.out.mono ?_
            rintro e w6 ⟨rfl, hb6⟩
            have HB6 := Lib.hid (HBQ.out.trans (hb6.mono HBQ.out.size))
            clear hb6
            go_wp2_with fail
            go_ret
            exact ⟨qh, rfl, by rw [← HRF.out]; exact HNR.out, HB6.out⟩
          · have hd0 : qh / 8388608 ≠ 0 := by
              have : 1 ≤ qh / 8388608 := (Nat.le_div_iff_mul_le (by decide)).2 (by omega)
              omega
            obtain ⟨cq, hcq⟩ : ∃ cq, qh / 8388608 = cq := ⟨_, rfl⟩
            have hfdiv : (qh : Int) / 8388608 = (cq : Int) := by rw [← hcq]; rfl
            rw [hcq] at hd0
            have hcqI : ((cq : Int) == 0) = false := by rw [beq_eq_false_iff_ne]; omega
            have hsb : K * 8388608 + qh < 2147483648 := by have := HCKB.out; omega
            have HS := Lib.hid (HSG.out (K * 8388608 + qh) hsb wq HBQ.out)
            have HRF : Hid (rndS 23 254 X (E + (149 : Nat)) = K * 8388608 + qh) := Lib.hid (by rw [HRS.out, HK.out, show (2 : Nat) ^ 23 = 8388608 from by decide])
            have s1 : IntKind.u64.wrap (K : Int) = (K : Int) := IntWalk.u64_in _ (by omega)
            have s2 : IntKind.u64.wrap ((K : Int) * 8388608) = (K : Int) * 8388608 := IntWalk.u64_in _ (by omega)
            obtain ⟨ci, hci⟩ : ∃ ci : Int, (qh : Int) = ci := ⟨_, rfl⟩
            obtain ⟨si, hsi⟩ : ∃ si : Int, ((K * 8388608 + qh : Nat) : Int) = si := ⟨_, rfl⟩
            have s3 : (K : Int) * 8388608 + ci = si := by omega
            have s4 : IntKind.u64.wrap si = si := IntWalk.u64_in _ (by omega)
            rw [hci] at hfdiv hhalf ho2
            rw [hsi] at HS
            clear hct hd0 hsb hci hsi hcq
            go_wp2_with fail
            refine HS.out.mono ?_
            rintro e w6 ⟨rfl, hb6⟩
            have HB6 := Lib.hid (HBQ.out.trans (hb6.mono HBQ.out.size))
            clear hb6
            go_wp2_with fail
            go_ret
            exact ⟨K * 8388608 + qh, rfl, by rw [← HRF.out]; exact HNR.out, HB6.out⟩
        · have hsl : (qh : Int) + 1 = (ck : Int) := by have := HRP.out; rw [hqo, if_pos ⟨rfl, .inr hqe⟩] at this; omega
          have ho2 : bits .and .u64 (qh : Int) 1 = 1 := by rw [hodd2, hqe]; rfl
          clear hqo hqe hodd2
          obtain ⟨d0, d1, d2⟩ := HCQ.out
          by_cases hct : ck < 8388608
          · have hK0 : K = 0 := HKF.out.2 (Nat.lt_of_lt_of_le hct (by decide))
            have hfdiv : (ck : Int) / 8388608 = 0 := by omega
            have HS := Lib.hid (HSG.out ck (Nat.lt_of_lt_of_le hct (by decide)) wq HBQ.out)
            have HRF : Hid (rndS 23 254 X (E + (149 : Nat)) = ck) := Lib.hid (by rw [HRS.out, HK.out, hK0, Nat.zero_mul, Nat.zero_add])
            clear hct hK0
            obtain ⟨ci, hci⟩ : ∃ ci : Int, (ck : Int) = ci := ⟨_, rfl⟩
            rw [hci] at hfdiv HS hsl
            clear hci
            go_wp2_with fail
            refine HS.out.mono ?_
            rintro e w6 ⟨rfl, hb6⟩
            have HB6 := Lib.hid (HBQ.out.trans (hb6.mono HBQ.out.size))
            clear hb6
            go_wp2_with fail
            go_ret
            exact ⟨ck, rfl, by rw [← HRF.out]; exact HNR.out, HB6.out⟩
          · have hd0 : ck / 8388608 ≠ 0 := by
              have : 1 ≤ ck / 8388608 := (Nat.le_div_iff_mul_le (by decide)).2 (by omega)
              omega
            obtain ⟨cq, hcq⟩ : ∃ cq, ck / 8388608 = cq := ⟨_, rfl⟩
            have hfdiv : (ck : Int) / 8388608 = (cq : Int) := by rw [← hcq]; rfl
            rw [hcq] at hd0
            have hcqI : ((cq : Int) == 0) = false := by rw [beq_eq_false_iff_ne]; omega
            have hsb : K * 8388608 + ck < 2147483648 := by have := HCKB.out; omega
            have HS := Lib.hid (HSG.out (K * 8388608 + ck) hsb wq HBQ.out)
            have HRF : Hid (rndS 23 254 X (E + (149 : Nat)) = K * 8388608 + ck) := Lib.hid (by rw [HRS.out, HK.out, show (2 : Nat) ^ 23 = 8388608 from by decide])
            have s1 : IntKind.u64.wrap (K : Int) = (K : Int) := IntWalk.u64_in _ (by omega)
            have s2 : IntKind.u64.wrap ((K : Int) * 8388608) = (K : Int) * 8388608 := IntWalk.u64_in _ (by omega)
            obtain ⟨ci, hci⟩ : ∃ ci : Int, (ck : Int) = ci := ⟨_, rfl⟩
            obtain ⟨si, hsi⟩ : ∃ si : Int, ((K * 8388608 + ck : Nat) : Int) = si := ⟨_, rfl⟩
            have s3 : (K : Int) * 8388608 + ci = si := by omega
            have s4 : IntKind.u64.wrap si = si := IntWalk.u64_in _ (by omega)
            rw [hci] at hfdiv hsl
            rw [hsi] at HS
            clear hct hd0 hsb hci hsi hcq
            go_wp2_with fail
            refine HS.out.mono ?_
            rintro e w6 ⟨rfl, hb6⟩
            have HB6 := Lib.hid (HBQ.out.trans (hb6.mono HBQ.out.size))
            clear hb6
            go_wp2_with fail
            go_ret
            exact ⟨K * 8388608 + ck, rfl, by rw [← HRF.out]; exact HNR.out, HB6.out⟩

set_option maxRecDepth 100000 in
set_option maxHeartbeats 3000000 in
theorem roundT_B (neg : Bool) (A : Option Addr) (X c : Nat) (E : Int) (w : World) (hT : Tabs0 w) (hA : CanC w A c X) (hl : ll X ≤ 200000) (hE1 : -1000000000 ≤ E) (hE2 : E ≤ 1000000000) :
    Calls Tryd.prog 74 #[.bool neg, .slice A (ll X) c, .int .i64 E, .bool true] w (RoundPost .u32 23 149 254 2147483648 neg (2 * X + 1) (E - 1) w) := by
  have HO := Lib.hid (of_B w hT)
  have HLEN := Lib.hid (fun wx (hb : Below w.heap.size w wx) => plen_can A X c wx (hA.can.below hb) hA.le hA.max (by omega))
  have HSG := Lib.hid (fun s hs wx (hb : Below w.heap.size w wx) => signed_B neg s hs wx (hT.below hb))
  have HI := Lib.hid (fun wx => inf_B wx)
  have CA := Lib.hid hA
  have hbl : blen X ≤ 32 * 200000 := blen_of_ll X 200000 hl
  clear hT hA
  go_enter Tryd.func74, Tryd.ntmps74
  go_wp2_with fail
  refine HO.out.mono ?_
  rintro e w1 ⟨rfl, hb1⟩
  have hbk := Blk.new w1 121 #[.int .i64 23, .int .i64 (-149), .int .i64 8]
  have HC1 : Hid (Cells3 (w1.alloc (.cells #[.int .i64 23, .int .i64 (-149), .int .i64 8] 121)) w1.heap.size 23 (-149) 8) := Lib.hid ⟨by rw [hbk.cell 0] <;> rfl, by rw [hbk.cell 1] <;> rfl, by rw [hbk.cell 2] <;> rfl⟩
  have HB1 : Hid (Below w.heap.size w (w1.alloc (.cells #[.int .i64 23, .int .i64 (-149), .int .i64 8] 121))) := Lib.hid (hb1.alloc hb1.size _)
  have hlt : w1.heap.size < (w1.alloc (.cells #[.int .i64 23, .int .i64 (-149), .int .i64 8] 121)).heap.size := by simp
  clear hb1 hbk HO
  unfold shpV
  obtain ⟨n, hn⟩ : ∃ n, blen X = n := ⟨_, rfl⟩
  have HN := Lib.hid hn
  rw [hn] at HLEN hbl
  clear hn
  go_wp2_with fail
  refine (HLEN.out _ HB1.out).mono ?_
  rintro e w2 ⟨rfl, rfl⟩
  generalize hwb : w1.alloc (.cells #[.int .i64 23, .int .i64 (-149), .int .i64 8] 121) = w2 at *
  generalize w1.heap.size = b at *
  clear hwb HLEN
  have HSG0 : Hid (∀ wx, Below w.heap.size w wx → Calls Tryd.prog 115 #[.bool neg, .int .u64 0] wx fun e w' => e = .returned (.int .u32 (sgnN neg 0 2147483648 : Nat)) ∧ Below wx.heap.size wx w') := Lib.hid (fun wx hb => HSG.out 0 (by decide) wx hb)
  have HSGI : Hid (∀ wx, Below w.heap.size w wx → Calls Tryd.prog 115 #[.bool neg, .int .u64 2139095040] wx fun e w' => e = .returned (.int .u32 (sgnN neg 2139095040 2147483648 : Nat)) ∧ Below wx.heap.size wx w') := Lib.hid (fun wx hb => HSG.out 2139095040 (by decide) wx hb)
  have hn0c : ((n : Int) == 0) = true ∨ ((n : Int) == 0) = false := by cases (n : Int) == 0 <;> simp
  rcases hn0c with hn0 | hn0
  all_goals
    obtain ⟨c0, c1, c2⟩ := HC1.out

    by_cases hE2k : 2000 < E
    · have HNI : Hid (Near 23 ((254 + 1) * 2 ^ 23) 2139095040 ((2 * X + 1) * 2 ^ (E - 1 + (149 : Nat)).toNat) (2 ^ (-(E - 1 + (149 : Nat))).toNat)) := Lib.hid (by
        have h := near_hi 23 254 149 (2 * X + 1) (E - 1) (by omega) (by omega)
        rw [inf_eq_B] at h ⊢
        exact h)
      clear hbl
      go_wp2_with fail
      refine (HI.out _).mono ?_
      rintro e w3 ⟨rfl, hb3⟩
      have HB3 := Lib.hid (HB1.out.trans (hb3.mono HB1.out.size))
      clear hb3
      go_wp2_with fail
      refine (HSGI.out _ HB3.out).mono ?_
      rintro e w4 ⟨rfl, hb4⟩
      have HB4 := Lib.hid (HB3.out.trans (hb4.mono HB3.out.size))
      clear hb4
      go_wp2_with fail
      go_ret
      exact ⟨2139095040, rfl, HNI.out, HB4.out⟩
    by_cases hEl : E < -3000 - (n : Int)
    · have HNI : Hid (Near 23 ((254 + 1) * 2 ^ 23) 0 ((2 * X + 1) * 2 ^ (E - 1 + (149 : Nat)).toNat) (2 ^ (-(E - 1 + (149 : Nat))).toNat)) := Lib.hid (by
        have h1 := lt_blen X
        rw [HN.out] at h1
        exact near_lo 23 254 149 _ n (E - 1) (by rw [Nat.pow_succ]; omega) (by omega))
      clear hbl
      go_wp2_with fail
      refine (HSG0.out _ HB1.out).mono ?_
      rintro e w4 ⟨rfl, hb4⟩
      have HB4 := Lib.hid (HB1.out.trans (hb4.mono HB1.out.size))
      clear hb4
      go_wp2_with fail
      go_ret
      exact ⟨0, rfl, HNI.out, HB4.out⟩
    have HAD := Lib.hid (fun wx (hb : Below w.heap.size w wx) => add_can A A X X c c wx (CA.out.below hb).can (CA.out.below hb).can (by omega) (by omega))
    go_wp2_with fail
    refine (HAD.out _ HB1.out).mono ?_
    rintro e w3 ⟨A3, c3, rfl, hc3, hl3, hm3, hb3⟩
    have hl3b : ll (X + X) ≤ 200001 := ll_twice X 200000 hl
    have HAD2 : Hid (Calls Tryd.prog 21 #[.slice A3 (ll (X + X)) c3, .slice (some ⟨w3.heap.size, 0, none⟩) 1 1] (w3.alloc (.cells #[.int .u32 1] 49)) (NatPost (w3.alloc (.cells #[.int .u32 1] 49)) (X + X + 1))) := Lib.hid (by
      have hcan : CanAt (w3.alloc (.cells #[.int .u32 1] 49)) A3 (X + X) := CanAt.below hc3 ((Below.refl _ _).alloc (Nat.le_refl _) _)
      have hone : Limbs (w3.alloc (.cells #[.int .u32 1] 49)) (some ⟨w3.heap.size, 0, none⟩) [1] := limbs_new w3 [1] _ (by intro y hy; rw [List.mem_singleton.1 hy]; decide)
      have := padd_any A3 (some ⟨w3.heap.size, 0, none⟩) (ll (X + X)) 1 c3 1 _ [1] _ rfl rfl hcan.limbs hone (by omega) (by decide)
      rw [lval_dig, show lval [1] = 1 from rfl] at this
      exact this)
    have HB3 : Hid (Below w.heap.size w (w3.alloc (.cells #[.int .u32 1] 49))) := Lib.hid ((HB1.out.trans (hb3.mono HB1.out.size)).alloc (by have := HB1.out.size; have := hb3.size; omega) _)
    have HC3 : Hid (Cells3 (w3.alloc (.cells #[.int .u32 1] 49)) b 23 (-149) 8) := Lib.hid (by
      have hb4 := hb3.alloc hb3.size (.cells #[.int .u32 1] 49)
      exact ⟨(hb4.cell (p := ⟨b, 0, none⟩) hlt).trans HC1.out.1, (hb4.cell (p := ⟨b, 1, none⟩) hlt).trans HC1.out.2.1, (hb4.cell (p := ⟨b, 2, none⟩) hlt).trans HC1.out.2.2⟩)
    have hlt3 : b < (w3.alloc (.cells #[.int .u32 1] 49)).heap.size := by have := hb3.size; simp; omega
    clear hc3 hl3 hm3 hb3 HAD hl3b
    go_wp2_with fail
    refine HAD2.out.mono ?_
    rintro e w4 ⟨A4, c4, rfl, hc4, hl4, hm4, hb4⟩
    have C4 := Lib.hid (CanC.mk hc4 hl4 hm4)
    have HB4' := Lib.hid (HB3.out.trans (hb4.mono HB3.out.size))
    have HC4 : Hid (Cells3 w4 b 23 (-149) 8) := Lib.hid ⟨(hb4.cell (p := ⟨b, 0, none⟩) hlt3).trans HC3.out.1, (hb4.cell (p := ⟨b, 1, none⟩) hlt3).trans HC3.out.2.1, (hb4.cell (p := ⟨b, 2, none⟩) hlt3).trans HC3.out.2.2⟩
    have hlt4 : b < w4.heap.size := Nat.lt_of_lt_of_le hlt3 hb4.size
    have HNT := Lib.hid (rndS_near 23 254 (X + X + 1) (E - 1 + (149 : Nat)) (by decide) (by decide) (Nat.succ_ne_zero _))
    have hM2 : X + X + 1 = 2 * X + 1 := by omega
    rw [hM2] at HNT
    have hbo := blen_odd X
    rw [HN.out] at hbo
    have hl4b : ll (X + X + 1) ≤ 200002 := ll_twice1 X 200000 hl
    have hblb : n ≤ 32 * 200000 := by rw [← HN.out]; exact blen_of_ll X 200000 hl
    rw [hM2] at C4 hl4b ⊢
    obtain ⟨M, hM⟩ : ∃ M, 2 * X + 1 = M := ⟨_, rfl⟩
    have hM0 : M ≠ 0 := by omega
    have HMM := Lib.hid hM
    rw [hM] at C4 HNT hbo hl4b ⊢
    obtain ⟨E1, hE1e⟩ : ∃ E1, E - 1 = E1 := ⟨_, rfl⟩
    have HE1E := Lib.hid hE1e
    rw [hE1e] at HNT
    obtain ⟨n1, hn1⟩ : ∃ n1, n + 1 = n1 := ⟨_, rfl⟩
    have hn1I : (n : Int) + 1 = (n1 : Int) := by omega
    rw [hn1] at hbo
    have HN1 := Lib.hid hbo
    have hnp : 0 < n1 := by omega
    have hbl1 : n1 ≤ 32 * 200000 + 1 := by omega
    have hE1b : -1000000001 ≤ E1 ∧ E1 ≤ 2000 ∧ -3002 - (n1 : Int) ≤ E1 := by omega
    obtain ⟨hE1c, hE1d, hE1f⟩ := hE1b
    clear hc4 hl4 hm4 hb4 hbo hM2 hM HAD2 c0 c1 c2 HC3 HB3 hlt3 hlt HC1 HB1 HN hn1 CA hblb
    obtain ⟨c0, c1, c2⟩ := HC4.out
    have HB1 := HB4'
    have HC1 := HC4
    have hlt := hlt4
    have HNR := HNT
    have hX0 := hM0
    have CA := C4
    have HN := HN1
    clear HB4' HC4 hlt4 HNT hM0 C4 HN1
    obtain ⟨K, hK⟩ : ∃ K, stepK 23 M (E1 + (149 : Nat)) = K := ⟨_, rfl⟩
    have hkf := kept_facts 23 M (E1 + (149 : Nat)) hX0
    rw [hK] at hkf
    have HKF := Lib.hid hkf
    have hKe : (K : Int) = max ((n1 : Int) - 23 - 1 + E1 + 149) 0 := by
      have := hK
      unfold stepK at this
      rw [HN.out] at this
      omega
    have hmax : max ((n1 : Int) - 23 - 1 + E1) (-149) = (K : Int) - 149 := by omega
    have HK := Lib.hid hK
    have HX0 := Lib.hid hX0
    have hKb : (K : Int) ≤ 7000000 := by omega
    clear hX0 hK hkf hKe
    go_wp2_with fail
    have r1 : IntKind.i64.wrap ((K : Int) - 149 - -149) = (K : Int) := by rw [show (K : Int) - 149 - -149 = (K : Int) by omega]; exact IntWalk.i64_in _ (by omega)
    have r2 : IntKind.i64.wrap (254 + 2) = 254 + 2 := by kernel_rfl
    have r3 : IntKind.i64.wrap (256 - 2) = 254 := by kernel_rfl
    have r4 : IntKind.i64.wrap 256 = 256 := by kernel_rfl
    by_cases hKW : 254 ≤ K
    · have hKWI : (254 : Int) ≤ (K : Int) := by omega
      have HRI : Hid (rndS 23 254 M (E1 + (149 : Nat)) = 2139095040) := Lib.hid (by unfold rndS; rw [HK.out, if_pos hKW, inf_eq_B])
      rw [HRI.out] at HNR
      have HB5 : Hid (∀ q, Below w.heap.size w (w4.drewN q)) := Lib.hid (fun q => below_drewN' HB1.out q)
      clear hmax
      go_quiet (fail)
      go_wp2_with fail
      refine (HI.out _).mono ?_
      rintro e w3 ⟨rfl, hb3⟩
      have HB3 : Hid (Below w.heap.size w w3) := Lib.hid ((HB5.out _).trans (hb3.mono (HB5.out _).size))
      clear hb3
      go_wp2_with fail
      refine (HSGI.out _ HB3.out).mono ?_
      rintro e w4 ⟨rfl, hb4⟩
      have HB4 := Lib.hid (HB3.out.trans (hb4.mono HB3.out.size))
      clear hb4
      go_wp2_with fail
      go_ret
      exact ⟨2139095040, rfl, by first | exact HNR.out | (rw [HMM.out, HE1E.out]; exact HNR.out), HB4.out⟩
    have hKWI : ¬ (254 : Int) ≤ (K : Int) := by omega
    have HRS := Lib.hid (rndS_kept 23 254 M (E1 + (149 : Nat)) (by rw [HK.out]; exact hKW))
    have HB5 : Hid (∀ q, Below w.heap.size w (w4.drewN q)) := Lib.hid (fun q => below_drewN' HB1.out q)
    have HCA : Hid (∀ q, CanC (w4.drewN q) A4 c4 M) := Lib.hid (fun q => CA.out.drewN q)
    have HC5 : Hid (∀ q, Cells3 (w4.drewN q) b 23 (-149) 8) := Lib.hid (fun q => HC1.out)
    clear hmax hKW
    by_cases hKE : (K : Int) ≤ E1 + ((149 : Nat) : Int)
    · have hcond : (K : Int) - 149 ≤ E1 := by omega
      have hke : keptS 23 M (E1 + (149 : Nat)) = M * 2 ^ (E1 + (149 : Nat) - (K : Int)).toNat := by
        unfold keptS; rw [HK.out, if_pos hKE]
      have hud := up_facts64 23 M (E1 + (149 : Nat)) (by rw [HK.out]; exact hKE)
      rw [HN.out, HK.out] at hud
      have hX1 : M < 2 ^ (23 + 1) := by
        have := lt_blen M
        rw [HN.out] at this
        exact Nat.lt_of_lt_of_le this (Nat.pow_le_pow_right (by decide) (by rcases hud with h | h; exact h.1; exact absurd h HX0.out))
      have hX64 : M < 18446744073709551616 := Nat.lt_of_lt_of_le hX1 (by decide)
      obtain ⟨sh, hsh⟩ : ∃ sh : Nat, (E1 + (149 : Nat) - (K : Int)).toNat = sh := ⟨_, rfl⟩
      have hshb : sh ≤ 23 + 1 := by rcases hud with h | h; omega; exact absurd h HX0.out
      have hshI : E1 - ((K : Int) - 149) = (sh : Int) := by omega
      rw [hsh] at hke
      obtain ⟨ck, hck⟩ : ∃ ck, M * 2 ^ sh = ck := ⟨_, rfl⟩
      rw [hck] at hke
      have hkf1 := HKF.out.1
      rw [hke] at HKF HRS hkf1
      have hckb : ck ≤ 16777216 := Nat.le_trans hkf1 (by decide)
      have hsl : IntKind.u64.wrap ((M : Int) * 2 ^ sh) = (ck : Int) := by rw [← cast_shl, hck]; exact IntWalk.u64_in _ (by omega)
      have HUI := Lib.hid (fun wx (h : CanC wx A4 c4 M) => uint_can A4 M c4 wx h.can h.le h.max hX64)
      have HCKB := Lib.hid hckb
      have hsh0 : (0 : Int) ≤ (sh : Int) := by omega
      have hsh64 : (sh : Int) < 64 := by omega
      clear hke hud hX1 hX64 hsh hshb hck hkf1 hckb
      go_quiet (fail)
      go_wp2_with fail
      refine (HUI.out _ (HCA.out _)).mono ?_
      rintro e w3 ⟨rfl, rfl⟩
      generalize hwq : w4.drewN _ = wq
      have HBQ : Hid (Below w.heap.size w wq) := Lib.hid (by rw [← hwq]; exact HB5.out _)
      have HCQ : Hid (Cells3 wq b 23 (-149) 8) := Lib.hid (by rw [← hwq]; exact HC5.out _)
      clear hwq hcond
      obtain ⟨d0, d1, d2⟩ := HCQ.out
      by_cases hct : ck < 8388608
      · have hK0 : K = 0 := HKF.out.2 (Nat.lt_of_lt_of_le hct (by decide))
        have hfdiv : (ck : Int) / 8388608 = 0 := by omega
        have HS := Lib.hid (HSG.out ck (Nat.lt_of_lt_of_le hct (by decide)) wq HBQ.out)
        have HRF : Hid (rndS 23 254 M (E1 + (149 : Nat)) = ck) := Lib.hid (by rw [HRS.out, HK.out, hK0, Nat.zero_mul, Nat.zero_add])
        clear hct hK0
        obtain ⟨ci, hci⟩ : ∃ ci : Int, (ck : Int) = ci := ⟨_, rfl⟩
        rw [hci] at hfdiv HS hsl
        clear hci
        go_wp2_with fail
        refine HS.out.mono ?_
        rintro e w6 ⟨rfl, hb6⟩
        have HB6 := Lib.hid (HBQ.out.trans (hb6.mono HBQ.out.size))
        clear hb6
        go_wp2_with fail
        go_ret
        exact ⟨ck, rfl, by rw [← HRF.out]; first | exact HNR.out | (rw [HMM.out, HE1E.out]; exact HNR.out), HB6.out⟩
      · have hd0 : ck / 8388608 ≠ 0 := by
          have : 1 ≤ ck / 8388608 := (Nat.le_div_iff_mul_le (by decide)).2 (by omega)
          omega
        obtain ⟨cq, hcq⟩ : ∃ cq, ck / 8388608 = cq := ⟨_, rfl⟩
        have hfdiv : (ck : Int) / 8388608 = (cq : Int) := by rw [← hcq]; rfl
        rw [hcq] at hd0
        have hcqI : ((cq : Int) == 0) = false := by rw [beq_eq_false_iff_ne]; omega
        have hsb : K * 8388608 + ck < 2147483648 := by have := HCKB.out; omega
        have HS := Lib.hid (HSG.out (K * 8388608 + ck) hsb wq HBQ.out)
        have HRF : Hid (rndS 23 254 M (E1 + (149 : Nat)) = K * 8388608 + ck) := Lib.hid (by rw [HRS.out, HK.out, show (2 : Nat) ^ 23 = 8388608 from by decide])
        have s1 : IntKind.u64.wrap (K : Int) = (K : Int) := IntWalk.u64_in _ (by omega)
        have s2 : IntKind.u64.wrap ((K : Int) * 8388608) = (K : Int) * 8388608 := IntWalk.u64_in _ (by omega)
        obtain ⟨ci, hci⟩ : ∃ ci : Int, (ck : Int) = ci := ⟨_, rfl⟩
        obtain ⟨si, hsi⟩ : ∃ si : Int, ((K * 8388608 + ck : Nat) : Int) = si := ⟨_, rfl⟩
        have s3 : (K : Int) * 8388608 + ci = si := by omega
        have s4 : IntKind.u64.wrap si = si := IntWalk.u64_in _ (by omega)
        rw [hci] at hfdiv hsl
        rw [hsi] at HS
        clear hct hd0 hsb hci hsi hcq
        go_wp2_with fail
        refine HS.out.mono ?_
        rintro e w6 ⟨rfl, hb6⟩
        have HB6 := Lib.hid (HBQ.out.trans (hb6.mono HBQ.out.size))
        clear hb6
        go_wp2_with fail
        go_ret
        exact ⟨K * 8388608 + ck, rfl, by rw [← HRF.out]; first | exact HNR.out | (rw [HMM.out, HE1E.out]; exact HNR.out), HB6.out⟩
    · have hcond : ¬ (K : Int) - 149 ≤ E1 := by omega
      have hke : keptS 23 M (E1 + (149 : Nat)) = rne M ((K : Int) - (E1 + (149 : Nat))).toNat := by
        unfold keptS; rw [HK.out, if_neg hKE]
      have hdf := down_facts 23 M (E1 + (149 : Nat)) HX0.out (by rw [HK.out]; exact hKE)
      rw [HK.out] at hdf
      obtain ⟨D, hDe⟩ : ∃ D, ((K : Int) - (E1 + (149 : Nat))).toNat = D := ⟨_, rfl⟩
      rw [hDe] at hke hdf
      obtain ⟨d, hd⟩ : ∃ d, D = d + 1 := ⟨D - 1, by omega⟩
      have hrp := rne_prog M D hdf.2
      have hqb := hdf.1
      rw [hd, Nat.add_sub_cancel] at hqb hrp
      rw [hd] at hke
      have hdI : (K : Int) - 149 - E1 - 1 = (d : Int) := by omega
      have hkf1 := HKF.out.1
      obtain ⟨ck, hck⟩ : ∃ ck, keptS 23 M (E1 + (149 : Nat)) = ck := ⟨_, rfl⟩
      rw [hck] at HKF HRS hkf1
      have hckb : ck ≤ 16777216 := Nat.le_trans hkf1 (by decide)
      have HCKB := Lib.hid hckb
      rw [← hke, hck] at hrp
      have HRP := Lib.hid hrp
      have hq64 : M / 2 ^ d < 18446744073709551616 := Nat.lt_of_lt_of_le hqb (by decide)
      have hd0 : d ≤ 1000000000 := by omega
      have HSHR := Lib.hid (fun wx (h : CanC wx A4 c4 M) => shr_can A4 M c4 d wx h.can h.le h.max (by omega) (by omega))
      have HUI := Lib.hid (fun A4' c4' wx (h : CanC wx A4' c4' (M / 2 ^ d)) => uint_can A4' (M / 2 ^ d) c4' wx h.can h.le h.max hq64)
      obtain ⟨q, hq⟩ : ∃ q, M / 2 ^ d = q := ⟨_, rfl⟩
      unfold PShrPost at HSHR
      rw [hq] at HSHR HUI HRP hqb
      have hqb2 : q < 33554432 := Nat.lt_of_lt_of_le hqb (by decide)
      have hodd : bits .and .u64 (q : Int) 1 = ((q % 2 : Nat) : Int) := by
        have := u64_and_nat q 1 (by omega) (by decide)
        rw [nat_mask1] at this
        exact this
      have hodd2 : bits .and .u64 ((q / 2 : Nat) : Int) 1 = ((q / 2 % 2 : Nat) : Int) := by
        have := u64_and_nat (q / 2) 1 (by omega) (by decide)
        rw [nat_mask1] at this
        exact this
      have hhalf : (q : Int) / 2 = ((q / 2 : Nat) : Int) := by omega
      obtain ⟨rs, hrs⟩ : ∃ rs, decide (M % 2 ^ d ≠ 0) = rs := ⟨_, rfl⟩
      have HRS2 := Lib.hid hrs
      rw [hrs] at HSHR
      obtain ⟨qh, hqh⟩ : ∃ qh, q / 2 = qh := ⟨_, rfl⟩
      have hqhb : (qh : Int) < 16777216 := by omega
      rw [hqh] at hodd2 hhalf HRP
      clear hke hdf hDe hd hrp hqb hkf1 hck hckb hq64 hrs hqh hqb2
      go_quiet (fail)
      go_wp2_with fail
      refine (HSHR.out _ (HCA.out _)).mono ?_
      rintro e w5 ⟨A5, c5, rfl, hc5, hl5, hm5, hb5⟩
      have C5 := Lib.hid (CanC.mk hc5 hl5 hm5)
      have HBQ0 : Hid (Below w.heap.size w w5) := Lib.hid ((HB5.out _).trans (hb5.mono (HB5.out _).size))
      have HCQ0 : Hid (Cells3 w5 b 23 (-149) 8) := Lib.hid ⟨(hb5.cell (p := ⟨b, 0, none⟩) hlt).trans (HC5.out _).1, (hb5.cell (p := ⟨b, 1, none⟩) hlt).trans (HC5.out _).2.1, (hb5.cell (p := ⟨b, 2, none⟩) hlt).trans (HC5.out _).2.2⟩
      clear hc5 hl5 hm5 hb5
      go_wp2_with fail
      refine (HUI.out A5 c5 w5 C5.out).mono ?_
      rintro e wq0 ⟨rfl, rfl⟩
      obtain ⟨wq, rfl⟩ : ∃ wq : World, wq = w5 := ⟨_, rfl⟩
      have HBQ := HBQ0
      have HCQ := HCQ0
      rcases Nat.mod_two_eq_zero_or_one q with hqo | hqo
      · obtain rfl : qh = ck := by have := HRP.out; rw [hqo, if_neg (by omega)] at this; omega
        have ho1 : bits .and .u64 (q : Int) 1 = 0 := by rw [hodd, hqo]; rfl
        clear hqo hodd hodd2
        obtain ⟨d0, d1, d2⟩ := HCQ.out
        by_cases hct : qh < 8388608
        · have hK0 : K = 0 := HKF.out.2 (Nat.lt_of_lt_of_le hct (by decide))
          have hfdiv : (qh : Int) / 8388608 = 0 := by omega
          have HS := Lib.hid (HSG.out qh (Nat.lt_of_lt_of_le hct (by decide)) wq HBQ.out)
          have HRF : Hid (rndS 23 254 M (E1 + (149 : Nat)) = qh) := Lib.hid (by rw [HRS.out, HK.out, hK0, Nat.zero_mul, Nat.zero_add])
          clear hct hK0
          obtain ⟨ci, hci⟩ : ∃ ci : Int, (qh : Int) = ci := ⟨_, rfl⟩
          rw [hci] at hfdiv HS hhalf
          clear hci
          go_wp2_with fail
          refine HS.out.mono ?_
          rintro e w6 ⟨rfl, hb6⟩
          have HB6 := Lib.hid (HBQ.out.trans (hb6.mono HBQ.out.size))
          clear hb6
          go_wp2_with fail
          go_ret
          exact ⟨qh, rfl, by rw [← HRF.out]; first | exact HNR.out | (rw [HMM.out, HE1E.out]; exact HNR.out), HB6.out⟩
        · have hd0 : qh / 8388608 ≠ 0 := by
            have : 1 ≤ qh / 8388608 := (Nat.le_div_iff_mul_le (by decide)).2 (by omega)
            omega
          obtain ⟨cq, hcq⟩ : ∃ cq, qh / 8388608 = cq := ⟨_, rfl⟩
          have hfdiv : (qh : Int) / 8388608 = (cq : Int) := by rw [← hcq]; rfl
          rw [hcq] at hd0
          have hcqI : ((cq : Int) == 0) = false := by rw [beq_eq_false_iff_ne]; omega
          have hsb : K * 8388608 + qh < 2147483648 := by have := HCKB.out; omega
          have HS := Lib.hid (HSG.out (K * 8388608 + qh) hsb wq HBQ.out)
          have HRF : Hid (rndS 23 254 M (E1 + (149 : Nat)) = K * 8388608 + qh) := Lib.hid (by rw [HRS.out, HK.out, show (2 : Nat) ^ 23 = 8388608 from by decide])
          have s1 : IntKind.u64.wrap (K : Int) = (K : Int) := IntWalk.u64_in _ (by omega)
          have s2 : IntKind.u64.wrap ((K : Int) * 8388608) = (K : Int) * 8388608 := IntWalk.u64_in _ (by omega)
          obtain ⟨ci, hci⟩ : ∃ ci : Int, (qh : Int) = ci := ⟨_, rfl⟩
          obtain ⟨si, hsi⟩ : ∃ si : Int, ((K * 8388608 + qh : Nat) : Int) = si := ⟨_, rfl⟩
          have s3 : (K : Int) * 8388608 + ci = si := by omega
          have s4 : IntKind.u64.wrap si = si := IntWalk.u64_in _ (by omega)
          rw [hci] at hfdiv hhalf
          rw [hsi] at HS
          clear hct hd0 hsb hci hsi hcq
          go_wp2_with fail
          refine HS.out.mono ?_
          rintro e w6 ⟨rfl, hb6⟩
          have HB6 := Lib.hid (HBQ.out.trans (hb6.mono HBQ.out.size))
          clear hb6
          go_wp2_with fail
          go_ret
          exact ⟨K * 8388608 + qh, rfl, by rw [← HRF.out]; first | exact HNR.out | (rw [HMM.out, HE1E.out]; exact HNR.out), HB6.out⟩
      · have ho1 : bits .and .u64 (q : Int) 1 = 1 := by rw [hodd, hqo]; rfl
        clear hodd
        cases rs with
        | true =>
          have hsl : (qh : Int) + 1 = (ck : Int) := by have := HRP.out; rw [hqo, if_pos ⟨rfl, .inl (of_decide_eq_true HRS2.out)⟩] at this; omega
          clear hqo
          obtain ⟨d0, d1, d2⟩ := HCQ.out
          by_cases hct : ck < 8388608
          · have hK0 : K = 0 := HKF.out.2 (Nat.lt_of_lt_of_le hct (by decide))
            have hfdiv : (ck : Int) / 8388608 = 0 := by omega
            have HS := Lib.hid (HSG.out ck (Nat.lt_of_lt_of_le hct (by decide)) wq HBQ.out)
            have HRF : Hid (rndS 23 254 M (E1 + (149 : Nat)) = ck) := Lib.hid (by rw [HRS.out, HK.out, hK0, Nat.zero_mul, Nat.zero_add])
            clear hct hK0
            obtain ⟨ci, hci⟩ : ∃ ci : Int, (ck : Int) = ci := ⟨_, rfl⟩
            rw [hci] at hfdiv HS hsl
            clear hci
            go_wp2_with fail
            refine HS.out.mono ?_
            rintro e w6 ⟨rfl, hb6⟩
            have HB6 := Lib.hid (HBQ.out.trans (hb6.mono HBQ.out.size))
            clear hb6
            go_wp2_with fail
            go_ret
            exact ⟨ck, rfl, by rw [← HRF.out]; first | exact HNR.out | (rw [HMM.out, HE1E.out]; exact HNR.out), HB6.out⟩
          · have hd0 : ck / 8388608 ≠ 0 := by
              have : 1 ≤ ck / 8388608 := (Nat.le_div_iff_mul_le (by decide)).2 (by omega)
              omega
            obtain ⟨cq, hcq⟩ : ∃ cq, ck / 8388608 = cq := ⟨_, rfl⟩
            have hfdiv : (ck : Int) / 8388608 = (cq : Int) := by rw [← hcq]; rfl
            rw [hcq] at hd0
            have hcqI : ((cq : Int) == 0) = false := by rw [beq_eq_false_iff_ne]; omega
            have hsb : K * 8388608 + ck < 2147483648 := by have := HCKB.out; omega
            have HS := Lib.hid (HSG.out (K * 8388608 + ck) hsb wq HBQ.out)
            have HRF : Hid (rndS 23 254 M (E1 + (149 : Nat)) = K * 8388608 + ck) := Lib.hid (by rw [HRS.out, HK.out, show (2 : Nat) ^ 23 = 8388608 from by decide])
            have s1 : IntKind.u64.wrap (K : Int) = (K : Int) := IntWalk.u64_in _ (by omega)
            have s2 : IntKind.u64.wrap ((K : Int) * 8388608) = (K : Int) * 8388608 := IntWalk.u64_in _ (by omega)
            obtain ⟨ci, hci⟩ : ∃ ci : Int, (ck : Int) = ci := ⟨_, rfl⟩
            obtain ⟨si, hsi⟩ : ∃ si : Int, ((K * 8388608 + ck : Nat) : Int) = si := ⟨_, rfl⟩
            have s3 : (K : Int) * 8388608 + ci = si := by omega
            have s4 : IntKind.u64.wrap si = si := IntWalk.u64_in _ (by omega)
            rw [hci] at hfdiv hsl
            rw [hsi] at HS
            clear hct hd0 hsb hci hsi hcq
            go_wp2_with fail
            refine HS.out.mono ?_
            rintro e w6 ⟨rfl, hb6⟩
            have HB6 := Lib.hid (HBQ.out.trans (hb6.mono HBQ.out.size))
            clear hb6
            go_wp2_with fail
            go_ret
            exact ⟨K * 8388608 + ck, rfl, by rw [← HRF.out]; first | exact HNR.out | (rw [HMM.out, HE1E.out]; exact HNR.out), HB6.out⟩
        | false =>
          rcases Nat.mod_two_eq_zero_or_one qh with hqe | hqe
          · obtain rfl : qh = ck := by have := HRP.out; rw [hqo, if_neg (by rintro ⟨-, h | h⟩; exact (of_decide_eq_false HRS2.out) h; omega)] at this; omega
            have ho2 : bits .and .u64 (qh : Int) 1 = 0 := by rw [hodd2, hqe]; rfl
            clear hqo hqe hodd2
            obtain ⟨d0, d1, d2⟩ := HCQ.out
            by_cases hct : qh < 8388608
            · have hK0 : K = 0 := HKF.out.2 (Nat.lt_of_lt_of_le hct (by decide))
              have hfdiv : (qh : Int) / 8388608 = 0 := by omega
              have HS := Lib.hid (HSG.out qh (Nat.lt_of_lt_of_le hct (by decide)) wq HBQ.out)
              have HRF : Hid (rndS 23 254 M (E1 + (149 : Nat)) = qh) := Lib.hid (by rw [HRS.out, HK.out, hK0, Nat.zero_mul, Nat.zero_add])
              clear hct hK0
              obtain ⟨ci, hci⟩ : ∃ ci : Int, (qh : Int) = ci := ⟨_, rfl⟩
              rw [hci] at hfdiv HS hhalf ho2
              clear hci
              go_wp2_with fail
              refine HS.out.mono ?_
              rintro e w6 ⟨rfl, hb6⟩
              have HB6 := Lib.hid (HBQ.out.trans (hb6.mono HBQ.out.size))
              clear hb6
              go_wp2_with fail
              go_ret
              exact ⟨qh, rfl, by rw [← HRF.out]; first | exact HNR.out | (rw [HMM.out, HE1E.out]; exact HNR.out), HB6.out⟩
            · have hd0 : qh / 8388608 ≠ 0 := by
                have : 1 ≤ qh / 8388608 := (Nat.le_div_iff_mul_le (by decide)).2 (by omega)
                omega
              obtain ⟨cq, hcq⟩ : ∃ cq, qh / 8388608 = cq := ⟨_, rfl⟩
              have hfdiv : (qh : Int) / 8388608 = (cq : Int) := by rw [← hcq]; rfl
              rw [hcq] at hd0
              have hcqI : ((cq : Int) == 0) = false := by rw [beq_eq_false_iff_ne]; omega
              have hsb : K * 8388608 + qh < 2147483648 := by have := HCKB.out; omega
              have HS := Lib.hid (HSG.out (K * 8388608 + qh) hsb wq HBQ.out)
              have HRF : Hid (rndS 23 254 M (E1 + (149 : Nat)) = K * 8388608 + qh) := Lib.hid (by rw [HRS.out, HK.out, show (2 : Nat) ^ 23 = 8388608 from by decide])
              have s1 : IntKind.u64.wrap (K : Int) = (K : Int) := IntWalk.u64_in _ (by omega)
              have s2 : IntKind.u64.wrap ((K : Int) * 8388608) = (K : Int) * 8388608 := IntWalk.u64_in _ (by omega)
              obtain ⟨ci, hci⟩ : ∃ ci : Int, (qh : Int) = ci := ⟨_, rfl⟩
              obtain ⟨si, hsi⟩ : ∃ si : Int, ((K * 8388608 + qh : Nat) : Int) = si := ⟨_, rfl⟩
              have s3 : (K : Int) * 8388608 + ci = si := by omega
              have s4 : IntKind.u64.wrap si = si := IntWalk.u64_in _ (by omega)
              rw [hci] at hfdiv hhalf ho2
              rw [hsi] at HS
              clear hct hd0 hsb hci hsi hcq
              go_wp2_with fail
              refine HS.out.mono ?_
              rintro e w6 ⟨rfl, hb6⟩
              have HB6 := Lib.hid (HBQ.out.trans (hb6.mono HBQ.out.size))
              clear hb6
              go_wp2_with fail
              go_ret
              exact ⟨K * 8388608 + qh, rfl, by rw [← HRF.out]; first | exact HNR.out | (rw [HMM.out, HE1E.out]; exact HNR.out), HB6.out⟩
          · have hsl : (qh : Int) + 1 = (ck : Int) := by have := HRP.out; rw [hqo, if_pos ⟨rfl, .inr hqe⟩] at this; omega
            have ho2 : bits .and .u64 (qh : Int) 1 = 1 := by rw [hodd2, hqe]; rfl
            clear hqo hqe hodd2
            obtain ⟨d0, d1, d2⟩ := HCQ.out
            by_cases hct : ck < 8388608
            · have hK0 : K = 0 := HKF.out.2 (Nat.lt_of_lt_of_le hct (by decide))
              have hfdiv : (ck : Int) / 8388608 = 0 := by omega
              have HS := Lib.hid (HSG.out ck (Nat.lt_of_lt_of_le hct (by decide)) wq HBQ.out)
              have HRF : Hid (rndS 23 254 M (E1 + (149 : Nat)) = ck) := Lib.hid (by rw [HRS.out, HK.out, hK0, Nat.zero_mul, Nat.zero_add])
              clear hct hK0
              obtain ⟨ci, hci⟩ : ∃ ci : Int, (ck : Int) = ci := ⟨_, rfl⟩
              rw [hci] at hfdiv HS hsl
              clear hci
              go_wp2_with fail
              refine HS.out.mono ?_
              rintro e w6 ⟨rfl, hb6⟩
              have HB6 := Lib.hid (HBQ.out.trans (hb6.mono HBQ.out.size))
              clear hb6
              go_wp2_with fail
              go_ret
              exact ⟨ck, rfl, by rw [← HRF.out]; first | exact HNR.out | (rw [HMM.out, HE1E.out]; exact HNR.out), HB6.out⟩
            · have hd0 : ck / 8388608 ≠ 0 := by
                have : 1 ≤ ck / 8388608 := (Nat.le_div_iff_mul_le (by decide)).2 (by omega)
                omega
              obtain ⟨cq, hcq⟩ : ∃ cq, ck / 8388608 = cq := ⟨_, rfl⟩
              have hfdiv : (ck : Int) / 8388608 = (cq : Int) := by rw [← hcq]; rfl
              rw [hcq] at hd0
              have hcqI : ((cq : Int) == 0) = false := by rw [beq_eq_false_iff_ne]; omega
              have hsb : K * 8388608 + ck < 2147483648 := by have := HCKB.out; omega
              have HS := Lib.hid (HSG.out (K * 8388608 + ck) hsb wq HBQ.out)
              have HRF : Hid (rndS 23 254 M (E1 + (149 : Nat)) = K * 8388608 + ck) := Lib.hid (by rw [HRS.out, HK.out, show (2 : Nat) ^ 23 = 8388608 from by decide])
              have s1 : IntKind.u64.wrap (K : Int) = (K : Int) := IntWalk.u64_in _ (by omega)
              have s2 : IntKind.u64.wrap ((K : Int) * 8388608) = (K : Int) * 8388608 := IntWalk.u64_in _ (by omega)
              obtain ⟨ci, hci⟩ : ∃ ci : Int, (ck : Int) = ci := ⟨_, rfl⟩
              obtain ⟨si, hsi⟩ : ∃ si : Int, ((K * 8388608 + ck : Nat) : Int) = si := ⟨_, rfl⟩
              have s3 : (K : Int) * 8388608 + ci = si := by omega
              have s4 : IntKind.u64.wrap si = si := IntWalk.u64_in _ (by omega)
              rw [hci] at hfdiv hsl
              rw [hsi] at HS
              clear hct hd0 hsb hci hsi hcq
              go_wp2_with fail
              refine HS.out.mono ?_
              rintro e w6 ⟨rfl, hb6⟩
              have HB6 := Lib.hid (HBQ.out.trans (hb6.mono HBQ.out.size))
              clear hb6
              go_wp2_with fail
              go_ret
              exact ⟨K * 8388608 + ck, rfl, by rw [← HRF.out]; first | exact HNR.out | (rw [HMM.out, HE1E.out]; exact HNR.out), HB6.out⟩

end Go.Proofs.YtgckfilmhnapeaaDoor
