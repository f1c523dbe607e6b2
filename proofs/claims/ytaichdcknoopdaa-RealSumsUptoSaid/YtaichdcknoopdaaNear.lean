/- Contracts of crucibleref05.Shape (64) and Nearest (64). -/
import Derived.Test.YtaichdcknoopdaaHalved
import Derived.Test.YtaichdcknoopdaaExact
namespace Go.Proofs.Ytaichdcknoopdaa
open Go.RowKit

theorem hv_rne (N n : Nat) (h : 0 < n) : hv N n = rne N n := by
  obtain ⟨k, rfl⟩ : ∃ k, n = k + 1 := ⟨n - 1, by omega⟩
  unfold hv rne
  rw [Nat.add_sub_cancel, Nat.pow_succ]
  generalize 2 ^ k = p
  generalize N / (p * 2) = q
  generalize N % (p * 2) = r
  by_cases h1 : p < r ∨ r = p ∧ q % 2 = 1
  · rw [if_pos h1, if_pos (by omega)]
  · rw [if_neg h1, if_neg (by omega)]

/-- steps and the place of the last bit, as the model rounds -/
def lastOf (m : Nat) (p : Int) : Int := max (p + (m.log2 : Int) - 52) (-1074)
def stepsOf (m : Nat) (p : Int) : Nat := rne (m * 2 ^ (p - lastOf m p).toNat) (lastOf m p - p).toNat

theorem nearest_steps (s : Bool) (m : Nat) (p : Int) (hm : m ≠ 0) :
    F64.nearest s m p = F64.word s (min ((lastOf m p + 1074).toNat * 4503599627370496 + stepsOf m p) 9218868437227405312) := by
  unfold Ieee.Format.nearest
  rw [if_neg hm, f64_fb, f64_lp, f64_bin, f64_inf]
  simp only []
  rw [cut_even, Nat.shiftLeft_eq]
  unfold stepsOf lastOf
  rw [show ((max (p + (m.log2 : Int) - ((52 : Nat) : Int)) (-1074) - -1074).toNat) = (max (p + (m.log2 : Int) - 52) (-1074) + 1074).toNat from by omega]
  rfl

theorem rne_le (n j b : Nat) (h : n < 2 ^ (b + j)) : rne n j ≤ 2 ^ b := by
  have h1 : n / 2 ^ j < 2 ^ b := by
    rw [Nat.div_lt_iff_lt_mul (Nat.two_pow_pos _), ← Nat.pow_add]; exact h
  unfold rne
  split <;> omega
theorem rne_ge (n j b : Nat) (h : 2 ^ (b + j) ≤ n) : 2 ^ b ≤ rne n j := by
  have h1 : 2 ^ b ≤ n / 2 ^ j := by
    rw [Nat.le_div_iff_mul_le (Nat.two_pow_pos _), ← Nat.pow_add]; exact h
  unfold rne
  omega

theorem steps_le (m : Nat) (p : Int) : stepsOf m p ≤ 9007199254740992 := by
  unfold stepsOf
  refine rne_le _ _ 53 ?_
  have h1 : m < 2 ^ (m.log2 + 1) := Nat.lt_log2_self
  have h2 : m * 2 ^ (p - lastOf m p).toNat < 2 ^ (m.log2 + 1) * 2 ^ (p - lastOf m p).toNat := Nat.mul_lt_mul_of_pos_right h1 (Nat.two_pow_pos _)
  rw [← Nat.pow_add] at h2
  refine Nat.lt_of_lt_of_le h2 (Nat.pow_le_pow_right (by decide) ?_)
  unfold lastOf
  omega
theorem steps_ge (m : Nat) (p : Int) (hm : m ≠ 0) (h : -1074 < lastOf m p) : 4503599627370496 ≤ stepsOf m p := by
  unfold stepsOf
  refine rne_ge _ _ 52 ?_
  have h1 : 2 ^ m.log2 ≤ m := Nat.log2_self_le hm
  have h2 : 2 ^ m.log2 * 2 ^ (p - lastOf m p).toNat ≤ m * 2 ^ (p - lastOf m p).toNat := Nat.mul_le_mul_right _ h1
  rw [← Nat.pow_add] at h2
  refine Nat.le_trans (Nat.pow_le_pow_right (by decide) ?_) h2
  unfold lastOf at *
  omega
theorem blen_log {m : Nat} (hm : m ≠ 0) : blen m = m.log2 + 1 := by unfold blen; rw [if_neg hm]

set_option maxRecDepth 100000 in
theorem shape64 (w : World) :
    Calls Try.prog 47 #[.int .i64 64] w fun e w' => e = .returned (.agg #[.int .i64 52, .int .i64 (-1074), .int .i64 2047]) ∧ Below w.heap.size w w' := by
  go_enter Try.func47, Try.ntmps47
  go_wp2_with fail
  refine bodyPost_ret (v := .agg #[.int .i64 52, .int .i64 (-1074), .int .i64 2047]) (by simp [results, go_sem]) rfl ⟨rfl, (Below.refl _ _).alloc (Nat.le_refl _) _⟩

theorem log2_ll (m : Nat) (hm : m ≠ 0) : m.log2 < 32 * ll m := by
  have h := lt_dig_len (b := 4294967296) (by decide) m
  unfold ll
  generalize (dig 4294967296 m).length = l at *
  rw [Nat.log2_lt hm, Nat.pow_mul, show (2 : Nat) ^ 32 = 4294967296 from by decide]
  exact h

/-- the answer, from the place and the steps -/
theorem near_out (m : Nat) (p : Int) (hm : m ≠ 0) : F64.nearest false m p = min ((lastOf m p + 1074).toNat * 4503599627370496 + stepsOf m p) 9218868437227405312 := by
  rw [nearest_steps _ _ _ hm, word_false]

set_option maxRecDepth 100000 in
set_option maxHeartbeats 4000000 in
theorem nearest_ref (A : Option Addr) (N c : Nat) (e : Int) (w : World) (hA : CanAt w A N) (hm : ll N ≤ 20000) (he0 : -100000 ≤ e) (he1 : e ≤ 100000) :
    Calls Try.prog 50 #[.int .i64 64, .slice A (ll N) c, .int .i64 e] w fun r w' => r = .returned (.int .u64 ((F64.nearest false N e : Nat) : Int)) ∧ Below w.heap.size w w' := by
  have HA := Lib.hid hA
  clear hA
  by_cases hN : N = 0
  · subst hN
    have hz : F64.nearest false 0 e = 0 := by unfold Ieee.Format.nearest; rw [if_pos rfl]; rfl
    rw [hz]
    have hb0 : blen 0 = 0 := rfl
    go_enter Try.func50, Try.ntmps50
    go_wp2_with fail
    refine (shape64 w).mono ?_
    rintro e w1 ⟨rfl, h1⟩
    have B1 := Lib.hid h1
    clear h1
    go_wp2_with fail
    refine (len_any A 0 c _ (HA.out.below (B1.out.alloc B1.out.size _)) (by omega)).mono ?_
    rw [hb0]
    rintro e w2 ⟨rfl, h1⟩
    have B2 := Lib.hid ((B1.out.alloc B1.out.size _).trans (h1.mono (B1.out.alloc B1.out.size _).size))
    clear h1
    go_wp2_with fail
    go_ret
    exact ⟨rfl, B2.out⟩
  · have hlog := log2_ll N hN
    have hbl := blen_log hN
    obtain ⟨L, hL⟩ : ∃ L, L = lastOf N e := ⟨_, rfl⟩
    obtain ⟨k, hk⟩ : ∃ k, k = stepsOf N e := ⟨_, rfl⟩
    have k1 : k ≤ 9007199254740992 := hk ▸ steps_le N e
    have k2 : -1074 < L → 4503599627370496 ≤ k := fun h => hk ▸ steps_ge N e hN (hL ▸ h)
    have OUT := Lib.hid (near_out N e hN)
    rw [← hL, ← hk] at OUT
    have hLv : L = max (e + (N.log2 : Int) - 52) (-1074) := hL
    have hkv : k = rne (N * 2 ^ (e - L).toNat) (L - e).toNat := by rw [hk]; unfold stepsOf; rw [hL]
    have K1 : L ≤ e → N * 2 ^ (e - L).toNat = k := fun h => by
      rw [hkv, show (L - e).toNat = 0 from by omega]
      have := rne_exact (N * 2 ^ (e - L).toNat) 0
      simpa using this.symm
    have K2 : ¬ L ≤ e → hv N (L - e).toNat = k := fun h => by
      rw [hkv, hv_rne _ _ (by omega), show (e - L).toNat = 0 from by omega]
      simp
    have hst : IntKind.i64.wrap ((blen N : Int) + e) = (blen N : Int) + e := IntWalk.i64_in _ (by omega)
    have hst1 : IntKind.i64.wrap ((blen N : Int) + e - 52) = (blen N : Int) + e - 52 := IntWalk.i64_in _ (by omega)
    have hst2 : IntKind.i64.wrap ((blen N : Int) + e - 52 - 1) = (blen N : Int) + e - 52 - 1 := IntWalk.i64_in _ (by omega)
    have hst3 : (if (blen N : Int) + e - 52 - 1 < -1074 then -1074 else (blen N : Int) + e - 52 - 1) = L := by rw [hLv, hbl]; split <;> omega
    have HK1 := Lib.hid K1
    have HK2 := Lib.hid K2
    have HK3 := Lib.hid k2
    have HLV := Lib.hid hLv
    have HBL := Lib.hid hbl
    clear hL hk hLv hkv K1 K2 k2 hbl
    have l1 : -1074 ≤ L := by have := HLV.out; omega
    have l2 : L ≤ 800000 := by have := HLV.out; omega
    have l3 : L - e ≤ 1000000 := by have := HLV.out; omega
    have l4 : e - L ≤ 52 := by have := HLV.out; omega
    go_enter Try.func50, Try.ntmps50
    go_wp2_with fail
    refine (shape64 w).mono ?_
    rintro e' w1 ⟨rfl, h1⟩
    have B1 := Lib.hid h1
    clear h1
    go_wp2_with fail
    obtain ⟨g, hg⟩ : ∃ g, g = w1.heap.size := ⟨_, rfl⟩
    obtain ⟨wa, hwa⟩ : ∃ x, x = w1.alloc (.cells #[.int .i64 52, .int .i64 (-1074), .int .i64 2047] 81) := ⟨_, rfl⟩
    have BA : Hid (Below w.heap.size w wa) := Lib.hid (hwa ▸ (B1.out.alloc B1.out.size _))
    have CA : ∀ i : Nat, wa.cell? ⟨g, i, none⟩ = (#[.int .i64 52, .int .i64 (-1074), .int .i64 2047] : Array Value)[i]? := by
      intro i
      rw [hwa, hg]
      exact cell_of_row _ _ _ _ _ _ (heap_alloc_new _ _)
    have hgl : g < wa.heap.size := by rw [hwa, hg]; simp
    have CF : ∀ wx : World, Below wa.heap.size wa wx → wx.cell? ⟨g, 0, none⟩ = some (.int .i64 52) ∧ wx.cell? ⟨g, 1, none⟩ = some (.int .i64 (-1074)) ∧ wx.cell? ⟨g, 2, none⟩ = some (.int .i64 2047) := fun wx h =>
      ⟨(h.cell (p := ⟨g, 0, none⟩) hgl).trans (CA 0), (h.cell (p := ⟨g, 1, none⟩) hgl).trans (CA 1), (h.cell (p := ⟨g, 2, none⟩) hgl).trans (CA 2)⟩
    rw [← hg, ← hwa]
    have HCF := Lib.hid CF
    clear CF CA hgl hg hwa
    refine (len_any A N c _ (HA.out.below BA.out) (by omega)).mono ?_
    rintro e' w2 ⟨rfl, h1⟩
    have BW := Lib.hid h1
    obtain ⟨c0, c1, c2⟩ := HCF.out w2 h1
    clear h1
    have hb0 : ((blen N : Nat) : Int) ≠ 0 := by rw [HBL.out]; omega
    have wL1 : IntKind.i64.wrap (L - e) = L - e := IntWalk.i64_in _ (by omega)
    have wL2 : IntKind.i64.wrap (e - L) = e - L := IntWalk.i64_in _ (by omega)
    have wL3 : IntKind.i64.wrap (L + 1) = L + 1 := IntWalk.i64_in _ (by omega)
    have wL4 : IntKind.i64.wrap (L + 1074) = L + 1074 := IntWalk.i64_in _ (by omega)
    have wL5 : IntKind.i64.wrap (L + 1074 + 1) = L + 1074 + 1 := IntWalk.i64_in _ (by omega)
    by_cases hle : L ≤ e
    · have hk := HK1.out hle
      obtain ⟨d, hd⟩ : ∃ d, d = (e - L).toNat := ⟨_, rfl⟩
      have hd1 : e - L = (d : Int) := by omega
      rw [← hd] at hk
      have HKK := Lib.hid hk
      clear hk hd HK1 HK2
      have SH := shl_ref A N d c w2 (HA.out.below (BA.out.trans (BW.out.mono BA.out.size))) (by omega) (by omega)
      rw [HKK.out] at SH
      have HSH := Lib.hid SH
      clear SH
      go_wp2_with fail
      refine HSH.out.mono ?_
      rintro e' w3 ⟨A3, c3, rfl, h1, -, -, h4⟩
      have R3 := Lib.hid h1
      have B3 : Hid (Below wa.heap.size wa w3) := Lib.hid (BW.out.trans (h4.mono BW.out.size))
      clear h1 h4
      go_wp2_with fail
      refine (uint_any A3 k c3 w3 R3.out (by omega)).mono ?_
      rintro e' w4 ⟨rfl, h4⟩
      have B4 : Hid (Below wa.heap.size wa w4) := Lib.hid (B3.out.trans (h4.mono B3.out.size))
      clear h4
      clear c0 c1 c2
      obtain ⟨c0, c1, c2⟩ := HCF.out w4 B4.out
      have BZ : Hid (Below w.heap.size w w4) := Lib.hid (BA.out.trans (B4.out.mono BA.out.size))
      clear HCF HSH R3 B3 B4 BW B1 HA
      by_cases hk53 : k = 9007199254740992
      · subst hk53
        have wLa : IntKind.i64.wrap (L + 1 + 1074) = L + 1 + 1074 := IntWalk.i64_in _ (by omega)
        have wLb : IntKind.i64.wrap (L + 1 + 1074 + 1) = L + 1 + 1074 + 1 := IntWalk.i64_in _ (by omega)
        by_cases hx : 972 ≤ L + 1
        · have hr : F64.nearest false N e = 9218868437227405312 := by
            rw [OUT.out]
            refine Nat.min_eq_right ?_
            omega
          have HR := Lib.hid hr
          have hge : (2047 : Int) ≤ L + 1 + 1074 + 1 := by omega
          clear hr hx
          go_wp2_with fail
          go_ret
          exact ⟨by rw [HR.out] <;> rfl, BZ.out⟩
        · have hlt : L + 1 + 1074 + 1 < (2047 : Int) := by omega
          have hr : ((F64.nearest false N e : Nat) : Int) = (L + 1 + 1074 + 1) * 4503599627370496 := by
            rw [OUT.out, Nat.min_eq_left (by omega)]
            omega
          have HR := Lib.hid hr
          clear hr hx
          go_wp2_with fail
          go_ret
          exact ⟨by rw [HR.out] <;> rfl, BZ.out⟩
      · have hk3 : k < 9007199254740992 := by omega
        have hk4 : (k : Int) < 9007199254740992 := by omega
        by_cases hk52 : k < 4503599627370496
        · have hL0 : L = -1074 := by
            have := HK3.out
            omega
          have hr : ((F64.nearest false N e : Nat) : Int) = (k : Int) := by
            rw [OUT.out, hL0, Nat.min_eq_left (by omega)]
            omega
          have HR := Lib.hid hr
          have hk5 : (k : Int) < 4503599627370496 := by omega
          have hk6 : 0 ≤ (k : Int) := by omega
          clear hr hL0 hk52 hk53 k1 hk3 OUT HK3
          try clear HKK
          generalize (k : Int) = kI at *
          go_wp2_with fail
          go_ret
          exact ⟨by rw [HR.out] <;> rfl, BZ.out⟩
        · have hk5 : (4503599627370496 : Int) ≤ k := by omega
          by_cases hx : 972 ≤ L
          · have hr : F64.nearest false N e = 9218868437227405312 := by
              rw [OUT.out]
              refine Nat.min_eq_right ?_
              omega
            have HR := Lib.hid hr
            have hge : (2047 : Int) ≤ L + 1074 + 1 := by omega
            clear hr hx hk52 hk53 k1 hk3 OUT HK3
            try clear HKK
            generalize (k : Int) = kI at *
            go_wp2_with fail
            go_ret
            exact ⟨by rw [HR.out] <;> rfl, BZ.out⟩
          · have hlt : L + 1074 + 1 < (2047 : Int) := by omega
            have hr : ((F64.nearest false N e : Nat) : Int) = (L + 1074) * 4503599627370496 + k := by
              rw [OUT.out, Nat.min_eq_left (by omega)]
              omega
            have HR := Lib.hid hr
            clear hr hx hk52 hk53 k1 hk3 OUT HK3
            try clear HKK
            generalize (k : Int) = kI at *
            go_wp2_with fail
            go_ret
            refine ⟨?_, BZ.out⟩
            rw [HR.out]
            refine congrArg (fun z => Ending.returned (Value.int IntKind.u64 z)) ?_
            omega
    · have hlt0 : e < L := by omega
      have hk := HK2.out (by omega)
      obtain ⟨d, hd⟩ : ∃ d, d = (L - e).toNat := ⟨_, rfl⟩
      have hd1 : L - e = (d : Int) := by omega
      have hd2 : 0 < d := by omega
      rw [← hd] at hk
      have hq : N / 2 ^ d < 9223372036854775808 := by
        have : N / 2 ^ d ≤ k := by rw [← hk]; unfold hv; exact Nat.le_add_right _ _
        omega
      have SH := halved_ref A N d c d w2 (HA.out.below (BA.out.trans (BW.out.mono BA.out.size))) (by omega) rfl hd2 (by omega) hq
      rw [hk] at SH
      have HSH := Lib.hid SH
      clear SH hk hq hd HK1 HK2
      go_wp2_with fail
      refine HSH.out.mono ?_
      rintro e' w4 ⟨rfl, h4⟩
      have B4 : Hid (Below wa.heap.size wa w4) := Lib.hid (BW.out.trans (h4.mono BW.out.size))
      clear h4
      clear c0 c1 c2
      obtain ⟨c0, c1, c2⟩ := HCF.out w4 B4.out
      have BZ : Hid (Below w.heap.size w w4) := Lib.hid (BA.out.trans (B4.out.mono BA.out.size))
      clear HCF HSH B4 BW B1 HA
      by_cases hk53 : k = 9007199254740992
      · subst hk53
        have wLa : IntKind.i64.wrap (L + 1 + 1074) = L + 1 + 1074 := IntWalk.i64_in _ (by omega)
        have wLb : IntKind.i64.wrap (L + 1 + 1074 + 1) = L + 1 + 1074 + 1 := IntWalk.i64_in _ (by omega)
        by_cases hx : 972 ≤ L + 1
        · have hr : F64.nearest false N e = 9218868437227405312 := by
            rw [OUT.out]
            refine Nat.min_eq_right ?_
            omega
          have HR := Lib.hid hr
          have hge : (2047 : Int) ≤ L + 1 + 1074 + 1 := by omega
          clear hr hx
          go_wp2_with fail
          go_ret
          exact ⟨by rw [HR.out] <;> rfl, BZ.out⟩
        · have hlt : L + 1 + 1074 + 1 < (2047 : Int) := by omega
          have hr : ((F64.nearest false N e : Nat) : Int) = (L + 1 + 1074 + 1) * 4503599627370496 := by
            rw [OUT.out, Nat.min_eq_left (by omega)]
            omega
          have HR := Lib.hid hr
          clear hr hx
          go_wp2_with fail
          go_ret
          exact ⟨by rw [HR.out] <;> rfl, BZ.out⟩
      · have hk3 : k < 9007199254740992 := by omega
        have hk4 : (k : Int) < 9007199254740992 := by omega
        by_cases hk52 : k < 4503599627370496
        · have hL0 : L = -1074 := by
            have := HK3.out
            omega
          have hr : ((F64.nearest false N e : Nat) : Int) = (k : Int) := by
            rw [OUT.out, hL0, Nat.min_eq_left (by omega)]
            omega
          have HR := Lib.hid hr
          have hk5 : (k : Int) < 4503599627370496 := by omega
          have hk6 : 0 ≤ (k : Int) := by omega
          clear hr hL0 hk52 hk53 k1 hk3 OUT HK3
          try clear HKK
          generalize (k : Int) = kI at *
          go_wp2_with fail
          go_ret
          exact ⟨by rw [HR.out] <;> rfl, BZ.out⟩
        · have hk5 : (4503599627370496 : Int) ≤ k := by omega
          by_cases hx : 972 ≤ L
          · have hr : F64.nearest false N e = 9218868437227405312 := by
              rw [OUT.out]
              refine Nat.min_eq_right ?_
              omega
            have HR := Lib.hid hr
            have hge : (2047 : Int) ≤ L + 1074 + 1 := by omega
            clear hr hx hk52 hk53 k1 hk3 OUT HK3
            try clear HKK
            generalize (k : Int) = kI at *
            go_wp2_with fail
            go_ret
            exact ⟨by rw [HR.out] <;> rfl, BZ.out⟩
          · have hlt : L + 1074 + 1 < (2047 : Int) := by omega
            have hr : ((F64.nearest false N e : Nat) : Int) = (L + 1074) * 4503599627370496 + k := by
              rw [OUT.out, Nat.min_eq_left (by omega)]
              omega
            have HR := Lib.hid hr
            clear hr hx hk52 hk53 k1 hk3 OUT HK3
            try clear HKK
            generalize (k : Int) = kI at *
            go_wp2_with fail
            go_ret
            refine ⟨?_, BZ.out⟩
            rw [HR.out]
            refine congrArg (fun z => Ending.returned (Value.int IntKind.u64 z)) ?_
            omega
end Go.Proofs.Ytaichdcknoopdaa
