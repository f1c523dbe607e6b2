/- The program's decimal at uint32: Read. -/
import Derived.Test.YtgckfilmhnapeaaDoorEx0
import Derived.Test.YtgckfilmhnapeaaDoorIrB
namespace Go.Proofs.YtgckfilmhnapeaaDoor
open Go.RowKit Go.Lib
set_option linter.unusedVariables false

set_option maxRecDepth 100000 in
theorem dsigned_B (neg : Bool) (w : World) :
    Calls Tryd.prog 73 #[.bool neg, .int .u32 0] w fun e w' => e = .returned (.int .u32 (sgnN neg 0 2147483648 : Nat)) ∧ w = w' := by
  have sg : IntKind.u32.signed = false := by kernel_rfl
  have mx : IntKind.u32.max = 4294967295 := by kernel_rfl
  have x1 : bits .xor .u32 4294967295 0 = 4294967295 := by kernel_rfl
  have x2 : bits .xor .u32 4294967295 2147483647 = 2147483648 := by kernel_rfl
  have x3 : bits .or .u32 0 2147483648 = 2147483648 := by kernel_rfl
  cases neg with
  | false =>
    go_enter Tryd.func73, Tryd.ntmps73
    go_wp2_with fail
    go_ret
    exact ⟨rfl, rfl⟩
  | true =>
    go_enter Tryd.func73, Tryd.ntmps73
    go_wp2_with fail
    go_ret
    exact ⟨rfl, rfl⟩
set_option maxRecDepth 100000 in
theorem dread_no_B (neg : Bool) (s : ByteArray) (p : Int) (w : World) (hf : fineB s = false) :
    Calls Tryd.prog 40 #[.agg #[.bool neg, .string s, .int .i64 p]] w fun e w' => e = .returned (.tuple #[.int .u32 0, .bool false]) ∧ Below w.heap.size w w' := by
  have HF := Lib.hid (fun wx => fine_any neg s p wx)
  rw [hf] at HF
  clear hf
  go_enter Tryd.func40, Tryd.ntmps40
  go_wp2_with fail
  refine (HF.out _).mono ?_
  rintro e w1 ⟨rfl, hb1⟩
  have HB := Lib.hid (((Below.refl w.heap.size w).alloc (Nat.le_refl _) (.cells #[.bool neg, .string s, .int .i64 p] 23)).trans (hb1.mono (by simp)))
  clear hb1
  go_wp2_with fail
  go_ret2
  exact ⟨rfl, HB.out⟩
set_option maxRecDepth 100000 in
set_option maxHeartbeats 4000000 in
theorem dread_B (neg : Bool) (s : ByteArray) (p : Int) (w : World) (hT : Tabs0 w) (hf : fineB s = true) (hs : s.size ≤ 140737488355328) (hp1 : -9223372036854775808 ≤ p) (hp2 : p ≤ 9223372036854775807) :
    Calls Tryd.prog 40 #[.agg #[.bool neg, .string s, .int .i64 p]] w (DRPost .u32 23 149 254 2147483648 neg (nval s.data.toList) (p - s.data.toList.length) w) := by
  have HF := Lib.hid (fun wx => fine_any neg s p wx)
  rw [hf] at HF
  have HFB := Lib.hid hf
  have HPL := Lib.hid (fun wx => plain_any s wx (by omega))
  have HSG := Lib.hid (fun wx => dsigned_B neg wx)
  have HT := Lib.hid hT
  have hld := lead_le s.data.toList
  rw [bytes_len] at hld
  clear hf hT
  go_enter Tryd.func40, Tryd.ntmps40
  go_wp2_with fail
  have HN := Lib.hid (dgC_new w neg s p 23)
  have HBN : Hid (Below w.heap.size w (w.alloc (.cells #[.bool neg, .string s, .int .i64 p] 23))) := Lib.hid ((Below.refl w.heap.size w).alloc (Nat.le_refl _) _)
  refine (HF.out _).mono ?_
  rintro e w1 ⟨rfl, hb1⟩
  have HC1 := Lib.hid (HN.out.below hb1)
  have HB1 := Lib.hid (HBN.out.trans (hb1.mono HBN.out.size))
  clear hb1 HN HBN HF
  obtain ⟨c0, c1, c2, clt⟩ := HC1.out
  go_wp2_with fail
  refine (HPL.out _).mono ?_
  rintro e w2 ⟨rfl, hw2⟩
  subst hw2
  have HSPEC : Hid (∀ sz, RdSpec 23 149 254 (nval (plainS s).data.toList) (p - leadL s.data.toList - (plainS s).data.toList.length) sz → RdSpec 23 149 254 (nval s.data.toList) (p - s.data.toList.length) sz) := Lib.hid (fun sz h => rd_of_plain s.data.toList p h)
  have HFT : Hid (fineB (plainS s) = true) := Lib.hid (plain_fine _ HFB.out)
  have HFST : Hid (∀ h : 0 < (plainS s).size, (plainS s)[0] ≠ 48) := Lib.hid (fun h => plain_first s h)
  have HLAST : Hid (∀ x c, (plainS s).data.toList = x ++ [c] → c ≠ 48) := Lib.hid (fun x c h => (plain_parts s.data.toList).choose_spec.2.2 x c h)
  have htsz := plainS_size s
  generalize plainS s = t at *
  generalize leadL s.data.toList = ld at *
  clear HPL HFB
  have HTLN := Lib.hid (bytes_len t)
  by_cases ht0 : t.size = 0
  · obtain rfl : t = ⟨#[]⟩ := ba_empty t ht0
    have HR := Lib.hid (HSPEC.out 0 (rd_none _ _ _ _))
    clear ht0 HSPEC HFT HFST HLAST HTLN htsz
    go_wp2_with fail
    refine (HSG.out _).mono ?_
    rintro e w2 ⟨rfl, rfl⟩
    go_wp2_with fail
    go_ret2
    exact ⟨0, rfl, HR.out, HB1.out⟩
  have hne : t.toList.isEmpty = false := str_ne t (by omega)
  have hltm : Hid (nval t.data.toList < 10 ^ t.size) := Lib.hid (by
    have := nval_lt t.data.toList (digits_of_fine _ HFT.out)
    rw [HTLN.out] at this; exact this)
  have hgem : Hid (10 ^ (t.size - 1) ≤ nval t.data.toList) := Lib.hid (nval_first t (by omega) (HFST.out (by omega)) HFT.out)
  by_cases hpl : p < -400
  · have HR : Hid (RdSpec 23 149 254 (nval s.data.toList) (p - s.data.toList.length) 0) := Lib.hid (HSPEC.out 0 (by rw [HTLN.out]; exact rd_low _ _ _ _ t.size _ (by decide) hltm.out (by omega)))
    clear HSPEC HFT HFST HLAST HTLN
    go_wp2_with fail
    refine (HSG.out _).mono ?_
    rintro e w2 ⟨rfl, rfl⟩
    go_wp2_with fail
    go_ret2
    exact ⟨0, rfl, HR.out, HB1.out⟩
  by_cases hph : 400 < p - ld
  · have HR : Hid (RdSpec 23 149 254 (nval s.data.toList) (p - s.data.toList.length) ((254 + 1) * 2 ^ 23)) := Lib.hid (HSPEC.out _ (by rw [HTLN.out]; exact rd_high _ _ _ _ t.size _ (by decide) (by omega) hgem.out (by omega)))
    clear HSPEC HFT HFST HLAST HTLN
    have HONE : Hid (∀ wx : World, CanC (wx.alloc (.cells #[.int .u32 1] 49)) (some ⟨wx.heap.size, 0, none⟩) 1 1) := Lib.hid (fun wx => one_can wx)
    have HRD : Hid (∀ wx : World, Below w.heap.size w wx → Calls Tryd.prog 74 #[.bool neg, .slice (some ⟨wx.heap.size, 0, none⟩) 1 1, .int .i64 9999, .bool false] (wx.alloc (.cells #[.int .u32 1] 49)) (RoundPost .u32 23 149 254 2147483648 neg (2 * 1 + 0) (9999 - 1) (wx.alloc (.cells #[.int .u32 1] 49)))) := Lib.hid (fun wx hb => by
      have hh := roundF_B neg (some ⟨wx.heap.size, 0, none⟩) 1 1 9999 (wx.alloc (.cells #[.int .u32 1] 49)) (HT.out.below (hb.alloc hb.size _)) (HONE.out wx) (by rw [ll_1]; decide) (by decide) (by decide)
      rw [ll_1] at hh
      exact hh)
    go_wp2_with fail
    refine (HRD.out _ HB1.out).mono ?_
    rintro e w2 ⟨sz, rfl, hnr, hb2⟩
    have HB2 := Lib.hid ((HB1.out.alloc HB1.out.size _).trans (hb2.mono (by have := HB1.out.size; simp; omega)))
    have hsz : sz = (254 + 1) * 2 ^ 23 := hnr.unique (near_hi 23 254 149 (2 * 1 + 0) (9999 - 1) (by decide) (by decide)) (Nat.two_pow_pos _)
    have HSZ := Lib.hid hsz
    clear hnr hb2 hsz
    go_wp2_with fail
    go_ret2
    exact ⟨sz, rfl, by rw [HSZ.out]; exact HR.out, HB2.out⟩
  by_cases hpz : p - ld < -400
  · have HR : Hid (RdSpec 23 149 254 (nval s.data.toList) (p - s.data.toList.length) 0) := Lib.hid (HSPEC.out 0 (by rw [HTLN.out]; exact rd_low _ _ _ _ t.size _ (by decide) hltm.out (by omega)))
    clear HSPEC HFT HFST HLAST HTLN
    go_wp2_with fail
    refine (HSG.out _).mono ?_
    rintro e w2 ⟨rfl, rfl⟩
    go_wp2_with fail
    go_ret2
    exact ⟨0, rfl, HR.out, HB1.out⟩
  have hmp : nval t.data.toList ≠ 0 := by have := hgem.out; have := ten_pos (t.size - 1); omega
  by_cases hL : 800 < t.size
  · have hLI : (800 : Int) < (t.size : Int) := by omega
    have hLD2 : decide (800 < t.size) = true := decide_eq_true hL
    obtain ⟨g1, g2, g3, g4, g5, g6, g7⟩ := cut_facts t 800 (by decide) hL HFT.out (HFST.out (by omega)) HLAST.out
    have HQR := Lib.hid (fun wx => qread_any (t.extract 0 800) wx g3 (by omega) (g4 (by omega)) (by omega))
    have hge8 := nval_first (t.extract 0 800) (by omega) (g4 (by omega)) g3
    have hlt8 := nval_lt _ (digits_of_fine _ g3)
    rw [g2] at hlt8
    have G5 := Lib.hid g5
    have G6 := Lib.hid g6
    have G7 := Lib.hid g7
    have h8a : (t.extract 0 800).size ≤ 800 := by omega
    have h8b : 800 ≤ (t.extract 0 800).size := by omega
    have hbig := pow2_big 23 149 ((t.extract 0 800).size - 1) _ (by decide) (by decide) (by omega) hge8
    have HBIG := Lib.hid hbig
    clear c1 g1 g2 g3 g4 g5 g6 g7 hbig
    obtain ⟨-, c1, -, -⟩ := HC1.out
    go_wp2_with fail
    refine (HQR.out _).mono ?_
    rintro e w3 ⟨A3, c3, rfl, hca, hla, hma, hba⟩
    have C3 := Lib.hid (CanC.mk hca hla hma)
    have HC3 := Lib.hid (HC1.out.below hba)
    have HB3 := Lib.hid (HB1.out.trans (hba.mono HB1.out.size))
    clear hca hla hma hba HQR c0 c1 c2 clt HC1 HB1
    generalize t.extract 0 800 = t8 at *
    obtain ⟨z, hz⟩ : ∃ z, z = t8.size := ⟨_, rfl⟩
    obtain ⟨lm, lbm⟩ := ten_ll (nval t8.data.toList) z (by rw [hz]; have := ten_pos t8.size; have h := hlt8; rw [show (800 : Nat) = t8.size by omega] at h; omega)
    have hm0 : nval t8.data.toList ≠ 0 := by have := ten_pos (t8.size - 1); omega
    have HMP := Lib.hid hm0
    have hzb : z ≤ 800 := by omega
    clear hge8 hlt8 hz hm0 hmp
    rw [G5.out, HTLN.out] at HSPEC
    generalize nval t8.data.toList = m at *
    generalize nval (t.data.toList.drop 800) = R at *
    obtain ⟨c0, c1, c2, clt⟩ := HC3.out
    obtain ⟨P, hn⟩ : ∃ P : Nat, p - ld - t8.size = -(P : Int) := ⟨(-(p - ld - t8.size)).toNat, by omega⟩
    have hPb : P ≤ 1200 := by omega
    have hP1 : (1 : Int) ≤ (P : Int) := by omega
    have HSPM : Hid (∀ sz q up : Nat, 2 ^ (23 + 1) ≤ q → q * 10 ^ P ≤ m * 2 ^ up → m * 2 ^ up < (q + 1) * 10 ^ P → RoundOf 23 149 254 q 1 (-(up : Int)) sz → RdSpec 23 149 254 (nval s.data.toList) (p - s.data.toList.length) sz) := Lib.hid (fun sz q up h1 h2 h3 h4 => HSPEC.out sz (by
      have h5 := rd_more (f := 23) (l := 149) (W := 254) (P := P) h1 HBIG.out G6.out G7.out h2 h3 h4
      rw [show p - ld - (t.size : Int) = -((P + (t.size - 800) : Nat) : Int) by omega]
      exact h5))
    have hk : True := trivial
    clear HSPEC G5 G6 G7 HBIG hltm hgem HLAST HFT HFST HTLN hne
    have HPW := Lib.hid (fun wx (h : Below w.heap.size w wx) => ppow10 P (by omega) wx (HT.out.below h))
    have hP0 : (0 : Int) ≤ (P : Int) := by omega
    obtain ⟨lx, lbx⟩ := ten_ll (10 ^ P) P (Nat.le_refl _)
    clear hk
    go_wp2_with fail
    refine (HPW.out _ HB3.out).mono ?_
    rintro e w4 ⟨A4, c4, rfl, hca, hla, hma, hba⟩
    have C4 := Lib.hid (CanC.mk hca hla hma)
    have C34 := Lib.hid (C3.out.below hba)
    have HC4 := Lib.hid (HC3.out.below hba)
    have HB4 := Lib.hid (HB3.out.trans (hba.mono HB3.out.size))
    clear hca hla hma hba c0 c1 c2 clt HPW
    have HL1 := Lib.hid (plen_can A4 (10 ^ P) c4 w4 C4.out.can C4.out.le C4.out.max (by omega))
    have HL2 := Lib.hid (plen_can A3 m c3 w4 C34.out.can C34.out.le C34.out.max (by omega))
    obtain ⟨bx, hbx⟩ : ∃ bx, blen (10 ^ P) = bx := ⟨_, rfl⟩
    obtain ⟨bm, hbm⟩ : ∃ bm, blen m = bm := ⟨_, rfl⟩
    have HBX := Lib.hid hbx
    have HBM := Lib.hid hbm
    rw [hbx] at HL1 lbx
    rw [hbm] at HL2 lbm
    clear hbx hbm
    obtain ⟨up, hup⟩ : ∃ up : Nat, max 0 ((bx : Int) - (bm : Int) + 70) = (up : Int) := ⟨(max 0 ((bx : Int) - (bm : Int) + 70)).toNat, by omega⟩
    have hupb : up ≤ 6000 := by omega
    have hupl : bx + 70 ≤ bm + up := by omega
    obtain ⟨X, hX⟩ : ∃ X, 10 ^ P = X := ⟨_, rfl⟩
    have HXP := Lib.hid hX
    have hXpos : 0 < X := by rw [← hX]; exact ten_pos P
    rw [hX] at HL1 HBX C4 lx ⊢
    clear hX
    have HSHL := Lib.hid (fun wx (h : Below w4.heap.size w4 wx) => shl_can A3 m c3 up wx (C34.out.below h).can C34.out.le C34.out.max (by rw [HBM.out]; omega))
    have HQB : Hid (2 ^ (23 + 1) ≤ m * 2 ^ up / X) := Lib.hid (quot_big 23 m X up (by decide) HMP.out hXpos (by rw [HBX.out, HBM.out]; exact hupl))
    have lM : ll (m * 2 ^ up) ≤ 400 := ll_shl m up 400 (by rw [HBM.out]; omega)
    have lQ : ll (m * 2 ^ up / X) ≤ 400 := Nat.le_trans (ll_mono (Nat.div_le_self _ _)) lM
    have HDM := Lib.hid (Nat.div_add_mod (m * 2 ^ up) X)
    have HML := Lib.hid (Nat.mod_lt (m * 2 ^ up) hXpos)
    have HX0 := Lib.hid (show X ≠ 0 by omega)
    generalize hMM : m * 2 ^ up = M at *
    have HMM := Lib.hid hMM
    clear hMM
    have HDV := Lib.hid (fun wx A c (h : Below w4.heap.size w4 wx) (hc : CanC wx A c M) => div_any A A4 M X c c4 wx hc (C4.out.below h) HX0.out (by omega) (by omega))
    unfold DivPost at HDV
    generalize M / X = q at *
    generalize M % X = r at *
    go_wp2_with fail
    refine HL1.out.mono ?_
    rintro e w5 ⟨rfl, rfl⟩
    go_wp2_with fail
    refine HL2.out.mono ?_
    rintro e w5 ⟨rfl, rfl⟩
    go_wp2_with fail
    refine (HSHL.out _ (Below.refl _ _)).mono ?_
    rintro e w5 ⟨A5, c5, rfl, hca, hla, hma, hba⟩
    have C5 := Lib.hid (CanC.mk hca hla hma)
    have B5 := Lib.hid hba
    clear hca hla hma hba HSHL HL1 HL2
    go_wp2_with fail
    refine (HDV.out _ A5 c5 B5.out C5.out).mono ?_
    rintro e w6 ⟨A6, c6, A7, c7, rfl, hc6, hc7, hb6⟩
    have C6 := Lib.hid hc6
    have B6 := Lib.hid (B5.out.trans (hb6.mono B5.out.size))
    have HB6 := Lib.hid (HB4.out.trans (B6.out.mono HB4.out.size))
    have HC6 := Lib.hid (HC4.out.below B6.out)
    clear hc6 hc7 hb6 HDV hup
    obtain ⟨c0, c1, c2, clt⟩ := HC6.out
    have HRN := Lib.hid (roundT_B neg A6 q c6 (-(up : Int)) w6 (HT.out.below HB6.out) C6.out (by omega) (by omega) (by omega))
    have HFIN : Hid (∀ sz, RoundOf 23 149 254 q 1 (-(up : Int)) sz → RdSpec 23 149 254 (nval s.data.toList) (p - s.data.toList.length) sz) := Lib.hid (fun sz h => HSPM.out sz q up HQB.out (by rw [HXP.out, HMM.out, ← HDM.out, Nat.mul_comm]; omega) (by rw [HXP.out, HMM.out, ← HDM.out, Nat.add_mul, Nat.mul_comm, Nat.one_mul]; have := HML.out; omega) h)
    go_wp2_with fail
    ((with_reducible refine HRN.out.mono ?_); rintro e w7 ⟨sz, rfl, hnr, hb7⟩)
    have HNR := Lib.hid hnr
    have HB7 := Lib.hid (HB6.out.trans (hb7.mono HB6.out.size))
    clear hnr hb7
    go_wp2_with fail
    go_ret2
    exact ⟨sz, rfl, HFIN.out sz HNR.out, HB7.out⟩
  · have hLI : ¬ (800 : Int) < (t.size : Int) := by omega
    have hLD : decide ((800 : Int) < (t.size : Int)) = false := decide_eq_false hLI
    have hLD2 : decide (800 < t.size) = false := decide_eq_false hL
    have HQR := Lib.hid (fun wx => qread_any t wx HFT.out (by omega) (HFST.out (by omega)) (by omega))
    obtain ⟨lm, lbm⟩ := ten_ll _ t.size (Nat.le_of_lt hltm.out)
    have lm' := Nat.le_of_lt hltm.out
    obtain ⟨m, hm⟩ : ∃ m, nval t.data.toList = m := ⟨_, rfl⟩
    rw [hm] at HQR hmp lm lbm lm' HSPEC
    rw [HTLN.out] at HSPEC
    have HMP := Lib.hid hmp
    clear hm hmp hltm hgem HLAST HFT HFST HTLN
    go_wp2_with fail
    refine (HQR.out _).mono ?_
    rintro e w3 ⟨A3, c3, rfl, hca, hla, hma, hba⟩
    have C3 := Lib.hid (CanC.mk hca hla hma)
    have HC3 := Lib.hid (HC1.out.below hba)
    have HB3 := Lib.hid (HB1.out.trans (hba.mono HB1.out.size))
    clear hca hla hma hba HQR c0 c1 c2 clt HC1 HB1
    obtain ⟨c0, c1, c2, clt⟩ := HC3.out
    by_cases hk : 0 ≤ p - ld - t.size
    · obtain ⟨n, hn⟩ : ∃ n : Nat, p - ld - t.size = (n : Int) := ⟨(p - ld - t.size).toNat, by omega⟩
      have hnb : n ≤ 400 := by omega
      have HPW := Lib.hid (fun wx (h : Below w.heap.size w wx) => ppow10 n (by omega) wx (HT.out.below h))
      have HSP : Hid (∀ sz, RdSpec 23 149 254 m (n : Int) sz → RdSpec 23 149 254 (nval s.data.toList) (p - s.data.toList.length) sz) := Lib.hid (by rw [← hn]; exact HSPEC.out)
      have hk' : ¬ p - ld - t.size < 0 := by omega
      have hn0 : (0 : Int) ≤ (n : Int) := by omega
      obtain ⟨lx, lbx⟩ := ten_ll (10 ^ n) n (Nat.le_refl _)
      clear hk hk'
      go_wp2_with fail
      refine (HPW.out _ HB3.out).mono ?_
      rintro e w4 ⟨A4, c4, rfl, hca, hla, hma, hba⟩
      have C4 := Lib.hid (CanC.mk hca hla hma)
      have C34 := Lib.hid (C3.out.below hba)
      have HC4 := Lib.hid (HC3.out.below hba)
      have HB4 := Lib.hid (HB3.out.trans (hba.mono HB3.out.size))
      clear hca hla hma hba c0 c1 c2 clt
      obtain ⟨c0, c1, c2, clt⟩ := HC4.out
      obtain ⟨lz, lbz⟩ := ten_ll (m * 10 ^ n) (t.size + n + 1) (mul_ten m n t.size lm')
      have HMUL : Hid (∀ wx, Below w4.heap.size w4 wx → Calls Tryd.prog 22 #[.slice A3 (ll m) c3, .slice A4 (ll (10 ^ n)) c4] wx (NatPost wx (m * 10 ^ n))) := Lib.hid (fun wx h => (C34.out.below h).mul (C4.out.below h) (by omega) (by omega))
      have HRN : Hid (∀ wx A c, Below w.heap.size w wx → CanC wx A c (m * 10 ^ n) → Calls Tryd.prog 74 #[.bool neg, .slice A (ll (m * 10 ^ n)) c, .int .i64 0, .bool false] wx (RoundPost .u32 23 149 254 2147483648 neg (2 * (m * 10 ^ n) + 0) (0 - 1) wx)) := Lib.hid (fun wx A c hb hc => roundF_B neg A _ c 0 wx (HT.out.below hb) hc (by omega) (by decide) (by decide))
      have HKP : Hid (∀ wx, Below w4.drew.heap.size w4.drew wx → wx.cell? ⟨w.heap.size, 0, none⟩ = some (.bool neg)) := Lib.hid (fun wx h => (h.cell (p := ⟨w.heap.size, 0, none⟩) HC4.out.lt).trans HC4.out.c0)
      have HBD1 : Hid (Below w4.heap.size w4 w4.drew) := Lib.hid (below_drewN' (Below.refl _ _) 1)
      have HBD : Hid (Below w.heap.size w w4.drew) := Lib.hid (below_drewN' HB4.out 1)
      go_wp2_with fail
      go_region_held3 (fun w' => w'.cell? ⟨w.heap.size, 0, none⟩ = some (.bool neg))
        (first | exact c0 | exact HKP.out _ B5.out | exact HKP.out _ B6.out)
        (first
          | (go_at_call 22; (with_reducible refine (HMUL.out w4.drew HBD1.out).mono ?_); rintro e w5 ⟨A5, c5, rfl, hca, hla, hma, hba⟩; have C5 := Lib.hid (CanC.mk hca hla hma); have B5 := Lib.hid hba; have HB5 := Lib.hid (HBD.out.trans (hba.mono HBD.out.size)); clear hca hla hma hba)
          | (go_at_call 74; (with_reducible refine (HRN.out _ A5 c5 HB5.out C5.out).mono ?_); rintro e w6 ⟨sz, rfl, hnr, hb6⟩; have HNR := Lib.hid hnr; have HB6 := Lib.hid (HB5.out.trans (hb6.mono HB5.out.size)); have B6 := Lib.hid (B5.out.trans (hb6.mono B5.out.size)); clear hnr hb6))
      go_wp2_with fail
      go_ret2
      exact ⟨sz, rfl, HSP.out sz (rd_up 23 149 254 m n sz (by decide) HNR.out), HB6.out⟩
    · obtain ⟨P, hn⟩ : ∃ P : Nat, p - ld - t.size = -(P : Int) := ⟨(-(p - ld - t.size)).toNat, by omega⟩
      have hPb : P ≤ 1200 := by omega
      have hP1 : (1 : Int) ≤ (P : Int) := by omega
      have HSP : Hid (∀ sz, RdSpec 23 149 254 m (-(P : Int)) sz → RdSpec 23 149 254 (nval s.data.toList) (p - s.data.toList.length) sz) := Lib.hid (by rw [← hn]; exact HSPEC.out)
      have HPW := Lib.hid (fun wx (h : Below w.heap.size w wx) => ppow10 P (by omega) wx (HT.out.below h))
      have hP0 : (0 : Int) ≤ (P : Int) := by omega
      obtain ⟨lx, lbx⟩ := ten_ll (10 ^ P) P (Nat.le_refl _)
      clear hk
      go_wp2_with fail
      refine (HPW.out _ HB3.out).mono ?_
      rintro e w4 ⟨A4, c4, rfl, hca, hla, hma, hba⟩
      have C4 := Lib.hid (CanC.mk hca hla hma)
      have C34 := Lib.hid (C3.out.below hba)
      have HC4 := Lib.hid (HC3.out.below hba)
      have HB4 := Lib.hid (HB3.out.trans (hba.mono HB3.out.size))
      clear hca hla hma hba c0 c1 c2 clt HPW
      have HL1 := Lib.hid (plen_can A4 (10 ^ P) c4 w4 C4.out.can C4.out.le C4.out.max (by omega))
      have HL2 := Lib.hid (plen_can A3 m c3 w4 C34.out.can C34.out.le C34.out.max (by omega))
      obtain ⟨bx, hbx⟩ : ∃ bx, blen (10 ^ P) = bx := ⟨_, rfl⟩
      obtain ⟨bm, hbm⟩ : ∃ bm, blen m = bm := ⟨_, rfl⟩
      have HBX := Lib.hid hbx
      have HBM := Lib.hid hbm
      rw [hbx] at HL1 lbx
      rw [hbm] at HL2 lbm
      clear hbx hbm
      obtain ⟨up, hup⟩ : ∃ up : Nat, max 0 ((bx : Int) - (bm : Int) + 70) = (up : Int) := ⟨(max 0 ((bx : Int) - (bm : Int) + 70)).toNat, by omega⟩
      have hupb : up ≤ 6000 := by omega
      have hupl : bx + 70 ≤ bm + up := by omega
      obtain ⟨X, hX⟩ : ∃ X, 10 ^ P = X := ⟨_, rfl⟩
      have HXP := Lib.hid hX
      have hXpos : 0 < X := by rw [← hX]; exact ten_pos P
      rw [hX] at HL1 HBX C4 lx ⊢
      clear hX
      have HSHL := Lib.hid (fun wx (h : Below w4.heap.size w4 wx) => shl_can A3 m c3 up wx (C34.out.below h).can C34.out.le C34.out.max (by rw [HBM.out]; omega))
      have HQB : Hid (2 ^ (23 + 1) ≤ m * 2 ^ up / X) := Lib.hid (quot_big 23 m X up (by decide) HMP.out hXpos (by rw [HBX.out, HBM.out]; exact hupl))
      have lM : ll (m * 2 ^ up) ≤ 400 := ll_shl m up 400 (by rw [HBM.out]; omega)
      have lQ : ll (m * 2 ^ up / X) ≤ 400 := Nat.le_trans (ll_mono (Nat.div_le_self _ _)) lM
      have HDM := Lib.hid (Nat.div_add_mod (m * 2 ^ up) X)
      have HML := Lib.hid (Nat.mod_lt (m * 2 ^ up) hXpos)
      have HX0 := Lib.hid (show X ≠ 0 by omega)
      generalize hMM : m * 2 ^ up = M at *
      have HMM := Lib.hid hMM
      clear hMM
      have HDV := Lib.hid (fun wx A c (h : Below w4.heap.size w4 wx) (hc : CanC wx A c M) => div_any A A4 M X c c4 wx hc (C4.out.below h) HX0.out (by omega) (by omega))
      unfold DivPost at HDV
      generalize M / X = q at *
      generalize M % X = r at *
      go_wp2_with fail
      refine HL1.out.mono ?_
      rintro e w5 ⟨rfl, rfl⟩
      go_wp2_with fail
      refine HL2.out.mono ?_
      rintro e w5 ⟨rfl, rfl⟩
      go_wp2_with fail
      refine (HSHL.out _ (Below.refl _ _)).mono ?_
      rintro e w5 ⟨A5, c5, rfl, hca, hla, hma, hba⟩
      have C5 := Lib.hid (CanC.mk hca hla hma)
      have B5 := Lib.hid hba
      clear hca hla hma hba HSHL HL1 HL2
      go_wp2_with fail
      refine (HDV.out _ A5 c5 B5.out C5.out).mono ?_
      rintro e w6 ⟨A6, c6, A7, c7, rfl, hc6, hc7, hb6⟩
      have C6 := Lib.hid hc6
      have B6 := Lib.hid (B5.out.trans (hb6.mono B5.out.size))
      have HB6 := Lib.hid (HB4.out.trans (B6.out.mono HB4.out.size))
      have HC6 := Lib.hid (HC4.out.below B6.out)
      clear hc6 hc7 hb6 HDV hup
      obtain ⟨c0, c1, c2, clt⟩ := HC6.out
      by_cases hr0 : r = 0
      · subst hr0
        have HRN := Lib.hid (roundF_B neg A6 q c6 (-(up : Int)) w6 (HT.out.below HB6.out) C6.out (by omega) (by omega) (by omega))
        have HFIN : Hid (∀ sz, RoundOf 23 149 254 q 0 (-(up : Int)) sz → RdSpec 23 149 254 (nval s.data.toList) (p - s.data.toList.length) sz) := Lib.hid (fun sz h => HSP.out sz (rd_even (P := P) (by rw [HXP.out, HMM.out, ← HDM.out, Nat.mul_comm, Nat.add_zero]) h))
        have hz0 : ll 0 = 0 := ll_zero'
        rw [hz0]
        go_wp2_with fail
        ((with_reducible refine HRN.out.mono ?_); rintro e w7 ⟨sz, rfl, hnr, hb7⟩)
        have HNR := Lib.hid hnr
        have HB7 := Lib.hid (HB6.out.trans (hb7.mono HB6.out.size))
        clear hnr hb7
        go_wp2_with fail
        go_ret2
        exact ⟨sz, rfl, HFIN.out sz HNR.out, HB7.out⟩
      · have hrp := ll_nz r hr0
        have hrI : (0 : Int) < (ll r : Int) := by omega
        have hrD : decide (0 < ll r) = true := decide_eq_true hrp
        have HRN := Lib.hid (roundT_B neg A6 q c6 (-(up : Int)) w6 (HT.out.below HB6.out) C6.out (by omega) (by omega) (by omega))
        have HFIN : Hid (∀ sz, RoundOf 23 149 254 q 1 (-(up : Int)) sz → RdSpec 23 149 254 (nval s.data.toList) (p - s.data.toList.length) sz) := Lib.hid (fun sz h => HSP.out sz (rd_rest (P := P) HQB.out (by rw [HXP.out, HMM.out, ← HDM.out, Nat.mul_comm]; omega) (by rw [HXP.out, HMM.out, ← HDM.out, Nat.add_mul, Nat.mul_comm, Nat.one_mul]; have := HML.out; omega) h))
        clear hr0 hrp
        go_wp2_with fail
        ((with_reducible refine HRN.out.mono ?_); rintro e w7 ⟨sz, rfl, hnr, hb7⟩)
        have HNR := Lib.hid hnr
        have HB7 := Lib.hid (HB6.out.trans (hb7.mono HB6.out.size))
        clear hnr hb7
        go_wp2_with fail
        go_ret2
        exact ⟨sz, rfl, HFIN.out sz HNR.out, HB7.out⟩
end Go.Proofs.YtgckfilmhnapeaaDoor
