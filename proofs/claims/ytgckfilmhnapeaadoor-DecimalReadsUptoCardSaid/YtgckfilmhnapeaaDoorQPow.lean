/- The program's quot: Pow (of 5 and of 10). -/
import Derived.Test.YtgckfilmhnapeaaDoorPnC
import Derived.Deep.RegionHeld3
import Derived.Deep.CutBlock
import Derived.Deep.LoopGhost
import Derived.OwnWalk
namespace Go.Proofs.YtgckfilmhnapeaaDoor
open Go.RowKit
set_option linter.unusedVariables false

def PowRel (w : World) (n0 : Nat) (v1 v8 v9 : Value) (wr : World) : Prop :=
  ∃ (k O S : Nat) (A B : Option Addr) (c d : Nat), v1 = .int .i64 k ∧ v8 = .slice A (ll O) c ∧ v9 = .slice B (ll S) d ∧ k ≤ n0 ∧ O * S ^ k = 5 ^ n0 ∧ S ≤ 5 ^ (n0 + 1) ∧ CanC wr A c O ∧ CanC wr B d S ∧ Below w.heap.size w wr
theorem five_ll (X n : Nat) (hn : n ≤ 16385) (h : X ≤ 5 ^ n) : ll X ≤ 1600 ∧ blen X ≤ 51200 := by
  have h1 : (5 : Nat) ^ n ≤ 8 ^ n := Nat.pow_le_pow_left (by decide) n
  have h2 : (8 : Nat) ^ n = 2 ^ (3 * n) := by rw [Nat.pow_mul]
  obtain ⟨z, hz⟩ : ∃ z, z = 51200 := ⟨_, rfl⟩
  have h3 : 2 ^ (3 * n) < 2 ^ z := Nat.pow_lt_pow_right (by decide) (by omega)
  have h4 : X < 2 ^ z := by omega
  constructor
  · exact ll_two X 1600 (by rw [show 32 * 1600 = z by omega]; exact h4)
  · rw [blen_iff, ← hz]; exact h4
theorem pow_odd (O S k n0 : Nat) (h : O * S ^ k = 5 ^ n0) (hk : k % 2 = 1) : O * S * (S * S) ^ (k / 2) = 5 ^ n0 := by
  rw [← h, ← Nat.pow_two, ← Nat.pow_mul, Nat.mul_assoc, Nat.mul_comm S, ← Nat.pow_succ]
  congr 2; omega
theorem pow_even (O S k n0 : Nat) (h : O * S ^ k = 5 ^ n0) (hk : k % 2 = 0) : O * (S * S) ^ (k / 2) = 5 ^ n0 := by
  rw [← h, ← Nat.pow_two, ← Nat.pow_mul]
  congr 2; omega
theorem pow_bd (O S k n0 : Nat) (h : O * S ^ k = 5 ^ n0) (hk : k ≠ 0) : O ≤ 5 ^ n0 ∧ S ≤ 5 ^ n0 ∧ O * S ≤ 5 ^ n0 := by
  have hp : 0 < 5 ^ n0 := Nat.pow_pos (by decide)
  have hO : O ≠ 0 := by rintro rfl; omega
  have hS : S ≠ 0 := by
    rintro rfl
    rw [Nat.zero_pow (by omega)] at h; omega
  obtain ⟨j, rfl⟩ : ∃ j, k = j + 1 := ⟨k - 1, by omega⟩
  have hj : 0 < S ^ j := Nat.pow_pos (by omega)
  rw [Nat.pow_succ] at h
  have h1 : O * S ≤ 5 ^ n0 := by
    rw [← h, Nat.mul_comm (S ^ j), ← Nat.mul_assoc]
    exact Nat.le_mul_of_pos_right _ hj
  exact ⟨Nat.le_trans (Nat.le_mul_of_pos_right _ (by omega)) h1, Nat.le_trans (Nat.le_mul_of_pos_left _ (by omega)) h1, h1⟩
theorem pow_bd0 (O S n0 : Nat) (h : O * S ^ 0 = 5 ^ n0) : O = 5 ^ n0 := by rw [Nat.pow_zero, Nat.mul_one] at h; exact h
theorem pow_half (O S k n0 : Nat) (h : O * (S * S) ^ (k / 2) = 5 ^ n0) (hk : k / 2 ≠ 0) : S * S ≤ 5 ^ n0 := (pow_bd O (S * S) (k / 2) n0 h hk).2.1
set_option maxRecDepth 100000 in
set_option maxHeartbeats 2000000 in
theorem ppow10 (n0 : Nat) (hn : n0 ≤ 16384) (w : World) (hT : Tabs0 w) :
    Calls Tryd.prog 52 #[.int .u32 10, .int .i64 n0] w (NatPost2 w (10 ^ n0)) := by
  have HLEN := Lib.hid (len32_any 10 (by decide) w)
  have hbl : blen 10 = 4 := by decide
  rw [hbl] at HLEN
  have HTZ := Lib.hid (tz32_any 1 2 10 (by decide) (by decide) w hT)
  have HF1 : Hid (∀ wx, Calls Tryd.prog 58 #[.int .u64 1] wx (NatPost wx 1)) := Lib.hid (fun wx => pfrom_any 1 (by decide) wx)
  have HF5 : Hid (∀ wx, Calls Tryd.prog 58 #[.int .u64 5] wx (NatPost wx 5)) := Lib.hid (fun wx => pfrom_any 5 (by decide) wx)
  have g3 : ¬ ((16384 : Int) < (n0 : Int)) := by omega
  have HPW : Hid (5 ^ n0 * 2 ^ n0 = 10 ^ n0) := Lib.hid (by rw [← Nat.mul_pow])
  clear hT hbl
  go_enter Tryd.func52, Tryd.ntmps52
  go_wp2_with fail
  refine HLEN.out.mono ?_
  rintro e w' ⟨rfl, rfl⟩
  go_wp2_with fail
  refine HTZ.out.mono ?_
  rintro e w' ⟨rfl, rfl⟩
  go_wp2_with fail
  have r5 : IntKind.u64.wrap 5 = 5 := by decide
  go_region_held3 (fun _ => True)
    (trivial)
    (first
      | (go_at_call 58; ((with_reducible refine (HF1.out _).mono ?_); rintro e w1 ⟨A1, c1, rfl, hca, hla, hma, hba⟩); have C1 := Lib.hid (CanC.mk hca hla hma); have B1 := Lib.hid hba; clear hca hla hma hba)
      | (go_at_call 58; ((with_reducible refine (HF5.out _).mono ?_); rintro e w2 ⟨A2, c2, rfl, hca, hla, hma, hba⟩); have C2 := Lib.hid (CanC.mk hca hla hma); have B2 := Lib.hid hba; clear hca hla hma hba))
  have C1' := Lib.hid (C1.out.below B2.out)
  have BB : Hid (Below w.heap.size w w2) := Lib.hid (((below_drewN' (Below.refl w.heap.size w) 1).trans B1.out).trans (B2.out.mono B1.out.size))
  clear r5 C1 B1 B2 HF1 HF5 HTZ HLEN g3
  go_wp2_with fail
  go_loopw [1, 8, 9] (fun v1 v8 v9 wr => PowRel w n0 v1 v8 v9 wr) (fun v1 _ _ _ => (intOf v1).toNat)
  case atStart => exact ⟨n0, 1, 5, A1, A2, c1, c2, rfl, rfl, rfl, Nat.le_refl _, by rw [Nat.one_mul], by rw [Nat.pow_succ]; have := Nat.pow_pos (n := n0) (show 0 < 5 by decide); omega, C1'.out, C2.out, BB.out⟩
  case round =>
    obtain ⟨k, O, S, A, B, c, d, rfl, rfl, rfl, hk, hp, hs, ca, cb, hbel⟩ := hrel
    have HP := Lib.hid hp
    have HS := Lib.hid hs
    have CA := Lib.hid ca
    have CB := Lib.hid cb
    have HB := Lib.hid hbel
    clear hp hs ca cb hbel
    by_cases h0 : k = 0
    · subst h0
      have hO := pow_bd0 O S n0 HP.out
      subst hO
      have HSH := Lib.hid (shl_can A (5 ^ n0) c n0 wr CA.out.can CA.out.le CA.out.max (by have := (five_ll (5 ^ n0) n0 (by omega) (Nat.le_refl _)).2; omega))
      rw [HPW.out] at HSH
      clear HPW
      go_wp2_with fail
      ((with_reducible refine HSH.out.mono ?_); rintro e w3 ⟨A3, c3, rfl, hca, hla, hma, hba⟩)
      have C3 := Lib.hid (CanC.mk hca hla hma)
      have B3 := Lib.hid hba
      clear hca hla hma hba
      go_wp2_with fail
      go_ret2
      exact ⟨A3, c3, rfl, C3.out.can, C3.out.le, C3.out.max, HB.out.trans (B3.out.mono HB.out.size)⟩
    · have hb0 := pow_bd O S k n0 HP.out h0
      have lO := (five_ll O n0 (by omega) hb0.1).1
      have lS := (five_ll S n0 (by omega) hb0.2.1).1
      have hb1 := Lib.hid hb0.2.2
      have hd1 : (k : Int) / 2 = ((k / 2 : Nat) : Int) := by omega
      have hodd := i64_odd k (by omega)
      have HM1 := Lib.hid (CA.out.mul CB.out (by omega) (by omega))
      have HM2 := Lib.hid (CB.out.mul CB.out (by omega) (by omega))
      have h0I : (0 : Int) < (k : Int) := by omega
      have hkh : k / 2 < k := by omega
      rcases Nat.mod_two_eq_zero_or_one k with par | par
      · rw [par] at hodd
        have HE := Lib.hid (pow_even O S k n0 HP.out par)
        have hh : 0 < k / 2 := by omega
        have HSS := Lib.hid (pow_half O S k n0 HE.out (by omega))
        clear par hb0 lO lS
        generalize k / 2 = h at *
        go_wp2_with fail
        ((with_reducible refine HM2.out.mono ?_); rintro e w3 ⟨A3, c3, rfl, hca, hla, hma, hba⟩)
        have C3 := Lib.hid (CanC.mk hca hla hma)
        have B3 := Lib.hid hba
        clear hca hla hma hba
        go_wp2_with fail
        go_roundw
        case rel => exact ⟨h, O, S * S, A, A3, c, c3, rfl, rfl, rfl, by omega, HE.out, by have := HSS.out; rw [Nat.pow_succ]; omega, CA.out.below B3.out, C3.out, HB.out.trans (B3.out.mono HB.out.size)⟩
        case measure => simp [intOf]; omega
      · rw [par] at hodd
        have HE := Lib.hid (pow_odd O S k n0 HP.out par)
        clear par hb0 lO lS
        generalize k / 2 = h at *
        by_cases hh : h = 0
        · subst hh
          go_wp2_with fail
          ((with_reducible refine HM1.out.mono ?_); rintro e w3 ⟨A3, c3, rfl, hca, hla, hma, hba⟩)
          have C3 := Lib.hid (CanC.mk hca hla hma)
          have B3 := Lib.hid hba
          clear hca hla hma hba
          go_wp2_with fail
          go_roundw
          case rel => exact ⟨0, O * S, S, A3, B, c3, d, rfl, rfl, rfl, by omega, by have := HE.out; rw [Nat.pow_zero] at this ⊢; exact this, HS.out, C3.out, CB.out.below B3.out, HB.out.trans (B3.out.mono HB.out.size)⟩
          case measure => simp [intOf]; omega
        · have hhI : (0 : Int) < (h : Int) := by omega
          have HSS := Lib.hid ((pow_bd (O * S) (S * S) h n0 HE.out hh).2.1)
          have lS2 := Lib.hid (five_ll (S * S) n0 (by omega) HSS.out)
          go_wp2_with fail
          ((with_reducible refine HM1.out.mono ?_); rintro e w3 ⟨A3, c3, rfl, hca, hla, hma, hba⟩)
          have C3 := Lib.hid (CanC.mk hca hla hma)
          have B3 := Lib.hid hba
          clear hca hla hma hba
          have CB3 := Lib.hid (CB.out.below B3.out)
          have lS3 := (five_ll S n0 (by omega) (pow_bd O S k n0 HP.out (by omega)).2.1).1
          have HM4 := Lib.hid (CB3.out.mul CB3.out (by omega) (by omega))
          clear lS3
          go_wp2_with fail
          ((with_reducible refine HM4.out.mono ?_); rintro e w4 ⟨A4, c4, rfl, hca, hla, hma, hba⟩)
          have C4 := Lib.hid (CanC.mk hca hla hma)
          have B4 := Lib.hid hba
          clear hca hla hma hba
          go_wp2_with fail
          go_roundw
          case rel => exact ⟨h, O * S, S * S, A3, A4, c3, c4, rfl, rfl, rfl, by omega, HE.out, by have := HSS.out; rw [Nat.pow_succ]; omega, C3.out.below B4.out, C4.out, (HB.out.trans (B3.out.mono HB.out.size)).trans (B4.out.mono (by have := B3.out.size; have := HB.out.size; omega))⟩
          case measure => simp [intOf]; omega
set_option maxRecDepth 100000 in
set_option maxHeartbeats 2000000 in
theorem ppow5 (n0 : Nat) (hn : n0 ≤ 16384) (w : World) (hT : Tabs0 w) :
    Calls Tryd.prog 52 #[.int .u32 5, .int .i64 n0] w (NatPost2 w (5 ^ n0)) := by
  have HLEN := Lib.hid (len32_any 5 (by decide) w)
  have hbl : blen 5 = 3 := by decide
  rw [hbl] at HLEN
  have HTZ := Lib.hid (tz32_any 0 2 5 (by decide) (by decide) w hT)
  have HF1 : Hid (∀ wx, Calls Tryd.prog 58 #[.int .u64 1] wx (NatPost wx 1)) := Lib.hid (fun wx => pfrom_any 1 (by decide) wx)
  have HF5 : Hid (∀ wx, Calls Tryd.prog 58 #[.int .u64 5] wx (NatPost wx 5)) := Lib.hid (fun wx => pfrom_any 5 (by decide) wx)
  have g3 : ¬ ((21845 : Int) < (n0 : Int)) := by omega
  clear hT hbl
  go_enter Tryd.func52, Tryd.ntmps52
  go_wp2_with fail
  refine HLEN.out.mono ?_
  rintro e w' ⟨rfl, rfl⟩
  go_wp2_with fail
  refine HTZ.out.mono ?_
  rintro e w' ⟨rfl, rfl⟩
  go_wp2_with fail
  have r5 : IntKind.u64.wrap 5 = 5 := by decide
  go_region_held3 (fun _ => True)
    (trivial)
    (first
      | (go_at_call 58; ((with_reducible refine (HF1.out _).mono ?_); rintro e w1 ⟨A1, c1, rfl, hca, hla, hma, hba⟩); have C1 := Lib.hid (CanC.mk hca hla hma); have B1 := Lib.hid hba; clear hca hla hma hba)
      | (go_at_call 58; ((with_reducible refine (HF5.out _).mono ?_); rintro e w2 ⟨A2, c2, rfl, hca, hla, hma, hba⟩); have C2 := Lib.hid (CanC.mk hca hla hma); have B2 := Lib.hid hba; clear hca hla hma hba))
  have C1' := Lib.hid (C1.out.below B2.out)
  have BB : Hid (Below w.heap.size w w2) := Lib.hid (((below_drewN' (Below.refl w.heap.size w) 1).trans B1.out).trans (B2.out.mono B1.out.size))
  clear r5 C1 B1 B2 HF1 HF5 HTZ HLEN g3
  go_wp2_with fail
  go_loopw [1, 8, 9] (fun v1 v8 v9 wr => PowRel w n0 v1 v8 v9 wr) (fun v1 _ _ _ => (intOf v1).toNat)
  case atStart => exact ⟨n0, 1, 5, A1, A2, c1, c2, rfl, rfl, rfl, Nat.le_refl _, by rw [Nat.one_mul], by rw [Nat.pow_succ]; have := Nat.pow_pos (n := n0) (show 0 < 5 by decide); omega, C1'.out, C2.out, BB.out⟩
  case round =>
    obtain ⟨k, O, S, A, B, c, d, rfl, rfl, rfl, hk, hp, hs, ca, cb, hbel⟩ := hrel
    have HP := Lib.hid hp
    have HS := Lib.hid hs
    have CA := Lib.hid ca
    have CB := Lib.hid cb
    have HB := Lib.hid hbel
    clear hp hs ca cb hbel
    by_cases h0 : k = 0
    · subst h0
      have hO := pow_bd0 O S n0 HP.out
      subst hO
      have HSH : Hid (Calls Tryd.prog 54 #[.slice A (ll (5 ^ n0)) c, .int .i64 0] wr (NatPost2 wr (5 ^ n0))) := Lib.hid (by
        have := shl_can A (5 ^ n0) c 0 wr CA.out.can CA.out.le CA.out.max (by have := (five_ll (5 ^ n0) n0 (by omega) (Nat.le_refl _)).2; omega)
        rw [Nat.pow_zero, Nat.mul_one] at this
        exact this)
      go_wp2_with fail
      ((with_reducible refine HSH.out.mono ?_); rintro e w3 ⟨A3, c3, rfl, hca, hla, hma, hba⟩)
      have C3 := Lib.hid (CanC.mk hca hla hma)
      have B3 := Lib.hid hba
      clear hca hla hma hba
      go_wp2_with fail
      go_ret2
      exact ⟨A3, c3, rfl, C3.out.can, C3.out.le, C3.out.max, HB.out.trans (B3.out.mono HB.out.size)⟩
    · have hb0 := pow_bd O S k n0 HP.out h0
      have lO := (five_ll O n0 (by omega) hb0.1).1
      have lS := (five_ll S n0 (by omega) hb0.2.1).1
      have hb1 := Lib.hid hb0.2.2
      have hd1 : (k : Int) / 2 = ((k / 2 : Nat) : Int) := by omega
      have hodd := i64_odd k (by omega)
      have HM1 := Lib.hid (CA.out.mul CB.out (by omega) (by omega))
      have HM2 := Lib.hid (CB.out.mul CB.out (by omega) (by omega))
      have h0I : (0 : Int) < (k : Int) := by omega
      have hkh : k / 2 < k := by omega
      rcases Nat.mod_two_eq_zero_or_one k with par | par
      · rw [par] at hodd
        have HE := Lib.hid (pow_even O S k n0 HP.out par)
        have hh : 0 < k / 2 := by omega
        have HSS := Lib.hid (pow_half O S k n0 HE.out (by omega))
        clear par hb0 lO lS
        generalize k / 2 = h at *
        go_wp2_with fail
        ((with_reducible refine HM2.out.mono ?_); rintro e w3 ⟨A3, c3, rfl, hca, hla, hma, hba⟩)
        have C3 := Lib.hid (CanC.mk hca hla hma)
        have B3 := Lib.hid hba
        clear hca hla hma hba
        go_wp2_with fail
        go_roundw
        case rel => exact ⟨h, O, S * S, A, A3, c, c3, rfl, rfl, rfl, by omega, HE.out, by have := HSS.out; rw [Nat.pow_succ]; omega, CA.out.below B3.out, C3.out, HB.out.trans (B3.out.mono HB.out.size)⟩
        case measure => simp [intOf]; omega
      · rw [par] at hodd
        have HE := Lib.hid (pow_odd O S k n0 HP.out par)
        clear par hb0 lO lS
        generalize k / 2 = h at *
        by_cases hh : h = 0
        · subst hh
          go_wp2_with fail
          ((with_reducible refine HM1.out.mono ?_); rintro e w3 ⟨A3, c3, rfl, hca, hla, hma, hba⟩)
          have C3 := Lib.hid (CanC.mk hca hla hma)
          have B3 := Lib.hid hba
          clear hca hla hma hba
          go_wp2_with fail
          go_roundw
          case rel => exact ⟨0, O * S, S, A3, B, c3, d, rfl, rfl, rfl, by omega, by have := HE.out; rw [Nat.pow_zero] at this ⊢; exact this, HS.out, C3.out, CB.out.below B3.out, HB.out.trans (B3.out.mono HB.out.size)⟩
          case measure => simp [intOf]; omega
        · have hhI : (0 : Int) < (h : Int) := by omega
          have HSS := Lib.hid ((pow_bd (O * S) (S * S) h n0 HE.out hh).2.1)
          have lS2 := Lib.hid (five_ll (S * S) n0 (by omega) HSS.out)
          go_wp2_with fail
          ((with_reducible refine HM1.out.mono ?_); rintro e w3 ⟨A3, c3, rfl, hca, hla, hma, hba⟩)
          have C3 := Lib.hid (CanC.mk hca hla hma)
          have B3 := Lib.hid hba
          clear hca hla hma hba
          have CB3 := Lib.hid (CB.out.below B3.out)
          have lS3 := (five_ll S n0 (by omega) (pow_bd O S k n0 HP.out (by omega)).2.1).1
          have HM4 := Lib.hid (CB3.out.mul CB3.out (by omega) (by omega))
          clear lS3
          go_wp2_with fail
          ((with_reducible refine HM4.out.mono ?_); rintro e w4 ⟨A4, c4, rfl, hca, hla, hma, hba⟩)
          have C4 := Lib.hid (CanC.mk hca hla hma)
          have B4 := Lib.hid hba
          clear hca hla hma hba
          go_wp2_with fail
          go_roundw
          case rel => exact ⟨h, O * S, S * S, A3, A4, c3, c4, rfl, rfl, rfl, by omega, HE.out, by have := HSS.out; rw [Nat.pow_succ]; omega, C3.out.below B4.out, C4.out, (HB.out.trans (B3.out.mono HB.out.size)).trans (B4.out.mono (by have := B3.out.size; have := HB.out.size; omega))⟩
          case measure => simp [intOf]; omega
end Go.Proofs.YtgckfilmhnapeaaDoor
