/- The program's quot: moved. -/
import Derived.Test.YtgckfilmhnapeaaDoorQPow
import Derived.Test.YtgckfilmhnapeaaDoorQp3
namespace Go.Proofs.YtgckfilmhnapeaaDoor
open Go.RowKit
set_option linter.unusedVariables false

/-- a row of limbs of the call's own -/
def OwnL (w : World) (base : Nat) (v : Value) (X T : Nat) : Prop := w.ownsRow base 49 1 v T (vals .u32 (digs 4294967296 X T))
def MovedRel (w : World) (Z n : Nat) (v5 v6 v16 : Value) (pc : Nat → Nat) (wr : World) : Prop :=
  ∃ i : Nat, i ≤ n ∧ v16 = .int .i64 i ∧ v6 = .int .u64 (pc i : Nat) ∧ OwnL wr w.heap.size v5 Z i ∧ Below w.heap.size w wr
def MovedPost (w : World) (Z T : Nat) (e : Ending) (w' : World) : Prop :=
  ∃ v, e = .returned v ∧ OwnL w' w.heap.size v Z T ∧ Below w.heap.size w w'
theorem ownL_succ {w : World} {base : Nat} {v : Value} {X T y : Nat} (h : w.ownsRow base 49 1 v (T + 1) (vals .u32 (digs 4294967296 X T) ++ [.int .u32 (y : Int)])) (hy : y = X / 4294967296 ^ T % 4294967296) : OwnL w base v X (T + 1) := by
  unfold OwnL
  rw [digs_succ, vals_append, ← hy]
  exact h
theorem or_carry (x c r : Nat) (hx : x < 4294967296) (hc : c < 2 ^ r) (hr : r < 32) : bits .or .u64 ((x * 2 ^ r : Nat) : Int) (c : Int) = ((x * 2 ^ r + c : Nat) : Int) := by
  have h1 : 2 ^ r ≤ 2 ^ 31 := Nat.pow_le_pow_right (by decide) (by omega)
  have h2 : x * 2 ^ r ≤ 4294967295 * 2147483648 := Nat.mul_le_mul (by omega) (by omega)
  rw [u64_or_nat _ _ (by omega) (by omega)]
  congr 1
  rw [Nat.mul_comm]
  exact (Nat.two_pow_add_eq_or_of_lt hc x).symm
theorem cast_shl (x r : Nat) : ((x * 2 ^ r : Nat) : Int) = (x : Int) * 2 ^ r := by rw [Int.natCast_mul, cast_pow2]
set_option maxRecDepth 100000 in
set_option maxHeartbeats 2000000 in
theorem moved_any (A : Option Addr) (X c r : Nat) (w : World) (hA : CanAt w A X) (hr : r < 32) (hl : ll X ≤ 524288) :
    Calls Tryd.prog 124 #[.slice A (ll X) c, .int .i64 r] w (MovedPost w (X * 2 ^ r) (ll X + 1)) := by
  obtain ⟨i0, hi, hz0, hz1, hz2⟩ := info_parts info_u32
  have CA := Lib.hid hA
  have BX := Lib.hid (lt_powL X)
  clear hA
  obtain ⟨n, hn⟩ : ∃ n, ll X = n := ⟨_, rfl⟩
  have HN := Lib.hid hn
  rw [hn] at BX hl ⊢
  clear hn
  go_enter Tryd.func124, Tryd.ntmps124
  go_wp2_with (at_make; refine wpList_make_own _ rfl _ _ 47 rfl w.heap.size 49 i0 (.int .u32 0) 1 Tryd.underlying47 hi hz0 hz1 _ _ _ (n + 1) rfl rfl ?c0 ?c1 ?c2 ?c3 ?_)
  case c0 => omega
  case c1 => rw [hz2]; omega
  case c2 => unfold maxLen; omega
  case c3 => exact Nat.le_refl _
  intro w1 hown1 hg1
  have HO1 := Lib.hid hown1
  have HB1 : Hid (Below w.heap.size w w1) := Lib.hid ((Below.refl _ _).grown hg1 (Nat.le_refl _) (fun _ h => by cases h))
  clear hown1 hg1
  go_wp2_with fail
  go_loopw [5, 6, 16] (fun v5 v6 v16 wr => MovedRel w (X * 2 ^ r) n v5 v6 v16 (pcarryL X (2 ^ r)) wr) (fun _ _ v16 _ => n - (intOf v16).toNat)
  case atStart => exact ⟨0, Nat.zero_le _, rfl, by rw [pcarry_zeroL]; rfl, HO1.out, HB1.out⟩
  case round =>
    obtain ⟨i, hk, rfl, rfl, hown, hbel⟩ := hrel
    have HO := Lib.hid hown
    have HB := Lib.hid hbel
    clear hown hbel
    by_cases hkl : i < n
    · have hkI : (i : Int) < (n : Int) := by omega
      have hiN : i < (dig 4294967296 X).length := by have := HN.out; unfold ll at this; omega
      obtain ⟨ba, oa, hae, ha0⟩ := (CA.out.below HB.out).val hiN
      subst hae
      rw [dig_getDL] at ha0
      have hx : X / 4294967296 ^ i % 4294967296 < 4294967296 := Nat.mod_lt _ (by decide)
      have hst := pcarry_stepL X (2 ^ r) i
      have hcl := pcarry_ltL X (2 ^ r) i (Nat.two_pow_pos r)
      have h31 : 2 ^ r ≤ 2147483648 := show 2 ^ r ≤ 2 ^ 31 from Nat.pow_le_pow_right (by decide) (by omega)
      have hxr : X / 4294967296 ^ i % 4294967296 * 2 ^ r ≤ 4294967295 * 2147483648 := Nat.mul_le_mul (by omega) h31
      have hor : bits .or .u64 (IntKind.u64.wrap (((X / 4294967296 ^ i % 4294967296 : Nat) : Int) * 2 ^ r)) ((pcarryL X (2 ^ r) i : Nat) : Int) = ((X / 4294967296 ^ i % 4294967296 * 2 ^ r + pcarryL X (2 ^ r) i : Nat) : Int) := by
        rw [← cast_shl, IntWalk.u64_in _ (by omega)]
        exact or_carry _ _ r hx hcl hr
      have hsb : X / 4294967296 ^ i % 4294967296 * 2 ^ r + pcarryL X (2 ^ r) i < 9223372036854775808 := by omega
      generalize X / 4294967296 ^ i % 4294967296 * 2 ^ r + pcarryL X (2 ^ r) i = s at *
      generalize X / 4294967296 ^ i % 4294967296 = x at *
      have HST := Lib.hid hst
      generalize pcarryL X (2 ^ r) i = cy at *
      clear hst hcl h31 hiN hxr
      go_wp2_with (at_builtin; refine wpList_append_own _ rfl _ _ 47 rfl w.heap.size 49 i0 (.int .u32 0) 1 4 Tryd.underlying47 hi hz0 hz1 hz2 rfl (by decide) _ _ _ rfl (HO.out.alloc _) ⟨wr.heap.size, 0, none⟩ 1 1 [.int .u32 ((s : Int) % 4294967296)] rfl rfl ?c1 ?c2 ?c3 ?c4 ?c5 ?_)
      case c1 => exact (cell_one_new _ _ _)
      case c2 => exact one_oneCell rfl
      case c3 => unfold maxLen; omega
      case c4 => omega
      case c5 => have := HB.out.size; simp; omega
      intro v2 w2 hown2 hg2 _
      have HO2 : Hid (OwnL w2 w.heap.size v2 (X * 2 ^ r) (i + 1)) := Lib.hid (ownL_succ (y := s % 4294967296) (by rw [show ((s % 4294967296 : Nat) : Int) = (s : Int) % 4294967296 by omega]; exact hown2) HST.out.1)
      have HB2 := Lib.hid ((HB.out.alloc HB.out.size _).grown hg2 (by have := HB.out.size; simp; omega) (fun q hq => (HO.out.lt q hq).1))
      have HC2 : Hid ((s : Int) / 4294967296 = ((pcarryL X (2 ^ r) (i + 1) : Nat) : Int)) := Lib.hid (by rw [← HST.out.2]; omega)
      clear hown2 hg2 hor
      go_wp2_with fail
      go_roundw
      case rel => exact ⟨i + 1, by omega, by go_num, by rw [HC2.out], HO2.out, HB2.out⟩
      case measure => simp [intOf]; omega
    · obtain rfl : i = n := by omega
      have hX : X * 2 ^ r / 4294967296 ^ i = pcarryL X (2 ^ r) i := by
        rw [pcarry_eqL, Nat.div_eq_of_lt BX.out, Nat.zero_mul, Nat.zero_add]
      have hcl := pcarry_ltL X (2 ^ r) i (Nat.two_pow_pos r)
      have h31 : 2 ^ r ≤ 2147483648 := show 2 ^ r ≤ 2 ^ 31 from Nat.pow_le_pow_right (by decide) (by omega)
      have hcb : pcarryL X (2 ^ r) i < 4294967296 := by omega
      have HX := Lib.hid hX
      generalize pcarryL X (2 ^ r) i = cy at *
      have hm : (cy : Int) % 4294967296 = cy := by omega
      clear hX hcl h31
      go_wp2_with (at_builtin; refine wpList_append_own _ rfl _ _ 47 rfl w.heap.size 49 i0 (.int .u32 0) 1 4 Tryd.underlying47 hi hz0 hz1 hz2 rfl (by decide) _ _ _ rfl (HO.out.alloc _) ⟨wr.heap.size, 0, none⟩ 1 1 [.int .u32 (cy : Int)] rfl rfl ?d1 ?d2 ?d3 ?d4 ?d5 ?_)
      case d1 => exact (cell_one_new _ _ _)
      case d2 => exact one_oneCell rfl
      case d3 => unfold maxLen; omega
      case d4 => omega
      case d5 => have := HB.out.size; simp; omega
      intro v2 w2 hown2 hg2 _
      have HO2 : Hid (OwnL w2 w.heap.size v2 (X * 2 ^ r) (i + 1)) := Lib.hid (ownL_succ (y := cy) hown2 (by rw [HX.out, Nat.mod_eq_of_lt hcb]))
      have HB2 := Lib.hid ((HB.out.alloc HB.out.size _).grown hg2 (by have := HB.out.size; simp; omega) (fun q hq => (HO.out.lt q hq).1))
      clear hown2 hg2 hm
      go_wp2_with fail
      go_ret
      exact ⟨v2, rfl, HO2.out, HB2.out⟩
end Go.Proofs.YtgckfilmhnapeaaDoor

namespace Go.Proofs.YtgckfilmhnapeaaDoor
open Go.RowKit
set_option linter.unusedVariables false

/-- limbs of a number at an address, so many -/
def LimbsAt (w : World) (g o n Y : Nat) : Prop := ∀ i, i < n → w.cell? ⟨g, o + i, none⟩ = some (.int .u32 ((Y / 4294967296 ^ i % 4294967296 : Nat) : Int))
theorem LimbsAt.grown {w w' : World} {g h o n Y : Nat} (hl : LimbsAt w g o n Y) (hg : w.grownBy w' (some h)) (hne : g ≠ h) : LimbsAt w' g o n Y :=
  fun i hi => hg.cell (hl i hi) (by intro e; exact hne (Option.some.inj e))
theorem grown_set {w w' : World} {g : Nat} (h : w.grownBy w' (some g)) (o : Nat) (u : Value) : w.grownBy (w'.setCell ⟨g, o, none⟩ u) (some g) :=
  ⟨h.os, h.tape, h.output, by simpa using h.size, fun k hk hne => (heap_setCell_other w' ⟨g, o, none⟩ k u (fun e => hne (by simp [e]))).trans (h.block k hk hne)⟩
def RowPost (w : World) (base g L C T : Nat) (w' : World) : Prop := OwnL w' base (.slice (some ⟨g, 0, none⟩) L C) T L ∧ w.grownBy w' (some g)
def BelowRel (w : World) (base g L C j n X Y m D : Nat) (v7 v8 v16 : Value) (wr : World) : Prop :=
  ∃ i : Nat, i ≤ n ∧ v16 = .int .i64 i ∧ v7 = .int .u64 (pcarryL Y m i : Nat) ∧ v8 = .int .u64 (carryL (Y * m * 4294967296 ^ j) D (j + i) : Nat) ∧
    wr.ownsRow base 49 1 (.slice (some ⟨g, 0, none⟩) L C) L (vals .u32 (mixD D X (j + i) L)) ∧ w.grownBy wr (some g)
theorem mask32 (p : Nat) (h : p < 18446744073709551616) : bits .and .u64 (p : Int) 4294967295 = ((p % 4294967296 : Nat) : Int) := by
  have := u64_and_nat p 4294967295 h (by decide)
  rw [show p &&& 4294967295 = p % 4294967296 from Nat.and_two_pow_sub_one_eq_mod p 32] at this
  exact this
theorem sub_limb (x pl bo dd b2 : Nat) (hx : x < 4294967296) (hpl : pl < 4294967296) (hbo : bo ≤ 1) (hdd : dd < 4294967296)
    (h : (x < pl + bo → dd + pl + bo = x + 4294967296 ∧ b2 = 1) ∧ (pl + bo ≤ x → dd + pl + bo = x ∧ b2 = 0)) :
    ∃ dv : Nat, IntKind.u64.wrap (IntKind.u64.wrap ((x : Int) - pl) - bo) = (dv : Int) ∧ (dv : Int) % 4294967296 = (dd : Int) ∧ (dv : Int) / 9223372036854775808 = (b2 : Int) ∧ dv < 18446744073709551616 ∧ b2 ≤ 1 := by
  rw [IntKind.wrap_u64, IntKind.wrap_u64]
  rcases Nat.lt_or_ge x (pl + bo) with g | g
  · obtain ⟨h1, h2⟩ := h.1 g
    refine ⟨18446744069414584320 + dd, ?_, ?_, ?_, ?_, ?_⟩
    · omega
    · omega
    · omega
    · omega
    · omega
  · obtain ⟨h1, h2⟩ := h.2 g
    refine ⟨dd, ?_, ?_, ?_, ?_, ?_⟩
    · omega
    · omega
    · omega
    · omega
    · omega
set_option maxRecDepth 100000 in
set_option maxHeartbeats 3000000 in
theorem below_any (w : World) (base g L C j n X Y m D c d gy oy : Nat) (hO : OwnL w base (.slice (some ⟨g, 0, none⟩) L C) X L) (hL : j + n + 1 ≤ L) (hLm : L ≤ 1048576) (hY : LimbsAt w gy oy n Y) (hne : gy ≠ g)
    (hX : X < 4294967296 ^ (j + n + 1)) (hYn : Y < 4294967296 ^ n) (hm : m < 4294967296) (hm0 : 0 < m) (hD : Y * m * 4294967296 ^ j + D = X + 4294967296 ^ (j + n + 1)) :
    Calls Tryd.prog 125 #[.slice (some ⟨g, j, none⟩) (n + 1) c, .slice (some ⟨gy, oy, none⟩) n d, .int .u64 m] w
      fun e w' => e = .returned (.bool (decide (X < Y * m * 4294967296 ^ j))) ∧ RowPost w base g L C (D % 4294967296 ^ (j + n + 1)) w' := by
  have HO0 := Lib.hid hO
  have HY := Lib.hid hY
  have HD := Lib.hid hD
  have HX := Lib.hid hX
  have HYn := Lib.hid hYn
  clear hO hY hD hX hYn
  go_enter Tryd.func125, Tryd.ntmps125
  go_wp2_with fail
  go_loopw [7, 8, 16] (fun v7 v8 v16 wr => BelowRel w base g L C j n X Y m D v7 v8 v16 wr) (fun _ _ v16 _ => n - (intOf v16).toNat)
  case atStart => exact ⟨0, Nat.zero_le _, rfl, by rw [pcarry_zeroL]; rfl, by rw [Nat.add_zero, carry_low]; rfl, by
      rw [Nat.add_zero, mixD_congr D X j L (by omega) ⟨Y * m, 4294967296 ^ (n + 1), by rw [← Nat.pow_add, show j + (n + 1) = j + n + 1 by omega, ← HD.out, Nat.mul_comm (4294967296 ^ j), Nat.add_comm]⟩]
      exact HO0.out, World.grownBy.refl _ _⟩
  case round =>
    obtain ⟨i, hk, rfl, rfl, rfl, hown, hgr⟩ := hrel
    have HO := Lib.hid hown
    have HG := Lib.hid hgr
    clear hown hgr
    by_cases hkl : i < n
    · have hkI : (i : Int) < (n : Int) := by omega
      have hy := (HY.out.grown HG.out hne) i hkl
      have hcell := HO.out.cellAt (j + i) (by omega)
      rw [vals_get _ _ _ (by rw [mixD_len _ _ _ _ (by omega)]; omega), mixD_get _ _ _ _ (by omega)] at hcell
      have hfz := HO.out.frozenAt (j + i)
      obtain ⟨r, hr⟩ : ∃ r, j + n + 1 = j + i + 1 + r := ⟨n - i, by omega⟩
      have hbs := below_step (Y * m) D X j i r (by rw [← hr]; exact HD.out)
      have hpc := pcarry_stepL Y m i
      have hpl := pcarry_ltL Y m i hm0
      have hcl := carry_leL (Y * m * 4294967296 ^ j) D (j + i)
      have hlm : Y / 4294967296 ^ i % 4294967296 < 4294967296 := Nat.mod_lt _ (by decide)
      have hxm : X / 4294967296 ^ (j + i) % 4294967296 < 4294967296 := Nat.mod_lt _ (by decide)
      have hdm : D / 4294967296 ^ (j + i) % 4294967296 < 4294967296 := Nat.mod_lt _ (by decide)
      have hst : ∀ z : Nat, z = D / 4294967296 ^ (j + i) % 4294967296 → (wr.setCell ⟨g, j + i, none⟩ (.int .u32 (z : Int))).ownsRow base 49 1 (.slice (some ⟨g, 0, none⟩) L C) L (vals .u32 (mixD D X (j + (i + 1)) L)) := fun z hz => by
        have := (HO.out.stored (j + i) (.int .u32 (z : Int))).1
        rw [vals_set, hz, mixD_set0 _ _ _ _ (by omega)] at this
        rw [hz]
        exact this
      have HST := Lib.hid hst
      generalize Y / 4294967296 ^ i % 4294967296 = yl at *
      generalize X / 4294967296 ^ (j + i) % 4294967296 = x at *
      generalize D / 4294967296 ^ (j + i) % 4294967296 = dd at *
      obtain ⟨cy, hcy⟩ : ∃ cy, pcarryL Y m i = cy := ⟨_, rfl⟩
      obtain ⟨bo, hbo⟩ : ∃ bo, carryL (Y * m * 4294967296 ^ j) D (j + i) = bo := ⟨_, rfl⟩
      rw [hcy] at hpc hpl ⊢
      rw [hbo] at hbs hcl ⊢
      have hz0 : yl * m ≤ 4294967295 * 4294967295 := Nat.mul_le_mul (by omega) (by omega)
      have hzI : (yl : Int) * (m : Int) = ((yl * m : Nat) : Int) := rfl
      generalize yl * m = z at *
      rw [← hpc.1] at hbs
      obtain ⟨p, hp⟩ : ∃ p, z + cy = p := ⟨_, rfl⟩
      have hpI : (z : Int) + (cy : Int) = (p : Int) := by omega
      rw [hp] at hpc hbs
      have hpb : p < 18446744073709551616 := by omega
      have hmask := mask32 p hpb
      have hw1 : IntKind.u64.wrap (z : Int) = z := IntWalk.u64_in _ (by omega)
      have hw2 : IntKind.u64.wrap (p : Int) = p := IntWalk.u64_in _ (by omega)
      have HP2 := Lib.hid hpc.2
      have hlow : p % 4294967296 < 4294967296 := Nat.mod_lt _ (by decide)
      have hdiv : (p : Int) / 4294967296 = ((p / 4294967296 : Nat) : Int) := rfl
      generalize p / 4294967296 = ph at *
      generalize p % 4294967296 = pl at *
      clear hp hpc hcy hbo hpb hz0 hpl hst hk
      obtain ⟨b2, hb2⟩ : ∃ b2, carryL (Y * m * 4294967296 ^ j) D (j + i + 1) = b2 := ⟨_, rfl⟩
      rw [hb2] at hbs
      obtain ⟨dv, v1, v2, v3, v4, v5⟩ := sub_limb x pl bo dd b2 hxm hlow hcl hdm hbs
      have V3 := Lib.hid v3
      have HB2 := Lib.hid hb2
      clear hbs hb2 v3
      have HS2 := Lib.hid (HST.out dd rfl)
      have HG2 := Lib.hid (grown_set HG.out (j + i) (.int .u32 (dd : Int)))
      go_wp2_with fail
      go_roundw
      case rel => exact ⟨i + 1, by omega, by go_num, by rw [HP2.out], by rw [V3.out, ← HB2.out, Nat.add_assoc] <;> rfl, HS2.out, HG2.out⟩
      case measure => simp [intOf]; omega
    · obtain rfl : i = n := by omega
      have hcell := HO.out.cellAt (j + i) (by omega)
      rw [vals_get _ _ _ (by rw [mixD_len _ _ _ _ (by omega)]; omega), mixD_get _ _ _ _ (by omega)] at hcell
      have hfz := HO.out.frozenAt (j + i)
      have hbs := below_step (Y * m) D X j i 0 (by exact HD.out)
      have hpl := pcarry_ltL Y m i hm0
      have hcl := carry_leL (Y * m * 4294967296 ^ j) D (j + i)
      have hS : Y * m / 4294967296 ^ i = pcarryL Y m i := by rw [pcarry_eqL, Nat.div_eq_of_lt HYn.out, Nat.zero_mul, Nat.zero_add]
      have hSm : pcarryL Y m i < 4294967296 := by omega
      rw [hS, Nat.mod_eq_of_lt hSm] at hbs
      have hSl : Y * m * 4294967296 ^ j < 4294967296 ^ (j + i + 1) := by
        have h1 : Y * m < 4294967296 ^ (i + 1) := by
          have h2 := Nat.div_add_mod (Y * m) (4294967296 ^ i)
          have h3 := Nat.mod_lt (Y * m) (pow_posL i)
          have h4 : 4294967296 ^ i * (Y * m / 4294967296 ^ i) ≤ 4294967296 ^ i * 4294967295 := Nat.mul_le_mul_left _ (by omega)
          rw [Nat.pow_succ]
          omega
        rw [Nat.add_assoc, Nat.pow_add, Nat.mul_comm]
        exact Nat.mul_lt_mul_of_pos_left h1 (pow_posL j)
      have hlast := below_last (Y * m) D X j (j + i + 1) HD.out HX.out hSl
      rw [hlast] at hbs
      obtain ⟨b2, hb2⟩ : ∃ b2 : Nat, (if X < Y * m * 4294967296 ^ j then 1 else 0) = b2 := ⟨_, rfl⟩
      have HB2 : Hid (Eq (α := Bool) ((b2 : Int) == 1) (decide (X < Y * m * 4294967296 ^ j))) := Lib.hid (by
        by_cases h : X < Y * m * 4294967296 ^ j
        · rw [← hb2, if_pos h, decide_eq_true h]; rfl
        · rw [← hb2, if_neg h, decide_eq_false h]; rfl)
      rw [hb2] at hbs
      clear hb2 hlast
      have hxm : X / 4294967296 ^ (j + i) % 4294967296 < 4294967296 := Nat.mod_lt _ (by decide)
      have hdm : D / 4294967296 ^ (j + i) % 4294967296 < 4294967296 := Nat.mod_lt _ (by decide)
      have hst : ∀ z : Nat, z = D / 4294967296 ^ (j + i) % 4294967296 → OwnL (wr.setCell ⟨g, j + i, none⟩ (.int .u32 (z : Int))) base (.slice (some ⟨g, 0, none⟩) L C) (D % 4294967296 ^ (j + i + 1)) L := fun z hz => by
        have := (HO.out.stored (j + i) (.int .u32 (z : Int))).1
        rw [vals_set, hz, mixD_set0 _ _ _ _ (by omega), mixD_cut _ _ _ _ (by omega) HX.out] at this
        rw [hz]
        exact this
      have HST := Lib.hid hst
      generalize X / 4294967296 ^ (j + i) % 4294967296 = x at *
      generalize D / 4294967296 ^ (j + i) % 4294967296 = dd at *
      generalize pcarryL Y m i = cy at *
      generalize carryL (Y * m * 4294967296 ^ j) D (j + i) = bo at *
      obtain ⟨dv, v1, v2, v3, v4, v5⟩ := sub_limb x cy bo dd b2 hxm hSm hcl hdm hbs
      have V3 := Lib.hid v3
      have hx64 : IntKind.u64.wrap (x : Int) = x := IntWalk.u64_in _ (by omega)
      have HS2 := Lib.hid (HST.out dd rfl)
      have HG2 := Lib.hid (grown_set HG.out (j + i) (.int .u32 (dd : Int)))
      clear hbs hst hS hSl hpl hk v3
      go_wp2_with fail
      go_ret
      exact ⟨by rw [V3.out, HB2.out]; rfl, HS2.out, HG2.out⟩
end Go.Proofs.YtgckfilmhnapeaaDoor

namespace Go.Proofs.YtgckfilmhnapeaaDoor
open Go.RowKit
set_option linter.unusedVariables false

def BackRel (w : World) (base g L C j n E Y : Nat) (v4 v10 : Value) (wr : World) : Prop :=
  ∃ i : Nat, i ≤ n ∧ v10 = .int .i64 i ∧ v4 = .int .u64 (carryL E (Y * 4294967296 ^ j) (j + i) : Nat) ∧
    wr.ownsRow base 49 1 (.slice (some ⟨g, 0, none⟩) L C) L (vals .u32 (mixD (E + Y * 4294967296 ^ j) E (j + i) L)) ∧ w.grownBy wr (some g)
set_option maxRecDepth 100000 in
set_option maxHeartbeats 3000000 in
theorem back_any (w : World) (base g L C j n E Y c d gy oy : Nat) (hO : OwnL w base (.slice (some ⟨g, 0, none⟩) L C) E L) (hL : j + n + 1 ≤ L) (hLm : L ≤ 1048576) (hY : LimbsAt w gy oy n Y) (hne : gy ≠ g)
    (hE : E < 4294967296 ^ (j + n + 1)) (hYn : Y < 4294967296 ^ n) :
    Calls Tryd.prog 126 #[.slice (some ⟨g, j, none⟩) (n + 1) c, .slice (some ⟨gy, oy, none⟩) n d] w
      fun e w' => e = .returned (.tuple #[]) ∧ RowPost w base g L C ((E + Y * 4294967296 ^ j) % 4294967296 ^ (j + n + 1)) w' := by
  have HO0 := Lib.hid hO
  have HY := Lib.hid hY
  have HE := Lib.hid hE
  have HYn := Lib.hid hYn
  clear hO hY hE hYn
  go_enter Tryd.func126, Tryd.ntmps126
  go_wp2_with fail
  go_loopw [4, 10] (fun v4 v10 wr => BackRel w base g L C j n E Y v4 v10 wr) (fun _ v10 _ => n - (intOf v10).toNat)
  case atStart => exact ⟨0, Nat.zero_le _, rfl, by rw [Nat.add_zero, carry_low2]; rfl, by
      rw [Nat.add_zero, mixD_congr (E + Y * 4294967296 ^ j) E j L (by omega) ⟨0, Y, by rw [Nat.mul_zero, Nat.add_zero, Nat.mul_comm]⟩]
      exact HO0.out, World.grownBy.refl _ _⟩
  case round =>
    obtain ⟨i, hk, rfl, rfl, hown, hgr⟩ := hrel
    have HO := Lib.hid hown
    have HG := Lib.hid hgr
    clear hown hgr
    have hcell := HO.out.cellAt (j + i) (by omega)
    rw [vals_get _ _ _ (by rw [mixD_len _ _ _ _ (by omega)]; omega), mixD_get _ _ _ _ (by omega)] at hcell
    have hfz := HO.out.frozenAt (j + i)
    have hbs := back_step Y E j i
    have hcl := carry_leL E (Y * 4294967296 ^ j) (j + i)
    have hlm : Y / 4294967296 ^ i % 4294967296 < 4294967296 := Nat.mod_lt _ (by decide)
    have hxm : E / 4294967296 ^ (j + i) % 4294967296 < 4294967296 := Nat.mod_lt _ (by decide)
    by_cases hkl : i < n
    · have hkI : (i : Int) < (n : Int) := by omega
      have hy := (HY.out.grown HG.out hne) i hkl
      have hst : ∀ z : Nat, z = (E + Y * 4294967296 ^ j) / 4294967296 ^ (j + i) % 4294967296 → (wr.setCell ⟨g, j + i, none⟩ (.int .u32 (z : Int))).ownsRow base 49 1 (.slice (some ⟨g, 0, none⟩) L C) L (vals .u32 (mixD (E + Y * 4294967296 ^ j) E (j + (i + 1)) L)) := fun z hz => by
        have := (HO.out.stored (j + i) (.int .u32 (z : Int))).1
        rw [vals_set, hz, mixD_set0 _ _ _ _ (by omega)] at this
        rw [hz]
        exact this
      have HST := Lib.hid hst
      generalize Y / 4294967296 ^ i % 4294967296 = yl at *
      generalize E / 4294967296 ^ (j + i) % 4294967296 = x at *
      obtain ⟨cy, hcy⟩ : ∃ cy, carryL E (Y * 4294967296 ^ j) (j + i) = cy := ⟨_, rfl⟩
      rw [hcy] at hbs hcl ⊢
      have H2 := Lib.hid hbs.2
      have HS2 := Lib.hid (HST.out _ hbs.1)
      have HG2 := Lib.hid (grown_set HG.out (j + i) (.int .u32 (((x + yl + cy) % 4294967296 : Nat) : Int)))
      have e1 : (((x + yl + cy) % 4294967296 : Nat) : Int) = ((x : Int) + yl + cy) % 4294967296 := by omega
      rw [e1] at HS2 HG2
      have E2 : Hid (((x : Int) + yl + cy) / 4294967296 = ((carryL E (Y * 4294967296 ^ j) (j + i + 1) : Nat) : Int)) := Lib.hid (by rw [← H2.out]; omega)
      clear hbs hst hcy e1
      go_wp2_with fail
      go_roundw
      case rel => exact ⟨i + 1, by omega, by go_num, by rw [E2.out, Nat.add_assoc] <;> rfl, HS2.out, HG2.out⟩
      case measure => simp [intOf]; omega
    · obtain rfl : i = n := by omega
      have hY0 : Y / 4294967296 ^ i = 0 := Nat.div_eq_of_lt HYn.out
      rw [hY0, Nat.zero_mod, Nat.add_zero] at hbs
      have hst : ∀ z : Nat, z = (E + Y * 4294967296 ^ j) / 4294967296 ^ (j + i) % 4294967296 → OwnL (wr.setCell ⟨g, j + i, none⟩ (.int .u32 (z : Int))) base (.slice (some ⟨g, 0, none⟩) L C) ((E + Y * 4294967296 ^ j) % 4294967296 ^ (j + i + 1)) L := fun z hz => by
        have := (HO.out.stored (j + i) (.int .u32 (z : Int))).1
        rw [vals_set, hz, mixD_set0 _ _ _ _ (by omega), mixD_cut _ _ _ _ (by omega) HE.out] at this
        rw [hz]
        exact this
      have HST := Lib.hid hst
      generalize E / 4294967296 ^ (j + i) % 4294967296 = x at *
      obtain ⟨cy, hcy⟩ : ∃ cy, carryL E (Y * 4294967296 ^ j) (j + i) = cy := ⟨_, rfl⟩
      rw [hcy] at hbs hcl ⊢
      have HS2 := Lib.hid (HST.out _ hbs.1)
      have HG2 := Lib.hid (grown_set HG.out (j + i) (.int .u32 (((x + cy) % 4294967296 : Nat) : Int)))
      have e1 : (((x + cy) % 4294967296 : Nat) : Int) = ((x : Int) + cy) % 4294967296 := by omega
      rw [e1] at HS2 HG2
      clear hbs hst hcy e1 hY0 hlm hk
      go_wp2_with fail
      go_end0
      exact ⟨rfl, HS2.out, HG2.out⟩
end Go.Proofs.YtgckfilmhnapeaaDoor
