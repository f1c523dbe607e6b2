/- The tables of math/bits and of ieee; TrailingZeros. -/
import Derived.Test.YtgckfilmhnapeaaDoorPn9
import Derived.Test.YtgckfilmhnapeaaDoorFp3
namespace Go.Proofs.YtgckfilmhnapeaaDoor
open Go.RowKit
set_option linter.unusedVariables false

def tz32L : List Nat := [0, 1, 28, 2, 29, 14, 24, 3, 30, 22, 20, 15, 25, 17, 4, 8, 31, 27, 13, 23, 21, 19, 16, 7, 26, 12, 18, 6, 11, 5, 10, 9]
def tz64L : List Nat := [0, 1, 56, 2, 57, 49, 28, 3, 61, 58, 42, 50, 38, 29, 17, 4, 62, 47, 59, 36, 45, 43, 51, 22, 53, 39, 33, 30, 24, 18, 12, 5, 63, 55, 48, 27, 60, 41, 37, 16, 46, 35, 44, 21, 52, 32, 23, 11, 54, 26, 40, 15, 34, 20, 31, 10, 25, 14, 19, 9, 13, 8, 7, 6]
/-- the shapes of the widths: the fraction's bits, the least power, the exponent's bits -/
def shpL : List Int := [10, -24, 5, 23, -149, 8, 52, -1074, 11]
/-- the tables lie as the program lays them -/
structure Tabs0 (w : World) : Prop where
  b32 : 1 < w.heap.size
  bs : 0 < w.heap.size
  t32 : ∀ i, i < 32 → w.cell? ⟨1, i, none⟩ = some (.int .u8 ((tz32L.getD i 0 : Nat) : Int))
  ts : ∀ i, i < 9 → w.cell? ⟨0, i, none⟩ = some (.int .i64 (shpL.getD i 0))
theorem Tabs0.below {w w' : World} (h : Tabs0 w) (hb : Below w.heap.size w w') : Tabs0 w' :=
  ⟨Nat.lt_of_lt_of_le h.b32 hb.size, Nat.lt_of_lt_of_le h.bs hb.size,
   fun i hi => (hb.cell (p := ⟨1, i, none⟩) h.b32).trans (h.t32 i hi),
   fun i hi => (hb.cell (p := ⟨0, i, none⟩) h.bs).trans (h.ts i hi)⟩
theorem Tabs0.drewN {w : World} (h : Tabs0 w) (n : Nat) : Tabs0 (w.drewN n) := ⟨h.b32, h.bs, h.t32, h.ts⟩
/-- the table of 64 bits, too -/
structure Tabs (w : World) : Prop where
  small : Tabs0 w
  b64 : 3 < w.heap.size
  t64 : ∀ i, i < 64 → w.cell? ⟨3, i, none⟩ = some (.int .u8 ((tz64L.getD i 0 : Nat) : Int))
instance {w : World} : Coe (Tabs w) (Tabs0 w) := ⟨Tabs.small⟩
theorem Tabs.below {w w' : World} (h : Tabs w) (hb : Below w.heap.size w w') : Tabs w' :=
  ⟨h.small.below hb, Nat.lt_of_lt_of_le h.b64 hb.size,
   fun i hi => (hb.cell (p := ⟨3, i, none⟩) h.b64).trans (h.t64 i hi)⟩
theorem Tabs.drewN {w : World} (h : Tabs w) (n : Nat) : Tabs (w.drewN n) := ⟨h.small.drewN n, h.b64, h.t64⟩

theorem and_odd (u v : Nat) (h : u &&& v = 0) : (2 * u + 1) &&& (2 * v + 1) = 1 := by
  apply Nat.eq_of_testBit_eq
  intro i
  cases i with
  | zero => simp
  | succ i =>
    have := congrArg (fun z => z.testBit i) h
    simp only [Nat.testBit_and, Nat.zero_testBit] at this
    rw [Nat.testBit_and, Nat.testBit_succ, Nat.testBit_succ, Nat.testBit_succ, show (2 * u + 1) / 2 = u by omega, show (2 * v + 1) / 2 = v by omega, show 1 / 2 = 0 from rfl, Nat.zero_testBit]
    exact this
theorem and_compl (u k : Nat) (h : u < 2 ^ k) : u &&& (2 ^ k - (u + 1)) = 0 := by
  apply Nat.eq_of_testBit_eq
  intro i
  rw [Nat.testBit_and, Nat.testBit_two_pow_sub_succ h, Nat.zero_testBit]
  cases u.testBit i <;> simp
/-- the lowest bit alone -/
theorem and_neg (t u k : Nat) (h : (2 * u + 1) * 2 ^ t < 2 ^ k) : ((2 * u + 1) * 2 ^ t) &&& (2 ^ k - (2 * u + 1) * 2 ^ t) = 2 ^ t := by
  have htk : t < k := by
    rcases Nat.lt_or_ge t k with g | g
    · exact g
    · have h1 : 2 ^ k ≤ 2 ^ t := Nat.pow_le_pow_right (by decide) g
      have h2 : 1 * 2 ^ t ≤ (2 * u + 1) * 2 ^ t := Nat.mul_le_mul_right _ (by omega)
      omega
  obtain ⟨d, rfl⟩ : ∃ d, k = d + 1 + t := ⟨k - t - 1, by omega⟩
  rw [Nat.pow_add] at h ⊢
  have h1 : 2 * u + 1 < 2 ^ (d + 1) := Nat.lt_of_mul_lt_mul_right h
  rw [Nat.pow_succ] at h1
  have hu : u < 2 ^ d := by omega
  rw [← Nat.sub_mul, ← Nat.shiftLeft_eq, ← Nat.shiftLeft_eq, ← Nat.shiftLeft_and_distrib, show 2 ^ (d + 1) - (2 * u + 1) = 2 * (2 ^ d - (u + 1)) + 1 by rw [Nat.pow_succ]; omega, and_odd u _ (and_compl u d hu), Nat.shiftLeft_eq, Nat.one_mul]
theorem tz32_tab : ∀ t, t < 32 → tz32L.getD (2 ^ t * 125613361 % 4294967296 / 134217728) 0 = t ∧ 2 ^ t * 125613361 % 4294967296 / 134217728 < 32 :=
  fun t ht => (show ∀ t, t < 32 → tz32L.getD (2 ^ t * 125613361 % 4294967296 / 134217728) 0 = t ∧ 2 ^ t * 125613361 % 4294967296 / 134217728 < 32 from of_decide_eq_true (by kernel_rfl)) t ht
theorem tz64_tab : ∀ t, t < 64 → tz64L.getD (2 ^ t * 285870213051353865 % 18446744073709551616 / 288230376151711744) 0 = t ∧ 2 ^ t * 285870213051353865 % 18446744073709551616 / 288230376151711744 < 64 :=
  fun t ht => (show ∀ t, t < 64 → tz64L.getD (2 ^ t * 285870213051353865 % 18446744073709551616 / 288230376151711744) 0 = t ∧ 2 ^ t * 285870213051353865 % 18446744073709551616 / 288230376151711744 < 64 from of_decide_eq_true (by kernel_rfl)) t ht
theorem neg_mod (x M : Nat) (h0 : 0 < x) (h : x < M) : (-(x : Int)) % (M : Int) = ((M - x : Nat) : Int) := by
  have : -(x : Int) = ((M - x : Nat) : Int) + (-1) * (M : Int) := by omega
  rw [this, Int.add_mul_emod_self_right]
  exact Int.emod_eq_of_lt (by omega) (by omega)
theorem cast_mulmod (a c M : Nat) : ((a * c % M : Nat) : Int) = (a : Int) * (c : Int) % (M : Int) := by rw [Int.natCast_emod, Int.natCast_mul]
theorem t_lt (t u k : Nat) (h : (2 * u + 1) * 2 ^ t < 2 ^ k) : t < k := by
  rcases Nat.lt_or_ge t k with g | g
  · exact g
  · have h1 : 2 ^ k ≤ 2 ^ t := Nat.pow_le_pow_right (by decide) g
    have h2 : 1 * 2 ^ t ≤ (2 * u + 1) * 2 ^ t := Nat.mul_le_mul_right _ (by omega)
    omega
theorem two64 : (2 : Nat) ^ 64 = 18446744073709551616 := by decide
theorem tz64_facts (t u x : Nat) (hx : x = (2 * u + 1) * 2 ^ t) (hlt : x < 18446744073709551616) : t < 64 ∧ 0 < x ∧ 2 ^ t ≤ 9223372036854775808 ∧
    bits .and .u64 (x : Int) ((18446744073709551616 - x : Nat) : Int) = ((2 ^ t : Nat) : Int) ∧ IntKind.u64.wrap (-(x : Int)) = ((18446744073709551616 - x : Nat) : Int) := by
  have h64 : (2 * u + 1) * 2 ^ t < 2 ^ 64 := by rw [two64, ← hx]; exact hlt
  have ht := t_lt t u 64 h64
  have ha := and_neg t u 64 h64
  rw [← hx, two64] at ha
  have hx0 : 0 < x := by rw [hx]; exact Nat.mul_pos (by omega) (Nat.two_pow_pos t)
  have hp : 2 ^ t ≤ 2 ^ 63 := Nat.pow_le_pow_right (by decide) (by omega)
  refine ⟨ht, hx0, Nat.le_trans hp (by decide), ?_, ?_⟩
  · rw [u64_and_nat x (18446744073709551616 - x) hlt (Nat.sub_lt (by decide) hx0), ha]
  · rw [IntKind.wrap_u64]; exact neg_mod x 18446744073709551616 hx0 hlt
set_option maxRecDepth 100000 in
theorem tz64_walk (t x y p m q : Nat) (hx0 : 0 < x) (hlt : x < 18446744073709551616) (hp : p ≤ 9223372036854775808)
    (h1 : bits .and .u64 (x : Int) (y : Int) = (p : Int)) (h2 : IntKind.u64.wrap (-(x : Int)) = (y : Int))
    (h3 : IntKind.u64.wrap ((p : Int) * 285870213051353865) = (m : Int)) (h5 : (m : Int) / 288230376151711744 = (q : Int)) (e2 : q < 64) (ht : t < 64) (w : World)
    (hc : w.cell? ⟨3, q, none⟩ = some (.int .u8 (t : Int))) :
    Calls Tryd.prog 107 #[.int .u64 x] w fun e w' => e = .returned (.int .i64 t) ∧ w = w' := by
  have h4 : ((x : Int) == 0) = false := by rw [beq_eq_false_iff_ne]; omega
  go_enter Tryd.func107, Tryd.ntmps107
  go_wp2_with fail
  go_ret
  exact ⟨rfl, rfl⟩
theorem tz64_any (t u x : Nat) (hx : x = (2 * u + 1) * 2 ^ t) (hlt : x < 18446744073709551616) (w : World) (hT : Tabs w) :
    Calls Tryd.prog 107 #[.int .u64 x] w fun e w' => e = .returned (.int .i64 t) ∧ w = w' := by
  obtain ⟨ht, hx0, hp, h1, h2⟩ := tz64_facts t u x hx hlt
  obtain ⟨e1, e2⟩ := tz64_tab t ht
  have hc := hT.t64 _ e2
  rw [e1] at hc
  refine tz64_walk t x _ (2 ^ t) (2 ^ t * 285870213051353865 % 18446744073709551616) _ hx0 hlt hp h1 h2 ?_ ?_ e2 ht w hc
  · rw [IntKind.wrap_u64]; exact (cast_mulmod _ _ _).symm
  · exact (Int.natCast_ediv _ _).symm
theorem two32 : (2 : Nat) ^ 32 = 4294967296 := by decide
theorem tz32_facts (t u x : Nat) (hx : x = (2 * u + 1) * 2 ^ t) (hlt : x < 4294967296) : t < 32 ∧ 0 < x ∧ 2 ^ t ≤ 2147483648 ∧
    bits .and .u32 (x : Int) ((4294967296 - x : Nat) : Int) = ((2 ^ t : Nat) : Int) ∧ IntKind.u32.wrap (-(x : Int)) = ((4294967296 - x : Nat) : Int) := by
  have h64 : (2 * u + 1) * 2 ^ t < 2 ^ 32 := by rw [two32, ← hx]; exact hlt
  have ht := t_lt t u 32 h64
  have ha := and_neg t u 32 h64
  rw [← hx, two32] at ha
  have hx0 : 0 < x := by rw [hx]; exact Nat.mul_pos (by omega) (Nat.two_pow_pos t)
  have hp : 2 ^ t ≤ 2 ^ 31 := Nat.pow_le_pow_right (by decide) (by omega)
  refine ⟨ht, hx0, Nat.le_trans hp (by decide), ?_, ?_⟩
  · rw [u32_and_nat x (4294967296 - x) hlt (Nat.sub_lt (by decide) hx0), ha]
  · rw [IntKind.wrap_u32']; exact neg_mod x 4294967296 hx0 hlt
set_option maxRecDepth 100000 in
theorem tz32_walk (t x y p m q : Nat) (hx0 : 0 < x) (hlt : x < 4294967296) (hp : p ≤ 2147483648)
    (h1 : bits .and .u32 (x : Int) (y : Int) = (p : Int)) (h2 : IntKind.u32.wrap (-(x : Int)) = (y : Int))
    (h3 : IntKind.u32.wrap ((p : Int) * 125613361) = (m : Int)) (h5 : (m : Int) / 134217728 = (q : Int)) (e2 : q < 32) (ht : t < 32) (w : World)
    (hc : w.cell? ⟨1, q, none⟩ = some (.int .u8 (t : Int))) :
    Calls Tryd.prog 93 #[.int .u32 x] w fun e w' => e = .returned (.int .i64 t) ∧ w = w' := by
  have h4 : ((x : Int) == 0) = false := by rw [beq_eq_false_iff_ne]; omega
  go_enter Tryd.func93, Tryd.ntmps93
  go_wp2_with fail
  go_ret
  exact ⟨rfl, rfl⟩
theorem tz32_any (t u x : Nat) (hx : x = (2 * u + 1) * 2 ^ t) (hlt : x < 4294967296) (w : World) (hT : Tabs0 w) :
    Calls Tryd.prog 93 #[.int .u32 x] w fun e w' => e = .returned (.int .i64 t) ∧ w = w' := by
  obtain ⟨ht, hx0, hp, h1, h2⟩ := tz32_facts t u x hx hlt
  obtain ⟨e1, e2⟩ := tz32_tab t ht
  have hc := hT.t32 _ e2
  rw [e1] at hc
  refine tz32_walk t x _ (2 ^ t) (2 ^ t * 125613361 % 4294967296) _ hx0 hlt hp h1 h2 ?_ ?_ e2 ht w hc
  · rw [IntKind.wrap_u32']; exact (cast_mulmod _ _ _).symm
  · exact (Int.natCast_ediv _ _).symm
end Go.Proofs.YtgckfilmhnapeaaDoor

namespace Go.Proofs.YtgckfilmhnapeaaDoor
open Go.RowKit
set_option linter.unusedVariables false

theorem mul_can (A B : Option Addr) (X Y c d : Nat) (w : World) (hA : CanAt w A X) (hB : CanAt w B Y) (hc : ll X ≤ c) (hd : ll Y ≤ d) (hcm : c ≤ 9223372036854775807) (hdm : d ≤ 9223372036854775807) (hl : ll X ≤ 524288) (hl2 : ll Y ≤ 524288) :
    Calls Tryd.prog 22 #[.slice A (ll X) c, .slice B (ll Y) d] w (NatPost w (X * Y)) := by
  have := pmul_any A B (ll X) (ll Y) c d _ _ w rfl rfl hA.limbs hB.limbs hc hd hcm hdm hl hl2
  rwa [lval_dig, lval_dig] at this
theorem add_can (A B : Option Addr) (X Y c d : Nat) (w : World) (hA : CanAt w A X) (hB : CanAt w B Y) (hl : ll X ≤ 524288) (hl2 : ll Y ≤ 524288) :
    Calls Tryd.prog 21 #[.slice A (ll X) c, .slice B (ll Y) d] w (NatPost w (X + Y)) := by
  have := padd_any A B (ll X) (ll Y) c d _ _ w rfl rfl hA.limbs hB.limbs (Nat.le_trans hl (by decide)) (Nat.le_trans hl2 (by decide))
  rwa [lval_dig, lval_dig] at this
theorem shl_can (A : Option Addr) (X c N : Nat) (w : World) (hA : CanAt w A X) (hc : ll X ≤ c) (hcm : c ≤ 9223372036854775807) (hN : N + blen X ≤ 8388608) :
    Calls Tryd.prog 54 #[.slice A (ll X) c, .int .i64 N] w (NatPost2 w (X * 2 ^ N)) := by
  have := pshl_any A (ll X) c N _ w rfl hA.limbs hc hcm (by rw [lval_dig]; exact hN)
  rwa [lval_dig] at this
theorem shr_can (A : Option Addr) (X c N : Nat) (w : World) (hA : CanAt w A X) (hc : ll X ≤ c) (hcm : c ≤ 9223372036854775807) (hN : N ≤ 9223372036854775807) (hl : ll X ≤ 1048576) :
    Calls Tryd.prog 90 #[.slice A (ll X) c, .int .i64 N] w (PShrPost w X N) := by
  have := pshr_any A (ll X) c N _ w rfl hA.limbs hc hcm hN hl
  rwa [lval_dig] at this
theorem small_can (A : Option Addr) (X c d : Nat) (w : World) (hA : CanAt w A X) (hl : ll X ≤ 1048576) (hd0 : 0 < d) (hd : d < 4294967296) :
    Calls Tryd.prog 94 #[.slice A (ll X) c, .int .u32 d] w (SmallPost w X d) := by
  have := psmall_any A (ll X) c d _ w rfl hA.limbs hl hd0 hd
  rwa [lval_dig] at this
theorem norm_can (A : Option Addr) (X c : Nat) (w : World) (hA : CanAt w A X) (hc : ll X ≤ c) (hcm : c ≤ 9223372036854775807) (hl : ll X ≤ 1048576) :
    Calls Tryd.prog 91 #[.slice A (ll X) c] w (NatPost w X) := by
  have := pnorm_any A (ll X) c _ w rfl hA.limbs hc hcm hl
  rwa [lval_dig] at this
theorem uint_can (A : Option Addr) (X c : Nat) (w : World) (hA : CanAt w A X) (hc : ll X ≤ c) (hcm : c ≤ 9223372036854775807) (hX : X < 18446744073709551616) :
    Calls Tryd.prog 89 #[.slice A (ll X) c] w fun e w' => e = .returned (.tuple #[.int .u64 (X : Nat), .bool true]) ∧ w = w' := by
  have := puint_any A (ll X) c _ w rfl hA.limbs hc hcm (by rw [lval_dig]; exact hX)
  rwa [lval_dig] at this
theorem cmp_can (A B : Option Addr) (X Y c d : Nat) (w : World) (hA : CanAt w A X) (hB : CanAt w B Y) (hc : ll X ≤ c) (hd : ll Y ≤ d) (hcm : c ≤ 9223372036854775807) (hdm : d ≤ 9223372036854775807) (hl : ll X ≤ 1048576) (hl2 : ll Y ≤ 1048576) :
    Calls Tryd.prog 60 #[.slice A (ll X) c, .slice B (ll Y) d] w fun e w' => e = .returned (.int .i64 (cmpZ X Y)) ∧ Below w.heap.size w w' := by
  have := pcmp_any A B (ll X) (ll Y) c d _ _ w rfl rfl hA.limbs hB.limbs hc hd hcm hdm hl hl2
  rwa [lval_dig, lval_dig] at this
theorem ll_two (X k : Nat) (h : X < 2 ^ (32 * k)) : ll X ≤ k := ll_le X k (by rw [powL]; exact h)
theorem i64_odd (k : Nat) (h : k < 9223372036854775808) : bits .and .i64 (k : Int) 1 = ((k % 2 : Nat) : Int) := by
  show IntKind.i64.wrap ((BitVec.ofInt 64 (k : Int) &&& BitVec.ofInt 64 1).toNat : Int) = _
  rw [BitVec.toNat_and, ofInt_u64 k (by omega), show (BitVec.ofInt 64 1).toNat = 1 from rfl, nat_mask1]
  exact IntWalk.i64_in _ (by omega)
/-- a number handed back, known by its letters -/
structure CanC (w : World) (A : Option Addr) (c X : Nat) : Prop where
  can : CanAt w A X
  le : ll X ≤ c
  max : c ≤ 9223372036854775807
theorem CanC.below {w w' : World} {A : Option Addr} {c X : Nat} (h : CanC w A c X) (hb : Below w.heap.size w w') : CanC w' A c X := ⟨h.can.below hb, h.le, h.max⟩
theorem CanC.drewN {w : World} {A : Option Addr} {c X : Nat} (h : CanC w A c X) (n : Nat) : CanC (w.drewN n) A c X := ⟨h.can.drewN n, h.le, h.max⟩
theorem CanC.mul {w : World} {A B : Option Addr} {c d X Y : Nat} (h : CanC w A c X) (g : CanC w B d Y) (hl : ll X ≤ 524288) (hl2 : ll Y ≤ 524288) :
    Calls Tryd.prog 22 #[.slice A (ll X) c, .slice B (ll Y) d] w (NatPost w (X * Y)) := mul_can A B X Y c d w h.can g.can h.le g.le h.max g.max hl hl2
/-- where the world ends of a call that only makes memory, ahead of another one -/
theorem below_then {B : Nat} {a w w' : World} (h : Below B a w) (hB : B ≤ w.heap.size) (g : Below w.heap.size w w') : Below B a w' := h.trans (g.mono hB)
end Go.Proofs.YtgckfilmhnapeaaDoor
