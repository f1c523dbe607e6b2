/- The program's nat: lists of limbs, cut. -/
import Derived.Test.YtgckfilmhnapeaaDoorNumL
import Derived.Test.YtgckfilmhnapeaaDoorNat4
import Derived.Test.YtgckfilmhnapeaaDoorShelf
import Derived.Laws.BitsAllLaws
import Derived.Laws.CopyOwn
import Derived.StillTailTactics
namespace Go.Proofs.YtgckfilmhnapeaaDoor
open Go.RowKit
set_option linter.unusedVariables false

/-- the number of a list of limbs -/
def lval (xs : List Nat) : Nat := bval 4294967296 xs
def LimbL (xs : List Nat) : Prop := ∀ x ∈ xs, x < 4294967296
/-- limbs at an address -/
structure Limbs (w : World) (A : Option Addr) (xs : List Nat) : Prop where
  rd : Rd w A (vals .u32 xs)
  lt : LimbL xs
theorem Limbs.below {w w' : World} {A : Option Addr} {xs : List Nat} (h : Limbs w A xs) (hb : Below w.heap.size w w') : Limbs w' A xs := ⟨h.rd.below hb, h.lt⟩
theorem Limbs.drewN {w : World} {A : Option Addr} {xs : List Nat} (h : Limbs w A xs) (n : Nat) : Limbs (w.drewN n) A xs := ⟨h.rd, h.lt⟩
theorem CanAt.limbs {w : World} {A : Option Addr} {N : Nat} (h : CanAt w A N) : Limbs w A (dig 4294967296 N) := ⟨h, dig_lt (by decide) N⟩
theorem lval_dig (N : Nat) : lval (dig 4294967296 N) = N := bval_dig (by decide) N
theorem lval_cons (x : Nat) (xs : List Nat) : lval (x :: xs) = x + 4294967296 * lval xs := rfl
theorem lval_at : ∀ (xs : List Nat), LimbL xs → ∀ i, xs.getD i 0 = lval xs / 4294967296 ^ i % 4294967296 := by
  intro xs
  induction xs with
  | nil => intro _ i; show 0 = 0 / 4294967296 ^ i % 4294967296; rw [Nat.zero_div]
  | cons x xs ih =>
    intro h i
    have hx := h x (by simp)
    cases i with
    | zero =>
      rw [lval_cons]
      show x = (x + 4294967296 * lval xs) / 1 % 4294967296
      rw [Nat.div_one]
      omega
    | succ i =>
      rw [List.getD_cons_succ, ih (fun y hy => h y (by simp [hy])), lval_cons, Nat.pow_succ, Nat.mul_comm (4294967296 ^ i), ← Nat.div_div_eq_div_mul]
      congr 2
      omega
theorem lval_lt (xs : List Nat) (h : LimbL xs) : lval xs < 4294967296 ^ xs.length := bval_lt _ xs h
theorem trm_lval (xs : List Nat) (h : LimbL xs) : trm xs = dig 4294967296 (lval xs) := trm_dig (by decide) xs h
theorem getD_limb (xs : List Nat) (h : LimbL xs) (i : Nat) : xs.getD i 0 < 4294967296 := getD_lt (by decide) h i
def CutRel (xs : List Nat) (v : Value) : Prop := ∃ m : Nat, m ≤ xs.length ∧ v = .int .i64 m ∧ trm (xs.take m) = trm xs

set_option maxHeartbeats 800000 in
theorem cut_trm (A : Option Addr) (n cap : Nat) (xs : List Nat) (w : World) (hn : xs.length = n) (hr : Rd w A (vals .u32 xs)) (hc : n ≤ cap) (hm : cap ≤ 9223372036854775807) :
    Calls Tryd.prog 57 #[.slice A n cap] w fun e w' => e = .returned (.slice A (trm xs).length (trm xs).length) ∧ w = w' := by
  subst hn
  have HR := Lib.hid hr
  clear hr
  go_enter Tryd.func57, Tryd.ntmps57
  go_wp2_with fail
  go_loop [3] (fun v => CutRel xs v) (fun v => (intOf v).toNat)
  case atStart => exact ⟨xs.length, Nat.le_refl _, rfl, by rw [List.take_length]⟩
  case round =>
    obtain ⟨m, hk, rfl, ht⟩ := hrel
    have HT := Lib.hid ht
    clear ht
    by_cases h0 : m = 0
    · subst h0
      have hl : (trm xs).length = 0 := by rw [← HT.out]; rfl
      have HL := Lib.hid hl
      clear hl
      go_wp2_with fail
      go_ret
      exact ⟨by rw [HL.out]; rfl, rfl⟩
    · obtain ⟨k, rfl⟩ : ∃ k, m = k + 1 := ⟨m - 1, by omega⟩
      obtain ⟨b, off, rfl, hcell⟩ := HR.out.val (show k < xs.length by omega)
      have r0 : (k : Int) < (xs.length : Int) := by omega
      have r1 : IntKind.i64.wrap ((k : Int) + 1 - 1) = (k : Int) := by rw [show (k : Int) + 1 - 1 = (k : Int) by omega]; exact IntWalk.i64_in _ (by omega)
      by_cases hz : xs.getD k 0 = 0
      · rw [hz] at hcell
        have HN : Hid (CutRel xs (.int .i64 k)) := Lib.hid ⟨k, by omega, rfl, by rw [← HT.out, trm_take_succ xs k (by omega) hz]⟩
        clear hz
        go_wp2_with fail
        exact ⟨HN.out, by simp [intOf]⟩
      · have hz' : (((xs.getD k 0 : Nat) : Int) == 0) = false := by simpa using hz
        have hl : (trm xs).length = k + 1 := by
          rw [← HT.out, trm_take_full xs k (by omega) hz, List.length_take]; omega
        have HL := Lib.hid hl
        clear hl hz
        generalize hx : xs.getD k 0 = x at *
        clear hx
        go_wp2_with fail
        go_ret
        exact ⟨by rw [HL.out]; rfl, rfl⟩
end Go.Proofs.YtgckfilmhnapeaaDoor

namespace Go.Proofs.YtgckfilmhnapeaaDoor
open Go.RowKit
set_option linter.unusedVariables false

theorem cut_any (A : Option Addr) (n cap : Nat) (xs : List Nat) (w : World) (hn : xs.length = n) (hr : Limbs w A xs) (hc : n ≤ cap) (hm : cap ≤ 9223372036854775807) :
    Calls Tryd.prog 57 #[.slice A n cap] w fun e w' => e = .returned (.slice A (ll (lval xs)) (ll (lval xs))) ∧ CanAt w A (lval xs) ∧ ll (lval xs) ≤ n ∧ w = w' := by
  refine (cut_trm A n cap xs w hn hr.rd hc hm).mono ?_
  rintro e w' ⟨rfl, rfl⟩
  have ht := trm_lval xs hr.lt
  have hl : (trm xs).length = ll (lval xs) := by rw [ht]; rfl
  refine ⟨by rw [hl], ?_, by rw [← hl, ← hn]; exact trm_len xs, rfl⟩
  unfold CanAt
  rw [← ht]
  have := hr.rd.take (trm xs).length
  rw [vals_take, trm_take] at this
  exact this
theorem cut_can (A : Option Addr) (N cap : Nat) (w : World) (h : CanAt w A N) (hc : ll N ≤ cap) (hm : cap ≤ 9223372036854775807) :
    Calls Tryd.prog 57 #[.slice A (ll N) cap] w fun e w' => e = .returned (.slice A (ll N) (ll N)) ∧ w = w' := by
  refine (cut_any A (ll N) cap (dig 4294967296 N) w rfl h.limbs hc hm).mono ?_
  rintro e w' ⟨rfl, -, -, rfl⟩
  rw [lval_dig]
  exact ⟨rfl, rfl⟩
theorem wrap32_mod (x : Nat) : IntKind.u32.wrap (x : Int) = ((x % 4294967296 : Nat) : Int) := by rw [IntKind.wrap_u32]; omega
theorem or64_add (h l : Nat) (hh : h < 4294967296) (hl : l < 4294967296) : bits .or .u64 ((h : Int) * 4294967296) (l : Int) = ((h * 4294967296 + l : Nat) : Int) := by
  rw [show (h : Int) * 4294967296 = ((4294967296 * h : Nat) : Int) by omega, u64_or_nat _ _ (by omega) (by omega)]
  have := Nat.two_pow_add_eq_or_of_lt (i := 32) (b := l) hl h
  rw [← this]
  congr 1
  omega

set_option maxRecDepth 100000 in
theorem add32_any (x y c : Nat) (hx : x < 4294967296) (hy : y < 4294967296) (hc : c ≤ 1) (w : World) :
    Calls Tryd.prog 56 #[.int .u32 x, .int .u32 y, .int .u32 c] w fun e w' => e = .returned (.tuple #[.int .u32 (((x + y + c) % 4294967296 : Nat) : Int), .int .u32 (((x + y + c) / 4294967296 : Nat) : Int)]) ∧ w = w' := by
  have q0 : IntKind.u64.wrap (x : Int) = x := IntWalk.u64_in _ (by omega)
  have q1 : IntKind.u64.wrap (y : Int) = y := IntWalk.u64_in _ (by omega)
  have q2 : IntKind.u64.wrap (c : Int) = c := IntWalk.u64_in _ (by omega)
  have q3 : IntKind.u64.wrap ((x : Int) + y) = (x : Int) + y := IntWalk.u64_in _ (by omega)
  have q4 : IntKind.u64.wrap ((x : Int) + y + c) = (x : Int) + y + c := IntWalk.u64_in _ (by omega)
  have Q5 : Hid (((x : Int) + y + c) % 4294967296 = (((x + y + c) % 4294967296 : Nat) : Int)) := Lib.hid (by omega)
  have Q6 : Hid (((x : Int) + y + c) / 4294967296 % 4294967296 = (((x + y + c) / 4294967296 : Nat) : Int)) := Lib.hid (by omega)
  clear hx hy hc
  go_enter Tryd.func56, Tryd.ntmps56
  go_wp2_with fail
  rw [Q5.out, Q6.out]
  go_ret2
  exact ⟨rfl, rfl⟩
set_option maxRecDepth 100000 in
theorem div32_any (h l d : Nat) (hh : h < d) (hl : l < 4294967296) (hd : d < 4294967296) (w : World) :
    Calls Tryd.prog 122 #[.int .u32 h, .int .u32 l, .int .u32 d] w fun e w' => e = .returned (.tuple #[.int .u32 (((h * 4294967296 + l) / d : Nat) : Int), .int .u32 (((h * 4294967296 + l) % d : Nat) : Int)]) ∧ ∃ n, w' = w.drewN n := by
  have q0 : IntKind.u64.wrap (h : Int) = h := IntWalk.u64_in _ (by omega)
  have q1 : IntKind.u64.wrap (l : Int) = l := IntWalk.u64_in _ (by omega)
  have q2 : IntKind.u64.wrap (d : Int) = d := IntWalk.u64_in _ (by omega)
  have q3 := or64_add h l (by omega) hl
  have q4 : ¬ (d : Int) ≤ h := by omega
  have q5 : ((d : Int) == 0) = false := by rw [beq_eq_false_iff_ne]; omega
  have hq : (h * 4294967296 + l) / d < 4294967296 := by
    rw [Nat.div_lt_iff_lt_mul (by omega)]
    have : (h + 1) * 4294967296 ≤ d * 4294967296 := Nat.mul_le_mul_right _ (by omega)
    rw [Nat.mul_comm 4294967296 d]
    omega
  have hr : (h * 4294967296 + l) % d < 4294967296 := Nat.lt_trans (Nat.mod_lt _ (by omega)) hd
  have hM : h * 4294967296 + l < 18446744073709551616 := by omega
  have hd0 : d ≠ 0 := by omega
  generalize hMM : h * 4294967296 + l = M at *
  have HM := Lib.hid hMM
  have hdpos : 0 < (d : Int) := by omega
  have Q8 := Lib.hid hq
  have Q9 := Lib.hid hr
  clear hMM hh hq hr
  go_enter Tryd.func122, Tryd.ntmps122
  have q8 : (M : Int) / d < 4294967296 := Int.ofNat_lt.2 Q8.out
  have q9 : (M : Int) % d < 4294967296 := Int.ofNat_lt.2 Q9.out
  have q10 : 0 ≤ (M : Int) / d := Int.natCast_nonneg (M / d)
  have q11 : 0 ≤ (M : Int) % d := Int.natCast_nonneg (M % d)
  go_wp2_with fail
  go_quiet (fail)
  go_wp2_with fail
  go_wp2_with fail
  go_ret2
  exact ⟨rfl, _, rfl⟩

/-- cmp.Compare of two limbs -/
theorem cmp32_any (x y : Nat) (w : World) :
    Calls Tryd.prog 96 #[.int .u32 x, .int .u32 y] w fun e w' => e = .returned (.int .i64 (cmpZ x y)) ∧ w = w' := by
  rcases Nat.lt_trichotomy x y with g | g | g
  · have HR : Hid (cmpZ x y = -1) := Lib.hid (if_pos g)
    have h1 : (x : Int) < y := by omega
    clear g
    go_enter Tryd.func96, Tryd.ntmps96
    go_wp2
    go_ret
    exact ⟨ret_int' HR.out.symm, rfl⟩
  · subst g
    have HR : Hid (cmpZ x x = 0) := Lib.hid (by unfold cmpZ; rw [if_neg (by omega), if_neg (by omega)])
    go_enter Tryd.func96, Tryd.ntmps96
    go_wp2
    go_ret
    exact ⟨ret_int' HR.out.symm, rfl⟩
  · have HR : Hid (cmpZ x y = 1) := Lib.hid (by unfold cmpZ; rw [if_neg (by omega), if_pos g])
    have h1 : (y : Int) < x := by omega
    have h2 : ¬ (x : Int) < y := by omega
    clear g
    go_enter Tryd.func96, Tryd.ntmps96
    go_wp2
    go_ret
    exact ⟨ret_int' HR.out.symm, rfl⟩
theorem cmpI_any (x y : Nat) (w : World) :
    Calls Tryd.prog 28 #[.int .i64 x, .int .i64 y] w fun e w' => e = .returned (.int .i64 (cmpZ x y)) ∧ w = w' := by
  rcases Nat.lt_trichotomy x y with g | g | g
  · have HR : Hid (cmpZ x y = -1) := Lib.hid (if_pos g)
    have h1 : (x : Int) < y := by omega
    clear g
    go_enter Tryd.func28, Tryd.ntmps28
    go_wp2
    go_ret
    exact ⟨ret_int' HR.out.symm, rfl⟩
  · subst g
    have HR : Hid (cmpZ x x = 0) := Lib.hid (by unfold cmpZ; rw [if_neg (by omega), if_neg (by omega)])
    go_enter Tryd.func28, Tryd.ntmps28
    go_wp2
    go_ret
    exact ⟨ret_int' HR.out.symm, rfl⟩
  · have HR : Hid (cmpZ x y = 1) := Lib.hid (by unfold cmpZ; rw [if_neg (by omega), if_pos g])
    have h1 : (y : Int) < x := by omega
    have h2 : ¬ (x : Int) < y := by omega
    clear g
    go_enter Tryd.func28, Tryd.ntmps28
    go_wp2
    go_ret
    exact ⟨ret_int' HR.out.symm, rfl⟩

theorem limbs_new (w : World) (xs : List Nat) (t : TypeId) (h : LimbL xs) : Limbs (w.alloc (.cells (vals .u32 xs).toArray t)) (some ⟨w.heap.size, 0, none⟩) xs := by
  refine ⟨fun i hi => ⟨w.heap.size, 0, rfl, by simp, ?_⟩, h⟩
  have := (Blk.new w t (vals .u32 xs).toArray).cell i
  rw [Nat.zero_add, this]
  simp
theorem lval_two (a b : Nat) : lval [a, b] = a + 4294967296 * b := by
  rw [lval_cons, lval_cons]; show a + 4294967296 * (b + 4294967296 * 0) = _; omega
set_option maxRecDepth 100000 in
theorem pfrom_any (x : Nat) (hx : x < 18446744073709551616) (w : World) :
    Calls Tryd.prog 58 #[.int .u64 x] w (NatPost w x) := by
  have H1 : Hid ((x : Int) / 4294967296 % 4294967296 = ((x / 4294967296 : Nat) : Int)) := Lib.hid (by omega)
  have hl : LimbL [x % 4294967296, x / 4294967296] := by
    intro y hy; simp at hy; omega
  have hv : lval [x % 4294967296, x / 4294967296] = x := by rw [lval_two]; omega
  have HC : Hid (∀ wx, Limbs wx (some ⟨w.heap.size, 0, none⟩) [x % 4294967296, x / 4294967296] → Calls Tryd.prog 57 #[.slice (some ⟨w.heap.size, 0, none⟩) 2 2] wx fun e w' => e = .returned (.slice (some ⟨w.heap.size, 0, none⟩) (ll x) (ll x)) ∧ CanAt wx (some ⟨w.heap.size, 0, none⟩) x ∧ ll x ≤ 2 ∧ wx = w') := Lib.hid (fun wx h => by
    have := cut_any (some ⟨w.heap.size, 0, none⟩) 2 2 _ wx rfl h (Nat.le_refl _) (by decide)
    rw [hv] at this
    exact this)
  have HL := Lib.hid hl
  clear hl hv hx
  go_enter Tryd.func58, Tryd.ntmps58
  go_wp2_with fail
  rw [H1.out]
  have hlm : Limbs (w.alloc (.cells #[.int .u32 ((x % 4294967296 : Nat) : Int), .int .u32 ((x / 4294967296 : Nat) : Int)] 49)) (some ⟨w.heap.size, 0, none⟩) [x % 4294967296, x / 4294967296] := limbs_new w _ _ HL.out
  refine (HC.out _ hlm).mono ?_
  rintro e w2 ⟨rfl, hc, hl2, rfl⟩
  have HCC := Lib.hid hc
  have HL2 := Lib.hid hl2
  clear hc hl2 hlm
  go_wp2_with fail
  go_ret
  exact ⟨_, _, rfl, HCC.out, Nat.le_refl _, by have := HL2.out; omega, (Below.refl _ _).alloc (Nat.le_refl _) _⟩
end Go.Proofs.YtgckfilmhnapeaaDoor

namespace Go.Proofs.YtgckfilmhnapeaaDoor
open Go.RowKit
set_option linter.unusedVariables false

theorem powL (k : Nat) : (4294967296 : Nat) ^ k = 2 ^ (32 * k) := by rw [Nat.pow_mul]
theorem blen_topL (n : Nat) (hn : n ≠ 0) : 32 * (ll n - 1) + blen (n / 4294967296 ^ (ll n - 1)) = blen n := by
  have h := (dig_topL n hn).2
  unfold ll
  rw [powL] at h ⊢
  rw [blen_shift n _ h]
  omega
theorem ll_zero' : ll 0 = 0 := by unfold ll; rw [dig_zero]; rfl
theorem bitLenAux_is : ∀ (f x : Nat), x < 2 ^ f → Lib.bitLenAux f x = blen x := by
  intro f
  induction f with
  | zero => intro x h; have : x = 0 := by simpa using h
            subst this; rfl
  | succ f ih =>
    intro x h
    unfold Lib.bitLenAux
    by_cases h0 : x = 0
    · rw [if_pos h0, h0]; rfl
    · rw [if_neg h0, ih (x / 2) (by rw [Nat.pow_succ] at h; omega), blen_half x h0]
      omega
theorem len32_any (x : Nat) (hx : x < 4294967296) (w : World) :
    Calls Tryd.prog 92 #[.int .u32 x] w fun e w' => e = .returned (.int .i64 (blen x : Nat)) ∧ w = w' := by
  refine (Tryd.bits_Len32 (x : Int) w (by omega) (by omega)).mono ?_
  rintro e w' ⟨rfl, rfl⟩
  refine ⟨?_, rfl⟩
  have : Lib.bitLen ((x : Int).toNat) = blen x := bitLenAux_is 64 x (Nat.lt_of_lt_of_le hx (by decide))
  rw [this]
theorem ll_pos (n : Nat) (hn : n ≠ 0) : 0 < ll n := by
  have := (dig_last (b := 4294967296) (by decide) n hn).1
  unfold ll; omega
set_option maxRecDepth 100000 in
theorem plen_can (A : Option Addr) (N cap : Nat) (w : World) (h : CanAt w A N) (hc : ll N ≤ cap) (hm : cap ≤ 9223372036854775807) (hl : ll N ≤ 1048576) :
    Calls Tryd.prog 53 #[.slice A (ll N) cap] w fun e w' => e = .returned (.int .i64 (blen N : Nat)) ∧ w = w' := by
  have HC := Lib.hid (cut_can A N cap w h hc hm)
  by_cases h0 : N = 0
  · subst h0
    rw [ll_zero'] at *
    have HB : Hid (blen 0 = 0) := Lib.hid rfl
    clear h hc hm hl
    go_enter Tryd.func53, Tryd.ntmps53
    go_wp2_with fail
    refine HC.out.mono ?_
    rintro e w2 ⟨rfl, rfl⟩
    go_wp2_with fail
    go_ret
    exact ⟨rfl, rfl⟩
  · have hp := ll_pos N h0
    obtain ⟨b, off, rfl, hcell⟩ := h.val (show ll N - 1 < (dig 4294967296 N).length by unfold ll at hp ⊢; omega)
    have hd := dig_topL N h0
    have htop : (dig 4294967296 N).getD (ll N - 1) 0 = N / 4294967296 ^ (ll N - 1) := hd.1
    have hlt : (dig 4294967296 N).getD (ll N - 1) 0 < 4294967296 := getD_lt (by decide) (dig_lt (by decide) N) _
    have HB := Lib.hid (blen_topL N h0)
    rw [htop] at hcell hlt
    have HL := Lib.hid (len32_any _ hlt w)
    have hbl : blen (N / 4294967296 ^ (ll N - 1)) ≤ 32 := (blen_iff _ _).2 hlt
    clear h hd htop hlt h0
    obtain ⟨L, hL⟩ : ∃ L, ll N = L := ⟨_, rfl⟩
    rw [hL] at HC hcell HB HL hbl hp hc hl ⊢
    clear hL
    obtain ⟨k, rfl⟩ : ∃ k, L = k + 1 := ⟨L - 1, by omega⟩
    rw [Nat.add_sub_cancel] at hcell HB HL hbl
    clear hp
    generalize N / 4294967296 ^ k = t at *
    have q0 : ((k : Int) + 1 == 0) = false := by rw [beq_eq_false_iff_ne]; omega
    go_enter Tryd.func53, Tryd.ntmps53
    go_wp2_with fail
    refine HC.out.mono ?_
    rintro e w2 ⟨rfl, rfl⟩
    go_wp2_with fail
    refine HL.out.mono ?_
    rintro e w3 ⟨rfl, rfl⟩
    have r2 : IntKind.i64.wrap (32 * (k : Int) + (blen t : Nat)) = 32 * (k : Int) + (blen t : Nat) := IntWalk.i64_in _ (by omega)
    go_wp2_with fail
    go_ret
    exact ⟨ret_int' (by have := HB.out; omega), rfl⟩
end Go.Proofs.YtgckfilmhnapeaaDoor

namespace Go.Proofs.YtgckfilmhnapeaaDoor
open Go.RowKit
set_option linter.unusedVariables false

theorem quiet_more {P : Program} {f : FuncId} {args : Array Value} {w : World} {k n : Nat} {v : Value}
    (h : ∀ wx, Calls P f args wx fun e w' => e = .returned v ∧ wx = w') : Calls P f args (w.drewN (k + n)) fun e w'' => e = .returned v ∧ ∃ m, w'' = w.drewN (k + m) :=
  (h _).mono fun _ _ hq => ⟨hq.1, n, hq.2.symm⟩
theorem quiet_all {P : Program} {f : FuncId} {args : Array Value} {w : World} {n : Nat} {v : Value}
    (h : ∀ wx, Calls P f args wx fun e w' => e = .returned v ∧ wx = w') : Calls P f args (w.drewN n) fun e w'' => e = .returned v ∧ ∃ m, w'' = w.drewN m :=
  (h _).mono fun _ _ hq => ⟨hq.1, n, hq.2.symm⟩
def PCmpRel (w1 : World) (N M L : Nat) (i : Value) (wr : World) : Prop :=
  ∃ k : Nat, k ≤ L ∧ i = .int .i64 k ∧ N / 4294967296 ^ (L - k) = M / 4294967296 ^ (L - k) ∧ Below w1.heap.size w1 wr
theorem lt_powL (N : Nat) : N < 4294967296 ^ ll N := lt_dig_len (by decide) N
set_option maxRecDepth 100000 in
set_option maxHeartbeats 1500000 in
theorem pcmp_any (A B : Option Addr) (n m c d : Nat) (xs ys : List Nat) (w : World) (hn : xs.length = n) (hm : ys.length = m) (hA : Limbs w A xs) (hB : Limbs w B ys) (hc : n ≤ c) (hd : m ≤ d) (hcm : c ≤ 9223372036854775807) (hdm : d ≤ 9223372036854775807) (hl : n ≤ 1048576) (hl2 : m ≤ 1048576) :
    Calls Tryd.prog 60 #[.slice A n c, .slice B m d] w fun e w' => e = .returned (.int .i64 (cmpZ (lval xs) (lval ys))) ∧ Below w.heap.size w w' := by
  have H1 := Lib.hid (cut_any A n c xs w hn hA hc hcm)
  have H2 := Lib.hid (cut_any B m d ys w hm hB hd hdm)
  clear hA hB
  generalize lval xs = N at *
  generalize lval ys = M at *
  have HLL := Lib.hid (fun (h : ll N < ll M) => len_lt_ltL N M h)
  have HLG := Lib.hid (fun (h : ll M < ll N) => len_lt_ltL M N h)
  go_enter Tryd.func60, Tryd.ntmps60
  go_wp2_with fail
  refine H1.out.mono ?_
  rintro e w2 ⟨rfl, hca, hla, rfl⟩
  have CA := Lib.hid hca
  clear hca
  go_wp2_with fail
  refine H2.out.mono ?_
  rintro e w3 ⟨rfl, hcb, hlb, rfl⟩
  have CB := Lib.hid hcb
  clear hcb H1 H2
  by_cases he : ll N = ll M
  · obtain ⟨L, hL⟩ : ∃ L, ll M = L := ⟨_, rfl⟩
    have HN : Hid (ll N = L) := Lib.hid (he.trans hL)
    have HM := Lib.hid hL
    rw [he, hL]
    have hLm : L ≤ 1048576 := by omega
    clear he hL hla hlb hn hm hc hd hl hl2 hcm hdm
    have HPN := Lib.hid (lt_powL N)
    have HPM := Lib.hid (lt_powL M)
    rw [HN.out] at HPN
    rw [HM.out] at HPM
    go_wp2_with fail
    go_loopw [23] (fun i wr => PCmpRel w N M L i wr) (fun i _ => L - (intOf i).toNat)
    case atStart => exact ⟨0, Nat.zero_le _, rfl, by rw [Nat.sub_zero, Nat.div_eq_of_lt HPN.out, Nat.div_eq_of_lt HPM.out], Below.refl _ _⟩
    case round =>
      obtain ⟨k, hk, rfl, heq, hb⟩ := hrel
      have HEQ := Lib.hid heq
      have HB := Lib.hid hb
      clear heq hb
      by_cases hlt : k < L
      · obtain ⟨j, hj⟩ : ∃ j, L = k + 1 + j := ⟨L - (k + 1), by omega⟩
        have hjN : j < (dig 4294967296 N).length := by have := HN.out; unfold ll at this; omega
        have hjM : j < (dig 4294967296 M).length := by have := HM.out; unfold ll at this; omega
        obtain ⟨ba, oa, hae, ha1⟩ := (CA.out.below HB.out).val hjN
        obtain ⟨bb, ob, hbe, hb1⟩ := (CB.out.below HB.out).val hjM
        rw [dig_getDL] at ha1 hb1
        have h1 : N / 4294967296 ^ (j + 1) = M / 4294967296 ^ (j + 1) := by have := HEQ.out; rw [show L - k = j + 1 by omega] at this; exact this
        have hd1 := Lib.hid (digit_ltL N M j h1)
        have hd2 := Lib.hid (digit_ltL M N j h1.symm)
        have hd3 := Lib.hid (digit_eqL N M j h1)
        clear HEQ h1 hjN hjM
        subst hae hbe
        have hx : N / 4294967296 ^ j % 4294967296 < 4294967296 := Nat.mod_lt _ (by decide)
        have hy : M / 4294967296 ^ j % 4294967296 < 4294967296 := Nat.mod_lt _ (by decide)
        generalize N / 4294967296 ^ j % 4294967296 = x at *
        generalize M / 4294967296 ^ j % 4294967296 = y at *
        subst hj
        have HC := Lib.hid (fun wx => cmp32_any x y wx)
        have r1 : IntKind.i64.wrap ((k : Int) + 1 + j - 1 - k) = (j : Int) := by rw [show (k : Int) + 1 + j - 1 - k = (j : Int) by omega]; exact IntWalk.i64_in _ (by omega)
        rcases Nat.lt_trichotomy x y with g | g | g
        · have g1 : ((x : Int) != (y : Int)) = true := by rw [bne_iff_ne]; omega
          have HR : Hid (cmpZ x y = cmpZ N M) := Lib.hid (by unfold cmpZ; rw [if_pos g, if_pos (hd1.out g)])
          clear g
          go_wp2_with fail
          go_quiet (fail)
          go_wp2_with fail
          go_quiet ((go_at_call 96; exact quiet_more HC.out))
          go_wp2_with fail
          go_ret
          exact ⟨ret_int' HR.out, below_drewN' (below_drewN' HB.out _) _⟩
        · subst g
          have g1 : ((x : Int) != (x : Int)) = false := by simp
          have HN2 := Lib.hid (hd3.out rfl)
          go_wp2_with fail
          go_quiet (fail)
          go_wp2_with fail
          refine ⟨?rl, ?measure⟩
          case rl =>
            repeat apply Exists.intro
            refine ⟨?rel, rfl⟩
            exact ⟨k + 1, by omega, by go_num, by rw [show k + 1 + j - (k + 1) = j by omega]; exact HN2.out, below_drewN' HB.out _⟩
          case measure => simp [intOf]; omega
        · have g1 : ((x : Int) != (y : Int)) = true := by rw [bne_iff_ne]; omega
          have HR : Hid (cmpZ x y = cmpZ N M) := Lib.hid (by unfold cmpZ; have := hd2.out g; rw [if_neg (by omega), if_pos g, if_neg (by omega), if_pos this])
          clear g
          go_wp2_with fail
          go_quiet (fail)
          go_wp2_with fail
          go_quiet ((go_at_call 96; exact quiet_more HC.out))
          go_wp2_with fail
          go_ret
          exact ⟨ret_int' HR.out, below_drewN' (below_drewN' HB.out _) _⟩
      · obtain rfl : k = L := by omega
        have HR : Hid (cmpZ N M = 0) := Lib.hid (by
          have := HEQ.out
          rw [Nat.sub_self, Nat.pow_zero, Nat.div_one, Nat.div_one] at this
          unfold cmpZ; rw [if_neg (by omega), if_neg (by omega)])
        go_wp2_with fail
        go_ret
        exact ⟨ret_int' HR.out.symm, HB.out⟩
  · have HC := Lib.hid (cmpI_any (ll N) (ll M) w)
    have HR : Hid (cmpZ (ll N) (ll M) = cmpZ N M) := Lib.hid (by
      unfold cmpZ
      rcases Nat.lt_or_gt_of_ne he with g | g
      · rw [if_pos g, if_pos (HLL.out g)]
      · have := HLG.out g
        rw [if_neg (by omega), if_pos g, if_neg (by omega), if_pos this])
    have q1 : (((ll N : Nat) : Int) != ((ll M : Nat) : Int)) = true := by rw [bne_iff_ne]; omega
    clear he CA CB hn hm hc hd
    have hla' : ll N ≤ 1048576 := by omega
    have hlb' : ll M ≤ 1048576 := by omega
    clear hla hlb hl hl2 hcm hdm
    generalize ll N = a at *
    generalize ll M = b at *
    go_wp2_with fail
    refine HC.out.mono ?_
    rintro e w4 ⟨rfl, rfl⟩
    go_wp2_with fail
    go_ret
    exact ⟨ret_int' HR.out, Below.refl _ _⟩
end Go.Proofs.YtgckfilmhnapeaaDoor

namespace Go.Proofs.YtgckfilmhnapeaaDoor
open Go.RowKit
set_option linter.unusedVariables false

/-- the first k digits of N, then noughts: m in all -/
def padD (N m k : Nat) : List Nat := digs 4294967296 N k ++ List.replicate (m - k) 0
theorem padD_len (N m k : Nat) (h : k ≤ m) : (padD N m k).length = m := by unfold padD; rw [List.length_append, digs_len, List.length_replicate]; omega
theorem padD_zero (N m : Nat) : padD N m 0 = List.replicate m 0 := by unfold padD; rw [digs_zero, List.nil_append, Nat.sub_zero]
theorem padD_set (N m k : Nat) (h : k < m) : (padD N m k).set k (N / 4294967296 ^ k % 4294967296) = padD N m (k + 1) := by
  unfold padD
  rw [digs_succ, List.set_append_right _ _ (by rw [digs_len]; exact Nat.le_refl _), digs_len, Nat.sub_self, show m - k = (m - (k + 1)) + 1 by omega, List.replicate_succ, List.set_cons_zero, List.append_assoc]
  rfl
theorem padD_full (N m : Nat) : padD N m m = digs 4294967296 N m := by unfold padD; rw [Nat.sub_self]; simp
theorem padD_get (N m k i : Nat) (h : k ≤ i) : (padD N m k).getD i 0 = 0 := by
  unfold padD
  rw [List.getD_eq_getElem?_getD, List.getElem?_append_right (by rw [digs_len]; exact h), digs_len]
  by_cases hi : i - k < m - k
  · simp [hi]
  · simp [hi]
theorem own_limbs {w : World} {base n : Nat} {A : Option Addr} {c : Nat} {xs : List Nat} (h : w.ownsRow base 49 1 (.slice A n c) n (vals .u32 xs)) (hl : LimbL xs) : Limbs w A xs ∧ xs.length = n ∧ n ≤ c ∧ c ≤ 9223372036854775807 := by
  obtain ⟨A', c', he, h1, h2, h3, h4⟩ := own_rd h
  injection he with e1 e2 e3
  subst e1 e3
  exact ⟨⟨h4, hl⟩, by rw [vals_length] at h3; exact h3, h1, h2⟩
theorem digs_limb (N k : Nat) : LimbL (digs 4294967296 N k) := digs_lt _ _ _ (by decide)
theorem lval_digs (N k : Nat) (h : N < 4294967296 ^ k) : lval (digs 4294967296 N k) = N := digs_all _ _ _ h
def AddRel (w : World) (X Y L : Nat) (v6 v22 : Value) (wr : World) : Prop :=
  ∃ k : Nat, k ≤ L ∧ v22 = .int .i64 k ∧ v6 = .int .u32 (carryL X Y k : Nat) ∧ wr.ownsRow w.heap.size 49 1 (.slice (some ⟨w.heap.size, 0, none⟩) (L + 1) (L + 1)) (L + 1) (vals .u32 (padD (X + Y) (L + 1) k)) ∧ Below w.heap.size w wr

set_option maxRecDepth 100000 in
set_option maxHeartbeats 3000000 in
theorem padd_keep (A B : Option Addr) (n m c d : Nat) (xs ys : List Nat) (w : World) (hn : xs.length = n) (hm : ys.length = m) (hA : Limbs w A xs) (hB : Limbs w B ys) (hl : n ≤ 1048576) (hl2 : m ≤ 1048576) (hlt : m ≤ n) :
    Calls Tryd.prog 21 #[.slice A n c, .slice B m d] w (NatPost w (lval xs + lval ys)) := by
  obtain ⟨i0, hi, hz0, hz1, hz2⟩ := info_parts info_u32
  have CA := Lib.hid (hA.rd)
  have CB := Lib.hid (hB.rd)
  have hLx := hA.lt
  have hLy := hB.lt
  have GX := Lib.hid (lval_at xs hLx)
  have GY := Lib.hid (lval_at ys hLy)
  have BX := Lib.hid (lval_lt xs hLx)
  have BY := Lib.hid (lval_lt ys hLy)
  rw [hn] at BX; rw [hm] at BY
  have HLX := Lib.hid (hn)
  have HLY := Lib.hid (hm)
  have hltI : ¬ (n : Int) < (m : Int) := by omega
  clear hA hB hLx hLy hn hm
  generalize hXX : lval xs = X at *
  generalize hYY : lval ys = Y at *
  clear hXX hYY
  have HS : Hid (X + Y < 4294967296 ^ (n + 1)) := Lib.hid (by
    have h1 := BX.out
    have h2 := BY.out
    have h3 : 4294967296 ^ m ≤ 4294967296 ^ n := Nat.pow_le_pow_right (by decide) (by omega)
    rw [Nat.pow_succ]
    omega)
  have HTOP : Hid (carryL X Y n = (X + Y) / 4294967296 ^ n % 4294967296) := Lib.hid (by
    have h3 : 4294967296 ^ m ≤ 4294967296 ^ n := Nat.pow_le_pow_right (by decide) (by omega)
    rw [carry_eqL, Nat.div_eq_of_lt BX.out, Nat.div_eq_of_lt (Nat.lt_of_lt_of_le BY.out h3)]
    have := carry_leL X Y n
    omega)
  go_enter Tryd.func21, Tryd.ntmps21
  go_wp2_with (at_make; refine wpList_make_full _ rfl _ _ 47 rfl w.heap.size 49 i0 (.int .u32 0) 1 Tryd.underlying47 hi hz0 hz1 _ _ _ _ (n + 1) rfl rfl ?c0 ?c1 ?c2 ?c3 ?c4 ?_)
  (try (case c0 => omega))
  (try (case c1 => omega))
  (try (case c2 => first | (rw [hz2]; omega) | omega))
  (try (case c3 => first | (unfold maxLen; omega) | omega))
  (try (case c4 => exact Nat.le_refl _))
  intro w1 hown1 hg1
  rw [made_vals] at hown1
  have HO1 := Lib.hid hown1
  have HB1 : Hid (Below w.heap.size w w1) := Lib.hid ((Below.refl _ _).grown hg1 (Nat.le_refl _) (fun _ h => by cases h))
  clear hown1 hg1 hltI
  go_wp2_with fail
  go_loopw [6, 22] (fun v6 v22 wr => AddRel w X Y n v6 v22 wr) (fun _ v22 _ => n - (intOf v22).toNat)
  case atStart => exact ⟨0, Nat.zero_le _, rfl, by rw [carry_zeroL]; rfl, by rw [padD_zero]; exact HO1.out, HB1.out⟩
  case round =>
    obtain ⟨k, hk, rfl, rfl, hown, hbel⟩ := hrel
    have HO := Lib.hid hown
    have HB := Lib.hid hbel
    have hcl := carry_leL X Y k
    clear hown hbel
    by_cases hkl : k < n
    · obtain ⟨ba, oa, hae, ha1⟩ := ((show Rd wr A (vals .u32 xs) from CA.out.below HB.out)).val (show k < xs.length by rw [HLX.out]; exact hkl)
      rw [GX.out k] at ha1
      have hcs := Lib.hid (carry_stepL X Y k)
      have hst := (HO.out.stored k (.int .u32 (((X + Y) / 4294967296 ^ k % 4294967296 : Nat) : Int))).1
      rw [vals_set, padD_set _ _ _ (by omega)] at hst
      have HST := Lib.hid hst
      have hcell0 := HO.out.cellAt k (by omega)
      have hfz := HO.out.frozenAt k
      rw [vals_get _ _ _ (by rw [padD_len _ _ _ (by omega)]; omega), padD_get _ _ _ _ (Nat.le_refl _)] at hcell0
      clear hst
      have HCU : Hid (carryL X Y (k + 1) = (X / 4294967296 ^ k % 4294967296 + Y / 4294967296 ^ k % 4294967296 + carryL X Y k) / 4294967296) := Lib.hid hcs.out.2.symm
      have HDU : Hid ((X + Y) / 4294967296 ^ k % 4294967296 = (X / 4294967296 ^ k % 4294967296 + Y / 4294967296 ^ k % 4294967296 + carryL X Y k) % 4294967296) := Lib.hid hcs.out.1.symm
      have hx : X / 4294967296 ^ k % 4294967296 < 4294967296 := Nat.mod_lt _ (by decide)
      have hy : Y / 4294967296 ^ k % 4294967296 < 4294967296 := Nat.mod_lt _ (by decide)
      have GYk := Lib.hid (GY.out k)
      rw [HDU.out] at HST
      clear hcs HDU
      generalize X / 4294967296 ^ k % 4294967296 = x at *
      generalize Y / 4294967296 ^ k % 4294967296 = y at *
      generalize carryL X Y k = cy at *
      subst hae
      have HAD := Lib.hid (fun wx => add32_any x y cy hx hy hcl wx)
      have HSB : Hid (Below w.heap.size w (wr.setCell ⟨w.heap.size, k, none⟩ (.int .u32 (((x + y + cy) % 4294967296 : Nat) : Int)))) := Lib.hid (HB.out.setCell (p := ⟨w.heap.size, k, none⟩) (Nat.le_refl _) _)
      have hkI : (k : Int) < (n : Int) := by omega
      by_cases hkm : k < m
      · obtain ⟨bb, ob, hbe, hb1⟩ := ((show Rd wr B (vals .u32 ys) from CB.out.below HB.out)).val (show k < ys.length by rw [HLY.out]; exact hkm)
        rw [GYk.out] at hb1
        subst hbe
        have hkmI : (k : Int) < (m : Int) := by omega
        go_wp2_with fail
        refine (HAD.out _).mono ?_
        rintro e w2 ⟨rfl, rfl⟩
        go_wp2_with fail
        go_roundw
        case rel => exact ⟨k + 1, by omega, by go_num, by rw [HCU.out] <;> rfl, HST.out, HSB.out⟩
        case measure => simp [intOf]; omega
      · have hy0 : y = 0 := by
          rw [← GYk.out, List.getD_eq_getElem?_getD, List.getElem?_eq_none (by rw [HLY.out]; omega)]; rfl
        subst hy0
        have hkmI : ¬ (k : Int) < (m : Int) := by omega
        go_wp2_with fail
        refine (HAD.out _).mono ?_
        rintro e w2 ⟨rfl, rfl⟩
        go_wp2_with fail
        go_roundw
        case rel => exact ⟨k + 1, by omega, by go_num, by rw [HCU.out] <;> rfl, HST.out, HSB.out⟩
        case measure => simp [intOf]; omega
    · obtain rfl : k = n := by omega
      have hst := (HO.out.stored k (.int .u32 (((X + Y) / 4294967296 ^ k % 4294967296 : Nat) : Int))).1
      rw [vals_set, padD_set _ _ _ (by omega), padD_full] at hst
      have hcell0 := HO.out.cellAt k (by omega)
      have hfz := HO.out.frozenAt k
      rw [vals_get _ _ _ (by rw [padD_len _ _ _ (by omega)]; omega), padD_get _ _ _ _ (Nat.le_refl _)] at hcell0
      rw [← HTOP.out] at hst
      obtain ⟨ol, ol1, ol2, ol3⟩ := own_limbs hst (digs_limb _ _)
      have HCUT := Lib.hid (cut_any _ (k + 1) (k + 1) _ _ ol1 ol (Nat.le_refl _) (by omega))
      rw [lval_digs _ _ HS.out] at HCUT
      have HSB : Hid (Below w.heap.size w (wr.setCell ⟨w.heap.size, k, none⟩ (.int .u32 (carryL X Y k : Nat)))) := Lib.hid (HB.out.setCell (p := ⟨w.heap.size, k, none⟩) (Nat.le_refl _) _)
      clear hst ol ol1 ol2 ol3
      generalize carryL X Y k = cy at *
      go_wp2_with fail
      refine HCUT.out.mono ?_
      rintro e w2 ⟨rfl, hcan, hll, rfl⟩
      have HCAN := Lib.hid hcan
      clear hcan
      go_wp2_with fail
      go_ret
      exact ⟨_, _, rfl, HCAN.out, Nat.le_refl _, by omega, HSB.out⟩

set_option maxRecDepth 100000 in
set_option maxHeartbeats 3000000 in
theorem padd_swap (A B : Option Addr) (n m c d : Nat) (xs ys : List Nat) (w : World) (hn : xs.length = n) (hm : ys.length = m) (hA : Limbs w A xs) (hB : Limbs w B ys) (hl : n ≤ 1048576) (hl2 : m ≤ 1048576) (hlt : n < m) :
    Calls Tryd.prog 21 #[.slice A n c, .slice B m d] w (NatPost w (lval ys + lval xs)) := by
  obtain ⟨i0, hi, hz0, hz1, hz2⟩ := info_parts info_u32
  have CA := Lib.hid (hB.rd)
  have CB := Lib.hid (hA.rd)
  have hLx := hB.lt
  have hLy := hA.lt
  have GX := Lib.hid (lval_at ys hLx)
  have GY := Lib.hid (lval_at xs hLy)
  have BX := Lib.hid (lval_lt ys hLx)
  have BY := Lib.hid (lval_lt xs hLy)
  rw [hm] at BX; rw [hn] at BY
  have HLX := Lib.hid (hm)
  have HLY := Lib.hid (hn)
  have hltI : (n : Int) < (m : Int) := by omega
  clear hA hB hLx hLy hn hm
  generalize hXX : lval ys = X at *
  generalize hYY : lval xs = Y at *
  clear hXX hYY
  have HS : Hid (X + Y < 4294967296 ^ (m + 1)) := Lib.hid (by
    have h1 := BX.out
    have h2 := BY.out
    have h3 : 4294967296 ^ n ≤ 4294967296 ^ m := Nat.pow_le_pow_right (by decide) (by omega)
    rw [Nat.pow_succ]
    omega)
  have HTOP : Hid (carryL X Y m = (X + Y) / 4294967296 ^ m % 4294967296) := Lib.hid (by
    have h3 : 4294967296 ^ n ≤ 4294967296 ^ m := Nat.pow_le_pow_right (by decide) (by omega)
    rw [carry_eqL, Nat.div_eq_of_lt BX.out, Nat.div_eq_of_lt (Nat.lt_of_lt_of_le BY.out h3)]
    have := carry_leL X Y m
    omega)
  go_enter Tryd.func21, Tryd.ntmps21
  go_wp2_with (at_make; refine wpList_make_full _ rfl _ _ 47 rfl w.heap.size 49 i0 (.int .u32 0) 1 Tryd.underlying47 hi hz0 hz1 _ _ _ _ (m + 1) rfl rfl ?c0 ?c1 ?c2 ?c3 ?c4 ?_)
  (try (case c0 => omega))
  (try (case c1 => omega))
  (try (case c2 => first | (rw [hz2]; omega) | omega))
  (try (case c3 => first | (unfold maxLen; omega) | omega))
  (try (case c4 => exact Nat.le_refl _))
  intro w1 hown1 hg1
  rw [made_vals] at hown1
  have HO1 := Lib.hid hown1
  have HB1 : Hid (Below w.heap.size w w1) := Lib.hid ((Below.refl _ _).grown hg1 (Nat.le_refl _) (fun _ h => by cases h))
  clear hown1 hg1 hltI
  go_wp2_with fail
  go_loopw [6, 22] (fun v6 v22 wr => AddRel w X Y m v6 v22 wr) (fun _ v22 _ => m - (intOf v22).toNat)
  case atStart => exact ⟨0, Nat.zero_le _, rfl, by rw [carry_zeroL]; rfl, by rw [padD_zero]; exact HO1.out, HB1.out⟩
  case round =>
    obtain ⟨k, hk, rfl, rfl, hown, hbel⟩ := hrel
    have HO := Lib.hid hown
    have HB := Lib.hid hbel
    have hcl := carry_leL X Y k
    clear hown hbel
    by_cases hkl : k < m
    · obtain ⟨ba, oa, hae, ha1⟩ := ((show Rd wr B (vals .u32 ys) from CA.out.below HB.out)).val (show k < ys.length by rw [HLX.out]; exact hkl)
      rw [GX.out k] at ha1
      have hcs := Lib.hid (carry_stepL X Y k)
      have hst := (HO.out.stored k (.int .u32 (((X + Y) / 4294967296 ^ k % 4294967296 : Nat) : Int))).1
      rw [vals_set, padD_set _ _ _ (by omega)] at hst
      have HST := Lib.hid hst
      have hcell0 := HO.out.cellAt k (by omega)
      have hfz := HO.out.frozenAt k
      rw [vals_get _ _ _ (by rw [padD_len _ _ _ (by omega)]; omega), padD_get _ _ _ _ (Nat.le_refl _)] at hcell0
      clear hst
      have HCU : Hid (carryL X Y (k + 1) = (X / 4294967296 ^ k % 4294967296 + Y / 4294967296 ^ k % 4294967296 + carryL X Y k) / 4294967296) := Lib.hid hcs.out.2.symm
      have HDU : Hid ((X + Y) / 4294967296 ^ k % 4294967296 = (X / 4294967296 ^ k % 4294967296 + Y / 4294967296 ^ k % 4294967296 + carryL X Y k) % 4294967296) := Lib.hid hcs.out.1.symm
      have hx : X / 4294967296 ^ k % 4294967296 < 4294967296 := Nat.mod_lt _ (by decide)
      have hy : Y / 4294967296 ^ k % 4294967296 < 4294967296 := Nat.mod_lt _ (by decide)
      have GYk := Lib.hid (GY.out k)
      rw [HDU.out] at HST
      clear hcs HDU
      generalize X / 4294967296 ^ k % 4294967296 = x at *
      generalize Y / 4294967296 ^ k % 4294967296 = y at *
      generalize carryL X Y k = cy at *
      subst hae
      have HAD := Lib.hid (fun wx => add32_any x y cy hx hy hcl wx)
      have HSB : Hid (Below w.heap.size w (wr.setCell ⟨w.heap.size, k, none⟩ (.int .u32 (((x + y + cy) % 4294967296 : Nat) : Int)))) := Lib.hid (HB.out.setCell (p := ⟨w.heap.size, k, none⟩) (Nat.le_refl _) _)
      have hkI : (k : Int) < (m : Int) := by omega
      by_cases hkm : k < n
      · obtain ⟨bb, ob, hbe, hb1⟩ := ((show Rd wr A (vals .u32 xs) from CB.out.below HB.out)).val (show k < xs.length by rw [HLY.out]; exact hkm)
        rw [GYk.out] at hb1
        subst hbe
        have hkmI : (k : Int) < (n : Int) := by omega
        go_wp2_with fail
        refine (HAD.out _).mono ?_
        rintro e w2 ⟨rfl, rfl⟩
        go_wp2_with fail
        go_roundw
        case rel => exact ⟨k + 1, by omega, by go_num, by rw [HCU.out] <;> rfl, HST.out, HSB.out⟩
        case measure => simp [intOf]; omega
      · have hy0 : y = 0 := by
          rw [← GYk.out, List.getD_eq_getElem?_getD, List.getElem?_eq_none (by rw [HLY.out]; omega)]; rfl
        subst hy0
        have hkmI : ¬ (k : Int) < (n : Int) := by omega
        go_wp2_with fail
        refine (HAD.out _).mono ?_
        rintro e w2 ⟨rfl, rfl⟩
        go_wp2_with fail
        go_roundw
        case rel => exact ⟨k + 1, by omega, by go_num, by rw [HCU.out] <;> rfl, HST.out, HSB.out⟩
        case measure => simp [intOf]; omega
    · obtain rfl : k = m := by omega
      have hst := (HO.out.stored k (.int .u32 (((X + Y) / 4294967296 ^ k % 4294967296 : Nat) : Int))).1
      rw [vals_set, padD_set _ _ _ (by omega), padD_full] at hst
      have hcell0 := HO.out.cellAt k (by omega)
      have hfz := HO.out.frozenAt k
      rw [vals_get _ _ _ (by rw [padD_len _ _ _ (by omega)]; omega), padD_get _ _ _ _ (Nat.le_refl _)] at hcell0
      rw [← HTOP.out] at hst
      obtain ⟨ol, ol1, ol2, ol3⟩ := own_limbs hst (digs_limb _ _)
      have HCUT := Lib.hid (cut_any _ (k + 1) (k + 1) _ _ ol1 ol (Nat.le_refl _) (by omega))
      rw [lval_digs _ _ HS.out] at HCUT
      have HSB : Hid (Below w.heap.size w (wr.setCell ⟨w.heap.size, k, none⟩ (.int .u32 (carryL X Y k : Nat)))) := Lib.hid (HB.out.setCell (p := ⟨w.heap.size, k, none⟩) (Nat.le_refl _) _)
      clear hst ol ol1 ol2 ol3
      generalize carryL X Y k = cy at *
      go_wp2_with fail
      refine HCUT.out.mono ?_
      rintro e w2 ⟨rfl, hcan, hll, rfl⟩
      have HCAN := Lib.hid hcan
      clear hcan
      go_wp2_with fail
      go_ret
      exact ⟨_, _, rfl, HCAN.out, Nat.le_refl _, by omega, HSB.out⟩

theorem padd_any (A B : Option Addr) (n m c d : Nat) (xs ys : List Nat) (w : World) (hn : xs.length = n) (hm : ys.length = m) (hA : Limbs w A xs) (hB : Limbs w B ys) (hl : n ≤ 1048576) (hl2 : m ≤ 1048576) :
    Calls Tryd.prog 21 #[.slice A n c, .slice B m d] w (NatPost w (lval xs + lval ys)) := by
  by_cases h : n < m
  · rw [Nat.add_comm]; exact padd_swap A B n m c d xs ys w hn hm hA hB hl hl2 h
  · exact padd_keep A B n m c d xs ys w hn hm hA hB hl hl2 (by omega)

end Go.Proofs.YtgckfilmhnapeaaDoor

namespace Go.Proofs.YtgckfilmhnapeaaDoor
open Go.RowKit
set_option linter.unusedVariables false

/-- digits from the place n - i on, noughts below: n in all -/
def topD (Q n i : Nat) : List Nat := (List.range n).map fun j => if j < n - i then 0 else Q / 4294967296 ^ j % 4294967296
theorem topD_len (Q n i : Nat) : (topD Q n i).length = n := by simp [topD]
theorem topD_zero (Q n : Nat) : topD Q n 0 = List.replicate n 0 := by
  apply List.ext_getElem
  · simp [topD]
  · intro j h1 h2
    simp only [topD, List.getElem_map, List.getElem_range, List.getElem_replicate]
    rw [if_pos (by rw [topD_len] at h1; omega)]
theorem topD_full (Q n : Nat) : topD Q n n = digs 4294967296 Q n := by
  unfold topD digs
  apply List.map_congr_left
  intro j _
  rw [if_neg (by omega)]
theorem topD_set (Q n i j : Nat) (h : j + (i + 1) = n) : (topD Q n i).set j (Q / 4294967296 ^ j % 4294967296) = topD Q n (i + 1) := by
  apply List.ext_getElem
  · simp [topD]
  · intro k h1 h2
    rw [List.getElem_set]
    simp only [topD, List.getElem_map, List.getElem_range]
    split
    · rename_i e; subst e; rw [if_neg (by omega)]
    · split
      · rw [if_pos (by omega)]
      · rw [if_neg (by omega)]
theorem topD_get (Q n i j : Nat) (h : j < n - i) : (topD Q n i).getD j 0 = 0 := by
  rw [List.getD_eq_getElem?_getD, List.getElem?_eq_getElem (by rw [topD_len]; omega)]
  simp only [topD, List.getElem_map, List.getElem_range, Option.getD_some]
  rw [if_pos h]
/-- one step of division by hand -/
theorem div_step (N d j : Nat) (hd : 0 < d) :
    (N / 4294967296 ^ (j + 1) % d * 4294967296 + N / 4294967296 ^ j % 4294967296) / d = N / d / 4294967296 ^ j % 4294967296 ∧
    (N / 4294967296 ^ (j + 1) % d * 4294967296 + N / 4294967296 ^ j % 4294967296) % d = N / 4294967296 ^ j % d := by
  have e1 : N / d / 4294967296 ^ j = N / 4294967296 ^ j / d := by rw [Nat.div_div_eq_div_mul, Nat.div_div_eq_div_mul, Nat.mul_comm]
  rw [e1, div_succL]
  generalize N / 4294967296 ^ j = T
  have h1 := Nat.div_add_mod T 4294967296
  have hx := Nat.mod_lt T (show 0 < 4294967296 by decide)
  generalize T / 4294967296 = t at *
  generalize T % 4294967296 = x at *
  have h2 := Nat.div_add_mod t d
  have h3 := Nat.mod_lt t hd
  generalize t / d = u at *
  generalize t % d = r at *
  have e2 : T = d * (u * 4294967296) + (r * 4294967296 + x) := by
    rw [← h1, ← h2, Nat.mul_add, Nat.mul_left_comm, Nat.mul_comm u, Nat.add_assoc, Nat.mul_comm 4294967296 r]
  have hlt : (r * 4294967296 + x) / d < 4294967296 := by
    rw [Nat.div_lt_iff_lt_mul hd]
    have : (r + 1) * 4294967296 ≤ d * 4294967296 := Nat.mul_le_mul_right _ h3
    rw [Nat.mul_comm 4294967296 d]
    omega
  rw [e2, Nat.mul_add_div hd, Nat.mul_add_mod]
  refine ⟨?_, rfl⟩
  generalize (r * 4294967296 + x) / d = q at *
  omega
theorem own_drewN {w : World} {base size n : Nat} {e : TypeId} {v : Value} {xs : List Value} (h : w.ownsRow base e size v n xs) (k : Nat) : (w.drewN k).ownsRow base e size v n xs := h
def SmallRel (w : World) (N d n : Nat) (v5 v17 : Value) (wr : World) : Prop :=
  ∃ i : Nat, i ≤ n ∧ v17 = .int .i64 i ∧ v5 = .int .u32 (N / 4294967296 ^ (n - i) % d : Nat) ∧ wr.ownsRow w.heap.size 49 1 (.slice (some ⟨w.heap.size, 0, none⟩) n n) n (vals .u32 (topD (N / d) n i)) ∧ Below w.heap.size w wr
/-- a quotient, what is left, true -/
def SmallPost (w : World) (N d : Nat) (e : Ending) (w' : World) : Prop :=
  ∃ A c, e = .returned (.tuple #[.slice A (ll (N / d)) c, .int .u32 (N % d : Nat), .bool true]) ∧ CanAt w' A (N / d) ∧ ll (N / d) ≤ c ∧ c ≤ 9223372036854775807 ∧ Below w.heap.size w w' ∧ (∀ p : Addr, A = some p → w.heap.size ≤ p.block)
set_option maxRecDepth 100000 in
set_option maxHeartbeats 3000000 in
theorem psmall_any (A : Option Addr) (n c d : Nat) (xs : List Nat) (w : World) (hn : xs.length = n) (hA : Limbs w A xs) (hl : n ≤ 1048576) (hd0 : 0 < d) (hd : d < 4294967296) :
    Calls Tryd.prog 94 #[.slice A n c, .int .u32 d] w (SmallPost w (lval xs) d) := by
  obtain ⟨i0, hi, hz0, hz1, hz2⟩ := info_parts info_u32
  have CA := Lib.hid hA.rd
  have GX := Lib.hid (lval_at xs hA.lt)
  have BX := Lib.hid (lval_lt xs hA.lt)
  rw [hn] at BX
  have HLX := Lib.hid hn
  have hdI : ((d : Int) == 0) = false := by rw [beq_eq_false_iff_ne]; omega
  clear hA hn
  generalize lval xs = N at *
  have HD0 := Lib.hid hd0
  have HDD := Lib.hid hd
  have HQ : Hid (N / d < 4294967296 ^ n) := Lib.hid (Nat.lt_of_le_of_lt (Nat.div_le_self _ _) BX.out)
  have HDS := Lib.hid (fun j => div_step N d j hd0)
  clear hd0 hd
  go_enter Tryd.func94, Tryd.ntmps94
  go_wp2_with (at_make; refine wpList_make_full _ rfl _ _ 47 rfl w.heap.size 49 i0 (.int .u32 0) 1 Tryd.underlying47 hi hz0 hz1 _ _ _ _ n rfl rfl ?c0 ?c1 ?c2 ?c3 ?c4 ?_)
  (try (case c0 => omega))
  (try (case c1 => omega))
  (try (case c2 => first | (rw [hz2]; omega) | omega))
  (try (case c3 => first | (unfold maxLen; omega) | omega))
  (try (case c4 => exact Nat.le_refl _))
  intro w1 hown1 hg1
  rw [made_vals] at hown1
  have HO1 := Lib.hid hown1
  have HB1 : Hid (Below w.heap.size w w1) := Lib.hid ((Below.refl _ _).grown hg1 (Nat.le_refl _) (fun _ h => by cases h))
  clear hown1 hg1 hdI
  go_wp2_with fail
  go_loopw [5, 17] (fun v5 v17 wr => SmallRel w N d n v5 v17 wr) (fun _ v17 _ => n - (intOf v17).toNat)
  case atStart => exact ⟨0, Nat.zero_le _, rfl, by rw [Nat.sub_zero, Nat.div_eq_of_lt BX.out, Nat.zero_mod]; rfl, by rw [topD_zero]; exact HO1.out, HB1.out⟩
  case round =>
    obtain ⟨i, hk, rfl, rfl, hown, hbel⟩ := hrel
    have HO := Lib.hid hown
    have HB := Lib.hid hbel
    clear hown hbel
    by_cases hkl : i < n
    · obtain ⟨j, hj⟩ : ∃ j, j + (i + 1) = n := ⟨n - (i + 1), by omega⟩
      obtain ⟨ba, oa, hae, ha1⟩ := ((show Rd wr A (vals .u32 xs) from CA.out.below HB.out)).val (show j < xs.length by rw [HLX.out]; omega)
      rw [GX.out j] at ha1
      have hds := HDS.out j
      have hst : ∀ nn, ((wr.drewN nn).setCell ⟨w.heap.size, j, none⟩ (.int .u32 (((N / 4294967296 ^ (j + 1) % d * 4294967296 + N / 4294967296 ^ j % 4294967296) / d : Nat) : Int))).ownsRow w.heap.size 49 1 (.slice (some ⟨w.heap.size, 0, none⟩) n n) n (vals .u32 (topD (N / d) n (i + 1))) := fun nn => by
        have := ((own_drewN HO.out nn).stored j (.int .u32 ((N / d / 4294967296 ^ j % 4294967296 : Nat) : Int))).1
        rw [vals_set, topD_set _ _ _ _ hj, ← hds.1] at this
        exact this
      have HST := Lib.hid hst
      have hcell0 := HO.out.cellAt j (by omega)
      have hfz := HO.out.frozenAt j
      rw [vals_get _ _ _ (by rw [topD_len]; omega), topD_get _ _ _ _ (by omega)] at hcell0
      have HR : Hid (N / 4294967296 ^ (n - (i + 1)) % d = (N / 4294967296 ^ (j + 1) % d * 4294967296 + N / 4294967296 ^ j % 4294967296) % d) := Lib.hid (by rw [hds.2, show n - (i + 1) = j by omega])
      have e1 : n - i = j + 1 := by omega
      rw [e1]
      have hx : N / 4294967296 ^ j % 4294967296 < 4294967296 := Nat.mod_lt _ (by decide)
      have hr : N / 4294967296 ^ (j + 1) % d < d := Nat.mod_lt _ HD0.out
      clear hst hds e1
      generalize N / 4294967296 ^ j % 4294967296 = x at *
      generalize N / 4294967296 ^ (j + 1) % d = r at *
      subst hae
      have HDV := Lib.hid (fun wx => div32_any r x d hr hx HDD.out wx)
      have hdp := HD0.out
      have hq1 : (r * 4294967296 + x) / d < 4294967296 := by
        have h1 : (r + 1) * 4294967296 ≤ d * 4294967296 := Nat.mul_le_mul_right _ hr
        rw [Nat.div_lt_iff_lt_mul hdp, Nat.mul_comm 4294967296 d]
        omega
      have hr1 : (r * 4294967296 + x) % d < 4294967296 := Nat.lt_trans (Nat.mod_lt _ hdp) HDD.out
      generalize (r * 4294967296 + x) / d = q at *
      generalize (r * 4294967296 + x) % d = r2 at *
      have HSB : Hid (∀ nn, Below w.heap.size w ((wr.drewN nn).setCell ⟨w.heap.size, j, none⟩ (.int .u32 (q : Nat)))) := Lib.hid (fun nn => (below_drewN' HB.out nn).setCell (p := ⟨w.heap.size, j, none⟩) (Nat.le_refl _) _)
      have hkI : (i : Int) < (n : Int) := by omega
      have r1 : IntKind.i64.wrap ((n : Int) - 1 - i) = (j : Int) := by rw [show (n : Int) - 1 - i = (j : Int) by omega]; exact IntWalk.i64_in _ (by omega)
      have r2' : (j : Int) < (n : Int) := by omega
      subst hj
      clear hr hx hdp
      go_wp2_with fail
      refine (HDV.out _).mono ?_
      rintro e w2 ⟨rfl, nn, rfl⟩
      go_wp2_with fail
      refine ⟨?rl, ?measure⟩
      case rl =>
        repeat apply Exists.intro
        refine ⟨?rel, rfl⟩
        exact ⟨i + 1, by omega, by go_num, by rw [HR.out], HST.out nn, HSB.out nn⟩
      case measure => simp [intOf]; omega
    · obtain rfl : i = n := by omega
      have hown := HO.out
      rw [topD_full] at hown
      obtain ⟨ol, ol1, ol2, ol3⟩ := own_limbs hown (digs_limb _ _)
      have HCUT := Lib.hid (cut_any _ i i _ _ ol1 ol (Nat.le_refl _) (by omega))
      rw [lval_digs _ _ HQ.out] at HCUT
      clear hown ol ol1 ol2 ol3
      go_wp2_with fail
      refine HCUT.out.mono ?_
      rintro e w2 ⟨rfl, hcan, hll, rfl⟩
      have HCAN := Lib.hid hcan
      clear hcan
      go_wp2_with fail
      go_ret3
      exact ⟨_, _, rfl, HCAN.out, Nat.le_refl _, by omega, HB.out, fun p hp => by injection hp with hp; rw [← hp]; exact Nat.le_refl _⟩
end Go.Proofs.YtgckfilmhnapeaaDoor

namespace Go.Proofs.YtgckfilmhnapeaaDoor
open Go.RowKit
set_option linter.unusedVariables false

theorem digs_get (N T t : Nat) (h : t < T) : (digs 4294967296 N T).getD t 0 = N / 4294967296 ^ t % 4294967296 := by
  rw [List.getD_eq_getElem?_getD, List.getElem?_eq_getElem (by rw [digs_len]; exact h)]
  simp [digs]
theorem digs_add (S z j : Nat) : digs 4294967296 (S + 4294967296 ^ j * z) j = digs 4294967296 S j := by
  unfold digs
  apply List.map_congr_left
  intro t ht
  have ht : t < j := List.mem_range.1 ht
  rw [show j = t + ((j - t - 1) + 1) by omega, Nat.pow_add, Nat.mul_assoc, Nat.add_mul_div_left _ _ (Nat.pow_pos (by decide)), Nat.pow_succ, Nat.mul_comm (4294967296 ^ (j - t - 1)), Nat.mul_assoc, Nat.add_mul_mod_self_left]
/-- the digits of S up to j, behind them those of P: T in all -/
def mixD (S P j T : Nat) : List Nat := digs 4294967296 S j ++ (digs 4294967296 P T).drop j
theorem mixD_len (S P j T : Nat) (h : j ≤ T) : (mixD S P j T).length = T := by unfold mixD; rw [List.length_append, List.length_drop, digs_len, digs_len]; omega
theorem mixD_start (P j T : Nat) (h : j ≤ T) : mixD P P j T = digs 4294967296 P T := by
  unfold mixD
  have : digs 4294967296 P j = (digs 4294967296 P T).take j := by
    unfold digs
    rw [← List.map_take, List.take_range, Nat.min_eq_left h]
  rw [this, List.take_append_drop]
theorem mixD_get (S P j T : Nat) (h : j < T) : (mixD S P j T).getD j 0 = P / 4294967296 ^ j % 4294967296 := by
  unfold mixD
  rw [List.getD_eq_getElem?_getD, List.getElem?_append_right (by rw [digs_len]; exact Nat.le_refl _), digs_len, Nat.sub_self, List.getElem?_drop, Nat.add_zero, ← List.getD_eq_getElem?_getD, digs_get P T j h]
theorem mixD_set (S P z j T : Nat) (h : j < T) : (mixD S P j T).set j ((S + 4294967296 ^ j * z) / 4294967296 ^ j % 4294967296) = mixD (S + 4294967296 ^ j * z) P (j + 1) T := by
  unfold mixD
  rw [digs_succ, digs_add, List.set_append_right _ _ (by rw [digs_len]; exact Nat.le_refl _), digs_len, Nat.sub_self, List.append_assoc]
  congr 1
  rw [List.drop_eq_getElem_cons (by rw [digs_len]; exact h), List.set_cons_zero]
  rfl
theorem mixD_set0 (S P j T : Nat) (h : j < T) : (mixD S P j T).set j (S / 4294967296 ^ j % 4294967296) = mixD S P (j + 1) T := by
  have := mixD_set S P 0 j T h
  rw [Nat.mul_zero, Nat.add_zero] at this
  exact this
theorem mixD_end (S P j T : Nat) (h : j ≤ T) (hS : S < 4294967296 ^ j) (hP : P < 4294967296 ^ j) : mixD S P j T = digs 4294967296 S T := by
  rw [← mixD_start S j T h]
  unfold mixD
  congr 1
  apply List.ext_getElem
  · simp [digs_len]
  · intro t h1 h2
    simp only [List.getElem_drop]
    unfold digs
    simp only [List.getElem_map, List.getElem_range]
    have hp : 4294967296 ^ j ≤ 4294967296 ^ (j + t) := Nat.pow_le_pow_right (by decide) (by omega)
    rw [Nat.div_eq_of_lt (Nat.lt_of_lt_of_le hP hp), Nat.div_eq_of_lt (Nat.lt_of_lt_of_le hS hp)]
/-- the carry of what is added above the place j -/
def mcar (S P j : Nat) : Nat := S / 4294967296 ^ j - P / 4294967296 ^ j
theorem mul_stepL (S P z j : Nat) (hSP : P ≤ S) :
    (mcar S P j + (z + P / 4294967296 ^ j % 4294967296)) % 4294967296 = (S + 4294967296 ^ j * z) / 4294967296 ^ j % 4294967296 ∧
    (mcar S P j + (z + P / 4294967296 ^ j % 4294967296)) / 4294967296 = mcar (S + 4294967296 ^ j * z) P (j + 1) := by
  unfold mcar
  have h0 : P / 4294967296 ^ j ≤ S / 4294967296 ^ j := Nat.div_le_div_right hSP
  rw [div_succL, div_succL, Nat.add_mul_div_left _ _ (Nat.pow_pos (by decide))]
  generalize S / 4294967296 ^ j = s at *
  generalize P / 4294967296 ^ j = p at *
  omega
theorem mcar_self (P j : Nat) : mcar P P j = 0 := Nat.sub_self _
def MulO (w : World) (X Y n m : Nat) (v21 : Value) (wr : World) : Prop :=
  ∃ i : Nat, i ≤ n ∧ v21 = .int .i64 i ∧ wr.ownsRow w.heap.size 49 1 (.slice (some ⟨w.heap.size, 0, none⟩) (n + m) (n + m)) (n + m) (vals .u32 (digs 4294967296 (X % 4294967296 ^ i * Y) (n + m))) ∧ Below w.heap.size w wr
def mulS (P x Y i k : Nat) : Nat := P + 4294967296 ^ i * x * (Y % 4294967296 ^ k)
def MulI (w : World) (P x Y i n m : Nat) (v7 v26 : Value) (wr : World) : Prop :=
  ∃ k : Nat, k ≤ m ∧ v26 = .int .i64 k ∧ v7 = .int .u64 (mcar (mulS P x Y i k) P (i + k) : Nat) ∧ mcar (mulS P x Y i k) P (i + k) < 4294967296 ∧
    wr.ownsRow w.heap.size 49 1 (.slice (some ⟨w.heap.size, 0, none⟩) (n + m) (n + m)) (n + m) (vals .u32 (mixD (mulS P x Y i k) P (i + k) (n + m))) ∧ Below w.heap.size w wr
theorem mulS_zero (P x Y i : Nat) : mulS P x Y i 0 = P := by unfold mulS; rw [Nat.pow_zero, Nat.mod_one]; simp
theorem mulS_succ (P x Y i k : Nat) : mulS P x Y i (k + 1) = mulS P x Y i k + 4294967296 ^ (i + k) * (x * (Y / 4294967296 ^ k % 4294967296)) := by
  unfold mulS
  rw [Nat.mod_pow_succ, Nat.mul_add, ← Nat.add_assoc, Nat.pow_add]
  congr 1
  generalize 4294967296 ^ i = a
  generalize 4294967296 ^ k = b
  generalize Y / b % 4294967296 = y
  rw [Nat.mul_assoc a x, Nat.mul_assoc a b, Nat.mul_left_comm x b]
theorem mulS_le (P x Y i k : Nat) : P ≤ mulS P x Y i k := Nat.le_add_right _ _
theorem mul_row (X Y i : Nat) : X % 4294967296 ^ (i + 1) * Y = X % 4294967296 ^ i * Y + 4294967296 ^ i * (X / 4294967296 ^ i % 4294967296) * Y := by
  rw [Nat.mod_pow_succ, Nat.add_mul]
theorem mul_row_lt (X Y i m : Nat) (hY : Y < 4294967296 ^ m) : X % 4294967296 ^ i * Y < 4294967296 ^ (i + m) := by
  have h1 : X % 4294967296 ^ i < 4294967296 ^ i := Nat.mod_lt _ (Nat.pow_pos (by decide))
  rw [Nat.pow_add]
  rcases Nat.eq_zero_or_pos Y with h | h
  · subst h; rw [Nat.mul_zero]; exact Nat.mul_pos (Nat.pow_pos (by decide)) (Nat.pow_pos (by decide))
  · exact Nat.lt_of_lt_of_le (Nat.mul_lt_mul_of_pos_right h1 h) (Nat.mul_le_mul_left _ (Nat.le_of_lt hY))

set_option maxRecDepth 100000 in
set_option maxHeartbeats 4000000 in
theorem pmul_any (A B : Option Addr) (n0 m0 c d : Nat) (xs ys : List Nat) (w : World) (hn : xs.length = n0) (hm : ys.length = m0) (hA : Limbs w A xs) (hB : Limbs w B ys) (hc : n0 ≤ c) (hd : m0 ≤ d) (hcm : c ≤ 9223372036854775807) (hdm : d ≤ 9223372036854775807) (hl : n0 ≤ 524288) (hl2 : m0 ≤ 524288) :
    Calls Tryd.prog 22 #[.slice A n0 c, .slice B m0 d] w (NatPost w (lval xs * lval ys)) := by
  obtain ⟨i0, hi, hz0, hz1, hz2⟩ := info_parts info_u32
  have H1 := Lib.hid (cut_any A n0 c xs w hn hA hc hcm)
  have H2 := Lib.hid (cut_any B m0 d ys w hm hB hd hdm)
  clear hA hB hn hm
  generalize lval xs = X at *
  generalize lval ys = Y at *
  have BX := Lib.hid (lt_powL X)
  have BY := Lib.hid (lt_powL Y)
  go_enter Tryd.func22, Tryd.ntmps22
  go_wp2_with fail
  refine H1.out.mono ?_
  rintro e w2 ⟨rfl, hca, hla, rfl⟩
  have CA := Lib.hid hca
  clear hca
  go_wp2_with fail
  refine H2.out.mono ?_
  rintro e w3 ⟨rfl, hcb, hlb, rfl⟩
  have CB := Lib.hid hcb
  clear hcb H1 H2
  have hnl : ll X ≤ 524288 := by omega
  have hml : ll Y ≤ 524288 := by omega
  obtain ⟨n, hnn⟩ : ∃ n, ll X = n := ⟨_, rfl⟩
  obtain ⟨m, hmm⟩ : ∃ m, ll Y = m := ⟨_, rfl⟩
  have HN := Lib.hid hnn
  have HM := Lib.hid hmm
  rw [hnn] at BX hnl ⊢
  rw [hmm] at BY hml ⊢
  clear hnn hmm hla hlb hl hl2 hc hd hcm hdm
  go_wp2_with (at_make; refine wpList_make_full _ rfl _ _ 47 rfl w.heap.size 49 i0 (.int .u32 0) 1 Tryd.underlying47 hi hz0 hz1 _ _ _ _ (n + m) rfl rfl ?c0 ?c1 ?c2 ?c3 ?c4 ?_)
  (try (case c0 => omega))
  (try (case c1 => omega))
  (try (case c2 => first | (rw [hz2]; omega) | omega))
  (try (case c3 => first | (unfold maxLen; omega) | omega))
  (try (case c4 => exact Nat.le_refl _))
  intro w1 hown1 hg1
  rw [made_vals] at hown1
  have HO1 := Lib.hid hown1
  have HB1 : Hid (Below w.heap.size w w1) := Lib.hid ((Below.refl _ _).grown hg1 (Nat.le_refl _) (fun _ h => by cases h))
  clear hown1 hg1
  go_wp2_with fail
  go_loopw [21] (fun v21 wr => MulO w X Y n m v21 wr) (fun v21 _ => n - (intOf v21).toNat)
  case atStart =>
    refine ⟨0, Nat.zero_le _, rfl, ?_, HB1.out⟩
    have : digs 4294967296 (X % 4294967296 ^ 0 * Y) (n + m) = List.replicate (n + m) 0 := by
      rw [Nat.pow_zero, Nat.mod_one, Nat.zero_mul, ← padD_full, ← padD_zero 0]
      unfold padD
      apply List.ext_getElem
      · simp [digs]
      · intro t h1 h2; simp [digs]
    rw [this]; exact HO1.out
  case round =>
    obtain ⟨i, hk, rfl, hown, hbel⟩ := hrel
    have HO := Lib.hid hown
    have HB := Lib.hid hbel
    clear hown hbel
    by_cases hkl : i < n
    · have hkI : (i : Int) < (n : Int) := by omega
      have hiN : i < (dig 4294967296 X).length := by have := HN.out; unfold ll at this; omega
      have HPL := Lib.hid (mul_row_lt X Y i m BY.out)
      have HPL2 := Lib.hid (mul_row_lt X Y (i + 1) m BY.out)
      have HROW := Lib.hid (mul_row X Y i)
      obtain ⟨wo, rfl⟩ : ∃ wo : World, wo = wr := ⟨_, rfl⟩
      obtain ⟨ba, oa, hae, ha0⟩ := (CA.out.below HB.out).val hiN
      subst hae
      have hx : X / 4294967296 ^ i % 4294967296 < 4294967296 := Nat.mod_lt _ (by decide)
      obtain ⟨x, hxx⟩ : ∃ x, X / 4294967296 ^ i % 4294967296 = x := ⟨_, rfl⟩
      obtain ⟨P, hPP⟩ : ∃ P, X % 4294967296 ^ i * Y = P := ⟨_, rfl⟩
      rw [hxx] at HROW hx
      rw [hPP] at HROW HPL HO
      have HX := Lib.hid hxx
      clear hxx hPP ha0
      go_wp2_with fail
      go_loopw [7, 26] (fun v7 v26 wr => MulI w P x Y i n m v7 v26 wr) (fun _ v26 _ => m - (intOf v26).toNat)
      case atStart => exact ⟨0, Nat.zero_le _, rfl, by rw [mulS_zero, mcar_self]; rfl, by rw [mulS_zero, mcar_self]; decide, by rw [mulS_zero, mixD_start _ _ _ (by omega)]; exact HO.out, HB.out⟩
      case round =>
        obtain ⟨k, hk2, rfl, rfl, hclt, hown, hbel⟩ := hrel
        have HO2 := Lib.hid hown
        have HB2 := Lib.hid hbel
        clear hown hbel
        by_cases hkm : k < m
        · have hkmI : (k : Int) < (m : Int) := by omega
          have hkN : k < (dig 4294967296 Y).length := by have := HM.out; unfold ll at this; omega
          obtain ⟨b0, o0, hae, ha1⟩ := (CA.out.below HB2.out).val hiN
          injection hae with hae
          injection hae with e1 e2
          subst e1 e2
          obtain ⟨bb, ob, hbe, hb1⟩ := (CB.out.below HB2.out).val hkN
          subst hbe
          rw [dig_getDL] at ha1 hb1
          rw [HX.out] at ha1
          have hy : Y / 4294967296 ^ k % 4294967296 < 4294967296 := Nat.mod_lt _ (by decide)
          have hcell0 := HO2.out.cellAt (i + k) (by omega)
          rw [vals_get _ _ _ (by rw [mixD_len _ _ _ _ (by omega)]; omega), mixD_get _ _ _ _ (by omega)] at hcell0
          have hfz := HO2.out.frozenAt (i + k)
          have HST := Lib.hid (mul_stepL (mulS P x Y i k) P (x * (Y / 4294967296 ^ k % 4294967296)) (i + k) (mulS_le P x Y i k))
          rw [← mulS_succ] at HST
          have hst : ∀ nn, ((wr.drewN nn).setCell ⟨w.heap.size, i + k, none⟩ (.int .u32 ((mulS P x Y i (k + 1) / 4294967296 ^ (i + k) % 4294967296 : Nat) : Int))).ownsRow w.heap.size 49 1 (.slice (some ⟨w.heap.size, 0, none⟩) (n + m) (n + m)) (n + m) (vals .u32 (mixD (mulS P x Y i (k + 1)) P (i + (k + 1)) (n + m))) := fun nn => by
            have := ((own_drewN HO2.out nn).stored (i + k) (.int .u32 ((mulS P x Y i (k + 1) / 4294967296 ^ (i + k) % 4294967296 : Nat) : Int))).1
            rw [vals_set, mulS_succ, mixD_set _ _ _ _ _ (by omega)] at this
            rw [mulS_succ]
            exact this
          rw [← HST.out.1] at hst
          have HSO := Lib.hid hst
          have hol : P / 4294967296 ^ (i + k) % 4294967296 < 4294967296 := Nat.mod_lt _ (by decide)
          clear hst hkN
          obtain ⟨cy, hcy⟩ : ∃ cy, mcar (mulS P x Y i k) P (i + k) = cy := ⟨_, rfl⟩
          rw [hcy] at hclt HST HSO ⊢
          generalize Y / 4294967296 ^ k % 4294967296 = y at *
          generalize P / 4294967296 ^ (i + k) % 4294967296 = o at *
          have hxy : x * y ≤ 4294967295 * 4294967295 := Nat.mul_le_mul (by omega) (by omega)
          obtain ⟨z, hzz⟩ : ∃ z, x * y = z := ⟨_, rfl⟩
          rw [hzz] at hxy HST HSO
          have hzI : (x : Int) * (y : Int) = (z : Int) := by rw [← hzz]; rfl
          have HCY : Hid (mcar (mulS P x Y i (k + 1)) P (i + (k + 1)) = (cy + (z + o)) / 4294967296) := Lib.hid HST.out.2.symm
          have HLT : Hid ((cy + (z + o)) / 4294967296 < 4294967296) := Lib.hid (by omega)
          have HSB : Hid (∀ nn u, Below w.heap.size w ((wr.drewN nn).setCell ⟨w.heap.size, i + k, none⟩ u)) := Lib.hid (fun nn u => (below_drewN' HB2.out nn).setCell (p := ⟨w.heap.size, i + k, none⟩) (Nat.le_refl _) _)
          have r1 : IntKind.u64.wrap (x : Int) = x := IntWalk.u64_in _ (by omega)
          have r2 : IntKind.u64.wrap (y : Int) = y := IntWalk.u64_in _ (by omega)
          have r3 : IntKind.u64.wrap (o : Int) = o := IntWalk.u64_in _ (by omega)
          have r4 : IntKind.u64.wrap (z : Int) = z := IntWalk.u64_in _ (by omega)
          clear hcy hzz HST
          go_wp2_with fail
          go_quiet (fail)
          have HM1 : Hid (((cy : Int) + ((z : Int) + (o : Int))) % 4294967296 = (((cy + (z + o)) % 4294967296 : Nat) : Int)) := Lib.hid (by omega)
          have HM2 : Hid (((cy : Int) + ((z : Int) + (o : Int))) / 4294967296 = (((cy + (z + o)) / 4294967296 : Nat) : Int)) := Lib.hid (by omega)
          go_wp2_with fail
          go_roundw
          case rel => exact ⟨k + 1, by omega, by go_num, by rw [HCY.out, ← HM2.out], by rw [HCY.out]; exact HLT.out, by rw [HM1.out]; exact HSO.out nq, HSB.out nq _⟩
          case measure => simp [intOf]; omega
        · obtain rfl : k = m := by omega
          have hS : mulS P x Y i k = X % 4294967296 ^ (i + 1) * Y := by
            unfold mulS
            rw [Nat.mod_eq_of_lt BY.out, HROW.out]
          rw [hS] at hclt HO2 ⊢
          have hP0 : P / 4294967296 ^ (i + k) = 0 := Nat.div_eq_of_lt HPL.out
          have hcy : mcar (X % 4294967296 ^ (i + 1) * Y) P (i + k) = X % 4294967296 ^ (i + 1) * Y / 4294967296 ^ (i + k) := by unfold mcar; rw [hP0, Nat.sub_zero]
          rw [hcy] at hclt ⊢
          have hcell0 := HO2.out.cellAt (i + k) (by omega)
          rw [vals_get _ _ _ (by rw [mixD_len _ _ _ _ (by omega)]; omega), mixD_get _ _ _ _ (by omega), hP0, Nat.zero_mod] at hcell0
          have hfz := HO2.out.frozenAt (i + k)
          have hst := (HO2.out.stored (i + k) (.int .u32 ((X % 4294967296 ^ (i + 1) * Y / 4294967296 ^ (i + k) % 4294967296 : Nat) : Int))).1
          rw [vals_set, mixD_set0 _ _ _ _ (by omega), mixD_end _ _ _ _ (by omega) (by have := HPL2.out; rw [show i + k + 1 = i + 1 + k by omega]; exact this) (Nat.lt_of_lt_of_le HPL.out (Nat.pow_le_pow_right (by decide) (by omega))), Nat.mod_eq_of_lt hclt] at hst
          have HST := Lib.hid hst
          have HSB : Hid (∀ u, Below w.heap.size w (wr.setCell ⟨w.heap.size, i + k, none⟩ u)) := Lib.hid (fun u => HB2.out.setCell (p := ⟨w.heap.size, i + k, none⟩) (Nat.le_refl _) _)
          clear hst hS hcy hP0
          generalize X % 4294967296 ^ (i + 1) * Y / 4294967296 ^ (i + k) = cy at *
          go_wp2_with fail
          go_roundw
          case rel => exact ⟨i + 1, by omega, by go_num, HST.out, HSB.out _⟩
          case measure => simp [intOf]; omega
    · obtain rfl : i = n := by omega
      have hown := HO.out
      rw [Nat.mod_eq_of_lt BX.out] at hown
      have hXY : X * Y < 4294967296 ^ (i + m) := by
        have := mul_row_lt X Y i m BY.out
        rw [Nat.mod_eq_of_lt BX.out] at this
        exact this
      obtain ⟨ol, ol1, ol2, ol3⟩ := own_limbs hown (digs_limb _ _)
      have HCUT := Lib.hid (cut_any _ (i + m) (i + m) _ _ ol1 ol (Nat.le_refl _) (by omega))
      rw [lval_digs _ _ hXY] at HCUT
      clear hown ol ol1 ol2 ol3 hXY
      go_wp2_with fail
      refine HCUT.out.mono ?_
      rintro e w2 ⟨rfl, hcan, hll, rfl⟩
      have HCAN := Lib.hid hcan
      clear hcan
      go_wp2_with fail
      go_ret
      exact ⟨_, _, rfl, HCAN.out, Nat.le_refl _, by omega, HB.out⟩
end Go.Proofs.YtgckfilmhnapeaaDoor

namespace Go.Proofs.YtgckfilmhnapeaaDoor
open Go.RowKit
set_option linter.unusedVariables false

theorem own_heap {w : World} {base g n : Nat} {e : TypeId} {xs : List Value} (h : w.ownsRow base e 1 (.slice (some ⟨g, 0, none⟩) n n) n xs) : w.heap[g]? = some (.cells xs.toArray e (0, 0)) ∧ xs.length = n := by
  have hl := h.1
  rcases h.2 with ⟨h1, h2⟩ | ⟨g', cap', cur, h0, h1, h2, h3, h4, h5, h6⟩
  · cases h1
  · injection h0 with e1 e2 e3
    injection e1 with e1
    injection e1 with e1
    subst e1 e3
    refine ⟨?_, by omega⟩
    rw [h2]
    have : cur.toList = xs := by rw [← h6, List.take_of_length_le (by rw [Array.length_toList]; omega)]
    rw [← this]
theorem own_of_heap {w : World} {base g n : Nat} {e : TypeId} {xs : List Value} (h : w.heap[g]? = some (.cells xs.toArray e (0, 0))) (hb : base ≤ g) (hn : xs.length = n) (hm : n ≤ maxLen) : w.ownsRow base e 1 (.slice (some ⟨g, 0, none⟩) n n) n xs := by
  refine ⟨by omega, .inr ⟨g, n, xs.toArray, rfl, hb, h, Nat.le_refl _, hm, ?_, ?_⟩⟩
  · simp; omega
  · rw [Nat.mul_one, List.take_of_length_le (by simp; omega)]
theorem size_u32 : (Tryd.prog.info? 49).map (·.size) = some 1 := by kernel_rfl
theorem splice_all (zs cs : List Value) (h : zs.length = cs.length) : splice zs 0 cs = cs := by
  unfold splice
  simp [h]
set_option maxRecDepth 100000 in
set_option maxHeartbeats 1500000 in
theorem pnorm_any (A : Option Addr) (n c : Nat) (xs : List Nat) (w : World) (hn : xs.length = n) (hA : Limbs w A xs) (hc : n ≤ c) (hcm : c ≤ 9223372036854775807) (hl : n ≤ 1048576) :
    Calls Tryd.prog 91 #[.slice A n c] w (NatPost w (lval xs)) := by
  obtain ⟨i0, hi, hz0, hz1, hz2⟩ := info_parts info_u32
  have H1 := Lib.hid (cut_any A n c xs w hn hA hc hcm)
  clear hA hn
  generalize lval xs = X at *
  go_enter Tryd.func91, Tryd.ntmps91
  go_wp2_with fail
  refine H1.out.mono ?_
  rintro e w2 ⟨rfl, hca, hla, rfl⟩
  have CA := Lib.hid hca
  have hll : ll X ≤ 1048576 := by omega
  have HLL : Hid ((vals .u32 (dig 4294967296 X)).length = ll X) := Lib.hid (by rw [vals_length]; rfl)
  clear hca H1 hc hcm hl hla
  go_wp2_with (at_make; refine wpList_make_full _ rfl _ _ 47 rfl w.heap.size 49 i0 (.int .u32 0) 1 Tryd.underlying47 hi hz0 hz1 _ _ _ _ (ll X) rfl rfl ?c0 ?c1 ?c2 ?c3 ?c4 ?_)
  (try (case c0 => omega))
  (try (case c1 => omega))
  (try (case c2 => first | (rw [hz2]; omega) | omega))
  (try (case c3 => first | (unfold maxLen; omega) | omega))
  (try (case c4 => exact Nat.le_refl _))
  intro w1 hown1 hg1
  rw [made_vals] at hown1
  obtain ⟨hh, hhl⟩ := own_heap hown1
  have HH := Lib.hid hh
  have HHL := Lib.hid hhl
  have HB1 : Hid (Below w.heap.size w w1) := Lib.hid ((Below.refl _ _).grown hg1 (Nat.le_refl _) (fun _ h => by cases h))
  clear hown1 hg1 hh hhl
  go_wp2_with (with_reducible refine wpList_copy_splice rfl (.tmp 9) (.tmp 10) 47 47 rfl 49 Tryd.underlying47 size_u32 (some ⟨w.heap.size, 0, none⟩) A (ll X) (ll X) (ll X) (ll X) rfl rfl w.heap.size 0 (vals .u32 (List.replicate (ll X) 0)) 49 HH.out (vals .u32 (dig 4294967296 X)) ?hn ?hpos ?hfit ?h1 w.heap.size w HB1.out (Nat.le_refl _) ?_)
  case hn => rw [HLL.out]; exact (Nat.min_self _).symm
  case hpos =>
    intro h
    have hr : Rd w1 A (vals .u32 (dig 4294967296 X)) := CA.out.below HB1.out
    obtain ⟨ad, e, -, hcell⟩ := hr.reads.2 h
    first | exact ⟨rfl, ad, e, hcell⟩ | exact ⟨ad, e, hcell⟩
  case hfit => rw [HLL.out, HHL.out]; omega
  case h1 => exact vals_oneCell _ _
  intro w3 hg3 hb3
  have HB3 := Lib.hid hb3
  have HR3 : Hid (CanAt w3 (some ⟨w.heap.size, 0, none⟩) X) := Lib.hid (by
    have h1 := hg3.out
    rw [splice_all _ _ (by rw [HHL.out, HLL.out])] at h1
    exact (own_limbs (own_of_heap (base := w.heap.size) h1 (Nat.le_refl _) HLL.out (by unfold maxLen; omega)) (dig_lt (by decide) X)).1.rd)
  clear hg3 hb3
  go_wp2_with fail
  go_ret
  exact ⟨_, _, rfl, HR3.out, Nat.le_refl _, by omega, HB3.out⟩
theorem or64_add' (h l : Nat) (hh : h < 4294967296) (hl : l < 4294967296) : bits .or .u64 (l : Int) ((h : Int) * 4294967296) = ((h * 4294967296 + l : Nat) : Int) := by
  rw [show (h : Int) * 4294967296 = ((4294967296 * h : Nat) : Int) by omega, u64_or_nat _ _ (by omega) (by omega), Nat.or_comm]
  have := Nat.two_pow_add_eq_or_of_lt (i := 32) (b := l) hl h
  rw [← this]
  congr 1
  omega
theorem or64_zero (l : Nat) (hl : l < 4294967296) : bits .or .u64 0 (l : Int) = (l : Int) := by
  have := u64_or_nat 0 l (by decide) (by omega)
  rw [Nat.zero_or] at this
  exact this
def PUintRel (N L : Nat) (v4 v13 : Value) : Prop := ∃ k : Nat, k ≤ L ∧ v13 = .int .i64 k ∧ v4 = .int .u64 (N % 4294967296 ^ k : Nat)
set_option maxRecDepth 100000 in
set_option maxHeartbeats 1500000 in
theorem puint_any (A : Option Addr) (n c : Nat) (xs : List Nat) (w : World) (hn : xs.length = n) (hA : Limbs w A xs) (hc : n ≤ c) (hcm : c ≤ 9223372036854775807) (hN : lval xs < 18446744073709551616) :
    Calls Tryd.prog 89 #[.slice A n c] w fun e w' => e = .returned (.tuple #[.int .u64 (lval xs : Nat), .bool true]) ∧ w = w' := by
  have H1 := Lib.hid (cut_any A n c xs w hn hA hc hcm)
  clear hA hn
  generalize lval xs = N at *
  have hl2 : ll N ≤ 2 := ll_le N 2 (by rw [show (4294967296 : Nat) ^ 2 = 18446744073709551616 by decide]; exact hN)
  have HPN := Lib.hid (lt_powL N)
  have HN := Lib.hid hN
  clear hN
  go_enter Tryd.func89, Tryd.ntmps89
  go_wp2_with fail
  refine H1.out.mono ?_
  rintro e w2 ⟨rfl, hca, hla, rfl⟩
  have CA := Lib.hid hca
  obtain ⟨L, hL⟩ : ∃ L, ll N = L := ⟨_, rfl⟩
  have HL := Lib.hid hL
  rw [hL] at hl2 HPN ⊢
  have hl2I : ¬ (2 : Int) < (L : Int) := by omega
  clear hca H1 hL hla hc hcm
  go_wp2_with fail
  go_loop [4, 13] (fun v4 v13 => PUintRel N L v4 v13) (fun _ v13 => L - (intOf v13).toNat)
  case atStart => exact ⟨0, Nat.zero_le _, rfl, by rw [Nat.pow_zero, Nat.mod_one]; rfl⟩
  case round =>
    obtain ⟨k, hk, rfl, rfl⟩ := hrel
    by_cases hkl : k < L
    · have hkN : k < (dig 4294967296 N).length := by have := HL.out; unfold ll at this; omega
      obtain ⟨ba, oa, hae, ha1⟩ := CA.out.val hkN
      subst hae
      rw [dig_getDL] at ha1
      have HMS := Lib.hid (Nat.mod_pow_succ (b := 4294967296) (k := k) (x := N))
      have hy : N / 4294967296 ^ k % 4294967296 < 4294967296 := Nat.mod_lt _ (by decide)
      have hkI : (k : Int) < (L : Int) := by omega
      have hk01 : k = 0 ∨ k = 1 := by omega
      clear hkN
      rcases hk01 with rfl | rfl
      · rw [Nat.pow_zero, Nat.mod_one, Nat.div_one] at HMS
        rw [Nat.pow_zero, Nat.div_one] at ha1 hy
        rw [Nat.pow_zero, Nat.mod_one]
        have HZ := or64_zero (N % 4294967296) hy
        obtain ⟨y, hyN⟩ : ∃ y, N % 4294967296 = y := ⟨_, rfl⟩
        rw [hyN] at HZ ha1 hy
        have HYN := Lib.hid hyN
        clear hyN HMS
        have r1 : IntKind.u64.wrap (y : Int) = y := IntWalk.u64_in _ (by omega)
        rw [Nat.add_zero] at ha1
        go_wp2_with fail
        go_roundw
        case rel => exact ⟨1, by omega, rfl, by rw [Nat.pow_one, HYN.out]⟩
        case measure => simp [intOf]; omega
      · have hx : N % 4294967296 ^ 1 < 4294967296 := Nat.mod_lt _ (by decide)
        have HZ := or64_add' (N / 4294967296 ^ 1 % 4294967296) (N % 4294967296 ^ 1) hy hx
        generalize N / 4294967296 ^ 1 % 4294967296 = y at *
        generalize N % 4294967296 ^ 1 = x at *
        have r1 : IntKind.u64.wrap (y : Int) = y := IntWalk.u64_in _ (by omega)
        have r2 : IntKind.u64.wrap ((y : Int) * 4294967296) = (y : Int) * 4294967296 := IntWalk.u64_in _ (by omega)
        go_wp2_with fail
        go_roundw
        case rel => exact ⟨2, by omega, rfl, by rw [HMS.out, Nat.pow_one, Nat.add_comm, Nat.mul_comm] <;> rfl⟩
        case measure => simp [intOf]; omega
    · obtain rfl : k = L := by omega
      rw [Nat.mod_eq_of_lt HPN.out]
      have HPN0 := HPN
      clear HPN
      go_wp2_with fail
      go_ret2
      exact ⟨rfl, rfl⟩
end Go.Proofs.YtgckfilmhnapeaaDoor

namespace Go.Proofs.YtgckfilmhnapeaaDoor
open Go.RowKit
set_option linter.unusedVariables false

theorem limbs_digs (xs : List Nat) (h : LimbL xs) : xs = digs 4294967296 (lval xs) xs.length := by
  apply List.ext_getElem
  · rw [digs_len]
  · intro t h1 h2
    have := lval_at xs h t
    rw [List.getD_eq_getElem?_getD, List.getElem?_eq_getElem h1, Option.getD_some] at this
    rw [this]
    simp [digs]
theorem shl_copy (X q L : Nat) (hL : ll X = L) : splice (vals .u32 (List.replicate (q + L + 1) 0)) q (vals .u32 (dig 4294967296 X)) = vals .u32 (digs 4294967296 (X * 4294967296 ^ q) (q + L + 1)) := by
  have hl : (dig 4294967296 X).length = L := hL
  have h1 : splice (vals .u32 (List.replicate (q + L + 1) 0)) q (vals .u32 (dig 4294967296 X)) = vals .u32 (List.replicate q 0 ++ (dig 4294967296 X ++ [0])) := by
    unfold splice
    rw [vals_append, vals_append, vals_length, hl, vals_replicate, vals_replicate, List.take_replicate, List.drop_replicate, Nat.min_eq_left (by omega), show q + L + 1 - (q + L) = 1 by omega]
    rfl
  rw [h1]
  congr 1
  have hlim : LimbL (List.replicate q 0 ++ (dig 4294967296 X ++ [0])) := by
    intro x hx
    rcases List.mem_append.1 hx with h | h
    · rw [(List.mem_replicate.1 h).2]; decide
    · rcases List.mem_append.1 h with h | h
      · exact dig_lt (by decide) X x h
      · rw [List.mem_singleton.1 h]; decide
  have h2 := limbs_digs _ hlim
  have h3 : lval (List.replicate q 0 ++ (dig 4294967296 X ++ [0])) = X * 4294967296 ^ q := by
    unfold lval
    rw [bval_append, bval_append, bval_replicate, List.length_replicate, Nat.zero_add, Nat.mul_comm]
    congr 1
    show lval (dig 4294967296 X) + 4294967296 ^ (dig 4294967296 X).length * bval 4294967296 [0] = X
    rw [lval_dig]
    show X + 4294967296 ^ (dig 4294967296 X).length * (0 + 4294967296 * 0) = X
    simp
  rw [h3] at h2
  have h4 : (List.replicate q (0 : Nat) ++ (dig 4294967296 X ++ [0])).length = q + L + 1 := by simp [hl]; omega
  rw [h4] at h2
  exact h2
theorem pow_parts (r : Nat) (hr : r < 32) : 4294967296 = 2 ^ (32 - r) * 2 ^ r := by
  rw [← Nat.pow_add, show 32 - r + r = 32 by omega]
theorem shl_div (V t r : Nat) (hr : r < 32) : V * 2 ^ r / 4294967296 ^ (t + 1) = V / 4294967296 ^ t / 2 ^ (32 - r) := by
  rw [Nat.div_div_eq_div_mul]
  have : (4294967296 : Nat) ^ (t + 1) = 4294967296 ^ t * 2 ^ (32 - r) * 2 ^ r := by
    rw [Nat.pow_succ, Nat.mul_assoc, ← pow_parts r hr]
  rw [this, Nat.mul_div_mul_right _ _ (Nat.two_pow_pos r)]
theorem shl_digL (V t r : Nat) (hr : r < 32) :
    V * 2 ^ r / 4294967296 ^ (t + 1) % 4294967296 = (V / 4294967296 ^ (t + 1) % 4294967296 * 2 ^ r % 4294967296) ||| (V / 4294967296 ^ t % 4294967296 / 2 ^ (32 - r)) := by
  rw [shl_div V t r hr, div_succL]
  generalize V / 4294967296 ^ t = u
  have hp : 0 < 2 ^ (32 - r) := Nat.two_pow_pos _
  have hb := pow_parts r hr
  have hlt : u % 4294967296 / 2 ^ (32 - r) < 2 ^ r := by
    rw [Nat.div_lt_iff_lt_mul hp, Nat.mul_comm, ← hb]
    exact Nat.mod_lt _ (by decide)
  have e1 : u / 4294967296 % 4294967296 * 2 ^ r % 4294967296 = 2 ^ r * (u / 4294967296 % 4294967296 % 2 ^ (32 - r)) := by
    rw [Nat.mul_comm]
    conv => lhs; rw [show u / 4294967296 % 4294967296 = u / 4294967296 % 4294967296 from rfl]
    have := Nat.mul_mod_mul_left (2 ^ r) (u / 4294967296 % 4294967296) (2 ^ (32 - r))
    rw [Nat.mul_comm (2 ^ r) (2 ^ (32 - r)), ← hb] at this
    exact this
  rw [e1, ← Nat.two_pow_add_eq_or_of_lt hlt]
  have e2 : u / 4294967296 % 4294967296 % 2 ^ (32 - r) = u / 4294967296 % 2 ^ (32 - r) := Nat.mod_mod_of_dvd _ ⟨2 ^ r, hb⟩
  rw [e2]
  have e3 : u / 2 ^ (32 - r) = 2 ^ r * (u / 4294967296) + u % 4294967296 / 2 ^ (32 - r) := by
    conv => lhs; rw [← Nat.div_add_mod u 4294967296]
    rw [show 4294967296 * (u / 4294967296) = 2 ^ (32 - r) * (2 ^ r * (u / 4294967296)) by rw [← Nat.mul_assoc, ← hb], Nat.mul_add_div hp]
  rw [e3]
  generalize u / 4294967296 = a
  have e4 : 2 ^ r * (a % 2 ^ (32 - r)) = 2 ^ r * a % 4294967296 := by
    have := Nat.mul_mod_mul_left (2 ^ r) a (2 ^ (32 - r))
    rw [Nat.mul_comm (2 ^ r) (2 ^ (32 - r)), ← hb] at this
    exact this.symm
  rw [e4, Nat.add_mod]
  have h5 : u % 4294967296 / 2 ^ (32 - r) % 4294967296 = u % 4294967296 / 2 ^ (32 - r) := Nat.mod_eq_of_lt (Nat.lt_of_le_of_lt (Nat.div_le_self _ _) (Nat.mod_lt _ (by decide)))
  rw [h5, ← e4]
  apply Nat.mod_eq_of_lt
  have h6 : a % 2 ^ (32 - r) + 1 ≤ 2 ^ (32 - r) := Nat.mod_lt _ hp
  have h7 := Nat.mul_le_mul_left (2 ^ r) h6
  rw [Nat.mul_comm (2 ^ r) (2 ^ (32 - r)), ← hb, Nat.mul_add, Nat.mul_one] at h7
  omega
theorem shl_dig0 (V r : Nat) : V * 2 ^ r % 4294967296 = V % 4294967296 * 2 ^ r % 4294967296 := by rw [Nat.mod_mul_mod]
theorem mixU_get (V W j t T : Nat) (ht : t < j) (hj : j ≤ T) : (mixD V W j T).getD t 0 = V / 4294967296 ^ t % 4294967296 := by
  unfold mixD
  rw [List.getD_eq_getElem?_getD, List.getElem?_append_left (by rw [digs_len]; exact ht), ← List.getD_eq_getElem?_getD, digs_get V j t ht]
theorem mixU_set (V W j T : Nat) (hj : j < T) : (mixD V W (j + 1) T).set j (W / 4294967296 ^ j % 4294967296) = mixD V W j T := by
  unfold mixD
  rw [digs_succ, List.append_assoc, List.set_append_right _ _ (by rw [digs_len]; exact Nat.le_refl _), digs_len, Nat.sub_self]
  congr 1
  show (W / 4294967296 ^ j % 4294967296) :: (digs 4294967296 W T).drop (j + 1) = _
  have h := List.drop_eq_getElem_cons (l := digs 4294967296 W T) (i := j) (by rw [digs_len]; exact hj)
  rw [h]
  congr 1
  simp [digs]
theorem mixU_start (V W T : Nat) : mixD V W T T = digs 4294967296 V T := by
  unfold mixD
  rw [List.drop_of_length_le (by rw [digs_len]; exact Nat.le_refl _), List.append_nil]
theorem mixU_end (V W T : Nat) : mixD V W 0 T = digs 4294967296 W T := rfl
theorem ll_blen (X k : Nat) (h : blen X ≤ 32 * k) : ll X ≤ k := ll_le X k (by rw [powL]; exact (blen_iff X _).1 h)
def ShlRelP (w : World) (V W T : Nat) (v : Value) (wr : World) : Prop :=
  ∃ i j : Nat, i + j = T ∧ v = .int .i64 i ∧ wr.ownsRow w.heap.size 49 1 (.slice (some ⟨w.heap.size, 0, none⟩) T T) T (vals .u32 (mixD V W j T)) ∧ Below w.heap.size w wr
theorem cast_pow2 (r : Nat) : ((2 ^ r : Nat) : Int) = 2 ^ r := by push_cast; rfl
theorem shl_cast (a r : Nat) : ((a * 2 ^ r % 4294967296 : Nat) : Int) = (a : Int) * 2 ^ r % 4294967296 := by
  rw [← cast_pow2, ← Int.natCast_mul]
  generalize a * 2 ^ r = z
  omega
theorem shr_cast (b k : Nat) : ((b / 2 ^ k : Nat) : Int) = (b : Int) / 2 ^ k := by
  rw [← cast_pow2, ← Int.natCast_ediv]
theorem mod_castL (V : Nat) : ((V % 4294967296 : Nat) : Int) = (V : Int) % 4294967296 := by omega
theorem shl_bits (a b r : Nat) (ha : a < 4294967296) (hb : b < 4294967296) (hr : r < 32) : bits .or .u32 (((a * 2 ^ r % 4294967296 : Nat) : Int)) (((b / 2 ^ (32 - r) : Nat) : Int)) = (((a * 2 ^ r % 4294967296) ||| (b / 2 ^ (32 - r)) : Nat) : Int) :=
  u32_or_nat _ _ (Nat.mod_lt _ (by decide)) (Nat.lt_of_le_of_lt (Nat.div_le_self _ _) hb)
set_option maxRecDepth 100000 in
set_option maxHeartbeats 4000000 in
theorem pshl_any (A : Option Addr) (n c N : Nat) (xs : List Nat) (w : World) (hn : xs.length = n) (hA : Limbs w A xs) (hc : n ≤ c) (hcm : c ≤ 9223372036854775807) (hN : N + blen (lval xs) ≤ 8388608) :
    Calls Tryd.prog 54 #[.slice A n c, .int .i64 N] w (NatPost2 w (lval xs * 2 ^ N)) := by
  obtain ⟨i0, hi, hz0, hz1, hz2⟩ := info_parts info_u32
  have H1 := Lib.hid (cut_any A n c xs w hn hA hc hcm)
  clear hA hn
  generalize lval xs = X at *
  have hL0 : ll X ≤ 262144 := ll_blen X 262144 (by omega)
  have HBX := Lib.hid (lt_powL X)
  go_enter Tryd.func54, Tryd.ntmps54
  go_wp2_with fail
  refine H1.out.mono ?_
  rintro e w2 ⟨rfl, hca, hla, rfl⟩
  have CA := Lib.hid hca
  clear hca H1
  by_cases hX : X = 0
  · subst hX
    rw [ll_zero'] at *
    go_wp2_with fail
    go_ret2
    rw [Nat.zero_mul]
    exact ⟨none, 0, by rw [ll_zero'] <;> rfl, zeros_can _, by rw [ll_zero']; exact Nat.le_refl _, by omega, Below.refl _ _⟩
  · have hp := ll_pos X hX
    have HLE := Lib.hid (plen_can A X (ll X) w CA.out (Nat.le_refl _) (by omega) (by omega))
    obtain ⟨L, hL⟩ : ∃ L, ll X = L := ⟨_, rfl⟩
    have HL := Lib.hid hL
    rw [hL] at HLE hp hL0 HBX ⊢
    have hL1 : ((L : Int) == 0) = false := by rw [beq_eq_false_iff_ne]; omega
    clear hL hla hc hcm
    go_wp2_with fail
    refine HLE.out.mono ?_
    rintro e w2 ⟨rfl, rfl⟩
    have hNI : ¬ ((8388608 : Int) - (blen X : Int) < (N : Int)) := by omega
    have hq1 : ((N : Int) / 32) = ((N / 32 : Nat) : Int) := by omega
    have hr1 : ((N : Int) % 32) = ((N % 32 : Nat) : Int) := by omega
    have hr : N % 32 < 32 := Nat.mod_lt _ (by decide)
    have hq : N / 32 ≤ 262144 := by omega
    have HNN : Hid (N = 32 * (N / 32) + N % 32) := Lib.hid (by omega)
    generalize N / 32 = q at *
    generalize N % 32 = r at *
    have HLL : Hid ((vals .u32 (dig 4294967296 X)).length = L) := Lib.hid (by rw [vals_length]; exact HL.out)
    go_wp2_with (at_make; refine wpList_make_full _ rfl _ _ 47 rfl w.heap.size 49 i0 (.int .u32 0) 1 Tryd.underlying47 hi hz0 hz1 _ _ _ _ (q + L + 1) rfl rfl ?c0 ?c1 ?c2 ?c3 ?c4 ?_)
    (try (case c0 => omega))
    (try (case c1 => omega))
    (try (case c2 => first | (rw [hz2]; omega) | omega))
    (try (case c3 => first | (unfold maxLen; omega) | omega))
    (try (case c4 => exact Nat.le_refl _))
    intro w1 hown1 hg1
    rw [made_vals] at hown1
    obtain ⟨hh, hhl⟩ := own_heap hown1
    have HH := Lib.hid hh
    have HHL := Lib.hid hhl
    have HB1 : Hid (Below w.heap.size w w1) := Lib.hid ((Below.refl _ _).grown hg1 (Nat.le_refl _) (fun _ h => by cases h))
    clear hown1 hg1 hh hhl
    go_wp2_with (with_reducible refine wpList_copy_splice rfl (.tmp 34) (.tmp 35) 47 47 rfl 49 Tryd.underlying47 size_u32 (some ⟨w.heap.size, q, none⟩) A (q + L + 1 - q) (q + L + 1 - q) L L rfl rfl w.heap.size q (vals .u32 (List.replicate (q + L + 1) 0)) 49 HH.out (vals .u32 (dig 4294967296 X)) ?hn ?hpos ?hfit ?h1 w.heap.size w HB1.out (Nat.le_refl _) ?_)
    case hn => rw [HLL.out]; exact (Nat.min_eq_left (by omega)).symm
    case hpos =>
      intro h
      have hr : Rd w1 A (vals .u32 (dig 4294967296 X)) := CA.out.below HB1.out
      obtain ⟨ad, e, -, hcell⟩ := hr.reads.2 h
      first | exact ⟨rfl, ad, e, hcell⟩ | exact ⟨ad, e, hcell⟩
    case hfit => rw [HLL.out, HHL.out]; omega
    case h1 => exact vals_oneCell _ _
    intro w3 hg3 hb3
    have HB3 := Lib.hid hb3
    have HO3 : Hid (w3.ownsRow w.heap.size 49 1 (.slice (some ⟨w.heap.size, 0, none⟩) (q + L + 1) (q + L + 1)) (q + L + 1) (vals .u32 (digs 4294967296 (X * 4294967296 ^ q) (q + L + 1)))) := Lib.hid (by
      have h1 := hg3.out
      rw [shl_copy X q L HL.out] at h1
      exact own_of_heap h1 (Nat.le_refl _) (by rw [vals_length, digs_len]) (by unfold maxLen; omega))
    clear hg3 hb3
    have hT0 : q + L + 1 ≤ 524289 := by omega
    have HVW : Hid (X * 4294967296 ^ q * 2 ^ r = X * 2 ^ N) := Lib.hid (by rw [HNN.out, powL, Nat.pow_add, Nat.mul_assoc])
    have HVB : Hid (X * 2 ^ N < 4294967296 ^ (q + L + 1)) := Lib.hid (by
      rw [← HVW.out]
      have h1 : X * 4294967296 ^ q < 4294967296 ^ (q + L) := by
        rw [Nat.add_comm q L, Nat.pow_add]; exact Nat.mul_lt_mul_of_pos_right HBX.out (Nat.pow_pos (by decide))
      have h2 : 2 ^ r ≤ 4294967296 := by
        have : 2 ^ r ≤ 2 ^ 32 := Nat.pow_le_pow_right (by decide) (by omega)
        exact this
      rw [Nat.pow_succ]
      exact Nat.lt_of_lt_of_le (Nat.mul_lt_mul_of_pos_right h1 (Nat.two_pow_pos r)) (Nat.mul_le_mul_left _ h2))
    generalize X * 4294967296 ^ q = V at *
    generalize X * 2 ^ N = W at *
    obtain ⟨T, hT⟩ : ∃ T, q + L + 1 = T := ⟨_, rfl⟩
    rw [hT] at HO3 HVB hT0 ⊢
    clear hT HHL HH
    by_cases hr0 : r = 0
    · subst hr0
      have hVW : V = W := by have := HVW.out; rw [Nat.pow_zero, Nat.mul_one] at this; exact this
      subst hVW
      obtain ⟨ol, ol1, ol2, ol3⟩ := own_limbs HO3.out (digs_limb _ _)
      have HCUT := Lib.hid (cut_any _ T T _ _ ol1 ol (Nat.le_refl _) (by omega))
      rw [lval_digs _ _ HVB.out] at HCUT
      clear ol ol1 ol2 ol3
      go_wp2_with fail
      refine HCUT.out.mono ?_
      rintro e w4 ⟨rfl, hcan, hll, rfl⟩
      have HCAN := Lib.hid hcan
      clear hcan
      go_wp2_with fail
      go_ret2
      exact ⟨_, _, rfl, HCAN.out, Nat.le_refl _, by omega, HB3.out⟩
    · have hr0I : (0 : Int) < (r : Int) := by omega
      go_wp2_with fail
      have hr0D : decide (0 < r) = true := decide_eq_true (by omega)
      simp only [hr1, hr0D]
      clear hr1 hq1 hr0D
      go_loopw [43] (fun v wr => ShlRelP w V W T v wr) (fun v _ => T - (intOf v).toNat)
      case atStart => exact ⟨0, T, by omega, rfl, by rw [mixU_start]; exact HO3.out, HB3.out⟩
      case round =>
        obtain ⟨i, j, hij, rfl, hown, hbel⟩ := hrel
        have HO := Lib.hid hown
        have HB := Lib.hid hbel
        clear hown hbel
        rcases j with _ | _ | m
        · obtain rfl : i = T := by omega
          have hlt : ¬ ((i : Int) < (i : Int)) := by omega
          rw [mixU_end] at HO
          obtain ⟨ol, ol1, ol2, ol3⟩ := own_limbs HO.out (digs_limb _ _)
          have HCUT := Lib.hid (cut_any _ i i _ _ ol1 ol (Nat.le_refl _) (by omega))
          rw [lval_digs _ _ HVB.out] at HCUT
          clear ol ol1 ol2 ol3
          go_wp2_with fail
          refine HCUT.out.mono ?_
          rintro e w4 ⟨rfl, hcan, hll, rfl⟩
          have HCAN := Lib.hid hcan
          clear hcan
          go_wp2_with fail
          go_ret2
          exact ⟨_, _, rfl, HCAN.out, Nat.le_refl _, by omega, HB.out⟩
        · have hlt : (i : Int) < (T : Int) := by omega
          have hJ1 : (T : Int) - 1 - (i : Int) = 0 := by omega
          have hcell0 := HO.out.cellAt 0 (by omega)
          rw [vals_get _ _ _ (by rw [mixD_len _ _ _ _ (by omega)]; omega), mixU_get _ _ _ _ _ (by omega) (by omega)] at hcell0
          have hfz := HO.out.frozenAt 0
          have hst := (HO.out.stored 0 (.int .u32 ((W / 4294967296 ^ 0 % 4294967296 : Nat) : Int))).1
          rw [vals_set, mixU_set _ _ _ _ (by omega), Nat.pow_zero, Nat.div_one, ← HVW.out, shl_dig0] at hst
          have HST := Lib.hid hst
          have HSB : Hid (∀ u, Below w.heap.size w (wr.setCell ⟨w.heap.size, 0, none⟩ u)) := Lib.hid (fun u => HB.out.setCell (p := ⟨w.heap.size, 0, none⟩) (Nat.le_refl _) _)
          have HCE : Hid (((V % 4294967296 * 2 ^ r % 4294967296 : Nat) : Int) = (V : Int) % 4294967296 * 2 ^ r % 4294967296) := Lib.hid (by rw [shl_cast, mod_castL])
          clear hst
          go_wp2_with fail
          go_roundw
          case rel => exact ⟨i + 1, 0, by omega, by go_num, by rw [← HCE.out, ← HVW.out]; exact HST.out, HSB.out _⟩
          case measure => simp [intOf]; omega
        · have hlt : (i : Int) < (T : Int) := by omega
          have hJ1 : (T : Int) - 1 - (i : Int) = (m : Int) + 1 := by omega
          have hmT : (m : Int) + 1 < (T : Int) := by omega
          have hmT1 : m + 1 < T := by omega
          have hmT2 : m < T := by omega
          have hcell0 := HO.out.cellAt (m + 1) (by omega)
          rw [vals_get _ _ _ (by rw [mixD_len _ _ _ _ (by omega)]; omega), mixU_get _ _ _ _ _ (by omega) (by omega)] at hcell0
          have hcell1 := HO.out.cellAt m (by omega)
          rw [vals_get _ _ _ (by rw [mixD_len _ _ _ _ (by omega)]; omega), mixU_get _ _ _ _ _ (by omega) (by omega)] at hcell1
          have hfz := HO.out.frozenAt (m + 1)
          have ha : V / 4294967296 ^ (m + 1) % 4294967296 < 4294967296 := Nat.mod_lt _ (by decide)
          have hb : V / 4294967296 ^ m % 4294967296 < 4294967296 := Nat.mod_lt _ (by decide)
          have HDG := Lib.hid (shl_digL V m r hr)
          rw [HVW.out] at HDG
          generalize V / 4294967296 ^ (m + 1) % 4294967296 = a at *
          generalize hbb : V / 4294967296 ^ m % 4294967296 = b at *
          have HBB := Lib.hid hbb
          clear hbb
          have HBI := Lib.hid (shl_bits a b r ha hb hr)
          have hz : a * 2 ^ r % 4294967296 < 4294967296 := Nat.mod_lt _ (by decide)
          have HCE : Hid ((a : Int) * 2 ^ r % 4294967296 = ((a * 2 ^ r % 4294967296 : Nat) : Int)) := Lib.hid (shl_cast a r).symm
          have HCD : Hid (((b / 2 ^ (32 - r) : Nat) : Int) = (b : Int) / 2 ^ (32 - r)) := Lib.hid (shr_cast b _)
          go_wp2_with fail
          rw [HCE.out]
          generalize a * 2 ^ r % 4294967296 = z at *
          have h1 := (HO.out.stored (m + 1) (.int .u32 (z : Int))).1
          rw [vals_set] at h1
          have hfz1 := h1.frozenAt (m + 1)
          have hc1 := h1.cellAt (m + 1) (by omega)
          rw [vals_get _ _ _ (by rw [List.length_set, mixD_len _ _ _ _ (by omega)]; omega), List.getD_eq_getElem?_getD, List.getElem?_set_self (by rw [mixD_len _ _ _ _ (by omega)]; omega), Option.getD_some] at hc1
          have hc0 := h1.cellAt m (by omega)
          rw [vals_get _ _ _ (by rw [List.length_set, mixD_len _ _ _ _ (by omega)]; omega), List.getD_eq_getElem?_getD, List.getElem?_set_ne (by omega), ← List.getD_eq_getElem?_getD, mixU_get _ _ _ _ _ (by omega) (by omega), HBB.out] at hc0
          have hb1 : Below w.heap.size w (wr.setCell ⟨w.heap.size, m + 1, none⟩ (.int .u32 (z : Int))) := HB.out.setCell (p := ⟨w.heap.size, m + 1, none⟩) (Nat.le_refl _) _
          generalize wr.setCell ⟨w.heap.size, m + 1, none⟩ (.int .u32 (z : Int)) = wo at *
          have h1d := World.ownsRow.drew h1
          have hfzd := h1d.frozenAt (m + 1)
          have hc1d : wo.drew.cell? ⟨w.heap.size, m + 1, none⟩ = some (.int .u32 (z : Int)) := hc1
          have hst := (h1d.stored (m + 1) (.int .u32 ((W / 4294967296 ^ (m + 1) % 4294967296 : Nat) : Int))).1
          rw [vals_set, List.set_set, mixU_set _ _ _ _ (by omega), HDG.out, ← HBI.out, HCD.out] at hst
          have HST := Lib.hid hst
          have HB1 := Lib.hid hb1.drew
          clear hst hb1 h1 h1d
          have hcellD : ({ heap := wo.heap, tape := wo.tape, drawn := wo.drawn + 1, os := wo.os, output := wo.output } : World).cell? ⟨w.heap.size, m + 1, none⟩ = some (.int .u32 z) := hc1
          have hcellD2 : ({ heap := wo.heap, tape := wo.tape, drawn := wo.drawn + 1, os := wo.os, output := wo.output } : World).cell? ⟨w.heap.size, m, none⟩ = some (.int .u32 b) := hc0
          have r1 : (0 : Int) ≤ (m : Int) + 1 := by omega
          have r2 : ((m : Int) + 1).toNat = m + 1 := by omega
          have r3 : IntKind.i64.wrap ((m : Int) + 1 - 1) = (m : Int) := by rw [show (m : Int) + 1 - 1 = m by omega]; exact IntWalk.i64_in _ (by omega)
          have r3' : IntKind.i64.wrap (m : Int) = (m : Int) := IntWalk.i64_in _ (by omega)
          have r4 : (m : Int) < (T : Int) := by omega
          have r5 : IntKind.i64.wrap (32 - (r : Int)) = 32 - (r : Int) := IntWalk.i64_in _ (by omega)
          have r6 : (0 : Int) ≤ 32 - (r : Int) := by omega
          have r7 : (32 - (r : Int)).toNat = 32 - r := by omega
          have r8 : min (32 - r) 32 = 32 - r := by omega
          go_still_tail 14, (by kernel_rfl)
          change wpList _ _ _ _ _ wo.drew
          clear r3 r3' r5 r6 r7 r8 HCD HBI HDG hcellD hcellD2 hc1 hc0 hfz1
          generalize bits .or .u32 (z : Int) ((b : Int) / 2 ^ (32 - r)) = u at *
          generalize (b : Int) / 2 ^ (32 - r) = y2 at *
          generalize wo.drew = wd at *
          go_wp2_with fail
          go_roundw
          case rel => exact ⟨i + 1, m + 1, by omega, by go_num, HST.out, HB1.out.setCell (p := ⟨w.heap.size, m + 1, none⟩) (Nat.le_refl _) _⟩
          case measure => simp [intOf]; omega
end Go.Proofs.YtgckfilmhnapeaaDoor

namespace Go.Proofs.YtgckfilmhnapeaaDoor
open Go.RowKit
set_option linter.unusedVariables false

theorem shr_digL (V t r : Nat) (hr0 : 0 < r) (hr : r < 32) :
    V / 2 ^ r / 4294967296 ^ t % 4294967296 = (V / 4294967296 ^ t % 4294967296 / 2 ^ r) ||| (V / 4294967296 ^ (t + 1) % 4294967296 * 2 ^ (32 - r) % 4294967296) := by
  have h := shl_digL V t (32 - r) (by omega)
  rw [shl_div V t (32 - r) (by omega), show 32 - (32 - r) = r by omega] at h
  rw [Nat.or_comm, ← h, Nat.div_div_eq_div_mul, Nat.div_div_eq_div_mul, Nat.mul_comm]
theorem shr_top (V t r : Nat) (hV : V < 4294967296 ^ (t + 1)) : V / 2 ^ r / 4294967296 ^ t % 4294967296 = V / 4294967296 ^ t % 4294967296 / 2 ^ r := by
  have h0 : V / 4294967296 ^ t < 4294967296 := by
    rw [Nat.div_lt_iff_lt_mul (Nat.pow_pos (by decide)), Nat.mul_comm, ← Nat.pow_succ]; exact hV
  rw [Nat.mod_eq_of_lt h0, Nat.div_div_eq_div_mul, Nat.mul_comm, ← Nat.div_div_eq_div_mul]
  exact Nat.mod_eq_of_lt (Nat.lt_of_le_of_lt (Nat.div_le_self _ _) h0)
theorem mixD_at (S P j t T : Nat) (hj : j ≤ t) (h : t < T) : (mixD S P j T).getD t 0 = P / 4294967296 ^ t % 4294967296 := by
  unfold mixD
  rw [List.getD_eq_getElem?_getD, List.getElem?_append_right (by rw [digs_len]; exact hj), digs_len, List.getElem?_drop, show j + (t - j) = t by omega, ← List.getD_eq_getElem?_getD, digs_get P T t h]
theorem mixD_all (S P T : Nat) : mixD S P T T = digs 4294967296 S T := by
  unfold mixD
  rw [List.drop_of_length_le (by rw [digs_len]; exact Nat.le_refl _), List.append_nil]
/-- what is cut off below q limbs, the rest -/
theorem drop_dig (N q L : Nat) (hL : ll N = L) (hq : q ≤ L) : (dig 4294967296 N).drop q = digs 4294967296 (N / 4294967296 ^ q) (L - q) := by
  have hl : (dig 4294967296 N).length = L := hL
  apply List.ext_getElem
  · rw [List.length_drop, hl, digs_len]
  · intro t h1 h2
    rw [List.getElem_drop]
    have h3 : q + t < (dig 4294967296 N).length := by rw [List.length_drop] at h1; omega
    have h4 := dig_getDL N (q + t)
    rw [List.getD_eq_getElem?_getD, List.getElem?_eq_getElem h3, Option.getD_some] at h4
    rw [h4]
    simp only [digs, List.getElem_map, List.getElem_range]
    rw [Nat.pow_add, Nat.div_div_eq_div_mul]
/-- what falls away is not nothing: some limb below q, or a bit below r of the limb at q -/
theorem rest_zero (N q : Nat) : N % 4294967296 ^ q = 0 ↔ ∀ i, i < q → N / 4294967296 ^ i % 4294967296 = 0 := by
  induction q with
  | zero => simp [Nat.mod_one]
  | succ q ih =>
    rw [Nat.mod_pow_succ]
    have hp : 0 < 4294967296 ^ q := Nat.pow_pos (by decide)
    constructor
    · intro h i hi
      have h1 : N % 4294967296 ^ q = 0 := by omega
      have h2 : 4294967296 ^ q * (N / 4294967296 ^ q % 4294967296) = 0 := by omega
      rcases Nat.lt_or_ge i q with h3 | h3
      · exact ih.1 h1 i h3
      · obtain rfl : i = q := by omega
        rcases Nat.mul_eq_zero.1 h2 with h | h
        · omega
        · exact h
    · intro h
      rw [ih.2 (fun i hi => h i (by omega)), h q (by omega), Nat.mul_zero]
theorem rest_split (N q r : Nat) : N % 2 ^ (32 * q + r) = N % 4294967296 ^ q + 4294967296 ^ q * (N / 4294967296 ^ q % 2 ^ r) := by
  rw [Nat.pow_add, ← powL, Nat.mod_mul]
theorem low_zero (c r : Nat) (hr : r < 32) : c % 4294967296 * 2 ^ (32 - r) % 4294967296 = 0 ↔ c % 2 ^ r = 0 := by
  have hb := pow_parts r hr
  have h1 := Nat.mul_mod_mul_left (2 ^ (32 - r)) (c % 4294967296) (2 ^ r)
  rw [← hb] at h1
  rw [Nat.mul_comm, h1, Nat.mod_mod_of_dvd _ ⟨2 ^ (32 - r), by rw [Nat.mul_comm]; exact hb⟩]
  have hp : 0 < 2 ^ (32 - r) := Nat.two_pow_pos _
  constructor
  · intro h
    rcases Nat.mul_eq_zero.1 h with h | h
    · omega
    · exact h
  · intro h; rw [h, Nat.mul_zero]
theorem addr_add (b o m : Nat) : (⟨b, o, none⟩ : Addr).add m = ⟨b, o + m, none⟩ := by
  unfold Addr.add
  split
  · rename_i h; subst h; rfl
  · rfl
def ShrRelP (w : World) (V W T : Nat) (v : Value) (wr : World) : Prop :=
  ∃ j : Nat, j ≤ T ∧ v = .int .i64 j ∧ wr.ownsRow w.heap.size 49 1 (.slice (some ⟨w.heap.size, 0, none⟩) T T) T (vals .u32 (mixD W V j T)) ∧ Below w.heap.size w wr
def PShrPost (w : World) (N n : Nat) (e : Ending) (w' : World) : Prop :=
  ∃ A c, e = .returned (.tuple #[.slice A (ll (N / 2 ^ n)) c, .bool (decide (N % 2 ^ n ≠ 0)), .bool true]) ∧ CanAt w' A (N / 2 ^ n) ∧ ll (N / 2 ^ n) ≤ c ∧ c ≤ 9223372036854775807 ∧ Below w.heap.size w w'
def ShrMoreP (X q : Nat) (v5 v28 : Value) : Prop := ∃ k : Nat, k ≤ q ∧ v28 = .int .i64 k ∧ v5 = .bool (decide (X % 4294967296 ^ k ≠ 0))
set_option maxRecDepth 100000 in
set_option maxHeartbeats 4000000 in
theorem pshr_any (A : Option Addr) (n c N : Nat) (xs : List Nat) (w : World) (hn : xs.length = n) (hA : Limbs w A xs) (hc : n ≤ c) (hcm : c ≤ 9223372036854775807) (hN : N ≤ 9223372036854775807) (hl : n ≤ 1048576) :
    Calls Tryd.prog 90 #[.slice A n c, .int .i64 N] w (PShrPost w (lval xs) N) := by
  obtain ⟨i0, hi, hz0, hz1, hz2⟩ := info_parts info_u32
  have H1 := Lib.hid (cut_any A n c xs w hn hA hc hcm)
  clear hA hn
  generalize lval xs = X at *
  have HBX := Lib.hid (lt_powL X)
  have hr : N % 32 < 32 := Nat.mod_lt _ (by decide)
  have hq1 : ((N : Int) / 32) = ((N / 32 : Nat) : Int) := by omega
  have hr1 : ((N : Int) % 32) = ((N % 32 : Nat) : Int) := by omega
  have HNN : Hid (N = 32 * (N / 32) + N % 32) := Lib.hid (by omega)
  have hq : N / 32 ≤ 9223372036854775807 := by omega
  generalize N / 32 = q at *
  generalize N % 32 = r at *
  go_enter Tryd.func90, Tryd.ntmps90
  go_wp2_with fail
  refine H1.out.mono ?_
  rintro e w2 ⟨rfl, hca, hla, rfl⟩
  have CA := Lib.hid hca
  have hL0 : ll X ≤ 1048576 := by omega
  clear hca H1 hla hc hcm hl
  obtain ⟨L, hL⟩ : ∃ L, ll X = L := ⟨_, rfl⟩
  have HL := Lib.hid hL
  rw [hL] at hL0 HBX ⊢
  clear hL
  by_cases hqL : L ≤ q
  · have hqLI : (L : Int) ≤ (q : Int) := by omega
    have hX0 : X / 2 ^ N = 0 := by
      apply Nat.div_eq_of_lt
      refine Nat.lt_of_lt_of_le HBX.out ?_
      rw [powL, HNN.out]
      exact Nat.pow_le_pow_right (by decide) (by omega)
    have hXm : X % 2 ^ N = X := Nat.mod_eq_of_lt (by
      refine Nat.lt_of_lt_of_le HBX.out ?_
      rw [powL, HNN.out]
      exact Nat.pow_le_pow_right (by decide) (by omega))
    have hLX : decide (0 < L) = decide (X ≠ 0) := by
      by_cases h0 : X = 0
      · subst h0
        have : L = 0 := by rw [← HL.out, ll_zero']
        subst this; rfl
      · have := ll_pos X h0
        rw [HL.out] at this
        rw [decide_eq_true (by omega), decide_eq_true h0]
    have HX0 := Lib.hid hX0
    have HXM := Lib.hid hXm
    have HLX := Lib.hid hLX
    clear hX0 hXm hLX
    go_wp2_with fail
    rw [HLX.out]
    go_ret3
    refine ⟨none, 0, ?_, ?_, ?_, by omega, Below.refl _ _⟩
    · rw [HX0.out, HXM.out, ll_zero'] <;> rfl
    · rw [HX0.out]; exact zeros_can _
    · rw [HX0.out, ll_zero']; exact Nat.le_refl _
  · have hqLI : ¬ (L : Int) ≤ (q : Int) := by omega
    have HLN : Hid ((dig 4294967296 X).length = L) := Lib.hid HL.out
    go_wp2_with fail
    go_loop [5, 28] (fun v5 v28 => ShrMoreP X q v5 v28) (fun _ v28 => q - (intOf v28).toNat)
    case atStart => exact ⟨0, Nat.zero_le _, rfl, by rw [Nat.pow_zero, Nat.mod_one]; rfl⟩
    case round =>
      obtain ⟨k, hk, rfl, rfl⟩ := hrel
      by_cases hkq : k < q
      · have hkI : (k : Int) < (q : Int) := by omega
        obtain ⟨ba, oa, hae, ha1⟩ := CA.out.val (i := k) (by rw [HLN.out]; omega)
        subst hae
        rw [dig_getDL] at ha1
        have HS := Lib.hid (Nat.mod_pow_succ (b := 4294967296) (k := k) (x := X))
        have hp : 0 < 4294967296 ^ k := Nat.pow_pos (by decide)
        by_cases hm : X % 4294967296 ^ k = 0
        · have hd : decide (X % 4294967296 ^ k ≠ 0) = false := decide_eq_false (by omega)
          rw [hd]
          have HD : Hid (decide (X % 4294967296 ^ (k + 1) ≠ 0) = decide (X / 4294967296 ^ k % 4294967296 ≠ 0)) := Lib.hid (by
            rw [HS.out, hm, Nat.zero_add]
            by_cases h0 : X / 4294967296 ^ k % 4294967296 = 0
            · rw [h0, Nat.mul_zero]
            · rw [decide_eq_true h0, decide_eq_true]
              exact fun h => (Nat.mul_eq_zero.1 h).elim (by omega) h0)
          clear hm hd
          generalize X / 4294967296 ^ k % 4294967296 = y at *
          go_wp2_with fail
          refine ⟨⟨k + 1, by omega, by go_num, ?_⟩, by simp [intOf]; omega⟩
          rw [HD.out]
          congr 1
          by_cases h0 : y = 0
          · subst h0; rfl
          · rw [decide_eq_true h0, bne_iff_ne]; omega
        · have hd : decide (X % 4294967296 ^ k ≠ 0) = true := decide_eq_true hm
          rw [hd]
          have HD : Hid (decide (X % 4294967296 ^ (k + 1) ≠ 0) = true) := Lib.hid (decide_eq_true (by rw [HS.out]; omega))
          clear hm hd
          generalize X / 4294967296 ^ k % 4294967296 = y at *
          go_wp2_with fail
          exact ⟨⟨k + 1, by omega, by go_num, by rw [HD.out]⟩, by simp [intOf]; omega⟩
      · obtain rfl : k = q := by omega
        obtain ⟨D, hLD⟩ : ∃ D, L = k + D := ⟨L - k, by omega⟩
        have hD0 : 0 < D := by omega
        have hD1 : (L : Int) - (k : Int) = (D : Int) := by omega
        have hD2 : L - k = D := by omega
        obtain ⟨ba, oa, hae, -⟩ := CA.out.val (i := k) (by rw [HLN.out]; omega)
        subst hae
        obtain ⟨mb, hmb⟩ : ∃ mb, decide (X % 4294967296 ^ k ≠ 0) = mb := ⟨_, rfl⟩
        rw [hmb]
        have HMB := Lib.hid hmb
        clear hmb
        go_wp2_with (at_make; refine wpList_make_full _ rfl _ _ 47 rfl w.heap.size 49 i0 (.int .u32 0) 1 Tryd.underlying47 hi hz0 hz1 _ _ _ _ D rfl rfl ?c0 ?c1 ?c2 ?c3 ?c4 ?_)
        (try (case c0 => omega))
        (try (case c1 => omega))
        (try (case c2 => first | (rw [hz2]; omega) | omega))
        (try (case c3 => first | (unfold maxLen; omega) | omega))
        (try (case c4 => exact Nat.le_refl _))
        intro w1 hown1 hg1
        rw [made_vals] at hown1
        obtain ⟨hh, hhl⟩ := own_heap hown1
        have HH := Lib.hid hh
        have HHL := Lib.hid hhl
        have HB1 : Hid (Below w.heap.size w w1) := Lib.hid ((Below.refl _ _).grown hg1 (Nat.le_refl _) (fun _ h => by cases h))
        clear hown1 hg1 hh hhl
        have HDR : Hid ((dig 4294967296 X).drop k = digs 4294967296 (X / 4294967296 ^ k) D) := Lib.hid (by
          have := drop_dig X k _ HL.out (by omega)
          rw [hD2] at this
          exact this)
        have HLL : Hid ((vals .u32 (digs 4294967296 (X / 4294967296 ^ k) D)).length = D) := Lib.hid (by rw [vals_length, digs_len])
        go_wp2_with (with_reducible refine wpList_copy_splice rfl (.tmp 44) (.tmp 48) 47 47 rfl 49 Tryd.underlying47 size_u32 (some ⟨w.heap.size, 0, none⟩) (some ⟨ba, oa + k, none⟩) D D D D rfl rfl w.heap.size 0 (vals .u32 (List.replicate D 0)) 49 HH.out (vals .u32 (digs 4294967296 (X / 4294967296 ^ k) D)) ?hn ?hpos ?hfit ?h1 w.heap.size w HB1.out (Nat.le_refl _) ?_)
        case hn => rw [HLL.out]; exact (Nat.min_self _).symm
        case hpos =>
          intro h
          have hr : Rd w1 (some ⟨ba, oa, none⟩) (vals .u32 (dig 4294967296 X)) := CA.out.below HB1.out
          obtain ⟨ad, e, -, hcell⟩ := hr.reads.2 (by rw [vals_length, HLN.out]; omega)
          injection e with e
          subst e
          have hc2 : ∀ j v, (vals .u32 (digs 4294967296 (X / 4294967296 ^ k) D))[j]? = some v → w1.cell? ⟨ba, oa + k + j, none⟩ = some v := fun j v hj => by
            rw [← HDR.out] at hj
            have h2 : (vals .u32 (dig 4294967296 X))[k + j]? = some v := by
              rw [← hj]; unfold vals; rw [List.map_drop, List.getElem?_drop]
            have h3 := hcell _ _ h2
            rw [addr_add, ← Nat.add_assoc] at h3
            exact h3
          first | exact hc2 | exact ⟨rfl, _, rfl, fun j v hj => by rw [addr_add]; exact hc2 j v hj⟩ | exact ⟨_, rfl, fun j v hj => by rw [addr_add]; exact hc2 j v hj⟩ | exact fun j v hj => by rw [addr_add]; exact hc2 j v hj
        case hfit => rw [HLL.out, HHL.out]; omega
        case h1 => exact vals_oneCell _ _
        intro w3 hg3 hb3
        have HB3 := Lib.hid hb3
        have HO3 : Hid (w3.ownsRow w.heap.size 49 1 (.slice (some ⟨w.heap.size, 0, none⟩) D D) D (vals .u32 (digs 4294967296 (X / 4294967296 ^ k) D))) := Lib.hid (by
          have h1 := hg3.out
          rw [splice_all _ _ (by rw [HHL.out, HLL.out])] at h1
          exact own_of_heap h1 (Nat.le_refl _) HLL.out (by unfold maxLen; omega))
        clear hg3 hb3
        by_cases hr0 : r = 0
        · subst hr0
          have HV : Hid (X / 4294967296 ^ k = X / 2 ^ N) := Lib.hid (by rw [HNN.out, powL]; rfl)
          have HVM : Hid (X % 4294967296 ^ k = X % 2 ^ N) := Lib.hid (by rw [HNN.out, powL]; rfl)
          have HVB : Hid (X / 4294967296 ^ k < 4294967296 ^ D) := Lib.hid (by
            rw [Nat.div_lt_iff_lt_mul (Nat.pow_pos (by decide)), ← Nat.pow_add, Nat.add_comm D k, ← hLD]; exact HBX.out)
          obtain ⟨ol, ol1, ol2, ol3⟩ := own_limbs HO3.out (digs_limb _ _)
          have HCUT := Lib.hid (cut_any _ D D _ _ ol1 ol (Nat.le_refl _) (by omega))
          rw [lval_digs _ _ HVB.out, HV.out] at HCUT
          clear ol ol1 ol2 ol3
          go_wp2_with fail
          refine HCUT.out.mono ?_
          rintro e w4 ⟨rfl, hcan, hll, rfl⟩
          have HCAN := Lib.hid hcan
          clear hcan
          go_wp2_with fail
          go_ret3
          exact ⟨_, _, by rw [← HMB.out, HVM.out] <;> rfl, HCAN.out, Nat.le_refl _, by omega, HB3.out⟩
        · have hr0I : (0 : Int) < (r : Int) := by omega
          have HVB : Hid (X / 4294967296 ^ k < 4294967296 ^ D) := Lib.hid (by
            rw [Nat.div_lt_iff_lt_mul (Nat.pow_pos (by decide)), ← Nat.pow_add, Nat.add_comm D k, ← hLD]; exact HBX.out)
          have HSP := Lib.hid (rest_split X k r)
          rw [← HNN.out] at HSP
          have HW : Hid (X / 2 ^ N = X / 4294967296 ^ k / 2 ^ r) := Lib.hid (by rw [HNN.out, Nat.pow_add, ← powL, Nat.div_div_eq_div_mul])
          obtain ⟨V, hV⟩ : ∃ V, X / 4294967296 ^ k = V := ⟨_, rfl⟩
          rw [hV] at HO3 HVB HSP HW
          have hcell0 := HO3.out.cellAt 0 (by omega)
          rw [vals_get _ _ _ (by rw [digs_len]; omega), digs_get _ _ _ hD0, Nat.pow_zero, Nat.div_one] at hcell0
          have hpk : 0 < 4294967296 ^ k := Nat.pow_pos (by decide)
          have HMM : Hid (decide (X % 2 ^ N ≠ 0) = (mb || ((V : Int) % 4294967296 * 2 ^ (32 - r) % 4294967296 != 0))) := Lib.hid (by
            have h1 := low_zero V r hr
            have h2 : ((V : Int) % 4294967296 * 2 ^ (32 - r) % 4294967296 != 0) = decide (V % 4294967296 * 2 ^ (32 - r) % 4294967296 ≠ 0) := by
              rw [← mod_castL, ← shl_cast]
              generalize V % 4294967296 * 2 ^ (32 - r) % 4294967296 = z
              by_cases h0 : z = 0
              · subst h0; rfl
              · rw [decide_eq_true h0, bne_iff_ne]; omega
            rw [h2, ← HMB.out, HSP.out]
            by_cases ha : X % 4294967296 ^ k = 0
            · by_cases hb : V % 2 ^ r = 0
              · have := h1.2 hb
                simp [ha, hb, this]
              · have : ¬ V % 4294967296 * 2 ^ (32 - r) % 4294967296 = 0 := fun h => hb (h1.1 h)
                have hs : X % 4294967296 ^ k + 4294967296 ^ k * (V % 2 ^ r) ≠ 0 := by
                  rw [ha, Nat.zero_add]; exact Nat.mul_ne_zero (Nat.ne_of_gt hpk) hb
                rw [decide_eq_true hs, decide_eq_true this, Bool.or_true]
            · have hs : X % 4294967296 ^ k + 4294967296 ^ k * (V % 2 ^ r) ≠ 0 := by omega
              rw [decide_eq_true ha, decide_eq_true hs, Bool.true_or])
          clear hV hpk
          clear HMB
          cases mb
          · rw [Bool.false_or] at HMM
            go_wp2_with fail
            generalize ((V : Int) % 4294967296 * 2 ^ (32 - r) % 4294967296 != 0) = mm at *
            have hr0D : decide (0 < r) = true := decide_eq_true (by omega)
            simp only [hr1, hr0D]
            clear hr1 hq1 hr0D
            go_loopw [66] (fun v wr => ShrRelP w V (V / 2 ^ r) D v wr) (fun v _ => D - (intOf v).toNat)
            case atStart => exact ⟨0, Nat.zero_le _, rfl, HO3.out, HB3.out⟩
            case round =>
              obtain ⟨j, hj, rfl, hown, hbel⟩ := hrel
              have HO := Lib.hid hown
              have HB := Lib.hid hbel
              clear hown hbel
              by_cases hjD : j < D
              · have hlt : (j : Int) < (D : Int) := by omega
                have hcell0 := HO.out.cellAt j (by omega)
                rw [vals_get _ _ _ (by rw [mixD_len _ _ _ _ (by omega)]; omega), mixD_get _ _ _ _ (by omega)] at hcell0
                have hfz := HO.out.frozenAt j
                by_cases hl : j + 1 < D
                · have hlI : (j : Int) + 1 < (D : Int) := by omega
                  have HDG := Lib.hid (shr_digL V j r (by omega) hr)
                  have ha : V / 4294967296 ^ j % 4294967296 < 4294967296 := Nat.mod_lt _ (by decide)
                  have hb : V / 4294967296 ^ (j + 1) % 4294967296 < 4294967296 := Nat.mod_lt _ (by decide)
                  generalize V / 4294967296 ^ j % 4294967296 = a at *
                  generalize hbb : V / 4294967296 ^ (j + 1) % 4294967296 = b at *
                  have HBB := Lib.hid hbb
                  clear hbb
                  have HCE : Hid ((a : Int) / 2 ^ r = ((a / 2 ^ r : Nat) : Int)) := Lib.hid (shr_cast a r).symm
                  have hz : a / 2 ^ r < 4294967296 := Nat.lt_of_le_of_lt (Nat.div_le_self _ _) ha
                  have HBI := Lib.hid (u32_or_nat (a / 2 ^ r) (b * 2 ^ (32 - r) % 4294967296) hz (Nat.mod_lt _ (by decide)))
                  go_wp2_with fail
                  rw [HCE.out]
                  generalize a / 2 ^ r = z at *
                  have h1 := (HO.out.stored j (.int .u32 (z : Int))).1
                  rw [vals_set] at h1
                  have hc1 := h1.cellAt j (by omega)
                  rw [vals_get _ _ _ (by rw [List.length_set, mixD_len _ _ _ _ (by omega)]; omega), List.getD_eq_getElem?_getD, List.getElem?_set_self (by rw [mixD_len _ _ _ _ (by omega)]; omega), Option.getD_some] at hc1
                  have hc0 := h1.cellAt (j + 1) (by omega)
                  rw [vals_get _ _ _ (by rw [List.length_set, mixD_len _ _ _ _ (by omega)]; omega), List.getD_eq_getElem?_getD, List.getElem?_set_ne (by omega), ← List.getD_eq_getElem?_getD, mixD_at _ _ _ _ _ (by omega) (by omega), HBB.out] at hc0
                  have hb1 : Below w.heap.size w (wr.setCell ⟨w.heap.size, j, none⟩ (.int .u32 (z : Int))) := HB.out.setCell (p := ⟨w.heap.size, j, none⟩) (Nat.le_refl _) _
                  generalize wr.setCell ⟨w.heap.size, j, none⟩ (.int .u32 (z : Int)) = wo at *
                  have h1d := World.ownsRow.drew h1
                  have hfzd := h1d.frozenAt j
                  have hc1d : wo.drew.cell? ⟨w.heap.size, j, none⟩ = some (.int .u32 (z : Int)) := hc1
                  have hst := (h1d.stored j (.int .u32 ((V / 2 ^ r / 4294967296 ^ j % 4294967296 : Nat) : Int))).1
                  rw [vals_set, List.set_set, mixD_set0 _ _ _ _ (by omega), HDG.out, ← HBI.out, shl_cast] at hst
                  have HST := Lib.hid hst
                  have HB1 := Lib.hid hb1.drew
                  clear hst hb1 h1 h1d
                  have hcellD : ({ heap := wo.heap, tape := wo.tape, drawn := wo.drawn + 1, os := wo.os, output := wo.output } : World).cell? ⟨w.heap.size, j, none⟩ = some (.int .u32 z) := hc1
                  have hcellD2 : ({ heap := wo.heap, tape := wo.tape, drawn := wo.drawn + 1, os := wo.os, output := wo.output } : World).cell? ⟨w.heap.size, j + 1, none⟩ = some (.int .u32 b) := hc0
                  have r1 : (0 : Int) ≤ (j : Int) + 1 := by omega
                  have r2 : ((j : Int) + 1).toNat = j + 1 := by omega
                  have r3 : IntKind.i64.wrap ((j : Int) + 1) = (j : Int) + 1 := IntWalk.i64_in _ (by omega)
                  have r5 : IntKind.i64.wrap (32 - (r : Int)) = 32 - (r : Int) := IntWalk.i64_in _ (by omega)
                  have r6 : (0 : Int) ≤ 32 - (r : Int) := by omega
                  have r7 : (32 - (r : Int)).toNat = 32 - r := by omega
                  have r8 : min (32 - r) 32 = 32 - r := by omega
                  go_still_tail 14, (by kernel_rfl)
                  change wpList _ _ _ _ _ wo.drew
                  clear r3 r5 r6 r7 r8 HBI HDG hcellD hcellD2 hc1 hc0
                  generalize wo.drew = wd at *
                  go_wp2_with fail
                  go_roundw
                  case rel => exact ⟨j + 1, by omega, by go_num, HST.out, HB1.out.setCell (p := ⟨w.heap.size, j, none⟩) (Nat.le_refl _) _⟩
                  case measure => simp [intOf]; omega
                · have hlI : ¬ (j : Int) + 1 < (D : Int) := by omega
                  have hst := (HO.out.stored j (.int .u32 ((V / 2 ^ r / 4294967296 ^ j % 4294967296 : Nat) : Int))).1
                  rw [vals_set, mixD_set0 _ _ _ _ (by omega), shr_top V j r (by rw [show j + 1 = D by omega]; exact HVB.out), shr_cast] at hst
                  have HST := Lib.hid hst
                  clear hst
                  generalize V / 4294967296 ^ j % 4294967296 = a at *
                  go_wp2_with fail
                  go_roundw
                  case rel => exact ⟨j + 1, by omega, by go_num, HST.out, HB.out.setCell (p := ⟨w.heap.size, j, none⟩) (Nat.le_refl _) _⟩
                  case measure => simp [intOf]; omega
              · obtain rfl : j = D := by omega
                have hlt : ¬ ((j : Int) < (j : Int)) := by omega
                rw [mixD_all] at HO
                obtain ⟨ol, ol1, ol2, ol3⟩ := own_limbs HO.out (digs_limb _ _)
                have HCUT := Lib.hid (cut_any _ j j _ _ ol1 ol (Nat.le_refl _) (by omega))
                rw [lval_digs _ _ (Nat.lt_of_le_of_lt (Nat.div_le_self _ _) HVB.out), ← HW.out] at HCUT
                clear ol ol1 ol2 ol3
                go_wp2_with fail
                refine HCUT.out.mono ?_
                rintro e w4 ⟨rfl, hcan, hll, rfl⟩
                have HCAN := Lib.hid hcan
                clear hcan
                go_wp2_with fail
                go_ret3
                exact ⟨_, _, by rw [HMM.out] <;> rfl, HCAN.out, Nat.le_refl _, by omega, HB.out⟩
          · rw [Bool.true_or] at HMM
            go_wp2_with fail
            have hr0D : decide (0 < r) = true := decide_eq_true (by omega)
            simp only [hr1, hr0D]
            clear hr1 hq1 hr0D
            go_loopw [66] (fun v wr => ShrRelP w V (V / 2 ^ r) D v wr) (fun v _ => D - (intOf v).toNat)
            case atStart => exact ⟨0, Nat.zero_le _, rfl, HO3.out, HB3.out⟩
            case round =>
              obtain ⟨j, hj, rfl, hown, hbel⟩ := hrel
              have HO := Lib.hid hown
              have HB := Lib.hid hbel
              clear hown hbel
              by_cases hjD : j < D
              · have hlt : (j : Int) < (D : Int) := by omega
                have hcell0 := HO.out.cellAt j (by omega)
                rw [vals_get _ _ _ (by rw [mixD_len _ _ _ _ (by omega)]; omega), mixD_get _ _ _ _ (by omega)] at hcell0
                have hfz := HO.out.frozenAt j
                by_cases hl : j + 1 < D
                · have hlI : (j : Int) + 1 < (D : Int) := by omega
                  have HDG := Lib.hid (shr_digL V j r (by omega) hr)
                  have ha : V / 4294967296 ^ j % 4294967296 < 4294967296 := Nat.mod_lt _ (by decide)
                  have hb : V / 4294967296 ^ (j + 1) % 4294967296 < 4294967296 := Nat.mod_lt _ (by decide)
                  generalize V / 4294967296 ^ j % 4294967296 = a at *
                  generalize hbb : V / 4294967296 ^ (j + 1) % 4294967296 = b at *
                  have HBB := Lib.hid hbb
                  clear hbb
                  have HCE : Hid ((a : Int) / 2 ^ r = ((a / 2 ^ r : Nat) : Int)) := Lib.hid (shr_cast a r).symm
                  have hz : a / 2 ^ r < 4294967296 := Nat.lt_of_le_of_lt (Nat.div_le_self _ _) ha
                  have HBI := Lib.hid (u32_or_nat (a / 2 ^ r) (b * 2 ^ (32 - r) % 4294967296) hz (Nat.mod_lt _ (by decide)))
                  go_wp2_with fail
                  rw [HCE.out]
                  generalize a / 2 ^ r = z at *
                  have h1 := (HO.out.stored j (.int .u32 (z : Int))).1
                  rw [vals_set] at h1
                  have hc1 := h1.cellAt j (by omega)
                  rw [vals_get _ _ _ (by rw [List.length_set, mixD_len _ _ _ _ (by omega)]; omega), List.getD_eq_getElem?_getD, List.getElem?_set_self (by rw [mixD_len _ _ _ _ (by omega)]; omega), Option.getD_some] at hc1
                  have hc0 := h1.cellAt (j + 1) (by omega)
                  rw [vals_get _ _ _ (by rw [List.length_set, mixD_len _ _ _ _ (by omega)]; omega), List.getD_eq_getElem?_getD, List.getElem?_set_ne (by omega), ← List.getD_eq_getElem?_getD, mixD_at _ _ _ _ _ (by omega) (by omega), HBB.out] at hc0
                  have hb1 : Below w.heap.size w (wr.setCell ⟨w.heap.size, j, none⟩ (.int .u32 (z : Int))) := HB.out.setCell (p := ⟨w.heap.size, j, none⟩) (Nat.le_refl _) _
                  generalize wr.setCell ⟨w.heap.size, j, none⟩ (.int .u32 (z : Int)) = wo at *
                  have h1d := World.ownsRow.drew h1
                  have hfzd := h1d.frozenAt j
                  have hc1d : wo.drew.cell? ⟨w.heap.size, j, none⟩ = some (.int .u32 (z : Int)) := hc1
                  have hst := (h1d.stored j (.int .u32 ((V / 2 ^ r / 4294967296 ^ j % 4294967296 : Nat) : Int))).1
                  rw [vals_set, List.set_set, mixD_set0 _ _ _ _ (by omega), HDG.out, ← HBI.out, shl_cast] at hst
                  have HST := Lib.hid hst
                  have HB1 := Lib.hid hb1.drew
                  clear hst hb1 h1 h1d
                  have hcellD : ({ heap := wo.heap, tape := wo.tape, drawn := wo.drawn + 1, os := wo.os, output := wo.output } : World).cell? ⟨w.heap.size, j, none⟩ = some (.int .u32 z) := hc1
                  have hcellD2 : ({ heap := wo.heap, tape := wo.tape, drawn := wo.drawn + 1, os := wo.os, output := wo.output } : World).cell? ⟨w.heap.size, j + 1, none⟩ = some (.int .u32 b) := hc0
                  have r1 : (0 : Int) ≤ (j : Int) + 1 := by omega
                  have r2 : ((j : Int) + 1).toNat = j + 1 := by omega
                  have r3 : IntKind.i64.wrap ((j : Int) + 1) = (j : Int) + 1 := IntWalk.i64_in _ (by omega)
                  have r5 : IntKind.i64.wrap (32 - (r : Int)) = 32 - (r : Int) := IntWalk.i64_in _ (by omega)
                  have r6 : (0 : Int) ≤ 32 - (r : Int) := by omega
                  have r7 : (32 - (r : Int)).toNat = 32 - r := by omega
                  have r8 : min (32 - r) 32 = 32 - r := by omega
                  go_still_tail 14, (by kernel_rfl)
                  change wpList _ _ _ _ _ wo.drew
                  clear r3 r5 r6 r7 r8 HBI HDG hcellD hcellD2 hc1 hc0
                  generalize wo.drew = wd at *
                  go_wp2_with fail
                  go_roundw
                  case rel => exact ⟨j + 1, by omega, by go_num, HST.out, HB1.out.setCell (p := ⟨w.heap.size, j, none⟩) (Nat.le_refl _) _⟩
                  case measure => simp [intOf]; omega
                · have hlI : ¬ (j : Int) + 1 < (D : Int) := by omega
                  have hst := (HO.out.stored j (.int .u32 ((V / 2 ^ r / 4294967296 ^ j % 4294967296 : Nat) : Int))).1
                  rw [vals_set, mixD_set0 _ _ _ _ (by omega), shr_top V j r (by rw [show j + 1 = D by omega]; exact HVB.out), shr_cast] at hst
                  have HST := Lib.hid hst
                  clear hst
                  generalize V / 4294967296 ^ j % 4294967296 = a at *
                  go_wp2_with fail
                  go_roundw
                  case rel => exact ⟨j + 1, by omega, by go_num, HST.out, HB.out.setCell (p := ⟨w.heap.size, j, none⟩) (Nat.le_refl _) _⟩
                  case measure => simp [intOf]; omega
              · obtain rfl : j = D := by omega
                have hlt : ¬ ((j : Int) < (j : Int)) := by omega
                rw [mixD_all] at HO
                obtain ⟨ol, ol1, ol2, ol3⟩ := own_limbs HO.out (digs_limb _ _)
                have HCUT := Lib.hid (cut_any _ j j _ _ ol1 ol (Nat.le_refl _) (by omega))
                rw [lval_digs _ _ (Nat.lt_of_le_of_lt (Nat.div_le_self _ _) HVB.out), ← HW.out] at HCUT
                clear ol ol1 ol2 ol3
                go_wp2_with fail
                refine HCUT.out.mono ?_
                rintro e w4 ⟨rfl, hcan, hll, rfl⟩
                have HCAN := Lib.hid hcan
                clear hcan
                go_wp2_with fail
                go_ret3
                exact ⟨_, _, by rw [HMM.out] <;> rfl, HCAN.out, Nat.le_refl _, by omega, HB.out⟩
end Go.Proofs.YtgckfilmhnapeaaDoor
