/- Contracts of utf.follow, point, First, Bad. -/
import Derived.Test.YtiignmjglihbnaaDoorRows
import Derived.Test.YtiignmjglihbnaaDoorNum
import Derived.WalkKit
import Derived.WalkLawsBesides
import Derived.WalkSpells
import Derived.ProofKit
import Derived.Outline
import Derived.Lib.Hide
import Derived.Laws.BitsAllLaws
namespace Go.Proofs.YtiignmjglihbnaaDoor
open Go.RowKit

/-- the byte at a place; 256: there is none -/
def bt (s : ByteArray) (i : Nat) : Nat := if h : i < s.size then s[i].toNat else 256
theorem bt_in {s : ByteArray} {i : Nat} (h : i < s.size) : bt s i = s[i].toNat := by unfold bt; rw [dif_pos h]
theorem bt_out {s : ByteArray} {i : Nat} (h : s.size ≤ i) : bt s i = 256 := by unfold bt; rw [dif_neg (by omega)]
theorem bt_lt {s : ByteArray} {i : Nat} (h : i < s.size) : bt s i < 256 := by rw [bt_in h]; exact UInt8.toNat_lt _
theorem bt_le (s : ByteArray) (i : Nat) : bt s i ≤ 256 := by
  by_cases h : i < s.size
  · have := bt_lt h; omega
  · rw [bt_out (by omega)]; omega

/-- a byte that goes on -/
def cont (c : Nat) : Bool := decide (128 ≤ c ∧ c < 192)
theorem and_192 : ∀ c : Nat, c < 256 → ((c &&& 192) != 128) = !cont c := by decide +kernel
theorem and_63 : ∀ c : Nat, c < 256 → cont c = true → c &&& 63 = c - 128 := by decide +kernel
theorem and_224 : ∀ c : Nat, c < 256 → ((c &&& 224) == 192) = decide (192 ≤ c ∧ c < 224) := by decide +kernel
theorem and_240 : ∀ c : Nat, c < 256 → ((c &&& 240) == 224) = decide (224 ≤ c ∧ c < 240) := by decide +kernel
theorem and_248 : ∀ c : Nat, c < 256 → ((c &&& 248) == 240) = decide (240 ≤ c ∧ c < 248) := by decide +kernel
theorem and_31 : ∀ c : Nat, c < 256 → 192 ≤ c → c < 224 → c &&& 31 = c - 192 := by decide +kernel
theorem and_15 : ∀ c : Nat, c < 256 → 224 ≤ c → c < 240 → c &&& 15 = c - 224 := by decide +kernel
theorem and_7 : ∀ c : Nat, c < 256 → 240 ≤ c → c < 248 → c &&& 7 = c - 240 := by decide +kernel

theorem ofInt_i32 (a : Nat) (ha : a < 2147483648) : (BitVec.ofInt 32 (a : Int)).toNat = a := by
  rw [BitVec.ofInt_natCast, BitVec.toNat_ofNat]; exact Nat.mod_eq_of_lt (by omega)
theorem i32_or_nat (a b : Nat) (ha : a < 2147483648) (hb : b < 2147483648) : bits .or .i32 (a : Int) (b : Int) = ((a ||| b : Nat) : Int) := by
  have hx : a ||| b < 2 ^ 31 := Nat.or_lt_two_pow (by omega) (by omega)
  show IntKind.i32.wrap ((BitVec.ofInt 32 (a : Int) ||| BitVec.ofInt 32 (b : Int)).toNat : Int) = _
  rw [BitVec.toNat_or, ofInt_i32 a ha, ofInt_i32 b hb, IntKind.wrap_i32]
  omega
theorem i32_join (a b : Nat) (ha : a < 33554432) (hb : b < 64) : bits .or .i32 (a * 64 : Int) (b : Int) = (a : Int) * 64 + b := by
  have h := i32_or_nat (a * 64) b (by omega) (by omega)
  rw [show ((a * 64 : Nat) : Int) = (a : Int) * 64 from by omega] at h
  rw [h, nat_join 6 (a * 64) b (by omega) (by omega)]
  omega

/-- follow's answer -/
def folN (c : Nat) : Nat := if cont c = true then c - 128 else 0
theorem follow_any (s : ByteArray) (i : Nat) (w : World) :
    Calls Tryd.prog 40 #[.string s, .int .i64 i] w fun e w' => e = .returned (.tuple #[.int .i32 (folN (bt s i)), .bool (cont (bt s i))]) ∧ w = w' := by
  by_cases hi : i < s.size
  · have hc := bt_lt hi
    have e1 : bits .and .u8 ((s[i].toNat : Nat) : Int) 192 = ((bt s i &&& 192 : Nat) : Int) := by rw [← bt_in hi]; exact u8_and_nat _ 192 hc (by omega)
    have e2 : bits .and .u8 ((s[i].toNat : Nat) : Int) 63 = ((bt s i &&& 63 : Nat) : Int) := by rw [← bt_in hi]; exact u8_and_nat _ 63 hc (by omega)
    have e3 : ((((bt s i &&& 192 : Nat) : Int)) != 128) = !cont (bt s i) := by
      rw [← and_192 _ hc, Bool.eq_iff_iff, bne_iff_ne, bne_iff_ne]; omega
    by_cases hk : cont (bt s i) = true
    · have e4 := and_63 _ hc hk
      have H : Hid (folN (bt s i) = bt s i - 128) := Lib.hid (by unfold folN; rw [if_pos hk])
      rw [e4] at e2
      have HK := Lib.hid hk
      rw [hk] at e3
      have e5 : wrap32 ((bt s i - 128 : Nat) : Int) = ((bt s i - 128 : Nat) : Int) := by unfold wrap32; omega
      clear hk e4
      go_enter Tryd.func40, Tryd.ntmps40
      go_wp2_with fail
      go_ret2
      exact ⟨by rw [H.out, HK.out] <;> rfl, rfl⟩
    · have hk' : cont (bt s i) = false := by simpa using hk
      have H : Hid (folN (bt s i) = 0) := Lib.hid (by unfold folN; rw [if_neg hk])
      have HK := Lib.hid hk'
      rw [hk'] at e3
      clear hk hk' e2
      go_enter Tryd.func40, Tryd.ntmps40
      go_wp2_with fail
      go_ret2
      exact ⟨by rw [H.out, HK.out] <;> rfl, rfl⟩
  · have hb := bt_out (show s.size ≤ i by omega)
    rw [hb]
    have hi' : s.size ≤ i := by omega
    go_enter Tryd.func40, Tryd.ntmps40
    go_wp2_with fail
    go_ret2
    exact ⟨rfl, rfl⟩

/-- is it a code point? (of a number that is not below 0) -/
def isPt (r : Nat) : Bool := decide (r ≤ 1114111 ∧ (r < 55296 ∨ 57343 < r))
theorem point_any (r : Nat) (w : World) :
    Calls Tryd.prog 41 #[.int .i32 r] w fun e w' => e = .returned (.bool (isPt r)) ∧ w = w' := by
  have H : Hid (isPt r = (decide ((r : Int) ≤ 1114111) && (decide ((r : Int) < 55296) || decide ((r : Int) > 57343)))) := Lib.hid (by
    unfold isPt; rw [Bool.eq_iff_iff]; simp; omega)
  have h0 : 0 ≤ (r : Int) := by omega
  by_cases h1 : (r : Int) ≤ 1114111
  · have d1 : decide ((r : Int) ≤ 1114111) = true := decide_eq_true h1
    rw [d1] at H
    by_cases h2 : (r : Int) < 55296
    · have d2 : decide ((r : Int) < 55296) = true := decide_eq_true h2
      rw [d2] at H
      go_enter Tryd.func41, Tryd.ntmps41
      go_wp2_with fail
      go_ret
      exact ⟨by rw [H.out] <;> rfl, rfl⟩
    · have d2 : decide ((r : Int) < 55296) = false := decide_eq_false h2
      rw [d2] at H
      have h2' : 55296 ≤ (r : Int) := by omega
      clear h2
      go_enter Tryd.func41, Tryd.ntmps41
      go_wp2_with fail
      go_ret
      exact ⟨by rw [H.out] <;> rfl, rfl⟩
  · have d1 : decide ((r : Int) ≤ 1114111) = false := decide_eq_false h1
    rw [d1] at H
    have h1' : 1114111 < (r : Int) := by omega
    clear h1
    go_enter Tryd.func41, Tryd.ntmps41
    go_wp2_with fail
    go_ret
    exact ⟨by rw [H.out] <;> rfl, rfl⟩
end Go.Proofs.YtiignmjglihbnaaDoor
